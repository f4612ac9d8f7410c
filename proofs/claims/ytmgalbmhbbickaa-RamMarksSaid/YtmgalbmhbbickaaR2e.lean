/- The laws of chapter 2 over the abstract machine. Conditions: what is handed in is plain data. -/
import Derived.Test.YtmgalbmhbbickaaR2d
namespace Go.Proofs.Ytmgalbmhbbickaa.Am
set_option linter.unusedVariables false
set_option linter.unusedSimpArgs false
set_option maxRecDepth 100000

section
variable {m0 m : Mem}
theorem nilR (m : Mem) (c : Nat → AV) : IsR m 1 (.flat (.slice none 0 0)) 0 c := .nil none c
theorem known2 {k : Bool → Mem → Prop} (hk : ∀ m', Keeps m m' → k true m') : F14 m k := by
  unfold F14
  refine new_spec fun r m1 h1 K1 f1 => ?_
  have e1 : clampP 1 = 1 := by decide
  rw [e1] at h1
  have fresh : ∀ m', Keeps m m' → ∀ m2, Fr r.has m' m2 → Keeps m m2 := fun m' K m2 F => F.keeps K f1
  simp only [knilP, kptr, kif]
  have v0 : isU 0 := ⟨by omega, by omega⟩
  refine store_spec h1 (a := 0) (n := 4) (v := 16909060) ⟨by omega, by omega⟩ ⟨by omega, by omega⟩ (fun c => absurd (by decide) c) fun _ m2 h2 F2 => ?_
  have K2 := fresh _ K1 _ F2
  refine load_spec h2 (a := 1) (n := 1) ⟨by omega, by omega⟩ ⟨by omega, by omega⟩ (load_spec h2 (a := 2) (n := 4) ⟨by omega, by omega⟩ ⟨by omega, by omega⟩ ?_)
  refine mark_spec h2 (x := 0) fun m3 h3 F3 => newK_i fun b m4 hb K4 e4 O4 => ?_
  have K3 := fresh _ K2 _ F3
  have h4 := h3.keep K4
  have hv : IsR m4 1 (.sl b 0 1 (.ex 1)) 1 (cB fun _ => 1) := ((IsL.row (esz := 1) e4 rfl rfl).r).congr fun i hi => by
    rw [show i = 0 by omega]; rfl
  refine put_spec h4 (a := 5) (n := 1) ⟨by omega, by omega⟩ hv (fun i _ => ⟨by omega, by omega⟩) (by omega) (fun c => absurd (by decide) c) fun _ m5 h5 F5 => ?_
  have K5 := fresh _ (K3.trans K4) _ F5
  refine written_spec h5 fun v m6 h6 l6 F6 o6 => ?_
  have K6 := fresh _ K5 _ F6
  have x1 : (if evenR 1 1 1 then ldv (fun i => stv (fun _ => 0) 0 4 16909060 ((1 : Int).toNat + i)) (1 : Int).toNat else 0) = 2 := by decide +kernel
  have x2 : decide (evenR 1 1 1) = true := by decide
  have x3 : decide (evenR 1 2 4) = false := by decide
  rw [x1, x2, x3]
  simp only [beq_self_eq_true, Bool.not_false]
  refine put_spec h6 (a := 1024) (n := 0) (f := fun _ => 0) ⟨by omega, by omega⟩ (nilR _ _) (fun i hi => by omega) (by omega) (fun c => absurd (by decide) c) fun _ m7 h7 F7 => ?_
  have K7 := fresh _ K6 _ F7
  have ew : wl (tW (putM (fun _ => false) 1 0 true) (tW (fun _ => false) (fun _ => false) 0 4) 5 (1 : Nat)) 1 = [0] := by decide +kernel
  rw [ew] at l6
  have l7 : IsL m7 1 v 1 (cI [0]) := l6.fr F7 fun b hb hr => h5.live hr (o6 b hb)
  simp only [klen_r l7.r]
  show ksl v fun b36 o37 l38 p39 => kif (decide (0 ≤ (0 : Int)) && decide ((0 : Int) < l38)) (ldI .i64 m7 b36 (o37 + (0 : Int).toNat * 1) fun x40 => kif (x40 == 0) _ _) False
  refine ldI_r (k := fun _ _ x => kif (x == 0) _ _) l7.r (by omega) (by omega) (x := 0) rfl fun _ _ _ => kif_t rfl ?_
  refine written_spec h7 fun v2 m8 h8 l8 F8 o8 => ?_
  have ew2 : wl (tW (putM (fun _ => false) 1 0 true) (fun _ => false) 1024 (0 : Nat)) 1 = [] := by decide +kernel
  rw [ew2] at l8
  rw [klen_r l8.r]
  exact hk m8 (fresh _ K7 _ F8)

/-! ### what is handed in -/
theorem bytes_ty {w : AV} (h : Ty m (.sl [.i .u8]) w) : ∃ (ln : Nat) (f : Nat → Int), IsR m 1 w ln (cB f) ∧ (∀ i, i < ln → 0 ≤ f i ∧ f i < 256) ∧ (ln : Int) < 9223372036854775808 ∧ ∀ b o cap, w = .sl b o ln cap → ln ≤ cap.low ∧ ∀ e z, cap = .ge e z → e = 1 := by
  cases h with
  | nil ls a => exact ⟨0, fun _ => 0, .nil a _, fun i hi => by omega, by omega, fun b o cap e => by cases e⟩
  | sl ls b len cap x h1 h2 h3 h4 h5 h6 =>
    simp only [List.length_singleton, Nat.mul_one] at h5 h6
    have hx : ∀ j, j < cap → ∃ n, x.c j = .flat (.int .u8 n) ∧ 0 ≤ n ∧ n < 256 := fun j hj => by
      have := h6 j hj 0 (.i .u8) rfl
      rw [Nat.add_zero] at this
      generalize x.c j = y at this
      cases this with
      | i k n hn => exact ⟨n, rfl, wf_u8 hn⟩
    have hf : ∀ j, j < cap → x.c j = cB (fun j => match x.c j with | .flat (.int _ n) => n | _ => 0) j ∧ 0 ≤ (match x.c j with | .flat (.int _ n) => n | _ => 0) ∧ (match x.c j with | .flat (.int _ n) => n | _ => 0) < 256 := fun j hj => by
      obtain ⟨n, e, e0, e1⟩ := hx j hj
      unfold cB
      dsimp only
      rw [e]; exact ⟨rfl, e0, e1⟩
    refine ⟨len, _, .sl b 0 len (.ex cap) x _ h4 (by omega) (fun i hi => by rw [Nat.zero_add]; exact (hf i (by omega)).1), fun i hi => (hf i (by omega)).2, by unfold maxLen at h3; omega, fun b' o' cap' e => ?_⟩
    cases e
    exact ⟨h1, fun e z hh => by cases hh⟩
def shAsk : List Lf := [.i .i64, .i .i64, .i .i64, .i .u32, .i .u32, .sl [.i .u8]]
theorem ty_i {k : IntKind} {v : AV} (h : Ty m (.i k) v) : ∃ n, v = .flat (.int k n) ∧ (Lit.int k n).wf = true := by
  cases h with
  | i k n hn => exact ⟨n, rfl, hn⟩
theorem ask_ty {c : Nat → AV} (h : TyAll m shAsk c) : ∃ q, AskC c q ∧ AskT m q := by
  obtain ⟨a0, e0, w0⟩ := ty_i (h 0 _ rfl)
  obtain ⟨a1, e1, w1⟩ := ty_i (h 1 _ rfl)
  obtain ⟨a2, e2, w2⟩ := ty_i (h 2 _ rfl)
  obtain ⟨a3, e3, w3⟩ := ty_i (h 3 _ rfl)
  obtain ⟨a4, e4, w4⟩ := ty_i (h 4 _ rfl)
  obtain ⟨ln, f, h1, h2, h3, h4⟩ := bytes_ty (h 5 _ rfl)
  exact ⟨⟨a0, a1, a2, a3, a4, c 5, ln, f⟩, ⟨e0, e1, e2, e3, e4, rfl⟩, ⟨wf_i64 w0, wf_i64 w1, wf_i64 w2, wf_u32 w3, wf_u32 w4, h1, h2, h3, h4⟩⟩
theorem asks_ty {v : AV} (h : Ty m (.sl shAsk) v) : ∃ n, AsksOk m v n := by
  cases h with
  | nil ls a => exact ⟨0, fun _ => .junk, .nil a _, fun i hi => by omega⟩
  | sl ls b len cap x h1 h2 h3 h4 h5 h6 =>
    have h5 : x.n = cap * 6 := h5
    refine ⟨len, x.c, .sl b 0 len (.ex cap) x _ h4 ?_ (fun i hi => by rw [Nat.zero_add]), fun i hi => ask_ty fun j l hj => h6 i (by omega) j l hj⟩
    have : len * 6 ≤ cap * 6 := Nat.mul_le_mul_right _ h1
    omega
theorem AsksOk.keep {m' : Mem} {v : AV} {n : Nat} (h : AsksOk m v n) (K : Keeps m m') : AsksOk m' v n := by
  obtain ⟨c, h1, h2⟩ := h
  exact ⟨c, h1.keep K, fun i hi => by obtain ⟨q, a, b⟩ := h2 i hi; exact ⟨q, a, b.keep K⟩⟩
theorem RamPlays {x : Int} {l : AV} (hx : (Lit.int .i64 x).wf = true) (hl : Ty m (.sl shAsk) l) : F6 x l m isTrue := by
  obtain ⟨n, ha⟩ := asks_ty hl
  unfold F6
  refine within_r (by omega) (by omega) (by omega) (wf_i64 hx) fun v v0 v1 => play_spec ha fun m1 K1 => kif_t rfl ?_
  refine within_r (by omega) (by omega) (by omega) (wf_i64 hx) fun u u0 u1 => play_spec (ha.keep K1) fun m2 K2 => kif_t rfl (known2 fun m3 _ => rfl)

/-! ### the closed sentence -/
structure GrSt (m0 m : Mem) (v : AV) (i : Nat) (c : Nat → AV) : Prop where
  l : IsL m 6 v i c
  q : ∀ j, j < i → ∃ q, AskC (fun t => c (j * 6 + t)) q ∧ AskT m q ∧ (∀ b, own v b → ¬ own q.w b)
theorem grow_loop {k0 : AV → Mem → Prop} (hk : ∀ v m', AsksOk m' v 78 → k0 v m') : ∀ (j i : Nat) (v : AV) (m : Mem) (c : Nat → AV), i + j = 78 → GrSt m0 m v i c → L5_3 (j + 1) v i m k0
  | 0, i, v, m, c, e, S => by
    show R5_3 _ _ _ _ _
    unfold R5_3
    have e : i = 78 := by omega
    subst e
    exact kif_f (by simp) (hk v m ⟨c, S.l.r, fun i hi => by obtain ⟨q, a, b, _⟩ := S.q i hi; exact ⟨q, a, b⟩⟩)
  | j + 1, i, v, m, c, e, S => by
    show R5_3 _ _ _ _ _
    unfold R5_3
    rw [tmod_nn (a := (i : Int)) (by omega), tmod_nn (a := (i : Int)) (by omega), tmod_nn (a := (i : Int)) (by omega), wrap64 (n := (i : Int) + 1) (by omega) (by omega)]
    refine kif_t (by simp; omega) (mkS_i (by omega) (by omega) (by omega) fun b m1 hb K1 e1 O1 => newK_i fun b4 m2 hb4 K2 e2 O2 => ?_)
    have K12 := K1.trans K2
    have nb : b ≠ b4 := fun e => by subst e; rw [hb4] at e1; cases e1
    have e1' : m2.obj b = _ := (K2 b (by rw [e1]; simp)).trans e1
    refine appL (S.l.keep K12) (IsL.row (esz := 6) e2 rfl rfl).r (by omega) fun v' m3 g1 g2 g3 => ?_
    have fw : ∀ b', own v b' → m.obj b' ≠ none := fun b' h => S.l.live h
    have hown : ∀ b', own v' b' → b' ≠ b := fun b' h e => by
      subst e
      rcases g3 _ h with h1 | h1
      · exact fw _ h1 hb
      · rw [e1'] at h1; cases h1
    refine grow_loop hk j (i + 1) v' m3 _ (by omega) ⟨g1, fun t ht => ?_⟩
    by_cases c1 : t < i
    · obtain ⟨q, a, tq, ow⟩ := S.q t c1
      have lv : ∀ b', own q.w b' → m.obj b' ≠ none := fun b' h => tq.w.live h
      refine ⟨q, ?_, ?_, fun b' h1 h2 => ?_⟩
      · obtain ⟨a0, a1, a2, a3, a4, a5⟩ := a
        have eq : ∀ z, z < 6 → ∀ d, cat 6 i c d (t * 6 + z) = c (t * 6 + z) := fun z hz d => by unfold cat; rw [if_pos (by omega)]
        exact ⟨(eq 0 (by omega) _).trans a0, (eq 1 (by omega) _).trans a1, (eq 2 (by omega) _).trans a2, (eq 3 (by omega) _).trans a3, (eq 4 (by omega) _).trans a4, (eq 5 (by omega) _).trans a5⟩
      · have t2 := tq.keep K12
        exact ⟨t2.kd, t2.n, t2.pg, t2.a, t2.v, t2.w.fr g2 fun b' h1 h2 => ow b' h2 h1, t2.f, t2.ln, t2.cap⟩
      · rcases g3 _ h1 with h3 | h3
        · exact ow b' h3 h2
        · exact lv b' h2 (newK_none K12 h3)
    · have et : t = i := by omega
      subst et
      have i5 : isI ((t : Int) % 9) ∧ isI ((t : Int) % 6) ∧ isI (IntKind.wrap .i64 ((t : Int) % 5 - 1)) := by
        refine ⟨by unfold isI; omega, by unfold isI; omega, ?_⟩
        rw [wrap64 (by omega) (by omega)]; unfold isI; omega
      have u : ∀ n, isU (IntKind.wrap .u32 n) := fun n => wrap32_rng n
      refine ⟨⟨(t : Int) % 9, (t : Int) % 6, IntKind.wrap .i64 ((t : Int) % 5 - 1), IntKind.wrap .u32 ((IntKind.wrap .i64 ((t : Int) * 37)).tmod 2060), IntKind.wrap .u32 ((IntKind.wrap .u32 (t : Int)) * 16909060), .sl b 0 ((t : Int) % 9).toNat (.ex ((t : Int) % 9).toNat), ((t : Int) % 9).toNat, fun _ => 0⟩, ?_, ⟨i5.1, i5.2.1, i5.2.2, u _, u _, ?_, fun i _ => ⟨(by omega : (0 : Int) ≤ 0), (by omega : (0 : Int) < 256)⟩, (by omega : ((((t : Int) % 9).toNat : Nat) : Int) < 9223372036854775808), fun b' o' cap' e => ?_⟩, fun b' h1 h2 => hown b' h1 h2.symm⟩
      · have eq : ∀ z, z < 6 → ∀ d, cat 6 t c d (t * 6 + z) = d z := fun z hz d => by unfold cat; rw [if_neg (by omega), show t * 6 + z - t * 6 = z by omega]
        refine ⟨(eq 0 (by omega) _).trans rfl, (eq 1 (by omega) _).trans rfl, (eq 2 (by omega) _).trans rfl, (eq 3 (by omega) _).trans rfl, (eq 4 (by omega) _).trans rfl, (eq 5 (by omega) _).trans rfl⟩
      · have : IsR m2 1 (.sl b 0 ((t : Int) % 9).toNat (.ex ((t : Int) % 9).toNat)) ((t : Int) % 9).toNat (cB fun _ => 0) := ((IsL.row (esz := 1) e1' (by simp) rfl).r).congr fun i hi => by simp [reprow1f, cB]
        exact this.fr g2 fun b' h1 h2 => by cases h1; exact fw _ h2 hb
      · cases e; exact ⟨Nat.le_refl _, fun e z h => by cases h⟩
theorem nums_loop {l : AV} {n : Nat} {k2 : Mem → Prop} {kr : Bool → Mem → Prop} (hk : ∀ m', k2 m') : ∀ (j : Nat) (i : Int) (m : Mem), -1 ≤ i → i + j = 4 → AsksOk m l n → L5_7 l (j + 1) i m k2 kr
  | 0, i, m, h1, e, ha => by
    show R5_7 _ _ _ _ _ _
    unfold R5_7
    exact kif_f (by simp; omega) (hk m)
  | j + 1, i, m, h1, e, ha => by
    show R5_7 _ _ _ _ _ _
    unfold R5_7
    rw [wrap64 (n := i + 1) (by omega) (by omega)]
    exact kif_t (by simp; omega) (play_spec ha fun m1 K1 => kif_f rfl (play_spec (ha.keep K1) fun m2 K2 => kif_f rfl (nums_loop hk j (i + 1) m2 (by omega) (by omega) ((ha.keep K1).keep K2))))
theorem RamNumbers : F5 m isTrue := by
  unfold F5
  refine ⟨79, grow_loop (m0 := m) (fun v m1 ha => ⟨6, nums_loop (fun m2 => ?_) 5 (-1) m1 (by omega) (by omega) ha⟩) 78 0 _ m (fun _ => .junk) (by omega) ⟨.nil none _, fun j hj => by omega⟩⟩
  refine new_spec fun r m3 h3 K3 f3 => ?_
  have e1 : clampP 1000 = 64 := by decide
  rw [e1] at h3
  simp only [knilP, kptr]
  exact kif_t rfl (size_spec h3 (kif_t (by decide) (known2 fun m3 _ => rfl)))
end
end Go.Proofs.Ytmgalbmhbbickaa.Am
