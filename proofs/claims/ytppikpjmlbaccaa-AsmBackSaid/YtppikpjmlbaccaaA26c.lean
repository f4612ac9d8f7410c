/- The laws of chapter 26 over the abstract machine. Conditions: what is handed in is plain data. -/
import Derived.Test.YtppikpjmlbaccaaA26b
namespace Go.Proofs.Ytppikpjmlbaccaa.Am
set_option linter.unusedVariables false
set_option linter.unusedSimpArgs false
set_option maxRecDepth 100000

section
variable {m0 m : Mem}
/-! ### lists of one's own -/
structure OwnI (m0 m : Mem) (v : AV) (n : Nat) (X : Nat → In) : Prop where
  c : ∃ c : Nat → AV, IsL m 6 v n c ∧ ∀ i, i < n → InC (fun j => c (i * 6 + j)) (X i)
  ok : ∀ i, i < n → OK (X i)
  K : Keeps m0 m
  o : ∀ b, own v b → m0.obj b = none
theorem OwnI.isI {v : AV} {n : Nat} {X : Nat → In} (h : OwnI m0 m v n X) : IsI m v n X := by
  obtain ⟨c, h1, h2⟩ := h.c
  exact ⟨⟨c, h1.s, h2⟩, fun i hi => (h.ok i hi).i0⟩
theorem OwnI.okI {v : AV} {n : Nat} {X : Nat → In} (h : OwnI m0 m v n X) : okI X n := fun i hi => by
  have : rightS (X i) = true := (right_iff _ (h.ok i hi).i0).2 (h.ok i hi)
  unfold wordS; rw [if_pos this]
theorem in_cat {i : Nat} {c d : Nat → AV} {X : Nat → In} {n : Nat} {Y : Nat → In} (hc : ∀ t, t < i → InC (fun j => c (t * 6 + j)) (X t)) (hd : ∀ t, t < n → InC (fun j => d (t * 6 + j)) (Y t)) : ∀ t, t < i + n → InC (fun j => cat 6 i c d (t * 6 + j)) (if t < i then X t else Y (t - i)) := by
  intro t ht
  by_cases c1 : t < i
  · rw [if_pos c1]
    have e : ∀ j, j < 6 → cat 6 i c d (t * 6 + j) = c (t * 6 + j) := fun j hj => by unfold cat; rw [if_pos (by omega)]
    obtain ⟨a0, a1, a2, a3, a4, a5⟩ := hc t c1
    exact ⟨(e 0 (by omega)).trans a0, (e 1 (by omega)).trans a1, (e 2 (by omega)).trans a2, (e 3 (by omega)).trans a3, (e 4 (by omega)).trans a4, (e 5 (by omega)).trans a5⟩
  · rw [if_neg c1]
    have e : ∀ j, j < 6 → cat 6 i c d (t * 6 + j) = d ((t - i) * 6 + j) := fun j hj => by unfold cat; rw [if_neg (by omega), show t * 6 + j - i * 6 = (t - i) * 6 + j by omega]
    obtain ⟨a0, a1, a2, a3, a4, a5⟩ := hd (t - i) (by omega)
    exact ⟨(e 0 (by omega)).trans a0, (e 1 (by omega)).trans a1, (e 2 (by omega)).trans a2, (e 3 (by omega)).trans a3, (e 4 (by omega)).trans a4, (e 5 (by omega)).trans a5⟩
theorem own_app {v : AV} {i : Nat} {X : Nat → In} (S : OwnI m0 m v i X) (hi : i ≤ 1000) {c : Nat → AV} {y : In} (hc : InC c y) (hy : OK y) {t e : TypeId} {bytes : Nat} (hb : bytes ≤ 1000) {k : KV} (hk : ∀ v' m' X', OwnI m0 m' v' (i + 1) X' → k v' m') :
    newK m ⟨6, splice (Z6) 0 6 c, t, false⟩ fun b10 m9 => appS 6 bytes e v (.sl b10 0 1 (.ex 1)) m9 k := by
  obtain ⟨c0, h1, h2⟩ := S.c
  refine newK_i fun b m1 hb1 K1 e1 O1 => appL (h1.keep K1) (IsL.row (esz := 6) e1 rfl rfl).r (by
    have : (i + 1) * (bytes + 1) ≤ 1001 * 1001 := Nat.mul_le_mul (by omega) (by omega)
    omega) fun v' m2 g1 g2 g3 => hk v' m2 (fun t => if t < i then X t else y) ⟨⟨_, g1, in_cat (n := 1) (Y := fun _ => y) h2 fun t ht => ?_⟩, fun t ht => ?_, g2.keeps (S.K.trans K1) S.o, fun b' hb' => ?_⟩
  · rw [show t = 0 by omega]
    have := splice_in (c := Z6) hc
    simpa [InC] using this
  · split
    · rename_i c1; exact S.ok t c1
    · exact hy
  · rcases g3 b' hb' with h | h
    · exact S.o b' h
    · exact newK_none (S.K.trans K1) h
/-! ### what is handed in -/
def IsD (m : Mem) (v : AV) (n : Nat) : Prop := ∃ c : Nat → AV, IsR m 7 v n c ∧ ∀ i, i < n → ∃ x raw, IC (fun j => c (i * 7 + j)) x raw ∧ ITy x raw
theorem drawn_ty {v : AV} (h : Ty m (.sl shI) v) : ∃ n, IsD m v n := by
  cases h with
  | nil ls a => exact ⟨0, fun _ => .junk, .nil a _, fun i hi => by omega⟩
  | sl ls b len cap x h1 h2 h3 h4 h5 h6 =>
    have h5 : x.n = cap * 7 := h5
    refine ⟨len, x.c, .sl b 0 len (.ex cap) x _ h4 ?_ (fun i hi => by rw [Nat.zero_add]), fun i hi => ic_of fun j l hj => h6 i (by omega) j l hj⟩
    have : len * 7 ≤ cap * 7 := Nat.mul_le_mul_right _ h1
    omega
theorem ty_i {k : IntKind} {v : AV} (h : Ty m (.i k) v) : ∃ n, v = .flat (.int k n) ∧ (Lit.int k n).wf = true := by
  cases h with
  | i k n hn => exact ⟨n, rfl, hn⟩
def shIn : List Lf := [.i .i64, .i .i64, .i .i64, .i .i64, .i .i64, .i .u32]
theorem in_ty {c : Nat → AV} (h : TyAll m shIn c) : ∃ x, InC c x ∧ 0 ≤ x.i := by
  obtain ⟨k, e0, w0⟩ := ty_i (h 0 _ rfl)
  obtain ⟨s, e1, w1⟩ := ty_i (h 1 _ rfl)
  obtain ⟨t, e2, w2⟩ := ty_i (h 2 _ rfl)
  obtain ⟨d, e3, w3⟩ := ty_i (h 3 _ rfl)
  obtain ⟨hh, e4, w4⟩ := ty_i (h 4 _ rfl)
  obtain ⟨i, e5, w5⟩ := ty_i (h 5 _ rfl)
  exact ⟨⟨k, s, t, d, hh, i⟩, ⟨e0, e1, e2, e3, e4, e5⟩, (wf_u32 w5).1⟩
theorem ins_ty {v : AV} (h : Ty m (.sl shIn) v) : ∃ n X, IsI m v n X := by
  cases h with
  | nil ls a => exact ⟨0, fun _ => ⟨0, 0, 0, 0, 0, 0⟩, ⟨fun _ => .junk, ⟨.nil a _, fun b o cap e => by cases e⟩, fun i hi => by omega⟩, fun i hi => by omega⟩
  | sl ls b len cap x h1 h2 h3 h4 h5 h6 =>
    have h5 : x.n = cap * 6 := h5
    have hx : ∀ i, i < cap → ∃ y, InC (fun j => x.c (i * 6 + j)) y ∧ 0 ≤ y.i := fun i hi => in_ty fun j l hj => h6 i hi j l hj
    have hx' : ∀ i, ∃ y, i < cap → InC (fun j => x.c (i * 6 + j)) y ∧ 0 ≤ y.i := fun i => by
      by_cases c : i < cap
      · obtain ⟨y, hy⟩ := hx i c; exact ⟨y, fun _ => hy⟩
      · exact ⟨⟨0, 0, 0, 0, 0, 0⟩, fun h => absurd h c⟩
    have hm : len * 6 ≤ cap * 6 := Nat.mul_le_mul_right _ h1
    refine ⟨len, fun i => (hx' i).choose, ⟨x.c, ⟨.sl b 0 len (.ex cap) x _ h4 (by omega) (fun i hi => by rw [Nat.zero_add]), fun b' o' cap' e => by cases e; exact ⟨h1, fun e z hh => by cases hh⟩⟩, fun i hi => ((hx' i).choose_spec (by omega)).1⟩, fun i hi => ((hx' i).choose_spec (by omega)).2⟩
theorem bytes_ty {w : AV} (h : Ty m (.sl [.i .u8]) w) : ∃ (ln : Nat) (f : Nat → Int), IsS m 1 w ln (cK .u8 f) ∧ (∀ i, i < ln → 0 ≤ f i ∧ f i < 256) ∧ (ln : Int) < 9223372036854775808 := by
  cases h with
  | nil ls a => exact ⟨0, fun _ => 0, ⟨.nil a _, fun b o cap e => by cases e⟩, fun i hi => by omega, by omega⟩
  | sl ls b len cap x h1 h2 h3 h4 h5 h6 =>
    simp only [List.length_singleton, Nat.mul_one] at h5 h6
    have hx : ∀ j, j < cap → ∃ n, x.c j = .flat (.int .u8 n) ∧ 0 ≤ n ∧ n < 256 := fun j hj => by
      have := h6 j hj 0 (.i .u8) rfl
      rw [Nat.add_zero] at this
      obtain ⟨n, e, hn⟩ := ty_i this
      exact ⟨n, e, wf_u8 hn⟩
    have hf : ∀ j, j < cap → x.c j = cK .u8 (fun j => match x.c j with | .flat (.int _ n) => n | _ => 0) j ∧ 0 ≤ (match x.c j with | .flat (.int _ n) => n | _ => 0) ∧ (match x.c j with | .flat (.int _ n) => n | _ => 0) < 256 := fun j hj => by
      obtain ⟨n, e, e0, e1⟩ := hx j hj
      unfold cK
      dsimp only
      rw [e]; exact ⟨rfl, e0, e1⟩
    refine ⟨len, _, ⟨.sl b 0 len (.ex cap) x _ h4 (by omega) (fun i hi => by rw [Nat.zero_add]; exact (hf i (by omega)).1), fun b' o' cap' e => ?_⟩, fun i hi => (hf i (by omega)).2, by unfold maxLen at h3; omega⟩
    cases e
    exact ⟨h1, fun e z hh => by cases hh⟩
theorem draw_loop4 {v v1 v4 : AV} {x2 x3 : Int} {n : Nat} (hv : IsD m0 v n) {k0 : AV → Mem → Prop} (hk : ∀ w m' X, OwnI m0 m' w (min n 30) X → k0 w m') : ∀ (j i : Nat) (w : AV) (m : Mem) (X : Nat → In), i + j = min n 30 → OwnI m0 m w i X → L4_3 v v1 x2 x3 v4 (j + 1) w i m k0
  | 0, i, w, m, X, e, S => by
    obtain ⟨c, h1, h2⟩ := hv
    show R4_3 _ _ _ _ _ _ _ _ _ _
    unfold R4_3
    rw [klen_r h1]
    have := hk w m X (by rw [← e]; exact S)
    refine kif_c _ (fun c1 => kif_f ?_ this) fun _ => this
    have c1 : (i : Int) < n := by simpa using c1
    simp; omega
  | j + 1, i, w, m, X, e, S => by
    have hv' := hv
    obtain ⟨c, h1, h2⟩ := hv
    obtain ⟨x, raw, hx, ht⟩ := h2 i (by omega)
    show R4_3 _ _ _ _ _ _ _ _ _ _
    unfold R4_3
    rw [klen_r h1, wrap64 (n := (i : Int) + 1) (by omega) (by omega)]
    refine kif_t (by simp; omega) (kif_t (by simp; omega) (ldG_r (h1.keep S.K) (by omega) (by omega) fun d hd => ?_))
    have hdc : IC d x raw := by
      simp only [Int.toNat_natCast] at hd
      obtain ⟨a0, a1, a2, a3, a4, a5, a6⟩ := hx
      exact ⟨(hd 0 (by omega)).trans a0, (hd 1 (by omega)).trans a1, (hd 2 (by omega)).trans a2, (hd 3 (by omega)).trans a3, (hd 4 (by omega)).trans a4, (hd 5 (by omega)).trans a5, (hd 6 (by omega)).trans a6⟩
    exact any_spec hdc ht fun c7 y hc7 hy => own_app S (by omega) hc7 hy (by omega) fun w' m' X' S' => draw_loop4 hv' hk j (i + 1) w' m' X' (by omega) S'
theorem draw_loop5 {v : AV} {x1 : Int} {n : Nat} (hv : IsD m0 v n) {k0 : AV → Mem → Prop} (hk : ∀ w m' X, OwnI m0 m' w (min n 40) X → k0 w m') : ∀ (j i : Nat) (w : AV) (m : Mem) (X : Nat → In), i + j = min n 40 → OwnI m0 m w i X → L5_3 v x1 (j + 1) w i m k0
  | 0, i, w, m, X, e, S => by
    obtain ⟨c, h1, h2⟩ := hv
    show R5_3 _ _ _ _ _ _ _
    unfold R5_3
    rw [klen_r h1]
    have := hk w m X (by rw [← e]; exact S)
    refine kif_c _ (fun c1 => kif_f ?_ this) fun _ => this
    have c1 : (i : Int) < n := by simpa using c1
    simp; omega
  | j + 1, i, w, m, X, e, S => by
    have hv' := hv
    obtain ⟨c, h1, h2⟩ := hv
    obtain ⟨x, raw, hx, ht⟩ := h2 i (by omega)
    show R5_3 _ _ _ _ _ _ _
    unfold R5_3
    rw [klen_r h1, wrap64 (n := (i : Int) + 1) (by omega) (by omega)]
    refine kif_t (by simp; omega) (kif_t (by simp; omega) (ldG_r (h1.keep S.K) (by omega) (by omega) fun d hd => ?_))
    have hdc : IC d x raw := by
      simp only [Int.toNat_natCast] at hd
      obtain ⟨a0, a1, a2, a3, a4, a5, a6⟩ := hx
      exact ⟨(hd 0 (by omega)).trans a0, (hd 1 (by omega)).trans a1, (hd 2 (by omega)).trans a2, (hd 3 (by omega)).trans a3, (hd 4 (by omega)).trans a4, (hd 5 (by omega)).trans a5, (hd 6 (by omega)).trans a6⟩
    exact any_spec hdc ht fun c7 y hc7 hy => own_app S (by omega) hc7 hy (by omega) fun w' m' X' S' => draw_loop5 hv' hk j (i + 1) w' m' X' (by omega) S'
theorem OwnI.nil : OwnI m m (.flat (.slice none 0 0)) 0 (fun _ => ⟨0, 0, 0, 0, 0, 0⟩) := ⟨⟨fun _ => .junk, .nil none _, fun i hi => by omega⟩, fun i hi => by omega, Keeps.self m, fun b e => e.elim⟩

/-! ### AsmTells -/
theorem within_13 {n : Int} (hn : isI n) {k : Int → Mem → Prop} (hk : ∀ v, 1 ≤ v → v ≤ 3 → k v m) : F13 n 1 3 m k := by
  obtain ⟨n0, n1⟩ := hn
  unfold F13
  have key : P13_3102 n 1 3 m (fun x1 m2 => (Keeps m m2 ∧ k x1 m)) := by
    unfold P13_3102
    rw [wrap64 (n := 3 - 1) (by omega) (by omega), wrap64 (n := 3 - 1 + 1) (by omega) (by omega)]
    have ht : -3 < n.tmod (3 - 1 + 1) ∧ n.tmod (3 - 1 + 1) < 3 := by
      by_cases c : 0 ≤ n
      · rw [tmod_nn c]; omega
      · have e : n.tmod (3 - 1 + 1) = -((-n).tmod (3 - 1 + 1)) := by rw [Int.neg_tmod]; omega
        rw [e, tmod_nn (by omega)]; omega
    generalize n.tmod (3 - 1 + 1) = r at ht
    refine kif_f (by decide) (kif_c _ (fun c => ?_) fun c => ?_)
    · have c : r < 0 := by simpa using c
      rw [wrap64 (n := r + 3) (by omega) (by omega), wrap64 (n := r + 3 - 1) (by omega) (by omega), wrap64 (n := r + 3 - 1 + 1) (by omega) (by omega), wrap64 (by omega) (by omega)]
      exact ⟨Keeps.self m, hk _ (by omega) (by omega)⟩
    · have c : ¬ r < 0 := by simpa using c
      rw [wrap64 (by omega) (by omega)]
      exact ⟨Keeps.self m, hk _ (by omega) (by omega)⟩
  refine kif_c _ (fun c => kif_c _ (fun c1 => ⟨Keeps.self m, hk _ (by simpa using c) (by simpa using c1)⟩) fun _ => key) fun _ => key
theorem tells_1 {v1 v4 v11 : AV} {x2 x3 : Int} {n n1 ln : Nat} {X Y : Nat → In} {f : Nat → Int} (hX : IsI m v11 n X) (hn : n ≤ 30) (hY : IsI m v1 n1 Y) (hn1 : n1 ≤ 5) (h2 : isI x2) (a0 : 0 ≤ x3) (a1 : x3 < 4294967296) (h4 : IsS m 1 v4 ln (cK .u8 f)) (hf : ∀ i, i < ln → 0 ≤ f i ∧ f i < 256) (hln : ln ≤ 100) {kr : Bool → Mem → Prop} (hk : ∀ m', kr true m') :
    P4_10102 v1 x2 x3 v4 v11 m kr := by
  unfold P4_10102
  refine bytes_law (by omega) hX fun m1 K1 => kif_t rfl (bytes_law (by omega) (hY.keep K1) fun m2 K2 => kif_t rfl ?_)
  have K12 := K1.trans K2
  refine newK_i fun b m3 hb K3 e3 O3 => ?_
  have K13 := K12.trans K3
  obtain ⟨c, hc, hcX⟩ := (hX.keep K13).c
  obtain ⟨d, hd, hdY⟩ := (hY.keep K13).c
  have fresh : ∀ b', own (.sl b 0 0 (.ex 0)) b' → m.obj b' = none := fun b' e => by cases e; exact newK_none K12 hb
  refine appL (IsL.row (esz := 6) e3 rfl rfl) hc.r (by omega) fun v26 m4 g1 F1 o1 => ?_
  have K4 := F1.keeps K13 fresh
  have g1 : IsL m4 6 v26 n c := by
    rw [Nat.zero_add] at g1
    exact g1.congr fun i hi => by unfold cat; rw [if_neg (by omega)]; simp
  have fresh2 : ∀ b', own v26 b' → m.obj b' = none := fun b' e => by
    rcases o1 b' e with h | h
    · exact fresh b' h
    · exact newK_none K13 h
  refine appL g1 (hd.r.fr F1 fun b' h1 h2 => ?_) (by omega) fun v28 m5 g2 F2 o2 => ?_
  · exact absurd (fresh b' h2) (hY.c.choose_spec.1.r.live h1)
  · have K5 := F2.keeps K4 fresh2
    have hZ : IsI m5 v28 (n + n1) (fun t => if t < n then X t else Y (t - n)) := ⟨⟨_, g2.s, in_cat hcX hdY⟩, fun i hi => by
      split
      · rename_i c1; exact hX.p i c1
      · exact hY.p _ (by omega)⟩
    refine bytes_law (by omega) hZ fun m6 K6 => kif_t rfl (within_13 h2 fun p p0 p1 => ?_)
    have K56 := K5.trans K6
    rw [tmod_nn a0]
    refine image_law ⟨by omega, by omega⟩ (by omega) (by omega) (h4.r.keep K56) hf (by omega) fun m7 K7 => kif_t rfl ?_
    have h70 : isI (x2.tmod 70) := by
      have b1 : -70 < x2.tmod 70 ∧ x2.tmod 70 < 70 := by
        by_cases c : 0 ≤ x2
        · rw [tmod_nn c]; omega
        · have e : x2.tmod 70 = -((-x2).tmod 70) := by rw [Int.neg_tmod]; omega
          rw [e, tmod_nn (by omega)]; omega
      exact ⟨by omega, by omega⟩
    exact image_law h70 a0 a1 (h4.r.keep (K56.trans K7)) hf (by omega) fun m8 K8 => kif_t rfl (known26 fun m9 _ => hk m9)
theorem IsI.cut {v : AV} {n : Nat} {X : Nat → In} (h : IsI m v n X) (q : Nat) (hq : q ≤ n) {k : AV → Prop} (hk : ∀ v', IsI m v' q X → k v') : slS 6 v none (some q) k := by
  obtain ⟨c, h1, h2⟩ := h.c
  exact slS_s h1 (l := 0) (u := q) rfl rfl (by omega) hq fun v' hv' _ => hk v' ⟨⟨_, hv', fun i hi => by
    have := h2 i (by omega)
    simpa [InC] using this⟩, fun i hi => h.p i (by omega)⟩
theorem AsmTells {v0 v1 v4 : AV} {x2 x3 : Int} (h0 : Ty m (.sl shI) v0) (h1 : Ty m (.sl shIn) v1) (h2 : (Lit.int .i64 x2).wf = true) (h3 : (Lit.int .u32 x3).wf = true) (h4 : Ty m (.sl [.i .u8]) v4) : F4 v0 v1 x2 x3 v4 m isTrue := by
  obtain ⟨n, hD⟩ := drawn_ty h0
  obtain ⟨n1, Y, hY⟩ := ins_ty h1
  obtain ⟨ln, f, hb, hf, hln⟩ := bytes_ty h4
  obtain ⟨a0, a1⟩ := wf_u32 h3
  unfold F4
  refine ⟨min n 30 + 1, draw_loop4 hD (fun w m1 X S => ?_) (min n 30) 0 _ m _ (by omega) OwnI.nil⟩
  have K1 := S.K
  have hY1 := hY.keep K1
  have hb1 := hb.keep K1
  have rest : ∀ v1' q, q ≤ 5 → IsI m1 v1' q Y → P4_8103 v1' x2 x3 v4 w m1 (fun x44 m45 => isTrue x44 m45) := fun v1' q hq hY' => by
    unfold P4_8103
    rw [klen_r hb1.r]
    refine kif_c _ (fun c => ?_) fun c => ?_
    · have c : (ln : Int) > 100 := by simpa using c
      refine slS_s hb1 (l := 0) (u := 100) rfl rfl (by omega) (by omega) fun v' hv' _ => ?_
      exact tells_1 S.isI (by omega) hY' hq (wf_i64 h2) a0 a1 (hv'.congr (d := cK .u8 f) fun i hi => by simp) (fun i hi => hf i (by omega)) (by omega) fun _ => rfl
    · have c : ¬ (ln : Int) > 100 := by simpa using c
      exact tells_1 S.isI (by omega) hY' hq (wf_i64 h2) a0 a1 hb1 hf (by omega) fun _ => rfl
  rw [hY1.len]
  refine kif_c _ (fun c => ?_) fun c => ?_
  · have c : (n1 : Int) > 5 := by simpa using c
    exact hY1.cut 5 (by omega) fun v' hv' => rest v' 5 (by omega) hv'
  · have c : ¬ (n1 : Int) > 5 := by simpa using c
    exact rest v1 n1 (by omega) hY1

/-! ### AsmBack -/
theorem same_loop {a b : AV} {n : Nat} {f : Nat → Int} (ha : IsR m 1 a n (cK .u32 f)) (hb : IsR m 1 b n (cK .u32 f)) (hl : (n : Int) < 9223372036854775807) {k0 : Mem → Prop} {kr : Bool → Mem → Prop} (hk : k0 m) : ∀ j i : Nat, i + j = n → L16_4 a b (j + 1) i m k0 kr
  | 0, i, e => by
    show R16_4 _ _ _ _ _ _ _
    unfold R16_4
    rw [klen_r ha]
    exact kif_f (by simp; omega) hk
  | j + 1, i, e => by
    show R16_4 _ _ _ _ _ _ _
    unfold R16_4
    rw [klen_r ha, wrap64 (by omega) (by omega)]
    refine kif_t (by simp; omega) (ldK_r (k := fun _ _ x => ksl _ _) ha i (by omega) fun _ _ _ => ldK_r (k := fun _ _ x => kif _ _ _) hb i (by omega) fun _ _ _ => kif_f (by simp) ?_)
    exact same_loop ha hb hl hk j (i + 1) (by omega)
theorem same_spec {a b : AV} {n : Nat} {f : Nat → Int} (ha : IsR m 1 a n (cK .u32 f)) (hb : IsR m 1 b n (cK .u32 f)) (hl : (n : Int) < 9223372036854775807) {k : Bool → Mem → Prop} (hk : k true m) : F16 a b m k := by
  unfold F16
  rw [klen_r ha, klen_r hb]
  exact kif_f (by simp) ⟨n + 1, same_loop ha hb hl ⟨Keeps.self m, hk⟩ n 0 (by omega)⟩
theorem AsmBack {v0 : AV} {x1 : Int} (h0 : Ty m (.sl shI) v0) (h1 : (Lit.int .u32 x1).wf = true) : F5 v0 x1 m isTrue := by
  obtain ⟨n0, hD⟩ := drawn_ty h0
  obtain ⟨x0, xl⟩ := wf_u32 h1
  unfold F5
  refine ⟨min n0 40 + 1, draw_loop5 hD (fun w m1 X S => ?_) (min n0 40) 0 _ m _ (by omega) OwnI.nil⟩
  generalize hn : min n0 40 = n at S
  have hn40 : n ≤ 40 := by omega
  rw [tmod_nn x0, not3 (x1 % 800) (by omega) (by omega)]
  generalize ha : x1 % 800 - x1 % 800 % 4 = a
  have a0 : 0 ≤ a := by omega
  have a1 : a ≤ 796 := by omega
  have a4 : a % 4 = 0 := by omega
  refine abytes_spec (by omega) S.isI (fun _ v16 m2 g16 K2 o16 => ?_) fun nok => absurd S.okI nok
  have iok : imOk 1 a (4 * n : Nat) := ⟨by omega, by omega, by push_cast; omega⟩
  refine aimage_spec (n := 4 * n) ⟨by omega, by omega⟩ a0 (by omega) g16.r (by omega) (fun no => absurd iok no) fun _ v19 m3 g19 K3 o19 => ?_
  have g19 : IsL m3 1 v19 1024 (cK .u8 (imF a.toNat (4 * n) (WB (wsOf X)))) := g19
  refine kif_f rfl (kif_f rfl ?_)
  rw [klen_r g19.r]
  refine kif_f rfl (words_spec (by omega) g19.s fun v23 m4 g23 K4 o23 => words_spec (by omega) ((g16.keep K3).keep K4).s fun v25 m5 g25 K5 o25 => ?_)
  have g23 : IsL m4 1 v23 256 _ := g23
  rw [show 4 * n / 4 = n by omega] at g25
  rw [klen_r (g23.keep K5).r, klen_r g25.r, S.isI.len, S.isI.len]
  refine kif_f rfl (kif_f (by simp) ?_)
  rw [wrap64 (n := a) (by omega) (by omega), Int.tdiv_eq_ediv_of_nonneg a0, wrap32, Int.emod_eq_of_lt (by omega) (by omega), wrap64 (n := a / 4) (by omega) (by omega), wrap64 (n := a / 4 + (n : Int)) (by omega) (by omega)]
  refine slS_s (g23.keep K5).s (l := (a / 4).toNat) (u := (a / 4).toNat + n) (by simp [optI]; omega) (by simp [optI]; omega) (by omega) (by omega) fun v31 hv31 _ => ?_
  rw [show (a / 4).toNat + n - (a / 4).toNat = n by omega] at hv31
  have e31 : IsR m5 1 v31 n (cK .u32 (BW (WB (wsOf X)))) := hv31.r.congr fun i hi => by
    unfold cK BW imF
    rw [Nat.mul_one, if_pos (by omega), if_pos (by omega), if_pos (by omega), if_pos (by omega)]
    rw [show 4 * ((a / 4).toNat + i) - a.toNat = 4 * i by omega, show 4 * ((a / 4).toNat + i) + 1 - a.toNat = 4 * i + 1 by omega, show 4 * ((a / 4).toNat + i) + 2 - a.toNat = 4 * i + 2 by omega, show 4 * ((a / 4).toNat + i) + 3 - a.toNat = 4 * i + 3 by omega]
  exact same_spec e31 g25.r (by omega) (kif_t rfl (known26 fun m6 _ => rfl))

/-! ### AsmNumbers -/
theorem kinds_loop {k0 : Mem → Prop} {kr : Bool → Mem → Prop} (hk : ∀ m', k0 m') : ∀ (j : Nat) (i : Int) (m : Mem), -1 ≤ i → i + j = 79 → L3_2 (j + 1) i m k0 kr
  | 0, i, m, h1, e => by
    show R3_2 _ _ _ _ _
    unfold R3_2
    exact kif_f (by simp; omega) (hk m)
  | j + 1, i, m, h1, e => by
    show R3_2 _ _ _ _ _
    unfold R3_2
    rw [wrap64 (n := i + 1) (by omega) (by omega)]
    refine kif_t (by simp; omega) (newK_i fun b m1 hb K1 e1 O1 => ?_)
    have hI : IsI m1 (.sl b 0 2 (.ex 2)) 2 (fun t => if t = 0 then ⟨i, 0, 0, 0, 0, 0⟩ else ⟨1, 0, 0, 0, 0, 0⟩) := by
      refine ⟨⟨_, (IsL.row (esz := 6) e1 rfl rfl).s, fun t ht => ?_⟩, fun t ht => ?_⟩
      · match t, ht with
        | 0, _ => exact ⟨rfl, rfl, rfl, rfl, rfl, rfl⟩
        | 1, _ => exact ⟨rfl, rfl, rfl, rfl, rfl, rfl⟩
      · split <;> exact Int.le_refl 0
    exact bytes_law (by omega) hI fun m2 K2 => kif_f rfl (kinds_loop hk j (i + 1) m2 (by omega) (by omega))
def ats : Nat → Int := fun i => [0, 1023, 1024, 2044, 4294967295].getD i 0
theorem ats_loop {p : Int} {v18 v24 : AV} {x19 x20 : Int} (hp : isI p) (hv : IsR m0 1 v24 5 (cK .u32 ats)) {k4 : Mem → Prop} {kr : Bool → Mem → Prop} (hk : ∀ m', Keeps m0 m' → k4 m') : ∀ (j i : Nat) (m : Mem), i + j = 5 → Keeps m0 m → L3_10 p v18 x19 x20 v24 5 (j + 1) i m k4 kr
  | 0, i, m, e, K => by
    show R3_10 _ _ _ _ _ _ _ _ _ _ _
    unfold R3_10
    exact kif_f (by simp; omega) (hk m K)
  | j + 1, i, m, e, K => by
    show R3_10 _ _ _ _ _ _ _ _ _ _ _
    unfold R3_10
    rw [wrap64 (n := (i : Int) + 1) (by omega) (by omega)]
    refine kif_t (by simp; omega) (ldK_r (k := fun _ _ x => newK m _ _) (hv.keep K) i (by omega) fun _ _ _ => ?_)
    have hr : 0 ≤ ats i ∧ ats i < 4294967296 := by
      have : i < 5 := by omega
      match i, this with
      | 0, _ => decide
      | 1, _ => decide
      | 2, _ => decide
      | 3, _ => decide
      | 4, _ => decide
    refine newK_i fun b m1 hb K1 e1 O1 => ?_
    have row : IsR m1 1 (.sl b 0 2 (.ex 2)) 2 (cK .u8 fun i => (i : Int) + 1) := (IsL.row (esz := 1) e1 rfl rfl).r.congr fun t ht => by
      match t, ht with
      | 0, _ => rfl
      | 1, _ => rfl
    refine image_law hp hr.1 hr.2 row (fun t ht => ⟨by omega, by omega⟩) (by omega) fun m2 K2 => kif_f rfl ?_
    exact image_law (n := 0) (f := fun _ => 0) hp hr.1 hr.2 (.nil none _) (fun t ht => by omega) (by omega) fun m3 K3 => kif_f rfl (ats_loop hp hv hk j (i + 1) m3 (by omega) (K.trans (K1.trans (K2.trans K3))))
def pgs : Nat → Int := fun i => [-1, 0, 1, 2, 64, 65].getD i 0
theorem pages_loop {v18 : AV} (hv : IsR m0 1 v18 6 (cK .i64 pgs)) {k2 : Mem → Prop} {kr : Bool → Mem → Prop} (hk : ∀ m', k2 m') : ∀ (j i : Nat) (m : Mem), i + j = 6 → Keeps m0 m → L3_7 v18 6 (j + 1) i m k2 kr
  | 0, i, m, e, K => by
    show R3_7 _ _ _ _ _ _ _
    unfold R3_7
    exact kif_f (by simp; omega) (hk m)
  | j + 1, i, m, e, K => by
    show R3_7 _ _ _ _ _ _ _
    unfold R3_7
    rw [wrap64 (n := (i : Int) + 1) (by omega) (by omega)]
    refine kif_t (by simp; omega) (ldK_r (k := fun _ _ x => newK m _ _) (hv.keep K) i (by omega) fun _ _ _ => ?_)
    have hp : isI (pgs i) := by
      have : i < 6 := by omega
      match i, this with
      | 0, _ => exact ⟨by decide, by decide⟩
      | 1, _ => exact ⟨by decide, by decide⟩
      | 2, _ => exact ⟨by decide, by decide⟩
      | 3, _ => exact ⟨by decide, by decide⟩
      | 4, _ => exact ⟨by decide, by decide⟩
      | 5, _ => exact ⟨by decide, by decide⟩
    refine newK_i fun b m1 hb K1 e1 O1 => ?_
    have row : IsR m1 1 (.sl b 0 5 (.ex 5)) 5 (cK .u32 ats) := (IsL.row (esz := 1) e1 rfl rfl).r.congr fun t ht => by
      match t, ht with
      | 0, _ => rfl
      | 1, _ => rfl
      | 2, _ => rfl
      | 3, _ => rfl
      | 4, _ => rfl
    refine ⟨6, ats_loop (m0 := m1) hp row (fun m2 K2 => ?_) 5 0 m1 (by omega) (Keeps.self m1)⟩
    exact pages_loop hv hk j (i + 1) m2 (by omega) (K.trans (K1.trans K2))
theorem sign16 {v : Int} (h0 : 0 ≤ v) (h1 : v < 65536) {k : Int → Mem → Prop} (hk : k (if v < 32768 then v else v + 4294901760) m) : F19 v 16 m k := by
  unfold F19
  have e1 : min (IntKind.wrap .u64 16).toNat 32 = 16 := by decide
  have e2 : min (IntKind.wrap .u64 (IntKind.wrap .i64 (16 - 1))).toNat 32 = 15 := by decide
  rw [e1, e2]
  have e3 : IntKind.wrap .u32 (IntKind.wrap .u32 (1 * 2 ^ 16) - 1) = 65535 := by decide
  have e4 : IntKind.wrap .u32 (1 * 2 ^ 16) = 65536 := by decide
  rw [e3, e4, and16 v h0 (by omega), Int.emod_eq_of_lt h0 h1, fdiv_w _ _ (by decide), show ((2 : Int) ^ 15) = 32768 by decide]
  refine kif_f (by decide) (kif_f (by decide) (kif_f (by decide) (kif_f (by decide) (kif_c _ (fun c => kif_f (by decide) ⟨Keeps.self m, ?_⟩) fun c => ⟨Keeps.self m, ?_⟩))))
  · have c : v / 32768 = 1 := by simpa using c
    rw [if_neg (by omega)] at hk
    rw [wrap32, show (v - 65536) % 4294967296 = v + 4294901760 by omega]; exact hk
  · have c : ¬ v / 32768 = 1 := by simpa using c
    rw [if_pos (by omega)] at hk; exact hk
theorem beq_target {c : Nat → AV} {im pc : Int} (hc : InC c ⟨42, 0, 0, 0, 0, im⟩) (h0 : 0 ≤ im) (h1 : im < 65536) {k : Int → Mem → Prop} (hk : k (IntKind.wrap .u32 (IntKind.wrap .u32 (pc + 4) + IntKind.wrap .u32 (4 * (if im < 32768 then im else im + 4294901760)))) m) : F8 c pc 0 m k := by
  unfold F8
  refine newI hc fun b m1 hb K1 i1 O1 => ?_
  rw [i1.l0]
  refine kif_f rfl ?_
  unfold P8_4004
  refine kif_f rfl (kif_f rfl ?_)
  unfold P8_7004
  refine kif_f rfl (kif_t rfl ?_)
  unfold P8_16004
  refine kif_t rfl ?_
  simp only [Nat.zero_add]
  rw [i1.l5]
  exact sign16 h0 h1 ⟨K1, hk⟩
theorem to_loop {x : Int} (x0 : 0 ≤ x) (x1 : x < 20) {k8 : Mem → Prop} {kr : Bool → Mem → Prop} : ∀ (j : Nat) (i : Int) (m : Mem), (∀ m', k8 m') → 0 ≤ i → i + j = 20 → L3_20 x (j + 1) i m k8 kr
  | 0, i, m, hk, h1, e => by
    show R3_20 _ _ _ _ _ _
    unfold R3_20
    exact kif_f (by simp; omega) (hk m)
  | j + 1, i, m, hk, h1, e => by
    show R3_20 _ _ _ _ _ _
    unfold R3_20
    have e1 : bits .and .u32 (IntKind.wrap .u32 (IntKind.wrap .i64 ((IntKind.wrap .i64 (i - x)) - 1))) 65535 = (i - x - 1) % 65536 := by
      rw [wrap64 (n := i - x) (by omega) (by omega), wrap64 (n := i - x - 1) (by omega) (by omega), and16 _ (wrap32_rng _).1 (wrap32_rng _).2, wrap32]
      omega
    rw [wrap64 (n := i + 1) (by omega) (by omega)]
    refine kif_t (by simp; omega) ?_
    unfold F9
    rw [e1]
    refine ⟨Keeps.self m, beq_target ⟨rfl, rfl, rfl, rfl, rfl, rfl⟩ (by omega) (by omega) ?_⟩
    refine kif_f ?_ ⟨Keeps.self m, kif_f (by simp; omega) (to_loop x0 x1 j (i + 1) m hk (by omega) (by omega))⟩
    rw [wrap64 (n := 4 * x) (by omega) (by omega), wrap64 (n := 4 * i) (by omega) (by omega)]
    simp only [wrap32, bne_eq_false_iff_eq]
    split <;> omega
theorem from_loop {k6 : Mem → Prop} {kr : Bool → Mem → Prop} (hk : ∀ m', k6 m') : ∀ (j : Nat) (i : Int) (m : Mem), 0 ≤ i → i + j = 20 → L3_17 (j + 1) i m k6 kr
  | 0, i, m, h1, e => by
    show R3_17 _ _ _ _ _
    unfold R3_17
    exact kif_f (by simp; omega) (hk m)
  | j + 1, i, m, h1, e => by
    show R3_17 _ _ _ _ _
    unfold R3_17
    rw [wrap64 (n := i + 1) (by omega) (by omega)]
    exact kif_t (by simp; omega) ⟨21, to_loop (by omega) (by omega) 20 0 m (fun m' => from_loop hk j (i + 1) m' (by omega) (by omega)) (by omega) (by omega)⟩
theorem AsmNumbers : F3 m isTrue := by
  unfold F3
  refine ⟨81, kinds_loop (fun m1 => ?_) 80 (-1) m (by omega) (by omega)⟩
  refine newK_i fun b m2 hb K2 e2 O2 => ?_
  have row : IsR m2 1 (.sl b 0 6 (.ex 6)) 6 (cK .i64 pgs) := (IsL.row (esz := 1) e2 rfl rfl).r.congr fun t ht => by
    match t, ht with
    | 0, _ => rfl
    | 1, _ => rfl
    | 2, _ => rfl
    | 3, _ => rfl
    | 4, _ => rfl
    | 5, _ => rfl
  refine ⟨7, pages_loop (m0 := m2) row (fun m3 => ⟨21, from_loop (fun m4 => ?_) 20 0 m3 (by omega) (by omega)⟩) 6 0 m2 (by omega) (Keeps.self m2)⟩
  refine newK_i fun b5 m5 hb5 K5 e5 O5 => ?_
  have row5 : IsS m5 1 (.sl b5 0 3 (.ex 3)) 3 (cK .u8 fun i => (i : Int) + 1) := (IsL.row (esz := 1) e5 rfl rfl).s.congr fun t ht => by
    match t, ht with
    | 0, _ => rfl
    | 1, _ => rfl
    | 2, _ => rfl
  refine words_spec (by omega) row5 fun w m6 g6 K6 o6 => ?_
  rw [klen_r g6.r]
  exact kif_t rfl (known26 fun m7 _ => rfl)
end
end Go.Proofs.Ytppikpjmlbaccaa.Am
