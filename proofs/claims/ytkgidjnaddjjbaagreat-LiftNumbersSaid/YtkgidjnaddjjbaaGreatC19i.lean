/- Law 19's same, LiftTells, LiftRows. Conditions: none of its own. -/
import Derived.Test.YtkgidjnaddjjbaaGreatC19h
namespace Go.Proofs.YtkgidjnaddjjbaaGreat.Am
set_option linter.unusedVariables false
set_option linter.unusedSimpArgs false
set_option maxRecDepth 100000
set_option maxHeartbeats 1000000

section
variable {m0 m : Mem}
theorem Regs.dl {b : Nat} {f : Nat → Int} (h : Regs m (.sl b 0 40 (.ex 40)) f) {i : Nat} (hi : i < 40) (k : Int → Prop) : ldI .u32 m b i k = k (f i) := by
  cases h.l with
  | sl b o n cap y c g1 g2 g3 g4 g5 => exact ldI_of g1 (by omega) (by have := g3 i (by omega); rw [Nat.zero_add] at this; exact this)
/-- both sides filled alike -/
structure Fl (m0 m : Mem) (va : AV) (b : Nat) (f : Nat → Int) (S : St) : Prop where
  K : Keeps m0 m
  a : Regs m va f
  s : IsM m b S
  e : ∀ i, i < 32 → S.n i = f i
def One19 (m0 : Mem) (va : AV) (b : Nat) : Prop := (∀ b', own va b' → m0.obj b' = none) ∧ m0.obj b = none ∧ ¬ own va b
theorem Fl.st {va : AV} {b : Nat} {f : Nat → Int} {S : St} (h : Fl m0 m va b f S) (o : One19 m0 va b) {i : Nat} (hi : i < 40) {x : Int} (hx : isU x) {k : Mem → Prop} (hk : ∀ m', Keeps m0 m' → Regs m' va (upd f i x) → IsM m' b S → k m') :
    ksl va fun b o l p => kif (decide (0 ≤ (i : Int)) && decide ((i : Int) < l)) (stC m b (o + (i : Int).toNat * 1) (.flat (.int .u32 x)) k) False :=
  h.a.st (by omega) (by omega) hx fun m' r' F' => hk m' (Fr.keeps h.K F' o.1) r' (h.s.fr F' o.2.2)
theorem fl_zero {m1 m2 : Mem} {b18 b20 : Nat} {t : TypeId} (K1 : Keeps m0 m1) (hb : m0.obj b18 = none) (e : m1.obj b18 = some ⟨40, reprow [.flat (.int .u32 0)], t, false⟩) (K2 : Keeps m1 m2) (hs : IsM m2 b20 St0) (hb20 : m1.obj b20 = none) :
    Fl m0 m2 (.sl b18 0 40 (.ex 40)) b20 (fun _ => 0) St0 ∧ One19 m0 (.sl b18 0 40 (.ex 40)) b20 := by
  have Z : cK .u32 (fun _ => 0) = reprow [.flat (.int .u32 0)] := by rw [reprow1f]; rfl
  refine ⟨⟨K1.trans K2, ⟨by rw [Z]; exact (IsL.row (esz := 1) e rfl rfl).keep K2, fun i => (⟨by decide, by decide⟩ : isU 0)⟩, hs, fun i hi => ?_⟩, fun b' e' => ?_, newK_none K1 hb20, fun e' => ?_⟩
  · unfold St0; dsimp only; rw [if_neg (by omega), if_neg (by omega), if_neg (by omega)]
  · cases e'; exact hb
  · have e' : b18 = b20 := e'
    rw [← e', e] at hb20; cases hb20
theorem same_fill {vl va v6 : AV} {b2 b n : Nat} {fl : Nat → Int} (o : One19 m0 va b) (hl : IsR m0 1 vl n (cK .u32 fl)) (ul : ∀ i, i < n → isU (fl i)) {k0 : Mem → Prop} (hk : ∀ m f S, Fl m0 m va b f S → k0 m) :
    ∀ (j i : Nat) (m : Mem) (f : Nat → Int) (S : St), i + j = 40 → Fl m0 m va b f S → L7_10 vl b2 0 v6 va b 0 (j + 1) i m k0
  | 0, i, m, f, S, e, h => by
    show R7_10 _ _ _ _ _ _ _ _ _ _ _
    unfold R7_10
    exact kif_f (by simp; omega) (hk m f S h)
  | j + 1, i, m, f, S, e, h => by
    show R7_10 _ _ _ _ _ _ _ _ _ _ _
    unfold R7_10
    have recu := same_fill (b2 := b2) (v6 := v6) o hl ul hk j (i + 1)
    rw [klen_r hl, wrap64 (n := (i : Int) + 1) (by omega) (by omega)]
    refine kif_t (by simp; omega) (kif_c _ (fun c => ?_) fun c => hk m f S h)
    have c : i < n := by simpa using c
    refine ldK_r (k := fun _ _ x => ksl _ _) (hl.keep h.K) i c fun _ _ _ => h.st o (by omega) (ul i c) fun m1 K1 r1 s1 => kif_c _ (fun d => ?_) fun d => ?_
    · have d : i < 32 := by have : (i : Int) < 32 := by simpa using d
                            omega
      refine ldK_r (k := fun _ _ x => kif _ _ _) (hl.keep K1) i c fun _ _ _ => kif_t (by simp; omega) ?_
      simp only [Nat.zero_add, Nat.mul_one, Int.toNat_natCast]
      refine stC_m s1 (by omega) (isP3_lo (by omega)) fun m2 s2 F2 => recu m2 _ _ (by omega) ⟨Fr.keeps K1 F2 fun b' e => by cases e; exact o.2.1, r1.fr F2 fun b' e e' => o.2.2 (by cases e'; exact e), s2, fun k hk => ?_⟩
      rw [putn_n, upd_at, upd_at]
      split
      · rfl
      · exact h.e k hk
    · have d : ¬ i < 32 := by have : ¬ (i : Int) < 32 := by simpa using d
                              omega
      refine recu m1 _ S (by omega) ⟨K1, r1, s1, fun k hk => ?_⟩
      rw [upd_at, if_neg (by omega)]
      exact h.e k hk
theorem same_cmp {va : AV} {b : Nat} {f : Nat → Int} {S : St} (ha : Regs m va f) (hs : IsM m b S) (e : Agr S f) {k2 : Mem → Prop} {kr : Bool → Mem → Prop} (hk : k2 m) : ∀ (j i : Nat), i + j = 32 → L7_20 va b 0 (j + 1) i m k2 kr
  | 0, i, e1 => by
    show R7_20 _ _ _ _ _ _ _ _
    unfold R7_20
    exact kif_f (by simp; omega) hk
  | j + 1, i, e1 => by
    show R7_20 _ _ _ _ _ _ _ _
    unfold R7_20
    rw [wrap64 (n := (i : Int) + 1) (by omega) (by omega)]
    refine kif_t (by simp; omega) (ldK_r (k := fun _ _ x => kif _ _ _) ha.l.r i (by omega) fun _ _ _ => kif_t (by simp; omega) ?_)
    simp only [Nat.zero_add, Nat.mul_one, Int.toNat_natCast]
    rw [ldI_m hs (by omega) (isP3_lo (by omega)), e i (by omega)]
    exact kif_f (by simp) (same_cmp ha hs e hk j (i + 1) (by omega))
/-- one instruction on both -/
theorem both {va v10 : AV} {b : Nat} {f : Nat → Int} {S : St} {x : In} {c : Nat → AV} (K : Keeps m0 m) (ha : Regs m va f) (hs : IsM m b S) (hg : Agr S f) (o : One19 m0 va b) (hc : InC c x) (hi : 0 ≤ x.i) (hp : plainS x = true) (hv : IsOps m v10 (opsOf x)) (dis : ∀ b', own v10 b' → ¬ own va b')
    {k1 : Bool → Mem → (Mem → Prop) → Prop} {k2 : Int → Mem → Prop} (hk1 : ∀ m' (G : Mem → Prop), Keeps m0 m' → Fr (own va) m m' → G m' → k1 true m' G) (hk2 : ∀ m' S', Keeps m0 m' → Regs m' va (run18 f (opsOf x)) → IsM m' b S' → Agr S' (run18 f (opsOf x)) → k2 (-1) m') :
    F12 va v10 m fun r m' => k1 r m' fun m'' => F14 b 0 c m'' k2 := by
  obtain ⟨len2, okOps⟩ := ops_ok hi
  refine run18_spec (by omega) dis okOps hv ha fun m1 r1 F1 => hk1 m1 _ (Fr.keeps K F1 o.1) F1 ?_
  have K1 := Fr.keeps K F1 o.1
  refine exec_spec (hs.fr F1 o.2.2) hg (fun i _ => ha.u i) hc hi hp fun m2 S2 s2 g2 F2 => hk2 m2 S2 (Fr.keeps K1 F2 fun b' e => by cases e; exact o.2.1) (r1.fr F2 fun b' e e' => o.2.2 (by cases e'; exact e)) s2 fun i hi' => ?_
  rw [g2 i hi', ex_run hi hp f (fun i _ => ha.u i) i hi']

theorem same19 {c : Nat → AV} {x : In} {vl : AV} {n : Nat} {fl : Nat → Int} (hc : InC c x) (hi : 0 ≤ x.i) (hl : IsR m 1 vl n (cK .u32 fl)) (ul : ∀ i, i < n → isU (fl i)) {k : Bool → Mem → Prop} (hk : ∀ m', Keeps m m' → k true m') : F7 c vl m k := by
  unfold F7
  refine newI hc fun b2 m1 hb2 K1 i O => i.lg fun c3 h3 => rright_spec h3 hi ?_
  have main : ∀ q : Bool, q = plainS x → P7_2102 vl b2 0 q m1 (fun x69 m70 => k x69 m70) := fun q hq => by
    subst hq
    unfold P7_2102
    refine i.lg fun c9 h9 => lof_spec h9 hi fun v10 m2 hv K2 ov => ?_
    have i2 := i.keep K2
    have K02 := K1.trans K2
    refine i2.lg fun c12 h12 => lift_is h12 hi (kif_f (by simp) ?_)
    have lens := (ops_ok hi).1
    cases hp : plainS x with
    | false =>
      have e : opsOf x = [] := by unfold opsOf; rw [if_pos (.inl hp)]
      rw [hv.len, hv.len, e]
      refine kif_t rfl (kif_f rfl (kif_f rfl ?_))
      unfold P7_5103
      exact kif_t rfl (hk m2 K02)
    | true =>
      refine kif_f rfl ?_
      rw [hv.len]
      refine kif_f (by simp; omega) ?_
      unfold P7_5103
      refine kif_f rfl (mkS_i (by decide) (by decide) (by decide) fun b18 m3 hb18 K3 e18 O3 => newM_spec fun b20 m4 s20 K4 hb20 => ?_)
      obtain ⟨T0, o⟩ := fl_zero K3 hb18 e18 K4 s20 hb20
      refine ⟨40, same_fill (m0 := m2) o (hl.keep K02) ul (fun m5 f S T => ?_) 39 1 m4 _ _ (by omega) T0⟩
      rw [T.a.dl (by decide), T.a.dl (by decide)]
      simp only [Nat.zero_add]
      refine stC_m T.s (by decide) rfl fun m6 s6 F6 => stC_m s6 (by decide) rfl fun m7 s7 F7 => ?_
      have F67 := F6.trans F7
      have K7 : Keeps m2 m7 := Fr.keeps T.K F67 fun b' e => by cases e; exact o.2.1
      have r7 : Regs m7 _ f := T.a.fr F67 fun b' e e' => o.2.2 (by cases e'; exact e)
      have g7 : Agr ((S.putN 32 (f 32)).putN 33 (f 33)) f := fun k hk => by
        rw [putn_n, putn_n, upd_at, upd_at]
        split
        · rename_i e; rw [e]
        split
        · rename_i e; rw [e]
        · exact T.e k (by omega)
      have dis : ∀ b', own v10 b' → ¬ own (.sl b18 0 40 (.ex 40)) b' := fun b' e e' => by
        obtain ⟨cc, q1, q2⟩ := hv
        exact q1.live e (o.1 b' e')
      obtain ⟨len2, okOps⟩ := ops_ok hi
      refine run18_spec (by omega) dis okOps (hv.keep K7) r7 fun m8 r8 F8 => kif_f rfl ?_
      have K8 := Fr.keeps K7 F8 o.1
      refine (i2.keep K8).lg fun c48 h48 => exec_spec (s7.fr F8 o.2.2) g7 (fun i _ => r7.u i) h48 hi hp fun m9 S9 s9 g9 F9 => ?_
      have r9 := r8.fr F9 fun b' e e' => o.2.2 (by cases e'; exact e)
      have a9 : Agr S9 (run18 f (opsOf x)) := fun i hi' => by rw [g9 i hi', ex_run hi hp f (fun i _ => r7.u i) i hi']
      refine ⟨33, same_cmp r9 s9 a9 ?_ 32 0 (by omega)⟩
      rw [r9.dl (by decide), r9.dl (by decide), ldI_m s9 (by decide) rfl, ldI_m s9 (by decide) rfl, a9 32 (by decide), a9 33 (by decide)]
      refine kif_t (by simp) ?_
      rw [beq_self_eq_true]
      exact hk m9 (K02.trans (Fr.keeps K8 F9 fun b' e => by cases e; exact o.2.1))
  refine kif_c _ (fun c => i.lg fun c6 h6 => rclass_spec h6 (main _ ?_)) fun c => main _ ?_
  · unfold plainS; rw [c, Bool.true_and]
  · unfold plainS; rw [c, Bool.false_and]

def shIn : List Lf := [.i .i64, .i .i64, .i .i64, .i .i64, .i .i64, .i .u32]
theorem in_ty {c : Nat → AV} (h : TyAll m shIn c) : ∃ x, InC c x ∧ 0 ≤ x.i := by
  obtain ⟨k, e0, w0⟩ := ty_i (h 0 _ rfl)
  obtain ⟨s, e1, w1⟩ := ty_i (h 1 _ rfl)
  obtain ⟨t, e2, w2⟩ := ty_i (h 2 _ rfl)
  obtain ⟨d, e3, w3⟩ := ty_i (h 3 _ rfl)
  obtain ⟨hh, e4, w4⟩ := ty_i (h 4 _ rfl)
  obtain ⟨i, e5, w5⟩ := ty_i (h 5 _ rfl)
  exact ⟨⟨k, s, t, d, hh, i⟩, ⟨e0, e1, e2, e3, e4, e5⟩, (wf_u32 w5).1⟩
theorem LiftTells {vl : AV} {c1 c2 : Nat → AV} (hl : Ty m (.sl [.i .u32]) vl) (h1 : TyAll m shI c1) (h2 : TyAll m shIn c2) : F4 vl c1 c2 m isTrue := by
  obtain ⟨n, fl, r, u⟩ := ints_ty hl
  have u' : ∀ i, i < n → isU (fl i) := fun i hi => wf_u32 (u i hi)
  obtain ⟨x0, raw, hc, hx⟩ := ic_of h1
  obtain ⟨x2, hc2, hi2⟩ := in_ty h2
  unfold F4
  refine newD hc fun b2 m1 hb2 K1 d => newI hc2 fun b4 m3 hb4 K4 i4 O4 => ?_
  have d3 := d.keep K4
  have r3 := (r.keep K1).keep K4
  refine d3.lg fun c5 h5 => plain_spec h5 hx fun c6 x hy ok => same19 hy ok.i0 r3 u' fun m5 K5 => kif_t rfl ?_
  refine (d3.keep K5).lg fun c10 h10 => any_spec h10 hx fun c11 y hy ok => same19 hy ok.i0 (r3.keep K5) u' fun m6 K6 => kif_t rfl ?_
  exact ((i4.keep K5).keep K6).lg fun c15 h15 => same19 h15 hi2 ((r3.keep K5).keep K6) u' fun m7 K7 => kif_t rfl (known19 fun m' => rfl)

/-! ### rows -/
def kdPl (v : Int) : Bool := kdOk v && (classS v == 1)
theorem plain1_spec {c : Nat → AV} {x : In} {raw : Int} (hc : IC c x raw) (hx : ITy x raw) {k : (Nat → AV) → Mem → Prop} (hk : ∀ c y, InC c y → OK y → plainS y = true → k c m) : F9 c m k := by
  unfold F9
  refine newD hc fun b2 m1 hb2 K1 d => newZ z6_in fun b4 m3 hb4 K4 i4 O4 => newK_i fun b6 m5 hb6 K6 e6 O6 => ⟨fun b' => b' = b2 ∨ b' = b6, .inl rfl, ?_⟩
  have d5 := (d.keep K4).keep K6
  refine d5.lg fun c6 h6 => ⟨.inl rfl, ?_⟩
  rw [d5.l0]
  refine within_spec (by omega) (by omega) hx.k.a hx.k.b fun v v0 v1 => ⟨fun _ _ _ => rfl, ?_⟩
  rw [tmod_nn v0]
  refine kif_ix (by omega) (by omega) ⟨.inr rfl, ?_⟩
  obtain ⟨q, hq, hp⟩ := cells_v (n := 37) kdPl (by kernel_rfl) (0 + (v % 37).toNat * 1) (by omega)
  rw [ldI_of e6 (by show 0 + (v % 37).toNat * 1 < 37; omega) hq]
  unfold kdPl at hp
  simp only [Bool.and_eq_true, beq_iff_eq] at hp
  obtain ⟨q0, q1⟩ := kd_ok hp.1
  refine inst_spec h6 hx q0 q1 fun c13 y hy ok ek => ⟨fun _ _ _ => rfl, ?_⟩
  refine (i4.keep K6).sg hy fun m2 j o => j.lg fun c hc => ⟨Only.keeps ((K1.trans K4).trans K6) (newK_none K1 hb4) o, hc.inDom m, hk c y hc ok ?_⟩
  unfold plainS
  rw [(right_iff y ok.i0).2 ok, ek, hp.2]; rfl
theorem rows_fill {vl vr va : AV} {b n : Nat} {fl : Nat → Int} (o : One19 m0 va b) (hl : IsR m0 1 vl n (cK .u32 fl)) (ul : ∀ i, i < n → isU (fl i)) {k0 : Mem → Prop} (hk : ∀ m f S, Fl m0 m va b f S → Agr S f → k0 m) :
    ∀ (j i : Nat) (m : Mem) (f : Nat → Int) (S : St), i + j = 32 → Fl m0 m va b f S → Agr S f → L5_4 vl vr va b 0 (j + 1) i m k0
  | 0, i, m, f, S, e, h, g => by
    show R5_4 _ _ _ _ _ _ _ _ _
    unfold R5_4
    exact kif_f (by simp; omega) (hk m f S h g)
  | j + 1, i, m, f, S, e, h, g => by
    show R5_4 _ _ _ _ _ _ _ _ _
    unfold R5_4
    have recu := rows_fill (vr := vr) o hl ul hk j (i + 1)
    rw [klen_r hl, wrap64 (n := (i : Int) + 1) (by omega) (by omega)]
    refine kif_t (by simp; omega) (kif_c _ (fun c => ?_) fun c => hk m f S h g)
    have c : i < n := by simpa using c
    refine ldK_r (k := fun _ _ x => ksl _ _) (hl.keep h.K) i c fun _ _ _ => ldK_r (k := fun _ _ x => ksl _ _) (hl.keep h.K) i c fun _ _ _ => h.st o (by omega) (ul i c) fun m1 K1 r1 s1 => kif_t (by simp; omega) ?_
    simp only [Nat.zero_add, Nat.mul_one, Int.toNat_natCast]
    have e2 : Agr (S.putN i (fl i)) (upd f i (fl i)) := g.put i (fl i)
    exact stC_m s1 (by omega) (isP3_lo (by omega)) fun m2 s2 F2 => recu m2 _ _ (by omega) ⟨Fr.keeps K1 F2 fun b' e => by cases e; exact o.2.1, r1.fr F2 fun b' e e' => o.2.2 (by cases e'; exact e), s2, fun k hk => e2 k (by omega)⟩ e2

/-- drawn ones in a row -/
def IsD (m : Mem) (v : AV) (n : Nat) : Prop := ∃ c : Nat → AV, IsR m 7 v n c ∧ ∀ i, i < n → ∃ x raw, IC (fun j => c (i * 7 + j)) x raw ∧ ITy x raw
theorem isd_ty {v : AV} (h : Ty m (.sl shI) v) : ∃ n, IsD m v n := by
  cases h with
  | nil ls a => exact ⟨0, fun _ => .junk, .nil a _, fun i hi => by omega⟩
  | sl ls b len cap x h1 h2 h3 h4 h5 h6 =>
    refine ⟨len, x.c, .sl b 0 len (.ex cap) x _ h4 ?_ (fun i hi => by rw [Nat.zero_add]), fun i hi => ?_⟩
    · have : shI.length = 7 := rfl
      rw [this] at h5
      have := Nat.mul_le_mul_right 7 h3
      omega
    · have h := h6 i (by omega)
      exact ic_of (m := m) (c := fun j => x.c (i * 7 + j)) h
theorem rows_loop {vr va : AV} {b n : Nat} (o : One19 m0 va b) (hr : IsD m0 vr n) {k2 : Mem → Prop} {kr : Bool → Mem → Prop} (hk : ∀ m f S, Keeps m0 m → Regs m va f → IsM m b S → Agr S f → k2 m) :
    ∀ (j i : Nat) (m : Mem) (f : Nat → Int) (S : St), i + j = 30 → Keeps m0 m → Regs m va f → IsM m b S → Agr S f → L5_8 vr va b 0 (j + 1) i m k2 kr
  | j, i, m, f, S, e, K, ha, hs, hg => by
    have stop : ∀ j', j = j' → k2 m := fun _ _ => hk m f S K ha hs hg
    obtain ⟨c, r1, r2⟩ := hr
    show R5_8 _ _ _ _ _ _ _ _ _
    unfold R5_8
    rw [klen_r r1]
    refine kif_c _ (fun c1 => kif_c _ (fun c2 => ?_) fun c2 => stop _ rfl) fun c1 => stop _ rfl
    have c1 : i < n := by simpa using c1
    have c2 : i < 30 := by have : (i : Int) < 30 := by simpa using c2
                           omega
    obtain ⟨j, rfl⟩ : ∃ j', j = j' + 1 := ⟨j - 1, by omega⟩
    have recu := rows_loop o ⟨c, r1, r2⟩ hk (kr := kr) j (i + 1)
    rw [wrap64 (n := (i : Int) + 1) (by omega) (by omega)]
    refine ldG_r (r1.keep K) (by omega) (by omega) fun d hd => ?_
    obtain ⟨x0, raw, hc, hx⟩ := r2 i c1
    simp only [Int.toNat_natCast] at hd
    have hcd : IC d x0 raw := by
      obtain ⟨q0, q1, q2, q3, q4, q5, q6⟩ := hc
      exact ⟨(hd 0 (by omega)).trans q0, (hd 1 (by omega)).trans q1, (hd 2 (by omega)).trans q2, (hd 3 (by omega)).trans q3, (hd 4 (by omega)).trans q4, (hd 5 (by omega)).trans q5, (hd 6 (by omega)).trans q6⟩
    refine plain1_spec hcd hx fun c31 x hy ok hp => newF hy fun b34 m1 hb34 K1 i34 => i34.lg fun c36 h36 => lof_spec h36 ok.i0 fun v37 m2 hv K2 ov => ?_
    have K02 : Keeps m0 m2 := (K.trans K1).trans K2
    have ha2 := (ha.keep K1).keep K2
    have hs2 := (hs.keep K1).keep K2
    have dis : ∀ b', own v37 b' → ¬ own va b' := fun b' e e' => by
      have h1 := ov b' e
      exact (ha.keep K1).l.live e' h1
    obtain ⟨len2, okOps⟩ := ops_ok ok.i0
    refine run18_spec (by omega) dis okOps hv ha2 fun m3 r3 F3 => kif_f rfl ?_
    have K3 := Fr.keeps K02 F3 o.1
    have n34 : ¬ own va b34 := fun e => ha.l.live e hb34
    have i3 : InB m3 b34 x := by
      obtain ⟨y, e, r⟩ := i34.keep K2
      exact ⟨y, by rw [F3 b34 (by rw [e]; simp) n34]; exact e, r⟩
    refine i3.lg fun c41 h41 => exec_spec (hs2.fr F3 o.2.2) hg (fun i _ => ha.u i) h41 ok.i0 hp fun m4 S4 s4 g4 F4 => ?_
    refine recu m4 (run18 f (opsOf x)) S4 (by omega) (Fr.keeps K3 F4 fun b' e => by cases e; exact o.2.1) (r3.fr F4 fun b' e e' => o.2.2 (by cases e'; exact e)) s4 fun i hi' => ?_
    rw [g4 i hi', ex_run ok.i0 hp f (fun i _ => ha.u i) i hi']
theorem LiftRows {vl vr : AV} (hl : Ty m (.sl [.i .u32]) vl) (hr : Ty m (.sl shI) vr) : F5 vl vr m isTrue := by
  obtain ⟨n, fl, r, u⟩ := ints_ty hl
  obtain ⟨n2, d⟩ := isd_ty hr
  unfold F5
  refine mkS_i (by decide) (by decide) (by decide) fun b1 m1 hb1 K1 e1 O1 => newM_spec fun b3 m2 s3 K2 hb3 => ?_
  obtain ⟨T0, o⟩ := fl_zero K1 hb1 e1 K2 s3 hb3
  have g0 : Agr St0 (fun _ => 0) := fun i hi => by unfold St0; dsimp only; split; omega; split; omega; split; omega; rfl
  refine ⟨32, rows_fill (vr := vr) o r (fun i hi => wf_u32 (u i hi)) (fun m3 f S T g => ⟨31, rows_loop o d (fun m4 f S K4 ha hs hg => ?_) 30 0 m3 f S (by omega) T.K T.a T.s g⟩) 31 1 m2 _ _ (by omega) T0 g0⟩
  refine slS_s ha.l.s (l := 0) (u := 32) rfl rfl (by decide) (by decide) fun v48 q48 _ => ?_
  obtain ⟨y, ey, hn, hro, hcells⟩ := id hs
  have mach : IsL m4 1 (.sl b3 0 32 (.ex 32)) 32 (cK .u32 f) := .sl b3 0 32 (.ex 32) y _ ey (by omega) (fun i hi => by
    rw [Nat.zero_add, hcells i (by omega), stc_u (isP3_lo (by omega)) (by omega), hg i (by omega)]; rfl) hro ⟨by omega, by omega⟩
  simp only [Nat.zero_add]
  refine slS_s mach.s (l := 0) (u := 32) rfl rfl (by decide) (by decide) fun v49 q49 _ => ?_
  have w48 : IsR m4 1 v48 32 (cK .u32 f) := q48.r.congr fun i hi => by rw [Nat.zero_mul, Nat.zero_add]
  have w49 : IsR m4 1 v49 32 (cK .u32 f) := q49.r.congr fun i hi => by rw [Nat.zero_mul, Nat.zero_add]
  refine same_spec w48 w49 (by decide) (kif_t rfl ?_)
  rw [ha.dl (by decide), ldI_m hs (by decide) rfl, hg 32 (by decide), ha.dl (by decide), ldI_m hs (by decide) rfl, hg 33 (by decide)]
  exact kif_t (by simp) (kif_t (by simp) (known19 fun m' => rfl))
end
end Go.Proofs.YtkgidjnaddjjbaaGreat.Am
