/- Any, Plain, Code of pianolakeep; a word and an instruction as the laws ask for them. Conditions: what is handed in is plain data. -/
import Derived.Test.YtmhlljnnpoegbaaK3f
namespace Go.Proofs.Ytmhlljnnpoegbaa.Am
set_option linter.unusedVariables false
set_option linter.unusedSimpArgs false
set_option maxRecDepth 100000

theorem cells_v {n : Nat} {c : Nat → AV} (p : Int → Bool) (h : ((List.range n).all fun j => match c j with | .flat (.int .i64 v) => p v | _ => false) = true) : ∀ j, j < n → ∃ v, c j = AV.flat (.int .i64 v) ∧ p v = true := by
  intro j hj
  have := List.all_eq_true.1 h j (List.mem_range.2 hj)
  revert this
  generalize c j = a
  intro h
  split at h
  · exact ⟨_, rfl, h⟩
  · cases h
def kdOk (v : Int) : Bool := decide (0 < v) && decide (v < 78)
theorem kd_ok {v : Int} (h : kdOk v = true) : 0 < v ∧ v < 78 := by unfold kdOk at h; simpa using h

section
variable {m : Mem} {c : Nat → AV} {x : In} {raw : Int}
theorem any_spec (hc : IC c x raw) (hx : ITy x raw) {k : (Nat → AV) → Mem → Prop} (hk : ∀ c y, InC c y → OK y → k c m) : F11 c m k := by
  unfold F11
  refine newD hc fun b2 m1 hb2 K1 d => newZ z6_in fun b4 m3 hb4 K4 i4 O4 => ⟨fun b' => b' = b2, rfl, ?_⟩
  have d3 := d.keep K4
  refine d3.lg fun c6 h6 => ⟨rfl, ?_⟩
  rw [d3.l0]
  refine within_spec (by omega) (by omega) hx.k.a hx.k.b fun v v0 v1 => ⟨fun _ _ _ => rfl, ?_⟩
  rw [tmod_nn v0, wrap64 (by omega) (by omega)]
  refine inst_spec h6 hx (by omega) (by omega) fun c10 y hy ok _ => ⟨fun _ _ _ => rfl, ?_⟩
  exact i4.sg hy fun m2 j o => j.lg fun c hc => ⟨Only.keeps (K1.trans K4) (newK_none K1 hb4) o, hc.inDom m, hk c y hc ok⟩
theorem plain_spec (hc : IC c x raw) (hx : ITy x raw) {k : (Nat → AV) → Mem → Prop} (hk : ∀ c y, InC c y → OK y → k c m) : F21 c m k := by
  unfold F21
  refine newD hc fun b2 m1 hb2 K1 d => newZ z6_in fun b4 m3 hb4 K4 i4 O4 => newK_i fun b6 m5 hb6 K6 e6 O6 => ⟨fun b' => b' = b2 ∨ b' = b6, .inl rfl, ?_⟩
  have d5 := (d.keep K4).keep K6
  refine d5.lg fun c6 h6 => ⟨.inl rfl, ?_⟩
  rw [d5.l0]
  refine within_spec (by omega) (by omega) hx.k.a hx.k.b fun v v0 v1 => ⟨fun _ _ _ => rfl, ?_⟩
  rw [tmod_nn v0]
  refine kif_ix (by omega) (by omega) ⟨.inr rfl, ?_⟩
  obtain ⟨q, hq, hp⟩ := cells_v (n := 37) kdOk (by kernel_rfl) (0 + (v % 37).toNat * 1) (by omega)
  rw [ldI_of e6 (by show 0 + (v % 37).toNat * 1 < 37; omega) hq]
  obtain ⟨q0, q1⟩ := kd_ok hp
  refine inst_spec h6 hx q0 q1 fun c13 y hy ok _ => ⟨fun _ _ _ => rfl, ?_⟩
  exact (i4.keep K6).sg hy fun m2 j o => j.lg fun c hc => ⟨Only.keeps ((K1.trans K4).trans K6) (newK_none K1 hb4) o, hc.inDom m, hk c y hc ok⟩

/-! ### Code -/
structure CodeSt (x : In) (raw : Int) (m0 : Mem) (b1 b4 : Nat) (m : Mem) : Prop where
  i : ∃ y, InB m b4 y ∧ 0 ≤ y.i
  d : IB m b1 x raw
  K : Keeps m0 m
  n4 : m0.obj b4 = none
  ne : b1 ≠ b4
variable {m0 : Mem} {b1 b4 : Nat}
theorem CodeSt.only {m' : Mem} (h : CodeSt x raw m0 b1 b4 m) (O : Only m b4 m') {y : In} (hy : InB m' b4 y) (h0 : 0 ≤ y.i) : CodeSt x raw m0 b1 b4 m' := ⟨⟨y, hy, h0⟩, h.d.only O h.ne, Only.keeps h.K h.n4 O, h.n4, h.ne⟩
theorem CodeSt.keep {m' : Mem} (h : CodeSt x raw m0 b1 b4 m) (K : Keeps m m') : CodeSt x raw m0 b1 b4 m' := by
  obtain ⟨y, hy, h0⟩ := h.i
  exact ⟨⟨y, hy.keep K, h0⟩, h.d.keep K, h.K.trans K, h.n4, h.ne⟩
theorem code_26 (h : CodeSt x raw m0 b1 b4 m) {q : Bool} {kn : Mem → Prop} (hk : ∀ m', CodeSt x raw m0 b1 b4 m' → kn m') : P10_26004 b1 0 b4 0 q m kn := by
  unfold P10_26004
  simp only [Nat.zero_add]
  refine kif_c _ (fun _ => newK_i fun b47 m1 hb K e O => ?_) fun _ => hk m h
  have h1 := h.keep K
  rw [h1.d.l3]
  have ha := and64_rng x.d 7 (by decide)
  have ha : 0 ≤ bits .and .i64 x.d 7 ∧ bits .and .i64 x.d 7 ≤ 7 := ha
  refine kif_ix ha.1 (by omega) ?_
  obtain ⟨v, hv, _⟩ := cells_v (n := 8) (fun _ => true) (by kernel_rfl) ((bits .and .i64 x.d 7).toNat * 1) (by omega)
  rw [ldI_of e (by show (bits .and .i64 x.d 7).toNat * 1 < 8; omega) hv]
  obtain ⟨y, hy, y0⟩ := h1.i
  exact hy.s3 fun m2 j o => hk m2 (h1.only o j y0)
theorem code_19 (h : CodeSt x raw m0 b1 b4 m) (hx : ITy x raw) {q : Bool} {n r : Int} (n0 : 0 ≤ n) (n1 : n ≤ 1048576) {kn : Mem → Prop} (hk : ∀ m', CodeSt x raw m0 b1 b4 m' → kn m') : P10_19004 b1 0 n b4 0 r q m kn := by
  unfold P10_19004
  have e16 : n.tdiv 16 = n / 16 := Int.tdiv_eq_ediv_of_nonneg n0
  simp only [Nat.zero_add]
  rw [e16, wrap64 (by omega) (by omega), tmod_nn (a := n / 16) (b := 8) (by omega), tmod_nn (a := n / 16) (b := 10) (by omega)]
  refine kif_c _ (fun _ => newK_i fun b29 m1 hb K e O => ?_) fun _ => kif_c _ (fun _ => newK_i fun b29 m1 hb K e O => ?_) fun _ => hk m h
  · have h1 := h.keep K
    refine h1.d.lg fun c30 h30 => kif_ix (by omega) (by omega) ?_
    obtain ⟨v, hv, hp⟩ := cells_v (n := 8) kdOk (by kernel_rfl) ((n / 16 % 8).toNat * 1) (by omega)
    rw [ldI_of e (by show (n / 16 % 8).toNat * 1 < 8; omega) hv]
    refine inst_spec h30 hx (kd_ok hp).1 (kd_ok hp).2 fun c32 y hy ok _ => ?_
    obtain ⟨y1, i1, z1⟩ := h1.i
    refine i1.sg hy fun m2 j o => ?_
    have h2 := h1.only o j ok.i0
    rw [h2.d.l5]
    exact j.s5 fun m3 j3 o3 => hk m3 (h2.only o3 j3 (and_rng _ _).1)
  · have h1 := h.keep K
    refine h1.d.lg fun c30 h30 => kif_ix (by omega) (by omega) ?_
    obtain ⟨v, hv, hp⟩ := cells_v (n := 10) kdOk (by kernel_rfl) ((n / 16 % 10).toNat * 1) (by omega)
    rw [ldI_of e (by show (n / 16 % 10).toNat * 1 < 10; omega) hv]
    refine inst_spec h30 hx (kd_ok hp).1 (kd_ok hp).2 fun c32 y hy ok _ => ?_
    obtain ⟨y1, i1, z1⟩ := h1.i
    refine i1.sg hy fun m2 j o => ?_
    have h2 := h1.only o j ok.i0
    rw [j.l0]
    refine kif_c _ (fun _ => code_26 h2 hk) fun _ => ?_
    rw [j.l0]
    exact code_26 h2 hk
theorem code_13 (h : CodeSt x raw m0 b1 b4 m) (hx : ITy x raw) {q : Bool} {n r : Int} (n0 : 0 ≤ n) (n1 : n ≤ 1048576) {kn : Mem → Prop} (hk : ∀ m', CodeSt x raw m0 b1 b4 m' → kn m') : P10_13004 b1 0 n b4 0 r q m kn := by
  unfold P10_13004
  have e16 : n.tdiv 16 = n / 16 := Int.tdiv_eq_ediv_of_nonneg n0
  simp only [Nat.zero_add]
  rw [e16, wrap64 (by omega) (by omega), tmod_nn (a := n / 16) (b := 12) (by omega)]
  refine kif_c _ (fun _ => newK_i fun b29 m1 hb K e O => ?_) fun _ => kif_c _ (fun _ => code_19 h hx n0 n1 hk) fun _ => code_19 h hx n0 n1 hk
  have h1 := h.keep K
  refine h1.d.lg fun c30 h30 => kif_ix (by omega) (by omega) ?_
  obtain ⟨v, hv, hp⟩ := cells_v (n := 12) kdOk (by kernel_rfl) ((n / 16 % 12).toNat * 1) (by omega)
  rw [ldI_of e (by show (n / 16 % 12).toNat * 1 < 12; omega) hv]
  refine inst_spec h30 hx (kd_ok hp).1 (kd_ok hp).2 fun c32 y hy ok _ => ?_
  obtain ⟨y1, i1, z1⟩ := h1.i
  refine i1.sg hy fun m2 j o => ?_
  have h2 := h1.only o j ok.i0
  rw [h2.d.l1]
  refine j.s1 fun m3 j3 o3 => ?_
  have h3 := h2.only o3 j3 ok.i0
  rw [j3.l5]
  exact j3.s5 fun m4 j4 o4 => hk m4 (h3.only o4 j4 (and_rng _ _).1)
theorem code_9 (h : CodeSt x raw m0 b1 b4 m) (hx : ITy x raw) {q : Bool} {n r : Int} (n0 : 0 ≤ n) (n1 : n ≤ 1048576) {kn : Mem → Prop} (hk : ∀ m', CodeSt x raw m0 b1 b4 m' → kn m') : P10_9004 b1 0 n b4 0 r q m kn := by
  unfold P10_9004
  refine kif_c _ (fun _ => ?_) fun _ => kif_c _ (fun _ => code_13 h hx n0 n1 hk) fun _ => kif_c _ (fun _ => code_13 h hx n0 n1 hk) fun _ => code_13 h hx n0 n1 hk
  refine h.d.lg fun c13 h13 => any_spec h13 hx fun c14 y hy ok => ?_
  obtain ⟨y1, i1, z1⟩ := h.i
  exact i1.sg hy fun m2 j o => hk m2 (h.only o j ok.i0)
theorem code_6 (h : CodeSt x raw m0 b1 b4 m) (hx : ITy x raw) {q : Bool} {n r : Int} (n0 : 0 ≤ n) (n1 : n ≤ 1048576) {kr : Int → Mem → Prop} {kn : Mem → Prop} (hr : ∀ v m', 0 ≤ v → v < 4294967296 → Keeps m0 m' → kr v m') (hk : ∀ m', CodeSt x raw m0 b1 b4 m' → kn m') : P10_6004 b1 0 n b4 0 r q m kr kn := by
  unfold P10_6004
  simp only [Nat.zero_add]
  refine kif_c _ (fun _ => ?_) fun _ => kif_c _ (fun _ => code_9 h hx n0 n1 hk) fun _ => code_9 h hx n0 n1 hk
  rw [h.d.l6]
  exact hr _ m hx.r0 hx.r1 h.K
theorem word_rng (y : In) : 0 ≤ (wordS y).1 ∧ (wordS y).1 < 4294967296 := by
  unfold wordS; split
  · exact orI_rng _ _
  · decide
theorem code_27 (h : CodeSt x raw m0 b1 b4 m) {kr : Int → Mem → Prop} (hr : ∀ v m', 0 ≤ v → v < 4294967296 → Keeps m0 m' → kr v m') : P10_27102 b4 0 m kr := by
  unfold P10_27102
  obtain ⟨y, i, y0⟩ := h.i
  exact i.lg fun c hc => rword_spec hc y0 (hr _ m (word_rng y).1 (word_rng y).2 h.K)
theorem code_spec (hc : IC c x raw) (hx : ITy x raw) {k : Int → Mem → Prop} (hk : ∀ v, 0 ≤ v → v < 4294967296 → k v m) : F10 c m k := by
  unfold F10
  refine newD hc fun b2 m1 hb2 K1 d => ?_
  rw [d.l0]
  refine within_spec (by omega) (by omega) hx.k.a hx.k.b fun n n0 n1 => d.lg fun c6 h6 => plain_spec h6 hx fun c7 y hy ok => newF hy fun b10 m11 hb10 K10 i10 => ?_
  have ne : b2 ≠ b10 := fun e => by subst e; exact d.live hb10
  have S : CodeSt x raw m b2 b10 m11 := ⟨⟨y, i10, ok.i0⟩, d.keep K10, K1.trans K10, newK_none K1 hb10, ne⟩
  refine kif_c _ (fun _ => ?_) fun _ => ?_
  · exact code_6 S hx n0 n1 (fun v m' a b K => ⟨K, hk v a b⟩) fun m' S' => code_27 S' fun v m' a b K => ⟨K, hk v a b⟩
  · exact code_6 S hx n0 n1 (fun v m' a b K => ⟨K, hk v a b⟩) fun m' S' => code_27 S' fun v m' a b K => ⟨K, hk v a b⟩
end
end Go.Proofs.Ytmhlljnnpoegbaa.Am
