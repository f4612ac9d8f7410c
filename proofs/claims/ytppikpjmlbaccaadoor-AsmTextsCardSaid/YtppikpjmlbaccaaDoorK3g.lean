/- Any, Plain, Code of pianolakeep; a word and an instruction as the laws ask for them. Conditions: what is handed in is plain data. -/
import Derived.Test.YtppikpjmlbaccaaDoorK3f
namespace Go.Proofs.YtppikpjmlbaccaaDoor.Am
set_option linter.unusedVariables false
set_option linter.unusedSimpArgs false
set_option maxRecDepth 100000

theorem cells_v {n : Nat} {c : Nat → AV} (p : Int → Bool) (h : ((List.range n).all fun j => match c j with | .flat (.int .i64 v) => p v | _ => false) = true) : ∀ j, j < n → ∃ v, c j = AV.flat (.int .i64 v) ∧ p v = true := by
  intro j hj
  have := List.all_eq_true.1 h j (List.mem_range.2 hj)
  revert this
  generalize c j = a
  intro h
  split at h
  · exact ⟨_, rfl, h⟩
  · cases h
def kdOk (v : Int) : Bool := decide (0 < v) && decide (v < 78)
theorem kd_ok {v : Int} (h : kdOk v = true) : 0 < v ∧ v < 78 := by unfold kdOk at h; simpa using h

section
variable {m : Mem} {c : Nat → AV} {x : In} {raw : Int}
theorem any_spec (hc : IC c x raw) (hx : ITy x raw) {k : (Nat → AV) → Mem → Prop} (hk : ∀ c y, InC c y → OK y → k c m) : F4 c m k := by
  unfold F4
  refine newD hc fun b2 m1 hb2 K1 d => newZ z6_in fun b4 m3 hb4 K4 i4 O4 => ⟨fun b' => b' = b2, rfl, ?_⟩
  have d3 := d.keep K4
  refine d3.lg fun c6 h6 => ⟨rfl, ?_⟩
  rw [d3.l0]
  refine within_spec (by omega) (by omega) hx.k.a hx.k.b fun v v0 v1 => ⟨fun _ _ _ => rfl, ?_⟩
  rw [tmod_nn v0, wrap64 (by omega) (by omega)]
  refine inst_spec h6 hx (by omega) (by omega) fun c10 y hy ok _ => ⟨fun _ _ _ => rfl, ?_⟩
  exact i4.sg hy fun m2 j o => j.lg fun c hc => ⟨Only.keeps (K1.trans K4) (newK_none K1 hb4) o, hc.inDom m, hk c y hc ok⟩
/-! ### Code -/
structure CodeSt (x : In) (raw : Int) (m0 : Mem) (b1 b4 : Nat) (m : Mem) : Prop where
  i : ∃ y, InB m b4 y ∧ 0 ≤ y.i
  d : IB m b1 x raw
  K : Keeps m0 m
  n4 : m0.obj b4 = none
  ne : b1 ≠ b4
variable {m0 : Mem} {b1 b4 : Nat}
theorem CodeSt.only {m' : Mem} (h : CodeSt x raw m0 b1 b4 m) (O : Only m b4 m') {y : In} (hy : InB m' b4 y) (h0 : 0 ≤ y.i) : CodeSt x raw m0 b1 b4 m' := ⟨⟨y, hy, h0⟩, h.d.only O h.ne, Only.keeps h.K h.n4 O, h.n4, h.ne⟩
theorem CodeSt.keep {m' : Mem} (h : CodeSt x raw m0 b1 b4 m) (K : Keeps m m') : CodeSt x raw m0 b1 b4 m' := by
  obtain ⟨y, hy, h0⟩ := h.i
  exact ⟨⟨y, hy.keep K, h0⟩, h.d.keep K, h.K.trans K, h.n4, h.ne⟩
theorem word_rng (y : In) : 0 ≤ (wordS y).1 ∧ (wordS y).1 < 4294967296 := by
  unfold wordS; split
  · exact orI_rng _ _
  · decide
end
end Go.Proofs.YtppikpjmlbaccaaDoor.Am
