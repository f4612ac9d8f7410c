/- Programs put together, images: what the laws of chapter 26 ask. Conditions: lists are lists of plain data, and short. -/
import Derived.Test.YtppikpjmlbaccaaDoorA26a
namespace Go.Proofs.YtppikpjmlbaccaaDoor.Am
set_option linter.unusedVariables false
set_option linter.unusedSimpArgs false
set_option maxRecDepth 100000

section
variable {m0 m : Mem}
theorem isI_row1 {b : Nat} {c : Nat → AV} {t : TypeId} {x : In} (e : m.obj b = some ⟨6, c, t, false⟩) (hc : InC c x) (hx : 0 ≤ x.i) : IsI m (.sl b 0 1 (.ex 1)) 1 (fun _ => x) :=
  ⟨⟨c, (IsL.row (esz := 6) e rfl rfl).s, fun i hi => by rw [show i = 0 by omega]; simpa [InC] using hc⟩, fun _ _ => hx⟩
theorem splice_in {c d : Nat → AV} {x : In} (h : InC d x) : InC (splice c 0 6 d) x := by
  obtain ⟨h0, h1, h2, h3, h4, h5⟩ := h
  exact ⟨h0, h1, h2, h3, h4, h5⟩
def addiu : In := ⟨47, 0, 1, 0, 0, 5⟩
theorem known26 {k : Bool → Mem → Prop} (hk : ∀ m', Keeps m m' → k true m') : F6 m k := by
  unfold F6
  refine newK_i fun b m1 hb K1 e1 O1 => ?_
  have no : ¬ okI (fun _ => ⟨0, 0, 0, 0, 0, 0⟩) 1 := fun h => absurd (h 0 (by omega)) (by decide +kernel)
  refine abytes_spec (by omega) (isI_row1 e1 (splice_in z6_in) (by decide)) (fun ok => absurd ok no) fun _ m2 K2 => newK_i fun b7 m3 hb7 K3 e3 O3 => ?_
  have yes : okI (fun _ => addiu) 1 := fun i _ => by show (wordS addiu).2 = true; decide +kernel
  refine abytes_spec (by omega) (isI_row1 (x := addiu) e3 (splice_in ⟨rfl, rfl, rfl, rfl, rfl, rfl⟩) (by decide)) (fun _ w m4 g1 K4 o4 => ?_) fun nok => absurd yes nok
  refine kif_t rfl (kif_t rfl (kstr_b (n := 4) g1.r (WB (wsOf fun _ => addiu)) (fun i _ => ⟨rfl, WB_rng _ _⟩) (kif_t (by decide +kernel) ?_)))
  unfold F12
  refine ⟨Keeps.self _, kif_t (by decide +kernel) ⟨Keeps.self _, ?_⟩⟩
  dsimp only
  rw [show (bits .and .u32 (IntKind.wrap .u32 (IntKind.wrap .i64 ((IntKind.wrap .i64 (1 - 0)) - 1))) 65535 == 0) = true by decide +kernel]
  exact hk m4 (K1.trans (K2.trans (K3.trans K4)))

/-! ### programs put together -/
theorem of_back {x : In} (hi : 0 ≤ x.i) (h : (wordS x).2 = true) : ofS (wordS x).1 = x := by
  unfold wordS at h ⊢
  split at h
  · rename_i c
    rw [if_pos c]
    exact of_word ((right_iff x hi).1 c)
  · cases h
/-! ### images -/
end
end Go.Proofs.YtppikpjmlbaccaaDoor.Am
