/- BranchTells: the law's call returns true at every drawn instruction and every three words. Conditions: the arguments are of their kinds. -/
import Derived.Test.YtchpcjdhflbikaaB1
import Derived.Test.YtchpcjdhflbikaaKeep
import Derived.Test.YtchpcjdhflbikaaQx11
namespace Go.Proofs.Ytchpcjdhflbikaa.Pure
open Go.RowKit Go.Proofs.Ytchpcjdhflbikaa.Q Go.Proofs.YtchpcjdhflbikaaW.PrintWords Go.Proofs.YtchpcjdhflbikaaW.PrintLast Go.Proofs.YtchpcjdhflbikaaW.PrintMore Go.Proofs.Ytchpcjdhflbikaa.U Go.Proofs.Ytchpcjdhflbikaa.Keep Go.Proofs.Ytchpcjdhflbikaa.B1
set_option linter.unusedVariables false
set_option linter.unusedSimpArgs false

theorem and_range (x m : Int) (hx : 0 ≤ x ∧ x < 4294967296) (hm : 0 ≤ m ∧ m < 4294967296) : 0 ≤ Go.bits .and .u32 x m ∧ Go.bits .and .u32 x m < 4294967296 := by
  obtain ⟨a, rfl⟩ := Int.eq_ofNat_of_zero_le hx.1
  obtain ⟨b, rfl⟩ := Int.eq_ofNat_of_zero_le hm.1
  rw [and_u32 a b (by omega) (by omega)]
  have : a &&& b ≤ a := Nat.and_le_left
  omega

theorem BranchTells (a0_0 a0_1 a0_2 a0_3 a0_4 a0_5 a0_6 pc s t : Int) (W : World) (w0 : (Lit.int .i64 a0_0).wf = true) (w1 : (Lit.int .i64 a0_1).wf = true) (w2 : (Lit.int .i64 a0_2).wf = true) (w3 : (Lit.int .i64 a0_3).wf = true) (w4 : (Lit.int .i64 a0_4).wf = true) (w5 : (Lit.int .u32 a0_5).wf = true) (w6 : (Lit.int .u32 a0_6).wf = true) (v1 : (Lit.int .u32 pc).wf = true) (v2 : (Lit.int .u32 s).wf = true) (v3 : (Lit.int .u32 t).wf = true) :
    Calls Try.prog 4 #[.agg #[.int .i64 a0_0, .int .i64 a0_1, .int .i64 a0_2, .int .i64 a0_3, .int .i64 a0_4, .int .u32 a0_5, .int .u32 a0_6], .int .u32 pc, .int .u32 s, .int .u32 t] W fun e w' => e = .returned (.bool true) ∧ Below W.heap.size W w' := by
  refine pianolalaw5_BranchTells.calls 200 a0_0 a0_1 a0_2 a0_3 a0_4 a0_5 a0_6 pc s t true W ?_
  obtain ⟨kind, cs, ct, cd, ch, imm, e, D⟩ := any_f 200 (by omega) a0_0 a0_1 a0_2 a0_3 a0_4 a0_5 a0_6 (wf_i64 w0) (wf_i64 w1) (wf_i64 w2) (wf_i64 w3) (wf_i64 w4) (wf_u32 w5)
  have hs := wf_u32 v2
  have hm : 0 ≤ imm ∧ imm < 4294967296 := by have := D.imm; have := most_pos kind; omega
  unfold pianolalaw5_BranchTells.f
  rw [e]
  simp only [Option.bind_some]
  rw [same_f 200 (by omega) _ _ _ _ _ _ _ _ _ hm hs, same_f 200 (by omega) _ _ _ _ _ _ _ _ _ hm hs, same_f 200 (by omega) _ _ _ _ _ _ _ _ _ hm (and_range _ _ hs (by omega)), known_f 200 (by omega)]
  rfl

end Go.Proofs.Ytchpcjdhflbikaa.Pure
