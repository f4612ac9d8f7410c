/- AluTells: the law's call returns true at every drawn instruction, every four words and every two numbers. Conditions: the arguments are of their kinds. -/
import Derived.Test.YtimbfflnlalanaaA1
import Derived.Test.YtimbfflnlalanaaKeep
import Derived.Test.YtimbfflnlalanaaKeepPlain
import Derived.Test.YtimbfflnlalanaaQx24

namespace Go.Proofs.Ytimbfflnlalanaa.Pure
open Go.RowKit Go.Proofs.Ytimbfflnlalanaa.Q Go.Proofs.YtimbfflnlalanaaW.PrintWords Go.Proofs.YtimbfflnlalanaaW.PrintLast Go.Proofs.YtimbfflnlalanaaW.PrintMore Go.Proofs.Ytimbfflnlalanaa.U Go.Proofs.Ytimbfflnlalanaa.Keep Go.Proofs.Ytimbfflnlalanaa.KeepPlain Go.Proofs.Ytimbfflnlalanaa.A1
set_option linter.unusedVariables false
set_option linter.unusedSimpArgs false

theorem AluTells (a0_0 a0_1 a0_2 a0_3 a0_4 a0_5 a0_6 s t hi lo a b : Int) (W : World) (w0 : (Lit.int .i64 a0_0).wf = true) (w1 : (Lit.int .i64 a0_1).wf = true) (w2 : (Lit.int .i64 a0_2).wf = true) (w3 : (Lit.int .i64 a0_3).wf = true) (w4 : (Lit.int .i64 a0_4).wf = true) (w5 : (Lit.int .u32 a0_5).wf = true) (w6 : (Lit.int .u32 a0_6).wf = true) (v1 : (Lit.int .u32 s).wf = true) (v2 : (Lit.int .u32 t).wf = true) (v3 : (Lit.int .u32 hi).wf = true) (v4 : (Lit.int .u32 lo).wf = true) (v5 : (Lit.int .i64 a).wf = true) (v6 : (Lit.int .i64 b).wf = true) :
    Calls Try.prog 6 #[.agg #[.int .i64 a0_0, .int .i64 a0_1, .int .i64 a0_2, .int .i64 a0_3, .int .i64 a0_4, .int .u32 a0_5, .int .u32 a0_6], .int .u32 s, .int .u32 t, .int .u32 hi, .int .u32 lo, .int .i64 a, .int .i64 b] W fun e w' => e = .returned (.bool true) ∧ Below W.heap.size W w' := by
  refine pianolalaw4_AluTells.calls 300 a0_0 a0_1 a0_2 a0_3 a0_4 a0_5 a0_6 s t hi lo a b true W ?_
  obtain ⟨kind, cs, ct, cd, ch, imm, e, D⟩ := any_f 300 (by omega) a0_0 a0_1 a0_2 a0_3 a0_4 a0_5 a0_6 (wf_i64 w0) (wf_i64 w1) (wf_i64 w2) (wf_i64 w3) (wf_i64 w4) (wf_u32 w5)
  obtain ⟨kind2, cs2, ct2, cd2, ch2, imm2, e2, D2, _⟩ := plain_f 300 (by omega) a0_0 a0_1 a0_2 a0_3 a0_4 a0_5 a0_6 (wf_i64 w0) (wf_i64 w1) (wf_i64 w2) (wf_i64 w3) (wf_i64 w4) (wf_u32 w5)
  have hs := wf_u32 v1
  have ht := wf_u32 v2
  have hm : 0 ≤ imm ∧ imm < 4294967296 := by have := D.imm; have := most_pos kind; omega
  have hm2 : 0 ≤ imm2 ∧ imm2 < 4294967296 := by have := D2.imm; have := most_pos kind2; omega
  have hh : -9223372036854775808 ≤ ch ∧ ch < 9223372036854775808 := by have := D.h; omega
  have hh2 : -9223372036854775808 ≤ ch2 ∧ ch2 < 9223372036854775808 := by have := D2.h; omega
  obtain ⟨u, e3, u0⟩ := edge_f a (wf_i64 v5).1 (wf_i64 v5).2
  obtain ⟨v, e4, v0⟩ := edge_f b (wf_i64 v6).1 (wf_i64 v6).2
  unfold pianolalaw4_AluTells.f
  simp only [e, e2, e3, e4, Option.bind_some, same_f 300 (by omega) _ _ _ _ _ _ _ _ _ _ hm hs ht hh, same_f 300 (by omega) _ _ _ _ _ _ _ _ _ _ hm u0 ht hh, same_f 300 (by omega) _ _ _ _ _ _ _ _ _ _ hm hs v0 hh, same_f 300 (by omega) _ _ _ _ _ _ _ _ _ _ hm2 hs ht hh2, known_f 300 (by omega), if_true]

end Go.Proofs.Ytimbfflnlalanaa.Pure
