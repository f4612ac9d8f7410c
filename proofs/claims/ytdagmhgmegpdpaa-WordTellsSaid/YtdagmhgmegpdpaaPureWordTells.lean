/- WordTells: the printed function answers true at every two words and three numbers. Conditions: the arguments are of their kinds. -/
import Derived.Test.YtdagmhgmegpdpaaW2
namespace Go.Proofs.Ytdagmhgmegpdpaa.Pure
open Go.RowKit Go.Proofs.Ytdagmhgmegpdpaa.Q Go.Proofs.YtdagmhgmegpdpaaW.PrintWords Go.Proofs.YtdagmhgmegpdpaaW.PrintLast Go.Proofs.YtdagmhgmegpdpaaW.PrintMore Go.Proofs.Ytdagmhgmegpdpaa.U Go.Proofs.Ytdagmhgmegpdpaa.W1 Go.Proofs.Ytdagmhgmegpdpaa.W2
set_option linter.unusedVariables false
set_option linter.unusedSimpArgs false

theorem shr_range (a n : Int) (ha : 0 ≤ a ∧ a < 4294967296) : 0 ≤ shr .u32 a n ∧ shr .u32 a n < 4294967296 := by
  unfold shr
  have h := two_pow_pos (min n.toNat (IntKind.bits .u32))
  generalize (2 : Int) ^ min n.toNat (IntKind.bits .u32) = p at *
  refine ⟨Int.ediv_nonneg ha.1 (by omega), ?_⟩
  have := Int.ediv_le_self p ha.1
  omega

theorem WordTells : pianolalaw1_WordTells.Pure := by
  intro a b n i k w0 w1 w2 w3 w4
  have ha := wf_u32 w0
  have hb := wf_u32 w1
  have hn := wf_i64 w2
  have hi := wf_i64 w3
  have hk := wf_i64 w4
  refine ⟨40, ?_⟩
  unfold pianolalaw1_WordTells.f
  obtain ⟨u, e1, u0⟩ := edge_f i hi.1 hi.2
  obtain ⟨v, e2, v0⟩ := edge_f k hk.1 hk.2
  rw [same_f 40 a b n (by omega) ha hb hn.1 hn.2]
  simp only [Option.bind_some]
  rw [if_pos trivial, e1]
  simp only [Option.bind_some]
  rw [same_f 40 u b n (by omega) u0 hb hn.1 hn.2]
  simp only [Option.bind_some]
  rw [if_pos trivial, e2]
  simp only [Option.bind_some]
  rw [same_f 40 a v n (by omega) ha v0 hn.1 hn.2]
  simp only [Option.bind_some]
  rw [if_pos trivial, and31_i64, and31_i64, if_pos (by rw [wrap_u64]; omega), if_pos (by rw [wrap_u64]; omega)]
  rw [same_f 40 _ _ k (by omega) (shr_range a _ ha) (shr_range b _ hb) hk.1 hk.2]
  simp only [Option.bind_some]
  rw [if_pos trivial, known_f]; rfl

end Go.Proofs.Ytdagmhgmegpdpaa.Pure
