/- WordNumbers: the printed function answers true. No conditions. -/
import Derived.Test.YtdagmhgmegpdpaaW2
namespace Go.Proofs.Ytdagmhgmegpdpaa.Pure
open Go.RowKit Go.Proofs.Ytdagmhgmegpdpaa.Q Go.Proofs.YtdagmhgmegpdpaaW.PrintWords Go.Proofs.YtdagmhgmegpdpaaW.PrintLast Go.Proofs.YtdagmhgmegpdpaaW.PrintMore Go.Proofs.Ytdagmhgmegpdpaa.U Go.Proofs.Ytdagmhgmegpdpaa.W1 Go.Proofs.Ytdagmhgmegpdpaa.W2
set_option linter.unusedVariables false
set_option linter.unusedSimpArgs false

theorem numbers_l2 (i : Int) (hi : 0 ≤ i ∧ i < 20) (k0 : Nat) (hk : 40 ≤ k0) (r : Option Bool) (hr : ∀ k, k0 ≤ k → pianolalaw1_WordNumbers.l0 k (i + 1) = r) :
    ∀ (d k : Nat), k0 + d < k → d ≤ 110 → pianolalaw1_WordNumbers.l2 k i (70 - (d : Int)) = r
  | 0, k, hk', _ => by
    obtain ⟨k, rfl⟩ : ∃ m, k = m + 1 := ⟨k - 1, by omega⟩
    simp only [pianolalaw1_WordNumbers.l2]
    rw [if_neg (by omega), show wrap64 (i + 1) = i + 1 by unfold wrap64; omega]
    exact hr k (by omega)
  | d + 1, k, hk', hd => by
    obtain ⟨k, rfl⟩ : ∃ m, k = m + 1 := ⟨k - 1, by omega⟩
    simp only [pianolalaw1_WordNumbers.l2]
    obtain ⟨u, e1, u0⟩ := edge_f i (by omega) (by omega)
    rw [if_pos (by omega), e1]
    simp only [Option.bind_some]
    rw [same_f k u 5 _ (by omega) u0 (by omega) (by omega) (by omega)]
    simp only [Option.bind_some]
    rw [if_pos trivial, show wrap64 (70 - ((d + 1 : Nat) : Int) + 1) = 70 - (d : Int) by unfold wrap64; omega]
    exact numbers_l2 i hi k0 hk r hr d k (by omega) (by omega)

theorem numbers_l1 (i : Int) (hi : 0 ≤ i ∧ i < 20) (k0 : Nat) (hk : 40 ≤ k0) (r : Option Bool) (hr : ∀ k, k0 ≤ k → pianolalaw1_WordNumbers.l0 k (i + 1) = r) :
    ∀ (d k : Nat), k0 + 111 + d < k → d ≤ 20 → pianolalaw1_WordNumbers.l1 k i (20 - (d : Int)) = r
  | 0, k, hk', _ => by
    obtain ⟨k, rfl⟩ : ∃ m, k = m + 1 := ⟨k - 1, by omega⟩
    simp only [pianolalaw1_WordNumbers.l1]
    rw [if_neg (by omega)]
    exact numbers_l2 i hi k0 hk r hr 110 k (by omega) (by omega)
  | d + 1, k, hk', hd => by
    obtain ⟨k, rfl⟩ : ∃ m, k = m + 1 := ⟨k - 1, by omega⟩
    simp only [pianolalaw1_WordNumbers.l1]
    obtain ⟨u, e1, u0⟩ := edge_f i (by omega) (by omega)
    obtain ⟨v, e2, v0⟩ := edge_f (20 - ((d + 1 : Nat) : Int)) (by omega) (by omega)
    rw [if_pos (by omega), e1]
    simp only [Option.bind_some]
    rw [e2]
    simp only [Option.bind_some]
    rw [same_f k u v _ (by omega) u0 v0 (by unfold wrap64; omega) (by unfold wrap64; omega)]
    simp only [Option.bind_some]
    rw [if_pos trivial, show wrap64 (20 - ((d + 1 : Nat) : Int) + 1) = 20 - (d : Int) by unfold wrap64; omega]
    exact numbers_l1 i hi k0 hk r hr d k (by omega) (by omega)

theorem numbers_l0 : ∀ (d k : Nat), 40 + 140 * d < k → d ≤ 20 → pianolalaw1_WordNumbers.l0 k (20 - (d : Int)) = some true
  | 0, k, hk', _ => by
    obtain ⟨k, rfl⟩ : ∃ m, k = m + 1 := ⟨k - 1, by omega⟩
    simp only [pianolalaw1_WordNumbers.l0]
    rw [if_neg (by omega), known_f]; rfl
  | d + 1, k, hk', hd => by
    obtain ⟨k, rfl⟩ : ∃ m, k = m + 1 := ⟨k - 1, by omega⟩
    simp only [pianolalaw1_WordNumbers.l0]
    rw [if_pos (by omega)]
    refine numbers_l1 (20 - ((d + 1 : Nat) : Int)) (by omega) (41 + 140 * d) (by omega) (some true) (fun k hk => ?_) 20 k (by omega) (by omega)
    rw [show (20 - ((d + 1 : Nat) : Int) + 1) = 20 - (d : Int) by omega]
    exact numbers_l0 d k (by omega) (by omega)

theorem WordNumbers : pianolalaw1_WordNumbers.Pure :=
  ⟨3000, by unfold pianolalaw1_WordNumbers.f; exact numbers_l0 20 3000 (by omega) (by omega)⟩

end Go.Proofs.Ytdagmhgmegpdpaa.Pure
