/- AluNumbers: the printed function answers true. No conditions. -/
import Derived.Test.YtimbfflnlalanaaA1
import Derived.Test.YtimbfflnlalanaaQx8

namespace Go.Proofs.Ytimbfflnlalanaa.Pure
open Go.RowKit Go.Proofs.Ytimbfflnlalanaa.Q Go.Proofs.YtimbfflnlalanaaW.PrintWords Go.Proofs.YtimbfflnlalanaaW.PrintLast Go.Proofs.YtimbfflnlalanaaW.PrintMore Go.Proofs.Ytimbfflnlalanaa.U Go.Proofs.Ytimbfflnlalanaa.A1
set_option linter.unusedVariables false
set_option linter.unusedSimpArgs false

theorem and_small (v : Int) (h : 0 ≤ v ∧ v < 4294967296) : 0 ≤ Go.bits .and .u32 v 65535 ∧ Go.bits .and .u32 v 65535 < 4294967296 := by
  rw [and_ffff v h.1 h.2]; omega

theorem l2_ev (x1 x2 : Int) (h2 : 0 ≤ x2 ∧ x2 < 13) (r : Bool) (hr : Ev (fun k => pianolalaw4_AluNumbers.l1 k x1 (wrap64 (x2 + 1))) r) :
    ∀ d : Nat, d ≤ 13 → Ev (fun k => pianolalaw4_AluNumbers.l2 k x1 x2 (13 - (d : Int))) r := by
  intro d
  induction d with
  | zero =>
    intro _
    refine Ev.step (fun k => ?_) hr
    simp only [pianolalaw4_AluNumbers.l2]
    rw [if_neg (by omega)]
  | succ d ih =>
    intro hd
    obtain ⟨K, hK⟩ := ih (by omega)
    refine ⟨max K 60 + 1, fun n hn => ?_⟩
    obtain ⟨m, rfl⟩ : ∃ m, n = m + 1 := ⟨n - 1, by omega⟩
    show pianolalaw4_AluNumbers.l2 (m + 1) x1 x2 (13 - ((d + 1 : Nat) : Int)) = some r
    simp only [pianolalaw4_AluNumbers.l2]
    obtain ⟨u, e1, u0⟩ := edge_f (13 - ((d + 1 : Nat) : Int)) (by omega) (by omega)
    obtain ⟨v, e2, v0⟩ := edge_f x2 (by omega) (by omega)
    rw [if_pos (by omega), e1, e2]
    simp only [Option.bind_some]
    rw [same_f m (by omega) _ _ _ _ _ _ _ _ _ _ (and_small u u0) v0 u0 (by unfold wrap64; omega)]
    simp only [Option.bind_some, if_true]
    rw [show wrap64 (13 - ((d + 1 : Nat) : Int) + 1) = 13 - (d : Int) by unfold wrap64; omega]
    exact hK m (by omega)

theorem l1_ev (x1 : Int) (r : Bool) (hr : Ev (fun k => pianolalaw4_AluNumbers.l0 k (wrap64 (x1 + 1))) r) :
    ∀ d : Nat, d ≤ 13 → Ev (fun k => pianolalaw4_AluNumbers.l1 k x1 (13 - (d : Int))) r := by
  intro d
  induction d with
  | zero =>
    intro _
    refine Ev.step (fun k => ?_) hr
    simp only [pianolalaw4_AluNumbers.l1]
    rw [if_neg (by omega)]
  | succ d ih =>
    intro hd
    have h := ih (by omega)
    rw [show (13 : Int) - (d : Int) = wrap64 (13 - ((d + 1 : Nat) : Int) + 1) by unfold wrap64; omega] at h
    have h2 := l2_ev x1 (13 - ((d + 1 : Nat) : Int)) (by omega) r h 13 (by omega)
    refine Ev.step (fun k => ?_) h2
    simp only [pianolalaw4_AluNumbers.l1]
    rw [if_pos (by omega)]
    rfl

theorem l0_ev : ∀ d : Nat, d ≤ 81 → Ev (fun k => pianolalaw4_AluNumbers.l0 k (80 - (d : Int))) true := by
  intro d
  induction d with
  | zero =>
    intro _
    refine ⟨21, fun n hn => ?_⟩
    obtain ⟨m, rfl⟩ : ∃ m, n = m + 1 := ⟨n - 1, by omega⟩
    show pianolalaw4_AluNumbers.l0 (m + 1) (80 - ((0 : Nat) : Int)) = some true
    simp only [pianolalaw4_AluNumbers.l0]
    rw [if_neg (by omega), known_f m (by omega)]; rfl
  | succ d ih =>
    intro hd
    have h := ih (by omega)
    rw [show (80 : Int) - (d : Int) = wrap64 (80 - ((d + 1 : Nat) : Int) + 1) by unfold wrap64; omega] at h
    have h1 := l1_ev (80 - ((d + 1 : Nat) : Int)) true h 13 (by omega)
    refine Ev.step (fun k => ?_) h1
    simp only [pianolalaw4_AluNumbers.l0]
    rw [if_pos (by omega)]
    rfl

theorem AluNumbers : pianolalaw4_AluNumbers.Pure := by
  obtain ⟨K, h⟩ := l0_ev 81 (by omega)
  exact ⟨K, h K (Nat.le_refl _)⟩

end Go.Proofs.Ytimbfflnlalanaa.Pure
