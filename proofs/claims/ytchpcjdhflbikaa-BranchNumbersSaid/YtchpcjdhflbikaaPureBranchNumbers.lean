/- BranchNumbers: the printed function answers true. No conditions. -/
import Derived.Test.YtchpcjdhflbikaaB1
import Derived.Test.YtchpcjdhflbikaaQx6
namespace Go.Proofs.Ytchpcjdhflbikaa.Pure
open Go.RowKit Go.Proofs.Ytchpcjdhflbikaa.Q Go.Proofs.YtchpcjdhflbikaaW.PrintWords Go.Proofs.YtchpcjdhflbikaaW.PrintLast Go.Proofs.YtchpcjdhflbikaaW.PrintMore Go.Proofs.Ytchpcjdhflbikaa.U Go.Proofs.Ytchpcjdhflbikaa.B1
set_option linter.unusedVariables false
set_option linter.unusedSimpArgs false

def imms : List Int := [0, 1, 32767, 32768, 65535, 67108863]
def words9 : List Int := [0, 1, 4, 2147483647, 2147483648, 4294967295, 4294967292, 268435452, 2147484672]

theorem rd_in (l : List Int) (h : ∀ x ∈ l, 0 ≤ x ∧ x < 4294967296) (i : Int) (h0 : 0 ≤ i) (h1 : i < l.length) : 0 ≤ rd l i ∧ rd l i < 4294967296 := by
  have hl : i.toNat < l.length := by omega
  unfold rd
  rw [List.getD_eq_getElem?_getD, List.getElem?_eq_getElem hl]
  exact h _ (List.getElem_mem hl)

theorem next_of (i n : Int) (h0 : -10 ≤ i) (h1 : i < 1000) : wrap64 (i + 1) = i + 1 := by unfold wrap64; omega

theorem l3_ev (x1 : List Int) (x2 x4 x6 : Int) (x14 : List Int) (x15 x16 : Int) (x20 : List Int) (x21 x22 : Int) (h6 : 0 ≤ x6 ∧ x6 < 4294967296) (r : Bool)
    (hr : Ev (fun k => pianolalaw5_BranchNumbers.l2 k x1 x2 x4 x14 x15 x16 x20 x21 (wrap64 (x22 + 1))) r) :
    ∀ d : Nat, d ≤ 6 → Ev (fun k => pianolalaw5_BranchNumbers.l3 k x1 x2 x4 x6 x14 x15 x16 x20 x21 x22 imms 6 (6 - (d : Int))) r := by
  intro d
  induction d with
  | zero =>
    intro _
    refine Ev.step (fun k => ?_) hr
    simp only [pianolalaw5_BranchNumbers.l3]
    rw [if_neg (by omega)]
  | succ d ih =>
    intro hd
    obtain ⟨K, hK⟩ := ih (by omega)
    refine ⟨max K 4 + 1, fun n hn => ?_⟩
    obtain ⟨m, rfl⟩ : ∃ m, n = m + 1 := ⟨n - 1, by omega⟩
    show pianolalaw5_BranchNumbers.l3 (m + 1) x1 x2 x4 x6 x14 x15 x16 x20 x21 x22 imms 6 (6 - ((d + 1 : Nat) : Int)) = some r
    simp only [pianolalaw5_BranchNumbers.l3]
    have hi := rd_in imms (by decide) (6 - ((d + 1 : Nat) : Int)) (by omega) (by simp [imms]; omega)
    rw [if_pos (by omega), if_pos (by omega), if_pos (by simp [imms]; omega), same_f m (by omega) _ _ _ _ _ _ _ _ _ hi h6, same_f m (by omega) _ _ _ _ _ _ _ _ _ hi h6]
    simp only [Option.bind_some, if_true]
    rw [next_of _ 0 (by omega) (by omega), show 6 - ((d + 1 : Nat) : Int) + 1 = 6 - (d : Int) by omega]
    exact hK m (by omega)

theorem l2_ev (x2 x4 x16 : Int) (x14 : List Int) (x15 : Int) (r : Bool)
    (hr : Ev (fun k => pianolalaw5_BranchNumbers.l1 k words9 x2 x14 x15 (wrap64 (x16 + 1))) r) :
    ∀ d : Nat, d ≤ 9 → Ev (fun k => pianolalaw5_BranchNumbers.l2 k words9 x2 x4 x14 x15 x16 words9 9 (9 - (d : Int))) r := by
  intro d
  induction d with
  | zero =>
    intro _
    refine Ev.step (fun k => ?_) hr
    simp only [pianolalaw5_BranchNumbers.l2]
    rw [if_neg (by omega)]
  | succ d ih =>
    intro hd
    have h := ih (by omega)
    rw [show (9 : Int) - (d : Int) = wrap64 (9 - ((d + 1 : Nat) : Int) + 1) by unfold wrap64; omega] at h
    have hi := rd_in words9 (by decide) (9 - ((d + 1 : Nat) : Int)) (by omega) (by simp [words9]; omega)
    have h3 := l3_ev words9 x2 x4 (rd words9 (9 - ((d + 1 : Nat) : Int))) x14 x15 x16 words9 9 (9 - ((d + 1 : Nat) : Int)) hi r h 6 (by omega)
    refine Ev.step (fun k => ?_) h3
    simp only [pianolalaw5_BranchNumbers.l2]
    rw [if_pos (by omega), if_pos (by omega), if_pos (by simp [words9]; omega)]
    rfl

theorem l1_ev (x2 : Int) (r : Bool) (hr : Ev (fun k => pianolalaw5_BranchNumbers.l0 k words9 (wrap64 (x2 + 1))) r) :
    ∀ d : Nat, d ≤ 9 → Ev (fun k => pianolalaw5_BranchNumbers.l1 k words9 x2 words9 9 (9 - (d : Int))) r := by
  intro d
  induction d with
  | zero =>
    intro _
    refine Ev.step (fun k => ?_) hr
    simp only [pianolalaw5_BranchNumbers.l1]
    rw [if_neg (by omega)]
  | succ d ih =>
    intro hd
    have h := ih (by omega)
    rw [show (9 : Int) - (d : Int) = wrap64 (9 - ((d + 1 : Nat) : Int) + 1) by unfold wrap64; omega] at h
    have h2 := l2_ev x2 (rd words9 (9 - ((d + 1 : Nat) : Int))) (9 - ((d + 1 : Nat) : Int)) words9 9 r h 9 (by omega)
    refine Ev.step (fun k => ?_) h2
    simp only [pianolalaw5_BranchNumbers.l1]
    rw [if_pos (by omega), if_pos (by omega), if_pos (by simp [words9]; omega)]
    rfl

theorem l0_ev : ∀ d : Nat, d ≤ 81 → Ev (fun k => pianolalaw5_BranchNumbers.l0 k words9 (80 - (d : Int))) true := by
  intro d
  induction d with
  | zero =>
    intro _
    refine ⟨11, fun n hn => ?_⟩
    obtain ⟨m, rfl⟩ : ∃ m, n = m + 1 := ⟨n - 1, by omega⟩
    show pianolalaw5_BranchNumbers.l0 (m + 1) words9 (80 - ((0 : Nat) : Int)) = some true
    simp only [pianolalaw5_BranchNumbers.l0]
    rw [if_neg (by omega), known_f m (by omega)]; rfl
  | succ d ih =>
    intro hd
    have h := ih (by omega)
    rw [show (80 : Int) - (d : Int) = wrap64 (80 - ((d + 1 : Nat) : Int) + 1) by unfold wrap64; omega] at h
    have h1 := l1_ev (80 - ((d + 1 : Nat) : Int)) true h 9 (by omega)
    refine Ev.step (fun k => ?_) h1
    simp only [pianolalaw5_BranchNumbers.l0]
    rw [if_pos (by omega)]
    rfl

theorem BranchNumbers : pianolalaw5_BranchNumbers.Pure := by
  obtain ⟨K, h⟩ := l0_ev 81 (by omega)
  exact ⟨K, h K (Nat.le_refl _)⟩

end Go.Proofs.Ytchpcjdhflbikaa.Pure
