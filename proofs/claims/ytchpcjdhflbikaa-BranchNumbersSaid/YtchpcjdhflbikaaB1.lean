/- What package branch and the reference of chapter 5 come to: the same. Conditions: words are of 32 bits. -/
import Derived.Test.YtchpcjdhflbikaaWS
import Derived.Test.YtchpcjdhflbikaaQx5
import Derived.Test.YtchpcjdhflbikaaQx6
import Derived.Test.YtchpcjdhflbikaaQx1
namespace Go.Proofs.Ytchpcjdhflbikaa.B1
open Go.RowKit Go.Proofs.Ytchpcjdhflbikaa.Q Go.Proofs.YtchpcjdhflbikaaW.PrintWords Go.Proofs.YtchpcjdhflbikaaW.PrintLast Go.Proofs.YtchpcjdhflbikaaW.PrintMore Go.Proofs.Ytchpcjdhflbikaa.U Go.Proofs.Ytchpcjdhflbikaa.WS
set_option linter.unusedVariables false
set_option linter.unusedSimpArgs false

theorem links_f (k : Nat) (hk : 1 ≤ k) (i s t d h m : Int) : branch_Links.f k i s t d h m = some (if i = 41 ∨ i = 38 ∨ i = 39 then (31, true) else if i = 8 then (d, true) else (0, false)) := by
  obtain ⟨k, rfl⟩ : ∃ q, k = q + 1 := ⟨k - 1, by omega⟩
  unfold branch_Links.f
  simp only [branch_Links.j0, beq_iff_eq]
  by_cases a : i = 41
  · simp [a]
  by_cases b : i = 38
  · simp [b]
  by_cases c : i = 39
  · simp [c]
  by_cases e : i = 8 <;> simp [a, b, c, e]

theorem links_ref (k : Nat) (hk : 1 ≤ k) (i s t d h m : Int) : pianolaref4_Links.f k i s t d h m = some (if i = 41 ∨ i = 38 ∨ i = 39 then (31, true) else if i = 8 then (d, true) else (0, false)) := by
  obtain ⟨k, rfl⟩ : ∃ q, k = q + 1 := ⟨k - 1, by omega⟩
  unfold pianolaref4_Links.f
  simp only [pianolaref4_Links.j0, beq_iff_eq]
  by_cases a : i = 41
  · simp [a]
  by_cases b : i = 38
  · simp [b]
  by_cases c : i = 39
  · simp [c]
  by_cases e : i = 8 <;> simp [a, b, c, e]

/-- is a branch taken? -/
def takenB (i s t : Int) : Bool :=
  if i = 40 ∨ i = 41 ∨ i = 7 ∨ i = 8 then true else if i = 42 then s == t else if i = 43 then s != t else if i = 36 ∨ i = 38 then decide (wrap32 s < 0) else if i = 37 ∨ i = 39 then decide (wrap32 s ≥ 0) else if i = 44 then decide (wrap32 s ≤ 0) else if i = 45 then decide (wrap32 s > 0) else false

theorem taken_f (k : Nat) (hk : 3 ≤ k) (i x1 x2 x3 x4 x5 s t : Int) : branch_Taken.f k i x1 x2 x3 x4 x5 s t = some (takenB i s t) := by
  obtain ⟨k, rfl⟩ : ∃ q, k = q + 3 := ⟨k - 3, by omega⟩
  unfold branch_Taken.f takenB
  simp only [branch_Taken.j0, branch_Taken.j1, branch_Taken.j2, beq_iff_eq]
  by_cases a0 : i = 40
  · simp [a0]
  by_cases a1 : i = 41
  · simp [a1]
  by_cases a2 : i = 7
  · simp [a2]
  by_cases a3 : i = 8
  · simp [a3]
  by_cases a4 : i = 42
  · simp [a4]
  by_cases a5 : i = 43
  · simp [a5]
  by_cases a6 : i = 36
  · simp [a6]
  by_cases a7 : i = 38
  · simp [a7]
  by_cases a8 : i = 37
  · simp [a8]
  by_cases a9 : i = 39
  · simp [a9]
  by_cases b0 : i = 44
  · simp [b0]
  by_cases b1 : i = 45
  · simp [b1]
  simp [a0, a1, a2, a3, a4, a5, a6, a7, a8, a9, b0, b1]

theorem taken_ref (k : Nat) (hk : 3 ≤ k) (i x1 x2 x3 x4 x5 s t : Int) (hs : 0 ≤ s ∧ s < 4294967296) : pianolaref4_Taken.f k i x1 x2 x3 x4 x5 s t = some (takenB i s t) := by
  obtain ⟨k, rfl⟩ : ∃ q, k = q + 3 := ⟨k - 3, by omega⟩
  have n1 : decide (wrap32 s < 0) = decide (s ≥ 2147483648) := by rw [decide_eq_decide]; unfold wrap32; omega
  have n2 : decide (wrap32 s ≥ 0) = !decide (s ≥ 2147483648) := by
    by_cases c : s ≥ 2147483648
    · rw [decide_eq_true c, decide_eq_false (by unfold wrap32; omega)]; rfl
    · rw [decide_eq_false c, decide_eq_true (by unfold wrap32; omega)]; rfl
  have n3 : decide (wrap32 s ≤ 0) = (decide (s ≥ 2147483648) || (s == 0)) := by
    by_cases c : s ≥ 2147483648
    · rw [decide_eq_true c, decide_eq_true (by unfold wrap32; omega)]; rfl
    · rw [decide_eq_false c, Bool.false_or]
      by_cases z : s = 0
      · rw [z]; decide +kernel
      · rw [decide_eq_false (by unfold wrap32; omega), beq_eq_false_iff_ne.2 z]
  have n4 : decide (wrap32 s > 0) = (!decide (s ≥ 2147483648) && (s != 0)) := by
    by_cases c : s ≥ 2147483648
    · rw [decide_eq_true c, decide_eq_false (by unfold wrap32; omega)]; rfl
    · rw [decide_eq_false c]
      by_cases z : s = 0
      · rw [z]; decide +kernel
      · rw [decide_eq_true (by unfold wrap32; omega), bne_iff_ne.2 z]; rfl
  unfold pianolaref4_Taken.f takenB
  rw [n1, n2, n3, n4]
  generalize decide (s ≥ 2147483648) = neg
  simp only [pianolaref4_Taken.j0, pianolaref4_Taken.j1, pianolaref4_Taken.j2, beq_iff_eq]
  by_cases a0 : i = 40
  · simp [a0]
  by_cases a1 : i = 41
  · simp [a1]
  by_cases a2 : i = 7
  · simp [a2]
  by_cases a3 : i = 8
  · simp [a3]
  by_cases a4 : i = 42
  · simp [a4]
  by_cases a5 : i = 43
  · simp [a5]
  by_cases a6 : i = 36
  · simp [a6]
  by_cases a7 : i = 38
  · simp [a7]
  by_cases a8 : i = 37
  · simp [a8]
  by_cases a9 : i = 39
  · simp [a9]
  by_cases b0 : i = 44
  · cases neg <;> simp [b0]
  by_cases b1 : i = 45
  · cases neg <;> simp [b1]
  simp [a0, a1, a2, a3, a4, a5, a6, a7, a8, a9, b0, b1]

/-- which class an instruction is of -/
def classOf (i : Int) : Int :=
  if i ≤ 0 ∨ i ≥ 78 ∨ i = 11 ∨ i = 12 ∨ (54 ≤ i ∧ i ≤ 62) then 6 else if i = 7 ∨ i = 8 ∨ (36 ≤ i ∧ i ≤ 45) then 3 else if (66 ≤ i ∧ i ≤ 70) ∨ i = 74 then 4 else if (71 ≤ i ∧ i ≤ 73) ∨ i = 75 then 5 else if i = 22 ∨ i = 24 ∨ i = 46 ∨ (32 ≤ i ∧ i ≤ 35) then 2 else 1

theorem class_table : ∀ n : Fin 78, decode_Class.f 4 (n.val : Int) 0 0 0 0 0 = some (classOf n.val) := by decide +kernel

theorem class_f (k : Nat) (hk : 4 ≤ k) (i s t d h m : Int) : decode_Class.f k i s t d h m = some (classOf i) := by
  refine at_rounds (fun k => decode_Class.mono _ _ _ _ _ _ k) hk ?_
  by_cases c : i ≤ 0
  · unfold decode_Class.f classOf
    rw [if_pos c, if_pos (by omega)]; rfl
  by_cases e : i ≥ 78
  · unfold decode_Class.f classOf
    rw [if_neg c, if_pos e, if_pos (by omega)]; rfl
  have h := class_table ⟨i.toNat, by omega⟩
  rw [show (((⟨i.toNat, by omega⟩ : Fin 78).val : Nat) : Int) = i from by simp only; omega] at h
  exact h

/-- where an instruction leads -/
def targetOf (i m pc s : Int) : Int :=
  if i = 40 ∨ i = 41 then Go.bits .or .u32 (Go.bits .and .u32 ((pc + 4) % 4294967296) 4026531840) (((Go.bits .and .u32 m 67108863) * 4) % 4294967296)
  else if i = 7 ∨ i = 8 then s else if 36 ≤ i ∧ i ≤ 45 then (pc + 4 + 4 * sgn m 16) % 4294967296 else (pc + 4) % 4294967296

theorem target_f (k : Nat) (hk : 4 ≤ k) (i x1 x2 x3 x4 m pc s : Int) (hm : 0 ≤ m ∧ m < 4294967296) : branch_Target.f k i x1 x2 x3 x4 m pc s = some (targetOf i m pc s) := by
  unfold branch_Target.f targetOf
  rw [class_f k hk]
  obtain ⟨k, rfl⟩ : ∃ q, k = q + 1 := ⟨k - 1, by omega⟩
  simp only [Option.bind_some, branch_Target.j0, beq_iff_eq, if_true]
  rw [sign_f m 16 hm.1 hm.2]
  simp only [Option.bind_some]
  by_cases a0 : i = 40
  · rw [if_pos (by rw [a0]; decide), if_pos a0, if_pos (by omega)]
  by_cases a1 : i = 41
  · rw [if_pos (by rw [a1]; decide), if_neg a0, if_pos a1, if_pos (by omega)]
  by_cases a2 : i = 7
  · rw [if_pos (by rw [a2]; decide), if_neg a0, if_neg a1, if_pos a2, if_neg (by omega), if_pos (by omega)]
  by_cases a3 : i = 8
  · rw [if_pos (by rw [a3]; decide), if_neg a0, if_neg a1, if_neg a2, if_pos a3, if_neg (by omega), if_pos (by omega)]
  by_cases a4 : 36 ≤ i ∧ i ≤ 45
  · rw [if_pos (by unfold classOf; rw [if_neg (by omega), if_pos (by omega)]), if_neg a0, if_neg a1, if_neg a2, if_neg a3, if_neg (by omega), if_neg (by omega), if_pos a4]
    congr 1; omega
  · have : classOf i ≠ 3 := by
      unfold classOf
      repeat' split
      all_goals first | omega | decide
    rw [if_neg this, if_neg (by omega), if_neg (by omega), if_neg a4]

theorem target_ref (k : Nat) (hk : 4 ≤ k) (i x1 x2 x3 x4 m pc s : Int) (hm : 0 ≤ m ∧ m < 4294967296) : pianolaref4_Target.f k i x1 x2 x3 x4 m pc s = some (targetOf i m pc s) := by
  obtain ⟨k, rfl⟩ : ∃ q, k = q + 2 := ⟨k - 2, by omega⟩
  unfold pianolaref4_Target.f targetOf
  simp only [pianolaref4_Target.j0, pianolaref4_Target.j1, beq_iff_eq]
  rw [sign_ref m 16 hm.1 hm.2]
  simp only [Option.bind_some]
  by_cases a0 : i = 40
  · rw [if_pos a0, if_pos a0, if_pos (by omega)]
  by_cases a1 : i = 41
  · rw [if_neg a0, if_pos a1, if_pos (by omega)]
  by_cases a2 : i = 7
  · rw [if_neg a0, if_neg a1, if_pos a2, if_pos a2, if_neg (by omega), if_pos (by omega)]
  by_cases a3 : i = 8
  · rw [if_neg a0, if_neg a1, if_neg a2, if_pos a3, if_neg (by omega), if_pos (by omega)]
  have b1 : ¬ (i = 40 ∨ i = 41) := by omega
  have b2 : ¬ (i = 7 ∨ i = 8) := by omega
  rw [if_neg a0, if_neg a1, if_neg a2, if_neg a3, if_neg b1, if_neg b2]
  by_cases a4 : 36 ≤ i ∧ i ≤ 45
  · rw [if_pos a4]
    repeat' split
    all_goals first | rfl | omega
  · rw [if_neg a4]
    repeat' split
    all_goals first | rfl | omega

theorem same_f (k : Nat) (hk : 4 ≤ k) (i x1 x2 x3 x4 m pc s t : Int) (hm : 0 ≤ m ∧ m < 4294967296) (hs : 0 ≤ s ∧ s < 4294967296) : pianolalaw5_same.f k i x1 x2 x3 x4 m pc s t = some true := by
  unfold pianolalaw5_same.f
  rw [links_f k (by omega), links_ref k (by omega), taken_f k (by omega), taken_ref k (by omega) _ _ _ _ _ _ _ _ hs, target_f k hk _ _ _ _ _ _ _ _ hm, target_ref k hk _ _ _ _ _ _ _ _ hm]
  simp

theorem known_f (k : Nat) (hk : 10 ≤ k) : pianolalaw5_known.f k = some true :=
  at_rounds (fun k => pianolalaw5_known.mono k) hk (by decide +kernel)

end Go.Proofs.Ytchpcjdhflbikaa.B1
