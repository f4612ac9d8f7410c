/- BranchTwos: the law's call returns true at every three words and every drawn instruction. Conditions: the arguments are of their kinds. -/
import Derived.Test.YtchpcjdhflbikaaB1
import Derived.Test.YtchpcjdhflbikaaKeep
import Derived.Test.YtchpcjdhflbikaaQx12
namespace Go.Proofs.Ytchpcjdhflbikaa.Pure
open Go.RowKit Go.Proofs.Ytchpcjdhflbikaa.Q Go.Proofs.YtchpcjdhflbikaaW.PrintWords Go.Proofs.YtchpcjdhflbikaaW.PrintLast Go.Proofs.YtchpcjdhflbikaaW.PrintMore Go.Proofs.Ytchpcjdhflbikaa.U Go.Proofs.Ytchpcjdhflbikaa.WS Go.Proofs.Ytchpcjdhflbikaa.Keep Go.Proofs.Ytchpcjdhflbikaa.B1
set_option linter.unusedVariables false
set_option linter.unusedSimpArgs false

def plains : List Int := [1, 2, 3, 4, 5, 6, 9, 10, 13, 14, 15, 16, 17, 18, 19, 20, 21, 23, 25, 26, 27, 28, 29, 30, 31, 47, 48, 49, 50, 51, 52, 53, 63, 64, 65, 76, 77]

theorem plain_f (k : Nat) (hk : 200 ≤ k) (a0 a1 a2 a3 a4 a5 a6 : Int) (w0 : -9223372036854775808 ≤ a0 ∧ a0 < 9223372036854775808)
    (w1 : -9223372036854775808 ≤ a1 ∧ a1 < 9223372036854775808) (w2 : -9223372036854775808 ≤ a2 ∧ a2 < 9223372036854775808) (w3 : -9223372036854775808 ≤ a3 ∧ a3 < 9223372036854775808) (w4 : -9223372036854775808 ≤ a4 ∧ a4 < 9223372036854775808) (w5 : 0 ≤ a5 ∧ a5 < 4294967296) :
    ∃ (kind : Nat) (s t d h imm : Int), pianolakeep_Plain.f k a0 a1 a2 a3 a4 a5 a6 = some ((kind : Int), s, t, d, h, imm) ∧ Drawn kind s t d h imm ∧ (kind : Int) ∈ plains := by
  unfold pianolakeep_Plain.f
  simp only [Option.bind_some]
  obtain ⟨v, e, v0, v1, _⟩ := within_f k (by omega) a0 0 1048576 w0 (by decide) (by decide) (by decide)
  rw [e]
  simp only [Option.bind_some]
  rw [show (([1, 2, 3, 4, 5, 6, 9, 10, 13, 14, 15, 16, 17, 18, 19, 20, 21, 23, 25, 26, 27, 28, 29, 30, 31, 47, 48, 49, 50, 51, 52, 53, 63, 64, 65, 76, 77] : List Int).length : Int) = 37 from rfl, if_neg (by decide), tmod_emod v 37 v0, if_pos (by omega), if_pos (by omega)]
  have key : ∀ m : Fin 37, ∃ kind : Nat, rd plains (m.val : Int) = (kind : Int) ∧ 0 < kind ∧ kind < 78 ∧ (kind : Int) ∈ plains := by
    intro m
    have h : ∀ m : Fin 37, 0 < rd plains (m.val : Int) ∧ rd plains (m.val : Int) < 78 ∧ rd plains (m.val : Int) ∈ plains := by decide
    have := h m
    exact ⟨(rd plains (m.val : Int)).toNat, by omega, by omega, by omega, by rw [show (((rd plains (m.val : Int)).toNat : Nat) : Int) = rd plains (m.val : Int) by omega]; exact this.2.2⟩
  obtain ⟨kind, e1, k0, k1, k2⟩ := key ⟨(v % 37).toNat, by omega⟩
  have e2 : rd [1, 2, 3, 4, 5, 6, 9, 10, 13, 14, 15, 16, 17, 18, 19, 20, 21, 23, 25, 26, 27, 28, 29, 30, 31, 47, 48, 49, 50, 51, 52, 53, 63, 64, 65, 76, 77] (v % 37) = (kind : Int) := by
    rw [← e1]; simp only; rw [show (((v % 37).toNat : Nat) : Int) = v % 37 by omega]; rfl
  rw [e2]
  obtain ⟨s, t, d, h, imm, e3, D⟩ := inst_f k hk kind k0 k1 a0 a1 a2 a3 a4 a5 a6 w1 w2 w3 w4 w5
  rw [e3]
  exact ⟨kind, s, t, d, h, imm, rfl, D, k2⟩

theorem plains_not : ∀ i ∈ plains, ¬ (i = 40 ∨ i = 41 ∨ i = 7 ∨ i = 8 ∨ (36 ≤ i ∧ i ≤ 45)) := by decide

theorem twos_round (k : Nat) (hk : 10 ≤ k) (pc s t : Int) (b0 b1 b2 b3 b4 b5 b6 : Int) (i : Int) (h0 : 0 ≤ i) (h1 : i < 4) :
    pianolalaw5_BranchTwos.l0 (k + 1) pc s t [⟨42, 43⟩, ⟨36, 37⟩, ⟨44, 45⟩, ⟨38, 39⟩] 4 i b0 b1 b2 b3 b4 b5 b6 = pianolalaw5_BranchTwos.l0 k pc s t [⟨42, 43⟩, ⟨36, 37⟩, ⟨44, 45⟩, ⟨38, 39⟩] 4 (i + 1) b0 b1 b2 b3 b4 b5 b6 := by
  simp only [pianolalaw5_BranchTwos.l0]
  rw [if_pos h1, if_pos h0, if_pos (by simpa using h1), taken_f k (by omega), taken_f k (by omega)]
  simp only [Option.bind_some]
  rw [show wrap64 (i + 1) = i + 1 by unfold wrap64; omega]
  rw [if_neg]
  have c : i = 0 ∨ i = 1 ∨ i = 2 ∨ i = 3 := by omega
  rcases c with rfl | rfl | rfl | rfl
  · show ¬ (takenB 42 s t == takenB 43 s t) = true
    have e1 : takenB 42 s t = (s == t) := rfl
    have e2 : takenB 43 s t = (s != t) := rfl
    rw [e1, e2]
    unfold bne
    cases s == t <;> decide
  · show ¬ (takenB 36 s t == takenB 37 s t) = true
    unfold takenB
    by_cases z : wrap32 s < 0 <;> simp [z] <;> omega
  · show ¬ (takenB 44 s t == takenB 45 s t) = true
    unfold takenB
    by_cases z : wrap32 s ≤ 0 <;> simp [z] <;> omega
  · show ¬ (takenB 38 s t == takenB 39 s t) = true
    unfold takenB
    by_cases z : wrap32 s < 0 <;> simp [z] <;> omega

theorem twos_last (k : Nat) (hk : 200 ≤ k) (pc s t a0_0 a0_1 a0_2 a0_3 a0_4 a0_5 a0_6 : Int) (hs : 0 ≤ s ∧ s < 4294967296) (w0 : (Lit.int .i64 a0_0).wf = true) (w1 : (Lit.int .i64 a0_1).wf = true) (w2 : (Lit.int .i64 a0_2).wf = true) (w3 : (Lit.int .i64 a0_3).wf = true) (w4 : (Lit.int .i64 a0_4).wf = true) (w5 : (Lit.int .u32 a0_5).wf = true) :
    pianolalaw5_BranchTwos.l0 (k + 1) pc s t [⟨42, 43⟩, ⟨36, 37⟩, ⟨44, 45⟩, ⟨38, 39⟩] 4 4 a0_0 a0_1 a0_2 a0_3 a0_4 a0_5 a0_6 = some true := by
  obtain ⟨kind, cs, ct, cd, ch, imm, e, D, hp⟩ := plain_f k hk a0_0 a0_1 a0_2 a0_3 a0_4 a0_5 a0_6 (wf_i64 w0) (wf_i64 w1) (wf_i64 w2) (wf_i64 w3) (wf_i64 w4) (wf_u32 w5)
  have hm : 0 ≤ imm ∧ imm < 4294967296 := by have := D.imm; have := most_pos kind; omega
  simp only [pianolalaw5_BranchTwos.l0]
  rw [if_neg (by decide), e]
  simp only [Option.bind_some]
  have hn := plains_not _ hp
  rw [links_f k (by omega), taken_f k (by omega), target_f k (by omega) _ _ _ _ _ _ _ _ hm, known_f k (by omega)]
  simp only [Option.bind_some]
  have e1 : takenB kind s t = false := by
    unfold takenB
    rw [if_neg (by omega), if_neg (by omega), if_neg (by omega), if_neg (by omega), if_neg (by omega), if_neg (by omega), if_neg (by omega)]
  have e2 : targetOf kind imm pc s = (pc + 4) % 4294967296 := by
    unfold targetOf
    rw [if_neg (by omega), if_neg (by omega), if_neg (by omega)]
  rw [e1, e2, if_neg (by decide), if_pos rfl]
  have e3 : ¬ ((kind : Int) = 41 ∨ (kind : Int) = 38 ∨ (kind : Int) = 39) := by omega
  have e4 : ¬ ((kind : Int) = 8) := by omega
  rw [if_neg e3, if_neg e4]
  rfl

theorem BranchTwos (pc s t a0_0 a0_1 a0_2 a0_3 a0_4 a0_5 a0_6 : Int) (W : World) (v1 : (Lit.int .u32 pc).wf = true) (v2 : (Lit.int .u32 s).wf = true) (v3 : (Lit.int .u32 t).wf = true) (w0 : (Lit.int .i64 a0_0).wf = true) (w1 : (Lit.int .i64 a0_1).wf = true) (w2 : (Lit.int .i64 a0_2).wf = true) (w3 : (Lit.int .i64 a0_3).wf = true) (w4 : (Lit.int .i64 a0_4).wf = true) (w5 : (Lit.int .u32 a0_5).wf = true) (w6 : (Lit.int .u32 a0_6).wf = true) :
    Calls Try.prog 5 #[.int .u32 pc, .int .u32 s, .int .u32 t, .agg #[.int .i64 a0_0, .int .i64 a0_1, .int .i64 a0_2, .int .i64 a0_3, .int .i64 a0_4, .int .u32 a0_5, .int .u32 a0_6]] W fun e w' => e = .returned (.bool true) ∧ Below W.heap.size W w' := by
  refine pianolalaw5_BranchTwos.calls 300 pc s t a0_0 a0_1 a0_2 a0_3 a0_4 a0_5 a0_6 true W ?_
  unfold pianolalaw5_BranchTwos.f
  simp only [Option.bind_some]
  change pianolalaw5_BranchTwos.l0 300 pc s t [⟨42, 43⟩, ⟨36, 37⟩, ⟨44, 45⟩, ⟨38, 39⟩] 4 0 a0_0 a0_1 a0_2 a0_3 a0_4 a0_5 a0_6 = some true
  rw [twos_round 299 (by omega) _ _ _ _ _ _ _ _ _ _ 0 (by decide) (by decide), twos_round 298 (by omega) _ _ _ _ _ _ _ _ _ _ (0 + 1) (by decide) (by decide), twos_round 297 (by omega) _ _ _ _ _ _ _ _ _ _ (0 + 1 + 1) (by decide) (by decide), twos_round 296 (by omega) _ _ _ _ _ _ _ _ _ _ (0 + 1 + 1 + 1) (by decide) (by decide)]
  exact twos_last 295 (by omega) pc s t a0_0 a0_1 a0_2 a0_3 a0_4 a0_5 a0_6 (wf_u32 v2) w0 w1 w2 w3 w4 w5

end Go.Proofs.Ytchpcjdhflbikaa.Pure
