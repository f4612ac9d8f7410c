/- pianolakeep.Plain gives an instruction that is right, of a Kind that only reckons. Conditions: the drawn numbers are of their kinds. -/
import Derived.Test.YtimbfflnlalanaaKeep
import Derived.Test.YtimbfflnlalanaaQx23

namespace Go.Proofs.Ytimbfflnlalanaa.KeepPlain
open Go.RowKit Go.Proofs.Ytimbfflnlalanaa.Q Go.Proofs.YtimbfflnlalanaaW.PrintWords Go.Proofs.YtimbfflnlalanaaW.PrintLast Go.Proofs.YtimbfflnlalanaaW.PrintMore Go.Proofs.Ytimbfflnlalanaa.U Go.Proofs.Ytimbfflnlalanaa.Keep
set_option linter.unusedVariables false
set_option linter.unusedSimpArgs false

def plains : List Int := [1, 2, 3, 4, 5, 6, 9, 10, 13, 14, 15, 16, 17, 18, 19, 20, 21, 23, 25, 26, 27, 28, 29, 30, 31, 47, 48, 49, 50, 51, 52, 53, 63, 64, 65, 76, 77]

theorem plain_f (k : Nat) (hk : 200 ≤ k) (a0 a1 a2 a3 a4 a5 a6 : Int) (w0 : -9223372036854775808 ≤ a0 ∧ a0 < 9223372036854775808)
    (w1 : -9223372036854775808 ≤ a1 ∧ a1 < 9223372036854775808) (w2 : -9223372036854775808 ≤ a2 ∧ a2 < 9223372036854775808) (w3 : -9223372036854775808 ≤ a3 ∧ a3 < 9223372036854775808) (w4 : -9223372036854775808 ≤ a4 ∧ a4 < 9223372036854775808) (w5 : 0 ≤ a5 ∧ a5 < 4294967296) :
    ∃ (kind : Nat) (s t d h imm : Int), pianolakeep_Plain.f k a0 a1 a2 a3 a4 a5 a6 = some ((kind : Int), s, t, d, h, imm) ∧ Drawn kind s t d h imm ∧ (kind : Int) ∈ plains := by
  unfold pianolakeep_Plain.f
  simp only [Option.bind_some]
  obtain ⟨v, e, v0, v1, _⟩ := within_f k (by omega) a0 0 1048576 w0 (by decide) (by decide) (by decide)
  rw [e]
  simp only [Option.bind_some]
  rw [show (([1, 2, 3, 4, 5, 6, 9, 10, 13, 14, 15, 16, 17, 18, 19, 20, 21, 23, 25, 26, 27, 28, 29, 30, 31, 47, 48, 49, 50, 51, 52, 53, 63, 64, 65, 76, 77] : List Int).length : Int) = 37 from rfl, if_neg (by decide), tmod_emod v 37 v0, if_pos (by omega), if_pos (by omega)]
  have key : ∀ m : Fin 37, ∃ kind : Nat, rd plains (m.val : Int) = (kind : Int) ∧ 0 < kind ∧ kind < 78 ∧ (kind : Int) ∈ plains := by
    intro m
    have h : ∀ m : Fin 37, 0 < rd plains (m.val : Int) ∧ rd plains (m.val : Int) < 78 ∧ rd plains (m.val : Int) ∈ plains := by decide
    have := h m
    exact ⟨(rd plains (m.val : Int)).toNat, by omega, by omega, by omega, by rw [show (((rd plains (m.val : Int)).toNat : Nat) : Int) = rd plains (m.val : Int) by omega]; exact this.2.2⟩
  obtain ⟨kind, e1, k0, k1, k2⟩ := key ⟨(v % 37).toNat, by omega⟩
  have e2 : rd [1, 2, 3, 4, 5, 6, 9, 10, 13, 14, 15, 16, 17, 18, 19, 20, 21, 23, 25, 26, 27, 28, 29, 30, 31, 47, 48, 49, 50, 51, 52, 53, 63, 64, 65, 76, 77] (v % 37) = (kind : Int) := by
    rw [← e1]; simp only; rw [show (((v % 37).toNat : Nat) : Int) = v % 37 by omega]; rfl
  rw [e2]
  obtain ⟨s, t, d, h, imm, e3, D⟩ := inst_f k hk kind k0 k1 a0 a1 a2 a3 a4 a5 a6 w1 w2 w3 w4 w5
  rw [e3]
  exact ⟨kind, s, t, d, h, imm, rfl, D, k2⟩

end Go.Proofs.Ytimbfflnlalanaa.KeepPlain
