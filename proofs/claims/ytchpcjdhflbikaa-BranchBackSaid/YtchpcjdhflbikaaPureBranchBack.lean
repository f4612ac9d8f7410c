/- BranchBack: the printed function answers true at every three words. Conditions: the arguments are words of 32 bits. -/
import Derived.Test.YtchpcjdhflbikaaB1
import Derived.Test.YtchpcjdhflbikaaQx12
namespace Go.Proofs.Ytchpcjdhflbikaa.Pure
open Go.RowKit Go.Proofs.Ytchpcjdhflbikaa.Q Go.Proofs.YtchpcjdhflbikaaW.PrintWords Go.Proofs.YtchpcjdhflbikaaW.PrintLast Go.Proofs.YtchpcjdhflbikaaW.PrintMore Go.Proofs.Ytchpcjdhflbikaa.U Go.Proofs.Ytchpcjdhflbikaa.WS Go.Proofs.Ytchpcjdhflbikaa.B1
set_option linter.unusedVariables false
set_option linter.unusedSimpArgs false

theorem andNot3 (x : Nat) (hx : x < 4294967296) : Go.bits .andNot .u32 (x : Int) 3 = ((x / 4 * 4 : Nat) : Int) := by
  have e : Go.bits .andNot .u32 (x : Int) 3 = IntKind.wrap .u32 ((BitVec.ofInt 32 (x : Int) &&& ~~~ (BitVec.ofNat 32 3)).toNat : Int) := rfl
  rw [e, BitVec.ofInt_natCast, wrap_u32]
  have h : (BitVec.ofNat 32 x &&& ~~~ (BitVec.ofNat 32 3)).toNat = x / 4 * 4 := by
    have h1 : ∀ b : BitVec 32, b &&& ~~~ (BitVec.ofNat 32 3) = (b >>> 2) <<< 2 := by
      intro b
      apply BitVec.eq_of_getLsbD_eq
      intro i hi
      have h3 : ∀ j : Fin 32, (~~~ (BitVec.ofNat 32 3)).getLsbD j.val = decide (2 ≤ j.val) := by decide
      have h4 := h3 ⟨i, hi⟩
      simp only at h4
      rw [BitVec.getLsbD_and, h4, BitVec.getLsbD_shiftLeft, BitVec.getLsbD_ushiftRight]
      by_cases c : 2 ≤ i
      · simp [c, hi, show ¬ i < 2 by omega]
      · simp [c, show i < 2 by omega]
    rw [h1, BitVec.toNat_shiftLeft, BitVec.toNat_ushiftRight, BitVec.toNat_ofNat, Nat.mod_eq_of_lt (by omega), Nat.shiftRight_eq_div_pow, Nat.shiftLeft_eq]
    omega
  rw [h]; omega

theorem and_top4 (x : Nat) (hx : x < 4294967296) : Go.bits .and .u32 (x : Int) 4026531840 = ((x / 268435456 * 268435456 : Nat) : Int) := by
  have := and_u32 x 4026531840 hx (by decide)
  rw [show ((4026531840 : Nat) : Int) = 4026531840 from rfl] at this
  rw [this]
  congr 1
  apply Nat.eq_of_testBit_eq
  intro i
  rw [Nat.testBit_and, show x / 268435456 * 268435456 = (x / 2 ^ 28) * 2 ^ 28 from rfl, Nat.testBit_mul_two_pow, show (4026531840 : Nat) = (2 ^ 4 - 1) * 2 ^ 28 from rfl, Nat.testBit_mul_two_pow, Nat.testBit_two_pow_sub_one, Nat.testBit_div_two_pow]
  by_cases c : 28 ≤ i
  · rw [show i - 28 + 28 = i by omega]
    by_cases d : i < 32
    · simp [c, show i - 28 < 4 by omega]
    · have : x.testBit i = false := Nat.testBit_lt_two_pow (Nat.lt_of_lt_of_le (show x < 2 ^ 32 by omega) (Nat.pow_le_pow_right (by decide) (by omega)))
      simp [this]
  · simp [c]

theorem or_parts (a b : Nat) (hb : b < 268435456) (ha : a < 16) : Go.bits .or .u32 ((a * 268435456 : Nat) : Int) (b : Int) = ((a * 268435456 + b : Nat) : Int) := by
  rw [or_u32 _ _ (by omega) (by omega)]
  congr 1
  have := Nat.two_pow_add_eq_or_of_lt (i := 28) (b := b) (by omega) a
  rw [show (2 : Nat) ^ 28 * a = a * 268435456 by omega] at this
  exact this.symm

set_option maxHeartbeats 4000000 in
theorem BranchBack : pianolalaw5_BranchBack.Pure := by
  intro pc s imm w0 w1 w2
  have hp := wf_u32 w0
  have hs := wf_u32 w1
  have hi := wf_u32 w2
  refine ⟨20, ?_⟩
  obtain ⟨p, rfl⟩ := Int.eq_ofNat_of_zero_le hp.1
  have e1 := and_low imm.toNat (by omega) 15 (by decide)
  have e2 := and_26 imm hi.1 hi.2
  rw [show ((imm.toNat : Nat) : Int) = imm by omega, show ((2 ^ 15 - 1 : Nat) : Int) = 32767 from rfl, show (2 : Int) ^ 15 = 32768 from rfl] at e1
  unfold pianolalaw5_BranchBack.f
  rw [andNot3 p (by omega), e1, e2, and_ffff _ (by omega) (by omega)]
  generalize hq : p / 4 * 4 = q
  have q4 : q % 4 = 0 := by omega
  have ql : q < 4294967296 := by omega
  rw [target_f 20 (by omega) _ _ _ _ _ _ _ _ (by omega), target_f 20 (by omega) _ _ _ _ _ _ _ _ (by omega), target_f 20 (by omega) _ _ _ _ _ _ _ _ (by omega), target_f 20 (by omega) _ _ _ _ _ _ _ _ (by omega), known_f 20 (by omega)]
  simp only [Option.bind_some]
  have t1 : targetOf 43 (imm % 32768) (q : Int) s = ((q : Int) + 4 + 4 * (imm % 32768)) % 4294967296 := by
    unfold targetOf
    rw [if_neg (by decide), if_neg (by decide), if_pos (by decide)]
    unfold sgn
    rw [if_neg (by decide), if_neg (by decide), if_neg (by simp; omega)]
    simp
    omega
  have t2 : targetOf 43 (-(imm % 32768) % 4294967296 % 65536) (q : Int) s = ((q : Int) + 4 - 4 * (imm % 32768)) % 4294967296 := by
    unfold targetOf
    rw [if_neg (by decide), if_neg (by decide), if_pos (by decide)]
    unfold sgn
    rw [if_neg (by decide), if_neg (by decide)]
    simp
    split <;> omega
  have t3 : targetOf 41 (imm % 67108864) (q : Int) s = (((q + 4) % 4294967296 / 268435456 * 268435456 + (imm % 67108864).toNat * 4 : Nat) : Int) := by
    unfold targetOf
    rw [if_pos (by decide), and_26 _ (by omega) (by omega)]
    rw [show ((q : Int) + 4) % 4294967296 = (((q + 4) % 4294967296 : Nat) : Int) by omega, and_top4 _ (by omega)]
    rw [show imm % 67108864 % 67108864 * 4 % 4294967296 = (((imm % 67108864).toNat * 4 : Nat) : Int) by omega, or_parts _ _ (by omega) (by omega)]
  have t4 : targetOf 7 0 (q : Int) s = s := by
    unfold targetOf
    rw [if_neg (by decide), if_pos (by decide)]
  rw [t1, t2, t3, t4]
  have e3 : Go.bits .and .u32 ((((q + 4) % 4294967296 / 268435456 * 268435456 + (imm % 67108864).toNat * 4 : Nat)) : Int) 268435455 = ((((q + 4) % 4294967296 / 268435456 * 268435456 + (imm % 67108864).toNat * 4 : Nat)) : Int) % 268435456 := and_low _ (by omega) 28 (by decide)
  rw [if_pos (by omega), if_pos (by omega), if_pos (by omega), if_pos (by rw [e3]; omega), if_pos rfl]

end Go.Proofs.Ytchpcjdhflbikaa.Pure
