/- package word's other functions and the reference's in plain whole numbers: the same. Conditions: words are of 32 bits. -/
import Derived.Test.YtimbfflnlalanaaWS
import Derived.Test.YtimbfflnlalanaaQx2
import Derived.Test.YtimbfflnlalanaaQx6
import Derived.Test.YtimbfflnlalanaaQx11
import Derived.Test.YtimbfflnlalanaaQx4
import Derived.Test.YtimbfflnlalanaaQx3
import Derived.Test.YtimbfflnlalanaaQx8
import Derived.Test.YtimbfflnlalanaaQx13
import Derived.Test.YtimbfflnlalanaaQx12
import Derived.Test.YtimbfflnlalanaaQx9

namespace Go.Proofs.Ytimbfflnlalanaa.WX
open Go.RowKit Go.Proofs.Ytimbfflnlalanaa.Q Go.Proofs.YtimbfflnlalanaaW.PrintWords Go.Proofs.YtimbfflnlalanaaW.PrintLast Go.Proofs.YtimbfflnlalanaaW.PrintMore Go.Proofs.Ytimbfflnlalanaa.U Go.Proofs.Ytimbfflnlalanaa.WS
set_option linter.unusedVariables false
set_option linter.unusedSimpArgs false

theorem clz_f (a : Int) (h0 : 0 ≤ a) (h1 : a < 4294967296) : word_Clz.f a = some (32 - (Lib.bitLen a.toNat : Int)) := by
  unfold word_Clz.f bits_LeadingZeros32.f
  rw [if_pos h0, if_pos (by omega)]; rfl

theorem xor_max (a : Int) (h0 : 0 ≤ a) (h1 : a < 4294967296) : Go.bits .xor .u32 IntKind.u32.max a = 4294967295 - a := by
  obtain ⟨x, rfl⟩ := Int.eq_ofNat_of_zero_le h0
  have e : Go.bits .xor .u32 IntKind.u32.max (x : Int) = IntKind.wrap .u32 ((BitVec.allOnes 32 ^^^ BitVec.ofInt 32 (x : Int)).toNat : Int) := rfl
  rw [e, BitVec.allOnes_xor, BitVec.ofInt_natCast, BitVec.toNat_not, BitVec.toNat_ofNat, wrap_u32, Nat.mod_eq_of_lt (by omega)]
  omega

theorem clo_f (a : Int) (h0 : 0 ≤ a) (h1 : a < 4294967296) : word_Clo.f a = some (32 - (Lib.bitLen (4294967295 - a).toNat : Int)) := by
  unfold word_Clo.f bits_LeadingZeros32.f
  rw [xor_max a h0 h1, if_pos (by omega), if_pos (by omega)]; rfl

theorem wide_f (a : Int) (s : Bool) (h0 : 0 ≤ a) (h1 : a < 4294967296) : pianolaref1_wide.f a s = some (if s = true then wrap32 a else a) := by
  unfold pianolaref1_wide.f
  cases s
  · simp; unfold wrap64; omega
  · simp
    split <;> simp <;> unfold wrap64 wrap32 <;> omega

theorem less_ref (a b : Int) (s : Bool) (ha : 0 ≤ a ∧ a < 4294967296) (hb : 0 ≤ b ∧ b < 4294967296) : pianolaref1_Less.f a b s = word_Less.f a b s := by
  unfold pianolaref1_Less.f word_Less.f
  rw [wide_f a s ha.1 ha.2, wide_f b s hb.1 hb.2]
  cases s <;> simp

theorem less_some (a b : Int) (s : Bool) : ∃ r, word_Less.f a b s = some r := by
  unfold word_Less.f; cases s <;> simp

theorem over_some (a b : Int) (s : Bool) : ∃ r, word_Over.f a b s = some r := by
  unfold word_Over.f; cases s <;> simp

theorem over_ref (a b : Int) (s : Bool) (ha : 0 ≤ a ∧ a < 4294967296) (hb : 0 ≤ b ∧ b < 4294967296) : pianolaref1_Over.f a b s = word_Over.f a b s := by
  unfold pianolaref1_Over.f word_Over.f
  rw [wide_f a true ha.1 ha.2, wide_f b true hb.1 hb.2]
  have ra := wrap32_range a
  have rb := wrap32_range b
  simp only [if_true, Option.bind_some]
  generalize wrap32 a = A at *
  generalize wrap32 b = B at *
  cases s
  · simp only [Bool.false_eq_true, if_false]
    have e : wrap64 (A + B) = A + B := by unfold wrap64; omega
    have eA : wrap64 A = A := by unfold wrap64; omega
    have eB : wrap64 B = B := by unfold wrap64; omega
    rw [eA, eB, e]
    by_cases c : A + B ≥ 2147483648
    · rw [if_pos c]; congr 1; symm; rw [bne_iff_ne]; unfold wrap64 wrap32; omega
    · rw [if_neg c]; congr 1
      by_cases d : A + B < -2147483648
      · rw [decide_eq_true d]; symm; rw [bne_iff_ne]; unfold wrap64 wrap32; omega
      · rw [decide_eq_false d]; symm; rw [bne_eq_false_iff_eq]; unfold wrap64 wrap32; omega
  · simp only [if_true]
    have e : wrap64 (A - B) = A - B := by unfold wrap64; omega
    have eA : wrap64 A = A := by unfold wrap64; omega
    have eB : wrap64 B = B := by unfold wrap64; omega
    rw [eA, eB, e]
    by_cases c : A - B ≥ 2147483648
    · rw [if_pos c]; congr 1; symm; rw [bne_iff_ne]; unfold wrap64 wrap32; omega
    · rw [if_neg c]; congr 1
      by_cases d : A - B < -2147483648
      · rw [decide_eq_true d]; symm; rw [bne_iff_ne]; unfold wrap64 wrap32; omega
      · rw [decide_eq_false d]; symm; rw [bne_eq_false_iff_eq]; unfold wrap64 wrap32; omega

theorem tdiv_range (a b : Int) (ha : 0 ≤ a) (hb : 0 < b) : 0 ≤ Int.tdiv a b ∧ Int.tdiv a b ≤ a ∧ 0 ≤ Int.tmod a b ∧ Int.tmod a b < b := by
  refine ⟨Int.tdiv_nonneg ha (by omega), ?_, Int.tmod_nonneg b ha, Int.tmod_lt_of_pos a hb⟩
  rw [Int.tdiv_eq_ediv_of_nonneg ha]; exact Int.ediv_le_self b ha

theorem div_ref (a b : Int) (s : Bool) (ha : 0 ≤ a ∧ a < 4294967296) (hb : 0 ≤ b ∧ b < 4294967296) : pianolaref1_Div.f a b s = word_Div.f a b s := by
  unfold pianolaref1_Div.f word_Div.f
  by_cases z : b = 0
  · rw [if_pos z, if_pos z]
  · rw [if_neg z, if_neg z, wide_f a s ha.1 ha.2, wide_f b s hb.1 hb.2]
    simp only [Option.bind_some]
    cases s
    · simp only [Bool.false_eq_true, if_false]
      rw [if_neg z]
      have t := tdiv_range a b ha.1 (by omega)
      generalize Int.tdiv a b = q at *
      generalize Int.tmod a b = r at *
      congr 2
      · unfold wrap64; omega
      · omega
    · simp only [if_true]
      have ra := wrap32_range a
      have rb := wrap32_range b
      have eA : wrap64 (wrap32 a) = wrap32 a := by unfold wrap64; omega
      have eB : wrap64 (wrap32 b) = wrap32 b := by unfold wrap64; omega
      rw [eA, eB]

theorem div_some (a b : Int) (s : Bool) (hb : 0 ≤ b ∧ b < 4294967296) : ∃ q r, word_Div.f a b s = some (q, r) := by
  unfold word_Div.f
  by_cases z : b = 0
  · rw [if_pos z]; exact ⟨_, _, rfl⟩
  · rw [if_neg z]
    cases s
    · rw [if_neg (by decide)]; exact ⟨_, _, rfl⟩
    · rw [if_pos rfl, if_neg (by unfold wrap64 wrap32; omega)]; exact ⟨_, _, rfl⟩

theorem mul_some (a b : Int) (s : Bool) : ∃ q r, word_Mul.f a b s = some (q, r) := by
  unfold word_Mul.f; cases s <;> exact ⟨_, _, rfl⟩

theorem mul_ref (k : Nat) (a b : Int) (s : Bool) (ha : 0 ≤ a ∧ a < 4294967296) (hb : 0 ≤ b ∧ b < 4294967296) : pianolaref1_Mul.f (k + 1) a b s = word_Mul.f a b s := by
  unfold pianolaref1_Mul.f word_Mul.f
  have hp : 0 ≤ a * b := Int.mul_nonneg ha.1 hb.1
  have hp2 : a * b < 18446744073709551616 := by
    have h1 : a * b ≤ a * 4294967295 := Int.mul_le_mul_of_nonneg_left (by omega) ha.1
    omega
  have eA : IntKind.wrap .u64 a = a := by rw [wrap_u64]; omega
  have eB : IntKind.wrap .u64 b = b := by rw [wrap_u64]; omega
  have eP : IntKind.wrap .u64 (a * b) = a * b := by rw [wrap_u64]; omega
  rw [eA, eB, eP]
  cases s
  · rw [if_neg (by decide), if_neg (by decide)]
    simp only [pianolaref1_Mul.j0]
    simp only [Bool.false_eq_true, if_false]
  · rw [if_pos rfl, if_pos rfl]
    simp only [pianolaref1_Mul.j0]
    have xA : wrap64 (wrap32 a) = if a ≥ 2147483648 then a - 4294967296 else a := by unfold wrap64 wrap32; split <;> omega
    have xB : wrap64 (wrap32 b) = if b ≥ 2147483648 then b - 4294967296 else b := by unfold wrap64 wrap32; split <;> omega
    rw [xA, xB]
    by_cases ca : a ≥ 2147483648 <;> by_cases cb : b ≥ 2147483648
    · simp only [ca, cb, decide_true, if_true]
      rw [show (a - 4294967296) * (b - 4294967296) = a * b - 4294967296 * a - 4294967296 * b + 18446744073709551616 by rw [Int.sub_mul, Int.mul_sub, Int.mul_sub, Int.mul_comm a 4294967296]; omega]
      generalize a * b = p at *
      rw [wrap_u64]; unfold wrap64
      congr 2 <;> omega
    · simp only [ca, cb, decide_true, if_true, if_false]
      rw [show (a - 4294967296) * b = a * b - 4294967296 * b by rw [Int.sub_mul]]
      generalize a * b = p at *
      rw [wrap_u64]; unfold wrap64
      congr 2 <;> omega
    · simp only [ca, cb, decide_false, if_true, if_false, Bool.false_eq_true]
      rw [show a * (b - 4294967296) = a * b - 4294967296 * a by rw [Int.mul_sub, Int.mul_comm a 4294967296]]
      generalize a * b = p at *
      rw [wrap_u64]; unfold wrap64
      congr 2 <;> omega
    · simp only [ca, cb, decide_false, if_true, if_false, Bool.false_eq_true]
      generalize a * b = p at *
      rw [wrap_u64]; unfold wrap64
      congr 2 <;> omega

theorem sar_step (a : Int) (h0 : 0 ≤ a) (h1 : a < 4294967296) : Go.bits .or .u32 (a / 2) (Go.bits .and .u32 a 2147483648) = wrap32 a / 2 % 4294967296 := by
  obtain ⟨x, rfl⟩ := Int.eq_ofNat_of_zero_le h0
  have e0 : (2147483648 : Int) = ((2147483648 : Nat) : Int) := rfl
  have e1 : ((x : Int) / 2) = ((x / 2 : Nat) : Int) := by omega
  rw [e0, and_u32 x 2147483648 (by omega) (by omega), e1, or_u32 _ _ (by omega) (Nat.lt_of_le_of_lt Nat.and_le_left (by omega))]
  have ht : x &&& 2147483648 = if 2147483648 ≤ x then 2147483648 else 0 := by
    apply Nat.eq_of_testBit_eq
    intro i
    rw [Nat.testBit_and, show (2147483648 : Nat) = 2 ^ 31 from rfl, Nat.testBit_two_pow]
    by_cases hi : 31 = i
    · subst hi
      rw [top_nat x (by omega)]
      by_cases c : 2147483648 ≤ x
      · rw [if_pos c, decide_eq_true c, Nat.testBit_two_pow]; rfl
      · rw [if_neg c, decide_eq_false c]; simp
    · rw [decide_eq_false hi, Bool.and_false]
      split
      · rw [Nat.testBit_two_pow, decide_eq_false hi]
      · simp
  rw [ht]
  by_cases c : 2147483648 ≤ x
  · rw [if_pos c]
    have : x / 2 ||| 2147483648 = x / 2 + 2147483648 := by
      have := Nat.two_pow_add_eq_or_of_lt (i := 31) (b := x / 2) (by omega) 1
      rw [show (2 : Nat) ^ 31 * 1 = 2147483648 from rfl] at this
      rw [Nat.or_comm, ← this]; omega
    rw [this]; unfold wrap32; omega
  · rw [if_neg c, Nat.or_zero]; unfold wrap32; omega

theorem sar_loop : ∀ (j : Nat) (k : Nat) (a : Int), j < 32 → j < k → 0 ≤ a → a < 4294967296 → pianolaref1_Sar.l0 k a (j : Int) = some (wrap32 a / 2 ^ j % 4294967296)
  | 0, k, a, _, hk, h0, h1 => by
    obtain ⟨k, rfl⟩ : ∃ m, k = m + 1 := ⟨k - 1, by omega⟩
    simp only [pianolaref1_Sar.l0]
    rw [if_neg (by omega)]
    congr 1
    unfold wrap32; simp; omega
  | j + 1, k, a, hj, hk, h0, h1 => by
    obtain ⟨k, rfl⟩ : ∃ m, k = m + 1 := ⟨k - 1, by omega⟩
    simp only [pianolaref1_Sar.l0]
    rw [if_pos (by omega), sar_step a h0 h1]
    have ew : IntKind.wrap .u64 (((j + 1 : Nat) : Int) - 1) = (j : Int) := by rw [wrap_u64]; omega
    rw [ew, sar_loop j k _ (by omega) (by omega) (by omega) (by omega)]
    have r := wrap32_range a
    have e : wrap32 (wrap32 a / 2 % 4294967296) = wrap32 a / 2 := by
      generalize wrap32 a = z at *
      unfold wrap32; omega
    rw [e, Int.ediv_ediv_of_nonneg (by decide), Int.pow_succ, Int.mul_comm]

theorem sar_ref (k : Nat) (a n : Int) (hk : 32 ≤ k) (h0 : 0 ≤ a) (h1 : a < 4294967296) (n0 : -9223372036854775808 ≤ n) (n1 : n < 9223372036854775808) : pianolaref1_Sar.f k a n = word_Sar.f a n := by
  unfold pianolaref1_Sar.f
  rw [sar_f]
  have e : IntKind.wrap .u64 (Int.tmod (wrap64 (Int.tmod n 32 + 32)) 32) = ((n % 32).toNat : Int) := by
    rw [wrap_u64, tmod_pos n 32 (by decide) (by decide)]; omega
  rw [e, sar_loop _ k a (by omega) (by omega) h0 h1]

theorem clz_loop : ∀ (j : Nat) (k : Nat) (x : Nat), j ≤ 32 → j < k → x < 2 ^ j → pianolaref1_Clz.l0 k (x : Int) (32 - (j : Int)) ((j : Int) - 1) = some (32 - (Lib.bitLen x : Int))
  | 0, k, x, _, hk, hx => by
    obtain ⟨k, rfl⟩ : ∃ m, k = m + 1 := ⟨k - 1, by omega⟩
    simp only [pianolaref1_Clz.l0]
    have : x = 0 := by simpa using hx
    subst this
    rw [if_neg (by omega), bitLen_zero]
  | j + 1, k, x, hj, hk, hx => by
    obtain ⟨k, rfl⟩ : ∃ m, k = m + 1 := ⟨k - 1, by omega⟩
    have hx32 : x < 2 ^ 32 := Nat.lt_of_lt_of_le hx (Nat.pow_le_pow_right (by decide) hj)
    simp only [pianolaref1_Clz.l0]
    have ew : IntKind.wrap .u64 (((j + 1 : Nat) : Int) - 1) = (j : Int) := by rw [wrap_u64]; omega
    rw [if_pos (by omega), ew, if_pos (by omega)]
    have es : shr .u32 (x : Int) (j : Int) = ((x / 2 ^ j : Nat) : Int) := by
      unfold shr
      rw [Int.toNat_natCast, Nat.min_eq_left (by simp [IntKind.bits]; omega)]
      simp
    rw [es]
    have e1 : Go.bits .and .u32 ((x / 2 ^ j : Nat) : Int) 1 = ((x / 2 ^ j : Nat) : Int) := by
      have hd : x / 2 ^ j < 2 := by rw [Nat.div_lt_iff_lt_mul (Nat.two_pow_pos j)]; rw [Nat.pow_succ] at hx; omega
      have := and_u32 (x / 2 ^ j) 1 (by omega) (by omega)
      rw [show ((1 : Nat) : Int) = 1 from rfl] at this
      rw [this, show (x / 2 ^ j) &&& 1 = (x / 2 ^ j) &&& (2 ^ 1 - 1) from rfl, and_ones, Nat.mod_eq_of_lt (by simpa using hd)]
    rw [e1]
    by_cases c : 2 ^ j ≤ x
    · have hd : x / 2 ^ j = 1 := by
        apply Nat.div_eq_of_lt_le
        · omega
        · rw [Nat.pow_succ] at hx; omega
      rw [hd, if_pos (by decide)]
      have hb := bitLen_bounds x (by have := Nat.two_pow_pos j; omega) (by omega)
      have e : Lib.bitLen x = j + 1 := by
        have l1 : j < Lib.bitLen x := by
          rcases Nat.lt_or_ge j (Lib.bitLen x) with h | h
          · exact h
          · have := Nat.pow_le_pow_right (n := 2) (by decide) h; omega
        have l2 : Lib.bitLen x - 1 < j + 1 := by
          rcases Nat.lt_or_ge (Lib.bitLen x - 1) (j + 1) with h | h
          · exact h
          · have := Nat.pow_le_pow_right (n := 2) (by decide) h; omega
        omega
      rw [e]
    · have hd : x / 2 ^ j = 0 := Nat.div_eq_of_lt (by omega)
      rw [hd, if_neg (by decide)]
      have e2 : wrap64 (32 - ((j + 1 : Nat) : Int) + 1) = 32 - (j : Int) := by unfold wrap64; omega
      have e3 : wrap64 (((j + 1 : Nat) : Int) - 1 - 1) = (j : Int) - 1 := by unfold wrap64; omega
      rw [e2, e3]
      exact clz_loop j k x (by omega) (by omega) (by omega)

theorem clz_ref (k : Nat) (a : Int) (hk : 33 ≤ k) (h0 : 0 ≤ a) (h1 : a < 4294967296) : pianolaref1_Clz.f k a = word_Clz.f a := by
  rw [clz_f a h0 h1]
  obtain ⟨x, rfl⟩ := Int.eq_ofNat_of_zero_le h0
  have := clz_loop 32 k x (by omega) (by omega) (by omega)
  unfold pianolaref1_Clz.f
  rw [Int.toNat_natCast]
  exact this

theorem clo_ref (k : Nat) (a : Int) (hk : 33 ≤ k) (h0 : 0 ≤ a) (h1 : a < 4294967296) : pianolaref1_Clo.f k a = word_Clo.f a := by
  unfold pianolaref1_Clo.f
  rw [xor_max a h0 h1, clz_ref k _ hk (by omega) (by omega), clz_f _ (by omega) (by omega), clo_f a h0 h1]; rfl

end Go.Proofs.Ytimbfflnlalanaa.WX
