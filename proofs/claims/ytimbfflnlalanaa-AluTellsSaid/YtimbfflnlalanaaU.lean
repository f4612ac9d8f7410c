/- Plain lemmas on words of 32 bits as whole numbers: and, or, xor, andNot, shifts, wraps. No program in sight. Conditions: the numbers are in their range. -/
import Derived.Test.YtimbfflnlalanaaVMore
import Derived.Lib.BitFns
import Derived.Laws.Entries
namespace Go.Proofs.Ytimbfflnlalanaa.U
open Go.RowKit Go.Proofs.YtimbfflnlalanaaW.PrintMore
set_option linter.unusedVariables false
set_option linter.unusedSimpArgs false

theorem wf_u32 {a : Int} (h : (Lit.int .u32 a).wf = true) : 0 ≤ a ∧ a < 4294967296 := by
  have h2 : 0 ≤ a ∧ a ≤ 4294967295 := by simpa [Lit.wf, IntKind.min, IntKind.max, IntKind.signed, IntKind.bits] using h
  omega

theorem wf_i64 {a : Int} (h : (Lit.int .i64 a).wf = true) : -9223372036854775808 ≤ a ∧ a < 9223372036854775808 := by
  have h2 : -9223372036854775808 ≤ a ∧ a ≤ 9223372036854775807 := by simpa [Lit.wf, IntKind.min, IntKind.max, IntKind.signed, IntKind.bits] using h
  omega

theorem wrap_u32 (n : Int) : IntKind.wrap .u32 n = n % 4294967296 := by
  simp [IntKind.wrap, IntKind.bits, IntKind.signed]

theorem and_u32 (x y : Nat) (hx : x < 4294967296) (hy : y < 4294967296) : Go.bits .and .u32 (x : Int) (y : Int) = ((x &&& y : Nat) : Int) := by
  have hlt : x &&& y < 4294967296 := Nat.lt_of_le_of_lt Nat.and_le_left hx
  have e : Go.bits .and .u32 (x : Int) (y : Int) = IntKind.wrap .u32 ((BitVec.ofInt 32 (x : Int) &&& BitVec.ofInt 32 (y : Int)).toNat : Int) := rfl
  rw [e, BitVec.ofInt_natCast, BitVec.ofInt_natCast, BitVec.toNat_and, BitVec.toNat_ofNat, BitVec.toNat_ofNat, Nat.mod_eq_of_lt (by omega), Nat.mod_eq_of_lt (by omega), wrap_u32]
  omega

theorem or_u32 (x y : Nat) (hx : x < 4294967296) (hy : y < 4294967296) : Go.bits .or .u32 (x : Int) (y : Int) = ((x ||| y : Nat) : Int) := by
  have hlt : x ||| y < 2 ^ 32 := Nat.or_lt_two_pow (by omega) (by omega)
  have e : Go.bits .or .u32 (x : Int) (y : Int) = IntKind.wrap .u32 ((BitVec.ofInt 32 (x : Int) ||| BitVec.ofInt 32 (y : Int)).toNat : Int) := rfl
  rw [e, BitVec.ofInt_natCast, BitVec.ofInt_natCast, BitVec.toNat_or, BitVec.toNat_ofNat, BitVec.toNat_ofNat, Nat.mod_eq_of_lt (by omega), Nat.mod_eq_of_lt (by omega), wrap_u32]
  omega

theorem xor_u32 (x y : Nat) (hx : x < 4294967296) (hy : y < 4294967296) : Go.bits .xor .u32 (x : Int) (y : Int) = ((x ^^^ y : Nat) : Int) := by
  have hlt : x ^^^ y < 2 ^ 32 := Nat.xor_lt_two_pow (by omega) (by omega)
  have e : Go.bits .xor .u32 (x : Int) (y : Int) = IntKind.wrap .u32 ((BitVec.ofInt 32 (x : Int) ^^^ BitVec.ofInt 32 (y : Int)).toNat : Int) := rfl
  rw [e, BitVec.ofInt_natCast, BitVec.ofInt_natCast, BitVec.toNat_xor, BitVec.toNat_ofNat, BitVec.toNat_ofNat, Nat.mod_eq_of_lt (by omega), Nat.mod_eq_of_lt (by omega), wrap_u32]
  omega

/-- the highest bit of a word -/
theorem top_nat (x : Nat) (hx : x < 4294967296) : x.testBit 31 = decide (2147483648 ≤ x) := by
  rw [Nat.testBit_eq_decide_div_mod_eq]
  congr 1
  apply propext
  constructor <;> intro h <;> omega

theorem top_and (x y : Nat) (hx : x < 4294967296) (hy : y < 4294967296) : (2147483648 ≤ x &&& y) ↔ (2147483648 ≤ x ∧ 2147483648 ≤ y) := by
  have hlt : x &&& y < 4294967296 := Nat.lt_of_le_of_lt Nat.and_le_left hx
  have h := Nat.testBit_and x y 31
  rw [top_nat _ hlt, top_nat _ hx, top_nat _ hy] at h
  simpa using congrArg (· = true) h

theorem top_or (x y : Nat) (hx : x < 4294967296) (hy : y < 4294967296) : (2147483648 ≤ x ||| y) ↔ (2147483648 ≤ x ∨ 2147483648 ≤ y) := by
  have hlt : x ||| y < 2 ^ 32 := Nat.or_lt_two_pow (by omega) (by omega)
  have h := Nat.testBit_or x y 31
  rw [top_nat _ (by omega), top_nat _ hx, top_nat _ hy] at h
  simpa using congrArg (· = true) h

theorem top_xor (x y : Nat) (hx : x < 4294967296) (hy : y < 4294967296) : (2147483648 ≤ x ^^^ y) ↔ ((2147483648 ≤ x) ↔ ¬ (2147483648 ≤ y)) := by
  have hlt : x ^^^ y < 2 ^ 32 := Nat.xor_lt_two_pow (by omega) (by omega)
  have h := Nat.testBit_xor x y 31
  rw [top_nat _ (by omega), top_nat _ hx, top_nat _ hy] at h
  by_cases a : 2147483648 ≤ x <;> by_cases b : 2147483648 ≤ y <;> simp [a, b] at h ⊢ <;> omega

/-- & with ones from below -/
theorem and_ones (x n : Nat) : x &&& (2 ^ n - 1) = x % 2 ^ n := Nat.and_two_pow_sub_one_eq_mod x n

theorem and_low (m : Nat) (hm : m < 4294967296) (b : Nat) (hb : b ≤ 32) : Go.bits .and .u32 (m : Int) ((2 ^ b - 1 : Nat) : Int) = (m : Int) % 2 ^ b := by
  have h2 : 2 ^ b ≤ 2 ^ 32 := Nat.pow_le_pow_right (by decide) hb
  rw [and_u32 m (2 ^ b - 1) hm (by omega), and_ones]
  simp

theorem and_ffff (m : Int) (h0 : 0 ≤ m) (h1 : m < 4294967296) : Go.bits .and .u32 m 65535 = m % 65536 := by
  obtain ⟨x, rfl⟩ := Int.eq_ofNat_of_zero_le h0
  exact and_low x (by omega) 16 (by decide)

theorem and_26 (m : Int) (h0 : 0 ≤ m) (h1 : m < 4294967296) : Go.bits .and .u32 m 67108863 = m % 67108864 := by
  obtain ⟨x, rfl⟩ := Int.eq_ofNat_of_zero_le h0
  exact and_low x (by omega) 26 (by decide)

/-- `x & 31` of an int -/
theorem and31_i64 (a : Int) : Go.bits .and .i64 a 31 = a % 32 := by
  have e : Go.bits .and .i64 a 31 = IntKind.wrap .i64 ((BitVec.ofInt 64 a &&& BitVec.ofNat 64 31).toNat : Int) := rfl
  have e31 : (31 % 2 ^ 64 : Nat) = 2 ^ 5 - 1 := by decide
  rw [e, BitVec.toNat_and, BitVec.toNat_ofNat, BitVec.toNat_ofInt, e31, and_ones]
  have h2 : (((a % ((2 ^ 64 : Nat) : Int)).toNat % 2 ^ 5 : Nat) : Int) = a % 32 := by omega
  rw [h2]
  have h4 : ¬ ((9223372036854775808 : Int) ≤ a % 32 % 18446744073709551616) := by omega
  simp [IntKind.wrap, IntKind.bits, IntKind.signed, h4]
  omega

theorem bitLen_bounds (x : Nat) (h0 : x ≠ 0) (h : x < 4294967296) : 1 ≤ Lib.bitLen x ∧ Lib.bitLen x ≤ 32 ∧ 2 ^ (Lib.bitLen x - 1) ≤ x ∧ x < 2 ^ Lib.bitLen x := by
  have hl : Lib.bitLen x ≤ 32 := Lib.bitLen_le x 32 (by omega) (by omega)
  have key : ∀ n x : Nat, x ≠ 0 → x < 2 ^ n → n ≤ 64 → 1 ≤ Lib.bitLen x ∧ 2 ^ (Lib.bitLen x - 1) ≤ x ∧ x < 2 ^ Lib.bitLen x := by
    intro n
    induction n with
    | zero => intro x h0 h _; omega
    | succ n ih =>
      intro x h0 h hn
      have h64 : x < 2 ^ 64 := Nat.lt_of_lt_of_le h (Nat.pow_le_pow_right (by decide) hn)
      rw [Lib.bitLen_half x h0 h64]
      by_cases hz : x / 2 = 0
      · have : x = 1 := by omega
        subst this
        decide
      · obtain ⟨a, b, c⟩ := ih (x / 2) hz (by rw [Nat.pow_succ] at h; omega) (by omega)
        refine ⟨by omega, ?_, ?_⟩
        · have : 1 + Lib.bitLen (x / 2) - 1 = (Lib.bitLen (x / 2) - 1) + 1 := by omega
          rw [this, Nat.pow_succ]; omega
        · rw [Nat.add_comm, Nat.pow_succ]; omega
  obtain ⟨a, b, c⟩ := key 32 x h0 (by omega) (by omega)
  exact ⟨a, hl, b, c⟩

theorem bitLen_zero : Lib.bitLen 0 = 0 := by decide

end Go.Proofs.Ytimbfflnlalanaa.U
