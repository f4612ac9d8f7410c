/- What the functions of package word and of its reference come to, in plain whole numbers. Conditions: words are of 32 bits. -/
import Derived.Test.YtdagmhgmegpdpaaU
import Derived.Test.YtdagmhgmegpdpaaQx
namespace Go.Proofs.Ytdagmhgmegpdpaa.W1
open Go.RowKit Go.Proofs.Ytdagmhgmegpdpaa.Q Go.Proofs.YtdagmhgmegpdpaaW.PrintWords Go.Proofs.YtdagmhgmegpdpaaW.PrintLast Go.Proofs.YtdagmhgmegpdpaaW.PrintMore Go.Proofs.Ytdagmhgmegpdpaa.U
set_option linter.unusedVariables false
set_option linter.unusedSimpArgs false

theorem wrap_u64 (n : Int) : IntKind.wrap .u64 n = n % 18446744073709551616 := by
  simp [IntKind.wrap, IntKind.bits, IntKind.signed]

theorem tmod_bounds (x n : Int) (hn : 0 < n) : -n < Int.tmod x n ∧ Int.tmod x n < n := ⟨Int.lt_tmod_of_pos x hn, Int.tmod_lt_of_pos x hn⟩

/-- '(x % n + n) % n' -/
theorem tmod_pos (x n : Int) (hn : 0 < n) (hn2 : n < 1000000) : Int.tmod (wrap64 (Int.tmod x n + n)) n = x % n := by
  have h := tmod_bounds x n hn
  have e : wrap64 (Int.tmod x n + n) = Int.tmod x n + n := by unfold wrap64; omega
  rw [e, Int.tmod_eq_emod_of_nonneg (by omega), Int.add_emod_right]
  rw [Int.tmod_eq_emod]
  split
  · simp
  · rw [Int.natAbs_of_nonneg (by omega), Int.sub_emod_right, Int.emod_emod]

theorem ediv_range (x p : Int) (hp : 1 ≤ p) (h0 : -2147483648 ≤ x) (h1 : x < 2147483648) : -2147483648 ≤ x / p ∧ x / p < 2147483648 :=
  ⟨Int.le_ediv_of_mul_le (by omega) (by omega), Int.ediv_lt_of_lt_mul (by omega) (by omega)⟩

theorem two_pow_pos (i : Nat) : (1 : Int) ≤ 2 ^ i := by
  have : (0 : Int) < 2 ^ i := Int.pow_pos (by decide)
  omega

theorem sar_f (a n : Int) : word_Sar.f a n = some (wrap32 a / 2 ^ (n % 32).toNat % 4294967296) := by
  unfold word_Sar.f shr
  rw [and31_i64, if_pos (by omega), Nat.min_eq_left (by simp [IntKind.bits]; omega)]

theorem wrap32_range (a : Int) : -2147483648 ≤ wrap32 a ∧ wrap32 a < 2147483648 := by unfold wrap32; omega

theorem sar_sar (a i j : Int) (hi : 0 ≤ i) (hi' : i < 16) (hj : 0 ≤ j) (hj' : j < 16) (t : Int) (ht : word_Sar.f a i = some t) : word_Sar.f t j = word_Sar.f a (i + j) := by
  rw [sar_f] at ht ⊢
  rw [sar_f]
  obtain rfl := Option.some.inj ht
  have r := wrap32_range a
  have q := ediv_range (wrap32 a) (2 ^ (i % 32).toNat) (two_pow_pos _) r.1 r.2
  have e : wrap32 (wrap32 a / 2 ^ (i % 32).toNat % 4294967296) = wrap32 a / 2 ^ (i % 32).toNat := by
    generalize wrap32 a / 2 ^ (i % 32).toNat = z at q ⊢
    unfold wrap32; omega
  rw [e, Int.ediv_ediv_of_nonneg (by have := two_pow_pos (i % 32).toNat; omega), ← Int.pow_add]
  have e2 : (i % 32).toNat + (j % 32).toNat = ((i + j) % 32).toNat := by omega
  rw [e2]

/-- a word's lowest n bits as two's complement -/
def sgn (a n : Int) : Int := if n < 1 then 0 else if n > 31 then a else if 2 ^ (n - 1).toNat ≤ a % 2 ^ n.toNat then a % 2 ^ n.toNat - 2 ^ n.toNat + 4294967296 else a % 2 ^ n.toNat

theorem sign_f (a n : Int) (h0 : 0 ≤ a) (h1 : a < 4294967296) : word_Sign.f a n = some (sgn a n) := by
  unfold word_Sign.f sgn
  by_cases c : n < 1
  · rw [if_pos c, if_pos c]
  by_cases c2 : n > 31
  · rw [if_neg c, if_neg c, if_pos c2, if_pos c2]
  have hn : n = 1 ∨ n = 2 ∨ n = 3 ∨ n = 4 ∨ n = 5 ∨ n = 6 ∨ n = 7 ∨ n = 8 ∨ n = 9 ∨ n = 10 ∨ n = 11 ∨ n = 12 ∨ n = 13 ∨ n = 14 ∨ n = 15 ∨ n = 16 ∨ n = 17 ∨ n = 18 ∨ n = 19 ∨ n = 20 ∨ n = 21 ∨ n = 22 ∨ n = 23 ∨ n = 24 ∨ n = 25 ∨ n = 26 ∨ n = 27 ∨ n = 28 ∨ n = 29 ∨ n = 30 ∨ n = 31 := by omega
  rcases hn with rfl | rfl | rfl | rfl | rfl | rfl | rfl | rfl | rfl | rfl | rfl | rfl | rfl | rfl | rfl | rfl | rfl | rfl | rfl | rfl | rfl | rfl | rfl | rfl | rfl | rfl | rfl | rfl | rfl | rfl | rfl <;>
    · simp only [sar_f, wrap64, wrap32, shl, wrap_u32, IntKind.bits, Option.bind_some]
      simp
      omega

theorem sgn_range (a n : Int) (h0 : 0 ≤ a) (h1 : a < 4294967296) : 0 ≤ sgn a n ∧ sgn a n < 4294967296 := by
  unfold sgn
  by_cases c : n < 1
  · rw [if_pos c]; omega
  by_cases c2 : n > 31
  · rw [if_neg c, if_pos c2]; omega
  have hn : n = 1 ∨ n = 2 ∨ n = 3 ∨ n = 4 ∨ n = 5 ∨ n = 6 ∨ n = 7 ∨ n = 8 ∨ n = 9 ∨ n = 10 ∨ n = 11 ∨ n = 12 ∨ n = 13 ∨ n = 14 ∨ n = 15 ∨ n = 16 ∨ n = 17 ∨ n = 18 ∨ n = 19 ∨ n = 20 ∨ n = 21 ∨ n = 22 ∨ n = 23 ∨ n = 24 ∨ n = 25 ∨ n = 26 ∨ n = 27 ∨ n = 28 ∨ n = 29 ∨ n = 30 ∨ n = 31 := by omega
  rcases hn with rfl | rfl | rfl | rfl | rfl | rfl | rfl | rfl | rfl | rfl | rfl | rfl | rfl | rfl | rfl | rfl | rfl | rfl | rfl | rfl | rfl | rfl | rfl | rfl | rfl | rfl | rfl | rfl | rfl | rfl | rfl <;>
    · simp
      omega

theorem sgn_sgn (a n : Int) (h0 : 0 ≤ a) (h1 : a < 4294967296) : sgn (sgn a n) n = sgn a n := by
  unfold sgn
  by_cases c : n < 1
  · simp only [if_pos c]
  by_cases c2 : n > 31
  · simp only [if_neg c, if_pos c2]
  have hn : n = 1 ∨ n = 2 ∨ n = 3 ∨ n = 4 ∨ n = 5 ∨ n = 6 ∨ n = 7 ∨ n = 8 ∨ n = 9 ∨ n = 10 ∨ n = 11 ∨ n = 12 ∨ n = 13 ∨ n = 14 ∨ n = 15 ∨ n = 16 ∨ n = 17 ∨ n = 18 ∨ n = 19 ∨ n = 20 ∨ n = 21 ∨ n = 22 ∨ n = 23 ∨ n = 24 ∨ n = 25 ∨ n = 26 ∨ n = 27 ∨ n = 28 ∨ n = 29 ∨ n = 30 ∨ n = 31 := by omega
  rcases hn with rfl | rfl | rfl | rfl | rfl | rfl | rfl | rfl | rfl | rfl | rfl | rfl | rfl | rfl | rfl | rfl | rfl | rfl | rfl | rfl | rfl | rfl | rfl | rfl | rfl | rfl | rfl | rfl | rfl | rfl | rfl <;>
    · simp
      omega

theorem clz_f (a : Int) (h0 : 0 ≤ a) (h1 : a < 4294967296) : word_Clz.f a = some (32 - (Lib.bitLen a.toNat : Int)) := by
  unfold word_Clz.f bits_LeadingZeros32.f
  rw [if_pos h0, if_pos (by omega)]; rfl

theorem xor_max (a : Int) (h0 : 0 ≤ a) (h1 : a < 4294967296) : Go.bits .xor .u32 IntKind.u32.max a = 4294967295 - a := by
  obtain ⟨x, rfl⟩ := Int.eq_ofNat_of_zero_le h0
  have e : Go.bits .xor .u32 IntKind.u32.max (x : Int) = IntKind.wrap .u32 ((BitVec.allOnes 32 ^^^ BitVec.ofInt 32 (x : Int)).toNat : Int) := rfl
  rw [e, BitVec.allOnes_xor, BitVec.ofInt_natCast, BitVec.toNat_not, BitVec.toNat_ofNat, wrap_u32, Nat.mod_eq_of_lt (by omega)]
  omega

theorem clo_f (a : Int) (h0 : 0 ≤ a) (h1 : a < 4294967296) : word_Clo.f a = some (32 - (Lib.bitLen (4294967295 - a).toNat : Int)) := by
  unfold word_Clo.f bits_LeadingZeros32.f
  rw [xor_max a h0 h1, if_pos (by omega), if_pos (by omega)]; rfl

theorem known_f : pianolalaw1_known.f = some true := by decide +kernel

end Go.Proofs.Ytdagmhgmegpdpaa.W1
