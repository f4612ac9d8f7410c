/- word.Sar, word.Sign and the reference's Sign in plain whole numbers. Conditions: words are of 32 bits. -/
import Derived.Test.YtimbfflnlalanaaU
import Derived.Test.YtimbfflnlalanaaQx2
import Derived.Test.YtimbfflnlalanaaQx8
namespace Go.Proofs.Ytimbfflnlalanaa.WS
open Go.RowKit Go.Proofs.Ytimbfflnlalanaa.Q Go.Proofs.YtimbfflnlalanaaW.PrintWords Go.Proofs.YtimbfflnlalanaaW.PrintLast Go.Proofs.YtimbfflnlalanaaW.PrintMore Go.Proofs.Ytimbfflnlalanaa.U
set_option linter.unusedVariables false
set_option linter.unusedSimpArgs false

theorem wrap_u64 (n : Int) : IntKind.wrap .u64 n = n % 18446744073709551616 := by
  simp [IntKind.wrap, IntKind.bits, IntKind.signed]

theorem tmod_bounds (x n : Int) (hn : 0 < n) : -n < Int.tmod x n ∧ Int.tmod x n < n := ⟨Int.lt_tmod_of_pos x hn, Int.tmod_lt_of_pos x hn⟩

/-- '(x % n + n) % n' -/
theorem tmod_pos (x n : Int) (hn : 0 < n) (hn2 : n < 1000000) : Int.tmod (wrap64 (Int.tmod x n + n)) n = x % n := by
  have h := tmod_bounds x n hn
  have e : wrap64 (Int.tmod x n + n) = Int.tmod x n + n := by unfold wrap64; omega
  rw [e, Int.tmod_eq_emod_of_nonneg (by omega), Int.add_emod_right]
  rw [Int.tmod_eq_emod]
  split
  · simp
  · rw [Int.natAbs_of_nonneg (by omega), Int.sub_emod_right, Int.emod_emod]

theorem ediv_range (x p : Int) (hp : 1 ≤ p) (h0 : -2147483648 ≤ x) (h1 : x < 2147483648) : -2147483648 ≤ x / p ∧ x / p < 2147483648 :=
  ⟨Int.le_ediv_of_mul_le (by omega) (by omega), Int.ediv_lt_of_lt_mul (by omega) (by omega)⟩

theorem two_pow_pos (i : Nat) : (1 : Int) ≤ 2 ^ i := by
  have : (0 : Int) < 2 ^ i := Int.pow_pos (by decide)
  omega

theorem sar_f (a n : Int) : word_Sar.f a n = some (wrap32 a / 2 ^ (n % 32).toNat % 4294967296) := by
  unfold word_Sar.f shr
  rw [and31_i64, if_pos (by omega), Nat.min_eq_left (by simp [IntKind.bits]; omega)]

theorem wrap32_range (a : Int) : -2147483648 ≤ wrap32 a ∧ wrap32 a < 2147483648 := by unfold wrap32; omega

/-- a word's lowest n bits as two's complement -/
def sgn (a n : Int) : Int := if n < 1 then 0 else if n > 31 then a else if 2 ^ (n - 1).toNat ≤ a % 2 ^ n.toNat then a % 2 ^ n.toNat - 2 ^ n.toNat + 4294967296 else a % 2 ^ n.toNat

theorem sign_f (a n : Int) (h0 : 0 ≤ a) (h1 : a < 4294967296) : word_Sign.f a n = some (sgn a n) := by
  unfold word_Sign.f sgn
  by_cases c : n < 1
  · rw [if_pos c, if_pos c]
  by_cases c2 : n > 31
  · rw [if_neg c, if_neg c, if_pos c2, if_pos c2]
  have hn : n = 1 ∨ n = 2 ∨ n = 3 ∨ n = 4 ∨ n = 5 ∨ n = 6 ∨ n = 7 ∨ n = 8 ∨ n = 9 ∨ n = 10 ∨ n = 11 ∨ n = 12 ∨ n = 13 ∨ n = 14 ∨ n = 15 ∨ n = 16 ∨ n = 17 ∨ n = 18 ∨ n = 19 ∨ n = 20 ∨ n = 21 ∨ n = 22 ∨ n = 23 ∨ n = 24 ∨ n = 25 ∨ n = 26 ∨ n = 27 ∨ n = 28 ∨ n = 29 ∨ n = 30 ∨ n = 31 := by omega
  rcases hn with rfl | rfl | rfl | rfl | rfl | rfl | rfl | rfl | rfl | rfl | rfl | rfl | rfl | rfl | rfl | rfl | rfl | rfl | rfl | rfl | rfl | rfl | rfl | rfl | rfl | rfl | rfl | rfl | rfl | rfl | rfl <;>
    · simp only [sar_f, wrap64, wrap32, shl, wrap_u32, IntKind.bits, Option.bind_some]
      simp
      omega

theorem sgn_range (a n : Int) (h0 : 0 ≤ a) (h1 : a < 4294967296) : 0 ≤ sgn a n ∧ sgn a n < 4294967296 := by
  unfold sgn
  by_cases c : n < 1
  · rw [if_pos c]; omega
  by_cases c2 : n > 31
  · rw [if_neg c, if_pos c2]; omega
  have hn : n = 1 ∨ n = 2 ∨ n = 3 ∨ n = 4 ∨ n = 5 ∨ n = 6 ∨ n = 7 ∨ n = 8 ∨ n = 9 ∨ n = 10 ∨ n = 11 ∨ n = 12 ∨ n = 13 ∨ n = 14 ∨ n = 15 ∨ n = 16 ∨ n = 17 ∨ n = 18 ∨ n = 19 ∨ n = 20 ∨ n = 21 ∨ n = 22 ∨ n = 23 ∨ n = 24 ∨ n = 25 ∨ n = 26 ∨ n = 27 ∨ n = 28 ∨ n = 29 ∨ n = 30 ∨ n = 31 := by omega
  rcases hn with rfl | rfl | rfl | rfl | rfl | rfl | rfl | rfl | rfl | rfl | rfl | rfl | rfl | rfl | rfl | rfl | rfl | rfl | rfl | rfl | rfl | rfl | rfl | rfl | rfl | rfl | rfl | rfl | rfl | rfl | rfl <;>
    · simp
      omega

theorem sign_ref (a n : Int) (h0 : 0 ≤ a) (h1 : a < 4294967296) : pianolaref1_Sign.f a n = some (sgn a n) := by
  unfold pianolaref1_Sign.f sgn
  by_cases c : n < 1
  · rw [if_pos c, if_pos c]
  by_cases c2 : n > 31
  · rw [if_neg c, if_neg c, if_pos c2, if_pos c2]
  rw [if_neg c, if_neg c2, if_neg c, if_neg c2]
  obtain ⟨x, rfl⟩ := Int.eq_ofNat_of_zero_le h0
  have hn : n = 1 ∨ n = 2 ∨ n = 3 ∨ n = 4 ∨ n = 5 ∨ n = 6 ∨ n = 7 ∨ n = 8 ∨ n = 9 ∨ n = 10 ∨ n = 11 ∨ n = 12 ∨ n = 13 ∨ n = 14 ∨ n = 15 ∨ n = 16 ∨ n = 17 ∨ n = 18 ∨ n = 19 ∨ n = 20 ∨ n = 21 ∨ n = 22 ∨ n = 23 ∨ n = 24 ∨ n = 25 ∨ n = 26 ∨ n = 27 ∨ n = 28 ∨ n = 29 ∨ n = 30 ∨ n = 31 := by omega
  rcases hn with rfl | rfl | rfl | rfl | rfl | rfl | rfl | rfl | rfl | rfl | rfl | rfl | rfl | rfl | rfl | rfl | rfl | rfl | rfl | rfl | rfl | rfl | rfl | rfl | rfl | rfl | rfl | rfl | rfl | rfl | rfl
  · have e1 : IntKind.wrap .u64 1 = 1 := by rw [wrap_u64]; rfl
    have e2 : IntKind.wrap .u64 (wrap64 (1 - 1)) = 0 := by rw [wrap_u64]; unfold wrap64; rfl
    have e3 : shl .u32 1 1 = 2 := by unfold shl; rw [wrap_u32]; rfl
    have e4 : (((2 : Int) - 1) % 4294967296) = ((2 ^ 1 - 1 : Nat) : Int) := by decide
    rw [e1, e2, if_pos (by decide), if_pos (by decide), e3, e4, and_u32 x _ (by omega) (by decide), and_ones]
    have e5 : shr .u32 ((x % 2 ^ 1 : Nat) : Int) 0 = ((x % 2 ^ 1 : Nat) : Int) / 1 := rfl
    rw [e5]
    have e6 : (2 : Int) ^ ((1 : Int) - 1).toNat = 1 := by decide
    have e7 : (2 : Int) ^ (1 : Int).toNat = 2 := by decide
    rw [e6, e7]
    by_cases d : ((x % 2 ^ 1 : Nat) : Int) / 1 = 1
    · rw [if_pos d, if_pos (by omega)]; congr 1; omega
    · rw [if_neg d, if_neg (by omega)]; congr 1
  · have e1 : IntKind.wrap .u64 2 = 2 := by rw [wrap_u64]; rfl
    have e2 : IntKind.wrap .u64 (wrap64 (2 - 1)) = 1 := by rw [wrap_u64]; unfold wrap64; rfl
    have e3 : shl .u32 1 2 = 4 := by unfold shl; rw [wrap_u32]; rfl
    have e4 : (((4 : Int) - 1) % 4294967296) = ((2 ^ 2 - 1 : Nat) : Int) := by decide
    rw [e1, e2, if_pos (by decide), if_pos (by decide), e3, e4, and_u32 x _ (by omega) (by decide), and_ones]
    have e5 : shr .u32 ((x % 2 ^ 2 : Nat) : Int) 1 = ((x % 2 ^ 2 : Nat) : Int) / 2 := rfl
    rw [e5]
    have e6 : (2 : Int) ^ ((2 : Int) - 1).toNat = 2 := by decide
    have e7 : (2 : Int) ^ (2 : Int).toNat = 4 := by decide
    rw [e6, e7]
    by_cases d : ((x % 2 ^ 2 : Nat) : Int) / 2 = 1
    · rw [if_pos d, if_pos (by omega)]; congr 1; omega
    · rw [if_neg d, if_neg (by omega)]; congr 1
  · have e1 : IntKind.wrap .u64 3 = 3 := by rw [wrap_u64]; rfl
    have e2 : IntKind.wrap .u64 (wrap64 (3 - 1)) = 2 := by rw [wrap_u64]; unfold wrap64; rfl
    have e3 : shl .u32 1 3 = 8 := by unfold shl; rw [wrap_u32]; rfl
    have e4 : (((8 : Int) - 1) % 4294967296) = ((2 ^ 3 - 1 : Nat) : Int) := by decide
    rw [e1, e2, if_pos (by decide), if_pos (by decide), e3, e4, and_u32 x _ (by omega) (by decide), and_ones]
    have e5 : shr .u32 ((x % 2 ^ 3 : Nat) : Int) 2 = ((x % 2 ^ 3 : Nat) : Int) / 4 := rfl
    rw [e5]
    have e6 : (2 : Int) ^ ((3 : Int) - 1).toNat = 4 := by decide
    have e7 : (2 : Int) ^ (3 : Int).toNat = 8 := by decide
    rw [e6, e7]
    by_cases d : ((x % 2 ^ 3 : Nat) : Int) / 4 = 1
    · rw [if_pos d, if_pos (by omega)]; congr 1; omega
    · rw [if_neg d, if_neg (by omega)]; congr 1
  · have e1 : IntKind.wrap .u64 4 = 4 := by rw [wrap_u64]; rfl
    have e2 : IntKind.wrap .u64 (wrap64 (4 - 1)) = 3 := by rw [wrap_u64]; unfold wrap64; rfl
    have e3 : shl .u32 1 4 = 16 := by unfold shl; rw [wrap_u32]; rfl
    have e4 : (((16 : Int) - 1) % 4294967296) = ((2 ^ 4 - 1 : Nat) : Int) := by decide
    rw [e1, e2, if_pos (by decide), if_pos (by decide), e3, e4, and_u32 x _ (by omega) (by decide), and_ones]
    have e5 : shr .u32 ((x % 2 ^ 4 : Nat) : Int) 3 = ((x % 2 ^ 4 : Nat) : Int) / 8 := rfl
    rw [e5]
    have e6 : (2 : Int) ^ ((4 : Int) - 1).toNat = 8 := by decide
    have e7 : (2 : Int) ^ (4 : Int).toNat = 16 := by decide
    rw [e6, e7]
    by_cases d : ((x % 2 ^ 4 : Nat) : Int) / 8 = 1
    · rw [if_pos d, if_pos (by omega)]; congr 1; omega
    · rw [if_neg d, if_neg (by omega)]; congr 1
  · have e1 : IntKind.wrap .u64 5 = 5 := by rw [wrap_u64]; rfl
    have e2 : IntKind.wrap .u64 (wrap64 (5 - 1)) = 4 := by rw [wrap_u64]; unfold wrap64; rfl
    have e3 : shl .u32 1 5 = 32 := by unfold shl; rw [wrap_u32]; rfl
    have e4 : (((32 : Int) - 1) % 4294967296) = ((2 ^ 5 - 1 : Nat) : Int) := by decide
    rw [e1, e2, if_pos (by decide), if_pos (by decide), e3, e4, and_u32 x _ (by omega) (by decide), and_ones]
    have e5 : shr .u32 ((x % 2 ^ 5 : Nat) : Int) 4 = ((x % 2 ^ 5 : Nat) : Int) / 16 := rfl
    rw [e5]
    have e6 : (2 : Int) ^ ((5 : Int) - 1).toNat = 16 := by decide
    have e7 : (2 : Int) ^ (5 : Int).toNat = 32 := by decide
    rw [e6, e7]
    by_cases d : ((x % 2 ^ 5 : Nat) : Int) / 16 = 1
    · rw [if_pos d, if_pos (by omega)]; congr 1; omega
    · rw [if_neg d, if_neg (by omega)]; congr 1
  · have e1 : IntKind.wrap .u64 6 = 6 := by rw [wrap_u64]; rfl
    have e2 : IntKind.wrap .u64 (wrap64 (6 - 1)) = 5 := by rw [wrap_u64]; unfold wrap64; rfl
    have e3 : shl .u32 1 6 = 64 := by unfold shl; rw [wrap_u32]; rfl
    have e4 : (((64 : Int) - 1) % 4294967296) = ((2 ^ 6 - 1 : Nat) : Int) := by decide
    rw [e1, e2, if_pos (by decide), if_pos (by decide), e3, e4, and_u32 x _ (by omega) (by decide), and_ones]
    have e5 : shr .u32 ((x % 2 ^ 6 : Nat) : Int) 5 = ((x % 2 ^ 6 : Nat) : Int) / 32 := rfl
    rw [e5]
    have e6 : (2 : Int) ^ ((6 : Int) - 1).toNat = 32 := by decide
    have e7 : (2 : Int) ^ (6 : Int).toNat = 64 := by decide
    rw [e6, e7]
    by_cases d : ((x % 2 ^ 6 : Nat) : Int) / 32 = 1
    · rw [if_pos d, if_pos (by omega)]; congr 1; omega
    · rw [if_neg d, if_neg (by omega)]; congr 1
  · have e1 : IntKind.wrap .u64 7 = 7 := by rw [wrap_u64]; rfl
    have e2 : IntKind.wrap .u64 (wrap64 (7 - 1)) = 6 := by rw [wrap_u64]; unfold wrap64; rfl
    have e3 : shl .u32 1 7 = 128 := by unfold shl; rw [wrap_u32]; rfl
    have e4 : (((128 : Int) - 1) % 4294967296) = ((2 ^ 7 - 1 : Nat) : Int) := by decide
    rw [e1, e2, if_pos (by decide), if_pos (by decide), e3, e4, and_u32 x _ (by omega) (by decide), and_ones]
    have e5 : shr .u32 ((x % 2 ^ 7 : Nat) : Int) 6 = ((x % 2 ^ 7 : Nat) : Int) / 64 := rfl
    rw [e5]
    have e6 : (2 : Int) ^ ((7 : Int) - 1).toNat = 64 := by decide
    have e7 : (2 : Int) ^ (7 : Int).toNat = 128 := by decide
    rw [e6, e7]
    by_cases d : ((x % 2 ^ 7 : Nat) : Int) / 64 = 1
    · rw [if_pos d, if_pos (by omega)]; congr 1; omega
    · rw [if_neg d, if_neg (by omega)]; congr 1
  · have e1 : IntKind.wrap .u64 8 = 8 := by rw [wrap_u64]; rfl
    have e2 : IntKind.wrap .u64 (wrap64 (8 - 1)) = 7 := by rw [wrap_u64]; unfold wrap64; rfl
    have e3 : shl .u32 1 8 = 256 := by unfold shl; rw [wrap_u32]; rfl
    have e4 : (((256 : Int) - 1) % 4294967296) = ((2 ^ 8 - 1 : Nat) : Int) := by decide
    rw [e1, e2, if_pos (by decide), if_pos (by decide), e3, e4, and_u32 x _ (by omega) (by decide), and_ones]
    have e5 : shr .u32 ((x % 2 ^ 8 : Nat) : Int) 7 = ((x % 2 ^ 8 : Nat) : Int) / 128 := rfl
    rw [e5]
    have e6 : (2 : Int) ^ ((8 : Int) - 1).toNat = 128 := by decide
    have e7 : (2 : Int) ^ (8 : Int).toNat = 256 := by decide
    rw [e6, e7]
    by_cases d : ((x % 2 ^ 8 : Nat) : Int) / 128 = 1
    · rw [if_pos d, if_pos (by omega)]; congr 1; omega
    · rw [if_neg d, if_neg (by omega)]; congr 1
  · have e1 : IntKind.wrap .u64 9 = 9 := by rw [wrap_u64]; rfl
    have e2 : IntKind.wrap .u64 (wrap64 (9 - 1)) = 8 := by rw [wrap_u64]; unfold wrap64; rfl
    have e3 : shl .u32 1 9 = 512 := by unfold shl; rw [wrap_u32]; rfl
    have e4 : (((512 : Int) - 1) % 4294967296) = ((2 ^ 9 - 1 : Nat) : Int) := by decide
    rw [e1, e2, if_pos (by decide), if_pos (by decide), e3, e4, and_u32 x _ (by omega) (by decide), and_ones]
    have e5 : shr .u32 ((x % 2 ^ 9 : Nat) : Int) 8 = ((x % 2 ^ 9 : Nat) : Int) / 256 := rfl
    rw [e5]
    have e6 : (2 : Int) ^ ((9 : Int) - 1).toNat = 256 := by decide
    have e7 : (2 : Int) ^ (9 : Int).toNat = 512 := by decide
    rw [e6, e7]
    by_cases d : ((x % 2 ^ 9 : Nat) : Int) / 256 = 1
    · rw [if_pos d, if_pos (by omega)]; congr 1; omega
    · rw [if_neg d, if_neg (by omega)]; congr 1
  · have e1 : IntKind.wrap .u64 10 = 10 := by rw [wrap_u64]; rfl
    have e2 : IntKind.wrap .u64 (wrap64 (10 - 1)) = 9 := by rw [wrap_u64]; unfold wrap64; rfl
    have e3 : shl .u32 1 10 = 1024 := by unfold shl; rw [wrap_u32]; rfl
    have e4 : (((1024 : Int) - 1) % 4294967296) = ((2 ^ 10 - 1 : Nat) : Int) := by decide
    rw [e1, e2, if_pos (by decide), if_pos (by decide), e3, e4, and_u32 x _ (by omega) (by decide), and_ones]
    have e5 : shr .u32 ((x % 2 ^ 10 : Nat) : Int) 9 = ((x % 2 ^ 10 : Nat) : Int) / 512 := rfl
    rw [e5]
    have e6 : (2 : Int) ^ ((10 : Int) - 1).toNat = 512 := by decide
    have e7 : (2 : Int) ^ (10 : Int).toNat = 1024 := by decide
    rw [e6, e7]
    by_cases d : ((x % 2 ^ 10 : Nat) : Int) / 512 = 1
    · rw [if_pos d, if_pos (by omega)]; congr 1; omega
    · rw [if_neg d, if_neg (by omega)]; congr 1
  · have e1 : IntKind.wrap .u64 11 = 11 := by rw [wrap_u64]; rfl
    have e2 : IntKind.wrap .u64 (wrap64 (11 - 1)) = 10 := by rw [wrap_u64]; unfold wrap64; rfl
    have e3 : shl .u32 1 11 = 2048 := by unfold shl; rw [wrap_u32]; rfl
    have e4 : (((2048 : Int) - 1) % 4294967296) = ((2 ^ 11 - 1 : Nat) : Int) := by decide
    rw [e1, e2, if_pos (by decide), if_pos (by decide), e3, e4, and_u32 x _ (by omega) (by decide), and_ones]
    have e5 : shr .u32 ((x % 2 ^ 11 : Nat) : Int) 10 = ((x % 2 ^ 11 : Nat) : Int) / 1024 := rfl
    rw [e5]
    have e6 : (2 : Int) ^ ((11 : Int) - 1).toNat = 1024 := by decide
    have e7 : (2 : Int) ^ (11 : Int).toNat = 2048 := by decide
    rw [e6, e7]
    by_cases d : ((x % 2 ^ 11 : Nat) : Int) / 1024 = 1
    · rw [if_pos d, if_pos (by omega)]; congr 1; omega
    · rw [if_neg d, if_neg (by omega)]; congr 1
  · have e1 : IntKind.wrap .u64 12 = 12 := by rw [wrap_u64]; rfl
    have e2 : IntKind.wrap .u64 (wrap64 (12 - 1)) = 11 := by rw [wrap_u64]; unfold wrap64; rfl
    have e3 : shl .u32 1 12 = 4096 := by unfold shl; rw [wrap_u32]; rfl
    have e4 : (((4096 : Int) - 1) % 4294967296) = ((2 ^ 12 - 1 : Nat) : Int) := by decide
    rw [e1, e2, if_pos (by decide), if_pos (by decide), e3, e4, and_u32 x _ (by omega) (by decide), and_ones]
    have e5 : shr .u32 ((x % 2 ^ 12 : Nat) : Int) 11 = ((x % 2 ^ 12 : Nat) : Int) / 2048 := rfl
    rw [e5]
    have e6 : (2 : Int) ^ ((12 : Int) - 1).toNat = 2048 := by decide
    have e7 : (2 : Int) ^ (12 : Int).toNat = 4096 := by decide
    rw [e6, e7]
    by_cases d : ((x % 2 ^ 12 : Nat) : Int) / 2048 = 1
    · rw [if_pos d, if_pos (by omega)]; congr 1; omega
    · rw [if_neg d, if_neg (by omega)]; congr 1
  · have e1 : IntKind.wrap .u64 13 = 13 := by rw [wrap_u64]; rfl
    have e2 : IntKind.wrap .u64 (wrap64 (13 - 1)) = 12 := by rw [wrap_u64]; unfold wrap64; rfl
    have e3 : shl .u32 1 13 = 8192 := by unfold shl; rw [wrap_u32]; rfl
    have e4 : (((8192 : Int) - 1) % 4294967296) = ((2 ^ 13 - 1 : Nat) : Int) := by decide
    rw [e1, e2, if_pos (by decide), if_pos (by decide), e3, e4, and_u32 x _ (by omega) (by decide), and_ones]
    have e5 : shr .u32 ((x % 2 ^ 13 : Nat) : Int) 12 = ((x % 2 ^ 13 : Nat) : Int) / 4096 := rfl
    rw [e5]
    have e6 : (2 : Int) ^ ((13 : Int) - 1).toNat = 4096 := by decide
    have e7 : (2 : Int) ^ (13 : Int).toNat = 8192 := by decide
    rw [e6, e7]
    by_cases d : ((x % 2 ^ 13 : Nat) : Int) / 4096 = 1
    · rw [if_pos d, if_pos (by omega)]; congr 1; omega
    · rw [if_neg d, if_neg (by omega)]; congr 1
  · have e1 : IntKind.wrap .u64 14 = 14 := by rw [wrap_u64]; rfl
    have e2 : IntKind.wrap .u64 (wrap64 (14 - 1)) = 13 := by rw [wrap_u64]; unfold wrap64; rfl
    have e3 : shl .u32 1 14 = 16384 := by unfold shl; rw [wrap_u32]; rfl
    have e4 : (((16384 : Int) - 1) % 4294967296) = ((2 ^ 14 - 1 : Nat) : Int) := by decide
    rw [e1, e2, if_pos (by decide), if_pos (by decide), e3, e4, and_u32 x _ (by omega) (by decide), and_ones]
    have e5 : shr .u32 ((x % 2 ^ 14 : Nat) : Int) 13 = ((x % 2 ^ 14 : Nat) : Int) / 8192 := rfl
    rw [e5]
    have e6 : (2 : Int) ^ ((14 : Int) - 1).toNat = 8192 := by decide
    have e7 : (2 : Int) ^ (14 : Int).toNat = 16384 := by decide
    rw [e6, e7]
    by_cases d : ((x % 2 ^ 14 : Nat) : Int) / 8192 = 1
    · rw [if_pos d, if_pos (by omega)]; congr 1; omega
    · rw [if_neg d, if_neg (by omega)]; congr 1
  · have e1 : IntKind.wrap .u64 15 = 15 := by rw [wrap_u64]; rfl
    have e2 : IntKind.wrap .u64 (wrap64 (15 - 1)) = 14 := by rw [wrap_u64]; unfold wrap64; rfl
    have e3 : shl .u32 1 15 = 32768 := by unfold shl; rw [wrap_u32]; rfl
    have e4 : (((32768 : Int) - 1) % 4294967296) = ((2 ^ 15 - 1 : Nat) : Int) := by decide
    rw [e1, e2, if_pos (by decide), if_pos (by decide), e3, e4, and_u32 x _ (by omega) (by decide), and_ones]
    have e5 : shr .u32 ((x % 2 ^ 15 : Nat) : Int) 14 = ((x % 2 ^ 15 : Nat) : Int) / 16384 := rfl
    rw [e5]
    have e6 : (2 : Int) ^ ((15 : Int) - 1).toNat = 16384 := by decide
    have e7 : (2 : Int) ^ (15 : Int).toNat = 32768 := by decide
    rw [e6, e7]
    by_cases d : ((x % 2 ^ 15 : Nat) : Int) / 16384 = 1
    · rw [if_pos d, if_pos (by omega)]; congr 1; omega
    · rw [if_neg d, if_neg (by omega)]; congr 1
  · have e1 : IntKind.wrap .u64 16 = 16 := by rw [wrap_u64]; rfl
    have e2 : IntKind.wrap .u64 (wrap64 (16 - 1)) = 15 := by rw [wrap_u64]; unfold wrap64; rfl
    have e3 : shl .u32 1 16 = 65536 := by unfold shl; rw [wrap_u32]; rfl
    have e4 : (((65536 : Int) - 1) % 4294967296) = ((2 ^ 16 - 1 : Nat) : Int) := by decide
    rw [e1, e2, if_pos (by decide), if_pos (by decide), e3, e4, and_u32 x _ (by omega) (by decide), and_ones]
    have e5 : shr .u32 ((x % 2 ^ 16 : Nat) : Int) 15 = ((x % 2 ^ 16 : Nat) : Int) / 32768 := rfl
    rw [e5]
    have e6 : (2 : Int) ^ ((16 : Int) - 1).toNat = 32768 := by decide
    have e7 : (2 : Int) ^ (16 : Int).toNat = 65536 := by decide
    rw [e6, e7]
    by_cases d : ((x % 2 ^ 16 : Nat) : Int) / 32768 = 1
    · rw [if_pos d, if_pos (by omega)]; congr 1; omega
    · rw [if_neg d, if_neg (by omega)]; congr 1
  · have e1 : IntKind.wrap .u64 17 = 17 := by rw [wrap_u64]; rfl
    have e2 : IntKind.wrap .u64 (wrap64 (17 - 1)) = 16 := by rw [wrap_u64]; unfold wrap64; rfl
    have e3 : shl .u32 1 17 = 131072 := by unfold shl; rw [wrap_u32]; rfl
    have e4 : (((131072 : Int) - 1) % 4294967296) = ((2 ^ 17 - 1 : Nat) : Int) := by decide
    rw [e1, e2, if_pos (by decide), if_pos (by decide), e3, e4, and_u32 x _ (by omega) (by decide), and_ones]
    have e5 : shr .u32 ((x % 2 ^ 17 : Nat) : Int) 16 = ((x % 2 ^ 17 : Nat) : Int) / 65536 := rfl
    rw [e5]
    have e6 : (2 : Int) ^ ((17 : Int) - 1).toNat = 65536 := by decide
    have e7 : (2 : Int) ^ (17 : Int).toNat = 131072 := by decide
    rw [e6, e7]
    by_cases d : ((x % 2 ^ 17 : Nat) : Int) / 65536 = 1
    · rw [if_pos d, if_pos (by omega)]; congr 1; omega
    · rw [if_neg d, if_neg (by omega)]; congr 1
  · have e1 : IntKind.wrap .u64 18 = 18 := by rw [wrap_u64]; rfl
    have e2 : IntKind.wrap .u64 (wrap64 (18 - 1)) = 17 := by rw [wrap_u64]; unfold wrap64; rfl
    have e3 : shl .u32 1 18 = 262144 := by unfold shl; rw [wrap_u32]; rfl
    have e4 : (((262144 : Int) - 1) % 4294967296) = ((2 ^ 18 - 1 : Nat) : Int) := by decide
    rw [e1, e2, if_pos (by decide), if_pos (by decide), e3, e4, and_u32 x _ (by omega) (by decide), and_ones]
    have e5 : shr .u32 ((x % 2 ^ 18 : Nat) : Int) 17 = ((x % 2 ^ 18 : Nat) : Int) / 131072 := rfl
    rw [e5]
    have e6 : (2 : Int) ^ ((18 : Int) - 1).toNat = 131072 := by decide
    have e7 : (2 : Int) ^ (18 : Int).toNat = 262144 := by decide
    rw [e6, e7]
    by_cases d : ((x % 2 ^ 18 : Nat) : Int) / 131072 = 1
    · rw [if_pos d, if_pos (by omega)]; congr 1; omega
    · rw [if_neg d, if_neg (by omega)]; congr 1
  · have e1 : IntKind.wrap .u64 19 = 19 := by rw [wrap_u64]; rfl
    have e2 : IntKind.wrap .u64 (wrap64 (19 - 1)) = 18 := by rw [wrap_u64]; unfold wrap64; rfl
    have e3 : shl .u32 1 19 = 524288 := by unfold shl; rw [wrap_u32]; rfl
    have e4 : (((524288 : Int) - 1) % 4294967296) = ((2 ^ 19 - 1 : Nat) : Int) := by decide
    rw [e1, e2, if_pos (by decide), if_pos (by decide), e3, e4, and_u32 x _ (by omega) (by decide), and_ones]
    have e5 : shr .u32 ((x % 2 ^ 19 : Nat) : Int) 18 = ((x % 2 ^ 19 : Nat) : Int) / 262144 := rfl
    rw [e5]
    have e6 : (2 : Int) ^ ((19 : Int) - 1).toNat = 262144 := by decide
    have e7 : (2 : Int) ^ (19 : Int).toNat = 524288 := by decide
    rw [e6, e7]
    by_cases d : ((x % 2 ^ 19 : Nat) : Int) / 262144 = 1
    · rw [if_pos d, if_pos (by omega)]; congr 1; omega
    · rw [if_neg d, if_neg (by omega)]; congr 1
  · have e1 : IntKind.wrap .u64 20 = 20 := by rw [wrap_u64]; rfl
    have e2 : IntKind.wrap .u64 (wrap64 (20 - 1)) = 19 := by rw [wrap_u64]; unfold wrap64; rfl
    have e3 : shl .u32 1 20 = 1048576 := by unfold shl; rw [wrap_u32]; rfl
    have e4 : (((1048576 : Int) - 1) % 4294967296) = ((2 ^ 20 - 1 : Nat) : Int) := by decide
    rw [e1, e2, if_pos (by decide), if_pos (by decide), e3, e4, and_u32 x _ (by omega) (by decide), and_ones]
    have e5 : shr .u32 ((x % 2 ^ 20 : Nat) : Int) 19 = ((x % 2 ^ 20 : Nat) : Int) / 524288 := rfl
    rw [e5]
    have e6 : (2 : Int) ^ ((20 : Int) - 1).toNat = 524288 := by decide
    have e7 : (2 : Int) ^ (20 : Int).toNat = 1048576 := by decide
    rw [e6, e7]
    by_cases d : ((x % 2 ^ 20 : Nat) : Int) / 524288 = 1
    · rw [if_pos d, if_pos (by omega)]; congr 1; omega
    · rw [if_neg d, if_neg (by omega)]; congr 1
  · have e1 : IntKind.wrap .u64 21 = 21 := by rw [wrap_u64]; rfl
    have e2 : IntKind.wrap .u64 (wrap64 (21 - 1)) = 20 := by rw [wrap_u64]; unfold wrap64; rfl
    have e3 : shl .u32 1 21 = 2097152 := by unfold shl; rw [wrap_u32]; rfl
    have e4 : (((2097152 : Int) - 1) % 4294967296) = ((2 ^ 21 - 1 : Nat) : Int) := by decide
    rw [e1, e2, if_pos (by decide), if_pos (by decide), e3, e4, and_u32 x _ (by omega) (by decide), and_ones]
    have e5 : shr .u32 ((x % 2 ^ 21 : Nat) : Int) 20 = ((x % 2 ^ 21 : Nat) : Int) / 1048576 := rfl
    rw [e5]
    have e6 : (2 : Int) ^ ((21 : Int) - 1).toNat = 1048576 := by decide
    have e7 : (2 : Int) ^ (21 : Int).toNat = 2097152 := by decide
    rw [e6, e7]
    by_cases d : ((x % 2 ^ 21 : Nat) : Int) / 1048576 = 1
    · rw [if_pos d, if_pos (by omega)]; congr 1; omega
    · rw [if_neg d, if_neg (by omega)]; congr 1
  · have e1 : IntKind.wrap .u64 22 = 22 := by rw [wrap_u64]; rfl
    have e2 : IntKind.wrap .u64 (wrap64 (22 - 1)) = 21 := by rw [wrap_u64]; unfold wrap64; rfl
    have e3 : shl .u32 1 22 = 4194304 := by unfold shl; rw [wrap_u32]; rfl
    have e4 : (((4194304 : Int) - 1) % 4294967296) = ((2 ^ 22 - 1 : Nat) : Int) := by decide
    rw [e1, e2, if_pos (by decide), if_pos (by decide), e3, e4, and_u32 x _ (by omega) (by decide), and_ones]
    have e5 : shr .u32 ((x % 2 ^ 22 : Nat) : Int) 21 = ((x % 2 ^ 22 : Nat) : Int) / 2097152 := rfl
    rw [e5]
    have e6 : (2 : Int) ^ ((22 : Int) - 1).toNat = 2097152 := by decide
    have e7 : (2 : Int) ^ (22 : Int).toNat = 4194304 := by decide
    rw [e6, e7]
    by_cases d : ((x % 2 ^ 22 : Nat) : Int) / 2097152 = 1
    · rw [if_pos d, if_pos (by omega)]; congr 1; omega
    · rw [if_neg d, if_neg (by omega)]; congr 1
  · have e1 : IntKind.wrap .u64 23 = 23 := by rw [wrap_u64]; rfl
    have e2 : IntKind.wrap .u64 (wrap64 (23 - 1)) = 22 := by rw [wrap_u64]; unfold wrap64; rfl
    have e3 : shl .u32 1 23 = 8388608 := by unfold shl; rw [wrap_u32]; rfl
    have e4 : (((8388608 : Int) - 1) % 4294967296) = ((2 ^ 23 - 1 : Nat) : Int) := by decide
    rw [e1, e2, if_pos (by decide), if_pos (by decide), e3, e4, and_u32 x _ (by omega) (by decide), and_ones]
    have e5 : shr .u32 ((x % 2 ^ 23 : Nat) : Int) 22 = ((x % 2 ^ 23 : Nat) : Int) / 4194304 := rfl
    rw [e5]
    have e6 : (2 : Int) ^ ((23 : Int) - 1).toNat = 4194304 := by decide
    have e7 : (2 : Int) ^ (23 : Int).toNat = 8388608 := by decide
    rw [e6, e7]
    by_cases d : ((x % 2 ^ 23 : Nat) : Int) / 4194304 = 1
    · rw [if_pos d, if_pos (by omega)]; congr 1; omega
    · rw [if_neg d, if_neg (by omega)]; congr 1
  · have e1 : IntKind.wrap .u64 24 = 24 := by rw [wrap_u64]; rfl
    have e2 : IntKind.wrap .u64 (wrap64 (24 - 1)) = 23 := by rw [wrap_u64]; unfold wrap64; rfl
    have e3 : shl .u32 1 24 = 16777216 := by unfold shl; rw [wrap_u32]; rfl
    have e4 : (((16777216 : Int) - 1) % 4294967296) = ((2 ^ 24 - 1 : Nat) : Int) := by decide
    rw [e1, e2, if_pos (by decide), if_pos (by decide), e3, e4, and_u32 x _ (by omega) (by decide), and_ones]
    have e5 : shr .u32 ((x % 2 ^ 24 : Nat) : Int) 23 = ((x % 2 ^ 24 : Nat) : Int) / 8388608 := rfl
    rw [e5]
    have e6 : (2 : Int) ^ ((24 : Int) - 1).toNat = 8388608 := by decide
    have e7 : (2 : Int) ^ (24 : Int).toNat = 16777216 := by decide
    rw [e6, e7]
    by_cases d : ((x % 2 ^ 24 : Nat) : Int) / 8388608 = 1
    · rw [if_pos d, if_pos (by omega)]; congr 1; omega
    · rw [if_neg d, if_neg (by omega)]; congr 1
  · have e1 : IntKind.wrap .u64 25 = 25 := by rw [wrap_u64]; rfl
    have e2 : IntKind.wrap .u64 (wrap64 (25 - 1)) = 24 := by rw [wrap_u64]; unfold wrap64; rfl
    have e3 : shl .u32 1 25 = 33554432 := by unfold shl; rw [wrap_u32]; rfl
    have e4 : (((33554432 : Int) - 1) % 4294967296) = ((2 ^ 25 - 1 : Nat) : Int) := by decide
    rw [e1, e2, if_pos (by decide), if_pos (by decide), e3, e4, and_u32 x _ (by omega) (by decide), and_ones]
    have e5 : shr .u32 ((x % 2 ^ 25 : Nat) : Int) 24 = ((x % 2 ^ 25 : Nat) : Int) / 16777216 := rfl
    rw [e5]
    have e6 : (2 : Int) ^ ((25 : Int) - 1).toNat = 16777216 := by decide
    have e7 : (2 : Int) ^ (25 : Int).toNat = 33554432 := by decide
    rw [e6, e7]
    by_cases d : ((x % 2 ^ 25 : Nat) : Int) / 16777216 = 1
    · rw [if_pos d, if_pos (by omega)]; congr 1; omega
    · rw [if_neg d, if_neg (by omega)]; congr 1
  · have e1 : IntKind.wrap .u64 26 = 26 := by rw [wrap_u64]; rfl
    have e2 : IntKind.wrap .u64 (wrap64 (26 - 1)) = 25 := by rw [wrap_u64]; unfold wrap64; rfl
    have e3 : shl .u32 1 26 = 67108864 := by unfold shl; rw [wrap_u32]; rfl
    have e4 : (((67108864 : Int) - 1) % 4294967296) = ((2 ^ 26 - 1 : Nat) : Int) := by decide
    rw [e1, e2, if_pos (by decide), if_pos (by decide), e3, e4, and_u32 x _ (by omega) (by decide), and_ones]
    have e5 : shr .u32 ((x % 2 ^ 26 : Nat) : Int) 25 = ((x % 2 ^ 26 : Nat) : Int) / 33554432 := rfl
    rw [e5]
    have e6 : (2 : Int) ^ ((26 : Int) - 1).toNat = 33554432 := by decide
    have e7 : (2 : Int) ^ (26 : Int).toNat = 67108864 := by decide
    rw [e6, e7]
    by_cases d : ((x % 2 ^ 26 : Nat) : Int) / 33554432 = 1
    · rw [if_pos d, if_pos (by omega)]; congr 1; omega
    · rw [if_neg d, if_neg (by omega)]; congr 1
  · have e1 : IntKind.wrap .u64 27 = 27 := by rw [wrap_u64]; rfl
    have e2 : IntKind.wrap .u64 (wrap64 (27 - 1)) = 26 := by rw [wrap_u64]; unfold wrap64; rfl
    have e3 : shl .u32 1 27 = 134217728 := by unfold shl; rw [wrap_u32]; rfl
    have e4 : (((134217728 : Int) - 1) % 4294967296) = ((2 ^ 27 - 1 : Nat) : Int) := by decide
    rw [e1, e2, if_pos (by decide), if_pos (by decide), e3, e4, and_u32 x _ (by omega) (by decide), and_ones]
    have e5 : shr .u32 ((x % 2 ^ 27 : Nat) : Int) 26 = ((x % 2 ^ 27 : Nat) : Int) / 67108864 := rfl
    rw [e5]
    have e6 : (2 : Int) ^ ((27 : Int) - 1).toNat = 67108864 := by decide
    have e7 : (2 : Int) ^ (27 : Int).toNat = 134217728 := by decide
    rw [e6, e7]
    by_cases d : ((x % 2 ^ 27 : Nat) : Int) / 67108864 = 1
    · rw [if_pos d, if_pos (by omega)]; congr 1; omega
    · rw [if_neg d, if_neg (by omega)]; congr 1
  · have e1 : IntKind.wrap .u64 28 = 28 := by rw [wrap_u64]; rfl
    have e2 : IntKind.wrap .u64 (wrap64 (28 - 1)) = 27 := by rw [wrap_u64]; unfold wrap64; rfl
    have e3 : shl .u32 1 28 = 268435456 := by unfold shl; rw [wrap_u32]; rfl
    have e4 : (((268435456 : Int) - 1) % 4294967296) = ((2 ^ 28 - 1 : Nat) : Int) := by decide
    rw [e1, e2, if_pos (by decide), if_pos (by decide), e3, e4, and_u32 x _ (by omega) (by decide), and_ones]
    have e5 : shr .u32 ((x % 2 ^ 28 : Nat) : Int) 27 = ((x % 2 ^ 28 : Nat) : Int) / 134217728 := rfl
    rw [e5]
    have e6 : (2 : Int) ^ ((28 : Int) - 1).toNat = 134217728 := by decide
    have e7 : (2 : Int) ^ (28 : Int).toNat = 268435456 := by decide
    rw [e6, e7]
    by_cases d : ((x % 2 ^ 28 : Nat) : Int) / 134217728 = 1
    · rw [if_pos d, if_pos (by omega)]; congr 1; omega
    · rw [if_neg d, if_neg (by omega)]; congr 1
  · have e1 : IntKind.wrap .u64 29 = 29 := by rw [wrap_u64]; rfl
    have e2 : IntKind.wrap .u64 (wrap64 (29 - 1)) = 28 := by rw [wrap_u64]; unfold wrap64; rfl
    have e3 : shl .u32 1 29 = 536870912 := by unfold shl; rw [wrap_u32]; rfl
    have e4 : (((536870912 : Int) - 1) % 4294967296) = ((2 ^ 29 - 1 : Nat) : Int) := by decide
    rw [e1, e2, if_pos (by decide), if_pos (by decide), e3, e4, and_u32 x _ (by omega) (by decide), and_ones]
    have e5 : shr .u32 ((x % 2 ^ 29 : Nat) : Int) 28 = ((x % 2 ^ 29 : Nat) : Int) / 268435456 := rfl
    rw [e5]
    have e6 : (2 : Int) ^ ((29 : Int) - 1).toNat = 268435456 := by decide
    have e7 : (2 : Int) ^ (29 : Int).toNat = 536870912 := by decide
    rw [e6, e7]
    by_cases d : ((x % 2 ^ 29 : Nat) : Int) / 268435456 = 1
    · rw [if_pos d, if_pos (by omega)]; congr 1; omega
    · rw [if_neg d, if_neg (by omega)]; congr 1
  · have e1 : IntKind.wrap .u64 30 = 30 := by rw [wrap_u64]; rfl
    have e2 : IntKind.wrap .u64 (wrap64 (30 - 1)) = 29 := by rw [wrap_u64]; unfold wrap64; rfl
    have e3 : shl .u32 1 30 = 1073741824 := by unfold shl; rw [wrap_u32]; rfl
    have e4 : (((1073741824 : Int) - 1) % 4294967296) = ((2 ^ 30 - 1 : Nat) : Int) := by decide
    rw [e1, e2, if_pos (by decide), if_pos (by decide), e3, e4, and_u32 x _ (by omega) (by decide), and_ones]
    have e5 : shr .u32 ((x % 2 ^ 30 : Nat) : Int) 29 = ((x % 2 ^ 30 : Nat) : Int) / 536870912 := rfl
    rw [e5]
    have e6 : (2 : Int) ^ ((30 : Int) - 1).toNat = 536870912 := by decide
    have e7 : (2 : Int) ^ (30 : Int).toNat = 1073741824 := by decide
    rw [e6, e7]
    by_cases d : ((x % 2 ^ 30 : Nat) : Int) / 536870912 = 1
    · rw [if_pos d, if_pos (by omega)]; congr 1; omega
    · rw [if_neg d, if_neg (by omega)]; congr 1
  · have e1 : IntKind.wrap .u64 31 = 31 := by rw [wrap_u64]; rfl
    have e2 : IntKind.wrap .u64 (wrap64 (31 - 1)) = 30 := by rw [wrap_u64]; unfold wrap64; rfl
    have e3 : shl .u32 1 31 = 2147483648 := by unfold shl; rw [wrap_u32]; rfl
    have e4 : (((2147483648 : Int) - 1) % 4294967296) = ((2 ^ 31 - 1 : Nat) : Int) := by decide
    rw [e1, e2, if_pos (by decide), if_pos (by decide), e3, e4, and_u32 x _ (by omega) (by decide), and_ones]
    have e5 : shr .u32 ((x % 2 ^ 31 : Nat) : Int) 30 = ((x % 2 ^ 31 : Nat) : Int) / 1073741824 := rfl
    rw [e5]
    have e6 : (2 : Int) ^ ((31 : Int) - 1).toNat = 1073741824 := by decide
    have e7 : (2 : Int) ^ (31 : Int).toNat = 2147483648 := by decide
    rw [e6, e7]
    by_cases d : ((x % 2 ^ 31 : Nat) : Int) / 1073741824 = 1
    · rw [if_pos d, if_pos (by omega)]; congr 1; omega
    · rw [if_neg d, if_neg (by omega)]; congr 1

end Go.Proofs.Ytimbfflnlalanaa.WS
