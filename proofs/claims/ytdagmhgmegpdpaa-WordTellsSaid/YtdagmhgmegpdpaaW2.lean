/- What the reference's functions of words come to: the same as package word's. Conditions: words are of 32 bits, numbers of 64. -/
import Derived.Test.YtdagmhgmegpdpaaW1
namespace Go.Proofs.Ytdagmhgmegpdpaa.W2
open Go.RowKit Go.Proofs.Ytdagmhgmegpdpaa.Q Go.Proofs.YtdagmhgmegpdpaaW.PrintWords Go.Proofs.YtdagmhgmegpdpaaW.PrintLast Go.Proofs.YtdagmhgmegpdpaaW.PrintMore Go.Proofs.Ytdagmhgmegpdpaa.U Go.Proofs.Ytdagmhgmegpdpaa.W1
set_option linter.unusedVariables false
set_option linter.unusedSimpArgs false

theorem wide_f (a : Int) (s : Bool) (h0 : 0 ≤ a) (h1 : a < 4294967296) : pianolaref1_wide.f a s = some (if s = true then wrap32 a else a) := by
  unfold pianolaref1_wide.f
  cases s
  · simp; unfold wrap64; omega
  · simp
    split <;> simp <;> unfold wrap64 wrap32 <;> omega

theorem less_ref (a b : Int) (s : Bool) (ha : 0 ≤ a ∧ a < 4294967296) (hb : 0 ≤ b ∧ b < 4294967296) : pianolaref1_Less.f a b s = word_Less.f a b s := by
  unfold pianolaref1_Less.f word_Less.f
  rw [wide_f a s ha.1 ha.2, wide_f b s hb.1 hb.2]
  cases s <;> simp

theorem less_some (a b : Int) (s : Bool) : ∃ r, word_Less.f a b s = some r := by
  unfold word_Less.f; cases s <;> simp

theorem over_some (a b : Int) (s : Bool) : ∃ r, word_Over.f a b s = some r := by
  unfold word_Over.f; cases s <;> simp

theorem over_ref (a b : Int) (s : Bool) (ha : 0 ≤ a ∧ a < 4294967296) (hb : 0 ≤ b ∧ b < 4294967296) : pianolaref1_Over.f a b s = word_Over.f a b s := by
  unfold pianolaref1_Over.f word_Over.f
  rw [wide_f a true ha.1 ha.2, wide_f b true hb.1 hb.2]
  have ra := wrap32_range a
  have rb := wrap32_range b
  simp only [if_true, Option.bind_some]
  generalize wrap32 a = A at *
  generalize wrap32 b = B at *
  cases s
  · simp only [Bool.false_eq_true, if_false]
    have e : wrap64 (A + B) = A + B := by unfold wrap64; omega
    have eA : wrap64 A = A := by unfold wrap64; omega
    have eB : wrap64 B = B := by unfold wrap64; omega
    rw [eA, eB, e]
    by_cases c : A + B ≥ 2147483648
    · rw [if_pos c]; congr 1; symm; rw [bne_iff_ne]; unfold wrap64 wrap32; omega
    · rw [if_neg c]; congr 1
      by_cases d : A + B < -2147483648
      · rw [decide_eq_true d]; symm; rw [bne_iff_ne]; unfold wrap64 wrap32; omega
      · rw [decide_eq_false d]; symm; rw [bne_eq_false_iff_eq]; unfold wrap64 wrap32; omega
  · simp only [if_true]
    have e : wrap64 (A - B) = A - B := by unfold wrap64; omega
    have eA : wrap64 A = A := by unfold wrap64; omega
    have eB : wrap64 B = B := by unfold wrap64; omega
    rw [eA, eB, e]
    by_cases c : A - B ≥ 2147483648
    · rw [if_pos c]; congr 1; symm; rw [bne_iff_ne]; unfold wrap64 wrap32; omega
    · rw [if_neg c]; congr 1
      by_cases d : A - B < -2147483648
      · rw [decide_eq_true d]; symm; rw [bne_iff_ne]; unfold wrap64 wrap32; omega
      · rw [decide_eq_false d]; symm; rw [bne_eq_false_iff_eq]; unfold wrap64 wrap32; omega

theorem tdiv_range (a b : Int) (ha : 0 ≤ a) (hb : 0 < b) : 0 ≤ Int.tdiv a b ∧ Int.tdiv a b ≤ a ∧ 0 ≤ Int.tmod a b ∧ Int.tmod a b < b := by
  refine ⟨Int.tdiv_nonneg ha (by omega), ?_, Int.tmod_nonneg b ha, Int.tmod_lt_of_pos a hb⟩
  rw [Int.tdiv_eq_ediv_of_nonneg ha]; exact Int.ediv_le_self b ha

theorem div_ref (a b : Int) (s : Bool) (ha : 0 ≤ a ∧ a < 4294967296) (hb : 0 ≤ b ∧ b < 4294967296) : pianolaref1_Div.f a b s = word_Div.f a b s := by
  unfold pianolaref1_Div.f word_Div.f
  by_cases z : b = 0
  · rw [if_pos z, if_pos z]
  · rw [if_neg z, if_neg z, wide_f a s ha.1 ha.2, wide_f b s hb.1 hb.2]
    simp only [Option.bind_some]
    cases s
    · simp only [Bool.false_eq_true, if_false]
      rw [if_neg z]
      have t := tdiv_range a b ha.1 (by omega)
      generalize Int.tdiv a b = q at *
      generalize Int.tmod a b = r at *
      congr 2
      · unfold wrap64; omega
      · omega
    · simp only [if_true]
      have ra := wrap32_range a
      have rb := wrap32_range b
      have eA : wrap64 (wrap32 a) = wrap32 a := by unfold wrap64; omega
      have eB : wrap64 (wrap32 b) = wrap32 b := by unfold wrap64; omega
      rw [eA, eB]

theorem div_some (a b : Int) (s : Bool) (hb : 0 ≤ b ∧ b < 4294967296) : ∃ q r, word_Div.f a b s = some (q, r) := by
  unfold word_Div.f
  by_cases z : b = 0
  · rw [if_pos z]; exact ⟨_, _, rfl⟩
  · rw [if_neg z]
    cases s
    · rw [if_neg (by decide)]; exact ⟨_, _, rfl⟩
    · rw [if_pos rfl, if_neg (by unfold wrap64 wrap32; omega)]; exact ⟨_, _, rfl⟩

theorem mul_some (a b : Int) (s : Bool) : ∃ q r, word_Mul.f a b s = some (q, r) := by
  unfold word_Mul.f; cases s <;> exact ⟨_, _, rfl⟩

theorem mul_ref (k : Nat) (a b : Int) (s : Bool) (ha : 0 ≤ a ∧ a < 4294967296) (hb : 0 ≤ b ∧ b < 4294967296) : pianolaref1_Mul.f (k + 1) a b s = word_Mul.f a b s := by
  unfold pianolaref1_Mul.f word_Mul.f
  have hp : 0 ≤ a * b := Int.mul_nonneg ha.1 hb.1
  have hp2 : a * b < 18446744073709551616 := by
    have h1 : a * b ≤ a * 4294967295 := Int.mul_le_mul_of_nonneg_left (by omega) ha.1
    omega
  have eA : IntKind.wrap .u64 a = a := by rw [wrap_u64]; omega
  have eB : IntKind.wrap .u64 b = b := by rw [wrap_u64]; omega
  have eP : IntKind.wrap .u64 (a * b) = a * b := by rw [wrap_u64]; omega
  rw [eA, eB, eP]
  cases s
  · rw [if_neg (by decide), if_neg (by decide)]
    simp only [pianolaref1_Mul.j0]
    simp only [Bool.false_eq_true, if_false]
  · rw [if_pos rfl, if_pos rfl]
    simp only [pianolaref1_Mul.j0]
    have xA : wrap64 (wrap32 a) = if a ≥ 2147483648 then a - 4294967296 else a := by unfold wrap64 wrap32; split <;> omega
    have xB : wrap64 (wrap32 b) = if b ≥ 2147483648 then b - 4294967296 else b := by unfold wrap64 wrap32; split <;> omega
    rw [xA, xB]
    by_cases ca : a ≥ 2147483648 <;> by_cases cb : b ≥ 2147483648
    · simp only [ca, cb, decide_true, if_true]
      rw [show (a - 4294967296) * (b - 4294967296) = a * b - 4294967296 * a - 4294967296 * b + 18446744073709551616 by rw [Int.sub_mul, Int.mul_sub, Int.mul_sub, Int.mul_comm a 4294967296]; omega]
      generalize a * b = p at *
      rw [wrap_u64]; unfold wrap64
      congr 2 <;> omega
    · simp only [ca, cb, decide_true, if_true, if_false]
      rw [show (a - 4294967296) * b = a * b - 4294967296 * b by rw [Int.sub_mul]]
      generalize a * b = p at *
      rw [wrap_u64]; unfold wrap64
      congr 2 <;> omega
    · simp only [ca, cb, decide_false, if_true, if_false, Bool.false_eq_true]
      rw [show a * (b - 4294967296) = a * b - 4294967296 * a by rw [Int.mul_sub, Int.mul_comm a 4294967296]]
      generalize a * b = p at *
      rw [wrap_u64]; unfold wrap64
      congr 2 <;> omega
    · simp only [ca, cb, decide_false, if_true, if_false, Bool.false_eq_true]
      generalize a * b = p at *
      rw [wrap_u64]; unfold wrap64
      congr 2 <;> omega

theorem sign_ref (a n : Int) (h0 : 0 ≤ a) (h1 : a < 4294967296) : pianolaref1_Sign.f a n = some (sgn a n) := by
  unfold pianolaref1_Sign.f sgn
  by_cases c : n < 1
  · rw [if_pos c, if_pos c]
  by_cases c2 : n > 31
  · rw [if_neg c, if_neg c, if_pos c2, if_pos c2]
  rw [if_neg c, if_neg c2, if_neg c, if_neg c2]
  obtain ⟨x, rfl⟩ := Int.eq_ofNat_of_zero_le h0
  have hn : n = 1 ∨ n = 2 ∨ n = 3 ∨ n = 4 ∨ n = 5 ∨ n = 6 ∨ n = 7 ∨ n = 8 ∨ n = 9 ∨ n = 10 ∨ n = 11 ∨ n = 12 ∨ n = 13 ∨ n = 14 ∨ n = 15 ∨ n = 16 ∨ n = 17 ∨ n = 18 ∨ n = 19 ∨ n = 20 ∨ n = 21 ∨ n = 22 ∨ n = 23 ∨ n = 24 ∨ n = 25 ∨ n = 26 ∨ n = 27 ∨ n = 28 ∨ n = 29 ∨ n = 30 ∨ n = 31 := by omega
  rcases hn with rfl | rfl | rfl | rfl | rfl | rfl | rfl | rfl | rfl | rfl | rfl | rfl | rfl | rfl | rfl | rfl | rfl | rfl | rfl | rfl | rfl | rfl | rfl | rfl | rfl | rfl | rfl | rfl | rfl | rfl | rfl
  · have e1 : IntKind.wrap .u64 1 = 1 := by rw [wrap_u64]; rfl
    have e2 : IntKind.wrap .u64 (wrap64 (1 - 1)) = 0 := by rw [wrap_u64]; unfold wrap64; rfl
    have e3 : shl .u32 1 1 = 2 := by unfold shl; rw [wrap_u32]; rfl
    have e4 : (((2 : Int) - 1) % 4294967296) = ((2 ^ 1 - 1 : Nat) : Int) := by decide
    rw [e1, e2, if_pos (by decide), if_pos (by decide), e3, e4, and_u32 x _ (by omega) (by decide), and_ones]
    have e5 : shr .u32 ((x % 2 ^ 1 : Nat) : Int) 0 = ((x % 2 ^ 1 : Nat) : Int) / 1 := rfl
    rw [e5]
    have e6 : (2 : Int) ^ ((1 : Int) - 1).toNat = 1 := by decide
    have e7 : (2 : Int) ^ (1 : Int).toNat = 2 := by decide
    rw [e6, e7]
    by_cases d : ((x % 2 ^ 1 : Nat) : Int) / 1 = 1
    · rw [if_pos d, if_pos (by omega)]; congr 1; omega
    · rw [if_neg d, if_neg (by omega)]; congr 1
  · have e1 : IntKind.wrap .u64 2 = 2 := by rw [wrap_u64]; rfl
    have e2 : IntKind.wrap .u64 (wrap64 (2 - 1)) = 1 := by rw [wrap_u64]; unfold wrap64; rfl
    have e3 : shl .u32 1 2 = 4 := by unfold shl; rw [wrap_u32]; rfl
    have e4 : (((4 : Int) - 1) % 4294967296) = ((2 ^ 2 - 1 : Nat) : Int) := by decide
    rw [e1, e2, if_pos (by decide), if_pos (by decide), e3, e4, and_u32 x _ (by omega) (by decide), and_ones]
    have e5 : shr .u32 ((x % 2 ^ 2 : Nat) : Int) 1 = ((x % 2 ^ 2 : Nat) : Int) / 2 := rfl
    rw [e5]
    have e6 : (2 : Int) ^ ((2 : Int) - 1).toNat = 2 := by decide
    have e7 : (2 : Int) ^ (2 : Int).toNat = 4 := by decide
    rw [e6, e7]
    by_cases d : ((x % 2 ^ 2 : Nat) : Int) / 2 = 1
    · rw [if_pos d, if_pos (by omega)]; congr 1; omega
    · rw [if_neg d, if_neg (by omega)]; congr 1
  · have e1 : IntKind.wrap .u64 3 = 3 := by rw [wrap_u64]; rfl
    have e2 : IntKind.wrap .u64 (wrap64 (3 - 1)) = 2 := by rw [wrap_u64]; unfold wrap64; rfl
    have e3 : shl .u32 1 3 = 8 := by unfold shl; rw [wrap_u32]; rfl
    have e4 : (((8 : Int) - 1) % 4294967296) = ((2 ^ 3 - 1 : Nat) : Int) := by decide
    rw [e1, e2, if_pos (by decide), if_pos (by decide), e3, e4, and_u32 x _ (by omega) (by decide), and_ones]
    have e5 : shr .u32 ((x % 2 ^ 3 : Nat) : Int) 2 = ((x % 2 ^ 3 : Nat) : Int) / 4 := rfl
    rw [e5]
    have e6 : (2 : Int) ^ ((3 : Int) - 1).toNat = 4 := by decide
    have e7 : (2 : Int) ^ (3 : Int).toNat = 8 := by decide
    rw [e6, e7]
    by_cases d : ((x % 2 ^ 3 : Nat) : Int) / 4 = 1
    · rw [if_pos d, if_pos (by omega)]; congr 1; omega
    · rw [if_neg d, if_neg (by omega)]; congr 1
  · have e1 : IntKind.wrap .u64 4 = 4 := by rw [wrap_u64]; rfl
    have e2 : IntKind.wrap .u64 (wrap64 (4 - 1)) = 3 := by rw [wrap_u64]; unfold wrap64; rfl
    have e3 : shl .u32 1 4 = 16 := by unfold shl; rw [wrap_u32]; rfl
    have e4 : (((16 : Int) - 1) % 4294967296) = ((2 ^ 4 - 1 : Nat) : Int) := by decide
    rw [e1, e2, if_pos (by decide), if_pos (by decide), e3, e4, and_u32 x _ (by omega) (by decide), and_ones]
    have e5 : shr .u32 ((x % 2 ^ 4 : Nat) : Int) 3 = ((x % 2 ^ 4 : Nat) : Int) / 8 := rfl
    rw [e5]
    have e6 : (2 : Int) ^ ((4 : Int) - 1).toNat = 8 := by decide
    have e7 : (2 : Int) ^ (4 : Int).toNat = 16 := by decide
    rw [e6, e7]
    by_cases d : ((x % 2 ^ 4 : Nat) : Int) / 8 = 1
    · rw [if_pos d, if_pos (by omega)]; congr 1; omega
    · rw [if_neg d, if_neg (by omega)]; congr 1
  · have e1 : IntKind.wrap .u64 5 = 5 := by rw [wrap_u64]; rfl
    have e2 : IntKind.wrap .u64 (wrap64 (5 - 1)) = 4 := by rw [wrap_u64]; unfold wrap64; rfl
    have e3 : shl .u32 1 5 = 32 := by unfold shl; rw [wrap_u32]; rfl
    have e4 : (((32 : Int) - 1) % 4294967296) = ((2 ^ 5 - 1 : Nat) : Int) := by decide
    rw [e1, e2, if_pos (by decide), if_pos (by decide), e3, e4, and_u32 x _ (by omega) (by decide), and_ones]
    have e5 : shr .u32 ((x % 2 ^ 5 : Nat) : Int) 4 = ((x % 2 ^ 5 : Nat) : Int) / 16 := rfl
    rw [e5]
    have e6 : (2 : Int) ^ ((5 : Int) - 1).toNat = 16 := by decide
    have e7 : (2 : Int) ^ (5 : Int).toNat = 32 := by decide
    rw [e6, e7]
    by_cases d : ((x % 2 ^ 5 : Nat) : Int) / 16 = 1
    · rw [if_pos d, if_pos (by omega)]; congr 1; omega
    · rw [if_neg d, if_neg (by omega)]; congr 1
  · have e1 : IntKind.wrap .u64 6 = 6 := by rw [wrap_u64]; rfl
    have e2 : IntKind.wrap .u64 (wrap64 (6 - 1)) = 5 := by rw [wrap_u64]; unfold wrap64; rfl
    have e3 : shl .u32 1 6 = 64 := by unfold shl; rw [wrap_u32]; rfl
    have e4 : (((64 : Int) - 1) % 4294967296) = ((2 ^ 6 - 1 : Nat) : Int) := by decide
    rw [e1, e2, if_pos (by decide), if_pos (by decide), e3, e4, and_u32 x _ (by omega) (by decide), and_ones]
    have e5 : shr .u32 ((x % 2 ^ 6 : Nat) : Int) 5 = ((x % 2 ^ 6 : Nat) : Int) / 32 := rfl
    rw [e5]
    have e6 : (2 : Int) ^ ((6 : Int) - 1).toNat = 32 := by decide
    have e7 : (2 : Int) ^ (6 : Int).toNat = 64 := by decide
    rw [e6, e7]
    by_cases d : ((x % 2 ^ 6 : Nat) : Int) / 32 = 1
    · rw [if_pos d, if_pos (by omega)]; congr 1; omega
    · rw [if_neg d, if_neg (by omega)]; congr 1
  · have e1 : IntKind.wrap .u64 7 = 7 := by rw [wrap_u64]; rfl
    have e2 : IntKind.wrap .u64 (wrap64 (7 - 1)) = 6 := by rw [wrap_u64]; unfold wrap64; rfl
    have e3 : shl .u32 1 7 = 128 := by unfold shl; rw [wrap_u32]; rfl
    have e4 : (((128 : Int) - 1) % 4294967296) = ((2 ^ 7 - 1 : Nat) : Int) := by decide
    rw [e1, e2, if_pos (by decide), if_pos (by decide), e3, e4, and_u32 x _ (by omega) (by decide), and_ones]
    have e5 : shr .u32 ((x % 2 ^ 7 : Nat) : Int) 6 = ((x % 2 ^ 7 : Nat) : Int) / 64 := rfl
    rw [e5]
    have e6 : (2 : Int) ^ ((7 : Int) - 1).toNat = 64 := by decide
    have e7 : (2 : Int) ^ (7 : Int).toNat = 128 := by decide
    rw [e6, e7]
    by_cases d : ((x % 2 ^ 7 : Nat) : Int) / 64 = 1
    · rw [if_pos d, if_pos (by omega)]; congr 1; omega
    · rw [if_neg d, if_neg (by omega)]; congr 1
  · have e1 : IntKind.wrap .u64 8 = 8 := by rw [wrap_u64]; rfl
    have e2 : IntKind.wrap .u64 (wrap64 (8 - 1)) = 7 := by rw [wrap_u64]; unfold wrap64; rfl
    have e3 : shl .u32 1 8 = 256 := by unfold shl; rw [wrap_u32]; rfl
    have e4 : (((256 : Int) - 1) % 4294967296) = ((2 ^ 8 - 1 : Nat) : Int) := by decide
    rw [e1, e2, if_pos (by decide), if_pos (by decide), e3, e4, and_u32 x _ (by omega) (by decide), and_ones]
    have e5 : shr .u32 ((x % 2 ^ 8 : Nat) : Int) 7 = ((x % 2 ^ 8 : Nat) : Int) / 128 := rfl
    rw [e5]
    have e6 : (2 : Int) ^ ((8 : Int) - 1).toNat = 128 := by decide
    have e7 : (2 : Int) ^ (8 : Int).toNat = 256 := by decide
    rw [e6, e7]
    by_cases d : ((x % 2 ^ 8 : Nat) : Int) / 128 = 1
    · rw [if_pos d, if_pos (by omega)]; congr 1; omega
    · rw [if_neg d, if_neg (by omega)]; congr 1
  · have e1 : IntKind.wrap .u64 9 = 9 := by rw [wrap_u64]; rfl
    have e2 : IntKind.wrap .u64 (wrap64 (9 - 1)) = 8 := by rw [wrap_u64]; unfold wrap64; rfl
    have e3 : shl .u32 1 9 = 512 := by unfold shl; rw [wrap_u32]; rfl
    have e4 : (((512 : Int) - 1) % 4294967296) = ((2 ^ 9 - 1 : Nat) : Int) := by decide
    rw [e1, e2, if_pos (by decide), if_pos (by decide), e3, e4, and_u32 x _ (by omega) (by decide), and_ones]
    have e5 : shr .u32 ((x % 2 ^ 9 : Nat) : Int) 8 = ((x % 2 ^ 9 : Nat) : Int) / 256 := rfl
    rw [e5]
    have e6 : (2 : Int) ^ ((9 : Int) - 1).toNat = 256 := by decide
    have e7 : (2 : Int) ^ (9 : Int).toNat = 512 := by decide
    rw [e6, e7]
    by_cases d : ((x % 2 ^ 9 : Nat) : Int) / 256 = 1
    · rw [if_pos d, if_pos (by omega)]; congr 1; omega
    · rw [if_neg d, if_neg (by omega)]; congr 1
  · have e1 : IntKind.wrap .u64 10 = 10 := by rw [wrap_u64]; rfl
    have e2 : IntKind.wrap .u64 (wrap64 (10 - 1)) = 9 := by rw [wrap_u64]; unfold wrap64; rfl
    have e3 : shl .u32 1 10 = 1024 := by unfold shl; rw [wrap_u32]; rfl
    have e4 : (((1024 : Int) - 1) % 4294967296) = ((2 ^ 10 - 1 : Nat) : Int) := by decide
    rw [e1, e2, if_pos (by decide), if_pos (by decide), e3, e4, and_u32 x _ (by omega) (by decide), and_ones]
    have e5 : shr .u32 ((x % 2 ^ 10 : Nat) : Int) 9 = ((x % 2 ^ 10 : Nat) : Int) / 512 := rfl
    rw [e5]
    have e6 : (2 : Int) ^ ((10 : Int) - 1).toNat = 512 := by decide
    have e7 : (2 : Int) ^ (10 : Int).toNat = 1024 := by decide
    rw [e6, e7]
    by_cases d : ((x % 2 ^ 10 : Nat) : Int) / 512 = 1
    · rw [if_pos d, if_pos (by omega)]; congr 1; omega
    · rw [if_neg d, if_neg (by omega)]; congr 1
  · have e1 : IntKind.wrap .u64 11 = 11 := by rw [wrap_u64]; rfl
    have e2 : IntKind.wrap .u64 (wrap64 (11 - 1)) = 10 := by rw [wrap_u64]; unfold wrap64; rfl
    have e3 : shl .u32 1 11 = 2048 := by unfold shl; rw [wrap_u32]; rfl
    have e4 : (((2048 : Int) - 1) % 4294967296) = ((2 ^ 11 - 1 : Nat) : Int) := by decide
    rw [e1, e2, if_pos (by decide), if_pos (by decide), e3, e4, and_u32 x _ (by omega) (by decide), and_ones]
    have e5 : shr .u32 ((x % 2 ^ 11 : Nat) : Int) 10 = ((x % 2 ^ 11 : Nat) : Int) / 1024 := rfl
    rw [e5]
    have e6 : (2 : Int) ^ ((11 : Int) - 1).toNat = 1024 := by decide
    have e7 : (2 : Int) ^ (11 : Int).toNat = 2048 := by decide
    rw [e6, e7]
    by_cases d : ((x % 2 ^ 11 : Nat) : Int) / 1024 = 1
    · rw [if_pos d, if_pos (by omega)]; congr 1; omega
    · rw [if_neg d, if_neg (by omega)]; congr 1
  · have e1 : IntKind.wrap .u64 12 = 12 := by rw [wrap_u64]; rfl
    have e2 : IntKind.wrap .u64 (wrap64 (12 - 1)) = 11 := by rw [wrap_u64]; unfold wrap64; rfl
    have e3 : shl .u32 1 12 = 4096 := by unfold shl; rw [wrap_u32]; rfl
    have e4 : (((4096 : Int) - 1) % 4294967296) = ((2 ^ 12 - 1 : Nat) : Int) := by decide
    rw [e1, e2, if_pos (by decide), if_pos (by decide), e3, e4, and_u32 x _ (by omega) (by decide), and_ones]
    have e5 : shr .u32 ((x % 2 ^ 12 : Nat) : Int) 11 = ((x % 2 ^ 12 : Nat) : Int) / 2048 := rfl
    rw [e5]
    have e6 : (2 : Int) ^ ((12 : Int) - 1).toNat = 2048 := by decide
    have e7 : (2 : Int) ^ (12 : Int).toNat = 4096 := by decide
    rw [e6, e7]
    by_cases d : ((x % 2 ^ 12 : Nat) : Int) / 2048 = 1
    · rw [if_pos d, if_pos (by omega)]; congr 1; omega
    · rw [if_neg d, if_neg (by omega)]; congr 1
  · have e1 : IntKind.wrap .u64 13 = 13 := by rw [wrap_u64]; rfl
    have e2 : IntKind.wrap .u64 (wrap64 (13 - 1)) = 12 := by rw [wrap_u64]; unfold wrap64; rfl
    have e3 : shl .u32 1 13 = 8192 := by unfold shl; rw [wrap_u32]; rfl
    have e4 : (((8192 : Int) - 1) % 4294967296) = ((2 ^ 13 - 1 : Nat) : Int) := by decide
    rw [e1, e2, if_pos (by decide), if_pos (by decide), e3, e4, and_u32 x _ (by omega) (by decide), and_ones]
    have e5 : shr .u32 ((x % 2 ^ 13 : Nat) : Int) 12 = ((x % 2 ^ 13 : Nat) : Int) / 4096 := rfl
    rw [e5]
    have e6 : (2 : Int) ^ ((13 : Int) - 1).toNat = 4096 := by decide
    have e7 : (2 : Int) ^ (13 : Int).toNat = 8192 := by decide
    rw [e6, e7]
    by_cases d : ((x % 2 ^ 13 : Nat) : Int) / 4096 = 1
    · rw [if_pos d, if_pos (by omega)]; congr 1; omega
    · rw [if_neg d, if_neg (by omega)]; congr 1
  · have e1 : IntKind.wrap .u64 14 = 14 := by rw [wrap_u64]; rfl
    have e2 : IntKind.wrap .u64 (wrap64 (14 - 1)) = 13 := by rw [wrap_u64]; unfold wrap64; rfl
    have e3 : shl .u32 1 14 = 16384 := by unfold shl; rw [wrap_u32]; rfl
    have e4 : (((16384 : Int) - 1) % 4294967296) = ((2 ^ 14 - 1 : Nat) : Int) := by decide
    rw [e1, e2, if_pos (by decide), if_pos (by decide), e3, e4, and_u32 x _ (by omega) (by decide), and_ones]
    have e5 : shr .u32 ((x % 2 ^ 14 : Nat) : Int) 13 = ((x % 2 ^ 14 : Nat) : Int) / 8192 := rfl
    rw [e5]
    have e6 : (2 : Int) ^ ((14 : Int) - 1).toNat = 8192 := by decide
    have e7 : (2 : Int) ^ (14 : Int).toNat = 16384 := by decide
    rw [e6, e7]
    by_cases d : ((x % 2 ^ 14 : Nat) : Int) / 8192 = 1
    · rw [if_pos d, if_pos (by omega)]; congr 1; omega
    · rw [if_neg d, if_neg (by omega)]; congr 1
  · have e1 : IntKind.wrap .u64 15 = 15 := by rw [wrap_u64]; rfl
    have e2 : IntKind.wrap .u64 (wrap64 (15 - 1)) = 14 := by rw [wrap_u64]; unfold wrap64; rfl
    have e3 : shl .u32 1 15 = 32768 := by unfold shl; rw [wrap_u32]; rfl
    have e4 : (((32768 : Int) - 1) % 4294967296) = ((2 ^ 15 - 1 : Nat) : Int) := by decide
    rw [e1, e2, if_pos (by decide), if_pos (by decide), e3, e4, and_u32 x _ (by omega) (by decide), and_ones]
    have e5 : shr .u32 ((x % 2 ^ 15 : Nat) : Int) 14 = ((x % 2 ^ 15 : Nat) : Int) / 16384 := rfl
    rw [e5]
    have e6 : (2 : Int) ^ ((15 : Int) - 1).toNat = 16384 := by decide
    have e7 : (2 : Int) ^ (15 : Int).toNat = 32768 := by decide
    rw [e6, e7]
    by_cases d : ((x % 2 ^ 15 : Nat) : Int) / 16384 = 1
    · rw [if_pos d, if_pos (by omega)]; congr 1; omega
    · rw [if_neg d, if_neg (by omega)]; congr 1
  · have e1 : IntKind.wrap .u64 16 = 16 := by rw [wrap_u64]; rfl
    have e2 : IntKind.wrap .u64 (wrap64 (16 - 1)) = 15 := by rw [wrap_u64]; unfold wrap64; rfl
    have e3 : shl .u32 1 16 = 65536 := by unfold shl; rw [wrap_u32]; rfl
    have e4 : (((65536 : Int) - 1) % 4294967296) = ((2 ^ 16 - 1 : Nat) : Int) := by decide
    rw [e1, e2, if_pos (by decide), if_pos (by decide), e3, e4, and_u32 x _ (by omega) (by decide), and_ones]
    have e5 : shr .u32 ((x % 2 ^ 16 : Nat) : Int) 15 = ((x % 2 ^ 16 : Nat) : Int) / 32768 := rfl
    rw [e5]
    have e6 : (2 : Int) ^ ((16 : Int) - 1).toNat = 32768 := by decide
    have e7 : (2 : Int) ^ (16 : Int).toNat = 65536 := by decide
    rw [e6, e7]
    by_cases d : ((x % 2 ^ 16 : Nat) : Int) / 32768 = 1
    · rw [if_pos d, if_pos (by omega)]; congr 1; omega
    · rw [if_neg d, if_neg (by omega)]; congr 1
  · have e1 : IntKind.wrap .u64 17 = 17 := by rw [wrap_u64]; rfl
    have e2 : IntKind.wrap .u64 (wrap64 (17 - 1)) = 16 := by rw [wrap_u64]; unfold wrap64; rfl
    have e3 : shl .u32 1 17 = 131072 := by unfold shl; rw [wrap_u32]; rfl
    have e4 : (((131072 : Int) - 1) % 4294967296) = ((2 ^ 17 - 1 : Nat) : Int) := by decide
    rw [e1, e2, if_pos (by decide), if_pos (by decide), e3, e4, and_u32 x _ (by omega) (by decide), and_ones]
    have e5 : shr .u32 ((x % 2 ^ 17 : Nat) : Int) 16 = ((x % 2 ^ 17 : Nat) : Int) / 65536 := rfl
    rw [e5]
    have e6 : (2 : Int) ^ ((17 : Int) - 1).toNat = 65536 := by decide
    have e7 : (2 : Int) ^ (17 : Int).toNat = 131072 := by decide
    rw [e6, e7]
    by_cases d : ((x % 2 ^ 17 : Nat) : Int) / 65536 = 1
    · rw [if_pos d, if_pos (by omega)]; congr 1; omega
    · rw [if_neg d, if_neg (by omega)]; congr 1
  · have e1 : IntKind.wrap .u64 18 = 18 := by rw [wrap_u64]; rfl
    have e2 : IntKind.wrap .u64 (wrap64 (18 - 1)) = 17 := by rw [wrap_u64]; unfold wrap64; rfl
    have e3 : shl .u32 1 18 = 262144 := by unfold shl; rw [wrap_u32]; rfl
    have e4 : (((262144 : Int) - 1) % 4294967296) = ((2 ^ 18 - 1 : Nat) : Int) := by decide
    rw [e1, e2, if_pos (by decide), if_pos (by decide), e3, e4, and_u32 x _ (by omega) (by decide), and_ones]
    have e5 : shr .u32 ((x % 2 ^ 18 : Nat) : Int) 17 = ((x % 2 ^ 18 : Nat) : Int) / 131072 := rfl
    rw [e5]
    have e6 : (2 : Int) ^ ((18 : Int) - 1).toNat = 131072 := by decide
    have e7 : (2 : Int) ^ (18 : Int).toNat = 262144 := by decide
    rw [e6, e7]
    by_cases d : ((x % 2 ^ 18 : Nat) : Int) / 131072 = 1
    · rw [if_pos d, if_pos (by omega)]; congr 1; omega
    · rw [if_neg d, if_neg (by omega)]; congr 1
  · have e1 : IntKind.wrap .u64 19 = 19 := by rw [wrap_u64]; rfl
    have e2 : IntKind.wrap .u64 (wrap64 (19 - 1)) = 18 := by rw [wrap_u64]; unfold wrap64; rfl
    have e3 : shl .u32 1 19 = 524288 := by unfold shl; rw [wrap_u32]; rfl
    have e4 : (((524288 : Int) - 1) % 4294967296) = ((2 ^ 19 - 1 : Nat) : Int) := by decide
    rw [e1, e2, if_pos (by decide), if_pos (by decide), e3, e4, and_u32 x _ (by omega) (by decide), and_ones]
    have e5 : shr .u32 ((x % 2 ^ 19 : Nat) : Int) 18 = ((x % 2 ^ 19 : Nat) : Int) / 262144 := rfl
    rw [e5]
    have e6 : (2 : Int) ^ ((19 : Int) - 1).toNat = 262144 := by decide
    have e7 : (2 : Int) ^ (19 : Int).toNat = 524288 := by decide
    rw [e6, e7]
    by_cases d : ((x % 2 ^ 19 : Nat) : Int) / 262144 = 1
    · rw [if_pos d, if_pos (by omega)]; congr 1; omega
    · rw [if_neg d, if_neg (by omega)]; congr 1
  · have e1 : IntKind.wrap .u64 20 = 20 := by rw [wrap_u64]; rfl
    have e2 : IntKind.wrap .u64 (wrap64 (20 - 1)) = 19 := by rw [wrap_u64]; unfold wrap64; rfl
    have e3 : shl .u32 1 20 = 1048576 := by unfold shl; rw [wrap_u32]; rfl
    have e4 : (((1048576 : Int) - 1) % 4294967296) = ((2 ^ 20 - 1 : Nat) : Int) := by decide
    rw [e1, e2, if_pos (by decide), if_pos (by decide), e3, e4, and_u32 x _ (by omega) (by decide), and_ones]
    have e5 : shr .u32 ((x % 2 ^ 20 : Nat) : Int) 19 = ((x % 2 ^ 20 : Nat) : Int) / 524288 := rfl
    rw [e5]
    have e6 : (2 : Int) ^ ((20 : Int) - 1).toNat = 524288 := by decide
    have e7 : (2 : Int) ^ (20 : Int).toNat = 1048576 := by decide
    rw [e6, e7]
    by_cases d : ((x % 2 ^ 20 : Nat) : Int) / 524288 = 1
    · rw [if_pos d, if_pos (by omega)]; congr 1; omega
    · rw [if_neg d, if_neg (by omega)]; congr 1
  · have e1 : IntKind.wrap .u64 21 = 21 := by rw [wrap_u64]; rfl
    have e2 : IntKind.wrap .u64 (wrap64 (21 - 1)) = 20 := by rw [wrap_u64]; unfold wrap64; rfl
    have e3 : shl .u32 1 21 = 2097152 := by unfold shl; rw [wrap_u32]; rfl
    have e4 : (((2097152 : Int) - 1) % 4294967296) = ((2 ^ 21 - 1 : Nat) : Int) := by decide
    rw [e1, e2, if_pos (by decide), if_pos (by decide), e3, e4, and_u32 x _ (by omega) (by decide), and_ones]
    have e5 : shr .u32 ((x % 2 ^ 21 : Nat) : Int) 20 = ((x % 2 ^ 21 : Nat) : Int) / 1048576 := rfl
    rw [e5]
    have e6 : (2 : Int) ^ ((21 : Int) - 1).toNat = 1048576 := by decide
    have e7 : (2 : Int) ^ (21 : Int).toNat = 2097152 := by decide
    rw [e6, e7]
    by_cases d : ((x % 2 ^ 21 : Nat) : Int) / 1048576 = 1
    · rw [if_pos d, if_pos (by omega)]; congr 1; omega
    · rw [if_neg d, if_neg (by omega)]; congr 1
  · have e1 : IntKind.wrap .u64 22 = 22 := by rw [wrap_u64]; rfl
    have e2 : IntKind.wrap .u64 (wrap64 (22 - 1)) = 21 := by rw [wrap_u64]; unfold wrap64; rfl
    have e3 : shl .u32 1 22 = 4194304 := by unfold shl; rw [wrap_u32]; rfl
    have e4 : (((4194304 : Int) - 1) % 4294967296) = ((2 ^ 22 - 1 : Nat) : Int) := by decide
    rw [e1, e2, if_pos (by decide), if_pos (by decide), e3, e4, and_u32 x _ (by omega) (by decide), and_ones]
    have e5 : shr .u32 ((x % 2 ^ 22 : Nat) : Int) 21 = ((x % 2 ^ 22 : Nat) : Int) / 2097152 := rfl
    rw [e5]
    have e6 : (2 : Int) ^ ((22 : Int) - 1).toNat = 2097152 := by decide
    have e7 : (2 : Int) ^ (22 : Int).toNat = 4194304 := by decide
    rw [e6, e7]
    by_cases d : ((x % 2 ^ 22 : Nat) : Int) / 2097152 = 1
    · rw [if_pos d, if_pos (by omega)]; congr 1; omega
    · rw [if_neg d, if_neg (by omega)]; congr 1
  · have e1 : IntKind.wrap .u64 23 = 23 := by rw [wrap_u64]; rfl
    have e2 : IntKind.wrap .u64 (wrap64 (23 - 1)) = 22 := by rw [wrap_u64]; unfold wrap64; rfl
    have e3 : shl .u32 1 23 = 8388608 := by unfold shl; rw [wrap_u32]; rfl
    have e4 : (((8388608 : Int) - 1) % 4294967296) = ((2 ^ 23 - 1 : Nat) : Int) := by decide
    rw [e1, e2, if_pos (by decide), if_pos (by decide), e3, e4, and_u32 x _ (by omega) (by decide), and_ones]
    have e5 : shr .u32 ((x % 2 ^ 23 : Nat) : Int) 22 = ((x % 2 ^ 23 : Nat) : Int) / 4194304 := rfl
    rw [e5]
    have e6 : (2 : Int) ^ ((23 : Int) - 1).toNat = 4194304 := by decide
    have e7 : (2 : Int) ^ (23 : Int).toNat = 8388608 := by decide
    rw [e6, e7]
    by_cases d : ((x % 2 ^ 23 : Nat) : Int) / 4194304 = 1
    · rw [if_pos d, if_pos (by omega)]; congr 1; omega
    · rw [if_neg d, if_neg (by omega)]; congr 1
  · have e1 : IntKind.wrap .u64 24 = 24 := by rw [wrap_u64]; rfl
    have e2 : IntKind.wrap .u64 (wrap64 (24 - 1)) = 23 := by rw [wrap_u64]; unfold wrap64; rfl
    have e3 : shl .u32 1 24 = 16777216 := by unfold shl; rw [wrap_u32]; rfl
    have e4 : (((16777216 : Int) - 1) % 4294967296) = ((2 ^ 24 - 1 : Nat) : Int) := by decide
    rw [e1, e2, if_pos (by decide), if_pos (by decide), e3, e4, and_u32 x _ (by omega) (by decide), and_ones]
    have e5 : shr .u32 ((x % 2 ^ 24 : Nat) : Int) 23 = ((x % 2 ^ 24 : Nat) : Int) / 8388608 := rfl
    rw [e5]
    have e6 : (2 : Int) ^ ((24 : Int) - 1).toNat = 8388608 := by decide
    have e7 : (2 : Int) ^ (24 : Int).toNat = 16777216 := by decide
    rw [e6, e7]
    by_cases d : ((x % 2 ^ 24 : Nat) : Int) / 8388608 = 1
    · rw [if_pos d, if_pos (by omega)]; congr 1; omega
    · rw [if_neg d, if_neg (by omega)]; congr 1
  · have e1 : IntKind.wrap .u64 25 = 25 := by rw [wrap_u64]; rfl
    have e2 : IntKind.wrap .u64 (wrap64 (25 - 1)) = 24 := by rw [wrap_u64]; unfold wrap64; rfl
    have e3 : shl .u32 1 25 = 33554432 := by unfold shl; rw [wrap_u32]; rfl
    have e4 : (((33554432 : Int) - 1) % 4294967296) = ((2 ^ 25 - 1 : Nat) : Int) := by decide
    rw [e1, e2, if_pos (by decide), if_pos (by decide), e3, e4, and_u32 x _ (by omega) (by decide), and_ones]
    have e5 : shr .u32 ((x % 2 ^ 25 : Nat) : Int) 24 = ((x % 2 ^ 25 : Nat) : Int) / 16777216 := rfl
    rw [e5]
    have e6 : (2 : Int) ^ ((25 : Int) - 1).toNat = 16777216 := by decide
    have e7 : (2 : Int) ^ (25 : Int).toNat = 33554432 := by decide
    rw [e6, e7]
    by_cases d : ((x % 2 ^ 25 : Nat) : Int) / 16777216 = 1
    · rw [if_pos d, if_pos (by omega)]; congr 1; omega
    · rw [if_neg d, if_neg (by omega)]; congr 1
  · have e1 : IntKind.wrap .u64 26 = 26 := by rw [wrap_u64]; rfl
    have e2 : IntKind.wrap .u64 (wrap64 (26 - 1)) = 25 := by rw [wrap_u64]; unfold wrap64; rfl
    have e3 : shl .u32 1 26 = 67108864 := by unfold shl; rw [wrap_u32]; rfl
    have e4 : (((67108864 : Int) - 1) % 4294967296) = ((2 ^ 26 - 1 : Nat) : Int) := by decide
    rw [e1, e2, if_pos (by decide), if_pos (by decide), e3, e4, and_u32 x _ (by omega) (by decide), and_ones]
    have e5 : shr .u32 ((x % 2 ^ 26 : Nat) : Int) 25 = ((x % 2 ^ 26 : Nat) : Int) / 33554432 := rfl
    rw [e5]
    have e6 : (2 : Int) ^ ((26 : Int) - 1).toNat = 33554432 := by decide
    have e7 : (2 : Int) ^ (26 : Int).toNat = 67108864 := by decide
    rw [e6, e7]
    by_cases d : ((x % 2 ^ 26 : Nat) : Int) / 33554432 = 1
    · rw [if_pos d, if_pos (by omega)]; congr 1; omega
    · rw [if_neg d, if_neg (by omega)]; congr 1
  · have e1 : IntKind.wrap .u64 27 = 27 := by rw [wrap_u64]; rfl
    have e2 : IntKind.wrap .u64 (wrap64 (27 - 1)) = 26 := by rw [wrap_u64]; unfold wrap64; rfl
    have e3 : shl .u32 1 27 = 134217728 := by unfold shl; rw [wrap_u32]; rfl
    have e4 : (((134217728 : Int) - 1) % 4294967296) = ((2 ^ 27 - 1 : Nat) : Int) := by decide
    rw [e1, e2, if_pos (by decide), if_pos (by decide), e3, e4, and_u32 x _ (by omega) (by decide), and_ones]
    have e5 : shr .u32 ((x % 2 ^ 27 : Nat) : Int) 26 = ((x % 2 ^ 27 : Nat) : Int) / 67108864 := rfl
    rw [e5]
    have e6 : (2 : Int) ^ ((27 : Int) - 1).toNat = 67108864 := by decide
    have e7 : (2 : Int) ^ (27 : Int).toNat = 134217728 := by decide
    rw [e6, e7]
    by_cases d : ((x % 2 ^ 27 : Nat) : Int) / 67108864 = 1
    · rw [if_pos d, if_pos (by omega)]; congr 1; omega
    · rw [if_neg d, if_neg (by omega)]; congr 1
  · have e1 : IntKind.wrap .u64 28 = 28 := by rw [wrap_u64]; rfl
    have e2 : IntKind.wrap .u64 (wrap64 (28 - 1)) = 27 := by rw [wrap_u64]; unfold wrap64; rfl
    have e3 : shl .u32 1 28 = 268435456 := by unfold shl; rw [wrap_u32]; rfl
    have e4 : (((268435456 : Int) - 1) % 4294967296) = ((2 ^ 28 - 1 : Nat) : Int) := by decide
    rw [e1, e2, if_pos (by decide), if_pos (by decide), e3, e4, and_u32 x _ (by omega) (by decide), and_ones]
    have e5 : shr .u32 ((x % 2 ^ 28 : Nat) : Int) 27 = ((x % 2 ^ 28 : Nat) : Int) / 134217728 := rfl
    rw [e5]
    have e6 : (2 : Int) ^ ((28 : Int) - 1).toNat = 134217728 := by decide
    have e7 : (2 : Int) ^ (28 : Int).toNat = 268435456 := by decide
    rw [e6, e7]
    by_cases d : ((x % 2 ^ 28 : Nat) : Int) / 134217728 = 1
    · rw [if_pos d, if_pos (by omega)]; congr 1; omega
    · rw [if_neg d, if_neg (by omega)]; congr 1
  · have e1 : IntKind.wrap .u64 29 = 29 := by rw [wrap_u64]; rfl
    have e2 : IntKind.wrap .u64 (wrap64 (29 - 1)) = 28 := by rw [wrap_u64]; unfold wrap64; rfl
    have e3 : shl .u32 1 29 = 536870912 := by unfold shl; rw [wrap_u32]; rfl
    have e4 : (((536870912 : Int) - 1) % 4294967296) = ((2 ^ 29 - 1 : Nat) : Int) := by decide
    rw [e1, e2, if_pos (by decide), if_pos (by decide), e3, e4, and_u32 x _ (by omega) (by decide), and_ones]
    have e5 : shr .u32 ((x % 2 ^ 29 : Nat) : Int) 28 = ((x % 2 ^ 29 : Nat) : Int) / 268435456 := rfl
    rw [e5]
    have e6 : (2 : Int) ^ ((29 : Int) - 1).toNat = 268435456 := by decide
    have e7 : (2 : Int) ^ (29 : Int).toNat = 536870912 := by decide
    rw [e6, e7]
    by_cases d : ((x % 2 ^ 29 : Nat) : Int) / 268435456 = 1
    · rw [if_pos d, if_pos (by omega)]; congr 1; omega
    · rw [if_neg d, if_neg (by omega)]; congr 1
  · have e1 : IntKind.wrap .u64 30 = 30 := by rw [wrap_u64]; rfl
    have e2 : IntKind.wrap .u64 (wrap64 (30 - 1)) = 29 := by rw [wrap_u64]; unfold wrap64; rfl
    have e3 : shl .u32 1 30 = 1073741824 := by unfold shl; rw [wrap_u32]; rfl
    have e4 : (((1073741824 : Int) - 1) % 4294967296) = ((2 ^ 30 - 1 : Nat) : Int) := by decide
    rw [e1, e2, if_pos (by decide), if_pos (by decide), e3, e4, and_u32 x _ (by omega) (by decide), and_ones]
    have e5 : shr .u32 ((x % 2 ^ 30 : Nat) : Int) 29 = ((x % 2 ^ 30 : Nat) : Int) / 536870912 := rfl
    rw [e5]
    have e6 : (2 : Int) ^ ((30 : Int) - 1).toNat = 536870912 := by decide
    have e7 : (2 : Int) ^ (30 : Int).toNat = 1073741824 := by decide
    rw [e6, e7]
    by_cases d : ((x % 2 ^ 30 : Nat) : Int) / 536870912 = 1
    · rw [if_pos d, if_pos (by omega)]; congr 1; omega
    · rw [if_neg d, if_neg (by omega)]; congr 1
  · have e1 : IntKind.wrap .u64 31 = 31 := by rw [wrap_u64]; rfl
    have e2 : IntKind.wrap .u64 (wrap64 (31 - 1)) = 30 := by rw [wrap_u64]; unfold wrap64; rfl
    have e3 : shl .u32 1 31 = 2147483648 := by unfold shl; rw [wrap_u32]; rfl
    have e4 : (((2147483648 : Int) - 1) % 4294967296) = ((2 ^ 31 - 1 : Nat) : Int) := by decide
    rw [e1, e2, if_pos (by decide), if_pos (by decide), e3, e4, and_u32 x _ (by omega) (by decide), and_ones]
    have e5 : shr .u32 ((x % 2 ^ 31 : Nat) : Int) 30 = ((x % 2 ^ 31 : Nat) : Int) / 1073741824 := rfl
    rw [e5]
    have e6 : (2 : Int) ^ ((31 : Int) - 1).toNat = 1073741824 := by decide
    have e7 : (2 : Int) ^ (31 : Int).toNat = 2147483648 := by decide
    rw [e6, e7]
    by_cases d : ((x % 2 ^ 31 : Nat) : Int) / 1073741824 = 1
    · rw [if_pos d, if_pos (by omega)]; congr 1; omega
    · rw [if_neg d, if_neg (by omega)]; congr 1

theorem sar_step (a : Int) (h0 : 0 ≤ a) (h1 : a < 4294967296) : Go.bits .or .u32 (a / 2) (Go.bits .and .u32 a 2147483648) = wrap32 a / 2 % 4294967296 := by
  obtain ⟨x, rfl⟩ := Int.eq_ofNat_of_zero_le h0
  have e0 : (2147483648 : Int) = ((2147483648 : Nat) : Int) := rfl
  have e1 : ((x : Int) / 2) = ((x / 2 : Nat) : Int) := by omega
  rw [e0, and_u32 x 2147483648 (by omega) (by omega), e1, or_u32 _ _ (by omega) (Nat.lt_of_le_of_lt Nat.and_le_left (by omega))]
  have ht : x &&& 2147483648 = if 2147483648 ≤ x then 2147483648 else 0 := by
    apply Nat.eq_of_testBit_eq
    intro i
    rw [Nat.testBit_and, show (2147483648 : Nat) = 2 ^ 31 from rfl, Nat.testBit_two_pow]
    by_cases hi : 31 = i
    · subst hi
      rw [top_nat x (by omega)]
      by_cases c : 2147483648 ≤ x
      · rw [if_pos c, decide_eq_true c, Nat.testBit_two_pow]; rfl
      · rw [if_neg c, decide_eq_false c]; simp
    · rw [decide_eq_false hi, Bool.and_false]
      split
      · rw [Nat.testBit_two_pow, decide_eq_false hi]
      · simp
  rw [ht]
  by_cases c : 2147483648 ≤ x
  · rw [if_pos c]
    have : x / 2 ||| 2147483648 = x / 2 + 2147483648 := by
      have := Nat.two_pow_add_eq_or_of_lt (i := 31) (b := x / 2) (by omega) 1
      rw [show (2 : Nat) ^ 31 * 1 = 2147483648 from rfl] at this
      rw [Nat.or_comm, ← this]; omega
    rw [this]; unfold wrap32; omega
  · rw [if_neg c, Nat.or_zero]; unfold wrap32; omega

theorem sar_loop : ∀ (j : Nat) (k : Nat) (a : Int), j < 32 → j < k → 0 ≤ a → a < 4294967296 → pianolaref1_Sar.l0 k a (j : Int) = some (wrap32 a / 2 ^ j % 4294967296)
  | 0, k, a, _, hk, h0, h1 => by
    obtain ⟨k, rfl⟩ : ∃ m, k = m + 1 := ⟨k - 1, by omega⟩
    simp only [pianolaref1_Sar.l0]
    rw [if_neg (by omega)]
    congr 1
    unfold wrap32; simp; omega
  | j + 1, k, a, hj, hk, h0, h1 => by
    obtain ⟨k, rfl⟩ : ∃ m, k = m + 1 := ⟨k - 1, by omega⟩
    simp only [pianolaref1_Sar.l0]
    rw [if_pos (by omega), sar_step a h0 h1]
    have ew : IntKind.wrap .u64 (((j + 1 : Nat) : Int) - 1) = (j : Int) := by rw [wrap_u64]; omega
    rw [ew, sar_loop j k _ (by omega) (by omega) (by omega) (by omega)]
    have r := wrap32_range a
    have e : wrap32 (wrap32 a / 2 % 4294967296) = wrap32 a / 2 := by
      generalize wrap32 a = z at *
      unfold wrap32; omega
    rw [e, Int.ediv_ediv_of_nonneg (by decide), Int.pow_succ, Int.mul_comm]

theorem sar_ref (k : Nat) (a n : Int) (hk : 32 ≤ k) (h0 : 0 ≤ a) (h1 : a < 4294967296) (n0 : -9223372036854775808 ≤ n) (n1 : n < 9223372036854775808) : pianolaref1_Sar.f k a n = word_Sar.f a n := by
  unfold pianolaref1_Sar.f
  rw [sar_f]
  have e : IntKind.wrap .u64 (Int.tmod (wrap64 (Int.tmod n 32 + 32)) 32) = ((n % 32).toNat : Int) := by
    rw [wrap_u64, tmod_pos n 32 (by decide) (by decide)]; omega
  rw [e, sar_loop _ k a (by omega) (by omega) h0 h1]

theorem clz_loop : ∀ (j : Nat) (k : Nat) (x : Nat), j ≤ 32 → j < k → x < 2 ^ j → pianolaref1_Clz.l0 k (x : Int) (32 - (j : Int)) ((j : Int) - 1) = some (32 - (Lib.bitLen x : Int))
  | 0, k, x, _, hk, hx => by
    obtain ⟨k, rfl⟩ : ∃ m, k = m + 1 := ⟨k - 1, by omega⟩
    simp only [pianolaref1_Clz.l0]
    have : x = 0 := by simpa using hx
    subst this
    rw [if_neg (by omega), bitLen_zero]
  | j + 1, k, x, hj, hk, hx => by
    obtain ⟨k, rfl⟩ : ∃ m, k = m + 1 := ⟨k - 1, by omega⟩
    have hx32 : x < 2 ^ 32 := Nat.lt_of_lt_of_le hx (Nat.pow_le_pow_right (by decide) hj)
    simp only [pianolaref1_Clz.l0]
    have ew : IntKind.wrap .u64 (((j + 1 : Nat) : Int) - 1) = (j : Int) := by rw [wrap_u64]; omega
    rw [if_pos (by omega), ew, if_pos (by omega)]
    have es : shr .u32 (x : Int) (j : Int) = ((x / 2 ^ j : Nat) : Int) := by
      unfold shr
      rw [Int.toNat_natCast, Nat.min_eq_left (by simp [IntKind.bits]; omega)]
      simp
    rw [es]
    have e1 : Go.bits .and .u32 ((x / 2 ^ j : Nat) : Int) 1 = ((x / 2 ^ j : Nat) : Int) := by
      have hd : x / 2 ^ j < 2 := by rw [Nat.div_lt_iff_lt_mul (Nat.two_pow_pos j)]; rw [Nat.pow_succ] at hx; omega
      have := and_u32 (x / 2 ^ j) 1 (by omega) (by omega)
      rw [show ((1 : Nat) : Int) = 1 from rfl] at this
      rw [this, show (x / 2 ^ j) &&& 1 = (x / 2 ^ j) &&& (2 ^ 1 - 1) from rfl, and_ones, Nat.mod_eq_of_lt (by simpa using hd)]
    rw [e1]
    by_cases c : 2 ^ j ≤ x
    · have hd : x / 2 ^ j = 1 := by
        apply Nat.div_eq_of_lt_le
        · omega
        · rw [Nat.pow_succ] at hx; omega
      rw [hd, if_pos (by decide)]
      have hb := bitLen_bounds x (by have := Nat.two_pow_pos j; omega) (by omega)
      have e : Lib.bitLen x = j + 1 := by
        have l1 : j < Lib.bitLen x := by
          rcases Nat.lt_or_ge j (Lib.bitLen x) with h | h
          · exact h
          · have := Nat.pow_le_pow_right (n := 2) (by decide) h; omega
        have l2 : Lib.bitLen x - 1 < j + 1 := by
          rcases Nat.lt_or_ge (Lib.bitLen x - 1) (j + 1) with h | h
          · exact h
          · have := Nat.pow_le_pow_right (n := 2) (by decide) h; omega
        omega
      rw [e]
    · have hd : x / 2 ^ j = 0 := Nat.div_eq_of_lt (by omega)
      rw [hd, if_neg (by decide)]
      have e2 : wrap64 (32 - ((j + 1 : Nat) : Int) + 1) = 32 - (j : Int) := by unfold wrap64; omega
      have e3 : wrap64 (((j + 1 : Nat) : Int) - 1 - 1) = (j : Int) - 1 := by unfold wrap64; omega
      rw [e2, e3]
      exact clz_loop j k x (by omega) (by omega) (by omega)

theorem clz_ref (k : Nat) (a : Int) (hk : 33 ≤ k) (h0 : 0 ≤ a) (h1 : a < 4294967296) : pianolaref1_Clz.f k a = word_Clz.f a := by
  rw [clz_f a h0 h1]
  obtain ⟨x, rfl⟩ := Int.eq_ofNat_of_zero_le h0
  have := clz_loop 32 k x (by omega) (by omega) (by omega)
  unfold pianolaref1_Clz.f
  rw [Int.toNat_natCast]
  exact this

theorem clo_ref (k : Nat) (a : Int) (hk : 33 ≤ k) (h0 : 0 ≤ a) (h1 : a < 4294967296) : pianolaref1_Clo.f k a = word_Clo.f a := by
  unfold pianolaref1_Clo.f
  rw [xor_max a h0 h1, clz_ref k _ hk (by omega) (by omega), clz_f _ (by omega) (by omega), clo_f a h0 h1]; rfl

theorem same_round (k : Nat) (a b n : Int) (i : Int) (hi : 0 ≤ i) (hi' : i < 2) (hk : 1 ≤ k) (ha : 0 ≤ a ∧ a < 4294967296) (hb : 0 ≤ b ∧ b < 4294967296) :
    pianolalaw1_same.l0 (k + 1) a b n [false, true] 2 i = pianolalaw1_same.l0 k a b n [false, true] 2 (i + 1) := by
  simp only [pianolalaw1_same.l0]
  rw [if_pos hi', if_pos hi, if_pos (by simpa using hi')]
  have ew : wrap64 (i + 1) = i + 1 := by unfold wrap64; omega
  rw [ew]
  generalize rdOf false [false, true] i = s
  obtain ⟨k, rfl⟩ : ∃ m, k = m + 1 := ⟨k - 1, by omega⟩
  rw [mul_ref k a b s ha hb, div_ref a b s ha hb, over_ref a b s ha hb, less_ref a b s ha hb]
  obtain ⟨q, r, e1⟩ := mul_some a b s
  obtain ⟨q2, r2, e2⟩ := div_some a b s hb
  obtain ⟨o, e3⟩ := over_some a b s
  obtain ⟨l, e4⟩ := less_some a b s
  rw [e1, e2, e3, e4]
  simp

theorem same_f (k : Nat) (a b n : Int) (hk : 40 ≤ k) (ha : 0 ≤ a ∧ a < 4294967296) (hb : 0 ≤ b ∧ b < 4294967296) (n0 : -9223372036854775808 ≤ n) (n1 : n < 9223372036854775808) : pianolalaw1_same.f k a b n = some true := by
  unfold pianolalaw1_same.f
  simp only [Option.bind_some]
  obtain ⟨k, rfl⟩ : ∃ m, k = m + 3 := ⟨k - 3, by omega⟩
  rw [show (([false, true] : List Bool).length : Int) = 2 from rfl, same_round (k + 2) a b n 0 (by omega) (by omega) (by omega) ha hb, same_round (k + 1) a b n (0 + 1) (by omega) (by omega) (by omega) ha hb]
  simp only [pianolalaw1_same.l0]
  rw [if_neg (by omega), sign_f a n ha.1 ha.2, sign_ref a n ha.1 ha.2]
  simp only [Option.bind_some]
  rw [if_pos trivial, sar_ref k a n (by omega) ha.1 ha.2 n0 n1, clz_ref k a (by omega) ha.1 ha.2, clo_ref k a (by omega) ha.1 ha.2, sar_f, clz_f a ha.1 ha.2, clo_f a ha.1 ha.2]
  simp

theorem edge_f (i : Int) (n0 : -9223372036854775808 ≤ i) (n1 : i < 9223372036854775808) : ∃ v, pianolalaw1_edge.f i = some v ∧ 0 ≤ v ∧ v < 4294967296 := by
  unfold pianolalaw1_edge.f
  simp only [Option.bind_some]
  rw [tmod_pos i 20 (by decide) (by decide)]
  generalize hj : i % 20 = j
  have j0 : 0 ≤ j := by omega
  have j1 : j < 20 := by omega
  rw [if_pos j0, if_pos (by simpa using j1)]
  refine ⟨_, rfl, ?_⟩
  have : ∀ m : Fin 20, 0 ≤ rd [0, 1, 2, 3, 7, 127, 128, 255, 256, 32767, 32768, 65535, 65536, 2147483647, 2147483648, 2147483649, 4294967294, 4294967295, 1431655765, 2863311530] (m.val : Int) ∧ rd [0, 1, 2, 3, 7, 127, 128, 255, 256, 32767, 32768, 65535, 65536, 2147483647, 2147483648, 2147483649, 4294967294, 4294967295, 1431655765, 2863311530] (m.val : Int) < 4294967296 := by decide
  have := this ⟨j.toNat, by omega⟩
  rwa [show (((⟨j.toNat, by omega⟩ : Fin 20).val : Nat) : Int) = j from by simp; omega] at this

end Go.Proofs.Ytdagmhgmegpdpaa.W2
