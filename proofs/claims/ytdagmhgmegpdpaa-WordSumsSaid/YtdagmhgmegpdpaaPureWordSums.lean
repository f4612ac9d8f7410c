/- WordSums: the printed function answers true at every three words. Conditions: the arguments are words of 32 bits. -/
import Derived.Test.YtdagmhgmegpdpaaW1
namespace Go.Proofs.Ytdagmhgmegpdpaa.Pure
open Go.RowKit Go.Proofs.Ytdagmhgmegpdpaa.Q Go.Proofs.YtdagmhgmegpdpaaW.PrintWords Go.Proofs.YtdagmhgmegpdpaaW.PrintLast Go.Proofs.YtdagmhgmegpdpaaW.PrintMore Go.Proofs.Ytdagmhgmegpdpaa.U Go.Proofs.Ytdagmhgmegpdpaa.W1
set_option linter.unusedVariables false
set_option linter.unusedSimpArgs false

def keyOf (s : Bool) (a : Int) : Int := if s = true then wrap32 a else a

theorem less_key (a b : Int) (s : Bool) : word_Less.f a b s = some (decide (keyOf s a < keyOf s b)) := by
  unfold word_Less.f keyOf; cases s <;> simp

theorem key_inj (s : Bool) (a b : Int) (ha : 0 ≤ a ∧ a < 4294967296) (hb : 0 ≤ b ∧ b < 4294967296) : keyOf s a = keyOf s b ↔ a = b := by
  unfold keyOf wrap32; cases s <;> simp <;> omega

theorem sums_round (k : Nat) (a b c : Int) (x y : Bool) (i : Int) (hi : 0 ≤ i) (hi' : i < 2) (ha : 0 ≤ a ∧ a < 4294967296) (hb : 0 ≤ b ∧ b < 4294967296) :
    pianolalaw1_WordSums.l0 (k + 1) a b c x y [false, true] 2 i = pianolalaw1_WordSums.l0 k a b c x y [false, true] 2 (i + 1) := by
  simp only [pianolalaw1_WordSums.l0]
  rw [if_pos hi', if_pos hi, if_pos (by simpa using hi')]
  have ew : wrap64 (i + 1) = i + 1 := by unfold wrap64; omega
  rw [ew]
  generalize rdOf false [false, true] i = s
  have inj := key_inj s a b ha hb
  simp only [less_key, Option.bind_some, decide_eq_true_eq]
  generalize keyOf s a = A at *
  generalize keyOf s b = B at *
  generalize keyOf s c = C at *
  generalize pianolalaw1_WordSums.l0 k a b c x y [false, true] 2 (i + 1) = R
  repeat' split
  all_goals first | rfl | omega

theorem over_f (a b : Int) : word_Over.f a b false = some (decide (wrap32 a + wrap32 b < -2147483648 ∨ 2147483648 ≤ wrap32 a + wrap32 b)) := by
  unfold word_Over.f
  rw [if_neg (by decide)]
  congr 1
  have ra := wrap32_range a
  have rb := wrap32_range b
  generalize wrap32 a = A at *
  generalize wrap32 b = B at *
  by_cases c : A + B < -2147483648 ∨ 2147483648 ≤ A + B
  · rw [decide_eq_true c]; simp only [bne_iff_ne]; unfold wrap64 wrap32; omega
  · rw [decide_eq_false c]; simp only [bne_eq_false_iff_eq]; unfold wrap64 wrap32; omega

theorem under_f (a b : Int) : word_Over.f a b true = some (decide (wrap32 a - wrap32 b < -2147483648 ∨ 2147483648 ≤ wrap32 a - wrap32 b)) := by
  unfold word_Over.f
  rw [if_pos rfl]
  congr 1
  have ra := wrap32_range a
  have rb := wrap32_range b
  generalize wrap32 a = A at *
  generalize wrap32 b = B at *
  by_cases c : A - B < -2147483648 ∨ 2147483648 ≤ A - B
  · rw [decide_eq_true c]; simp only [bne_iff_ne]; unfold wrap64 wrap32; omega
  · rw [decide_eq_false c]; simp only [bne_eq_false_iff_eq]; unfold wrap64 wrap32; omega

theorem top_one (x : Nat) (h : x < 4294967296) : (((x : Nat) : Int) / 2147483648 == 1) = decide (2147483648 ≤ x) := by
  by_cases c : 2147483648 ≤ x
  · rw [decide_eq_true c, beq_iff_eq]; omega
  · rw [decide_eq_false c, beq_eq_false_iff_ne]; omega

theorem over_bits (x y : Nat) (hx : x < 4294967296) (hy : y < 4294967296) :
    ((Go.bits .and .u32 (Go.bits .xor .u32 (x : Int) (((x : Int) + (y : Int)) % 4294967296)) (Go.bits .xor .u32 (y : Int) (((x : Int) + (y : Int)) % 4294967296))) / 2147483648 == 1)
      = decide (wrap32 x + wrap32 y < -2147483648 ∨ 2147483648 ≤ wrap32 (x : Int) + wrap32 (y : Int)) := by
  have e : ((x : Int) + (y : Int)) % 4294967296 = (((x + y) % 4294967296 : Nat) : Int) := by omega
  have hs : (x + y) % 4294967296 < 4294967296 := Nat.mod_lt _ (by decide)
  have l1 : x ^^^ ((x + y) % 4294967296) < 2 ^ 32 := Nat.xor_lt_two_pow (by omega) (by omega)
  have l2 : y ^^^ ((x + y) % 4294967296) < 2 ^ 32 := Nat.xor_lt_two_pow (by omega) (by omega)
  rw [e, xor_u32 _ _ hx hs, xor_u32 _ _ hy hs, and_u32 _ _ (by omega) (by omega), top_one _ (Nat.lt_of_le_of_lt Nat.and_le_left (by omega))]
  have t1 := top_xor x _ hx hs
  have t2 := top_xor y _ hy hs
  have t3 := top_and _ _ (show x ^^^ ((x + y) % 4294967296) < 4294967296 by omega) (show y ^^^ ((x + y) % 4294967296) < 4294967296 by omega)
  rw [decide_eq_decide, t3, t1, t2]
  unfold wrap32
  omega

theorem under_bits (x y : Nat) (hx : x < 4294967296) (hy : y < 4294967296) :
    ((Go.bits .and .u32 (Go.bits .xor .u32 (x : Int) (y : Int)) (Go.bits .xor .u32 (x : Int) (((x : Int) - (y : Int)) % 4294967296))) / 2147483648 == 1)
      = decide (wrap32 x - wrap32 y < -2147483648 ∨ 2147483648 ≤ wrap32 (x : Int) - wrap32 (y : Int)) := by
  have e : ((x : Int) - (y : Int)) % 4294967296 = (((x + 4294967296 - y) % 4294967296 : Nat) : Int) := by omega
  have hs : (x + 4294967296 - y) % 4294967296 < 4294967296 := Nat.mod_lt _ (by decide)
  have l1 : x ^^^ y < 2 ^ 32 := Nat.xor_lt_two_pow (by omega) (by omega)
  have l2 : x ^^^ ((x + 4294967296 - y) % 4294967296) < 2 ^ 32 := Nat.xor_lt_two_pow (by omega) (by omega)
  rw [e, xor_u32 _ _ hx hs, xor_u32 _ _ hx hy, and_u32 _ _ (by omega) (by omega), top_one _ (Nat.lt_of_le_of_lt Nat.and_le_left (by omega))]
  have t1 := top_xor x y hx hy
  have t2 := top_xor x _ hx hs
  have t3 := top_and _ _ (show x ^^^ y < 4294967296 by omega) (show x ^^^ ((x + 4294967296 - y) % 4294967296) < 4294967296 by omega)
  rw [decide_eq_decide, t3, t1, t2]
  unfold wrap32
  omega

theorem WordSums : pianolalaw1_WordSums.Pure := by
  intro a b c w0 w1 w2
  have ha := wf_u32 w0
  have hb := wf_u32 w1
  refine ⟨3, ?_⟩
  unfold pianolalaw1_WordSums.f
  simp only [Option.bind_some]
  rw [show (([false, true] : List Bool).length : Int) = 2 from rfl, sums_round 2 a b c _ _ 0 (by omega) (by omega) ha hb, sums_round 1 a b c _ _ (0 + 1) (by omega) (by omega) ha hb]
  simp only [pianolalaw1_WordSums.l0]
  rw [if_neg (by omega), over_f, under_f]
  simp only [Option.bind_some]
  obtain ⟨x, rfl⟩ := Int.eq_ofNat_of_zero_le ha.1
  obtain ⟨y, rfl⟩ := Int.eq_ofNat_of_zero_le hb.1
  rw [over_bits x y (by omega) (by omega), under_bits x y (by omega) (by omega), known_f]
  simp

end Go.Proofs.Ytdagmhgmegpdpaa.Pure
