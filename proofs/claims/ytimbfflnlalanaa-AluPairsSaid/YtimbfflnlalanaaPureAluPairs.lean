/- AluPairs: the printed function answers true at every two words and every number. Conditions: the arguments are of their kinds. -/
import Derived.Test.YtimbfflnlalanaaA1
import Derived.Test.YtimbfflnlalanaaQx3

namespace Go.Proofs.Ytimbfflnlalanaa.Pure
open Go.RowKit Go.Proofs.Ytimbfflnlalanaa.Q Go.Proofs.YtimbfflnlalanaaW.PrintWords Go.Proofs.YtimbfflnlalanaaW.PrintLast Go.Proofs.YtimbfflnlalanaaW.PrintMore Go.Proofs.Ytimbfflnlalanaa.U Go.Proofs.Ytimbfflnlalanaa.WS Go.Proofs.Ytimbfflnlalanaa.A1
set_option linter.unusedVariables false
set_option linter.unusedSimpArgs false

theorem shl_range (v n : Int) : 0 ≤ shl .u32 v n ∧ shl .u32 v n < 4294967296 := by
  unfold shl; rw [wrap_u32]; omega

theorem xor_back (x y : Int) (hx : 0 ≤ x ∧ x < 4294967296) (hy : 0 ≤ y ∧ y < 4294967296) : (0 ≤ Go.bits .xor .u32 x y ∧ Go.bits .xor .u32 x y < 4294967296) ∧ Go.bits .xor .u32 (Go.bits .xor .u32 x y) y = x := by
  obtain ⟨a, rfl⟩ := Int.eq_ofNat_of_zero_le hx.1
  obtain ⟨b, rfl⟩ := Int.eq_ofNat_of_zero_le hy.1
  have h : a ^^^ b < 2 ^ 32 := Nat.xor_lt_two_pow (by omega) (by omega)
  rw [xor_u32 a b (by omega) (by omega), xor_u32 (a ^^^ b) b (by omega) (by omega), Nat.xor_assoc, Nat.xor_self, Nat.xor_zero]
  omega

theorem AluPairs : pianolalaw4_AluPairs.Pure := by
  intro s t n w0 w1 w2
  have hs := wf_u32 w0
  have ht := wf_u32 w1
  refine ⟨60, ?_⟩
  have e23 : ∀ h m x y, doV 23 h m x y = (x + y) % 4294967296 := fun _ _ _ _ => rfl
  have e25 : ∀ h m x y, doV 25 h m x y = (x - y) % 4294967296 := fun _ _ _ _ => rfl
  have e1 : ∀ h m x y, doV 1 h m x y = shl .u32 y (h % 32) := fun _ _ _ _ => rfl
  have e2 : ∀ h m x y, doV 2 h m x y = shr .u32 y (h % 32) := fun _ _ _ _ => rfl
  have e28 : ∀ h m x y, doV 28 h m x y = Go.bits .xor .u32 x y := fun _ _ _ _ => rfl
  have e30 : ∀ h m x y, doV 30 h m x y = if wrap32 x < wrap32 y then 1 else 0 := by
    intro h m x y
    show (if ((word_Less.f x y true).getD false) = true then (1 : Int) else 0) = _
    unfold word_Less.f
    rw [if_pos rfl, Option.getD_some]
    simp only [decide_eq_true_eq]
  have z : (0 : Int) ≤ 0 ∧ (0 : Int) < 4294967296 := by decide
  have ha : 0 ≤ (s + t) % 4294967296 ∧ (s + t) % 4294967296 < 4294967296 := by omega
  have x1 := xor_back s t hs ht
  unfold pianolalaw4_AluPairs.f
  rw [tmod_pos n 32 (by decide) (by decide), do_f 60 (by omega) 23 0 0 0 0 0 s t z hs ht]
  simp only [Option.bind_some]
  rw [e23, do_f 60 (by omega) 25 0 0 0 0 0 _ t z ha ht, do_f 60 (by omega) 1 0 0 0 (n % 32) 0 0 t z z ht]
  simp only [Option.bind_some]
  rw [e1, do_f 60 (by omega) 2 0 0 0 (n % 32) 0 0 _ z z (shl_range _ _), do_f 60 (by omega) 30 0 0 0 0 0 s t z hs ht, do_f 60 (by omega) 30 0 0 0 0 0 t s z ht hs, do_f 60 (by omega) 28 0 0 0 0 0 s t z hs ht]
  simp only [Option.bind_some]
  rw [e28, do_f 60 (by omega) 28 0 0 0 0 0 _ t z x1.1 ht]
  simp only [Option.bind_some]
  rw [e25, e2, e30, e30, e28, x1.2, known_f 60 (by omega), wrap_u64]
  have i25 : isB 25 = true := by decide
  rw [i25, if_pos rfl, if_pos (by omega), show n % 32 % 18446744073709551616 = n % 32 by omega, show n % 32 % 32 = n % 32 by omega, if_pos (by omega), if_pos rfl]
  have k : ((if wrap32 s < wrap32 t then (1 : Int) else 0) + (if wrap32 t < wrap32 s then 1 else 0)) % 4294967296 = if s = t then 0 else 1 := by
    unfold wrap32
    by_cases c : s = t
    · subst c; simp
    · rw [if_neg c]
      split <;> split <;> omega
  rw [k]
  by_cases c : s = t
  · subst c; simp
  · rw [if_neg c]; simp [c]

end Go.Proofs.Ytimbfflnlalanaa.Pure
