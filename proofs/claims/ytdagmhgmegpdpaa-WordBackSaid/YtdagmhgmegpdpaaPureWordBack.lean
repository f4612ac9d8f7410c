/- WordBack: the printed function answers true at every two words. Conditions: the arguments are words of 32 bits. -/
import Derived.Test.YtdagmhgmegpdpaaW1
namespace Go.Proofs.Ytdagmhgmegpdpaa.Pure
open Go.RowKit Go.Proofs.Ytdagmhgmegpdpaa.Q Go.Proofs.YtdagmhgmegpdpaaW.PrintWords Go.Proofs.YtdagmhgmegpdpaaW.PrintLast Go.Proofs.YtdagmhgmegpdpaaW.PrintMore Go.Proofs.Ytdagmhgmegpdpaa.U Go.Proofs.Ytdagmhgmegpdpaa.W1
set_option linter.unusedVariables false
set_option linter.unusedSimpArgs false

theorem tmod_sign (x y : Int) (hy : y ≠ 0) : (0 ≤ x → 0 ≤ Int.tmod x y) ∧ (x ≤ 0 → Int.tmod x y ≤ 0) := by
  refine ⟨fun h => Int.tmod_nonneg y h, fun h => ?_⟩
  have h2 := Int.tmod_nonneg y (show 0 ≤ -x by omega)
  rw [Int.neg_tmod] at h2
  omega

theorem tmod_small (x y : Int) (hy : y ≠ 0) (h0 : -2147483648 ≤ y) (h1 : y ≤ 2147483648) : -2147483648 < Int.tmod x y ∧ Int.tmod x y < 2147483648 := by
  rcases Int.lt_or_gt_of_ne hy with h | h
  · have := tmod_bounds x (-y) (by omega)
    rw [Int.tmod_neg] at this
    omega
  · have := tmod_bounds x y h
    omega

theorem tdiv_small (x y : Int) (hy : y ≠ 0) (h0 : -2147483648 ≤ x) (h1 : x ≤ 2147483648) : -2147483648 ≤ Int.tdiv x y ∧ Int.tdiv x y ≤ 2147483648 := by
  have h := Int.natAbs_tdiv_le_natAbs x y
  omega

theorem back_mod (q b r Q Y R : Int) (hq : q % 4294967296 = Q % 4294967296) (hb : b % 4294967296 = Y % 4294967296) (hr : r % 4294967296 = R % 4294967296) :
    (q * b + r) % 4294967296 = (Q * Y + R) % 4294967296 := by
  rw [Int.add_emod, Int.mul_emod, hq, hb, hr, ← Int.mul_emod, ← Int.add_emod]

theorem wrap32_mod (a : Int) : a % 4294967296 = wrap32 a % 4294967296 := by unfold wrap32; omega

theorem div_back (a b : Int) (s : Bool) (ha : 0 ≤ a ∧ a < 4294967296) (hb : 0 ≤ b ∧ b < 4294967296) :
    ∃ q r, word_Div.f a b s = some (q, r) ∧ (b ≠ 0 → (q * b + r) % 4294967296 = a) ∧ (b ≠ 0 → s = false → r < b) ∧ (b ≠ 0 → s = true → r = 0 ∨ r / 2147483648 = a / 2147483648) := by
  unfold word_Div.f
  by_cases z : b = 0
  · rw [if_pos z]
    exact ⟨_, _, rfl, fun h => absurd z h, fun h => absurd z h, fun h => absurd z h⟩
  · rw [if_neg z]
    cases s
    · rw [if_neg (by decide)]
      refine ⟨_, _, rfl, fun _ => ?_, fun _ _ => Int.tmod_lt_of_pos a (by omega), fun _ h => by cases h⟩
      rw [back_mod (Int.tdiv a b % 4294967296) b (Int.tmod a b) (Int.tdiv a b) b (Int.tmod a b) (Int.emod_emod _ _) rfl rfl, Int.tdiv_mul_add_tmod]
      omega
    · rw [if_pos rfl]
      have rA := wrap32_range a
      have rB := wrap32_range b
      have eA : wrap64 (wrap32 a) = wrap32 a := by unfold wrap64; omega
      have eB : wrap64 (wrap32 b) = wrap32 b := by unfold wrap64; omega
      have yz : wrap32 b ≠ 0 := by unfold wrap32; omega
      rw [eA, eB, if_neg yz]
      have d := tdiv_small (wrap32 a) (wrap32 b) yz (by omega) (by omega)
      have m := tmod_small (wrap32 a) (wrap32 b) yz (by omega) (by omega)
      have sg := tmod_sign (wrap32 a) (wrap32 b) yz
      have eD : wrap64 (Int.tdiv (wrap32 a) (wrap32 b)) = Int.tdiv (wrap32 a) (wrap32 b) := by unfold wrap64; omega
      rw [eD]
      refine ⟨_, _, rfl, fun _ => ?_, fun _ h => (by cases h), fun _ _ => ?_⟩
      · rw [back_mod _ b _ (Int.tdiv (wrap32 a) (wrap32 b)) (wrap32 b) (Int.tmod (wrap32 a) (wrap32 b)) (Int.emod_emod _ _) (wrap32_mod b) (Int.emod_emod _ _), Int.tdiv_mul_add_tmod]
        rw [← wrap32_mod a]; omega
      · have sa : (wrap32 a < 0 ↔ a / 2147483648 = 1) ∧ (0 ≤ wrap32 a ↔ a / 2147483648 = 0) := by unfold wrap32; omega
        generalize Int.tmod (wrap32 a) (wrap32 b) = R at *
        generalize wrap32 a = A at *
        by_cases hA : 0 ≤ A
        · have := sg.1 hA
          right; rw [sa.2.1 hA]; omega
        · have := sg.2 (by omega)
          by_cases hR : R = 0
          · left; rw [hR]; rfl
          · right; rw [sa.1.1 (by omega)]; omega

theorem mul_back (a b : Int) (s : Bool) (ha : 0 ≤ a ∧ a < 4294967296) (hb : 0 ≤ b ∧ b < 4294967296) :
    ∃ h l, word_Mul.f a b s = some (h, l) ∧ word_Mul.f b a s = some (h, l) ∧ l = (a * b) % 4294967296 := by
  unfold word_Mul.f
  cases s
  · rw [if_neg (by decide), if_neg (by decide), Int.mul_comm (IntKind.u64.wrap b)]
    refine ⟨_, _, rfl, rfl, ?_⟩
    have eA : IntKind.wrap .u64 a = a := by rw [wrap_u64]; omega
    have eB : IntKind.wrap .u64 b = b := by rw [wrap_u64]; omega
    rw [eA, eB, wrap_u64]
    generalize a * b = p
    omega
  · rw [if_pos rfl, if_pos rfl, Int.mul_comm (wrap64 (wrap32 b))]
    refine ⟨_, _, rfl, rfl, ?_⟩
    have rA := wrap32_range a
    have rB := wrap32_range b
    have eA : wrap64 (wrap32 a) = wrap32 a := by unfold wrap64; omega
    have eB : wrap64 (wrap32 b) = wrap32 b := by unfold wrap64; omega
    have e : (a * b) % 4294967296 = (wrap32 a * wrap32 b) % 4294967296 := by
      rw [Int.mul_emod, wrap32_mod a, wrap32_mod b, ← Int.mul_emod]
    rw [eA, eB, wrap_u64, e]
    generalize wrap32 a * wrap32 b = p
    unfold wrap64
    omega

theorem back_j2 (k : Nat) (a b : Int) (s : Bool) (l : List Bool) (n i : Int) (ha : 0 ≤ a ∧ a < 4294967296) (hb : 0 ≤ b ∧ b < 4294967296) :
    pianolalaw1_WordBack.j2 (k + 1) a b s l n i false = pianolalaw1_WordBack.l0 k a b l n (wrap64 (i + 1)) := by
  simp only [pianolalaw1_WordBack.j2]
  obtain ⟨h, lo, e1, e2, e3⟩ := mul_back a b s ha hb
  rw [e1, e2, e3]
  simp

theorem back_round (k : Nat) (a b : Int) (i : Int) (hi : 0 ≤ i) (hi' : i < 2) (ha : 0 ≤ a ∧ a < 4294967296) (hb : 0 ≤ b ∧ b < 4294967296) :
    pianolalaw1_WordBack.l0 (k + 3) a b [false, true] 2 i = pianolalaw1_WordBack.l0 k a b [false, true] 2 (i + 1) := by
  simp only [pianolalaw1_WordBack.l0]
  rw [if_pos hi', if_pos hi, if_pos (by simpa using hi')]
  generalize rdOf false [false, true] i = s
  obtain ⟨q, r, e, h1, h2, h3⟩ := div_back a b s ha hb
  rw [e]
  simp only [Option.bind_some]
  have ew : wrap64 (i + 1) = i + 1 := by unfold wrap64; omega
  have J : pianolalaw1_WordBack.j1 (k + 2) a b s r [false, true] 2 i false = pianolalaw1_WordBack.l0 k a b [false, true] 2 (i + 1) := by
    simp only [pianolalaw1_WordBack.j1]
    rw [if_neg (by decide), back_j2 k a b s _ _ _ ha hb, ew]
    by_cases z : b = 0
    · rw [if_pos z]
    · rw [if_neg z]
      cases s
      · rw [if_neg (by decide), decide_eq_false (by have := h2 z rfl; omega), back_j2 k a b false _ _ _ ha hb, ew]
      · rw [if_pos rfl]
  by_cases z : b = 0
  · have hz : (b != 0) = false := by rw [z]; rfl
    rw [hz]
    split <;> exact J
  · rw [if_pos (h1 z)]; exact J

theorem WordBack : pianolalaw1_WordBack.Pure := by
  intro a b w0 w1
  have ha := wf_u32 w0
  have hb := wf_u32 w1
  refine ⟨7, ?_⟩
  unfold pianolalaw1_WordBack.f
  simp only [Option.bind_some]
  rw [show (([false, true] : List Bool).length : Int) = 2 from rfl, back_round 4 a b 0 (by omega) (by omega) ha hb, back_round 1 a b (0 + 1) (by omega) (by omega) ha hb]
  simp only [pianolalaw1_WordBack.l0]
  rw [if_neg (by omega)]
  obtain ⟨q, r, e, h1, h2, h3⟩ := div_back a b true ha hb
  rw [e]
  simp only [Option.bind_some]
  rw [known_f]
  by_cases z : b = 0
  · rw [if_pos z]; rfl
  · rw [if_neg z]
    rcases h3 z rfl with h | h
    · rw [if_pos h]; rfl
    · rw [if_pos h]; split <;> rfl

end Go.Proofs.Ytdagmhgmegpdpaa.Pure
