/- WordShifts: the printed function answers true at every word and every two numbers. Conditions: the arguments are of their kinds. -/
import Derived.Test.YtdagmhgmegpdpaaW1
namespace Go.Proofs.Ytdagmhgmegpdpaa.Pure
open Go.RowKit Go.Proofs.Ytdagmhgmegpdpaa.Q Go.Proofs.YtdagmhgmegpdpaaW.PrintWords Go.Proofs.YtdagmhgmegpdpaaW.PrintLast Go.Proofs.YtdagmhgmegpdpaaW.PrintMore Go.Proofs.Ytdagmhgmegpdpaa.U Go.Proofs.Ytdagmhgmegpdpaa.W1
set_option linter.unusedVariables false
set_option linter.unusedSimpArgs false

theorem shifts_j0 (a n p q : Int) (h0 : 0 ≤ a) (h1 : a < 4294967296) (hp : 0 ≤ p) (hp' : p < 16) (hq : 0 ≤ q) (hq' : q < 16) : pianolalaw1_WordShifts.j0 1 a n p q false = some true := by
  simp only [pianolalaw1_WordShifts.j0]
  rw [if_neg (by decide)]
  have hs := sar_f a p
  have e := sar_sar a p q hp hp' hq hq' _ hs
  rw [hs]
  simp only [Option.bind_some]
  have ew : wrap64 (p + q) = p + q := by unfold wrap64; omega
  rw [ew, e, sar_f a (p + q)]
  simp only [Option.bind_some]
  rw [if_pos trivial, sign_f a _ h0 h1]
  simp only [Option.bind_some]
  have r := sgn_range a (wrap64 (1 + Int.tmod (wrap64 (Int.tmod n 31 + 31)) 31)) h0 h1
  rw [sign_f _ _ r.1 r.2, sgn_sgn a _ h0 h1]
  simp only [Option.bind_some]
  rw [if_pos trivial, known_f]; rfl

theorem WordShifts : pianolalaw1_WordShifts.Pure := by
  intro a n m w0 w1 w2
  obtain ⟨h0, h1⟩ := wf_u32 w0
  obtain ⟨n0, n1⟩ := wf_i64 w1
  obtain ⟨m0, m1⟩ := wf_i64 w2
  have key : ∀ x : Int, 0 ≤ Int.tmod (wrap64 (Int.tmod x 16 + 16)) 16 ∧ Int.tmod (wrap64 (Int.tmod x 16 + 16)) 16 < 16 := by
    intro x
    rw [tmod_pos x 16 (by decide) (by decide)]; omega
  have kp := key n
  have kq := key m
  refine ⟨1, ?_⟩
  unfold pianolalaw1_WordShifts.f
  rw [clz_f a h0 h1]
  simp only [Option.bind_some]
  rw [xor_max a h0 h1, clo_f (4294967295 - a) (by omega) (by omega)]
  rw [show (4294967295 : Int) - (4294967295 - a) = a by omega]
  simp only [Option.bind_some]
  have J := shifts_j0 a n _ _ h0 h1 kp.1 kp.2 kq.1 kq.2
  by_cases z : a = 0
  · subst z
    rw [if_neg (by simp [bitLen_zero]), if_pos (by simp [bitLen_zero]), if_pos rfl]
    rw [show ((32 - (Lib.bitLen (0 : Int).toNat : Int)) != 32 - (Lib.bitLen (0 : Int).toNat : Int)) = false from by simp]
    exact J
  · obtain ⟨b0, b1, b2, b3⟩ := bitLen_bounds a.toNat (by omega) (by omega)
    generalize hb : Lib.bitLen a.toNat = b at *
    rw [if_pos (by omega)]
    have e1 : IntKind.wrap .u64 (wrap64 (31 - (32 - (b : Int)))) = ((b - 1 : Nat) : Int) := by rw [wrap_u64]; unfold wrap64; omega
    rw [e1, if_pos (by omega)]
    have e2 : shr .u32 a ((b - 1 : Nat) : Int) = 1 := by
      unfold shr
      rw [Int.toNat_natCast, Nat.min_eq_left (by simp [IntKind.bits]; omega)]
      obtain ⟨x, rfl⟩ := Int.eq_ofNat_of_zero_le h0
      rw [Int.toNat_natCast] at b2 b3
      have : x / 2 ^ (b - 1) = 1 := by
        apply Nat.div_eq_of_lt_le
        · omega
        · have : 2 ^ b = 2 ^ (b - 1) * 2 := by rw [← Nat.pow_succ]; congr 1; omega
          omega
      have h := congrArg (Int.ofNat) this
      simpa using h
    rw [e2, if_pos rfl, if_neg (by omega)]
    rw [show ((32 - (b : Int)) != 32 - (b : Int)) = false from by simp]
    exact J

end Go.Proofs.Ytdagmhgmegpdpaa.Pure
