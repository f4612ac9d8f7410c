-- Written by a program of this session: a turned copy of the kit's print (wip/print/fork.py), whose words lie beside.
import Derived.Test.YtimbfflnlalanaaQx0
import Derived.Test.YtimbfflnlalanaaQx8
import Derived.Test.YtimbfflnlalanaaQx9
namespace Go.Proofs.Ytimbfflnlalanaa.Q
open Go.RowKit Go.Proofs.YtimbfflnlalanaaW.PrintWords Go.Proofs.YtimbfflnlalanaaW.PrintLast Go.Proofs.YtimbfflnlalanaaW.PrintMore
attribute [local go_sem] max2_int min2_int max_two min_two max_three min_three max_four min_four   -- for this text's walks alone
set_option linter.unusedVariables false
set_option linter.unusedSimpArgs false

/-! ### pianolaref4_Do: function 21 -/
mutual
def pianolaref4_Do.j0 : Nat → Int → Int → Int → Int → Int → Bool → Int → Int → Int → Int → Int → Int → Option (Int × Bool)
  | 0, _, _, _, _, _, _, _, _, _, _, _, _ => none
  | k + 1, x1, x2, x8, x9, x19, x20, x138000, x138001, x138002, x138003, x138004, x138005 => if x20 = true then ((pianolaref4_shift.f k (wrap64 (x138000 - 1)) x2 x138004).bind fun t139 => (some (t139, true))) else (if x19 = 4 then (pianolaref4_Do.j1 k x1 x2 x8 x9 x19 (x19 == 4) x138000 x138001 x138002 x138003 x138004 x138005) else (if x19 = 5 then (pianolaref4_Do.j1 k x1 x2 x8 x9 x19 (x19 == 5) x138000 x138001 x138002 x138003 x138004 x138005) else (pianolaref4_Do.j1 k x1 x2 x8 x9 x19 (x19 == 6) x138000 x138001 x138002 x138003 x138004 x138005)))
def pianolaref4_Do.j1 : Nat → Int → Int → Int → Int → Int → Bool → Int → Int → Int → Int → Int → Int → Option (Int × Bool)
  | 0, _, _, _, _, _, _, _, _, _, _, _, _ => none
  | k + 1, x1, x2, x8, x9, x19, x31, x138000, x138001, x138002, x138003, x138004, x138005 => if x31 = true then ((pianolaref4_shift.f k (wrap64 (x138000 - 4)) x2 (wrap64 (Int.tmod x1 32))).bind fun t140 => (some (t140, true))) else (if x19 = 22 then (pianolaref4_Do.j2 k x1 x2 x8 x9 x19 (x19 == 22) x138000 x138001 x138002 x138003 x138004 x138005) else (pianolaref4_Do.j2 k x1 x2 x8 x9 x19 (x19 == 23) x138000 x138001 x138002 x138003 x138004 x138005))
def pianolaref4_Do.j2 : Nat → Int → Int → Int → Int → Int → Bool → Int → Int → Int → Int → Int → Int → Option (Int × Bool)
  | 0, _, _, _, _, _, _, _, _, _, _, _, _ => none
  | k + 1, x1, x2, x8, x9, x19, x43, x138000, x138001, x138002, x138003, x138004, x138005 => if x43 = true then (some ((x1 + x2) % 4294967296, true)) else (if x19 = 24 then (pianolaref4_Do.j3 k x1 x2 x8 x9 x19 (x19 == 24) x138000 x138001 x138002 x138003 x138004 x138005) else (pianolaref4_Do.j3 k x1 x2 x8 x9 x19 (x19 == 25) x138000 x138001 x138002 x138003 x138004 x138005))
def pianolaref4_Do.j3 : Nat → Int → Int → Int → Int → Int → Bool → Int → Int → Int → Int → Int → Int → Option (Int × Bool)
  | 0, _, _, _, _, _, _, _, _, _, _, _, _ => none
  | k + 1, x1, x2, x8, x9, x19, x49, x138000, x138001, x138002, x138003, x138004, x138005 => if x49 = true then (some ((x1 - x2) % 4294967296, true)) else (if x19 = 26 then (some (Go.bits .and .u32 x1 x2, true)) else (if x19 = 27 then (some (Go.bits .or .u32 x1 x2, true)) else (if x19 = 28 then (some (Go.bits .xor .u32 x1 x2, true)) else (if x19 = 29 then (some (Go.bits .xor .u32 IntKind.u32.max (Go.bits .or .u32 x1 x2), true)) else (if x19 = 30 then (pianolaref4_Do.j4 k x1 x2 x8 x9 x19 (x19 == 30) x138000 x138001 x138002 x138003 x138004 x138005) else (pianolaref4_Do.j4 k x1 x2 x8 x9 x19 (x19 == 31) x138000 x138001 x138002 x138003 x138004 x138005))))))
def pianolaref4_Do.j4 : Nat → Int → Int → Int → Int → Int → Bool → Int → Int → Int → Int → Int → Int → Option (Int × Bool)
  | 0, _, _, _, _, _, _, _, _, _, _, _, _ => none
  | k + 1, x1, x2, x8, x9, x19, x76, x138000, x138001, x138002, x138003, x138004, x138005 => if x76 = true then ((pianolaref1_Less.f x1 x2 (x138000 == 30)).bind fun t141 => ((pianolaref4_bit.f t141).bind fun t142 => (some (t142, true)))) else (if x19 = 46 then (pianolaref4_Do.j5 k x1 x2 x8 x9 x19 (x19 == 46) x138000 x138001 x138002 x138003 x138004 x138005) else (pianolaref4_Do.j5 k x1 x2 x8 x9 x19 (x19 == 47) x138000 x138001 x138002 x138003 x138004 x138005))
def pianolaref4_Do.j5 : Nat → Int → Int → Int → Int → Int → Bool → Int → Int → Int → Int → Int → Int → Option (Int × Bool)
  | 0, _, _, _, _, _, _, _, _, _, _, _, _ => none
  | k + 1, x1, x2, x8, x9, x19, x86, x138000, x138001, x138002, x138003, x138004, x138005 => if x86 = true then (some ((x1 + x8) % 4294967296, true)) else (if x19 = 48 then (pianolaref4_Do.j6 k x1 x2 x8 x9 x19 (x19 == 48) x138000 x138001 x138002 x138003 x138004 x138005) else (pianolaref4_Do.j6 k x1 x2 x8 x9 x19 (x19 == 49) x138000 x138001 x138002 x138003 x138004 x138005))
def pianolaref4_Do.j6 : Nat → Int → Int → Int → Int → Int → Bool → Int → Int → Int → Int → Int → Int → Option (Int × Bool)
  | 0, _, _, _, _, _, _, _, _, _, _, _, _ => none
  | k + 1, x1, x2, x8, x9, x19, x92, x138000, x138001, x138002, x138003, x138004, x138005 => if x92 = true then ((pianolaref1_Less.f x1 x8 (x138000 == 48)).bind fun t143 => ((pianolaref4_bit.f t143).bind fun t144 => (some (t144, true)))) else (if x19 = 50 then (some (Go.bits .and .u32 x1 x9, true)) else (if x19 = 51 then (some (Go.bits .or .u32 x1 x9, true)) else (if x19 = 52 then (some (Go.bits .xor .u32 x1 x9, true)) else (if x19 = 53 then (some ((x9 * 65536) % 4294967296, true)) else (if x19 = 63 then ((pianolaref1_Mul.f k x1 x2 true).bind fun bt145 => (some (bt145.2, true))) else (if x19 = 64 then ((pianolaref1_Clz.f k x1).bind fun t147 => (some ((t147) % 4294967296, true))) else (if x19 = 65 then ((pianolaref1_Clo.f k x1).bind fun t148 => (some ((t148) % 4294967296, true))) else (some (0, false)))))))))
end
def pianolaref4_Do.f (k : Nat) (a0_0 : Int) (a0_1 : Int) (a0_2 : Int) (a0_3 : Int) (a0_4 : Int) (a0_5 : Int) (a1 : Int) (a2 : Int) : Option (Int × Bool) := (pianolaref1_Sign.f a0_5 16).bind fun t138 => (if a0_0 = 1 then (pianolaref4_Do.j0 k a1 a2 t138 (Go.bits .and .u32 a0_5 65535) a0_0 (a0_0 == 1) a0_0 a0_1 a0_2 a0_3 a0_4 a0_5) else (if a0_0 = 2 then (pianolaref4_Do.j0 k a1 a2 t138 (Go.bits .and .u32 a0_5 65535) a0_0 (a0_0 == 2) a0_0 a0_1 a0_2 a0_3 a0_4 a0_5) else (pianolaref4_Do.j0 k a1 a2 t138 (Go.bits .and .u32 a0_5 65535) a0_0 (a0_0 == 3) a0_0 a0_1 a0_2 a0_3 a0_4 a0_5)))
theorem pianolaref4_Do.mono_l : ∀ k, (∀ y0 y1 y2 y3 y4 y5 y6 y7 y8 y9 y10 y11, LeO (pianolaref4_Do.j0 k y0 y1 y2 y3 y4 y5 y6 y7 y8 y9 y10 y11) (pianolaref4_Do.j0 (k + 1) y0 y1 y2 y3 y4 y5 y6 y7 y8 y9 y10 y11)) ∧ (∀ y0 y1 y2 y3 y4 y5 y6 y7 y8 y9 y10 y11, LeO (pianolaref4_Do.j1 k y0 y1 y2 y3 y4 y5 y6 y7 y8 y9 y10 y11) (pianolaref4_Do.j1 (k + 1) y0 y1 y2 y3 y4 y5 y6 y7 y8 y9 y10 y11)) ∧ (∀ y0 y1 y2 y3 y4 y5 y6 y7 y8 y9 y10 y11, LeO (pianolaref4_Do.j2 k y0 y1 y2 y3 y4 y5 y6 y7 y8 y9 y10 y11) (pianolaref4_Do.j2 (k + 1) y0 y1 y2 y3 y4 y5 y6 y7 y8 y9 y10 y11)) ∧ (∀ y0 y1 y2 y3 y4 y5 y6 y7 y8 y9 y10 y11, LeO (pianolaref4_Do.j3 k y0 y1 y2 y3 y4 y5 y6 y7 y8 y9 y10 y11) (pianolaref4_Do.j3 (k + 1) y0 y1 y2 y3 y4 y5 y6 y7 y8 y9 y10 y11)) ∧ (∀ y0 y1 y2 y3 y4 y5 y6 y7 y8 y9 y10 y11, LeO (pianolaref4_Do.j4 k y0 y1 y2 y3 y4 y5 y6 y7 y8 y9 y10 y11) (pianolaref4_Do.j4 (k + 1) y0 y1 y2 y3 y4 y5 y6 y7 y8 y9 y10 y11)) ∧ (∀ y0 y1 y2 y3 y4 y5 y6 y7 y8 y9 y10 y11, LeO (pianolaref4_Do.j5 k y0 y1 y2 y3 y4 y5 y6 y7 y8 y9 y10 y11) (pianolaref4_Do.j5 (k + 1) y0 y1 y2 y3 y4 y5 y6 y7 y8 y9 y10 y11)) ∧ (∀ y0 y1 y2 y3 y4 y5 y6 y7 y8 y9 y10 y11, LeO (pianolaref4_Do.j6 k y0 y1 y2 y3 y4 y5 y6 y7 y8 y9 y10 y11) (pianolaref4_Do.j6 (k + 1) y0 y1 y2 y3 y4 y5 y6 y7 y8 y9 y10 y11))
  | 0 => ⟨fun _ _ _ _ _ _ _ _ _ _ _ _ r h => by simp [pianolaref4_Do.j0] at h, fun _ _ _ _ _ _ _ _ _ _ _ _ r h => by simp [pianolaref4_Do.j1] at h, fun _ _ _ _ _ _ _ _ _ _ _ _ r h => by simp [pianolaref4_Do.j2] at h, fun _ _ _ _ _ _ _ _ _ _ _ _ r h => by simp [pianolaref4_Do.j3] at h, fun _ _ _ _ _ _ _ _ _ _ _ _ r h => by simp [pianolaref4_Do.j4] at h, fun _ _ _ _ _ _ _ _ _ _ _ _ r h => by simp [pianolaref4_Do.j5] at h, fun _ _ _ _ _ _ _ _ _ _ _ _ r h => by simp [pianolaref4_Do.j6] at h⟩
  | k + 1 => by
    obtain ⟨ih0, ih1, ih2, ih3, ih4, ih5, ih6⟩ := pianolaref4_Do.mono_l k
    refine ⟨?_, ?_, ?_, ?_, ?_, ?_, ?_⟩
    · intro y0 y1 y2 y3 y4 y5 y6 y7 y8 y9 y10 y11
      unfold pianolaref4_Do.j0
      repeat' first
      | (with_reducible exact ih0 _ _ _ _ _ _ _ _ _ _ _ _)
      | (with_reducible exact ih1 _ _ _ _ _ _ _ _ _ _ _ _)
      | (with_reducible exact ih2 _ _ _ _ _ _ _ _ _ _ _ _)
      | (with_reducible exact ih3 _ _ _ _ _ _ _ _ _ _ _ _)
      | (with_reducible exact ih4 _ _ _ _ _ _ _ _ _ _ _ _)
      | (with_reducible exact ih5 _ _ _ _ _ _ _ _ _ _ _ _)
      | (with_reducible exact ih6 _ _ _ _ _ _ _ _ _ _ _ _)
      | (with_reducible exact pianolaref1_Clo.mono _ _)
      | (with_reducible exact pianolaref1_Clz.mono _ _)
      | (with_reducible exact pianolaref1_Mul.mono _ _ _ _)
      | (with_reducible exact pianolaref4_shift.mono _ _ _ _)
      | (with_reducible exact LeO.refl _)
      | (with_reducible exact LeO.none _)
      | (with_reducible refine LeO.ite ?_ ?_)
      | (with_reducible refine LeO.bind ?_ (fun _ => ?_))
      | exact ih0 _ _ _ _ _ _ _ _ _ _ _ _
      | exact ih1 _ _ _ _ _ _ _ _ _ _ _ _
      | exact ih2 _ _ _ _ _ _ _ _ _ _ _ _
      | exact ih3 _ _ _ _ _ _ _ _ _ _ _ _
      | exact ih4 _ _ _ _ _ _ _ _ _ _ _ _
      | exact ih5 _ _ _ _ _ _ _ _ _ _ _ _
      | exact ih6 _ _ _ _ _ _ _ _ _ _ _ _
      | exact pianolaref1_Clo.mono _ _
      | exact pianolaref1_Clz.mono _ _
      | exact pianolaref1_Mul.mono _ _ _ _
      | exact pianolaref4_shift.mono _ _ _ _
      | exact LeO.none _
      | refine LeO.ite ?_ ?_
      | refine LeO.bind ?_ (fun _ => ?_)
    · intro y0 y1 y2 y3 y4 y5 y6 y7 y8 y9 y10 y11
      unfold pianolaref4_Do.j1
      repeat' first
      | (with_reducible exact ih0 _ _ _ _ _ _ _ _ _ _ _ _)
      | (with_reducible exact ih1 _ _ _ _ _ _ _ _ _ _ _ _)
      | (with_reducible exact ih2 _ _ _ _ _ _ _ _ _ _ _ _)
      | (with_reducible exact ih3 _ _ _ _ _ _ _ _ _ _ _ _)
      | (with_reducible exact ih4 _ _ _ _ _ _ _ _ _ _ _ _)
      | (with_reducible exact ih5 _ _ _ _ _ _ _ _ _ _ _ _)
      | (with_reducible exact ih6 _ _ _ _ _ _ _ _ _ _ _ _)
      | (with_reducible exact pianolaref1_Clo.mono _ _)
      | (with_reducible exact pianolaref1_Clz.mono _ _)
      | (with_reducible exact pianolaref1_Mul.mono _ _ _ _)
      | (with_reducible exact pianolaref4_shift.mono _ _ _ _)
      | (with_reducible exact LeO.refl _)
      | (with_reducible exact LeO.none _)
      | (with_reducible refine LeO.ite ?_ ?_)
      | (with_reducible refine LeO.bind ?_ (fun _ => ?_))
      | exact ih0 _ _ _ _ _ _ _ _ _ _ _ _
      | exact ih1 _ _ _ _ _ _ _ _ _ _ _ _
      | exact ih2 _ _ _ _ _ _ _ _ _ _ _ _
      | exact ih3 _ _ _ _ _ _ _ _ _ _ _ _
      | exact ih4 _ _ _ _ _ _ _ _ _ _ _ _
      | exact ih5 _ _ _ _ _ _ _ _ _ _ _ _
      | exact ih6 _ _ _ _ _ _ _ _ _ _ _ _
      | exact pianolaref1_Clo.mono _ _
      | exact pianolaref1_Clz.mono _ _
      | exact pianolaref1_Mul.mono _ _ _ _
      | exact pianolaref4_shift.mono _ _ _ _
      | exact LeO.none _
      | refine LeO.ite ?_ ?_
      | refine LeO.bind ?_ (fun _ => ?_)
    · intro y0 y1 y2 y3 y4 y5 y6 y7 y8 y9 y10 y11
      unfold pianolaref4_Do.j2
      repeat' first
      | (with_reducible exact ih0 _ _ _ _ _ _ _ _ _ _ _ _)
      | (with_reducible exact ih1 _ _ _ _ _ _ _ _ _ _ _ _)
      | (with_reducible exact ih2 _ _ _ _ _ _ _ _ _ _ _ _)
      | (with_reducible exact ih3 _ _ _ _ _ _ _ _ _ _ _ _)
      | (with_reducible exact ih4 _ _ _ _ _ _ _ _ _ _ _ _)
      | (with_reducible exact ih5 _ _ _ _ _ _ _ _ _ _ _ _)
      | (with_reducible exact ih6 _ _ _ _ _ _ _ _ _ _ _ _)
      | (with_reducible exact pianolaref1_Clo.mono _ _)
      | (with_reducible exact pianolaref1_Clz.mono _ _)
      | (with_reducible exact pianolaref1_Mul.mono _ _ _ _)
      | (with_reducible exact pianolaref4_shift.mono _ _ _ _)
      | (with_reducible exact LeO.refl _)
      | (with_reducible exact LeO.none _)
      | (with_reducible refine LeO.ite ?_ ?_)
      | (with_reducible refine LeO.bind ?_ (fun _ => ?_))
      | exact ih0 _ _ _ _ _ _ _ _ _ _ _ _
      | exact ih1 _ _ _ _ _ _ _ _ _ _ _ _
      | exact ih2 _ _ _ _ _ _ _ _ _ _ _ _
      | exact ih3 _ _ _ _ _ _ _ _ _ _ _ _
      | exact ih4 _ _ _ _ _ _ _ _ _ _ _ _
      | exact ih5 _ _ _ _ _ _ _ _ _ _ _ _
      | exact ih6 _ _ _ _ _ _ _ _ _ _ _ _
      | exact pianolaref1_Clo.mono _ _
      | exact pianolaref1_Clz.mono _ _
      | exact pianolaref1_Mul.mono _ _ _ _
      | exact pianolaref4_shift.mono _ _ _ _
      | exact LeO.none _
      | refine LeO.ite ?_ ?_
      | refine LeO.bind ?_ (fun _ => ?_)
    · intro y0 y1 y2 y3 y4 y5 y6 y7 y8 y9 y10 y11
      unfold pianolaref4_Do.j3
      repeat' first
      | (with_reducible exact ih0 _ _ _ _ _ _ _ _ _ _ _ _)
      | (with_reducible exact ih1 _ _ _ _ _ _ _ _ _ _ _ _)
      | (with_reducible exact ih2 _ _ _ _ _ _ _ _ _ _ _ _)
      | (with_reducible exact ih3 _ _ _ _ _ _ _ _ _ _ _ _)
      | (with_reducible exact ih4 _ _ _ _ _ _ _ _ _ _ _ _)
      | (with_reducible exact ih5 _ _ _ _ _ _ _ _ _ _ _ _)
      | (with_reducible exact ih6 _ _ _ _ _ _ _ _ _ _ _ _)
      | (with_reducible exact pianolaref1_Clo.mono _ _)
      | (with_reducible exact pianolaref1_Clz.mono _ _)
      | (with_reducible exact pianolaref1_Mul.mono _ _ _ _)
      | (with_reducible exact pianolaref4_shift.mono _ _ _ _)
      | (with_reducible exact LeO.refl _)
      | (with_reducible exact LeO.none _)
      | (with_reducible refine LeO.ite ?_ ?_)
      | (with_reducible refine LeO.bind ?_ (fun _ => ?_))
      | exact ih0 _ _ _ _ _ _ _ _ _ _ _ _
      | exact ih1 _ _ _ _ _ _ _ _ _ _ _ _
      | exact ih2 _ _ _ _ _ _ _ _ _ _ _ _
      | exact ih3 _ _ _ _ _ _ _ _ _ _ _ _
      | exact ih4 _ _ _ _ _ _ _ _ _ _ _ _
      | exact ih5 _ _ _ _ _ _ _ _ _ _ _ _
      | exact ih6 _ _ _ _ _ _ _ _ _ _ _ _
      | exact pianolaref1_Clo.mono _ _
      | exact pianolaref1_Clz.mono _ _
      | exact pianolaref1_Mul.mono _ _ _ _
      | exact pianolaref4_shift.mono _ _ _ _
      | exact LeO.none _
      | refine LeO.ite ?_ ?_
      | refine LeO.bind ?_ (fun _ => ?_)
    · intro y0 y1 y2 y3 y4 y5 y6 y7 y8 y9 y10 y11
      unfold pianolaref4_Do.j4
      repeat' first
      | (with_reducible exact ih0 _ _ _ _ _ _ _ _ _ _ _ _)
      | (with_reducible exact ih1 _ _ _ _ _ _ _ _ _ _ _ _)
      | (with_reducible exact ih2 _ _ _ _ _ _ _ _ _ _ _ _)
      | (with_reducible exact ih3 _ _ _ _ _ _ _ _ _ _ _ _)
      | (with_reducible exact ih4 _ _ _ _ _ _ _ _ _ _ _ _)
      | (with_reducible exact ih5 _ _ _ _ _ _ _ _ _ _ _ _)
      | (with_reducible exact ih6 _ _ _ _ _ _ _ _ _ _ _ _)
      | (with_reducible exact pianolaref1_Clo.mono _ _)
      | (with_reducible exact pianolaref1_Clz.mono _ _)
      | (with_reducible exact pianolaref1_Mul.mono _ _ _ _)
      | (with_reducible exact pianolaref4_shift.mono _ _ _ _)
      | (with_reducible exact LeO.refl _)
      | (with_reducible exact LeO.none _)
      | (with_reducible refine LeO.ite ?_ ?_)
      | (with_reducible refine LeO.bind ?_ (fun _ => ?_))
      | exact ih0 _ _ _ _ _ _ _ _ _ _ _ _
      | exact ih1 _ _ _ _ _ _ _ _ _ _ _ _
      | exact ih2 _ _ _ _ _ _ _ _ _ _ _ _
      | exact ih3 _ _ _ _ _ _ _ _ _ _ _ _
      | exact ih4 _ _ _ _ _ _ _ _ _ _ _ _
      | exact ih5 _ _ _ _ _ _ _ _ _ _ _ _
      | exact ih6 _ _ _ _ _ _ _ _ _ _ _ _
      | exact pianolaref1_Clo.mono _ _
      | exact pianolaref1_Clz.mono _ _
      | exact pianolaref1_Mul.mono _ _ _ _
      | exact pianolaref4_shift.mono _ _ _ _
      | exact LeO.none _
      | refine LeO.ite ?_ ?_
      | refine LeO.bind ?_ (fun _ => ?_)
    · intro y0 y1 y2 y3 y4 y5 y6 y7 y8 y9 y10 y11
      unfold pianolaref4_Do.j5
      repeat' first
      | (with_reducible exact ih0 _ _ _ _ _ _ _ _ _ _ _ _)
      | (with_reducible exact ih1 _ _ _ _ _ _ _ _ _ _ _ _)
      | (with_reducible exact ih2 _ _ _ _ _ _ _ _ _ _ _ _)
      | (with_reducible exact ih3 _ _ _ _ _ _ _ _ _ _ _ _)
      | (with_reducible exact ih4 _ _ _ _ _ _ _ _ _ _ _ _)
      | (with_reducible exact ih5 _ _ _ _ _ _ _ _ _ _ _ _)
      | (with_reducible exact ih6 _ _ _ _ _ _ _ _ _ _ _ _)
      | (with_reducible exact pianolaref1_Clo.mono _ _)
      | (with_reducible exact pianolaref1_Clz.mono _ _)
      | (with_reducible exact pianolaref1_Mul.mono _ _ _ _)
      | (with_reducible exact pianolaref4_shift.mono _ _ _ _)
      | (with_reducible exact LeO.refl _)
      | (with_reducible exact LeO.none _)
      | (with_reducible refine LeO.ite ?_ ?_)
      | (with_reducible refine LeO.bind ?_ (fun _ => ?_))
      | exact ih0 _ _ _ _ _ _ _ _ _ _ _ _
      | exact ih1 _ _ _ _ _ _ _ _ _ _ _ _
      | exact ih2 _ _ _ _ _ _ _ _ _ _ _ _
      | exact ih3 _ _ _ _ _ _ _ _ _ _ _ _
      | exact ih4 _ _ _ _ _ _ _ _ _ _ _ _
      | exact ih5 _ _ _ _ _ _ _ _ _ _ _ _
      | exact ih6 _ _ _ _ _ _ _ _ _ _ _ _
      | exact pianolaref1_Clo.mono _ _
      | exact pianolaref1_Clz.mono _ _
      | exact pianolaref1_Mul.mono _ _ _ _
      | exact pianolaref4_shift.mono _ _ _ _
      | exact LeO.none _
      | refine LeO.ite ?_ ?_
      | refine LeO.bind ?_ (fun _ => ?_)
    · intro y0 y1 y2 y3 y4 y5 y6 y7 y8 y9 y10 y11
      unfold pianolaref4_Do.j6
      repeat' first
      | (with_reducible exact ih0 _ _ _ _ _ _ _ _ _ _ _ _)
      | (with_reducible exact ih1 _ _ _ _ _ _ _ _ _ _ _ _)
      | (with_reducible exact ih2 _ _ _ _ _ _ _ _ _ _ _ _)
      | (with_reducible exact ih3 _ _ _ _ _ _ _ _ _ _ _ _)
      | (with_reducible exact ih4 _ _ _ _ _ _ _ _ _ _ _ _)
      | (with_reducible exact ih5 _ _ _ _ _ _ _ _ _ _ _ _)
      | (with_reducible exact ih6 _ _ _ _ _ _ _ _ _ _ _ _)
      | (with_reducible exact pianolaref1_Clo.mono _ _)
      | (with_reducible exact pianolaref1_Clz.mono _ _)
      | (with_reducible exact pianolaref1_Mul.mono _ _ _ _)
      | (with_reducible exact pianolaref4_shift.mono _ _ _ _)
      | (with_reducible exact LeO.refl _)
      | (with_reducible exact LeO.none _)
      | (with_reducible refine LeO.ite ?_ ?_)
      | (with_reducible refine LeO.bind ?_ (fun _ => ?_))
      | exact ih0 _ _ _ _ _ _ _ _ _ _ _ _
      | exact ih1 _ _ _ _ _ _ _ _ _ _ _ _
      | exact ih2 _ _ _ _ _ _ _ _ _ _ _ _
      | exact ih3 _ _ _ _ _ _ _ _ _ _ _ _
      | exact ih4 _ _ _ _ _ _ _ _ _ _ _ _
      | exact ih5 _ _ _ _ _ _ _ _ _ _ _ _
      | exact ih6 _ _ _ _ _ _ _ _ _ _ _ _
      | exact pianolaref1_Clo.mono _ _
      | exact pianolaref1_Clz.mono _ _
      | exact pianolaref1_Mul.mono _ _ _ _
      | exact pianolaref4_shift.mono _ _ _ _
      | exact LeO.none _
      | refine LeO.ite ?_ ?_
      | refine LeO.bind ?_ (fun _ => ?_)
theorem pianolaref4_Do.mono : ∀ a0 a1 a2 a3 a4 a5 a6 a7 k, LeO (pianolaref4_Do.f k a0 a1 a2 a3 a4 a5 a6 a7) (pianolaref4_Do.f (k + 1) a0 a1 a2 a3 a4 a5 a6 a7) := by
  intro a0 a1 a2 a3 a4 a5 a6 a7 k
  obtain ⟨ih0, ih1, ih2, ih3, ih4, ih5, ih6⟩ := pianolaref4_Do.mono_l k
  unfold pianolaref4_Do.f
  repeat' first
      | (with_reducible exact ih0 _ _ _ _ _ _ _ _ _ _ _ _)
      | (with_reducible exact ih1 _ _ _ _ _ _ _ _ _ _ _ _)
      | (with_reducible exact ih2 _ _ _ _ _ _ _ _ _ _ _ _)
      | (with_reducible exact ih3 _ _ _ _ _ _ _ _ _ _ _ _)
      | (with_reducible exact ih4 _ _ _ _ _ _ _ _ _ _ _ _)
      | (with_reducible exact ih5 _ _ _ _ _ _ _ _ _ _ _ _)
      | (with_reducible exact ih6 _ _ _ _ _ _ _ _ _ _ _ _)
      | (with_reducible exact pianolaref1_Clo.mono _ _)
      | (with_reducible exact pianolaref1_Clz.mono _ _)
      | (with_reducible exact pianolaref1_Mul.mono _ _ _ _)
      | (with_reducible exact pianolaref4_shift.mono _ _ _ _)
      | (with_reducible exact LeO.refl _)
      | (with_reducible exact LeO.none _)
      | (with_reducible refine LeO.ite ?_ ?_)
      | (with_reducible refine LeO.bind ?_ (fun _ => ?_))
      | exact ih0 _ _ _ _ _ _ _ _ _ _ _ _
      | exact ih1 _ _ _ _ _ _ _ _ _ _ _ _
      | exact ih2 _ _ _ _ _ _ _ _ _ _ _ _
      | exact ih3 _ _ _ _ _ _ _ _ _ _ _ _
      | exact ih4 _ _ _ _ _ _ _ _ _ _ _ _
      | exact ih5 _ _ _ _ _ _ _ _ _ _ _ _
      | exact ih6 _ _ _ _ _ _ _ _ _ _ _ _
      | exact pianolaref1_Clo.mono _ _
      | exact pianolaref1_Clz.mono _ _
      | exact pianolaref1_Mul.mono _ _ _ _
      | exact pianolaref4_shift.mono _ _ _ _
      | exact LeO.none _
      | refine LeO.ite ?_ ?_
      | refine LeO.bind ?_ (fun _ => ?_)
set_option maxHeartbeats 8000000 in
set_option maxRecDepth 100000 in
theorem pianolaref4_Do.calls (k : Nat) (a0_0 : Int) (a0_1 : Int) (a0_2 : Int) (a0_3 : Int) (a0_4 : Int) (a0_5 : Int) (a1 : Int) (a2 : Int) (r1 : Int) (r2 : Bool) (w : World) (h : pianolaref4_Do.f k a0_0 a0_1 a0_2 a0_3 a0_4 a0_5 a1 a2 = some (r1, r2)) :
    Calls Try.prog 21 #[.agg #[.int .i64 a0_0, .int .i64 a0_1, .int .i64 a0_2, .int .i64 a0_3, .int .i64 a0_4, .int .u32 a0_5], .int .u32 a1, .int .u32 a2] w fun e w' => e = .returned (.tuple #[.int .u32 r1, .bool r2]) ∧ Below w.heap.size w w' := by
  have hu26 := Try.underlying26
  have HB := Aside0.mk (Below.refl w.heap.size w)
  have H : ((pianolaref1_Sign.f a0_5 16).bind fun t138 => (if a0_0 = 1 then (pianolaref4_Do.j0 k a1 a2 t138 (Go.bits .and .u32 a0_5 65535) a0_0 (a0_0 == 1) a0_0 a0_1 a0_2 a0_3 a0_4 a0_5) else (if a0_0 = 2 then (pianolaref4_Do.j0 k a1 a2 t138 (Go.bits .and .u32 a0_5 65535) a0_0 (a0_0 == 2) a0_0 a0_1 a0_2 a0_3 a0_4 a0_5) else (pianolaref4_Do.j0 k a1 a2 t138 (Go.bits .and .u32 a0_5 65535) a0_0 (a0_0 == 3) a0_0 a0_1 a0_2 a0_3 a0_4 a0_5)))) = some (r1, r2) := h
  clear h
  replace H := Option.bind_eq_some_iff.mp H
  obtain ⟨t138, A40, H⟩ := H
  replace H : (if a0_0 = 1 then (pianolaref4_Do.j0 k a1 a2 t138 (Go.bits .and .u32 a0_5 65535) a0_0 (a0_0 == 1) a0_0 a0_1 a0_2 a0_3 a0_4 a0_5) else (if a0_0 = 2 then (pianolaref4_Do.j0 k a1 a2 t138 (Go.bits .and .u32 a0_5 65535) a0_0 (a0_0 == 2) a0_0 a0_1 a0_2 a0_3 a0_4 a0_5) else (pianolaref4_Do.j0 k a1 a2 t138 (Go.bits .and .u32 a0_5 65535) a0_0 (a0_0 == 3) a0_0 a0_1 a0_2 a0_3 a0_4 a0_5))) = some (r1, r2) := H
  have A4 := Aside0.mk A40
  clear A40
  have HC5 := Aside0.mk H
  clear H
  go_enter Try.func21, Try.ntmps21
  go_upto_if 20 with (first | ((with_reducible refine gate_dst (N := 3) rfl ?_); refine box_event ?hg (N := 3) ?hd (cs := #[.int .i64 a0_0, .int .i64 a0_1, .int .i64 a0_2, .int .i64 a0_3, .int .i64 a0_4, .int .u32 a0_5]) (t := 26) ?hr ?_; (case hd => rfl); (case hg => rfl); (case hr => first | (go_simp; done) | (go_simp; rfl)); intro gb137 hg w6 hbox hb; have n0_ := Aside0.mk (below_step (by repeat (first | (with_reducible first | exact HB.out | apply below_alloc | apply pw_below_drewN | apply below_drew1) | exact HB.out)) hb); have n1_ := Aside0.mk (hbox); have n2_ := Aside0.mk ((by rw [hg]; exact (below_size (by repeat (first | (with_reducible first | exact HB.out | apply below_alloc | apply pw_below_drewN | apply below_drew1) | exact HB.out))) : w.heap.size ≤ gb137)); have n3_ := Aside0.mk ((by rw [hg]; exact (below_size (by repeat (first | (with_reducible first | exact HB.out | apply below_alloc | apply pw_below_drewN | apply below_drew1) | exact HB.out))) : w.heap.size ≤ gb137)); clear HB; have HB := n0_; have BK137 := n1_; have GW137 := n2_; have GE137 := n3_; clear n0_ n1_ n2_ n3_; clear hb hbox hg; have hcz7_0 : w6.cell? ⟨gb137, 0, none⟩ = some (.int .i64 a0_0) := (blk_cell BK137.out 0).trans rfl; have hcz7_1 : w6.cell? ⟨gb137, 1, none⟩ = some (.int .i64 a0_1) := (blk_cell BK137.out 1).trans rfl; have hcz7_2 : w6.cell? ⟨gb137, 2, none⟩ = some (.int .i64 a0_2) := (blk_cell BK137.out 2).trans rfl; have hcz7_3 : w6.cell? ⟨gb137, 3, none⟩ = some (.int .i64 a0_3) := (blk_cell BK137.out 3).trans rfl; have hcz7_4 : w6.cell? ⟨gb137, 4, none⟩ = some (.int .i64 a0_4) := (blk_cell BK137.out 4).trans rfl; have hcz7_5 : w6.cell? ⟨gb137, 5, none⟩ = some (.int .u32 a0_5) := (blk_cell BK137.out 5).trans rfl; have hfz7_0 := blk_frozen BK137.out 0; have hfz7_1 := blk_frozen BK137.out 1; have hfz7_2 := blk_frozen BK137.out 2; have hfz7_3 := blk_frozen BK137.out 3; have hfz7_4 := blk_frozen BK137.out 4; have hfz7_5 := blk_frozen BK137.out 5) | ((with_reducible refine gate_callee (f := 35) rfl ?_); refine goesL_ (some 14) rfl rfl Try.func35 (by kernel_rfl) rfl #[.int .u32 a0_5, .int .i64 16] rfl (by (try simp only [List.map_toArray, List.map_cons, List.map_nil]); first | done | rfl | (simp only [List.length_drop, List.length_take]; rfl)) ?_; (with_reducible refine (pianolaref1_Sign.calls a0_5 16 t138 _ A4.out).mono ?_); rintro e w' ⟨rfl, ⟨nd, rfl⟩⟩; refine ⟨_, rfl, ?_⟩))
  (try simp only [Act.put, List.setIfInBounds_toArray, List.set_cons_zero, List.set_cons_succ])
  go_cut [20] (fun v20 wc => ∃ (kq : Nat) (x20_4 : Bool), v20 = .bool x20_4 ∧ Aside0 (pianolaref4_Do.j0 kq a1 a2 t138 (Go.bits .and .u32 a0_5 65535) a0_0 x20_4 a0_0 a0_1 a0_2 a0_3 a0_4 a0_5 = some (r1, r2)) ∧ Aside0 (kq ≤ k) ∧ Aside0 (wc.heap[gb137]? = some (.cells #[.int .i64 a0_0, .int .i64 a0_1, .int .i64 a0_2, .int .i64 a0_3, .int .i64 a0_4, .int .u32 a0_5] 26 (0, 0))) ∧ Aside0 (Below w.heap.size w wc))
  case first =>
    have H := HC5.out
    clear HC5
    by_cases c8 : a0_0 = 1
    · rw [if_pos c8] at H
      have c8b0 : (a0_0 == 1) = true := beq_iff_eq.mpr c8
      have c8b1 : (a0_0 != 1) = false := bne_eq_false_iff_eq.mpr c8
      clear c8
      (first | rw [c8b0] | (simp only [i64_w, i32_w]; rw [c8b0]) | skip)
      have H' := Aside0.mk H
      clear H
      go_wp2
      go_meet
      case rel => exact ⟨_, ((a0_0 == 1)), (by first | rfl | (simp; done) | (simp [*]; done) | (simp; omega)), H', ⟨by first | omega | exact Nat.le_refl _⟩, ⟨by (with_reducible repeat (first | refine blk_drewN ?_ _ | refine blk_drew ?_ | refine blk_alloc ?_ _)); exact BK137.out⟩, ⟨by repeat (first | (with_reducible first | exact HB.out | apply below_alloc | apply pw_below_drewN | apply below_drew1 | refine below_set ?_ GE137.out) | exact HB.out)⟩⟩
    · rw [if_neg c8] at H
      have c8b0 : (a0_0 == 1) = false := beq_eq_false_iff_ne.mpr c8
      have c8b1 : (a0_0 != 1) = true := bne_iff_ne.mpr c8
      (first | rw [c8b0] | (simp only [i64_w, i32_w]; rw [c8b0]) | skip)
      by_cases c9 : a0_0 = 2
      · rw [if_pos c9] at H
        have c9b0 : (a0_0 == 2) = true := beq_iff_eq.mpr c9
        have c9b1 : (a0_0 != 2) = false := bne_eq_false_iff_eq.mpr c9
        clear c9
        have H' := Aside0.mk H
        clear H
        go_wp2
        go_meet
        case rel => exact ⟨_, ((a0_0 == 2)), (by first | rfl | (simp; done) | (simp [*]; done) | (simp; omega)), H', ⟨by first | omega | exact Nat.le_refl _⟩, ⟨by (with_reducible repeat (first | refine blk_drewN ?_ _ | refine blk_drew ?_ | refine blk_alloc ?_ _)); exact BK137.out⟩, ⟨by repeat (first | (with_reducible first | exact HB.out | apply below_alloc | apply pw_below_drewN | apply below_drew1 | refine below_set ?_ GE137.out) | exact HB.out)⟩⟩
      · rw [if_neg c9] at H
        have c9b0 : (a0_0 == 2) = false := beq_eq_false_iff_ne.mpr c9
        have c9b1 : (a0_0 != 2) = true := bne_iff_ne.mpr c9
        have H' := Aside0.mk H
        clear H
        go_wp2
        go_meet
        case rel => exact ⟨_, ((a0_0 == 3)), (by first | rfl | (simp; done) | (simp [*]; done) | (simp; omega)), H', ⟨by first | omega | exact Nat.le_refl _⟩, ⟨by (with_reducible repeat (first | refine blk_drewN ?_ _ | refine blk_drew ?_ | refine blk_alloc ?_ _)); exact BK137.out⟩, ⟨by repeat (first | (with_reducible first | exact HB.out | apply below_alloc | apply pw_below_drewN | apply below_drew1 | refine below_set ?_ GE137.out) | exact HB.out)⟩⟩
  case rest =>
    clear HC5
    try clear c2
    try clear p2
    try clear c3
    try clear c8
    try clear c8b0
    try clear c8b1
    try clear c9
    try clear c9b0
    try clear c9b1
    try clear hcz7_0
    try clear hcz7_1
    try clear hcz7_2
    try clear hcz7_3
    try clear hcz7_4
    try clear hcz7_5
    try clear hfz7_0
    try clear hfz7_1
    try clear hfz7_2
    try clear hfz7_3
    try clear hfz7_4
    try clear hfz7_5
    obtain ⟨kq, x20_4, rfl, HA, HJ4, BK137, HB⟩ := hcut
    cases kq with
    | zero => exact absurd HA.out (by simp [pianolaref4_Do.j0])
    | succ kj4 =>
      have H := HA.out
      clear HA
      simp only [pianolaref4_Do.j0] at H
      by_cases c10 : x20_4 = true
      · subst c10
        have H1 : ((pianolaref4_shift.f kj4 (wrap64 (a0_0 - 1)) a2 a0_4).bind fun t139 => (some (t139, true))) = some (r1, r2) := by rw [if_pos rfl] at H; exact H
        clear H
        have H := H1
        clear H1
        replace H := Option.bind_eq_some_iff.mp H
        obtain ⟨t139, A110, H⟩ := H
        replace H : (some (t139, true)) = some (r1, r2) := H
        have A11 := Aside0.mk A110
        clear A110
        simp only [Option.some.injEq, Prod.mk.injEq] at H
        obtain ⟨rfl, rfl⟩ := H
        have hcz12_0 : wc.cell? ⟨gb137, 0, none⟩ = some (.int .i64 a0_0) := (blk_cell BK137.out 0).trans rfl
        have hcz12_1 : wc.cell? ⟨gb137, 1, none⟩ = some (.int .i64 a0_1) := (blk_cell BK137.out 1).trans rfl
        have hcz12_2 : wc.cell? ⟨gb137, 2, none⟩ = some (.int .i64 a0_2) := (blk_cell BK137.out 2).trans rfl
        have hcz12_3 : wc.cell? ⟨gb137, 3, none⟩ = some (.int .i64 a0_3) := (blk_cell BK137.out 3).trans rfl
        have hcz12_4 : wc.cell? ⟨gb137, 4, none⟩ = some (.int .i64 a0_4) := (blk_cell BK137.out 4).trans rfl
        have hcz12_5 : wc.cell? ⟨gb137, 5, none⟩ = some (.int .u32 a0_5) := (blk_cell BK137.out 5).trans rfl
        have hfz12_0 := blk_frozen BK137.out 0
        have hfz12_1 := blk_frozen BK137.out 1
        have hfz12_2 := blk_frozen BK137.out 2
        have hfz12_3 := blk_frozen BK137.out 3
        have hfz12_4 := blk_frozen BK137.out 4
        have hfz12_5 := blk_frozen BK137.out 5
        go_wp2_with (first | ((with_reducible refine gate_callee (f := 36) rfl ?_); refine goesL_ (some 30) rfl rfl Try.func36 (by kernel_rfl) rfl #[.int .i64 (wrap64 (a0_0 - 1)), .int .u32 a2, .int .i64 a0_4] rfl (by (try simp only [List.map_toArray, List.map_cons, List.map_nil]); first | done | rfl | (simp only [List.length_drop, List.length_take]; rfl)) ?_; (with_reducible refine (pianolaref4_shift.calls kj4 (wrap64 (a0_0 - 1)) a2 a0_4 t139 _ A11.out).mono ?_); rintro e w' ⟨rfl, ⟨nd, rfl⟩⟩; refine ⟨_, rfl, ?_⟩) | (go_at_call 36; (with_reducible refine (pianolaref4_shift.calls kj4 (wrap64 (a0_0 - 1)) a2 a0_4 t139 _ A11.out).mono ?_); rintro e w' ⟨rfl, ⟨nd, rfl⟩⟩))
        go_ret2
        exact ⟨by first | rfl | (simp [errW_none, errW_some] <;> rfl) | (simp [*, errW_none, errW_some] <;> rfl), by repeat (first | (with_reducible first | exact HB.out | apply below_alloc | apply pw_below_drewN | apply below_drew1 | refine below_set ?_ GE137.out) | exact HB.out)⟩
      · replace c10 := Bool.eq_false_iff.mpr c10
        subst c10
        have H1 : (if a0_0 = 4 then (pianolaref4_Do.j1 kj4 a1 a2 t138 (Go.bits .and .u32 a0_5 65535) a0_0 (a0_0 == 4) a0_0 a0_1 a0_2 a0_3 a0_4 a0_5) else (if a0_0 = 5 then (pianolaref4_Do.j1 kj4 a1 a2 t138 (Go.bits .and .u32 a0_5 65535) a0_0 (a0_0 == 5) a0_0 a0_1 a0_2 a0_3 a0_4 a0_5) else (pianolaref4_Do.j1 kj4 a1 a2 t138 (Go.bits .and .u32 a0_5 65535) a0_0 (a0_0 == 6) a0_0 a0_1 a0_2 a0_3 a0_4 a0_5))) = some (r1, r2) := by rw [if_neg (show ¬ (false = true) by decide)] at H; exact H
        clear H
        have H := H1
        clear H1
        have HC13 := Aside0.mk H
        clear H
        go_upto_if 31 with (fail)
        go_cut [31] (fun v31 wc => ∃ (kq : Nat) (x31_12 : Bool), v31 = .bool x31_12 ∧ Aside0 (pianolaref4_Do.j1 kq a1 a2 t138 (Go.bits .and .u32 a0_5 65535) a0_0 x31_12 a0_0 a0_1 a0_2 a0_3 a0_4 a0_5 = some (r1, r2)) ∧ Aside0 (kq ≤ kj4) ∧ Aside0 (wc.heap[gb137]? = some (.cells #[.int .i64 a0_0, .int .i64 a0_1, .int .i64 a0_2, .int .i64 a0_3, .int .i64 a0_4, .int .u32 a0_5] 26 (0, 0))) ∧ Aside0 (Below w.heap.size w wc))
        case first =>
          have H := HC13.out
          clear HC13
          by_cases c14 : a0_0 = 4
          · rw [if_pos c14] at H
            have c14b0 : (a0_0 == 4) = true := beq_iff_eq.mpr c14
            have c14b1 : (a0_0 != 4) = false := bne_eq_false_iff_eq.mpr c14
            clear c14
            (first | rw [c14b0] | (simp only [i64_w, i32_w]; rw [c14b0]) | skip)
            have H' := Aside0.mk H
            clear H
            go_wp2
            go_meet
            case rel => exact ⟨_, ((a0_0 == 4)), (by first | rfl | (simp; done) | (simp [*]; done) | (simp; omega)), H', ⟨by have := HJ4.out; first | omega | exact Nat.le_refl _⟩, ⟨by (with_reducible repeat (first | refine blk_drewN ?_ _ | refine blk_drew ?_ | refine blk_alloc ?_ _)); exact BK137.out⟩, ⟨by repeat (first | (with_reducible first | exact HB.out | apply below_alloc | apply pw_below_drewN | apply below_drew1 | refine below_set ?_ GE137.out) | exact HB.out)⟩⟩
          · rw [if_neg c14] at H
            have c14b0 : (a0_0 == 4) = false := beq_eq_false_iff_ne.mpr c14
            have c14b1 : (a0_0 != 4) = true := bne_iff_ne.mpr c14
            (first | rw [c14b0] | (simp only [i64_w, i32_w]; rw [c14b0]) | skip)
            by_cases c15 : a0_0 = 5
            · rw [if_pos c15] at H
              have c15b0 : (a0_0 == 5) = true := beq_iff_eq.mpr c15
              have c15b1 : (a0_0 != 5) = false := bne_eq_false_iff_eq.mpr c15
              clear c15
              have H' := Aside0.mk H
              clear H
              go_wp2
              go_meet
              case rel => exact ⟨_, ((a0_0 == 5)), (by first | rfl | (simp; done) | (simp [*]; done) | (simp; omega)), H', ⟨by have := HJ4.out; first | omega | exact Nat.le_refl _⟩, ⟨by (with_reducible repeat (first | refine blk_drewN ?_ _ | refine blk_drew ?_ | refine blk_alloc ?_ _)); exact BK137.out⟩, ⟨by repeat (first | (with_reducible first | exact HB.out | apply below_alloc | apply pw_below_drewN | apply below_drew1 | refine below_set ?_ GE137.out) | exact HB.out)⟩⟩
            · rw [if_neg c15] at H
              have c15b0 : (a0_0 == 5) = false := beq_eq_false_iff_ne.mpr c15
              have c15b1 : (a0_0 != 5) = true := bne_iff_ne.mpr c15
              have H' := Aside0.mk H
              clear H
              go_wp2
              go_meet
              case rel => exact ⟨_, ((a0_0 == 6)), (by first | rfl | (simp; done) | (simp [*]; done) | (simp; omega)), H', ⟨by have := HJ4.out; first | omega | exact Nat.le_refl _⟩, ⟨by (with_reducible repeat (first | refine blk_drewN ?_ _ | refine blk_drew ?_ | refine blk_alloc ?_ _)); exact BK137.out⟩, ⟨by repeat (first | (with_reducible first | exact HB.out | apply below_alloc | apply pw_below_drewN | apply below_drew1 | refine below_set ?_ GE137.out) | exact HB.out)⟩⟩
        case rest =>
          clear HC13
          try clear c1
          try clear c2
          try clear p2
          try clear c3
          try clear p6
          try clear c8
          try clear c8b0
          try clear c8b1
          try clear c9
          try clear c9b0
          try clear c9b1
          try clear c10
          try clear c14
          try clear c14b0
          try clear c14b1
          try clear c15
          try clear c15b0
          try clear c15b1
          try clear hcz12_0
          try clear hcz12_1
          try clear hcz12_2
          try clear hcz12_3
          try clear hcz12_4
          try clear hcz12_5
          try clear hcz7_0
          try clear hcz7_1
          try clear hcz7_2
          try clear hcz7_3
          try clear hcz7_4
          try clear hcz7_5
          try clear hfz12_0
          try clear hfz12_1
          try clear hfz12_2
          try clear hfz12_3
          try clear hfz12_4
          try clear hfz12_5
          try clear hfz7_0
          try clear hfz7_1
          try clear hfz7_2
          try clear hfz7_3
          try clear hfz7_4
          try clear hfz7_5
          try clear p2
          obtain ⟨kq, x31_12, rfl, HA, HJ12, BK137, HB⟩ := hcut
          cases kq with
          | zero => exact absurd HA.out (by simp [pianolaref4_Do.j1])
          | succ kj12 =>
            have H := HA.out
            clear HA
            simp only [pianolaref4_Do.j1] at H
            by_cases c16 : x31_12 = true
            · subst c16
              have H1 : ((pianolaref4_shift.f kj12 (wrap64 (a0_0 - 4)) a2 (wrap64 (Int.tmod a1 32))).bind fun t140 => (some (t140, true))) = some (r1, r2) := by rw [if_pos rfl] at H; exact H
              clear H
              have H := H1
              clear H1
              replace H := Option.bind_eq_some_iff.mp H
              obtain ⟨t140, A170, H⟩ := H
              replace H : (some (t140, true)) = some (r1, r2) := H
              have A17 := Aside0.mk A170
              clear A170
              simp only [Option.some.injEq, Prod.mk.injEq] at H
              obtain ⟨rfl, rfl⟩ := H
              have hcz18_0 : wc.cell? ⟨gb137, 0, none⟩ = some (.int .i64 a0_0) := (blk_cell BK137.out 0).trans rfl
              have hcz18_1 : wc.cell? ⟨gb137, 1, none⟩ = some (.int .i64 a0_1) := (blk_cell BK137.out 1).trans rfl
              have hcz18_2 : wc.cell? ⟨gb137, 2, none⟩ = some (.int .i64 a0_2) := (blk_cell BK137.out 2).trans rfl
              have hcz18_3 : wc.cell? ⟨gb137, 3, none⟩ = some (.int .i64 a0_3) := (blk_cell BK137.out 3).trans rfl
              have hcz18_4 : wc.cell? ⟨gb137, 4, none⟩ = some (.int .i64 a0_4) := (blk_cell BK137.out 4).trans rfl
              have hcz18_5 : wc.cell? ⟨gb137, 5, none⟩ = some (.int .u32 a0_5) := (blk_cell BK137.out 5).trans rfl
              have hfz18_0 := blk_frozen BK137.out 0
              have hfz18_1 := blk_frozen BK137.out 1
              have hfz18_2 := blk_frozen BK137.out 2
              have hfz18_3 := blk_frozen BK137.out 3
              have hfz18_4 := blk_frozen BK137.out 4
              have hfz18_5 := blk_frozen BK137.out 5
              go_wp2_with (first | ((with_reducible refine gate_callee (f := 36) rfl ?_); refine goesL_ (some 42) rfl rfl Try.func36 (by kernel_rfl) rfl #[.int .i64 (wrap64 (a0_0 - 4)), .int .u32 a2, .int .i64 (wrap64 (Int.tmod a1 32))] rfl (by (try simp only [List.map_toArray, List.map_cons, List.map_nil]); first | done | rfl | (simp only [List.length_drop, List.length_take]; rfl)) ?_; (with_reducible refine (pianolaref4_shift.calls kj12 (wrap64 (a0_0 - 4)) a2 (wrap64 (Int.tmod a1 32)) t140 _ A17.out).mono ?_); rintro e w' ⟨rfl, ⟨nd, rfl⟩⟩; refine ⟨_, rfl, ?_⟩) | (go_at_call 36; (with_reducible refine (pianolaref4_shift.calls kj12 (wrap64 (a0_0 - 4)) a2 (wrap64 (Int.tmod a1 32)) t140 _ A17.out).mono ?_); rintro e w' ⟨rfl, ⟨nd, rfl⟩⟩))
              go_ret2
              exact ⟨by first | rfl | (simp [errW_none, errW_some] <;> rfl) | (simp [*, errW_none, errW_some] <;> rfl), by repeat (first | (with_reducible first | exact HB.out | apply below_alloc | apply pw_below_drewN | apply below_drew1 | refine below_set ?_ GE137.out) | exact HB.out)⟩
            · replace c16 := Bool.eq_false_iff.mpr c16
              subst c16
              have H1 : (if a0_0 = 22 then (pianolaref4_Do.j2 kj12 a1 a2 t138 (Go.bits .and .u32 a0_5 65535) a0_0 (a0_0 == 22) a0_0 a0_1 a0_2 a0_3 a0_4 a0_5) else (pianolaref4_Do.j2 kj12 a1 a2 t138 (Go.bits .and .u32 a0_5 65535) a0_0 (a0_0 == 23) a0_0 a0_1 a0_2 a0_3 a0_4 a0_5)) = some (r1, r2) := by rw [if_neg (show ¬ (false = true) by decide)] at H; exact H
              clear H
              have H := H1
              clear H1
              have HC19 := Aside0.mk H
              clear H
              go_upto_if 43 with (fail)
              go_cut [43] (fun v43 wc => ∃ (kq : Nat) (x43_18 : Bool), v43 = .bool x43_18 ∧ Aside0 (pianolaref4_Do.j2 kq a1 a2 t138 (Go.bits .and .u32 a0_5 65535) a0_0 x43_18 a0_0 a0_1 a0_2 a0_3 a0_4 a0_5 = some (r1, r2)) ∧ Aside0 (kq ≤ kj12) ∧ Aside0 (wc.heap[gb137]? = some (.cells #[.int .i64 a0_0, .int .i64 a0_1, .int .i64 a0_2, .int .i64 a0_3, .int .i64 a0_4, .int .u32 a0_5] 26 (0, 0))) ∧ Aside0 (Below w.heap.size w wc))
              case first =>
                have H := HC19.out
                clear HC19
                by_cases c20 : a0_0 = 22
                · rw [if_pos c20] at H
                  have c20b0 : (a0_0 == 22) = true := beq_iff_eq.mpr c20
                  have c20b1 : (a0_0 != 22) = false := bne_eq_false_iff_eq.mpr c20
                  clear c20
                  (first | rw [c20b0] | (simp only [i64_w, i32_w]; rw [c20b0]) | skip)
                  have H' := Aside0.mk H
                  clear H
                  go_wp2
                  go_meet
                  case rel => exact ⟨_, ((a0_0 == 22)), (by first | rfl | (simp; done) | (simp [*]; done) | (simp; omega)), H', ⟨by have := HJ4.out; have := HJ12.out; first | omega | exact Nat.le_refl _⟩, ⟨by (with_reducible repeat (first | refine blk_drewN ?_ _ | refine blk_drew ?_ | refine blk_alloc ?_ _)); exact BK137.out⟩, ⟨by repeat (first | (with_reducible first | exact HB.out | apply below_alloc | apply pw_below_drewN | apply below_drew1 | refine below_set ?_ GE137.out) | exact HB.out)⟩⟩
                · rw [if_neg c20] at H
                  have c20b0 : (a0_0 == 22) = false := beq_eq_false_iff_ne.mpr c20
                  have c20b1 : (a0_0 != 22) = true := bne_iff_ne.mpr c20
                  (first | rw [c20b0] | (simp only [i64_w, i32_w]; rw [c20b0]) | skip)
                  have H' := Aside0.mk H
                  clear H
                  go_wp2
                  go_meet
                  case rel => exact ⟨_, ((a0_0 == 23)), (by first | rfl | (simp; done) | (simp [*]; done) | (simp; omega)), H', ⟨by have := HJ4.out; have := HJ12.out; first | omega | exact Nat.le_refl _⟩, ⟨by (with_reducible repeat (first | refine blk_drewN ?_ _ | refine blk_drew ?_ | refine blk_alloc ?_ _)); exact BK137.out⟩, ⟨by repeat (first | (with_reducible first | exact HB.out | apply below_alloc | apply pw_below_drewN | apply below_drew1 | refine below_set ?_ GE137.out) | exact HB.out)⟩⟩
              case rest =>
                clear HC19
                try clear c1
                try clear c2
                try clear p2
                try clear c3
                try clear p6
                try clear c8
                try clear c8b0
                try clear c8b1
                try clear c9
                try clear c9b0
                try clear c9b1
                try clear c10
                try clear c14
                try clear c14b0
                try clear c14b1
                try clear c15
                try clear c15b0
                try clear c15b1
                try clear c16
                try clear c20
                try clear c20b0
                try clear c20b1
                try clear hcz12_0
                try clear hcz12_1
                try clear hcz12_2
                try clear hcz12_3
                try clear hcz12_4
                try clear hcz12_5
                try clear hcz18_0
                try clear hcz18_1
                try clear hcz18_2
                try clear hcz18_3
                try clear hcz18_4
                try clear hcz18_5
                try clear hcz7_0
                try clear hcz7_1
                try clear hcz7_2
                try clear hcz7_3
                try clear hcz7_4
                try clear hcz7_5
                try clear hfz12_0
                try clear hfz12_1
                try clear hfz12_2
                try clear hfz12_3
                try clear hfz12_4
                try clear hfz12_5
                try clear hfz18_0
                try clear hfz18_1
                try clear hfz18_2
                try clear hfz18_3
                try clear hfz18_4
                try clear hfz18_5
                try clear hfz7_0
                try clear hfz7_1
                try clear hfz7_2
                try clear hfz7_3
                try clear hfz7_4
                try clear hfz7_5
                try clear p2
                try clear p6
                obtain ⟨kq, x43_18, rfl, HA, HJ18, BK137, HB⟩ := hcut
                cases kq with
                | zero => exact absurd HA.out (by simp [pianolaref4_Do.j2])
                | succ kj18 =>
                  have H := HA.out
                  clear HA
                  simp only [pianolaref4_Do.j2] at H
                  by_cases c21 : x43_18 = true
                  · subst c21
                    have H1 : (some ((a1 + a2) % 4294967296, true)) = some (r1, r2) := by rw [if_pos rfl] at H; exact H
                    clear H
                    have H := H1
                    clear H1
                    simp only [Option.some.injEq, Prod.mk.injEq] at H
                    obtain ⟨rfl, rfl⟩ := H
                    go_wp2
                    go_ret2
                    exact ⟨by first | rfl | (simp [errW_none, errW_some] <;> rfl) | (simp [*, errW_none, errW_some] <;> rfl), by repeat (first | (with_reducible first | exact HB.out | apply below_alloc | apply pw_below_drewN | apply below_drew1 | refine below_set ?_ GE137.out) | exact HB.out)⟩
                  · replace c21 := Bool.eq_false_iff.mpr c21
                    subst c21
                    have H1 : (if a0_0 = 24 then (pianolaref4_Do.j3 kj18 a1 a2 t138 (Go.bits .and .u32 a0_5 65535) a0_0 (a0_0 == 24) a0_0 a0_1 a0_2 a0_3 a0_4 a0_5) else (pianolaref4_Do.j3 kj18 a1 a2 t138 (Go.bits .and .u32 a0_5 65535) a0_0 (a0_0 == 25) a0_0 a0_1 a0_2 a0_3 a0_4 a0_5)) = some (r1, r2) := by rw [if_neg (show ¬ (false = true) by decide)] at H; exact H
                    clear H
                    have H := H1
                    clear H1
                    have HC22 := Aside0.mk H
                    clear H
                    go_upto_if 49 with (fail)
                    go_cut [49] (fun v49 wc => ∃ (kq : Nat) (x49_21 : Bool), v49 = .bool x49_21 ∧ Aside0 (pianolaref4_Do.j3 kq a1 a2 t138 (Go.bits .and .u32 a0_5 65535) a0_0 x49_21 a0_0 a0_1 a0_2 a0_3 a0_4 a0_5 = some (r1, r2)) ∧ Aside0 (kq ≤ kj18) ∧ Aside0 (wc.heap[gb137]? = some (.cells #[.int .i64 a0_0, .int .i64 a0_1, .int .i64 a0_2, .int .i64 a0_3, .int .i64 a0_4, .int .u32 a0_5] 26 (0, 0))) ∧ Aside0 (Below w.heap.size w wc))
                    case first =>
                      have H := HC22.out
                      clear HC22
                      by_cases c23 : a0_0 = 24
                      · rw [if_pos c23] at H
                        have c23b0 : (a0_0 == 24) = true := beq_iff_eq.mpr c23
                        have c23b1 : (a0_0 != 24) = false := bne_eq_false_iff_eq.mpr c23
                        clear c23
                        (first | rw [c23b0] | (simp only [i64_w, i32_w]; rw [c23b0]) | skip)
                        have H' := Aside0.mk H
                        clear H
                        go_wp2
                        go_meet
                        case rel => exact ⟨_, ((a0_0 == 24)), (by first | rfl | (simp; done) | (simp [*]; done) | (simp; omega)), H', ⟨by have := HJ4.out; have := HJ12.out; have := HJ18.out; first | omega | exact Nat.le_refl _⟩, ⟨by (with_reducible repeat (first | refine blk_drewN ?_ _ | refine blk_drew ?_ | refine blk_alloc ?_ _)); exact BK137.out⟩, ⟨by repeat (first | (with_reducible first | exact HB.out | apply below_alloc | apply pw_below_drewN | apply below_drew1 | refine below_set ?_ GE137.out) | exact HB.out)⟩⟩
                      · rw [if_neg c23] at H
                        have c23b0 : (a0_0 == 24) = false := beq_eq_false_iff_ne.mpr c23
                        have c23b1 : (a0_0 != 24) = true := bne_iff_ne.mpr c23
                        (first | rw [c23b0] | (simp only [i64_w, i32_w]; rw [c23b0]) | skip)
                        have H' := Aside0.mk H
                        clear H
                        go_wp2
                        go_meet
                        case rel => exact ⟨_, ((a0_0 == 25)), (by first | rfl | (simp; done) | (simp [*]; done) | (simp; omega)), H', ⟨by have := HJ4.out; have := HJ12.out; have := HJ18.out; first | omega | exact Nat.le_refl _⟩, ⟨by (with_reducible repeat (first | refine blk_drewN ?_ _ | refine blk_drew ?_ | refine blk_alloc ?_ _)); exact BK137.out⟩, ⟨by repeat (first | (with_reducible first | exact HB.out | apply below_alloc | apply pw_below_drewN | apply below_drew1 | refine below_set ?_ GE137.out) | exact HB.out)⟩⟩
                    case rest =>
                      clear HC22
                      try clear c1
                      try clear c2
                      try clear p2
                      try clear c3
                      try clear p6
                      try clear c8
                      try clear c8b0
                      try clear c8b1
                      try clear c9
                      try clear c9b0
                      try clear c9b1
                      try clear c10
                      try clear c14
                      try clear c14b0
                      try clear c14b1
                      try clear c15
                      try clear c15b0
                      try clear c15b1
                      try clear c16
                      try clear c20
                      try clear c20b0
                      try clear c20b1
                      try clear c21
                      try clear c23
                      try clear c23b0
                      try clear c23b1
                      try clear hcz12_0
                      try clear hcz12_1
                      try clear hcz12_2
                      try clear hcz12_3
                      try clear hcz12_4
                      try clear hcz12_5
                      try clear hcz18_0
                      try clear hcz18_1
                      try clear hcz18_2
                      try clear hcz18_3
                      try clear hcz18_4
                      try clear hcz18_5
                      try clear hcz7_0
                      try clear hcz7_1
                      try clear hcz7_2
                      try clear hcz7_3
                      try clear hcz7_4
                      try clear hcz7_5
                      try clear hfz12_0
                      try clear hfz12_1
                      try clear hfz12_2
                      try clear hfz12_3
                      try clear hfz12_4
                      try clear hfz12_5
                      try clear hfz18_0
                      try clear hfz18_1
                      try clear hfz18_2
                      try clear hfz18_3
                      try clear hfz18_4
                      try clear hfz18_5
                      try clear hfz7_0
                      try clear hfz7_1
                      try clear hfz7_2
                      try clear hfz7_3
                      try clear hfz7_4
                      try clear hfz7_5
                      try clear p2
                      try clear p6
                      obtain ⟨kq, x49_21, rfl, HA, HJ21, BK137, HB⟩ := hcut
                      cases kq with
                      | zero => exact absurd HA.out (by simp [pianolaref4_Do.j3])
                      | succ kj21 =>
                        have H := HA.out
                        clear HA
                        simp only [pianolaref4_Do.j3] at H
                        by_cases c24 : x49_21 = true
                        · subst c24
                          have H1 : (some ((a1 - a2) % 4294967296, true)) = some (r1, r2) := by rw [if_pos rfl] at H; exact H
                          clear H
                          have H := H1
                          clear H1
                          simp only [Option.some.injEq, Prod.mk.injEq] at H
                          obtain ⟨rfl, rfl⟩ := H
                          go_wp2
                          go_ret2
                          exact ⟨by first | rfl | (simp [errW_none, errW_some] <;> rfl) | (simp [*, errW_none, errW_some] <;> rfl), by repeat (first | (with_reducible first | exact HB.out | apply below_alloc | apply pw_below_drewN | apply below_drew1 | refine below_set ?_ GE137.out) | exact HB.out)⟩
                        · replace c24 := Bool.eq_false_iff.mpr c24
                          subst c24
                          have H1 : (if a0_0 = 26 then (some (Go.bits .and .u32 a1 a2, true)) else (if a0_0 = 27 then (some (Go.bits .or .u32 a1 a2, true)) else (if a0_0 = 28 then (some (Go.bits .xor .u32 a1 a2, true)) else (if a0_0 = 29 then (some (Go.bits .xor .u32 IntKind.u32.max (Go.bits .or .u32 a1 a2), true)) else (if a0_0 = 30 then (pianolaref4_Do.j4 kj21 a1 a2 t138 (Go.bits .and .u32 a0_5 65535) a0_0 (a0_0 == 30) a0_0 a0_1 a0_2 a0_3 a0_4 a0_5) else (pianolaref4_Do.j4 kj21 a1 a2 t138 (Go.bits .and .u32 a0_5 65535) a0_0 (a0_0 == 31) a0_0 a0_1 a0_2 a0_3 a0_4 a0_5)))))) = some (r1, r2) := by rw [if_neg (show ¬ (false = true) by decide)] at H; exact H
                          clear H
                          have H := H1
                          clear H1
                          by_cases c25 : a0_0 = 26
                          · rw [if_pos c25] at H
                            have c25b0 : (a0_0 == 26) = true := beq_iff_eq.mpr c25
                            have c25b1 : (a0_0 != 26) = false := bne_eq_false_iff_eq.mpr c25
                            clear c25
                            simp only [Option.some.injEq, Prod.mk.injEq] at H
                            obtain ⟨rfl, rfl⟩ := H
                            go_wp2
                            go_ret2
                            exact ⟨by first | rfl | (simp [errW_none, errW_some] <;> rfl) | (simp [*, errW_none, errW_some] <;> rfl), by repeat (first | (with_reducible first | exact HB.out | apply below_alloc | apply pw_below_drewN | apply below_drew1 | refine below_set ?_ GE137.out) | exact HB.out)⟩
                          · rw [if_neg c25] at H
                            have c25b0 : (a0_0 == 26) = false := beq_eq_false_iff_ne.mpr c25
                            have c25b1 : (a0_0 != 26) = true := bne_iff_ne.mpr c25
                            by_cases c26 : a0_0 = 27
                            · rw [if_pos c26] at H
                              have c26b0 : (a0_0 == 27) = true := beq_iff_eq.mpr c26
                              have c26b1 : (a0_0 != 27) = false := bne_eq_false_iff_eq.mpr c26
                              clear c26
                              simp only [Option.some.injEq, Prod.mk.injEq] at H
                              obtain ⟨rfl, rfl⟩ := H
                              go_wp2
                              go_ret2
                              exact ⟨by first | rfl | (simp [errW_none, errW_some] <;> rfl) | (simp [*, errW_none, errW_some] <;> rfl), by repeat (first | (with_reducible first | exact HB.out | apply below_alloc | apply pw_below_drewN | apply below_drew1 | refine below_set ?_ GE137.out) | exact HB.out)⟩
                            · rw [if_neg c26] at H
                              have c26b0 : (a0_0 == 27) = false := beq_eq_false_iff_ne.mpr c26
                              have c26b1 : (a0_0 != 27) = true := bne_iff_ne.mpr c26
                              by_cases c27 : a0_0 = 28
                              · rw [if_pos c27] at H
                                have c27b0 : (a0_0 == 28) = true := beq_iff_eq.mpr c27
                                have c27b1 : (a0_0 != 28) = false := bne_eq_false_iff_eq.mpr c27
                                clear c27
                                simp only [Option.some.injEq, Prod.mk.injEq] at H
                                obtain ⟨rfl, rfl⟩ := H
                                go_wp2
                                go_ret2
                                exact ⟨by first | rfl | (simp [errW_none, errW_some] <;> rfl) | (simp [*, errW_none, errW_some] <;> rfl), by repeat (first | (with_reducible first | exact HB.out | apply below_alloc | apply pw_below_drewN | apply below_drew1 | refine below_set ?_ GE137.out) | exact HB.out)⟩
                              · rw [if_neg c27] at H
                                have c27b0 : (a0_0 == 28) = false := beq_eq_false_iff_ne.mpr c27
                                have c27b1 : (a0_0 != 28) = true := bne_iff_ne.mpr c27
                                by_cases c28 : a0_0 = 29
                                · rw [if_pos c28] at H
                                  have c28b0 : (a0_0 == 29) = true := beq_iff_eq.mpr c28
                                  have c28b1 : (a0_0 != 29) = false := bne_eq_false_iff_eq.mpr c28
                                  clear c28
                                  simp only [Option.some.injEq, Prod.mk.injEq] at H
                                  obtain ⟨rfl, rfl⟩ := H
                                  go_wp2
                                  go_ret2
                                  exact ⟨by first | rfl | (simp [errW_none, errW_some] <;> rfl) | (simp [*, errW_none, errW_some] <;> rfl), by repeat (first | (with_reducible first | exact HB.out | apply below_alloc | apply pw_below_drewN | apply below_drew1 | refine below_set ?_ GE137.out) | exact HB.out)⟩
                                · rw [if_neg c28] at H
                                  have c28b0 : (a0_0 == 29) = false := beq_eq_false_iff_ne.mpr c28
                                  have c28b1 : (a0_0 != 29) = true := bne_iff_ne.mpr c28
                                  have HC29 := Aside0.mk H
                                  clear H
                                  go_upto_if 76 with (fail)
                                  go_cut [76] (fun v76 wc => ∃ (kq : Nat) (x76_28 : Bool), v76 = .bool x76_28 ∧ Aside0 (pianolaref4_Do.j4 kq a1 a2 t138 (Go.bits .and .u32 a0_5 65535) a0_0 x76_28 a0_0 a0_1 a0_2 a0_3 a0_4 a0_5 = some (r1, r2)) ∧ Aside0 (kq ≤ kj21) ∧ Aside0 (wc.heap[gb137]? = some (.cells #[.int .i64 a0_0, .int .i64 a0_1, .int .i64 a0_2, .int .i64 a0_3, .int .i64 a0_4, .int .u32 a0_5] 26 (0, 0))) ∧ Aside0 (Below w.heap.size w wc))
                                  case first =>
                                    have H := HC29.out
                                    clear HC29
                                    by_cases c30 : a0_0 = 30
                                    · rw [if_pos c30] at H
                                      have c30b0 : (a0_0 == 30) = true := beq_iff_eq.mpr c30
                                      have c30b1 : (a0_0 != 30) = false := bne_eq_false_iff_eq.mpr c30
                                      clear c30
                                      (first | rw [c30b0] | (simp only [i64_w, i32_w]; rw [c30b0]) | skip)
                                      have H' := Aside0.mk H
                                      clear H
                                      go_wp2
                                      go_meet
                                      case rel => exact ⟨_, ((a0_0 == 30)), (by first | rfl | (simp; done) | (simp [*]; done) | (simp; omega)), H', ⟨by have := HJ4.out; have := HJ12.out; have := HJ18.out; have := HJ21.out; first | omega | exact Nat.le_refl _⟩, ⟨by (with_reducible repeat (first | refine blk_drewN ?_ _ | refine blk_drew ?_ | refine blk_alloc ?_ _)); exact BK137.out⟩, ⟨by repeat (first | (with_reducible first | exact HB.out | apply below_alloc | apply pw_below_drewN | apply below_drew1 | refine below_set ?_ GE137.out) | exact HB.out)⟩⟩
                                    · rw [if_neg c30] at H
                                      have c30b0 : (a0_0 == 30) = false := beq_eq_false_iff_ne.mpr c30
                                      have c30b1 : (a0_0 != 30) = true := bne_iff_ne.mpr c30
                                      (first | rw [c30b0] | (simp only [i64_w, i32_w]; rw [c30b0]) | skip)
                                      have H' := Aside0.mk H
                                      clear H
                                      go_wp2
                                      go_meet
                                      case rel => exact ⟨_, ((a0_0 == 31)), (by first | rfl | (simp; done) | (simp [*]; done) | (simp; omega)), H', ⟨by have := HJ4.out; have := HJ12.out; have := HJ18.out; have := HJ21.out; first | omega | exact Nat.le_refl _⟩, ⟨by (with_reducible repeat (first | refine blk_drewN ?_ _ | refine blk_drew ?_ | refine blk_alloc ?_ _)); exact BK137.out⟩, ⟨by repeat (first | (with_reducible first | exact HB.out | apply below_alloc | apply pw_below_drewN | apply below_drew1 | refine below_set ?_ GE137.out) | exact HB.out)⟩⟩
                                  case rest =>
                                    clear HC29
                                    try clear c1
                                    try clear c2
                                    try clear p2
                                    try clear c3
                                    try clear p6
                                    try clear c8
                                    try clear c8b0
                                    try clear c8b1
                                    try clear c9
                                    try clear c9b0
                                    try clear c9b1
                                    try clear c10
                                    try clear c14
                                    try clear c14b0
                                    try clear c14b1
                                    try clear c15
                                    try clear c15b0
                                    try clear c15b1
                                    try clear c16
                                    try clear c20
                                    try clear c20b0
                                    try clear c20b1
                                    try clear c21
                                    try clear c23
                                    try clear c23b0
                                    try clear c23b1
                                    try clear c24
                                    try clear c25
                                    try clear c25b0
                                    try clear c25b1
                                    try clear c26
                                    try clear c26b0
                                    try clear c26b1
                                    try clear c27
                                    try clear c27b0
                                    try clear c27b1
                                    try clear c28
                                    try clear c28b0
                                    try clear c28b1
                                    try clear c30
                                    try clear c30b0
                                    try clear c30b1
                                    try clear hcz12_0
                                    try clear hcz12_1
                                    try clear hcz12_2
                                    try clear hcz12_3
                                    try clear hcz12_4
                                    try clear hcz12_5
                                    try clear hcz18_0
                                    try clear hcz18_1
                                    try clear hcz18_2
                                    try clear hcz18_3
                                    try clear hcz18_4
                                    try clear hcz18_5
                                    try clear hcz7_0
                                    try clear hcz7_1
                                    try clear hcz7_2
                                    try clear hcz7_3
                                    try clear hcz7_4
                                    try clear hcz7_5
                                    try clear hfz12_0
                                    try clear hfz12_1
                                    try clear hfz12_2
                                    try clear hfz12_3
                                    try clear hfz12_4
                                    try clear hfz12_5
                                    try clear hfz18_0
                                    try clear hfz18_1
                                    try clear hfz18_2
                                    try clear hfz18_3
                                    try clear hfz18_4
                                    try clear hfz18_5
                                    try clear hfz7_0
                                    try clear hfz7_1
                                    try clear hfz7_2
                                    try clear hfz7_3
                                    try clear hfz7_4
                                    try clear hfz7_5
                                    try clear p2
                                    try clear p6
                                    obtain ⟨kq, x76_28, rfl, HA, HJ28, BK137, HB⟩ := hcut
                                    cases kq with
                                    | zero => exact absurd HA.out (by simp [pianolaref4_Do.j4])
                                    | succ kj28 =>
                                      have H := HA.out
                                      clear HA
                                      simp only [pianolaref4_Do.j4] at H
                                      by_cases c31 : x76_28 = true
                                      · subst c31
                                        have H1 : ((pianolaref1_Less.f a1 a2 (a0_0 == 30)).bind fun t141 => ((pianolaref4_bit.f t141).bind fun t142 => (some (t142, true)))) = some (r1, r2) := by rw [if_pos rfl] at H; exact H
                                        clear H
                                        have H := H1
                                        clear H1
                                        replace H := Option.bind_eq_some_iff.mp H
                                        obtain ⟨t141, A320, H⟩ := H
                                        replace H : ((pianolaref4_bit.f t141).bind fun t142 => (some (t142, true))) = some (r1, r2) := H
                                        have A32 := Aside0.mk A320
                                        clear A320
                                        replace H := Option.bind_eq_some_iff.mp H
                                        obtain ⟨t142, A330, H⟩ := H
                                        replace H : (some (t142, true)) = some (r1, r2) := H
                                        have A33 := Aside0.mk A330
                                        clear A330
                                        simp only [Option.some.injEq, Prod.mk.injEq] at H
                                        obtain ⟨rfl, rfl⟩ := H
                                        have hcz34_0 : wc.cell? ⟨gb137, 0, none⟩ = some (.int .i64 a0_0) := (blk_cell BK137.out 0).trans rfl
                                        have hcz34_1 : wc.cell? ⟨gb137, 1, none⟩ = some (.int .i64 a0_1) := (blk_cell BK137.out 1).trans rfl
                                        have hcz34_2 : wc.cell? ⟨gb137, 2, none⟩ = some (.int .i64 a0_2) := (blk_cell BK137.out 2).trans rfl
                                        have hcz34_3 : wc.cell? ⟨gb137, 3, none⟩ = some (.int .i64 a0_3) := (blk_cell BK137.out 3).trans rfl
                                        have hcz34_4 : wc.cell? ⟨gb137, 4, none⟩ = some (.int .i64 a0_4) := (blk_cell BK137.out 4).trans rfl
                                        have hcz34_5 : wc.cell? ⟨gb137, 5, none⟩ = some (.int .u32 a0_5) := (blk_cell BK137.out 5).trans rfl
                                        have hfz34_0 := blk_frozen BK137.out 0
                                        have hfz34_1 := blk_frozen BK137.out 1
                                        have hfz34_2 := blk_frozen BK137.out 2
                                        have hfz34_3 := blk_frozen BK137.out 3
                                        have hfz34_4 := blk_frozen BK137.out 4
                                        have hfz34_5 := blk_frozen BK137.out 5
                                        go_wp2_with (first | ((with_reducible refine gate_callee (f := 38) rfl ?_); refine goesL_ (some 84) rfl rfl Try.func38 (by kernel_rfl) rfl #[.int .u32 a1, .int .u32 a2, .bool (a0_0 == 30)] rfl (by (try simp only [List.map_toArray, List.map_cons, List.map_nil]); first | done | rfl | (simp only [List.length_drop, List.length_take]; rfl)) ?_; (with_reducible refine (pianolaref1_Less.calls a1 a2 (a0_0 == 30) t141 _ A32.out).mono ?_); rintro e w' ⟨rfl, ⟨nd, rfl⟩⟩; refine ⟨_, rfl, ?_⟩) | ((with_reducible refine gate_callee (f := 37) rfl ?_); refine goesL_ (some 85) rfl rfl Try.func37 (by kernel_rfl) rfl #[.bool t141] rfl (by (try simp only [List.map_toArray, List.map_cons, List.map_nil]); first | done | rfl | (simp only [List.length_drop, List.length_take]; rfl)) ?_; (with_reducible refine (pianolaref4_bit.calls t141 t142 _ A33.out).mono ?_); rintro e w' ⟨rfl, ⟨nd, rfl⟩⟩; refine ⟨_, rfl, ?_⟩) | (go_at_call 38; (with_reducible refine (pianolaref1_Less.calls a1 a2 (a0_0 == 30) t141 _ A32.out).mono ?_); rintro e w' ⟨rfl, ⟨nd, rfl⟩⟩) | (go_at_call 37; (with_reducible refine (pianolaref4_bit.calls t141 t142 _ A33.out).mono ?_); rintro e w' ⟨rfl, ⟨nd, rfl⟩⟩))
                                        go_ret2
                                        exact ⟨by first | rfl | (simp [errW_none, errW_some] <;> rfl) | (simp [*, errW_none, errW_some] <;> rfl), by repeat (first | (with_reducible first | exact HB.out | apply below_alloc | apply pw_below_drewN | apply below_drew1 | refine below_set ?_ GE137.out) | exact HB.out)⟩
                                      · replace c31 := Bool.eq_false_iff.mpr c31
                                        subst c31
                                        have H1 : (if a0_0 = 46 then (pianolaref4_Do.j5 kj28 a1 a2 t138 (Go.bits .and .u32 a0_5 65535) a0_0 (a0_0 == 46) a0_0 a0_1 a0_2 a0_3 a0_4 a0_5) else (pianolaref4_Do.j5 kj28 a1 a2 t138 (Go.bits .and .u32 a0_5 65535) a0_0 (a0_0 == 47) a0_0 a0_1 a0_2 a0_3 a0_4 a0_5)) = some (r1, r2) := by rw [if_neg (show ¬ (false = true) by decide)] at H; exact H
                                        clear H
                                        have H := H1
                                        clear H1
                                        have HC35 := Aside0.mk H
                                        clear H
                                        go_upto_if 86 with (fail)
                                        go_cut [86] (fun v86 wc => ∃ (kq : Nat) (x86_34 : Bool), v86 = .bool x86_34 ∧ Aside0 (pianolaref4_Do.j5 kq a1 a2 t138 (Go.bits .and .u32 a0_5 65535) a0_0 x86_34 a0_0 a0_1 a0_2 a0_3 a0_4 a0_5 = some (r1, r2)) ∧ Aside0 (kq ≤ kj28) ∧ Aside0 (wc.heap[gb137]? = some (.cells #[.int .i64 a0_0, .int .i64 a0_1, .int .i64 a0_2, .int .i64 a0_3, .int .i64 a0_4, .int .u32 a0_5] 26 (0, 0))) ∧ Aside0 (Below w.heap.size w wc))
                                        case first =>
                                          have H := HC35.out
                                          clear HC35
                                          by_cases c36 : a0_0 = 46
                                          · rw [if_pos c36] at H
                                            have c36b0 : (a0_0 == 46) = true := beq_iff_eq.mpr c36
                                            have c36b1 : (a0_0 != 46) = false := bne_eq_false_iff_eq.mpr c36
                                            clear c36
                                            (first | rw [c36b0] | (simp only [i64_w, i32_w]; rw [c36b0]) | skip)
                                            have H' := Aside0.mk H
                                            clear H
                                            go_wp2
                                            go_meet
                                            case rel => exact ⟨_, ((a0_0 == 46)), (by first | rfl | (simp; done) | (simp [*]; done) | (simp; omega)), H', ⟨by have := HJ4.out; have := HJ12.out; have := HJ18.out; have := HJ21.out; have := HJ28.out; first | omega | exact Nat.le_refl _⟩, ⟨by (with_reducible repeat (first | refine blk_drewN ?_ _ | refine blk_drew ?_ | refine blk_alloc ?_ _)); exact BK137.out⟩, ⟨by repeat (first | (with_reducible first | exact HB.out | apply below_alloc | apply pw_below_drewN | apply below_drew1 | refine below_set ?_ GE137.out) | exact HB.out)⟩⟩
                                          · rw [if_neg c36] at H
                                            have c36b0 : (a0_0 == 46) = false := beq_eq_false_iff_ne.mpr c36
                                            have c36b1 : (a0_0 != 46) = true := bne_iff_ne.mpr c36
                                            (first | rw [c36b0] | (simp only [i64_w, i32_w]; rw [c36b0]) | skip)
                                            have H' := Aside0.mk H
                                            clear H
                                            go_wp2
                                            go_meet
                                            case rel => exact ⟨_, ((a0_0 == 47)), (by first | rfl | (simp; done) | (simp [*]; done) | (simp; omega)), H', ⟨by have := HJ4.out; have := HJ12.out; have := HJ18.out; have := HJ21.out; have := HJ28.out; first | omega | exact Nat.le_refl _⟩, ⟨by (with_reducible repeat (first | refine blk_drewN ?_ _ | refine blk_drew ?_ | refine blk_alloc ?_ _)); exact BK137.out⟩, ⟨by repeat (first | (with_reducible first | exact HB.out | apply below_alloc | apply pw_below_drewN | apply below_drew1 | refine below_set ?_ GE137.out) | exact HB.out)⟩⟩
                                        case rest =>
                                          clear HC35
                                          try clear c1
                                          try clear c2
                                          try clear p2
                                          try clear c3
                                          try clear p6
                                          try clear c8
                                          try clear c8b0
                                          try clear c8b1
                                          try clear c9
                                          try clear c9b0
                                          try clear c9b1
                                          try clear c10
                                          try clear c14
                                          try clear c14b0
                                          try clear c14b1
                                          try clear c15
                                          try clear c15b0
                                          try clear c15b1
                                          try clear c16
                                          try clear c20
                                          try clear c20b0
                                          try clear c20b1
                                          try clear c21
                                          try clear c23
                                          try clear c23b0
                                          try clear c23b1
                                          try clear c24
                                          try clear c25
                                          try clear c25b0
                                          try clear c25b1
                                          try clear c26
                                          try clear c26b0
                                          try clear c26b1
                                          try clear c27
                                          try clear c27b0
                                          try clear c27b1
                                          try clear c28
                                          try clear c28b0
                                          try clear c28b1
                                          try clear c30
                                          try clear c30b0
                                          try clear c30b1
                                          try clear c31
                                          try clear c36
                                          try clear c36b0
                                          try clear c36b1
                                          try clear hcz12_0
                                          try clear hcz12_1
                                          try clear hcz12_2
                                          try clear hcz12_3
                                          try clear hcz12_4
                                          try clear hcz12_5
                                          try clear hcz18_0
                                          try clear hcz18_1
                                          try clear hcz18_2
                                          try clear hcz18_3
                                          try clear hcz18_4
                                          try clear hcz18_5
                                          try clear hcz34_0
                                          try clear hcz34_1
                                          try clear hcz34_2
                                          try clear hcz34_3
                                          try clear hcz34_4
                                          try clear hcz34_5
                                          try clear hcz7_0
                                          try clear hcz7_1
                                          try clear hcz7_2
                                          try clear hcz7_3
                                          try clear hcz7_4
                                          try clear hcz7_5
                                          try clear hfz12_0
                                          try clear hfz12_1
                                          try clear hfz12_2
                                          try clear hfz12_3
                                          try clear hfz12_4
                                          try clear hfz12_5
                                          try clear hfz18_0
                                          try clear hfz18_1
                                          try clear hfz18_2
                                          try clear hfz18_3
                                          try clear hfz18_4
                                          try clear hfz18_5
                                          try clear hfz34_0
                                          try clear hfz34_1
                                          try clear hfz34_2
                                          try clear hfz34_3
                                          try clear hfz34_4
                                          try clear hfz34_5
                                          try clear hfz7_0
                                          try clear hfz7_1
                                          try clear hfz7_2
                                          try clear hfz7_3
                                          try clear hfz7_4
                                          try clear hfz7_5
                                          try clear p2
                                          try clear p6
                                          obtain ⟨kq, x86_34, rfl, HA, HJ34, BK137, HB⟩ := hcut
                                          cases kq with
                                          | zero => exact absurd HA.out (by simp [pianolaref4_Do.j5])
                                          | succ kj34 =>
                                            have H := HA.out
                                            clear HA
                                            simp only [pianolaref4_Do.j5] at H
                                            by_cases c37 : x86_34 = true
                                            · subst c37
                                              have H1 : (some ((a1 + t138) % 4294967296, true)) = some (r1, r2) := by rw [if_pos rfl] at H; exact H
                                              clear H
                                              have H := H1
                                              clear H1
                                              simp only [Option.some.injEq, Prod.mk.injEq] at H
                                              obtain ⟨rfl, rfl⟩ := H
                                              go_wp2
                                              go_ret2
                                              exact ⟨by first | rfl | (simp [errW_none, errW_some] <;> rfl) | (simp [*, errW_none, errW_some] <;> rfl), by repeat (first | (with_reducible first | exact HB.out | apply below_alloc | apply pw_below_drewN | apply below_drew1 | refine below_set ?_ GE137.out) | exact HB.out)⟩
                                            · replace c37 := Bool.eq_false_iff.mpr c37
                                              subst c37
                                              have H1 : (if a0_0 = 48 then (pianolaref4_Do.j6 kj34 a1 a2 t138 (Go.bits .and .u32 a0_5 65535) a0_0 (a0_0 == 48) a0_0 a0_1 a0_2 a0_3 a0_4 a0_5) else (pianolaref4_Do.j6 kj34 a1 a2 t138 (Go.bits .and .u32 a0_5 65535) a0_0 (a0_0 == 49) a0_0 a0_1 a0_2 a0_3 a0_4 a0_5)) = some (r1, r2) := by rw [if_neg (show ¬ (false = true) by decide)] at H; exact H
                                              clear H
                                              have H := H1
                                              clear H1
                                              have HC38 := Aside0.mk H
                                              clear H
                                              go_upto_if 92 with (fail)
                                              go_cut [92] (fun v92 wc => ∃ (kq : Nat) (x92_37 : Bool), v92 = .bool x92_37 ∧ Aside0 (pianolaref4_Do.j6 kq a1 a2 t138 (Go.bits .and .u32 a0_5 65535) a0_0 x92_37 a0_0 a0_1 a0_2 a0_3 a0_4 a0_5 = some (r1, r2)) ∧ Aside0 (kq ≤ kj34) ∧ Aside0 (wc.heap[gb137]? = some (.cells #[.int .i64 a0_0, .int .i64 a0_1, .int .i64 a0_2, .int .i64 a0_3, .int .i64 a0_4, .int .u32 a0_5] 26 (0, 0))) ∧ Aside0 (Below w.heap.size w wc))
                                              case first =>
                                                have H := HC38.out
                                                clear HC38
                                                by_cases c39 : a0_0 = 48
                                                · rw [if_pos c39] at H
                                                  have c39b0 : (a0_0 == 48) = true := beq_iff_eq.mpr c39
                                                  have c39b1 : (a0_0 != 48) = false := bne_eq_false_iff_eq.mpr c39
                                                  clear c39
                                                  (first | rw [c39b0] | (simp only [i64_w, i32_w]; rw [c39b0]) | skip)
                                                  have H' := Aside0.mk H
                                                  clear H
                                                  go_wp2
                                                  go_meet
                                                  case rel => exact ⟨_, ((a0_0 == 48)), (by first | rfl | (simp; done) | (simp [*]; done) | (simp; omega)), H', ⟨by have := HJ4.out; have := HJ12.out; have := HJ18.out; have := HJ21.out; have := HJ28.out; have := HJ34.out; first | omega | exact Nat.le_refl _⟩, ⟨by (with_reducible repeat (first | refine blk_drewN ?_ _ | refine blk_drew ?_ | refine blk_alloc ?_ _)); exact BK137.out⟩, ⟨by repeat (first | (with_reducible first | exact HB.out | apply below_alloc | apply pw_below_drewN | apply below_drew1 | refine below_set ?_ GE137.out) | exact HB.out)⟩⟩
                                                · rw [if_neg c39] at H
                                                  have c39b0 : (a0_0 == 48) = false := beq_eq_false_iff_ne.mpr c39
                                                  have c39b1 : (a0_0 != 48) = true := bne_iff_ne.mpr c39
                                                  (first | rw [c39b0] | (simp only [i64_w, i32_w]; rw [c39b0]) | skip)
                                                  have H' := Aside0.mk H
                                                  clear H
                                                  go_wp2
                                                  go_meet
                                                  case rel => exact ⟨_, ((a0_0 == 49)), (by first | rfl | (simp; done) | (simp [*]; done) | (simp; omega)), H', ⟨by have := HJ4.out; have := HJ12.out; have := HJ18.out; have := HJ21.out; have := HJ28.out; have := HJ34.out; first | omega | exact Nat.le_refl _⟩, ⟨by (with_reducible repeat (first | refine blk_drewN ?_ _ | refine blk_drew ?_ | refine blk_alloc ?_ _)); exact BK137.out⟩, ⟨by repeat (first | (with_reducible first | exact HB.out | apply below_alloc | apply pw_below_drewN | apply below_drew1 | refine below_set ?_ GE137.out) | exact HB.out)⟩⟩
                                              case rest =>
                                                clear HC38
                                                try clear c1
                                                try clear c2
                                                try clear p2
                                                try clear c3
                                                try clear p6
                                                try clear c8
                                                try clear c8b0
                                                try clear c8b1
                                                try clear c9
                                                try clear c9b0
                                                try clear c9b1
                                                try clear c10
                                                try clear c14
                                                try clear c14b0
                                                try clear c14b1
                                                try clear c15
                                                try clear c15b0
                                                try clear c15b1
                                                try clear c16
                                                try clear c20
                                                try clear c20b0
                                                try clear c20b1
                                                try clear c21
                                                try clear c23
                                                try clear c23b0
                                                try clear c23b1
                                                try clear c24
                                                try clear c25
                                                try clear c25b0
                                                try clear c25b1
                                                try clear c26
                                                try clear c26b0
                                                try clear c26b1
                                                try clear c27
                                                try clear c27b0
                                                try clear c27b1
                                                try clear c28
                                                try clear c28b0
                                                try clear c28b1
                                                try clear c30
                                                try clear c30b0
                                                try clear c30b1
                                                try clear c31
                                                try clear c36
                                                try clear c36b0
                                                try clear c36b1
                                                try clear c37
                                                try clear c38
                                                try clear c39
                                                try clear c39b0
                                                try clear c39b1
                                                try clear hcz12_0
                                                try clear hcz12_1
                                                try clear hcz12_2
                                                try clear hcz12_3
                                                try clear hcz12_4
                                                try clear hcz12_5
                                                try clear hcz18_0
                                                try clear hcz18_1
                                                try clear hcz18_2
                                                try clear hcz18_3
                                                try clear hcz18_4
                                                try clear hcz18_5
                                                try clear hcz34_0
                                                try clear hcz34_1
                                                try clear hcz34_2
                                                try clear hcz34_3
                                                try clear hcz34_4
                                                try clear hcz34_5
                                                try clear hcz7_0
                                                try clear hcz7_1
                                                try clear hcz7_2
                                                try clear hcz7_3
                                                try clear hcz7_4
                                                try clear hcz7_5
                                                try clear hfz12_0
                                                try clear hfz12_1
                                                try clear hfz12_2
                                                try clear hfz12_3
                                                try clear hfz12_4
                                                try clear hfz12_5
                                                try clear hfz18_0
                                                try clear hfz18_1
                                                try clear hfz18_2
                                                try clear hfz18_3
                                                try clear hfz18_4
                                                try clear hfz18_5
                                                try clear hfz34_0
                                                try clear hfz34_1
                                                try clear hfz34_2
                                                try clear hfz34_3
                                                try clear hfz34_4
                                                try clear hfz34_5
                                                try clear hfz7_0
                                                try clear hfz7_1
                                                try clear hfz7_2
                                                try clear hfz7_3
                                                try clear hfz7_4
                                                try clear hfz7_5
                                                try clear p2
                                                try clear p6
                                                obtain ⟨kq, x92_37, rfl, HA, HJ37, BK137, HB⟩ := hcut
                                                cases kq with
                                                | zero => exact absurd HA.out (by simp [pianolaref4_Do.j6])
                                                | succ kj37 =>
                                                  have H := HA.out
                                                  clear HA
                                                  simp only [pianolaref4_Do.j6] at H
                                                  by_cases c40 : x92_37 = true
                                                  · subst c40
                                                    have H1 : ((pianolaref1_Less.f a1 t138 (a0_0 == 48)).bind fun t143 => ((pianolaref4_bit.f t143).bind fun t144 => (some (t144, true)))) = some (r1, r2) := by rw [if_pos rfl] at H; exact H
                                                    clear H
                                                    have H := H1
                                                    clear H1
                                                    replace H := Option.bind_eq_some_iff.mp H
                                                    obtain ⟨t143, A410, H⟩ := H
                                                    replace H : ((pianolaref4_bit.f t143).bind fun t144 => (some (t144, true))) = some (r1, r2) := H
                                                    have A41 := Aside0.mk A410
                                                    clear A410
                                                    replace H := Option.bind_eq_some_iff.mp H
                                                    obtain ⟨t144, A420, H⟩ := H
                                                    replace H : (some (t144, true)) = some (r1, r2) := H
                                                    have A42 := Aside0.mk A420
                                                    clear A420
                                                    simp only [Option.some.injEq, Prod.mk.injEq] at H
                                                    obtain ⟨rfl, rfl⟩ := H
                                                    have hcz43_0 : wc.cell? ⟨gb137, 0, none⟩ = some (.int .i64 a0_0) := (blk_cell BK137.out 0).trans rfl
                                                    have hcz43_1 : wc.cell? ⟨gb137, 1, none⟩ = some (.int .i64 a0_1) := (blk_cell BK137.out 1).trans rfl
                                                    have hcz43_2 : wc.cell? ⟨gb137, 2, none⟩ = some (.int .i64 a0_2) := (blk_cell BK137.out 2).trans rfl
                                                    have hcz43_3 : wc.cell? ⟨gb137, 3, none⟩ = some (.int .i64 a0_3) := (blk_cell BK137.out 3).trans rfl
                                                    have hcz43_4 : wc.cell? ⟨gb137, 4, none⟩ = some (.int .i64 a0_4) := (blk_cell BK137.out 4).trans rfl
                                                    have hcz43_5 : wc.cell? ⟨gb137, 5, none⟩ = some (.int .u32 a0_5) := (blk_cell BK137.out 5).trans rfl
                                                    have hfz43_0 := blk_frozen BK137.out 0
                                                    have hfz43_1 := blk_frozen BK137.out 1
                                                    have hfz43_2 := blk_frozen BK137.out 2
                                                    have hfz43_3 := blk_frozen BK137.out 3
                                                    have hfz43_4 := blk_frozen BK137.out 4
                                                    have hfz43_5 := blk_frozen BK137.out 5
                                                    go_wp2_with (first | ((with_reducible refine gate_callee (f := 38) rfl ?_); refine goesL_ (some 100) rfl rfl Try.func38 (by kernel_rfl) rfl #[.int .u32 a1, .int .u32 t138, .bool (a0_0 == 48)] rfl (by (try simp only [List.map_toArray, List.map_cons, List.map_nil]); first | done | rfl | (simp only [List.length_drop, List.length_take]; rfl)) ?_; (with_reducible refine (pianolaref1_Less.calls a1 t138 (a0_0 == 48) t143 _ A41.out).mono ?_); rintro e w' ⟨rfl, ⟨nd, rfl⟩⟩; refine ⟨_, rfl, ?_⟩) | ((with_reducible refine gate_callee (f := 37) rfl ?_); refine goesL_ (some 101) rfl rfl Try.func37 (by kernel_rfl) rfl #[.bool t143] rfl (by (try simp only [List.map_toArray, List.map_cons, List.map_nil]); first | done | rfl | (simp only [List.length_drop, List.length_take]; rfl)) ?_; (with_reducible refine (pianolaref4_bit.calls t143 t144 _ A42.out).mono ?_); rintro e w' ⟨rfl, ⟨nd, rfl⟩⟩; refine ⟨_, rfl, ?_⟩) | (go_at_call 38; (with_reducible refine (pianolaref1_Less.calls a1 t138 (a0_0 == 48) t143 _ A41.out).mono ?_); rintro e w' ⟨rfl, ⟨nd, rfl⟩⟩) | (go_at_call 37; (with_reducible refine (pianolaref4_bit.calls t143 t144 _ A42.out).mono ?_); rintro e w' ⟨rfl, ⟨nd, rfl⟩⟩))
                                                    go_ret2
                                                    exact ⟨by first | rfl | (simp [errW_none, errW_some] <;> rfl) | (simp [*, errW_none, errW_some] <;> rfl), by repeat (first | (with_reducible first | exact HB.out | apply below_alloc | apply pw_below_drewN | apply below_drew1 | refine below_set ?_ GE137.out) | exact HB.out)⟩
                                                  · replace c40 := Bool.eq_false_iff.mpr c40
                                                    subst c40
                                                    have H1 : (if a0_0 = 50 then (some (Go.bits .and .u32 a1 (Go.bits .and .u32 a0_5 65535), true)) else (if a0_0 = 51 then (some (Go.bits .or .u32 a1 (Go.bits .and .u32 a0_5 65535), true)) else (if a0_0 = 52 then (some (Go.bits .xor .u32 a1 (Go.bits .and .u32 a0_5 65535), true)) else (if a0_0 = 53 then (some (((Go.bits .and .u32 a0_5 65535) * 65536) % 4294967296, true)) else (if a0_0 = 63 then ((pianolaref1_Mul.f kj37 a1 a2 true).bind fun bt145 => (some (bt145.2, true))) else (if a0_0 = 64 then ((pianolaref1_Clz.f kj37 a1).bind fun t147 => (some ((t147) % 4294967296, true))) else (if a0_0 = 65 then ((pianolaref1_Clo.f kj37 a1).bind fun t148 => (some ((t148) % 4294967296, true))) else (some (0, false))))))))) = some (r1, r2) := by rw [if_neg (show ¬ (false = true) by decide)] at H; exact H
                                                    clear H
                                                    have H := H1
                                                    clear H1
                                                    by_cases c44 : a0_0 = 50
                                                    · rw [if_pos c44] at H
                                                      have c44b0 : (a0_0 == 50) = true := beq_iff_eq.mpr c44
                                                      have c44b1 : (a0_0 != 50) = false := bne_eq_false_iff_eq.mpr c44
                                                      clear c44
                                                      simp only [Option.some.injEq, Prod.mk.injEq] at H
                                                      obtain ⟨rfl, rfl⟩ := H
                                                      go_wp2
                                                      go_ret2
                                                      exact ⟨by first | rfl | (simp [errW_none, errW_some] <;> rfl) | (simp [*, errW_none, errW_some] <;> rfl), by repeat (first | (with_reducible first | exact HB.out | apply below_alloc | apply pw_below_drewN | apply below_drew1 | refine below_set ?_ GE137.out) | exact HB.out)⟩
                                                    · rw [if_neg c44] at H
                                                      have c44b0 : (a0_0 == 50) = false := beq_eq_false_iff_ne.mpr c44
                                                      have c44b1 : (a0_0 != 50) = true := bne_iff_ne.mpr c44
                                                      by_cases c45 : a0_0 = 51
                                                      · rw [if_pos c45] at H
                                                        have c45b0 : (a0_0 == 51) = true := beq_iff_eq.mpr c45
                                                        have c45b1 : (a0_0 != 51) = false := bne_eq_false_iff_eq.mpr c45
                                                        clear c45
                                                        simp only [Option.some.injEq, Prod.mk.injEq] at H
                                                        obtain ⟨rfl, rfl⟩ := H
                                                        go_wp2
                                                        go_ret2
                                                        exact ⟨by first | rfl | (simp [errW_none, errW_some] <;> rfl) | (simp [*, errW_none, errW_some] <;> rfl), by repeat (first | (with_reducible first | exact HB.out | apply below_alloc | apply pw_below_drewN | apply below_drew1 | refine below_set ?_ GE137.out) | exact HB.out)⟩
                                                      · rw [if_neg c45] at H
                                                        have c45b0 : (a0_0 == 51) = false := beq_eq_false_iff_ne.mpr c45
                                                        have c45b1 : (a0_0 != 51) = true := bne_iff_ne.mpr c45
                                                        by_cases c46 : a0_0 = 52
                                                        · rw [if_pos c46] at H
                                                          have c46b0 : (a0_0 == 52) = true := beq_iff_eq.mpr c46
                                                          have c46b1 : (a0_0 != 52) = false := bne_eq_false_iff_eq.mpr c46
                                                          clear c46
                                                          simp only [Option.some.injEq, Prod.mk.injEq] at H
                                                          obtain ⟨rfl, rfl⟩ := H
                                                          go_wp2
                                                          go_ret2
                                                          exact ⟨by first | rfl | (simp [errW_none, errW_some] <;> rfl) | (simp [*, errW_none, errW_some] <;> rfl), by repeat (first | (with_reducible first | exact HB.out | apply below_alloc | apply pw_below_drewN | apply below_drew1 | refine below_set ?_ GE137.out) | exact HB.out)⟩
                                                        · rw [if_neg c46] at H
                                                          have c46b0 : (a0_0 == 52) = false := beq_eq_false_iff_ne.mpr c46
                                                          have c46b1 : (a0_0 != 52) = true := bne_iff_ne.mpr c46
                                                          by_cases c47 : a0_0 = 53
                                                          · rw [if_pos c47] at H
                                                            have c47b0 : (a0_0 == 53) = true := beq_iff_eq.mpr c47
                                                            have c47b1 : (a0_0 != 53) = false := bne_eq_false_iff_eq.mpr c47
                                                            clear c47
                                                            simp only [Option.some.injEq, Prod.mk.injEq] at H
                                                            obtain ⟨rfl, rfl⟩ := H
                                                            go_wp2
                                                            go_ret2
                                                            exact ⟨by first | rfl | (simp [errW_none, errW_some] <;> rfl) | (simp [*, errW_none, errW_some] <;> rfl), by repeat (first | (with_reducible first | exact HB.out | apply below_alloc | apply pw_below_drewN | apply below_drew1 | refine below_set ?_ GE137.out) | exact HB.out)⟩
                                                          · rw [if_neg c47] at H
                                                            have c47b0 : (a0_0 == 53) = false := beq_eq_false_iff_ne.mpr c47
                                                            have c47b1 : (a0_0 != 53) = true := bne_iff_ne.mpr c47
                                                            by_cases c48 : a0_0 = 63
                                                            · rw [if_pos c48] at H
                                                              have c48b0 : (a0_0 == 63) = true := beq_iff_eq.mpr c48
                                                              have c48b1 : (a0_0 != 63) = false := bne_eq_false_iff_eq.mpr c48
                                                              clear c48
                                                              replace H := Option.bind_eq_some_iff.mp H
                                                              obtain ⟨⟨t145, t146⟩, A490, H⟩ := H
                                                              replace H : (some (t146, true)) = some (r1, r2) := H
                                                              have A49 := Aside0.mk A490
                                                              clear A490
                                                              simp only [Option.some.injEq, Prod.mk.injEq] at H
                                                              obtain ⟨rfl, rfl⟩ := H
                                                              go_wp2_with (first | ((with_reducible refine gate_callee (f := 39) rfl ?_); refine goesL_ (some 126) rfl rfl Try.func39 (by kernel_rfl) rfl #[.int .u32 a1, .int .u32 a2, .bool true] rfl (by (try simp only [List.map_toArray, List.map_cons, List.map_nil]); first | done | rfl | (simp only [List.length_drop, List.length_take]; rfl)) ?_; (with_reducible refine (pianolaref1_Mul.calls kj37 a1 a2 true t145 t146 _ A49.out).mono ?_); rintro e w' ⟨rfl, ⟨nd, rfl⟩⟩; refine ⟨_, rfl, ?_⟩) | (go_at_call 39; (with_reducible refine (pianolaref1_Mul.calls kj37 a1 a2 true t145 t146 _ A49.out).mono ?_); rintro e w' ⟨rfl, ⟨nd, rfl⟩⟩))
                                                              go_ret2
                                                              exact ⟨by first | rfl | (simp [errW_none, errW_some] <;> rfl) | (simp [*, errW_none, errW_some] <;> rfl), by repeat (first | (with_reducible first | exact HB.out | apply below_alloc | apply pw_below_drewN | apply below_drew1 | refine below_set ?_ GE137.out) | exact HB.out)⟩
                                                            · rw [if_neg c48] at H
                                                              have c48b0 : (a0_0 == 63) = false := beq_eq_false_iff_ne.mpr c48
                                                              have c48b1 : (a0_0 != 63) = true := bne_iff_ne.mpr c48
                                                              by_cases c50 : a0_0 = 64
                                                              · rw [if_pos c50] at H
                                                                have c50b0 : (a0_0 == 64) = true := beq_iff_eq.mpr c50
                                                                have c50b1 : (a0_0 != 64) = false := bne_eq_false_iff_eq.mpr c50
                                                                clear c50
                                                                replace H := Option.bind_eq_some_iff.mp H
                                                                obtain ⟨t147, A510, H⟩ := H
                                                                replace H : (some ((t147) % 4294967296, true)) = some (r1, r2) := H
                                                                have A51 := Aside0.mk A510
                                                                clear A510
                                                                simp only [Option.some.injEq, Prod.mk.injEq] at H
                                                                obtain ⟨rfl, rfl⟩ := H
                                                                go_wp2_with (first | ((with_reducible refine gate_callee (f := 40) rfl ?_); refine goesL_ (some 133) rfl rfl Try.func40 (by kernel_rfl) rfl #[.int .u32 a1] rfl (by (try simp only [List.map_toArray, List.map_cons, List.map_nil]); first | done | rfl | (simp only [List.length_drop, List.length_take]; rfl)) ?_; (with_reducible refine (pianolaref1_Clz.calls kj37 a1 t147 _ A51.out).mono ?_); rintro e w' ⟨rfl, ⟨nd, rfl⟩⟩; refine ⟨_, rfl, ?_⟩) | (go_at_call 40; (with_reducible refine (pianolaref1_Clz.calls kj37 a1 t147 _ A51.out).mono ?_); rintro e w' ⟨rfl, ⟨nd, rfl⟩⟩))
                                                                go_ret2
                                                                exact ⟨by first | rfl | (simp [errW_none, errW_some] <;> rfl) | (simp [*, errW_none, errW_some] <;> rfl), by repeat (first | (with_reducible first | exact HB.out | apply below_alloc | apply pw_below_drewN | apply below_drew1 | refine below_set ?_ GE137.out) | exact HB.out)⟩
                                                              · rw [if_neg c50] at H
                                                                have c50b0 : (a0_0 == 64) = false := beq_eq_false_iff_ne.mpr c50
                                                                have c50b1 : (a0_0 != 64) = true := bne_iff_ne.mpr c50
                                                                by_cases c52 : a0_0 = 65
                                                                · rw [if_pos c52] at H
                                                                  have c52b0 : (a0_0 == 65) = true := beq_iff_eq.mpr c52
                                                                  have c52b1 : (a0_0 != 65) = false := bne_eq_false_iff_eq.mpr c52
                                                                  clear c52
                                                                  replace H := Option.bind_eq_some_iff.mp H
                                                                  obtain ⟨t148, A530, H⟩ := H
                                                                  replace H : (some ((t148) % 4294967296, true)) = some (r1, r2) := H
                                                                  have A53 := Aside0.mk A530
                                                                  clear A530
                                                                  simp only [Option.some.injEq, Prod.mk.injEq] at H
                                                                  obtain ⟨rfl, rfl⟩ := H
                                                                  go_wp2_with (first | ((with_reducible refine gate_callee (f := 41) rfl ?_); refine goesL_ (some 138) rfl rfl Try.func41 (by kernel_rfl) rfl #[.int .u32 a1] rfl (by (try simp only [List.map_toArray, List.map_cons, List.map_nil]); first | done | rfl | (simp only [List.length_drop, List.length_take]; rfl)) ?_; (with_reducible refine (pianolaref1_Clo.calls kj37 a1 t148 _ A53.out).mono ?_); rintro e w' ⟨rfl, ⟨nd, rfl⟩⟩; refine ⟨_, rfl, ?_⟩) | (go_at_call 41; (with_reducible refine (pianolaref1_Clo.calls kj37 a1 t148 _ A53.out).mono ?_); rintro e w' ⟨rfl, ⟨nd, rfl⟩⟩))
                                                                  go_ret2
                                                                  exact ⟨by first | rfl | (simp [errW_none, errW_some] <;> rfl) | (simp [*, errW_none, errW_some] <;> rfl), by repeat (first | (with_reducible first | exact HB.out | apply below_alloc | apply pw_below_drewN | apply below_drew1 | refine below_set ?_ GE137.out) | exact HB.out)⟩
                                                                · rw [if_neg c52] at H
                                                                  have c52b0 : (a0_0 == 65) = false := beq_eq_false_iff_ne.mpr c52
                                                                  have c52b1 : (a0_0 != 65) = true := bne_iff_ne.mpr c52
                                                                  simp only [Option.some.injEq, Prod.mk.injEq] at H
                                                                  obtain ⟨rfl, rfl⟩ := H
                                                                  go_wp2
                                                                  go_ret2
                                                                  exact ⟨by first | rfl | (simp [errW_none, errW_some] <;> rfl) | (simp [*, errW_none, errW_some] <;> rfl), by repeat (first | (with_reducible first | exact HB.out | apply below_alloc | apply pw_below_drewN | apply below_drew1 | refine below_set ?_ GE137.out) | exact HB.out)⟩

end Go.Proofs.Ytimbfflnlalanaa.Q
