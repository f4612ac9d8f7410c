-- Written by a program of this session: a turned copy of the kit's print (wip/print/fork.py), whose words lie beside.
import Derived.Test.YtimbfflnlalanaaQx0
namespace Go.Proofs.Ytimbfflnlalanaa.Q
open Go.RowKit Go.Proofs.YtimbfflnlalanaaW.PrintWords Go.Proofs.YtimbfflnlalanaaW.PrintLast Go.Proofs.YtimbfflnlalanaaW.PrintMore
attribute [local go_sem] max2_int min2_int max_two min_two max_three min_three max_four min_four   -- for this text's walks alone
set_option linter.unusedVariables false
set_option linter.unusedSimpArgs false

/-! ### pianolakeep_only: function 47 -/
def pianolakeep_only.f (a0_0 : Int) (a0_1 : Int) (a0_2 : Int) (a0_3 : Int) (a0_4 : Int) (a0_5 : Int) (a1 : Int) : Option (Int × Int × Int × Int × Int × Int) := if a1 = 0 then (some (a0_0, 1, 0, 0, 0, 0)) else (if a1 = 1 then (some (a0_0, 0, 1, 0, 0, 0)) else (if a1 = 2 then (some (a0_0, 0, 0, 1, 0, 0)) else (if a1 = 3 then (some (a0_0, 0, 0, 0, 1, 0)) else (if a1 = 4 then (some (a0_0, 0, 0, 0, 0, a0_5)) else (some (a0_0, 0, 0, 0, 0, 1))))))
set_option maxHeartbeats 8000000 in
set_option maxRecDepth 100000 in
theorem pianolakeep_only.calls (a0_0 : Int) (a0_1 : Int) (a0_2 : Int) (a0_3 : Int) (a0_4 : Int) (a0_5 : Int) (a1 : Int) (r1 : Int) (r2 : Int) (r3 : Int) (r4 : Int) (r5 : Int) (r6 : Int) (w : World) (h : pianolakeep_only.f a0_0 a0_1 a0_2 a0_3 a0_4 a0_5 a1 = some (r1, r2, r3, r4, r5, r6)) :
    Calls Try.prog 47 #[.agg #[.int .i64 a0_0, .int .i64 a0_1, .int .i64 a0_2, .int .i64 a0_3, .int .i64 a0_4, .int .u32 a0_5], .int .i64 a1] w fun e w' => e = .returned (.agg #[.int .i64 r1, .int .i64 r2, .int .i64 r3, .int .i64 r4, .int .i64 r5, .int .u32 r6]) ∧ Below w.heap.size w w' := by
  unfold pianolakeep_only.f at h
  go_enter Try.func47, Try.ntmps47
  go_wp2
  all_goals
    simp_all only [beq_iff_eq, beq_eq_false_iff_ne, ne_eq, if_true, if_false, Option.some.injEq, Prod.mk.injEq, not_false_eq_true, ite_true, ite_false, reduceIte]
    obtain ⟨rfl, rfl, rfl, rfl, rfl, rfl⟩ := h
    refine bodyPost_ret (v := .agg #[.int .i64 _, .int .i64 _, .int .i64 _, .int .i64 _, .int .i64 _, .int .u32 _]) (by simp [results, Try.results47, go_sem] <;> rfl) rfl ⟨rfl, by repeat (first | exact Below.refl _ _ | apply below_alloc | apply pw_below_drewN | apply below_drew1)⟩

end Go.Proofs.Ytimbfflnlalanaa.Q
