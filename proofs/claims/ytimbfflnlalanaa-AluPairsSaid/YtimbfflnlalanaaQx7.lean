-- Written by a program of this session: a turned copy of the kit's print (wip/print/fork.py), whose words lie beside.
import Derived.Test.YtimbfflnlalanaaQx0
import Derived.Test.YtimbfflnlalanaaQx1
import Derived.Test.YtimbfflnlalanaaQx2
import Derived.Test.YtimbfflnlalanaaQx3
import Derived.Test.YtimbfflnlalanaaQx5
import Derived.Test.YtimbfflnlalanaaQx6
namespace Go.Proofs.Ytimbfflnlalanaa.Q
open Go.RowKit Go.Proofs.YtimbfflnlalanaaW.PrintWords Go.Proofs.YtimbfflnlalanaaW.PrintLast Go.Proofs.YtimbfflnlalanaaW.PrintMore
attribute [local go_sem] max2_int min2_int max_two min_two max_three min_three max_four min_four   -- for this text's walks alone
set_option linter.unusedVariables false
set_option linter.unusedSimpArgs false

/-! ### pianolaref4_Traps: function 24 -/
def pianolaref4_Traps.j0 : Nat → Int → Int → Int → Bool → Int → Int → Int → Int → Int → Int → Option (Bool)
  | 0, _, _, _, _, _, _, _, _, _, _ => none
  | k + 1, x1, x2, x8, x9, x181000, x181001, x181002, x181003, x181004, x181005 => if x9 = true then ((pianolaref1_Over.f x1 x2 (x181000 == 24)).bind fun t181 => (some t181)) else (if x8 = 46 then ((pianolaref1_Sign.f x181005 16).bind fun t182 => ((pianolaref1_Over.f x1 t182 false).bind fun t183 => (some t183))) else (if x8 = 32 then ((pianolaref1_Less.f x1 x2 true).bind fun t184 => (some (!t184))) else (if x8 = 33 then ((pianolaref1_Less.f x1 x2 true).bind fun t185 => (some t185)) else (if x8 = 34 then (some (x1 == x2)) else (if x8 = 35 then (some (x1 != x2)) else (some false))))))
def pianolaref4_Traps.f (k : Nat) (a0_0 : Int) (a0_1 : Int) (a0_2 : Int) (a0_3 : Int) (a0_4 : Int) (a0_5 : Int) (a1 : Int) (a2 : Int) : Option (Bool) := if a0_0 = 22 then (pianolaref4_Traps.j0 k a1 a2 a0_0 (a0_0 == 22) a0_0 a0_1 a0_2 a0_3 a0_4 a0_5) else (pianolaref4_Traps.j0 k a1 a2 a0_0 (a0_0 == 24) a0_0 a0_1 a0_2 a0_3 a0_4 a0_5)
theorem pianolaref4_Traps.mono_l : ∀ k, (∀ y0 y1 y2 y3 y4 y5 y6 y7 y8 y9, LeO (pianolaref4_Traps.j0 k y0 y1 y2 y3 y4 y5 y6 y7 y8 y9) (pianolaref4_Traps.j0 (k + 1) y0 y1 y2 y3 y4 y5 y6 y7 y8 y9))
  | 0 => fun _ _ _ _ _ _ _ _ _ _ r h => by simp [pianolaref4_Traps.j0] at h
  | k + 1 => by
    have ih0 := pianolaref4_Traps.mono_l k
    · intro y0 y1 y2 y3 y4 y5 y6 y7 y8 y9
      unfold pianolaref4_Traps.j0
      repeat' first
      | (with_reducible exact ih0 _ _ _ _ _ _ _ _ _ _)
      | (with_reducible exact LeO.refl _)
      | (with_reducible exact LeO.none _)
      | (with_reducible refine LeO.ite ?_ ?_)
      | (with_reducible refine LeO.bind ?_ (fun _ => ?_))
      | exact ih0 _ _ _ _ _ _ _ _ _ _
      | exact LeO.none _
      | refine LeO.ite ?_ ?_
      | refine LeO.bind ?_ (fun _ => ?_)
theorem pianolaref4_Traps.mono : ∀ a0 a1 a2 a3 a4 a5 a6 a7 k, LeO (pianolaref4_Traps.f k a0 a1 a2 a3 a4 a5 a6 a7) (pianolaref4_Traps.f (k + 1) a0 a1 a2 a3 a4 a5 a6 a7) := by
  intro a0 a1 a2 a3 a4 a5 a6 a7 k
  have ih0 := pianolaref4_Traps.mono_l k
  unfold pianolaref4_Traps.f
  repeat' first
      | (with_reducible exact ih0 _ _ _ _ _ _ _ _ _ _)
      | (with_reducible exact LeO.refl _)
      | (with_reducible exact LeO.none _)
      | (with_reducible refine LeO.ite ?_ ?_)
      | (with_reducible refine LeO.bind ?_ (fun _ => ?_))
      | exact ih0 _ _ _ _ _ _ _ _ _ _
      | exact LeO.none _
      | refine LeO.ite ?_ ?_
      | refine LeO.bind ?_ (fun _ => ?_)
set_option maxHeartbeats 8000000 in
set_option maxRecDepth 100000 in
theorem pianolaref4_Traps.calls (k : Nat) (a0_0 : Int) (a0_1 : Int) (a0_2 : Int) (a0_3 : Int) (a0_4 : Int) (a0_5 : Int) (a1 : Int) (a2 : Int) (r : Bool) (w : World) (h : pianolaref4_Traps.f k a0_0 a0_1 a0_2 a0_3 a0_4 a0_5 a1 a2 = some r) :
    Calls Try.prog 24 #[.agg #[.int .i64 a0_0, .int .i64 a0_1, .int .i64 a0_2, .int .i64 a0_3, .int .i64 a0_4, .int .u32 a0_5], .int .u32 a1, .int .u32 a2] w fun e w' => e = .returned (.bool r) ∧ Below w.heap.size w w' := by
  have hu26 := Try.underlying26
  have HB := Aside0.mk (Below.refl w.heap.size w)
  have H : (if a0_0 = 22 then (pianolaref4_Traps.j0 k a1 a2 a0_0 (a0_0 == 22) a0_0 a0_1 a0_2 a0_3 a0_4 a0_5) else (pianolaref4_Traps.j0 k a1 a2 a0_0 (a0_0 == 24) a0_0 a0_1 a0_2 a0_3 a0_4 a0_5)) = some r := h
  clear h
  have HC4 := Aside0.mk H
  clear H
  go_enter Try.func24, Try.ntmps24
  go_upto_if 9 with (first | ((with_reducible refine gate_dst (N := 3) rfl ?_); refine box_event ?hg (N := 3) ?hd (cs := #[.int .i64 a0_0, .int .i64 a0_1, .int .i64 a0_2, .int .i64 a0_3, .int .i64 a0_4, .int .u32 a0_5]) (t := 26) ?hr ?_; (case hd => rfl); (case hg => rfl); (case hr => first | (go_simp; done) | (go_simp; rfl)); intro gb180 hg w5 hbox hb; have n0_ := Aside0.mk (below_step (by repeat (first | (with_reducible first | exact HB.out | apply below_alloc | apply pw_below_drewN | apply below_drew1) | exact HB.out)) hb); have n1_ := Aside0.mk (hbox); have n2_ := Aside0.mk ((by rw [hg]; exact (below_size (by repeat (first | (with_reducible first | exact HB.out | apply below_alloc | apply pw_below_drewN | apply below_drew1) | exact HB.out))) : w.heap.size ≤ gb180)); have n3_ := Aside0.mk ((by rw [hg]; exact (below_size (by repeat (first | (with_reducible first | exact HB.out | apply below_alloc | apply pw_below_drewN | apply below_drew1) | exact HB.out))) : w.heap.size ≤ gb180)); clear HB; have HB := n0_; have BK180 := n1_; have GW180 := n2_; have GE180 := n3_; clear n0_ n1_ n2_ n3_; clear hb hbox hg; have hcz6_0 : w5.cell? ⟨gb180, 0, none⟩ = some (.int .i64 a0_0) := (blk_cell BK180.out 0).trans rfl; have hcz6_1 : w5.cell? ⟨gb180, 1, none⟩ = some (.int .i64 a0_1) := (blk_cell BK180.out 1).trans rfl; have hcz6_2 : w5.cell? ⟨gb180, 2, none⟩ = some (.int .i64 a0_2) := (blk_cell BK180.out 2).trans rfl; have hcz6_3 : w5.cell? ⟨gb180, 3, none⟩ = some (.int .i64 a0_3) := (blk_cell BK180.out 3).trans rfl; have hcz6_4 : w5.cell? ⟨gb180, 4, none⟩ = some (.int .i64 a0_4) := (blk_cell BK180.out 4).trans rfl; have hcz6_5 : w5.cell? ⟨gb180, 5, none⟩ = some (.int .u32 a0_5) := (blk_cell BK180.out 5).trans rfl; have hfz6_0 := blk_frozen BK180.out 0; have hfz6_1 := blk_frozen BK180.out 1; have hfz6_2 := blk_frozen BK180.out 2; have hfz6_3 := blk_frozen BK180.out 3; have hfz6_4 := blk_frozen BK180.out 4; have hfz6_5 := blk_frozen BK180.out 5))
  (try simp only [Act.put, List.setIfInBounds_toArray, List.set_cons_zero, List.set_cons_succ])
  go_cut [9] (fun v9 wc => ∃ (kq : Nat) (x9_3 : Bool), v9 = .bool x9_3 ∧ Aside0 (pianolaref4_Traps.j0 kq a1 a2 a0_0 x9_3 a0_0 a0_1 a0_2 a0_3 a0_4 a0_5 = some r) ∧ Aside0 (kq ≤ k) ∧ Aside0 (wc.heap[gb180]? = some (.cells #[.int .i64 a0_0, .int .i64 a0_1, .int .i64 a0_2, .int .i64 a0_3, .int .i64 a0_4, .int .u32 a0_5] 26 (0, 0))) ∧ Aside0 (Below w.heap.size w wc))
  case first =>
    have H := HC4.out
    clear HC4
    by_cases c7 : a0_0 = 22
    · rw [if_pos c7] at H
      have c7b0 : (a0_0 == 22) = true := beq_iff_eq.mpr c7
      have c7b1 : (a0_0 != 22) = false := bne_eq_false_iff_eq.mpr c7
      clear c7
      (first | rw [c7b0] | (simp only [i64_w, i32_w]; rw [c7b0]) | skip)
      have H' := Aside0.mk H
      clear H
      go_wp2
      go_meet
      case rel => exact ⟨_, ((a0_0 == 22)), (by first | rfl | (simp; done) | (simp [*]; done) | (simp; omega)), H', ⟨by first | omega | exact Nat.le_refl _⟩, ⟨by (with_reducible repeat (first | refine blk_drewN ?_ _ | refine blk_drew ?_ | refine blk_alloc ?_ _)); exact BK180.out⟩, ⟨by repeat (first | (with_reducible first | exact HB.out | apply below_alloc | apply pw_below_drewN | apply below_drew1 | refine below_set ?_ GE180.out) | exact HB.out)⟩⟩
    · rw [if_neg c7] at H
      have c7b0 : (a0_0 == 22) = false := beq_eq_false_iff_ne.mpr c7
      have c7b1 : (a0_0 != 22) = true := bne_iff_ne.mpr c7
      (first | rw [c7b0] | (simp only [i64_w, i32_w]; rw [c7b0]) | skip)
      have H' := Aside0.mk H
      clear H
      go_wp2
      go_meet
      case rel => exact ⟨_, ((a0_0 == 24)), (by first | rfl | (simp; done) | (simp [*]; done) | (simp; omega)), H', ⟨by first | omega | exact Nat.le_refl _⟩, ⟨by (with_reducible repeat (first | refine blk_drewN ?_ _ | refine blk_drew ?_ | refine blk_alloc ?_ _)); exact BK180.out⟩, ⟨by repeat (first | (with_reducible first | exact HB.out | apply below_alloc | apply pw_below_drewN | apply below_drew1 | refine below_set ?_ GE180.out) | exact HB.out)⟩⟩
  case rest =>
    clear HC4
    try clear c2
    try clear p2
    try clear c7
    try clear c7b0
    try clear c7b1
    try clear hcz6_0
    try clear hcz6_1
    try clear hcz6_2
    try clear hcz6_3
    try clear hcz6_4
    try clear hcz6_5
    try clear hfz6_0
    try clear hfz6_1
    try clear hfz6_2
    try clear hfz6_3
    try clear hfz6_4
    try clear hfz6_5
    obtain ⟨kq, x9_3, rfl, HA, HJ3, BK180, HB⟩ := hcut
    cases kq with
    | zero => exact absurd HA.out (by simp [pianolaref4_Traps.j0])
    | succ kj3 =>
      have H := HA.out
      clear HA
      simp only [pianolaref4_Traps.j0] at H
      by_cases c8 : x9_3 = true
      · subst c8
        have H1 : ((pianolaref1_Over.f a1 a2 (a0_0 == 24)).bind fun t181 => (some t181)) = some r := by rw [if_pos rfl] at H; exact H
        clear H
        have H := H1
        clear H1
        replace H := Option.bind_eq_some_iff.mp H
        obtain ⟨t181, A90, H⟩ := H
        replace H : (some t181) = some r := H
        have A9 := Aside0.mk A90
        clear A90
        obtain rfl := Option.some.inj H
        have hcz10_0 : wc.cell? ⟨gb180, 0, none⟩ = some (.int .i64 a0_0) := (blk_cell BK180.out 0).trans rfl
        have hcz10_1 : wc.cell? ⟨gb180, 1, none⟩ = some (.int .i64 a0_1) := (blk_cell BK180.out 1).trans rfl
        have hcz10_2 : wc.cell? ⟨gb180, 2, none⟩ = some (.int .i64 a0_2) := (blk_cell BK180.out 2).trans rfl
        have hcz10_3 : wc.cell? ⟨gb180, 3, none⟩ = some (.int .i64 a0_3) := (blk_cell BK180.out 3).trans rfl
        have hcz10_4 : wc.cell? ⟨gb180, 4, none⟩ = some (.int .i64 a0_4) := (blk_cell BK180.out 4).trans rfl
        have hcz10_5 : wc.cell? ⟨gb180, 5, none⟩ = some (.int .u32 a0_5) := (blk_cell BK180.out 5).trans rfl
        have hfz10_0 := blk_frozen BK180.out 0
        have hfz10_1 := blk_frozen BK180.out 1
        have hfz10_2 := blk_frozen BK180.out 2
        have hfz10_3 := blk_frozen BK180.out 3
        have hfz10_4 := blk_frozen BK180.out 4
        have hfz10_5 := blk_frozen BK180.out 5
        go_wp2_with (first | ((with_reducible refine gate_callee (f := 44) rfl ?_); refine goesL_ (some 17) rfl rfl Try.func44 (by kernel_rfl) rfl #[.int .u32 a1, .int .u32 a2, .bool (a0_0 == 24)] rfl (by (try simp only [List.map_toArray, List.map_cons, List.map_nil]); first | done | rfl | (simp only [List.length_drop, List.length_take]; rfl)) ?_; (with_reducible refine (pianolaref1_Over.calls a1 a2 (a0_0 == 24) t181 _ A9.out).mono ?_); rintro e w' ⟨rfl, ⟨nd, rfl⟩⟩; refine ⟨_, rfl, ?_⟩) | (go_at_call 44; (with_reducible refine (pianolaref1_Over.calls a1 a2 (a0_0 == 24) t181 _ A9.out).mono ?_); rintro e w' ⟨rfl, ⟨nd, rfl⟩⟩))
        go_ret
        exact ⟨by first | rfl | (simp [errW_none, errW_some] <;> rfl) | (simp [*, errW_none, errW_some] <;> rfl), by repeat (first | (with_reducible first | exact HB.out | apply below_alloc | apply pw_below_drewN | apply below_drew1 | refine below_set ?_ GE180.out) | exact HB.out)⟩
      · replace c8 := Bool.eq_false_iff.mpr c8
        subst c8
        have H1 : (if a0_0 = 46 then ((pianolaref1_Sign.f a0_5 16).bind fun t182 => ((pianolaref1_Over.f a1 t182 false).bind fun t183 => (some t183))) else (if a0_0 = 32 then ((pianolaref1_Less.f a1 a2 true).bind fun t184 => (some (!t184))) else (if a0_0 = 33 then ((pianolaref1_Less.f a1 a2 true).bind fun t185 => (some t185)) else (if a0_0 = 34 then (some (a1 == a2)) else (if a0_0 = 35 then (some (a1 != a2)) else (some false)))))) = some r := by rw [if_neg (show ¬ (false = true) by decide)] at H; exact H
        clear H
        have H := H1
        clear H1
        by_cases c11 : a0_0 = 46
        · rw [if_pos c11] at H
          have c11b0 : (a0_0 == 46) = true := beq_iff_eq.mpr c11
          have c11b1 : (a0_0 != 46) = false := bne_eq_false_iff_eq.mpr c11
          clear c11
          replace H := Option.bind_eq_some_iff.mp H
          obtain ⟨t182, A120, H⟩ := H
          replace H : ((pianolaref1_Over.f a1 t182 false).bind fun t183 => (some t183)) = some r := H
          have A12 := Aside0.mk A120
          clear A120
          replace H := Option.bind_eq_some_iff.mp H
          obtain ⟨t183, A130, H⟩ := H
          replace H : (some t183) = some r := H
          have A13 := Aside0.mk A130
          clear A130
          obtain rfl := Option.some.inj H
          have hcz14_0 : wc.cell? ⟨gb180, 0, none⟩ = some (.int .i64 a0_0) := (blk_cell BK180.out 0).trans rfl
          have hcz14_1 : wc.cell? ⟨gb180, 1, none⟩ = some (.int .i64 a0_1) := (blk_cell BK180.out 1).trans rfl
          have hcz14_2 : wc.cell? ⟨gb180, 2, none⟩ = some (.int .i64 a0_2) := (blk_cell BK180.out 2).trans rfl
          have hcz14_3 : wc.cell? ⟨gb180, 3, none⟩ = some (.int .i64 a0_3) := (blk_cell BK180.out 3).trans rfl
          have hcz14_4 : wc.cell? ⟨gb180, 4, none⟩ = some (.int .i64 a0_4) := (blk_cell BK180.out 4).trans rfl
          have hcz14_5 : wc.cell? ⟨gb180, 5, none⟩ = some (.int .u32 a0_5) := (blk_cell BK180.out 5).trans rfl
          have hfz14_0 := blk_frozen BK180.out 0
          have hfz14_1 := blk_frozen BK180.out 1
          have hfz14_2 := blk_frozen BK180.out 2
          have hfz14_3 := blk_frozen BK180.out 3
          have hfz14_4 := blk_frozen BK180.out 4
          have hfz14_5 := blk_frozen BK180.out 5
          go_wp2_with (first | ((with_reducible refine gate_callee (f := 35) rfl ?_); refine goesL_ (some 23) rfl rfl Try.func35 (by kernel_rfl) rfl #[.int .u32 a0_5, .int .i64 16] rfl (by (try simp only [List.map_toArray, List.map_cons, List.map_nil]); first | done | rfl | (simp only [List.length_drop, List.length_take]; rfl)) ?_; (with_reducible refine (pianolaref1_Sign.calls a0_5 16 t182 _ A12.out).mono ?_); rintro e w' ⟨rfl, ⟨nd, rfl⟩⟩; refine ⟨_, rfl, ?_⟩) | ((with_reducible refine gate_callee (f := 44) rfl ?_); refine goesL_ (some 24) rfl rfl Try.func44 (by kernel_rfl) rfl #[.int .u32 a1, .int .u32 t182, .bool false] rfl (by (try simp only [List.map_toArray, List.map_cons, List.map_nil]); first | done | rfl | (simp only [List.length_drop, List.length_take]; rfl)) ?_; (with_reducible refine (pianolaref1_Over.calls a1 t182 false t183 _ A13.out).mono ?_); rintro e w' ⟨rfl, ⟨nd, rfl⟩⟩; refine ⟨_, rfl, ?_⟩) | (go_at_call 35; (with_reducible refine (pianolaref1_Sign.calls a0_5 16 t182 _ A12.out).mono ?_); rintro e w' ⟨rfl, ⟨nd, rfl⟩⟩) | (go_at_call 44; (with_reducible refine (pianolaref1_Over.calls a1 t182 false t183 _ A13.out).mono ?_); rintro e w' ⟨rfl, ⟨nd, rfl⟩⟩))
          go_ret
          exact ⟨by first | rfl | (simp [errW_none, errW_some] <;> rfl) | (simp [*, errW_none, errW_some] <;> rfl), by repeat (first | (with_reducible first | exact HB.out | apply below_alloc | apply pw_below_drewN | apply below_drew1 | refine below_set ?_ GE180.out) | exact HB.out)⟩
        · rw [if_neg c11] at H
          have c11b0 : (a0_0 == 46) = false := beq_eq_false_iff_ne.mpr c11
          have c11b1 : (a0_0 != 46) = true := bne_iff_ne.mpr c11
          by_cases c15 : a0_0 = 32
          · rw [if_pos c15] at H
            have c15b0 : (a0_0 == 32) = true := beq_iff_eq.mpr c15
            have c15b1 : (a0_0 != 32) = false := bne_eq_false_iff_eq.mpr c15
            clear c15
            replace H := Option.bind_eq_some_iff.mp H
            obtain ⟨t184, A160, H⟩ := H
            replace H : (some (!t184)) = some r := H
            have A16 := Aside0.mk A160
            clear A160
            obtain rfl := Option.some.inj H
            go_wp2_with (first | ((with_reducible refine gate_callee (f := 38) rfl ?_); refine goesL_ (some 29) rfl rfl Try.func38 (by kernel_rfl) rfl #[.int .u32 a1, .int .u32 a2, .bool true] rfl (by (try simp only [List.map_toArray, List.map_cons, List.map_nil]); first | done | rfl | (simp only [List.length_drop, List.length_take]; rfl)) ?_; (with_reducible refine (pianolaref1_Less.calls a1 a2 true t184 _ A16.out).mono ?_); rintro e w' ⟨rfl, ⟨nd, rfl⟩⟩; refine ⟨_, rfl, ?_⟩) | (go_at_call 38; (with_reducible refine (pianolaref1_Less.calls a1 a2 true t184 _ A16.out).mono ?_); rintro e w' ⟨rfl, ⟨nd, rfl⟩⟩))
            go_ret
            exact ⟨by first | rfl | (simp [errW_none, errW_some] <;> rfl) | (simp [*, errW_none, errW_some] <;> rfl), by repeat (first | (with_reducible first | exact HB.out | apply below_alloc | apply pw_below_drewN | apply below_drew1 | refine below_set ?_ GE180.out) | exact HB.out)⟩
          · rw [if_neg c15] at H
            have c15b0 : (a0_0 == 32) = false := beq_eq_false_iff_ne.mpr c15
            have c15b1 : (a0_0 != 32) = true := bne_iff_ne.mpr c15
            by_cases c17 : a0_0 = 33
            · rw [if_pos c17] at H
              have c17b0 : (a0_0 == 33) = true := beq_iff_eq.mpr c17
              have c17b1 : (a0_0 != 33) = false := bne_eq_false_iff_eq.mpr c17
              clear c17
              replace H := Option.bind_eq_some_iff.mp H
              obtain ⟨t185, A180, H⟩ := H
              replace H : (some t185) = some r := H
              have A18 := Aside0.mk A180
              clear A180
              obtain rfl := Option.some.inj H
              go_wp2_with (first | ((with_reducible refine gate_callee (f := 38) rfl ?_); refine goesL_ (some 35) rfl rfl Try.func38 (by kernel_rfl) rfl #[.int .u32 a1, .int .u32 a2, .bool true] rfl (by (try simp only [List.map_toArray, List.map_cons, List.map_nil]); first | done | rfl | (simp only [List.length_drop, List.length_take]; rfl)) ?_; (with_reducible refine (pianolaref1_Less.calls a1 a2 true t185 _ A18.out).mono ?_); rintro e w' ⟨rfl, ⟨nd, rfl⟩⟩; refine ⟨_, rfl, ?_⟩) | (go_at_call 38; (with_reducible refine (pianolaref1_Less.calls a1 a2 true t185 _ A18.out).mono ?_); rintro e w' ⟨rfl, ⟨nd, rfl⟩⟩))
              go_ret
              exact ⟨by first | rfl | (simp [errW_none, errW_some] <;> rfl) | (simp [*, errW_none, errW_some] <;> rfl), by repeat (first | (with_reducible first | exact HB.out | apply below_alloc | apply pw_below_drewN | apply below_drew1 | refine below_set ?_ GE180.out) | exact HB.out)⟩
            · rw [if_neg c17] at H
              have c17b0 : (a0_0 == 33) = false := beq_eq_false_iff_ne.mpr c17
              have c17b1 : (a0_0 != 33) = true := bne_iff_ne.mpr c17
              by_cases c19 : a0_0 = 34
              · rw [if_pos c19] at H
                have c19b0 : (a0_0 == 34) = true := beq_iff_eq.mpr c19
                have c19b1 : (a0_0 != 34) = false := bne_eq_false_iff_eq.mpr c19
                clear c19
                obtain rfl := Option.some.inj H
                go_wp2
                go_ret
                exact ⟨by first | rfl | (simp [errW_none, errW_some] <;> rfl) | (simp [*, errW_none, errW_some] <;> rfl), by repeat (first | (with_reducible first | exact HB.out | apply below_alloc | apply pw_below_drewN | apply below_drew1 | refine below_set ?_ GE180.out) | exact HB.out)⟩
              · rw [if_neg c19] at H
                have c19b0 : (a0_0 == 34) = false := beq_eq_false_iff_ne.mpr c19
                have c19b1 : (a0_0 != 34) = true := bne_iff_ne.mpr c19
                by_cases c20 : a0_0 = 35
                · rw [if_pos c20] at H
                  have c20b0 : (a0_0 == 35) = true := beq_iff_eq.mpr c20
                  have c20b1 : (a0_0 != 35) = false := bne_eq_false_iff_eq.mpr c20
                  clear c20
                  obtain rfl := Option.some.inj H
                  go_wp2
                  go_ret
                  exact ⟨by first | rfl | (simp [errW_none, errW_some] <;> rfl) | (simp [*, errW_none, errW_some] <;> rfl), by repeat (first | (with_reducible first | exact HB.out | apply below_alloc | apply pw_below_drewN | apply below_drew1 | refine below_set ?_ GE180.out) | exact HB.out)⟩
                · rw [if_neg c20] at H
                  have c20b0 : (a0_0 == 35) = false := beq_eq_false_iff_ne.mpr c20
                  have c20b1 : (a0_0 != 35) = true := bne_iff_ne.mpr c20
                  obtain rfl := Option.some.inj H
                  go_wp2
                  go_ret
                  exact ⟨by first | rfl | (simp [errW_none, errW_some] <;> rfl) | (simp [*, errW_none, errW_some] <;> rfl), by repeat (first | (with_reducible first | exact HB.out | apply below_alloc | apply pw_below_drewN | apply below_drew1 | refine below_set ?_ GE180.out) | exact HB.out)⟩

/-! ### pianolaref4_Is: function 25 -/
def pianolaref4_Is.f (a0 : Int) : Option (Bool) := if a0 ≥ 1 then (if a0 ≤ 6 then (some true) else (if a0 ≥ 22 then (if a0 ≤ 31 then (some true) else (if a0 ≥ 46 then (if a0 ≤ 53 then (some true) else (if a0 = 63 then (some true) else (if a0 = 64 then (some true) else (some (a0 == 65))))) else (if a0 = 63 then (some true) else (if a0 = 64 then (some true) else (some (a0 == 65)))))) else (if a0 ≥ 46 then (if a0 ≤ 53 then (some true) else (if a0 = 63 then (some true) else (if a0 = 64 then (some true) else (some (a0 == 65))))) else (if a0 = 63 then (some true) else (if a0 = 64 then (some true) else (some (a0 == 65))))))) else (if a0 ≥ 22 then (if a0 ≤ 31 then (some true) else (if a0 ≥ 46 then (if a0 ≤ 53 then (some true) else (if a0 = 63 then (some true) else (if a0 = 64 then (some true) else (some (a0 == 65))))) else (if a0 = 63 then (some true) else (if a0 = 64 then (some true) else (some (a0 == 65)))))) else (if a0 ≥ 46 then (if a0 ≤ 53 then (some true) else (if a0 = 63 then (some true) else (if a0 = 64 then (some true) else (some (a0 == 65))))) else (if a0 = 63 then (some true) else (if a0 = 64 then (some true) else (some (a0 == 65))))))
set_option maxHeartbeats 8000000 in
set_option maxRecDepth 100000 in
theorem pianolaref4_Is.calls (a0 : Int) (r : Bool) (w : World) (h : pianolaref4_Is.f a0 = some r) :
    Calls Try.prog 25 #[.int .i64 a0] w fun e w' => e = .returned (.bool r) ∧ Drawn0 w w' := by
  have H : (if a0 ≥ 1 then (if a0 ≤ 6 then (some true) else (if a0 ≥ 22 then (if a0 ≤ 31 then (some true) else (if a0 ≥ 46 then (if a0 ≤ 53 then (some true) else (if a0 = 63 then (some true) else (if a0 = 64 then (some true) else (some (a0 == 65))))) else (if a0 = 63 then (some true) else (if a0 = 64 then (some true) else (some (a0 == 65)))))) else (if a0 ≥ 46 then (if a0 ≤ 53 then (some true) else (if a0 = 63 then (some true) else (if a0 = 64 then (some true) else (some (a0 == 65))))) else (if a0 = 63 then (some true) else (if a0 = 64 then (some true) else (some (a0 == 65))))))) else (if a0 ≥ 22 then (if a0 ≤ 31 then (some true) else (if a0 ≥ 46 then (if a0 ≤ 53 then (some true) else (if a0 = 63 then (some true) else (if a0 = 64 then (some true) else (some (a0 == 65))))) else (if a0 = 63 then (some true) else (if a0 = 64 then (some true) else (some (a0 == 65)))))) else (if a0 ≥ 46 then (if a0 ≤ 53 then (some true) else (if a0 = 63 then (some true) else (if a0 = 64 then (some true) else (some (a0 == 65))))) else (if a0 = 63 then (some true) else (if a0 = 64 then (some true) else (some (a0 == 65))))))) = some r := h
  clear h
  by_cases c2 : a0 ≥ 1
  · rw [if_pos c2] at H
    have c2b0 : decide (1 ≤ a0) = true := decide_eq_true c2
    clear c2
    by_cases c3 : a0 ≤ 6
    · rw [if_pos c3] at H
      have c3b0 : decide (a0 ≤ 6) = true := decide_eq_true c3
      clear c3
      obtain rfl := Option.some.inj H
      go_enter Try.func25, Try.ntmps25
      go_wp2
      go_ret
      exact ⟨by first | rfl | (simp; done) | (simp [*]; done) | (simp; omega), by repeat (first | exact Drawn0.refl _ | apply Drawn0.step)⟩
    · rw [if_neg c3] at H
      have c3b0 : decide (a0 ≤ 6) = false := decide_eq_false c3
      clear c3
      by_cases c4 : a0 ≥ 22
      · rw [if_pos c4] at H
        have c4b0 : decide (22 ≤ a0) = true := decide_eq_true c4
        clear c4
        by_cases c5 : a0 ≤ 31
        · rw [if_pos c5] at H
          have c5b0 : decide (a0 ≤ 31) = true := decide_eq_true c5
          clear c5
          obtain rfl := Option.some.inj H
          go_enter Try.func25, Try.ntmps25
          go_wp2
          go_ret
          exact ⟨by first | rfl | (simp; done) | (simp [*]; done) | (simp; omega), by repeat (first | exact Drawn0.refl _ | apply Drawn0.step)⟩
        · rw [if_neg c5] at H
          have c5b0 : decide (a0 ≤ 31) = false := decide_eq_false c5
          clear c5
          by_cases c6 : a0 ≥ 46
          · rw [if_pos c6] at H
            have c6b0 : decide (46 ≤ a0) = true := decide_eq_true c6
            clear c6
            by_cases c7 : a0 ≤ 53
            · rw [if_pos c7] at H
              have c7b0 : decide (a0 ≤ 53) = true := decide_eq_true c7
              clear c7
              obtain rfl := Option.some.inj H
              go_enter Try.func25, Try.ntmps25
              go_wp2
              go_ret
              exact ⟨by first | rfl | (simp; done) | (simp [*]; done) | (simp; omega), by repeat (first | exact Drawn0.refl _ | apply Drawn0.step)⟩
            · rw [if_neg c7] at H
              have c7b0 : decide (a0 ≤ 53) = false := decide_eq_false c7
              clear c7
              by_cases c8 : a0 = 63
              · rw [if_pos c8] at H
                have c8b0 : (a0 == 63) = true := beq_iff_eq.mpr c8
                have c8b1 : (a0 != 63) = false := bne_eq_false_iff_eq.mpr c8
                clear c8
                obtain rfl := Option.some.inj H
                go_enter Try.func25, Try.ntmps25
                go_wp2
                go_ret
                exact ⟨by first | rfl | (simp; done) | (simp [*]; done) | (simp; omega), by repeat (first | exact Drawn0.refl _ | apply Drawn0.step)⟩
              · rw [if_neg c8] at H
                have c8b0 : (a0 == 63) = false := beq_eq_false_iff_ne.mpr c8
                have c8b1 : (a0 != 63) = true := bne_iff_ne.mpr c8
                by_cases c9 : a0 = 64
                · rw [if_pos c9] at H
                  have c9b0 : (a0 == 64) = true := beq_iff_eq.mpr c9
                  have c9b1 : (a0 != 64) = false := bne_eq_false_iff_eq.mpr c9
                  clear c9
                  obtain rfl := Option.some.inj H
                  go_enter Try.func25, Try.ntmps25
                  go_wp2
                  go_ret
                  exact ⟨by first | rfl | (simp; done) | (simp [*]; done) | (simp; omega), by repeat (first | exact Drawn0.refl _ | apply Drawn0.step)⟩
                · rw [if_neg c9] at H
                  have c9b0 : (a0 == 64) = false := beq_eq_false_iff_ne.mpr c9
                  have c9b1 : (a0 != 64) = true := bne_iff_ne.mpr c9
                  obtain rfl := Option.some.inj H
                  go_enter Try.func25, Try.ntmps25
                  go_wp2
                  go_ret
                  exact ⟨by first | rfl | (simp; done) | (simp [*]; done) | (simp; omega), by repeat (first | exact Drawn0.refl _ | apply Drawn0.step)⟩
          · rw [if_neg c6] at H
            have c6b0 : decide (46 ≤ a0) = false := decide_eq_false c6
            clear c6
            by_cases c10 : a0 = 63
            · rw [if_pos c10] at H
              have c10b0 : (a0 == 63) = true := beq_iff_eq.mpr c10
              have c10b1 : (a0 != 63) = false := bne_eq_false_iff_eq.mpr c10
              clear c10
              obtain rfl := Option.some.inj H
              go_enter Try.func25, Try.ntmps25
              go_wp2
              go_ret
              exact ⟨by first | rfl | (simp; done) | (simp [*]; done) | (simp; omega), by repeat (first | exact Drawn0.refl _ | apply Drawn0.step)⟩
            · rw [if_neg c10] at H
              have c10b0 : (a0 == 63) = false := beq_eq_false_iff_ne.mpr c10
              have c10b1 : (a0 != 63) = true := bne_iff_ne.mpr c10
              by_cases c11 : a0 = 64
              · rw [if_pos c11] at H
                have c11b0 : (a0 == 64) = true := beq_iff_eq.mpr c11
                have c11b1 : (a0 != 64) = false := bne_eq_false_iff_eq.mpr c11
                clear c11
                obtain rfl := Option.some.inj H
                go_enter Try.func25, Try.ntmps25
                go_wp2
                go_ret
                exact ⟨by first | rfl | (simp; done) | (simp [*]; done) | (simp; omega), by repeat (first | exact Drawn0.refl _ | apply Drawn0.step)⟩
              · rw [if_neg c11] at H
                have c11b0 : (a0 == 64) = false := beq_eq_false_iff_ne.mpr c11
                have c11b1 : (a0 != 64) = true := bne_iff_ne.mpr c11
                obtain rfl := Option.some.inj H
                go_enter Try.func25, Try.ntmps25
                go_wp2
                go_ret
                exact ⟨by first | rfl | (simp; done) | (simp [*]; done) | (simp; omega), by repeat (first | exact Drawn0.refl _ | apply Drawn0.step)⟩
      · rw [if_neg c4] at H
        have c4b0 : decide (22 ≤ a0) = false := decide_eq_false c4
        clear c4
        by_cases c12 : a0 ≥ 46
        · rw [if_pos c12] at H
          have c12b0 : decide (46 ≤ a0) = true := decide_eq_true c12
          clear c12
          by_cases c13 : a0 ≤ 53
          · rw [if_pos c13] at H
            have c13b0 : decide (a0 ≤ 53) = true := decide_eq_true c13
            clear c13
            obtain rfl := Option.some.inj H
            go_enter Try.func25, Try.ntmps25
            go_wp2
            go_ret
            exact ⟨by first | rfl | (simp; done) | (simp [*]; done) | (simp; omega), by repeat (first | exact Drawn0.refl _ | apply Drawn0.step)⟩
          · rw [if_neg c13] at H
            have c13b0 : decide (a0 ≤ 53) = false := decide_eq_false c13
            clear c13
            by_cases c14 : a0 = 63
            · rw [if_pos c14] at H
              have c14b0 : (a0 == 63) = true := beq_iff_eq.mpr c14
              have c14b1 : (a0 != 63) = false := bne_eq_false_iff_eq.mpr c14
              clear c14
              obtain rfl := Option.some.inj H
              go_enter Try.func25, Try.ntmps25
              go_wp2
              go_ret
              exact ⟨by first | rfl | (simp; done) | (simp [*]; done) | (simp; omega), by repeat (first | exact Drawn0.refl _ | apply Drawn0.step)⟩
            · rw [if_neg c14] at H
              have c14b0 : (a0 == 63) = false := beq_eq_false_iff_ne.mpr c14
              have c14b1 : (a0 != 63) = true := bne_iff_ne.mpr c14
              by_cases c15 : a0 = 64
              · rw [if_pos c15] at H
                have c15b0 : (a0 == 64) = true := beq_iff_eq.mpr c15
                have c15b1 : (a0 != 64) = false := bne_eq_false_iff_eq.mpr c15
                clear c15
                obtain rfl := Option.some.inj H
                go_enter Try.func25, Try.ntmps25
                go_wp2
                go_ret
                exact ⟨by first | rfl | (simp; done) | (simp [*]; done) | (simp; omega), by repeat (first | exact Drawn0.refl _ | apply Drawn0.step)⟩
              · rw [if_neg c15] at H
                have c15b0 : (a0 == 64) = false := beq_eq_false_iff_ne.mpr c15
                have c15b1 : (a0 != 64) = true := bne_iff_ne.mpr c15
                obtain rfl := Option.some.inj H
                go_enter Try.func25, Try.ntmps25
                go_wp2
                go_ret
                exact ⟨by first | rfl | (simp; done) | (simp [*]; done) | (simp; omega), by repeat (first | exact Drawn0.refl _ | apply Drawn0.step)⟩
        · rw [if_neg c12] at H
          have c12b0 : decide (46 ≤ a0) = false := decide_eq_false c12
          clear c12
          by_cases c16 : a0 = 63
          · rw [if_pos c16] at H
            have c16b0 : (a0 == 63) = true := beq_iff_eq.mpr c16
            have c16b1 : (a0 != 63) = false := bne_eq_false_iff_eq.mpr c16
            clear c16
            obtain rfl := Option.some.inj H
            go_enter Try.func25, Try.ntmps25
            go_wp2
            go_ret
            exact ⟨by first | rfl | (simp; done) | (simp [*]; done) | (simp; omega), by repeat (first | exact Drawn0.refl _ | apply Drawn0.step)⟩
          · rw [if_neg c16] at H
            have c16b0 : (a0 == 63) = false := beq_eq_false_iff_ne.mpr c16
            have c16b1 : (a0 != 63) = true := bne_iff_ne.mpr c16
            by_cases c17 : a0 = 64
            · rw [if_pos c17] at H
              have c17b0 : (a0 == 64) = true := beq_iff_eq.mpr c17
              have c17b1 : (a0 != 64) = false := bne_eq_false_iff_eq.mpr c17
              clear c17
              obtain rfl := Option.some.inj H
              go_enter Try.func25, Try.ntmps25
              go_wp2
              go_ret
              exact ⟨by first | rfl | (simp; done) | (simp [*]; done) | (simp; omega), by repeat (first | exact Drawn0.refl _ | apply Drawn0.step)⟩
            · rw [if_neg c17] at H
              have c17b0 : (a0 == 64) = false := beq_eq_false_iff_ne.mpr c17
              have c17b1 : (a0 != 64) = true := bne_iff_ne.mpr c17
              obtain rfl := Option.some.inj H
              go_enter Try.func25, Try.ntmps25
              go_wp2
              go_ret
              exact ⟨by first | rfl | (simp; done) | (simp [*]; done) | (simp; omega), by repeat (first | exact Drawn0.refl _ | apply Drawn0.step)⟩
  · rw [if_neg c2] at H
    have c2b0 : decide (1 ≤ a0) = false := decide_eq_false c2
    clear c2
    by_cases c18 : a0 ≥ 22
    · rw [if_pos c18] at H
      have c18b0 : decide (22 ≤ a0) = true := decide_eq_true c18
      clear c18
      by_cases c19 : a0 ≤ 31
      · rw [if_pos c19] at H
        have c19b0 : decide (a0 ≤ 31) = true := decide_eq_true c19
        clear c19
        obtain rfl := Option.some.inj H
        go_enter Try.func25, Try.ntmps25
        go_wp2
        go_ret
        exact ⟨by first | rfl | (simp; done) | (simp [*]; done) | (simp; omega), by repeat (first | exact Drawn0.refl _ | apply Drawn0.step)⟩
      · rw [if_neg c19] at H
        have c19b0 : decide (a0 ≤ 31) = false := decide_eq_false c19
        clear c19
        by_cases c20 : a0 ≥ 46
        · rw [if_pos c20] at H
          have c20b0 : decide (46 ≤ a0) = true := decide_eq_true c20
          clear c20
          by_cases c21 : a0 ≤ 53
          · rw [if_pos c21] at H
            have c21b0 : decide (a0 ≤ 53) = true := decide_eq_true c21
            clear c21
            obtain rfl := Option.some.inj H
            go_enter Try.func25, Try.ntmps25
            go_wp2
            go_ret
            exact ⟨by first | rfl | (simp; done) | (simp [*]; done) | (simp; omega), by repeat (first | exact Drawn0.refl _ | apply Drawn0.step)⟩
          · rw [if_neg c21] at H
            have c21b0 : decide (a0 ≤ 53) = false := decide_eq_false c21
            clear c21
            by_cases c22 : a0 = 63
            · rw [if_pos c22] at H
              have c22b0 : (a0 == 63) = true := beq_iff_eq.mpr c22
              have c22b1 : (a0 != 63) = false := bne_eq_false_iff_eq.mpr c22
              clear c22
              obtain rfl := Option.some.inj H
              go_enter Try.func25, Try.ntmps25
              go_wp2
              go_ret
              exact ⟨by first | rfl | (simp; done) | (simp [*]; done) | (simp; omega), by repeat (first | exact Drawn0.refl _ | apply Drawn0.step)⟩
            · rw [if_neg c22] at H
              have c22b0 : (a0 == 63) = false := beq_eq_false_iff_ne.mpr c22
              have c22b1 : (a0 != 63) = true := bne_iff_ne.mpr c22
              by_cases c23 : a0 = 64
              · rw [if_pos c23] at H
                have c23b0 : (a0 == 64) = true := beq_iff_eq.mpr c23
                have c23b1 : (a0 != 64) = false := bne_eq_false_iff_eq.mpr c23
                clear c23
                obtain rfl := Option.some.inj H
                go_enter Try.func25, Try.ntmps25
                go_wp2
                go_ret
                exact ⟨by first | rfl | (simp; done) | (simp [*]; done) | (simp; omega), by repeat (first | exact Drawn0.refl _ | apply Drawn0.step)⟩
              · rw [if_neg c23] at H
                have c23b0 : (a0 == 64) = false := beq_eq_false_iff_ne.mpr c23
                have c23b1 : (a0 != 64) = true := bne_iff_ne.mpr c23
                obtain rfl := Option.some.inj H
                go_enter Try.func25, Try.ntmps25
                go_wp2
                go_ret
                exact ⟨by first | rfl | (simp; done) | (simp [*]; done) | (simp; omega), by repeat (first | exact Drawn0.refl _ | apply Drawn0.step)⟩
        · rw [if_neg c20] at H
          have c20b0 : decide (46 ≤ a0) = false := decide_eq_false c20
          clear c20
          by_cases c24 : a0 = 63
          · rw [if_pos c24] at H
            have c24b0 : (a0 == 63) = true := beq_iff_eq.mpr c24
            have c24b1 : (a0 != 63) = false := bne_eq_false_iff_eq.mpr c24
            clear c24
            obtain rfl := Option.some.inj H
            go_enter Try.func25, Try.ntmps25
            go_wp2
            go_ret
            exact ⟨by first | rfl | (simp; done) | (simp [*]; done) | (simp; omega), by repeat (first | exact Drawn0.refl _ | apply Drawn0.step)⟩
          · rw [if_neg c24] at H
            have c24b0 : (a0 == 63) = false := beq_eq_false_iff_ne.mpr c24
            have c24b1 : (a0 != 63) = true := bne_iff_ne.mpr c24
            by_cases c25 : a0 = 64
            · rw [if_pos c25] at H
              have c25b0 : (a0 == 64) = true := beq_iff_eq.mpr c25
              have c25b1 : (a0 != 64) = false := bne_eq_false_iff_eq.mpr c25
              clear c25
              obtain rfl := Option.some.inj H
              go_enter Try.func25, Try.ntmps25
              go_wp2
              go_ret
              exact ⟨by first | rfl | (simp; done) | (simp [*]; done) | (simp; omega), by repeat (first | exact Drawn0.refl _ | apply Drawn0.step)⟩
            · rw [if_neg c25] at H
              have c25b0 : (a0 == 64) = false := beq_eq_false_iff_ne.mpr c25
              have c25b1 : (a0 != 64) = true := bne_iff_ne.mpr c25
              obtain rfl := Option.some.inj H
              go_enter Try.func25, Try.ntmps25
              go_wp2
              go_ret
              exact ⟨by first | rfl | (simp; done) | (simp [*]; done) | (simp; omega), by repeat (first | exact Drawn0.refl _ | apply Drawn0.step)⟩
    · rw [if_neg c18] at H
      have c18b0 : decide (22 ≤ a0) = false := decide_eq_false c18
      clear c18
      by_cases c26 : a0 ≥ 46
      · rw [if_pos c26] at H
        have c26b0 : decide (46 ≤ a0) = true := decide_eq_true c26
        clear c26
        by_cases c27 : a0 ≤ 53
        · rw [if_pos c27] at H
          have c27b0 : decide (a0 ≤ 53) = true := decide_eq_true c27
          clear c27
          obtain rfl := Option.some.inj H
          go_enter Try.func25, Try.ntmps25
          go_wp2
          go_ret
          exact ⟨by first | rfl | (simp; done) | (simp [*]; done) | (simp; omega), by repeat (first | exact Drawn0.refl _ | apply Drawn0.step)⟩
        · rw [if_neg c27] at H
          have c27b0 : decide (a0 ≤ 53) = false := decide_eq_false c27
          clear c27
          by_cases c28 : a0 = 63
          · rw [if_pos c28] at H
            have c28b0 : (a0 == 63) = true := beq_iff_eq.mpr c28
            have c28b1 : (a0 != 63) = false := bne_eq_false_iff_eq.mpr c28
            clear c28
            obtain rfl := Option.some.inj H
            go_enter Try.func25, Try.ntmps25
            go_wp2
            go_ret
            exact ⟨by first | rfl | (simp; done) | (simp [*]; done) | (simp; omega), by repeat (first | exact Drawn0.refl _ | apply Drawn0.step)⟩
          · rw [if_neg c28] at H
            have c28b0 : (a0 == 63) = false := beq_eq_false_iff_ne.mpr c28
            have c28b1 : (a0 != 63) = true := bne_iff_ne.mpr c28
            by_cases c29 : a0 = 64
            · rw [if_pos c29] at H
              have c29b0 : (a0 == 64) = true := beq_iff_eq.mpr c29
              have c29b1 : (a0 != 64) = false := bne_eq_false_iff_eq.mpr c29
              clear c29
              obtain rfl := Option.some.inj H
              go_enter Try.func25, Try.ntmps25
              go_wp2
              go_ret
              exact ⟨by first | rfl | (simp; done) | (simp [*]; done) | (simp; omega), by repeat (first | exact Drawn0.refl _ | apply Drawn0.step)⟩
            · rw [if_neg c29] at H
              have c29b0 : (a0 == 64) = false := beq_eq_false_iff_ne.mpr c29
              have c29b1 : (a0 != 64) = true := bne_iff_ne.mpr c29
              obtain rfl := Option.some.inj H
              go_enter Try.func25, Try.ntmps25
              go_wp2
              go_ret
              exact ⟨by first | rfl | (simp; done) | (simp [*]; done) | (simp; omega), by repeat (first | exact Drawn0.refl _ | apply Drawn0.step)⟩
      · rw [if_neg c26] at H
        have c26b0 : decide (46 ≤ a0) = false := decide_eq_false c26
        clear c26
        by_cases c30 : a0 = 63
        · rw [if_pos c30] at H
          have c30b0 : (a0 == 63) = true := beq_iff_eq.mpr c30
          have c30b1 : (a0 != 63) = false := bne_eq_false_iff_eq.mpr c30
          clear c30
          obtain rfl := Option.some.inj H
          go_enter Try.func25, Try.ntmps25
          go_wp2
          go_ret
          exact ⟨by first | rfl | (simp; done) | (simp [*]; done) | (simp; omega), by repeat (first | exact Drawn0.refl _ | apply Drawn0.step)⟩
        · rw [if_neg c30] at H
          have c30b0 : (a0 == 63) = false := beq_eq_false_iff_ne.mpr c30
          have c30b1 : (a0 != 63) = true := bne_iff_ne.mpr c30
          by_cases c31 : a0 = 64
          · rw [if_pos c31] at H
            have c31b0 : (a0 == 64) = true := beq_iff_eq.mpr c31
            have c31b1 : (a0 != 64) = false := bne_eq_false_iff_eq.mpr c31
            clear c31
            obtain rfl := Option.some.inj H
            go_enter Try.func25, Try.ntmps25
            go_wp2
            go_ret
            exact ⟨by first | rfl | (simp; done) | (simp [*]; done) | (simp; omega), by repeat (first | exact Drawn0.refl _ | apply Drawn0.step)⟩
          · rw [if_neg c31] at H
            have c31b0 : (a0 == 64) = false := beq_eq_false_iff_ne.mpr c31
            have c31b1 : (a0 != 64) = true := bne_iff_ne.mpr c31
            obtain rfl := Option.some.inj H
            go_enter Try.func25, Try.ntmps25
            go_wp2
            go_ret
            exact ⟨by first | rfl | (simp; done) | (simp [*]; done) | (simp; omega), by repeat (first | exact Drawn0.refl _ | apply Drawn0.step)⟩

/-! ### alu_Into: function 26 -/
def alu_Into.f (a0_0 : Int) (a0_1 : Int) (a0_2 : Int) (a0_3 : Int) (a0_4 : Int) (a0_5 : Int) : Option (Int) := (alu_Is.f a0_0).bind fun t187 => (if t187 = true then (if a0_0 ≥ 46 then (if a0_0 ≤ 53 then (some a0_2) else (some a0_3)) else (some a0_3)) else (some 0))
set_option maxHeartbeats 8000000 in
set_option maxRecDepth 100000 in
theorem alu_Into.calls (a0_0 : Int) (a0_1 : Int) (a0_2 : Int) (a0_3 : Int) (a0_4 : Int) (a0_5 : Int) (r : Int) (w : World) (h : alu_Into.f a0_0 a0_1 a0_2 a0_3 a0_4 a0_5 = some r) :
    Calls Try.prog 26 #[.agg #[.int .i64 a0_0, .int .i64 a0_1, .int .i64 a0_2, .int .i64 a0_3, .int .i64 a0_4, .int .u32 a0_5]] w fun e w' => e = .returned (.int .i64 r) ∧ Below w.heap.size w w' := by
  have hu26 := Try.underlying26
  have HB := Aside0.mk (Below.refl w.heap.size w)
  have H : ((alu_Is.f a0_0).bind fun t187 => (if t187 = true then (if a0_0 ≥ 46 then (if a0_0 ≤ 53 then (some a0_2) else (some a0_3)) else (some a0_3)) else (some 0))) = some r := h
  clear h
  replace H := Option.bind_eq_some_iff.mp H
  obtain ⟨t187, A20, H⟩ := H
  replace H : (if t187 = true then (if a0_0 ≥ 46 then (if a0_0 ≤ 53 then (some a0_2) else (some a0_3)) else (some a0_3)) else (some 0)) = some r := H
  have A2 := Aside0.mk A20
  clear A20
  by_cases c3 : t187 = true
  · subst c3
    have H1 : (if a0_0 ≥ 46 then (if a0_0 ≤ 53 then (some a0_2) else (some a0_3)) else (some a0_3)) = some r := by rw [if_pos rfl] at H; exact H
    clear H
    have H := H1
    clear H1
    by_cases c4 : a0_0 ≥ 46
    · rw [if_pos c4] at H
      have c4b0 : decide (46 ≤ a0_0) = true := decide_eq_true c4
      clear c4
      by_cases c5 : a0_0 ≤ 53
      · rw [if_pos c5] at H
        have c5b0 : decide (a0_0 ≤ 53) = true := decide_eq_true c5
        clear c5
        obtain rfl := Option.some.inj H
        go_enter Try.func26, Try.ntmps26
        go_wp2_with (first | ((with_reducible refine gate_dst (N := 1) rfl ?_); refine box_event ?hg (N := 1) ?hd (cs := #[.int .i64 a0_0, .int .i64 a0_1, .int .i64 a0_2, .int .i64 a0_3, .int .i64 a0_4, .int .u32 a0_5]) (t := 26) ?hr ?_; (case hd => rfl); (case hg => rfl); (case hr => first | (go_simp; done) | (go_simp; rfl)); intro gb186 hg w6 hbox hb; have n0_ := Aside0.mk (below_step (by repeat (first | (with_reducible first | exact HB.out | apply below_alloc | apply pw_below_drewN | apply below_drew1) | exact HB.out)) hb); have n1_ := Aside0.mk (hbox); have n2_ := Aside0.mk ((by rw [hg]; exact (below_size (by repeat (first | (with_reducible first | exact HB.out | apply below_alloc | apply pw_below_drewN | apply below_drew1) | exact HB.out))) : w.heap.size ≤ gb186)); have n3_ := Aside0.mk ((by rw [hg]; exact (below_size (by repeat (first | (with_reducible first | exact HB.out | apply below_alloc | apply pw_below_drewN | apply below_drew1) | exact HB.out))) : w.heap.size ≤ gb186)); clear HB; have HB := n0_; have BK186 := n1_; have GW186 := n2_; have GE186 := n3_; clear n0_ n1_ n2_ n3_; clear hb hbox hg; have hcz7_0 : w6.cell? ⟨gb186, 0, none⟩ = some (.int .i64 a0_0) := (blk_cell BK186.out 0).trans rfl; have hcz7_1 : w6.cell? ⟨gb186, 1, none⟩ = some (.int .i64 a0_1) := (blk_cell BK186.out 1).trans rfl; have hcz7_2 : w6.cell? ⟨gb186, 2, none⟩ = some (.int .i64 a0_2) := (blk_cell BK186.out 2).trans rfl; have hcz7_3 : w6.cell? ⟨gb186, 3, none⟩ = some (.int .i64 a0_3) := (blk_cell BK186.out 3).trans rfl; have hcz7_4 : w6.cell? ⟨gb186, 4, none⟩ = some (.int .i64 a0_4) := (blk_cell BK186.out 4).trans rfl; have hcz7_5 : w6.cell? ⟨gb186, 5, none⟩ = some (.int .u32 a0_5) := (blk_cell BK186.out 5).trans rfl; have hfz7_0 := blk_frozen BK186.out 0; have hfz7_1 := blk_frozen BK186.out 1; have hfz7_2 := blk_frozen BK186.out 2; have hfz7_3 := blk_frozen BK186.out 3; have hfz7_4 := blk_frozen BK186.out 4; have hfz7_5 := blk_frozen BK186.out 5) | ((with_reducible refine gate_callee (f := 14) rfl ?_); refine goesL_ (some 6) rfl rfl Try.func14 (by kernel_rfl) rfl #[.int .i64 a0_0] rfl (by (try simp only [List.map_toArray, List.map_cons, List.map_nil]); first | done | rfl | (simp only [List.length_drop, List.length_take]; rfl)) ?_; (with_reducible refine (alu_Is.calls a0_0 true _ A2.out).mono ?_); rintro e w' ⟨rfl, ⟨nd, rfl⟩⟩; refine ⟨_, rfl, ?_⟩) | (go_at_call 14; (with_reducible refine (alu_Is.calls a0_0 true _ A2.out).mono ?_); rintro e w' ⟨rfl, ⟨nd, rfl⟩⟩))
        go_ret
        exact ⟨by first | rfl | (simp [errW_none, errW_some] <;> rfl) | (simp [*, errW_none, errW_some] <;> rfl), by repeat (first | (with_reducible first | exact HB.out | apply below_alloc | apply pw_below_drewN | apply below_drew1 | refine below_set ?_ GE186.out) | exact HB.out)⟩
      · rw [if_neg c5] at H
        have c5b0 : decide (a0_0 ≤ 53) = false := decide_eq_false c5
        clear c5
        obtain rfl := Option.some.inj H
        go_enter Try.func26, Try.ntmps26
        go_wp2_with (first | ((with_reducible refine gate_dst (N := 1) rfl ?_); refine box_event ?hg (N := 1) ?hd (cs := #[.int .i64 a0_0, .int .i64 a0_1, .int .i64 a0_2, .int .i64 a0_3, .int .i64 a0_4, .int .u32 a0_5]) (t := 26) ?hr ?_; (case hd => rfl); (case hg => rfl); (case hr => first | (go_simp; done) | (go_simp; rfl)); intro gb186 hg w8 hbox hb; have n0_ := Aside0.mk (below_step (by repeat (first | (with_reducible first | exact HB.out | apply below_alloc | apply pw_below_drewN | apply below_drew1) | exact HB.out)) hb); have n1_ := Aside0.mk (hbox); have n2_ := Aside0.mk ((by rw [hg]; exact (below_size (by repeat (first | (with_reducible first | exact HB.out | apply below_alloc | apply pw_below_drewN | apply below_drew1) | exact HB.out))) : w.heap.size ≤ gb186)); have n3_ := Aside0.mk ((by rw [hg]; exact (below_size (by repeat (first | (with_reducible first | exact HB.out | apply below_alloc | apply pw_below_drewN | apply below_drew1) | exact HB.out))) : w.heap.size ≤ gb186)); clear HB; have HB := n0_; have BK186 := n1_; have GW186 := n2_; have GE186 := n3_; clear n0_ n1_ n2_ n3_; clear hb hbox hg; have hcz9_0 : w8.cell? ⟨gb186, 0, none⟩ = some (.int .i64 a0_0) := (blk_cell BK186.out 0).trans rfl; have hcz9_1 : w8.cell? ⟨gb186, 1, none⟩ = some (.int .i64 a0_1) := (blk_cell BK186.out 1).trans rfl; have hcz9_2 : w8.cell? ⟨gb186, 2, none⟩ = some (.int .i64 a0_2) := (blk_cell BK186.out 2).trans rfl; have hcz9_3 : w8.cell? ⟨gb186, 3, none⟩ = some (.int .i64 a0_3) := (blk_cell BK186.out 3).trans rfl; have hcz9_4 : w8.cell? ⟨gb186, 4, none⟩ = some (.int .i64 a0_4) := (blk_cell BK186.out 4).trans rfl; have hcz9_5 : w8.cell? ⟨gb186, 5, none⟩ = some (.int .u32 a0_5) := (blk_cell BK186.out 5).trans rfl; have hfz9_0 := blk_frozen BK186.out 0; have hfz9_1 := blk_frozen BK186.out 1; have hfz9_2 := blk_frozen BK186.out 2; have hfz9_3 := blk_frozen BK186.out 3; have hfz9_4 := blk_frozen BK186.out 4; have hfz9_5 := blk_frozen BK186.out 5) | ((with_reducible refine gate_callee (f := 14) rfl ?_); refine goesL_ (some 6) rfl rfl Try.func14 (by kernel_rfl) rfl #[.int .i64 a0_0] rfl (by (try simp only [List.map_toArray, List.map_cons, List.map_nil]); first | done | rfl | (simp only [List.length_drop, List.length_take]; rfl)) ?_; (with_reducible refine (alu_Is.calls a0_0 true _ A2.out).mono ?_); rintro e w' ⟨rfl, ⟨nd, rfl⟩⟩; refine ⟨_, rfl, ?_⟩) | (go_at_call 14; (with_reducible refine (alu_Is.calls a0_0 true _ A2.out).mono ?_); rintro e w' ⟨rfl, ⟨nd, rfl⟩⟩))
        go_ret
        exact ⟨by first | rfl | (simp [errW_none, errW_some] <;> rfl) | (simp [*, errW_none, errW_some] <;> rfl), by repeat (first | (with_reducible first | exact HB.out | apply below_alloc | apply pw_below_drewN | apply below_drew1 | refine below_set ?_ GE186.out) | exact HB.out)⟩
    · rw [if_neg c4] at H
      have c4b0 : decide (46 ≤ a0_0) = false := decide_eq_false c4
      clear c4
      obtain rfl := Option.some.inj H
      go_enter Try.func26, Try.ntmps26
      go_wp2_with (first | ((with_reducible refine gate_dst (N := 1) rfl ?_); refine box_event ?hg (N := 1) ?hd (cs := #[.int .i64 a0_0, .int .i64 a0_1, .int .i64 a0_2, .int .i64 a0_3, .int .i64 a0_4, .int .u32 a0_5]) (t := 26) ?hr ?_; (case hd => rfl); (case hg => rfl); (case hr => first | (go_simp; done) | (go_simp; rfl)); intro gb186 hg w10 hbox hb; have n0_ := Aside0.mk (below_step (by repeat (first | (with_reducible first | exact HB.out | apply below_alloc | apply pw_below_drewN | apply below_drew1) | exact HB.out)) hb); have n1_ := Aside0.mk (hbox); have n2_ := Aside0.mk ((by rw [hg]; exact (below_size (by repeat (first | (with_reducible first | exact HB.out | apply below_alloc | apply pw_below_drewN | apply below_drew1) | exact HB.out))) : w.heap.size ≤ gb186)); have n3_ := Aside0.mk ((by rw [hg]; exact (below_size (by repeat (first | (with_reducible first | exact HB.out | apply below_alloc | apply pw_below_drewN | apply below_drew1) | exact HB.out))) : w.heap.size ≤ gb186)); clear HB; have HB := n0_; have BK186 := n1_; have GW186 := n2_; have GE186 := n3_; clear n0_ n1_ n2_ n3_; clear hb hbox hg; have hcz11_0 : w10.cell? ⟨gb186, 0, none⟩ = some (.int .i64 a0_0) := (blk_cell BK186.out 0).trans rfl; have hcz11_1 : w10.cell? ⟨gb186, 1, none⟩ = some (.int .i64 a0_1) := (blk_cell BK186.out 1).trans rfl; have hcz11_2 : w10.cell? ⟨gb186, 2, none⟩ = some (.int .i64 a0_2) := (blk_cell BK186.out 2).trans rfl; have hcz11_3 : w10.cell? ⟨gb186, 3, none⟩ = some (.int .i64 a0_3) := (blk_cell BK186.out 3).trans rfl; have hcz11_4 : w10.cell? ⟨gb186, 4, none⟩ = some (.int .i64 a0_4) := (blk_cell BK186.out 4).trans rfl; have hcz11_5 : w10.cell? ⟨gb186, 5, none⟩ = some (.int .u32 a0_5) := (blk_cell BK186.out 5).trans rfl; have hfz11_0 := blk_frozen BK186.out 0; have hfz11_1 := blk_frozen BK186.out 1; have hfz11_2 := blk_frozen BK186.out 2; have hfz11_3 := blk_frozen BK186.out 3; have hfz11_4 := blk_frozen BK186.out 4; have hfz11_5 := blk_frozen BK186.out 5) | ((with_reducible refine gate_callee (f := 14) rfl ?_); refine goesL_ (some 6) rfl rfl Try.func14 (by kernel_rfl) rfl #[.int .i64 a0_0] rfl (by (try simp only [List.map_toArray, List.map_cons, List.map_nil]); first | done | rfl | (simp only [List.length_drop, List.length_take]; rfl)) ?_; (with_reducible refine (alu_Is.calls a0_0 true _ A2.out).mono ?_); rintro e w' ⟨rfl, ⟨nd, rfl⟩⟩; refine ⟨_, rfl, ?_⟩) | (go_at_call 14; (with_reducible refine (alu_Is.calls a0_0 true _ A2.out).mono ?_); rintro e w' ⟨rfl, ⟨nd, rfl⟩⟩))
      go_ret
      exact ⟨by first | rfl | (simp [errW_none, errW_some] <;> rfl) | (simp [*, errW_none, errW_some] <;> rfl), by repeat (first | (with_reducible first | exact HB.out | apply below_alloc | apply pw_below_drewN | apply below_drew1 | refine below_set ?_ GE186.out) | exact HB.out)⟩
  · replace c3 := Bool.eq_false_iff.mpr c3
    subst c3
    have H1 : (some 0) = some r := by rw [if_neg (show ¬ (false = true) by decide)] at H; exact H
    clear H
    have H := H1
    clear H1
    obtain rfl := Option.some.inj H
    go_enter Try.func26, Try.ntmps26
    go_wp2_with (first | ((with_reducible refine gate_dst (N := 1) rfl ?_); refine box_event ?hg (N := 1) ?hd (cs := #[.int .i64 a0_0, .int .i64 a0_1, .int .i64 a0_2, .int .i64 a0_3, .int .i64 a0_4, .int .u32 a0_5]) (t := 26) ?hr ?_; (case hd => rfl); (case hg => rfl); (case hr => first | (go_simp; done) | (go_simp; rfl)); intro gb186 hg w12 hbox hb; have n0_ := Aside0.mk (below_step (by repeat (first | (with_reducible first | exact HB.out | apply below_alloc | apply pw_below_drewN | apply below_drew1) | exact HB.out)) hb); have n1_ := Aside0.mk (hbox); have n2_ := Aside0.mk ((by rw [hg]; exact (below_size (by repeat (first | (with_reducible first | exact HB.out | apply below_alloc | apply pw_below_drewN | apply below_drew1) | exact HB.out))) : w.heap.size ≤ gb186)); have n3_ := Aside0.mk ((by rw [hg]; exact (below_size (by repeat (first | (with_reducible first | exact HB.out | apply below_alloc | apply pw_below_drewN | apply below_drew1) | exact HB.out))) : w.heap.size ≤ gb186)); clear HB; have HB := n0_; have BK186 := n1_; have GW186 := n2_; have GE186 := n3_; clear n0_ n1_ n2_ n3_; clear hb hbox hg; have hcz13_0 : w12.cell? ⟨gb186, 0, none⟩ = some (.int .i64 a0_0) := (blk_cell BK186.out 0).trans rfl; have hcz13_1 : w12.cell? ⟨gb186, 1, none⟩ = some (.int .i64 a0_1) := (blk_cell BK186.out 1).trans rfl; have hcz13_2 : w12.cell? ⟨gb186, 2, none⟩ = some (.int .i64 a0_2) := (blk_cell BK186.out 2).trans rfl; have hcz13_3 : w12.cell? ⟨gb186, 3, none⟩ = some (.int .i64 a0_3) := (blk_cell BK186.out 3).trans rfl; have hcz13_4 : w12.cell? ⟨gb186, 4, none⟩ = some (.int .i64 a0_4) := (blk_cell BK186.out 4).trans rfl; have hcz13_5 : w12.cell? ⟨gb186, 5, none⟩ = some (.int .u32 a0_5) := (blk_cell BK186.out 5).trans rfl; have hfz13_0 := blk_frozen BK186.out 0; have hfz13_1 := blk_frozen BK186.out 1; have hfz13_2 := blk_frozen BK186.out 2; have hfz13_3 := blk_frozen BK186.out 3; have hfz13_4 := blk_frozen BK186.out 4; have hfz13_5 := blk_frozen BK186.out 5) | ((with_reducible refine gate_callee (f := 14) rfl ?_); refine goesL_ (some 6) rfl rfl Try.func14 (by kernel_rfl) rfl #[.int .i64 a0_0] rfl (by (try simp only [List.map_toArray, List.map_cons, List.map_nil]); first | done | rfl | (simp only [List.length_drop, List.length_take]; rfl)) ?_; (with_reducible refine (alu_Is.calls a0_0 false _ A2.out).mono ?_); rintro e w' ⟨rfl, ⟨nd, rfl⟩⟩; refine ⟨_, rfl, ?_⟩) | (go_at_call 14; (with_reducible refine (alu_Is.calls a0_0 false _ A2.out).mono ?_); rintro e w' ⟨rfl, ⟨nd, rfl⟩⟩))
    go_ret
    exact ⟨by first | rfl | (simp [errW_none, errW_some] <;> rfl) | (simp [*, errW_none, errW_some] <;> rfl), by repeat (first | (with_reducible first | exact HB.out | apply below_alloc | apply pw_below_drewN | apply below_drew1 | refine below_set ?_ GE186.out) | exact HB.out)⟩

/-! ### pianolaref4_Into: function 27 -/
def pianolaref4_Into.f (a0_0 : Int) (a0_1 : Int) (a0_2 : Int) (a0_3 : Int) (a0_4 : Int) (a0_5 : Int) : Option (Int) := (pianolaref4_Is.f a0_0).bind fun t189 => (if t189 = true then (if a0_0 ≥ 46 then (if a0_0 ≤ 53 then (some a0_2) else (some a0_3)) else (some a0_3)) else (some 0))
set_option maxHeartbeats 8000000 in
set_option maxRecDepth 100000 in
theorem pianolaref4_Into.calls (a0_0 : Int) (a0_1 : Int) (a0_2 : Int) (a0_3 : Int) (a0_4 : Int) (a0_5 : Int) (r : Int) (w : World) (h : pianolaref4_Into.f a0_0 a0_1 a0_2 a0_3 a0_4 a0_5 = some r) :
    Calls Try.prog 27 #[.agg #[.int .i64 a0_0, .int .i64 a0_1, .int .i64 a0_2, .int .i64 a0_3, .int .i64 a0_4, .int .u32 a0_5]] w fun e w' => e = .returned (.int .i64 r) ∧ Below w.heap.size w w' := by
  have hu26 := Try.underlying26
  have HB := Aside0.mk (Below.refl w.heap.size w)
  have H : ((pianolaref4_Is.f a0_0).bind fun t189 => (if t189 = true then (if a0_0 ≥ 46 then (if a0_0 ≤ 53 then (some a0_2) else (some a0_3)) else (some a0_3)) else (some 0))) = some r := h
  clear h
  replace H := Option.bind_eq_some_iff.mp H
  obtain ⟨t189, A20, H⟩ := H
  replace H : (if t189 = true then (if a0_0 ≥ 46 then (if a0_0 ≤ 53 then (some a0_2) else (some a0_3)) else (some a0_3)) else (some 0)) = some r := H
  have A2 := Aside0.mk A20
  clear A20
  by_cases c3 : t189 = true
  · subst c3
    have H1 : (if a0_0 ≥ 46 then (if a0_0 ≤ 53 then (some a0_2) else (some a0_3)) else (some a0_3)) = some r := by rw [if_pos rfl] at H; exact H
    clear H
    have H := H1
    clear H1
    by_cases c4 : a0_0 ≥ 46
    · rw [if_pos c4] at H
      have c4b0 : decide (46 ≤ a0_0) = true := decide_eq_true c4
      clear c4
      by_cases c5 : a0_0 ≤ 53
      · rw [if_pos c5] at H
        have c5b0 : decide (a0_0 ≤ 53) = true := decide_eq_true c5
        clear c5
        obtain rfl := Option.some.inj H
        go_enter Try.func27, Try.ntmps27
        go_wp2_with (first | ((with_reducible refine gate_dst (N := 1) rfl ?_); refine box_event ?hg (N := 1) ?hd (cs := #[.int .i64 a0_0, .int .i64 a0_1, .int .i64 a0_2, .int .i64 a0_3, .int .i64 a0_4, .int .u32 a0_5]) (t := 26) ?hr ?_; (case hd => rfl); (case hg => rfl); (case hr => first | (go_simp; done) | (go_simp; rfl)); intro gb188 hg w6 hbox hb; have n0_ := Aside0.mk (below_step (by repeat (first | (with_reducible first | exact HB.out | apply below_alloc | apply pw_below_drewN | apply below_drew1) | exact HB.out)) hb); have n1_ := Aside0.mk (hbox); have n2_ := Aside0.mk ((by rw [hg]; exact (below_size (by repeat (first | (with_reducible first | exact HB.out | apply below_alloc | apply pw_below_drewN | apply below_drew1) | exact HB.out))) : w.heap.size ≤ gb188)); have n3_ := Aside0.mk ((by rw [hg]; exact (below_size (by repeat (first | (with_reducible first | exact HB.out | apply below_alloc | apply pw_below_drewN | apply below_drew1) | exact HB.out))) : w.heap.size ≤ gb188)); clear HB; have HB := n0_; have BK188 := n1_; have GW188 := n2_; have GE188 := n3_; clear n0_ n1_ n2_ n3_; clear hb hbox hg; have hcz7_0 : w6.cell? ⟨gb188, 0, none⟩ = some (.int .i64 a0_0) := (blk_cell BK188.out 0).trans rfl; have hcz7_1 : w6.cell? ⟨gb188, 1, none⟩ = some (.int .i64 a0_1) := (blk_cell BK188.out 1).trans rfl; have hcz7_2 : w6.cell? ⟨gb188, 2, none⟩ = some (.int .i64 a0_2) := (blk_cell BK188.out 2).trans rfl; have hcz7_3 : w6.cell? ⟨gb188, 3, none⟩ = some (.int .i64 a0_3) := (blk_cell BK188.out 3).trans rfl; have hcz7_4 : w6.cell? ⟨gb188, 4, none⟩ = some (.int .i64 a0_4) := (blk_cell BK188.out 4).trans rfl; have hcz7_5 : w6.cell? ⟨gb188, 5, none⟩ = some (.int .u32 a0_5) := (blk_cell BK188.out 5).trans rfl; have hfz7_0 := blk_frozen BK188.out 0; have hfz7_1 := blk_frozen BK188.out 1; have hfz7_2 := blk_frozen BK188.out 2; have hfz7_3 := blk_frozen BK188.out 3; have hfz7_4 := blk_frozen BK188.out 4; have hfz7_5 := blk_frozen BK188.out 5) | ((with_reducible refine gate_callee (f := 25) rfl ?_); refine goesL_ (some 5) rfl rfl Try.func25 (by kernel_rfl) rfl #[.int .i64 a0_0] rfl (by (try simp only [List.map_toArray, List.map_cons, List.map_nil]); first | done | rfl | (simp only [List.length_drop, List.length_take]; rfl)) ?_; (with_reducible refine (pianolaref4_Is.calls a0_0 true _ A2.out).mono ?_); rintro e w' ⟨rfl, ⟨nd, rfl⟩⟩; refine ⟨_, rfl, ?_⟩) | (go_at_call 25; (with_reducible refine (pianolaref4_Is.calls a0_0 true _ A2.out).mono ?_); rintro e w' ⟨rfl, ⟨nd, rfl⟩⟩))
        go_ret
        exact ⟨by first | rfl | (simp [errW_none, errW_some] <;> rfl) | (simp [*, errW_none, errW_some] <;> rfl), by repeat (first | (with_reducible first | exact HB.out | apply below_alloc | apply pw_below_drewN | apply below_drew1 | refine below_set ?_ GE188.out) | exact HB.out)⟩
      · rw [if_neg c5] at H
        have c5b0 : decide (a0_0 ≤ 53) = false := decide_eq_false c5
        clear c5
        obtain rfl := Option.some.inj H
        go_enter Try.func27, Try.ntmps27
        go_wp2_with (first | ((with_reducible refine gate_dst (N := 1) rfl ?_); refine box_event ?hg (N := 1) ?hd (cs := #[.int .i64 a0_0, .int .i64 a0_1, .int .i64 a0_2, .int .i64 a0_3, .int .i64 a0_4, .int .u32 a0_5]) (t := 26) ?hr ?_; (case hd => rfl); (case hg => rfl); (case hr => first | (go_simp; done) | (go_simp; rfl)); intro gb188 hg w8 hbox hb; have n0_ := Aside0.mk (below_step (by repeat (first | (with_reducible first | exact HB.out | apply below_alloc | apply pw_below_drewN | apply below_drew1) | exact HB.out)) hb); have n1_ := Aside0.mk (hbox); have n2_ := Aside0.mk ((by rw [hg]; exact (below_size (by repeat (first | (with_reducible first | exact HB.out | apply below_alloc | apply pw_below_drewN | apply below_drew1) | exact HB.out))) : w.heap.size ≤ gb188)); have n3_ := Aside0.mk ((by rw [hg]; exact (below_size (by repeat (first | (with_reducible first | exact HB.out | apply below_alloc | apply pw_below_drewN | apply below_drew1) | exact HB.out))) : w.heap.size ≤ gb188)); clear HB; have HB := n0_; have BK188 := n1_; have GW188 := n2_; have GE188 := n3_; clear n0_ n1_ n2_ n3_; clear hb hbox hg; have hcz9_0 : w8.cell? ⟨gb188, 0, none⟩ = some (.int .i64 a0_0) := (blk_cell BK188.out 0).trans rfl; have hcz9_1 : w8.cell? ⟨gb188, 1, none⟩ = some (.int .i64 a0_1) := (blk_cell BK188.out 1).trans rfl; have hcz9_2 : w8.cell? ⟨gb188, 2, none⟩ = some (.int .i64 a0_2) := (blk_cell BK188.out 2).trans rfl; have hcz9_3 : w8.cell? ⟨gb188, 3, none⟩ = some (.int .i64 a0_3) := (blk_cell BK188.out 3).trans rfl; have hcz9_4 : w8.cell? ⟨gb188, 4, none⟩ = some (.int .i64 a0_4) := (blk_cell BK188.out 4).trans rfl; have hcz9_5 : w8.cell? ⟨gb188, 5, none⟩ = some (.int .u32 a0_5) := (blk_cell BK188.out 5).trans rfl; have hfz9_0 := blk_frozen BK188.out 0; have hfz9_1 := blk_frozen BK188.out 1; have hfz9_2 := blk_frozen BK188.out 2; have hfz9_3 := blk_frozen BK188.out 3; have hfz9_4 := blk_frozen BK188.out 4; have hfz9_5 := blk_frozen BK188.out 5) | ((with_reducible refine gate_callee (f := 25) rfl ?_); refine goesL_ (some 5) rfl rfl Try.func25 (by kernel_rfl) rfl #[.int .i64 a0_0] rfl (by (try simp only [List.map_toArray, List.map_cons, List.map_nil]); first | done | rfl | (simp only [List.length_drop, List.length_take]; rfl)) ?_; (with_reducible refine (pianolaref4_Is.calls a0_0 true _ A2.out).mono ?_); rintro e w' ⟨rfl, ⟨nd, rfl⟩⟩; refine ⟨_, rfl, ?_⟩) | (go_at_call 25; (with_reducible refine (pianolaref4_Is.calls a0_0 true _ A2.out).mono ?_); rintro e w' ⟨rfl, ⟨nd, rfl⟩⟩))
        go_ret
        exact ⟨by first | rfl | (simp [errW_none, errW_some] <;> rfl) | (simp [*, errW_none, errW_some] <;> rfl), by repeat (first | (with_reducible first | exact HB.out | apply below_alloc | apply pw_below_drewN | apply below_drew1 | refine below_set ?_ GE188.out) | exact HB.out)⟩
    · rw [if_neg c4] at H
      have c4b0 : decide (46 ≤ a0_0) = false := decide_eq_false c4
      clear c4
      obtain rfl := Option.some.inj H
      go_enter Try.func27, Try.ntmps27
      go_wp2_with (first | ((with_reducible refine gate_dst (N := 1) rfl ?_); refine box_event ?hg (N := 1) ?hd (cs := #[.int .i64 a0_0, .int .i64 a0_1, .int .i64 a0_2, .int .i64 a0_3, .int .i64 a0_4, .int .u32 a0_5]) (t := 26) ?hr ?_; (case hd => rfl); (case hg => rfl); (case hr => first | (go_simp; done) | (go_simp; rfl)); intro gb188 hg w10 hbox hb; have n0_ := Aside0.mk (below_step (by repeat (first | (with_reducible first | exact HB.out | apply below_alloc | apply pw_below_drewN | apply below_drew1) | exact HB.out)) hb); have n1_ := Aside0.mk (hbox); have n2_ := Aside0.mk ((by rw [hg]; exact (below_size (by repeat (first | (with_reducible first | exact HB.out | apply below_alloc | apply pw_below_drewN | apply below_drew1) | exact HB.out))) : w.heap.size ≤ gb188)); have n3_ := Aside0.mk ((by rw [hg]; exact (below_size (by repeat (first | (with_reducible first | exact HB.out | apply below_alloc | apply pw_below_drewN | apply below_drew1) | exact HB.out))) : w.heap.size ≤ gb188)); clear HB; have HB := n0_; have BK188 := n1_; have GW188 := n2_; have GE188 := n3_; clear n0_ n1_ n2_ n3_; clear hb hbox hg; have hcz11_0 : w10.cell? ⟨gb188, 0, none⟩ = some (.int .i64 a0_0) := (blk_cell BK188.out 0).trans rfl; have hcz11_1 : w10.cell? ⟨gb188, 1, none⟩ = some (.int .i64 a0_1) := (blk_cell BK188.out 1).trans rfl; have hcz11_2 : w10.cell? ⟨gb188, 2, none⟩ = some (.int .i64 a0_2) := (blk_cell BK188.out 2).trans rfl; have hcz11_3 : w10.cell? ⟨gb188, 3, none⟩ = some (.int .i64 a0_3) := (blk_cell BK188.out 3).trans rfl; have hcz11_4 : w10.cell? ⟨gb188, 4, none⟩ = some (.int .i64 a0_4) := (blk_cell BK188.out 4).trans rfl; have hcz11_5 : w10.cell? ⟨gb188, 5, none⟩ = some (.int .u32 a0_5) := (blk_cell BK188.out 5).trans rfl; have hfz11_0 := blk_frozen BK188.out 0; have hfz11_1 := blk_frozen BK188.out 1; have hfz11_2 := blk_frozen BK188.out 2; have hfz11_3 := blk_frozen BK188.out 3; have hfz11_4 := blk_frozen BK188.out 4; have hfz11_5 := blk_frozen BK188.out 5) | ((with_reducible refine gate_callee (f := 25) rfl ?_); refine goesL_ (some 5) rfl rfl Try.func25 (by kernel_rfl) rfl #[.int .i64 a0_0] rfl (by (try simp only [List.map_toArray, List.map_cons, List.map_nil]); first | done | rfl | (simp only [List.length_drop, List.length_take]; rfl)) ?_; (with_reducible refine (pianolaref4_Is.calls a0_0 true _ A2.out).mono ?_); rintro e w' ⟨rfl, ⟨nd, rfl⟩⟩; refine ⟨_, rfl, ?_⟩) | (go_at_call 25; (with_reducible refine (pianolaref4_Is.calls a0_0 true _ A2.out).mono ?_); rintro e w' ⟨rfl, ⟨nd, rfl⟩⟩))
      go_ret
      exact ⟨by first | rfl | (simp [errW_none, errW_some] <;> rfl) | (simp [*, errW_none, errW_some] <;> rfl), by repeat (first | (with_reducible first | exact HB.out | apply below_alloc | apply pw_below_drewN | apply below_drew1 | refine below_set ?_ GE188.out) | exact HB.out)⟩
  · replace c3 := Bool.eq_false_iff.mpr c3
    subst c3
    have H1 : (some 0) = some r := by rw [if_neg (show ¬ (false = true) by decide)] at H; exact H
    clear H
    have H := H1
    clear H1
    obtain rfl := Option.some.inj H
    go_enter Try.func27, Try.ntmps27
    go_wp2_with (first | ((with_reducible refine gate_dst (N := 1) rfl ?_); refine box_event ?hg (N := 1) ?hd (cs := #[.int .i64 a0_0, .int .i64 a0_1, .int .i64 a0_2, .int .i64 a0_3, .int .i64 a0_4, .int .u32 a0_5]) (t := 26) ?hr ?_; (case hd => rfl); (case hg => rfl); (case hr => first | (go_simp; done) | (go_simp; rfl)); intro gb188 hg w12 hbox hb; have n0_ := Aside0.mk (below_step (by repeat (first | (with_reducible first | exact HB.out | apply below_alloc | apply pw_below_drewN | apply below_drew1) | exact HB.out)) hb); have n1_ := Aside0.mk (hbox); have n2_ := Aside0.mk ((by rw [hg]; exact (below_size (by repeat (first | (with_reducible first | exact HB.out | apply below_alloc | apply pw_below_drewN | apply below_drew1) | exact HB.out))) : w.heap.size ≤ gb188)); have n3_ := Aside0.mk ((by rw [hg]; exact (below_size (by repeat (first | (with_reducible first | exact HB.out | apply below_alloc | apply pw_below_drewN | apply below_drew1) | exact HB.out))) : w.heap.size ≤ gb188)); clear HB; have HB := n0_; have BK188 := n1_; have GW188 := n2_; have GE188 := n3_; clear n0_ n1_ n2_ n3_; clear hb hbox hg; have hcz13_0 : w12.cell? ⟨gb188, 0, none⟩ = some (.int .i64 a0_0) := (blk_cell BK188.out 0).trans rfl; have hcz13_1 : w12.cell? ⟨gb188, 1, none⟩ = some (.int .i64 a0_1) := (blk_cell BK188.out 1).trans rfl; have hcz13_2 : w12.cell? ⟨gb188, 2, none⟩ = some (.int .i64 a0_2) := (blk_cell BK188.out 2).trans rfl; have hcz13_3 : w12.cell? ⟨gb188, 3, none⟩ = some (.int .i64 a0_3) := (blk_cell BK188.out 3).trans rfl; have hcz13_4 : w12.cell? ⟨gb188, 4, none⟩ = some (.int .i64 a0_4) := (blk_cell BK188.out 4).trans rfl; have hcz13_5 : w12.cell? ⟨gb188, 5, none⟩ = some (.int .u32 a0_5) := (blk_cell BK188.out 5).trans rfl; have hfz13_0 := blk_frozen BK188.out 0; have hfz13_1 := blk_frozen BK188.out 1; have hfz13_2 := blk_frozen BK188.out 2; have hfz13_3 := blk_frozen BK188.out 3; have hfz13_4 := blk_frozen BK188.out 4; have hfz13_5 := blk_frozen BK188.out 5) | ((with_reducible refine gate_callee (f := 25) rfl ?_); refine goesL_ (some 5) rfl rfl Try.func25 (by kernel_rfl) rfl #[.int .i64 a0_0] rfl (by (try simp only [List.map_toArray, List.map_cons, List.map_nil]); first | done | rfl | (simp only [List.length_drop, List.length_take]; rfl)) ?_; (with_reducible refine (pianolaref4_Is.calls a0_0 false _ A2.out).mono ?_); rintro e w' ⟨rfl, ⟨nd, rfl⟩⟩; refine ⟨_, rfl, ?_⟩) | (go_at_call 25; (with_reducible refine (pianolaref4_Is.calls a0_0 false _ A2.out).mono ?_); rintro e w' ⟨rfl, ⟨nd, rfl⟩⟩))
    go_ret
    exact ⟨by first | rfl | (simp [errW_none, errW_some] <;> rfl) | (simp [*, errW_none, errW_some] <;> rfl), by repeat (first | (with_reducible first | exact HB.out | apply below_alloc | apply pw_below_drewN | apply below_drew1 | refine below_set ?_ GE188.out) | exact HB.out)⟩

/-! ### pianolalaw4_same: function 10 (by hand) -/
/-- an instruction in a box: its six cells in block g, and nothing below b has changed since w0 -/
structure BoxI (b : Nat) (w0 w : World) (g : Nat) (i s t d h m : Int) : Prop where
  c0 : w.cell? ⟨g, 0, none⟩ = some (.int .i64 i)
  c1 : w.cell? ⟨g, 1, none⟩ = some (.int .i64 s)
  c2 : w.cell? ⟨g, 2, none⟩ = some (.int .i64 t)
  c3 : w.cell? ⟨g, 3, none⟩ = some (.int .i64 d)
  c4 : w.cell? ⟨g, 4, none⟩ = some (.int .i64 h)
  c5 : w.cell? ⟨g, 5, none⟩ = some (.int .u32 m)
  old : g < w.heap.size
  bel : Below b w0 w
  le : b ≤ w.heap.size
theorem BoxI.below {b : Nat} {w0 w w1 : World} {g : Nat} {i s t d h m : Int} (B : BoxI b w0 w g i s t d h m) (hb : Below w.heap.size w w1) : BoxI b w0 w1 g i s t d h m :=
  ⟨by rw [hb.cell (p := ⟨g, 0, none⟩) B.old]; exact B.c0, by rw [hb.cell (p := ⟨g, 1, none⟩) B.old]; exact B.c1, by rw [hb.cell (p := ⟨g, 2, none⟩) B.old]; exact B.c2, by rw [hb.cell (p := ⟨g, 3, none⟩) B.old]; exact B.c3, by rw [hb.cell (p := ⟨g, 4, none⟩) B.old]; exact B.c4, by rw [hb.cell (p := ⟨g, 5, none⟩) B.old]; exact B.c5, Nat.lt_of_lt_of_le B.old hb.size, B.bel.trans (hb.mono B.le), Nat.le_trans B.le hb.size⟩
theorem BoxI.drawn {b : Nat} {w0 w w1 : World} {g : Nat} {i s t d h m : Int} (B : BoxI b w0 w g i s t d h m) (hb : Drawn0 w w1) : BoxI b w0 w1 g i s t d h m := by
  obtain ⟨n, rfl⟩ := hb
  exact ⟨B.c0, B.c1, B.c2, B.c3, B.c4, B.c5, B.old, B.bel.trans ⟨rfl, rfl, rfl, Nat.le_refl _, fun _ _ => rfl⟩, B.le⟩
theorem BoxI.new (w : World) (i s t d h m : Int) (T : TypeId) : BoxI w.heap.size w (w.alloc (.cells #[.int .i64 i, .int .i64 s, .int .i64 t, .int .i64 d, .int .i64 h, .int .u32 m] T)) w.heap.size i s t d h m :=
  ⟨by simp, by simp, by simp, by simp, by simp, by simp, by simp, (Below.refl _ _).alloc (Nat.le_refl _) _, by simp⟩
theorem boxI_drew_iff {B : Nat} {a w : World} : Below B a w.drew ↔ Below B a w := ⟨fun h => ⟨h.os, h.tape, h.output, h.size, h.block⟩, fun h => ⟨h.os, h.tape, h.output, h.size, h.block⟩⟩
theorem boxI_drewN_iff {B : Nat} {a w : World} {n : Nat} : Below B a (w.drewN n) ↔ Below B a w := ⟨fun h => ⟨h.os, h.tape, h.output, h.size, h.block⟩, fun h => ⟨h.os, h.tape, h.output, h.size, h.block⟩⟩
attribute [local simp] boxI_drew_iff boxI_drewN_iff
set_option maxHeartbeats 4000000 in
theorem pianolalaw4_same.straight (k : Nat) (i s t d h m x y hi lo : Int) (v : Int) (ok : Bool) (a b : Int) (c tr is : Bool) (into : Int) (w : World)
    (e1 : alu_Do.f k i s t d h m x y = some (v, ok)) (e2 : pianolaref4_Do.f k i s t d h m x y = some (v, ok))
    (e3 : alu_Halves.f k i s t d h m x y hi lo = some (a, b, c)) (e4 : pianolaref4_Halves.f k i s t d h m x y hi lo = some (a, b, c))
    (e5 : alu_Traps.f k i s t d h m x y = some tr) (e6 : pianolaref4_Traps.f k i s t d h m x y = some tr)
    (e7 : alu_Is.f i = some is) (e8 : pianolaref4_Is.f i = some is)
    (e9 : alu_Into.f i s t d h m = some into) (e10 : pianolaref4_Into.f i s t d h m = some into) :
    Calls Try.prog 10 #[.agg #[.int .i64 i, .int .i64 s, .int .i64 t, .int .i64 d, .int .i64 h, .int .u32 m], .int .u32 x, .int .u32 y, .int .u32 hi, .int .u32 lo] w fun e w' => e = .returned (.bool true) ∧ Below w.heap.size w w' := by
  have E1 := Aside0.mk e1; clear e1
  have E2 := Aside0.mk e2; clear e2
  have E3 := Aside0.mk e3; clear e3
  have E4 := Aside0.mk e4; clear e4
  have E5 := Aside0.mk e5; clear e5
  have E6 := Aside0.mk e6; clear e6
  have E7 := Aside0.mk e7; clear e7
  have E8 := Aside0.mk e8; clear e8
  have E9 := Aside0.mk e9; clear e9
  have E10 := Aside0.mk e10; clear e10
  go_enter Try.func10, Try.ntmps10
  go_wp2_with fail
  have BX := BoxI.new w i s t d h m 26
  have c0 := BX.c0; have c1 := BX.c1; have c2 := BX.c2; have c3 := BX.c3; have c4 := BX.c4; have c5 := BX.c5
  generalize (w.alloc (.cells #[.int .i64 i, .int .i64 s, .int .i64 t, .int .i64 d, .int .i64 h, .int .u32 m] 26)) = W at *
  go_wp2_with (first
    | (go_at_call 7; (with_reducible refine (alu_Do.calls k i s t d h m x y v ok _ E1.out).mono ?_); rintro e wn ⟨rfl, hb⟩; have BY := BX.below hb; clear c0 c1 c2 c3 c4 c5 hb BX; have BX := BY; clear BY; have c0 := BX.c0; have c1 := BX.c1; have c2 := BX.c2; have c3 := BX.c3; have c4 := BX.c4; have c5 := BX.c5)
    | (go_at_call 21; (with_reducible refine (pianolaref4_Do.calls k i s t d h m x y v ok _ E2.out).mono ?_); rintro e wn ⟨rfl, hb⟩; have BY := BX.below hb; clear c0 c1 c2 c3 c4 c5 hb BX; have BX := BY; clear BY; have c0 := BX.c0; have c1 := BX.c1; have c2 := BX.c2; have c3 := BX.c3; have c4 := BX.c4; have c5 := BX.c5)
    | (go_at_call 22; (with_reducible refine (alu_Halves.calls k i s t d h m x y hi lo a b c _ E3.out).mono ?_); rintro e wn ⟨rfl, hb⟩; have BY := BX.below hb; clear c0 c1 c2 c3 c4 c5 hb BX; have BX := BY; clear BY; have c0 := BX.c0; have c1 := BX.c1; have c2 := BX.c2; have c3 := BX.c3; have c4 := BX.c4; have c5 := BX.c5)
    | (go_at_call 23; (with_reducible refine (pianolaref4_Halves.calls k i s t d h m x y hi lo a b c _ E4.out).mono ?_); rintro e wn ⟨rfl, hb⟩; have BY := BX.below hb; clear c0 c1 c2 c3 c4 c5 hb BX; have BX := BY; clear BY; have c0 := BX.c0; have c1 := BX.c1; have c2 := BX.c2; have c3 := BX.c3; have c4 := BX.c4; have c5 := BX.c5)
    | (go_at_call 9; (with_reducible refine (alu_Traps.calls k i s t d h m x y tr _ E5.out).mono ?_); rintro e wn ⟨rfl, hb⟩; have BY := BX.below hb; clear c0 c1 c2 c3 c4 c5 hb BX; have BX := BY; clear BY; have c0 := BX.c0; have c1 := BX.c1; have c2 := BX.c2; have c3 := BX.c3; have c4 := BX.c4; have c5 := BX.c5)
    | (go_at_call 24; (with_reducible refine (pianolaref4_Traps.calls k i s t d h m x y tr _ E6.out).mono ?_); rintro e wn ⟨rfl, hb⟩; have BY := BX.below hb; clear c0 c1 c2 c3 c4 c5 hb BX; have BX := BY; clear BY; have c0 := BX.c0; have c1 := BX.c1; have c2 := BX.c2; have c3 := BX.c3; have c4 := BX.c4; have c5 := BX.c5)
    | (go_at_call 14; (with_reducible refine (alu_Is.calls i is _ E7.out).mono ?_); rintro e wn ⟨rfl, hb⟩; have BY := BX.drawn hb; clear c0 c1 c2 c3 c4 c5 hb BX; have BX := BY; clear BY; have c0 := BX.c0; have c1 := BX.c1; have c2 := BX.c2; have c3 := BX.c3; have c4 := BX.c4; have c5 := BX.c5)
    | (go_at_call 25; (with_reducible refine (pianolaref4_Is.calls i is _ E8.out).mono ?_); rintro e wn ⟨rfl, hb⟩; have BY := BX.drawn hb; clear c0 c1 c2 c3 c4 c5 hb BX; have BX := BY; clear BY; have c0 := BX.c0; have c1 := BX.c1; have c2 := BX.c2; have c3 := BX.c3; have c4 := BX.c4; have c5 := BX.c5)
    | (go_at_call 26; (with_reducible refine (alu_Into.calls i s t d h m into _ E9.out).mono ?_); rintro e wn ⟨rfl, hb⟩; have BY := BX.below hb; clear c0 c1 c2 c3 c4 c5 hb BX; have BX := BY; clear BY; have c0 := BX.c0; have c1 := BX.c1; have c2 := BX.c2; have c3 := BX.c3; have c4 := BX.c4; have c5 := BX.c5)
    | (go_at_call 27; (with_reducible refine (pianolaref4_Into.calls i s t d h m into _ E10.out).mono ?_); rintro e wn ⟨rfl, hb⟩; have BY := BX.below hb; clear c0 c1 c2 c3 c4 c5 hb BX; have BX := BY; clear BY; have c0 := BX.c0; have c1 := BX.c1; have c2 := BX.c2; have c3 := BX.c3; have c4 := BX.c4; have c5 := BX.c5))
  have hold := BX.old
  have hbel := BX.bel
  have hle := BX.le
  clear BX
  go_region_held3 (fun w' => w'.cell? ⟨w.heap.size, 0, none⟩ = some (.int .i64 i) ∧ w'.cell? ⟨w.heap.size, 1, none⟩ = some (.int .i64 s) ∧ w'.cell? ⟨w.heap.size, 2, none⟩ = some (.int .i64 t) ∧ w'.cell? ⟨w.heap.size, 3, none⟩ = some (.int .i64 d) ∧ w'.cell? ⟨w.heap.size, 4, none⟩ = some (.int .i64 h) ∧ w'.cell? ⟨w.heap.size, 5, none⟩ = some (.int .u32 m) ∧ w.heap.size < w'.heap.size ∧ Below w.heap.size w w' ∧ w.heap.size ≤ w'.heap.size)
    (first | go_keep | (go_split_ands; have BY := BoxI.below (⟨by assumption, by assumption, by assumption, by assumption, by assumption, by assumption, by assumption, by assumption, by assumption⟩ : BoxI w.heap.size w _ w.heap.size i s t d h m) hb; exact ⟨BY.c0, BY.c1, BY.c2, BY.c3, BY.c4, BY.c5, BY.old, BY.bel, BY.le⟩) | (go_split_ands; simp_all; done))
    (first
      | (go_at_call 9; (with_reducible refine (alu_Traps.calls k i s t d h m x y tr _ E5.out).mono ?_); rintro e wn ⟨rfl, hb⟩)
      | (go_at_call 24; (with_reducible refine (pianolaref4_Traps.calls k i s t d h m x y tr _ E6.out).mono ?_); rintro e wn ⟨rfl, hb⟩)
      | (go_at_call 14; (with_reducible refine (alu_Is.calls i is _ E7.out).mono ?_); rintro e wn ⟨rfl, hd⟩; have hb := hd.below; clear hd)
      | (go_at_call 25; (with_reducible refine (pianolaref4_Is.calls i is _ E8.out).mono ?_); rintro e wn ⟨rfl, hd⟩; have hb := hd.below; clear hd)
      | (go_at_call 26; (with_reducible refine (alu_Into.calls i s t d h m into _ E9.out).mono ?_); rintro e wn ⟨rfl, hb⟩)
      | (go_at_call 27; (with_reducible refine (pianolaref4_Into.calls i s t d h m into _ E10.out).mono ?_); rintro e wn ⟨rfl, hb⟩))
  go_split_ands
  go_wp2
  go_ret
  exact ⟨by simp, by assumption⟩

/-- the two sides come to the same, and to an end -/
def pianolalaw4_same.f (k : Nat) (i s t d h m x y hi lo : Int) : Option Bool :=
  if (alu_Do.f k i s t d h m x y = pianolaref4_Do.f k i s t d h m x y ∧ alu_Halves.f k i s t d h m x y hi lo = pianolaref4_Halves.f k i s t d h m x y hi lo ∧ alu_Traps.f k i s t d h m x y = pianolaref4_Traps.f k i s t d h m x y ∧ alu_Is.f i = pianolaref4_Is.f i ∧ alu_Into.f i s t d h m = pianolaref4_Into.f i s t d h m)
    ∧ ((alu_Do.f k i s t d h m x y).isSome = true ∧ (alu_Halves.f k i s t d h m x y hi lo).isSome = true ∧ (alu_Traps.f k i s t d h m x y).isSome = true ∧ (alu_Is.f i).isSome = true ∧ (alu_Into.f i s t d h m).isSome = true) then some true else none
theorem pianolalaw4_same.mono : ∀ i s t d h m x y hi lo k, LeO (pianolalaw4_same.f k i s t d h m x y hi lo) (pianolalaw4_same.f (k + 1) i s t d h m x y hi lo) := by
  intro i s t d h m x y hi lo k r hr
  unfold pianolalaw4_same.f at hr ⊢
  split at hr
  · rename_i c
    obtain ⟨⟨c1, c2, c3, c4, c5⟩, s1, s2, s3, s4, s5⟩ := c
    obtain ⟨v1, e1⟩ := Option.isSome_iff_exists.1 s1
    obtain ⟨v2, e2⟩ := Option.isSome_iff_exists.1 s2
    obtain ⟨v3, e3⟩ := Option.isSome_iff_exists.1 s3
    have g1 := alu_Do.mono i s t d h m x y k v1 e1
    have g2 := alu_Halves.mono i s t d h m x y hi lo k v2 e2
    have g3 := alu_Traps.mono i s t d h m x y k v3 e3
    have k1 := pianolaref4_Do.mono i s t d h m x y k v1 (c1 ▸ e1)
    have k2 := pianolaref4_Halves.mono i s t d h m x y hi lo k v2 (c2 ▸ e2)
    have k3 := pianolaref4_Traps.mono i s t d h m x y k v3 (c3 ▸ e3)
    rw [if_pos ⟨⟨g1.trans k1.symm, g2.trans k2.symm, g3.trans k3.symm, c4, c5⟩, by rw [g1]; rfl, by rw [g2]; rfl, by rw [g3]; rfl, s4, s5⟩]
    exact hr
  · cases hr
theorem pianolalaw4_same.calls (k : Nat) (i s t d h m x y hi lo : Int) (r : Bool) (w : World) (hr : pianolalaw4_same.f k i s t d h m x y hi lo = some r) :
    Calls Try.prog 10 #[.agg #[.int .i64 i, .int .i64 s, .int .i64 t, .int .i64 d, .int .i64 h, .int .u32 m], .int .u32 x, .int .u32 y, .int .u32 hi, .int .u32 lo] w fun e w' => e = .returned (.bool r) ∧ Below w.heap.size w w' := by
  unfold pianolalaw4_same.f at hr
  split at hr
  · rename_i c
    obtain ⟨⟨c1, c2, c3, c4, c5⟩, s1, s2, s3, s4, s5⟩ := c
    obtain ⟨⟨v, ok⟩, e1⟩ := Option.isSome_iff_exists.1 s1
    obtain ⟨⟨a, b, c⟩, e2⟩ := Option.isSome_iff_exists.1 s2
    obtain ⟨v3, e3⟩ := Option.isSome_iff_exists.1 s3
    obtain ⟨v4, e4⟩ := Option.isSome_iff_exists.1 s4
    obtain ⟨v5, e5⟩ := Option.isSome_iff_exists.1 s5
    obtain rfl := Option.some.inj hr
    exact pianolalaw4_same.straight k i s t d h m x y hi lo v ok a b c v3 v4 v5 w e1 (c1 ▸ e1) e2 (c2 ▸ e2) e3 (c3 ▸ e3) e4 (c4 ▸ e4) e5 (c5 ▸ e5)
  · cases hr

/-! ### pianolalaw4_edge: function 11 -/
def pianolalaw4_edge.f (a0 : Int) : Option (Int) := (some (([0, 1, 2, 31, 32, 32767, 32768, 65535, 2147483647, 2147483648, 2147483649, 4294967295, 1431655765] : List Int) : List Int)).bind fun y190 => (if 0 ≤ (Int.tmod (wrap64 ((Int.tmod a0 13) + 13)) 13) then (if (Int.tmod (wrap64 ((Int.tmod a0 13) + 13)) 13) < (y190.length : Int) then (some (rd y190 (Int.tmod (wrap64 ((Int.tmod a0 13) + 13)) 13))) else (none)) else (none))
set_option maxHeartbeats 8000000 in
set_option maxRecDepth 100000 in
theorem pianolalaw4_edge.calls (a0 : Int) (r : Int) (w : World) (h : pianolalaw4_edge.f a0 = some r) :
    Calls Try.prog 11 #[.int .i64 a0] w fun e w' => e = .returned (.int .u32 r) ∧ Below w.heap.size w w' := by
  have HB := Aside0.mk (Below.refl w.heap.size w)
  have H : ((some (([0, 1, 2, 31, 32, 32767, 32768, 65535, 2147483647, 2147483648, 2147483649, 4294967295, 1431655765] : List Int) : List Int)).bind fun y190 => (if 0 ≤ (Int.tmod (wrap64 ((Int.tmod a0 13) + 13)) 13) then (if (Int.tmod (wrap64 ((Int.tmod a0 13) + 13)) 13) < (y190.length : Int) then (some (rd y190 (Int.tmod (wrap64 ((Int.tmod a0 13) + 13)) 13))) else (none)) else (none))) = some r := h
  clear h
  obtain ⟨y190, hy190⟩ : ∃ y_ : List Int, y_ = (([0, 1, 2, 31, 32, 32767, 32768, 65535, 2147483647, 2147483648, 2147483649, 4294967295, 1431655765] : List Int)) := ⟨_, rfl⟩
  replace H : (if 0 ≤ (Int.tmod (wrap64 ((Int.tmod a0 13) + 13)) 13) then (if (Int.tmod (wrap64 ((Int.tmod a0 13) + 13)) 13) < (y190.length : Int) then (some (rd y190 (Int.tmod (wrap64 ((Int.tmod a0 13) + 13)) 13))) else (none)) else (none)) = some r := by first | (rw [hy190]; with_reducible exact H) | (have H2_ := (Option.bind_some _ _).symm.trans H; rw [hy190]; with_reducible exact H2_) | (have H2_ := (Option.bind_some _ _).symm.trans H; with_reducible exact H2_) | with_reducible exact H | (rw [hy190]; exact H) | exact H
  have Ny190 := Aside0.mk hy190
  clear hy190
  obtain ⟨ji2, hji2⟩ : ∃ j_ : Int, (Int.tmod (wrap64 ((Int.tmod a0 13) + 13)) 13) = j_ := ⟨_, rfl⟩
  replace H : (if 0 ≤ (ji2) then (if (ji2) < (y190.length : Int) then (some (rd y190 (ji2))) else (none)) else (none)) = some r := by first | (rw [hji2] at H; exact H) | (simp only [hji2] at H ⊢; exact H)
  by_cases c3 : 0 ≤ (ji2)
  · rw [if_pos c3] at H
    have c3b0 : decide (0 ≤ (ji2)) = true := decide_eq_true c3
    clear c3
    by_cases c4 : (ji2) < (y190.length : Int)
    · rw [if_pos c4] at H
      have c4b0 : decide ((ji2) < (y190.length : Int)) = true := decide_eq_true c4
      clear c4
      obtain rfl := Option.some.inj H
      go_enter Try.func11, Try.ntmps11
      go_wp2_with (first | ((with_reducible refine gate_dst (N := 4) rfl ?_); refine Kd.R_lit (Kd.int .u32) _ 22 ?hg (N := 4) ?hd (xs := ([0, 1, 2, 31, 32, 32767, 32768, 65535, 2147483647, 2147483648, 2147483649, 4294967295, 1431655765] : List Int)) (inner := [.int .u32 0, .int .u32 1, .int .u32 2, .int .u32 31, .int .u32 32, .int .u32 32767, .int .u32 32768, .int .u32 65535, .int .u32 2147483647, .int .u32 2147483648, .int .u32 2147483649, .int .u32 4294967295, .int .u32 1431655765]) (ok := fun _ => True) (okp := fun _ => True) ?hr ?hp (fun _ hk => hk) trivial (Below.refl _ _) (Nat.le_refl _) (by simp) ?_; (case hd => rfl); (case hg => rfl); (case hr => first | (go_simp; done) | (go_simp; rfl)); (case hp => exact (Reps.one (show Kd.M (Kd.int .u32) _ _ _ 0 [.int .u32 0] from rfl) (Reps.one (show Kd.M (Kd.int .u32) _ _ _ 1 [.int .u32 1] from rfl) (Reps.one (show Kd.M (Kd.int .u32) _ _ _ 2 [.int .u32 2] from rfl) (Reps.one (show Kd.M (Kd.int .u32) _ _ _ 31 [.int .u32 31] from rfl) (Reps.one (show Kd.M (Kd.int .u32) _ _ _ 32 [.int .u32 32] from rfl) (Reps.one (show Kd.M (Kd.int .u32) _ _ _ 32767 [.int .u32 32767] from rfl) (Reps.one (show Kd.M (Kd.int .u32) _ _ _ 32768 [.int .u32 32768] from rfl) (Reps.one (show Kd.M (Kd.int .u32) _ _ _ 65535 [.int .u32 65535] from rfl) (Reps.one (show Kd.M (Kd.int .u32) _ _ _ 2147483647 [.int .u32 2147483647] from rfl) (Reps.one (show Kd.M (Kd.int .u32) _ _ _ 2147483648 [.int .u32 2147483648] from rfl) (Reps.one (show Kd.M (Kd.int .u32) _ _ _ 2147483649 [.int .u32 2147483649] from rfl) (Reps.one (show Kd.M (Kd.int .u32) _ _ _ 4294967295 [.int .u32 4294967295] from rfl) (Reps.one (show Kd.M (Kd.int .u32) _ _ _ 1431655765 [.int .u32 1431655765] from rfl) (Reps.none _ _))))))))))))))); intro v191 w5 ho6 hb hg_ hnew_; clear hg_ hnew_; (first | rw [← Ny190.out] at ho6 | (simp only [Int.reduceToNat] at ho6; rw [← Ny190.out] at ho6)); have n0_ := Aside0.mk (Kd.R_lower ho6 (below_size (by repeat (first | (with_reducible first | exact HB.out | apply below_alloc | apply pw_below_drewN | apply below_drew1) | exact HB.out)))); have n1_ := Aside0.mk (below_step (by repeat (first | (with_reducible first | exact HB.out | apply below_alloc | apply pw_below_drewN | apply below_drew1) | exact HB.out)) hb); clear HB; have HO192 := n0_; have HB := n1_; clear n0_ n1_; clear hb ho6; obtain ⟨Ao7, co7, eo7⟩ := Kd.R_slice HO192.out; subst eo7; have p193 : 0 ≤ ((ji2) : Int) := of_decide_eq_true (by first | (with_reducible assumption) | assumption); have q193 : (ji2) < (y190.length : Int) := of_decide_eq_true (by first | (with_reducible assumption) | assumption); obtain ⟨ad193, e193, hx193_0⟩ := Kd.at_int (Kd.R_reads' HO192.out).2.2 (ji2) p193 q193; cases e193; replace p193 := eq_true p193; replace q193 := eq_true q193))
      go_ret
      exact ⟨by first | rfl | (simp [errW_none, errW_some] <;> rfl) | (simp only [← hji2]; first | rfl | (simp [errW_none, errW_some] <;> rfl)) | (simp [*, errW_none, errW_some] <;> rfl), by repeat (first | (with_reducible first | exact HB.out | apply below_alloc | apply pw_below_drewN | apply below_drew1) | exact HB.out)⟩
    · rw [if_neg c4] at H
      exact absurd H (by simp)
  · rw [if_neg c3] at H
    exact absurd H (by simp)

end Go.Proofs.Ytimbfflnlalanaa.Q
