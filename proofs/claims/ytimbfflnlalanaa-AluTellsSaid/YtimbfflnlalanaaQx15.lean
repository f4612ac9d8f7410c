-- Written by a program of this session: a turned copy of the kit's print (wip/print/fork.py), whose words lie beside.
import Derived.Test.YtimbfflnlalanaaQx0
import Derived.Test.YtimbfflnlalanaaQx1
import Derived.Test.YtimbfflnlalanaaQx6
import Derived.Test.YtimbfflnlalanaaQx7
import Derived.Test.YtimbfflnlalanaaQx10
import Derived.Test.YtimbfflnlalanaaQx11
import Derived.Test.YtimbfflnlalanaaQx12
import Derived.Test.YtimbfflnlalanaaQx13
import Derived.Test.YtimbfflnlalanaaQx14
namespace Go.Proofs.Ytimbfflnlalanaa.Q
open Go.RowKit Go.Proofs.YtimbfflnlalanaaW.PrintWords Go.Proofs.YtimbfflnlalanaaW.PrintLast Go.Proofs.YtimbfflnlalanaaW.PrintMore
attribute [local go_sem] max2_int min2_int max_two min_two max_three min_three max_four min_four   -- for this text's walks alone
set_option linter.unusedVariables false
set_option linter.unusedSimpArgs false

/-! ### alu_Into: function 26 -/
def alu_Into.f (a0_0 : Int) (a0_1 : Int) (a0_2 : Int) (a0_3 : Int) (a0_4 : Int) (a0_5 : Int) : Option (Int) := (alu_Is.f a0_0).bind fun t170 => (if t170 = true then (if a0_0 ≥ 46 then (if a0_0 ≤ 53 then (some a0_2) else (some a0_3)) else (some a0_3)) else (some 0))
set_option maxHeartbeats 8000000 in
set_option maxRecDepth 100000 in
theorem alu_Into.calls (a0_0 : Int) (a0_1 : Int) (a0_2 : Int) (a0_3 : Int) (a0_4 : Int) (a0_5 : Int) (r : Int) (w : World) (h : alu_Into.f a0_0 a0_1 a0_2 a0_3 a0_4 a0_5 = some r) :
    Calls Try.prog 26 #[.agg #[.int .i64 a0_0, .int .i64 a0_1, .int .i64 a0_2, .int .i64 a0_3, .int .i64 a0_4, .int .u32 a0_5]] w fun e w' => e = .returned (.int .i64 r) ∧ Below w.heap.size w w' := by
  have hu26 := Try.underlying26
  have HB := Aside0.mk (Below.refl w.heap.size w)
  have H : ((alu_Is.f a0_0).bind fun t170 => (if t170 = true then (if a0_0 ≥ 46 then (if a0_0 ≤ 53 then (some a0_2) else (some a0_3)) else (some a0_3)) else (some 0))) = some r := h
  clear h
  replace H := Option.bind_eq_some_iff.mp H
  obtain ⟨t170, A20, H⟩ := H
  replace H : (if t170 = true then (if a0_0 ≥ 46 then (if a0_0 ≤ 53 then (some a0_2) else (some a0_3)) else (some a0_3)) else (some 0)) = some r := H
  have A2 := Aside0.mk A20
  clear A20
  by_cases c3 : t170 = true
  · subst c3
    have H1 : (if a0_0 ≥ 46 then (if a0_0 ≤ 53 then (some a0_2) else (some a0_3)) else (some a0_3)) = some r := by rw [if_pos rfl] at H; exact H
    clear H
    have H := H1
    clear H1
    by_cases c4 : a0_0 ≥ 46
    · rw [if_pos c4] at H
      have c4b0 : decide (46 ≤ a0_0) = true := decide_eq_true c4
      clear c4
      by_cases c5 : a0_0 ≤ 53
      · rw [if_pos c5] at H
        have c5b0 : decide (a0_0 ≤ 53) = true := decide_eq_true c5
        clear c5
        obtain rfl := Option.some.inj H
        go_enter Try.func26, Try.ntmps26
        go_wp2_with (first | ((with_reducible refine gate_dst (N := 1) rfl ?_); refine box_event ?hg (N := 1) ?hd (cs := #[.int .i64 a0_0, .int .i64 a0_1, .int .i64 a0_2, .int .i64 a0_3, .int .i64 a0_4, .int .u32 a0_5]) (t := 26) ?hr ?_; (case hd => rfl); (case hg => rfl); (case hr => first | (go_simp; done) | (go_simp; rfl)); intro gb169 hg w6 hbox hb; have n0_ := Aside0.mk (below_step (by repeat (first | (with_reducible first | exact HB.out | apply below_alloc | apply pw_below_drewN | apply below_drew1) | exact HB.out)) hb); have n1_ := Aside0.mk (hbox); have n2_ := Aside0.mk ((by rw [hg]; exact (below_size (by repeat (first | (with_reducible first | exact HB.out | apply below_alloc | apply pw_below_drewN | apply below_drew1) | exact HB.out))) : w.heap.size ≤ gb169)); have n3_ := Aside0.mk ((by rw [hg]; exact (below_size (by repeat (first | (with_reducible first | exact HB.out | apply below_alloc | apply pw_below_drewN | apply below_drew1) | exact HB.out))) : w.heap.size ≤ gb169)); clear HB; have HB := n0_; have BK169 := n1_; have GW169 := n2_; have GE169 := n3_; clear n0_ n1_ n2_ n3_; clear hb hbox hg; have hcz7_0 : w6.cell? ⟨gb169, 0, none⟩ = some (.int .i64 a0_0) := (blk_cell BK169.out 0).trans rfl; have hcz7_1 : w6.cell? ⟨gb169, 1, none⟩ = some (.int .i64 a0_1) := (blk_cell BK169.out 1).trans rfl; have hcz7_2 : w6.cell? ⟨gb169, 2, none⟩ = some (.int .i64 a0_2) := (blk_cell BK169.out 2).trans rfl; have hcz7_3 : w6.cell? ⟨gb169, 3, none⟩ = some (.int .i64 a0_3) := (blk_cell BK169.out 3).trans rfl; have hcz7_4 : w6.cell? ⟨gb169, 4, none⟩ = some (.int .i64 a0_4) := (blk_cell BK169.out 4).trans rfl; have hcz7_5 : w6.cell? ⟨gb169, 5, none⟩ = some (.int .u32 a0_5) := (blk_cell BK169.out 5).trans rfl; have hfz7_0 := blk_frozen BK169.out 0; have hfz7_1 := blk_frozen BK169.out 1; have hfz7_2 := blk_frozen BK169.out 2; have hfz7_3 := blk_frozen BK169.out 3; have hfz7_4 := blk_frozen BK169.out 4; have hfz7_5 := blk_frozen BK169.out 5) | ((with_reducible refine gate_callee (f := 14) rfl ?_); refine goesL_ (some 6) rfl rfl Try.func14 (by kernel_rfl) rfl #[.int .i64 a0_0] rfl (by (try simp only [List.map_toArray, List.map_cons, List.map_nil]); first | done | rfl | (simp only [List.length_drop, List.length_take]; rfl)) ?_; (with_reducible refine (alu_Is.calls a0_0 true _ A2.out).mono ?_); rintro e w' ⟨rfl, ⟨nd, rfl⟩⟩; refine ⟨_, rfl, ?_⟩) | (go_at_call 14; (with_reducible refine (alu_Is.calls a0_0 true _ A2.out).mono ?_); rintro e w' ⟨rfl, ⟨nd, rfl⟩⟩))
        go_ret
        exact ⟨by first | rfl | (simp [errW_none, errW_some] <;> rfl) | (simp [*, errW_none, errW_some] <;> rfl), by repeat (first | (with_reducible first | exact HB.out | apply below_alloc | apply pw_below_drewN | apply below_drew1 | refine below_set ?_ GE169.out) | exact HB.out)⟩
      · rw [if_neg c5] at H
        have c5b0 : decide (a0_0 ≤ 53) = false := decide_eq_false c5
        clear c5
        obtain rfl := Option.some.inj H
        go_enter Try.func26, Try.ntmps26
        go_wp2_with (first | ((with_reducible refine gate_dst (N := 1) rfl ?_); refine box_event ?hg (N := 1) ?hd (cs := #[.int .i64 a0_0, .int .i64 a0_1, .int .i64 a0_2, .int .i64 a0_3, .int .i64 a0_4, .int .u32 a0_5]) (t := 26) ?hr ?_; (case hd => rfl); (case hg => rfl); (case hr => first | (go_simp; done) | (go_simp; rfl)); intro gb169 hg w8 hbox hb; have n0_ := Aside0.mk (below_step (by repeat (first | (with_reducible first | exact HB.out | apply below_alloc | apply pw_below_drewN | apply below_drew1) | exact HB.out)) hb); have n1_ := Aside0.mk (hbox); have n2_ := Aside0.mk ((by rw [hg]; exact (below_size (by repeat (first | (with_reducible first | exact HB.out | apply below_alloc | apply pw_below_drewN | apply below_drew1) | exact HB.out))) : w.heap.size ≤ gb169)); have n3_ := Aside0.mk ((by rw [hg]; exact (below_size (by repeat (first | (with_reducible first | exact HB.out | apply below_alloc | apply pw_below_drewN | apply below_drew1) | exact HB.out))) : w.heap.size ≤ gb169)); clear HB; have HB := n0_; have BK169 := n1_; have GW169 := n2_; have GE169 := n3_; clear n0_ n1_ n2_ n3_; clear hb hbox hg; have hcz9_0 : w8.cell? ⟨gb169, 0, none⟩ = some (.int .i64 a0_0) := (blk_cell BK169.out 0).trans rfl; have hcz9_1 : w8.cell? ⟨gb169, 1, none⟩ = some (.int .i64 a0_1) := (blk_cell BK169.out 1).trans rfl; have hcz9_2 : w8.cell? ⟨gb169, 2, none⟩ = some (.int .i64 a0_2) := (blk_cell BK169.out 2).trans rfl; have hcz9_3 : w8.cell? ⟨gb169, 3, none⟩ = some (.int .i64 a0_3) := (blk_cell BK169.out 3).trans rfl; have hcz9_4 : w8.cell? ⟨gb169, 4, none⟩ = some (.int .i64 a0_4) := (blk_cell BK169.out 4).trans rfl; have hcz9_5 : w8.cell? ⟨gb169, 5, none⟩ = some (.int .u32 a0_5) := (blk_cell BK169.out 5).trans rfl; have hfz9_0 := blk_frozen BK169.out 0; have hfz9_1 := blk_frozen BK169.out 1; have hfz9_2 := blk_frozen BK169.out 2; have hfz9_3 := blk_frozen BK169.out 3; have hfz9_4 := blk_frozen BK169.out 4; have hfz9_5 := blk_frozen BK169.out 5) | ((with_reducible refine gate_callee (f := 14) rfl ?_); refine goesL_ (some 6) rfl rfl Try.func14 (by kernel_rfl) rfl #[.int .i64 a0_0] rfl (by (try simp only [List.map_toArray, List.map_cons, List.map_nil]); first | done | rfl | (simp only [List.length_drop, List.length_take]; rfl)) ?_; (with_reducible refine (alu_Is.calls a0_0 true _ A2.out).mono ?_); rintro e w' ⟨rfl, ⟨nd, rfl⟩⟩; refine ⟨_, rfl, ?_⟩) | (go_at_call 14; (with_reducible refine (alu_Is.calls a0_0 true _ A2.out).mono ?_); rintro e w' ⟨rfl, ⟨nd, rfl⟩⟩))
        go_ret
        exact ⟨by first | rfl | (simp [errW_none, errW_some] <;> rfl) | (simp [*, errW_none, errW_some] <;> rfl), by repeat (first | (with_reducible first | exact HB.out | apply below_alloc | apply pw_below_drewN | apply below_drew1 | refine below_set ?_ GE169.out) | exact HB.out)⟩
    · rw [if_neg c4] at H
      have c4b0 : decide (46 ≤ a0_0) = false := decide_eq_false c4
      clear c4
      obtain rfl := Option.some.inj H
      go_enter Try.func26, Try.ntmps26
      go_wp2_with (first | ((with_reducible refine gate_dst (N := 1) rfl ?_); refine box_event ?hg (N := 1) ?hd (cs := #[.int .i64 a0_0, .int .i64 a0_1, .int .i64 a0_2, .int .i64 a0_3, .int .i64 a0_4, .int .u32 a0_5]) (t := 26) ?hr ?_; (case hd => rfl); (case hg => rfl); (case hr => first | (go_simp; done) | (go_simp; rfl)); intro gb169 hg w10 hbox hb; have n0_ := Aside0.mk (below_step (by repeat (first | (with_reducible first | exact HB.out | apply below_alloc | apply pw_below_drewN | apply below_drew1) | exact HB.out)) hb); have n1_ := Aside0.mk (hbox); have n2_ := Aside0.mk ((by rw [hg]; exact (below_size (by repeat (first | (with_reducible first | exact HB.out | apply below_alloc | apply pw_below_drewN | apply below_drew1) | exact HB.out))) : w.heap.size ≤ gb169)); have n3_ := Aside0.mk ((by rw [hg]; exact (below_size (by repeat (first | (with_reducible first | exact HB.out | apply below_alloc | apply pw_below_drewN | apply below_drew1) | exact HB.out))) : w.heap.size ≤ gb169)); clear HB; have HB := n0_; have BK169 := n1_; have GW169 := n2_; have GE169 := n3_; clear n0_ n1_ n2_ n3_; clear hb hbox hg; have hcz11_0 : w10.cell? ⟨gb169, 0, none⟩ = some (.int .i64 a0_0) := (blk_cell BK169.out 0).trans rfl; have hcz11_1 : w10.cell? ⟨gb169, 1, none⟩ = some (.int .i64 a0_1) := (blk_cell BK169.out 1).trans rfl; have hcz11_2 : w10.cell? ⟨gb169, 2, none⟩ = some (.int .i64 a0_2) := (blk_cell BK169.out 2).trans rfl; have hcz11_3 : w10.cell? ⟨gb169, 3, none⟩ = some (.int .i64 a0_3) := (blk_cell BK169.out 3).trans rfl; have hcz11_4 : w10.cell? ⟨gb169, 4, none⟩ = some (.int .i64 a0_4) := (blk_cell BK169.out 4).trans rfl; have hcz11_5 : w10.cell? ⟨gb169, 5, none⟩ = some (.int .u32 a0_5) := (blk_cell BK169.out 5).trans rfl; have hfz11_0 := blk_frozen BK169.out 0; have hfz11_1 := blk_frozen BK169.out 1; have hfz11_2 := blk_frozen BK169.out 2; have hfz11_3 := blk_frozen BK169.out 3; have hfz11_4 := blk_frozen BK169.out 4; have hfz11_5 := blk_frozen BK169.out 5) | ((with_reducible refine gate_callee (f := 14) rfl ?_); refine goesL_ (some 6) rfl rfl Try.func14 (by kernel_rfl) rfl #[.int .i64 a0_0] rfl (by (try simp only [List.map_toArray, List.map_cons, List.map_nil]); first | done | rfl | (simp only [List.length_drop, List.length_take]; rfl)) ?_; (with_reducible refine (alu_Is.calls a0_0 true _ A2.out).mono ?_); rintro e w' ⟨rfl, ⟨nd, rfl⟩⟩; refine ⟨_, rfl, ?_⟩) | (go_at_call 14; (with_reducible refine (alu_Is.calls a0_0 true _ A2.out).mono ?_); rintro e w' ⟨rfl, ⟨nd, rfl⟩⟩))
      go_ret
      exact ⟨by first | rfl | (simp [errW_none, errW_some] <;> rfl) | (simp [*, errW_none, errW_some] <;> rfl), by repeat (first | (with_reducible first | exact HB.out | apply below_alloc | apply pw_below_drewN | apply below_drew1 | refine below_set ?_ GE169.out) | exact HB.out)⟩
  · replace c3 := Bool.eq_false_iff.mpr c3
    subst c3
    have H1 : (some 0) = some r := by rw [if_neg (show ¬ (false = true) by decide)] at H; exact H
    clear H
    have H := H1
    clear H1
    obtain rfl := Option.some.inj H
    go_enter Try.func26, Try.ntmps26
    go_wp2_with (first | ((with_reducible refine gate_dst (N := 1) rfl ?_); refine box_event ?hg (N := 1) ?hd (cs := #[.int .i64 a0_0, .int .i64 a0_1, .int .i64 a0_2, .int .i64 a0_3, .int .i64 a0_4, .int .u32 a0_5]) (t := 26) ?hr ?_; (case hd => rfl); (case hg => rfl); (case hr => first | (go_simp; done) | (go_simp; rfl)); intro gb169 hg w12 hbox hb; have n0_ := Aside0.mk (below_step (by repeat (first | (with_reducible first | exact HB.out | apply below_alloc | apply pw_below_drewN | apply below_drew1) | exact HB.out)) hb); have n1_ := Aside0.mk (hbox); have n2_ := Aside0.mk ((by rw [hg]; exact (below_size (by repeat (first | (with_reducible first | exact HB.out | apply below_alloc | apply pw_below_drewN | apply below_drew1) | exact HB.out))) : w.heap.size ≤ gb169)); have n3_ := Aside0.mk ((by rw [hg]; exact (below_size (by repeat (first | (with_reducible first | exact HB.out | apply below_alloc | apply pw_below_drewN | apply below_drew1) | exact HB.out))) : w.heap.size ≤ gb169)); clear HB; have HB := n0_; have BK169 := n1_; have GW169 := n2_; have GE169 := n3_; clear n0_ n1_ n2_ n3_; clear hb hbox hg; have hcz13_0 : w12.cell? ⟨gb169, 0, none⟩ = some (.int .i64 a0_0) := (blk_cell BK169.out 0).trans rfl; have hcz13_1 : w12.cell? ⟨gb169, 1, none⟩ = some (.int .i64 a0_1) := (blk_cell BK169.out 1).trans rfl; have hcz13_2 : w12.cell? ⟨gb169, 2, none⟩ = some (.int .i64 a0_2) := (blk_cell BK169.out 2).trans rfl; have hcz13_3 : w12.cell? ⟨gb169, 3, none⟩ = some (.int .i64 a0_3) := (blk_cell BK169.out 3).trans rfl; have hcz13_4 : w12.cell? ⟨gb169, 4, none⟩ = some (.int .i64 a0_4) := (blk_cell BK169.out 4).trans rfl; have hcz13_5 : w12.cell? ⟨gb169, 5, none⟩ = some (.int .u32 a0_5) := (blk_cell BK169.out 5).trans rfl; have hfz13_0 := blk_frozen BK169.out 0; have hfz13_1 := blk_frozen BK169.out 1; have hfz13_2 := blk_frozen BK169.out 2; have hfz13_3 := blk_frozen BK169.out 3; have hfz13_4 := blk_frozen BK169.out 4; have hfz13_5 := blk_frozen BK169.out 5) | ((with_reducible refine gate_callee (f := 14) rfl ?_); refine goesL_ (some 6) rfl rfl Try.func14 (by kernel_rfl) rfl #[.int .i64 a0_0] rfl (by (try simp only [List.map_toArray, List.map_cons, List.map_nil]); first | done | rfl | (simp only [List.length_drop, List.length_take]; rfl)) ?_; (with_reducible refine (alu_Is.calls a0_0 false _ A2.out).mono ?_); rintro e w' ⟨rfl, ⟨nd, rfl⟩⟩; refine ⟨_, rfl, ?_⟩) | (go_at_call 14; (with_reducible refine (alu_Is.calls a0_0 false _ A2.out).mono ?_); rintro e w' ⟨rfl, ⟨nd, rfl⟩⟩))
    go_ret
    exact ⟨by first | rfl | (simp [errW_none, errW_some] <;> rfl) | (simp [*, errW_none, errW_some] <;> rfl), by repeat (first | (with_reducible first | exact HB.out | apply below_alloc | apply pw_below_drewN | apply below_drew1 | refine below_set ?_ GE169.out) | exact HB.out)⟩

/-! ### pianolaref4_Into: function 27 -/
def pianolaref4_Into.f (a0_0 : Int) (a0_1 : Int) (a0_2 : Int) (a0_3 : Int) (a0_4 : Int) (a0_5 : Int) : Option (Int) := (pianolaref4_Is.f a0_0).bind fun t172 => (if t172 = true then (if a0_0 ≥ 46 then (if a0_0 ≤ 53 then (some a0_2) else (some a0_3)) else (some a0_3)) else (some 0))
set_option maxHeartbeats 8000000 in
set_option maxRecDepth 100000 in
theorem pianolaref4_Into.calls (a0_0 : Int) (a0_1 : Int) (a0_2 : Int) (a0_3 : Int) (a0_4 : Int) (a0_5 : Int) (r : Int) (w : World) (h : pianolaref4_Into.f a0_0 a0_1 a0_2 a0_3 a0_4 a0_5 = some r) :
    Calls Try.prog 27 #[.agg #[.int .i64 a0_0, .int .i64 a0_1, .int .i64 a0_2, .int .i64 a0_3, .int .i64 a0_4, .int .u32 a0_5]] w fun e w' => e = .returned (.int .i64 r) ∧ Below w.heap.size w w' := by
  have hu26 := Try.underlying26
  have HB := Aside0.mk (Below.refl w.heap.size w)
  have H : ((pianolaref4_Is.f a0_0).bind fun t172 => (if t172 = true then (if a0_0 ≥ 46 then (if a0_0 ≤ 53 then (some a0_2) else (some a0_3)) else (some a0_3)) else (some 0))) = some r := h
  clear h
  replace H := Option.bind_eq_some_iff.mp H
  obtain ⟨t172, A20, H⟩ := H
  replace H : (if t172 = true then (if a0_0 ≥ 46 then (if a0_0 ≤ 53 then (some a0_2) else (some a0_3)) else (some a0_3)) else (some 0)) = some r := H
  have A2 := Aside0.mk A20
  clear A20
  by_cases c3 : t172 = true
  · subst c3
    have H1 : (if a0_0 ≥ 46 then (if a0_0 ≤ 53 then (some a0_2) else (some a0_3)) else (some a0_3)) = some r := by rw [if_pos rfl] at H; exact H
    clear H
    have H := H1
    clear H1
    by_cases c4 : a0_0 ≥ 46
    · rw [if_pos c4] at H
      have c4b0 : decide (46 ≤ a0_0) = true := decide_eq_true c4
      clear c4
      by_cases c5 : a0_0 ≤ 53
      · rw [if_pos c5] at H
        have c5b0 : decide (a0_0 ≤ 53) = true := decide_eq_true c5
        clear c5
        obtain rfl := Option.some.inj H
        go_enter Try.func27, Try.ntmps27
        go_wp2_with (first | ((with_reducible refine gate_dst (N := 1) rfl ?_); refine box_event ?hg (N := 1) ?hd (cs := #[.int .i64 a0_0, .int .i64 a0_1, .int .i64 a0_2, .int .i64 a0_3, .int .i64 a0_4, .int .u32 a0_5]) (t := 26) ?hr ?_; (case hd => rfl); (case hg => rfl); (case hr => first | (go_simp; done) | (go_simp; rfl)); intro gb171 hg w6 hbox hb; have n0_ := Aside0.mk (below_step (by repeat (first | (with_reducible first | exact HB.out | apply below_alloc | apply pw_below_drewN | apply below_drew1) | exact HB.out)) hb); have n1_ := Aside0.mk (hbox); have n2_ := Aside0.mk ((by rw [hg]; exact (below_size (by repeat (first | (with_reducible first | exact HB.out | apply below_alloc | apply pw_below_drewN | apply below_drew1) | exact HB.out))) : w.heap.size ≤ gb171)); have n3_ := Aside0.mk ((by rw [hg]; exact (below_size (by repeat (first | (with_reducible first | exact HB.out | apply below_alloc | apply pw_below_drewN | apply below_drew1) | exact HB.out))) : w.heap.size ≤ gb171)); clear HB; have HB := n0_; have BK171 := n1_; have GW171 := n2_; have GE171 := n3_; clear n0_ n1_ n2_ n3_; clear hb hbox hg; have hcz7_0 : w6.cell? ⟨gb171, 0, none⟩ = some (.int .i64 a0_0) := (blk_cell BK171.out 0).trans rfl; have hcz7_1 : w6.cell? ⟨gb171, 1, none⟩ = some (.int .i64 a0_1) := (blk_cell BK171.out 1).trans rfl; have hcz7_2 : w6.cell? ⟨gb171, 2, none⟩ = some (.int .i64 a0_2) := (blk_cell BK171.out 2).trans rfl; have hcz7_3 : w6.cell? ⟨gb171, 3, none⟩ = some (.int .i64 a0_3) := (blk_cell BK171.out 3).trans rfl; have hcz7_4 : w6.cell? ⟨gb171, 4, none⟩ = some (.int .i64 a0_4) := (blk_cell BK171.out 4).trans rfl; have hcz7_5 : w6.cell? ⟨gb171, 5, none⟩ = some (.int .u32 a0_5) := (blk_cell BK171.out 5).trans rfl; have hfz7_0 := blk_frozen BK171.out 0; have hfz7_1 := blk_frozen BK171.out 1; have hfz7_2 := blk_frozen BK171.out 2; have hfz7_3 := blk_frozen BK171.out 3; have hfz7_4 := blk_frozen BK171.out 4; have hfz7_5 := blk_frozen BK171.out 5) | ((with_reducible refine gate_callee (f := 25) rfl ?_); refine goesL_ (some 5) rfl rfl Try.func25 (by kernel_rfl) rfl #[.int .i64 a0_0] rfl (by (try simp only [List.map_toArray, List.map_cons, List.map_nil]); first | done | rfl | (simp only [List.length_drop, List.length_take]; rfl)) ?_; (with_reducible refine (pianolaref4_Is.calls a0_0 true _ A2.out).mono ?_); rintro e w' ⟨rfl, ⟨nd, rfl⟩⟩; refine ⟨_, rfl, ?_⟩) | (go_at_call 25; (with_reducible refine (pianolaref4_Is.calls a0_0 true _ A2.out).mono ?_); rintro e w' ⟨rfl, ⟨nd, rfl⟩⟩))
        go_ret
        exact ⟨by first | rfl | (simp [errW_none, errW_some] <;> rfl) | (simp [*, errW_none, errW_some] <;> rfl), by repeat (first | (with_reducible first | exact HB.out | apply below_alloc | apply pw_below_drewN | apply below_drew1 | refine below_set ?_ GE171.out) | exact HB.out)⟩
      · rw [if_neg c5] at H
        have c5b0 : decide (a0_0 ≤ 53) = false := decide_eq_false c5
        clear c5
        obtain rfl := Option.some.inj H
        go_enter Try.func27, Try.ntmps27
        go_wp2_with (first | ((with_reducible refine gate_dst (N := 1) rfl ?_); refine box_event ?hg (N := 1) ?hd (cs := #[.int .i64 a0_0, .int .i64 a0_1, .int .i64 a0_2, .int .i64 a0_3, .int .i64 a0_4, .int .u32 a0_5]) (t := 26) ?hr ?_; (case hd => rfl); (case hg => rfl); (case hr => first | (go_simp; done) | (go_simp; rfl)); intro gb171 hg w8 hbox hb; have n0_ := Aside0.mk (below_step (by repeat (first | (with_reducible first | exact HB.out | apply below_alloc | apply pw_below_drewN | apply below_drew1) | exact HB.out)) hb); have n1_ := Aside0.mk (hbox); have n2_ := Aside0.mk ((by rw [hg]; exact (below_size (by repeat (first | (with_reducible first | exact HB.out | apply below_alloc | apply pw_below_drewN | apply below_drew1) | exact HB.out))) : w.heap.size ≤ gb171)); have n3_ := Aside0.mk ((by rw [hg]; exact (below_size (by repeat (first | (with_reducible first | exact HB.out | apply below_alloc | apply pw_below_drewN | apply below_drew1) | exact HB.out))) : w.heap.size ≤ gb171)); clear HB; have HB := n0_; have BK171 := n1_; have GW171 := n2_; have GE171 := n3_; clear n0_ n1_ n2_ n3_; clear hb hbox hg; have hcz9_0 : w8.cell? ⟨gb171, 0, none⟩ = some (.int .i64 a0_0) := (blk_cell BK171.out 0).trans rfl; have hcz9_1 : w8.cell? ⟨gb171, 1, none⟩ = some (.int .i64 a0_1) := (blk_cell BK171.out 1).trans rfl; have hcz9_2 : w8.cell? ⟨gb171, 2, none⟩ = some (.int .i64 a0_2) := (blk_cell BK171.out 2).trans rfl; have hcz9_3 : w8.cell? ⟨gb171, 3, none⟩ = some (.int .i64 a0_3) := (blk_cell BK171.out 3).trans rfl; have hcz9_4 : w8.cell? ⟨gb171, 4, none⟩ = some (.int .i64 a0_4) := (blk_cell BK171.out 4).trans rfl; have hcz9_5 : w8.cell? ⟨gb171, 5, none⟩ = some (.int .u32 a0_5) := (blk_cell BK171.out 5).trans rfl; have hfz9_0 := blk_frozen BK171.out 0; have hfz9_1 := blk_frozen BK171.out 1; have hfz9_2 := blk_frozen BK171.out 2; have hfz9_3 := blk_frozen BK171.out 3; have hfz9_4 := blk_frozen BK171.out 4; have hfz9_5 := blk_frozen BK171.out 5) | ((with_reducible refine gate_callee (f := 25) rfl ?_); refine goesL_ (some 5) rfl rfl Try.func25 (by kernel_rfl) rfl #[.int .i64 a0_0] rfl (by (try simp only [List.map_toArray, List.map_cons, List.map_nil]); first | done | rfl | (simp only [List.length_drop, List.length_take]; rfl)) ?_; (with_reducible refine (pianolaref4_Is.calls a0_0 true _ A2.out).mono ?_); rintro e w' ⟨rfl, ⟨nd, rfl⟩⟩; refine ⟨_, rfl, ?_⟩) | (go_at_call 25; (with_reducible refine (pianolaref4_Is.calls a0_0 true _ A2.out).mono ?_); rintro e w' ⟨rfl, ⟨nd, rfl⟩⟩))
        go_ret
        exact ⟨by first | rfl | (simp [errW_none, errW_some] <;> rfl) | (simp [*, errW_none, errW_some] <;> rfl), by repeat (first | (with_reducible first | exact HB.out | apply below_alloc | apply pw_below_drewN | apply below_drew1 | refine below_set ?_ GE171.out) | exact HB.out)⟩
    · rw [if_neg c4] at H
      have c4b0 : decide (46 ≤ a0_0) = false := decide_eq_false c4
      clear c4
      obtain rfl := Option.some.inj H
      go_enter Try.func27, Try.ntmps27
      go_wp2_with (first | ((with_reducible refine gate_dst (N := 1) rfl ?_); refine box_event ?hg (N := 1) ?hd (cs := #[.int .i64 a0_0, .int .i64 a0_1, .int .i64 a0_2, .int .i64 a0_3, .int .i64 a0_4, .int .u32 a0_5]) (t := 26) ?hr ?_; (case hd => rfl); (case hg => rfl); (case hr => first | (go_simp; done) | (go_simp; rfl)); intro gb171 hg w10 hbox hb; have n0_ := Aside0.mk (below_step (by repeat (first | (with_reducible first | exact HB.out | apply below_alloc | apply pw_below_drewN | apply below_drew1) | exact HB.out)) hb); have n1_ := Aside0.mk (hbox); have n2_ := Aside0.mk ((by rw [hg]; exact (below_size (by repeat (first | (with_reducible first | exact HB.out | apply below_alloc | apply pw_below_drewN | apply below_drew1) | exact HB.out))) : w.heap.size ≤ gb171)); have n3_ := Aside0.mk ((by rw [hg]; exact (below_size (by repeat (first | (with_reducible first | exact HB.out | apply below_alloc | apply pw_below_drewN | apply below_drew1) | exact HB.out))) : w.heap.size ≤ gb171)); clear HB; have HB := n0_; have BK171 := n1_; have GW171 := n2_; have GE171 := n3_; clear n0_ n1_ n2_ n3_; clear hb hbox hg; have hcz11_0 : w10.cell? ⟨gb171, 0, none⟩ = some (.int .i64 a0_0) := (blk_cell BK171.out 0).trans rfl; have hcz11_1 : w10.cell? ⟨gb171, 1, none⟩ = some (.int .i64 a0_1) := (blk_cell BK171.out 1).trans rfl; have hcz11_2 : w10.cell? ⟨gb171, 2, none⟩ = some (.int .i64 a0_2) := (blk_cell BK171.out 2).trans rfl; have hcz11_3 : w10.cell? ⟨gb171, 3, none⟩ = some (.int .i64 a0_3) := (blk_cell BK171.out 3).trans rfl; have hcz11_4 : w10.cell? ⟨gb171, 4, none⟩ = some (.int .i64 a0_4) := (blk_cell BK171.out 4).trans rfl; have hcz11_5 : w10.cell? ⟨gb171, 5, none⟩ = some (.int .u32 a0_5) := (blk_cell BK171.out 5).trans rfl; have hfz11_0 := blk_frozen BK171.out 0; have hfz11_1 := blk_frozen BK171.out 1; have hfz11_2 := blk_frozen BK171.out 2; have hfz11_3 := blk_frozen BK171.out 3; have hfz11_4 := blk_frozen BK171.out 4; have hfz11_5 := blk_frozen BK171.out 5) | ((with_reducible refine gate_callee (f := 25) rfl ?_); refine goesL_ (some 5) rfl rfl Try.func25 (by kernel_rfl) rfl #[.int .i64 a0_0] rfl (by (try simp only [List.map_toArray, List.map_cons, List.map_nil]); first | done | rfl | (simp only [List.length_drop, List.length_take]; rfl)) ?_; (with_reducible refine (pianolaref4_Is.calls a0_0 true _ A2.out).mono ?_); rintro e w' ⟨rfl, ⟨nd, rfl⟩⟩; refine ⟨_, rfl, ?_⟩) | (go_at_call 25; (with_reducible refine (pianolaref4_Is.calls a0_0 true _ A2.out).mono ?_); rintro e w' ⟨rfl, ⟨nd, rfl⟩⟩))
      go_ret
      exact ⟨by first | rfl | (simp [errW_none, errW_some] <;> rfl) | (simp [*, errW_none, errW_some] <;> rfl), by repeat (first | (with_reducible first | exact HB.out | apply below_alloc | apply pw_below_drewN | apply below_drew1 | refine below_set ?_ GE171.out) | exact HB.out)⟩
  · replace c3 := Bool.eq_false_iff.mpr c3
    subst c3
    have H1 : (some 0) = some r := by rw [if_neg (show ¬ (false = true) by decide)] at H; exact H
    clear H
    have H := H1
    clear H1
    obtain rfl := Option.some.inj H
    go_enter Try.func27, Try.ntmps27
    go_wp2_with (first | ((with_reducible refine gate_dst (N := 1) rfl ?_); refine box_event ?hg (N := 1) ?hd (cs := #[.int .i64 a0_0, .int .i64 a0_1, .int .i64 a0_2, .int .i64 a0_3, .int .i64 a0_4, .int .u32 a0_5]) (t := 26) ?hr ?_; (case hd => rfl); (case hg => rfl); (case hr => first | (go_simp; done) | (go_simp; rfl)); intro gb171 hg w12 hbox hb; have n0_ := Aside0.mk (below_step (by repeat (first | (with_reducible first | exact HB.out | apply below_alloc | apply pw_below_drewN | apply below_drew1) | exact HB.out)) hb); have n1_ := Aside0.mk (hbox); have n2_ := Aside0.mk ((by rw [hg]; exact (below_size (by repeat (first | (with_reducible first | exact HB.out | apply below_alloc | apply pw_below_drewN | apply below_drew1) | exact HB.out))) : w.heap.size ≤ gb171)); have n3_ := Aside0.mk ((by rw [hg]; exact (below_size (by repeat (first | (with_reducible first | exact HB.out | apply below_alloc | apply pw_below_drewN | apply below_drew1) | exact HB.out))) : w.heap.size ≤ gb171)); clear HB; have HB := n0_; have BK171 := n1_; have GW171 := n2_; have GE171 := n3_; clear n0_ n1_ n2_ n3_; clear hb hbox hg; have hcz13_0 : w12.cell? ⟨gb171, 0, none⟩ = some (.int .i64 a0_0) := (blk_cell BK171.out 0).trans rfl; have hcz13_1 : w12.cell? ⟨gb171, 1, none⟩ = some (.int .i64 a0_1) := (blk_cell BK171.out 1).trans rfl; have hcz13_2 : w12.cell? ⟨gb171, 2, none⟩ = some (.int .i64 a0_2) := (blk_cell BK171.out 2).trans rfl; have hcz13_3 : w12.cell? ⟨gb171, 3, none⟩ = some (.int .i64 a0_3) := (blk_cell BK171.out 3).trans rfl; have hcz13_4 : w12.cell? ⟨gb171, 4, none⟩ = some (.int .i64 a0_4) := (blk_cell BK171.out 4).trans rfl; have hcz13_5 : w12.cell? ⟨gb171, 5, none⟩ = some (.int .u32 a0_5) := (blk_cell BK171.out 5).trans rfl; have hfz13_0 := blk_frozen BK171.out 0; have hfz13_1 := blk_frozen BK171.out 1; have hfz13_2 := blk_frozen BK171.out 2; have hfz13_3 := blk_frozen BK171.out 3; have hfz13_4 := blk_frozen BK171.out 4; have hfz13_5 := blk_frozen BK171.out 5) | ((with_reducible refine gate_callee (f := 25) rfl ?_); refine goesL_ (some 5) rfl rfl Try.func25 (by kernel_rfl) rfl #[.int .i64 a0_0] rfl (by (try simp only [List.map_toArray, List.map_cons, List.map_nil]); first | done | rfl | (simp only [List.length_drop, List.length_take]; rfl)) ?_; (with_reducible refine (pianolaref4_Is.calls a0_0 false _ A2.out).mono ?_); rintro e w' ⟨rfl, ⟨nd, rfl⟩⟩; refine ⟨_, rfl, ?_⟩) | (go_at_call 25; (with_reducible refine (pianolaref4_Is.calls a0_0 false _ A2.out).mono ?_); rintro e w' ⟨rfl, ⟨nd, rfl⟩⟩))
    go_ret
    exact ⟨by first | rfl | (simp [errW_none, errW_some] <;> rfl) | (simp [*, errW_none, errW_some] <;> rfl), by repeat (first | (with_reducible first | exact HB.out | apply below_alloc | apply pw_below_drewN | apply below_drew1 | refine below_set ?_ GE171.out) | exact HB.out)⟩

/-! ### pianolalaw4_same: function 10 (by hand) -/
/-- an instruction in a box: its six cells in block g, and nothing below b has changed since w0 -/
structure BoxI (b : Nat) (w0 w : World) (g : Nat) (i s t d h m : Int) : Prop where
  c0 : w.cell? ⟨g, 0, none⟩ = some (.int .i64 i)
  c1 : w.cell? ⟨g, 1, none⟩ = some (.int .i64 s)
  c2 : w.cell? ⟨g, 2, none⟩ = some (.int .i64 t)
  c3 : w.cell? ⟨g, 3, none⟩ = some (.int .i64 d)
  c4 : w.cell? ⟨g, 4, none⟩ = some (.int .i64 h)
  c5 : w.cell? ⟨g, 5, none⟩ = some (.int .u32 m)
  old : g < w.heap.size
  bel : Below b w0 w
  le : b ≤ w.heap.size
theorem BoxI.below {b : Nat} {w0 w w1 : World} {g : Nat} {i s t d h m : Int} (B : BoxI b w0 w g i s t d h m) (hb : Below w.heap.size w w1) : BoxI b w0 w1 g i s t d h m :=
  ⟨by rw [hb.cell (p := ⟨g, 0, none⟩) B.old]; exact B.c0, by rw [hb.cell (p := ⟨g, 1, none⟩) B.old]; exact B.c1, by rw [hb.cell (p := ⟨g, 2, none⟩) B.old]; exact B.c2, by rw [hb.cell (p := ⟨g, 3, none⟩) B.old]; exact B.c3, by rw [hb.cell (p := ⟨g, 4, none⟩) B.old]; exact B.c4, by rw [hb.cell (p := ⟨g, 5, none⟩) B.old]; exact B.c5, Nat.lt_of_lt_of_le B.old hb.size, B.bel.trans (hb.mono B.le), Nat.le_trans B.le hb.size⟩
theorem BoxI.drawn {b : Nat} {w0 w w1 : World} {g : Nat} {i s t d h m : Int} (B : BoxI b w0 w g i s t d h m) (hb : Drawn0 w w1) : BoxI b w0 w1 g i s t d h m := by
  obtain ⟨n, rfl⟩ := hb
  exact ⟨B.c0, B.c1, B.c2, B.c3, B.c4, B.c5, B.old, B.bel.trans ⟨rfl, rfl, rfl, Nat.le_refl _, fun _ _ => rfl⟩, B.le⟩
theorem BoxI.new (w : World) (i s t d h m : Int) (T : TypeId) : BoxI w.heap.size w (w.alloc (.cells #[.int .i64 i, .int .i64 s, .int .i64 t, .int .i64 d, .int .i64 h, .int .u32 m] T)) w.heap.size i s t d h m :=
  ⟨by simp, by simp, by simp, by simp, by simp, by simp, by simp, (Below.refl _ _).alloc (Nat.le_refl _) _, by simp⟩
theorem boxI_drew_iff {B : Nat} {a w : World} : Below B a w.drew ↔ Below B a w := ⟨fun h => ⟨h.os, h.tape, h.output, h.size, h.block⟩, fun h => ⟨h.os, h.tape, h.output, h.size, h.block⟩⟩
theorem boxI_drewN_iff {B : Nat} {a w : World} {n : Nat} : Below B a (w.drewN n) ↔ Below B a w := ⟨fun h => ⟨h.os, h.tape, h.output, h.size, h.block⟩, fun h => ⟨h.os, h.tape, h.output, h.size, h.block⟩⟩
attribute [local simp] boxI_drew_iff boxI_drewN_iff
set_option maxHeartbeats 4000000 in
theorem pianolalaw4_same.straight (k : Nat) (i s t d h m x y hi lo : Int) (v : Int) (ok : Bool) (a b : Int) (c tr is : Bool) (into : Int) (w : World)
    (e1 : alu_Do.f k i s t d h m x y = some (v, ok)) (e2 : pianolaref4_Do.f k i s t d h m x y = some (v, ok))
    (e3 : alu_Halves.f k i s t d h m x y hi lo = some (a, b, c)) (e4 : pianolaref4_Halves.f k i s t d h m x y hi lo = some (a, b, c))
    (e5 : alu_Traps.f k i s t d h m x y = some tr) (e6 : pianolaref4_Traps.f k i s t d h m x y = some tr)
    (e7 : alu_Is.f i = some is) (e8 : pianolaref4_Is.f i = some is)
    (e9 : alu_Into.f i s t d h m = some into) (e10 : pianolaref4_Into.f i s t d h m = some into) :
    Calls Try.prog 10 #[.agg #[.int .i64 i, .int .i64 s, .int .i64 t, .int .i64 d, .int .i64 h, .int .u32 m], .int .u32 x, .int .u32 y, .int .u32 hi, .int .u32 lo] w fun e w' => e = .returned (.bool true) ∧ Below w.heap.size w w' := by
  have E1 := Aside0.mk e1; clear e1
  have E2 := Aside0.mk e2; clear e2
  have E3 := Aside0.mk e3; clear e3
  have E4 := Aside0.mk e4; clear e4
  have E5 := Aside0.mk e5; clear e5
  have E6 := Aside0.mk e6; clear e6
  have E7 := Aside0.mk e7; clear e7
  have E8 := Aside0.mk e8; clear e8
  have E9 := Aside0.mk e9; clear e9
  have E10 := Aside0.mk e10; clear e10
  go_enter Try.func10, Try.ntmps10
  go_wp2_with fail
  have BX := BoxI.new w i s t d h m 26
  have c0 := BX.c0; have c1 := BX.c1; have c2 := BX.c2; have c3 := BX.c3; have c4 := BX.c4; have c5 := BX.c5
  generalize (w.alloc (.cells #[.int .i64 i, .int .i64 s, .int .i64 t, .int .i64 d, .int .i64 h, .int .u32 m] 26)) = W at *
  go_wp2_with (first
    | (go_at_call 7; (with_reducible refine (alu_Do.calls k i s t d h m x y v ok _ E1.out).mono ?_); rintro e wn ⟨rfl, hb⟩; have BY := BX.below hb; clear c0 c1 c2 c3 c4 c5 hb BX; have BX := BY; clear BY; have c0 := BX.c0; have c1 := BX.c1; have c2 := BX.c2; have c3 := BX.c3; have c4 := BX.c4; have c5 := BX.c5)
    | (go_at_call 21; (with_reducible refine (pianolaref4_Do.calls k i s t d h m x y v ok _ E2.out).mono ?_); rintro e wn ⟨rfl, hb⟩; have BY := BX.below hb; clear c0 c1 c2 c3 c4 c5 hb BX; have BX := BY; clear BY; have c0 := BX.c0; have c1 := BX.c1; have c2 := BX.c2; have c3 := BX.c3; have c4 := BX.c4; have c5 := BX.c5)
    | (go_at_call 22; (with_reducible refine (alu_Halves.calls k i s t d h m x y hi lo a b c _ E3.out).mono ?_); rintro e wn ⟨rfl, hb⟩; have BY := BX.below hb; clear c0 c1 c2 c3 c4 c5 hb BX; have BX := BY; clear BY; have c0 := BX.c0; have c1 := BX.c1; have c2 := BX.c2; have c3 := BX.c3; have c4 := BX.c4; have c5 := BX.c5)
    | (go_at_call 23; (with_reducible refine (pianolaref4_Halves.calls k i s t d h m x y hi lo a b c _ E4.out).mono ?_); rintro e wn ⟨rfl, hb⟩; have BY := BX.below hb; clear c0 c1 c2 c3 c4 c5 hb BX; have BX := BY; clear BY; have c0 := BX.c0; have c1 := BX.c1; have c2 := BX.c2; have c3 := BX.c3; have c4 := BX.c4; have c5 := BX.c5)
    | (go_at_call 9; (with_reducible refine (alu_Traps.calls k i s t d h m x y tr _ E5.out).mono ?_); rintro e wn ⟨rfl, hb⟩; have BY := BX.below hb; clear c0 c1 c2 c3 c4 c5 hb BX; have BX := BY; clear BY; have c0 := BX.c0; have c1 := BX.c1; have c2 := BX.c2; have c3 := BX.c3; have c4 := BX.c4; have c5 := BX.c5)
    | (go_at_call 24; (with_reducible refine (pianolaref4_Traps.calls k i s t d h m x y tr _ E6.out).mono ?_); rintro e wn ⟨rfl, hb⟩; have BY := BX.below hb; clear c0 c1 c2 c3 c4 c5 hb BX; have BX := BY; clear BY; have c0 := BX.c0; have c1 := BX.c1; have c2 := BX.c2; have c3 := BX.c3; have c4 := BX.c4; have c5 := BX.c5)
    | (go_at_call 14; (with_reducible refine (alu_Is.calls i is _ E7.out).mono ?_); rintro e wn ⟨rfl, hb⟩; have BY := BX.drawn hb; clear c0 c1 c2 c3 c4 c5 hb BX; have BX := BY; clear BY; have c0 := BX.c0; have c1 := BX.c1; have c2 := BX.c2; have c3 := BX.c3; have c4 := BX.c4; have c5 := BX.c5)
    | (go_at_call 25; (with_reducible refine (pianolaref4_Is.calls i is _ E8.out).mono ?_); rintro e wn ⟨rfl, hb⟩; have BY := BX.drawn hb; clear c0 c1 c2 c3 c4 c5 hb BX; have BX := BY; clear BY; have c0 := BX.c0; have c1 := BX.c1; have c2 := BX.c2; have c3 := BX.c3; have c4 := BX.c4; have c5 := BX.c5)
    | (go_at_call 26; (with_reducible refine (alu_Into.calls i s t d h m into _ E9.out).mono ?_); rintro e wn ⟨rfl, hb⟩; have BY := BX.below hb; clear c0 c1 c2 c3 c4 c5 hb BX; have BX := BY; clear BY; have c0 := BX.c0; have c1 := BX.c1; have c2 := BX.c2; have c3 := BX.c3; have c4 := BX.c4; have c5 := BX.c5)
    | (go_at_call 27; (with_reducible refine (pianolaref4_Into.calls i s t d h m into _ E10.out).mono ?_); rintro e wn ⟨rfl, hb⟩; have BY := BX.below hb; clear c0 c1 c2 c3 c4 c5 hb BX; have BX := BY; clear BY; have c0 := BX.c0; have c1 := BX.c1; have c2 := BX.c2; have c3 := BX.c3; have c4 := BX.c4; have c5 := BX.c5))
  have hold := BX.old
  have hbel := BX.bel
  have hle := BX.le
  clear BX
  go_region_held3 (fun w' => w'.cell? ⟨w.heap.size, 0, none⟩ = some (.int .i64 i) ∧ w'.cell? ⟨w.heap.size, 1, none⟩ = some (.int .i64 s) ∧ w'.cell? ⟨w.heap.size, 2, none⟩ = some (.int .i64 t) ∧ w'.cell? ⟨w.heap.size, 3, none⟩ = some (.int .i64 d) ∧ w'.cell? ⟨w.heap.size, 4, none⟩ = some (.int .i64 h) ∧ w'.cell? ⟨w.heap.size, 5, none⟩ = some (.int .u32 m) ∧ w.heap.size < w'.heap.size ∧ Below w.heap.size w w' ∧ w.heap.size ≤ w'.heap.size)
    (first | go_keep | (go_split_ands; have BY := BoxI.below (⟨by assumption, by assumption, by assumption, by assumption, by assumption, by assumption, by assumption, by assumption, by assumption⟩ : BoxI w.heap.size w _ w.heap.size i s t d h m) hb; exact ⟨BY.c0, BY.c1, BY.c2, BY.c3, BY.c4, BY.c5, BY.old, BY.bel, BY.le⟩) | (go_split_ands; simp_all; done))
    (first
      | (go_at_call 9; (with_reducible refine (alu_Traps.calls k i s t d h m x y tr _ E5.out).mono ?_); rintro e wn ⟨rfl, hb⟩)
      | (go_at_call 24; (with_reducible refine (pianolaref4_Traps.calls k i s t d h m x y tr _ E6.out).mono ?_); rintro e wn ⟨rfl, hb⟩)
      | (go_at_call 14; (with_reducible refine (alu_Is.calls i is _ E7.out).mono ?_); rintro e wn ⟨rfl, hd⟩; have hb := hd.below; clear hd)
      | (go_at_call 25; (with_reducible refine (pianolaref4_Is.calls i is _ E8.out).mono ?_); rintro e wn ⟨rfl, hd⟩; have hb := hd.below; clear hd)
      | (go_at_call 26; (with_reducible refine (alu_Into.calls i s t d h m into _ E9.out).mono ?_); rintro e wn ⟨rfl, hb⟩)
      | (go_at_call 27; (with_reducible refine (pianolaref4_Into.calls i s t d h m into _ E10.out).mono ?_); rintro e wn ⟨rfl, hb⟩))
  go_split_ands
  go_wp2
  go_ret
  exact ⟨by simp, by assumption⟩

/-- the two sides come to the same, and to an end -/
def pianolalaw4_same.f (k : Nat) (i s t d h m x y hi lo : Int) : Option Bool :=
  if (alu_Do.f k i s t d h m x y = pianolaref4_Do.f k i s t d h m x y ∧ alu_Halves.f k i s t d h m x y hi lo = pianolaref4_Halves.f k i s t d h m x y hi lo ∧ alu_Traps.f k i s t d h m x y = pianolaref4_Traps.f k i s t d h m x y ∧ alu_Is.f i = pianolaref4_Is.f i ∧ alu_Into.f i s t d h m = pianolaref4_Into.f i s t d h m)
    ∧ ((alu_Do.f k i s t d h m x y).isSome = true ∧ (alu_Halves.f k i s t d h m x y hi lo).isSome = true ∧ (alu_Traps.f k i s t d h m x y).isSome = true ∧ (alu_Is.f i).isSome = true ∧ (alu_Into.f i s t d h m).isSome = true) then some true else none
theorem pianolalaw4_same.mono : ∀ i s t d h m x y hi lo k, LeO (pianolalaw4_same.f k i s t d h m x y hi lo) (pianolalaw4_same.f (k + 1) i s t d h m x y hi lo) := by
  intro i s t d h m x y hi lo k r hr
  unfold pianolalaw4_same.f at hr ⊢
  split at hr
  · rename_i c
    obtain ⟨⟨c1, c2, c3, c4, c5⟩, s1, s2, s3, s4, s5⟩ := c
    obtain ⟨v1, e1⟩ := Option.isSome_iff_exists.1 s1
    obtain ⟨v2, e2⟩ := Option.isSome_iff_exists.1 s2
    obtain ⟨v3, e3⟩ := Option.isSome_iff_exists.1 s3
    have g1 := alu_Do.mono i s t d h m x y k v1 e1
    have g2 := alu_Halves.mono i s t d h m x y hi lo k v2 e2
    have g3 := alu_Traps.mono i s t d h m x y k v3 e3
    have k1 := pianolaref4_Do.mono i s t d h m x y k v1 (c1 ▸ e1)
    have k2 := pianolaref4_Halves.mono i s t d h m x y hi lo k v2 (c2 ▸ e2)
    have k3 := pianolaref4_Traps.mono i s t d h m x y k v3 (c3 ▸ e3)
    rw [if_pos ⟨⟨g1.trans k1.symm, g2.trans k2.symm, g3.trans k3.symm, c4, c5⟩, by rw [g1]; rfl, by rw [g2]; rfl, by rw [g3]; rfl, s4, s5⟩]
    exact hr
  · cases hr
theorem pianolalaw4_same.calls (k : Nat) (i s t d h m x y hi lo : Int) (r : Bool) (w : World) (hr : pianolalaw4_same.f k i s t d h m x y hi lo = some r) :
    Calls Try.prog 10 #[.agg #[.int .i64 i, .int .i64 s, .int .i64 t, .int .i64 d, .int .i64 h, .int .u32 m], .int .u32 x, .int .u32 y, .int .u32 hi, .int .u32 lo] w fun e w' => e = .returned (.bool r) ∧ Below w.heap.size w w' := by
  unfold pianolalaw4_same.f at hr
  split at hr
  · rename_i c
    obtain ⟨⟨c1, c2, c3, c4, c5⟩, s1, s2, s3, s4, s5⟩ := c
    obtain ⟨⟨v, ok⟩, e1⟩ := Option.isSome_iff_exists.1 s1
    obtain ⟨⟨a, b, c⟩, e2⟩ := Option.isSome_iff_exists.1 s2
    obtain ⟨v3, e3⟩ := Option.isSome_iff_exists.1 s3
    obtain ⟨v4, e4⟩ := Option.isSome_iff_exists.1 s4
    obtain ⟨v5, e5⟩ := Option.isSome_iff_exists.1 s5
    obtain rfl := Option.some.inj hr
    exact pianolalaw4_same.straight k i s t d h m x y hi lo v ok a b c v3 v4 v5 w e1 (c1 ▸ e1) e2 (c2 ▸ e2) e3 (c3 ▸ e3) e4 (c4 ▸ e4) e5 (c5 ▸ e5)
  · cases hr

/-! ### pianolalaw4_edge: function 11 -/
def pianolalaw4_edge.f (a0 : Int) : Option (Int) := (some (([0, 1, 2, 31, 32, 32767, 32768, 65535, 2147483647, 2147483648, 2147483649, 4294967295, 1431655765] : List Int) : List Int)).bind fun y173 => (if 0 ≤ (Int.tmod (wrap64 ((Int.tmod a0 13) + 13)) 13) then (if (Int.tmod (wrap64 ((Int.tmod a0 13) + 13)) 13) < (y173.length : Int) then (some (rd y173 (Int.tmod (wrap64 ((Int.tmod a0 13) + 13)) 13))) else (none)) else (none))
set_option maxHeartbeats 8000000 in
set_option maxRecDepth 100000 in
theorem pianolalaw4_edge.calls (a0 : Int) (r : Int) (w : World) (h : pianolalaw4_edge.f a0 = some r) :
    Calls Try.prog 11 #[.int .i64 a0] w fun e w' => e = .returned (.int .u32 r) ∧ Below w.heap.size w w' := by
  have HB := Aside0.mk (Below.refl w.heap.size w)
  have H : ((some (([0, 1, 2, 31, 32, 32767, 32768, 65535, 2147483647, 2147483648, 2147483649, 4294967295, 1431655765] : List Int) : List Int)).bind fun y173 => (if 0 ≤ (Int.tmod (wrap64 ((Int.tmod a0 13) + 13)) 13) then (if (Int.tmod (wrap64 ((Int.tmod a0 13) + 13)) 13) < (y173.length : Int) then (some (rd y173 (Int.tmod (wrap64 ((Int.tmod a0 13) + 13)) 13))) else (none)) else (none))) = some r := h
  clear h
  obtain ⟨y173, hy173⟩ : ∃ y_ : List Int, y_ = (([0, 1, 2, 31, 32, 32767, 32768, 65535, 2147483647, 2147483648, 2147483649, 4294967295, 1431655765] : List Int)) := ⟨_, rfl⟩
  replace H : (if 0 ≤ (Int.tmod (wrap64 ((Int.tmod a0 13) + 13)) 13) then (if (Int.tmod (wrap64 ((Int.tmod a0 13) + 13)) 13) < (y173.length : Int) then (some (rd y173 (Int.tmod (wrap64 ((Int.tmod a0 13) + 13)) 13))) else (none)) else (none)) = some r := by first | (rw [hy173]; with_reducible exact H) | (have H2_ := (Option.bind_some _ _).symm.trans H; rw [hy173]; with_reducible exact H2_) | (have H2_ := (Option.bind_some _ _).symm.trans H; with_reducible exact H2_) | with_reducible exact H | (rw [hy173]; exact H) | exact H
  have Ny173 := Aside0.mk hy173
  clear hy173
  obtain ⟨ji2, hji2⟩ : ∃ j_ : Int, (Int.tmod (wrap64 ((Int.tmod a0 13) + 13)) 13) = j_ := ⟨_, rfl⟩
  replace H : (if 0 ≤ (ji2) then (if (ji2) < (y173.length : Int) then (some (rd y173 (ji2))) else (none)) else (none)) = some r := by first | (rw [hji2] at H; exact H) | (simp only [hji2] at H ⊢; exact H)
  by_cases c3 : 0 ≤ (ji2)
  · rw [if_pos c3] at H
    have c3b0 : decide (0 ≤ (ji2)) = true := decide_eq_true c3
    clear c3
    by_cases c4 : (ji2) < (y173.length : Int)
    · rw [if_pos c4] at H
      have c4b0 : decide ((ji2) < (y173.length : Int)) = true := decide_eq_true c4
      clear c4
      obtain rfl := Option.some.inj H
      go_enter Try.func11, Try.ntmps11
      go_wp2_with (first | ((with_reducible refine gate_dst (N := 4) rfl ?_); refine Kd.R_lit (Kd.int .u32) _ 22 ?hg (N := 4) ?hd (xs := ([0, 1, 2, 31, 32, 32767, 32768, 65535, 2147483647, 2147483648, 2147483649, 4294967295, 1431655765] : List Int)) (inner := [.int .u32 0, .int .u32 1, .int .u32 2, .int .u32 31, .int .u32 32, .int .u32 32767, .int .u32 32768, .int .u32 65535, .int .u32 2147483647, .int .u32 2147483648, .int .u32 2147483649, .int .u32 4294967295, .int .u32 1431655765]) (ok := fun _ => True) (okp := fun _ => True) ?hr ?hp (fun _ hk => hk) trivial (Below.refl _ _) (Nat.le_refl _) (by simp) ?_; (case hd => rfl); (case hg => rfl); (case hr => first | (go_simp; done) | (go_simp; rfl)); (case hp => exact (Reps.one (show Kd.M (Kd.int .u32) _ _ _ 0 [.int .u32 0] from rfl) (Reps.one (show Kd.M (Kd.int .u32) _ _ _ 1 [.int .u32 1] from rfl) (Reps.one (show Kd.M (Kd.int .u32) _ _ _ 2 [.int .u32 2] from rfl) (Reps.one (show Kd.M (Kd.int .u32) _ _ _ 31 [.int .u32 31] from rfl) (Reps.one (show Kd.M (Kd.int .u32) _ _ _ 32 [.int .u32 32] from rfl) (Reps.one (show Kd.M (Kd.int .u32) _ _ _ 32767 [.int .u32 32767] from rfl) (Reps.one (show Kd.M (Kd.int .u32) _ _ _ 32768 [.int .u32 32768] from rfl) (Reps.one (show Kd.M (Kd.int .u32) _ _ _ 65535 [.int .u32 65535] from rfl) (Reps.one (show Kd.M (Kd.int .u32) _ _ _ 2147483647 [.int .u32 2147483647] from rfl) (Reps.one (show Kd.M (Kd.int .u32) _ _ _ 2147483648 [.int .u32 2147483648] from rfl) (Reps.one (show Kd.M (Kd.int .u32) _ _ _ 2147483649 [.int .u32 2147483649] from rfl) (Reps.one (show Kd.M (Kd.int .u32) _ _ _ 4294967295 [.int .u32 4294967295] from rfl) (Reps.one (show Kd.M (Kd.int .u32) _ _ _ 1431655765 [.int .u32 1431655765] from rfl) (Reps.none _ _))))))))))))))); intro v174 w5 ho6 hb hg_ hnew_; clear hg_ hnew_; (first | rw [← Ny173.out] at ho6 | (simp only [Int.reduceToNat] at ho6; rw [← Ny173.out] at ho6)); have n0_ := Aside0.mk (Kd.R_lower ho6 (below_size (by repeat (first | (with_reducible first | exact HB.out | apply below_alloc | apply pw_below_drewN | apply below_drew1) | exact HB.out)))); have n1_ := Aside0.mk (below_step (by repeat (first | (with_reducible first | exact HB.out | apply below_alloc | apply pw_below_drewN | apply below_drew1) | exact HB.out)) hb); clear HB; have HO175 := n0_; have HB := n1_; clear n0_ n1_; clear hb ho6; obtain ⟨Ao7, co7, eo7⟩ := Kd.R_slice HO175.out; subst eo7; have p176 : 0 ≤ ((ji2) : Int) := of_decide_eq_true (by first | (with_reducible assumption) | assumption); have q176 : (ji2) < (y173.length : Int) := of_decide_eq_true (by first | (with_reducible assumption) | assumption); obtain ⟨ad176, e176, hx176_0⟩ := Kd.at_int (Kd.R_reads' HO175.out).2.2 (ji2) p176 q176; cases e176; replace p176 := eq_true p176; replace q176 := eq_true q176))
      go_ret
      exact ⟨by first | rfl | (simp [errW_none, errW_some] <;> rfl) | (simp only [← hji2]; first | rfl | (simp [errW_none, errW_some] <;> rfl)) | (simp [*, errW_none, errW_some] <;> rfl), by repeat (first | (with_reducible first | exact HB.out | apply below_alloc | apply pw_below_drewN | apply below_drew1) | exact HB.out)⟩
    · rw [if_neg c4] at H
      exact absurd H (by simp)
  · rw [if_neg c3] at H
    exact absurd H (by simp)

end Go.Proofs.Ytimbfflnlalanaa.Q
