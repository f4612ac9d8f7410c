-- Written by a program of this session: a turned copy of the kit's print (wip/print/fork.py), whose words lie beside.
import Derived.Test.YtchpcjdhflbikaaQx0
import Derived.Test.YtchpcjdhflbikaaQx1
import Derived.Test.YtchpcjdhflbikaaQx3
import Derived.Test.YtchpcjdhflbikaaQx5
namespace Go.Proofs.Ytchpcjdhflbikaa.Q
open Go.RowKit Go.Proofs.YtchpcjdhflbikaaW.PrintWords Go.Proofs.YtchpcjdhflbikaaW.PrintLast Go.Proofs.YtchpcjdhflbikaaW.PrintMore
attribute [local go_sem] max2_int min2_int max_two min_two max_three min_three max_four min_four   -- for this text's walks alone
set_option linter.unusedVariables false
set_option linter.unusedSimpArgs false

/-! ### pianolalaw5_known: function 8 -/
def pianolalaw5_known.f (k : Nat)  : Option (Bool) := (branch_Links.f k 40 0 0 0 0 0).bind fun bt128 => ((branch_Links.f k 41 0 0 0 0 0).bind fun bt130 => ((branch_Target.f k 42 0 0 0 0 65535 8 0).bind fun t132 => (if t132 = 8 then (if bt128.2 = true then (some false) else (if bt130.2 = true then (if bt130.1 = 31 then ((branch_Taken.f k 40 0 0 0 0 0 0 0).bind fun t133 => (if t133 = true then ((branch_Taken.f k 22 0 0 0 0 0 0 0).bind fun t134 => (some (!t134))) else (some false))) else (some false)) else (some false))) else (some false))))
theorem pianolalaw5_known.mono : ∀ k, LeO (pianolalaw5_known.f k ) (pianolalaw5_known.f (k + 1) ) := by
  intro  k
  unfold pianolalaw5_known.f
  repeat' first
      | (with_reducible exact branch_Links.mono _ _ _ _ _ _ _)
      | (with_reducible exact branch_Taken.mono _ _ _ _ _ _ _ _ _)
      | (with_reducible exact branch_Target.mono _ _ _ _ _ _ _ _ _)
      | (with_reducible exact LeO.refl _)
      | (with_reducible exact LeO.none _)
      | (with_reducible refine LeO.ite ?_ ?_)
      | (with_reducible refine LeO.bind ?_ (fun _ => ?_))
      | exact branch_Links.mono _ _ _ _ _ _ _
      | exact branch_Taken.mono _ _ _ _ _ _ _ _ _
      | exact branch_Target.mono _ _ _ _ _ _ _ _ _
      | exact LeO.none _
      | refine LeO.ite ?_ ?_
      | refine LeO.bind ?_ (fun _ => ?_)
set_option maxHeartbeats 8000000 in
set_option maxRecDepth 100000 in
theorem pianolalaw5_known.calls (k : Nat)  (r : Bool) (w : World) (h : pianolalaw5_known.f k  = some r) :
    Calls Try.prog 8 #[] w fun e w' => e = .returned (.bool r) ∧ Below w.heap.size w w' := by
  have hu26 := Try.underlying26
  have HB := Aside0.mk (Below.refl w.heap.size w)
  have H : ((branch_Links.f k 40 0 0 0 0 0).bind fun bt128 => ((branch_Links.f k 41 0 0 0 0 0).bind fun bt130 => ((branch_Target.f k 42 0 0 0 0 65535 8 0).bind fun t132 => (if t132 = 8 then (if bt128.2 = true then (some false) else (if bt130.2 = true then (if bt130.1 = 31 then ((branch_Taken.f k 40 0 0 0 0 0 0 0).bind fun t133 => (if t133 = true then ((branch_Taken.f k 22 0 0 0 0 0 0 0).bind fun t134 => (some (!t134))) else (some false))) else (some false)) else (some false))) else (some false))))) = some r := h
  clear h
  replace H := Option.bind_eq_some_iff.mp H
  obtain ⟨⟨t128, t129⟩, A10, H⟩ := H
  replace H : ((branch_Links.f k 41 0 0 0 0 0).bind fun bt130 => ((branch_Target.f k 42 0 0 0 0 65535 8 0).bind fun t132 => (if t132 = 8 then (if t129 = true then (some false) else (if bt130.2 = true then (if bt130.1 = 31 then ((branch_Taken.f k 40 0 0 0 0 0 0 0).bind fun t133 => (if t133 = true then ((branch_Taken.f k 22 0 0 0 0 0 0 0).bind fun t134 => (some (!t134))) else (some false))) else (some false)) else (some false))) else (some false)))) = some r := H
  have A1 := Aside0.mk A10
  clear A10
  replace H := Option.bind_eq_some_iff.mp H
  obtain ⟨⟨t130, t131⟩, A20, H⟩ := H
  replace H : ((branch_Target.f k 42 0 0 0 0 65535 8 0).bind fun t132 => (if t132 = 8 then (if t129 = true then (some false) else (if t131 = true then (if t130 = 31 then ((branch_Taken.f k 40 0 0 0 0 0 0 0).bind fun t133 => (if t133 = true then ((branch_Taken.f k 22 0 0 0 0 0 0 0).bind fun t134 => (some (!t134))) else (some false))) else (some false)) else (some false))) else (some false))) = some r := H
  have A2 := Aside0.mk A20
  clear A20
  replace H := Option.bind_eq_some_iff.mp H
  obtain ⟨t132, A30, H⟩ := H
  replace H : (if t132 = 8 then (if t129 = true then (some false) else (if t131 = true then (if t130 = 31 then ((branch_Taken.f k 40 0 0 0 0 0 0 0).bind fun t133 => (if t133 = true then ((branch_Taken.f k 22 0 0 0 0 0 0 0).bind fun t134 => (some (!t134))) else (some false))) else (some false)) else (some false))) else (some false)) = some r := H
  have A3 := Aside0.mk A30
  clear A30
  by_cases c4 : t132 = 8
  · rw [if_pos c4] at H
    have c4b0 : (t132 == 8) = true := beq_iff_eq.mpr c4
    have c4b1 : (t132 != 8) = false := bne_eq_false_iff_eq.mpr c4
    clear c4
    by_cases c5 : t129 = true
    · subst c5
      have H1 : (some false) = some r := by rw [if_pos rfl] at H; exact H
      clear H
      have H := H1
      clear H1
      obtain rfl := Option.some.inj H
      go_enter Try.func8, Try.ntmps8
      go_wp2_with (first | ((with_reducible refine gate_callee (f := 12) rfl ?_); refine goesL_ (some 7) rfl rfl Try.func12 (by kernel_rfl) rfl #[.agg #[.int .i64 40, .int .i64 0, .int .i64 0, .int .i64 0, .int .i64 0, .int .u32 0]] rfl (by (try simp only [List.map_toArray, List.map_cons, List.map_nil]); first | done | rfl | (simp only [List.length_drop, List.length_take]; rfl)) ?_; (with_reducible refine (branch_Links.calls k 40 0 0 0 0 0 t128 true _ A1.out).mono ?_); rintro e w6 ⟨rfl, hb⟩; refine ⟨_, rfl, ?_⟩; have n0_ := Aside0.mk (below_step (by repeat (first | (with_reducible first | exact HB.out | apply below_alloc | apply pw_below_drewN | apply below_drew1) | exact HB.out)) hb); clear HB; have HB := n0_; clear n0_; (try clear hb); (try clear hb2); (try clear hk); (try clear hi)) | ((with_reducible refine gate_callee (f := 12) rfl ?_); refine goesL_ (some 12) rfl rfl Try.func12 (by kernel_rfl) rfl #[.agg #[.int .i64 41, .int .i64 0, .int .i64 0, .int .i64 0, .int .i64 0, .int .u32 0]] rfl (by (try simp only [List.map_toArray, List.map_cons, List.map_nil]); first | done | rfl | (simp only [List.length_drop, List.length_take]; rfl)) ?_; (with_reducible refine (branch_Links.calls k 41 0 0 0 0 0 t130 t131 _ A2.out).mono ?_); rintro e w7 ⟨rfl, hb⟩; refine ⟨_, rfl, ?_⟩; have n0_ := Aside0.mk (below_step (by repeat (first | (with_reducible first | exact HB.out | apply below_alloc | apply pw_below_drewN | apply below_drew1) | exact HB.out)) hb); clear HB; have HB := n0_; clear n0_; (try clear hb); (try clear hb2); (try clear hk); (try clear hi)) | ((with_reducible refine gate_callee (f := 13) rfl ?_); refine goesL_ (some 16) rfl rfl Try.func13 (by kernel_rfl) rfl #[.agg #[.int .i64 42, .int .i64 0, .int .i64 0, .int .i64 0, .int .i64 0, .int .u32 65535], .int .u32 8, .int .u32 0] rfl (by (try simp only [List.map_toArray, List.map_cons, List.map_nil]); first | done | rfl | (simp only [List.length_drop, List.length_take]; rfl)) ?_; (with_reducible refine (branch_Target.calls k 42 0 0 0 0 65535 8 0 t132 _ A3.out).mono ?_); rintro e w8 ⟨rfl, hb⟩; refine ⟨_, rfl, ?_⟩; have n0_ := Aside0.mk (below_step (by repeat (first | (with_reducible first | exact HB.out | apply below_alloc | apply pw_below_drewN | apply below_drew1) | exact HB.out)) hb); clear HB; have HB := n0_; clear n0_; (try clear hb); (try clear hb2); (try clear hk); (try clear hi)))
      go_ret
      exact ⟨by first | rfl | (simp [errW_none, errW_some] <;> rfl) | (simp [*, errW_none, errW_some] <;> rfl), by repeat (first | (with_reducible first | exact HB.out | apply below_alloc | apply pw_below_drewN | apply below_drew1) | exact HB.out)⟩
    · replace c5 := Bool.eq_false_iff.mpr c5
      subst c5
      have H1 : (if t131 = true then (if t130 = 31 then ((branch_Taken.f k 40 0 0 0 0 0 0 0).bind fun t133 => (if t133 = true then ((branch_Taken.f k 22 0 0 0 0 0 0 0).bind fun t134 => (some (!t134))) else (some false))) else (some false)) else (some false)) = some r := by rw [if_neg (show ¬ (false = true) by decide)] at H; exact H
      clear H
      have H := H1
      clear H1
      by_cases c9 : t131 = true
      · subst c9
        have H1 : (if t130 = 31 then ((branch_Taken.f k 40 0 0 0 0 0 0 0).bind fun t133 => (if t133 = true then ((branch_Taken.f k 22 0 0 0 0 0 0 0).bind fun t134 => (some (!t134))) else (some false))) else (some false)) = some r := by rw [if_pos rfl] at H; exact H
        clear H
        have H := H1
        clear H1
        by_cases c10 : t130 = 31
        · rw [if_pos c10] at H
          have c10b0 : (t130 == 31) = true := beq_iff_eq.mpr c10
          have c10b1 : (t130 != 31) = false := bne_eq_false_iff_eq.mpr c10
          clear c10
          replace H := Option.bind_eq_some_iff.mp H
          obtain ⟨t133, A110, H⟩ := H
          replace H : (if t133 = true then ((branch_Taken.f k 22 0 0 0 0 0 0 0).bind fun t134 => (some (!t134))) else (some false)) = some r := H
          have A11 := Aside0.mk A110
          clear A110
          by_cases c12 : t133 = true
          · subst c12
            have H1 : ((branch_Taken.f k 22 0 0 0 0 0 0 0).bind fun t134 => (some (!t134))) = some r := by rw [if_pos rfl] at H; exact H
            clear H
            have H := H1
            clear H1
            replace H := Option.bind_eq_some_iff.mp H
            obtain ⟨t134, A130, H⟩ := H
            replace H : (some (!t134)) = some r := H
            have A13 := Aside0.mk A130
            clear A130
            obtain rfl := Option.some.inj H
            go_enter Try.func8, Try.ntmps8
            go_wp2_with (first | ((with_reducible refine gate_callee (f := 12) rfl ?_); refine goesL_ (some 7) rfl rfl Try.func12 (by kernel_rfl) rfl #[.agg #[.int .i64 40, .int .i64 0, .int .i64 0, .int .i64 0, .int .i64 0, .int .u32 0]] rfl (by (try simp only [List.map_toArray, List.map_cons, List.map_nil]); first | done | rfl | (simp only [List.length_drop, List.length_take]; rfl)) ?_; (with_reducible refine (branch_Links.calls k 40 0 0 0 0 0 t128 false _ A1.out).mono ?_); rintro e w14 ⟨rfl, hb⟩; refine ⟨_, rfl, ?_⟩; have n0_ := Aside0.mk (below_step (by repeat (first | (with_reducible first | exact HB.out | apply below_alloc | apply pw_below_drewN | apply below_drew1) | exact HB.out)) hb); clear HB; have HB := n0_; clear n0_; (try clear hb); (try clear hb2); (try clear hk); (try clear hi)) | ((with_reducible refine gate_callee (f := 12) rfl ?_); refine goesL_ (some 12) rfl rfl Try.func12 (by kernel_rfl) rfl #[.agg #[.int .i64 41, .int .i64 0, .int .i64 0, .int .i64 0, .int .i64 0, .int .u32 0]] rfl (by (try simp only [List.map_toArray, List.map_cons, List.map_nil]); first | done | rfl | (simp only [List.length_drop, List.length_take]; rfl)) ?_; (with_reducible refine (branch_Links.calls k 41 0 0 0 0 0 t130 true _ A2.out).mono ?_); rintro e w15 ⟨rfl, hb⟩; refine ⟨_, rfl, ?_⟩; have n0_ := Aside0.mk (below_step (by repeat (first | (with_reducible first | exact HB.out | apply below_alloc | apply pw_below_drewN | apply below_drew1) | exact HB.out)) hb); clear HB; have HB := n0_; clear n0_; (try clear hb); (try clear hb2); (try clear hk); (try clear hi)) | ((with_reducible refine gate_callee (f := 13) rfl ?_); refine goesL_ (some 16) rfl rfl Try.func13 (by kernel_rfl) rfl #[.agg #[.int .i64 42, .int .i64 0, .int .i64 0, .int .i64 0, .int .i64 0, .int .u32 65535], .int .u32 8, .int .u32 0] rfl (by (try simp only [List.map_toArray, List.map_cons, List.map_nil]); first | done | rfl | (simp only [List.length_drop, List.length_take]; rfl)) ?_; (with_reducible refine (branch_Target.calls k 42 0 0 0 0 65535 8 0 t132 _ A3.out).mono ?_); rintro e w16 ⟨rfl, hb⟩; refine ⟨_, rfl, ?_⟩; have n0_ := Aside0.mk (below_step (by repeat (first | (with_reducible first | exact HB.out | apply below_alloc | apply pw_below_drewN | apply below_drew1) | exact HB.out)) hb); clear HB; have HB := n0_; clear n0_; (try clear hb); (try clear hb2); (try clear hk); (try clear hi)) | (go_at_call 10; (with_reducible refine (branch_Taken.calls k 40 0 0 0 0 0 0 0 true _ A11.out).mono ?_); rintro e w17 ⟨rfl, hb⟩; have n0_ := Aside0.mk (below_step (by repeat (first | (with_reducible first | exact HB.out | apply below_alloc | apply pw_below_drewN | apply below_drew1) | exact HB.out)) hb); clear HB; have HB := n0_; clear n0_; (try clear hb); (try clear hb2); (try clear hk); (try clear hi)) | (go_at_call 10; (with_reducible refine (branch_Taken.calls k 22 0 0 0 0 0 0 0 t134 _ A13.out).mono ?_); rintro e w18 ⟨rfl, hb⟩; have n0_ := Aside0.mk (below_step (by repeat (first | (with_reducible first | exact HB.out | apply below_alloc | apply pw_below_drewN | apply below_drew1) | exact HB.out)) hb); clear HB; have HB := n0_; clear n0_; (try clear hb); (try clear hb2); (try clear hk); (try clear hi)))
            go_ret
            exact ⟨by first | rfl | (simp [errW_none, errW_some] <;> rfl) | (simp [*, errW_none, errW_some] <;> rfl), by repeat (first | (with_reducible first | exact HB.out | apply below_alloc | apply pw_below_drewN | apply below_drew1) | exact HB.out)⟩
          · replace c12 := Bool.eq_false_iff.mpr c12
            subst c12
            have H1 : (some false) = some r := by rw [if_neg (show ¬ (false = true) by decide)] at H; exact H
            clear H
            have H := H1
            clear H1
            obtain rfl := Option.some.inj H
            go_enter Try.func8, Try.ntmps8
            go_wp2_with (first | ((with_reducible refine gate_callee (f := 12) rfl ?_); refine goesL_ (some 7) rfl rfl Try.func12 (by kernel_rfl) rfl #[.agg #[.int .i64 40, .int .i64 0, .int .i64 0, .int .i64 0, .int .i64 0, .int .u32 0]] rfl (by (try simp only [List.map_toArray, List.map_cons, List.map_nil]); first | done | rfl | (simp only [List.length_drop, List.length_take]; rfl)) ?_; (with_reducible refine (branch_Links.calls k 40 0 0 0 0 0 t128 false _ A1.out).mono ?_); rintro e w19 ⟨rfl, hb⟩; refine ⟨_, rfl, ?_⟩; have n0_ := Aside0.mk (below_step (by repeat (first | (with_reducible first | exact HB.out | apply below_alloc | apply pw_below_drewN | apply below_drew1) | exact HB.out)) hb); clear HB; have HB := n0_; clear n0_; (try clear hb); (try clear hb2); (try clear hk); (try clear hi)) | ((with_reducible refine gate_callee (f := 12) rfl ?_); refine goesL_ (some 12) rfl rfl Try.func12 (by kernel_rfl) rfl #[.agg #[.int .i64 41, .int .i64 0, .int .i64 0, .int .i64 0, .int .i64 0, .int .u32 0]] rfl (by (try simp only [List.map_toArray, List.map_cons, List.map_nil]); first | done | rfl | (simp only [List.length_drop, List.length_take]; rfl)) ?_; (with_reducible refine (branch_Links.calls k 41 0 0 0 0 0 t130 true _ A2.out).mono ?_); rintro e w20 ⟨rfl, hb⟩; refine ⟨_, rfl, ?_⟩; have n0_ := Aside0.mk (below_step (by repeat (first | (with_reducible first | exact HB.out | apply below_alloc | apply pw_below_drewN | apply below_drew1) | exact HB.out)) hb); clear HB; have HB := n0_; clear n0_; (try clear hb); (try clear hb2); (try clear hk); (try clear hi)) | ((with_reducible refine gate_callee (f := 13) rfl ?_); refine goesL_ (some 16) rfl rfl Try.func13 (by kernel_rfl) rfl #[.agg #[.int .i64 42, .int .i64 0, .int .i64 0, .int .i64 0, .int .i64 0, .int .u32 65535], .int .u32 8, .int .u32 0] rfl (by (try simp only [List.map_toArray, List.map_cons, List.map_nil]); first | done | rfl | (simp only [List.length_drop, List.length_take]; rfl)) ?_; (with_reducible refine (branch_Target.calls k 42 0 0 0 0 65535 8 0 t132 _ A3.out).mono ?_); rintro e w21 ⟨rfl, hb⟩; refine ⟨_, rfl, ?_⟩; have n0_ := Aside0.mk (below_step (by repeat (first | (with_reducible first | exact HB.out | apply below_alloc | apply pw_below_drewN | apply below_drew1) | exact HB.out)) hb); clear HB; have HB := n0_; clear n0_; (try clear hb); (try clear hb2); (try clear hk); (try clear hi)) | (go_at_call 10; (with_reducible refine (branch_Taken.calls k 40 0 0 0 0 0 0 0 false _ A11.out).mono ?_); rintro e w22 ⟨rfl, hb⟩; have n0_ := Aside0.mk (below_step (by repeat (first | (with_reducible first | exact HB.out | apply below_alloc | apply pw_below_drewN | apply below_drew1) | exact HB.out)) hb); clear HB; have HB := n0_; clear n0_; (try clear hb); (try clear hb2); (try clear hk); (try clear hi)))
            go_ret
            exact ⟨by first | rfl | (simp [errW_none, errW_some] <;> rfl) | (simp [*, errW_none, errW_some] <;> rfl), by repeat (first | (with_reducible first | exact HB.out | apply below_alloc | apply pw_below_drewN | apply below_drew1) | exact HB.out)⟩
        · rw [if_neg c10] at H
          have c10b0 : (t130 == 31) = false := beq_eq_false_iff_ne.mpr c10
          have c10b1 : (t130 != 31) = true := bne_iff_ne.mpr c10
          obtain rfl := Option.some.inj H
          go_enter Try.func8, Try.ntmps8
          go_wp2_with (first | ((with_reducible refine gate_callee (f := 12) rfl ?_); refine goesL_ (some 7) rfl rfl Try.func12 (by kernel_rfl) rfl #[.agg #[.int .i64 40, .int .i64 0, .int .i64 0, .int .i64 0, .int .i64 0, .int .u32 0]] rfl (by (try simp only [List.map_toArray, List.map_cons, List.map_nil]); first | done | rfl | (simp only [List.length_drop, List.length_take]; rfl)) ?_; (with_reducible refine (branch_Links.calls k 40 0 0 0 0 0 t128 false _ A1.out).mono ?_); rintro e w23 ⟨rfl, hb⟩; refine ⟨_, rfl, ?_⟩; have n0_ := Aside0.mk (below_step (by repeat (first | (with_reducible first | exact HB.out | apply below_alloc | apply pw_below_drewN | apply below_drew1) | exact HB.out)) hb); clear HB; have HB := n0_; clear n0_; (try clear hb); (try clear hb2); (try clear hk); (try clear hi)) | ((with_reducible refine gate_callee (f := 12) rfl ?_); refine goesL_ (some 12) rfl rfl Try.func12 (by kernel_rfl) rfl #[.agg #[.int .i64 41, .int .i64 0, .int .i64 0, .int .i64 0, .int .i64 0, .int .u32 0]] rfl (by (try simp only [List.map_toArray, List.map_cons, List.map_nil]); first | done | rfl | (simp only [List.length_drop, List.length_take]; rfl)) ?_; (with_reducible refine (branch_Links.calls k 41 0 0 0 0 0 t130 true _ A2.out).mono ?_); rintro e w24 ⟨rfl, hb⟩; refine ⟨_, rfl, ?_⟩; have n0_ := Aside0.mk (below_step (by repeat (first | (with_reducible first | exact HB.out | apply below_alloc | apply pw_below_drewN | apply below_drew1) | exact HB.out)) hb); clear HB; have HB := n0_; clear n0_; (try clear hb); (try clear hb2); (try clear hk); (try clear hi)) | ((with_reducible refine gate_callee (f := 13) rfl ?_); refine goesL_ (some 16) rfl rfl Try.func13 (by kernel_rfl) rfl #[.agg #[.int .i64 42, .int .i64 0, .int .i64 0, .int .i64 0, .int .i64 0, .int .u32 65535], .int .u32 8, .int .u32 0] rfl (by (try simp only [List.map_toArray, List.map_cons, List.map_nil]); first | done | rfl | (simp only [List.length_drop, List.length_take]; rfl)) ?_; (with_reducible refine (branch_Target.calls k 42 0 0 0 0 65535 8 0 t132 _ A3.out).mono ?_); rintro e w25 ⟨rfl, hb⟩; refine ⟨_, rfl, ?_⟩; have n0_ := Aside0.mk (below_step (by repeat (first | (with_reducible first | exact HB.out | apply below_alloc | apply pw_below_drewN | apply below_drew1) | exact HB.out)) hb); clear HB; have HB := n0_; clear n0_; (try clear hb); (try clear hb2); (try clear hk); (try clear hi)))
          go_ret
          exact ⟨by first | rfl | (simp [errW_none, errW_some] <;> rfl) | (simp [*, errW_none, errW_some] <;> rfl), by repeat (first | (with_reducible first | exact HB.out | apply below_alloc | apply pw_below_drewN | apply below_drew1) | exact HB.out)⟩
      · replace c9 := Bool.eq_false_iff.mpr c9
        subst c9
        have H1 : (some false) = some r := by rw [if_neg (show ¬ (false = true) by decide)] at H; exact H
        clear H
        have H := H1
        clear H1
        obtain rfl := Option.some.inj H
        go_enter Try.func8, Try.ntmps8
        go_wp2_with (first | ((with_reducible refine gate_callee (f := 12) rfl ?_); refine goesL_ (some 7) rfl rfl Try.func12 (by kernel_rfl) rfl #[.agg #[.int .i64 40, .int .i64 0, .int .i64 0, .int .i64 0, .int .i64 0, .int .u32 0]] rfl (by (try simp only [List.map_toArray, List.map_cons, List.map_nil]); first | done | rfl | (simp only [List.length_drop, List.length_take]; rfl)) ?_; (with_reducible refine (branch_Links.calls k 40 0 0 0 0 0 t128 false _ A1.out).mono ?_); rintro e w26 ⟨rfl, hb⟩; refine ⟨_, rfl, ?_⟩; have n0_ := Aside0.mk (below_step (by repeat (first | (with_reducible first | exact HB.out | apply below_alloc | apply pw_below_drewN | apply below_drew1) | exact HB.out)) hb); clear HB; have HB := n0_; clear n0_; (try clear hb); (try clear hb2); (try clear hk); (try clear hi)) | ((with_reducible refine gate_callee (f := 12) rfl ?_); refine goesL_ (some 12) rfl rfl Try.func12 (by kernel_rfl) rfl #[.agg #[.int .i64 41, .int .i64 0, .int .i64 0, .int .i64 0, .int .i64 0, .int .u32 0]] rfl (by (try simp only [List.map_toArray, List.map_cons, List.map_nil]); first | done | rfl | (simp only [List.length_drop, List.length_take]; rfl)) ?_; (with_reducible refine (branch_Links.calls k 41 0 0 0 0 0 t130 false _ A2.out).mono ?_); rintro e w27 ⟨rfl, hb⟩; refine ⟨_, rfl, ?_⟩; have n0_ := Aside0.mk (below_step (by repeat (first | (with_reducible first | exact HB.out | apply below_alloc | apply pw_below_drewN | apply below_drew1) | exact HB.out)) hb); clear HB; have HB := n0_; clear n0_; (try clear hb); (try clear hb2); (try clear hk); (try clear hi)) | ((with_reducible refine gate_callee (f := 13) rfl ?_); refine goesL_ (some 16) rfl rfl Try.func13 (by kernel_rfl) rfl #[.agg #[.int .i64 42, .int .i64 0, .int .i64 0, .int .i64 0, .int .i64 0, .int .u32 65535], .int .u32 8, .int .u32 0] rfl (by (try simp only [List.map_toArray, List.map_cons, List.map_nil]); first | done | rfl | (simp only [List.length_drop, List.length_take]; rfl)) ?_; (with_reducible refine (branch_Target.calls k 42 0 0 0 0 65535 8 0 t132 _ A3.out).mono ?_); rintro e w28 ⟨rfl, hb⟩; refine ⟨_, rfl, ?_⟩; have n0_ := Aside0.mk (below_step (by repeat (first | (with_reducible first | exact HB.out | apply below_alloc | apply pw_below_drewN | apply below_drew1) | exact HB.out)) hb); clear HB; have HB := n0_; clear n0_; (try clear hb); (try clear hb2); (try clear hk); (try clear hi)))
        go_ret
        exact ⟨by first | rfl | (simp [errW_none, errW_some] <;> rfl) | (simp [*, errW_none, errW_some] <;> rfl), by repeat (first | (with_reducible first | exact HB.out | apply below_alloc | apply pw_below_drewN | apply below_drew1) | exact HB.out)⟩
  · rw [if_neg c4] at H
    have c4b0 : (t132 == 8) = false := beq_eq_false_iff_ne.mpr c4
    have c4b1 : (t132 != 8) = true := bne_iff_ne.mpr c4
    obtain rfl := Option.some.inj H
    go_enter Try.func8, Try.ntmps8
    go_wp2_with (first | ((with_reducible refine gate_callee (f := 12) rfl ?_); refine goesL_ (some 7) rfl rfl Try.func12 (by kernel_rfl) rfl #[.agg #[.int .i64 40, .int .i64 0, .int .i64 0, .int .i64 0, .int .i64 0, .int .u32 0]] rfl (by (try simp only [List.map_toArray, List.map_cons, List.map_nil]); first | done | rfl | (simp only [List.length_drop, List.length_take]; rfl)) ?_; (with_reducible refine (branch_Links.calls k 40 0 0 0 0 0 t128 t129 _ A1.out).mono ?_); rintro e w29 ⟨rfl, hb⟩; refine ⟨_, rfl, ?_⟩; have n0_ := Aside0.mk (below_step (by repeat (first | (with_reducible first | exact HB.out | apply below_alloc | apply pw_below_drewN | apply below_drew1) | exact HB.out)) hb); clear HB; have HB := n0_; clear n0_; (try clear hb); (try clear hb2); (try clear hk); (try clear hi)) | ((with_reducible refine gate_callee (f := 12) rfl ?_); refine goesL_ (some 12) rfl rfl Try.func12 (by kernel_rfl) rfl #[.agg #[.int .i64 41, .int .i64 0, .int .i64 0, .int .i64 0, .int .i64 0, .int .u32 0]] rfl (by (try simp only [List.map_toArray, List.map_cons, List.map_nil]); first | done | rfl | (simp only [List.length_drop, List.length_take]; rfl)) ?_; (with_reducible refine (branch_Links.calls k 41 0 0 0 0 0 t130 t131 _ A2.out).mono ?_); rintro e w30 ⟨rfl, hb⟩; refine ⟨_, rfl, ?_⟩; have n0_ := Aside0.mk (below_step (by repeat (first | (with_reducible first | exact HB.out | apply below_alloc | apply pw_below_drewN | apply below_drew1) | exact HB.out)) hb); clear HB; have HB := n0_; clear n0_; (try clear hb); (try clear hb2); (try clear hk); (try clear hi)) | ((with_reducible refine gate_callee (f := 13) rfl ?_); refine goesL_ (some 16) rfl rfl Try.func13 (by kernel_rfl) rfl #[.agg #[.int .i64 42, .int .i64 0, .int .i64 0, .int .i64 0, .int .i64 0, .int .u32 65535], .int .u32 8, .int .u32 0] rfl (by (try simp only [List.map_toArray, List.map_cons, List.map_nil]); first | done | rfl | (simp only [List.length_drop, List.length_take]; rfl)) ?_; (with_reducible refine (branch_Target.calls k 42 0 0 0 0 65535 8 0 t132 _ A3.out).mono ?_); rintro e w31 ⟨rfl, hb⟩; refine ⟨_, rfl, ?_⟩; have n0_ := Aside0.mk (below_step (by repeat (first | (with_reducible first | exact HB.out | apply below_alloc | apply pw_below_drewN | apply below_drew1) | exact HB.out)) hb); clear HB; have HB := n0_; clear n0_; (try clear hb); (try clear hb2); (try clear hk); (try clear hi)))
    go_ret
    exact ⟨by first | rfl | (simp [errW_none, errW_some] <;> rfl) | (simp [*, errW_none, errW_some] <;> rfl), by repeat (first | (with_reducible first | exact HB.out | apply below_alloc | apply pw_below_drewN | apply below_drew1) | exact HB.out)⟩

/-! ### pianolalaw5_BranchNumbers: function 3 -/
mutual
def pianolalaw5_BranchNumbers.l0 : Nat → List Int → Int → Option (Bool)
  | 0, _, _ => none
  | k + 1, x1, x2 => if x2 < 80 then (pianolalaw5_BranchNumbers.l1 k x1 x2 x1 (x1.length : Int) 0) else ((pianolalaw5_known.f k).bind fun t138 => (some t138))
def pianolalaw5_BranchNumbers.l1 : Nat → List Int → Int → List Int → Int → Int → Option (Bool)
  | 0, _, _, _, _, _ => none
  | k + 1, x1, x2, x14, x15, x16 => if x16 < x15 then (if 0 ≤ x16 then (if x16 < (x14.length : Int) then (pianolalaw5_BranchNumbers.l2 k x1 x2 (rd x14 x16) x14 x15 x16 x1 (x1.length : Int) 0) else (none)) else (none)) else (pianolalaw5_BranchNumbers.l0 k x1 (wrap64 (x2 + 1)))
def pianolalaw5_BranchNumbers.l2 : Nat → List Int → Int → Int → List Int → Int → Int → List Int → Int → Int → Option (Bool)
  | 0, _, _, _, _, _, _, _, _, _ => none
  | k + 1, x1, x2, x4, x14, x15, x16, x20, x21, x22 => if x22 < x21 then (if 0 ≤ x22 then (if x22 < (x20.length : Int) then ((some (([0, 1, 32767, 32768, 65535, 67108863] : List Int) : List Int)).bind fun y141 => (pianolalaw5_BranchNumbers.l3 k x1 x2 x4 (rd x20 x22) x14 x15 x16 x20 x21 x22 y141 (y141.length : Int) 0)) else (none)) else (none)) else (pianolalaw5_BranchNumbers.l1 k x1 x2 x14 x15 (wrap64 (x16 + 1)))
def pianolalaw5_BranchNumbers.l3 : Nat → List Int → Int → Int → Int → List Int → Int → Int → List Int → Int → Int → List Int → Int → Int → Option (Bool)
  | 0, _, _, _, _, _, _, _, _, _, _, _, _, _ => none
  | k + 1, x1, x2, x4, x6, x14, x15, x16, x20, x21, x22, x26, x27, x28 => if x28 < x27 then (if 0 ≤ x28 then (if x28 < (x26.length : Int) then ((pianolalaw5_same.f k x2 0 0 7 0 (rd x26 x28) x4 x6 1).bind fun t145 => (if t145 = true then ((pianolalaw5_same.f k x2 0 0 0 0 (rd x26 x28) x4 x6 x6).bind fun t146 => (if t146 = true then (pianolalaw5_BranchNumbers.l3 k x1 x2 x4 x6 x14 x15 x16 x20 x21 x22 x26 x27 (wrap64 (x28 + 1))) else (some false))) else (some false))) else (none)) else (none)) else (pianolalaw5_BranchNumbers.l2 k x1 x2 x4 x14 x15 x16 x20 x21 (wrap64 (x22 + 1)))
end
def pianolalaw5_BranchNumbers.f (k : Nat)  : Option (Bool) := pianolalaw5_BranchNumbers.l0 k (([0, 1, 4, 2147483647, 2147483648, 4294967295, 4294967292, 268435452, 2147484672] : List Int)) (-1)
theorem pianolalaw5_BranchNumbers.mono_l : ∀ k, (∀ y0 y1, LeO (pianolalaw5_BranchNumbers.l0 k y0 y1) (pianolalaw5_BranchNumbers.l0 (k + 1) y0 y1)) ∧ (∀ y0 y1 y2 y3 y4, LeO (pianolalaw5_BranchNumbers.l1 k y0 y1 y2 y3 y4) (pianolalaw5_BranchNumbers.l1 (k + 1) y0 y1 y2 y3 y4)) ∧ (∀ y0 y1 y2 y3 y4 y5 y6 y7 y8, LeO (pianolalaw5_BranchNumbers.l2 k y0 y1 y2 y3 y4 y5 y6 y7 y8) (pianolalaw5_BranchNumbers.l2 (k + 1) y0 y1 y2 y3 y4 y5 y6 y7 y8)) ∧ (∀ y0 y1 y2 y3 y4 y5 y6 y7 y8 y9 y10 y11 y12, LeO (pianolalaw5_BranchNumbers.l3 k y0 y1 y2 y3 y4 y5 y6 y7 y8 y9 y10 y11 y12) (pianolalaw5_BranchNumbers.l3 (k + 1) y0 y1 y2 y3 y4 y5 y6 y7 y8 y9 y10 y11 y12))
  | 0 => ⟨fun _ _ r h => by simp [pianolalaw5_BranchNumbers.l0] at h, fun _ _ _ _ _ r h => by simp [pianolalaw5_BranchNumbers.l1] at h, fun _ _ _ _ _ _ _ _ _ r h => by simp [pianolalaw5_BranchNumbers.l2] at h, fun _ _ _ _ _ _ _ _ _ _ _ _ _ r h => by simp [pianolalaw5_BranchNumbers.l3] at h⟩
  | k + 1 => by
    obtain ⟨ih0, ih1, ih2, ih3⟩ := pianolalaw5_BranchNumbers.mono_l k
    refine ⟨?_, ?_, ?_, ?_⟩
    · intro y0 y1
      unfold pianolalaw5_BranchNumbers.l0
      repeat' first
      | (with_reducible exact ih0 _ _)
      | (with_reducible exact ih1 _ _ _ _ _)
      | (with_reducible exact ih2 _ _ _ _ _ _ _ _ _)
      | (with_reducible exact ih3 _ _ _ _ _ _ _ _ _ _ _ _ _)
      | (with_reducible exact pianolalaw5_known.mono _)
      | (with_reducible exact pianolalaw5_same.mono _ _ _ _ _ _ _ _ _ _)
      | (with_reducible exact LeO.refl _)
      | (with_reducible exact LeO.none _)
      | (with_reducible refine LeO.ite ?_ ?_)
      | (with_reducible refine LeO.bind ?_ (fun _ => ?_))
      | exact ih0 _ _
      | exact ih1 _ _ _ _ _
      | exact ih2 _ _ _ _ _ _ _ _ _
      | exact ih3 _ _ _ _ _ _ _ _ _ _ _ _ _
      | exact pianolalaw5_known.mono _
      | exact pianolalaw5_same.mono _ _ _ _ _ _ _ _ _ _
      | exact LeO.none _
      | refine LeO.ite ?_ ?_
      | refine LeO.bind ?_ (fun _ => ?_)
    · intro y0 y1 y2 y3 y4
      unfold pianolalaw5_BranchNumbers.l1
      repeat' first
      | (with_reducible exact ih0 _ _)
      | (with_reducible exact ih1 _ _ _ _ _)
      | (with_reducible exact ih2 _ _ _ _ _ _ _ _ _)
      | (with_reducible exact ih3 _ _ _ _ _ _ _ _ _ _ _ _ _)
      | (with_reducible exact pianolalaw5_known.mono _)
      | (with_reducible exact pianolalaw5_same.mono _ _ _ _ _ _ _ _ _ _)
      | (with_reducible exact LeO.refl _)
      | (with_reducible exact LeO.none _)
      | (with_reducible refine LeO.ite ?_ ?_)
      | (with_reducible refine LeO.bind ?_ (fun _ => ?_))
      | exact ih0 _ _
      | exact ih1 _ _ _ _ _
      | exact ih2 _ _ _ _ _ _ _ _ _
      | exact ih3 _ _ _ _ _ _ _ _ _ _ _ _ _
      | exact pianolalaw5_known.mono _
      | exact pianolalaw5_same.mono _ _ _ _ _ _ _ _ _ _
      | exact LeO.none _
      | refine LeO.ite ?_ ?_
      | refine LeO.bind ?_ (fun _ => ?_)
    · intro y0 y1 y2 y3 y4 y5 y6 y7 y8
      unfold pianolalaw5_BranchNumbers.l2
      repeat' first
      | (with_reducible exact ih0 _ _)
      | (with_reducible exact ih1 _ _ _ _ _)
      | (with_reducible exact ih2 _ _ _ _ _ _ _ _ _)
      | (with_reducible exact ih3 _ _ _ _ _ _ _ _ _ _ _ _ _)
      | (with_reducible exact pianolalaw5_known.mono _)
      | (with_reducible exact pianolalaw5_same.mono _ _ _ _ _ _ _ _ _ _)
      | (with_reducible exact LeO.refl _)
      | (with_reducible exact LeO.none _)
      | (with_reducible refine LeO.ite ?_ ?_)
      | (with_reducible refine LeO.bind ?_ (fun _ => ?_))
      | exact ih0 _ _
      | exact ih1 _ _ _ _ _
      | exact ih2 _ _ _ _ _ _ _ _ _
      | exact ih3 _ _ _ _ _ _ _ _ _ _ _ _ _
      | exact pianolalaw5_known.mono _
      | exact pianolalaw5_same.mono _ _ _ _ _ _ _ _ _ _
      | exact LeO.none _
      | refine LeO.ite ?_ ?_
      | refine LeO.bind ?_ (fun _ => ?_)
    · intro y0 y1 y2 y3 y4 y5 y6 y7 y8 y9 y10 y11 y12
      unfold pianolalaw5_BranchNumbers.l3
      repeat' first
      | (with_reducible exact ih0 _ _)
      | (with_reducible exact ih1 _ _ _ _ _)
      | (with_reducible exact ih2 _ _ _ _ _ _ _ _ _)
      | (with_reducible exact ih3 _ _ _ _ _ _ _ _ _ _ _ _ _)
      | (with_reducible exact pianolalaw5_known.mono _)
      | (with_reducible exact pianolalaw5_same.mono _ _ _ _ _ _ _ _ _ _)
      | (with_reducible exact LeO.refl _)
      | (with_reducible exact LeO.none _)
      | (with_reducible refine LeO.ite ?_ ?_)
      | (with_reducible refine LeO.bind ?_ (fun _ => ?_))
      | exact ih0 _ _
      | exact ih1 _ _ _ _ _
      | exact ih2 _ _ _ _ _ _ _ _ _
      | exact ih3 _ _ _ _ _ _ _ _ _ _ _ _ _
      | exact pianolalaw5_known.mono _
      | exact pianolalaw5_same.mono _ _ _ _ _ _ _ _ _ _
      | exact LeO.none _
      | refine LeO.ite ?_ ?_
      | refine LeO.bind ?_ (fun _ => ?_)
theorem pianolalaw5_BranchNumbers.mono : ∀ k, LeO (pianolalaw5_BranchNumbers.f k ) (pianolalaw5_BranchNumbers.f (k + 1) ) := by
  intro  k
  obtain ⟨ih0, ih1, ih2, ih3⟩ := pianolalaw5_BranchNumbers.mono_l k
  unfold pianolalaw5_BranchNumbers.f
  repeat' first
      | (with_reducible exact ih0 _ _)
      | (with_reducible exact ih1 _ _ _ _ _)
      | (with_reducible exact ih2 _ _ _ _ _ _ _ _ _)
      | (with_reducible exact ih3 _ _ _ _ _ _ _ _ _ _ _ _ _)
      | (with_reducible exact pianolalaw5_known.mono _)
      | (with_reducible exact pianolalaw5_same.mono _ _ _ _ _ _ _ _ _ _)
      | (with_reducible exact LeO.refl _)
      | (with_reducible exact LeO.none _)
      | (with_reducible refine LeO.ite ?_ ?_)
      | (with_reducible refine LeO.bind ?_ (fun _ => ?_))
      | exact ih0 _ _
      | exact ih1 _ _ _ _ _
      | exact ih2 _ _ _ _ _ _ _ _ _
      | exact ih3 _ _ _ _ _ _ _ _ _ _ _ _ _
      | exact pianolalaw5_known.mono _
      | exact pianolalaw5_same.mono _ _ _ _ _ _ _ _ _ _
      | exact LeO.none _
      | refine LeO.ite ?_ ?_
      | refine LeO.bind ?_ (fun _ => ?_)
set_option maxHeartbeats 8000000 in
set_option maxRecDepth 100000 in
theorem pianolalaw5_BranchNumbers.calls (k : Nat)  (r : Bool) (w : World) (h : pianolalaw5_BranchNumbers.f k  = some r) :
    Calls Try.prog 3 #[] w fun e w' => e = .returned (.bool r) ∧ Below w.heap.size w w' := by
  have hu26 := Try.underlying26
  have HB := Aside0.mk (Below.refl w.heap.size w)
  have H : (pianolalaw5_BranchNumbers.l0 k (([0, 1, 4, 2147483647, 2147483648, 4294967295, 4294967292, 268435452, 2147484672] : List Int)) (-1)) = some r := h
  clear h
  obtain ⟨y135, hy135⟩ : ∃ y_ : List Int, y_ = (([0, 1, 4, 2147483647, 2147483648, 4294967295, 4294967292, 268435452, 2147484672] : List Int)) := ⟨_, rfl⟩
  replace H : (pianolalaw5_BranchNumbers.l0 k y135 (-1)) = some r := by first | (rw [hy135]; with_reducible exact H) | (have H2_ := (Option.bind_some _ _).symm.trans H; rw [hy135]; with_reducible exact H2_) | (have H2_ := (Option.bind_some _ _).symm.trans H; with_reducible exact H2_) | with_reducible exact H | (rw [hy135]; exact H) | exact H
  have Ny135 := Aside0.mk hy135
  clear hy135
  have H' := Aside0.mk H
  clear H
  go_enter Try.func3, Try.ntmps3
  go_wp2_with (first | ((with_reducible refine gate_dst (N := 9) rfl ?_); refine Kd.R_lit (Kd.int .u32) _ 22 ?hg (N := 9) ?hd (xs := ([0, 1, 4, 2147483647, 2147483648, 4294967295, 4294967292, 268435452, 2147484672] : List Int)) (inner := [.int .u32 0, .int .u32 1, .int .u32 4, .int .u32 2147483647, .int .u32 2147483648, .int .u32 4294967295, .int .u32 4294967292, .int .u32 268435452, .int .u32 2147484672]) (ok := fun _ => True) (okp := fun _ => True) ?hr ?hp (fun _ hk => hk) trivial (Below.refl _ _) (Nat.le_refl _) (by simp) ?_; (case hd => rfl); (case hg => rfl); (case hr => first | (go_simp; done) | (go_simp; rfl)); (case hp => exact (Reps.one (show Kd.M (Kd.int .u32) _ _ _ 0 [.int .u32 0] from rfl) (Reps.one (show Kd.M (Kd.int .u32) _ _ _ 1 [.int .u32 1] from rfl) (Reps.one (show Kd.M (Kd.int .u32) _ _ _ 4 [.int .u32 4] from rfl) (Reps.one (show Kd.M (Kd.int .u32) _ _ _ 2147483647 [.int .u32 2147483647] from rfl) (Reps.one (show Kd.M (Kd.int .u32) _ _ _ 2147483648 [.int .u32 2147483648] from rfl) (Reps.one (show Kd.M (Kd.int .u32) _ _ _ 4294967295 [.int .u32 4294967295] from rfl) (Reps.one (show Kd.M (Kd.int .u32) _ _ _ 4294967292 [.int .u32 4294967292] from rfl) (Reps.one (show Kd.M (Kd.int .u32) _ _ _ 268435452 [.int .u32 268435452] from rfl) (Reps.one (show Kd.M (Kd.int .u32) _ _ _ 2147484672 [.int .u32 2147484672] from rfl) (Reps.none _ _))))))))))); intro v136 w1 ho2 hb hg_ hnew_; clear hg_ hnew_; (first | rw [← Ny135.out] at ho2 | (simp only [Int.reduceToNat] at ho2; rw [← Ny135.out] at ho2)); have n0_ := Aside0.mk (Kd.R_lower ho2 (below_size (by repeat (first | (with_reducible first | exact HB.out | apply below_alloc | apply pw_below_drewN | apply below_drew1) | exact HB.out)))); have n1_ := Aside0.mk (below_step (by repeat (first | (with_reducible first | exact HB.out | apply below_alloc | apply pw_below_drewN | apply below_drew1) | exact HB.out)) hb); clear HB; have HO137 := n0_; have HB := n1_; clear n0_ n1_; clear hb ho2))
  go_loopg [2] k (fun kq v2 w' => ∃ (x2_1 : Int), v2 = .int .i64 x2_1 ∧ Aside0 (pianolalaw5_BranchNumbers.l0 kq y135 x2_1 = some r) ∧ Aside0 (kq ≤ k) ∧ Aside0 (Kd.R (Kd.int .u32) 22 w' w.heap.size (fun _ => True) v136 y135) ∧ Aside0 (Below w.heap.size w w'))
  case atStart => exact ⟨((-1)), (by first | rfl | (simp; done) | (simp [*]; done) | (simp; omega)), H', ⟨Nat.le_refl _⟩, ⟨by (with_reducible repeat (first | apply Kd.R_alloc | apply Kd.R_drewN | apply Kd.R_drew)); exact HO137.out⟩, ⟨by repeat (first | (with_reducible first | exact HB.out | apply below_alloc | apply pw_below_drewN | apply below_drew1) | exact HB.out)⟩⟩
  case round =>
    clear H'
    try clear p2
    obtain ⟨x2_1, rfl, HA, HK1, HO_1, HB⟩ := hrel
    cases gk with
    | zero => exact absurd HA.out (by simp [pianolalaw5_BranchNumbers.l0])
    | succ k1 =>
      have H := HA.out
      clear HA
      simp only [pianolalaw5_BranchNumbers.l0] at H
      by_cases c3 : x2_1 < 80
      · rw [if_pos c3] at H
        have c3b0 : decide (x2_1 < 80) = true := decide_eq_true c3
        clear c3
        have H' := Aside0.mk H
        clear H
        obtain ⟨Ao4, co4, eo4⟩ := Kd.R_slice HO_1.out
        subst eo4
        go_wp2
        go_loopg [16] k1 (fun kq v16 w' => ∃ (x16_2 : Int), v16 = .int .i64 x16_2 ∧ Aside0 (pianolalaw5_BranchNumbers.l1 kq y135 x2_1 y135 (y135.length : Int) x16_2 = some r) ∧ Aside0 (kq ≤ k1) ∧ Aside0 (Kd.R (Kd.int .u32) 22 w' w.heap.size (fun _ => True) (.slice Ao4 y135.length co4) y135) ∧ Aside0 (Kd.R (Kd.int .u32) 22 w' w.heap.size (fun _ => True) (.slice Ao4 y135.length co4) y135) ∧ Aside0 (Below w.heap.size w w'))
        case atStart => exact ⟨(0), (by first | rfl | (simp; done) | (simp [*]; done) | (simp; omega)), H', ⟨Nat.le_refl _⟩, ⟨by (with_reducible repeat (first | apply Kd.R_alloc | apply Kd.R_drewN | apply Kd.R_drew)); exact HO_1.out⟩, ⟨by (with_reducible repeat (first | apply Kd.R_alloc | apply Kd.R_drewN | apply Kd.R_drew)); exact HO_1.out⟩, ⟨by repeat (first | (with_reducible first | exact HB.out | apply below_alloc | apply pw_below_drewN | apply below_drew1) | exact HB.out)⟩⟩
        case round =>
          clear H'
          try clear p2
          try clear c3
          try clear c3b0
          try clear p2
          obtain ⟨x16_2, rfl, HA, HK2, HO_1, HO_14, HB⟩ := hrel
          cases gk with
          | zero => exact absurd HA.out (by simp [pianolalaw5_BranchNumbers.l1])
          | succ k2 =>
            have H := HA.out
            clear HA
            simp only [pianolalaw5_BranchNumbers.l1] at H
            by_cases c5 : x16_2 < (y135.length : Int)
            · rw [if_pos c5] at H
              have c5b0 : decide (x16_2 < (y135.length : Int)) = true := decide_eq_true c5
              clear c5
              by_cases c6 : 0 ≤ x16_2
              · rw [if_pos c6] at H
                have c6b0 : decide (0 ≤ x16_2) = true := decide_eq_true c6
                clear c6
                by_cases c7 : x16_2 < (y135.length : Int)
                · rw [if_pos c7] at H
                  have c7b0 : decide (x16_2 < (y135.length : Int)) = true := decide_eq_true c7
                  clear c7
                  have H' := Aside0.mk H
                  clear H
                  have p139 : 0 ≤ (x16_2 : Int) := of_decide_eq_true (by first | (with_reducible assumption) | assumption)
                  have q139 : x16_2 < (y135.length : Int) := of_decide_eq_true (by first | (with_reducible assumption) | assumption)
                  obtain ⟨ad139, e139, hx139_0⟩ := Kd.at_int (Kd.R_reads' HO_14.out).2.2 x16_2 p139 q139
                  cases e139
                  replace p139 := eq_true p139
                  replace q139 := eq_true q139
                  go_wp2
                  go_loopg [22] k2 (fun kq v22 w' => ∃ (x22_3 : Int), v22 = .int .i64 x22_3 ∧ Aside0 (pianolalaw5_BranchNumbers.l2 kq y135 x2_1 (rd y135 x16_2) y135 (y135.length : Int) x16_2 y135 (y135.length : Int) x22_3 = some r) ∧ Aside0 (kq ≤ k2) ∧ Aside0 (Kd.R (Kd.int .u32) 22 w' w.heap.size (fun _ => True) (.slice (some ad139) y135.length co4) y135) ∧ Aside0 (Kd.R (Kd.int .u32) 22 w' w.heap.size (fun _ => True) (.slice (some ad139) y135.length co4) y135) ∧ Aside0 (Kd.R (Kd.int .u32) 22 w' w.heap.size (fun _ => True) (.slice (some ad139) y135.length co4) y135) ∧ Aside0 (Below w.heap.size w w'))
                  case atStart => exact ⟨(0), (by first | rfl | (simp; done) | (simp [*]; done) | (simp; omega)), H', ⟨Nat.le_refl _⟩, ⟨by (with_reducible repeat (first | apply Kd.R_alloc | apply Kd.R_drewN | apply Kd.R_drew)); exact HO_1.out⟩, ⟨by (with_reducible repeat (first | apply Kd.R_alloc | apply Kd.R_drewN | apply Kd.R_drew)); exact HO_14.out⟩, ⟨by (with_reducible repeat (first | apply Kd.R_alloc | apply Kd.R_drewN | apply Kd.R_drew)); exact HO_1.out⟩, ⟨by repeat (first | (with_reducible first | exact HB.out | apply below_alloc | apply pw_below_drewN | apply below_drew1) | exact HB.out)⟩⟩
                  case round =>
                    clear H'
                    try clear p1
                    try clear q1
                    try clear hx1
                    try clear p2
                    try clear c3
                    try clear c3b0
                    try clear c5
                    try clear c5b0
                    try clear c6
                    try clear c6b0
                    try clear c7
                    try clear c7b0
                    try clear hx139_0
                    try clear p139
                    try clear p2
                    try clear q139
                    obtain ⟨x22_3, rfl, HA, HK3, HO_1, HO_14, HO_20, HB⟩ := hrel
                    cases gk with
                    | zero => exact absurd HA.out (by simp [pianolalaw5_BranchNumbers.l2])
                    | succ k3 =>
                      have H := HA.out
                      clear HA
                      simp only [pianolalaw5_BranchNumbers.l2] at H
                      by_cases c8 : x22_3 < (y135.length : Int)
                      · rw [if_pos c8] at H
                        have c8b0 : decide (x22_3 < (y135.length : Int)) = true := decide_eq_true c8
                        clear c8
                        by_cases c9 : 0 ≤ x22_3
                        · rw [if_pos c9] at H
                          have c9b0 : decide (0 ≤ x22_3) = true := decide_eq_true c9
                          clear c9
                          by_cases c10 : x22_3 < (y135.length : Int)
                          · rw [if_pos c10] at H
                            have c10b0 : decide (x22_3 < (y135.length : Int)) = true := decide_eq_true c10
                            clear c10
                            obtain ⟨y141, hy141⟩ : ∃ y_ : List Int, y_ = (([0, 1, 32767, 32768, 65535, 67108863] : List Int)) := ⟨_, rfl⟩
                            replace H : (pianolalaw5_BranchNumbers.l3 k3 y135 x2_1 (rd y135 x16_2) (rd y135 x22_3) y135 (y135.length : Int) x16_2 y135 (y135.length : Int) x22_3 y141 (y141.length : Int) 0) = some r := by first | (rw [hy141]; with_reducible exact H) | (have H2_ := (Option.bind_some _ _).symm.trans H; rw [hy141]; with_reducible exact H2_) | (have H2_ := (Option.bind_some _ _).symm.trans H; with_reducible exact H2_) | with_reducible exact H | (rw [hy141]; exact H) | exact H
                            have Ny141 := Aside0.mk hy141
                            clear hy141
                            have H' := Aside0.mk H
                            clear H
                            have p140 : 0 ≤ (x22_3 : Int) := of_decide_eq_true (by first | (with_reducible assumption) | assumption)
                            have q140 : x22_3 < (y135.length : Int) := of_decide_eq_true (by first | (with_reducible assumption) | assumption)
                            obtain ⟨ad140, e140, hx140_0⟩ := Kd.at_int (Kd.R_reads' HO_20.out).2.2 x22_3 p140 q140
                            obtain rfl : ad139 = ad140 := (by injection e140)
                            replace p140 := eq_true p140
                            replace q140 := eq_true q140
                            go_wp2_with (first | ((with_reducible refine gate_dst (N := 26) rfl ?_); refine Kd.R_lit (Kd.int .u32) _ 22 ?hg (N := 26) ?hd (xs := ([0, 1, 32767, 32768, 65535, 67108863] : List Int)) (inner := [.int .u32 0, .int .u32 1, .int .u32 32767, .int .u32 32768, .int .u32 65535, .int .u32 67108863]) (ok := fun _ => True) (okp := fun _ => True) ?hr ?hp (fun _ hk => hk) trivial (Below.refl _ _) (Nat.le_refl _) (by simp) ?_; (case hd => rfl); (case hg => rfl); (case hr => first | (go_simp; done) | (go_simp; rfl)); (case hp => exact (Reps.one (show Kd.M (Kd.int .u32) _ _ _ 0 [.int .u32 0] from rfl) (Reps.one (show Kd.M (Kd.int .u32) _ _ _ 1 [.int .u32 1] from rfl) (Reps.one (show Kd.M (Kd.int .u32) _ _ _ 32767 [.int .u32 32767] from rfl) (Reps.one (show Kd.M (Kd.int .u32) _ _ _ 32768 [.int .u32 32768] from rfl) (Reps.one (show Kd.M (Kd.int .u32) _ _ _ 65535 [.int .u32 65535] from rfl) (Reps.one (show Kd.M (Kd.int .u32) _ _ _ 67108863 [.int .u32 67108863] from rfl) (Reps.none _ _)))))))); intro v142 w11 ho12 hb hg_ hnew_; clear hg_ hnew_; (first | rw [← Ny141.out] at ho12 | (simp only [Int.reduceToNat] at ho12; rw [← Ny141.out] at ho12)); have n0_ := Aside0.mk (Kd.R_elder' (by (with_reducible repeat (first | apply Kd.R_alloc | apply Kd.R_drewN | apply Kd.R_drew)); exact HO_1.out) (Kd.R_base ho12) hb); have n1_ := Aside0.mk (Kd.R_elder' (by (with_reducible repeat (first | apply Kd.R_alloc | apply Kd.R_drewN | apply Kd.R_drew)); exact HO_14.out) (Kd.R_base ho12) hb); have n2_ := Aside0.mk (Kd.R_elder' (by (with_reducible repeat (first | apply Kd.R_alloc | apply Kd.R_drewN | apply Kd.R_drew)); exact HO_20.out) (Kd.R_base ho12) hb); have n3_ := Aside0.mk (Kd.R_lower (Kd.R_new' (Kd.R_new' (Kd.R_new' ho12 (Kd.R_lt (by (with_reducible repeat (first | apply Kd.R_alloc | apply Kd.R_drewN | apply Kd.R_drew)); exact HO_1.out))) (Kd.R_lt (by (with_reducible repeat (first | apply Kd.R_alloc | apply Kd.R_drewN | apply Kd.R_drew)); exact HO_14.out))) (Kd.R_lt (by (with_reducible repeat (first | apply Kd.R_alloc | apply Kd.R_drewN | apply Kd.R_drew)); exact HO_20.out))) (below_size (by repeat (first | (with_reducible first | exact HB.out | apply below_alloc | apply pw_below_drewN | apply below_drew1) | exact HB.out)))); have n4_ := Aside0.mk (below_step (by repeat (first | (with_reducible first | exact HB.out | apply below_alloc | apply pw_below_drewN | apply below_drew1) | exact HB.out)) hb); clear HO_1; clear HO_14; clear HO_20; clear HB; have HO_1 := n0_; have HO_14 := n1_; have HO_20 := n2_; have HO143 := n3_; have HB := n4_; clear n0_ n1_ n2_ n3_ n4_; clear hb ho12; obtain ⟨Ao13, co13, eo13⟩ := Kd.R_slice HO143.out; subst eo13))
                            go_loopg [28] k3 (fun kq v28 w' => ∃ (x28_4 : Int), v28 = .int .i64 x28_4 ∧ Aside0 (pianolalaw5_BranchNumbers.l3 kq y135 x2_1 (rd y135 x16_2) (rd y135 x22_3) y135 (y135.length : Int) x16_2 y135 (y135.length : Int) x22_3 y141 (y141.length : Int) x28_4 = some r) ∧ Aside0 (kq ≤ k3) ∧ Aside0 (Kd.R (Kd.int .u32) 22 w' w.heap.size (fun k_ => some k_ ≠ ((.slice Ao13 y141.length co13) : Value).ownBlock) (.slice (some ad139) y135.length co4) y135) ∧ Aside0 (Kd.R (Kd.int .u32) 22 w' w.heap.size (fun k_ => some k_ ≠ ((.slice Ao13 y141.length co13) : Value).ownBlock) (.slice (some ad139) y135.length co4) y135) ∧ Aside0 (Kd.R (Kd.int .u32) 22 w' w.heap.size (fun k_ => some k_ ≠ ((.slice Ao13 y141.length co13) : Value).ownBlock) (.slice (some ad139) y135.length co4) y135) ∧ Aside0 (Kd.R (Kd.int .u32) 22 w' w.heap.size (fun k_ => some k_ ≠ ((.slice (some ad139) y135.length co4) : Value).ownBlock ∧ some k_ ≠ ((.slice (some ad139) y135.length co4) : Value).ownBlock ∧ some k_ ≠ ((.slice (some ad139) y135.length co4) : Value).ownBlock) (.slice Ao13 y141.length co13) y141) ∧ Aside0 (Below w.heap.size w w'))
                            case atStart => exact ⟨(0), (by first | rfl | (simp; done) | (simp [*]; done) | (simp; omega)), H', ⟨Nat.le_refl _⟩, ⟨by (with_reducible repeat (first | apply Kd.R_alloc | apply Kd.R_drewN | apply Kd.R_drew)); exact Kd.R_mono HO_1.out (fun _ hk => hk.2)⟩, ⟨by (with_reducible repeat (first | apply Kd.R_alloc | apply Kd.R_drewN | apply Kd.R_drew)); exact Kd.R_mono HO_14.out (fun _ hk => hk.2)⟩, ⟨by (with_reducible repeat (first | apply Kd.R_alloc | apply Kd.R_drewN | apply Kd.R_drew)); exact Kd.R_mono HO_20.out (fun _ hk => hk.2)⟩, ⟨by (with_reducible repeat (first | apply Kd.R_alloc | apply Kd.R_drewN | apply Kd.R_drew)); exact Kd.R_mono HO143.out (fun _ hk => ⟨hk.1.1.2, ⟨hk.1.2, hk.2⟩⟩)⟩, ⟨by repeat (first | (with_reducible first | exact HB.out | apply below_alloc | apply pw_below_drewN | apply below_drew1) | exact HB.out)⟩⟩
                            case round =>
                              clear H'
                              try clear c1
                              try clear p1
                              try clear q1
                              try clear hx1
                              try clear p2
                              try clear c3
                              try clear c3b0
                              try clear c5
                              try clear c5b0
                              try clear c6
                              try clear c6b0
                              try clear c7
                              try clear c7b0
                              try clear c8
                              try clear c8b0
                              try clear c9
                              try clear c9b0
                              try clear c10
                              try clear c10b0
                              try clear p13
                              try clear q13
                              try clear hx13
                              try clear hx139_0
                              try clear hx140_0
                              try clear p1
                              try clear p139
                              try clear p140
                              try clear p2
                              try clear q1
                              try clear q139
                              try clear q140
                              obtain ⟨x28_4, rfl, HA, HK4, HO_1, HO_14, HO_20, HO_26, HB⟩ := hrel
                              cases gk with
                              | zero => exact absurd HA.out (by simp [pianolalaw5_BranchNumbers.l3])
                              | succ k4 =>
                                have H := HA.out
                                clear HA
                                simp only [pianolalaw5_BranchNumbers.l3] at H
                                by_cases c14 : x28_4 < (y141.length : Int)
                                · rw [if_pos c14] at H
                                  have c14b0 : decide (x28_4 < (y141.length : Int)) = true := decide_eq_true c14
                                  clear c14
                                  by_cases c15 : 0 ≤ x28_4
                                  · rw [if_pos c15] at H
                                    have c15b0 : decide (0 ≤ x28_4) = true := decide_eq_true c15
                                    clear c15
                                    by_cases c16 : x28_4 < (y141.length : Int)
                                    · rw [if_pos c16] at H
                                      have c16b0 : decide (x28_4 < (y141.length : Int)) = true := decide_eq_true c16
                                      clear c16
                                      replace H := Option.bind_eq_some_iff.mp H
                                      obtain ⟨t145, A170, H⟩ := H
                                      replace H : (if t145 = true then ((pianolalaw5_same.f k4 x2_1 0 0 0 0 (rd y141 x28_4) (rd y135 x16_2) (rd y135 x22_3) (rd y135 x22_3)).bind fun t146 => (if t146 = true then (pianolalaw5_BranchNumbers.l3 k4 y135 x2_1 (rd y135 x16_2) (rd y135 x22_3) y135 (y135.length : Int) x16_2 y135 (y135.length : Int) x22_3 y141 (y141.length : Int) (wrap64 (x28_4 + 1))) else (some false))) else (some false)) = some r := H
                                      have A17 := Aside0.mk A170
                                      clear A170
                                      by_cases c18 : t145 = true
                                      · subst c18
                                        have H1 : ((pianolalaw5_same.f k4 x2_1 0 0 0 0 (rd y141 x28_4) (rd y135 x16_2) (rd y135 x22_3) (rd y135 x22_3)).bind fun t146 => (if t146 = true then (pianolalaw5_BranchNumbers.l3 k4 y135 x2_1 (rd y135 x16_2) (rd y135 x22_3) y135 (y135.length : Int) x16_2 y135 (y135.length : Int) x22_3 y141 (y141.length : Int) (wrap64 (x28_4 + 1))) else (some false))) = some r := by rw [if_pos rfl] at H; exact H
                                        clear H
                                        have H := H1
                                        clear H1
                                        replace H := Option.bind_eq_some_iff.mp H
                                        obtain ⟨t146, A190, H⟩ := H
                                        replace H : (if t146 = true then (pianolalaw5_BranchNumbers.l3 k4 y135 x2_1 (rd y135 x16_2) (rd y135 x22_3) y135 (y135.length : Int) x16_2 y135 (y135.length : Int) x22_3 y141 (y141.length : Int) (wrap64 (x28_4 + 1))) else (some false)) = some r := H
                                        have A19 := Aside0.mk A190
                                        clear A190
                                        by_cases c20 : t146 = true
                                        · subst c20
                                          have H1 : (pianolalaw5_BranchNumbers.l3 k4 y135 x2_1 (rd y135 x16_2) (rd y135 x22_3) y135 (y135.length : Int) x16_2 y135 (y135.length : Int) x22_3 y141 (y141.length : Int) (wrap64 (x28_4 + 1))) = some r := by rw [if_pos rfl] at H; exact H
                                          clear H
                                          have H := H1
                                          clear H1
                                          have H' := Aside0.mk H
                                          clear H
                                          have p144 : 0 ≤ (x28_4 : Int) := of_decide_eq_true (by first | (with_reducible assumption) | assumption)
                                          have q144 : x28_4 < (y141.length : Int) := of_decide_eq_true (by first | (with_reducible assumption) | assumption)
                                          obtain ⟨ad144, e144, hx144_0⟩ := Kd.at_int (Kd.R_reads' HO_26.out).2.2 x28_4 p144 q144
                                          cases e144
                                          replace p144 := eq_true p144
                                          replace q144 := eq_true q144
                                          go_wp2_with (first | ((with_reducible refine gate_callee (f := 7) rfl ?_); refine goesL_ (some 37) rfl rfl Try.func7 (by kernel_rfl) rfl #[.agg #[.int .i64 x2_1, .int .i64 0, .int .i64 0, .int .i64 7, .int .i64 0, .int .u32 (rd y141 x28_4)], .int .u32 (rd y135 x16_2), .int .u32 (rd y135 x22_3), .int .u32 1] rfl (by (try simp only [List.map_toArray, List.map_cons, List.map_nil]); first | done | rfl | (simp only [List.length_drop, List.length_take]; rfl)) ?_; (with_reducible refine (pianolalaw5_same.calls k4 x2_1 0 0 7 0 (rd y141 x28_4) (rd y135 x16_2) (rd y135 x22_3) 1 true _ A17.out).mono ?_); rintro e w21 ⟨rfl, hb⟩; refine ⟨_, rfl, ?_⟩; have n0_ := Aside0.mk (Kd.R_below (by (with_reducible repeat (first | apply Kd.R_alloc | apply Kd.R_drewN | apply Kd.R_drew)); exact HO_1.out) hb); have n1_ := Aside0.mk (Kd.R_below (by (with_reducible repeat (first | apply Kd.R_alloc | apply Kd.R_drewN | apply Kd.R_drew)); exact HO_14.out) hb); have n2_ := Aside0.mk (Kd.R_below (by (with_reducible repeat (first | apply Kd.R_alloc | apply Kd.R_drewN | apply Kd.R_drew)); exact HO_20.out) hb); have n3_ := Aside0.mk (Kd.R_below (by (with_reducible repeat (first | apply Kd.R_alloc | apply Kd.R_drewN | apply Kd.R_drew)); exact HO_26.out) hb); have n4_ := Aside0.mk (below_step (by repeat (first | (with_reducible first | exact HB.out | apply below_alloc | apply pw_below_drewN | apply below_drew1) | exact HB.out)) hb); clear HO_1; clear HO_14; clear HO_20; clear HO_26; clear HB; have HO_1 := n0_; have HO_14 := n1_; have HO_20 := n2_; have HO_26 := n3_; have HB := n4_; clear n0_ n1_ n2_ n3_ n4_; (try clear hb); (try clear hb2); (try clear hk); (try clear hi)) | (go_at_call 7; (with_reducible refine (pianolalaw5_same.calls k4 x2_1 0 0 0 0 (rd y141 x28_4) (rd y135 x16_2) (rd y135 x22_3) (rd y135 x22_3) true _ A19.out).mono ?_); rintro e w22 ⟨rfl, hb⟩; have n0_ := Aside0.mk (Kd.R_below (by (with_reducible repeat (first | apply Kd.R_alloc | apply Kd.R_drewN | apply Kd.R_drew)); exact HO_1.out) hb); have n1_ := Aside0.mk (Kd.R_below (by (with_reducible repeat (first | apply Kd.R_alloc | apply Kd.R_drewN | apply Kd.R_drew)); exact HO_14.out) hb); have n2_ := Aside0.mk (Kd.R_below (by (with_reducible repeat (first | apply Kd.R_alloc | apply Kd.R_drewN | apply Kd.R_drew)); exact HO_20.out) hb); have n3_ := Aside0.mk (Kd.R_below (by (with_reducible repeat (first | apply Kd.R_alloc | apply Kd.R_drewN | apply Kd.R_drew)); exact HO_26.out) hb); have n4_ := Aside0.mk (below_step (by repeat (first | (with_reducible first | exact HB.out | apply below_alloc | apply pw_below_drewN | apply below_drew1) | exact HB.out)) hb); clear HO_1; clear HO_14; clear HO_20; clear HO_26; clear HB; have HO_1 := n0_; have HO_14 := n1_; have HO_20 := n2_; have HO_26 := n3_; have HB := n4_; clear n0_ n1_ n2_ n3_ n4_; (try clear hb); (try clear hb2); (try clear hk); (try clear hi)))
                                          go_roundg k4
                                          case measure => have := HK1.out; have := HK2.out; have := HK3.out; have := HK4.out; omega
                                          case rel => exact ⟨(wrap64 (x28_4 + 1)), (by first | rfl | (simp; done) | (simp [*]; done) | (simp; omega)), H', ⟨by have := HK1.out; have := HK2.out; have := HK3.out; have := HK4.out; omega⟩, ⟨by (with_reducible repeat (first | apply Kd.R_alloc | apply Kd.R_drewN | apply Kd.R_drew)); exact HO_1.out⟩, ⟨by (with_reducible repeat (first | apply Kd.R_alloc | apply Kd.R_drewN | apply Kd.R_drew)); exact HO_14.out⟩, ⟨by (with_reducible repeat (first | apply Kd.R_alloc | apply Kd.R_drewN | apply Kd.R_drew)); exact HO_20.out⟩, ⟨by (with_reducible repeat (first | apply Kd.R_alloc | apply Kd.R_drewN | apply Kd.R_drew)); exact HO_26.out⟩, ⟨by repeat (first | (with_reducible first | exact HB.out | apply below_alloc | apply pw_below_drewN | apply below_drew1) | exact HB.out)⟩⟩
                                        · replace c20 := Bool.eq_false_iff.mpr c20
                                          subst c20
                                          have H1 : (some false) = some r := by rw [if_neg (show ¬ (false = true) by decide)] at H; exact H
                                          clear H
                                          have H := H1
                                          clear H1
                                          obtain rfl := Option.some.inj H
                                          have p144 : 0 ≤ (x28_4 : Int) := of_decide_eq_true (by first | (with_reducible assumption) | assumption)
                                          have q144 : x28_4 < (y141.length : Int) := of_decide_eq_true (by first | (with_reducible assumption) | assumption)
                                          obtain ⟨ad144, e144, hx144_0⟩ := Kd.at_int (Kd.R_reads' HO_26.out).2.2 x28_4 p144 q144
                                          cases e144
                                          replace p144 := eq_true p144
                                          replace q144 := eq_true q144
                                          go_wp2_with (first | ((with_reducible refine gate_callee (f := 7) rfl ?_); refine goesL_ (some 37) rfl rfl Try.func7 (by kernel_rfl) rfl #[.agg #[.int .i64 x2_1, .int .i64 0, .int .i64 0, .int .i64 7, .int .i64 0, .int .u32 (rd y141 x28_4)], .int .u32 (rd y135 x16_2), .int .u32 (rd y135 x22_3), .int .u32 1] rfl (by (try simp only [List.map_toArray, List.map_cons, List.map_nil]); first | done | rfl | (simp only [List.length_drop, List.length_take]; rfl)) ?_; (with_reducible refine (pianolalaw5_same.calls k4 x2_1 0 0 7 0 (rd y141 x28_4) (rd y135 x16_2) (rd y135 x22_3) 1 true _ A17.out).mono ?_); rintro e w23 ⟨rfl, hb⟩; refine ⟨_, rfl, ?_⟩; have n0_ := Aside0.mk (Kd.R_below (by (with_reducible repeat (first | apply Kd.R_alloc | apply Kd.R_drewN | apply Kd.R_drew)); exact HO_1.out) hb); have n1_ := Aside0.mk (Kd.R_below (by (with_reducible repeat (first | apply Kd.R_alloc | apply Kd.R_drewN | apply Kd.R_drew)); exact HO_14.out) hb); have n2_ := Aside0.mk (Kd.R_below (by (with_reducible repeat (first | apply Kd.R_alloc | apply Kd.R_drewN | apply Kd.R_drew)); exact HO_20.out) hb); have n3_ := Aside0.mk (Kd.R_below (by (with_reducible repeat (first | apply Kd.R_alloc | apply Kd.R_drewN | apply Kd.R_drew)); exact HO_26.out) hb); have n4_ := Aside0.mk (below_step (by repeat (first | (with_reducible first | exact HB.out | apply below_alloc | apply pw_below_drewN | apply below_drew1) | exact HB.out)) hb); clear HO_1; clear HO_14; clear HO_20; clear HO_26; clear HB; have HO_1 := n0_; have HO_14 := n1_; have HO_20 := n2_; have HO_26 := n3_; have HB := n4_; clear n0_ n1_ n2_ n3_ n4_; (try clear hb); (try clear hb2); (try clear hk); (try clear hi)) | (go_at_call 7; (with_reducible refine (pianolalaw5_same.calls k4 x2_1 0 0 0 0 (rd y141 x28_4) (rd y135 x16_2) (rd y135 x22_3) (rd y135 x22_3) false _ A19.out).mono ?_); rintro e w24 ⟨rfl, hb⟩; have n0_ := Aside0.mk (Kd.R_below (by (with_reducible repeat (first | apply Kd.R_alloc | apply Kd.R_drewN | apply Kd.R_drew)); exact HO_1.out) hb); have n1_ := Aside0.mk (Kd.R_below (by (with_reducible repeat (first | apply Kd.R_alloc | apply Kd.R_drewN | apply Kd.R_drew)); exact HO_14.out) hb); have n2_ := Aside0.mk (Kd.R_below (by (with_reducible repeat (first | apply Kd.R_alloc | apply Kd.R_drewN | apply Kd.R_drew)); exact HO_20.out) hb); have n3_ := Aside0.mk (Kd.R_below (by (with_reducible repeat (first | apply Kd.R_alloc | apply Kd.R_drewN | apply Kd.R_drew)); exact HO_26.out) hb); have n4_ := Aside0.mk (below_step (by repeat (first | (with_reducible first | exact HB.out | apply below_alloc | apply pw_below_drewN | apply below_drew1) | exact HB.out)) hb); clear HO_1; clear HO_14; clear HO_20; clear HO_26; clear HB; have HO_1 := n0_; have HO_14 := n1_; have HO_20 := n2_; have HO_26 := n3_; have HB := n4_; clear n0_ n1_ n2_ n3_ n4_; (try clear hb); (try clear hb2); (try clear hk); (try clear hi)))
                                          go_ret
                                          exact ⟨by first | rfl | (simp [errW_none, errW_some] <;> rfl) | (simp [*, errW_none, errW_some] <;> rfl), by repeat (first | (with_reducible first | exact HB.out | apply below_alloc | apply pw_below_drewN | apply below_drew1) | exact HB.out)⟩
                                      · replace c18 := Bool.eq_false_iff.mpr c18
                                        subst c18
                                        have H1 : (some false) = some r := by rw [if_neg (show ¬ (false = true) by decide)] at H; exact H
                                        clear H
                                        have H := H1
                                        clear H1
                                        obtain rfl := Option.some.inj H
                                        have p144 : 0 ≤ (x28_4 : Int) := of_decide_eq_true (by first | (with_reducible assumption) | assumption)
                                        have q144 : x28_4 < (y141.length : Int) := of_decide_eq_true (by first | (with_reducible assumption) | assumption)
                                        obtain ⟨ad144, e144, hx144_0⟩ := Kd.at_int (Kd.R_reads' HO_26.out).2.2 x28_4 p144 q144
                                        cases e144
                                        replace p144 := eq_true p144
                                        replace q144 := eq_true q144
                                        go_wp2_with (first | ((with_reducible refine gate_callee (f := 7) rfl ?_); refine goesL_ (some 37) rfl rfl Try.func7 (by kernel_rfl) rfl #[.agg #[.int .i64 x2_1, .int .i64 0, .int .i64 0, .int .i64 7, .int .i64 0, .int .u32 (rd y141 x28_4)], .int .u32 (rd y135 x16_2), .int .u32 (rd y135 x22_3), .int .u32 1] rfl (by (try simp only [List.map_toArray, List.map_cons, List.map_nil]); first | done | rfl | (simp only [List.length_drop, List.length_take]; rfl)) ?_; (with_reducible refine (pianolalaw5_same.calls k4 x2_1 0 0 7 0 (rd y141 x28_4) (rd y135 x16_2) (rd y135 x22_3) 1 false _ A17.out).mono ?_); rintro e w25 ⟨rfl, hb⟩; refine ⟨_, rfl, ?_⟩; have n0_ := Aside0.mk (Kd.R_below (by (with_reducible repeat (first | apply Kd.R_alloc | apply Kd.R_drewN | apply Kd.R_drew)); exact HO_1.out) hb); have n1_ := Aside0.mk (Kd.R_below (by (with_reducible repeat (first | apply Kd.R_alloc | apply Kd.R_drewN | apply Kd.R_drew)); exact HO_14.out) hb); have n2_ := Aside0.mk (Kd.R_below (by (with_reducible repeat (first | apply Kd.R_alloc | apply Kd.R_drewN | apply Kd.R_drew)); exact HO_20.out) hb); have n3_ := Aside0.mk (Kd.R_below (by (with_reducible repeat (first | apply Kd.R_alloc | apply Kd.R_drewN | apply Kd.R_drew)); exact HO_26.out) hb); have n4_ := Aside0.mk (below_step (by repeat (first | (with_reducible first | exact HB.out | apply below_alloc | apply pw_below_drewN | apply below_drew1) | exact HB.out)) hb); clear HO_1; clear HO_14; clear HO_20; clear HO_26; clear HB; have HO_1 := n0_; have HO_14 := n1_; have HO_20 := n2_; have HO_26 := n3_; have HB := n4_; clear n0_ n1_ n2_ n3_ n4_; (try clear hb); (try clear hb2); (try clear hk); (try clear hi)))
                                        go_ret
                                        exact ⟨by first | rfl | (simp [errW_none, errW_some] <;> rfl) | (simp [*, errW_none, errW_some] <;> rfl), by repeat (first | (with_reducible first | exact HB.out | apply below_alloc | apply pw_below_drewN | apply below_drew1) | exact HB.out)⟩
                                    · rw [if_neg c16] at H
                                      exact absurd H (by simp)
                                  · rw [if_neg c15] at H
                                    exact absurd H (by simp)
                                · rw [if_neg c14] at H
                                  have c14b0 : decide (x28_4 < (y141.length : Int)) = false := decide_eq_false c14
                                  clear c14
                                  have H' := Aside0.mk H
                                  clear H
                                  go_wp2
                                  go_roundg k4
                                  case measure => have := HK1.out; have := HK2.out; have := HK3.out; have := HK4.out; omega
                                  case rel => exact ⟨(wrap64 (x22_3 + 1)), (by first | rfl | (simp; done) | (simp [*]; done) | (simp; omega)), H', ⟨by have := HK1.out; have := HK2.out; have := HK3.out; have := HK4.out; omega⟩, ⟨by (with_reducible repeat (first | apply Kd.R_alloc | apply Kd.R_drewN | apply Kd.R_drew)); exact Kd.R_mono HO_1.out (fun _ hk => trivial)⟩, ⟨by (with_reducible repeat (first | apply Kd.R_alloc | apply Kd.R_drewN | apply Kd.R_drew)); exact Kd.R_mono HO_14.out (fun _ hk => trivial)⟩, ⟨by (with_reducible repeat (first | apply Kd.R_alloc | apply Kd.R_drewN | apply Kd.R_drew)); exact Kd.R_mono HO_20.out (fun _ hk => trivial)⟩, ⟨by repeat (first | (with_reducible first | exact HB.out | apply below_alloc | apply pw_below_drewN | apply below_drew1) | exact HB.out)⟩⟩
                          · rw [if_neg c10] at H
                            exact absurd H (by simp)
                        · rw [if_neg c9] at H
                          exact absurd H (by simp)
                      · rw [if_neg c8] at H
                        have c8b0 : decide (x22_3 < (y135.length : Int)) = false := decide_eq_false c8
                        clear c8
                        have H' := Aside0.mk H
                        clear H
                        go_wp2
                        go_roundg k3
                        case measure => have := HK1.out; have := HK2.out; have := HK3.out; omega
                        case rel => exact ⟨(wrap64 (x16_2 + 1)), (by first | rfl | (simp; done) | (simp [*]; done) | (simp; omega)), H', ⟨by have := HK1.out; have := HK2.out; have := HK3.out; omega⟩, ⟨by (with_reducible repeat (first | apply Kd.R_alloc | apply Kd.R_drewN | apply Kd.R_drew)); exact HO_1.out⟩, ⟨by (with_reducible repeat (first | apply Kd.R_alloc | apply Kd.R_drewN | apply Kd.R_drew)); exact HO_14.out⟩, ⟨by repeat (first | (with_reducible first | exact HB.out | apply below_alloc | apply pw_below_drewN | apply below_drew1) | exact HB.out)⟩⟩
                · rw [if_neg c7] at H
                  exact absurd H (by simp)
              · rw [if_neg c6] at H
                exact absurd H (by simp)
            · rw [if_neg c5] at H
              have c5b0 : decide (x16_2 < (y135.length : Int)) = false := decide_eq_false c5
              clear c5
              have H' := Aside0.mk H
              clear H
              go_wp2
              go_roundg k2
              case measure => have := HK1.out; have := HK2.out; omega
              case rel => exact ⟨(wrap64 (x2_1 + 1)), (by first | rfl | (simp; done) | (simp [*]; done) | (simp; omega)), H', ⟨by have := HK1.out; have := HK2.out; omega⟩, ⟨by (with_reducible repeat (first | apply Kd.R_alloc | apply Kd.R_drewN | apply Kd.R_drew)); exact HO_1.out⟩, ⟨by repeat (first | (with_reducible first | exact HB.out | apply below_alloc | apply pw_below_drewN | apply below_drew1) | exact HB.out)⟩⟩
      · rw [if_neg c3] at H
        have c3b0 : decide (x2_1 < 80) = false := decide_eq_false c3
        clear c3
        replace H := Option.bind_eq_some_iff.mp H
        obtain ⟨t138, A260, H⟩ := H
        replace H : (some t138) = some r := H
        have A26 := Aside0.mk A260
        clear A260
        obtain rfl := Option.some.inj H
        go_wp2_with (first | ((with_reducible refine gate_callee (f := 8) rfl ?_); refine goesL_ (some 52) rfl rfl Try.func8 (by kernel_rfl) rfl #[] rfl (by (try simp only [List.map_toArray, List.map_cons, List.map_nil]); first | done | rfl | (simp only [List.length_drop, List.length_take]; rfl)) ?_; (with_reducible refine (pianolalaw5_known.calls k1  t138 _ A26.out).mono ?_); rintro e w27 ⟨rfl, hb⟩; refine ⟨_, rfl, ?_⟩; have n0_ := Aside0.mk (Kd.R_below (by (with_reducible repeat (first | apply Kd.R_alloc | apply Kd.R_drewN | apply Kd.R_drew)); exact HO_1.out) hb); have n1_ := Aside0.mk (below_step (by repeat (first | (with_reducible first | exact HB.out | apply below_alloc | apply pw_below_drewN | apply below_drew1) | exact HB.out)) hb); clear HO_1; clear HB; have HO_1 := n0_; have HB := n1_; clear n0_ n1_; (try clear hb); (try clear hb2); (try clear hk); (try clear hi)))
        go_ret
        exact ⟨by first | rfl | (simp [errW_none, errW_some] <;> rfl) | (simp [*, errW_none, errW_some] <;> rfl), by repeat (first | (with_reducible first | exact HB.out | apply below_alloc | apply pw_below_drewN | apply below_drew1) | exact HB.out)⟩

/-- THE ONE PURE STATEMENT of pianolalaw5_BranchNumbers: yours. -/
def pianolalaw5_BranchNumbers.Pure : Prop := ∃ k, pianolalaw5_BranchNumbers.f k  = some true
theorem pianolalaw5_BranchNumbers.walk (P : pianolalaw5_BranchNumbers.Pure)  (w : World)  :
    Calls Try.prog 3 #[] w fun e w' => e = .returned (.bool true) ∧ Below w.heap.size w w' := by
  obtain ⟨k, h⟩ := P  
  refine (pianolalaw5_BranchNumbers.calls k  true w h).mono ?_
  rintro e w' ⟨rfl, hd⟩
  exact ⟨rfl, hd⟩

/-! ### pianolabook_Within: function 18 -/
def pianolabook_Within.j0 : Nat → Int → Int → Int → Bool → Option (Int)
  | 0, _, _, _, _ => none
  | k + 1, x0, x1, x2, x14 => if x14 = true then (some x0) else (if (wrap64 ((wrap64 (x2 - x1)) + 1)) = 0 then (none) else (if (Int.tmod x0 (wrap64 ((wrap64 (x2 - x1)) + 1))) < 0 then (some (wrap64 (x1 + (wrap64 ((wrap64 ((wrap64 ((Int.tmod x0 (wrap64 ((wrap64 (x2 - x1)) + 1))) + x2)) - x1)) + 1))))) else (some (wrap64 (x1 + (Int.tmod x0 (wrap64 ((wrap64 (x2 - x1)) + 1))))))))
def pianolabook_Within.f (k : Nat) (a0 : Int) (a1 : Int) (a2 : Int) : Option (Int) := if a0 ≥ a1 then (pianolabook_Within.j0 k a0 a1 a2 (decide (a0 ≤ a2))) else (pianolabook_Within.j0 k a0 a1 a2 false)
theorem pianolabook_Within.mono_l : ∀ k, (∀ y0 y1 y2 y3, LeO (pianolabook_Within.j0 k y0 y1 y2 y3) (pianolabook_Within.j0 (k + 1) y0 y1 y2 y3))
  | 0 => fun _ _ _ _ r h => by simp [pianolabook_Within.j0] at h
  | k + 1 => by
    have ih0 := pianolabook_Within.mono_l k
    · intro y0 y1 y2 y3
      unfold pianolabook_Within.j0
      repeat' first
      | (with_reducible exact ih0 _ _ _ _)
      | (with_reducible exact LeO.refl _)
      | (with_reducible exact LeO.none _)
      | (with_reducible refine LeO.ite ?_ ?_)
      | (with_reducible refine LeO.bind ?_ (fun _ => ?_))
      | exact ih0 _ _ _ _
      | exact LeO.none _
      | refine LeO.ite ?_ ?_
      | refine LeO.bind ?_ (fun _ => ?_)
theorem pianolabook_Within.mono : ∀ a0 a1 a2 k, LeO (pianolabook_Within.f k a0 a1 a2) (pianolabook_Within.f (k + 1) a0 a1 a2) := by
  intro a0 a1 a2 k
  have ih0 := pianolabook_Within.mono_l k
  unfold pianolabook_Within.f
  repeat' first
      | (with_reducible exact ih0 _ _ _ _)
      | (with_reducible exact LeO.refl _)
      | (with_reducible exact LeO.none _)
      | (with_reducible refine LeO.ite ?_ ?_)
      | (with_reducible refine LeO.bind ?_ (fun _ => ?_))
      | exact ih0 _ _ _ _
      | exact LeO.none _
      | refine LeO.ite ?_ ?_
      | refine LeO.bind ?_ (fun _ => ?_)
set_option maxHeartbeats 8000000 in
set_option maxRecDepth 100000 in
theorem pianolabook_Within.calls (k : Nat) (a0 : Int) (a1 : Int) (a2 : Int) (r : Int) (w : World) (h : pianolabook_Within.f k a0 a1 a2 = some r) :
    Calls Try.prog 18 #[.int .i64 a0, .int .i64 a1, .int .i64 a2] w fun e w' => e = .returned (.int .i64 r) ∧ Drawn0 w w' := by
  have H : (if a0 ≥ a1 then (pianolabook_Within.j0 k a0 a1 a2 (decide (a0 ≤ a2))) else (pianolabook_Within.j0 k a0 a1 a2 false)) = some r := h
  clear h
  have HC4 := Aside0.mk H
  clear H
  go_enter Try.func18, Try.ntmps18
  go_upto_region 1 with (fail)
  go_cut [14] (fun v14 wc => ∃ (kq : Nat) (x14_3 : Bool), v14 = .bool x14_3 ∧ Aside0 (pianolabook_Within.j0 kq a0 a1 a2 x14_3 = some r) ∧ Aside0 (kq ≤ k) ∧ Drawn0 w wc)
  case first =>
    have H := HC4.out
    clear HC4
    by_cases c5 : a0 ≥ a1
    · rw [if_pos c5] at H
      have c5b0 : decide (a1 ≤ a0) = true := decide_eq_true c5
      clear c5
      (first | rw [c5b0] | (simp only [i64_w, i32_w]; rw [c5b0]) | skip)
      have H' := Aside0.mk H
      clear H
      go_wp2
      go_meet
      case rel => exact ⟨_, (decide (a0 ≤ a2)), (by first | rfl | (simp; done) | (simp [*]; done) | (simp; omega)), H', ⟨by first | omega | exact Nat.le_refl _⟩, by repeat (first | exact Drawn0.refl _ | apply Drawn0.step)⟩
    · rw [if_neg c5] at H
      have c5b0 : decide (a1 ≤ a0) = false := decide_eq_false c5
      clear c5
      (first | rw [c5b0] | (simp only [i64_w, i32_w]; rw [c5b0]) | skip)
      have H' := Aside0.mk H
      clear H
      go_wp2
      go_meet
      case rel => exact ⟨_, (false), (by first | rfl | (simp; done) | (simp [*]; done) | (simp; omega)), H', ⟨by first | omega | exact Nat.le_refl _⟩, by repeat (first | exact Drawn0.refl _ | apply Drawn0.step)⟩
  case rest =>
    clear HC4
    try clear c1
    try clear p2
    try clear c5
    try clear c5b0
    obtain ⟨kq, x14_3, rfl, HA, HJ3, ⟨mc3, rfl⟩⟩ := hcut
    cases kq with
    | zero => exact absurd HA.out (by simp [pianolabook_Within.j0])
    | succ kj3 =>
      have H := HA.out
      clear HA
      simp only [pianolabook_Within.j0] at H
      by_cases c6 : x14_3 = true
      · subst c6
        have H1 : (some a0) = some r := by rw [if_pos rfl] at H; exact H
        clear H
        have H := H1
        clear H1
        obtain rfl := Option.some.inj H
        go_wp2
        go_ret
        exact ⟨by first | rfl | (simp; done) | (simp [*]; done) | (simp; omega), by repeat (first | exact Drawn0.refl _ | apply Drawn0.step)⟩
      · replace c6 := Bool.eq_false_iff.mpr c6
        subst c6
        have H1 : (if (wrap64 ((wrap64 (a2 - a1)) + 1)) = 0 then (none) else (if (Int.tmod a0 (wrap64 ((wrap64 (a2 - a1)) + 1))) < 0 then (some (wrap64 (a1 + (wrap64 ((wrap64 ((wrap64 ((Int.tmod a0 (wrap64 ((wrap64 (a2 - a1)) + 1))) + a2)) - a1)) + 1))))) else (some (wrap64 (a1 + (Int.tmod a0 (wrap64 ((wrap64 (a2 - a1)) + 1)))))))) = some r := by rw [if_neg (show ¬ (false = true) by decide)] at H; exact H
        clear H
        have H := H1
        clear H1
        by_cases c7 : (wrap64 ((wrap64 (a2 - a1)) + 1)) = 0
        · rw [if_pos c7] at H
          exact absurd H (by simp)
        · rw [if_neg c7] at H
          have c7b0 : ((wrap64 ((wrap64 (a2 - a1)) + 1)) == 0) = false := beq_eq_false_iff_ne.mpr c7
          have c7b1 : ((wrap64 ((wrap64 (a2 - a1)) + 1)) != 0) = true := bne_iff_ne.mpr c7
          by_cases c8 : (Int.tmod a0 (wrap64 ((wrap64 (a2 - a1)) + 1))) < 0
          · rw [if_pos c8] at H
            have c8b0 : decide ((Int.tmod a0 (wrap64 ((wrap64 (a2 - a1)) + 1))) < 0) = true := decide_eq_true c8
            clear c8
            obtain rfl := Option.some.inj H
            go_wp2
            go_ret
            exact ⟨by first | rfl | (simp; done) | (simp [*]; done) | (simp; omega), by repeat (first | exact Drawn0.refl _ | apply Drawn0.step)⟩
          · rw [if_neg c8] at H
            have c8b0 : decide ((Int.tmod a0 (wrap64 ((wrap64 (a2 - a1)) + 1))) < 0) = false := decide_eq_false c8
            clear c8
            obtain rfl := Option.some.inj H
            go_wp2
            go_ret
            exact ⟨by first | rfl | (simp; done) | (simp [*]; done) | (simp; omega), by repeat (first | exact Drawn0.refl _ | apply Drawn0.step)⟩

/-! ### pianolakeep_near: function 22 -/
def pianolakeep_near.f (k : Nat) (a0 : Int) : Option (Int) := (pianolabook_Within.f k a0 0 1048576).bind fun t147 => (if (Int.tmod t147 8) = 7 then (some (Int.tmod (wrap64 (Int.tdiv t147 8)) 32)) else (some (Int.tmod (wrap64 (Int.tdiv t147 8)) 8)))
theorem pianolakeep_near.mono : ∀ a0 k, LeO (pianolakeep_near.f k a0) (pianolakeep_near.f (k + 1) a0) := by
  intro a0 k
  unfold pianolakeep_near.f
  repeat' first
      | (with_reducible exact pianolabook_Within.mono _ _ _ _)
      | (with_reducible exact LeO.refl _)
      | (with_reducible exact LeO.none _)
      | (with_reducible refine LeO.ite ?_ ?_)
      | (with_reducible refine LeO.bind ?_ (fun _ => ?_))
      | exact pianolabook_Within.mono _ _ _ _
      | exact LeO.none _
      | refine LeO.ite ?_ ?_
      | refine LeO.bind ?_ (fun _ => ?_)
set_option maxHeartbeats 8000000 in
set_option maxRecDepth 100000 in
theorem pianolakeep_near.calls (k : Nat) (a0 : Int) (r : Int) (w : World) (h : pianolakeep_near.f k a0 = some r) :
    Calls Try.prog 22 #[.int .i64 a0] w fun e w' => e = .returned (.int .i64 r) ∧ Drawn0 w w' := by
  have H : ((pianolabook_Within.f k a0 0 1048576).bind fun t147 => (if (Int.tmod t147 8) = 7 then (some (Int.tmod (wrap64 (Int.tdiv t147 8)) 32)) else (some (Int.tmod (wrap64 (Int.tdiv t147 8)) 8)))) = some r := h
  clear h
  replace H := Option.bind_eq_some_iff.mp H
  obtain ⟨t147, A20, H⟩ := H
  replace H : (if (Int.tmod t147 8) = 7 then (some (Int.tmod (wrap64 (Int.tdiv t147 8)) 32)) else (some (Int.tmod (wrap64 (Int.tdiv t147 8)) 8))) = some r := H
  have A2 := Aside0.mk A20
  clear A20
  by_cases c3 : (Int.tmod t147 8) = 7
  · rw [if_pos c3] at H
    have c3b0 : ((Int.tmod t147 8) == 7) = true := beq_iff_eq.mpr c3
    have c3b1 : ((Int.tmod t147 8) != 7) = false := bne_eq_false_iff_eq.mpr c3
    clear c3
    obtain rfl := Option.some.inj H
    go_enter Try.func22, Try.ntmps22
    go_wp2_with (first | ((with_reducible refine gate_callee (f := 18) rfl ?_); refine goesL_ (some 5) rfl rfl Try.func18 (by kernel_rfl) rfl #[.int .i64 a0, .int .i64 0, .int .i64 1048576] rfl (by (try simp only [List.map_toArray, List.map_cons, List.map_nil]); first | done | rfl | (simp only [List.length_drop, List.length_take]; rfl)) ?_; (with_reducible refine (pianolabook_Within.calls k a0 0 1048576 t147 _ A2.out).mono ?_); rintro e w' ⟨rfl, ⟨nd, rfl⟩⟩; refine ⟨_, rfl, ?_⟩) | (go_at_call 18; (with_reducible refine (pianolabook_Within.calls k a0 0 1048576 t147 _ A2.out).mono ?_); rintro e w' ⟨rfl, ⟨nd, rfl⟩⟩))
    go_ret
    exact ⟨by first | rfl | (simp; done) | (simp [*]; done) | (simp; omega), by repeat (first | exact Drawn0.refl _ | apply Drawn0.step)⟩
  · rw [if_neg c3] at H
    have c3b0 : ((Int.tmod t147 8) == 7) = false := beq_eq_false_iff_ne.mpr c3
    have c3b1 : ((Int.tmod t147 8) != 7) = true := bne_iff_ne.mpr c3
    obtain rfl := Option.some.inj H
    go_enter Try.func22, Try.ntmps22
    go_wp2_with (first | ((with_reducible refine gate_callee (f := 18) rfl ?_); refine goesL_ (some 5) rfl rfl Try.func18 (by kernel_rfl) rfl #[.int .i64 a0, .int .i64 0, .int .i64 1048576] rfl (by (try simp only [List.map_toArray, List.map_cons, List.map_nil]); first | done | rfl | (simp only [List.length_drop, List.length_take]; rfl)) ?_; (with_reducible refine (pianolabook_Within.calls k a0 0 1048576 t147 _ A2.out).mono ?_); rintro e w' ⟨rfl, ⟨nd, rfl⟩⟩; refine ⟨_, rfl, ?_⟩) | (go_at_call 18; (with_reducible refine (pianolabook_Within.calls k a0 0 1048576 t147 _ A2.out).mono ?_); rintro e w' ⟨rfl, ⟨nd, rfl⟩⟩))
    go_ret
    exact ⟨by first | rfl | (simp; done) | (simp [*]; done) | (simp; omega), by repeat (first | exact Drawn0.refl _ | apply Drawn0.step)⟩

/-! ### pianolaref3_special: function 29 -/
def pianolaref3_special.f  : Option ((List (S50))) := some (([(⟨0, 0, 1, (⟨#[116, 100, 104]⟩ : ByteArray)⟩ : S50), (⟨0, 2, 2, (⟨#[116, 100, 104]⟩ : ByteArray)⟩ : S50), (⟨0, 3, 3, (⟨#[116, 100, 104]⟩ : ByteArray)⟩ : S50), (⟨0, 4, 4, (⟨#[115, 116, 100]⟩ : ByteArray)⟩ : S50), (⟨0, 6, 5, (⟨#[115, 116, 100]⟩ : ByteArray)⟩ : S50), (⟨0, 7, 6, (⟨#[115, 116, 100]⟩ : ByteArray)⟩ : S50), (⟨0, 8, 7, (⟨#[115]⟩ : ByteArray)⟩ : S50), (⟨0, 9, 8, (⟨#[115, 100]⟩ : ByteArray)⟩ : S50), (⟨0, 10, 9, (⟨#[115, 116, 100]⟩ : ByteArray)⟩ : S50), (⟨0, 11, 10, (⟨#[115, 116, 100]⟩ : ByteArray)⟩ : S50), (⟨0, 12, 11, (⟨#[]⟩ : ByteArray)⟩ : S50), (⟨0, 13, 12, (⟨#[]⟩ : ByteArray)⟩ : S50), (⟨0, 15, 13, (⟨#[]⟩ : ByteArray)⟩ : S50), (⟨0, 16, 14, (⟨#[100]⟩ : ByteArray)⟩ : S50), (⟨0, 17, 15, (⟨#[115]⟩ : ByteArray)⟩ : S50), (⟨0, 18, 16, (⟨#[100]⟩ : ByteArray)⟩ : S50), (⟨0, 19, 17, (⟨#[115]⟩ : ByteArray)⟩ : S50), (⟨0, 24, 18, (⟨#[115, 116]⟩ : ByteArray)⟩ : S50), (⟨0, 25, 19, (⟨#[115, 116]⟩ : ByteArray)⟩ : S50), (⟨0, 26, 20, (⟨#[115, 116]⟩ : ByteArray)⟩ : S50), (⟨0, 27, 21, (⟨#[115, 116]⟩ : ByteArray)⟩ : S50), (⟨0, 32, 22, (⟨#[115, 116, 100]⟩ : ByteArray)⟩ : S50), (⟨0, 33, 23, (⟨#[115, 116, 100]⟩ : ByteArray)⟩ : S50), (⟨0, 34, 24, (⟨#[115, 116, 100]⟩ : ByteArray)⟩ : S50), (⟨0, 35, 25, (⟨#[115, 116, 100]⟩ : ByteArray)⟩ : S50), (⟨0, 36, 26, (⟨#[115, 116, 100]⟩ : ByteArray)⟩ : S50), (⟨0, 37, 27, (⟨#[115, 116, 100]⟩ : ByteArray)⟩ : S50), (⟨0, 38, 28, (⟨#[115, 116, 100]⟩ : ByteArray)⟩ : S50), (⟨0, 39, 29, (⟨#[115, 116, 100]⟩ : ByteArray)⟩ : S50), (⟨0, 42, 30, (⟨#[115, 116, 100]⟩ : ByteArray)⟩ : S50), (⟨0, 43, 31, (⟨#[115, 116, 100]⟩ : ByteArray)⟩ : S50), (⟨0, 48, 32, (⟨#[115, 116]⟩ : ByteArray)⟩ : S50), (⟨0, 50, 33, (⟨#[115, 116]⟩ : ByteArray)⟩ : S50), (⟨0, 52, 34, (⟨#[115, 116]⟩ : ByteArray)⟩ : S50), (⟨0, 54, 35, (⟨#[115, 116]⟩ : ByteArray)⟩ : S50)] : List (S50)))
set_option maxHeartbeats 8000000 in
set_option maxRecDepth 100000 in
theorem pianolaref3_special.calls  (r : List (S50)) (w : World) (h : pianolaref3_special.f  = some r) :
    Calls Try.prog 29 #[] w fun e w' => ∃ v0_ : Value, e = .returned (v0_) ∧ Kd.R k50 50 w' w.heap.size (fun _ => True) v0_ r ∧ Below w.heap.size w w' := by
  have hu50 := Try.underlying50
  have HB := Aside0.mk (Below.refl w.heap.size w)
  have H : (some (([(⟨0, 0, 1, (⟨#[116, 100, 104]⟩ : ByteArray)⟩ : S50), (⟨0, 2, 2, (⟨#[116, 100, 104]⟩ : ByteArray)⟩ : S50), (⟨0, 3, 3, (⟨#[116, 100, 104]⟩ : ByteArray)⟩ : S50), (⟨0, 4, 4, (⟨#[115, 116, 100]⟩ : ByteArray)⟩ : S50), (⟨0, 6, 5, (⟨#[115, 116, 100]⟩ : ByteArray)⟩ : S50), (⟨0, 7, 6, (⟨#[115, 116, 100]⟩ : ByteArray)⟩ : S50), (⟨0, 8, 7, (⟨#[115]⟩ : ByteArray)⟩ : S50), (⟨0, 9, 8, (⟨#[115, 100]⟩ : ByteArray)⟩ : S50), (⟨0, 10, 9, (⟨#[115, 116, 100]⟩ : ByteArray)⟩ : S50), (⟨0, 11, 10, (⟨#[115, 116, 100]⟩ : ByteArray)⟩ : S50), (⟨0, 12, 11, (⟨#[]⟩ : ByteArray)⟩ : S50), (⟨0, 13, 12, (⟨#[]⟩ : ByteArray)⟩ : S50), (⟨0, 15, 13, (⟨#[]⟩ : ByteArray)⟩ : S50), (⟨0, 16, 14, (⟨#[100]⟩ : ByteArray)⟩ : S50), (⟨0, 17, 15, (⟨#[115]⟩ : ByteArray)⟩ : S50), (⟨0, 18, 16, (⟨#[100]⟩ : ByteArray)⟩ : S50), (⟨0, 19, 17, (⟨#[115]⟩ : ByteArray)⟩ : S50), (⟨0, 24, 18, (⟨#[115, 116]⟩ : ByteArray)⟩ : S50), (⟨0, 25, 19, (⟨#[115, 116]⟩ : ByteArray)⟩ : S50), (⟨0, 26, 20, (⟨#[115, 116]⟩ : ByteArray)⟩ : S50), (⟨0, 27, 21, (⟨#[115, 116]⟩ : ByteArray)⟩ : S50), (⟨0, 32, 22, (⟨#[115, 116, 100]⟩ : ByteArray)⟩ : S50), (⟨0, 33, 23, (⟨#[115, 116, 100]⟩ : ByteArray)⟩ : S50), (⟨0, 34, 24, (⟨#[115, 116, 100]⟩ : ByteArray)⟩ : S50), (⟨0, 35, 25, (⟨#[115, 116, 100]⟩ : ByteArray)⟩ : S50), (⟨0, 36, 26, (⟨#[115, 116, 100]⟩ : ByteArray)⟩ : S50), (⟨0, 37, 27, (⟨#[115, 116, 100]⟩ : ByteArray)⟩ : S50), (⟨0, 38, 28, (⟨#[115, 116, 100]⟩ : ByteArray)⟩ : S50), (⟨0, 39, 29, (⟨#[115, 116, 100]⟩ : ByteArray)⟩ : S50), (⟨0, 42, 30, (⟨#[115, 116, 100]⟩ : ByteArray)⟩ : S50), (⟨0, 43, 31, (⟨#[115, 116, 100]⟩ : ByteArray)⟩ : S50), (⟨0, 48, 32, (⟨#[115, 116]⟩ : ByteArray)⟩ : S50), (⟨0, 50, 33, (⟨#[115, 116]⟩ : ByteArray)⟩ : S50), (⟨0, 52, 34, (⟨#[115, 116]⟩ : ByteArray)⟩ : S50), (⟨0, 54, 35, (⟨#[115, 116]⟩ : ByteArray)⟩ : S50)] : List (S50)))) = some r := h
  clear h
  obtain ⟨y148, hy148⟩ : ∃ y_ : List (S50), y_ = (([(⟨0, 0, 1, (⟨#[116, 100, 104]⟩ : ByteArray)⟩ : S50), (⟨0, 2, 2, (⟨#[116, 100, 104]⟩ : ByteArray)⟩ : S50), (⟨0, 3, 3, (⟨#[116, 100, 104]⟩ : ByteArray)⟩ : S50), (⟨0, 4, 4, (⟨#[115, 116, 100]⟩ : ByteArray)⟩ : S50), (⟨0, 6, 5, (⟨#[115, 116, 100]⟩ : ByteArray)⟩ : S50), (⟨0, 7, 6, (⟨#[115, 116, 100]⟩ : ByteArray)⟩ : S50), (⟨0, 8, 7, (⟨#[115]⟩ : ByteArray)⟩ : S50), (⟨0, 9, 8, (⟨#[115, 100]⟩ : ByteArray)⟩ : S50), (⟨0, 10, 9, (⟨#[115, 116, 100]⟩ : ByteArray)⟩ : S50), (⟨0, 11, 10, (⟨#[115, 116, 100]⟩ : ByteArray)⟩ : S50), (⟨0, 12, 11, (⟨#[]⟩ : ByteArray)⟩ : S50), (⟨0, 13, 12, (⟨#[]⟩ : ByteArray)⟩ : S50), (⟨0, 15, 13, (⟨#[]⟩ : ByteArray)⟩ : S50), (⟨0, 16, 14, (⟨#[100]⟩ : ByteArray)⟩ : S50), (⟨0, 17, 15, (⟨#[115]⟩ : ByteArray)⟩ : S50), (⟨0, 18, 16, (⟨#[100]⟩ : ByteArray)⟩ : S50), (⟨0, 19, 17, (⟨#[115]⟩ : ByteArray)⟩ : S50), (⟨0, 24, 18, (⟨#[115, 116]⟩ : ByteArray)⟩ : S50), (⟨0, 25, 19, (⟨#[115, 116]⟩ : ByteArray)⟩ : S50), (⟨0, 26, 20, (⟨#[115, 116]⟩ : ByteArray)⟩ : S50), (⟨0, 27, 21, (⟨#[115, 116]⟩ : ByteArray)⟩ : S50), (⟨0, 32, 22, (⟨#[115, 116, 100]⟩ : ByteArray)⟩ : S50), (⟨0, 33, 23, (⟨#[115, 116, 100]⟩ : ByteArray)⟩ : S50), (⟨0, 34, 24, (⟨#[115, 116, 100]⟩ : ByteArray)⟩ : S50), (⟨0, 35, 25, (⟨#[115, 116, 100]⟩ : ByteArray)⟩ : S50), (⟨0, 36, 26, (⟨#[115, 116, 100]⟩ : ByteArray)⟩ : S50), (⟨0, 37, 27, (⟨#[115, 116, 100]⟩ : ByteArray)⟩ : S50), (⟨0, 38, 28, (⟨#[115, 116, 100]⟩ : ByteArray)⟩ : S50), (⟨0, 39, 29, (⟨#[115, 116, 100]⟩ : ByteArray)⟩ : S50), (⟨0, 42, 30, (⟨#[115, 116, 100]⟩ : ByteArray)⟩ : S50), (⟨0, 43, 31, (⟨#[115, 116, 100]⟩ : ByteArray)⟩ : S50), (⟨0, 48, 32, (⟨#[115, 116]⟩ : ByteArray)⟩ : S50), (⟨0, 50, 33, (⟨#[115, 116]⟩ : ByteArray)⟩ : S50), (⟨0, 52, 34, (⟨#[115, 116]⟩ : ByteArray)⟩ : S50), (⟨0, 54, 35, (⟨#[115, 116]⟩ : ByteArray)⟩ : S50)] : List (S50))) := ⟨_, rfl⟩
  replace H : (some y148) = some r := by first | (rw [hy148]; with_reducible exact H) | (have H2_ := (Option.bind_some _ _).symm.trans H; rw [hy148]; with_reducible exact H2_) | (have H2_ := (Option.bind_some _ _).symm.trans H; with_reducible exact H2_) | with_reducible exact H | (rw [hy148]; exact H) | exact H
  have Ny148 := Aside0.mk hy148
  clear hy148
  obtain rfl := Option.some.inj H
  go_enter Try.func29, Try.ntmps29
  go_wp2_with (first | ((with_reducible refine gate_dst (N := 36) rfl ?_); refine Kd.R_lit k50 _ 50 ?hg (N := 36) ?hd (xs := ([(⟨0, 0, 1, (⟨#[116, 100, 104]⟩ : ByteArray)⟩ : S50), (⟨0, 2, 2, (⟨#[116, 100, 104]⟩ : ByteArray)⟩ : S50), (⟨0, 3, 3, (⟨#[116, 100, 104]⟩ : ByteArray)⟩ : S50), (⟨0, 4, 4, (⟨#[115, 116, 100]⟩ : ByteArray)⟩ : S50), (⟨0, 6, 5, (⟨#[115, 116, 100]⟩ : ByteArray)⟩ : S50), (⟨0, 7, 6, (⟨#[115, 116, 100]⟩ : ByteArray)⟩ : S50), (⟨0, 8, 7, (⟨#[115]⟩ : ByteArray)⟩ : S50), (⟨0, 9, 8, (⟨#[115, 100]⟩ : ByteArray)⟩ : S50), (⟨0, 10, 9, (⟨#[115, 116, 100]⟩ : ByteArray)⟩ : S50), (⟨0, 11, 10, (⟨#[115, 116, 100]⟩ : ByteArray)⟩ : S50), (⟨0, 12, 11, (⟨#[]⟩ : ByteArray)⟩ : S50), (⟨0, 13, 12, (⟨#[]⟩ : ByteArray)⟩ : S50), (⟨0, 15, 13, (⟨#[]⟩ : ByteArray)⟩ : S50), (⟨0, 16, 14, (⟨#[100]⟩ : ByteArray)⟩ : S50), (⟨0, 17, 15, (⟨#[115]⟩ : ByteArray)⟩ : S50), (⟨0, 18, 16, (⟨#[100]⟩ : ByteArray)⟩ : S50), (⟨0, 19, 17, (⟨#[115]⟩ : ByteArray)⟩ : S50), (⟨0, 24, 18, (⟨#[115, 116]⟩ : ByteArray)⟩ : S50), (⟨0, 25, 19, (⟨#[115, 116]⟩ : ByteArray)⟩ : S50), (⟨0, 26, 20, (⟨#[115, 116]⟩ : ByteArray)⟩ : S50), (⟨0, 27, 21, (⟨#[115, 116]⟩ : ByteArray)⟩ : S50), (⟨0, 32, 22, (⟨#[115, 116, 100]⟩ : ByteArray)⟩ : S50), (⟨0, 33, 23, (⟨#[115, 116, 100]⟩ : ByteArray)⟩ : S50), (⟨0, 34, 24, (⟨#[115, 116, 100]⟩ : ByteArray)⟩ : S50), (⟨0, 35, 25, (⟨#[115, 116, 100]⟩ : ByteArray)⟩ : S50), (⟨0, 36, 26, (⟨#[115, 116, 100]⟩ : ByteArray)⟩ : S50), (⟨0, 37, 27, (⟨#[115, 116, 100]⟩ : ByteArray)⟩ : S50), (⟨0, 38, 28, (⟨#[115, 116, 100]⟩ : ByteArray)⟩ : S50), (⟨0, 39, 29, (⟨#[115, 116, 100]⟩ : ByteArray)⟩ : S50), (⟨0, 42, 30, (⟨#[115, 116, 100]⟩ : ByteArray)⟩ : S50), (⟨0, 43, 31, (⟨#[115, 116, 100]⟩ : ByteArray)⟩ : S50), (⟨0, 48, 32, (⟨#[115, 116]⟩ : ByteArray)⟩ : S50), (⟨0, 50, 33, (⟨#[115, 116]⟩ : ByteArray)⟩ : S50), (⟨0, 52, 34, (⟨#[115, 116]⟩ : ByteArray)⟩ : S50), (⟨0, 54, 35, (⟨#[115, 116]⟩ : ByteArray)⟩ : S50)] : List (S50))) (inner := [.int .i64 0, .int .i64 0, .int .i64 1, .string (⟨#[116, 100, 104]⟩ : ByteArray), .int .i64 0, .int .i64 2, .int .i64 2, .string (⟨#[116, 100, 104]⟩ : ByteArray), .int .i64 0, .int .i64 3, .int .i64 3, .string (⟨#[116, 100, 104]⟩ : ByteArray), .int .i64 0, .int .i64 4, .int .i64 4, .string (⟨#[115, 116, 100]⟩ : ByteArray), .int .i64 0, .int .i64 6, .int .i64 5, .string (⟨#[115, 116, 100]⟩ : ByteArray), .int .i64 0, .int .i64 7, .int .i64 6, .string (⟨#[115, 116, 100]⟩ : ByteArray), .int .i64 0, .int .i64 8, .int .i64 7, .string (⟨#[115]⟩ : ByteArray), .int .i64 0, .int .i64 9, .int .i64 8, .string (⟨#[115, 100]⟩ : ByteArray), .int .i64 0, .int .i64 10, .int .i64 9, .string (⟨#[115, 116, 100]⟩ : ByteArray), .int .i64 0, .int .i64 11, .int .i64 10, .string (⟨#[115, 116, 100]⟩ : ByteArray), .int .i64 0, .int .i64 12, .int .i64 11, .string (⟨#[]⟩ : ByteArray), .int .i64 0, .int .i64 13, .int .i64 12, .string (⟨#[]⟩ : ByteArray), .int .i64 0, .int .i64 15, .int .i64 13, .string (⟨#[]⟩ : ByteArray), .int .i64 0, .int .i64 16, .int .i64 14, .string (⟨#[100]⟩ : ByteArray), .int .i64 0, .int .i64 17, .int .i64 15, .string (⟨#[115]⟩ : ByteArray), .int .i64 0, .int .i64 18, .int .i64 16, .string (⟨#[100]⟩ : ByteArray), .int .i64 0, .int .i64 19, .int .i64 17, .string (⟨#[115]⟩ : ByteArray), .int .i64 0, .int .i64 24, .int .i64 18, .string (⟨#[115, 116]⟩ : ByteArray), .int .i64 0, .int .i64 25, .int .i64 19, .string (⟨#[115, 116]⟩ : ByteArray), .int .i64 0, .int .i64 26, .int .i64 20, .string (⟨#[115, 116]⟩ : ByteArray), .int .i64 0, .int .i64 27, .int .i64 21, .string (⟨#[115, 116]⟩ : ByteArray), .int .i64 0, .int .i64 32, .int .i64 22, .string (⟨#[115, 116, 100]⟩ : ByteArray), .int .i64 0, .int .i64 33, .int .i64 23, .string (⟨#[115, 116, 100]⟩ : ByteArray), .int .i64 0, .int .i64 34, .int .i64 24, .string (⟨#[115, 116, 100]⟩ : ByteArray), .int .i64 0, .int .i64 35, .int .i64 25, .string (⟨#[115, 116, 100]⟩ : ByteArray), .int .i64 0, .int .i64 36, .int .i64 26, .string (⟨#[115, 116, 100]⟩ : ByteArray), .int .i64 0, .int .i64 37, .int .i64 27, .string (⟨#[115, 116, 100]⟩ : ByteArray), .int .i64 0, .int .i64 38, .int .i64 28, .string (⟨#[115, 116, 100]⟩ : ByteArray), .int .i64 0, .int .i64 39, .int .i64 29, .string (⟨#[115, 116, 100]⟩ : ByteArray), .int .i64 0, .int .i64 42, .int .i64 30, .string (⟨#[115, 116, 100]⟩ : ByteArray), .int .i64 0, .int .i64 43, .int .i64 31, .string (⟨#[115, 116, 100]⟩ : ByteArray), .int .i64 0, .int .i64 48, .int .i64 32, .string (⟨#[115, 116]⟩ : ByteArray), .int .i64 0, .int .i64 50, .int .i64 33, .string (⟨#[115, 116]⟩ : ByteArray), .int .i64 0, .int .i64 52, .int .i64 34, .string (⟨#[115, 116]⟩ : ByteArray), .int .i64 0, .int .i64 54, .int .i64 35, .string (⟨#[115, 116]⟩ : ByteArray)]) (ok := fun _ => True) (okp := fun _ => True) ?hr ?hp (fun _ hk => hk) trivial (Below.refl _ _) (Nat.le_refl _) (by simp) ?_; (case hd => rfl); (case hg => rfl); (case hr => first | (go_simp; done) | (go_simp; rfl)); (case hp => exact (Reps.c4 (show Kd.M k50 _ _ _ (⟨0, 0, 1, (⟨#[116, 100, 104]⟩ : ByteArray)⟩ : S50) [.int .i64 0, .int .i64 0, .int .i64 1, .string (⟨#[116, 100, 104]⟩ : ByteArray)] from (k50_mkM _ _ _ (⟨0, 0, 1, (⟨#[116, 100, 104]⟩ : ByteArray)⟩ : S50) )) (Reps.c4 (show Kd.M k50 _ _ _ (⟨0, 2, 2, (⟨#[116, 100, 104]⟩ : ByteArray)⟩ : S50) [.int .i64 0, .int .i64 2, .int .i64 2, .string (⟨#[116, 100, 104]⟩ : ByteArray)] from (k50_mkM _ _ _ (⟨0, 2, 2, (⟨#[116, 100, 104]⟩ : ByteArray)⟩ : S50) )) (Reps.c4 (show Kd.M k50 _ _ _ (⟨0, 3, 3, (⟨#[116, 100, 104]⟩ : ByteArray)⟩ : S50) [.int .i64 0, .int .i64 3, .int .i64 3, .string (⟨#[116, 100, 104]⟩ : ByteArray)] from (k50_mkM _ _ _ (⟨0, 3, 3, (⟨#[116, 100, 104]⟩ : ByteArray)⟩ : S50) )) (Reps.c4 (show Kd.M k50 _ _ _ (⟨0, 4, 4, (⟨#[115, 116, 100]⟩ : ByteArray)⟩ : S50) [.int .i64 0, .int .i64 4, .int .i64 4, .string (⟨#[115, 116, 100]⟩ : ByteArray)] from (k50_mkM _ _ _ (⟨0, 4, 4, (⟨#[115, 116, 100]⟩ : ByteArray)⟩ : S50) )) (Reps.c4 (show Kd.M k50 _ _ _ (⟨0, 6, 5, (⟨#[115, 116, 100]⟩ : ByteArray)⟩ : S50) [.int .i64 0, .int .i64 6, .int .i64 5, .string (⟨#[115, 116, 100]⟩ : ByteArray)] from (k50_mkM _ _ _ (⟨0, 6, 5, (⟨#[115, 116, 100]⟩ : ByteArray)⟩ : S50) )) (Reps.c4 (show Kd.M k50 _ _ _ (⟨0, 7, 6, (⟨#[115, 116, 100]⟩ : ByteArray)⟩ : S50) [.int .i64 0, .int .i64 7, .int .i64 6, .string (⟨#[115, 116, 100]⟩ : ByteArray)] from (k50_mkM _ _ _ (⟨0, 7, 6, (⟨#[115, 116, 100]⟩ : ByteArray)⟩ : S50) )) (Reps.c4 (show Kd.M k50 _ _ _ (⟨0, 8, 7, (⟨#[115]⟩ : ByteArray)⟩ : S50) [.int .i64 0, .int .i64 8, .int .i64 7, .string (⟨#[115]⟩ : ByteArray)] from (k50_mkM _ _ _ (⟨0, 8, 7, (⟨#[115]⟩ : ByteArray)⟩ : S50) )) (Reps.c4 (show Kd.M k50 _ _ _ (⟨0, 9, 8, (⟨#[115, 100]⟩ : ByteArray)⟩ : S50) [.int .i64 0, .int .i64 9, .int .i64 8, .string (⟨#[115, 100]⟩ : ByteArray)] from (k50_mkM _ _ _ (⟨0, 9, 8, (⟨#[115, 100]⟩ : ByteArray)⟩ : S50) )) (Reps.c4 (show Kd.M k50 _ _ _ (⟨0, 10, 9, (⟨#[115, 116, 100]⟩ : ByteArray)⟩ : S50) [.int .i64 0, .int .i64 10, .int .i64 9, .string (⟨#[115, 116, 100]⟩ : ByteArray)] from (k50_mkM _ _ _ (⟨0, 10, 9, (⟨#[115, 116, 100]⟩ : ByteArray)⟩ : S50) )) (Reps.c4 (show Kd.M k50 _ _ _ (⟨0, 11, 10, (⟨#[115, 116, 100]⟩ : ByteArray)⟩ : S50) [.int .i64 0, .int .i64 11, .int .i64 10, .string (⟨#[115, 116, 100]⟩ : ByteArray)] from (k50_mkM _ _ _ (⟨0, 11, 10, (⟨#[115, 116, 100]⟩ : ByteArray)⟩ : S50) )) (Reps.c4 (show Kd.M k50 _ _ _ (⟨0, 12, 11, (⟨#[]⟩ : ByteArray)⟩ : S50) [.int .i64 0, .int .i64 12, .int .i64 11, .string (⟨#[]⟩ : ByteArray)] from (k50_mkM _ _ _ (⟨0, 12, 11, (⟨#[]⟩ : ByteArray)⟩ : S50) )) (Reps.c4 (show Kd.M k50 _ _ _ (⟨0, 13, 12, (⟨#[]⟩ : ByteArray)⟩ : S50) [.int .i64 0, .int .i64 13, .int .i64 12, .string (⟨#[]⟩ : ByteArray)] from (k50_mkM _ _ _ (⟨0, 13, 12, (⟨#[]⟩ : ByteArray)⟩ : S50) )) (Reps.c4 (show Kd.M k50 _ _ _ (⟨0, 15, 13, (⟨#[]⟩ : ByteArray)⟩ : S50) [.int .i64 0, .int .i64 15, .int .i64 13, .string (⟨#[]⟩ : ByteArray)] from (k50_mkM _ _ _ (⟨0, 15, 13, (⟨#[]⟩ : ByteArray)⟩ : S50) )) (Reps.c4 (show Kd.M k50 _ _ _ (⟨0, 16, 14, (⟨#[100]⟩ : ByteArray)⟩ : S50) [.int .i64 0, .int .i64 16, .int .i64 14, .string (⟨#[100]⟩ : ByteArray)] from (k50_mkM _ _ _ (⟨0, 16, 14, (⟨#[100]⟩ : ByteArray)⟩ : S50) )) (Reps.c4 (show Kd.M k50 _ _ _ (⟨0, 17, 15, (⟨#[115]⟩ : ByteArray)⟩ : S50) [.int .i64 0, .int .i64 17, .int .i64 15, .string (⟨#[115]⟩ : ByteArray)] from (k50_mkM _ _ _ (⟨0, 17, 15, (⟨#[115]⟩ : ByteArray)⟩ : S50) )) (Reps.c4 (show Kd.M k50 _ _ _ (⟨0, 18, 16, (⟨#[100]⟩ : ByteArray)⟩ : S50) [.int .i64 0, .int .i64 18, .int .i64 16, .string (⟨#[100]⟩ : ByteArray)] from (k50_mkM _ _ _ (⟨0, 18, 16, (⟨#[100]⟩ : ByteArray)⟩ : S50) )) (Reps.c4 (show Kd.M k50 _ _ _ (⟨0, 19, 17, (⟨#[115]⟩ : ByteArray)⟩ : S50) [.int .i64 0, .int .i64 19, .int .i64 17, .string (⟨#[115]⟩ : ByteArray)] from (k50_mkM _ _ _ (⟨0, 19, 17, (⟨#[115]⟩ : ByteArray)⟩ : S50) )) (Reps.c4 (show Kd.M k50 _ _ _ (⟨0, 24, 18, (⟨#[115, 116]⟩ : ByteArray)⟩ : S50) [.int .i64 0, .int .i64 24, .int .i64 18, .string (⟨#[115, 116]⟩ : ByteArray)] from (k50_mkM _ _ _ (⟨0, 24, 18, (⟨#[115, 116]⟩ : ByteArray)⟩ : S50) )) (Reps.c4 (show Kd.M k50 _ _ _ (⟨0, 25, 19, (⟨#[115, 116]⟩ : ByteArray)⟩ : S50) [.int .i64 0, .int .i64 25, .int .i64 19, .string (⟨#[115, 116]⟩ : ByteArray)] from (k50_mkM _ _ _ (⟨0, 25, 19, (⟨#[115, 116]⟩ : ByteArray)⟩ : S50) )) (Reps.c4 (show Kd.M k50 _ _ _ (⟨0, 26, 20, (⟨#[115, 116]⟩ : ByteArray)⟩ : S50) [.int .i64 0, .int .i64 26, .int .i64 20, .string (⟨#[115, 116]⟩ : ByteArray)] from (k50_mkM _ _ _ (⟨0, 26, 20, (⟨#[115, 116]⟩ : ByteArray)⟩ : S50) )) (Reps.c4 (show Kd.M k50 _ _ _ (⟨0, 27, 21, (⟨#[115, 116]⟩ : ByteArray)⟩ : S50) [.int .i64 0, .int .i64 27, .int .i64 21, .string (⟨#[115, 116]⟩ : ByteArray)] from (k50_mkM _ _ _ (⟨0, 27, 21, (⟨#[115, 116]⟩ : ByteArray)⟩ : S50) )) (Reps.c4 (show Kd.M k50 _ _ _ (⟨0, 32, 22, (⟨#[115, 116, 100]⟩ : ByteArray)⟩ : S50) [.int .i64 0, .int .i64 32, .int .i64 22, .string (⟨#[115, 116, 100]⟩ : ByteArray)] from (k50_mkM _ _ _ (⟨0, 32, 22, (⟨#[115, 116, 100]⟩ : ByteArray)⟩ : S50) )) (Reps.c4 (show Kd.M k50 _ _ _ (⟨0, 33, 23, (⟨#[115, 116, 100]⟩ : ByteArray)⟩ : S50) [.int .i64 0, .int .i64 33, .int .i64 23, .string (⟨#[115, 116, 100]⟩ : ByteArray)] from (k50_mkM _ _ _ (⟨0, 33, 23, (⟨#[115, 116, 100]⟩ : ByteArray)⟩ : S50) )) (Reps.c4 (show Kd.M k50 _ _ _ (⟨0, 34, 24, (⟨#[115, 116, 100]⟩ : ByteArray)⟩ : S50) [.int .i64 0, .int .i64 34, .int .i64 24, .string (⟨#[115, 116, 100]⟩ : ByteArray)] from (k50_mkM _ _ _ (⟨0, 34, 24, (⟨#[115, 116, 100]⟩ : ByteArray)⟩ : S50) )) (Reps.c4 (show Kd.M k50 _ _ _ (⟨0, 35, 25, (⟨#[115, 116, 100]⟩ : ByteArray)⟩ : S50) [.int .i64 0, .int .i64 35, .int .i64 25, .string (⟨#[115, 116, 100]⟩ : ByteArray)] from (k50_mkM _ _ _ (⟨0, 35, 25, (⟨#[115, 116, 100]⟩ : ByteArray)⟩ : S50) )) (Reps.c4 (show Kd.M k50 _ _ _ (⟨0, 36, 26, (⟨#[115, 116, 100]⟩ : ByteArray)⟩ : S50) [.int .i64 0, .int .i64 36, .int .i64 26, .string (⟨#[115, 116, 100]⟩ : ByteArray)] from (k50_mkM _ _ _ (⟨0, 36, 26, (⟨#[115, 116, 100]⟩ : ByteArray)⟩ : S50) )) (Reps.c4 (show Kd.M k50 _ _ _ (⟨0, 37, 27, (⟨#[115, 116, 100]⟩ : ByteArray)⟩ : S50) [.int .i64 0, .int .i64 37, .int .i64 27, .string (⟨#[115, 116, 100]⟩ : ByteArray)] from (k50_mkM _ _ _ (⟨0, 37, 27, (⟨#[115, 116, 100]⟩ : ByteArray)⟩ : S50) )) (Reps.c4 (show Kd.M k50 _ _ _ (⟨0, 38, 28, (⟨#[115, 116, 100]⟩ : ByteArray)⟩ : S50) [.int .i64 0, .int .i64 38, .int .i64 28, .string (⟨#[115, 116, 100]⟩ : ByteArray)] from (k50_mkM _ _ _ (⟨0, 38, 28, (⟨#[115, 116, 100]⟩ : ByteArray)⟩ : S50) )) (Reps.c4 (show Kd.M k50 _ _ _ (⟨0, 39, 29, (⟨#[115, 116, 100]⟩ : ByteArray)⟩ : S50) [.int .i64 0, .int .i64 39, .int .i64 29, .string (⟨#[115, 116, 100]⟩ : ByteArray)] from (k50_mkM _ _ _ (⟨0, 39, 29, (⟨#[115, 116, 100]⟩ : ByteArray)⟩ : S50) )) (Reps.c4 (show Kd.M k50 _ _ _ (⟨0, 42, 30, (⟨#[115, 116, 100]⟩ : ByteArray)⟩ : S50) [.int .i64 0, .int .i64 42, .int .i64 30, .string (⟨#[115, 116, 100]⟩ : ByteArray)] from (k50_mkM _ _ _ (⟨0, 42, 30, (⟨#[115, 116, 100]⟩ : ByteArray)⟩ : S50) )) (Reps.c4 (show Kd.M k50 _ _ _ (⟨0, 43, 31, (⟨#[115, 116, 100]⟩ : ByteArray)⟩ : S50) [.int .i64 0, .int .i64 43, .int .i64 31, .string (⟨#[115, 116, 100]⟩ : ByteArray)] from (k50_mkM _ _ _ (⟨0, 43, 31, (⟨#[115, 116, 100]⟩ : ByteArray)⟩ : S50) )) (Reps.c4 (show Kd.M k50 _ _ _ (⟨0, 48, 32, (⟨#[115, 116]⟩ : ByteArray)⟩ : S50) [.int .i64 0, .int .i64 48, .int .i64 32, .string (⟨#[115, 116]⟩ : ByteArray)] from (k50_mkM _ _ _ (⟨0, 48, 32, (⟨#[115, 116]⟩ : ByteArray)⟩ : S50) )) (Reps.c4 (show Kd.M k50 _ _ _ (⟨0, 50, 33, (⟨#[115, 116]⟩ : ByteArray)⟩ : S50) [.int .i64 0, .int .i64 50, .int .i64 33, .string (⟨#[115, 116]⟩ : ByteArray)] from (k50_mkM _ _ _ (⟨0, 50, 33, (⟨#[115, 116]⟩ : ByteArray)⟩ : S50) )) (Reps.c4 (show Kd.M k50 _ _ _ (⟨0, 52, 34, (⟨#[115, 116]⟩ : ByteArray)⟩ : S50) [.int .i64 0, .int .i64 52, .int .i64 34, .string (⟨#[115, 116]⟩ : ByteArray)] from (k50_mkM _ _ _ (⟨0, 52, 34, (⟨#[115, 116]⟩ : ByteArray)⟩ : S50) )) (Reps.c4 (show Kd.M k50 _ _ _ (⟨0, 54, 35, (⟨#[115, 116]⟩ : ByteArray)⟩ : S50) [.int .i64 0, .int .i64 54, .int .i64 35, .string (⟨#[115, 116]⟩ : ByteArray)] from (k50_mkM _ _ _ (⟨0, 54, 35, (⟨#[115, 116]⟩ : ByteArray)⟩ : S50) )) (Reps.none _ _))))))))))))))))))))))))))))))))))))); intro v149 w1 ho2 hb hg_ hnew_; clear hg_ hnew_; (first | rw [← Ny148.out] at ho2 | (simp only [Int.reduceToNat] at ho2; rw [← Ny148.out] at ho2)); have n0_ := Aside0.mk (Kd.R_lower ho2 (below_size (by repeat (first | (with_reducible first | exact HB.out | apply below_alloc | apply pw_below_drewN | apply below_drew1) | exact HB.out)))); have n1_ := Aside0.mk (below_step (by repeat (first | (with_reducible first | exact HB.out | apply below_alloc | apply pw_below_drewN | apply below_drew1) | exact HB.out)) hb); clear HB; have HO150 := n0_; have HB := n1_; clear n0_ n1_; clear hb ho2))
  go_ret
  exact ⟨_, by first | rfl | (simp [errW_none, errW_some] <;> rfl) | (simp [*, errW_none, errW_some] <;> rfl), by (with_reducible repeat (first | apply Kd.R_alloc | apply Kd.R_drewN | apply Kd.R_drew)); exact HO150.out, by repeat (first | (with_reducible first | exact HB.out | apply below_alloc | apply pw_below_drewN | apply below_drew1) | exact HB.out)⟩

/-! ### pianolaref3_plain: function 30 -/
def pianolaref3_plain.f  : Option ((List (S50))) := some (([(⟨2, 0, 40, (⟨#[106]⟩ : ByteArray)⟩ : S50), (⟨3, 0, 41, (⟨#[106]⟩ : ByteArray)⟩ : S50), (⟨4, 0, 42, (⟨#[115, 116, 105]⟩ : ByteArray)⟩ : S50), (⟨5, 0, 43, (⟨#[115, 116, 105]⟩ : ByteArray)⟩ : S50), (⟨6, 0, 44, (⟨#[115, 105]⟩ : ByteArray)⟩ : S50), (⟨7, 0, 45, (⟨#[115, 105]⟩ : ByteArray)⟩ : S50), (⟨8, 0, 46, (⟨#[115, 116, 105]⟩ : ByteArray)⟩ : S50), (⟨9, 0, 47, (⟨#[115, 116, 105]⟩ : ByteArray)⟩ : S50), (⟨10, 0, 48, (⟨#[115, 116, 105]⟩ : ByteArray)⟩ : S50), (⟨11, 0, 49, (⟨#[115, 116, 105]⟩ : ByteArray)⟩ : S50), (⟨12, 0, 50, (⟨#[115, 116, 105]⟩ : ByteArray)⟩ : S50), (⟨13, 0, 51, (⟨#[115, 116, 105]⟩ : ByteArray)⟩ : S50), (⟨14, 0, 52, (⟨#[115, 116, 105]⟩ : ByteArray)⟩ : S50), (⟨15, 0, 53, (⟨#[116, 105]⟩ : ByteArray)⟩ : S50), (⟨17, 0, 62, (⟨#[]⟩ : ByteArray)⟩ : S50), (⟨32, 0, 66, (⟨#[115, 116, 105]⟩ : ByteArray)⟩ : S50), (⟨33, 0, 67, (⟨#[115, 116, 105]⟩ : ByteArray)⟩ : S50), (⟨35, 0, 68, (⟨#[115, 116, 105]⟩ : ByteArray)⟩ : S50), (⟨36, 0, 69, (⟨#[115, 116, 105]⟩ : ByteArray)⟩ : S50), (⟨37, 0, 70, (⟨#[115, 116, 105]⟩ : ByteArray)⟩ : S50), (⟨40, 0, 71, (⟨#[115, 116, 105]⟩ : ByteArray)⟩ : S50), (⟨41, 0, 72, (⟨#[115, 116, 105]⟩ : ByteArray)⟩ : S50), (⟨43, 0, 73, (⟨#[115, 116, 105]⟩ : ByteArray)⟩ : S50), (⟨47, 0, 76, (⟨#[]⟩ : ByteArray)⟩ : S50), (⟨48, 0, 74, (⟨#[115, 116, 105]⟩ : ByteArray)⟩ : S50), (⟨51, 0, 77, (⟨#[]⟩ : ByteArray)⟩ : S50), (⟨56, 0, 75, (⟨#[115, 116, 105]⟩ : ByteArray)⟩ : S50)] : List (S50)))
set_option maxHeartbeats 8000000 in
set_option maxRecDepth 100000 in
theorem pianolaref3_plain.calls  (r : List (S50)) (w : World) (h : pianolaref3_plain.f  = some r) :
    Calls Try.prog 30 #[] w fun e w' => ∃ v0_ : Value, e = .returned (v0_) ∧ Kd.R k50 50 w' w.heap.size (fun _ => True) v0_ r ∧ Below w.heap.size w w' := by
  have hu50 := Try.underlying50
  have HB := Aside0.mk (Below.refl w.heap.size w)
  have H : (some (([(⟨2, 0, 40, (⟨#[106]⟩ : ByteArray)⟩ : S50), (⟨3, 0, 41, (⟨#[106]⟩ : ByteArray)⟩ : S50), (⟨4, 0, 42, (⟨#[115, 116, 105]⟩ : ByteArray)⟩ : S50), (⟨5, 0, 43, (⟨#[115, 116, 105]⟩ : ByteArray)⟩ : S50), (⟨6, 0, 44, (⟨#[115, 105]⟩ : ByteArray)⟩ : S50), (⟨7, 0, 45, (⟨#[115, 105]⟩ : ByteArray)⟩ : S50), (⟨8, 0, 46, (⟨#[115, 116, 105]⟩ : ByteArray)⟩ : S50), (⟨9, 0, 47, (⟨#[115, 116, 105]⟩ : ByteArray)⟩ : S50), (⟨10, 0, 48, (⟨#[115, 116, 105]⟩ : ByteArray)⟩ : S50), (⟨11, 0, 49, (⟨#[115, 116, 105]⟩ : ByteArray)⟩ : S50), (⟨12, 0, 50, (⟨#[115, 116, 105]⟩ : ByteArray)⟩ : S50), (⟨13, 0, 51, (⟨#[115, 116, 105]⟩ : ByteArray)⟩ : S50), (⟨14, 0, 52, (⟨#[115, 116, 105]⟩ : ByteArray)⟩ : S50), (⟨15, 0, 53, (⟨#[116, 105]⟩ : ByteArray)⟩ : S50), (⟨17, 0, 62, (⟨#[]⟩ : ByteArray)⟩ : S50), (⟨32, 0, 66, (⟨#[115, 116, 105]⟩ : ByteArray)⟩ : S50), (⟨33, 0, 67, (⟨#[115, 116, 105]⟩ : ByteArray)⟩ : S50), (⟨35, 0, 68, (⟨#[115, 116, 105]⟩ : ByteArray)⟩ : S50), (⟨36, 0, 69, (⟨#[115, 116, 105]⟩ : ByteArray)⟩ : S50), (⟨37, 0, 70, (⟨#[115, 116, 105]⟩ : ByteArray)⟩ : S50), (⟨40, 0, 71, (⟨#[115, 116, 105]⟩ : ByteArray)⟩ : S50), (⟨41, 0, 72, (⟨#[115, 116, 105]⟩ : ByteArray)⟩ : S50), (⟨43, 0, 73, (⟨#[115, 116, 105]⟩ : ByteArray)⟩ : S50), (⟨47, 0, 76, (⟨#[]⟩ : ByteArray)⟩ : S50), (⟨48, 0, 74, (⟨#[115, 116, 105]⟩ : ByteArray)⟩ : S50), (⟨51, 0, 77, (⟨#[]⟩ : ByteArray)⟩ : S50), (⟨56, 0, 75, (⟨#[115, 116, 105]⟩ : ByteArray)⟩ : S50)] : List (S50)))) = some r := h
  clear h
  obtain ⟨y151, hy151⟩ : ∃ y_ : List (S50), y_ = (([(⟨2, 0, 40, (⟨#[106]⟩ : ByteArray)⟩ : S50), (⟨3, 0, 41, (⟨#[106]⟩ : ByteArray)⟩ : S50), (⟨4, 0, 42, (⟨#[115, 116, 105]⟩ : ByteArray)⟩ : S50), (⟨5, 0, 43, (⟨#[115, 116, 105]⟩ : ByteArray)⟩ : S50), (⟨6, 0, 44, (⟨#[115, 105]⟩ : ByteArray)⟩ : S50), (⟨7, 0, 45, (⟨#[115, 105]⟩ : ByteArray)⟩ : S50), (⟨8, 0, 46, (⟨#[115, 116, 105]⟩ : ByteArray)⟩ : S50), (⟨9, 0, 47, (⟨#[115, 116, 105]⟩ : ByteArray)⟩ : S50), (⟨10, 0, 48, (⟨#[115, 116, 105]⟩ : ByteArray)⟩ : S50), (⟨11, 0, 49, (⟨#[115, 116, 105]⟩ : ByteArray)⟩ : S50), (⟨12, 0, 50, (⟨#[115, 116, 105]⟩ : ByteArray)⟩ : S50), (⟨13, 0, 51, (⟨#[115, 116, 105]⟩ : ByteArray)⟩ : S50), (⟨14, 0, 52, (⟨#[115, 116, 105]⟩ : ByteArray)⟩ : S50), (⟨15, 0, 53, (⟨#[116, 105]⟩ : ByteArray)⟩ : S50), (⟨17, 0, 62, (⟨#[]⟩ : ByteArray)⟩ : S50), (⟨32, 0, 66, (⟨#[115, 116, 105]⟩ : ByteArray)⟩ : S50), (⟨33, 0, 67, (⟨#[115, 116, 105]⟩ : ByteArray)⟩ : S50), (⟨35, 0, 68, (⟨#[115, 116, 105]⟩ : ByteArray)⟩ : S50), (⟨36, 0, 69, (⟨#[115, 116, 105]⟩ : ByteArray)⟩ : S50), (⟨37, 0, 70, (⟨#[115, 116, 105]⟩ : ByteArray)⟩ : S50), (⟨40, 0, 71, (⟨#[115, 116, 105]⟩ : ByteArray)⟩ : S50), (⟨41, 0, 72, (⟨#[115, 116, 105]⟩ : ByteArray)⟩ : S50), (⟨43, 0, 73, (⟨#[115, 116, 105]⟩ : ByteArray)⟩ : S50), (⟨47, 0, 76, (⟨#[]⟩ : ByteArray)⟩ : S50), (⟨48, 0, 74, (⟨#[115, 116, 105]⟩ : ByteArray)⟩ : S50), (⟨51, 0, 77, (⟨#[]⟩ : ByteArray)⟩ : S50), (⟨56, 0, 75, (⟨#[115, 116, 105]⟩ : ByteArray)⟩ : S50)] : List (S50))) := ⟨_, rfl⟩
  replace H : (some y151) = some r := by first | (rw [hy151]; with_reducible exact H) | (have H2_ := (Option.bind_some _ _).symm.trans H; rw [hy151]; with_reducible exact H2_) | (have H2_ := (Option.bind_some _ _).symm.trans H; with_reducible exact H2_) | with_reducible exact H | (rw [hy151]; exact H) | exact H
  have Ny151 := Aside0.mk hy151
  clear hy151
  obtain rfl := Option.some.inj H
  go_enter Try.func30, Try.ntmps30
  go_wp2_with (first | ((with_reducible refine gate_dst (N := 28) rfl ?_); refine Kd.R_lit k50 _ 50 ?hg (N := 28) ?hd (xs := ([(⟨2, 0, 40, (⟨#[106]⟩ : ByteArray)⟩ : S50), (⟨3, 0, 41, (⟨#[106]⟩ : ByteArray)⟩ : S50), (⟨4, 0, 42, (⟨#[115, 116, 105]⟩ : ByteArray)⟩ : S50), (⟨5, 0, 43, (⟨#[115, 116, 105]⟩ : ByteArray)⟩ : S50), (⟨6, 0, 44, (⟨#[115, 105]⟩ : ByteArray)⟩ : S50), (⟨7, 0, 45, (⟨#[115, 105]⟩ : ByteArray)⟩ : S50), (⟨8, 0, 46, (⟨#[115, 116, 105]⟩ : ByteArray)⟩ : S50), (⟨9, 0, 47, (⟨#[115, 116, 105]⟩ : ByteArray)⟩ : S50), (⟨10, 0, 48, (⟨#[115, 116, 105]⟩ : ByteArray)⟩ : S50), (⟨11, 0, 49, (⟨#[115, 116, 105]⟩ : ByteArray)⟩ : S50), (⟨12, 0, 50, (⟨#[115, 116, 105]⟩ : ByteArray)⟩ : S50), (⟨13, 0, 51, (⟨#[115, 116, 105]⟩ : ByteArray)⟩ : S50), (⟨14, 0, 52, (⟨#[115, 116, 105]⟩ : ByteArray)⟩ : S50), (⟨15, 0, 53, (⟨#[116, 105]⟩ : ByteArray)⟩ : S50), (⟨17, 0, 62, (⟨#[]⟩ : ByteArray)⟩ : S50), (⟨32, 0, 66, (⟨#[115, 116, 105]⟩ : ByteArray)⟩ : S50), (⟨33, 0, 67, (⟨#[115, 116, 105]⟩ : ByteArray)⟩ : S50), (⟨35, 0, 68, (⟨#[115, 116, 105]⟩ : ByteArray)⟩ : S50), (⟨36, 0, 69, (⟨#[115, 116, 105]⟩ : ByteArray)⟩ : S50), (⟨37, 0, 70, (⟨#[115, 116, 105]⟩ : ByteArray)⟩ : S50), (⟨40, 0, 71, (⟨#[115, 116, 105]⟩ : ByteArray)⟩ : S50), (⟨41, 0, 72, (⟨#[115, 116, 105]⟩ : ByteArray)⟩ : S50), (⟨43, 0, 73, (⟨#[115, 116, 105]⟩ : ByteArray)⟩ : S50), (⟨47, 0, 76, (⟨#[]⟩ : ByteArray)⟩ : S50), (⟨48, 0, 74, (⟨#[115, 116, 105]⟩ : ByteArray)⟩ : S50), (⟨51, 0, 77, (⟨#[]⟩ : ByteArray)⟩ : S50), (⟨56, 0, 75, (⟨#[115, 116, 105]⟩ : ByteArray)⟩ : S50)] : List (S50))) (inner := [.int .i64 2, .int .i64 0, .int .i64 40, .string (⟨#[106]⟩ : ByteArray), .int .i64 3, .int .i64 0, .int .i64 41, .string (⟨#[106]⟩ : ByteArray), .int .i64 4, .int .i64 0, .int .i64 42, .string (⟨#[115, 116, 105]⟩ : ByteArray), .int .i64 5, .int .i64 0, .int .i64 43, .string (⟨#[115, 116, 105]⟩ : ByteArray), .int .i64 6, .int .i64 0, .int .i64 44, .string (⟨#[115, 105]⟩ : ByteArray), .int .i64 7, .int .i64 0, .int .i64 45, .string (⟨#[115, 105]⟩ : ByteArray), .int .i64 8, .int .i64 0, .int .i64 46, .string (⟨#[115, 116, 105]⟩ : ByteArray), .int .i64 9, .int .i64 0, .int .i64 47, .string (⟨#[115, 116, 105]⟩ : ByteArray), .int .i64 10, .int .i64 0, .int .i64 48, .string (⟨#[115, 116, 105]⟩ : ByteArray), .int .i64 11, .int .i64 0, .int .i64 49, .string (⟨#[115, 116, 105]⟩ : ByteArray), .int .i64 12, .int .i64 0, .int .i64 50, .string (⟨#[115, 116, 105]⟩ : ByteArray), .int .i64 13, .int .i64 0, .int .i64 51, .string (⟨#[115, 116, 105]⟩ : ByteArray), .int .i64 14, .int .i64 0, .int .i64 52, .string (⟨#[115, 116, 105]⟩ : ByteArray), .int .i64 15, .int .i64 0, .int .i64 53, .string (⟨#[116, 105]⟩ : ByteArray), .int .i64 17, .int .i64 0, .int .i64 62, .string (⟨#[]⟩ : ByteArray), .int .i64 32, .int .i64 0, .int .i64 66, .string (⟨#[115, 116, 105]⟩ : ByteArray), .int .i64 33, .int .i64 0, .int .i64 67, .string (⟨#[115, 116, 105]⟩ : ByteArray), .int .i64 35, .int .i64 0, .int .i64 68, .string (⟨#[115, 116, 105]⟩ : ByteArray), .int .i64 36, .int .i64 0, .int .i64 69, .string (⟨#[115, 116, 105]⟩ : ByteArray), .int .i64 37, .int .i64 0, .int .i64 70, .string (⟨#[115, 116, 105]⟩ : ByteArray), .int .i64 40, .int .i64 0, .int .i64 71, .string (⟨#[115, 116, 105]⟩ : ByteArray), .int .i64 41, .int .i64 0, .int .i64 72, .string (⟨#[115, 116, 105]⟩ : ByteArray), .int .i64 43, .int .i64 0, .int .i64 73, .string (⟨#[115, 116, 105]⟩ : ByteArray), .int .i64 47, .int .i64 0, .int .i64 76, .string (⟨#[]⟩ : ByteArray), .int .i64 48, .int .i64 0, .int .i64 74, .string (⟨#[115, 116, 105]⟩ : ByteArray), .int .i64 51, .int .i64 0, .int .i64 77, .string (⟨#[]⟩ : ByteArray), .int .i64 56, .int .i64 0, .int .i64 75, .string (⟨#[115, 116, 105]⟩ : ByteArray)]) (ok := fun _ => True) (okp := fun _ => True) ?hr ?hp (fun _ hk => hk) trivial (Below.refl _ _) (Nat.le_refl _) (by simp) ?_; (case hd => rfl); (case hg => rfl); (case hr => first | (go_simp; done) | (go_simp; rfl)); (case hp => exact (Reps.c4 (show Kd.M k50 _ _ _ (⟨2, 0, 40, (⟨#[106]⟩ : ByteArray)⟩ : S50) [.int .i64 2, .int .i64 0, .int .i64 40, .string (⟨#[106]⟩ : ByteArray)] from (k50_mkM _ _ _ (⟨2, 0, 40, (⟨#[106]⟩ : ByteArray)⟩ : S50) )) (Reps.c4 (show Kd.M k50 _ _ _ (⟨3, 0, 41, (⟨#[106]⟩ : ByteArray)⟩ : S50) [.int .i64 3, .int .i64 0, .int .i64 41, .string (⟨#[106]⟩ : ByteArray)] from (k50_mkM _ _ _ (⟨3, 0, 41, (⟨#[106]⟩ : ByteArray)⟩ : S50) )) (Reps.c4 (show Kd.M k50 _ _ _ (⟨4, 0, 42, (⟨#[115, 116, 105]⟩ : ByteArray)⟩ : S50) [.int .i64 4, .int .i64 0, .int .i64 42, .string (⟨#[115, 116, 105]⟩ : ByteArray)] from (k50_mkM _ _ _ (⟨4, 0, 42, (⟨#[115, 116, 105]⟩ : ByteArray)⟩ : S50) )) (Reps.c4 (show Kd.M k50 _ _ _ (⟨5, 0, 43, (⟨#[115, 116, 105]⟩ : ByteArray)⟩ : S50) [.int .i64 5, .int .i64 0, .int .i64 43, .string (⟨#[115, 116, 105]⟩ : ByteArray)] from (k50_mkM _ _ _ (⟨5, 0, 43, (⟨#[115, 116, 105]⟩ : ByteArray)⟩ : S50) )) (Reps.c4 (show Kd.M k50 _ _ _ (⟨6, 0, 44, (⟨#[115, 105]⟩ : ByteArray)⟩ : S50) [.int .i64 6, .int .i64 0, .int .i64 44, .string (⟨#[115, 105]⟩ : ByteArray)] from (k50_mkM _ _ _ (⟨6, 0, 44, (⟨#[115, 105]⟩ : ByteArray)⟩ : S50) )) (Reps.c4 (show Kd.M k50 _ _ _ (⟨7, 0, 45, (⟨#[115, 105]⟩ : ByteArray)⟩ : S50) [.int .i64 7, .int .i64 0, .int .i64 45, .string (⟨#[115, 105]⟩ : ByteArray)] from (k50_mkM _ _ _ (⟨7, 0, 45, (⟨#[115, 105]⟩ : ByteArray)⟩ : S50) )) (Reps.c4 (show Kd.M k50 _ _ _ (⟨8, 0, 46, (⟨#[115, 116, 105]⟩ : ByteArray)⟩ : S50) [.int .i64 8, .int .i64 0, .int .i64 46, .string (⟨#[115, 116, 105]⟩ : ByteArray)] from (k50_mkM _ _ _ (⟨8, 0, 46, (⟨#[115, 116, 105]⟩ : ByteArray)⟩ : S50) )) (Reps.c4 (show Kd.M k50 _ _ _ (⟨9, 0, 47, (⟨#[115, 116, 105]⟩ : ByteArray)⟩ : S50) [.int .i64 9, .int .i64 0, .int .i64 47, .string (⟨#[115, 116, 105]⟩ : ByteArray)] from (k50_mkM _ _ _ (⟨9, 0, 47, (⟨#[115, 116, 105]⟩ : ByteArray)⟩ : S50) )) (Reps.c4 (show Kd.M k50 _ _ _ (⟨10, 0, 48, (⟨#[115, 116, 105]⟩ : ByteArray)⟩ : S50) [.int .i64 10, .int .i64 0, .int .i64 48, .string (⟨#[115, 116, 105]⟩ : ByteArray)] from (k50_mkM _ _ _ (⟨10, 0, 48, (⟨#[115, 116, 105]⟩ : ByteArray)⟩ : S50) )) (Reps.c4 (show Kd.M k50 _ _ _ (⟨11, 0, 49, (⟨#[115, 116, 105]⟩ : ByteArray)⟩ : S50) [.int .i64 11, .int .i64 0, .int .i64 49, .string (⟨#[115, 116, 105]⟩ : ByteArray)] from (k50_mkM _ _ _ (⟨11, 0, 49, (⟨#[115, 116, 105]⟩ : ByteArray)⟩ : S50) )) (Reps.c4 (show Kd.M k50 _ _ _ (⟨12, 0, 50, (⟨#[115, 116, 105]⟩ : ByteArray)⟩ : S50) [.int .i64 12, .int .i64 0, .int .i64 50, .string (⟨#[115, 116, 105]⟩ : ByteArray)] from (k50_mkM _ _ _ (⟨12, 0, 50, (⟨#[115, 116, 105]⟩ : ByteArray)⟩ : S50) )) (Reps.c4 (show Kd.M k50 _ _ _ (⟨13, 0, 51, (⟨#[115, 116, 105]⟩ : ByteArray)⟩ : S50) [.int .i64 13, .int .i64 0, .int .i64 51, .string (⟨#[115, 116, 105]⟩ : ByteArray)] from (k50_mkM _ _ _ (⟨13, 0, 51, (⟨#[115, 116, 105]⟩ : ByteArray)⟩ : S50) )) (Reps.c4 (show Kd.M k50 _ _ _ (⟨14, 0, 52, (⟨#[115, 116, 105]⟩ : ByteArray)⟩ : S50) [.int .i64 14, .int .i64 0, .int .i64 52, .string (⟨#[115, 116, 105]⟩ : ByteArray)] from (k50_mkM _ _ _ (⟨14, 0, 52, (⟨#[115, 116, 105]⟩ : ByteArray)⟩ : S50) )) (Reps.c4 (show Kd.M k50 _ _ _ (⟨15, 0, 53, (⟨#[116, 105]⟩ : ByteArray)⟩ : S50) [.int .i64 15, .int .i64 0, .int .i64 53, .string (⟨#[116, 105]⟩ : ByteArray)] from (k50_mkM _ _ _ (⟨15, 0, 53, (⟨#[116, 105]⟩ : ByteArray)⟩ : S50) )) (Reps.c4 (show Kd.M k50 _ _ _ (⟨17, 0, 62, (⟨#[]⟩ : ByteArray)⟩ : S50) [.int .i64 17, .int .i64 0, .int .i64 62, .string (⟨#[]⟩ : ByteArray)] from (k50_mkM _ _ _ (⟨17, 0, 62, (⟨#[]⟩ : ByteArray)⟩ : S50) )) (Reps.c4 (show Kd.M k50 _ _ _ (⟨32, 0, 66, (⟨#[115, 116, 105]⟩ : ByteArray)⟩ : S50) [.int .i64 32, .int .i64 0, .int .i64 66, .string (⟨#[115, 116, 105]⟩ : ByteArray)] from (k50_mkM _ _ _ (⟨32, 0, 66, (⟨#[115, 116, 105]⟩ : ByteArray)⟩ : S50) )) (Reps.c4 (show Kd.M k50 _ _ _ (⟨33, 0, 67, (⟨#[115, 116, 105]⟩ : ByteArray)⟩ : S50) [.int .i64 33, .int .i64 0, .int .i64 67, .string (⟨#[115, 116, 105]⟩ : ByteArray)] from (k50_mkM _ _ _ (⟨33, 0, 67, (⟨#[115, 116, 105]⟩ : ByteArray)⟩ : S50) )) (Reps.c4 (show Kd.M k50 _ _ _ (⟨35, 0, 68, (⟨#[115, 116, 105]⟩ : ByteArray)⟩ : S50) [.int .i64 35, .int .i64 0, .int .i64 68, .string (⟨#[115, 116, 105]⟩ : ByteArray)] from (k50_mkM _ _ _ (⟨35, 0, 68, (⟨#[115, 116, 105]⟩ : ByteArray)⟩ : S50) )) (Reps.c4 (show Kd.M k50 _ _ _ (⟨36, 0, 69, (⟨#[115, 116, 105]⟩ : ByteArray)⟩ : S50) [.int .i64 36, .int .i64 0, .int .i64 69, .string (⟨#[115, 116, 105]⟩ : ByteArray)] from (k50_mkM _ _ _ (⟨36, 0, 69, (⟨#[115, 116, 105]⟩ : ByteArray)⟩ : S50) )) (Reps.c4 (show Kd.M k50 _ _ _ (⟨37, 0, 70, (⟨#[115, 116, 105]⟩ : ByteArray)⟩ : S50) [.int .i64 37, .int .i64 0, .int .i64 70, .string (⟨#[115, 116, 105]⟩ : ByteArray)] from (k50_mkM _ _ _ (⟨37, 0, 70, (⟨#[115, 116, 105]⟩ : ByteArray)⟩ : S50) )) (Reps.c4 (show Kd.M k50 _ _ _ (⟨40, 0, 71, (⟨#[115, 116, 105]⟩ : ByteArray)⟩ : S50) [.int .i64 40, .int .i64 0, .int .i64 71, .string (⟨#[115, 116, 105]⟩ : ByteArray)] from (k50_mkM _ _ _ (⟨40, 0, 71, (⟨#[115, 116, 105]⟩ : ByteArray)⟩ : S50) )) (Reps.c4 (show Kd.M k50 _ _ _ (⟨41, 0, 72, (⟨#[115, 116, 105]⟩ : ByteArray)⟩ : S50) [.int .i64 41, .int .i64 0, .int .i64 72, .string (⟨#[115, 116, 105]⟩ : ByteArray)] from (k50_mkM _ _ _ (⟨41, 0, 72, (⟨#[115, 116, 105]⟩ : ByteArray)⟩ : S50) )) (Reps.c4 (show Kd.M k50 _ _ _ (⟨43, 0, 73, (⟨#[115, 116, 105]⟩ : ByteArray)⟩ : S50) [.int .i64 43, .int .i64 0, .int .i64 73, .string (⟨#[115, 116, 105]⟩ : ByteArray)] from (k50_mkM _ _ _ (⟨43, 0, 73, (⟨#[115, 116, 105]⟩ : ByteArray)⟩ : S50) )) (Reps.c4 (show Kd.M k50 _ _ _ (⟨47, 0, 76, (⟨#[]⟩ : ByteArray)⟩ : S50) [.int .i64 47, .int .i64 0, .int .i64 76, .string (⟨#[]⟩ : ByteArray)] from (k50_mkM _ _ _ (⟨47, 0, 76, (⟨#[]⟩ : ByteArray)⟩ : S50) )) (Reps.c4 (show Kd.M k50 _ _ _ (⟨48, 0, 74, (⟨#[115, 116, 105]⟩ : ByteArray)⟩ : S50) [.int .i64 48, .int .i64 0, .int .i64 74, .string (⟨#[115, 116, 105]⟩ : ByteArray)] from (k50_mkM _ _ _ (⟨48, 0, 74, (⟨#[115, 116, 105]⟩ : ByteArray)⟩ : S50) )) (Reps.c4 (show Kd.M k50 _ _ _ (⟨51, 0, 77, (⟨#[]⟩ : ByteArray)⟩ : S50) [.int .i64 51, .int .i64 0, .int .i64 77, .string (⟨#[]⟩ : ByteArray)] from (k50_mkM _ _ _ (⟨51, 0, 77, (⟨#[]⟩ : ByteArray)⟩ : S50) )) (Reps.c4 (show Kd.M k50 _ _ _ (⟨56, 0, 75, (⟨#[115, 116, 105]⟩ : ByteArray)⟩ : S50) [.int .i64 56, .int .i64 0, .int .i64 75, .string (⟨#[115, 116, 105]⟩ : ByteArray)] from (k50_mkM _ _ _ (⟨56, 0, 75, (⟨#[115, 116, 105]⟩ : ByteArray)⟩ : S50) )) (Reps.none _ _))))))))))))))))))))))))))))); intro v152 w1 ho2 hb hg_ hnew_; clear hg_ hnew_; (first | rw [← Ny151.out] at ho2 | (simp only [Int.reduceToNat] at ho2; rw [← Ny151.out] at ho2)); have n0_ := Aside0.mk (Kd.R_lower ho2 (below_size (by repeat (first | (with_reducible first | exact HB.out | apply below_alloc | apply pw_below_drewN | apply below_drew1) | exact HB.out)))); have n1_ := Aside0.mk (below_step (by repeat (first | (with_reducible first | exact HB.out | apply below_alloc | apply pw_below_drewN | apply below_drew1) | exact HB.out)) hb); clear HB; have HO153 := n0_; have HB := n1_; clear n0_ n1_; clear hb ho2))
  go_ret
  exact ⟨_, by first | rfl | (simp [errW_none, errW_some] <;> rfl) | (simp [*, errW_none, errW_some] <;> rfl), by (with_reducible repeat (first | apply Kd.R_alloc | apply Kd.R_drewN | apply Kd.R_drew)); exact HO153.out, by repeat (first | (with_reducible first | exact HB.out | apply below_alloc | apply pw_below_drewN | apply below_drew1) | exact HB.out)⟩

/-! ### pianolaref3_others: function 31 -/
def pianolaref3_others.f  : Option ((List (S50))) := some (([(⟨1, 0, 36, (⟨#[115, 105]⟩ : ByteArray)⟩ : S50), (⟨1, 1, 37, (⟨#[115, 105]⟩ : ByteArray)⟩ : S50), (⟨1, 16, 38, (⟨#[115, 105]⟩ : ByteArray)⟩ : S50), (⟨1, 17, 39, (⟨#[115, 105]⟩ : ByteArray)⟩ : S50), (⟨16, 0, 54, (⟨#[116, 100]⟩ : ByteArray)⟩ : S50), (⟨16, 4, 55, (⟨#[116, 100]⟩ : ByteArray)⟩ : S50), (⟨16, 65, 56, (⟨#[]⟩ : ByteArray)⟩ : S50), (⟨16, 66, 57, (⟨#[]⟩ : ByteArray)⟩ : S50), (⟨16, 70, 58, (⟨#[]⟩ : ByteArray)⟩ : S50), (⟨16, 72, 59, (⟨#[]⟩ : ByteArray)⟩ : S50), (⟨16, 88, 60, (⟨#[]⟩ : ByteArray)⟩ : S50), (⟨16, 96, 61, (⟨#[]⟩ : ByteArray)⟩ : S50), (⟨28, 2, 63, (⟨#[115, 116, 100]⟩ : ByteArray)⟩ : S50), (⟨28, 32, 64, (⟨#[115, 100]⟩ : ByteArray)⟩ : S50), (⟨28, 33, 65, (⟨#[115, 100]⟩ : ByteArray)⟩ : S50)] : List (S50)))
set_option maxHeartbeats 8000000 in
set_option maxRecDepth 100000 in
theorem pianolaref3_others.calls  (r : List (S50)) (w : World) (h : pianolaref3_others.f  = some r) :
    Calls Try.prog 31 #[] w fun e w' => ∃ v0_ : Value, e = .returned (v0_) ∧ Kd.R k50 50 w' w.heap.size (fun _ => True) v0_ r ∧ Below w.heap.size w w' := by
  have hu50 := Try.underlying50
  have HB := Aside0.mk (Below.refl w.heap.size w)
  have H : (some (([(⟨1, 0, 36, (⟨#[115, 105]⟩ : ByteArray)⟩ : S50), (⟨1, 1, 37, (⟨#[115, 105]⟩ : ByteArray)⟩ : S50), (⟨1, 16, 38, (⟨#[115, 105]⟩ : ByteArray)⟩ : S50), (⟨1, 17, 39, (⟨#[115, 105]⟩ : ByteArray)⟩ : S50), (⟨16, 0, 54, (⟨#[116, 100]⟩ : ByteArray)⟩ : S50), (⟨16, 4, 55, (⟨#[116, 100]⟩ : ByteArray)⟩ : S50), (⟨16, 65, 56, (⟨#[]⟩ : ByteArray)⟩ : S50), (⟨16, 66, 57, (⟨#[]⟩ : ByteArray)⟩ : S50), (⟨16, 70, 58, (⟨#[]⟩ : ByteArray)⟩ : S50), (⟨16, 72, 59, (⟨#[]⟩ : ByteArray)⟩ : S50), (⟨16, 88, 60, (⟨#[]⟩ : ByteArray)⟩ : S50), (⟨16, 96, 61, (⟨#[]⟩ : ByteArray)⟩ : S50), (⟨28, 2, 63, (⟨#[115, 116, 100]⟩ : ByteArray)⟩ : S50), (⟨28, 32, 64, (⟨#[115, 100]⟩ : ByteArray)⟩ : S50), (⟨28, 33, 65, (⟨#[115, 100]⟩ : ByteArray)⟩ : S50)] : List (S50)))) = some r := h
  clear h
  obtain ⟨y154, hy154⟩ : ∃ y_ : List (S50), y_ = (([(⟨1, 0, 36, (⟨#[115, 105]⟩ : ByteArray)⟩ : S50), (⟨1, 1, 37, (⟨#[115, 105]⟩ : ByteArray)⟩ : S50), (⟨1, 16, 38, (⟨#[115, 105]⟩ : ByteArray)⟩ : S50), (⟨1, 17, 39, (⟨#[115, 105]⟩ : ByteArray)⟩ : S50), (⟨16, 0, 54, (⟨#[116, 100]⟩ : ByteArray)⟩ : S50), (⟨16, 4, 55, (⟨#[116, 100]⟩ : ByteArray)⟩ : S50), (⟨16, 65, 56, (⟨#[]⟩ : ByteArray)⟩ : S50), (⟨16, 66, 57, (⟨#[]⟩ : ByteArray)⟩ : S50), (⟨16, 70, 58, (⟨#[]⟩ : ByteArray)⟩ : S50), (⟨16, 72, 59, (⟨#[]⟩ : ByteArray)⟩ : S50), (⟨16, 88, 60, (⟨#[]⟩ : ByteArray)⟩ : S50), (⟨16, 96, 61, (⟨#[]⟩ : ByteArray)⟩ : S50), (⟨28, 2, 63, (⟨#[115, 116, 100]⟩ : ByteArray)⟩ : S50), (⟨28, 32, 64, (⟨#[115, 100]⟩ : ByteArray)⟩ : S50), (⟨28, 33, 65, (⟨#[115, 100]⟩ : ByteArray)⟩ : S50)] : List (S50))) := ⟨_, rfl⟩
  replace H : (some y154) = some r := by first | (rw [hy154]; with_reducible exact H) | (have H2_ := (Option.bind_some _ _).symm.trans H; rw [hy154]; with_reducible exact H2_) | (have H2_ := (Option.bind_some _ _).symm.trans H; with_reducible exact H2_) | with_reducible exact H | (rw [hy154]; exact H) | exact H
  have Ny154 := Aside0.mk hy154
  clear hy154
  obtain rfl := Option.some.inj H
  go_enter Try.func31, Try.ntmps31
  go_wp2_with (first | ((with_reducible refine gate_dst (N := 16) rfl ?_); refine Kd.R_lit k50 _ 50 ?hg (N := 16) ?hd (xs := ([(⟨1, 0, 36, (⟨#[115, 105]⟩ : ByteArray)⟩ : S50), (⟨1, 1, 37, (⟨#[115, 105]⟩ : ByteArray)⟩ : S50), (⟨1, 16, 38, (⟨#[115, 105]⟩ : ByteArray)⟩ : S50), (⟨1, 17, 39, (⟨#[115, 105]⟩ : ByteArray)⟩ : S50), (⟨16, 0, 54, (⟨#[116, 100]⟩ : ByteArray)⟩ : S50), (⟨16, 4, 55, (⟨#[116, 100]⟩ : ByteArray)⟩ : S50), (⟨16, 65, 56, (⟨#[]⟩ : ByteArray)⟩ : S50), (⟨16, 66, 57, (⟨#[]⟩ : ByteArray)⟩ : S50), (⟨16, 70, 58, (⟨#[]⟩ : ByteArray)⟩ : S50), (⟨16, 72, 59, (⟨#[]⟩ : ByteArray)⟩ : S50), (⟨16, 88, 60, (⟨#[]⟩ : ByteArray)⟩ : S50), (⟨16, 96, 61, (⟨#[]⟩ : ByteArray)⟩ : S50), (⟨28, 2, 63, (⟨#[115, 116, 100]⟩ : ByteArray)⟩ : S50), (⟨28, 32, 64, (⟨#[115, 100]⟩ : ByteArray)⟩ : S50), (⟨28, 33, 65, (⟨#[115, 100]⟩ : ByteArray)⟩ : S50)] : List (S50))) (inner := [.int .i64 1, .int .i64 0, .int .i64 36, .string (⟨#[115, 105]⟩ : ByteArray), .int .i64 1, .int .i64 1, .int .i64 37, .string (⟨#[115, 105]⟩ : ByteArray), .int .i64 1, .int .i64 16, .int .i64 38, .string (⟨#[115, 105]⟩ : ByteArray), .int .i64 1, .int .i64 17, .int .i64 39, .string (⟨#[115, 105]⟩ : ByteArray), .int .i64 16, .int .i64 0, .int .i64 54, .string (⟨#[116, 100]⟩ : ByteArray), .int .i64 16, .int .i64 4, .int .i64 55, .string (⟨#[116, 100]⟩ : ByteArray), .int .i64 16, .int .i64 65, .int .i64 56, .string (⟨#[]⟩ : ByteArray), .int .i64 16, .int .i64 66, .int .i64 57, .string (⟨#[]⟩ : ByteArray), .int .i64 16, .int .i64 70, .int .i64 58, .string (⟨#[]⟩ : ByteArray), .int .i64 16, .int .i64 72, .int .i64 59, .string (⟨#[]⟩ : ByteArray), .int .i64 16, .int .i64 88, .int .i64 60, .string (⟨#[]⟩ : ByteArray), .int .i64 16, .int .i64 96, .int .i64 61, .string (⟨#[]⟩ : ByteArray), .int .i64 28, .int .i64 2, .int .i64 63, .string (⟨#[115, 116, 100]⟩ : ByteArray), .int .i64 28, .int .i64 32, .int .i64 64, .string (⟨#[115, 100]⟩ : ByteArray), .int .i64 28, .int .i64 33, .int .i64 65, .string (⟨#[115, 100]⟩ : ByteArray)]) (ok := fun _ => True) (okp := fun _ => True) ?hr ?hp (fun _ hk => hk) trivial (Below.refl _ _) (Nat.le_refl _) (by simp) ?_; (case hd => rfl); (case hg => rfl); (case hr => first | (go_simp; done) | (go_simp; rfl)); (case hp => exact (Reps.c4 (show Kd.M k50 _ _ _ (⟨1, 0, 36, (⟨#[115, 105]⟩ : ByteArray)⟩ : S50) [.int .i64 1, .int .i64 0, .int .i64 36, .string (⟨#[115, 105]⟩ : ByteArray)] from (k50_mkM _ _ _ (⟨1, 0, 36, (⟨#[115, 105]⟩ : ByteArray)⟩ : S50) )) (Reps.c4 (show Kd.M k50 _ _ _ (⟨1, 1, 37, (⟨#[115, 105]⟩ : ByteArray)⟩ : S50) [.int .i64 1, .int .i64 1, .int .i64 37, .string (⟨#[115, 105]⟩ : ByteArray)] from (k50_mkM _ _ _ (⟨1, 1, 37, (⟨#[115, 105]⟩ : ByteArray)⟩ : S50) )) (Reps.c4 (show Kd.M k50 _ _ _ (⟨1, 16, 38, (⟨#[115, 105]⟩ : ByteArray)⟩ : S50) [.int .i64 1, .int .i64 16, .int .i64 38, .string (⟨#[115, 105]⟩ : ByteArray)] from (k50_mkM _ _ _ (⟨1, 16, 38, (⟨#[115, 105]⟩ : ByteArray)⟩ : S50) )) (Reps.c4 (show Kd.M k50 _ _ _ (⟨1, 17, 39, (⟨#[115, 105]⟩ : ByteArray)⟩ : S50) [.int .i64 1, .int .i64 17, .int .i64 39, .string (⟨#[115, 105]⟩ : ByteArray)] from (k50_mkM _ _ _ (⟨1, 17, 39, (⟨#[115, 105]⟩ : ByteArray)⟩ : S50) )) (Reps.c4 (show Kd.M k50 _ _ _ (⟨16, 0, 54, (⟨#[116, 100]⟩ : ByteArray)⟩ : S50) [.int .i64 16, .int .i64 0, .int .i64 54, .string (⟨#[116, 100]⟩ : ByteArray)] from (k50_mkM _ _ _ (⟨16, 0, 54, (⟨#[116, 100]⟩ : ByteArray)⟩ : S50) )) (Reps.c4 (show Kd.M k50 _ _ _ (⟨16, 4, 55, (⟨#[116, 100]⟩ : ByteArray)⟩ : S50) [.int .i64 16, .int .i64 4, .int .i64 55, .string (⟨#[116, 100]⟩ : ByteArray)] from (k50_mkM _ _ _ (⟨16, 4, 55, (⟨#[116, 100]⟩ : ByteArray)⟩ : S50) )) (Reps.c4 (show Kd.M k50 _ _ _ (⟨16, 65, 56, (⟨#[]⟩ : ByteArray)⟩ : S50) [.int .i64 16, .int .i64 65, .int .i64 56, .string (⟨#[]⟩ : ByteArray)] from (k50_mkM _ _ _ (⟨16, 65, 56, (⟨#[]⟩ : ByteArray)⟩ : S50) )) (Reps.c4 (show Kd.M k50 _ _ _ (⟨16, 66, 57, (⟨#[]⟩ : ByteArray)⟩ : S50) [.int .i64 16, .int .i64 66, .int .i64 57, .string (⟨#[]⟩ : ByteArray)] from (k50_mkM _ _ _ (⟨16, 66, 57, (⟨#[]⟩ : ByteArray)⟩ : S50) )) (Reps.c4 (show Kd.M k50 _ _ _ (⟨16, 70, 58, (⟨#[]⟩ : ByteArray)⟩ : S50) [.int .i64 16, .int .i64 70, .int .i64 58, .string (⟨#[]⟩ : ByteArray)] from (k50_mkM _ _ _ (⟨16, 70, 58, (⟨#[]⟩ : ByteArray)⟩ : S50) )) (Reps.c4 (show Kd.M k50 _ _ _ (⟨16, 72, 59, (⟨#[]⟩ : ByteArray)⟩ : S50) [.int .i64 16, .int .i64 72, .int .i64 59, .string (⟨#[]⟩ : ByteArray)] from (k50_mkM _ _ _ (⟨16, 72, 59, (⟨#[]⟩ : ByteArray)⟩ : S50) )) (Reps.c4 (show Kd.M k50 _ _ _ (⟨16, 88, 60, (⟨#[]⟩ : ByteArray)⟩ : S50) [.int .i64 16, .int .i64 88, .int .i64 60, .string (⟨#[]⟩ : ByteArray)] from (k50_mkM _ _ _ (⟨16, 88, 60, (⟨#[]⟩ : ByteArray)⟩ : S50) )) (Reps.c4 (show Kd.M k50 _ _ _ (⟨16, 96, 61, (⟨#[]⟩ : ByteArray)⟩ : S50) [.int .i64 16, .int .i64 96, .int .i64 61, .string (⟨#[]⟩ : ByteArray)] from (k50_mkM _ _ _ (⟨16, 96, 61, (⟨#[]⟩ : ByteArray)⟩ : S50) )) (Reps.c4 (show Kd.M k50 _ _ _ (⟨28, 2, 63, (⟨#[115, 116, 100]⟩ : ByteArray)⟩ : S50) [.int .i64 28, .int .i64 2, .int .i64 63, .string (⟨#[115, 116, 100]⟩ : ByteArray)] from (k50_mkM _ _ _ (⟨28, 2, 63, (⟨#[115, 116, 100]⟩ : ByteArray)⟩ : S50) )) (Reps.c4 (show Kd.M k50 _ _ _ (⟨28, 32, 64, (⟨#[115, 100]⟩ : ByteArray)⟩ : S50) [.int .i64 28, .int .i64 32, .int .i64 64, .string (⟨#[115, 100]⟩ : ByteArray)] from (k50_mkM _ _ _ (⟨28, 32, 64, (⟨#[115, 100]⟩ : ByteArray)⟩ : S50) )) (Reps.c4 (show Kd.M k50 _ _ _ (⟨28, 33, 65, (⟨#[115, 100]⟩ : ByteArray)⟩ : S50) [.int .i64 28, .int .i64 33, .int .i64 65, .string (⟨#[115, 100]⟩ : ByteArray)] from (k50_mkM _ _ _ (⟨28, 33, 65, (⟨#[115, 100]⟩ : ByteArray)⟩ : S50) )) (Reps.none _ _))))))))))))))))); intro v155 w1 ho2 hb hg_ hnew_; clear hg_ hnew_; (first | rw [← Ny154.out] at ho2 | (simp only [Int.reduceToNat] at ho2; rw [← Ny154.out] at ho2)); have n0_ := Aside0.mk (Kd.R_lower ho2 (below_size (by repeat (first | (with_reducible first | exact HB.out | apply below_alloc | apply pw_below_drewN | apply below_drew1) | exact HB.out)))); have n1_ := Aside0.mk (below_step (by repeat (first | (with_reducible first | exact HB.out | apply below_alloc | apply pw_below_drewN | apply below_drew1) | exact HB.out)) hb); clear HB; have HO156 := n0_; have HB := n1_; clear n0_ n1_; clear hb ho2))
  go_ret
  exact ⟨_, by first | rfl | (simp [errW_none, errW_some] <;> rfl) | (simp [*, errW_none, errW_some] <;> rfl), by (with_reducible repeat (first | apply Kd.R_alloc | apply Kd.R_drewN | apply Kd.R_drew)); exact HO156.out, by repeat (first | (with_reducible first | exact HB.out | apply below_alloc | apply pw_below_drewN | apply below_drew1) | exact HB.out)⟩

end Go.Proofs.Ytchpcjdhflbikaa.Q
