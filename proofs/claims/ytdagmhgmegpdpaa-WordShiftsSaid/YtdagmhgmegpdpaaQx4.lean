-- Written by a program of this session: a turned copy of the kit's print (wip/print/fork.py), whose words lie beside.
import Derived.Test.YtdagmhgmegpdpaaQx0
import Derived.Test.YtdagmhgmegpdpaaQx1
import Derived.Test.YtdagmhgmegpdpaaQx3
namespace Go.Proofs.Ytdagmhgmegpdpaa.Q
open Go.RowKit Go.Proofs.YtdagmhgmegpdpaaW.PrintWords Go.Proofs.YtdagmhgmegpdpaaW.PrintLast Go.Proofs.YtdagmhgmegpdpaaW.PrintMore
attribute [local go_sem] max2_int min2_int max_two min_two max_three min_three max_four min_four   -- for this text's walks alone
set_option linter.unusedVariables false
set_option linter.unusedSimpArgs false

/-! ### pianolalaw1_WordTells: function 7 -/
def pianolalaw1_WordTells.f (k : Nat) (a0 : Int) (a1 : Int) (a2 : Int) (a3 : Int) (a4 : Int) : Option (Bool) := (pianolalaw1_same.f k a0 a1 a2).bind fun t176 => (if t176 = true then ((pianolalaw1_edge.f a3).bind fun t177 => ((pianolalaw1_same.f k t177 a1 a2).bind fun t178 => (if t178 = true then ((pianolalaw1_edge.f a4).bind fun t179 => ((pianolalaw1_same.f k a0 t179 a2).bind fun t180 => (if t180 = true then (if 0 ≤ (IntKind.u64.wrap (Go.bits .and .i64 a2 31)) then (if 0 ≤ (IntKind.u64.wrap (Go.bits .and .i64 a3 31)) then ((pianolalaw1_same.f k (shr .u32 a0 (IntKind.u64.wrap (Go.bits .and .i64 a2 31))) (shr .u32 a1 (IntKind.u64.wrap (Go.bits .and .i64 a3 31))) a4).bind fun t181 => (if t181 = true then ((pianolalaw1_known.f).bind fun t182 => (some t182)) else (some false))) else (none)) else (none)) else (some false)))) else (some false)))) else (some false))
theorem pianolalaw1_WordTells.mono : ∀ a0 a1 a2 a3 a4 k, LeO (pianolalaw1_WordTells.f k a0 a1 a2 a3 a4) (pianolalaw1_WordTells.f (k + 1) a0 a1 a2 a3 a4) := by
  intro a0 a1 a2 a3 a4 k
  unfold pianolalaw1_WordTells.f
  repeat' first
      | (with_reducible exact pianolalaw1_same.mono _ _ _ _)
      | (with_reducible exact LeO.refl _)
      | (with_reducible exact LeO.none _)
      | (with_reducible refine LeO.ite ?_ ?_)
      | (with_reducible refine LeO.bind ?_ (fun _ => ?_))
      | exact pianolalaw1_same.mono _ _ _ _
      | exact LeO.none _
      | refine LeO.ite ?_ ?_
      | refine LeO.bind ?_ (fun _ => ?_)
set_option maxHeartbeats 8000000 in
set_option maxRecDepth 100000 in
theorem pianolalaw1_WordTells.calls (k : Nat) (a0 : Int) (a1 : Int) (a2 : Int) (a3 : Int) (a4 : Int) (r : Bool) (w : World) (h : pianolalaw1_WordTells.f k a0 a1 a2 a3 a4 = some r) :
    Calls Try.prog 7 #[.int .u32 a0, .int .u32 a1, .int .i64 a2, .int .i64 a3, .int .i64 a4] w fun e w' => e = .returned (.bool r) ∧ Below w.heap.size w w' := by
  have HB := Aside0.mk (Below.refl w.heap.size w)
  have H : ((pianolalaw1_same.f k a0 a1 a2).bind fun t176 => (if t176 = true then ((pianolalaw1_edge.f a3).bind fun t177 => ((pianolalaw1_same.f k t177 a1 a2).bind fun t178 => (if t178 = true then ((pianolalaw1_edge.f a4).bind fun t179 => ((pianolalaw1_same.f k a0 t179 a2).bind fun t180 => (if t180 = true then (if 0 ≤ (IntKind.u64.wrap (Go.bits .and .i64 a2 31)) then (if 0 ≤ (IntKind.u64.wrap (Go.bits .and .i64 a3 31)) then ((pianolalaw1_same.f k (shr .u32 a0 (IntKind.u64.wrap (Go.bits .and .i64 a2 31))) (shr .u32 a1 (IntKind.u64.wrap (Go.bits .and .i64 a3 31))) a4).bind fun t181 => (if t181 = true then ((pianolalaw1_known.f).bind fun t182 => (some t182)) else (some false))) else (none)) else (none)) else (some false)))) else (some false)))) else (some false))) = some r := h
  clear h
  replace H := Option.bind_eq_some_iff.mp H
  obtain ⟨t176, A60, H⟩ := H
  replace H : (if t176 = true then ((pianolalaw1_edge.f a3).bind fun t177 => ((pianolalaw1_same.f k t177 a1 a2).bind fun t178 => (if t178 = true then ((pianolalaw1_edge.f a4).bind fun t179 => ((pianolalaw1_same.f k a0 t179 a2).bind fun t180 => (if t180 = true then (if 0 ≤ (IntKind.u64.wrap (Go.bits .and .i64 a2 31)) then (if 0 ≤ (IntKind.u64.wrap (Go.bits .and .i64 a3 31)) then ((pianolalaw1_same.f k (shr .u32 a0 (IntKind.u64.wrap (Go.bits .and .i64 a2 31))) (shr .u32 a1 (IntKind.u64.wrap (Go.bits .and .i64 a3 31))) a4).bind fun t181 => (if t181 = true then ((pianolalaw1_known.f).bind fun t182 => (some t182)) else (some false))) else (none)) else (none)) else (some false)))) else (some false)))) else (some false)) = some r := H
  have A6 := Aside0.mk A60
  clear A60
  by_cases c7 : t176 = true
  · subst c7
    have H1 : ((pianolalaw1_edge.f a3).bind fun t177 => ((pianolalaw1_same.f k t177 a1 a2).bind fun t178 => (if t178 = true then ((pianolalaw1_edge.f a4).bind fun t179 => ((pianolalaw1_same.f k a0 t179 a2).bind fun t180 => (if t180 = true then (if 0 ≤ (IntKind.u64.wrap (Go.bits .and .i64 a2 31)) then (if 0 ≤ (IntKind.u64.wrap (Go.bits .and .i64 a3 31)) then ((pianolalaw1_same.f k (shr .u32 a0 (IntKind.u64.wrap (Go.bits .and .i64 a2 31))) (shr .u32 a1 (IntKind.u64.wrap (Go.bits .and .i64 a3 31))) a4).bind fun t181 => (if t181 = true then ((pianolalaw1_known.f).bind fun t182 => (some t182)) else (some false))) else (none)) else (none)) else (some false)))) else (some false)))) = some r := by rw [if_pos rfl] at H; exact H
    clear H
    have H := H1
    clear H1
    replace H := Option.bind_eq_some_iff.mp H
    obtain ⟨t177, A80, H⟩ := H
    replace H : ((pianolalaw1_same.f k t177 a1 a2).bind fun t178 => (if t178 = true then ((pianolalaw1_edge.f a4).bind fun t179 => ((pianolalaw1_same.f k a0 t179 a2).bind fun t180 => (if t180 = true then (if 0 ≤ (IntKind.u64.wrap (Go.bits .and .i64 a2 31)) then (if 0 ≤ (IntKind.u64.wrap (Go.bits .and .i64 a3 31)) then ((pianolalaw1_same.f k (shr .u32 a0 (IntKind.u64.wrap (Go.bits .and .i64 a2 31))) (shr .u32 a1 (IntKind.u64.wrap (Go.bits .and .i64 a3 31))) a4).bind fun t181 => (if t181 = true then ((pianolalaw1_known.f).bind fun t182 => (some t182)) else (some false))) else (none)) else (none)) else (some false)))) else (some false))) = some r := H
    have A8 := Aside0.mk A80
    clear A80
    replace H := Option.bind_eq_some_iff.mp H
    obtain ⟨t178, A90, H⟩ := H
    replace H : (if t178 = true then ((pianolalaw1_edge.f a4).bind fun t179 => ((pianolalaw1_same.f k a0 t179 a2).bind fun t180 => (if t180 = true then (if 0 ≤ (IntKind.u64.wrap (Go.bits .and .i64 a2 31)) then (if 0 ≤ (IntKind.u64.wrap (Go.bits .and .i64 a3 31)) then ((pianolalaw1_same.f k (shr .u32 a0 (IntKind.u64.wrap (Go.bits .and .i64 a2 31))) (shr .u32 a1 (IntKind.u64.wrap (Go.bits .and .i64 a3 31))) a4).bind fun t181 => (if t181 = true then ((pianolalaw1_known.f).bind fun t182 => (some t182)) else (some false))) else (none)) else (none)) else (some false)))) else (some false)) = some r := H
    have A9 := Aside0.mk A90
    clear A90
    by_cases c10 : t178 = true
    · subst c10
      have H1 : ((pianolalaw1_edge.f a4).bind fun t179 => ((pianolalaw1_same.f k a0 t179 a2).bind fun t180 => (if t180 = true then (if 0 ≤ (IntKind.u64.wrap (Go.bits .and .i64 a2 31)) then (if 0 ≤ (IntKind.u64.wrap (Go.bits .and .i64 a3 31)) then ((pianolalaw1_same.f k (shr .u32 a0 (IntKind.u64.wrap (Go.bits .and .i64 a2 31))) (shr .u32 a1 (IntKind.u64.wrap (Go.bits .and .i64 a3 31))) a4).bind fun t181 => (if t181 = true then ((pianolalaw1_known.f).bind fun t182 => (some t182)) else (some false))) else (none)) else (none)) else (some false)))) = some r := by rw [if_pos rfl] at H; exact H
      clear H
      have H := H1
      clear H1
      replace H := Option.bind_eq_some_iff.mp H
      obtain ⟨t179, A110, H⟩ := H
      replace H : ((pianolalaw1_same.f k a0 t179 a2).bind fun t180 => (if t180 = true then (if 0 ≤ (IntKind.u64.wrap (Go.bits .and .i64 a2 31)) then (if 0 ≤ (IntKind.u64.wrap (Go.bits .and .i64 a3 31)) then ((pianolalaw1_same.f k (shr .u32 a0 (IntKind.u64.wrap (Go.bits .and .i64 a2 31))) (shr .u32 a1 (IntKind.u64.wrap (Go.bits .and .i64 a3 31))) a4).bind fun t181 => (if t181 = true then ((pianolalaw1_known.f).bind fun t182 => (some t182)) else (some false))) else (none)) else (none)) else (some false))) = some r := H
      have A11 := Aside0.mk A110
      clear A110
      replace H := Option.bind_eq_some_iff.mp H
      obtain ⟨t180, A120, H⟩ := H
      replace H : (if t180 = true then (if 0 ≤ (IntKind.u64.wrap (Go.bits .and .i64 a2 31)) then (if 0 ≤ (IntKind.u64.wrap (Go.bits .and .i64 a3 31)) then ((pianolalaw1_same.f k (shr .u32 a0 (IntKind.u64.wrap (Go.bits .and .i64 a2 31))) (shr .u32 a1 (IntKind.u64.wrap (Go.bits .and .i64 a3 31))) a4).bind fun t181 => (if t181 = true then ((pianolalaw1_known.f).bind fun t182 => (some t182)) else (some false))) else (none)) else (none)) else (some false)) = some r := H
      have A12 := Aside0.mk A120
      clear A120
      by_cases c13 : t180 = true
      · subst c13
        have H1 : (if 0 ≤ (IntKind.u64.wrap (Go.bits .and .i64 a2 31)) then (if 0 ≤ (IntKind.u64.wrap (Go.bits .and .i64 a3 31)) then ((pianolalaw1_same.f k (shr .u32 a0 (IntKind.u64.wrap (Go.bits .and .i64 a2 31))) (shr .u32 a1 (IntKind.u64.wrap (Go.bits .and .i64 a3 31))) a4).bind fun t181 => (if t181 = true then ((pianolalaw1_known.f).bind fun t182 => (some t182)) else (some false))) else (none)) else (none)) = some r := by rw [if_pos rfl] at H; exact H
        clear H
        have H := H1
        clear H1
        obtain ⟨ji14, hji14⟩ : ∃ j_ : Int, (IntKind.u64.wrap (Go.bits .and .i64 a2 31)) = j_ := ⟨_, rfl⟩
        replace H : (if 0 ≤ (ji14) then (if 0 ≤ (IntKind.u64.wrap (Go.bits .and .i64 a3 31)) then ((pianolalaw1_same.f k (shr .u32 a0 (ji14)) (shr .u32 a1 (IntKind.u64.wrap (Go.bits .and .i64 a3 31))) a4).bind fun t181 => (if t181 = true then ((pianolalaw1_known.f).bind fun t182 => (some t182)) else (some false))) else (none)) else (none)) = some r := by first | (rw [hji14] at H; exact H) | (simp only [hji14] at H ⊢; exact H)
        (try rw [hji14] at A6)
        (try rw [hji14] at A8)
        (try rw [hji14] at A9)
        (try rw [hji14] at A11)
        (try rw [hji14] at A12)
        by_cases c15 : 0 ≤ (ji14)
        · rw [if_pos c15] at H
          have c15b0 := eq_true c15
          have c15b1 : decide (0 ≤ (ji14)) = true := decide_eq_true c15
          clear c15
          obtain ⟨ji16, hji16⟩ : ∃ j_ : Int, (shr .u32 a0 (ji14)) = j_ := ⟨_, rfl⟩
          replace H : (if 0 ≤ (IntKind.u64.wrap (Go.bits .and .i64 a3 31)) then ((pianolalaw1_same.f k (ji16) (shr .u32 a1 (IntKind.u64.wrap (Go.bits .and .i64 a3 31))) a4).bind fun t181 => (if t181 = true then ((pianolalaw1_known.f).bind fun t182 => (some t182)) else (some false))) else (none)) = some r := by first | (rw [hji16] at H; exact H) | (simp only [hji16] at H ⊢; exact H)
          (try rw [hji16] at A6)
          (try rw [hji16] at A8)
          (try rw [hji16] at A9)
          (try rw [hji16] at A11)
          (try rw [hji16] at A12)
          have hji16_ : (a0 / 2 ^ min (ji14).toNat 32) = ji16 := hji16
          have hji16z : (ji14) ≤ 32 → (a0 / 2 ^ (ji14).toNat) = ji16 := shr_small hji16
          obtain ⟨ji17, hji17⟩ : ∃ j_ : Int, (IntKind.u64.wrap (Go.bits .and .i64 a3 31)) = j_ := ⟨_, rfl⟩
          replace H : (if 0 ≤ (ji17) then ((pianolalaw1_same.f k (ji16) (shr .u32 a1 (ji17)) a4).bind fun t181 => (if t181 = true then ((pianolalaw1_known.f).bind fun t182 => (some t182)) else (some false))) else (none)) = some r := by first | (rw [hji17] at H; exact H) | (simp only [hji17] at H ⊢; exact H)
          (try rw [hji17] at A6)
          (try rw [hji17] at A8)
          (try rw [hji17] at A9)
          (try rw [hji17] at A11)
          (try rw [hji17] at A12)
          by_cases c18 : 0 ≤ (ji17)
          · rw [if_pos c18] at H
            have c18b0 := eq_true c18
            have c18b1 : decide (0 ≤ (ji17)) = true := decide_eq_true c18
            clear c18
            obtain ⟨ji19, hji19⟩ : ∃ j_ : Int, (shr .u32 a1 (ji17)) = j_ := ⟨_, rfl⟩
            replace H : ((pianolalaw1_same.f k (ji16) (ji19) a4).bind fun t181 => (if t181 = true then ((pianolalaw1_known.f).bind fun t182 => (some t182)) else (some false))) = some r := by first | (rw [hji19] at H; exact H) | (simp only [hji19] at H ⊢; exact H)
            (try rw [hji19] at A6)
            (try rw [hji19] at A8)
            (try rw [hji19] at A9)
            (try rw [hji19] at A11)
            (try rw [hji19] at A12)
            have hji19_ : (a1 / 2 ^ min (ji17).toNat 32) = ji19 := hji19
            have hji19z : (ji17) ≤ 32 → (a1 / 2 ^ (ji17).toNat) = ji19 := shr_small hji19
            replace H := Option.bind_eq_some_iff.mp H
            obtain ⟨t181, A200, H⟩ := H
            replace H : (if t181 = true then ((pianolalaw1_known.f).bind fun t182 => (some t182)) else (some false)) = some r := H
            have A20 := Aside0.mk A200
            clear A200
            by_cases c21 : t181 = true
            · subst c21
              have H1 : ((pianolalaw1_known.f).bind fun t182 => (some t182)) = some r := by rw [if_pos rfl] at H; exact H
              clear H
              have H := H1
              clear H1
              replace H := Option.bind_eq_some_iff.mp H
              obtain ⟨t182, A220, H⟩ := H
              replace H : (some t182) = some r := H
              have A22 := Aside0.mk A220
              clear A220
              obtain rfl := Option.some.inj H
              go_enter Try.func7, Try.ntmps7
              go_wp2_with (first | ((with_reducible refine gate_callee (f := 17) rfl ?_); refine goesL_ (some 14) rfl rfl Try.func17 (by kernel_rfl) rfl #[.int .u32 a0, .int .u32 a1, .int .i64 a2] rfl (by (try simp only [List.map_toArray, List.map_cons, List.map_nil]); first | done | rfl | (simp only [List.length_drop, List.length_take]; rfl)) ?_; (with_reducible refine (pianolalaw1_same.calls k a0 a1 a2 true _ A6.out).mono ?_); rintro e w23 ⟨rfl, hb⟩; refine ⟨_, rfl, ?_⟩; have n0_ := Aside0.mk (below_step (by repeat (first | (with_reducible first | exact HB.out | apply below_alloc | apply pw_below_drewN | apply below_drew1) | exact HB.out)) hb); clear HB; have HB := n0_; clear n0_; (try clear hb); (try clear hb2); (try clear hk); (try clear hi)) | (go_at_call 18; (with_reducible refine (pianolalaw1_edge.calls a3 t177 _ A8.out).mono ?_); rintro e w24 ⟨rfl, hb⟩; have n0_ := Aside0.mk (below_step (by repeat (first | (with_reducible first | exact HB.out | apply below_alloc | apply pw_below_drewN | apply below_drew1) | exact HB.out)) hb); clear HB; have HB := n0_; clear n0_; (try clear hb); (try clear hb2); (try clear hk); (try clear hi)) | (go_at_call 17; (with_reducible refine (pianolalaw1_same.calls k t177 a1 a2 true _ A9.out).mono ?_); rintro e w25 ⟨rfl, hb⟩; have n0_ := Aside0.mk (below_step (by repeat (first | (with_reducible first | exact HB.out | apply below_alloc | apply pw_below_drewN | apply below_drew1) | exact HB.out)) hb); clear HB; have HB := n0_; clear n0_; (try clear hb); (try clear hb2); (try clear hk); (try clear hi)) | (go_at_call 18; (with_reducible refine (pianolalaw1_edge.calls a4 t179 _ A11.out).mono ?_); rintro e w26 ⟨rfl, hb⟩; have n0_ := Aside0.mk (below_step (by repeat (first | (with_reducible first | exact HB.out | apply below_alloc | apply pw_below_drewN | apply below_drew1) | exact HB.out)) hb); clear HB; have HB := n0_; clear n0_; (try clear hb); (try clear hb2); (try clear hk); (try clear hi)) | (go_at_call 17; (with_reducible refine (pianolalaw1_same.calls k a0 t179 a2 true _ A12.out).mono ?_); rintro e w27 ⟨rfl, hb⟩; have n0_ := Aside0.mk (below_step (by repeat (first | (with_reducible first | exact HB.out | apply below_alloc | apply pw_below_drewN | apply below_drew1) | exact HB.out)) hb); clear HB; have HB := n0_; clear n0_; (try clear hb); (try clear hb2); (try clear hk); (try clear hi)) | (go_at_call 17; (with_reducible refine (pianolalaw1_same.calls k ji16 ji19 a4 true _ A20.out).mono ?_); rintro e w28 ⟨rfl, hb⟩; have n0_ := Aside0.mk (below_step (by repeat (first | (with_reducible first | exact HB.out | apply below_alloc | apply pw_below_drewN | apply below_drew1) | exact HB.out)) hb); clear HB; have HB := n0_; clear n0_; (try clear hb); (try clear hb2); (try clear hk); (try clear hi)) | (go_at_call 12; (with_reducible refine (pianolalaw1_known.calls  t182 _ A22.out).mono ?_); rintro e w' ⟨rfl, ⟨nd, rfl⟩⟩))
              go_ret
              exact ⟨by first | rfl | (simp [errW_none, errW_some] <;> rfl) | (simp only [← hji14, ← hji16, ← hji17, ← hji19]; first | rfl | (simp [errW_none, errW_some] <;> rfl)) | (simp [*, errW_none, errW_some] <;> rfl), by repeat (first | (with_reducible first | exact HB.out | apply below_alloc | apply pw_below_drewN | apply below_drew1) | exact HB.out)⟩
            · replace c21 := Bool.eq_false_iff.mpr c21
              subst c21
              have H1 : (some false) = some r := by rw [if_neg (show ¬ (false = true) by decide)] at H; exact H
              clear H
              have H := H1
              clear H1
              obtain rfl := Option.some.inj H
              go_enter Try.func7, Try.ntmps7
              go_wp2_with (first | ((with_reducible refine gate_callee (f := 17) rfl ?_); refine goesL_ (some 14) rfl rfl Try.func17 (by kernel_rfl) rfl #[.int .u32 a0, .int .u32 a1, .int .i64 a2] rfl (by (try simp only [List.map_toArray, List.map_cons, List.map_nil]); first | done | rfl | (simp only [List.length_drop, List.length_take]; rfl)) ?_; (with_reducible refine (pianolalaw1_same.calls k a0 a1 a2 true _ A6.out).mono ?_); rintro e w29 ⟨rfl, hb⟩; refine ⟨_, rfl, ?_⟩; have n0_ := Aside0.mk (below_step (by repeat (first | (with_reducible first | exact HB.out | apply below_alloc | apply pw_below_drewN | apply below_drew1) | exact HB.out)) hb); clear HB; have HB := n0_; clear n0_; (try clear hb); (try clear hb2); (try clear hk); (try clear hi)) | (go_at_call 18; (with_reducible refine (pianolalaw1_edge.calls a3 t177 _ A8.out).mono ?_); rintro e w30 ⟨rfl, hb⟩; have n0_ := Aside0.mk (below_step (by repeat (first | (with_reducible first | exact HB.out | apply below_alloc | apply pw_below_drewN | apply below_drew1) | exact HB.out)) hb); clear HB; have HB := n0_; clear n0_; (try clear hb); (try clear hb2); (try clear hk); (try clear hi)) | (go_at_call 17; (with_reducible refine (pianolalaw1_same.calls k t177 a1 a2 true _ A9.out).mono ?_); rintro e w31 ⟨rfl, hb⟩; have n0_ := Aside0.mk (below_step (by repeat (first | (with_reducible first | exact HB.out | apply below_alloc | apply pw_below_drewN | apply below_drew1) | exact HB.out)) hb); clear HB; have HB := n0_; clear n0_; (try clear hb); (try clear hb2); (try clear hk); (try clear hi)) | (go_at_call 18; (with_reducible refine (pianolalaw1_edge.calls a4 t179 _ A11.out).mono ?_); rintro e w32 ⟨rfl, hb⟩; have n0_ := Aside0.mk (below_step (by repeat (first | (with_reducible first | exact HB.out | apply below_alloc | apply pw_below_drewN | apply below_drew1) | exact HB.out)) hb); clear HB; have HB := n0_; clear n0_; (try clear hb); (try clear hb2); (try clear hk); (try clear hi)) | (go_at_call 17; (with_reducible refine (pianolalaw1_same.calls k a0 t179 a2 true _ A12.out).mono ?_); rintro e w33 ⟨rfl, hb⟩; have n0_ := Aside0.mk (below_step (by repeat (first | (with_reducible first | exact HB.out | apply below_alloc | apply pw_below_drewN | apply below_drew1) | exact HB.out)) hb); clear HB; have HB := n0_; clear n0_; (try clear hb); (try clear hb2); (try clear hk); (try clear hi)) | (go_at_call 17; (with_reducible refine (pianolalaw1_same.calls k ji16 ji19 a4 false _ A20.out).mono ?_); rintro e w34 ⟨rfl, hb⟩; have n0_ := Aside0.mk (below_step (by repeat (first | (with_reducible first | exact HB.out | apply below_alloc | apply pw_below_drewN | apply below_drew1) | exact HB.out)) hb); clear HB; have HB := n0_; clear n0_; (try clear hb); (try clear hb2); (try clear hk); (try clear hi)))
              go_ret
              exact ⟨by first | rfl | (simp [errW_none, errW_some] <;> rfl) | (simp only [← hji14, ← hji16, ← hji17, ← hji19]; first | rfl | (simp [errW_none, errW_some] <;> rfl)) | (simp [*, errW_none, errW_some] <;> rfl), by repeat (first | (with_reducible first | exact HB.out | apply below_alloc | apply pw_below_drewN | apply below_drew1) | exact HB.out)⟩
          · rw [if_neg c18] at H
            exact absurd H (by simp)
        · rw [if_neg c15] at H
          exact absurd H (by simp)
      · replace c13 := Bool.eq_false_iff.mpr c13
        subst c13
        have H1 : (some false) = some r := by rw [if_neg (show ¬ (false = true) by decide)] at H; exact H
        clear H
        have H := H1
        clear H1
        obtain rfl := Option.some.inj H
        go_enter Try.func7, Try.ntmps7
        go_wp2_with (first | ((with_reducible refine gate_callee (f := 17) rfl ?_); refine goesL_ (some 14) rfl rfl Try.func17 (by kernel_rfl) rfl #[.int .u32 a0, .int .u32 a1, .int .i64 a2] rfl (by (try simp only [List.map_toArray, List.map_cons, List.map_nil]); first | done | rfl | (simp only [List.length_drop, List.length_take]; rfl)) ?_; (with_reducible refine (pianolalaw1_same.calls k a0 a1 a2 true _ A6.out).mono ?_); rintro e w35 ⟨rfl, hb⟩; refine ⟨_, rfl, ?_⟩; have n0_ := Aside0.mk (below_step (by repeat (first | (with_reducible first | exact HB.out | apply below_alloc | apply pw_below_drewN | apply below_drew1) | exact HB.out)) hb); clear HB; have HB := n0_; clear n0_; (try clear hb); (try clear hb2); (try clear hk); (try clear hi)) | (go_at_call 18; (with_reducible refine (pianolalaw1_edge.calls a3 t177 _ A8.out).mono ?_); rintro e w36 ⟨rfl, hb⟩; have n0_ := Aside0.mk (below_step (by repeat (first | (with_reducible first | exact HB.out | apply below_alloc | apply pw_below_drewN | apply below_drew1) | exact HB.out)) hb); clear HB; have HB := n0_; clear n0_; (try clear hb); (try clear hb2); (try clear hk); (try clear hi)) | (go_at_call 17; (with_reducible refine (pianolalaw1_same.calls k t177 a1 a2 true _ A9.out).mono ?_); rintro e w37 ⟨rfl, hb⟩; have n0_ := Aside0.mk (below_step (by repeat (first | (with_reducible first | exact HB.out | apply below_alloc | apply pw_below_drewN | apply below_drew1) | exact HB.out)) hb); clear HB; have HB := n0_; clear n0_; (try clear hb); (try clear hb2); (try clear hk); (try clear hi)) | (go_at_call 18; (with_reducible refine (pianolalaw1_edge.calls a4 t179 _ A11.out).mono ?_); rintro e w38 ⟨rfl, hb⟩; have n0_ := Aside0.mk (below_step (by repeat (first | (with_reducible first | exact HB.out | apply below_alloc | apply pw_below_drewN | apply below_drew1) | exact HB.out)) hb); clear HB; have HB := n0_; clear n0_; (try clear hb); (try clear hb2); (try clear hk); (try clear hi)) | (go_at_call 17; (with_reducible refine (pianolalaw1_same.calls k a0 t179 a2 false _ A12.out).mono ?_); rintro e w39 ⟨rfl, hb⟩; have n0_ := Aside0.mk (below_step (by repeat (first | (with_reducible first | exact HB.out | apply below_alloc | apply pw_below_drewN | apply below_drew1) | exact HB.out)) hb); clear HB; have HB := n0_; clear n0_; (try clear hb); (try clear hb2); (try clear hk); (try clear hi)))
        go_ret
        exact ⟨by first | rfl | (simp [errW_none, errW_some] <;> rfl) | (simp [*, errW_none, errW_some] <;> rfl), by repeat (first | (with_reducible first | exact HB.out | apply below_alloc | apply pw_below_drewN | apply below_drew1) | exact HB.out)⟩
    · replace c10 := Bool.eq_false_iff.mpr c10
      subst c10
      have H1 : (some false) = some r := by rw [if_neg (show ¬ (false = true) by decide)] at H; exact H
      clear H
      have H := H1
      clear H1
      obtain rfl := Option.some.inj H
      go_enter Try.func7, Try.ntmps7
      go_wp2_with (first | ((with_reducible refine gate_callee (f := 17) rfl ?_); refine goesL_ (some 14) rfl rfl Try.func17 (by kernel_rfl) rfl #[.int .u32 a0, .int .u32 a1, .int .i64 a2] rfl (by (try simp only [List.map_toArray, List.map_cons, List.map_nil]); first | done | rfl | (simp only [List.length_drop, List.length_take]; rfl)) ?_; (with_reducible refine (pianolalaw1_same.calls k a0 a1 a2 true _ A6.out).mono ?_); rintro e w40 ⟨rfl, hb⟩; refine ⟨_, rfl, ?_⟩; have n0_ := Aside0.mk (below_step (by repeat (first | (with_reducible first | exact HB.out | apply below_alloc | apply pw_below_drewN | apply below_drew1) | exact HB.out)) hb); clear HB; have HB := n0_; clear n0_; (try clear hb); (try clear hb2); (try clear hk); (try clear hi)) | (go_at_call 18; (with_reducible refine (pianolalaw1_edge.calls a3 t177 _ A8.out).mono ?_); rintro e w41 ⟨rfl, hb⟩; have n0_ := Aside0.mk (below_step (by repeat (first | (with_reducible first | exact HB.out | apply below_alloc | apply pw_below_drewN | apply below_drew1) | exact HB.out)) hb); clear HB; have HB := n0_; clear n0_; (try clear hb); (try clear hb2); (try clear hk); (try clear hi)) | (go_at_call 17; (with_reducible refine (pianolalaw1_same.calls k t177 a1 a2 false _ A9.out).mono ?_); rintro e w42 ⟨rfl, hb⟩; have n0_ := Aside0.mk (below_step (by repeat (first | (with_reducible first | exact HB.out | apply below_alloc | apply pw_below_drewN | apply below_drew1) | exact HB.out)) hb); clear HB; have HB := n0_; clear n0_; (try clear hb); (try clear hb2); (try clear hk); (try clear hi)))
      go_ret
      exact ⟨by first | rfl | (simp [errW_none, errW_some] <;> rfl) | (simp [*, errW_none, errW_some] <;> rfl), by repeat (first | (with_reducible first | exact HB.out | apply below_alloc | apply pw_below_drewN | apply below_drew1) | exact HB.out)⟩
  · replace c7 := Bool.eq_false_iff.mpr c7
    subst c7
    have H1 : (some false) = some r := by rw [if_neg (show ¬ (false = true) by decide)] at H; exact H
    clear H
    have H := H1
    clear H1
    obtain rfl := Option.some.inj H
    go_enter Try.func7, Try.ntmps7
    go_wp2_with (first | ((with_reducible refine gate_callee (f := 17) rfl ?_); refine goesL_ (some 14) rfl rfl Try.func17 (by kernel_rfl) rfl #[.int .u32 a0, .int .u32 a1, .int .i64 a2] rfl (by (try simp only [List.map_toArray, List.map_cons, List.map_nil]); first | done | rfl | (simp only [List.length_drop, List.length_take]; rfl)) ?_; (with_reducible refine (pianolalaw1_same.calls k a0 a1 a2 false _ A6.out).mono ?_); rintro e w43 ⟨rfl, hb⟩; refine ⟨_, rfl, ?_⟩; have n0_ := Aside0.mk (below_step (by repeat (first | (with_reducible first | exact HB.out | apply below_alloc | apply pw_below_drewN | apply below_drew1) | exact HB.out)) hb); clear HB; have HB := n0_; clear n0_; (try clear hb); (try clear hb2); (try clear hk); (try clear hi)))
    go_ret
    exact ⟨by first | rfl | (simp [errW_none, errW_some] <;> rfl) | (simp [*, errW_none, errW_some] <;> rfl), by repeat (first | (with_reducible first | exact HB.out | apply below_alloc | apply pw_below_drewN | apply below_drew1) | exact HB.out)⟩

/-- THE ONE PURE STATEMENT of pianolalaw1_WordTells: yours. -/
def pianolalaw1_WordTells.Pure : Prop := ∀ (a0 : Int) (a1 : Int) (a2 : Int) (a3 : Int) (a4 : Int), (Lit.int .u32 a0).wf = true → (Lit.int .u32 a1).wf = true → (Lit.int .i64 a2).wf = true → (Lit.int .i64 a3).wf = true → (Lit.int .i64 a4).wf = true → ∃ k, pianolalaw1_WordTells.f k a0 a1 a2 a3 a4 = some true
theorem pianolalaw1_WordTells.walk (P : pianolalaw1_WordTells.Pure) (a0 : Int) (a1 : Int) (a2 : Int) (a3 : Int) (a4 : Int) (w : World) (w0 : (Lit.int .u32 a0).wf = true) (w1 : (Lit.int .u32 a1).wf = true) (w2 : (Lit.int .i64 a2).wf = true) (w3 : (Lit.int .i64 a3).wf = true) (w4 : (Lit.int .i64 a4).wf = true) :
    Calls Try.prog 7 #[.int .u32 a0, .int .u32 a1, .int .i64 a2, .int .i64 a3, .int .i64 a4] w fun e w' => e = .returned (.bool true) ∧ Below w.heap.size w w' := by
  obtain ⟨k, h⟩ := P a0 a1 a2 a3 a4 w0 w1 w2 w3 w4
  refine (pianolalaw1_WordTells.calls k a0 a1 a2 a3 a4 true w h).mono ?_
  rintro e w' ⟨rfl, hd⟩
  exact ⟨rfl, hd⟩

end Go.Proofs.Ytdagmhgmegpdpaa.Q
