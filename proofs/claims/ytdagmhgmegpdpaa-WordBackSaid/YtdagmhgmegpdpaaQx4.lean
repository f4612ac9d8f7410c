-- Written by a program of this session: a turned copy of the kit's print (wip/print/fork.py), whose words lie beside.
import Derived.Test.YtdagmhgmegpdpaaQx0
import Derived.Test.YtdagmhgmegpdpaaQx1
import Derived.Test.YtdagmhgmegpdpaaQx2
import Derived.Test.YtdagmhgmegpdpaaQx3
namespace Go.Proofs.Ytdagmhgmegpdpaa.Q
open Go.RowKit Go.Proofs.YtdagmhgmegpdpaaW.PrintWords Go.Proofs.YtdagmhgmegpdpaaW.PrintLast Go.Proofs.YtdagmhgmegpdpaaW.PrintMore
attribute [local go_sem] max2_int min2_int max_two min_two max_three min_three max_four min_four   -- for this text's walks alone
set_option linter.unusedVariables false
set_option linter.unusedSimpArgs false

/-! ### pianolalaw1_WordTells: function 7 -/
def pianolalaw1_WordTells.f (k : Nat) (a0 : Int) (a1 : Int) (a2 : Int) (a3 : Int) (a4 : Int) : Option (Bool) := (pianolalaw1_same.f k a0 a1 a2).bind fun t176 => (if t176 = true then ((pianolalaw1_edge.f a3).bind fun t177 => ((pianolalaw1_same.f k t177 a1 a2).bind fun t178 => (if t178 = true then ((pianolalaw1_edge.f a4).bind fun t179 => ((pianolalaw1_same.f k a0 t179 a2).bind fun t180 => (if t180 = true then (if 0 ≤ (IntKind.u64.wrap (Go.bits .and .i64 a2 31)) then (if 0 ≤ (IntKind.u64.wrap (Go.bits .and .i64 a3 31)) then ((pianolalaw1_same.f k (shr .u32 a0 (IntKind.u64.wrap (Go.bits .and .i64 a2 31))) (shr .u32 a1 (IntKind.u64.wrap (Go.bits .and .i64 a3 31))) a4).bind fun t181 => (if t181 = true then ((pianolalaw1_known.f).bind fun t182 => (some t182)) else (some false))) else (none)) else (none)) else (some false)))) else (some false)))) else (some false))
theorem pianolalaw1_WordTells.mono : ∀ a0 a1 a2 a3 a4 k, LeO (pianolalaw1_WordTells.f k a0 a1 a2 a3 a4) (pianolalaw1_WordTells.f (k + 1) a0 a1 a2 a3 a4) := by
  intro a0 a1 a2 a3 a4 k
  unfold pianolalaw1_WordTells.f
  repeat' first
      | (with_reducible exact pianolalaw1_same.mono _ _ _ _)
      | (with_reducible exact LeO.refl _)
      | (with_reducible exact LeO.none _)
      | (with_reducible refine LeO.ite ?_ ?_)
      | (with_reducible refine LeO.bind ?_ (fun _ => ?_))
      | exact pianolalaw1_same.mono _ _ _ _
      | exact LeO.none _
      | refine LeO.ite ?_ ?_
      | refine LeO.bind ?_ (fun _ => ?_)
set_option maxHeartbeats 8000000 in
set_option maxRecDepth 100000 in
theorem pianolalaw1_WordTells.calls (k : Nat) (a0 : Int) (a1 : Int) (a2 : Int) (a3 : Int) (a4 : Int) (r : Bool) (w : World) (h : pianolalaw1_WordTells.f k a0 a1 a2 a3 a4 = some r) :
    Calls Try.prog 7 #[.int .u32 a0, .int .u32 a1, .int .i64 a2, .int .i64 a3, .int .i64 a4] w fun e w' => e = .returned (.bool r) ∧ Below w.heap.size w w' := by
  have HB := Aside0.mk (Below.refl w.heap.size w)
  have H : ((pianolalaw1_same.f k a0 a1 a2).bind fun t176 => (if t176 = true then ((pianolalaw1_edge.f a3).bind fun t177 => ((pianolalaw1_same.f k t177 a1 a2).bind fun t178 => (if t178 = true then ((pianolalaw1_edge.f a4).bind fun t179 => ((pianolalaw1_same.f k a0 t179 a2).bind fun t180 => (if t180 = true then (if 0 ≤ (IntKind.u64.wrap (Go.bits .and .i64 a2 31)) then (if 0 ≤ (IntKind.u64.wrap (Go.bits .and .i64 a3 31)) then ((pianolalaw1_same.f k (shr .u32 a0 (IntKind.u64.wrap (Go.bits .and .i64 a2 31))) (shr .u32 a1 (IntKind.u64.wrap (Go.bits .and .i64 a3 31))) a4).bind fun t181 => (if t181 = true then ((pianolalaw1_known.f).bind fun t182 => (some t182)) else (some false))) else (none)) else (none)) else (some false)))) else (some false)))) else (some false))) = some r := h
  clear h
  replace H := Option.bind_eq_some_iff.mp H
  obtain ⟨t176, A60, H⟩ := H
  replace H : (if t176 = true then ((pianolalaw1_edge.f a3).bind fun t177 => ((pianolalaw1_same.f k t177 a1 a2).bind fun t178 => (if t178 = true then ((pianolalaw1_edge.f a4).bind fun t179 => ((pianolalaw1_same.f k a0 t179 a2).bind fun t180 => (if t180 = true then (if 0 ≤ (IntKind.u64.wrap (Go.bits .and .i64 a2 31)) then (if 0 ≤ (IntKind.u64.wrap (Go.bits .and .i64 a3 31)) then ((pianolalaw1_same.f k (shr .u32 a0 (IntKind.u64.wrap (Go.bits .and .i64 a2 31))) (shr .u32 a1 (IntKind.u64.wrap (Go.bits .and .i64 a3 31))) a4).bind fun t181 => (if t181 = true then ((pianolalaw1_known.f).bind fun t182 => (some t182)) else (some false))) else (none)) else (none)) else (some false)))) else (some false)))) else (some false)) = some r := H
  have A6 := Aside0.mk A60
  clear A60
  by_cases c7 : t176 = true
  · subst c7
    have H1 : ((pianolalaw1_edge.f a3).bind fun t177 => ((pianolalaw1_same.f k t177 a1 a2).bind fun t178 => (if t178 = true then ((pianolalaw1_edge.f a4).bind fun t179 => ((pianolalaw1_same.f k a0 t179 a2).bind fun t180 => (if t180 = true then (if 0 ≤ (IntKind.u64.wrap (Go.bits .and .i64 a2 31)) then (if 0 ≤ (IntKind.u64.wrap (Go.bits .and .i64 a3 31)) then ((pianolalaw1_same.f k (shr .u32 a0 (IntKind.u64.wrap (Go.bits .and .i64 a2 31))) (shr .u32 a1 (IntKind.u64.wrap (Go.bits .and .i64 a3 31))) a4).bind fun t181 => (if t181 = true then ((pianolalaw1_known.f).bind fun t182 => (some t182)) else (some false))) else (none)) else (none)) else (some false)))) else (some false)))) = some r := by rw [if_pos rfl] at H; exact H
    clear H
    have H := H1
    clear H1
    replace H := Option.bind_eq_some_iff.mp H
    obtain ⟨t177, A80, H⟩ := H
    replace H : ((pianolalaw1_same.f k t177 a1 a2).bind fun t178 => (if t178 = true then ((pianolalaw1_edge.f a4).bind fun t179 => ((pianolalaw1_same.f k a0 t179 a2).bind fun t180 => (if t180 = true then (if 0 ≤ (IntKind.u64.wrap (Go.bits .and .i64 a2 31)) then (if 0 ≤ (IntKind.u64.wrap (Go.bits .and .i64 a3 31)) then ((pianolalaw1_same.f k (shr .u32 a0 (IntKind.u64.wrap (Go.bits .and .i64 a2 31))) (shr .u32 a1 (IntKind.u64.wrap (Go.bits .and .i64 a3 31))) a4).bind fun t181 => (if t181 = true then ((pianolalaw1_known.f).bind fun t182 => (some t182)) else (some false))) else (none)) else (none)) else (some false)))) else (some false))) = some r := H
    have A8 := Aside0.mk A80
    clear A80
    replace H := Option.bind_eq_some_iff.mp H
    obtain ⟨t178, A90, H⟩ := H
    replace H : (if t178 = true then ((pianolalaw1_edge.f a4).bind fun t179 => ((pianolalaw1_same.f k a0 t179 a2).bind fun t180 => (if t180 = true then (if 0 ≤ (IntKind.u64.wrap (Go.bits .and .i64 a2 31)) then (if 0 ≤ (IntKind.u64.wrap (Go.bits .and .i64 a3 31)) then ((pianolalaw1_same.f k (shr .u32 a0 (IntKind.u64.wrap (Go.bits .and .i64 a2 31))) (shr .u32 a1 (IntKind.u64.wrap (Go.bits .and .i64 a3 31))) a4).bind fun t181 => (if t181 = true then ((pianolalaw1_known.f).bind fun t182 => (some t182)) else (some false))) else (none)) else (none)) else (some false)))) else (some false)) = some r := H
    have A9 := Aside0.mk A90
    clear A90
    by_cases c10 : t178 = true
    · subst c10
      have H1 : ((pianolalaw1_edge.f a4).bind fun t179 => ((pianolalaw1_same.f k a0 t179 a2).bind fun t180 => (if t180 = true then (if 0 ≤ (IntKind.u64.wrap (Go.bits .and .i64 a2 31)) then (if 0 ≤ (IntKind.u64.wrap (Go.bits .and .i64 a3 31)) then ((pianolalaw1_same.f k (shr .u32 a0 (IntKind.u64.wrap (Go.bits .and .i64 a2 31))) (shr .u32 a1 (IntKind.u64.wrap (Go.bits .and .i64 a3 31))) a4).bind fun t181 => (if t181 = true then ((pianolalaw1_known.f).bind fun t182 => (some t182)) else (some false))) else (none)) else (none)) else (some false)))) = some r := by rw [if_pos rfl] at H; exact H
      clear H
      have H := H1
      clear H1
      replace H := Option.bind_eq_some_iff.mp H
      obtain ⟨t179, A110, H⟩ := H
      replace H : ((pianolalaw1_same.f k a0 t179 a2).bind fun t180 => (if t180 = true then (if 0 ≤ (IntKind.u64.wrap (Go.bits .and .i64 a2 31)) then (if 0 ≤ (IntKind.u64.wrap (Go.bits .and .i64 a3 31)) then ((pianolalaw1_same.f k (shr .u32 a0 (IntKind.u64.wrap (Go.bits .and .i64 a2 31))) (shr .u32 a1 (IntKind.u64.wrap (Go.bits .and .i64 a3 31))) a4).bind fun t181 => (if t181 = true then ((pianolalaw1_known.f).bind fun t182 => (some t182)) else (some false))) else (none)) else (none)) else (some false))) = some r := H
      have A11 := Aside0.mk A110
      clear A110
      replace H := Option.bind_eq_some_iff.mp H
      obtain ⟨t180, A120, H⟩ := H
      replace H : (if t180 = true then (if 0 ≤ (IntKind.u64.wrap (Go.bits .and .i64 a2 31)) then (if 0 ≤ (IntKind.u64.wrap (Go.bits .and .i64 a3 31)) then ((pianolalaw1_same.f k (shr .u32 a0 (IntKind.u64.wrap (Go.bits .and .i64 a2 31))) (shr .u32 a1 (IntKind.u64.wrap (Go.bits .and .i64 a3 31))) a4).bind fun t181 => (if t181 = true then ((pianolalaw1_known.f).bind fun t182 => (some t182)) else (some false))) else (none)) else (none)) else (some false)) = some r := H
      have A12 := Aside0.mk A120
      clear A120
      by_cases c13 : t180 = true
      · subst c13
        have H1 : (if 0 ≤ (IntKind.u64.wrap (Go.bits .and .i64 a2 31)) then (if 0 ≤ (IntKind.u64.wrap (Go.bits .and .i64 a3 31)) then ((pianolalaw1_same.f k (shr .u32 a0 (IntKind.u64.wrap (Go.bits .and .i64 a2 31))) (shr .u32 a1 (IntKind.u64.wrap (Go.bits .and .i64 a3 31))) a4).bind fun t181 => (if t181 = true then ((pianolalaw1_known.f).bind fun t182 => (some t182)) else (some false))) else (none)) else (none)) = some r := by rw [if_pos rfl] at H; exact H
        clear H
        have H := H1
        clear H1
        obtain ⟨ji14, hji14⟩ : ∃ j_ : Int, (IntKind.u64.wrap (Go.bits .and .i64 a2 31)) = j_ := ⟨_, rfl⟩
        replace H : (if 0 ≤ (ji14) then (if 0 ≤ (IntKind.u64.wrap (Go.bits .and .i64 a3 31)) then ((pianolalaw1_same.f k (shr .u32 a0 (ji14)) (shr .u32 a1 (IntKind.u64.wrap (Go.bits .and .i64 a3 31))) a4).bind fun t181 => (if t181 = true then ((pianolalaw1_known.f).bind fun t182 => (some t182)) else (some false))) else (none)) else (none)) = some r := by first | (rw [hji14] at H; exact H) | (simp only [hji14] at H ⊢; exact H)
        (try rw [hji14] at A6)
        (try rw [hji14] at A8)
        (try rw [hji14] at A9)
        (try rw [hji14] at A11)
        (try rw [hji14] at A12)
        by_cases c15 : 0 ≤ (ji14)
        · rw [if_pos c15] at H
          have c15b0 := eq_true c15
          have c15b1 : decide (0 ≤ (ji14)) = true := decide_eq_true c15
          clear c15
          obtain ⟨ji16, hji16⟩ : ∃ j_ : Int, (shr .u32 a0 (ji14)) = j_ := ⟨_, rfl⟩
          replace H : (if 0 ≤ (IntKind.u64.wrap (Go.bits .and .i64 a3 31)) then ((pianolalaw1_same.f k (ji16) (shr .u32 a1 (IntKind.u64.wrap (Go.bits .and .i64 a3 31))) a4).bind fun t181 => (if t181 = true then ((pianolalaw1_known.f).bind fun t182 => (some t182)) else (some false))) else (none)) = some r := by first | (rw [hji16] at H; exact H) | (simp only [hji16] at H ⊢; exact H)
          (try rw [hji16] at A6)
          (try rw [hji16] at A8)
          (try rw [hji16] at A9)
          (try rw [hji16] at A11)
          (try rw [hji16] at A12)
          have hji16_ : (a0 / 2 ^ min (ji14).toNat 32) = ji16 := hji16
          have hji16z : (ji14) ≤ 32 → (a0 / 2 ^ (ji14).toNat) = ji16 := shr_small hji16
          obtain ⟨ji17, hji17⟩ : ∃ j_ : Int, (IntKind.u64.wrap (Go.bits .and .i64 a3 31)) = j_ := ⟨_, rfl⟩
          replace H : (if 0 ≤ (ji17) then ((pianolalaw1_same.f k (ji16) (shr .u32 a1 (ji17)) a4).bind fun t181 => (if t181 = true then ((pianolalaw1_known.f).bind fun t182 => (some t182)) else (some false))) else (none)) = some r := by first | (rw [hji17] at H; exact H) | (simp only [hji17] at H ⊢; exact H)
          (try rw [hji17] at A6)
          (try rw [hji17] at A8)
          (try rw [hji17] at A9)
          (try rw [hji17] at A11)
          (try rw [hji17] at A12)
          by_cases c18 : 0 ≤ (ji17)
          · rw [if_pos c18] at H
            have c18b0 := eq_true c18
            have c18b1 : decide (0 ≤ (ji17)) = true := decide_eq_true c18
            clear c18
            obtain ⟨ji19, hji19⟩ : ∃ j_ : Int, (shr .u32 a1 (ji17)) = j_ := ⟨_, rfl⟩
            replace H : ((pianolalaw1_same.f k (ji16) (ji19) a4).bind fun t181 => (if t181 = true then ((pianolalaw1_known.f).bind fun t182 => (some t182)) else (some false))) = some r := by first | (rw [hji19] at H; exact H) | (simp only [hji19] at H ⊢; exact H)
            (try rw [hji19] at A6)
            (try rw [hji19] at A8)
            (try rw [hji19] at A9)
            (try rw [hji19] at A11)
            (try rw [hji19] at A12)
            have hji19_ : (a1 / 2 ^ min (ji17).toNat 32) = ji19 := hji19
            have hji19z : (ji17) ≤ 32 → (a1 / 2 ^ (ji17).toNat) = ji19 := shr_small hji19
            replace H := Option.bind_eq_some_iff.mp H
            obtain ⟨t181, A200, H⟩ := H
            replace H : (if t181 = true then ((pianolalaw1_known.f).bind fun t182 => (some t182)) else (some false)) = some r := H
            have A20 := Aside0.mk A200
            clear A200
            by_cases c21 : t181 = true
            · subst c21
              have H1 : ((pianolalaw1_known.f).bind fun t182 => (some t182)) = some r := by rw [if_pos rfl] at H; exact H
              clear H
              have H := H1
              clear H1
              replace H := Option.bind_eq_some_iff.mp H
              obtain ⟨t182, A220, H⟩ := H
              replace H : (some t182) = some r := H
              have A22 := Aside0.mk A220
              clear A220
              obtain rfl := Option.some.inj H
              go_enter Try.func7, Try.ntmps7
              go_wp2_with (first | ((with_reducible refine gate_callee (f := 17) rfl ?_); refine goesL_ (some 14) rfl rfl Try.func17 (by kernel_rfl) rfl #[.int .u32 a0, .int .u32 a1, .int .i64 a2] rfl (by (try simp only [List.map_toArray, List.map_cons, List.map_nil]); first | done | rfl | (simp only [List.length_drop, List.length_take]; rfl)) ?_; (with_reducible refine (pianolalaw1_same.calls k a0 a1 a2 true _ A6.out).mono ?_); rintro e w23 ⟨rfl, hb⟩; refine ⟨_, rfl, ?_⟩; have n0_ := Aside0.mk (below_step (by repeat (first | (with_reducible first | exact HB.out | apply below_alloc | apply pw_below_drewN | apply below_drew1) | exact HB.out)) hb); clear HB; have HB := n0_; clear n0_; (try clear hb); (try clear hb2); (try clear hk); (try clear hi)) | (go_at_call 18; (with_reducible refine (pianolalaw1_edge.calls a3 t177 _ A8.out).mono ?_); rintro e w24 ⟨rfl, hb⟩; have n0_ := Aside0.mk (below_step (by repeat (first | (with_reducible first | exact HB.out | apply below_alloc | apply pw_below_drewN | apply below_drew1) | exact HB.out)) hb); clear HB; have HB := n0_; clear n0_; (try clear hb); (try clear hb2); (try clear hk); (try clear hi)) | (go_at_call 17; (with_reducible refine (pianolalaw1_same.calls k t177 a1 a2 true _ A9.out).mono ?_); rintro e w25 ⟨rfl, hb⟩; have n0_ := Aside0.mk (below_step (by repeat (first | (with_reducible first | exact HB.out | apply below_alloc | apply pw_below_drewN | apply below_drew1) | exact HB.out)) hb); clear HB; have HB := n0_; clear n0_; (try clear hb); (try clear hb2); (try clear hk); (try clear hi)) | (go_at_call 18; (with_reducible refine (pianolalaw1_edge.calls a4 t179 _ A11.out).mono ?_); rintro e w26 ⟨rfl, hb⟩; have n0_ := Aside0.mk (below_step (by repeat (first | (with_reducible first | exact HB.out | apply below_alloc | apply pw_below_drewN | apply below_drew1) | exact HB.out)) hb); clear HB; have HB := n0_; clear n0_; (try clear hb); (try clear hb2); (try clear hk); (try clear hi)) | (go_at_call 17; (with_reducible refine (pianolalaw1_same.calls k a0 t179 a2 true _ A12.out).mono ?_); rintro e w27 ⟨rfl, hb⟩; have n0_ := Aside0.mk (below_step (by repeat (first | (with_reducible first | exact HB.out | apply below_alloc | apply pw_below_drewN | apply below_drew1) | exact HB.out)) hb); clear HB; have HB := n0_; clear n0_; (try clear hb); (try clear hb2); (try clear hk); (try clear hi)) | (go_at_call 17; (with_reducible refine (pianolalaw1_same.calls k ji16 ji19 a4 true _ A20.out).mono ?_); rintro e w28 ⟨rfl, hb⟩; have n0_ := Aside0.mk (below_step (by repeat (first | (with_reducible first | exact HB.out | apply below_alloc | apply pw_below_drewN | apply below_drew1) | exact HB.out)) hb); clear HB; have HB := n0_; clear n0_; (try clear hb); (try clear hb2); (try clear hk); (try clear hi)) | (go_at_call 12; (with_reducible refine (pianolalaw1_known.calls  t182 _ A22.out).mono ?_); rintro e w' ⟨rfl, ⟨nd, rfl⟩⟩))
              go_ret
              exact ⟨by first | rfl | (simp [errW_none, errW_some] <;> rfl) | (simp only [← hji14, ← hji16, ← hji17, ← hji19]; first | rfl | (simp [errW_none, errW_some] <;> rfl)) | (simp [*, errW_none, errW_some] <;> rfl), by repeat (first | (with_reducible first | exact HB.out | apply below_alloc | apply pw_below_drewN | apply below_drew1) | exact HB.out)⟩
            · replace c21 := Bool.eq_false_iff.mpr c21
              subst c21
              have H1 : (some false) = some r := by rw [if_neg (show ¬ (false = true) by decide)] at H; exact H
              clear H
              have H := H1
              clear H1
              obtain rfl := Option.some.inj H
              go_enter Try.func7, Try.ntmps7
              go_wp2_with (first | ((with_reducible refine gate_callee (f := 17) rfl ?_); refine goesL_ (some 14) rfl rfl Try.func17 (by kernel_rfl) rfl #[.int .u32 a0, .int .u32 a1, .int .i64 a2] rfl (by (try simp only [List.map_toArray, List.map_cons, List.map_nil]); first | done | rfl | (simp only [List.length_drop, List.length_take]; rfl)) ?_; (with_reducible refine (pianolalaw1_same.calls k a0 a1 a2 true _ A6.out).mono ?_); rintro e w29 ⟨rfl, hb⟩; refine ⟨_, rfl, ?_⟩; have n0_ := Aside0.mk (below_step (by repeat (first | (with_reducible first | exact HB.out | apply below_alloc | apply pw_below_drewN | apply below_drew1) | exact HB.out)) hb); clear HB; have HB := n0_; clear n0_; (try clear hb); (try clear hb2); (try clear hk); (try clear hi)) | (go_at_call 18; (with_reducible refine (pianolalaw1_edge.calls a3 t177 _ A8.out).mono ?_); rintro e w30 ⟨rfl, hb⟩; have n0_ := Aside0.mk (below_step (by repeat (first | (with_reducible first | exact HB.out | apply below_alloc | apply pw_below_drewN | apply below_drew1) | exact HB.out)) hb); clear HB; have HB := n0_; clear n0_; (try clear hb); (try clear hb2); (try clear hk); (try clear hi)) | (go_at_call 17; (with_reducible refine (pianolalaw1_same.calls k t177 a1 a2 true _ A9.out).mono ?_); rintro e w31 ⟨rfl, hb⟩; have n0_ := Aside0.mk (below_step (by repeat (first | (with_reducible first | exact HB.out | apply below_alloc | apply pw_below_drewN | apply below_drew1) | exact HB.out)) hb); clear HB; have HB := n0_; clear n0_; (try clear hb); (try clear hb2); (try clear hk); (try clear hi)) | (go_at_call 18; (with_reducible refine (pianolalaw1_edge.calls a4 t179 _ A11.out).mono ?_); rintro e w32 ⟨rfl, hb⟩; have n0_ := Aside0.mk (below_step (by repeat (first | (with_reducible first | exact HB.out | apply below_alloc | apply pw_below_drewN | apply below_drew1) | exact HB.out)) hb); clear HB; have HB := n0_; clear n0_; (try clear hb); (try clear hb2); (try clear hk); (try clear hi)) | (go_at_call 17; (with_reducible refine (pianolalaw1_same.calls k a0 t179 a2 true _ A12.out).mono ?_); rintro e w33 ⟨rfl, hb⟩; have n0_ := Aside0.mk (below_step (by repeat (first | (with_reducible first | exact HB.out | apply below_alloc | apply pw_below_drewN | apply below_drew1) | exact HB.out)) hb); clear HB; have HB := n0_; clear n0_; (try clear hb); (try clear hb2); (try clear hk); (try clear hi)) | (go_at_call 17; (with_reducible refine (pianolalaw1_same.calls k ji16 ji19 a4 false _ A20.out).mono ?_); rintro e w34 ⟨rfl, hb⟩; have n0_ := Aside0.mk (below_step (by repeat (first | (with_reducible first | exact HB.out | apply below_alloc | apply pw_below_drewN | apply below_drew1) | exact HB.out)) hb); clear HB; have HB := n0_; clear n0_; (try clear hb); (try clear hb2); (try clear hk); (try clear hi)))
              go_ret
              exact ⟨by first | rfl | (simp [errW_none, errW_some] <;> rfl) | (simp only [← hji14, ← hji16, ← hji17, ← hji19]; first | rfl | (simp [errW_none, errW_some] <;> rfl)) | (simp [*, errW_none, errW_some] <;> rfl), by repeat (first | (with_reducible first | exact HB.out | apply below_alloc | apply pw_below_drewN | apply below_drew1) | exact HB.out)⟩
          · rw [if_neg c18] at H
            exact absurd H (by simp)
        · rw [if_neg c15] at H
          exact absurd H (by simp)
      · replace c13 := Bool.eq_false_iff.mpr c13
        subst c13
        have H1 : (some false) = some r := by rw [if_neg (show ¬ (false = true) by decide)] at H; exact H
        clear H
        have H := H1
        clear H1
        obtain rfl := Option.some.inj H
        go_enter Try.func7, Try.ntmps7
        go_wp2_with (first | ((with_reducible refine gate_callee (f := 17) rfl ?_); refine goesL_ (some 14) rfl rfl Try.func17 (by kernel_rfl) rfl #[.int .u32 a0, .int .u32 a1, .int .i64 a2] rfl (by (try simp only [List.map_toArray, List.map_cons, List.map_nil]); first | done | rfl | (simp only [List.length_drop, List.length_take]; rfl)) ?_; (with_reducible refine (pianolalaw1_same.calls k a0 a1 a2 true _ A6.out).mono ?_); rintro e w35 ⟨rfl, hb⟩; refine ⟨_, rfl, ?_⟩; have n0_ := Aside0.mk (below_step (by repeat (first | (with_reducible first | exact HB.out | apply below_alloc | apply pw_below_drewN | apply below_drew1) | exact HB.out)) hb); clear HB; have HB := n0_; clear n0_; (try clear hb); (try clear hb2); (try clear hk); (try clear hi)) | (go_at_call 18; (with_reducible refine (pianolalaw1_edge.calls a3 t177 _ A8.out).mono ?_); rintro e w36 ⟨rfl, hb⟩; have n0_ := Aside0.mk (below_step (by repeat (first | (with_reducible first | exact HB.out | apply below_alloc | apply pw_below_drewN | apply below_drew1) | exact HB.out)) hb); clear HB; have HB := n0_; clear n0_; (try clear hb); (try clear hb2); (try clear hk); (try clear hi)) | (go_at_call 17; (with_reducible refine (pianolalaw1_same.calls k t177 a1 a2 true _ A9.out).mono ?_); rintro e w37 ⟨rfl, hb⟩; have n0_ := Aside0.mk (below_step (by repeat (first | (with_reducible first | exact HB.out | apply below_alloc | apply pw_below_drewN | apply below_drew1) | exact HB.out)) hb); clear HB; have HB := n0_; clear n0_; (try clear hb); (try clear hb2); (try clear hk); (try clear hi)) | (go_at_call 18; (with_reducible refine (pianolalaw1_edge.calls a4 t179 _ A11.out).mono ?_); rintro e w38 ⟨rfl, hb⟩; have n0_ := Aside0.mk (below_step (by repeat (first | (with_reducible first | exact HB.out | apply below_alloc | apply pw_below_drewN | apply below_drew1) | exact HB.out)) hb); clear HB; have HB := n0_; clear n0_; (try clear hb); (try clear hb2); (try clear hk); (try clear hi)) | (go_at_call 17; (with_reducible refine (pianolalaw1_same.calls k a0 t179 a2 false _ A12.out).mono ?_); rintro e w39 ⟨rfl, hb⟩; have n0_ := Aside0.mk (below_step (by repeat (first | (with_reducible first | exact HB.out | apply below_alloc | apply pw_below_drewN | apply below_drew1) | exact HB.out)) hb); clear HB; have HB := n0_; clear n0_; (try clear hb); (try clear hb2); (try clear hk); (try clear hi)))
        go_ret
        exact ⟨by first | rfl | (simp [errW_none, errW_some] <;> rfl) | (simp [*, errW_none, errW_some] <;> rfl), by repeat (first | (with_reducible first | exact HB.out | apply below_alloc | apply pw_below_drewN | apply below_drew1) | exact HB.out)⟩
    · replace c10 := Bool.eq_false_iff.mpr c10
      subst c10
      have H1 : (some false) = some r := by rw [if_neg (show ¬ (false = true) by decide)] at H; exact H
      clear H
      have H := H1
      clear H1
      obtain rfl := Option.some.inj H
      go_enter Try.func7, Try.ntmps7
      go_wp2_with (first | ((with_reducible refine gate_callee (f := 17) rfl ?_); refine goesL_ (some 14) rfl rfl Try.func17 (by kernel_rfl) rfl #[.int .u32 a0, .int .u32 a1, .int .i64 a2] rfl (by (try simp only [List.map_toArray, List.map_cons, List.map_nil]); first | done | rfl | (simp only [List.length_drop, List.length_take]; rfl)) ?_; (with_reducible refine (pianolalaw1_same.calls k a0 a1 a2 true _ A6.out).mono ?_); rintro e w40 ⟨rfl, hb⟩; refine ⟨_, rfl, ?_⟩; have n0_ := Aside0.mk (below_step (by repeat (first | (with_reducible first | exact HB.out | apply below_alloc | apply pw_below_drewN | apply below_drew1) | exact HB.out)) hb); clear HB; have HB := n0_; clear n0_; (try clear hb); (try clear hb2); (try clear hk); (try clear hi)) | (go_at_call 18; (with_reducible refine (pianolalaw1_edge.calls a3 t177 _ A8.out).mono ?_); rintro e w41 ⟨rfl, hb⟩; have n0_ := Aside0.mk (below_step (by repeat (first | (with_reducible first | exact HB.out | apply below_alloc | apply pw_below_drewN | apply below_drew1) | exact HB.out)) hb); clear HB; have HB := n0_; clear n0_; (try clear hb); (try clear hb2); (try clear hk); (try clear hi)) | (go_at_call 17; (with_reducible refine (pianolalaw1_same.calls k t177 a1 a2 false _ A9.out).mono ?_); rintro e w42 ⟨rfl, hb⟩; have n0_ := Aside0.mk (below_step (by repeat (first | (with_reducible first | exact HB.out | apply below_alloc | apply pw_below_drewN | apply below_drew1) | exact HB.out)) hb); clear HB; have HB := n0_; clear n0_; (try clear hb); (try clear hb2); (try clear hk); (try clear hi)))
      go_ret
      exact ⟨by first | rfl | (simp [errW_none, errW_some] <;> rfl) | (simp [*, errW_none, errW_some] <;> rfl), by repeat (first | (with_reducible first | exact HB.out | apply below_alloc | apply pw_below_drewN | apply below_drew1) | exact HB.out)⟩
  · replace c7 := Bool.eq_false_iff.mpr c7
    subst c7
    have H1 : (some false) = some r := by rw [if_neg (show ¬ (false = true) by decide)] at H; exact H
    clear H
    have H := H1
    clear H1
    obtain rfl := Option.some.inj H
    go_enter Try.func7, Try.ntmps7
    go_wp2_with (first | ((with_reducible refine gate_callee (f := 17) rfl ?_); refine goesL_ (some 14) rfl rfl Try.func17 (by kernel_rfl) rfl #[.int .u32 a0, .int .u32 a1, .int .i64 a2] rfl (by (try simp only [List.map_toArray, List.map_cons, List.map_nil]); first | done | rfl | (simp only [List.length_drop, List.length_take]; rfl)) ?_; (with_reducible refine (pianolalaw1_same.calls k a0 a1 a2 false _ A6.out).mono ?_); rintro e w43 ⟨rfl, hb⟩; refine ⟨_, rfl, ?_⟩; have n0_ := Aside0.mk (below_step (by repeat (first | (with_reducible first | exact HB.out | apply below_alloc | apply pw_below_drewN | apply below_drew1) | exact HB.out)) hb); clear HB; have HB := n0_; clear n0_; (try clear hb); (try clear hb2); (try clear hk); (try clear hi)))
    go_ret
    exact ⟨by first | rfl | (simp [errW_none, errW_some] <;> rfl) | (simp [*, errW_none, errW_some] <;> rfl), by repeat (first | (with_reducible first | exact HB.out | apply below_alloc | apply pw_below_drewN | apply below_drew1) | exact HB.out)⟩

/-- THE ONE PURE STATEMENT of pianolalaw1_WordTells: yours. -/
def pianolalaw1_WordTells.Pure : Prop := ∀ (a0 : Int) (a1 : Int) (a2 : Int) (a3 : Int) (a4 : Int), (Lit.int .u32 a0).wf = true → (Lit.int .u32 a1).wf = true → (Lit.int .i64 a2).wf = true → (Lit.int .i64 a3).wf = true → (Lit.int .i64 a4).wf = true → ∃ k, pianolalaw1_WordTells.f k a0 a1 a2 a3 a4 = some true
theorem pianolalaw1_WordTells.walk (P : pianolalaw1_WordTells.Pure) (a0 : Int) (a1 : Int) (a2 : Int) (a3 : Int) (a4 : Int) (w : World) (w0 : (Lit.int .u32 a0).wf = true) (w1 : (Lit.int .u32 a1).wf = true) (w2 : (Lit.int .i64 a2).wf = true) (w3 : (Lit.int .i64 a3).wf = true) (w4 : (Lit.int .i64 a4).wf = true) :
    Calls Try.prog 7 #[.int .u32 a0, .int .u32 a1, .int .i64 a2, .int .i64 a3, .int .i64 a4] w fun e w' => e = .returned (.bool true) ∧ Below w.heap.size w w' := by
  obtain ⟨k, h⟩ := P a0 a1 a2 a3 a4 w0 w1 w2 w3 w4
  refine (pianolalaw1_WordTells.calls k a0 a1 a2 a3 a4 true w h).mono ?_
  rintro e w' ⟨rfl, hd⟩
  exact ⟨rfl, hd⟩

/-! ### pianolalaw1_WordBack: function 5 -/
mutual
def pianolalaw1_WordBack.l0 : Nat → Int → Int → List Bool → Int → Int → Option (Bool)
  | 0, _, _, _, _, _ => none
  | k + 1, x0, x1, x15, x16, x17 => if x17 < x16 then (if 0 ≤ x17 then (if x17 < (x15.length : Int) then ((word_Div.f x0 x1 (rdOf false x15 x17)).bind fun bt192 => (if (((bt192.1 * x1) + bt192.2) % 4294967296) = x0 then (pianolalaw1_WordBack.j1 k x0 x1 (rdOf false x15 x17) bt192.2 x15 x16 x17 false) else (pianolalaw1_WordBack.j1 k x0 x1 (rdOf false x15 x17) bt192.2 x15 x16 x17 (x1 != 0)))) else (none)) else (none)) else ((word_Div.f x0 x1 true).bind fun bt186 => (if x1 = 0 then ((pianolalaw1_known.f).bind fun t188 => (some t188)) else (if bt186.2 = 0 then ((pianolalaw1_known.f).bind fun t189 => (some t189)) else (if (bt186.2 / 2147483648) = (x0 / 2147483648) then ((pianolalaw1_known.f).bind fun t190 => (some t190)) else (some false)))))
def pianolalaw1_WordBack.j1 : Nat → Int → Int → Bool → Int → List Bool → Int → Int → Bool → Option (Bool)
  | 0, _, _, _, _, _, _, _, _ => none
  | k + 1, x0, x1, x6, x8, x15, x16, x17, x38 => if x38 = true then (some false) else (if x1 = 0 then (pianolalaw1_WordBack.j2 k x0 x1 x6 x15 x16 x17 false) else (if x6 = true then (pianolalaw1_WordBack.j2 k x0 x1 x6 x15 x16 x17 false) else (pianolalaw1_WordBack.j2 k x0 x1 x6 x15 x16 x17 (decide (x8 ≥ x1)))))
def pianolalaw1_WordBack.j2 : Nat → Int → Int → Bool → List Bool → Int → Int → Bool → Option (Bool)
  | 0, _, _, _, _, _, _, _ => none
  | k + 1, x0, x1, x6, x15, x16, x17, x49 => if x49 = true then (some false) else ((word_Mul.f x0 x1 x6).bind fun bt194 => ((word_Mul.f x1 x0 x6).bind fun bt196 => (if bt194.1 = bt196.1 then (if bt194.2 = bt196.2 then (if bt194.2 = ((x0 * x1) % 4294967296) then (pianolalaw1_WordBack.l0 k x0 x1 x15 x16 (wrap64 (x17 + 1))) else (some false)) else (some false)) else (some false))))
end
def pianolalaw1_WordBack.f (k : Nat) (a0 : Int) (a1 : Int) : Option (Bool) := (some (([false, true] : List Bool) : List Bool)).bind fun y183 => (pianolalaw1_WordBack.l0 k a0 a1 y183 (y183.length : Int) 0)
theorem pianolalaw1_WordBack.mono_l : ∀ k, (∀ y0 y1 y2 y3 y4, LeO (pianolalaw1_WordBack.l0 k y0 y1 y2 y3 y4) (pianolalaw1_WordBack.l0 (k + 1) y0 y1 y2 y3 y4)) ∧ (∀ y0 y1 y2 y3 y4 y5 y6 y7, LeO (pianolalaw1_WordBack.j1 k y0 y1 y2 y3 y4 y5 y6 y7) (pianolalaw1_WordBack.j1 (k + 1) y0 y1 y2 y3 y4 y5 y6 y7)) ∧ (∀ y0 y1 y2 y3 y4 y5 y6, LeO (pianolalaw1_WordBack.j2 k y0 y1 y2 y3 y4 y5 y6) (pianolalaw1_WordBack.j2 (k + 1) y0 y1 y2 y3 y4 y5 y6))
  | 0 => ⟨fun _ _ _ _ _ r h => by simp [pianolalaw1_WordBack.l0] at h, fun _ _ _ _ _ _ _ _ r h => by simp [pianolalaw1_WordBack.j1] at h, fun _ _ _ _ _ _ _ r h => by simp [pianolalaw1_WordBack.j2] at h⟩
  | k + 1 => by
    obtain ⟨ih0, ih1, ih2⟩ := pianolalaw1_WordBack.mono_l k
    refine ⟨?_, ?_, ?_⟩
    · intro y0 y1 y2 y3 y4
      unfold pianolalaw1_WordBack.l0
      repeat' first
      | (with_reducible exact ih0 _ _ _ _ _)
      | (with_reducible exact ih1 _ _ _ _ _ _ _ _)
      | (with_reducible exact ih2 _ _ _ _ _ _ _)
      | (with_reducible exact LeO.refl _)
      | (with_reducible exact LeO.none _)
      | (with_reducible refine LeO.ite ?_ ?_)
      | (with_reducible refine LeO.bind ?_ (fun _ => ?_))
      | exact ih0 _ _ _ _ _
      | exact ih1 _ _ _ _ _ _ _ _
      | exact ih2 _ _ _ _ _ _ _
      | exact LeO.none _
      | refine LeO.ite ?_ ?_
      | refine LeO.bind ?_ (fun _ => ?_)
    · intro y0 y1 y2 y3 y4 y5 y6 y7
      unfold pianolalaw1_WordBack.j1
      repeat' first
      | (with_reducible exact ih0 _ _ _ _ _)
      | (with_reducible exact ih1 _ _ _ _ _ _ _ _)
      | (with_reducible exact ih2 _ _ _ _ _ _ _)
      | (with_reducible exact LeO.refl _)
      | (with_reducible exact LeO.none _)
      | (with_reducible refine LeO.ite ?_ ?_)
      | (with_reducible refine LeO.bind ?_ (fun _ => ?_))
      | exact ih0 _ _ _ _ _
      | exact ih1 _ _ _ _ _ _ _ _
      | exact ih2 _ _ _ _ _ _ _
      | exact LeO.none _
      | refine LeO.ite ?_ ?_
      | refine LeO.bind ?_ (fun _ => ?_)
    · intro y0 y1 y2 y3 y4 y5 y6
      unfold pianolalaw1_WordBack.j2
      repeat' first
      | (with_reducible exact ih0 _ _ _ _ _)
      | (with_reducible exact ih1 _ _ _ _ _ _ _ _)
      | (with_reducible exact ih2 _ _ _ _ _ _ _)
      | (with_reducible exact LeO.refl _)
      | (with_reducible exact LeO.none _)
      | (with_reducible refine LeO.ite ?_ ?_)
      | (with_reducible refine LeO.bind ?_ (fun _ => ?_))
      | exact ih0 _ _ _ _ _
      | exact ih1 _ _ _ _ _ _ _ _
      | exact ih2 _ _ _ _ _ _ _
      | exact LeO.none _
      | refine LeO.ite ?_ ?_
      | refine LeO.bind ?_ (fun _ => ?_)
theorem pianolalaw1_WordBack.mono : ∀ a0 a1 k, LeO (pianolalaw1_WordBack.f k a0 a1) (pianolalaw1_WordBack.f (k + 1) a0 a1) := by
  intro a0 a1 k
  obtain ⟨ih0, ih1, ih2⟩ := pianolalaw1_WordBack.mono_l k
  unfold pianolalaw1_WordBack.f
  repeat' first
      | (with_reducible exact ih0 _ _ _ _ _)
      | (with_reducible exact ih1 _ _ _ _ _ _ _ _)
      | (with_reducible exact ih2 _ _ _ _ _ _ _)
      | (with_reducible exact LeO.refl _)
      | (with_reducible exact LeO.none _)
      | (with_reducible refine LeO.ite ?_ ?_)
      | (with_reducible refine LeO.bind ?_ (fun _ => ?_))
      | exact ih0 _ _ _ _ _
      | exact ih1 _ _ _ _ _ _ _ _
      | exact ih2 _ _ _ _ _ _ _
      | exact LeO.none _
      | refine LeO.ite ?_ ?_
      | refine LeO.bind ?_ (fun _ => ?_)
set_option maxHeartbeats 8000000 in
set_option maxRecDepth 100000 in
theorem pianolalaw1_WordBack.calls (k : Nat) (a0 : Int) (a1 : Int) (r : Bool) (w : World) (h : pianolalaw1_WordBack.f k a0 a1 = some r) :
    Calls Try.prog 5 #[.int .u32 a0, .int .u32 a1] w fun e w' => e = .returned (.bool r) ∧ Below w.heap.size w w' := by
  have HB := Aside0.mk (Below.refl w.heap.size w)
  have H : ((some (([false, true] : List Bool) : List Bool)).bind fun y183 => (pianolalaw1_WordBack.l0 k a0 a1 y183 (y183.length : Int) 0)) = some r := h
  clear h
  obtain ⟨y183, hy183⟩ : ∃ y_ : List Bool, y_ = (([false, true] : List Bool)) := ⟨_, rfl⟩
  replace H : (pianolalaw1_WordBack.l0 k a0 a1 y183 (y183.length : Int) 0) = some r := by first | (rw [hy183]; with_reducible exact H) | (have H2_ := (Option.bind_some _ _).symm.trans H; rw [hy183]; with_reducible exact H2_) | (have H2_ := (Option.bind_some _ _).symm.trans H; with_reducible exact H2_) | with_reducible exact H | (rw [hy183]; exact H) | exact H
  have Ny183 := Aside0.mk hy183
  clear hy183
  have H' := Aside0.mk H
  clear H
  go_enter Try.func5, Try.ntmps5
  go_wp2_with (first | ((with_reducible refine gate_dst (N := 15) rfl ?_); refine Kd.R_lit Kd.bool _ 4 ?hg (N := 15) ?hd (xs := ([false, true] : List Bool)) (inner := [.bool false, .bool true]) (ok := fun _ => True) (okp := fun _ => True) ?hr ?hp (fun _ hk => hk) trivial (Below.refl _ _) (Nat.le_refl _) (by simp) ?_; (case hd => rfl); (case hg => rfl); (case hr => first | (go_simp; done) | (go_simp; rfl)); (case hp => exact (Reps.one (show Kd.M Kd.bool _ _ _ false [.bool false] from rfl) (Reps.one (show Kd.M Kd.bool _ _ _ true [.bool true] from rfl) (Reps.none _ _)))); intro v184 w3 ho4 hb hg_ hnew_; clear hg_ hnew_; (first | rw [← Ny183.out] at ho4 | (simp only [Int.reduceToNat] at ho4; rw [← Ny183.out] at ho4)); have n0_ := Aside0.mk (Kd.R_lower ho4 (below_size (by repeat (first | (with_reducible first | exact HB.out | apply below_alloc | apply pw_below_drewN | apply below_drew1) | exact HB.out)))); have n1_ := Aside0.mk (below_step (by repeat (first | (with_reducible first | exact HB.out | apply below_alloc | apply pw_below_drewN | apply below_drew1) | exact HB.out)) hb); clear HB; have HO185 := n0_; have HB := n1_; clear n0_ n1_; clear hb ho4; obtain ⟨Ao5, co5, eo5⟩ := Kd.R_slice HO185.out; subst eo5))
  go_loopg [17] k (fun kq v17 w' => ∃ (x17_1 : Int), v17 = .int .i64 x17_1 ∧ Aside0 (pianolalaw1_WordBack.l0 kq a0 a1 y183 (y183.length : Int) x17_1 = some r) ∧ Aside0 (kq ≤ k) ∧ Aside0 (Kd.R Kd.bool 4 w' w.heap.size (fun _ => True) (.slice Ao5 y183.length co5) y183) ∧ Aside0 (Below w.heap.size w w'))
  case atStart => exact ⟨(0), (by first | rfl | (simp; done) | (simp [*]; done) | (simp; omega)), H', ⟨Nat.le_refl _⟩, ⟨by (with_reducible repeat (first | apply Kd.R_alloc | apply Kd.R_drewN | apply Kd.R_drew)); exact HO185.out⟩, ⟨by repeat (first | (with_reducible first | exact HB.out | apply below_alloc | apply pw_below_drewN | apply below_drew1) | exact HB.out)⟩⟩
  case round =>
    clear H'
    try clear p2
    try clear c5
    obtain ⟨x17_1, rfl, HA, HK1, HO_15, HB⟩ := hrel
    cases gk with
    | zero => exact absurd HA.out (by simp [pianolalaw1_WordBack.l0])
    | succ k1 =>
      have H := HA.out
      clear HA
      simp only [pianolalaw1_WordBack.l0] at H
      by_cases c6 : x17_1 < (y183.length : Int)
      · rw [if_pos c6] at H
        have c6b0 : decide (x17_1 < (y183.length : Int)) = true := decide_eq_true c6
        clear c6
        by_cases c7 : 0 ≤ x17_1
        · rw [if_pos c7] at H
          have c7b0 : decide (0 ≤ x17_1) = true := decide_eq_true c7
          clear c7
          by_cases c8 : x17_1 < (y183.length : Int)
          · rw [if_pos c8] at H
            have c8b0 : decide (x17_1 < (y183.length : Int)) = true := decide_eq_true c8
            clear c8
            replace H := Option.bind_eq_some_iff.mp H
            obtain ⟨⟨t192, t193⟩, A90, H⟩ := H
            replace H : (if (((t192 * a1) + t193) % 4294967296) = a0 then (pianolalaw1_WordBack.j1 k1 a0 a1 (rdOf false y183 x17_1) t193 y183 (y183.length : Int) x17_1 false) else (pianolalaw1_WordBack.j1 k1 a0 a1 (rdOf false y183 x17_1) t193 y183 (y183.length : Int) x17_1 (a1 != 0))) = some r := H
            have A9 := Aside0.mk A90
            clear A90
            have HC10 := Aside0.mk H
            clear H
            have p191 : 0 ≤ (x17_1 : Int) := of_decide_eq_true (by first | (with_reducible assumption) | assumption)
            have q191 : x17_1 < (y183.length : Int) := of_decide_eq_true (by first | (with_reducible assumption) | assumption)
            obtain ⟨ad191, e191, hx191_0⟩ := Kd.at_bool (Kd.R_reads' HO_15.out).2.2 x17_1 p191 q191
            cases e191
            replace p191 := eq_true p191
            replace q191 := eq_true q191
            go_upto_region 5 with (first | ((with_reducible refine gate_callee (f := 15) rfl ?_); refine goesL_ (some 25) rfl rfl Try.func15 (by kernel_rfl) rfl #[.int .u32 a0, .int .u32 a1, .bool (rdOf false y183 x17_1)] rfl (by (try simp only [List.map_toArray, List.map_cons, List.map_nil]); first | done | rfl | (simp only [List.length_drop, List.length_take]; rfl)) ?_; (with_reducible refine (word_Div.calls a0 a1 (rdOf false y183 x17_1) t192 t193 _ A9.out).mono ?_); rintro e w' ⟨rfl, ⟨nd, rfl⟩⟩; refine ⟨_, rfl, ?_⟩))
            (try simp only [Act.put, List.setIfInBounds_toArray, List.set_cons_zero, List.set_cons_succ])
            go_cut [6, 38] (fun v6 v38 wc => ∃ (kq : Nat) (x6_9 : Bool) (x38_9 : Bool), v6 = .bool x6_9 ∧ v38 = .bool x38_9 ∧ Aside0 (pianolalaw1_WordBack.j1 kq a0 a1 x6_9 t193 y183 (y183.length : Int) x17_1 x38_9 = some r) ∧ Aside0 (kq ≤ k1) ∧ Aside0 (Kd.R Kd.bool 4 wc w.heap.size (fun _ => True) (.slice (some ad191) y183.length co5) y183) ∧ Aside0 (Below w.heap.size w wc))
            case first =>
              have H := HC10.out
              clear HC10
              by_cases c11 : (((t192 * a1) + t193) % 4294967296) = a0
              · rw [if_pos c11] at H
                have c11b0 : ((((t192 * a1) + t193) % 4294967296) == a0) = true := beq_iff_eq.mpr c11
                have c11b1 : ((((t192 * a1) + t193) % 4294967296) != a0) = false := bne_eq_false_iff_eq.mpr c11
                clear c11
                (first | rw [c11b0] | (simp only [i64_w, i32_w]; rw [c11b0]) | skip)
                have H' := Aside0.mk H
                clear H
                go_wp2
                go_meet
                case rel => exact ⟨_, (rdOf false y183 x17_1), (false), (by first | rfl | (simp; done) | (simp [*]; done) | (simp; omega)), (by first | rfl | (simp; done) | (simp [*]; done) | (simp; omega)), H', ⟨by have := HK1.out; first | omega | exact Nat.le_refl _⟩, ⟨by (with_reducible repeat (first | apply Kd.R_alloc | apply Kd.R_drewN | apply Kd.R_drew)); exact HO_15.out⟩, ⟨by repeat (first | (with_reducible first | exact HB.out | apply below_alloc | apply pw_below_drewN | apply below_drew1) | exact HB.out)⟩⟩
              · rw [if_neg c11] at H
                have c11b0 : ((((t192 * a1) + t193) % 4294967296) == a0) = false := beq_eq_false_iff_ne.mpr c11
                have c11b1 : ((((t192 * a1) + t193) % 4294967296) != a0) = true := bne_iff_ne.mpr c11
                (first | rw [c11b0] | (simp only [i64_w, i32_w]; rw [c11b0]) | skip)
                have H' := Aside0.mk H
                clear H
                go_wp2
                go_meet
                case rel => exact ⟨_, (rdOf false y183 x17_1), ((a1 != 0)), (by first | rfl | (simp; done) | (simp [*]; done) | (simp; omega)), (by first | rfl | (simp; done) | (simp [*]; done) | (simp; omega)), H', ⟨by have := HK1.out; first | omega | exact Nat.le_refl _⟩, ⟨by (with_reducible repeat (first | apply Kd.R_alloc | apply Kd.R_drewN | apply Kd.R_drew)); exact HO_15.out⟩, ⟨by repeat (first | (with_reducible first | exact HB.out | apply below_alloc | apply pw_below_drewN | apply below_drew1) | exact HB.out)⟩⟩
            case rest =>
              clear HC10
              try clear c1
              try clear p1
              try clear q1
              try clear hx1
              try clear p2
              try clear c5
              try clear c6
              try clear c6b0
              try clear c7
              try clear c7b0
              try clear c8
              try clear c8b0
              try clear c11
              try clear c11b0
              try clear c11b1
              try clear hx191_0
              try clear p191
              try clear p2
              try clear q191
              obtain ⟨kq, x6_9, x38_9, rfl, rfl, HA, HJ9, HO_15, HB⟩ := hcut
              cases kq with
              | zero => exact absurd HA.out (by simp [pianolalaw1_WordBack.j1])
              | succ kj9 =>
                have H := HA.out
                clear HA
                simp only [pianolalaw1_WordBack.j1] at H
                by_cases c12 : x38_9 = true
                · subst c12
                  have H1 : (some false) = some r := by rw [if_pos rfl] at H; exact H
                  clear H
                  have H := H1
                  clear H1
                  obtain rfl := Option.some.inj H
                  go_wp2
                  go_ret
                  exact ⟨by first | rfl | (simp [errW_none, errW_some] <;> rfl) | (simp [*, errW_none, errW_some] <;> rfl), by repeat (first | (with_reducible first | exact HB.out | apply below_alloc | apply pw_below_drewN | apply below_drew1) | exact HB.out)⟩
                · replace c12 := Bool.eq_false_iff.mpr c12
                  subst c12
                  have H1 : (if a1 = 0 then (pianolalaw1_WordBack.j2 kj9 a0 a1 x6_9 y183 (y183.length : Int) x17_1 false) else (if x6_9 = true then (pianolalaw1_WordBack.j2 kj9 a0 a1 x6_9 y183 (y183.length : Int) x17_1 false) else (pianolalaw1_WordBack.j2 kj9 a0 a1 x6_9 y183 (y183.length : Int) x17_1 (decide (t193 ≥ a1))))) = some r := by rw [if_neg (show ¬ (false = true) by decide)] at H; exact H
                  clear H
                  have H := H1
                  clear H1
                  have HC13 := Aside0.mk H
                  clear H
                  go_upto_region 7 with (fail)
                  go_cut [6, 49] (fun v6 v49 wc => ∃ (kq : Nat) (x6_12 : Bool) (x49_12 : Bool), v6 = .bool x6_12 ∧ v49 = .bool x49_12 ∧ Aside0 (pianolalaw1_WordBack.j2 kq a0 a1 x6_12 y183 (y183.length : Int) x17_1 x49_12 = some r) ∧ Aside0 (kq ≤ kj9) ∧ Aside0 (Kd.R Kd.bool 4 wc w.heap.size (fun _ => True) (.slice (some ad191) y183.length co5) y183) ∧ Aside0 (Below w.heap.size w wc))
                  case first =>
                    have H := HC13.out
                    clear HC13
                    by_cases c14 : a1 = 0
                    · rw [if_pos c14] at H
                      have c14b0 : (a1 == 0) = true := beq_iff_eq.mpr c14
                      have c14b1 : (a1 != 0) = false := bne_eq_false_iff_eq.mpr c14
                      clear c14
                      (first | rw [c14b0] | (simp only [i64_w, i32_w]; rw [c14b0]) | skip)
                      have H' := Aside0.mk H
                      clear H
                      go_wp2
                      go_meet
                      case rel => exact ⟨_, (x6_9), (false), (by first | rfl | (simp; done) | (simp [*]; done) | (simp; omega)), (by first | rfl | (simp; done) | (simp [*]; done) | (simp; omega)), H', ⟨by have := HK1.out; have := HJ9.out; first | omega | exact Nat.le_refl _⟩, ⟨by (with_reducible repeat (first | apply Kd.R_alloc | apply Kd.R_drewN | apply Kd.R_drew)); exact HO_15.out⟩, ⟨by repeat (first | (with_reducible first | exact HB.out | apply below_alloc | apply pw_below_drewN | apply below_drew1) | exact HB.out)⟩⟩
                    · rw [if_neg c14] at H
                      have c14b0 : (a1 == 0) = false := beq_eq_false_iff_ne.mpr c14
                      have c14b1 : (a1 != 0) = true := bne_iff_ne.mpr c14
                      (first | rw [c14b0] | (simp only [i64_w, i32_w]; rw [c14b0]) | skip)
                      by_cases c15 : x6_9 = true
                      · subst c15
                        have H1 : (pianolalaw1_WordBack.j2 kj9 a0 a1 true y183 (y183.length : Int) x17_1 false) = some r := by rw [if_pos rfl] at H; exact H
                        clear H
                        have H := H1
                        clear H1
                        have H' := Aside0.mk H
                        clear H
                        go_wp2
                        go_meet
                        case rel => exact ⟨_, (true), (false), (by first | rfl | (simp; done) | (simp [*]; done) | (simp; omega)), (by first | rfl | (simp; done) | (simp [*]; done) | (simp; omega)), H', ⟨by have := HK1.out; have := HJ9.out; first | omega | exact Nat.le_refl _⟩, ⟨by (with_reducible repeat (first | apply Kd.R_alloc | apply Kd.R_drewN | apply Kd.R_drew)); exact HO_15.out⟩, ⟨by repeat (first | (with_reducible first | exact HB.out | apply below_alloc | apply pw_below_drewN | apply below_drew1) | exact HB.out)⟩⟩
                      · replace c15 := Bool.eq_false_iff.mpr c15
                        subst c15
                        have H1 : (pianolalaw1_WordBack.j2 kj9 a0 a1 false y183 (y183.length : Int) x17_1 (decide (t193 ≥ a1))) = some r := by rw [if_neg (show ¬ (false = true) by decide)] at H; exact H
                        clear H
                        have H := H1
                        clear H1
                        have H' := Aside0.mk H
                        clear H
                        go_wp2
                        go_meet
                        case rel => exact ⟨_, (false), (decide (t193 ≥ a1)), (by first | rfl | (simp; done) | (simp [*]; done) | (simp; omega)), (by first | rfl | (simp; done) | (simp [*]; done) | (simp; omega)), H', ⟨by have := HK1.out; have := HJ9.out; first | omega | exact Nat.le_refl _⟩, ⟨by (with_reducible repeat (first | apply Kd.R_alloc | apply Kd.R_drewN | apply Kd.R_drew)); exact HO_15.out⟩, ⟨by repeat (first | (with_reducible first | exact HB.out | apply below_alloc | apply pw_below_drewN | apply below_drew1) | exact HB.out)⟩⟩
                  case rest =>
                    clear HC13
                    try clear c1
                    try clear p1
                    try clear q1
                    try clear hx1
                    try clear p2
                    try clear c5
                    try clear c6
                    try clear c6b0
                    try clear c7
                    try clear c7b0
                    try clear c8
                    try clear c8b0
                    try clear c11
                    try clear c11b0
                    try clear c11b1
                    try clear c12
                    try clear c14
                    try clear c14b0
                    try clear c14b1
                    try clear c15
                    try clear hx191_0
                    try clear p1
                    try clear p191
                    try clear p2
                    try clear q1
                    try clear q191
                    obtain ⟨kq, x6_12, x49_12, rfl, rfl, HA, HJ12, HO_15, HB⟩ := hcut
                    cases kq with
                    | zero => exact absurd HA.out (by simp [pianolalaw1_WordBack.j2])
                    | succ kj12 =>
                      have H := HA.out
                      clear HA
                      simp only [pianolalaw1_WordBack.j2] at H
                      by_cases c16 : x49_12 = true
                      · subst c16
                        have H1 : (some false) = some r := by rw [if_pos rfl] at H; exact H
                        clear H
                        have H := H1
                        clear H1
                        obtain rfl := Option.some.inj H
                        go_wp2
                        go_ret
                        exact ⟨by first | rfl | (simp [errW_none, errW_some] <;> rfl) | (simp [*, errW_none, errW_some] <;> rfl), by repeat (first | (with_reducible first | exact HB.out | apply below_alloc | apply pw_below_drewN | apply below_drew1) | exact HB.out)⟩
                      · replace c16 := Bool.eq_false_iff.mpr c16
                        subst c16
                        have H1 : ((word_Mul.f a0 a1 x6_12).bind fun bt194 => ((word_Mul.f a1 a0 x6_12).bind fun bt196 => (if bt194.1 = bt196.1 then (if bt194.2 = bt196.2 then (if bt194.2 = ((a0 * a1) % 4294967296) then (pianolalaw1_WordBack.l0 kj12 a0 a1 y183 (y183.length : Int) (wrap64 (x17_1 + 1))) else (some false)) else (some false)) else (some false)))) = some r := by rw [if_neg (show ¬ (false = true) by decide)] at H; exact H
                        clear H
                        have H := H1
                        clear H1
                        replace H := Option.bind_eq_some_iff.mp H
                        obtain ⟨⟨t194, t195⟩, A170, H⟩ := H
                        replace H : ((word_Mul.f a1 a0 x6_12).bind fun bt196 => (if t194 = bt196.1 then (if t195 = bt196.2 then (if t195 = ((a0 * a1) % 4294967296) then (pianolalaw1_WordBack.l0 kj12 a0 a1 y183 (y183.length : Int) (wrap64 (x17_1 + 1))) else (some false)) else (some false)) else (some false))) = some r := H
                        have A17 := Aside0.mk A170
                        clear A170
                        replace H := Option.bind_eq_some_iff.mp H
                        obtain ⟨⟨t196, t197⟩, A180, H⟩ := H
                        replace H : (if t194 = t196 then (if t195 = t197 then (if t195 = ((a0 * a1) % 4294967296) then (pianolalaw1_WordBack.l0 kj12 a0 a1 y183 (y183.length : Int) (wrap64 (x17_1 + 1))) else (some false)) else (some false)) else (some false)) = some r := H
                        have A18 := Aside0.mk A180
                        clear A180
                        by_cases c19 : t194 = t196
                        · rw [if_pos c19] at H
                          have c19b0 : (t194 == t196) = true := beq_iff_eq.mpr c19
                          have c19b1 : (t194 != t196) = false := bne_eq_false_iff_eq.mpr c19
                          clear c19
                          by_cases c20 : t195 = t197
                          · rw [if_pos c20] at H
                            have c20b0 : (t195 == t197) = true := beq_iff_eq.mpr c20
                            have c20b1 : (t195 != t197) = false := bne_eq_false_iff_eq.mpr c20
                            clear c20
                            by_cases c21 : t195 = ((a0 * a1) % 4294967296)
                            · rw [if_pos c21] at H
                              have c21b0 : (t195 == ((a0 * a1) % 4294967296)) = true := beq_iff_eq.mpr c21
                              have c21b1 : (t195 != ((a0 * a1) % 4294967296)) = false := bne_eq_false_iff_eq.mpr c21
                              clear c21
                              have H' := Aside0.mk H
                              clear H
                              go_wp2_with (first | ((with_reducible refine gate_callee (f := 16) rfl ?_); refine goesL_ (some 54) rfl rfl Try.func16 (by kernel_rfl) rfl #[.int .u32 a0, .int .u32 a1, .bool x6_12] rfl (by (try simp only [List.map_toArray, List.map_cons, List.map_nil]); first | done | rfl | (simp only [List.length_drop, List.length_take]; rfl)) ?_; (with_reducible refine (word_Mul.calls a0 a1 x6_12 t194 t195 _ A17.out).mono ?_); rintro e w' ⟨rfl, ⟨nd, rfl⟩⟩; refine ⟨_, rfl, ?_⟩) | ((with_reducible refine gate_callee (f := 16) rfl ?_); refine goesL_ (some 61) rfl rfl Try.func16 (by kernel_rfl) rfl #[.int .u32 a1, .int .u32 a0, .bool x6_12] rfl (by (try simp only [List.map_toArray, List.map_cons, List.map_nil]); first | done | rfl | (simp only [List.length_drop, List.length_take]; rfl)) ?_; (with_reducible refine (word_Mul.calls a1 a0 x6_12 t196 t197 _ A18.out).mono ?_); rintro e w' ⟨rfl, ⟨nd, rfl⟩⟩; refine ⟨_, rfl, ?_⟩) | (go_at_call 16; (with_reducible refine (word_Mul.calls a0 a1 x6_12 t194 t195 _ A17.out).mono ?_); rintro e w' ⟨rfl, ⟨nd, rfl⟩⟩) | (go_at_call 16; (with_reducible refine (word_Mul.calls a1 a0 x6_12 t196 t197 _ A18.out).mono ?_); rintro e w' ⟨rfl, ⟨nd, rfl⟩⟩))
                              go_roundg kj12
                              case measure => have := HK1.out; have := HJ9.out; have := HJ12.out; omega
                              case rel => exact ⟨(wrap64 (x17_1 + 1)), (by first | rfl | (simp; done) | (simp [*]; done) | (simp; omega)), H', ⟨by have := HK1.out; have := HJ9.out; have := HJ12.out; omega⟩, ⟨by (with_reducible repeat (first | apply Kd.R_alloc | apply Kd.R_drewN | apply Kd.R_drew)); exact HO_15.out⟩, ⟨by repeat (first | (with_reducible first | exact HB.out | apply below_alloc | apply pw_below_drewN | apply below_drew1) | exact HB.out)⟩⟩
                            · rw [if_neg c21] at H
                              have c21b0 : (t195 == ((a0 * a1) % 4294967296)) = false := beq_eq_false_iff_ne.mpr c21
                              have c21b1 : (t195 != ((a0 * a1) % 4294967296)) = true := bne_iff_ne.mpr c21
                              obtain rfl := Option.some.inj H
                              go_wp2_with (first | ((with_reducible refine gate_callee (f := 16) rfl ?_); refine goesL_ (some 54) rfl rfl Try.func16 (by kernel_rfl) rfl #[.int .u32 a0, .int .u32 a1, .bool x6_12] rfl (by (try simp only [List.map_toArray, List.map_cons, List.map_nil]); first | done | rfl | (simp only [List.length_drop, List.length_take]; rfl)) ?_; (with_reducible refine (word_Mul.calls a0 a1 x6_12 t194 t195 _ A17.out).mono ?_); rintro e w' ⟨rfl, ⟨nd, rfl⟩⟩; refine ⟨_, rfl, ?_⟩) | ((with_reducible refine gate_callee (f := 16) rfl ?_); refine goesL_ (some 61) rfl rfl Try.func16 (by kernel_rfl) rfl #[.int .u32 a1, .int .u32 a0, .bool x6_12] rfl (by (try simp only [List.map_toArray, List.map_cons, List.map_nil]); first | done | rfl | (simp only [List.length_drop, List.length_take]; rfl)) ?_; (with_reducible refine (word_Mul.calls a1 a0 x6_12 t196 t197 _ A18.out).mono ?_); rintro e w' ⟨rfl, ⟨nd, rfl⟩⟩; refine ⟨_, rfl, ?_⟩) | (go_at_call 16; (with_reducible refine (word_Mul.calls a0 a1 x6_12 t194 t195 _ A17.out).mono ?_); rintro e w' ⟨rfl, ⟨nd, rfl⟩⟩) | (go_at_call 16; (with_reducible refine (word_Mul.calls a1 a0 x6_12 t196 t197 _ A18.out).mono ?_); rintro e w' ⟨rfl, ⟨nd, rfl⟩⟩))
                              go_ret
                              exact ⟨by first | rfl | (simp [errW_none, errW_some] <;> rfl) | (simp [*, errW_none, errW_some] <;> rfl), by repeat (first | (with_reducible first | exact HB.out | apply below_alloc | apply pw_below_drewN | apply below_drew1) | exact HB.out)⟩
                          · rw [if_neg c20] at H
                            have c20b0 : (t195 == t197) = false := beq_eq_false_iff_ne.mpr c20
                            have c20b1 : (t195 != t197) = true := bne_iff_ne.mpr c20
                            obtain rfl := Option.some.inj H
                            go_wp2_with (first | ((with_reducible refine gate_callee (f := 16) rfl ?_); refine goesL_ (some 54) rfl rfl Try.func16 (by kernel_rfl) rfl #[.int .u32 a0, .int .u32 a1, .bool x6_12] rfl (by (try simp only [List.map_toArray, List.map_cons, List.map_nil]); first | done | rfl | (simp only [List.length_drop, List.length_take]; rfl)) ?_; (with_reducible refine (word_Mul.calls a0 a1 x6_12 t194 t195 _ A17.out).mono ?_); rintro e w' ⟨rfl, ⟨nd, rfl⟩⟩; refine ⟨_, rfl, ?_⟩) | ((with_reducible refine gate_callee (f := 16) rfl ?_); refine goesL_ (some 61) rfl rfl Try.func16 (by kernel_rfl) rfl #[.int .u32 a1, .int .u32 a0, .bool x6_12] rfl (by (try simp only [List.map_toArray, List.map_cons, List.map_nil]); first | done | rfl | (simp only [List.length_drop, List.length_take]; rfl)) ?_; (with_reducible refine (word_Mul.calls a1 a0 x6_12 t196 t197 _ A18.out).mono ?_); rintro e w' ⟨rfl, ⟨nd, rfl⟩⟩; refine ⟨_, rfl, ?_⟩) | (go_at_call 16; (with_reducible refine (word_Mul.calls a0 a1 x6_12 t194 t195 _ A17.out).mono ?_); rintro e w' ⟨rfl, ⟨nd, rfl⟩⟩) | (go_at_call 16; (with_reducible refine (word_Mul.calls a1 a0 x6_12 t196 t197 _ A18.out).mono ?_); rintro e w' ⟨rfl, ⟨nd, rfl⟩⟩))
                            go_ret
                            exact ⟨by first | rfl | (simp [errW_none, errW_some] <;> rfl) | (simp [*, errW_none, errW_some] <;> rfl), by repeat (first | (with_reducible first | exact HB.out | apply below_alloc | apply pw_below_drewN | apply below_drew1) | exact HB.out)⟩
                        · rw [if_neg c19] at H
                          have c19b0 : (t194 == t196) = false := beq_eq_false_iff_ne.mpr c19
                          have c19b1 : (t194 != t196) = true := bne_iff_ne.mpr c19
                          obtain rfl := Option.some.inj H
                          go_wp2_with (first | ((with_reducible refine gate_callee (f := 16) rfl ?_); refine goesL_ (some 54) rfl rfl Try.func16 (by kernel_rfl) rfl #[.int .u32 a0, .int .u32 a1, .bool x6_12] rfl (by (try simp only [List.map_toArray, List.map_cons, List.map_nil]); first | done | rfl | (simp only [List.length_drop, List.length_take]; rfl)) ?_; (with_reducible refine (word_Mul.calls a0 a1 x6_12 t194 t195 _ A17.out).mono ?_); rintro e w' ⟨rfl, ⟨nd, rfl⟩⟩; refine ⟨_, rfl, ?_⟩) | ((with_reducible refine gate_callee (f := 16) rfl ?_); refine goesL_ (some 61) rfl rfl Try.func16 (by kernel_rfl) rfl #[.int .u32 a1, .int .u32 a0, .bool x6_12] rfl (by (try simp only [List.map_toArray, List.map_cons, List.map_nil]); first | done | rfl | (simp only [List.length_drop, List.length_take]; rfl)) ?_; (with_reducible refine (word_Mul.calls a1 a0 x6_12 t196 t197 _ A18.out).mono ?_); rintro e w' ⟨rfl, ⟨nd, rfl⟩⟩; refine ⟨_, rfl, ?_⟩) | (go_at_call 16; (with_reducible refine (word_Mul.calls a0 a1 x6_12 t194 t195 _ A17.out).mono ?_); rintro e w' ⟨rfl, ⟨nd, rfl⟩⟩) | (go_at_call 16; (with_reducible refine (word_Mul.calls a1 a0 x6_12 t196 t197 _ A18.out).mono ?_); rintro e w' ⟨rfl, ⟨nd, rfl⟩⟩))
                          go_ret
                          exact ⟨by first | rfl | (simp [errW_none, errW_some] <;> rfl) | (simp [*, errW_none, errW_some] <;> rfl), by repeat (first | (with_reducible first | exact HB.out | apply below_alloc | apply pw_below_drewN | apply below_drew1) | exact HB.out)⟩
          · rw [if_neg c8] at H
            exact absurd H (by simp)
        · rw [if_neg c7] at H
          exact absurd H (by simp)
      · rw [if_neg c6] at H
        have c6b0 : decide (x17_1 < (y183.length : Int)) = false := decide_eq_false c6
        clear c6
        replace H := Option.bind_eq_some_iff.mp H
        obtain ⟨⟨t186, t187⟩, A220, H⟩ := H
        replace H : (if a1 = 0 then ((pianolalaw1_known.f).bind fun t188 => (some t188)) else (if t187 = 0 then ((pianolalaw1_known.f).bind fun t189 => (some t189)) else (if (t187 / 2147483648) = (a0 / 2147483648) then ((pianolalaw1_known.f).bind fun t190 => (some t190)) else (some false)))) = some r := H
        have A22 := Aside0.mk A220
        clear A220
        by_cases c23 : a1 = 0
        · rw [if_pos c23] at H
          have c23b0 : (a1 == 0) = true := beq_iff_eq.mpr c23
          have c23b1 : (a1 != 0) = false := bne_eq_false_iff_eq.mpr c23
          clear c23
          replace H := Option.bind_eq_some_iff.mp H
          obtain ⟨t188, A240, H⟩ := H
          replace H : (some t188) = some r := H
          have A24 := Aside0.mk A240
          clear A240
          obtain rfl := Option.some.inj H
          go_wp2_with (first | ((with_reducible refine gate_callee (f := 15) rfl ?_); refine goesL_ (some 83) rfl rfl Try.func15 (by kernel_rfl) rfl #[.int .u32 a0, .int .u32 a1, .bool true] rfl (by (try simp only [List.map_toArray, List.map_cons, List.map_nil]); first | done | rfl | (simp only [List.length_drop, List.length_take]; rfl)) ?_; (with_reducible refine (word_Div.calls a0 a1 true t186 t187 _ A22.out).mono ?_); rintro e w' ⟨rfl, ⟨nd, rfl⟩⟩; refine ⟨_, rfl, ?_⟩) | (go_at_call 12; (with_reducible refine (pianolalaw1_known.calls  t188 _ A24.out).mono ?_); rintro e w' ⟨rfl, ⟨nd, rfl⟩⟩) | (go_at_call 15; (with_reducible refine (word_Div.calls a0 a1 true t186 t187 _ A22.out).mono ?_); rintro e w' ⟨rfl, ⟨nd, rfl⟩⟩))
          go_ret
          exact ⟨by first | rfl | (simp [errW_none, errW_some] <;> rfl) | (simp [*, errW_none, errW_some] <;> rfl), by repeat (first | (with_reducible first | exact HB.out | apply below_alloc | apply pw_below_drewN | apply below_drew1) | exact HB.out)⟩
        · rw [if_neg c23] at H
          have c23b0 : (a1 == 0) = false := beq_eq_false_iff_ne.mpr c23
          have c23b1 : (a1 != 0) = true := bne_iff_ne.mpr c23
          by_cases c25 : t187 = 0
          · rw [if_pos c25] at H
            have c25b0 : (t187 == 0) = true := beq_iff_eq.mpr c25
            have c25b1 : (t187 != 0) = false := bne_eq_false_iff_eq.mpr c25
            clear c25
            replace H := Option.bind_eq_some_iff.mp H
            obtain ⟨t189, A260, H⟩ := H
            replace H : (some t189) = some r := H
            have A26 := Aside0.mk A260
            clear A260
            obtain rfl := Option.some.inj H
            go_wp2_with (first | ((with_reducible refine gate_callee (f := 15) rfl ?_); refine goesL_ (some 83) rfl rfl Try.func15 (by kernel_rfl) rfl #[.int .u32 a0, .int .u32 a1, .bool true] rfl (by (try simp only [List.map_toArray, List.map_cons, List.map_nil]); first | done | rfl | (simp only [List.length_drop, List.length_take]; rfl)) ?_; (with_reducible refine (word_Div.calls a0 a1 true t186 t187 _ A22.out).mono ?_); rintro e w' ⟨rfl, ⟨nd, rfl⟩⟩; refine ⟨_, rfl, ?_⟩) | (go_at_call 12; (with_reducible refine (pianolalaw1_known.calls  t189 _ A26.out).mono ?_); rintro e w' ⟨rfl, ⟨nd, rfl⟩⟩) | (go_at_call 15; (with_reducible refine (word_Div.calls a0 a1 true t186 t187 _ A22.out).mono ?_); rintro e w' ⟨rfl, ⟨nd, rfl⟩⟩))
            go_ret
            exact ⟨by first | rfl | (simp [errW_none, errW_some] <;> rfl) | (simp [*, errW_none, errW_some] <;> rfl), by repeat (first | (with_reducible first | exact HB.out | apply below_alloc | apply pw_below_drewN | apply below_drew1) | exact HB.out)⟩
          · rw [if_neg c25] at H
            have c25b0 : (t187 == 0) = false := beq_eq_false_iff_ne.mpr c25
            have c25b1 : (t187 != 0) = true := bne_iff_ne.mpr c25
            by_cases c27 : (t187 / 2147483648) = (a0 / 2147483648)
            · rw [if_pos c27] at H
              have c27b0 : ((t187 / 2147483648) == (a0 / 2147483648)) = true := beq_iff_eq.mpr c27
              have c27b1 : ((t187 / 2147483648) != (a0 / 2147483648)) = false := bne_eq_false_iff_eq.mpr c27
              clear c27
              replace H := Option.bind_eq_some_iff.mp H
              obtain ⟨t190, A280, H⟩ := H
              replace H : (some t190) = some r := H
              have A28 := Aside0.mk A280
              clear A280
              obtain rfl := Option.some.inj H
              go_wp2_with (first | ((with_reducible refine gate_callee (f := 15) rfl ?_); refine goesL_ (some 83) rfl rfl Try.func15 (by kernel_rfl) rfl #[.int .u32 a0, .int .u32 a1, .bool true] rfl (by (try simp only [List.map_toArray, List.map_cons, List.map_nil]); first | done | rfl | (simp only [List.length_drop, List.length_take]; rfl)) ?_; (with_reducible refine (word_Div.calls a0 a1 true t186 t187 _ A22.out).mono ?_); rintro e w' ⟨rfl, ⟨nd, rfl⟩⟩; refine ⟨_, rfl, ?_⟩) | (go_at_call 12; (with_reducible refine (pianolalaw1_known.calls  t190 _ A28.out).mono ?_); rintro e w' ⟨rfl, ⟨nd, rfl⟩⟩) | (go_at_call 15; (with_reducible refine (word_Div.calls a0 a1 true t186 t187 _ A22.out).mono ?_); rintro e w' ⟨rfl, ⟨nd, rfl⟩⟩))
              go_ret
              exact ⟨by first | rfl | (simp [errW_none, errW_some] <;> rfl) | (simp [*, errW_none, errW_some] <;> rfl), by repeat (first | (with_reducible first | exact HB.out | apply below_alloc | apply pw_below_drewN | apply below_drew1) | exact HB.out)⟩
            · rw [if_neg c27] at H
              have c27b0 : ((t187 / 2147483648) == (a0 / 2147483648)) = false := beq_eq_false_iff_ne.mpr c27
              have c27b1 : ((t187 / 2147483648) != (a0 / 2147483648)) = true := bne_iff_ne.mpr c27
              obtain rfl := Option.some.inj H
              go_wp2_with (first | ((with_reducible refine gate_callee (f := 15) rfl ?_); refine goesL_ (some 83) rfl rfl Try.func15 (by kernel_rfl) rfl #[.int .u32 a0, .int .u32 a1, .bool true] rfl (by (try simp only [List.map_toArray, List.map_cons, List.map_nil]); first | done | rfl | (simp only [List.length_drop, List.length_take]; rfl)) ?_; (with_reducible refine (word_Div.calls a0 a1 true t186 t187 _ A22.out).mono ?_); rintro e w' ⟨rfl, ⟨nd, rfl⟩⟩; refine ⟨_, rfl, ?_⟩) | (go_at_call 15; (with_reducible refine (word_Div.calls a0 a1 true t186 t187 _ A22.out).mono ?_); rintro e w' ⟨rfl, ⟨nd, rfl⟩⟩))
              go_ret
              exact ⟨by first | rfl | (simp [errW_none, errW_some] <;> rfl) | (simp [*, errW_none, errW_some] <;> rfl), by repeat (first | (with_reducible first | exact HB.out | apply below_alloc | apply pw_below_drewN | apply below_drew1) | exact HB.out)⟩

/-- THE ONE PURE STATEMENT of pianolalaw1_WordBack: yours. -/
def pianolalaw1_WordBack.Pure : Prop := ∀ (a0 : Int) (a1 : Int), (Lit.int .u32 a0).wf = true → (Lit.int .u32 a1).wf = true → ∃ k, pianolalaw1_WordBack.f k a0 a1 = some true
theorem pianolalaw1_WordBack.walk (P : pianolalaw1_WordBack.Pure) (a0 : Int) (a1 : Int) (w : World) (w0 : (Lit.int .u32 a0).wf = true) (w1 : (Lit.int .u32 a1).wf = true) :
    Calls Try.prog 5 #[.int .u32 a0, .int .u32 a1] w fun e w' => e = .returned (.bool true) ∧ Below w.heap.size w w' := by
  obtain ⟨k, h⟩ := P a0 a1 w0 w1
  refine (pianolalaw1_WordBack.calls k a0 a1 true w h).mono ?_
  rintro e w' ⟨rfl, hd⟩
  exact ⟨rfl, hd⟩

end Go.Proofs.Ytdagmhgmegpdpaa.Q
