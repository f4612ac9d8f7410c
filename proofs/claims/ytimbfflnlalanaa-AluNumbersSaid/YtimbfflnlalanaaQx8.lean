-- Written by a program of this session: a turned copy of the kit's print (wip/print/fork.py), whose words lie beside.
import Derived.Test.YtimbfflnlalanaaQx0
import Derived.Test.YtimbfflnlalanaaQx3
import Derived.Test.YtimbfflnlalanaaQx7
namespace Go.Proofs.Ytimbfflnlalanaa.Q
open Go.RowKit Go.Proofs.YtimbfflnlalanaaW.PrintWords Go.Proofs.YtimbfflnlalanaaW.PrintLast Go.Proofs.YtimbfflnlalanaaW.PrintMore
attribute [local go_sem] max2_int min2_int max_two min_two max_three min_three max_four min_four   -- for this text's walks alone
set_option linter.unusedVariables false
set_option linter.unusedSimpArgs false

/-! ### pianolalaw4_AluNumbers: function 5 -/
mutual
def pianolalaw4_AluNumbers.l0 : Nat → Int → Option (Bool)
  | 0, _ => none
  | k + 1, x1 => if x1 < 80 then (pianolalaw4_AluNumbers.l1 k x1 0) else ((pianolalaw4_known.f k).bind fun t194 => (some t194))
def pianolalaw4_AluNumbers.l1 : Nat → Int → Int → Option (Bool)
  | 0, _, _ => none
  | k + 1, x1, x2 => if x2 < 13 then (pianolalaw4_AluNumbers.l2 k x1 x2 0) else (pianolalaw4_AluNumbers.l0 k (wrap64 (x1 + 1)))
def pianolalaw4_AluNumbers.l2 : Nat → Int → Int → Int → Option (Bool)
  | 0, _, _, _ => none
  | k + 1, x1, x2, x3 => if x3 < 13 then ((pianolalaw4_edge.f x3).bind fun t195 => ((pianolalaw4_edge.f x2).bind fun t196 => ((pianolalaw4_edge.f x3).bind fun t197 => ((pianolalaw4_same.f k x1 1 2 3 (wrap64 (x2 * 2)) (Go.bits .and .u32 t195 65535) t196 t197 5 6).bind fun t198 => (if t198 = true then (pianolalaw4_AluNumbers.l2 k x1 x2 (wrap64 (x3 + 1))) else (some false)))))) else (pianolalaw4_AluNumbers.l1 k x1 (wrap64 (x2 + 1)))
end
def pianolalaw4_AluNumbers.f (k : Nat)  : Option (Bool) := pianolalaw4_AluNumbers.l0 k (-1)
theorem pianolalaw4_AluNumbers.mono_l : ∀ k, (∀ y0, LeO (pianolalaw4_AluNumbers.l0 k y0) (pianolalaw4_AluNumbers.l0 (k + 1) y0)) ∧ (∀ y0 y1, LeO (pianolalaw4_AluNumbers.l1 k y0 y1) (pianolalaw4_AluNumbers.l1 (k + 1) y0 y1)) ∧ (∀ y0 y1 y2, LeO (pianolalaw4_AluNumbers.l2 k y0 y1 y2) (pianolalaw4_AluNumbers.l2 (k + 1) y0 y1 y2))
  | 0 => ⟨fun _ r h => by simp [pianolalaw4_AluNumbers.l0] at h, fun _ _ r h => by simp [pianolalaw4_AluNumbers.l1] at h, fun _ _ _ r h => by simp [pianolalaw4_AluNumbers.l2] at h⟩
  | k + 1 => by
    obtain ⟨ih0, ih1, ih2⟩ := pianolalaw4_AluNumbers.mono_l k
    refine ⟨?_, ?_, ?_⟩
    · intro y0
      unfold pianolalaw4_AluNumbers.l0
      repeat' first
      | (with_reducible exact ih0 _)
      | (with_reducible exact ih1 _ _)
      | (with_reducible exact ih2 _ _ _)
      | (with_reducible exact pianolalaw4_known.mono _)
      | (with_reducible exact pianolalaw4_same.mono _ _ _ _ _ _ _ _ _ _ _)
      | (with_reducible exact LeO.refl _)
      | (with_reducible exact LeO.none _)
      | (with_reducible refine LeO.ite ?_ ?_)
      | (with_reducible refine LeO.bind ?_ (fun _ => ?_))
      | exact ih0 _
      | exact ih1 _ _
      | exact ih2 _ _ _
      | exact pianolalaw4_known.mono _
      | exact pianolalaw4_same.mono _ _ _ _ _ _ _ _ _ _ _
      | exact LeO.none _
      | refine LeO.ite ?_ ?_
      | refine LeO.bind ?_ (fun _ => ?_)
    · intro y0 y1
      unfold pianolalaw4_AluNumbers.l1
      repeat' first
      | (with_reducible exact ih0 _)
      | (with_reducible exact ih1 _ _)
      | (with_reducible exact ih2 _ _ _)
      | (with_reducible exact pianolalaw4_known.mono _)
      | (with_reducible exact pianolalaw4_same.mono _ _ _ _ _ _ _ _ _ _ _)
      | (with_reducible exact LeO.refl _)
      | (with_reducible exact LeO.none _)
      | (with_reducible refine LeO.ite ?_ ?_)
      | (with_reducible refine LeO.bind ?_ (fun _ => ?_))
      | exact ih0 _
      | exact ih1 _ _
      | exact ih2 _ _ _
      | exact pianolalaw4_known.mono _
      | exact pianolalaw4_same.mono _ _ _ _ _ _ _ _ _ _ _
      | exact LeO.none _
      | refine LeO.ite ?_ ?_
      | refine LeO.bind ?_ (fun _ => ?_)
    · intro y0 y1 y2
      unfold pianolalaw4_AluNumbers.l2
      repeat' first
      | (with_reducible exact ih0 _)
      | (with_reducible exact ih1 _ _)
      | (with_reducible exact ih2 _ _ _)
      | (with_reducible exact pianolalaw4_known.mono _)
      | (with_reducible exact pianolalaw4_same.mono _ _ _ _ _ _ _ _ _ _ _)
      | (with_reducible exact LeO.refl _)
      | (with_reducible exact LeO.none _)
      | (with_reducible refine LeO.ite ?_ ?_)
      | (with_reducible refine LeO.bind ?_ (fun _ => ?_))
      | exact ih0 _
      | exact ih1 _ _
      | exact ih2 _ _ _
      | exact pianolalaw4_known.mono _
      | exact pianolalaw4_same.mono _ _ _ _ _ _ _ _ _ _ _
      | exact LeO.none _
      | refine LeO.ite ?_ ?_
      | refine LeO.bind ?_ (fun _ => ?_)
theorem pianolalaw4_AluNumbers.mono : ∀ k, LeO (pianolalaw4_AluNumbers.f k ) (pianolalaw4_AluNumbers.f (k + 1) ) := by
  intro  k
  obtain ⟨ih0, ih1, ih2⟩ := pianolalaw4_AluNumbers.mono_l k
  unfold pianolalaw4_AluNumbers.f
  repeat' first
      | (with_reducible exact ih0 _)
      | (with_reducible exact ih1 _ _)
      | (with_reducible exact ih2 _ _ _)
      | (with_reducible exact pianolalaw4_known.mono _)
      | (with_reducible exact pianolalaw4_same.mono _ _ _ _ _ _ _ _ _ _ _)
      | (with_reducible exact LeO.refl _)
      | (with_reducible exact LeO.none _)
      | (with_reducible refine LeO.ite ?_ ?_)
      | (with_reducible refine LeO.bind ?_ (fun _ => ?_))
      | exact ih0 _
      | exact ih1 _ _
      | exact ih2 _ _ _
      | exact pianolalaw4_known.mono _
      | exact pianolalaw4_same.mono _ _ _ _ _ _ _ _ _ _ _
      | exact LeO.none _
      | refine LeO.ite ?_ ?_
      | refine LeO.bind ?_ (fun _ => ?_)
set_option maxHeartbeats 8000000 in
set_option maxRecDepth 100000 in
theorem pianolalaw4_AluNumbers.calls (k : Nat)  (r : Bool) (w : World) (h : pianolalaw4_AluNumbers.f k  = some r) :
    Calls Try.prog 5 #[] w fun e w' => e = .returned (.bool r) ∧ Below w.heap.size w w' := by
  have hu26 := Try.underlying26
  have HB := Aside0.mk (Below.refl w.heap.size w)
  have H : (pianolalaw4_AluNumbers.l0 k (-1)) = some r := h
  clear h
  have H' := Aside0.mk H
  clear H
  go_enter Try.func5, Try.ntmps5
  go_wp2
  go_loopg [1] k (fun kq v1 w' => ∃ (x1_1 : Int), v1 = .int .i64 x1_1 ∧ Aside0 (pianolalaw4_AluNumbers.l0 kq x1_1 = some r) ∧ Aside0 (kq ≤ k) ∧ Aside0 (Below w.heap.size w w'))
  case atStart => exact ⟨((-1)), (by first | rfl | (simp; done) | (simp [*]; done) | (simp; omega)), H', ⟨Nat.le_refl _⟩, ⟨by repeat (first | (with_reducible first | exact HB.out | apply below_alloc | apply pw_below_drewN | apply below_drew1) | exact HB.out)⟩⟩
  case round =>
    clear H'
    obtain ⟨x1_1, rfl, HA, HK1, HB⟩ := hrel
    cases gk with
    | zero => exact absurd HA.out (by simp [pianolalaw4_AluNumbers.l0])
    | succ k1 =>
      have H := HA.out
      clear HA
      simp only [pianolalaw4_AluNumbers.l0] at H
      by_cases c1 : x1_1 < 80
      · rw [if_pos c1] at H
        have c1b0 : decide (x1_1 < 80) = true := decide_eq_true c1
        clear c1
        have H' := Aside0.mk H
        clear H
        go_wp2
        go_loopg [2] k1 (fun kq v2 w' => ∃ (x2_2 : Int), v2 = .int .i64 x2_2 ∧ Aside0 (pianolalaw4_AluNumbers.l1 kq x1_1 x2_2 = some r) ∧ Aside0 (kq ≤ k1) ∧ Aside0 (Below w.heap.size w w'))
        case atStart => exact ⟨(0), (by first | rfl | (simp; done) | (simp [*]; done) | (simp; omega)), H', ⟨Nat.le_refl _⟩, ⟨by repeat (first | (with_reducible first | exact HB.out | apply below_alloc | apply pw_below_drewN | apply below_drew1) | exact HB.out)⟩⟩
        case round =>
          clear H'
          try clear c1
          try clear c1b0
          obtain ⟨x2_2, rfl, HA, HK2, HB⟩ := hrel
          cases gk with
          | zero => exact absurd HA.out (by simp [pianolalaw4_AluNumbers.l1])
          | succ k2 =>
            have H := HA.out
            clear HA
            simp only [pianolalaw4_AluNumbers.l1] at H
            by_cases c2 : x2_2 < 13
            · rw [if_pos c2] at H
              have c2b0 : decide (x2_2 < 13) = true := decide_eq_true c2
              clear c2
              have H' := Aside0.mk H
              clear H
              go_wp2
              go_loopg [3] k2 (fun kq v3 w' => ∃ (x3_3 : Int), v3 = .int .i64 x3_3 ∧ Aside0 (pianolalaw4_AluNumbers.l2 kq x1_1 x2_2 x3_3 = some r) ∧ Aside0 (kq ≤ k2) ∧ Aside0 (Below w.heap.size w w'))
              case atStart => exact ⟨(0), (by first | rfl | (simp; done) | (simp [*]; done) | (simp; omega)), H', ⟨Nat.le_refl _⟩, ⟨by repeat (first | (with_reducible first | exact HB.out | apply below_alloc | apply pw_below_drewN | apply below_drew1) | exact HB.out)⟩⟩
              case round =>
                clear H'
                try clear c1
                try clear c1b0
                try clear c2
                try clear c2b0
                try clear p2
                obtain ⟨x3_3, rfl, HA, HK3, HB⟩ := hrel
                cases gk with
                | zero => exact absurd HA.out (by simp [pianolalaw4_AluNumbers.l2])
                | succ k3 =>
                  have H := HA.out
                  clear HA
                  simp only [pianolalaw4_AluNumbers.l2] at H
                  by_cases c3 : x3_3 < 13
                  · rw [if_pos c3] at H
                    have c3b0 : decide (x3_3 < 13) = true := decide_eq_true c3
                    clear c3
                    replace H := Option.bind_eq_some_iff.mp H
                    obtain ⟨t195, A40, H⟩ := H
                    replace H : ((pianolalaw4_edge.f x2_2).bind fun t196 => ((pianolalaw4_edge.f x3_3).bind fun t197 => ((pianolalaw4_same.f k3 x1_1 1 2 3 (wrap64 (x2_2 * 2)) (Go.bits .and .u32 t195 65535) t196 t197 5 6).bind fun t198 => (if t198 = true then (pianolalaw4_AluNumbers.l2 k3 x1_1 x2_2 (wrap64 (x3_3 + 1))) else (some false))))) = some r := H
                    have A4 := Aside0.mk A40
                    clear A40
                    replace H := Option.bind_eq_some_iff.mp H
                    obtain ⟨t196, A50, H⟩ := H
                    replace H : ((pianolalaw4_edge.f x3_3).bind fun t197 => ((pianolalaw4_same.f k3 x1_1 1 2 3 (wrap64 (x2_2 * 2)) (Go.bits .and .u32 t195 65535) t196 t197 5 6).bind fun t198 => (if t198 = true then (pianolalaw4_AluNumbers.l2 k3 x1_1 x2_2 (wrap64 (x3_3 + 1))) else (some false)))) = some r := H
                    have A5 := Aside0.mk A50
                    clear A50
                    replace H := Option.bind_eq_some_iff.mp H
                    obtain ⟨t197, A60, H⟩ := H
                    replace H : ((pianolalaw4_same.f k3 x1_1 1 2 3 (wrap64 (x2_2 * 2)) (Go.bits .and .u32 t195 65535) t196 t197 5 6).bind fun t198 => (if t198 = true then (pianolalaw4_AluNumbers.l2 k3 x1_1 x2_2 (wrap64 (x3_3 + 1))) else (some false))) = some r := H
                    have A6 := Aside0.mk A60
                    clear A60
                    replace H := Option.bind_eq_some_iff.mp H
                    obtain ⟨t198, A70, H⟩ := H
                    replace H : (if t198 = true then (pianolalaw4_AluNumbers.l2 k3 x1_1 x2_2 (wrap64 (x3_3 + 1))) else (some false)) = some r := H
                    have A7 := Aside0.mk A70
                    clear A70
                    by_cases c8 : t198 = true
                    · subst c8
                      have H1 : (pianolalaw4_AluNumbers.l2 k3 x1_1 x2_2 (wrap64 (x3_3 + 1))) = some r := by rw [if_pos rfl] at H; exact H
                      clear H
                      have H := H1
                      clear H1
                      have H' := Aside0.mk H
                      clear H
                      go_wp2_with (first | ((with_reducible refine gate_callee (f := 11) rfl ?_); refine goesL_ (some 20) rfl rfl Try.func11 (by kernel_rfl) rfl #[.int .i64 x3_3] rfl (by (try simp only [List.map_toArray, List.map_cons, List.map_nil]); first | done | rfl | (simp only [List.length_drop, List.length_take]; rfl)) ?_; (with_reducible refine (pianolalaw4_edge.calls x3_3 t195 _ A4.out).mono ?_); rintro e w9 ⟨rfl, hb⟩; refine ⟨_, rfl, ?_⟩; have n0_ := Aside0.mk (below_step (by repeat (first | (with_reducible first | exact HB.out | apply below_alloc | apply pw_below_drewN | apply below_drew1) | exact HB.out)) hb); clear HB; have HB := n0_; clear n0_; (try clear hb); (try clear hb2); (try clear hk); (try clear hi)) | ((with_reducible refine gate_callee (f := 11) rfl ?_); refine goesL_ (some 24) rfl rfl Try.func11 (by kernel_rfl) rfl #[.int .i64 x2_2] rfl (by (try simp only [List.map_toArray, List.map_cons, List.map_nil]); first | done | rfl | (simp only [List.length_drop, List.length_take]; rfl)) ?_; (with_reducible refine (pianolalaw4_edge.calls x2_2 t196 _ A5.out).mono ?_); rintro e w10 ⟨rfl, hb⟩; refine ⟨_, rfl, ?_⟩; have n0_ := Aside0.mk (below_step (by repeat (first | (with_reducible first | exact HB.out | apply below_alloc | apply pw_below_drewN | apply below_drew1) | exact HB.out)) hb); clear HB; have HB := n0_; clear n0_; (try clear hb); (try clear hb2); (try clear hk); (try clear hi)) | ((with_reducible refine gate_callee (f := 11) rfl ?_); refine goesL_ (some 26) rfl rfl Try.func11 (by kernel_rfl) rfl #[.int .i64 x3_3] rfl (by (try simp only [List.map_toArray, List.map_cons, List.map_nil]); first | done | rfl | (simp only [List.length_drop, List.length_take]; rfl)) ?_; (with_reducible refine (pianolalaw4_edge.calls x3_3 t197 _ A6.out).mono ?_); rintro e w11 ⟨rfl, hb⟩; refine ⟨_, rfl, ?_⟩; have n0_ := Aside0.mk (below_step (by repeat (first | (with_reducible first | exact HB.out | apply below_alloc | apply pw_below_drewN | apply below_drew1) | exact HB.out)) hb); clear HB; have HB := n0_; clear n0_; (try clear hb); (try clear hb2); (try clear hk); (try clear hi)) | ((with_reducible refine gate_callee (f := 10) rfl ?_); refine goesL_ (some 27) rfl rfl Try.func10 (by kernel_rfl) rfl #[.agg #[.int .i64 x1_1, .int .i64 1, .int .i64 2, .int .i64 3, .int .i64 (wrap64 (x2_2 * 2)), .int .u32 (Go.bits .and .u32 t195 65535)], .int .u32 t196, .int .u32 t197, .int .u32 5, .int .u32 6] rfl (by (try simp only [List.map_toArray, List.map_cons, List.map_nil]); first | done | rfl | (simp only [List.length_drop, List.length_take]; rfl)) ?_; (with_reducible refine (pianolalaw4_same.calls k3 x1_1 1 2 3 (wrap64 (x2_2 * 2)) (Go.bits .and .u32 t195 65535) t196 t197 5 6 true _ A7.out).mono ?_); rintro e w12 ⟨rfl, hb⟩; refine ⟨_, rfl, ?_⟩; have n0_ := Aside0.mk (below_step (by repeat (first | (with_reducible first | exact HB.out | apply below_alloc | apply pw_below_drewN | apply below_drew1) | exact HB.out)) hb); clear HB; have HB := n0_; clear n0_; (try clear hb); (try clear hb2); (try clear hk); (try clear hi)))
                      go_roundg k3
                      case measure => have := HK1.out; have := HK2.out; have := HK3.out; omega
                      case rel => exact ⟨(wrap64 (x3_3 + 1)), (by first | rfl | (simp; done) | (simp [*]; done) | (simp; omega)), H', ⟨by have := HK1.out; have := HK2.out; have := HK3.out; omega⟩, ⟨by repeat (first | (with_reducible first | exact HB.out | apply below_alloc | apply pw_below_drewN | apply below_drew1) | exact HB.out)⟩⟩
                    · replace c8 := Bool.eq_false_iff.mpr c8
                      subst c8
                      have H1 : (some false) = some r := by rw [if_neg (show ¬ (false = true) by decide)] at H; exact H
                      clear H
                      have H := H1
                      clear H1
                      obtain rfl := Option.some.inj H
                      go_wp2_with (first | ((with_reducible refine gate_callee (f := 11) rfl ?_); refine goesL_ (some 20) rfl rfl Try.func11 (by kernel_rfl) rfl #[.int .i64 x3_3] rfl (by (try simp only [List.map_toArray, List.map_cons, List.map_nil]); first | done | rfl | (simp only [List.length_drop, List.length_take]; rfl)) ?_; (with_reducible refine (pianolalaw4_edge.calls x3_3 t195 _ A4.out).mono ?_); rintro e w13 ⟨rfl, hb⟩; refine ⟨_, rfl, ?_⟩; have n0_ := Aside0.mk (below_step (by repeat (first | (with_reducible first | exact HB.out | apply below_alloc | apply pw_below_drewN | apply below_drew1) | exact HB.out)) hb); clear HB; have HB := n0_; clear n0_; (try clear hb); (try clear hb2); (try clear hk); (try clear hi)) | ((with_reducible refine gate_callee (f := 11) rfl ?_); refine goesL_ (some 24) rfl rfl Try.func11 (by kernel_rfl) rfl #[.int .i64 x2_2] rfl (by (try simp only [List.map_toArray, List.map_cons, List.map_nil]); first | done | rfl | (simp only [List.length_drop, List.length_take]; rfl)) ?_; (with_reducible refine (pianolalaw4_edge.calls x2_2 t196 _ A5.out).mono ?_); rintro e w14 ⟨rfl, hb⟩; refine ⟨_, rfl, ?_⟩; have n0_ := Aside0.mk (below_step (by repeat (first | (with_reducible first | exact HB.out | apply below_alloc | apply pw_below_drewN | apply below_drew1) | exact HB.out)) hb); clear HB; have HB := n0_; clear n0_; (try clear hb); (try clear hb2); (try clear hk); (try clear hi)) | ((with_reducible refine gate_callee (f := 11) rfl ?_); refine goesL_ (some 26) rfl rfl Try.func11 (by kernel_rfl) rfl #[.int .i64 x3_3] rfl (by (try simp only [List.map_toArray, List.map_cons, List.map_nil]); first | done | rfl | (simp only [List.length_drop, List.length_take]; rfl)) ?_; (with_reducible refine (pianolalaw4_edge.calls x3_3 t197 _ A6.out).mono ?_); rintro e w15 ⟨rfl, hb⟩; refine ⟨_, rfl, ?_⟩; have n0_ := Aside0.mk (below_step (by repeat (first | (with_reducible first | exact HB.out | apply below_alloc | apply pw_below_drewN | apply below_drew1) | exact HB.out)) hb); clear HB; have HB := n0_; clear n0_; (try clear hb); (try clear hb2); (try clear hk); (try clear hi)) | ((with_reducible refine gate_callee (f := 10) rfl ?_); refine goesL_ (some 27) rfl rfl Try.func10 (by kernel_rfl) rfl #[.agg #[.int .i64 x1_1, .int .i64 1, .int .i64 2, .int .i64 3, .int .i64 (wrap64 (x2_2 * 2)), .int .u32 (Go.bits .and .u32 t195 65535)], .int .u32 t196, .int .u32 t197, .int .u32 5, .int .u32 6] rfl (by (try simp only [List.map_toArray, List.map_cons, List.map_nil]); first | done | rfl | (simp only [List.length_drop, List.length_take]; rfl)) ?_; (with_reducible refine (pianolalaw4_same.calls k3 x1_1 1 2 3 (wrap64 (x2_2 * 2)) (Go.bits .and .u32 t195 65535) t196 t197 5 6 false _ A7.out).mono ?_); rintro e w16 ⟨rfl, hb⟩; refine ⟨_, rfl, ?_⟩; have n0_ := Aside0.mk (below_step (by repeat (first | (with_reducible first | exact HB.out | apply below_alloc | apply pw_below_drewN | apply below_drew1) | exact HB.out)) hb); clear HB; have HB := n0_; clear n0_; (try clear hb); (try clear hb2); (try clear hk); (try clear hi)))
                      go_ret
                      exact ⟨by first | rfl | (simp [errW_none, errW_some] <;> rfl) | (simp [*, errW_none, errW_some] <;> rfl), by repeat (first | (with_reducible first | exact HB.out | apply below_alloc | apply pw_below_drewN | apply below_drew1) | exact HB.out)⟩
                  · rw [if_neg c3] at H
                    have c3b0 : decide (x3_3 < 13) = false := decide_eq_false c3
                    clear c3
                    have H' := Aside0.mk H
                    clear H
                    go_wp2
                    go_roundg k3
                    case measure => have := HK1.out; have := HK2.out; have := HK3.out; omega
                    case rel => exact ⟨(wrap64 (x2_2 + 1)), (by first | rfl | (simp; done) | (simp [*]; done) | (simp; omega)), H', ⟨by have := HK1.out; have := HK2.out; have := HK3.out; omega⟩, ⟨by repeat (first | (with_reducible first | exact HB.out | apply below_alloc | apply pw_below_drewN | apply below_drew1) | exact HB.out)⟩⟩
            · rw [if_neg c2] at H
              have c2b0 : decide (x2_2 < 13) = false := decide_eq_false c2
              clear c2
              have H' := Aside0.mk H
              clear H
              go_wp2
              go_roundg k2
              case measure => have := HK1.out; have := HK2.out; omega
              case rel => exact ⟨(wrap64 (x1_1 + 1)), (by first | rfl | (simp; done) | (simp [*]; done) | (simp; omega)), H', ⟨by have := HK1.out; have := HK2.out; omega⟩, ⟨by repeat (first | (with_reducible first | exact HB.out | apply below_alloc | apply pw_below_drewN | apply below_drew1) | exact HB.out)⟩⟩
      · rw [if_neg c1] at H
        have c1b0 : decide (x1_1 < 80) = false := decide_eq_false c1
        clear c1
        replace H := Option.bind_eq_some_iff.mp H
        obtain ⟨t194, A170, H⟩ := H
        replace H : (some t194) = some r := H
        have A17 := Aside0.mk A170
        clear A170
        obtain rfl := Option.some.inj H
        go_wp2_with (first | ((with_reducible refine gate_callee (f := 8) rfl ?_); refine goesL_ (some 29) rfl rfl Try.func8 (by kernel_rfl) rfl #[] rfl (by (try simp only [List.map_toArray, List.map_cons, List.map_nil]); first | done | rfl | (simp only [List.length_drop, List.length_take]; rfl)) ?_; (with_reducible refine (pianolalaw4_known.calls k1  t194 _ A17.out).mono ?_); rintro e w18 ⟨rfl, hb⟩; refine ⟨_, rfl, ?_⟩; have n0_ := Aside0.mk (below_step (by repeat (first | (with_reducible first | exact HB.out | apply below_alloc | apply pw_below_drewN | apply below_drew1) | exact HB.out)) hb); clear HB; have HB := n0_; clear n0_; (try clear hb); (try clear hb2); (try clear hk); (try clear hi)))
        go_ret
        exact ⟨by first | rfl | (simp [errW_none, errW_some] <;> rfl) | (simp [*, errW_none, errW_some] <;> rfl), by repeat (first | (with_reducible first | exact HB.out | apply below_alloc | apply pw_below_drewN | apply below_drew1) | exact HB.out)⟩

/-- THE ONE PURE STATEMENT of pianolalaw4_AluNumbers: yours. -/
def pianolalaw4_AluNumbers.Pure : Prop := ∃ k, pianolalaw4_AluNumbers.f k  = some true
theorem pianolalaw4_AluNumbers.walk (P : pianolalaw4_AluNumbers.Pure)  (w : World)  :
    Calls Try.prog 5 #[] w fun e w' => e = .returned (.bool true) ∧ Below w.heap.size w w' := by
  obtain ⟨k, h⟩ := P  
  refine (pianolalaw4_AluNumbers.calls k  true w h).mono ?_
  rintro e w' ⟨rfl, hd⟩
  exact ⟨rfl, hd⟩

/-! ### pianolabook_Within: function 29 -/
def pianolabook_Within.j0 : Nat → Int → Int → Int → Bool → Option (Int)
  | 0, _, _, _, _ => none
  | k + 1, x0, x1, x2, x14 => if x14 = true then (some x0) else (if (wrap64 ((wrap64 (x2 - x1)) + 1)) = 0 then (none) else (if (Int.tmod x0 (wrap64 ((wrap64 (x2 - x1)) + 1))) < 0 then (some (wrap64 (x1 + (wrap64 ((wrap64 ((wrap64 ((Int.tmod x0 (wrap64 ((wrap64 (x2 - x1)) + 1))) + x2)) - x1)) + 1))))) else (some (wrap64 (x1 + (Int.tmod x0 (wrap64 ((wrap64 (x2 - x1)) + 1))))))))
def pianolabook_Within.f (k : Nat) (a0 : Int) (a1 : Int) (a2 : Int) : Option (Int) := if a0 ≥ a1 then (pianolabook_Within.j0 k a0 a1 a2 (decide (a0 ≤ a2))) else (pianolabook_Within.j0 k a0 a1 a2 false)
theorem pianolabook_Within.mono_l : ∀ k, (∀ y0 y1 y2 y3, LeO (pianolabook_Within.j0 k y0 y1 y2 y3) (pianolabook_Within.j0 (k + 1) y0 y1 y2 y3))
  | 0 => fun _ _ _ _ r h => by simp [pianolabook_Within.j0] at h
  | k + 1 => by
    have ih0 := pianolabook_Within.mono_l k
    · intro y0 y1 y2 y3
      unfold pianolabook_Within.j0
      repeat' first
      | (with_reducible exact ih0 _ _ _ _)
      | (with_reducible exact LeO.refl _)
      | (with_reducible exact LeO.none _)
      | (with_reducible refine LeO.ite ?_ ?_)
      | (with_reducible refine LeO.bind ?_ (fun _ => ?_))
      | exact ih0 _ _ _ _
      | exact LeO.none _
      | refine LeO.ite ?_ ?_
      | refine LeO.bind ?_ (fun _ => ?_)
theorem pianolabook_Within.mono : ∀ a0 a1 a2 k, LeO (pianolabook_Within.f k a0 a1 a2) (pianolabook_Within.f (k + 1) a0 a1 a2) := by
  intro a0 a1 a2 k
  have ih0 := pianolabook_Within.mono_l k
  unfold pianolabook_Within.f
  repeat' first
      | (with_reducible exact ih0 _ _ _ _)
      | (with_reducible exact LeO.refl _)
      | (with_reducible exact LeO.none _)
      | (with_reducible refine LeO.ite ?_ ?_)
      | (with_reducible refine LeO.bind ?_ (fun _ => ?_))
      | exact ih0 _ _ _ _
      | exact LeO.none _
      | refine LeO.ite ?_ ?_
      | refine LeO.bind ?_ (fun _ => ?_)
set_option maxHeartbeats 8000000 in
set_option maxRecDepth 100000 in
theorem pianolabook_Within.calls (k : Nat) (a0 : Int) (a1 : Int) (a2 : Int) (r : Int) (w : World) (h : pianolabook_Within.f k a0 a1 a2 = some r) :
    Calls Try.prog 29 #[.int .i64 a0, .int .i64 a1, .int .i64 a2] w fun e w' => e = .returned (.int .i64 r) ∧ Drawn0 w w' := by
  have H : (if a0 ≥ a1 then (pianolabook_Within.j0 k a0 a1 a2 (decide (a0 ≤ a2))) else (pianolabook_Within.j0 k a0 a1 a2 false)) = some r := h
  clear h
  have HC4 := Aside0.mk H
  clear H
  go_enter Try.func29, Try.ntmps29
  go_upto_region 1 with (fail)
  go_cut [14] (fun v14 wc => ∃ (kq : Nat) (x14_3 : Bool), v14 = .bool x14_3 ∧ Aside0 (pianolabook_Within.j0 kq a0 a1 a2 x14_3 = some r) ∧ Aside0 (kq ≤ k) ∧ Drawn0 w wc)
  case first =>
    have H := HC4.out
    clear HC4
    by_cases c5 : a0 ≥ a1
    · rw [if_pos c5] at H
      have c5b0 : decide (a1 ≤ a0) = true := decide_eq_true c5
      clear c5
      (first | rw [c5b0] | (simp only [i64_w, i32_w]; rw [c5b0]) | skip)
      have H' := Aside0.mk H
      clear H
      go_wp2
      go_meet
      case rel => exact ⟨_, (decide (a0 ≤ a2)), (by first | rfl | (simp; done) | (simp [*]; done) | (simp; omega)), H', ⟨by first | omega | exact Nat.le_refl _⟩, by repeat (first | exact Drawn0.refl _ | apply Drawn0.step)⟩
    · rw [if_neg c5] at H
      have c5b0 : decide (a1 ≤ a0) = false := decide_eq_false c5
      clear c5
      (first | rw [c5b0] | (simp only [i64_w, i32_w]; rw [c5b0]) | skip)
      have H' := Aside0.mk H
      clear H
      go_wp2
      go_meet
      case rel => exact ⟨_, (false), (by first | rfl | (simp; done) | (simp [*]; done) | (simp; omega)), H', ⟨by first | omega | exact Nat.le_refl _⟩, by repeat (first | exact Drawn0.refl _ | apply Drawn0.step)⟩
  case rest =>
    clear HC4
    try clear c2
    try clear p2
    try clear c5
    try clear c5b0
    obtain ⟨kq, x14_3, rfl, HA, HJ3, ⟨mc3, rfl⟩⟩ := hcut
    cases kq with
    | zero => exact absurd HA.out (by simp [pianolabook_Within.j0])
    | succ kj3 =>
      have H := HA.out
      clear HA
      simp only [pianolabook_Within.j0] at H
      by_cases c6 : x14_3 = true
      · subst c6
        have H1 : (some a0) = some r := by rw [if_pos rfl] at H; exact H
        clear H
        have H := H1
        clear H1
        obtain rfl := Option.some.inj H
        go_wp2
        go_ret
        exact ⟨by first | rfl | (simp; done) | (simp [*]; done) | (simp; omega), by repeat (first | exact Drawn0.refl _ | apply Drawn0.step)⟩
      · replace c6 := Bool.eq_false_iff.mpr c6
        subst c6
        have H1 : (if (wrap64 ((wrap64 (a2 - a1)) + 1)) = 0 then (none) else (if (Int.tmod a0 (wrap64 ((wrap64 (a2 - a1)) + 1))) < 0 then (some (wrap64 (a1 + (wrap64 ((wrap64 ((wrap64 ((Int.tmod a0 (wrap64 ((wrap64 (a2 - a1)) + 1))) + a2)) - a1)) + 1))))) else (some (wrap64 (a1 + (Int.tmod a0 (wrap64 ((wrap64 (a2 - a1)) + 1)))))))) = some r := by rw [if_neg (show ¬ (false = true) by decide)] at H; exact H
        clear H
        have H := H1
        clear H1
        by_cases c7 : (wrap64 ((wrap64 (a2 - a1)) + 1)) = 0
        · rw [if_pos c7] at H
          exact absurd H (by simp)
        · rw [if_neg c7] at H
          have c7b0 : ((wrap64 ((wrap64 (a2 - a1)) + 1)) == 0) = false := beq_eq_false_iff_ne.mpr c7
          have c7b1 : ((wrap64 ((wrap64 (a2 - a1)) + 1)) != 0) = true := bne_iff_ne.mpr c7
          by_cases c8 : (Int.tmod a0 (wrap64 ((wrap64 (a2 - a1)) + 1))) < 0
          · rw [if_pos c8] at H
            have c8b0 : decide ((Int.tmod a0 (wrap64 ((wrap64 (a2 - a1)) + 1))) < 0) = true := decide_eq_true c8
            clear c8
            obtain rfl := Option.some.inj H
            go_wp2
            go_ret
            exact ⟨by first | rfl | (simp; done) | (simp [*]; done) | (simp; omega), by repeat (first | exact Drawn0.refl _ | apply Drawn0.step)⟩
          · rw [if_neg c8] at H
            have c8b0 : decide ((Int.tmod a0 (wrap64 ((wrap64 (a2 - a1)) + 1))) < 0) = false := decide_eq_false c8
            clear c8
            obtain rfl := Option.some.inj H
            go_wp2
            go_ret
            exact ⟨by first | rfl | (simp; done) | (simp [*]; done) | (simp; omega), by repeat (first | exact Drawn0.refl _ | apply Drawn0.step)⟩

/-! ### pianolakeep_near: function 45 -/
def pianolakeep_near.f (k : Nat) (a0 : Int) : Option (Int) := (pianolabook_Within.f k a0 0 1048576).bind fun t199 => (if (Int.tmod t199 8) = 7 then (some (Int.tmod (wrap64 (Int.tdiv t199 8)) 32)) else (some (Int.tmod (wrap64 (Int.tdiv t199 8)) 8)))
theorem pianolakeep_near.mono : ∀ a0 k, LeO (pianolakeep_near.f k a0) (pianolakeep_near.f (k + 1) a0) := by
  intro a0 k
  unfold pianolakeep_near.f
  repeat' first
      | (with_reducible exact pianolabook_Within.mono _ _ _ _)
      | (with_reducible exact LeO.refl _)
      | (with_reducible exact LeO.none _)
      | (with_reducible refine LeO.ite ?_ ?_)
      | (with_reducible refine LeO.bind ?_ (fun _ => ?_))
      | exact pianolabook_Within.mono _ _ _ _
      | exact LeO.none _
      | refine LeO.ite ?_ ?_
      | refine LeO.bind ?_ (fun _ => ?_)
set_option maxHeartbeats 8000000 in
set_option maxRecDepth 100000 in
theorem pianolakeep_near.calls (k : Nat) (a0 : Int) (r : Int) (w : World) (h : pianolakeep_near.f k a0 = some r) :
    Calls Try.prog 45 #[.int .i64 a0] w fun e w' => e = .returned (.int .i64 r) ∧ Drawn0 w w' := by
  have H : ((pianolabook_Within.f k a0 0 1048576).bind fun t199 => (if (Int.tmod t199 8) = 7 then (some (Int.tmod (wrap64 (Int.tdiv t199 8)) 32)) else (some (Int.tmod (wrap64 (Int.tdiv t199 8)) 8)))) = some r := h
  clear h
  replace H := Option.bind_eq_some_iff.mp H
  obtain ⟨t199, A20, H⟩ := H
  replace H : (if (Int.tmod t199 8) = 7 then (some (Int.tmod (wrap64 (Int.tdiv t199 8)) 32)) else (some (Int.tmod (wrap64 (Int.tdiv t199 8)) 8))) = some r := H
  have A2 := Aside0.mk A20
  clear A20
  by_cases c3 : (Int.tmod t199 8) = 7
  · rw [if_pos c3] at H
    have c3b0 : ((Int.tmod t199 8) == 7) = true := beq_iff_eq.mpr c3
    have c3b1 : ((Int.tmod t199 8) != 7) = false := bne_eq_false_iff_eq.mpr c3
    clear c3
    obtain rfl := Option.some.inj H
    go_enter Try.func45, Try.ntmps45
    go_wp2_with (first | ((with_reducible refine gate_callee (f := 29) rfl ?_); refine goesL_ (some 5) rfl rfl Try.func29 (by kernel_rfl) rfl #[.int .i64 a0, .int .i64 0, .int .i64 1048576] rfl (by (try simp only [List.map_toArray, List.map_cons, List.map_nil]); first | done | rfl | (simp only [List.length_drop, List.length_take]; rfl)) ?_; (with_reducible refine (pianolabook_Within.calls k a0 0 1048576 t199 _ A2.out).mono ?_); rintro e w' ⟨rfl, ⟨nd, rfl⟩⟩; refine ⟨_, rfl, ?_⟩) | (go_at_call 29; (with_reducible refine (pianolabook_Within.calls k a0 0 1048576 t199 _ A2.out).mono ?_); rintro e w' ⟨rfl, ⟨nd, rfl⟩⟩))
    go_ret
    exact ⟨by first | rfl | (simp; done) | (simp [*]; done) | (simp; omega), by repeat (first | exact Drawn0.refl _ | apply Drawn0.step)⟩
  · rw [if_neg c3] at H
    have c3b0 : ((Int.tmod t199 8) == 7) = false := beq_eq_false_iff_ne.mpr c3
    have c3b1 : ((Int.tmod t199 8) != 7) = true := bne_iff_ne.mpr c3
    obtain rfl := Option.some.inj H
    go_enter Try.func45, Try.ntmps45
    go_wp2_with (first | ((with_reducible refine gate_callee (f := 29) rfl ?_); refine goesL_ (some 5) rfl rfl Try.func29 (by kernel_rfl) rfl #[.int .i64 a0, .int .i64 0, .int .i64 1048576] rfl (by (try simp only [List.map_toArray, List.map_cons, List.map_nil]); first | done | rfl | (simp only [List.length_drop, List.length_take]; rfl)) ?_; (with_reducible refine (pianolabook_Within.calls k a0 0 1048576 t199 _ A2.out).mono ?_); rintro e w' ⟨rfl, ⟨nd, rfl⟩⟩; refine ⟨_, rfl, ?_⟩) | (go_at_call 29; (with_reducible refine (pianolabook_Within.calls k a0 0 1048576 t199 _ A2.out).mono ?_); rintro e w' ⟨rfl, ⟨nd, rfl⟩⟩))
    go_ret
    exact ⟨by first | rfl | (simp; done) | (simp [*]; done) | (simp; omega), by repeat (first | exact Drawn0.refl _ | apply Drawn0.step)⟩

/-! ### pianolaref3_special: function 55 -/
def pianolaref3_special.f  : Option ((List (S62))) := some (([(⟨0, 0, 1, (⟨#[116, 100, 104]⟩ : ByteArray)⟩ : S62), (⟨0, 2, 2, (⟨#[116, 100, 104]⟩ : ByteArray)⟩ : S62), (⟨0, 3, 3, (⟨#[116, 100, 104]⟩ : ByteArray)⟩ : S62), (⟨0, 4, 4, (⟨#[115, 116, 100]⟩ : ByteArray)⟩ : S62), (⟨0, 6, 5, (⟨#[115, 116, 100]⟩ : ByteArray)⟩ : S62), (⟨0, 7, 6, (⟨#[115, 116, 100]⟩ : ByteArray)⟩ : S62), (⟨0, 8, 7, (⟨#[115]⟩ : ByteArray)⟩ : S62), (⟨0, 9, 8, (⟨#[115, 100]⟩ : ByteArray)⟩ : S62), (⟨0, 10, 9, (⟨#[115, 116, 100]⟩ : ByteArray)⟩ : S62), (⟨0, 11, 10, (⟨#[115, 116, 100]⟩ : ByteArray)⟩ : S62), (⟨0, 12, 11, (⟨#[]⟩ : ByteArray)⟩ : S62), (⟨0, 13, 12, (⟨#[]⟩ : ByteArray)⟩ : S62), (⟨0, 15, 13, (⟨#[]⟩ : ByteArray)⟩ : S62), (⟨0, 16, 14, (⟨#[100]⟩ : ByteArray)⟩ : S62), (⟨0, 17, 15, (⟨#[115]⟩ : ByteArray)⟩ : S62), (⟨0, 18, 16, (⟨#[100]⟩ : ByteArray)⟩ : S62), (⟨0, 19, 17, (⟨#[115]⟩ : ByteArray)⟩ : S62), (⟨0, 24, 18, (⟨#[115, 116]⟩ : ByteArray)⟩ : S62), (⟨0, 25, 19, (⟨#[115, 116]⟩ : ByteArray)⟩ : S62), (⟨0, 26, 20, (⟨#[115, 116]⟩ : ByteArray)⟩ : S62), (⟨0, 27, 21, (⟨#[115, 116]⟩ : ByteArray)⟩ : S62), (⟨0, 32, 22, (⟨#[115, 116, 100]⟩ : ByteArray)⟩ : S62), (⟨0, 33, 23, (⟨#[115, 116, 100]⟩ : ByteArray)⟩ : S62), (⟨0, 34, 24, (⟨#[115, 116, 100]⟩ : ByteArray)⟩ : S62), (⟨0, 35, 25, (⟨#[115, 116, 100]⟩ : ByteArray)⟩ : S62), (⟨0, 36, 26, (⟨#[115, 116, 100]⟩ : ByteArray)⟩ : S62), (⟨0, 37, 27, (⟨#[115, 116, 100]⟩ : ByteArray)⟩ : S62), (⟨0, 38, 28, (⟨#[115, 116, 100]⟩ : ByteArray)⟩ : S62), (⟨0, 39, 29, (⟨#[115, 116, 100]⟩ : ByteArray)⟩ : S62), (⟨0, 42, 30, (⟨#[115, 116, 100]⟩ : ByteArray)⟩ : S62), (⟨0, 43, 31, (⟨#[115, 116, 100]⟩ : ByteArray)⟩ : S62), (⟨0, 48, 32, (⟨#[115, 116]⟩ : ByteArray)⟩ : S62), (⟨0, 50, 33, (⟨#[115, 116]⟩ : ByteArray)⟩ : S62), (⟨0, 52, 34, (⟨#[115, 116]⟩ : ByteArray)⟩ : S62), (⟨0, 54, 35, (⟨#[115, 116]⟩ : ByteArray)⟩ : S62)] : List (S62)))
set_option maxHeartbeats 8000000 in
set_option maxRecDepth 100000 in
theorem pianolaref3_special.calls  (r : List (S62)) (w : World) (h : pianolaref3_special.f  = some r) :
    Calls Try.prog 55 #[] w fun e w' => ∃ v0_ : Value, e = .returned (v0_) ∧ Kd.R k62 62 w' w.heap.size (fun _ => True) v0_ r ∧ Below w.heap.size w w' := by
  have hu62 := Try.underlying62
  have HB := Aside0.mk (Below.refl w.heap.size w)
  have H : (some (([(⟨0, 0, 1, (⟨#[116, 100, 104]⟩ : ByteArray)⟩ : S62), (⟨0, 2, 2, (⟨#[116, 100, 104]⟩ : ByteArray)⟩ : S62), (⟨0, 3, 3, (⟨#[116, 100, 104]⟩ : ByteArray)⟩ : S62), (⟨0, 4, 4, (⟨#[115, 116, 100]⟩ : ByteArray)⟩ : S62), (⟨0, 6, 5, (⟨#[115, 116, 100]⟩ : ByteArray)⟩ : S62), (⟨0, 7, 6, (⟨#[115, 116, 100]⟩ : ByteArray)⟩ : S62), (⟨0, 8, 7, (⟨#[115]⟩ : ByteArray)⟩ : S62), (⟨0, 9, 8, (⟨#[115, 100]⟩ : ByteArray)⟩ : S62), (⟨0, 10, 9, (⟨#[115, 116, 100]⟩ : ByteArray)⟩ : S62), (⟨0, 11, 10, (⟨#[115, 116, 100]⟩ : ByteArray)⟩ : S62), (⟨0, 12, 11, (⟨#[]⟩ : ByteArray)⟩ : S62), (⟨0, 13, 12, (⟨#[]⟩ : ByteArray)⟩ : S62), (⟨0, 15, 13, (⟨#[]⟩ : ByteArray)⟩ : S62), (⟨0, 16, 14, (⟨#[100]⟩ : ByteArray)⟩ : S62), (⟨0, 17, 15, (⟨#[115]⟩ : ByteArray)⟩ : S62), (⟨0, 18, 16, (⟨#[100]⟩ : ByteArray)⟩ : S62), (⟨0, 19, 17, (⟨#[115]⟩ : ByteArray)⟩ : S62), (⟨0, 24, 18, (⟨#[115, 116]⟩ : ByteArray)⟩ : S62), (⟨0, 25, 19, (⟨#[115, 116]⟩ : ByteArray)⟩ : S62), (⟨0, 26, 20, (⟨#[115, 116]⟩ : ByteArray)⟩ : S62), (⟨0, 27, 21, (⟨#[115, 116]⟩ : ByteArray)⟩ : S62), (⟨0, 32, 22, (⟨#[115, 116, 100]⟩ : ByteArray)⟩ : S62), (⟨0, 33, 23, (⟨#[115, 116, 100]⟩ : ByteArray)⟩ : S62), (⟨0, 34, 24, (⟨#[115, 116, 100]⟩ : ByteArray)⟩ : S62), (⟨0, 35, 25, (⟨#[115, 116, 100]⟩ : ByteArray)⟩ : S62), (⟨0, 36, 26, (⟨#[115, 116, 100]⟩ : ByteArray)⟩ : S62), (⟨0, 37, 27, (⟨#[115, 116, 100]⟩ : ByteArray)⟩ : S62), (⟨0, 38, 28, (⟨#[115, 116, 100]⟩ : ByteArray)⟩ : S62), (⟨0, 39, 29, (⟨#[115, 116, 100]⟩ : ByteArray)⟩ : S62), (⟨0, 42, 30, (⟨#[115, 116, 100]⟩ : ByteArray)⟩ : S62), (⟨0, 43, 31, (⟨#[115, 116, 100]⟩ : ByteArray)⟩ : S62), (⟨0, 48, 32, (⟨#[115, 116]⟩ : ByteArray)⟩ : S62), (⟨0, 50, 33, (⟨#[115, 116]⟩ : ByteArray)⟩ : S62), (⟨0, 52, 34, (⟨#[115, 116]⟩ : ByteArray)⟩ : S62), (⟨0, 54, 35, (⟨#[115, 116]⟩ : ByteArray)⟩ : S62)] : List (S62)))) = some r := h
  clear h
  obtain ⟨y200, hy200⟩ : ∃ y_ : List (S62), y_ = (([(⟨0, 0, 1, (⟨#[116, 100, 104]⟩ : ByteArray)⟩ : S62), (⟨0, 2, 2, (⟨#[116, 100, 104]⟩ : ByteArray)⟩ : S62), (⟨0, 3, 3, (⟨#[116, 100, 104]⟩ : ByteArray)⟩ : S62), (⟨0, 4, 4, (⟨#[115, 116, 100]⟩ : ByteArray)⟩ : S62), (⟨0, 6, 5, (⟨#[115, 116, 100]⟩ : ByteArray)⟩ : S62), (⟨0, 7, 6, (⟨#[115, 116, 100]⟩ : ByteArray)⟩ : S62), (⟨0, 8, 7, (⟨#[115]⟩ : ByteArray)⟩ : S62), (⟨0, 9, 8, (⟨#[115, 100]⟩ : ByteArray)⟩ : S62), (⟨0, 10, 9, (⟨#[115, 116, 100]⟩ : ByteArray)⟩ : S62), (⟨0, 11, 10, (⟨#[115, 116, 100]⟩ : ByteArray)⟩ : S62), (⟨0, 12, 11, (⟨#[]⟩ : ByteArray)⟩ : S62), (⟨0, 13, 12, (⟨#[]⟩ : ByteArray)⟩ : S62), (⟨0, 15, 13, (⟨#[]⟩ : ByteArray)⟩ : S62), (⟨0, 16, 14, (⟨#[100]⟩ : ByteArray)⟩ : S62), (⟨0, 17, 15, (⟨#[115]⟩ : ByteArray)⟩ : S62), (⟨0, 18, 16, (⟨#[100]⟩ : ByteArray)⟩ : S62), (⟨0, 19, 17, (⟨#[115]⟩ : ByteArray)⟩ : S62), (⟨0, 24, 18, (⟨#[115, 116]⟩ : ByteArray)⟩ : S62), (⟨0, 25, 19, (⟨#[115, 116]⟩ : ByteArray)⟩ : S62), (⟨0, 26, 20, (⟨#[115, 116]⟩ : ByteArray)⟩ : S62), (⟨0, 27, 21, (⟨#[115, 116]⟩ : ByteArray)⟩ : S62), (⟨0, 32, 22, (⟨#[115, 116, 100]⟩ : ByteArray)⟩ : S62), (⟨0, 33, 23, (⟨#[115, 116, 100]⟩ : ByteArray)⟩ : S62), (⟨0, 34, 24, (⟨#[115, 116, 100]⟩ : ByteArray)⟩ : S62), (⟨0, 35, 25, (⟨#[115, 116, 100]⟩ : ByteArray)⟩ : S62), (⟨0, 36, 26, (⟨#[115, 116, 100]⟩ : ByteArray)⟩ : S62), (⟨0, 37, 27, (⟨#[115, 116, 100]⟩ : ByteArray)⟩ : S62), (⟨0, 38, 28, (⟨#[115, 116, 100]⟩ : ByteArray)⟩ : S62), (⟨0, 39, 29, (⟨#[115, 116, 100]⟩ : ByteArray)⟩ : S62), (⟨0, 42, 30, (⟨#[115, 116, 100]⟩ : ByteArray)⟩ : S62), (⟨0, 43, 31, (⟨#[115, 116, 100]⟩ : ByteArray)⟩ : S62), (⟨0, 48, 32, (⟨#[115, 116]⟩ : ByteArray)⟩ : S62), (⟨0, 50, 33, (⟨#[115, 116]⟩ : ByteArray)⟩ : S62), (⟨0, 52, 34, (⟨#[115, 116]⟩ : ByteArray)⟩ : S62), (⟨0, 54, 35, (⟨#[115, 116]⟩ : ByteArray)⟩ : S62)] : List (S62))) := ⟨_, rfl⟩
  replace H : (some y200) = some r := by first | (rw [hy200]; with_reducible exact H) | (have H2_ := (Option.bind_some _ _).symm.trans H; rw [hy200]; with_reducible exact H2_) | (have H2_ := (Option.bind_some _ _).symm.trans H; with_reducible exact H2_) | with_reducible exact H | (rw [hy200]; exact H) | exact H
  have Ny200 := Aside0.mk hy200
  clear hy200
  obtain rfl := Option.some.inj H
  go_enter Try.func55, Try.ntmps55
  go_wp2_with (first | ((with_reducible refine gate_dst (N := 36) rfl ?_); refine Kd.R_lit k62 _ 62 ?hg (N := 36) ?hd (xs := ([(⟨0, 0, 1, (⟨#[116, 100, 104]⟩ : ByteArray)⟩ : S62), (⟨0, 2, 2, (⟨#[116, 100, 104]⟩ : ByteArray)⟩ : S62), (⟨0, 3, 3, (⟨#[116, 100, 104]⟩ : ByteArray)⟩ : S62), (⟨0, 4, 4, (⟨#[115, 116, 100]⟩ : ByteArray)⟩ : S62), (⟨0, 6, 5, (⟨#[115, 116, 100]⟩ : ByteArray)⟩ : S62), (⟨0, 7, 6, (⟨#[115, 116, 100]⟩ : ByteArray)⟩ : S62), (⟨0, 8, 7, (⟨#[115]⟩ : ByteArray)⟩ : S62), (⟨0, 9, 8, (⟨#[115, 100]⟩ : ByteArray)⟩ : S62), (⟨0, 10, 9, (⟨#[115, 116, 100]⟩ : ByteArray)⟩ : S62), (⟨0, 11, 10, (⟨#[115, 116, 100]⟩ : ByteArray)⟩ : S62), (⟨0, 12, 11, (⟨#[]⟩ : ByteArray)⟩ : S62), (⟨0, 13, 12, (⟨#[]⟩ : ByteArray)⟩ : S62), (⟨0, 15, 13, (⟨#[]⟩ : ByteArray)⟩ : S62), (⟨0, 16, 14, (⟨#[100]⟩ : ByteArray)⟩ : S62), (⟨0, 17, 15, (⟨#[115]⟩ : ByteArray)⟩ : S62), (⟨0, 18, 16, (⟨#[100]⟩ : ByteArray)⟩ : S62), (⟨0, 19, 17, (⟨#[115]⟩ : ByteArray)⟩ : S62), (⟨0, 24, 18, (⟨#[115, 116]⟩ : ByteArray)⟩ : S62), (⟨0, 25, 19, (⟨#[115, 116]⟩ : ByteArray)⟩ : S62), (⟨0, 26, 20, (⟨#[115, 116]⟩ : ByteArray)⟩ : S62), (⟨0, 27, 21, (⟨#[115, 116]⟩ : ByteArray)⟩ : S62), (⟨0, 32, 22, (⟨#[115, 116, 100]⟩ : ByteArray)⟩ : S62), (⟨0, 33, 23, (⟨#[115, 116, 100]⟩ : ByteArray)⟩ : S62), (⟨0, 34, 24, (⟨#[115, 116, 100]⟩ : ByteArray)⟩ : S62), (⟨0, 35, 25, (⟨#[115, 116, 100]⟩ : ByteArray)⟩ : S62), (⟨0, 36, 26, (⟨#[115, 116, 100]⟩ : ByteArray)⟩ : S62), (⟨0, 37, 27, (⟨#[115, 116, 100]⟩ : ByteArray)⟩ : S62), (⟨0, 38, 28, (⟨#[115, 116, 100]⟩ : ByteArray)⟩ : S62), (⟨0, 39, 29, (⟨#[115, 116, 100]⟩ : ByteArray)⟩ : S62), (⟨0, 42, 30, (⟨#[115, 116, 100]⟩ : ByteArray)⟩ : S62), (⟨0, 43, 31, (⟨#[115, 116, 100]⟩ : ByteArray)⟩ : S62), (⟨0, 48, 32, (⟨#[115, 116]⟩ : ByteArray)⟩ : S62), (⟨0, 50, 33, (⟨#[115, 116]⟩ : ByteArray)⟩ : S62), (⟨0, 52, 34, (⟨#[115, 116]⟩ : ByteArray)⟩ : S62), (⟨0, 54, 35, (⟨#[115, 116]⟩ : ByteArray)⟩ : S62)] : List (S62))) (inner := [.int .i64 0, .int .i64 0, .int .i64 1, .string (⟨#[116, 100, 104]⟩ : ByteArray), .int .i64 0, .int .i64 2, .int .i64 2, .string (⟨#[116, 100, 104]⟩ : ByteArray), .int .i64 0, .int .i64 3, .int .i64 3, .string (⟨#[116, 100, 104]⟩ : ByteArray), .int .i64 0, .int .i64 4, .int .i64 4, .string (⟨#[115, 116, 100]⟩ : ByteArray), .int .i64 0, .int .i64 6, .int .i64 5, .string (⟨#[115, 116, 100]⟩ : ByteArray), .int .i64 0, .int .i64 7, .int .i64 6, .string (⟨#[115, 116, 100]⟩ : ByteArray), .int .i64 0, .int .i64 8, .int .i64 7, .string (⟨#[115]⟩ : ByteArray), .int .i64 0, .int .i64 9, .int .i64 8, .string (⟨#[115, 100]⟩ : ByteArray), .int .i64 0, .int .i64 10, .int .i64 9, .string (⟨#[115, 116, 100]⟩ : ByteArray), .int .i64 0, .int .i64 11, .int .i64 10, .string (⟨#[115, 116, 100]⟩ : ByteArray), .int .i64 0, .int .i64 12, .int .i64 11, .string (⟨#[]⟩ : ByteArray), .int .i64 0, .int .i64 13, .int .i64 12, .string (⟨#[]⟩ : ByteArray), .int .i64 0, .int .i64 15, .int .i64 13, .string (⟨#[]⟩ : ByteArray), .int .i64 0, .int .i64 16, .int .i64 14, .string (⟨#[100]⟩ : ByteArray), .int .i64 0, .int .i64 17, .int .i64 15, .string (⟨#[115]⟩ : ByteArray), .int .i64 0, .int .i64 18, .int .i64 16, .string (⟨#[100]⟩ : ByteArray), .int .i64 0, .int .i64 19, .int .i64 17, .string (⟨#[115]⟩ : ByteArray), .int .i64 0, .int .i64 24, .int .i64 18, .string (⟨#[115, 116]⟩ : ByteArray), .int .i64 0, .int .i64 25, .int .i64 19, .string (⟨#[115, 116]⟩ : ByteArray), .int .i64 0, .int .i64 26, .int .i64 20, .string (⟨#[115, 116]⟩ : ByteArray), .int .i64 0, .int .i64 27, .int .i64 21, .string (⟨#[115, 116]⟩ : ByteArray), .int .i64 0, .int .i64 32, .int .i64 22, .string (⟨#[115, 116, 100]⟩ : ByteArray), .int .i64 0, .int .i64 33, .int .i64 23, .string (⟨#[115, 116, 100]⟩ : ByteArray), .int .i64 0, .int .i64 34, .int .i64 24, .string (⟨#[115, 116, 100]⟩ : ByteArray), .int .i64 0, .int .i64 35, .int .i64 25, .string (⟨#[115, 116, 100]⟩ : ByteArray), .int .i64 0, .int .i64 36, .int .i64 26, .string (⟨#[115, 116, 100]⟩ : ByteArray), .int .i64 0, .int .i64 37, .int .i64 27, .string (⟨#[115, 116, 100]⟩ : ByteArray), .int .i64 0, .int .i64 38, .int .i64 28, .string (⟨#[115, 116, 100]⟩ : ByteArray), .int .i64 0, .int .i64 39, .int .i64 29, .string (⟨#[115, 116, 100]⟩ : ByteArray), .int .i64 0, .int .i64 42, .int .i64 30, .string (⟨#[115, 116, 100]⟩ : ByteArray), .int .i64 0, .int .i64 43, .int .i64 31, .string (⟨#[115, 116, 100]⟩ : ByteArray), .int .i64 0, .int .i64 48, .int .i64 32, .string (⟨#[115, 116]⟩ : ByteArray), .int .i64 0, .int .i64 50, .int .i64 33, .string (⟨#[115, 116]⟩ : ByteArray), .int .i64 0, .int .i64 52, .int .i64 34, .string (⟨#[115, 116]⟩ : ByteArray), .int .i64 0, .int .i64 54, .int .i64 35, .string (⟨#[115, 116]⟩ : ByteArray)]) (ok := fun _ => True) (okp := fun _ => True) ?hr ?hp (fun _ hk => hk) trivial (Below.refl _ _) (Nat.le_refl _) (by simp) ?_; (case hd => rfl); (case hg => rfl); (case hr => first | (go_simp; done) | (go_simp; rfl)); (case hp => exact (Reps.c4 (show Kd.M k62 _ _ _ (⟨0, 0, 1, (⟨#[116, 100, 104]⟩ : ByteArray)⟩ : S62) [.int .i64 0, .int .i64 0, .int .i64 1, .string (⟨#[116, 100, 104]⟩ : ByteArray)] from (k62_mkM _ _ _ (⟨0, 0, 1, (⟨#[116, 100, 104]⟩ : ByteArray)⟩ : S62) )) (Reps.c4 (show Kd.M k62 _ _ _ (⟨0, 2, 2, (⟨#[116, 100, 104]⟩ : ByteArray)⟩ : S62) [.int .i64 0, .int .i64 2, .int .i64 2, .string (⟨#[116, 100, 104]⟩ : ByteArray)] from (k62_mkM _ _ _ (⟨0, 2, 2, (⟨#[116, 100, 104]⟩ : ByteArray)⟩ : S62) )) (Reps.c4 (show Kd.M k62 _ _ _ (⟨0, 3, 3, (⟨#[116, 100, 104]⟩ : ByteArray)⟩ : S62) [.int .i64 0, .int .i64 3, .int .i64 3, .string (⟨#[116, 100, 104]⟩ : ByteArray)] from (k62_mkM _ _ _ (⟨0, 3, 3, (⟨#[116, 100, 104]⟩ : ByteArray)⟩ : S62) )) (Reps.c4 (show Kd.M k62 _ _ _ (⟨0, 4, 4, (⟨#[115, 116, 100]⟩ : ByteArray)⟩ : S62) [.int .i64 0, .int .i64 4, .int .i64 4, .string (⟨#[115, 116, 100]⟩ : ByteArray)] from (k62_mkM _ _ _ (⟨0, 4, 4, (⟨#[115, 116, 100]⟩ : ByteArray)⟩ : S62) )) (Reps.c4 (show Kd.M k62 _ _ _ (⟨0, 6, 5, (⟨#[115, 116, 100]⟩ : ByteArray)⟩ : S62) [.int .i64 0, .int .i64 6, .int .i64 5, .string (⟨#[115, 116, 100]⟩ : ByteArray)] from (k62_mkM _ _ _ (⟨0, 6, 5, (⟨#[115, 116, 100]⟩ : ByteArray)⟩ : S62) )) (Reps.c4 (show Kd.M k62 _ _ _ (⟨0, 7, 6, (⟨#[115, 116, 100]⟩ : ByteArray)⟩ : S62) [.int .i64 0, .int .i64 7, .int .i64 6, .string (⟨#[115, 116, 100]⟩ : ByteArray)] from (k62_mkM _ _ _ (⟨0, 7, 6, (⟨#[115, 116, 100]⟩ : ByteArray)⟩ : S62) )) (Reps.c4 (show Kd.M k62 _ _ _ (⟨0, 8, 7, (⟨#[115]⟩ : ByteArray)⟩ : S62) [.int .i64 0, .int .i64 8, .int .i64 7, .string (⟨#[115]⟩ : ByteArray)] from (k62_mkM _ _ _ (⟨0, 8, 7, (⟨#[115]⟩ : ByteArray)⟩ : S62) )) (Reps.c4 (show Kd.M k62 _ _ _ (⟨0, 9, 8, (⟨#[115, 100]⟩ : ByteArray)⟩ : S62) [.int .i64 0, .int .i64 9, .int .i64 8, .string (⟨#[115, 100]⟩ : ByteArray)] from (k62_mkM _ _ _ (⟨0, 9, 8, (⟨#[115, 100]⟩ : ByteArray)⟩ : S62) )) (Reps.c4 (show Kd.M k62 _ _ _ (⟨0, 10, 9, (⟨#[115, 116, 100]⟩ : ByteArray)⟩ : S62) [.int .i64 0, .int .i64 10, .int .i64 9, .string (⟨#[115, 116, 100]⟩ : ByteArray)] from (k62_mkM _ _ _ (⟨0, 10, 9, (⟨#[115, 116, 100]⟩ : ByteArray)⟩ : S62) )) (Reps.c4 (show Kd.M k62 _ _ _ (⟨0, 11, 10, (⟨#[115, 116, 100]⟩ : ByteArray)⟩ : S62) [.int .i64 0, .int .i64 11, .int .i64 10, .string (⟨#[115, 116, 100]⟩ : ByteArray)] from (k62_mkM _ _ _ (⟨0, 11, 10, (⟨#[115, 116, 100]⟩ : ByteArray)⟩ : S62) )) (Reps.c4 (show Kd.M k62 _ _ _ (⟨0, 12, 11, (⟨#[]⟩ : ByteArray)⟩ : S62) [.int .i64 0, .int .i64 12, .int .i64 11, .string (⟨#[]⟩ : ByteArray)] from (k62_mkM _ _ _ (⟨0, 12, 11, (⟨#[]⟩ : ByteArray)⟩ : S62) )) (Reps.c4 (show Kd.M k62 _ _ _ (⟨0, 13, 12, (⟨#[]⟩ : ByteArray)⟩ : S62) [.int .i64 0, .int .i64 13, .int .i64 12, .string (⟨#[]⟩ : ByteArray)] from (k62_mkM _ _ _ (⟨0, 13, 12, (⟨#[]⟩ : ByteArray)⟩ : S62) )) (Reps.c4 (show Kd.M k62 _ _ _ (⟨0, 15, 13, (⟨#[]⟩ : ByteArray)⟩ : S62) [.int .i64 0, .int .i64 15, .int .i64 13, .string (⟨#[]⟩ : ByteArray)] from (k62_mkM _ _ _ (⟨0, 15, 13, (⟨#[]⟩ : ByteArray)⟩ : S62) )) (Reps.c4 (show Kd.M k62 _ _ _ (⟨0, 16, 14, (⟨#[100]⟩ : ByteArray)⟩ : S62) [.int .i64 0, .int .i64 16, .int .i64 14, .string (⟨#[100]⟩ : ByteArray)] from (k62_mkM _ _ _ (⟨0, 16, 14, (⟨#[100]⟩ : ByteArray)⟩ : S62) )) (Reps.c4 (show Kd.M k62 _ _ _ (⟨0, 17, 15, (⟨#[115]⟩ : ByteArray)⟩ : S62) [.int .i64 0, .int .i64 17, .int .i64 15, .string (⟨#[115]⟩ : ByteArray)] from (k62_mkM _ _ _ (⟨0, 17, 15, (⟨#[115]⟩ : ByteArray)⟩ : S62) )) (Reps.c4 (show Kd.M k62 _ _ _ (⟨0, 18, 16, (⟨#[100]⟩ : ByteArray)⟩ : S62) [.int .i64 0, .int .i64 18, .int .i64 16, .string (⟨#[100]⟩ : ByteArray)] from (k62_mkM _ _ _ (⟨0, 18, 16, (⟨#[100]⟩ : ByteArray)⟩ : S62) )) (Reps.c4 (show Kd.M k62 _ _ _ (⟨0, 19, 17, (⟨#[115]⟩ : ByteArray)⟩ : S62) [.int .i64 0, .int .i64 19, .int .i64 17, .string (⟨#[115]⟩ : ByteArray)] from (k62_mkM _ _ _ (⟨0, 19, 17, (⟨#[115]⟩ : ByteArray)⟩ : S62) )) (Reps.c4 (show Kd.M k62 _ _ _ (⟨0, 24, 18, (⟨#[115, 116]⟩ : ByteArray)⟩ : S62) [.int .i64 0, .int .i64 24, .int .i64 18, .string (⟨#[115, 116]⟩ : ByteArray)] from (k62_mkM _ _ _ (⟨0, 24, 18, (⟨#[115, 116]⟩ : ByteArray)⟩ : S62) )) (Reps.c4 (show Kd.M k62 _ _ _ (⟨0, 25, 19, (⟨#[115, 116]⟩ : ByteArray)⟩ : S62) [.int .i64 0, .int .i64 25, .int .i64 19, .string (⟨#[115, 116]⟩ : ByteArray)] from (k62_mkM _ _ _ (⟨0, 25, 19, (⟨#[115, 116]⟩ : ByteArray)⟩ : S62) )) (Reps.c4 (show Kd.M k62 _ _ _ (⟨0, 26, 20, (⟨#[115, 116]⟩ : ByteArray)⟩ : S62) [.int .i64 0, .int .i64 26, .int .i64 20, .string (⟨#[115, 116]⟩ : ByteArray)] from (k62_mkM _ _ _ (⟨0, 26, 20, (⟨#[115, 116]⟩ : ByteArray)⟩ : S62) )) (Reps.c4 (show Kd.M k62 _ _ _ (⟨0, 27, 21, (⟨#[115, 116]⟩ : ByteArray)⟩ : S62) [.int .i64 0, .int .i64 27, .int .i64 21, .string (⟨#[115, 116]⟩ : ByteArray)] from (k62_mkM _ _ _ (⟨0, 27, 21, (⟨#[115, 116]⟩ : ByteArray)⟩ : S62) )) (Reps.c4 (show Kd.M k62 _ _ _ (⟨0, 32, 22, (⟨#[115, 116, 100]⟩ : ByteArray)⟩ : S62) [.int .i64 0, .int .i64 32, .int .i64 22, .string (⟨#[115, 116, 100]⟩ : ByteArray)] from (k62_mkM _ _ _ (⟨0, 32, 22, (⟨#[115, 116, 100]⟩ : ByteArray)⟩ : S62) )) (Reps.c4 (show Kd.M k62 _ _ _ (⟨0, 33, 23, (⟨#[115, 116, 100]⟩ : ByteArray)⟩ : S62) [.int .i64 0, .int .i64 33, .int .i64 23, .string (⟨#[115, 116, 100]⟩ : ByteArray)] from (k62_mkM _ _ _ (⟨0, 33, 23, (⟨#[115, 116, 100]⟩ : ByteArray)⟩ : S62) )) (Reps.c4 (show Kd.M k62 _ _ _ (⟨0, 34, 24, (⟨#[115, 116, 100]⟩ : ByteArray)⟩ : S62) [.int .i64 0, .int .i64 34, .int .i64 24, .string (⟨#[115, 116, 100]⟩ : ByteArray)] from (k62_mkM _ _ _ (⟨0, 34, 24, (⟨#[115, 116, 100]⟩ : ByteArray)⟩ : S62) )) (Reps.c4 (show Kd.M k62 _ _ _ (⟨0, 35, 25, (⟨#[115, 116, 100]⟩ : ByteArray)⟩ : S62) [.int .i64 0, .int .i64 35, .int .i64 25, .string (⟨#[115, 116, 100]⟩ : ByteArray)] from (k62_mkM _ _ _ (⟨0, 35, 25, (⟨#[115, 116, 100]⟩ : ByteArray)⟩ : S62) )) (Reps.c4 (show Kd.M k62 _ _ _ (⟨0, 36, 26, (⟨#[115, 116, 100]⟩ : ByteArray)⟩ : S62) [.int .i64 0, .int .i64 36, .int .i64 26, .string (⟨#[115, 116, 100]⟩ : ByteArray)] from (k62_mkM _ _ _ (⟨0, 36, 26, (⟨#[115, 116, 100]⟩ : ByteArray)⟩ : S62) )) (Reps.c4 (show Kd.M k62 _ _ _ (⟨0, 37, 27, (⟨#[115, 116, 100]⟩ : ByteArray)⟩ : S62) [.int .i64 0, .int .i64 37, .int .i64 27, .string (⟨#[115, 116, 100]⟩ : ByteArray)] from (k62_mkM _ _ _ (⟨0, 37, 27, (⟨#[115, 116, 100]⟩ : ByteArray)⟩ : S62) )) (Reps.c4 (show Kd.M k62 _ _ _ (⟨0, 38, 28, (⟨#[115, 116, 100]⟩ : ByteArray)⟩ : S62) [.int .i64 0, .int .i64 38, .int .i64 28, .string (⟨#[115, 116, 100]⟩ : ByteArray)] from (k62_mkM _ _ _ (⟨0, 38, 28, (⟨#[115, 116, 100]⟩ : ByteArray)⟩ : S62) )) (Reps.c4 (show Kd.M k62 _ _ _ (⟨0, 39, 29, (⟨#[115, 116, 100]⟩ : ByteArray)⟩ : S62) [.int .i64 0, .int .i64 39, .int .i64 29, .string (⟨#[115, 116, 100]⟩ : ByteArray)] from (k62_mkM _ _ _ (⟨0, 39, 29, (⟨#[115, 116, 100]⟩ : ByteArray)⟩ : S62) )) (Reps.c4 (show Kd.M k62 _ _ _ (⟨0, 42, 30, (⟨#[115, 116, 100]⟩ : ByteArray)⟩ : S62) [.int .i64 0, .int .i64 42, .int .i64 30, .string (⟨#[115, 116, 100]⟩ : ByteArray)] from (k62_mkM _ _ _ (⟨0, 42, 30, (⟨#[115, 116, 100]⟩ : ByteArray)⟩ : S62) )) (Reps.c4 (show Kd.M k62 _ _ _ (⟨0, 43, 31, (⟨#[115, 116, 100]⟩ : ByteArray)⟩ : S62) [.int .i64 0, .int .i64 43, .int .i64 31, .string (⟨#[115, 116, 100]⟩ : ByteArray)] from (k62_mkM _ _ _ (⟨0, 43, 31, (⟨#[115, 116, 100]⟩ : ByteArray)⟩ : S62) )) (Reps.c4 (show Kd.M k62 _ _ _ (⟨0, 48, 32, (⟨#[115, 116]⟩ : ByteArray)⟩ : S62) [.int .i64 0, .int .i64 48, .int .i64 32, .string (⟨#[115, 116]⟩ : ByteArray)] from (k62_mkM _ _ _ (⟨0, 48, 32, (⟨#[115, 116]⟩ : ByteArray)⟩ : S62) )) (Reps.c4 (show Kd.M k62 _ _ _ (⟨0, 50, 33, (⟨#[115, 116]⟩ : ByteArray)⟩ : S62) [.int .i64 0, .int .i64 50, .int .i64 33, .string (⟨#[115, 116]⟩ : ByteArray)] from (k62_mkM _ _ _ (⟨0, 50, 33, (⟨#[115, 116]⟩ : ByteArray)⟩ : S62) )) (Reps.c4 (show Kd.M k62 _ _ _ (⟨0, 52, 34, (⟨#[115, 116]⟩ : ByteArray)⟩ : S62) [.int .i64 0, .int .i64 52, .int .i64 34, .string (⟨#[115, 116]⟩ : ByteArray)] from (k62_mkM _ _ _ (⟨0, 52, 34, (⟨#[115, 116]⟩ : ByteArray)⟩ : S62) )) (Reps.c4 (show Kd.M k62 _ _ _ (⟨0, 54, 35, (⟨#[115, 116]⟩ : ByteArray)⟩ : S62) [.int .i64 0, .int .i64 54, .int .i64 35, .string (⟨#[115, 116]⟩ : ByteArray)] from (k62_mkM _ _ _ (⟨0, 54, 35, (⟨#[115, 116]⟩ : ByteArray)⟩ : S62) )) (Reps.none _ _))))))))))))))))))))))))))))))))))))); intro v201 w1 ho2 hb hg_ hnew_; clear hg_ hnew_; (first | rw [← Ny200.out] at ho2 | (simp only [Int.reduceToNat] at ho2; rw [← Ny200.out] at ho2)); have n0_ := Aside0.mk (Kd.R_lower ho2 (below_size (by repeat (first | (with_reducible first | exact HB.out | apply below_alloc | apply pw_below_drewN | apply below_drew1) | exact HB.out)))); have n1_ := Aside0.mk (below_step (by repeat (first | (with_reducible first | exact HB.out | apply below_alloc | apply pw_below_drewN | apply below_drew1) | exact HB.out)) hb); clear HB; have HO202 := n0_; have HB := n1_; clear n0_ n1_; clear hb ho2))
  go_ret
  exact ⟨_, by first | rfl | (simp [errW_none, errW_some] <;> rfl) | (simp [*, errW_none, errW_some] <;> rfl), by (with_reducible repeat (first | apply Kd.R_alloc | apply Kd.R_drewN | apply Kd.R_drew)); exact HO202.out, by repeat (first | (with_reducible first | exact HB.out | apply below_alloc | apply pw_below_drewN | apply below_drew1) | exact HB.out)⟩

/-! ### pianolaref3_plain: function 56 -/
def pianolaref3_plain.f  : Option ((List (S62))) := some (([(⟨2, 0, 40, (⟨#[106]⟩ : ByteArray)⟩ : S62), (⟨3, 0, 41, (⟨#[106]⟩ : ByteArray)⟩ : S62), (⟨4, 0, 42, (⟨#[115, 116, 105]⟩ : ByteArray)⟩ : S62), (⟨5, 0, 43, (⟨#[115, 116, 105]⟩ : ByteArray)⟩ : S62), (⟨6, 0, 44, (⟨#[115, 105]⟩ : ByteArray)⟩ : S62), (⟨7, 0, 45, (⟨#[115, 105]⟩ : ByteArray)⟩ : S62), (⟨8, 0, 46, (⟨#[115, 116, 105]⟩ : ByteArray)⟩ : S62), (⟨9, 0, 47, (⟨#[115, 116, 105]⟩ : ByteArray)⟩ : S62), (⟨10, 0, 48, (⟨#[115, 116, 105]⟩ : ByteArray)⟩ : S62), (⟨11, 0, 49, (⟨#[115, 116, 105]⟩ : ByteArray)⟩ : S62), (⟨12, 0, 50, (⟨#[115, 116, 105]⟩ : ByteArray)⟩ : S62), (⟨13, 0, 51, (⟨#[115, 116, 105]⟩ : ByteArray)⟩ : S62), (⟨14, 0, 52, (⟨#[115, 116, 105]⟩ : ByteArray)⟩ : S62), (⟨15, 0, 53, (⟨#[116, 105]⟩ : ByteArray)⟩ : S62), (⟨17, 0, 62, (⟨#[]⟩ : ByteArray)⟩ : S62), (⟨32, 0, 66, (⟨#[115, 116, 105]⟩ : ByteArray)⟩ : S62), (⟨33, 0, 67, (⟨#[115, 116, 105]⟩ : ByteArray)⟩ : S62), (⟨35, 0, 68, (⟨#[115, 116, 105]⟩ : ByteArray)⟩ : S62), (⟨36, 0, 69, (⟨#[115, 116, 105]⟩ : ByteArray)⟩ : S62), (⟨37, 0, 70, (⟨#[115, 116, 105]⟩ : ByteArray)⟩ : S62), (⟨40, 0, 71, (⟨#[115, 116, 105]⟩ : ByteArray)⟩ : S62), (⟨41, 0, 72, (⟨#[115, 116, 105]⟩ : ByteArray)⟩ : S62), (⟨43, 0, 73, (⟨#[115, 116, 105]⟩ : ByteArray)⟩ : S62), (⟨47, 0, 76, (⟨#[]⟩ : ByteArray)⟩ : S62), (⟨48, 0, 74, (⟨#[115, 116, 105]⟩ : ByteArray)⟩ : S62), (⟨51, 0, 77, (⟨#[]⟩ : ByteArray)⟩ : S62), (⟨56, 0, 75, (⟨#[115, 116, 105]⟩ : ByteArray)⟩ : S62)] : List (S62)))
set_option maxHeartbeats 8000000 in
set_option maxRecDepth 100000 in
theorem pianolaref3_plain.calls  (r : List (S62)) (w : World) (h : pianolaref3_plain.f  = some r) :
    Calls Try.prog 56 #[] w fun e w' => ∃ v0_ : Value, e = .returned (v0_) ∧ Kd.R k62 62 w' w.heap.size (fun _ => True) v0_ r ∧ Below w.heap.size w w' := by
  have hu62 := Try.underlying62
  have HB := Aside0.mk (Below.refl w.heap.size w)
  have H : (some (([(⟨2, 0, 40, (⟨#[106]⟩ : ByteArray)⟩ : S62), (⟨3, 0, 41, (⟨#[106]⟩ : ByteArray)⟩ : S62), (⟨4, 0, 42, (⟨#[115, 116, 105]⟩ : ByteArray)⟩ : S62), (⟨5, 0, 43, (⟨#[115, 116, 105]⟩ : ByteArray)⟩ : S62), (⟨6, 0, 44, (⟨#[115, 105]⟩ : ByteArray)⟩ : S62), (⟨7, 0, 45, (⟨#[115, 105]⟩ : ByteArray)⟩ : S62), (⟨8, 0, 46, (⟨#[115, 116, 105]⟩ : ByteArray)⟩ : S62), (⟨9, 0, 47, (⟨#[115, 116, 105]⟩ : ByteArray)⟩ : S62), (⟨10, 0, 48, (⟨#[115, 116, 105]⟩ : ByteArray)⟩ : S62), (⟨11, 0, 49, (⟨#[115, 116, 105]⟩ : ByteArray)⟩ : S62), (⟨12, 0, 50, (⟨#[115, 116, 105]⟩ : ByteArray)⟩ : S62), (⟨13, 0, 51, (⟨#[115, 116, 105]⟩ : ByteArray)⟩ : S62), (⟨14, 0, 52, (⟨#[115, 116, 105]⟩ : ByteArray)⟩ : S62), (⟨15, 0, 53, (⟨#[116, 105]⟩ : ByteArray)⟩ : S62), (⟨17, 0, 62, (⟨#[]⟩ : ByteArray)⟩ : S62), (⟨32, 0, 66, (⟨#[115, 116, 105]⟩ : ByteArray)⟩ : S62), (⟨33, 0, 67, (⟨#[115, 116, 105]⟩ : ByteArray)⟩ : S62), (⟨35, 0, 68, (⟨#[115, 116, 105]⟩ : ByteArray)⟩ : S62), (⟨36, 0, 69, (⟨#[115, 116, 105]⟩ : ByteArray)⟩ : S62), (⟨37, 0, 70, (⟨#[115, 116, 105]⟩ : ByteArray)⟩ : S62), (⟨40, 0, 71, (⟨#[115, 116, 105]⟩ : ByteArray)⟩ : S62), (⟨41, 0, 72, (⟨#[115, 116, 105]⟩ : ByteArray)⟩ : S62), (⟨43, 0, 73, (⟨#[115, 116, 105]⟩ : ByteArray)⟩ : S62), (⟨47, 0, 76, (⟨#[]⟩ : ByteArray)⟩ : S62), (⟨48, 0, 74, (⟨#[115, 116, 105]⟩ : ByteArray)⟩ : S62), (⟨51, 0, 77, (⟨#[]⟩ : ByteArray)⟩ : S62), (⟨56, 0, 75, (⟨#[115, 116, 105]⟩ : ByteArray)⟩ : S62)] : List (S62)))) = some r := h
  clear h
  obtain ⟨y203, hy203⟩ : ∃ y_ : List (S62), y_ = (([(⟨2, 0, 40, (⟨#[106]⟩ : ByteArray)⟩ : S62), (⟨3, 0, 41, (⟨#[106]⟩ : ByteArray)⟩ : S62), (⟨4, 0, 42, (⟨#[115, 116, 105]⟩ : ByteArray)⟩ : S62), (⟨5, 0, 43, (⟨#[115, 116, 105]⟩ : ByteArray)⟩ : S62), (⟨6, 0, 44, (⟨#[115, 105]⟩ : ByteArray)⟩ : S62), (⟨7, 0, 45, (⟨#[115, 105]⟩ : ByteArray)⟩ : S62), (⟨8, 0, 46, (⟨#[115, 116, 105]⟩ : ByteArray)⟩ : S62), (⟨9, 0, 47, (⟨#[115, 116, 105]⟩ : ByteArray)⟩ : S62), (⟨10, 0, 48, (⟨#[115, 116, 105]⟩ : ByteArray)⟩ : S62), (⟨11, 0, 49, (⟨#[115, 116, 105]⟩ : ByteArray)⟩ : S62), (⟨12, 0, 50, (⟨#[115, 116, 105]⟩ : ByteArray)⟩ : S62), (⟨13, 0, 51, (⟨#[115, 116, 105]⟩ : ByteArray)⟩ : S62), (⟨14, 0, 52, (⟨#[115, 116, 105]⟩ : ByteArray)⟩ : S62), (⟨15, 0, 53, (⟨#[116, 105]⟩ : ByteArray)⟩ : S62), (⟨17, 0, 62, (⟨#[]⟩ : ByteArray)⟩ : S62), (⟨32, 0, 66, (⟨#[115, 116, 105]⟩ : ByteArray)⟩ : S62), (⟨33, 0, 67, (⟨#[115, 116, 105]⟩ : ByteArray)⟩ : S62), (⟨35, 0, 68, (⟨#[115, 116, 105]⟩ : ByteArray)⟩ : S62), (⟨36, 0, 69, (⟨#[115, 116, 105]⟩ : ByteArray)⟩ : S62), (⟨37, 0, 70, (⟨#[115, 116, 105]⟩ : ByteArray)⟩ : S62), (⟨40, 0, 71, (⟨#[115, 116, 105]⟩ : ByteArray)⟩ : S62), (⟨41, 0, 72, (⟨#[115, 116, 105]⟩ : ByteArray)⟩ : S62), (⟨43, 0, 73, (⟨#[115, 116, 105]⟩ : ByteArray)⟩ : S62), (⟨47, 0, 76, (⟨#[]⟩ : ByteArray)⟩ : S62), (⟨48, 0, 74, (⟨#[115, 116, 105]⟩ : ByteArray)⟩ : S62), (⟨51, 0, 77, (⟨#[]⟩ : ByteArray)⟩ : S62), (⟨56, 0, 75, (⟨#[115, 116, 105]⟩ : ByteArray)⟩ : S62)] : List (S62))) := ⟨_, rfl⟩
  replace H : (some y203) = some r := by first | (rw [hy203]; with_reducible exact H) | (have H2_ := (Option.bind_some _ _).symm.trans H; rw [hy203]; with_reducible exact H2_) | (have H2_ := (Option.bind_some _ _).symm.trans H; with_reducible exact H2_) | with_reducible exact H | (rw [hy203]; exact H) | exact H
  have Ny203 := Aside0.mk hy203
  clear hy203
  obtain rfl := Option.some.inj H
  go_enter Try.func56, Try.ntmps56
  go_wp2_with (first | ((with_reducible refine gate_dst (N := 28) rfl ?_); refine Kd.R_lit k62 _ 62 ?hg (N := 28) ?hd (xs := ([(⟨2, 0, 40, (⟨#[106]⟩ : ByteArray)⟩ : S62), (⟨3, 0, 41, (⟨#[106]⟩ : ByteArray)⟩ : S62), (⟨4, 0, 42, (⟨#[115, 116, 105]⟩ : ByteArray)⟩ : S62), (⟨5, 0, 43, (⟨#[115, 116, 105]⟩ : ByteArray)⟩ : S62), (⟨6, 0, 44, (⟨#[115, 105]⟩ : ByteArray)⟩ : S62), (⟨7, 0, 45, (⟨#[115, 105]⟩ : ByteArray)⟩ : S62), (⟨8, 0, 46, (⟨#[115, 116, 105]⟩ : ByteArray)⟩ : S62), (⟨9, 0, 47, (⟨#[115, 116, 105]⟩ : ByteArray)⟩ : S62), (⟨10, 0, 48, (⟨#[115, 116, 105]⟩ : ByteArray)⟩ : S62), (⟨11, 0, 49, (⟨#[115, 116, 105]⟩ : ByteArray)⟩ : S62), (⟨12, 0, 50, (⟨#[115, 116, 105]⟩ : ByteArray)⟩ : S62), (⟨13, 0, 51, (⟨#[115, 116, 105]⟩ : ByteArray)⟩ : S62), (⟨14, 0, 52, (⟨#[115, 116, 105]⟩ : ByteArray)⟩ : S62), (⟨15, 0, 53, (⟨#[116, 105]⟩ : ByteArray)⟩ : S62), (⟨17, 0, 62, (⟨#[]⟩ : ByteArray)⟩ : S62), (⟨32, 0, 66, (⟨#[115, 116, 105]⟩ : ByteArray)⟩ : S62), (⟨33, 0, 67, (⟨#[115, 116, 105]⟩ : ByteArray)⟩ : S62), (⟨35, 0, 68, (⟨#[115, 116, 105]⟩ : ByteArray)⟩ : S62), (⟨36, 0, 69, (⟨#[115, 116, 105]⟩ : ByteArray)⟩ : S62), (⟨37, 0, 70, (⟨#[115, 116, 105]⟩ : ByteArray)⟩ : S62), (⟨40, 0, 71, (⟨#[115, 116, 105]⟩ : ByteArray)⟩ : S62), (⟨41, 0, 72, (⟨#[115, 116, 105]⟩ : ByteArray)⟩ : S62), (⟨43, 0, 73, (⟨#[115, 116, 105]⟩ : ByteArray)⟩ : S62), (⟨47, 0, 76, (⟨#[]⟩ : ByteArray)⟩ : S62), (⟨48, 0, 74, (⟨#[115, 116, 105]⟩ : ByteArray)⟩ : S62), (⟨51, 0, 77, (⟨#[]⟩ : ByteArray)⟩ : S62), (⟨56, 0, 75, (⟨#[115, 116, 105]⟩ : ByteArray)⟩ : S62)] : List (S62))) (inner := [.int .i64 2, .int .i64 0, .int .i64 40, .string (⟨#[106]⟩ : ByteArray), .int .i64 3, .int .i64 0, .int .i64 41, .string (⟨#[106]⟩ : ByteArray), .int .i64 4, .int .i64 0, .int .i64 42, .string (⟨#[115, 116, 105]⟩ : ByteArray), .int .i64 5, .int .i64 0, .int .i64 43, .string (⟨#[115, 116, 105]⟩ : ByteArray), .int .i64 6, .int .i64 0, .int .i64 44, .string (⟨#[115, 105]⟩ : ByteArray), .int .i64 7, .int .i64 0, .int .i64 45, .string (⟨#[115, 105]⟩ : ByteArray), .int .i64 8, .int .i64 0, .int .i64 46, .string (⟨#[115, 116, 105]⟩ : ByteArray), .int .i64 9, .int .i64 0, .int .i64 47, .string (⟨#[115, 116, 105]⟩ : ByteArray), .int .i64 10, .int .i64 0, .int .i64 48, .string (⟨#[115, 116, 105]⟩ : ByteArray), .int .i64 11, .int .i64 0, .int .i64 49, .string (⟨#[115, 116, 105]⟩ : ByteArray), .int .i64 12, .int .i64 0, .int .i64 50, .string (⟨#[115, 116, 105]⟩ : ByteArray), .int .i64 13, .int .i64 0, .int .i64 51, .string (⟨#[115, 116, 105]⟩ : ByteArray), .int .i64 14, .int .i64 0, .int .i64 52, .string (⟨#[115, 116, 105]⟩ : ByteArray), .int .i64 15, .int .i64 0, .int .i64 53, .string (⟨#[116, 105]⟩ : ByteArray), .int .i64 17, .int .i64 0, .int .i64 62, .string (⟨#[]⟩ : ByteArray), .int .i64 32, .int .i64 0, .int .i64 66, .string (⟨#[115, 116, 105]⟩ : ByteArray), .int .i64 33, .int .i64 0, .int .i64 67, .string (⟨#[115, 116, 105]⟩ : ByteArray), .int .i64 35, .int .i64 0, .int .i64 68, .string (⟨#[115, 116, 105]⟩ : ByteArray), .int .i64 36, .int .i64 0, .int .i64 69, .string (⟨#[115, 116, 105]⟩ : ByteArray), .int .i64 37, .int .i64 0, .int .i64 70, .string (⟨#[115, 116, 105]⟩ : ByteArray), .int .i64 40, .int .i64 0, .int .i64 71, .string (⟨#[115, 116, 105]⟩ : ByteArray), .int .i64 41, .int .i64 0, .int .i64 72, .string (⟨#[115, 116, 105]⟩ : ByteArray), .int .i64 43, .int .i64 0, .int .i64 73, .string (⟨#[115, 116, 105]⟩ : ByteArray), .int .i64 47, .int .i64 0, .int .i64 76, .string (⟨#[]⟩ : ByteArray), .int .i64 48, .int .i64 0, .int .i64 74, .string (⟨#[115, 116, 105]⟩ : ByteArray), .int .i64 51, .int .i64 0, .int .i64 77, .string (⟨#[]⟩ : ByteArray), .int .i64 56, .int .i64 0, .int .i64 75, .string (⟨#[115, 116, 105]⟩ : ByteArray)]) (ok := fun _ => True) (okp := fun _ => True) ?hr ?hp (fun _ hk => hk) trivial (Below.refl _ _) (Nat.le_refl _) (by simp) ?_; (case hd => rfl); (case hg => rfl); (case hr => first | (go_simp; done) | (go_simp; rfl)); (case hp => exact (Reps.c4 (show Kd.M k62 _ _ _ (⟨2, 0, 40, (⟨#[106]⟩ : ByteArray)⟩ : S62) [.int .i64 2, .int .i64 0, .int .i64 40, .string (⟨#[106]⟩ : ByteArray)] from (k62_mkM _ _ _ (⟨2, 0, 40, (⟨#[106]⟩ : ByteArray)⟩ : S62) )) (Reps.c4 (show Kd.M k62 _ _ _ (⟨3, 0, 41, (⟨#[106]⟩ : ByteArray)⟩ : S62) [.int .i64 3, .int .i64 0, .int .i64 41, .string (⟨#[106]⟩ : ByteArray)] from (k62_mkM _ _ _ (⟨3, 0, 41, (⟨#[106]⟩ : ByteArray)⟩ : S62) )) (Reps.c4 (show Kd.M k62 _ _ _ (⟨4, 0, 42, (⟨#[115, 116, 105]⟩ : ByteArray)⟩ : S62) [.int .i64 4, .int .i64 0, .int .i64 42, .string (⟨#[115, 116, 105]⟩ : ByteArray)] from (k62_mkM _ _ _ (⟨4, 0, 42, (⟨#[115, 116, 105]⟩ : ByteArray)⟩ : S62) )) (Reps.c4 (show Kd.M k62 _ _ _ (⟨5, 0, 43, (⟨#[115, 116, 105]⟩ : ByteArray)⟩ : S62) [.int .i64 5, .int .i64 0, .int .i64 43, .string (⟨#[115, 116, 105]⟩ : ByteArray)] from (k62_mkM _ _ _ (⟨5, 0, 43, (⟨#[115, 116, 105]⟩ : ByteArray)⟩ : S62) )) (Reps.c4 (show Kd.M k62 _ _ _ (⟨6, 0, 44, (⟨#[115, 105]⟩ : ByteArray)⟩ : S62) [.int .i64 6, .int .i64 0, .int .i64 44, .string (⟨#[115, 105]⟩ : ByteArray)] from (k62_mkM _ _ _ (⟨6, 0, 44, (⟨#[115, 105]⟩ : ByteArray)⟩ : S62) )) (Reps.c4 (show Kd.M k62 _ _ _ (⟨7, 0, 45, (⟨#[115, 105]⟩ : ByteArray)⟩ : S62) [.int .i64 7, .int .i64 0, .int .i64 45, .string (⟨#[115, 105]⟩ : ByteArray)] from (k62_mkM _ _ _ (⟨7, 0, 45, (⟨#[115, 105]⟩ : ByteArray)⟩ : S62) )) (Reps.c4 (show Kd.M k62 _ _ _ (⟨8, 0, 46, (⟨#[115, 116, 105]⟩ : ByteArray)⟩ : S62) [.int .i64 8, .int .i64 0, .int .i64 46, .string (⟨#[115, 116, 105]⟩ : ByteArray)] from (k62_mkM _ _ _ (⟨8, 0, 46, (⟨#[115, 116, 105]⟩ : ByteArray)⟩ : S62) )) (Reps.c4 (show Kd.M k62 _ _ _ (⟨9, 0, 47, (⟨#[115, 116, 105]⟩ : ByteArray)⟩ : S62) [.int .i64 9, .int .i64 0, .int .i64 47, .string (⟨#[115, 116, 105]⟩ : ByteArray)] from (k62_mkM _ _ _ (⟨9, 0, 47, (⟨#[115, 116, 105]⟩ : ByteArray)⟩ : S62) )) (Reps.c4 (show Kd.M k62 _ _ _ (⟨10, 0, 48, (⟨#[115, 116, 105]⟩ : ByteArray)⟩ : S62) [.int .i64 10, .int .i64 0, .int .i64 48, .string (⟨#[115, 116, 105]⟩ : ByteArray)] from (k62_mkM _ _ _ (⟨10, 0, 48, (⟨#[115, 116, 105]⟩ : ByteArray)⟩ : S62) )) (Reps.c4 (show Kd.M k62 _ _ _ (⟨11, 0, 49, (⟨#[115, 116, 105]⟩ : ByteArray)⟩ : S62) [.int .i64 11, .int .i64 0, .int .i64 49, .string (⟨#[115, 116, 105]⟩ : ByteArray)] from (k62_mkM _ _ _ (⟨11, 0, 49, (⟨#[115, 116, 105]⟩ : ByteArray)⟩ : S62) )) (Reps.c4 (show Kd.M k62 _ _ _ (⟨12, 0, 50, (⟨#[115, 116, 105]⟩ : ByteArray)⟩ : S62) [.int .i64 12, .int .i64 0, .int .i64 50, .string (⟨#[115, 116, 105]⟩ : ByteArray)] from (k62_mkM _ _ _ (⟨12, 0, 50, (⟨#[115, 116, 105]⟩ : ByteArray)⟩ : S62) )) (Reps.c4 (show Kd.M k62 _ _ _ (⟨13, 0, 51, (⟨#[115, 116, 105]⟩ : ByteArray)⟩ : S62) [.int .i64 13, .int .i64 0, .int .i64 51, .string (⟨#[115, 116, 105]⟩ : ByteArray)] from (k62_mkM _ _ _ (⟨13, 0, 51, (⟨#[115, 116, 105]⟩ : ByteArray)⟩ : S62) )) (Reps.c4 (show Kd.M k62 _ _ _ (⟨14, 0, 52, (⟨#[115, 116, 105]⟩ : ByteArray)⟩ : S62) [.int .i64 14, .int .i64 0, .int .i64 52, .string (⟨#[115, 116, 105]⟩ : ByteArray)] from (k62_mkM _ _ _ (⟨14, 0, 52, (⟨#[115, 116, 105]⟩ : ByteArray)⟩ : S62) )) (Reps.c4 (show Kd.M k62 _ _ _ (⟨15, 0, 53, (⟨#[116, 105]⟩ : ByteArray)⟩ : S62) [.int .i64 15, .int .i64 0, .int .i64 53, .string (⟨#[116, 105]⟩ : ByteArray)] from (k62_mkM _ _ _ (⟨15, 0, 53, (⟨#[116, 105]⟩ : ByteArray)⟩ : S62) )) (Reps.c4 (show Kd.M k62 _ _ _ (⟨17, 0, 62, (⟨#[]⟩ : ByteArray)⟩ : S62) [.int .i64 17, .int .i64 0, .int .i64 62, .string (⟨#[]⟩ : ByteArray)] from (k62_mkM _ _ _ (⟨17, 0, 62, (⟨#[]⟩ : ByteArray)⟩ : S62) )) (Reps.c4 (show Kd.M k62 _ _ _ (⟨32, 0, 66, (⟨#[115, 116, 105]⟩ : ByteArray)⟩ : S62) [.int .i64 32, .int .i64 0, .int .i64 66, .string (⟨#[115, 116, 105]⟩ : ByteArray)] from (k62_mkM _ _ _ (⟨32, 0, 66, (⟨#[115, 116, 105]⟩ : ByteArray)⟩ : S62) )) (Reps.c4 (show Kd.M k62 _ _ _ (⟨33, 0, 67, (⟨#[115, 116, 105]⟩ : ByteArray)⟩ : S62) [.int .i64 33, .int .i64 0, .int .i64 67, .string (⟨#[115, 116, 105]⟩ : ByteArray)] from (k62_mkM _ _ _ (⟨33, 0, 67, (⟨#[115, 116, 105]⟩ : ByteArray)⟩ : S62) )) (Reps.c4 (show Kd.M k62 _ _ _ (⟨35, 0, 68, (⟨#[115, 116, 105]⟩ : ByteArray)⟩ : S62) [.int .i64 35, .int .i64 0, .int .i64 68, .string (⟨#[115, 116, 105]⟩ : ByteArray)] from (k62_mkM _ _ _ (⟨35, 0, 68, (⟨#[115, 116, 105]⟩ : ByteArray)⟩ : S62) )) (Reps.c4 (show Kd.M k62 _ _ _ (⟨36, 0, 69, (⟨#[115, 116, 105]⟩ : ByteArray)⟩ : S62) [.int .i64 36, .int .i64 0, .int .i64 69, .string (⟨#[115, 116, 105]⟩ : ByteArray)] from (k62_mkM _ _ _ (⟨36, 0, 69, (⟨#[115, 116, 105]⟩ : ByteArray)⟩ : S62) )) (Reps.c4 (show Kd.M k62 _ _ _ (⟨37, 0, 70, (⟨#[115, 116, 105]⟩ : ByteArray)⟩ : S62) [.int .i64 37, .int .i64 0, .int .i64 70, .string (⟨#[115, 116, 105]⟩ : ByteArray)] from (k62_mkM _ _ _ (⟨37, 0, 70, (⟨#[115, 116, 105]⟩ : ByteArray)⟩ : S62) )) (Reps.c4 (show Kd.M k62 _ _ _ (⟨40, 0, 71, (⟨#[115, 116, 105]⟩ : ByteArray)⟩ : S62) [.int .i64 40, .int .i64 0, .int .i64 71, .string (⟨#[115, 116, 105]⟩ : ByteArray)] from (k62_mkM _ _ _ (⟨40, 0, 71, (⟨#[115, 116, 105]⟩ : ByteArray)⟩ : S62) )) (Reps.c4 (show Kd.M k62 _ _ _ (⟨41, 0, 72, (⟨#[115, 116, 105]⟩ : ByteArray)⟩ : S62) [.int .i64 41, .int .i64 0, .int .i64 72, .string (⟨#[115, 116, 105]⟩ : ByteArray)] from (k62_mkM _ _ _ (⟨41, 0, 72, (⟨#[115, 116, 105]⟩ : ByteArray)⟩ : S62) )) (Reps.c4 (show Kd.M k62 _ _ _ (⟨43, 0, 73, (⟨#[115, 116, 105]⟩ : ByteArray)⟩ : S62) [.int .i64 43, .int .i64 0, .int .i64 73, .string (⟨#[115, 116, 105]⟩ : ByteArray)] from (k62_mkM _ _ _ (⟨43, 0, 73, (⟨#[115, 116, 105]⟩ : ByteArray)⟩ : S62) )) (Reps.c4 (show Kd.M k62 _ _ _ (⟨47, 0, 76, (⟨#[]⟩ : ByteArray)⟩ : S62) [.int .i64 47, .int .i64 0, .int .i64 76, .string (⟨#[]⟩ : ByteArray)] from (k62_mkM _ _ _ (⟨47, 0, 76, (⟨#[]⟩ : ByteArray)⟩ : S62) )) (Reps.c4 (show Kd.M k62 _ _ _ (⟨48, 0, 74, (⟨#[115, 116, 105]⟩ : ByteArray)⟩ : S62) [.int .i64 48, .int .i64 0, .int .i64 74, .string (⟨#[115, 116, 105]⟩ : ByteArray)] from (k62_mkM _ _ _ (⟨48, 0, 74, (⟨#[115, 116, 105]⟩ : ByteArray)⟩ : S62) )) (Reps.c4 (show Kd.M k62 _ _ _ (⟨51, 0, 77, (⟨#[]⟩ : ByteArray)⟩ : S62) [.int .i64 51, .int .i64 0, .int .i64 77, .string (⟨#[]⟩ : ByteArray)] from (k62_mkM _ _ _ (⟨51, 0, 77, (⟨#[]⟩ : ByteArray)⟩ : S62) )) (Reps.c4 (show Kd.M k62 _ _ _ (⟨56, 0, 75, (⟨#[115, 116, 105]⟩ : ByteArray)⟩ : S62) [.int .i64 56, .int .i64 0, .int .i64 75, .string (⟨#[115, 116, 105]⟩ : ByteArray)] from (k62_mkM _ _ _ (⟨56, 0, 75, (⟨#[115, 116, 105]⟩ : ByteArray)⟩ : S62) )) (Reps.none _ _))))))))))))))))))))))))))))); intro v204 w1 ho2 hb hg_ hnew_; clear hg_ hnew_; (first | rw [← Ny203.out] at ho2 | (simp only [Int.reduceToNat] at ho2; rw [← Ny203.out] at ho2)); have n0_ := Aside0.mk (Kd.R_lower ho2 (below_size (by repeat (first | (with_reducible first | exact HB.out | apply below_alloc | apply pw_below_drewN | apply below_drew1) | exact HB.out)))); have n1_ := Aside0.mk (below_step (by repeat (first | (with_reducible first | exact HB.out | apply below_alloc | apply pw_below_drewN | apply below_drew1) | exact HB.out)) hb); clear HB; have HO205 := n0_; have HB := n1_; clear n0_ n1_; clear hb ho2))
  go_ret
  exact ⟨_, by first | rfl | (simp [errW_none, errW_some] <;> rfl) | (simp [*, errW_none, errW_some] <;> rfl), by (with_reducible repeat (first | apply Kd.R_alloc | apply Kd.R_drewN | apply Kd.R_drew)); exact HO205.out, by repeat (first | (with_reducible first | exact HB.out | apply below_alloc | apply pw_below_drewN | apply below_drew1) | exact HB.out)⟩

/-! ### pianolaref3_others: function 57 -/
def pianolaref3_others.f  : Option ((List (S62))) := some (([(⟨1, 0, 36, (⟨#[115, 105]⟩ : ByteArray)⟩ : S62), (⟨1, 1, 37, (⟨#[115, 105]⟩ : ByteArray)⟩ : S62), (⟨1, 16, 38, (⟨#[115, 105]⟩ : ByteArray)⟩ : S62), (⟨1, 17, 39, (⟨#[115, 105]⟩ : ByteArray)⟩ : S62), (⟨16, 0, 54, (⟨#[116, 100]⟩ : ByteArray)⟩ : S62), (⟨16, 4, 55, (⟨#[116, 100]⟩ : ByteArray)⟩ : S62), (⟨16, 65, 56, (⟨#[]⟩ : ByteArray)⟩ : S62), (⟨16, 66, 57, (⟨#[]⟩ : ByteArray)⟩ : S62), (⟨16, 70, 58, (⟨#[]⟩ : ByteArray)⟩ : S62), (⟨16, 72, 59, (⟨#[]⟩ : ByteArray)⟩ : S62), (⟨16, 88, 60, (⟨#[]⟩ : ByteArray)⟩ : S62), (⟨16, 96, 61, (⟨#[]⟩ : ByteArray)⟩ : S62), (⟨28, 2, 63, (⟨#[115, 116, 100]⟩ : ByteArray)⟩ : S62), (⟨28, 32, 64, (⟨#[115, 100]⟩ : ByteArray)⟩ : S62), (⟨28, 33, 65, (⟨#[115, 100]⟩ : ByteArray)⟩ : S62)] : List (S62)))
set_option maxHeartbeats 8000000 in
set_option maxRecDepth 100000 in
theorem pianolaref3_others.calls  (r : List (S62)) (w : World) (h : pianolaref3_others.f  = some r) :
    Calls Try.prog 57 #[] w fun e w' => ∃ v0_ : Value, e = .returned (v0_) ∧ Kd.R k62 62 w' w.heap.size (fun _ => True) v0_ r ∧ Below w.heap.size w w' := by
  have hu62 := Try.underlying62
  have HB := Aside0.mk (Below.refl w.heap.size w)
  have H : (some (([(⟨1, 0, 36, (⟨#[115, 105]⟩ : ByteArray)⟩ : S62), (⟨1, 1, 37, (⟨#[115, 105]⟩ : ByteArray)⟩ : S62), (⟨1, 16, 38, (⟨#[115, 105]⟩ : ByteArray)⟩ : S62), (⟨1, 17, 39, (⟨#[115, 105]⟩ : ByteArray)⟩ : S62), (⟨16, 0, 54, (⟨#[116, 100]⟩ : ByteArray)⟩ : S62), (⟨16, 4, 55, (⟨#[116, 100]⟩ : ByteArray)⟩ : S62), (⟨16, 65, 56, (⟨#[]⟩ : ByteArray)⟩ : S62), (⟨16, 66, 57, (⟨#[]⟩ : ByteArray)⟩ : S62), (⟨16, 70, 58, (⟨#[]⟩ : ByteArray)⟩ : S62), (⟨16, 72, 59, (⟨#[]⟩ : ByteArray)⟩ : S62), (⟨16, 88, 60, (⟨#[]⟩ : ByteArray)⟩ : S62), (⟨16, 96, 61, (⟨#[]⟩ : ByteArray)⟩ : S62), (⟨28, 2, 63, (⟨#[115, 116, 100]⟩ : ByteArray)⟩ : S62), (⟨28, 32, 64, (⟨#[115, 100]⟩ : ByteArray)⟩ : S62), (⟨28, 33, 65, (⟨#[115, 100]⟩ : ByteArray)⟩ : S62)] : List (S62)))) = some r := h
  clear h
  obtain ⟨y206, hy206⟩ : ∃ y_ : List (S62), y_ = (([(⟨1, 0, 36, (⟨#[115, 105]⟩ : ByteArray)⟩ : S62), (⟨1, 1, 37, (⟨#[115, 105]⟩ : ByteArray)⟩ : S62), (⟨1, 16, 38, (⟨#[115, 105]⟩ : ByteArray)⟩ : S62), (⟨1, 17, 39, (⟨#[115, 105]⟩ : ByteArray)⟩ : S62), (⟨16, 0, 54, (⟨#[116, 100]⟩ : ByteArray)⟩ : S62), (⟨16, 4, 55, (⟨#[116, 100]⟩ : ByteArray)⟩ : S62), (⟨16, 65, 56, (⟨#[]⟩ : ByteArray)⟩ : S62), (⟨16, 66, 57, (⟨#[]⟩ : ByteArray)⟩ : S62), (⟨16, 70, 58, (⟨#[]⟩ : ByteArray)⟩ : S62), (⟨16, 72, 59, (⟨#[]⟩ : ByteArray)⟩ : S62), (⟨16, 88, 60, (⟨#[]⟩ : ByteArray)⟩ : S62), (⟨16, 96, 61, (⟨#[]⟩ : ByteArray)⟩ : S62), (⟨28, 2, 63, (⟨#[115, 116, 100]⟩ : ByteArray)⟩ : S62), (⟨28, 32, 64, (⟨#[115, 100]⟩ : ByteArray)⟩ : S62), (⟨28, 33, 65, (⟨#[115, 100]⟩ : ByteArray)⟩ : S62)] : List (S62))) := ⟨_, rfl⟩
  replace H : (some y206) = some r := by first | (rw [hy206]; with_reducible exact H) | (have H2_ := (Option.bind_some _ _).symm.trans H; rw [hy206]; with_reducible exact H2_) | (have H2_ := (Option.bind_some _ _).symm.trans H; with_reducible exact H2_) | with_reducible exact H | (rw [hy206]; exact H) | exact H
  have Ny206 := Aside0.mk hy206
  clear hy206
  obtain rfl := Option.some.inj H
  go_enter Try.func57, Try.ntmps57
  go_wp2_with (first | ((with_reducible refine gate_dst (N := 16) rfl ?_); refine Kd.R_lit k62 _ 62 ?hg (N := 16) ?hd (xs := ([(⟨1, 0, 36, (⟨#[115, 105]⟩ : ByteArray)⟩ : S62), (⟨1, 1, 37, (⟨#[115, 105]⟩ : ByteArray)⟩ : S62), (⟨1, 16, 38, (⟨#[115, 105]⟩ : ByteArray)⟩ : S62), (⟨1, 17, 39, (⟨#[115, 105]⟩ : ByteArray)⟩ : S62), (⟨16, 0, 54, (⟨#[116, 100]⟩ : ByteArray)⟩ : S62), (⟨16, 4, 55, (⟨#[116, 100]⟩ : ByteArray)⟩ : S62), (⟨16, 65, 56, (⟨#[]⟩ : ByteArray)⟩ : S62), (⟨16, 66, 57, (⟨#[]⟩ : ByteArray)⟩ : S62), (⟨16, 70, 58, (⟨#[]⟩ : ByteArray)⟩ : S62), (⟨16, 72, 59, (⟨#[]⟩ : ByteArray)⟩ : S62), (⟨16, 88, 60, (⟨#[]⟩ : ByteArray)⟩ : S62), (⟨16, 96, 61, (⟨#[]⟩ : ByteArray)⟩ : S62), (⟨28, 2, 63, (⟨#[115, 116, 100]⟩ : ByteArray)⟩ : S62), (⟨28, 32, 64, (⟨#[115, 100]⟩ : ByteArray)⟩ : S62), (⟨28, 33, 65, (⟨#[115, 100]⟩ : ByteArray)⟩ : S62)] : List (S62))) (inner := [.int .i64 1, .int .i64 0, .int .i64 36, .string (⟨#[115, 105]⟩ : ByteArray), .int .i64 1, .int .i64 1, .int .i64 37, .string (⟨#[115, 105]⟩ : ByteArray), .int .i64 1, .int .i64 16, .int .i64 38, .string (⟨#[115, 105]⟩ : ByteArray), .int .i64 1, .int .i64 17, .int .i64 39, .string (⟨#[115, 105]⟩ : ByteArray), .int .i64 16, .int .i64 0, .int .i64 54, .string (⟨#[116, 100]⟩ : ByteArray), .int .i64 16, .int .i64 4, .int .i64 55, .string (⟨#[116, 100]⟩ : ByteArray), .int .i64 16, .int .i64 65, .int .i64 56, .string (⟨#[]⟩ : ByteArray), .int .i64 16, .int .i64 66, .int .i64 57, .string (⟨#[]⟩ : ByteArray), .int .i64 16, .int .i64 70, .int .i64 58, .string (⟨#[]⟩ : ByteArray), .int .i64 16, .int .i64 72, .int .i64 59, .string (⟨#[]⟩ : ByteArray), .int .i64 16, .int .i64 88, .int .i64 60, .string (⟨#[]⟩ : ByteArray), .int .i64 16, .int .i64 96, .int .i64 61, .string (⟨#[]⟩ : ByteArray), .int .i64 28, .int .i64 2, .int .i64 63, .string (⟨#[115, 116, 100]⟩ : ByteArray), .int .i64 28, .int .i64 32, .int .i64 64, .string (⟨#[115, 100]⟩ : ByteArray), .int .i64 28, .int .i64 33, .int .i64 65, .string (⟨#[115, 100]⟩ : ByteArray)]) (ok := fun _ => True) (okp := fun _ => True) ?hr ?hp (fun _ hk => hk) trivial (Below.refl _ _) (Nat.le_refl _) (by simp) ?_; (case hd => rfl); (case hg => rfl); (case hr => first | (go_simp; done) | (go_simp; rfl)); (case hp => exact (Reps.c4 (show Kd.M k62 _ _ _ (⟨1, 0, 36, (⟨#[115, 105]⟩ : ByteArray)⟩ : S62) [.int .i64 1, .int .i64 0, .int .i64 36, .string (⟨#[115, 105]⟩ : ByteArray)] from (k62_mkM _ _ _ (⟨1, 0, 36, (⟨#[115, 105]⟩ : ByteArray)⟩ : S62) )) (Reps.c4 (show Kd.M k62 _ _ _ (⟨1, 1, 37, (⟨#[115, 105]⟩ : ByteArray)⟩ : S62) [.int .i64 1, .int .i64 1, .int .i64 37, .string (⟨#[115, 105]⟩ : ByteArray)] from (k62_mkM _ _ _ (⟨1, 1, 37, (⟨#[115, 105]⟩ : ByteArray)⟩ : S62) )) (Reps.c4 (show Kd.M k62 _ _ _ (⟨1, 16, 38, (⟨#[115, 105]⟩ : ByteArray)⟩ : S62) [.int .i64 1, .int .i64 16, .int .i64 38, .string (⟨#[115, 105]⟩ : ByteArray)] from (k62_mkM _ _ _ (⟨1, 16, 38, (⟨#[115, 105]⟩ : ByteArray)⟩ : S62) )) (Reps.c4 (show Kd.M k62 _ _ _ (⟨1, 17, 39, (⟨#[115, 105]⟩ : ByteArray)⟩ : S62) [.int .i64 1, .int .i64 17, .int .i64 39, .string (⟨#[115, 105]⟩ : ByteArray)] from (k62_mkM _ _ _ (⟨1, 17, 39, (⟨#[115, 105]⟩ : ByteArray)⟩ : S62) )) (Reps.c4 (show Kd.M k62 _ _ _ (⟨16, 0, 54, (⟨#[116, 100]⟩ : ByteArray)⟩ : S62) [.int .i64 16, .int .i64 0, .int .i64 54, .string (⟨#[116, 100]⟩ : ByteArray)] from (k62_mkM _ _ _ (⟨16, 0, 54, (⟨#[116, 100]⟩ : ByteArray)⟩ : S62) )) (Reps.c4 (show Kd.M k62 _ _ _ (⟨16, 4, 55, (⟨#[116, 100]⟩ : ByteArray)⟩ : S62) [.int .i64 16, .int .i64 4, .int .i64 55, .string (⟨#[116, 100]⟩ : ByteArray)] from (k62_mkM _ _ _ (⟨16, 4, 55, (⟨#[116, 100]⟩ : ByteArray)⟩ : S62) )) (Reps.c4 (show Kd.M k62 _ _ _ (⟨16, 65, 56, (⟨#[]⟩ : ByteArray)⟩ : S62) [.int .i64 16, .int .i64 65, .int .i64 56, .string (⟨#[]⟩ : ByteArray)] from (k62_mkM _ _ _ (⟨16, 65, 56, (⟨#[]⟩ : ByteArray)⟩ : S62) )) (Reps.c4 (show Kd.M k62 _ _ _ (⟨16, 66, 57, (⟨#[]⟩ : ByteArray)⟩ : S62) [.int .i64 16, .int .i64 66, .int .i64 57, .string (⟨#[]⟩ : ByteArray)] from (k62_mkM _ _ _ (⟨16, 66, 57, (⟨#[]⟩ : ByteArray)⟩ : S62) )) (Reps.c4 (show Kd.M k62 _ _ _ (⟨16, 70, 58, (⟨#[]⟩ : ByteArray)⟩ : S62) [.int .i64 16, .int .i64 70, .int .i64 58, .string (⟨#[]⟩ : ByteArray)] from (k62_mkM _ _ _ (⟨16, 70, 58, (⟨#[]⟩ : ByteArray)⟩ : S62) )) (Reps.c4 (show Kd.M k62 _ _ _ (⟨16, 72, 59, (⟨#[]⟩ : ByteArray)⟩ : S62) [.int .i64 16, .int .i64 72, .int .i64 59, .string (⟨#[]⟩ : ByteArray)] from (k62_mkM _ _ _ (⟨16, 72, 59, (⟨#[]⟩ : ByteArray)⟩ : S62) )) (Reps.c4 (show Kd.M k62 _ _ _ (⟨16, 88, 60, (⟨#[]⟩ : ByteArray)⟩ : S62) [.int .i64 16, .int .i64 88, .int .i64 60, .string (⟨#[]⟩ : ByteArray)] from (k62_mkM _ _ _ (⟨16, 88, 60, (⟨#[]⟩ : ByteArray)⟩ : S62) )) (Reps.c4 (show Kd.M k62 _ _ _ (⟨16, 96, 61, (⟨#[]⟩ : ByteArray)⟩ : S62) [.int .i64 16, .int .i64 96, .int .i64 61, .string (⟨#[]⟩ : ByteArray)] from (k62_mkM _ _ _ (⟨16, 96, 61, (⟨#[]⟩ : ByteArray)⟩ : S62) )) (Reps.c4 (show Kd.M k62 _ _ _ (⟨28, 2, 63, (⟨#[115, 116, 100]⟩ : ByteArray)⟩ : S62) [.int .i64 28, .int .i64 2, .int .i64 63, .string (⟨#[115, 116, 100]⟩ : ByteArray)] from (k62_mkM _ _ _ (⟨28, 2, 63, (⟨#[115, 116, 100]⟩ : ByteArray)⟩ : S62) )) (Reps.c4 (show Kd.M k62 _ _ _ (⟨28, 32, 64, (⟨#[115, 100]⟩ : ByteArray)⟩ : S62) [.int .i64 28, .int .i64 32, .int .i64 64, .string (⟨#[115, 100]⟩ : ByteArray)] from (k62_mkM _ _ _ (⟨28, 32, 64, (⟨#[115, 100]⟩ : ByteArray)⟩ : S62) )) (Reps.c4 (show Kd.M k62 _ _ _ (⟨28, 33, 65, (⟨#[115, 100]⟩ : ByteArray)⟩ : S62) [.int .i64 28, .int .i64 33, .int .i64 65, .string (⟨#[115, 100]⟩ : ByteArray)] from (k62_mkM _ _ _ (⟨28, 33, 65, (⟨#[115, 100]⟩ : ByteArray)⟩ : S62) )) (Reps.none _ _))))))))))))))))); intro v207 w1 ho2 hb hg_ hnew_; clear hg_ hnew_; (first | rw [← Ny206.out] at ho2 | (simp only [Int.reduceToNat] at ho2; rw [← Ny206.out] at ho2)); have n0_ := Aside0.mk (Kd.R_lower ho2 (below_size (by repeat (first | (with_reducible first | exact HB.out | apply below_alloc | apply pw_below_drewN | apply below_drew1) | exact HB.out)))); have n1_ := Aside0.mk (below_step (by repeat (first | (with_reducible first | exact HB.out | apply below_alloc | apply pw_below_drewN | apply below_drew1) | exact HB.out)) hb); clear HB; have HO208 := n0_; have HB := n1_; clear n0_ n1_; clear hb ho2))
  go_ret
  exact ⟨_, by first | rfl | (simp [errW_none, errW_some] <;> rfl) | (simp [*, errW_none, errW_some] <;> rfl), by (with_reducible repeat (first | apply Kd.R_alloc | apply Kd.R_drewN | apply Kd.R_drew)); exact HO208.out, by repeat (first | (with_reducible first | exact HB.out | apply below_alloc | apply pw_below_drewN | apply below_drew1) | exact HB.out)⟩

/-! ### pianolaref3_find: function 51 -/
mutual
def pianolaref3_find.l0 : Nat → Int → Int → Option (Int × Int × Int × ByteArray × Bool)
  | 0, _, _ => none
  | k + 1, x0, x4 => if x4 < 3 then ((pianolaref3_special.f).bind fun t210 => (if x4 = 1 then ((pianolaref3_plain.f).bind fun t213 => (pianolaref3_find.j1 k x0 x4 t213)) else (if x4 = 2 then ((pianolaref3_others.f).bind fun t216 => (pianolaref3_find.j1 k x0 x4 t216)) else (pianolaref3_find.j1 k x0 x4 t210)))) else (some (0, 0, 0, (⟨#[]⟩ : ByteArray), false))
def pianolaref3_find.j1 : Nat → Int → Int → List (S62) → Option (Int × Int × Int × ByteArray × Bool)
  | 0, _, _, _ => none
  | k + 1, x0, x4, x5 => pianolaref3_find.l1 k x0 x4 x5 0
def pianolaref3_find.l1 : Nat → Int → Int → List (S62) → Int → Option (Int × Int × Int × ByteArray × Bool)
  | 0, _, _, _, _ => none
  | k + 1, x0, x4, x5, x6 => if x6 < (x5.length : Int) then (if 0 ≤ x6 then (if ((rd_T62 x5 x6).f2) = x0 then (some ((rd_T62 x5 x6).f0, (rd_T62 x5 x6).f1, (rd_T62 x5 x6).f2, (rd_T62 x5 x6).f3, true)) else (pianolaref3_find.l1 k x0 x4 x5 (wrap64 (x6 + 1)))) else (none)) else (pianolaref3_find.l0 k x0 (wrap64 (x4 + 1)))
end
def pianolaref3_find.f (k : Nat) (a0 : Int) : Option (Int × Int × Int × ByteArray × Bool) := pianolaref3_find.l0 k a0 0
theorem pianolaref3_find.mono_l : ∀ k, (∀ y0 y1, LeO (pianolaref3_find.l0 k y0 y1) (pianolaref3_find.l0 (k + 1) y0 y1)) ∧ (∀ y0 y1 y2, LeO (pianolaref3_find.j1 k y0 y1 y2) (pianolaref3_find.j1 (k + 1) y0 y1 y2)) ∧ (∀ y0 y1 y2 y3, LeO (pianolaref3_find.l1 k y0 y1 y2 y3) (pianolaref3_find.l1 (k + 1) y0 y1 y2 y3))
  | 0 => ⟨fun _ _ r h => by simp [pianolaref3_find.l0] at h, fun _ _ _ r h => by simp [pianolaref3_find.j1] at h, fun _ _ _ _ r h => by simp [pianolaref3_find.l1] at h⟩
  | k + 1 => by
    obtain ⟨ih0, ih1, ih2⟩ := pianolaref3_find.mono_l k
    refine ⟨?_, ?_, ?_⟩
    · intro y0 y1
      unfold pianolaref3_find.l0
      repeat' first
      | (with_reducible exact ih0 _ _)
      | (with_reducible exact ih1 _ _ _)
      | (with_reducible exact ih2 _ _ _ _)
      | (with_reducible exact LeO.refl _)
      | (with_reducible exact LeO.none _)
      | (with_reducible refine LeO.ite ?_ ?_)
      | (with_reducible refine LeO.bind ?_ (fun _ => ?_))
      | exact ih0 _ _
      | exact ih1 _ _ _
      | exact ih2 _ _ _ _
      | exact LeO.none _
      | refine LeO.ite ?_ ?_
      | refine LeO.bind ?_ (fun _ => ?_)
    · intro y0 y1 y2
      unfold pianolaref3_find.j1
      repeat' first
      | (with_reducible exact ih0 _ _)
      | (with_reducible exact ih1 _ _ _)
      | (with_reducible exact ih2 _ _ _ _)
      | (with_reducible exact LeO.refl _)
      | (with_reducible exact LeO.none _)
      | (with_reducible refine LeO.ite ?_ ?_)
      | (with_reducible refine LeO.bind ?_ (fun _ => ?_))
      | exact ih0 _ _
      | exact ih1 _ _ _
      | exact ih2 _ _ _ _
      | exact LeO.none _
      | refine LeO.ite ?_ ?_
      | refine LeO.bind ?_ (fun _ => ?_)
    · intro y0 y1 y2 y3
      unfold pianolaref3_find.l1
      repeat' first
      | (with_reducible exact ih0 _ _)
      | (with_reducible exact ih1 _ _ _)
      | (with_reducible exact ih2 _ _ _ _)
      | (with_reducible exact LeO.refl _)
      | (with_reducible exact LeO.none _)
      | (with_reducible refine LeO.ite ?_ ?_)
      | (with_reducible refine LeO.bind ?_ (fun _ => ?_))
      | exact ih0 _ _
      | exact ih1 _ _ _
      | exact ih2 _ _ _ _
      | exact LeO.none _
      | refine LeO.ite ?_ ?_
      | refine LeO.bind ?_ (fun _ => ?_)
theorem pianolaref3_find.mono : ∀ a0 k, LeO (pianolaref3_find.f k a0) (pianolaref3_find.f (k + 1) a0) := by
  intro a0 k
  obtain ⟨ih0, ih1, ih2⟩ := pianolaref3_find.mono_l k
  unfold pianolaref3_find.f
  repeat' first
      | (with_reducible exact ih0 _ _)
      | (with_reducible exact ih1 _ _ _)
      | (with_reducible exact ih2 _ _ _ _)
      | (with_reducible exact LeO.refl _)
      | (with_reducible exact LeO.none _)
      | (with_reducible refine LeO.ite ?_ ?_)
      | (with_reducible refine LeO.bind ?_ (fun _ => ?_))
      | exact ih0 _ _
      | exact ih1 _ _ _
      | exact ih2 _ _ _ _
      | exact LeO.none _
      | refine LeO.ite ?_ ?_
      | refine LeO.bind ?_ (fun _ => ?_)
set_option maxHeartbeats 8000000 in
set_option maxRecDepth 100000 in
theorem pianolaref3_find.calls (k : Nat) (a0 : Int) (r1 : Int) (r2 : Int) (r3 : Int) (r4 : ByteArray) (r5 : Bool) (w : World) (h : pianolaref3_find.f k a0 = some (r1, r2, r3, r4, r5)) :
    Calls Try.prog 51 #[.int .i64 a0] w fun e w' => e = .returned (.tuple #[.agg #[.int .i64 r1, .int .i64 r2, .int .i64 r3, .string r4], .bool r5]) ∧ Below w.heap.size w w' := by
  have hu62 := Try.underlying62
  have HB := Aside0.mk (Below.refl w.heap.size w)
  have H : (pianolaref3_find.l0 k a0 0) = some (r1, r2, r3, r4, r5) := h
  clear h
  have H' := Aside0.mk H
  clear H
  go_enter Try.func51, Try.ntmps51
  go_wp2_with (first | ((with_reducible refine gate_dst (N := 2) rfl ?_); refine box_event ?hg (N := 2) ?hd (cs := #[.int .i64 0, .int .i64 0, .int .i64 0, .string (⟨#[]⟩ : ByteArray)]) (t := 62) ?hr ?_; (case hd => rfl); (case hg => rfl); (case hr => first | (go_simp; done) | (go_simp; rfl)); intro gb209 hg w2 hbox hb; have n0_ := Aside0.mk (below_step (by repeat (first | (with_reducible first | exact HB.out | apply below_alloc | apply pw_below_drewN | apply below_drew1) | exact HB.out)) hb); have n1_ := Aside0.mk (hbox); have n2_ := Aside0.mk ((by rw [hg]; exact (below_size (by repeat (first | (with_reducible first | exact HB.out | apply below_alloc | apply pw_below_drewN | apply below_drew1) | exact HB.out))) : w.heap.size ≤ gb209)); have n3_ := Aside0.mk ((by rw [hg]; exact (below_size (by repeat (first | (with_reducible first | exact HB.out | apply below_alloc | apply pw_below_drewN | apply below_drew1) | exact HB.out))) : w.heap.size ≤ gb209)); clear HB; have HB := n0_; have BK209 := n1_; have GW209 := n2_; have GE209 := n3_; clear n0_ n1_ n2_ n3_; clear hb hbox hg))
  go_loopg [4] k (fun kq v4 w' => ∃ (x4_1 : Int) (x210000_1 : Int) (x210001_1 : Int) (x210002_1 : Int) (x210003_1 : ByteArray), v4 = .int .i64 x4_1 ∧ Aside0 (pianolaref3_find.l0 kq a0 x4_1 = some (r1, r2, r3, r4, r5)) ∧ Aside0 (kq ≤ k) ∧ Aside0 (w'.heap[gb209]? = some (.cells #[.int .i64 x210000_1, .int .i64 x210001_1, .int .i64 x210002_1, .string x210003_1] 62 (0, 0))) ∧ Aside0 (Below w.heap.size w w'))
  case atStart => exact ⟨(0), (0), (0), (0), ((⟨#[]⟩ : ByteArray)), (by first | rfl | (simp; done) | (simp [*]; done) | (simp; omega)), H', ⟨Nat.le_refl _⟩, ⟨by (with_reducible repeat (first | refine blk_drewN ?_ _ | refine blk_drew ?_ | refine blk_alloc ?_ _)); exact BK209.out⟩, ⟨by repeat (first | (with_reducible first | exact HB.out | apply below_alloc | apply pw_below_drewN | apply below_drew1 | refine below_set ?_ GE209.out) | exact HB.out)⟩⟩
  case round =>
    clear H'
    try clear p2
    obtain ⟨x4_1, x210000_1, x210001_1, x210002_1, x210003_1, rfl, HA, HK1, BK209, HB⟩ := hrel
    cases gk with
    | zero => exact absurd HA.out (by simp [pianolaref3_find.l0])
    | succ k1 =>
      have H := HA.out
      clear HA
      simp only [pianolaref3_find.l0] at H
      by_cases c3 : x4_1 < 3
      · rw [if_pos c3] at H
        have c3b0 : decide (x4_1 < 3) = true := decide_eq_true c3
        clear c3
        replace H := Option.bind_eq_some_iff.mp H
        obtain ⟨t210, A40, H⟩ := H
        replace H : (if x4_1 = 1 then ((pianolaref3_plain.f).bind fun t213 => (pianolaref3_find.j1 k1 a0 x4_1 t213)) else (if x4_1 = 2 then ((pianolaref3_others.f).bind fun t216 => (pianolaref3_find.j1 k1 a0 x4_1 t216)) else (pianolaref3_find.j1 k1 a0 x4_1 t210))) = some (r1, r2, r3, r4, r5) := H
        have A4 := Aside0.mk A40
        clear A40
        have HC5 := Aside0.mk H
        clear H
        go_upto_if 13 with (first | ((with_reducible refine gate_callee (f := 55) rfl ?_); refine goesL_ (some 11) rfl rfl Try.func55 (by kernel_rfl) rfl #[] rfl (by (try simp only [List.map_toArray, List.map_cons, List.map_nil]); first | done | rfl | (simp only [List.length_drop, List.length_take]; rfl)) ?_; (with_reducible refine (pianolaref3_special.calls  t210 _ A4.out).mono ?_); rintro e w6 ⟨v211, rfl, ho0, hb⟩; refine ⟨_, rfl, ?_⟩; have n0_ := Aside0.mk (Kd.R_lower (Kd.R_newB ho0 (g := gb209) (o := .cells #[.int .i64 x210000_1, .int .i64 x210001_1, .int .i64 x210002_1, .string x210003_1] 62 (0, 0)) (by (with_reducible repeat (first | refine blk_drewN ?_ _ | refine blk_drew ?_ | refine blk_alloc ?_ _)); exact BK209.out)) (below_size (by repeat (first | (with_reducible first | exact HB.out | apply below_alloc | apply pw_below_drewN | apply below_drew1 | refine below_set ?_ GE209.out) | exact HB.out)))); have n1_ := Aside0.mk (blk_below (g := gb209) (o := .cells #[.int .i64 x210000_1, .int .i64 x210001_1, .int .i64 x210002_1, .string x210003_1] 62 (0, 0)) (by (with_reducible repeat (first | refine blk_drewN ?_ _ | refine blk_drew ?_ | refine blk_alloc ?_ _)); exact BK209.out) hb); have n2_ := Aside0.mk (below_step (by repeat (first | (with_reducible first | exact HB.out | apply below_alloc | apply pw_below_drewN | apply below_drew1 | refine below_set ?_ GE209.out) | exact HB.out)) hb); clear BK209; clear HB; have HO212 := n0_; have BK209 := n1_; have HB := n2_; clear n0_ n1_ n2_; (try clear hb); (try clear hb2); (try clear hk); (try clear hi); (try clear ho0)))
        (try simp only [Act.put, List.setIfInBounds_toArray, List.set_cons_zero, List.set_cons_succ])
        go_cut [5] (fun v5 wc => ∃ (kq : Nat) (x5_4 : List (S62)), Aside0 (pianolaref3_find.j1 kq a0 x4_1 x5_4 = some (r1, r2, r3, r4, r5)) ∧ Aside0 (kq ≤ k1) ∧ Aside0 (Kd.R k62 62 wc w.heap.size (fun k_ => k_ ≠ gb209) v5 x5_4) ∧ Aside0 (wc.heap[gb209]? = some (.cells #[.int .i64 x210000_1, .int .i64 x210001_1, .int .i64 x210002_1, .string x210003_1] 62 (0, 0))) ∧ Aside0 (Below w.heap.size w wc))
        case first =>
          have H := HC5.out
          clear HC5
          by_cases c7 : x4_1 = 1
          · rw [if_pos c7] at H
            have c7b0 : (x4_1 == 1) = true := beq_iff_eq.mpr c7
            have c7b1 : (x4_1 != 1) = false := bne_eq_false_iff_eq.mpr c7
            clear c7
            (first | rw [c7b0] | (simp only [i64_w, i32_w]; rw [c7b0]) | skip)
            replace H := Option.bind_eq_some_iff.mp H
            obtain ⟨t213, A80, H⟩ := H
            replace H : (pianolaref3_find.j1 k1 a0 x4_1 t213) = some (r1, r2, r3, r4, r5) := H
            have A8 := Aside0.mk A80
            clear A80
            have H' := Aside0.mk H
            clear H
            go_wp2_with (first | ((with_reducible refine gate_callee (f := 56) rfl ?_); refine goesL_ (some 14) rfl rfl Try.func56 (by kernel_rfl) rfl #[] rfl (by (try simp only [List.map_toArray, List.map_cons, List.map_nil]); first | done | rfl | (simp only [List.length_drop, List.length_take]; rfl)) ?_; (with_reducible refine (pianolaref3_plain.calls  t213 _ A8.out).mono ?_); rintro e w9 ⟨v214, rfl, ho0, hb⟩; refine ⟨_, rfl, ?_⟩; have n0_ := Aside0.mk (Kd.R_elder' (by (with_reducible repeat (first | apply Kd.R_alloc | apply Kd.R_drewN | apply Kd.R_drew)); exact HO212.out) (Kd.R_base ho0) hb); have n1_ := Aside0.mk (Kd.R_lower (Kd.R_newB (Kd.R_new' ho0 (Kd.R_lt (by (with_reducible repeat (first | apply Kd.R_alloc | apply Kd.R_drewN | apply Kd.R_drew)); exact HO212.out))) (g := gb209) (o := .cells #[.int .i64 x210000_1, .int .i64 x210001_1, .int .i64 x210002_1, .string x210003_1] 62 (0, 0)) (by (with_reducible repeat (first | refine blk_drewN ?_ _ | refine blk_drew ?_ | refine blk_alloc ?_ _)); exact BK209.out)) (below_size (by repeat (first | (with_reducible first | exact HB.out | apply below_alloc | apply pw_below_drewN | apply below_drew1 | refine below_set ?_ GE209.out) | exact HB.out)))); have n2_ := Aside0.mk (blk_below (g := gb209) (o := .cells #[.int .i64 x210000_1, .int .i64 x210001_1, .int .i64 x210002_1, .string x210003_1] 62 (0, 0)) (by (with_reducible repeat (first | refine blk_drewN ?_ _ | refine blk_drew ?_ | refine blk_alloc ?_ _)); exact BK209.out) hb); have n3_ := Aside0.mk (below_step (by repeat (first | (with_reducible first | exact HB.out | apply below_alloc | apply pw_below_drewN | apply below_drew1 | refine below_set ?_ GE209.out) | exact HB.out)) hb); clear HO212; clear BK209; clear HB; have HO212 := n0_; have HO215 := n1_; have BK209 := n2_; have HB := n3_; clear n0_ n1_ n2_ n3_; (try clear hb); (try clear hb2); (try clear hk); (try clear hi); (try clear ho0)))
            go_meet
            case rel => exact ⟨_, (t213), H', ⟨by have := HK1.out; first | omega | exact Nat.le_refl _⟩, ⟨by (with_reducible repeat (first | apply Kd.R_alloc | apply Kd.R_drewN | apply Kd.R_drew)); exact Kd.R_mono HO215.out (fun _ hk => hk.2)⟩, ⟨by (with_reducible repeat (first | refine blk_drewN ?_ _ | refine blk_drew ?_ | refine blk_alloc ?_ _)); exact BK209.out⟩, ⟨by repeat (first | (with_reducible first | exact HB.out | apply below_alloc | apply pw_below_drewN | apply below_drew1 | refine below_set ?_ GE209.out) | exact HB.out)⟩⟩
          · rw [if_neg c7] at H
            have c7b0 : (x4_1 == 1) = false := beq_eq_false_iff_ne.mpr c7
            have c7b1 : (x4_1 != 1) = true := bne_iff_ne.mpr c7
            (first | rw [c7b0] | (simp only [i64_w, i32_w]; rw [c7b0]) | skip)
            by_cases c10 : x4_1 = 2
            · rw [if_pos c10] at H
              have c10b0 : (x4_1 == 2) = true := beq_iff_eq.mpr c10
              have c10b1 : (x4_1 != 2) = false := bne_eq_false_iff_eq.mpr c10
              clear c10
              replace H := Option.bind_eq_some_iff.mp H
              obtain ⟨t216, A110, H⟩ := H
              replace H : (pianolaref3_find.j1 k1 a0 x4_1 t216) = some (r1, r2, r3, r4, r5) := H
              have A11 := Aside0.mk A110
              clear A110
              have H' := Aside0.mk H
              clear H
              go_wp2_with (first | ((with_reducible refine gate_callee (f := 57) rfl ?_); refine goesL_ (some 17) rfl rfl Try.func57 (by kernel_rfl) rfl #[] rfl (by (try simp only [List.map_toArray, List.map_cons, List.map_nil]); first | done | rfl | (simp only [List.length_drop, List.length_take]; rfl)) ?_; (with_reducible refine (pianolaref3_others.calls  t216 _ A11.out).mono ?_); rintro e w12 ⟨v217, rfl, ho0, hb⟩; refine ⟨_, rfl, ?_⟩; have n0_ := Aside0.mk (Kd.R_elder' (by (with_reducible repeat (first | apply Kd.R_alloc | apply Kd.R_drewN | apply Kd.R_drew)); exact HO212.out) (Kd.R_base ho0) hb); have n1_ := Aside0.mk (Kd.R_lower (Kd.R_newB (Kd.R_new' ho0 (Kd.R_lt (by (with_reducible repeat (first | apply Kd.R_alloc | apply Kd.R_drewN | apply Kd.R_drew)); exact HO212.out))) (g := gb209) (o := .cells #[.int .i64 x210000_1, .int .i64 x210001_1, .int .i64 x210002_1, .string x210003_1] 62 (0, 0)) (by (with_reducible repeat (first | refine blk_drewN ?_ _ | refine blk_drew ?_ | refine blk_alloc ?_ _)); exact BK209.out)) (below_size (by repeat (first | (with_reducible first | exact HB.out | apply below_alloc | apply pw_below_drewN | apply below_drew1 | refine below_set ?_ GE209.out) | exact HB.out)))); have n2_ := Aside0.mk (blk_below (g := gb209) (o := .cells #[.int .i64 x210000_1, .int .i64 x210001_1, .int .i64 x210002_1, .string x210003_1] 62 (0, 0)) (by (with_reducible repeat (first | refine blk_drewN ?_ _ | refine blk_drew ?_ | refine blk_alloc ?_ _)); exact BK209.out) hb); have n3_ := Aside0.mk (below_step (by repeat (first | (with_reducible first | exact HB.out | apply below_alloc | apply pw_below_drewN | apply below_drew1 | refine below_set ?_ GE209.out) | exact HB.out)) hb); clear HO212; clear BK209; clear HB; have HO212 := n0_; have HO218 := n1_; have BK209 := n2_; have HB := n3_; clear n0_ n1_ n2_ n3_; (try clear hb); (try clear hb2); (try clear hk); (try clear hi); (try clear ho0)))
              go_meet
              case rel => exact ⟨_, (t216), H', ⟨by have := HK1.out; first | omega | exact Nat.le_refl _⟩, ⟨by (with_reducible repeat (first | apply Kd.R_alloc | apply Kd.R_drewN | apply Kd.R_drew)); exact Kd.R_mono HO218.out (fun _ hk => hk.2)⟩, ⟨by (with_reducible repeat (first | refine blk_drewN ?_ _ | refine blk_drew ?_ | refine blk_alloc ?_ _)); exact BK209.out⟩, ⟨by repeat (first | (with_reducible first | exact HB.out | apply below_alloc | apply pw_below_drewN | apply below_drew1 | refine below_set ?_ GE209.out) | exact HB.out)⟩⟩
            · rw [if_neg c10] at H
              have c10b0 : (x4_1 == 2) = false := beq_eq_false_iff_ne.mpr c10
              have c10b1 : (x4_1 != 2) = true := bne_iff_ne.mpr c10
              have H' := Aside0.mk H
              clear H
              go_wp2
              go_meet
              case rel => exact ⟨_, (t210), H', ⟨by have := HK1.out; first | omega | exact Nat.le_refl _⟩, ⟨by (with_reducible repeat (first | apply Kd.R_alloc | apply Kd.R_drewN | apply Kd.R_drew)); exact Kd.R_mono HO212.out (fun _ hk => hk.2)⟩, ⟨by (with_reducible repeat (first | refine blk_drewN ?_ _ | refine blk_drew ?_ | refine blk_alloc ?_ _)); exact BK209.out⟩, ⟨by repeat (first | (with_reducible first | exact HB.out | apply below_alloc | apply pw_below_drewN | apply below_drew1 | refine below_set ?_ GE209.out) | exact HB.out)⟩⟩
        case rest =>
          clear HC5
          try clear c1
          try clear p2
          try clear c3
          try clear c3b0
          try clear c5
          try clear c7
          try clear c7b0
          try clear c7b1
          try clear c10
          try clear c10b0
          try clear c10b1
          try clear p2
          obtain ⟨kq, x5_4, HA, HJ4, HO_5, BK209, HB⟩ := hcut
          cases kq with
          | zero => exact absurd HA.out (by simp [pianolaref3_find.j1])
          | succ kj4 =>
            have H := HA.out
            clear HA
            simp only [pianolaref3_find.j1] at H
            have H' := Aside0.mk H
            clear H
            go_wp2
            go_loopg [6] kj4 (fun kq v6 w' => ∃ (x6_3 : Int) (x210000_3 : Int) (x210001_3 : Int) (x210002_3 : Int) (x210003_3 : ByteArray), v6 = .int .i64 x6_3 ∧ Aside0 (pianolaref3_find.l1 kq a0 x4_1 x5_4 x6_3 = some (r1, r2, r3, r4, r5)) ∧ Aside0 (kq ≤ kj4) ∧ Aside0 (Kd.R k62 62 w' w.heap.size (fun k_ => k_ ≠ gb209) u5 x5_4) ∧ Aside0 (w'.heap[gb209]? = some (.cells #[.int .i64 x210000_3, .int .i64 x210001_3, .int .i64 x210002_3, .string x210003_3] 62 (0, 0))) ∧ Aside0 (Below w.heap.size w w'))
            case atStart => exact ⟨(0), (x210000_1), (x210001_1), (x210002_1), (x210003_1), (by first | rfl | (simp; done) | (simp [*]; done) | (simp; omega)), H', ⟨Nat.le_refl _⟩, ⟨by (with_reducible repeat (first | apply Kd.R_alloc | apply Kd.R_drewN | apply Kd.R_drew)); exact HO_5.out⟩, ⟨by (with_reducible repeat (first | refine blk_drewN ?_ _ | refine blk_drew ?_ | refine blk_alloc ?_ _)); exact BK209.out⟩, ⟨by repeat (first | (with_reducible first | exact HB.out | apply below_alloc | apply pw_below_drewN | apply below_drew1 | refine below_set ?_ GE209.out) | exact HB.out)⟩⟩
            case round =>
              clear H'
              try clear c1
              try clear p2
              try clear c3
              try clear c3b0
              try clear c5
              try clear c7
              try clear c7b0
              try clear c7b1
              try clear c10
              try clear c10b0
              try clear c10b1
              try clear p2
              obtain ⟨x6_3, x210000_3, x210001_3, x210002_3, x210003_3, rfl, HA, HK3, HO_5, BK209, HB⟩ := hrel
              cases gk with
              | zero => exact absurd HA.out (by simp [pianolaref3_find.l1])
              | succ k3 =>
                have H := HA.out
                clear HA
                simp only [pianolaref3_find.l1] at H
                by_cases c13 : x6_3 < (x5_4.length : Int)
                · rw [if_pos c13] at H
                  have c13b0 : decide (x6_3 < (x5_4.length : Int)) = true := decide_eq_true c13
                  clear c13
                  by_cases c14 : 0 ≤ x6_3
                  · rw [if_pos c14] at H
                    have c14b0 : decide (0 ≤ x6_3) = true := decide_eq_true c14
                    clear c14
                    by_cases c15 : ((rd_T62 x5_4 x6_3).f2) = a0
                    · rw [if_pos c15] at H
                      have c15b0 : (((rd_T62 x5_4 x6_3).f2) == a0) = true := beq_iff_eq.mpr c15
                      have c15b1 : (((rd_T62 x5_4 x6_3).f2) != a0) = false := bne_eq_false_iff_eq.mpr c15
                      clear c15
                      simp only [Option.some.injEq, Prod.mk.injEq] at H
                      obtain ⟨rfl, rfl, rfl, rfl, rfl⟩ := H
                      obtain ⟨Ao16, co16, eo16⟩ := Kd.R_slice HO_5.out
                      subst eo16
                      have p219 : 0 ≤ (x6_3 : Int) := of_decide_eq_true (by first | (with_reducible assumption) | assumption)
                      have q219 : x6_3 < (x5_4.length : Int) := of_decide_eq_true (by first | (with_reducible assumption) | assumption)
                      obtain ⟨ad219, e219, hx219_0, hx219_1, hx219_2, hx219_3⟩ := at_T62 (Kd.R_reads' HO_5.out).2.2 x6_3 p219 q219
                      cases e219
                      replace p219 := eq_true p219
                      replace q219 := eq_true q219
                      have p220 : 0 ≤ (x6_3 : Int) := of_decide_eq_true (by first | (with_reducible assumption) | assumption)
                      have q220 : x6_3 < (x5_4.length : Int) := of_decide_eq_true (by first | (with_reducible assumption) | assumption)
                      obtain ⟨ad220, e220, hx220_0, hx220_1, hx220_2, hx220_3⟩ := at_T62 (Kd.R_reads' HO_5.out).2.2 x6_3 p220 q220
                      obtain rfl : ad219 = ad220 := (by injection e220)
                      replace p220 := eq_true p220
                      replace q220 := eq_true q220
                      have hcz17_0 : wr.cell? ⟨gb209, 0, none⟩ = some (.int .i64 x210000_3) := (blk_cell BK209.out 0).trans rfl
                      have hcz17_1 : wr.cell? ⟨gb209, 1, none⟩ = some (.int .i64 x210001_3) := (blk_cell BK209.out 1).trans rfl
                      have hcz17_2 : wr.cell? ⟨gb209, 2, none⟩ = some (.int .i64 x210002_3) := (blk_cell BK209.out 2).trans rfl
                      have hcz17_3 : wr.cell? ⟨gb209, 3, none⟩ = some (.string x210003_3) := (blk_cell BK209.out 3).trans rfl
                      have hfz17_0 := blk_frozen BK209.out 0
                      have hfz17_1 := blk_frozen BK209.out 1
                      have hfz17_2 := blk_frozen BK209.out 2
                      have hfz17_3 := blk_frozen BK209.out 3
                      go_wp2
                      refine bodyPost_ret (results_ct rfl _ _ gb209 62 #[.int .i64 ((rd_T62 x5_4 x6_3).f0), .int .i64 ((rd_T62 x5_4 x6_3).f1), .int .i64 ((rd_T62 x5_4 x6_3).f2), .string ((rd_T62 x5_4 x6_3).f3)] (0, 0) _ rfl (by (with_reducible repeat (first | refine blk_drewN ?_ _ | refine blk_drew ?_ | refine blk_alloc ?_ _)); refine blk_put (cs := #[.int .i64 ((rd_T62 x5_4 x6_3).f0), .int .i64 ((rd_T62 x5_4 x6_3).f1), .int .i64 ((rd_T62 x5_4 x6_3).f2), .string x210003_3]) ?_ 3 _ rfl; (with_reducible repeat (first | refine blk_drewN ?_ _ | refine blk_drew ?_ | refine blk_alloc ?_ _)); refine blk_put (cs := #[.int .i64 ((rd_T62 x5_4 x6_3).f0), .int .i64 ((rd_T62 x5_4 x6_3).f1), .int .i64 x210002_3, .string x210003_3]) ?_ 2 _ rfl; (with_reducible repeat (first | refine blk_drewN ?_ _ | refine blk_drew ?_ | refine blk_alloc ?_ _)); refine blk_put (cs := #[.int .i64 ((rd_T62 x5_4 x6_3).f0), .int .i64 x210001_3, .int .i64 x210002_3, .string x210003_3]) ?_ 1 _ rfl; (with_reducible repeat (first | refine blk_drewN ?_ _ | refine blk_drew ?_ | refine blk_alloc ?_ _)); refine blk_put (cs := #[.int .i64 x210000_3, .int .i64 x210001_3, .int .i64 x210002_3, .string x210003_3]) ?_ 0 _ rfl; (with_reducible repeat (first | refine blk_drewN ?_ _ | refine blk_drew ?_ | refine blk_alloc ?_ _)); exact BK209.out) Try.underlying62 rfl (by kernel_rfl)) rfl ?_
                      exact ⟨by first | rfl | (simp [errW_none, errW_some] <;> rfl) | (simp [*, errW_none, errW_some] <;> rfl), by repeat (first | (with_reducible first | exact HB.out | apply below_alloc | apply pw_below_drewN | apply below_drew1 | refine below_set ?_ GE209.out) | exact HB.out)⟩
                    · rw [if_neg c15] at H
                      have c15b0 : (((rd_T62 x5_4 x6_3).f2) == a0) = false := beq_eq_false_iff_ne.mpr c15
                      have c15b1 : (((rd_T62 x5_4 x6_3).f2) != a0) = true := bne_iff_ne.mpr c15
                      have H' := Aside0.mk H
                      clear H
                      obtain ⟨Ao18, co18, eo18⟩ := Kd.R_slice HO_5.out
                      subst eo18
                      have p219 : 0 ≤ (x6_3 : Int) := of_decide_eq_true (by first | (with_reducible assumption) | assumption)
                      have q219 : x6_3 < (x5_4.length : Int) := of_decide_eq_true (by first | (with_reducible assumption) | assumption)
                      obtain ⟨ad219, e219, hx219_0, hx219_1, hx219_2, hx219_3⟩ := at_T62 (Kd.R_reads' HO_5.out).2.2 x6_3 p219 q219
                      cases e219
                      replace p219 := eq_true p219
                      replace q219 := eq_true q219
                      go_wp2
                      go_roundg k3
                      case measure => have := HK1.out; have := HJ4.out; have := HK3.out; omega
                      case rel => exact ⟨(wrap64 (x6_3 + 1)), (x210000_3), (x210001_3), (x210002_3), (x210003_3), (by first | rfl | (simp; done) | (simp [*]; done) | (simp; omega)), H', ⟨by have := HK1.out; have := HJ4.out; have := HK3.out; omega⟩, ⟨by (with_reducible repeat (first | apply Kd.R_alloc | apply Kd.R_drewN | apply Kd.R_drew)); exact HO_5.out⟩, ⟨by (with_reducible repeat (first | refine blk_drewN ?_ _ | refine blk_drew ?_ | refine blk_alloc ?_ _)); exact BK209.out⟩, ⟨by repeat (first | (with_reducible first | exact HB.out | apply below_alloc | apply pw_below_drewN | apply below_drew1 | refine below_set ?_ GE209.out) | exact HB.out)⟩⟩
                  · rw [if_neg c14] at H
                    exact absurd H (by simp)
                · rw [if_neg c13] at H
                  have c13b0 : decide (x6_3 < (x5_4.length : Int)) = false := decide_eq_false c13
                  clear c13
                  have H' := Aside0.mk H
                  clear H
                  obtain ⟨Ao19, co19, eo19⟩ := Kd.R_slice HO_5.out
                  subst eo19
                  go_wp2
                  go_roundg k3
                  case measure => have := HK1.out; have := HJ4.out; have := HK3.out; omega
                  case rel => exact ⟨(wrap64 (x4_1 + 1)), (x210000_3), (x210001_3), (x210002_3), (x210003_3), (by first | rfl | (simp; done) | (simp [*]; done) | (simp; omega)), H', ⟨by have := HK1.out; have := HJ4.out; have := HK3.out; omega⟩, ⟨by (with_reducible repeat (first | refine blk_drewN ?_ _ | refine blk_drew ?_ | refine blk_alloc ?_ _)); exact BK209.out⟩, ⟨by repeat (first | (with_reducible first | exact HB.out | apply below_alloc | apply pw_below_drewN | apply below_drew1 | refine below_set ?_ GE209.out) | exact HB.out)⟩⟩
      · rw [if_neg c3] at H
        have c3b0 : decide (x4_1 < 3) = false := decide_eq_false c3
        clear c3
        simp only [Option.some.injEq, Prod.mk.injEq] at H
        obtain ⟨rfl, rfl, rfl, rfl, rfl⟩ := H
        have hcz20_0 : wr.cell? ⟨gb209, 0, none⟩ = some (.int .i64 x210000_1) := (blk_cell BK209.out 0).trans rfl
        have hcz20_1 : wr.cell? ⟨gb209, 1, none⟩ = some (.int .i64 x210001_1) := (blk_cell BK209.out 1).trans rfl
        have hcz20_2 : wr.cell? ⟨gb209, 2, none⟩ = some (.int .i64 x210002_1) := (blk_cell BK209.out 2).trans rfl
        have hcz20_3 : wr.cell? ⟨gb209, 3, none⟩ = some (.string x210003_1) := (blk_cell BK209.out 3).trans rfl
        have hfz20_0 := blk_frozen BK209.out 0
        have hfz20_1 := blk_frozen BK209.out 1
        have hfz20_2 := blk_frozen BK209.out 2
        have hfz20_3 := blk_frozen BK209.out 3
        go_wp2
        refine bodyPost_ret (results_ct rfl _ _ gb209 62 #[.int .i64 0, .int .i64 0, .int .i64 0, .string (⟨#[]⟩ : ByteArray)] (0, 0) _ rfl (by (with_reducible repeat (first | refine blk_drewN ?_ _ | refine blk_drew ?_ | refine blk_alloc ?_ _)); refine blk_put (cs := #[.int .i64 0, .int .i64 0, .int .i64 0, .string x210003_1]) ?_ 3 _ rfl; (with_reducible repeat (first | refine blk_drewN ?_ _ | refine blk_drew ?_ | refine blk_alloc ?_ _)); refine blk_put (cs := #[.int .i64 0, .int .i64 0, .int .i64 x210002_1, .string x210003_1]) ?_ 2 _ rfl; (with_reducible repeat (first | refine blk_drewN ?_ _ | refine blk_drew ?_ | refine blk_alloc ?_ _)); refine blk_put (cs := #[.int .i64 0, .int .i64 x210001_1, .int .i64 x210002_1, .string x210003_1]) ?_ 1 _ rfl; (with_reducible repeat (first | refine blk_drewN ?_ _ | refine blk_drew ?_ | refine blk_alloc ?_ _)); refine blk_put (cs := #[.int .i64 x210000_1, .int .i64 x210001_1, .int .i64 x210002_1, .string x210003_1]) ?_ 0 _ rfl; (with_reducible repeat (first | refine blk_drewN ?_ _ | refine blk_drew ?_ | refine blk_alloc ?_ _)); exact BK209.out) Try.underlying62 rfl (by kernel_rfl)) rfl ?_
        exact ⟨by first | rfl | (simp [errW_none, errW_some] <;> rfl) | (simp [*, errW_none, errW_some] <;> rfl), by repeat (first | (with_reducible first | exact HB.out | apply below_alloc | apply pw_below_drewN | apply below_drew1 | refine below_set ?_ GE209.out) | exact HB.out)⟩

/-! ### pianolaref3_has: function 52 -/
def pianolaref3_has.l0 : Nat → ByteArray → Int → Int → Option (Bool)
  | 0, _, _, _ => none
  | k + 1, x0, x1, x5 => if x5 < (x0.size : Int) then (if 0 ≤ x5 then (if (bt x0 x5) = x1 then (some true) else (pianolaref3_has.l0 k x0 x1 (wrap64 (x5 + 1)))) else (none)) else (some false)
def pianolaref3_has.f (k : Nat) (a0 : ByteArray) (a1 : Int) : Option (Bool) := pianolaref3_has.l0 k a0 a1 0
theorem pianolaref3_has.mono_l : ∀ k, (∀ y0 y1 y2, LeO (pianolaref3_has.l0 k y0 y1 y2) (pianolaref3_has.l0 (k + 1) y0 y1 y2))
  | 0 => fun _ _ _ r h => by simp [pianolaref3_has.l0] at h
  | k + 1 => by
    have ih0 := pianolaref3_has.mono_l k
    · intro y0 y1 y2
      unfold pianolaref3_has.l0
      repeat' first
      | (with_reducible exact ih0 _ _ _)
      | (with_reducible exact LeO.refl _)
      | (with_reducible exact LeO.none _)
      | (with_reducible refine LeO.ite ?_ ?_)
      | (with_reducible refine LeO.bind ?_ (fun _ => ?_))
      | exact ih0 _ _ _
      | exact LeO.none _
      | refine LeO.ite ?_ ?_
      | refine LeO.bind ?_ (fun _ => ?_)
theorem pianolaref3_has.mono : ∀ a0 a1 k, LeO (pianolaref3_has.f k a0 a1) (pianolaref3_has.f (k + 1) a0 a1) := by
  intro a0 a1 k
  have ih0 := pianolaref3_has.mono_l k
  unfold pianolaref3_has.f
  repeat' first
      | (with_reducible exact ih0 _ _ _)
      | (with_reducible exact LeO.refl _)
      | (with_reducible exact LeO.none _)
      | (with_reducible refine LeO.ite ?_ ?_)
      | (with_reducible refine LeO.bind ?_ (fun _ => ?_))
      | exact ih0 _ _ _
      | exact LeO.none _
      | refine LeO.ite ?_ ?_
      | refine LeO.bind ?_ (fun _ => ?_)
set_option maxHeartbeats 8000000 in
set_option maxRecDepth 100000 in
theorem pianolaref3_has.calls (k : Nat) (a0 : ByteArray) (a1 : Int) (r : Bool) (w : World) (h : pianolaref3_has.f k a0 a1 = some r) :
    Calls Try.prog 52 #[.string a0, .int .u8 a1] w fun e w' => e = .returned (.bool r) ∧ Drawn0 w w' := by
  have H : (pianolaref3_has.l0 k a0 a1 0) = some r := h
  clear h
  have H' := Aside0.mk H
  clear H
  go_enter Try.func52, Try.ntmps52
  go_wp2
  go_loopg [5] k (fun kq v5 w' => ∃ (x5_1 : Int), v5 = .int .i64 x5_1 ∧ Aside0 (pianolaref3_has.l0 kq a0 a1 x5_1 = some r) ∧ Aside0 (kq ≤ k) ∧ Drawn0 w w')
  case atStart => exact ⟨(0), (by first | rfl | (simp; done) | (simp [*]; done) | (simp; omega)), H', ⟨Nat.le_refl _⟩, by repeat (first | exact Drawn0.refl _ | apply Drawn0.step)⟩
  case round =>
    clear H'
    try clear p2
    obtain ⟨x5_1, rfl, HA, HK1, ⟨m1, rfl⟩⟩ := hrel
    cases gk with
    | zero => exact absurd HA.out (by simp [pianolaref3_has.l0])
    | succ k1 =>
      have H := HA.out
      clear HA
      simp only [pianolaref3_has.l0] at H
      by_cases c3 : x5_1 < (a0.size : Int)
      · rw [if_pos c3] at H
        have c3b0 : decide (x5_1 < (a0.size : Int)) = true := decide_eq_true c3
        clear c3
        by_cases c4 : 0 ≤ x5_1
        · rw [if_pos c4] at H
          have c4b0 : decide (0 ≤ x5_1) = true := decide_eq_true c4
          clear c4
          by_cases c6 : (bt a0 x5_1) = a1
          · rw [if_pos c6] at H
            have c6b0 : ((bt a0 x5_1) == a1) = true := beq_iff_eq.mpr c6
            have c6b1 : ((bt a0 x5_1) != a1) = false := bne_eq_false_iff_eq.mpr c6
            clear c6
            obtain rfl := Option.some.inj H
            have p5 : 0 ≤ (x5_1 : Int) := of_decide_eq_true (by first | (with_reducible assumption) | assumption)
            have q5 : x5_1 < (a0.size : Int) := of_decide_eq_true (by first | (with_reducible assumption) | assumption)
            have hx5 := bt_at a0 x5_1
            replace p5 := eq_true p5
            replace q5 := eq_true q5
            go_wp2
            go_ret
            exact ⟨by first | rfl | (simp; done) | (simp [*]; done) | (simp; omega), by repeat (first | exact Drawn0.refl _ | apply Drawn0.step)⟩
          · rw [if_neg c6] at H
            have c6b0 : ((bt a0 x5_1) == a1) = false := beq_eq_false_iff_ne.mpr c6
            have c6b1 : ((bt a0 x5_1) != a1) = true := bne_iff_ne.mpr c6
            have H' := Aside0.mk H
            clear H
            have p5 : 0 ≤ (x5_1 : Int) := of_decide_eq_true (by first | (with_reducible assumption) | assumption)
            have q5 : x5_1 < (a0.size : Int) := of_decide_eq_true (by first | (with_reducible assumption) | assumption)
            have hx5 := bt_at a0 x5_1
            replace p5 := eq_true p5
            replace q5 := eq_true q5
            go_wp2
            go_roundg k1
            case measure => have := HK1.out; omega
            case rel => exact ⟨(wrap64 (x5_1 + 1)), (by first | rfl | (simp; done) | (simp [*]; done) | (simp; omega)), H', ⟨by have := HK1.out; omega⟩, by repeat (first | exact Drawn0.refl _ | apply Drawn0.step)⟩
        · rw [if_neg c4] at H
          exact absurd H (by simp)
      · rw [if_neg c3] at H
        have c3b0 : decide (x5_1 < (a0.size : Int)) = false := decide_eq_false c3
        clear c3
        obtain rfl := Option.some.inj H
        go_wp2
        go_ret
        exact ⟨by first | rfl | (simp; done) | (simp [*]; done) | (simp; omega), by repeat (first | exact Drawn0.refl _ | apply Drawn0.step)⟩

end Go.Proofs.Ytimbfflnlalanaa.Q
