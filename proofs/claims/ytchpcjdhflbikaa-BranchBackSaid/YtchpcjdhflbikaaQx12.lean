-- Written by a program of this session: a turned copy of the kit's print (wip/print/fork.py), whose words lie beside.
import Derived.Test.YtchpcjdhflbikaaQx0
import Derived.Test.YtchpcjdhflbikaaQx1
import Derived.Test.YtchpcjdhflbikaaQx3
import Derived.Test.YtchpcjdhflbikaaQx6
import Derived.Test.YtchpcjdhflbikaaQx11
namespace Go.Proofs.Ytchpcjdhflbikaa.Q
open Go.RowKit Go.Proofs.YtchpcjdhflbikaaW.PrintWords Go.Proofs.YtchpcjdhflbikaaW.PrintLast Go.Proofs.YtchpcjdhflbikaaW.PrintMore
attribute [local go_sem] max2_int min2_int max_two min_two max_three min_three max_four min_four   -- for this text's walks alone
set_option linter.unusedVariables false
set_option linter.unusedSimpArgs false

/-! ### pianolalaw5_BranchTwos: function 5 -/
def pianolalaw5_BranchTwos.l0 : Nat → Int → Int → Int → List (S32) → Int → Int → Int → Int → Int → Int → Int → Int → Int → Option (Bool)
  | 0, _, _, _, _, _, _, _, _, _, _, _, _, _ => none
  | k + 1, x0, x1, x2, x18, x19, x20, x239000, x239001, x239002, x239003, x239004, x239005, x239006 => if x20 < x19 then (if 0 ≤ x20 then (if x20 < (x18.length : Int) then ((branch_Taken.f k ((rd_T32 x18 x20).f0) 0 0 0 0 0 x1 x2).bind fun t244 => ((branch_Taken.f k ((rd_T32 x18 x20).f1) 0 0 0 0 0 x1 x2).bind fun t245 => (if (t244 == t245) = true then (some false) else (pianolalaw5_BranchTwos.l0 k x0 x1 x2 x18 x19 (wrap64 (x20 + 1)) x239000 x239001 x239002 x239003 x239004 x239005 x239006)))) else (none)) else (none)) else ((pianolakeep_Plain.f k x239000 x239001 x239002 x239003 x239004 x239005 x239006).bind fun bt246 => ((branch_Links.f k bt246.1 bt246.2.1 bt246.2.2.1 bt246.2.2.2.1 bt246.2.2.2.2.1 bt246.2.2.2.2.2).bind fun bt253 => ((branch_Taken.f k bt246.1 bt246.2.1 bt246.2.2.1 bt246.2.2.2.1 bt246.2.2.2.2.1 bt246.2.2.2.2.2 x1 x2).bind fun t255 => (if t255 = true then (some false) else ((branch_Target.f k bt246.1 bt246.2.1 bt246.2.2.1 bt246.2.2.2.1 bt246.2.2.2.2.1 bt246.2.2.2.2.2 x0 x1).bind fun t256 => (if t256 = ((x0 + 4) % 4294967296) then (if bt253.2 = true then (some false) else ((pianolalaw5_known.f k).bind fun t257 => (some t257))) else (some false)))))))
def pianolalaw5_BranchTwos.f (k : Nat) (a0 : Int) (a1 : Int) (a2 : Int) (a3_0 : Int) (a3_1 : Int) (a3_2 : Int) (a3_3 : Int) (a3_4 : Int) (a3_5 : Int) (a3_6 : Int) : Option (Bool) := (some (([(⟨42, 43⟩ : S32), (⟨36, 37⟩ : S32), (⟨44, 45⟩ : S32), (⟨38, 39⟩ : S32)] : List (S32)) : List (S32))).bind fun y239 => (pianolalaw5_BranchTwos.l0 k a0 a1 a2 y239 (y239.length : Int) 0 a3_0 a3_1 a3_2 a3_3 a3_4 a3_5 a3_6)
theorem pianolalaw5_BranchTwos.mono_l : ∀ k, (∀ y0 y1 y2 y3 y4 y5 y6 y7 y8 y9 y10 y11 y12, LeO (pianolalaw5_BranchTwos.l0 k y0 y1 y2 y3 y4 y5 y6 y7 y8 y9 y10 y11 y12) (pianolalaw5_BranchTwos.l0 (k + 1) y0 y1 y2 y3 y4 y5 y6 y7 y8 y9 y10 y11 y12))
  | 0 => fun _ _ _ _ _ _ _ _ _ _ _ _ _ r h => by simp [pianolalaw5_BranchTwos.l0] at h
  | k + 1 => by
    have ih0 := pianolalaw5_BranchTwos.mono_l k
    · intro y0 y1 y2 y3 y4 y5 y6 y7 y8 y9 y10 y11 y12
      unfold pianolalaw5_BranchTwos.l0
      repeat' first
      | (with_reducible exact ih0 _ _ _ _ _ _ _ _ _ _ _ _ _)
      | (with_reducible exact branch_Links.mono _ _ _ _ _ _ _)
      | (with_reducible exact branch_Taken.mono _ _ _ _ _ _ _ _ _)
      | (with_reducible exact branch_Target.mono _ _ _ _ _ _ _ _ _)
      | (with_reducible exact pianolakeep_Plain.mono _ _ _ _ _ _ _ _)
      | (with_reducible exact pianolalaw5_known.mono _)
      | (with_reducible exact LeO.refl _)
      | (with_reducible exact LeO.none _)
      | (with_reducible refine LeO.ite ?_ ?_)
      | (with_reducible refine LeO.bind ?_ (fun _ => ?_))
      | exact ih0 _ _ _ _ _ _ _ _ _ _ _ _ _
      | exact branch_Links.mono _ _ _ _ _ _ _
      | exact branch_Taken.mono _ _ _ _ _ _ _ _ _
      | exact branch_Target.mono _ _ _ _ _ _ _ _ _
      | exact pianolakeep_Plain.mono _ _ _ _ _ _ _ _
      | exact pianolalaw5_known.mono _
      | exact LeO.none _
      | refine LeO.ite ?_ ?_
      | refine LeO.bind ?_ (fun _ => ?_)
theorem pianolalaw5_BranchTwos.mono : ∀ a0 a1 a2 a3 a4 a5 a6 a7 a8 a9 k, LeO (pianolalaw5_BranchTwos.f k a0 a1 a2 a3 a4 a5 a6 a7 a8 a9) (pianolalaw5_BranchTwos.f (k + 1) a0 a1 a2 a3 a4 a5 a6 a7 a8 a9) := by
  intro a0 a1 a2 a3 a4 a5 a6 a7 a8 a9 k
  have ih0 := pianolalaw5_BranchTwos.mono_l k
  unfold pianolalaw5_BranchTwos.f
  repeat' first
      | (with_reducible exact ih0 _ _ _ _ _ _ _ _ _ _ _ _ _)
      | (with_reducible exact branch_Links.mono _ _ _ _ _ _ _)
      | (with_reducible exact branch_Taken.mono _ _ _ _ _ _ _ _ _)
      | (with_reducible exact branch_Target.mono _ _ _ _ _ _ _ _ _)
      | (with_reducible exact pianolakeep_Plain.mono _ _ _ _ _ _ _ _)
      | (with_reducible exact pianolalaw5_known.mono _)
      | (with_reducible exact LeO.refl _)
      | (with_reducible exact LeO.none _)
      | (with_reducible refine LeO.ite ?_ ?_)
      | (with_reducible refine LeO.bind ?_ (fun _ => ?_))
      | exact ih0 _ _ _ _ _ _ _ _ _ _ _ _ _
      | exact branch_Links.mono _ _ _ _ _ _ _
      | exact branch_Taken.mono _ _ _ _ _ _ _ _ _
      | exact branch_Target.mono _ _ _ _ _ _ _ _ _
      | exact pianolakeep_Plain.mono _ _ _ _ _ _ _ _
      | exact pianolalaw5_known.mono _
      | exact LeO.none _
      | refine LeO.ite ?_ ?_
      | refine LeO.bind ?_ (fun _ => ?_)
def pianolalaw5_BranchTwos.T4 : Bool × List (List Nat × List Nat) := (true, [([], []), ([0], [0]), ([1], [1]), ([], []), ([], []), ([2, 3, 4], [2, 3, 4]), ([], []), ([6], [6]), ([7], [7]), ([], []), ([], []), ([8, 9, 10, 5], [8, 9, 10]), ([5, 11], [5, 11])])
def pianolalaw5_BranchTwos.B4 : List Nat := [0, 1, 3, 0, 0, 31, 0, 64, 192, 0, 0, 2047, 4095]
theorem pianolalaw5_BranchTwos.tab4 : rtab .any (opsOf Try.f5 4) = pianolalaw5_BranchTwos.T4 := by kernel_rfl
theorem pianolalaw5_BranchTwos.bits4 : waitsOk pianolalaw5_BranchTwos.T4.2 pianolalaw5_BranchTwos.B4 = true := by kernel_rfl
set_option maxHeartbeats 8000000 in
set_option maxRecDepth 100000 in
theorem pianolalaw5_BranchTwos.calls (k : Nat) (a0 : Int) (a1 : Int) (a2 : Int) (a3_0 : Int) (a3_1 : Int) (a3_2 : Int) (a3_3 : Int) (a3_4 : Int) (a3_5 : Int) (a3_6 : Int) (r : Bool) (w : World) (h : pianolalaw5_BranchTwos.f k a0 a1 a2 a3_0 a3_1 a3_2 a3_3 a3_4 a3_5 a3_6 = some r) :
    Calls Try.prog 5 #[.int .u32 a0, .int .u32 a1, .int .u32 a2, .agg #[.int .i64 a3_0, .int .i64 a3_1, .int .i64 a3_2, .int .i64 a3_3, .int .i64 a3_4, .int .u32 a3_5, .int .u32 a3_6]] w fun e w' => e = .returned (.bool r) ∧ Below w.heap.size w w' := by
  have hu29 := Try.underlying29
  have hu32 := Try.underlying32
  have hu26 := Try.underlying26
  have HB := Aside0.mk (Below.refl w.heap.size w)
  have H : ((some (([(⟨42, 43⟩ : S32), (⟨36, 37⟩ : S32), (⟨44, 45⟩ : S32), (⟨38, 39⟩ : S32)] : List (S32)) : List (S32))).bind fun y239 => (pianolalaw5_BranchTwos.l0 k a0 a1 a2 y239 (y239.length : Int) 0 a3_0 a3_1 a3_2 a3_3 a3_4 a3_5 a3_6)) = some r := h
  clear h
  obtain ⟨y239, hy239⟩ : ∃ y_ : List (S32), y_ = (([(⟨42, 43⟩ : S32), (⟨36, 37⟩ : S32), (⟨44, 45⟩ : S32), (⟨38, 39⟩ : S32)] : List (S32))) := ⟨_, rfl⟩
  replace H : (pianolalaw5_BranchTwos.l0 k a0 a1 a2 y239 (y239.length : Int) 0 a3_0 a3_1 a3_2 a3_3 a3_4 a3_5 a3_6) = some r := by first | (rw [hy239]; with_reducible exact H) | (have H2_ := (Option.bind_some _ _).symm.trans H; rw [hy239]; with_reducible exact H2_) | (have H2_ := (Option.bind_some _ _).symm.trans H; with_reducible exact H2_) | with_reducible exact H | (rw [hy239]; exact H) | exact H
  have Ny239 := Aside0.mk hy239
  clear hy239
  have H' := Aside0.mk H
  clear H
  go_enter Try.func5, Try.ntmps5
  go_wp2_with (first | ((with_reducible refine gate_dst (N := 7) rfl ?_); refine box_event ?hg (N := 7) ?hd (cs := #[.int .i64 a3_0, .int .i64 a3_1, .int .i64 a3_2, .int .i64 a3_3, .int .i64 a3_4, .int .u32 a3_5, .int .u32 a3_6]) (t := 29) ?hr ?_; (case hd => rfl); (case hg => rfl); (case hr => first | (go_simp; done) | (go_simp; rfl)); intro gb238 hg w5 hbox hb; have n0_ := Aside0.mk (below_step (by repeat (first | (with_reducible first | exact HB.out | apply below_alloc | apply pw_below_drewN | apply below_drew1) | exact HB.out)) hb); have n1_ := Aside0.mk (hbox); have n2_ := Aside0.mk ((by rw [hg]; exact (below_size (by repeat (first | (with_reducible first | exact HB.out | apply below_alloc | apply pw_below_drewN | apply below_drew1) | exact HB.out))) : w.heap.size ≤ gb238)); have n3_ := Aside0.mk ((by rw [hg]; exact (below_size (by repeat (first | (with_reducible first | exact HB.out | apply below_alloc | apply pw_below_drewN | apply below_drew1) | exact HB.out))) : w.heap.size ≤ gb238)); clear HB; have HB := n0_; have BK238 := n1_; have GW238 := n2_; have GE238 := n3_; clear n0_ n1_ n2_ n3_; clear hb hbox hg) | ((with_reducible refine gate_dst (N := 18) rfl ?_); refine Kd.R_lit k32 _ 32 ?hg (N := 18) ?hd (xs := ([(⟨42, 43⟩ : S32), (⟨36, 37⟩ : S32), (⟨44, 45⟩ : S32), (⟨38, 39⟩ : S32)] : List (S32))) (inner := [.int .i64 42, .int .i64 43, .int .i64 36, .int .i64 37, .int .i64 44, .int .i64 45, .int .i64 38, .int .i64 39]) (ok := fun _ => True) (okp := fun _ => True) ?hr ?hp (fun _ hk => hk) trivial (Below.refl _ _) (Nat.le_refl _) (by simp) ?_; (case hd => rfl); (case hg => rfl); (case hr => first | (go_simp; done) | (go_simp; rfl)); (case hp => exact (Reps.c2 (show Kd.M k32 _ _ _ (⟨42, 43⟩ : S32) [.int .i64 42, .int .i64 43] from (k32_mkM _ _ _ (⟨42, 43⟩ : S32) )) (Reps.c2 (show Kd.M k32 _ _ _ (⟨36, 37⟩ : S32) [.int .i64 36, .int .i64 37] from (k32_mkM _ _ _ (⟨36, 37⟩ : S32) )) (Reps.c2 (show Kd.M k32 _ _ _ (⟨44, 45⟩ : S32) [.int .i64 44, .int .i64 45] from (k32_mkM _ _ _ (⟨44, 45⟩ : S32) )) (Reps.c2 (show Kd.M k32 _ _ _ (⟨38, 39⟩ : S32) [.int .i64 38, .int .i64 39] from (k32_mkM _ _ _ (⟨38, 39⟩ : S32) )) (Reps.none _ _)))))); intro v240 w6 ho7 hb hg_ hnew_; clear hg_ hnew_; (first | rw [← Ny239.out] at ho7 | (simp only [Int.reduceToNat] at ho7; rw [← Ny239.out] at ho7)); have n0_ := Aside0.mk (Kd.R_lower ho7 (below_size (by repeat (first | (with_reducible first | exact HB.out | apply below_alloc | apply pw_below_drewN | apply below_drew1 | refine below_set ?_ GE238.out) | exact HB.out)))); have n1_ := Aside0.mk (blk_below (g := gb238) (o := .cells #[.int .i64 a3_0, .int .i64 a3_1, .int .i64 a3_2, .int .i64 a3_3, .int .i64 a3_4, .int .u32 a3_5, .int .u32 a3_6] 29 (0, 0)) (by (with_reducible repeat (first | refine blk_drewN ?_ _ | refine blk_drew ?_ | refine blk_alloc ?_ _)); exact BK238.out) hb); have n2_ := Aside0.mk (below_step (by repeat (first | (with_reducible first | exact HB.out | apply below_alloc | apply pw_below_drewN | apply below_drew1 | refine below_set ?_ GE238.out) | exact HB.out)) hb); clear BK238; clear HB; have HO241 := n0_; have BK238 := n1_; have HB := n2_; clear n0_ n1_ n2_; clear hb ho7; obtain ⟨Ao8, co8, eo8⟩ := Kd.R_slice HO241.out; subst eo8))
  go_loopg [20] k (fun kq v20 w' => ∃ (x20_1 : Int), v20 = .int .i64 x20_1 ∧ Aside0 (pianolalaw5_BranchTwos.l0 kq a0 a1 a2 y239 (y239.length : Int) x20_1 a3_0 a3_1 a3_2 a3_3 a3_4 a3_5 a3_6 = some r) ∧ Aside0 (kq ≤ k) ∧ Aside0 (Kd.R k32 32 w' w.heap.size (fun _ => True) (.slice Ao8 y239.length co8) y239) ∧ Aside0 (w'.heap[gb238]? = some (.cells #[.int .i64 a3_0, .int .i64 a3_1, .int .i64 a3_2, .int .i64 a3_3, .int .i64 a3_4, .int .u32 a3_5, .int .u32 a3_6] 29 (0, 0))) ∧ Aside0 (Below w.heap.size w w'))
  case atStart => exact ⟨(0), (by first | rfl | (simp; done) | (simp [*]; done) | (simp; omega)), H', ⟨Nat.le_refl _⟩, ⟨by (with_reducible repeat (first | apply Kd.R_alloc | apply Kd.R_drewN | apply Kd.R_drew)); exact HO241.out⟩, ⟨by (with_reducible repeat (first | refine blk_drewN ?_ _ | refine blk_drew ?_ | refine blk_alloc ?_ _)); exact BK238.out⟩, ⟨by repeat (first | (with_reducible first | exact HB.out | apply below_alloc | apply pw_below_drewN | apply below_drew1 | refine below_set ?_ GE238.out) | exact HB.out)⟩⟩
  case round =>
    clear H'
    try clear c2
    try clear p2
    try clear c5
    obtain ⟨x20_1, rfl, HA, HK1, HO_18, BK238, HB⟩ := hrel
    cases gk with
    | zero => exact absurd HA.out (by simp [pianolalaw5_BranchTwos.l0])
    | succ k1 =>
      have H := HA.out
      clear HA
      simp only [pianolalaw5_BranchTwos.l0] at H
      by_cases c9 : x20_1 < (y239.length : Int)
      · rw [if_pos c9] at H
        have c9b0 : decide (x20_1 < (y239.length : Int)) = true := decide_eq_true c9
        clear c9
        by_cases c10 : 0 ≤ x20_1
        · rw [if_pos c10] at H
          have c10b0 : decide (0 ≤ x20_1) = true := decide_eq_true c10
          clear c10
          by_cases c11 : x20_1 < (y239.length : Int)
          · rw [if_pos c11] at H
            have c11b0 : decide (x20_1 < (y239.length : Int)) = true := decide_eq_true c11
            clear c11
            replace H := Option.bind_eq_some_iff.mp H
            obtain ⟨t244, A120, H⟩ := H
            replace H : ((branch_Taken.f k1 ((rd_T32 y239 x20_1).f1) 0 0 0 0 0 a1 a2).bind fun t245 => (if (t244 == t245) = true then (some false) else (pianolalaw5_BranchTwos.l0 k1 a0 a1 a2 y239 (y239.length : Int) (wrap64 (x20_1 + 1)) a3_0 a3_1 a3_2 a3_3 a3_4 a3_5 a3_6))) = some r := H
            have A12 := Aside0.mk A120
            clear A120
            replace H := Option.bind_eq_some_iff.mp H
            obtain ⟨t245, A130, H⟩ := H
            replace H : (if (t244 == t245) = true then (some false) else (pianolalaw5_BranchTwos.l0 k1 a0 a1 a2 y239 (y239.length : Int) (wrap64 (x20_1 + 1)) a3_0 a3_1 a3_2 a3_3 a3_4 a3_5 a3_6)) = some r := H
            have A13 := Aside0.mk A130
            clear A130
            by_cases c14 : (t244 == t245) = true
            · rw [if_pos c14] at H
              have c14b0 : (t244 == t245) = true := c14
              (try (have c14b1 : decide (t244 = t245) = true := by simpa using c14))
              (try (have c14b2 : (t244 == t245) = true := by simpa using c14))
              clear c14
              obtain rfl := Option.some.inj H
              have p242 : 0 ≤ (x20_1 : Int) := of_decide_eq_true (by first | (with_reducible assumption) | assumption)
              have q242 : x20_1 < (y239.length : Int) := of_decide_eq_true (by first | (with_reducible assumption) | assumption)
              obtain ⟨ad242, e242, hx242_0, hx242_1⟩ := at_T32 (Kd.R_reads' HO_18.out).2.2 x20_1 p242 q242
              cases e242
              replace p242 := eq_true p242
              replace q242 := eq_true q242
              try go_wp2_with (first | ((with_reducible refine gate_dst (N := 10) rfl ?_); refine box_event ?hg (N := 10) ?hd (cs := #[.int .i64 0, .int .i64 0]) (t := 32) ?hr ?_; (case hd => rfl); (case hg => rfl); (case hr => first | (go_simp; done) | (go_simp; rfl)); intro gb243 hg w15 hbox hb; have n0_ := Aside0.mk (Kd.R_below (Kd.R_elderB (by (with_reducible repeat (first | apply Kd.R_alloc | apply Kd.R_drewN | apply Kd.R_drew)); exact HO_18.out) gb243 (Nat.le_of_eq hg.symm)) hb); have n1_ := Aside0.mk (blk_below (g := gb238) (o := .cells #[.int .i64 a3_0, .int .i64 a3_1, .int .i64 a3_2, .int .i64 a3_3, .int .i64 a3_4, .int .u32 a3_5, .int .u32 a3_6] 29 (0, 0)) (by (with_reducible repeat (first | refine blk_drewN ?_ _ | refine blk_drew ?_ | refine blk_alloc ?_ _)); exact BK238.out) hb); have n2_ := Aside0.mk (below_step (by repeat (first | (with_reducible first | exact HB.out | apply below_alloc | apply pw_below_drewN | apply below_drew1 | refine below_set ?_ GE238.out) | exact HB.out)) hb); have n3_ := Aside0.mk (hbox); have n4_ := Aside0.mk ((by rw [hg]; exact (below_size (by repeat (first | (with_reducible first | exact HB.out | apply below_alloc | apply pw_below_drewN | apply below_drew1 | refine below_set ?_ GE238.out) | exact HB.out))) : w.heap.size ≤ gb243)); have n5_ := Aside0.mk ((by rw [hg]; exact (below_size (by repeat (first | (with_reducible first | exact HB.out | apply below_alloc | apply pw_below_drewN | apply below_drew1 | refine below_set ?_ GE238.out) | exact HB.out))) : w.heap.size ≤ gb243)); have n6_ := Aside0.mk ((by rw [hg]; exact Nat.ne_of_lt (blk_lt (g := gb238) (o := .cells #[.int .i64 a3_0, .int .i64 a3_1, .int .i64 a3_2, .int .i64 a3_3, .int .i64 a3_4, .int .u32 a3_5, .int .u32 a3_6] 29 (0, 0)) (by (with_reducible repeat (first | refine blk_drewN ?_ _ | refine blk_drew ?_ | refine blk_alloc ?_ _)); exact BK238.out)) : gb238 ≠ gb243)); have n7_ := Aside0.mk ((by rw [hg]; exact Nat.ne_of_gt (blk_lt (g := gb238) (o := .cells #[.int .i64 a3_0, .int .i64 a3_1, .int .i64 a3_2, .int .i64 a3_3, .int .i64 a3_4, .int .u32 a3_5, .int .u32 a3_6] 29 (0, 0)) (by (with_reducible repeat (first | refine blk_drewN ?_ _ | refine blk_drew ?_ | refine blk_alloc ?_ _)); exact BK238.out)) : gb243 ≠ gb238)); clear HO_18; clear BK238; clear HB; have HO_18 := n0_; have BK238 := n1_; have HB := n2_; have BK243 := n3_; have GW243 := n4_; have GE243 := n5_; have NB238_243 := n6_; have NB243_238 := n7_; clear n0_ n1_ n2_ n3_ n4_ n5_ n6_ n7_; clear hb hbox hg; have hnb16 := NB243_238.out; have hnc16 := NB238_243.out; have hcz17_0 : w15.cell? ⟨gb243, 0, none⟩ = some (.int .i64 0) := (blk_cell BK243.out 0).trans rfl; have hcz17_1 : w15.cell? ⟨gb243, 1, none⟩ = some (.int .i64 0) := (blk_cell BK243.out 1).trans rfl; have hfz17_0 := blk_frozen BK243.out 0; have hfz17_1 := blk_frozen BK243.out 1))
              have n0_ : Aside0 (Kd.R k32 32 ((w15.setCell ⟨gb243, 0, none⟩ (.int .i64 ((rd_T32 y239 x20_1).f0))).setCell ⟨gb243, 1, none⟩ (.int .i64 ((rd_T32 y239 x20_1).f1))) w.heap.size (fun k_ => k_ ≠ gb243) (.slice (some ad242) y239.length co8) y239) := ⟨by (with_reducible repeat (first | apply Kd.R_alloc | apply Kd.R_drewN | apply Kd.R_drew)); exact Kd.R_mono (Kd.R_far (p := ⟨gb243, 1, none⟩) (Kd.R_far (p := ⟨gb243, 0, none⟩) (Kd.R_mono HO_18.out (fun k_ hk => (⟨hk, hk.2⟩ : _ ∧ k_ ≠ gb243))) (fun _ hk => hk.2) (.int .i64 ((rd_T32 y239 x20_1).f0))) (fun _ hk => hk.2) (.int .i64 ((rd_T32 y239 x20_1).f1))) (fun _ hk => hk.1.2)⟩
              have n1_ : Aside0 (((w15.setCell ⟨gb243, 0, none⟩ (.int .i64 ((rd_T32 y239 x20_1).f0))).setCell ⟨gb243, 1, none⟩ (.int .i64 ((rd_T32 y239 x20_1).f1))).heap[gb238]? = some (.cells #[.int .i64 a3_0, .int .i64 a3_1, .int .i64 a3_2, .int .i64 a3_3, .int .i64 a3_4, .int .u32 a3_5, .int .u32 a3_6] 29 (0, 0))) := ⟨by (with_reducible repeat (first | refine blk_drewN ?_ _ | refine blk_drew ?_ | refine blk_alloc ?_ _)); refine blk_far ?_ NB238_243.out _; (with_reducible repeat (first | refine blk_drewN ?_ _ | refine blk_drew ?_ | refine blk_alloc ?_ _)); refine blk_far ?_ NB238_243.out _; (with_reducible repeat (first | refine blk_drewN ?_ _ | refine blk_drew ?_ | refine blk_alloc ?_ _)); exact BK238.out⟩
              have n2_ : Aside0 (((w15.setCell ⟨gb243, 0, none⟩ (.int .i64 ((rd_T32 y239 x20_1).f0))).setCell ⟨gb243, 1, none⟩ (.int .i64 ((rd_T32 y239 x20_1).f1))).heap[gb243]? = some (.cells #[.int .i64 ((rd_T32 y239 x20_1).f0), .int .i64 ((rd_T32 y239 x20_1).f1)] 32 (0, 0))) := ⟨by (with_reducible repeat (first | refine blk_drewN ?_ _ | refine blk_drew ?_ | refine blk_alloc ?_ _)); refine blk_put (cs := #[.int .i64 ((rd_T32 y239 x20_1).f0), .int .i64 0]) ?_ 1 _ rfl; (with_reducible repeat (first | refine blk_drewN ?_ _ | refine blk_drew ?_ | refine blk_alloc ?_ _)); refine blk_put (cs := #[.int .i64 0, .int .i64 0]) ?_ 0 _ rfl; (with_reducible repeat (first | refine blk_drewN ?_ _ | refine blk_drew ?_ | refine blk_alloc ?_ _)); exact BK243.out⟩
              have n3_ : Aside0 (Below w.heap.size w ((w15.setCell ⟨gb243, 0, none⟩ (.int .i64 ((rd_T32 y239 x20_1).f0))).setCell ⟨gb243, 1, none⟩ (.int .i64 ((rd_T32 y239 x20_1).f1)))) := ⟨by repeat (first | (with_reducible first | exact HB.out | apply below_alloc | apply pw_below_drewN | apply below_drew1 | refine below_set ?_ GE238.out | refine below_set ?_ GE243.out) | exact HB.out)⟩
              (try clear HO_18)
              (try clear BK238)
              (try clear BK243)
              (try clear HB)
              generalize ((w15.setCell ⟨gb243, 0, none⟩ (.int .i64 ((rd_T32 y239 x20_1).f0))).setCell ⟨gb243, 1, none⟩ (.int .i64 ((rd_T32 y239 x20_1).f1))) = w18 at n0_ n1_ n2_ n3_ ⊢
              have HO_18 := n0_
              have BK238 := n1_
              have BK243 := n2_
              have HB := n3_
              clear n0_ n1_ n2_ n3_
              have n0_ := Aside0.mk (Kd.R_drew HO_18.out)
              have n1_ := Aside0.mk (blk_drew BK238.out)
              have n2_ := Aside0.mk (blk_drew BK243.out)
              have n3_ := Aside0.mk (below_drew1 HB.out)
              clear HO_18
              clear BK238
              clear BK243
              clear HB
              have HO_18 := n0_
              have BK238 := n1_
              have BK243 := n2_
              have HB := n3_
              clear n0_ n1_ n2_ n3_
              refine start_ (n := 13) (S := fun w' => w'.cell? ⟨gb243, 0, none⟩ = some (.int .i64 ((rd_T32 y239 x20_1).f0)) ∧ w'.cell? ⟨gb243, 1, none⟩ = some (.int .i64 ((rd_T32 y239 x20_1).f1))) (ds := []) #[false, false, false, false, false, false, false, false, false, false, false, false, false] (by kernel_rfl) rfl rfl ⟨(blk_cell BK243.out 0).trans rfl, (blk_cell BK243.out 1).trans rfl⟩ (fun hHeld => ?_); refine with_tabW pianolalaw5_BranchTwos.tab4 pianolalaw5_BranchTwos.bits4 (fun HT_ HW_ => ?_)
              generalize w18.drew = w19 at HO_18 BK238 BK243 HB hHeld ⊢
              refine pure_ (i := 0) (N := some 24) (v := ?_) (a' := ?_) #[true, false, false, false, false, false, false, false, false, false, false, false, false] rfl rfl (any_of HT_.out (by kernel_rfl)) (fun _ _ _ h => h) (Or.inl ⟨by rfl, ?_⟩) ?_ ?_
              rotate_left
              · intro w'
                go_simp
                with_reducible rfl
              rotate_left
              · simp only [Act.put, List.setIfInBounds_toArray, List.set_cons_zero, List.set_cons_succ, i64_w, i32_w]
                rfl
              refine pure_ (i := 3) (N := some 27) (v := ?_) (a' := ?_) #[true, false, false, true, false, false, false, false, false, false, false, false, false] rfl rfl (any_of HT_.out (by kernel_rfl)) (fun _ _ _ h => h) (Or.inl ⟨by rfl, ?_⟩) ?_ ?_
              rotate_left
              · intro w'
                go_simp
                with_reducible rfl
              rotate_left
              · simp only [Act.put, List.setIfInBounds_toArray, List.set_cons_zero, List.set_cons_succ, i64_w, i32_w]
                rfl
              refine pure_ (i := 4) (N := some 28) (v := ?_) (a' := ?_) #[true, false, false, true, true, false, false, false, false, false, false, false, false] rfl rfl (any_of HT_.out (by kernel_rfl)) (fun _ _ _ h => h) (Or.inl ⟨by rfl, ?_⟩) ?_ ?_
              rotate_left
              · intro w'
                go_simp
                with_reducible rfl
              rotate_left
              · simp only [Act.put, List.setIfInBounds_toArray, List.set_cons_zero, List.set_cons_succ, i64_w, i32_w]
                rfl
              refine pure_ (i := 6) (N := some 30) (v := ?_) (a' := ?_) #[true, false, false, true, true, false, true, false, false, false, false, false, false] rfl rfl (any_of HT_.out (by kernel_rfl)) (fun _ _ _ h => h) (Or.inl ⟨by rfl, ?_⟩) ?_ ?_
              rotate_left
              · intro w'
                go_simp
                with_reducible rfl
              rotate_left
              · simp only [Act.put, List.setIfInBounds_toArray, List.set_cons_zero, List.set_cons_succ, i64_w, i32_w]
                rfl
              refine pure_ (i := 9) (N := some 33) (v := ?_) (a' := ?_) #[true, false, false, true, true, false, true, false, false, true, false, false, false] rfl rfl (any_of HT_.out (by kernel_rfl)) (fun _ _ _ h => h) (Or.inl ⟨by rfl, ?_⟩) ?_ ?_
              rotate_left
              · intro w'
                go_simp
                with_reducible rfl
              rotate_left
              · simp only [Act.put, List.setIfInBounds_toArray, List.set_cons_zero, List.set_cons_succ, i64_w, i32_w]
                rfl
              refine pure_ (i := 10) (N := some 34) (v := ?_) (a' := ?_) #[true, false, false, true, true, false, true, false, false, true, true, false, false] rfl rfl (any_of HT_.out (by kernel_rfl)) (fun _ _ _ h => h) (Or.inl ⟨by rfl, ?_⟩) ?_ ?_
              rotate_left
              · intro w'
                go_simp
                with_reducible rfl
              rotate_left
              · simp only [Act.put, List.setIfInBounds_toArray, List.set_cons_zero, List.set_cons_succ, i64_w, i32_w]
                rfl
              refine take_ (i := 1) (N := some 25) (v := ?_) (a' := ?_) #[true, true, false, true, true, false, true, false, false, true, true, false, false] rfl rfl (take_ofW HT_.out HW_.out (by kernel_rfl)) (fun _ _ _ h => h) (Or.inl ⟨by rfl, ?_⟩) hHeld ?_ ?_
              rotate_left
              · rintro w' ⟨s0, s1⟩
                go_simp
                with_reducible rfl
              rotate_left
              · simp only [Act.put, List.setIfInBounds_toArray, List.set_cons_zero, List.set_cons_succ, i64_w, i32_w]
                rfl
              refine pure_ (i := 2) (N := some 26) (v := ?_) (a' := ?_) #[true, true, true, true, true, false, true, false, false, true, true, false, false] rfl rfl (any_of HT_.out (by kernel_rfl)) (fun _ _ _ h => h) (Or.inl ⟨by rfl, ?_⟩) ?_ ?_
              rotate_left
              · intro w'
                go_simp
                with_reducible rfl
              rotate_left
              · simp only [Act.put, List.setIfInBounds_toArray, List.set_cons_zero, List.set_cons_succ, i64_w, i32_w]
                rfl
              refine take_ (i := 7) (N := some 31) (v := ?_) (a' := ?_) #[true, true, true, true, true, false, true, true, false, true, true, false, false] rfl rfl (take_ofW HT_.out HW_.out (by kernel_rfl)) (fun _ _ _ h => h) (Or.inl ⟨by rfl, ?_⟩) hHeld ?_ ?_
              rotate_left
              · rintro w' ⟨s0, s1⟩
                go_simp
                with_reducible rfl
              rotate_left
              · simp only [Act.put, List.setIfInBounds_toArray, List.set_cons_zero, List.set_cons_succ, i64_w, i32_w]
                rfl
              refine pure_ (i := 8) (N := some 32) (v := ?_) (a' := ?_) #[true, true, true, true, true, false, true, true, true, true, true, false, false] rfl rfl (any_of HT_.out (by kernel_rfl)) (fun _ _ _ h => h) (Or.inl ⟨by rfl, ?_⟩) ?_ ?_
              rotate_left
              · intro w'
                go_simp
                with_reducible rfl
              rotate_left
              · simp only [Act.put, List.setIfInBounds_toArray, List.set_cons_zero, List.set_cons_succ, i64_w, i32_w]
                rfl
              refine one_ (i := 5) (N := some 29) #[true, true, true, true, true, true, true, true, true, true, true, false, false] rfl rfl (one_of HT_.out (by kernel_rfl)) (by decide) (fun K hK => ?_)
              refine goes_ Try.func10 (by kernel_rfl) rfl #[.agg #[.int .i64 ((rd_T32 y239 x20_1).f0), .int .i64 0, .int .i64 0, .int .i64 0, .int .i64 0, .int .u32 0], .int .u32 a1, .int .u32 a2] (by rfl) rfl rfl (by (try simp only [List.map_toArray, List.map_cons, List.map_nil]); first | done | rfl | (simp only [List.length_drop, List.length_take]; rfl)) ?_
              with_reducible refine (branch_Taken.calls k1 ((rd_T32 y239 x20_1).f0) 0 0 0 0 0 a1 a2 t244 _ A12.out).mono ?_
              rintro e w20 ⟨rfl, hb⟩
              refine ⟨_, rfl, ?_⟩
              have n0_ := Aside0.mk (Kd.R_below (by (with_reducible repeat (first | apply Kd.R_alloc | apply Kd.R_drewN | apply Kd.R_drew)); exact HO_18.out) hb)
              have n1_ := Aside0.mk (blk_below (g := gb238) (o := .cells #[.int .i64 a3_0, .int .i64 a3_1, .int .i64 a3_2, .int .i64 a3_3, .int .i64 a3_4, .int .u32 a3_5, .int .u32 a3_6] 29 (0, 0)) (by (with_reducible repeat (first | refine blk_drewN ?_ _ | refine blk_drew ?_ | refine blk_alloc ?_ _)); exact BK238.out) hb)
              have n2_ := Aside0.mk (blk_below (g := gb243) (o := .cells #[.int .i64 ((rd_T32 y239 x20_1).f0), .int .i64 ((rd_T32 y239 x20_1).f1)] 32 (0, 0)) (by (with_reducible repeat (first | refine blk_drewN ?_ _ | refine blk_drew ?_ | refine blk_alloc ?_ _)); exact BK243.out) hb)
              have n3_ := Aside0.mk (below_step (by repeat (first | (with_reducible first | exact HB.out | apply below_alloc | apply pw_below_drewN | apply below_drew1 | refine below_set ?_ GE238.out | refine below_set ?_ GE243.out) | exact HB.out)) hb)
              clear HO_18
              clear BK238
              clear BK243
              clear HB
              have HO_18 := n0_
              have BK238 := n1_
              have BK243 := n2_
              have HB := n3_
              clear n0_ n1_ n2_ n3_
              (try clear hb)
              (try clear hb2)
              (try clear hk)
              (try clear hi)
              refine hK.out _ _ ⟨(blk_cell BK243.out 0).trans rfl, (blk_cell BK243.out 1).trans rfl⟩ (fun hHeld => ?_)
              clear hK K
              refine norm_ (a' := ?_) ?_ ?_
              rotate_left
              · show Act.put _ (some 29) _ = _
                simp only [Act.put, List.setIfInBounds_toArray, List.set_cons_zero, List.set_cons_succ, i64_w, i32_w]
                rfl
              refine one_ (i := 11) (N := some 35) #[true, true, true, true, true, true, true, true, true, true, true, true, false] rfl rfl (one_of HT_.out (by kernel_rfl)) (by decide) (fun K hK => ?_)
              refine goes_ Try.func10 (by kernel_rfl) rfl #[.agg #[.int .i64 ((rd_T32 y239 x20_1).f1), .int .i64 0, .int .i64 0, .int .i64 0, .int .i64 0, .int .u32 0], .int .u32 a1, .int .u32 a2] (by rfl) rfl rfl (by (try simp only [List.map_toArray, List.map_cons, List.map_nil]); first | done | rfl | (simp only [List.length_drop, List.length_take]; rfl)) ?_
              with_reducible refine (branch_Taken.calls k1 ((rd_T32 y239 x20_1).f1) 0 0 0 0 0 a1 a2 t245 _ A13.out).mono ?_
              rintro e w21 ⟨rfl, hb⟩
              refine ⟨_, rfl, ?_⟩
              have n0_ := Aside0.mk (Kd.R_below (by (with_reducible repeat (first | apply Kd.R_alloc | apply Kd.R_drewN | apply Kd.R_drew)); exact HO_18.out) hb)
              have n1_ := Aside0.mk (blk_below (g := gb238) (o := .cells #[.int .i64 a3_0, .int .i64 a3_1, .int .i64 a3_2, .int .i64 a3_3, .int .i64 a3_4, .int .u32 a3_5, .int .u32 a3_6] 29 (0, 0)) (by (with_reducible repeat (first | refine blk_drewN ?_ _ | refine blk_drew ?_ | refine blk_alloc ?_ _)); exact BK238.out) hb)
              have n2_ := Aside0.mk (blk_below (g := gb243) (o := .cells #[.int .i64 ((rd_T32 y239 x20_1).f0), .int .i64 ((rd_T32 y239 x20_1).f1)] 32 (0, 0)) (by (with_reducible repeat (first | refine blk_drewN ?_ _ | refine blk_drew ?_ | refine blk_alloc ?_ _)); exact BK243.out) hb)
              have n3_ := Aside0.mk (below_step (by repeat (first | (with_reducible first | exact HB.out | apply below_alloc | apply pw_below_drewN | apply below_drew1 | refine below_set ?_ GE238.out | refine below_set ?_ GE243.out) | exact HB.out)) hb)
              clear HO_18
              clear BK238
              clear BK243
              clear HB
              have HO_18 := n0_
              have BK238 := n1_
              have BK243 := n2_
              have HB := n3_
              clear n0_ n1_ n2_ n3_
              (try clear hb)
              (try clear hb2)
              (try clear hk)
              (try clear hi)
              refine hK.out _ _ ⟨(blk_cell BK243.out 0).trans rfl, (blk_cell BK243.out 1).trans rfl⟩ (fun hHeld => ?_)
              clear hK K
              refine norm_ (a' := ?_) ?_ ?_
              rotate_left
              · show Act.put _ (some 35) _ = _
                simp only [Act.put, List.setIfInBounds_toArray, List.set_cons_zero, List.set_cons_succ, i64_w, i32_w]
                rfl
              refine pure_ (i := 12) (N := some 36) (v := ?_) (a' := ?_) #[true, true, true, true, true, true, true, true, true, true, true, true, true] rfl rfl (any_of HT_.out (by kernel_rfl)) (fun _ _ _ h => h) (Or.inl ⟨by rfl, ?_⟩) ?_ ?_
              rotate_left
              · intro w'
                go_simp
                with_reducible rfl
              rotate_left
              · simp only [Act.put, List.setIfInBounds_toArray, List.set_cons_zero, List.set_cons_succ, i64_w, i32_w]
                rfl
              refine done_ (done_of HT_.out (by kernel_rfl)) ?_
              try go_wp2
              go_ret
              exact ⟨by first | rfl | (simp [errW_none, errW_some] <;> rfl) | (simp [*, errW_none, errW_some] <;> rfl), by repeat (first | (with_reducible first | exact HB.out | apply below_alloc | apply pw_below_drewN | apply below_drew1 | refine below_set ?_ GE238.out | refine below_set ?_ GE243.out) | exact HB.out)⟩
            · rw [if_neg c14] at H
              have c14b0 : (t244 == t245) = false := by simpa using c14
              (try (have c14b1 : decide (t244 = t245) = false := by simpa using c14))
              (try (have c14b2 : (t244 == t245) = false := by simpa using c14))
              (try (have c14b3 : ¬ (t244 = t245) := by simpa using c14))
              clear c14
              have H' := Aside0.mk H
              clear H
              have p242 : 0 ≤ (x20_1 : Int) := of_decide_eq_true (by first | (with_reducible assumption) | assumption)
              have q242 : x20_1 < (y239.length : Int) := of_decide_eq_true (by first | (with_reducible assumption) | assumption)
              obtain ⟨ad242, e242, hx242_0, hx242_1⟩ := at_T32 (Kd.R_reads' HO_18.out).2.2 x20_1 p242 q242
              cases e242
              replace p242 := eq_true p242
              replace q242 := eq_true q242
              try go_wp2_with (first | ((with_reducible refine gate_dst (N := 10) rfl ?_); refine box_event ?hg (N := 10) ?hd (cs := #[.int .i64 0, .int .i64 0]) (t := 32) ?hr ?_; (case hd => rfl); (case hg => rfl); (case hr => first | (go_simp; done) | (go_simp; rfl)); intro gb243 hg w22 hbox hb; have n0_ := Aside0.mk (Kd.R_below (Kd.R_elderB (by (with_reducible repeat (first | apply Kd.R_alloc | apply Kd.R_drewN | apply Kd.R_drew)); exact HO_18.out) gb243 (Nat.le_of_eq hg.symm)) hb); have n1_ := Aside0.mk (blk_below (g := gb238) (o := .cells #[.int .i64 a3_0, .int .i64 a3_1, .int .i64 a3_2, .int .i64 a3_3, .int .i64 a3_4, .int .u32 a3_5, .int .u32 a3_6] 29 (0, 0)) (by (with_reducible repeat (first | refine blk_drewN ?_ _ | refine blk_drew ?_ | refine blk_alloc ?_ _)); exact BK238.out) hb); have n2_ := Aside0.mk (below_step (by repeat (first | (with_reducible first | exact HB.out | apply below_alloc | apply pw_below_drewN | apply below_drew1 | refine below_set ?_ GE238.out) | exact HB.out)) hb); have n3_ := Aside0.mk (hbox); have n4_ := Aside0.mk ((by rw [hg]; exact (below_size (by repeat (first | (with_reducible first | exact HB.out | apply below_alloc | apply pw_below_drewN | apply below_drew1 | refine below_set ?_ GE238.out) | exact HB.out))) : w.heap.size ≤ gb243)); have n5_ := Aside0.mk ((by rw [hg]; exact (below_size (by repeat (first | (with_reducible first | exact HB.out | apply below_alloc | apply pw_below_drewN | apply below_drew1 | refine below_set ?_ GE238.out) | exact HB.out))) : w.heap.size ≤ gb243)); have n6_ := Aside0.mk ((by rw [hg]; exact Nat.ne_of_lt (blk_lt (g := gb238) (o := .cells #[.int .i64 a3_0, .int .i64 a3_1, .int .i64 a3_2, .int .i64 a3_3, .int .i64 a3_4, .int .u32 a3_5, .int .u32 a3_6] 29 (0, 0)) (by (with_reducible repeat (first | refine blk_drewN ?_ _ | refine blk_drew ?_ | refine blk_alloc ?_ _)); exact BK238.out)) : gb238 ≠ gb243)); have n7_ := Aside0.mk ((by rw [hg]; exact Nat.ne_of_gt (blk_lt (g := gb238) (o := .cells #[.int .i64 a3_0, .int .i64 a3_1, .int .i64 a3_2, .int .i64 a3_3, .int .i64 a3_4, .int .u32 a3_5, .int .u32 a3_6] 29 (0, 0)) (by (with_reducible repeat (first | refine blk_drewN ?_ _ | refine blk_drew ?_ | refine blk_alloc ?_ _)); exact BK238.out)) : gb243 ≠ gb238)); clear HO_18; clear BK238; clear HB; have HO_18 := n0_; have BK238 := n1_; have HB := n2_; have BK243 := n3_; have GW243 := n4_; have GE243 := n5_; have NB238_243 := n6_; have NB243_238 := n7_; clear n0_ n1_ n2_ n3_ n4_ n5_ n6_ n7_; clear hb hbox hg; have hnb23 := NB243_238.out; have hnc23 := NB238_243.out; have hcz24_0 : w22.cell? ⟨gb243, 0, none⟩ = some (.int .i64 0) := (blk_cell BK243.out 0).trans rfl; have hcz24_1 : w22.cell? ⟨gb243, 1, none⟩ = some (.int .i64 0) := (blk_cell BK243.out 1).trans rfl; have hfz24_0 := blk_frozen BK243.out 0; have hfz24_1 := blk_frozen BK243.out 1))
              have n0_ : Aside0 (Kd.R k32 32 ((w22.setCell ⟨gb243, 0, none⟩ (.int .i64 ((rd_T32 y239 x20_1).f0))).setCell ⟨gb243, 1, none⟩ (.int .i64 ((rd_T32 y239 x20_1).f1))) w.heap.size (fun k_ => k_ ≠ gb243) (.slice (some ad242) y239.length co8) y239) := ⟨by (with_reducible repeat (first | apply Kd.R_alloc | apply Kd.R_drewN | apply Kd.R_drew)); exact Kd.R_mono (Kd.R_far (p := ⟨gb243, 1, none⟩) (Kd.R_far (p := ⟨gb243, 0, none⟩) (Kd.R_mono HO_18.out (fun k_ hk => (⟨hk, hk.2⟩ : _ ∧ k_ ≠ gb243))) (fun _ hk => hk.2) (.int .i64 ((rd_T32 y239 x20_1).f0))) (fun _ hk => hk.2) (.int .i64 ((rd_T32 y239 x20_1).f1))) (fun _ hk => hk.1.2)⟩
              have n1_ : Aside0 (((w22.setCell ⟨gb243, 0, none⟩ (.int .i64 ((rd_T32 y239 x20_1).f0))).setCell ⟨gb243, 1, none⟩ (.int .i64 ((rd_T32 y239 x20_1).f1))).heap[gb238]? = some (.cells #[.int .i64 a3_0, .int .i64 a3_1, .int .i64 a3_2, .int .i64 a3_3, .int .i64 a3_4, .int .u32 a3_5, .int .u32 a3_6] 29 (0, 0))) := ⟨by (with_reducible repeat (first | refine blk_drewN ?_ _ | refine blk_drew ?_ | refine blk_alloc ?_ _)); refine blk_far ?_ NB238_243.out _; (with_reducible repeat (first | refine blk_drewN ?_ _ | refine blk_drew ?_ | refine blk_alloc ?_ _)); refine blk_far ?_ NB238_243.out _; (with_reducible repeat (first | refine blk_drewN ?_ _ | refine blk_drew ?_ | refine blk_alloc ?_ _)); exact BK238.out⟩
              have n2_ : Aside0 (((w22.setCell ⟨gb243, 0, none⟩ (.int .i64 ((rd_T32 y239 x20_1).f0))).setCell ⟨gb243, 1, none⟩ (.int .i64 ((rd_T32 y239 x20_1).f1))).heap[gb243]? = some (.cells #[.int .i64 ((rd_T32 y239 x20_1).f0), .int .i64 ((rd_T32 y239 x20_1).f1)] 32 (0, 0))) := ⟨by (with_reducible repeat (first | refine blk_drewN ?_ _ | refine blk_drew ?_ | refine blk_alloc ?_ _)); refine blk_put (cs := #[.int .i64 ((rd_T32 y239 x20_1).f0), .int .i64 0]) ?_ 1 _ rfl; (with_reducible repeat (first | refine blk_drewN ?_ _ | refine blk_drew ?_ | refine blk_alloc ?_ _)); refine blk_put (cs := #[.int .i64 0, .int .i64 0]) ?_ 0 _ rfl; (with_reducible repeat (first | refine blk_drewN ?_ _ | refine blk_drew ?_ | refine blk_alloc ?_ _)); exact BK243.out⟩
              have n3_ : Aside0 (Below w.heap.size w ((w22.setCell ⟨gb243, 0, none⟩ (.int .i64 ((rd_T32 y239 x20_1).f0))).setCell ⟨gb243, 1, none⟩ (.int .i64 ((rd_T32 y239 x20_1).f1)))) := ⟨by repeat (first | (with_reducible first | exact HB.out | apply below_alloc | apply pw_below_drewN | apply below_drew1 | refine below_set ?_ GE238.out | refine below_set ?_ GE243.out) | exact HB.out)⟩
              (try clear HO_18)
              (try clear BK238)
              (try clear BK243)
              (try clear HB)
              generalize ((w22.setCell ⟨gb243, 0, none⟩ (.int .i64 ((rd_T32 y239 x20_1).f0))).setCell ⟨gb243, 1, none⟩ (.int .i64 ((rd_T32 y239 x20_1).f1))) = w25 at n0_ n1_ n2_ n3_ ⊢
              have HO_18 := n0_
              have BK238 := n1_
              have BK243 := n2_
              have HB := n3_
              clear n0_ n1_ n2_ n3_
              have n0_ := Aside0.mk (Kd.R_drew HO_18.out)
              have n1_ := Aside0.mk (blk_drew BK238.out)
              have n2_ := Aside0.mk (blk_drew BK243.out)
              have n3_ := Aside0.mk (below_drew1 HB.out)
              clear HO_18
              clear BK238
              clear BK243
              clear HB
              have HO_18 := n0_
              have BK238 := n1_
              have BK243 := n2_
              have HB := n3_
              clear n0_ n1_ n2_ n3_
              refine start_ (n := 13) (S := fun w' => w'.cell? ⟨gb243, 0, none⟩ = some (.int .i64 ((rd_T32 y239 x20_1).f0)) ∧ w'.cell? ⟨gb243, 1, none⟩ = some (.int .i64 ((rd_T32 y239 x20_1).f1))) (ds := []) #[false, false, false, false, false, false, false, false, false, false, false, false, false] (by kernel_rfl) rfl rfl ⟨(blk_cell BK243.out 0).trans rfl, (blk_cell BK243.out 1).trans rfl⟩ (fun hHeld => ?_); refine with_tabW pianolalaw5_BranchTwos.tab4 pianolalaw5_BranchTwos.bits4 (fun HT_ HW_ => ?_)
              generalize w25.drew = w26 at HO_18 BK238 BK243 HB hHeld ⊢
              refine pure_ (i := 0) (N := some 24) (v := ?_) (a' := ?_) #[true, false, false, false, false, false, false, false, false, false, false, false, false] rfl rfl (any_of HT_.out (by kernel_rfl)) (fun _ _ _ h => h) (Or.inl ⟨by rfl, ?_⟩) ?_ ?_
              rotate_left
              · intro w'
                go_simp
                with_reducible rfl
              rotate_left
              · simp only [Act.put, List.setIfInBounds_toArray, List.set_cons_zero, List.set_cons_succ, i64_w, i32_w]
                rfl
              refine pure_ (i := 3) (N := some 27) (v := ?_) (a' := ?_) #[true, false, false, true, false, false, false, false, false, false, false, false, false] rfl rfl (any_of HT_.out (by kernel_rfl)) (fun _ _ _ h => h) (Or.inl ⟨by rfl, ?_⟩) ?_ ?_
              rotate_left
              · intro w'
                go_simp
                with_reducible rfl
              rotate_left
              · simp only [Act.put, List.setIfInBounds_toArray, List.set_cons_zero, List.set_cons_succ, i64_w, i32_w]
                rfl
              refine pure_ (i := 4) (N := some 28) (v := ?_) (a' := ?_) #[true, false, false, true, true, false, false, false, false, false, false, false, false] rfl rfl (any_of HT_.out (by kernel_rfl)) (fun _ _ _ h => h) (Or.inl ⟨by rfl, ?_⟩) ?_ ?_
              rotate_left
              · intro w'
                go_simp
                with_reducible rfl
              rotate_left
              · simp only [Act.put, List.setIfInBounds_toArray, List.set_cons_zero, List.set_cons_succ, i64_w, i32_w]
                rfl
              refine pure_ (i := 6) (N := some 30) (v := ?_) (a' := ?_) #[true, false, false, true, true, false, true, false, false, false, false, false, false] rfl rfl (any_of HT_.out (by kernel_rfl)) (fun _ _ _ h => h) (Or.inl ⟨by rfl, ?_⟩) ?_ ?_
              rotate_left
              · intro w'
                go_simp
                with_reducible rfl
              rotate_left
              · simp only [Act.put, List.setIfInBounds_toArray, List.set_cons_zero, List.set_cons_succ, i64_w, i32_w]
                rfl
              refine pure_ (i := 9) (N := some 33) (v := ?_) (a' := ?_) #[true, false, false, true, true, false, true, false, false, true, false, false, false] rfl rfl (any_of HT_.out (by kernel_rfl)) (fun _ _ _ h => h) (Or.inl ⟨by rfl, ?_⟩) ?_ ?_
              rotate_left
              · intro w'
                go_simp
                with_reducible rfl
              rotate_left
              · simp only [Act.put, List.setIfInBounds_toArray, List.set_cons_zero, List.set_cons_succ, i64_w, i32_w]
                rfl
              refine pure_ (i := 10) (N := some 34) (v := ?_) (a' := ?_) #[true, false, false, true, true, false, true, false, false, true, true, false, false] rfl rfl (any_of HT_.out (by kernel_rfl)) (fun _ _ _ h => h) (Or.inl ⟨by rfl, ?_⟩) ?_ ?_
              rotate_left
              · intro w'
                go_simp
                with_reducible rfl
              rotate_left
              · simp only [Act.put, List.setIfInBounds_toArray, List.set_cons_zero, List.set_cons_succ, i64_w, i32_w]
                rfl
              refine take_ (i := 1) (N := some 25) (v := ?_) (a' := ?_) #[true, true, false, true, true, false, true, false, false, true, true, false, false] rfl rfl (take_ofW HT_.out HW_.out (by kernel_rfl)) (fun _ _ _ h => h) (Or.inl ⟨by rfl, ?_⟩) hHeld ?_ ?_
              rotate_left
              · rintro w' ⟨s0, s1⟩
                go_simp
                with_reducible rfl
              rotate_left
              · simp only [Act.put, List.setIfInBounds_toArray, List.set_cons_zero, List.set_cons_succ, i64_w, i32_w]
                rfl
              refine pure_ (i := 2) (N := some 26) (v := ?_) (a' := ?_) #[true, true, true, true, true, false, true, false, false, true, true, false, false] rfl rfl (any_of HT_.out (by kernel_rfl)) (fun _ _ _ h => h) (Or.inl ⟨by rfl, ?_⟩) ?_ ?_
              rotate_left
              · intro w'
                go_simp
                with_reducible rfl
              rotate_left
              · simp only [Act.put, List.setIfInBounds_toArray, List.set_cons_zero, List.set_cons_succ, i64_w, i32_w]
                rfl
              refine take_ (i := 7) (N := some 31) (v := ?_) (a' := ?_) #[true, true, true, true, true, false, true, true, false, true, true, false, false] rfl rfl (take_ofW HT_.out HW_.out (by kernel_rfl)) (fun _ _ _ h => h) (Or.inl ⟨by rfl, ?_⟩) hHeld ?_ ?_
              rotate_left
              · rintro w' ⟨s0, s1⟩
                go_simp
                with_reducible rfl
              rotate_left
              · simp only [Act.put, List.setIfInBounds_toArray, List.set_cons_zero, List.set_cons_succ, i64_w, i32_w]
                rfl
              refine pure_ (i := 8) (N := some 32) (v := ?_) (a' := ?_) #[true, true, true, true, true, false, true, true, true, true, true, false, false] rfl rfl (any_of HT_.out (by kernel_rfl)) (fun _ _ _ h => h) (Or.inl ⟨by rfl, ?_⟩) ?_ ?_
              rotate_left
              · intro w'
                go_simp
                with_reducible rfl
              rotate_left
              · simp only [Act.put, List.setIfInBounds_toArray, List.set_cons_zero, List.set_cons_succ, i64_w, i32_w]
                rfl
              refine one_ (i := 5) (N := some 29) #[true, true, true, true, true, true, true, true, true, true, true, false, false] rfl rfl (one_of HT_.out (by kernel_rfl)) (by decide) (fun K hK => ?_)
              refine goes_ Try.func10 (by kernel_rfl) rfl #[.agg #[.int .i64 ((rd_T32 y239 x20_1).f0), .int .i64 0, .int .i64 0, .int .i64 0, .int .i64 0, .int .u32 0], .int .u32 a1, .int .u32 a2] (by rfl) rfl rfl (by (try simp only [List.map_toArray, List.map_cons, List.map_nil]); first | done | rfl | (simp only [List.length_drop, List.length_take]; rfl)) ?_
              with_reducible refine (branch_Taken.calls k1 ((rd_T32 y239 x20_1).f0) 0 0 0 0 0 a1 a2 t244 _ A12.out).mono ?_
              rintro e w27 ⟨rfl, hb⟩
              refine ⟨_, rfl, ?_⟩
              have n0_ := Aside0.mk (Kd.R_below (by (with_reducible repeat (first | apply Kd.R_alloc | apply Kd.R_drewN | apply Kd.R_drew)); exact HO_18.out) hb)
              have n1_ := Aside0.mk (blk_below (g := gb238) (o := .cells #[.int .i64 a3_0, .int .i64 a3_1, .int .i64 a3_2, .int .i64 a3_3, .int .i64 a3_4, .int .u32 a3_5, .int .u32 a3_6] 29 (0, 0)) (by (with_reducible repeat (first | refine blk_drewN ?_ _ | refine blk_drew ?_ | refine blk_alloc ?_ _)); exact BK238.out) hb)
              have n2_ := Aside0.mk (blk_below (g := gb243) (o := .cells #[.int .i64 ((rd_T32 y239 x20_1).f0), .int .i64 ((rd_T32 y239 x20_1).f1)] 32 (0, 0)) (by (with_reducible repeat (first | refine blk_drewN ?_ _ | refine blk_drew ?_ | refine blk_alloc ?_ _)); exact BK243.out) hb)
              have n3_ := Aside0.mk (below_step (by repeat (first | (with_reducible first | exact HB.out | apply below_alloc | apply pw_below_drewN | apply below_drew1 | refine below_set ?_ GE238.out | refine below_set ?_ GE243.out) | exact HB.out)) hb)
              clear HO_18
              clear BK238
              clear BK243
              clear HB
              have HO_18 := n0_
              have BK238 := n1_
              have BK243 := n2_
              have HB := n3_
              clear n0_ n1_ n2_ n3_
              (try clear hb)
              (try clear hb2)
              (try clear hk)
              (try clear hi)
              refine hK.out _ _ ⟨(blk_cell BK243.out 0).trans rfl, (blk_cell BK243.out 1).trans rfl⟩ (fun hHeld => ?_)
              clear hK K
              refine norm_ (a' := ?_) ?_ ?_
              rotate_left
              · show Act.put _ (some 29) _ = _
                simp only [Act.put, List.setIfInBounds_toArray, List.set_cons_zero, List.set_cons_succ, i64_w, i32_w]
                rfl
              refine one_ (i := 11) (N := some 35) #[true, true, true, true, true, true, true, true, true, true, true, true, false] rfl rfl (one_of HT_.out (by kernel_rfl)) (by decide) (fun K hK => ?_)
              refine goes_ Try.func10 (by kernel_rfl) rfl #[.agg #[.int .i64 ((rd_T32 y239 x20_1).f1), .int .i64 0, .int .i64 0, .int .i64 0, .int .i64 0, .int .u32 0], .int .u32 a1, .int .u32 a2] (by rfl) rfl rfl (by (try simp only [List.map_toArray, List.map_cons, List.map_nil]); first | done | rfl | (simp only [List.length_drop, List.length_take]; rfl)) ?_
              with_reducible refine (branch_Taken.calls k1 ((rd_T32 y239 x20_1).f1) 0 0 0 0 0 a1 a2 t245 _ A13.out).mono ?_
              rintro e w28 ⟨rfl, hb⟩
              refine ⟨_, rfl, ?_⟩
              have n0_ := Aside0.mk (Kd.R_below (by (with_reducible repeat (first | apply Kd.R_alloc | apply Kd.R_drewN | apply Kd.R_drew)); exact HO_18.out) hb)
              have n1_ := Aside0.mk (blk_below (g := gb238) (o := .cells #[.int .i64 a3_0, .int .i64 a3_1, .int .i64 a3_2, .int .i64 a3_3, .int .i64 a3_4, .int .u32 a3_5, .int .u32 a3_6] 29 (0, 0)) (by (with_reducible repeat (first | refine blk_drewN ?_ _ | refine blk_drew ?_ | refine blk_alloc ?_ _)); exact BK238.out) hb)
              have n2_ := Aside0.mk (blk_below (g := gb243) (o := .cells #[.int .i64 ((rd_T32 y239 x20_1).f0), .int .i64 ((rd_T32 y239 x20_1).f1)] 32 (0, 0)) (by (with_reducible repeat (first | refine blk_drewN ?_ _ | refine blk_drew ?_ | refine blk_alloc ?_ _)); exact BK243.out) hb)
              have n3_ := Aside0.mk (below_step (by repeat (first | (with_reducible first | exact HB.out | apply below_alloc | apply pw_below_drewN | apply below_drew1 | refine below_set ?_ GE238.out | refine below_set ?_ GE243.out) | exact HB.out)) hb)
              clear HO_18
              clear BK238
              clear BK243
              clear HB
              have HO_18 := n0_
              have BK238 := n1_
              have BK243 := n2_
              have HB := n3_
              clear n0_ n1_ n2_ n3_
              (try clear hb)
              (try clear hb2)
              (try clear hk)
              (try clear hi)
              refine hK.out _ _ ⟨(blk_cell BK243.out 0).trans rfl, (blk_cell BK243.out 1).trans rfl⟩ (fun hHeld => ?_)
              clear hK K
              refine norm_ (a' := ?_) ?_ ?_
              rotate_left
              · show Act.put _ (some 35) _ = _
                simp only [Act.put, List.setIfInBounds_toArray, List.set_cons_zero, List.set_cons_succ, i64_w, i32_w]
                rfl
              refine pure_ (i := 12) (N := some 36) (v := ?_) (a' := ?_) #[true, true, true, true, true, true, true, true, true, true, true, true, true] rfl rfl (any_of HT_.out (by kernel_rfl)) (fun _ _ _ h => h) (Or.inl ⟨by rfl, ?_⟩) ?_ ?_
              rotate_left
              · intro w'
                go_simp
                with_reducible rfl
              rotate_left
              · simp only [Act.put, List.setIfInBounds_toArray, List.set_cons_zero, List.set_cons_succ, i64_w, i32_w]
                rfl
              refine done_ (done_of HT_.out (by kernel_rfl)) ?_
              try go_wp2
              go_roundg k1
              case measure => have := HK1.out; omega
              case rel => exact ⟨(wrap64 (x20_1 + 1)), (by first | rfl | (simp; done) | (simp [*]; done) | (simp; omega)), H', ⟨by have := HK1.out; omega⟩, ⟨by (with_reducible repeat (first | apply Kd.R_alloc | apply Kd.R_drewN | apply Kd.R_drew)); exact Kd.R_mono HO_18.out (fun _ hk => trivial)⟩, ⟨by (with_reducible repeat (first | refine blk_drewN ?_ _ | refine blk_drew ?_ | refine blk_alloc ?_ _)); exact BK238.out⟩, ⟨by repeat (first | (with_reducible first | exact HB.out | apply below_alloc | apply pw_below_drewN | apply below_drew1 | refine below_set ?_ GE238.out | refine below_set ?_ GE243.out) | exact HB.out)⟩⟩
          · rw [if_neg c11] at H
            exact absurd H (by simp)
        · rw [if_neg c10] at H
          exact absurd H (by simp)
      · rw [if_neg c9] at H
        have c9b0 : decide (x20_1 < (y239.length : Int)) = false := decide_eq_false c9
        clear c9
        replace H := Option.bind_eq_some_iff.mp H
        obtain ⟨⟨t246, t247, t248, t249, t250, t251⟩, A290, H⟩ := H
        replace H : ((branch_Links.f k1 t246 t247 t248 t249 t250 t251).bind fun bt253 => ((branch_Taken.f k1 t246 t247 t248 t249 t250 t251 a1 a2).bind fun t255 => (if t255 = true then (some false) else ((branch_Target.f k1 t246 t247 t248 t249 t250 t251 a0 a1).bind fun t256 => (if t256 = ((a0 + 4) % 4294967296) then (if bt253.2 = true then (some false) else ((pianolalaw5_known.f k1).bind fun t257 => (some t257))) else (some false)))))) = some r := H
        have A29 := Aside0.mk A290
        clear A290
        replace H := Option.bind_eq_some_iff.mp H
        obtain ⟨⟨t253, t254⟩, A300, H⟩ := H
        replace H : ((branch_Taken.f k1 t246 t247 t248 t249 t250 t251 a1 a2).bind fun t255 => (if t255 = true then (some false) else ((branch_Target.f k1 t246 t247 t248 t249 t250 t251 a0 a1).bind fun t256 => (if t256 = ((a0 + 4) % 4294967296) then (if t254 = true then (some false) else ((pianolalaw5_known.f k1).bind fun t257 => (some t257))) else (some false))))) = some r := H
        have A30 := Aside0.mk A300
        clear A300
        replace H := Option.bind_eq_some_iff.mp H
        obtain ⟨t255, A310, H⟩ := H
        replace H : (if t255 = true then (some false) else ((branch_Target.f k1 t246 t247 t248 t249 t250 t251 a0 a1).bind fun t256 => (if t256 = ((a0 + 4) % 4294967296) then (if t254 = true then (some false) else ((pianolalaw5_known.f k1).bind fun t257 => (some t257))) else (some false)))) = some r := H
        have A31 := Aside0.mk A310
        clear A310
        by_cases c32 : t255 = true
        · subst c32
          have H1 : (some false) = some r := by rw [if_pos rfl] at H; exact H
          clear H
          have H := H1
          clear H1
          obtain rfl := Option.some.inj H
          have hcz33_0 : wr.cell? ⟨gb238, 0, none⟩ = some (.int .i64 a3_0) := (blk_cell BK238.out 0).trans rfl
          have hcz33_1 : wr.cell? ⟨gb238, 1, none⟩ = some (.int .i64 a3_1) := (blk_cell BK238.out 1).trans rfl
          have hcz33_2 : wr.cell? ⟨gb238, 2, none⟩ = some (.int .i64 a3_2) := (blk_cell BK238.out 2).trans rfl
          have hcz33_3 : wr.cell? ⟨gb238, 3, none⟩ = some (.int .i64 a3_3) := (blk_cell BK238.out 3).trans rfl
          have hcz33_4 : wr.cell? ⟨gb238, 4, none⟩ = some (.int .i64 a3_4) := (blk_cell BK238.out 4).trans rfl
          have hcz33_5 : wr.cell? ⟨gb238, 5, none⟩ = some (.int .u32 a3_5) := (blk_cell BK238.out 5).trans rfl
          have hcz33_6 : wr.cell? ⟨gb238, 6, none⟩ = some (.int .u32 a3_6) := (blk_cell BK238.out 6).trans rfl
          have hfz33_0 := blk_frozen BK238.out 0
          have hfz33_1 := blk_frozen BK238.out 1
          have hfz33_2 := blk_frozen BK238.out 2
          have hfz33_3 := blk_frozen BK238.out 3
          have hfz33_4 := blk_frozen BK238.out 4
          have hfz33_5 := blk_frozen BK238.out 5
          have hfz33_6 := blk_frozen BK238.out 6
          go_wp2_with (first | ((with_reducible refine gate_callee (f := 11) rfl ?_); refine goesL_ (some 39) rfl rfl Try.func11 (by kernel_rfl) rfl #[.agg #[.int .i64 a3_0, .int .i64 a3_1, .int .i64 a3_2, .int .i64 a3_3, .int .i64 a3_4, .int .u32 a3_5, .int .u32 a3_6]] rfl (by (try simp only [List.map_toArray, List.map_cons, List.map_nil]); first | done | rfl | (simp only [List.length_drop, List.length_take]; rfl)) ?_; (with_reducible refine (pianolakeep_Plain.calls k1 a3_0 a3_1 a3_2 a3_3 a3_4 a3_5 a3_6 t246 t247 t248 t249 t250 t251 _ A29.out).mono ?_); rintro e w34 ⟨rfl, hb⟩; refine ⟨_, rfl, ?_⟩; have n0_ := Aside0.mk (Kd.R_below (by (with_reducible repeat (first | apply Kd.R_alloc | apply Kd.R_drewN | apply Kd.R_drew)); exact HO_18.out) hb); have n1_ := Aside0.mk (blk_below (g := gb238) (o := .cells #[.int .i64 a3_0, .int .i64 a3_1, .int .i64 a3_2, .int .i64 a3_3, .int .i64 a3_4, .int .u32 a3_5, .int .u32 a3_6] 29 (0, 0)) (by (with_reducible repeat (first | refine blk_drewN ?_ _ | refine blk_drew ?_ | refine blk_alloc ?_ _)); exact BK238.out) hb); have n2_ := Aside0.mk (below_step (by repeat (first | (with_reducible first | exact HB.out | apply below_alloc | apply pw_below_drewN | apply below_drew1 | refine below_set ?_ GE238.out) | exact HB.out)) hb); clear HO_18; clear BK238; clear HB; have HO_18 := n0_; have BK238 := n1_; have HB := n2_; clear n0_ n1_ n2_; (try clear hb); (try clear hb2); (try clear hk); (try clear hi)) | ((with_reducible refine gate_dst (N := 11) rfl ?_); refine box_event ?hg (N := 11) ?hd (cs := #[.int .i64 0, .int .i64 0, .int .i64 0, .int .i64 0, .int .i64 0, .int .u32 0]) (t := 26) ?hr ?_; (case hd => rfl); (case hg => rfl); (case hr => first | (go_simp; done) | (go_simp; rfl)); intro gb252 hg w35 hbox hb; have n0_ := Aside0.mk (Kd.R_below (by (with_reducible repeat (first | apply Kd.R_alloc | apply Kd.R_drewN | apply Kd.R_drew)); exact HO_18.out) hb); have n1_ := Aside0.mk (blk_below (g := gb238) (o := .cells #[.int .i64 a3_0, .int .i64 a3_1, .int .i64 a3_2, .int .i64 a3_3, .int .i64 a3_4, .int .u32 a3_5, .int .u32 a3_6] 29 (0, 0)) (by (with_reducible repeat (first | refine blk_drewN ?_ _ | refine blk_drew ?_ | refine blk_alloc ?_ _)); exact BK238.out) hb); have n2_ := Aside0.mk (below_step (by repeat (first | (with_reducible first | exact HB.out | apply below_alloc | apply pw_below_drewN | apply below_drew1 | refine below_set ?_ GE238.out) | exact HB.out)) hb); have n3_ := Aside0.mk (hbox); have n4_ := Aside0.mk ((by rw [hg]; exact (below_size (by repeat (first | (with_reducible first | exact HB.out | apply below_alloc | apply pw_below_drewN | apply below_drew1 | refine below_set ?_ GE238.out) | exact HB.out))) : w.heap.size ≤ gb252)); have n5_ := Aside0.mk ((by rw [hg]; exact (below_size (by repeat (first | (with_reducible first | exact HB.out | apply below_alloc | apply pw_below_drewN | apply below_drew1 | refine below_set ?_ GE238.out) | exact HB.out))) : w.heap.size ≤ gb252)); have n6_ := Aside0.mk ((by rw [hg]; exact Nat.ne_of_lt (blk_lt (g := gb238) (o := .cells #[.int .i64 a3_0, .int .i64 a3_1, .int .i64 a3_2, .int .i64 a3_3, .int .i64 a3_4, .int .u32 a3_5, .int .u32 a3_6] 29 (0, 0)) (by (with_reducible repeat (first | refine blk_drewN ?_ _ | refine blk_drew ?_ | refine blk_alloc ?_ _)); exact BK238.out)) : gb238 ≠ gb252)); have n7_ := Aside0.mk ((by rw [hg]; exact Nat.ne_of_gt (blk_lt (g := gb238) (o := .cells #[.int .i64 a3_0, .int .i64 a3_1, .int .i64 a3_2, .int .i64 a3_3, .int .i64 a3_4, .int .u32 a3_5, .int .u32 a3_6] 29 (0, 0)) (by (with_reducible repeat (first | refine blk_drewN ?_ _ | refine blk_drew ?_ | refine blk_alloc ?_ _)); exact BK238.out)) : gb252 ≠ gb238)); clear HO_18; clear BK238; clear HB; have HO_18 := n0_; have BK238 := n1_; have HB := n2_; have BK252 := n3_; have GW252 := n4_; have GE252 := n5_; have NB238_252 := n6_; have NB252_238 := n7_; clear n0_ n1_ n2_ n3_ n4_ n5_ n6_ n7_; clear hb hbox hg; have hnb36 := NB252_238.out; have hnc36 := NB238_252.out; have hcz37_0 : w35.cell? ⟨gb252, 0, none⟩ = some (.int .i64 0) := (blk_cell BK252.out 0).trans rfl; have hcz37_1 : w35.cell? ⟨gb252, 1, none⟩ = some (.int .i64 0) := (blk_cell BK252.out 1).trans rfl; have hcz37_2 : w35.cell? ⟨gb252, 2, none⟩ = some (.int .i64 0) := (blk_cell BK252.out 2).trans rfl; have hcz37_3 : w35.cell? ⟨gb252, 3, none⟩ = some (.int .i64 0) := (blk_cell BK252.out 3).trans rfl; have hcz37_4 : w35.cell? ⟨gb252, 4, none⟩ = some (.int .i64 0) := (blk_cell BK252.out 4).trans rfl; have hcz37_5 : w35.cell? ⟨gb252, 5, none⟩ = some (.int .u32 0) := (blk_cell BK252.out 5).trans rfl; have hfz37_0 := blk_frozen BK252.out 0; have hfz37_1 := blk_frozen BK252.out 1; have hfz37_2 := blk_frozen BK252.out 2; have hfz37_3 := blk_frozen BK252.out 3; have hfz37_4 := blk_frozen BK252.out 4; have hfz37_5 := blk_frozen BK252.out 5) | ((with_reducible refine gate_callee (f := 12) rfl ?_); refine goesL_ (some 42) rfl rfl Try.func12 (by kernel_rfl) rfl #[.agg #[.int .i64 t246, .int .i64 t247, .int .i64 t248, .int .i64 t249, .int .i64 t250, .int .u32 t251]] rfl (by (try simp only [List.map_toArray, List.map_cons, List.map_nil]); first | done | rfl | (simp only [List.length_drop, List.length_take]; rfl)) ?_; (with_reducible refine (branch_Links.calls k1 t246 t247 t248 t249 t250 t251 t253 t254 _ A30.out).mono ?_); rintro e w38 ⟨rfl, hb⟩; refine ⟨_, rfl, ?_⟩; have n0_ := Aside0.mk (Kd.R_below (by (with_reducible repeat (first | apply Kd.R_alloc | apply Kd.R_drewN | apply Kd.R_drew)); exact (Kd.R_mono (Kd.R_far (p := ⟨gb252, 5, none⟩) (Kd.R_far (p := ⟨gb252, 4, none⟩) (Kd.R_far (p := ⟨gb252, 3, none⟩) (Kd.R_far (p := ⟨gb252, 2, none⟩) (Kd.R_far (p := ⟨gb252, 1, none⟩) (Kd.R_far (p := ⟨gb252, 0, none⟩) (Kd.R_types HO_18.out BK252.out (by decide)) (fun _ hk => hk.2) (.int .i64 t246)) (fun _ hk => hk.2) (.int .i64 t247)) (fun _ hk => hk.2) (.int .i64 t248)) (fun _ hk => hk.2) (.int .i64 t249)) (fun _ hk => hk.2) (.int .i64 t250)) (fun _ hk => hk.2) (.int .u32 t251)) (fun _ h_ => h_.1))) hb); have n1_ := Aside0.mk (blk_below (g := gb238) (o := .cells #[.int .i64 a3_0, .int .i64 a3_1, .int .i64 a3_2, .int .i64 a3_3, .int .i64 a3_4, .int .u32 a3_5, .int .u32 a3_6] 29 (0, 0)) (by (with_reducible repeat (first | refine blk_drewN ?_ _ | refine blk_drew ?_ | refine blk_alloc ?_ _)); refine blk_far ?_ NB238_252.out _; (with_reducible repeat (first | refine blk_drewN ?_ _ | refine blk_drew ?_ | refine blk_alloc ?_ _)); refine blk_far ?_ NB238_252.out _; (with_reducible repeat (first | refine blk_drewN ?_ _ | refine blk_drew ?_ | refine blk_alloc ?_ _)); refine blk_far ?_ NB238_252.out _; (with_reducible repeat (first | refine blk_drewN ?_ _ | refine blk_drew ?_ | refine blk_alloc ?_ _)); refine blk_far ?_ NB238_252.out _; (with_reducible repeat (first | refine blk_drewN ?_ _ | refine blk_drew ?_ | refine blk_alloc ?_ _)); refine blk_far ?_ NB238_252.out _; (with_reducible repeat (first | refine blk_drewN ?_ _ | refine blk_drew ?_ | refine blk_alloc ?_ _)); refine blk_far ?_ NB238_252.out _; (with_reducible repeat (first | refine blk_drewN ?_ _ | refine blk_drew ?_ | refine blk_alloc ?_ _)); exact BK238.out) hb); have n2_ := Aside0.mk (blk_below (g := gb252) (o := .cells #[.int .i64 t246, .int .i64 t247, .int .i64 t248, .int .i64 t249, .int .i64 t250, .int .u32 t251] 26 (0, 0)) (by (with_reducible repeat (first | refine blk_drewN ?_ _ | refine blk_drew ?_ | refine blk_alloc ?_ _)); refine blk_put (cs := #[.int .i64 t246, .int .i64 t247, .int .i64 t248, .int .i64 t249, .int .i64 t250, .int .u32 0]) ?_ 5 _ rfl; (with_reducible repeat (first | refine blk_drewN ?_ _ | refine blk_drew ?_ | refine blk_alloc ?_ _)); refine blk_put (cs := #[.int .i64 t246, .int .i64 t247, .int .i64 t248, .int .i64 t249, .int .i64 0, .int .u32 0]) ?_ 4 _ rfl; (with_reducible repeat (first | refine blk_drewN ?_ _ | refine blk_drew ?_ | refine blk_alloc ?_ _)); refine blk_put (cs := #[.int .i64 t246, .int .i64 t247, .int .i64 t248, .int .i64 0, .int .i64 0, .int .u32 0]) ?_ 3 _ rfl; (with_reducible repeat (first | refine blk_drewN ?_ _ | refine blk_drew ?_ | refine blk_alloc ?_ _)); refine blk_put (cs := #[.int .i64 t246, .int .i64 t247, .int .i64 0, .int .i64 0, .int .i64 0, .int .u32 0]) ?_ 2 _ rfl; (with_reducible repeat (first | refine blk_drewN ?_ _ | refine blk_drew ?_ | refine blk_alloc ?_ _)); refine blk_put (cs := #[.int .i64 t246, .int .i64 0, .int .i64 0, .int .i64 0, .int .i64 0, .int .u32 0]) ?_ 1 _ rfl; (with_reducible repeat (first | refine blk_drewN ?_ _ | refine blk_drew ?_ | refine blk_alloc ?_ _)); refine blk_put (cs := #[.int .i64 0, .int .i64 0, .int .i64 0, .int .i64 0, .int .i64 0, .int .u32 0]) ?_ 0 _ rfl; (with_reducible repeat (first | refine blk_drewN ?_ _ | refine blk_drew ?_ | refine blk_alloc ?_ _)); exact BK252.out) hb); have n3_ := Aside0.mk (below_step (by repeat (first | (with_reducible first | exact HB.out | apply below_alloc | apply pw_below_drewN | apply below_drew1 | refine below_set ?_ GE238.out | refine below_set ?_ GE252.out) | exact HB.out)) hb); clear HO_18; clear BK238; clear BK252; clear HB; have HO_18 := n0_; have BK238 := n1_; have BK252 := n2_; have HB := n3_; clear n0_ n1_ n2_ n3_; (try clear hb); (try clear hb2); (try clear hk); (try clear hi); have hcz39_0 : w38.cell? ⟨gb252, 0, none⟩ = some (.int .i64 t246) := (blk_cell BK252.out 0).trans rfl; have hcz39_1 : w38.cell? ⟨gb252, 1, none⟩ = some (.int .i64 t247) := (blk_cell BK252.out 1).trans rfl; have hcz39_2 : w38.cell? ⟨gb252, 2, none⟩ = some (.int .i64 t248) := (blk_cell BK252.out 2).trans rfl; have hcz39_3 : w38.cell? ⟨gb252, 3, none⟩ = some (.int .i64 t249) := (blk_cell BK252.out 3).trans rfl; have hcz39_4 : w38.cell? ⟨gb252, 4, none⟩ = some (.int .i64 t250) := (blk_cell BK252.out 4).trans rfl; have hcz39_5 : w38.cell? ⟨gb252, 5, none⟩ = some (.int .u32 t251) := (blk_cell BK252.out 5).trans rfl; have hfz39_0 := blk_frozen BK252.out 0; have hfz39_1 := blk_frozen BK252.out 1; have hfz39_2 := blk_frozen BK252.out 2; have hfz39_3 := blk_frozen BK252.out 3; have hfz39_4 := blk_frozen BK252.out 4; have hfz39_5 := blk_frozen BK252.out 5) | ((with_reducible refine gate_callee (f := 10) rfl ?_); refine goesL_ (some 48) rfl rfl Try.func10 (by kernel_rfl) rfl #[.agg #[.int .i64 t246, .int .i64 t247, .int .i64 t248, .int .i64 t249, .int .i64 t250, .int .u32 t251], .int .u32 a1, .int .u32 a2] rfl (by (try simp only [List.map_toArray, List.map_cons, List.map_nil]); first | done | rfl | (simp only [List.length_drop, List.length_take]; rfl)) ?_; (with_reducible refine (branch_Taken.calls k1 t246 t247 t248 t249 t250 t251 a1 a2 true _ A31.out).mono ?_); rintro e w40 ⟨rfl, hb⟩; refine ⟨_, rfl, ?_⟩; have n0_ := Aside0.mk (Kd.R_below (by (with_reducible repeat (first | apply Kd.R_alloc | apply Kd.R_drewN | apply Kd.R_drew)); exact HO_18.out) hb); have n1_ := Aside0.mk (blk_below (g := gb238) (o := .cells #[.int .i64 a3_0, .int .i64 a3_1, .int .i64 a3_2, .int .i64 a3_3, .int .i64 a3_4, .int .u32 a3_5, .int .u32 a3_6] 29 (0, 0)) (by (with_reducible repeat (first | refine blk_drewN ?_ _ | refine blk_drew ?_ | refine blk_alloc ?_ _)); exact BK238.out) hb); have n2_ := Aside0.mk (blk_below (g := gb252) (o := .cells #[.int .i64 t246, .int .i64 t247, .int .i64 t248, .int .i64 t249, .int .i64 t250, .int .u32 t251] 26 (0, 0)) (by (with_reducible repeat (first | refine blk_drewN ?_ _ | refine blk_drew ?_ | refine blk_alloc ?_ _)); exact BK252.out) hb); have n3_ := Aside0.mk (below_step (by repeat (first | (with_reducible first | exact HB.out | apply below_alloc | apply pw_below_drewN | apply below_drew1 | refine below_set ?_ GE238.out | refine below_set ?_ GE252.out) | exact HB.out)) hb); clear HO_18; clear BK238; clear BK252; clear HB; have HO_18 := n0_; have BK238 := n1_; have BK252 := n2_; have HB := n3_; clear n0_ n1_ n2_ n3_; (try clear hb); (try clear hb2); (try clear hk); (try clear hi)))
          go_ret
          exact ⟨by first | rfl | (simp [errW_none, errW_some] <;> rfl) | (simp [*, errW_none, errW_some] <;> rfl), by repeat (first | (with_reducible first | exact HB.out | apply below_alloc | apply pw_below_drewN | apply below_drew1 | refine below_set ?_ GE238.out | refine below_set ?_ GE252.out) | exact HB.out)⟩
        · replace c32 := Bool.eq_false_iff.mpr c32
          subst c32
          have H1 : ((branch_Target.f k1 t246 t247 t248 t249 t250 t251 a0 a1).bind fun t256 => (if t256 = ((a0 + 4) % 4294967296) then (if t254 = true then (some false) else ((pianolalaw5_known.f k1).bind fun t257 => (some t257))) else (some false))) = some r := by rw [if_neg (show ¬ (false = true) by decide)] at H; exact H
          clear H
          have H := H1
          clear H1
          replace H := Option.bind_eq_some_iff.mp H
          obtain ⟨t256, A410, H⟩ := H
          replace H : (if t256 = ((a0 + 4) % 4294967296) then (if t254 = true then (some false) else ((pianolalaw5_known.f k1).bind fun t257 => (some t257))) else (some false)) = some r := H
          have A41 := Aside0.mk A410
          clear A410
          by_cases c42 : t256 = ((a0 + 4) % 4294967296)
          · rw [if_pos c42] at H
            have c42b0 : (t256 == ((a0 + 4) % 4294967296)) = true := beq_iff_eq.mpr c42
            have c42b1 : (t256 != ((a0 + 4) % 4294967296)) = false := bne_eq_false_iff_eq.mpr c42
            clear c42
            by_cases c43 : t254 = true
            · subst c43
              have H1 : (some false) = some r := by rw [if_pos rfl] at H; exact H
              clear H
              have H := H1
              clear H1
              obtain rfl := Option.some.inj H
              have hcz44_0 : wr.cell? ⟨gb238, 0, none⟩ = some (.int .i64 a3_0) := (blk_cell BK238.out 0).trans rfl
              have hcz44_1 : wr.cell? ⟨gb238, 1, none⟩ = some (.int .i64 a3_1) := (blk_cell BK238.out 1).trans rfl
              have hcz44_2 : wr.cell? ⟨gb238, 2, none⟩ = some (.int .i64 a3_2) := (blk_cell BK238.out 2).trans rfl
              have hcz44_3 : wr.cell? ⟨gb238, 3, none⟩ = some (.int .i64 a3_3) := (blk_cell BK238.out 3).trans rfl
              have hcz44_4 : wr.cell? ⟨gb238, 4, none⟩ = some (.int .i64 a3_4) := (blk_cell BK238.out 4).trans rfl
              have hcz44_5 : wr.cell? ⟨gb238, 5, none⟩ = some (.int .u32 a3_5) := (blk_cell BK238.out 5).trans rfl
              have hcz44_6 : wr.cell? ⟨gb238, 6, none⟩ = some (.int .u32 a3_6) := (blk_cell BK238.out 6).trans rfl
              have hfz44_0 := blk_frozen BK238.out 0
              have hfz44_1 := blk_frozen BK238.out 1
              have hfz44_2 := blk_frozen BK238.out 2
              have hfz44_3 := blk_frozen BK238.out 3
              have hfz44_4 := blk_frozen BK238.out 4
              have hfz44_5 := blk_frozen BK238.out 5
              have hfz44_6 := blk_frozen BK238.out 6
              go_wp2_with (first | ((with_reducible refine gate_callee (f := 11) rfl ?_); refine goesL_ (some 39) rfl rfl Try.func11 (by kernel_rfl) rfl #[.agg #[.int .i64 a3_0, .int .i64 a3_1, .int .i64 a3_2, .int .i64 a3_3, .int .i64 a3_4, .int .u32 a3_5, .int .u32 a3_6]] rfl (by (try simp only [List.map_toArray, List.map_cons, List.map_nil]); first | done | rfl | (simp only [List.length_drop, List.length_take]; rfl)) ?_; (with_reducible refine (pianolakeep_Plain.calls k1 a3_0 a3_1 a3_2 a3_3 a3_4 a3_5 a3_6 t246 t247 t248 t249 t250 t251 _ A29.out).mono ?_); rintro e w45 ⟨rfl, hb⟩; refine ⟨_, rfl, ?_⟩; have n0_ := Aside0.mk (Kd.R_below (by (with_reducible repeat (first | apply Kd.R_alloc | apply Kd.R_drewN | apply Kd.R_drew)); exact HO_18.out) hb); have n1_ := Aside0.mk (blk_below (g := gb238) (o := .cells #[.int .i64 a3_0, .int .i64 a3_1, .int .i64 a3_2, .int .i64 a3_3, .int .i64 a3_4, .int .u32 a3_5, .int .u32 a3_6] 29 (0, 0)) (by (with_reducible repeat (first | refine blk_drewN ?_ _ | refine blk_drew ?_ | refine blk_alloc ?_ _)); exact BK238.out) hb); have n2_ := Aside0.mk (below_step (by repeat (first | (with_reducible first | exact HB.out | apply below_alloc | apply pw_below_drewN | apply below_drew1 | refine below_set ?_ GE238.out) | exact HB.out)) hb); clear HO_18; clear BK238; clear HB; have HO_18 := n0_; have BK238 := n1_; have HB := n2_; clear n0_ n1_ n2_; (try clear hb); (try clear hb2); (try clear hk); (try clear hi)) | ((with_reducible refine gate_dst (N := 11) rfl ?_); refine box_event ?hg (N := 11) ?hd (cs := #[.int .i64 0, .int .i64 0, .int .i64 0, .int .i64 0, .int .i64 0, .int .u32 0]) (t := 26) ?hr ?_; (case hd => rfl); (case hg => rfl); (case hr => first | (go_simp; done) | (go_simp; rfl)); intro gb252 hg w46 hbox hb; have n0_ := Aside0.mk (Kd.R_below (by (with_reducible repeat (first | apply Kd.R_alloc | apply Kd.R_drewN | apply Kd.R_drew)); exact HO_18.out) hb); have n1_ := Aside0.mk (blk_below (g := gb238) (o := .cells #[.int .i64 a3_0, .int .i64 a3_1, .int .i64 a3_2, .int .i64 a3_3, .int .i64 a3_4, .int .u32 a3_5, .int .u32 a3_6] 29 (0, 0)) (by (with_reducible repeat (first | refine blk_drewN ?_ _ | refine blk_drew ?_ | refine blk_alloc ?_ _)); exact BK238.out) hb); have n2_ := Aside0.mk (below_step (by repeat (first | (with_reducible first | exact HB.out | apply below_alloc | apply pw_below_drewN | apply below_drew1 | refine below_set ?_ GE238.out) | exact HB.out)) hb); have n3_ := Aside0.mk (hbox); have n4_ := Aside0.mk ((by rw [hg]; exact (below_size (by repeat (first | (with_reducible first | exact HB.out | apply below_alloc | apply pw_below_drewN | apply below_drew1 | refine below_set ?_ GE238.out) | exact HB.out))) : w.heap.size ≤ gb252)); have n5_ := Aside0.mk ((by rw [hg]; exact (below_size (by repeat (first | (with_reducible first | exact HB.out | apply below_alloc | apply pw_below_drewN | apply below_drew1 | refine below_set ?_ GE238.out) | exact HB.out))) : w.heap.size ≤ gb252)); have n6_ := Aside0.mk ((by rw [hg]; exact Nat.ne_of_lt (blk_lt (g := gb238) (o := .cells #[.int .i64 a3_0, .int .i64 a3_1, .int .i64 a3_2, .int .i64 a3_3, .int .i64 a3_4, .int .u32 a3_5, .int .u32 a3_6] 29 (0, 0)) (by (with_reducible repeat (first | refine blk_drewN ?_ _ | refine blk_drew ?_ | refine blk_alloc ?_ _)); exact BK238.out)) : gb238 ≠ gb252)); have n7_ := Aside0.mk ((by rw [hg]; exact Nat.ne_of_gt (blk_lt (g := gb238) (o := .cells #[.int .i64 a3_0, .int .i64 a3_1, .int .i64 a3_2, .int .i64 a3_3, .int .i64 a3_4, .int .u32 a3_5, .int .u32 a3_6] 29 (0, 0)) (by (with_reducible repeat (first | refine blk_drewN ?_ _ | refine blk_drew ?_ | refine blk_alloc ?_ _)); exact BK238.out)) : gb252 ≠ gb238)); clear HO_18; clear BK238; clear HB; have HO_18 := n0_; have BK238 := n1_; have HB := n2_; have BK252 := n3_; have GW252 := n4_; have GE252 := n5_; have NB238_252 := n6_; have NB252_238 := n7_; clear n0_ n1_ n2_ n3_ n4_ n5_ n6_ n7_; clear hb hbox hg; have hnb47 := NB252_238.out; have hnc47 := NB238_252.out; have hcz48_0 : w46.cell? ⟨gb252, 0, none⟩ = some (.int .i64 0) := (blk_cell BK252.out 0).trans rfl; have hcz48_1 : w46.cell? ⟨gb252, 1, none⟩ = some (.int .i64 0) := (blk_cell BK252.out 1).trans rfl; have hcz48_2 : w46.cell? ⟨gb252, 2, none⟩ = some (.int .i64 0) := (blk_cell BK252.out 2).trans rfl; have hcz48_3 : w46.cell? ⟨gb252, 3, none⟩ = some (.int .i64 0) := (blk_cell BK252.out 3).trans rfl; have hcz48_4 : w46.cell? ⟨gb252, 4, none⟩ = some (.int .i64 0) := (blk_cell BK252.out 4).trans rfl; have hcz48_5 : w46.cell? ⟨gb252, 5, none⟩ = some (.int .u32 0) := (blk_cell BK252.out 5).trans rfl; have hfz48_0 := blk_frozen BK252.out 0; have hfz48_1 := blk_frozen BK252.out 1; have hfz48_2 := blk_frozen BK252.out 2; have hfz48_3 := blk_frozen BK252.out 3; have hfz48_4 := blk_frozen BK252.out 4; have hfz48_5 := blk_frozen BK252.out 5) | ((with_reducible refine gate_callee (f := 12) rfl ?_); refine goesL_ (some 42) rfl rfl Try.func12 (by kernel_rfl) rfl #[.agg #[.int .i64 t246, .int .i64 t247, .int .i64 t248, .int .i64 t249, .int .i64 t250, .int .u32 t251]] rfl (by (try simp only [List.map_toArray, List.map_cons, List.map_nil]); first | done | rfl | (simp only [List.length_drop, List.length_take]; rfl)) ?_; (with_reducible refine (branch_Links.calls k1 t246 t247 t248 t249 t250 t251 t253 true _ A30.out).mono ?_); rintro e w49 ⟨rfl, hb⟩; refine ⟨_, rfl, ?_⟩; have n0_ := Aside0.mk (Kd.R_below (by (with_reducible repeat (first | apply Kd.R_alloc | apply Kd.R_drewN | apply Kd.R_drew)); exact (Kd.R_mono (Kd.R_far (p := ⟨gb252, 5, none⟩) (Kd.R_far (p := ⟨gb252, 4, none⟩) (Kd.R_far (p := ⟨gb252, 3, none⟩) (Kd.R_far (p := ⟨gb252, 2, none⟩) (Kd.R_far (p := ⟨gb252, 1, none⟩) (Kd.R_far (p := ⟨gb252, 0, none⟩) (Kd.R_types HO_18.out BK252.out (by decide)) (fun _ hk => hk.2) (.int .i64 t246)) (fun _ hk => hk.2) (.int .i64 t247)) (fun _ hk => hk.2) (.int .i64 t248)) (fun _ hk => hk.2) (.int .i64 t249)) (fun _ hk => hk.2) (.int .i64 t250)) (fun _ hk => hk.2) (.int .u32 t251)) (fun _ h_ => h_.1))) hb); have n1_ := Aside0.mk (blk_below (g := gb238) (o := .cells #[.int .i64 a3_0, .int .i64 a3_1, .int .i64 a3_2, .int .i64 a3_3, .int .i64 a3_4, .int .u32 a3_5, .int .u32 a3_6] 29 (0, 0)) (by (with_reducible repeat (first | refine blk_drewN ?_ _ | refine blk_drew ?_ | refine blk_alloc ?_ _)); refine blk_far ?_ NB238_252.out _; (with_reducible repeat (first | refine blk_drewN ?_ _ | refine blk_drew ?_ | refine blk_alloc ?_ _)); refine blk_far ?_ NB238_252.out _; (with_reducible repeat (first | refine blk_drewN ?_ _ | refine blk_drew ?_ | refine blk_alloc ?_ _)); refine blk_far ?_ NB238_252.out _; (with_reducible repeat (first | refine blk_drewN ?_ _ | refine blk_drew ?_ | refine blk_alloc ?_ _)); refine blk_far ?_ NB238_252.out _; (with_reducible repeat (first | refine blk_drewN ?_ _ | refine blk_drew ?_ | refine blk_alloc ?_ _)); refine blk_far ?_ NB238_252.out _; (with_reducible repeat (first | refine blk_drewN ?_ _ | refine blk_drew ?_ | refine blk_alloc ?_ _)); refine blk_far ?_ NB238_252.out _; (with_reducible repeat (first | refine blk_drewN ?_ _ | refine blk_drew ?_ | refine blk_alloc ?_ _)); exact BK238.out) hb); have n2_ := Aside0.mk (blk_below (g := gb252) (o := .cells #[.int .i64 t246, .int .i64 t247, .int .i64 t248, .int .i64 t249, .int .i64 t250, .int .u32 t251] 26 (0, 0)) (by (with_reducible repeat (first | refine blk_drewN ?_ _ | refine blk_drew ?_ | refine blk_alloc ?_ _)); refine blk_put (cs := #[.int .i64 t246, .int .i64 t247, .int .i64 t248, .int .i64 t249, .int .i64 t250, .int .u32 0]) ?_ 5 _ rfl; (with_reducible repeat (first | refine blk_drewN ?_ _ | refine blk_drew ?_ | refine blk_alloc ?_ _)); refine blk_put (cs := #[.int .i64 t246, .int .i64 t247, .int .i64 t248, .int .i64 t249, .int .i64 0, .int .u32 0]) ?_ 4 _ rfl; (with_reducible repeat (first | refine blk_drewN ?_ _ | refine blk_drew ?_ | refine blk_alloc ?_ _)); refine blk_put (cs := #[.int .i64 t246, .int .i64 t247, .int .i64 t248, .int .i64 0, .int .i64 0, .int .u32 0]) ?_ 3 _ rfl; (with_reducible repeat (first | refine blk_drewN ?_ _ | refine blk_drew ?_ | refine blk_alloc ?_ _)); refine blk_put (cs := #[.int .i64 t246, .int .i64 t247, .int .i64 0, .int .i64 0, .int .i64 0, .int .u32 0]) ?_ 2 _ rfl; (with_reducible repeat (first | refine blk_drewN ?_ _ | refine blk_drew ?_ | refine blk_alloc ?_ _)); refine blk_put (cs := #[.int .i64 t246, .int .i64 0, .int .i64 0, .int .i64 0, .int .i64 0, .int .u32 0]) ?_ 1 _ rfl; (with_reducible repeat (first | refine blk_drewN ?_ _ | refine blk_drew ?_ | refine blk_alloc ?_ _)); refine blk_put (cs := #[.int .i64 0, .int .i64 0, .int .i64 0, .int .i64 0, .int .i64 0, .int .u32 0]) ?_ 0 _ rfl; (with_reducible repeat (first | refine blk_drewN ?_ _ | refine blk_drew ?_ | refine blk_alloc ?_ _)); exact BK252.out) hb); have n3_ := Aside0.mk (below_step (by repeat (first | (with_reducible first | exact HB.out | apply below_alloc | apply pw_below_drewN | apply below_drew1 | refine below_set ?_ GE238.out | refine below_set ?_ GE252.out) | exact HB.out)) hb); clear HO_18; clear BK238; clear BK252; clear HB; have HO_18 := n0_; have BK238 := n1_; have BK252 := n2_; have HB := n3_; clear n0_ n1_ n2_ n3_; (try clear hb); (try clear hb2); (try clear hk); (try clear hi); have hcz50_0 : w49.cell? ⟨gb252, 0, none⟩ = some (.int .i64 t246) := (blk_cell BK252.out 0).trans rfl; have hcz50_1 : w49.cell? ⟨gb252, 1, none⟩ = some (.int .i64 t247) := (blk_cell BK252.out 1).trans rfl; have hcz50_2 : w49.cell? ⟨gb252, 2, none⟩ = some (.int .i64 t248) := (blk_cell BK252.out 2).trans rfl; have hcz50_3 : w49.cell? ⟨gb252, 3, none⟩ = some (.int .i64 t249) := (blk_cell BK252.out 3).trans rfl; have hcz50_4 : w49.cell? ⟨gb252, 4, none⟩ = some (.int .i64 t250) := (blk_cell BK252.out 4).trans rfl; have hcz50_5 : w49.cell? ⟨gb252, 5, none⟩ = some (.int .u32 t251) := (blk_cell BK252.out 5).trans rfl; have hfz50_0 := blk_frozen BK252.out 0; have hfz50_1 := blk_frozen BK252.out 1; have hfz50_2 := blk_frozen BK252.out 2; have hfz50_3 := blk_frozen BK252.out 3; have hfz50_4 := blk_frozen BK252.out 4; have hfz50_5 := blk_frozen BK252.out 5) | ((with_reducible refine gate_callee (f := 10) rfl ?_); refine goesL_ (some 48) rfl rfl Try.func10 (by kernel_rfl) rfl #[.agg #[.int .i64 t246, .int .i64 t247, .int .i64 t248, .int .i64 t249, .int .i64 t250, .int .u32 t251], .int .u32 a1, .int .u32 a2] rfl (by (try simp only [List.map_toArray, List.map_cons, List.map_nil]); first | done | rfl | (simp only [List.length_drop, List.length_take]; rfl)) ?_; (with_reducible refine (branch_Taken.calls k1 t246 t247 t248 t249 t250 t251 a1 a2 false _ A31.out).mono ?_); rintro e w51 ⟨rfl, hb⟩; refine ⟨_, rfl, ?_⟩; have n0_ := Aside0.mk (Kd.R_below (by (with_reducible repeat (first | apply Kd.R_alloc | apply Kd.R_drewN | apply Kd.R_drew)); exact HO_18.out) hb); have n1_ := Aside0.mk (blk_below (g := gb238) (o := .cells #[.int .i64 a3_0, .int .i64 a3_1, .int .i64 a3_2, .int .i64 a3_3, .int .i64 a3_4, .int .u32 a3_5, .int .u32 a3_6] 29 (0, 0)) (by (with_reducible repeat (first | refine blk_drewN ?_ _ | refine blk_drew ?_ | refine blk_alloc ?_ _)); exact BK238.out) hb); have n2_ := Aside0.mk (blk_below (g := gb252) (o := .cells #[.int .i64 t246, .int .i64 t247, .int .i64 t248, .int .i64 t249, .int .i64 t250, .int .u32 t251] 26 (0, 0)) (by (with_reducible repeat (first | refine blk_drewN ?_ _ | refine blk_drew ?_ | refine blk_alloc ?_ _)); exact BK252.out) hb); have n3_ := Aside0.mk (below_step (by repeat (first | (with_reducible first | exact HB.out | apply below_alloc | apply pw_below_drewN | apply below_drew1 | refine below_set ?_ GE238.out | refine below_set ?_ GE252.out) | exact HB.out)) hb); clear HO_18; clear BK238; clear BK252; clear HB; have HO_18 := n0_; have BK238 := n1_; have BK252 := n2_; have HB := n3_; clear n0_ n1_ n2_ n3_; (try clear hb); (try clear hb2); (try clear hk); (try clear hi); have hcz52_0 : w51.cell? ⟨gb252, 0, none⟩ = some (.int .i64 t246) := (blk_cell BK252.out 0).trans rfl; have hcz52_1 : w51.cell? ⟨gb252, 1, none⟩ = some (.int .i64 t247) := (blk_cell BK252.out 1).trans rfl; have hcz52_2 : w51.cell? ⟨gb252, 2, none⟩ = some (.int .i64 t248) := (blk_cell BK252.out 2).trans rfl; have hcz52_3 : w51.cell? ⟨gb252, 3, none⟩ = some (.int .i64 t249) := (blk_cell BK252.out 3).trans rfl; have hcz52_4 : w51.cell? ⟨gb252, 4, none⟩ = some (.int .i64 t250) := (blk_cell BK252.out 4).trans rfl; have hcz52_5 : w51.cell? ⟨gb252, 5, none⟩ = some (.int .u32 t251) := (blk_cell BK252.out 5).trans rfl; have hfz52_0 := blk_frozen BK252.out 0; have hfz52_1 := blk_frozen BK252.out 1; have hfz52_2 := blk_frozen BK252.out 2; have hfz52_3 := blk_frozen BK252.out 3; have hfz52_4 := blk_frozen BK252.out 4; have hfz52_5 := blk_frozen BK252.out 5) | (go_at_call 13; (with_reducible refine (branch_Target.calls k1 t246 t247 t248 t249 t250 t251 a0 a1 t256 _ A41.out).mono ?_); rintro e w53 ⟨rfl, hb⟩; have n0_ := Aside0.mk (Kd.R_below (by (with_reducible repeat (first | apply Kd.R_alloc | apply Kd.R_drewN | apply Kd.R_drew)); exact HO_18.out) hb); have n1_ := Aside0.mk (blk_below (g := gb238) (o := .cells #[.int .i64 a3_0, .int .i64 a3_1, .int .i64 a3_2, .int .i64 a3_3, .int .i64 a3_4, .int .u32 a3_5, .int .u32 a3_6] 29 (0, 0)) (by (with_reducible repeat (first | refine blk_drewN ?_ _ | refine blk_drew ?_ | refine blk_alloc ?_ _)); exact BK238.out) hb); have n2_ := Aside0.mk (blk_below (g := gb252) (o := .cells #[.int .i64 t246, .int .i64 t247, .int .i64 t248, .int .i64 t249, .int .i64 t250, .int .u32 t251] 26 (0, 0)) (by (with_reducible repeat (first | refine blk_drewN ?_ _ | refine blk_drew ?_ | refine blk_alloc ?_ _)); exact BK252.out) hb); have n3_ := Aside0.mk (below_step (by repeat (first | (with_reducible first | exact HB.out | apply below_alloc | apply pw_below_drewN | apply below_drew1 | refine below_set ?_ GE238.out | refine below_set ?_ GE252.out) | exact HB.out)) hb); clear HO_18; clear BK238; clear BK252; clear HB; have HO_18 := n0_; have BK238 := n1_; have BK252 := n2_; have HB := n3_; clear n0_ n1_ n2_ n3_; (try clear hb); (try clear hb2); (try clear hk); (try clear hi)))
              go_ret
              exact ⟨by first | rfl | (simp [errW_none, errW_some] <;> rfl) | (simp [*, errW_none, errW_some] <;> rfl), by repeat (first | (with_reducible first | exact HB.out | apply below_alloc | apply pw_below_drewN | apply below_drew1 | refine below_set ?_ GE238.out | refine below_set ?_ GE252.out) | exact HB.out)⟩
            · replace c43 := Bool.eq_false_iff.mpr c43
              subst c43
              have H1 : ((pianolalaw5_known.f k1).bind fun t257 => (some t257)) = some r := by rw [if_neg (show ¬ (false = true) by decide)] at H; exact H
              clear H
              have H := H1
              clear H1
              replace H := Option.bind_eq_some_iff.mp H
              obtain ⟨t257, A540, H⟩ := H
              replace H : (some t257) = some r := H
              have A54 := Aside0.mk A540
              clear A540
              obtain rfl := Option.some.inj H
              have hcz55_0 : wr.cell? ⟨gb238, 0, none⟩ = some (.int .i64 a3_0) := (blk_cell BK238.out 0).trans rfl
              have hcz55_1 : wr.cell? ⟨gb238, 1, none⟩ = some (.int .i64 a3_1) := (blk_cell BK238.out 1).trans rfl
              have hcz55_2 : wr.cell? ⟨gb238, 2, none⟩ = some (.int .i64 a3_2) := (blk_cell BK238.out 2).trans rfl
              have hcz55_3 : wr.cell? ⟨gb238, 3, none⟩ = some (.int .i64 a3_3) := (blk_cell BK238.out 3).trans rfl
              have hcz55_4 : wr.cell? ⟨gb238, 4, none⟩ = some (.int .i64 a3_4) := (blk_cell BK238.out 4).trans rfl
              have hcz55_5 : wr.cell? ⟨gb238, 5, none⟩ = some (.int .u32 a3_5) := (blk_cell BK238.out 5).trans rfl
              have hcz55_6 : wr.cell? ⟨gb238, 6, none⟩ = some (.int .u32 a3_6) := (blk_cell BK238.out 6).trans rfl
              have hfz55_0 := blk_frozen BK238.out 0
              have hfz55_1 := blk_frozen BK238.out 1
              have hfz55_2 := blk_frozen BK238.out 2
              have hfz55_3 := blk_frozen BK238.out 3
              have hfz55_4 := blk_frozen BK238.out 4
              have hfz55_5 := blk_frozen BK238.out 5
              have hfz55_6 := blk_frozen BK238.out 6
              go_wp2_with (first | ((with_reducible refine gate_callee (f := 11) rfl ?_); refine goesL_ (some 39) rfl rfl Try.func11 (by kernel_rfl) rfl #[.agg #[.int .i64 a3_0, .int .i64 a3_1, .int .i64 a3_2, .int .i64 a3_3, .int .i64 a3_4, .int .u32 a3_5, .int .u32 a3_6]] rfl (by (try simp only [List.map_toArray, List.map_cons, List.map_nil]); first | done | rfl | (simp only [List.length_drop, List.length_take]; rfl)) ?_; (with_reducible refine (pianolakeep_Plain.calls k1 a3_0 a3_1 a3_2 a3_3 a3_4 a3_5 a3_6 t246 t247 t248 t249 t250 t251 _ A29.out).mono ?_); rintro e w56 ⟨rfl, hb⟩; refine ⟨_, rfl, ?_⟩; have n0_ := Aside0.mk (Kd.R_below (by (with_reducible repeat (first | apply Kd.R_alloc | apply Kd.R_drewN | apply Kd.R_drew)); exact HO_18.out) hb); have n1_ := Aside0.mk (blk_below (g := gb238) (o := .cells #[.int .i64 a3_0, .int .i64 a3_1, .int .i64 a3_2, .int .i64 a3_3, .int .i64 a3_4, .int .u32 a3_5, .int .u32 a3_6] 29 (0, 0)) (by (with_reducible repeat (first | refine blk_drewN ?_ _ | refine blk_drew ?_ | refine blk_alloc ?_ _)); exact BK238.out) hb); have n2_ := Aside0.mk (below_step (by repeat (first | (with_reducible first | exact HB.out | apply below_alloc | apply pw_below_drewN | apply below_drew1 | refine below_set ?_ GE238.out) | exact HB.out)) hb); clear HO_18; clear BK238; clear HB; have HO_18 := n0_; have BK238 := n1_; have HB := n2_; clear n0_ n1_ n2_; (try clear hb); (try clear hb2); (try clear hk); (try clear hi)) | ((with_reducible refine gate_dst (N := 11) rfl ?_); refine box_event ?hg (N := 11) ?hd (cs := #[.int .i64 0, .int .i64 0, .int .i64 0, .int .i64 0, .int .i64 0, .int .u32 0]) (t := 26) ?hr ?_; (case hd => rfl); (case hg => rfl); (case hr => first | (go_simp; done) | (go_simp; rfl)); intro gb252 hg w57 hbox hb; have n0_ := Aside0.mk (Kd.R_below (by (with_reducible repeat (first | apply Kd.R_alloc | apply Kd.R_drewN | apply Kd.R_drew)); exact HO_18.out) hb); have n1_ := Aside0.mk (blk_below (g := gb238) (o := .cells #[.int .i64 a3_0, .int .i64 a3_1, .int .i64 a3_2, .int .i64 a3_3, .int .i64 a3_4, .int .u32 a3_5, .int .u32 a3_6] 29 (0, 0)) (by (with_reducible repeat (first | refine blk_drewN ?_ _ | refine blk_drew ?_ | refine blk_alloc ?_ _)); exact BK238.out) hb); have n2_ := Aside0.mk (below_step (by repeat (first | (with_reducible first | exact HB.out | apply below_alloc | apply pw_below_drewN | apply below_drew1 | refine below_set ?_ GE238.out) | exact HB.out)) hb); have n3_ := Aside0.mk (hbox); have n4_ := Aside0.mk ((by rw [hg]; exact (below_size (by repeat (first | (with_reducible first | exact HB.out | apply below_alloc | apply pw_below_drewN | apply below_drew1 | refine below_set ?_ GE238.out) | exact HB.out))) : w.heap.size ≤ gb252)); have n5_ := Aside0.mk ((by rw [hg]; exact (below_size (by repeat (first | (with_reducible first | exact HB.out | apply below_alloc | apply pw_below_drewN | apply below_drew1 | refine below_set ?_ GE238.out) | exact HB.out))) : w.heap.size ≤ gb252)); have n6_ := Aside0.mk ((by rw [hg]; exact Nat.ne_of_lt (blk_lt (g := gb238) (o := .cells #[.int .i64 a3_0, .int .i64 a3_1, .int .i64 a3_2, .int .i64 a3_3, .int .i64 a3_4, .int .u32 a3_5, .int .u32 a3_6] 29 (0, 0)) (by (with_reducible repeat (first | refine blk_drewN ?_ _ | refine blk_drew ?_ | refine blk_alloc ?_ _)); exact BK238.out)) : gb238 ≠ gb252)); have n7_ := Aside0.mk ((by rw [hg]; exact Nat.ne_of_gt (blk_lt (g := gb238) (o := .cells #[.int .i64 a3_0, .int .i64 a3_1, .int .i64 a3_2, .int .i64 a3_3, .int .i64 a3_4, .int .u32 a3_5, .int .u32 a3_6] 29 (0, 0)) (by (with_reducible repeat (first | refine blk_drewN ?_ _ | refine blk_drew ?_ | refine blk_alloc ?_ _)); exact BK238.out)) : gb252 ≠ gb238)); clear HO_18; clear BK238; clear HB; have HO_18 := n0_; have BK238 := n1_; have HB := n2_; have BK252 := n3_; have GW252 := n4_; have GE252 := n5_; have NB238_252 := n6_; have NB252_238 := n7_; clear n0_ n1_ n2_ n3_ n4_ n5_ n6_ n7_; clear hb hbox hg; have hnb58 := NB252_238.out; have hnc58 := NB238_252.out; have hcz59_0 : w57.cell? ⟨gb252, 0, none⟩ = some (.int .i64 0) := (blk_cell BK252.out 0).trans rfl; have hcz59_1 : w57.cell? ⟨gb252, 1, none⟩ = some (.int .i64 0) := (blk_cell BK252.out 1).trans rfl; have hcz59_2 : w57.cell? ⟨gb252, 2, none⟩ = some (.int .i64 0) := (blk_cell BK252.out 2).trans rfl; have hcz59_3 : w57.cell? ⟨gb252, 3, none⟩ = some (.int .i64 0) := (blk_cell BK252.out 3).trans rfl; have hcz59_4 : w57.cell? ⟨gb252, 4, none⟩ = some (.int .i64 0) := (blk_cell BK252.out 4).trans rfl; have hcz59_5 : w57.cell? ⟨gb252, 5, none⟩ = some (.int .u32 0) := (blk_cell BK252.out 5).trans rfl; have hfz59_0 := blk_frozen BK252.out 0; have hfz59_1 := blk_frozen BK252.out 1; have hfz59_2 := blk_frozen BK252.out 2; have hfz59_3 := blk_frozen BK252.out 3; have hfz59_4 := blk_frozen BK252.out 4; have hfz59_5 := blk_frozen BK252.out 5) | ((with_reducible refine gate_callee (f := 12) rfl ?_); refine goesL_ (some 42) rfl rfl Try.func12 (by kernel_rfl) rfl #[.agg #[.int .i64 t246, .int .i64 t247, .int .i64 t248, .int .i64 t249, .int .i64 t250, .int .u32 t251]] rfl (by (try simp only [List.map_toArray, List.map_cons, List.map_nil]); first | done | rfl | (simp only [List.length_drop, List.length_take]; rfl)) ?_; (with_reducible refine (branch_Links.calls k1 t246 t247 t248 t249 t250 t251 t253 false _ A30.out).mono ?_); rintro e w60 ⟨rfl, hb⟩; refine ⟨_, rfl, ?_⟩; have n0_ := Aside0.mk (Kd.R_below (by (with_reducible repeat (first | apply Kd.R_alloc | apply Kd.R_drewN | apply Kd.R_drew)); exact (Kd.R_mono (Kd.R_far (p := ⟨gb252, 5, none⟩) (Kd.R_far (p := ⟨gb252, 4, none⟩) (Kd.R_far (p := ⟨gb252, 3, none⟩) (Kd.R_far (p := ⟨gb252, 2, none⟩) (Kd.R_far (p := ⟨gb252, 1, none⟩) (Kd.R_far (p := ⟨gb252, 0, none⟩) (Kd.R_types HO_18.out BK252.out (by decide)) (fun _ hk => hk.2) (.int .i64 t246)) (fun _ hk => hk.2) (.int .i64 t247)) (fun _ hk => hk.2) (.int .i64 t248)) (fun _ hk => hk.2) (.int .i64 t249)) (fun _ hk => hk.2) (.int .i64 t250)) (fun _ hk => hk.2) (.int .u32 t251)) (fun _ h_ => h_.1))) hb); have n1_ := Aside0.mk (blk_below (g := gb238) (o := .cells #[.int .i64 a3_0, .int .i64 a3_1, .int .i64 a3_2, .int .i64 a3_3, .int .i64 a3_4, .int .u32 a3_5, .int .u32 a3_6] 29 (0, 0)) (by (with_reducible repeat (first | refine blk_drewN ?_ _ | refine blk_drew ?_ | refine blk_alloc ?_ _)); refine blk_far ?_ NB238_252.out _; (with_reducible repeat (first | refine blk_drewN ?_ _ | refine blk_drew ?_ | refine blk_alloc ?_ _)); refine blk_far ?_ NB238_252.out _; (with_reducible repeat (first | refine blk_drewN ?_ _ | refine blk_drew ?_ | refine blk_alloc ?_ _)); refine blk_far ?_ NB238_252.out _; (with_reducible repeat (first | refine blk_drewN ?_ _ | refine blk_drew ?_ | refine blk_alloc ?_ _)); refine blk_far ?_ NB238_252.out _; (with_reducible repeat (first | refine blk_drewN ?_ _ | refine blk_drew ?_ | refine blk_alloc ?_ _)); refine blk_far ?_ NB238_252.out _; (with_reducible repeat (first | refine blk_drewN ?_ _ | refine blk_drew ?_ | refine blk_alloc ?_ _)); refine blk_far ?_ NB238_252.out _; (with_reducible repeat (first | refine blk_drewN ?_ _ | refine blk_drew ?_ | refine blk_alloc ?_ _)); exact BK238.out) hb); have n2_ := Aside0.mk (blk_below (g := gb252) (o := .cells #[.int .i64 t246, .int .i64 t247, .int .i64 t248, .int .i64 t249, .int .i64 t250, .int .u32 t251] 26 (0, 0)) (by (with_reducible repeat (first | refine blk_drewN ?_ _ | refine blk_drew ?_ | refine blk_alloc ?_ _)); refine blk_put (cs := #[.int .i64 t246, .int .i64 t247, .int .i64 t248, .int .i64 t249, .int .i64 t250, .int .u32 0]) ?_ 5 _ rfl; (with_reducible repeat (first | refine blk_drewN ?_ _ | refine blk_drew ?_ | refine blk_alloc ?_ _)); refine blk_put (cs := #[.int .i64 t246, .int .i64 t247, .int .i64 t248, .int .i64 t249, .int .i64 0, .int .u32 0]) ?_ 4 _ rfl; (with_reducible repeat (first | refine blk_drewN ?_ _ | refine blk_drew ?_ | refine blk_alloc ?_ _)); refine blk_put (cs := #[.int .i64 t246, .int .i64 t247, .int .i64 t248, .int .i64 0, .int .i64 0, .int .u32 0]) ?_ 3 _ rfl; (with_reducible repeat (first | refine blk_drewN ?_ _ | refine blk_drew ?_ | refine blk_alloc ?_ _)); refine blk_put (cs := #[.int .i64 t246, .int .i64 t247, .int .i64 0, .int .i64 0, .int .i64 0, .int .u32 0]) ?_ 2 _ rfl; (with_reducible repeat (first | refine blk_drewN ?_ _ | refine blk_drew ?_ | refine blk_alloc ?_ _)); refine blk_put (cs := #[.int .i64 t246, .int .i64 0, .int .i64 0, .int .i64 0, .int .i64 0, .int .u32 0]) ?_ 1 _ rfl; (with_reducible repeat (first | refine blk_drewN ?_ _ | refine blk_drew ?_ | refine blk_alloc ?_ _)); refine blk_put (cs := #[.int .i64 0, .int .i64 0, .int .i64 0, .int .i64 0, .int .i64 0, .int .u32 0]) ?_ 0 _ rfl; (with_reducible repeat (first | refine blk_drewN ?_ _ | refine blk_drew ?_ | refine blk_alloc ?_ _)); exact BK252.out) hb); have n3_ := Aside0.mk (below_step (by repeat (first | (with_reducible first | exact HB.out | apply below_alloc | apply pw_below_drewN | apply below_drew1 | refine below_set ?_ GE238.out | refine below_set ?_ GE252.out) | exact HB.out)) hb); clear HO_18; clear BK238; clear BK252; clear HB; have HO_18 := n0_; have BK238 := n1_; have BK252 := n2_; have HB := n3_; clear n0_ n1_ n2_ n3_; (try clear hb); (try clear hb2); (try clear hk); (try clear hi); have hcz61_0 : w60.cell? ⟨gb252, 0, none⟩ = some (.int .i64 t246) := (blk_cell BK252.out 0).trans rfl; have hcz61_1 : w60.cell? ⟨gb252, 1, none⟩ = some (.int .i64 t247) := (blk_cell BK252.out 1).trans rfl; have hcz61_2 : w60.cell? ⟨gb252, 2, none⟩ = some (.int .i64 t248) := (blk_cell BK252.out 2).trans rfl; have hcz61_3 : w60.cell? ⟨gb252, 3, none⟩ = some (.int .i64 t249) := (blk_cell BK252.out 3).trans rfl; have hcz61_4 : w60.cell? ⟨gb252, 4, none⟩ = some (.int .i64 t250) := (blk_cell BK252.out 4).trans rfl; have hcz61_5 : w60.cell? ⟨gb252, 5, none⟩ = some (.int .u32 t251) := (blk_cell BK252.out 5).trans rfl; have hfz61_0 := blk_frozen BK252.out 0; have hfz61_1 := blk_frozen BK252.out 1; have hfz61_2 := blk_frozen BK252.out 2; have hfz61_3 := blk_frozen BK252.out 3; have hfz61_4 := blk_frozen BK252.out 4; have hfz61_5 := blk_frozen BK252.out 5) | ((with_reducible refine gate_callee (f := 10) rfl ?_); refine goesL_ (some 48) rfl rfl Try.func10 (by kernel_rfl) rfl #[.agg #[.int .i64 t246, .int .i64 t247, .int .i64 t248, .int .i64 t249, .int .i64 t250, .int .u32 t251], .int .u32 a1, .int .u32 a2] rfl (by (try simp only [List.map_toArray, List.map_cons, List.map_nil]); first | done | rfl | (simp only [List.length_drop, List.length_take]; rfl)) ?_; (with_reducible refine (branch_Taken.calls k1 t246 t247 t248 t249 t250 t251 a1 a2 false _ A31.out).mono ?_); rintro e w62 ⟨rfl, hb⟩; refine ⟨_, rfl, ?_⟩; have n0_ := Aside0.mk (Kd.R_below (by (with_reducible repeat (first | apply Kd.R_alloc | apply Kd.R_drewN | apply Kd.R_drew)); exact HO_18.out) hb); have n1_ := Aside0.mk (blk_below (g := gb238) (o := .cells #[.int .i64 a3_0, .int .i64 a3_1, .int .i64 a3_2, .int .i64 a3_3, .int .i64 a3_4, .int .u32 a3_5, .int .u32 a3_6] 29 (0, 0)) (by (with_reducible repeat (first | refine blk_drewN ?_ _ | refine blk_drew ?_ | refine blk_alloc ?_ _)); exact BK238.out) hb); have n2_ := Aside0.mk (blk_below (g := gb252) (o := .cells #[.int .i64 t246, .int .i64 t247, .int .i64 t248, .int .i64 t249, .int .i64 t250, .int .u32 t251] 26 (0, 0)) (by (with_reducible repeat (first | refine blk_drewN ?_ _ | refine blk_drew ?_ | refine blk_alloc ?_ _)); exact BK252.out) hb); have n3_ := Aside0.mk (below_step (by repeat (first | (with_reducible first | exact HB.out | apply below_alloc | apply pw_below_drewN | apply below_drew1 | refine below_set ?_ GE238.out | refine below_set ?_ GE252.out) | exact HB.out)) hb); clear HO_18; clear BK238; clear BK252; clear HB; have HO_18 := n0_; have BK238 := n1_; have BK252 := n2_; have HB := n3_; clear n0_ n1_ n2_ n3_; (try clear hb); (try clear hb2); (try clear hk); (try clear hi); have hcz63_0 : w62.cell? ⟨gb252, 0, none⟩ = some (.int .i64 t246) := (blk_cell BK252.out 0).trans rfl; have hcz63_1 : w62.cell? ⟨gb252, 1, none⟩ = some (.int .i64 t247) := (blk_cell BK252.out 1).trans rfl; have hcz63_2 : w62.cell? ⟨gb252, 2, none⟩ = some (.int .i64 t248) := (blk_cell BK252.out 2).trans rfl; have hcz63_3 : w62.cell? ⟨gb252, 3, none⟩ = some (.int .i64 t249) := (blk_cell BK252.out 3).trans rfl; have hcz63_4 : w62.cell? ⟨gb252, 4, none⟩ = some (.int .i64 t250) := (blk_cell BK252.out 4).trans rfl; have hcz63_5 : w62.cell? ⟨gb252, 5, none⟩ = some (.int .u32 t251) := (blk_cell BK252.out 5).trans rfl; have hfz63_0 := blk_frozen BK252.out 0; have hfz63_1 := blk_frozen BK252.out 1; have hfz63_2 := blk_frozen BK252.out 2; have hfz63_3 := blk_frozen BK252.out 3; have hfz63_4 := blk_frozen BK252.out 4; have hfz63_5 := blk_frozen BK252.out 5) | (go_at_call 13; (with_reducible refine (branch_Target.calls k1 t246 t247 t248 t249 t250 t251 a0 a1 t256 _ A41.out).mono ?_); rintro e w64 ⟨rfl, hb⟩; have n0_ := Aside0.mk (Kd.R_below (by (with_reducible repeat (first | apply Kd.R_alloc | apply Kd.R_drewN | apply Kd.R_drew)); exact HO_18.out) hb); have n1_ := Aside0.mk (blk_below (g := gb238) (o := .cells #[.int .i64 a3_0, .int .i64 a3_1, .int .i64 a3_2, .int .i64 a3_3, .int .i64 a3_4, .int .u32 a3_5, .int .u32 a3_6] 29 (0, 0)) (by (with_reducible repeat (first | refine blk_drewN ?_ _ | refine blk_drew ?_ | refine blk_alloc ?_ _)); exact BK238.out) hb); have n2_ := Aside0.mk (blk_below (g := gb252) (o := .cells #[.int .i64 t246, .int .i64 t247, .int .i64 t248, .int .i64 t249, .int .i64 t250, .int .u32 t251] 26 (0, 0)) (by (with_reducible repeat (first | refine blk_drewN ?_ _ | refine blk_drew ?_ | refine blk_alloc ?_ _)); exact BK252.out) hb); have n3_ := Aside0.mk (below_step (by repeat (first | (with_reducible first | exact HB.out | apply below_alloc | apply pw_below_drewN | apply below_drew1 | refine below_set ?_ GE238.out | refine below_set ?_ GE252.out) | exact HB.out)) hb); clear HO_18; clear BK238; clear BK252; clear HB; have HO_18 := n0_; have BK238 := n1_; have BK252 := n2_; have HB := n3_; clear n0_ n1_ n2_ n3_; (try clear hb); (try clear hb2); (try clear hk); (try clear hi)) | (go_at_call 8; (with_reducible refine (pianolalaw5_known.calls k1  t257 _ A54.out).mono ?_); rintro e w65 ⟨rfl, hb⟩; have n0_ := Aside0.mk (Kd.R_below (by (with_reducible repeat (first | apply Kd.R_alloc | apply Kd.R_drewN | apply Kd.R_drew)); exact HO_18.out) hb); have n1_ := Aside0.mk (blk_below (g := gb238) (o := .cells #[.int .i64 a3_0, .int .i64 a3_1, .int .i64 a3_2, .int .i64 a3_3, .int .i64 a3_4, .int .u32 a3_5, .int .u32 a3_6] 29 (0, 0)) (by (with_reducible repeat (first | refine blk_drewN ?_ _ | refine blk_drew ?_ | refine blk_alloc ?_ _)); exact BK238.out) hb); have n2_ := Aside0.mk (blk_below (g := gb252) (o := .cells #[.int .i64 t246, .int .i64 t247, .int .i64 t248, .int .i64 t249, .int .i64 t250, .int .u32 t251] 26 (0, 0)) (by (with_reducible repeat (first | refine blk_drewN ?_ _ | refine blk_drew ?_ | refine blk_alloc ?_ _)); exact BK252.out) hb); have n3_ := Aside0.mk (below_step (by repeat (first | (with_reducible first | exact HB.out | apply below_alloc | apply pw_below_drewN | apply below_drew1 | refine below_set ?_ GE238.out | refine below_set ?_ GE252.out) | exact HB.out)) hb); clear HO_18; clear BK238; clear BK252; clear HB; have HO_18 := n0_; have BK238 := n1_; have BK252 := n2_; have HB := n3_; clear n0_ n1_ n2_ n3_; (try clear hb); (try clear hb2); (try clear hk); (try clear hi)))
              go_ret
              exact ⟨by first | rfl | (simp [errW_none, errW_some] <;> rfl) | (simp [*, errW_none, errW_some] <;> rfl), by repeat (first | (with_reducible first | exact HB.out | apply below_alloc | apply pw_below_drewN | apply below_drew1 | refine below_set ?_ GE238.out | refine below_set ?_ GE252.out) | exact HB.out)⟩
          · rw [if_neg c42] at H
            have c42b0 : (t256 == ((a0 + 4) % 4294967296)) = false := beq_eq_false_iff_ne.mpr c42
            have c42b1 : (t256 != ((a0 + 4) % 4294967296)) = true := bne_iff_ne.mpr c42
            obtain rfl := Option.some.inj H
            have hcz66_0 : wr.cell? ⟨gb238, 0, none⟩ = some (.int .i64 a3_0) := (blk_cell BK238.out 0).trans rfl
            have hcz66_1 : wr.cell? ⟨gb238, 1, none⟩ = some (.int .i64 a3_1) := (blk_cell BK238.out 1).trans rfl
            have hcz66_2 : wr.cell? ⟨gb238, 2, none⟩ = some (.int .i64 a3_2) := (blk_cell BK238.out 2).trans rfl
            have hcz66_3 : wr.cell? ⟨gb238, 3, none⟩ = some (.int .i64 a3_3) := (blk_cell BK238.out 3).trans rfl
            have hcz66_4 : wr.cell? ⟨gb238, 4, none⟩ = some (.int .i64 a3_4) := (blk_cell BK238.out 4).trans rfl
            have hcz66_5 : wr.cell? ⟨gb238, 5, none⟩ = some (.int .u32 a3_5) := (blk_cell BK238.out 5).trans rfl
            have hcz66_6 : wr.cell? ⟨gb238, 6, none⟩ = some (.int .u32 a3_6) := (blk_cell BK238.out 6).trans rfl
            have hfz66_0 := blk_frozen BK238.out 0
            have hfz66_1 := blk_frozen BK238.out 1
            have hfz66_2 := blk_frozen BK238.out 2
            have hfz66_3 := blk_frozen BK238.out 3
            have hfz66_4 := blk_frozen BK238.out 4
            have hfz66_5 := blk_frozen BK238.out 5
            have hfz66_6 := blk_frozen BK238.out 6
            go_wp2_with (first | ((with_reducible refine gate_callee (f := 11) rfl ?_); refine goesL_ (some 39) rfl rfl Try.func11 (by kernel_rfl) rfl #[.agg #[.int .i64 a3_0, .int .i64 a3_1, .int .i64 a3_2, .int .i64 a3_3, .int .i64 a3_4, .int .u32 a3_5, .int .u32 a3_6]] rfl (by (try simp only [List.map_toArray, List.map_cons, List.map_nil]); first | done | rfl | (simp only [List.length_drop, List.length_take]; rfl)) ?_; (with_reducible refine (pianolakeep_Plain.calls k1 a3_0 a3_1 a3_2 a3_3 a3_4 a3_5 a3_6 t246 t247 t248 t249 t250 t251 _ A29.out).mono ?_); rintro e w67 ⟨rfl, hb⟩; refine ⟨_, rfl, ?_⟩; have n0_ := Aside0.mk (Kd.R_below (by (with_reducible repeat (first | apply Kd.R_alloc | apply Kd.R_drewN | apply Kd.R_drew)); exact HO_18.out) hb); have n1_ := Aside0.mk (blk_below (g := gb238) (o := .cells #[.int .i64 a3_0, .int .i64 a3_1, .int .i64 a3_2, .int .i64 a3_3, .int .i64 a3_4, .int .u32 a3_5, .int .u32 a3_6] 29 (0, 0)) (by (with_reducible repeat (first | refine blk_drewN ?_ _ | refine blk_drew ?_ | refine blk_alloc ?_ _)); exact BK238.out) hb); have n2_ := Aside0.mk (below_step (by repeat (first | (with_reducible first | exact HB.out | apply below_alloc | apply pw_below_drewN | apply below_drew1 | refine below_set ?_ GE238.out) | exact HB.out)) hb); clear HO_18; clear BK238; clear HB; have HO_18 := n0_; have BK238 := n1_; have HB := n2_; clear n0_ n1_ n2_; (try clear hb); (try clear hb2); (try clear hk); (try clear hi)) | ((with_reducible refine gate_dst (N := 11) rfl ?_); refine box_event ?hg (N := 11) ?hd (cs := #[.int .i64 0, .int .i64 0, .int .i64 0, .int .i64 0, .int .i64 0, .int .u32 0]) (t := 26) ?hr ?_; (case hd => rfl); (case hg => rfl); (case hr => first | (go_simp; done) | (go_simp; rfl)); intro gb252 hg w68 hbox hb; have n0_ := Aside0.mk (Kd.R_below (by (with_reducible repeat (first | apply Kd.R_alloc | apply Kd.R_drewN | apply Kd.R_drew)); exact HO_18.out) hb); have n1_ := Aside0.mk (blk_below (g := gb238) (o := .cells #[.int .i64 a3_0, .int .i64 a3_1, .int .i64 a3_2, .int .i64 a3_3, .int .i64 a3_4, .int .u32 a3_5, .int .u32 a3_6] 29 (0, 0)) (by (with_reducible repeat (first | refine blk_drewN ?_ _ | refine blk_drew ?_ | refine blk_alloc ?_ _)); exact BK238.out) hb); have n2_ := Aside0.mk (below_step (by repeat (first | (with_reducible first | exact HB.out | apply below_alloc | apply pw_below_drewN | apply below_drew1 | refine below_set ?_ GE238.out) | exact HB.out)) hb); have n3_ := Aside0.mk (hbox); have n4_ := Aside0.mk ((by rw [hg]; exact (below_size (by repeat (first | (with_reducible first | exact HB.out | apply below_alloc | apply pw_below_drewN | apply below_drew1 | refine below_set ?_ GE238.out) | exact HB.out))) : w.heap.size ≤ gb252)); have n5_ := Aside0.mk ((by rw [hg]; exact (below_size (by repeat (first | (with_reducible first | exact HB.out | apply below_alloc | apply pw_below_drewN | apply below_drew1 | refine below_set ?_ GE238.out) | exact HB.out))) : w.heap.size ≤ gb252)); have n6_ := Aside0.mk ((by rw [hg]; exact Nat.ne_of_lt (blk_lt (g := gb238) (o := .cells #[.int .i64 a3_0, .int .i64 a3_1, .int .i64 a3_2, .int .i64 a3_3, .int .i64 a3_4, .int .u32 a3_5, .int .u32 a3_6] 29 (0, 0)) (by (with_reducible repeat (first | refine blk_drewN ?_ _ | refine blk_drew ?_ | refine blk_alloc ?_ _)); exact BK238.out)) : gb238 ≠ gb252)); have n7_ := Aside0.mk ((by rw [hg]; exact Nat.ne_of_gt (blk_lt (g := gb238) (o := .cells #[.int .i64 a3_0, .int .i64 a3_1, .int .i64 a3_2, .int .i64 a3_3, .int .i64 a3_4, .int .u32 a3_5, .int .u32 a3_6] 29 (0, 0)) (by (with_reducible repeat (first | refine blk_drewN ?_ _ | refine blk_drew ?_ | refine blk_alloc ?_ _)); exact BK238.out)) : gb252 ≠ gb238)); clear HO_18; clear BK238; clear HB; have HO_18 := n0_; have BK238 := n1_; have HB := n2_; have BK252 := n3_; have GW252 := n4_; have GE252 := n5_; have NB238_252 := n6_; have NB252_238 := n7_; clear n0_ n1_ n2_ n3_ n4_ n5_ n6_ n7_; clear hb hbox hg; have hnb69 := NB252_238.out; have hnc69 := NB238_252.out; have hcz70_0 : w68.cell? ⟨gb252, 0, none⟩ = some (.int .i64 0) := (blk_cell BK252.out 0).trans rfl; have hcz70_1 : w68.cell? ⟨gb252, 1, none⟩ = some (.int .i64 0) := (blk_cell BK252.out 1).trans rfl; have hcz70_2 : w68.cell? ⟨gb252, 2, none⟩ = some (.int .i64 0) := (blk_cell BK252.out 2).trans rfl; have hcz70_3 : w68.cell? ⟨gb252, 3, none⟩ = some (.int .i64 0) := (blk_cell BK252.out 3).trans rfl; have hcz70_4 : w68.cell? ⟨gb252, 4, none⟩ = some (.int .i64 0) := (blk_cell BK252.out 4).trans rfl; have hcz70_5 : w68.cell? ⟨gb252, 5, none⟩ = some (.int .u32 0) := (blk_cell BK252.out 5).trans rfl; have hfz70_0 := blk_frozen BK252.out 0; have hfz70_1 := blk_frozen BK252.out 1; have hfz70_2 := blk_frozen BK252.out 2; have hfz70_3 := blk_frozen BK252.out 3; have hfz70_4 := blk_frozen BK252.out 4; have hfz70_5 := blk_frozen BK252.out 5) | ((with_reducible refine gate_callee (f := 12) rfl ?_); refine goesL_ (some 42) rfl rfl Try.func12 (by kernel_rfl) rfl #[.agg #[.int .i64 t246, .int .i64 t247, .int .i64 t248, .int .i64 t249, .int .i64 t250, .int .u32 t251]] rfl (by (try simp only [List.map_toArray, List.map_cons, List.map_nil]); first | done | rfl | (simp only [List.length_drop, List.length_take]; rfl)) ?_; (with_reducible refine (branch_Links.calls k1 t246 t247 t248 t249 t250 t251 t253 t254 _ A30.out).mono ?_); rintro e w71 ⟨rfl, hb⟩; refine ⟨_, rfl, ?_⟩; have n0_ := Aside0.mk (Kd.R_below (by (with_reducible repeat (first | apply Kd.R_alloc | apply Kd.R_drewN | apply Kd.R_drew)); exact (Kd.R_mono (Kd.R_far (p := ⟨gb252, 5, none⟩) (Kd.R_far (p := ⟨gb252, 4, none⟩) (Kd.R_far (p := ⟨gb252, 3, none⟩) (Kd.R_far (p := ⟨gb252, 2, none⟩) (Kd.R_far (p := ⟨gb252, 1, none⟩) (Kd.R_far (p := ⟨gb252, 0, none⟩) (Kd.R_types HO_18.out BK252.out (by decide)) (fun _ hk => hk.2) (.int .i64 t246)) (fun _ hk => hk.2) (.int .i64 t247)) (fun _ hk => hk.2) (.int .i64 t248)) (fun _ hk => hk.2) (.int .i64 t249)) (fun _ hk => hk.2) (.int .i64 t250)) (fun _ hk => hk.2) (.int .u32 t251)) (fun _ h_ => h_.1))) hb); have n1_ := Aside0.mk (blk_below (g := gb238) (o := .cells #[.int .i64 a3_0, .int .i64 a3_1, .int .i64 a3_2, .int .i64 a3_3, .int .i64 a3_4, .int .u32 a3_5, .int .u32 a3_6] 29 (0, 0)) (by (with_reducible repeat (first | refine blk_drewN ?_ _ | refine blk_drew ?_ | refine blk_alloc ?_ _)); refine blk_far ?_ NB238_252.out _; (with_reducible repeat (first | refine blk_drewN ?_ _ | refine blk_drew ?_ | refine blk_alloc ?_ _)); refine blk_far ?_ NB238_252.out _; (with_reducible repeat (first | refine blk_drewN ?_ _ | refine blk_drew ?_ | refine blk_alloc ?_ _)); refine blk_far ?_ NB238_252.out _; (with_reducible repeat (first | refine blk_drewN ?_ _ | refine blk_drew ?_ | refine blk_alloc ?_ _)); refine blk_far ?_ NB238_252.out _; (with_reducible repeat (first | refine blk_drewN ?_ _ | refine blk_drew ?_ | refine blk_alloc ?_ _)); refine blk_far ?_ NB238_252.out _; (with_reducible repeat (first | refine blk_drewN ?_ _ | refine blk_drew ?_ | refine blk_alloc ?_ _)); refine blk_far ?_ NB238_252.out _; (with_reducible repeat (first | refine blk_drewN ?_ _ | refine blk_drew ?_ | refine blk_alloc ?_ _)); exact BK238.out) hb); have n2_ := Aside0.mk (blk_below (g := gb252) (o := .cells #[.int .i64 t246, .int .i64 t247, .int .i64 t248, .int .i64 t249, .int .i64 t250, .int .u32 t251] 26 (0, 0)) (by (with_reducible repeat (first | refine blk_drewN ?_ _ | refine blk_drew ?_ | refine blk_alloc ?_ _)); refine blk_put (cs := #[.int .i64 t246, .int .i64 t247, .int .i64 t248, .int .i64 t249, .int .i64 t250, .int .u32 0]) ?_ 5 _ rfl; (with_reducible repeat (first | refine blk_drewN ?_ _ | refine blk_drew ?_ | refine blk_alloc ?_ _)); refine blk_put (cs := #[.int .i64 t246, .int .i64 t247, .int .i64 t248, .int .i64 t249, .int .i64 0, .int .u32 0]) ?_ 4 _ rfl; (with_reducible repeat (first | refine blk_drewN ?_ _ | refine blk_drew ?_ | refine blk_alloc ?_ _)); refine blk_put (cs := #[.int .i64 t246, .int .i64 t247, .int .i64 t248, .int .i64 0, .int .i64 0, .int .u32 0]) ?_ 3 _ rfl; (with_reducible repeat (first | refine blk_drewN ?_ _ | refine blk_drew ?_ | refine blk_alloc ?_ _)); refine blk_put (cs := #[.int .i64 t246, .int .i64 t247, .int .i64 0, .int .i64 0, .int .i64 0, .int .u32 0]) ?_ 2 _ rfl; (with_reducible repeat (first | refine blk_drewN ?_ _ | refine blk_drew ?_ | refine blk_alloc ?_ _)); refine blk_put (cs := #[.int .i64 t246, .int .i64 0, .int .i64 0, .int .i64 0, .int .i64 0, .int .u32 0]) ?_ 1 _ rfl; (with_reducible repeat (first | refine blk_drewN ?_ _ | refine blk_drew ?_ | refine blk_alloc ?_ _)); refine blk_put (cs := #[.int .i64 0, .int .i64 0, .int .i64 0, .int .i64 0, .int .i64 0, .int .u32 0]) ?_ 0 _ rfl; (with_reducible repeat (first | refine blk_drewN ?_ _ | refine blk_drew ?_ | refine blk_alloc ?_ _)); exact BK252.out) hb); have n3_ := Aside0.mk (below_step (by repeat (first | (with_reducible first | exact HB.out | apply below_alloc | apply pw_below_drewN | apply below_drew1 | refine below_set ?_ GE238.out | refine below_set ?_ GE252.out) | exact HB.out)) hb); clear HO_18; clear BK238; clear BK252; clear HB; have HO_18 := n0_; have BK238 := n1_; have BK252 := n2_; have HB := n3_; clear n0_ n1_ n2_ n3_; (try clear hb); (try clear hb2); (try clear hk); (try clear hi); have hcz72_0 : w71.cell? ⟨gb252, 0, none⟩ = some (.int .i64 t246) := (blk_cell BK252.out 0).trans rfl; have hcz72_1 : w71.cell? ⟨gb252, 1, none⟩ = some (.int .i64 t247) := (blk_cell BK252.out 1).trans rfl; have hcz72_2 : w71.cell? ⟨gb252, 2, none⟩ = some (.int .i64 t248) := (blk_cell BK252.out 2).trans rfl; have hcz72_3 : w71.cell? ⟨gb252, 3, none⟩ = some (.int .i64 t249) := (blk_cell BK252.out 3).trans rfl; have hcz72_4 : w71.cell? ⟨gb252, 4, none⟩ = some (.int .i64 t250) := (blk_cell BK252.out 4).trans rfl; have hcz72_5 : w71.cell? ⟨gb252, 5, none⟩ = some (.int .u32 t251) := (blk_cell BK252.out 5).trans rfl; have hfz72_0 := blk_frozen BK252.out 0; have hfz72_1 := blk_frozen BK252.out 1; have hfz72_2 := blk_frozen BK252.out 2; have hfz72_3 := blk_frozen BK252.out 3; have hfz72_4 := blk_frozen BK252.out 4; have hfz72_5 := blk_frozen BK252.out 5) | ((with_reducible refine gate_callee (f := 10) rfl ?_); refine goesL_ (some 48) rfl rfl Try.func10 (by kernel_rfl) rfl #[.agg #[.int .i64 t246, .int .i64 t247, .int .i64 t248, .int .i64 t249, .int .i64 t250, .int .u32 t251], .int .u32 a1, .int .u32 a2] rfl (by (try simp only [List.map_toArray, List.map_cons, List.map_nil]); first | done | rfl | (simp only [List.length_drop, List.length_take]; rfl)) ?_; (with_reducible refine (branch_Taken.calls k1 t246 t247 t248 t249 t250 t251 a1 a2 false _ A31.out).mono ?_); rintro e w73 ⟨rfl, hb⟩; refine ⟨_, rfl, ?_⟩; have n0_ := Aside0.mk (Kd.R_below (by (with_reducible repeat (first | apply Kd.R_alloc | apply Kd.R_drewN | apply Kd.R_drew)); exact HO_18.out) hb); have n1_ := Aside0.mk (blk_below (g := gb238) (o := .cells #[.int .i64 a3_0, .int .i64 a3_1, .int .i64 a3_2, .int .i64 a3_3, .int .i64 a3_4, .int .u32 a3_5, .int .u32 a3_6] 29 (0, 0)) (by (with_reducible repeat (first | refine blk_drewN ?_ _ | refine blk_drew ?_ | refine blk_alloc ?_ _)); exact BK238.out) hb); have n2_ := Aside0.mk (blk_below (g := gb252) (o := .cells #[.int .i64 t246, .int .i64 t247, .int .i64 t248, .int .i64 t249, .int .i64 t250, .int .u32 t251] 26 (0, 0)) (by (with_reducible repeat (first | refine blk_drewN ?_ _ | refine blk_drew ?_ | refine blk_alloc ?_ _)); exact BK252.out) hb); have n3_ := Aside0.mk (below_step (by repeat (first | (with_reducible first | exact HB.out | apply below_alloc | apply pw_below_drewN | apply below_drew1 | refine below_set ?_ GE238.out | refine below_set ?_ GE252.out) | exact HB.out)) hb); clear HO_18; clear BK238; clear BK252; clear HB; have HO_18 := n0_; have BK238 := n1_; have BK252 := n2_; have HB := n3_; clear n0_ n1_ n2_ n3_; (try clear hb); (try clear hb2); (try clear hk); (try clear hi); have hcz74_0 : w73.cell? ⟨gb252, 0, none⟩ = some (.int .i64 t246) := (blk_cell BK252.out 0).trans rfl; have hcz74_1 : w73.cell? ⟨gb252, 1, none⟩ = some (.int .i64 t247) := (blk_cell BK252.out 1).trans rfl; have hcz74_2 : w73.cell? ⟨gb252, 2, none⟩ = some (.int .i64 t248) := (blk_cell BK252.out 2).trans rfl; have hcz74_3 : w73.cell? ⟨gb252, 3, none⟩ = some (.int .i64 t249) := (blk_cell BK252.out 3).trans rfl; have hcz74_4 : w73.cell? ⟨gb252, 4, none⟩ = some (.int .i64 t250) := (blk_cell BK252.out 4).trans rfl; have hcz74_5 : w73.cell? ⟨gb252, 5, none⟩ = some (.int .u32 t251) := (blk_cell BK252.out 5).trans rfl; have hfz74_0 := blk_frozen BK252.out 0; have hfz74_1 := blk_frozen BK252.out 1; have hfz74_2 := blk_frozen BK252.out 2; have hfz74_3 := blk_frozen BK252.out 3; have hfz74_4 := blk_frozen BK252.out 4; have hfz74_5 := blk_frozen BK252.out 5) | (go_at_call 13; (with_reducible refine (branch_Target.calls k1 t246 t247 t248 t249 t250 t251 a0 a1 t256 _ A41.out).mono ?_); rintro e w75 ⟨rfl, hb⟩; have n0_ := Aside0.mk (Kd.R_below (by (with_reducible repeat (first | apply Kd.R_alloc | apply Kd.R_drewN | apply Kd.R_drew)); exact HO_18.out) hb); have n1_ := Aside0.mk (blk_below (g := gb238) (o := .cells #[.int .i64 a3_0, .int .i64 a3_1, .int .i64 a3_2, .int .i64 a3_3, .int .i64 a3_4, .int .u32 a3_5, .int .u32 a3_6] 29 (0, 0)) (by (with_reducible repeat (first | refine blk_drewN ?_ _ | refine blk_drew ?_ | refine blk_alloc ?_ _)); exact BK238.out) hb); have n2_ := Aside0.mk (blk_below (g := gb252) (o := .cells #[.int .i64 t246, .int .i64 t247, .int .i64 t248, .int .i64 t249, .int .i64 t250, .int .u32 t251] 26 (0, 0)) (by (with_reducible repeat (first | refine blk_drewN ?_ _ | refine blk_drew ?_ | refine blk_alloc ?_ _)); exact BK252.out) hb); have n3_ := Aside0.mk (below_step (by repeat (first | (with_reducible first | exact HB.out | apply below_alloc | apply pw_below_drewN | apply below_drew1 | refine below_set ?_ GE238.out | refine below_set ?_ GE252.out) | exact HB.out)) hb); clear HO_18; clear BK238; clear BK252; clear HB; have HO_18 := n0_; have BK238 := n1_; have BK252 := n2_; have HB := n3_; clear n0_ n1_ n2_ n3_; (try clear hb); (try clear hb2); (try clear hk); (try clear hi)))
            go_ret
            exact ⟨by first | rfl | (simp [errW_none, errW_some] <;> rfl) | (simp [*, errW_none, errW_some] <;> rfl), by repeat (first | (with_reducible first | exact HB.out | apply below_alloc | apply pw_below_drewN | apply below_drew1 | refine below_set ?_ GE238.out | refine below_set ?_ GE252.out) | exact HB.out)⟩

/-! ### pianolalaw5_BranchBack: function 6 -/
def pianolalaw5_BranchBack.f (k : Nat) (a0 : Int) (a1 : Int) (a2 : Int) : Option (Bool) := (branch_Target.f k 43 0 0 0 0 (Go.bits .and .u32 a2 32767) (Go.bits .andNot .u32 a0 3) a1).bind fun t258 => ((branch_Target.f k 43 0 0 0 0 (Go.bits .and .u32 ((-(Go.bits .and .u32 a2 32767)) % 4294967296) 65535) (Go.bits .andNot .u32 a0 3) a1).bind fun t259 => ((branch_Target.f k 41 0 0 0 0 (Go.bits .and .u32 a2 67108863) (Go.bits .andNot .u32 a0 3) a1).bind fun t260 => (if ((t258 - ((Go.bits .andNot .u32 a0 3) + 4)) % 4294967296) = ((4 * (Go.bits .and .u32 a2 32767)) % 4294967296) then (if ((t258 - ((Go.bits .andNot .u32 a0 3) + 4)) % 4294967296) = ((((Go.bits .andNot .u32 a0 3) + 4) - t259) % 4294967296) then (if (t260 / 268435456) = ((((Go.bits .andNot .u32 a0 3) + 4) % 4294967296) / 268435456) then (if (Go.bits .and .u32 t260 268435455) = (((Go.bits .and .u32 a2 67108863) * 4) % 4294967296) then ((branch_Target.f k 7 0 0 0 0 0 (Go.bits .andNot .u32 a0 3) a1).bind fun t261 => (if t261 = a1 then ((pianolalaw5_known.f k).bind fun t262 => (some t262)) else (some false))) else (some false)) else (some false)) else (some false)) else (some false))))
theorem pianolalaw5_BranchBack.mono : ∀ a0 a1 a2 k, LeO (pianolalaw5_BranchBack.f k a0 a1 a2) (pianolalaw5_BranchBack.f (k + 1) a0 a1 a2) := by
  intro a0 a1 a2 k
  unfold pianolalaw5_BranchBack.f
  repeat' first
      | (with_reducible exact branch_Target.mono _ _ _ _ _ _ _ _ _)
      | (with_reducible exact pianolalaw5_known.mono _)
      | (with_reducible exact LeO.refl _)
      | (with_reducible exact LeO.none _)
      | (with_reducible refine LeO.ite ?_ ?_)
      | (with_reducible refine LeO.bind ?_ (fun _ => ?_))
      | exact branch_Target.mono _ _ _ _ _ _ _ _ _
      | exact pianolalaw5_known.mono _
      | exact LeO.none _
      | refine LeO.ite ?_ ?_
      | refine LeO.bind ?_ (fun _ => ?_)
set_option maxHeartbeats 8000000 in
set_option maxRecDepth 100000 in
theorem pianolalaw5_BranchBack.calls (k : Nat) (a0 : Int) (a1 : Int) (a2 : Int) (r : Bool) (w : World) (h : pianolalaw5_BranchBack.f k a0 a1 a2 = some r) :
    Calls Try.prog 6 #[.int .u32 a0, .int .u32 a1, .int .u32 a2] w fun e w' => e = .returned (.bool r) ∧ Below w.heap.size w w' := by
  have hu26 := Try.underlying26
  have HB := Aside0.mk (Below.refl w.heap.size w)
  have H : ((branch_Target.f k 43 0 0 0 0 (Go.bits .and .u32 a2 32767) (Go.bits .andNot .u32 a0 3) a1).bind fun t258 => ((branch_Target.f k 43 0 0 0 0 (Go.bits .and .u32 ((-(Go.bits .and .u32 a2 32767)) % 4294967296) 65535) (Go.bits .andNot .u32 a0 3) a1).bind fun t259 => ((branch_Target.f k 41 0 0 0 0 (Go.bits .and .u32 a2 67108863) (Go.bits .andNot .u32 a0 3) a1).bind fun t260 => (if ((t258 - ((Go.bits .andNot .u32 a0 3) + 4)) % 4294967296) = ((4 * (Go.bits .and .u32 a2 32767)) % 4294967296) then (if ((t258 - ((Go.bits .andNot .u32 a0 3) + 4)) % 4294967296) = ((((Go.bits .andNot .u32 a0 3) + 4) - t259) % 4294967296) then (if (t260 / 268435456) = ((((Go.bits .andNot .u32 a0 3) + 4) % 4294967296) / 268435456) then (if (Go.bits .and .u32 t260 268435455) = (((Go.bits .and .u32 a2 67108863) * 4) % 4294967296) then ((branch_Target.f k 7 0 0 0 0 0 (Go.bits .andNot .u32 a0 3) a1).bind fun t261 => (if t261 = a1 then ((pianolalaw5_known.f k).bind fun t262 => (some t262)) else (some false))) else (some false)) else (some false)) else (some false)) else (some false))))) = some r := h
  clear h
  replace H := Option.bind_eq_some_iff.mp H
  obtain ⟨t258, A40, H⟩ := H
  replace H : ((branch_Target.f k 43 0 0 0 0 (Go.bits .and .u32 ((-(Go.bits .and .u32 a2 32767)) % 4294967296) 65535) (Go.bits .andNot .u32 a0 3) a1).bind fun t259 => ((branch_Target.f k 41 0 0 0 0 (Go.bits .and .u32 a2 67108863) (Go.bits .andNot .u32 a0 3) a1).bind fun t260 => (if ((t258 - ((Go.bits .andNot .u32 a0 3) + 4)) % 4294967296) = ((4 * (Go.bits .and .u32 a2 32767)) % 4294967296) then (if ((t258 - ((Go.bits .andNot .u32 a0 3) + 4)) % 4294967296) = ((((Go.bits .andNot .u32 a0 3) + 4) - t259) % 4294967296) then (if (t260 / 268435456) = ((((Go.bits .andNot .u32 a0 3) + 4) % 4294967296) / 268435456) then (if (Go.bits .and .u32 t260 268435455) = (((Go.bits .and .u32 a2 67108863) * 4) % 4294967296) then ((branch_Target.f k 7 0 0 0 0 0 (Go.bits .andNot .u32 a0 3) a1).bind fun t261 => (if t261 = a1 then ((pianolalaw5_known.f k).bind fun t262 => (some t262)) else (some false))) else (some false)) else (some false)) else (some false)) else (some false)))) = some r := H
  have A4 := Aside0.mk A40
  clear A40
  replace H := Option.bind_eq_some_iff.mp H
  obtain ⟨t259, A50, H⟩ := H
  replace H : ((branch_Target.f k 41 0 0 0 0 (Go.bits .and .u32 a2 67108863) (Go.bits .andNot .u32 a0 3) a1).bind fun t260 => (if ((t258 - ((Go.bits .andNot .u32 a0 3) + 4)) % 4294967296) = ((4 * (Go.bits .and .u32 a2 32767)) % 4294967296) then (if ((t258 - ((Go.bits .andNot .u32 a0 3) + 4)) % 4294967296) = ((((Go.bits .andNot .u32 a0 3) + 4) - t259) % 4294967296) then (if (t260 / 268435456) = ((((Go.bits .andNot .u32 a0 3) + 4) % 4294967296) / 268435456) then (if (Go.bits .and .u32 t260 268435455) = (((Go.bits .and .u32 a2 67108863) * 4) % 4294967296) then ((branch_Target.f k 7 0 0 0 0 0 (Go.bits .andNot .u32 a0 3) a1).bind fun t261 => (if t261 = a1 then ((pianolalaw5_known.f k).bind fun t262 => (some t262)) else (some false))) else (some false)) else (some false)) else (some false)) else (some false))) = some r := H
  have A5 := Aside0.mk A50
  clear A50
  replace H := Option.bind_eq_some_iff.mp H
  obtain ⟨t260, A60, H⟩ := H
  replace H : (if ((t258 - ((Go.bits .andNot .u32 a0 3) + 4)) % 4294967296) = ((4 * (Go.bits .and .u32 a2 32767)) % 4294967296) then (if ((t258 - ((Go.bits .andNot .u32 a0 3) + 4)) % 4294967296) = ((((Go.bits .andNot .u32 a0 3) + 4) - t259) % 4294967296) then (if (t260 / 268435456) = ((((Go.bits .andNot .u32 a0 3) + 4) % 4294967296) / 268435456) then (if (Go.bits .and .u32 t260 268435455) = (((Go.bits .and .u32 a2 67108863) * 4) % 4294967296) then ((branch_Target.f k 7 0 0 0 0 0 (Go.bits .andNot .u32 a0 3) a1).bind fun t261 => (if t261 = a1 then ((pianolalaw5_known.f k).bind fun t262 => (some t262)) else (some false))) else (some false)) else (some false)) else (some false)) else (some false)) = some r := H
  have A6 := Aside0.mk A60
  clear A60
  by_cases c7 : ((t258 - ((Go.bits .andNot .u32 a0 3) + 4)) % 4294967296) = ((4 * (Go.bits .and .u32 a2 32767)) % 4294967296)
  · rw [if_pos c7] at H
    have c7b0 : (((t258 - ((Go.bits .andNot .u32 a0 3) + 4)) % 4294967296) == ((4 * (Go.bits .and .u32 a2 32767)) % 4294967296)) = true := beq_iff_eq.mpr c7
    have c7b1 : (((t258 - ((Go.bits .andNot .u32 a0 3) + 4)) % 4294967296) != ((4 * (Go.bits .and .u32 a2 32767)) % 4294967296)) = false := bne_eq_false_iff_eq.mpr c7
    clear c7
    by_cases c8 : ((t258 - ((Go.bits .andNot .u32 a0 3) + 4)) % 4294967296) = ((((Go.bits .andNot .u32 a0 3) + 4) - t259) % 4294967296)
    · rw [if_pos c8] at H
      have c8b0 : (((t258 - ((Go.bits .andNot .u32 a0 3) + 4)) % 4294967296) == ((((Go.bits .andNot .u32 a0 3) + 4) - t259) % 4294967296)) = true := beq_iff_eq.mpr c8
      have c8b1 : (((t258 - ((Go.bits .andNot .u32 a0 3) + 4)) % 4294967296) != ((((Go.bits .andNot .u32 a0 3) + 4) - t259) % 4294967296)) = false := bne_eq_false_iff_eq.mpr c8
      clear c8
      by_cases c9 : (t260 / 268435456) = ((((Go.bits .andNot .u32 a0 3) + 4) % 4294967296) / 268435456)
      · rw [if_pos c9] at H
        have c9b0 : ((t260 / 268435456) == ((((Go.bits .andNot .u32 a0 3) + 4) % 4294967296) / 268435456)) = true := beq_iff_eq.mpr c9
        have c9b1 : ((t260 / 268435456) != ((((Go.bits .andNot .u32 a0 3) + 4) % 4294967296) / 268435456)) = false := bne_eq_false_iff_eq.mpr c9
        clear c9
        by_cases c10 : (Go.bits .and .u32 t260 268435455) = (((Go.bits .and .u32 a2 67108863) * 4) % 4294967296)
        · rw [if_pos c10] at H
          have c10b0 : ((Go.bits .and .u32 t260 268435455) == (((Go.bits .and .u32 a2 67108863) * 4) % 4294967296)) = true := beq_iff_eq.mpr c10
          have c10b1 : ((Go.bits .and .u32 t260 268435455) != (((Go.bits .and .u32 a2 67108863) * 4) % 4294967296)) = false := bne_eq_false_iff_eq.mpr c10
          clear c10
          replace H := Option.bind_eq_some_iff.mp H
          obtain ⟨t261, A110, H⟩ := H
          replace H : (if t261 = a1 then ((pianolalaw5_known.f k).bind fun t262 => (some t262)) else (some false)) = some r := H
          have A11 := Aside0.mk A110
          clear A110
          by_cases c12 : t261 = a1
          · rw [if_pos c12] at H
            have c12b0 : (t261 == a1) = true := beq_iff_eq.mpr c12
            have c12b1 : (t261 != a1) = false := bne_eq_false_iff_eq.mpr c12
            clear c12
            replace H := Option.bind_eq_some_iff.mp H
            obtain ⟨t262, A130, H⟩ := H
            replace H : (some t262) = some r := H
            have A13 := Aside0.mk A130
            clear A130
            obtain rfl := Option.some.inj H
            go_enter Try.func6, Try.ntmps6
            go_wp2_with (first | ((with_reducible refine gate_callee (f := 13) rfl ?_); refine goesL_ (some 18) rfl rfl Try.func13 (by kernel_rfl) rfl #[.agg #[.int .i64 43, .int .i64 0, .int .i64 0, .int .i64 0, .int .i64 0, .int .u32 (Go.bits .and .u32 a2 32767)], .int .u32 (Go.bits .andNot .u32 a0 3), .int .u32 a1] rfl (by (try simp only [List.map_toArray, List.map_cons, List.map_nil]); first | done | rfl | (simp only [List.length_drop, List.length_take]; rfl)) ?_; (with_reducible refine (branch_Target.calls k 43 0 0 0 0 (Go.bits .and .u32 a2 32767) (Go.bits .andNot .u32 a0 3) a1 t258 _ A4.out).mono ?_); rintro e w14 ⟨rfl, hb⟩; refine ⟨_, rfl, ?_⟩; have n0_ := Aside0.mk (below_step (by repeat (first | (with_reducible first | exact HB.out | apply below_alloc | apply pw_below_drewN | apply below_drew1) | exact HB.out)) hb); clear HB; have HB := n0_; clear n0_; (try clear hb); (try clear hb2); (try clear hk); (try clear hi)) | ((with_reducible refine gate_callee (f := 13) rfl ?_); refine goesL_ (some 26) rfl rfl Try.func13 (by kernel_rfl) rfl #[.agg #[.int .i64 43, .int .i64 0, .int .i64 0, .int .i64 0, .int .i64 0, .int .u32 (Go.bits .and .u32 ((-(Go.bits .and .u32 a2 32767)) % 4294967296) 65535)], .int .u32 (Go.bits .andNot .u32 a0 3), .int .u32 a1] rfl (by (try simp only [List.map_toArray, List.map_cons, List.map_nil]); first | done | rfl | (simp only [List.length_drop, List.length_take]; rfl)) ?_; (with_reducible refine (branch_Target.calls k 43 0 0 0 0 (Go.bits .and .u32 ((-(Go.bits .and .u32 a2 32767)) % 4294967296) 65535) (Go.bits .andNot .u32 a0 3) a1 t259 _ A5.out).mono ?_); rintro e w15 ⟨rfl, hb⟩; refine ⟨_, rfl, ?_⟩; have n0_ := Aside0.mk (below_step (by repeat (first | (with_reducible first | exact HB.out | apply below_alloc | apply pw_below_drewN | apply below_drew1) | exact HB.out)) hb); clear HB; have HB := n0_; clear n0_; (try clear hb); (try clear hb2); (try clear hk); (try clear hi)) | ((with_reducible refine gate_callee (f := 13) rfl ?_); refine goesL_ (some 32) rfl rfl Try.func13 (by kernel_rfl) rfl #[.agg #[.int .i64 41, .int .i64 0, .int .i64 0, .int .i64 0, .int .i64 0, .int .u32 (Go.bits .and .u32 a2 67108863)], .int .u32 (Go.bits .andNot .u32 a0 3), .int .u32 a1] rfl (by (try simp only [List.map_toArray, List.map_cons, List.map_nil]); first | done | rfl | (simp only [List.length_drop, List.length_take]; rfl)) ?_; (with_reducible refine (branch_Target.calls k 41 0 0 0 0 (Go.bits .and .u32 a2 67108863) (Go.bits .andNot .u32 a0 3) a1 t260 _ A6.out).mono ?_); rintro e w16 ⟨rfl, hb⟩; refine ⟨_, rfl, ?_⟩; have n0_ := Aside0.mk (below_step (by repeat (first | (with_reducible first | exact HB.out | apply below_alloc | apply pw_below_drewN | apply below_drew1) | exact HB.out)) hb); clear HB; have HB := n0_; clear n0_; (try clear hb); (try clear hb2); (try clear hk); (try clear hi)) | (go_at_call 13; (with_reducible refine (branch_Target.calls k 7 0 0 0 0 0 (Go.bits .andNot .u32 a0 3) a1 t261 _ A11.out).mono ?_); rintro e w17 ⟨rfl, hb⟩; have n0_ := Aside0.mk (below_step (by repeat (first | (with_reducible first | exact HB.out | apply below_alloc | apply pw_below_drewN | apply below_drew1) | exact HB.out)) hb); clear HB; have HB := n0_; clear n0_; (try clear hb); (try clear hb2); (try clear hk); (try clear hi)) | (go_at_call 8; (with_reducible refine (pianolalaw5_known.calls k  t262 _ A13.out).mono ?_); rintro e w18 ⟨rfl, hb⟩; have n0_ := Aside0.mk (below_step (by repeat (first | (with_reducible first | exact HB.out | apply below_alloc | apply pw_below_drewN | apply below_drew1) | exact HB.out)) hb); clear HB; have HB := n0_; clear n0_; (try clear hb); (try clear hb2); (try clear hk); (try clear hi)))
            go_ret
            exact ⟨by first | rfl | (simp [errW_none, errW_some] <;> rfl) | (simp [*, errW_none, errW_some] <;> rfl), by repeat (first | (with_reducible first | exact HB.out | apply below_alloc | apply pw_below_drewN | apply below_drew1) | exact HB.out)⟩
          · rw [if_neg c12] at H
            have c12b0 : (t261 == a1) = false := beq_eq_false_iff_ne.mpr c12
            have c12b1 : (t261 != a1) = true := bne_iff_ne.mpr c12
            obtain rfl := Option.some.inj H
            go_enter Try.func6, Try.ntmps6
            go_wp2_with (first | ((with_reducible refine gate_callee (f := 13) rfl ?_); refine goesL_ (some 18) rfl rfl Try.func13 (by kernel_rfl) rfl #[.agg #[.int .i64 43, .int .i64 0, .int .i64 0, .int .i64 0, .int .i64 0, .int .u32 (Go.bits .and .u32 a2 32767)], .int .u32 (Go.bits .andNot .u32 a0 3), .int .u32 a1] rfl (by (try simp only [List.map_toArray, List.map_cons, List.map_nil]); first | done | rfl | (simp only [List.length_drop, List.length_take]; rfl)) ?_; (with_reducible refine (branch_Target.calls k 43 0 0 0 0 (Go.bits .and .u32 a2 32767) (Go.bits .andNot .u32 a0 3) a1 t258 _ A4.out).mono ?_); rintro e w19 ⟨rfl, hb⟩; refine ⟨_, rfl, ?_⟩; have n0_ := Aside0.mk (below_step (by repeat (first | (with_reducible first | exact HB.out | apply below_alloc | apply pw_below_drewN | apply below_drew1) | exact HB.out)) hb); clear HB; have HB := n0_; clear n0_; (try clear hb); (try clear hb2); (try clear hk); (try clear hi)) | ((with_reducible refine gate_callee (f := 13) rfl ?_); refine goesL_ (some 26) rfl rfl Try.func13 (by kernel_rfl) rfl #[.agg #[.int .i64 43, .int .i64 0, .int .i64 0, .int .i64 0, .int .i64 0, .int .u32 (Go.bits .and .u32 ((-(Go.bits .and .u32 a2 32767)) % 4294967296) 65535)], .int .u32 (Go.bits .andNot .u32 a0 3), .int .u32 a1] rfl (by (try simp only [List.map_toArray, List.map_cons, List.map_nil]); first | done | rfl | (simp only [List.length_drop, List.length_take]; rfl)) ?_; (with_reducible refine (branch_Target.calls k 43 0 0 0 0 (Go.bits .and .u32 ((-(Go.bits .and .u32 a2 32767)) % 4294967296) 65535) (Go.bits .andNot .u32 a0 3) a1 t259 _ A5.out).mono ?_); rintro e w20 ⟨rfl, hb⟩; refine ⟨_, rfl, ?_⟩; have n0_ := Aside0.mk (below_step (by repeat (first | (with_reducible first | exact HB.out | apply below_alloc | apply pw_below_drewN | apply below_drew1) | exact HB.out)) hb); clear HB; have HB := n0_; clear n0_; (try clear hb); (try clear hb2); (try clear hk); (try clear hi)) | ((with_reducible refine gate_callee (f := 13) rfl ?_); refine goesL_ (some 32) rfl rfl Try.func13 (by kernel_rfl) rfl #[.agg #[.int .i64 41, .int .i64 0, .int .i64 0, .int .i64 0, .int .i64 0, .int .u32 (Go.bits .and .u32 a2 67108863)], .int .u32 (Go.bits .andNot .u32 a0 3), .int .u32 a1] rfl (by (try simp only [List.map_toArray, List.map_cons, List.map_nil]); first | done | rfl | (simp only [List.length_drop, List.length_take]; rfl)) ?_; (with_reducible refine (branch_Target.calls k 41 0 0 0 0 (Go.bits .and .u32 a2 67108863) (Go.bits .andNot .u32 a0 3) a1 t260 _ A6.out).mono ?_); rintro e w21 ⟨rfl, hb⟩; refine ⟨_, rfl, ?_⟩; have n0_ := Aside0.mk (below_step (by repeat (first | (with_reducible first | exact HB.out | apply below_alloc | apply pw_below_drewN | apply below_drew1) | exact HB.out)) hb); clear HB; have HB := n0_; clear n0_; (try clear hb); (try clear hb2); (try clear hk); (try clear hi)) | (go_at_call 13; (with_reducible refine (branch_Target.calls k 7 0 0 0 0 0 (Go.bits .andNot .u32 a0 3) a1 t261 _ A11.out).mono ?_); rintro e w22 ⟨rfl, hb⟩; have n0_ := Aside0.mk (below_step (by repeat (first | (with_reducible first | exact HB.out | apply below_alloc | apply pw_below_drewN | apply below_drew1) | exact HB.out)) hb); clear HB; have HB := n0_; clear n0_; (try clear hb); (try clear hb2); (try clear hk); (try clear hi)))
            go_ret
            exact ⟨by first | rfl | (simp [errW_none, errW_some] <;> rfl) | (simp [*, errW_none, errW_some] <;> rfl), by repeat (first | (with_reducible first | exact HB.out | apply below_alloc | apply pw_below_drewN | apply below_drew1) | exact HB.out)⟩
        · rw [if_neg c10] at H
          have c10b0 : ((Go.bits .and .u32 t260 268435455) == (((Go.bits .and .u32 a2 67108863) * 4) % 4294967296)) = false := beq_eq_false_iff_ne.mpr c10
          have c10b1 : ((Go.bits .and .u32 t260 268435455) != (((Go.bits .and .u32 a2 67108863) * 4) % 4294967296)) = true := bne_iff_ne.mpr c10
          obtain rfl := Option.some.inj H
          go_enter Try.func6, Try.ntmps6
          go_wp2_with (first | ((with_reducible refine gate_callee (f := 13) rfl ?_); refine goesL_ (some 18) rfl rfl Try.func13 (by kernel_rfl) rfl #[.agg #[.int .i64 43, .int .i64 0, .int .i64 0, .int .i64 0, .int .i64 0, .int .u32 (Go.bits .and .u32 a2 32767)], .int .u32 (Go.bits .andNot .u32 a0 3), .int .u32 a1] rfl (by (try simp only [List.map_toArray, List.map_cons, List.map_nil]); first | done | rfl | (simp only [List.length_drop, List.length_take]; rfl)) ?_; (with_reducible refine (branch_Target.calls k 43 0 0 0 0 (Go.bits .and .u32 a2 32767) (Go.bits .andNot .u32 a0 3) a1 t258 _ A4.out).mono ?_); rintro e w23 ⟨rfl, hb⟩; refine ⟨_, rfl, ?_⟩; have n0_ := Aside0.mk (below_step (by repeat (first | (with_reducible first | exact HB.out | apply below_alloc | apply pw_below_drewN | apply below_drew1) | exact HB.out)) hb); clear HB; have HB := n0_; clear n0_; (try clear hb); (try clear hb2); (try clear hk); (try clear hi)) | ((with_reducible refine gate_callee (f := 13) rfl ?_); refine goesL_ (some 26) rfl rfl Try.func13 (by kernel_rfl) rfl #[.agg #[.int .i64 43, .int .i64 0, .int .i64 0, .int .i64 0, .int .i64 0, .int .u32 (Go.bits .and .u32 ((-(Go.bits .and .u32 a2 32767)) % 4294967296) 65535)], .int .u32 (Go.bits .andNot .u32 a0 3), .int .u32 a1] rfl (by (try simp only [List.map_toArray, List.map_cons, List.map_nil]); first | done | rfl | (simp only [List.length_drop, List.length_take]; rfl)) ?_; (with_reducible refine (branch_Target.calls k 43 0 0 0 0 (Go.bits .and .u32 ((-(Go.bits .and .u32 a2 32767)) % 4294967296) 65535) (Go.bits .andNot .u32 a0 3) a1 t259 _ A5.out).mono ?_); rintro e w24 ⟨rfl, hb⟩; refine ⟨_, rfl, ?_⟩; have n0_ := Aside0.mk (below_step (by repeat (first | (with_reducible first | exact HB.out | apply below_alloc | apply pw_below_drewN | apply below_drew1) | exact HB.out)) hb); clear HB; have HB := n0_; clear n0_; (try clear hb); (try clear hb2); (try clear hk); (try clear hi)) | ((with_reducible refine gate_callee (f := 13) rfl ?_); refine goesL_ (some 32) rfl rfl Try.func13 (by kernel_rfl) rfl #[.agg #[.int .i64 41, .int .i64 0, .int .i64 0, .int .i64 0, .int .i64 0, .int .u32 (Go.bits .and .u32 a2 67108863)], .int .u32 (Go.bits .andNot .u32 a0 3), .int .u32 a1] rfl (by (try simp only [List.map_toArray, List.map_cons, List.map_nil]); first | done | rfl | (simp only [List.length_drop, List.length_take]; rfl)) ?_; (with_reducible refine (branch_Target.calls k 41 0 0 0 0 (Go.bits .and .u32 a2 67108863) (Go.bits .andNot .u32 a0 3) a1 t260 _ A6.out).mono ?_); rintro e w25 ⟨rfl, hb⟩; refine ⟨_, rfl, ?_⟩; have n0_ := Aside0.mk (below_step (by repeat (first | (with_reducible first | exact HB.out | apply below_alloc | apply pw_below_drewN | apply below_drew1) | exact HB.out)) hb); clear HB; have HB := n0_; clear n0_; (try clear hb); (try clear hb2); (try clear hk); (try clear hi)))
          go_ret
          exact ⟨by first | rfl | (simp [errW_none, errW_some] <;> rfl) | (simp [*, errW_none, errW_some] <;> rfl), by repeat (first | (with_reducible first | exact HB.out | apply below_alloc | apply pw_below_drewN | apply below_drew1) | exact HB.out)⟩
      · rw [if_neg c9] at H
        have c9b0 : ((t260 / 268435456) == ((((Go.bits .andNot .u32 a0 3) + 4) % 4294967296) / 268435456)) = false := beq_eq_false_iff_ne.mpr c9
        have c9b1 : ((t260 / 268435456) != ((((Go.bits .andNot .u32 a0 3) + 4) % 4294967296) / 268435456)) = true := bne_iff_ne.mpr c9
        obtain rfl := Option.some.inj H
        go_enter Try.func6, Try.ntmps6
        go_wp2_with (first | ((with_reducible refine gate_callee (f := 13) rfl ?_); refine goesL_ (some 18) rfl rfl Try.func13 (by kernel_rfl) rfl #[.agg #[.int .i64 43, .int .i64 0, .int .i64 0, .int .i64 0, .int .i64 0, .int .u32 (Go.bits .and .u32 a2 32767)], .int .u32 (Go.bits .andNot .u32 a0 3), .int .u32 a1] rfl (by (try simp only [List.map_toArray, List.map_cons, List.map_nil]); first | done | rfl | (simp only [List.length_drop, List.length_take]; rfl)) ?_; (with_reducible refine (branch_Target.calls k 43 0 0 0 0 (Go.bits .and .u32 a2 32767) (Go.bits .andNot .u32 a0 3) a1 t258 _ A4.out).mono ?_); rintro e w26 ⟨rfl, hb⟩; refine ⟨_, rfl, ?_⟩; have n0_ := Aside0.mk (below_step (by repeat (first | (with_reducible first | exact HB.out | apply below_alloc | apply pw_below_drewN | apply below_drew1) | exact HB.out)) hb); clear HB; have HB := n0_; clear n0_; (try clear hb); (try clear hb2); (try clear hk); (try clear hi)) | ((with_reducible refine gate_callee (f := 13) rfl ?_); refine goesL_ (some 26) rfl rfl Try.func13 (by kernel_rfl) rfl #[.agg #[.int .i64 43, .int .i64 0, .int .i64 0, .int .i64 0, .int .i64 0, .int .u32 (Go.bits .and .u32 ((-(Go.bits .and .u32 a2 32767)) % 4294967296) 65535)], .int .u32 (Go.bits .andNot .u32 a0 3), .int .u32 a1] rfl (by (try simp only [List.map_toArray, List.map_cons, List.map_nil]); first | done | rfl | (simp only [List.length_drop, List.length_take]; rfl)) ?_; (with_reducible refine (branch_Target.calls k 43 0 0 0 0 (Go.bits .and .u32 ((-(Go.bits .and .u32 a2 32767)) % 4294967296) 65535) (Go.bits .andNot .u32 a0 3) a1 t259 _ A5.out).mono ?_); rintro e w27 ⟨rfl, hb⟩; refine ⟨_, rfl, ?_⟩; have n0_ := Aside0.mk (below_step (by repeat (first | (with_reducible first | exact HB.out | apply below_alloc | apply pw_below_drewN | apply below_drew1) | exact HB.out)) hb); clear HB; have HB := n0_; clear n0_; (try clear hb); (try clear hb2); (try clear hk); (try clear hi)) | ((with_reducible refine gate_callee (f := 13) rfl ?_); refine goesL_ (some 32) rfl rfl Try.func13 (by kernel_rfl) rfl #[.agg #[.int .i64 41, .int .i64 0, .int .i64 0, .int .i64 0, .int .i64 0, .int .u32 (Go.bits .and .u32 a2 67108863)], .int .u32 (Go.bits .andNot .u32 a0 3), .int .u32 a1] rfl (by (try simp only [List.map_toArray, List.map_cons, List.map_nil]); first | done | rfl | (simp only [List.length_drop, List.length_take]; rfl)) ?_; (with_reducible refine (branch_Target.calls k 41 0 0 0 0 (Go.bits .and .u32 a2 67108863) (Go.bits .andNot .u32 a0 3) a1 t260 _ A6.out).mono ?_); rintro e w28 ⟨rfl, hb⟩; refine ⟨_, rfl, ?_⟩; have n0_ := Aside0.mk (below_step (by repeat (first | (with_reducible first | exact HB.out | apply below_alloc | apply pw_below_drewN | apply below_drew1) | exact HB.out)) hb); clear HB; have HB := n0_; clear n0_; (try clear hb); (try clear hb2); (try clear hk); (try clear hi)))
        go_ret
        exact ⟨by first | rfl | (simp [errW_none, errW_some] <;> rfl) | (simp [*, errW_none, errW_some] <;> rfl), by repeat (first | (with_reducible first | exact HB.out | apply below_alloc | apply pw_below_drewN | apply below_drew1) | exact HB.out)⟩
    · rw [if_neg c8] at H
      have c8b0 : (((t258 - ((Go.bits .andNot .u32 a0 3) + 4)) % 4294967296) == ((((Go.bits .andNot .u32 a0 3) + 4) - t259) % 4294967296)) = false := beq_eq_false_iff_ne.mpr c8
      have c8b1 : (((t258 - ((Go.bits .andNot .u32 a0 3) + 4)) % 4294967296) != ((((Go.bits .andNot .u32 a0 3) + 4) - t259) % 4294967296)) = true := bne_iff_ne.mpr c8
      obtain rfl := Option.some.inj H
      go_enter Try.func6, Try.ntmps6
      go_wp2_with (first | ((with_reducible refine gate_callee (f := 13) rfl ?_); refine goesL_ (some 18) rfl rfl Try.func13 (by kernel_rfl) rfl #[.agg #[.int .i64 43, .int .i64 0, .int .i64 0, .int .i64 0, .int .i64 0, .int .u32 (Go.bits .and .u32 a2 32767)], .int .u32 (Go.bits .andNot .u32 a0 3), .int .u32 a1] rfl (by (try simp only [List.map_toArray, List.map_cons, List.map_nil]); first | done | rfl | (simp only [List.length_drop, List.length_take]; rfl)) ?_; (with_reducible refine (branch_Target.calls k 43 0 0 0 0 (Go.bits .and .u32 a2 32767) (Go.bits .andNot .u32 a0 3) a1 t258 _ A4.out).mono ?_); rintro e w29 ⟨rfl, hb⟩; refine ⟨_, rfl, ?_⟩; have n0_ := Aside0.mk (below_step (by repeat (first | (with_reducible first | exact HB.out | apply below_alloc | apply pw_below_drewN | apply below_drew1) | exact HB.out)) hb); clear HB; have HB := n0_; clear n0_; (try clear hb); (try clear hb2); (try clear hk); (try clear hi)) | ((with_reducible refine gate_callee (f := 13) rfl ?_); refine goesL_ (some 26) rfl rfl Try.func13 (by kernel_rfl) rfl #[.agg #[.int .i64 43, .int .i64 0, .int .i64 0, .int .i64 0, .int .i64 0, .int .u32 (Go.bits .and .u32 ((-(Go.bits .and .u32 a2 32767)) % 4294967296) 65535)], .int .u32 (Go.bits .andNot .u32 a0 3), .int .u32 a1] rfl (by (try simp only [List.map_toArray, List.map_cons, List.map_nil]); first | done | rfl | (simp only [List.length_drop, List.length_take]; rfl)) ?_; (with_reducible refine (branch_Target.calls k 43 0 0 0 0 (Go.bits .and .u32 ((-(Go.bits .and .u32 a2 32767)) % 4294967296) 65535) (Go.bits .andNot .u32 a0 3) a1 t259 _ A5.out).mono ?_); rintro e w30 ⟨rfl, hb⟩; refine ⟨_, rfl, ?_⟩; have n0_ := Aside0.mk (below_step (by repeat (first | (with_reducible first | exact HB.out | apply below_alloc | apply pw_below_drewN | apply below_drew1) | exact HB.out)) hb); clear HB; have HB := n0_; clear n0_; (try clear hb); (try clear hb2); (try clear hk); (try clear hi)) | ((with_reducible refine gate_callee (f := 13) rfl ?_); refine goesL_ (some 32) rfl rfl Try.func13 (by kernel_rfl) rfl #[.agg #[.int .i64 41, .int .i64 0, .int .i64 0, .int .i64 0, .int .i64 0, .int .u32 (Go.bits .and .u32 a2 67108863)], .int .u32 (Go.bits .andNot .u32 a0 3), .int .u32 a1] rfl (by (try simp only [List.map_toArray, List.map_cons, List.map_nil]); first | done | rfl | (simp only [List.length_drop, List.length_take]; rfl)) ?_; (with_reducible refine (branch_Target.calls k 41 0 0 0 0 (Go.bits .and .u32 a2 67108863) (Go.bits .andNot .u32 a0 3) a1 t260 _ A6.out).mono ?_); rintro e w31 ⟨rfl, hb⟩; refine ⟨_, rfl, ?_⟩; have n0_ := Aside0.mk (below_step (by repeat (first | (with_reducible first | exact HB.out | apply below_alloc | apply pw_below_drewN | apply below_drew1) | exact HB.out)) hb); clear HB; have HB := n0_; clear n0_; (try clear hb); (try clear hb2); (try clear hk); (try clear hi)))
      go_ret
      exact ⟨by first | rfl | (simp [errW_none, errW_some] <;> rfl) | (simp [*, errW_none, errW_some] <;> rfl), by repeat (first | (with_reducible first | exact HB.out | apply below_alloc | apply pw_below_drewN | apply below_drew1) | exact HB.out)⟩
  · rw [if_neg c7] at H
    have c7b0 : (((t258 - ((Go.bits .andNot .u32 a0 3) + 4)) % 4294967296) == ((4 * (Go.bits .and .u32 a2 32767)) % 4294967296)) = false := beq_eq_false_iff_ne.mpr c7
    have c7b1 : (((t258 - ((Go.bits .andNot .u32 a0 3) + 4)) % 4294967296) != ((4 * (Go.bits .and .u32 a2 32767)) % 4294967296)) = true := bne_iff_ne.mpr c7
    obtain rfl := Option.some.inj H
    go_enter Try.func6, Try.ntmps6
    go_wp2_with (first | ((with_reducible refine gate_callee (f := 13) rfl ?_); refine goesL_ (some 18) rfl rfl Try.func13 (by kernel_rfl) rfl #[.agg #[.int .i64 43, .int .i64 0, .int .i64 0, .int .i64 0, .int .i64 0, .int .u32 (Go.bits .and .u32 a2 32767)], .int .u32 (Go.bits .andNot .u32 a0 3), .int .u32 a1] rfl (by (try simp only [List.map_toArray, List.map_cons, List.map_nil]); first | done | rfl | (simp only [List.length_drop, List.length_take]; rfl)) ?_; (with_reducible refine (branch_Target.calls k 43 0 0 0 0 (Go.bits .and .u32 a2 32767) (Go.bits .andNot .u32 a0 3) a1 t258 _ A4.out).mono ?_); rintro e w32 ⟨rfl, hb⟩; refine ⟨_, rfl, ?_⟩; have n0_ := Aside0.mk (below_step (by repeat (first | (with_reducible first | exact HB.out | apply below_alloc | apply pw_below_drewN | apply below_drew1) | exact HB.out)) hb); clear HB; have HB := n0_; clear n0_; (try clear hb); (try clear hb2); (try clear hk); (try clear hi)) | ((with_reducible refine gate_callee (f := 13) rfl ?_); refine goesL_ (some 26) rfl rfl Try.func13 (by kernel_rfl) rfl #[.agg #[.int .i64 43, .int .i64 0, .int .i64 0, .int .i64 0, .int .i64 0, .int .u32 (Go.bits .and .u32 ((-(Go.bits .and .u32 a2 32767)) % 4294967296) 65535)], .int .u32 (Go.bits .andNot .u32 a0 3), .int .u32 a1] rfl (by (try simp only [List.map_toArray, List.map_cons, List.map_nil]); first | done | rfl | (simp only [List.length_drop, List.length_take]; rfl)) ?_; (with_reducible refine (branch_Target.calls k 43 0 0 0 0 (Go.bits .and .u32 ((-(Go.bits .and .u32 a2 32767)) % 4294967296) 65535) (Go.bits .andNot .u32 a0 3) a1 t259 _ A5.out).mono ?_); rintro e w33 ⟨rfl, hb⟩; refine ⟨_, rfl, ?_⟩; have n0_ := Aside0.mk (below_step (by repeat (first | (with_reducible first | exact HB.out | apply below_alloc | apply pw_below_drewN | apply below_drew1) | exact HB.out)) hb); clear HB; have HB := n0_; clear n0_; (try clear hb); (try clear hb2); (try clear hk); (try clear hi)) | ((with_reducible refine gate_callee (f := 13) rfl ?_); refine goesL_ (some 32) rfl rfl Try.func13 (by kernel_rfl) rfl #[.agg #[.int .i64 41, .int .i64 0, .int .i64 0, .int .i64 0, .int .i64 0, .int .u32 (Go.bits .and .u32 a2 67108863)], .int .u32 (Go.bits .andNot .u32 a0 3), .int .u32 a1] rfl (by (try simp only [List.map_toArray, List.map_cons, List.map_nil]); first | done | rfl | (simp only [List.length_drop, List.length_take]; rfl)) ?_; (with_reducible refine (branch_Target.calls k 41 0 0 0 0 (Go.bits .and .u32 a2 67108863) (Go.bits .andNot .u32 a0 3) a1 t260 _ A6.out).mono ?_); rintro e w34 ⟨rfl, hb⟩; refine ⟨_, rfl, ?_⟩; have n0_ := Aside0.mk (below_step (by repeat (first | (with_reducible first | exact HB.out | apply below_alloc | apply pw_below_drewN | apply below_drew1) | exact HB.out)) hb); clear HB; have HB := n0_; clear n0_; (try clear hb); (try clear hb2); (try clear hk); (try clear hi)))
    go_ret
    exact ⟨by first | rfl | (simp [errW_none, errW_some] <;> rfl) | (simp [*, errW_none, errW_some] <;> rfl), by repeat (first | (with_reducible first | exact HB.out | apply below_alloc | apply pw_below_drewN | apply below_drew1) | exact HB.out)⟩

/-- THE ONE PURE STATEMENT of pianolalaw5_BranchBack: yours. -/
def pianolalaw5_BranchBack.Pure : Prop := ∀ (a0 : Int) (a1 : Int) (a2 : Int), (Lit.int .u32 a0).wf = true → (Lit.int .u32 a1).wf = true → (Lit.int .u32 a2).wf = true → ∃ k, pianolalaw5_BranchBack.f k a0 a1 a2 = some true
theorem pianolalaw5_BranchBack.walk (P : pianolalaw5_BranchBack.Pure) (a0 : Int) (a1 : Int) (a2 : Int) (w : World) (w0 : (Lit.int .u32 a0).wf = true) (w1 : (Lit.int .u32 a1).wf = true) (w2 : (Lit.int .u32 a2).wf = true) :
    Calls Try.prog 6 #[.int .u32 a0, .int .u32 a1, .int .u32 a2] w fun e w' => e = .returned (.bool true) ∧ Below w.heap.size w w' := by
  obtain ⟨k, h⟩ := P a0 a1 a2 w0 w1 w2
  refine (pianolalaw5_BranchBack.calls k a0 a1 a2 true w h).mono ?_
  rintro e w' ⟨rfl, hd⟩
  exact ⟨rfl, hd⟩

end Go.Proofs.Ytchpcjdhflbikaa.Q
