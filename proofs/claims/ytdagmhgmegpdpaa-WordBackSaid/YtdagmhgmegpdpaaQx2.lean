-- Written by a program of this session: a turned copy of the kit's print (wip/print/fork.py), whose words lie beside.
import Derived.Test.YtdagmhgmegpdpaaQx0
import Derived.Test.YtdagmhgmegpdpaaQx1
namespace Go.Proofs.Ytdagmhgmegpdpaa.Q
open Go.RowKit Go.Proofs.YtdagmhgmegpdpaaW.PrintWords Go.Proofs.YtdagmhgmegpdpaaW.PrintLast Go.Proofs.YtdagmhgmegpdpaaW.PrintMore
attribute [local go_sem] max2_int min2_int max_two min_two max_three min_three max_four min_four   -- for this text's walks alone
set_option linter.unusedVariables false
set_option linter.unusedSimpArgs false

/-! ### pianolalaw1_WordSums: function 4 -/
def pianolalaw1_WordSums.l0 : Nat → Int → Int → Int → Bool → Bool → List Bool → Int → Int → Option (Bool)
  | 0, _, _, _, _, _, _, _, _ => none
  | k + 1, x0, x1, x2, x8, x10, x37, x38, x39 => if x39 < x38 then (if 0 ≤ x39 then (if x39 < (x37.length : Int) then ((word_Less.f x0 x0 (rdOf false x37 x39)).bind fun t127 => (if t127 = true then (some false) else ((word_Less.f x0 x1 (rdOf false x37 x39)).bind fun t128 => (if t128 = true then ((word_Less.f x1 x0 (rdOf false x37 x39)).bind fun t129 => (if t129 = true then (some false) else (if x0 = x1 then ((word_Less.f x1 x2 (rdOf false x37 x39)).bind fun t130 => (if t130 = true then ((word_Less.f x0 x2 (rdOf false x37 x39)).bind fun t131 => (if t131 = true then (pianolalaw1_WordSums.l0 k x0 x1 x2 x8 x10 x37 x38 (wrap64 (x39 + 1))) else (some false))) else (pianolalaw1_WordSums.l0 k x0 x1 x2 x8 x10 x37 x38 (wrap64 (x39 + 1))))) else ((word_Less.f x1 x2 (rdOf false x37 x39)).bind fun t132 => (if t132 = true then ((word_Less.f x0 x2 (rdOf false x37 x39)).bind fun t133 => (if t133 = true then (pianolalaw1_WordSums.l0 k x0 x1 x2 x8 x10 x37 x38 (wrap64 (x39 + 1))) else (some false))) else (pianolalaw1_WordSums.l0 k x0 x1 x2 x8 x10 x37 x38 (wrap64 (x39 + 1)))))))) else (if x0 = x1 then (pianolalaw1_WordSums.l0 k x0 x1 x2 x8 x10 x37 x38 (wrap64 (x39 + 1))) else ((word_Less.f x1 x0 (rdOf false x37 x39)).bind fun t134 => (if t134 = true then (pianolalaw1_WordSums.l0 k x0 x1 x2 x8 x10 x37 x38 (wrap64 (x39 + 1))) else (some false)))))))) else (none)) else (none)) else ((word_Over.f x0 x1 false).bind fun t123 => (if (t123 == x8) = true then ((word_Over.f x0 x1 true).bind fun t124 => (if (t124 == x10) = true then ((pianolalaw1_known.f).bind fun t125 => (some t125)) else (some false))) else (some false)))
def pianolalaw1_WordSums.f (k : Nat) (a0 : Int) (a1 : Int) (a2 : Int) : Option (Bool) := (some (([false, true] : List Bool) : List Bool)).bind fun y120 => (pianolalaw1_WordSums.l0 k a0 a1 a2 (((Go.bits .and .u32 (Go.bits .xor .u32 a0 ((a0 + a1) % 4294967296)) (Go.bits .xor .u32 a1 ((a0 + a1) % 4294967296))) / 2147483648) == 1) (((Go.bits .and .u32 (Go.bits .xor .u32 a0 a1) (Go.bits .xor .u32 a0 ((a0 - a1) % 4294967296))) / 2147483648) == 1) y120 (y120.length : Int) 0)
theorem pianolalaw1_WordSums.mono_l : ∀ k, (∀ y0 y1 y2 y3 y4 y5 y6 y7, LeO (pianolalaw1_WordSums.l0 k y0 y1 y2 y3 y4 y5 y6 y7) (pianolalaw1_WordSums.l0 (k + 1) y0 y1 y2 y3 y4 y5 y6 y7))
  | 0 => fun _ _ _ _ _ _ _ _ r h => by simp [pianolalaw1_WordSums.l0] at h
  | k + 1 => by
    have ih0 := pianolalaw1_WordSums.mono_l k
    · intro y0 y1 y2 y3 y4 y5 y6 y7
      unfold pianolalaw1_WordSums.l0
      repeat' first
      | (with_reducible exact ih0 _ _ _ _ _ _ _ _)
      | (with_reducible exact LeO.refl _)
      | (with_reducible exact LeO.none _)
      | (with_reducible refine LeO.ite ?_ ?_)
      | (with_reducible refine LeO.bind ?_ (fun _ => ?_))
      | exact ih0 _ _ _ _ _ _ _ _
      | exact LeO.none _
      | refine LeO.ite ?_ ?_
      | refine LeO.bind ?_ (fun _ => ?_)
theorem pianolalaw1_WordSums.mono : ∀ a0 a1 a2 k, LeO (pianolalaw1_WordSums.f k a0 a1 a2) (pianolalaw1_WordSums.f (k + 1) a0 a1 a2) := by
  intro a0 a1 a2 k
  have ih0 := pianolalaw1_WordSums.mono_l k
  unfold pianolalaw1_WordSums.f
  repeat' first
      | (with_reducible exact ih0 _ _ _ _ _ _ _ _)
      | (with_reducible exact LeO.refl _)
      | (with_reducible exact LeO.none _)
      | (with_reducible refine LeO.ite ?_ ?_)
      | (with_reducible refine LeO.bind ?_ (fun _ => ?_))
      | exact ih0 _ _ _ _ _ _ _ _
      | exact LeO.none _
      | refine LeO.ite ?_ ?_
      | refine LeO.bind ?_ (fun _ => ?_)
set_option maxHeartbeats 8000000 in
set_option maxRecDepth 100000 in
theorem pianolalaw1_WordSums.calls (k : Nat) (a0 : Int) (a1 : Int) (a2 : Int) (r : Bool) (w : World) (h : pianolalaw1_WordSums.f k a0 a1 a2 = some r) :
    Calls Try.prog 4 #[.int .u32 a0, .int .u32 a1, .int .u32 a2] w fun e w' => e = .returned (.bool r) ∧ Below w.heap.size w w' := by
  have HB := Aside0.mk (Below.refl w.heap.size w)
  have H : ((some (([false, true] : List Bool) : List Bool)).bind fun y120 => (pianolalaw1_WordSums.l0 k a0 a1 a2 (((Go.bits .and .u32 (Go.bits .xor .u32 a0 ((a0 + a1) % 4294967296)) (Go.bits .xor .u32 a1 ((a0 + a1) % 4294967296))) / 2147483648) == 1) (((Go.bits .and .u32 (Go.bits .xor .u32 a0 a1) (Go.bits .xor .u32 a0 ((a0 - a1) % 4294967296))) / 2147483648) == 1) y120 (y120.length : Int) 0)) = some r := h
  clear h
  obtain ⟨y120, hy120⟩ : ∃ y_ : List Bool, y_ = (([false, true] : List Bool)) := ⟨_, rfl⟩
  replace H : (pianolalaw1_WordSums.l0 k a0 a1 a2 (((Go.bits .and .u32 (Go.bits .xor .u32 a0 ((a0 + a1) % 4294967296)) (Go.bits .xor .u32 a1 ((a0 + a1) % 4294967296))) / 2147483648) == 1) (((Go.bits .and .u32 (Go.bits .xor .u32 a0 a1) (Go.bits .xor .u32 a0 ((a0 - a1) % 4294967296))) / 2147483648) == 1) y120 (y120.length : Int) 0) = some r := by first | (rw [hy120]; with_reducible exact H) | (have H2_ := (Option.bind_some _ _).symm.trans H; rw [hy120]; with_reducible exact H2_) | (have H2_ := (Option.bind_some _ _).symm.trans H; with_reducible exact H2_) | with_reducible exact H | (rw [hy120]; exact H) | exact H
  have Ny120 := Aside0.mk hy120
  clear hy120
  have H' := Aside0.mk H
  clear H
  go_enter Try.func4, Try.ntmps4
  go_wp2_with (first | ((with_reducible refine gate_dst (N := 37) rfl ?_); refine Kd.R_lit Kd.bool _ 4 ?hg (N := 37) ?hd (xs := ([false, true] : List Bool)) (inner := [.bool false, .bool true]) (ok := fun _ => True) (okp := fun _ => True) ?hr ?hp (fun _ hk => hk) trivial (Below.refl _ _) (Nat.le_refl _) (by simp) ?_; (case hd => rfl); (case hg => rfl); (case hr => first | (go_simp; done) | (go_simp; rfl)); (case hp => exact (Reps.one (show Kd.M Kd.bool _ _ _ false [.bool false] from rfl) (Reps.one (show Kd.M Kd.bool _ _ _ true [.bool true] from rfl) (Reps.none _ _)))); intro v121 w4 ho5 hb hg_ hnew_; clear hg_ hnew_; (first | rw [← Ny120.out] at ho5 | (simp only [Int.reduceToNat] at ho5; rw [← Ny120.out] at ho5)); have n0_ := Aside0.mk (Kd.R_lower ho5 (below_size (by repeat (first | (with_reducible first | exact HB.out | apply below_alloc | apply pw_below_drewN | apply below_drew1) | exact HB.out)))); have n1_ := Aside0.mk (below_step (by repeat (first | (with_reducible first | exact HB.out | apply below_alloc | apply pw_below_drewN | apply below_drew1) | exact HB.out)) hb); clear HB; have HO122 := n0_; have HB := n1_; clear n0_ n1_; clear hb ho5; obtain ⟨Ao6, co6, eo6⟩ := Kd.R_slice HO122.out; subst eo6))
  go_loopg [39] k (fun kq v39 w' => ∃ (x39_1 : Int), v39 = .int .i64 x39_1 ∧ Aside0 (pianolalaw1_WordSums.l0 kq a0 a1 a2 (((Go.bits .and .u32 (Go.bits .xor .u32 a0 ((a0 + a1) % 4294967296)) (Go.bits .xor .u32 a1 ((a0 + a1) % 4294967296))) / 2147483648) == 1) (((Go.bits .and .u32 (Go.bits .xor .u32 a0 a1) (Go.bits .xor .u32 a0 ((a0 - a1) % 4294967296))) / 2147483648) == 1) y120 (y120.length : Int) x39_1 = some r) ∧ Aside0 (kq ≤ k) ∧ Aside0 (Kd.R Kd.bool 4 w' w.heap.size (fun _ => True) (.slice Ao6 y120.length co6) y120) ∧ Aside0 (Below w.heap.size w w'))
  case atStart => exact ⟨(0), (by first | rfl | (simp; done) | (simp [*]; done) | (simp; omega)), H', ⟨Nat.le_refl _⟩, ⟨by (with_reducible repeat (first | apply Kd.R_alloc | apply Kd.R_drewN | apply Kd.R_drew)); exact HO122.out⟩, ⟨by repeat (first | (with_reducible first | exact HB.out | apply below_alloc | apply pw_below_drewN | apply below_drew1) | exact HB.out)⟩⟩
  case round =>
    clear H'
    try clear p2
    try clear c4
    obtain ⟨x39_1, rfl, HA, HK1, HO_37, HB⟩ := hrel
    cases gk with
    | zero => exact absurd HA.out (by simp [pianolalaw1_WordSums.l0])
    | succ k1 =>
      have H := HA.out
      clear HA
      simp only [pianolalaw1_WordSums.l0] at H
      by_cases c7 : x39_1 < (y120.length : Int)
      · rw [if_pos c7] at H
        have c7b0 : decide (x39_1 < (y120.length : Int)) = true := decide_eq_true c7
        clear c7
        by_cases c8 : 0 ≤ x39_1
        · rw [if_pos c8] at H
          have c8b0 : decide (0 ≤ x39_1) = true := decide_eq_true c8
          clear c8
          by_cases c9 : x39_1 < (y120.length : Int)
          · rw [if_pos c9] at H
            have c9b0 : decide (x39_1 < (y120.length : Int)) = true := decide_eq_true c9
            clear c9
            replace H := Option.bind_eq_some_iff.mp H
            obtain ⟨t127, A100, H⟩ := H
            replace H : (if t127 = true then (some false) else ((word_Less.f a0 a1 (rdOf false y120 x39_1)).bind fun t128 => (if t128 = true then ((word_Less.f a1 a0 (rdOf false y120 x39_1)).bind fun t129 => (if t129 = true then (some false) else (if a0 = a1 then ((word_Less.f a1 a2 (rdOf false y120 x39_1)).bind fun t130 => (if t130 = true then ((word_Less.f a0 a2 (rdOf false y120 x39_1)).bind fun t131 => (if t131 = true then (pianolalaw1_WordSums.l0 k1 a0 a1 a2 (((Go.bits .and .u32 (Go.bits .xor .u32 a0 ((a0 + a1) % 4294967296)) (Go.bits .xor .u32 a1 ((a0 + a1) % 4294967296))) / 2147483648) == 1) (((Go.bits .and .u32 (Go.bits .xor .u32 a0 a1) (Go.bits .xor .u32 a0 ((a0 - a1) % 4294967296))) / 2147483648) == 1) y120 (y120.length : Int) (wrap64 (x39_1 + 1))) else (some false))) else (pianolalaw1_WordSums.l0 k1 a0 a1 a2 (((Go.bits .and .u32 (Go.bits .xor .u32 a0 ((a0 + a1) % 4294967296)) (Go.bits .xor .u32 a1 ((a0 + a1) % 4294967296))) / 2147483648) == 1) (((Go.bits .and .u32 (Go.bits .xor .u32 a0 a1) (Go.bits .xor .u32 a0 ((a0 - a1) % 4294967296))) / 2147483648) == 1) y120 (y120.length : Int) (wrap64 (x39_1 + 1))))) else ((word_Less.f a1 a2 (rdOf false y120 x39_1)).bind fun t132 => (if t132 = true then ((word_Less.f a0 a2 (rdOf false y120 x39_1)).bind fun t133 => (if t133 = true then (pianolalaw1_WordSums.l0 k1 a0 a1 a2 (((Go.bits .and .u32 (Go.bits .xor .u32 a0 ((a0 + a1) % 4294967296)) (Go.bits .xor .u32 a1 ((a0 + a1) % 4294967296))) / 2147483648) == 1) (((Go.bits .and .u32 (Go.bits .xor .u32 a0 a1) (Go.bits .xor .u32 a0 ((a0 - a1) % 4294967296))) / 2147483648) == 1) y120 (y120.length : Int) (wrap64 (x39_1 + 1))) else (some false))) else (pianolalaw1_WordSums.l0 k1 a0 a1 a2 (((Go.bits .and .u32 (Go.bits .xor .u32 a0 ((a0 + a1) % 4294967296)) (Go.bits .xor .u32 a1 ((a0 + a1) % 4294967296))) / 2147483648) == 1) (((Go.bits .and .u32 (Go.bits .xor .u32 a0 a1) (Go.bits .xor .u32 a0 ((a0 - a1) % 4294967296))) / 2147483648) == 1) y120 (y120.length : Int) (wrap64 (x39_1 + 1)))))))) else (if a0 = a1 then (pianolalaw1_WordSums.l0 k1 a0 a1 a2 (((Go.bits .and .u32 (Go.bits .xor .u32 a0 ((a0 + a1) % 4294967296)) (Go.bits .xor .u32 a1 ((a0 + a1) % 4294967296))) / 2147483648) == 1) (((Go.bits .and .u32 (Go.bits .xor .u32 a0 a1) (Go.bits .xor .u32 a0 ((a0 - a1) % 4294967296))) / 2147483648) == 1) y120 (y120.length : Int) (wrap64 (x39_1 + 1))) else ((word_Less.f a1 a0 (rdOf false y120 x39_1)).bind fun t134 => (if t134 = true then (pianolalaw1_WordSums.l0 k1 a0 a1 a2 (((Go.bits .and .u32 (Go.bits .xor .u32 a0 ((a0 + a1) % 4294967296)) (Go.bits .xor .u32 a1 ((a0 + a1) % 4294967296))) / 2147483648) == 1) (((Go.bits .and .u32 (Go.bits .xor .u32 a0 a1) (Go.bits .xor .u32 a0 ((a0 - a1) % 4294967296))) / 2147483648) == 1) y120 (y120.length : Int) (wrap64 (x39_1 + 1))) else (some false))))))) = some r := H
            have A10 := Aside0.mk A100
            clear A100
            by_cases c11 : t127 = true
            · subst c11
              have H1 : (some false) = some r := by rw [if_pos rfl] at H; exact H
              clear H
              have H := H1
              clear H1
              obtain rfl := Option.some.inj H
              have p126 : 0 ≤ (x39_1 : Int) := of_decide_eq_true (by first | (with_reducible assumption) | assumption)
              have q126 : x39_1 < (y120.length : Int) := of_decide_eq_true (by first | (with_reducible assumption) | assumption)
              obtain ⟨ad126, e126, hx126_0⟩ := Kd.at_bool (Kd.R_reads' HO_37.out).2.2 x39_1 p126 q126
              cases e126
              replace p126 := eq_true p126
              replace q126 := eq_true q126
              go_wp2_with (first | ((with_reducible refine gate_callee (f := 13) rfl ?_); refine goesL_ (some 46) rfl rfl Try.func13 (by kernel_rfl) rfl #[.int .u32 a0, .int .u32 a0, .bool (rdOf false y120 x39_1)] rfl (by (try simp only [List.map_toArray, List.map_cons, List.map_nil]); first | done | rfl | (simp only [List.length_drop, List.length_take]; rfl)) ?_; (with_reducible refine (word_Less.calls a0 a0 (rdOf false y120 x39_1) true _ A10.out).mono ?_); rintro e w' ⟨rfl, ⟨nd, rfl⟩⟩; refine ⟨_, rfl, ?_⟩) | (go_at_call 13; (with_reducible refine (word_Less.calls a0 a0 (rdOf false y120 x39_1) true _ A10.out).mono ?_); rintro e w' ⟨rfl, ⟨nd, rfl⟩⟩))
              go_ret
              exact ⟨by first | rfl | (simp [errW_none, errW_some] <;> rfl) | (simp [*, errW_none, errW_some] <;> rfl), by repeat (first | (with_reducible first | exact HB.out | apply below_alloc | apply pw_below_drewN | apply below_drew1) | exact HB.out)⟩
            · replace c11 := Bool.eq_false_iff.mpr c11
              subst c11
              have H1 : ((word_Less.f a0 a1 (rdOf false y120 x39_1)).bind fun t128 => (if t128 = true then ((word_Less.f a1 a0 (rdOf false y120 x39_1)).bind fun t129 => (if t129 = true then (some false) else (if a0 = a1 then ((word_Less.f a1 a2 (rdOf false y120 x39_1)).bind fun t130 => (if t130 = true then ((word_Less.f a0 a2 (rdOf false y120 x39_1)).bind fun t131 => (if t131 = true then (pianolalaw1_WordSums.l0 k1 a0 a1 a2 (((Go.bits .and .u32 (Go.bits .xor .u32 a0 ((a0 + a1) % 4294967296)) (Go.bits .xor .u32 a1 ((a0 + a1) % 4294967296))) / 2147483648) == 1) (((Go.bits .and .u32 (Go.bits .xor .u32 a0 a1) (Go.bits .xor .u32 a0 ((a0 - a1) % 4294967296))) / 2147483648) == 1) y120 (y120.length : Int) (wrap64 (x39_1 + 1))) else (some false))) else (pianolalaw1_WordSums.l0 k1 a0 a1 a2 (((Go.bits .and .u32 (Go.bits .xor .u32 a0 ((a0 + a1) % 4294967296)) (Go.bits .xor .u32 a1 ((a0 + a1) % 4294967296))) / 2147483648) == 1) (((Go.bits .and .u32 (Go.bits .xor .u32 a0 a1) (Go.bits .xor .u32 a0 ((a0 - a1) % 4294967296))) / 2147483648) == 1) y120 (y120.length : Int) (wrap64 (x39_1 + 1))))) else ((word_Less.f a1 a2 (rdOf false y120 x39_1)).bind fun t132 => (if t132 = true then ((word_Less.f a0 a2 (rdOf false y120 x39_1)).bind fun t133 => (if t133 = true then (pianolalaw1_WordSums.l0 k1 a0 a1 a2 (((Go.bits .and .u32 (Go.bits .xor .u32 a0 ((a0 + a1) % 4294967296)) (Go.bits .xor .u32 a1 ((a0 + a1) % 4294967296))) / 2147483648) == 1) (((Go.bits .and .u32 (Go.bits .xor .u32 a0 a1) (Go.bits .xor .u32 a0 ((a0 - a1) % 4294967296))) / 2147483648) == 1) y120 (y120.length : Int) (wrap64 (x39_1 + 1))) else (some false))) else (pianolalaw1_WordSums.l0 k1 a0 a1 a2 (((Go.bits .and .u32 (Go.bits .xor .u32 a0 ((a0 + a1) % 4294967296)) (Go.bits .xor .u32 a1 ((a0 + a1) % 4294967296))) / 2147483648) == 1) (((Go.bits .and .u32 (Go.bits .xor .u32 a0 a1) (Go.bits .xor .u32 a0 ((a0 - a1) % 4294967296))) / 2147483648) == 1) y120 (y120.length : Int) (wrap64 (x39_1 + 1)))))))) else (if a0 = a1 then (pianolalaw1_WordSums.l0 k1 a0 a1 a2 (((Go.bits .and .u32 (Go.bits .xor .u32 a0 ((a0 + a1) % 4294967296)) (Go.bits .xor .u32 a1 ((a0 + a1) % 4294967296))) / 2147483648) == 1) (((Go.bits .and .u32 (Go.bits .xor .u32 a0 a1) (Go.bits .xor .u32 a0 ((a0 - a1) % 4294967296))) / 2147483648) == 1) y120 (y120.length : Int) (wrap64 (x39_1 + 1))) else ((word_Less.f a1 a0 (rdOf false y120 x39_1)).bind fun t134 => (if t134 = true then (pianolalaw1_WordSums.l0 k1 a0 a1 a2 (((Go.bits .and .u32 (Go.bits .xor .u32 a0 ((a0 + a1) % 4294967296)) (Go.bits .xor .u32 a1 ((a0 + a1) % 4294967296))) / 2147483648) == 1) (((Go.bits .and .u32 (Go.bits .xor .u32 a0 a1) (Go.bits .xor .u32 a0 ((a0 - a1) % 4294967296))) / 2147483648) == 1) y120 (y120.length : Int) (wrap64 (x39_1 + 1))) else (some false)))))) = some r := by rw [if_neg (show ¬ (false = true) by decide)] at H; exact H
              clear H
              have H := H1
              clear H1
              replace H := Option.bind_eq_some_iff.mp H
              obtain ⟨t128, A120, H⟩ := H
              replace H : (if t128 = true then ((word_Less.f a1 a0 (rdOf false y120 x39_1)).bind fun t129 => (if t129 = true then (some false) else (if a0 = a1 then ((word_Less.f a1 a2 (rdOf false y120 x39_1)).bind fun t130 => (if t130 = true then ((word_Less.f a0 a2 (rdOf false y120 x39_1)).bind fun t131 => (if t131 = true then (pianolalaw1_WordSums.l0 k1 a0 a1 a2 (((Go.bits .and .u32 (Go.bits .xor .u32 a0 ((a0 + a1) % 4294967296)) (Go.bits .xor .u32 a1 ((a0 + a1) % 4294967296))) / 2147483648) == 1) (((Go.bits .and .u32 (Go.bits .xor .u32 a0 a1) (Go.bits .xor .u32 a0 ((a0 - a1) % 4294967296))) / 2147483648) == 1) y120 (y120.length : Int) (wrap64 (x39_1 + 1))) else (some false))) else (pianolalaw1_WordSums.l0 k1 a0 a1 a2 (((Go.bits .and .u32 (Go.bits .xor .u32 a0 ((a0 + a1) % 4294967296)) (Go.bits .xor .u32 a1 ((a0 + a1) % 4294967296))) / 2147483648) == 1) (((Go.bits .and .u32 (Go.bits .xor .u32 a0 a1) (Go.bits .xor .u32 a0 ((a0 - a1) % 4294967296))) / 2147483648) == 1) y120 (y120.length : Int) (wrap64 (x39_1 + 1))))) else ((word_Less.f a1 a2 (rdOf false y120 x39_1)).bind fun t132 => (if t132 = true then ((word_Less.f a0 a2 (rdOf false y120 x39_1)).bind fun t133 => (if t133 = true then (pianolalaw1_WordSums.l0 k1 a0 a1 a2 (((Go.bits .and .u32 (Go.bits .xor .u32 a0 ((a0 + a1) % 4294967296)) (Go.bits .xor .u32 a1 ((a0 + a1) % 4294967296))) / 2147483648) == 1) (((Go.bits .and .u32 (Go.bits .xor .u32 a0 a1) (Go.bits .xor .u32 a0 ((a0 - a1) % 4294967296))) / 2147483648) == 1) y120 (y120.length : Int) (wrap64 (x39_1 + 1))) else (some false))) else (pianolalaw1_WordSums.l0 k1 a0 a1 a2 (((Go.bits .and .u32 (Go.bits .xor .u32 a0 ((a0 + a1) % 4294967296)) (Go.bits .xor .u32 a1 ((a0 + a1) % 4294967296))) / 2147483648) == 1) (((Go.bits .and .u32 (Go.bits .xor .u32 a0 a1) (Go.bits .xor .u32 a0 ((a0 - a1) % 4294967296))) / 2147483648) == 1) y120 (y120.length : Int) (wrap64 (x39_1 + 1)))))))) else (if a0 = a1 then (pianolalaw1_WordSums.l0 k1 a0 a1 a2 (((Go.bits .and .u32 (Go.bits .xor .u32 a0 ((a0 + a1) % 4294967296)) (Go.bits .xor .u32 a1 ((a0 + a1) % 4294967296))) / 2147483648) == 1) (((Go.bits .and .u32 (Go.bits .xor .u32 a0 a1) (Go.bits .xor .u32 a0 ((a0 - a1) % 4294967296))) / 2147483648) == 1) y120 (y120.length : Int) (wrap64 (x39_1 + 1))) else ((word_Less.f a1 a0 (rdOf false y120 x39_1)).bind fun t134 => (if t134 = true then (pianolalaw1_WordSums.l0 k1 a0 a1 a2 (((Go.bits .and .u32 (Go.bits .xor .u32 a0 ((a0 + a1) % 4294967296)) (Go.bits .xor .u32 a1 ((a0 + a1) % 4294967296))) / 2147483648) == 1) (((Go.bits .and .u32 (Go.bits .xor .u32 a0 a1) (Go.bits .xor .u32 a0 ((a0 - a1) % 4294967296))) / 2147483648) == 1) y120 (y120.length : Int) (wrap64 (x39_1 + 1))) else (some false))))) = some r := H
              have A12 := Aside0.mk A120
              clear A120
              by_cases c13 : t128 = true
              · subst c13
                have H1 : ((word_Less.f a1 a0 (rdOf false y120 x39_1)).bind fun t129 => (if t129 = true then (some false) else (if a0 = a1 then ((word_Less.f a1 a2 (rdOf false y120 x39_1)).bind fun t130 => (if t130 = true then ((word_Less.f a0 a2 (rdOf false y120 x39_1)).bind fun t131 => (if t131 = true then (pianolalaw1_WordSums.l0 k1 a0 a1 a2 (((Go.bits .and .u32 (Go.bits .xor .u32 a0 ((a0 + a1) % 4294967296)) (Go.bits .xor .u32 a1 ((a0 + a1) % 4294967296))) / 2147483648) == 1) (((Go.bits .and .u32 (Go.bits .xor .u32 a0 a1) (Go.bits .xor .u32 a0 ((a0 - a1) % 4294967296))) / 2147483648) == 1) y120 (y120.length : Int) (wrap64 (x39_1 + 1))) else (some false))) else (pianolalaw1_WordSums.l0 k1 a0 a1 a2 (((Go.bits .and .u32 (Go.bits .xor .u32 a0 ((a0 + a1) % 4294967296)) (Go.bits .xor .u32 a1 ((a0 + a1) % 4294967296))) / 2147483648) == 1) (((Go.bits .and .u32 (Go.bits .xor .u32 a0 a1) (Go.bits .xor .u32 a0 ((a0 - a1) % 4294967296))) / 2147483648) == 1) y120 (y120.length : Int) (wrap64 (x39_1 + 1))))) else ((word_Less.f a1 a2 (rdOf false y120 x39_1)).bind fun t132 => (if t132 = true then ((word_Less.f a0 a2 (rdOf false y120 x39_1)).bind fun t133 => (if t133 = true then (pianolalaw1_WordSums.l0 k1 a0 a1 a2 (((Go.bits .and .u32 (Go.bits .xor .u32 a0 ((a0 + a1) % 4294967296)) (Go.bits .xor .u32 a1 ((a0 + a1) % 4294967296))) / 2147483648) == 1) (((Go.bits .and .u32 (Go.bits .xor .u32 a0 a1) (Go.bits .xor .u32 a0 ((a0 - a1) % 4294967296))) / 2147483648) == 1) y120 (y120.length : Int) (wrap64 (x39_1 + 1))) else (some false))) else (pianolalaw1_WordSums.l0 k1 a0 a1 a2 (((Go.bits .and .u32 (Go.bits .xor .u32 a0 ((a0 + a1) % 4294967296)) (Go.bits .xor .u32 a1 ((a0 + a1) % 4294967296))) / 2147483648) == 1) (((Go.bits .and .u32 (Go.bits .xor .u32 a0 a1) (Go.bits .xor .u32 a0 ((a0 - a1) % 4294967296))) / 2147483648) == 1) y120 (y120.length : Int) (wrap64 (x39_1 + 1)))))))) = some r := by rw [if_pos rfl] at H; exact H
                clear H
                have H := H1
                clear H1
                replace H := Option.bind_eq_some_iff.mp H
                obtain ⟨t129, A140, H⟩ := H
                replace H : (if t129 = true then (some false) else (if a0 = a1 then ((word_Less.f a1 a2 (rdOf false y120 x39_1)).bind fun t130 => (if t130 = true then ((word_Less.f a0 a2 (rdOf false y120 x39_1)).bind fun t131 => (if t131 = true then (pianolalaw1_WordSums.l0 k1 a0 a1 a2 (((Go.bits .and .u32 (Go.bits .xor .u32 a0 ((a0 + a1) % 4294967296)) (Go.bits .xor .u32 a1 ((a0 + a1) % 4294967296))) / 2147483648) == 1) (((Go.bits .and .u32 (Go.bits .xor .u32 a0 a1) (Go.bits .xor .u32 a0 ((a0 - a1) % 4294967296))) / 2147483648) == 1) y120 (y120.length : Int) (wrap64 (x39_1 + 1))) else (some false))) else (pianolalaw1_WordSums.l0 k1 a0 a1 a2 (((Go.bits .and .u32 (Go.bits .xor .u32 a0 ((a0 + a1) % 4294967296)) (Go.bits .xor .u32 a1 ((a0 + a1) % 4294967296))) / 2147483648) == 1) (((Go.bits .and .u32 (Go.bits .xor .u32 a0 a1) (Go.bits .xor .u32 a0 ((a0 - a1) % 4294967296))) / 2147483648) == 1) y120 (y120.length : Int) (wrap64 (x39_1 + 1))))) else ((word_Less.f a1 a2 (rdOf false y120 x39_1)).bind fun t132 => (if t132 = true then ((word_Less.f a0 a2 (rdOf false y120 x39_1)).bind fun t133 => (if t133 = true then (pianolalaw1_WordSums.l0 k1 a0 a1 a2 (((Go.bits .and .u32 (Go.bits .xor .u32 a0 ((a0 + a1) % 4294967296)) (Go.bits .xor .u32 a1 ((a0 + a1) % 4294967296))) / 2147483648) == 1) (((Go.bits .and .u32 (Go.bits .xor .u32 a0 a1) (Go.bits .xor .u32 a0 ((a0 - a1) % 4294967296))) / 2147483648) == 1) y120 (y120.length : Int) (wrap64 (x39_1 + 1))) else (some false))) else (pianolalaw1_WordSums.l0 k1 a0 a1 a2 (((Go.bits .and .u32 (Go.bits .xor .u32 a0 ((a0 + a1) % 4294967296)) (Go.bits .xor .u32 a1 ((a0 + a1) % 4294967296))) / 2147483648) == 1) (((Go.bits .and .u32 (Go.bits .xor .u32 a0 a1) (Go.bits .xor .u32 a0 ((a0 - a1) % 4294967296))) / 2147483648) == 1) y120 (y120.length : Int) (wrap64 (x39_1 + 1))))))) = some r := H
                have A14 := Aside0.mk A140
                clear A140
                by_cases c15 : t129 = true
                · subst c15
                  have H1 : (some false) = some r := by rw [if_pos rfl] at H; exact H
                  clear H
                  have H := H1
                  clear H1
                  obtain rfl := Option.some.inj H
                  have p126 : 0 ≤ (x39_1 : Int) := of_decide_eq_true (by first | (with_reducible assumption) | assumption)
                  have q126 : x39_1 < (y120.length : Int) := of_decide_eq_true (by first | (with_reducible assumption) | assumption)
                  obtain ⟨ad126, e126, hx126_0⟩ := Kd.at_bool (Kd.R_reads' HO_37.out).2.2 x39_1 p126 q126
                  cases e126
                  replace p126 := eq_true p126
                  replace q126 := eq_true q126
                  go_wp2_with (first | ((with_reducible refine gate_callee (f := 13) rfl ?_); refine goesL_ (some 46) rfl rfl Try.func13 (by kernel_rfl) rfl #[.int .u32 a0, .int .u32 a0, .bool (rdOf false y120 x39_1)] rfl (by (try simp only [List.map_toArray, List.map_cons, List.map_nil]); first | done | rfl | (simp only [List.length_drop, List.length_take]; rfl)) ?_; (with_reducible refine (word_Less.calls a0 a0 (rdOf false y120 x39_1) false _ A10.out).mono ?_); rintro e w' ⟨rfl, ⟨nd, rfl⟩⟩; refine ⟨_, rfl, ?_⟩) | (go_at_call 13; (with_reducible refine (word_Less.calls a0 a1 (rdOf false y120 x39_1) true _ A12.out).mono ?_); rintro e w' ⟨rfl, ⟨nd, rfl⟩⟩) | (go_at_call 13; (with_reducible refine (word_Less.calls a1 a0 (rdOf false y120 x39_1) true _ A14.out).mono ?_); rintro e w' ⟨rfl, ⟨nd, rfl⟩⟩) | (go_at_call 13; (with_reducible refine (word_Less.calls a0 a0 (rdOf false y120 x39_1) false _ A10.out).mono ?_); rintro e w' ⟨rfl, ⟨nd, rfl⟩⟩))
                  go_ret
                  exact ⟨by first | rfl | (simp [errW_none, errW_some] <;> rfl) | (simp [*, errW_none, errW_some] <;> rfl), by repeat (first | (with_reducible first | exact HB.out | apply below_alloc | apply pw_below_drewN | apply below_drew1) | exact HB.out)⟩
                · replace c15 := Bool.eq_false_iff.mpr c15
                  subst c15
                  have H1 : (if a0 = a1 then ((word_Less.f a1 a2 (rdOf false y120 x39_1)).bind fun t130 => (if t130 = true then ((word_Less.f a0 a2 (rdOf false y120 x39_1)).bind fun t131 => (if t131 = true then (pianolalaw1_WordSums.l0 k1 a0 a1 a2 (((Go.bits .and .u32 (Go.bits .xor .u32 a0 ((a0 + a1) % 4294967296)) (Go.bits .xor .u32 a1 ((a0 + a1) % 4294967296))) / 2147483648) == 1) (((Go.bits .and .u32 (Go.bits .xor .u32 a0 a1) (Go.bits .xor .u32 a0 ((a0 - a1) % 4294967296))) / 2147483648) == 1) y120 (y120.length : Int) (wrap64 (x39_1 + 1))) else (some false))) else (pianolalaw1_WordSums.l0 k1 a0 a1 a2 (((Go.bits .and .u32 (Go.bits .xor .u32 a0 ((a0 + a1) % 4294967296)) (Go.bits .xor .u32 a1 ((a0 + a1) % 4294967296))) / 2147483648) == 1) (((Go.bits .and .u32 (Go.bits .xor .u32 a0 a1) (Go.bits .xor .u32 a0 ((a0 - a1) % 4294967296))) / 2147483648) == 1) y120 (y120.length : Int) (wrap64 (x39_1 + 1))))) else ((word_Less.f a1 a2 (rdOf false y120 x39_1)).bind fun t132 => (if t132 = true then ((word_Less.f a0 a2 (rdOf false y120 x39_1)).bind fun t133 => (if t133 = true then (pianolalaw1_WordSums.l0 k1 a0 a1 a2 (((Go.bits .and .u32 (Go.bits .xor .u32 a0 ((a0 + a1) % 4294967296)) (Go.bits .xor .u32 a1 ((a0 + a1) % 4294967296))) / 2147483648) == 1) (((Go.bits .and .u32 (Go.bits .xor .u32 a0 a1) (Go.bits .xor .u32 a0 ((a0 - a1) % 4294967296))) / 2147483648) == 1) y120 (y120.length : Int) (wrap64 (x39_1 + 1))) else (some false))) else (pianolalaw1_WordSums.l0 k1 a0 a1 a2 (((Go.bits .and .u32 (Go.bits .xor .u32 a0 ((a0 + a1) % 4294967296)) (Go.bits .xor .u32 a1 ((a0 + a1) % 4294967296))) / 2147483648) == 1) (((Go.bits .and .u32 (Go.bits .xor .u32 a0 a1) (Go.bits .xor .u32 a0 ((a0 - a1) % 4294967296))) / 2147483648) == 1) y120 (y120.length : Int) (wrap64 (x39_1 + 1)))))) = some r := by rw [if_neg (show ¬ (false = true) by decide)] at H; exact H
                  clear H
                  have H := H1
                  clear H1
                  by_cases c16 : a0 = a1
                  · rw [if_pos c16] at H
                    have c16b0 : (a0 == a1) = true := beq_iff_eq.mpr c16
                    have c16b1 : (a0 != a1) = false := bne_eq_false_iff_eq.mpr c16
                    clear c16
                    replace H := Option.bind_eq_some_iff.mp H
                    obtain ⟨t130, A170, H⟩ := H
                    replace H : (if t130 = true then ((word_Less.f a0 a2 (rdOf false y120 x39_1)).bind fun t131 => (if t131 = true then (pianolalaw1_WordSums.l0 k1 a0 a1 a2 (((Go.bits .and .u32 (Go.bits .xor .u32 a0 ((a0 + a1) % 4294967296)) (Go.bits .xor .u32 a1 ((a0 + a1) % 4294967296))) / 2147483648) == 1) (((Go.bits .and .u32 (Go.bits .xor .u32 a0 a1) (Go.bits .xor .u32 a0 ((a0 - a1) % 4294967296))) / 2147483648) == 1) y120 (y120.length : Int) (wrap64 (x39_1 + 1))) else (some false))) else (pianolalaw1_WordSums.l0 k1 a0 a1 a2 (((Go.bits .and .u32 (Go.bits .xor .u32 a0 ((a0 + a1) % 4294967296)) (Go.bits .xor .u32 a1 ((a0 + a1) % 4294967296))) / 2147483648) == 1) (((Go.bits .and .u32 (Go.bits .xor .u32 a0 a1) (Go.bits .xor .u32 a0 ((a0 - a1) % 4294967296))) / 2147483648) == 1) y120 (y120.length : Int) (wrap64 (x39_1 + 1)))) = some r := H
                    have A17 := Aside0.mk A170
                    clear A170
                    by_cases c18 : t130 = true
                    · subst c18
                      have H1 : ((word_Less.f a0 a2 (rdOf false y120 x39_1)).bind fun t131 => (if t131 = true then (pianolalaw1_WordSums.l0 k1 a0 a1 a2 (((Go.bits .and .u32 (Go.bits .xor .u32 a0 ((a0 + a1) % 4294967296)) (Go.bits .xor .u32 a1 ((a0 + a1) % 4294967296))) / 2147483648) == 1) (((Go.bits .and .u32 (Go.bits .xor .u32 a0 a1) (Go.bits .xor .u32 a0 ((a0 - a1) % 4294967296))) / 2147483648) == 1) y120 (y120.length : Int) (wrap64 (x39_1 + 1))) else (some false))) = some r := by rw [if_pos rfl] at H; exact H
                      clear H
                      have H := H1
                      clear H1
                      replace H := Option.bind_eq_some_iff.mp H
                      obtain ⟨t131, A190, H⟩ := H
                      replace H : (if t131 = true then (pianolalaw1_WordSums.l0 k1 a0 a1 a2 (((Go.bits .and .u32 (Go.bits .xor .u32 a0 ((a0 + a1) % 4294967296)) (Go.bits .xor .u32 a1 ((a0 + a1) % 4294967296))) / 2147483648) == 1) (((Go.bits .and .u32 (Go.bits .xor .u32 a0 a1) (Go.bits .xor .u32 a0 ((a0 - a1) % 4294967296))) / 2147483648) == 1) y120 (y120.length : Int) (wrap64 (x39_1 + 1))) else (some false)) = some r := H
                      have A19 := Aside0.mk A190
                      clear A190
                      by_cases c20 : t131 = true
                      · subst c20
                        have H1 : (pianolalaw1_WordSums.l0 k1 a0 a1 a2 (((Go.bits .and .u32 (Go.bits .xor .u32 a0 ((a0 + a1) % 4294967296)) (Go.bits .xor .u32 a1 ((a0 + a1) % 4294967296))) / 2147483648) == 1) (((Go.bits .and .u32 (Go.bits .xor .u32 a0 a1) (Go.bits .xor .u32 a0 ((a0 - a1) % 4294967296))) / 2147483648) == 1) y120 (y120.length : Int) (wrap64 (x39_1 + 1))) = some r := by rw [if_pos rfl] at H; exact H
                        clear H
                        have H := H1
                        clear H1
                        have H' := Aside0.mk H
                        clear H
                        have p126 : 0 ≤ (x39_1 : Int) := of_decide_eq_true (by first | (with_reducible assumption) | assumption)
                        have q126 : x39_1 < (y120.length : Int) := of_decide_eq_true (by first | (with_reducible assumption) | assumption)
                        obtain ⟨ad126, e126, hx126_0⟩ := Kd.at_bool (Kd.R_reads' HO_37.out).2.2 x39_1 p126 q126
                        cases e126
                        replace p126 := eq_true p126
                        replace q126 := eq_true q126
                        go_wp2_with (first | ((with_reducible refine gate_callee (f := 13) rfl ?_); refine goesL_ (some 46) rfl rfl Try.func13 (by kernel_rfl) rfl #[.int .u32 a0, .int .u32 a0, .bool (rdOf false y120 x39_1)] rfl (by (try simp only [List.map_toArray, List.map_cons, List.map_nil]); first | done | rfl | (simp only [List.length_drop, List.length_take]; rfl)) ?_; (with_reducible refine (word_Less.calls a0 a0 (rdOf false y120 x39_1) false _ A10.out).mono ?_); rintro e w' ⟨rfl, ⟨nd, rfl⟩⟩; refine ⟨_, rfl, ?_⟩) | (go_at_call 13; (with_reducible refine (word_Less.calls a0 a1 (rdOf false y120 x39_1) true _ A12.out).mono ?_); rintro e w' ⟨rfl, ⟨nd, rfl⟩⟩) | (go_at_call 13; (with_reducible refine (word_Less.calls a1 a0 (rdOf false y120 x39_1) false _ A14.out).mono ?_); rintro e w' ⟨rfl, ⟨nd, rfl⟩⟩) | (go_at_call 13; (with_reducible refine (word_Less.calls a1 a2 (rdOf false y120 x39_1) true _ A17.out).mono ?_); rintro e w' ⟨rfl, ⟨nd, rfl⟩⟩) | (go_at_call 13; (with_reducible refine (word_Less.calls a0 a2 (rdOf false y120 x39_1) true _ A19.out).mono ?_); rintro e w' ⟨rfl, ⟨nd, rfl⟩⟩) | (go_at_call 13; (with_reducible refine (word_Less.calls a0 a0 (rdOf false y120 x39_1) false _ A10.out).mono ?_); rintro e w' ⟨rfl, ⟨nd, rfl⟩⟩))
                        go_roundg k1
                        case measure => have := HK1.out; omega
                        case rel => exact ⟨(wrap64 (x39_1 + 1)), (by first | rfl | (simp; done) | (simp [*]; done) | (simp; omega)), H', ⟨by have := HK1.out; omega⟩, ⟨by (with_reducible repeat (first | apply Kd.R_alloc | apply Kd.R_drewN | apply Kd.R_drew)); exact HO_37.out⟩, ⟨by repeat (first | (with_reducible first | exact HB.out | apply below_alloc | apply pw_below_drewN | apply below_drew1) | exact HB.out)⟩⟩
                      · replace c20 := Bool.eq_false_iff.mpr c20
                        subst c20
                        have H1 : (some false) = some r := by rw [if_neg (show ¬ (false = true) by decide)] at H; exact H
                        clear H
                        have H := H1
                        clear H1
                        obtain rfl := Option.some.inj H
                        have p126 : 0 ≤ (x39_1 : Int) := of_decide_eq_true (by first | (with_reducible assumption) | assumption)
                        have q126 : x39_1 < (y120.length : Int) := of_decide_eq_true (by first | (with_reducible assumption) | assumption)
                        obtain ⟨ad126, e126, hx126_0⟩ := Kd.at_bool (Kd.R_reads' HO_37.out).2.2 x39_1 p126 q126
                        cases e126
                        replace p126 := eq_true p126
                        replace q126 := eq_true q126
                        go_wp2_with (first | ((with_reducible refine gate_callee (f := 13) rfl ?_); refine goesL_ (some 46) rfl rfl Try.func13 (by kernel_rfl) rfl #[.int .u32 a0, .int .u32 a0, .bool (rdOf false y120 x39_1)] rfl (by (try simp only [List.map_toArray, List.map_cons, List.map_nil]); first | done | rfl | (simp only [List.length_drop, List.length_take]; rfl)) ?_; (with_reducible refine (word_Less.calls a0 a0 (rdOf false y120 x39_1) false _ A10.out).mono ?_); rintro e w' ⟨rfl, ⟨nd, rfl⟩⟩; refine ⟨_, rfl, ?_⟩) | (go_at_call 13; (with_reducible refine (word_Less.calls a0 a1 (rdOf false y120 x39_1) true _ A12.out).mono ?_); rintro e w' ⟨rfl, ⟨nd, rfl⟩⟩) | (go_at_call 13; (with_reducible refine (word_Less.calls a1 a0 (rdOf false y120 x39_1) false _ A14.out).mono ?_); rintro e w' ⟨rfl, ⟨nd, rfl⟩⟩) | (go_at_call 13; (with_reducible refine (word_Less.calls a1 a2 (rdOf false y120 x39_1) true _ A17.out).mono ?_); rintro e w' ⟨rfl, ⟨nd, rfl⟩⟩) | (go_at_call 13; (with_reducible refine (word_Less.calls a0 a2 (rdOf false y120 x39_1) false _ A19.out).mono ?_); rintro e w' ⟨rfl, ⟨nd, rfl⟩⟩) | (go_at_call 13; (with_reducible refine (word_Less.calls a0 a0 (rdOf false y120 x39_1) false _ A10.out).mono ?_); rintro e w' ⟨rfl, ⟨nd, rfl⟩⟩))
                        go_ret
                        exact ⟨by first | rfl | (simp [errW_none, errW_some] <;> rfl) | (simp [*, errW_none, errW_some] <;> rfl), by repeat (first | (with_reducible first | exact HB.out | apply below_alloc | apply pw_below_drewN | apply below_drew1) | exact HB.out)⟩
                    · replace c18 := Bool.eq_false_iff.mpr c18
                      subst c18
                      have H1 : (pianolalaw1_WordSums.l0 k1 a0 a1 a2 (((Go.bits .and .u32 (Go.bits .xor .u32 a0 ((a0 + a1) % 4294967296)) (Go.bits .xor .u32 a1 ((a0 + a1) % 4294967296))) / 2147483648) == 1) (((Go.bits .and .u32 (Go.bits .xor .u32 a0 a1) (Go.bits .xor .u32 a0 ((a0 - a1) % 4294967296))) / 2147483648) == 1) y120 (y120.length : Int) (wrap64 (x39_1 + 1))) = some r := by rw [if_neg (show ¬ (false = true) by decide)] at H; exact H
                      clear H
                      have H := H1
                      clear H1
                      have H' := Aside0.mk H
                      clear H
                      have p126 : 0 ≤ (x39_1 : Int) := of_decide_eq_true (by first | (with_reducible assumption) | assumption)
                      have q126 : x39_1 < (y120.length : Int) := of_decide_eq_true (by first | (with_reducible assumption) | assumption)
                      obtain ⟨ad126, e126, hx126_0⟩ := Kd.at_bool (Kd.R_reads' HO_37.out).2.2 x39_1 p126 q126
                      cases e126
                      replace p126 := eq_true p126
                      replace q126 := eq_true q126
                      go_wp2_with (first | ((with_reducible refine gate_callee (f := 13) rfl ?_); refine goesL_ (some 46) rfl rfl Try.func13 (by kernel_rfl) rfl #[.int .u32 a0, .int .u32 a0, .bool (rdOf false y120 x39_1)] rfl (by (try simp only [List.map_toArray, List.map_cons, List.map_nil]); first | done | rfl | (simp only [List.length_drop, List.length_take]; rfl)) ?_; (with_reducible refine (word_Less.calls a0 a0 (rdOf false y120 x39_1) false _ A10.out).mono ?_); rintro e w' ⟨rfl, ⟨nd, rfl⟩⟩; refine ⟨_, rfl, ?_⟩) | (go_at_call 13; (with_reducible refine (word_Less.calls a0 a1 (rdOf false y120 x39_1) true _ A12.out).mono ?_); rintro e w' ⟨rfl, ⟨nd, rfl⟩⟩) | (go_at_call 13; (with_reducible refine (word_Less.calls a1 a0 (rdOf false y120 x39_1) false _ A14.out).mono ?_); rintro e w' ⟨rfl, ⟨nd, rfl⟩⟩) | (go_at_call 13; (with_reducible refine (word_Less.calls a1 a2 (rdOf false y120 x39_1) false _ A17.out).mono ?_); rintro e w' ⟨rfl, ⟨nd, rfl⟩⟩) | (go_at_call 13; (with_reducible refine (word_Less.calls a0 a0 (rdOf false y120 x39_1) false _ A10.out).mono ?_); rintro e w' ⟨rfl, ⟨nd, rfl⟩⟩))
                      go_roundg k1
                      case measure => have := HK1.out; omega
                      case rel => exact ⟨(wrap64 (x39_1 + 1)), (by first | rfl | (simp; done) | (simp [*]; done) | (simp; omega)), H', ⟨by have := HK1.out; omega⟩, ⟨by (with_reducible repeat (first | apply Kd.R_alloc | apply Kd.R_drewN | apply Kd.R_drew)); exact HO_37.out⟩, ⟨by repeat (first | (with_reducible first | exact HB.out | apply below_alloc | apply pw_below_drewN | apply below_drew1) | exact HB.out)⟩⟩
                  · rw [if_neg c16] at H
                    have c16b0 : (a0 == a1) = false := beq_eq_false_iff_ne.mpr c16
                    have c16b1 : (a0 != a1) = true := bne_iff_ne.mpr c16
                    replace H := Option.bind_eq_some_iff.mp H
                    obtain ⟨t132, A210, H⟩ := H
                    replace H : (if t132 = true then ((word_Less.f a0 a2 (rdOf false y120 x39_1)).bind fun t133 => (if t133 = true then (pianolalaw1_WordSums.l0 k1 a0 a1 a2 (((Go.bits .and .u32 (Go.bits .xor .u32 a0 ((a0 + a1) % 4294967296)) (Go.bits .xor .u32 a1 ((a0 + a1) % 4294967296))) / 2147483648) == 1) (((Go.bits .and .u32 (Go.bits .xor .u32 a0 a1) (Go.bits .xor .u32 a0 ((a0 - a1) % 4294967296))) / 2147483648) == 1) y120 (y120.length : Int) (wrap64 (x39_1 + 1))) else (some false))) else (pianolalaw1_WordSums.l0 k1 a0 a1 a2 (((Go.bits .and .u32 (Go.bits .xor .u32 a0 ((a0 + a1) % 4294967296)) (Go.bits .xor .u32 a1 ((a0 + a1) % 4294967296))) / 2147483648) == 1) (((Go.bits .and .u32 (Go.bits .xor .u32 a0 a1) (Go.bits .xor .u32 a0 ((a0 - a1) % 4294967296))) / 2147483648) == 1) y120 (y120.length : Int) (wrap64 (x39_1 + 1)))) = some r := H
                    have A21 := Aside0.mk A210
                    clear A210
                    by_cases c22 : t132 = true
                    · subst c22
                      have H1 : ((word_Less.f a0 a2 (rdOf false y120 x39_1)).bind fun t133 => (if t133 = true then (pianolalaw1_WordSums.l0 k1 a0 a1 a2 (((Go.bits .and .u32 (Go.bits .xor .u32 a0 ((a0 + a1) % 4294967296)) (Go.bits .xor .u32 a1 ((a0 + a1) % 4294967296))) / 2147483648) == 1) (((Go.bits .and .u32 (Go.bits .xor .u32 a0 a1) (Go.bits .xor .u32 a0 ((a0 - a1) % 4294967296))) / 2147483648) == 1) y120 (y120.length : Int) (wrap64 (x39_1 + 1))) else (some false))) = some r := by rw [if_pos rfl] at H; exact H
                      clear H
                      have H := H1
                      clear H1
                      replace H := Option.bind_eq_some_iff.mp H
                      obtain ⟨t133, A230, H⟩ := H
                      replace H : (if t133 = true then (pianolalaw1_WordSums.l0 k1 a0 a1 a2 (((Go.bits .and .u32 (Go.bits .xor .u32 a0 ((a0 + a1) % 4294967296)) (Go.bits .xor .u32 a1 ((a0 + a1) % 4294967296))) / 2147483648) == 1) (((Go.bits .and .u32 (Go.bits .xor .u32 a0 a1) (Go.bits .xor .u32 a0 ((a0 - a1) % 4294967296))) / 2147483648) == 1) y120 (y120.length : Int) (wrap64 (x39_1 + 1))) else (some false)) = some r := H
                      have A23 := Aside0.mk A230
                      clear A230
                      by_cases c24 : t133 = true
                      · subst c24
                        have H1 : (pianolalaw1_WordSums.l0 k1 a0 a1 a2 (((Go.bits .and .u32 (Go.bits .xor .u32 a0 ((a0 + a1) % 4294967296)) (Go.bits .xor .u32 a1 ((a0 + a1) % 4294967296))) / 2147483648) == 1) (((Go.bits .and .u32 (Go.bits .xor .u32 a0 a1) (Go.bits .xor .u32 a0 ((a0 - a1) % 4294967296))) / 2147483648) == 1) y120 (y120.length : Int) (wrap64 (x39_1 + 1))) = some r := by rw [if_pos rfl] at H; exact H
                        clear H
                        have H := H1
                        clear H1
                        have H' := Aside0.mk H
                        clear H
                        have p126 : 0 ≤ (x39_1 : Int) := of_decide_eq_true (by first | (with_reducible assumption) | assumption)
                        have q126 : x39_1 < (y120.length : Int) := of_decide_eq_true (by first | (with_reducible assumption) | assumption)
                        obtain ⟨ad126, e126, hx126_0⟩ := Kd.at_bool (Kd.R_reads' HO_37.out).2.2 x39_1 p126 q126
                        cases e126
                        replace p126 := eq_true p126
                        replace q126 := eq_true q126
                        go_wp2_with (first | ((with_reducible refine gate_callee (f := 13) rfl ?_); refine goesL_ (some 46) rfl rfl Try.func13 (by kernel_rfl) rfl #[.int .u32 a0, .int .u32 a0, .bool (rdOf false y120 x39_1)] rfl (by (try simp only [List.map_toArray, List.map_cons, List.map_nil]); first | done | rfl | (simp only [List.length_drop, List.length_take]; rfl)) ?_; (with_reducible refine (word_Less.calls a0 a0 (rdOf false y120 x39_1) false _ A10.out).mono ?_); rintro e w' ⟨rfl, ⟨nd, rfl⟩⟩; refine ⟨_, rfl, ?_⟩) | (go_at_call 13; (with_reducible refine (word_Less.calls a0 a1 (rdOf false y120 x39_1) true _ A12.out).mono ?_); rintro e w' ⟨rfl, ⟨nd, rfl⟩⟩) | (go_at_call 13; (with_reducible refine (word_Less.calls a1 a0 (rdOf false y120 x39_1) false _ A14.out).mono ?_); rintro e w' ⟨rfl, ⟨nd, rfl⟩⟩) | (go_at_call 13; (with_reducible refine (word_Less.calls a1 a2 (rdOf false y120 x39_1) true _ A21.out).mono ?_); rintro e w' ⟨rfl, ⟨nd, rfl⟩⟩) | (go_at_call 13; (with_reducible refine (word_Less.calls a0 a2 (rdOf false y120 x39_1) true _ A23.out).mono ?_); rintro e w' ⟨rfl, ⟨nd, rfl⟩⟩) | (go_at_call 13; (with_reducible refine (word_Less.calls a0 a0 (rdOf false y120 x39_1) false _ A10.out).mono ?_); rintro e w' ⟨rfl, ⟨nd, rfl⟩⟩))
                        go_roundg k1
                        case measure => have := HK1.out; omega
                        case rel => exact ⟨(wrap64 (x39_1 + 1)), (by first | rfl | (simp; done) | (simp [*]; done) | (simp; omega)), H', ⟨by have := HK1.out; omega⟩, ⟨by (with_reducible repeat (first | apply Kd.R_alloc | apply Kd.R_drewN | apply Kd.R_drew)); exact HO_37.out⟩, ⟨by repeat (first | (with_reducible first | exact HB.out | apply below_alloc | apply pw_below_drewN | apply below_drew1) | exact HB.out)⟩⟩
                      · replace c24 := Bool.eq_false_iff.mpr c24
                        subst c24
                        have H1 : (some false) = some r := by rw [if_neg (show ¬ (false = true) by decide)] at H; exact H
                        clear H
                        have H := H1
                        clear H1
                        obtain rfl := Option.some.inj H
                        have p126 : 0 ≤ (x39_1 : Int) := of_decide_eq_true (by first | (with_reducible assumption) | assumption)
                        have q126 : x39_1 < (y120.length : Int) := of_decide_eq_true (by first | (with_reducible assumption) | assumption)
                        obtain ⟨ad126, e126, hx126_0⟩ := Kd.at_bool (Kd.R_reads' HO_37.out).2.2 x39_1 p126 q126
                        cases e126
                        replace p126 := eq_true p126
                        replace q126 := eq_true q126
                        go_wp2_with (first | ((with_reducible refine gate_callee (f := 13) rfl ?_); refine goesL_ (some 46) rfl rfl Try.func13 (by kernel_rfl) rfl #[.int .u32 a0, .int .u32 a0, .bool (rdOf false y120 x39_1)] rfl (by (try simp only [List.map_toArray, List.map_cons, List.map_nil]); first | done | rfl | (simp only [List.length_drop, List.length_take]; rfl)) ?_; (with_reducible refine (word_Less.calls a0 a0 (rdOf false y120 x39_1) false _ A10.out).mono ?_); rintro e w' ⟨rfl, ⟨nd, rfl⟩⟩; refine ⟨_, rfl, ?_⟩) | (go_at_call 13; (with_reducible refine (word_Less.calls a0 a1 (rdOf false y120 x39_1) true _ A12.out).mono ?_); rintro e w' ⟨rfl, ⟨nd, rfl⟩⟩) | (go_at_call 13; (with_reducible refine (word_Less.calls a1 a0 (rdOf false y120 x39_1) false _ A14.out).mono ?_); rintro e w' ⟨rfl, ⟨nd, rfl⟩⟩) | (go_at_call 13; (with_reducible refine (word_Less.calls a1 a2 (rdOf false y120 x39_1) true _ A21.out).mono ?_); rintro e w' ⟨rfl, ⟨nd, rfl⟩⟩) | (go_at_call 13; (with_reducible refine (word_Less.calls a0 a2 (rdOf false y120 x39_1) false _ A23.out).mono ?_); rintro e w' ⟨rfl, ⟨nd, rfl⟩⟩) | (go_at_call 13; (with_reducible refine (word_Less.calls a0 a0 (rdOf false y120 x39_1) false _ A10.out).mono ?_); rintro e w' ⟨rfl, ⟨nd, rfl⟩⟩))
                        go_ret
                        exact ⟨by first | rfl | (simp [errW_none, errW_some] <;> rfl) | (simp [*, errW_none, errW_some] <;> rfl), by repeat (first | (with_reducible first | exact HB.out | apply below_alloc | apply pw_below_drewN | apply below_drew1) | exact HB.out)⟩
                    · replace c22 := Bool.eq_false_iff.mpr c22
                      subst c22
                      have H1 : (pianolalaw1_WordSums.l0 k1 a0 a1 a2 (((Go.bits .and .u32 (Go.bits .xor .u32 a0 ((a0 + a1) % 4294967296)) (Go.bits .xor .u32 a1 ((a0 + a1) % 4294967296))) / 2147483648) == 1) (((Go.bits .and .u32 (Go.bits .xor .u32 a0 a1) (Go.bits .xor .u32 a0 ((a0 - a1) % 4294967296))) / 2147483648) == 1) y120 (y120.length : Int) (wrap64 (x39_1 + 1))) = some r := by rw [if_neg (show ¬ (false = true) by decide)] at H; exact H
                      clear H
                      have H := H1
                      clear H1
                      have H' := Aside0.mk H
                      clear H
                      have p126 : 0 ≤ (x39_1 : Int) := of_decide_eq_true (by first | (with_reducible assumption) | assumption)
                      have q126 : x39_1 < (y120.length : Int) := of_decide_eq_true (by first | (with_reducible assumption) | assumption)
                      obtain ⟨ad126, e126, hx126_0⟩ := Kd.at_bool (Kd.R_reads' HO_37.out).2.2 x39_1 p126 q126
                      cases e126
                      replace p126 := eq_true p126
                      replace q126 := eq_true q126
                      go_wp2_with (first | ((with_reducible refine gate_callee (f := 13) rfl ?_); refine goesL_ (some 46) rfl rfl Try.func13 (by kernel_rfl) rfl #[.int .u32 a0, .int .u32 a0, .bool (rdOf false y120 x39_1)] rfl (by (try simp only [List.map_toArray, List.map_cons, List.map_nil]); first | done | rfl | (simp only [List.length_drop, List.length_take]; rfl)) ?_; (with_reducible refine (word_Less.calls a0 a0 (rdOf false y120 x39_1) false _ A10.out).mono ?_); rintro e w' ⟨rfl, ⟨nd, rfl⟩⟩; refine ⟨_, rfl, ?_⟩) | (go_at_call 13; (with_reducible refine (word_Less.calls a0 a1 (rdOf false y120 x39_1) true _ A12.out).mono ?_); rintro e w' ⟨rfl, ⟨nd, rfl⟩⟩) | (go_at_call 13; (with_reducible refine (word_Less.calls a1 a0 (rdOf false y120 x39_1) false _ A14.out).mono ?_); rintro e w' ⟨rfl, ⟨nd, rfl⟩⟩) | (go_at_call 13; (with_reducible refine (word_Less.calls a1 a2 (rdOf false y120 x39_1) false _ A21.out).mono ?_); rintro e w' ⟨rfl, ⟨nd, rfl⟩⟩) | (go_at_call 13; (with_reducible refine (word_Less.calls a0 a0 (rdOf false y120 x39_1) false _ A10.out).mono ?_); rintro e w' ⟨rfl, ⟨nd, rfl⟩⟩))
                      go_roundg k1
                      case measure => have := HK1.out; omega
                      case rel => exact ⟨(wrap64 (x39_1 + 1)), (by first | rfl | (simp; done) | (simp [*]; done) | (simp; omega)), H', ⟨by have := HK1.out; omega⟩, ⟨by (with_reducible repeat (first | apply Kd.R_alloc | apply Kd.R_drewN | apply Kd.R_drew)); exact HO_37.out⟩, ⟨by repeat (first | (with_reducible first | exact HB.out | apply below_alloc | apply pw_below_drewN | apply below_drew1) | exact HB.out)⟩⟩
              · replace c13 := Bool.eq_false_iff.mpr c13
                subst c13
                have H1 : (if a0 = a1 then (pianolalaw1_WordSums.l0 k1 a0 a1 a2 (((Go.bits .and .u32 (Go.bits .xor .u32 a0 ((a0 + a1) % 4294967296)) (Go.bits .xor .u32 a1 ((a0 + a1) % 4294967296))) / 2147483648) == 1) (((Go.bits .and .u32 (Go.bits .xor .u32 a0 a1) (Go.bits .xor .u32 a0 ((a0 - a1) % 4294967296))) / 2147483648) == 1) y120 (y120.length : Int) (wrap64 (x39_1 + 1))) else ((word_Less.f a1 a0 (rdOf false y120 x39_1)).bind fun t134 => (if t134 = true then (pianolalaw1_WordSums.l0 k1 a0 a1 a2 (((Go.bits .and .u32 (Go.bits .xor .u32 a0 ((a0 + a1) % 4294967296)) (Go.bits .xor .u32 a1 ((a0 + a1) % 4294967296))) / 2147483648) == 1) (((Go.bits .and .u32 (Go.bits .xor .u32 a0 a1) (Go.bits .xor .u32 a0 ((a0 - a1) % 4294967296))) / 2147483648) == 1) y120 (y120.length : Int) (wrap64 (x39_1 + 1))) else (some false)))) = some r := by rw [if_neg (show ¬ (false = true) by decide)] at H; exact H
                clear H
                have H := H1
                clear H1
                by_cases c25 : a0 = a1
                · rw [if_pos c25] at H
                  have c25b0 : (a0 == a1) = true := beq_iff_eq.mpr c25
                  have c25b1 : (a0 != a1) = false := bne_eq_false_iff_eq.mpr c25
                  clear c25
                  have H' := Aside0.mk H
                  clear H
                  have p126 : 0 ≤ (x39_1 : Int) := of_decide_eq_true (by first | (with_reducible assumption) | assumption)
                  have q126 : x39_1 < (y120.length : Int) := of_decide_eq_true (by first | (with_reducible assumption) | assumption)
                  obtain ⟨ad126, e126, hx126_0⟩ := Kd.at_bool (Kd.R_reads' HO_37.out).2.2 x39_1 p126 q126
                  cases e126
                  replace p126 := eq_true p126
                  replace q126 := eq_true q126
                  go_wp2_with (first | ((with_reducible refine gate_callee (f := 13) rfl ?_); refine goesL_ (some 46) rfl rfl Try.func13 (by kernel_rfl) rfl #[.int .u32 a0, .int .u32 a0, .bool (rdOf false y120 x39_1)] rfl (by (try simp only [List.map_toArray, List.map_cons, List.map_nil]); first | done | rfl | (simp only [List.length_drop, List.length_take]; rfl)) ?_; (with_reducible refine (word_Less.calls a0 a0 (rdOf false y120 x39_1) false _ A10.out).mono ?_); rintro e w' ⟨rfl, ⟨nd, rfl⟩⟩; refine ⟨_, rfl, ?_⟩) | (go_at_call 13; (with_reducible refine (word_Less.calls a0 a1 (rdOf false y120 x39_1) false _ A12.out).mono ?_); rintro e w' ⟨rfl, ⟨nd, rfl⟩⟩) | (go_at_call 13; (with_reducible refine (word_Less.calls a0 a0 (rdOf false y120 x39_1) false _ A10.out).mono ?_); rintro e w' ⟨rfl, ⟨nd, rfl⟩⟩))
                  go_roundg k1
                  case measure => have := HK1.out; omega
                  case rel => exact ⟨(wrap64 (x39_1 + 1)), (by first | rfl | (simp; done) | (simp [*]; done) | (simp; omega)), H', ⟨by have := HK1.out; omega⟩, ⟨by (with_reducible repeat (first | apply Kd.R_alloc | apply Kd.R_drewN | apply Kd.R_drew)); exact HO_37.out⟩, ⟨by repeat (first | (with_reducible first | exact HB.out | apply below_alloc | apply pw_below_drewN | apply below_drew1) | exact HB.out)⟩⟩
                · rw [if_neg c25] at H
                  have c25b0 : (a0 == a1) = false := beq_eq_false_iff_ne.mpr c25
                  have c25b1 : (a0 != a1) = true := bne_iff_ne.mpr c25
                  replace H := Option.bind_eq_some_iff.mp H
                  obtain ⟨t134, A260, H⟩ := H
                  replace H : (if t134 = true then (pianolalaw1_WordSums.l0 k1 a0 a1 a2 (((Go.bits .and .u32 (Go.bits .xor .u32 a0 ((a0 + a1) % 4294967296)) (Go.bits .xor .u32 a1 ((a0 + a1) % 4294967296))) / 2147483648) == 1) (((Go.bits .and .u32 (Go.bits .xor .u32 a0 a1) (Go.bits .xor .u32 a0 ((a0 - a1) % 4294967296))) / 2147483648) == 1) y120 (y120.length : Int) (wrap64 (x39_1 + 1))) else (some false)) = some r := H
                  have A26 := Aside0.mk A260
                  clear A260
                  by_cases c27 : t134 = true
                  · subst c27
                    have H1 : (pianolalaw1_WordSums.l0 k1 a0 a1 a2 (((Go.bits .and .u32 (Go.bits .xor .u32 a0 ((a0 + a1) % 4294967296)) (Go.bits .xor .u32 a1 ((a0 + a1) % 4294967296))) / 2147483648) == 1) (((Go.bits .and .u32 (Go.bits .xor .u32 a0 a1) (Go.bits .xor .u32 a0 ((a0 - a1) % 4294967296))) / 2147483648) == 1) y120 (y120.length : Int) (wrap64 (x39_1 + 1))) = some r := by rw [if_pos rfl] at H; exact H
                    clear H
                    have H := H1
                    clear H1
                    have H' := Aside0.mk H
                    clear H
                    have p126 : 0 ≤ (x39_1 : Int) := of_decide_eq_true (by first | (with_reducible assumption) | assumption)
                    have q126 : x39_1 < (y120.length : Int) := of_decide_eq_true (by first | (with_reducible assumption) | assumption)
                    obtain ⟨ad126, e126, hx126_0⟩ := Kd.at_bool (Kd.R_reads' HO_37.out).2.2 x39_1 p126 q126
                    cases e126
                    replace p126 := eq_true p126
                    replace q126 := eq_true q126
                    go_wp2_with (first | ((with_reducible refine gate_callee (f := 13) rfl ?_); refine goesL_ (some 46) rfl rfl Try.func13 (by kernel_rfl) rfl #[.int .u32 a0, .int .u32 a0, .bool (rdOf false y120 x39_1)] rfl (by (try simp only [List.map_toArray, List.map_cons, List.map_nil]); first | done | rfl | (simp only [List.length_drop, List.length_take]; rfl)) ?_; (with_reducible refine (word_Less.calls a0 a0 (rdOf false y120 x39_1) false _ A10.out).mono ?_); rintro e w' ⟨rfl, ⟨nd, rfl⟩⟩; refine ⟨_, rfl, ?_⟩) | (go_at_call 13; (with_reducible refine (word_Less.calls a0 a1 (rdOf false y120 x39_1) false _ A12.out).mono ?_); rintro e w' ⟨rfl, ⟨nd, rfl⟩⟩) | (go_at_call 13; (with_reducible refine (word_Less.calls a1 a0 (rdOf false y120 x39_1) true _ A26.out).mono ?_); rintro e w' ⟨rfl, ⟨nd, rfl⟩⟩) | (go_at_call 13; (with_reducible refine (word_Less.calls a0 a0 (rdOf false y120 x39_1) false _ A10.out).mono ?_); rintro e w' ⟨rfl, ⟨nd, rfl⟩⟩))
                    go_roundg k1
                    case measure => have := HK1.out; omega
                    case rel => exact ⟨(wrap64 (x39_1 + 1)), (by first | rfl | (simp; done) | (simp [*]; done) | (simp; omega)), H', ⟨by have := HK1.out; omega⟩, ⟨by (with_reducible repeat (first | apply Kd.R_alloc | apply Kd.R_drewN | apply Kd.R_drew)); exact HO_37.out⟩, ⟨by repeat (first | (with_reducible first | exact HB.out | apply below_alloc | apply pw_below_drewN | apply below_drew1) | exact HB.out)⟩⟩
                  · replace c27 := Bool.eq_false_iff.mpr c27
                    subst c27
                    have H1 : (some false) = some r := by rw [if_neg (show ¬ (false = true) by decide)] at H; exact H
                    clear H
                    have H := H1
                    clear H1
                    obtain rfl := Option.some.inj H
                    have p126 : 0 ≤ (x39_1 : Int) := of_decide_eq_true (by first | (with_reducible assumption) | assumption)
                    have q126 : x39_1 < (y120.length : Int) := of_decide_eq_true (by first | (with_reducible assumption) | assumption)
                    obtain ⟨ad126, e126, hx126_0⟩ := Kd.at_bool (Kd.R_reads' HO_37.out).2.2 x39_1 p126 q126
                    cases e126
                    replace p126 := eq_true p126
                    replace q126 := eq_true q126
                    go_wp2_with (first | ((with_reducible refine gate_callee (f := 13) rfl ?_); refine goesL_ (some 46) rfl rfl Try.func13 (by kernel_rfl) rfl #[.int .u32 a0, .int .u32 a0, .bool (rdOf false y120 x39_1)] rfl (by (try simp only [List.map_toArray, List.map_cons, List.map_nil]); first | done | rfl | (simp only [List.length_drop, List.length_take]; rfl)) ?_; (with_reducible refine (word_Less.calls a0 a0 (rdOf false y120 x39_1) false _ A10.out).mono ?_); rintro e w' ⟨rfl, ⟨nd, rfl⟩⟩; refine ⟨_, rfl, ?_⟩) | (go_at_call 13; (with_reducible refine (word_Less.calls a0 a1 (rdOf false y120 x39_1) false _ A12.out).mono ?_); rintro e w' ⟨rfl, ⟨nd, rfl⟩⟩) | (go_at_call 13; (with_reducible refine (word_Less.calls a1 a0 (rdOf false y120 x39_1) false _ A26.out).mono ?_); rintro e w' ⟨rfl, ⟨nd, rfl⟩⟩) | (go_at_call 13; (with_reducible refine (word_Less.calls a0 a0 (rdOf false y120 x39_1) false _ A10.out).mono ?_); rintro e w' ⟨rfl, ⟨nd, rfl⟩⟩))
                    go_ret
                    exact ⟨by first | rfl | (simp [errW_none, errW_some] <;> rfl) | (simp [*, errW_none, errW_some] <;> rfl), by repeat (first | (with_reducible first | exact HB.out | apply below_alloc | apply pw_below_drewN | apply below_drew1) | exact HB.out)⟩
          · rw [if_neg c9] at H
            exact absurd H (by simp)
        · rw [if_neg c8] at H
          exact absurd H (by simp)
      · rw [if_neg c7] at H
        have c7b0 : decide (x39_1 < (y120.length : Int)) = false := decide_eq_false c7
        clear c7
        replace H := Option.bind_eq_some_iff.mp H
        obtain ⟨t123, A280, H⟩ := H
        replace H : (if (t123 == (((Go.bits .and .u32 (Go.bits .xor .u32 a0 ((a0 + a1) % 4294967296)) (Go.bits .xor .u32 a1 ((a0 + a1) % 4294967296))) / 2147483648) == 1)) = true then ((word_Over.f a0 a1 true).bind fun t124 => (if (t124 == (((Go.bits .and .u32 (Go.bits .xor .u32 a0 a1) (Go.bits .xor .u32 a0 ((a0 - a1) % 4294967296))) / 2147483648) == 1)) = true then ((pianolalaw1_known.f).bind fun t125 => (some t125)) else (some false))) else (some false)) = some r := H
        have A28 := Aside0.mk A280
        clear A280
        by_cases c29 : (t123 == (((Go.bits .and .u32 (Go.bits .xor .u32 a0 ((a0 + a1) % 4294967296)) (Go.bits .xor .u32 a1 ((a0 + a1) % 4294967296))) / 2147483648) == 1)) = true
        · rw [if_pos c29] at H
          have c29b0 : (t123 == (((Go.bits .and .u32 (Go.bits .xor .u32 a0 ((a0 + a1) % 4294967296)) (Go.bits .xor .u32 a1 ((a0 + a1) % 4294967296))) / 2147483648) == 1)) = true := c29
          (try (have c29b1 : decide (t123 = (((Go.bits .and .u32 (Go.bits .xor .u32 a0 ((a0 + a1) % 4294967296)) (Go.bits .xor .u32 a1 ((a0 + a1) % 4294967296))) / 2147483648) == 1)) = true := by simpa using c29))
          (try (have c29b2 : (t123 == (((Go.bits .and .u32 (Go.bits .xor .u32 a0 ((a0 + a1) % 4294967296)) (Go.bits .xor .u32 a1 ((a0 + a1) % 4294967296))) / 2147483648) == 1)) = true := by simpa using c29))
          clear c29
          replace H := Option.bind_eq_some_iff.mp H
          obtain ⟨t124, A300, H⟩ := H
          replace H : (if (t124 == (((Go.bits .and .u32 (Go.bits .xor .u32 a0 a1) (Go.bits .xor .u32 a0 ((a0 - a1) % 4294967296))) / 2147483648) == 1)) = true then ((pianolalaw1_known.f).bind fun t125 => (some t125)) else (some false)) = some r := H
          have A30 := Aside0.mk A300
          clear A300
          by_cases c31 : (t124 == (((Go.bits .and .u32 (Go.bits .xor .u32 a0 a1) (Go.bits .xor .u32 a0 ((a0 - a1) % 4294967296))) / 2147483648) == 1)) = true
          · rw [if_pos c31] at H
            have c31b0 : (t124 == (((Go.bits .and .u32 (Go.bits .xor .u32 a0 a1) (Go.bits .xor .u32 a0 ((a0 - a1) % 4294967296))) / 2147483648) == 1)) = true := c31
            (try (have c31b1 : decide (t124 = (((Go.bits .and .u32 (Go.bits .xor .u32 a0 a1) (Go.bits .xor .u32 a0 ((a0 - a1) % 4294967296))) / 2147483648) == 1)) = true := by simpa using c31))
            (try (have c31b2 : (t124 == (((Go.bits .and .u32 (Go.bits .xor .u32 a0 a1) (Go.bits .xor .u32 a0 ((a0 - a1) % 4294967296))) / 2147483648) == 1)) = true := by simpa using c31))
            clear c31
            replace H := Option.bind_eq_some_iff.mp H
            obtain ⟨t125, A320, H⟩ := H
            replace H : (some t125) = some r := H
            have A32 := Aside0.mk A320
            clear A320
            obtain rfl := Option.some.inj H
            go_wp2_with (first | ((with_reducible refine gate_callee (f := 14) rfl ?_); refine goesL_ (some 100) rfl rfl Try.func14 (by kernel_rfl) rfl #[.int .u32 a0, .int .u32 a1, .bool false] rfl (by (try simp only [List.map_toArray, List.map_cons, List.map_nil]); first | done | rfl | (simp only [List.length_drop, List.length_take]; rfl)) ?_; (with_reducible refine (word_Over.calls a0 a1 false t123 _ A28.out).mono ?_); rintro e w' ⟨rfl, ⟨nd, rfl⟩⟩; refine ⟨_, rfl, ?_⟩) | (go_at_call 14; (with_reducible refine (word_Over.calls a0 a1 true t124 _ A30.out).mono ?_); rintro e w' ⟨rfl, ⟨nd, rfl⟩⟩) | (go_at_call 12; (with_reducible refine (pianolalaw1_known.calls  t125 _ A32.out).mono ?_); rintro e w' ⟨rfl, ⟨nd, rfl⟩⟩) | (go_at_call 14; (with_reducible refine (word_Over.calls a0 a1 false t123 _ A28.out).mono ?_); rintro e w' ⟨rfl, ⟨nd, rfl⟩⟩))
            go_ret
            exact ⟨by first | rfl | (simp [errW_none, errW_some] <;> rfl) | (simp [*, errW_none, errW_some] <;> rfl), by repeat (first | (with_reducible first | exact HB.out | apply below_alloc | apply pw_below_drewN | apply below_drew1) | exact HB.out)⟩
          · rw [if_neg c31] at H
            have c31b0 : (t124 == (((Go.bits .and .u32 (Go.bits .xor .u32 a0 a1) (Go.bits .xor .u32 a0 ((a0 - a1) % 4294967296))) / 2147483648) == 1)) = false := by simpa using c31
            (try (have c31b1 : decide (t124 = (((Go.bits .and .u32 (Go.bits .xor .u32 a0 a1) (Go.bits .xor .u32 a0 ((a0 - a1) % 4294967296))) / 2147483648) == 1)) = false := by simpa using c31))
            (try (have c31b2 : (t124 == (((Go.bits .and .u32 (Go.bits .xor .u32 a0 a1) (Go.bits .xor .u32 a0 ((a0 - a1) % 4294967296))) / 2147483648) == 1)) = false := by simpa using c31))
            (try (have c31b3 : ¬ (t124 = (((Go.bits .and .u32 (Go.bits .xor .u32 a0 a1) (Go.bits .xor .u32 a0 ((a0 - a1) % 4294967296))) / 2147483648) == 1)) := by simpa using c31))
            clear c31
            obtain rfl := Option.some.inj H
            go_wp2_with (first | ((with_reducible refine gate_callee (f := 14) rfl ?_); refine goesL_ (some 100) rfl rfl Try.func14 (by kernel_rfl) rfl #[.int .u32 a0, .int .u32 a1, .bool false] rfl (by (try simp only [List.map_toArray, List.map_cons, List.map_nil]); first | done | rfl | (simp only [List.length_drop, List.length_take]; rfl)) ?_; (with_reducible refine (word_Over.calls a0 a1 false t123 _ A28.out).mono ?_); rintro e w' ⟨rfl, ⟨nd, rfl⟩⟩; refine ⟨_, rfl, ?_⟩) | (go_at_call 14; (with_reducible refine (word_Over.calls a0 a1 true t124 _ A30.out).mono ?_); rintro e w' ⟨rfl, ⟨nd, rfl⟩⟩) | (go_at_call 14; (with_reducible refine (word_Over.calls a0 a1 false t123 _ A28.out).mono ?_); rintro e w' ⟨rfl, ⟨nd, rfl⟩⟩))
            go_ret
            exact ⟨by first | rfl | (simp [errW_none, errW_some] <;> rfl) | (simp [*, errW_none, errW_some] <;> rfl), by repeat (first | (with_reducible first | exact HB.out | apply below_alloc | apply pw_below_drewN | apply below_drew1) | exact HB.out)⟩
        · rw [if_neg c29] at H
          have c29b0 : (t123 == (((Go.bits .and .u32 (Go.bits .xor .u32 a0 ((a0 + a1) % 4294967296)) (Go.bits .xor .u32 a1 ((a0 + a1) % 4294967296))) / 2147483648) == 1)) = false := by simpa using c29
          (try (have c29b1 : decide (t123 = (((Go.bits .and .u32 (Go.bits .xor .u32 a0 ((a0 + a1) % 4294967296)) (Go.bits .xor .u32 a1 ((a0 + a1) % 4294967296))) / 2147483648) == 1)) = false := by simpa using c29))
          (try (have c29b2 : (t123 == (((Go.bits .and .u32 (Go.bits .xor .u32 a0 ((a0 + a1) % 4294967296)) (Go.bits .xor .u32 a1 ((a0 + a1) % 4294967296))) / 2147483648) == 1)) = false := by simpa using c29))
          (try (have c29b3 : ¬ (t123 = (((Go.bits .and .u32 (Go.bits .xor .u32 a0 ((a0 + a1) % 4294967296)) (Go.bits .xor .u32 a1 ((a0 + a1) % 4294967296))) / 2147483648) == 1)) := by simpa using c29))
          clear c29
          obtain rfl := Option.some.inj H
          go_wp2_with (first | ((with_reducible refine gate_callee (f := 14) rfl ?_); refine goesL_ (some 100) rfl rfl Try.func14 (by kernel_rfl) rfl #[.int .u32 a0, .int .u32 a1, .bool false] rfl (by (try simp only [List.map_toArray, List.map_cons, List.map_nil]); first | done | rfl | (simp only [List.length_drop, List.length_take]; rfl)) ?_; (with_reducible refine (word_Over.calls a0 a1 false t123 _ A28.out).mono ?_); rintro e w' ⟨rfl, ⟨nd, rfl⟩⟩; refine ⟨_, rfl, ?_⟩) | (go_at_call 14; (with_reducible refine (word_Over.calls a0 a1 false t123 _ A28.out).mono ?_); rintro e w' ⟨rfl, ⟨nd, rfl⟩⟩))
          go_ret
          exact ⟨by first | rfl | (simp [errW_none, errW_some] <;> rfl) | (simp [*, errW_none, errW_some] <;> rfl), by repeat (first | (with_reducible first | exact HB.out | apply below_alloc | apply pw_below_drewN | apply below_drew1) | exact HB.out)⟩

/-- THE ONE PURE STATEMENT of pianolalaw1_WordSums: yours. -/
def pianolalaw1_WordSums.Pure : Prop := ∀ (a0 : Int) (a1 : Int) (a2 : Int), (Lit.int .u32 a0).wf = true → (Lit.int .u32 a1).wf = true → (Lit.int .u32 a2).wf = true → ∃ k, pianolalaw1_WordSums.f k a0 a1 a2 = some true
theorem pianolalaw1_WordSums.walk (P : pianolalaw1_WordSums.Pure) (a0 : Int) (a1 : Int) (a2 : Int) (w : World) (w0 : (Lit.int .u32 a0).wf = true) (w1 : (Lit.int .u32 a1).wf = true) (w2 : (Lit.int .u32 a2).wf = true) :
    Calls Try.prog 4 #[.int .u32 a0, .int .u32 a1, .int .u32 a2] w fun e w' => e = .returned (.bool true) ∧ Below w.heap.size w w' := by
  obtain ⟨k, h⟩ := P a0 a1 a2 w0 w1 w2
  refine (pianolalaw1_WordSums.calls k a0 a1 a2 true w h).mono ?_
  rintro e w' ⟨rfl, hd⟩
  exact ⟨rfl, hd⟩

/-! ### word_Mul: function 16 -/
def word_Mul.f (a0 : Int) (a1 : Int) (a2 : Bool) : Option (Int × Int) := if a2 = true then (some (((IntKind.u64.wrap (wrap64 ((wrap64 (wrap32 (a0))) * (wrap64 (wrap32 (a1)))))) / 4294967296) % 4294967296, (IntKind.u64.wrap (wrap64 ((wrap64 (wrap32 (a0))) * (wrap64 (wrap32 (a1)))))) % 4294967296)) else (some (((IntKind.u64.wrap ((IntKind.u64.wrap (a0)) * (IntKind.u64.wrap (a1)))) / 4294967296) % 4294967296, (IntKind.u64.wrap ((IntKind.u64.wrap (a0)) * (IntKind.u64.wrap (a1)))) % 4294967296))
set_option maxHeartbeats 8000000 in
set_option maxRecDepth 100000 in
theorem word_Mul.calls (a0 : Int) (a1 : Int) (a2 : Bool) (r1 : Int) (r2 : Int) (w : World) (h : word_Mul.f a0 a1 a2 = some (r1, r2)) :
    Calls Try.prog 16 #[.int .u32 a0, .int .u32 a1, .bool a2] w fun e w' => e = .returned (.tuple #[.int .u32 r1, .int .u32 r2]) ∧ Drawn0 w w' := by
  have H : (if a2 = true then (some (((IntKind.u64.wrap (wrap64 ((wrap64 (wrap32 (a0))) * (wrap64 (wrap32 (a1)))))) / 4294967296) % 4294967296, (IntKind.u64.wrap (wrap64 ((wrap64 (wrap32 (a0))) * (wrap64 (wrap32 (a1)))))) % 4294967296)) else (some (((IntKind.u64.wrap ((IntKind.u64.wrap (a0)) * (IntKind.u64.wrap (a1)))) / 4294967296) % 4294967296, (IntKind.u64.wrap ((IntKind.u64.wrap (a0)) * (IntKind.u64.wrap (a1)))) % 4294967296))) = some (r1, r2) := h
  clear h
  by_cases c4 : a2 = true
  · subst c4
    have H1 : (some (((IntKind.u64.wrap (wrap64 ((wrap64 (wrap32 (a0))) * (wrap64 (wrap32 (a1)))))) / 4294967296) % 4294967296, (IntKind.u64.wrap (wrap64 ((wrap64 (wrap32 (a0))) * (wrap64 (wrap32 (a1)))))) % 4294967296)) = some (r1, r2) := by rw [if_pos rfl] at H; exact H
    clear H
    have H := H1
    clear H1
    simp only [Option.some.injEq, Prod.mk.injEq] at H
    obtain ⟨rfl, rfl⟩ := H
    go_enter Try.func16, Try.ntmps16
    go_wp2
    go_ret2
    exact ⟨by first | rfl | (simp; done) | (simp [*]; done) | (simp; omega), by repeat (first | exact Drawn0.refl _ | apply Drawn0.step)⟩
  · replace c4 := Bool.eq_false_iff.mpr c4
    subst c4
    have H1 : (some (((IntKind.u64.wrap ((IntKind.u64.wrap (a0)) * (IntKind.u64.wrap (a1)))) / 4294967296) % 4294967296, (IntKind.u64.wrap ((IntKind.u64.wrap (a0)) * (IntKind.u64.wrap (a1)))) % 4294967296)) = some (r1, r2) := by rw [if_neg (show ¬ (false = true) by decide)] at H; exact H
    clear H
    have H := H1
    clear H1
    simp only [Option.some.injEq, Prod.mk.injEq] at H
    obtain ⟨rfl, rfl⟩ := H
    go_enter Try.func16, Try.ntmps16
    go_wp2
    go_ret2
    exact ⟨by first | rfl | (simp; done) | (simp [*]; done) | (simp; omega), by repeat (first | exact Drawn0.refl _ | apply Drawn0.step)⟩

/-! ### pianolaref1_Mul: function 20 -/
def pianolaref1_Mul.j0 : Nat → Int → Int → Bool → Int → Int → Bool → Option (Int × Int)
  | 0, _, _, _, _, _, _ => none
  | k + 1, x0, x1, x2, x8, x9, x22 => if x22 = true then (if x2 = true then (if x1 ≥ 2147483648 then (some (((x9 - x1) - x0) % 4294967296, (x8) % 4294967296)) else (some ((x9 - x1) % 4294967296, (x8) % 4294967296))) else (some ((x9 - x1) % 4294967296, (x8) % 4294967296))) else (if x2 = true then (if x1 ≥ 2147483648 then (some ((x9 - x0) % 4294967296, (x8) % 4294967296)) else (some (x9, (x8) % 4294967296))) else (some (x9, (x8) % 4294967296)))
def pianolaref1_Mul.f (k : Nat) (a0 : Int) (a1 : Int) (a2 : Bool) : Option (Int × Int) := if a2 = true then (pianolaref1_Mul.j0 k a0 a1 a2 (IntKind.u64.wrap ((IntKind.u64.wrap (a0)) * (IntKind.u64.wrap (a1)))) (((IntKind.u64.wrap ((IntKind.u64.wrap (a0)) * (IntKind.u64.wrap (a1)))) / 4294967296) % 4294967296) (decide (a0 ≥ 2147483648))) else (pianolaref1_Mul.j0 k a0 a1 a2 (IntKind.u64.wrap ((IntKind.u64.wrap (a0)) * (IntKind.u64.wrap (a1)))) (((IntKind.u64.wrap ((IntKind.u64.wrap (a0)) * (IntKind.u64.wrap (a1)))) / 4294967296) % 4294967296) false)
theorem pianolaref1_Mul.mono_l : ∀ k, (∀ y0 y1 y2 y3 y4 y5, LeO (pianolaref1_Mul.j0 k y0 y1 y2 y3 y4 y5) (pianolaref1_Mul.j0 (k + 1) y0 y1 y2 y3 y4 y5))
  | 0 => fun _ _ _ _ _ _ r h => by simp [pianolaref1_Mul.j0] at h
  | k + 1 => by
    have ih0 := pianolaref1_Mul.mono_l k
    · intro y0 y1 y2 y3 y4 y5
      unfold pianolaref1_Mul.j0
      repeat' first
      | (with_reducible exact ih0 _ _ _ _ _ _)
      | (with_reducible exact LeO.refl _)
      | (with_reducible exact LeO.none _)
      | (with_reducible refine LeO.ite ?_ ?_)
      | (with_reducible refine LeO.bind ?_ (fun _ => ?_))
      | exact ih0 _ _ _ _ _ _
      | exact LeO.none _
      | refine LeO.ite ?_ ?_
      | refine LeO.bind ?_ (fun _ => ?_)
theorem pianolaref1_Mul.mono : ∀ a0 a1 a2 k, LeO (pianolaref1_Mul.f k a0 a1 a2) (pianolaref1_Mul.f (k + 1) a0 a1 a2) := by
  intro a0 a1 a2 k
  have ih0 := pianolaref1_Mul.mono_l k
  unfold pianolaref1_Mul.f
  repeat' first
      | (with_reducible exact ih0 _ _ _ _ _ _)
      | (with_reducible exact LeO.refl _)
      | (with_reducible exact LeO.none _)
      | (with_reducible refine LeO.ite ?_ ?_)
      | (with_reducible refine LeO.bind ?_ (fun _ => ?_))
      | exact ih0 _ _ _ _ _ _
      | exact LeO.none _
      | refine LeO.ite ?_ ?_
      | refine LeO.bind ?_ (fun _ => ?_)
set_option maxHeartbeats 8000000 in
set_option maxRecDepth 100000 in
theorem pianolaref1_Mul.calls (k : Nat) (a0 : Int) (a1 : Int) (a2 : Bool) (r1 : Int) (r2 : Int) (w : World) (h : pianolaref1_Mul.f k a0 a1 a2 = some (r1, r2)) :
    Calls Try.prog 20 #[.int .u32 a0, .int .u32 a1, .bool a2] w fun e w' => e = .returned (.tuple #[.int .u32 r1, .int .u32 r2]) ∧ Drawn0 w w' := by
  have H : (if a2 = true then (pianolaref1_Mul.j0 k a0 a1 a2 (IntKind.u64.wrap ((IntKind.u64.wrap (a0)) * (IntKind.u64.wrap (a1)))) (((IntKind.u64.wrap ((IntKind.u64.wrap (a0)) * (IntKind.u64.wrap (a1)))) / 4294967296) % 4294967296) (decide (a0 ≥ 2147483648))) else (pianolaref1_Mul.j0 k a0 a1 a2 (IntKind.u64.wrap ((IntKind.u64.wrap (a0)) * (IntKind.u64.wrap (a1)))) (((IntKind.u64.wrap ((IntKind.u64.wrap (a0)) * (IntKind.u64.wrap (a1)))) / 4294967296) % 4294967296) false)) = some (r1, r2) := h
  clear h
  have HC4 := Aside0.mk H
  clear H
  go_enter Try.func20, Try.ntmps20
  go_upto_region 3 with (fail)
  go_cut [2, 22] (fun v2 v22 wc => ∃ (kq : Nat) (x2_3 : Bool) (x22_3 : Bool), v2 = .bool x2_3 ∧ v22 = .bool x22_3 ∧ Aside0 (pianolaref1_Mul.j0 kq a0 a1 x2_3 (IntKind.u64.wrap ((IntKind.u64.wrap (a0)) * (IntKind.u64.wrap (a1)))) (((IntKind.u64.wrap ((IntKind.u64.wrap (a0)) * (IntKind.u64.wrap (a1)))) / 4294967296) % 4294967296) x22_3 = some (r1, r2)) ∧ Aside0 (kq ≤ k) ∧ Drawn0 w wc)
  case first =>
    have H := HC4.out
    clear HC4
    by_cases c5 : a2 = true
    · subst c5
      have H1 : (pianolaref1_Mul.j0 k a0 a1 true (IntKind.u64.wrap ((IntKind.u64.wrap (a0)) * (IntKind.u64.wrap (a1)))) (((IntKind.u64.wrap ((IntKind.u64.wrap (a0)) * (IntKind.u64.wrap (a1)))) / 4294967296) % 4294967296) (decide (a0 ≥ 2147483648))) = some (r1, r2) := by rw [if_pos rfl] at H; exact H
      clear H
      have H := H1
      clear H1
      have H' := Aside0.mk H
      clear H
      go_wp2
      go_meet
      case rel => exact ⟨_, (true), (decide (a0 ≥ 2147483648)), (by first | rfl | (simp; done) | (simp [*]; done) | (simp; omega)), (by first | rfl | (simp; done) | (simp [*]; done) | (simp; omega)), H', ⟨by first | omega | exact Nat.le_refl _⟩, by repeat (first | exact Drawn0.refl _ | apply Drawn0.step)⟩
    · replace c5 := Bool.eq_false_iff.mpr c5
      subst c5
      have H1 : (pianolaref1_Mul.j0 k a0 a1 false (IntKind.u64.wrap ((IntKind.u64.wrap (a0)) * (IntKind.u64.wrap (a1)))) (((IntKind.u64.wrap ((IntKind.u64.wrap (a0)) * (IntKind.u64.wrap (a1)))) / 4294967296) % 4294967296) false) = some (r1, r2) := by rw [if_neg (show ¬ (false = true) by decide)] at H; exact H
      clear H
      have H := H1
      clear H1
      have H' := Aside0.mk H
      clear H
      go_wp2
      go_meet
      case rel => exact ⟨_, (false), (false), (by first | rfl | (simp; done) | (simp [*]; done) | (simp; omega)), (by first | rfl | (simp; done) | (simp [*]; done) | (simp; omega)), H', ⟨by first | omega | exact Nat.le_refl _⟩, by repeat (first | exact Drawn0.refl _ | apply Drawn0.step)⟩
  case rest =>
    clear HC4
    try clear c2
    try clear p2
    try clear c5
    obtain ⟨kq, x2_3, x22_3, rfl, rfl, HA, HJ3, ⟨mc3, rfl⟩⟩ := hcut
    cases kq with
    | zero => exact absurd HA.out (by simp [pianolaref1_Mul.j0])
    | succ kj3 =>
      have H := HA.out
      clear HA
      simp only [pianolaref1_Mul.j0] at H
      by_cases c6 : x22_3 = true
      · subst c6
        have H1 : (if x2_3 = true then (if a1 ≥ 2147483648 then (some ((((((IntKind.u64.wrap ((IntKind.u64.wrap (a0)) * (IntKind.u64.wrap (a1)))) / 4294967296) % 4294967296) - a1) - a0) % 4294967296, ((IntKind.u64.wrap ((IntKind.u64.wrap (a0)) * (IntKind.u64.wrap (a1))))) % 4294967296)) else (some (((((IntKind.u64.wrap ((IntKind.u64.wrap (a0)) * (IntKind.u64.wrap (a1)))) / 4294967296) % 4294967296) - a1) % 4294967296, ((IntKind.u64.wrap ((IntKind.u64.wrap (a0)) * (IntKind.u64.wrap (a1))))) % 4294967296))) else (some (((((IntKind.u64.wrap ((IntKind.u64.wrap (a0)) * (IntKind.u64.wrap (a1)))) / 4294967296) % 4294967296) - a1) % 4294967296, ((IntKind.u64.wrap ((IntKind.u64.wrap (a0)) * (IntKind.u64.wrap (a1))))) % 4294967296))) = some (r1, r2) := by rw [if_pos rfl] at H; exact H
        clear H
        have H := H1
        clear H1
        by_cases c7 : x2_3 = true
        · subst c7
          have H1 : (if a1 ≥ 2147483648 then (some ((((((IntKind.u64.wrap ((IntKind.u64.wrap (a0)) * (IntKind.u64.wrap (a1)))) / 4294967296) % 4294967296) - a1) - a0) % 4294967296, ((IntKind.u64.wrap ((IntKind.u64.wrap (a0)) * (IntKind.u64.wrap (a1))))) % 4294967296)) else (some (((((IntKind.u64.wrap ((IntKind.u64.wrap (a0)) * (IntKind.u64.wrap (a1)))) / 4294967296) % 4294967296) - a1) % 4294967296, ((IntKind.u64.wrap ((IntKind.u64.wrap (a0)) * (IntKind.u64.wrap (a1))))) % 4294967296))) = some (r1, r2) := by rw [if_pos rfl] at H; exact H
          clear H
          have H := H1
          clear H1
          by_cases c8 : a1 ≥ 2147483648
          · rw [if_pos c8] at H
            have c8b0 : decide (2147483648 ≤ a1) = true := decide_eq_true c8
            clear c8
            simp only [Option.some.injEq, Prod.mk.injEq] at H
            obtain ⟨rfl, rfl⟩ := H
            go_wp2
            go_ret2
            exact ⟨by first | rfl | (simp; done) | (simp [*]; done) | (simp; omega), by repeat (first | exact Drawn0.refl _ | apply Drawn0.step)⟩
          · rw [if_neg c8] at H
            have c8b0 : decide (2147483648 ≤ a1) = false := decide_eq_false c8
            clear c8
            simp only [Option.some.injEq, Prod.mk.injEq] at H
            obtain ⟨rfl, rfl⟩ := H
            go_wp2
            go_ret2
            exact ⟨by first | rfl | (simp; done) | (simp [*]; done) | (simp; omega), by repeat (first | exact Drawn0.refl _ | apply Drawn0.step)⟩
        · replace c7 := Bool.eq_false_iff.mpr c7
          subst c7
          have H1 : (some (((((IntKind.u64.wrap ((IntKind.u64.wrap (a0)) * (IntKind.u64.wrap (a1)))) / 4294967296) % 4294967296) - a1) % 4294967296, ((IntKind.u64.wrap ((IntKind.u64.wrap (a0)) * (IntKind.u64.wrap (a1))))) % 4294967296)) = some (r1, r2) := by rw [if_neg (show ¬ (false = true) by decide)] at H; exact H
          clear H
          have H := H1
          clear H1
          simp only [Option.some.injEq, Prod.mk.injEq] at H
          obtain ⟨rfl, rfl⟩ := H
          go_wp2
          go_ret2
          exact ⟨by first | rfl | (simp; done) | (simp [*]; done) | (simp; omega), by repeat (first | exact Drawn0.refl _ | apply Drawn0.step)⟩
      · replace c6 := Bool.eq_false_iff.mpr c6
        subst c6
        have H1 : (if x2_3 = true then (if a1 ≥ 2147483648 then (some (((((IntKind.u64.wrap ((IntKind.u64.wrap (a0)) * (IntKind.u64.wrap (a1)))) / 4294967296) % 4294967296) - a0) % 4294967296, ((IntKind.u64.wrap ((IntKind.u64.wrap (a0)) * (IntKind.u64.wrap (a1))))) % 4294967296)) else (some ((((IntKind.u64.wrap ((IntKind.u64.wrap (a0)) * (IntKind.u64.wrap (a1)))) / 4294967296) % 4294967296), ((IntKind.u64.wrap ((IntKind.u64.wrap (a0)) * (IntKind.u64.wrap (a1))))) % 4294967296))) else (some ((((IntKind.u64.wrap ((IntKind.u64.wrap (a0)) * (IntKind.u64.wrap (a1)))) / 4294967296) % 4294967296), ((IntKind.u64.wrap ((IntKind.u64.wrap (a0)) * (IntKind.u64.wrap (a1))))) % 4294967296))) = some (r1, r2) := by rw [if_neg (show ¬ (false = true) by decide)] at H; exact H
        clear H
        have H := H1
        clear H1
        by_cases c9 : x2_3 = true
        · subst c9
          have H1 : (if a1 ≥ 2147483648 then (some (((((IntKind.u64.wrap ((IntKind.u64.wrap (a0)) * (IntKind.u64.wrap (a1)))) / 4294967296) % 4294967296) - a0) % 4294967296, ((IntKind.u64.wrap ((IntKind.u64.wrap (a0)) * (IntKind.u64.wrap (a1))))) % 4294967296)) else (some ((((IntKind.u64.wrap ((IntKind.u64.wrap (a0)) * (IntKind.u64.wrap (a1)))) / 4294967296) % 4294967296), ((IntKind.u64.wrap ((IntKind.u64.wrap (a0)) * (IntKind.u64.wrap (a1))))) % 4294967296))) = some (r1, r2) := by rw [if_pos rfl] at H; exact H
          clear H
          have H := H1
          clear H1
          by_cases c10 : a1 ≥ 2147483648
          · rw [if_pos c10] at H
            have c10b0 : decide (2147483648 ≤ a1) = true := decide_eq_true c10
            clear c10
            simp only [Option.some.injEq, Prod.mk.injEq] at H
            obtain ⟨rfl, rfl⟩ := H
            go_wp2
            go_ret2
            exact ⟨by first | rfl | (simp; done) | (simp [*]; done) | (simp; omega), by repeat (first | exact Drawn0.refl _ | apply Drawn0.step)⟩
          · rw [if_neg c10] at H
            have c10b0 : decide (2147483648 ≤ a1) = false := decide_eq_false c10
            clear c10
            simp only [Option.some.injEq, Prod.mk.injEq] at H
            obtain ⟨rfl, rfl⟩ := H
            go_wp2
            go_ret2
            exact ⟨by first | rfl | (simp; done) | (simp [*]; done) | (simp; omega), by repeat (first | exact Drawn0.refl _ | apply Drawn0.step)⟩
        · replace c9 := Bool.eq_false_iff.mpr c9
          subst c9
          have H1 : (some ((((IntKind.u64.wrap ((IntKind.u64.wrap (a0)) * (IntKind.u64.wrap (a1)))) / 4294967296) % 4294967296), ((IntKind.u64.wrap ((IntKind.u64.wrap (a0)) * (IntKind.u64.wrap (a1))))) % 4294967296)) = some (r1, r2) := by rw [if_neg (show ¬ (false = true) by decide)] at H; exact H
          clear H
          have H := H1
          clear H1
          simp only [Option.some.injEq, Prod.mk.injEq] at H
          obtain ⟨rfl, rfl⟩ := H
          go_wp2
          go_ret2
          exact ⟨by first | rfl | (simp; done) | (simp [*]; done) | (simp; omega), by repeat (first | exact Drawn0.refl _ | apply Drawn0.step)⟩

/-! ### pianolaref1_wide: function 29 -/
def pianolaref1_wide.f (a0 : Int) (a1 : Bool) : Option (Int) := if a1 = true then (if a0 ≥ 2147483648 then (some (wrap64 ((wrap64 (a0)) - 4294967296))) else (some (wrap64 (a0)))) else (some (wrap64 (a0)))
set_option maxHeartbeats 8000000 in
set_option maxRecDepth 100000 in
theorem pianolaref1_wide.calls (a0 : Int) (a1 : Bool) (r : Int) (w : World) (h : pianolaref1_wide.f a0 a1 = some r) :
    Calls Try.prog 29 #[.int .u32 a0, .bool a1] w fun e w' => e = .returned (.int .i64 r) ∧ Drawn0 w w' := by
  have H : (if a1 = true then (if a0 ≥ 2147483648 then (some (wrap64 ((wrap64 (a0)) - 4294967296))) else (some (wrap64 (a0)))) else (some (wrap64 (a0)))) = some r := h
  clear h
  by_cases c3 : a1 = true
  · subst c3
    have H1 : (if a0 ≥ 2147483648 then (some (wrap64 ((wrap64 (a0)) - 4294967296))) else (some (wrap64 (a0)))) = some r := by rw [if_pos rfl] at H; exact H
    clear H
    have H := H1
    clear H1
    by_cases c4 : a0 ≥ 2147483648
    · rw [if_pos c4] at H
      have c4b0 : decide (2147483648 ≤ a0) = true := decide_eq_true c4
      clear c4
      obtain rfl := Option.some.inj H
      go_enter Try.func29, Try.ntmps29
      go_wp2
      go_ret
      exact ⟨by first | rfl | (simp; done) | (simp [*]; done) | (simp; omega), by repeat (first | exact Drawn0.refl _ | apply Drawn0.step)⟩
    · rw [if_neg c4] at H
      have c4b0 : decide (2147483648 ≤ a0) = false := decide_eq_false c4
      clear c4
      obtain rfl := Option.some.inj H
      go_enter Try.func29, Try.ntmps29
      go_wp2
      go_ret
      exact ⟨by first | rfl | (simp; done) | (simp [*]; done) | (simp; omega), by repeat (first | exact Drawn0.refl _ | apply Drawn0.step)⟩
  · replace c3 := Bool.eq_false_iff.mpr c3
    subst c3
    have H1 : (some (wrap64 (a0))) = some r := by rw [if_neg (show ¬ (false = true) by decide)] at H; exact H
    clear H
    have H := H1
    clear H1
    obtain rfl := Option.some.inj H
    go_enter Try.func29, Try.ntmps29
    go_wp2
    go_ret
    exact ⟨by first | rfl | (simp; done) | (simp [*]; done) | (simp; omega), by repeat (first | exact Drawn0.refl _ | apply Drawn0.step)⟩

/-! ### pianolaref1_Div: function 21 -/
def pianolaref1_Div.f (a0 : Int) (a1 : Int) (a2 : Bool) : Option (Int × Int) := if a1 = 0 then (some (4294967295, a0)) else ((pianolaref1_wide.f a0 a2).bind fun t135 => ((pianolaref1_wide.f a1 a2).bind fun t136 => (if t136 = 0 then (none) else (some ((wrap64 (Int.tdiv t135 t136)) % 4294967296, (Int.tmod t135 t136) % 4294967296)))))
set_option maxHeartbeats 8000000 in
set_option maxRecDepth 100000 in
theorem pianolaref1_Div.calls (a0 : Int) (a1 : Int) (a2 : Bool) (r1 : Int) (r2 : Int) (w : World) (h : pianolaref1_Div.f a0 a1 a2 = some (r1, r2)) :
    Calls Try.prog 21 #[.int .u32 a0, .int .u32 a1, .bool a2] w fun e w' => e = .returned (.tuple #[.int .u32 r1, .int .u32 r2]) ∧ Drawn0 w w' := by
  have H : (if a1 = 0 then (some (4294967295, a0)) else ((pianolaref1_wide.f a0 a2).bind fun t135 => ((pianolaref1_wide.f a1 a2).bind fun t136 => (if t136 = 0 then (none) else (some ((wrap64 (Int.tdiv t135 t136)) % 4294967296, (Int.tmod t135 t136) % 4294967296)))))) = some (r1, r2) := h
  clear h
  by_cases c4 : a1 = 0
  · rw [if_pos c4] at H
    have c4b0 : (a1 == 0) = true := beq_iff_eq.mpr c4
    have c4b1 : (a1 != 0) = false := bne_eq_false_iff_eq.mpr c4
    clear c4
    simp only [Option.some.injEq, Prod.mk.injEq] at H
    obtain ⟨rfl, rfl⟩ := H
    go_enter Try.func21, Try.ntmps21
    go_wp2
    repeat (go_quiet (fail); try go_wp2)
    go_ret2
    exact ⟨by first | rfl | (simp; done) | (simp [*]; done) | (simp; omega), by repeat (first | exact Drawn0.refl _ | apply Drawn0.step)⟩
  · rw [if_neg c4] at H
    have c4b0 : (a1 == 0) = false := beq_eq_false_iff_ne.mpr c4
    have c4b1 : (a1 != 0) = true := bne_iff_ne.mpr c4
    replace H := Option.bind_eq_some_iff.mp H
    obtain ⟨t135, A50, H⟩ := H
    replace H : ((pianolaref1_wide.f a1 a2).bind fun t136 => (if t136 = 0 then (none) else (some ((wrap64 (Int.tdiv t135 t136)) % 4294967296, (Int.tmod t135 t136) % 4294967296)))) = some (r1, r2) := H
    have A5 := Aside0.mk A50
    clear A50
    replace H := Option.bind_eq_some_iff.mp H
    obtain ⟨t136, A60, H⟩ := H
    replace H : (if t136 = 0 then (none) else (some ((wrap64 (Int.tdiv t135 t136)) % 4294967296, (Int.tmod t135 t136) % 4294967296))) = some (r1, r2) := H
    have A6 := Aside0.mk A60
    clear A60
    by_cases c7 : t136 = 0
    · rw [if_pos c7] at H
      exact absurd H (by simp)
    · rw [if_neg c7] at H
      have c7b0 : (t136 == 0) = false := beq_eq_false_iff_ne.mpr c7
      have c7b1 : (t136 != 0) = true := bne_iff_ne.mpr c7
      simp only [Option.some.injEq, Prod.mk.injEq] at H
      obtain ⟨rfl, rfl⟩ := H
      go_enter Try.func21, Try.ntmps21
      go_wp2_with (first | (go_at_call 29; (with_reducible refine (pianolaref1_wide.calls a0 a2 t135 _ A5.out).mono ?_); rintro e w' ⟨rfl, ⟨nd, rfl⟩⟩; (try first | exact ⟨rfl, _, World.drewN_drewN _ _ _⟩ | exact ⟨rfl, _, Eq.trans (World.drewN_drewN _ _ _) (congrArg (World.drewN _) (Nat.add_assoc _ _ _))⟩)) | (go_at_call 29; (with_reducible refine (pianolaref1_wide.calls a1 a2 t136 _ A6.out).mono ?_); rintro e w' ⟨rfl, ⟨nd, rfl⟩⟩; (try first | exact ⟨rfl, _, World.drewN_drewN _ _ _⟩ | exact ⟨rfl, _, Eq.trans (World.drewN_drewN _ _ _) (congrArg (World.drewN _) (Nat.add_assoc _ _ _))⟩)))
      repeat (go_quiet (first | (go_at_call 29; (with_reducible refine (pianolaref1_wide.calls a0 a2 t135 _ A5.out).mono ?_); rintro e w' ⟨rfl, ⟨nd, rfl⟩⟩; (try first | exact ⟨rfl, _, World.drewN_drewN _ _ _⟩ | exact ⟨rfl, _, Eq.trans (World.drewN_drewN _ _ _) (congrArg (World.drewN _) (Nat.add_assoc _ _ _))⟩)) | (go_at_call 29; (with_reducible refine (pianolaref1_wide.calls a1 a2 t136 _ A6.out).mono ?_); rintro e w' ⟨rfl, ⟨nd, rfl⟩⟩; (try first | exact ⟨rfl, _, World.drewN_drewN _ _ _⟩ | exact ⟨rfl, _, Eq.trans (World.drewN_drewN _ _ _) (congrArg (World.drewN _) (Nat.add_assoc _ _ _))⟩))); try go_wp2_with (first | (go_at_call 29; (with_reducible refine (pianolaref1_wide.calls a0 a2 t135 _ A5.out).mono ?_); rintro e w' ⟨rfl, ⟨nd, rfl⟩⟩; (try first | exact ⟨rfl, _, World.drewN_drewN _ _ _⟩ | exact ⟨rfl, _, Eq.trans (World.drewN_drewN _ _ _) (congrArg (World.drewN _) (Nat.add_assoc _ _ _))⟩)) | (go_at_call 29; (with_reducible refine (pianolaref1_wide.calls a1 a2 t136 _ A6.out).mono ?_); rintro e w' ⟨rfl, ⟨nd, rfl⟩⟩; (try first | exact ⟨rfl, _, World.drewN_drewN _ _ _⟩ | exact ⟨rfl, _, Eq.trans (World.drewN_drewN _ _ _) (congrArg (World.drewN _) (Nat.add_assoc _ _ _))⟩))))
      go_ret2
      exact ⟨by first | rfl | (simp; done) | (simp [*]; done) | (simp; omega), by repeat (first | exact Drawn0.refl _ | apply Drawn0.step)⟩

/-! ### pianolaref1_Over: function 22 -/
def pianolaref1_Over.f (a0 : Int) (a1 : Int) (a2 : Bool) : Option (Bool) := (pianolaref1_wide.f a0 true).bind fun t137 => ((pianolaref1_wide.f a1 true).bind fun t138 => (if a2 = true then (if (wrap64 (t137 - t138)) ≥ 2147483648 then (some true) else (some (decide ((wrap64 (t137 - t138)) < (-2147483648))))) else (if (wrap64 (t137 + t138)) ≥ 2147483648 then (some true) else (some (decide ((wrap64 (t137 + t138)) < (-2147483648)))))))
set_option maxHeartbeats 8000000 in
set_option maxRecDepth 100000 in
theorem pianolaref1_Over.calls (a0 : Int) (a1 : Int) (a2 : Bool) (r : Bool) (w : World) (h : pianolaref1_Over.f a0 a1 a2 = some r) :
    Calls Try.prog 22 #[.int .u32 a0, .int .u32 a1, .bool a2] w fun e w' => e = .returned (.bool r) ∧ Drawn0 w w' := by
  have H : ((pianolaref1_wide.f a0 true).bind fun t137 => ((pianolaref1_wide.f a1 true).bind fun t138 => (if a2 = true then (if (wrap64 (t137 - t138)) ≥ 2147483648 then (some true) else (some (decide ((wrap64 (t137 - t138)) < (-2147483648))))) else (if (wrap64 (t137 + t138)) ≥ 2147483648 then (some true) else (some (decide ((wrap64 (t137 + t138)) < (-2147483648)))))))) = some r := h
  clear h
  replace H := Option.bind_eq_some_iff.mp H
  obtain ⟨t137, A40, H⟩ := H
  replace H : ((pianolaref1_wide.f a1 true).bind fun t138 => (if a2 = true then (if (wrap64 (t137 - t138)) ≥ 2147483648 then (some true) else (some (decide ((wrap64 (t137 - t138)) < (-2147483648))))) else (if (wrap64 (t137 + t138)) ≥ 2147483648 then (some true) else (some (decide ((wrap64 (t137 + t138)) < (-2147483648))))))) = some r := H
  have A4 := Aside0.mk A40
  clear A40
  replace H := Option.bind_eq_some_iff.mp H
  obtain ⟨t138, A50, H⟩ := H
  replace H : (if a2 = true then (if (wrap64 (t137 - t138)) ≥ 2147483648 then (some true) else (some (decide ((wrap64 (t137 - t138)) < (-2147483648))))) else (if (wrap64 (t137 + t138)) ≥ 2147483648 then (some true) else (some (decide ((wrap64 (t137 + t138)) < (-2147483648)))))) = some r := H
  have A5 := Aside0.mk A50
  clear A50
  by_cases c6 : a2 = true
  · subst c6
    have H1 : (if (wrap64 (t137 - t138)) ≥ 2147483648 then (some true) else (some (decide ((wrap64 (t137 - t138)) < (-2147483648))))) = some r := by rw [if_pos rfl] at H; exact H
    clear H
    have H := H1
    clear H1
    by_cases c7 : (wrap64 (t137 - t138)) ≥ 2147483648
    · rw [if_pos c7] at H
      have c7b0 : decide (2147483648 ≤ (wrap64 (t137 - t138))) = true := decide_eq_true c7
      clear c7
      obtain rfl := Option.some.inj H
      go_enter Try.func22, Try.ntmps22
      go_wp2_with (first | ((with_reducible refine gate_callee (f := 29) rfl ?_); refine goesL_ (some 9) rfl rfl Try.func29 (by kernel_rfl) rfl #[.int .u32 a0, .bool true] rfl (by (try simp only [List.map_toArray, List.map_cons, List.map_nil]); first | done | rfl | (simp only [List.length_drop, List.length_take]; rfl)) ?_; (with_reducible refine (pianolaref1_wide.calls a0 true t137 _ A4.out).mono ?_); rintro e w' ⟨rfl, ⟨nd, rfl⟩⟩; refine ⟨_, rfl, ?_⟩) | ((with_reducible refine gate_callee (f := 29) rfl ?_); refine goesL_ (some 11) rfl rfl Try.func29 (by kernel_rfl) rfl #[.int .u32 a1, .bool true] rfl (by (try simp only [List.map_toArray, List.map_cons, List.map_nil]); first | done | rfl | (simp only [List.length_drop, List.length_take]; rfl)) ?_; (with_reducible refine (pianolaref1_wide.calls a1 true t138 _ A5.out).mono ?_); rintro e w' ⟨rfl, ⟨nd, rfl⟩⟩; refine ⟨_, rfl, ?_⟩) | (go_at_call 29; (with_reducible refine (pianolaref1_wide.calls a0 true t137 _ A4.out).mono ?_); rintro e w' ⟨rfl, ⟨nd, rfl⟩⟩) | (go_at_call 29; (with_reducible refine (pianolaref1_wide.calls a1 true t138 _ A5.out).mono ?_); rintro e w' ⟨rfl, ⟨nd, rfl⟩⟩))
      go_ret
      exact ⟨by first | rfl | (simp; done) | (simp [*]; done) | (simp; omega), by repeat (first | exact Drawn0.refl _ | apply Drawn0.step)⟩
    · rw [if_neg c7] at H
      have c7b0 : decide (2147483648 ≤ (wrap64 (t137 - t138))) = false := decide_eq_false c7
      clear c7
      obtain rfl := Option.some.inj H
      go_enter Try.func22, Try.ntmps22
      go_wp2_with (first | ((with_reducible refine gate_callee (f := 29) rfl ?_); refine goesL_ (some 9) rfl rfl Try.func29 (by kernel_rfl) rfl #[.int .u32 a0, .bool true] rfl (by (try simp only [List.map_toArray, List.map_cons, List.map_nil]); first | done | rfl | (simp only [List.length_drop, List.length_take]; rfl)) ?_; (with_reducible refine (pianolaref1_wide.calls a0 true t137 _ A4.out).mono ?_); rintro e w' ⟨rfl, ⟨nd, rfl⟩⟩; refine ⟨_, rfl, ?_⟩) | ((with_reducible refine gate_callee (f := 29) rfl ?_); refine goesL_ (some 11) rfl rfl Try.func29 (by kernel_rfl) rfl #[.int .u32 a1, .bool true] rfl (by (try simp only [List.map_toArray, List.map_cons, List.map_nil]); first | done | rfl | (simp only [List.length_drop, List.length_take]; rfl)) ?_; (with_reducible refine (pianolaref1_wide.calls a1 true t138 _ A5.out).mono ?_); rintro e w' ⟨rfl, ⟨nd, rfl⟩⟩; refine ⟨_, rfl, ?_⟩) | (go_at_call 29; (with_reducible refine (pianolaref1_wide.calls a0 true t137 _ A4.out).mono ?_); rintro e w' ⟨rfl, ⟨nd, rfl⟩⟩) | (go_at_call 29; (with_reducible refine (pianolaref1_wide.calls a1 true t138 _ A5.out).mono ?_); rintro e w' ⟨rfl, ⟨nd, rfl⟩⟩))
      go_ret
      exact ⟨by first | rfl | (simp; done) | (simp [*]; done) | (simp; omega), by repeat (first | exact Drawn0.refl _ | apply Drawn0.step)⟩
  · replace c6 := Bool.eq_false_iff.mpr c6
    subst c6
    have H1 : (if (wrap64 (t137 + t138)) ≥ 2147483648 then (some true) else (some (decide ((wrap64 (t137 + t138)) < (-2147483648))))) = some r := by rw [if_neg (show ¬ (false = true) by decide)] at H; exact H
    clear H
    have H := H1
    clear H1
    by_cases c8 : (wrap64 (t137 + t138)) ≥ 2147483648
    · rw [if_pos c8] at H
      have c8b0 : decide (2147483648 ≤ (wrap64 (t137 + t138))) = true := decide_eq_true c8
      clear c8
      obtain rfl := Option.some.inj H
      go_enter Try.func22, Try.ntmps22
      go_wp2_with (first | ((with_reducible refine gate_callee (f := 29) rfl ?_); refine goesL_ (some 9) rfl rfl Try.func29 (by kernel_rfl) rfl #[.int .u32 a0, .bool true] rfl (by (try simp only [List.map_toArray, List.map_cons, List.map_nil]); first | done | rfl | (simp only [List.length_drop, List.length_take]; rfl)) ?_; (with_reducible refine (pianolaref1_wide.calls a0 true t137 _ A4.out).mono ?_); rintro e w' ⟨rfl, ⟨nd, rfl⟩⟩; refine ⟨_, rfl, ?_⟩) | ((with_reducible refine gate_callee (f := 29) rfl ?_); refine goesL_ (some 11) rfl rfl Try.func29 (by kernel_rfl) rfl #[.int .u32 a1, .bool true] rfl (by (try simp only [List.map_toArray, List.map_cons, List.map_nil]); first | done | rfl | (simp only [List.length_drop, List.length_take]; rfl)) ?_; (with_reducible refine (pianolaref1_wide.calls a1 true t138 _ A5.out).mono ?_); rintro e w' ⟨rfl, ⟨nd, rfl⟩⟩; refine ⟨_, rfl, ?_⟩) | (go_at_call 29; (with_reducible refine (pianolaref1_wide.calls a0 true t137 _ A4.out).mono ?_); rintro e w' ⟨rfl, ⟨nd, rfl⟩⟩) | (go_at_call 29; (with_reducible refine (pianolaref1_wide.calls a1 true t138 _ A5.out).mono ?_); rintro e w' ⟨rfl, ⟨nd, rfl⟩⟩))
      go_ret
      exact ⟨by first | rfl | (simp; done) | (simp [*]; done) | (simp; omega), by repeat (first | exact Drawn0.refl _ | apply Drawn0.step)⟩
    · rw [if_neg c8] at H
      have c8b0 : decide (2147483648 ≤ (wrap64 (t137 + t138))) = false := decide_eq_false c8
      clear c8
      obtain rfl := Option.some.inj H
      go_enter Try.func22, Try.ntmps22
      go_wp2_with (first | ((with_reducible refine gate_callee (f := 29) rfl ?_); refine goesL_ (some 9) rfl rfl Try.func29 (by kernel_rfl) rfl #[.int .u32 a0, .bool true] rfl (by (try simp only [List.map_toArray, List.map_cons, List.map_nil]); first | done | rfl | (simp only [List.length_drop, List.length_take]; rfl)) ?_; (with_reducible refine (pianolaref1_wide.calls a0 true t137 _ A4.out).mono ?_); rintro e w' ⟨rfl, ⟨nd, rfl⟩⟩; refine ⟨_, rfl, ?_⟩) | ((with_reducible refine gate_callee (f := 29) rfl ?_); refine goesL_ (some 11) rfl rfl Try.func29 (by kernel_rfl) rfl #[.int .u32 a1, .bool true] rfl (by (try simp only [List.map_toArray, List.map_cons, List.map_nil]); first | done | rfl | (simp only [List.length_drop, List.length_take]; rfl)) ?_; (with_reducible refine (pianolaref1_wide.calls a1 true t138 _ A5.out).mono ?_); rintro e w' ⟨rfl, ⟨nd, rfl⟩⟩; refine ⟨_, rfl, ?_⟩) | (go_at_call 29; (with_reducible refine (pianolaref1_wide.calls a0 true t137 _ A4.out).mono ?_); rintro e w' ⟨rfl, ⟨nd, rfl⟩⟩) | (go_at_call 29; (with_reducible refine (pianolaref1_wide.calls a1 true t138 _ A5.out).mono ?_); rintro e w' ⟨rfl, ⟨nd, rfl⟩⟩))
      go_ret
      exact ⟨by first | rfl | (simp; done) | (simp [*]; done) | (simp; omega), by repeat (first | exact Drawn0.refl _ | apply Drawn0.step)⟩

/-! ### pianolaref1_Less: function 23 -/
def pianolaref1_Less.f (a0 : Int) (a1 : Int) (a2 : Bool) : Option (Bool) := (pianolaref1_wide.f a0 a2).bind fun t139 => ((pianolaref1_wide.f a1 a2).bind fun t140 => (some (decide (t139 < t140))))
set_option maxHeartbeats 8000000 in
set_option maxRecDepth 100000 in
theorem pianolaref1_Less.calls (a0 : Int) (a1 : Int) (a2 : Bool) (r : Bool) (w : World) (h : pianolaref1_Less.f a0 a1 a2 = some r) :
    Calls Try.prog 23 #[.int .u32 a0, .int .u32 a1, .bool a2] w fun e w' => e = .returned (.bool r) ∧ Drawn0 w w' := by
  have H : ((pianolaref1_wide.f a0 a2).bind fun t139 => ((pianolaref1_wide.f a1 a2).bind fun t140 => (some (decide (t139 < t140))))) = some r := h
  clear h
  replace H := Option.bind_eq_some_iff.mp H
  obtain ⟨t139, A40, H⟩ := H
  replace H : ((pianolaref1_wide.f a1 a2).bind fun t140 => (some (decide (t139 < t140)))) = some r := H
  have A4 := Aside0.mk A40
  clear A40
  replace H := Option.bind_eq_some_iff.mp H
  obtain ⟨t140, A50, H⟩ := H
  replace H : (some (decide (t139 < t140))) = some r := H
  have A5 := Aside0.mk A50
  clear A50
  obtain rfl := Option.some.inj H
  go_enter Try.func23, Try.ntmps23
  go_wp2_with (first | ((with_reducible refine gate_callee (f := 29) rfl ?_); refine goesL_ (some 9) rfl rfl Try.func29 (by kernel_rfl) rfl #[.int .u32 a0, .bool a2] rfl (by (try simp only [List.map_toArray, List.map_cons, List.map_nil]); first | done | rfl | (simp only [List.length_drop, List.length_take]; rfl)) ?_; (with_reducible refine (pianolaref1_wide.calls a0 a2 t139 _ A4.out).mono ?_); rintro e w' ⟨rfl, ⟨nd, rfl⟩⟩; refine ⟨_, rfl, ?_⟩) | ((with_reducible refine gate_callee (f := 29) rfl ?_); refine goesL_ (some 12) rfl rfl Try.func29 (by kernel_rfl) rfl #[.int .u32 a1, .bool a2] rfl (by (try simp only [List.map_toArray, List.map_cons, List.map_nil]); first | done | rfl | (simp only [List.length_drop, List.length_take]; rfl)) ?_; (with_reducible refine (pianolaref1_wide.calls a1 a2 t140 _ A5.out).mono ?_); rintro e w' ⟨rfl, ⟨nd, rfl⟩⟩; refine ⟨_, rfl, ?_⟩) | (go_at_call 29; (with_reducible refine (pianolaref1_wide.calls a0 a2 t139 _ A4.out).mono ?_); rintro e w' ⟨rfl, ⟨nd, rfl⟩⟩) | (go_at_call 29; (with_reducible refine (pianolaref1_wide.calls a1 a2 t140 _ A5.out).mono ?_); rintro e w' ⟨rfl, ⟨nd, rfl⟩⟩))
  go_ret
  exact ⟨by first | rfl | (simp; done) | (simp [*]; done) | (simp; omega), by repeat (first | exact Drawn0.refl _ | apply Drawn0.step)⟩

/-! ### pianolaref1_Sign: function 24 -/
def pianolaref1_Sign.f (a0 : Int) (a1 : Int) : Option (Int) := if a1 < 1 then (some 0) else (if a1 > 31 then (some a0) else (if 0 ≤ (IntKind.u64.wrap (a1)) then (if 0 ≤ (IntKind.u64.wrap (wrap64 (a1 - 1))) then (if (shr .u32 (Go.bits .and .u32 a0 (((shl .u32 1 (IntKind.u64.wrap (a1))) - 1) % 4294967296)) (IntKind.u64.wrap (wrap64 (a1 - 1)))) = 1 then (some (((Go.bits .and .u32 a0 (((shl .u32 1 (IntKind.u64.wrap (a1))) - 1) % 4294967296)) - (shl .u32 1 (IntKind.u64.wrap (a1)))) % 4294967296)) else (some (Go.bits .and .u32 a0 (((shl .u32 1 (IntKind.u64.wrap (a1))) - 1) % 4294967296)))) else (none)) else (none)))
set_option maxHeartbeats 8000000 in
set_option maxRecDepth 100000 in
theorem pianolaref1_Sign.calls (a0 : Int) (a1 : Int) (r : Int) (w : World) (h : pianolaref1_Sign.f a0 a1 = some r) :
    Calls Try.prog 24 #[.int .u32 a0, .int .i64 a1] w fun e w' => e = .returned (.int .u32 r) ∧ Drawn0 w w' := by
  have H : (if a1 < 1 then (some 0) else (if a1 > 31 then (some a0) else (if 0 ≤ (IntKind.u64.wrap (a1)) then (if 0 ≤ (IntKind.u64.wrap (wrap64 (a1 - 1))) then (if (shr .u32 (Go.bits .and .u32 a0 (((shl .u32 1 (IntKind.u64.wrap (a1))) - 1) % 4294967296)) (IntKind.u64.wrap (wrap64 (a1 - 1)))) = 1 then (some (((Go.bits .and .u32 a0 (((shl .u32 1 (IntKind.u64.wrap (a1))) - 1) % 4294967296)) - (shl .u32 1 (IntKind.u64.wrap (a1)))) % 4294967296)) else (some (Go.bits .and .u32 a0 (((shl .u32 1 (IntKind.u64.wrap (a1))) - 1) % 4294967296)))) else (none)) else (none)))) = some r := h
  clear h
  by_cases c3 : a1 < 1
  · rw [if_pos c3] at H
    have c3b0 : decide (a1 < 1) = true := decide_eq_true c3
    clear c3
    obtain rfl := Option.some.inj H
    go_enter Try.func24, Try.ntmps24
    go_wp2
    go_ret
    exact ⟨by first | rfl | (simp; done) | (simp [*]; done) | (simp; omega), by repeat (first | exact Drawn0.refl _ | apply Drawn0.step)⟩
  · rw [if_neg c3] at H
    have c3b0 : decide (a1 < 1) = false := decide_eq_false c3
    clear c3
    by_cases c4 : a1 > 31
    · rw [if_pos c4] at H
      have c4b0 : decide (31 < a1) = true := decide_eq_true c4
      clear c4
      obtain rfl := Option.some.inj H
      go_enter Try.func24, Try.ntmps24
      go_wp2
      go_ret
      exact ⟨by first | rfl | (simp; done) | (simp [*]; done) | (simp; omega), by repeat (first | exact Drawn0.refl _ | apply Drawn0.step)⟩
    · rw [if_neg c4] at H
      have c4b0 : decide (31 < a1) = false := decide_eq_false c4
      clear c4
      obtain ⟨ji5, hji5⟩ : ∃ j_ : Int, (IntKind.u64.wrap (a1)) = j_ := ⟨_, rfl⟩
      replace H : (if 0 ≤ (ji5) then (if 0 ≤ (IntKind.u64.wrap (wrap64 (a1 - 1))) then (if (shr .u32 (Go.bits .and .u32 a0 (((shl .u32 1 (ji5)) - 1) % 4294967296)) (IntKind.u64.wrap (wrap64 (a1 - 1)))) = 1 then (some (((Go.bits .and .u32 a0 (((shl .u32 1 (ji5)) - 1) % 4294967296)) - (shl .u32 1 (ji5))) % 4294967296)) else (some (Go.bits .and .u32 a0 (((shl .u32 1 (ji5)) - 1) % 4294967296)))) else (none)) else (none)) = some r := by first | (rw [hji5] at H; exact H) | (simp only [hji5] at H ⊢; exact H)
      by_cases c6 : 0 ≤ (ji5)
      · rw [if_pos c6] at H
        have c6b0 := eq_true c6
        have c6b1 : decide (0 ≤ (ji5)) = true := decide_eq_true c6
        clear c6
        obtain ⟨ji7, hji7⟩ : ∃ j_ : Int, (shl .u32 1 (ji5)) = j_ := ⟨_, rfl⟩
        replace H : (if 0 ≤ (IntKind.u64.wrap (wrap64 (a1 - 1))) then (if (shr .u32 (Go.bits .and .u32 a0 (((ji7) - 1) % 4294967296)) (IntKind.u64.wrap (wrap64 (a1 - 1)))) = 1 then (some (((Go.bits .and .u32 a0 (((ji7) - 1) % 4294967296)) - (ji7)) % 4294967296)) else (some (Go.bits .and .u32 a0 (((ji7) - 1) % 4294967296)))) else (none)) = some r := by first | (rw [hji7] at H; exact H) | (simp only [hji7] at H ⊢; exact H)
        have hji7_ : (IntKind.u32.wrap (1 * 2 ^ min (ji5).toNat 32)) = ji7 := hji7
        have hji7z : (ji5) ≤ 32 → (IntKind.u32.wrap (1 * 2 ^ (ji5).toNat)) = ji7 := shl_small hji7
        have hji7u : (IntKind.u32.wrap (2 ^ min (ji5).toNat 32)) = ji7 := by have h_ := hji7_; rw [Int.one_mul] at h_; exact h_
        have hji7v : (ji5) ≤ 32 → (IntKind.u32.wrap (2 ^ (ji5).toNat)) = ji7 := fun hle_ => by have h_ := hji7z hle_; rw [Int.one_mul] at h_; exact h_
        obtain ⟨ji8, hji8⟩ : ∃ j_ : Int, (IntKind.u64.wrap (wrap64 (a1 - 1))) = j_ := ⟨_, rfl⟩
        replace H : (if 0 ≤ (ji8) then (if (shr .u32 (Go.bits .and .u32 a0 (((ji7) - 1) % 4294967296)) (ji8)) = 1 then (some (((Go.bits .and .u32 a0 (((ji7) - 1) % 4294967296)) - (ji7)) % 4294967296)) else (some (Go.bits .and .u32 a0 (((ji7) - 1) % 4294967296)))) else (none)) = some r := by first | (rw [hji8] at H; exact H) | (simp only [hji8] at H ⊢; exact H)
        by_cases c9 : 0 ≤ (ji8)
        · rw [if_pos c9] at H
          have c9b0 := eq_true c9
          have c9b1 : decide (0 ≤ (ji8)) = true := decide_eq_true c9
          clear c9
          obtain ⟨ji10, hji10⟩ : ∃ j_ : Int, (shr .u32 (Go.bits .and .u32 a0 (((ji7) - 1) % 4294967296)) (ji8)) = j_ := ⟨_, rfl⟩
          replace H : (if (ji10) = 1 then (some (((Go.bits .and .u32 a0 (((ji7) - 1) % 4294967296)) - (ji7)) % 4294967296)) else (some (Go.bits .and .u32 a0 (((ji7) - 1) % 4294967296)))) = some r := by first | (rw [hji10] at H; exact H) | (simp only [hji10] at H ⊢; exact H)
          have hji10_ : ((Go.bits .and .u32 a0 (((ji7) - 1) % 4294967296)) / 2 ^ min (ji8).toNat 32) = ji10 := hji10
          have hji10z : (ji8) ≤ 32 → ((Go.bits .and .u32 a0 (((ji7) - 1) % 4294967296)) / 2 ^ (ji8).toNat) = ji10 := shr_small hji10
          by_cases c11 : (ji10) = 1
          · rw [if_pos c11] at H
            have c11b0 : ((ji10) == 1) = true := beq_iff_eq.mpr c11
            have c11b1 : ((ji10) != 1) = false := bne_eq_false_iff_eq.mpr c11
            clear c11
            have c12b0 := eq_true (of_decide_eq_true (by first | (with_reducible assumption) | assumption) : 0 ≤ (ji5))
            obtain rfl := Option.some.inj H
            go_enter Try.func24, Try.ntmps24
            go_wp2
            go_ret
            exact ⟨by first | rfl | (simp; done) | (simp only [← hji5, ← hji7, ← hji8, ← hji10] <;> (first | rfl | simp)) | (simp [*]; done), by repeat (first | exact Drawn0.refl _ | apply Drawn0.step)⟩
          · rw [if_neg c11] at H
            have c11b0 : ((ji10) == 1) = false := beq_eq_false_iff_ne.mpr c11
            have c11b1 : ((ji10) != 1) = true := bne_iff_ne.mpr c11
            obtain rfl := Option.some.inj H
            go_enter Try.func24, Try.ntmps24
            go_wp2
            go_ret
            exact ⟨by first | rfl | (simp; done) | (simp only [← hji5, ← hji7, ← hji8, ← hji10] <;> (first | rfl | simp)) | (simp [*]; done), by repeat (first | exact Drawn0.refl _ | apply Drawn0.step)⟩
        · rw [if_neg c9] at H
          exact absurd H (by simp)
      · rw [if_neg c6] at H
        exact absurd H (by simp)

end Go.Proofs.Ytdagmhgmegpdpaa.Q
