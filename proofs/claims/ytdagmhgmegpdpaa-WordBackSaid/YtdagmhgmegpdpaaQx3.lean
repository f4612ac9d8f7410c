-- Written by a program of this session: a turned copy of the kit's print (wip/print/fork.py), whose words lie beside.
import Derived.Test.YtdagmhgmegpdpaaQx0
import Derived.Test.YtdagmhgmegpdpaaQx1
import Derived.Test.YtdagmhgmegpdpaaQx2
namespace Go.Proofs.Ytdagmhgmegpdpaa.Q
open Go.RowKit Go.Proofs.YtdagmhgmegpdpaaW.PrintWords Go.Proofs.YtdagmhgmegpdpaaW.PrintLast Go.Proofs.YtdagmhgmegpdpaaW.PrintMore
attribute [local go_sem] max2_int min2_int max_two min_two max_three min_three max_four min_four   -- for this text's walks alone
set_option linter.unusedVariables false
set_option linter.unusedSimpArgs false

/-! ### pianolaref1_Sar: function 25 -/
def pianolaref1_Sar.l0 : Nat → Int → Int → Option (Int)
  | 0, _, _ => none
  | k + 1, x0, x5 => if x5 > 0 then (pianolaref1_Sar.l0 k (Go.bits .or .u32 (x0 / 2) (Go.bits .and .u32 x0 2147483648)) (IntKind.u64.wrap (x5 - 1))) else (some x0)
def pianolaref1_Sar.f (k : Nat) (a0 : Int) (a1 : Int) : Option (Int) := pianolaref1_Sar.l0 k a0 (IntKind.u64.wrap (Int.tmod (wrap64 ((Int.tmod a1 32) + 32)) 32))
theorem pianolaref1_Sar.mono_l : ∀ k, (∀ y0 y1, LeO (pianolaref1_Sar.l0 k y0 y1) (pianolaref1_Sar.l0 (k + 1) y0 y1))
  | 0 => fun _ _ r h => by simp [pianolaref1_Sar.l0] at h
  | k + 1 => by
    have ih0 := pianolaref1_Sar.mono_l k
    · intro y0 y1
      unfold pianolaref1_Sar.l0
      repeat' first
      | (with_reducible exact ih0 _ _)
      | (with_reducible exact LeO.refl _)
      | (with_reducible exact LeO.none _)
      | (with_reducible refine LeO.ite ?_ ?_)
      | (with_reducible refine LeO.bind ?_ (fun _ => ?_))
      | exact ih0 _ _
      | exact LeO.none _
      | refine LeO.ite ?_ ?_
      | refine LeO.bind ?_ (fun _ => ?_)
theorem pianolaref1_Sar.mono : ∀ a0 a1 k, LeO (pianolaref1_Sar.f k a0 a1) (pianolaref1_Sar.f (k + 1) a0 a1) := by
  intro a0 a1 k
  have ih0 := pianolaref1_Sar.mono_l k
  unfold pianolaref1_Sar.f
  repeat' first
      | (with_reducible exact ih0 _ _)
      | (with_reducible exact LeO.refl _)
      | (with_reducible exact LeO.none _)
      | (with_reducible refine LeO.ite ?_ ?_)
      | (with_reducible refine LeO.bind ?_ (fun _ => ?_))
      | exact ih0 _ _
      | exact LeO.none _
      | refine LeO.ite ?_ ?_
      | refine LeO.bind ?_ (fun _ => ?_)
set_option maxHeartbeats 8000000 in
set_option maxRecDepth 100000 in
theorem pianolaref1_Sar.calls (k : Nat) (a0 : Int) (a1 : Int) (r : Int) (w : World) (h : pianolaref1_Sar.f k a0 a1 = some r) :
    Calls Try.prog 25 #[.int .u32 a0, .int .i64 a1] w fun e w' => e = .returned (.int .u32 r) ∧ Drawn0 w w' := by
  have H : (pianolaref1_Sar.l0 k a0 (IntKind.u64.wrap (Int.tmod (wrap64 ((Int.tmod a1 32) + 32)) 32))) = some r := h
  clear h
  have H' := Aside0.mk H
  clear H
  go_enter Try.func25, Try.ntmps25
  go_wp2
  go_loopg [0, 5] k (fun kq v0 v5 w' => ∃ (x0_1 : Int) (x5_1 : Int), v0 = .int .u32 x0_1 ∧ v5 = .int .u64 x5_1 ∧ Aside0 (pianolaref1_Sar.l0 kq x0_1 x5_1 = some r) ∧ Aside0 (kq ≤ k) ∧ Drawn0 w w')
  case atStart => exact ⟨(a0), (IntKind.u64.wrap (Int.tmod (wrap64 ((Int.tmod a1 32) + 32)) 32)), (by first | rfl | (simp; done) | (simp [*]; done) | (simp; omega)), (by first | rfl | (simp; done) | (simp [*]; done) | (simp; omega)), H', ⟨Nat.le_refl _⟩, by repeat (first | exact Drawn0.refl _ | apply Drawn0.step)⟩
  case round =>
    clear H'
    try clear c2
    try clear p2
    obtain ⟨x0_1, x5_1, rfl, rfl, HA, HK1, ⟨m1, rfl⟩⟩ := hrel
    cases gk with
    | zero => exact absurd HA.out (by simp [pianolaref1_Sar.l0])
    | succ k1 =>
      have H := HA.out
      clear HA
      simp only [pianolaref1_Sar.l0] at H
      by_cases c3 : x5_1 > 0
      · rw [if_pos c3] at H
        have c3b0 : decide (0 < x5_1) = true := decide_eq_true c3
        clear c3
        have H' := Aside0.mk H
        clear H
        go_wp2
        go_roundg k1
        case measure => have := HK1.out; omega
        case rel => exact ⟨(Go.bits .or .u32 (x0_1 / 2) (Go.bits .and .u32 x0_1 2147483648)), (IntKind.u64.wrap (x5_1 - 1)), (by first | rfl | (simp; done) | (simp [*]; done) | (simp; omega)), (by first | rfl | (simp; done) | (simp [*]; done) | (simp; omega)), H', ⟨by have := HK1.out; omega⟩, by repeat (first | exact Drawn0.refl _ | apply Drawn0.step)⟩
      · rw [if_neg c3] at H
        have c3b0 : decide (0 < x5_1) = false := decide_eq_false c3
        clear c3
        obtain rfl := Option.some.inj H
        go_wp2
        go_ret
        exact ⟨by first | rfl | (simp; done) | (simp [*]; done) | (simp; omega), by repeat (first | exact Drawn0.refl _ | apply Drawn0.step)⟩

/-! ### pianolaref1_Clz: function 26 -/
def pianolaref1_Clz.l0 : Nat → Int → Int → Int → Option (Int)
  | 0, _, _, _ => none
  | k + 1, x0, x3, x4 => if x4 ≥ 0 then (if 0 ≤ (IntKind.u64.wrap (x4)) then (if (Go.bits .and .u32 (shr .u32 x0 (IntKind.u64.wrap (x4))) 1) = 1 then (some x3) else (pianolaref1_Clz.l0 k x0 (wrap64 (x3 + 1)) (wrap64 (x4 - 1)))) else (none)) else (some x3)
def pianolaref1_Clz.f (k : Nat) (a0 : Int) : Option (Int) := pianolaref1_Clz.l0 k a0 0 31
theorem pianolaref1_Clz.mono_l : ∀ k, (∀ y0 y1 y2, LeO (pianolaref1_Clz.l0 k y0 y1 y2) (pianolaref1_Clz.l0 (k + 1) y0 y1 y2))
  | 0 => fun _ _ _ r h => by simp [pianolaref1_Clz.l0] at h
  | k + 1 => by
    have ih0 := pianolaref1_Clz.mono_l k
    · intro y0 y1 y2
      unfold pianolaref1_Clz.l0
      repeat' first
      | (with_reducible exact ih0 _ _ _)
      | (with_reducible exact LeO.refl _)
      | (with_reducible exact LeO.none _)
      | (with_reducible refine LeO.ite ?_ ?_)
      | (with_reducible refine LeO.bind ?_ (fun _ => ?_))
      | exact ih0 _ _ _
      | exact LeO.none _
      | refine LeO.ite ?_ ?_
      | refine LeO.bind ?_ (fun _ => ?_)
theorem pianolaref1_Clz.mono : ∀ a0 k, LeO (pianolaref1_Clz.f k a0) (pianolaref1_Clz.f (k + 1) a0) := by
  intro a0 k
  have ih0 := pianolaref1_Clz.mono_l k
  unfold pianolaref1_Clz.f
  repeat' first
      | (with_reducible exact ih0 _ _ _)
      | (with_reducible exact LeO.refl _)
      | (with_reducible exact LeO.none _)
      | (with_reducible refine LeO.ite ?_ ?_)
      | (with_reducible refine LeO.bind ?_ (fun _ => ?_))
      | exact ih0 _ _ _
      | exact LeO.none _
      | refine LeO.ite ?_ ?_
      | refine LeO.bind ?_ (fun _ => ?_)
set_option maxHeartbeats 8000000 in
set_option maxRecDepth 100000 in
theorem pianolaref1_Clz.calls (k : Nat) (a0 : Int) (r : Int) (w : World) (h : pianolaref1_Clz.f k a0 = some r) :
    Calls Try.prog 26 #[.int .u32 a0] w fun e w' => e = .returned (.int .i64 r) ∧ Drawn0 w w' := by
  have H : (pianolaref1_Clz.l0 k a0 0 31) = some r := h
  clear h
  have H' := Aside0.mk H
  clear H
  go_enter Try.func26, Try.ntmps26
  go_wp2
  go_loopg [3, 4] k (fun kq v3 v4 w' => ∃ (x3_1 : Int) (x4_1 : Int), v3 = .int .i64 x3_1 ∧ v4 = .int .i64 x4_1 ∧ Aside0 (pianolaref1_Clz.l0 kq a0 x3_1 x4_1 = some r) ∧ Aside0 (kq ≤ k) ∧ Drawn0 w w')
  case atStart => exact ⟨(0), (31), (by first | rfl | (simp; done) | (simp [*]; done) | (simp; omega)), (by first | rfl | (simp; done) | (simp [*]; done) | (simp; omega)), H', ⟨Nat.le_refl _⟩, by repeat (first | exact Drawn0.refl _ | apply Drawn0.step)⟩
  case round =>
    clear H'
    obtain ⟨x3_1, x4_1, rfl, rfl, HA, HK1, ⟨m1, rfl⟩⟩ := hrel
    cases gk with
    | zero => exact absurd HA.out (by simp [pianolaref1_Clz.l0])
    | succ k1 =>
      have H := HA.out
      clear HA
      simp only [pianolaref1_Clz.l0] at H
      by_cases c2 : x4_1 ≥ 0
      · rw [if_pos c2] at H
        have c2b0 : decide (0 ≤ x4_1) = true := decide_eq_true c2
        clear c2
        obtain ⟨ji3, hji3⟩ : ∃ j_ : Int, (IntKind.u64.wrap (x4_1)) = j_ := ⟨_, rfl⟩
        replace H : (if 0 ≤ (ji3) then (if (Go.bits .and .u32 (shr .u32 a0 (ji3)) 1) = 1 then (some x3_1) else (pianolaref1_Clz.l0 k1 a0 (wrap64 (x3_1 + 1)) (wrap64 (x4_1 - 1)))) else (none)) = some r := by first | (rw [hji3] at H; exact H) | (simp only [hji3] at H ⊢; exact H)
        by_cases c4 : 0 ≤ (ji3)
        · rw [if_pos c4] at H
          have c4b0 := eq_true c4
          have c4b1 : decide (0 ≤ (ji3)) = true := decide_eq_true c4
          clear c4
          obtain ⟨ji5, hji5⟩ : ∃ j_ : Int, (shr .u32 a0 (ji3)) = j_ := ⟨_, rfl⟩
          replace H : (if (Go.bits .and .u32 (ji5) 1) = 1 then (some x3_1) else (pianolaref1_Clz.l0 k1 a0 (wrap64 (x3_1 + 1)) (wrap64 (x4_1 - 1)))) = some r := by first | (rw [hji5] at H; exact H) | (simp only [hji5] at H ⊢; exact H)
          have hji5_ : (a0 / 2 ^ min (ji3).toNat 32) = ji5 := hji5
          have hji5z : (ji3) ≤ 32 → (a0 / 2 ^ (ji3).toNat) = ji5 := shr_small hji5
          by_cases c6 : (Go.bits .and .u32 (ji5) 1) = 1
          · rw [if_pos c6] at H
            have c6b0 : ((Go.bits .and .u32 (ji5) 1) == 1) = true := beq_iff_eq.mpr c6
            have c6b1 : ((Go.bits .and .u32 (ji5) 1) != 1) = false := bne_eq_false_iff_eq.mpr c6
            clear c6
            obtain rfl := Option.some.inj H
            go_wp2
            go_ret
            exact ⟨by first | rfl | (simp; done) | (simp only [← hji3, ← hji5] <;> (first | rfl | simp)) | (simp [*]; done), by repeat (first | exact Drawn0.refl _ | apply Drawn0.step)⟩
          · rw [if_neg c6] at H
            have c6b0 : ((Go.bits .and .u32 (ji5) 1) == 1) = false := beq_eq_false_iff_ne.mpr c6
            have c6b1 : ((Go.bits .and .u32 (ji5) 1) != 1) = true := bne_iff_ne.mpr c6
            have H' := Aside0.mk H
            clear H
            go_wp2
            go_roundg k1
            case measure => have := HK1.out; omega
            case rel => exact ⟨(wrap64 (x3_1 + 1)), (wrap64 (x4_1 - 1)), (by first | rfl | (simp; done) | (simp [*]; done) | (simp; omega)), (by first | rfl | (simp; done) | (simp [*]; done) | (simp; omega)), H', ⟨by have := HK1.out; omega⟩, by repeat (first | exact Drawn0.refl _ | apply Drawn0.step)⟩
        · rw [if_neg c4] at H
          exact absurd H (by simp)
      · rw [if_neg c2] at H
        have c2b0 : decide (0 ≤ x4_1) = false := decide_eq_false c2
        clear c2
        obtain rfl := Option.some.inj H
        go_wp2
        go_ret
        exact ⟨by first | rfl | (simp; done) | (simp [*]; done) | (simp; omega), by repeat (first | exact Drawn0.refl _ | apply Drawn0.step)⟩

/-! ### pianolaref1_Clo: function 27 -/
def pianolaref1_Clo.f (k : Nat) (a0 : Int) : Option (Int) := (pianolaref1_Clz.f k (Go.bits .xor .u32 IntKind.u32.max a0)).bind fun t141 => (some t141)
theorem pianolaref1_Clo.mono : ∀ a0 k, LeO (pianolaref1_Clo.f k a0) (pianolaref1_Clo.f (k + 1) a0) := by
  intro a0 k
  unfold pianolaref1_Clo.f
  repeat' first
      | (with_reducible exact pianolaref1_Clz.mono _ _)
      | (with_reducible exact LeO.refl _)
      | (with_reducible exact LeO.none _)
      | (with_reducible refine LeO.ite ?_ ?_)
      | (with_reducible refine LeO.bind ?_ (fun _ => ?_))
      | exact pianolaref1_Clz.mono _ _
      | exact LeO.none _
      | refine LeO.ite ?_ ?_
      | refine LeO.bind ?_ (fun _ => ?_)
set_option maxHeartbeats 8000000 in
set_option maxRecDepth 100000 in
theorem pianolaref1_Clo.calls (k : Nat) (a0 : Int) (r : Int) (w : World) (h : pianolaref1_Clo.f k a0 = some r) :
    Calls Try.prog 27 #[.int .u32 a0] w fun e w' => e = .returned (.int .i64 r) ∧ Drawn0 w w' := by
  have H : ((pianolaref1_Clz.f k (Go.bits .xor .u32 IntKind.u32.max a0)).bind fun t141 => (some t141)) = some r := h
  clear h
  replace H := Option.bind_eq_some_iff.mp H
  obtain ⟨t141, A20, H⟩ := H
  replace H : (some t141) = some r := H
  have A2 := Aside0.mk A20
  clear A20
  obtain rfl := Option.some.inj H
  go_enter Try.func27, Try.ntmps27
  go_wp2_with (first | ((with_reducible refine gate_callee (f := 26) rfl ?_); refine goesL_ (some 5) rfl rfl Try.func26 (by kernel_rfl) rfl #[.int .u32 (Go.bits .xor .u32 IntKind.u32.max a0)] rfl (by (try simp only [List.map_toArray, List.map_cons, List.map_nil]); first | done | rfl | (simp only [List.length_drop, List.length_take]; rfl)) ?_; (with_reducible refine (pianolaref1_Clz.calls k (Go.bits .xor .u32 IntKind.u32.max a0) t141 _ A2.out).mono ?_); rintro e w' ⟨rfl, ⟨nd, rfl⟩⟩; refine ⟨_, rfl, ?_⟩) | (go_at_call 26; (with_reducible refine (pianolaref1_Clz.calls k (Go.bits .xor .u32 IntKind.u32.max a0) t141 _ A2.out).mono ?_); rintro e w' ⟨rfl, ⟨nd, rfl⟩⟩))
  go_ret
  exact ⟨by first | rfl | (simp; done) | (simp [*]; done) | (simp; omega), by repeat (first | exact Drawn0.refl _ | apply Drawn0.step)⟩

/-! ### pianolalaw1_same: function 17 -/
def pianolalaw1_same.l0 : Nat → Int → Int → Int → List Bool → Int → Int → Option (Bool)
  | 0, _, _, _, _, _, _ => none
  | k + 1, x0, x1, x2, x17, x18, x19 => if x19 < x18 then (if 0 ≤ x19 then (if x19 < (x17.length : Int) then ((word_Mul.f x0 x1 (rdOf false x17 x19)).bind fun bt146 => ((pianolaref1_Mul.f k x0 x1 (rdOf false x17 x19)).bind fun bt148 => ((word_Div.f x0 x1 (rdOf false x17 x19)).bind fun bt150 => ((pianolaref1_Div.f x0 x1 (rdOf false x17 x19)).bind fun bt152 => (if bt146.1 = bt148.1 then (if bt146.2 = bt148.2 then (if bt150.1 = bt152.1 then (if bt150.2 = bt152.2 then ((word_Over.f x0 x1 (rdOf false x17 x19)).bind fun t154 => ((pianolaref1_Over.f x0 x1 (rdOf false x17 x19)).bind fun t155 => (if (t154 != t155) = true then (some false) else ((word_Less.f x0 x1 (rdOf false x17 x19)).bind fun t156 => ((pianolaref1_Less.f x0 x1 (rdOf false x17 x19)).bind fun t157 => (if (t156 != t157) = true then (some false) else (pianolalaw1_same.l0 k x0 x1 x2 x17 x18 (wrap64 (x19 + 1))))))))) else (some false)) else (some false)) else (some false)) else (some false)))))) else (none)) else (none)) else ((word_Sign.f x0 x2).bind fun t158 => ((pianolaref1_Sign.f x0 x2).bind fun t159 => (if t158 = t159 then ((word_Sar.f x0 x2).bind fun t160 => ((pianolaref1_Sar.f k x0 x2).bind fun t161 => (if t160 = t161 then ((word_Clz.f x0).bind fun t162 => ((pianolaref1_Clz.f k x0).bind fun t163 => (if t162 = t163 then ((word_Clo.f x0).bind fun t164 => ((pianolaref1_Clo.f k x0).bind fun t165 => (some (t164 == t165)))) else (some false)))) else (some false)))) else (some false))))
def pianolalaw1_same.f (k : Nat) (a0 : Int) (a1 : Int) (a2 : Int) : Option (Bool) := (some (([false, true] : List Bool) : List Bool)).bind fun y142 => (pianolalaw1_same.l0 k a0 a1 a2 y142 (y142.length : Int) 0)
theorem pianolalaw1_same.mono_l : ∀ k, (∀ y0 y1 y2 y3 y4 y5, LeO (pianolalaw1_same.l0 k y0 y1 y2 y3 y4 y5) (pianolalaw1_same.l0 (k + 1) y0 y1 y2 y3 y4 y5))
  | 0 => fun _ _ _ _ _ _ r h => by simp [pianolalaw1_same.l0] at h
  | k + 1 => by
    have ih0 := pianolalaw1_same.mono_l k
    · intro y0 y1 y2 y3 y4 y5
      unfold pianolalaw1_same.l0
      repeat' first
      | (with_reducible exact ih0 _ _ _ _ _ _)
      | (with_reducible exact pianolaref1_Clo.mono _ _)
      | (with_reducible exact pianolaref1_Clz.mono _ _)
      | (with_reducible exact pianolaref1_Mul.mono _ _ _ _)
      | (with_reducible exact pianolaref1_Sar.mono _ _ _)
      | (with_reducible exact LeO.refl _)
      | (with_reducible exact LeO.none _)
      | (with_reducible refine LeO.ite ?_ ?_)
      | (with_reducible refine LeO.bind ?_ (fun _ => ?_))
      | exact ih0 _ _ _ _ _ _
      | exact pianolaref1_Clo.mono _ _
      | exact pianolaref1_Clz.mono _ _
      | exact pianolaref1_Mul.mono _ _ _ _
      | exact pianolaref1_Sar.mono _ _ _
      | exact LeO.none _
      | refine LeO.ite ?_ ?_
      | refine LeO.bind ?_ (fun _ => ?_)
theorem pianolalaw1_same.mono : ∀ a0 a1 a2 k, LeO (pianolalaw1_same.f k a0 a1 a2) (pianolalaw1_same.f (k + 1) a0 a1 a2) := by
  intro a0 a1 a2 k
  have ih0 := pianolalaw1_same.mono_l k
  unfold pianolalaw1_same.f
  repeat' first
      | (with_reducible exact ih0 _ _ _ _ _ _)
      | (with_reducible exact pianolaref1_Clo.mono _ _)
      | (with_reducible exact pianolaref1_Clz.mono _ _)
      | (with_reducible exact pianolaref1_Mul.mono _ _ _ _)
      | (with_reducible exact pianolaref1_Sar.mono _ _ _)
      | (with_reducible exact LeO.refl _)
      | (with_reducible exact LeO.none _)
      | (with_reducible refine LeO.ite ?_ ?_)
      | (with_reducible refine LeO.bind ?_ (fun _ => ?_))
      | exact ih0 _ _ _ _ _ _
      | exact pianolaref1_Clo.mono _ _
      | exact pianolaref1_Clz.mono _ _
      | exact pianolaref1_Mul.mono _ _ _ _
      | exact pianolaref1_Sar.mono _ _ _
      | exact LeO.none _
      | refine LeO.ite ?_ ?_
      | refine LeO.bind ?_ (fun _ => ?_)
set_option maxHeartbeats 8000000 in
set_option maxRecDepth 100000 in
theorem pianolalaw1_same.calls (k : Nat) (a0 : Int) (a1 : Int) (a2 : Int) (r : Bool) (w : World) (h : pianolalaw1_same.f k a0 a1 a2 = some r) :
    Calls Try.prog 17 #[.int .u32 a0, .int .u32 a1, .int .i64 a2] w fun e w' => e = .returned (.bool r) ∧ Below w.heap.size w w' := by
  have HB := Aside0.mk (Below.refl w.heap.size w)
  have H : ((some (([false, true] : List Bool) : List Bool)).bind fun y142 => (pianolalaw1_same.l0 k a0 a1 a2 y142 (y142.length : Int) 0)) = some r := h
  clear h
  obtain ⟨y142, hy142⟩ : ∃ y_ : List Bool, y_ = (([false, true] : List Bool)) := ⟨_, rfl⟩
  replace H : (pianolalaw1_same.l0 k a0 a1 a2 y142 (y142.length : Int) 0) = some r := by first | (rw [hy142]; with_reducible exact H) | (have H2_ := (Option.bind_some _ _).symm.trans H; rw [hy142]; with_reducible exact H2_) | (have H2_ := (Option.bind_some _ _).symm.trans H; with_reducible exact H2_) | with_reducible exact H | (rw [hy142]; exact H) | exact H
  have Ny142 := Aside0.mk hy142
  clear hy142
  have H' := Aside0.mk H
  clear H
  go_enter Try.func17, Try.ntmps17
  go_wp2_with (first | ((with_reducible refine gate_dst (N := 17) rfl ?_); refine Kd.R_lit Kd.bool _ 4 ?hg (N := 17) ?hd (xs := ([false, true] : List Bool)) (inner := [.bool false, .bool true]) (ok := fun _ => True) (okp := fun _ => True) ?hr ?hp (fun _ hk => hk) trivial (Below.refl _ _) (Nat.le_refl _) (by simp) ?_; (case hd => rfl); (case hg => rfl); (case hr => first | (go_simp; done) | (go_simp; rfl)); (case hp => exact (Reps.one (show Kd.M Kd.bool _ _ _ false [.bool false] from rfl) (Reps.one (show Kd.M Kd.bool _ _ _ true [.bool true] from rfl) (Reps.none _ _)))); intro v143 w4 ho5 hb hg_ hnew_; clear hg_ hnew_; (first | rw [← Ny142.out] at ho5 | (simp only [Int.reduceToNat] at ho5; rw [← Ny142.out] at ho5)); have n0_ := Aside0.mk (Kd.R_lower ho5 (below_size (by repeat (first | (with_reducible first | exact HB.out | apply below_alloc | apply pw_below_drewN | apply below_drew1) | exact HB.out)))); have n1_ := Aside0.mk (below_step (by repeat (first | (with_reducible first | exact HB.out | apply below_alloc | apply pw_below_drewN | apply below_drew1) | exact HB.out)) hb); clear HB; have HO144 := n0_; have HB := n1_; clear n0_ n1_; clear hb ho5; obtain ⟨Ao6, co6, eo6⟩ := Kd.R_slice HO144.out; subst eo6))
  go_loopg [19] k (fun kq v19 w' => ∃ (x19_1 : Int), v19 = .int .i64 x19_1 ∧ Aside0 (pianolalaw1_same.l0 kq a0 a1 a2 y142 (y142.length : Int) x19_1 = some r) ∧ Aside0 (kq ≤ k) ∧ Aside0 (Kd.R Kd.bool 4 w' w.heap.size (fun _ => True) (.slice Ao6 y142.length co6) y142) ∧ Aside0 (Below w.heap.size w w'))
  case atStart => exact ⟨(0), (by first | rfl | (simp; done) | (simp [*]; done) | (simp; omega)), H', ⟨Nat.le_refl _⟩, ⟨by (with_reducible repeat (first | apply Kd.R_alloc | apply Kd.R_drewN | apply Kd.R_drew)); exact HO144.out⟩, ⟨by repeat (first | (with_reducible first | exact HB.out | apply below_alloc | apply pw_below_drewN | apply below_drew1) | exact HB.out)⟩⟩
  case round =>
    clear H'
    try clear c1
    try clear p2
    obtain ⟨x19_1, rfl, HA, HK1, HO_17, HB⟩ := hrel
    cases gk with
    | zero => exact absurd HA.out (by simp [pianolalaw1_same.l0])
    | succ k1 =>
      have H := HA.out
      clear HA
      simp only [pianolalaw1_same.l0] at H
      by_cases c7 : x19_1 < (y142.length : Int)
      · rw [if_pos c7] at H
        have c7b0 : decide (x19_1 < (y142.length : Int)) = true := decide_eq_true c7
        clear c7
        by_cases c8 : 0 ≤ x19_1
        · rw [if_pos c8] at H
          have c8b0 : decide (0 ≤ x19_1) = true := decide_eq_true c8
          clear c8
          by_cases c9 : x19_1 < (y142.length : Int)
          · rw [if_pos c9] at H
            have c9b0 : decide (x19_1 < (y142.length : Int)) = true := decide_eq_true c9
            clear c9
            replace H := Option.bind_eq_some_iff.mp H
            obtain ⟨⟨t146, t147⟩, A100, H⟩ := H
            replace H : ((pianolaref1_Mul.f k1 a0 a1 (rdOf false y142 x19_1)).bind fun bt148 => ((word_Div.f a0 a1 (rdOf false y142 x19_1)).bind fun bt150 => ((pianolaref1_Div.f a0 a1 (rdOf false y142 x19_1)).bind fun bt152 => (if t146 = bt148.1 then (if t147 = bt148.2 then (if bt150.1 = bt152.1 then (if bt150.2 = bt152.2 then ((word_Over.f a0 a1 (rdOf false y142 x19_1)).bind fun t154 => ((pianolaref1_Over.f a0 a1 (rdOf false y142 x19_1)).bind fun t155 => (if (t154 != t155) = true then (some false) else ((word_Less.f a0 a1 (rdOf false y142 x19_1)).bind fun t156 => ((pianolaref1_Less.f a0 a1 (rdOf false y142 x19_1)).bind fun t157 => (if (t156 != t157) = true then (some false) else (pianolalaw1_same.l0 k1 a0 a1 a2 y142 (y142.length : Int) (wrap64 (x19_1 + 1))))))))) else (some false)) else (some false)) else (some false)) else (some false))))) = some r := H
            have A10 := Aside0.mk A100
            clear A100
            replace H := Option.bind_eq_some_iff.mp H
            obtain ⟨⟨t148, t149⟩, A110, H⟩ := H
            replace H : ((word_Div.f a0 a1 (rdOf false y142 x19_1)).bind fun bt150 => ((pianolaref1_Div.f a0 a1 (rdOf false y142 x19_1)).bind fun bt152 => (if t146 = t148 then (if t147 = t149 then (if bt150.1 = bt152.1 then (if bt150.2 = bt152.2 then ((word_Over.f a0 a1 (rdOf false y142 x19_1)).bind fun t154 => ((pianolaref1_Over.f a0 a1 (rdOf false y142 x19_1)).bind fun t155 => (if (t154 != t155) = true then (some false) else ((word_Less.f a0 a1 (rdOf false y142 x19_1)).bind fun t156 => ((pianolaref1_Less.f a0 a1 (rdOf false y142 x19_1)).bind fun t157 => (if (t156 != t157) = true then (some false) else (pianolalaw1_same.l0 k1 a0 a1 a2 y142 (y142.length : Int) (wrap64 (x19_1 + 1))))))))) else (some false)) else (some false)) else (some false)) else (some false)))) = some r := H
            have A11 := Aside0.mk A110
            clear A110
            replace H := Option.bind_eq_some_iff.mp H
            obtain ⟨⟨t150, t151⟩, A120, H⟩ := H
            replace H : ((pianolaref1_Div.f a0 a1 (rdOf false y142 x19_1)).bind fun bt152 => (if t146 = t148 then (if t147 = t149 then (if t150 = bt152.1 then (if t151 = bt152.2 then ((word_Over.f a0 a1 (rdOf false y142 x19_1)).bind fun t154 => ((pianolaref1_Over.f a0 a1 (rdOf false y142 x19_1)).bind fun t155 => (if (t154 != t155) = true then (some false) else ((word_Less.f a0 a1 (rdOf false y142 x19_1)).bind fun t156 => ((pianolaref1_Less.f a0 a1 (rdOf false y142 x19_1)).bind fun t157 => (if (t156 != t157) = true then (some false) else (pianolalaw1_same.l0 k1 a0 a1 a2 y142 (y142.length : Int) (wrap64 (x19_1 + 1))))))))) else (some false)) else (some false)) else (some false)) else (some false))) = some r := H
            have A12 := Aside0.mk A120
            clear A120
            replace H := Option.bind_eq_some_iff.mp H
            obtain ⟨⟨t152, t153⟩, A130, H⟩ := H
            replace H : (if t146 = t148 then (if t147 = t149 then (if t150 = t152 then (if t151 = t153 then ((word_Over.f a0 a1 (rdOf false y142 x19_1)).bind fun t154 => ((pianolaref1_Over.f a0 a1 (rdOf false y142 x19_1)).bind fun t155 => (if (t154 != t155) = true then (some false) else ((word_Less.f a0 a1 (rdOf false y142 x19_1)).bind fun t156 => ((pianolaref1_Less.f a0 a1 (rdOf false y142 x19_1)).bind fun t157 => (if (t156 != t157) = true then (some false) else (pianolalaw1_same.l0 k1 a0 a1 a2 y142 (y142.length : Int) (wrap64 (x19_1 + 1))))))))) else (some false)) else (some false)) else (some false)) else (some false)) = some r := H
            have A13 := Aside0.mk A130
            clear A130
            by_cases c14 : t146 = t148
            · rw [if_pos c14] at H
              have c14b0 : (t146 == t148) = true := beq_iff_eq.mpr c14
              have c14b1 : (t146 != t148) = false := bne_eq_false_iff_eq.mpr c14
              clear c14
              by_cases c15 : t147 = t149
              · rw [if_pos c15] at H
                have c15b0 : (t147 == t149) = true := beq_iff_eq.mpr c15
                have c15b1 : (t147 != t149) = false := bne_eq_false_iff_eq.mpr c15
                clear c15
                by_cases c16 : t150 = t152
                · rw [if_pos c16] at H
                  have c16b0 : (t150 == t152) = true := beq_iff_eq.mpr c16
                  have c16b1 : (t150 != t152) = false := bne_eq_false_iff_eq.mpr c16
                  clear c16
                  by_cases c17 : t151 = t153
                  · rw [if_pos c17] at H
                    have c17b0 : (t151 == t153) = true := beq_iff_eq.mpr c17
                    have c17b1 : (t151 != t153) = false := bne_eq_false_iff_eq.mpr c17
                    clear c17
                    replace H := Option.bind_eq_some_iff.mp H
                    obtain ⟨t154, A180, H⟩ := H
                    replace H : ((pianolaref1_Over.f a0 a1 (rdOf false y142 x19_1)).bind fun t155 => (if (t154 != t155) = true then (some false) else ((word_Less.f a0 a1 (rdOf false y142 x19_1)).bind fun t156 => ((pianolaref1_Less.f a0 a1 (rdOf false y142 x19_1)).bind fun t157 => (if (t156 != t157) = true then (some false) else (pianolalaw1_same.l0 k1 a0 a1 a2 y142 (y142.length : Int) (wrap64 (x19_1 + 1)))))))) = some r := H
                    have A18 := Aside0.mk A180
                    clear A180
                    replace H := Option.bind_eq_some_iff.mp H
                    obtain ⟨t155, A190, H⟩ := H
                    replace H : (if (t154 != t155) = true then (some false) else ((word_Less.f a0 a1 (rdOf false y142 x19_1)).bind fun t156 => ((pianolaref1_Less.f a0 a1 (rdOf false y142 x19_1)).bind fun t157 => (if (t156 != t157) = true then (some false) else (pianolalaw1_same.l0 k1 a0 a1 a2 y142 (y142.length : Int) (wrap64 (x19_1 + 1))))))) = some r := H
                    have A19 := Aside0.mk A190
                    clear A190
                    by_cases c20 : (t154 != t155) = true
                    · rw [if_pos c20] at H
                      have c20b0 : (t154 != t155) = true := c20
                      (try (have c20b1 : decide (t154 = t155) = false := by simpa using c20))
                      (try (have c20b2 : (t154 == t155) = false := by simpa using c20))
                      (try (have c20b3 : ¬ (t154 = t155) := by simpa using c20))
                      clear c20
                      obtain rfl := Option.some.inj H
                      have p145 : 0 ≤ (x19_1 : Int) := of_decide_eq_true (by first | (with_reducible assumption) | assumption)
                      have q145 : x19_1 < (y142.length : Int) := of_decide_eq_true (by first | (with_reducible assumption) | assumption)
                      obtain ⟨ad145, e145, hx145_0⟩ := Kd.at_bool (Kd.R_reads' HO_17.out).2.2 x19_1 p145 q145
                      cases e145
                      replace p145 := eq_true p145
                      replace q145 := eq_true q145
                      go_wp2_with (first | ((with_reducible refine gate_callee (f := 16) rfl ?_); refine goesL_ (some 27) rfl rfl Try.func16 (by kernel_rfl) rfl #[.int .u32 a0, .int .u32 a1, .bool (rdOf false y142 x19_1)] rfl (by (try simp only [List.map_toArray, List.map_cons, List.map_nil]); first | done | rfl | (simp only [List.length_drop, List.length_take]; rfl)) ?_; (with_reducible refine (word_Mul.calls a0 a1 (rdOf false y142 x19_1) t146 t147 _ A10.out).mono ?_); rintro e w' ⟨rfl, ⟨nd, rfl⟩⟩; refine ⟨_, rfl, ?_⟩) | ((with_reducible refine gate_callee (f := 20) rfl ?_); refine goesL_ (some 34) rfl rfl Try.func20 (by kernel_rfl) rfl #[.int .u32 a0, .int .u32 a1, .bool (rdOf false y142 x19_1)] rfl (by (try simp only [List.map_toArray, List.map_cons, List.map_nil]); first | done | rfl | (simp only [List.length_drop, List.length_take]; rfl)) ?_; (with_reducible refine (pianolaref1_Mul.calls k1 a0 a1 (rdOf false y142 x19_1) t148 t149 _ A11.out).mono ?_); rintro e w' ⟨rfl, ⟨nd, rfl⟩⟩; refine ⟨_, rfl, ?_⟩) | ((with_reducible refine gate_callee (f := 15) rfl ?_); refine goesL_ (some 41) rfl rfl Try.func15 (by kernel_rfl) rfl #[.int .u32 a0, .int .u32 a1, .bool (rdOf false y142 x19_1)] rfl (by (try simp only [List.map_toArray, List.map_cons, List.map_nil]); first | done | rfl | (simp only [List.length_drop, List.length_take]; rfl)) ?_; (with_reducible refine (word_Div.calls a0 a1 (rdOf false y142 x19_1) t150 t151 _ A12.out).mono ?_); rintro e w' ⟨rfl, ⟨nd, rfl⟩⟩; refine ⟨_, rfl, ?_⟩) | ((with_reducible refine gate_callee (f := 21) rfl ?_); refine goesL_ (some 48) rfl rfl Try.func21 (by kernel_rfl) rfl #[.int .u32 a0, .int .u32 a1, .bool (rdOf false y142 x19_1)] rfl (by (try simp only [List.map_toArray, List.map_cons, List.map_nil]); first | done | rfl | (simp only [List.length_drop, List.length_take]; rfl)) ?_; (with_reducible refine (pianolaref1_Div.calls a0 a1 (rdOf false y142 x19_1) t152 t153 _ A13.out).mono ?_); rintro e w' ⟨rfl, ⟨nd, rfl⟩⟩; refine ⟨_, rfl, ?_⟩) | (go_at_call 14; (with_reducible refine (word_Over.calls a0 a1 (rdOf false y142 x19_1) t154 _ A18.out).mono ?_); rintro e w' ⟨rfl, ⟨nd, rfl⟩⟩) | (go_at_call 22; (with_reducible refine (pianolaref1_Over.calls a0 a1 (rdOf false y142 x19_1) t155 _ A19.out).mono ?_); rintro e w' ⟨rfl, ⟨nd, rfl⟩⟩) | (go_at_call 16; (with_reducible refine (word_Mul.calls a0 a1 (rdOf false y142 x19_1) t146 t147 _ A10.out).mono ?_); rintro e w' ⟨rfl, ⟨nd, rfl⟩⟩) | (go_at_call 20; (with_reducible refine (pianolaref1_Mul.calls k1 a0 a1 (rdOf false y142 x19_1) t148 t149 _ A11.out).mono ?_); rintro e w' ⟨rfl, ⟨nd, rfl⟩⟩) | (go_at_call 15; (with_reducible refine (word_Div.calls a0 a1 (rdOf false y142 x19_1) t150 t151 _ A12.out).mono ?_); rintro e w' ⟨rfl, ⟨nd, rfl⟩⟩) | (go_at_call 21; (with_reducible refine (pianolaref1_Div.calls a0 a1 (rdOf false y142 x19_1) t152 t153 _ A13.out).mono ?_); rintro e w' ⟨rfl, ⟨nd, rfl⟩⟩))
                      go_ret
                      exact ⟨by first | rfl | (simp [errW_none, errW_some] <;> rfl) | (simp [*, errW_none, errW_some] <;> rfl), by repeat (first | (with_reducible first | exact HB.out | apply below_alloc | apply pw_below_drewN | apply below_drew1) | exact HB.out)⟩
                    · rw [if_neg c20] at H
                      have c20b0 : (t154 != t155) = false := by simpa using c20
                      (try (have c20b1 : decide (t154 = t155) = true := by simpa using c20))
                      (try (have c20b2 : (t154 == t155) = true := by simpa using c20))
                      clear c20
                      replace H := Option.bind_eq_some_iff.mp H
                      obtain ⟨t156, A210, H⟩ := H
                      replace H : ((pianolaref1_Less.f a0 a1 (rdOf false y142 x19_1)).bind fun t157 => (if (t156 != t157) = true then (some false) else (pianolalaw1_same.l0 k1 a0 a1 a2 y142 (y142.length : Int) (wrap64 (x19_1 + 1))))) = some r := H
                      have A21 := Aside0.mk A210
                      clear A210
                      replace H := Option.bind_eq_some_iff.mp H
                      obtain ⟨t157, A220, H⟩ := H
                      replace H : (if (t156 != t157) = true then (some false) else (pianolalaw1_same.l0 k1 a0 a1 a2 y142 (y142.length : Int) (wrap64 (x19_1 + 1)))) = some r := H
                      have A22 := Aside0.mk A220
                      clear A220
                      by_cases c23 : (t156 != t157) = true
                      · rw [if_pos c23] at H
                        have c23b0 : (t156 != t157) = true := c23
                        (try (have c23b1 : decide (t156 = t157) = false := by simpa using c23))
                        (try (have c23b2 : (t156 == t157) = false := by simpa using c23))
                        (try (have c23b3 : ¬ (t156 = t157) := by simpa using c23))
                        clear c23
                        obtain rfl := Option.some.inj H
                        have p145 : 0 ≤ (x19_1 : Int) := of_decide_eq_true (by first | (with_reducible assumption) | assumption)
                        have q145 : x19_1 < (y142.length : Int) := of_decide_eq_true (by first | (with_reducible assumption) | assumption)
                        obtain ⟨ad145, e145, hx145_0⟩ := Kd.at_bool (Kd.R_reads' HO_17.out).2.2 x19_1 p145 q145
                        cases e145
                        replace p145 := eq_true p145
                        replace q145 := eq_true q145
                        go_wp2_with (first | ((with_reducible refine gate_callee (f := 16) rfl ?_); refine goesL_ (some 27) rfl rfl Try.func16 (by kernel_rfl) rfl #[.int .u32 a0, .int .u32 a1, .bool (rdOf false y142 x19_1)] rfl (by (try simp only [List.map_toArray, List.map_cons, List.map_nil]); first | done | rfl | (simp only [List.length_drop, List.length_take]; rfl)) ?_; (with_reducible refine (word_Mul.calls a0 a1 (rdOf false y142 x19_1) t146 t147 _ A10.out).mono ?_); rintro e w' ⟨rfl, ⟨nd, rfl⟩⟩; refine ⟨_, rfl, ?_⟩) | ((with_reducible refine gate_callee (f := 20) rfl ?_); refine goesL_ (some 34) rfl rfl Try.func20 (by kernel_rfl) rfl #[.int .u32 a0, .int .u32 a1, .bool (rdOf false y142 x19_1)] rfl (by (try simp only [List.map_toArray, List.map_cons, List.map_nil]); first | done | rfl | (simp only [List.length_drop, List.length_take]; rfl)) ?_; (with_reducible refine (pianolaref1_Mul.calls k1 a0 a1 (rdOf false y142 x19_1) t148 t149 _ A11.out).mono ?_); rintro e w' ⟨rfl, ⟨nd, rfl⟩⟩; refine ⟨_, rfl, ?_⟩) | ((with_reducible refine gate_callee (f := 15) rfl ?_); refine goesL_ (some 41) rfl rfl Try.func15 (by kernel_rfl) rfl #[.int .u32 a0, .int .u32 a1, .bool (rdOf false y142 x19_1)] rfl (by (try simp only [List.map_toArray, List.map_cons, List.map_nil]); first | done | rfl | (simp only [List.length_drop, List.length_take]; rfl)) ?_; (with_reducible refine (word_Div.calls a0 a1 (rdOf false y142 x19_1) t150 t151 _ A12.out).mono ?_); rintro e w' ⟨rfl, ⟨nd, rfl⟩⟩; refine ⟨_, rfl, ?_⟩) | ((with_reducible refine gate_callee (f := 21) rfl ?_); refine goesL_ (some 48) rfl rfl Try.func21 (by kernel_rfl) rfl #[.int .u32 a0, .int .u32 a1, .bool (rdOf false y142 x19_1)] rfl (by (try simp only [List.map_toArray, List.map_cons, List.map_nil]); first | done | rfl | (simp only [List.length_drop, List.length_take]; rfl)) ?_; (with_reducible refine (pianolaref1_Div.calls a0 a1 (rdOf false y142 x19_1) t152 t153 _ A13.out).mono ?_); rintro e w' ⟨rfl, ⟨nd, rfl⟩⟩; refine ⟨_, rfl, ?_⟩) | (go_at_call 14; (with_reducible refine (word_Over.calls a0 a1 (rdOf false y142 x19_1) t154 _ A18.out).mono ?_); rintro e w' ⟨rfl, ⟨nd, rfl⟩⟩) | (go_at_call 22; (with_reducible refine (pianolaref1_Over.calls a0 a1 (rdOf false y142 x19_1) t155 _ A19.out).mono ?_); rintro e w' ⟨rfl, ⟨nd, rfl⟩⟩) | (go_at_call 13; (with_reducible refine (word_Less.calls a0 a1 (rdOf false y142 x19_1) t156 _ A21.out).mono ?_); rintro e w' ⟨rfl, ⟨nd, rfl⟩⟩) | (go_at_call 23; (with_reducible refine (pianolaref1_Less.calls a0 a1 (rdOf false y142 x19_1) t157 _ A22.out).mono ?_); rintro e w' ⟨rfl, ⟨nd, rfl⟩⟩) | (go_at_call 16; (with_reducible refine (word_Mul.calls a0 a1 (rdOf false y142 x19_1) t146 t147 _ A10.out).mono ?_); rintro e w' ⟨rfl, ⟨nd, rfl⟩⟩) | (go_at_call 20; (with_reducible refine (pianolaref1_Mul.calls k1 a0 a1 (rdOf false y142 x19_1) t148 t149 _ A11.out).mono ?_); rintro e w' ⟨rfl, ⟨nd, rfl⟩⟩) | (go_at_call 15; (with_reducible refine (word_Div.calls a0 a1 (rdOf false y142 x19_1) t150 t151 _ A12.out).mono ?_); rintro e w' ⟨rfl, ⟨nd, rfl⟩⟩) | (go_at_call 21; (with_reducible refine (pianolaref1_Div.calls a0 a1 (rdOf false y142 x19_1) t152 t153 _ A13.out).mono ?_); rintro e w' ⟨rfl, ⟨nd, rfl⟩⟩))
                        go_ret
                        exact ⟨by first | rfl | (simp [errW_none, errW_some] <;> rfl) | (simp [*, errW_none, errW_some] <;> rfl), by repeat (first | (with_reducible first | exact HB.out | apply below_alloc | apply pw_below_drewN | apply below_drew1) | exact HB.out)⟩
                      · rw [if_neg c23] at H
                        have c23b0 : (t156 != t157) = false := by simpa using c23
                        (try (have c23b1 : decide (t156 = t157) = true := by simpa using c23))
                        (try (have c23b2 : (t156 == t157) = true := by simpa using c23))
                        clear c23
                        have H' := Aside0.mk H
                        clear H
                        have p145 : 0 ≤ (x19_1 : Int) := of_decide_eq_true (by first | (with_reducible assumption) | assumption)
                        have q145 : x19_1 < (y142.length : Int) := of_decide_eq_true (by first | (with_reducible assumption) | assumption)
                        obtain ⟨ad145, e145, hx145_0⟩ := Kd.at_bool (Kd.R_reads' HO_17.out).2.2 x19_1 p145 q145
                        cases e145
                        replace p145 := eq_true p145
                        replace q145 := eq_true q145
                        go_wp2_with (first | ((with_reducible refine gate_callee (f := 16) rfl ?_); refine goesL_ (some 27) rfl rfl Try.func16 (by kernel_rfl) rfl #[.int .u32 a0, .int .u32 a1, .bool (rdOf false y142 x19_1)] rfl (by (try simp only [List.map_toArray, List.map_cons, List.map_nil]); first | done | rfl | (simp only [List.length_drop, List.length_take]; rfl)) ?_; (with_reducible refine (word_Mul.calls a0 a1 (rdOf false y142 x19_1) t146 t147 _ A10.out).mono ?_); rintro e w' ⟨rfl, ⟨nd, rfl⟩⟩; refine ⟨_, rfl, ?_⟩) | ((with_reducible refine gate_callee (f := 20) rfl ?_); refine goesL_ (some 34) rfl rfl Try.func20 (by kernel_rfl) rfl #[.int .u32 a0, .int .u32 a1, .bool (rdOf false y142 x19_1)] rfl (by (try simp only [List.map_toArray, List.map_cons, List.map_nil]); first | done | rfl | (simp only [List.length_drop, List.length_take]; rfl)) ?_; (with_reducible refine (pianolaref1_Mul.calls k1 a0 a1 (rdOf false y142 x19_1) t148 t149 _ A11.out).mono ?_); rintro e w' ⟨rfl, ⟨nd, rfl⟩⟩; refine ⟨_, rfl, ?_⟩) | ((with_reducible refine gate_callee (f := 15) rfl ?_); refine goesL_ (some 41) rfl rfl Try.func15 (by kernel_rfl) rfl #[.int .u32 a0, .int .u32 a1, .bool (rdOf false y142 x19_1)] rfl (by (try simp only [List.map_toArray, List.map_cons, List.map_nil]); first | done | rfl | (simp only [List.length_drop, List.length_take]; rfl)) ?_; (with_reducible refine (word_Div.calls a0 a1 (rdOf false y142 x19_1) t150 t151 _ A12.out).mono ?_); rintro e w' ⟨rfl, ⟨nd, rfl⟩⟩; refine ⟨_, rfl, ?_⟩) | ((with_reducible refine gate_callee (f := 21) rfl ?_); refine goesL_ (some 48) rfl rfl Try.func21 (by kernel_rfl) rfl #[.int .u32 a0, .int .u32 a1, .bool (rdOf false y142 x19_1)] rfl (by (try simp only [List.map_toArray, List.map_cons, List.map_nil]); first | done | rfl | (simp only [List.length_drop, List.length_take]; rfl)) ?_; (with_reducible refine (pianolaref1_Div.calls a0 a1 (rdOf false y142 x19_1) t152 t153 _ A13.out).mono ?_); rintro e w' ⟨rfl, ⟨nd, rfl⟩⟩; refine ⟨_, rfl, ?_⟩) | (go_at_call 14; (with_reducible refine (word_Over.calls a0 a1 (rdOf false y142 x19_1) t154 _ A18.out).mono ?_); rintro e w' ⟨rfl, ⟨nd, rfl⟩⟩) | (go_at_call 22; (with_reducible refine (pianolaref1_Over.calls a0 a1 (rdOf false y142 x19_1) t155 _ A19.out).mono ?_); rintro e w' ⟨rfl, ⟨nd, rfl⟩⟩) | (go_at_call 13; (with_reducible refine (word_Less.calls a0 a1 (rdOf false y142 x19_1) t156 _ A21.out).mono ?_); rintro e w' ⟨rfl, ⟨nd, rfl⟩⟩) | (go_at_call 23; (with_reducible refine (pianolaref1_Less.calls a0 a1 (rdOf false y142 x19_1) t157 _ A22.out).mono ?_); rintro e w' ⟨rfl, ⟨nd, rfl⟩⟩) | (go_at_call 16; (with_reducible refine (word_Mul.calls a0 a1 (rdOf false y142 x19_1) t146 t147 _ A10.out).mono ?_); rintro e w' ⟨rfl, ⟨nd, rfl⟩⟩) | (go_at_call 20; (with_reducible refine (pianolaref1_Mul.calls k1 a0 a1 (rdOf false y142 x19_1) t148 t149 _ A11.out).mono ?_); rintro e w' ⟨rfl, ⟨nd, rfl⟩⟩) | (go_at_call 15; (with_reducible refine (word_Div.calls a0 a1 (rdOf false y142 x19_1) t150 t151 _ A12.out).mono ?_); rintro e w' ⟨rfl, ⟨nd, rfl⟩⟩) | (go_at_call 21; (with_reducible refine (pianolaref1_Div.calls a0 a1 (rdOf false y142 x19_1) t152 t153 _ A13.out).mono ?_); rintro e w' ⟨rfl, ⟨nd, rfl⟩⟩))
                        go_roundg k1
                        case measure => have := HK1.out; omega
                        case rel => exact ⟨(wrap64 (x19_1 + 1)), (by first | rfl | (simp; done) | (simp [*]; done) | (simp; omega)), H', ⟨by have := HK1.out; omega⟩, ⟨by (with_reducible repeat (first | apply Kd.R_alloc | apply Kd.R_drewN | apply Kd.R_drew)); exact HO_17.out⟩, ⟨by repeat (first | (with_reducible first | exact HB.out | apply below_alloc | apply pw_below_drewN | apply below_drew1) | exact HB.out)⟩⟩
                  · rw [if_neg c17] at H
                    have c17b0 : (t151 == t153) = false := beq_eq_false_iff_ne.mpr c17
                    have c17b1 : (t151 != t153) = true := bne_iff_ne.mpr c17
                    obtain rfl := Option.some.inj H
                    have p145 : 0 ≤ (x19_1 : Int) := of_decide_eq_true (by first | (with_reducible assumption) | assumption)
                    have q145 : x19_1 < (y142.length : Int) := of_decide_eq_true (by first | (with_reducible assumption) | assumption)
                    obtain ⟨ad145, e145, hx145_0⟩ := Kd.at_bool (Kd.R_reads' HO_17.out).2.2 x19_1 p145 q145
                    cases e145
                    replace p145 := eq_true p145
                    replace q145 := eq_true q145
                    go_wp2_with (first | ((with_reducible refine gate_callee (f := 16) rfl ?_); refine goesL_ (some 27) rfl rfl Try.func16 (by kernel_rfl) rfl #[.int .u32 a0, .int .u32 a1, .bool (rdOf false y142 x19_1)] rfl (by (try simp only [List.map_toArray, List.map_cons, List.map_nil]); first | done | rfl | (simp only [List.length_drop, List.length_take]; rfl)) ?_; (with_reducible refine (word_Mul.calls a0 a1 (rdOf false y142 x19_1) t146 t147 _ A10.out).mono ?_); rintro e w' ⟨rfl, ⟨nd, rfl⟩⟩; refine ⟨_, rfl, ?_⟩) | ((with_reducible refine gate_callee (f := 20) rfl ?_); refine goesL_ (some 34) rfl rfl Try.func20 (by kernel_rfl) rfl #[.int .u32 a0, .int .u32 a1, .bool (rdOf false y142 x19_1)] rfl (by (try simp only [List.map_toArray, List.map_cons, List.map_nil]); first | done | rfl | (simp only [List.length_drop, List.length_take]; rfl)) ?_; (with_reducible refine (pianolaref1_Mul.calls k1 a0 a1 (rdOf false y142 x19_1) t148 t149 _ A11.out).mono ?_); rintro e w' ⟨rfl, ⟨nd, rfl⟩⟩; refine ⟨_, rfl, ?_⟩) | ((with_reducible refine gate_callee (f := 15) rfl ?_); refine goesL_ (some 41) rfl rfl Try.func15 (by kernel_rfl) rfl #[.int .u32 a0, .int .u32 a1, .bool (rdOf false y142 x19_1)] rfl (by (try simp only [List.map_toArray, List.map_cons, List.map_nil]); first | done | rfl | (simp only [List.length_drop, List.length_take]; rfl)) ?_; (with_reducible refine (word_Div.calls a0 a1 (rdOf false y142 x19_1) t150 t151 _ A12.out).mono ?_); rintro e w' ⟨rfl, ⟨nd, rfl⟩⟩; refine ⟨_, rfl, ?_⟩) | ((with_reducible refine gate_callee (f := 21) rfl ?_); refine goesL_ (some 48) rfl rfl Try.func21 (by kernel_rfl) rfl #[.int .u32 a0, .int .u32 a1, .bool (rdOf false y142 x19_1)] rfl (by (try simp only [List.map_toArray, List.map_cons, List.map_nil]); first | done | rfl | (simp only [List.length_drop, List.length_take]; rfl)) ?_; (with_reducible refine (pianolaref1_Div.calls a0 a1 (rdOf false y142 x19_1) t152 t153 _ A13.out).mono ?_); rintro e w' ⟨rfl, ⟨nd, rfl⟩⟩; refine ⟨_, rfl, ?_⟩) | (go_at_call 16; (with_reducible refine (word_Mul.calls a0 a1 (rdOf false y142 x19_1) t146 t147 _ A10.out).mono ?_); rintro e w' ⟨rfl, ⟨nd, rfl⟩⟩) | (go_at_call 20; (with_reducible refine (pianolaref1_Mul.calls k1 a0 a1 (rdOf false y142 x19_1) t148 t149 _ A11.out).mono ?_); rintro e w' ⟨rfl, ⟨nd, rfl⟩⟩) | (go_at_call 15; (with_reducible refine (word_Div.calls a0 a1 (rdOf false y142 x19_1) t150 t151 _ A12.out).mono ?_); rintro e w' ⟨rfl, ⟨nd, rfl⟩⟩) | (go_at_call 21; (with_reducible refine (pianolaref1_Div.calls a0 a1 (rdOf false y142 x19_1) t152 t153 _ A13.out).mono ?_); rintro e w' ⟨rfl, ⟨nd, rfl⟩⟩))
                    go_ret
                    exact ⟨by first | rfl | (simp [errW_none, errW_some] <;> rfl) | (simp [*, errW_none, errW_some] <;> rfl), by repeat (first | (with_reducible first | exact HB.out | apply below_alloc | apply pw_below_drewN | apply below_drew1) | exact HB.out)⟩
                · rw [if_neg c16] at H
                  have c16b0 : (t150 == t152) = false := beq_eq_false_iff_ne.mpr c16
                  have c16b1 : (t150 != t152) = true := bne_iff_ne.mpr c16
                  obtain rfl := Option.some.inj H
                  have p145 : 0 ≤ (x19_1 : Int) := of_decide_eq_true (by first | (with_reducible assumption) | assumption)
                  have q145 : x19_1 < (y142.length : Int) := of_decide_eq_true (by first | (with_reducible assumption) | assumption)
                  obtain ⟨ad145, e145, hx145_0⟩ := Kd.at_bool (Kd.R_reads' HO_17.out).2.2 x19_1 p145 q145
                  cases e145
                  replace p145 := eq_true p145
                  replace q145 := eq_true q145
                  go_wp2_with (first | ((with_reducible refine gate_callee (f := 16) rfl ?_); refine goesL_ (some 27) rfl rfl Try.func16 (by kernel_rfl) rfl #[.int .u32 a0, .int .u32 a1, .bool (rdOf false y142 x19_1)] rfl (by (try simp only [List.map_toArray, List.map_cons, List.map_nil]); first | done | rfl | (simp only [List.length_drop, List.length_take]; rfl)) ?_; (with_reducible refine (word_Mul.calls a0 a1 (rdOf false y142 x19_1) t146 t147 _ A10.out).mono ?_); rintro e w' ⟨rfl, ⟨nd, rfl⟩⟩; refine ⟨_, rfl, ?_⟩) | ((with_reducible refine gate_callee (f := 20) rfl ?_); refine goesL_ (some 34) rfl rfl Try.func20 (by kernel_rfl) rfl #[.int .u32 a0, .int .u32 a1, .bool (rdOf false y142 x19_1)] rfl (by (try simp only [List.map_toArray, List.map_cons, List.map_nil]); first | done | rfl | (simp only [List.length_drop, List.length_take]; rfl)) ?_; (with_reducible refine (pianolaref1_Mul.calls k1 a0 a1 (rdOf false y142 x19_1) t148 t149 _ A11.out).mono ?_); rintro e w' ⟨rfl, ⟨nd, rfl⟩⟩; refine ⟨_, rfl, ?_⟩) | ((with_reducible refine gate_callee (f := 15) rfl ?_); refine goesL_ (some 41) rfl rfl Try.func15 (by kernel_rfl) rfl #[.int .u32 a0, .int .u32 a1, .bool (rdOf false y142 x19_1)] rfl (by (try simp only [List.map_toArray, List.map_cons, List.map_nil]); first | done | rfl | (simp only [List.length_drop, List.length_take]; rfl)) ?_; (with_reducible refine (word_Div.calls a0 a1 (rdOf false y142 x19_1) t150 t151 _ A12.out).mono ?_); rintro e w' ⟨rfl, ⟨nd, rfl⟩⟩; refine ⟨_, rfl, ?_⟩) | ((with_reducible refine gate_callee (f := 21) rfl ?_); refine goesL_ (some 48) rfl rfl Try.func21 (by kernel_rfl) rfl #[.int .u32 a0, .int .u32 a1, .bool (rdOf false y142 x19_1)] rfl (by (try simp only [List.map_toArray, List.map_cons, List.map_nil]); first | done | rfl | (simp only [List.length_drop, List.length_take]; rfl)) ?_; (with_reducible refine (pianolaref1_Div.calls a0 a1 (rdOf false y142 x19_1) t152 t153 _ A13.out).mono ?_); rintro e w' ⟨rfl, ⟨nd, rfl⟩⟩; refine ⟨_, rfl, ?_⟩) | (go_at_call 16; (with_reducible refine (word_Mul.calls a0 a1 (rdOf false y142 x19_1) t146 t147 _ A10.out).mono ?_); rintro e w' ⟨rfl, ⟨nd, rfl⟩⟩) | (go_at_call 20; (with_reducible refine (pianolaref1_Mul.calls k1 a0 a1 (rdOf false y142 x19_1) t148 t149 _ A11.out).mono ?_); rintro e w' ⟨rfl, ⟨nd, rfl⟩⟩) | (go_at_call 15; (with_reducible refine (word_Div.calls a0 a1 (rdOf false y142 x19_1) t150 t151 _ A12.out).mono ?_); rintro e w' ⟨rfl, ⟨nd, rfl⟩⟩) | (go_at_call 21; (with_reducible refine (pianolaref1_Div.calls a0 a1 (rdOf false y142 x19_1) t152 t153 _ A13.out).mono ?_); rintro e w' ⟨rfl, ⟨nd, rfl⟩⟩))
                  go_ret
                  exact ⟨by first | rfl | (simp [errW_none, errW_some] <;> rfl) | (simp [*, errW_none, errW_some] <;> rfl), by repeat (first | (with_reducible first | exact HB.out | apply below_alloc | apply pw_below_drewN | apply below_drew1) | exact HB.out)⟩
              · rw [if_neg c15] at H
                have c15b0 : (t147 == t149) = false := beq_eq_false_iff_ne.mpr c15
                have c15b1 : (t147 != t149) = true := bne_iff_ne.mpr c15
                obtain rfl := Option.some.inj H
                have p145 : 0 ≤ (x19_1 : Int) := of_decide_eq_true (by first | (with_reducible assumption) | assumption)
                have q145 : x19_1 < (y142.length : Int) := of_decide_eq_true (by first | (with_reducible assumption) | assumption)
                obtain ⟨ad145, e145, hx145_0⟩ := Kd.at_bool (Kd.R_reads' HO_17.out).2.2 x19_1 p145 q145
                cases e145
                replace p145 := eq_true p145
                replace q145 := eq_true q145
                go_wp2_with (first | ((with_reducible refine gate_callee (f := 16) rfl ?_); refine goesL_ (some 27) rfl rfl Try.func16 (by kernel_rfl) rfl #[.int .u32 a0, .int .u32 a1, .bool (rdOf false y142 x19_1)] rfl (by (try simp only [List.map_toArray, List.map_cons, List.map_nil]); first | done | rfl | (simp only [List.length_drop, List.length_take]; rfl)) ?_; (with_reducible refine (word_Mul.calls a0 a1 (rdOf false y142 x19_1) t146 t147 _ A10.out).mono ?_); rintro e w' ⟨rfl, ⟨nd, rfl⟩⟩; refine ⟨_, rfl, ?_⟩) | ((with_reducible refine gate_callee (f := 20) rfl ?_); refine goesL_ (some 34) rfl rfl Try.func20 (by kernel_rfl) rfl #[.int .u32 a0, .int .u32 a1, .bool (rdOf false y142 x19_1)] rfl (by (try simp only [List.map_toArray, List.map_cons, List.map_nil]); first | done | rfl | (simp only [List.length_drop, List.length_take]; rfl)) ?_; (with_reducible refine (pianolaref1_Mul.calls k1 a0 a1 (rdOf false y142 x19_1) t148 t149 _ A11.out).mono ?_); rintro e w' ⟨rfl, ⟨nd, rfl⟩⟩; refine ⟨_, rfl, ?_⟩) | ((with_reducible refine gate_callee (f := 15) rfl ?_); refine goesL_ (some 41) rfl rfl Try.func15 (by kernel_rfl) rfl #[.int .u32 a0, .int .u32 a1, .bool (rdOf false y142 x19_1)] rfl (by (try simp only [List.map_toArray, List.map_cons, List.map_nil]); first | done | rfl | (simp only [List.length_drop, List.length_take]; rfl)) ?_; (with_reducible refine (word_Div.calls a0 a1 (rdOf false y142 x19_1) t150 t151 _ A12.out).mono ?_); rintro e w' ⟨rfl, ⟨nd, rfl⟩⟩; refine ⟨_, rfl, ?_⟩) | ((with_reducible refine gate_callee (f := 21) rfl ?_); refine goesL_ (some 48) rfl rfl Try.func21 (by kernel_rfl) rfl #[.int .u32 a0, .int .u32 a1, .bool (rdOf false y142 x19_1)] rfl (by (try simp only [List.map_toArray, List.map_cons, List.map_nil]); first | done | rfl | (simp only [List.length_drop, List.length_take]; rfl)) ?_; (with_reducible refine (pianolaref1_Div.calls a0 a1 (rdOf false y142 x19_1) t152 t153 _ A13.out).mono ?_); rintro e w' ⟨rfl, ⟨nd, rfl⟩⟩; refine ⟨_, rfl, ?_⟩) | (go_at_call 16; (with_reducible refine (word_Mul.calls a0 a1 (rdOf false y142 x19_1) t146 t147 _ A10.out).mono ?_); rintro e w' ⟨rfl, ⟨nd, rfl⟩⟩) | (go_at_call 20; (with_reducible refine (pianolaref1_Mul.calls k1 a0 a1 (rdOf false y142 x19_1) t148 t149 _ A11.out).mono ?_); rintro e w' ⟨rfl, ⟨nd, rfl⟩⟩) | (go_at_call 15; (with_reducible refine (word_Div.calls a0 a1 (rdOf false y142 x19_1) t150 t151 _ A12.out).mono ?_); rintro e w' ⟨rfl, ⟨nd, rfl⟩⟩) | (go_at_call 21; (with_reducible refine (pianolaref1_Div.calls a0 a1 (rdOf false y142 x19_1) t152 t153 _ A13.out).mono ?_); rintro e w' ⟨rfl, ⟨nd, rfl⟩⟩))
                go_ret
                exact ⟨by first | rfl | (simp [errW_none, errW_some] <;> rfl) | (simp [*, errW_none, errW_some] <;> rfl), by repeat (first | (with_reducible first | exact HB.out | apply below_alloc | apply pw_below_drewN | apply below_drew1) | exact HB.out)⟩
            · rw [if_neg c14] at H
              have c14b0 : (t146 == t148) = false := beq_eq_false_iff_ne.mpr c14
              have c14b1 : (t146 != t148) = true := bne_iff_ne.mpr c14
              obtain rfl := Option.some.inj H
              have p145 : 0 ≤ (x19_1 : Int) := of_decide_eq_true (by first | (with_reducible assumption) | assumption)
              have q145 : x19_1 < (y142.length : Int) := of_decide_eq_true (by first | (with_reducible assumption) | assumption)
              obtain ⟨ad145, e145, hx145_0⟩ := Kd.at_bool (Kd.R_reads' HO_17.out).2.2 x19_1 p145 q145
              cases e145
              replace p145 := eq_true p145
              replace q145 := eq_true q145
              go_wp2_with (first | ((with_reducible refine gate_callee (f := 16) rfl ?_); refine goesL_ (some 27) rfl rfl Try.func16 (by kernel_rfl) rfl #[.int .u32 a0, .int .u32 a1, .bool (rdOf false y142 x19_1)] rfl (by (try simp only [List.map_toArray, List.map_cons, List.map_nil]); first | done | rfl | (simp only [List.length_drop, List.length_take]; rfl)) ?_; (with_reducible refine (word_Mul.calls a0 a1 (rdOf false y142 x19_1) t146 t147 _ A10.out).mono ?_); rintro e w' ⟨rfl, ⟨nd, rfl⟩⟩; refine ⟨_, rfl, ?_⟩) | ((with_reducible refine gate_callee (f := 20) rfl ?_); refine goesL_ (some 34) rfl rfl Try.func20 (by kernel_rfl) rfl #[.int .u32 a0, .int .u32 a1, .bool (rdOf false y142 x19_1)] rfl (by (try simp only [List.map_toArray, List.map_cons, List.map_nil]); first | done | rfl | (simp only [List.length_drop, List.length_take]; rfl)) ?_; (with_reducible refine (pianolaref1_Mul.calls k1 a0 a1 (rdOf false y142 x19_1) t148 t149 _ A11.out).mono ?_); rintro e w' ⟨rfl, ⟨nd, rfl⟩⟩; refine ⟨_, rfl, ?_⟩) | ((with_reducible refine gate_callee (f := 15) rfl ?_); refine goesL_ (some 41) rfl rfl Try.func15 (by kernel_rfl) rfl #[.int .u32 a0, .int .u32 a1, .bool (rdOf false y142 x19_1)] rfl (by (try simp only [List.map_toArray, List.map_cons, List.map_nil]); first | done | rfl | (simp only [List.length_drop, List.length_take]; rfl)) ?_; (with_reducible refine (word_Div.calls a0 a1 (rdOf false y142 x19_1) t150 t151 _ A12.out).mono ?_); rintro e w' ⟨rfl, ⟨nd, rfl⟩⟩; refine ⟨_, rfl, ?_⟩) | ((with_reducible refine gate_callee (f := 21) rfl ?_); refine goesL_ (some 48) rfl rfl Try.func21 (by kernel_rfl) rfl #[.int .u32 a0, .int .u32 a1, .bool (rdOf false y142 x19_1)] rfl (by (try simp only [List.map_toArray, List.map_cons, List.map_nil]); first | done | rfl | (simp only [List.length_drop, List.length_take]; rfl)) ?_; (with_reducible refine (pianolaref1_Div.calls a0 a1 (rdOf false y142 x19_1) t152 t153 _ A13.out).mono ?_); rintro e w' ⟨rfl, ⟨nd, rfl⟩⟩; refine ⟨_, rfl, ?_⟩) | (go_at_call 16; (with_reducible refine (word_Mul.calls a0 a1 (rdOf false y142 x19_1) t146 t147 _ A10.out).mono ?_); rintro e w' ⟨rfl, ⟨nd, rfl⟩⟩) | (go_at_call 20; (with_reducible refine (pianolaref1_Mul.calls k1 a0 a1 (rdOf false y142 x19_1) t148 t149 _ A11.out).mono ?_); rintro e w' ⟨rfl, ⟨nd, rfl⟩⟩) | (go_at_call 15; (with_reducible refine (word_Div.calls a0 a1 (rdOf false y142 x19_1) t150 t151 _ A12.out).mono ?_); rintro e w' ⟨rfl, ⟨nd, rfl⟩⟩) | (go_at_call 21; (with_reducible refine (pianolaref1_Div.calls a0 a1 (rdOf false y142 x19_1) t152 t153 _ A13.out).mono ?_); rintro e w' ⟨rfl, ⟨nd, rfl⟩⟩))
              go_ret
              exact ⟨by first | rfl | (simp [errW_none, errW_some] <;> rfl) | (simp [*, errW_none, errW_some] <;> rfl), by repeat (first | (with_reducible first | exact HB.out | apply below_alloc | apply pw_below_drewN | apply below_drew1) | exact HB.out)⟩
          · rw [if_neg c9] at H
            exact absurd H (by simp)
        · rw [if_neg c8] at H
          exact absurd H (by simp)
      · rw [if_neg c7] at H
        have c7b0 : decide (x19_1 < (y142.length : Int)) = false := decide_eq_false c7
        clear c7
        replace H := Option.bind_eq_some_iff.mp H
        obtain ⟨t158, A240, H⟩ := H
        replace H : ((pianolaref1_Sign.f a0 a2).bind fun t159 => (if t158 = t159 then ((word_Sar.f a0 a2).bind fun t160 => ((pianolaref1_Sar.f k1 a0 a2).bind fun t161 => (if t160 = t161 then ((word_Clz.f a0).bind fun t162 => ((pianolaref1_Clz.f k1 a0).bind fun t163 => (if t162 = t163 then ((word_Clo.f a0).bind fun t164 => ((pianolaref1_Clo.f k1 a0).bind fun t165 => (some (t164 == t165)))) else (some false)))) else (some false)))) else (some false))) = some r := H
        have A24 := Aside0.mk A240
        clear A240
        replace H := Option.bind_eq_some_iff.mp H
        obtain ⟨t159, A250, H⟩ := H
        replace H : (if t158 = t159 then ((word_Sar.f a0 a2).bind fun t160 => ((pianolaref1_Sar.f k1 a0 a2).bind fun t161 => (if t160 = t161 then ((word_Clz.f a0).bind fun t162 => ((pianolaref1_Clz.f k1 a0).bind fun t163 => (if t162 = t163 then ((word_Clo.f a0).bind fun t164 => ((pianolaref1_Clo.f k1 a0).bind fun t165 => (some (t164 == t165)))) else (some false)))) else (some false)))) else (some false)) = some r := H
        have A25 := Aside0.mk A250
        clear A250
        by_cases c26 : t158 = t159
        · rw [if_pos c26] at H
          have c26b0 : (t158 == t159) = true := beq_iff_eq.mpr c26
          have c26b1 : (t158 != t159) = false := bne_eq_false_iff_eq.mpr c26
          clear c26
          replace H := Option.bind_eq_some_iff.mp H
          obtain ⟨t160, A270, H⟩ := H
          replace H : ((pianolaref1_Sar.f k1 a0 a2).bind fun t161 => (if t160 = t161 then ((word_Clz.f a0).bind fun t162 => ((pianolaref1_Clz.f k1 a0).bind fun t163 => (if t162 = t163 then ((word_Clo.f a0).bind fun t164 => ((pianolaref1_Clo.f k1 a0).bind fun t165 => (some (t164 == t165)))) else (some false)))) else (some false))) = some r := H
          have A27 := Aside0.mk A270
          clear A270
          replace H := Option.bind_eq_some_iff.mp H
          obtain ⟨t161, A280, H⟩ := H
          replace H : (if t160 = t161 then ((word_Clz.f a0).bind fun t162 => ((pianolaref1_Clz.f k1 a0).bind fun t163 => (if t162 = t163 then ((word_Clo.f a0).bind fun t164 => ((pianolaref1_Clo.f k1 a0).bind fun t165 => (some (t164 == t165)))) else (some false)))) else (some false)) = some r := H
          have A28 := Aside0.mk A280
          clear A280
          by_cases c29 : t160 = t161
          · rw [if_pos c29] at H
            have c29b0 : (t160 == t161) = true := beq_iff_eq.mpr c29
            have c29b1 : (t160 != t161) = false := bne_eq_false_iff_eq.mpr c29
            clear c29
            replace H := Option.bind_eq_some_iff.mp H
            obtain ⟨t162, A300, H⟩ := H
            replace H : ((pianolaref1_Clz.f k1 a0).bind fun t163 => (if t162 = t163 then ((word_Clo.f a0).bind fun t164 => ((pianolaref1_Clo.f k1 a0).bind fun t165 => (some (t164 == t165)))) else (some false))) = some r := H
            have A30 := Aside0.mk A300
            clear A300
            replace H := Option.bind_eq_some_iff.mp H
            obtain ⟨t163, A310, H⟩ := H
            replace H : (if t162 = t163 then ((word_Clo.f a0).bind fun t164 => ((pianolaref1_Clo.f k1 a0).bind fun t165 => (some (t164 == t165)))) else (some false)) = some r := H
            have A31 := Aside0.mk A310
            clear A310
            by_cases c32 : t162 = t163
            · rw [if_pos c32] at H
              have c32b0 : (t162 == t163) = true := beq_iff_eq.mpr c32
              have c32b1 : (t162 != t163) = false := bne_eq_false_iff_eq.mpr c32
              clear c32
              replace H := Option.bind_eq_some_iff.mp H
              obtain ⟨t164, A330, H⟩ := H
              replace H : ((pianolaref1_Clo.f k1 a0).bind fun t165 => (some (t164 == t165))) = some r := H
              have A33 := Aside0.mk A330
              clear A330
              replace H := Option.bind_eq_some_iff.mp H
              obtain ⟨t165, A340, H⟩ := H
              replace H : (some (t164 == t165)) = some r := H
              have A34 := Aside0.mk A340
              clear A340
              obtain rfl := Option.some.inj H
              go_wp2_with (first | ((with_reducible refine gate_callee (f := 11) rfl ?_); refine goesL_ (some 94) rfl rfl Try.func11 (by kernel_rfl) rfl #[.int .u32 a0, .int .i64 a2] rfl (by (try simp only [List.map_toArray, List.map_cons, List.map_nil]); first | done | rfl | (simp only [List.length_drop, List.length_take]; rfl)) ?_; (with_reducible refine (word_Sign.calls a0 a2 t158 _ A24.out).mono ?_); rintro e w' ⟨rfl, ⟨nd, rfl⟩⟩; refine ⟨_, rfl, ?_⟩) | ((with_reducible refine gate_callee (f := 24) rfl ?_); refine goesL_ (some 97) rfl rfl Try.func24 (by kernel_rfl) rfl #[.int .u32 a0, .int .i64 a2] rfl (by (try simp only [List.map_toArray, List.map_cons, List.map_nil]); first | done | rfl | (simp only [List.length_drop, List.length_take]; rfl)) ?_; (with_reducible refine (pianolaref1_Sign.calls a0 a2 t159 _ A25.out).mono ?_); rintro e w' ⟨rfl, ⟨nd, rfl⟩⟩; refine ⟨_, rfl, ?_⟩) | (go_at_call 10; (with_reducible refine (word_Sar.calls a0 a2 t160 _ A27.out).mono ?_); rintro e w' ⟨rfl, ⟨nd, rfl⟩⟩) | (go_at_call 25; (with_reducible refine (pianolaref1_Sar.calls k1 a0 a2 t161 _ A28.out).mono ?_); rintro e w' ⟨rfl, ⟨nd, rfl⟩⟩) | (go_at_call 8; (with_reducible refine (word_Clz.calls a0 t162 _ A30.out).mono ?_); rintro e w' ⟨rfl, ⟨nd, rfl⟩⟩) | (go_at_call 26; (with_reducible refine (pianolaref1_Clz.calls k1 a0 t163 _ A31.out).mono ?_); rintro e w' ⟨rfl, ⟨nd, rfl⟩⟩) | (go_at_call 9; (with_reducible refine (word_Clo.calls a0 t164 _ A33.out).mono ?_); rintro e w' ⟨rfl, ⟨nd, rfl⟩⟩) | (go_at_call 27; (with_reducible refine (pianolaref1_Clo.calls k1 a0 t165 _ A34.out).mono ?_); rintro e w' ⟨rfl, ⟨nd, rfl⟩⟩) | (go_at_call 11; (with_reducible refine (word_Sign.calls a0 a2 t158 _ A24.out).mono ?_); rintro e w' ⟨rfl, ⟨nd, rfl⟩⟩) | (go_at_call 24; (with_reducible refine (pianolaref1_Sign.calls a0 a2 t159 _ A25.out).mono ?_); rintro e w' ⟨rfl, ⟨nd, rfl⟩⟩))
              go_ret
              exact ⟨by first | rfl | (simp [errW_none, errW_some] <;> rfl) | (simp [*, errW_none, errW_some] <;> rfl), by repeat (first | (with_reducible first | exact HB.out | apply below_alloc | apply pw_below_drewN | apply below_drew1) | exact HB.out)⟩
            · rw [if_neg c32] at H
              have c32b0 : (t162 == t163) = false := beq_eq_false_iff_ne.mpr c32
              have c32b1 : (t162 != t163) = true := bne_iff_ne.mpr c32
              obtain rfl := Option.some.inj H
              go_wp2_with (first | ((with_reducible refine gate_callee (f := 11) rfl ?_); refine goesL_ (some 94) rfl rfl Try.func11 (by kernel_rfl) rfl #[.int .u32 a0, .int .i64 a2] rfl (by (try simp only [List.map_toArray, List.map_cons, List.map_nil]); first | done | rfl | (simp only [List.length_drop, List.length_take]; rfl)) ?_; (with_reducible refine (word_Sign.calls a0 a2 t158 _ A24.out).mono ?_); rintro e w' ⟨rfl, ⟨nd, rfl⟩⟩; refine ⟨_, rfl, ?_⟩) | ((with_reducible refine gate_callee (f := 24) rfl ?_); refine goesL_ (some 97) rfl rfl Try.func24 (by kernel_rfl) rfl #[.int .u32 a0, .int .i64 a2] rfl (by (try simp only [List.map_toArray, List.map_cons, List.map_nil]); first | done | rfl | (simp only [List.length_drop, List.length_take]; rfl)) ?_; (with_reducible refine (pianolaref1_Sign.calls a0 a2 t159 _ A25.out).mono ?_); rintro e w' ⟨rfl, ⟨nd, rfl⟩⟩; refine ⟨_, rfl, ?_⟩) | (go_at_call 10; (with_reducible refine (word_Sar.calls a0 a2 t160 _ A27.out).mono ?_); rintro e w' ⟨rfl, ⟨nd, rfl⟩⟩) | (go_at_call 25; (with_reducible refine (pianolaref1_Sar.calls k1 a0 a2 t161 _ A28.out).mono ?_); rintro e w' ⟨rfl, ⟨nd, rfl⟩⟩) | (go_at_call 8; (with_reducible refine (word_Clz.calls a0 t162 _ A30.out).mono ?_); rintro e w' ⟨rfl, ⟨nd, rfl⟩⟩) | (go_at_call 26; (with_reducible refine (pianolaref1_Clz.calls k1 a0 t163 _ A31.out).mono ?_); rintro e w' ⟨rfl, ⟨nd, rfl⟩⟩) | (go_at_call 11; (with_reducible refine (word_Sign.calls a0 a2 t158 _ A24.out).mono ?_); rintro e w' ⟨rfl, ⟨nd, rfl⟩⟩) | (go_at_call 24; (with_reducible refine (pianolaref1_Sign.calls a0 a2 t159 _ A25.out).mono ?_); rintro e w' ⟨rfl, ⟨nd, rfl⟩⟩))
              go_ret
              exact ⟨by first | rfl | (simp [errW_none, errW_some] <;> rfl) | (simp [*, errW_none, errW_some] <;> rfl), by repeat (first | (with_reducible first | exact HB.out | apply below_alloc | apply pw_below_drewN | apply below_drew1) | exact HB.out)⟩
          · rw [if_neg c29] at H
            have c29b0 : (t160 == t161) = false := beq_eq_false_iff_ne.mpr c29
            have c29b1 : (t160 != t161) = true := bne_iff_ne.mpr c29
            obtain rfl := Option.some.inj H
            go_wp2_with (first | ((with_reducible refine gate_callee (f := 11) rfl ?_); refine goesL_ (some 94) rfl rfl Try.func11 (by kernel_rfl) rfl #[.int .u32 a0, .int .i64 a2] rfl (by (try simp only [List.map_toArray, List.map_cons, List.map_nil]); first | done | rfl | (simp only [List.length_drop, List.length_take]; rfl)) ?_; (with_reducible refine (word_Sign.calls a0 a2 t158 _ A24.out).mono ?_); rintro e w' ⟨rfl, ⟨nd, rfl⟩⟩; refine ⟨_, rfl, ?_⟩) | ((with_reducible refine gate_callee (f := 24) rfl ?_); refine goesL_ (some 97) rfl rfl Try.func24 (by kernel_rfl) rfl #[.int .u32 a0, .int .i64 a2] rfl (by (try simp only [List.map_toArray, List.map_cons, List.map_nil]); first | done | rfl | (simp only [List.length_drop, List.length_take]; rfl)) ?_; (with_reducible refine (pianolaref1_Sign.calls a0 a2 t159 _ A25.out).mono ?_); rintro e w' ⟨rfl, ⟨nd, rfl⟩⟩; refine ⟨_, rfl, ?_⟩) | (go_at_call 10; (with_reducible refine (word_Sar.calls a0 a2 t160 _ A27.out).mono ?_); rintro e w' ⟨rfl, ⟨nd, rfl⟩⟩) | (go_at_call 25; (with_reducible refine (pianolaref1_Sar.calls k1 a0 a2 t161 _ A28.out).mono ?_); rintro e w' ⟨rfl, ⟨nd, rfl⟩⟩) | (go_at_call 11; (with_reducible refine (word_Sign.calls a0 a2 t158 _ A24.out).mono ?_); rintro e w' ⟨rfl, ⟨nd, rfl⟩⟩) | (go_at_call 24; (with_reducible refine (pianolaref1_Sign.calls a0 a2 t159 _ A25.out).mono ?_); rintro e w' ⟨rfl, ⟨nd, rfl⟩⟩))
            go_ret
            exact ⟨by first | rfl | (simp [errW_none, errW_some] <;> rfl) | (simp [*, errW_none, errW_some] <;> rfl), by repeat (first | (with_reducible first | exact HB.out | apply below_alloc | apply pw_below_drewN | apply below_drew1) | exact HB.out)⟩
        · rw [if_neg c26] at H
          have c26b0 : (t158 == t159) = false := beq_eq_false_iff_ne.mpr c26
          have c26b1 : (t158 != t159) = true := bne_iff_ne.mpr c26
          obtain rfl := Option.some.inj H
          go_wp2_with (first | ((with_reducible refine gate_callee (f := 11) rfl ?_); refine goesL_ (some 94) rfl rfl Try.func11 (by kernel_rfl) rfl #[.int .u32 a0, .int .i64 a2] rfl (by (try simp only [List.map_toArray, List.map_cons, List.map_nil]); first | done | rfl | (simp only [List.length_drop, List.length_take]; rfl)) ?_; (with_reducible refine (word_Sign.calls a0 a2 t158 _ A24.out).mono ?_); rintro e w' ⟨rfl, ⟨nd, rfl⟩⟩; refine ⟨_, rfl, ?_⟩) | ((with_reducible refine gate_callee (f := 24) rfl ?_); refine goesL_ (some 97) rfl rfl Try.func24 (by kernel_rfl) rfl #[.int .u32 a0, .int .i64 a2] rfl (by (try simp only [List.map_toArray, List.map_cons, List.map_nil]); first | done | rfl | (simp only [List.length_drop, List.length_take]; rfl)) ?_; (with_reducible refine (pianolaref1_Sign.calls a0 a2 t159 _ A25.out).mono ?_); rintro e w' ⟨rfl, ⟨nd, rfl⟩⟩; refine ⟨_, rfl, ?_⟩) | (go_at_call 11; (with_reducible refine (word_Sign.calls a0 a2 t158 _ A24.out).mono ?_); rintro e w' ⟨rfl, ⟨nd, rfl⟩⟩) | (go_at_call 24; (with_reducible refine (pianolaref1_Sign.calls a0 a2 t159 _ A25.out).mono ?_); rintro e w' ⟨rfl, ⟨nd, rfl⟩⟩))
          go_ret
          exact ⟨by first | rfl | (simp [errW_none, errW_some] <;> rfl) | (simp [*, errW_none, errW_some] <;> rfl), by repeat (first | (with_reducible first | exact HB.out | apply below_alloc | apply pw_below_drewN | apply below_drew1) | exact HB.out)⟩

/-! ### pianolalaw1_edge: function 18 -/
def pianolalaw1_edge.f (a0 : Int) : Option (Int) := (some (([0, 1, 2, 3, 7, 127, 128, 255, 256, 32767, 32768, 65535, 65536, 2147483647, 2147483648, 2147483649, 4294967294, 4294967295, 1431655765, 2863311530] : List Int) : List Int)).bind fun y166 => (if 0 ≤ (Int.tmod (wrap64 ((Int.tmod a0 20) + 20)) 20) then (if (Int.tmod (wrap64 ((Int.tmod a0 20) + 20)) 20) < (y166.length : Int) then (some (rd y166 (Int.tmod (wrap64 ((Int.tmod a0 20) + 20)) 20))) else (none)) else (none))
set_option maxHeartbeats 8000000 in
set_option maxRecDepth 100000 in
theorem pianolalaw1_edge.calls (a0 : Int) (r : Int) (w : World) (h : pianolalaw1_edge.f a0 = some r) :
    Calls Try.prog 18 #[.int .i64 a0] w fun e w' => e = .returned (.int .u32 r) ∧ Below w.heap.size w w' := by
  have HB := Aside0.mk (Below.refl w.heap.size w)
  have H : ((some (([0, 1, 2, 3, 7, 127, 128, 255, 256, 32767, 32768, 65535, 65536, 2147483647, 2147483648, 2147483649, 4294967294, 4294967295, 1431655765, 2863311530] : List Int) : List Int)).bind fun y166 => (if 0 ≤ (Int.tmod (wrap64 ((Int.tmod a0 20) + 20)) 20) then (if (Int.tmod (wrap64 ((Int.tmod a0 20) + 20)) 20) < (y166.length : Int) then (some (rd y166 (Int.tmod (wrap64 ((Int.tmod a0 20) + 20)) 20))) else (none)) else (none))) = some r := h
  clear h
  obtain ⟨y166, hy166⟩ : ∃ y_ : List Int, y_ = (([0, 1, 2, 3, 7, 127, 128, 255, 256, 32767, 32768, 65535, 65536, 2147483647, 2147483648, 2147483649, 4294967294, 4294967295, 1431655765, 2863311530] : List Int)) := ⟨_, rfl⟩
  replace H : (if 0 ≤ (Int.tmod (wrap64 ((Int.tmod a0 20) + 20)) 20) then (if (Int.tmod (wrap64 ((Int.tmod a0 20) + 20)) 20) < (y166.length : Int) then (some (rd y166 (Int.tmod (wrap64 ((Int.tmod a0 20) + 20)) 20))) else (none)) else (none)) = some r := by first | (rw [hy166]; with_reducible exact H) | (have H2_ := (Option.bind_some _ _).symm.trans H; rw [hy166]; with_reducible exact H2_) | (have H2_ := (Option.bind_some _ _).symm.trans H; with_reducible exact H2_) | with_reducible exact H | (rw [hy166]; exact H) | exact H
  have Ny166 := Aside0.mk hy166
  clear hy166
  obtain ⟨ji2, hji2⟩ : ∃ j_ : Int, (Int.tmod (wrap64 ((Int.tmod a0 20) + 20)) 20) = j_ := ⟨_, rfl⟩
  replace H : (if 0 ≤ (ji2) then (if (ji2) < (y166.length : Int) then (some (rd y166 (ji2))) else (none)) else (none)) = some r := by first | (rw [hji2] at H; exact H) | (simp only [hji2] at H ⊢; exact H)
  by_cases c3 : 0 ≤ (ji2)
  · rw [if_pos c3] at H
    have c3b0 : decide (0 ≤ (ji2)) = true := decide_eq_true c3
    clear c3
    by_cases c4 : (ji2) < (y166.length : Int)
    · rw [if_pos c4] at H
      have c4b0 : decide ((ji2) < (y166.length : Int)) = true := decide_eq_true c4
      clear c4
      obtain rfl := Option.some.inj H
      go_enter Try.func18, Try.ntmps18
      go_wp2_with (first | ((with_reducible refine gate_dst (N := 4) rfl ?_); refine Kd.R_lit (Kd.int .u32) _ 22 ?hg (N := 4) ?hd (xs := ([0, 1, 2, 3, 7, 127, 128, 255, 256, 32767, 32768, 65535, 65536, 2147483647, 2147483648, 2147483649, 4294967294, 4294967295, 1431655765, 2863311530] : List Int)) (inner := [.int .u32 0, .int .u32 1, .int .u32 2, .int .u32 3, .int .u32 7, .int .u32 127, .int .u32 128, .int .u32 255, .int .u32 256, .int .u32 32767, .int .u32 32768, .int .u32 65535, .int .u32 65536, .int .u32 2147483647, .int .u32 2147483648, .int .u32 2147483649, .int .u32 4294967294, .int .u32 4294967295, .int .u32 1431655765, .int .u32 2863311530]) (ok := fun _ => True) (okp := fun _ => True) ?hr ?hp (fun _ hk => hk) trivial (Below.refl _ _) (Nat.le_refl _) (by simp) ?_; (case hd => rfl); (case hg => rfl); (case hr => first | (go_simp; done) | (go_simp; rfl)); (case hp => exact (Reps.one (show Kd.M (Kd.int .u32) _ _ _ 0 [.int .u32 0] from rfl) (Reps.one (show Kd.M (Kd.int .u32) _ _ _ 1 [.int .u32 1] from rfl) (Reps.one (show Kd.M (Kd.int .u32) _ _ _ 2 [.int .u32 2] from rfl) (Reps.one (show Kd.M (Kd.int .u32) _ _ _ 3 [.int .u32 3] from rfl) (Reps.one (show Kd.M (Kd.int .u32) _ _ _ 7 [.int .u32 7] from rfl) (Reps.one (show Kd.M (Kd.int .u32) _ _ _ 127 [.int .u32 127] from rfl) (Reps.one (show Kd.M (Kd.int .u32) _ _ _ 128 [.int .u32 128] from rfl) (Reps.one (show Kd.M (Kd.int .u32) _ _ _ 255 [.int .u32 255] from rfl) (Reps.one (show Kd.M (Kd.int .u32) _ _ _ 256 [.int .u32 256] from rfl) (Reps.one (show Kd.M (Kd.int .u32) _ _ _ 32767 [.int .u32 32767] from rfl) (Reps.one (show Kd.M (Kd.int .u32) _ _ _ 32768 [.int .u32 32768] from rfl) (Reps.one (show Kd.M (Kd.int .u32) _ _ _ 65535 [.int .u32 65535] from rfl) (Reps.one (show Kd.M (Kd.int .u32) _ _ _ 65536 [.int .u32 65536] from rfl) (Reps.one (show Kd.M (Kd.int .u32) _ _ _ 2147483647 [.int .u32 2147483647] from rfl) (Reps.one (show Kd.M (Kd.int .u32) _ _ _ 2147483648 [.int .u32 2147483648] from rfl) (Reps.one (show Kd.M (Kd.int .u32) _ _ _ 2147483649 [.int .u32 2147483649] from rfl) (Reps.one (show Kd.M (Kd.int .u32) _ _ _ 4294967294 [.int .u32 4294967294] from rfl) (Reps.one (show Kd.M (Kd.int .u32) _ _ _ 4294967295 [.int .u32 4294967295] from rfl) (Reps.one (show Kd.M (Kd.int .u32) _ _ _ 1431655765 [.int .u32 1431655765] from rfl) (Reps.one (show Kd.M (Kd.int .u32) _ _ _ 2863311530 [.int .u32 2863311530] from rfl) (Reps.none _ _)))))))))))))))))))))); intro v167 w5 ho6 hb hg_ hnew_; clear hg_ hnew_; (first | rw [← Ny166.out] at ho6 | (simp only [Int.reduceToNat] at ho6; rw [← Ny166.out] at ho6)); have n0_ := Aside0.mk (Kd.R_lower ho6 (below_size (by repeat (first | (with_reducible first | exact HB.out | apply below_alloc | apply pw_below_drewN | apply below_drew1) | exact HB.out)))); have n1_ := Aside0.mk (below_step (by repeat (first | (with_reducible first | exact HB.out | apply below_alloc | apply pw_below_drewN | apply below_drew1) | exact HB.out)) hb); clear HB; have HO168 := n0_; have HB := n1_; clear n0_ n1_; clear hb ho6; obtain ⟨Ao7, co7, eo7⟩ := Kd.R_slice HO168.out; subst eo7; have p169 : 0 ≤ ((ji2) : Int) := of_decide_eq_true (by first | (with_reducible assumption) | assumption); have q169 : (ji2) < (y166.length : Int) := of_decide_eq_true (by first | (with_reducible assumption) | assumption); obtain ⟨ad169, e169, hx169_0⟩ := Kd.at_int (Kd.R_reads' HO168.out).2.2 (ji2) p169 q169; cases e169; replace p169 := eq_true p169; replace q169 := eq_true q169))
      go_ret
      exact ⟨by first | rfl | (simp [errW_none, errW_some] <;> rfl) | (simp only [← hji2]; first | rfl | (simp [errW_none, errW_some] <;> rfl)) | (simp [*, errW_none, errW_some] <;> rfl), by repeat (first | (with_reducible first | exact HB.out | apply below_alloc | apply pw_below_drewN | apply below_drew1) | exact HB.out)⟩
    · rw [if_neg c4] at H
      exact absurd H (by simp)
  · rw [if_neg c3] at H
    exact absurd H (by simp)

/-! ### pianolalaw1_WordNumbers: function 6 -/
mutual
def pianolalaw1_WordNumbers.l0 : Nat → Int → Option (Bool)
  | 0, _ => none
  | k + 1, x1 => if x1 < 20 then (pianolalaw1_WordNumbers.l1 k x1 0) else ((pianolalaw1_known.f).bind fun t170 => (some t170))
def pianolalaw1_WordNumbers.l1 : Nat → Int → Int → Option (Bool)
  | 0, _, _ => none
  | k + 1, x1, x2 => if x2 < 20 then ((pianolalaw1_edge.f x1).bind fun t171 => ((pianolalaw1_edge.f x2).bind fun t172 => ((pianolalaw1_same.f k t171 t172 (wrap64 (x1 + x2))).bind fun t173 => (if t173 = true then (pianolalaw1_WordNumbers.l1 k x1 (wrap64 (x2 + 1))) else (some false))))) else (pianolalaw1_WordNumbers.l2 k x1 (-40))
def pianolalaw1_WordNumbers.l2 : Nat → Int → Int → Option (Bool)
  | 0, _, _ => none
  | k + 1, x1, x3 => if x3 < 70 then ((pianolalaw1_edge.f x1).bind fun t174 => ((pianolalaw1_same.f k t174 5 x3).bind fun t175 => (if t175 = true then (pianolalaw1_WordNumbers.l2 k x1 (wrap64 (x3 + 1))) else (some false)))) else (pianolalaw1_WordNumbers.l0 k (wrap64 (x1 + 1)))
end
def pianolalaw1_WordNumbers.f (k : Nat)  : Option (Bool) := pianolalaw1_WordNumbers.l0 k 0
theorem pianolalaw1_WordNumbers.mono_l : ∀ k, (∀ y0, LeO (pianolalaw1_WordNumbers.l0 k y0) (pianolalaw1_WordNumbers.l0 (k + 1) y0)) ∧ (∀ y0 y1, LeO (pianolalaw1_WordNumbers.l1 k y0 y1) (pianolalaw1_WordNumbers.l1 (k + 1) y0 y1)) ∧ (∀ y0 y1, LeO (pianolalaw1_WordNumbers.l2 k y0 y1) (pianolalaw1_WordNumbers.l2 (k + 1) y0 y1))
  | 0 => ⟨fun _ r h => by simp [pianolalaw1_WordNumbers.l0] at h, fun _ _ r h => by simp [pianolalaw1_WordNumbers.l1] at h, fun _ _ r h => by simp [pianolalaw1_WordNumbers.l2] at h⟩
  | k + 1 => by
    obtain ⟨ih0, ih1, ih2⟩ := pianolalaw1_WordNumbers.mono_l k
    refine ⟨?_, ?_, ?_⟩
    · intro y0
      unfold pianolalaw1_WordNumbers.l0
      repeat' first
      | (with_reducible exact ih0 _)
      | (with_reducible exact ih1 _ _)
      | (with_reducible exact ih2 _ _)
      | (with_reducible exact pianolalaw1_same.mono _ _ _ _)
      | (with_reducible exact LeO.refl _)
      | (with_reducible exact LeO.none _)
      | (with_reducible refine LeO.ite ?_ ?_)
      | (with_reducible refine LeO.bind ?_ (fun _ => ?_))
      | exact ih0 _
      | exact ih1 _ _
      | exact ih2 _ _
      | exact pianolalaw1_same.mono _ _ _ _
      | exact LeO.none _
      | refine LeO.ite ?_ ?_
      | refine LeO.bind ?_ (fun _ => ?_)
    · intro y0 y1
      unfold pianolalaw1_WordNumbers.l1
      repeat' first
      | (with_reducible exact ih0 _)
      | (with_reducible exact ih1 _ _)
      | (with_reducible exact ih2 _ _)
      | (with_reducible exact pianolalaw1_same.mono _ _ _ _)
      | (with_reducible exact LeO.refl _)
      | (with_reducible exact LeO.none _)
      | (with_reducible refine LeO.ite ?_ ?_)
      | (with_reducible refine LeO.bind ?_ (fun _ => ?_))
      | exact ih0 _
      | exact ih1 _ _
      | exact ih2 _ _
      | exact pianolalaw1_same.mono _ _ _ _
      | exact LeO.none _
      | refine LeO.ite ?_ ?_
      | refine LeO.bind ?_ (fun _ => ?_)
    · intro y0 y1
      unfold pianolalaw1_WordNumbers.l2
      repeat' first
      | (with_reducible exact ih0 _)
      | (with_reducible exact ih1 _ _)
      | (with_reducible exact ih2 _ _)
      | (with_reducible exact pianolalaw1_same.mono _ _ _ _)
      | (with_reducible exact LeO.refl _)
      | (with_reducible exact LeO.none _)
      | (with_reducible refine LeO.ite ?_ ?_)
      | (with_reducible refine LeO.bind ?_ (fun _ => ?_))
      | exact ih0 _
      | exact ih1 _ _
      | exact ih2 _ _
      | exact pianolalaw1_same.mono _ _ _ _
      | exact LeO.none _
      | refine LeO.ite ?_ ?_
      | refine LeO.bind ?_ (fun _ => ?_)
theorem pianolalaw1_WordNumbers.mono : ∀ k, LeO (pianolalaw1_WordNumbers.f k ) (pianolalaw1_WordNumbers.f (k + 1) ) := by
  intro  k
  obtain ⟨ih0, ih1, ih2⟩ := pianolalaw1_WordNumbers.mono_l k
  unfold pianolalaw1_WordNumbers.f
  repeat' first
      | (with_reducible exact ih0 _)
      | (with_reducible exact ih1 _ _)
      | (with_reducible exact ih2 _ _)
      | (with_reducible exact pianolalaw1_same.mono _ _ _ _)
      | (with_reducible exact LeO.refl _)
      | (with_reducible exact LeO.none _)
      | (with_reducible refine LeO.ite ?_ ?_)
      | (with_reducible refine LeO.bind ?_ (fun _ => ?_))
      | exact ih0 _
      | exact ih1 _ _
      | exact ih2 _ _
      | exact pianolalaw1_same.mono _ _ _ _
      | exact LeO.none _
      | refine LeO.ite ?_ ?_
      | refine LeO.bind ?_ (fun _ => ?_)
set_option maxHeartbeats 8000000 in
set_option maxRecDepth 100000 in
theorem pianolalaw1_WordNumbers.calls (k : Nat)  (r : Bool) (w : World) (h : pianolalaw1_WordNumbers.f k  = some r) :
    Calls Try.prog 6 #[] w fun e w' => e = .returned (.bool r) ∧ Below w.heap.size w w' := by
  have HB := Aside0.mk (Below.refl w.heap.size w)
  have H : (pianolalaw1_WordNumbers.l0 k 0) = some r := h
  clear h
  have H' := Aside0.mk H
  clear H
  go_enter Try.func6, Try.ntmps6
  go_wp2
  go_loopg [1] k (fun kq v1 w' => ∃ (x1_1 : Int), v1 = .int .i64 x1_1 ∧ Aside0 (pianolalaw1_WordNumbers.l0 kq x1_1 = some r) ∧ Aside0 (kq ≤ k) ∧ Aside0 (Below w.heap.size w w'))
  case atStart => exact ⟨(0), (by first | rfl | (simp; done) | (simp [*]; done) | (simp; omega)), H', ⟨Nat.le_refl _⟩, ⟨by repeat (first | (with_reducible first | exact HB.out | apply below_alloc | apply pw_below_drewN | apply below_drew1) | exact HB.out)⟩⟩
  case round =>
    clear H'
    obtain ⟨x1_1, rfl, HA, HK1, HB⟩ := hrel
    cases gk with
    | zero => exact absurd HA.out (by simp [pianolalaw1_WordNumbers.l0])
    | succ k1 =>
      have H := HA.out
      clear HA
      simp only [pianolalaw1_WordNumbers.l0] at H
      by_cases c1 : x1_1 < 20
      · rw [if_pos c1] at H
        have c1b0 : decide (x1_1 < 20) = true := decide_eq_true c1
        clear c1
        have H' := Aside0.mk H
        clear H
        go_wp2
        go_loopg [2] k1 (fun kq v2 w' => ∃ (x2_2 : Int), v2 = .int .i64 x2_2 ∧ Aside0 (pianolalaw1_WordNumbers.l1 kq x1_1 x2_2 = some r) ∧ Aside0 (kq ≤ k1) ∧ Aside0 (Below w.heap.size w w'))
        case atStart => exact ⟨(0), (by first | rfl | (simp; done) | (simp [*]; done) | (simp; omega)), H', ⟨Nat.le_refl _⟩, ⟨by repeat (first | (with_reducible first | exact HB.out | apply below_alloc | apply pw_below_drewN | apply below_drew1) | exact HB.out)⟩⟩
        case round =>
          clear H'
          try clear c1
          try clear c1b0
          obtain ⟨x2_2, rfl, HA, HK2, HB⟩ := hrel
          cases gk with
          | zero => exact absurd HA.out (by simp [pianolalaw1_WordNumbers.l1])
          | succ k2 =>
            have H := HA.out
            clear HA
            simp only [pianolalaw1_WordNumbers.l1] at H
            by_cases c2 : x2_2 < 20
            · rw [if_pos c2] at H
              have c2b0 : decide (x2_2 < 20) = true := decide_eq_true c2
              clear c2
              replace H := Option.bind_eq_some_iff.mp H
              obtain ⟨t171, A30, H⟩ := H
              replace H : ((pianolalaw1_edge.f x2_2).bind fun t172 => ((pianolalaw1_same.f k2 t171 t172 (wrap64 (x1_1 + x2_2))).bind fun t173 => (if t173 = true then (pianolalaw1_WordNumbers.l1 k2 x1_1 (wrap64 (x2_2 + 1))) else (some false)))) = some r := H
              have A3 := Aside0.mk A30
              clear A30
              replace H := Option.bind_eq_some_iff.mp H
              obtain ⟨t172, A40, H⟩ := H
              replace H : ((pianolalaw1_same.f k2 t171 t172 (wrap64 (x1_1 + x2_2))).bind fun t173 => (if t173 = true then (pianolalaw1_WordNumbers.l1 k2 x1_1 (wrap64 (x2_2 + 1))) else (some false))) = some r := H
              have A4 := Aside0.mk A40
              clear A40
              replace H := Option.bind_eq_some_iff.mp H
              obtain ⟨t173, A50, H⟩ := H
              replace H : (if t173 = true then (pianolalaw1_WordNumbers.l1 k2 x1_1 (wrap64 (x2_2 + 1))) else (some false)) = some r := H
              have A5 := Aside0.mk A50
              clear A50
              by_cases c6 : t173 = true
              · subst c6
                have H1 : (pianolalaw1_WordNumbers.l1 k2 x1_1 (wrap64 (x2_2 + 1))) = some r := by rw [if_pos rfl] at H; exact H
                clear H
                have H := H1
                clear H1
                have H' := Aside0.mk H
                clear H
                go_wp2_with (first | ((with_reducible refine gate_callee (f := 18) rfl ?_); refine goesL_ (some 13) rfl rfl Try.func18 (by kernel_rfl) rfl #[.int .i64 x1_1] rfl (by (try simp only [List.map_toArray, List.map_cons, List.map_nil]); first | done | rfl | (simp only [List.length_drop, List.length_take]; rfl)) ?_; (with_reducible refine (pianolalaw1_edge.calls x1_1 t171 _ A3.out).mono ?_); rintro e w7 ⟨rfl, hb⟩; refine ⟨_, rfl, ?_⟩; have n0_ := Aside0.mk (below_step (by repeat (first | (with_reducible first | exact HB.out | apply below_alloc | apply pw_below_drewN | apply below_drew1) | exact HB.out)) hb); clear HB; have HB := n0_; clear n0_; (try clear hb); (try clear hb2); (try clear hk); (try clear hi)) | ((with_reducible refine gate_callee (f := 18) rfl ?_); refine goesL_ (some 15) rfl rfl Try.func18 (by kernel_rfl) rfl #[.int .i64 x2_2] rfl (by (try simp only [List.map_toArray, List.map_cons, List.map_nil]); first | done | rfl | (simp only [List.length_drop, List.length_take]; rfl)) ?_; (with_reducible refine (pianolalaw1_edge.calls x2_2 t172 _ A4.out).mono ?_); rintro e w8 ⟨rfl, hb⟩; refine ⟨_, rfl, ?_⟩; have n0_ := Aside0.mk (below_step (by repeat (first | (with_reducible first | exact HB.out | apply below_alloc | apply pw_below_drewN | apply below_drew1) | exact HB.out)) hb); clear HB; have HB := n0_; clear n0_; (try clear hb); (try clear hb2); (try clear hk); (try clear hi)) | ((with_reducible refine gate_callee (f := 17) rfl ?_); refine goesL_ (some 19) rfl rfl Try.func17 (by kernel_rfl) rfl #[.int .u32 t171, .int .u32 t172, .int .i64 (wrap64 (x1_1 + x2_2))] rfl (by (try simp only [List.map_toArray, List.map_cons, List.map_nil]); first | done | rfl | (simp only [List.length_drop, List.length_take]; rfl)) ?_; (with_reducible refine (pianolalaw1_same.calls k2 t171 t172 (wrap64 (x1_1 + x2_2)) true _ A5.out).mono ?_); rintro e w9 ⟨rfl, hb⟩; refine ⟨_, rfl, ?_⟩; have n0_ := Aside0.mk (below_step (by repeat (first | (with_reducible first | exact HB.out | apply below_alloc | apply pw_below_drewN | apply below_drew1) | exact HB.out)) hb); clear HB; have HB := n0_; clear n0_; (try clear hb); (try clear hb2); (try clear hk); (try clear hi)))
                go_roundg k2
                case measure => have := HK1.out; have := HK2.out; omega
                case rel => exact ⟨(wrap64 (x2_2 + 1)), (by first | rfl | (simp; done) | (simp [*]; done) | (simp; omega)), H', ⟨by have := HK1.out; have := HK2.out; omega⟩, ⟨by repeat (first | (with_reducible first | exact HB.out | apply below_alloc | apply pw_below_drewN | apply below_drew1) | exact HB.out)⟩⟩
              · replace c6 := Bool.eq_false_iff.mpr c6
                subst c6
                have H1 : (some false) = some r := by rw [if_neg (show ¬ (false = true) by decide)] at H; exact H
                clear H
                have H := H1
                clear H1
                obtain rfl := Option.some.inj H
                go_wp2_with (first | ((with_reducible refine gate_callee (f := 18) rfl ?_); refine goesL_ (some 13) rfl rfl Try.func18 (by kernel_rfl) rfl #[.int .i64 x1_1] rfl (by (try simp only [List.map_toArray, List.map_cons, List.map_nil]); first | done | rfl | (simp only [List.length_drop, List.length_take]; rfl)) ?_; (with_reducible refine (pianolalaw1_edge.calls x1_1 t171 _ A3.out).mono ?_); rintro e w10 ⟨rfl, hb⟩; refine ⟨_, rfl, ?_⟩; have n0_ := Aside0.mk (below_step (by repeat (first | (with_reducible first | exact HB.out | apply below_alloc | apply pw_below_drewN | apply below_drew1) | exact HB.out)) hb); clear HB; have HB := n0_; clear n0_; (try clear hb); (try clear hb2); (try clear hk); (try clear hi)) | ((with_reducible refine gate_callee (f := 18) rfl ?_); refine goesL_ (some 15) rfl rfl Try.func18 (by kernel_rfl) rfl #[.int .i64 x2_2] rfl (by (try simp only [List.map_toArray, List.map_cons, List.map_nil]); first | done | rfl | (simp only [List.length_drop, List.length_take]; rfl)) ?_; (with_reducible refine (pianolalaw1_edge.calls x2_2 t172 _ A4.out).mono ?_); rintro e w11 ⟨rfl, hb⟩; refine ⟨_, rfl, ?_⟩; have n0_ := Aside0.mk (below_step (by repeat (first | (with_reducible first | exact HB.out | apply below_alloc | apply pw_below_drewN | apply below_drew1) | exact HB.out)) hb); clear HB; have HB := n0_; clear n0_; (try clear hb); (try clear hb2); (try clear hk); (try clear hi)) | ((with_reducible refine gate_callee (f := 17) rfl ?_); refine goesL_ (some 19) rfl rfl Try.func17 (by kernel_rfl) rfl #[.int .u32 t171, .int .u32 t172, .int .i64 (wrap64 (x1_1 + x2_2))] rfl (by (try simp only [List.map_toArray, List.map_cons, List.map_nil]); first | done | rfl | (simp only [List.length_drop, List.length_take]; rfl)) ?_; (with_reducible refine (pianolalaw1_same.calls k2 t171 t172 (wrap64 (x1_1 + x2_2)) false _ A5.out).mono ?_); rintro e w12 ⟨rfl, hb⟩; refine ⟨_, rfl, ?_⟩; have n0_ := Aside0.mk (below_step (by repeat (first | (with_reducible first | exact HB.out | apply below_alloc | apply pw_below_drewN | apply below_drew1) | exact HB.out)) hb); clear HB; have HB := n0_; clear n0_; (try clear hb); (try clear hb2); (try clear hk); (try clear hi)))
                go_ret
                exact ⟨by first | rfl | (simp [errW_none, errW_some] <;> rfl) | (simp [*, errW_none, errW_some] <;> rfl), by repeat (first | (with_reducible first | exact HB.out | apply below_alloc | apply pw_below_drewN | apply below_drew1) | exact HB.out)⟩
            · rw [if_neg c2] at H
              have c2b0 : decide (x2_2 < 20) = false := decide_eq_false c2
              clear c2
              have H' := Aside0.mk H
              clear H
              go_wp2
              go_loopg [3] k2 (fun kq v3 w' => ∃ (x3_3 : Int), v3 = .int .i64 x3_3 ∧ Aside0 (pianolalaw1_WordNumbers.l2 kq x1_1 x3_3 = some r) ∧ Aside0 (kq ≤ k2) ∧ Aside0 (Below w.heap.size w w'))
              case atStart => exact ⟨((-40)), (by first | rfl | (simp; done) | (simp [*]; done) | (simp; omega)), H', ⟨Nat.le_refl _⟩, ⟨by repeat (first | (with_reducible first | exact HB.out | apply below_alloc | apply pw_below_drewN | apply below_drew1) | exact HB.out)⟩⟩
              case round =>
                clear H'
                try clear c1
                try clear c1b0
                try clear c2
                try clear c2b0
                try clear p2
                try clear c6
                try clear p6
                obtain ⟨x3_3, rfl, HA, HK3, HB⟩ := hrel
                cases gk with
                | zero => exact absurd HA.out (by simp [pianolalaw1_WordNumbers.l2])
                | succ k3 =>
                  have H := HA.out
                  clear HA
                  simp only [pianolalaw1_WordNumbers.l2] at H
                  by_cases c13 : x3_3 < 70
                  · rw [if_pos c13] at H
                    have c13b0 : decide (x3_3 < 70) = true := decide_eq_true c13
                    clear c13
                    replace H := Option.bind_eq_some_iff.mp H
                    obtain ⟨t174, A140, H⟩ := H
                    replace H : ((pianolalaw1_same.f k3 t174 5 x3_3).bind fun t175 => (if t175 = true then (pianolalaw1_WordNumbers.l2 k3 x1_1 (wrap64 (x3_3 + 1))) else (some false))) = some r := H
                    have A14 := Aside0.mk A140
                    clear A140
                    replace H := Option.bind_eq_some_iff.mp H
                    obtain ⟨t175, A150, H⟩ := H
                    replace H : (if t175 = true then (pianolalaw1_WordNumbers.l2 k3 x1_1 (wrap64 (x3_3 + 1))) else (some false)) = some r := H
                    have A15 := Aside0.mk A150
                    clear A150
                    by_cases c16 : t175 = true
                    · subst c16
                      have H1 : (pianolalaw1_WordNumbers.l2 k3 x1_1 (wrap64 (x3_3 + 1))) = some r := by rw [if_pos rfl] at H; exact H
                      clear H
                      have H := H1
                      clear H1
                      have H' := Aside0.mk H
                      clear H
                      go_wp2_with (first | ((with_reducible refine gate_callee (f := 18) rfl ?_); refine goesL_ (some 26) rfl rfl Try.func18 (by kernel_rfl) rfl #[.int .i64 x1_1] rfl (by (try simp only [List.map_toArray, List.map_cons, List.map_nil]); first | done | rfl | (simp only [List.length_drop, List.length_take]; rfl)) ?_; (with_reducible refine (pianolalaw1_edge.calls x1_1 t174 _ A14.out).mono ?_); rintro e w17 ⟨rfl, hb⟩; refine ⟨_, rfl, ?_⟩; have n0_ := Aside0.mk (below_step (by repeat (first | (with_reducible first | exact HB.out | apply below_alloc | apply pw_below_drewN | apply below_drew1) | exact HB.out)) hb); clear HB; have HB := n0_; clear n0_; (try clear hb); (try clear hb2); (try clear hk); (try clear hi)) | ((with_reducible refine gate_callee (f := 17) rfl ?_); refine goesL_ (some 28) rfl rfl Try.func17 (by kernel_rfl) rfl #[.int .u32 t174, .int .u32 5, .int .i64 x3_3] rfl (by (try simp only [List.map_toArray, List.map_cons, List.map_nil]); first | done | rfl | (simp only [List.length_drop, List.length_take]; rfl)) ?_; (with_reducible refine (pianolalaw1_same.calls k3 t174 5 x3_3 true _ A15.out).mono ?_); rintro e w18 ⟨rfl, hb⟩; refine ⟨_, rfl, ?_⟩; have n0_ := Aside0.mk (below_step (by repeat (first | (with_reducible first | exact HB.out | apply below_alloc | apply pw_below_drewN | apply below_drew1) | exact HB.out)) hb); clear HB; have HB := n0_; clear n0_; (try clear hb); (try clear hb2); (try clear hk); (try clear hi)))
                      go_roundg k3
                      case measure => have := HK1.out; have := HK2.out; have := HK3.out; omega
                      case rel => exact ⟨(wrap64 (x3_3 + 1)), (by first | rfl | (simp; done) | (simp [*]; done) | (simp; omega)), H', ⟨by have := HK1.out; have := HK2.out; have := HK3.out; omega⟩, ⟨by repeat (first | (with_reducible first | exact HB.out | apply below_alloc | apply pw_below_drewN | apply below_drew1) | exact HB.out)⟩⟩
                    · replace c16 := Bool.eq_false_iff.mpr c16
                      subst c16
                      have H1 : (some false) = some r := by rw [if_neg (show ¬ (false = true) by decide)] at H; exact H
                      clear H
                      have H := H1
                      clear H1
                      obtain rfl := Option.some.inj H
                      go_wp2_with (first | ((with_reducible refine gate_callee (f := 18) rfl ?_); refine goesL_ (some 26) rfl rfl Try.func18 (by kernel_rfl) rfl #[.int .i64 x1_1] rfl (by (try simp only [List.map_toArray, List.map_cons, List.map_nil]); first | done | rfl | (simp only [List.length_drop, List.length_take]; rfl)) ?_; (with_reducible refine (pianolalaw1_edge.calls x1_1 t174 _ A14.out).mono ?_); rintro e w19 ⟨rfl, hb⟩; refine ⟨_, rfl, ?_⟩; have n0_ := Aside0.mk (below_step (by repeat (first | (with_reducible first | exact HB.out | apply below_alloc | apply pw_below_drewN | apply below_drew1) | exact HB.out)) hb); clear HB; have HB := n0_; clear n0_; (try clear hb); (try clear hb2); (try clear hk); (try clear hi)) | ((with_reducible refine gate_callee (f := 17) rfl ?_); refine goesL_ (some 28) rfl rfl Try.func17 (by kernel_rfl) rfl #[.int .u32 t174, .int .u32 5, .int .i64 x3_3] rfl (by (try simp only [List.map_toArray, List.map_cons, List.map_nil]); first | done | rfl | (simp only [List.length_drop, List.length_take]; rfl)) ?_; (with_reducible refine (pianolalaw1_same.calls k3 t174 5 x3_3 false _ A15.out).mono ?_); rintro e w20 ⟨rfl, hb⟩; refine ⟨_, rfl, ?_⟩; have n0_ := Aside0.mk (below_step (by repeat (first | (with_reducible first | exact HB.out | apply below_alloc | apply pw_below_drewN | apply below_drew1) | exact HB.out)) hb); clear HB; have HB := n0_; clear n0_; (try clear hb); (try clear hb2); (try clear hk); (try clear hi)))
                      go_ret
                      exact ⟨by first | rfl | (simp [errW_none, errW_some] <;> rfl) | (simp [*, errW_none, errW_some] <;> rfl), by repeat (first | (with_reducible first | exact HB.out | apply below_alloc | apply pw_below_drewN | apply below_drew1) | exact HB.out)⟩
                  · rw [if_neg c13] at H
                    have c13b0 : decide (x3_3 < 70) = false := decide_eq_false c13
                    clear c13
                    have H' := Aside0.mk H
                    clear H
                    go_wp2
                    go_roundg k3
                    case measure => have := HK1.out; have := HK2.out; have := HK3.out; omega
                    case rel => exact ⟨(wrap64 (x1_1 + 1)), (by first | rfl | (simp; done) | (simp [*]; done) | (simp; omega)), H', ⟨by have := HK1.out; have := HK2.out; have := HK3.out; omega⟩, ⟨by repeat (first | (with_reducible first | exact HB.out | apply below_alloc | apply pw_below_drewN | apply below_drew1) | exact HB.out)⟩⟩
      · rw [if_neg c1] at H
        have c1b0 : decide (x1_1 < 20) = false := decide_eq_false c1
        clear c1
        replace H := Option.bind_eq_some_iff.mp H
        obtain ⟨t170, A210, H⟩ := H
        replace H : (some t170) = some r := H
        have A21 := Aside0.mk A210
        clear A210
        obtain rfl := Option.some.inj H
        go_wp2_with (first | ((with_reducible refine gate_callee (f := 12) rfl ?_); refine goesL_ (some 30) rfl rfl Try.func12 (by kernel_rfl) rfl #[] rfl (by (try simp only [List.map_toArray, List.map_cons, List.map_nil]); first | done | rfl | (simp only [List.length_drop, List.length_take]; rfl)) ?_; (with_reducible refine (pianolalaw1_known.calls  t170 _ A21.out).mono ?_); rintro e w' ⟨rfl, ⟨nd, rfl⟩⟩; refine ⟨_, rfl, ?_⟩) | (go_at_call 12; (with_reducible refine (pianolalaw1_known.calls  t170 _ A21.out).mono ?_); rintro e w' ⟨rfl, ⟨nd, rfl⟩⟩))
        go_ret
        exact ⟨by first | rfl | (simp [errW_none, errW_some] <;> rfl) | (simp [*, errW_none, errW_some] <;> rfl), by repeat (first | (with_reducible first | exact HB.out | apply below_alloc | apply pw_below_drewN | apply below_drew1) | exact HB.out)⟩

/-- THE ONE PURE STATEMENT of pianolalaw1_WordNumbers: yours. -/
def pianolalaw1_WordNumbers.Pure : Prop := ∃ k, pianolalaw1_WordNumbers.f k  = some true
theorem pianolalaw1_WordNumbers.walk (P : pianolalaw1_WordNumbers.Pure)  (w : World)  :
    Calls Try.prog 6 #[] w fun e w' => e = .returned (.bool true) ∧ Below w.heap.size w w' := by
  obtain ⟨k, h⟩ := P  
  refine (pianolalaw1_WordNumbers.calls k  true w h).mono ?_
  rintro e w' ⟨rfl, hd⟩
  exact ⟨rfl, hd⟩

end Go.Proofs.Ytdagmhgmegpdpaa.Q
