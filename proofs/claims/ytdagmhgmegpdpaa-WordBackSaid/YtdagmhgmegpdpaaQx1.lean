-- Written by a program of this session: a turned copy of the kit's print (wip/print/fork.py), whose words lie beside.
import Derived.Test.YtdagmhgmegpdpaaQx0
namespace Go.Proofs.Ytdagmhgmegpdpaa.Q
open Go.RowKit Go.Proofs.YtdagmhgmegpdpaaW.PrintWords Go.Proofs.YtdagmhgmegpdpaaW.PrintLast Go.Proofs.YtdagmhgmegpdpaaW.PrintMore
attribute [local go_sem] max2_int min2_int max_two min_two max_three min_three max_four min_four   -- for this text's walks alone
set_option linter.unusedVariables false
set_option linter.unusedSimpArgs false

/-! ### bits_Len32: function 28 (by hand) -/
def bits_Len32.f (a0 : Int) : Option Int := if 0 ≤ a0 then (if a0 ≤ 4294967295 then some (Lib.bitLen a0.toNat : Int) else none) else none
theorem bits_Len32.calls (a0 : Int) (r : Int) (w : World) (h : bits_Len32.f a0 = some r) :
    Calls Try.prog 28 #[.int .u32 a0] w fun e w' => e = .returned (.int .i64 r) ∧ Drawn0 w w' := by
  unfold bits_Len32.f at h
  by_cases c : 0 ≤ a0
  · rw [if_pos c] at h
    by_cases c1 : a0 ≤ 4294967295
    · rw [if_pos c1] at h
      obtain rfl := Option.some.inj h
      exact (Go.Proofs.Ytdagmhgmegpdpaa.Bits.bits_Len32 a0 w c c1).mono fun e w' hh => ⟨hh.1, by rw [hh.2]; exact Drawn0.refl _⟩
    · rw [if_neg c1] at h
      exact absurd h (by simp)
  · rw [if_neg c] at h
    exact absurd h (by simp)

/-! ### bits_LeadingZeros32: function 19 (by hand) -/
def bits_LeadingZeros32.f (a0 : Int) : Option Int := if 0 ≤ a0 then (if a0 ≤ 4294967295 then some (32 - (Lib.bitLen a0.toNat : Int)) else none) else none
theorem bits_LeadingZeros32.calls (a0 : Int) (r : Int) (w : World) (h : bits_LeadingZeros32.f a0 = some r) :
    Calls Try.prog 19 #[.int .u32 a0] w fun e w' => e = .returned (.int .i64 r) ∧ Drawn0 w w' := by
  unfold bits_LeadingZeros32.f at h
  by_cases c : 0 ≤ a0
  · rw [if_pos c] at h
    by_cases c1 : a0 ≤ 4294967295
    · rw [if_pos c1] at h
      obtain rfl := Option.some.inj h
      exact (Go.Proofs.Ytdagmhgmegpdpaa.Bits.bits_LeadingZeros32 a0 w c c1).mono fun e w' hh => ⟨hh.1, by rw [hh.2]; exact Drawn0.refl _⟩
    · rw [if_neg c1] at h
      exact absurd h (by simp)
  · rw [if_neg c] at h
    exact absurd h (by simp)

/-! ### word_Clz: function 8 -/
def word_Clz.f (a0 : Int) : Option (Int) := (bits_LeadingZeros32.f a0).bind fun t101 => (some t101)
set_option maxHeartbeats 8000000 in
set_option maxRecDepth 100000 in
theorem word_Clz.calls (a0 : Int) (r : Int) (w : World) (h : word_Clz.f a0 = some r) :
    Calls Try.prog 8 #[.int .u32 a0] w fun e w' => e = .returned (.int .i64 r) ∧ Drawn0 w w' := by
  have H : ((bits_LeadingZeros32.f a0).bind fun t101 => (some t101)) = some r := h
  clear h
  replace H := Option.bind_eq_some_iff.mp H
  obtain ⟨t101, A20, H⟩ := H
  replace H : (some t101) = some r := H
  have A2 := Aside0.mk A20
  clear A20
  obtain rfl := Option.some.inj H
  go_enter Try.func8, Try.ntmps8
  go_wp2_with (first | ((with_reducible refine gate_callee (f := 19) rfl ?_); refine goesL_ (some 4) rfl rfl Try.func19 (by kernel_rfl) rfl #[.int .u32 a0] rfl (by (try simp only [List.map_toArray, List.map_cons, List.map_nil]); first | done | rfl | (simp only [List.length_drop, List.length_take]; rfl)) ?_; (with_reducible refine (bits_LeadingZeros32.calls a0 t101 _ A2.out).mono ?_); rintro e w' ⟨rfl, ⟨nd, rfl⟩⟩; refine ⟨_, rfl, ?_⟩) | (go_at_call 19; (with_reducible refine (bits_LeadingZeros32.calls a0 t101 _ A2.out).mono ?_); rintro e w' ⟨rfl, ⟨nd, rfl⟩⟩))
  go_ret
  exact ⟨by first | rfl | (simp; done) | (simp [*]; done) | (simp; omega), by repeat (first | exact Drawn0.refl _ | apply Drawn0.step)⟩

/-! ### word_Clo: function 9 -/
def word_Clo.f (a0 : Int) : Option (Int) := (bits_LeadingZeros32.f (Go.bits .xor .u32 IntKind.u32.max a0)).bind fun t102 => (some t102)
set_option maxHeartbeats 8000000 in
set_option maxRecDepth 100000 in
theorem word_Clo.calls (a0 : Int) (r : Int) (w : World) (h : word_Clo.f a0 = some r) :
    Calls Try.prog 9 #[.int .u32 a0] w fun e w' => e = .returned (.int .i64 r) ∧ Drawn0 w w' := by
  have H : ((bits_LeadingZeros32.f (Go.bits .xor .u32 IntKind.u32.max a0)).bind fun t102 => (some t102)) = some r := h
  clear h
  replace H := Option.bind_eq_some_iff.mp H
  obtain ⟨t102, A20, H⟩ := H
  replace H : (some t102) = some r := H
  have A2 := Aside0.mk A20
  clear A20
  obtain rfl := Option.some.inj H
  go_enter Try.func9, Try.ntmps9
  go_wp2_with (first | ((with_reducible refine gate_callee (f := 19) rfl ?_); refine goesL_ (some 5) rfl rfl Try.func19 (by kernel_rfl) rfl #[.int .u32 (Go.bits .xor .u32 IntKind.u32.max a0)] rfl (by (try simp only [List.map_toArray, List.map_cons, List.map_nil]); first | done | rfl | (simp only [List.length_drop, List.length_take]; rfl)) ?_; (with_reducible refine (bits_LeadingZeros32.calls (Go.bits .xor .u32 IntKind.u32.max a0) t102 _ A2.out).mono ?_); rintro e w' ⟨rfl, ⟨nd, rfl⟩⟩; refine ⟨_, rfl, ?_⟩) | (go_at_call 19; (with_reducible refine (bits_LeadingZeros32.calls (Go.bits .xor .u32 IntKind.u32.max a0) t102 _ A2.out).mono ?_); rintro e w' ⟨rfl, ⟨nd, rfl⟩⟩))
  go_ret
  exact ⟨by first | rfl | (simp; done) | (simp [*]; done) | (simp; omega), by repeat (first | exact Drawn0.refl _ | apply Drawn0.step)⟩

/-! ### word_Sar: function 10 -/
def word_Sar.f (a0 : Int) (a1 : Int) : Option (Int) := if 0 ≤ (Go.bits .and .i64 a1 31) then (some ((shr .i32 (wrap32 (a0)) (Go.bits .and .i64 a1 31)) % 4294967296)) else (none)
set_option maxHeartbeats 8000000 in
set_option maxRecDepth 100000 in
theorem word_Sar.calls (a0 : Int) (a1 : Int) (r : Int) (w : World) (h : word_Sar.f a0 a1 = some r) :
    Calls Try.prog 10 #[.int .u32 a0, .int .i64 a1] w fun e w' => e = .returned (.int .u32 r) ∧ Drawn0 w w' := by
  have H : (if 0 ≤ (Go.bits .and .i64 a1 31) then (some ((shr .i32 (wrap32 (a0)) (Go.bits .and .i64 a1 31)) % 4294967296)) else (none)) = some r := h
  clear h
  by_cases c3 : 0 ≤ (Go.bits .and .i64 a1 31)
  · rw [if_pos c3] at H
    have c3b0 := eq_true c3
    have c3b1 : decide (0 ≤ (Go.bits .and .i64 a1 31)) = true := decide_eq_true c3
    clear c3
    obtain ⟨ji4, hji4⟩ : ∃ j_ : Int, (shr .i32 (wrap32 (a0)) (Go.bits .and .i64 a1 31)) = j_ := ⟨_, rfl⟩
    replace H : (some ((ji4) % 4294967296)) = some r := by first | (rw [hji4] at H; exact H) | (simp only [hji4] at H ⊢; exact H)
    have hji4_ : ((wrap32 (a0)) / 2 ^ min (Go.bits .and .i64 a1 31).toNat 32) = ji4 := hji4
    have hji4z : (Go.bits .and .i64 a1 31) ≤ 32 → ((wrap32 (a0)) / 2 ^ (Go.bits .and .i64 a1 31).toNat) = ji4 := shr_small hji4
    obtain rfl := Option.some.inj H
    go_enter Try.func10, Try.ntmps10
    go_wp2
    go_ret
    exact ⟨by first | rfl | (simp; done) | (simp only [← hji4] <;> (first | rfl | simp)) | (simp [*]; done), by repeat (first | exact Drawn0.refl _ | apply Drawn0.step)⟩
  · rw [if_neg c3] at H
    exact absurd H (by simp)

/-! ### word_Sign: function 11 -/
def word_Sign.f (a0 : Int) (a1 : Int) : Option (Int) := if a1 < 1 then (some 0) else (if a1 > 31 then (some a0) else (if 0 ≤ (wrap64 (32 - a1)) then ((word_Sar.f (shl .u32 a0 (wrap64 (32 - a1))) (wrap64 (32 - a1))).bind fun t103 => (some t103)) else (none)))
set_option maxHeartbeats 8000000 in
set_option maxRecDepth 100000 in
theorem word_Sign.calls (a0 : Int) (a1 : Int) (r : Int) (w : World) (h : word_Sign.f a0 a1 = some r) :
    Calls Try.prog 11 #[.int .u32 a0, .int .i64 a1] w fun e w' => e = .returned (.int .u32 r) ∧ Drawn0 w w' := by
  have H : (if a1 < 1 then (some 0) else (if a1 > 31 then (some a0) else (if 0 ≤ (wrap64 (32 - a1)) then ((word_Sar.f (shl .u32 a0 (wrap64 (32 - a1))) (wrap64 (32 - a1))).bind fun t103 => (some t103)) else (none)))) = some r := h
  clear h
  by_cases c3 : a1 < 1
  · rw [if_pos c3] at H
    have c3b0 : decide (a1 < 1) = true := decide_eq_true c3
    clear c3
    obtain rfl := Option.some.inj H
    go_enter Try.func11, Try.ntmps11
    go_wp2
    go_ret
    exact ⟨by first | rfl | (simp; done) | (simp [*]; done) | (simp; omega), by repeat (first | exact Drawn0.refl _ | apply Drawn0.step)⟩
  · rw [if_neg c3] at H
    have c3b0 : decide (a1 < 1) = false := decide_eq_false c3
    clear c3
    by_cases c4 : a1 > 31
    · rw [if_pos c4] at H
      have c4b0 : decide (31 < a1) = true := decide_eq_true c4
      clear c4
      obtain rfl := Option.some.inj H
      go_enter Try.func11, Try.ntmps11
      go_wp2
      go_ret
      exact ⟨by first | rfl | (simp; done) | (simp [*]; done) | (simp; omega), by repeat (first | exact Drawn0.refl _ | apply Drawn0.step)⟩
    · rw [if_neg c4] at H
      have c4b0 : decide (31 < a1) = false := decide_eq_false c4
      clear c4
      obtain ⟨ji5, hji5⟩ : ∃ j_ : Int, (wrap64 (32 - a1)) = j_ := ⟨_, rfl⟩
      replace H : (if 0 ≤ (ji5) then ((word_Sar.f (shl .u32 a0 (ji5)) (ji5)).bind fun t103 => (some t103)) else (none)) = some r := by first | (rw [hji5] at H; exact H) | (simp only [hji5] at H ⊢; exact H)
      have hji5w : (IntKind.i64.wrap (32 - a1)) = ji5 := (i64_w _).trans hji5
      by_cases c6 : 0 ≤ (ji5)
      · rw [if_pos c6] at H
        have c6b0 := eq_true c6
        have c6b1 : decide (0 ≤ (ji5)) = true := decide_eq_true c6
        clear c6
        obtain ⟨ji7, hji7⟩ : ∃ j_ : Int, (shl .u32 a0 (ji5)) = j_ := ⟨_, rfl⟩
        replace H : ((word_Sar.f (ji7) (ji5)).bind fun t103 => (some t103)) = some r := by first | (rw [hji7] at H; exact H) | (simp only [hji7] at H ⊢; exact H)
        have hji7_ : (IntKind.u32.wrap (a0 * 2 ^ min (ji5).toNat 32)) = ji7 := hji7
        have hji7z : (ji5) ≤ 32 → (IntKind.u32.wrap (a0 * 2 ^ (ji5).toNat)) = ji7 := shl_small hji7
        replace H := Option.bind_eq_some_iff.mp H
        obtain ⟨t103, A80, H⟩ := H
        replace H : (some t103) = some r := H
        have A8 := Aside0.mk A80
        clear A80
        obtain rfl := Option.some.inj H
        go_enter Try.func11, Try.ntmps11
        go_wp2_with (first | ((with_reducible refine gate_callee (f := 10) rfl ?_); refine goesL_ (some 18) rfl rfl Try.func10 (by kernel_rfl) rfl #[.int .u32 ji7, .int .i64 ji5] rfl (by (try simp only [List.map_toArray, List.map_cons, List.map_nil]); first | done | (simp only [hji5, hji7]; rfl) | rfl | (simp only [List.length_drop, List.length_take]; rfl)) ?_; (with_reducible refine (word_Sar.calls ji7 ji5 t103 _ A8.out).mono ?_); rintro e w' ⟨rfl, ⟨nd, rfl⟩⟩; refine ⟨_, rfl, ?_⟩) | (go_at_call 10; (with_reducible refine (word_Sar.calls ji7 ji5 t103 _ A8.out).mono ?_); rintro e w' ⟨rfl, ⟨nd, rfl⟩⟩))
        go_ret
        exact ⟨by first | rfl | (simp; done) | (simp only [← hji5, ← hji7] <;> (first | rfl | simp)) | (simp [*]; done), by repeat (first | exact Drawn0.refl _ | apply Drawn0.step)⟩
      · rw [if_neg c6] at H
        exact absurd H (by simp)

/-! ### word_Over: function 14 -/
def word_Over.f (a0 : Int) (a1 : Int) (a2 : Bool) : Option (Bool) := if a2 = true then (some ((wrap64 ((wrap64 (wrap32 (a0))) - (wrap64 (wrap32 (a1))))) != (wrap64 (wrap32 (wrap64 ((wrap64 (wrap32 (a0))) - (wrap64 (wrap32 (a1))))))))) else (some ((wrap64 ((wrap64 (wrap32 (a0))) + (wrap64 (wrap32 (a1))))) != (wrap64 (wrap32 (wrap64 ((wrap64 (wrap32 (a0))) + (wrap64 (wrap32 (a1)))))))))
set_option maxHeartbeats 8000000 in
set_option maxRecDepth 100000 in
theorem word_Over.calls (a0 : Int) (a1 : Int) (a2 : Bool) (r : Bool) (w : World) (h : word_Over.f a0 a1 a2 = some r) :
    Calls Try.prog 14 #[.int .u32 a0, .int .u32 a1, .bool a2] w fun e w' => e = .returned (.bool r) ∧ Drawn0 w w' := by
  have H : (if a2 = true then (some ((wrap64 ((wrap64 (wrap32 (a0))) - (wrap64 (wrap32 (a1))))) != (wrap64 (wrap32 (wrap64 ((wrap64 (wrap32 (a0))) - (wrap64 (wrap32 (a1))))))))) else (some ((wrap64 ((wrap64 (wrap32 (a0))) + (wrap64 (wrap32 (a1))))) != (wrap64 (wrap32 (wrap64 ((wrap64 (wrap32 (a0))) + (wrap64 (wrap32 (a1)))))))))) = some r := h
  clear h
  by_cases c4 : a2 = true
  · subst c4
    have H1 : (some ((wrap64 ((wrap64 (wrap32 (a0))) - (wrap64 (wrap32 (a1))))) != (wrap64 (wrap32 (wrap64 ((wrap64 (wrap32 (a0))) - (wrap64 (wrap32 (a1))))))))) = some r := by rw [if_pos rfl] at H; exact H
    clear H
    have H := H1
    clear H1
    obtain rfl := Option.some.inj H
    go_enter Try.func14, Try.ntmps14
    go_wp2
    go_ret
    exact ⟨by first | rfl | (simp; done) | (simp [*]; done) | (simp; omega), by repeat (first | exact Drawn0.refl _ | apply Drawn0.step)⟩
  · replace c4 := Bool.eq_false_iff.mpr c4
    subst c4
    have H1 : (some ((wrap64 ((wrap64 (wrap32 (a0))) + (wrap64 (wrap32 (a1))))) != (wrap64 (wrap32 (wrap64 ((wrap64 (wrap32 (a0))) + (wrap64 (wrap32 (a1))))))))) = some r := by rw [if_neg (show ¬ (false = true) by decide)] at H; exact H
    clear H
    have H := H1
    clear H1
    obtain rfl := Option.some.inj H
    go_enter Try.func14, Try.ntmps14
    go_wp2
    go_ret
    exact ⟨by first | rfl | (simp; done) | (simp [*]; done) | (simp; omega), by repeat (first | exact Drawn0.refl _ | apply Drawn0.step)⟩

/-! ### word_Div: function 15 -/
def word_Div.f (a0 : Int) (a1 : Int) (a2 : Bool) : Option (Int × Int) := if a1 = 0 then (some (4294967295, a0)) else (if a2 = true then (if (wrap64 (wrap32 (a1))) = 0 then (none) else (some ((wrap64 (Int.tdiv (wrap64 (wrap32 (a0))) (wrap64 (wrap32 (a1))))) % 4294967296, (Int.tmod (wrap64 (wrap32 (a0))) (wrap64 (wrap32 (a1)))) % 4294967296))) else (some ((Int.tdiv a0 a1) % 4294967296, Int.tmod a0 a1)))
set_option maxHeartbeats 8000000 in
set_option maxRecDepth 100000 in
theorem word_Div.calls (a0 : Int) (a1 : Int) (a2 : Bool) (r1 : Int) (r2 : Int) (w : World) (h : word_Div.f a0 a1 a2 = some (r1, r2)) :
    Calls Try.prog 15 #[.int .u32 a0, .int .u32 a1, .bool a2] w fun e w' => e = .returned (.tuple #[.int .u32 r1, .int .u32 r2]) ∧ Drawn0 w w' := by
  have H : (if a1 = 0 then (some (4294967295, a0)) else (if a2 = true then (if (wrap64 (wrap32 (a1))) = 0 then (none) else (some ((wrap64 (Int.tdiv (wrap64 (wrap32 (a0))) (wrap64 (wrap32 (a1))))) % 4294967296, (Int.tmod (wrap64 (wrap32 (a0))) (wrap64 (wrap32 (a1)))) % 4294967296))) else (some ((Int.tdiv a0 a1) % 4294967296, Int.tmod a0 a1)))) = some (r1, r2) := h
  clear h
  by_cases c4 : a1 = 0
  · rw [if_pos c4] at H
    have c4b0 : (a1 == 0) = true := beq_iff_eq.mpr c4
    have c4b1 : (a1 != 0) = false := bne_eq_false_iff_eq.mpr c4
    clear c4
    simp only [Option.some.injEq, Prod.mk.injEq] at H
    obtain ⟨rfl, rfl⟩ := H
    go_enter Try.func15, Try.ntmps15
    go_wp2
    repeat (go_quiet (fail); try go_wp2)
    go_ret2
    exact ⟨by first | rfl | (simp; done) | (simp [*]; done) | (simp; omega), by repeat (first | exact Drawn0.refl _ | apply Drawn0.step)⟩
  · rw [if_neg c4] at H
    have c4b0 : (a1 == 0) = false := beq_eq_false_iff_ne.mpr c4
    have c4b1 : (a1 != 0) = true := bne_iff_ne.mpr c4
    by_cases c5 : a2 = true
    · subst c5
      have H1 : (if (wrap64 (wrap32 (a1))) = 0 then (none) else (some ((wrap64 (Int.tdiv (wrap64 (wrap32 (a0))) (wrap64 (wrap32 (a1))))) % 4294967296, (Int.tmod (wrap64 (wrap32 (a0))) (wrap64 (wrap32 (a1)))) % 4294967296))) = some (r1, r2) := by rw [if_pos rfl] at H; exact H
      clear H
      have H := H1
      clear H1
      by_cases c6 : (wrap64 (wrap32 (a1))) = 0
      · rw [if_pos c6] at H
        exact absurd H (by simp)
      · rw [if_neg c6] at H
        have c6b0 : ((wrap64 (wrap32 (a1))) == 0) = false := beq_eq_false_iff_ne.mpr c6
        have c6b1 : ((wrap64 (wrap32 (a1))) != 0) = true := bne_iff_ne.mpr c6
        simp only [Option.some.injEq, Prod.mk.injEq] at H
        obtain ⟨rfl, rfl⟩ := H
        go_enter Try.func15, Try.ntmps15
        go_wp2
        repeat (go_quiet (fail); try go_wp2)
        go_ret2
        exact ⟨by first | rfl | (simp; done) | (simp [*]; done) | (simp; omega), by repeat (first | exact Drawn0.refl _ | apply Drawn0.step)⟩
    · replace c5 := Bool.eq_false_iff.mpr c5
      subst c5
      have H1 : (some ((Int.tdiv a0 a1) % 4294967296, Int.tmod a0 a1)) = some (r1, r2) := by rw [if_neg (show ¬ (false = true) by decide)] at H; exact H
      clear H
      have H := H1
      clear H1
      simp only [Option.some.injEq, Prod.mk.injEq] at H
      obtain ⟨rfl, rfl⟩ := H
      go_enter Try.func15, Try.ntmps15
      go_wp2
      repeat (go_quiet (fail); try go_wp2)
      go_ret2
      exact ⟨by first | rfl | (simp; done) | (simp [*]; done) | (simp; omega), by repeat (first | exact Drawn0.refl _ | apply Drawn0.step)⟩

/-! ### pianolalaw1_known: function 12 -/
def pianolalaw1_known.f  : Option (Bool) := (word_Div.f 7 0 false).bind fun bt104 => (if bt104.1 = 4294967295 then (if bt104.2 = 7 then ((word_Clz.f 1).bind fun t106 => (if t106 = 31 then ((word_Over.f 2147483647 1 false).bind fun t107 => (if t107 = true then ((word_Sign.f 255 8).bind fun t108 => (some (t108 == 4294967295))) else (some false))) else (some false))) else (some false)) else (some false))
set_option maxHeartbeats 8000000 in
set_option maxRecDepth 100000 in
theorem pianolalaw1_known.calls  (r : Bool) (w : World) (h : pianolalaw1_known.f  = some r) :
    Calls Try.prog 12 #[] w fun e w' => e = .returned (.bool r) ∧ Drawn0 w w' := by
  have H : ((word_Div.f 7 0 false).bind fun bt104 => (if bt104.1 = 4294967295 then (if bt104.2 = 7 then ((word_Clz.f 1).bind fun t106 => (if t106 = 31 then ((word_Over.f 2147483647 1 false).bind fun t107 => (if t107 = true then ((word_Sign.f 255 8).bind fun t108 => (some (t108 == 4294967295))) else (some false))) else (some false))) else (some false)) else (some false))) = some r := h
  clear h
  replace H := Option.bind_eq_some_iff.mp H
  obtain ⟨⟨t104, t105⟩, A10, H⟩ := H
  replace H : (if t104 = 4294967295 then (if t105 = 7 then ((word_Clz.f 1).bind fun t106 => (if t106 = 31 then ((word_Over.f 2147483647 1 false).bind fun t107 => (if t107 = true then ((word_Sign.f 255 8).bind fun t108 => (some (t108 == 4294967295))) else (some false))) else (some false))) else (some false)) else (some false)) = some r := H
  have A1 := Aside0.mk A10
  clear A10
  by_cases c2 : t104 = 4294967295
  · rw [if_pos c2] at H
    have c2b0 : (t104 == 4294967295) = true := beq_iff_eq.mpr c2
    have c2b1 : (t104 != 4294967295) = false := bne_eq_false_iff_eq.mpr c2
    clear c2
    by_cases c3 : t105 = 7
    · rw [if_pos c3] at H
      have c3b0 : (t105 == 7) = true := beq_iff_eq.mpr c3
      have c3b1 : (t105 != 7) = false := bne_eq_false_iff_eq.mpr c3
      clear c3
      replace H := Option.bind_eq_some_iff.mp H
      obtain ⟨t106, A40, H⟩ := H
      replace H : (if t106 = 31 then ((word_Over.f 2147483647 1 false).bind fun t107 => (if t107 = true then ((word_Sign.f 255 8).bind fun t108 => (some (t108 == 4294967295))) else (some false))) else (some false)) = some r := H
      have A4 := Aside0.mk A40
      clear A40
      by_cases c5 : t106 = 31
      · rw [if_pos c5] at H
        have c5b0 : (t106 == 31) = true := beq_iff_eq.mpr c5
        have c5b1 : (t106 != 31) = false := bne_eq_false_iff_eq.mpr c5
        clear c5
        replace H := Option.bind_eq_some_iff.mp H
        obtain ⟨t107, A60, H⟩ := H
        replace H : (if t107 = true then ((word_Sign.f 255 8).bind fun t108 => (some (t108 == 4294967295))) else (some false)) = some r := H
        have A6 := Aside0.mk A60
        clear A60
        by_cases c7 : t107 = true
        · subst c7
          have H1 : ((word_Sign.f 255 8).bind fun t108 => (some (t108 == 4294967295))) = some r := by rw [if_pos rfl] at H; exact H
          clear H
          have H := H1
          clear H1
          replace H := Option.bind_eq_some_iff.mp H
          obtain ⟨t108, A80, H⟩ := H
          replace H : (some (t108 == 4294967295)) = some r := H
          have A8 := Aside0.mk A80
          clear A80
          obtain rfl := Option.some.inj H
          go_enter Try.func12, Try.ntmps12
          go_wp2_with (first | ((with_reducible refine gate_callee (f := 15) rfl ?_); refine goesL_ (some 4) rfl rfl Try.func15 (by kernel_rfl) rfl #[.int .u32 7, .int .u32 0, .bool false] rfl (by (try simp only [List.map_toArray, List.map_cons, List.map_nil]); first | done | rfl | (simp only [List.length_drop, List.length_take]; rfl)) ?_; (with_reducible refine (word_Div.calls 7 0 false t104 t105 _ A1.out).mono ?_); rintro e w' ⟨rfl, ⟨nd, rfl⟩⟩; refine ⟨_, rfl, ?_⟩) | (go_at_call 8; (with_reducible refine (word_Clz.calls 1 t106 _ A4.out).mono ?_); rintro e w' ⟨rfl, ⟨nd, rfl⟩⟩) | (go_at_call 14; (with_reducible refine (word_Over.calls 2147483647 1 false true _ A6.out).mono ?_); rintro e w' ⟨rfl, ⟨nd, rfl⟩⟩) | (go_at_call 11; (with_reducible refine (word_Sign.calls 255 8 t108 _ A8.out).mono ?_); rintro e w' ⟨rfl, ⟨nd, rfl⟩⟩) | (go_at_call 15; (with_reducible refine (word_Div.calls 7 0 false t104 t105 _ A1.out).mono ?_); rintro e w' ⟨rfl, ⟨nd, rfl⟩⟩))
          go_ret
          exact ⟨by first | rfl | (simp; done) | (simp [*]; done) | (simp; omega), by repeat (first | exact Drawn0.refl _ | apply Drawn0.step)⟩
        · replace c7 := Bool.eq_false_iff.mpr c7
          subst c7
          have H1 : (some false) = some r := by rw [if_neg (show ¬ (false = true) by decide)] at H; exact H
          clear H
          have H := H1
          clear H1
          obtain rfl := Option.some.inj H
          go_enter Try.func12, Try.ntmps12
          go_wp2_with (first | ((with_reducible refine gate_callee (f := 15) rfl ?_); refine goesL_ (some 4) rfl rfl Try.func15 (by kernel_rfl) rfl #[.int .u32 7, .int .u32 0, .bool false] rfl (by (try simp only [List.map_toArray, List.map_cons, List.map_nil]); first | done | rfl | (simp only [List.length_drop, List.length_take]; rfl)) ?_; (with_reducible refine (word_Div.calls 7 0 false t104 t105 _ A1.out).mono ?_); rintro e w' ⟨rfl, ⟨nd, rfl⟩⟩; refine ⟨_, rfl, ?_⟩) | (go_at_call 8; (with_reducible refine (word_Clz.calls 1 t106 _ A4.out).mono ?_); rintro e w' ⟨rfl, ⟨nd, rfl⟩⟩) | (go_at_call 14; (with_reducible refine (word_Over.calls 2147483647 1 false false _ A6.out).mono ?_); rintro e w' ⟨rfl, ⟨nd, rfl⟩⟩) | (go_at_call 15; (with_reducible refine (word_Div.calls 7 0 false t104 t105 _ A1.out).mono ?_); rintro e w' ⟨rfl, ⟨nd, rfl⟩⟩))
          go_ret
          exact ⟨by first | rfl | (simp; done) | (simp [*]; done) | (simp; omega), by repeat (first | exact Drawn0.refl _ | apply Drawn0.step)⟩
      · rw [if_neg c5] at H
        have c5b0 : (t106 == 31) = false := beq_eq_false_iff_ne.mpr c5
        have c5b1 : (t106 != 31) = true := bne_iff_ne.mpr c5
        obtain rfl := Option.some.inj H
        go_enter Try.func12, Try.ntmps12
        go_wp2_with (first | ((with_reducible refine gate_callee (f := 15) rfl ?_); refine goesL_ (some 4) rfl rfl Try.func15 (by kernel_rfl) rfl #[.int .u32 7, .int .u32 0, .bool false] rfl (by (try simp only [List.map_toArray, List.map_cons, List.map_nil]); first | done | rfl | (simp only [List.length_drop, List.length_take]; rfl)) ?_; (with_reducible refine (word_Div.calls 7 0 false t104 t105 _ A1.out).mono ?_); rintro e w' ⟨rfl, ⟨nd, rfl⟩⟩; refine ⟨_, rfl, ?_⟩) | (go_at_call 8; (with_reducible refine (word_Clz.calls 1 t106 _ A4.out).mono ?_); rintro e w' ⟨rfl, ⟨nd, rfl⟩⟩) | (go_at_call 15; (with_reducible refine (word_Div.calls 7 0 false t104 t105 _ A1.out).mono ?_); rintro e w' ⟨rfl, ⟨nd, rfl⟩⟩))
        go_ret
        exact ⟨by first | rfl | (simp; done) | (simp [*]; done) | (simp; omega), by repeat (first | exact Drawn0.refl _ | apply Drawn0.step)⟩
    · rw [if_neg c3] at H
      have c3b0 : (t105 == 7) = false := beq_eq_false_iff_ne.mpr c3
      have c3b1 : (t105 != 7) = true := bne_iff_ne.mpr c3
      obtain rfl := Option.some.inj H
      go_enter Try.func12, Try.ntmps12
      go_wp2_with (first | ((with_reducible refine gate_callee (f := 15) rfl ?_); refine goesL_ (some 4) rfl rfl Try.func15 (by kernel_rfl) rfl #[.int .u32 7, .int .u32 0, .bool false] rfl (by (try simp only [List.map_toArray, List.map_cons, List.map_nil]); first | done | rfl | (simp only [List.length_drop, List.length_take]; rfl)) ?_; (with_reducible refine (word_Div.calls 7 0 false t104 t105 _ A1.out).mono ?_); rintro e w' ⟨rfl, ⟨nd, rfl⟩⟩; refine ⟨_, rfl, ?_⟩) | (go_at_call 15; (with_reducible refine (word_Div.calls 7 0 false t104 t105 _ A1.out).mono ?_); rintro e w' ⟨rfl, ⟨nd, rfl⟩⟩))
      go_ret
      exact ⟨by first | rfl | (simp; done) | (simp [*]; done) | (simp; omega), by repeat (first | exact Drawn0.refl _ | apply Drawn0.step)⟩
  · rw [if_neg c2] at H
    have c2b0 : (t104 == 4294967295) = false := beq_eq_false_iff_ne.mpr c2
    have c2b1 : (t104 != 4294967295) = true := bne_iff_ne.mpr c2
    obtain rfl := Option.some.inj H
    go_enter Try.func12, Try.ntmps12
    go_wp2_with (first | ((with_reducible refine gate_callee (f := 15) rfl ?_); refine goesL_ (some 4) rfl rfl Try.func15 (by kernel_rfl) rfl #[.int .u32 7, .int .u32 0, .bool false] rfl (by (try simp only [List.map_toArray, List.map_cons, List.map_nil]); first | done | rfl | (simp only [List.length_drop, List.length_take]; rfl)) ?_; (with_reducible refine (word_Div.calls 7 0 false t104 t105 _ A1.out).mono ?_); rintro e w' ⟨rfl, ⟨nd, rfl⟩⟩; refine ⟨_, rfl, ?_⟩) | (go_at_call 15; (with_reducible refine (word_Div.calls 7 0 false t104 t105 _ A1.out).mono ?_); rintro e w' ⟨rfl, ⟨nd, rfl⟩⟩))
    go_ret
    exact ⟨by first | rfl | (simp; done) | (simp [*]; done) | (simp; omega), by repeat (first | exact Drawn0.refl _ | apply Drawn0.step)⟩

/-! ### pianolalaw1_WordShifts: function 3 -/
def pianolalaw1_WordShifts.j0 : Nat → Int → Int → Int → Int → Bool → Option (Bool)
  | 0, _, _, _, _, _ => none
  | k + 1, x0, x1, x7, x8, x45 => if x45 = true then (some false) else ((word_Sar.f x0 x7).bind fun t114 => ((word_Sar.f t114 x8).bind fun t115 => ((word_Sar.f x0 (wrap64 (x7 + x8))).bind fun t116 => (if t115 = t116 then ((word_Sign.f x0 (wrap64 (1 + (Int.tmod (wrap64 ((Int.tmod x1 31) + 31)) 31)))).bind fun t117 => ((word_Sign.f t117 (wrap64 (1 + (Int.tmod (wrap64 ((Int.tmod x1 31) + 31)) 31)))).bind fun t118 => (if t118 = t117 then ((pianolalaw1_known.f).bind fun t119 => (some t119)) else (some false)))) else (some false)))))
def pianolalaw1_WordShifts.f (k : Nat) (a0 : Int) (a1 : Int) (a2 : Int) : Option (Bool) := (word_Clz.f a0).bind fun t109 => (if t109 < 32 then (if 0 ≤ (IntKind.u64.wrap (wrap64 (31 - t109))) then (if (shr .u32 a0 (IntKind.u64.wrap (wrap64 (31 - t109)))) = 1 then (if t109 = 32 then (if a0 = 0 then ((word_Clo.f (Go.bits .xor .u32 IntKind.u32.max a0)).bind fun t110 => (pianolalaw1_WordShifts.j0 k a0 a1 (Int.tmod (wrap64 ((Int.tmod a1 16) + 16)) 16) (Int.tmod (wrap64 ((Int.tmod a2 16) + 16)) 16) (t110 != t109))) else (pianolalaw1_WordShifts.j0 k a0 a1 (Int.tmod (wrap64 ((Int.tmod a1 16) + 16)) 16) (Int.tmod (wrap64 ((Int.tmod a2 16) + 16)) 16) true)) else ((word_Clo.f (Go.bits .xor .u32 IntKind.u32.max a0)).bind fun t111 => (pianolalaw1_WordShifts.j0 k a0 a1 (Int.tmod (wrap64 ((Int.tmod a1 16) + 16)) 16) (Int.tmod (wrap64 ((Int.tmod a2 16) + 16)) 16) (t111 != t109)))) else (pianolalaw1_WordShifts.j0 k a0 a1 (Int.tmod (wrap64 ((Int.tmod a1 16) + 16)) 16) (Int.tmod (wrap64 ((Int.tmod a2 16) + 16)) 16) true)) else (none)) else (if t109 = 32 then (if a0 = 0 then ((word_Clo.f (Go.bits .xor .u32 IntKind.u32.max a0)).bind fun t112 => (pianolalaw1_WordShifts.j0 k a0 a1 (Int.tmod (wrap64 ((Int.tmod a1 16) + 16)) 16) (Int.tmod (wrap64 ((Int.tmod a2 16) + 16)) 16) (t112 != t109))) else (pianolalaw1_WordShifts.j0 k a0 a1 (Int.tmod (wrap64 ((Int.tmod a1 16) + 16)) 16) (Int.tmod (wrap64 ((Int.tmod a2 16) + 16)) 16) true)) else ((word_Clo.f (Go.bits .xor .u32 IntKind.u32.max a0)).bind fun t113 => (pianolalaw1_WordShifts.j0 k a0 a1 (Int.tmod (wrap64 ((Int.tmod a1 16) + 16)) 16) (Int.tmod (wrap64 ((Int.tmod a2 16) + 16)) 16) (t113 != t109)))))
theorem pianolalaw1_WordShifts.mono_l : ∀ k, (∀ y0 y1 y2 y3 y4, LeO (pianolalaw1_WordShifts.j0 k y0 y1 y2 y3 y4) (pianolalaw1_WordShifts.j0 (k + 1) y0 y1 y2 y3 y4))
  | 0 => fun _ _ _ _ _ r h => by simp [pianolalaw1_WordShifts.j0] at h
  | k + 1 => by
    have ih0 := pianolalaw1_WordShifts.mono_l k
    · intro y0 y1 y2 y3 y4
      unfold pianolalaw1_WordShifts.j0
      repeat' first
      | (with_reducible exact ih0 _ _ _ _ _)
      | (with_reducible exact LeO.refl _)
      | (with_reducible exact LeO.none _)
      | (with_reducible refine LeO.ite ?_ ?_)
      | (with_reducible refine LeO.bind ?_ (fun _ => ?_))
      | exact ih0 _ _ _ _ _
      | exact LeO.none _
      | refine LeO.ite ?_ ?_
      | refine LeO.bind ?_ (fun _ => ?_)
theorem pianolalaw1_WordShifts.mono : ∀ a0 a1 a2 k, LeO (pianolalaw1_WordShifts.f k a0 a1 a2) (pianolalaw1_WordShifts.f (k + 1) a0 a1 a2) := by
  intro a0 a1 a2 k
  have ih0 := pianolalaw1_WordShifts.mono_l k
  unfold pianolalaw1_WordShifts.f
  repeat' first
      | (with_reducible exact ih0 _ _ _ _ _)
      | (with_reducible exact LeO.refl _)
      | (with_reducible exact LeO.none _)
      | (with_reducible refine LeO.ite ?_ ?_)
      | (with_reducible refine LeO.bind ?_ (fun _ => ?_))
      | exact ih0 _ _ _ _ _
      | exact LeO.none _
      | refine LeO.ite ?_ ?_
      | refine LeO.bind ?_ (fun _ => ?_)
set_option maxHeartbeats 8000000 in
set_option maxRecDepth 100000 in
theorem pianolalaw1_WordShifts.calls (k : Nat) (a0 : Int) (a1 : Int) (a2 : Int) (r : Bool) (w : World) (h : pianolalaw1_WordShifts.f k a0 a1 a2 = some r) :
    Calls Try.prog 3 #[.int .u32 a0, .int .i64 a1, .int .i64 a2] w fun e w' => e = .returned (.bool r) ∧ Drawn0 w w' := by
  have H : ((word_Clz.f a0).bind fun t109 => (if t109 < 32 then (if 0 ≤ (IntKind.u64.wrap (wrap64 (31 - t109))) then (if (shr .u32 a0 (IntKind.u64.wrap (wrap64 (31 - t109)))) = 1 then (if t109 = 32 then (if a0 = 0 then ((word_Clo.f (Go.bits .xor .u32 IntKind.u32.max a0)).bind fun t110 => (pianolalaw1_WordShifts.j0 k a0 a1 (Int.tmod (wrap64 ((Int.tmod a1 16) + 16)) 16) (Int.tmod (wrap64 ((Int.tmod a2 16) + 16)) 16) (t110 != t109))) else (pianolalaw1_WordShifts.j0 k a0 a1 (Int.tmod (wrap64 ((Int.tmod a1 16) + 16)) 16) (Int.tmod (wrap64 ((Int.tmod a2 16) + 16)) 16) true)) else ((word_Clo.f (Go.bits .xor .u32 IntKind.u32.max a0)).bind fun t111 => (pianolalaw1_WordShifts.j0 k a0 a1 (Int.tmod (wrap64 ((Int.tmod a1 16) + 16)) 16) (Int.tmod (wrap64 ((Int.tmod a2 16) + 16)) 16) (t111 != t109)))) else (pianolalaw1_WordShifts.j0 k a0 a1 (Int.tmod (wrap64 ((Int.tmod a1 16) + 16)) 16) (Int.tmod (wrap64 ((Int.tmod a2 16) + 16)) 16) true)) else (none)) else (if t109 = 32 then (if a0 = 0 then ((word_Clo.f (Go.bits .xor .u32 IntKind.u32.max a0)).bind fun t112 => (pianolalaw1_WordShifts.j0 k a0 a1 (Int.tmod (wrap64 ((Int.tmod a1 16) + 16)) 16) (Int.tmod (wrap64 ((Int.tmod a2 16) + 16)) 16) (t112 != t109))) else (pianolalaw1_WordShifts.j0 k a0 a1 (Int.tmod (wrap64 ((Int.tmod a1 16) + 16)) 16) (Int.tmod (wrap64 ((Int.tmod a2 16) + 16)) 16) true)) else ((word_Clo.f (Go.bits .xor .u32 IntKind.u32.max a0)).bind fun t113 => (pianolalaw1_WordShifts.j0 k a0 a1 (Int.tmod (wrap64 ((Int.tmod a1 16) + 16)) 16) (Int.tmod (wrap64 ((Int.tmod a2 16) + 16)) 16) (t113 != t109)))))) = some r := h
  clear h
  replace H := Option.bind_eq_some_iff.mp H
  obtain ⟨t109, A40, H⟩ := H
  replace H : (if t109 < 32 then (if 0 ≤ (IntKind.u64.wrap (wrap64 (31 - t109))) then (if (shr .u32 a0 (IntKind.u64.wrap (wrap64 (31 - t109)))) = 1 then (if t109 = 32 then (if a0 = 0 then ((word_Clo.f (Go.bits .xor .u32 IntKind.u32.max a0)).bind fun t110 => (pianolalaw1_WordShifts.j0 k a0 a1 (Int.tmod (wrap64 ((Int.tmod a1 16) + 16)) 16) (Int.tmod (wrap64 ((Int.tmod a2 16) + 16)) 16) (t110 != t109))) else (pianolalaw1_WordShifts.j0 k a0 a1 (Int.tmod (wrap64 ((Int.tmod a1 16) + 16)) 16) (Int.tmod (wrap64 ((Int.tmod a2 16) + 16)) 16) true)) else ((word_Clo.f (Go.bits .xor .u32 IntKind.u32.max a0)).bind fun t111 => (pianolalaw1_WordShifts.j0 k a0 a1 (Int.tmod (wrap64 ((Int.tmod a1 16) + 16)) 16) (Int.tmod (wrap64 ((Int.tmod a2 16) + 16)) 16) (t111 != t109)))) else (pianolalaw1_WordShifts.j0 k a0 a1 (Int.tmod (wrap64 ((Int.tmod a1 16) + 16)) 16) (Int.tmod (wrap64 ((Int.tmod a2 16) + 16)) 16) true)) else (none)) else (if t109 = 32 then (if a0 = 0 then ((word_Clo.f (Go.bits .xor .u32 IntKind.u32.max a0)).bind fun t112 => (pianolalaw1_WordShifts.j0 k a0 a1 (Int.tmod (wrap64 ((Int.tmod a1 16) + 16)) 16) (Int.tmod (wrap64 ((Int.tmod a2 16) + 16)) 16) (t112 != t109))) else (pianolalaw1_WordShifts.j0 k a0 a1 (Int.tmod (wrap64 ((Int.tmod a1 16) + 16)) 16) (Int.tmod (wrap64 ((Int.tmod a2 16) + 16)) 16) true)) else ((word_Clo.f (Go.bits .xor .u32 IntKind.u32.max a0)).bind fun t113 => (pianolalaw1_WordShifts.j0 k a0 a1 (Int.tmod (wrap64 ((Int.tmod a1 16) + 16)) 16) (Int.tmod (wrap64 ((Int.tmod a2 16) + 16)) 16) (t113 != t109))))) = some r := H
  have A4 := Aside0.mk A40
  clear A40
  have HC5 := Aside0.mk H
  clear H
  go_enter Try.func3, Try.ntmps3
  go_upto_region 3 with (first | ((with_reducible refine gate_callee (f := 8) rfl ?_); refine goesL_ (some 20) rfl rfl Try.func8 (by kernel_rfl) rfl #[.int .u32 a0] rfl (by (try simp only [List.map_toArray, List.map_cons, List.map_nil]); first | done | rfl | (simp only [List.length_drop, List.length_take]; rfl)) ?_; (with_reducible refine (word_Clz.calls a0 t109 _ A4.out).mono ?_); rintro e w' ⟨rfl, ⟨nd, rfl⟩⟩; refine ⟨_, rfl, ?_⟩))
  (try simp only [Act.put, List.setIfInBounds_toArray, List.set_cons_zero, List.set_cons_succ])
  go_cut [45] (fun v45 wc => ∃ (kq : Nat) (x45_4 : Bool), v45 = .bool x45_4 ∧ Aside0 (pianolalaw1_WordShifts.j0 kq a0 a1 (Int.tmod (wrap64 ((Int.tmod a1 16) + 16)) 16) (Int.tmod (wrap64 ((Int.tmod a2 16) + 16)) 16) x45_4 = some r) ∧ Aside0 (kq ≤ k) ∧ Drawn0 w wc)
  case first =>
    have H := HC5.out
    clear HC5
    by_cases c6 : t109 < 32
    · rw [if_pos c6] at H
      have c6b0 : decide (t109 < 32) = true := decide_eq_true c6
      clear c6
      (first | rw [c6b0] | (simp only [i64_w, i32_w]; rw [c6b0]) | skip)
      obtain ⟨ji7, hji7⟩ : ∃ j_ : Int, (IntKind.u64.wrap (wrap64 (31 - t109))) = j_ := ⟨_, rfl⟩
      replace H : (if 0 ≤ (ji7) then (if (shr .u32 a0 (ji7)) = 1 then (if t109 = 32 then (if a0 = 0 then ((word_Clo.f (Go.bits .xor .u32 IntKind.u32.max a0)).bind fun t110 => (pianolalaw1_WordShifts.j0 k a0 a1 (Int.tmod (wrap64 ((Int.tmod a1 16) + 16)) 16) (Int.tmod (wrap64 ((Int.tmod a2 16) + 16)) 16) (t110 != t109))) else (pianolalaw1_WordShifts.j0 k a0 a1 (Int.tmod (wrap64 ((Int.tmod a1 16) + 16)) 16) (Int.tmod (wrap64 ((Int.tmod a2 16) + 16)) 16) true)) else ((word_Clo.f (Go.bits .xor .u32 IntKind.u32.max a0)).bind fun t111 => (pianolalaw1_WordShifts.j0 k a0 a1 (Int.tmod (wrap64 ((Int.tmod a1 16) + 16)) 16) (Int.tmod (wrap64 ((Int.tmod a2 16) + 16)) 16) (t111 != t109)))) else (pianolalaw1_WordShifts.j0 k a0 a1 (Int.tmod (wrap64 ((Int.tmod a1 16) + 16)) 16) (Int.tmod (wrap64 ((Int.tmod a2 16) + 16)) 16) true)) else (none)) = some r := by first | (rw [hji7] at H; exact H) | (simp only [hji7] at H ⊢; exact H)
      by_cases c8 : 0 ≤ (ji7)
      · rw [if_pos c8] at H
        have c8b0 := eq_true c8
        have c8b1 : decide (0 ≤ (ji7)) = true := decide_eq_true c8
        clear c8
        obtain ⟨ji9, hji9⟩ : ∃ j_ : Int, (shr .u32 a0 (ji7)) = j_ := ⟨_, rfl⟩
        replace H : (if (ji9) = 1 then (if t109 = 32 then (if a0 = 0 then ((word_Clo.f (Go.bits .xor .u32 IntKind.u32.max a0)).bind fun t110 => (pianolalaw1_WordShifts.j0 k a0 a1 (Int.tmod (wrap64 ((Int.tmod a1 16) + 16)) 16) (Int.tmod (wrap64 ((Int.tmod a2 16) + 16)) 16) (t110 != t109))) else (pianolalaw1_WordShifts.j0 k a0 a1 (Int.tmod (wrap64 ((Int.tmod a1 16) + 16)) 16) (Int.tmod (wrap64 ((Int.tmod a2 16) + 16)) 16) true)) else ((word_Clo.f (Go.bits .xor .u32 IntKind.u32.max a0)).bind fun t111 => (pianolalaw1_WordShifts.j0 k a0 a1 (Int.tmod (wrap64 ((Int.tmod a1 16) + 16)) 16) (Int.tmod (wrap64 ((Int.tmod a2 16) + 16)) 16) (t111 != t109)))) else (pianolalaw1_WordShifts.j0 k a0 a1 (Int.tmod (wrap64 ((Int.tmod a1 16) + 16)) 16) (Int.tmod (wrap64 ((Int.tmod a2 16) + 16)) 16) true)) = some r := by first | (rw [hji9] at H; exact H) | (simp only [hji9] at H ⊢; exact H)
        have hji9_ : (a0 / 2 ^ min (ji7).toNat 32) = ji9 := hji9
        have hji9z : (ji7) ≤ 32 → (a0 / 2 ^ (ji7).toNat) = ji9 := shr_small hji9
        by_cases c10 : (ji9) = 1
        · rw [if_pos c10] at H
          have c10b0 : ((ji9) == 1) = true := beq_iff_eq.mpr c10
          have c10b1 : ((ji9) != 1) = false := bne_eq_false_iff_eq.mpr c10
          clear c10
          by_cases c11 : t109 = 32
          · rw [if_pos c11] at H
            have c11b0 : (t109 == 32) = true := beq_iff_eq.mpr c11
            have c11b1 : (t109 != 32) = false := bne_eq_false_iff_eq.mpr c11
            clear c11
            by_cases c12 : a0 = 0
            · rw [if_pos c12] at H
              have c12b0 : (a0 == 0) = true := beq_iff_eq.mpr c12
              have c12b1 : (a0 != 0) = false := bne_eq_false_iff_eq.mpr c12
              clear c12
              replace H := Option.bind_eq_some_iff.mp H
              obtain ⟨t110, A130, H⟩ := H
              replace H : (pianolalaw1_WordShifts.j0 k a0 a1 (Int.tmod (wrap64 ((Int.tmod a1 16) + 16)) 16) (Int.tmod (wrap64 ((Int.tmod a2 16) + 16)) 16) (t110 != t109)) = some r := H
              have A13 := Aside0.mk A130
              clear A130
              have H' := Aside0.mk H
              clear H
              go_wp2_with (first | (go_at_call 9; (with_reducible refine (word_Clo.calls (Go.bits .xor .u32 IntKind.u32.max a0) t110 _ A13.out).mono ?_); rintro e w' ⟨rfl, ⟨nd, rfl⟩⟩))
              go_meet
              case rel => exact ⟨_, ((t110 != t109)), (by first | rfl | (simp; done) | (simp [*]; done) | (simp; omega)), H', ⟨by first | omega | exact Nat.le_refl _⟩, by repeat (first | exact Drawn0.refl _ | apply Drawn0.step)⟩
            · rw [if_neg c12] at H
              have c12b0 : (a0 == 0) = false := beq_eq_false_iff_ne.mpr c12
              have c12b1 : (a0 != 0) = true := bne_iff_ne.mpr c12
              have H' := Aside0.mk H
              clear H
              go_wp2
              go_meet
              case rel => exact ⟨_, (true), (by first | rfl | (simp; done) | (simp [*]; done) | (simp; omega)), H', ⟨by first | omega | exact Nat.le_refl _⟩, by repeat (first | exact Drawn0.refl _ | apply Drawn0.step)⟩
          · rw [if_neg c11] at H
            have c11b0 : (t109 == 32) = false := beq_eq_false_iff_ne.mpr c11
            have c11b1 : (t109 != 32) = true := bne_iff_ne.mpr c11
            replace H := Option.bind_eq_some_iff.mp H
            obtain ⟨t111, A140, H⟩ := H
            replace H : (pianolalaw1_WordShifts.j0 k a0 a1 (Int.tmod (wrap64 ((Int.tmod a1 16) + 16)) 16) (Int.tmod (wrap64 ((Int.tmod a2 16) + 16)) 16) (t111 != t109)) = some r := H
            have A14 := Aside0.mk A140
            clear A140
            have H' := Aside0.mk H
            clear H
            go_wp2_with (first | (go_at_call 9; (with_reducible refine (word_Clo.calls (Go.bits .xor .u32 IntKind.u32.max a0) t111 _ A14.out).mono ?_); rintro e w' ⟨rfl, ⟨nd, rfl⟩⟩))
            go_meet
            case rel => exact ⟨_, ((t111 != t109)), (by first | rfl | (simp; done) | (simp [*]; done) | (simp; omega)), H', ⟨by first | omega | exact Nat.le_refl _⟩, by repeat (first | exact Drawn0.refl _ | apply Drawn0.step)⟩
        · rw [if_neg c10] at H
          have c10b0 : ((ji9) == 1) = false := beq_eq_false_iff_ne.mpr c10
          have c10b1 : ((ji9) != 1) = true := bne_iff_ne.mpr c10
          have H' := Aside0.mk H
          clear H
          go_wp2
          go_meet
          case rel => exact ⟨_, (true), (by first | rfl | (simp; done) | (simp [*]; done) | (simp; omega)), H', ⟨by first | omega | exact Nat.le_refl _⟩, by repeat (first | exact Drawn0.refl _ | apply Drawn0.step)⟩
      · rw [if_neg c8] at H
        exact absurd H (by simp)
    · rw [if_neg c6] at H
      have c6b0 : decide (t109 < 32) = false := decide_eq_false c6
      clear c6
      (first | rw [c6b0] | (simp only [i64_w, i32_w]; rw [c6b0]) | skip)
      by_cases c15 : t109 = 32
      · rw [if_pos c15] at H
        have c15b0 : (t109 == 32) = true := beq_iff_eq.mpr c15
        have c15b1 : (t109 != 32) = false := bne_eq_false_iff_eq.mpr c15
        clear c15
        by_cases c16 : a0 = 0
        · rw [if_pos c16] at H
          have c16b0 : (a0 == 0) = true := beq_iff_eq.mpr c16
          have c16b1 : (a0 != 0) = false := bne_eq_false_iff_eq.mpr c16
          clear c16
          replace H := Option.bind_eq_some_iff.mp H
          obtain ⟨t112, A170, H⟩ := H
          replace H : (pianolalaw1_WordShifts.j0 k a0 a1 (Int.tmod (wrap64 ((Int.tmod a1 16) + 16)) 16) (Int.tmod (wrap64 ((Int.tmod a2 16) + 16)) 16) (t112 != t109)) = some r := H
          have A17 := Aside0.mk A170
          clear A170
          have H' := Aside0.mk H
          clear H
          go_wp2_with (first | (go_at_call 9; (with_reducible refine (word_Clo.calls (Go.bits .xor .u32 IntKind.u32.max a0) t112 _ A17.out).mono ?_); rintro e w' ⟨rfl, ⟨nd, rfl⟩⟩))
          go_meet
          case rel => exact ⟨_, ((t112 != t109)), (by first | rfl | (simp; done) | (simp [*]; done) | (simp; omega)), H', ⟨by first | omega | exact Nat.le_refl _⟩, by repeat (first | exact Drawn0.refl _ | apply Drawn0.step)⟩
        · rw [if_neg c16] at H
          have c16b0 : (a0 == 0) = false := beq_eq_false_iff_ne.mpr c16
          have c16b1 : (a0 != 0) = true := bne_iff_ne.mpr c16
          have H' := Aside0.mk H
          clear H
          go_wp2
          go_meet
          case rel => exact ⟨_, (true), (by first | rfl | (simp; done) | (simp [*]; done) | (simp; omega)), H', ⟨by first | omega | exact Nat.le_refl _⟩, by repeat (first | exact Drawn0.refl _ | apply Drawn0.step)⟩
      · rw [if_neg c15] at H
        have c15b0 : (t109 == 32) = false := beq_eq_false_iff_ne.mpr c15
        have c15b1 : (t109 != 32) = true := bne_iff_ne.mpr c15
        replace H := Option.bind_eq_some_iff.mp H
        obtain ⟨t113, A180, H⟩ := H
        replace H : (pianolalaw1_WordShifts.j0 k a0 a1 (Int.tmod (wrap64 ((Int.tmod a1 16) + 16)) 16) (Int.tmod (wrap64 ((Int.tmod a2 16) + 16)) 16) (t113 != t109)) = some r := H
        have A18 := Aside0.mk A180
        clear A180
        have H' := Aside0.mk H
        clear H
        go_wp2_with (first | (go_at_call 9; (with_reducible refine (word_Clo.calls (Go.bits .xor .u32 IntKind.u32.max a0) t113 _ A18.out).mono ?_); rintro e w' ⟨rfl, ⟨nd, rfl⟩⟩))
        go_meet
        case rel => exact ⟨_, ((t113 != t109)), (by first | rfl | (simp; done) | (simp [*]; done) | (simp; omega)), H', ⟨by first | omega | exact Nat.le_refl _⟩, by repeat (first | exact Drawn0.refl _ | apply Drawn0.step)⟩
  case rest =>
    clear HC5
    try clear c1
    try clear p2
    try clear c3
    try clear c6
    try clear c6b0
    try clear p6
    try clear c8
    try clear c8b0
    try clear c8b1
    try clear c10
    try clear c10b0
    try clear c10b1
    try clear c11
    try clear c11b0
    try clear c11b1
    try clear c12
    try clear c12b0
    try clear c12b1
    try clear c15
    try clear c15b0
    try clear c15b1
    try clear c16
    try clear c16b0
    try clear c16b1
    obtain ⟨kq, x45_4, rfl, HA, HJ4, ⟨mc4, rfl⟩⟩ := hcut
    cases kq with
    | zero => exact absurd HA.out (by simp [pianolalaw1_WordShifts.j0])
    | succ kj4 =>
      have H := HA.out
      clear HA
      simp only [pianolalaw1_WordShifts.j0] at H
      by_cases c19 : x45_4 = true
      · subst c19
        have H1 : (some false) = some r := by rw [if_pos rfl] at H; exact H
        clear H
        have H := H1
        clear H1
        obtain rfl := Option.some.inj H
        go_wp2
        go_ret
        exact ⟨by first | rfl | (simp; done) | (simp [*]; done) | (simp; omega), by repeat (first | exact Drawn0.refl _ | apply Drawn0.step)⟩
      · replace c19 := Bool.eq_false_iff.mpr c19
        subst c19
        have H1 : ((word_Sar.f a0 (Int.tmod (wrap64 ((Int.tmod a1 16) + 16)) 16)).bind fun t114 => ((word_Sar.f t114 (Int.tmod (wrap64 ((Int.tmod a2 16) + 16)) 16)).bind fun t115 => ((word_Sar.f a0 (wrap64 ((Int.tmod (wrap64 ((Int.tmod a1 16) + 16)) 16) + (Int.tmod (wrap64 ((Int.tmod a2 16) + 16)) 16)))).bind fun t116 => (if t115 = t116 then ((word_Sign.f a0 (wrap64 (1 + (Int.tmod (wrap64 ((Int.tmod a1 31) + 31)) 31)))).bind fun t117 => ((word_Sign.f t117 (wrap64 (1 + (Int.tmod (wrap64 ((Int.tmod a1 31) + 31)) 31)))).bind fun t118 => (if t118 = t117 then ((pianolalaw1_known.f).bind fun t119 => (some t119)) else (some false)))) else (some false))))) = some r := by rw [if_neg (show ¬ (false = true) by decide)] at H; exact H
        clear H
        have H := H1
        clear H1
        replace H := Option.bind_eq_some_iff.mp H
        obtain ⟨t114, A200, H⟩ := H
        replace H : ((word_Sar.f t114 (Int.tmod (wrap64 ((Int.tmod a2 16) + 16)) 16)).bind fun t115 => ((word_Sar.f a0 (wrap64 ((Int.tmod (wrap64 ((Int.tmod a1 16) + 16)) 16) + (Int.tmod (wrap64 ((Int.tmod a2 16) + 16)) 16)))).bind fun t116 => (if t115 = t116 then ((word_Sign.f a0 (wrap64 (1 + (Int.tmod (wrap64 ((Int.tmod a1 31) + 31)) 31)))).bind fun t117 => ((word_Sign.f t117 (wrap64 (1 + (Int.tmod (wrap64 ((Int.tmod a1 31) + 31)) 31)))).bind fun t118 => (if t118 = t117 then ((pianolalaw1_known.f).bind fun t119 => (some t119)) else (some false)))) else (some false)))) = some r := H
        have A20 := Aside0.mk A200
        clear A200
        replace H := Option.bind_eq_some_iff.mp H
        obtain ⟨t115, A210, H⟩ := H
        replace H : ((word_Sar.f a0 (wrap64 ((Int.tmod (wrap64 ((Int.tmod a1 16) + 16)) 16) + (Int.tmod (wrap64 ((Int.tmod a2 16) + 16)) 16)))).bind fun t116 => (if t115 = t116 then ((word_Sign.f a0 (wrap64 (1 + (Int.tmod (wrap64 ((Int.tmod a1 31) + 31)) 31)))).bind fun t117 => ((word_Sign.f t117 (wrap64 (1 + (Int.tmod (wrap64 ((Int.tmod a1 31) + 31)) 31)))).bind fun t118 => (if t118 = t117 then ((pianolalaw1_known.f).bind fun t119 => (some t119)) else (some false)))) else (some false))) = some r := H
        have A21 := Aside0.mk A210
        clear A210
        replace H := Option.bind_eq_some_iff.mp H
        obtain ⟨t116, A220, H⟩ := H
        replace H : (if t115 = t116 then ((word_Sign.f a0 (wrap64 (1 + (Int.tmod (wrap64 ((Int.tmod a1 31) + 31)) 31)))).bind fun t117 => ((word_Sign.f t117 (wrap64 (1 + (Int.tmod (wrap64 ((Int.tmod a1 31) + 31)) 31)))).bind fun t118 => (if t118 = t117 then ((pianolalaw1_known.f).bind fun t119 => (some t119)) else (some false)))) else (some false)) = some r := H
        have A22 := Aside0.mk A220
        clear A220
        by_cases c23 : t115 = t116
        · rw [if_pos c23] at H
          have c23b0 : (t115 == t116) = true := beq_iff_eq.mpr c23
          have c23b1 : (t115 != t116) = false := bne_eq_false_iff_eq.mpr c23
          clear c23
          replace H := Option.bind_eq_some_iff.mp H
          obtain ⟨t117, A240, H⟩ := H
          replace H : ((word_Sign.f t117 (wrap64 (1 + (Int.tmod (wrap64 ((Int.tmod a1 31) + 31)) 31)))).bind fun t118 => (if t118 = t117 then ((pianolalaw1_known.f).bind fun t119 => (some t119)) else (some false))) = some r := H
          have A24 := Aside0.mk A240
          clear A240
          replace H := Option.bind_eq_some_iff.mp H
          obtain ⟨t118, A250, H⟩ := H
          replace H : (if t118 = t117 then ((pianolalaw1_known.f).bind fun t119 => (some t119)) else (some false)) = some r := H
          have A25 := Aside0.mk A250
          clear A250
          by_cases c26 : t118 = t117
          · rw [if_pos c26] at H
            have c26b0 : (t118 == t117) = true := beq_iff_eq.mpr c26
            have c26b1 : (t118 != t117) = false := bne_eq_false_iff_eq.mpr c26
            clear c26
            replace H := Option.bind_eq_some_iff.mp H
            obtain ⟨t119, A270, H⟩ := H
            replace H : (some t119) = some r := H
            have A27 := Aside0.mk A270
            clear A270
            obtain rfl := Option.some.inj H
            go_wp2_with (first | ((with_reducible refine gate_callee (f := 10) rfl ?_); refine goesL_ (some 53) rfl rfl Try.func10 (by kernel_rfl) rfl #[.int .u32 a0, .int .i64 (Int.tmod (wrap64 ((Int.tmod a1 16) + 16)) 16)] rfl (by (try simp only [List.map_toArray, List.map_cons, List.map_nil]); first | done | rfl | (simp only [List.length_drop, List.length_take]; rfl)) ?_; (with_reducible refine (word_Sar.calls a0 (Int.tmod (wrap64 ((Int.tmod a1 16) + 16)) 16) t114 _ A20.out).mono ?_); rintro e w' ⟨rfl, ⟨nd, rfl⟩⟩; refine ⟨_, rfl, ?_⟩) | ((with_reducible refine gate_callee (f := 10) rfl ?_); refine goesL_ (some 55) rfl rfl Try.func10 (by kernel_rfl) rfl #[.int .u32 t114, .int .i64 (Int.tmod (wrap64 ((Int.tmod a2 16) + 16)) 16)] rfl (by (try simp only [List.map_toArray, List.map_cons, List.map_nil]); first | done | rfl | (simp only [List.length_drop, List.length_take]; rfl)) ?_; (with_reducible refine (word_Sar.calls t114 (Int.tmod (wrap64 ((Int.tmod a2 16) + 16)) 16) t115 _ A21.out).mono ?_); rintro e w' ⟨rfl, ⟨nd, rfl⟩⟩; refine ⟨_, rfl, ?_⟩) | ((with_reducible refine gate_callee (f := 10) rfl ?_); refine goesL_ (some 60) rfl rfl Try.func10 (by kernel_rfl) rfl #[.int .u32 a0, .int .i64 (wrap64 ((Int.tmod (wrap64 ((Int.tmod a1 16) + 16)) 16) + (Int.tmod (wrap64 ((Int.tmod a2 16) + 16)) 16)))] rfl (by (try simp only [List.map_toArray, List.map_cons, List.map_nil]); first | done | rfl | (simp only [List.length_drop, List.length_take]; rfl)) ?_; (with_reducible refine (word_Sar.calls a0 (wrap64 ((Int.tmod (wrap64 ((Int.tmod a1 16) + 16)) 16) + (Int.tmod (wrap64 ((Int.tmod a2 16) + 16)) 16))) t116 _ A22.out).mono ?_); rintro e w' ⟨rfl, ⟨nd, rfl⟩⟩; refine ⟨_, rfl, ?_⟩) | (go_at_call 11; (with_reducible refine (word_Sign.calls a0 (wrap64 (1 + (Int.tmod (wrap64 ((Int.tmod a1 31) + 31)) 31))) t117 _ A24.out).mono ?_); rintro e w' ⟨rfl, ⟨nd, rfl⟩⟩) | (go_at_call 11; (with_reducible refine (word_Sign.calls t117 (wrap64 (1 + (Int.tmod (wrap64 ((Int.tmod a1 31) + 31)) 31))) t118 _ A25.out).mono ?_); rintro e w' ⟨rfl, ⟨nd, rfl⟩⟩) | (go_at_call 12; (with_reducible refine (pianolalaw1_known.calls  t119 _ A27.out).mono ?_); rintro e w' ⟨rfl, ⟨nd, rfl⟩⟩) | (go_at_call 10; (with_reducible refine (word_Sar.calls a0 (Int.tmod (wrap64 ((Int.tmod a1 16) + 16)) 16) t114 _ A20.out).mono ?_); rintro e w' ⟨rfl, ⟨nd, rfl⟩⟩) | (go_at_call 10; (with_reducible refine (word_Sar.calls t114 (Int.tmod (wrap64 ((Int.tmod a2 16) + 16)) 16) t115 _ A21.out).mono ?_); rintro e w' ⟨rfl, ⟨nd, rfl⟩⟩) | (go_at_call 10; (with_reducible refine (word_Sar.calls a0 (wrap64 ((Int.tmod (wrap64 ((Int.tmod a1 16) + 16)) 16) + (Int.tmod (wrap64 ((Int.tmod a2 16) + 16)) 16))) t116 _ A22.out).mono ?_); rintro e w' ⟨rfl, ⟨nd, rfl⟩⟩))
            go_ret
            exact ⟨by first | rfl | (simp; done) | (simp [*]; done) | (simp; omega), by repeat (first | exact Drawn0.refl _ | apply Drawn0.step)⟩
          · rw [if_neg c26] at H
            have c26b0 : (t118 == t117) = false := beq_eq_false_iff_ne.mpr c26
            have c26b1 : (t118 != t117) = true := bne_iff_ne.mpr c26
            obtain rfl := Option.some.inj H
            go_wp2_with (first | ((with_reducible refine gate_callee (f := 10) rfl ?_); refine goesL_ (some 53) rfl rfl Try.func10 (by kernel_rfl) rfl #[.int .u32 a0, .int .i64 (Int.tmod (wrap64 ((Int.tmod a1 16) + 16)) 16)] rfl (by (try simp only [List.map_toArray, List.map_cons, List.map_nil]); first | done | rfl | (simp only [List.length_drop, List.length_take]; rfl)) ?_; (with_reducible refine (word_Sar.calls a0 (Int.tmod (wrap64 ((Int.tmod a1 16) + 16)) 16) t114 _ A20.out).mono ?_); rintro e w' ⟨rfl, ⟨nd, rfl⟩⟩; refine ⟨_, rfl, ?_⟩) | ((with_reducible refine gate_callee (f := 10) rfl ?_); refine goesL_ (some 55) rfl rfl Try.func10 (by kernel_rfl) rfl #[.int .u32 t114, .int .i64 (Int.tmod (wrap64 ((Int.tmod a2 16) + 16)) 16)] rfl (by (try simp only [List.map_toArray, List.map_cons, List.map_nil]); first | done | rfl | (simp only [List.length_drop, List.length_take]; rfl)) ?_; (with_reducible refine (word_Sar.calls t114 (Int.tmod (wrap64 ((Int.tmod a2 16) + 16)) 16) t115 _ A21.out).mono ?_); rintro e w' ⟨rfl, ⟨nd, rfl⟩⟩; refine ⟨_, rfl, ?_⟩) | ((with_reducible refine gate_callee (f := 10) rfl ?_); refine goesL_ (some 60) rfl rfl Try.func10 (by kernel_rfl) rfl #[.int .u32 a0, .int .i64 (wrap64 ((Int.tmod (wrap64 ((Int.tmod a1 16) + 16)) 16) + (Int.tmod (wrap64 ((Int.tmod a2 16) + 16)) 16)))] rfl (by (try simp only [List.map_toArray, List.map_cons, List.map_nil]); first | done | rfl | (simp only [List.length_drop, List.length_take]; rfl)) ?_; (with_reducible refine (word_Sar.calls a0 (wrap64 ((Int.tmod (wrap64 ((Int.tmod a1 16) + 16)) 16) + (Int.tmod (wrap64 ((Int.tmod a2 16) + 16)) 16))) t116 _ A22.out).mono ?_); rintro e w' ⟨rfl, ⟨nd, rfl⟩⟩; refine ⟨_, rfl, ?_⟩) | (go_at_call 11; (with_reducible refine (word_Sign.calls a0 (wrap64 (1 + (Int.tmod (wrap64 ((Int.tmod a1 31) + 31)) 31))) t117 _ A24.out).mono ?_); rintro e w' ⟨rfl, ⟨nd, rfl⟩⟩) | (go_at_call 11; (with_reducible refine (word_Sign.calls t117 (wrap64 (1 + (Int.tmod (wrap64 ((Int.tmod a1 31) + 31)) 31))) t118 _ A25.out).mono ?_); rintro e w' ⟨rfl, ⟨nd, rfl⟩⟩) | (go_at_call 10; (with_reducible refine (word_Sar.calls a0 (Int.tmod (wrap64 ((Int.tmod a1 16) + 16)) 16) t114 _ A20.out).mono ?_); rintro e w' ⟨rfl, ⟨nd, rfl⟩⟩) | (go_at_call 10; (with_reducible refine (word_Sar.calls t114 (Int.tmod (wrap64 ((Int.tmod a2 16) + 16)) 16) t115 _ A21.out).mono ?_); rintro e w' ⟨rfl, ⟨nd, rfl⟩⟩) | (go_at_call 10; (with_reducible refine (word_Sar.calls a0 (wrap64 ((Int.tmod (wrap64 ((Int.tmod a1 16) + 16)) 16) + (Int.tmod (wrap64 ((Int.tmod a2 16) + 16)) 16))) t116 _ A22.out).mono ?_); rintro e w' ⟨rfl, ⟨nd, rfl⟩⟩))
            go_ret
            exact ⟨by first | rfl | (simp; done) | (simp [*]; done) | (simp; omega), by repeat (first | exact Drawn0.refl _ | apply Drawn0.step)⟩
        · rw [if_neg c23] at H
          have c23b0 : (t115 == t116) = false := beq_eq_false_iff_ne.mpr c23
          have c23b1 : (t115 != t116) = true := bne_iff_ne.mpr c23
          obtain rfl := Option.some.inj H
          go_wp2_with (first | ((with_reducible refine gate_callee (f := 10) rfl ?_); refine goesL_ (some 53) rfl rfl Try.func10 (by kernel_rfl) rfl #[.int .u32 a0, .int .i64 (Int.tmod (wrap64 ((Int.tmod a1 16) + 16)) 16)] rfl (by (try simp only [List.map_toArray, List.map_cons, List.map_nil]); first | done | rfl | (simp only [List.length_drop, List.length_take]; rfl)) ?_; (with_reducible refine (word_Sar.calls a0 (Int.tmod (wrap64 ((Int.tmod a1 16) + 16)) 16) t114 _ A20.out).mono ?_); rintro e w' ⟨rfl, ⟨nd, rfl⟩⟩; refine ⟨_, rfl, ?_⟩) | ((with_reducible refine gate_callee (f := 10) rfl ?_); refine goesL_ (some 55) rfl rfl Try.func10 (by kernel_rfl) rfl #[.int .u32 t114, .int .i64 (Int.tmod (wrap64 ((Int.tmod a2 16) + 16)) 16)] rfl (by (try simp only [List.map_toArray, List.map_cons, List.map_nil]); first | done | rfl | (simp only [List.length_drop, List.length_take]; rfl)) ?_; (with_reducible refine (word_Sar.calls t114 (Int.tmod (wrap64 ((Int.tmod a2 16) + 16)) 16) t115 _ A21.out).mono ?_); rintro e w' ⟨rfl, ⟨nd, rfl⟩⟩; refine ⟨_, rfl, ?_⟩) | ((with_reducible refine gate_callee (f := 10) rfl ?_); refine goesL_ (some 60) rfl rfl Try.func10 (by kernel_rfl) rfl #[.int .u32 a0, .int .i64 (wrap64 ((Int.tmod (wrap64 ((Int.tmod a1 16) + 16)) 16) + (Int.tmod (wrap64 ((Int.tmod a2 16) + 16)) 16)))] rfl (by (try simp only [List.map_toArray, List.map_cons, List.map_nil]); first | done | rfl | (simp only [List.length_drop, List.length_take]; rfl)) ?_; (with_reducible refine (word_Sar.calls a0 (wrap64 ((Int.tmod (wrap64 ((Int.tmod a1 16) + 16)) 16) + (Int.tmod (wrap64 ((Int.tmod a2 16) + 16)) 16))) t116 _ A22.out).mono ?_); rintro e w' ⟨rfl, ⟨nd, rfl⟩⟩; refine ⟨_, rfl, ?_⟩) | (go_at_call 10; (with_reducible refine (word_Sar.calls a0 (Int.tmod (wrap64 ((Int.tmod a1 16) + 16)) 16) t114 _ A20.out).mono ?_); rintro e w' ⟨rfl, ⟨nd, rfl⟩⟩) | (go_at_call 10; (with_reducible refine (word_Sar.calls t114 (Int.tmod (wrap64 ((Int.tmod a2 16) + 16)) 16) t115 _ A21.out).mono ?_); rintro e w' ⟨rfl, ⟨nd, rfl⟩⟩) | (go_at_call 10; (with_reducible refine (word_Sar.calls a0 (wrap64 ((Int.tmod (wrap64 ((Int.tmod a1 16) + 16)) 16) + (Int.tmod (wrap64 ((Int.tmod a2 16) + 16)) 16))) t116 _ A22.out).mono ?_); rintro e w' ⟨rfl, ⟨nd, rfl⟩⟩))
          go_ret
          exact ⟨by first | rfl | (simp; done) | (simp [*]; done) | (simp; omega), by repeat (first | exact Drawn0.refl _ | apply Drawn0.step)⟩

/-- THE ONE PURE STATEMENT of pianolalaw1_WordShifts: yours. -/
def pianolalaw1_WordShifts.Pure : Prop := ∀ (a0 : Int) (a1 : Int) (a2 : Int), (Lit.int .u32 a0).wf = true → (Lit.int .i64 a1).wf = true → (Lit.int .i64 a2).wf = true → ∃ k, pianolalaw1_WordShifts.f k a0 a1 a2 = some true
theorem pianolalaw1_WordShifts.walk (P : pianolalaw1_WordShifts.Pure) (a0 : Int) (a1 : Int) (a2 : Int) (w : World) (w0 : (Lit.int .u32 a0).wf = true) (w1 : (Lit.int .i64 a1).wf = true) (w2 : (Lit.int .i64 a2).wf = true) :
    Calls Try.prog 3 #[.int .u32 a0, .int .i64 a1, .int .i64 a2] w fun e w' => e = .returned (.bool true) ∧ Below w.heap.size w w' := by
  obtain ⟨k, h⟩ := P a0 a1 a2 w0 w1 w2
  refine (pianolalaw1_WordShifts.calls k a0 a1 a2 true w h).mono ?_
  rintro e w' ⟨rfl, hd⟩
  exact ⟨rfl, hd.below⟩

/-! ### word_Less: function 13 -/
def word_Less.f (a0 : Int) (a1 : Int) (a2 : Bool) : Option (Bool) := if a2 = true then (some (decide ((wrap32 (a0)) < (wrap32 (a1))))) else (some (decide (a0 < a1)))
set_option maxHeartbeats 8000000 in
set_option maxRecDepth 100000 in
theorem word_Less.calls (a0 : Int) (a1 : Int) (a2 : Bool) (r : Bool) (w : World) (h : word_Less.f a0 a1 a2 = some r) :
    Calls Try.prog 13 #[.int .u32 a0, .int .u32 a1, .bool a2] w fun e w' => e = .returned (.bool r) ∧ Drawn0 w w' := by
  have H : (if a2 = true then (some (decide ((wrap32 (a0)) < (wrap32 (a1))))) else (some (decide (a0 < a1)))) = some r := h
  clear h
  by_cases c4 : a2 = true
  · subst c4
    have H1 : (some (decide ((wrap32 (a0)) < (wrap32 (a1))))) = some r := by rw [if_pos rfl] at H; exact H
    clear H
    have H := H1
    clear H1
    obtain rfl := Option.some.inj H
    go_enter Try.func13, Try.ntmps13
    go_wp2
    go_ret
    exact ⟨by first | rfl | (simp; done) | (simp [*]; done) | (simp; omega), by repeat (first | exact Drawn0.refl _ | apply Drawn0.step)⟩
  · replace c4 := Bool.eq_false_iff.mpr c4
    subst c4
    have H1 : (some (decide (a0 < a1))) = some r := by rw [if_neg (show ¬ (false = true) by decide)] at H; exact H
    clear H
    have H := H1
    clear H1
    obtain rfl := Option.some.inj H
    go_enter Try.func13, Try.ntmps13
    go_wp2
    go_ret
    exact ⟨by first | rfl | (simp; done) | (simp [*]; done) | (simp; omega), by repeat (first | exact Drawn0.refl _ | apply Drawn0.step)⟩

end Go.Proofs.Ytdagmhgmegpdpaa.Q
