-- Written by a program of this session: a turned copy of the kit's print (wip/print/fork.py), whose words lie beside.
import Derived.Test.YtimbfflnlalanaaQx0
namespace Go.Proofs.Ytimbfflnlalanaa.Q
open Go.RowKit Go.Proofs.YtimbfflnlalanaaW.PrintWords Go.Proofs.YtimbfflnlalanaaW.PrintLast Go.Proofs.YtimbfflnlalanaaW.PrintMore
attribute [local go_sem] max2_int min2_int max_two min_two max_three min_three max_four min_four   -- for this text's walks alone
set_option linter.unusedVariables false
set_option linter.unusedSimpArgs false

/-! ### alu_Is: function 14 -/
def alu_Is.f (a0 : Int) : Option (Bool) := if a0 ≥ 1 then (if a0 ≤ 6 then (some true) else (if a0 ≥ 22 then (if a0 ≤ 31 then (some true) else (if a0 ≥ 46 then (if a0 ≤ 53 then (some true) else (if a0 ≥ 63 then (some (decide (a0 ≤ 65))) else (some false))) else (if a0 ≥ 63 then (some (decide (a0 ≤ 65))) else (some false)))) else (if a0 ≥ 46 then (if a0 ≤ 53 then (some true) else (if a0 ≥ 63 then (some (decide (a0 ≤ 65))) else (some false))) else (if a0 ≥ 63 then (some (decide (a0 ≤ 65))) else (some false))))) else (if a0 ≥ 22 then (if a0 ≤ 31 then (some true) else (if a0 ≥ 46 then (if a0 ≤ 53 then (some true) else (if a0 ≥ 63 then (some (decide (a0 ≤ 65))) else (some false))) else (if a0 ≥ 63 then (some (decide (a0 ≤ 65))) else (some false)))) else (if a0 ≥ 46 then (if a0 ≤ 53 then (some true) else (if a0 ≥ 63 then (some (decide (a0 ≤ 65))) else (some false))) else (if a0 ≥ 63 then (some (decide (a0 ≤ 65))) else (some false))))
set_option maxHeartbeats 8000000 in
set_option maxRecDepth 100000 in
theorem alu_Is.calls (a0 : Int) (r : Bool) (w : World) (h : alu_Is.f a0 = some r) :
    Calls Try.prog 14 #[.int .i64 a0] w fun e w' => e = .returned (.bool r) ∧ Drawn0 w w' := by
  have H : (if a0 ≥ 1 then (if a0 ≤ 6 then (some true) else (if a0 ≥ 22 then (if a0 ≤ 31 then (some true) else (if a0 ≥ 46 then (if a0 ≤ 53 then (some true) else (if a0 ≥ 63 then (some (decide (a0 ≤ 65))) else (some false))) else (if a0 ≥ 63 then (some (decide (a0 ≤ 65))) else (some false)))) else (if a0 ≥ 46 then (if a0 ≤ 53 then (some true) else (if a0 ≥ 63 then (some (decide (a0 ≤ 65))) else (some false))) else (if a0 ≥ 63 then (some (decide (a0 ≤ 65))) else (some false))))) else (if a0 ≥ 22 then (if a0 ≤ 31 then (some true) else (if a0 ≥ 46 then (if a0 ≤ 53 then (some true) else (if a0 ≥ 63 then (some (decide (a0 ≤ 65))) else (some false))) else (if a0 ≥ 63 then (some (decide (a0 ≤ 65))) else (some false)))) else (if a0 ≥ 46 then (if a0 ≤ 53 then (some true) else (if a0 ≥ 63 then (some (decide (a0 ≤ 65))) else (some false))) else (if a0 ≥ 63 then (some (decide (a0 ≤ 65))) else (some false))))) = some r := h
  clear h
  by_cases c2 : a0 ≥ 1
  · rw [if_pos c2] at H
    have c2b0 : decide (1 ≤ a0) = true := decide_eq_true c2
    clear c2
    by_cases c3 : a0 ≤ 6
    · rw [if_pos c3] at H
      have c3b0 : decide (a0 ≤ 6) = true := decide_eq_true c3
      clear c3
      obtain rfl := Option.some.inj H
      go_enter Try.func14, Try.ntmps14
      go_wp2
      go_ret
      exact ⟨by first | rfl | (simp; done) | (simp [*]; done) | (simp; omega), by repeat (first | exact Drawn0.refl _ | apply Drawn0.step)⟩
    · rw [if_neg c3] at H
      have c3b0 : decide (a0 ≤ 6) = false := decide_eq_false c3
      clear c3
      by_cases c4 : a0 ≥ 22
      · rw [if_pos c4] at H
        have c4b0 : decide (22 ≤ a0) = true := decide_eq_true c4
        clear c4
        by_cases c5 : a0 ≤ 31
        · rw [if_pos c5] at H
          have c5b0 : decide (a0 ≤ 31) = true := decide_eq_true c5
          clear c5
          obtain rfl := Option.some.inj H
          go_enter Try.func14, Try.ntmps14
          go_wp2
          go_ret
          exact ⟨by first | rfl | (simp; done) | (simp [*]; done) | (simp; omega), by repeat (first | exact Drawn0.refl _ | apply Drawn0.step)⟩
        · rw [if_neg c5] at H
          have c5b0 : decide (a0 ≤ 31) = false := decide_eq_false c5
          clear c5
          by_cases c6 : a0 ≥ 46
          · rw [if_pos c6] at H
            have c6b0 : decide (46 ≤ a0) = true := decide_eq_true c6
            clear c6
            by_cases c7 : a0 ≤ 53
            · rw [if_pos c7] at H
              have c7b0 : decide (a0 ≤ 53) = true := decide_eq_true c7
              clear c7
              obtain rfl := Option.some.inj H
              go_enter Try.func14, Try.ntmps14
              go_wp2
              go_ret
              exact ⟨by first | rfl | (simp; done) | (simp [*]; done) | (simp; omega), by repeat (first | exact Drawn0.refl _ | apply Drawn0.step)⟩
            · rw [if_neg c7] at H
              have c7b0 : decide (a0 ≤ 53) = false := decide_eq_false c7
              clear c7
              by_cases c8 : a0 ≥ 63
              · rw [if_pos c8] at H
                have c8b0 : decide (63 ≤ a0) = true := decide_eq_true c8
                clear c8
                obtain rfl := Option.some.inj H
                go_enter Try.func14, Try.ntmps14
                go_wp2
                go_ret
                exact ⟨by first | rfl | (simp; done) | (simp [*]; done) | (simp; omega), by repeat (first | exact Drawn0.refl _ | apply Drawn0.step)⟩
              · rw [if_neg c8] at H
                have c8b0 : decide (63 ≤ a0) = false := decide_eq_false c8
                clear c8
                obtain rfl := Option.some.inj H
                go_enter Try.func14, Try.ntmps14
                go_wp2
                go_ret
                exact ⟨by first | rfl | (simp; done) | (simp [*]; done) | (simp; omega), by repeat (first | exact Drawn0.refl _ | apply Drawn0.step)⟩
          · rw [if_neg c6] at H
            have c6b0 : decide (46 ≤ a0) = false := decide_eq_false c6
            clear c6
            by_cases c9 : a0 ≥ 63
            · rw [if_pos c9] at H
              have c9b0 : decide (63 ≤ a0) = true := decide_eq_true c9
              clear c9
              obtain rfl := Option.some.inj H
              go_enter Try.func14, Try.ntmps14
              go_wp2
              go_ret
              exact ⟨by first | rfl | (simp; done) | (simp [*]; done) | (simp; omega), by repeat (first | exact Drawn0.refl _ | apply Drawn0.step)⟩
            · rw [if_neg c9] at H
              have c9b0 : decide (63 ≤ a0) = false := decide_eq_false c9
              clear c9
              obtain rfl := Option.some.inj H
              go_enter Try.func14, Try.ntmps14
              go_wp2
              go_ret
              exact ⟨by first | rfl | (simp; done) | (simp [*]; done) | (simp; omega), by repeat (first | exact Drawn0.refl _ | apply Drawn0.step)⟩
      · rw [if_neg c4] at H
        have c4b0 : decide (22 ≤ a0) = false := decide_eq_false c4
        clear c4
        by_cases c10 : a0 ≥ 46
        · rw [if_pos c10] at H
          have c10b0 : decide (46 ≤ a0) = true := decide_eq_true c10
          clear c10
          by_cases c11 : a0 ≤ 53
          · rw [if_pos c11] at H
            have c11b0 : decide (a0 ≤ 53) = true := decide_eq_true c11
            clear c11
            obtain rfl := Option.some.inj H
            go_enter Try.func14, Try.ntmps14
            go_wp2
            go_ret
            exact ⟨by first | rfl | (simp; done) | (simp [*]; done) | (simp; omega), by repeat (first | exact Drawn0.refl _ | apply Drawn0.step)⟩
          · rw [if_neg c11] at H
            have c11b0 : decide (a0 ≤ 53) = false := decide_eq_false c11
            clear c11
            by_cases c12 : a0 ≥ 63
            · rw [if_pos c12] at H
              have c12b0 : decide (63 ≤ a0) = true := decide_eq_true c12
              clear c12
              obtain rfl := Option.some.inj H
              go_enter Try.func14, Try.ntmps14
              go_wp2
              go_ret
              exact ⟨by first | rfl | (simp; done) | (simp [*]; done) | (simp; omega), by repeat (first | exact Drawn0.refl _ | apply Drawn0.step)⟩
            · rw [if_neg c12] at H
              have c12b0 : decide (63 ≤ a0) = false := decide_eq_false c12
              clear c12
              obtain rfl := Option.some.inj H
              go_enter Try.func14, Try.ntmps14
              go_wp2
              go_ret
              exact ⟨by first | rfl | (simp; done) | (simp [*]; done) | (simp; omega), by repeat (first | exact Drawn0.refl _ | apply Drawn0.step)⟩
        · rw [if_neg c10] at H
          have c10b0 : decide (46 ≤ a0) = false := decide_eq_false c10
          clear c10
          by_cases c13 : a0 ≥ 63
          · rw [if_pos c13] at H
            have c13b0 : decide (63 ≤ a0) = true := decide_eq_true c13
            clear c13
            obtain rfl := Option.some.inj H
            go_enter Try.func14, Try.ntmps14
            go_wp2
            go_ret
            exact ⟨by first | rfl | (simp; done) | (simp [*]; done) | (simp; omega), by repeat (first | exact Drawn0.refl _ | apply Drawn0.step)⟩
          · rw [if_neg c13] at H
            have c13b0 : decide (63 ≤ a0) = false := decide_eq_false c13
            clear c13
            obtain rfl := Option.some.inj H
            go_enter Try.func14, Try.ntmps14
            go_wp2
            go_ret
            exact ⟨by first | rfl | (simp; done) | (simp [*]; done) | (simp; omega), by repeat (first | exact Drawn0.refl _ | apply Drawn0.step)⟩
  · rw [if_neg c2] at H
    have c2b0 : decide (1 ≤ a0) = false := decide_eq_false c2
    clear c2
    by_cases c14 : a0 ≥ 22
    · rw [if_pos c14] at H
      have c14b0 : decide (22 ≤ a0) = true := decide_eq_true c14
      clear c14
      by_cases c15 : a0 ≤ 31
      · rw [if_pos c15] at H
        have c15b0 : decide (a0 ≤ 31) = true := decide_eq_true c15
        clear c15
        obtain rfl := Option.some.inj H
        go_enter Try.func14, Try.ntmps14
        go_wp2
        go_ret
        exact ⟨by first | rfl | (simp; done) | (simp [*]; done) | (simp; omega), by repeat (first | exact Drawn0.refl _ | apply Drawn0.step)⟩
      · rw [if_neg c15] at H
        have c15b0 : decide (a0 ≤ 31) = false := decide_eq_false c15
        clear c15
        by_cases c16 : a0 ≥ 46
        · rw [if_pos c16] at H
          have c16b0 : decide (46 ≤ a0) = true := decide_eq_true c16
          clear c16
          by_cases c17 : a0 ≤ 53
          · rw [if_pos c17] at H
            have c17b0 : decide (a0 ≤ 53) = true := decide_eq_true c17
            clear c17
            obtain rfl := Option.some.inj H
            go_enter Try.func14, Try.ntmps14
            go_wp2
            go_ret
            exact ⟨by first | rfl | (simp; done) | (simp [*]; done) | (simp; omega), by repeat (first | exact Drawn0.refl _ | apply Drawn0.step)⟩
          · rw [if_neg c17] at H
            have c17b0 : decide (a0 ≤ 53) = false := decide_eq_false c17
            clear c17
            by_cases c18 : a0 ≥ 63
            · rw [if_pos c18] at H
              have c18b0 : decide (63 ≤ a0) = true := decide_eq_true c18
              clear c18
              obtain rfl := Option.some.inj H
              go_enter Try.func14, Try.ntmps14
              go_wp2
              go_ret
              exact ⟨by first | rfl | (simp; done) | (simp [*]; done) | (simp; omega), by repeat (first | exact Drawn0.refl _ | apply Drawn0.step)⟩
            · rw [if_neg c18] at H
              have c18b0 : decide (63 ≤ a0) = false := decide_eq_false c18
              clear c18
              obtain rfl := Option.some.inj H
              go_enter Try.func14, Try.ntmps14
              go_wp2
              go_ret
              exact ⟨by first | rfl | (simp; done) | (simp [*]; done) | (simp; omega), by repeat (first | exact Drawn0.refl _ | apply Drawn0.step)⟩
        · rw [if_neg c16] at H
          have c16b0 : decide (46 ≤ a0) = false := decide_eq_false c16
          clear c16
          by_cases c19 : a0 ≥ 63
          · rw [if_pos c19] at H
            have c19b0 : decide (63 ≤ a0) = true := decide_eq_true c19
            clear c19
            obtain rfl := Option.some.inj H
            go_enter Try.func14, Try.ntmps14
            go_wp2
            go_ret
            exact ⟨by first | rfl | (simp; done) | (simp [*]; done) | (simp; omega), by repeat (first | exact Drawn0.refl _ | apply Drawn0.step)⟩
          · rw [if_neg c19] at H
            have c19b0 : decide (63 ≤ a0) = false := decide_eq_false c19
            clear c19
            obtain rfl := Option.some.inj H
            go_enter Try.func14, Try.ntmps14
            go_wp2
            go_ret
            exact ⟨by first | rfl | (simp; done) | (simp [*]; done) | (simp; omega), by repeat (first | exact Drawn0.refl _ | apply Drawn0.step)⟩
    · rw [if_neg c14] at H
      have c14b0 : decide (22 ≤ a0) = false := decide_eq_false c14
      clear c14
      by_cases c20 : a0 ≥ 46
      · rw [if_pos c20] at H
        have c20b0 : decide (46 ≤ a0) = true := decide_eq_true c20
        clear c20
        by_cases c21 : a0 ≤ 53
        · rw [if_pos c21] at H
          have c21b0 : decide (a0 ≤ 53) = true := decide_eq_true c21
          clear c21
          obtain rfl := Option.some.inj H
          go_enter Try.func14, Try.ntmps14
          go_wp2
          go_ret
          exact ⟨by first | rfl | (simp; done) | (simp [*]; done) | (simp; omega), by repeat (first | exact Drawn0.refl _ | apply Drawn0.step)⟩
        · rw [if_neg c21] at H
          have c21b0 : decide (a0 ≤ 53) = false := decide_eq_false c21
          clear c21
          by_cases c22 : a0 ≥ 63
          · rw [if_pos c22] at H
            have c22b0 : decide (63 ≤ a0) = true := decide_eq_true c22
            clear c22
            obtain rfl := Option.some.inj H
            go_enter Try.func14, Try.ntmps14
            go_wp2
            go_ret
            exact ⟨by first | rfl | (simp; done) | (simp [*]; done) | (simp; omega), by repeat (first | exact Drawn0.refl _ | apply Drawn0.step)⟩
          · rw [if_neg c22] at H
            have c22b0 : decide (63 ≤ a0) = false := decide_eq_false c22
            clear c22
            obtain rfl := Option.some.inj H
            go_enter Try.func14, Try.ntmps14
            go_wp2
            go_ret
            exact ⟨by first | rfl | (simp; done) | (simp [*]; done) | (simp; omega), by repeat (first | exact Drawn0.refl _ | apply Drawn0.step)⟩
      · rw [if_neg c20] at H
        have c20b0 : decide (46 ≤ a0) = false := decide_eq_false c20
        clear c20
        by_cases c23 : a0 ≥ 63
        · rw [if_pos c23] at H
          have c23b0 : decide (63 ≤ a0) = true := decide_eq_true c23
          clear c23
          obtain rfl := Option.some.inj H
          go_enter Try.func14, Try.ntmps14
          go_wp2
          go_ret
          exact ⟨by first | rfl | (simp; done) | (simp [*]; done) | (simp; omega), by repeat (first | exact Drawn0.refl _ | apply Drawn0.step)⟩
        · rw [if_neg c23] at H
          have c23b0 : decide (63 ≤ a0) = false := decide_eq_false c23
          clear c23
          obtain rfl := Option.some.inj H
          go_enter Try.func14, Try.ntmps14
          go_wp2
          go_ret
          exact ⟨by first | rfl | (simp; done) | (simp [*]; done) | (simp; omega), by repeat (first | exact Drawn0.refl _ | apply Drawn0.step)⟩

/-! ### word_Sar: function 30 -/
def word_Sar.f (a0 : Int) (a1 : Int) : Option (Int) := if 0 ≤ (Go.bits .and .i64 a1 31) then (some ((shr .i32 (wrap32 (a0)) (Go.bits .and .i64 a1 31)) % 4294967296)) else (none)
set_option maxHeartbeats 8000000 in
set_option maxRecDepth 100000 in
theorem word_Sar.calls (a0 : Int) (a1 : Int) (r : Int) (w : World) (h : word_Sar.f a0 a1 = some r) :
    Calls Try.prog 30 #[.int .u32 a0, .int .i64 a1] w fun e w' => e = .returned (.int .u32 r) ∧ Drawn0 w w' := by
  have H : (if 0 ≤ (Go.bits .and .i64 a1 31) then (some ((shr .i32 (wrap32 (a0)) (Go.bits .and .i64 a1 31)) % 4294967296)) else (none)) = some r := h
  clear h
  by_cases c3 : 0 ≤ (Go.bits .and .i64 a1 31)
  · rw [if_pos c3] at H
    have c3b0 := eq_true c3
    have c3b1 : decide (0 ≤ (Go.bits .and .i64 a1 31)) = true := decide_eq_true c3
    clear c3
    obtain ⟨ji4, hji4⟩ : ∃ j_ : Int, (shr .i32 (wrap32 (a0)) (Go.bits .and .i64 a1 31)) = j_ := ⟨_, rfl⟩
    replace H : (some ((ji4) % 4294967296)) = some r := by first | (rw [hji4] at H; exact H) | (simp only [hji4] at H ⊢; exact H)
    have hji4_ : ((wrap32 (a0)) / 2 ^ min (Go.bits .and .i64 a1 31).toNat 32) = ji4 := hji4
    have hji4z : (Go.bits .and .i64 a1 31) ≤ 32 → ((wrap32 (a0)) / 2 ^ (Go.bits .and .i64 a1 31).toNat) = ji4 := shr_small hji4
    obtain rfl := Option.some.inj H
    go_enter Try.func30, Try.ntmps30
    go_wp2
    go_ret
    exact ⟨by first | rfl | (simp; done) | (simp only [← hji4] <;> (first | rfl | simp)) | (simp [*]; done), by repeat (first | exact Drawn0.refl _ | apply Drawn0.step)⟩
  · rw [if_neg c3] at H
    exact absurd H (by simp)

end Go.Proofs.Ytimbfflnlalanaa.Q
