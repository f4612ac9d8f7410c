/- What package alu and the reference of chapter 4 come to: the same. Conditions: words are of 32 bits, Shift an int. -/
import Derived.Test.YtimbfflnlalanaaWX
import Derived.Test.YtimbfflnlalanaaQx6
import Derived.Test.YtimbfflnlalanaaQx15
import Derived.Test.YtimbfflnlalanaaQx7
import Derived.Test.YtimbfflnlalanaaQx11
import Derived.Test.YtimbfflnlalanaaQx10
import Derived.Test.YtimbfflnlalanaaQx13
import Derived.Test.YtimbfflnlalanaaQx12
import Derived.Test.YtimbfflnlalanaaQx14
import Derived.Test.YtimbfflnlalanaaQx1

namespace Go.Proofs.Ytimbfflnlalanaa.A1
open Go.RowKit Go.Proofs.Ytimbfflnlalanaa.Q Go.Proofs.YtimbfflnlalanaaW.PrintWords Go.Proofs.YtimbfflnlalanaaW.PrintLast Go.Proofs.YtimbfflnlalanaaW.PrintMore Go.Proofs.Ytimbfflnlalanaa.U Go.Proofs.Ytimbfflnlalanaa.WS Go.Proofs.Ytimbfflnlalanaa.WX
set_option linter.unusedVariables false
set_option linter.unusedSimpArgs false

theorem is_eq (i : Int) : pianolaref4_Is.f i = alu_Is.f i := by
  unfold pianolaref4_Is.f alu_Is.f
  have e : ∀ i : Int, (if i = 63 then some true else if i = 64 then some true else some (i == 65)) = (if i ≥ 63 then some (decide (i ≤ 65)) else some false) := by
    intro i
    by_cases a : i = 63
    · subst a; rfl
    by_cases b : i = 64
    · subst b; rfl
    by_cases c : i = 65
    · subst c; rfl
    rw [if_neg a, if_neg b, beq_eq_false_iff_ne.2 c]
    by_cases d : i ≥ 63
    · rw [if_pos d, decide_eq_false (by omega)]
    · rw [if_neg d]
  rw [e]

/-- does a Kind give a number of two words? -/
def isB (i : Int) : Bool := decide ((1 ≤ i ∧ i ≤ 6) ∨ (22 ≤ i ∧ i ≤ 31) ∨ (46 ≤ i ∧ i ≤ 53) ∨ (63 ≤ i ∧ i ≤ 65))

theorem is_f (i : Int) : alu_Is.f i = some (isB i) := by
  unfold alu_Is.f isB
  by_cases a : i ≥ 1
  · rw [if_pos a]
    by_cases b : i ≤ 6
    · rw [if_pos b, decide_eq_true (by omega)]
    · rw [if_neg b]
      by_cases c : i ≥ 22
      · rw [if_pos c]
        by_cases d : i ≤ 31
        · rw [if_pos d, decide_eq_true (by omega)]
        · rw [if_neg d]
          by_cases e : i ≥ 46
          · rw [if_pos e]
            by_cases f : i ≤ 53
            · rw [if_pos f, decide_eq_true (by omega)]
            · rw [if_neg f]
              by_cases g : i ≥ 63
              · rw [if_pos g]; congr 1; rw [decide_eq_decide]; omega
              · rw [if_neg g, decide_eq_false (by omega)]
          · rw [if_neg e, if_neg (by omega), decide_eq_false (by omega)]
      · rw [if_neg c, if_neg (by omega), if_neg (by omega), decide_eq_false (by omega)]
  · rw [if_neg a, if_neg (by omega), if_neg (by omega), if_neg (by omega), decide_eq_false (by omega)]

theorem into_eq (i s t d h m : Int) : pianolaref4_Into.f i s t d h m = alu_Into.f i s t d h m := by
  unfold pianolaref4_Into.f alu_Into.f
  rw [is_eq]

theorem into_some (i s t d h m : Int) : (alu_Into.f i s t d h m).isSome = true := by
  unfold alu_Into.f
  rw [is_f]
  simp only [Option.bind_some]
  repeat' split
  all_goals rfl

theorem traps_eq (k : Nat) (hk : 2 ≤ k) (i s t d h m x y : Int) (hm : 0 ≤ m ∧ m < 4294967296) (hx : 0 ≤ x ∧ x < 4294967296) (hy : 0 ≤ y ∧ y < 4294967296) :
    pianolaref4_Traps.f k i s t d h m x y = alu_Traps.f k i s t d h m x y ∧ (alu_Traps.f k i s t d h m x y).isSome = true := by
  obtain ⟨k, rfl⟩ : ∃ q, k = q + 1 := ⟨k - 1, by omega⟩
  have r := sgn_range m 16 hm.1 hm.2
  unfold pianolaref4_Traps.f alu_Traps.f
  simp only [pianolaref4_Traps.j0, alu_Traps.j0, sign_f m 16 hm.1 hm.2, sign_ref m 16 hm.1 hm.2, Option.bind_some, less_ref x y true hx hy, over_ref x (sgn m 16) false hx r, over_ref x y _ hx hy]
  refine ⟨trivial, ?_⟩
  obtain ⟨o1, p1⟩ := over_some x y (i == 24)
  obtain ⟨o2, p2⟩ := over_some x (sgn m 16) false
  obtain ⟨o3, p3⟩ := less_some x y true
  rw [p1, p2, p3]
  simp only [Option.bind_some]
  repeat' split
  all_goals rfl

theorem halves_eq (k : Nat) (hk : 4 ≤ k) (i s t d h m x y hi lo : Int) (hx : 0 ≤ x ∧ x < 4294967296) (hy : 0 ≤ y ∧ y < 4294967296) :
    pianolaref4_Halves.f k i s t d h m x y hi lo = alu_Halves.f k i s t d h m x y hi lo ∧ (alu_Halves.f k i s t d h m x y hi lo).isSome = true := by
  obtain ⟨k, rfl⟩ : ∃ q, k = q + 3 := ⟨k - 3, by omega⟩
  unfold pianolaref4_Halves.f alu_Halves.f
  simp only [pianolaref4_Halves.j0, alu_Halves.j0, pianolaref4_Halves.j1, alu_Halves.j1, mul_ref (k + 1) x y _ hx hy, div_ref x y _ hx hy]
  refine ⟨trivial, ?_⟩
  obtain ⟨q1, r1, p1⟩ := mul_some x y (i == 18)
  obtain ⟨q2, r2, p2⟩ := div_some x y (i == 20) hy
  rw [p1, p2]
  simp only [Option.bind_some]
  repeat' split
  all_goals rfl

theorem shift_f (k : Nat) (hk : 33 ≤ k) (how v n : Int) (hv : 0 ≤ v ∧ v < 4294967296) (hn : -9223372036854775808 ≤ n ∧ n < 9223372036854775808) :
    pianolaref4_shift.f k how v n = some (if how = 0 then shl .u32 v (n % 32) else if how = 1 then shr .u32 v (n % 32) else wrap32 v / 2 ^ (n % 32).toNat % 4294967296) := by
  unfold pianolaref4_shift.f
  rw [tmod_pos n 32 (by decide) (by decide), wrap_u64, show n % 32 % 18446744073709551616 = n % 32 by omega, sar_ref k v n (by omega) hv.1 hv.2 hn.1 hn.2, sar_f]
  simp only [if_pos (show 0 ≤ n % 32 by omega), Option.bind_some]
  split
  · rfl
  · split <;> rfl

/-- the number that an instruction gives -/
def doV (i h m x y : Int) : Int :=
  if i = 1 then shl .u32 y (h % 32) else if i = 2 then shr .u32 y (h % 32) else if i = 3 then wrap32 y / 2 ^ (h % 32).toNat % 4294967296
  else if i = 4 then shl .u32 y (x % 32) else if i = 5 then shr .u32 y (x % 32) else if i = 6 then wrap32 y / 2 ^ (x % 32).toNat % 4294967296
  else if i = 22 ∨ i = 23 then (x + y) % 4294967296 else if i = 24 ∨ i = 25 then (x - y) % 4294967296 else if i = 26 then Go.bits .and .u32 x y else if i = 27 then Go.bits .or .u32 x y else if i = 28 then Go.bits .xor .u32 x y
  else if i = 29 then Go.bits .xor .u32 IntKind.u32.max (Go.bits .or .u32 x y) else if i = 30 ∨ i = 31 then (if ((word_Less.f x y (i == 30)).getD false) = true then 1 else 0)
  else if i = 46 ∨ i = 47 then (x + sgn m 16) % 4294967296 else if i = 48 ∨ i = 49 then (if ((word_Less.f x (sgn m 16) (i == 48)).getD false) = true then 1 else 0)
  else if i = 50 then Go.bits .and .u32 x (Go.bits .and .u32 m 65535) else if i = 51 then Go.bits .or .u32 x (Go.bits .and .u32 m 65535) else if i = 52 then Go.bits .xor .u32 x (Go.bits .and .u32 m 65535)
  else if i = 53 then (Go.bits .and .u32 m 65535 * 65536) % 4294967296 else if i = 63 then ((word_Mul.f x y true).getD (0, 0)).2 else if i = 64 then ((word_Clz.f x).getD 0) % 4294967296 else if i = 65 then ((word_Clo.f x).getD 0) % 4294967296 else 0

theorem bit_eq (b : Bool) : pianolaref4_bit.f b = alu_one.f b := rfl

theorem do_ref (k : Nat) (hk : 50 ≤ k) (i s t d h m x y : Int) (hm : 0 ≤ m ∧ m < 4294967296) (hx : 0 ≤ x ∧ x < 4294967296) (hy : 0 ≤ y ∧ y < 4294967296) (hh : -9223372036854775808 ≤ h ∧ h < 9223372036854775808) :
    pianolaref4_Do.f k i s t d h m x y = some (doV i h m x y, isB i) := by
  obtain ⟨k, rfl⟩ : ∃ q, k = q + 7 := ⟨k - 7, by omega⟩
  have r := sgn_range m 16 hm.1 hm.2
  obtain ⟨o1, p1⟩ := less_some x y (i == 30)
  obtain ⟨o2, p2⟩ := less_some x (sgn m 16) (i == 48)
  obtain ⟨q1, r1, p3⟩ := mul_some x y true
  have p4 := clz_f x hx.1 hx.2
  have p5 := clo_f x hx.1 hx.2
  have hx32 : wrap64 (Int.tmod x 32) = x % 32 := by rw [Int.tmod_eq_emod_of_nonneg hx.1]; unfold wrap64; omega
  have hx33 : x % 32 % 32 = x % 32 := by omega
  unfold pianolaref4_Do.f doV
  rw [sign_ref m 16 hm.1 hm.2, p1, p2, p3, p4, p5]
  simp only [Option.bind_some, Option.getD_some, pianolaref4_Do.j0, pianolaref4_Do.j1, pianolaref4_Do.j2, pianolaref4_Do.j3, pianolaref4_Do.j4, pianolaref4_Do.j5, pianolaref4_Do.j6, less_ref x y _ hx hy, less_ref x (sgn m 16) _ hx r, p1, p2, hx32,
    shift_f (k + 6) (by omega) _ y h hy hh, shift_f (k + 5) (by omega) _ y (x % 32) hy (by omega), hx33, beq_iff_eq, bit_eq, alu_one.f]
  have m0 : ∃ q, k = q + 1 := ⟨k - 1, by omega⟩
  obtain ⟨k, rfl⟩ := m0
  rw [mul_ref k x y true hx hy, clz_ref (k + 1) x (by omega) hx.1 hx.2, clo_ref (k + 1) x (by omega) hx.1 hx.2, p3, p4, p5]
  simp only [Option.bind_some]
  by_cases c1 : i = 1
  · subst c1; simp [isB, wrap64]
  by_cases c2 : i = 2
  · subst c2; simp [isB, wrap64]
  by_cases c3 : i = 3
  · subst c3; simp [isB, wrap64]
  by_cases c4 : i = 4
  · subst c4; simp [isB, wrap64]
  by_cases c5 : i = 5
  · subst c5; simp [isB, wrap64]
  by_cases c6 : i = 6
  · subst c6; simp [isB, wrap64]
  by_cases c22 : i = 22
  · subst c22; rfl
  by_cases c23 : i = 23
  · subst c23; rfl
  by_cases c24 : i = 24
  · subst c24; rfl
  by_cases c25 : i = 25
  · subst c25; rfl
  by_cases c26 : i = 26
  · subst c26; rfl
  by_cases c27 : i = 27
  · subst c27; rfl
  by_cases c28 : i = 28
  · subst c28; rfl
  by_cases c29 : i = 29
  · subst c29; rfl
  by_cases c30 : i = 30
  · subst c30; cases o1 <;> rfl
  by_cases c31 : i = 31
  · subst c31; cases o1 <;> rfl
  by_cases c46 : i = 46
  · subst c46; rfl
  by_cases c47 : i = 47
  · subst c47; rfl
  by_cases c48 : i = 48
  · subst c48; cases o2 <;> rfl
  by_cases c49 : i = 49
  · subst c49; cases o2 <;> rfl
  by_cases c50 : i = 50
  · subst c50; rfl
  by_cases c51 : i = 51
  · subst c51; rfl
  by_cases c52 : i = 52
  · subst c52; rfl
  by_cases c53 : i = 53
  · subst c53; rfl
  by_cases c63 : i = 63
  · subst c63; rfl
  by_cases c64 : i = 64
  · subst c64; rfl
  by_cases c65 : i = 65
  · subst c65; rfl
  have hb : isB i = false := by unfold isB; rw [decide_eq_false]; omega
  rw [hb]
  simp only [c1, c2, c3, c4, c5, c6, c22, c23, c24, c25, c26, c27, c28, c29, c30, c31, c46, c47, c48, c49, c50, c51, c52, c53, c63, c64, c65, if_false, false_or, or_self]

theorem shifted_f (k : Nat) (hk : 1 ≤ k) (i v n : Int) (hn : 0 ≤ n ∧ n < 32) :
    alu_shifted.f k i v n = some (if i = 1 ∨ i = 4 then shl .u32 v n else if i = 2 ∨ i = 5 then shr .u32 v n else wrap32 v / 2 ^ (n % 32).toNat % 4294967296) := by
  obtain ⟨k, rfl⟩ : ∃ q, k = q + 1 := ⟨k - 1, by omega⟩
  unfold alu_shifted.f
  simp only [alu_shifted.j0, beq_iff_eq, sar_f, Option.bind_some, if_pos hn.1]
  by_cases c1 : i = 1
  · simp [c1]
  by_cases c4 : i = 4
  · simp [c4]
  by_cases c2 : i = 2
  · simp [c2]
  by_cases c5 : i = 5
  · simp [c5]
  simp [c1, c2, c4, c5]

set_option maxHeartbeats 1000000 in
theorem do_f (k : Nat) (hk : 50 ≤ k) (i s t d h m x y : Int) (hm : 0 ≤ m ∧ m < 4294967296) (hx : 0 ≤ x ∧ x < 4294967296) (hy : 0 ≤ y ∧ y < 4294967296) :
    alu_Do.f k i s t d h m x y = some (doV i h m x y, isB i) := by
  obtain ⟨k, rfl⟩ : ∃ q, k = q + 8 := ⟨k - 8, by omega⟩
  have r := sgn_range m 16 hm.1 hm.2
  obtain ⟨o1, p1⟩ := less_some x y (i == 30)
  obtain ⟨o2, p2⟩ := less_some x (sgn m 16) (i == 48)
  obtain ⟨q1, r1, p3⟩ := mul_some x y true
  have p4 := clz_f x hx.1 hx.2
  have p5 := clo_f x hx.1 hx.2
  have hx32 : wrap64 (Go.bits .and .u32 x 31) = x % 32 := by
    obtain ⟨a, rfl⟩ := Int.eq_ofNat_of_zero_le hx.1
    have := and_low a (by omega) 5 (by decide)
    rw [show ((2 ^ 5 - 1 : Nat) : Int) = 31 from rfl, show (2 : Int) ^ 5 = 32 from rfl] at this
    rw [this]; unfold wrap64; omega
  have e1 : h % 32 % 32 = h % 32 := by omega
  have e2 : x % 32 % 32 = x % 32 := by omega
  unfold alu_Do.f doV
  rw [is_f, and31_i64, hx32, shifted_f (k + 8) (by omega) i y (h % 32) (by omega), shifted_f (k + 8) (by omega) i y (x % 32) (by omega), p1, p2, p3, p4, p5, e1, e2]
  simp only [alu_Do.j0, alu_with.f, alu_with.j0, alu_with.j1, alu_of.f, alu_of.j0, alu_of.j1, alu_of.j2, sign_f m 16 hm.1 hm.2, p1, p2, p3, p4, p5, Option.bind_some, Option.getD_some, beq_iff_eq, decide_eq_true_eq, alu_one.f]
  by_cases c1 : i = 1
  · subst c1; rfl
  by_cases c2 : i = 2
  · subst c2; rfl
  by_cases c3 : i = 3
  · subst c3; rfl
  by_cases c4 : i = 4
  · subst c4; rfl
  by_cases c5 : i = 5
  · subst c5; rfl
  by_cases c6 : i = 6
  · subst c6; rfl
  by_cases c22 : i = 22
  · subst c22; rfl
  by_cases c23 : i = 23
  · subst c23; rfl
  by_cases c24 : i = 24
  · subst c24; rfl
  by_cases c25 : i = 25
  · subst c25; rfl
  by_cases c26 : i = 26
  · subst c26; rfl
  by_cases c27 : i = 27
  · subst c27; rfl
  by_cases c28 : i = 28
  · subst c28; rfl
  by_cases c29 : i = 29
  · subst c29; rfl
  by_cases c30 : i = 30
  · subst c30; cases o1 <;> rfl
  by_cases c31 : i = 31
  · subst c31; cases o1 <;> rfl
  by_cases c46 : i = 46
  · subst c46; rfl
  by_cases c47 : i = 47
  · subst c47; rfl
  by_cases c48 : i = 48
  · subst c48; cases o2 <;> rfl
  by_cases c49 : i = 49
  · subst c49; cases o2 <;> rfl
  by_cases c50 : i = 50
  · subst c50; rfl
  by_cases c51 : i = 51
  · subst c51; rfl
  by_cases c52 : i = 52
  · subst c52; rfl
  by_cases c53 : i = 53
  · subst c53; rfl
  by_cases c63 : i = 63
  · subst c63; rfl
  by_cases c64 : i = 64
  · subst c64; rfl
  by_cases c65 : i = 65
  · subst c65; rfl
  have hb : isB i = false := by unfold isB; rw [decide_eq_false]; omega
  rw [hb]
  simp only [c1, c2, c3, c4, c5, c6, c22, c23, c24, c25, c26, c27, c28, c29, c30, c31, c46, c47, c48, c49, c50, c51, c52, c53, c63, c64, c65, if_false, false_or, or_self, Bool.false_eq_true]

theorem same_f (k : Nat) (hk : 50 ≤ k) (i s t d h m x y hi lo : Int) (hm : 0 ≤ m ∧ m < 4294967296) (hx : 0 ≤ x ∧ x < 4294967296) (hy : 0 ≤ y ∧ y < 4294967296) (hh : -9223372036854775808 ≤ h ∧ h < 9223372036854775808) :
    pianolalaw4_same.f k i s t d h m x y hi lo = some true := by
  have a := do_f k hk i s t d h m x y hm hx hy
  have b := do_ref k hk i s t d h m x y hm hx hy hh
  have c := halves_eq k (by omega) i s t d h m x y hi lo hx hy
  have e := traps_eq k (by omega) i s t d h m x y hm hx hy
  unfold pianolalaw4_same.f
  rw [if_pos ⟨⟨a.trans b.symm, c.1.symm, e.1.symm, (is_eq i).symm, (into_eq i s t d h m).symm⟩, by rw [a]; rfl, c.2, e.2, by rw [is_f]; rfl, into_some i s t d h m⟩]

theorem edge_f (i : Int) (n0 : -9223372036854775808 ≤ i) (n1 : i < 9223372036854775808) : ∃ v, pianolalaw4_edge.f i = some v ∧ 0 ≤ v ∧ v < 4294967296 := by
  unfold pianolalaw4_edge.f
  simp only [Option.bind_some]
  rw [tmod_pos i 13 (by decide) (by decide)]
  generalize hj : i % 13 = j
  have j0 : 0 ≤ j := by omega
  have j1 : j < 13 := by omega
  rw [if_pos j0, if_pos (by simpa using j1)]
  refine ⟨_, rfl, ?_⟩
  have : ∀ m : Fin 13, 0 ≤ rd [0, 1, 2, 31, 32, 32767, 32768, 65535, 2147483647, 2147483648, 2147483649, 4294967295, 1431655765] (m.val : Int) ∧ rd [0, 1, 2, 31, 32, 32767, 32768, 65535, 2147483647, 2147483648, 2147483649, 4294967295, 1431655765] (m.val : Int) < 4294967296 := by decide
  have := this ⟨j.toNat, by omega⟩
  rwa [show (((⟨j.toNat, by omega⟩ : Fin 13).val : Nat) : Int) = j from by simp; omega] at this

theorem known_f (k : Nat) (hk : 20 ≤ k) : pianolalaw4_known.f k = some true :=
  at_rounds (fun k => pianolalaw4_known.mono k) hk (by decide +kernel)

end Go.Proofs.Ytimbfflnlalanaa.A1
