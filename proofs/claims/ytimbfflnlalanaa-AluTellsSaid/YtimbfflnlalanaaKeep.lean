/- What pianolakeep's drawn instructions come to: Any and Plain give instructions that are right. Conditions: the drawn numbers are of their kinds. -/
import Derived.Test.YtimbfflnlalanaaU
import Derived.Test.YtimbfflnlalanaaQx22
import Derived.Test.YtimbfflnlalanaaQx21
namespace Go.Proofs.Ytimbfflnlalanaa.Keep
open Go.RowKit Go.Proofs.Ytimbfflnlalanaa.Q Go.Proofs.YtimbfflnlalanaaW.PrintWords Go.Proofs.YtimbfflnlalanaaW.PrintLast Go.Proofs.YtimbfflnlalanaaW.PrintMore Go.Proofs.Ytimbfflnlalanaa.U
set_option linter.unusedVariables false
set_option linter.unusedSimpArgs false

/-- the row of a Kind, as the reference's own table has it -/
def fld (kind : Nat) : ByteArray := ((pianolaref3_find.f 150 (kind : Int)).getD (0, 0, 0, ⟨#[]⟩, false)).2.2.2.1
def opOf (kind : Nat) : Int := ((pianolaref3_find.f 150 (kind : Int)).getD (0, 0, 0, ⟨#[]⟩, false)).1
def subOf (kind : Nat) : Int := ((pianolaref3_find.f 150 (kind : Int)).getD (0, 0, 0, ⟨#[]⟩, false)).2.1
def flag (kind : Nat) (c : Int) : Bool := (pianolaref3_has.f 10 (fld kind) c).getD false
def mostOf (kind : Nat) : Int := if flag kind 105 = true then 65535 else if flag kind 106 = true then 67108863 else 0

set_option maxRecDepth 100000 in
theorem find_table : ∀ kind : Fin 78, 0 < kind.val → pianolaref3_find.f 150 (kind.val : Int) = some (opOf kind.val, subOf kind.val, (kind.val : Int), fld kind.val, true) := by decide +kernel

theorem has_table : ∀ kind : Fin 78, ∀ c ∈ ([115, 116, 100, 104, 105, 106] : List Int), pianolaref3_has.f 10 (fld kind.val) c = some (flag kind.val c) := by decide +kernel

theorem find_kind (k : Nat) (hk : 150 ≤ k) (kind : Nat) (h0 : 0 < kind) (h1 : kind < 78) : pianolaref3_find.f k (kind : Int) = some (opOf kind, subOf kind, (kind : Int), fld kind, true) :=
  at_rounds (fun k => pianolaref3_find.mono _ k) hk (find_table ⟨kind, h1⟩ h0)

theorem has_kind (k : Nat) (hk : 10 ≤ k) (kind : Nat) (h1 : kind < 78) (c : Int) (hc : c ∈ ([115, 116, 100, 104, 105, 106] : List Int)) : pianolaref3_has.f k (fld kind) c = some (flag kind c) :=
  at_rounds (fun k => pianolaref3_has.mono _ _ k) hk (has_table ⟨kind, h1⟩ c hc)

/-- a number that a field may have -/
def smallB (n : Int) (is : Bool) : Bool := decide (n = 0) || (is && decide (0 < n) && decide (n < 32))

theorem small_f (n : Int) (is : Bool) : pianolaref3_small.f n is = some (smallB n is) := by
  unfold pianolaref3_small.f smallB
  by_cases c : n = 0
  · simp [c]
  · cases is
    · simp [c]
    · by_cases d : 0 < n <;> simp [c, d]

def rightB (kind : Nat) (s t d h imm : Int) : Bool := smallB s (flag kind 115) && smallB t (flag kind 116) && smallB d (flag kind 100) && smallB h (flag kind 104) && decide (imm ≤ mostOf kind)

theorem right_j0 (k : Nat) (hk : 10 ≤ k) (kind : Nat) (h1 : kind < 78) (m x s t d h imm : Int) :
    pianolaref3_Right.j0 (k + 1) (fld kind) m x s t d h imm = some (smallB s (flag kind 115) && smallB t (flag kind 116) && smallB d (flag kind 100) && smallB h (flag kind 104) && decide (imm ≤ m)) := by
  simp only [pianolaref3_Right.j0]
  rw [has_kind k hk kind h1 115 (by decide), has_kind k hk kind h1 116 (by decide), has_kind k hk kind h1 100 (by decide), has_kind k hk kind h1 104 (by decide)]
  simp only [Option.bind_some, small_f]
  generalize smallB s (flag kind 115) = p1
  generalize smallB t (flag kind 116) = p2
  generalize smallB d (flag kind 100) = p3
  generalize smallB h (flag kind 104) = p4
  cases p1 <;> cases p2 <;> cases p3 <;> cases p4 <;> simp

theorem right_f (k : Nat) (hk : 150 ≤ k) (kind : Nat) (h0 : 0 < kind) (h1 : kind < 78) (s t d h imm : Int) :
    pianolaref3_Right.f k (kind : Int) s t d h imm = some (rightB kind s t d h imm) := by
  unfold pianolaref3_Right.f
  rw [find_kind k hk kind h0 h1]
  simp only [Option.bind_some, if_true]
  rw [has_kind k (by omega) kind h1 105 (by decide), has_kind k (by omega) kind h1 106 (by decide)]
  simp only [Option.bind_some]
  obtain ⟨k, rfl⟩ : ∃ m, k = m + 1 := ⟨k - 1, by omega⟩
  unfold rightB mostOf
  by_cases c : flag kind 105 = true
  · rw [if_pos c, if_pos c, right_j0 k (by omega) kind h1]
  · rw [if_neg c, if_neg c]
    by_cases e : flag kind 106 = true
    · rw [if_pos e, if_pos e, right_j0 k (by omega) kind h1]
    · rw [if_neg e, if_neg e, right_j0 k (by omega) kind h1]

theorem most_pos (kind : Nat) : 0 ≤ mostOf kind ∧ mostOf kind ≤ 67108863 := by unfold mostOf; split <;> (try split) <;> omega

/-- the fields that a Kind has, of drawn ones -/
def immOf (kind : Nat) (m : Int) : Int := if mostOf kind = 0 then 0 else if m ≤ mostOf kind then m else m % 65536

theorem small_zero (is : Bool) : smallB 0 is = true := by simp [smallB]
theorem small_one (is : Bool) : smallB 1 is = is := by cases is <;> simp [smallB]

theorem wrap_next (f : Int) (h0 : 0 ≤ f) (h1 : f < 6) : wrap64 (f + 1) = f + 1 := by unfold wrap64; omega

set_option maxRecDepth 10000 in
theorem inst_l0 (k : Nat) (hk : 200 ≤ k) (kind : Nat) (h0 : 0 < kind) (h1 : kind < 78) (s t d h m : Int) (hm0 : 0 ≤ m) (hm1 : m < 67108864) :
    pianolakeep_Inst.l0 k 0 (kind : Int) s t d h m = some ((kind : Int), (if flag kind 115 = true then s else 0), (if flag kind 116 = true then t else 0), (if flag kind 100 = true then d else 0), (if flag kind 104 = true then h else 0), immOf kind m) := by
  have R : ∀ q, 150 ≤ q → ∀ s t d h imm : Int, pianolaref3_Right.f q (kind : Int) s t d h imm = some (rightB kind s t d h imm) := fun q hq s t d h imm => right_f q hq kind h0 h1 s t d h imm
  have mp := most_pos kind
  obtain ⟨k, rfl⟩ : ∃ q, k = q + 13 := ⟨k - 13, by omega⟩
  have S0 : ∀ (q : Nat) (hq : 150 ≤ q) (s t d h m : Int), pianolakeep_Inst.l0 (q + 2) 0 (kind : Int) s t d h m = pianolakeep_Inst.l0 q 1 (kind : Int) (if flag kind 115 = true then s else 0) t d h m := by
    intro q hq s t d h m
    simp only [pianolakeep_Inst.l0, pianolakeep_Inst.j1, pianolakeep_only.f]
    simp only [show ((0 : Int) < 6) from by decide, if_true, Option.bind_some]
    rw [R q hq, wrap_next 0 (by decide) (by decide)]
    simp only [rightB, small_zero, small_one, Option.bind_some, Bool.and_true, decide_eq_true mp.1]
    split <;> rfl
  have S1 : ∀ (q : Nat) (hq : 150 ≤ q) (s t d h m : Int), pianolakeep_Inst.l0 (q + 2) 1 (kind : Int) s t d h m = pianolakeep_Inst.l0 q 2 (kind : Int) s (if flag kind 116 = true then t else 0) d h m := by
    intro q hq s t d h m
    simp only [pianolakeep_Inst.l0, pianolakeep_Inst.j1, pianolakeep_only.f]
    simp only [show ((1 : Int) < 6) from by decide, show ¬ ((1 : Int) = 0) from by decide, if_true, if_false, Option.bind_some]
    rw [R q hq, wrap_next 1 (by decide) (by decide)]
    simp only [rightB, small_zero, small_one, Option.bind_some, Bool.and_true, Bool.true_and, decide_eq_true mp.1]
    split <;> rfl
  have S2 : ∀ (q : Nat) (hq : 150 ≤ q) (s t d h m : Int), pianolakeep_Inst.l0 (q + 2) 2 (kind : Int) s t d h m = pianolakeep_Inst.l0 q 3 (kind : Int) s t (if flag kind 100 = true then d else 0) h m := by
    intro q hq s t d h m
    simp only [pianolakeep_Inst.l0, pianolakeep_Inst.j1, pianolakeep_only.f]
    simp only [show ((2 : Int) < 6) from by decide, show ¬ ((2 : Int) = 0) from by decide, show ¬ ((2 : Int) = 1) from by decide, if_true, if_false, Option.bind_some]
    rw [R q hq, wrap_next 2 (by decide) (by decide)]
    simp only [rightB, small_zero, small_one, Option.bind_some, Bool.and_true, Bool.true_and, decide_eq_true mp.1]
    split <;> rfl
  have S3 : ∀ (q : Nat) (hq : 150 ≤ q) (s t d h m : Int), pianolakeep_Inst.l0 (q + 2) 3 (kind : Int) s t d h m = pianolakeep_Inst.l0 q 4 (kind : Int) s t d (if flag kind 104 = true then h else 0) m := by
    intro q hq s t d h m
    simp only [pianolakeep_Inst.l0, pianolakeep_Inst.j1, pianolakeep_only.f]
    simp only [show ((3 : Int) < 6) from by decide, show ¬ ((3 : Int) = 0) from by decide, show ¬ ((3 : Int) = 1) from by decide, show ¬ ((3 : Int) = 2) from by decide, if_true, if_false, Option.bind_some]
    rw [R q hq, wrap_next 3 (by decide) (by decide)]
    simp only [rightB, small_zero, small_one, Option.bind_some, Bool.and_true, Bool.true_and, decide_eq_true mp.1]
    split <;> rfl
  have S4 : ∀ (q : Nat) (hq : 150 ≤ q) (s t d h m : Int), 0 ≤ m → m < 67108864 → pianolakeep_Inst.l0 (q + 2) 4 (kind : Int) s t d h m = pianolakeep_Inst.l0 q 5 (kind : Int) s t d h (if m ≤ mostOf kind then m else m % 65536) := by
    intro q hq s t d h m hm0 hm1
    simp only [pianolakeep_Inst.l0, pianolakeep_Inst.j1, pianolakeep_only.f]
    simp only [show ((4 : Int) < 6) from by decide, show ¬ ((4 : Int) = 0) from by decide, show ¬ ((4 : Int) = 1) from by decide, show ¬ ((4 : Int) = 2) from by decide, show ¬ ((4 : Int) = 3) from by decide, if_true, if_false, Option.bind_some]
    rw [R q hq, wrap_next 4 (by decide) (by decide), and_ffff m hm0 (by omega)]
    simp only [rightB, small_zero, small_one, Option.bind_some, Bool.and_true, Bool.true_and]
    by_cases c : m ≤ mostOf kind
    · rw [decide_eq_true c, if_pos c]; rfl
    · rw [decide_eq_false c, if_neg c]; rfl
  have S5 : ∀ (q : Nat) (hq : 150 ≤ q) (s t d h m : Int), pianolakeep_Inst.l0 (q + 3) 5 (kind : Int) s t d h m = some ((kind : Int), s, t, d, h, if mostOf kind = 0 then 0 else m) := by
    intro q hq s t d h m
    simp only [pianolakeep_Inst.l0, pianolakeep_Inst.j1, pianolakeep_only.f]
    simp only [show ((5 : Int) < 6) from by decide, show ¬ ((5 : Int) = 0) from by decide, show ¬ ((5 : Int) = 1) from by decide, show ¬ ((5 : Int) = 2) from by decide, show ¬ ((5 : Int) = 3) from by decide, show ¬ ((5 : Int) = 4) from by decide, if_true, if_false, Option.bind_some]
    rw [R (q + 1) (by omega), wrap_next 5 (by decide) (by decide)]
    simp only [rightB, small_zero, small_one, Option.bind_some, Bool.and_true, Bool.true_and]
    by_cases c : mostOf kind = 0
    · rw [decide_eq_false (show ¬ (1 : Int) ≤ mostOf kind by omega), if_pos c]
      simp only [show ¬ ((5 : Int) + 1 < 6) from by decide, if_false, Bool.false_eq_true]
    · rw [decide_eq_true (show (1 : Int) ≤ mostOf kind by omega), if_neg c]
      simp only [show ¬ ((5 : Int) + 1 < 6) from by decide, if_false, if_true]
  rw [S0 (k + 11) (by omega), S1 (k + 9) (by omega), S2 (k + 7) (by omega), S3 (k + 5) (by omega), S4 (k + 3) (by omega) _ _ _ _ _ hm0 hm1, S5 k (by omega)]
  rfl

theorem tmod_emod (x n : Int) (hx : 0 ≤ x) : Int.tmod x n = x % n := Int.tmod_eq_emod_of_nonneg hx

/-- Within of small bounds -/
theorem within_f (k : Nat) (hk : 1 ≤ k) (n lo hi : Int) (hn : -9223372036854775808 ≤ n ∧ n < 9223372036854775808) (hl : -1000000000 ≤ lo) (hh : lo ≤ hi) (hu : hi ≤ 1000000000) :
    ∃ v, pianolabook_Within.f k n lo hi = some v ∧ lo ≤ v ∧ v ≤ hi ∧ ((lo ≤ n ∧ n ≤ hi) → v = n) := by
  obtain ⟨k, rfl⟩ : ∃ q, k = q + 1 := ⟨k - 1, by omega⟩
  have e1 : wrap64 (wrap64 (hi - lo) + 1) = hi - lo + 1 := by unfold wrap64; omega
  have out : ¬ (lo ≤ n ∧ n ≤ hi) → ∃ v, pianolabook_Within.j0 (k + 1) n lo hi false = some v ∧ lo ≤ v ∧ v ≤ hi := by
    intro _
    simp only [pianolabook_Within.j0]
    rw [if_neg (by decide), e1, if_neg (by omega)]
    have b1 := Int.tmod_lt_of_pos n (show 0 < hi - lo + 1 by omega)
    have b2 := Int.lt_tmod_of_pos n (show 0 < hi - lo + 1 by omega)
    generalize Int.tmod n (hi - lo + 1) = r at *
    split
    · refine ⟨_, rfl, ?_⟩
      unfold wrap64; omega
    · refine ⟨_, rfl, ?_⟩
      unfold wrap64; omega
  unfold pianolabook_Within.f
  by_cases c : n ≥ lo
  · rw [if_pos c]
    by_cases d : n ≤ hi
    · rw [decide_eq_true d]
      simp only [pianolabook_Within.j0]
      exact ⟨n, rfl, c, d, fun _ => rfl⟩
    · rw [decide_eq_false d]
      obtain ⟨v, e, a, b⟩ := out (fun h => d h.2)
      exact ⟨v, e, a, b, fun h => absurd h.2 d⟩
  · rw [if_neg c]
    obtain ⟨v, e, a, b⟩ := out (fun h => c h.1)
    exact ⟨v, e, a, b, fun h => absurd h.1 c⟩

theorem near_f (k : Nat) (hk : 1 ≤ k) (n : Int) (hn : -9223372036854775808 ≤ n ∧ n < 9223372036854775808) : ∃ v, pianolakeep_near.f k n = some v ∧ 0 ≤ v ∧ v < 32 := by
  unfold pianolakeep_near.f
  obtain ⟨v, e, a, b, _⟩ := within_f k hk n 0 1048576 hn (by decide) (by decide) (by decide)
  rw [e]
  simp only [Option.bind_some]
  rw [tmod_emod v 8 a, Int.tdiv_eq_ediv_of_nonneg a, show wrap64 (v / 8) = v / 8 by unfold wrap64; omega, tmod_emod _ 32 (by omega), tmod_emod _ 8 (by omega)]
  split
  · exact ⟨_, rfl, by omega, by omega⟩
  · exact ⟨_, rfl, by omega, by omega⟩

/-- An instruction as the statements draw it: right, of a Kind. -/
structure Drawn (kind : Nat) (s t d h imm : Int) : Prop where
  k0 : 0 < kind
  k1 : kind < 78
  s : 0 ≤ s ∧ s < 32 ∧ (flag kind 115 = false → s = 0)
  t : 0 ≤ t ∧ t < 32 ∧ (flag kind 116 = false → t = 0)
  d : 0 ≤ d ∧ d < 32 ∧ (flag kind 100 = false → d = 0)
  h : 0 ≤ h ∧ h < 32 ∧ (flag kind 104 = false → h = 0)
  imm : 0 ≤ imm ∧ imm ≤ mostOf kind

theorem imm_most (kind : Nat) (m : Int) (h0 : 0 ≤ m) (h1 : m < 67108864) : 0 ≤ immOf kind m ∧ immOf kind m ≤ mostOf kind := by
  unfold immOf
  by_cases c : mostOf kind = 0
  · rw [if_pos c, c]; omega
  · rw [if_neg c]
    by_cases d : m ≤ mostOf kind
    · rw [if_pos d]; omega
    · rw [if_neg d]
      have : mostOf kind = 65535 := by
        unfold mostOf at c d ⊢
        by_cases e : flag kind 105 = true
        · rw [if_pos e]
        · rw [if_neg e] at c d ⊢
          by_cases e2 : flag kind 106 = true
          · rw [if_pos e2] at d; omega
          · rw [if_neg e2] at c; exact absurd rfl c
      omega

theorem inst_f (k : Nat) (hk : 200 ≤ k) (kind : Nat) (h0 : 0 < kind) (h1 : kind < 78) (a0 a1 a2 a3 a4 a5 a6 : Int)
    (w1 : -9223372036854775808 ≤ a1 ∧ a1 < 9223372036854775808) (w2 : -9223372036854775808 ≤ a2 ∧ a2 < 9223372036854775808) (w3 : -9223372036854775808 ≤ a3 ∧ a3 < 9223372036854775808) (w4 : -9223372036854775808 ≤ a4 ∧ a4 < 9223372036854775808) (w5 : 0 ≤ a5 ∧ a5 < 4294967296) :
    ∃ s t d h imm, pianolakeep_Inst.f k a0 a1 a2 a3 a4 a5 a6 (kind : Int) = some ((kind : Int), s, t, d, h, imm) ∧ Drawn kind s t d h imm := by
  unfold pianolakeep_Inst.f
  obtain ⟨s, e1, s0, s1⟩ := near_f k (by omega) a1 w1
  obtain ⟨t, e2, t0, t1⟩ := near_f k (by omega) a2 w2
  obtain ⟨d, e3, d0, d1⟩ := near_f k (by omega) a3 w3
  obtain ⟨h, e4, g0, g1, _⟩ := within_f k (by omega) a4 0 31 w4 (by decide) (by decide) (by decide)
  rw [e1, e2, e3, e4, and_26 a5 w5.1 w5.2]
  simp only [Option.bind_some]
  have mm := imm_most kind (a5 % 67108864) (by omega) (by omega)
  rw [inst_l0 k hk kind h0 h1 s t d h _ (by omega) (by omega)]
  refine ⟨_, _, _, _, _, rfl, ⟨h0, h1, ?_, ?_, ?_, ?_, mm⟩⟩
  · split <;> simp_all
  · split <;> simp_all
  · split <;> simp_all
  · split <;> simp_all <;> omega

theorem any_f (k : Nat) (hk : 200 ≤ k) (a0 a1 a2 a3 a4 a5 a6 : Int) (w0 : -9223372036854775808 ≤ a0 ∧ a0 < 9223372036854775808)
    (w1 : -9223372036854775808 ≤ a1 ∧ a1 < 9223372036854775808) (w2 : -9223372036854775808 ≤ a2 ∧ a2 < 9223372036854775808) (w3 : -9223372036854775808 ≤ a3 ∧ a3 < 9223372036854775808) (w4 : -9223372036854775808 ≤ a4 ∧ a4 < 9223372036854775808) (w5 : 0 ≤ a5 ∧ a5 < 4294967296) :
    ∃ (kind : Nat) (s t d h imm : Int), pianolakeep_Any.f k a0 a1 a2 a3 a4 a5 a6 = some ((kind : Int), s, t, d, h, imm) ∧ Drawn kind s t d h imm := by
  unfold pianolakeep_Any.f
  obtain ⟨v, e, v0, v1, _⟩ := within_f k (by omega) a0 0 1048576 w0 (by decide) (by decide) (by decide)
  rw [e]
  simp only [Option.bind_some]
  rw [tmod_emod v 77 v0]
  have ek : wrap64 (1 + v % 77) = (((1 + v % 77).toNat : Nat) : Int) := by unfold wrap64; omega
  rw [ek]
  obtain ⟨s, t, d, h, imm, e2, D⟩ := inst_f k hk (1 + v % 77).toNat (by omega) (by omega) a0 a1 a2 a3 a4 a5 a6 w1 w2 w3 w4 w5
  rw [e2]
  exact ⟨_, s, t, d, h, imm, rfl, D⟩

end Go.Proofs.Ytimbfflnlalanaa.Keep
