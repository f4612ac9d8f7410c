/- An instruction's small operations: what the program's functions ask. Conditions: an instruction's number is a word. -/
import Derived.Test.YtkgidjnaddjjbaaGreatC19a
namespace Go.Proofs.YtkgidjnaddjjbaaGreat.Am
set_option linter.unusedVariables false
set_option linter.unusedSimpArgs false
set_option maxRecDepth 100000


def KL : List Int := [0, 9, 10, 11, 9, 10, 11, 0, 0, 21, 22, 0, 0, 0, 0, 0, 0, 0, 17, 18, 19, 20, 0, 3, 0, 4, 5, 6, 7, 8, 12, 13, 0, 0, 0, 0, 0, 0, 0, 0, 0, 0, 0, 0, 0, 0, 0, 3, 12, 13, 5, 6, 7, 0, 0, 0, 0, 0, 0, 0, 0, 0, 0, 14, 15, 16, 0, 0, 0, 0, 0, 0, 0, 0, 0, 0, 0, 0]
def kindL (k : Int) : Int := KL.getD k.toNat 0
theorem kind_at {m : Mem} {k : Int → Mem → Prop} : ∀ n : Nat, n < 78 → F27 (n : Int) m k = (Keeps m m ∧ k (KL.getD n 0) m)
  | 0, _ => by kernel_rfl
  | 1, _ => by kernel_rfl
  | 2, _ => by kernel_rfl
  | 3, _ => by kernel_rfl
  | 4, _ => by kernel_rfl
  | 5, _ => by kernel_rfl
  | 6, _ => by kernel_rfl
  | 7, _ => by kernel_rfl
  | 8, _ => by kernel_rfl
  | 9, _ => by kernel_rfl
  | 10, _ => by kernel_rfl
  | 11, _ => by kernel_rfl
  | 12, _ => by kernel_rfl
  | 13, _ => by kernel_rfl
  | 14, _ => by kernel_rfl
  | 15, _ => by kernel_rfl
  | 16, _ => by kernel_rfl
  | 17, _ => by kernel_rfl
  | 18, _ => by kernel_rfl
  | 19, _ => by kernel_rfl
  | 20, _ => by kernel_rfl
  | 21, _ => by kernel_rfl
  | 22, _ => by kernel_rfl
  | 23, _ => by kernel_rfl
  | 24, _ => by kernel_rfl
  | 25, _ => by kernel_rfl
  | 26, _ => by kernel_rfl
  | 27, _ => by kernel_rfl
  | 28, _ => by kernel_rfl
  | 29, _ => by kernel_rfl
  | 30, _ => by kernel_rfl
  | 31, _ => by kernel_rfl
  | 32, _ => by kernel_rfl
  | 33, _ => by kernel_rfl
  | 34, _ => by kernel_rfl
  | 35, _ => by kernel_rfl
  | 36, _ => by kernel_rfl
  | 37, _ => by kernel_rfl
  | 38, _ => by kernel_rfl
  | 39, _ => by kernel_rfl
  | 40, _ => by kernel_rfl
  | 41, _ => by kernel_rfl
  | 42, _ => by kernel_rfl
  | 43, _ => by kernel_rfl
  | 44, _ => by kernel_rfl
  | 45, _ => by kernel_rfl
  | 46, _ => by kernel_rfl
  | 47, _ => by kernel_rfl
  | 48, _ => by kernel_rfl
  | 49, _ => by kernel_rfl
  | 50, _ => by kernel_rfl
  | 51, _ => by kernel_rfl
  | 52, _ => by kernel_rfl
  | 53, _ => by kernel_rfl
  | 54, _ => by kernel_rfl
  | 55, _ => by kernel_rfl
  | 56, _ => by kernel_rfl
  | 57, _ => by kernel_rfl
  | 58, _ => by kernel_rfl
  | 59, _ => by kernel_rfl
  | 60, _ => by kernel_rfl
  | 61, _ => by kernel_rfl
  | 62, _ => by kernel_rfl
  | 63, _ => by kernel_rfl
  | 64, _ => by kernel_rfl
  | 65, _ => by kernel_rfl
  | 66, _ => by kernel_rfl
  | 67, _ => by kernel_rfl
  | 68, _ => by kernel_rfl
  | 69, _ => by kernel_rfl
  | 70, _ => by kernel_rfl
  | 71, _ => by kernel_rfl
  | 72, _ => by kernel_rfl
  | 73, _ => by kernel_rfl
  | 74, _ => by kernel_rfl
  | 75, _ => by kernel_rfl
  | 76, _ => by kernel_rfl
  | 77, _ => by kernel_rfl
  | n + 78, h => absurd h (by omega)

theorem kind_spec {x : Int} (h0 : 0 ≤ x) (h1 : x < 78) {m : Mem} {k : Int → Mem → Prop} (hk : k (kindL x) m) : F27 x m k := by
  obtain ⟨n, rfl, hn⟩ := nat_of (p := 78) h0 h1
  rw [kind_at n hn]
  exact ⟨Keeps.self m, hk⟩
theorem kindL_rng : ∀ n, n < 78 → 0 ≤ KL.getD n 0 ∧ KL.getD n 0 ≤ 22 := by decide
theorem kindL_r {x : Int} (h0 : 0 ≤ x) (h1 : x < 78) : 0 ≤ kindL x ∧ kindL x ≤ 22 := by
  obtain ⟨n, rfl, hn⟩ := nat_of (p := 78) h0 h1
  exact kindL_rng n hn

theorem wrapi32 (x : Int) : IntKind.wrap .i32 x = if x % 4294967296 ≥ 2147483648 then x % 4294967296 - 4294967296 else x % 4294967296 := by
  simp [IntKind.wrap, IntKind.bits, IntKind.signed]
/-- a number of 16 bits, signed -/
def sxV (v : Int) : Int := if v < 32768 then v else v + 4294901760
theorem sxV_u {v : Int} (h0 : 0 ≤ v) (h1 : v < 65536) : isU (sxV v) := by unfold sxV isU; split <;> omega
section
variable {m : Mem}
theorem lsign_spec {v : Int} (h0 : 0 ≤ v) (h1 : v < 65536) {k : Int → Mem → Prop} (hk : k (sxV v) m) : F56 v 16 m k := by
  unfold F56
  (repeat (first | refine kif_t (by decide) ?_ | refine kif_f (by decide) ?_ | refine ⟨Keeps.self _, ?_⟩))
  have e' : IntKind.wrap .u32 ((IntKind.wrap .i32 (IntKind.wrap .u32 (v * 2 ^ min (IntKind.wrap .i64 (32 - 16)).toNat 32))).fdiv (2 ^ min (bits .and .i64 (IntKind.wrap .i64 (32 - 16)) 31).toNat 32)) = sxV v := by
    rw [show (2 : Int) ^ min (bits .and .i64 (IntKind.wrap .i64 (32 - 16)) 31).toNat 32 = 65536 by decide, show (2 : Int) ^ min (IntKind.wrap .i64 (32 - 16)).toNat 32 = 65536 by decide]
    unfold sxV
    rw [wrap32, wrapi32, wrap32, fdiv_w _ _ (by decide)]
    split <;> split <;> omega
  rw [e']
  exact hk
def intoL (x : In) : Int := if (1 ≤ x.k ∧ x.k ≤ 6) ∨ (22 ≤ x.k ∧ x.k ≤ 31) ∨ (46 ≤ x.k ∧ x.k ≤ 53) ∨ (63 ≤ x.k ∧ x.k ≤ 65) then (if 46 ≤ x.k ∧ x.k ≤ 53 then x.t else x.d) else 0
theorem lis_spec {x : Int} {k : Bool → Mem → Prop} (hk : k (decide ((1 ≤ x ∧ x ≤ 6) ∨ (22 ≤ x ∧ x ≤ 31) ∨ (46 ≤ x ∧ x ≤ 53) ∨ (63 ≤ x ∧ x ≤ 65))) m) : F55 x m k := by
  unfold F55
  have t : ((1 ≤ x ∧ x ≤ 6) ∨ (22 ≤ x ∧ x ≤ 31) ∨ (46 ≤ x ∧ x ≤ 53) ∨ (63 ≤ x ∧ x ≤ 65)) → Keeps m m ∧ k true m := fun h => by rw [decide_eq_true h] at hk; exact ⟨Keeps.self m, hk⟩
  have f : ¬ ((1 ≤ x ∧ x ≤ 6) ∨ (22 ≤ x ∧ x ≤ 31) ∨ (46 ≤ x ∧ x ≤ 53) ∨ (63 ≤ x ∧ x ≤ 65)) → Keeps m m ∧ k false m := fun h => by rw [decide_eq_false h] at hk; exact ⟨Keeps.self m, hk⟩
  have l : 63 ≤ x → Keeps m m ∧ k (decide (x ≤ 65)) m := fun h => by
    by_cases c : x ≤ 65
    · rw [decide_eq_true c]; exact t (by omega)
    · rw [decide_eq_false c]; exact f (by omega)
  have D : ∀ {p : Prop} [Decidable p], decide p = true → p := fun h => by simpa using h
  have N : ∀ {p : Prop} [Decidable p], decide p = false → ¬ p := fun h => by simpa using h
  have last : (¬ (1 ≤ x ∧ x ≤ 6)) → ¬ (22 ≤ x ∧ x ≤ 31) → ¬ (46 ≤ x ∧ x ≤ 53) → kif (decide (x ≥ 63)) ((Keeps m m ∧ k (decide (x ≤ 65)) m)) ((Keeps m m ∧ k false m)) := fun a b c => kif_c _ (fun h => l (by have := D h; omega)) fun h => f (by have := N h; omega)
  have mid : (¬ (1 ≤ x ∧ x ≤ 6)) → ¬ (22 ≤ x ∧ x ≤ 31) → kif (decide (x ≥ 46)) (kif (decide (x ≤ 53)) ((Keeps m m ∧ k true m)) (kif (decide (x ≥ 63)) ((Keeps m m ∧ k (decide (x ≤ 65)) m)) ((Keeps m m ∧ k false m)))) (kif (decide (x ≥ 63)) ((Keeps m m ∧ k (decide (x ≤ 65)) m)) ((Keeps m m ∧ k false m))) := fun a b =>
    kif_c _ (fun h => kif_c _ (fun h2 => t (by have := D h; have := D h2; omega)) fun h2 => last a b (by have := N h2; omega)) fun h => last a b (by have := N h; omega)
  have fst : (¬ (1 ≤ x ∧ x ≤ 6)) → kif (decide (x ≥ 22)) (kif (decide (x ≤ 31)) ((Keeps m m ∧ k true m)) (kif (decide (x ≥ 46)) (kif (decide (x ≤ 53)) ((Keeps m m ∧ k true m)) (kif (decide (x ≥ 63)) ((Keeps m m ∧ k (decide (x ≤ 65)) m)) ((Keeps m m ∧ k false m)))) (kif (decide (x ≥ 63)) ((Keeps m m ∧ k (decide (x ≤ 65)) m)) ((Keeps m m ∧ k false m))))) (kif (decide (x ≥ 46)) (kif (decide (x ≤ 53)) ((Keeps m m ∧ k true m)) (kif (decide (x ≥ 63)) ((Keeps m m ∧ k (decide (x ≤ 65)) m)) ((Keeps m m ∧ k false m)))) (kif (decide (x ≥ 63)) ((Keeps m m ∧ k (decide (x ≤ 65)) m)) ((Keeps m m ∧ k false m)))) := fun a =>
    kif_c _ (fun h => kif_c _ (fun h2 => t (by have := D h; have := D h2; omega)) fun h2 => mid a (by have := N h2; omega)) fun h => mid a (by have := N h; omega)
  exact kif_c _ (fun h => kif_c _ (fun h2 => t (by have := D h; have := D h2; omega)) fun h2 => fst (by have := N h2; omega)) fun h => fst (by have := N h; omega)
theorem linto_spec {c : Nat → AV} {x : In} (hc : InC c x) {k : Int → Mem → Prop} (hk : k (intoL x) m) : F28 c m k := by
  unfold F28
  refine newI hc fun b m1 hb K i O => ?_
  rw [i.l0]
  refine lis_spec ?_
  simp only [i.l0, i.l2, i.l3]
  unfold intoL at hk
  refine kif_c _ (fun h => ⟨K, ?_⟩) fun h => kif_c _ (fun h2 => kif_c _ (fun h3 => ⟨K, ?_⟩) fun h3 => ⟨K, ?_⟩) fun h2 => ⟨K, ?_⟩
  · rw [if_neg (by rw [Bool.not_eq_true', decide_eq_false_iff_not] at h; exact h)] at hk; exact hk
  all_goals
    have hh : ((1 ≤ x.k ∧ x.k ≤ 6) ∨ (22 ≤ x.k ∧ x.k ≤ 31) ∨ (46 ≤ x.k ∧ x.k ≤ 53) ∨ (63 ≤ x.k ∧ x.k ≤ 65)) := by rw [Bool.not_eq_false', decide_eq_true_iff] at h; exact h
    rw [if_pos hh] at hk
  · rw [if_pos (by simp at h2 h3; omega)] at hk; exact hk
  · rw [if_neg (by simp at h2 h3; omega)] at hk; exact hk
  · rw [if_neg (by simp at h2; omega)] at hk; exact hk
def immL (x : In) : Int := if x.k = 50 ∨ x.k = 51 ∨ x.k = 52 then x.i else sxV x.i
theorem limm_spec {c : Nat → AV} {x : In} (hc : InC c x) (h0 : 0 ≤ x.i) (h1 : x.i < 65536) {k : Int → Mem → Prop} (hk : k (immL x) m) : F29 c m k := by
  unfold F29
  refine newI hc fun b m1 hb K i O => ?_
  simp only [i.l0, i.l5]
  unfold immL at hk
  refine kif_c _ (fun h => ⟨K, ?_⟩) fun h => kif_c _ (fun h2 => ⟨K, ?_⟩) fun h2 => kif_c _ (fun h3 => ⟨K, ?_⟩) fun h3 => lsign_spec h0 h1 ⟨K, ?_⟩
  · rw [if_pos (by simp at h; omega)] at hk; exact hk
  · rw [if_pos (by simp at h2; omega)] at hk; exact hk
  · rw [if_pos (by simp at h3; omega)] at hk; exact hk
  · rw [if_neg (by simp at h h2 h3; omega)] at hk; exact hk
theorem most_imm : ∀ n, n < 53 → 46 ≤ n → most (FLT.getD n 0) ≤ 65535 := by decide
theorem imm16 {x : In} (ok : OK x) (h : 46 ≤ x.k) (h2 : x.k ≤ 52) : x.i < 65536 := by
  obtain ⟨n, e, hn⟩ := nat_of (p := 53) (n := x.k) (by omega) (by omega)
  have := most_imm n hn (by omega)
  have hi := ok.i1
  rw [e] at hi
  have : most (fl (n : Int)) ≤ 65535 := this
  omega
def plainS (x : In) : Bool := rightS x && (classS x.k == 1)
theorem lift_is {c : Nat → AV} {x : In} (hc : InC c x) (hi : 0 ≤ x.i) {k : Bool → Mem → Prop} (hk : k (plainS x) m) : F21 c m k := by
  unfold F21
  unfold plainS at hk
  refine newI hc fun b m1 hb K i O => i.lg fun c3 h3 => right_spec h3 hi (kif_c _ (fun h => i.lg fun c6 h6 => class_spec h6 ⟨K, ?_⟩) fun h => ⟨K, ?_⟩)
  · rw [h, Bool.true_and] at hk; exact hk
  · rw [h, Bool.false_and] at hk; exact hk
def opsOf (x : In) : List Op19 :=
  if plainS x = false ∨ x.k = 13 ∨ x.k = 76 ∨ x.k = 77 then [] else if x.k = 53 then [⟨1, x.t, 0, 0, IntKind.wrap .u32 (x.i * 65536)⟩] else if x.k = 14 then [⟨2, x.d, 32, 0, 0⟩] else if x.k = 16 then [⟨2, x.d, 33, 0, 0⟩]
  else if x.k = 15 then [⟨2, 32, x.s, 0, 0⟩] else if x.k = 17 then [⟨2, 33, x.s, 0, 0⟩] else if x.k ≤ 3 then [⟨1, 34, 0, 0, IntKind.wrap .u32 x.h⟩, ⟨kindL x.k, x.d, x.t, 34, 0⟩] else if x.k ≤ 6 then [⟨kindL x.k, x.d, x.t, x.s, 0⟩]
  else if intoL x = x.t ∧ 46 ≤ x.k ∧ x.k ≤ 52 then [⟨1, 34, 0, 0, immL x⟩, ⟨kindL x.k, x.t, x.s, 34, 0⟩] else [⟨kindL x.k, x.d, x.s, x.t, 0⟩]
theorem ops1 {b : Nat} {m' : Mem} {c : Nat → AV} {t : TypeId} {o : Op19} (e : m'.obj b = some ⟨5, c, t, false⟩) (h : OpC c o) : IsOps m' (.sl b 0 1 (.ex 1)) [o] :=
  ⟨c, (IsL.row (esz := 5) e rfl rfl).r, fun i hi => by
    have : i = 0 := by simpa using hi
    subst this
    simpa [OpC] using h⟩
theorem ops2 {b : Nat} {m' : Mem} {c : Nat → AV} {t : TypeId} {o p : Op19} (e : m'.obj b = some ⟨10, c, t, false⟩) (h : OpC c o) (h2 : OpC (fun j => c (5 + j)) p) : IsOps m' (.sl b 0 2 (.ex 2)) [o, p] :=
  ⟨c, (IsL.row (esz := 5) e rfl rfl).r, fun i hi => by
    have : i = 0 ∨ i = 1 := by simp at hi; omega
    rcases this with rfl | rfl
    · simpa [OpC] using h
    · simpa [OpC] using h2⟩
theorem lof_spec {c : Nat → AV} {x : In} (hc : InC c x) (hi : 0 ≤ x.i) {k : AV → Mem → Prop} (hk : ∀ v m', IsOps m' v (opsOf x) → Keeps m m' → (∀ b, own v b → m.obj b = none) → k v m') : F13 c m k := by
  unfold F13
  refine newI hc fun b2 m1 hb K i O => ?_
  rw [i.l0]
  refine i.lg fun c4 h4 => lift_is h4 hi ?_
  have nil : (plainS x = false ∨ x.k = 13 ∨ x.k = 76 ∨ x.k = 77) → P13_3004 b2 0 x.k true m1 (fun v63 m64 => k v63 m64) (fun m65 => P13_20102 b2 0 x.k m65 (fun v83 m84 => k v83 m84)) := fun h => by
    unfold P13_3004
    refine kif_t rfl (hk _ m1 ?_ K fun b e => e.elim)
    unfold opsOf; rw [if_pos h]
    exact ⟨fun _ => .junk, .nil none _, fun i hi => by simp at hi⟩
  refine kif_c _ (fun h => nil (.inl (by simpa using h))) fun h => kif_c _ (fun h2 => nil (by simp at h2; omega)) fun h2 => kif_c _ (fun h3 => nil (by simp at h3; omega)) fun h3 => ?_
  have hp : plainS x = true := by simpa using h
  simp only [beq_eq_false_iff_ne] at h2 h3
  by_cases h77 : x.k = 77
  · have e : (x.k == 77) = true := by simpa using h77
    rw [e]; exact nil (by omega)
  have e77 : (x.k == 77) = false := by simpa using h77
  rw [e77]
  have no : ¬ (plainS x = false ∨ x.k = 13 ∨ x.k = 76 ∨ x.k = 77) := fun h => by
    rcases h with h | h | h | h
    · rw [hp] at h; cases h
    · exact h2 h
    · exact h3 h
    · exact h77 h
  have hr : rightS x = true := by unfold plainS at hp; simp at hp; exact hp.1
  have ok := (right_iff x hi).1 hr
  unfold opsOf at hk
  rw [if_neg no] at hk
  have k0 := ok.k0
  have k1 := ok.k1
  have fr : ∀ {mm : Mem} {b : Nat}, Keeps m1 mm → mm.obj b = none → ∀ b', own (.sl b 0 1 (.ex 1)) b' → m.obj b' = none := fun KK hb' b' e => by cases e; exact newK_none (K.trans KK) hb'
  have fr2 : ∀ {mm : Mem} {b : Nat}, Keeps m1 mm → mm.obj b = none → ∀ b', own (.sl b 0 2 (.ex 2)) b' → m.obj b' = none := fun KK hb' b' e => by cases e; exact newK_none (K.trans KK) hb'
  have kd := @kind_spec x.k (by omega) k1
  have h20 : ∀ o, o = [⟨kindL x.k, x.d, x.s, x.t, 0⟩] → (∀ v m', IsOps m' v o → Keeps m m' → (∀ b, own v b → m.obj b = none) → k v m') → P13_20102 b2 0 x.k m1 (fun v89 m90 => k v89 m90) := fun o ho hk => by
    subst ho
    unfold P13_20102
    refine ⟨fun _ => True, ?_⟩
    simp only [Nat.zero_add, true_and]
    refine kd ⟨fun _ _ _ => rfl, ?_⟩
    simp only [i.l1, i.l2, i.l3]
    exact newK_i fun b m2 hb2 K2 e2 O2 => hk _ m2 (ops1 e2 ⟨rfl, rfl, rfl, rfl, rfl⟩) (K.trans K2) (fr (Keeps.self m1) hb2)
  unfold P13_3004
  simp only [Nat.zero_add, i.l0, i.l1, i.l2, i.l3, i.l4, i.l5]
  refine kif_f rfl (kif_c _ (fun c => ?_) fun c53 => kif_c _ (fun c => ?_) fun c14 => kif_c _ (fun c => ?_) fun c16 => kif_c _ (fun c => ?_) fun c15 => kif_c _ (fun c => ?_) fun c17 => kif_c _ (fun c => ?_) fun c3 => kif_c _ (fun c => ?_) fun c6 => ?_)
  · rw [if_pos (by simpa using c)] at hk
    exact newK_i fun b m2 hb2 K2 e2 O2 => hk _ m2 (ops1 e2 ⟨rfl, rfl, rfl, rfl, rfl⟩) (K.trans K2) (fr (Keeps.self m1) hb2)
  all_goals simp only [beq_eq_false_iff_ne] at c53
  all_goals rw [if_neg c53] at hk
  · rw [if_pos (by simpa using c)] at hk
    exact newK_i fun b m2 hb2 K2 e2 O2 => hk _ m2 (ops1 e2 ⟨rfl, rfl, rfl, rfl, rfl⟩) (K.trans K2) (fr (Keeps.self m1) hb2)
  all_goals simp only [beq_eq_false_iff_ne] at c14
  all_goals rw [if_neg c14] at hk
  · rw [if_pos (by simpa using c)] at hk
    exact newK_i fun b m2 hb2 K2 e2 O2 => hk _ m2 (ops1 e2 ⟨rfl, rfl, rfl, rfl, rfl⟩) (K.trans K2) (fr (Keeps.self m1) hb2)
  all_goals simp only [beq_eq_false_iff_ne] at c16
  all_goals rw [if_neg c16] at hk
  · rw [if_pos (by simpa using c)] at hk
    exact newK_i fun b m2 hb2 K2 e2 O2 => hk _ m2 (ops1 e2 ⟨rfl, rfl, rfl, rfl, rfl⟩) (K.trans K2) (fr (Keeps.self m1) hb2)
  all_goals simp only [beq_eq_false_iff_ne] at c15
  all_goals rw [if_neg c15] at hk
  · rw [if_pos (by simpa using c)] at hk
    exact newK_i fun b m2 hb2 K2 e2 O2 => hk _ m2 (ops1 e2 ⟨rfl, rfl, rfl, rfl, rfl⟩) (K.trans K2) (fr (Keeps.self m1) hb2)
  all_goals simp only [beq_eq_false_iff_ne] at c17
  all_goals rw [if_neg c17] at hk
  · rw [if_pos (by simpa using c)] at hk
    refine ⟨fun _ => True, ?_⟩
    simp only [true_and, i.l2, i.l3, i.l4]
    refine kd ⟨fun _ _ _ => rfl, ?_⟩
    simp only [true_and, i.l2, i.l3, i.l4]
    exact newK_i fun b m2 hb2 K2 e2 O2 => hk _ m2 (ops2 e2 ⟨rfl, rfl, rfl, rfl, rfl⟩ ⟨rfl, rfl, rfl, rfl, rfl⟩) (K.trans K2) (fr2 (Keeps.self m1) hb2)
  all_goals rw [if_neg (c := x.k ≤ 3) (by simp at c3; omega)] at hk
  · rw [if_pos (by simpa using c)] at hk
    refine ⟨fun _ => True, ?_⟩
    simp only [true_and]
    refine kd ⟨fun _ _ _ => rfl, ?_⟩
    simp only [true_and, i.l1, i.l2, i.l3, i.l4]
    exact newK_i fun b m2 hb2 K2 e2 O2 => hk _ m2 (ops1 e2 ⟨rfl, rfl, rfl, rfl, rfl⟩) (K.trans K2) (fr (Keeps.self m1) hb2)
  rw [if_neg (c := x.k ≤ 6) (by simp at c6; omega)] at hk
  refine ⟨fun _ => True, ?_⟩
  simp only [true_and]
  refine i.lg fun c40 h40 => linto_spec h40 ⟨fun _ _ _ => rfl, ?_⟩
  rw [i.l2]
  have p19 : ∀ q : Bool, (q = true ↔ intoL x = x.t ∧ 46 ≤ x.k ∧ x.k ≤ 52) → P13_19004 b2 0 x.k q m1 (fun v60 m61 => k v60 m61) (fun m62 => P13_20102 b2 0 x.k m62 (fun v89 m90 => k v89 m90)) := fun q hq => by
    unfold P13_19004
    refine kif_c _ (fun c => ?_) fun c => ?_
    · have c := hq.1 c
      rw [if_pos c] at hk
      refine ⟨fun _ => True, ?_⟩
      simp only [true_and, Nat.zero_add]
      have hi2 : x.i < 65536 := imm16 ok c.2.1 c.2.2
      refine i.lg fun c45 h45 => limm_spec h45 hi hi2 ⟨fun _ _ _ => rfl, kd ⟨fun _ _ _ => rfl, ?_⟩⟩
      simp only [i.l1, i.l2]
      exact newK_i fun b m2 hb2 K2 e2 O2 => hk _ m2 (ops2 e2 ⟨rfl, rfl, rfl, rfl, rfl⟩ ⟨rfl, rfl, rfl, rfl, rfl⟩) (K.trans K2) (fr2 (Keeps.self m1) hb2)
    · rw [if_neg fun h => by rw [hq.2 h] at c; cases c] at hk
      exact h20 _ rfl hk
  refine kif_c _ (fun c => kif_c _ (fun c2 => p19 _ (by simp at c c2 ⊢; omega)) fun c2 => p19 _ (by simp at c c2 ⊢; omega)) fun c => p19 _ (by simp at c ⊢; intro h; omega)
end
end Go.Proofs.YtkgidjnaddjjbaaGreat.Am
