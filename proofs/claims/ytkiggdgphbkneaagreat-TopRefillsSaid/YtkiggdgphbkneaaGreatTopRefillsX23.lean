/- An instruction's small operations: what the program's functions ask. Conditions: an instruction's number is a word. Small operations of an instruction: what they change, on what they hang; the program's own run of them in known. Conditions: an instruction is r -/
import Derived.Test.YtkiggdgphbkneaaGreatTopRefillsX22
namespace Go.Proofs.YtkiggdgphbkneaaGreat.Am
set_option linter.unusedVariables false
set_option linter.unusedSimpArgs false
set_option maxRecDepth 100000
set_option maxHeartbeats 1000000
def KL : List Int := [0, 9, 10, 11, 9, 10, 11, 0, 0, 21, 22, 0, 0, 0, 0, 0, 0, 0, 17, 18, 19, 20, 0, 3, 0, 4, 5, 6, 7, 8, 12, 13, 0, 0, 0, 0, 0, 0, 0, 0, 0, 0, 0, 0, 0, 0, 0, 3, 12, 13, 5, 6, 7, 0, 0, 0, 0, 0, 0, 0, 0, 0, 0, 14, 15, 16, 0, 0, 0, 0, 0, 0, 0, 0, 0, 0, 0, 0]
def kindL (k : Int) : Int := KL.getD k.toNat 0
theorem kind_at {m : Mem} {k : Int → Mem → Prop} : ∀ n : Nat, n < 78 → F164 (n : Int) m k = (Keeps m m ∧ k (KL.getD n 0) m)
 | 0, _ => by kernel_rfl
 | 1, _ => by kernel_rfl
 | 2, _ => by kernel_rfl
 | 3, _ => by kernel_rfl
 | 4, _ => by kernel_rfl
 | 5, _ => by kernel_rfl
 | 6, _ => by kernel_rfl
 | 7, _ => by kernel_rfl
 | 8, _ => by kernel_rfl
 | 9, _ => by kernel_rfl
 | 10, _ => by kernel_rfl
 | 11, _ => by kernel_rfl
 | 12, _ => by kernel_rfl
 | 13, _ => by kernel_rfl
 | 14, _ => by kernel_rfl
 | 15, _ => by kernel_rfl
 | 16, _ => by kernel_rfl
 | 17, _ => by kernel_rfl
 | 18, _ => by kernel_rfl
 | 19, _ => by kernel_rfl
 | 20, _ => by kernel_rfl
 | 21, _ => by kernel_rfl
 | 22, _ => by kernel_rfl
 | 23, _ => by kernel_rfl
 | 24, _ => by kernel_rfl
 | 25, _ => by kernel_rfl
 | 26, _ => by kernel_rfl
 | 27, _ => by kernel_rfl
 | 28, _ => by kernel_rfl
 | 29, _ => by kernel_rfl
 | 30, _ => by kernel_rfl
 | 31, _ => by kernel_rfl
 | 32, _ => by kernel_rfl
 | 33, _ => by kernel_rfl
 | 34, _ => by kernel_rfl
 | 35, _ => by kernel_rfl
 | 36, _ => by kernel_rfl
 | 37, _ => by kernel_rfl
 | 38, _ => by kernel_rfl
 | 39, _ => by kernel_rfl
 | 40, _ => by kernel_rfl
 | 41, _ => by kernel_rfl
 | 42, _ => by kernel_rfl
 | 43, _ => by kernel_rfl
 | 44, _ => by kernel_rfl
 | 45, _ => by kernel_rfl
 | 46, _ => by kernel_rfl
 | 47, _ => by kernel_rfl
 | 48, _ => by kernel_rfl
 | 49, _ => by kernel_rfl
 | 50, _ => by kernel_rfl
 | 51, _ => by kernel_rfl
 | 52, _ => by kernel_rfl
 | 53, _ => by kernel_rfl
 | 54, _ => by kernel_rfl
 | 55, _ => by kernel_rfl
 | 56, _ => by kernel_rfl
 | 57, _ => by kernel_rfl
 | 58, _ => by kernel_rfl
 | 59, _ => by kernel_rfl
 | 60, _ => by kernel_rfl
 | 61, _ => by kernel_rfl
 | 62, _ => by kernel_rfl
 | 63, _ => by kernel_rfl
 | 64, _ => by kernel_rfl
 | 65, _ => by kernel_rfl
 | 66, _ => by kernel_rfl
 | 67, _ => by kernel_rfl
 | 68, _ => by kernel_rfl
 | 69, _ => by kernel_rfl
 | 70, _ => by kernel_rfl
 | 71, _ => by kernel_rfl
 | 72, _ => by kernel_rfl
 | 73, _ => by kernel_rfl
 | 74, _ => by kernel_rfl
 | 75, _ => by kernel_rfl
 | 76, _ => by kernel_rfl
 | 77, _ => by kernel_rfl
 | n + 78, h => absurd h (by omega)
theorem kind_spec_C {x : Int} (h0 : 0 ≤ x) (h1 : x < 78) {m : Mem} {k : Int → Mem → Prop} (hk : k (kindL x) m) : F164 x m k := by
 obtain ⟨n, rfl, hn⟩ := nat_of (p := 78) h0 h1
 rw [kind_at n hn]
 exact ⟨Keeps.self m, hk⟩
theorem kindL_rng : ∀ n, n < 78 → 0 ≤ KL.getD n 0 ∧ KL.getD n 0 ≤ 22 := by decide
theorem kindL_r {x : Int} (h0 : 0 ≤ x) (h1 : x < 78) : 0 ≤ kindL x ∧ kindL x ≤ 22 := by
 obtain ⟨n, rfl, hn⟩ := nat_of (p := 78) h0 h1
 exact kindL_rng n hn
theorem wrapi32 (x : Int) : IntKind.wrap .i32 x = if x % 4294967296 ≥ 2147483648 then x % 4294967296 - 4294967296 else x % 4294967296 := by
 simp [IntKind.wrap, IntKind.bits, IntKind.signed]
def sxV (v : Int) : Int := if v < 32768 then v else v + 4294901760
theorem sxV_u {v : Int} (h0 : 0 ≤ v) (h1 : v < 65536) : isU (sxV v) := by unfold sxV isU; split <;> omega
section
variable {m : Mem}
theorem lsign_spec {v : Int} (h0 : 0 ≤ v) (h1 : v < 65536) {k : Int → Mem → Prop} (hk : k (sxV v) m) : F140 v 16 m k := by
 unfold F140
 (repeat (first | refine kif_t (by decide) ?_ | refine kif_f (by decide) ?_ | refine ⟨Keeps.self _, ?_⟩))
 have e' : IntKind.wrap .u32 ((IntKind.wrap .i32 (IntKind.wrap .u32 (v * 2 ^ min (IntKind.wrap .i64 (32 - 16)).toNat 32))).fdiv (2 ^ min (bits .and .i64 (IntKind.wrap .i64 (32 - 16)) 31).toNat 32)) = sxV v := by
  rw [show (2 : Int) ^ min (bits .and .i64 (IntKind.wrap .i64 (32 - 16)) 31).toNat 32 = 65536 by decide, show (2 : Int) ^ min (IntKind.wrap .i64 (32 - 16)).toNat 32 = 65536 by decide]
  unfold sxV
  rw [wrap32, wrapi32, wrap32, fdiv_w _ _ (by decide)]
  split <;> split <;> omega
 rw [e']
 exact hk
def intoL (x : In) : Int := if (1 ≤ x.k ∧ x.k ≤ 6) ∨ (22 ≤ x.k ∧ x.k ≤ 31) ∨ (46 ≤ x.k ∧ x.k ≤ 53) ∨ (63 ≤ x.k ∧ x.k ≤ 65) then (if 46 ≤ x.k ∧ x.k ≤ 53 then x.t else x.d) else 0
theorem lis_spec {x : Int} {k : Bool → Mem → Prop} (hk : k (decide ((1 ≤ x ∧ x ≤ 6) ∨ (22 ≤ x ∧ x ≤ 31) ∨ (46 ≤ x ∧ x ≤ 53) ∨ (63 ≤ x ∧ x ≤ 65))) m) : F190 x m k := by
 unfold F190
 have t : ((1 ≤ x ∧ x ≤ 6) ∨ (22 ≤ x ∧ x ≤ 31) ∨ (46 ≤ x ∧ x ≤ 53) ∨ (63 ≤ x ∧ x ≤ 65)) → Keeps m m ∧ k true m := fun h => by rw [decide_eq_true h] at hk; exact ⟨Keeps.self m, hk⟩
 have f : ¬ ((1 ≤ x ∧ x ≤ 6) ∨ (22 ≤ x ∧ x ≤ 31) ∨ (46 ≤ x ∧ x ≤ 53) ∨ (63 ≤ x ∧ x ≤ 65)) → Keeps m m ∧ k false m := fun h => by rw [decide_eq_false h] at hk; exact ⟨Keeps.self m, hk⟩
 have l : 63 ≤ x → Keeps m m ∧ k (decide (x ≤ 65)) m := fun h => by
  by_cases c : x ≤ 65
  ·rw [decide_eq_true c]; exact t (by omega)
  ·rw [decide_eq_false c]; exact f (by omega)
 have D : ∀ {p : Prop} [Decidable p], decide p = true → p := fun h => by simpa using h
 have N : ∀ {p : Prop} [Decidable p], decide p = false → ¬ p := fun h => by simpa using h
 have last : (¬ (1 ≤ x ∧ x ≤ 6)) → ¬ (22 ≤ x ∧ x ≤ 31) → ¬ (46 ≤ x ∧ x ≤ 53) → kif (decide (x ≥ 63)) ((Keeps m m ∧ k (decide (x ≤ 65)) m)) ((Keeps m m ∧ k false m)) := fun a b c => kif_c _ (fun h => l (by have := D h; omega)) fun h => f (by have := N h; omega)
 have mid : (¬ (1 ≤ x ∧ x ≤ 6)) → ¬ (22 ≤ x ∧ x ≤ 31) → kif (decide (x ≥ 46)) (kif (decide (x ≤ 53)) ((Keeps m m ∧ k true m)) (kif (decide (x ≥ 63)) ((Keeps m m ∧ k (decide (x ≤ 65)) m)) ((Keeps m m ∧ k false m)))) (kif (decide (x ≥ 63)) ((Keeps m m ∧ k (decide (x ≤ 65)) m)) ((Keeps m m ∧ k false m))) := fun a b =>
  kif_c _ (fun h => kif_c _ (fun h2 => t (by have := D h; have := D h2; omega)) fun h2 => last a b (by have := N h2; omega)) fun h => last a b (by have := N h; omega)
 have fst : (¬ (1 ≤ x ∧ x ≤ 6)) → kif (decide (x ≥ 22)) (kif (decide (x ≤ 31)) ((Keeps m m ∧ k true m)) (kif (decide (x ≥ 46)) (kif (decide (x ≤ 53)) ((Keeps m m ∧ k true m)) (kif (decide (x ≥ 63)) ((Keeps m m ∧ k (decide (x ≤ 65)) m)) ((Keeps m m ∧ k false m)))) (kif (decide (x ≥ 63)) ((Keeps m m ∧ k (decide (x ≤ 65)) m)) ((Keeps m m ∧ k false m))))) (kif (decide (x ≥ 46)) (kif (decide (x ≤ 53)) ((Keeps m m ∧ k true m)) (kif (decide (x ≥ 63)) ((Keeps m m ∧ k (decide (x ≤ 65)) m)) ((Keeps m m ∧ k false m)))) (kif (decide (x ≥ 63)) ((Keeps m m ∧ k (decide (x ≤ 65)) m)) ((Keeps m m ∧ k false m)))) := fun a =>
  kif_c _ (fun h => kif_c _ (fun h2 => t (by have := D h; have := D h2; omega)) fun h2 => mid a (by have := N h2; omega)) fun h => mid a (by have := N h; omega)
 exact kif_c _ (fun h => kif_c _ (fun h2 => t (by have := D h; have := D h2; omega)) fun h2 => fst (by have := N h2; omega)) fun h => fst (by have := N h; omega)
theorem linto_spec {c : Nat → AV} {x : In} (hc : InC c x) {k : Int → Mem → Prop} (hk : k (intoL x) m) : F151 c m k := by
 unfold F151
 refine newI hc fun b m1 hb K i O => ?_
 rw [i.l0]
 refine lis_spec ?_
 simp only [i.l0, i.l2, i.l3]
 unfold intoL at hk
 refine kif_c _ (fun h => ⟨K, ?_⟩) fun h => kif_c _ (fun h2 => kif_c _ (fun h3 => ⟨K, ?_⟩) fun h3 => ⟨K, ?_⟩) fun h2 => ⟨K, ?_⟩
 ·rw [if_neg (by rw [Bool.not_eq_true', decide_eq_false_iff_not] at h; exact h)] at hk; exact hk
 all_goals
  have hh : ((1 ≤ x.k ∧ x.k ≤ 6) ∨ (22 ≤ x.k ∧ x.k ≤ 31) ∨ (46 ≤ x.k ∧ x.k ≤ 53) ∨ (63 ≤ x.k ∧ x.k ≤ 65)) := by rw [Bool.not_eq_false', decide_eq_true_iff] at h; exact h
  rw [if_pos hh] at hk
 ·rw [if_pos (by simp at h2 h3; omega)] at hk; exact hk
 ·rw [if_neg (by simp at h2 h3; omega)] at hk; exact hk
 ·rw [if_neg (by simp at h2; omega)] at hk; exact hk
def immL (x : In) : Int := if x.k = 50 ∨ x.k = 51 ∨ x.k = 52 then x.i else sxV x.i
theorem limm_spec {c : Nat → AV} {x : In} (hc : InC c x) (h0 : 0 ≤ x.i) (h1 : x.i < 65536) {k : Int → Mem → Prop} (hk : k (immL x) m) : F165 c m k := by
 unfold F165
 refine newI hc fun b m1 hb K i O => ?_
 simp only [i.l0, i.l5]
 unfold immL at hk
 refine kif_c _ (fun h => ⟨K, ?_⟩) fun h => kif_c _ (fun h2 => ⟨K, ?_⟩) fun h2 => kif_c _ (fun h3 => ⟨K, ?_⟩) fun h3 => lsign_spec h0 h1 ⟨K, ?_⟩
 ·rw [if_pos (by simp at h; omega)] at hk; exact hk
 ·rw [if_pos (by simp at h2; omega)] at hk; exact hk
 ·rw [if_pos (by simp at h3; omega)] at hk; exact hk
 ·rw [if_neg (by simp at h h2 h3; omega)] at hk; exact hk
theorem most_imm : ∀ n, n < 53 → 46 ≤ n → most (FLT.getD n 0) ≤ 65535 := by decide
theorem imm16 {x : In} (ok : OK x) (h : 46 ≤ x.k) (h2 : x.k ≤ 52) : x.i < 65536 := by
 obtain ⟨n, e, hn⟩ := nat_of (p := 53) (n := x.k) (by omega) (by omega)
 have := most_imm n hn (by omega)
 have hi := ok.i1
 rw [e] at hi
 have : most (fl (n : Int)) ≤ 65535 := this
 omega
def plainS (x : In) : Bool := rightS x && (classS x.k == 1)
theorem lift_is {c : Nat → AV} {x : In} (hc : InC c x) (hi : 0 ≤ x.i) {k : Bool → Mem → Prop} (hk : k (plainS x) m) : F97 c m k := by
 unfold F97
 unfold plainS at hk
 refine newI hc fun b m1 hb K i O => i.lg fun c3 h3 => right_spec h3 hi (kif_c _ (fun h => i.lg fun c6 h6 => class_spec h6 ⟨K, ?_⟩) fun h => ⟨K, ?_⟩)
 ·rw [h, Bool.true_and] at hk; exact hk
 ·rw [h, Bool.false_and] at hk; exact hk
def opsOf (x : In) : List Op19 :=
 if plainS x = false ∨ x.k = 13 ∨ x.k = 76 ∨ x.k = 77 then [] else if x.k = 53 then [⟨1, x.t, 0, 0, IntKind.wrap .u32 (x.i * 65536)⟩] else if x.k = 14 then [⟨2, x.d, 32, 0, 0⟩] else if x.k = 16 then [⟨2, x.d, 33, 0, 0⟩]
 else if x.k = 15 then [⟨2, 32, x.s, 0, 0⟩] else if x.k = 17 then [⟨2, 33, x.s, 0, 0⟩] else if x.k ≤ 3 then [⟨1, 34, 0, 0, IntKind.wrap .u32 x.h⟩, ⟨kindL x.k, x.d, x.t, 34, 0⟩] else if x.k ≤ 6 then [⟨kindL x.k, x.d, x.t, x.s, 0⟩]
 else if intoL x = x.t ∧ 46 ≤ x.k ∧ x.k ≤ 52 then [⟨1, 34, 0, 0, immL x⟩, ⟨kindL x.k, x.t, x.s, 34, 0⟩] else [⟨kindL x.k, x.d, x.s, x.t, 0⟩]
theorem ops1 {b : Nat} {m' : Mem} {c : Nat → AV} {t : TypeId} {o : Op19} (e : m'.obj b = some ⟨5, c, t, false⟩) (h : OpC c o) : IsOps m' (.sl b 0 1 (.ex 1)) [o] :=
 ⟨c, (IsL.row (esz := 5) e rfl rfl).r, fun i hi => by
  have : i = 0 := by simpa using hi
  subst this
  simpa [OpC] using h⟩
theorem ops2 {b : Nat} {m' : Mem} {c : Nat → AV} {t : TypeId} {o p : Op19} (e : m'.obj b = some ⟨10, c, t, false⟩) (h : OpC c o) (h2 : OpC (fun j => c (5 + j)) p) : IsOps m' (.sl b 0 2 (.ex 2)) [o, p] :=
 ⟨c, (IsL.row (esz := 5) e rfl rfl).r, fun i hi => by
  have : i = 0 ∨ i = 1 := by simp at hi; omega
  rcases this with rfl | rfl
  ·simpa [OpC] using h
  ·simpa [OpC] using h2⟩
theorem lof_spec {c : Nat → AV} {x : In} (hc : InC c x) (hi : 0 ≤ x.i) {k : AV → Mem → Prop} (hk : ∀ v m', IsOps m' v (opsOf x) → Keeps m m' → (∀ b, own v b → m.obj b = none) → k v m') : F125 c m k := by
 unfold F125
 refine newI hc fun b2 m1 hb K i O => ?_
 rw [i.l0]
 refine i.lg fun c4 h4 => lift_is h4 hi ?_
 have nil : (plainS x = false ∨ x.k = 13 ∨ x.k = 76 ∨ x.k = 77) → P125_3004 b2 0 x.k true m1 (fun v63 m64 => k v63 m64) (fun m65 => P125_20102 b2 0 x.k m65 (fun v83 m84 => k v83 m84)) := fun h => by
  unfold P125_3004
  refine kif_t rfl (hk _ m1 ?_ K fun b e => e.elim)
  unfold opsOf; rw [if_pos h]
  exact ⟨fun _ => .junk, .nil none _, fun i hi => by simp at hi⟩
 refine kif_c _ (fun h => nil (.inl (by simpa using h))) fun h => kif_c _ (fun h2 => nil (by simp at h2; omega)) fun h2 => kif_c _ (fun h3 => nil (by simp at h3; omega)) fun h3 => ?_
 have hp : plainS x = true := by simpa using h
 simp only [beq_eq_false_iff_ne] at h2 h3
 by_cases h77 : x.k = 77
 ·have e : (x.k == 77) = true := by simpa using h77
  rw [e]; exact nil (by omega)
 have e77 : (x.k == 77) = false := by simpa using h77
 rw [e77]
 have no : ¬ (plainS x = false ∨ x.k = 13 ∨ x.k = 76 ∨ x.k = 77) := fun h => by
  rcases h with h | h | h | h
  ·rw [hp] at h; cases h
  ·exact h2 h
  ·exact h3 h
  ·exact h77 h
 have hr : rightS x = true := by unfold plainS at hp; simp at hp; exact hp.1
 have ok := (right_iff x hi).1 hr
 unfold opsOf at hk
 rw [if_neg no] at hk
 have k0 := ok.k0
 have k1 := ok.k1
 have fr : ∀ {mm : Mem} {b : Nat}, Keeps m1 mm → mm.obj b = none → ∀ b', own (.sl b 0 1 (.ex 1)) b' → m.obj b' = none := fun KK hb' b' e => by cases e; exact newK_none (K.trans KK) hb'
 have fr2 : ∀ {mm : Mem} {b : Nat}, Keeps m1 mm → mm.obj b = none → ∀ b', own (.sl b 0 2 (.ex 2)) b' → m.obj b' = none := fun KK hb' b' e => by cases e; exact newK_none (K.trans KK) hb'
 have kd := @kind_spec_C x.k (by omega) k1
 have h20 : ∀ o, o = [⟨kindL x.k, x.d, x.s, x.t, 0⟩] → (∀ v m', IsOps m' v o → Keeps m m' → (∀ b, own v b → m.obj b = none) → k v m') → P125_20102 b2 0 x.k m1 (fun v89 m90 => k v89 m90) := fun o ho hk => by
  subst ho
  unfold P125_20102
  refine ⟨fun _ => True, ?_⟩
  simp only [Nat.zero_add, true_and]
  refine kd ⟨fun _ _ _ => rfl, ?_⟩
  simp only [i.l1, i.l2, i.l3]
  exact newK_i fun b m2 hb2 K2 e2 O2 => hk _ m2 (ops1 e2 ⟨rfl, rfl, rfl, rfl, rfl⟩) (K.trans K2) (fr (Keeps.self m1) hb2)
 unfold P125_3004
 simp only [Nat.zero_add, i.l0, i.l1, i.l2, i.l3, i.l4, i.l5]
 refine kif_f rfl (kif_c _ (fun c => ?_) fun c53 => kif_c _ (fun c => ?_) fun c14 => kif_c _ (fun c => ?_) fun c16 => kif_c _ (fun c => ?_) fun c15 => kif_c _ (fun c => ?_) fun c17 => kif_c _ (fun c => ?_) fun c3 => kif_c _ (fun c => ?_) fun c6 => ?_)
 ·rw [if_pos (by simpa using c)] at hk
  exact newK_i fun b m2 hb2 K2 e2 O2 => hk _ m2 (ops1 e2 ⟨rfl, rfl, rfl, rfl, rfl⟩) (K.trans K2) (fr (Keeps.self m1) hb2)
 all_goals simp only [beq_eq_false_iff_ne] at c53
 all_goals rw [if_neg c53] at hk
 ·rw [if_pos (by simpa using c)] at hk
  exact newK_i fun b m2 hb2 K2 e2 O2 => hk _ m2 (ops1 e2 ⟨rfl, rfl, rfl, rfl, rfl⟩) (K.trans K2) (fr (Keeps.self m1) hb2)
 all_goals simp only [beq_eq_false_iff_ne] at c14
 all_goals rw [if_neg c14] at hk
 ·rw [if_pos (by simpa using c)] at hk
  exact newK_i fun b m2 hb2 K2 e2 O2 => hk _ m2 (ops1 e2 ⟨rfl, rfl, rfl, rfl, rfl⟩) (K.trans K2) (fr (Keeps.self m1) hb2)
 all_goals simp only [beq_eq_false_iff_ne] at c16
 all_goals rw [if_neg c16] at hk
 ·rw [if_pos (by simpa using c)] at hk
  exact newK_i fun b m2 hb2 K2 e2 O2 => hk _ m2 (ops1 e2 ⟨rfl, rfl, rfl, rfl, rfl⟩) (K.trans K2) (fr (Keeps.self m1) hb2)
 all_goals simp only [beq_eq_false_iff_ne] at c15
 all_goals rw [if_neg c15] at hk
 ·rw [if_pos (by simpa using c)] at hk
  exact newK_i fun b m2 hb2 K2 e2 O2 => hk _ m2 (ops1 e2 ⟨rfl, rfl, rfl, rfl, rfl⟩) (K.trans K2) (fr (Keeps.self m1) hb2)
 all_goals simp only [beq_eq_false_iff_ne] at c17
 all_goals rw [if_neg c17] at hk
 ·rw [if_pos (by simpa using c)] at hk
  refine ⟨fun _ => True, ?_⟩
  simp only [true_and, i.l2, i.l3, i.l4]
  refine kd ⟨fun _ _ _ => rfl, ?_⟩
  simp only [true_and, i.l2, i.l3, i.l4]
  exact newK_i fun b m2 hb2 K2 e2 O2 => hk _ m2 (ops2 e2 ⟨rfl, rfl, rfl, rfl, rfl⟩ ⟨rfl, rfl, rfl, rfl, rfl⟩) (K.trans K2) (fr2 (Keeps.self m1) hb2)
 all_goals rw [if_neg (c := x.k ≤ 3) (by simp at c3; omega)] at hk
 ·rw [if_pos (by simpa using c)] at hk
  refine ⟨fun _ => True, ?_⟩
  simp only [true_and]
  refine kd ⟨fun _ _ _ => rfl, ?_⟩
  simp only [true_and, i.l1, i.l2, i.l3, i.l4]
  exact newK_i fun b m2 hb2 K2 e2 O2 => hk _ m2 (ops1 e2 ⟨rfl, rfl, rfl, rfl, rfl⟩) (K.trans K2) (fr (Keeps.self m1) hb2)
 rw [if_neg (c := x.k ≤ 6) (by simp at c6; omega)] at hk
 refine ⟨fun _ => True, ?_⟩
 simp only [true_and]
 refine i.lg fun c40 h40 => linto_spec h40 ⟨fun _ _ _ => rfl, ?_⟩
 rw [i.l2]
 have p19 : ∀ q : Bool, (q = true ↔ intoL x = x.t ∧ 46 ≤ x.k ∧ x.k ≤ 52) → P125_19004 b2 0 x.k q m1 (fun v60 m61 => k v60 m61) (fun m62 => P125_20102 b2 0 x.k m62 (fun v89 m90 => k v89 m90)) := fun q hq => by
  unfold P125_19004
  refine kif_c _ (fun c => ?_) fun c => ?_
  ·have c := hq.1 c
   rw [if_pos c] at hk
   refine ⟨fun _ => True, ?_⟩
   simp only [true_and, Nat.zero_add]
   have hi2 : x.i < 65536 := imm16 ok c.2.1 c.2.2
   refine i.lg fun c45 h45 => limm_spec h45 hi hi2 ⟨fun _ _ _ => rfl, kd ⟨fun _ _ _ => rfl, ?_⟩⟩
   simp only [i.l1, i.l2]
   exact newK_i fun b m2 hb2 K2 e2 O2 => hk _ m2 (ops2 e2 ⟨rfl, rfl, rfl, rfl, rfl⟩ ⟨rfl, rfl, rfl, rfl, rfl⟩) (K.trans K2) (fr2 (Keeps.self m1) hb2)
  ·rw [if_neg fun h => by rw [hq.2 h] at c; cases c] at hk
   exact h20 _ rfl hk
 refine kif_c _ (fun c => kif_c _ (fun c2 => p19 _ (by simp at c c2 ⊢; omega)) fun c2 => p19 _ (by simp at c c2 ⊢; omega)) fun c => p19 _ (by simp at c ⊢; intro h; omega)
end
theorem ops_ok {x : In} (hi : 0 ≤ x.i) : (opsOf x).length ≤ 2 ∧ ∀ o ∈ opsOf x, OpR o := by
 unfold opsOf
 by_cases c : plainS x = false ∨ x.k = 13 ∨ x.k = 76 ∨ x.k = 77
 ·rw [if_pos c]; exact ⟨by simp, fun o h => by cases h⟩
 rw [if_neg c]
 have hp : plainS x = true := by
  cases h : plainS x with
  | true => rfl
  | false => exact absurd (.inl h) c
 have hr : rightS x = true := by unfold plainS at hp; simp at hp; exact hp.1
 have ok := (right_iff x hi).1 hr
 have k0 := ok.k0
 have k1 := ok.k1
 have s0 := ok.s0
 have s1 := ok.s1
 have t0 := ok.t0
 have t1 := ok.t1
 have d0 := ok.d0
 have d1 := ok.d1
 have kr := kindL_r (x := x.k) (by omega) k1
 have z : isU 0 := ⟨by decide, by decide⟩
 have one : ∀ o, OpR o → [o].length ≤ 2 ∧ ∀ p ∈ [o], OpR p := fun o h => ⟨by simp, fun p hp => by simp at hp; subst hp; exact h⟩
 have two : ∀ o q, OpR o → OpR q → [o, q].length ≤ 2 ∧ ∀ p ∈ [o, q], OpR p := fun o q h g => ⟨by simp, fun p hp => by simp at hp; rcases hp with rfl | rfl; exact h; exact g⟩
 by_cases c1 : x.k = 53
 ·rw [if_pos c1]; exact one _ ⟨⟨by simp, by simp⟩, ⟨t0, by show x.t < 40; omega⟩, ⟨by simp, by simp⟩, ⟨by simp, by simp⟩, wrap_u _⟩
 rw [if_neg c1]
 by_cases c2 : x.k = 14
 ·rw [if_pos c2]; exact one _ ⟨⟨by simp, by simp⟩, ⟨d0, by show x.d < 40; omega⟩, ⟨by simp, by simp⟩, ⟨by simp, by simp⟩, z⟩
 rw [if_neg c2]
 by_cases c3 : x.k = 16
 ·rw [if_pos c3]; exact one _ ⟨⟨by simp, by simp⟩, ⟨d0, by show x.d < 40; omega⟩, ⟨by simp, by simp⟩, ⟨by simp, by simp⟩, z⟩
 rw [if_neg c3]
 by_cases c4 : x.k = 15
 ·rw [if_pos c4]; exact one _ ⟨⟨by simp, by simp⟩, ⟨by simp, by simp⟩, ⟨s0, by show x.s < 40; omega⟩, ⟨by simp, by simp⟩, z⟩
 rw [if_neg c4]
 by_cases c5 : x.k = 17
 ·rw [if_pos c5]; exact one _ ⟨⟨by simp, by simp⟩, ⟨by simp, by simp⟩, ⟨s0, by show x.s < 40; omega⟩, ⟨by simp, by simp⟩, z⟩
 rw [if_neg c5]
 by_cases c6 : x.k ≤ 3
 ·rw [if_pos c6]; exact two _ _ ⟨⟨by simp, by simp⟩, ⟨by simp, by simp⟩, ⟨by simp, by simp⟩, ⟨by simp, by simp⟩, wrap_u _⟩ ⟨kr, ⟨d0, by show x.d < 40; omega⟩, ⟨t0, by show x.t < 40; omega⟩, ⟨by simp, by simp⟩, z⟩
 rw [if_neg c6]
 by_cases c7 : x.k ≤ 6
 ·rw [if_pos c7]; exact one _ ⟨kr, ⟨d0, by show x.d < 40; omega⟩, ⟨t0, by show x.t < 40; omega⟩, ⟨s0, by show x.s < 40; omega⟩, z⟩
 rw [if_neg c7]
 by_cases c8 : intoL x = x.t ∧ 46 ≤ x.k ∧ x.k ≤ 52
 ·rw [if_pos c8]
  have hi2 := imm16 ok c8.2.1 c8.2.2
  have iu : isU (immL x) := by
   unfold immL; split
   ·exact ⟨hi, by omega⟩
   ·exact sxV_u hi hi2
  exact two _ _ ⟨⟨by simp, by simp⟩, ⟨by simp, by simp⟩, ⟨by simp, by simp⟩, ⟨by simp, by simp⟩, iu⟩ ⟨kr, ⟨t0, by show x.t < 40; omega⟩, ⟨s0, by show x.s < 40; omega⟩, ⟨by simp, by simp⟩, z⟩
 rw [if_neg c8]
 exact one _ ⟨kr, ⟨d0, by show x.d < 40; omega⟩, ⟨s0, by show x.s < 40; omega⟩, ⟨t0, by show x.t < 40; omega⟩, z⟩
theorem one_change {f : Nat → Int} {o : Op19} (ho : OpR o) {k : Nat} (hk : k < 32 ∨ k = 34) (h : one18 f o k ≠ f k) : (k : Int) = o.d ∧ k ≠ 0 := by
 unfold one18 at h
 try dsimp only at h
 have up : ∀ (g : Nat → Int) i v, k ≠ i → upd g i v k = g k := fun g i v e => by unfold upd; rw [if_neg e]
 split at h
 ·exact absurd rfl h
 split at h
 ·rw [up _ _ _ (by omega), up _ _ _ (by omega)] at h; exact absurd rfl h
 split at h
 ·rw [up _ _ _ (by omega), up _ _ _ (by omega)] at h; exact absurd rfl h
 split at h
 ·exact absurd rfl h
 split at h
 ·rename_i hd
  by_cases e : k = o.d.toNat
  ·exact ⟨by omega, by omega⟩
  ·rw [up _ _ _ e] at h; exact absurd rfl h
 ·exact absurd rfl h
theorem const_at (f : Nat → Int) (im : Int) (k : Nat) : one18 f ⟨1, 34, 0, 0, im⟩ k = if k = 34 then im else f k := rfl
theorem run_change {x : In} (hi : 0 ≤ x.i) (f : Nat → Int) : ∃ D : Int, ∀ k : Nat, k < 32 → run18 f (opsOf x) k ≠ f k → (k : Int) = D ∧ k ≠ 0 ∧ (D = x.d ∨ D = x.t) := by
 obtain ⟨_, hok⟩ := ops_ok hi
 have one : ∀ o, OpR o → (o.d = x.d ∨ o.d = x.t ∨ o.d = 32 ∨ o.d = 33) → ∃ D : Int, ∀ k : Nat, k < 32 → run18 f [o] k ≠ f k → (k : Int) = D ∧ k ≠ 0 ∧ (D = x.d ∨ D = x.t) := fun o ho hd => ⟨o.d, fun k hk h => by
  obtain ⟨e1, e2⟩ := one_change ho (.inl hk) h
  exact ⟨e1, e2, by omega⟩⟩
 have two : ∀ im o, OpR o → (o.d = x.d ∨ o.d = x.t ∨ o.d = 32 ∨ o.d = 33) → ∃ D : Int, ∀ k : Nat, k < 32 → run18 f [⟨1, 34, 0, 0, im⟩, o] k ≠ f k → (k : Int) = D ∧ k ≠ 0 ∧ (D = x.d ∨ D = x.t) := fun im o ho hd => ⟨o.d, fun k hk h => by
  have h : one18 (one18 f ⟨1, 34, 0, 0, im⟩) o k ≠ f k := h
  have e : one18 f ⟨1, 34, 0, 0, im⟩ k = f k := by rw [const_at, if_neg (by omega)]
  rw [← e] at h
  obtain ⟨e1, e2⟩ := one_change ho (.inl hk) h
  exact ⟨e1, e2, by omega⟩⟩
 unfold opsOf at hok ⊢
 by_cases c : plainS x = false ∨ x.k = 13 ∨ x.k = 76 ∨ x.k = 77
 ·rw [if_pos c]; exact ⟨0, fun k hk h => absurd rfl h⟩
 rw [if_neg c] at hok ⊢
 by_cases c1 : x.k = 53
 ·rw [if_pos c1] at hok ⊢; exact one _ (hok _ (by simp)) (by simp)
 rw [if_neg c1] at hok ⊢
 by_cases c2 : x.k = 14
 ·rw [if_pos c2] at hok ⊢; exact one _ (hok _ (by simp)) (by simp)
 rw [if_neg c2] at hok ⊢
 by_cases c3 : x.k = 16
 ·rw [if_pos c3] at hok ⊢; exact one _ (hok _ (by simp)) (by simp)
 rw [if_neg c3] at hok ⊢
 by_cases c4 : x.k = 15
 ·rw [if_pos c4] at hok ⊢; exact one _ (hok _ (by simp)) (by simp)
 rw [if_neg c4] at hok ⊢
 by_cases c5 : x.k = 17
 ·rw [if_pos c5] at hok ⊢; exact one _ (hok _ (by simp)) (by simp)
 rw [if_neg c5] at hok ⊢
 by_cases c6 : x.k ≤ 3
 ·rw [if_pos c6] at hok ⊢; exact two _ _ (hok _ (by simp)) (by simp)
 rw [if_neg c6] at hok ⊢
 by_cases c7 : x.k ≤ 6
 ·rw [if_pos c7] at hok ⊢; exact one _ (hok _ (by simp)) (by simp)
 rw [if_neg c7] at hok ⊢
 by_cases c8 : intoL x = x.t ∧ 46 ≤ x.k ∧ x.k ≤ 52
 ·rw [if_pos c8] at hok ⊢; exact two _ _ (hok _ (by simp)) (by simp)
 rw [if_neg c8] at hok ⊢
 exact one _ (hok _ (by simp)) (by simp)
section
variable {m0 m : Mem}
theorem ir_right {c : Nat → AV} {o : Op19} (hc : OpC c o) (ho : OpR o) {k : Bool → Mem → Prop} (hk : k true m) : F169 c m k := by
 unfold F169
 refine newK_i fun b m1 hb K e O => ?_
 have h : OpB m1 b o := ⟨_, e, rfl, hc⟩
 simp only [h.l1, h.l2, h.l3]
 refine newK_i fun b7 m2 hb7 K2 e7 O7 => ?_
 have h2 : OpB m2 b o := by
  obtain ⟨y, e, r⟩ := h
  exact ⟨y, by rw [K2 b (by rw [e]; simp)]; exact e, r⟩
 have hk1 := ho.k
 have fin : ldI .i64 m2 b 0 fun x17 => kif (decide (x17 ≥ 0)) (ldI .i64 m2 b 0 fun x18 => (Keeps m m2 ∧ k (decide (x18 ≤ 22)) m)) ((Keeps m m2 ∧ k false m)) := by
  rw [h2.l0]
  refine kif_t (by simp; omega) ?_
  rw [h2.l0]
  refine ⟨K.trans K2, ?_⟩
  rw [decide_eq_true (by omega)]; exact hk
 let f3 : Nat → Int := fun i => if i = 0 then o.d else if i = 1 then o.a else o.b
 have row : IsR m2 1 (.sl b7 0 3 (.ex 3)) 3 (cK .i64 f3) := (IsL.row (esz := 1) e7 rfl rfl).r.congr fun i hi => by
  match i, hi with
  | 0, _ => rfl
  | 1, _ => rfl
  | 2, _ => rfl
 have f3r : ∀ i, 0 ≤ f3 i ∧ f3 i < 40 := fun i => by
  show 0 ≤ (if i = 0 then o.d else if i = 1 then o.a else o.b) ∧ (if i = 0 then o.d else if i = 1 then o.a else o.b) < 40
  split
  ·exact ho.d
  split
  ·exact ho.a
  ·exact ho.b
 have loop : ∀ (j i : Nat), i + j = 3 → L169_2 b 0 (.sl b7 0 3 (.ex 3)) 3 (j + 1) i m2 (fun m13 => ldI .i64 m13 b 0 fun x17 => kif (decide (x17 ≥ 0)) (ldI .i64 m13 b 0 fun x18 => (Keeps m m13 ∧ k (decide (x18 ≤ 22)) m)) ((Keeps m m13 ∧ k false m))) (fun x14 m15 => (Keeps m m15 ∧ k x14 m)) := by
  intro j
  induction j with
  | zero =>
   intro i e
   show R169_2 _ _ _ _ _ _ _ _ _
   unfold R169_2
   exact kif_f (by simp; omega) fin
  | succ j ih =>
   intro i e
   show R169_2 _ _ _ _ _ _ _ _ _
   unfold R169_2
   rw [wrap64 (n := (i : Int) + 1) (by omega) (by omega)]
   have := f3r i
   exact kif_t (by simp; omega) (ldK_r (k := fun _ _ x => kif (decide (x < 0)) _ (kif (decide (x ≥ 40)) _ _)) row i (by omega) fun _ _ _ => kif_f (by simp; omega) (kif_f (by simp; omega) (ih (i + 1) (by omega))))
 exact ⟨4, loop 3 0 (by omega)⟩
theorem e_run1 {c : Nat → AV} {k : KV} : E206 168 ([.agg 5 c] ++ []) m k = F168 c m (fun x m' => k (.flat (.bool x)) m') := by kernel_rfl
theorem ir_none {v : AV} {l : List Op19} (hl : l.length ≤ 8) (hv : IsOps m v l) (ho : ∀ o ∈ l, OpR o) {k : Bool → Mem → Prop} (hk : k false m) : F167 v (.flat (.func (.func 168) #[] #[])) m k := by
 unfold F167
 unfold F206
 rw [hv.len]
 have loop : ∀ (j i : Nat), i + j = l.length → L206_2 v (.flat (.func (.func 168) #[] #[])) l.length (j + 1) i m (fun m11 => k (decide ((-1 : Int) ≥ 0)) m11) (fun x12 m13 => k (decide (x12 ≥ 0)) m13) := by
  intro j
  induction j with
  | zero =>
   intro i e
   show R206_2 _ _ _ _ _ _ _ _
   unfold R206_2
   exact kif_f (by simp; omega) hk
  | succ j ih =>
   intro i e
   show R206_2 _ _ _ _ _ _ _ _
   unfold R206_2
   rw [wrap64 (n := (i : Int) + 1) (by omega) (by omega)]
   refine kif_t (by simp; omega) (hv.ld i (by omega) fun c hc => ?_)
   dsimp only [kfunv]
   refine kif_t rfl ?_
   rw [e_run1]
   dsimp only [kbool]
   unfold F168
   refine newK_i fun b m1 hb K1 e1 O1 => ?_
   rw [ldG_of e1 (by simp)]
   obtain ⟨a0, a1, a2, a3, a4⟩ := hc
   refine ir_right (c := sub c 0 5) (o := l[i]) (by refine ⟨?_, ?_, ?_, ?_, ?_⟩; exact a0; exact a1; exact a2; exact a3; exact a4) (ho _ (List.getElem_mem _)) ?_
   refine ⟨K1, ?_⟩
   exact kif_f rfl (ih (i + 1) (by omega))
 exact ⟨l.length + 1, loop l.length 0 (by omega)⟩
end
def putV (g : Nat → Int) (i v : Int) : Nat → Int := if 0 < i then upd g i.toNat v else g
theorem isP3_lo {i : Nat} (h : i < 36) : isP3 i = false := by simp [isP3]; omega
theorem upd_at (g : Nat → Int) (i : Nat) (v : Int) (k : Nat) : upd g i v k = if k = i then v else g k := rfl
theorem one_put {g : Nat → Int} {o : Op19} (h1 : 1 ≤ o.k) (h2 : o.k ≤ 16) : one18 g o = putV g o.d (valV o.k (g o.a.toNat) (g o.b.toNat) o.i) := by
 unfold one18 putV
 dsimp only
 rw [if_neg (by omega), if_neg (by omega), if_neg (by omega), if_neg (by omega)]
section
variable {x : In}
theorem no_first (hp : plainS x = true) (h : x.k ≠ 13 ∧ x.k ≠ 76 ∧ x.k ≠ 77) : ¬ (plainS x = false ∨ x.k = 13 ∨ x.k = 76 ∨ x.k = 77) := fun e => by
 rcases e with e | e | e | e
 ·rw [hp] at e; cases e
 ·exact h.1 e
 ·exact h.2.1 e
 ·exact h.2.2 e
theorem ops_sh (hp : plainS x = true) (h : 1 ≤ x.k ∧ x.k ≤ 3) : opsOf x = [⟨1, 34, 0, 0, IntKind.wrap .u32 x.h⟩, ⟨kindL x.k, x.d, x.t, 34, 0⟩] := by
 unfold opsOf; rw [if_neg (no_first hp (by omega)), if_neg (by omega), if_neg (by omega), if_neg (by omega), if_neg (by omega), if_neg (by omega), if_pos h.2]
theorem ops_im (hp : plainS x = true) (h : 47 ≤ x.k ∧ x.k ≤ 52) : opsOf x = [⟨1, 34, 0, 0, immL x⟩, ⟨kindL x.k, x.t, x.s, 34, 0⟩] := by
 have e : intoL x = x.t := by unfold intoL; rw [if_pos (by omega), if_pos (by omega)]
 unfold opsOf; rw [if_neg (no_first hp (by omega)), if_neg (by omega), if_neg (by omega), if_neg (by omega), if_neg (by omega), if_neg (by omega), if_neg (by omega), if_neg (by omega), if_pos ⟨e, by omega, by omega⟩]
theorem into_t (h : 46 ≤ x.k ∧ x.k ≤ 53) : intoL x = x.t := by unfold intoL; rw [if_pos (by omega), if_pos h]
theorem two_put {g : Nat → Int} {im : Int} {o : Op19} (h1 : 1 ≤ o.k) (h2 : o.k ≤ 16) (ha : o.a.toNat < 34) (hb : o.b = 34) {i : Nat} (hi : i < 34) : run18 g [⟨1, 34, 0, 0, im⟩, o] i = putV g o.d (valV o.k (g o.a.toNat) im o.i) i := by
 show one18 (one18 g ⟨1, 34, 0, 0, im⟩) o i = _
 rw [one_put h1 h2]
 have e : ∀ j, one18 g ⟨1, 34, 0, 0, im⟩ j = if j = 34 then im else g j := fun j => const_at g im j
 rw [hb, e, e, if_neg (by omega), if_pos (by rfl)]
 unfold putV
 split
 ·rw [upd_at, upd_at, e, if_neg (c := i = 34) (by omega)]
 ·rw [e, if_neg (by omega)]
end
def IsCl (m : Mem) (b : Nat) (cs : List AV) : Prop := ∃ y, m.obj b = some y ∧ y.n = cs.length ∧ y.ro = false ∧ ∀ i, i < cs.length → y.c i = lget cs i
section
variable {m m' : Mem} {b : Nat} {cs : List AV} {i : Nat}
theorem IsCl.fr {S : Nat → Prop} (h : IsCl m b cs) (F : Fr S m m') (hb : ¬ S b) : IsCl m' b cs := by
 obtain ⟨y, e, r⟩ := h
 exact ⟨y, by rw [F b (by rw [e]; simp) hb]; exact e, r⟩
theorem IsCl.keep (h : IsCl m b cs) (K : Keeps m m') : IsCl m' b cs := h.fr (K.fr fun _ => False) fun h => h
theorem IsCl.live (h : IsCl m b cs) : m.obj b ≠ none := by obtain ⟨y, e, _⟩ := h; rw [e]; simp
theorem IsCl.lI {kd : IntKind} {n : Int} (h : IsCl m b cs) (hi : i < cs.length) (e : lget cs i = .flat (.int kd n)) (k : Int → Prop) : ldI kd m b i k = k n := by
 obtain ⟨y, ey, hn, hr, hc⟩ := h
 exact ldI_of ey (by omega) ((hc i hi).trans e)
theorem ldA_v {v : AV} {y : Blk} (e : m.obj b = some y) (hi : i < y.n) (hc : y.c i = v) (h1 : v.one = true) (k : AV → Prop) : ldA m b i k = k v := by
 unfold ldA kobj
 rw [e]
 simp only [kite_eq, hi, if_true, hc]
 cases v with
 | flat u => rfl
 | ptr b o => rfl
 | sl b o l c => rfl
 | e0 => rfl
 | mp b => rfl
 | ch => rfl
 | agg n c => simp [AV.one] at h1
 | tup vs => simp [AV.one] at h1
 | clo f vs => simp [AV.one] at h1
 | junk => simp [AV.one] at h1
theorem IsCl.lA {v : AV} (h : IsCl m b cs) (hi : i < cs.length) (e : lget cs i = v) (h1 : v.one = true) (k : AV → Prop) : ldA m b i k = k v := by
 obtain ⟨y, ey, hn, hr, hc⟩ := h
 exact ldA_v ey (by omega) ((hc i hi).trans e) h1 k
theorem lget_set (v : AV) : ∀ (cs : List AV) (i j : Nat), i < cs.length → lget (cs.set i v) j = if j = i then v else lget cs j
 | [], i, j, h => by simp at h
 | x :: cs, 0, 0, h => rfl
 | x :: cs, 0, j + 1, h => by simp [lget]
 | x :: cs, i + 1, 0, h => by simp [lget]
 | x :: cs, i + 1, j + 1, h => by simpa [lget] using lget_set v cs i j (by simpa using h)
theorem IsCl.set {v : AV} {y : Blk} (e : m.obj b = some y) (h : IsCl m b cs) (hi : i < cs.length) : IsCl (m.set b { y with c := upd y.c i v }) b (cs.set i v) := by
 obtain ⟨y', ey, hn, hr, hc⟩ := h
 rw [e] at ey; cases ey
 refine ⟨_, set_same _ _ _, by simpa using hn, hr, fun j hj => ?_⟩
 rw [lget_set v cs i j hi]
 show upd y.c i v j = _
 unfold upd
 split
 ·rfl
 ·exact hc j (by simpa using hj)
theorem IsCl.sC {v : AV} {k : Mem → Prop} (h : IsCl m b cs) (hi : i < cs.length) (hk : ∀ m', IsCl m' b (cs.set i v) → Only m b m' → k m') : stC m b i v k := by
 have h0 := h
 obtain ⟨y, ey, hn, hr, hc⟩ := h
 rw [stC_of ey hr (by omega)]
 exact hk _ (IsCl.set ey h0 hi) (Only.set _ _ _)
theorem IsCl.sV {v : AV} {k : Mem → Prop} (h : IsCl m b cs) (hi : i < cs.length) (hv : v.one = true) (hk : ∀ m', IsCl m' b (cs.set i v) → Only m b m' → k m') : stV m b i v k := by
 have h0 := h
 obtain ⟨y, ey, hn, hr, hc⟩ := h
 refine stV_i ey hr hv (by omega) fun m' e O => hk m' ?_ O
 refine ⟨_, e, by simpa using hn, hr, fun j hj => ?_⟩
 rw [lget_set v cs i j hi]
 show upd y.c i v j = _
 unfold upd
 split
 ·rfl
 ·exact hc j (by simpa using hj)
theorem IsCl.new {n : Nat} {t : TypeId} {c : Nat → AV} {k : Nat → Mem → Prop} (cs : List AV) (hn : n = cs.length) (hc : ∀ i, i < cs.length → c i = lget cs i) (hk : ∀ b m', m.obj b = none → Keeps m m' → IsCl m' b cs → k b m') : newK m ⟨n, c, t, false⟩ k :=
 newK_i fun b m' hb K e O => hk b m' hb K ⟨_, e, hn, rfl, hc⟩
end
def LiveL (m : Mem) (l : List Nat) : Prop := l.Nodup ∧ ∀ b ∈ l, m.obj b ≠ none
theorem LiveL.keep {m m' : Mem} {l : List Nat} (h : LiveL m l) (K : Keeps m m') : LiveL m' l := ⟨h.1, fun b hb => by rw [K b (h.2 b hb)]; exact h.2 b hb⟩
theorem LiveL.cons {m m' : Mem} {l : List Nat} {b : Nat} (h : LiveL m l) (K : Keeps m m') (hb : m.obj b = none) (hb' : m'.obj b ≠ none) : LiveL m' (b :: l) := by
 refine ⟨List.nodup_cons.2 ⟨fun hm => h.2 b hm hb, h.1⟩, fun x hx => ?_⟩
 rcases List.mem_cons.1 hx with rfl | hx
 ·exact hb'
 ·exact (h.keep K).2 x hx
abbrev vi (n : Int) : AV := .flat (.int .i64 n)
abbrev vu (n : Int) : AV := .flat (.int .u32 n)
abbrev vb (b : Bool) : AV := .flat (.bool b)
structure Ev where
 at_ : Int
 dev : Int
 seq : Int
deriving DecidableEq
def EvC (c : Nat → AV) (e : Ev) : Prop := c 0 = vi e.at_ ∧ c 1 = vi e.dev ∧ c 2 = vi e.seq
def IsEv (m : Mem) (v : AV) (es : List Ev) : Prop := ∃ c, IsL m 3 v es.length c ∧ ∀ i, (h : i < es.length) → EvC (fun j => c (i * 3 + j)) es[i]
structure BB where
 b : Nat
 w : Nat
 ln : Nat
 t1 : Nat
 t2 : Nat
 u : Nat
 d : Nat
 k : Nat
 kb : Nat
 r : RB
def BB.all (q : BB) : List Nat := [q.b, q.w, q.ln, q.t1, q.t2, q.u, q.d, q.k, q.kb, q.r.b, q.r.b1, q.r.b2, q.r.b3]
structure Dv where
 ev : List Ev := []
 sq : Int := 0
 up : Int := 0
 en : Int := 0
 c1 : Int := 0
 p1 : Int := 0
 s1 : Int := 0
 c2 : Int := 0
 p2 : Int := 0
 s2 : Int := 0
 lost : Bool := false
 uc : Int := 0
 uo : AV := .flat (.slice none 0 0)
 df : Int := 0
 dt : Int := 0
 dn : Int := 0
 ds : Int := 0
 ks : Int := 0
 ka : Int := 0
 kc : Int := 0
 kt : Int := 0
 nd : Nat := 0
 dk : Nat → Int := fun _ => 0
structure IsBus (m : Mem) (q : BB) (p : Nat) (B : Nat → Int) (M W : Nat → Bool) (D : Dv) (wv : AV) : Prop where
 b : IsCl m q.b [.ptr q.r.b 0, .ptr q.w 0, .ptr q.ln 0, .ptr q.t1 0, .ptr q.t2 0, .ptr q.u 0, .ptr q.d 0, .ptr q.k 0]
 r : IsRam m q.r p B M W
 w : IsCl m q.w [wv, vi D.sq]
 wl : IsEv m wv D.ev
 ln : IsCl m q.ln [vu D.up, vu D.en]
 t1 : IsCl m q.t1 [vi 1, .ptr q.w 0, vu D.c1, vu D.p1, vu D.s1]
 t2 : IsCl m q.t2 [vi 2, .ptr q.w 0, vu D.c2, vu D.p2, vu D.s2]
 u : IsCl m q.u [vi 3, .ptr q.w 0, .ch, .ch, vb D.lost, vu D.uc, D.uo]
 d : IsCl m q.d [vi 4, .ptr q.w 0, .ptr q.r.b 0, vu D.df, vu D.dt, vu D.dn, vu D.ds]
 k : IsCl m q.k [vi 5, .ptr q.w 0, .ptr q.r.b 0, .sl q.kb 0 D.nd (.ex D.nd), vu D.ks, vu D.ka, vu D.kc, vu D.kt]
 kb : IsL m 1 (.sl q.kb 0 D.nd (.ex D.nd)) D.nd (cB D.dk)
 dkr : ∀ i, 0 ≤ D.dk i ∧ D.dk i < 256
 nd : q.all.Nodup
 nw : ∀ x, own wv x → x ∉ q.all
def imgB (n : Nat) (f : Nat → Int) : Nat → Int := fun j => if j < n then f j else 0
theorem imgB_rng {n : Nat} {f : Nat → Int} (hf : ∀ i, i < n → 0 ≤ f i ∧ f i < 256) (i : Nat) : 0 ≤ imgB n f i ∧ imgB n f i < 256 := by
 unfold imgB; split
 ·rename_i h; exact hf i h
 ·omega
section
variable {m : Mem}
theorem IsEv.fr {m' : Mem} {S : Nat → Prop} {v : AV} {es : List Ev} (h : IsEv m v es) (F : Fr S m m') (hs : ∀ b, own v b → ¬ S b) : IsEv m' v es := by
 obtain ⟨c, h1, h2⟩ := h; exact ⟨c, h1.fr F hs, h2⟩
theorem IsEv.live {v : AV} {es : List Ev} (h : IsEv m v es) {b : Nat} (hb : own v b) : m.obj b ≠ none := by
 obtain ⟨c, h1, _⟩ := h; exact h1.live hb
theorem disk_n {n : Nat} (h : n ≤ 4096) : (IntKind.wrap .i64 ((if 64 < (IntKind.wrap .i64 ((IntKind.wrap .i64 ((IntKind.wrap .i64 ((n : Int) + 64)) - 1)).tdiv 64)) then 64 else (IntKind.wrap .i64 ((IntKind.wrap .i64 ((IntKind.wrap .i64 ((n : Int) + 64)) - 1)).tdiv 64))) * 64)) = (((n + 63) / 64 * 64 : Nat) : Int) := by
 rw [wrap64 (n := (n : Int) + 64) (by omega) (by omega), wrap64 (n := (n : Int) + 64 - 1) (by omega) (by omega), Int.tdiv_eq_ediv_of_nonneg (by omega), wrap64 (n := ((n : Int) + 64 - 1) / 64) (by omega) (by omega)]
 rw [if_neg (by omega), wrap64 (by omega) (by omega)]
 omega
theorem newdisk_spec {w r : Nat} {v : AV} {n : Nat} {f : Nat → Int} (hv : IsR m 1 v n (cB f)) (hn : n ≤ 4096) {k : AV → Mem → Prop}
  (hk : ∀ b kb m', m.obj b = none → m.obj kb = none → b ≠ kb → Keeps m m' → IsCl m' b [vi 5, .ptr w 0, .ptr r 0, .sl kb 0 ((n + 63) / 64 * 64) (.ex ((n + 63) / 64 * 64)), vu 0, vu 0, vu 0, vu 0] → IsL m' 1 (.sl kb 0 ((n + 63) / 64 * 64) (.ex ((n + 63) / 64 * 64))) ((n + 63) / 64 * 64) (cB (imgB n f)) → k (.ptr b 0) m') :
  F118 5 w 0 r 0 v m k := by
 unfold F118
 rw [klen_r hv]
 simp only [disk_n hn, Int.toNat_natCast]
 generalize hq : (n + 63) / 64 * 64 = q at hk
 refine mkS_i (by omega) (by omega) (by omega) fun b2 m3 hb2 K3 e3 O3 => ?_
 simp only [Int.toNat_natCast, List.length_singleton, Nat.mul_one] at e3
 have hL : IsL m3 1 (.sl b2 0 q (.ex q)) q (fun _ => .flat (.int .u8 0)) := (IsL.row (esz := 1) e3 (by simp) rfl).congr fun i hi => reprow1 _ i
 refine copL hL (hv.keep K3) fun m5 u h5 F5 _ => ?_
 have K5 : Keeps m m5 := Fr.keeps K3 F5 fun x e => by cases e; exact hb2
 refine IsCl.new [vi 5, .ptr w 0, .ptr r 0, .sl b2 0 q (.ex q), vu 0, vu 0, vu 0, vu 0] rfl (fun i hi => ?_) fun b m6 hb K6 h6 => ?_
 ·have : i = 0 ∨ i = 1 ∨ i = 2 ∨ i = 3 ∨ i = 4 ∨ i = 5 ∨ i = 6 ∨ i = 7 := by simp at hi; omega
  rcases this with rfl | rfl | rfl | rfl | rfl | rfl | rfl | rfl <;> rfl
 ·refine hk b b2 m6 (newK_none K5 hb) hb2 (fun e => ?_) (K5.trans K6) h6 ((h5.keep K6).congr fun i hi => ?_)
  ·subst e; exact h5.live rfl hb
  ·simp only [cB, imgB, Nat.mul_one]
   by_cases c : i < n
   ·rw [if_pos (by omega), if_pos c]
   ·rw [if_neg (by omega), if_neg c]
theorem slS_all {v : AV} {n : Nat} {c : Nat → AV} {x : Int} (h : IsS m 1 v n c) (hx : x = n) {k : AV → Prop} (hk : ∀ v', IsS m 1 v' n c → k v') : slS 1 v none (some x) k := by
 refine slS_s h (l := 0) (u := n) rfl (by simpa [optI] using hx) (by omega) (Nat.le_refl _) fun v' hv _ => hk v' ?_
 rw [Nat.sub_zero] at hv
 exact hv.congr fun i _ => by simp
theorem newbus_spec {x : Int} {v1 v2 : AV} {n nd : Nat} {f fd : Nat → Int} (hx : 1 ≤ x ∧ x ≤ 64) (h1 : IsS m 1 v1 n (cB f)) (hf : ∀ i, i < n → 0 ≤ f i ∧ f i < 256) (hn : (n : Int) ≤ x * 1024) (h2 : IsR m 1 v2 nd (cB fd)) (hfd : ∀ i, i < nd → 0 ≤ fd i ∧ fd i < 256) (hnd : nd ≤ 4096) {k : AV → Mem → Prop}
  (hk : ∀ q m', IsBus m' q x.toNat (imgB n f) (fun _ => false) (fun _ => false) { nd := (nd + 63) / 64 * 64, dk := imgB nd fd } (.flat (.slice none 0 0)) → Keeps m m' → (∀ b ∈ q.all, m.obj b = none) → k (.ptr q.b 0) m') : F79 x v1 v2 m k := by
 unfold F79
 refine new_spec fun r m2 hr K2 f2 => ?_
 have hp : clampP x = x.toNat := by unfold clampP; omega
 rw [hp] at hr
 have L2 : LiveL m2 [r.b, r.b1, r.b2, r.b3] := by
  obtain ⟨n1, n2, n3, n4, n5, n6⟩ := hr.ne
  refine ⟨by simp [n1, n2, n3, n4, n5, n6], fun b hb => ?_⟩
  simp at hb
  exact hr.live hb
 unfold F113
 refine IsCl.new [.flat (.slice none 0 0), vi 0] rfl (fun i _ => rfl) fun w m4 hw K4 h4 => ?_
 have L4 := L2.cons K4 hw h4.live
 have n4 : m.obj w = none := newK_none K2 hw
 dsimp only [kptr]
 rw [klen_r h1.r]
 refine size_spec (hr.keep K4) ?_
 have hxp : ((x.toNat * 1024 : Nat) : Int) = x * 1024 := by omega
 rw [hxp, wrap64 (by omega) (by omega), if_neg (by omega)]
 refine slS_all (h1.keep (K2.trans K4)) rfl fun v10 h10 => ?_
 refine put_spec (hr.keep K4) (by unfold isU; omega) h10.r hf (by omega) (fun hno => absurd (show inR x.toNat 0 n from ⟨by omega, by omega⟩) hno) fun _ m14 hr14 F14 => ?_
 have L14 : LiveL m14 [w, r.b, r.b1, r.b2, r.b3] := ⟨L4.1, fun b hb => by
  by_cases c : r.has b
  ·exact hr14.live c
  ·rw [F14 b (L4.2 b hb) c]; exact L4.2 b hb⟩
 have K14 : Keeps m m14 := fun b hb => by
  have e1 := (K2.trans K4) b hb
  rw [F14 b (by rw [e1]; exact hb) (fun c => hb (f2 b c)), e1]
 have hw14 := h4.fr F14 fun c => by
  have := L4.1
  simp only [List.nodup_cons] at this
  refine this.1 ?_
  rcases c with c | c | c | c <;> simp [c]
 have hB : IsRam m14 r x.toNat (imgB n f) (fun _ => false) (fun _ => false) := hr14.congr (fun i _ => by
  unfold putB imgB
  by_cases c : i < n
  ·rw [if_pos (by omega), if_pos c]; simp
  ·rw [if_neg (by omega), if_neg c]) (imgB_rng hf) (fun i _ => rfl) (fun i _ => by unfold tW; simp)
 unfold F114
 refine IsCl.new [vu 0, vu 0] rfl (fun i _ => rfl) fun ln m16 hln K16 h16 => ?_
 have L16 := L14.cons K16 hln h16.live
 unfold F115
 refine IsCl.new [vi 1, .ptr w 0, vu 0, vu 0, vu 0] rfl (fun i hi => by
  have : i = 0 ∨ i = 1 ∨ i = 2 ∨ i = 3 ∨ i = 4 := by simp at hi; omega
  rcases this with rfl | rfl | rfl | rfl | rfl <;> rfl) fun t1 m20 ht1 K20 h20 => ?_
 have L20 := L16.cons K20 ht1 h20.live
 refine IsCl.new [vi 2, .ptr w 0, vu 0, vu 0, vu 0] rfl (fun i hi => by
  have : i = 0 ∨ i = 1 ∨ i = 2 ∨ i = 3 ∨ i = 4 := by simp at hi; omega
  rcases this with rfl | rfl | rfl | rfl | rfl <;> rfl) fun t2 m24 ht2 K24 h24 => ?_
 have L24 := L20.cons K24 ht2 h24.live
 unfold F116
 refine IsCl.new [vi 3, .ptr w 0, .ch, .ch, vb false, vu 0, .flat (.slice none 0 0)] rfl (fun i hi => by
  have : i = 0 ∨ i = 1 ∨ i = 2 ∨ i = 3 ∨ i = 4 ∨ i = 5 ∨ i = 6 := by simp at hi; omega
  rcases this with rfl | rfl | rfl | rfl | rfl | rfl | rfl <;> rfl) fun u m28 hu K28 h28 => ?_
 have L28 := L24.cons K28 hu h28.live
 unfold F117
 refine IsCl.new [vi 4, .ptr w 0, .ptr r.b 0, vu 0, vu 0, vu 0, vu 0] rfl (fun i hi => by
  have : i = 0 ∨ i = 1 ∨ i = 2 ∨ i = 3 ∨ i = 4 ∨ i = 5 ∨ i = 6 := by simp at hi; omega
  rcases this with rfl | rfl | rfl | rfl | rfl | rfl | rfl <;> rfl) fun d m34 hd K34 h34 => ?_
 have L34 := L28.cons K34 hd h34.live
 have K14_34 := ((((K16.trans K20).trans K24).trans K28).trans K34)
 have K34' := K14.trans K14_34
 refine newdisk_spec (h2.keep K34') hnd fun kk kb m40 hkk hkb hne K40 h40 hL40 => ?_
 have L40a : LiveL m40 (kb :: [d, u, t2, t1, ln, w, r.b, r.b1, r.b2, r.b3]) := L34.cons K40 hkb (hL40.live rfl)
 have L40 : LiveL m40 (kk :: kb :: [d, u, t2, t1, ln, w, r.b, r.b1, r.b2, r.b3]) := by
  refine ⟨List.nodup_cons.2 ⟨fun hm => ?_, L40a.1⟩, fun b hb => ?_⟩
  ·rcases List.mem_cons.1 hm with e | hm
   ·exact hne e
   ·exact L34.2 _ hm hkk
  ·rcases List.mem_cons.1 hb with rfl | hb
   ·exact h40.live
   ·exact L40a.2 b hb
 refine kif_t rfl (kif_t rfl (kif_t rfl (kif_t rfl (kif_t rfl (kif_t rfl (kif_t rfl (kif_t rfl ?_)))))))
 refine IsCl.new [.ptr r.b 0, .ptr w 0, .ptr ln 0, .ptr t1 0, .ptr t2 0, .ptr u 0, .ptr d 0, .ptr kk 0] rfl (fun i hi => by
  have : i = 0 ∨ i = 1 ∨ i = 2 ∨ i = 3 ∨ i = 4 ∨ i = 5 ∨ i = 6 ∨ i = 7 := by simp at hi; omega
  rcases this with rfl | rfl | rfl | rfl | rfl | rfl | rfl | rfl <;> rfl) fun b m41 hb K41 h41 => ?_
 have L41 := L40.cons K41 hb h41.live
 have Kall := K34'.trans (K40.trans K41)
 have K14' := K14_34.trans (K40.trans K41)
 refine hk ⟨b, w, ln, t1, t2, u, d, kk, kb, r⟩ m41 ⟨h41, hB.keep K14', hw14.keep K14', ⟨fun _ => .junk, .nil none _, fun i h => by simp at h⟩, h16.keep ((((K20.trans K24).trans K28).trans K34).trans (K40.trans K41)), h20.keep (((K24.trans K28).trans K34).trans (K40.trans K41)), h24.keep ((K28.trans K34).trans (K40.trans K41)), h28.keep (K34.trans (K40.trans K41)), h34.keep (K40.trans K41), h40.keep K41, hL40.keep K41, imgB_rng hfd, ?_, fun x h => h.elim⟩ Kall fun x hx => ?_
 ·have h := L41.1
  have hp : (BB.all ⟨b, w, ln, t1, t2, u, d, kk, kb, r⟩).Perm (b :: kk :: kb :: [d, u, t2, t1, ln, w, r.b, r.b1, r.b2, r.b3]) := by
   unfold BB.all
   simp only [List.perm_cons]
   have e1 : [w, ln, t1, t2, u, d, kk, kb, r.b, r.b1, r.b2, r.b3] = [w, ln, t1, t2, u, d, kk, kb] ++ [r.b, r.b1, r.b2, r.b3] := rfl
   have e2 : kk :: kb :: [d, u, t2, t1, ln, w, r.b, r.b1, r.b2, r.b3] = [w, ln, t1, t2, u, d, kb, kk].reverse ++ [r.b, r.b1, r.b2, r.b3] := rfl
   rw [e1, e2]
   refine List.Perm.append_right _ (List.Perm.trans ?_ (List.reverse_perm _).symm)
   simp only [List.perm_cons]
   exact List.Perm.swap _ _ _
  exact hp.symm.nodup h
 ·have nn : ∀ {mm : Mem} {y : Nat}, Keeps m mm → mm.obj y = none → m.obj y = none := fun K h => newK_none K h
  simp only [BB.all, List.mem_cons, List.not_mem_nil, or_false] at hx
  rcases hx with rfl | rfl | rfl | rfl | rfl | rfl | rfl | rfl | rfl | rfl | rfl | rfl | rfl
  ·exact nn (K34'.trans K40) hb
  ·exact n4
  ·exact nn K14 hln
  ·exact nn (K14.trans K16) ht1
  ·exact nn (K14.trans (K16.trans K20)) ht2
  ·exact nn (K14.trans ((K16.trans K20).trans K24)) hu
  ·exact nn (K14.trans (((K16.trans K20).trans K24).trans K28)) hd
  ·exact nn K34' hkk
  ·exact nn K34' hkb
  ·exact f2 _ (.inl rfl)
  ·exact f2 _ (.inr (.inl rfl))
  ·exact f2 _ (.inr (.inr (.inl rfl)))
  ·exact f2 _ (.inr (.inr (.inr rfl)))
end
def engX (b c : Nat) (cap made used : Int) : Nat → AV := lget [.ptr b 0, .ptr c 0, vi cap, vi made, vi used]
structure Mac (m : Mem) (e : Nat) (q : BB) (c : Nat) (p : Nat) (S : St) (B : Nat → Int) (M W : Nat → Bool) (D : Dv) (wv : AV) (n : Int) (l : List (Key × Val)) (Sc : Nat → Prop) (cap made used : Int) : Prop where
 s : IsSt m e S
 sx : S.x = engX q.b c cap made used
 sq : S.q = 5
 b : IsBus m q p B M W D wv
 c : Ca m c n l Sc
 de : e ∉ q.all
 dw : ¬ own wv e
 ce : ¬ Sc e
 cb : ∀ b ∈ q.all, ¬ Sc b
 cw : ∀ b, own wv b → ¬ Sc b
theorem BB.has {q : BB} {x : Nat} (h : q.r.has x) : x ∈ q.all := by
 rcases h with h | h | h | h <;> simp [BB.all, h]
section
variable {m : Mem}
theorem IsBus.fr {m' : Mem} {S : Nat → Prop} {q : BB} {p : Nat} {B : Nat → Int} {M W : Nat → Bool} {D : Dv} {wv : AV} (h : IsBus m q p B M W D wv) (F : Fr S m m') (hs : ∀ b ∈ q.all, ¬ S b) (hw : ∀ b, own wv b → ¬ S b) : IsBus m' q p B M W D wv :=
 ⟨h.b.fr F (hs _ (by simp [BB.all])), h.r.fr F fun x hx => hs x (BB.has hx), h.w.fr F (hs _ (by simp [BB.all])), h.wl.fr F hw, h.ln.fr F (hs _ (by simp [BB.all])), h.t1.fr F (hs _ (by simp [BB.all])), h.t2.fr F (hs _ (by simp [BB.all])), h.u.fr F (hs _ (by simp [BB.all])), h.d.fr F (hs _ (by simp [BB.all])), h.k.fr F (hs _ (by simp [BB.all])), h.kb.fr F (fun b e => hs _ (by cases e; simp [BB.all])), h.dkr, h.nd, h.nw⟩
theorem IsBus.keep {m' : Mem} {q : BB} {p : Nat} {B : Nat → Int} {M W : Nat → Bool} {D : Dv} {wv : AV} (h : IsBus m q p B M W D wv) (K : Keeps m m') : IsBus m' q p B M W D wv := h.fr (K.fr fun _ => False) (fun _ _ h => h) fun _ _ h => h
theorem IsBus.live {q : BB} {p : Nat} {B : Nat → Int} {M W : Nat → Bool} {D : Dv} {wv : AV} (h : IsBus m q p B M W D wv) {x : Nat} (hx : x ∈ q.all) : m.obj x ≠ none := by
 simp only [BB.all, List.mem_cons, List.not_mem_nil, or_false] at hx
 rcases hx with rfl | rfl | rfl | rfl | rfl | rfl | rfl | rfl | rfl | hx
 ·exact h.b.live
 ·exact h.w.live
 ·exact h.ln.live
 ·exact h.t1.live
 ·exact h.t2.live
 ·exact h.u.live
 ·exact h.d.live
 ·exact h.k.live
 ·exact h.kb.live rfl
 ·exact h.r.live hx
theorem IsSt.fr {m' : Mem} {T : Nat → Prop} {b : Nat} {S : St} (h : IsSt m b S) (F : Fr T m m') (hs : ¬ T b) : IsSt m' b S := by
 obtain ⟨x, e, r⟩ := h
 exact ⟨x, by rw [F b (by rw [e]; simp) hs]; exact e, r⟩
theorem newmodel_spec {x : Int} {v1 v2 : AV} {n nd : Nat} {f fd : Nat → Int} (hx : 1 ≤ x ∧ x ≤ 64) (h1 : IsS m 1 v1 n (cB f)) (hf : ∀ i, i < n → 0 ≤ f i ∧ f i < 256) (hn : (n : Int) ≤ x * 1024) (h2 : IsR m 1 v2 nd (cB fd)) (hfd : ∀ i, i < nd → 0 ≤ fd i ∧ fd i < 256) (hnd : nd ≤ 4096) {k : AV → Int → Mem → Prop}
  (hk : ∀ q b m', IsBus m' q x.toNat (imgB n f) (fun _ => false) (fun _ => false) { nd := (nd + 63) / 64 * 64, dk := imgB nd fd } (.flat (.slice none 0 0)) → IsSt m' b { St0 with x := fun _ => .ptr q.b 0, q := 1 } → Keeps m m' → (∀ b ∈ q.all, m.obj b = none) → m.obj b = none → k (.ptr b 0) 0 m') : F48 x v1 v2 m k := by
 unfold F48
 refine kif_f (by simp; omega) (kif_f (by simp; omega) ?_)
 rw [klen_r h1.r, wrap64 (by omega) (by omega)]
 refine kif_f (by simp; omega) ?_
 rw [klen_r h2]
 refine kif_f (by simp; omega) (fresh_spec fun c3 h3 => newbus_spec hx h1 hf hn h2 hfd hnd fun q m6 hb K6 f6 => kif_t rfl (newK_i fun b m7 hb7 K7 e7 O7 => ?_))
 refine hk q b m7 (hb.keep K7) ⟨_, e7, rfl, rfl, fun i hi => ?_, fun j hj => ?_⟩ (K6.trans K7) f6 (newK_none K6 hb7)
 ·show upd _ 73 _ i = _
  unfold upd splice
  rw [if_neg (by omega), if_pos (by omega), Nat.sub_zero]
  exact h3 i hi
 ·have : j = 0 := by have : j < 1 := hj; omega
  subst this
  rfl
theorem mstate_spec {b : Nat} {S : St} (h : IsSt m b S) {k : (Nat → AV) → Mem → Prop} (hk : ∀ c, StCells c S → k c m) : F49 b 0 m k := by
 unfold F49
 simp only [Nat.zero_add]
 intro b2 hb2
 have K1 := Keeps.set hb2 ⟨73, Z73, 46, false⟩
 refine ldS_st (h.keep K1) fun c hc => stS_b (set_same _ _ _) rfl rfl hc fun m4 h4 O4 => ldS_st h4 fun c5 h5 => ⟨?_, StCells.inDom h5 m, hk c5 h5⟩
 exact Only.keeps K1 hb2 O4
theorem estate_spec {b : Nat} {S : St} (h : IsSt m b S) {k : (Nat → AV) → Mem → Prop} (hk : ∀ c, StCells c S → k c m) : F26 b 0 m k := by
 unfold F26
 simp only [Nat.zero_add]
 intro b2 hb2
 have K1 := Keeps.set hb2 ⟨73, Z73, 46, false⟩
 refine ldS_st (h.keep K1) fun c hc => stS_b (set_same _ _ _) rfl rfl hc fun m4 h4 O4 => ldS_st h4 fun c5 h5 => ⟨?_, StCells.inDom h5 m, hk c5 h5⟩
 exact Only.keeps K1 hb2 O4
theorem tail_ld {b : Nat} {S : St} (h : IsSt m b S) {j : Nat} (hj : j < S.q) {v : AV} (e : S.x j = v) (h1 : v.one = true) (k : AV → Prop) : ldA m b (73 + j) k = k v := by
 obtain ⟨x, ex, hn, hr, hc, hx⟩ := h
 exact ldA_v ex (by omega) ((hx j hj).trans e) h1 k
theorem tail_li {b : Nat} {S : St} (h : IsSt m b S) {j : Nat} (hj : j < S.q) {n : Int} (e : S.x j = vi n) (k : Int → Prop) : ldI .i64 m b (73 + j) k = k n := by
 obtain ⟨x, ex, hn, hr, hc, hx⟩ := h
 exact ldI_of ex (by omega) ((hx j hj).trans e)
theorem neweng_spec {x most : Int} {v1 v2 : AV} {n nd : Nat} {f fd : Nat → Int} (hx : 1 ≤ x ∧ x ≤ 64) (h1 : IsS m 1 v1 n (cB f)) (hf : ∀ i, i < n → 0 ≤ f i ∧ f i < 256) (hn : (n : Int) ≤ x * 1024) (h2 : IsR m 1 v2 nd (cB fd)) (hfd : ∀ i, i < nd → 0 ≤ fd i ∧ fd i < 256) (hnd : nd ≤ 4096) {k : AV → Int → Mem → Prop}
  (hk : ∀ e q c Sc m', Mac m' e q c x.toNat { St0 with x := engX q.b c 32 0 0, q := 5 } (imgB n f) (fun _ => false) (fun _ => false) { nd := (nd + 63) / 64 * 64, dk := imgB nd fd } (.flat (.slice none 0 0)) (clN most) [] Sc 32 0 0 → Keeps m m' → m.obj e = none → (∀ b ∈ q.all, m.obj b = none) → (∀ b, Sc b → m.obj b = none) → k (.ptr e 0) 0 m') : F34 x v1 v2 most m k := by
 unfold F34
 refine newmodel_spec hx h1 hf hn h2 hfd hnd fun q b m3 hb3 hs3 K3 f3 fb => ?_
 refine kif_f rfl ?_
 dsimp only [kptr]
 refine mstate_spec hs3 fun c6 h6 => ?_
 unfold F50
 rw [show (0 : Nat) + 73 = 73 + 0 from rfl, tail_ld hs3 (j := 0) (by show 0 < 1; decide) rfl rfl]
 refine new22 fun c m13 Sc C13 K13 f13 => kif_t rfl (kif_t rfl (newK_i fun e m14 he K14 e14 O14 => ?_))
 have hb14 := (hb3.keep K13).keep K14
 refine hk e q c Sc m14 ⟨⟨_, e14, rfl, rfl, fun i hi => ?_, fun j hj => ?_⟩, rfl, rfl, hb14, C13.keep K14, fun hm => ?_, fun h => h, fun h => ?_, fun b hb h => ?_, fun b h => h.elim⟩ (K3.trans (K13.trans K14)) (newK_none (K3.trans K13) he) f3 fun b h => newK_none K3 (f13 b h)
 ·show upd (upd (upd _ 73 _) 74 _) 75 _ i = _
  unfold upd splice
  rw [if_neg (by omega), if_neg (by omega), if_neg (by omega), if_pos (by omega), Nat.sub_zero]
  exact h6 i hi
 ·have : j = 0 ∨ j = 1 ∨ j = 2 ∨ j = 3 ∨ j = 4 := by have : j < 5 := hj; omega
  rcases this with rfl | rfl | rfl | rfl | rfl <;> rfl
 ·exact (hb3.keep K13).live hm he
 ·exact C13.live h he
 ·exact hb3.live hb (f13 b h)
end
def kdS (k : Int) : Bool := k == 1 || k == 2 || k == 3 || k == 4 || k == 5 || k == 6 || k == 9 || k == 10 || k == 13 || k == 14 || k == 20
structure OpK (o : Op19) : Prop where
 r : OpR o
 k : kdS o.k = true
theorem OpK.cases {o : Op19} (h : OpK o) : o.k = 1 ∨ o.k = 2 ∨ o.k = 3 ∨ o.k = 4 ∨ o.k = 5 ∨ o.k = 6 ∨ o.k = 9 ∨ o.k = 10 ∨ o.k = 13 ∨ o.k = 14 ∨ o.k = 20 := by
 have := h.k
 unfold kdS at this
 simp at this
 omega
def readsS (o : Op19) : List Int := if o.k = 1 then [] else if o.k = 2 then [o.a] else if o.a < o.b then [o.a, o.b] else if o.a = o.b then [o.a] else [o.b, o.a]
def writesS (o : Op19) : List Int := if o.k = 20 then [32, 33] else if o.d = 0 then [] else [o.d]
theorem reads_a {o : Op19} (h : o.k ≠ 1) : o.a ∈ readsS o := by
 unfold readsS; rw [if_neg h]; split
 ·simp
 split
 ·simp
 split <;> simp
theorem reads_b {o : Op19} (h : o.k ≠ 1) (h2 : o.k ≠ 2) : o.b ∈ readsS o := by
 unfold readsS; rw [if_neg h, if_neg h2]; split
 ·simp
 split
 ·rename_i e; simp [e]
 ·simp
theorem reads_rng {o : Op19} (h : OpR o) {r : Int} (hr : r ∈ readsS o) : 0 ≤ r ∧ r < 40 := by
 have ha := h.a
 have hb := h.b
 unfold readsS at hr
 split at hr
 ·simp at hr
 split at hr
 ·simp at hr; omega
 split at hr
 ·simp at hr; omega
 split at hr
 ·simp at hr; omega
 ·simp at hr; omega
theorem writes_rng {o : Op19} (h : OpR o) {r : Int} (hr : r ∈ writesS o) : 0 < r ∧ r < 40 := by
 have hd := h.d
 unfold writesS at hr
 split at hr
 ·simp at hr; omega
 split at hr
 ·simp at hr
 ·simp at hr; omega
theorem val_reads {o : Op19} (h : OpK o) (hk : o.k ≠ 20) {f g : Nat → Int} (e : ∀ r ∈ readsS o, f r.toNat = g r.toNat) : valV o.k (f o.a.toNat) (f o.b.toNat) o.i = valV o.k (g o.a.toNat) (g o.b.toNat) o.i := by
 by_cases c1 : o.k = 1
 ·rw [c1]; rfl
 have ea := e _ (reads_a c1)
 by_cases c2 : o.k = 2
 ·rw [c2, ea]; rfl
 rw [ea, e _ (reads_b c1 c2)]
theorem one_eq {o : Op19} (h : OpK o) (f : Nat → Int) : one18 f o = if o.k = 20 then upd (upd f 33 (divV (f o.a.toNat) (f o.b.toNat) false).1) 32 (divV (f o.a.toNat) (f o.b.toNat) false).2 else if o.d > 0 then upd f o.d.toNat (valV o.k (f o.a.toNat) (f o.b.toNat) o.i) else f := by
 have hk := h.cases
 unfold one18
 dsimp only
 by_cases c : o.k = 20
 ·rw [if_neg (by omega), if_neg (by omega), if_pos (by omega), if_pos c, c]; rfl
 ·rw [if_neg (by omega), if_neg (by omega), if_neg (by omega), if_neg (by intro h; omega), if_neg c]
theorem one_not {o : Op19} (h : OpK o) (f : Nat → Int) {n : Nat} (hn : (n : Int) ∉ writesS o) : one18 f o n = f n := by
 rw [one_eq h]
 unfold writesS at hn
 have hd := h.r.d
 split
 ·rename_i c
  rw [if_pos c] at hn
  simp at hn
  unfold upd; rw [if_neg (by omega), if_neg (by omega)]
 ·rename_i c
  rw [if_neg c] at hn
  split
  ·rename_i c2
   rw [if_neg (by omega)] at hn
   simp at hn
   unfold upd; rw [if_neg (by omega)]
  ·rfl
theorem one_is {o : Op19} (h : OpK o) {f g : Nat → Int} (e : ∀ r ∈ readsS o, f r.toNat = g r.toNat) {n : Nat} (hn : (n : Int) ∈ writesS o) : one18 f o n = one18 g o n := by
 rw [one_eq h, one_eq h]
 have hd := h.r.d
 unfold writesS at hn
 by_cases c : o.k = 20
 ·rw [if_pos c, if_pos c]
  rw [if_pos c] at hn
  have ea := e _ (reads_a (by omega))
  have eb := e _ (reads_b (by omega) (by omega))
  simp at hn
  unfold upd
  rcases hn with hn | hn
  ·rw [if_pos (by omega), if_pos (by omega), ea, eb]
  ·rw [if_neg (by omega), if_pos (by omega), if_neg (by omega), if_pos (by omega), ea, eb]
 ·rw [if_neg c, if_neg c]
  rw [if_neg c] at hn
  split at hn
  ·simp at hn
  ·simp at hn
   rw [if_pos (by omega), if_pos (by omega)]
   unfold upd
   rw [if_pos (by omega), if_pos (by omega)]
   exact val_reads h c e
def knowsB (K : Nat → Bool) (l : List Int) : Bool := l.all fun n => K n.toNat
def foldO (K : Nat → Bool) (V : Nat → Int) (o : Op19) : Op19 := if (writesS o).length = 1 ∧ knowsB K (readsS o) = true then ⟨1, o.d, 0, 0, one18 V o o.d.toNat⟩ else o
def doneK (K : Nat → Bool) (o : Op19) : Nat → Bool := fun n => if (n : Int) ∈ writesS o then knowsB K (readsS o) else K n
def doneV (K : Nat → Bool) (V : Nat → Int) (o : Op19) : Nat → Int := if knowsB K (readsS o) = true then one18 V o else V
def foldL : (Nat → Bool) → (Nat → Int) → List Op19 → List Op19
 | _, _, [] => []
 | K, V, o :: l => foldO K V o :: foldL (doneK K (foldO K V o)) (doneV K V (foldO K V o)) l
theorem writes_one {o : Op19} (h : OpR o) (hw : (writesS o).length = 1) : o.k ≠ 20 ∧ 0 < o.d := by
 have hd := h.d
 unfold writesS at hw
 split at hw
 ·simp at hw
 ·split at hw
  ·simp at hw
  ·exact ⟨by assumption, by omega⟩
theorem foldO_k {K : Nat → Bool} {V : Nat → Int} {o : Op19} (h : OpK o) (hV : AllU V) : OpK (foldO K V o) := by
 unfold foldO
 split
 ·exact ⟨⟨by simp, h.r.d, by simp, by simp, one18_u hV h.r _⟩, rfl⟩
 ·exact h
theorem foldO_one {K : Nat → Bool} {V : Nat → Int} {o : Op19} (h : OpK o) (hV : AllU V) {f : Nat → Int} (ha : ∀ n, K n = true → V n = f n) : one18 f (foldO K V o) = one18 f o := by
 unfold foldO
 split
 rotate_left
 ·rfl
 rename_i hc
 obtain ⟨hw, hk⟩ := hc
 obtain ⟨h20, hd⟩ := writes_one h.r hw
 have hk1 : OpK ⟨1, o.d, 0, 0, one18 V o o.d.toNat⟩ := ⟨⟨by simp, h.r.d, by simp, by simp, one18_u hV h.r _⟩, rfl⟩
 rw [one_eq hk1]
 dsimp only
 rw [if_neg (by decide), if_pos hd]
 have e : one18 V o o.d.toNat = one18 f o o.d.toNat := one_is h (fun r hr => ha _ (by
  unfold knowsB at hk
  exact List.all_eq_true.1 hk r hr)) (by
   have : (o.d.toNat : Int) = o.d := by omega
   rw [this]; unfold writesS; rw [if_neg h20, if_neg (by omega)]; simp)
 rw [e, one_eq h, if_neg h20, if_pos hd]
 show upd f _ (upd f _ _ _) = _
 congr 1
 unfold upd; rw [if_pos rfl]
theorem done_agree {K : Nat → Bool} {V : Nat → Int} {o : Op19} (h : OpK o) {f : Nat → Int} (ha : ∀ n, K n = true → V n = f n) (n : Nat) (hn : doneK K o n = true) : doneV K V o n = one18 f o n := by
 unfold doneK at hn
 unfold doneV
 split at hn
 ·rename_i hw
  rw [if_pos hn]
  exact one_is h (fun r hr => ha _ (by unfold knowsB at hn; exact List.all_eq_true.1 hn r hr)) hw
 ·rename_i hw
  rw [one_not h f hw]
  split
  ·rw [one_not h V hw]; exact ha n hn
  ·exact ha n hn
theorem doneV_u {K : Nat → Bool} {V : Nat → Int} {o : Op19} (h : OpK o) (hV : AllU V) : AllU (doneV K V o) := by
 unfold doneV; split
 ·exact one18_u hV h.r
 ·exact hV
theorem foldL_run : ∀ (l : List Op19) (K : Nat → Bool) (V f : Nat → Int), (∀ o ∈ l, OpK o) → AllU V → (∀ n, K n = true → V n = f n) → run18 f (foldL K V l) = run18 f l ∧ ∀ o ∈ foldL K V l, OpK o
 | [], K, V, f, h, hV, ha => ⟨rfl, fun o ho => by simp [foldL] at ho⟩
 | o :: l, K, V, f, h, hV, ha => by
  have ho := h o (by simp)
  have hx := foldO_k (K := K) ho hV
  have e := foldO_one ho hV ha
  obtain ⟨h1, h2⟩ := foldL_run l (doneK K (foldO K V o)) (doneV K V (foldO K V o)) (one18 f o) (fun o ho => h o (by simp [ho])) (doneV_u hx hV) (fun n hn => by rw [← e]; exact done_agree hx ha n hn)
  refine ⟨?_, fun x hx' => ?_⟩
  ·show run18 (one18 f (foldO K V o)) _ = run18 (one18 f o) l
   rw [e]; exact h1
  ·rcases List.mem_cons.1 hx' with rfl | hx'
   ·exact hx
   ·exact h2 x hx'
def liveS (L : Nat → Bool) (o : Op19) : Nat → Bool := fun n => if (n : Int) ∈ readsS o then true else if (n : Int) ∈ writesS o then false else L n
def deadL : List Op19 → (Nat → Bool) × List Op19
 | [] => (fun n => decide (n < 34), [])
 | o :: l => if ((writesS o).any fun n => (deadL l).1 n.toNat) = true then (liveS (deadL l).1 o, o :: (deadL l).2) else deadL l
theorem deadL_sub : ∀ (l : List Op19), ∀ o ∈ (deadL l).2, o ∈ l
 | [], o, h => by simp [deadL] at h
 | x :: l, o, h => by
  unfold deadL at h
  split at h
  ·rcases List.mem_cons.1 h with rfl | h
   ·simp
   ·exact List.mem_cons_of_mem _ (deadL_sub l o h)
  ·exact List.mem_cons_of_mem _ (deadL_sub l o h)
theorem deadL_run : ∀ (l : List Op19), (∀ o ∈ l, OpK o) → ∀ (f g : Nat → Int), (∀ n, (deadL l).1 n = true → f n = g n) → ∀ n, n < 34 → run18 f (deadL l).2 n = run18 g l n
 | [], h, f, g, ha, n, hn => ha n (by simpa [deadL] using hn)
 | o :: l, h, f, g, ha, n, hn => by
  have ho := h o (by simp)
  have ih := deadL_run l fun o ho => h o (by simp [ho])
  unfold deadL at ha ⊢
  split
  ·rename_i hc
   rw [if_pos hc] at ha
   show run18 (one18 f o) (deadL l).2 n = run18 (one18 g o) l n
   have hr : ∀ r ∈ readsS o, f r.toNat = g r.toNat := fun r hr => ha _ (by
    show liveS (deadL l).1 o _ = true
    unfold liveS
    have : ((r.toNat : Nat) : Int) = r := by have := reads_rng ho.r hr; omega
    rw [this, if_pos hr])
   refine ih _ _ (fun q hq => ?_) n hn
   by_cases hw : (q : Int) ∈ writesS o
   ·exact one_is ho hr hw
   ·rw [one_not ho f hw, one_not ho g hw]
    refine ha q ?_
    show liveS (deadL l).1 o q = true
    unfold liveS
    split
    ·rfl
    ·first | exact hq | (rw [if_neg hw]; exact hq)
  ·rename_i hc
   rw [if_neg hc] at ha
   show run18 f (deadL l).2 n = run18 (one18 g o) l n
   refine ih _ _ (fun q hq => ?_) n hn
   rw [one_not ho g (fun hw => ?_)]
   ·exact ha q hq
   ·refine hc (List.any_eq_true.2 ⟨_, hw, ?_⟩)
    rw [Int.toNat_natCast]; exact hq
def K0 : Nat → Bool := fun n => decide (n = 0)
def optS (l : List Op19) : List Op19 := (deadL (foldL K0 (fun _ => 0) l)).2
theorem optS_run {l : List Op19} (h : ∀ o ∈ l, OpK o) {f : Nat → Int} (h0 : f 0 = 0) : (∀ n, n < 34 → run18 f (optS l) n = run18 f l n) ∧ ∀ o ∈ optS l, OpK o := by
 obtain ⟨h1, h2⟩ := foldL_run l K0 (fun _ => 0) f h (fun _ => (⟨Int.le_refl 0, by omega⟩ : isU 0)) (fun n hn => by
  have : n = 0 := by simpa [K0] using hn
  rw [this, h0])
 refine ⟨fun n hn => ?_, fun o ho => h2 o (deadL_sub _ o ho)⟩
 rw [← h1]
 exact deadL_run _ h2 f f (fun _ _ => rfl) n hn
theorem foldL_len : ∀ (l : List Op19) (K : Nat → Bool) (V : Nat → Int), (foldL K V l).length = l.length
 | [], _, _ => rfl
 | o :: l, K, V => by unfold foldL; simp [foldL_len l]
theorem deadL_len : ∀ (l : List Op19), (deadL l).2.length ≤ l.length
 | [] => by simp [deadL]
 | o :: l => by
  unfold deadL
  have := deadL_len l
  split <;> simp <;> omega
theorem optS_len (l : List Op19) : (optS l).length ≤ l.length := by
 unfold optS
 have := deadL_len (foldL K0 (fun _ => 0) l)
 rw [foldL_len] at this
 exact this
structure Rg (m : Mem) (b o : Nat) (f : Nat → Int) (N : Nat) (R : Nat → AV) : Prop where
 e : ∃ y, m.obj b = some y ∧ y.n = N ∧ y.ro = false ∧ (∀ i, i < 40 → y.c (o + i) = vu (f i)) ∧ ∀ j, j < N → (j < o ∨ o + 40 ≤ j) → y.c j = R j
 n : o + 40 ≤ N
 u : AllU f
def one1 (b : Nat) : Nat → Prop := fun x => x = b
theorem Only.fr1 {m m' : Mem} {b : Nat} (O : Only m b m') : Fr (one1 b) m m' := fun x _ hx => O x hx
theorem Fr.key {S : Nat → Prop} {a b c : Mem} (K : Keeps a b) (h : Fr S b c) : Fr S a c := fun x hx hs => by rw [h x (by rw [K x hx]; exact hx) hs, K x hx]
section
variable {m : Mem} {b o N : Nat} {f : Nat → Int} {R : Nat → AV}
theorem Rg.fr {m' : Mem} {S : Nat → Prop} (h : Rg m b o f N R) (F : Fr S m m') (hb : ¬ S b) : Rg m' b o f N R := by
 obtain ⟨y, e, r⟩ := h.e
 exact ⟨⟨y, by rw [F b (by rw [e]; simp) hb]; exact e, r⟩, h.n, h.u⟩
theorem Rg.keep {m' : Mem} (h : Rg m b o f N R) (K : Keeps m m') : Rg m' b o f N R := h.fr (K.fr fun _ => False) fun h => h
theorem Rg.live (h : Rg m b o f N R) : m.obj b ≠ none := by obtain ⟨y, e, _⟩ := h.e; rw [e]; simp
theorem Rg.ld (h : Rg m b o f N R) {i : Nat} (hi : i < 40) (k : Int → Prop) : ldI .u32 m b (o + i) k = k (f i) := by
 obtain ⟨y, e, hn, hr, hc, _⟩ := h.e
 have := h.n
 exact ldI_of e (by omega) (hc i hi)
theorem Rg.st (h : Rg m b o f N R) {i : Nat} (hi : i < 40) {x : Int} (hx : isU x) {k : Mem → Prop} (hk : ∀ m', Rg m' b o (upd f i x) N R → Only m b m' → k m') : stC m b (o + i) (.flat (.int .u32 x)) k := by
 obtain ⟨y, e, hn, hr, hc, hR⟩ := h.e
 have := h.n
 rw [stC_of e hr (by omega)]
 refine hk _ ⟨⟨_, set_same _ _ _, hn, hr, fun j hj => ?_, fun j hj hj2 => ?_⟩, h.n, upd_u h.u i hx⟩ (Only.set _ _ _)
 ·show upd y.c _ _ _ = _
  unfold upd
  by_cases c : j = i
  ·subst c; rw [if_pos rfl, if_pos rfl]
  ·rw [if_neg (by omega), if_neg c]; exact hc j hj
 ·show upd y.c _ _ _ = _
  unfold upd
  rw [if_neg (by omega)]; exact hR j hj hj2
theorem opB_new {c : Nat → AV} {t : TypeId} {op : Op19} (hc : OpC c op) {k : Nat → Mem → Prop} (hk : ∀ b m', m.obj b = none → Keeps m m' → OpB m' b op → k b m') : newK m ⟨5, c, t, false⟩ k :=
 newK_i fun b m' hb K e O => hk b m' hb K ⟨_, e, rfl, hc⟩
theorem OpC.sub {c : Nat → AV} {op : Op19} (h : OpC c op) : OpC (sub c 0 5) op := h
theorem OpB.lg {b : Nat} {op : Op19} (h : OpB m b op) {k : (Nat → AV) → Prop} (hk : ∀ c, OpC c op → k c) : ldG 5 m b 0 k := by
 obtain ⟨z, e, n, hc⟩ := h
 rw [ldG_of e (by omega)]
 exact hk _ hc.sub
theorem OpB.fr {m' : Mem} {S : Nat → Prop} {b : Nat} {op : Op19} (h : OpB m b op) (F : Fr S m m') (hb : ¬ S b) : OpB m' b op := by
 obtain ⟨z, e, r⟩ := h
 exact ⟨z, by rw [F b (by rw [e]; simp) hb]; exact e, r⟩
theorem OpB.keep {m' : Mem} {b : Nat} {op : Op19} (h : OpB m b op) (K : Keeps m m') : OpB m' b op := h.fr (K.fr fun _ => False) fun h => h
theorem OpB.live {b : Nat} {op : Op19} (h : OpB m b op) : m.obj b ≠ none := by obtain ⟨z, e, _⟩ := h; rw [e]; simp
theorem and31b {x : Int} (h : isU x) : bits .and .u32 x 31 = x % 32 := by have := and_ones x h.1 h.2 5 (by decide); simpa using this
theorem wideF {x : Int} (h : isU x) : wideV x false = x := by
 obtain ⟨h0, h1⟩ := h
 unfold wideV; rw [if_neg (by simp), wrap64 (by omega) (by omega)]
theorem iless_spec {x y : Int} (hx : isU x) (hy : isU y) {k : Bool → Mem → Prop} (hk : k (decide (wideV x false < wideV y false)) m) : F186 x y false m k := by
 unfold F186
 rw [wideF hx, wideF hy] at hk
 exact ⟨Keeps.self m, hk⟩
theorem iof_spec {c : Nat → AV} {op : Op19} (hc : OpC c op) (ho : OpK op) (h20 : op.k ≠ 20) {x y : Int} (hx : isU x) (hy : isU y) {k : Int → Mem → Prop} (hk : k (valV op.k x y op.i) m) : F207 c x y m k := by
 unfold F207
 refine opB_new hc fun b2 m1 hb2 K1 h2 => ?_
 rw [h2.l0]
 have hk' := ho.cases
 have a31 := and31b hy
 have q0 : 0 ≤ y % 32 := by omega
 by_cases c1 : op.k = 1
 ·rw [c1] at hk ⊢; refine kif_t rfl ?_; rw [h2.l4]; exact ⟨K1, hk⟩
 by_cases c3 : op.k = 3
 ·rw [c3] at hk ⊢; exact kif_f rfl (kif_t rfl ⟨K1, hk⟩)
 by_cases c4 : op.k = 4
 ·rw [c4] at hk ⊢; exact kif_f rfl (kif_f rfl (kif_t rfl ⟨K1, hk⟩))
 by_cases c5 : op.k = 5
 ·rw [c5] at hk ⊢; exact kif_f rfl (kif_f rfl (kif_f rfl (kif_t rfl ⟨K1, hk⟩)))
 by_cases c6 : op.k = 6
 ·rw [c6] at hk ⊢; exact kif_f rfl (kif_f rfl (kif_f rfl (kif_f rfl (kif_t rfl ⟨K1, hk⟩))))
 by_cases c9 : op.k = 9
 ·rw [c9] at hk ⊢; refine kif_f rfl (kif_f rfl (kif_f rfl (kif_f rfl (kif_f rfl (kif_f rfl (kif_f rfl (kif_t rfl (kif_f ?_ ⟨K1, ?_⟩))))))))
  ·rw [a31]; simp; omega
  ·rw [a31]; exact hk
 by_cases c10 : op.k = 10
 ·rw [c10] at hk ⊢; refine kif_f rfl (kif_f rfl (kif_f rfl (kif_f rfl (kif_f rfl (kif_f rfl (kif_f rfl (kif_f rfl (kif_t rfl (kif_f ?_ ⟨K1, ?_⟩)))))))))
  ·rw [a31]; simp; omega
  ·rw [a31]; exact hk
 by_cases c13 : op.k = 13
 ·rw [c13] at hk ⊢; refine kif_f rfl (kif_f rfl (kif_f rfl (kif_f rfl (kif_f rfl (kif_f rfl (kif_f rfl (kif_f rfl (kif_f rfl (kif_f rfl (kif_f rfl ?_))))))))))
  unfold P207_24004
  refine kif_t rfl ?_
  rw [Nat.zero_add, h2.l0, c13]
  refine iless_spec hx hy ?_
  unfold F224
  have e : valV 13 x y op.i = bitV (decide (wideV x false < wideV y false)) := rfl
  rw [e] at hk
  unfold bitV at hk
  refine kif_c _ (fun c => ?_) fun c => ?_
  ·rw [if_pos c] at hk; exact ⟨Keeps.self m1, K1, hk⟩
  ·rw [if_neg (by rw [c]; simp)] at hk; exact ⟨Keeps.self m1, K1, hk⟩
 by_cases c14 : op.k = 14
 ·rw [c14] at hk ⊢; refine kif_f rfl (kif_f rfl (kif_f rfl (kif_f rfl (kif_f rfl (kif_f rfl (kif_f rfl (kif_f rfl (kif_f rfl (kif_f rfl (kif_f rfl ?_))))))))))
  unfold P207_24004
  refine kif_f rfl (kif_t rfl ⟨K1, ?_⟩)
  have e : valV 14 x y op.i = (mulV x y true).2 := rfl
  rw [e] at hk
  have e2 : (mulV x y true).2 = IntKind.wrap .u32 (x * y) := by
   show IntKind.wrap .u32 (IntKind.wrap .u64 ((IntKind.wrap .u64 x) * (IntKind.wrap .u64 y))) = _
   obtain ⟨x0, x1⟩ := hx
   obtain ⟨y0, y1⟩ := hy
   rw [wrapU64 x0 (by omega), wrapU64 y0 (by omega), wrapU64 (Int.mul_nonneg x0 y0) ?_]
   have h1 : x * y ≤ 4294967295 * y := Int.mul_le_mul_of_nonneg_right (by omega) y0
   omega
  rw [e2] at hk; exact hk
 have c2 : op.k = 2 := by omega
 rw [c2] at hk ⊢; refine kif_f rfl (kif_f rfl (kif_f rfl (kif_f rfl (kif_f rfl (kif_f rfl (kif_f rfl (kif_f rfl (kif_f rfl (kif_f rfl (kif_f rfl ?_))))))))))
 unfold P207_24004
 exact kif_f rfl (kif_f rfl (kif_f rfl (kif_f rfl ⟨K1, hk⟩)))
theorem idiv_spec {x y : Int} (hx : isU x) (hy : isU y) {k : Int → Int → Mem → Prop} (hk : k (divV x y false).1 (divV x y false).2 m) : F195 x y false m k := by
 unfold F195
 obtain ⟨x0, x1⟩ := hx
 obtain ⟨y0, y1⟩ := hy
 unfold divV at hk
 refine kif_c _ (fun c => ?_) fun c => ?_
 ·rw [if_pos (by simpa using c)] at hk; exact ⟨Keeps.self m, hk⟩
 ·have c : y ≠ 0 := by simpa using c
  rw [if_neg c, wideF ⟨x0, x1⟩, wideF ⟨y0, y1⟩, Int.tdiv_eq_ediv_of_nonneg x0, tmod_nn x0] at hk
  have h1 : 0 ≤ x / y := Int.ediv_nonneg x0 y0
  have h2 : x / y ≤ x := Int.ediv_le_self _ x0
  have h3 : 0 ≤ x % y := Int.emod_nonneg _ c
  have h4 : x % y < y := Int.emod_lt_of_pos _ (by omega)
  refine kif_t rfl (kif_f (by simpa using c) (kif_f (by simpa using c) ⟨Keeps.self m, ?_⟩))
  rw [Int.tdiv_eq_ediv_of_nonneg x0, tmod_nn x0]
  rw [wrap64 (n := x / y) (by omega) (by omega), wrap32 (x % y), Int.emod_eq_of_lt h3 (by omega)] at hk
  exact hk
theorem ido_spec {c : Nat → AV} {op : Op19} (h : Rg m b o f N R) (hc : OpC c op) (ho : OpK op) {k : Mem → Prop} (hk : ∀ m', Rg m' b o (one18 f op) N R → Fr (one1 b) m m' → k m') : F170 b o c m k := by
 unfold F170
 refine opB_new hc fun b2 m1 hb2 K1 h2 => ?_
 have h1 := h.keep K1
 have ne : b2 ≠ b := fun e => h.live (e ▸ hb2)
 have ra := ho.r.a
 have rb := ho.r.b
 have rd := ho.r.d
 rw [h2.l2]
 refine kif_ix ra.1 ra.2 ?_
 rw [show o + op.a.toNat * 1 = o + op.a.toNat by omega, h1.ld (by omega), h2.l3]
 refine kif_ix rb.1 rb.2 ?_
 rw [show o + op.b.toNat * 1 = o + op.b.toNat by omega, h1.ld (by omega), h2.l0]
 have hk' := ho.cases
 have e1 := one_eq ho f
 refine kif_f (by simp; omega) ?_
 have e18 : (op.k == 18) = false := by simp; omega
 rw [e18]
 unfold P170_5004
 refine kif_f rfl (kif_f (by simp; omega) ?_)
 unfold P170_7004
 by_cases c20 : op.k = 20
 ·rw [if_pos c20] at e1
  rw [c20]
  refine kif_t rfl (idiv_spec (h.u _) (h.u _) ?_)
  have du := divV_u (a := f op.a.toNat) (b := f op.b.toNat) (h.u _) false
  refine h1.st (i := 33) (by omega) du.1 fun m2 h2 O2 => h2.st (i := 32) (by omega) du.2 fun m3 h3 O3 => ?_
  rw [← e1] at h3
  exact hk m3 h3 (Fr.key K1 (O2.fr1.trans O3.fr1))
 ·rw [if_neg c20] at e1
  refine kif_f (by simpa using c20) (kif_f (by simp; omega) ?_)
  rw [Nat.zero_add, h2.l1]
  unfold P170_3004
  refine kif_c _ (fun c0 => ?_) fun c0 => ?_
  ·have c0 : op.d = 0 := by simpa using c0
   rw [if_neg (by omega)] at e1
   rw [e1] at hk
   exact kif_t rfl (hk m1 h1 (K1.fr _))
  ·have c0 : op.d ≠ 0 := by simpa using c0
   rw [if_pos (by omega)] at e1
   refine kif_f (by simp; omega) (kif_f (by simp; omega) (kif_f rfl ⟨fun x => x = b2, rfl, ?_⟩))
   rw [Nat.zero_add, h2.l1]
   refine ⟨rfl, h2.lg fun c21 h21 => iof_spec h21 ho c20 (h.u _) (h.u _) ⟨fun _ _ _ => rfl, kif_ix rd.1 rd.2 ?_⟩⟩
   rw [show o + op.d.toNat * 1 = o + op.d.toNat by omega]
   refine h1.st (by omega) (valV_u (h.u _) ho.r.i) fun m2 h2 O2 => ?_
   rw [← e1] at h2
   exact hk m2 h2 (Fr.key K1 O2.fr1)
theorem IsOps.live {v : AV} {l : List Op19} (h : IsOps m v l) {b : Nat} (hb : own v b) : m.obj b ≠ none := by obtain ⟨c, h1, _⟩ := h; exact h1.live hb
theorem irun_spec {v : AV} {l : List Op19} (hl : l.length ≤ 8) (h : Rg m b o f N R) (hv : IsOps m v l) (hn : ¬ own v b) (ho : ∀ x ∈ l, OpK x) {k : Bool → Mem → Prop} (hk : ∀ m', Rg m' b o (run18 (upd f 0 0) l) N R → Fr (one1 b) m m' → k true m') : F127 b o v m k := by
 unfold F127
 refine ir_none hl hv (fun x hx => (ho x hx).r) (kif_f rfl ?_)
 have u0 : isU 0 := ⟨by decide, by decide⟩
 refine h.st (i := 0) (by omega) u0 fun m3 h3 O3 => ?_
 have hv3 : IsOps m3 v l := hv.fr O3.fr1 fun x hx e => by cases e; exact hn hx
 rw [hv3.len]
 have loop : ∀ (j i : Nat) (m1 : Mem) (g : Nat → Int), i + j = l.length → IsOps m1 v l → Rg m1 b o g N R → run18 g (l.drop i) = run18 (upd f 0 0) l → Fr (one1 b) m m1 → L127_5 b o v l.length (j + 1) i m1 (fun m15 => k true m15) := by
  intro j
  induction j with
  | zero =>
   intro i m1 g e hv1 h1 hg F1
   show R127_5 _ _ _ _ _ _ _ _
   unfold R127_5
   rw [show i = l.length by omega, List.drop_length] at hg
   have : g = run18 (upd f 0 0) l := hg
   rw [this] at h1
   exact kif_f (by simp; omega) (hk m1 h1 F1)
  | succ j ih =>
   intro i m1 g e hv1 h1 hg F1
   show R127_5 _ _ _ _ _ _ _ _
   unfold R127_5
   rw [wrap64 (n := (i : Int) + 1) (by omega) (by omega)]
   refine kif_t (by simp; omega) (hv1.ld i (by omega) fun c9 h9 => boxN fun b11 m12 y hb11 K12 e12 n12 r12 c12 => ?_)
   have hB : OpB m12 b11 l[i] := ⟨y, e12, n12, by
    obtain ⟨a0, a1, a2, a3, a4⟩ := h9
    exact ⟨(c12 0 (by omega)).trans a0, (c12 1 (by omega)).trans a1, (c12 2 (by omega)).trans a2, (c12 3 (by omega)).trans a3, (c12 4 (by omega)).trans a4⟩⟩
   refine hB.lg fun c13 h13 => ido_spec (h1.keep K12) h13 (ho _ (List.getElem_mem _)) fun m14 h14 F14 => ?_
   refine ih (i + 1) m14 _ (by omega) ((hv1.keep K12).fr F14 fun x hx e => by cases e; exact hn hx) h14 ?_ (F1.trans (Fr.key K12 F14))
   rw [← hg, List.drop_eq_getElem_cons (show i < l.length by omega)]; rfl
 exact ⟨l.length + 1, loop l.length 0 m3 _ (by omega) hv3 h3 (by rw [List.drop_zero]) O3.fr1⟩
end
end Go.Proofs.YtkiggdgphbkneaaGreat.Am
