/- decode.Right, head, Word, Class, and the reference's Class, printed by wip/am/gen3c.py. Conditions: instructions are plain data. -/
import Derived.Test.YtkgidjnaddjjbaaGreatK3b
namespace Go.Proofs.YtkgidjnaddjjbaaGreat.Am
set_option linter.unusedVariables false
set_option linter.unusedSimpArgs false
set_option maxRecDepth 100000


/-! ### Class -/
def opt (o : Option Int) (kr : Int → Mem → Prop) (kn : Mem → Prop) (m : Mem) : Prop := match o with
  | some r => kr r m
  | none => kn m
def cls9 (x : Int) (b : Bool) : Option Int := if b = true then some 5 else if x = 22 ∨ x = 24 ∨ x = 46 ∨ (32 ≤ x ∧ x ≤ 35) then some 2 else none
def cls7 (x : Int) (b : Bool) : Option Int := if b = true then some 4 else cls9 x (decide ((71 ≤ x ∧ x ≤ 73) ∨ x = 75))
def cls5 (x : Int) (b : Bool) : Option Int := if b = true then some 3 else cls7 x (decide ((66 ≤ x ∧ x ≤ 70) ∨ x = 74))
def cls3 (x : Int) (b : Bool) : Option Int := if b = true then some 6 else cls5 x (decide (x = 7 ∨ x = 8 ∨ (36 ≤ x ∧ x ≤ 45)))
def classS (x : Int) : Int := match cls3 x (decide (x ≤ 0 ∨ x ≥ 78 ∨ x = 11 ∨ x = 12 ∨ (54 ≤ x ∧ x ≤ 62))) with
  | some r => r
  | none => 1

theorem class_9 {m : Mem} {x : Int} {b : Bool} {kr : Int → Mem → Prop} {kn : Mem → Prop} (h : opt (cls9 x b) kr kn m) : P42_9004 x b m kr kn := by
  unfold P42_9004
  unfold cls9 at h
  refine kif_c _ (fun c => ?_) fun c => ?_
  · rw [if_pos c] at h; exact h
  rw [if_neg (by rw [c]; simp)] at h
  refine kif_c _ (fun c => ?_) fun c1 => kif_c _ (fun c => ?_) fun c2 => kif_c _ (fun c => ?_) fun c3 => kif_c _ (fun c4 => kif_c _ (fun c => ?_) fun c => ?_) fun c4 => ?_
  · rw [if_pos (by (((try simp only [decide_eq_true_eq, decide_eq_false_iff_not, beq_iff_eq, beq_eq_false_iff_ne, ne_eq] at *); omega)))] at h; exact h
  · rw [if_pos (by (((try simp only [decide_eq_true_eq, decide_eq_false_iff_not, beq_iff_eq, beq_eq_false_iff_ne, ne_eq] at *); omega)))] at h; exact h
  · rw [if_pos (by (((try simp only [decide_eq_true_eq, decide_eq_false_iff_not, beq_iff_eq, beq_eq_false_iff_ne, ne_eq] at *); omega)))] at h; exact h
  · rw [if_pos (by (((try simp only [decide_eq_true_eq, decide_eq_false_iff_not, beq_iff_eq, beq_eq_false_iff_ne, ne_eq] at *); omega)))] at h; exact h
  · rw [if_neg (by (((try simp only [decide_eq_true_eq, decide_eq_false_iff_not, beq_iff_eq, beq_eq_false_iff_ne, ne_eq] at *); omega)))] at h; exact h
  · rw [if_neg (by (((try simp only [decide_eq_true_eq, decide_eq_false_iff_not, beq_iff_eq, beq_eq_false_iff_ne, ne_eq] at *); omega)))] at h; exact h
theorem class_7 {m : Mem} {x : Int} {b : Bool} {kr : Int → Mem → Prop} {kn : Mem → Prop} (h : opt (cls7 x b) kr kn m) : P42_7004 x b m kr kn := by
  unfold P42_7004
  unfold cls7 at h
  refine kif_c _ (fun c => ?_) fun c => ?_
  · rw [if_pos c] at h; exact h
  rw [if_neg (by rw [c]; simp)] at h
  refine kif_c _ (fun c4 => kif_c _ (fun c => ?_) fun c => ?_) fun c4 => ?_ <;> refine class_9 ?_
  · rw [show decide ((71 ≤ x ∧ x ≤ 73) ∨ x = 75) = true by ((refine Bool.eq_iff_iff.2 ?_; (try simp only [decide_eq_true_eq, decide_eq_false_iff_not, beq_iff_eq, beq_eq_false_iff_ne, ne_eq, Bool.false_eq_true, iff_true, iff_false, Bool.and_eq_true] at *); omega))] at h; exact h
  · rw [show decide ((71 ≤ x ∧ x ≤ 73) ∨ x = 75) = (x == 75) by ((refine Bool.eq_iff_iff.2 ?_; (try simp only [decide_eq_true_eq, decide_eq_false_iff_not, beq_iff_eq, beq_eq_false_iff_ne, ne_eq, Bool.false_eq_true, iff_true, iff_false, Bool.and_eq_true] at *); omega))] at h; exact h
  · rw [show decide ((71 ≤ x ∧ x ≤ 73) ∨ x = 75) = (x == 75) by ((refine Bool.eq_iff_iff.2 ?_; (try simp only [decide_eq_true_eq, decide_eq_false_iff_not, beq_iff_eq, beq_eq_false_iff_ne, ne_eq, Bool.false_eq_true, iff_true, iff_false, Bool.and_eq_true] at *); omega))] at h; exact h
theorem class_5 {m : Mem} {x : Int} {b : Bool} {kr : Int → Mem → Prop} {kn : Mem → Prop} (h : opt (cls5 x b) kr kn m) : P42_5004 x b m kr kn := by
  unfold P42_5004
  unfold cls5 at h
  refine kif_c _ (fun c => ?_) fun c => ?_
  · rw [if_pos c] at h; exact h
  rw [if_neg (by rw [c]; simp)] at h
  refine kif_c _ (fun c4 => kif_c _ (fun c => ?_) fun c => ?_) fun c4 => ?_ <;> refine class_7 ?_
  · rw [show decide ((66 ≤ x ∧ x ≤ 70) ∨ x = 74) = true by ((refine Bool.eq_iff_iff.2 ?_; (try simp only [decide_eq_true_eq, decide_eq_false_iff_not, beq_iff_eq, beq_eq_false_iff_ne, ne_eq, Bool.false_eq_true, iff_true, iff_false, Bool.and_eq_true] at *); omega))] at h; exact h
  · rw [show decide ((66 ≤ x ∧ x ≤ 70) ∨ x = 74) = (x == 74) by ((refine Bool.eq_iff_iff.2 ?_; (try simp only [decide_eq_true_eq, decide_eq_false_iff_not, beq_iff_eq, beq_eq_false_iff_ne, ne_eq, Bool.false_eq_true, iff_true, iff_false, Bool.and_eq_true] at *); omega))] at h; exact h
  · rw [show decide ((66 ≤ x ∧ x ≤ 70) ∨ x = 74) = (x == 74) by ((refine Bool.eq_iff_iff.2 ?_; (try simp only [decide_eq_true_eq, decide_eq_false_iff_not, beq_iff_eq, beq_eq_false_iff_ne, ne_eq, Bool.false_eq_true, iff_true, iff_false, Bool.and_eq_true] at *); omega))] at h; exact h
theorem class_3 {m : Mem} {x : Int} {b : Bool} {kr : Int → Mem → Prop} {kn : Mem → Prop} (h : opt (cls3 x b) kr kn m) : P42_3004 x b m kr kn := by
  unfold P42_3004
  unfold cls3 at h
  refine kif_c _ (fun c => ?_) fun c => ?_
  · rw [if_pos c] at h; exact h
  rw [if_neg (by rw [c]; simp)] at h
  refine kif_c _ (fun c => ?_) fun c1 => kif_c _ (fun c => ?_) fun c2 => kif_c _ (fun c4 => ?_) fun c4 => ?_ <;> refine class_5 ?_
  · rw [show decide (x = 7 ∨ x = 8 ∨ (36 ≤ x ∧ x ≤ 45)) = true by ((refine Bool.eq_iff_iff.2 ?_; (try simp only [decide_eq_true_eq, decide_eq_false_iff_not, beq_iff_eq, beq_eq_false_iff_ne, ne_eq, Bool.false_eq_true, iff_true, iff_false, Bool.and_eq_true] at *); omega))] at h; exact h
  · rw [show decide (x = 7 ∨ x = 8 ∨ (36 ≤ x ∧ x ≤ 45)) = true by ((refine Bool.eq_iff_iff.2 ?_; (try simp only [decide_eq_true_eq, decide_eq_false_iff_not, beq_iff_eq, beq_eq_false_iff_ne, ne_eq, Bool.false_eq_true, iff_true, iff_false, Bool.and_eq_true] at *); omega))] at h; exact h
  · rw [show decide (x = 7 ∨ x = 8 ∨ (36 ≤ x ∧ x ≤ 45)) = decide (x ≤ 45) by ((refine Bool.eq_iff_iff.2 ?_; (try simp only [decide_eq_true_eq, decide_eq_false_iff_not, beq_iff_eq, beq_eq_false_iff_ne, ne_eq, Bool.false_eq_true, iff_true, iff_false, Bool.and_eq_true] at *); omega))] at h; exact h
  · rw [show decide (x = 7 ∨ x = 8 ∨ (36 ≤ x ∧ x ≤ 45)) = false by ((refine Bool.eq_iff_iff.2 ?_; (try simp only [decide_eq_true_eq, decide_eq_false_iff_not, beq_iff_eq, beq_eq_false_iff_ne, ne_eq, Bool.false_eq_true, iff_true, iff_false, Bool.and_eq_true] at *); omega))] at h; exact h
theorem class_spec {m : Mem} {c : Nat → AV} {x : In} (hc : InC c x) {k : Int → Mem → Prop} (hk : k (classS x.k) m) : F42 c m k := by
  unfold F42
  refine newI hc fun b m1 hb K i O => ?_
  rw [i.l0]
  have fin : ∀ (q : Bool), decide (x.k ≤ 0 ∨ x.k ≥ 78 ∨ x.k = 11 ∨ x.k = 12 ∨ (54 ≤ x.k ∧ x.k ≤ 62)) = q → P42_3004 x.k q m1 (fun x34 m35 => (Keeps m m35 ∧ k x34 m)) (fun m36 => (Keeps m m36 ∧ k 1 m)) := fun q e => by
    refine class_3 ?_
    unfold classS at hk
    rw [e] at hk
    revert hk
    unfold opt
    cases cls3 x.k q with
    | none => exact fun h => ⟨K, h⟩
    | some r => exact fun h => ⟨K, h⟩
  refine kif_c _ (fun c => fin _ ?_) fun c1 => kif_c _ (fun c => fin _ ?_) fun c2 => kif_c _ (fun c => fin _ ?_) fun c3 => kif_c _ (fun c => fin _ ?_) fun c4 => kif_c _ (fun c => fin _ ?_) fun c => fin _ ?_
  · ((refine Bool.eq_iff_iff.2 ?_; (try simp only [decide_eq_true_eq, decide_eq_false_iff_not, beq_iff_eq, beq_eq_false_iff_ne, ne_eq, Bool.false_eq_true, iff_true, iff_false, Bool.and_eq_true] at *); omega))
  · ((refine Bool.eq_iff_iff.2 ?_; (try simp only [decide_eq_true_eq, decide_eq_false_iff_not, beq_iff_eq, beq_eq_false_iff_ne, ne_eq, Bool.false_eq_true, iff_true, iff_false, Bool.and_eq_true] at *); omega))
  · ((refine Bool.eq_iff_iff.2 ?_; (try simp only [decide_eq_true_eq, decide_eq_false_iff_not, beq_iff_eq, beq_eq_false_iff_ne, ne_eq, Bool.false_eq_true, iff_true, iff_false, Bool.and_eq_true] at *); omega))
  · ((refine Bool.eq_iff_iff.2 ?_; (try simp only [decide_eq_true_eq, decide_eq_false_iff_not, beq_iff_eq, beq_eq_false_iff_ne, ne_eq, Bool.false_eq_true, iff_true, iff_false, Bool.and_eq_true] at *); omega))
  · ((refine Bool.eq_iff_iff.2 ?_; (try simp only [decide_eq_true_eq, decide_eq_false_iff_not, beq_iff_eq, beq_eq_false_iff_ne, ne_eq, Bool.false_eq_true, iff_true, iff_false, Bool.and_eq_true] at *); omega))
  · ((refine Bool.eq_iff_iff.2 ?_; (try simp only [decide_eq_true_eq, decide_eq_false_iff_not, beq_iff_eq, beq_eq_false_iff_ne, ne_eq, Bool.false_eq_true, iff_true, iff_false, Bool.and_eq_true] at *); omega))

theorem rclass_9 {m : Mem} {x : Int} {b : Bool} {kr : Int → Mem → Prop} {kn : Mem → Prop} (h : opt (cls9 x b) kr kn m) : P20_9004 x b m kr kn := by
  unfold P20_9004
  unfold cls9 at h
  refine kif_c _ (fun c => ?_) fun c => ?_
  · rw [if_pos c] at h; exact h
  rw [if_neg (by rw [c]; simp)] at h
  refine kif_c _ (fun c => ?_) fun c1 => kif_c _ (fun c => ?_) fun c2 => kif_c _ (fun c => ?_) fun c3 => kif_c _ (fun c4 => kif_c _ (fun c => ?_) fun c => ?_) fun c4 => ?_
  · rw [if_pos (by (((try simp only [decide_eq_true_eq, decide_eq_false_iff_not, beq_iff_eq, beq_eq_false_iff_ne, ne_eq] at *); omega)))] at h; exact h
  · rw [if_pos (by (((try simp only [decide_eq_true_eq, decide_eq_false_iff_not, beq_iff_eq, beq_eq_false_iff_ne, ne_eq] at *); omega)))] at h; exact h
  · rw [if_pos (by (((try simp only [decide_eq_true_eq, decide_eq_false_iff_not, beq_iff_eq, beq_eq_false_iff_ne, ne_eq] at *); omega)))] at h; exact h
  · rw [if_pos (by (((try simp only [decide_eq_true_eq, decide_eq_false_iff_not, beq_iff_eq, beq_eq_false_iff_ne, ne_eq] at *); omega)))] at h; exact h
  · rw [if_neg (by (((try simp only [decide_eq_true_eq, decide_eq_false_iff_not, beq_iff_eq, beq_eq_false_iff_ne, ne_eq] at *); omega)))] at h; exact h
  · rw [if_neg (by (((try simp only [decide_eq_true_eq, decide_eq_false_iff_not, beq_iff_eq, beq_eq_false_iff_ne, ne_eq] at *); omega)))] at h; exact h
theorem rclass_7 {m : Mem} {x : Int} {b : Bool} {kr : Int → Mem → Prop} {kn : Mem → Prop} (h : opt (cls7 x b) kr kn m) : P20_7004 x b m kr kn := by
  unfold P20_7004
  unfold cls7 at h
  refine kif_c _ (fun c => ?_) fun c => ?_
  · rw [if_pos c] at h; exact h
  rw [if_neg (by rw [c]; simp)] at h
  refine kif_c _ (fun c4 => kif_c _ (fun c => ?_) fun c => ?_) fun c4 => ?_ <;> refine rclass_9 ?_
  · rw [show decide ((71 ≤ x ∧ x ≤ 73) ∨ x = 75) = true by ((refine Bool.eq_iff_iff.2 ?_; (try simp only [decide_eq_true_eq, decide_eq_false_iff_not, beq_iff_eq, beq_eq_false_iff_ne, ne_eq, Bool.false_eq_true, iff_true, iff_false, Bool.and_eq_true] at *); omega))] at h; exact h
  · rw [show decide ((71 ≤ x ∧ x ≤ 73) ∨ x = 75) = (x == 75) by ((refine Bool.eq_iff_iff.2 ?_; (try simp only [decide_eq_true_eq, decide_eq_false_iff_not, beq_iff_eq, beq_eq_false_iff_ne, ne_eq, Bool.false_eq_true, iff_true, iff_false, Bool.and_eq_true] at *); omega))] at h; exact h
  · rw [show decide ((71 ≤ x ∧ x ≤ 73) ∨ x = 75) = (x == 75) by ((refine Bool.eq_iff_iff.2 ?_; (try simp only [decide_eq_true_eq, decide_eq_false_iff_not, beq_iff_eq, beq_eq_false_iff_ne, ne_eq, Bool.false_eq_true, iff_true, iff_false, Bool.and_eq_true] at *); omega))] at h; exact h
theorem rclass_5 {m : Mem} {x : Int} {b : Bool} {kr : Int → Mem → Prop} {kn : Mem → Prop} (h : opt (cls5 x b) kr kn m) : P20_5004 x b m kr kn := by
  unfold P20_5004
  unfold cls5 at h
  refine kif_c _ (fun c => ?_) fun c => ?_
  · rw [if_pos c] at h; exact h
  rw [if_neg (by rw [c]; simp)] at h
  refine kif_c _ (fun c4 => kif_c _ (fun c => ?_) fun c => ?_) fun c4 => ?_ <;> refine rclass_7 ?_
  · rw [show decide ((66 ≤ x ∧ x ≤ 70) ∨ x = 74) = true by ((refine Bool.eq_iff_iff.2 ?_; (try simp only [decide_eq_true_eq, decide_eq_false_iff_not, beq_iff_eq, beq_eq_false_iff_ne, ne_eq, Bool.false_eq_true, iff_true, iff_false, Bool.and_eq_true] at *); omega))] at h; exact h
  · rw [show decide ((66 ≤ x ∧ x ≤ 70) ∨ x = 74) = (x == 74) by ((refine Bool.eq_iff_iff.2 ?_; (try simp only [decide_eq_true_eq, decide_eq_false_iff_not, beq_iff_eq, beq_eq_false_iff_ne, ne_eq, Bool.false_eq_true, iff_true, iff_false, Bool.and_eq_true] at *); omega))] at h; exact h
  · rw [show decide ((66 ≤ x ∧ x ≤ 70) ∨ x = 74) = (x == 74) by ((refine Bool.eq_iff_iff.2 ?_; (try simp only [decide_eq_true_eq, decide_eq_false_iff_not, beq_iff_eq, beq_eq_false_iff_ne, ne_eq, Bool.false_eq_true, iff_true, iff_false, Bool.and_eq_true] at *); omega))] at h; exact h
theorem rclass_3 {m : Mem} {x : Int} {b : Bool} {kr : Int → Mem → Prop} {kn : Mem → Prop} (h : opt (cls3 x b) kr kn m) : P20_3004 x b m kr kn := by
  unfold P20_3004
  unfold cls3 at h
  refine kif_c _ (fun c => ?_) fun c => ?_
  · rw [if_pos c] at h; exact h
  rw [if_neg (by rw [c]; simp)] at h
  refine kif_c _ (fun c => ?_) fun c1 => kif_c _ (fun c => ?_) fun c2 => kif_c _ (fun c4 => ?_) fun c4 => ?_ <;> refine rclass_5 ?_
  · rw [show decide (x = 7 ∨ x = 8 ∨ (36 ≤ x ∧ x ≤ 45)) = true by ((refine Bool.eq_iff_iff.2 ?_; (try simp only [decide_eq_true_eq, decide_eq_false_iff_not, beq_iff_eq, beq_eq_false_iff_ne, ne_eq, Bool.false_eq_true, iff_true, iff_false, Bool.and_eq_true] at *); omega))] at h; exact h
  · rw [show decide (x = 7 ∨ x = 8 ∨ (36 ≤ x ∧ x ≤ 45)) = true by ((refine Bool.eq_iff_iff.2 ?_; (try simp only [decide_eq_true_eq, decide_eq_false_iff_not, beq_iff_eq, beq_eq_false_iff_ne, ne_eq, Bool.false_eq_true, iff_true, iff_false, Bool.and_eq_true] at *); omega))] at h; exact h
  · rw [show decide (x = 7 ∨ x = 8 ∨ (36 ≤ x ∧ x ≤ 45)) = decide (x ≤ 45) by ((refine Bool.eq_iff_iff.2 ?_; (try simp only [decide_eq_true_eq, decide_eq_false_iff_not, beq_iff_eq, beq_eq_false_iff_ne, ne_eq, Bool.false_eq_true, iff_true, iff_false, Bool.and_eq_true] at *); omega))] at h; exact h
  · rw [show decide (x = 7 ∨ x = 8 ∨ (36 ≤ x ∧ x ≤ 45)) = false by ((refine Bool.eq_iff_iff.2 ?_; (try simp only [decide_eq_true_eq, decide_eq_false_iff_not, beq_iff_eq, beq_eq_false_iff_ne, ne_eq, Bool.false_eq_true, iff_true, iff_false, Bool.and_eq_true] at *); omega))] at h; exact h
theorem rclass_spec {m : Mem} {c : Nat → AV} {x : In} (hc : InC c x) {k : Int → Mem → Prop} (hk : k (classS x.k) m) : F20 c m k := by
  unfold F20
  refine newI hc fun b m1 hb K i O => ?_
  rw [i.l0]
  have fin : ∀ (q : Bool), decide (x.k ≤ 0 ∨ x.k ≥ 78 ∨ x.k = 11 ∨ x.k = 12 ∨ (54 ≤ x.k ∧ x.k ≤ 62)) = q → P20_3004 x.k q m1 (fun x34 m35 => (Keeps m m35 ∧ k x34 m)) (fun m36 => (Keeps m m36 ∧ k 1 m)) := fun q e => by
    refine rclass_3 ?_
    unfold classS at hk
    rw [e] at hk
    revert hk
    unfold opt
    cases cls3 x.k q with
    | none => exact fun h => ⟨K, h⟩
    | some r => exact fun h => ⟨K, h⟩
  refine kif_c _ (fun c => fin _ ?_) fun c1 => kif_c _ (fun c => fin _ ?_) fun c2 => kif_c _ (fun c5 => kif_c _ (fun c => fin _ ?_) fun c6 => kif_c _ (fun c => fin _ ?_) fun c3 => fin _ ?_) fun c5 => kif_c _ (fun c => fin _ ?_) fun c3 => fin _ ?_
  · ((refine Bool.eq_iff_iff.2 ?_; (try simp only [decide_eq_true_eq, decide_eq_false_iff_not, beq_iff_eq, beq_eq_false_iff_ne, ne_eq, Bool.false_eq_true, iff_true, iff_false, Bool.and_eq_true] at *); omega))
  · ((refine Bool.eq_iff_iff.2 ?_; (try simp only [decide_eq_true_eq, decide_eq_false_iff_not, beq_iff_eq, beq_eq_false_iff_ne, ne_eq, Bool.false_eq_true, iff_true, iff_false, Bool.and_eq_true] at *); omega))
  · ((refine Bool.eq_iff_iff.2 ?_; (try simp only [decide_eq_true_eq, decide_eq_false_iff_not, beq_iff_eq, beq_eq_false_iff_ne, ne_eq, Bool.false_eq_true, iff_true, iff_false, Bool.and_eq_true] at *); omega))
  · ((refine Bool.eq_iff_iff.2 ?_; (try simp only [decide_eq_true_eq, decide_eq_false_iff_not, beq_iff_eq, beq_eq_false_iff_ne, ne_eq, Bool.false_eq_true, iff_true, iff_false, Bool.and_eq_true] at *); omega))
  · ((refine Bool.eq_iff_iff.2 ?_; (try simp only [decide_eq_true_eq, decide_eq_false_iff_not, beq_iff_eq, beq_eq_false_iff_ne, ne_eq, Bool.false_eq_true, iff_true, iff_false, Bool.and_eq_true] at *); omega))
  · ((refine Bool.eq_iff_iff.2 ?_; (try simp only [decide_eq_true_eq, decide_eq_false_iff_not, beq_iff_eq, beq_eq_false_iff_ne, ne_eq, Bool.false_eq_true, iff_true, iff_false, Bool.and_eq_true] at *); omega))
  · ((refine Bool.eq_iff_iff.2 ?_; (try simp only [decide_eq_true_eq, decide_eq_false_iff_not, beq_iff_eq, beq_eq_false_iff_ne, ne_eq, Bool.false_eq_true, iff_true, iff_false, Bool.and_eq_true] at *); omega))

/-! ### head -/
def HP : List (Nat × Nat) := [(0, 0), (0, 0), (2, 1), (3, 1), (4, 1), (6, 1), (7, 1), (8, 1), (9, 1), (10, 1), (11, 1), (12, 1), (13, 1), (15, 1), (16, 1), (17, 1), (18, 1), (19, 1), (24, 1), (25, 1), (26, 1), (27, 1), (32, 1), (33, 1), (34, 1), (35, 1), (36, 1), (37, 1), (38, 1), (39, 1), (42, 1), (43, 1), (48, 1), (50, 1), (52, 1), (54, 1), (0, 2), (1, 2), (16, 2), (17, 2), (2, 0), (3, 0), (4, 0), (5, 0), (6, 0), (7, 0), (8, 0), (9, 0), (10, 0), (11, 0), (12, 0), (13, 0), (14, 0), (15, 0), (0, 3), (4, 3), (1, 4), (2, 4), (6, 4), (8, 4), (24, 4), (32, 4), (17, 0), (2, 5), (32, 5), (33, 5), (32, 0), (33, 0), (35, 0), (36, 0), (37, 0), (40, 0), (41, 0), (43, 0), (48, 0), (56, 0), (47, 0), (51, 0)]
def hwI (x : Int) : Nat → Int
  | 0 => IntKind.wrap .u32 (x * 67108864)
  | 1 => bits .or .u32 0 x
  | 2 => bits .or .u32 67108864 (IntKind.wrap .u32 ((bits .and .u32 x 31) * 65536))
  | 3 => bits .or .u32 1073741824 (IntKind.wrap .u32 ((bits .and .u32 x 31) * 2097152))
  | 4 => bits .or .u32 1107296256 x
  | _ => bits .or .u32 1879048192 x
theorem hw_tab : ∀ n, n < 64 → ∀ j, j < 6 → kindOf (hwI (n : Nat) j) = (KWT.getD n []).getD j 0 := by decide +kernel
theorem hw_rng (x : Int) (j : Nat) : 0 ≤ hwI x j ∧ hwI x j < 4294967296 := by
  unfold hwI
  split
  · exact wrap32_rng _
  all_goals exact or_rng _ _
theorem hp_tab : ∀ k, k < 78 → 0 < k → (HP.getD k (0, 0)).1 < 64 ∧ (HP.getD k (0, 0)).2 < 6 ∧ hwI (HP.getD k (0, 0)).1 (HP.getD k (0, 0)).2 = HDT.getD k 0 ∧ (KWT.getD (HP.getD k (0, 0)).1 []).getD (HP.getD k (0, 0)).2 0 = k := by decide +kernel
theorem hp_tab2 : ∀ k, k < 78 → 0 < k → ∀ n, n < 64 → n < (HP.getD k (0, 0)).1 → ∀ j, j < 6 → (KWT.getD n []).getD j 0 ≠ (k : Nat) := by decide +kernel
theorem hp_tab3 : ∀ k, k < 78 → 0 < k → ∀ j, j < 6 → j < (HP.getD k (0, 0)).2 → (KWT.getD (HP.getD k (0, 0)).1 []).getD j 0 ≠ (k : Nat) := by decide +kernel

section
variable {m : Mem} {c : Nat → AV} {x : In}
/-! ### Right, Word -/
theorem right_2 {b b8 : Nat} {y : Blk} (e : m.obj b8 = some y) (hn : y.n = 4) {k0 : Mem → Prop} {kr : Bool → Mem → Prop} {r j : Nat} {v : Int} (hj : j + r + 1 = 4) (hv : y.c j = .flat (.int .i64 v))
    (h1 : five v = true → L41_2 b 0 (.sl b8 0 4 (.ex 4)) 4 (r + 1) ((j : Int) + 1) m k0 kr) (h2 : five v = false → kr false m) : L41_2 b 0 (.sl b8 0 4 (.ex 4)) 4 (r + 1 + 1) j m k0 kr := by
  unfold L41_2 R41_2
  refine kif_t (by simp; omega) (kif_ix (by omega) (by show (j : Int) < (4 : Nat); omega) ?_)
  rw [ldI_of e (by omega) (by rw [show 0 + (j : Int).toNat * 1 = j by omega]; exact hv), wrap64 (by omega) (by omega)]
  unfold five at h1 h2
  refine kif_c _ (fun c => h2 (by ((refine Bool.eq_iff_iff.2 ?_; (try simp only [decide_eq_true_eq, decide_eq_false_iff_not, beq_iff_eq, beq_eq_false_iff_ne, ne_eq, Bool.false_eq_true, iff_true, iff_false, Bool.and_eq_true] at *); omega)))) fun c1 => kif_c _ (fun c => h2 (by ((refine Bool.eq_iff_iff.2 ?_; (try simp only [decide_eq_true_eq, decide_eq_false_iff_not, beq_iff_eq, beq_eq_false_iff_ne, ne_eq, Bool.false_eq_true, iff_true, iff_false, Bool.and_eq_true] at *); omega)))) fun c2 => h1 ?_
  simp only [decide_eq_false_iff_not] at c1 c2
  simp; omega
theorem Bool.and_f {a b : Bool} (h : a = false) : (a && b) = false := by rw [h]; rfl
theorem right_spec (hc : InC c x) (hi : 0 ≤ x.i) {k : Bool → Mem → Prop} (hk : k (rightS x) m) : F41 c m k := by
  unfold F41
  refine newI hc fun b m1 hb K i O => ?_
  rw [i.l1, i.l2, i.l3, i.l4]
  refine newK_i fun b8 m7 hb8 K7 e8 O7 => ?_
  have i7 := i.keep K7
  have K17 := K.trans K7
  unfold rightS at hk
  have no : ∀ q : Bool, q = false → rightS x = q → (Keeps m m7 ∧ k false m) := fun q e1 e2 => ⟨K17, by unfold rightS at e2; rw [e2, e1] at hk; exact hk⟩
  refine ⟨5, right_2 (r := 3) (j := 0) e8 rfl rfl rfl (fun f1 => right_2 (r := 2) (j := 1) e8 rfl rfl rfl (fun f2 => right_2 (r := 1) (j := 2) e8 rfl rfl rfl (fun f3 => right_2 (r := 0) (j := 3) e8 rfl rfl rfl (fun f4 => ?_) ?_) ?_) ?_) ?_⟩
  · unfold L41_2 R41_2
    refine kif_f (by decide) ?_
    rw [f1, f2, f3, f4] at hk
    simp only [Bool.and_self, Bool.true_and] at hk
    refine ⟨fun b' => b' = b, rfl, ?_⟩
    rw [i7.l0]
    refine kif_c _ (fun c1 => ⟨rfl, ?_⟩) fun c1 => ?_
    · rw [i7.l0]
      have c1 : 0 < x.k := by simpa using c1
      refine kif_c _ (fun c2 => ⟨rfl, ?_⟩) fun c2 => ?_
      · have c2 : x.k < 78 := by simpa using c2
        rw [i7.l5]
        refine kif_c _ (fun c3 => ⟨rfl, ?_⟩) fun c3 => ?_
        · have c3 : x.i ≤ 67108863 := by simpa using c3
          rw [i7.l0]
          refine ⟨rfl, i7.lg fun c23 h23 => put_spec h23 ⟨fun _ _ _ => rfl, ?_⟩⟩
          have hp := orI_rng (orI (orI (orI (IntKind.wrap .u32 (IntKind.wrap .u32 x.s * 2097152)) (IntKind.wrap .u32 (IntKind.wrap .u32 x.t * 65536))) (IntKind.wrap .u32 (IntKind.wrap .u32 x.d * 2048))) (IntKind.wrap .u32 (IntKind.wrap .u32 x.h * 64))) x.i
          refine with_spec (by omega) c2 hp.1 hp.2 fun c26 h26 => ⟨fun _ _ _ => rfl, rfl, i7.lg fun c28 h28 => ?_⟩
          rw [geq_in h26 h28 _ (by kernel_rfl)]
          refine ⟨K17, ?_⟩
          rw [decide_eq_true c1, decide_eq_true c2, decide_eq_true c3] at hk
          exact hk
        · have c3 : decide (x.i ≤ 67108863) = false := c3
          rw [c3] at hk; simp only [Bool.and_false, Bool.false_and] at hk; exact ⟨K17, hk⟩
      · have c2 : decide (x.k < 78) = false := c2
        rw [c2] at hk; simp only [Bool.and_false, Bool.false_and] at hk; exact ⟨K17, hk⟩
    · have c1 : decide (0 < x.k) = false := c1
      rw [c1] at hk; simp only [Bool.and_false, Bool.false_and] at hk; exact ⟨K17, hk⟩
  · intro q; rw [q] at hk; simp only [Bool.and_false, Bool.false_and] at hk; exact ⟨K17, hk⟩
  · intro q; rw [q] at hk; simp only [Bool.and_false, Bool.false_and] at hk; exact ⟨K17, hk⟩
  · intro q; rw [q] at hk; simp only [Bool.and_false, Bool.false_and] at hk; exact ⟨K17, hk⟩
  · intro q; rw [q] at hk; simp only [Bool.and_false, Bool.false_and] at hk; exact ⟨K17, hk⟩
end

end Go.Proofs.YtkgidjnaddjjbaaGreat.Am
