/- Small operations of an instruction: what they change, on what they hang; the program's own run of them in known. Conditions: an instruction is right. -/
import Derived.Test.YtkgidjnaddjjbaaGreatC19b
namespace Go.Proofs.YtkgidjnaddjjbaaGreat.Am
set_option linter.unusedVariables false
set_option linter.unusedSimpArgs false
set_option maxRecDepth 100000

/-! ### what operations change -/
theorem ops_ok {x : In} (hi : 0 ≤ x.i) : (opsOf x).length ≤ 2 ∧ ∀ o ∈ opsOf x, OpR o := by
  unfold opsOf
  by_cases c : plainS x = false ∨ x.k = 13 ∨ x.k = 76 ∨ x.k = 77
  · rw [if_pos c]; exact ⟨by simp, fun o h => by cases h⟩
  rw [if_neg c]
  have hp : plainS x = true := by
    cases h : plainS x with
    | true => rfl
    | false => exact absurd (.inl h) c
  have hr : rightS x = true := by unfold plainS at hp; simp at hp; exact hp.1
  have ok := (right_iff x hi).1 hr
  have k0 := ok.k0
  have k1 := ok.k1
  have s0 := ok.s0
  have s1 := ok.s1
  have t0 := ok.t0
  have t1 := ok.t1
  have d0 := ok.d0
  have d1 := ok.d1
  have kr := kindL_r (x := x.k) (by omega) k1
  have z : isU 0 := ⟨by decide, by decide⟩
  have one : ∀ o, OpR o → [o].length ≤ 2 ∧ ∀ p ∈ [o], OpR p := fun o h => ⟨by simp, fun p hp => by simp at hp; subst hp; exact h⟩
  have two : ∀ o q, OpR o → OpR q → [o, q].length ≤ 2 ∧ ∀ p ∈ [o, q], OpR p := fun o q h g => ⟨by simp, fun p hp => by simp at hp; rcases hp with rfl | rfl; exact h; exact g⟩
  by_cases c1 : x.k = 53
  · rw [if_pos c1]; exact one _ ⟨⟨by simp, by simp⟩, ⟨t0, by show x.t < 40; omega⟩, ⟨by simp, by simp⟩, ⟨by simp, by simp⟩, wrap_u _⟩
  rw [if_neg c1]
  by_cases c2 : x.k = 14
  · rw [if_pos c2]; exact one _ ⟨⟨by simp, by simp⟩, ⟨d0, by show x.d < 40; omega⟩, ⟨by simp, by simp⟩, ⟨by simp, by simp⟩, z⟩
  rw [if_neg c2]
  by_cases c3 : x.k = 16
  · rw [if_pos c3]; exact one _ ⟨⟨by simp, by simp⟩, ⟨d0, by show x.d < 40; omega⟩, ⟨by simp, by simp⟩, ⟨by simp, by simp⟩, z⟩
  rw [if_neg c3]
  by_cases c4 : x.k = 15
  · rw [if_pos c4]; exact one _ ⟨⟨by simp, by simp⟩, ⟨by simp, by simp⟩, ⟨s0, by show x.s < 40; omega⟩, ⟨by simp, by simp⟩, z⟩
  rw [if_neg c4]
  by_cases c5 : x.k = 17
  · rw [if_pos c5]; exact one _ ⟨⟨by simp, by simp⟩, ⟨by simp, by simp⟩, ⟨s0, by show x.s < 40; omega⟩, ⟨by simp, by simp⟩, z⟩
  rw [if_neg c5]
  by_cases c6 : x.k ≤ 3
  · rw [if_pos c6]; exact two _ _ ⟨⟨by simp, by simp⟩, ⟨by simp, by simp⟩, ⟨by simp, by simp⟩, ⟨by simp, by simp⟩, wrap_u _⟩ ⟨kr, ⟨d0, by show x.d < 40; omega⟩, ⟨t0, by show x.t < 40; omega⟩, ⟨by simp, by simp⟩, z⟩
  rw [if_neg c6]
  by_cases c7 : x.k ≤ 6
  · rw [if_pos c7]; exact one _ ⟨kr, ⟨d0, by show x.d < 40; omega⟩, ⟨t0, by show x.t < 40; omega⟩, ⟨s0, by show x.s < 40; omega⟩, z⟩
  rw [if_neg c7]
  by_cases c8 : intoL x = x.t ∧ 46 ≤ x.k ∧ x.k ≤ 52
  · rw [if_pos c8]
    have hi2 := imm16 ok c8.2.1 c8.2.2
    have iu : isU (immL x) := by
      unfold immL; split
      · exact ⟨hi, by omega⟩
      · exact sxV_u hi hi2
    exact two _ _ ⟨⟨by simp, by simp⟩, ⟨by simp, by simp⟩, ⟨by simp, by simp⟩, ⟨by simp, by simp⟩, iu⟩ ⟨kr, ⟨t0, by show x.t < 40; omega⟩, ⟨s0, by show x.s < 40; omega⟩, ⟨by simp, by simp⟩, z⟩
  rw [if_neg c8]
  exact one _ ⟨kr, ⟨d0, by show x.d < 40; omega⟩, ⟨s0, by show x.s < 40; omega⟩, ⟨t0, by show x.t < 40; omega⟩, z⟩
theorem one_change {f : Nat → Int} {o : Op19} (ho : OpR o) {k : Nat} (hk : k < 32 ∨ k = 34) (h : one18 f o k ≠ f k) : (k : Int) = o.d ∧ k ≠ 0 := by
  unfold one18 at h
  try dsimp only at h
  have up : ∀ (g : Nat → Int) i v, k ≠ i → upd g i v k = g k := fun g i v e => by unfold upd; rw [if_neg e]
  split at h
  · exact absurd rfl h
  split at h
  · rw [up _ _ _ (by omega), up _ _ _ (by omega)] at h; exact absurd rfl h
  split at h
  · rw [up _ _ _ (by omega), up _ _ _ (by omega)] at h; exact absurd rfl h
  split at h
  · exact absurd rfl h
  split at h
  · rename_i hd
    by_cases e : k = o.d.toNat
    · exact ⟨by omega, by omega⟩
    · rw [up _ _ _ e] at h; exact absurd rfl h
  · exact absurd rfl h
theorem const_at (f : Nat → Int) (im : Int) (k : Nat) : one18 f ⟨1, 34, 0, 0, im⟩ k = if k = 34 then im else f k := rfl
/-- one register alone is changed -/
theorem run_change {x : In} (hi : 0 ≤ x.i) (f : Nat → Int) : ∃ D : Int, ∀ k : Nat, k < 32 → run18 f (opsOf x) k ≠ f k → (k : Int) = D ∧ k ≠ 0 ∧ (D = x.d ∨ D = x.t) := by
  obtain ⟨_, hok⟩ := ops_ok hi
  have one : ∀ o, OpR o → (o.d = x.d ∨ o.d = x.t ∨ o.d = 32 ∨ o.d = 33) → ∃ D : Int, ∀ k : Nat, k < 32 → run18 f [o] k ≠ f k → (k : Int) = D ∧ k ≠ 0 ∧ (D = x.d ∨ D = x.t) := fun o ho hd => ⟨o.d, fun k hk h => by
    obtain ⟨e1, e2⟩ := one_change ho (.inl hk) h
    exact ⟨e1, e2, by omega⟩⟩
  have two : ∀ im o, OpR o → (o.d = x.d ∨ o.d = x.t ∨ o.d = 32 ∨ o.d = 33) → ∃ D : Int, ∀ k : Nat, k < 32 → run18 f [⟨1, 34, 0, 0, im⟩, o] k ≠ f k → (k : Int) = D ∧ k ≠ 0 ∧ (D = x.d ∨ D = x.t) := fun im o ho hd => ⟨o.d, fun k hk h => by
    have h : one18 (one18 f ⟨1, 34, 0, 0, im⟩) o k ≠ f k := h
    have e : one18 f ⟨1, 34, 0, 0, im⟩ k = f k := by rw [const_at, if_neg (by omega)]
    rw [← e] at h
    obtain ⟨e1, e2⟩ := one_change ho (.inl hk) h
    exact ⟨e1, e2, by omega⟩⟩
  unfold opsOf at hok ⊢
  by_cases c : plainS x = false ∨ x.k = 13 ∨ x.k = 76 ∨ x.k = 77
  · rw [if_pos c]; exact ⟨0, fun k hk h => absurd rfl h⟩
  rw [if_neg c] at hok ⊢
  by_cases c1 : x.k = 53
  · rw [if_pos c1] at hok ⊢; exact one _ (hok _ (by simp)) (by simp)
  rw [if_neg c1] at hok ⊢
  by_cases c2 : x.k = 14
  · rw [if_pos c2] at hok ⊢; exact one _ (hok _ (by simp)) (by simp)
  rw [if_neg c2] at hok ⊢
  by_cases c3 : x.k = 16
  · rw [if_pos c3] at hok ⊢; exact one _ (hok _ (by simp)) (by simp)
  rw [if_neg c3] at hok ⊢
  by_cases c4 : x.k = 15
  · rw [if_pos c4] at hok ⊢; exact one _ (hok _ (by simp)) (by simp)
  rw [if_neg c4] at hok ⊢
  by_cases c5 : x.k = 17
  · rw [if_pos c5] at hok ⊢; exact one _ (hok _ (by simp)) (by simp)
  rw [if_neg c5] at hok ⊢
  by_cases c6 : x.k ≤ 3
  · rw [if_pos c6] at hok ⊢; exact two _ _ (hok _ (by simp)) (by simp)
  rw [if_neg c6] at hok ⊢
  by_cases c7 : x.k ≤ 6
  · rw [if_pos c7] at hok ⊢; exact one _ (hok _ (by simp)) (by simp)
  rw [if_neg c7] at hok ⊢
  by_cases c8 : intoL x = x.t ∧ 46 ≤ x.k ∧ x.k ≤ 52
  · rw [if_pos c8] at hok ⊢; exact two _ _ (hok _ (by simp)) (by simp)
  rw [if_neg c8] at hok ⊢
  exact one _ (hok _ (by simp)) (by simp)
theorem one_agree {f g : Nat → Int} {o : Op19} {n : Nat} (h : ∀ i, i < n → f i = g i) (ha : o.a.toNat < n) (hb : o.b.toNat < n) : ∀ i, i < n → one18 f o i = one18 g o i := by
  intro i hi
  unfold one18
  try dsimp only
  rw [h _ ha, h _ hb]
  have up : ∀ (f g : Nat → Int) j v, f i = g i → upd f j v i = upd g j v i := fun f g j v e => by
    unfold upd; split
    · rfl
    · exact e
  split
  · exact h i hi
  split
  · exact up _ _ _ _ (up _ _ _ _ (h i hi))
  split
  · exact up _ _ _ _ (up _ _ _ _ (h i hi))
  split
  · exact h i hi
  split
  · exact up _ _ _ _ (h i hi)
  · exact h i hi
theorem run_agree {x : In} (hi : 0 ≤ x.i) {f g : Nat → Int} (h : ∀ i, i < 34 → f i = g i) : ∀ i, i < 34 → run18 f (opsOf x) i = run18 g (opsOf x) i := by
  have two : ∀ im o, o.a.toNat < 35 → o.b.toNat < 35 → ∀ i, i < 34 → run18 f [⟨1, 34, 0, 0, im⟩, o] i = run18 g [⟨1, 34, 0, 0, im⟩, o] i := fun im o ha hb i hi => by
    show one18 (one18 f _) o i = one18 (one18 g _) o i
    refine one_agree (n := 35) (fun j hj => ?_) ha hb i (by omega)
    rw [const_at, const_at]
    by_cases c : j = 34
    · rw [if_pos c, if_pos c]
    · rw [if_neg c, if_neg c]; exact h j (by omega)
  have one : ∀ o, o.a.toNat < 34 → o.b.toNat < 34 → ∀ i, i < 34 → run18 f [o] i = run18 g [o] i := fun o ha hb => one_agree h ha hb
  unfold opsOf
  by_cases c : plainS x = false ∨ x.k = 13 ∨ x.k = 76 ∨ x.k = 77
  · rw [if_pos c]; exact h
  rw [if_neg c]
  have hp : plainS x = true := by
    cases h : plainS x with
    | true => rfl
    | false => exact absurd (.inl h) c
  have hr : rightS x = true := by unfold plainS at hp; simp at hp; exact hp.1
  have ok := (right_iff x hi).1 hr
  have s0 := ok.s0
  have s1 := ok.s1
  have t0 := ok.t0
  have t1 := ok.t1
  by_cases c1 : x.k = 53
  · rw [if_pos c1]; exact one _ (by show (0 : Int).toNat < 34; decide) (by show (0 : Int).toNat < 34; decide)
  rw [if_neg c1]
  by_cases c2 : x.k = 14
  · rw [if_pos c2]; exact one _ (by show (32 : Int).toNat < 34; decide) (by show (0 : Int).toNat < 34; decide)
  rw [if_neg c2]
  by_cases c3 : x.k = 16
  · rw [if_pos c3]; exact one _ (by show (33 : Int).toNat < 34; decide) (by show (0 : Int).toNat < 34; decide)
  rw [if_neg c3]
  by_cases c4 : x.k = 15
  · rw [if_pos c4]; exact one _ (by show x.s.toNat < 34; omega) (by show (0 : Int).toNat < 34; decide)
  rw [if_neg c4]
  by_cases c5 : x.k = 17
  · rw [if_pos c5]; exact one _ (by show x.s.toNat < 34; omega) (by show (0 : Int).toNat < 34; decide)
  rw [if_neg c5]
  by_cases c6 : x.k ≤ 3
  · rw [if_pos c6]; exact two _ _ (by show x.t.toNat < 35; omega) (by show (34 : Int).toNat < 35; decide)
  rw [if_neg c6]
  by_cases c7 : x.k ≤ 6
  · rw [if_pos c7]; exact one _ (by show x.t.toNat < 34; omega) (by show x.s.toNat < 34; omega)
  rw [if_neg c7]
  by_cases c8 : intoL x = x.t ∧ 46 ≤ x.k ∧ x.k ≤ 52
  · rw [if_pos c8]; exact two _ _ (by show x.s.toNat < 35; omega) (by show (34 : Int).toNat < 35; decide)
  rw [if_neg c8]
  exact one _ (by show x.s.toNat < 34; omega) (by show x.t.toNat < 34; omega)

section
variable {m0 m : Mem}
/-! ### the program's own run, in known -/
theorem ir_right {c : Nat → AV} {o : Op19} (hc : OpC c o) (ho : OpR o) {k : Bool → Mem → Prop} (hk : k true m) : F45 c m k := by
  unfold F45
  refine newK_i fun b m1 hb K e O => ?_
  have h : OpB m1 b o := ⟨_, e, rfl, hc⟩
  simp only [h.l1, h.l2, h.l3]
  refine newK_i fun b7 m2 hb7 K2 e7 O7 => ?_
  have h2 : OpB m2 b o := by
    obtain ⟨y, e, r⟩ := h
    exact ⟨y, by rw [K2 b (by rw [e]; simp)]; exact e, r⟩
  have hk1 := ho.k
  have fin : ldI .i64 m2 b 0 fun x17 => kif (decide (x17 ≥ 0)) (ldI .i64 m2 b 0 fun x18 => (Keeps m m2 ∧ k (decide (x18 ≤ 22)) m)) ((Keeps m m2 ∧ k false m)) := by
    rw [h2.l0]
    refine kif_t (by simp; omega) ?_
    rw [h2.l0]
    refine ⟨K.trans K2, ?_⟩
    rw [decide_eq_true (by omega)]; exact hk
  let f3 : Nat → Int := fun i => if i = 0 then o.d else if i = 1 then o.a else o.b
  have row : IsR m2 1 (.sl b7 0 3 (.ex 3)) 3 (cK .i64 f3) := (IsL.row (esz := 1) e7 rfl rfl).r.congr fun i hi => by
    match i, hi with
    | 0, _ => rfl
    | 1, _ => rfl
    | 2, _ => rfl
  have f3r : ∀ i, 0 ≤ f3 i ∧ f3 i < 40 := fun i => by
    show 0 ≤ (if i = 0 then o.d else if i = 1 then o.a else o.b) ∧ (if i = 0 then o.d else if i = 1 then o.a else o.b) < 40
    split
    · exact ho.d
    split
    · exact ho.a
    · exact ho.b
  have loop : ∀ (j i : Nat), i + j = 3 → L45_2 b 0 (.sl b7 0 3 (.ex 3)) 3 (j + 1) i m2 (fun m13 => ldI .i64 m13 b 0 fun x17 => kif (decide (x17 ≥ 0)) (ldI .i64 m13 b 0 fun x18 => (Keeps m m13 ∧ k (decide (x18 ≤ 22)) m)) ((Keeps m m13 ∧ k false m))) (fun x14 m15 => (Keeps m m15 ∧ k x14 m)) := by
    intro j
    induction j with
    | zero =>
      intro i e
      show R45_2 _ _ _ _ _ _ _ _ _
      unfold R45_2
      exact kif_f (by simp; omega) fin
    | succ j ih =>
      intro i e
      show R45_2 _ _ _ _ _ _ _ _ _
      unfold R45_2
      rw [wrap64 (n := (i : Int) + 1) (by omega) (by omega)]
      have := f3r i
      exact kif_t (by simp; omega) (ldK_r (k := fun _ _ x => kif (decide (x < 0)) _ (kif (decide (x ≥ 40)) _ _)) row i (by omega) fun _ _ _ => kif_f (by simp; omega) (kif_f (by simp; omega) (ih (i + 1) (by omega))))
  exact ⟨4, loop 3 0 (by omega)⟩
theorem e_run1 {c : Nat → AV} {k : KV} : E84 44 [.agg 5 c] m k = F44 c m (fun x m' => k (.flat (.bool x)) m') := by kernel_rfl
theorem ir_none {v : AV} {l : List Op19} (hl : l.length ≤ 8) (hv : IsOps m v l) (ho : ∀ o ∈ l, OpR o) {k : Bool → Mem → Prop} (hk : k false m) : F43 v (.flat (.func (.func 44) #[] #[])) m k := by
  unfold F43
  unfold F84
  rw [hv.len]
  have loop : ∀ (j i : Nat), i + j = l.length → L84_2 v (.flat (.func (.func 44) #[] #[])) l.length (j + 1) i m (fun m11 => k (decide ((-1 : Int) ≥ 0)) m11) (fun x12 m13 => k (decide (x12 ≥ 0)) m13) := by
    intro j
    induction j with
    | zero =>
      intro i e
      show R84_2 _ _ _ _ _ _ _ _
      unfold R84_2
      exact kif_f (by simp; omega) hk
    | succ j ih =>
      intro i e
      show R84_2 _ _ _ _ _ _ _ _
      unfold R84_2
      rw [wrap64 (n := (i : Int) + 1) (by omega) (by omega)]
      refine kif_t (by simp; omega) (hv.ld i (by omega) fun c hc => ?_)
      dsimp only [kfunv]
      rw [e_run1]
      dsimp only [kbool]
      unfold F44
      refine newK_i fun b m1 hb K1 e1 O1 => ?_
      rw [ldG_of e1 (by simp)]
      obtain ⟨a0, a1, a2, a3, a4⟩ := hc
      refine ir_right (c := sub c 0 5) (o := l[i]) (by refine ⟨?_, ?_, ?_, ?_, ?_⟩; exact a0; exact a1; exact a2; exact a3; exact a4) (ho _ (List.getElem_mem _)) ?_
      refine ⟨K1, ?_⟩
      exact kif_f rfl (ih (i + 1) (by omega))
  exact ⟨l.length + 1, loop l.length 0 (by omega)⟩
end
end Go.Proofs.YtkgidjnaddjjbaaGreat.Am
