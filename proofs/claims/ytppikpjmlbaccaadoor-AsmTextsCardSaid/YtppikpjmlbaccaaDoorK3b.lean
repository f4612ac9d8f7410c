/- Package decode over the abstract machine. Conditions: instructions are plain data. -/
import Derived.Test.YtppikpjmlbaccaaDoorK3b1
namespace Go.Proofs.YtppikpjmlbaccaaDoor.Am
set_option linter.unusedVariables false
set_option linter.unusedSimpArgs false
set_option maxRecDepth 100000

/-! ### instructions in cells and in boxes -/
def InC (c : Nat → AV) (x : In) : Prop := c 0 = .flat (.int .i64 x.k) ∧ c 1 = .flat (.int .i64 x.s) ∧ c 2 = .flat (.int .i64 x.t) ∧ c 3 = .flat (.int .i64 x.d) ∧ c 4 = .flat (.int .i64 x.h) ∧ c 5 = .flat (.int .u32 x.i)
def InB (m : Mem) (b : Nat) (x : In) : Prop := ∃ y, m.obj b = some y ∧ y.n = 6 ∧ y.ro = false ∧ InC y.c x
section
variable {m m' : Mem} {b b' : Nat} {x y : In} {c d : Nat → AV}
theorem InB.keep (h : InB m b x) (K : Keeps m m') : InB m' b x := by
  obtain ⟨z, e, r⟩ := h; exact ⟨z, by rw [K b (by rw [e]; simp)]; exact e, r⟩
theorem InB.only (h : InB m b x) (O : Only m b' m') (hne : b ≠ b') : InB m' b x := by
  obtain ⟨z, e, r⟩ := h; exact ⟨z, by rw [O b hne]; exact e, r⟩
theorem InB.live (h : InB m b x) : m.obj b ≠ none := by obtain ⟨z, e, r⟩ := h; rw [e]; simp
theorem InB.l0 (h : InB m b x) (k : Int → Prop) : ldI .i64 m b 0 k = k x.k := by obtain ⟨z, e, n, r, h0, h1, h2, h3, h4, h5⟩ := h; exact ldI_of e (by omega) h0
theorem InB.l1 (h : InB m b x) (k : Int → Prop) : ldI .i64 m b 1 k = k x.s := by obtain ⟨z, e, n, r, h0, h1, h2, h3, h4, h5⟩ := h; exact ldI_of e (by omega) h1
theorem InB.l2 (h : InB m b x) (k : Int → Prop) : ldI .i64 m b 2 k = k x.t := by obtain ⟨z, e, n, r, h0, h1, h2, h3, h4, h5⟩ := h; exact ldI_of e (by omega) h2
theorem InB.l3 (h : InB m b x) (k : Int → Prop) : ldI .i64 m b 3 k = k x.d := by obtain ⟨z, e, n, r, h0, h1, h2, h3, h4, h5⟩ := h; exact ldI_of e (by omega) h3
theorem InB.l4 (h : InB m b x) (k : Int → Prop) : ldI .i64 m b 4 k = k x.h := by obtain ⟨z, e, n, r, h0, h1, h2, h3, h4, h5⟩ := h; exact ldI_of e (by omega) h4
theorem InB.l5 (h : InB m b x) (k : Int → Prop) : ldI .u32 m b 5 k = k x.i := by obtain ⟨z, e, n, r, h0, h1, h2, h3, h4, h5⟩ := h; exact ldI_of e (by omega) h5
theorem InB.lg (h : InB m b x) {k : (Nat → AV) → Prop} (hk : ∀ c, InC c x → k c) : ldG 6 m b 0 k := by
  obtain ⟨z, e, n, r, h⟩ := h
  rw [ldG_of e (by omega)]
  exact hk _ h
theorem InB.st {o : Nat} {v : AV} (h : InB m b x) (ho : o < 6) (hy : ∀ z, InC z x → InC (upd z o v) y) {k : Mem → Prop} (hk : ∀ m', InB m' b y → Only m b m' → k m') : stC m b o v k := by
  obtain ⟨z, e, n, r, h⟩ := h
  rw [stC_of e r (by omega)]
  exact hk _ ⟨_, set_same _ _ _, n, r, hy _ h⟩ (Only.set _ _ _)
theorem InB.s1 (h : InB m b x) {v : Int} {k : Mem → Prop} (hk : ∀ m', InB m' b { x with s := v } → Only m b m' → k m') : stC m b 1 (.flat (.int .i64 v)) k := InB.st (y := { x with s := v }) (v := .flat (.int .i64 v)) (o := 1) h (by omega) (fun z h => ⟨h.1, rfl, h.2.2.1, h.2.2.2.1, h.2.2.2.2.1, h.2.2.2.2.2⟩) hk
theorem InB.s2 (h : InB m b x) {v : Int} {k : Mem → Prop} (hk : ∀ m', InB m' b { x with t := v } → Only m b m' → k m') : stC m b 2 (.flat (.int .i64 v)) k := InB.st (y := { x with t := v }) (v := .flat (.int .i64 v)) (o := 2) h (by omega) (fun z h => ⟨h.1, h.2.1, rfl, h.2.2.2.1, h.2.2.2.2.1, h.2.2.2.2.2⟩) hk
theorem InB.s3 (h : InB m b x) {v : Int} {k : Mem → Prop} (hk : ∀ m', InB m' b { x with d := v } → Only m b m' → k m') : stC m b 3 (.flat (.int .i64 v)) k := InB.st (y := { x with d := v }) (v := .flat (.int .i64 v)) (o := 3) h (by omega) (fun z h => ⟨h.1, h.2.1, h.2.2.1, rfl, h.2.2.2.2.1, h.2.2.2.2.2⟩) hk
theorem InB.s4 (h : InB m b x) {v : Int} {k : Mem → Prop} (hk : ∀ m', InB m' b { x with h := v } → Only m b m' → k m') : stC m b 4 (.flat (.int .i64 v)) k := InB.st (y := { x with h := v }) (v := .flat (.int .i64 v)) (o := 4) h (by omega) (fun z h => ⟨h.1, h.2.1, h.2.2.1, h.2.2.2.1, rfl, h.2.2.2.2.2⟩) hk
theorem InB.s5 (h : InB m b x) {v : Int} {k : Mem → Prop} (hk : ∀ m', InB m' b { x with i := v } → Only m b m' → k m') : stC m b 5 (.flat (.int .u32 v)) k := InB.st (y := { x with i := v }) (v := .flat (.int .u32 v)) (o := 5) h (by omega) (fun z h => ⟨h.1, h.2.1, h.2.2.1, h.2.2.2.1, h.2.2.2.2.1, rfl⟩) hk
theorem InB.sg (h : InB m b x) (hc : InC c y) {k : Mem → Prop} (hk : ∀ m', InB m' b y → Only m b m' → k m') : stG 6 m b 0 c k := by
  obtain ⟨z, e, n, r, h⟩ := h
  rw [stG_of e r (by omega)]
  exact hk _ ⟨_, set_same _ _ _, n, r, hc.1, hc.2.1, hc.2.2.1, hc.2.2.2.1, hc.2.2.2.2.1, hc.2.2.2.2.2⟩ (Only.set _ _ _)
/-- a box of an instruction that is handed in -/
theorem newI {t : TypeId} (hc : InC c x) {k : Nat → Mem → Prop} (hk : ∀ b m', m.obj b = none → Keeps m m' → InB m' b x → Only m b m' → k b m') : newK m ⟨6, c, t, false⟩ k :=
  newK_i fun b m1 hb K e O => hk b m1 hb K ⟨_, e, rfl, rfl, hc⟩ O
theorem newZ {t : TypeId} {z : Nat → AV} (hz : InC z ⟨0, 0, 0, 0, 0, 0⟩) {k : Nat → Mem → Prop} (hk : ∀ b m', m.obj b = none → Keeps m m' → InB m' b ⟨0, 0, 0, 0, 0, 0⟩ → Only m b m' → k b m') : newK m ⟨6, z, t, false⟩ k := newI hz hk
/-- a box that is made, then filled -/
theorem newF {t : TypeId} {z : Nat → AV} (hc : InC c x) {k : Nat → Mem → Prop} (hk : ∀ b m', m.obj b = none → Keeps m m' → InB m' b x → k b m') : newK m ⟨6, z, t, false⟩ fun b m1 => stG 6 m1 b 0 c fun m2 => k b m2 :=
  boxN fun b m' y hb K ey hn hr hyc => hk b m' hb K ⟨y, ey, hn, hr, (hyc 0 (by omega)).trans hc.1, (hyc 1 (by omega)).trans hc.2.1, (hyc 2 (by omega)).trans hc.2.2.1, (hyc 3 (by omega)).trans hc.2.2.2.1, (hyc 4 (by omega)).trans hc.2.2.2.2.1, (hyc 5 (by omega)).trans hc.2.2.2.2.2⟩
theorem InC.inDom (h : InC c x) (m : Mem) : InDomG 6 m c := fun i hi => by
  obtain ⟨h0, h1, h2, h3, h4, h5⟩ := h
  have : i = 0 ∨ i = 1 ∨ i = 2 ∨ i = 3 ∨ i = 4 ∨ i = 5 := by omega
  rcases this with rfl | rfl | rfl | rfl | rfl | rfl
  · rw [h0]; trivial
  · rw [h1]; trivial
  · rw [h2]; trivial
  · rw [h3]; trivial
  · rw [h4]; trivial
  · rw [h5]; trivial
theorem z6_in : InC Z6 ⟨0, 0, 0, 0, 0, 0⟩ := ⟨rfl, rfl, rfl, rfl, rfl, rfl⟩
def inLeafs : List (Nat × LK) := [(0, .i .i64), (1, .i .i64), (2, .i .i64), (3, .i .i64), (4, .i .i64), (5, .i .u32)]
theorem geq_in (h : InC c x) (h' : InC d y) (ls : List (Nat × LK)) (hl : ls = inLeafs) (k : Bool → Prop) : geq ls c d k = k (decide (x = y)) := by
  subst hl
  obtain ⟨a0, a1, a2, a3, a4, a5⟩ := h
  obtain ⟨b0, b1, b2, b3, b4, b5⟩ := h'
  unfold geq inLeafs
  simp only [List.all_cons, List.all_nil, a0, a1, a2, a3, a4, a5, b0, b1, b2, b3, b4, b5, LK.fits, AV.same, Bool.and_true, decide_true, Bool.true_and]
  congr 1
  rw [Bool.eq_iff_iff]
  simp only [decide_eq_true_eq, Bool.and_eq_true]
  constructor
  · intro h
    cases x; cases y
    simp at h
    simp [h]
  · rintro rfl; simp
end

section
variable {m : Mem} {c : Nat → AV} {x : In}
theorem put_spec (h : InC c x) {k : Int → Mem → Prop} (hk : k (putS x) m) : F29 c m k := by
  unfold F29
  refine newI h fun b m1 hb K i O => ?_
  rw [i.l1, i.l2, i.l3, i.l4, i.l5]
  exact ⟨K, hk⟩

theorem nat_of {n : Int} {p : Nat} (h0 : 0 ≤ n) (h1 : n < p) : ∃ j : Nat, n = j ∧ j < p := ⟨n.toNat, by omega, by omega⟩
theorem fields_spec {n : Int} (h0 : 0 ≤ n) (h1 : n < 78) {k : Int → Mem → Prop} (hk : k (fl n) m) : F46 n m k := by
  obtain ⟨j, rfl, hj⟩ := nat_of (p := 78) h0 (by omega)
  exact fields_at j hj hk

theorem fdiv_w (w d : Int) (hd : 0 ≤ d) : w.fdiv d = w / d := Int.fdiv_eq_ediv_of_nonneg _ hd
theorem and31 (w : Int) (h0 : 0 ≤ w) (h1 : w < 4294967296) : bits .and .u32 w 31 = w % 32 := by have := and_ones w h0 h1 5 (by decide); simpa using this
theorem and63 (w : Int) (h0 : 0 ≤ w) (h1 : w < 4294967296) : bits .and .u32 w 63 = w % 64 := by have := and_ones w h0 h1 6 (by decide); simpa using this
theorem and16 (w : Int) (h0 : 0 ≤ w) (h1 : w < 4294967296) : bits .and .u32 w 65535 = w % 65536 := by have := and_ones w h0 h1 16 (by decide); simpa using this
theorem and26 (w : Int) (h0 : 0 ≤ w) (h1 : w < 4294967296) : bits .and .u32 w 67108863 = w % 67108864 := by have := and_ones w h0 h1 26 (by decide); simpa using this

theorem with_spec {n w : Int} (h0 : 0 ≤ n) (h1 : n < 78) (w0 : 0 ≤ w) (w1 : w < 4294967296) {k : (Nat → AV) → Mem → Prop} (hk : ∀ c, InC c (withS n w) → k c m) : F39 n w m k := by
  unfold F39
  refine newZ z6_in fun b m1 hb K1 i1 O1 => ?_
  refine newF (x := ⟨n, 0, 0, 0, 0, 0⟩) ⟨rfl, rfl, rfl, rfl, rfl, rfl⟩ fun b4 m5 hb4 K5 i4 => fields_spec h0 h1 ?_
  have hne : b ≠ b4 := fun e => by subst e; exact i1.live hb4
  have hb4' : m.obj b4 = none := newK_none K1 hb4
  have i5 := i1.keep K5
  have K : Keeps m m5 := K1.trans K5
  -- the end
  have fin : ∀ m1, InB m1 b (withS n w) → Keeps m m1 → (ldG 6 m1 b 0 fun c28 => (Keeps m m1 ∧ InDomG 6 m c28 ∧ k c28 m)) := fun m1 i K => i.lg fun c hc => ⟨K, hc.inDom m, hk c hc⟩
  have last : ∀ m1 (y : In), InB m1 b ⟨0, 0, 0, 0, 0, 0⟩ → InB m1 b4 y → Keeps m m1 → y = withS n w → (ldG 6 m1 b4 0 fun c14 => stG 6 m1 b 0 c14 fun m15 => (ldG 6 m15 b 0 fun c28 => (Keeps m m15 ∧ InDomG 6 m c28 ∧ k c28 m))) := fun m1 y i i' K e => by
    subst e
    exact i'.lg fun c hc => i.sg hc fun m2 i2 o2 => fin m2 i2 (Only.keeps K hb o2)
  have p5 : ∀ m1 (a1 a2 a3 a4 : Int), InB m1 b ⟨0, 0, 0, 0, 0, 0⟩ → InB m1 b4 ⟨n, a1, a2, a3, a4, 0⟩ → Keeps m m1 → (withS n w).s = a1 → (withS n w).t = a2 → (withS n w).d = a3 → (withS n w).h = a4 →
      P39_11105 w b 0 b4 0 (fl n) m1 fun m26 => (ldG 6 m26 b 0 fun c28 => (Keeps m m26 ∧ InDomG 6 m c28 ∧ k c28 m)) := fun m1 a1 a2 a3 a4 i i' K e1 e2 e3 e4 => by
    unfold P39_11105
    simp only [Nat.zero_add]
    have em : ∀ v, (withS n w).i = v → (⟨n, a1, a2, a3, a4, v⟩ : In) = withS n w := fun v hv => by
      subst e1 e2 e3 e4 hv; rfl
    refine kif_c _ (fun c => ?_) fun c => kif_c _ (fun c2 => ?_) fun c2 => ?_
    · rw [and16 w w0 w1]
      exact i'.s5 fun m2 i2 o2 => last m2 _ (i.only o2 hne) i2 (Only.keeps K hb4' o2) (em _ (by unfold withS; exact if_pos c))
    · rw [and26 w w0 w1]
      exact i'.s5 fun m2 i2 o2 => last m2 _ (i.only o2 hne) i2 (Only.keeps K hb4' o2) (em _ (by
        unfold withS; dsimp only
        rw [if_neg (by show ¬ hasM (fl n) 16 = true; unfold hasM; rw [c]; simp)]; exact if_pos c2))
    · exact last m1 _ i i' K (em _ (by
        unfold withS; dsimp only
        rw [if_neg (by show ¬ hasM (fl n) 16 = true; unfold hasM; rw [c]; simp)]; exact if_neg (by show ¬ hasM (fl n) 32 = true; unfold hasM; rw [c2]; simp)))
  have p4 : ∀ m1 (a1 a2 a3 : Int), InB m1 b ⟨0, 0, 0, 0, 0, 0⟩ → InB m1 b4 ⟨n, a1, a2, a3, 0, 0⟩ → Keeps m m1 → (withS n w).s = a1 → (withS n w).t = a2 → (withS n w).d = a3 →
      P39_9103 w b 0 b4 0 (fl n) m1 fun m26 => (ldG 6 m26 b 0 fun c28 => (Keeps m m26 ∧ InDomG 6 m c28 ∧ k c28 m)) := fun m1 a1 a2 a3 i i' K e1 e2 e3 => by
    unfold P39_9103
    simp only [Nat.zero_add]
    refine kif_c _ (fun c => ?_) fun c => ?_
    · rw [fdiv_w w _ (by decide), and31 _ (by omega) (by omega), wrap64 (by omega) (by omega)]
      exact i'.s4 fun m2 i2 o2 => p5 m2 a1 a2 a3 _ (i.only o2 hne) i2 (Only.keeps K hb4' o2) e1 e2 e3 (by unfold withS; exact if_pos c)
    · exact p5 m1 a1 a2 a3 0 i i' K e1 e2 e3 (by unfold withS; exact if_neg (by show ¬ hasM (fl n) 8 = true; unfold hasM; rw [c]; simp))
  have p3 : ∀ m1 (a1 a2 : Int), InB m1 b ⟨0, 0, 0, 0, 0, 0⟩ → InB m1 b4 ⟨n, a1, a2, 0, 0, 0⟩ → Keeps m m1 → (withS n w).s = a1 → (withS n w).t = a2 →
      P39_7103 w b 0 b4 0 (fl n) m1 fun m26 => (ldG 6 m26 b 0 fun c28 => (Keeps m m26 ∧ InDomG 6 m c28 ∧ k c28 m)) := fun m1 a1 a2 i i' K e1 e2 => by
    unfold P39_7103
    simp only [Nat.zero_add]
    refine kif_c _ (fun c => ?_) fun c => ?_
    · rw [fdiv_w w _ (by decide), and31 _ (by omega) (by omega), wrap64 (by omega) (by omega)]
      exact i'.s3 fun m2 i2 o2 => p4 m2 a1 a2 _ (i.only o2 hne) i2 (Only.keeps K hb4' o2) e1 e2 (by unfold withS; exact if_pos c)
    · exact p4 m1 a1 a2 0 i i' K e1 e2 (by unfold withS; exact if_neg (by show ¬ hasM (fl n) 4 = true; unfold hasM; rw [c]; simp))
  have p2 : ∀ m1 (a1 : Int), InB m1 b ⟨0, 0, 0, 0, 0, 0⟩ → InB m1 b4 ⟨n, a1, 0, 0, 0, 0⟩ → Keeps m m1 → (withS n w).s = a1 →
      P39_5103 w b 0 b4 0 (fl n) m1 fun m26 => (ldG 6 m26 b 0 fun c28 => (Keeps m m26 ∧ InDomG 6 m c28 ∧ k c28 m)) := fun m1 a1 i i' K e1 => by
    unfold P39_5103
    simp only [Nat.zero_add]
    refine kif_c _ (fun c => ?_) fun c => ?_
    · rw [fdiv_w w _ (by decide), and31 _ (by omega) (by omega), wrap64 (by omega) (by omega)]
      exact i'.s2 fun m2 i2 o2 => p3 m2 a1 _ (i.only o2 hne) i2 (Only.keeps K hb4' o2) e1 (by unfold withS; exact if_pos c)
    · exact p3 m1 a1 0 i i' K e1 (by unfold withS; exact if_neg (by show ¬ hasM (fl n) 2 = true; unfold hasM; rw [c]; simp))
  refine kif_c _ (fun c => ?_) fun c => ?_
  · rw [fdiv_w w _ (by decide), and31 _ (by omega) (by omega), wrap64 (by omega) (by omega)]
    exact i4.s1 fun m2 i2 o2 => p2 m2 _ (i5.only o2 hne) i2 (Only.keeps K hb4' o2) (by unfold withS; exact if_pos c)
  · exact p2 m5 0 i5 i4 K (by unfold withS; exact if_neg (by show ¬ hasM (fl n) 1 = true; unfold hasM; rw [c]; simp))

/-! ### kinds -/
theorem kind_spec {w : Int} (w0 : 0 ≤ w) (w1 : w < 4294967296) {k : Int → Mem → Prop} (hk : k (kindOf w) m) : F40 w m k := by
  unfold F40
  rw [fdiv_w w 67108864 (by decide), fdiv_w w 65536 (by decide), and63 w w0 w1, and31 _ (by omega) (by omega)]
  unfold kindOf subOf at hk
  refine kif_c _ (fun c => ?_) fun c => ?_
  · have c : w / 67108864 = 0 := by simpa using c
    rw [c, if_pos (by omega)] at hk
    obtain ⟨j, e, hj⟩ := nat_of (n := w % 64) (p := 64) (by omega) (by omega)
    rw [e, kt0_eq j hj] at hk
    rw [e]
    exact special_at j hj ⟨Keeps.self m, hk⟩
  have c : ¬ w / 67108864 = 0 := by simpa using c
  refine kif_c _ (fun c1 => ?_) fun c1 => ?_
  · have c1 : w / 67108864 = 1 := by simpa using c1
    rw [c1, if_neg (by omega), if_pos rfl] at hk
    obtain ⟨j, e, hj⟩ := nat_of (n := w / 65536 % 32) (p := 32) (by omega) (by omega)
    rw [e, kt1_eq j hj] at hk
    rw [e]
    exact regimm_at j hj ⟨Keeps.self m, hk⟩
  have c1 : ¬ w / 67108864 = 1 := by simpa using c1
  refine kif_c _ (fun c2 => ?_) fun c2 => ?_
  · have c2 : w / 67108864 = 16 := by simpa using c2
    rw [c2, if_neg (by omega), if_neg (by omega), if_pos rfl] at hk
    unfold F49
    rw [fdiv_w w 2097152 (by decide), and31 _ (by omega) (by omega), and63 w w0 w1]
    obtain ⟨s, es, hs⟩ := nat_of (n := w / 2097152 % 32) (p := 32) (by omega) (by omega)
    rw [es] at hk ⊢
    by_cases h16 : s = 16
    · subst h16
      rw [if_pos (by decide)] at hk
      obtain ⟨j, e, hj⟩ := nat_of (n := w % 64) (p := 64) (by omega) (by omega)
      rw [e, kt16f_eq j hj] at hk
      rw [e]
      exact kif_f (by decide) (kif_f (by decide) (kif_t (by decide) (table_at j hj ⟨Keeps.self m, Keeps.self m, hk⟩)))
    · rw [if_neg (by omega), kt16_eq s hs] at hk
      refine kif_c _ (fun q => ?_) fun q => kif_c _ (fun q1 => ?_) fun q1 => kif_f (by simp; omega) ?_
      · have : s = 0 := by simp at q; omega
        subst this; exact ⟨Keeps.self m, Keeps.self m, hk⟩
      · have : s = 4 := by simp at q1; omega
        subst this; exact ⟨Keeps.self m, Keeps.self m, hk⟩
      · have q : s ≠ 0 := by simp at q; omega
        have q1 : s ≠ 4 := by simp at q1; omega
        have z : KT16.getD s 0 = 0 := by
          have : ∀ s, s < 32 → s ≠ 0 → s ≠ 4 → KT16.getD s 0 = 0 := by decide
          exact this s hs q q1
        rw [z] at hk
        exact ⟨Keeps.self m, Keeps.self m, hk⟩
  have c2 : ¬ w / 67108864 = 16 := by simpa using c2
  refine kif_c _ (fun c3 => ?_) fun c3 => ?_
  · have c3 : w / 67108864 = 28 := by simpa using c3
    rw [c3, if_pos (by omega)] at hk
    obtain ⟨j, e, hj⟩ := nat_of (n := w % 64) (p := 64) (by omega) (by omega)
    rw [e, kt28_eq j hj] at hk
    rw [e]
    exact special2_at j hj ⟨Keeps.self m, hk⟩
  have c3 : ¬ w / 67108864 = 28 := by simpa using c3
  rw [if_neg (by omega), if_neg c1, if_neg c2] at hk
  obtain ⟨j, e, hj⟩ := nat_of (n := w / 67108864) (p := 64) (by omega) (by omega)
  rw [e] at hk c c1 c2 c3 ⊢
  rw [ktm_eq j hj (by omega) (by omega) (by omega) (by omega)] at hk
  exact major_at j hj ⟨Keeps.self m, hk⟩

theorem kt_rng : ∀ op sub : Int, 0 ≤ kt op sub ∧ kt op sub < 78 := by
  have key : ∀ (l : List Row), (l.all fun r => decide (0 ≤ r.kd) && decide (r.kd < 78)) = true → ∀ (p : Row → Bool) (r : Row), l.find? p = some r → 0 ≤ r.kd ∧ r.kd < 78 := by
    intro l hl p r hr
    have := List.all_eq_true.1 hl r (List.mem_of_find?_eq_some hr)
    simpa using this
  intro op sub
  unfold kt rowAt rowsOf
  split
  · rename_i r hr
    split at hr
    · exact key T0 (by decide +kernel) _ r hr
    · split at hr
      · exact key T2 (by decide +kernel) _ r hr
      · exact key T1 (by decide +kernel) _ r hr
  · omega
end
end Go.Proofs.YtppikpjmlbaccaaDoor.Am
