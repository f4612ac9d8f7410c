/- The small functions of package decode at each number, printed by wip/am/gen3b.py. Conditions: none. Package decode over the abstract machine. Conditions: instructions are plain data. decode.Right, head, Word, Class, and the reference's Class, printed by wip/am -/
import Derived.Test.YtkiggdgphbkneaaGreatTopDiskX21
namespace Go.Proofs.YtkiggdgphbkneaaGreat.Am
set_option linter.unusedVariables false
set_option linter.unusedSimpArgs false
set_option maxRecDepth 100000
theorem zXs {m : Mem} {k : Int -> Mem -> Prop} : ∀ n : Nat, n < 78 -> k (aH.getD n 0) m -> yJg n m k := by
 intro n hn hk
 iterate 78
  rcases n with _ | n
  ·(repeat (first | refine zG (by decide) ?_ | refine zB (by decide) ?_ | refine ⟨zA.self _, ?_⟩)); exact hk
 omega
theorem zTm {m : Mem} {k : Int -> Mem -> Prop} : ∀ n : Nat, n < 64 -> k (KT0.getD n 0) m -> yQz n m k := by
 intro n hn hk
 iterate 64
  rcases n with _ | n
  ·(repeat (first | refine zG (by decide) ?_ | refine zB (by decide) ?_ | refine ⟨zA.self _, ?_⟩)); exact hk
 omega
theorem zWz {m : Mem} {k : Int -> Mem -> Prop} : ∀ n : Nat, n < 32 -> k (KT1.getD n 0) m -> yOe n m k := by
 intro n hn hk
 iterate 32
  rcases n with _ | n
  ·(repeat (first | refine zG (by decide) ?_ | refine zB (by decide) ?_ | refine ⟨zA.self _, ?_⟩)); exact hk
 omega
theorem yBi {m : Mem} {k : Int -> Mem -> Prop} : ∀ n : Nat, n < 64 -> k (yN3.getD n 0) m -> yPo n m k := by
 intro n hn hk
 iterate 64
  rcases n with _ | n
  ·(repeat (first | refine zG (by decide) ?_ | refine zB (by decide) ?_ | refine ⟨zA.self _, ?_⟩)); exact hk
 omega
theorem zM8 {m : Mem} {k : Int -> Mem -> Prop} : ∀ n : Nat, n < 64 -> k (yVn.getD n 0) m -> yOz n m k := by
 intro n hn hk
 iterate 64
  rcases n with _ | n
  ·(repeat (first | refine zG (by decide) ?_ | refine zB (by decide) ?_ | refine ⟨zA.self _, ?_⟩)); exact hk
 omega
theorem yDz {m : Mem} {k : Int -> Mem -> Prop} : ∀ n : Nat, n < 64 -> k (KTM.getD n 0) m -> yQl n m k := by
 intro n hn hk
 iterate 64
  rcases n with _ | n
  ·(repeat (first | refine zG (by decide) ?_ | refine zB (by decide) ?_ | refine ⟨zA.self _, ?_⟩)); exact hk
 omega
def tQ (c : Nat -> AV) (x : In) : Prop := c 0 = .flat (.int .i64 x.k) /\ c 1 = .flat (.int .i64 x.s) /\ c 2 = .flat (.int .i64 x.t) /\ c 3 = .flat (.int .i64 x.d) /\ c 4 = .flat (.int .i64 x.h) /\ c 5 = .flat (.int .u32 x.i)
def vL (m : Mem) (b : Nat) (x : In) : Prop := ∃ y, m.obj b = some y /\ y.n = 6 /\ y.ro = false /\ tQ y.c x
section
variable {m m' : Mem} {b b' : Nat} {x y : In} {c d : Nat -> AV}
theorem vL.keep (h : vL m b x) (K : zA m m') : vL m' b x := by
 obtain ⟨z, e, r⟩ := h; exact ⟨z, by rw [K b (by rw [e]; simp)]; exact e, r⟩
theorem vL.only (h : vL m b x) (O : yC m b' m') (hne : b ≠ b') : vL m' b x := by
 obtain ⟨z, e, r⟩ := h; exact ⟨z, by rw [O b hne]; exact e, r⟩
theorem vL.live (h : vL m b x) : m.obj b ≠ none := by obtain ⟨z, e, r⟩ := h; rw [e]; simp
theorem vL.l0 (h : vL m b x) (k : Int -> Prop) : zR .i64 m b 0 k = k x.k := by obtain ⟨z, e, n, r, h0, h1, h2, h3, h4, h5⟩ := h; exact yW e (by omega) h0
theorem vL.l1 (h : vL m b x) (k : Int -> Prop) : zR .i64 m b 1 k = k x.s := by obtain ⟨z, e, n, r, h0, h1, h2, h3, h4, h5⟩ := h; exact yW e (by omega) h1
theorem vL.l2 (h : vL m b x) (k : Int -> Prop) : zR .i64 m b 2 k = k x.t := by obtain ⟨z, e, n, r, h0, h1, h2, h3, h4, h5⟩ := h; exact yW e (by omega) h2
theorem vL.l3 (h : vL m b x) (k : Int -> Prop) : zR .i64 m b 3 k = k x.d := by obtain ⟨z, e, n, r, h0, h1, h2, h3, h4, h5⟩ := h; exact yW e (by omega) h3
theorem vL.l4 (h : vL m b x) (k : Int -> Prop) : zR .i64 m b 4 k = k x.h := by obtain ⟨z, e, n, r, h0, h1, h2, h3, h4, h5⟩ := h; exact yW e (by omega) h4
theorem vL.l5 (h : vL m b x) (k : Int -> Prop) : zR .u32 m b 5 k = k x.i := by obtain ⟨z, e, n, r, h0, h1, h2, h3, h4, h5⟩ := h; exact yW e (by omega) h5
theorem vL.lg (h : vL m b x) {k : (Nat -> AV) -> Prop} (hk : ∀ c, tQ c x -> k c) : yN 6 m b 0 k := by
 obtain ⟨z, e, n, r, h⟩ := h
 rw [xH e (by omega)]
 exact hk _ h
theorem vL.st {o : Nat} {v : AV} (h : vL m b x) (ho : o < 6) (hy : ∀ z, tQ z x -> tQ (upd z o v) y) {k : Mem -> Prop} (hk : ∀ m', vL m' b y -> yC m b m' -> k m') : wF m b o v k := by
 obtain ⟨z, e, n, r, h⟩ := h
 rw [oO e r (by omega)]
 exact hk _ ⟨_, zL _ _ _, n, r, hy _ h⟩ (yC.set _ _ _)
theorem vL.s1 (h : vL m b x) {v : Int} {k : Mem -> Prop} (hk : ∀ m', vL m' b { x with s := v } -> yC m b m' -> k m') : wF m b 1 (.flat (.int .i64 v)) k := vL.st (y := { x with s := v }) (v := .flat (.int .i64 v)) (o := 1) h (by omega) (fun z h => ⟨h.1, rfl, h.2.2.1, h.2.2.2.1, h.2.2.2.2.1, h.2.2.2.2.2⟩) hk
theorem vL.s2 (h : vL m b x) {v : Int} {k : Mem -> Prop} (hk : ∀ m', vL m' b { x with t := v } -> yC m b m' -> k m') : wF m b 2 (.flat (.int .i64 v)) k := vL.st (y := { x with t := v }) (v := .flat (.int .i64 v)) (o := 2) h (by omega) (fun z h => ⟨h.1, h.2.1, rfl, h.2.2.2.1, h.2.2.2.2.1, h.2.2.2.2.2⟩) hk
theorem vL.s3 (h : vL m b x) {v : Int} {k : Mem -> Prop} (hk : ∀ m', vL m' b { x with d := v } -> yC m b m' -> k m') : wF m b 3 (.flat (.int .i64 v)) k := vL.st (y := { x with d := v }) (v := .flat (.int .i64 v)) (o := 3) h (by omega) (fun z h => ⟨h.1, h.2.1, h.2.2.1, rfl, h.2.2.2.2.1, h.2.2.2.2.2⟩) hk
theorem vL.s4 (h : vL m b x) {v : Int} {k : Mem -> Prop} (hk : ∀ m', vL m' b { x with h := v } -> yC m b m' -> k m') : wF m b 4 (.flat (.int .i64 v)) k := vL.st (y := { x with h := v }) (v := .flat (.int .i64 v)) (o := 4) h (by omega) (fun z h => ⟨h.1, h.2.1, h.2.2.1, h.2.2.2.1, rfl, h.2.2.2.2.2⟩) hk
theorem vL.s5 (h : vL m b x) {v : Int} {k : Mem -> Prop} (hk : ∀ m', vL m' b { x with i := v } -> yC m b m' -> k m') : wF m b 5 (.flat (.int .u32 v)) k := vL.st (y := { x with i := v }) (v := .flat (.int .u32 v)) (o := 5) h (by omega) (fun z h => ⟨h.1, h.2.1, h.2.2.1, h.2.2.2.1, h.2.2.2.2.1, rfl⟩) hk
theorem vL.sg (h : vL m b x) (hc : tQ c y) {k : Mem -> Prop} (hk : ∀ m', vL m' b y -> yC m b m' -> k m') : vA 6 m b 0 c k := by
 obtain ⟨z, e, n, r, h⟩ := h
 rw [wR e r (by omega)]
 exact hk _ ⟨_, zL _ _ _, n, r, hc.1, hc.2.1, hc.2.2.1, hc.2.2.2.1, hc.2.2.2.2.1, hc.2.2.2.2.2⟩ (yC.set _ _ _)
theorem sO {t : TypeId} (hc : tQ c x) {k : Nat -> Mem -> Prop} (hk : ∀ b m', m.obj b = none -> zA m m' -> vL m' b x -> yC m b m' -> k b m') : zQ m ⟨6, c, t, false⟩ k :=
 zW fun b m1 hb K e O => hk b m1 hb K ⟨_, e, rfl, rfl, hc⟩ O
theorem yP8 {t : TypeId} {z : Nat -> AV} (hz : tQ z ⟨0, 0, 0, 0, 0, 0⟩) {k : Nat -> Mem -> Prop} (hk : ∀ b m', m.obj b = none -> zA m m' -> vL m' b ⟨0, 0, 0, 0, 0, 0⟩ -> yC m b m' -> k b m') : zQ m ⟨6, z, t, false⟩ k := sO hz hk
theorem zT2 {t : TypeId} {z : Nat -> AV} (hc : tQ c x) {k : Nat -> Mem -> Prop} (hk : ∀ b m', m.obj b = none -> zA m m' -> vL m' b x -> k b m') : zQ m ⟨6, z, t, false⟩ fun b m1 => vA 6 m1 b 0 c fun m2 => k b m2 :=
 kV fun b m' y hb K ey hn hr hyc => hk b m' hb K ⟨y, ey, hn, hr, (hyc 0 (by omega)).trans hc.1, (hyc 1 (by omega)).trans hc.2.1, (hyc 2 (by omega)).trans hc.2.2.1, (hyc 3 (by omega)).trans hc.2.2.2.1, (hyc 4 (by omega)).trans hc.2.2.2.2.1, (hyc 5 (by omega)).trans hc.2.2.2.2.2⟩
theorem tQ.inDom (h : tQ c x) (m : Mem) : xZ 6 m c := fun i hi => by
 obtain ⟨h0, h1, h2, h3, h4, h5⟩ := h
 have : i = 0 \/ i = 1 \/ i = 2 \/ i = 3 \/ i = 4 \/ i = 5 := by omega
 rcases this with rfl | rfl | rfl | rfl | rfl | rfl
 .rw [h0]; trivial
 .rw [h1]; trivial
 .rw [h2]; trivial
 .rw [h3]; trivial
 .rw [h4]; trivial
 .rw [h5]; trivial
theorem zWl : tQ Z6 ⟨0, 0, 0, 0, 0, 0⟩ := ⟨rfl, rfl, rfl, rfl, rfl, rfl⟩
def zVz : List (Nat × LK) := [(0, .i .i64), (1, .i .i64), (2, .i .i64), (3, .i .i64), (4, .i .i64), (5, .i .u32)]
theorem yQk (h : tQ c x) (h' : tQ d y) (ls : List (Nat × LK)) (hl : ls = zVz) (k : Bool -> Prop) : geq ls c d k = k (decide (x = y)) := by
 subst hl
 obtain ⟨a0, a1, a2, a3, a4, a5⟩ := h
 obtain ⟨b0, b1, b2, b3, b4, b5⟩ := h'
 unfold geq zVz
 simp only [List.all_cons, List.all_nil, a0, a1, a2, a3, a4, a5, b0, b1, b2, b3, b4, b5, LK.fits, AV.same, Bool.and_true, decide_true, Bool.true_and]
 congr 1
 rw [Bool.eq_iff_iff]
 simp only [decide_eq_true_eq, Bool.and_eq_true]
 constructor
 .intro h
  cases x; cases y
  simp at h
  simp [h]
 .rintro rfl; simp
end
section
variable {m : Mem} {c : Nat -> AV} {x : In}
theorem zUa (h : tQ c x) {k : Int -> Mem -> Prop} (hk : k (xG x) m) : yJ3 c m k := by
 unfold yJ3
 refine sO h fun b m1 hb K i O => ?_
 rw [i.l1, i.l2, i.l3, i.l4, i.l5]
 exact ⟨K, hk⟩
theorem oN {n : Int} {p : Nat} (h0 : 0 <= n) (h1 : n < p) : ∃ j : Nat, n = j /\ j < p := ⟨n.toNat, by omega, by omega⟩
theorem zMx {n : Int} (h0 : 0 <= n) (h1 : n < 78) {k : Int -> Mem -> Prop} (hk : k (fl n) m) : yJg n m k := by
 obtain ⟨j, rfl, hj⟩ := oN (p := 78) h0 (by omega)
 exact zXs j hj hk
theorem mH (w d : Int) (hd : 0 <= d) : w.fdiv d = w / d := Int.fdiv_eq_ediv_of_nonneg _ hd
theorem zFw (w : Int) (h0 : 0 <= w) (h1 : w < 4294967296) : bits .and .u32 w 31 = w % 32 := by have := wE w h0 h1 5 (by decide); simpa using this
theorem yLy (w : Int) (h0 : 0 <= w) (h1 : w < 4294967296) : bits .and .u32 w 63 = w % 64 := by have := wE w h0 h1 6 (by decide); simpa using this
theorem yTk (w : Int) (h0 : 0 <= w) (h1 : w < 4294967296) : bits .and .u32 w 65535 = w % 65536 := by have := wE w h0 h1 16 (by decide); simpa using this
theorem yYy (w : Int) (h0 : 0 <= w) (h1 : w < 4294967296) : bits .and .u32 w 67108863 = w % 67108864 := by have := wE w h0 h1 26 (by decide); simpa using this
theorem zG4 {n w : Int} (h0 : 0 <= n) (h1 : n < 78) (w0 : 0 <= w) (w1 : w < 4294967296) {k : (Nat -> AV) -> Mem -> Prop} (hk : ∀ c, tQ c (wJ n w) -> k c m) : yFj n w m k := by
 unfold yFj
 refine yP8 zWl fun b m1 hb K1 i1 O1 => ?_
 refine zT2 (x := ⟨n, 0, 0, 0, 0, 0⟩) ⟨rfl, rfl, rfl, rfl, rfl, rfl⟩ fun b4 m5 hb4 K5 i4 => zMx h0 h1 ?_
 have hne : b ≠ b4 := fun e => by subst e; exact i1.live hb4
 have hb4' : m.obj b4 = none := zX K1 hb4
 have i5 := i1.keep K5
 have K : zA m m5 := K1.trans K5
 -- the end
 have fin : ∀ m1, vL m1 b (wJ n w) -> zA m m1 -> (yN 6 m1 b 0 fun c28 => (zA m m1 /\ xZ 6 m c28 /\ k c28 m)) := fun m1 i K => i.lg fun c hc => ⟨K, hc.inDom m, hk c hc⟩
 have last : ∀ m1 (y : In), vL m1 b ⟨0, 0, 0, 0, 0, 0⟩ -> vL m1 b4 y -> zA m m1 -> y = wJ n w -> (yN 6 m1 b4 0 fun c14 => vA 6 m1 b 0 c14 fun m15 => (yN 6 m15 b 0 fun c28 => (zA m m15 /\ xZ 6 m c28 /\ k c28 m))) := fun m1 y i i' K e => by
  subst e
  exact i'.lg fun c hc => i.sg hc fun m2 i2 o2 => fin m2 i2 (yC.keeps K hb o2)
 have p5 : ∀ m1 (a1 a2 a3 a4 : Int), vL m1 b ⟨0, 0, 0, 0, 0, 0⟩ -> vL m1 b4 ⟨n, a1, a2, a3, a4, 0⟩ -> zA m m1 -> (wJ n w).s = a1 -> (wJ n w).t = a2 -> (wJ n w).d = a3 -> (wJ n w).h = a4 ->
   pO w b 0 b4 0 (fl n) m1 fun m26 => (yN 6 m26 b 0 fun c28 => (zA m m26 /\ xZ 6 m c28 /\ k c28 m)) := fun m1 a1 a2 a3 a4 i i' K e1 e2 e3 e4 => by
  unfold pO
  simp only [Nat.zero_add]
  have em : ∀ v, (wJ n w).i = v -> (⟨n, a1, a2, a3, a4, v⟩ : In) = wJ n w := fun v hv => by
   subst e1 e2 e3 e4 hv; rfl
  refine zD _ (fun c => ?_) fun c => zD _ (fun c2 => ?_) fun c2 => ?_
  .rw [yTk w w0 w1]
   exact i'.s5 fun m2 i2 o2 => last m2 _ (i.only o2 hne) i2 (yC.keeps K hb4' o2) (em _ (by unfold wJ; exact if_pos c))
  .rw [yYy w w0 w1]
   exact i'.s5 fun m2 i2 o2 => last m2 _ (i.only o2 hne) i2 (yC.keeps K hb4' o2) (em _ (by
    unfold wJ; dsimp only
    rw [if_neg (by show ¬ yA (fl n) 16 = true; unfold yA; rw [c]; simp)]; exact if_pos c2))
  .exact last m1 _ i i' K (em _ (by
    unfold wJ; dsimp only
    rw [if_neg (by show ¬ yA (fl n) 16 = true; unfold yA; rw [c]; simp)]; exact if_neg (by show ¬ yA (fl n) 32 = true; unfold yA; rw [c2]; simp)))
 have p4 : ∀ m1 (a1 a2 a3 : Int), vL m1 b ⟨0, 0, 0, 0, 0, 0⟩ -> vL m1 b4 ⟨n, a1, a2, a3, 0, 0⟩ -> zA m m1 -> (wJ n w).s = a1 -> (wJ n w).t = a2 -> (wJ n w).d = a3 ->
   nS w b 0 b4 0 (fl n) m1 fun m26 => (yN 6 m26 b 0 fun c28 => (zA m m26 /\ xZ 6 m c28 /\ k c28 m)) := fun m1 a1 a2 a3 i i' K e1 e2 e3 => by
  unfold nS
  simp only [Nat.zero_add]
  refine zD _ (fun c => ?_) fun c => ?_
  .rw [mH w _ (by decide), zFw _ (by omega) (by omega), zK (by omega) (by omega)]
   exact i'.s4 fun m2 i2 o2 => p5 m2 a1 a2 a3 _ (i.only o2 hne) i2 (yC.keeps K hb4' o2) e1 e2 e3 (by unfold wJ; exact if_pos c)
  .exact p5 m1 a1 a2 a3 0 i i' K e1 e2 e3 (by unfold wJ; exact if_neg (by show ¬ yA (fl n) 8 = true; unfold yA; rw [c]; simp))
 have p3 : ∀ m1 (a1 a2 : Int), vL m1 b ⟨0, 0, 0, 0, 0, 0⟩ -> vL m1 b4 ⟨n, a1, a2, 0, 0, 0⟩ -> zA m m1 -> (wJ n w).s = a1 -> (wJ n w).t = a2 ->
   oU w b 0 b4 0 (fl n) m1 fun m26 => (yN 6 m26 b 0 fun c28 => (zA m m26 /\ xZ 6 m c28 /\ k c28 m)) := fun m1 a1 a2 i i' K e1 e2 => by
  unfold oU
  simp only [Nat.zero_add]
  refine zD _ (fun c => ?_) fun c => ?_
  .rw [mH w _ (by decide), zFw _ (by omega) (by omega), zK (by omega) (by omega)]
   exact i'.s3 fun m2 i2 o2 => p4 m2 a1 a2 _ (i.only o2 hne) i2 (yC.keeps K hb4' o2) e1 e2 (by unfold wJ; exact if_pos c)
  .exact p4 m1 a1 a2 0 i i' K e1 e2 (by unfold wJ; exact if_neg (by show ¬ yA (fl n) 4 = true; unfold yA; rw [c]; simp))
 have p2 : ∀ m1 (a1 : Int), vL m1 b ⟨0, 0, 0, 0, 0, 0⟩ -> vL m1 b4 ⟨n, a1, 0, 0, 0, 0⟩ -> zA m m1 -> (wJ n w).s = a1 ->
   nL w b 0 b4 0 (fl n) m1 fun m26 => (yN 6 m26 b 0 fun c28 => (zA m m26 /\ xZ 6 m c28 /\ k c28 m)) := fun m1 a1 i i' K e1 => by
  unfold nL
  simp only [Nat.zero_add]
  refine zD _ (fun c => ?_) fun c => ?_
  .rw [mH w _ (by decide), zFw _ (by omega) (by omega), zK (by omega) (by omega)]
   exact i'.s2 fun m2 i2 o2 => p3 m2 a1 _ (i.only o2 hne) i2 (yC.keeps K hb4' o2) e1 (by unfold wJ; exact if_pos c)
  .exact p3 m1 a1 0 i i' K e1 (by unfold wJ; exact if_neg (by show ¬ yA (fl n) 2 = true; unfold yA; rw [c]; simp))
 refine zD _ (fun c => ?_) fun c => ?_
 .rw [mH w _ (by decide), zFw _ (by omega) (by omega), zK (by omega) (by omega)]
  exact i4.s1 fun m2 i2 o2 => p2 m2 _ (i5.only o2 hne) i2 (yC.keeps K hb4' o2) (by unfold wJ; exact if_pos c)
 .exact p2 m5 0 i5 i4 K (by unfold wJ; exact if_neg (by show ¬ yA (fl n) 1 = true; unfold yA; rw [c]; simp))
theorem zXc {w : Int} (w0 : 0 <= w) (w1 : w < 4294967296) {k : Int -> Mem -> Prop} (hk : k (jG w) m) : yJx w m k := by
 unfold yJx
 rw [mH w 67108864 (by decide), mH w 65536 (by decide), yLy w w0 w1, zFw _ (by omega) (by omega)]
 unfold jG zOf at hk
 refine zD _ (fun c => ?_) fun c => ?_
 .have c : w / 67108864 = 0 := by simpa using c
  rw [c, if_pos (by omega)] at hk
  obtain ⟨j, e, hj⟩ := oN (n := w % 64) (p := 64) (by omega) (by omega)
  rw [e, yQa j hj] at hk
  rw [e]
  exact zTm j hj ⟨zA.self m, hk⟩
 have c : ¬ w / 67108864 = 0 := by simpa using c
 refine zD _ (fun c1 => ?_) fun c1 => ?_
 .have c1 : w / 67108864 = 1 := by simpa using c1
  rw [c1, if_neg (by omega), if_pos rfl] at hk
  obtain ⟨j, e, hj⟩ := oN (n := w / 65536 % 32) (p := 32) (by omega) (by omega)
  rw [e, yP6 j hj] at hk
  rw [e]
  exact zWz j hj ⟨zA.self m, hk⟩
 have c1 : ¬ w / 67108864 = 1 := by simpa using c1
 refine zD _ (fun c2 => ?_) fun c2 => ?_
 .have c2 : w / 67108864 = 16 := by simpa using c2
  rw [c2, if_neg (by omega), if_neg (by omega), if_pos rfl] at hk
  unfold yPx
  rw [mH w 2097152 (by decide), zFw _ (by omega) (by omega), yLy w w0 w1]
  obtain ⟨s, es, hs⟩ := oN (n := w / 2097152 % 32) (p := 32) (by omega) (by omega)
  rw [es] at hk ⊢
  by_cases h16 : s = 16
  .subst h16
   rw [if_pos (by decide)] at hk
   obtain ⟨j, e, hj⟩ := oN (n := w % 64) (p := 64) (by omega) (by omega)
   rw [e, yB4 j hj] at hk
   rw [e]
   exact zB (by decide) (zB (by decide) (zG (by decide) (yBi j hj ⟨zA.self m, zA.self m, hk⟩)))
  .rw [if_neg (by omega), yJa s hs] at hk
   refine zD _ (fun q => ?_) fun q => zD _ (fun q1 => ?_) fun q1 => zB (by simp; omega) ?_
   .have : s = 0 := by simp at q; omega
    subst this; exact ⟨zA.self m, zA.self m, hk⟩
   .have : s = 4 := by simp at q1; omega
    subst this; exact ⟨zA.self m, zA.self m, hk⟩
   .have q : s ≠ 0 := by simp at q; omega
    have q1 : s ≠ 4 := by simp at q1; omega
    have z : yOa.getD s 0 = 0 := by
     have : ∀ s, s < 32 -> s ≠ 0 -> s ≠ 4 -> yOa.getD s 0 = 0 := by decide
     exact this s hs q q1
    rw [z] at hk
    exact ⟨zA.self m, zA.self m, hk⟩
 have c2 : ¬ w / 67108864 = 16 := by simpa using c2
 refine zD _ (fun c3 => ?_) fun c3 => ?_
 .have c3 : w / 67108864 = 28 := by simpa using c3
  rw [c3, if_pos (by omega)] at hk
  obtain ⟨j, e, hj⟩ := oN (n := w % 64) (p := 64) (by omega) (by omega)
  rw [e, yI0 j hj] at hk
  rw [e]
  exact zM8 j hj ⟨zA.self m, hk⟩
 have c3 : ¬ w / 67108864 = 28 := by simpa using c3
 rw [if_neg (by omega), if_neg c1, if_neg c2] at hk
 obtain ⟨j, e, hj⟩ := oN (n := w / 67108864) (p := 64) (by omega) (by omega)
 rw [e] at hk c c1 c2 c3 ⊢
 rw [yOi j hj (by omega) (by omega) (by omega) (by omega)] at hk
 exact yDz j hj ⟨zA.self m, hk⟩
theorem yQv : ∀ op sub : Int, 0 <= kt op sub /\ kt op sub < 78 := by
 have key : ∀ (l : List Row), (l.all fun r => decide (0 <= r.kd) && decide (r.kd < 78)) = true -> ∀ (p : Row -> Bool) (r : Row), l.find? p = some r -> 0 <= r.kd /\ r.kd < 78 := by
  intro l hl p r hr
  have := List.all_eq_true.1 hl r (List.mem_of_find?_eq_some hr)
  simpa using this
 intro op sub
 unfold kt yMe yDw
 split
 .rename_i r hr
  split at hr
  .exact key T0 (by decide +kernel) _ r hr
  .split at hr
   .exact key T2 (by decide +kernel) _ r hr
   .exact key T1 (by decide +kernel) _ r hr
 .omega
theorem zUv {w : Int} (w0 : 0 <= w) (w1 : w < 4294967296) {k : (Nat -> AV) -> Mem -> Prop} (hk : ∀ c, tQ c (ofS w) -> k c m) : F93 w m k := by
 unfold F93
 have hr : 0 <= jG w /\ jG w < 78 := yQv _ _
 refine yP8 zWl fun b m1 hb K1 i1 O1 => zXc w0 w1 (zG4 hr.1 hr.2 w0 w1 fun c hc => ?_)
 exact i1.sg hc fun m2 i2 o2 => i2.lg fun c hc => ⟨yC.keeps K1 hb o2, hc.inDom m, hk c hc⟩
end
def opt (o : Option Int) (kr : Int -> Mem -> Prop) (kn : Mem -> Prop) (m : Mem) : Prop := match o with
 | some r => kr r m
 | none => kn m
def yQm (x : Int) (b : Bool) : Option Int := if b = true then some 5 else if x = 22 \/ x = 24 \/ x = 46 \/ (32 <= x /\ x <= 35) then some 2 else none
def yNp (x : Int) (b : Bool) : Option Int := if b = true then some 4 else yQm x (decide ((71 <= x /\ x <= 73) \/ x = 75))
def yO7 (x : Int) (b : Bool) : Option Int := if b = true then some 3 else yNp x (decide ((66 <= x /\ x <= 70) \/ x = 74))
def yGc (x : Int) (b : Bool) : Option Int := if b = true then some 6 else yO7 x (decide (x = 7 \/ x = 8 \/ (36 <= x /\ x <= 45)))
def zT (x : Int) : Int := match yGc x (decide (x <= 0 \/ x >= 78 \/ x = 11 \/ x = 12 \/ (54 <= x /\ x <= 62))) with
 | some r => r
 | none => 1
theorem yIe {m : Mem} {x : Int} {b : Bool} {kr : Int -> Mem -> Prop} {kn : Mem -> Prop} (h : opt (yQm x b) kr kn m) : nI x b m kr kn := by
 unfold nI
 unfold yQm at h
 refine zD _ (fun c => ?_) fun c => ?_
 .rw [if_pos c] at h; exact h
 rw [if_neg (by rw [c]; simp)] at h
 refine zD _ (fun c => ?_) fun c1 => zD _ (fun c => ?_) fun c2 => zD _ (fun c => ?_) fun c3 => zD _ (fun c4 => zD _ (fun c => ?_) fun c => ?_) fun c4 => ?_
 .rw [if_pos (by (((try simp only [decide_eq_true_eq, decide_eq_false_iff_not, beq_iff_eq, beq_eq_false_iff_ne, ne_eq] at *); omega)))] at h; exact h
 .rw [if_pos (by (((try simp only [decide_eq_true_eq, decide_eq_false_iff_not, beq_iff_eq, beq_eq_false_iff_ne, ne_eq] at *); omega)))] at h; exact h
 .rw [if_pos (by (((try simp only [decide_eq_true_eq, decide_eq_false_iff_not, beq_iff_eq, beq_eq_false_iff_ne, ne_eq] at *); omega)))] at h; exact h
 .rw [if_pos (by (((try simp only [decide_eq_true_eq, decide_eq_false_iff_not, beq_iff_eq, beq_eq_false_iff_ne, ne_eq] at *); omega)))] at h; exact h
 .rw [if_neg (by (((try simp only [decide_eq_true_eq, decide_eq_false_iff_not, beq_iff_eq, beq_eq_false_iff_ne, ne_eq] at *); omega)))] at h; exact h
 .rw [if_neg (by (((try simp only [decide_eq_true_eq, decide_eq_false_iff_not, beq_iff_eq, beq_eq_false_iff_ne, ne_eq] at *); omega)))] at h; exact h
theorem yJf {m : Mem} {x : Int} {b : Bool} {kr : Int -> Mem -> Prop} {kn : Mem -> Prop} (h : opt (yNp x b) kr kn m) : nH x b m kr kn := by
 unfold nH
 unfold yNp at h
 refine zD _ (fun c => ?_) fun c => ?_
 .rw [if_pos c] at h; exact h
 rw [if_neg (by rw [c]; simp)] at h
 refine zD _ (fun c4 => zD _ (fun c => ?_) fun c => ?_) fun c4 => ?_ <;> refine yIe ?_
 .rw [show decide ((71 <= x /\ x <= 73) \/ x = 75) = true by ((refine Bool.eq_iff_iff.2 ?_; (try simp only [decide_eq_true_eq, decide_eq_false_iff_not, beq_iff_eq, beq_eq_false_iff_ne, ne_eq, Bool.false_eq_true, iff_true, iff_false, Bool.and_eq_true] at *); omega))] at h; exact h
 .rw [show decide ((71 <= x /\ x <= 73) \/ x = 75) = (x == 75) by ((refine Bool.eq_iff_iff.2 ?_; (try simp only [decide_eq_true_eq, decide_eq_false_iff_not, beq_iff_eq, beq_eq_false_iff_ne, ne_eq, Bool.false_eq_true, iff_true, iff_false, Bool.and_eq_true] at *); omega))] at h; exact h
 .rw [show decide ((71 <= x /\ x <= 73) \/ x = 75) = (x == 75) by ((refine Bool.eq_iff_iff.2 ?_; (try simp only [decide_eq_true_eq, decide_eq_false_iff_not, beq_iff_eq, beq_eq_false_iff_ne, ne_eq, Bool.false_eq_true, iff_true, iff_false, Bool.and_eq_true] at *); omega))] at h; exact h
theorem yJh {m : Mem} {x : Int} {b : Bool} {kr : Int -> Mem -> Prop} {kn : Mem -> Prop} (h : opt (yO7 x b) kr kn m) : pH x b m kr kn := by
 unfold pH
 unfold yO7 at h
 refine zD _ (fun c => ?_) fun c => ?_
 .rw [if_pos c] at h; exact h
 rw [if_neg (by rw [c]; simp)] at h
 refine zD _ (fun c4 => zD _ (fun c => ?_) fun c => ?_) fun c4 => ?_ <;> refine yJf ?_
 .rw [show decide ((66 <= x /\ x <= 70) \/ x = 74) = true by ((refine Bool.eq_iff_iff.2 ?_; (try simp only [decide_eq_true_eq, decide_eq_false_iff_not, beq_iff_eq, beq_eq_false_iff_ne, ne_eq, Bool.false_eq_true, iff_true, iff_false, Bool.and_eq_true] at *); omega))] at h; exact h
 .rw [show decide ((66 <= x /\ x <= 70) \/ x = 74) = (x == 74) by ((refine Bool.eq_iff_iff.2 ?_; (try simp only [decide_eq_true_eq, decide_eq_false_iff_not, beq_iff_eq, beq_eq_false_iff_ne, ne_eq, Bool.false_eq_true, iff_true, iff_false, Bool.and_eq_true] at *); omega))] at h; exact h
 .rw [show decide ((66 <= x /\ x <= 70) \/ x = 74) = (x == 74) by ((refine Bool.eq_iff_iff.2 ?_; (try simp only [decide_eq_true_eq, decide_eq_false_iff_not, beq_iff_eq, beq_eq_false_iff_ne, ne_eq, Bool.false_eq_true, iff_true, iff_false, Bool.and_eq_true] at *); omega))] at h; exact h
theorem yIt {m : Mem} {x : Int} {b : Bool} {kr : Int -> Mem -> Prop} {kn : Mem -> Prop} (h : opt (yGc x b) kr kn m) : uZ x b m kr kn := by
 unfold uZ
 unfold yGc at h
 refine zD _ (fun c => ?_) fun c => ?_
 .rw [if_pos c] at h; exact h
 rw [if_neg (by rw [c]; simp)] at h
 refine zD _ (fun c => ?_) fun c1 => zD _ (fun c => ?_) fun c2 => zD _ (fun c4 => ?_) fun c4 => ?_ <;> refine yJh ?_
 .rw [show decide (x = 7 \/ x = 8 \/ (36 <= x /\ x <= 45)) = true by ((refine Bool.eq_iff_iff.2 ?_; (try simp only [decide_eq_true_eq, decide_eq_false_iff_not, beq_iff_eq, beq_eq_false_iff_ne, ne_eq, Bool.false_eq_true, iff_true, iff_false, Bool.and_eq_true] at *); omega))] at h; exact h
 .rw [show decide (x = 7 \/ x = 8 \/ (36 <= x /\ x <= 45)) = true by ((refine Bool.eq_iff_iff.2 ?_; (try simp only [decide_eq_true_eq, decide_eq_false_iff_not, beq_iff_eq, beq_eq_false_iff_ne, ne_eq, Bool.false_eq_true, iff_true, iff_false, Bool.and_eq_true] at *); omega))] at h; exact h
 .rw [show decide (x = 7 \/ x = 8 \/ (36 <= x /\ x <= 45)) = decide (x <= 45) by ((refine Bool.eq_iff_iff.2 ?_; (try simp only [decide_eq_true_eq, decide_eq_false_iff_not, beq_iff_eq, beq_eq_false_iff_ne, ne_eq, Bool.false_eq_true, iff_true, iff_false, Bool.and_eq_true] at *); omega))] at h; exact h
 .rw [show decide (x = 7 \/ x = 8 \/ (36 <= x /\ x <= 45)) = false by ((refine Bool.eq_iff_iff.2 ?_; (try simp only [decide_eq_true_eq, decide_eq_false_iff_not, beq_iff_eq, beq_eq_false_iff_ne, ne_eq, Bool.false_eq_true, iff_true, iff_false, Bool.and_eq_true] at *); omega))] at h; exact h
theorem vQ {m : Mem} {c : Nat -> AV} {x : In} (hc : tQ c x) {k : Int -> Mem -> Prop} (hk : k (zT x.k) m) : F94 c m k := by
 unfold F94
 refine sO hc fun b m1 hb K i O => ?_
 rw [i.l0]
 have fin : ∀ (q : Bool), decide (x.k <= 0 \/ x.k >= 78 \/ x.k = 11 \/ x.k = 12 \/ (54 <= x.k /\ x.k <= 62)) = q -> uZ x.k q m1 (fun x34 m35 => (zA m m35 /\ k x34 m)) (fun m36 => (zA m m36 /\ k 1 m)) := fun q e => by
  refine yIt ?_
  unfold zT at hk
  rw [e] at hk
  revert hk
  unfold opt
  cases yGc x.k q with
  | none => exact fun h => ⟨K, h⟩
  | some r => exact fun h => ⟨K, h⟩
 refine zD _ (fun c => fin _ ?_) fun c1 => zD _ (fun c => fin _ ?_) fun c2 => zD _ (fun c => fin _ ?_) fun c3 => zD _ (fun c => fin _ ?_) fun c4 => zD _ (fun c => fin _ ?_) fun c => fin _ ?_
 ·((refine Bool.eq_iff_iff.2 ?_; (try simp only [decide_eq_true_eq, decide_eq_false_iff_not, beq_iff_eq, beq_eq_false_iff_ne, ne_eq, Bool.false_eq_true, iff_true, iff_false, Bool.and_eq_true] at *); omega))
 ·((refine Bool.eq_iff_iff.2 ?_; (try simp only [decide_eq_true_eq, decide_eq_false_iff_not, beq_iff_eq, beq_eq_false_iff_ne, ne_eq, Bool.false_eq_true, iff_true, iff_false, Bool.and_eq_true] at *); omega))
 ·((refine Bool.eq_iff_iff.2 ?_; (try simp only [decide_eq_true_eq, decide_eq_false_iff_not, beq_iff_eq, beq_eq_false_iff_ne, ne_eq, Bool.false_eq_true, iff_true, iff_false, Bool.and_eq_true] at *); omega))
 ·((refine Bool.eq_iff_iff.2 ?_; (try simp only [decide_eq_true_eq, decide_eq_false_iff_not, beq_iff_eq, beq_eq_false_iff_ne, ne_eq, Bool.false_eq_true, iff_true, iff_false, Bool.and_eq_true] at *); omega))
 ·((refine Bool.eq_iff_iff.2 ?_; (try simp only [decide_eq_true_eq, decide_eq_false_iff_not, beq_iff_eq, beq_eq_false_iff_ne, ne_eq, Bool.false_eq_true, iff_true, iff_false, Bool.and_eq_true] at *); omega))
 ·((refine Bool.eq_iff_iff.2 ?_; (try simp only [decide_eq_true_eq, decide_eq_false_iff_not, beq_iff_eq, beq_eq_false_iff_ne, ne_eq, Bool.false_eq_true, iff_true, iff_false, Bool.and_eq_true] at *); omega))
section
variable {m : Mem} {c : Nat -> AV} {x : In}
theorem zB3 {b b8 : Nat} {y : Blk} (e : m.obj b8 = some y) (hn : y.n = 4) {k0 : Mem -> Prop} {kr : Bool -> Mem -> Prop} {r j : Nat} {v : Int} (hj : j + r + 1 = 4) (hv : y.c j = .flat (.int .i64 v))
  (h1 : zLz v = true -> fO b 0 (.sl b8 0 4 (.ex 4)) 4 (r + 1) ((j : Int) + 1) m k0 kr) (h2 : zLz v = false -> kr false m) : fO b 0 (.sl b8 0 4 (.ex 4)) 4 (r + 1 + 1) j m k0 kr := by
 unfold fO zLv
 refine zG (by simp; omega) (yF (by omega) (by show (j : Int) < (4 : Nat); omega) ?_)
 rw [yW e (by omega) (by rw [show 0 + (j : Int).toNat * 1 = j by omega]; exact hv), zK (by omega) (by omega)]
 unfold zLz at h1 h2
 refine zD _ (fun c => h2 (by ((refine Bool.eq_iff_iff.2 ?_; (try simp only [decide_eq_true_eq, decide_eq_false_iff_not, beq_iff_eq, beq_eq_false_iff_ne, ne_eq, Bool.false_eq_true, iff_true, iff_false, Bool.and_eq_true] at *); omega)))) fun c1 => zD _ (fun c => h2 (by ((refine Bool.eq_iff_iff.2 ?_; (try simp only [decide_eq_true_eq, decide_eq_false_iff_not, beq_iff_eq, beq_eq_false_iff_ne, ne_eq, Bool.false_eq_true, iff_true, iff_false, Bool.and_eq_true] at *); omega)))) fun c2 => h1 ?_
 simp only [decide_eq_false_iff_not] at c1 c2
 simp; omega
theorem zEx (hc : tQ c x) (hi : 0 <= x.i) {k : Bool -> Mem -> Prop} (hk : k (wN x) m) : yFh c m k := by
 unfold yFh
 refine sO hc fun b m1 hb K i O => ?_
 rw [i.l1, i.l2, i.l3, i.l4]
 refine zW fun b8 m7 hb8 K7 e8 O7 => ?_
 have i7 := i.keep K7
 have K17 := K.trans K7
 unfold wN at hk
 have no : ∀ q : Bool, q = false -> wN x = q -> (zA m m7 /\ k false m) := fun q e1 e2 => ⟨K17, by unfold wN at e2; rw [e2, e1] at hk; exact hk⟩
 refine ⟨5, zB3 (r := 3) (j := 0) e8 rfl rfl rfl (fun f1 => zB3 (r := 2) (j := 1) e8 rfl rfl rfl (fun f2 => zB3 (r := 1) (j := 2) e8 rfl rfl rfl (fun f3 => zB3 (r := 0) (j := 3) e8 rfl rfl rfl (fun f4 => ?_) ?_) ?_) ?_) ?_⟩
 .unfold fO zLv
  refine zB (by decide) ?_
  rw [f1, f2, f3, f4] at hk
  simp only [Bool.and_self, Bool.true_and] at hk
  refine ⟨fun b' => b' = b, rfl, ?_⟩
  rw [i7.l0]
  refine zD _ (fun c1 => ⟨rfl, ?_⟩) fun c1 => ?_
  .rw [i7.l0]
   have c1 : 0 < x.k := by simpa using c1
   refine zD _ (fun c2 => ⟨rfl, ?_⟩) fun c2 => ?_
   .have c2 : x.k < 78 := by simpa using c2
    rw [i7.l5]
    refine zD _ (fun c3 => ⟨rfl, ?_⟩) fun c3 => ?_
    .have c3 : x.i <= 67108863 := by simpa using c3
     rw [i7.l0]
     refine ⟨rfl, i7.lg fun c23 h23 => zUa h23 ⟨fun _ _ _ => rfl, ?_⟩⟩
     have hp := wW (vI (vI (vI (IntKind.wrap .u32 (IntKind.wrap .u32 x.s * 2097152)) (IntKind.wrap .u32 (IntKind.wrap .u32 x.t * 65536))) (IntKind.wrap .u32 (IntKind.wrap .u32 x.d * 2048))) (IntKind.wrap .u32 (IntKind.wrap .u32 x.h * 64))) x.i
     refine zG4 (by omega) c2 hp.1 hp.2 fun c26 h26 => ⟨fun _ _ _ => rfl, rfl, i7.lg fun c28 h28 => ?_⟩
     rw [yQk h26 h28 _ (by kernel_rfl)]
     refine ⟨K17, ?_⟩
     rw [decide_eq_true c1, decide_eq_true c2, decide_eq_true c3] at hk
     exact hk
    .have c3 : decide (x.i <= 67108863) = false := c3
     rw [c3] at hk; simp only [Bool.and_false, Bool.false_and] at hk; exact ⟨K17, hk⟩
   .have c2 : decide (x.k < 78) = false := c2
    rw [c2] at hk; simp only [Bool.and_false, Bool.false_and] at hk; exact ⟨K17, hk⟩
  .have c1 : decide (0 < x.k) = false := c1
   rw [c1] at hk; simp only [Bool.and_false, Bool.false_and] at hk; exact ⟨K17, hk⟩
 .intro q; rw [q] at hk; simp only [Bool.and_false, Bool.false_and] at hk; exact ⟨K17, hk⟩
 .intro q; rw [q] at hk; simp only [Bool.and_false, Bool.false_and] at hk; exact ⟨K17, hk⟩
 .intro q; rw [q] at hk; simp only [Bool.and_false, Bool.false_and] at hk; exact ⟨K17, hk⟩
 .intro q; rw [q] at hk; simp only [Bool.and_false, Bool.false_and] at hk; exact ⟨K17, hk⟩
end
section
variable {m : Mem} {c : Nat -> AV} {x : In}
theorem yVd {b : ByteArray} {ch : Int} (hb : b.size < 1000) {k0 : Mem -> Prop} {kr : Bool -> Mem -> Prop} (h1 : rL b ch = true -> kr true m) (h0 : rL b ch = false -> k0 m) : ∀ (r i : Nat), i + r = b.size -> (∀ j, j < i -> (((b.data.getD j 0).toNat : Int) == ch) = false) -> zIb b ch (r + 1) i m k0 kr := by
 intro r
 induction r with
 | zero =>
  intro i hi hn
  unfold zIb zVn
  refine zB (by simp; omega) (h0 ?_)
  unfold rL
  rw [Bool.eq_false_iff]
  intro q
  obtain ⟨j, hj, e⟩ := List.any_eq_true.1 q
  rw [hn j (by have := List.mem_range.1 hj; omega)] at e; cases e
 | succ r ih =>
  intro i hi hn
  unfold zIb zVn
  refine zG (by simp; omega) (yF (by omega) (by omega) (zD _ (fun q => h1 ?_) fun q => ?_))
  .unfold rL
   rw [List.any_eq_true]
   exact ⟨i, List.mem_range.2 (by omega), by simpa using q⟩
  .rw [zK (by omega) (by omega)]
   refine ih (i + 1) (by omega) fun j hj => ?_
   by_cases e : j = i
   .subst e; simpa using q
   .exact hn j (by omega)
theorem oY {b : ByteArray} {ch : Int} (hb : b.size < 1000) {k : Bool -> Mem -> Prop} (hk : k (rL b ch) m) : F81 b ch m k := by
 unfold F81
 exact ⟨b.size + 1, yVd hb (fun e => ⟨zA.self m, by rw [e] at hk; exact hk⟩) (fun e => ⟨zA.self m, by rw [e] at hk; exact hk⟩) b.size 0 (by omega) (fun j hj => by omega)⟩
def zPi (c : Nat -> AV) (r : Row) : Prop := c 0 = .flat (.int .i64 r.op) /\ c 1 = .flat (.int .i64 r.sub) /\ c 2 = .flat (.int .i64 r.kd) /\ c 3 = .flat (.string r.f)
def lV (m : Mem) (b : Nat) (r : Row) : Prop := ∃ y, m.obj b = some y /\ y.n = 4 /\ y.ro = false /\ zPi y.c r
def yMu (m : Mem) (b : Nat) (l : List Row) : Prop := ∃ y, m.obj b = some y /\ y.n = 4 * l.length /\ ∀ i, (h : i < l.length) -> zPi (fun j => y.c (i * 4 + j)) l[i]
def zOp (m : Mem) (v : AV) (l : List Row) : Prop := ∃ b, v = .sl b 0 l.length (.ex l.length) /\ yMu m b l
theorem zLa {m : Mem} {b : Nat} {y : Blk} {l : List Row} (e : m.obj b = some y) (hn : y.n = 4 * l.length) (h : (List.range (4 * l.length)).map y.c = l.flatMap fun r => [AV.flat (.int .i64 r.op), .flat (.int .i64 r.sub), .flat (.int .i64 r.kd), .flat (.string r.f)]) : yMu m b l := by
 refine ⟨y, e, hn, fun i hi => ?_⟩
 have key : ∀ (l : List Row) (i : Nat) (hi : i < l.length) (j : Nat), j < 4 -> (l.flatMap fun r => [AV.flat (.int .i64 r.op), .flat (.int .i64 r.sub), .flat (.int .i64 r.kd), .flat (.string r.f)])[i * 4 + j]? = [AV.flat (.int .i64 l[i].op), .flat (.int .i64 l[i].sub), .flat (.int .i64 l[i].kd), .flat (.string l[i].f)][j]? := by
  intro l
  induction l with
  | nil => intro i hi; cases hi
  | cons r l ih =>
   intro i hi j hj
   rw [List.flatMap_cons]
   cases i with
   | zero =>
    rw [List.getElem?_append_left (by simp; omega), Nat.zero_mul, Nat.zero_add]; rfl
   | succ i =>
    rw [List.getElem?_append_right (by simp; omega)]
    have := ih i (by simpa using hi) j hj
    rw [show (i + 1) * 4 + j - [AV.flat (.int .i64 r.op), .flat (.int .i64 r.sub), .flat (.int .i64 r.kd), .flat (.string r.f)].length = i * 4 + j by simp; omega, this]
    simp
 have at' : ∀ j, j < 4 -> some (y.c (i * 4 + j)) = [AV.flat (.int .i64 l[i].op), .flat (.int .i64 l[i].sub), .flat (.int .i64 l[i].kd), .flat (.string l[i].f)][j]? := fun j hj => by
  rw [<- key l i hi j hj, <- h, List.getElem?_map, List.getElem?_range (by omega)]; rfl
 exact ⟨by simpa using at' 0 (by omega), by simpa using at' 1 (by omega), by simpa using at' 2 (by omega), by simpa using at' 3 (by omega)⟩
theorem zYq {k : AV -> Mem -> Prop} (hk : ∀ v m', zA m m' -> zOp m' v T0 -> k v m') : F83 m k := by
 unfold F83
 exact zW fun b m1 hb K e O => hk _ m1 K ⟨b, rfl, zLa e rfl (by kernel_rfl)⟩
theorem yCy {k : AV -> Mem -> Prop} (hk : ∀ v m', zA m m' -> zOp m' v T2 -> k v m') : F85 m k := by
 unfold F85
 exact zW fun b m1 hb K e O => hk _ m1 K ⟨b, rfl, zLa e rfl (by kernel_rfl)⟩
theorem yHx {k : AV -> Mem -> Prop} (hk : ∀ v m', zA m m' -> zOp m' v T1 -> k v m') : F84 m k := by
 unfold F84
 exact zW fun b m1 hb K e O => hk _ m1 K ⟨b, rfl, zLa e rfl (by kernel_rfl)⟩
theorem lV.keep {m m' : Mem} {b : Nat} {r : Row} (h : lV m b r) (K : zA m m') : lV m' b r := by
 obtain ⟨z, e, q⟩ := h; exact ⟨z, by rw [K b (by rw [e]; simp)]; exact e, q⟩
theorem lV.l0 {b : Nat} {r : Row} (h : lV m b r) (k : Int -> Prop) : zR .i64 m b 0 k = k r.op := by obtain ⟨z, e, n, _, h0, h1, h2, h3⟩ := h; exact yW e (by omega) h0
theorem lV.l1 {b : Nat} {r : Row} (h : lV m b r) (k : Int -> Prop) : zR .i64 m b 1 k = k r.sub := by obtain ⟨z, e, n, _, h0, h1, h2, h3⟩ := h; exact yW e (by omega) h1
theorem lV.l3 {b : Nat} {r : Row} (h : lV m b r) (k : ByteArray -> Prop) : ldS m b 3 k = k r.f := by
 obtain ⟨z, e, n, _, h0, h1, h2, h3⟩ := h
 unfold ldS kobj; rw [e]; simp only [zO, show 3 < z.n by omega, if_true, h3]
theorem zPi.inDom {r : Row} (h : zPi c r) (m : Mem) : xZ 4 m c := fun i hi => by
 obtain ⟨h0, h1, h2, h3⟩ := h
 have : i = 0 \/ i = 1 \/ i = 2 \/ i = 3 := by omega
 rcases this with rfl | rfl | rfl | rfl
 .rw [h0]; trivial
 .rw [h1]; trivial
 .rw [h2]; trivial
 .rw [h3]; trivial
def zXb : Row := ⟨0, 0, 0, ⟨#[]⟩⟩
theorem yHu {kd : Int} {t : Int} {v : AV} {l : List Row} {b : Nat} {m0 : Mem} (hb0 : m0.obj b = none) (hv : zOp m v l) (hl : l.length < 1000) {q : Row} (hb : lV m b q) (K : zA m0 m) {k2 : Mem -> Prop} {kr : Bool -> Mem -> Prop}
  (h2 : l.find? (fun r => decide (r.kd = kd)) = none -> k2 m) (hr : ∀ r m', l.find? (fun r => decide (r.kd = kd)) = some r -> lV m' b r -> zA m0 m' -> kr true m') :
  ∀ (n i : Nat), i + n = l.length -> (∀ j, (h : j < l.length) -> j < i -> l[j].kd ≠ kd) -> aG kd b 0 t v (n + 1) i m k2 kr := by
 obtain ⟨bv, rfl, y, ey, hn, hy⟩ := hv
 obtain ⟨z, ez, zn, zr, hz⟩ := hb
 intro n
 induction n with
 | zero =>
  intro i hi hno
  unfold aG zLd
  refine zB (by simp; omega) (h2 ?_)
  rw [List.find?_eq_none]
  intro r hrm
  obtain ⟨j, hj, rfl⟩ := List.getElem_of_mem hrm
  simpa using hno j hj (by omega)
 | succ n ih =>
  intro i hi hno
  unfold aG zLd
  have hil : i < l.length := by omega
  have h4 := hy i hil
  refine zG (by simp; omega) (yF (by omega) (by omega) ?_)
  rw [yW ey (by rw [hn]; simp; omega) (show y.c (0 + (i : Int).toNat * 4 + 2) = _ by rw [show 0 + (i : Int).toNat * 4 + 2 = i * 4 + 2 by simp]; exact h4.2.2.1)]
  refine zD _ (fun c1 => yF (by omega) (by omega) ?_) fun c1 => ?_
  .have c1 : l[i].kd = kd := by simpa using c1
   rw [xH ey (by rw [hn]; simp; omega), wR ez zr (by omega)]
   refine hr l[i] _ ?_ ⟨_, zL _ _ _, zn, zr, ?_⟩ (yC.keeps K hb0 (yC.set _ _ _))
   .rw [List.find?_eq_some_iff_getElem]
    refine ⟨by simpa using c1, i, hil, rfl, fun j hj => by simpa using hno j (by omega) hj⟩
   .have e0 : 0 + (i : Int).toNat * 4 = i * 4 := by simp
    rw [e0]
    exact ⟨h4.1, h4.2.1, h4.2.2.1, h4.2.2.2⟩
  .have c1 : l[i].kd ≠ kd := by simpa using c1
   rw [zK (by omega) (by omega)]
   refine ih (i + 1) (by omega) fun j hj hji => ?_
   by_cases e : j = i
   .subst e; exact c1
   .exact hno j hj (by omega)
def zD5 (t : Int) : List Row := if t = 1 then T1 else if t = 2 then T2 else T0
theorem yT2 : T0.length = 35 /\ T1.length = 27 /\ T2.length = 15 := by decide
theorem yD4 (t : Int) : (zD5 t).length < 1000 := by
 have := yT2
 unfold zD5; split
 .omega
 .split <;> omega
theorem zAe {kd : Int} {k : (Nat -> AV) -> Bool -> Mem -> Prop} (h0 : lL kd = none -> ∀ c, zPi c zXb -> k c false m) (h1 : ∀ r c, lL kd = some r -> zPi c r -> k c true m) : F54 kd m k := by
 unfold F54
 refine zW fun b m1 hb K1 e1 O1 => ?_
 have hb1 : lV m1 b zXb := ⟨_, e1, rfl, rfl, rfl, rfl, rfl, rfl⟩
 have fin : ∀ r m', lL kd = some r -> lV m' b r -> zA m m' -> (yN 4 m' b 0 fun c39 => (zA m m' /\ (xZ 4 m c39 /\ True) /\ k c39 true m)) := fun r m' hf hr K => by
  obtain ⟨y, ey, yn, yr, hy⟩ := hr
  rw [xH ey (by omega)]
  have hc : zPi (sub y.c 0 4) r := ⟨hy.1, hy.2.1, hy.2.2.1, hy.2.2.2⟩
  exact ⟨K, ⟨hc.inDom m, trivial⟩, h1 r _ hf hc⟩
 have step : ∀ (t : Int) (n : Nat) (m2 : Mem) (kn : Mem -> Prop), 0 <= t -> t < 3 -> zA m m2 -> lV m2 b zXb -> (∀ r, (zD5 t).find? (fun r => decide (r.kd = kd)) = some r -> lL kd = some r) ->
   ((zD5 t).find? (fun r => decide (r.kd = kd)) = none -> ∀ m', zA m m' -> lV m' b zXb -> zCw kd b 0 n (t + 1) m' (fun m34 => vA 4 m34 b 0 (zH [(.flat (.int .i64 0)), (.flat (.int .i64 0)), (.flat (.int .i64 0)), (.flat (.string ⟨#[]⟩))]) fun m38 => yN 4 m38 b 0 fun c40 => (zA m m38 /\ (xZ 4 m c40 /\ True) /\ k c40 false m)) (fun x35 m36 => yN 4 m36 b 0 fun c39 => (zA m m36 /\ (xZ 4 m c39 /\ True) /\ k c39 x35 m))) ->
   zCw kd b 0 (n + 1) t m2 (fun m34 => vA 4 m34 b 0 (zH [(.flat (.int .i64 0)), (.flat (.int .i64 0)), (.flat (.int .i64 0)), (.flat (.string ⟨#[]⟩))]) fun m38 => yN 4 m38 b 0 fun c40 => (zA m m38 /\ (xZ 4 m c40 /\ True) /\ k c40 false m)) (fun x35 m36 => yN 4 m36 b 0 fun c39 => (zA m m36 /\ (xZ 4 m c39 /\ True) /\ k c39 x35 m)) := by
  intro t n m2 kn t0 t1 K2 hb2 hf hnext
  unfold zCw zWn
  have go : ∀ (kn2 : Mem -> Prop) v m3, zA m m3 -> lV m3 b zXb -> zOp m3 v (zD5 t) -> ((zD5 t).find? (fun r => decide (r.kd = kd)) = none -> kn2 m3) -> nP kd b 0 t v m3 kn2 (fun x35 m36 => yN 4 m36 b 0 fun c39 => (zA m m36 /\ (xZ 4 m c39 /\ True) /\ k c39 x35 m)) := fun kn2 v m3 K3 hb3 hv hkn => by
   unfold nP
   exact ⟨(zD5 t).length + 1, yHu (m0 := m) hb hv (yD4 t) hb3 K3 hkn (fun r m' hr' hrb K' => fin r m' (hf r hr') hrb K') (zD5 t).length 0 (by omega) (fun j _ hj => by omega)⟩
  have ew : IntKind.wrap .i64 (t + 1) = t + 1 := zK (by omega) (by omega)
  rw [ew]
  refine zG (by simp; omega) (zYq fun v m3 K3 hv => ?_)
  have K3' := K2.trans K3
  refine zD _ (fun c1 => yHx fun v' m4 K4 hv' => ?_) fun c1 => zD _ (fun c2 => yCy fun v' m4 K4 hv' => ?_) fun c2 => ?_
  .have c1 : t = 1 := by simpa using c1
   refine go _ v' m4 (K3'.trans K4) ((hb2.keep K3).keep K4) ?_ fun hn => hnext hn m4 (K3'.trans K4) ((hb2.keep K3).keep K4)
   unfold zD5; rw [if_pos c1]; exact hv'
  .have c1 : t ≠ 1 := by simpa using c1
   have c2 : t = 2 := by simpa using c2
   refine go _ v' m4 (K3'.trans K4) ((hb2.keep K3).keep K4) ?_ fun hn => hnext hn m4 (K3'.trans K4) ((hb2.keep K3).keep K4)
   unfold zD5; rw [if_neg c1, if_pos c2]; exact hv'
  .have c1 : t ≠ 1 := by simpa using c1
   have c2 : t ≠ 2 := by simpa using c2
   refine go _ v m3 K3' (hb2.keep K3) ?_ fun hn => hnext hn m3 K3' (hb2.keep K3)
   unfold zD5; rw [if_neg c1, if_neg c2]; exact hv
 refine ⟨4, step 0 3 m1 (fun _ => True) (by omega) (by omega) K1 hb1 (fun r hr => ?_) fun n0 m2 K2 hb2 => step 1 2 m2 (fun _ => True) (by omega) (by omega) K2 hb2 (fun r hr => ?_) fun n1 m3 K3 hb3 => step 2 1 m3 (fun _ => True) (by omega) (by omega) K3 hb3 (fun r hr => ?_) fun n2 m4 K4 hb4 => ?_⟩
 .unfold lL; rw [List.find?_append]; exact (show (T0.find? _).or _ = some r by rw [show T0.find? (fun r => decide (r.kd = kd)) = some r from hr]; rfl)
 .unfold lL; rw [List.find?_append, show T0.find? (fun r => decide (r.kd = kd)) = none from n0, List.find?_append, show T1.find? (fun r => decide (r.kd = kd)) = some r from hr]; rfl
 .unfold lL; rw [List.find?_append, show T0.find? (fun r => decide (r.kd = kd)) = none from n0, List.find?_append, show T1.find? (fun r => decide (r.kd = kd)) = none from n1, show T2.find? (fun r => decide (r.kd = kd)) = some r from hr]; rfl
 .unfold zCw zWn
  refine zB (by decide) ?_
  have hno : lL kd = none := by
   unfold lL; rw [List.find?_append, show T0.find? (fun r => decide (r.kd = kd)) = none from n0, List.find?_append, show T1.find? (fun r => decide (r.kd = kd)) = none from n1, show T2.find? (fun r => decide (r.kd = kd)) = none from n2]; rfl
  obtain ⟨y, ey, yn, yr, hy⟩ := hb4
  dsimp only
  rw [wR ey yr (by omega), xH (zL _ _ _) (by show 0 + 4 <= y.n; omega)]
  have hc : ∀ (u : Nat -> AV), zPi (sub (zC u 0 4 (zH [(.flat (.int .i64 0)), (.flat (.int .i64 0)), (.flat (.int .i64 0)), (.flat (.string ⟨#[]⟩))])) 0 4) zXb := fun u => ⟨rfl, rfl, rfl, rfl⟩
  exact ⟨yC.keeps K4 hb (yC.set _ _ _), ⟨(hc _).inDom m, trivial⟩, h0 hno _ (hc _)⟩
end
def zZs (r : Row) : Int :=
 if r.op = 0 \/ r.op = 28 then IntKind.wrap .u32 r.sub
 else if r.op = 1 then IntKind.wrap .u32 (IntKind.wrap .u32 r.sub * 65536)
 else if r.op = 16 then if r.sub >= 64 then vI 33554432 (IntKind.wrap .u32 (IntKind.wrap .i64 (r.sub - 64))) else IntKind.wrap .u32 (IntKind.wrap .u32 r.sub * 2097152)
 else 0
def yB2 (r : Row) : Bool := decide (0 < r.kd) && decide (r.kd < 78) && decide (r.f.size < 1000) && (rL r.f 115 == yA (fl r.kd) 1) && (rL r.f 116 == yA (fl r.kd) 2) && (rL r.f 100 == yA (fl r.kd) 4) && (rL r.f 104 == yA (fl r.kd) 8) && (rL r.f 105 == yA (fl r.kd) 16) && (rL r.f 106 == yA (fl r.kd) 32) &&
 decide (zBj r.kd = vI (IntKind.wrap .u32 (IntKind.wrap .u32 r.op * 67108864)) (zZs r))
structure RowOK (r : Row) : Prop where
 k0 : 0 < r.kd
 k1 : r.kd < 78
 z : r.f.size < 1000
 s : rL r.f 115 = yA (fl r.kd) 1
 t : rL r.f 116 = yA (fl r.kd) 2
 d : rL r.f 100 = yA (fl r.kd) 4
 h : rL r.f 104 = yA (fl r.kd) 8
 i : rL r.f 105 = yA (fl r.kd) 16
 j : rL r.f 106 = yA (fl r.kd) 32
 w : zBj r.kd = vI (IntKind.wrap .u32 (IntKind.wrap .u32 r.op * 67108864)) (zZs r)
theorem yF5 {r : Row} (h : yB2 r = true) : RowOK r := by
 unfold yB2 at h
 simp only [Bool.and_eq_true, decide_eq_true_eq, beq_iff_eq] at h
 obtain ⟨⟨⟨⟨⟨⟨⟨⟨⟨a1, a2⟩, a3⟩, a4⟩, a5⟩, a6⟩, a7⟩, a8⟩, a9⟩, a10⟩ := h
 exact ⟨a1, a2, a3, a4, a5, a6, a7, a8, a9, a10⟩
theorem yF9 : (T0 ++ (T1 ++ T2)).all yB2 = true := by decide +kernel
theorem yJr {r : Row} (h : r ∈ T0 ++ (T1 ++ T2)) : RowOK r := yF5 (List.all_eq_true.1 yF9 r h)
theorem dS {kd : Int} {r : Row} (h : lL kd = some r) : RowOK r /\ r.kd = kd :=
 ⟨yJr (List.mem_of_find?_eq_some h), by simpa using List.find?_some h⟩
theorem zC2 : ∀ n, n < 78 -> 0 < n -> (lL (n : Nat)).isSome = true := by decide +kernel
def qI (n : Int) (b : Bool) : Bool := decide (n = 0) || (b && (decide (n > 0) && decide (n < 32)))
def oV (x : In) (r : Row) : Bool := qI x.s (rL r.f 115) && (qI x.t (rL r.f 116) && (qI x.d (rL r.f 100) && (qI x.h (rL r.f 104) && decide (x.i <= if rL r.f 105 = true then 65535 else if rL r.f 106 = true then 67108863 else 0))))
def zSa (x : In) : Bool := match lL x.k with
 | some r => oV x r
 | none => false
theorem zI2 (n : Int) (b : Bool) : qI n b = true ↔ (0 <= n /\ n < 32 /\ (b = false -> n = 0)) := by
 unfold qI
 cases b with
 | true => simp; omega
 | false => simp; omega
theorem zZ4 (x : In) (hi : 0 <= x.i) : zSa x = wN x := by
 rw [Bool.eq_iff_iff, tR x hi]
 unfold zSa
 constructor
 .intro h
  split at h
  .rename_i r hr
   obtain ⟨R, e⟩ := dS hr
   unfold oV at h
   rw [R.s, R.t, R.d, R.h, R.i, R.j, e] at h
   simp only [Bool.and_eq_true, zI2, decide_eq_true_eq] at h
   obtain ⟨⟨s0, s1, s2⟩, ⟨t0, t1, t2⟩, ⟨d0, d1, d2⟩, ⟨h0, h1, h2⟩, i1⟩ := h
   exact ⟨by have := R.k0; omega, by have := R.k1; omega, s0, s1, s2, t0, t1, t2, d0, d1, d2, h0, h1, h2, hi, by unfold wQ; exact i1⟩
  .cases h
 .intro h
  have hs := zC2 x.k.toNat (by have := h.k0; have := h.k1; omega) (by have := h.k0; omega)
  rw [show ((x.k.toNat : Nat) : Int) = x.k by have := h.k0; omega] at hs
  obtain ⟨r, hr⟩ := Option.isSome_iff_exists.1 hs
  rw [hr]
  obtain ⟨R, e⟩ := dS hr
  show oV x r = true
  unfold oV
  rw [R.s, R.t, R.d, R.h, R.i, R.j, e]
  simp only [Bool.and_eq_true, zI2, decide_eq_true_eq]
  exact ⟨⟨h.s0, h.s1, h.s2⟩, ⟨h.t0, h.t1, h.t2⟩, ⟨h.d0, h.d1, h.d2⟩, ⟨h.h0, h.h1, h.h2⟩, by have := h.i1; unfold wQ at this; exact this⟩
section
variable {m : Mem} {c : Nat -> AV} {x : In}
theorem lE {n : Int} {b : Bool} {k : Bool -> Mem -> Prop} (hk : k (qI n b) m) : F82 n b m k := by
 unfold F82
 unfold qI at hk
 refine zD _ (fun c => ?_) fun c => ?_
 .have c : n = 0 := by simpa using c
  rw [decide_eq_true c] at hk; exact ⟨zA.self m, hk⟩
 have c : ¬ n = 0 := by simpa using c
 rw [decide_eq_false c] at hk
 cases b with
 | false => exact zB rfl ⟨zA.self m, hk⟩
 | true =>
  refine zG rfl (zD _ (fun c1 => ?_) fun c1 => ?_)
  .rw [c1] at hk; exact ⟨zA.self m, hk⟩
  .rw [c1] at hk; exact ⟨zA.self m, hk⟩
theorem bG {b : Nat} (i : vL m b x) {r : Row} (R : RowOK r) {mo : Int} {k : Bool -> Mem -> Prop} (hk : k (qI x.s (rL r.f 115) && (qI x.t (rL r.f 116) && (qI x.d (rL r.f 100) && (qI x.h (rL r.f 104) && decide (x.i <= mo))))) m) : qZ b 0 r.f mo m k := by
 unfold qZ
 simp only [Nat.zero_add]
 have kin : ∀ F : Nat -> Prop, zV F m m := fun F b _ _ => rfl
 refine ⟨fun b' => b' = b, rfl, ?_⟩
 rw [i.l1]
 refine oY R.z ⟨kin _, lE ⟨kin _, zD _ (fun c => ⟨rfl, ?_⟩) fun c => ?_⟩⟩
 .rw [c] at hk
  rw [i.l2]
  refine oY R.z ⟨kin _, lE ⟨kin _, zD _ (fun c => ⟨rfl, ?_⟩) fun c => ?_⟩⟩
  .rw [c] at hk
   rw [i.l3]
   refine oY R.z ⟨kin _, lE ⟨kin _, zD _ (fun c => ⟨rfl, ?_⟩) fun c => ?_⟩⟩
   .rw [c] at hk
    rw [i.l4]
    refine oY R.z ⟨kin _, lE ⟨kin _, zD _ (fun c => ⟨rfl, ?_⟩) fun c => ?_⟩⟩
    .rw [c] at hk
     rw [i.l5]
     exact hk
    .rw [c] at hk; exact hk
   .rw [c] at hk; exact hk
  .rw [c] at hk; exact hk
 .rw [c] at hk; exact hk
theorem zMm (hc : tQ c x) (hi : 0 <= x.i) {k : Bool -> Mem -> Prop} (hk : k (wN x) m) : F53 c m k := by
 rw [<- zZ4 x hi] at hk
 unfold F53
 unfold zSa at hk
 refine sO hc fun b m1 hb K i O => ?_
 rw [i.l0]
 refine zAe (fun hn c hr => ?_) fun r c hs hr => ?_
 .refine kV fun b8 m9 y hb8 K9 ey _ _ _ => zG rfl ?_
  rw [hn] at hk
  exact ⟨K.trans K9, hk⟩
 .rw [hs] at hk
  have hk : k (oV x r) m := hk
  obtain ⟨R, e⟩ := dS hs
  refine kV fun b8 m9 y hb8 K9 ey yn yr yc => zB rfl ?_
  have B : lV m9 b8 r := ⟨y, ey, yn, yr, (yc 0 (by omega)).trans hr.1, (yc 1 (by omega)).trans hr.2.1, (yc 2 (by omega)).trans hr.2.2.1, (yc 3 (by omega)).trans hr.2.2.2⟩
  have i9 := i.keep K9
  have K19 := K.trans K9
  rw [B.l3]
  unfold oV at hk
  refine oY R.z (zD _ (fun c1 => ?_) fun c1 => oY R.z (zD _ (fun c2 => ?_) fun c2 => ?_))
  .rw [c1, if_pos rfl] at hk; exact bG i9 R ⟨K19, hk⟩
  .rw [c1, if_neg (by simp), c2, if_pos rfl] at hk; exact bG i9 R ⟨K19, hk⟩
  .rw [c1, if_neg (by simp), c2, if_neg (by simp)] at hk; exact bG i9 R ⟨K19, hk⟩
theorem zRk (hc : tQ c x) (hi : 0 <= x.i) {k : Int -> Bool -> Mem -> Prop} (hk : k (zAa x).1 (zAa x).2 m) : F37 c m k := by
 unfold F37
 refine sO hc fun b m1 hb K i O => i.lg fun c3 h3 => zMm h3 hi ?_
 unfold zAa at hk
 cases hr : wN x with
 | false => rw [hr] at hk; exact zG rfl ⟨K, hk⟩
 | true =>
  rw [hr, if_pos rfl] at hk
  have ok := (tR x hi).1 hr
  refine zB rfl ?_
  rw [i.l0]
  refine zAe (fun hn c hr => ?_) fun r c hs hr => ?_
  .have hs := zC2 x.k.toNat (by have := ok.k0; have := ok.k1; omega) (by have := ok.k0; omega)
   rw [show ((x.k.toNat : Nat) : Int) = x.k by have := ok.k0; omega, hn] at hs; cases hs
  obtain ⟨R, e⟩ := dS hs
  refine kV fun b8 m9 y hb8 K9 ey yn yr yc => ?_
  have B : lV m9 b8 r := ⟨y, ey, yn, yr, (yc 0 (by omega)).trans hr.1, (yc 1 (by omega)).trans hr.2.1, (yc 2 (by omega)).trans hr.2.2.1, (yc 3 (by omega)).trans hr.2.2.2⟩
  have i9 := i.keep K9
  have K19 := K.trans K9
  rw [B.l0, i9.l1, i9.l2, i9.l3, i9.l4, i9.l5, B.l0]
  -- the word in the reference's order
  have key : ∀ v, v = vI (vI (vI (vI (vI (vI (IntKind.wrap .u32 (IntKind.wrap .u32 r.op * 67108864)) (IntKind.wrap .u32 (IntKind.wrap .u32 x.s * 2097152))) (IntKind.wrap .u32 (IntKind.wrap .u32 x.t * 65536))) (IntKind.wrap .u32 (IntKind.wrap .u32 x.d * 2048))) (IntKind.wrap .u32 (IntKind.wrap .u32 x.h * 64))) x.i) (zZs r) -> k v true m := fun v hv => by
   have : v = vI (zBj x.k) (xG x) := by
    rw [hv, <- e, R.w]
    unfold xG
    generalize IntKind.wrap .u32 (IntKind.wrap .u32 r.op * 67108864) = A
    generalize IntKind.wrap .u32 (IntKind.wrap .u32 x.s * 2097152) = s
    generalize IntKind.wrap .u32 (IntKind.wrap .u32 x.t * 65536) = t
    generalize IntKind.wrap .u32 (IntKind.wrap .u32 x.d * 2048) = d
    generalize IntKind.wrap .u32 (IntKind.wrap .u32 x.h * 64) = h
    generalize zZs r = M
    have q : vI (vI (vI (vI (vI A s) t) d) h) x.i = vI A (vI (vI (vI (vI s t) d) h) x.i) := by simp only [iA]
    rw [q, iA, yFg _ M, <- iA]
   rw [this]; exact hk
  have hw := wW (vI (vI (vI (vI (IntKind.wrap .u32 (IntKind.wrap .u32 r.op * 67108864)) (IntKind.wrap .u32 (IntKind.wrap .u32 x.s * 2097152))) (IntKind.wrap .u32 (IntKind.wrap .u32 x.t * 65536))) (IntKind.wrap .u32 (IntKind.wrap .u32 x.d * 2048))) (IntKind.wrap .u32 (IntKind.wrap .u32 x.h * 64))) x.i
  have key6 : ∀ q : Bool, decide (r.op = 0 \/ r.op = 28) = q -> kM b8 0 (vI (vI (vI (vI (vI (IntKind.wrap .u32 (IntKind.wrap .u32 r.op * 67108864)) (IntKind.wrap .u32 (IntKind.wrap .u32 x.s * 2097152))) (IntKind.wrap .u32 (IntKind.wrap .u32 x.t * 65536))) (IntKind.wrap .u32 (IntKind.wrap .u32 x.d * 2048))) (IntKind.wrap .u32 (IntKind.wrap .u32 x.h * 64))) x.i) q m9 (fun x33 m34 => (zA m m34 /\ k x33 true m)) := by
   intro q hq
   generalize vI (vI (vI (vI (vI (IntKind.wrap .u32 (IntKind.wrap .u32 r.op * 67108864)) (IntKind.wrap .u32 (IntKind.wrap .u32 x.s * 2097152))) (IntKind.wrap .u32 (IntKind.wrap .u32 x.t * 65536))) (IntKind.wrap .u32 (IntKind.wrap .u32 x.d * 2048))) (IntKind.wrap .u32 (IntKind.wrap .u32 x.h * 64))) x.i = w at key hw
   unfold kM
   simp only [Nat.zero_add]
   unfold zZs at key
   refine zD _ (fun c1 => ?_) fun c1 => ?_
   .rw [c1] at hq
    have hq : r.op = 0 \/ r.op = 28 := by simpa using hq
    rw [if_pos hq] at key
    rw [B.l1]; exact ⟨K19, key _ rfl⟩
   rw [c1] at hq
   have hq : ¬ (r.op = 0 \/ r.op = 28) := by simpa using hq
   rw [if_neg hq] at key
   rw [B.l0]
   refine zD _ (fun c2 => ?_) fun c2 => ?_
   .rw [if_pos (by simpa using c2)] at key
    rw [B.l1]; exact ⟨K19, key _ rfl⟩
   rw [if_neg (by simpa using c2)] at key
   rw [B.l0]
   refine zD _ (fun c3 => ?_) fun c3 => ?_
   .rw [if_pos (by simpa using c3)] at key
    rw [B.l1]
    unfold nU
    simp only [Nat.zero_add]
    refine zD _ (fun c4 => ?_) fun c4 => ?_
    .rw [if_pos (by simpa using c4)] at key
     rw [B.l1]; exact ⟨K19, key _ (iA _ _ _)⟩
    .rw [if_neg (by simpa using c4)] at key
     rw [B.l0]
     refine zG c3 ?_
     rw [B.l1]; exact ⟨K19, key _ rfl⟩
   .rw [if_neg (by simpa using c3), tF hw] at key
    unfold nU
    simp only [Nat.zero_add]
    refine zB rfl ?_
    rw [B.l0]
    exact zB c3 ⟨K19, key _ rfl⟩
  refine zD _ (fun c1 => key6 true (by have : r.op = 0 := by simpa using c1
                                       simp [this])) fun c1 => ?_
  rw [B.l0]
  refine key6 _ ?_
  have : ¬ r.op = 0 := by simpa using c1
  rw [Bool.eq_iff_iff]; simp [this]
end
theorem qE (n : Int) : wC (IntKind.wrap .u32 n) := wO n
theorem yLl {n : Int} (h : wC n) : IntKind.wrap .u32 n = n := by rw [yV, Int.emod_eq_of_lt h.1 h.2]
def yPf : Nat -> Int -> Int
 | 0, x => x
 | n + 1, x => yPf n (bits .or .u32 (x.fdiv 2) (bits .and .u32 x 2147483648))
theorem yEz : ∀ (n : Nat) (x : Int), wC x -> wC (yPf n x)
 | 0, x, h => h
 | n + 1, x, h => yEz n _ (rB _ _)
def oF (x : Int) (b : Bool) : Int := if b = true /\ x >= 2147483648 then IntKind.wrap .i64 (IntKind.wrap .i64 x - 4294967296) else IntKind.wrap .i64 x
def zNi (a b : Int) (s : Bool) : Int × Int :=
 let p := IntKind.wrap .u64 ((IntKind.wrap .u64 a) * (IntKind.wrap .u64 b))
 let h0 := IntKind.wrap .u32 (p.fdiv 4294967296)
 let h1 := if s = true /\ a >= 2147483648 then IntKind.wrap .u32 (h0 - b) else h0
 let h2 := if s = true /\ b >= 2147483648 then IntKind.wrap .u32 (h1 - a) else h1
 (h2, IntKind.wrap .u32 p)
theorem zTt (a b : Int) (s : Bool) : wC (zNi a b s).1 /\ wC (zNi a b s).2 := by
 unfold zNi
 dsimp only
 refine ⟨?_, qE _⟩
 split
 .exact qE _
 .split <;> exact qE _
def zF7 (a b : Int) (s : Bool) : Int × Int := if b = 0 then (4294967295, a) else (IntKind.wrap .u32 (IntKind.wrap .i64 ((oF a s).tdiv (oF b s))), IntKind.wrap .u32 ((oF a s).tmod (oF b s)))
theorem zTk {a b : Int} (ha : wC a) (s : Bool) : wC (zF7 a b s).1 /\ wC (zF7 a b s).2 := by
 unfold zF7
 split
 .exact ⟨(⟨by decide, by decide⟩ : wC 4294967295), ha⟩
 .exact ⟨qE _, qE _⟩
def yX4 (x : Int) : Nat -> Int -> Int
 | 0, n => n
 | j + 1, n => if bits .and .u32 (x.fdiv (2 ^ j)) 1 = 1 then n else yX4 x j (n + 1)
def ySf (x : Int) : Int := yX4 x 32 0
def zY7 (b : Bool) : Int := if b = true then 1 else 0
section
variable {m0 m : Mem}
structure Op19 where
 k : Int
 d : Int
 a : Int
 b : Int
 i : Int
def gN (c : Nat -> AV) (o : Op19) : Prop := c 0 = .flat (.int .i64 o.k) /\ c 1 = .flat (.int .i64 o.d) /\ c 2 = .flat (.int .i64 o.a) /\ c 3 = .flat (.int .i64 o.b) /\ c 4 = .flat (.int .u32 o.i)
structure OpR (o : Op19) : Prop where
 k : 0 <= o.k /\ o.k <= 22
 d : 0 <= o.d /\ o.d < 40
 a : 0 <= o.a /\ o.a < 40
 b : 0 <= o.b /\ o.b < 40
 i : wC o.i
def zAt (k a b i : Int) : Int :=
 if k = 1 then i else if k = 2 then a else if k = 3 then IntKind.wrap .u32 (a + b) else if k = 4 then IntKind.wrap .u32 (a - b) else if k = 5 then bits .and .u32 a b else if k = 6 then bits .or .u32 a b else if k = 7 then bits .xor .u32 a b
 else if k = 8 then bits .xor .u32 4294967295 (bits .or .u32 a b) else if k = 9 then IntKind.wrap .u32 (a * 2 ^ min (b % 32).toNat 32) else if k = 10 then a.fdiv (2 ^ min (b % 32).toNat 32) else if k = 11 then yPf (b % 32).toNat a
 else if k = 12 then zY7 (decide (oF a true < oF b true)) else if k = 13 then zY7 (decide (oF a false < oF b false)) else if k = 14 then (zNi a b true).2 else if k = 15 then IntKind.wrap .u32 (ySf a) else if k = 16 then IntKind.wrap .u32 (ySf (bits .xor .u32 4294967295 a)) else a
theorem yFn {k a b i : Int} (ha : wC a) (hi : wC i) : wC (zAt k a b i) := by
 have bu : ∀ q, wC (zY7 q) := fun q => by unfold zY7; split <;> exact ⟨by decide, by decide⟩
 have sh : wC (a.fdiv (2 ^ min (b % 32).toNat 32)) := by
  have hp : (0 : Int) < 2 ^ min (b % 32).toNat 32 := Int.pow_pos (by decide)
  rw [mH _ _ (Int.le_of_lt hp)]
  exact ⟨Int.ediv_nonneg ha.1 (Int.le_of_lt hp), Int.lt_of_le_of_lt (Int.ediv_le_self _ ha.1) ha.2⟩
 unfold zAt
 by_cases c1 : k = 1
 .rw [if_pos c1]; exact hi
 rw [if_neg c1]
 by_cases c2 : k = 2
 .rw [if_pos c2]; exact ha
 rw [if_neg c2]
 by_cases c3 : k = 3
 .rw [if_pos c3]; exact qE _
 rw [if_neg c3]
 by_cases c4 : k = 4
 .rw [if_pos c4]; exact qE _
 rw [if_neg c4]
 by_cases c5 : k = 5
 .rw [if_pos c5]; exact uN _ _
 rw [if_neg c5]
 by_cases c6 : k = 6
 .rw [if_pos c6]; exact rB _ _
 rw [if_neg c6]
 by_cases c7 : k = 7
 .rw [if_pos c7]; exact zWt _ _
 rw [if_neg c7]
 by_cases c8 : k = 8
 .rw [if_pos c8]; exact zWt _ _
 rw [if_neg c8]
 by_cases c9 : k = 9
 .rw [if_pos c9]; exact qE _
 rw [if_neg c9]
 by_cases c10 : k = 10
 .rw [if_pos c10]; exact sh
 rw [if_neg c10]
 by_cases c11 : k = 11
 .rw [if_pos c11]; exact yEz _ _ ha
 rw [if_neg c11]
 by_cases c12 : k = 12
 .rw [if_pos c12]; exact bu _
 rw [if_neg c12]
 by_cases c13 : k = 13
 .rw [if_pos c13]; exact bu _
 rw [if_neg c13]
 by_cases c14 : k = 14
 .rw [if_pos c14]; exact (zTt _ _ _).2
 rw [if_neg c14]
 by_cases c15 : k = 15
 .rw [if_pos c15]; exact qE _
 rw [if_neg c15]
 by_cases c16 : k = 16
 .rw [if_pos c16]; exact qE _
 rw [if_neg c16]
 exact ha
def xS (f : Nat -> Int) (o : Op19) : Nat -> Int :=
 let a := f o.a.toNat
 let b := f o.b.toNat
 if o.k = 0 then f else if o.k = 17 \/ o.k = 18 then upd (upd f 32 (zNi a b (o.k == 17)).1) 33 (zNi a b (o.k == 17)).2
 else if o.k = 19 \/ o.k = 20 then upd (upd f 33 (zF7 a b (o.k == 19)).1) 32 (zF7 a b (o.k == 19)).2
 else if (o.k = 21 \/ o.k = 22) /\ (b == 0) ≠ (o.k == 21) then f
 else if o.d > 0 then upd f o.d.toNat (zAt o.k a b o.i) else f
def xC (f : Nat -> Int) (l : List Op19) : Nat -> Int := l.foldl xS f
def aK (f : Nat -> Int) : Prop := ∀ i, wC (f i)
theorem zH1 {f : Nat -> Int} (h : aK f) (i : Nat) {v : Int} (hv : wC v) : aK (upd f i v) := fun j => by
 unfold upd; split
 .exact hv
 .exact h j
theorem zB8 {f : Nat -> Int} (h : aK f) {o : Op19} (ho : OpR o) : aK (xS f o) := by
 unfold xS
 dsimp only
 split
 .exact h
 split
 .exact zH1 (zH1 h _ (zTt _ _ _).1) _ (zTt _ _ _).2
 split
 .exact zH1 (zH1 h _ (zTk (h _) _).1) _ (zTk (h _) _).2
 split
 .exact h
 split
 .exact zH1 h _ (yFn (h _) ho.i)
 .exact h
def lY (m : Mem) (b : Nat) (o : Op19) : Prop := ∃ y, m.obj b = some y /\ y.n = 5 /\ gN y.c o
theorem lY.l0 {b : Nat} {o : Op19} (h : lY m b o) (k : Int -> Prop) : zR .i64 m b 0 k = k o.k := by obtain ⟨z, e, n, h0, h1, h2, h3, h4⟩ := h; exact yW e (by omega) h0
theorem lY.l1 {b : Nat} {o : Op19} (h : lY m b o) (k : Int -> Prop) : zR .i64 m b 1 k = k o.d := by obtain ⟨z, e, n, h0, h1, h2, h3, h4⟩ := h; exact yW e (by omega) h1
theorem lY.l2 {b : Nat} {o : Op19} (h : lY m b o) (k : Int -> Prop) : zR .i64 m b 2 k = k o.a := by obtain ⟨z, e, n, h0, h1, h2, h3, h4⟩ := h; exact yW e (by omega) h2
theorem lY.l3 {b : Nat} {o : Op19} (h : lY m b o) (k : Int -> Prop) : zR .i64 m b 3 k = k o.b := by obtain ⟨z, e, n, h0, h1, h2, h3, h4⟩ := h; exact yW e (by omega) h3
theorem lY.l4 {b : Nat} {o : Op19} (h : lY m b o) (k : Int -> Prop) : zR .u32 m b 4 k = k o.i := by obtain ⟨z, e, n, h0, h1, h2, h3, h4⟩ := h; exact yW e (by omega) h4
def xV (m : Mem) (v : AV) (l : List Op19) : Prop := ∃ c : Nat -> AV, IsR m 5 v l.length c /\ ∀ i, (h : i < l.length) -> gN (fun j => c (i * 5 + j)) l[i]
theorem xV.keep {m' : Mem} {v : AV} {l : List Op19} (h : xV m v l) (K : zA m m') : xV m' v l := by
 obtain ⟨c, h1, h2⟩ := h; exact ⟨c, h1.keep K, h2⟩
theorem xV.fr {m' : Mem} {S : Nat -> Prop} {v : AV} {l : List Op19} (h : xV m v l) (F : Fr S m m') (hs : ∀ b, own v b -> ¬ S b) : xV m' v l := by
 obtain ⟨c, h1, h2⟩ := h; exact ⟨c, h1.fr F hs, h2⟩
theorem xV.len {v : AV} {l : List Op19} (h : xV m v l) (k : Int -> Prop) : xJ v k = k (l.length : Int) := by
 obtain ⟨c, h1, h2⟩ := h; exact vB h1 k
theorem xV.ld {v : AV} {l : List Op19} (h : xV m v l) (i : Nat) (hi : i < l.length) {k : (Nat -> AV) -> Prop} (hk : ∀ c, gN c l[i] -> k c) : vD v fun b o q p => kif (decide (0 <= (i : Int)) && decide ((i : Int) < q)) (yN 5 m b (o + (i : Int).toNat * 5) k) False := by
 obtain ⟨c, h1, h2⟩ := h
 refine yBb h1 (by omega) (by omega) fun d hd => hk d ?_
 obtain ⟨a0, a1, a2, a3, a4⟩ := h2 i hi
 simp only [Int.toNat_natCast] at hd
 exact ⟨(hd 0 (by omega)).trans a0, (hd 1 (by omega)).trans a1, (hd 2 (by omega)).trans a2, (hd 3 (by omega)).trans a3, (hd 4 (by omega)).trans a4⟩
end
def KL : List Int := [0, 9, 10, 11, 9, 10, 11, 0, 0, 21, 22, 0, 0, 0, 0, 0, 0, 0, 17, 18, 19, 20, 0, 3, 0, 4, 5, 6, 7, 8, 12, 13, 0, 0, 0, 0, 0, 0, 0, 0, 0, 0, 0, 0, 0, 0, 0, 3, 12, 13, 5, 6, 7, 0, 0, 0, 0, 0, 0, 0, 0, 0, 0, 14, 15, 16, 0, 0, 0, 0, 0, 0, 0, 0, 0, 0, 0, 0]
def sS (k : Int) : Int := KL.getD k.toNat 0
theorem yK3 {m : Mem} {k : Int -> Mem -> Prop} : ∀ n : Nat, n < 78 -> zRh (n : Int) m k = (zA m m /\ k (KL.getD n 0) m)
 | 0, _ => by kernel_rfl
 | 1, _ => by kernel_rfl
 | 2, _ => by kernel_rfl
 | 3, _ => by kernel_rfl
 | 4, _ => by kernel_rfl
 | 5, _ => by kernel_rfl
 | 6, _ => by kernel_rfl
 | 7, _ => by kernel_rfl
 | 8, _ => by kernel_rfl
 | 9, _ => by kernel_rfl
 | 10, _ => by kernel_rfl
 | 11, _ => by kernel_rfl
 | 12, _ => by kernel_rfl
 | 13, _ => by kernel_rfl
 | 14, _ => by kernel_rfl
 | 15, _ => by kernel_rfl
 | 16, _ => by kernel_rfl
 | 17, _ => by kernel_rfl
 | 18, _ => by kernel_rfl
 | 19, _ => by kernel_rfl
 | 20, _ => by kernel_rfl
 | 21, _ => by kernel_rfl
 | 22, _ => by kernel_rfl
 | 23, _ => by kernel_rfl
 | 24, _ => by kernel_rfl
 | 25, _ => by kernel_rfl
 | 26, _ => by kernel_rfl
 | 27, _ => by kernel_rfl
 | 28, _ => by kernel_rfl
 | 29, _ => by kernel_rfl
 | 30, _ => by kernel_rfl
 | 31, _ => by kernel_rfl
 | 32, _ => by kernel_rfl
 | 33, _ => by kernel_rfl
 | 34, _ => by kernel_rfl
 | 35, _ => by kernel_rfl
 | 36, _ => by kernel_rfl
 | 37, _ => by kernel_rfl
 | 38, _ => by kernel_rfl
 | 39, _ => by kernel_rfl
 | 40, _ => by kernel_rfl
 | 41, _ => by kernel_rfl
 | 42, _ => by kernel_rfl
 | 43, _ => by kernel_rfl
 | 44, _ => by kernel_rfl
 | 45, _ => by kernel_rfl
 | 46, _ => by kernel_rfl
 | 47, _ => by kernel_rfl
 | 48, _ => by kernel_rfl
 | 49, _ => by kernel_rfl
 | 50, _ => by kernel_rfl
 | 51, _ => by kernel_rfl
 | 52, _ => by kernel_rfl
 | 53, _ => by kernel_rfl
 | 54, _ => by kernel_rfl
 | 55, _ => by kernel_rfl
 | 56, _ => by kernel_rfl
 | 57, _ => by kernel_rfl
 | 58, _ => by kernel_rfl
 | 59, _ => by kernel_rfl
 | 60, _ => by kernel_rfl
 | 61, _ => by kernel_rfl
 | 62, _ => by kernel_rfl
 | 63, _ => by kernel_rfl
 | 64, _ => by kernel_rfl
 | 65, _ => by kernel_rfl
 | 66, _ => by kernel_rfl
 | 67, _ => by kernel_rfl
 | 68, _ => by kernel_rfl
 | 69, _ => by kernel_rfl
 | 70, _ => by kernel_rfl
 | 71, _ => by kernel_rfl
 | 72, _ => by kernel_rfl
 | 73, _ => by kernel_rfl
 | 74, _ => by kernel_rfl
 | 75, _ => by kernel_rfl
 | 76, _ => by kernel_rfl
 | 77, _ => by kernel_rfl
 | n + 78, h => absurd h (by omega)
theorem zPv {x : Int} (h0 : 0 <= x) (h1 : x < 78) {m : Mem} {k : Int -> Mem -> Prop} (hk : k (sS x) m) : zRh x m k := by
 obtain ⟨n, rfl, hn⟩ := oN (p := 78) h0 h1
 rw [yK3 n hn]
 exact ⟨zA.self m, hk⟩
theorem zYx : ∀ n, n < 78 -> 0 <= KL.getD n 0 /\ KL.getD n 0 <= 22 := by decide
theorem yIr {x : Int} (h0 : 0 <= x) (h1 : x < 78) : 0 <= sS x /\ sS x <= 22 := by
 obtain ⟨n, rfl, hn⟩ := oN (p := 78) h0 h1
 exact zYx n hn
theorem yIp (x : Int) : IntKind.wrap .i32 x = if x % 4294967296 >= 2147483648 then x % 4294967296 - 4294967296 else x % 4294967296 := by
 simp [IntKind.wrap, IntKind.bits, IntKind.signed]
def sxV (v : Int) : Int := if v < 32768 then v else v + 4294901760
theorem ySt {v : Int} (h0 : 0 <= v) (h1 : v < 65536) : wC (sxV v) := by unfold sxV wC; split <;> omega
section
variable {m : Mem}
theorem pS {v : Int} (h0 : 0 <= v) (h1 : v < 65536) {k : Int -> Mem -> Prop} (hk : k (sxV v) m) : zAq v 16 m k := by
 unfold zAq
 (repeat (first | refine zG (by decide) ?_ | refine zB (by decide) ?_ | refine ⟨zA.self _, ?_⟩))
 have e' : IntKind.wrap .u32 ((IntKind.wrap .i32 (IntKind.wrap .u32 (v * 2 ^ min (IntKind.wrap .i64 (32 - 16)).toNat 32))).fdiv (2 ^ min (bits .and .i64 (IntKind.wrap .i64 (32 - 16)) 31).toNat 32)) = sxV v := by
  rw [show (2 : Int) ^ min (bits .and .i64 (IntKind.wrap .i64 (32 - 16)) 31).toNat 32 = 65536 by decide, show (2 : Int) ^ min (IntKind.wrap .i64 (32 - 16)).toNat 32 = 65536 by decide]
  unfold sxV
  rw [yV, yIp, yV, mH _ _ (by decide)]
  split <;> split <;> omega
 rw [e']
 exact hk
def oE (x : In) : Int := if (1 <= x.k /\ x.k <= 6) \/ (22 <= x.k /\ x.k <= 31) \/ (46 <= x.k /\ x.k <= 53) \/ (63 <= x.k /\ x.k <= 65) then (if 46 <= x.k /\ x.k <= 53 then x.t else x.d) else 0
theorem zM7 {x : Int} {k : Bool -> Mem -> Prop} (hk : k (decide ((1 <= x /\ x <= 6) \/ (22 <= x /\ x <= 31) \/ (46 <= x /\ x <= 53) \/ (63 <= x /\ x <= 65))) m) : zSw x m k := by
 unfold zSw
 have t : ((1 <= x /\ x <= 6) \/ (22 <= x /\ x <= 31) \/ (46 <= x /\ x <= 53) \/ (63 <= x /\ x <= 65)) -> zA m m /\ k true m := fun h => by rw [decide_eq_true h] at hk; exact ⟨zA.self m, hk⟩
 have f : ¬ ((1 <= x /\ x <= 6) \/ (22 <= x /\ x <= 31) \/ (46 <= x /\ x <= 53) \/ (63 <= x /\ x <= 65)) -> zA m m /\ k false m := fun h => by rw [decide_eq_false h] at hk; exact ⟨zA.self m, hk⟩
 have l : 63 <= x -> zA m m /\ k (decide (x <= 65)) m := fun h => by
  by_cases c : x <= 65
  .rw [decide_eq_true c]; exact t (by omega)
  .rw [decide_eq_false c]; exact f (by omega)
 have D : ∀ {p : Prop} [Decidable p], decide p = true -> p := fun h => by simpa using h
 have N : ∀ {p : Prop} [Decidable p], decide p = false -> ¬ p := fun h => by simpa using h
 have last : (¬ (1 <= x /\ x <= 6)) -> ¬ (22 <= x /\ x <= 31) -> ¬ (46 <= x /\ x <= 53) -> kif (decide (x >= 63)) ((zA m m /\ k (decide (x <= 65)) m)) ((zA m m /\ k false m)) := fun a b c => zD _ (fun h => l (by have := D h; omega)) fun h => f (by have := N h; omega)
 have mid : (¬ (1 <= x /\ x <= 6)) -> ¬ (22 <= x /\ x <= 31) -> kif (decide (x >= 46)) (kif (decide (x <= 53)) ((zA m m /\ k true m)) (kif (decide (x >= 63)) ((zA m m /\ k (decide (x <= 65)) m)) ((zA m m /\ k false m)))) (kif (decide (x >= 63)) ((zA m m /\ k (decide (x <= 65)) m)) ((zA m m /\ k false m))) := fun a b =>
  zD _ (fun h => zD _ (fun h2 => t (by have := D h; have := D h2; omega)) fun h2 => last a b (by have := N h2; omega)) fun h => last a b (by have := N h; omega)
 have fst : (¬ (1 <= x /\ x <= 6)) -> kif (decide (x >= 22)) (kif (decide (x <= 31)) ((zA m m /\ k true m)) (kif (decide (x >= 46)) (kif (decide (x <= 53)) ((zA m m /\ k true m)) (kif (decide (x >= 63)) ((zA m m /\ k (decide (x <= 65)) m)) ((zA m m /\ k false m)))) (kif (decide (x >= 63)) ((zA m m /\ k (decide (x <= 65)) m)) ((zA m m /\ k false m))))) (kif (decide (x >= 46)) (kif (decide (x <= 53)) ((zA m m /\ k true m)) (kif (decide (x >= 63)) ((zA m m /\ k (decide (x <= 65)) m)) ((zA m m /\ k false m)))) (kif (decide (x >= 63)) ((zA m m /\ k (decide (x <= 65)) m)) ((zA m m /\ k false m)))) := fun a =>
  zD _ (fun h => zD _ (fun h2 => t (by have := D h; have := D h2; omega)) fun h2 => mid a (by have := N h2; omega)) fun h => mid a (by have := N h; omega)
 exact zD _ (fun h => zD _ (fun h2 => t (by have := D h; have := D h2; omega)) fun h2 => fst (by have := N h2; omega)) fun h => fst (by have := N h; omega)
theorem gZ {c : Nat -> AV} {x : In} (hc : tQ c x) {k : Int -> Mem -> Prop} (hk : k (oE x) m) : yCj c m k := by
 unfold yCj
 refine sO hc fun b m1 hb K i O => ?_
 rw [i.l0]
 refine zM7 ?_
 simp only [i.l0, i.l2, i.l3]
 unfold oE at hk
 refine zD _ (fun h => ⟨K, ?_⟩) fun h => zD _ (fun h2 => zD _ (fun h3 => ⟨K, ?_⟩) fun h3 => ⟨K, ?_⟩) fun h2 => ⟨K, ?_⟩
 .rw [if_neg (by rw [Bool.not_eq_true', decide_eq_false_iff_not] at h; exact h)] at hk; exact hk
 all_goals
  have hh : ((1 <= x.k /\ x.k <= 6) \/ (22 <= x.k /\ x.k <= 31) \/ (46 <= x.k /\ x.k <= 53) \/ (63 <= x.k /\ x.k <= 65)) := by rw [Bool.not_eq_false', decide_eq_true_iff] at h; exact h
  rw [if_pos hh] at hk
 .rw [if_pos (by simp at h2 h3; omega)] at hk; exact hk
 .rw [if_neg (by simp at h2 h3; omega)] at hk; exact hk
 .rw [if_neg (by simp at h2; omega)] at hk; exact hk
def zLl (x : In) : Int := if x.k = 50 \/ x.k = 51 \/ x.k = 52 then x.i else sxV x.i
theorem zWv {c : Nat -> AV} {x : In} (hc : tQ c x) (h0 : 0 <= x.i) (h1 : x.i < 65536) {k : Int -> Mem -> Prop} (hk : k (zLl x) m) : yGx c m k := by
 unfold yGx
 refine sO hc fun b m1 hb K i O => ?_
 simp only [i.l0, i.l5]
 unfold zLl at hk
 refine zD _ (fun h => ⟨K, ?_⟩) fun h => zD _ (fun h2 => ⟨K, ?_⟩) fun h2 => zD _ (fun h3 => ⟨K, ?_⟩) fun h3 => pS h0 h1 ⟨K, ?_⟩
 .rw [if_pos (by simp at h; omega)] at hk; exact hk
 .rw [if_pos (by simp at h2; omega)] at hk; exact hk
 .rw [if_pos (by simp at h3; omega)] at hk; exact hk
 .rw [if_neg (by simp at h h2 h3; omega)] at hk; exact hk
theorem yEj : ∀ n, n < 53 -> 46 <= n -> wQ (aH.getD n 0) <= 65535 := by decide
theorem yMy {x : In} (ok : OK x) (h : 46 <= x.k) (h2 : x.k <= 52) : x.i < 65536 := by
 obtain ⟨n, e, hn⟩ := oN (p := 53) (n := x.k) (by omega) (by omega)
 have := yEj n hn (by omega)
 have hi := ok.i1
 rw [e] at hi
 have : wQ (fl (n : Int)) <= 65535 := this
 omega
def yX (x : In) : Bool := wN x && (zT x.k == 1)
theorem zJ7 {c : Nat -> AV} {x : In} (hc : tQ c x) (hi : 0 <= x.i) {k : Bool -> Mem -> Prop} (hk : k (yX x) m) : F97 c m k := by
 unfold F97
 unfold yX at hk
 refine sO hc fun b m1 hb K i O => i.lg fun c3 h3 => zEx h3 hi (zD _ (fun h => i.lg fun c6 h6 => vQ h6 ⟨K, ?_⟩) fun h => ⟨K, ?_⟩)
 .rw [h, Bool.true_and] at hk; exact hk
 .rw [h, Bool.false_and] at hk; exact hk
def yJ (x : In) : List Op19 :=
 if yX x = false \/ x.k = 13 \/ x.k = 76 \/ x.k = 77 then [] else if x.k = 53 then [⟨1, x.t, 0, 0, IntKind.wrap .u32 (x.i * 65536)⟩] else if x.k = 14 then [⟨2, x.d, 32, 0, 0⟩] else if x.k = 16 then [⟨2, x.d, 33, 0, 0⟩]
 else if x.k = 15 then [⟨2, 32, x.s, 0, 0⟩] else if x.k = 17 then [⟨2, 33, x.s, 0, 0⟩] else if x.k <= 3 then [⟨1, 34, 0, 0, IntKind.wrap .u32 x.h⟩, ⟨sS x.k, x.d, x.t, 34, 0⟩] else if x.k <= 6 then [⟨sS x.k, x.d, x.t, x.s, 0⟩]
 else if oE x = x.t /\ 46 <= x.k /\ x.k <= 52 then [⟨1, 34, 0, 0, zLl x⟩, ⟨sS x.k, x.t, x.s, 34, 0⟩] else [⟨sS x.k, x.d, x.s, x.t, 0⟩]
theorem zK8 {b : Nat} {m' : Mem} {c : Nat -> AV} {t : TypeId} {o : Op19} (e : m'.obj b = some ⟨5, c, t, false⟩) (h : gN c o) : xV m' (.sl b 0 1 (.ex 1)) [o] :=
 ⟨c, (IsL.row (esz := 5) e rfl rfl).r, fun i hi => by
  have : i = 0 := by simpa using hi
  subst this
  simpa [gN] using h⟩
theorem yTc {b : Nat} {m' : Mem} {c : Nat -> AV} {t : TypeId} {o p : Op19} (e : m'.obj b = some ⟨10, c, t, false⟩) (h : gN c o) (h2 : gN (fun j => c (5 + j)) p) : xV m' (.sl b 0 2 (.ex 2)) [o, p] :=
 ⟨c, (IsL.row (esz := 5) e rfl rfl).r, fun i hi => by
  have : i = 0 \/ i = 1 := by simp at hi; omega
  rcases this with rfl | rfl
  .simpa [gN] using h
  .simpa [gN] using h2⟩
theorem zZq {c : Nat -> AV} {x : In} (hc : tQ c x) (hi : 0 <= x.i) {k : AV -> Mem -> Prop} (hk : ∀ v m', xV m' v (yJ x) -> zA m m' -> (∀ b, own v b -> m.obj b = none) -> k v m') : yH0 c m k := by
 unfold yH0
 refine sO hc fun b2 m1 hb K i O => ?_
 rw [i.l0]
 refine i.lg fun c4 h4 => zJ7 h4 hi ?_
 have nil : (yX x = false \/ x.k = 13 \/ x.k = 76 \/ x.k = 77) -> tU b2 0 x.k true m1 (fun v63 m64 => k v63 m64) (fun m65 => vX b2 0 x.k m65 (fun v83 m84 => k v83 m84)) := fun h => by
  unfold tU
  refine zG rfl (hk _ m1 ?_ K fun b e => e.elim)
  unfold yJ; rw [if_pos h]
  exact ⟨fun _ => .junk, .nil none _, fun i hi => by simp at hi⟩
 refine zD _ (fun h => nil (.inl (by simpa using h))) fun h => zD _ (fun h2 => nil (by simp at h2; omega)) fun h2 => zD _ (fun h3 => nil (by simp at h3; omega)) fun h3 => ?_
 have hp : yX x = true := by simpa using h
 simp only [beq_eq_false_iff_ne] at h2 h3
 by_cases h77 : x.k = 77
 .have e : (x.k == 77) = true := by simpa using h77
  rw [e]; exact nil (by omega)
 have e77 : (x.k == 77) = false := by simpa using h77
 rw [e77]
 have no : ¬ (yX x = false \/ x.k = 13 \/ x.k = 76 \/ x.k = 77) := fun h => by
  rcases h with h | h | h | h
  .rw [hp] at h; cases h
  .exact h2 h
  .exact h3 h
  .exact h77 h
 have hr : wN x = true := by unfold yX at hp; simp at hp; exact hp.1
 have ok := (tR x hi).1 hr
 unfold yJ at hk
 rw [if_neg no] at hk
 have k0 := ok.k0
 have k1 := ok.k1
 have fr : ∀ {mm : Mem} {b : Nat}, zA m1 mm -> mm.obj b = none -> ∀ b', own (.sl b 0 1 (.ex 1)) b' -> m.obj b' = none := fun KK hb' b' e => by cases e; exact zX (K.trans KK) hb'
 have fr2 : ∀ {mm : Mem} {b : Nat}, zA m1 mm -> mm.obj b = none -> ∀ b', own (.sl b 0 2 (.ex 2)) b' -> m.obj b' = none := fun KK hb' b' e => by cases e; exact zX (K.trans KK) hb'
 have kd := @zPv x.k (by omega) k1
 have h20 : ∀ o, o = [⟨sS x.k, x.d, x.s, x.t, 0⟩] -> (∀ v m', xV m' v o -> zA m m' -> (∀ b, own v b -> m.obj b = none) -> k v m') -> vX b2 0 x.k m1 (fun v89 m90 => k v89 m90) := fun o ho hk => by
  subst ho
  unfold vX
  refine ⟨fun _ => True, ?_⟩
  simp only [Nat.zero_add, true_and]
  refine kd ⟨fun _ _ _ => rfl, ?_⟩
  simp only [i.l1, i.l2, i.l3]
  exact zW fun b m2 hb2 K2 e2 O2 => hk _ m2 (zK8 e2 ⟨rfl, rfl, rfl, rfl, rfl⟩) (K.trans K2) (fr (zA.self m1) hb2)
 unfold tU
 simp only [Nat.zero_add, i.l0, i.l1, i.l2, i.l3, i.l4, i.l5]
 refine zB rfl (zD _ (fun c => ?_) fun c53 => zD _ (fun c => ?_) fun c14 => zD _ (fun c => ?_) fun c16 => zD _ (fun c => ?_) fun c15 => zD _ (fun c => ?_) fun c17 => zD _ (fun c => ?_) fun c3 => zD _ (fun c => ?_) fun c6 => ?_)
 .rw [if_pos (by simpa using c)] at hk
  exact zW fun b m2 hb2 K2 e2 O2 => hk _ m2 (zK8 e2 ⟨rfl, rfl, rfl, rfl, rfl⟩) (K.trans K2) (fr (zA.self m1) hb2)
 all_goals simp only [beq_eq_false_iff_ne] at c53
 all_goals rw [if_neg c53] at hk
 .rw [if_pos (by simpa using c)] at hk
  exact zW fun b m2 hb2 K2 e2 O2 => hk _ m2 (zK8 e2 ⟨rfl, rfl, rfl, rfl, rfl⟩) (K.trans K2) (fr (zA.self m1) hb2)
 all_goals simp only [beq_eq_false_iff_ne] at c14
 all_goals rw [if_neg c14] at hk
 .rw [if_pos (by simpa using c)] at hk
  exact zW fun b m2 hb2 K2 e2 O2 => hk _ m2 (zK8 e2 ⟨rfl, rfl, rfl, rfl, rfl⟩) (K.trans K2) (fr (zA.self m1) hb2)
 all_goals simp only [beq_eq_false_iff_ne] at c16
 all_goals rw [if_neg c16] at hk
 .rw [if_pos (by simpa using c)] at hk
  exact zW fun b m2 hb2 K2 e2 O2 => hk _ m2 (zK8 e2 ⟨rfl, rfl, rfl, rfl, rfl⟩) (K.trans K2) (fr (zA.self m1) hb2)
 all_goals simp only [beq_eq_false_iff_ne] at c15
 all_goals rw [if_neg c15] at hk
 .rw [if_pos (by simpa using c)] at hk
  exact zW fun b m2 hb2 K2 e2 O2 => hk _ m2 (zK8 e2 ⟨rfl, rfl, rfl, rfl, rfl⟩) (K.trans K2) (fr (zA.self m1) hb2)
 all_goals simp only [beq_eq_false_iff_ne] at c17
 all_goals rw [if_neg c17] at hk
 .rw [if_pos (by simpa using c)] at hk
  refine ⟨fun _ => True, ?_⟩
  simp only [true_and, i.l2, i.l3, i.l4]
  refine kd ⟨fun _ _ _ => rfl, ?_⟩
  simp only [true_and, i.l2, i.l3, i.l4]
  exact zW fun b m2 hb2 K2 e2 O2 => hk _ m2 (yTc e2 ⟨rfl, rfl, rfl, rfl, rfl⟩ ⟨rfl, rfl, rfl, rfl, rfl⟩) (K.trans K2) (fr2 (zA.self m1) hb2)
 all_goals rw [if_neg (c := x.k <= 3) (by simp at c3; omega)] at hk
 .rw [if_pos (by simpa using c)] at hk
  refine ⟨fun _ => True, ?_⟩
  simp only [true_and]
  refine kd ⟨fun _ _ _ => rfl, ?_⟩
  simp only [true_and, i.l1, i.l2, i.l3, i.l4]
  exact zW fun b m2 hb2 K2 e2 O2 => hk _ m2 (zK8 e2 ⟨rfl, rfl, rfl, rfl, rfl⟩) (K.trans K2) (fr (zA.self m1) hb2)
 rw [if_neg (c := x.k <= 6) (by simp at c6; omega)] at hk
 refine ⟨fun _ => True, ?_⟩
 simp only [true_and]
 refine i.lg fun c40 h40 => gZ h40 ⟨fun _ _ _ => rfl, ?_⟩
 rw [i.l2]
 have p19 : ∀ q : Bool, (q = true ↔ oE x = x.t /\ 46 <= x.k /\ x.k <= 52) -> sX b2 0 x.k q m1 (fun v60 m61 => k v60 m61) (fun m62 => vX b2 0 x.k m62 (fun v89 m90 => k v89 m90)) := fun q hq => by
  unfold sX
  refine zD _ (fun c => ?_) fun c => ?_
  .have c := hq.1 c
   rw [if_pos c] at hk
   refine ⟨fun _ => True, ?_⟩
   simp only [true_and, Nat.zero_add]
   have hi2 : x.i < 65536 := yMy ok c.2.1 c.2.2
   refine i.lg fun c45 h45 => zWv h45 hi hi2 ⟨fun _ _ _ => rfl, kd ⟨fun _ _ _ => rfl, ?_⟩⟩
   simp only [i.l1, i.l2]
   exact zW fun b m2 hb2 K2 e2 O2 => hk _ m2 (yTc e2 ⟨rfl, rfl, rfl, rfl, rfl⟩ ⟨rfl, rfl, rfl, rfl, rfl⟩) (K.trans K2) (fr2 (zA.self m1) hb2)
  .rw [if_neg fun h => by rw [hq.2 h] at c; cases c] at hk
   exact h20 _ rfl hk
 refine zD _ (fun c => zD _ (fun c2 => p19 _ (by simp at c c2 ⊢; omega)) fun c2 => p19 _ (by simp at c c2 ⊢; omega)) fun c => p19 _ (by simp at c ⊢; intro h; omega)
end
end Go.Proofs.YtkiggdgphbkneaaGreat.Am
