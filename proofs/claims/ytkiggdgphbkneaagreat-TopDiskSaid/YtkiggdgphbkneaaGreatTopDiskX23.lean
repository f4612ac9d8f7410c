/- Small operations of an instruction: what they change, on what they hang; the program's own run of them in known. Conditions: an instruction is right. The document's machine: its State in a block of 74 cells, one plain instruction run, a machine made. Condition -/
import Derived.Test.YtkiggdgphbkneaaGreatTopDiskX22
namespace Go.Proofs.YtkiggdgphbkneaaGreat.Am
set_option linter.unusedVariables false
set_option linter.unusedSimpArgs false
set_option maxRecDepth 100000
set_option maxHeartbeats 1000000
theorem zC9 {x : In} (hi : 0 <= x.i) : (yJ x).length <= 2 /\ ∀ o ∈ yJ x, OpR o := by
 unfold yJ
 by_cases c : yX x = false \/ x.k = 13 \/ x.k = 76 \/ x.k = 77
 .rw [if_pos c]; exact ⟨by simp, fun o h => by cases h⟩
 rw [if_neg c]
 have hp : yX x = true := by
  cases h : yX x with
  | true => rfl
  | false => exact absurd (.inl h) c
 have hr : wN x = true := by unfold yX at hp; simp at hp; exact hp.1
 have ok := (tR x hi).1 hr
 have k0 := ok.k0
 have k1 := ok.k1
 have s0 := ok.s0
 have s1 := ok.s1
 have t0 := ok.t0
 have t1 := ok.t1
 have d0 := ok.d0
 have d1 := ok.d1
 have kr := yIr (x := x.k) (by omega) k1
 have z : wC 0 := ⟨by decide, by decide⟩
 have one : ∀ o, OpR o -> [o].length <= 2 /\ ∀ p ∈ [o], OpR p := fun o h => ⟨by simp, fun p hp => by simp at hp; subst hp; exact h⟩
 have two : ∀ o q, OpR o -> OpR q -> [o, q].length <= 2 /\ ∀ p ∈ [o, q], OpR p := fun o q h g => ⟨by simp, fun p hp => by simp at hp; rcases hp with rfl | rfl; exact h; exact g⟩
 by_cases c1 : x.k = 53
 .rw [if_pos c1]; exact one _ ⟨⟨by simp, by simp⟩, ⟨t0, by show x.t < 40; omega⟩, ⟨by simp, by simp⟩, ⟨by simp, by simp⟩, qE _⟩
 rw [if_neg c1]
 by_cases c2 : x.k = 14
 .rw [if_pos c2]; exact one _ ⟨⟨by simp, by simp⟩, ⟨d0, by show x.d < 40; omega⟩, ⟨by simp, by simp⟩, ⟨by simp, by simp⟩, z⟩
 rw [if_neg c2]
 by_cases c3 : x.k = 16
 .rw [if_pos c3]; exact one _ ⟨⟨by simp, by simp⟩, ⟨d0, by show x.d < 40; omega⟩, ⟨by simp, by simp⟩, ⟨by simp, by simp⟩, z⟩
 rw [if_neg c3]
 by_cases c4 : x.k = 15
 .rw [if_pos c4]; exact one _ ⟨⟨by simp, by simp⟩, ⟨by simp, by simp⟩, ⟨s0, by show x.s < 40; omega⟩, ⟨by simp, by simp⟩, z⟩
 rw [if_neg c4]
 by_cases c5 : x.k = 17
 .rw [if_pos c5]; exact one _ ⟨⟨by simp, by simp⟩, ⟨by simp, by simp⟩, ⟨s0, by show x.s < 40; omega⟩, ⟨by simp, by simp⟩, z⟩
 rw [if_neg c5]
 by_cases c6 : x.k <= 3
 .rw [if_pos c6]; exact two _ _ ⟨⟨by simp, by simp⟩, ⟨by simp, by simp⟩, ⟨by simp, by simp⟩, ⟨by simp, by simp⟩, qE _⟩ ⟨kr, ⟨d0, by show x.d < 40; omega⟩, ⟨t0, by show x.t < 40; omega⟩, ⟨by simp, by simp⟩, z⟩
 rw [if_neg c6]
 by_cases c7 : x.k <= 6
 .rw [if_pos c7]; exact one _ ⟨kr, ⟨d0, by show x.d < 40; omega⟩, ⟨t0, by show x.t < 40; omega⟩, ⟨s0, by show x.s < 40; omega⟩, z⟩
 rw [if_neg c7]
 by_cases c8 : oE x = x.t /\ 46 <= x.k /\ x.k <= 52
 .rw [if_pos c8]
  have hi2 := yMy ok c8.2.1 c8.2.2
  have iu : wC (zLl x) := by
   unfold zLl; split
   .exact ⟨hi, by omega⟩
   .exact ySt hi hi2
  exact two _ _ ⟨⟨by simp, by simp⟩, ⟨by simp, by simp⟩, ⟨by simp, by simp⟩, ⟨by simp, by simp⟩, iu⟩ ⟨kr, ⟨t0, by show x.t < 40; omega⟩, ⟨s0, by show x.s < 40; omega⟩, ⟨by simp, by simp⟩, z⟩
 rw [if_neg c8]
 exact one _ ⟨kr, ⟨d0, by show x.d < 40; omega⟩, ⟨s0, by show x.s < 40; omega⟩, ⟨t0, by show x.t < 40; omega⟩, z⟩
theorem zBs {f : Nat -> Int} {o : Op19} (ho : OpR o) {k : Nat} (hk : k < 32 \/ k = 34) (h : xS f o k ≠ f k) : (k : Int) = o.d /\ k ≠ 0 := by
 unfold xS at h
 try dsimp only at h
 have up : ∀ (g : Nat -> Int) i v, k ≠ i -> upd g i v k = g k := fun g i v e => by unfold upd; rw [if_neg e]
 split at h
 .exact absurd rfl h
 split at h
 .rw [up _ _ _ (by omega), up _ _ _ (by omega)] at h; exact absurd rfl h
 split at h
 .rw [up _ _ _ (by omega), up _ _ _ (by omega)] at h; exact absurd rfl h
 split at h
 .exact absurd rfl h
 split at h
 .rename_i hd
  by_cases e : k = o.d.toNat
  .exact ⟨by omega, by omega⟩
  .rw [up _ _ _ e] at h; exact absurd rfl h
 .exact absurd rfl h
theorem zE1 (f : Nat -> Int) (im : Int) (k : Nat) : xS f ⟨1, 34, 0, 0, im⟩ k = if k = 34 then im else f k := rfl
theorem zUe {x : In} (hi : 0 <= x.i) (f : Nat -> Int) : ∃ D : Int, ∀ k : Nat, k < 32 -> xC f (yJ x) k ≠ f k -> (k : Int) = D /\ k ≠ 0 /\ (D = x.d \/ D = x.t) := by
 obtain ⟨_, hok⟩ := zC9 hi
 have one : ∀ o, OpR o -> (o.d = x.d \/ o.d = x.t \/ o.d = 32 \/ o.d = 33) -> ∃ D : Int, ∀ k : Nat, k < 32 -> xC f [o] k ≠ f k -> (k : Int) = D /\ k ≠ 0 /\ (D = x.d \/ D = x.t) := fun o ho hd => ⟨o.d, fun k hk h => by
  obtain ⟨e1, e2⟩ := zBs ho (.inl hk) h
  exact ⟨e1, e2, by omega⟩⟩
 have two : ∀ im o, OpR o -> (o.d = x.d \/ o.d = x.t \/ o.d = 32 \/ o.d = 33) -> ∃ D : Int, ∀ k : Nat, k < 32 -> xC f [⟨1, 34, 0, 0, im⟩, o] k ≠ f k -> (k : Int) = D /\ k ≠ 0 /\ (D = x.d \/ D = x.t) := fun im o ho hd => ⟨o.d, fun k hk h => by
  have h : xS (xS f ⟨1, 34, 0, 0, im⟩) o k ≠ f k := h
  have e : xS f ⟨1, 34, 0, 0, im⟩ k = f k := by rw [zE1, if_neg (by omega)]
  rw [<- e] at h
  obtain ⟨e1, e2⟩ := zBs ho (.inl hk) h
  exact ⟨e1, e2, by omega⟩⟩
 unfold yJ at hok ⊢
 by_cases c : yX x = false \/ x.k = 13 \/ x.k = 76 \/ x.k = 77
 .rw [if_pos c]; exact ⟨0, fun k hk h => absurd rfl h⟩
 rw [if_neg c] at hok ⊢
 by_cases c1 : x.k = 53
 .rw [if_pos c1] at hok ⊢; exact one _ (hok _ (by simp)) (by simp)
 rw [if_neg c1] at hok ⊢
 by_cases c2 : x.k = 14
 .rw [if_pos c2] at hok ⊢; exact one _ (hok _ (by simp)) (by simp)
 rw [if_neg c2] at hok ⊢
 by_cases c3 : x.k = 16
 .rw [if_pos c3] at hok ⊢; exact one _ (hok _ (by simp)) (by simp)
 rw [if_neg c3] at hok ⊢
 by_cases c4 : x.k = 15
 .rw [if_pos c4] at hok ⊢; exact one _ (hok _ (by simp)) (by simp)
 rw [if_neg c4] at hok ⊢
 by_cases c5 : x.k = 17
 .rw [if_pos c5] at hok ⊢; exact one _ (hok _ (by simp)) (by simp)
 rw [if_neg c5] at hok ⊢
 by_cases c6 : x.k <= 3
 .rw [if_pos c6] at hok ⊢; exact two _ _ (hok _ (by simp)) (by simp)
 rw [if_neg c6] at hok ⊢
 by_cases c7 : x.k <= 6
 .rw [if_pos c7] at hok ⊢; exact one _ (hok _ (by simp)) (by simp)
 rw [if_neg c7] at hok ⊢
 by_cases c8 : oE x = x.t /\ 46 <= x.k /\ x.k <= 52
 .rw [if_pos c8] at hok ⊢; exact two _ _ (hok _ (by simp)) (by simp)
 rw [if_neg c8] at hok ⊢
 exact one _ (hok _ (by simp)) (by simp)
section
variable {m0 m : Mem}
theorem dV {c : Nat -> AV} {o : Op19} (hc : gN c o) (ho : OpR o) {k : Bool -> Mem -> Prop} (hk : k true m) : zS2 c m k := by
 unfold zS2
 refine zW fun b m1 hb K e O => ?_
 have h : lY m1 b o := ⟨_, e, rfl, hc⟩
 simp only [h.l1, h.l2, h.l3]
 refine zW fun b7 m2 hb7 K2 e7 O7 => ?_
 have h2 : lY m2 b o := by
  obtain ⟨y, e, r⟩ := h
  exact ⟨y, by rw [K2 b (by rw [e]; simp)]; exact e, r⟩
 have hk1 := ho.k
 have fin : zR .i64 m2 b 0 fun x17 => kif (decide (x17 >= 0)) (zR .i64 m2 b 0 fun x18 => (zA m m2 /\ k (decide (x18 <= 22)) m)) ((zA m m2 /\ k false m)) := by
  rw [h2.l0]
  refine zG (by simp; omega) ?_
  rw [h2.l0]
  refine ⟨K.trans K2, ?_⟩
  rw [decide_eq_true (by omega)]; exact hk
 let f3 : Nat -> Int := fun i => if i = 0 then o.d else if i = 1 then o.a else o.b
 have row : IsR m2 1 (.sl b7 0 3 (.ex 3)) 3 (cK .i64 f3) := (IsL.row (esz := 1) e7 rfl rfl).r.congr fun i hi => by
  match i, hi with
  | 0, _ => rfl
  | 1, _ => rfl
  | 2, _ => rfl
 have f3r : ∀ i, 0 <= f3 i /\ f3 i < 40 := fun i => by
  show 0 <= (if i = 0 then o.d else if i = 1 then o.a else o.b) /\ (if i = 0 then o.d else if i = 1 then o.a else o.b) < 40
  split
  .exact ho.d
  split
  .exact ho.a
  .exact ho.b
 have loop : ∀ (j i : Nat), i + j = 3 -> zL4 b 0 (.sl b7 0 3 (.ex 3)) 3 (j + 1) i m2 (fun m13 => zR .i64 m13 b 0 fun x17 => kif (decide (x17 >= 0)) (zR .i64 m13 b 0 fun x18 => (zA m m13 /\ k (decide (x18 <= 22)) m)) ((zA m m13 /\ k false m))) (fun x14 m15 => (zA m m15 /\ k x14 m)) := by
  intro j
  induction j with
  | zero =>
   intro i e
   show bZ _ _ _ _ _ _ _ _ _
   unfold bZ
   exact zB (by simp; omega) fin
  | succ j ih =>
   intro i e
   show bZ _ _ _ _ _ _ _ _ _
   unfold bZ
   rw [zK (n := (i : Int) + 1) (by omega) (by omega)]
   have := f3r i
   exact zG (by simp; omega) (yYs (k := fun _ _ x => kif (decide (x < 0)) _ (kif (decide (x >= 40)) _ _)) row i (by omega) fun _ _ _ => zB (by simp; omega) (zB (by simp; omega) (ih (i + 1) (by omega))))
 exact ⟨4, loop 3 0 (by omega)⟩
theorem yOu {c : Nat -> AV} {k : KV} : yAm 168 ([.agg 5 c] ++ []) m k = yNt c m (fun x m' => k (.flat (.bool x)) m') := by kernel_rfl
theorem yGw {v : AV} {l : List Op19} (hl : l.length <= 8) (hv : xV m v l) (ho : ∀ o ∈ l, OpR o) {k : Bool -> Mem -> Prop} (hk : k false m) : yL2 v (.flat (.func (.func 168) #[] #[])) m k := by
 unfold yL2
 unfold yN8
 rw [hv.len]
 have loop : ∀ (j i : Nat), i + j = l.length -> zJ2 v (.flat (.func (.func 168) #[] #[])) l.length (j + 1) i m (fun m11 => k (decide ((-1 : Int) >= 0)) m11) (fun x12 m13 => k (decide (x12 >= 0)) m13) := by
  intro j
  induction j with
  | zero =>
   intro i e
   show aV _ _ _ _ _ _ _ _
   unfold aV
   exact zB (by simp; omega) hk
  | succ j ih =>
   intro i e
   show aV _ _ _ _ _ _ _ _
   unfold aV
   rw [zK (n := (i : Int) + 1) (by omega) (by omega)]
   refine zG (by simp; omega) (hv.ld i (by omega) fun c hc => ?_)
   dsimp only [mB]
   refine zG rfl ?_
   rw [yOu]
   dsimp only [tP]
   unfold yNt
   refine zW fun b m1 hb K1 e1 O1 => ?_
   rw [xH e1 (by simp)]
   obtain ⟨a0, a1, a2, a3, a4⟩ := hc
   refine dV (c := sub c 0 5) (o := l[i]) (by refine ⟨?_, ?_, ?_, ?_, ?_⟩; exact a0; exact a1; exact a2; exact a3; exact a4) (ho _ (List.getElem_mem _)) ?_
   refine ⟨K1, ?_⟩
   exact zB rfl (ih (i + 1) (by omega))
 exact ⟨l.length + 1, loop l.length 0 (by omega)⟩
end
def yG3 (g : Nat -> Int) (i v : Int) : Nat -> Int := if 0 < i then upd g i.toNat v else g
theorem zBc {i : Nat} (h : i < 36) : lX i = false := by simp [lX]; omega
theorem yAr (g : Nat -> Int) (i : Nat) (v : Int) (k : Nat) : upd g i v k = if k = i then v else g k := rfl
theorem yIo {g : Nat -> Int} {o : Op19} (h1 : 1 <= o.k) (h2 : o.k <= 16) : xS g o = yG3 g o.d (zAt o.k (g o.a.toNat) (g o.b.toNat) o.i) := by
 unfold xS yG3
 dsimp only
 rw [if_neg (by omega), if_neg (by omega), if_neg (by omega), if_neg (by omega)]
section
variable {x : In}
theorem zBw (hp : yX x = true) (h : x.k ≠ 13 /\ x.k ≠ 76 /\ x.k ≠ 77) : ¬ (yX x = false \/ x.k = 13 \/ x.k = 76 \/ x.k = 77) := fun e => by
 rcases e with e | e | e | e
 .rw [hp] at e; cases e
 .exact h.1 e
 .exact h.2.1 e
 .exact h.2.2 e
theorem yPq (hp : yX x = true) (h : x.k = 53) : yJ x = [⟨1, x.t, 0, 0, IntKind.wrap .u32 (x.i * 65536)⟩] := by unfold yJ; rw [if_neg (zBw hp (by omega)), if_pos h]
theorem yQy (hp : yX x = true) (h : 1 <= x.k /\ x.k <= 3) : yJ x = [⟨1, 34, 0, 0, IntKind.wrap .u32 x.h⟩, ⟨sS x.k, x.d, x.t, 34, 0⟩] := by
 unfold yJ; rw [if_neg (zBw hp (by omega)), if_neg (by omega), if_neg (by omega), if_neg (by omega), if_neg (by omega), if_neg (by omega), if_pos h.2]
theorem yCh (hp : yX x = true) (h : 47 <= x.k /\ x.k <= 52) : yJ x = [⟨1, 34, 0, 0, zLl x⟩, ⟨sS x.k, x.t, x.s, 34, 0⟩] := by
 have e : oE x = x.t := by unfold oE; rw [if_pos (by omega), if_pos (by omega)]
 unfold yJ; rw [if_neg (zBw hp (by omega)), if_neg (by omega), if_neg (by omega), if_neg (by omega), if_neg (by omega), if_neg (by omega), if_neg (by omega), if_neg (by omega), if_pos ⟨e, by omega, by omega⟩]
theorem yQ1 (h : 46 <= x.k /\ x.k <= 53) : oE x = x.t := by unfold oE; rw [if_pos (by omega), if_pos h]
theorem yKc {g : Nat -> Int} {im : Int} {o : Op19} (h1 : 1 <= o.k) (h2 : o.k <= 16) (ha : o.a.toNat < 34) (hb : o.b = 34) {i : Nat} (hi : i < 34) : xC g [⟨1, 34, 0, 0, im⟩, o] i = yG3 g o.d (zAt o.k (g o.a.toNat) im o.i) i := by
 show xS (xS g ⟨1, 34, 0, 0, im⟩) o i = _
 rw [yIo h1 h2]
 have e : ∀ j, xS g ⟨1, 34, 0, 0, im⟩ j = if j = 34 then im else g j := fun j => zE1 g im j
 rw [hb, e, e, if_neg (by omega), if_pos (by rfl)]
 unfold yG3
 split
 .rw [yAr, yAr, e, if_neg (c := i = 34) (by omega)]
 .rw [e, if_neg (by omega)]
end
def wG (m : Mem) (b : Nat) (cs : List AV) : Prop := ∃ y, m.obj b = some y /\ y.n = cs.length /\ y.ro = false /\ ∀ i, i < cs.length -> y.c i = zH cs i
section
variable {m m' : Mem} {b : Nat} {cs : List AV} {i : Nat}
theorem wG.fr {S : Nat -> Prop} (h : wG m b cs) (F : Fr S m m') (hb : ¬ S b) : wG m' b cs := by
 obtain ⟨y, e, r⟩ := h
 exact ⟨y, by rw [F b (by rw [e]; simp) hb]; exact e, r⟩
theorem wG.keep (h : wG m b cs) (K : zA m m') : wG m' b cs := h.fr (K.fr fun _ => False) fun h => h
theorem wG.live (h : wG m b cs) : m.obj b ≠ none := by obtain ⟨y, e, _⟩ := h; rw [e]; simp
theorem wG.lI {kd : IntKind} {n : Int} (h : wG m b cs) (hi : i < cs.length) (e : zH cs i = .flat (.int kd n)) (k : Int -> Prop) : zR kd m b i k = k n := by
 obtain ⟨y, ey, hn, hr, hc⟩ := h
 exact yW ey (by omega) ((hc i hi).trans e)
theorem zBh {v : AV} {y : Blk} (e : m.obj b = some y) (hi : i < y.n) (hc : y.c i = v) (h1 : v.one = true) (k : AV -> Prop) : ldA m b i k = k v := by
 unfold ldA kobj
 rw [e]
 simp only [zO, hi, if_true, hc]
 cases v with
 | flat u => rfl
 | ptr b o => rfl
 | sl b o l c => rfl
 | e0 => rfl
 | mp b => rfl
 | ch => rfl
 | agg n c => simp [AV.one] at h1
 | tup vs => simp [AV.one] at h1
 | clo f vs => simp [AV.one] at h1
 | junk => simp [AV.one] at h1
theorem wG.lA {v : AV} (h : wG m b cs) (hi : i < cs.length) (e : zH cs i = v) (h1 : v.one = true) (k : AV -> Prop) : ldA m b i k = k v := by
 obtain ⟨y, ey, hn, hr, hc⟩ := h
 exact zBh ey (by omega) ((hc i hi).trans e) h1 k
theorem zDh (v : AV) : ∀ (cs : List AV) (i j : Nat), i < cs.length -> zH (cs.set i v) j = if j = i then v else zH cs j
 | [], i, j, h => by simp at h
 | x :: cs, 0, 0, h => rfl
 | x :: cs, 0, j + 1, h => by simp [zH]
 | x :: cs, i + 1, 0, h => by simp [zH]
 | x :: cs, i + 1, j + 1, h => by simpa [zH] using zDh v cs i j (by simpa using h)
theorem wG.set {v : AV} {y : Blk} (e : m.obj b = some y) (h : wG m b cs) (hi : i < cs.length) : wG (m.set b { y with c := upd y.c i v }) b (cs.set i v) := by
 obtain ⟨y', ey, hn, hr, hc⟩ := h
 rw [e] at ey; cases ey
 refine ⟨_, zL _ _ _, by simpa using hn, hr, fun j hj => ?_⟩
 rw [zDh v cs i j hi]
 show upd y.c i v j = _
 unfold upd
 split
 .rfl
 .exact hc j (by simpa using hj)
theorem wG.sC {v : AV} {k : Mem -> Prop} (h : wG m b cs) (hi : i < cs.length) (hk : ∀ m', wG m' b (cs.set i v) -> yC m b m' -> k m') : wF m b i v k := by
 have h0 := h
 obtain ⟨y, ey, hn, hr, hc⟩ := h
 rw [oO ey hr (by omega)]
 exact hk _ (wG.set ey h0 hi) (yC.set _ _ _)
theorem wG.sV {v : AV} {k : Mem -> Prop} (h : wG m b cs) (hi : i < cs.length) (hv : v.one = true) (hk : ∀ m', wG m' b (cs.set i v) -> yC m b m' -> k m') : stV m b i v k := by
 have h0 := h
 obtain ⟨y, ey, hn, hr, hc⟩ := h
 refine yLr ey hr hv (by omega) fun m' e O => hk m' ?_ O
 refine ⟨_, e, by simpa using hn, hr, fun j hj => ?_⟩
 rw [zDh v cs i j hi]
 show upd y.c i v j = _
 unfold upd
 split
 .rfl
 .exact hc j (by simpa using hj)
theorem wG.new {n : Nat} {t : TypeId} {c : Nat -> AV} {k : Nat -> Mem -> Prop} (cs : List AV) (hn : n = cs.length) (hc : ∀ i, i < cs.length -> c i = zH cs i) (hk : ∀ b m', m.obj b = none -> zA m m' -> wG m' b cs -> k b m') : zQ m ⟨n, c, t, false⟩ k :=
 zW fun b m' hb K e O => hk b m' hb K ⟨_, e, hn, rfl, hc⟩
end
def gK (m : Mem) (l : List Nat) : Prop := l.Nodup /\ ∀ b ∈ l, m.obj b ≠ none
theorem gK.keep {m m' : Mem} {l : List Nat} (h : gK m l) (K : zA m m') : gK m' l := ⟨h.1, fun b hb => by rw [K b (h.2 b hb)]; exact h.2 b hb⟩
theorem gK.cons {m m' : Mem} {l : List Nat} {b : Nat} (h : gK m l) (K : zA m m') (hb : m.obj b = none) (hb' : m'.obj b ≠ none) : gK m' (b :: l) := by
 refine ⟨List.nodup_cons.2 ⟨fun hm => h.2 b hm hb, h.1⟩, fun x hx => ?_⟩
 rcases List.mem_cons.1 hx with rfl | hx
 .exact hb'
 .exact (h.keep K).2 x hx
abbrev vi (n : Int) : AV := .flat (.int .i64 n)
abbrev vu (n : Int) : AV := .flat (.int .u32 n)
abbrev vb (b : Bool) : AV := .flat (.bool b)
structure Ev where
 at_ : Int
 dev : Int
 seq : Int
deriving DecidableEq
def EvC (c : Nat -> AV) (e : Ev) : Prop := c 0 = vi e.at_ /\ c 1 = vi e.dev /\ c 2 = vi e.seq
def eW (m : Mem) (v : AV) (es : List Ev) : Prop := ∃ c, IsL m 3 v es.length c /\ ∀ i, (h : i < es.length) -> EvC (fun j => c (i * 3 + j)) es[i]
structure BB where
 b : Nat
 w : Nat
 ln : Nat
 t1 : Nat
 t2 : Nat
 u : Nat
 d : Nat
 k : Nat
 kb : Nat
 r : RB
def BB.all (q : BB) : List Nat := [q.b, q.w, q.ln, q.t1, q.t2, q.u, q.d, q.k, q.kb, q.r.b, q.r.b1, q.r.b2, q.r.b3]
structure Dv where
 ev : List Ev := []
 sq : Int := 0
 up : Int := 0
 en : Int := 0
 c1 : Int := 0
 p1 : Int := 0
 s1 : Int := 0
 c2 : Int := 0
 p2 : Int := 0
 s2 : Int := 0
 lost : Bool := false
 uc : Int := 0
 uo : AV := .flat (.slice none 0 0)
 df : Int := 0
 dt : Int := 0
 dn : Int := 0
 ds : Int := 0
 ks : Int := 0
 ka : Int := 0
 kc : Int := 0
 kt : Int := 0
 nd : Nat := 0
 dk : Nat -> Int := fun _ => 0
structure IsBus (m : Mem) (q : BB) (p : Nat) (B : Nat -> Int) (M W : Nat -> Bool) (D : Dv) (wv : AV) : Prop where
 b : wG m q.b [.ptr q.r.b 0, .ptr q.w 0, .ptr q.ln 0, .ptr q.t1 0, .ptr q.t2 0, .ptr q.u 0, .ptr q.d 0, .ptr q.k 0]
 r : IsRam m q.r p B M W
 w : wG m q.w [wv, vi D.sq]
 wl : eW m wv D.ev
 ln : wG m q.ln [vu D.up, vu D.en]
 t1 : wG m q.t1 [vi 1, .ptr q.w 0, vu D.c1, vu D.p1, vu D.s1]
 t2 : wG m q.t2 [vi 2, .ptr q.w 0, vu D.c2, vu D.p2, vu D.s2]
 u : wG m q.u [vi 3, .ptr q.w 0, .ch, .ch, vb D.lost, vu D.uc, D.uo]
 d : wG m q.d [vi 4, .ptr q.w 0, .ptr q.r.b 0, vu D.df, vu D.dt, vu D.dn, vu D.ds]
 k : wG m q.k [vi 5, .ptr q.w 0, .ptr q.r.b 0, .sl q.kb 0 D.nd (.ex D.nd), vu D.ks, vu D.ka, vu D.kc, vu D.kt]
 kb : IsL m 1 (.sl q.kb 0 D.nd (.ex D.nd)) D.nd (cB D.dk)
 dkr : ∀ i, 0 <= D.dk i /\ D.dk i < 256
 nd : q.all.Nodup
 nw : ∀ x, own wv x -> x ∉ q.all
def uQ (n : Nat) (f : Nat -> Int) : Nat -> Int := fun j => if j < n then f j else 0
theorem zPt {n : Nat} {f : Nat -> Int} (hf : ∀ i, i < n -> 0 <= f i /\ f i < 256) (i : Nat) : 0 <= uQ n f i /\ uQ n f i < 256 := by
 unfold uQ; split
 .rename_i h; exact hf i h
 .omega
section
variable {m : Mem}
theorem eW.fr {m' : Mem} {S : Nat -> Prop} {v : AV} {es : List Ev} (h : eW m v es) (F : Fr S m m') (hs : ∀ b, own v b -> ¬ S b) : eW m' v es := by
 obtain ⟨c, h1, h2⟩ := h; exact ⟨c, h1.fr F hs, h2⟩
theorem eW.live {v : AV} {es : List Ev} (h : eW m v es) {b : Nat} (hb : own v b) : m.obj b ≠ none := by
 obtain ⟨c, h1, _⟩ := h; exact h1.live hb
theorem yNk {n : Nat} (h : n <= 4096) : (IntKind.wrap .i64 ((if 64 < (IntKind.wrap .i64 ((IntKind.wrap .i64 ((IntKind.wrap .i64 ((n : Int) + 64)) - 1)).tdiv 64)) then 64 else (IntKind.wrap .i64 ((IntKind.wrap .i64 ((IntKind.wrap .i64 ((n : Int) + 64)) - 1)).tdiv 64))) * 64)) = (((n + 63) / 64 * 64 : Nat) : Int) := by
 rw [zK (n := (n : Int) + 64) (by omega) (by omega), zK (n := (n : Int) + 64 - 1) (by omega) (by omega), Int.tdiv_eq_ediv_of_nonneg (by omega), zK (n := ((n : Int) + 64 - 1) / 64) (by omega) (by omega)]
 rw [if_neg (by omega), zK (by omega) (by omega)]
 omega
theorem zKf {w r : Nat} {v : AV} {n : Nat} {f : Nat -> Int} (hv : IsR m 1 v n (cB f)) (hn : n <= 4096) {k : AV -> Mem -> Prop}
  (hk : ∀ b kb m', m.obj b = none -> m.obj kb = none -> b ≠ kb -> zA m m' -> wG m' b [vi 5, .ptr w 0, .ptr r 0, .sl kb 0 ((n + 63) / 64 * 64) (.ex ((n + 63) / 64 * 64)), vu 0, vu 0, vu 0, vu 0] -> IsL m' 1 (.sl kb 0 ((n + 63) / 64 * 64) (.ex ((n + 63) / 64 * 64))) ((n + 63) / 64 * 64) (cB (uQ n f)) -> k (.ptr b 0) m') :
  yH1 5 w 0 r 0 v m k := by
 unfold yH1
 rw [vB hv]
 simp only [yNk hn, Int.toNat_natCast]
 generalize hq : (n + 63) / 64 * 64 = q at hk
 refine zHh (by omega) (by omega) (by omega) fun b2 m3 hb2 K3 e3 O3 => ?_
 simp only [Int.toNat_natCast, List.length_singleton, Nat.mul_one] at e3
 have hL : IsL m3 1 (.sl b2 0 q (.ex q)) q (fun _ => .flat (.int .u8 0)) := (IsL.row (esz := 1) e3 (by simp) rfl).congr fun i hi => zB0 _ i
 refine yWm hL (hv.keep K3) fun m5 u h5 F5 _ => ?_
 have K5 : zA m m5 := Fr.keeps K3 F5 fun x e => by cases e; exact hb2
 refine wG.new [vi 5, .ptr w 0, .ptr r 0, .sl b2 0 q (.ex q), vu 0, vu 0, vu 0, vu 0] rfl (fun i hi => ?_) fun b m6 hb K6 h6 => ?_
 .have : i = 0 \/ i = 1 \/ i = 2 \/ i = 3 \/ i = 4 \/ i = 5 \/ i = 6 \/ i = 7 := by simp at hi; omega
  rcases this with rfl | rfl | rfl | rfl | rfl | rfl | rfl | rfl <;> rfl
 .refine hk b b2 m6 (zX K5 hb) hb2 (fun e => ?_) (K5.trans K6) h6 ((h5.keep K6).congr fun i hi => ?_)
  .subst e; exact h5.live rfl hb
  .simp only [cB, uQ, Nat.mul_one]
   by_cases c : i < n
   .rw [if_pos (by omega), if_pos c]
   .rw [if_neg (by omega), if_neg c]
theorem yKv {v : AV} {n : Nat} {c : Nat -> AV} {x : Int} (h : IsS m 1 v n c) (hx : x = n) {k : AV -> Prop} (hk : ∀ v', IsS m 1 v' n c -> k v') : qH 1 v none (some x) k := by
 refine zH5 h (l := 0) (u := n) rfl (by simpa [xT] using hx) (by omega) (Nat.le_refl _) fun v' hv _ => hk v' ?_
 rw [Nat.sub_zero] at hv
 exact hv.congr fun i _ => by simp
theorem zPm {x : Int} {v1 v2 : AV} {n nd : Nat} {f fd : Nat -> Int} (hx : 1 <= x /\ x <= 64) (h1 : IsS m 1 v1 n (cB f)) (hf : ∀ i, i < n -> 0 <= f i /\ f i < 256) (hn : (n : Int) <= x * 1024) (h2 : IsR m 1 v2 nd (cB fd)) (hfd : ∀ i, i < nd -> 0 <= fd i /\ fd i < 256) (hnd : nd <= 4096) {k : AV -> Mem -> Prop}
  (hk : ∀ q m', IsBus m' q x.toNat (uQ n f) (fun _ => false) (fun _ => false) { nd := (nd + 63) / 64 * 64, dk := uQ nd fd } (.flat (.slice none 0 0)) -> zA m m' -> (∀ b ∈ q.all, m.obj b = none) -> k (.ptr q.b 0) m') : F79 x v1 v2 m k := by
 unfold F79
 refine yBf fun r m2 hr K2 f2 => ?_
 have hp : zA3 x = x.toNat := by unfold zA3; omega
 rw [hp] at hr
 have L2 : gK m2 [r.b, r.b1, r.b2, r.b3] := by
  obtain ⟨n1, n2, n3, n4, n5, n6⟩ := hr.ne
  refine ⟨by simp [n1, n2, n3, n4, n5, n6], fun b hb => ?_⟩
  simp at hb
  exact hr.live hb
 unfold yNs
 refine wG.new [.flat (.slice none 0 0), vi 0] rfl (fun i _ => rfl) fun w m4 hw K4 h4 => ?_
 have L4 := L2.cons K4 hw h4.live
 have n4 : m.obj w = none := zX K2 hw
 dsimp only [yD]
 rw [vB h1.r]
 refine qX (hr.keep K4) ?_
 have hxp : ((x.toNat * 1024 : Nat) : Int) = x * 1024 := by omega
 rw [hxp, zK (by omega) (by omega), if_neg (by omega)]
 refine yKv (h1.keep (K2.trans K4)) rfl fun v10 h10 => ?_
 refine zQv (hr.keep K4) (by unfold wC; omega) h10.r hf (by omega) (fun hno => absurd (show cE x.toNat 0 n from ⟨by omega, by omega⟩) hno) fun _ m14 hr14 F14 => ?_
 have L14 : gK m14 [w, r.b, r.b1, r.b2, r.b3] := ⟨L4.1, fun b hb => by
  by_cases c : r.has b
  .exact hr14.live c
  .rw [F14 b (L4.2 b hb) c]; exact L4.2 b hb⟩
 have K14 : zA m m14 := fun b hb => by
  have e1 := (K2.trans K4) b hb
  rw [F14 b (by rw [e1]; exact hb) (fun c => hb (f2 b c)), e1]
 have hw14 := h4.fr F14 fun c => by
  have := L4.1
  simp only [List.nodup_cons] at this
  refine this.1 ?_
  rcases c with c | c | c | c <;> simp [c]
 have hB : IsRam m14 r x.toNat (uQ n f) (fun _ => false) (fun _ => false) := hr14.congr (fun i _ => by
  unfold lW uQ
  by_cases c : i < n
  .rw [if_pos (by omega), if_pos c]; simp
  .rw [if_neg (by omega), if_neg c]) (zPt hf) (fun i _ => rfl) (fun i _ => by unfold tW; simp)
 unfold yNx
 refine wG.new [vu 0, vu 0] rfl (fun i _ => rfl) fun ln m16 hln K16 h16 => ?_
 have L16 := L14.cons K16 hln h16.live
 unfold yHw
 refine wG.new [vi 1, .ptr w 0, vu 0, vu 0, vu 0] rfl (fun i hi => by
  have : i = 0 \/ i = 1 \/ i = 2 \/ i = 3 \/ i = 4 := by simp at hi; omega
  rcases this with rfl | rfl | rfl | rfl | rfl <;> rfl) fun t1 m20 ht1 K20 h20 => ?_
 have L20 := L16.cons K20 ht1 h20.live
 refine wG.new [vi 2, .ptr w 0, vu 0, vu 0, vu 0] rfl (fun i hi => by
  have : i = 0 \/ i = 1 \/ i = 2 \/ i = 3 \/ i = 4 := by simp at hi; omega
  rcases this with rfl | rfl | rfl | rfl | rfl <;> rfl) fun t2 m24 ht2 K24 h24 => ?_
 have L24 := L20.cons K24 ht2 h24.live
 unfold yQ7
 refine wG.new [vi 3, .ptr w 0, .ch, .ch, vb false, vu 0, .flat (.slice none 0 0)] rfl (fun i hi => by
  have : i = 0 \/ i = 1 \/ i = 2 \/ i = 3 \/ i = 4 \/ i = 5 \/ i = 6 := by simp at hi; omega
  rcases this with rfl | rfl | rfl | rfl | rfl | rfl | rfl <;> rfl) fun u m28 hu K28 h28 => ?_
 have L28 := L24.cons K28 hu h28.live
 unfold yOq
 refine wG.new [vi 4, .ptr w 0, .ptr r.b 0, vu 0, vu 0, vu 0, vu 0] rfl (fun i hi => by
  have : i = 0 \/ i = 1 \/ i = 2 \/ i = 3 \/ i = 4 \/ i = 5 \/ i = 6 := by simp at hi; omega
  rcases this with rfl | rfl | rfl | rfl | rfl | rfl | rfl <;> rfl) fun d m34 hd K34 h34 => ?_
 have L34 := L28.cons K34 hd h34.live
 have K14_34 := ((((K16.trans K20).trans K24).trans K28).trans K34)
 have K34' := K14.trans K14_34
 refine zKf (h2.keep K34') hnd fun kk kb m40 hkk hkb hne K40 h40 hL40 => ?_
 have L40a : gK m40 (kb :: [d, u, t2, t1, ln, w, r.b, r.b1, r.b2, r.b3]) := L34.cons K40 hkb (hL40.live rfl)
 have L40 : gK m40 (kk :: kb :: [d, u, t2, t1, ln, w, r.b, r.b1, r.b2, r.b3]) := by
  refine ⟨List.nodup_cons.2 ⟨fun hm => ?_, L40a.1⟩, fun b hb => ?_⟩
  .rcases List.mem_cons.1 hm with e | hm
   .exact hne e
   .exact L34.2 _ hm hkk
  .rcases List.mem_cons.1 hb with rfl | hb
   .exact h40.live
   .exact L40a.2 b hb
 refine zG rfl (zG rfl (zG rfl (zG rfl (zG rfl (zG rfl (zG rfl (zG rfl ?_)))))))
 refine wG.new [.ptr r.b 0, .ptr w 0, .ptr ln 0, .ptr t1 0, .ptr t2 0, .ptr u 0, .ptr d 0, .ptr kk 0] rfl (fun i hi => by
  have : i = 0 \/ i = 1 \/ i = 2 \/ i = 3 \/ i = 4 \/ i = 5 \/ i = 6 \/ i = 7 := by simp at hi; omega
  rcases this with rfl | rfl | rfl | rfl | rfl | rfl | rfl | rfl <;> rfl) fun b m41 hb K41 h41 => ?_
 have L41 := L40.cons K41 hb h41.live
 have Kall := K34'.trans (K40.trans K41)
 have K14' := K14_34.trans (K40.trans K41)
 refine hk ⟨b, w, ln, t1, t2, u, d, kk, kb, r⟩ m41 ⟨h41, hB.keep K14', hw14.keep K14', ⟨fun _ => .junk, .nil none _, fun i h => by simp at h⟩, h16.keep ((((K20.trans K24).trans K28).trans K34).trans (K40.trans K41)), h20.keep (((K24.trans K28).trans K34).trans (K40.trans K41)), h24.keep ((K28.trans K34).trans (K40.trans K41)), h28.keep (K34.trans (K40.trans K41)), h34.keep (K40.trans K41), h40.keep K41, hL40.keep K41, zPt hfd, ?_, fun x h => h.elim⟩ Kall fun x hx => ?_
 .have h := L41.1
  have hp : (BB.all ⟨b, w, ln, t1, t2, u, d, kk, kb, r⟩).Perm (b :: kk :: kb :: [d, u, t2, t1, ln, w, r.b, r.b1, r.b2, r.b3]) := by
   unfold BB.all
   simp only [List.perm_cons]
   have e1 : [w, ln, t1, t2, u, d, kk, kb, r.b, r.b1, r.b2, r.b3] = [w, ln, t1, t2, u, d, kk, kb] ++ [r.b, r.b1, r.b2, r.b3] := rfl
   have e2 : kk :: kb :: [d, u, t2, t1, ln, w, r.b, r.b1, r.b2, r.b3] = [w, ln, t1, t2, u, d, kb, kk].reverse ++ [r.b, r.b1, r.b2, r.b3] := rfl
   rw [e1, e2]
   refine List.Perm.append_right _ (List.Perm.trans ?_ (List.reverse_perm _).symm)
   simp only [List.perm_cons]
   exact List.Perm.swap _ _ _
  exact hp.symm.nodup h
 .have nn : ∀ {mm : Mem} {y : Nat}, zA m mm -> mm.obj y = none -> m.obj y = none := fun K h => zX K h
  simp only [BB.all, List.mem_cons, List.not_mem_nil, or_false] at hx
  rcases hx with rfl | rfl | rfl | rfl | rfl | rfl | rfl | rfl | rfl | rfl | rfl | rfl | rfl
  .exact nn (K34'.trans K40) hb
  .exact n4
  .exact nn K14 hln
  .exact nn (K14.trans K16) ht1
  .exact nn (K14.trans (K16.trans K20)) ht2
  .exact nn (K14.trans ((K16.trans K20).trans K24)) hu
  .exact nn (K14.trans (((K16.trans K20).trans K24).trans K28)) hd
  .exact nn K34' hkk
  .exact nn K34' hkb
  .exact f2 _ (.inl rfl)
  .exact f2 _ (.inr (.inl rfl))
  .exact f2 _ (.inr (.inr (.inl rfl)))
  .exact f2 _ (.inr (.inr (.inr rfl)))
end
def cY (b c : Nat) (cap made used : Int) : Nat -> AV := zH [.ptr b 0, .ptr c 0, vi cap, vi made, vi used]
structure Mac (m : Mem) (e : Nat) (q : BB) (c : Nat) (p : Nat) (S : St) (B : Nat -> Int) (M W : Nat -> Bool) (D : Dv) (wv : AV) (n : Int) (l : List (Key × sN)) (Sc : Nat -> Prop) (cap made used : Int) : Prop where
 s : yQ m e S
 sx : S.x = cY q.b c cap made used
 sq : S.q = 5
 b : IsBus m q p B M W D wv
 c : Ca m c n l Sc
 de : e ∉ q.all
 dw : ¬ own wv e
 ce : ¬ Sc e
 cb : ∀ b ∈ q.all, ¬ Sc b
 cw : ∀ b, own wv b -> ¬ Sc b
theorem BB.has {q : BB} {x : Nat} (h : q.r.has x) : x ∈ q.all := by
 rcases h with h | h | h | h <;> simp [BB.all, h]
section
variable {m : Mem}
theorem IsBus.fr {m' : Mem} {S : Nat -> Prop} {q : BB} {p : Nat} {B : Nat -> Int} {M W : Nat -> Bool} {D : Dv} {wv : AV} (h : IsBus m q p B M W D wv) (F : Fr S m m') (hs : ∀ b ∈ q.all, ¬ S b) (hw : ∀ b, own wv b -> ¬ S b) : IsBus m' q p B M W D wv :=
 ⟨h.b.fr F (hs _ (by simp [BB.all])), h.r.fr F fun x hx => hs x (BB.has hx), h.w.fr F (hs _ (by simp [BB.all])), h.wl.fr F hw, h.ln.fr F (hs _ (by simp [BB.all])), h.t1.fr F (hs _ (by simp [BB.all])), h.t2.fr F (hs _ (by simp [BB.all])), h.u.fr F (hs _ (by simp [BB.all])), h.d.fr F (hs _ (by simp [BB.all])), h.k.fr F (hs _ (by simp [BB.all])), h.kb.fr F (fun b e => hs _ (by cases e; simp [BB.all])), h.dkr, h.nd, h.nw⟩
theorem IsBus.keep {m' : Mem} {q : BB} {p : Nat} {B : Nat -> Int} {M W : Nat -> Bool} {D : Dv} {wv : AV} (h : IsBus m q p B M W D wv) (K : zA m m') : IsBus m' q p B M W D wv := h.fr (K.fr fun _ => False) (fun _ _ h => h) fun _ _ h => h
theorem IsBus.live {q : BB} {p : Nat} {B : Nat -> Int} {M W : Nat -> Bool} {D : Dv} {wv : AV} (h : IsBus m q p B M W D wv) {x : Nat} (hx : x ∈ q.all) : m.obj x ≠ none := by
 simp only [BB.all, List.mem_cons, List.not_mem_nil, or_false] at hx
 rcases hx with rfl | rfl | rfl | rfl | rfl | rfl | rfl | rfl | rfl | hx
 .exact h.b.live
 .exact h.w.live
 .exact h.ln.live
 .exact h.t1.live
 .exact h.t2.live
 .exact h.u.live
 .exact h.d.live
 .exact h.k.live
 .exact h.kb.live rfl
 .exact h.r.live hx
theorem yQ.fr {m' : Mem} {T : Nat -> Prop} {b : Nat} {S : St} (h : yQ m b S) (F : Fr T m m') (hs : ¬ T b) : yQ m' b S := by
 obtain ⟨x, e, r⟩ := h
 exact ⟨x, by rw [F b (by rw [e]; simp) hs]; exact e, r⟩
theorem zF3 {x : Int} {v1 v2 : AV} {n nd : Nat} {f fd : Nat -> Int} (hx : 1 <= x /\ x <= 64) (h1 : IsS m 1 v1 n (cB f)) (hf : ∀ i, i < n -> 0 <= f i /\ f i < 256) (hn : (n : Int) <= x * 1024) (h2 : IsR m 1 v2 nd (cB fd)) (hfd : ∀ i, i < nd -> 0 <= fd i /\ fd i < 256) (hnd : nd <= 4096) {k : AV -> Int -> Mem -> Prop}
  (hk : ∀ q b m', IsBus m' q x.toNat (uQ n f) (fun _ => false) (fun _ => false) { nd := (nd + 63) / 64 * 64, dk := uQ nd fd } (.flat (.slice none 0 0)) -> yQ m' b { St0 with x := fun _ => .ptr q.b 0, q := 1 } -> zA m m' -> (∀ b ∈ q.all, m.obj b = none) -> m.obj b = none -> k (.ptr b 0) 0 m') : F48 x v1 v2 m k := by
 unfold F48
 refine zB (by simp; omega) (zB (by simp; omega) ?_)
 rw [vB h1.r, zK (by omega) (by omega)]
 refine zB (by simp; omega) ?_
 rw [vB h2]
 refine zB (by simp; omega) (zTg fun c3 h3 => zPm hx h1 hf hn h2 hfd hnd fun q m6 hb K6 f6 => zG rfl (zW fun b m7 hb7 K7 e7 O7 => ?_))
 refine hk q b m7 (hb.keep K7) ⟨_, e7, rfl, rfl, fun i hi => ?_, fun j hj => ?_⟩ (K6.trans K7) f6 (zX K6 hb7)
 .show upd _ 73 _ i = _
  unfold upd zC
  rw [if_neg (by omega), if_pos (by omega), Nat.sub_zero]
  exact h3 i hi
 .have : j = 0 := by have : j < 1 := hj; omega
  subst this
  rfl
theorem zQt {b : Nat} {S : St} (h : yQ m b S) {k : (Nat -> AV) -> Mem -> Prop} (hk : ∀ c, uM c S -> k c m) : F49 b 0 m k := by
 unfold F49
 simp only [Nat.zero_add]
 intro b2 hb2
 have K1 := zA.set hb2 ⟨73, Z73, 46, false⟩
 refine zA6 (h.keep K1) fun c hc => yMs (zL _ _ _) rfl rfl hc fun m4 h4 O4 => zA6 h4 fun c5 h5 => ⟨?_, uM.inDom h5 m, hk c5 h5⟩
 exact yC.keeps K1 hb2 O4
theorem zA8 {b : Nat} {S : St} (h : yQ m b S) {k : (Nat -> AV) -> Mem -> Prop} (hk : ∀ c, uM c S -> k c m) : F26 b 0 m k := by
 unfold F26
 simp only [Nat.zero_add]
 intro b2 hb2
 have K1 := zA.set hb2 ⟨73, Z73, 46, false⟩
 refine zA6 (h.keep K1) fun c hc => yMs (zL _ _ _) rfl rfl hc fun m4 h4 O4 => zA6 h4 fun c5 h5 => ⟨?_, uM.inDom h5 m, hk c5 h5⟩
 exact yC.keeps K1 hb2 O4
theorem vH {b : Nat} {S : St} (h : yQ m b S) {j : Nat} (hj : j < S.q) {v : AV} (e : S.x j = v) (h1 : v.one = true) (k : AV -> Prop) : ldA m b (73 + j) k = k v := by
 obtain ⟨x, ex, hn, hr, hc, hx⟩ := h
 exact zBh ex (by omega) ((hx j hj).trans e) h1 k
theorem zAv {b : Nat} {S : St} (h : yQ m b S) {j : Nat} (hj : j < S.q) {n : Int} (e : S.x j = vi n) (k : Int -> Prop) : zR .i64 m b (73 + j) k = k n := by
 obtain ⟨x, ex, hn, hr, hc, hx⟩ := h
 exact yW ex (by omega) ((hx j hj).trans e)
theorem zQf {x wQ : Int} {v1 v2 : AV} {n nd : Nat} {f fd : Nat -> Int} (hx : 1 <= x /\ x <= 64) (h1 : IsS m 1 v1 n (cB f)) (hf : ∀ i, i < n -> 0 <= f i /\ f i < 256) (hn : (n : Int) <= x * 1024) (h2 : IsR m 1 v2 nd (cB fd)) (hfd : ∀ i, i < nd -> 0 <= fd i /\ fd i < 256) (hnd : nd <= 4096) {k : AV -> Int -> Mem -> Prop}
  (hk : ∀ e q c Sc m', Mac m' e q c x.toNat { St0 with x := cY q.b c 32 0 0, q := 5 } (uQ n f) (fun _ => false) (fun _ => false) { nd := (nd + 63) / 64 * 64, dk := uQ nd fd } (.flat (.slice none 0 0)) (clN wQ) [] Sc 32 0 0 -> zA m m' -> m.obj e = none -> (∀ b ∈ q.all, m.obj b = none) -> (∀ b, Sc b -> m.obj b = none) -> k (.ptr e 0) 0 m') : F34 x v1 v2 wQ m k := by
 unfold F34
 refine zF3 hx h1 hf hn h2 hfd hnd fun q b m3 hb3 hs3 K3 f3 fb => ?_
 refine zB rfl ?_
 dsimp only [yD]
 refine zQt hs3 fun c6 h6 => ?_
 unfold F50
 rw [show (0 : Nat) + 73 = 73 + 0 from rfl, vH hs3 (j := 0) (by show 0 < 1; decide) rfl rfl]
 refine yX6 fun c m13 Sc C13 K13 f13 => zG rfl (zG rfl (zW fun e m14 he K14 e14 O14 => ?_))
 have hb14 := (hb3.keep K13).keep K14
 refine hk e q c Sc m14 ⟨⟨_, e14, rfl, rfl, fun i hi => ?_, fun j hj => ?_⟩, rfl, rfl, hb14, C13.keep K14, fun hm => ?_, fun h => h, fun h => ?_, fun b hb h => ?_, fun b h => h.elim⟩ (K3.trans (K13.trans K14)) (zX (K3.trans K13) he) f3 fun b h => zX K3 (f13 b h)
 .show upd (upd (upd _ 73 _) 74 _) 75 _ i = _
  unfold upd zC
  rw [if_neg (by omega), if_neg (by omega), if_neg (by omega), if_pos (by omega), Nat.sub_zero]
  exact h6 i hi
 .have : j = 0 \/ j = 1 \/ j = 2 \/ j = 3 \/ j = 4 := by have : j < 5 := hj; omega
  rcases this with rfl | rfl | rfl | rfl | rfl <;> rfl
 .exact (hb3.keep K13).live hm he
 .exact C13.live h he
 .exact hb3.live hb (f13 b h)
end
def kdS (k : Int) : Bool := k == 1 || k == 2 || k == 3 || k == 4 || k == 5 || k == 6 || k == 9 || k == 10 || k == 13 || k == 14 || k == 20
structure OpK (o : Op19) : Prop where
 r : OpR o
 k : kdS o.k = true
theorem OpK.cases {o : Op19} (h : OpK o) : o.k = 1 \/ o.k = 2 \/ o.k = 3 \/ o.k = 4 \/ o.k = 5 \/ o.k = 6 \/ o.k = 9 \/ o.k = 10 \/ o.k = 13 \/ o.k = 14 \/ o.k = 20 := by
 have := h.k
 unfold kdS at this
 simp at this
 omega
def wB (o : Op19) : List Int := if o.k = 1 then [] else if o.k = 2 then [o.a] else if o.a < o.b then [o.a, o.b] else if o.a = o.b then [o.a] else [o.b, o.a]
def yH (o : Op19) : List Int := if o.k = 20 then [32, 33] else if o.d = 0 then [] else [o.d]
theorem zVh {o : Op19} (h : o.k ≠ 1) : o.a ∈ wB o := by
 unfold wB; rw [if_neg h]; split
 .simp
 split
 .simp
 split <;> simp
theorem zVu {o : Op19} (h : o.k ≠ 1) (h2 : o.k ≠ 2) : o.b ∈ wB o := by
 unfold wB; rw [if_neg h, if_neg h2]; split
 .simp
 split
 .rename_i e; simp [e]
 .simp
theorem zIk {o : Op19} (h : OpR o) {r : Int} (hr : r ∈ wB o) : 0 <= r /\ r < 40 := by
 have ha := h.a
 have hb := h.b
 unfold wB at hr
 split at hr
 .simp at hr
 split at hr
 .simp at hr; omega
 split at hr
 .simp at hr; omega
 split at hr
 .simp at hr; omega
 .simp at hr; omega
theorem fS {o : Op19} (h : OpR o) {r : Int} (hr : r ∈ yH o) : 0 < r /\ r < 40 := by
 have hd := h.d
 unfold yH at hr
 split at hr
 .simp at hr; omega
 split at hr
 .simp at hr
 .simp at hr; omega
theorem zYy {o : Op19} (h : OpK o) (hk : o.k ≠ 20) {f g : Nat -> Int} (e : ∀ r ∈ wB o, f r.toNat = g r.toNat) : zAt o.k (f o.a.toNat) (f o.b.toNat) o.i = zAt o.k (g o.a.toNat) (g o.b.toNat) o.i := by
 by_cases c1 : o.k = 1
 .rw [c1]; rfl
 have ea := e _ (zVh c1)
 by_cases c2 : o.k = 2
 .rw [c2, ea]; rfl
 rw [ea, e _ (zVu c1 c2)]
theorem bS {o : Op19} (h : OpK o) (f : Nat -> Int) : xS f o = if o.k = 20 then upd (upd f 33 (zF7 (f o.a.toNat) (f o.b.toNat) false).1) 32 (zF7 (f o.a.toNat) (f o.b.toNat) false).2 else if o.d > 0 then upd f o.d.toNat (zAt o.k (f o.a.toNat) (f o.b.toNat) o.i) else f := by
 have hk := h.cases
 unfold xS
 dsimp only
 by_cases c : o.k = 20
 .rw [if_neg (by omega), if_neg (by omega), if_pos (by omega), if_pos c, c]; rfl
 .rw [if_neg (by omega), if_neg (by omega), if_neg (by omega), if_neg (by intro h; omega), if_neg c]
theorem jQ {o : Op19} (h : OpK o) (f : Nat -> Int) {n : Nat} (hn : (n : Int) ∉ yH o) : xS f o n = f n := by
 rw [bS h]
 unfold yH at hn
 have hd := h.r.d
 split
 .rename_i c
  rw [if_pos c] at hn
  simp at hn
  unfold upd; rw [if_neg (by omega), if_neg (by omega)]
 .rename_i c
  rw [if_neg c] at hn
  split
  .rename_i c2
   rw [if_neg (by omega)] at hn
   simp at hn
   unfold upd; rw [if_neg (by omega)]
  .rfl
theorem zSm {o : Op19} (h : OpK o) {f g : Nat -> Int} (e : ∀ r ∈ wB o, f r.toNat = g r.toNat) {n : Nat} (hn : (n : Int) ∈ yH o) : xS f o n = xS g o n := by
 rw [bS h, bS h]
 have hd := h.r.d
 unfold yH at hn
 by_cases c : o.k = 20
 .rw [if_pos c, if_pos c]
  rw [if_pos c] at hn
  have ea := e _ (zVh (by omega))
  have eb := e _ (zVu (by omega) (by omega))
  simp at hn
  unfold upd
  rcases hn with hn | hn
  .rw [if_pos (by omega), if_pos (by omega), ea, eb]
  .rw [if_neg (by omega), if_pos (by omega), if_neg (by omega), if_pos (by omega), ea, eb]
 .rw [if_neg c, if_neg c]
  rw [if_neg c] at hn
  split at hn
  .simp at hn
  .simp at hn
   rw [if_pos (by omega), if_pos (by omega)]
   unfold upd
   rw [if_pos (by omega), if_pos (by omega)]
   exact zYy h c e
def tL (K : Nat -> Bool) (l : List Int) : Bool := l.all fun n => K n.toNat
def qA (K : Nat -> Bool) (V : Nat -> Int) (o : Op19) : Op19 := if (yH o).length = 1 /\ tL K (wB o) = true then ⟨1, o.d, 0, 0, xS V o o.d.toNat⟩ else o
def zAk (K : Nat -> Bool) (o : Op19) : Nat -> Bool := fun n => if (n : Int) ∈ yH o then tL K (wB o) else K n
def lO (K : Nat -> Bool) (V : Nat -> Int) (o : Op19) : Nat -> Int := if tL K (wB o) = true then xS V o else V
def kG : (Nat -> Bool) -> (Nat -> Int) -> List Op19 -> List Op19
 | _, _, [] => []
 | K, V, o :: l => qA K V o :: kG (zAk K (qA K V o)) (lO K V (qA K V o)) l
theorem zEw {o : Op19} (h : OpR o) (hw : (yH o).length = 1) : o.k ≠ 20 /\ 0 < o.d := by
 have hd := h.d
 unfold yH at hw
 split at hw
 .simp at hw
 .split at hw
  .simp at hw
  .exact ⟨by assumption, by omega⟩
theorem zJq {K : Nat -> Bool} {V : Nat -> Int} {o : Op19} (h : OpK o) (hV : aK V) : OpK (qA K V o) := by
 unfold qA
 split
 .exact ⟨⟨by simp, h.r.d, by simp, by simp, zB8 hV h.r _⟩, rfl⟩
 .exact h
theorem zXe {K : Nat -> Bool} {V : Nat -> Int} {o : Op19} (h : OpK o) (hV : aK V) {f : Nat -> Int} (ha : ∀ n, K n = true -> V n = f n) : xS f (qA K V o) = xS f o := by
 unfold qA
 split
 rotate_left
 .rfl
 rename_i hc
 obtain ⟨hw, hk⟩ := hc
 obtain ⟨h20, hd⟩ := zEw h.r hw
 have hk1 : OpK ⟨1, o.d, 0, 0, xS V o o.d.toNat⟩ := ⟨⟨by simp, h.r.d, by simp, by simp, zB8 hV h.r _⟩, rfl⟩
 rw [bS hk1]
 dsimp only
 rw [if_neg (by decide), if_pos hd]
 have e : xS V o o.d.toNat = xS f o o.d.toNat := zSm h (fun r hr => ha _ (by
  unfold tL at hk
  exact List.all_eq_true.1 hk r hr)) (by
   have : (o.d.toNat : Int) = o.d := by omega
   rw [this]; unfold yH; rw [if_neg h20, if_neg (by omega)]; simp)
 rw [e, bS h, if_neg h20, if_pos hd]
 show upd f _ (upd f _ _ _) = _
 congr 1
 unfold upd; rw [if_pos rfl]
theorem zT0 {K : Nat -> Bool} {V : Nat -> Int} {o : Op19} (h : OpK o) {f : Nat -> Int} (ha : ∀ n, K n = true -> V n = f n) (n : Nat) (hn : zAk K o n = true) : lO K V o n = xS f o n := by
 unfold zAk at hn
 unfold lO
 split at hn
 .rename_i hw
  rw [if_pos hn]
  exact zSm h (fun r hr => ha _ (by unfold tL at hn; exact List.all_eq_true.1 hn r hr)) hw
 .rename_i hw
  rw [jQ h f hw]
  split
  .rw [jQ h V hw]; exact ha n hn
  .exact ha n hn
theorem yGq {K : Nat -> Bool} {V : Nat -> Int} {o : Op19} (h : OpK o) (hV : aK V) : aK (lO K V o) := by
 unfold lO; split
 .exact zB8 hV h.r
 .exact hV
theorem cQ : ∀ (l : List Op19) (K : Nat -> Bool) (V f : Nat -> Int), (∀ o ∈ l, OpK o) -> aK V -> (∀ n, K n = true -> V n = f n) -> xC f (kG K V l) = xC f l /\ ∀ o ∈ kG K V l, OpK o
 | [], K, V, f, h, hV, ha => ⟨rfl, fun o ho => by simp [kG] at ho⟩
 | o :: l, K, V, f, h, hV, ha => by
  have ho := h o (by simp)
  have hx := zJq (K := K) ho hV
  have e := zXe ho hV ha
  obtain ⟨h1, h2⟩ := cQ l (zAk K (qA K V o)) (lO K V (qA K V o)) (xS f o) (fun o ho => h o (by simp [ho])) (yGq hx hV) (fun n hn => by rw [<- e]; exact zT0 hx ha n hn)
  refine ⟨?_, fun x hx' => ?_⟩
  .show xC (xS f (qA K V o)) _ = xC (xS f o) l
   rw [e]; exact h1
  .rcases List.mem_cons.1 hx' with rfl | hx'
   .exact hx
   .exact h2 x hx'
def zCu (L : Nat -> Bool) (o : Op19) : Nat -> Bool := fun n => if (n : Int) ∈ wB o then true else if (n : Int) ∈ yH o then false else L n
def xR : List Op19 -> (Nat -> Bool) × List Op19
 | [] => (fun n => decide (n < 34), [])
 | o :: l => if ((yH o).any fun n => (xR l).1 n.toNat) = true then (zCu (xR l).1 o, o :: (xR l).2) else xR l
theorem aF : ∀ (l : List Op19), ∀ o ∈ (xR l).2, o ∈ l
 | [], o, h => by simp [xR] at h
 | x :: l, o, h => by
  unfold xR at h
  split at h
  .rcases List.mem_cons.1 h with rfl | h
   .simp
   .exact List.mem_cons_of_mem _ (aF l o h)
  .exact List.mem_cons_of_mem _ (aF l o h)
theorem zIy : ∀ (l : List Op19), (∀ o ∈ l, OpK o) -> ∀ (f g : Nat -> Int), (∀ n, (xR l).1 n = true -> f n = g n) -> ∀ n, n < 34 -> xC f (xR l).2 n = xC g l n
 | [], h, f, g, ha, n, hn => ha n (by simpa [xR] using hn)
 | o :: l, h, f, g, ha, n, hn => by
  have ho := h o (by simp)
  have ih := zIy l fun o ho => h o (by simp [ho])
  unfold xR at ha ⊢
  split
  .rename_i hc
   rw [if_pos hc] at ha
   show xC (xS f o) (xR l).2 n = xC (xS g o) l n
   have hr : ∀ r ∈ wB o, f r.toNat = g r.toNat := fun r hr => ha _ (by
    show zCu (xR l).1 o _ = true
    unfold zCu
    have : ((r.toNat : Nat) : Int) = r := by have := zIk ho.r hr; omega
    rw [this, if_pos hr])
   refine ih _ _ (fun q hq => ?_) n hn
   by_cases hw : (q : Int) ∈ yH o
   .exact zSm ho hr hw
   .rw [jQ ho f hw, jQ ho g hw]
    refine ha q ?_
    show zCu (xR l).1 o q = true
    unfold zCu
    split
    .rfl
    .first | exact hq | (rw [if_neg hw]; exact hq)
  .rename_i hc
   rw [if_neg hc] at ha
   show xC f (xR l).2 n = xC (xS g o) l n
   refine ih _ _ (fun q hq => ?_) n hn
   rw [jQ ho g (fun hw => ?_)]
   .exact ha q hq
   .refine hc (List.any_eq_true.2 ⟨_, hw, ?_⟩)
    rw [Int.toNat_natCast]; exact hq
def K0 : Nat -> Bool := fun n => decide (n = 0)
def kH (l : List Op19) : List Op19 := (xR (kG K0 (fun _ => 0) l)).2
theorem zZy {l : List Op19} (h : ∀ o ∈ l, OpK o) {f : Nat -> Int} (h0 : f 0 = 0) : (∀ n, n < 34 -> xC f (kH l) n = xC f l n) /\ ∀ o ∈ kH l, OpK o := by
 obtain ⟨h1, h2⟩ := cQ l K0 (fun _ => 0) f h (fun _ => (⟨Int.le_refl 0, by omega⟩ : wC 0)) (fun n hn => by
  have : n = 0 := by simpa [K0] using hn
  rw [this, h0])
 refine ⟨fun n hn => ?_, fun o ho => h2 o (aF _ o ho)⟩
 rw [<- h1]
 exact zIy _ h2 f f (fun _ _ => rfl) n hn
theorem aL : ∀ (l : List Op19) (K : Nat -> Bool) (V : Nat -> Int), (kG K V l).length = l.length
 | [], _, _ => rfl
 | o :: l, K, V => by unfold kG; simp [aL l]
theorem iK : ∀ (l : List Op19), (xR l).2.length <= l.length
 | [] => by simp [xR]
 | o :: l => by
  unfold xR
  have := iK l
  split <;> simp <;> omega
theorem yDd (l : List Op19) : (kH l).length <= l.length := by
 unfold kH
 have := iK (kG K0 (fun _ => 0) l)
 rw [aL] at this
 exact this
structure Rg (m : Mem) (b o : Nat) (f : Nat -> Int) (N : Nat) (R : Nat -> AV) : Prop where
 e : ∃ y, m.obj b = some y /\ y.n = N /\ y.ro = false /\ (∀ i, i < 40 -> y.c (o + i) = vu (f i)) /\ ∀ j, j < N -> (j < o \/ o + 40 <= j) -> y.c j = R j
 n : o + 40 <= N
 u : aK f
def wM (b : Nat) : Nat -> Prop := fun x => x = b
theorem yC.fr1 {m m' : Mem} {b : Nat} (O : yC m b m') : Fr (wM b) m m' := fun x _ hx => O x hx
theorem Fr.key {S : Nat -> Prop} {a b c : Mem} (K : zA a b) (h : Fr S b c) : Fr S a c := fun x hx hs => by rw [h x (by rw [K x hx]; exact hx) hs, K x hx]
section
variable {m : Mem} {b o N : Nat} {f : Nat -> Int} {R : Nat -> AV}
theorem Rg.fr {m' : Mem} {S : Nat -> Prop} (h : Rg m b o f N R) (F : Fr S m m') (hb : ¬ S b) : Rg m' b o f N R := by
 obtain ⟨y, e, r⟩ := h.e
 exact ⟨⟨y, by rw [F b (by rw [e]; simp) hb]; exact e, r⟩, h.n, h.u⟩
theorem Rg.keep {m' : Mem} (h : Rg m b o f N R) (K : zA m m') : Rg m' b o f N R := h.fr (K.fr fun _ => False) fun h => h
theorem Rg.live (h : Rg m b o f N R) : m.obj b ≠ none := by obtain ⟨y, e, _⟩ := h.e; rw [e]; simp
theorem Rg.ld (h : Rg m b o f N R) {i : Nat} (hi : i < 40) (k : Int -> Prop) : zR .u32 m b (o + i) k = k (f i) := by
 obtain ⟨y, e, hn, hr, hc, _⟩ := h.e
 have := h.n
 exact yW e (by omega) (hc i hi)
theorem Rg.st (h : Rg m b o f N R) {i : Nat} (hi : i < 40) {x : Int} (hx : wC x) {k : Mem -> Prop} (hk : ∀ m', Rg m' b o (upd f i x) N R -> yC m b m' -> k m') : wF m b (o + i) (.flat (.int .u32 x)) k := by
 obtain ⟨y, e, hn, hr, hc, hR⟩ := h.e
 have := h.n
 rw [oO e hr (by omega)]
 refine hk _ ⟨⟨_, zL _ _ _, hn, hr, fun j hj => ?_, fun j hj hj2 => ?_⟩, h.n, zH1 h.u i hx⟩ (yC.set _ _ _)
 .show upd y.c _ _ _ = _
  unfold upd
  by_cases c : j = i
  .subst c; rw [if_pos rfl, if_pos rfl]
  .rw [if_neg (by omega), if_neg c]; exact hc j hj
 .show upd y.c _ _ _ = _
  unfold upd
  rw [if_neg (by omega)]; exact hR j hj hj2
theorem mW {c : Nat -> AV} {t : TypeId} {op : Op19} (hc : gN c op) {k : Nat -> Mem -> Prop} (hk : ∀ b m', m.obj b = none -> zA m m' -> lY m' b op -> k b m') : zQ m ⟨5, c, t, false⟩ k :=
 zW fun b m' hb K e O => hk b m' hb K ⟨_, e, rfl, hc⟩
theorem gN.sub {c : Nat -> AV} {op : Op19} (h : gN c op) : gN (sub c 0 5) op := h
theorem lY.lg {b : Nat} {op : Op19} (h : lY m b op) {k : (Nat -> AV) -> Prop} (hk : ∀ c, gN c op -> k c) : yN 5 m b 0 k := by
 obtain ⟨z, e, n, hc⟩ := h
 rw [xH e (by omega)]
 exact hk _ hc.sub
theorem lY.fr {m' : Mem} {S : Nat -> Prop} {b : Nat} {op : Op19} (h : lY m b op) (F : Fr S m m') (hb : ¬ S b) : lY m' b op := by
 obtain ⟨z, e, r⟩ := h
 exact ⟨z, by rw [F b (by rw [e]; simp) hb]; exact e, r⟩
theorem lY.keep {m' : Mem} {b : Nat} {op : Op19} (h : lY m b op) (K : zA m m') : lY m' b op := h.fr (K.fr fun _ => False) fun h => h
theorem lY.live {b : Nat} {op : Op19} (h : lY m b op) : m.obj b ≠ none := by obtain ⟨z, e, _⟩ := h; rw [e]; simp
theorem yNu {x : Int} (h : wC x) : bits .and .u32 x 31 = x % 32 := by have := wE x h.1 h.2 5 (by decide); simpa using this
theorem zUz {x : Int} (h : wC x) : oF x false = x := by
 obtain ⟨h0, h1⟩ := h
 unfold oF; rw [if_neg (by simp), zK (by omega) (by omega)]
theorem zT7 {x y : Int} (hx : wC x) (hy : wC y) {k : Bool -> Mem -> Prop} (hk : k (decide (oF x false < oF y false)) m) : zFa x y false m k := by
 unfold zFa
 rw [zUz hx, zUz hy] at hk
 exact ⟨zA.self m, hk⟩
theorem zZi {c : Nat -> AV} {op : Op19} (hc : gN c op) (ho : OpK op) (h20 : op.k ≠ 20) {x y : Int} (hx : wC x) (hy : wC y) {k : Int -> Mem -> Prop} (hk : k (zAt op.k x y op.i) m) : yH5 c x y m k := by
 unfold yH5
 refine mW hc fun b2 m1 hb2 K1 h2 => ?_
 rw [h2.l0]
 have hk' := ho.cases
 have a31 := yNu hy
 have q0 : 0 <= y % 32 := by omega
 by_cases c1 : op.k = 1
 .rw [c1] at hk ⊢; refine zG rfl ?_; rw [h2.l4]; exact ⟨K1, hk⟩
 by_cases c3 : op.k = 3
 .rw [c3] at hk ⊢; exact zB rfl (zG rfl ⟨K1, hk⟩)
 by_cases c4 : op.k = 4
 .rw [c4] at hk ⊢; exact zB rfl (zB rfl (zG rfl ⟨K1, hk⟩))
 by_cases c5 : op.k = 5
 .rw [c5] at hk ⊢; exact zB rfl (zB rfl (zB rfl (zG rfl ⟨K1, hk⟩)))
 by_cases c6 : op.k = 6
 .rw [c6] at hk ⊢; exact zB rfl (zB rfl (zB rfl (zB rfl (zG rfl ⟨K1, hk⟩))))
 by_cases c9 : op.k = 9
 .rw [c9] at hk ⊢; refine zB rfl (zB rfl (zB rfl (zB rfl (zB rfl (zB rfl (zB rfl (zG rfl (zB ?_ ⟨K1, ?_⟩))))))))
  .rw [a31]; simp; omega
  .rw [a31]; exact hk
 by_cases c10 : op.k = 10
 .rw [c10] at hk ⊢; refine zB rfl (zB rfl (zB rfl (zB rfl (zB rfl (zB rfl (zB rfl (zB rfl (zG rfl (zB ?_ ⟨K1, ?_⟩)))))))))
  .rw [a31]; simp; omega
  .rw [a31]; exact hk
 by_cases c13 : op.k = 13
 .rw [c13] at hk ⊢; refine zB rfl (zB rfl (zB rfl (zB rfl (zB rfl (zB rfl (zB rfl (zB rfl (zB rfl (zB rfl (zB rfl ?_))))))))))
  unfold rM
  refine zG rfl ?_
  rw [Nat.zero_add, h2.l0, c13]
  refine zT7 hx hy ?_
  unfold yN7
  have e : zAt 13 x y op.i = zY7 (decide (oF x false < oF y false)) := rfl
  rw [e] at hk
  unfold zY7 at hk
  refine zD _ (fun c => ?_) fun c => ?_
  .rw [if_pos c] at hk; exact ⟨zA.self m1, K1, hk⟩
  .rw [if_neg (by rw [c]; simp)] at hk; exact ⟨zA.self m1, K1, hk⟩
 by_cases c14 : op.k = 14
 .rw [c14] at hk ⊢; refine zB rfl (zB rfl (zB rfl (zB rfl (zB rfl (zB rfl (zB rfl (zB rfl (zB rfl (zB rfl (zB rfl ?_))))))))))
  unfold rM
  refine zB rfl (zG rfl ⟨K1, ?_⟩)
  have e : zAt 14 x y op.i = (zNi x y true).2 := rfl
  rw [e] at hk
  have e2 : (zNi x y true).2 = IntKind.wrap .u32 (x * y) := by
   show IntKind.wrap .u32 (IntKind.wrap .u64 ((IntKind.wrap .u64 x) * (IntKind.wrap .u64 y))) = _
   obtain ⟨x0, x1⟩ := hx
   obtain ⟨y0, y1⟩ := hy
   rw [zBd x0 (by omega), zBd y0 (by omega), zBd (Int.mul_nonneg x0 y0) ?_]
   have h1 : x * y <= 4294967295 * y := Int.mul_le_mul_of_nonneg_right (by omega) y0
   omega
  rw [e2] at hk; exact hk
 have c2 : op.k = 2 := by omega
 rw [c2] at hk ⊢; refine zB rfl (zB rfl (zB rfl (zB rfl (zB rfl (zB rfl (zB rfl (zB rfl (zB rfl (zB rfl (zB rfl ?_))))))))))
 unfold rM
 exact zB rfl (zB rfl (zB rfl (zB rfl ⟨K1, hk⟩)))
theorem zX0 {x y : Int} (hx : wC x) (hy : wC y) {k : Int -> Int -> Mem -> Prop} (hk : k (zF7 x y false).1 (zF7 x y false).2 m) : yEk x y false m k := by
 unfold yEk
 obtain ⟨x0, x1⟩ := hx
 obtain ⟨y0, y1⟩ := hy
 unfold zF7 at hk
 refine zD _ (fun c => ?_) fun c => ?_
 .rw [if_pos (by simpa using c)] at hk; exact ⟨zA.self m, hk⟩
 .have c : y ≠ 0 := by simpa using c
  rw [if_neg c, zUz ⟨x0, x1⟩, zUz ⟨y0, y1⟩, Int.tdiv_eq_ediv_of_nonneg x0, qP x0] at hk
  have h1 : 0 <= x / y := Int.ediv_nonneg x0 y0
  have h2 : x / y <= x := Int.ediv_le_self _ x0
  have h3 : 0 <= x % y := Int.emod_nonneg _ c
  have h4 : x % y < y := Int.emod_lt_of_pos _ (by omega)
  refine zG rfl (zB (by simpa using c) (zB (by simpa using c) ⟨zA.self m, ?_⟩))
  rw [Int.tdiv_eq_ediv_of_nonneg x0, qP x0]
  rw [zK (n := x / y) (by omega) (by omega), yV (x % y), Int.emod_eq_of_lt h3 (by omega)] at hk
  exact hk
theorem yB5 {c : Nat -> AV} {op : Op19} (h : Rg m b o f N R) (hc : gN c op) (ho : OpK op) {k : Mem -> Prop} (hk : ∀ m', Rg m' b o (xS f op) N R -> Fr (wM b) m m' -> k m') : yKn b o c m k := by
 unfold yKn
 refine mW hc fun b2 m1 hb2 K1 h2 => ?_
 have h1 := h.keep K1
 have ne : b2 ≠ b := fun e => h.live (e ▸ hb2)
 have ra := ho.r.a
 have rb := ho.r.b
 have rd := ho.r.d
 rw [h2.l2]
 refine yF ra.1 ra.2 ?_
 rw [show o + op.a.toNat * 1 = o + op.a.toNat by omega, h1.ld (by omega), h2.l3]
 refine yF rb.1 rb.2 ?_
 rw [show o + op.b.toNat * 1 = o + op.b.toNat by omega, h1.ld (by omega), h2.l0]
 have hk' := ho.cases
 have e1 := bS ho f
 refine zB (by simp; omega) ?_
 have e18 : (op.k == 18) = false := by simp; omega
 rw [e18]
 unfold iB
 refine zB rfl (zB (by simp; omega) ?_)
 unfold jT
 by_cases c20 : op.k = 20
 .rw [if_pos c20] at e1
  rw [c20]
  refine zG rfl (zX0 (h.u _) (h.u _) ?_)
  have du := zTk (a := f op.a.toNat) (b := f op.b.toNat) (h.u _) false
  refine h1.st (i := 33) (by omega) du.1 fun m2 h2 O2 => h2.st (i := 32) (by omega) du.2 fun m3 h3 O3 => ?_
  rw [<- e1] at h3
  exact hk m3 h3 (Fr.key K1 (O2.fr1.trans O3.fr1))
 .rw [if_neg c20] at e1
  refine zB (by simpa using c20) (zB (by simp; omega) ?_)
  rw [Nat.zero_add, h2.l1]
  unfold rH
  refine zD _ (fun c0 => ?_) fun c0 => ?_
  .have c0 : op.d = 0 := by simpa using c0
   rw [if_neg (by omega)] at e1
   rw [e1] at hk
   exact zG rfl (hk m1 h1 (K1.fr _))
  .have c0 : op.d ≠ 0 := by simpa using c0
   rw [if_pos (by omega)] at e1
   refine zB (by simp; omega) (zB (by simp; omega) (zB rfl ⟨fun x => x = b2, rfl, ?_⟩))
   rw [Nat.zero_add, h2.l1]
   refine ⟨rfl, h2.lg fun c21 h21 => zZi h21 ho c20 (h.u _) (h.u _) ⟨fun _ _ _ => rfl, yF rd.1 rd.2 ?_⟩⟩
   rw [show o + op.d.toNat * 1 = o + op.d.toNat by omega]
   refine h1.st (by omega) (yFn (h.u _) ho.r.i) fun m2 h2 O2 => ?_
   rw [<- e1] at h2
   exact hk m2 h2 (Fr.key K1 O2.fr1)
theorem xV.live {v : AV} {l : List Op19} (h : xV m v l) {b : Nat} (hb : own v b) : m.obj b ≠ none := by obtain ⟨c, h1, _⟩ := h; exact h1.live hb
theorem bH {v : AV} {l : List Op19} (hl : l.length <= 8) (h : Rg m b o f N R) (hv : xV m v l) (hn : ¬ own v b) (ho : ∀ x ∈ l, OpK x) {k : Bool -> Mem -> Prop} (hk : ∀ m', Rg m' b o (xC (upd f 0 0) l) N R -> Fr (wM b) m m' -> k true m') : zYt b o v m k := by
 unfold zYt
 refine yGw hl hv (fun x hx => (ho x hx).r) (zB rfl ?_)
 have u0 : wC 0 := ⟨by decide, by decide⟩
 refine h.st (i := 0) (by omega) u0 fun m3 h3 O3 => ?_
 have hv3 : xV m3 v l := hv.fr O3.fr1 fun x hx e => by cases e; exact hn hx
 rw [hv3.len]
 have loop : ∀ (j i : Nat) (m1 : Mem) (g : Nat -> Int), i + j = l.length -> xV m1 v l -> Rg m1 b o g N R -> xC g (l.drop i) = xC (upd f 0 0) l -> Fr (wM b) m m1 -> zJo b o v l.length (j + 1) i m1 (fun m15 => k true m15) := by
  intro j
  induction j with
  | zero =>
   intro i m1 g e hv1 h1 hg F1
   show cS _ _ _ _ _ _ _ _
   unfold cS
   rw [show i = l.length by omega, List.drop_length] at hg
   have : g = xC (upd f 0 0) l := hg
   rw [this] at h1
   exact zB (by simp; omega) (hk m1 h1 F1)
  | succ j ih =>
   intro i m1 g e hv1 h1 hg F1
   show cS _ _ _ _ _ _ _ _
   unfold cS
   rw [zK (n := (i : Int) + 1) (by omega) (by omega)]
   refine zG (by simp; omega) (hv1.ld i (by omega) fun c9 h9 => kV fun b11 m12 y hb11 K12 e12 n12 r12 c12 => ?_)
   have hB : lY m12 b11 l[i] := ⟨y, e12, n12, by
    obtain ⟨a0, a1, a2, a3, a4⟩ := h9
    exact ⟨(c12 0 (by omega)).trans a0, (c12 1 (by omega)).trans a1, (c12 2 (by omega)).trans a2, (c12 3 (by omega)).trans a3, (c12 4 (by omega)).trans a4⟩⟩
   refine hB.lg fun c13 h13 => yB5 (h1.keep K12) h13 (ho _ (List.getElem_mem _)) fun m14 h14 F14 => ?_
   refine ih (i + 1) m14 _ (by omega) ((hv1.keep K12).fr F14 fun x hx e => by cases e; exact hn hx) h14 ?_ (F1.trans (Fr.key K12 F14))
   rw [<- hg, List.drop_eq_getElem_cons (show i < l.length by omega)]; rfl
 exact ⟨l.length + 1, loop l.length 0 m3 _ (by omega) hv3 h3 (by rw [List.drop_zero]) O3.fr1⟩
end
section
variable {m : Mem}
def cZ (l : List Int) : Nat -> AV := fun i => vi (l.getD i 0)
def IsZ (m : Mem) (v : AV) (l : List Int) : Prop := IsL m 1 v l.length (cZ l)
theorem IsZ.len {v : AV} {l : List Int} (h : IsZ m v l) (k : Int -> Prop) : xJ v k = k (l.length : Int) := vB h.r k
theorem IsZ.fr {m' : Mem} {S : Nat -> Prop} {v : AV} {l : List Int} (h : IsZ m v l) (F : Fr S m m') (hs : ∀ b, own v b -> ¬ S b) : IsZ m' v l := IsL.fr h F hs
theorem IsZ.ld {v : AV} {l : List Int} (h : IsZ m v l) {i : Nat} (hi : i < l.length) {k : Nat -> Nat -> Int -> Prop} (hk : ∀ b o, own v b -> k b o l[i]) : vD v fun b o q p => kif (decide (0 <= (i : Int)) && decide ((i : Int) < q)) (zR .i64 m b (o + (i : Int).toNat * 1) fun x => k b o x) False :=
 zGi h.r (by omega) (by omega) (by rw [Int.toNat_natCast]; show vi (l.getD i 0) = _; simp [List.getD, hi]) hk
def zGj : List Int -> List Int
 | [x, y] => if y < x then [y, x] else [x, y]
 | l => l
def zAg : List Int -> List Int
 | [x, y] => if x = y then [x] else [x, y]
 | l => l
theorem zUj {x : Int} {k : Bool -> Mem -> Prop} (hk : k false m) : yAl x m k := by
 unfold yAl
 exact ⟨zA.self m, by simpa using hk⟩
theorem zS7 {x y : Int} {k : Bool -> Mem -> Prop} (hk : k (decide (x < y)) m) : yB9 x y m k := by
 unfold yB9
 exact zUj (zB rfl ⟨zA.self m, hk⟩)
theorem zL5 {x : Int} (h0 : 0 <= x) (h1 : x < 3) {k : Int -> Mem -> Prop} (hk : ∀ q, k q m) : yHg x m k := by
 unfold yHg yOl
 refine zB (by simp; omega) ?_
 unfold hJ
 refine zB (by simp; omega) ?_
 unfold jX
 refine zB (by simp; omega) ?_
 unfold mT
 have hx : x = 0 \/ x = 1 \/ x = 2 := by omega
 rcases hx with rfl | rfl | rfl
 .exact zG (by decide +kernel) ⟨zA.self m, zA.self m, hk _⟩
 .exact zG (by decide +kernel) ⟨zA.self m, zA.self m, hk _⟩
 .exact zG (by decide +kernel) ⟨zA.self m, zA.self m, hk _⟩
theorem ySb {v : AV} {n : Int} (hn : n = 0 \/ n = 1) {k : Mem -> Prop} (hk : k m) : zWy v 0 n m k := by
 unfold zWy
 refine ⟨1, ?_⟩
 show kY _ _ _ _ _ _ _
 unfold kY
 refine zB ?_ hk
 rw [zK (by omega) (by omega)]
 rcases hn with rfl | rfl <;> decide
theorem xKo {v : AV} {x y : Int} (h : IsZ m v [x, y]) {k : Mem -> Prop} (hk : ∀ m', IsZ m' v (if y < x then [y, x] else [x, y]) -> Fr (own v) m m' -> k m') : zWy v 0 2 m k := by
 unfold zWy
 refine ⟨2, ?_⟩
 rw [zK (n := 0 + 1) (by omega) (by omega)]
 show kY _ _ _ _ _ _ _
 unfold kY
 refine zG (by decide) ⟨2, ?_⟩
 rw [zK (n := 0 + 1 + 1) (by omega) (by omega)]
 show cN _ _ _ _ _ _ _ _
 unfold cN
 rw [zK (n := 0 + 1 - 1) (by omega) (by omega)]
 have fin : ∀ m', (if y < x then [y, x] else [x, y]).length = 2 -> IsZ m' v (if y < x then [y, x] else [x, y]) -> Fr (own v) m m' -> zL9 v 0 2 1 (0 + 1 + 1) m' (fun m35 => k m35) := fun m' _ h' F' => by
  show kY _ _ _ _ _ _ _
  unfold kY
  exact zB (by decide) (hk m' h' F')
 refine zG (by decide) (h.ld (i := 1) (by simp) (k := fun b o x => vD v _) fun _ _ _ => h.ld (i := 0) (by simp) (k := fun b o x => yB9 _ _ _ _) fun _ _ _ => zS7 ?_)
 refine zD _ (fun c => ?_) fun c => ?_
 .have c : y < x := by simpa using c
  refine h.ld (i := 0) (by simp) (k := fun b o x => vD v _) fun _ _ _ => h.ld (i := 1) (by simp) (k := fun b o x => vD v _) fun _ _ _ => dX h (i := 1) (by omega) (by simp) fun m1 h1 F1 _ => dX h1 (i := 0) (by omega) (by simp) fun m2 h2 F2 _ => ?_
  show cN _ _ _ _ _ _ _ _
  unfold cN
  refine zB (by decide) (fin m2 (by simp [c]) ?_ (F1.trans F2))
  rw [if_pos c]
  refine IsL.congr h2 fun i hi => ?_
  have : i = 0 \/ i = 1 := by simp at hi; omega
  rcases this with rfl | rfl <;> rfl
 .have c : ¬ y < x := by simpa using c
  refine fin m (by simp [c]) ?_ (Fr.refl _ _)
  rw [if_neg c]; exact h
theorem zIq {v : AV} {l : List Int} (h : IsZ m v l) (hl : l.length <= 2) {k : Mem -> Prop} (hk : ∀ m', IsZ m' v (zGj l) -> Fr (own v) m m' -> k m') : yIw v m k := by
 unfold yIw
 rw [h.len, zBd (by omega) (by omega)]
 refine zL5 (by omega) (by omega) fun q => ?_
 unfold yPs
 refine ⟨1, ?_⟩
 show zKe _ _ _ _ _ _ _ _ _
 unfold zKe
 refine zG ?_ ?_
 .rw [Int.sub_zero, zK (by omega) (by omega)]; simp; omega
 match l, h, hl, hk with
 | [], h, hl, hk => exact ySb (.inl rfl) (hk m h (Fr.refl _ _))
 | [x], h, hl, hk => exact ySb (.inr rfl) (hk m h (Fr.refl _ _))
 | [x, y], h, hl, hk => exact xKo h hk
 | x :: y :: z :: l, h, hl, hk => simp at hl
theorem mL {c : Bool} {A B : Prop} (h : c = true) : kif c A B = A := by subst h; rfl
theorem yPh {esz b n : Nat} {lo : Int} {l : Nat} (hl : lo = l) (h : l < n) (k : AV -> Prop) : qH esz (.sl b 0 n (.ex n)) (some lo) none k = k (.sl b (0 + l * esz) (n - l) (.ex (n - l))) := by
 subst hl
 show kif (decide ((0 : Int) <= (l : Int))) (kif (decide ((l : Int) <= (n : Int))) (kif (decide ((n : Int) <= (n : Int))) (kite ((l : Int).toNat < n) (k (.sl b (0 + (l : Int).toNat * esz) ((n : Int).toNat - (l : Int).toNat) (.ex (n - (l : Int).toNat)))) (k (.sl b 0 0 (.ex 0)))) False) False) False = _
 rw [mL (by simp), mL (by simp; omega), mL (by simp), zO, if_pos (by omega), Int.toNat_natCast, Int.toNat_natCast]
theorem yQ2 {esz b n : Nat} {hi : Int} {u : Nat} (hu : hi = u) (h : u <= n) (h0 : 0 < n) (k : AV -> Prop) : qH esz (.sl b 0 n (.ex n)) none (some hi) k = k (.sl b (0 + 0 * esz) u (.ex n)) := by
 subst hu
 show kif (decide ((0 : Int) <= 0)) (kif (decide ((0 : Int) <= (u : Int))) (kif (decide ((u : Int) <= (n : Int))) (kite ((0 : Int).toNat < n) (k (.sl b (0 + (0 : Int).toNat * esz) ((u : Int).toNat - (0 : Int).toNat) (.ex (n - (0 : Int).toNat)))) (k (.sl b 0 0 (.ex 0)))) False) False) False = _
 rw [mL (by simp), mL (by simp), mL (by simp; omega), zO, if_pos (by simpa using h0), Int.toNat_natCast]
 rfl
theorem zJg {b : Nat} {l : List Int} (h : IsZ m (.sl b 0 l.length (.ex l.length)) l) (hl : l.length <= 2) {k : AV -> Mem -> Prop} (hk : ∀ v m', IsZ m' v (zAg l) -> Fr (wM b) m m' -> (∀ x, own v x -> x = b) -> k v m') : yC8 (.sl b 0 l.length (.ex l.length)) m k := by
 unfold yC8
 rw [h.len]
 have ob : ∀ x, own (.sl b 0 l.length (.ex l.length)) x -> x = b := fun x e => e.symm
 match l, h, hl, hk, ob with
 | [], h, hl, hk, ob => exact zG rfl (hk _ m h (Fr.refl _ _) ob)
 | [x], h, hl, hk, ob => exact zG rfl (hk _ m h (Fr.refl _ _) ob)
 | x :: y :: z :: l, h, hl, hk, ob => simp at hl
 | [x, y], h, hl, hk, ob =>
  refine zB rfl ⟨2, ?_⟩
  show bE _ _ _ _ _ _
  unfold bE
  rw [h.len]
  rw [zK (n := 1 - 1) (by omega) (by omega), zK (n := 1 + 1) (by omega) (by omega)]
  refine zG rfl (h.ld (i := 1) (by simp) (k := fun b o x => vD _ _) fun _ _ _ => h.ld (i := 0) (by simp) (k := fun b o x => kif _ _ _) fun _ _ _ => ?_)
  refine zD _ (fun c => ?_) fun c => ?_
  .have c : y = x := by simpa using c
   subst c
   have hS : IsS m 1 (.sl b 0 2 (.ex 2)) 2 (cZ [y, y]) := IsL.s h
   refine zH5 hS (l := 1) (u := 2) rfl rfl (by omega) (by omega) fun v13 h13 o13 => ⟨1, ?_⟩
   show zLc _ _ _ _ _ _ _
   unfold zLc
   rw [vB h13.r]
   refine zB rfl ?_
   -- the last cell is made zero
   cases h with
   | sl b' o' n' cap' Y c' g1 g2 g3 g4 g5 =>
    obtain ⟨Yn, Yc, Yt, Yro⟩ := Y
    dsimp only at g2 g3 g4
    subst g4
    have g2 : 2 <= Yn := by simpa using g2
    rw [show [y, y].length = 2 from rfl] at *
    rw [yPh (lo := 1) (l := 1) (by decide) (by omega)]
    unfold oK
    dsimp only
    rw [zO, if_neg (by omega)]
    unfold kobj; rw [g1]
    refine yK (by simp; omega) ?_
    rw [yQ2 (hi := 1) (u := 1) (by decide) (by omega) (by omega)]
    refine hk _ _ ?_ (yC.set _ _ _).fr1 fun x e => e.symm
    rw [show zAg [y, y] = [y] by simp [zAg]]
    refine .sl b 0 1 (.ex 2) _ _ (zL _ _ _) (by simp; omega) (fun i hi => ?_) rfl ⟨by omega, by simp; omega⟩
    have : i = 0 := by simp at hi; omega
    subst this
    simp only [zC]
    rw [if_neg (by omega)]
    exact g3 0 (by simp)
  .have c : ¬ y = x := by simpa using c
   show bE _ _ _ _ _ _
   unfold bE
   rw [h.len]
   refine zB rfl (hk _ m ?_ (Fr.refl _ _) ob)
   rw [show zAg [x, y] = [x, y] by simp [zAg]; intro e; exact c e.symm]; exact h
theorem zYm (l : List Int) : (zGj l).length = l.length := by
 unfold zGj; split
 .split <;> rfl
 .rfl
theorem zI6 {b : Nat} {l : List Int} {m0 : Mem} (K : zA m0 m) (hb : m0.obj b = none) (h : IsZ m (.sl b 0 l.length (.ex l.length)) l) (hl : l.length <= 2) {k : AV -> Mem -> Prop} (hk : ∀ v m', IsZ m' v (zAg (zGj l)) -> zA m0 m' -> (∀ x, own v x -> m0.obj x = none) -> k v m') : tY (.sl b 0 l.length (.ex l.length)) m k := by
 unfold tY
 refine zIq h hl fun m1 h1 F1 => ?_
 have e := zYm l
 rw [<- e] at h1 ⊢
 refine zJg h1 (by omega) fun v m2 h2 F2 o2 => hk v m2 h2 (Fr.keeps (Fr.keeps K F1 fun x hx => by cases hx; exact hb) F2 fun x hx => by cases hx; exact hb) fun x hx => by rw [o2 x hx]; exact hb
theorem yDg {k : AV -> Mem -> Prop} (hk : ∀ m', zA m m' -> k (.flat (.slice none 0 0)) m') : tY (.flat (.slice none 0 0)) m k := by
 unfold tY
 have h : IsZ m (.flat (.slice none 0 0)) [] := .nil none _
 refine zIq h (by simp) fun m1 h1 F1 => ?_
 unfold yC8
 rw [vB h1.r]
 exact zG (by decide) (hk m1 (F1.keeps0 fun x hx => hx.elim))
theorem zZ7 {o : Op19} (h : o.k ≠ 1) : wB o = if o.k = 2 then [o.a] else zAg (zGj [o.a, o.b]) := by
 unfold wB
 rw [if_neg h]
 have e : zGj [o.a, o.b] = if o.b < o.a then [o.b, o.a] else [o.a, o.b] := rfl
 have ec : ∀ x y : Int, zAg [x, y] = if x = y then [x] else [x, y] := fun _ _ => rfl
 by_cases c2 : o.k = 2
 .rw [if_pos c2, if_pos c2]
 rw [if_neg c2, if_neg c2, e]
 by_cases c : o.a < o.b
 .rw [if_pos c, if_neg (by omega), ec, if_neg (by omega)]
 .rw [if_neg c]
  by_cases c3 : o.a = o.b
  .rw [if_pos c3, if_neg (by omega), ec, if_pos c3]
  .rw [if_neg c3, if_pos (by omega), ec, if_neg (by omega)]
theorem zVq {n : Nat} {t : TypeId} {c : Nat -> AV} (l : List Int) (hn : n = l.length) (hc : ∀ i, i < n -> c i = cZ l i) {k : Nat -> Mem -> Prop} (hk : ∀ b m', m.obj b = none -> zA m m' -> IsZ m' (.sl b 0 n (.ex n)) l -> k b m') : zQ m ⟨n, c, t, false⟩ k := by
 subst hn
 refine zW fun b m' hb K e O => hk b m' hb K ?_
 exact (IsL.row (esz := 1) e (by simp) rfl).congr fun i hi => hc i (by omega)
theorem gW {c : Nat -> AV} {o : Op19} (hc : gN c o) (ho : OpK o) {k : AV -> Mem -> Prop} (hk : ∀ v m', IsZ m' v (wB o) -> zA m m' -> (∀ x, own v x -> m.obj x = none) -> k v m') : zY5 c m k := by
 unfold zY5
 refine mW hc fun b2 m1 hb2 K1 h2 => ?_
 rw [h2.l0]
 refine h2.lg fun c4 h4 => dV h4 ho.r (zB rfl (zB ?_ ?_))
 .have := ho.cases; simp; omega
 unfold mC
 refine zD _ (fun c1 => ?_) fun c1 => ?_
 .have c1 : o.k = 1 := by simpa using c1
  have e : wB o = [] := by unfold wB; rw [if_pos c1]
  refine yDg fun m' K' => hk _ m' ?_ (K1.trans K') fun x hx => hx.elim
  rw [e]; exact .nil none _
 have c1 : o.k ≠ 1 := by simpa using c1
 have e := zZ7 c1
 have hk' := ho.cases
 by_cases c2 : o.k = 2
 .rw [if_pos c2] at e
  refine zG (by simp [c2]) ?_
  unfold qV
  refine zG rfl ?_
  rw [Nat.zero_add, h2.l2]
  refine zVq [o.a] rfl (fun i hi => ?_) fun b9 m8 hb8 K8 h8 => ?_
  .have : i = 0 := by simp at hi; omega
   subst this; rfl
  .exact zI6 (l := [o.a]) (K1.trans K8) (zX K1 hb8) h8 (by simp) fun v m' hv Kv ov => hk v m' (by rw [e]; exact hv) Kv ov
 .rw [if_neg c2] at e
  refine zB (by simpa using c2) (zB (by simp; omega) ?_)
  have e16 : (o.k == 16) = false := by simp; omega
  rw [e16]
  unfold qV
  refine zB rfl (zB (by simp; omega) ?_)
  have e22 : (o.k == 22) = false := by simp; omega
  rw [e22]
  unfold iY
  refine zB rfl ?_
  rw [Nat.zero_add, h2.l2]
  simp only [Nat.zero_add]
  rw [h2.l3]
  refine zVq [o.a, o.b] rfl (fun i hi => ?_) fun b9 m8 hb8 K8 h8 => ?_
  .have : i = 0 \/ i = 1 := by simp at hi; omega
   rcases this with rfl | rfl <;> rfl
  .exact zI6 (l := [o.a, o.b]) (K1.trans K8) (zX K1 hb8) h8 (by simp) fun v m' hv Kv ov => hk v m' (by rw [e]; exact hv) Kv ov
theorem kD {c : Nat -> AV} {o : Op19} (hc : gN c o) (ho : OpK o) {k : AV -> Mem -> Prop} (hk : ∀ v m', IsZ m' v (yH o) -> zA m m' -> (∀ x, own v x -> m.obj x = none) -> k v m') : zXp c m k := by
 unfold zXp
 refine mW hc fun b2 m1 hb2 K1 h2 => ?_
 rw [h2.l0]
 have hk' := ho.cases
 refine h2.lg fun c4 h4 => dV h4 ho.r (zB rfl ?_)
 have e0 : (o.k == 0) = false := by simp; omega
 rw [e0]
 unfold jZ
 refine zB rfl ?_
 have low : o.k ≠ 20 -> ∀ z, z = false -> qS b2 0 z m1 (fun v10 m11 => k v10 m11) (fun m12 => zR .i64 m12 b2 1 fun x25 => zQ m12 ⟨1, upd (zH [(.flat (.int .i64 0))]) 0 (.flat (.int .i64 x25)), 3, false⟩ fun b27 m26 => k (.sl b27 0 1 (.ex 1)) m26) := by
  intro h20 z hz
  subst hz
  unfold qS
  refine zB rfl ?_
  rw [Nat.zero_add, h2.l1]
  refine zD _ (fun c0 => ?_) fun c0 => ?_
  .have c0 : o.d = 0 := by simpa using c0
   refine hk _ m1 ?_ K1 fun x hx => hx.elim
   unfold yH; rw [if_neg h20, if_pos c0]; exact .nil none _
  .have c0 : o.d ≠ 0 := by simpa using c0
   dsimp only
   rw [h2.l1]
   refine zVq [o.d] rfl (fun i hi => ?_) fun b27 m26 hb26 K26 h26 => hk _ m26 ?_ (K1.trans K26) fun x hx => by cases hx; exact zX K1 hb26
   .have : i = 0 := by simp at hi; omega
    subst this; rfl
   .unfold yH; rw [if_neg h20, if_neg c0]; exact h26
 by_cases c20 : o.k = 20
 .refine zG (by simp [c20]) ?_
  rw [show decide (o.k <= 20) = true by simp [c20]]
  unfold qS
  refine zG rfl (zVq [32, 33] rfl (fun i hi => ?_) fun b8 m7 hb7 K7 h7 => hk _ m7 ?_ (K1.trans K7) fun x hx => by cases hx; exact zX K1 hb7)
  .have : i = 0 \/ i = 1 := by simp at hi; omega
   rcases this with rfl | rfl <;> rfl
  .unfold yH; rw [if_pos c20]; exact h7
 .exact zB (by simp; omega) (low c20 false rfl)
end
end Go.Proofs.YtkiggdgphbkneaaGreat.Am
