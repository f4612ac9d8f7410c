/- Rows of small operations made shorter: the program. Conditions: at wQ eight operations, of the kinds that are spoken of. Rows of small operations made shorter: the program, second part. Conditions: at wQ eight operations, of the kinds that are spoken of. R -/
import Derived.Test.YtkiggdgphbkneaaGreatTopDiskX23
namespace Go.Proofs.YtkiggdgphbkneaaGreat.Am
set_option linter.unusedVariables false
set_option linter.unusedSimpArgs false
set_option maxRecDepth 100000
section
variable {m : Mem}
def o0 : Op19 := ⟨1, 0, 0, 0, 0⟩
def lU (m : Mem) (v : AV) (n : Nat) (X : Nat -> Op19) : Prop := ∃ c : Nat -> AV, IsL m 5 v n c /\ ∀ i, i < n -> gN (fun j => c (i * 5 + j)) (X i)
def atO (l : List Op19) : Nat -> Op19 := fun i => l.getD i o0
def IsO (m : Mem) (v : AV) (l : List Op19) : Prop := lU m v l.length (atO l)
theorem zLj {l : List Op19} {i : Nat} (h : i < l.length) : atO l i = l[i] := by simp [atO, List.getD, h]
theorem lU.fr {m' : Mem} {S : Nat -> Prop} {v : AV} {n : Nat} {X : Nat -> Op19} (h : lU m v n X) (F : Fr S m m') (hs : ∀ b, own v b -> ¬ S b) : lU m' v n X := by
 obtain ⟨c, h1, h2⟩ := h; exact ⟨c, h1.fr F hs, h2⟩
theorem IsO.fr {m' : Mem} {S : Nat -> Prop} {v : AV} {l : List Op19} (h : IsO m v l) (F : Fr S m m') (hs : ∀ b, own v b -> ¬ S b) : IsO m' v l := lU.fr h F hs
theorem IsO.keep {m' : Mem} {v : AV} {l : List Op19} (h : IsO m v l) (K : zA m m') : IsO m' v l := h.fr (K.fr fun _ => False) fun _ _ h => h
theorem lU.live {v : AV} {n : Nat} {X : Nat -> Op19} (h : lU m v n X) {b : Nat} (hb : own v b) : m.obj b ≠ none := by obtain ⟨c, h1, _⟩ := h; exact h1.live hb
theorem IsO.ops {v : AV} {l : List Op19} (h : IsO m v l) : xV m v l := by
 obtain ⟨c, h1, h2⟩ := h
 exact ⟨c, h1.r, fun i hi => by rw [<- zLj hi]; exact h2 i hi⟩
theorem gN.congr {c d : Nat -> AV} {o : Op19} (h : gN c o) (e : ∀ j, j < 5 -> d j = c j) : gN d o := by
 obtain ⟨a0, a1, a2, a3, a4⟩ := h
 exact ⟨(e 0 (by omega)).trans a0, (e 1 (by omega)).trans a1, (e 2 (by omega)).trans a2, (e 3 (by omega)).trans a3, (e 4 (by omega)).trans a4⟩
theorem lU.congr {v : AV} {n : Nat} {X Y : Nat -> Op19} (h : lU m v n X) (e : ∀ i, i < n -> X i = Y i) : lU m v n Y := by
 obtain ⟨c, h1, h2⟩ := h
 exact ⟨c, h1, fun i hi => by rw [<- e i hi]; exact h2 i hi⟩
theorem lU.ld {v : AV} {n : Nat} {X : Nat -> Op19} (h : lU m v n X) {i : Int} (h0 : 0 <= i) (h1 : i < n) {k : (Nat -> AV) -> Prop} (hk : ∀ c, gN c (X i.toNat) -> k c) : vD v fun b o q p => kif (decide (0 <= i) && decide (i < q)) (yN 5 m b (o + i.toNat * 5) k) False := by
 obtain ⟨c, hc, hx⟩ := h
 cases hc with
 | nil a c => exact absurd h1 (by simp; omega)
 | sl b o n cap y c g1 g2 g3 g4 g5 =>
  refine yF h0 h1 ?_
  rw [xH g1 (by omega)]
  refine hk _ ((hx i.toNat (by omega)).congr fun j hj => ?_)
  simp only [sub]
  rw [if_pos hj, Nat.add_assoc]
  exact g3 _ (by omega)
theorem lU.st {v : AV} {n : Nat} {X : Nat -> Op19} (h : lU m v n X) {i : Int} (h0 : 0 <= i) (h1 : i < n) {d : Nat -> AV} {x : Op19} (hd : gN d x) {k : Mem -> Prop} (hk : ∀ m', lU m' v n (fun j => if j = i.toNat then x else X j) -> Fr (own v) m m' -> k m') : vD v fun b o q p => kif (decide (0 <= i) && decide (i < q)) (vA 5 m b (o + i.toNat * 5) d k) False := by
 obtain ⟨c, hc, hx⟩ := h
 cases hc with
 | nil a c => exact absurd h1 (by simp; omega)
 | sl b o n cap y c g1 g2 g3 g4 g5 =>
  refine yF h0 h1 ?_
  rw [wR g1 g4 (by omega)]
  refine hk _ ⟨fun j => zC c (i.toNat * 5) 5 d j, .sl b o n cap _ _ (zL _ _ _) g2 (fun j hj => ?_) g4 g5, fun j hj => ?_⟩ (Fr.set rfl _)
  .simp only [zC]
   by_cases c1 : i.toNat * 5 <= j /\ j < i.toNat * 5 + 5
   .rw [if_pos (by omega), if_pos (by omega)]; congr 1; omega
   .rw [if_neg (by omega), if_neg (by omega)]; exact g3 j hj
  .by_cases c1 : j = i.toNat
   .subst c1
    dsimp only
    rw [if_pos rfl]
    refine hd.congr fun t ht => ?_
    simp only [zC]
    rw [if_pos (by omega)]; congr 1; omega
   .dsimp only
    rw [if_neg c1]
    refine (hx j hj).congr fun t ht => ?_
    simp only [zC]
    rw [if_neg (by omega)]
theorem IsO.app {v : AV} {l : List Op19} (h : IsO m v l) (hl : l.length <= 1000) {c z : Nat -> AV} {x : Op19} (hc : gN c x) {t e : TypeId} {k : KV} (hk : ∀ v' m', IsO m' v' (l ++ [x]) -> Fr (own v) m m' -> (∀ b, own v' b -> own v b \/ m.obj b = none) -> k v' m') :
  zQ m ⟨5, zC z 0 5 c, t, false⟩ fun b m1 => uB 5 40 e v (.sl b 0 1 (.ex 1)) m1 k := by
 obtain ⟨c0, h1, h2⟩ := h
 have h1' := h1.congr (d := fun i => if i < l.length * 5 then c0 i else c (i - l.length * 5)) fun i hi => by rw [if_pos hi]
 refine yGf (n' := 1) h1' rfl (fun i hi => ?_) (by omega) fun v' m' g1 g2 g3 => hk v' m' ⟨_, by rw [List.length_append]; exact g1, fun i hi => ?_⟩ g2 g3
 .simp only [zC]
  rw [if_pos (by omega), if_neg (by omega)]; congr 1; omega
 .simp at hi
  by_cases c1 : i < l.length
  .have : atO (l ++ [x]) i = atO l i := by simp [atO, List.getD, List.getElem?_append_left c1]
   rw [this]
   refine (h2 i c1).congr fun j hj => ?_
   rw [if_pos (by omega)]
  .have e : i = l.length := by omega
   subst e
   have : atO (l ++ [x]) l.length = x := by simp [atO, List.getD]
   rw [this]
   refine hc.congr fun j hj => ?_
   rw [if_neg (by omega)]; congr 1; omega
theorem IsO.nil : IsO m (.flat (.slice none 0 0)) [] := ⟨fun _ => .junk, .nil none _, fun i hi => by simp at hi⟩
theorem zAh {v : AV} {l : List Op19} (hl : l.length <= 8) (h : xV m v l) (ho : ∀ x ∈ l, OpK x) {k : Bool -> Mem -> Prop} (hk : k true m) : yDm v m k := by
 unfold yDm
 rw [h.len]
 have loop : ∀ (j i : Nat) (m1 : Mem), i + j = l.length -> zA m m1 -> zJ4 v l.length (j + 1) i m1 (fun m13 => (zA m m13 /\ k true m)) (fun x14 m15 => (zA m m15 /\ k x14 m)) := by
  intro j
  induction j with
  | zero =>
   intro i m1 e K
   show bW _ _ _ _ _ _ _
   unfold bW
   exact zB (by simp; omega) ⟨K, hk⟩
  | succ j ih =>
   intro i m1 e K
   show bW _ _ _ _ _ _ _
   unfold bW
   rw [zK (n := (i : Int) + 1) (by omega) (by omega)]
   refine zG (by simp; omega) ((h.keep K).ld i (by omega) fun c9 h9 => kV fun b11 m12 y hb11 K12 e12 n12 r12 c12 => ?_)
   have hB : lY m12 b11 l[i] := ⟨y, e12, n12, h9.congr c12⟩
   refine hB.lg fun c13 h13 => dV h13 (ho _ (List.getElem_mem _)).r (zB rfl (ih (i + 1) m12 (by omega) (K.trans K12)))
 exact ⟨l.length + 1, loop l.length 0 m (by omega) (zA.self m)⟩
theorem zA2 {c : Nat -> AV} {o : Op19} (hc : gN c o) (ho : OpK o) {k : Bool -> Mem -> Prop} (hk : k true m) : zX8 c m k := by
 unfold zX8
 refine mW hc fun b m1 hb K h => ?_
 rw [h.l0, h.l0]
 have := ho.cases
 refine zG (by simp; omega) ?_
 rw [show (o.k != 22) = true by simp; omega]
 exact ⟨K, hk⟩
def cBo (K : Nat -> Bool) : Nat -> AV := fun i => .flat (.bool (K i))
theorem Rg.lR {b o N : Nat} {f : Nat -> Int} {R : Nat -> AV} (h : Rg m b o f N R) {j : Nat} (hj : j < N) (hj2 : j < o \/ o + 40 <= j) {x : Bool} (e : R j = .flat (.bool x)) (k : Bool -> Prop) : ldB m b j k = k x := by
 obtain ⟨y, e1, hn, hr, hc, hR⟩ := h.e
 exact zKm e1 (by omega) ((hR j hj hj2).trans e)
theorem Rg.sR {b o N : Nat} {f : Nat -> Int} {R : Nat -> AV} (h : Rg m b o f N R) {j : Nat} (hj : j < N) (hj2 : j < o \/ o + 40 <= j) {x : AV} {k : Mem -> Prop} (hk : ∀ m', Rg m' b o f N (upd R j x) -> yC m b m' -> k m') : wF m b j x k := by
 obtain ⟨y, e, hn, hr, hc, hR⟩ := h.e
 rw [oO e hr (by omega)]
 refine hk _ ⟨⟨_, zL _ _ _, hn, hr, fun i hi => ?_, fun i hi hi2 => ?_⟩, h.n, h.u⟩ (yC.set _ _ _)
 .show upd y.c _ _ _ = _
  have := h.n
  unfold upd; rw [if_neg (by omega)]; exact hc i hi
 .show upd y.c _ _ _ = upd R _ _ _
  unfold upd
  by_cases c : i = j
  .rw [if_pos c, if_pos c]
  .rw [if_neg c, if_neg c]; exact hR i hi hi2
def Fx (m : Mem) (b : Nat) (K : Nat -> Bool) (V : Nat -> Int) : Prop := Rg m b 40 V 80 (cBo K)
def zT9 (l : List Int) : Prop := ∀ z ∈ l, 0 <= z /\ z < 40
theorem zBi {b : Nat} {K : Nat -> Bool} {V : Nat -> Int} (h : Fx m b K V) {v : AV} {l : List Int} (hv : IsZ m v l) (hl : l.length <= 2) (hr : zT9 l) {k : Bool -> Mem -> Prop} (hk : k (tL K l) m) : yCm b 0 v m k := by
 unfold yCm
 rw [hv.len]
 have loop : ∀ (j i : Nat), i + j = l.length -> tL K l = tL K (l.drop i) -> zKi b 0 v l.length (j + 1) i m (fun m8 => (zA m m8 /\ k true m)) (fun x9 m10 => (zA m m10 /\ k x9 m)) := by
  intro j
  induction j with
  | zero =>
   intro i e g
   show cV _ _ _ _ _ _ _ _ _
   unfold cV
   rw [show i = l.length by omega, List.drop_length] at g
   have g : tL K l = true := g
   rw [g] at hk
   exact zB (by simp; omega) ⟨zA.self m, hk⟩
  | succ j ih =>
   intro i e g
   show cV _ _ _ _ _ _ _ _ _
   unfold cV
   have hi : i < l.length := by omega
   have hz := hr _ (List.getElem_mem hi)
   rw [zK (n := (i : Int) + 1) (by omega) (by omega)]
   refine zG (by simp; omega) (hv.ld hi (k := fun b o x => kif _ _ _) fun _ _ _ => yF hz.1 hz.2 ?_)
   rw [show 0 + 0 + l[i].toNat * 1 = l[i].toNat by omega, h.lR (x := K l[i].toNat) (by omega) (by omega) rfl]
   rw [List.drop_eq_getElem_cons hi] at g
   have g : tL K l = (K l[i].toNat && tL K (l.drop (i + 1))) := g
   refine zD _ (fun c => ?_) fun c => ?_
   .have c : K l[i].toNat = false := by simpa using c
    rw [c] at g
    have g : tL K l = false := g
    rw [g] at hk
    exact ⟨zA.self m, hk⟩
   .have c : K l[i].toNat = true := by simpa using c
    rw [c] at g
    exact ih (i + 1) (by omega) g
 exact ⟨l.length + 1, loop l.length 0 (by omega) (by rw [List.drop_zero])⟩
theorem zEh {o : Op19} (h : OpR o) : zT9 (wB o) := fun z hz => zIk h hz
theorem aC {o : Op19} (h : OpR o) : zT9 (yH o) := fun z hz => ⟨by have := fS h hz; omega, (fS h hz).2⟩
theorem aY (o : Op19) : (wB o).length <= 2 := by
 unfold wB; split
 .simp
 split
 .simp
 split
 .simp
 split <;> simp
theorem mO (o : Op19) : (yH o).length <= 2 := by
 unfold yH; split
 .simp
 split <;> simp
theorem lY.st {b : Nat} {o o' : Op19} {c : Nat -> AV} (h : ∃ y, m.obj b = some y /\ y.n = 5 /\ y.ro = false) (hc : gN c o') {k : Mem -> Prop} (hk : ∀ m', lY m' b o' -> yC m b m' -> k m') : vA 5 m b 0 c k := by
 obtain ⟨y, e, n, r⟩ := h
 rw [wR e r (by omega)]
 refine hk _ ⟨_, zL _ _ _, n, hc.congr fun j hj => ?_⟩ (yC.set _ _ _)
 simp only [zC]
 rw [if_pos (by omega)]; rfl
theorem yEv {V : Nat -> Int} (h : V 0 = 0) : upd V 0 0 = V := by
 funext i; unfold upd; split
 .subst i; exact h.symm
 .rfl
theorem zYj {b : Nat} {K : Nat -> Bool} {V : Nat -> Int} (h : Fx m b K V) (h0 : V 0 = 0) {c : Nat -> AV} {o : Op19} (hc : gN c o) (ho : OpK o) {k : (Nat -> AV) -> Bool -> Mem -> Prop} (hk : ∀ c' m', gN c' (qA K V o) -> zA m m' -> k c' true m') : yJp b 0 c m k := by
 unfold yJp
 refine mW hc fun b2 m1 hb2 K1 h2 => zW fun b4 m3 hb4 K3 e4 O4 => ?_
 have h23 := h2.keep K3
 refine h23.lg fun c5 h5 => kD h5 ho fun v6 m7 hv6 K7 ov6 => (h23.keep K7).lg fun c8 h8 => zA2 h8 ho (zB rfl ?_)
 have h27 := h23.keep K7
 have e47 : ∃ y, m7.obj b4 = some y /\ y.n = 5 /\ y.ro = false := ⟨_, (K7 b4 (by rw [e4]; simp)).trans e4, rfl, rfl⟩
 have K07 : zA m m7 := (K1.trans K3).trans K7
 have n4 : m.obj b4 = none := zX K1 hb4
 unfold iZ
 refine zB rfl (h27.lg fun c20 h20 => zA2 h20 ho (zB rfl ?_))
 rw [hv6.len]
 have keepit : ∀ m1, zA m7 m1 -> qA K V o = o -> (yN 5 m1 b2 0 fun c => vA 5 m1 b4 0 c fun m39 => yN 5 m39 b4 0 fun c59 => k c59 true m39) := fun m1 K1 e => by
  refine (h27.keep K1).lg fun c29 h29 => lY.st (o := o) (by obtain ⟨y, a, b, c⟩ := e47; exact ⟨y, by rw [K1 _ (by rw [a]; simp)]; exact a, b, c⟩) h29 fun m' h' O' => h'.lg fun c59 h59 => hk c59 m' (by rw [e]; exact h59) ?_
  exact Fr.keeps (K07.trans K1) O'.fr1 fun x hx => by cases hx; exact n4
 have w2 := mO o
 refine zD _ (fun c1 => ?_) fun c1 => ?_
 .have c1 : (yH o).length ≠ 1 := by simp at c1; omega
  exact keepit m7 (zA.self _) (by unfold qA; rw [if_neg fun h => c1 h.1])
 have c1 : (yH o).length = 1 := by simp at c1; omega
 refine h27.lg fun c24 h24 => gW h24 ho fun v25 m26 hv25 K26 ov25 => zBi (Rg.keep h (K07.trans K26)) hv25 (aY o) (zEh ho.r) ?_
 refine zD _ (fun c2 => ?_) fun c2 => ?_
 .have c2 : tL K (wB o) = false := by simpa using c2
  exact keepit m26 K26 (by unfold qA; rw [if_neg fun h => by rw [c2] at h; simp at h])
 have c2 : tL K (wB o) = true := by simpa using c2
 obtain ⟨k20, hd⟩ := zEw ho.r c1
 have hdr := ho.r.d
 unfold jV
 have hF := Rg.keep h (K07.trans K26)
 obtain ⟨y, ey, yn, yr, yc, yR⟩ := hF.e
 show yN 40 m26 b (0 + 40) _
 rw [xH ey (by omega)]
 refine kV fun b43 m44 y43 hb43 K44 e43 n43 r43 c43 => ?_
 have h43 : Rg m44 b43 0 V 40 (fun _ => .junk) := ⟨⟨y43, e43, n43, r43, fun i hi => by
  rw [Nat.zero_add, c43 i hi]
  simp only [sub]
  rw [if_pos hi]; exact yc i hi, fun j hj hj2 => by omega⟩, by omega, hF.u⟩
 have h244 := (h27.keep K26).keep K44
 refine h244.lg fun c45 h45 => zW fun b47 m46 hb47 K46 e47' O46 => ?_
 have i47 : xV m46 (.sl b47 0 1 (.ex 1)) [o] := zK8 e47' (h45.congr fun j hj => by simp only [zC]; rw [if_pos (by omega)]; rfl)
 refine bH (by simp) (h43.keep K46) i47 (fun e => ?_) (fun x hx => by simp at hx; subst hx; exact ho) fun m49 h49 F49 => ?_
 .have e : b47 = b43 := e
  subst e; exact h43.live hb47
 have ne2 : b2 ≠ b43 := fun e => (h27.keep K26).live (e ▸ hb43)
 have h249 : lY m49 b2 o := (h244.keep K46).fr F49 ne2
 rw [show (0 : Nat) + 1 = 1 from rfl, h249.l1, h249.l1]
 refine yF hdr.1 hdr.2 ?_
 rw [show 0 + o.d.toNat * 1 = 0 + o.d.toNat by omega, h49.ld (by omega)]
 have K49 : zA m m49 := Fr.keeps (((K07.trans K26).trans K44).trans K46) F49 fun x hx => by cases hx; exact zX (K07.trans K26) hb43
 have e49 : ∃ y, m49.obj b4 = some y /\ y.n = 5 /\ y.ro = false := by
  obtain ⟨y, a, b, c⟩ := e47
  have K746 : zA m7 m46 := (K26.trans K44).trans K46
  have a' : m46.obj b4 = some y := by rw [K746 _ (by rw [a]; simp)]; exact a
  refine ⟨y, ?_, b, c⟩
  rw [F49 b4 (by rw [a']; simp) fun e => ?_]
  .exact a'
  .have e : b4 = b43 := e
   subst e
   rw [K26 b4 (by rw [a]; simp), a] at hb43; simp at hb43
 have e1 : xC (upd V 0 0) [o] o.d.toNat = xS V o o.d.toNat := by rw [yEv h0]; rfl
 rw [e1]
 refine lY.st (o := o) (o' := qA K V o) e49 ?_ fun m' h' O' => h'.lg fun c59 h59 => hk c59 m' h59 (Fr.keeps K49 O'.fr1 fun x hx => by cases hx; exact n4)
 unfold qA; rw [if_pos ⟨c1, c2⟩]
 exact ⟨rfl, rfl, rfl, rfl, rfl⟩
end
section
variable {m : Mem}
def yJn (v : AV) : Bool := match v with
 | .flat (.int .u32 n) => n == 0
 | _ => false
theorem zVs {v : AV} (h : yJn v = true) : v = vu 0 := by
 unfold yJn at h; split at h
 .rename_i n; have : n = 0 := by simpa using h
  rw [this]
 .simp at h
def yHp (v : AV) : Bool := match v with
 | .flat (.bool b) => !b
 | _ => false
theorem zVg {v : AV} (h : yHp v = true) : v = .flat (.bool false) := by
 unfold yHp at h; split at h
 .rename_i n; have : n = false := by simpa using h
  rw [this]
 .simp at h
def pR (K : Nat -> Bool) (l : List Int) (x : Bool) : Nat -> Bool := fun n => if (n : Int) ∈ l then x else K n
theorem bA {K : Nat -> Bool} {l : List Int} {x : Bool} {i : Nat} (hi : i < l.length) (hr : 0 <= l[i]) : pR K (l.take (i + 1)) x = fun n => if n = l[i].toNat then x else pR K (l.take i) x n := by
 funext n
 unfold pR
 have e : l.take (i + 1) = l.take i ++ [l[i]] := (List.take_append_getElem hi).symm
 have em : (n : Int) ∈ l.take (i + 1) ↔ (n : Int) ∈ l.take i \/ n = l[i].toNat := by
  rw [e, List.mem_append, List.mem_singleton]
  constructor
  .rintro (h | h)
   .exact .inl h
   .exact .inr (by omega)
  .rintro (h | h)
   .exact .inl h
   .exact .inr (by omega)
 by_cases c : n = l[i].toNat
 .rw [if_pos (em.2 (.inr c)), if_pos c]
 .rw [if_neg c]
  by_cases c2 : (n : Int) ∈ l.take i
  .rw [if_pos (em.2 (.inl c2)), if_pos c2]
  .rw [if_neg fun h => (em.1 h).elim c2 c, if_neg c2]
theorem zV1 (K : Nat -> Bool) (j : Nat) (x : Bool) : upd (cBo K) j (.flat (.bool x)) = cBo (fun n => if n = j then x else K n) := by
 funext i; unfold upd cBo
 by_cases c : i = j
 .rw [if_pos c]; show _ = AV.flat (.bool (if i = j then x else K i)); rw [if_pos c]
 .rw [if_neg c]; show _ = AV.flat (.bool (if i = j then x else K i)); rw [if_neg c]
theorem zZ6 {b : Nat} {V : Nat -> Int} {K : Nat -> Bool} {x : Bool} {v : AV} {l : List Int} (hl : l.length <= 2) (hr : zT9 l) (hb : ¬ own v b) {k0 : Mem -> Prop} {m0 : Mem} (hk : ∀ m', Fx m' b (pR K l x) V -> Fr (wM b) m0 m' -> k0 m') :
  ∀ (j i : Nat) (m : Mem), i + j = l.length -> IsZ m v l -> Fx m b (pR K (l.take i) x) V -> Fr (wM b) m0 m -> zLo b 0 x v l.length (j + 1) i m k0 := by
 intro j
 induction j with
 | zero =>
  intro i m e hv h F
  show aW _ _ _ _ _ _ _ _ _
  unfold aW
  rw [show i = l.length by omega, List.take_length] at h
  exact zB (by simp; omega) (hk m h F)
 | succ j ih =>
  intro i m e hv h F
  show aW _ _ _ _ _ _ _ _ _
  unfold aW
  have hi : i < l.length := by omega
  have hz := hr _ (List.getElem_mem hi)
  rw [zK (n := (i : Int) + 1) (by omega) (by omega)]
  refine zG (by simp; omega) (hv.ld hi (k := fun b o x => kif _ _ _) fun _ _ _ => yF hz.1 hz.2 ?_)
  rw [show 0 + 0 + l[i].toNat * 1 = l[i].toNat by omega]
  refine Rg.sR h (by omega) (by omega) fun m' h' O' => ih (i + 1) m' (by omega) (hv.fr O'.fr1 fun y hy e => by cases e; exact hb hy) ?_ (F.trans O'.fr1)
  rw [zV1, <- bA hi hz.1] at h'
  exact h'
theorem zWx {b : Nat} {K : Nat -> Bool} {V : Nat -> Int} (h : Fx m b K V) (h0 : V 0 = 0) {c : Nat -> AV} {o : Op19} (hc : gN c o) (ho : OpK o) {k : Mem -> Prop} (hk : ∀ m', Fx m' b (zAk K o) (lO K V o) -> Fr (wM b) m m' -> k m') : yI4 b 0 c m k := by
 unfold yI4
 refine mW hc fun b2 m1 hb2 K1 h2 => h2.lg fun c3 h3 => gW h3 ho fun v4 m5 hv4 K5 ov4 => zBi (Rg.keep h (K1.trans K5)) hv4 (aY o) (zEh ho.r) ?_
 have rest : ∀ (m7 : Mem) (V' : Nat -> Int) (x : Bool), Fx m7 b K V' -> lY m7 b2 o -> Fr (wM b) m m7 -> zAk K o = pR K (yH o) x -> lO K V o = V' -> nV b 0 b2 0 x m7 (fun m25 => k m25) := fun m7 V' x h7 h27 F7 e1 e2 => by
  unfold nV
  refine h27.lg fun c13 h13 => kD h13 ho fun v14 m15 hv14 K15 ov14 => ?_
  rw [hv14.len]
  have h15 := Rg.keep h7 K15
  refine ⟨(yH o).length + 1, zZ6 (K := K) (V := V') (mO o) (aC ho.r) (fun e => h7.live (ov14 _ e)) (m0 := m7) (fun m' h' F' => hk m' ?_ (F7.trans F')) (yH o).length 0 m15 (by omega) hv14 ?_ (K15.fr _)⟩
  .rw [e1, e2]; exact h'
  .have : pR K ((yH o).take 0) x = K := by funext n; simp [pR]
   rw [this]; exact h15
 have dk : ∀ x, tL K (wB o) = x -> zAk K o = pR K (yH o) x := fun x e => by unfold zAk pR; rw [e]
 have h25 := h2.keep K5
 refine zD _ (fun c => ?_) fun c => ?_
 .rw [c]
  refine h25.lg fun c8 h8 => zW fun b10 m9 hb10 K9 e10 O9 => ?_
  have i10 : xV m9 (.sl b10 0 1 (.ex 1)) [o] := zK8 e10 (h8.congr fun j hj => by simp only [zC]; rw [if_pos (by omega)]; rfl)
  have hF := Rg.keep h (K1.trans K5)
  refine bH (by simp) (hF.keep K9) i10 (fun e => ?_) (fun x hx => by simp at hx; subst hx; exact ho) fun m12 h12 F12 => ?_
  .have e : b10 = b := e
   subst e; exact hF.live hb10
  .refine rest m12 _ true h12 ((h25.keep K9).fr F12 fun e => ?_) (Fr.key ((K1.trans K5).trans K9) F12) (dk _ c) ?_
   .have e : b2 = b := e
    subst e; exact h.live hb2
   .rw [yEv h0]; unfold lO; rw [if_pos c]; rfl
 .rw [c]
  refine rest m5 _ false (Rg.keep h (K1.trans K5)) h25 ((K1.trans K5).fr _) (dk _ c) ?_
  unfold lO; rw [if_neg (by rw [c]; simp)]
theorem yPl {K : Nat -> Bool} {V : Nat -> Int} {o : Op19} (ho : OpK o) (h0 : V 0 = 0) : lO K V o 0 = 0 := by
 unfold lO; split
 .rw [jQ ho V fun h => by have := fS ho.r h; omega]; exact h0
 .exact h0
structure OwO (m0 m : Mem) (v : AV) (l : List Op19) : Prop where
 l : IsO m v l
 K : zA m0 m
 o : ∀ b, own v b -> m0.obj b = none
theorem OwO.keep {m0 m' : Mem} {v : AV} {l : List Op19} (h : OwO m0 m v l) (K : zA m m') : OwO m0 m' v l := ⟨h.l.keep K, h.K.trans K, h.o⟩
theorem OwO.fr1 {m0 m' : Mem} {v : AV} {l : List Op19} {b : Nat} (h : OwO m0 m v l) (F : Fr (wM b) m m') (hb : m0.obj b = none) (hn : ¬ own v b) : OwO m0 m' v l := ⟨h.l.fr F fun x hx e => by cases e; exact hn hx, Fr.keeps h.K F fun x hx => by cases hx; exact hb, h.o⟩
theorem OwO.app {m0 : Mem} {v : AV} {l : List Op19} (h : OwO m0 m v l) (hl : l.length <= 1000) {c z : Nat -> AV} {x : Op19} (hc : gN c x) {t e : TypeId} {k : KV} (hk : ∀ v' m', OwO m0 m' v' (l ++ [x]) -> Fr (own v) m m' -> (∀ b, own v' b -> own v b \/ m.obj b = none) -> k v' m') :
  zQ m ⟨5, zC z 0 5 c, t, false⟩ fun b m1 => uB 5 40 e v (.sl b 0 1 (.ex 1)) m1 k :=
 h.l.app hl hc fun v' m' g1 g2 g3 => hk v' m' ⟨g1, Fr.keeps h.K g2 h.o, fun b hb => by
  rcases g3 b hb with h1 | h1
  .exact h.o b h1
  .exact zX h.K h1⟩ g2 g3
theorem zRa {b : Nat} {v : AV} {l : List Op19} (hl : l.length <= 8) (hv0 : ∀ x ∈ l, OpK x) {m0 : Mem} (hb : m0.obj b = none) (hv : xV m0 v l) {k0 : AV -> Mem -> Prop} {R : List Op19} (hk : ∀ v' m', OwO m0 m' v' R -> k0 v' m') :
  ∀ (j i : Nat) (a : AV) (al : List Op19) (m : Mem) (K : Nat -> Bool) (V : Nat -> Int), i + j = l.length -> OwO m0 m a al -> ¬ own a b -> al.length <= i -> al ++ kG K V (l.drop i) = R -> Fx m b K V -> V 0 = 0 -> zL1 b 0 v l.length (j + 1) a i m k0 := by
 intro j
 induction j with
 | zero =>
  intro i a al m K V e A na hal hR hF h0
  show cX _ _ _ _ _ _ _ _ _
  unfold cX
  rw [show i = l.length by omega, List.drop_length] at hR
  have hR : al ++ [] = R := hR
  rw [List.append_nil] at hR
  exact zB (by simp; omega) (hk a m (hR ▸ A))
 | succ j ih =>
  intro i a al m K V e A na hal hR hF h0
  show cX _ _ _ _ _ _ _ _ _
  unfold cX
  have hi : i < l.length := by omega
  have hx := hv0 _ (List.getElem_mem hi)
  rw [zK (n := (i : Int) + 1) (by omega) (by omega)]
  refine zG (by simp; omega) ((hv.keep A.K).ld i hi fun c11 h11 => kV fun b13 m14 y hb13 K14 e13 n13 r13 c13 => ?_)
  have hB : lY m14 b13 l[i] := ⟨y, e13, n13, h11.congr c13⟩
  refine hB.lg fun c15 h15 => zYj (Rg.keep hF K14) h0 h15 hx fun c16 m18 h16 K18 => kV fun b20 m21 y20 hb20 K21 e20 n20 r20 c20 => zG rfl ?_
  have hB20 : lY m21 b20 (qA K V l[i]) := ⟨y20, e20, n20, h16.congr c20⟩
  have A21 := ((A.keep K14).keep K18).keep K21
  have F21 := Rg.keep (Rg.keep (Rg.keep hF K14) K18) K21
  refine hB20.lg fun c22 h22 => A21.app (by omega) h22 fun v25 m26 A26 F26 o26 => ?_
  have b20live : m21.obj b20 ≠ none := hB20.live
  have n20 : ¬ own a b20 := fun e => A.l.live e (zX (K14.trans K18) hb20)
  have b26 : lY m26 b20 _ := hB20.fr F26 n20
  have fx26 : Fx m26 b K V := Rg.fr F21 F26 na
  have nv25 : ¬ own v25 b := fun e => by
   rcases o26 _ e with h | h
   .exact na h
   .exact F21.live h
  refine b26.lg fun c27 h27 => zWx fx26 h0 h27 (zJq hx hF.u) fun m28 h28 F28 => ih (i + 1) v25 _ m28 _ _ (by omega) (A26.fr1 F28 hb nv25) nv25 (by simp; omega) ?_ h28 (yPl (zJq hx hF.u) h0)
  rw [List.append_assoc, <- hR, List.drop_eq_getElem_cons hi]; rfl
theorem zRn {v : AV} {l : List Op19} (hl : l.length <= 8) (hv : xV m v l) (ho : ∀ x ∈ l, OpK x) {k : AV -> Mem -> Prop} (hk : ∀ v' m', IsO m' v' (kG K0 (fun _ => 0) l) -> zA m m' -> (∀ b, own v' b -> m.obj b = none) -> k v' m') : yGy v m k := by
 unfold yGy
 refine zAh hl hv ho (zB rfl (zW fun b m3 hb K3 e3 O3 => ?_))
 have h3 : Fx m3 b (fun _ => false) (fun _ => 0) := ⟨⟨_, e3, rfl, rfl, fun i hi => by
  have : ∀ i, i < 40 -> yJn (Z80 (40 + i)) = true := by decide +kernel
  exact zVs (this i hi), fun j hj hj2 => by
  have : ∀ i, i < 40 -> yHp (Z80 i) = true := by decide +kernel
  exact zVg (this j (by omega))⟩, by omega, fun _ => ⟨Int.le_refl 0, by decide⟩⟩
 refine Rg.sR h3 (by omega) (by omega) fun m5 h5 O5 => ?_
 rw [hv.len]
 have K5 : zA m m5 := Fr.keeps K3 O5.fr1 fun x hx => by cases hx; exact hb
 rw [zV1] at h5
 have eK : (fun n => if n = 0 then true else (fun _ : Nat => false) n) = K0 := by funext n; simp [K0]
 rw [eK] at h5
 exact ⟨l.length + 1, zRa hl ho hb hv (R := kG K0 (fun _ => 0) l) (fun v' m' A => hk v' m' A.l A.K A.o) l.length 0 _ [] m5 K0 (fun _ => 0) (by omega) ⟨.nil, K5, fun b h => h.elim⟩ (fun h => h) (by simp) (by rw [List.drop_zero, List.nil_append]) h5 rfl⟩
end
section
variable {m : Mem}
def Lv (m : Mem) (b : Nat) (L : Nat -> Bool) : Prop := ∃ y, m.obj b = some y /\ y.n = 40 /\ y.ro = false /\ ∀ i, i < 40 -> y.c i = .flat (.bool (L i))
theorem Lv.fr {m' : Mem} {S : Nat -> Prop} {b : Nat} {L : Nat -> Bool} (h : Lv m b L) (F : Fr S m m') (hb : ¬ S b) : Lv m' b L := by
 obtain ⟨y, e, r⟩ := h
 exact ⟨y, by rw [F b (by rw [e]; simp) hb]; exact e, r⟩
theorem Lv.keep {m' : Mem} {b : Nat} {L : Nat -> Bool} (h : Lv m b L) (K : zA m m') : Lv m' b L := h.fr (K.fr fun _ => False) fun h => h
theorem Lv.live {b : Nat} {L : Nat -> Bool} (h : Lv m b L) : m.obj b ≠ none := by obtain ⟨y, e, _⟩ := h; rw [e]; simp
theorem Lv.ld {b : Nat} {L : Nat -> Bool} (h : Lv m b L) {i : Nat} (hi : i < 40) (k : Bool -> Prop) : ldB m b i k = k (L i) := by
 obtain ⟨y, e, hn, hr, hc⟩ := h
 exact zKm e (by omega) (hc i hi)
theorem Lv.st {b : Nat} {L : Nat -> Bool} (h : Lv m b L) {i : Nat} (hi : i < 40) {x : Bool} {k : Mem -> Prop} (hk : ∀ m', Lv m' b (fun n => if n = i then x else L n) -> yC m b m' -> k m') : wF m b i (.flat (.bool x)) k := by
 obtain ⟨y, e, hn, hr, hc⟩ := h
 rw [oO e hr (by omega)]
 refine hk _ ⟨_, zL _ _ _, hn, hr, fun j hj => ?_⟩ (yC.set _ _ _)
 show upd y.c _ _ _ = AV.flat (.bool (if j = i then x else L j))
 unfold upd
 by_cases c : j = i
 .rw [if_pos c, if_pos c]
 .rw [if_neg c, if_neg c]; exact hc j hj
theorem yGe {x : Int} {v : AV} {k : KV} : yE2 200 ([(.flat (.int .i64 x))] ++ [v]) m k = yNg x v m (fun x m' => k (.flat (.bool x)) m') := by kernel_rfl
def zLx (L : Nat -> Bool) (l : List Int) : Bool := l.any fun n => L n.toNat
theorem yA4 {b : Nat} {L : Nat -> Bool} (h : Lv m b L) {v : AV} {l : List Int} (hv : IsZ m v l) (hl : l.length <= 2) (hr : zT9 l) {k : Bool -> Mem -> Prop} (hk : k (zLx L l) m) : yKw v (.clo 200 [(.ptr b 0)]) m k := by
 unfold yKw
 unfold yO4
 rw [hv.len]
 have loop : ∀ (j i : Nat), i + j = l.length -> zLx L l = zLx L (l.drop i) -> zLm v (.clo 200 [(.ptr b 0)]) l.length (j + 1) i m (fun m11 => k (decide ((-1 : Int) >= 0)) m11) (fun x12 m13 => k (decide (x12 >= 0)) m13) := by
  intro j
  induction j with
  | zero =>
   intro i e g
   show cR _ _ _ _ _ _ _ _
   unfold cR
   rw [show i = l.length by omega, List.drop_length] at g
   have g : zLx L l = false := g
   rw [g] at hk
   exact zB (by simp; omega) hk
  | succ j ih =>
   intro i e g
   show cR _ _ _ _ _ _ _ _
   unfold cR
   have hi : i < l.length := by omega
   have hz := hr _ (List.getElem_mem hi)
   rw [zK (n := (i : Int) + 1) (by omega) (by omega)]
   refine zG (by simp; omega) (hv.ld hi (k := fun b o x => mB _ _) fun _ _ _ => ?_)
   dsimp only [mB]
   rw [yGe]
   unfold yNg
   refine yF hz.1 hz.2 ?_
   rw [show 0 + l[i].toNat * 1 = l[i].toNat by omega, h.ld (by omega)]
   refine ⟨zA.self m, ?_⟩
   dsimp only [tP]
   rw [List.drop_eq_getElem_cons hi] at g
   have g : zLx L l = (L l[i].toNat || zLx L (l.drop (i + 1))) := g
   refine zD _ (fun c => ?_) fun c => ?_
   .rw [c] at g
    have g : zLx L l = true := g
    rw [g] at hk
    rw [show decide ((i : Int) >= 0) = true by simp]; exact hk
   .rw [c] at g
    exact ih (i + 1) (by omega) (by rw [g]; simp)
 exact ⟨l.length + 1, loop l.length 0 (by omega) (by rw [List.drop_zero])⟩
theorem yIb {v0 v5 : AV} {x6 : Int} {b b7 : Nat} {L : Nat -> Bool} {v : AV} {l : List Int} (hl : l.length <= 2) (hr : zT9 l) (hb : ¬ own v b) {o : Op19} (ho : OpK o) (hne : b7 ≠ b) {k0 : Mem -> Prop} {m0 : Mem} (hk : ∀ m', Lv m' b (pR L l false) -> Fr (wM b) m0 m' -> k0 m') :
  ∀ (j i : Nat) (m : Mem), i + j = l.length -> IsZ m v l -> lY m b7 o -> Lv m b (pR L (l.take i) false) -> Fr (wM b) m0 m -> eX v0 b 0 v5 x6 b7 0 v l.length (j + 1) i m k0 := by
 intro j
 induction j with
 | zero =>
  intro i m e hv h7 h F
  show iX _ _ _ _ _ _ _ _ _ _ _ _ _
  unfold iX
  rw [show i = l.length by omega, List.take_length] at h
  exact zB (by simp; omega) (hk m h F)
 | succ j ih =>
  intro i m e hv h7 h F
  show iX _ _ _ _ _ _ _ _ _ _ _ _ _
  unfold iX
  have hi : i < l.length := by omega
  have hz := hr _ (List.getElem_mem hi)
  rw [zK (n := (i : Int) + 1) (by omega) (by omega)]
  refine zG (by simp; omega) (hv.ld hi (k := fun b o x => kif _ _ _) fun _ _ _ => yF hz.1 hz.2 ?_)
  rw [show 0 + l[i].toNat * 1 = l[i].toNat by omega, h.ld (by omega)]
  have st : wF m b l[i].toNat (.flat (.bool false)) fun m' => eX v0 b 0 v5 x6 b7 0 v l.length (j + 1) ((i : Int) + 1) m' k0 := h.st (by omega) fun m' h' O' => ih (i + 1) m' (by omega) (hv.fr O'.fr1 fun y hy e => by cases e; exact hb hy) (h7.fr O'.fr1 hne) (by rw [bA hi hz.1]; exact h') (F.trans O'.fr1)
  refine zD _ (fun c => ?_) fun c => ?_
  .exact h7.lg fun c29 h29 => zA2 h29 ho (yF hz.1 hz.2 st)
  .exact yF hz.1 hz.2 st
theorem yIq {v0 v5 : AV} {x6 : Int} {b b7 : Nat} {L : Nat -> Bool} {v : AV} {l : List Int} (hl : l.length <= 2) (hr : zT9 l) (hb : ¬ own v b) {k0 : Mem -> Prop} {m0 : Mem} (hk : ∀ m', Lv m' b (pR L l true) -> Fr (wM b) m0 m' -> k0 m') :
  ∀ (j i : Nat) (m : Mem), i + j = l.length -> IsZ m v l -> Lv m b (pR L (l.take i) true) -> Fr (wM b) m0 m -> zBb v0 b 0 v5 x6 b7 0 v l.length (j + 1) i m k0 := by
 intro j
 induction j with
 | zero =>
  intro i m e hv h F
  show iL _ _ _ _ _ _ _ _ _ _ _ _ _
  unfold iL
  rw [show i = l.length by omega, List.take_length] at h
  exact zB (by simp; omega) (hk m h F)
 | succ j ih =>
  intro i m e hv h F
  show iL _ _ _ _ _ _ _ _ _ _ _ _ _
  unfold iL
  have hi : i < l.length := by omega
  have hz := hr _ (List.getElem_mem hi)
  rw [zK (n := (i : Int) + 1) (by omega) (by omega)]
  refine zG (by simp; omega) (hv.ld hi (k := fun b o x => kif _ _ _) fun _ _ _ => yF hz.1 hz.2 ?_)
  rw [show 0 + l[i].toNat * 1 = l[i].toNat by omega]
  exact h.st (by omega) fun m' h' O' => ih (i + 1) m' (by omega) (hv.fr O'.fr1 fun y hy e => by cases e; exact hb hy) (by rw [bA hi hz.1]; exact h') (F.trans O'.fr1)
theorem yHz {L : Nat -> Bool} {o : Op19} : pR (pR L (yH o) false) (wB o) true = zCu L o := by funext n; rfl
theorem zXi {b : Nat} {v : AV} {l : List Op19} (hl : l.length <= 8) (hv0 : ∀ x ∈ l, OpK x) {m0 : Mem} (hb : m0.obj b = none) (hv : xV m0 v l) {k0 : AV -> Mem -> Prop} (hk : ∀ v' m', OwO m0 m' v' (xR l).2.reverse -> k0 v' m') :
  ∀ (j : Nat) (a : AV) (m : Mem), j <= l.length -> OwO m0 m a (xR (l.drop j)).2.reverse -> ¬ own a b -> Lv m b (xR (l.drop j)).1 -> zB5 v b 0 (j + 1) a ((j : Int) - 1) m k0 := by
 intro j
 induction j with
 | zero =>
  intro a m e A na hL
  show iS _ _ _ _ _ _ _ _
  unfold iS
  exact zB (by decide) (hk a m A)
 | succ j ih =>
  intro a m e A na hL
  show iS _ _ _ _ _ _ _ _
  unfold iS
  have hi : j < l.length := by omega
  have hx := hv0 _ (List.getElem_mem hi)
  rw [show ((j + 1 : Nat) : Int) - 1 = (j : Int) by omega, zK (n := (j : Int) - 1) (by omega) (by omega)]
  have eD : l.drop j = l[j] :: l.drop (j + 1) := List.drop_eq_getElem_cons hi
  refine zG (by simp) ((hv.keep A.K).ld j hi fun c13 h13 => kV fun b15 m16 y hb15 K16 e15 n15 r15 c15 => ?_)
  have hB : lY m16 b15 l[j] := ⟨y, e15, n15, h13.congr c15⟩
  refine hB.lg fun c17 h17 => kD h17 hx fun v18 m19 hv18 K19 ov18 => yA4 (hL.keep (K16.trans K19)) hv18 (mO _) (aC hx.r) ?_
  have A19 := A.keep (K16.trans K19)
  have L19 := hL.keep (K16.trans K19)
  refine zD _ (fun c => ?_) fun c => ?_
  .have c : zLx (xR (l.drop (j + 1))).1 (yH l[j]) = false := by simpa using c
   have eN : xR (l.drop j) = xR (l.drop (j + 1)) := by
    rw [eD]
    show (if _ then _ else _) = _
    rw [if_neg (by rw [show ((yH l[j]).any fun n => (xR (l.drop (j + 1))).1 n.toNat) = false from c]; simp)]
   exact ih a m19 (by omega) (by rw [eN]; exact A19) na (by rw [eN]; exact L19)
  .have c : zLx (xR (l.drop (j + 1))).1 (yH l[j]) = true := by simpa using c
   have eN : xR (l.drop j) = (zCu (xR (l.drop (j + 1))).1 l[j], l[j] :: (xR (l.drop (j + 1))).2) := by
    rw [eD]
    show (if ((yH l[j]).any fun n => (xR (l.drop (j + 1))).1 n.toNat) = true then _ else _) = _
    rw [if_pos (show ((yH l[j]).any fun n => (xR (l.drop (j + 1))).1 n.toNat) = true from c)]
   rw [hv18.len]
   have ne : b15 ≠ b := fun e => hL.live (e ▸ hb15)
   have n18 : ¬ own v18 b := fun e => (hL.keep K16).live (ov18 _ e)
   refine ⟨_, yIb (L := (xR (l.drop (j + 1))).1) (m0 := m19) (mO l[j]) (aC hx.r) n18 hx ne (fun m34 h34 F34 => ?_) (yH l[j]).length 0 m19 (by omega) hv18 (hB.keep K19) (by rw [show pR (xR (l.drop (j + 1))).1 ((yH l[j]).take 0) false = (xR (l.drop (j + 1))).1 by funext n; simp [pR]]; exact L19) (Fr.refl _ _)⟩
   have B34 := (hB.keep K19).fr F34 ne
   have A34 := A19.fr1 F34 hb na
   refine B34.lg fun c36 h36 => gW h36 hx fun v37 m38 hv37 K38 ov37 => ?_
   rw [hv37.len]
   have n37 : ¬ own v37 b := fun e => h34.live (ov37 _ e)
   refine ⟨_, yIq (L := pR (xR (l.drop (j + 1))).1 (yH l[j]) false) (m0 := m38) (aY l[j]) (zEh hx.r) n37 (fun m46 h46 F46 => ?_) (wB l[j]).length 0 m38 (by omega) hv37 (by rw [show pR (pR (xR (l.drop (j + 1))).1 (yH l[j]) false) ((wB l[j]).take 0) true = pR (xR (l.drop (j + 1))).1 (yH l[j]) false by funext n; simp [pR]]; exact h34.keep K38) (Fr.refl _ _)⟩
   have B46 := (B34.keep K38).fr F46 ne
   have A46 := (A34.keep K38).fr1 F46 hb na
   refine B46.lg fun c48 h48 => A46.app (by
    have := iK (l.drop (j + 1))
    simp at this ⊢; omega) h48 fun v51 m52 A52 F52 o52 => ?_
   have nv51 : ¬ own v51 b := fun e => by
    rcases o52 _ e with h | h
    .exact na h
    .exact h46.live h
   refine ih v51 m52 (by omega) ?_ nv51 ?_
   .rw [eN, List.reverse_cons]; exact A52
   .rw [eN]
    rw [yHz] at h46
    exact h46.fr F52 na
theorem zXx {v0 : AV} {b : Nat} {k0 : Mem -> Prop} {m0 : Mem} (hk : ∀ m', Lv m' b (fun n => decide (n < 34)) -> Fr (wM b) m0 m' -> k0 m') : ∀ (j i : Nat) (m : Mem), i + j = 34 -> Lv m b (fun n => decide (n < i)) -> Fr (wM b) m0 m -> zKg v0 b 0 (j + 1) i m k0 := by
 intro j
 induction j with
 | zero =>
  intro i m e h F
  show aE _ _ _ _ _ _ _
  unfold aE
  rw [show i = 34 by omega] at h
  exact zB (by simp; omega) (hk m h F)
 | succ j ih =>
  intro i m e h F
  show aE _ _ _ _ _ _ _
  unfold aE
  rw [zK (n := (i : Int) + 1) (by omega) (by omega)]
  refine zG (by simp; omega) (yF (by omega) (by omega) ?_)
  rw [show 0 + (i : Int).toNat * 1 = i by omega]
  refine h.st (by omega) fun m' h' O' => ih (i + 1) m' (by omega) ?_ (F.trans O'.fr1)
  have : (fun n => if n = i then true else decide (n < i)) = fun n => decide (n < i + 1) := by
   funext n
   by_cases c : n = i
   .rw [if_pos c]; simp; omega
   .rw [if_neg c]; by_cases c2 : n < i <;> simp [c2] <;> omega
  rw [this] at h'
  exact h'
def yBw (n i : Nat) (X : Nat -> Op19) : Nat -> Op19 := fun p => if p < i \/ n <= p + i then X (n - 1 - p) else X p
theorem yF2 {v : AV} {n : Nat} {X : Nat -> Op19} (hn : n <= 8) {k0 : Mem -> Prop} {m0 : Mem} (hk : ∀ m', lU m' v n (fun p => X (n - 1 - p)) -> Fr (own v) m0 m' -> k0 m') : ∀ (j i : Nat) (m : Mem), i + j = n -> lU m v n (yBw n i X) -> Fr (own v) m0 m -> 2 * i <= n + 1 -> zJm v (j + 1) i ((n : Int) - 1 - i) m k0 := by
 intro j
 induction j with
 | zero =>
  intro i m e h F h2
  show aJ _ _ _ _ _ _
  unfold aJ
  refine zB (by simp; omega) (hk m (h.congr fun p hp => ?_) F)
  unfold yBw
  by_cases c : p < i \/ n <= p + i
  .rw [if_pos c]
  .rw [if_neg c]; congr 1; omega
 | succ j ih =>
  intro i m e h F h2
  show aJ _ _ _ _ _ _
  unfold aJ
  by_cases c : (i : Int) < (n : Int) - 1 - i
  .rw [zK (n := (i : Int) + 1) (by omega) (by omega), zK (n := (n : Int) - 1 - i - 1) (by omega) (by omega)]
   refine zG (by simpa using c) (h.ld (by omega) (by omega) fun c6 h6 => h.ld (by omega) (by omega) fun c11 h11 => h.st (by omega) (by omega) h6 fun m16 h16 F16 => h16.st (by omega) (by omega) h11 fun m21 h21 F21 => ?_)
   rw [show (n : Int) - 1 - i - 1 = (n : Int) - 1 - (i + 1 : Nat) by omega]
   refine ih (i + 1) m21 (by omega) (h21.congr fun p hp => ?_) ((F.trans F16).trans F21) (by omega)
   simp only [yBw, Int.toNat_natCast]
   rw [show ((n : Int) - 1 - i).toNat = n - 1 - i by omega]
   by_cases c1 : p = n - 1 - i
   .rw [if_pos c1, if_neg (by omega), if_pos (by omega)]; congr 1; omega
   .rw [if_neg c1]
    by_cases c2 : p = i
    .rw [if_pos c2, if_neg (by omega), if_pos (by omega), c2]
    .rw [if_neg c2]
     by_cases c3 : p < i \/ n <= p + i
     .rw [if_pos c3, if_pos (by omega)]
     .rw [if_neg c3, if_neg (by omega)]
  .refine zB (by simpa using c) (hk m (h.congr fun p hp => ?_) F)
   unfold yBw
   by_cases c1 : p < i \/ n <= p + i
   .rw [if_pos c1]
   .rw [if_neg c1]; congr 1; omega
theorem yAt {v : AV} {l : List Op19} (hl : l.length <= 8) (h : IsO m v l) {k : Mem -> Prop} (hk : ∀ m', IsO m' v l.reverse -> Fr (own v) m m' -> k m') : yJ8 v m k := by
 unfold yJ8
 rw [h.ops.len, zK (n := (l.length : Int) - 1) (by omega) (by omega)]
 refine ⟨l.length + 1, ?_⟩
 have := yF2 (v := v) (n := l.length) (X := atO l) hl (m0 := m) (k0 := fun m => k m) (fun m' h' F' => hk m' ?_ F') l.length 0 m (by omega) (lU.congr h ?_) (Fr.refl _ _) (by omega)
 .simpa using this
 .unfold IsO
  rw [List.length_reverse]
  refine h'.congr fun p hp => ?_
  rw [zLj (l := l.reverse) (by simpa using hp), zLj (by omega), List.getElem_reverse]
 .intro p hp; unfold yBw; rw [if_neg (by omega)]
theorem zSz {v : AV} {l : List Op19} (hl : l.length <= 8) (hv : xV m v l) (ho : ∀ x ∈ l, OpK x) {k : AV -> Mem -> Prop} (hk : ∀ v' m', IsO m' v' (xR l).2 -> zA m m' -> (∀ b, own v' b -> m.obj b = none) -> k v' m') : yKp v m k := by
 unfold yKp
 refine zAh hl hv ho (zB rfl (zW fun b m3 hb K3 e3 O3 => ?_))
 have h3 : Lv m3 b (fun n => decide (n < 0)) := ⟨_, e3, rfl, rfl, fun i hi => by
  have : ∀ i, i < 40 -> yHp (Z40 i) = true := by decide +kernel
  show Z40 i = _
  rw [zVg (this i hi)]; simp⟩
 refine ⟨_, zXx (m0 := m3) (fun m6 h6 F6 => ?_) 34 0 m3 (by omega) h3 (Fr.refl _ _)⟩
 rw [hv.len, zK (n := (l.length : Int) - 1) (by omega) (by omega)]
 have K6 : zA m m6 := Fr.keeps K3 F6 fun x hx => by cases hx; exact hb
 refine ⟨l.length + 1, zXi hl ho hb hv (fun v53 m54 A => ?_) l.length _ m6 (Nat.le_refl _) (by rw [List.drop_length]; exact ⟨.nil, K6, fun b h => h.elim⟩) (fun h => h) (by rw [List.drop_length]; exact h6)⟩
 have := iK l
 refine yAt (by simp; omega) A.l fun m56 h56 F56 => ?_
 rw [List.reverse_reverse] at h56
 exact hk _ _ h56 (Fr.keeps A.K F56 A.o) A.o
theorem yEn {v : AV} {l : List Op19} (hl : l.length <= 8) (hv : xV m v l) (ho : ∀ x ∈ l, OpK x) {k : AV -> Mem -> Prop} (hk : ∀ v' m', IsO m' v' (kH l) -> zA m m' -> (∀ b, own v' b -> m.obj b = none) -> k v' m') : yJw v m k := by
 unfold yJw
 refine zRn hl hv ho fun v1 m2 h1 K1 o1 => zSz (by rw [aL]; exact hl) h1.ops ?_ fun v3 m4 h3 K3 o3 => hk v3 m4 h3 (K1.trans K3) fun b hb => zX K1 (o3 b hb)
 exact (cQ l K0 (fun _ => 0) (fun _ => 0) ho (fun _ => (⟨Int.le_refl 0, by omega⟩ : wC 0)) (fun _ _ => rfl)).2
end
theorem zYf (x : Int) : IntKind.wrap .i32 x = if x % 4294967296 >= 2147483648 then x % 4294967296 - 4294967296 else x % 4294967296 := by
 simp [IntKind.wrap, IntKind.bits, IntKind.signed]
def sx (v : Int) : Int := if v >= 32768 then bits .or .u32 v 4294901760 else v
theorem yLj (v : Int) (h0 : 0 <= v) (h1 : v < 65536) : sx v = if v >= 32768 then v + 4294901760 else v := by
 unfold sx
 split
 .have e : bits .and .u32 v 65535 = v := by
   have := wE v h0 (by omega) 16 (by decide)
   have : bits .and .u32 v 65535 = v % 65536 := by simpa using this
   omega
  rw [gI, yEp]
  .rw [pF h0 (by omega), pF (by omega) (by omega)]
  .have e2 : bv v = bv v &&& bv 65535 := by
    have := congrArg bv e
    rw [vV, rS] at this; exact this.symm
   rw [e2, BitVec.and_assoc, show bv 65535 &&& bv 4294901760 = 0#32 by decide]
   simp
 .rfl
theorem yJv (v : Int) (h0 : 0 <= v) (h1 : v < 65536) : IntKind.wrap .u32 ((IntKind.wrap .i32 (IntKind.wrap .u32 (v * 65536))).fdiv 65536) = sx v := by
 rw [yLj v h0 h1, yV, zYf, yV, Int.fdiv_eq_ediv_of_nonneg _ (by decide)]
 split <;> split <;> omega
def zEr (c : Nat -> AV) (k sh im : Int) : Prop := c 0 = .flat (.int .i64 k) /\ c 4 = .flat (.int .i64 sh) /\ c 5 = .flat (.int .u32 im)
theorem zEr.sub {c : Nat -> AV} {k sh im : Int} (h : zEr c k sh im) : zEr (sub c 0 6) k sh im := ⟨h.1, h.2.1, h.2.2⟩
section
variable {m : Mem} {c : Nat -> AV} {sh im s t : Int}
theorem zWw {v : Int} (h0 : 0 <= v) (h1 : v < 65536) {k : Int -> Mem -> Prop} (hk : k (sx v) m) : zAq v 16 m k := by
 unfold zAq
 (repeat (first | refine zG (by decide) ?_ | refine zB (by decide) ?_ | refine ⟨zA.self _, ?_⟩))
 have e := yJv v h0 h1
 have e' : IntKind.wrap .u32 ((IntKind.wrap .i32 (IntKind.wrap .u32 (v * 2 ^ min (IntKind.wrap .i64 (32 - 16)).toNat 32))).fdiv (2 ^ min (bits .and .i64 (IntKind.wrap .i64 (32 - 16)) 31).toNat 32)) = sx v := by
  rw [show (2 : Int) ^ min (bits .and .i64 (IntKind.wrap .i64 (32 - 16)) 31).toNat 32 = 65536 by decide, show (2 : Int) ^ min (IntKind.wrap .i64 (32 - 16)).toNat 32 = 65536 by decide]
  exact e
 rw [e']
 exact hk
theorem zG5 {x y : Int} {b : Bool} {k : Bool -> Mem -> Prop} (hk : k (if b = true then decide (IntKind.wrap .i32 x < IntKind.wrap .i32 y) else decide (x < y)) m) : zFa x y b m k := by
 unfold zFa
 cases b with
 | true => exact ⟨zA.self _, hk⟩
 | false => exact ⟨zA.self _, hk⟩
theorem zNm {x : Bool} {k : Int -> Mem -> Prop} (hk : k (if x = true then 1 else 0) m) : yDq x m k := by
 unfold yDq
 cases x with
 | true => exact ⟨zA.self _, hk⟩
 | false => exact ⟨zA.self _, hk⟩
def opR (k s t : Int) : Int :=
 if k = 22 \/ k = 23 then IntKind.wrap .u32 (s + t)
 else if k = 26 then bits .and .u32 s t
 else if k = 27 then bits .or .u32 s t
 else if k = 28 then bits .xor .u32 s t
 else if k = 29 then bits .xor .u32 4294967295 (bits .or .u32 s t)
 else if k = 30 then if decide (IntKind.wrap .i32 s < IntKind.wrap .i32 t) = true then 1 else 0
 else if decide (s < t) = true then 1 else 0
def yDn (k : Int) : Int := if k = 46 then 22 else if k = 47 then 23 else if k = 48 then 30 else if k = 49 then 31 else if k = 50 then 26 else if k = 51 then 27 else 28
def yEs (k im : Int) : Int := if k < 50 then sx im else im
theorem zNg {kd : Int} (hkd : 46 <= kd /\ kd <= 52) (h0 : 0 <= im) (h1 : im < 65536) (hc : zEr c kd sh im) {k : Int -> Mem -> Prop} (hk : k (opR (yDn kd) s (yEs kd im)) m) : yKf c s m k := by
 unfold yKf
 refine zW fun b m1 hb K e O => ⟨fun b' => b' = b, rfl, ?_⟩
 rw [yW e (by show 5 < 6; omega) hc.2.2]
 refine ⟨rfl, ?_⟩
 rw [yW e (by show 5 < 6; omega) hc.2.2]
 have em : bits .and .u32 im 65535 = im := by
  have := wE im h0 (by omega) 16 (by decide)
  have : bits .and .u32 im 65535 = im % 65536 := by simpa using this
  omega
 rw [em]
 refine zWw h0 h1 ⟨fun _ _ _ => rfl, ?_⟩
 rw [yW e (by show 0 < 6; omega) hc.1]
 have : kd = 46 \/ kd = 47 \/ kd = 48 \/ kd = 49 \/ kd = 50 \/ kd = 51 \/ kd = 52 := by omega
 rcases this with rfl | rfl | rfl | rfl | rfl | rfl | rfl
 all_goals
  (repeat (first | refine zG (by decide) ?_ | refine zB (by decide) ?_ | refine ⟨zA.self _, ?_⟩))
  try unfold iQ
  (repeat (first | refine zG (by decide) ?_ | refine zB (by decide) ?_ | refine ⟨zA.self _, ?_⟩))
 .exact ⟨K, hk⟩
 .exact ⟨K, hk⟩
 all_goals
  try unfold jN
  (repeat (first | refine zG (by decide) ?_ | refine zB (by decide) ?_ | refine ⟨zA.self _, ?_⟩))
 .rw [show (0 + 0 : Nat) = 0 from rfl, yW e (by show 0 < 6; omega) hc.1]
  exact zG5 (zNm ⟨K, hk⟩)
 .rw [show (0 + 0 : Nat) = 0 from rfl, yW e (by show 0 < 6; omega) hc.1]
  exact zG5 (zNm ⟨K, hk⟩)
 .exact ⟨K, hk⟩
 .exact ⟨K, hk⟩
 .exact ⟨K, hk⟩
theorem zWo {kd : Int} (h : (1 <= kd /\ kd <= 6) \/ (22 <= kd /\ kd <= 31) \/ (46 <= kd /\ kd <= 53)) {k : Bool -> Mem -> Prop} (hk : k true m) : zSw kd m k := by
 have step : ∀ (a b : Int) (x y : Prop), (a <= kd /\ kd <= b -> x) -> (¬ (a <= kd /\ kd <= b) -> y) -> kif (decide (kd >= a)) (kif (decide (kd <= b)) x y) y := by
  intro a b x y hx hy
  refine zD _ (fun c1 => zD _ (fun c2 => hx ⟨by simpa using c1, by simpa using c2⟩) fun c2 => hy fun q => ?_) fun c1 => hy fun q => ?_
  .simp at c2; omega
  .simp at c1; omega
 unfold zSw
 refine step _ _ _ _ (fun _ => ⟨zA.self _, hk⟩) fun n1 => step _ _ _ _ (fun _ => ⟨zA.self _, hk⟩) fun n2 => step _ _ _ _ (fun _ => ⟨zA.self _, hk⟩) fun n3 => ?_
 omega
theorem yQd {kd : Int} (hkd : 46 <= kd /\ kd <= 52) (h0 : 0 <= im) (h1 : im < 65536) (hc : zEr c kd sh im) {k : Int -> Bool -> Mem -> Prop} (hk : k (opR (yDn kd) s (yEs kd im)) true m) : zR9 c s t m k := by
 unfold zR9
 refine zW fun b m1 hb K e O => ?_
 rw [yW e (by show 0 < 6; omega) hc.1]
 refine zWo (by omega) (zB rfl (zB (by simp; omega) (zB (by simp; omega) (zG (by simp; omega) ?_))))
 unfold jO
 refine zG (by simp; omega) ?_
 rw [xH e (by show 0 + 6 <= 6; omega)]
 exact zNg hkd h0 h1 hc.sub ⟨K, hk⟩
def shR (k x n : Int) : Int :=
 if k = 1 then IntKind.wrap .u32 (x * 2 ^ min n.toNat 32)
 else if k = 2 then x.fdiv (2 ^ min n.toNat 32)
 else IntKind.wrap .u32 ((IntKind.wrap .i32 x).fdiv (2 ^ min (bits .and .i64 n 31).toNat 32))
theorem zOz (n : Int) (h0 : 0 <= n) (h1 : n < 32) : bits .and .i64 n 31 = n := by
 have e : ∀ n : Fin 32, bits .and .i64 (n.val : Int) 31 = n.val := by decide +kernel
 have := e ⟨n.toNat, by omega⟩
 have ec : ((n.toNat : Nat) : Int) = n := by omega
 simpa only [ec] using this
theorem zJ8 {kd n : Int} (hkd : 1 <= kd /\ kd <= 6) (h0 : 0 <= n) (h1 : n < 32) {k : Int -> Mem -> Prop} (hk : k (shR (if kd <= 3 then kd else kd - 3) t n) m) : yF7 kd t n m k := by
 unfold yF7
 have : kd = 1 \/ kd = 2 \/ kd = 3 \/ kd = 4 \/ kd = 5 \/ kd = 6 := by omega
 have hn : decide (n < 0) = false := by simp; omega
 have h31 := zOz n h0 h1
 rcases this with rfl | rfl | rfl | rfl | rfl | rfl
 all_goals
  (repeat (first | refine zG (by decide) ?_ | refine zB (by decide) ?_ | refine ⟨zA.self _, ?_⟩))
  try unfold iH
  (repeat (first | refine zG (by decide) ?_ | refine zB (by decide) ?_ | refine ⟨zA.self _, ?_⟩))
 .exact zB hn ⟨zA.self _, hk⟩
 .exact zB hn ⟨zA.self _, hk⟩
 .delta nZ zXl
  dsimp only
  rw [h31]
  exact zB hn ⟨zA.self _, zA.self _, by rw [<- h31]; exact hk⟩
 .exact zB hn ⟨zA.self _, hk⟩
 .exact zB hn ⟨zA.self _, hk⟩
 .delta nZ zXl
  dsimp only
  rw [h31]
  exact zB hn ⟨zA.self _, zA.self _, by rw [<- h31]; exact hk⟩
theorem yUg {kd : Int} (hkd : 1 <= kd /\ kd <= 3) (h0 : 0 <= sh) (h1 : sh < 32) (hc : zEr c kd sh im) {k : Int -> Bool -> Mem -> Prop} (hk : k (shR kd t sh) true m) : zR9 c s t m k := by
 unfold zR9
 refine zW fun b m1 hb K e O => ?_
 rw [yW e (by show 0 < 6; omega) hc.1]
 refine zWo (by omega) (zB rfl (zG (by simp; omega) ?_))
 rw [yW e (by show 4 < 6; omega) hc.2.1, zOz sh h0 h1]
 exact zJ8 (by omega) h0 h1 ⟨K, by rw [if_pos (by omega)]; exact hk⟩
def yMx (s t : Int) : Bool := IntKind.wrap .i64 ((IntKind.wrap .i64 (IntKind.wrap .i32 s)) + (IntKind.wrap .i64 (IntKind.wrap .i32 t))) != IntKind.wrap .i64 (IntKind.wrap .i32 (IntKind.wrap .i64 ((IntKind.wrap .i64 (IntKind.wrap .i32 s)) + (IntKind.wrap .i64 (IntKind.wrap .i32 t)))))
theorem zY0 {k : Bool -> Mem -> Prop} (hk : k (yMx s t) m) : yEd s t false m k := by
 unfold yEd
 refine zB rfl ?_
 unfold jL
 exact ⟨zA.self _, hk⟩
end
section
variable {m : Mem} {q : BB} {p : Nat} {B : Nat -> Int} {M W : Nat -> Bool} {D : Dv} {wv : AV}
structure Still (D : Dv) : Prop where
 uc : D.uc = 0
 en : D.en = 0
def rW (D : Dv) : Int × Bool := match D.ev with
 | [] => (0, false)
 | e :: _ => (e.at_, true)
def uR (D : Dv) (now : Int) : Bool := (rW D).2 && decide ((rW D).1 <= now)
theorem IsBus.dev (h : IsBus m q p B M W D wv) (i : Nat) {b : Nat} (hi : i < 8) (e : zH [.ptr q.r.b 0, .ptr q.w 0, .ptr q.ln 0, .ptr q.t1 0, .ptr q.t2 0, .ptr q.u 0, .ptr q.d 0, .ptr q.k 0] i = .ptr b 0) (k : AV -> Prop) : ldA m q.b i k = k (.ptr b 0) := h.b.lA hi e rfl k
theorem rV (h : IsBus m q p B M W D wv) {k : AV -> Mem -> Prop} (hk : k (.ptr q.r.b 0) m) : F30 q.b 0 m k := by
 unfold F30
 rw [h.dev 0 (by decide) rfl]; exact hk
theorem eW.len {v : AV} {es : List Ev} (h : eW m v es) (k : Int -> Prop) : xJ v k = k (es.length : Int) := by
 obtain ⟨c, h1, _⟩ := h; exact vB h1.r k
theorem eW.hd {v : AV} {e : Ev} {es : List Ev} (h : eW m v (e :: es)) {k : Int -> Prop} (hk : k e.at_) : vD v fun b4 o5 l6 p7 => kif (decide (0 <= (0 : Int)) && decide ((0 : Int) < l6)) (zR .i64 m b4 (o5 + 0 + 0) k) False := by
 obtain ⟨c, hc, hx⟩ := h
 cases hc with
 | sl b o n cap y c g1 g2 g3 g4 g5 =>
  have g2 : o + (es.length + 1) * 3 <= y.n := g2
  refine zG (by simp) ?_
  have := (hx 0 (by simp)).1
  have e0 := g3 0 (by simp)
  rw [yW (n := e.at_) g1 (by omega) (e0.trans this)]
  exact hk
theorem mR (h : IsBus m q p B M W D wv) {k : Int -> Bool -> Mem -> Prop} (hk : k (rW D).1 (rW D).2 m) : F89 q.w 0 m k := by
 unfold F89
 have ew : ∀ k, ldA m q.w (0 + 0) k = k wv := fun k => h.w.lA (i := 0) (by show 0 < 2; decide) rfl (by
  obtain ⟨c, h1, _⟩ := h.wl
  rcases h1.form with ⟨a, rfl⟩ | ⟨b, o, cap, rfl⟩ <;> rfl) k
 rw [ew, h.wl.len]
 unfold rW at hk
 cases e : D.ev with
 | nil => rw [e] at hk; exact zG rfl ⟨zA.self m, hk⟩
 | cons x es =>
  rw [e] at hk
  refine zB (by simp; omega) ?_
  rw [ew]
  have hw := h.wl
  rw [e] at hw
  exact hw.hd ⟨zA.self m, hk⟩
theorem zSn (h : IsBus m q p B M W D wv) {k : Int -> Bool -> Mem -> Prop} (hk : k (rW D).1 (rW D).2 m) : F58 q.b 0 m k := by
 unfold F58
 rw [h.dev 1 (by decide) rfl]
 dsimp only [yD]
 exact mR h ⟨zA.self m, hk⟩
theorem and_zero (x : Int) : bits .and .u32 x 0 = 0 := by
 simp [bits, IntKind.wrap, IntKind.bits, IntKind.signed]
 show ((BitVec.ofInt 32 x &&& 0#32).toNat : Int) % _ = 0
 rw [BitVec.and_zero]; rfl
theorem uF (h : IsBus m q p B M W D wv) (s : Still D) {k : Bool -> Mem -> Prop} (hk : k false m) : F60 q.b 0 m k := by
 unfold F60
 rw [h.dev 2 (by decide) rfl]
 dsimp only [yD]
 unfold F90
 rw [h.ln.lI (i := 0) (show 0 < 2 by decide) rfl, h.ln.lI (i := 1) (show 1 < 2 by decide) rfl, s.en, and_zero]
 exact ⟨zA.self m, zA.self m, hk⟩
def yLz (D : Dv) (d : Int) : Bool := if d = 1 then D.s1 != 0 else if d = 2 then D.s2 != 0 else if d = 3 then false else if d = 4 then bits .and .u32 D.ds 6 != 0 else bits .and .u32 D.kt 6 != 0
theorem zU3 (h : IsBus m q p B M W D wv) (s : Still D) {d : Int} {k : Bool -> Mem -> Prop} (hk : k (yLz D d) m) : yJo q.b 0 d m k := by
 unfold yJo
 unfold yLz at hk
 refine zD _ (fun c => ?_) fun c => ?_
 .rw [if_pos (by simpa using c)] at hk
  rw [h.dev 3 (by decide) rfl]
  dsimp only [yD]
  unfold yF4
  rw [h.t1.lI (i := 4) (show 4 < 5 by decide) rfl]
  exact ⟨zA.self m, zA.self m, hk⟩
 rw [if_neg (by simpa using c)] at hk
 refine zD _ (fun c => ?_) fun c => ?_
 .rw [if_pos (by simpa using c)] at hk
  rw [h.dev 4 (by decide) rfl]
  dsimp only [yD]
  unfold yF4
  rw [h.t2.lI (i := 4) (show 4 < 5 by decide) rfl]
  exact ⟨zA.self m, zA.self m, hk⟩
 rw [if_neg (by simpa using c)] at hk
 refine zD _ (fun c => ?_) fun c => ?_
 .rw [if_pos (by simpa using c)] at hk
  rw [h.dev 5 (by decide) rfl]
  dsimp only [yD]
  unfold yOo
  rw [h.u.lI (i := 5) (show 5 < 7 by decide) rfl, s.uc]
  refine zB rfl ?_
  rw [h.u.lI (i := 5) (show 5 < 7 by decide) rfl, s.uc]
  exact zB rfl ⟨zA.self m, zA.self m, hk⟩
 rw [if_neg (by simpa using c)] at hk
 refine zD _ (fun c => ?_) fun c => ?_
 .rw [if_pos (by simpa using c)] at hk
  rw [h.dev 6 (by decide) rfl]
  dsimp only [yD]
  unfold yR4
  rw [h.d.lI (i := 6) (show 6 < 7 by decide) rfl]
  exact ⟨zA.self m, zA.self m, hk⟩
 rw [if_neg (by simpa using c)] at hk
 rw [h.dev 7 (by decide) rfl]
 dsimp only [yD]
 unfold yNe
 rw [h.k.lI (i := 7) (show 7 < 8 by decide) rfl]
 exact ⟨zA.self m, zA.self m, hk⟩
theorem IsBus.withLn {m' : Mem} {u : Int} (h : IsBus m q p B M W D wv) (O : yC m q.ln m') (hl : wG m' q.ln [vu u, vu D.en]) : IsBus m' q p B M W { D with up := u } wv := by
 have nd := h.nd
 unfold BB.all at nd
 simp only [List.nodup_cons, List.mem_cons, List.not_mem_nil, or_false, not_or] at nd
 obtain ⟨⟨a1, a2, a3, a4, a5, a6, a7, a8, a9, a10, a11, a12⟩, ⟨b2, b3, b4, b5, b6, b7, b8, b9, b10, b11, b12⟩, ⟨c3, c4, c5, c6, c7, c8, c9, c10, c11, c12⟩, _⟩ := nd
 have Fr1 : Fr (wM q.ln) m m' := O.fr1
 exact ⟨h.b.fr Fr1 a2, h.r.fr Fr1 fun x hx e => by
  have e : x = q.ln := e
  rcases hx with rfl | rfl | rfl | rfl
  .exact c9 e.symm
  .exact c10 e.symm
  .exact c11 e.symm
  .exact c12 e.symm, h.w.fr Fr1 b2, h.wl.fr Fr1 fun b hb e => h.nw b hb (by rw [show b = q.ln from e]; simp [BB.all]), hl, h.t1.fr Fr1 fun e => c3 e.symm, h.t2.fr Fr1 fun e => c4 e.symm, h.u.fr Fr1 fun e => c5 e.symm, h.d.fr Fr1 fun e => c6 e.symm, h.k.fr Fr1 fun e => c7 e.symm, h.kb.fr Fr1 fun b hb e => by cases hb; exact c8 e.symm, h.dkr, h.nd, h.nw⟩
theorem zZa (h : IsBus m q p B M W D wv) {d : Int} (d0 : 1 <= d) (d1 : d <= 5) {x : Bool} {k : Mem -> Prop} (hk : ∀ m' u, IsBus m' q p B M W { D with up := u } wv -> yC m q.ln m' -> k m') : yI2 q.ln 0 d x m k := by
 unfold yI2
 refine zB (by simp; omega) (zB (by simp; omega) ?_)
 rw [h.ln.lI (i := 0) (show 0 < 2 by decide) rfl]
 refine zB (by simp; omega) (h.ln.sC (i := 0) (show 0 < 2 by decide) fun m2 h2 O2 => ?_)
 have e2 := h.withLn O2 h2
 refine zD _ (fun c => ?_) fun c => hk m2 _ e2 O2
 rw [h2.lI (i := 0) (show 0 < 2 by decide) rfl]
 refine zB (by simp; omega) (h2.sC (i := 0) (show 0 < 2 by decide) fun m4 h4 O4 => ?_)
 have O := O2.trans O4
 exact hk m4 _ (h.withLn O h4) O
theorem kK (h : IsBus m q p B M W D wv) (s : Still D) {k : Mem -> Prop} (hk : ∀ m' u, IsBus m' q p B M W { D with up := u } wv -> yC m q.ln m' -> k m') : zAo q.b 0 m k := by
 unfold zAo
 have loop : ∀ (j : Nat) (x : Int) (m1 : Mem) (u : Int), x + j = 6 -> 1 <= x -> IsBus m1 q p B M W { D with up := u } wv -> yC m q.ln m1 -> zKk q.b 0 (j + 1) x m1 k := by
  intro j
  induction j with
  | zero =>
   intro x m1 u e h1 hb O
   show cU _ _ _ _ _ _
   unfold cU
   exact zB (by simp; omega) (hk m1 u hb O)
  | succ j ih =>
   intro x m1 u e h1 hb O
   show cU _ _ _ _ _ _
   unfold cU
   refine zG (by simp; omega) ⟨fun x => x = q.b, rfl, ?_⟩
   rw [hb.dev 2 (by decide) rfl]
   refine zU3 hb ⟨s.uc, s.en⟩ ⟨fun _ _ _ => rfl, ?_⟩
   dsimp only [yD]
   rw [zK (n := x + 1) (by omega) (by omega)]
   have ne : q.b ≠ q.ln := by
    have nd := h.nd
    unfold BB.all at nd
    simp only [List.nodup_cons, List.mem_cons, List.not_mem_nil, or_false, not_or] at nd
    exact nd.1.2.1
   exact zZa hb h1 (by omega) fun m' u' h' O' => ⟨fun y hy _ => by subst hy; exact O' _ ne, ih (x + 1) m' u' (by omega) (by omega) h' (O.trans O')⟩
 exact ⟨6, loop 5 1 m D.up (by omega) (by omega) h (yC.refl _ _)⟩
theorem Still.up {u : Int} (s : Still D) : Still { D with up := u } := ⟨s.uc, s.en⟩
theorem zYr (h : IsBus m q p B M W D wv) (s : Still D) {now : Int} (hd : uR D now = false) {k : Int -> Mem -> Prop} (hk : ∀ m' u, IsBus m' q p B M W { D with up := u } wv -> Fr (wM q.ln) m m' -> k 0 m') : F72 q.b 0 now m k := by
 unfold F72
 refine ⟨1, ?_⟩
 show zAd _ _ _ _ _ _ _
 unfold zAd
 refine zG (by decide) ?_
 rw [h.dev 1 (by decide) rfl]
 dsimp only [yD]
 unfold F99
 refine zW fun b2 m1 hb2 K1 e1 O1 => mR (h.keep K1) ?_
 have no : ∀ c m2, zA m m2 -> (zQ m2 ⟨3, zH [(.flat (.int .i64 0)), (.flat (.int .i64 0)), (.flat (.int .i64 0))], 158, false⟩ fun b8 m7 => vA 3 m7 b8 0 c fun m9 => kif (!false) (zAo q.b 0 m9 fun m15 => k 0 m15) (yN 3 m9 b8 0 fun c10 => zYl q.b 0 c10 m9 fun m11 => zEe q.b 0 now 0 (IntKind.wrap .i64 (0 + 1)) m11 fun x12 m13 => zAo q.b 0 m13 fun m15 => k x12 m15)) := fun c m2 K2 => kV fun b8 m9 y hb8 K9 e9 n9 r9 c9 => zG rfl (kK (h.keep (K2.trans K9)) s fun m' u h' O' => hk m' u h' (Fr.key (K2.trans K9) O'.fr1))
 have zero : ∀ (k2 : (Nat -> AV) -> Mem -> Prop), (∀ c m2, zA m m2 -> k2 c m2) -> vA 3 m1 b2 0 (zH [(.flat (.int .i64 0)), (.flat (.int .i64 0)), (.flat (.int .i64 0))]) fun m6 => yN 3 m6 b2 0 fun c23 => k2 c23 m6 := fun k2 h2 => by
  rw [wR e1 rfl (by decide), xH (zL _ _ _) (by decide)]
  exact h2 _ _ (yC.keeps K1 hb2 (yC.set _ _ _))
 unfold uR at hd
 refine zD _ (fun c => ?_) fun c => ?_
 .exact zero (fun c m2 => zQ m2 ⟨3, zH [(.flat (.int .i64 0)), (.flat (.int .i64 0)), (.flat (.int .i64 0))], 158, false⟩ fun b8 m7 => vA 3 m7 b8 0 c fun m9 => kif (!false) (zAo q.b 0 m9 fun m15 => k 0 m15) (yN 3 m9 b8 0 fun c10 => zYl q.b 0 c10 m9 fun m11 => zEe q.b 0 now 0 (IntKind.wrap .i64 (0 + 1)) m11 fun x12 m13 => zAo q.b 0 m13 fun m15 => k x12 m15)) no
 .have c : (rW D).2 = true := by simpa using c
  rw [c] at hd
  refine zG (by simp at hd ⊢; omega) ?_
  exact zero (fun c m2 => zQ m2 ⟨3, zH [(.flat (.int .i64 0)), (.flat (.int .i64 0)), (.flat (.int .i64 0))], 158, false⟩ fun b8 m7 => vA 3 m7 b8 0 c fun m9 => kif (!false) (zAo q.b 0 m9 fun m15 => k 0 m15) (yN 3 m9 b8 0 fun c10 => zYl q.b 0 c10 m9 fun m11 => zEe q.b 0 now 0 (IntKind.wrap .i64 (0 + 1)) m11 fun x12 m13 => zAo q.b 0 m13 fun m15 => k x12 m15)) no
def mZ (B : Nat -> Int) (a n : Int) : Int := ldv (fun i => B (a.toNat + i)) n.toNat
theorem zCf {a n : Int} (ha : wC a) (hd : a < p * 1024 \/ a < 520093696 \/ 520094080 <= a) (c : ¬ a < p * 1024) {k : Int -> Bool -> Mem -> Prop} (hk : k 0 false m) {g : Int -> Int -> Mem -> Prop} : zX5 a n m fun x12 x13 x14 m15 => kif (!x14) (k 0 false m15) (g x12 x13 m15) := by
 unfold zX5
 have go : kif (!false) (k 0 false m) (g 0 0 m) := zG rfl hk
 obtain ⟨a0, a1⟩ := ha
 refine zD _ (fun _ => ⟨zA.self m, go⟩) fun _ => zD _ (fun _ => ⟨zA.self m, go⟩) fun c2 => zD _ (fun _ => ⟨zA.self m, go⟩) fun _ => ⟨zA.self m, zG ?_ hk⟩
 have c2 : ¬ a < 520093696 := by simpa using c2
 rw [yV (a - 520093696), Int.emod_eq_of_lt (by omega) (by omega), Int.tdiv_eq_ediv_of_nonneg (by omega), yV, Int.emod_eq_of_lt (by omega) (by omega)]
 simp; omega
theorem zC6 (h : IsBus m q p B M W D wv) {a n t : Int} (ha : wC a) (hn : n = 1 \/ n = 2 \/ n = 4) (hd : a < p * 1024 \/ a < 520093696 \/ 520094080 <= a) {k : Int -> Bool -> Mem -> Prop} (hk : k (if xO p a n then mZ B a n else 0) (decide (xO p a n)) m) : yCg q.b 0 a n t m k := by
 unfold yCg
 have e0 : ∀ k, ldA m q.b (0 + 0) k = k (.ptr q.r.b 0) := fun k => h.dev 0 (by decide) rfl k
 rw [e0]
 dsimp only [yD]
 refine qX h.r ?_
 have hI : isI n := by unfold isI; omega
 refine zD _ (fun c => ?_) fun c => ?_
 .rw [e0]
  dsimp only [yD]
  exact nF h.r ha hI hk
 .have c : ¬ a < p * 1024 := by simp at c; omega
  have ne : ¬ xO p a n := fun e => by obtain ⟨_, _, e1, e2⟩ := e; omega
  rw [if_neg ne, decide_eq_false ne] at hk
  exact zCf ha hd c hk
theorem IsBus.withR {m' : Mem} {B' : Nat -> Int} {M' W' : Nat -> Bool} (h : IsBus m q p B M W D wv) (F : Fr q.r.has m m') (hr : IsRam m' q.r p B' M' W') : IsBus m' q p B' M' W' D wv := by
 have nd := h.nd
 have nr : ∀ x ∈ [q.b, q.w, q.ln, q.t1, q.t2, q.u, q.d, q.k, q.kb], ¬ q.r.has x := fun x hx hr => by
  have : q.all = [q.b, q.w, q.ln, q.t1, q.t2, q.u, q.d, q.k, q.kb] ++ [q.r.b, q.r.b1, q.r.b2, q.r.b3] := rfl
  rw [this] at nd
  refine (List.nodup_append.1 nd).2.2 x hx x ?_ rfl
  rcases hr with rfl | rfl | rfl | rfl <;> simp
 exact ⟨h.b.fr F (nr _ (by simp)), hr, h.w.fr F (nr _ (by simp)), h.wl.fr F fun b hb e => h.nw b hb (BB.has e), h.ln.fr F (nr _ (by simp)), h.t1.fr F (nr _ (by simp)), h.t2.fr F (nr _ (by simp)), h.u.fr F (nr _ (by simp)), h.d.fr F (nr _ (by simp)), h.k.fr F (nr _ (by simp)), h.kb.fr F fun b hb => by cases hb; exact nr _ (by simp), h.dkr, h.nd, h.nw⟩
theorem zQb (h : IsBus m q p B M W D wv) {a n v t : Int} (ha : wC a) (hn : n = 1 \/ n = 2 \/ n = 4) (hd : a < p * 1024 \/ a < 520093696 \/ 520094080 <= a) {k : Bool -> Mem -> Prop} (h0 : ¬ xO p a n -> k false m) (h1 : xO p a n -> ∀ m', IsBus m' q p (stv B a n v) M (tW M W a n) D wv -> Fr q.r.has m m' -> k true m') : zXy q.b 0 a n v t m k := by
 unfold zXy
 have e0 : ∀ k, ldA m q.b (0 + 0) k = k (.ptr q.r.b 0) := fun k => h.dev 0 (by decide) rfl k
 rw [e0]
 dsimp only [yD]
 refine qX h.r ?_
 have hI : isI n := by unfold isI; omega
 refine zD _ (fun c => ?_) fun c => ?_
 .rw [e0]
  dsimp only [yD]
  exact zS9 h.r ha hI h0 fun e m' hr F => h1 e m' (h.withR F hr) F
 .have c : ¬ a < p * 1024 := by simp at c; omega
  have ne : ¬ xO p a n := fun e => by obtain ⟨_, _, e1, e2⟩ := e; omega
  exact zCf ha hd c (k := fun _ z m => k z m) (h0 ne)
end
def exK (k : Int) : Bool := k == 1 || k == 47 || k == 7 || k == 8 || k == 11 || k == 12 || k == 22 || k == 34 || k == 42 || k == 43 || k == 54 || k == 55 || k == 57 || k == 58 || k == 60 || k == 62 || k == 68 || k == 69 || k == 71 || k == 73 || k == 74 || k == 75
theorem gH {k : Int} (h : exK k = true) : k = 1 \/ k = 47 \/ k = 7 \/ k = 8 \/ k = 11 \/ k = 12 \/ k = 22 \/ k = 34 \/ k = 42 \/ k = 43 \/ k = 54 \/ k = 55 \/ k = 57 \/ k = 58 \/ k = 60 \/ k = 62 \/ k = 68 \/ k = 69 \/ k = 71 \/ k = 73 \/ k = 74 \/ k = 75 := by
 unfold exK at h; simp at h; omega
structure FX (x : In) : Prop where
 k : exK x.k = true
 s0 : 0 <= x.s
 s1 : x.s < 32
 t0 : 0 <= x.t
 t1 : x.t < 32
 d0 : 0 <= x.d
 d1 : x.d < 32
 h0 : 0 <= x.h
 h1 : x.h < 32
 i0 : 0 <= x.i
 i1 : x.i < 65536
def vK (S : St) (n v : Int) : St := if n = 0 then S else S.putN n.toNat v
def kE (x : In) (a t : Int) : Bool := if x.k = 22 then yMx a t else if x.k = 34 then a == t else false
def sP (S : St) (x : In) : Int :=
 if S.p 36 = true /\ (zT x.k = 3 \/ x.k = 60) then 10
 else if sQ S = true /\ 54 <= x.k /\ x.k <= 61 then 11
 else if x.k = 62 then 11
 else if wN x = false then 10
 else if x.k = 11 then 8
 else if x.k = 12 then 9
 else if kE x (S.n x.s.toNat) (S.n x.t.toNat) = false then -1
 else if x.k = 34 then 13 else 12
def oJ (x : In) (a t : Int) : Bool := if x.k = 7 \/ x.k = 8 then true else if x.k = 42 then a == t else if x.k = 43 then a != t else false
def oG (x : In) (pc a : Int) : Int := if x.k = 7 \/ x.k = 8 then a else IntKind.wrap .u32 (IntKind.wrap .u32 (pc + 4) + IntKind.wrap .u32 (sxV x.i * 4))
def onS (S : St) (x : In) (a t : Int) : St :=
 let S1 := (S.putN 34 (S.n 35)).putN 35 (IntKind.wrap .u32 (S.n 35 + 4))
 let S2 := if oJ x a t = true then S1.putN 35 (oG x (S.n 34) a) else S1
 let S3 := S2.putP 36 (zT x.k == 3)
 if x.k = 8 then vK S3 x.d (IntKind.wrap .u32 (S.n 34 + 8)) else S3
theorem iI {S : St} (h : S.ok) {n v : Int} (n1 : n < 32) (hv : wC v) : (vK S n v).ok := by
 unfold vK; split
 .exact h
 .exact yP h (by omega) hv.1 hv.2
theorem yCt {S : St} (h : S.ok) {x : In} (hx : FX x) {a t : Int} (ha : wC a) : (onS S x a t).ok := by
 unfold onS
 have w := wO (S.n 35 + 4)
 have e35 := h.1 35 (by omega)
 have h1 := yP (yP h (i := 34) (by omega) e35.1 e35.2) (i := 35) (by omega) w.1 w.2
 have hT : wC (oG x (S.n 34) a) := by
  unfold oG; split
  .exact ha
  .exact wO _
 have h3 : ∀ S2 : St, S2.ok -> (S2.putP 36 (zT x.k == 3)).ok := fun S2 h2 => oC h2
 have h4 : ∀ S3 : St, S3.ok -> (if x.k = 8 then vK S3 x.d (IntKind.wrap .u32 (S.n 34 + 8)) else S3).ok := fun S3 h3 => by
  split
  .exact iI h3 hx.d1 (wO _)
  .exact h3
 refine h4 _ (h3 _ ?_)
 split
 .exact yP h1 (by omega) hT.1 hT.2
 .exact h1
section
variable {m : Mem} {e : Nat} {S : St} {c : Nat -> AV} {x : In}
theorem ldR (h : yQ m e S) {i : Int} (h0 : 0 <= i) (h1 : i < 32) (k : Int -> Prop) : zR .u32 m e (0 + 0 + i.toNat * 1) k = k (S.n i.toNat) := by
 rw [show 0 + 0 + i.toNat * 1 = i.toNat by omega]
 exact yE h (by omega) (zBc (by omega)) k
theorem pI (h : yQ m e S) {n v : Int} (n0 : 0 <= n) (n1 : n < 32) {k : Mem -> Prop} (hk : ∀ m', yQ m' e (vK S n v) -> yC m e m' -> k m') : zAr e 0 n v m k := by
 unfold zAr
 unfold vK at hk
 refine zD _ (fun c => ?_) fun c => ?_
 .rw [if_neg (by simpa using c)] at hk
  refine yF n0 n1 ?_
  rw [show 0 + 0 + n.toNat * 1 = n.toNat by omega]
  exact xB h (by omega) (zBc (by omega)) hk
 .rw [if_pos (by simpa using c)] at hk
  exact hk m h (yC.refl _ _)
theorem zMc (hc : tQ c x) (hx : exK x.k = true) {a t : Int} {k : Bool -> Mem -> Prop} (hk : k (oJ x a t) m) : yHy c a t m k := by
 unfold yHy
 refine sO hc fun b m1 hb K h O => ?_
 rw [h.l0]
 have hk' := gH hx
 unfold oJ at hk
 refine zB (by simp; omega) (zB (by simp; omega) (zD _ (fun c7 => ?_) fun c7 => ?_))
 .have c7 : x.k = 7 := by simpa using c7
  rw [if_pos (by omega)] at hk
  unfold rG
  rw [c7]
  exact zG rfl ⟨K, hk⟩
 have c7 : x.k ≠ 7 := by simpa using c7
 unfold rG
 refine zD _ (fun c8 => ?_) fun c8 => ?_
 .rw [if_pos (.inr (by simpa using c8))] at hk
  exact ⟨K, hk⟩
 have c8 : x.k ≠ 8 := by simpa using c8
 rw [if_neg (by omega)] at hk
 refine zD _ (fun c42 => ?_) fun c42 => ?_
 .rw [if_pos (by simpa using c42)] at hk; exact ⟨K, hk⟩
 rw [if_neg (by simpa using c42)] at hk
 refine zD _ (fun c43 => ?_) fun c43 => ?_
 .rw [if_pos (by simpa using c43)] at hk; exact ⟨K, hk⟩
 rw [if_neg (by simpa using c43)] at hk
 refine zB (by simp; omega) ?_
 unfold mK
 refine zB (by simp; omega) (zB (by simp; omega) ?_)
 unfold mJ
 exact zB (by simp; omega) (zB (by simp; omega) (zB (by simp; omega) ⟨K, hk⟩))
theorem zQr (hc : tQ c x) (hx : FX x) {pc a : Int} (hb : x.k = 7 \/ x.k = 8 \/ x.k = 42 \/ x.k = 43) {k : Int -> Mem -> Prop} (hk : k (oG x pc a) m) : yI9 c pc a m k := by
 unfold yI9
 refine sO hc fun b m1 hb1 K h O => h.lg fun c3 h3 => vQ h3 ?_
 have ec : zT x.k = 3 := by rcases hb with e | e | e | e <;> rw [e] <;> decide
 rw [ec]
 refine zB rfl ?_
 rw [h.l0]
 refine zB (by simp; omega) ?_
 rw [h.l0, show (x.k == 41) = false by simp; omega]
 unfold iF
 refine zB rfl ?_
 rw [show (0 : Nat) + 0 = 0 from rfl, h.l0]
 unfold oG at hk
 refine zD _ (fun c7 => ?_) fun c7 => ?_
 .rw [if_pos (.inl (by simpa using c7))] at hk; exact ⟨K, hk⟩
 rw [h.l0]
 refine zD _ (fun c8 => ?_) fun c8 => ?_
 .rw [if_pos (.inr (by simpa using c8))] at hk; exact ⟨K, hk⟩
 rw [if_neg (by simp at c7 c8; omega)] at hk
 unfold jK
 rw [show (0 : Nat) + 5 = 5 from rfl, h.l5]
 refine pS hx.i0 hx.i1 ⟨K, ?_⟩
 exact hk
theorem zN2 (hc : tQ c x) (hx : exK x.k = true) {k : Int -> Bool -> Mem -> Prop} (hk : k (if x.k = 8 then x.d else 0) (decide (x.k = 8)) m) : yJc c m k := by
 unfold yJc
 refine sO hc fun b m1 hb1 K h O => ?_
 rw [h.l0]
 have hk' := gH hx
 refine zB (by simp; omega) (zB (by simp; omega) ?_)
 unfold nM
 refine zB (by simp; omega) (zD _ (fun c8 => ?_) fun c8 => ?_)
 .have c8 : x.k = 8 := by simpa using c8
  rw [show (0 : Nat) + 3 = 3 from rfl, h.l3]
  rw [if_pos c8, decide_eq_true c8] at hk
  exact ⟨K, hk⟩
 .have c8 : x.k ≠ 8 := by simpa using c8
  rw [if_neg c8, decide_eq_false c8] at hk
  exact ⟨K, hk⟩
theorem zW0 (h : yQ m e S) (hc : tQ c x) (hx : FX x) {a t : Int} {k : Mem -> Prop} (hk : ∀ m', yQ m' e (onS S x a t) -> Fr (wM e) m m' -> k m') : yKe e 0 c a t m k := by
 unfold yKe
 refine sO hc fun b m1 hb1 K hB O => ?_
 have h1 := h.keep K
 have ne : b ≠ e := fun q => h.live (q ▸ hb1)
 rw [show (0 : Nat) + 34 = 34 from rfl, show (0 : Nat) + 35 = 35 from rfl, yE h1 (by omega) rfl, yE h1 (by omega) rfl]
 refine xB h1 (by omega) rfl fun m5 h5 O5 => ?_
 rw [yE h5 (by omega) rfl, tV]
 refine xB h5 (by omega) rfl fun m7 h7 O7 => ?_
 have B7 := (hB.only O5 ne).only O7 ne
 refine B7.lg fun c8 hc8 => zMc hc8 hx.k ?_
 have tail : ∀ (m7 : Mem) (S2 : St), yQ m7 e S2 -> vL m7 b x -> Fr (wM e) m m7 -> onS S x a t = (if x.k = 8 then vK (S2.putP 36 (zT x.k == 3)) x.d (IntKind.wrap .u32 (S.n 34 + 8)) else S2.putP 36 (zT x.k == 3)) -> oZ e 0 b 0 (S.n 34) m7 (fun m24 => k m24) := fun m7 S2 h7 B7 F7 eS => by
  unfold oZ
  refine B7.lg fun c15 h15 => vQ h15 ?_
  rw [show (0 : Nat) + 36 = 36 from rfl]
  refine oL h7 (by omega) rfl fun m18 h18 O18 => (B7.only O18 ne).lg fun c19 h19 => zN2 h19 hx.k ?_
  rw [eS] at hk
  by_cases c8 : x.k = 8
  .rw [if_pos c8] at hk
   rw [decide_eq_true c8, if_pos c8]
   exact zG rfl (pI h18 hx.d0 hx.d1 fun m23 h23 O23 => hk m23 h23 (F7.trans (O18.fr1.trans O23.fr1)))
  .rw [if_neg c8] at hk
   rw [decide_eq_false c8]
   exact zB rfl (hk m18 h18 (F7.trans O18.fr1))
 have F7 : Fr (wM e) m m7 := Fr.key K (O5.fr1.trans O7.fr1)
 have hk' := gH hx.k
 refine zD _ (fun ct => ?_) fun ct => ?_
 .have hbr : x.k = 7 \/ x.k = 8 \/ x.k = 42 \/ x.k = 43 := by
   have ct := ct
   unfold oJ at ct
   split at ct
   .omega
   split at ct
   .omega
   split at ct
   .omega
   .simp at ct
  refine B7.lg fun c11 h11 => zQr h11 hx hbr ?_
  refine xB h7 (by omega) rfl fun m14 h14 O14 => tail m14 _ h14 (B7.only O14 ne) (F7.trans O14.fr1) ?_
  unfold onS; simp only [ct, if_true]
 .refine tail m7 _ h7 B7 F7 ?_
  unfold onS; simp only [ct, if_false, Bool.false_eq_true]
theorem xGc (h : yQ m e S) {b : Nat} (i : vL m b x) (hx : FX x) {q : Bool} (hq : q = (sQ S && decide (54 <= x.k) && decide (x.k <= 61))) {kr : Int -> Mem -> Prop} {kn : Mem -> Prop} (hs : ¬ (S.p 36 = true /\ (zT x.k = 3 \/ x.k = 60))) (hk : sP S x ≠ 12 -> kr (sP S x) m) (hn : sP S x = 12 -> kn m) : rI e 0 b 0 x.k q m kr kn := by
 unfold rI
 have e0 : sP S x = (if sQ S = true /\ 54 <= x.k /\ x.k <= 61 then 11 else if x.k = 62 then 11 else if wN x = false then 10 else if x.k = 11 then 8 else if x.k = 12 then 9 else if kE x (S.n x.s.toNat) (S.n x.t.toNat) = false then -1 else if x.k = 34 then 13 else 12) := by
  unfold sP; rw [if_neg hs]
 rw [e0] at hk hn
 refine zD _ (fun c1 => ?_) fun c1 => ?_
 .rw [c1] at hq
  rw [if_pos (by simp at hq; exact ⟨hq.1.1, hq.1.2, hq.2⟩)] at hk
  exact hk (by decide)
 rw [c1] at hq
 have n1 : ¬ (sQ S = true /\ 54 <= x.k /\ x.k <= 61) := fun ⟨a1, a2, a3⟩ => by rw [a1, decide_eq_true a2, decide_eq_true a3] at hq; simp at hq
 rw [if_neg n1] at hk hn
 refine zD _ (fun c2 => ?_) fun c2 => ?_
 .rw [if_pos (by simpa using c2)] at hk; exact hk (by decide)
 rw [if_neg (by simpa using c2)] at hk hn
 refine i.lg fun c10 h10 => zEx h10 hx.i0 (zD _ (fun c3 => ?_) fun c3 => ?_)
 .rw [if_pos (by simpa using c3)] at hk; exact hk (by decide)
 rw [if_neg (by simpa using c3)] at hk hn
 refine zD _ (fun c4 => ?_) fun c4 => ?_
 .rw [if_pos (by simpa using c4)] at hk; exact hk (by decide)
 rw [if_neg (by simpa using c4)] at hk hn
 refine zD _ (fun c5 => ?_) fun c5 => ?_
 .rw [if_pos (by simpa using c5)] at hk; exact hk (by decide)
 rw [if_neg (by simpa using c5)] at hk hn
 refine i.lg fun c13 h13 => ?_
 rw [show (0 : Nat) + 1 = 1 from rfl, show (0 : Nat) + 2 = 2 from rfl, i.l1]
 refine yF hx.s0 hx.s1 ?_
 rw [ldR h hx.s0 hx.s1, i.l2]
 refine yF hx.t0 hx.t1 ?_
 rw [ldR h hx.t0 hx.t1]
 have hk' := gH hx.k
 have c4 : x.k ≠ 11 := by simpa using c4
 have c5 : x.k ≠ 12 := by simpa using c5
 have done : ∀ (z : Bool), z = kE x (S.n x.s.toNat) (S.n x.t.toNat) -> kif (!z) (kr (-1) m) (kif (decide (x.k >= 32)) (kif (decide (x.k <= 35)) (kr 13 m) (kn m)) (kn m)) := fun z hz => by
  refine zD _ (fun c6 => ?_) fun c6 => ?_
  .rw [if_pos (by rw [<- hz]; simpa using c6)] at hk; exact hk (by decide)
  rw [if_neg (by rw [<- hz]; simpa using c6)] at hk hn
  have zt : kE x (S.n x.s.toNat) (S.n x.t.toNat) = true := by rw [<- hz]; simpa using c6
  have h34 : x.k = 34 \/ x.k = 22 := by
   unfold kE at zt
   split at zt
   .exact .inr (by assumption)
   split at zt
   .exact .inl (by assumption)
   .simp at zt
  rcases h34 with e1 | e1
  .rw [if_pos e1] at hk
   exact zG (by simp; omega) (zG (by simp; omega) (hk (by decide)))
  .rw [if_neg (by omega)] at hn
   exact zB (by simp; omega) (hn rfl)
 unfold yOs
 refine sO h13 fun b2 m2 hb2 K2 h2 O2 => ?_
 rw [h2.l0]
 unfold kE at done
 by_cases c22 : x.k = 22
 .rw [if_pos c22] at done
  refine zG (by simp [c22]) ?_
  unfold oS
  refine zG (by simp [c22]) ?_
  rw [show (0 : Nat) + 0 = 0 from rfl, h2.l0, c22]
  rw [show ((22 : Int) == 24) = false from rfl]
  exact zY0 ⟨K2, by have := done _ rfl; rw [c22] at this; exact this⟩
 .rw [if_neg c22] at done
  refine zB (by simp; omega) ?_
  unfold oS
  refine zB (by simp; omega) (zB (by simp; omega) (zB (by simp; omega) (zB (by simp; omega) (zD _ (fun c34 => ?_) fun c34 => ?_))))
  .rw [if_pos (by simpa using c34)] at done
   exact ⟨K2, done _ rfl⟩
  .rw [if_neg (by simpa using c34)] at done
   exact zB (by simp; omega) ⟨K2, done _ rfl⟩
theorem kL (h : yQ m e S) (hc : tQ c x) (hx : FX x) {k : Int -> Mem -> Prop} (hk : k (sP S x) m) : yKb e 0 c m k := by
 unfold yKb
 refine sO hc fun b m1 hb1 K i O => i.lg fun c3 h3 => vQ h3 ?_
 have h1 := h.keep K
 rw [i.l0, show (0 : Nat) + 36 = 36 from rfl, mY h1 (by omega) rfl]
 have hk' := gH hx.k
 have slot : S.p 36 = true -> (zT x.k = 3 \/ x.k = 60) -> uP e 0 b 0 x.k true m1 (fun x29 m30 => (zA m m30 /\ k x29 m)) (fun m31 => (zA m m31 /\ k 12 m)) := fun a1 a2 => by
  unfold uP
  have : sP S x = 10 := by unfold sP; rw [if_pos ⟨a1, a2⟩]
  rw [this] at hk
  exact zG rfl ⟨K, hk⟩
 have rest : ¬ (S.p 36 = true /\ (zT x.k = 3 \/ x.k = 60)) -> uP e 0 b 0 x.k false m1 (fun x29 m30 => (zA m m30 /\ k x29 m)) (fun m31 => (zA m m31 /\ k 12 m)) := fun hs => by
  unfold uP
  refine zB rfl (zA0 h1 ?_)
  have go : ∀ q : Bool, q = (sQ S && decide (54 <= x.k) && decide (x.k <= 61)) -> rI e 0 b 0 x.k q m1 (fun x29 m30 => (zA m m30 /\ k x29 m)) (fun m31 => (zA m m31 /\ k 12 m)) := fun q hq => xGc h1 i hx hq hs (fun _ => ⟨K, hk⟩) fun e12 => ⟨K, by rw [e12] at hk; exact hk⟩
  refine zD _ (fun c1 => zD _ (fun c2 => ?_) fun c2 => ?_) fun c1 => ?_
  .refine go _ ?_
   rw [c1, show decide (54 <= x.k) = true by simpa using c2]; simp
  .refine go _ ?_
   rw [show decide (54 <= x.k) = false by simpa using c2]; simp
  .refine go _ ?_
   rw [c1]; simp
 refine zD _ (fun c1 => ?_) fun c1 => ?_
 .refine zD _ (fun c2 => slot c1 (.inl (by simpa using c2))) fun c2 => zD _ (fun c3 => slot c1 (.inr (by simpa using c3))) fun c3 => ?_
  rw [show (x.k == 61) = false by simp; omega]
  exact rest fun ⟨_, a⟩ => by simp at c2 c3; omega
 .exact rest fun ⟨a, _⟩ => by rw [a] at c1; simp at c1
end
end Go.Proofs.YtkiggdgphbkneaaGreat.Am
