/- One instruction by itself, and one step. Conditions: kinds that the programs of the top laws come to; nothing is due; no device's word is asked. One instruction by itself, and one step: the whole. Conditions: kinds that the programs of the top laws come to; no -/
import Derived.Test.YtkiggdgphbkneaaGreatTopDiskX24
namespace Go.Proofs.YtkiggdgphbkneaaGreat.Am
set_option linter.unusedVariables false
set_option linter.unusedSimpArgs false
set_option maxRecDepth 100000
def zU (k : Int) : Int := if k = 69 \/ k = 71 then 1 else 4
def uV (S : St) (x : In) : Int := IntKind.wrap .u32 (S.n x.s.toNat + sxV x.i)
def zAm (S : St) (va c : Int) : St := zU9 S va (c != 4 && c != 5)
def zCl (S : St) (a n : Int) : Bool := decide (a + n > S.n 38) && decide (a < S.n 38 + 4)
abbrev Act := St × (Nat -> Int) × Int × Bool
def pA (p : Nat) (B : Nat -> Int) (S : St) (x : In) : Act :=
 let L := zJ S (uV S x) (zU x.k) false
 if L.2.1 ≠ -1 then (zAm S (uV S x) L.2.1, B, L.2.1, L.2.2)
 else if xO p L.1 (zU x.k) then (vK (if x.k = 74 then (S.putP 37 true).putN 38 L.1 else S) x.t (mZ B L.1 (zU x.k)), B, -1, false)
 else (S, B, 7, false)
def vU (p : Nat) (B : Nat -> Int) (S : St) (x : In) : Act :=
 let L := zJ S (uV S x) (zU x.k) true
 if L.2.1 ≠ -1 then (zAm S (uV S x) L.2.1, B, L.2.1, L.2.2)
 else if x.k = 75 /\ ¬ (S.p 37 = true /\ S.n 38 = L.1) then ((vK S x.t 0).putP 37 false, B, -1, false)
 else if xO p L.1 (zU x.k) then
  (let S1 := if x.k = 75 then vK S x.t 1 else S
   if x.k = 75 \/ zCl S1 L.1 (zU x.k) = true then S1.putP 37 false else S1, stv B L.1 (zU x.k) (S.n x.t.toNat), -1, false)
 else (S, B, 7, false)
def iV (S : St) (x : In) : St := if x.k = 54 then vK S x.t (zBm S x.d) else if x.k = 55 then rJ S x.d (S.n x.t.toNat) else if x.k = 57 \/ x.k = 58 then zR1 S (x.k == 58) else S
def xW (S : St) (x : In) : St := if x.k = 47 then vK S x.t (IntKind.wrap .u32 (S.n x.s.toNat + sxV x.i)) else S
def vJ (p : Nat) (B : Nat -> Int) (S : St) (x : In) : Act :=
 if zT x.k = 4 then pA p B S x else if zT x.k = 5 then vU p B S x else if zT x.k = 6 then (if x.k = 60 then hQ S else iV S x, B, -1, false) else (xW S x, B, -1, false)
def gA (S : St) (c : Int) (r : Bool) : St := wZ (gM (pG S c r) 1).1 false
def sW (S : St) (x : In) (a t : Int) : St := wZ (if x.k = 60 then (gM S 1).1 else onS (gM S 1).1 x a t) false
def vF (p : Nat) (B : Nat -> Int) (S : St) (x : In) : St × (Nat -> Int) × Int :=
 let r := sP S x
 if r ≠ -1 then (gA S r false, B, r)
 else
  let A := vJ p B S x
  if A.2.2.1 ≠ -1 then (gA A.1 A.2.2.1 A.2.2.2, A.2.1, A.2.2.1)
  else (sW A.1 x (S.n x.s.toNat) (S.n x.t.toNat), A.2.1, -1)
structure Cpu (m : Mem) (e : Nat) (q : BB) (p : Nat) (S : St) (B : Nat -> Int) (M W : Nat -> Bool) (D : Dv) (wv : AV) : Prop where
 s : yQ m e S
 ok : S.ok
 b : IsBus m q p B M W D wv
 de : e ∉ q.all
 dw : ¬ own wv e
theorem bX {S : St} {va n : Int} {t : Bool} : wC (zJ S va n t).1 := by
 unfold zJ
 dsimp only
 generalize (if n ≠ 1 /\ n ≠ 2 then (4 : Int) else n) = n'
 split
 .exact (⟨by omega, by omega⟩ : wC 0)
 split
 .exact uN _ _
 .unfold rY
  dsimp only
  split
  .exact (⟨by omega, by omega⟩ : wC 0)
  split
  .exact (⟨by omega, by omega⟩ : wC 0)
  split
  .exact (⟨by omega, by omega⟩ : wC 0)
  .exact rB _ _
theorem zK3 {S : St} {va n : Int} {t : Bool} : (zJ S va n t).2.1 = -1 \/ (1 <= (zJ S va n t).2.1 /\ (zJ S va n t).2.1 <= 5) := by
 unfold zJ
 dsimp only
 generalize (if n ≠ 1 /\ n ≠ 2 then (4 : Int) else n) = n'
 split
 .cases t <;> exact .inr (by decide)
 split
 .exact .inl rfl
 .unfold rY
  dsimp only
  split
  .cases t <;> exact .inr (by decide)
  split
  .cases t <;> exact .inr (by decide)
  split
  .exact .inr (by decide)
  .exact .inl rfl
section
variable {m : Mem} {e : Nat} {q : BB} {p : Nat} {S : St} {B : Nat -> Int} {M W : Nat -> Bool} {D : Dv} {wv : AV} {c : Nat -> AV} {x : In}
theorem Cpu.keep {m' : Mem} (h : Cpu m e q p S B M W D wv) (K : zA m m') : Cpu m' e q p S B M W D wv := ⟨h.s.keep K, h.ok, h.b.keep K, h.de, h.dw⟩
theorem Cpu.st {m' : Mem} {S' : St} (h : Cpu m e q p S B M W D wv) (h' : yQ m' e S') (ok : S'.ok) (F : Fr (wM e) m m') : Cpu m' e q p S' B M W D wv := ⟨h', ok, h.b.fr F (fun b hb t => h.de (by have t : b = e := t; subst t; exact hb)) (fun b hb t => h.dw (by have t : b = e := t; subst t; exact hb)), h.de, h.dw⟩
def xY (e : Nat) (q : BB) : Nat -> Prop := fun x => x = e \/ x ∈ q.all
theorem yL {e : Nat} {q : BB} {m m' : Mem} (F : Fr (wM e) m m') : Fr (xY e q) m m' := F.mono fun b _ h => .inl h
theorem zA4 (h : yQ m e S) {va c : Int} {k : Mem -> Prop} (hk : ∀ m', yQ m' e (zAm S va c) -> yC m e m' -> k m') : zX3 e 0 va c m k := by
 unfold zX3
 unfold zAm at hk
 refine zD _ (fun c1 => ?_) fun c1 => ?_
 .rw [c1] at hk; exact zPf h hk
 .rw [c1] at hk; exact zPf h hk
theorem zR5 (hx : exK x.k = true) {k : Int -> Mem -> Prop} (hk : k (zU x.k) m) : zZr x.k m k := by
 unfold zZr
 have := gH hx
 unfold zU at hk
 refine zB (by simp; omega) (zD _ (fun c1 => ?_) fun c1 => ?_)
 .have c1 : x.k = 69 := by simpa using c1
  rw [if_pos (.inl c1)] at hk
  unfold qT
  exact zG (by simp [c1]) ⟨zA.self m, hk⟩
 .have c1 : x.k ≠ 69 := by simpa using c1
  unfold qT
  refine zD _ (fun c2 => ?_) fun c2 => ?_
  .rw [if_pos (.inr (by simpa using c2))] at hk; exact ⟨zA.self m, hk⟩
  .rw [if_neg (by simp at c2; omega)] at hk
   exact zB (by simp; omega) (zB (by simp; omega) (zB (by simp; omega) ⟨zA.self m, hk⟩))
theorem sG (h : Cpu m e q p S B M W D wv) (st : Still D) {cd : Int} {r : Bool} (c0 : 0 <= cd) (c1 : cd < 32) {k : Int -> Mem -> Prop} (hk : ∀ m', Cpu m' e q p (gA S cd r) B M W D wv -> Fr (wM e) m m' -> k cd m') : F74 e 0 q.b 0 cd r m k := by
 unfold F74
 refine zSd h.s c0 c1 fun m1 h1 O1 => zB4 h1 fun m3 h3 O3 => ?_
 have F3 : Fr (wM e) m m3 := O1.fr1.trans O3.fr1
 have E3 := h.st h3 (zBk (zXh h.ok _ _) 1) F3
 refine uF E3.b st (rC h3 fun m6 h6 O6 => hk m6 ?_ (F3.trans O6.fr1))
 exact h.st h6 (jH E3.ok _) (F3.trans O6.fr1)
theorem zKn {S : St} (ok : S.ok) {x : In} : wC (uV S x) := wO _
theorem zP5 (f : Nat -> Int) : ∀ n, wC (ldv f n)
 | 0 => (⟨by omega, by omega⟩ : wC 0)
 | n + 1 => rB _ _
theorem yP5 (h : Cpu m e q p S B M W D wv) (hc : tQ c x) (hx : FX x) (hcl : zT x.k = 4) (hd : (zJ S (uV S x) (zU x.k) false).2.1 = -1 -> (zJ S (uV S x) (zU x.k) false).1 < p * 1024 \/ (zJ S (uV S x) (zU x.k) false).1 < 520093696 \/ 520094080 <= (zJ S (uV S x) (zU x.k) false).1)
  {k : Int -> Bool -> Mem -> Prop} (hk : ∀ m', Cpu m' e q p (pA p B S x).1 B M W D wv -> Fr (wM e) m m' -> k (pA p B S x).2.2.1 (pA p B S x).2.2.2 m') : yKu e 0 q.b 0 c m k := by
 unfold yKu
 refine sO hc fun b m1 hb1 K i O => ⟨fun _ => True, trivial, ?_⟩
 have E1 := h.keep K
 have ne : b ≠ e := fun t => h.s.live (t ▸ hb1)
 rw [i.l1]
 refine yF hx.s0 hx.s1 ⟨trivial, ?_⟩
 rw [ldR E1.s hx.s0 hx.s1]
 refine ⟨trivial, ?_⟩
 rw [i.l5]
 refine pS hx.i0 hx.i1 ⟨fun _ _ _ => rfl, ?_⟩
 rw [i.l0]
 refine zR5 hx.k ?_
 have va : IntKind.wrap .u32 (S.n x.s.toNat + sxV x.i) = uV S x := rfl
 rw [va]
 have vu := zKn (x := x) h.ok
 refine kR E1.s vu.1 vu.2 ?_
 unfold pA at hk
 dsimp only at hk
 refine zD _ (fun c1 => ?_) fun c1 => ?_
 .have c1 : (zJ S (uV S x) (zU x.k) false).2.1 ≠ -1 := by simpa using c1
  rw [if_pos c1] at hk
  refine zA4 E1.s fun m16 h16 O16 => hk m16 ?_ (Fr.key K O16.fr1)
  exact E1.st h16 (zKl h.ok vu.1 vu.2 _) O16.fr1
 have c1 : (zJ S (uV S x) (zU x.k) false).2.1 = -1 := by simpa using c1
 rw [if_neg (by simpa using c1)] at hk
 rw [show (0 : Nat) + 72 = 72 from rfl, jA E1.s]
 have hn : zU x.k = 1 \/ zU x.k = 2 \/ zU x.k = 4 := by unfold zU; split <;> simp
 refine zC6 E1.b bX hn (hd c1) ?_
 refine zD _ (fun c2 => ?_) fun c2 => ?_
 .rw [if_neg (by simpa using c2)] at hk
  exact hk m1 E1 (K.fr _)
 have c2 : xO p (zJ S (uV S x) (zU x.k) false).1 (zU x.k) := by simpa using c2
 rw [if_pos c2] at hk
 rw [if_pos c2, i.l0]
 have hk' := gH hx.k
 refine zB (by simp; omega) ?_
 rw [i.l0, show (x.k == 67) = false by simp; omega]
 unfold mG
 refine zB rfl ?_
 unfold mV
 show zR .i64 m1 b 0 _
 rw [i.l0]
 have fin : ∀ (m2 : Mem) (S2 : St), Cpu m2 e q p S2 B M W D wv -> vL m2 b x -> Fr (wM e) m1 m2 -> (if x.k = 74 then (S.putP 37 true).putN 38 (zJ S (uV S x) (zU x.k) false).1 else S) = S2 -> pM e 0 b 0 (mZ B (zJ S (uV S x) (zU x.k) false).1 (zU x.k)) m2 (fun x34 x35 m36 => k x34 x35 m36) := fun m2 S2 E2 i2 F2 eS => by
  unfold pM
  rw [show (0 : Nat) + 2 = 2 from rfl, i2.l2]
  rw [eS] at hk
  refine pI E2.s hx.t0 hx.t1 fun m33 h33 O33 => hk m33 ?_ (Fr.key K (F2.trans O33.fr1))
  exact E2.st h33 (iI E2.ok hx.t1 (zP5 _ _)) O33.fr1
 refine zD _ (fun c3 => ?_) fun c3 => ?_
 .have c3 : x.k = 74 := by simpa using c3
  rw [show (0 : Nat) + 37 = 37 from rfl]
  refine oL E1.s (by omega) rfl fun m30 h30 O30 => xB h30 (by omega) rfl fun m31 h31 O31 => ?_
  have F31 : Fr (wM e) m1 m31 := O30.fr1.trans O31.fr1
  refine fin m31 _ (E1.st h31 (yP (oC h.ok) (by omega) bX.1 bX.2) F31) ((i.only O30 ne).only O31 ne) F31 (by rw [if_pos c3])
 .exact fin m1 _ E1 i (Fr.refl _ _) (by rw [if_neg (by simpa using c3)])
theorem zGm (h : yQ m e S) (ok : S.ok) {a n : Int} (ha : wC a) (hn : 0 <= n) (hn4 : n <= 4) {k : Bool -> Mem -> Prop} (hk : k (zCl S a n) m) : yKx e 0 a n m k := by
 unfold yKx
 have e38 := ok.1 38 (by omega)
 obtain ⟨a0, a1⟩ := ha
 rw [show (0 : Nat) + 38 = 38 from rfl, yE h (by omega) rfl, zK (n := a) (by omega) (by omega), zK (n := a + n) (by omega) (by omega), zK (n := S.n 38) (by omega) (by omega)]
 unfold zCl at hk
 refine zD _ (fun c => ?_) fun c => ?_
 .rw [yE h (by omega) rfl, zK (n := S.n 38) (by omega) (by omega), zK (n := S.n 38 + 4) (by omega) (by omega)]
  have c : a + n > S.n 38 := by simpa using c
  rw [decide_eq_true c, Bool.true_and] at hk
  exact ⟨zA.self m, hk⟩
 .have c : ¬ a + n > S.n 38 := by simp at c; omega
  rw [decide_eq_false c, Bool.false_and] at hk
  exact ⟨zA.self m, hk⟩
theorem Cpu.rm {m' : Mem} {B' : Nat -> Int} {M' W' : Nat -> Bool} (h : Cpu m e q p S B M W D wv) (h' : IsBus m' q p B' M' W' D wv) (F : Fr q.r.has m m') : Cpu m' e q p S B' M' W' D wv := ⟨h.s.fr F fun t => h.de (BB.has t), h.ok, h', h.de, h.dw⟩
theorem eR {m m' : Mem} (F : Fr q.r.has m m') : Fr (xY e q) m m' := F.mono fun b _ h => .inr (BB.has h)
theorem yKt (h : Cpu m e q p S B M W D wv) (hc : tQ c x) (hx : FX x) (hcl : zT x.k = 5) (hd : (zJ S (uV S x) (zU x.k) true).2.1 = -1 -> (zJ S (uV S x) (zU x.k) true).1 < p * 1024 \/ (zJ S (uV S x) (zU x.k) true).1 < 520093696 \/ 520094080 <= (zJ S (uV S x) (zU x.k) true).1)
  {k : Int -> Bool -> Mem -> Prop} (hk : ∀ m' W', Cpu m' e q p (vU p B S x).1 (vU p B S x).2.1 M W' D wv -> (W' = W \/ (xO p (zJ S (uV S x) (zU x.k) true).1 (zU x.k) /\ (vU p B S x).2.2.1 = -1 /\ W' = tW M W (zJ S (uV S x) (zU x.k) true).1 (zU x.k))) -> Fr (xY e q) m m' -> k (vU p B S x).2.2.1 (vU p B S x).2.2.2 m') : zYa e 0 q.b 0 c m k := by
 unfold zYa
 refine sO hc fun b m1 hb1 K i O => ⟨fun _ => True, trivial, ?_⟩
 have E1 := h.keep K
 have ne : b ≠ e := fun t => h.s.live (t ▸ hb1)
 have neq : ∀ y ∈ q.all, y ≠ b := fun y hy t => h.b.live hy (t ▸ hb1)
 rw [i.l1]
 refine yF hx.s0 hx.s1 ⟨trivial, ?_⟩
 rw [ldR E1.s hx.s0 hx.s1]
 refine ⟨trivial, ?_⟩
 rw [i.l5]
 refine pS hx.i0 hx.i1 ⟨fun _ _ _ => rfl, ?_⟩
 rw [i.l0]
 refine zR5 hx.k ?_
 have va : IntKind.wrap .u32 (S.n x.s.toNat + sxV x.i) = uV S x := rfl
 rw [va]
 have vu := zKn (x := x) h.ok
 refine kR E1.s vu.1 vu.2 ?_
 unfold vU at hk
 dsimp only at hk
 generalize hL : zJ S (uV S x) (zU x.k) true = L at hk hd ⊢
 have Lu : wC L.1 := by rw [<- hL]; exact bX
 refine zD _ (fun c1 => ?_) fun c1 => ?_
 .have c1 : L.2.1 ≠ -1 := by simpa using c1
  rw [if_pos c1] at hk
  refine zA4 E1.s fun m16 h16 O16 => hk m16 W ?_ (.inl rfl) (yL (Fr.key K O16.fr1))
  exact E1.st h16 (zKl h.ok vu.1 vu.2 _) O16.fr1
 have c1 : L.2.1 = -1 := by simpa using c1
 rw [if_neg (by simpa using c1)] at hk
 rw [show (0 : Nat) + 37 = 37 from rfl, mY E1.s (by omega) rfl]
 have hn : zU x.k = 1 \/ zU x.k = 2 \/ zU x.k = 4 := by unfold zU; split <;> simp
 have hk' := gH hx.k
 -- the store itself
 have body : (x.k = 75 -> S.p 37 = true /\ S.n 38 = L.1) -> tI e 0 q.b 0 b 0 (zU x.k) L.1 m1 (fun x50 x51 m52 => k x50 x51 m52) := fun hl => by
  rw [if_neg (fun t => t.2 (hl t.1))] at hk
  unfold tI
  rw [show (0 : Nat) + 2 = 2 from rfl, i.l2]
  refine yF hx.t0 hx.t1 ?_
  rw [ldR E1.s hx.t0 hx.t1, show (0 : Nat) + 72 = 72 from rfl, jA E1.s]
  refine zQb E1.b Lu hn (hd c1) (fun hev => ?_) fun hev m35 h35 F35 => ?_
  .rw [if_neg hev] at hk
   exact zG rfl (hk m1 W E1 (.inl rfl) (K.fr _))
  rw [if_pos hev] at hk
  refine zB rfl ?_
  have E35 := E1.rm h35 F35
  have i35 : vL m35 b x := by
   obtain ⟨y, ey, r⟩ := i
   exact ⟨y, by rw [F35 b (by rw [ey]; simp) fun t => neq b (BB.has t) rfl]; exact ey, r⟩
  rw [show (0 : Nat) + 0 = 0 from rfl, i35.l0]
  have K35 : Fr (xY e q) m m35 := Fr.key K (eR F35)
  have fin : ∀ (m2 : Mem) (S2 : St), Cpu m2 e q p S2 (stv B L.1 (zU x.k) (S.n x.t.toNat)) M (tW M W L.1 (zU x.k)) D wv -> vL m2 b x -> Fr (xY e q) m m2 -> (if x.k = 75 then vK S x.t 1 else S) = S2 -> rO e 0 b 0 (zU x.k) L.1 m2 (fun x44 x45 m46 => k x44 x45 m46) := fun m2 S2 E2 i2 F2 eS => by
   unfold rO
   rw [show (0 : Nat) + 0 = 0 from rfl, i2.l0]
   rw [eS] at hk
   refine zD _ (fun c3 => ?_) fun c3 => ?_
   .rw [if_pos (.inl (by simpa using c3))] at hk
    rw [show (0 : Nat) + 37 = 37 from rfl]
    exact oL E2.s (by omega) rfl fun m42 h42 O42 => hk m42 _ (E2.st h42 (oC E2.ok) O42.fr1) (.inr ⟨hev, rfl, rfl⟩) (F2.trans (yL O42.fr1))
   .have c3 : x.k ≠ 75 := by simpa using c3
    have n4 : zU x.k <= 4 := by omega
    refine zGm E2.s E2.ok Lu (by omega) n4 ?_
    refine zD _ (fun c4 => ?_) fun c4 => ?_
    .rw [if_pos (.inr c4)] at hk
     rw [show (0 : Nat) + 37 = 37 from rfl]
     exact oL E2.s (by omega) rfl fun m42 h42 O42 => hk m42 _ (E2.st h42 (oC E2.ok) O42.fr1) (.inr ⟨hev, rfl, rfl⟩) (F2.trans (yL O42.fr1))
    .rw [if_neg (fun t => t.elim c3 fun t => by rw [t] at c4; cases c4)] at hk
     exact hk m2 _ E2 (.inr ⟨hev, rfl, rfl⟩) F2
  refine zD _ (fun c3 => ?_) fun c3 => ?_
  .rw [i35.l2]
   refine pI E35.s hx.t0 hx.t1 fun m38 h38 O38 => fin m38 _ (E35.st h38 (iI E35.ok hx.t1 (by unfold wC; omega)) O38.fr1) (i35.only O38 ne) (K35.trans (yL O38.fr1)) (by rw [if_pos (by simpa using c3)])
  .exact fin m35 _ E35 i35 K35 (by rw [if_neg (by simpa using c3)])
 have main : ∀ z : Bool, (z = true ↔ (S.p 37 = true /\ S.n 38 = L.1)) -> rK e 0 q.b 0 b 0 (zU x.k) L.1 z m1 (fun x56 x57 m58 => k x56 x57 m58) := fun z hz => by
  unfold rK
  rw [show (0 : Nat) + 0 = 0 from rfl, i.l0]
  refine zD _ (fun c2 => ?_) fun c2 => ?_
  .have c2 : x.k = 75 := by simpa using c2
   unfold rP
   refine zD _ (fun c3 => ?_) fun c3 => ?_
   .have c3 : ¬ (S.p 37 = true /\ S.n 38 = L.1) := fun t => by rw [hz.2 t] at c3; simp at c3
    rw [if_pos ⟨c2, c3⟩] at hk
    rw [show (0 : Nat) + 2 = 2 from rfl, i.l2]
    refine pI E1.s hx.t0 hx.t1 fun m21 h21 O21 => ?_
    rw [show (0 : Nat) + 37 = 37 from rfl]
    exact oL h21 (by omega) rfl fun m22 h22 O22 => hk m22 W (E1.st h22 (oC (iI h.ok hx.t1 (by unfold wC; omega))) (O21.fr1.trans O22.fr1)) (.inl rfl) (yL (Fr.key K (O21.fr1.trans O22.fr1)))
   .exact body fun _ => hz.1 (by simpa using c3)
  .unfold rP
   exact zB rfl (body fun t => by simp at c2; exact absurd t c2)
 refine zD _ (fun c2 => ?_) fun c2 => ?_
 .rw [show (0 : Nat) + 38 = 38 from rfl, yE E1.s (by omega) rfl]
  exact main _ (by rw [c2]; simp)
 .exact main _ (by rw [c2]; simp)
end
theorem yHh {S : St} (ok : S.ok) (n : Int) : wC (zBm S n) := by
 unfold zBm
 have e48 := ok.1 48 (by omega)
 split
 .exact ⟨by omega, by omega⟩
 split
 .rename_i h
  have := zMl h
  exact ok.1 _ (by omega)
 .exact (⟨by omega, by omega⟩ : wC 0)
section
variable {m : Mem} {e : Nat} {q : BB} {p : Nat} {S : St} {B : Nat -> Int} {M W : Nat -> Bool} {D : Dv} {wv : AV} {c : Nat -> AV} {x : In}
theorem yCc (h : Cpu m e q p S B M W D wv) (hc : tQ c x) (hx : FX x) (hkd : x.k = 54 \/ x.k = 55 \/ x.k = 57 \/ x.k = 58) {k : Mem -> Prop} (hk : ∀ m', Cpu m' e q p (iV S x) B M W D wv -> Fr (wM e) m m' -> k m') : yHc e 0 c m k := by
 unfold yHc
 refine sO hc fun b m1 hb1 K i O => ?_
 have E1 := h.keep K
 have ne : b ≠ e := fun t => h.s.live (t ▸ hb1)
 rw [i.l0]
 unfold iV at hk
 refine zD _ (fun c1 => ?_) fun c1 => ?_
 .rw [if_pos (by simpa using c1)] at hk
  refine ⟨fun y => y = b, rfl, ?_⟩
  rw [i.l2]
  refine ⟨rfl, ?_⟩
  rw [i.l3]
  refine zIa E1.s E1.ok ⟨fun _ _ _ => rfl, ?_⟩
  refine pI E1.s hx.t0 hx.t1 fun m9 h9 O9 => ⟨fun y hy _ => by subst hy; exact O9 _ ne, ?_⟩
  exact hk m9 (E1.st h9 (iI h.ok hx.t1 (yHh h.ok _)) O9.fr1) (Fr.key K O9.fr1)
 rw [if_neg (by simpa using c1)] at hk
 refine zD _ (fun c2 => ?_) fun c2 => ?_
 .rw [if_pos (by simpa using c2)] at hk
  rw [i.l3, i.l2]
  refine yF hx.t0 hx.t1 ?_
  rw [ldR E1.s hx.t0 hx.t1]
  refine zUd E1.s fun m13 h13 O13 => hk m13 (E1.st h13 (zX7 h.ok ?_ ?_) O13.fr1) (Fr.key K O13.fr1)
  .exact (h.ok.1 _ (by have := hx.t1; omega)).1
  .exact (h.ok.1 _ (by have := hx.t1; omega)).2
 rw [if_neg (by simpa using c2)] at hk
 have c1 : x.k ≠ 54 := by simpa using c1
 have c2 : x.k ≠ 55 := by simpa using c2
 rw [if_pos (by omega)] at hk
 have go : pD e 0 b 0 x.k true m1 (fun m19 => k m19) := by
  unfold pD
  refine zG rfl ?_
  rw [show (0 : Nat) + 0 = 0 from rfl, i.l0]
  exact zRo E1.s E1.ok fun m16 h16 O16 => hk m16 (E1.st h16 (yI1 h.ok _) O16.fr1) (Fr.key K O16.fr1)
 refine zB (by simp; omega) (zD _ (fun c3 => ?_) fun c3 => ?_)
 .rw [c3]; exact go
 .have c3 : x.k ≠ 57 := by simpa using c3
  rw [show (x.k == 58) = true by simp; omega]; exact go
theorem zK0 {S : St} {i : Nat} : S.putN i (S.n i) = S := St.ext (fun j => by unfold St.putN upd; dsimp only; split <;> simp [*]) fun j => rfl
theorem yHv (h : Cpu m e q p S B M W D wv) (hc : tQ c x) (hx : FX x) (hkd : (x.k = 1 /\ x.d = 0) \/ x.k = 47 \/ x.k = 7 \/ x.k = 8 \/ x.k = 42 \/ x.k = 43) {k : Mem -> Prop} (hk : ∀ m', Cpu m' e q p (xW S x) B M W D wv -> Fr (wM e) m m' -> k m') : yI6 e 0 c m k := by
 unfold yI6
 refine sO hc fun b m1 hb1 K i O => ?_
 have E1 := h.keep K
 have ne : b ≠ e := fun t => h.s.live (t ▸ hb1)
 rw [i.l1]
 refine yF hx.s0 hx.s1 ?_
 rw [ldR E1.s hx.s0 hx.s1, i.l2]
 refine yF hx.t0 hx.t1 ?_
 rw [ldR E1.s hx.t0 hx.t1]
 refine i.lg fun c7 h7 => ?_
 have tail : ∀ (m2 : Mem), Cpu m2 e q p (xW S x) B M W D wv -> vL m2 b x -> Fr (wM e) m1 m2 -> nQ e 0 b 0 (S.n x.s.toNat) (S.n x.t.toNat) m2 (fun m38 => k m38) := fun m2 E2 i2 F2 => by
  unfold nQ
  rw [show (0 : Nat) + 0 = 0 from rfl, i2.l0]
  have go : ∀ m3, m3 = m2 -> pL e 0 b 0 (S.n x.s.toNat) (S.n x.t.toNat) m3 (fun m36 => k m36) := fun m3 e3 => by
   subst e3
   unfold pL
   refine i2.lg fun c27 h27 => ?_
   rw [show (0 : Nat) + 32 = 32 from rfl, show (0 : Nat) + 33 = 33 from rfl, yE E2.s (by omega) rfl, yE E2.s (by omega) rfl]
   unfold yQu
   refine sO h27 fun b2 m4 hb4 K4 i4 O4 => ?_
   rw [i4.l0]
   have E4 := E2.keep K4
   refine zB (by simp; omega) ?_
   unfold iC
   refine zB (by simp; omega) (zB (by simp; omega) ?_)
   unfold jP
   refine zB (by simp; omega) (zB (by simp; omega) (zB (by simp; omega) ⟨K4, ?_⟩))
   refine xB E2.s (by omega) rfl fun m34 h34 O34 => xB h34 (by omega) rfl fun m35 h35 O35 => ?_
   rw [zK0, show (xW S x).n 33 = (xW S x).n 33 from rfl, zK0] at h35
   have F35 := O34.fr1.trans O35.fr1
   exact hk m35 (E2.st h35 E2.ok F35) (Fr.key K (F2.trans F35))
  refine zB (by simp; omega) ?_
  rw [show (x.k == 10) = false by simp; omega]
  unfold iG
  exact zB rfl (zB (by simp; omega) (zB (by simp; omega) (go m2 rfl)))
 have hcL : zEr c7 x.k x.h x.i := ⟨h7.1, h7.2.2.2.2.1, h7.2.2.2.2.2⟩
 rcases hkd with ⟨k1, d0⟩ | k47 | kb
 .have pe : xW S x = S := by unfold xW; rw [if_neg (by omega)]
  refine yUg (kd := x.k) (by omega) hx.h0 hx.h1 hcL (zG rfl (i.lg fun c11 h11 => gZ h11 ?_))
  have eI : oE x = 0 := by unfold oE; rw [if_pos (by omega), if_neg (by omega)]; exact d0
  rw [eI]
  refine pI E1.s (by omega) (by omega) fun m14 h14 O14 => tail m14 ?_ (i.only O14 ne) O14.fr1
  rw [pe]
  exact E1.st h14 h.ok O14.fr1
 .refine yQd (kd := x.k) (by omega) hx.i0 hx.i1 hcL (zG rfl (i.lg fun c11 h11 => gZ h11 ?_))
  have eI : oE x = x.t := yQ1 (by omega)
  have eV : opR (yDn x.k) (S.n x.s.toNat) (yEs x.k x.i) = IntKind.wrap .u32 (S.n x.s.toNat + sxV x.i) := by
   rw [k47]
   have : sx x.i = sxV x.i := by
    rw [yLj _ hx.i0 hx.i1]; unfold sxV
    by_cases c : x.i < 32768
    .rw [if_neg (by omega), if_pos c]
    .rw [if_pos (by omega), if_neg c]
   show IntKind.wrap .u32 (_ + sx x.i) = _
   rw [this]
  rw [eI, eV]
  have pe : xW S x = vK S x.t (IntKind.wrap .u32 (S.n x.s.toNat + sxV x.i)) := by unfold xW; rw [if_pos k47]
  refine pI E1.s hx.t0 hx.t1 fun m14 h14 O14 => tail m14 ?_ (i.only O14 ne) O14.fr1
  rw [pe]
  exact E1.st h14 (iI h.ok hx.t1 (wO _)) O14.fr1
 .unfold zR9
  refine sO h7 fun b2 m2 hb2 K2 i2 O2 => ?_
  rw [i2.l0]
  refine zM7 ?_
  rw [decide_eq_false (by omega)]
  refine zG rfl ⟨K2, zB rfl (tail m1 ?_ i (Fr.refl _ _))⟩
  have pe : xW S x = S := by unfold xW; rw [if_neg (by omega)]
  rw [pe]; exact E1
structure Okx (p : Nat) (S : St) (x : In) : Prop where
 l : zT x.k = 4 -> (zJ S (uV S x) (zU x.k) false).2.1 = -1 -> (zJ S (uV S x) (zU x.k) false).1 < p * 1024 \/ (zJ S (uV S x) (zU x.k) false).1 < 520093696 \/ 520094080 <= (zJ S (uV S x) (zU x.k) false).1
 s : zT x.k = 5 -> (zJ S (uV S x) (zU x.k) true).2.1 = -1 -> (zJ S (uV S x) (zU x.k) true).1 < p * 1024 \/ (zJ S (uV S x) (zU x.k) true).1 < 520093696 \/ 520094080 <= (zJ S (uV S x) (zU x.k) true).1
 z : x.k = 1 -> x.d = 0
 t : sP S x = -1 -> x.k ≠ 22 /\ x.k ≠ 34
def wrS (p : Nat) (B : Nat -> Int) (S : St) (x : In) : Prop := sP S x = -1 /\ zT x.k = 5 /\ xO p (zJ S (uV S x) (zU x.k) true).1 (zU x.k) /\ (vU p B S x).2.2.1 = -1
theorem zV8 (S : St) (x : In) : sP S x = -1 \/ (0 <= sP S x /\ sP S x < 32) := by
 unfold sP
 split
 .exact .inr ⟨by omega, by omega⟩
 split
 .exact .inr ⟨by omega, by omega⟩
 split
 .exact .inr ⟨by omega, by omega⟩
 split
 .exact .inr ⟨by omega, by omega⟩
 split
 .exact .inr ⟨by omega, by omega⟩
 split
 .exact .inr ⟨by omega, by omega⟩
 split
 .exact .inl rfl
 split
 .exact .inr ⟨by omega, by omega⟩
 .exact .inr ⟨by omega, by omega⟩
theorem yM8 (p : Nat) (B : Nat -> Int) (S : St) (x : In) : (vJ p B S x).2.2.1 = -1 \/ (0 <= (vJ p B S x).2.2.1 /\ (vJ p B S x).2.2.1 < 32) := by
 unfold vJ
 have l1 := zK3 (S := S) (va := uV S x) (n := zU x.k) (t := false)
 have l2 := zK3 (S := S) (va := uV S x) (n := zU x.k) (t := true)
 split
 .unfold pA; dsimp only
  split
  .rename_i h; exact .inr (by dsimp only; omega)
  split
  .exact .inl rfl
  .exact .inr (by dsimp only; omega)
 split
 .unfold vU; dsimp only
  split
  .rename_i h; exact .inr (by dsimp only; omega)
  split
  .exact .inl rfl
  split
  .exact .inl rfl
  .exact .inr (by dsimp only; omega)
 split
 .exact .inl rfl
 .exact .inl rfl
theorem yCl (h : Cpu m e q p S B M W D wv) (st : Still D) (hc : tQ c x) (hx : FX x) (hd : Okx p S x) {k : Int -> Mem -> Prop}
  (hk : ∀ m' W', Cpu m' e q p (vF p B S x).1 (vF p B S x).2.1 M W' D wv -> (W' = W \/ (wrS p B S x /\ W' = tW M W (zJ S (uV S x) (zU x.k) true).1 (zU x.k))) -> Fr (xY e q) m m' -> k (vF p B S x).2.2 m') : F76 e 0 q.b 0 c m k := by
 unfold F76
 refine sO hc fun b m1 hb1 K i O => i.lg fun c3 h3 => ?_
 have E1 := h.keep K
 have ne : b ≠ e := fun t => h.s.live (t ▸ hb1)
 have nf : ¬ xY e q b := fun t => t.elim ne fun hb => h.b.live hb hb1
 refine kL E1.s h3 hx ?_
 unfold vF at hk
 dsimp only at hk
 have rr := zV8 S x
 refine zD _ (fun c1 => ?_) fun c1 => ?_
 .have c1 : sP S x ≠ -1 := by simpa using c1
  rw [if_pos c1] at hk
  exact sG E1 st (by omega) (by omega) fun m6 h6 F6 => hk m6 W h6 (.inl rfl) (yL (Fr.key K F6))
 have c1 : sP S x = -1 := by simpa using c1
 rw [if_neg (by omega)] at hk
 rw [i.l1]
 refine yF hx.s0 hx.s1 ?_
 rw [ldR E1.s hx.s0 hx.s1, i.l2]
 refine yF hx.t0 hx.t1 ?_
 rw [ldR E1.s hx.t0 hx.t1]
 have ac := yM8 p B S x
 have e60 : x.k = 60 -> zT x.k = 6 := fun t => by rw [t]; decide
 have aU : wC (S.n x.s.toNat) := h.ok.1 _ (by have := hx.s1; omega)
 have tail : ∀ (m2 : Mem) (A : Act) (W' : Nat -> Bool), vJ p B S x = A -> Cpu m2 e q p A.1 A.2.1 M W' D wv -> vL m2 b x -> Fr (xY e q) m1 m2 -> (W' = W \/ (wrS p B S x /\ W' = tW M W (zJ S (uV S x) (zU x.k) true).1 (zU x.k))) ->
   uO e 0 q.b 0 b 0 A.2.2.1 A.2.2.2 (S.n x.s.toNat) (S.n x.t.toNat) m2 (fun x43 m44 => k x43 m44) := fun m2 A W' eA E2 i2 F2 hW => by
  unfold uO
  rw [eA] at ac
  rw [eA] at hk
  have F02 : Fr (xY e q) m m2 := Fr.key K F2
  refine zD _ (fun c2 => ?_) fun c2 => ?_
  .have c2 : A.2.2.1 ≠ -1 := by simpa using c2
   rw [if_pos c2] at hk
   exact sG E2 st (by omega) (by omega) fun m6 h6 F6 => hk m6 W' h6 hW (F02.trans (yL F6))
  .rw [if_neg (by simpa using c2)] at hk
   refine zB4 E2.s fun m32 h32 O32 => ?_
   have E32 := E2.st h32 (zBk E2.ok 1) O32.fr1
   have i32 := i2.only O32 ne
   rw [show (0 : Nat) + 0 = 0 from rfl, i32.l0]
   have fin : ∀ (m3 : Mem) (S3 : St), Cpu m3 e q p S3 A.2.1 M W' D wv -> Fr (xY e q) m m3 -> (if x.k = 60 then (gM A.1 1).1 else onS (gM A.1 1).1 x (S.n x.s.toNat) (S.n x.t.toNat)) = S3 -> qW e 0 q.b 0 m3 (fun x41 m42 => k x41 m42) := fun m3 S3 E3 F3 eS => by
    unfold qW
    unfold sW at hk
    rw [eS] at hk
    exact uF E3.b st (rC E3.s fun m38 h38 O38 => hk m38 W' (E3.st h38 (jH E3.ok false) O38.fr1) hW (F3.trans (yL O38.fr1)))
   refine zD _ (fun c3 => ?_) fun c3 => ?_
   .have c3 : x.k ≠ 60 := by simpa using c3
    refine i32.lg fun c34 h34 => zW0 E32.s h34 hx fun m35 h35 F35 => fin m35 _ (E32.st h35 (yCt E32.ok hx aU) F35) (F02.trans (yL (O32.fr1.trans F35))) (by rw [if_neg c3])
   .have c3 : x.k = 60 := by simpa using c3
    exact fin m32 _ E32 (F02.trans (yL O32.fr1)) (by rw [if_pos c3])
 refine i.lg fun c12 h12 => vQ h12 ?_
 have keepI : ∀ {m2 : Mem}, Fr (xY e q) m1 m2 -> vL m2 b x := fun F => by
  obtain ⟨y, ey, r⟩ := i
  exact ⟨y, by rw [F b (by rw [ey]; simp) nf]; exact ey, r⟩
 refine zD _ (fun c4 => ?_) fun c4 => ?_
 .have c4 : zT x.k = 4 := by simpa using c4
  have eA : vJ p B S x = pA p B S x := by unfold vJ; rw [if_pos c4]
  refine i.lg fun c15 h15 => yP5 E1 h15 hx c4 (hd.l c4) fun m18 h18 F18 => tail m18 _ W eA ?_ (keepI (yL F18)) (yL F18) (.inl rfl)
  have eB : (pA p B S x).2.1 = B := by
   unfold pA; dsimp only
   split
   .rfl
   split <;> rfl
  rw [eB]; exact h18
 refine zD _ (fun c5 => ?_) fun c5 => ?_
 .have c5 : zT x.k = 5 := by simpa using c5
  have eA : vJ p B S x = vU p B S x := by unfold vJ; rw [if_neg (by simpa using c4), if_pos c5]
  refine i.lg fun c19 h19 => yKt E1 h19 hx c5 (hd.s c5) fun m22 W' h22 hW F22 => tail m22 _ W' eA h22 (keepI F22) F22 (hW.elim .inl fun ⟨a, b, c⟩ => .inr ⟨⟨c1, c5, a, b⟩, c⟩)
 have hk' := gH hx.k
 refine zD _ (fun c6 => ?_) fun c6 => ?_
 .have c6 : zT x.k = 6 := by simpa using c6
  have eA : vJ p B S x = (if x.k = 60 then hQ S else iV S x, B, -1, false) := by unfold vJ; rw [if_neg (by simpa using c4), if_neg (by simpa using c5), if_pos c6]
  rw [i.l0]
  refine zD _ (fun c60 => ?_) fun c60 => ?_
  .rw [if_pos (by simpa using c60)] at eA
   rw [c1]
   exact zMa E1.s fun m24 h24 O24 => tail m24 _ W eA (E1.st h24 (zT3 h.ok) O24.fr1) (i.only O24 ne) (yL O24.fr1) (.inl rfl)
  .have c60 : x.k ≠ 60 := by simpa using c60
   rw [if_neg c60] at eA
   rw [c1]
   have hkd : x.k = 54 \/ x.k = 55 \/ x.k = 57 \/ x.k = 58 := by
    have n62 : x.k ≠ 62 := fun t => by unfold sP at c1; rw [t] at c1; simp at c1; split at c1 <;> simp at c1
    have n11 : x.k ≠ 11 := fun t => by
     unfold sP at c1; rw [t] at c1
     simp at c1
     split at c1
     .simp at c1
     split at c1 <;> simp at c1
    have n12 : x.k ≠ 12 := fun t => by
     unfold sP at c1; rw [t] at c1
     simp at c1
     split at c1
     .simp at c1
     split at c1 <;> simp at c1
    rcases hk' with t | t | t | t | t | t | t | t | t | t | t | t | t | t | t | t | t | t | t | t | t | t <;> first | omega | (exfalso; rw [t] at c6; revert c6; decide)
   exact i.lg fun c25 h25 => yCc E1 h25 hx hkd fun m26 h26 F26 => tail m26 _ W eA h26 (keepI (yL F26)) (yL F26) (.inl rfl)
 .have c4 : zT x.k ≠ 4 := by simpa using c4
  have c5 : zT x.k ≠ 5 := by simpa using c5
  have c6 : zT x.k ≠ 6 := by simpa using c6
  have eA : vJ p B S x = (xW S x, B, -1, false) := by unfold vJ; rw [if_neg c4, if_neg c5, if_neg c6]
  rw [c1]
  have hkd : (x.k = 1 /\ x.d = 0) \/ x.k = 47 \/ x.k = 7 \/ x.k = 8 \/ x.k = 42 \/ x.k = 43 := by
   have ht := hd.t c1
   have hz := hd.z
   rcases hk' with t | t | t | t | t | t | t | t | t | t | t | t | t | t | t | t | t | t | t | t | t | t <;> first | omega | (exfalso; rw [t] at c6 c5 c4; revert c6 c5 c4; decide)
  exact i.lg fun c27 h27 => yHv E1 h27 hx hkd fun m28 h28 F28 => tail m28 _ W eA h28 (keepI (yL F28)) (yL F28) (.inl rfl)
end
def rg (S : St) : Nat -> Int := fun i => if i < 34 then S.n i else 0
def vE (S : St) (l : List Op19) : St := { S with n := fun i => if i < 34 then xC (rg S) l i else S.n i }
def pX (S : St) : St := ((S.putN 34 (S.n 35)).putN 35 (IntKind.wrap .u32 (S.n 35 + 4))).putP 36 false
def vM (S : St) (x : In) : St := wZ (pX (gM (vE S (yJ x)) 1).1) false
theorem zW3 : ∀ (l : List Op19) {f : Nat -> Int}, aK f -> (∀ o ∈ l, OpR o) -> aK (xC f l)
 | [], f, h, _ => h
 | o :: l, f, h, ho => zW3 l (zB8 h (ho o (by simp))) fun o' h' => ho o' (by simp [h'])
theorem yV7 {S : St} (ok : S.ok) : aK (rg S) := fun i => by
 unfold rg; split
 .exact ok.1 i (by omega)
 .exact (⟨by omega, by omega⟩ : wC 0)
theorem zNp {S : St} (ok : S.ok) {l : List Op19} (ho : ∀ o ∈ l, OpR o) : (vE S l).ok := by
 refine ⟨fun i hi => ?_, ?_⟩
 .unfold vE; dsimp only; split
  .exact zW3 l (yV7 ok) ho i
  .exact ok.1 i hi
 .exact ok.2
theorem zW4 {S : St} (ok : S.ok) : (pX S).ok := by
 have w := wO (S.n 35 + 4)
 have e35 := ok.1 35 (by omega)
 exact oC (yP (yP ok (by omega) e35.1 e35.2) (by omega) w.1 w.2)
section
variable {m : Mem} {e : Nat} {q : BB} {p : Nat} {S : St} {B : Nat -> Int} {M W : Nat -> Bool} {D : Dv} {wv : AV} {c : Nat -> AV} {x : In}
theorem zV0 {esz b o n : Nat} (h0 : 0 < n) (k : AV -> Prop) : qH esz (.sl b o n (.ex n)) none none k = k (.sl b o n (.ex n)) := by
 show kif (decide ((0 : Int) <= 0)) (kif (decide ((0 : Int) <= (n : Int))) (kif (decide ((n : Int) <= (n : Int))) (kite ((0 : Int).toNat < n) (k (.sl b (o + (0 : Int).toNat * esz) ((n : Int).toNat - (0 : Int).toNat) (.ex (n - (0 : Int).toNat)))) (k (.sl b o 0 (.ex 0)))) False) False) False = _
 rw [mL (by simp), mL (by simp), mL (by simp), zO, if_pos (by simpa using h0), Int.toNat_natCast]
 simp
theorem yNh {v : AV} {n : Nat} {f : Nat -> Int} {d : Nat -> AV} (h : yQ m e S) (hx : IsR m 1 v n d) (hn : 32 <= n) (hd : ∀ i, i < 32 -> d i = vu (f i)) {k : KV} (hk : ∀ m' u, yQ m' e { S with n := fun i => if i < 32 then f i else S.n i } -> yC m e m' -> k u m') : qF 1 (.sl e 0 32 (.ex 32)) v m k := by
 unfold qF
 refine eF hx fun d' hd' => ?_
 dsimp only
 obtain ⟨y, ey, yn, yr, yc, yx⟩ := h
 rw [zO, if_neg (by omega)]
 unfold kobj; rw [ey]
 dsimp only
 rw [yr]
 refine yK (by omega) (hk _ _ ⟨_, zL _ _ _, yn, rfl, fun i hi => ?_, fun j hj => ?_⟩ (yC.set _ _ _))
 .simp only [zC]
  by_cases c1 : i < 32
  .rw [if_pos (by omega), Nat.sub_zero, hd' i (by omega), hd i c1, zCq (zBc (by omega)) (by omega)]; dsimp only; rw [if_pos c1]
  .rw [if_neg (by omega), yc i hi]
   unfold stc; dsimp only; rw [if_neg c1]
 .simp only [zC]
  rw [if_neg (by omega)]; exact yx j hj
theorem zRj (h : Cpu m e q p S B M W D wv) (st : Still D) (r0 : S.n 0 = 0) {v : AV} {l : List Op19} (hl : l.length <= 8) (ho : ∀ o ∈ l, OpK o) (hv : xV m v (kH l)) (nv : ¬ own v e) {k : Mem -> Prop} (hk : ∀ m', Cpu m' e q p (wZ (pX (gM (vE S l) 1).1) false) B M W D wv -> Fr (wM e) m m' -> k m')
  (hq : 0 < S.q) (hx0 : S.x 0 = .ptr q.b 0) : F98 e 0 v m k := by
 unfold F98
 refine zW fun b2 m1 hb2 K1 e2 O1 => ?_
 rw [zV0 (by decide), zV0 (by decide)]
 have E1 := h.keep K1
 have ne : b2 ≠ e := fun t => h.s.live (t ▸ hb2)
 have L2 : IsL m1 1 (.sl b2 0 40 (.ex 40)) 40 yJ2 := (IsL.row (esz := 1) e2 rfl rfl)
 have R1 : IsR m1 1 (.sl e 0 32 (.ex 32)) 32 (fun i => vu (S.n i)) := by
  obtain ⟨y, ey, yn, yr, yc, yx⟩ := E1.s
  exact .sl e 0 32 (.ex 32) y _ ey (by omega) fun i hi => by
   rw [Nat.zero_add, yc i (by omega)]; exact zCq (zBc (by omega)) (by omega)
 refine yWm L2 R1 fun m6 u h6 F6 _ => ?_
 have F6' : Fr (wM b2) m1 m6 := F6.mono fun b _ t => t.symm
 have ns6 : ¬ wM b2 e := fun t => ne (t : e = b2).symm
 have S6 : yQ m6 e S := E1.s.fr F6' ns6
 rw [show (0 : Nat) + 0 + 32 = 32 from rfl, show (0 : Nat) + 0 + 33 = 33 from rfl, yE S6 (by omega) rfl, yE S6 (by omega) rfl]
 have K06 : zA m m6 := Fr.keeps K1 F6' fun x hx => by cases hx; exact hb2
 refine dX h6 (i := 32) (by omega) (by omega) fun m9 h9 F9 _ => dX h9 (i := 33) (by omega) (by omega) fun m10 h10 F10 _ => ?_
 have F10' : Fr (wM b2) m1 m10 := (F6.trans (F9.trans F10)).mono fun b _ t => t.symm
 have K010 : zA m m10 := Fr.keeps K1 F10' fun x hx => by cases hx; exact hb2
 have gU := yV7 h.ok
 have g0 : rg S 0 = 0 := r0
 -- the registers' row
 have hRg : ∃ N R, Rg m10 b2 0 (rg S) N R := by
  cases h10 with
  | sl b o n cap y c g1 g2 g3 g4 g5 =>
   refine ⟨y.n, fun j => y.c j, ⟨y, g1, rfl, g4, fun i hi => ?_, fun j hj hj2 => rfl⟩, by omega, gU⟩
   have := g3 i (by omega)
   rw [this]
   unfold upd rg
   by_cases c33 : i = 33
   .subst c33; simp
   rw [if_neg (by simpa using c33)]
   by_cases c32 : i = 32
   .subst c32; simp
   rw [if_neg (by simpa using c32)]
   by_cases c : i < 32
   .dsimp only; rw [if_pos (by omega), if_pos (by omega)]
   .dsimp only; rw [if_neg (by omega), if_neg (by omega)]
    have : ∀ i, i < 40 -> yJn (yJ2 i) = true := by decide +kernel
    exact zVs (this i hi)
 obtain ⟨N, R, hRg⟩ := hRg
 obtain ⟨hrun, hoK⟩ := zZy ho g0
 refine bH (Nat.le_trans (yDd l) hl) hRg (hv.keep K010) (fun t => hv.live t hb2) hoK fun m12 h12 F12 => ?_
 rw [yEv g0] at h12
 have K012 : zA m m12 := Fr.keeps K010 F12 fun x hx => by cases hx; exact hb2
 have S12 : yQ m12 e S := h.s.keep K012
 rw [zV0 (by decide), zV0 (by decide)]
 have R12 : IsR m12 1 (.sl b2 0 40 (.ex 40)) 40 (fun i => vu (xC (rg S) (kH l) i)) := by
  obtain ⟨y, ey, yn, yr, yc, _⟩ := h12.e
  have := h12.n
  exact .sl b2 0 40 (.ex 40) y _ ey (by omega) fun i hi => yc i (by omega)
 have hrv : ∀ i, i < 34 -> xC (rg S) (kH l) i = xC (rg S) l i := fun i hi => hrun i hi
 refine yNh (f := xC (rg S) l) S12 R12 (by omega) (fun i hi => by rw [hrv i (by omega)]) fun m16 u16 h16 O16 => ?_
 have hR16 : Rg m16 b2 0 (xC (rg S) (kH l)) N R := h12.fr O16.fr1 fun t => ne t
 have e32 : ∀ k, zR .u32 m16 b2 32 k = k (xC (rg S) l 32) := fun k => by
  have := hR16.ld (i := 32) (by omega) k
  rw [Nat.zero_add] at this
  rw [this, hrv 32 (by omega)]
 have e33 : ∀ k, zR .u32 m16 b2 33 k = k (xC (rg S) l 33) := fun k => by
  have := hR16.ld (i := 33) (by omega) k
  rw [Nat.zero_add] at this
  rw [this, hrv 33 (by omega)]
 rw [e32, e33]
 refine xB h16 (by omega) rfl fun m19 h19 O19 => xB h19 (by omega) rfl fun m20 h20 O20 => ?_
 have eS : ((({ S with n := fun i => if i < 32 then xC (rg S) l i else S.n i } : St).putN 32 (xC (rg S) l 32)).putN 33 (xC (rg S) l 33)) = vE S l := St.ext (fun i => by
  unfold St.putN vE upd
  dsimp only
  by_cases c33 : i = 33
  .subst c33; simp
  rw [if_neg c33]
  by_cases c32 : i = 32
  .subst c32; simp
  rw [if_neg c32]
  by_cases c : i < 32
  .rw [if_pos c, if_pos (by omega)]
  .rw [if_neg c, if_neg (by omega)]) fun i => rfl
 rw [eS] at h20
 refine zB4 h20 fun m22 h22 O22 => ?_
 rw [show (0 : Nat) + 0 + 35 = 35 from rfl, show (0 : Nat) + 0 + 34 = 34 from rfl, show (0 : Nat) + 0 + 36 = 36 from rfl, show (0 : Nat) + 73 = 73 from rfl]
 rw [yE h22 (by omega) rfl]
 refine xB h22 (by omega) rfl fun m24 h24 O24 => ?_
 rw [yE h24 (by omega) rfl, yM _ _ (by decide)]
 refine xB h24 (by omega) rfl fun m26 h26 O26 => oL h26 (by omega) rfl fun m27 h27 O27 => ?_
 have F027 : Fr (wM e) m m27 := Fr.key K012 (((((O16.fr1.trans O19.fr1).trans O20.fr1).trans O22.fr1).trans O24.fr1).trans (O26.fr1.trans O27.fr1))
 have okL := zNp (l := l) h.ok fun o h => (ho o h).r
 have E27 : Cpu m27 e q p (pX (gM (vE S l) 1).1) B M W D wv := h.st h27 (zW4 (zBk okL 1)) F027
 have eq27 : ∀ T : St, (gM T 1).1.q = T.q /\ (gM T 1).1.x = T.x := fun T => by
  unfold gM; split
  .exact ⟨rfl, rfl⟩
  split <;> exact ⟨rfl, rfl⟩
 have q27 : (pX (gM (vE S l) 1).1).q = S.q := (eq27 (vE S l)).1
 have x27 : (pX (gM (vE S l) 1).1).x = S.x := (eq27 (vE S l)).2
 have tl : ∀ k, ldA m27 e 73 k = k (.ptr q.b 0) := fun k => vH (j := 0) E27.s (by rw [q27]; exact hq) (by rw [x27]; exact hx0) rfl k
 rw [tl]
 refine uF E27.b st (rC E27.s fun m33 h33 O33 => hk m33 (E27.st h33 (jH E27.ok false) O33.fr1) (F027.trans O33.fr1))
end
def Tl (S T : St) : Prop := T.x = S.x /\ T.q = S.q
theorem Tl.refl (S : St) : Tl S S := ⟨rfl, rfl⟩
theorem yB3 (S : St) (n v : Int) : Tl S (vK S n v) := by unfold vK; split <;> exact ⟨rfl, rfl⟩
structure Calm (S : St) : Prop where
 w : S.p 71 = false
 l : bits .andNot .u32 (S.n 52) 1024 = S.n 52
theorem Calm.line {S : St} (h : Calm S) : wZ S false = S := by
 unfold wZ; rw [if_neg (by simp), h.l]; exact zK0
theorem zBy {S : St} {i : Nat} : S.putP i (S.p i) = S := St.ext (fun j => rfl) fun j => by unfold St.putP upd; dsimp only; split <;> simp [*]
def xN (p : Nat) (B : Nat -> Int) (S : St) : St × (Nat -> Int) × Int :=
 if xD S = true then (gA S 0 false, B, 0)
 else
  let L := zJ S (S.n 34) 4 false
  if L.2.1 ≠ -1 then (gA (zAm S (S.n 34) L.2.1) L.2.1 L.2.2, B, L.2.1)
  else if xO p L.1 4 then vF p B S (ofS (mZ B L.1 4)) else (gA S 6 false, B, 6)
def xQ (B : Nat -> Int) (S : St) : In := ofS (mZ B (zJ S (S.n 34) 4 false).1 4)
structure Good (p : Nat) (B : Nat -> Int) (S : St) : Prop where
 c : Calm S
 r0 : S.n 0 = 0
 dev : (zJ S (S.n 34) 4 false).1 < p * 1024 \/ (zJ S (S.n 34) 4 false).1 < 520093696 \/ 520094080 <= (zJ S (S.n 34) 4 false).1
 x : xD S = false -> (zJ S (S.n 34) 4 false).2.1 = -1 -> xO p (zJ S (S.n 34) 4 false).1 4 -> FX (xQ B S) /\ Okx p S (xQ B S)
def nW (p : Nat) (B : Nat -> Int) (S : St) : Prop := xD S = false /\ (zJ S (S.n 34) 4 false).2.1 = -1 /\ xO p (zJ S (S.n 34) 4 false).1 4 /\ wrS p B S (xQ B S)
def wrA (B : Nat -> Int) (S : St) : Int := (zJ S (uV S (xQ B S)) (zU (xQ B S).k) true).1
def wrN (B : Nat -> Int) (S : St) : Int := zU (xQ B S).k
section
variable {m : Mem} {e : Nat} {q : BB} {p : Nat} {S : St} {B : Nat -> Int} {M W : Nat -> Bool} {D : Dv} {wv : AV} {c : Nat -> AV} {x : In}
theorem yN9 (B : Nat -> Int) (a : Int) : wC (mZ B a 4) := zP5 _ _
theorem zUs (h : Cpu m e q p S B M W D wv) (st : Still D) (g : Good p B S) (nt : xD S = false) {k : Int -> Mem -> Prop}
  (hk : ∀ m' W', Cpu m' e q p (xN p B S).1 (xN p B S).2.1 M W' D wv -> (W' = W \/ (nW p B S /\ W' = tW M W (wrA B S) (wrN B S))) -> Fr (xY e q) m m' -> k (xN p B S).2.2 m') :
  F75 e 0 q.b 0 m fun c15 x16 x17 m18 => zQ m18 ⟨6, Z6, 32, false⟩ fun b20 m19 => vA 6 m19 b20 0 c15 fun m21 => kif (x16 != (-1)) (F74 e 0 q.b 0 x16 x17 m21 fun x22 m23 => k x22 m23) (yN 6 m21 b20 0 fun c24 => F76 e 0 q.b 0 c24 m21 fun x25 m26 => k x25 m26) := by
 unfold F75
 refine yP8 zWl fun b2 m1 hb2 K1 i2 O1 => ?_
 have E1 := h.keep K1
 have ne : b2 ≠ e := fun t => h.s.live (t ▸ hb2)
 rw [show (0 : Nat) + 34 = 34 from rfl, yE E1.s (by omega) rfl]
 have pu := h.ok.1 34 (by omega)
 refine kR E1.s pu.1 pu.2 ?_
 unfold xN at hk
 rw [nt, if_neg (by simp)] at hk
 dsimp only at hk
 have lc := zK3 (S := S) (va := S.n 34) (n := 4) (t := false)
 have lu := bX (S := S) (va := S.n 34) (n := 4) (t := false)
 -- an exception of fetching
 have exc : ∀ (m2 : Mem) (S2 : St) (cd : Int) (r : Bool), Cpu m2 e q p S2 B M W D wv -> vL m2 b2 ⟨0, 0, 0, 0, 0, 0⟩ -> Fr (xY e q) m m2 -> zA m1 m2 \/ True -> cd ≠ -1 -> 0 <= cd -> cd < 32 -> (∀ m' W', Cpu m' e q p (gA S2 cd r) B M W' D wv -> (W' = W \/ (nW p B S /\ W' = tW M W (wrA B S) (wrN B S))) -> Fr (xY e q) m m' -> k cd m') ->
   vA 6 m2 b2 0 Z6 fun m10 => yN 6 m10 b2 0 fun c19 => zQ m10 ⟨6, Z6, 32, false⟩ fun b20 m19 => vA 6 m19 b20 0 c19 fun m21 => kif (cd != (-1)) (F74 e 0 q.b 0 cd r m21 fun x22 m23 => k x22 m23) (yN 6 m21 b20 0 fun c24 => F76 e 0 q.b 0 c24 m21 fun x25 m26 => k x25 m26) := fun m2 S2 cd r E2 i F2 _ hc1 hc2 hc3 hkk => by
  refine i.sg zWl fun m10 i10 O10 => i10.lg fun c19 h19 => zT2 h19 fun b20 m21 hb20 K21 i21 => zG (by simpa using hc1) ?_
  have fb : ¬ xY e q b2 := fun t => t.elim ne fun hb => h.b.live hb hb2
  have F10 : Fr (xY e q) m m10 := fun y hy hf => by
   have ny : y ≠ b2 := fun t => hy (t ▸ hb2)
   rw [O10 y ny]; exact F2 y hy hf
  have E10 : Cpu m10 e q p S2 B M W D wv := ⟨E2.s.only O10 fun t => ne t.symm, E2.ok, E2.b.fr (O10.fr1) (fun y hy t => fb (.inr (by have t : y = b2 := t; subst t; exact hy))) (fun y hy t => by have t : y = b2 := t; subst t; exact (h.b.wl.live hy) hb2), E2.de, E2.dw⟩
  exact sG (E10.keep K21) st hc2 hc3 fun m' h' F' => hkk m' W h' (.inl rfl) (F10.trans (Fr.key K21 (yL F')))
 refine zD _ (fun c1 => ?_) fun c1 => ?_
 .have c1 : (zJ S (S.n 34) 4 false).2.1 ≠ -1 := by simpa using c1
  rw [if_pos c1] at hk
  rw [yE E1.s (by omega) rfl]
  refine zA4 E1.s fun m9 h9 O9 => ?_
  refine exc m9 _ _ _ (E1.st h9 (zKl h.ok pu.1 pu.2 _) O9.fr1) (i2.only O9 ne) (yL (Fr.key K1 O9.fr1)) (.inr trivial) c1 (by omega) (by omega) hk
 have c1 : (zJ S (S.n 34) 4 false).2.1 = -1 := by simpa using c1
 rw [if_neg (by simpa using c1)] at hk
 rw [show (0 : Nat) + 72 = 72 from rfl, jA E1.s]
 refine zC6 E1.b lu (by simp) g.dev (zD _ (fun c2 => ?_) fun c2 => ?_)
 .have c2 : ¬ xO p (zJ S (S.n 34) 4 false).1 4 := by simpa using c2
  rw [if_neg c2] at hk
  exact exc m1 S 6 false E1 i2 (K1.fr _) (.inr trivial) (by decide) (by decide) (by decide) hk
 have c2 : xO p (zJ S (S.n 34) 4 false).1 4 := by simpa using c2
 rw [if_pos c2] at hk
 rw [if_pos c2]
 have wu := yN9 B (zJ S (S.n 34) 4 false).1
 obtain ⟨gx, gd⟩ := g.x nt c1 c2
 refine zUv wu.1 wu.2 fun c16 h16 => i2.sg h16 fun m18 i18 O18 => i18.lg fun c21 h21 => zT2 h21 fun b20 m21 hb20 K21 i21 => zB rfl (i21.lg fun c24 h24 => ?_)
 have fb : ¬ xY e q b2 := fun t => t.elim ne fun hb => h.b.live hb hb2
 have E18 : Cpu m18 e q p S B M W D wv := ⟨E1.s.only O18 fun t => ne t.symm, E1.ok, E1.b.fr (O18.fr1) (fun y hy t => fb (.inr (by have t : y = b2 := t; subst t; exact hy))) (fun y hy t => by have t : y = b2 := t; subst t; exact (h.b.wl.live hy) hb2), E1.de, E1.dw⟩
 have K018 : zA m m18 := Fr.keeps K1 O18.fr1 fun y hy => by cases hy; exact hb2
 refine yCl (E18.keep K21) st h24 gx gd fun m' W' h' hW F' => hk m' W' h' (hW.elim .inl fun ⟨a, b⟩ => .inr ⟨⟨nt, c1, c2, a⟩, b⟩) (Fr.key (K018.trans K21) F')
theorem yPd (h : Cpu m e q p S B M W D wv) (st : Still D) (g : Good p B S) (nd : uR D (S.n 72) = false) {k : Int -> Mem -> Prop}
  (hk : ∀ m' W' u, Cpu m' e q p (xN p B S).1 (xN p B S).2.1 M W' { D with up := u } wv -> (W' = W \/ (nW p B S /\ W' = tW M W (wrA B S) (wrN B S))) -> Fr (xY e q) m m' -> k (xN p B S).2.2 m') : F43 e 0 q.b 0 m k := by
 unfold F43
 rw [show (0 : Nat) + 72 = 72 from rfl, show (0 : Nat) + 71 = 71 from rfl, jA h.s]
 refine zYr h.b st nd fun m3 u h3 F3 => ?_
 have hne : ¬ wM q.ln e := fun t => h.de (by have t : e = q.ln := t; rw [t]; simp [BB.all])
 have F3' : Fr (xY e q) m m3 := F3.mono fun b _ t => .inr (by have t : b = q.ln := t; rw [t]; simp [BB.all])
 have E3 : Cpu m3 e q p S B M W { D with up := u } wv := ⟨h.s.fr F3 hne, h.ok, h3, h.de, h.dw⟩
 have st' : Still { D with up := u } := st.up
 refine uF h3 st' (rC E3.s fun m6 h6 O6 => ?_)
 rw [g.c.line] at h6
 have E6 := E3.st h6 h.ok O6.fr1
 rw [mY h6 (by omega) rfl, g.c.w]
 refine zB rfl ?_
 unfold jF
 rw [show (0 : Nat) + 71 = 71 from rfl]
 refine oL h6 (by omega) rfl fun m10 h10 O10 => ?_
 rw [<- g.c.w, zBy] at h10
 have E10 := E6.st h10 h.ok O10.fr1
 have F10 : Fr (xY e q) m m10 := F3'.trans (yL (O6.fr1.trans O10.fr1))
 refine fQ h10 h.ok (zD _ (fun c1 => ?_) fun c1 => ?_)
 .unfold xN at hk
  rw [if_pos c1] at hk
  exact sG E10 st' (by decide) (by decide) fun m' h' F' => hk m' W u h' (.inl rfl) (F10.trans (yL F'))
 .exact zUs E10 st' g c1 fun m' W' h' hW F' => hk m' W' u h' hW (F10.trans F')
theorem yXr (h : Cpu m e q p S B M W D wv) (st : Still D) (cm : Calm S) (hq : 0 < S.q) (hx0 : S.x 0 = .ptr q.b 0) {k : Bool -> Mem -> Prop} (hk : ∀ m', Cpu m' e q p S B M W D wv -> Fr (wM e) m m' -> k (uR D (S.n 72) || xD S) m') : F40 e 0 m k := by
 unfold F40
 have tl : ∀ {mm : Mem}, Cpu mm e q p S B M W D wv -> ∀ k, ldA mm e (0 + 73) k = k (.ptr q.b 0) := fun E k => by
  rw [show (0 : Nat) + 73 = 73 + 0 from rfl]
  exact vH (j := 0) E.s hq hx0 rfl k
 rw [tl h]
 dsimp only [yD]
 refine zSn h.b ?_
 rw [tl h]
 dsimp only
 refine uF h.b st (rC h.s fun m12 h12 O12 => ?_)
 rw [cm.line] at h12
 have E12 := h.st h12 h.ok O12.fr1
 have rest : uR D (S.n 72) = false -> (ldB m12 e (0 + 0 + 71) fun x14 => kif x14 (k true m12) (F61 e (0 + 0) m12 fun x15 m16 => k x15 m16)) := fun nd => by
  rw [show (0 : Nat) + 0 + 71 = 71 from rfl, mY h12 (by omega) rfl, cm.w]
  refine zB rfl (fQ h12 h.ok ?_)
  have := hk m12 E12 O12.fr1
  rw [nd, Bool.false_or] at this
  exact this
 refine zD _ (fun c1 => ?_) fun c1 => ?_
 .rw [show (0 : Nat) + 0 + 72 = 72 from rfl, jA h12]
  refine zD _ (fun c2 => ?_) fun c2 => rest (by unfold uR; rw [c1, c2]; rfl)
  have := hk m12 E12 O12.fr1
  rw [show uR D (S.n 72) = true by unfold uR; rw [c1, c2]; rfl, Bool.true_or] at this
  exact this
 .exact rest (by unfold uR; rw [c1]; rfl)
end
theorem yOv {m : Mem} {F : Nat -> Prop} {esz bytes q : Nat} {t e : TypeId} {v : AV} {n n' : Nat} {c d : Nat -> AV} {k : KV} (h : IsL m esz v n c) (hq : q = n' * esz) (hd : ∀ i, i < n' * esz -> d i = c (n * esz + i)) (hb : (n + n') * (bytes + 1) <= 140737488355328) (hF : ∀ y, F y -> ¬ own v y)
  (hk : ∀ v' m', IsL m' esz v' (n + n') c -> Fr (own v) m m' -> (∀ b, own v' b -> own v b \/ m.obj b = none) -> k v' m') : zQ m ⟨q, d, t, false⟩ fun b m1 => uB esz bytes e v (.sl b 0 n' (.ex n')) m1 fun v' m' => zV F m1 m' /\ (k v' m') := by
 refine zW fun b m1 hb1 K e1 O => yXu (h.keep K) (IsL.row (esz := esz) e1 hq rfl).r hd hb fun v' m2 g1 g2 g3 => ⟨fun y hy hl => g2 y hl (hF y hy), hk v' m2 g1 (fun b' hb' ho => ?_) fun b' ho => ?_⟩
 .rw [g2 b' (by rw [K b' hb']; exact hb') ho, K b' hb']
 .rcases g3 b' ho with h1 | h1
  .exact .inl h1
  .exact .inr (zX K h1)
theorem IsL.one {m : Mem} {esz : Nat} {v : AV} {n : Nat} {c : Nat -> AV} (h : IsL m esz v n c) : v.one = true := by
 rcases h.form with ⟨a, rfl⟩ | ⟨b, o, cap, rfl⟩ <;> rfl
def qO (B : Nat -> Int) (a : Int) (i : Nat) : Int := mZ B (a + 4 * i) 4
def uX (B : Nat -> Int) (a : Int) (i : Nat) : In := ofS (qO B a i)
def cW (B : Nat -> Int) (a : Int) : Nat -> AV := fun i => vu (qO B a i)
structure Bd (m0 m : Mem) (b : Nat) (B : Nat -> Int) (a : Int) (n : Nat) (v1 v2 v3 : AV) (c2 c3 : Nat -> AV) : Prop where
 box : wG m b [vu a, v1, v2, v3]
 w : IsL m 1 v1 n (cW B a)
 i : IsL m 6 v2 n c2
 ii : ∀ i, i < n -> tQ (fun j => c2 (i * 6 + j)) (uX B a i)
 o : IsL m 1 v3 n c3
 oo : ∀ i, i < n -> (c3 i).one = true /\ xV m (c3 i) (kH (yJ (uX B a i)))
 K : zA m0 m
 nb : m0.obj b = none
 x1 : ∀ x, own v1 x -> m0.obj x = none /\ x ≠ b /\ ¬ own v2 x /\ ¬ own v3 x /\ ∀ i, i < n -> ¬ own (c3 i) x
 x2 : ∀ x, own v2 x -> m0.obj x = none /\ x ≠ b /\ ¬ own v3 x /\ ∀ i, i < n -> ¬ own (c3 i) x
 x3 : ∀ x, own v3 x -> m0.obj x = none /\ x ≠ b /\ ∀ i, i < n -> ¬ own (c3 i) x
 x4 : ∀ i, i < n -> ∀ x, own (c3 i) x -> m0.obj x = none /\ x ≠ b
theorem Bd.keep {m0 m m' : Mem} {b : Nat} {B : Nat -> Int} {a : Int} {n : Nat} {v1 v2 v3 : AV} {c2 c3 : Nat -> AV} (h : Bd m0 m b B a n v1 v2 v3 c2 c3) (K : zA m m') : Bd m0 m' b B a n v1 v2 v3 c2 c3 :=
 ⟨h.box.keep K, h.w.keep K, h.i.keep K, h.ii, h.o.keep K, fun i hi => ⟨(h.oo i hi).1, (h.oo i hi).2.keep K⟩, h.K.trans K, h.nb, h.x1, h.x2, h.x3, h.x4⟩
theorem yTp {w : Int} (w0 : 0 <= w) : 0 <= (ofS w).i := by
 unfold ofS wJ
 dsimp only
 split
 .omega
 .split <;> omega
theorem yUm {m0 m : Mem} {b : Nat} {B : Nat -> Int} {a : Int} {n : Nat} {v1 v2 v3 : AV} {c2 c3 : Nat -> AV} (h : Bd m0 m b B a n v1 v2 v3 c2 c3) (hn : n <= 1000) {c : Nat -> AV} (hc : tQ c (uX B a n)) (ho : ∀ o ∈ yJ (uX B a n), OpK o) {k : Mem -> Prop}
  (hk : ∀ m' w1 w2 w3 d2 d3, Bd m0 m' b B a (n + 1) w1 w2 w3 d2 d3 -> k m') : F95 b 0 (qO B a n) c m k := by
 unfold F95
 refine sO hc fun b2 m1 hb2 K1 i2 O1 => ⟨fun y => y = b \/ y = b2, .inl rfl, ?_⟩
 have h1 := h.keep K1
 have ne2 : b2 ≠ b := fun t => h.box.live (t ▸ hb2)
 have l1 : ∀ {mm : Mem} {u1 u2 u3 : AV}, wG mm b [vu a, u1, u2, u3] -> u1.one = true -> ∀ k, ldA mm b (0 + 1) k = k u1 := fun hh h1 k => hh.lA (i := 1) (show 1 < 4 by decide) rfl h1 k
 have l2 : ∀ {mm : Mem} {u1 u2 u3 : AV}, wG mm b [vu a, u1, u2, u3] -> u2.one = true -> ∀ k, ldA mm b (0 + 2) k = k u2 := fun hh h1 k => hh.lA (i := 2) (show 2 < 4 by decide) rfl h1 k
 have l3 : ∀ {mm : Mem} {u1 u2 u3 : AV}, wG mm b [vu a, u1, u2, u3] -> u3.one = true -> ∀ k, ldA mm b (0 + 3) k = k u3 := fun hh h1 k => hh.lA (i := 3) (show 3 < 4 by decide) rfl h1 k
 have o1b : ¬ own v1 b := fun t => (h.x1 b t).2.1 rfl
 have o2b : ¬ own v2 b := fun t => (h.x2 b t).2.1 rfl
 have o3b : ¬ own v3 b := fun t => (h.x3 b t).2.1 rfl
 have o1c : ¬ own v1 b2 := fun t => h.w.live t hb2
 have o2c : ¬ own v2 b2 := fun t => h.i.live t hb2
 have o3c : ¬ own v3 b2 := fun t => h.o.live t hb2
 rw [l1 h1.box h.w.one]
 refine yOv (n' := 1) h1.w rfl (fun i hi => ?_) (by omega) (fun y hy => ?_) fun v7 m8 g8 F8 o8 => ?_
 .have : i = 0 := by omega
  subst this
  show _ = cW B a (n * 1 + 0)
  rw [Nat.mul_one]; rfl
 .rcases hy with rfl | rfl
  .exact o1b
  .exact o1c
 have box8 := h1.box.fr F8 o1b
 have i8 := h1.i.fr F8 fun x hx t => (h.x1 x t).2.2.1 hx
 have s8 := h1.o.fr F8 fun x hx t => (h.x1 x t).2.2.2.1 hx
 have oo8 : ∀ i, i < n -> xV m8 (c3 i) (kH (yJ (uX B a i))) := fun i hi => (h1.oo i hi).2.fr F8 fun x hx t => (h.x1 x t).2.2.2.2 i hi hx
 have i28 : vL m8 b2 (uX B a n) := by
  obtain ⟨y, ey, r⟩ := i2
  exact ⟨y, by rw [F8 b2 (by rw [ey]; simp) o1c]; exact ey, r⟩
 have K08 : zA m0 m8 := Fr.keeps h1.K F8 fun x hx => (h.x1 x hx).1
 refine ⟨.inl rfl, ?_⟩
 rw [l2 box8 h.i.one]
 refine ⟨.inr rfl, i28.lg fun c10 h10 => ?_⟩
 have i8' := i8.congr (d := fun i => if i < n * 6 then c2 i else c10 (i - n * 6)) fun i hi => by rw [if_pos hi]
 refine yOv (n' := 1) i8' rfl (fun i hi => ?_) (by omega) (fun y hy => ?_) fun v13 m14 g14 F14 o14 => ?_
 .simp only [zC]
  rw [if_pos (by omega), if_neg (by omega)]; congr 1; omega
 .rcases hy with rfl | rfl
  .exact o2b
  .exact o2c
 have box14 := box8.fr F14 o2b
 have own7 : ∀ x, own v7 x -> ¬ own v2 x := fun x hx t => by
  rcases o8 x hx with h' | h'
  .exact (h.x1 x h').2.2.1 t
  .exact h1.i.live t h'
 have w14 := g8.fr F14 fun x hx t => own7 x hx t
 have s14 := s8.fr F14 fun x hx t => (h.x2 x t).2.2.1 hx
 have oo14 : ∀ i, i < n -> xV m14 (c3 i) (kH (yJ (uX B a i))) := fun i hi => (oo8 i hi).fr F14 fun x hx t => (h.x2 x t).2.2.2 i hi hx
 have i214 : vL m14 b2 (uX B a n) := by
  obtain ⟨y, ey, r⟩ := i28
  exact ⟨y, by rw [F14 b2 (by rw [ey]; simp) o2c]; exact ey, r⟩
 have K014 : zA m0 m14 := Fr.keeps K08 F14 fun x hx => (h.x2 x hx).1
 refine box14.sV (i := 1) (show 1 < 4 by decide) g8.one fun m15 box15 O15 => box15.sV (i := 2) (show 2 < 4 by decide) g14.one fun m16 box16 O16 => ?_
 have box16 : wG m16 b [vu a, v7, v13, v3] := box16
 have O16' := O15.trans O16
 have F16 : Fr (wM b) m14 m16 := O16'.fr1
 have own7b : ¬ own v7 b := fun t => by
  rcases o8 b t with h' | h'
  .exact o1b h'
  .exact h1.box.live h'
 have own13b : ¬ own v13 b := fun t => by
  rcases o14 b t with h' | h'
  .exact o2b h'
  .exact box8.live h'
 have nf : ∀ {u : AV}, ¬ own u b -> ∀ x, own u x -> ¬ wM b x := fun hu x hx t => by
  have t : x = b := t
  subst t; exact hu hx
 have w16 := w14.fr F16 (nf own7b)
 have g16 := g14.fr F16 (nf own13b)
 have s16 := s14.fr F16 (nf o3b)
 have oo16 : ∀ i, i < n -> xV m16 (c3 i) (kH (yJ (uX B a i))) := fun i hi => (oo14 i hi).fr F16 (nf fun t => (h.x4 i hi b t).2 rfl)
 have i216 := i214.only O16' ne2
 have K016 : zA m0 m16 := Fr.keeps K014 F16 fun x hx => by
  have hx : x = b := hx
  subst hx; exact h.nb
 refine ⟨fun y => y = b \/ y = b2, .inl rfl, ?_⟩
 rw [l3 box16 h.o.one]
 refine ⟨.inr rfl, i216.lg fun c19 h19 => ?_⟩
 have hw0 : 0 <= (uX B a n).i := yTp (zP5 _ _).1
 refine zZq h19 hw0 fun v20 m21 h20 K21 o20 => ⟨fun y hy hl => K21 y hl, ?_⟩
 obtain ⟨len2, opr⟩ := zC9 (x := uX B a n) hw0
 refine yEn (by omega) h20 ho fun v22 m23 h22 K23 o22 => ⟨fun y hy hl => K23 y hl, ?_⟩
 have K1623 := K21.trans K23
 have one22 : v22.one = true := by obtain ⟨c, hc, _⟩ := h22; exact hc.one
 refine zG one22 ?_
 have s23 := s16.keep K1623
 have s23' := s23.congr (d := fun i => if i < n then c3 i else v22) fun i hi => by rw [if_pos (by omega)]
 refine yOv (n' := 1) s23' rfl (fun i hi => ?_) (by omega) (fun y hy => ?_) fun v26 m27 g27 F27 o27 => ?_
 .have : i = 0 := by omega
  subst this
  show upd _ 0 v22 0 = if n * 1 + 0 < n then _ else _
  rw [if_neg (by omega)]; rfl
 .rcases hy with rfl | rfl
  .exact o3b
  .exact o3c
 have box27 := (box16.keep K1623).fr F27 o3b
 have own7_3 : ∀ x, own v7 x -> ¬ own v3 x := fun x hx t => by
  rcases o8 x hx with h' | h'
  .exact (h.x1 x h').2.2.2.1 t
  .exact h1.o.live t h'
 have own13_3 : ∀ x, own v13 x -> ¬ own v3 x := fun x hx t => by
  rcases o14 x hx with h' | h'
  .exact (h.x2 x h').2.2.1 t
  .exact s8.live t h'
 have w27 := (w16.keep K1623).fr F27 fun x hx t => own7_3 x hx t
 have g27i := (g16.keep K1623).fr F27 fun x hx t => own13_3 x hx t
 have oo27 : ∀ i, i < n -> xV m27 (c3 i) (kH (yJ (uX B a i))) := fun i hi => ((oo16 i hi).keep K1623).fr F27 fun x hx t => (h.x3 x t).2.2 i hi hx
 have v22_3 : ∀ x, own v22 x -> ¬ own v3 x := fun x hx t => (s16.keep K21).live t (o22 x hx)
 have h2227 : xV m27 v22 (kH (yJ (uX B a n))) := h22.ops.fr F27 fun x hx t => v22_3 x hx t
 have K027 : zA m0 m27 := Fr.keeps (K016.trans K1623) F27 fun x hx => (h.x3 x hx).1
 refine box27.sV (i := 3) (show 3 < 4 by decide) g27.one fun m28 box28 O28 => ?_
 have box28 : wG m28 b [vu a, v7, v13, v26] := box28
 have F28 : Fr (wM b) m27 m28 := O28.fr1
 have own26b : ¬ own v26 b := fun t => by
  rcases o27 b t with h' | h'
  .exact o3b h'
  .exact (box16.keep K1623).live h'
 have own22b : ¬ own v22 b := fun t => (box16.keep K21).live (o22 b t)
 have live7 : ∀ x, own v7 x -> m21.obj x ≠ none := fun x hx => (w16.keep K21).live hx
 have live13 : ∀ x, own v13 x -> m21.obj x ≠ none := fun x hx => (g16.keep K21).live hx
 have live7' : ∀ x, own v7 x -> m23.obj x ≠ none := fun x hx => (w16.keep K1623).live hx
 have live13' : ∀ x, own v13 x -> m23.obj x ≠ none := fun x hx => (g16.keep K1623).live hx
 have n0 : ∀ {mm : Mem} {x : Nat}, zA m0 mm -> mm.obj x = none -> m0.obj x = none := fun K h => zX K h
 refine hk m28 v7 v13 v26 _ (fun i => if i < n then c3 i else v22) ⟨box28, w27.fr F28 (nf own7b), g27i.fr F28 (nf own13b), fun i hi => ?_, g27.fr F28 (nf own26b), fun i hi => ?_, ?_, h.nb, fun x hx => ?_, fun x hx => ?_, fun x hx => ?_, fun i hi x hx => ?_⟩
 .by_cases ci : i < n
  .have := h.ii i ci
   refine ⟨?_, ?_, ?_, ?_, ?_, ?_⟩
   .dsimp only; rw [if_pos (by omega)]; exact this.1
   .dsimp only; rw [if_pos (by omega)]; exact this.2.1
   .dsimp only; rw [if_pos (by omega)]; exact this.2.2.1
   .dsimp only; rw [if_pos (by omega)]; exact this.2.2.2.1
   .dsimp only; rw [if_pos (by omega)]; exact this.2.2.2.2.1
   .dsimp only; rw [if_pos (by omega)]; exact this.2.2.2.2.2
  .have e : i = n := by omega
   subst e
   have eq : ∀ j, (if i * 6 + j < i * 6 then c2 (i * 6 + j) else c10 (i * 6 + j - i * 6)) = c10 j := fun j => by rw [if_neg (by omega)]; congr 1; omega
   exact ⟨(eq 0).trans h10.1, (eq 1).trans h10.2.1, (eq 2).trans h10.2.2.1, (eq 3).trans h10.2.2.2.1, (eq 4).trans h10.2.2.2.2.1, (eq 5).trans h10.2.2.2.2.2⟩
 .by_cases ci : i < n
  .rw [if_pos ci]
   exact ⟨(h.oo i ci).1, (oo27 i ci).fr F28 (nf fun t => (h.x4 i ci b t).2 rfl)⟩
  .have e : i = n := by omega
   subst e
   rw [if_neg ci]
   exact ⟨one22, h2227.fr F28 (nf own22b)⟩
 .exact Fr.keeps K027 F28 fun x hx => by
   have hx : x = b := hx
   subst hx; exact h.nb
 .refine ⟨?_, fun t => own7b (t ▸ hx), fun t => ?_, fun t => ?_, fun i hi t => ?_⟩
  .rcases o8 x hx with h' | h'
   .exact (h.x1 x h').1
   .exact n0 h1.K h'
  .rcases o14 x t with h' | h'
   .exact own7 x hx h'
   .exact g8.live hx h'
  .rcases o27 x t with h' | h'
   .exact own7_3 x hx h'
   .exact live7' x hx h'
  .by_cases ci : i < n
   .rw [if_pos ci] at t
    rcases o8 x hx with h' | h'
    .exact (h.x1 x h').2.2.2.2 i ci t
    .exact (h1.oo i ci).2.live t h'
   .rw [if_neg ci] at t
    exact live7 x hx (o22 x t)
 .refine ⟨?_, fun t => own13b (t ▸ hx), fun t => ?_, fun i hi t => ?_⟩
  .rcases o14 x hx with h' | h'
   .exact (h.x2 x h').1
   .exact n0 K08 h'
  .rcases o27 x t with h' | h'
   .exact own13_3 x hx h'
   .exact live13' x hx h'
  .by_cases ci : i < n
   .rw [if_pos ci] at t
    rcases o14 x hx with h' | h'
    .exact (h.x2 x h').2.2.2 i ci t
    .exact (oo8 i ci).live t h'
   .rw [if_neg ci] at t
    exact live13 x hx (o22 x t)
 .refine ⟨?_, fun t => own26b (t ▸ hx), fun i hi t => ?_⟩
  .rcases o27 x hx with h' | h'
   .exact (h.x3 x h').1
   .exact n0 (K016.trans K1623) h'
  .by_cases ci : i < n
   .rw [if_pos ci] at t
    rcases o27 x hx with h' | h'
    .exact (h.x3 x h').2.2 i ci t
    .exact ((oo16 i ci).keep K1623).live t h'
   .rw [if_neg ci] at t
    rcases o27 x hx with h' | h'
    .exact v22_3 x t h'
    .exact h22.ops.live t h'
 .by_cases ci : i < n
  .rw [if_pos ci] at hx
   exact h.x4 i ci x hx
  .rw [if_neg ci] at hx
   exact ⟨n0 (K016.trans K21) (o22 x hx), fun t => own22b (t ▸ hx)⟩
structure Shape (p : Nat) (B : Nat -> Int) (a : Int) (n : Nat) : Prop where
 a0 : 0 <= a
 a4 : a % 4 = 0
 n1 : 1 <= n
 n2 : n <= 32
 pg : (a + 4 * (n - 1 : Nat)) / 1024 = a / 1024
 r : a < p * 1024
 s : ∀ i, i + 1 < n -> zT (uX B a i).k ≠ 6
theorem Shape.at {p : Nat} {B : Nat -> Int} {a : Int} {n : Nat} (h : Shape p B a n) {i : Nat} (hi : i < n) : xO p (a + 4 * i) 4 /\ (a + 4 * i) / 1024 = a / 1024 := by
 have := h.a0
 have := h.a4
 have := h.pg
 have := h.r
 have e : (a + 4 * (i : Int)) / 1024 = a / 1024 := by omega
 exact ⟨⟨by simp, by omega, by unfold cE; omega⟩, e⟩
structure Bk (m : Mem) (B : Nat -> Int) (v : Nat -> AV) (a : Int) (n : Nat) (T : Nat -> Prop) : Prop where
 v0 : v 0 = vu a
 w : IsL m 1 (v 1) n (cW B a)
 i : ∃ c, IsL m 6 (v 2) n c /\ ∀ i, i < n -> tQ (fun j => c (i * 6 + j)) (uX B a i)
 o : ∃ c, IsL m 1 (v 3) n c /\ ∀ i, i < n -> (c i).one = true /\ xV m (c i) (kH (yJ (uX B a i))) /\ ∀ x, own (c i) x -> ¬ T x
 t1 : ∀ x, own (v 1) x -> ¬ T x
 t2 : ∀ x, own (v 2) x -> ¬ T x
 t3 : ∀ x, own (v 3) x -> ¬ T x
theorem Bk.fr {m m' : Mem} {B : Nat -> Int} {v : Nat -> AV} {a : Int} {n : Nat} {T T' : Nat -> Prop} (h : Bk m B v a n T) (F : Fr T m m') (ht : ∀ x, T' x -> T x \/ m.obj x = none) : Bk m' B v a n T' := by
 obtain ⟨c2, hi1, hi2⟩ := h.i
 obtain ⟨c3, ho1, ho2⟩ := h.o
 exact ⟨h.v0, h.w.fr F h.t1, ⟨c2, hi1.fr F h.t2, hi2⟩, ⟨c3, ho1.fr F h.t3, fun i hi => ⟨(ho2 i hi).1, (ho2 i hi).2.1.fr F (ho2 i hi).2.2, fun x hx t => (ht x t).elim ((ho2 i hi).2.2 x hx) ((ho2 i hi).2.1.live hx)⟩⟩,
  fun x hx t => (ht x t).elim (h.t1 x hx) (h.w.live hx), fun x hx t => (ht x t).elim (h.t2 x hx) (hi1.live hx), fun x hx t => (ht x t).elim (h.t3 x hx) (ho1.live hx)⟩
theorem Bk.congr {m : Mem} {B : Nat -> Int} {v v' : Nat -> AV} {a : Int} {n : Nat} {T : Nat -> Prop} (h : Bk m B v a n T) (e : ∀ j, j < 4 -> v' j = v j) : Bk m B v' a n T := by
 obtain ⟨h0, h1, h2, h3, h4, h5, h6⟩ := h
 have e0 := e 0 (by omega)
 have e1 := e 1 (by omega)
 have e2 := e 2 (by omega)
 have e3 := e 3 (by omega)
 exact ⟨e0.trans h0, e1 ▸ h1, e2 ▸ h2, e3 ▸ h3, e1 ▸ h4, e2 ▸ h5, e3 ▸ h6⟩
section
variable {m0 : Mem} {r : RB} {p : Nat} {B : Nat -> Int} {M W : Nat -> Bool} {at' : Int}
theorem Bd.bk {m : Mem} {b : Nat} {n : Nat} {v1 v2 v3 : AV} {c2 c3 : Nat -> AV} (h : Bd m0 m b B at' n v1 v2 v3 c2 c3) {v : Nat -> AV} (hv : ∀ j, j < 4 -> v j = zH [vu at', v1, v2, v3] j) : Bk m B v at' n fun x => m0.obj x ≠ none := by
 have e0 := hv 0 (by omega)
 have e1 := hv 1 (by omega)
 have e2 := hv 2 (by omega)
 have e3 := hv 3 (by omega)
 have e1 : v 1 = v1 := e1
 have e2 : v 2 = v2 := e2
 have e3 : v 3 = v3 := e3
 exact ⟨e0, e1 ▸ h.w, ⟨c2, e2 ▸ h.i, h.ii⟩, ⟨c3, e3 ▸ h.o, fun i hi => ⟨(h.oo i hi).1, (h.oo i hi).2, fun x hx t => t (h.x4 i hi x hx).1⟩⟩, fun x hx t => t (h.x1 x (e1 ▸ hx)).1, fun x hx t => t (h.x2 x (e2 ▸ hx)).1, fun x hx t => t (h.x3 x (e3 ▸ hx)).1⟩
def mQ (B : Nat -> Int) (at' : Int) : Prop := ∀ i : Nat, (at' + 4 * i) / 1024 = at' / 1024 -> ∀ o ∈ yJ (uX B at' i), OpK o
theorem zNj {b6 b8 : Nat} {wQ : Nat} (hm1 : 1 <= wQ) (hm : wQ <= 32) (h : IsRam m0 r p B M W) (a0 : 0 <= at') (a4 : at' % 4 = 0) (ar : at' < p * 1024) (hW : mQ B at') {k0 : Mem -> Prop}
  (hk : ∀ m' n v1 v2 v3 c2 c3, Bd m0 m' b8 B at' n v1 v2 v3 c2 c3 -> Shape p B at' n -> k0 m') :
  ∀ (j k : Nat) (sl : Bool) (m : Mem) (v1 v2 v3 : AV) (c2 c3 : Nat -> AV), k + j = wQ -> Bd m0 m b8 B at' k v1 v2 v3 c2 c3 -> (k ≠ 0 -> (at' + 4 * (k - 1 : Nat)) / 1024 = at' / 1024) -> (∀ i, i < k -> zT (uX B at' i).k ≠ 6) -> (sl = true -> k ≠ 0) -> zIg r.b 0 at' b6 0 b8 0 wQ (j + 1) sl k m k0 := by
 have hp := h.p2
 intro j
 induction j with
 | zero =>
  intro k sl m v1 v2 v3 c2 c3 e hB hpg hs hsl
  show zHi _ _ _ _ _ _ _ _ _ _ _ _ _
  unfold zHi
  exact zB (by simp; omega) (hk m k v1 v2 v3 c2 c3 hB ⟨a0, a4, by omega, by omega, hpg (by omega), ar, fun i hi => hs i (by omega)⟩)
 | succ j ih =>
  intro k sl m v1 v2 v3 c2 c3 e hB hpg hs hsl
  show zHi _ _ _ _ _ _ _ _ _ _ _ _ _
  unfold zHi
  have ex : IntKind.wrap .u32 (at' + IntKind.wrap .u32 (IntKind.wrap .i64 (4 * (k : Int)))) = at' + 4 * k := by
   rw [zK (n := 4 * (k : Int)) (by omega) (by omega), yV (4 * (k : Int)), yV]
   have : at' < 65536 + 1 := by omega
   omega
  rw [ex, zK (n := (k : Int) + 1) (by omega) (by omega)]
  refine zG (by simp; omega) ?_
  have stop : k ≠ 0 -> k0 m := fun hk0 => hk m k v1 v2 v3 c2 c3 hB ⟨a0, a4, by omega, by omega, hpg hk0, ar, fun i hi => hs i (by omega)⟩
  have body : (at' + 4 * (k : Int)) / 1024 = at' / 1024 -> nK r.b 0 at' b6 0 b8 0 sl (at' + 4 * k) wQ k m (fun m29 => k0 m29) (fun x30 m31 => zIg r.b 0 at' b6 0 b8 0 wQ (j + 1) x30 ((k : Int) + 1) m31 k0) := fun hpk => by
   unfold nK
   have hev : xO p (at' + 4 * k) 4 := ⟨by simp, by omega, by unfold cE; omega⟩
   have hu : wC (at' + 4 * k) := ⟨by omega, by obtain ⟨_, _, e1, e2⟩ := hev; omega⟩
   refine nF (h.keep hB.K) hu (by unfold isI; omega) ?_
   rw [if_pos hev]
   have ew : ldv (fun i => B ((at' + 4 * (k : Int)).toNat + i)) (4 : Int).toNat = qO B at' k := rfl
   rw [ew]
   have wu : wC (qO B at' k) := zP5 _ _
   refine zUv wu.1 wu.2 fun c13 h13 => zT2 h13 fun b16 m17 hb16 K17 i17 => i17.lg fun c18 h18 => vQ h18 ?_
   have hB17 := hB.keep K17
   have eI : ofS (qO B at' k) = uX B at' k := rfl
   rw [eI] at i17
   rw [eI]
   -- one more word
   have more : ∀ sl' : Bool, sl' = sl -> oR r.b 0 at' b6 0 b8 0 sl' (qO B at' k) b16 0 (zT (uX B at' k).k) wQ k m17 (fun m23 => k0 m23) (fun x24 m25 => zIg r.b 0 at' b6 0 b8 0 wQ (j + 1) x24 ((k : Int) + 1) m25 k0) := fun sl' es => by
    unfold oR
    refine i17.lg fun c21 h21 => yUm hB17 (by omega) h21 (hW k hpk) fun m22 w1 w2 w3 d2 d3 hB22 => ?_
    have fin : k0 m22 := hk m22 (k + 1) w1 w2 w3 d2 d3 hB22 ⟨a0, a4, by omega, by omega, by rw [Nat.add_sub_cancel]; exact hpk, ar, fun i hi => hs i (by omega)⟩
    refine zD _ (fun _ => fin) fun _ => zD _ (fun _ => fin) fun c6 => ?_
    refine ih (k + 1) _ m22 w1 w2 w3 d2 d3 (by omega) hB22 (fun _ => by rw [Nat.add_sub_cancel]; exact hpk) (fun i hi => ?_) (fun _ => by omega)
    by_cases ci : i < k
    .exact hs i ci
    .have : i = k := by omega
     subst this
     simpa using c6
   refine zD _ (fun cs => ?_) fun cs => ?_
   .have hk0 := hsl cs
    have stop17 : k0 m17 := hk m17 k v1 v2 v3 c2 c3 hB17 ⟨a0, a4, by omega, by omega, hpg hk0, ar, fun i hi => hs i (by omega)⟩
    exact zD _ (fun _ => stop17) fun _ => zD _ (fun _ => stop17) fun _ => more sl rfl
   .exact more sl rfl
  refine zD _ (fun ck => ?_) fun ck => ?_
  .have hk0 : k ≠ 0 := by simp at ck; omega
   refine zD _ (fun cz => stop hk0) fun cz => body ?_
   have cz : (at' + 4 * (k : Int)).tmod 1024 ≠ 0 := by simpa using cz
   rw [qP (by omega)] at cz
   have := hpg hk0
   omega
  .have hk0 : k = 0 := by simp at ck; omega
   subst hk0
   exact body (by simp)
theorem yGn (h : IsRam m0 r p B M W) (a0 : 0 <= at') (a4 : at' % 4 = 0) (ar : at' < p * 1024) (hW : mQ B at') {wQ : Int} {k : (Nat -> AV) -> Bool -> Mem -> Prop}
  (hk : ∀ c m' n, Bk m' B c at' n (fun x => m0.obj x ≠ none) -> Shape p B at' n -> zA m0 m' -> k c true m') : F68 r.b 0 at' wQ m0 k := by
 unfold F68
 refine zW fun b2 m1 hb2 K1 e1 O1 => zB ?_ (qX (h.keep K1) (zB ?_ ?_))
 .rw [qP a0, a4]; rfl
 .simp; omega
 refine zVd fun b8 m9 y hb8 K8 e8 n8 r8 c8 => ?_
 generalize hmo : (if (if 32 < wQ then 32 else wQ) > 1 then (if 32 < wQ then 32 else wQ) else 1) = mo
 have hm : 1 <= mo /\ mo <= 32 := by
  subst hmo
  split <;> split <;> omega
 obtain ⟨mm, rfl⟩ : ∃ mm : Nat, mo = mm := ⟨mo.toNat, by omega⟩
 have hBd : Bd m1 m9 b8 B at' 0 (.flat (.slice none 0 0)) (.flat (.slice none 0 0)) (.flat (.slice none 0 0)) (fun _ => .junk) (fun _ => .junk) := by
  refine ⟨⟨y, e8, n8, r8, fun i hi => ?_⟩, .nil none _, .nil none _, fun i hi => by omega, .nil none _, fun i hi => by omega, K8, hb8, fun x hx => hx.elim, fun x hx => hx.elim, fun x hx => hx.elim, fun i hi => by omega⟩
  rw [c8 i hi]
  have : i = 0 \/ i = 1 \/ i = 2 \/ i = 3 := by have : i < 4 := hi; omega
  rcases this with rfl | rfl | rfl | rfl <;> rfl
 refine ⟨mm + 1, zNj (by omega) (by omega) (h.keep K1) a0 a4 ar hW (fun m35 n v1 v2 v3 c2 c3 hB hS => ?_) mm 0 false m9 _ _ _ _ _ (by omega) hBd (fun t => absurd rfl t) (fun i hi => by omega) (fun t => by cases t)⟩
 obtain ⟨z, ez, nz, rz, cz⟩ := hB.box
 have nz : z.n = 4 := nz
 rw [xH ez (by omega)]
 have e2 := hB.K b2 (by rw [e1]; simp)
 rw [e1] at e2
 rw [wR e2 rfl (by show 0 + 4 <= 4; omega), xH (zL _ _ _) (by show 0 + 4 <= 4; omega)]
 have hbk := hB.bk (v := sub z.c 0 4) fun j hj => by
  unfold sub; rw [if_pos hj, Nat.zero_add]; exact cz j hj
 refine hk _ _ n ?_ hS ?_
 .refine (hbk.fr (m' := m35.set b2 _) (T' := fun x => m0.obj x ≠ none) (Fr.set (by show m1.obj b2 ≠ none; rw [e1]; simp) _) fun x hx => .inl ?_).congr fun j hj => ?_
  .show m1.obj x ≠ none
   rw [K1 x hx]; exact hx
  .simp only [sub, zC]
   simp [hj]
 .exact yC.keeps (K1.trans hB.K) hb2 (yC.set _ _ _)
theorem yJb {m : Mem} {v : Nat -> AV} {n : Nat} {T : Nat -> Prop} (h : IsRam m r p B M W) (hb : Bk m B v at' n T) (hS : Shape p B at' n) {k : Bool -> Mem -> Prop} (hk : k true m) : F66 v r.b 0 m k := by
 unfold F66
 have hp := h.p2
 have ha0 := hS.a0
 have har := hS.r
 have hn2 := hS.n2
 refine zW fun b2 m1 hb2 K1 e1 O1 => ?_
 have hb1 : IsL m1 1 (v 1) n (cW B at') := hb.w.keep K1
 have e1c : ldA m1 b2 1 = fun k => k (v 1) := by
  funext k
  exact zBh e1 (by show 1 < 4; decide) rfl hb1.one k
 rw [e1c]
 dsimp only
 rw [vB hb1.r]
 have loop : ∀ (j i : Nat), i + j = n -> zWd r.b 0 b2 0 (v 1) n (j + 1) i m1 (fun m14 => (zA m m14 /\ k true m)) (fun x15 m16 => (zA m m16 /\ k x15 m)) := by
  intro j
  induction j with
  | zero =>
   intro i e
   show zIi _ _ _ _ _ _ _ _ _ _ _
   unfold zIi
   exact zB (by simp; omega) ⟨K1, hk⟩
  | succ j ih =>
   intro i e
   show zIi _ _ _ _ _ _ _ _ _ _ _
   unfold zIi
   rw [zK (n := (i : Int) + 1) (by omega) (by omega)]
   refine zG (by simp; omega) (zGi (x := qO B at' i) hb1.r (by omega) (by omega) (by rw [Int.toNat_natCast]; rfl) fun _ _ _ => ?_)
   obtain ⟨hev, _⟩ := hS.at (i := i) (by omega)
   have hu : wC (at' + 4 * (i : Int)) := by obtain ⟨_, _, e1, e2⟩ := hev; exact ⟨by omega, by omega⟩
   have ex : IntKind.wrap .u32 (at' + IntKind.wrap .u32 (IntKind.wrap .i64 (4 * (i : Int)))) = at' + 4 * i := by
    rw [zK (n := 4 * (i : Int)) (by omega) (by omega), yV (4 * (i : Int)), yV]
    have := hu.2
    omega
   rw [show (0 : Nat) + 0 = 0 from rfl, yW (n := at') e1 (by show 0 < 4; decide) hb.v0, ex]
   refine nF (h.keep K1) hu (by unfold isI; omega) ?_
   rw [if_pos hev, decide_eq_true hev]
   refine zB rfl (zB ?_ (ih (i + 1) (by omega)))
   show (qO B at' i != qO B at' i) = false
   simp
 exact ⟨n + 1, loop n 0 (by omega)⟩
end
def St.wt (S T : St) : St := { S with x := T.x, q := T.q }
theorem zVm (S T : St) (n : Int) : (gM (S.wt T) n).1 = (gM S n).1.wt T := by
 unfold gM
 have e : lN (S.wt T) = lN S := rfl
 rw [e]
 split
 .rfl
 split <;> rfl
theorem zBe (S T : St) (b : Bool) : wZ (S.wt T) b = (wZ S b).wt T := by unfold wZ; split <;> rfl
theorem zZu (S T : St) (c : Int) (r : Bool) : pG (S.wt T) c r = (pG S c r).wt T := by
 have h : tM (S.wt T) = (tM S).wt T := by
  unfold tM
  have e : zX4 (S.wt T) = zX4 S := rfl
  have e2 : (S.wt T).p 36 = S.p 36 := rfl
  rw [e, e2]
  split
  .split <;> rfl
  .rfl
 unfold pG
 rw [h]
 rfl
theorem kJ (S T : St) (n v : Int) : vK (S.wt T) n v = (vK S n v).wt T := by unfold vK; split <;> rfl
theorem zT1 (S T : St) (v c : Int) : zAm (S.wt T) v c = (zAm S v c).wt T := by unfold zAm zU9; split <;> rfl
theorem yE7 (S T : St) (n v : Int) : rJ (S.wt T) n v = (rJ S n v).wt T := by
 unfold rJ
 split
 .rfl
 split
 .rfl
 split
 .rfl
 split
 .rfl
 split
 .rfl
 split
 .rfl
 split <;> rfl
theorem ySk (S T : St) (x : In) (a t : Int) : onS (S.wt T) x a t = (onS S x a t).wt T := by
 unfold onS
 dsimp only
 split
 .split
  .exact kJ ((((S.putN 34 (S.n 35)).putN 35 (IntKind.wrap .u32 (S.n 35 + 4))).putN 35 (oG x (S.n 34) a)).putP 36 (zT x.k == 3)) T _ _
  .exact kJ (((S.putN 34 (S.n 35)).putN 35 (IntKind.wrap .u32 (S.n 35 + 4))).putP 36 (zT x.k == 3)) T _ _
 .split <;> rfl
theorem zCi (S T : St) (c : Int) (r : Bool) : gA (S.wt T) c r = (gA S c r).wt T := by
 unfold gA; rw [zZu, zVm, zBe]
theorem zVi (S T : St) (x : In) (a t : Int) : sW (S.wt T) x a t = (sW S x a t).wt T := by
 unfold sW
 split
 .rw [zVm, zBe]
 .rw [zVm, ySk, zBe]
theorem zLk (S T : St) (va n : Int) (b : Bool) : zJ (S.wt T) va n b = zJ S va n b := rfl
theorem yDp (p : Nat) (B : Nat -> Int) (S T : St) (x : In) : vJ p B (S.wt T) x = ((vJ p B S x).1.wt T, (vJ p B S x).2) := by
 unfold vJ
 split
 .unfold pA
  rw [show uV (S.wt T) x = uV S x from rfl, zLk]
  dsimp only
  split
  .rw [zT1]
  split
  .split
   .exact Prod.ext (kJ ((S.putP 37 true).putN 38 (zJ S (uV S x) (zU x.k) false).1) T _ _) rfl
   .exact Prod.ext (kJ S T _ _) rfl
  .rfl
 split
 .unfold vU
  rw [show uV (S.wt T) x = uV S x from rfl, zLk]
  dsimp only
  split
  .rw [zT1]
  split
  .rename_i h
   have h : x.k = 75 /\ ¬ (S.p 37 = true /\ S.n 38 = (zJ S (uV S x) (zU x.k) true).1) := h
   rw [if_pos h, kJ]; rfl
  rename_i h
  have h : ¬ (x.k = 75 /\ ¬ (S.p 37 = true /\ S.n 38 = (zJ S (uV S x) (zU x.k) true).1)) := h
  rw [if_neg h]
  split
  .by_cases c75 : x.k = 75
   .simp only [c75, if_true, true_or]
    rw [kJ]; rfl
   .simp only [c75, if_false, false_or]
    have e : zCl (S.wt T) = zCl S := rfl
    rw [e]
    split <;> rfl
  .rfl
 split
 .dsimp only
  split
  .rfl
  .unfold iV
   split
   .exact Prod.ext (kJ _ _ _ _) rfl
   split
   .exact Prod.ext (yE7 _ _ _ _) rfl
   split <;> rfl
 .unfold xW
  dsimp only
  split
  .exact Prod.ext (kJ _ _ _ _) rfl
  .rfl
theorem zVk (p : Nat) (B : Nat -> Int) (S T : St) (x : In) : vF p B (S.wt T) x = ((vF p B S x).1.wt T, (vF p B S x).2) := by
 unfold vF
 rw [show sP (S.wt T) x = sP S x from rfl, yDp]
 dsimp only
 split
 .exact Prod.ext (zCi _ _ _ _) rfl
 split
 .exact Prod.ext (zCi _ _ _ _) rfl
 .exact Prod.ext (zVi _ _ _ _ _) rfl
theorem zUy (p : Nat) (B : Nat -> Int) (S T : St) : xN p B (S.wt T) = ((xN p B S).1.wt T, (xN p B S).2) := by
 unfold xN
 rw [show xD (S.wt T) = xD S from rfl, show (S.wt T).n 34 = S.n 34 from rfl, zLk]
 dsimp only
 split
 .exact Prod.ext (zCi _ _ _ _) rfl
 split
 .rw [zT1]; exact Prod.ext (zCi _ _ _ _) rfl
 split
 .exact zVk _ _ _ _ _
 .exact Prod.ext (zCi _ _ _ _) rfl
theorem Okx.wt {p : Nat} {S : St} {x : In} (h : Okx p S x) (T : St) : Okx p (S.wt T) x := ⟨h.l, h.s, h.z, h.t⟩
theorem Calm.wt {S : St} (h : Calm S) (T : St) : Calm (S.wt T) := ⟨h.w, h.l⟩
theorem Good.wt {p : Nat} {B : Nat -> Int} {S : St} (h : Good p B S) (T : St) : Good p B (S.wt T) := ⟨h.c.wt T, h.r0, h.dev, fun a b c => ⟨(h.x a b c).1, (h.x a b c).2.wt T⟩⟩
theorem zZj (S T : St) (x : In) : vM (S.wt T) x = (vM S x).wt T := by
 unfold vM
 rw [show vE (S.wt T) (yJ x) = (vE S (yJ x)).wt T from rfl, zVm]
 exact zBe (pX (gM (vE S (yJ x)) 1).1) T false
theorem zHu {p : Nat} {B : Nat -> Int} {S : St} {x : In} (hx : FX x) (hp : yX x = true) (r0 : S.n 0 = 0) (ok : S.ok) (hz : x.k = 1 -> x.d = 0) : vF p B S x = (vM S x, B, -1) := by
 have hcl : zT x.k = 1 := by unfold yX at hp; simp at hp; exact hp.2
 have hr : wN x = true := by unfold yX at hp; simp at hp; exact hp.1
 have hkd : x.k = 1 \/ x.k = 47 := by
  have hk' := gH hx.k
  rcases hk' with t | t | t | t | t | t | t | t | t | t | t | t | t | t | t | t | t | t | t | t | t | t <;> first | (left; exact t) | (right; exact t) | (exfalso; rw [t] at hcl; revert hcl; decide)
 have href : sP S x = -1 := by
  unfold sP kE
  rw [hcl, hr]
  rcases hkd with t | t <;> rw [t] <;> simp
 unfold vF
 rw [href]
 have hact : vJ p B S x = (xW S x, B, -1, false) := by unfold vJ; rw [hcl]; simp
 rw [hact]
 simp only [ne_eq, not_true_eq_false, if_false]
 refine Prod.ext ?_ rfl
 show sW (xW S x) x _ _ = vM S x
 unfold sW vM
 have n60 : x.k ≠ 60 := by omega
 rw [if_neg n60]
 congr 1
 -- registers
 have hS : xW S x = vE S (yJ x) := by
  refine St.ext (fun i => ?_) (fun i => ?_) ?_ ?_
  .show _ = if i < 34 then xC (rg S) (yJ x) i else S.n i
   rcases hkd with t | t
   .have hd := hz t
    unfold xW
    rw [if_neg (by omega), yQy hp (by omega)]
    by_cases c : i < 34
    .rw [if_pos c]
     show S.n i = xS (xS (rg S) ⟨1, 34, 0, 0, IntKind.wrap .u32 x.h⟩) ⟨sS x.k, x.d, x.t, 34, 0⟩ i
     have e1 : sS x.k = 9 := by rw [t]; decide
     rw [e1, hd]
     have e2 : ∀ f : Nat -> Int, xS f ⟨9, 0, x.t, 34, 0⟩ = f := fun f => by unfold xS; simp
     rw [e2, zE1, if_neg (by omega)]
     unfold rg; rw [if_pos c]
    .rw [if_neg c]
   .unfold xW
    rw [if_pos t, yCh hp (by omega)]
    have e1 : sS x.k = 3 := by rw [t]; decide
    have e2 : zLl x = sxV x.i := by unfold zLl; rw [if_neg (by omega)]
    rw [e1, e2]
    by_cases c : i < 34
    .rw [if_pos c, yKc (by show (1 : Int) <= 3; decide) (by show (3 : Int) <= 16; decide) (by show x.s.toNat < 34; have := hx.s1; omega) rfl c]
     have ht0 := hx.t0
     unfold yG3 vK
     show _ = (if 0 < x.t then upd (rg S) x.t.toNat (zAt 3 (rg S x.s.toNat) (sxV x.i) 0) else rg S) i
     have er : rg S x.s.toNat = S.n x.s.toNat := by unfold rg; rw [if_pos (by have := hx.s1; omega)]
     by_cases ct : x.t = 0
     .rw [if_pos ct, if_neg (by omega)]; unfold rg; rw [if_pos c]
     .rw [if_neg ct, if_pos (by omega), er]
      show upd S.n x.t.toNat _ i = upd (rg S) x.t.toNat _ i
      unfold upd
      split
      .rfl
      .unfold rg; rw [if_pos c]
    .rw [if_neg c]
     unfold vK
     have ht0 := hx.t0
     have ht1 := hx.t1
     split
     .rfl
     .show upd S.n _ _ i = _
      unfold upd; rw [if_neg (by omega)]
  .unfold xW vK
   split
   .split <;> rfl
   .rfl
  .exact (show Tl S (xW S x) by
    unfold xW; split
    .exact yB3 _ _ _
    .exact .refl _).1
  .exact (show Tl S (xW S x) by
    unfold xW; split
    .exact yB3 _ _ _
    .exact .refl _).2
 rw [hS]
 unfold onS pX
 have ht : oJ x (S.n x.s.toNat) (S.n x.t.toNat) = false := by
  unfold oJ
  rw [if_neg (by omega), if_neg (by omega), if_neg (by omega)]
 have n8 : x.k ≠ 8 := by omega
 rw [ht, hcl, if_neg n8]
 rfl
structure Sp (S T : St) : Prop where
 a : S.n 49 = T.n 49
 u : S.n 51 = T.n 51
 t : ∀ i, 55 <= i -> i < 71 -> S.n i = T.n i
theorem Sp.refl (S : St) : Sp S S := ⟨rfl, rfl, fun _ _ _ => rfl⟩
theorem Sp.trans {S T U : St} (h : Sp S T) (h' : Sp T U) : Sp S U := ⟨h.a.trans h'.a, h.u.trans h'.u, fun i a b => (h.t i a b).trans (h'.t i a b)⟩
theorem zPa {S T : St} (h : Sp S T) (va : Int) : ∀ d i : Nat, d + i <= 8 -> wX S va d i = wX T va d i
 | 0, _, _ => rfl
 | d + 1, i, hi => by
  have e : tH S va i = tH T va i := by unfold tH; rw [h.t (55 + i * 2) (by omega) (by omega), h.t (56 + i * 2) (by omega) (by omega), h.a]
  show (if tH S va i = true then (i : Int) else wX S va d (i + 1)) = if tH T va i = true then (i : Int) else wX T va d (i + 1)
  rw [e, zPa h va d (i + 1) (by omega)]
theorem Sp.lies {S T : St} (h : Sp S T) (va n : Int) (b : Bool) : zJ S va n b = zJ T va n b := by
 unfold zJ
 have eu : sQ S = sQ T := by unfold sQ; rw [h.u]
 have el : rY S va b = rY T va b := by
  unfold rY
  rw [zPa h va 8 0 (by omega)]
  have hr := oT T va 8 0
  dsimp only
  split
  .rfl
  .rename_i hk
   rw [h.t (56 + (wX T va 8 0).toNat * 2) (by omega) (by omega)]
 rw [eu, el]
end Go.Proofs.YtkiggdgphbkneaaGreat.Am
