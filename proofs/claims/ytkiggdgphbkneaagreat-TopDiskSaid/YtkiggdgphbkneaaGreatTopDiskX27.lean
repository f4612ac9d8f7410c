/- A machine with a program: made, capped, run in parts, looked at. Conditions: a row of steps that is given ahead. Rows of steps put together. No program in sight. Programs that keep out of coprocessor 0: what a step asks and does. Conditions: kernel's mode, not -/
import Derived.Test.YtkiggdgphbkneaaGreatTopDiskX26
namespace Go.Proofs.YtkiggdgphbkneaaGreat.Am
set_option linter.unusedVariables false
set_option linter.unusedSimpArgs false
set_option maxRecDepth 100000
def eY (n0 : Nat) (f0 : Nat -> Int) (n1 : Nat) (f1 : Nat -> Int) : Nat -> Int := fun j => if 1024 <= j /\ j < 1024 + n0 then f0 (j - 1024) else if 384 <= j /\ j < 384 + n1 then f1 (j - 384) else 0
section
variable {m : Mem}
theorem zTj {v0 v1 : AV} {n0 n1 : Nat} {f0 f1 : Nat -> Int} (h0 : IsR m 1 v0 n0 (cB f0)) (h1 : IsR m 1 v1 n1 (cB f1)) (hn0 : n0 <= 3072) (hn1 : n1 <= 640) {k : AV -> Mem -> Prop} (hk : ∀ b m', m.obj b = none -> zA m m' -> IsL m' 1 (.sl b 0 4096 (.ex 4096)) 4096 (cB (eY n0 f0 n1 f1)) -> k (.sl b 0 4096 (.ex 4096)) m') : F33 v0 v1 m k := by
 unfold F33
 refine zHh (by omega) (by omega) (by decide) fun b m2 hb K2 e2 O2 => ?_
 have L2 : IsL m2 1 (.sl b 0 4096 (.ex 4096)) 4096 (fun _ => .flat (.int .u8 0)) := (IsL.row (esz := 1) e2 (by simp) rfl).congr fun i hi => zB0 _ i
 refine zWh (l := 384) L2 (h1.keep K2) rfl (by omega) fun m5 u5 h5 F5 _ => ?_
 have F5' : Fr (wM b) m2 m5 := F5.mono fun x _ t => t.symm
 have K5 : zA m m5 := Fr.keeps K2 F5' fun x hx => by cases hx; exact hb
 refine zWh (l := 1024) h5 (h0.keep K5) rfl (by omega) fun m8 u8 h8 F8 _ => ?_
 have F8' : Fr (wM b) m5 m8 := F8.mono fun x _ t => t.symm
 refine hk b m8 hb (Fr.keeps K5 F8' fun x hx => by cases hx; exact hb) (h8.congr fun i hi => ?_)
 show (if 1024 * 1 <= i /\ i < (1024 + n0) * 1 then AV.flat (.int .u8 (f0 (i - 1024 * 1))) else if 384 * 1 <= i /\ i < (384 + n1) * 1 then AV.flat (.int .u8 (f1 (i - 384 * 1))) else AV.flat (.int .u8 0)) = AV.flat (.int .u8 (if 1024 <= i /\ i < 1024 + n0 then f0 (i - 1024) else if 384 <= i /\ i < 384 + n1 then f1 (i - 384) else 0))
 simp only [Nat.mul_one]
 by_cases c1 : 1024 <= i /\ i < 1024 + n0
 .rw [if_pos c1, if_pos c1]
 .rw [if_neg c1, if_neg c1]
  by_cases c2 : 384 <= i /\ i < 384 + n1
  .rw [if_pos c2, if_pos c2]
  .rw [if_neg c2, if_neg c2]
theorem yCf {n0 n1 : Nat} {f0 f1 : Nat -> Int} (h0 : ∀ i, 0 <= f0 i /\ f0 i < 256) (h1 : ∀ i, 0 <= f1 i /\ f1 i < 256) (j : Nat) : 0 <= eY n0 f0 n1 f1 j /\ eY n0 f0 n1 f1 j < 256 := by
 unfold eY
 split
 .exact h0 _
 split
 .exact h1 _
 .omega
def AtF (m0 : Mem) (C : Nat -> Bool) (e : Nat) (q : BB) (c p : Nat) (D : Dv) (n : Int) (S : St) (B : Nat -> Int) (m : Mem) : Prop :=
 ∃ cap, AtE m0 C e q c p D (.flat (.slice none 0 0)) n cap S B m
variable {m0 : Mem} {C : Nat -> Bool} {e : Nat} {q : BB} {c : Nat} {p : Nat} {D : Dv} {n : Int} {S : St} {B : Nat -> Int}
theorem zX1 {wQ : Int} {v1 v2 : AV} {nn nd : Nat} {f fd : Nat -> Int} (h1 : IsS m 1 v1 nn (cB f)) (hf : ∀ i, i < nn -> 0 <= f i /\ f i < 256) (hn : (nn : Int) <= 4096) (h2 : IsR m 1 v2 nd (cB fd)) (hfd : ∀ i, i < nd -> 0 <= fd i /\ fd i < 256) (hnd : nd <= 4096) (C : Nat -> Bool) {k : AV -> Int -> Mem -> Prop}
  (hk : ∀ e q c m', AtF m C e q c 4 { nd := (nd + 63) / 64 * 64, dk := uQ nd fd } (clN wQ) St0 (uQ nn f) m' -> k (.ptr e 0) 0 m') : F34 4 v1 v2 wQ m k := by
 refine zQf (by omega) h1 hf (by omega) h2 hfd hnd fun e q c Sc m' M K fe fb fs => hk e q c m' ⟨32, [], Sc, 0, 0, { St0 with x := cY q.b c 32 0 0, q := 5 }, fun _ => false, 0, rfl, rfl, ⟨⟨M, yBx, ⟨rfl, rfl⟩, fun en hen => by simp at hen, fun j _ hj => by simp at hj⟩, K, fun x hx => ?_⟩⟩
 rcases hx with (hx | hx) | hx | hx
 .rw [hx]; exact fe
 .exact fb x hx
 .exact hx.elim
 .exact fs x hx
theorem AtF.bus (h : AtF m0 C e q c p D n S B m) {k : AV -> Mem -> Prop} (hk : k (.ptr q.b 0) m) : F29 e 0 m k := by
 unfold F29
 obtain ⟨cap, l, Sc, made, used, S1, M, u, hn, hp, E⟩ := h
 rw [show (0 : Nat) + 73 = 73 + 0 from rfl, vH (j := 0) E.h.mac.s E.h.q0 E.h.x0 rfl]
 exact hk
theorem AtF.ram (h : AtF m0 C e q c p D n S B m) {k : AV -> Mem -> Prop} (hk : k (.ptr q.r.b 0) m) : F30 q.b 0 m k := by
 obtain ⟨cap, l, Sc, made, used, S1, M, u, hn, hp, E⟩ := h
 exact rV E.h.mac.b hk
theorem AtF.state (h : AtF m0 C e q c p D n S B m) {k : (Nat -> AV) -> Mem -> Prop} (hk : ∀ cc, (∀ i, i < 73 -> cc i = stc S i) -> k cc m) : F26 e 0 m k := by
 obtain ⟨cap, l, Sc, made, used, S1, M, u, hn, hp, E⟩ := h
 refine zA8 E.h.mac.s fun cc hcc => hk cc fun i hi => ?_
 rw [hcc i hi]
 unfold stc
 rw [hn, hp]
theorem AtF.cap (h : AtF m0 C e q c p D n S B m) {x : Int} {k : Mem -> Prop} (hk : ∀ m', AtF m0 C e q c p D n S B m' -> k m') : F24 e 0 x m k := by
 unfold F24
 obtain ⟨cap, l, Sc, made, used, S1, M, u, hn, hp, E⟩ := h
 rw [show (0 : Nat) + 75 = 73 + 2 from rfl]
 refine zRc E.h.mac.s (by rw [E.h.mac.sq]; decide) fun m' h' O' => hk m' ?_
 have ex : upd S1.x 2 (vi (if (if 32 < x then 32 else x) > 1 then (if 32 < x then 32 else x) else 1)) = cY q.b c (if (if 32 < x then 32 else x) > 1 then (if 32 < x then 32 else x) else 1) made used := by
  rw [E.h.mac.sx]
  funext j
  unfold upd cY
  match j with
  | 0 => rfl
  | 1 => rfl
  | 2 => rfl
  | 3 => rfl
  | 4 => rfl
  | j + 5 => rfl
 have hc := E.h.cpu.st h' E.h.ok O'.fr1
 have F' : Fr (xY e q) m m' := yL O'.fr1
 have hsf : ∀ x, Sc x -> ¬ xY e q x := fun x hx hf => hf.elim (fun t => E.h.mac.ce (t ▸ hx)) fun t => E.h.mac.cb x t hx
 refine ⟨_, l, Sc, made, used, { S1 with x := upd S1.x 2 (vi (if (if 32 < x then 32 else x) > 1 then (if 32 < x then 32 else x) else 1)) }, M, u, hn, hp, ⟨⟨⟨h', ex, E.h.mac.sq, hc.b, E.h.mac.c.fr F' hsf, E.h.mac.de, E.h.mac.dw, E.h.mac.ce, E.h.mac.cb, E.h.mac.cw⟩, E.h.ok, E.h.st, fun en hen => ?_, E.h.mks⟩, Fr.keeps E.K F' fun x hx => E.f x (.inl hx), E.f⟩⟩
 obtain ⟨k1, b1, s1, c1⟩ := E.h.blk en hen
 exact ⟨k1, b1.fr (F'.mono fun x _ hx => .inl (.inl hx)) fun x hx => .inl hx, s1, c1⟩
theorem AtF.Run (hp : p <= 64) {X : Nat -> St} {Y : Nat -> Nat -> Int} {N : Nat} (hN : N <= 1000000) (hX : ∀ g, g < N -> StepC C p D (X g) (Y g) (X (g + 1)) (Y (g + 1))) (h : AtF m0 C e q c p D n (X 0) (Y 0) m)
  {k : Int -> Int -> Mem -> Prop} (hk : ∀ m', AtF m0 C e q c p D n (X N) (Y N) m' -> k 1 N m') : F25 e 0 N m k := by
 obtain ⟨cap, h⟩ := h
 exact yT8 hp hN hX h fun m' h' => hk m' ⟨cap, h'⟩
theorem eO {v0 v2 : AV} {n0 nd : Nat} {f0 fd : Nat -> Int} (h0 : IsR m 1 v0 n0 (cB f0)) (hf0 : ∀ i, 0 <= f0 i /\ f0 i < 256) (hn0 : n0 <= 3072) (h2 : IsR m 1 v2 nd (cB fd)) (hfd : ∀ i, i < nd -> 0 <= fd i /\ fd i < 256) (hnd : nd <= 4096) {wQ : Int} (C : Nat -> Bool) {k : AV -> Mem -> Prop}
  (hk : ∀ m1 e q c m', zA m m1 -> AtF m1 C e q c 4 { nd := (nd + 63) / 64 * 64, dk := uQ nd fd } (clN wQ) St0 (uQ 4096 (eY n0 f0 0 fun _ => 0)) m' -> k (.ptr e 0) m') : F23 v0 v2 wQ m k := by
 unfold F23
 refine zTj h0 (n1 := 0) (f1 := fun _ => 0) (.nil none _) hn0 (by omega) fun b m2 hb2 K2 L2 => ?_
 refine zX1 L2.s (fun i _ => yCf hf0 (fun _ => by omega) i) (by omega) (h2.keep K2) hfd hnd C fun e q c m5 h5 => ?_
 have nl : ∀ (b o : Nat) (K : Bool -> Prop), pZ (.ptr b o) K = K false := fun _ _ _ => rfl
 rw [nl]
 refine zB rfl ?_
 refine zB rfl ?_
 dsimp only [yD]
 refine h5.bus ?_
 rw [nl]
 refine zB rfl (h5.bus ?_)
 dsimp only
 refine h5.ram ?_
 rw [nl]
 exact zB rfl (hk m2 e q c m5 K2 h5)
end
inductive Path (C : Nat -> Bool) (p : Nat) (D : Dv) : Nat -> St -> (Nat -> Int) -> St -> (Nat -> Int) -> Prop
 | nil (S : St) (B : Nat -> Int) : Path C p D 0 S B S B
 | cons {k : Nat} {S S1 S2 : St} {B B1 B2 : Nat -> Int} (h : StepC C p D S B S1 B1) (t : Path C p D k S1 B1 S2 B2) : Path C p D (k + 1) S B S2 B2
section
variable {C : Nat -> Bool} {p : Nat} {D : Dv}
theorem Path.one {S S1 : St} {B B1 : Nat -> Int} (h : StepC C p D S B S1 B1) : Path C p D 1 S B S1 B1 := .cons h (.nil _ _)
theorem Path.chain {k : Nat} {S S' : St} {B B' : Nat -> Int} (h : Path C p D k S B S' B') : ∃ (X : Nat -> St) (Y : Nat -> Nat -> Int), X 0 = S /\ Y 0 = B /\ X k = S' /\ Y k = B' /\ ∀ g, g < k -> StepC C p D (X g) (Y g) (X (g + 1)) (Y (g + 1)) := by
 induction h with
 | nil S B => exact ⟨fun _ => S, fun _ => B, rfl, rfl, rfl, rfl, fun g hg => by omega⟩
 | @cons k S S1 S2 B B1 B2 h t ih =>
  obtain ⟨X, Y, x0, y0, xk, yk, hs⟩ := ih
  refine ⟨fun g => match g with | 0 => S | g + 1 => X g, fun g => match g with | 0 => B | g + 1 => Y g, rfl, rfl, xk, yk, fun g hg => ?_⟩
  match g with
  | 0 => show StepC C p D S B (X 0) (Y 0); rw [x0, y0]; exact h
  | g + 1 => exact hs g (by omega)
variable {m0 m : Mem} {e : Nat} {q : BB} {c : Nat} {n : Int} {S S' : St} {B B' : Nat -> Int} {N : Nat}
theorem AtF.go (hp : p <= 64) (hN : N <= 1000000) (t : Path C p D N S B S' B') (h : AtF m0 C e q c p D n S B m) {k : Int -> Int -> Mem -> Prop} (hk : ∀ m', AtF m0 C e q c p D n S' B' m' -> k 1 N m') : F25 e 0 N m k := by
 obtain ⟨X, Y, x0, y0, xk, yk, hs⟩ := t.chain
 subst x0 y0 xk yk
 exact AtF.Run hp hN hs h hk
end
theorem iN (w : Int) (q : Nat) : by8 w q = w / 2 ^ (8 * q) % 256 := by
 unfold by8
 rw [Int.fdiv_eq_ediv_of_nonneg _ (by exact Int.le_of_lt (Int.pow_pos (by decide)))]
 simp [IntKind.wrap, IntKind.bits, IntKind.signed]
theorem zAz {x y : Int} (h0 : 0 <= x) (h1 : x < 16777216) (g0 : 0 <= y) (g1 : y < 256) : bits .or .u32 (IntKind.wrap .u32 (x * 256)) (IntKind.wrap .u32 y) = x * 256 + y := by
 rw [yV (x * 256), yV y, Int.emod_eq_of_lt (by omega) (by omega), Int.emod_eq_of_lt g0 (by omega)]
 by_cases c : x * 256 % 1024 = 0 /\ y < 1024
 .exact zTv (by omega) (by omega) c.1 g0 c.2
 .have h := iO (x := x * 256) (y := y) ⟨by omega, by omega⟩ ⟨g0, by omega⟩
  unfold vI at h
  rw [h]
  have e1 : (x * 256).toNat = 2 ^ 8 * x.toNat := by omega
  have e2 : y.toNat < 2 ^ 8 := by omega
  rw [e1, <- Nat.two_pow_add_eq_or_of_lt e2]
  omega
theorem zOr {f : Nat -> Int} {w : Int} (hw : wC w) (h0 : f 0 = by8 w 3) (h1 : f 1 = by8 w 2) (h2 : f 2 = by8 w 1) (h3 : f 3 = by8 w 0) : ldv f 4 = w := by
 obtain ⟨w0, w1⟩ := hw
 have b0 := iN w 3
 have b1 := iN w 2
 have b2 := iN w 1
 have b3 := iN w 0
 simp only [Nat.reduceMul, Int.reducePow] at b0 b1 b2 b3
 show bits .or .u32 (IntKind.wrap .u32 (bits .or .u32 (IntKind.wrap .u32 (bits .or .u32 (IntKind.wrap .u32 (bits .or .u32 (IntKind.wrap .u32 (0 * 256)) (IntKind.wrap .u32 (f 0)) * 256)) (IntKind.wrap .u32 (f 1)) * 256)) (IntKind.wrap .u32 (f 2)) * 256)) (IntKind.wrap .u32 (f 3)) = w
 rw [h0, h1, h2, h3, b0, b1, b2, b3]
 have s1 := zAz (x := 0) (y := w / 16777216 % 256) (by omega) (by omega) (by omega) (by omega)
 have s2 := zAz (x := 0 * 256 + w / 16777216 % 256) (y := w / 65536 % 256) (by omega) (by omega) (by omega) (by omega)
 have s3 := zAz (x := (0 * 256 + w / 16777216 % 256) * 256 + w / 65536 % 256) (y := w / 256 % 256) (by omega) (by omega) (by omega) (by omega)
 have s4 := zAz (x := ((0 * 256 + w / 16777216 % 256) * 256 + w / 65536 % 256) * 256 + w / 256 % 256) (y := w / 1 % 256) (by omega) (by omega) (by omega) (by omega)
 rw [s1, s2, s3, s4]
 omega
theorem zG7 {l : List In} {i : Nat} (hi : i < l.length) {B : Nat -> Int} {a : Int} (a0 : 0 <= a) (hB : ∀ t, t < 4 -> B (a.toNat + t) = pK l (4 * i + t)) (hw : wC (zBu (jW l i))) : mZ B a 4 = zBu (jW l i) := by
 have hb : ∀ t, t < 4 -> pK l (4 * i + t) = by8 (zBu (jW l i)) (3 - t) := fun t ht => by
  unfold pK
  rw [show (4 * i + t) / 4 = i by omega, show (4 * i + t) % 4 = t by omega]
 unfold mZ
 refine zOr hw ?_ ?_ ?_ ?_
 .exact (hB 0 (by omega)).trans (hb 0 (by omega))
 .exact (hB 1 (by omega)).trans (hb 1 (by omega))
 .exact (hB 2 (by omega)).trans (hb 2 (by omega))
 .exact (hB 3 (by omega)).trans (hb 3 (by omega))
theorem zHz {B : Nat -> Int} {a : Int} (hB : ∀ t, t < 4 -> B (a.toNat + t) = 0) : mZ B a 4 = 0 := by
 unfold mZ
 have e8 : ∀ q, by8 0 q = 0 := fun q => by rw [iN]; simp
 exact zOr (w := 0) ⟨by omega, by omega⟩ ((hB 0 (by omega)).trans (e8 3).symm) ((hB 1 (by omega)).trans (e8 2).symm) ((hB 2 (by omega)).trans (e8 1).symm) ((hB 3 (by omega)).trans (e8 0).symm)
theorem zO9 : ofS 0 = oW := by decide +kernel
theorem zHb {x : In} (hi : 0 <= x.i) (h : wN x = true) : ofS (zBu x) = x := by
 unfold zBu zAa
 rw [if_pos h]
 exact yHj ((tR x hi).1 h)
theorem yBm (x : In) : wC (zBu x) := by
 unfold zBu zAa
 split
 .exact wW _ _
 .exact (⟨by omega, by omega⟩ : wC 0)
structure Q (S : St) (R : Nat -> Int) (pc nx : Int) (sl : Bool) (t : Nat) : Prop where
 ok : S.ok
 reg : ∀ i, i < 34 -> S.n i = R i
 r0 : R 0 = 0
 pc : S.n 34 = pc
 nx : S.n 35 = nx
 sl : S.p 36 = sl
 w : S.p 71 = false
 st : S.n 51 = 0
 cs : S.n 52 = 0
 cm : S.n 50 = 0
 ct : S.n 48 = t
 tm : S.n 72 = t
section
variable {S : St} {R : Nat -> Int} {pc nx : Int} {sl : Bool} {t : Nat}
theorem yE4 (x : Int) : bits .and .u32 0 x = 0 := by
 simp [bits, IntKind.wrap, IntKind.bits, IntKind.signed]
 show ((0#32 &&& BitVec.ofInt 32 x).toNat : Int) % _ = 0
 rw [BitVec.zero_and]; rfl
theorem yM4 (x : Int) : bits .andNot .u32 0 x = 0 := by
 rw [zJz]
 have : bv 0 = 0#32 := rfl
 rw [this, BitVec.zero_and]; rfl
theorem Q.calm (h : Q S R pc nx sl t) : Calm S := ⟨h.w, by rw [h.cs, yM4]⟩
theorem Q.usr (h : Q S R pc nx sl t) : sQ S = false := by unfold sQ; rw [h.st, yE4]; rfl
theorem Q.nt (h : Q S R pc nx sl t) : xD S = false := by
 unfold xD yE9
 rw [h.st, h.cs, yE4, yE4]; rfl
theorem Q0 : Q St0 (fun _ => 0) 2147484672 2147484676 false 0 :=
 ⟨yBx, fun i hi => by show (if i = 34 then _ else if i = 35 then _ else if i = 54 then _ else (0 : Int)) = 0; rw [if_neg (by omega), if_neg (by omega), if_neg (by omega)], rfl, rfl, rfl, rfl, rfl, rfl, rfl, rfl, rfl, rfl⟩
theorem yAz (hu : sQ S = false) {a : Int} {n : Int} (hn : n = 1 \/ n = 4) (a0 : 0 <= a) (a1 : a < 536870912) (ha : a % n = 0) {b : Bool} : zJ S (2147483648 + a) n b = (a, -1, false) := by
 unfold zJ
 have e : (if n ≠ 1 /\ n ≠ 2 then (4 : Int) else n) = n := by rcases hn with rfl | rfl <;> rfl
 have low29 := wE (2147483648 + a) (by omega) (by omega) 29 (by decide)
 have low29 : bits .and .u32 (2147483648 + a) 536870911 = (2147483648 + a) % 536870912 := by simpa using low29
 rw [e, hu]
 dsimp only
 rw [if_neg (by
  rintro (t | ⟨_, t⟩)
  .rcases hn with rfl | rfl <;> omega
  .cases t), if_pos ⟨by omega, by omega⟩, low29]
 congr 1
 omega
theorem Q.go (h : Q S R pc nx sl t) (ht : t < 1000000) : (gM S 1).1 = (S.putN 72 (t + 1 : Nat)).putN 48 (t + 1 : Nat) := by
 unfold gM
 have hm : ¬ lN S <= 1 := by
  unfold lN
  rw [h.cm, h.ct]
  split <;> omega
 have w1 : IntKind.wrap .u32 (1 : Int) = 1 := rfl
 have e1 : IntKind.wrap .i64 ((t : Int) + 1) = ((t + 1 : Nat) : Int) := by rw [zK (by omega) (by omega)]; omega
 have e2 : IntKind.wrap .u32 ((t : Int) + 1) = ((t + 1 : Nat) : Int) := by rw [yV]; omega
 rw [if_neg (by decide), if_neg hm, h.tm, h.ct, w1, e1, e2]
theorem yQ9 (S : St) (i : Nat) : (pX S).n i = if i = 35 then IntKind.wrap .u32 (S.n 35 + 4) else if i = 34 then S.n 35 else S.n i := by
 unfold pX
 show ((S.putN 34 (S.n 35)).putN 35 (IntKind.wrap .u32 (S.n 35 + 4))).n i = _
 by_cases c : i = 35
 .subst c; rw [tV, if_pos rfl]
 .rw [yM _ _ c, if_neg c]
  by_cases c2 : i = 34
  .subst c2; rw [tV, if_pos rfl]
  .rw [yM _ _ c2, if_neg c2]
theorem Q.lift (h : Q S R pc nx sl t) (ht : t < 1000000) {x : In} (hx0 : 0 <= x.i) : Q (vM S x) (fun i => xC (rg S) (yJ x) i) nx (IntKind.wrap .u32 (nx + 4)) false (t + 1) := by
 obtain ⟨len2, opr⟩ := zC9 (x := x) hx0
 have okL := zNp (l := yJ x) h.ok opr
 have hL : Q (vE S (yJ x)) (fun i => xC (rg S) (yJ x) i) pc nx sl t := by
  have hi : ∀ i, 34 <= i -> (vE S (yJ x)).n i = S.n i := fun i hi => by
   show (if i < 34 then _ else S.n i) = _
   rw [if_neg (by omega)]
  refine ⟨okL, fun i hi => ?_, ?_, (hi 34 (by omega)).trans h.pc, (hi 35 (by omega)).trans h.nx, h.sl, h.w, (hi 51 (by omega)).trans h.st, (hi 52 (by omega)).trans h.cs, (hi 50 (by omega)).trans h.cm, (hi 48 (by omega)).trans h.ct, (hi 72 (by omega)).trans h.tm⟩
  .show (if i < 34 then xC (rg S) (yJ x) i else S.n i) = _
   rw [if_pos hi]
  .show xC (rg S) (yJ x) 0 = 0
   by_cases c : xC (rg S) (yJ x) 0 = rg S 0
   .rw [c]; show (if (0 : Nat) < 34 then S.n 0 else 0) = 0; rw [if_pos (by omega), h.reg 0 (by omega)]; exact h.r0
   .obtain ⟨DD, hD⟩ := zUe hx0 (rg S)
    exact absurd rfl (hD 0 (by omega) c).2.1
 have eG := hL.go ht
 have okG := zBk okL 1
 have okR : (vM S x).ok := jH (zW4 okG) false
 have hA : ∀ i, (pX (gM (vE S (yJ x)) 1).1).n i = if i = 35 then IntKind.wrap .u32 (nx + 4) else if i = 34 then nx else if i = 48 \/ i = 72 then ((t + 1 : Nat) : Int) else (vE S (yJ x)).n i := fun i => by
  rw [yQ9, eG]
  have e35 : (((vE S (yJ x)).putN 72 (t + 1 : Nat)).putN 48 (t + 1 : Nat)).n 35 = nx := by
   rw [yM _ _ (by decide), yM _ _ (by decide)]; exact hL.nx
  rw [e35]
  split
  .rfl
  split
  .rfl
  by_cases c48 : i = 48
  .subst c48; rw [tV, if_pos (.inl rfl)]
  .rw [yM _ _ c48]
   by_cases c72 : i = 72
   .subst c72; rw [tV, if_pos (.inr rfl)]
   .rw [yM _ _ c72, if_neg (by omega)]
 have hX : ∀ i, i ≠ 52 -> (vM S x).n i = (pX (gM (vE S (yJ x)) 1).1).n i := fun i hi => by
  unfold vM wZ
  rw [if_neg (by simp), yM _ _ hi]
 have hn : ∀ i, i ≠ 34 -> i ≠ 35 -> i ≠ 48 -> i ≠ 72 -> i ≠ 52 -> (vM S x).n i = (vE S (yJ x)).n i := fun i h1 h2 h3 h4 h5 => by
  rw [hX i h5, hA i, if_neg h2, if_neg h1, if_neg (by omega)]
 have h36 : (vM S x).p 36 = false := by
  unfold vM wZ pX
  rw [if_neg (by simp), eG]; rfl
 have h71 : (vM S x).p 71 = false := by
  unfold vM wZ pX
  rw [if_neg (by simp), eG]; exact h.w
 refine ⟨okR, fun i hi => (hn i (by omega) (by omega) (by omega) (by omega) (by omega)).trans (hL.reg i hi), hL.r0, ?_, ?_, h36, h71, (hn 51 (by decide) (by decide) (by decide) (by decide) (by decide)).trans hL.st, ?_, (hn 50 (by decide) (by decide) (by decide) (by decide) (by decide)).trans hL.cm, ?_, ?_⟩
 .rw [hX 34 (by decide), hA]; rfl
 .rw [hX 35 (by decide), hA]; rfl
 .unfold vM wZ
  rw [if_neg (by simp), tV]
  have : (pX (gM (vE S (yJ x)) 1).1).n 52 = 0 := by
   rw [hA]
   exact hL.cs
  rw [this, yM4]
 .rw [hX 48 (by decide), hA]; rfl
 .rw [hX 72 (by decide), hA]; rfl
theorem Q.stepL {C : Nat -> Bool} {p : Nat} {D : Dv} (hD : D.ev = []) {a : Int} {B : Nat -> Int} {x : In} (h : Q S R (2147483648 + a) nx false t) (a0 : 0 <= a) (ap : a < p * 1024) (hp : p <= 64) (a4 : a % 4 = 0) (hx : ofS (mZ B a 4) = x) (hpl : yX x = true) (hC : C (a / 1024).toNat = true) (hP : mQ B a) : StepC C p D S B (vM S x) B := by
 have hL : zJ S (S.n 34) 4 false = (a, -1, false) := by rw [h.pc]; exact yAz h.usr (.inr rfl) a0 (by omega) a4
 have eI : xQ B S = x := by unfold xQ; rw [hL]; exact hx
 refine ⟨h.calm, (h.reg 0 (by omega)).trans h.r0, ?_, ⟨fun a' r' h' _ => ?_⟩, fun _ _ => rfl, .inr ⟨h.nt, h.sl, ⟨a, false, hL, ap⟩, by rw [eI]; exact hpl, by rw [eI], rfl⟩⟩
 .unfold uR rW; rw [hD]; rfl
 .rw [hL] at h'
  have : a = a' := by simpa using congrArg Prod.fst h'
  subst this; exact ⟨hC, hP⟩
end
def gO (l : List In) : Nat -> Int := uQ 4096 (eY (l.length * 4) (pK l) 0 fun _ => 0)
def bB (x : In) : Bool := wN x && decide (0 <= x.i) && (yJ x).all fun o => kdS o.k
theorem fD {x : In} (h : bB x = true) : wN x = true /\ 0 <= x.i /\ ∀ o ∈ yJ x, OpK o := by
 unfold bB at h
 simp only [Bool.and_eq_true, decide_eq_true_eq, List.all_eq_true] at h
 exact ⟨h.1.1, h.1.2, fun o ho => ⟨(zC9 h.1.2).2 o ho, h.2 o ho⟩⟩
theorem yNc : bB oW = true := by decide +kernel
theorem yHf {l : List In} (hl : l.length <= 700) {i : Nat} (hi : i < l.length) : mZ (gO l) (1024 + 4 * i) 4 = zBu (jW l i) := by
 refine zG7 hi (by omega) (fun t ht => ?_) (yBm _)
 unfold gO uQ eY
 rw [if_pos (by omega), if_pos (by omega)]
 congr 1
 omega
theorem yDe {l : List In} (hl : l.length <= 700) {i : Nat} (hi : l.length <= i) (h2 : i < 768) : mZ (gO l) (1024 + 4 * i) 4 = 0 := by
 refine zHz fun t ht => ?_
 unfold gO uQ eY
 rw [if_pos (by omega), if_neg (by omega), if_neg (by omega)]
theorem zVw {l : List In} (hl : l.length <= 700) (ho : ∀ x ∈ l, bB x = true) {i : Nat} (h2 : i < 768) : ofS (mZ (gO l) (1024 + 4 * i) 4) = (if i < l.length then jW l i else oW) /\ bB (if i < l.length then jW l i else oW) = true := by
 by_cases c : i < l.length
 .rw [if_pos c, yHf hl c]
  have e : jW l i = l[i] := by simp [jW, List.getD, c]
  have h := ho _ (List.getElem_mem c)
  rw [<- e] at h
  obtain ⟨h1, h2, _⟩ := fD h
  exact ⟨zHb h2 h1, h⟩
 .rw [if_neg c, yDe hl (by omega) h2]
  exact ⟨zO9, yNc⟩
theorem zZ9 {l : List In} (hl : l.length <= 700) (ho : ∀ x ∈ l, bB x = true) {i : Nat} (hi : i < 768) : mQ (gO l) (1024 + 4 * i) := fun j hj => by
 have hlt : i + j < 768 := by omega
 have e : (1024 : Int) + 4 * i + 4 * j = 1024 + 4 * ((i + j : Nat) : Int) := by omega
 unfold uX qO
 rw [e]
 obtain ⟨h1, h2⟩ := zVw hl ho hlt
 rw [h1]
 exact (fD h2).2.2
def C1 : Nat -> Bool := fun j => j == 1 || j == 2 || j == 3
theorem yYn {S : St} {R : Nat -> Int} {pc nx : Int} {sl : Bool} {t : Nat} (h : Q S R pc nx sl t) {i : Nat} (hi : i < 34) : rg S i = R i := by
 unfold rg; rw [if_pos hi]; exact h.reg i hi
theorem Q.prog {l : List In} (hl : l.length <= 700) (ho : ∀ x ∈ l, bB x = true) {D : Dv} (hD : D.ev = []) {S : St} {R : Nat -> Int} {t i : Nat} (h : Q S R (2147484672 + 4 * i) (2147484672 + 4 * (i + 1 : Nat)) false t) (ht : t < 1000000) (hi : i < 700) (hpl : yX (if i < l.length then jW l i else oW) = true) :
  ∃ S', StepC C1 4 D S (gO l) S' (gO l) /\ Q S' (fun j => xC (rg S) (yJ (if i < l.length then jW l i else oW)) j) (2147484672 + 4 * (i + 1 : Nat)) (2147484672 + 4 * (i + 2 : Nat)) false (t + 1) := by
 obtain ⟨h1, h2⟩ := zVw hl ho (i := i) (by omega)
 have ep : (2147484672 : Int) + 4 * i = 2147483648 + (1024 + 4 * i) := by omega
 rw [ep] at h
 refine ⟨_, h.stepL hD (by omega) (by omega) (by omega) (by omega) h1 hpl ?_ (zZ9 hl ho (by omega)), ?_⟩
 .unfold C1
  have : ((1024 + 4 * (i : Int)) / 1024).toNat = 1 \/ ((1024 + 4 * (i : Int)) / 1024).toNat = 2 \/ ((1024 + 4 * (i : Int)) / 1024).toNat = 3 := by omega
  rcases this with e | e | e <;> rw [e] <;> rfl
 .have := h.lift ht (fD h2).2.1
  have e2 : IntKind.wrap .u32 (2147484672 + 4 * ((i + 1 : Nat) : Int) + 4) = 2147484672 + 4 * ((i + 2 : Nat) : Int) := by rw [yV]; omega
  rw [e2] at this
  exact this
section
variable {m : Mem}
theorem yIc {b : Nat} {z c : Nat -> AV} {t : TypeId} {x : In} {m' : Mem} (e : m'.obj b = some ⟨6, zC z 0 6 c, t, false⟩) (hx : tQ c x) : uH m' (.sl b 0 1 (.ex 1)) [x] := by
 refine uH.row (l := [x]) e rfl rfl fun i hi => ?_
 have : i = 0 := by simp at hi; omega
 subst this
 refine tQ.congr (c := c) hx fun j hj => ?_
 show zC z 0 6 c (0 * 6 + j) = _
 unfold zC; rw [if_pos (by omega)]; congr 1; omega
theorem zUh {k : Bool -> Mem -> Prop} (hk : ∀ m', k true m') : F27 m k := by
 unfold F27
 refine dK (by unfold wC; omega) fun c1 h1 => zW fun b4 m3 hb4 K3 e4 O4 => ?_
 have hl1 : (rX 47 1 0 5).i = 5 := rfl
 have ho : ∀ x ∈ [rX 47 1 0 5], bB x = true := fun x hx => by
  have hx : x = rX 47 1 0 5 := by simpa using hx
  subst hx; decide +kernel
 refine aS (yIc e4 h1) (by simp) (fun x hx => (fD (ho x hx)).2.1) fun v5 m6 L6 K6 o6 => ?_
 refine eO L6.r (fun i => zCo _ i) (by simp) (v2 := .flat (.slice none 0 0)) (nd := 0) (fd := fun _ => 0) (.nil none _) (fun i hi => by omega) (by omega) C1 fun m1 e q c m8 K8 A8 => ?_
 have nl : ∀ (b o : Nat) (K : Bool -> Prop), pZ (.ptr b o) K = K false := fun _ _ _ => rfl
 rw [nl]
 refine zB rfl ?_
 dsimp only [yD]
 obtain ⟨S1, s1, q1⟩ := Q.prog (l := [rX 47 1 0 5]) (by simp) ho (D := { nd := (0 + 63) / 64 * 64, dk := uQ 0 fun _ => 0 }) rfl (i := 0) Q0 (by decide) (by decide) (by decide +kernel)
 obtain ⟨S2, s2, q2⟩ := Q.prog (l := [rX 47 1 0 5]) (by simp) ho (D := { nd := (0 + 63) / 64 * 64, dk := uQ 0 fun _ => 0 }) rfl (i := 1) q1 (by decide) (by decide) (by decide +kernel)
 obtain ⟨S3, s3, q3⟩ := Q.prog (l := [rX 47 1 0 5]) (by simp) ho (D := { nd := (0 + 63) / 64 * 64, dk := uQ 0 fun _ => 0 }) rfl (i := 2) q2 (by decide) (by decide) (by decide +kernel)
 have path : Path C1 4 _ 3 St0 (gO [rX 47 1 0 5]) S3 (gO [rX 47 1 0 5]) := .cons s1 (.cons s2 (.one s3))
 refine AtF.go (by decide) (by decide) path A8 fun m14 A14 => ?_
 refine zG rfl (zG rfl (A14.state fun cc hcc => ?_))
 have e1 : (sub cc 0 32) 1 = vu (S3.n 1) := by
  unfold sub; rw [if_pos (by omega), Nat.zero_add, hcc 1 (by omega)]; rfl
 have e3 : S3.n 1 = 5 := by
  rw [q3.reg 1 (by omega)]
  show xC (rg S2) (yJ oW) 1 = 5
  have nop : ∀ f : Nat -> Int, xC f (yJ oW) 1 = f 1 := fun f => by
   have : yJ oW = [⟨1, 34, 0, 0, 0⟩, ⟨9, 0, 0, 34, 0⟩] := rfl
   rw [this]; rfl
  rw [nop, yYn q2 (by omega)]
  show xC (rg S1) (yJ oW) 1 = 5
  rw [nop, yYn q1 (by omega)]
  show xC (rg St0) (yJ (rX 47 1 0 5)) 1 = 5
  decide +kernel
 rw [e1, e3]
 exact hk m14
end
theorem yOx {t v : Int} (t0 : 0 <= t) (t1 : t < 32) (hv : wC v) : bB ⟨53, 0, t, 0, 0, v / 65536⟩ = true /\ yX ⟨53, 0, t, 0, 0, v / 65536⟩ = true := by
 obtain ⟨v0, v1⟩ := hv
 have i0 : 0 <= v / 65536 := by omega
 have i1 : v / 65536 <= 65535 := by omega
 have f2 : yA (fl 53) 2 = true := by decide +kernel
 have fm : wQ (fl 53) = 65535 := by decide +kernel
 have ok : OK ⟨53, 0, t, 0, 0, v / 65536⟩ := by
  refine ⟨by show (0 : Int) < 53; decide, by show (53 : Int) < 78; decide, Int.le_refl 0, by show (0 : Int) < 32; decide, fun _ => rfl, t0, t1, fun h => ?_, Int.le_refl 0, by show (0 : Int) < 32; decide, fun _ => rfl, Int.le_refl 0, by show (0 : Int) < 32; decide, fun _ => rfl, i0, ?_⟩
  .have h : yA (fl 53) 2 = false := h
   rw [f2] at h; cases h
  .show v / 65536 <= wQ (fl 53)
   rw [fm]; exact i1
 have r := (tR _ i0).2 ok
 have p : yX ⟨53, 0, t, 0, 0, v / 65536⟩ = true := by
  unfold yX; rw [r]; rfl
 refine ⟨?_, p⟩
 unfold bB
 rw [r, decide_eq_true i0, yPq p rfl]; rfl
theorem yQs {k t s v : Int} (hk : k = 47 \/ k = 49 \/ k = 50 \/ k = 51) (t0 : 0 <= t) (t1 : t < 32) (s0 : 0 <= s) (s1 : s < 32) : bB (rX k t s v) = true /\ yX (rX k t s v) = true := by
 have i0 : 0 <= v % 65536 := by omega
 have i1 : v % 65536 <= 65535 := by omega
 have ok : OK (rX k t s v) := by
  have fk : fl k = 19 := by rcases hk with rfl | rfl | rfl | rfl <;> decide +kernel
  have h1 : yA 19 1 = true := by decide +kernel
  have h2 : yA 19 2 = true := by decide +kernel
  have hm : wQ 19 = 65535 := by decide +kernel
  refine ⟨?_, ?_, s0, s1, fun h => ?_, t0, t1, fun h => ?_, Int.le_refl 0, by show (0 : Int) < 32; decide, fun _ => rfl, Int.le_refl 0, by show (0 : Int) < 32; decide, fun _ => rfl, i0, ?_⟩
  .show 0 < k; omega
  .show k < 78; omega
  .have h : yA (fl k) 1 = false := h
   rw [fk, h1] at h; cases h
  .have h : yA (fl k) 2 = false := h
   rw [fk, h2] at h; cases h
  .show v % 65536 <= wQ (fl k)
   rw [fk, hm]; exact i1
 have r := (tR _ i0).2 ok
 have p : yX (rX k t s v) = true := by
  unfold yX; rw [r]
  show (zT k == 1) = true
  rcases hk with rfl | rfl | rfl | rfl <;> decide
 refine ⟨?_, p⟩
 unfold bB
 rw [r, decide_eq_true (show 0 <= (rX k t s v).i from i0), yCh p (by show 47 <= k /\ k <= 52; omega)]
 show (kdS 1 && (kdS (sS k) && true)) = true
 rcases hk with rfl | rfl | rfl | rfl <;> decide
theorem yJq {h l : Int} (h0 : 0 <= h) (h1 : h < 65536) (l0 : 0 <= l) (l1 : l < 65536) : bits .or .u32 (h * 65536) l = h * 65536 + l := by
 have e := iO (x := h * 65536) (y := l) ⟨by omega, by omega⟩ ⟨l0, by omega⟩
 unfold vI at e
 rw [e]
 have e1 : (h * 65536).toNat = 2 ^ 16 * h.toNat := by omega
 have e2 : l.toNat < 2 ^ 16 := by omega
 rw [e1, <- Nat.two_pow_add_eq_or_of_lt e2]
 omega
structure Sr where
 n : List Int
 a : Bool
 b : Bool
 w : Bool
 t : Nat
def lg : List Int -> Nat -> Int
 | [], _ => 0
 | x :: _, 0 => x
 | _ :: l, i + 1 => lg l i
def isT (i : Nat) : Bool := i == 48 || i == 72
def uW (s : Sr) : St := { n := fun i => match isT i with | true => (s.t : Int) | false => lg s.n i, p := fun i => match i == 36 with | true => s.a | false => match i == 37 with | true => s.b | false => match i == 71 with | true => s.w | false => false }
def lm (f : Nat -> Int) : Nat -> Nat -> List Int
 | _, 0 => []
 | i, k + 1 => f i :: lm f (i + 1) k
def nf (S : St) (t : Nat) : Sr := ⟨lm (fun i => match isT i with | true => 0 | false => S.n i) 0 73, S.p 36, S.p 37, S.p 71, t⟩
theorem yLk (f : Nat -> Int) : ∀ (k i j : Nat), lg (lm f i k) j = if j < k then f (i + j) else 0
 | 0, i, j => by simp [lm, lg]
 | k + 1, i, 0 => by simp [lm, lg]
 | k + 1, i, j + 1 => by
  show lg (lm f (i + 1) k) j = _
  rw [yLk f k (i + 1) j]
  by_cases c : j < k
  .rw [if_pos c, if_pos (by omega)]; congr 1; omega
  .rw [if_neg c, if_neg (by omega)]
structure Wl (t : Nat) (S : St) : Prop where
 hi : ∀ i, 73 <= i -> S.n i = 0
 hp : ∀ i, i ≠ 36 -> i ≠ 37 -> i ≠ 71 -> S.p i = false
 x : S.x = fun _ => .junk
 q : S.q = 0
 c : S.n 48 = t
 m : S.n 72 = t
def St.ct (S : St) (t : Nat) : St := (S.putN 72 t).putN 48 t
theorem jM (S : St) (i : Nat) (v : Int) (j : Nat) : (S.putN i v).n j = if j = i then v else S.n j := rfl
theorem yBc (S : St) (t j : Nat) : (S.ct t).n j = if j = 48 then (t : Int) else if j = 72 then (t : Int) else S.n j := rfl
section
variable {t u : Nat} {S : St}
theorem sL (h : Wl t S) : uW (nf S u) = S.ct u := by
 refine St.ext (fun i => ?_) (fun i => ?_) h.x.symm h.q.symm
 .rw [yBc]
  show (match isT i with | true => (u : Int) | false => lg (lm (fun i => match isT i with | true => 0 | false => S.n i) 0 73) i) = _
  rw [yLk, Nat.zero_add]
  by_cases c1 : i = 48
  .subst c1; rfl
  by_cases c2 : i = 72
  .subst c2; rfl
  have e : isT i = false := by simp [isT, c1, c2]
  rw [if_neg c1, if_neg c2]
  simp only [e]
  split
  .rfl
  .exact (h.hi i (by omega)).symm
 .show (match i == 36 with | true => S.p 36 | false => match i == 37 with | true => S.p 37 | false => match i == 71 with | true => S.p 71 | false => false) = S.p i
  by_cases c1 : i = 36
  .subst c1; rfl
  by_cases c2 : i = 37
  .subst c2; rfl
  by_cases c3 : i = 71
  .subst c3; rfl
  have e1 : (i == 36) = false := by simp [c1]
  have e2 : (i == 37) = false := by simp [c2]
  have e3 : (i == 71) = false := by simp [c3]
  rw [e1, e2, e3]
  exact (h.hp i c1 c2 c3).symm
theorem Wl.of (s : Sr) (hl : s.n.length <= 73) : Wl s.t (uW s) := by
 refine ⟨fun i hi => ?_, fun i h1 h2 h3 => ?_, rfl, rfl, rfl, rfl⟩
 .have e : isT i = false := by unfold isT; simp; omega
  show (match isT i with | true => (s.t : Int) | false => lg s.n i) = 0
  rw [e]
  have : ∀ (l : List Int) (j : Nat), l.length <= j -> lg l j = 0 := by
   intro l
   induction l with
   | nil => intro j _; rfl
   | cons x l ih =>
    intro j hj
    cases j with
    | zero => simp at hj
    | succ j => exact ih j (by simpa using hj)
  exact this s.n i (by omega)
 .show (match i == 36 with | true => s.a | false => match i == 37 with | true => s.b | false => match i == 71 with | true => s.w | false => false) = false
  have e1 : (i == 36) = false := by simp [h1]
  have e2 : (i == 37) = false := by simp [h2]
  have e3 : (i == 71) = false := by simp [h3]
  rw [e1, e2, e3]
theorem Wl.n (h : Wl t S) {i : Nat} (hi : i < 73) (h1 : i ≠ 48) (h2 : i ≠ 72) {v : Int} : Wl t (S.putN i v) :=
 ⟨fun j hj => (yM S v (by omega)).trans (h.hi j hj), h.hp, h.x, h.q, (yM S v (Ne.symm h1)).trans h.c, (yM S v (Ne.symm h2)).trans h.m⟩
theorem Wl.p (h : Wl t S) {i : Nat} (hi : i = 36 \/ i = 37 \/ i = 71) {v : Bool} : Wl t (S.putP i v) :=
 ⟨h.hi, fun j h1 h2 h3 => by show upd S.p i v j = false; unfold upd; rw [if_neg (by omega)]; exact h.hp j h1 h2 h3, h.x, h.q, h.c, h.m⟩
theorem Wl.line (h : Wl t S) (b : Bool) : Wl t (wZ S b) := by unfold wZ; split <;> exact h.n (by decide) (by decide) (by decide)
theorem Wl.set (h : Wl t S) {n v : Int} (hn : n < 32) : Wl t (vK S n v) := by
 unfold vK; split
 .exact h
 .exact h.n (by omega) (by omega) (by omega)
theorem Wl.bad (h : Wl t S) (v c : Int) : Wl t (zAm S v c) := by
 unfold zAm zU9; split
 .exact (h.n (by decide) (by decide) (by decide)).n (by decide) (by decide) (by decide)
 .exact h.n (by decide) (by decide) (by decide)
theorem Wl.to (h : Wl t S) (pc : Int) : Wl t (toS S pc) := ((h.n (by decide) (by decide) (by decide)).n (by decide) (by decide) (by decide)).p (.inl rfl)
theorem Wl.enter (h : Wl t S) (c : Int) (r : Bool) : Wl t (pG S c r) := by
 have h1 : Wl t (tM S) := by
  unfold tM; split
  .split <;> exact (h.n (by decide) (by decide) (by decide)).n (by decide) (by decide) (by decide)
  .exact h
 unfold pG zLt
 exact ((h1.n (by decide) (by decide) (by decide)).to _).n (by decide) (by decide) (by decide)
theorem Wl.ret (h : Wl t S) : Wl t (hQ S) := ((h.to _).n (by decide) (by decide) (by decide)).p (.inr (.inl rfl))
theorem Wl.write (h : Wl t S) {n v : Int} (hn : n ≠ 9) : Wl t (rJ S n v) := by
 unfold rJ
 split
 .exact h.n (by decide) (by decide) (by decide)
 split
 .exact h.n (by decide) (by decide) (by decide)
 split
 .exact h.n (by decide) (by decide) (by decide)
 split
 .exact h.n (by omega) (by omega) (by omega)
 split
 .exact (h.n (by decide) (by decide) (by decide)).n (by decide) (by decide) (by decide)
 split
 .exact h.n (by decide) (by decide) (by decide)
 split
 .exact h.n (by decide) (by decide) (by decide)
 .exact h
theorem Wl.put (h : Wl t S) (b : Bool) : Wl t (zR1 S b) := by
 unfold zR1
 dsimp only
 have hi : ∀ i : Int, 0 <= i -> i < 8 -> Wl t ((S.putN (55 + i.toNat * 2) (S.n 49)).putN (56 + i.toNat * 2) (S.n 41)) := fun i h0 h1 => (h.n (by omega) (by omega) (by omega)).n (by omega) (by omega) (by omega)
 refine hi _ ?_ ?_
 .split
  .omega
  .exact (uN _ _).1
 .split
  .omega
  .exact (yQo _).2
theorem Wl.adv (h : Wl t S) : Wl t (pX S) := ((h.n (by decide) (by decide) (by decide)).n (by decide) (by decide) (by decide)).p (.inl rfl)
theorem Wl.lift (h : Wl t S) (l : List Op19) : Wl t (vE S l) := by
 have e : ∀ i, 34 <= i -> (vE S l).n i = S.n i := fun i hi => by
  show (if i < 34 then _ else S.n i) = _
  rw [if_neg (by omega)]
 exact ⟨fun i hi => (e i (by omega)).trans (h.hi i hi), h.hp, h.x, h.q, (e 48 (by decide)).trans h.c, (e 72 (by decide)).trans h.m⟩
theorem Wl.on (h : Wl t S) {x : In} (hd : x.d < 32) (a b : Int) : Wl t (onS S x a b) := by
 unfold onS
 dsimp only
 have h1 : Wl t ((S.putN 34 (S.n 35)).putN 35 (IntKind.wrap .u32 (S.n 35 + 4))) := (h.n (by decide) (by decide) (by decide)).n (by decide) (by decide) (by decide)
 have h3 : ∀ T : St, Wl t T -> Wl t (if x.k = 8 then vK (T.putP 36 (zT x.k == 3)) x.d (IntKind.wrap .u32 (S.n 34 + 8)) else T.putP 36 (zT x.k == 3)) := fun T h => by
  split
  .exact (h.p (.inl rfl)).set hd
  .exact h.p (.inl rfl)
 refine h3 _ ?_
 split
 .exact h1.n (by decide) (by decide) (by decide)
 .exact h1
end
def goP (S : St) : St := match S.n 50 == 0 with
 | true => S
 | false => match decide (lN S <= 1) with
  | true => S.putN 52 (bits .or .u32 (S.n 52) 32768)
  | false => S
def zSc (S : St) (c : Int) (r : Bool) : St := wZ (goP (pG S c r)) false
def nG (S : St) (x : In) (a b : Int) : St := wZ (match x.k == 60 with | true => goP S | false => onS (goP S) x a b) false
def yPk (x : In) : List Op19 :=
 if x.k = 13 \/ x.k = 76 \/ x.k = 77 then [] else if x.k = 53 then [⟨1, x.t, 0, 0, IntKind.wrap .u32 (x.i * 65536)⟩] else if x.k = 14 then [⟨2, x.d, 32, 0, 0⟩] else if x.k = 16 then [⟨2, x.d, 33, 0, 0⟩]
 else if x.k = 15 then [⟨2, 32, x.s, 0, 0⟩] else if x.k = 17 then [⟨2, 33, x.s, 0, 0⟩] else if x.k <= 3 then [⟨1, 34, 0, 0, IntKind.wrap .u32 x.h⟩, ⟨sS x.k, x.d, x.t, 34, 0⟩] else if x.k <= 6 then [⟨sS x.k, x.d, x.t, x.s, 0⟩]
 else if oE x = x.t /\ 46 <= x.k /\ x.k <= 52 then [⟨1, 34, 0, 0, zLl x⟩, ⟨sS x.k, x.t, x.s, 34, 0⟩] else [⟨sS x.k, x.d, x.s, x.t, 0⟩]
theorem yRx {x : In} (h : yX x = true) : yJ x = yPk x := by
 unfold yJ yPk
 by_cases c : x.k = 13 \/ x.k = 76 \/ x.k = 77
 .rw [if_pos (.inr c), if_pos c]
 .rw [if_neg (by rw [h]; simpa using c), if_neg c]
def liftP (S : St) (x : In) : St := wZ (pX (goP (vE S (yPk x)))) false
section
variable {t : Nat} {S : St}
theorem zRs (h : Wl t S) (ht : t < 1000000) : (gM S 1).1 = (goP S).ct (t + 1) := by
 have e1 : IntKind.wrap .i64 ((t : Int) + 1) = ((t + 1 : Nat) : Int) := by rw [zK (by omega) (by omega)]; omega
 have w1 : IntKind.wrap .u32 (1 : Int) = 1 := rfl
 have e2 : IntKind.wrap .u32 ((t : Int) + 1) = ((t + 1 : Nat) : Int) := by rw [yV]; omega
 unfold gM
 rw [if_neg (by decide), h.c, h.m, w1, e1, e2]
 unfold goP
 cases c0 : S.n 50 == 0 with
 | true =>
  have c0 : S.n 50 = 0 := by simpa using c0
  have : ¬ lN S <= 1 := by
   unfold lN
   rw [c0, h.c]
   split <;> omega
  rw [if_neg this]
  rfl
 | false =>
  dsimp only
  by_cases c : lN S <= 1
  .rw [if_pos c, decide_eq_true c]
   dsimp only
   refine St.ext (fun j => ?_) (fun j => rfl)
   rw [yBc, jM, jM, jM, jM]
   by_cases c1 : j = 52
   .subst c1; rfl
   .simp only [if_neg c1]
  .rw [if_neg c, decide_eq_false c]
   rfl
theorem Wl.go (h : Wl t S) : Wl t (goP S) := by
 unfold goP
 split
 .exact h
 .split
  .exact h.n (by decide) (by decide) (by decide)
  .exact h
theorem mF (u : Nat) {i : Nat} (h1 : i ≠ 48) (h2 : i ≠ 72) (v : Int) : (S.ct u).putN i v = (S.putN i v).ct u := by
 refine St.ext (fun j => ?_) (fun j => rfl)
 rw [jM, yBc, yBc, jM]
 by_cases c1 : j = i
 .subst c1; simp only [if_neg h1, if_neg h2, if_true]
 .simp only [if_neg c1]
theorem zWc (u : Nat) {i : Nat} (h1 : i ≠ 48) (h2 : i ≠ 72) : (S.ct u).n i = S.n i := by rw [yBc, if_neg h1, if_neg h2]
theorem zAw (u : Nat) (b : Bool) : wZ (S.ct u) b = (wZ S b).ct u := by
 unfold wZ
 rw [zWc u (by decide) (by decide)]
 split <;> exact mF u (by decide) (by decide) _
theorem yPc (u : Nat) : pX (S.ct u) = (pX S).ct u := by
 unfold pX
 rw [zWc u (i := 35) (by decide) (by decide), mF u (by decide) (by decide), mF u (by decide) (by decide)]
 rfl
theorem yR5 (u : Nat) {n v : Int} (hn : n < 32) : vK (S.ct u) n v = (vK S n v).ct u := by
 unfold vK
 split
 .rfl
 .exact mF u (by omega) (by omega) _
theorem yS5 (u : Nat) {x : In} (hd : x.d < 32) (a b : Int) : onS (S.ct u) x a b = (onS S x a b).ct u := by
 have h3 : ∀ T : St, (if x.k = 8 then vK ((T.ct u).putP 36 (zT x.k == 3)) x.d (IntKind.wrap .u32 (S.n 34 + 8)) else (T.ct u).putP 36 (zT x.k == 3)) = (if x.k = 8 then vK (T.putP 36 (zT x.k == 3)) x.d (IntKind.wrap .u32 (S.n 34 + 8)) else T.putP 36 (zT x.k == 3)).ct u := fun T => by
  split
  .exact yR5 (S := T.putP 36 (zT x.k == 3)) u hd
  .rfl
 unfold onS
 dsimp only
 rw [zWc u (i := 35) (by decide) (by decide), zWc u (i := 34) (by decide) (by decide), mF u (by decide) (by decide), mF u (by decide) (by decide)]
 by_cases c : oJ x a b = true
 .simp only [if_pos c]
  rw [mF u (by decide) (by decide)]
  exact h3 _
 .simp only [if_neg c]
  exact h3 _
theorem zKu (h : Wl t S) (ht : t < 1000000) (c : Int) (r : Bool) : gA S c r = (zSc S c r).ct (t + 1) := by
 unfold gA zSc
 rw [zRs (h.enter c r) ht, zAw]
theorem Wl.ent (h : Wl t S) (c : Int) (r : Bool) : Wl t (zSc S c r) := (h.enter c r).go.line false
theorem dY (h : Wl t S) (ht : t < 1000000) {x : In} (hd : x.d < 32) (a b : Int) : sW S x a b = (nG S x a b).ct (t + 1) := by
 unfold sW nG
 rw [zRs h ht]
 by_cases c : x.k = 60
 .rw [if_pos c, beq_iff_eq.2 c, zAw]
 .have : (x.k == 60) = false := by simpa using c
  rw [if_neg c, this, yS5 _ hd, zAw]
theorem Wl.goon (h : Wl t S) {x : In} (hd : x.d < 32) (a b : Int) : Wl t (nG S x a b) := by
 unfold nG
 split
 .exact h.go.line false
 .exact (h.go.on hd a b).line false
theorem zW9 (h : Wl t S) (ht : t < 1000000) {x : In} (hp : yX x = true) : vM S x = (liftP S x).ct (t + 1) := by
 unfold vM liftP
 rw [yRx hp, zRs (h.lift _) ht, yPc, zAw]
theorem Wl.liftP (h : Wl t S) (x : In) : Wl t (liftP S x) := ((h.lift _).go.adv).line false
end
structure InR (x : In) : Prop where
 r : wN x = true
 i0 : 0 <= x.i
 i1 : x.i < 65536
 o : ∀ o ∈ yJ x, OpK o
structure Prog (C : Nat -> Bool) (p : Nat) (I : Int -> In) (B : Nat -> Int) : Prop where
 i : ∀ a : Int, 0 <= a -> a < p * 1024 -> a % 4 = 0 -> C (a / 1024).toNat = true -> ofS (mZ B a 4) = I a /\ InR (I a)
theorem Prog.cod {C : Nat -> Bool} {p : Nat} {I : Int -> In} {B B' : Nat -> Int} (h : Prog C p I B) (hc : Cod C B B') : Prog C p I B' := by
 refine ⟨fun a a0 a1 a4 hC => ?_⟩
 rw [show mZ B' a 4 = mZ B a 4 from iU _ fun t ht => hc _ (by
  have ht : t < 4 := ht
  have : (a.toNat + t) / 1024 = (a / 1024).toNat := by omega
  rw [this]; exact hC)]
 exact h.i a a0 a1 a4 hC
theorem Prog.page {C : Nat -> Bool} {p : Nat} {I : Int -> In} {B : Nat -> Int} (h : Prog C p I B) {a : Int} (a0 : 0 <= a) (a1 : a < p * 1024) (a4 : a % 4 = 0) (hC : C (a / 1024).toNat = true) : mQ B a := fun i hi => by
 have e := (h.i (a + 4 * i) (by omega) (by omega) (by omega) (by rw [hi]; exact hC))
 unfold uX qO
 rw [e.1]
 exact e.2.o
inductive Hint
 | no
 | br (c : Bool)
 | ld (a : Int)
 | st (a : Int)
def zCj (S : St) (x : In) : Int :=
 if S.p 36 = true /\ (zT x.k = 3 \/ x.k = 60) then 10
 else if sQ S = true /\ 54 <= x.k /\ x.k <= 61 then 11
 else if x.k = 62 then 11
 else if x.k = 11 then 8
 else if x.k = 12 then 9
 else if kE x (S.n x.s.toNat) (S.n x.t.toNat) = false then -1
 else if x.k = 34 then 13 else 12
theorem yLq {S : St} {x : In} (h : wN x = true) : sP S x = zCj S x := by
 unfold sP zCj
 rw [if_neg (c := wN x = false) (by rw [h]; simp)]
def fxP (x : In) : Bool := exK x.k && decide (0 <= x.s) && decide (x.s < 32) && decide (0 <= x.t) && decide (x.t < 32) && decide (0 <= x.d) && decide (x.d < 32) && decide (0 <= x.h) && decide (x.h < 32)
theorem yPa {x : In} (h : fxP x = true) (hi : InR x) : FX x := by
 unfold fxP at h
 simp only [Bool.and_eq_true, decide_eq_true_eq] at h
 obtain ⟨⟨⟨⟨⟨⟨⟨⟨a, b⟩, c⟩, d⟩, e⟩, f⟩, g⟩, i⟩, j⟩ := h
 exact ⟨a, b, c, d, e, f, g, i, j, hi.i0, hi.i1⟩
def mD (C : Nat -> Bool) (p : Nat) (S : St) : Bool :=
 let L := zJ S (S.n 34) 4 false
 decide (L.1 < 520093696) && (L.2.1 != -1 || decide (p * 1024 <= L.1) || (C (L.1 / 1024).toNat && decide (0 <= L.1 /\ L.1 % 4 = 0)))
def dC (S : St) : Bool := !S.p 71 && (bits .andNot .u32 (S.n 52) 1024 == S.n 52) && (S.n 0 == 0)
def yBo (S : St) (x : In) (c : Bool) : St :=
 let T := goP S
 wZ (((T.putN 34 (T.n 35)).putN 35 (match c with | true => oG x (T.n 34) (S.n x.s.toNat) | false => IntKind.wrap .u32 (T.n 35 + 4))).putP 36 true) false
def yPj (C : Nat -> Bool) (p : Nat) (h : Hint) (S : St) (x : In) (u : Nat) (B : Nat -> Int) (k : Sr -> (Nat -> Int) -> Prop) : Prop :=
 match zCj S x == -1 with
 | false => match zT x.k != 4 && zT x.k != 5 with
  | false => False
  | true => k (nf (zSc S (zCj S x) false) u) B
 | true => match x.k == 22 || x.k == 34 with
  | true => False
  | false => match h with
   | .br c => (x.k == 42 || x.k == 43) = true /\ oJ x (S.n x.s.toNat) (S.n x.t.toNat) = c /\ k (nf (yBo S x c) u) B
   | .ld a => (zT x.k == 4 && x.k != 74) = true /\ zJ S (uV S x) (zU x.k) false = (a, -1, false) /\ xO p a (zU x.k) /\ k (nf (nG (vK S x.t (mZ B a (zU x.k))) x 0 0) u) B
   | .st a => (zT x.k == 5 && x.k != 75 && !S.p 37) = true /\ zJ S (uV S x) (zU x.k) true = (a, -1, false) /\ xO p a (zU x.k) /\ C (a / 1024).toNat = false /\ k (nf (nG S x 0 0) u) (stv B a (zU x.k) (S.n x.t.toNat))
   | .no =>
    let L := zJ S (uV S x) (zU x.k) (zT x.k == 5)
    match (zT x.k != 4 && zT x.k != 5) || decide ((L.1 < 520093696 \/ 520094080 <= L.1) /\ (zT x.k = 4 \/ L.2.1 ≠ -1 \/ (0 <= L.1 /\ C (L.1 / 1024).toNat = false))) with
    | false => False
    | true => match x.k == 55 && x.d == 9 with
     | true => False
     | false =>
      let A := vJ p B S x
      match A.2.2.1 == -1 with
      | false => k (nf (zSc A.1 A.2.2.1 A.2.2.2) u) A.2.1
      | true => k (nf (nG A.1 x (S.n x.s.toNat) (S.n x.t.toNat)) u) A.2.1
def yQg (C : Nat -> Bool) (p : Nat) (I : Int -> In) (h : Hint) (s : Sr) (B : Nat -> Int) (k : Sr -> (Nat -> Int) -> Prop) : Prop :=
 let S := uW s
 match dC S && mD C p S with
 | false => False
 | true => match xD S with
  | true => k (nf (zSc S 0 false) (s.t + 1)) B
  | false =>
   let L := zJ S (S.n 34) 4 false
   match L.2.1 == -1 with
   | false => k (nf (zSc (zAm S (S.n 34) L.2.1) L.2.1 L.2.2) (s.t + 1)) B
   | true => match decide (L.1 < p * 1024) with
    | false => False
    | true =>
     let x := I L.1
     match zT x.k == 1 && !S.p 36 with
     | true => k (nf (liftP S x) (s.t + 1)) B
     | false => match fxP x && (x.k != 1 || x.d == 0) with
      | false => False
      | true => yPj C p h S x (s.t + 1) B k
def zSo (C : Nat -> Bool) (p : Nat) (I : Int -> In) : List Hint -> Sr -> (Nat -> Int) -> (Sr -> (Nat -> Int) -> Prop) -> Prop
 | [], s, B, k => k s B
 | h :: l, s, B, k => yQg C p I h s B fun s' B' => zSo C p I l s' B' k
section
variable {C : Nat -> Bool} {p : Nat} {B : Nat -> Int} {S : St} {x : In} {t : Nat}
theorem zE5 {a b c d : Int} (hk : x.k ≠ 7 /\ x.k ≠ 8 /\ x.k ≠ 42 /\ x.k ≠ 43) : nG S x a b = nG S x c d := by
 obtain ⟨h1, h2, h3, h4⟩ := hk
 have e : ∀ T : St, onS T x a b = onS T x c d := fun T => by
  unfold onS
  have t1 : ∀ u v, oJ x u v = false := fun u v => by
   unfold oJ; rw [if_neg (by omega), if_neg h3, if_neg h4]
  rw [t1, t1]
  rfl
 unfold nG
 rw [e]
theorem Wl.load (h : Wl t S) (ht : x.t < 32) : Wl t (pA p B S x).1 := by
 unfold pA
 dsimp only
 split
 .exact h.bad _ _
 split
 .refine Wl.set ?_ ht
  split
  .exact (h.p (.inr (.inl rfl))).n (by decide) (by decide) (by decide)
  .exact h
 .exact h
theorem Wl.store (h : Wl t S) (ht : x.t < 32) : Wl t (vU p B S x).1 := by
 unfold vU
 dsimp only
 split
 .exact h.bad _ _
 split
 .exact (h.set ht).p (.inr (.inl rfl))
 split
 .have h1 : Wl t (if x.k = 75 then vK S x.t 1 else S) := by
   split
   .exact h.set ht
   .exact h
  dsimp only
  generalize (if x.k = 75 then vK S x.t 1 else S) = S1 at h1
  split
  .exact h1.p (.inr (.inl rfl))
  .exact h1
 .exact h
theorem Wl.act (h : Wl t S) (ht : x.t < 32) (h9 : x.k = 55 -> x.d ≠ 9) : Wl t (vJ p B S x).1 := by
 unfold vJ
 split
 .exact h.load ht
 split
 .exact h.store ht
 split
 .dsimp only
  split
  .exact h.ret
  .unfold iV
   split
   .exact h.set ht
   split
   .rename_i c; exact h.write (h9 c)
   split
   .exact h.put _
   .exact h
 .show Wl t (xW S x)
  unfold xW
  split
  .exact h.set ht
  .exact h
theorem zW6 (k : Int) : zU k = 1 \/ zU k = 4 := by unfold zU; split <;> simp
theorem zWe {a n v : Int} (a0 : 0 <= a) (he : xO p a n) (hC : C (a / 1024).toNat = false) : Cod C B (stv B a n v) := fun j hj => by
 unfold stv
 rw [if_neg]
 rintro ⟨h1, h2⟩
 obtain ⟨e1, e2, _⟩ := he
 have : j / 1024 = (a / 1024).toNat := by rcases e1 with rfl | rfl | rfl <;> omega
 rw [this, hC] at hj; cases hj
theorem zI1 (hC : zT x.k = 5 -> (zJ S (uV S x) (zU x.k) true).2.1 = -1 -> (zJ S (uV S x) (zU x.k) true).1 >= 0 /\ C ((zJ S (uV S x) (zU x.k) true).1 / 1024).toNat = false) : Cod C B (vJ p B S x).2.1 := by
 unfold vJ
 split
 .unfold pA; dsimp only
  split
  .exact fun _ _ => rfl
  split <;> exact fun _ _ => rfl
 split
 .rename_i c5
  unfold vU; dsimp only
  split
  .exact fun _ _ => rfl
  rename_i hm
  obtain ⟨h0, h1⟩ := hC c5 (by simpa using hm)
  split
  .exact fun _ _ => rfl
  split
  .rename_i he; exact zWe h0 he h1
  .exact fun _ _ => rfl
 split <;> exact fun _ _ => rfl
theorem yP1 {h : Hint} {k : Sr -> (Nat -> Int) -> Prop} (hw : Wl t S) (ht : t < 1000000) (hi : InR x) (hx : FX x) (hz : x.k = 1 -> x.d = 0) (hh : yPj C p h S x (t + 1) B k) :
  ∃ s' B', Okx p S x /\ (vF p B S x).1 = uW s' /\ (vF p B S x).2.1 = B' /\ (sP S x = -1 -> zT x.k = 5 -> (zJ S (uV S x) (zU x.k) true).2.1 = -1 -> 0 <= (zJ S (uV S x) (zU x.k) true).1 /\ C ((zJ S (uV S x) (zU x.k) true).1 / 1024).toNat = false) /\ Cod C B B' /\ s'.n.length = 73 /\ s'.t = t + 1 /\ k s' B' := by
 have er := yLq (S := S) hi.r
 have okt : zCj S x = -1 -> (x.k == 22 || x.k == 34) = false -> Okx p S x -> True := fun _ _ _ => trivial
 unfold yPj at hh
 cases hr : zCj S x == -1 with
 | false =>
  rw [hr] at hh
  dsimp only at hh
  cases h45 : (zT x.k != 4 && zT x.k != 5) with
  | false => rw [h45] at hh; exact hh.elim
  | true =>
  rw [h45] at hh
  dsimp only at hh
  simp only [Bool.and_eq_true, bne_iff_ne] at h45
  have hr : zCj S x ≠ -1 := by simpa using hr
  have ex : vF p B S x = (gA S (zCj S x) false, B, zCj S x) := by
   unfold vF
   rw [er]
   exact if_pos hr
  refine ⟨_, B, ⟨fun c => absurd c h45.1, fun c => absurd c h45.2, hz, fun c => absurd (er ▸ c) hr⟩, ?_, by rw [ex], fun c => absurd (er ▸ c) hr, fun _ _ => rfl, rfl, rfl, hh⟩
  rw [ex]
  exact (zKu hw ht _ _).trans (sL (hw.ent _ _)).symm
 | true =>
  rw [hr] at hh
  have hr : zCj S x = -1 := by simpa using hr
  dsimp only at hh
  cases h2 : (x.k == 22 || x.k == 34) with
  | true => rw [h2] at hh; exact hh.elim
  | false =>
   rw [h2] at hh
   dsimp only at hh
   have h2 : x.k ≠ 22 /\ x.k ≠ 34 := by simpa using h2
   have ex : ∀ A, vJ p B S x = A -> vF p B S x = if A.2.2.1 ≠ -1 then (gA A.1 A.2.2.1 A.2.2.2, A.2.1, A.2.2.1) else (sW A.1 x (S.n x.s.toNat) (S.n x.t.toNat), A.2.1, -1) := fun A hA => by
    unfold vF
    rw [er, hr, hA]
    rfl
   cases h with
   | br c =>
    obtain ⟨h1, h3, hh⟩ := hh
    have hk : x.k = 42 \/ x.k = 43 := by simpa using h1
    have hcl : zT x.k = 3 := by rcases hk with e | e <;> rw [e] <;> decide
    have ha : vJ p B S x = (S, B, -1, false) := by
     unfold vJ xW
     rw [hcl, if_neg (by decide), if_neg (by decide), if_neg (by decide), if_neg (by omega)]
    have e2 := ex _ ha
    rw [if_neg (by simp)] at e2
    have eg : nG S x (S.n x.s.toNat) (S.n x.t.toNat) = yBo S x c := by
     unfold nG yBo onS
     have k60 : (x.k == 60) = false := beq_false_of_ne (by omega)
     rw [k60, h3, hcl]
     dsimp only
     cases c with
     | true =>
      rw [if_pos rfl, if_neg (by omega)]
      congr 2
      rw [St.putNN]
     | false => rw [if_neg Bool.false_ne_true, if_neg (by omega)]; rfl
    refine ⟨_, B, ⟨fun q => (by rw [hcl] at q; cases q), fun q => (by rw [hcl] at q; cases q), hz, fun _ => h2⟩, ?_, by rw [e2], fun _ q => (by rw [hcl] at q; cases q), fun _ _ => rfl, rfl, rfl, hh⟩
    rw [e2, <- eg]
    exact (dY hw ht hx.d1 _ _).trans (sL (hw.goon hx.d1 _ _)).symm
   | ld a =>
    obtain ⟨h1, h3, h4, hh⟩ := hh
    simp only [Bool.and_eq_true, beq_iff_eq, bne_iff_ne] at h1
    obtain ⟨hcl, h74⟩ := h1
    have ha : vJ p B S x = (vK S x.t (mZ B a (zU x.k)), B, -1, false) := by
     unfold vJ pA
     rw [if_pos hcl, h3]
     dsimp only
     rw [if_neg (by simp), if_pos h4, if_neg h74]
    have e2 := ex _ ha
    rw [if_neg (by simp)] at e2
    have hkk : x.k ≠ 7 /\ x.k ≠ 8 /\ x.k ≠ 42 /\ x.k ≠ 43 := by
     refine ⟨fun e => ?_, fun e => ?_, fun e => ?_, fun e => ?_⟩ <;> (rw [e] at hcl; revert hcl; decide)
    refine ⟨_, B, ⟨fun _ _ => ?_, fun q => (by rw [hcl] at q; cases q), hz, fun _ => h2⟩, ?_, by rw [e2], fun _ q => (by rw [hcl] at q; cases q), fun _ _ => rfl, rfl, rfl, hh⟩
    .rw [h3]
     obtain ⟨_, _, e⟩ := h4
     unfold cE at e
     have := zW6 x.k
     exact .inl (by dsimp only; omega)
    .rw [e2]
     have w1 : Wl t (vK S x.t (mZ B a (zU x.k))) := hw.set hx.t1
     refine (dY w1 ht hx.d1 _ _).trans ?_
     rw [zE5 (c := 0) (d := 0) hkk]
     exact (sL (w1.goon hx.d1 _ _)).symm
   | st a =>
    obtain ⟨h1, h3, h4, h5, hh⟩ := hh
    simp only [Bool.and_eq_true, beq_iff_eq, bne_iff_ne, Bool.not_eq_true'] at h1
    obtain ⟨⟨hcl, h75⟩, h37⟩ := h1
    have a0 : 0 <= a := by have := (bX (S := S) (va := uV S x) (n := zU x.k) (t := true)).1; rw [h3] at this; exact this
    have hp37 : S.putP 37 false = S := by rw [<- h37]; exact zBy
    have ha : vJ p B S x = (S, stv B a (zU x.k) (S.n x.t.toNat), -1, false) := by
     unfold vJ vU
     rw [if_neg (by rw [hcl]; decide), if_pos hcl, h3]
     dsimp only
     rw [if_neg (by simp), if_neg (by omega), if_pos h4, if_neg h75, hp37]
     split <;> rfl
    have e2 := ex _ ha
    rw [if_neg (by simp)] at e2
    have hkk : x.k ≠ 7 /\ x.k ≠ 8 /\ x.k ≠ 42 /\ x.k ≠ 43 := by
     refine ⟨fun e => ?_, fun e => ?_, fun e => ?_, fun e => ?_⟩ <;> (rw [e] at hcl; revert hcl; decide)
    refine ⟨_, _, ⟨fun q => (by rw [hcl] at q; cases q), fun _ _ => ?_, hz, fun _ => h2⟩, ?_, by rw [e2], fun _ _ _ => by rw [h3]; exact ⟨a0, h5⟩, zWe a0 h4 h5, rfl, rfl, hh⟩
    .rw [h3]
     obtain ⟨_, _, e⟩ := h4
     unfold cE at e
     have := zW6 x.k
     exact .inl (by dsimp only; omega)
    .rw [e2]
     refine (dY hw ht hx.d1 _ _).trans ?_
     rw [zE5 (c := 0) (d := 0) hkk]
     exact (sL (hw.goon hx.d1 _ _)).symm
   | no =>
    dsimp only at hh
    cases h3 : (zT x.k != 4 && zT x.k != 5) || decide (((zJ S (uV S x) (zU x.k) (zT x.k == 5)).1 < 520093696 \/ 520094080 <= (zJ S (uV S x) (zU x.k) (zT x.k == 5)).1) /\ (zT x.k = 4 \/ (zJ S (uV S x) (zU x.k) (zT x.k == 5)).2.1 ≠ -1 \/ (0 <= (zJ S (uV S x) (zU x.k) (zT x.k == 5)).1 /\ C ((zJ S (uV S x) (zU x.k) (zT x.k == 5)).1 / 1024).toNat = false))) with
    | false => rw [h3] at hh; exact hh.elim
    | true =>
     rw [h3] at hh
     dsimp only at hh
     simp only [Bool.or_eq_true, Bool.and_eq_true, bne_iff_ne, decide_eq_true_eq] at h3
     cases h9 : (x.k == 55 && x.d == 9) with
     | true => rw [h9] at hh; exact hh.elim
     | false =>
      rw [h9] at hh
      dsimp only at hh
      have h9 : x.k = 55 -> x.d ≠ 9 := fun e => by rw [e] at h9; simpa using h9
      have w1 : Wl t (vJ p B S x).1 := hw.act hx.t1 h9
      have f4 : ((4 : Int) == 5) = false := rfl
      have f5 : ((5 : Int) == 5) = true := rfl
      have h5 : zT x.k = 5 -> (zJ S (uV S x) (zU x.k) true).2.1 = -1 -> 0 <= (zJ S (uV S x) (zU x.k) true).1 /\ C ((zJ S (uV S x) (zU x.k) true).1 / 1024).toNat = false := fun c hm => by
       rw [c, f5] at h3
       rcases h3 with h3 | ⟨_, h3 | h3 | h3⟩
       .exact absurd rfl h3.2
       .cases h3
       .exact absurd hm h3
       .exact h3
      have okx : Okx p S x := by
       refine ⟨fun c _ => ?_, fun c _ => ?_, hz, fun _ => h2⟩
       .rw [c, f4] at h3
        rcases h3 with h3 | ⟨h3, _⟩
        .exact absurd rfl h3.1
        .exact .inr h3
       .rw [c, f5] at h3
        rcases h3 with h3 | ⟨h3, _⟩
        .exact absurd rfl h3.2
        .exact .inr h3
      have e2 := ex _ rfl
      cases hc : (vJ p B S x).2.2.1 == -1 with
      | false =>
       rw [hc] at hh
       rw [if_pos (by simpa using hc)] at e2
       refine ⟨_, _, okx, ?_, by rw [e2], fun _ => h5, zI1 h5, rfl, rfl, hh⟩
       rw [e2]
       exact (zKu w1 ht _ _).trans (sL (w1.ent _ _)).symm
      | true =>
       rw [hc] at hh
       rw [if_neg (by simpa using hc)] at e2
       refine ⟨_, _, okx, ?_, by rw [e2], fun _ => h5, zI1 h5, rfl, rfl, hh⟩
       rw [e2]
       exact (dY w1 ht hx.d1 _ _).trans (sL (w1.goon hx.d1 _ _)).symm
end
section
variable {C : Nat -> Bool} {p : Nat} {I : Int -> In} {D : Dv}
theorem yNj (hp : p <= 64) (hD : D.ev = []) {h : Hint} {s : Sr} {B : Nat -> Int} {k : Sr -> (Nat -> Int) -> Prop} (hl : s.n.length <= 73) (hP : Prog C p I B) (ht : s.t < 1000000) (hh : yQg C p I h s B k) :
  ∃ s' B', StepC C p D (uW s) B (uW s') B' /\ Cod C B B' /\ s'.n.length = 73 /\ s'.t = s.t + 1 /\ k s' B' := by
 have hw := Wl.of s hl
 unfold yQg at hh
 dsimp only at hh
 generalize hS : uW s = S at hh hw ⊢
 cases hc : dC S && mD C p S with
 | false => rw [hc] at hh; exact hh.elim
 | true =>
  rw [hc] at hh
  dsimp only at hh
  rw [Bool.and_eq_true] at hc
  obtain ⟨hcalm, hplace⟩ := hc
  have calm : Calm S /\ S.n 0 = 0 := by
   unfold dC at hcalm
   simp only [Bool.and_eq_true, Bool.not_eq_true', beq_iff_eq] at hcalm
   exact ⟨⟨hcalm.1.1, hcalm.1.2⟩, hcalm.2⟩
  unfold mD at hplace
  simp only [Bool.and_eq_true, Bool.or_eq_true, decide_eq_true_eq, bne_iff_ne] at hplace
  obtain ⟨hdev, hplace⟩ := hplace
  have due : uR D (S.n 72) = false := by unfold uR rW; rw [hD]; rfl
  have pl : Place C p B S := ⟨fun a r e hlt => by
   rw [e] at hplace
   rcases hplace with (h | h) | h
   .exact absurd rfl h
   .dsimp only at h; omega
   .exact ⟨h.1, hP.page h.2.1 hlt h.2.2 h.1⟩⟩
  cases hT : xD S with
  | true =>
   rw [hT] at hh
   have es : xN p B S = (gA S 0 false, B, 0) := by unfold xN; rw [if_pos hT]
   refine ⟨_, B, ⟨calm.1, calm.2, due, pl, fun _ _ => rfl, .inl ⟨⟨calm.1, calm.2, .inr (.inl hdev), fun h => by rw [hT] at h; cases h⟩, ?_, by rw [es], fun w => by have := w.1; rw [hT] at this; cases this⟩⟩, fun _ _ => rfl, rfl, rfl, hh⟩
   rw [es]
   exact (zKu hw ht _ _).trans (sL (hw.ent _ _)).symm
  | false =>
   rw [hT] at hh
   dsimp only at hh
   cases hL : (zJ S (S.n 34) 4 false).2.1 == -1 with
   | false =>
    rw [hL] at hh
    have hL : (zJ S (S.n 34) 4 false).2.1 ≠ -1 := by simpa using hL
    have es : xN p B S = (gA (zAm S (S.n 34) (zJ S (S.n 34) 4 false).2.1) (zJ S (S.n 34) 4 false).2.1 (zJ S (S.n 34) 4 false).2.2, B, (zJ S (S.n 34) 4 false).2.1) := by
     unfold xN
     rw [if_neg (by rw [hT]; simp)]
     dsimp only
     rw [if_pos hL]
    refine ⟨_, B, ⟨calm.1, calm.2, due, pl, fun _ _ => rfl, .inl ⟨⟨calm.1, calm.2, .inr (.inl hdev), fun _ h => absurd h hL⟩, ?_, by rw [es], fun w => absurd w.2.1 hL⟩⟩, fun _ _ => rfl, rfl, rfl, hh⟩
    rw [es]
    exact (zKu (hw.bad _ _) ht _ _).trans (sL ((hw.bad _ _).ent _ _)).symm
   | true =>
    rw [hL] at hh
    dsimp only at hh
    have hL : (zJ S (S.n 34) 4 false).2.1 = -1 := by simpa using hL
    generalize hLL : zJ S (S.n 34) 4 false = L at hh hL hplace hdev
    obtain ⟨a, cd, r⟩ := L
    dsimp only at hh hL hplace hdev
    subst hL
    by_cases ha : a < p * 1024
    rotate_left
    .rw [decide_eq_false ha] at hh; exact hh.elim
    rw [decide_eq_true ha] at hh
    dsimp only at hh
    have hpa : C (a / 1024).toNat = true /\ 0 <= a /\ a % 4 = 0 := by
     rcases hplace with (h | h) | h
     .exact absurd rfl h
     .omega
     .exact h
    obtain ⟨hC, a0, a4⟩ := hpa
    obtain ⟨hI, hR⟩ := hP.i a a0 ha a4 hC
    have eI : xQ B S = I a := by unfold xQ; rw [hLL]; exact hI
    have hev : xO p a 4 := ⟨by simp, a4, by unfold cE; omega⟩
    have es := bD (p := p) (B := B) hT hLL hev
    rw [hI] at es
    cases hq : zT (I a).k == 1 && !S.p 36 with
    | true =>
     rw [hq] at hh
     simp only [Bool.and_eq_true, Bool.not_eq_true'] at hq
     have hpl : yX (I a) = true := by unfold yX; rw [hR.r, hq.1]; rfl
     refine ⟨_, B, ⟨calm.1, calm.2, due, pl, fun _ _ => rfl, .inr ⟨hT, hq.2, ⟨a, r, hLL, ha⟩, by rw [eI]; exact hpl, ?_, rfl⟩⟩, fun _ _ => rfl, rfl, rfl, hh⟩
     rw [eI]
     exact (sL (hw.liftP _)).trans (zW9 hw ht hpl).symm
    | false =>
     rw [hq] at hh
     dsimp only at hh
     cases hf : fxP (I a) && ((I a).k != 1 || (I a).d == 0) with
     | false => rw [hf] at hh; exact hh.elim
     | true =>
      rw [hf] at hh
      dsimp only at hh
      simp only [Bool.and_eq_true, Bool.or_eq_true, bne_iff_ne, beq_iff_eq] at hf
      have hx := yPa hf.1 hR
      obtain ⟨s', B', okx, e1, e2, hwr, cod, l', t', hk⟩ := yP1 hw ht hR hx (fun h => hf.2.resolve_left fun g => g h) hh
      refine ⟨s', B', ⟨calm.1, calm.2, due, pl, cod, .inl ⟨⟨calm.1, calm.2, .inr (.inl (by rw [hLL]; exact hdev)), fun _ _ _ => by rw [eI]; exact ⟨hx, okx⟩⟩, by rw [es]; exact e1, by rw [es]; exact e2, fun w j hj => ?_⟩⟩, cod, l', t', hk⟩
      have w4 := w.2.2.2
      rw [eI] at w4
      have hm : (zJ (uW s) (uV (uW s) (I a)) (zU (I a).k) true).2.1 = -1 := by
       rw [hS]
       have h4 := w4.2.2.2
       unfold vU at h4
       dsimp only at h4
       split at h4
       .rename_i hne; exact absurd h4 hne
       .rename_i hne; simpa using hne
      rw [hS] at hm
      obtain ⟨g1, g2⟩ := hwr w4.1 w4.2.1 hm
      unfold wrA at hj
      rw [eI] at hj
      rw [<- hj] at g2
      simpa using g2
end
def sr0 : Sr := ⟨[0, 0, 0, 0, 0, 0, 0, 0, 0, 0, 0, 0, 0, 0, 0, 0, 0, 0, 0, 0, 0, 0, 0, 0, 0, 0, 0, 0, 0, 0, 0, 0, 0, 0, 2147484672, 2147484676, 0, 0, 0, 0, 0, 0, 0, 0, 0, 0, 0, 0, 0, 0, 0, 0, 0, 0, 98304], false, false, false, 0⟩
theorem yOt : uW sr0 = St0 := by
 refine St.ext (fun i => ?_) (fun i => ?_)
 .by_cases c : i < 73
  .revert i; decide +kernel
  .have h1 := (Wl.of sr0 (by decide)).hi i (by omega)
   rw [h1]
   show (0 : Int) = if i = 34 then _ else if i = 35 then _ else if i = 54 then _ else 0
   rw [if_neg (by omega), if_neg (by omega), if_neg (by omega)]
 .show (match i == 36 with | true => false | false => match i == 37 with | true => false | false => match i == 71 with | true => false | false => false) = false
  cases i == 36 <;> cases i == 37 <;> cases i == 71 <;> rfl
def yO5 (l h : List In) (a : Int) : In := match decide (1024 <= a) && decide (a < 1024 + 4 * (l.length : Int)) with
 | true => jW l ((a - 1024) / 4).toNat
 | false => match decide (384 <= a) && decide (a < 384 + 4 * (h.length : Int)) with
  | true => jW h ((a - 384) / 4).toNat
  | false => oW
def zAl (l h : List In) : Nat -> Int := uQ 4096 (eY (l.length * 4) (pK l) (h.length * 4) (pK h))
def zWp (x : In) : Bool := bB x && decide (x.i < 65536)
theorem zWf {x : In} (h : zWp x = true) : InR x := by
 unfold zWp at h
 simp only [Bool.and_eq_true, decide_eq_true_eq] at h
 obtain ⟨h1, h2, h3⟩ := fD h.1
 exact ⟨h1, h2, h.2, h3⟩
theorem yXs : InR oW := zWf (by decide +kernel)
theorem zVx {l : List In} (hl : ∀ x ∈ l, InR x) {i : Nat} (hi : i < l.length) : InR (jW l i) := by
 have e : jW l i = l[i] := by simp [jW, List.getD, hi]
 rw [e]; exact hl _ (List.getElem_mem hi)
theorem zJk {l : List In} (hl : ∀ x ∈ l, InR x) {i : Nat} (hi : i < l.length) {B : Nat -> Int} {a : Int} (a0 : 0 <= a) (hB : ∀ t, t < 4 -> B (a.toNat + t) = pK l (4 * i + t)) : ofS (mZ B a 4) = jW l i := by
 rw [zG7 hi a0 hB (yBm _)]
 have r := zVx hl hi
 exact zHb r.i0 r.r
theorem zQi {l h : List In} (hl : ∀ x ∈ l, InR x) (hh : ∀ x ∈ h, InR x) (nl : l.length <= 768) (nh : h.length <= 160) (C : Nat -> Bool) : Prog C 4 (yO5 l h) (zAl l h) := by
 refine ⟨fun a a0 a1 a4 _ => ?_⟩
 have a1 : a < 4096 := a1
 unfold yO5
 by_cases c1 : 1024 <= a /\ a < 1024 + 4 * (l.length : Int)
 .rw [decide_eq_true c1.1, decide_eq_true c1.2]
  simp only [Bool.and_true]
  have hi : ((a - 1024) / 4).toNat < l.length := by omega
  refine ⟨zJk hl hi a0 fun t ht => ?_, zVx hl hi⟩
  unfold zAl uQ eY
  rw [if_pos (by omega), if_pos (by omega)]
  congr 1; omega
 .have e1 : (decide (1024 <= a) && decide (a < 1024 + 4 * (l.length : Int))) = false := by
   simp only [Bool.and_eq_false_iff, decide_eq_false_iff_not]; omega
  rw [e1]
  dsimp only
  by_cases c2 : 384 <= a /\ a < 384 + 4 * (h.length : Int)
  .rw [decide_eq_true c2.1, decide_eq_true c2.2]
   simp only [Bool.and_true]
   have hi : ((a - 384) / 4).toNat < h.length := by omega
   refine ⟨zJk hh hi a0 fun t ht => ?_, zVx hh hi⟩
   unfold zAl uQ eY
   rw [if_pos (by omega), if_neg (by omega), if_pos (by omega)]
   congr 1; omega
  .have e2 : (decide (384 <= a) && decide (a < 384 + 4 * (h.length : Int))) = false := by
    simp only [Bool.and_eq_false_iff, decide_eq_false_iff_not]; omega
   rw [e2]
   dsimp only
   have z : mZ (zAl l h) a 4 = 0 := zHz fun t ht => by
    unfold zAl uQ eY
    rw [if_pos (by omega), if_neg (by omega), if_neg (by omega)]
   rw [z]
   exact ⟨zO9, yXs⟩
def hZ (l : List Nat) (j : Nat) : Bool := l.any (· == j)
def spl : (Nat -> AV) -> List (Nat -> AV) -> Nat -> (Nat -> AV)
 | z, [], _ => z
 | z, c :: cs, i => spl (zC z (i * 6) 6 c) cs (i + 1)
theorem yBv : ∀ (cs : List (Nat -> AV)) (z : Nat -> AV) (i j : Nat), j < i * 6 -> spl z cs i j = z j
 | [], z, i, j, h => rfl
 | c :: cs, z, i, j, h => by
  show spl (zC z (i * 6) 6 c) cs (i + 1) j = _
  rw [yBv cs _ (i + 1) j (by omega)]
  unfold zC; rw [if_neg (by omega)]
theorem yCo : ∀ (cs : List (Nat -> AV)) (l : List In) (z : Nat -> AV) (i : Nat), All2 tQ cs l -> ∀ q, q < l.length -> tQ (fun j => spl z cs i ((i + q) * 6 + j)) (jW l q)
 | [], [], z, i, h, q, hq => by simp at hq
 | c :: cs, x :: l, z, i, h, 0, hq => by
  refine tQ.congr (c := c) h.1 fun j hj => ?_
  show spl (zC z (i * 6) 6 c) cs (i + 1) ((i + 0) * 6 + j) = _
  rw [yBv cs _ (i + 1) _ (by omega)]
  unfold zC; rw [if_pos (by omega)]; congr 1; omega
 | c :: cs, x :: l, z, i, h, q + 1, hq => by
  have := yCo cs l (zC z (i * 6) 6 c) (i + 1) h.2 q (by simpa using hq)
  have e : i + 1 + q = i + (q + 1) := by omega
  rw [e] at this
  exact this
 | [], _ :: _, _, _, h, _, _ => h.elim
 | _ :: _, [], _, _, h, _, _ => h.elim
section
variable {m : Mem}
theorem zU0 {b : Nat} {z : Nat -> AV} {t : TypeId} (cs : List (Nat -> AV)) (l : List In) (e : m.obj b = some ⟨l.length * 6, spl z cs 0, t, false⟩) (h : All2 tQ cs l) : uH m (.sl b 0 l.length (.ex l.length)) l :=
 uH.row e rfl rfl fun i hi => by
  have := yCo cs l z 0 h i hi
  rw [Nat.zero_add] at this
  exact this
def upl : (Nat -> AV) -> List AV -> Nat -> (Nat -> AV)
 | z, [], _ => z
 | z, v :: vs, i => upl (upd z i v) vs (i + 1)
theorem yDt : ∀ (vs : List AV) (z : Nat -> AV) (i j : Nat), j < i -> upl z vs i j = z j
 | [], z, i, j, h => rfl
 | v :: vs, z, i, j, h => by
  show upl (upd z i v) vs (i + 1) j = _
  rw [yDt vs _ (i + 1) j (by omega)]
  unfold upd; rw [if_neg (by omega)]
theorem yCe : ∀ (vs : List AV) (z : Nat -> AV) (i q : Nat), q < vs.length -> upl z vs i (i + q) = zH vs q
 | [], z, i, q, h => by simp at h
 | v :: vs, z, i, 0, h => by
  show upl (upd z i v) vs (i + 1) (i + 0) = v
  rw [yDt vs _ (i + 1) _ (by omega)]
  unfold upd; rw [if_pos (Nat.add_zero i)]
 | v :: vs, z, i, q + 1, h => by
  show upl (upd z i v) vs (i + 1) (i + (q + 1)) = zH vs q
  rw [<- yCe vs (upd z i v) (i + 1) q (by simpa using h)]
  congr 1; omega
theorem zWa {α β : Type} {R : α -> β -> Prop} {d : α} : ∀ {xs : List α} {ys : List β}, All2 R xs ys -> ∀ i, (h : i < ys.length) -> R (xs.getD i d) ys[i]
 | _ :: _, _ :: _, h, 0, hi => h.1
 | _ :: _, _ :: _, h, i + 1, hi => zWa h.2 i (by simpa using hi)
 | [], [], _, i, hi => by simp at hi
theorem zHc : ∀ (vs : List AV) (i : Nat), i < vs.length -> zH vs i = vs.getD i .junk
 | v :: vs, 0, _ => rfl
 | v :: vs, i + 1, h => by
  show zH vs i = _
  rw [zHc vs i (by simpa using h)]; rfl
 | [], i, h => by simp at h
theorem zL3 {b : Nat} {z : Nat -> AV} {t : TypeId} {ro : Bool} (vs : List AV) (Ls : List (List In)) (e : m.obj b = some ⟨Ls.length, upl z vs 0, t, ro⟩) (h : All2 (uH m) vs Ls) (hl : Ls.length <= 20) (hl2 : (Ls.all fun l => Nat.ble l.length 100) = true) {k : AV -> Mem -> Prop} (hk : ∀ v m', uH m' v Ls.flatten -> zA m m' -> (∀ x, own v x -> m.obj x = none) -> k v m') : F17 (.sl b 0 Ls.length (.ex Ls.length)) m k := by
 have hn := h.length
 refine zYz ⟨⟨_, e, rfl, fun i hi => ?_⟩, hn, fun i hi => ?_⟩ hl (fun l hm => Nat.le_of_ble_eq_true (List.all_eq_true.1 hl2 l hm)) hk
 .have := yCe vs z 0 i (by omega)
  rw [Nat.zero_add] at this; exact this
 .rw [zHc vs i (by omega)]
  exact zWa h i hi
theorem zZg (l : List In) : uQ 4096 (eY (l.length * 4) (pK l) 0 fun _ => 0) = zAl l [] := by
 funext j
 unfold zAl uQ eY
 split
 .split
  .rfl
  .rw [if_neg (by omega), if_neg (by simp)]
 .rfl
variable {m0 : Mem} {C : Nat -> Bool} {e : Nat} {q : BB} {c : Nat} {p : Nat} {D : Dv} {n : Int} {S : St} {B : Nat -> Int}
theorem yAx (b o : Nat) (K : Bool -> Prop) : pZ (.ptr b o) K = K false := rfl
end
theorem yUh {t v : Int} (t0 : 0 <= t) (t1 : t < 32) (hv : wC v) : InR ⟨53, 0, t, 0, 0, v / 65536⟩ := by
 obtain ⟨h1, h2, h3⟩ := fD (yOx t0 t1 hv).1
 obtain ⟨v0, v1⟩ := hv
 exact ⟨h1, h2, by show v / 65536 < 65536; omega, h3⟩
theorem yWl {k t s v : Int} (hk : k = 47 \/ k = 49 \/ k = 50 \/ k = 51) (t0 : 0 <= t) (t1 : t < 32) (s0 : 0 <= s) (s1 : s < 32) : InR (rX k t s v) := by
 obtain ⟨h1, h2, h3⟩ := fD (yQs (v := v) hk t0 t1 s0 s1).1
 exact ⟨h1, h2, by show v % 65536 < 65536; omega, h3⟩
theorem yTt {t v : Int} (t0 : 0 <= t) (t1 : t < 32) (hv : wC v) : ∀ x ∈ liS t v, InR x := by
 intro x hx
 simp only [liS, List.mem_cons, List.not_mem_nil, or_false] at hx
 rcases hx with rfl | rfl
 .exact yUh t0 t1 hv
 .exact yWl (by simp) t0 t1 t0 t1
theorem yEm {l : List In} (h : l.all zWp = true) : ∀ x ∈ l, InR x := fun x hx => zWf (List.all_eq_true.1 h x hx)
theorem yLc {l k : List In} (hl : ∀ x ∈ l, InR x) (hk : ∀ x ∈ k, InR x) : ∀ x ∈ l ++ k, InR x := fun x hx => (List.mem_append.1 hx).elim (hl x) (hk x)
theorem yXl {v : Int} (hv : wC v) : bits .or .u32 (IntKind.wrap .u32 (v / 65536 * 65536)) (v % 65536) = v := by
 obtain ⟨v0, v1⟩ := hv
 rw [yV, Int.emod_eq_of_lt (by omega) (by omega), yJq (by omega) (by omega) (by omega) (by omega)]
 omega
def yFw (I : Int -> In) (a0 : Int) (l : List In) (a : Int) : In := match decide (a0 <= a) && decide (a < a0 + 4 * (l.length : Int)) with
 | true => jW l ((a - a0) / 4).toNat
 | false => I a
theorem Prog.put {C : Nat -> Bool} {p : Nat} {I : Int -> In} {B : Nat -> Int} (h : Prog C p I B) {l : List In} (hl : ∀ x ∈ l, InR x) {a0 : Int} (h0 : 0 <= a0) (h4 : a0 % 4 = 0) : Prog C p (yFw I a0 l) (lW B a0 (l.length * 4) (pK l)) := by
 refine ⟨fun a g0 g1 g4 gC => ?_⟩
 unfold yFw
 by_cases c1 : a0 <= a /\ a < a0 + 4 * (l.length : Int)
 .rw [decide_eq_true c1.1, decide_eq_true c1.2]
  simp only [Bool.and_true]
  have hi : ((a - a0) / 4).toNat < l.length := by omega
  refine ⟨zJk hl hi g0 fun t ht => ?_, zVx hl hi⟩
  unfold lW
  rw [if_pos (by omega)]
  congr 1; omega
 .have e1 : (decide (a0 <= a) && decide (a < a0 + 4 * (l.length : Int))) = false := by
   simp only [Bool.and_eq_false_iff, decide_eq_false_iff_not]; omega
  rw [e1]
  have e2 : mZ (lW B a0 (l.length * 4) (pK l)) a 4 = mZ B a 4 := iU _ fun t ht => by
   have ht : t < 4 := ht
   unfold lW
   rw [if_neg (by omega)]
  rw [e2]
  exact h.i a g0 g1 g4 gC
end Go.Proofs.YtkiggdgphbkneaaGreat.Am
