/- A program that is read from the disk: the law's function. Conditions: what is handed in is plain data. -/
import Derived.Test.YtkiggdgphbkneaaGreatTopDiskX28
namespace Go.Proofs.YtkiggdgphbkneaaGreat.Am
set_option linter.unusedVariables false
set_option linter.unusedSimpArgs false
set_option maxRecDepth 100000
section
variable {m : Mem}
theorem aB {r v : Int} (hr : r = 0 \/ r = 4 \/ r = 8) (hv : wC v) {k : AV -> Mem -> Prop} (hk : ∀ w m', uH m' w (zE8 r v) -> w.one = true -> zA m m' -> (∀ x, own w x -> m.obj x = none) -> k w m') : F20 5 r v m k := by
 unfold F20
 unfold F38
 have e1 : IntKind.wrap .u32 (IntKind.wrap .u32 (3204448256 + IntKind.wrap .u32 (IntKind.wrap .u32 5 * 64)) + r) = 3204448576 + r := by
  rcases hr with rfl | rfl | rfl <;> decide +kernel
 rw [e1]
 have ur : wC (3204448576 + r) := by unfold wC; omega
 refine ⟨zA.self m, eQ ur fun b2 m2 _ K2 i2 => eQ hv fun b4 m4 _ K4 i4 => dK ⟨by decide, by decide⟩ fun c6 h6 => zW fun b10 m9 _ K9 e9 _ => ?_⟩
 have i9 := zU0 [c6] [rX 73 9 8 0] e9 ⟨h6, trivial⟩
 refine zG rfl (zG rfl (zW fun b12 m11 _ K11 e11 _ => ?_))
 refine zL3 [.sl b2 0 2 (.ex 2), .sl b4 0 2 (.ex 2), .sl b10 0 1 (.ex 1)] [liS 8 (3204448576 + r), liS 9 v, [rX 73 9 8 0]] e11 ⟨i2.keep ((K4.trans K9).trans K11), i4.keep (K9.trans K11), i9.keep K11, trivial⟩ (by show (3 : Nat) <= 20; decide) rfl fun w m13 iw Kw ow => ?_
 have ef : [liS 8 (3204448576 + r), liS 9 v, [rX 73 9 8 0]].flatten = zE8 r v := rfl
 rw [ef] at iw
 have K := ((K2.trans K4).trans K9).trans (K11.trans Kw)
 refine hk w m13 iw ?_ K fun x hx => ?_
 .obtain ⟨c, h1, _⟩ := iw
  rcases h1.form with ⟨a, rfl⟩ | ⟨b, o, cap, rfl⟩ <;> rfl
 .exact zX (((K2.trans K4).trans K9).trans K11) (ow x hx)
theorem yAj {b : Nat} (K : AV -> Prop) : ∀ k : Nat, k < 4 -> qH 1 (.sl b 0 256 (.ex 256)) (some (IntKind.wrap .i64 ((k : Int) * 64))) none K = K (.sl b (k * 64) (256 - k * 64) (.ex (256 - k * 64))) := by
 intro k hk
 iterate 4
  rcases k with _ | k
  .rfl
 omega
theorem zRi {n hi : Int} (h0 : 0 < hi) (h1 : hi < 4294967296) (n0 : -9223372036854775808 <= n) (n1 : n < 9223372036854775808) {k : Int -> Mem -> Prop} (hk : ∀ v, 0 <= v -> v <= hi -> k v m) : F15 n 0 hi m k := by
 unfold F15
 have key : lZ n 0 hi m (fun x1 m2 => (zA m m2 /\ k x1 m)) := by
  unfold lZ
  rw [zK (n := hi - 0) (by omega) (by omega), zK (n := hi - 0 + 1) (by omega) (by omega)]
  have ht : -(hi + 1) < n.tmod (hi - 0 + 1) /\ n.tmod (hi - 0 + 1) < hi + 1 := by
   by_cases c : 0 <= n
   .rw [qP c]
    have a := Int.emod_nonneg n (show hi - 0 + 1 ≠ 0 by omega)
    have b := Int.emod_lt_of_pos n (show 0 < hi - 0 + 1 by omega)
    omega
   .have e : n.tmod (hi - 0 + 1) = -((-n).tmod (hi - 0 + 1)) := by rw [Int.neg_tmod]; omega
    rw [e, qP (by omega)]
    have a := Int.emod_nonneg (-n) (show hi - 0 + 1 ≠ 0 by omega)
    have b := Int.emod_lt_of_pos (-n) (show 0 < hi - 0 + 1 by omega)
    omega
  generalize n.tmod (hi - 0 + 1) = r at ht
  refine zB (by simp; omega) (zD _ (fun c => ?_) fun c => ?_)
  .have c : r < 0 := by simpa using c
   rw [zK (n := r + hi) (by omega) (by omega), zK (n := r + hi - 0) (by omega) (by omega), zK (n := r + hi - 0 + 1) (by omega) (by omega), zK (by omega) (by omega)]
   exact ⟨zA.self m, hk _ (by omega) (by omega)⟩
  .have c : ¬ r < 0 := by simpa using c
   rw [zK (by omega) (by omega)]
   exact ⟨zA.self m, hk _ (by omega) (by omega)⟩
 refine zD _ (fun c => zD _ (fun c1 => ⟨zA.self m, hk _ (by simpa using c) (by simpa using c1)⟩) fun _ => key) fun _ => key
def zJr (k : Nat) (v : Int) : Nat -> Int := fun i => if k * 64 <= i /\ i < k * 64 + 16 then pK (liS 5 v ++ oD 42 0 0 0) (i - k * 64) else 0
theorem yQ0 (v : Int) : ∀ j : Nat, j < 16 -> jW (zKy v) j = if j < 4 then jW (liS 5 v ++ oD 42 0 0 0) j else oW := by
 intro j hj
 iterate 16
  rcases j with _ | j
  .rfl
 omega
theorem yR3 (v : Int) {i : Nat} (hi : i < 64) : pK (zKy v) i = if i < 16 then pK (liS 5 v ++ oD 42 0 0 0) i else 0 := by
 have e := yQ0 v (i / 4) (by omega)
 unfold pK
 rw [e]
 by_cases c : i < 16
 .rw [if_pos c, if_pos (by omega)]
 .rw [if_neg c, if_neg (by omega), show zBu oW = 0 by decide +kernel, iN]
  simp
theorem yB0 {v : Int} (hv : wC v) {n : Nat} (n4 : n < 4) (dr : ∀ x ∈ zAn n, InR x) (hl : (zAn n).length <= 768) : Prog (hZ [1, 2]) 4 (yFw (fN n) 2560 (zKy v)) (wD (gF { nd := (256 + 63) / 64 * 64, dk := uQ 256 (zJr n v) } n) (zAl (zAn n) [])) := by
 have h2 : Prog (hZ [1, 2]) 4 (fN n) (zAl (zAn n) []) := zQi dr (h := []) (fun x hx => by simp at hx) hl (by decide) (hZ [1, 2])
 have sr : ∀ x ∈ zKy v, InR x := yLc (yTt (by decide) (by decide) hv) (yEm (by decide +kernel))
 have h3 := h2.put sr (a0 := 2560) (by decide) (by decide)
 have e : wD (gF { nd := (256 + 63) / 64 * 64, dk := uQ 256 (zJr n v) } n) (zAl (zAn n) []) = lW (zAl (zAn n) []) 2560 ((zKy v).length * 4) (pK (zKy v)) := by
  funext j
  unfold wD lW
  show (if (2560 : Int) <= j /\ (j : Int) < 2560 + (64 : Nat) then uQ 256 (zJr n v) ((n : Int).toNat * 64 + (j - (2560 : Int).toNat)) else _) = if (2560 : Int) <= j /\ (j : Int) < 2560 + ((64 : Nat) : Int) then pK (zKy v) (j - (2560 : Int).toNat) else _
  by_cases c : (2560 : Int) <= j /\ (j : Int) < 2560 + ((64 : Nat) : Int)
  .rw [if_pos c, if_pos c, yR3 v (i := j - (2560 : Int).toNat) (by omega)]
   unfold uQ zJr
   rw [if_pos (by omega)]
   by_cases c2 : j - (2560 : Int).toNat < 16
   .rw [if_pos (by omega), if_pos c2]; congr 1; omega
   .rw [if_neg (by omega), if_neg c2]
  .rw [if_neg c, if_neg c]
 rw [e]
 exact h3
theorem TopDisk {x0 x1 x2 : Int} (h0 : wC x0) (g0 : -9223372036854775808 <= x1) (g1 : x1 < 9223372036854775808) {k : Bool -> Mem -> Prop} (hk : ∀ m', k true m') : F3 x0 x1 x2 m k := by
 unfold F3
 refine zRi (by decide) (by decide) g0 g1 fun kk k0 k3 => ?_
 obtain ⟨n, rfl⟩ : ∃ n : Nat, kk = n := ⟨kk.toNat, by omega⟩
 have n4 : n < 4 := by omega
 refine zHh (by decide) (by decide) (by decide) fun b3 m4 hb3 K4 e4 O4 => ?_
 have hL : IsL m4 1 (.sl b3 0 256 (.ex 256)) 256 (fun _ => .flat (.int .u8 0)) := (IsL.row (esz := 1) e4 (by simp) rfl).congr fun i hi => zB0 _ i
 rw [yAj _ n n4]
 refine eQ h0 fun b6 m7 _ K7 i7 => zYh fun b8 m9 _ K9 i9 => zG rfl (zG rfl (zW fun b11 m10 _ K10 e10 _ => ?_))
 refine zL3 [.sl b6 0 2 (.ex 2), .sl b8 0 2 (.ex 2)] [liS 5 x0, oD 42 0 0 0] e10 ⟨i7.keep (K9.trans K10), i9.keep K10, trivial⟩ (by show (2 : Nat) <= 20; decide) rfl fun v12 m13 i13 K13 o13 => ?_
 have ef : [liS 5 x0, oD 42 0 0 0].flatten = liS 5 x0 ++ oD 42 0 0 0 := by simp
 rw [ef] at i13
 have inr : ∀ x ∈ liS 5 x0 ++ oD 42 0 0 0, InR x := yLc (yTt (by decide) (by decide) h0) (yEm (by decide +kernel))
 refine aS i13 (by show (4 : Nat) <= 1000; decide) (fun x hx => (inr x hx).i0) fun v14 m15 L15 K15 o15 => ?_
 have hL15 := hL.keep ((((K7.trans K9).trans K10).trans K13).trans K15)
 refine Eq.mp (yAj (fun v5 => qF 1 v5 v14 m15 _) n n4) ?_
 have L15 : IsL m15 1 v14 16 (cB (pK (liS 5 x0 ++ oD 42 0 0 0))) := L15
 refine zWh hL15 L15.r (l := n * 64) (by rw [zK (by omega) (by omega)]; omega) (by omega) fun m17 u L17 F17 o17 => ?_
 have ux : wC ((n : Int)) := by unfold wC; omega
 rw [show IntKind.wrap .u32 (n : Int) = n by rw [yV]; omega]
 refine aB (.inl rfl) ux fun v18 m19 i18 q18 K19 _ => aB (.inr (.inl rfl)) ⟨by decide, by decide⟩ fun v20 m21 i20 q20 K21 _ => aB (.inr (.inr rfl)) ⟨by decide, by decide⟩ fun v22 m23 i22 q22 K23 _ => ?_
 refine eQ ⟨by decide, by decide⟩ fun b24 m25 _ K25 i24 => eQ ⟨by decide, by decide⟩ fun b26 m27 _ K27 i26 => dK ⟨by decide, by decide⟩ fun c28 h28 => zW fun b31 m30 _ K30 e30 _ => ?_
 have i30 := zU0 [c28] [rX 47 2 2 65535] e30 ⟨h28, trivial⟩
 refine zI5 (by decide) (by decide) fun b32 m33 _ K33 i32 => zW fun b35 m34 _ K34 e34 _ => ?_
 have i34 := zU0 [_, _] [⟨7, 1, 0, 0, 0, 0⟩, oW] e34 ⟨⟨rfl, rfl, rfl, rfl, rfl, rfl⟩, ⟨rfl, rfl, rfl, rfl, rfl, rfl⟩, trivial⟩
 refine zG q18 (zG q20 (zG q22 (zG rfl (zG rfl (zG rfl (zW fun b37 m36 _ K36 e36 _ => ?_))))))
 have a34 := K36
 have a33 := K34.trans a34
 have a30 := K33.trans a33
 have a27 := K30.trans a30
 have a25 := K27.trans a27
 have a23 := K25.trans a25
 have a21 := K23.trans a23
 have a19 := K21.trans a21
 refine zL3 [v18, v20, v22, .sl b24 0 2 (.ex 2), .sl b26 0 2 (.ex 2), .sl b31 0 1 (.ex 1), .sl b32 0 2 (.ex 2), .sl b35 0 2 (.ex 2)] [zE8 0 n, zE8 4 2560, zE8 8 1, liS 1 2147486208, liS 2 40, [rX 47 2 2 65535], oD 43 2 0 1, [⟨7, 1, 0, 0, 0, 0⟩, oW]] e36
  ⟨i18.keep a19, i20.keep a21, i22.keep a23, i24.keep a25, i26.keep a27, i30.keep a30, i32.keep a33, i34.keep a34, trivial⟩ (by show (8 : Nat) <= 20; decide) rfl fun v38 m39 i39 K39 o39 => ?_
 have ef2 : [zE8 0 (n : Int), zE8 4 2560, zE8 8 1, liS 1 2147486208, liS 2 40, [rX 47 2 2 65535], oD 43 2 0 1, [⟨7, 1, 0, 0, 0, 0⟩, oW]].flatten = zAn n := rfl
 rw [ef2] at i39
 have dr : ∀ x ∈ zAn n, InR x := by
  refine yEm ?_
  have : ∀ j : Nat, j < 4 -> (zAn j).all zWp = true := by
   intro j hj
   iterate 4
    rcases j with _ | j
    .decide +kernel
   omega
  exact this n n4
 have dlen : (zAn n).length = 24 := rfl
 refine aS i39 (by omega) (fun x hx => (dr x hx).i0) fun v40 m41 L41 K41 o41 => ?_
 have a17 := (K19.trans a19).trans (K39.trans K41)
 have Ld := L17.keep a17
 refine eO L41.r (fun i => zCo _ i) (by omega) (v2 := .sl b3 0 256 (.ex 256)) (nd := 256) (fd := zJr n x0) (Ld.r.congr fun i hi => ?_) (fun i _ => ?_) (by decide) (hZ [1]) fun m1 e q c m43 K43 A43 => ?_
 .show (if n * 64 * 1 <= i /\ i < (n * 64 + 16) * 1 then _ else _) = AV.flat (.int .u8 (zJr n x0 i))
  unfold zJr
  simp only [Nat.mul_one]
  by_cases cc : n * 64 <= i /\ i < n * 64 + 16
  .rw [if_pos cc, if_pos cc]; rfl
  .rw [if_neg cc, if_neg cc]
 .unfold zJr; split
  .exact zCo _ _
  .decide
 rw [yAx]
 refine zB rfl ?_
 dsimp only [yD]
 refine A43.cap fun m47 A47 => ?_
 rw [zZg] at A47
 have hP : Prog (hZ [1]) 4 (fN n) (zAl (zAn n) []) := zQi dr (h := []) (fun x hx => by simp at hx) (by omega) (by decide) (hZ [1])
 have H := A47.h
 rw [<- yOt] at H
 obtain ⟨s', D', B', pa, r5, p1, p2⟩ := yF0 h0 n4 (D := { nd := (256 + 63) / 64 * 64, dk := uQ 256 (zJr n x0) }) rfl rfl rfl hP (yB0 h0 n4 dr (by omega))
 refine H.go (by decide) (by decide) pa fun m52 H52 => H52.stateb fun b58 m59 K59 _ s59 => ?_
 rw [yE s59 (by decide) rfl]
 refine zG (by show (lg s'.n 5 == x0) = true; rw [r5]; exact beq_self_eq_true _) ?_
 rw [yE s59 (by decide) rfl]
 refine zG (decide_eq_true p1) ?_
 rw [yE s59 (by decide) rfl]
 exact zG (decide_eq_true p2) (zUh hk)
end
theorem TopDisk_law {m : Mem} {x0 x1 x2 : Int} (h0 : (Lit.int .u32 x0).wf = true) (h1 : (Lit.int .i64 x1).wf = true) (_ : (Lit.int .i64 x2).wf = true) : F3 x0 x1 x2 m isTrue :=
 TopDisk (yPe h0) (by have := zZv h1; omega) (by have := zZv h1; omega) fun _ => rfl
end Go.Proofs.YtkiggdgphbkneaaGreat.Am
