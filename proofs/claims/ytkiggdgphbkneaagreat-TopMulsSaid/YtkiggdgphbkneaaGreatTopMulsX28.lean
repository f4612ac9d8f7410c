/- Runs of the plain machine are rows of steps given ahead. Conditions: programs of instructions that are right, nothing is due. Images as instructions: a program at Reset, a handler at the vector. Conditions: instructions that are right. What the top laws' functions share: rows of instructions in blocks, a machine with a program, its State in a box. Conditions: instructions that are right. The program of products: its rounds, its path. Conditions: words. Products by adding and shifting, and by the instruction, are the same: the law's function. Conditions: what is handed in is plain data. -/
import Derived.Test.YtkiggdgphbkneaaGreatTopMulsX27
namespace Go.Proofs.YtkiggdgphbkneaaGreat.Am
set_option linter.unusedVariables false
set_option linter.unusedSimpArgs false
set_option maxRecDepth 100000
section
variable {C : Nat → Bool} {p : Nat} {I : Int → In} {D : Dv}
theorem stp_ok (hp : p ≤ 64) (hD : D.ev = []) {h : Hint} {s : Sr} {B : Nat → Int} {k : Sr → (Nat → Int) → Prop} (hl : s.n.length ≤ 73) (hP : Prog C p I B) (ht : s.t < 1000000) (hh : stpK C p I h s B k) :
  ∃ s' B', StepC C p D (toSt s) B (toSt s') B' ∧ Cod C B B' ∧ s'.n.length = 73 ∧ s'.t = s.t + 1 ∧ k s' B' := by
 have hw := Wl.of s hl
 unfold stpK at hh
 dsimp only at hh
 generalize hS : toSt s = S at hh hw ⊢
 cases hc : calmP S && placeP C p S with
 | false => rw [hc] at hh; exact hh.elim
 | true =>
  rw [hc] at hh
  dsimp only at hh
  rw [Bool.and_eq_true] at hc
  obtain ⟨hcalm, hplace⟩ := hc
  have calm : Calm S ∧ S.n 0 = 0 := by
   unfold calmP at hcalm
   simp only [Bool.and_eq_true, Bool.not_eq_true', beq_iff_eq] at hcalm
   exact ⟨⟨hcalm.1.1, hcalm.1.2⟩, hcalm.2⟩
  unfold placeP at hplace
  simp only [Bool.and_eq_true, Bool.or_eq_true, decide_eq_true_eq, bne_iff_ne] at hplace
  obtain ⟨hdev, hplace⟩ := hplace
  have due : dueD D (S.n 72) = false := by unfold dueD nextD; rw [hD]; rfl
  have pl : Place C p B S := ⟨fun a r e hlt => by
   rw [e] at hplace
   rcases hplace with (h | h) | h
   ·exact absurd rfl h
   ·dsimp only at h; omega
   ·exact ⟨h.1, hP.page h.2.1 hlt h.2.2 h.1⟩⟩
  cases hT : takenS S with
  | true =>
   rw [hT] at hh
   have es : stepS p B S = (entS S 0 false, B, 0) := by unfold stepS; rw [if_pos hT]
   refine ⟨_, B, ⟨calm.1, calm.2, due, pl, fun _ _ => rfl, .inl ⟨⟨calm.1, calm.2, .inr (.inl hdev), fun h => by rw [hT] at h; cases h⟩, ?_, by rw [es], fun w => by have := w.1; rw [hT] at this; cases this⟩⟩, fun _ _ => rfl, rfl, rfl, hh⟩
   rw [es]
   exact (ent_ct hw ht _ _).trans (toSt_nf (hw.ent _ _)).symm
  | false =>
   rw [hT] at hh
   dsimp only at hh
   cases hL : (liesS S (S.n 34) 4 false).2.1 == -1 with
   | false =>
    rw [hL] at hh
    have hL : (liesS S (S.n 34) 4 false).2.1 ≠ -1 := by simpa using hL
    have es : stepS p B S = (entS (badC S (S.n 34) (liesS S (S.n 34) 4 false).2.1) (liesS S (S.n 34) 4 false).2.1 (liesS S (S.n 34) 4 false).2.2, B, (liesS S (S.n 34) 4 false).2.1) := by
     unfold stepS
     rw [if_neg (by rw [hT]; simp)]
     dsimp only
     rw [if_pos hL]
    refine ⟨_, B, ⟨calm.1, calm.2, due, pl, fun _ _ => rfl, .inl ⟨⟨calm.1, calm.2, .inr (.inl hdev), fun _ h => absurd h hL⟩, ?_, by rw [es], fun w => absurd w.2.1 hL⟩⟩, fun _ _ => rfl, rfl, rfl, hh⟩
    rw [es]
    exact (ent_ct (hw.bad _ _) ht _ _).trans (toSt_nf ((hw.bad _ _).ent _ _)).symm
   | true =>
    rw [hL] at hh
    dsimp only at hh
    have hL : (liesS S (S.n 34) 4 false).2.1 = -1 := by simpa using hL
    generalize hLL : liesS S (S.n 34) 4 false = L at hh hL hplace hdev
    obtain ⟨a, cd, r⟩ := L
    dsimp only at hh hL hplace hdev
    subst hL
    by_cases ha : a < p * 1024
    rotate_left
    ·rw [decide_eq_false ha] at hh; exact hh.elim
    rw [decide_eq_true ha] at hh
    dsimp only at hh
    have hpa : C (a / 1024).toNat = true ∧ 0 ≤ a ∧ a % 4 = 0 := by
     rcases hplace with (h | h) | h
     ·exact absurd rfl h
     ·omega
     ·exact h
    obtain ⟨hC, a0, a4⟩ := hpa
    obtain ⟨hI, hR⟩ := hP.i a a0 ha a4 hC
    have eI : instS B S = I a := by unfold instS; rw [hLL]; exact hI
    have hev : evenR p a 4 := ⟨by simp, a4, by unfold inR; omega⟩
    have es := step_exec (p := p) (B := B) hT hLL hev
    rw [hI] at es
    cases hq : classS (I a).k == 1 && !S.p 36 with
    | true =>
     rw [hq] at hh
     simp only [Bool.and_eq_true, Bool.not_eq_true'] at hq
     have hpl : plainS (I a) = true := by unfold plainS; rw [hR.r, hq.1]; rfl
     refine ⟨_, B, ⟨calm.1, calm.2, due, pl, fun _ _ => rfl, .inr ⟨hT, hq.2, ⟨a, r, hLL, ha⟩, by rw [eI]; exact hpl, ?_, rfl⟩⟩, fun _ _ => rfl, rfl, rfl, hh⟩
     rw [eI]
     exact (toSt_nf (hw.liftP _)).trans (lift_ct hw ht hpl).symm
    | false =>
     rw [hq] at hh
     dsimp only at hh
     cases hf : fxP (I a) && ((I a).k != 1 || (I a).d == 0) with
     | false => rw [hf] at hh; exact hh.elim
     | true =>
      rw [hf] at hh
      dsimp only at hh
      simp only [Bool.and_eq_true, Bool.or_eq_true, bne_iff_ne, beq_iff_eq] at hf
      have hx := fx_p hf.1 hR
      obtain ⟨s', B', okx, e1, e2, hwr, cod, l', t', hk⟩ := exe_ok hw ht hR hx (fun h => hf.2.resolve_left fun g => g h) hh
      refine ⟨s', B', ⟨calm.1, calm.2, due, pl, cod, .inl ⟨⟨calm.1, calm.2, .inr (.inl (by rw [hLL]; exact hdev)), fun _ _ _ => by rw [eI]; exact ⟨hx, okx⟩⟩, by rw [es]; exact e1, by rw [es]; exact e2, fun w j hj => ?_⟩⟩, cod, l', t', hk⟩
      have w4 := w.2.2.2
      rw [eI] at w4
      have hm : (liesS (toSt s) (vaS (toSt s) (I a)) (sizeS (I a).k) true).2.1 = -1 := by
       rw [hS]
       have h4 := w4.2.2.2
       unfold storeS at h4
       dsimp only at h4
       split at h4
       ·rename_i hne; exact absurd h4 hne
       ·rename_i hne; simpa using hne
      rw [hS] at hm
      obtain ⟨g1, g2⟩ := hwr w4.1 w4.2.1 hm
      unfold wrA at hj
      rw [eI] at hj
      rw [← hj] at g2
      simpa using g2
theorem run_ok (hp : p ≤ 64) (hD : D.ev = []) : ∀ (l : List Hint) {s : Sr} {B : Nat → Int} {k : Sr → (Nat → Int) → Prop}, s.n.length ≤ 73 → Prog C p I B → s.t + l.length < 1000000 → runK C p I l s B k →
  ∃ s' B', Path C p D l.length (toSt s) B (toSt s') B' ∧ Cod C B B' ∧ s'.n.length ≤ 73 ∧ s'.t = s.t + l.length ∧ k s' B'
 | [], s, B, k, hl, hP, ht, hh => ⟨s, B, .nil _ _, fun _ _ => rfl, hl, rfl, hh⟩
 | h :: l, s, B, k, hl, hP, ht, hh => by
  rw [List.length_cons] at ht
  obtain ⟨s1, B1, st, c1, l1, t1, h1⟩ := stp_ok hp hD hl hP (by omega) hh
  obtain ⟨s2, B2, pa, c2, l2, t2, h2⟩ := run_ok hp hD l (Nat.le_of_eq l1) (hP.cod c1) (by omega) h1
  exact ⟨s2, B2, .cons st pa, fun j hj => (c2 j hj).trans (c1 j hj), l2, by rw [List.length_cons]; omega, h2⟩
end
def sr0 : Sr := ⟨[0, 0, 0, 0, 0, 0, 0, 0, 0, 0, 0, 0, 0, 0, 0, 0, 0, 0, 0, 0, 0, 0, 0, 0, 0, 0, 0, 0, 0, 0, 0, 0, 0, 0, 2147484672, 2147484676, 0, 0, 0, 0, 0, 0, 0, 0, 0, 0, 0, 0, 0, 0, 0, 0, 0, 0, 98304], false, false, false, 0⟩
theorem sr0_st : toSt sr0 = St0 := by
 refine St.ext (fun i => ?_) (fun i => ?_)
 ·by_cases c : i < 73
  ·revert i; decide +kernel
  ·have h1 := (Wl.of sr0 (by decide)).hi i (by omega)
   rw [h1]
   show (0 : Int) = if i = 34 then _ else if i = 35 then _ else if i = 54 then _ else 0
   rw [if_neg (by omega), if_neg (by omega), if_neg (by omega)]
 ·show (match i == 36 with | true => false | false => match i == 37 with | true => false | false => match i == 71 with | true => false | false => false) = false
  cases i == 36 <;> cases i == 37 <;> cases i == 71 <;> rfl
def imgI (l h : List In) (a : Int) : In := match decide (1024 ≤ a) && decide (a < 1024 + 4 * (l.length : Int)) with
 | true => atI l ((a - 1024) / 4).toNat
 | false => match decide (384 ≤ a) && decide (a < 384 + 4 * (h.length : Int)) with
  | true => atI h ((a - 384) / 4).toNat
  | false => nopS
def imgP (l h : List In) : Nat → Int := imgB 4096 (imgS (l.length * 4) (byOf l) (h.length * 4) (byOf h))
def inOk2 (x : In) : Bool := inOk x && decide (x.i < 65536)
theorem inOk2_r {x : In} (h : inOk2 x = true) : InR x := by
 unfold inOk2 at h
 simp only [Bool.and_eq_true, decide_eq_true_eq] at h
 obtain ⟨h1, h2, h3⟩ := inOk_p h.1
 exact ⟨h1, h2, h.2, h3⟩
theorem nop_r : InR nopS := inOk2_r (by decide +kernel)
theorem atI_r {l : List In} (hl : ∀ x ∈ l, InR x) {i : Nat} (hi : i < l.length) : InR (atI l i) := by
 have e : atI l i = l[i] := by simp [atI, List.getD, hi]
 rw [e]; exact hl _ (List.getElem_mem hi)
theorem in_word {l : List In} (hl : ∀ x ∈ l, InR x) {i : Nat} (hi : i < l.length) {B : Nat → Int} {a : Int} (a0 : 0 ≤ a) (hB : ∀ t, t < 4 → B (a.toNat + t) = byOf l (4 * i + t)) : ofS (wdB B a 4) = atI l i := by
 rw [prog_word hi a0 hB (wdOf_u _)]
 have r := atI_r hl hi
 exact of_back_T r.i0 r.r
theorem img_prog {l h : List In} (hl : ∀ x ∈ l, InR x) (hh : ∀ x ∈ h, InR x) (nl : l.length ≤ 768) (nh : h.length ≤ 160) (C : Nat → Bool) : Prog C 4 (imgI l h) (imgP l h) := by
 refine ⟨fun a a0 a1 a4 _ => ?_⟩
 have a1 : a < 4096 := a1
 unfold imgI
 by_cases c1 : 1024 ≤ a ∧ a < 1024 + 4 * (l.length : Int)
 ·rw [decide_eq_true c1.1, decide_eq_true c1.2]
  simp only [Bool.and_true]
  have hi : ((a - 1024) / 4).toNat < l.length := by omega
  refine ⟨in_word hl hi a0 fun t ht => ?_, atI_r hl hi⟩
  unfold imgP imgB imgS
  rw [if_pos (by omega), if_pos (by omega)]
  congr 1; omega
 ·have e1 : (decide (1024 ≤ a) && decide (a < 1024 + 4 * (l.length : Int))) = false := by
   simp only [Bool.and_eq_false_iff, decide_eq_false_iff_not]; omega
  rw [e1]
  dsimp only
  by_cases c2 : 384 ≤ a ∧ a < 384 + 4 * (h.length : Int)
  ·rw [decide_eq_true c2.1, decide_eq_true c2.2]
   simp only [Bool.and_true]
   have hi : ((a - 384) / 4).toNat < h.length := by omega
   refine ⟨in_word hh hi a0 fun t ht => ?_, atI_r hh hi⟩
   unfold imgP imgB imgS
   rw [if_pos (by omega), if_neg (by omega), if_pos (by omega)]
   congr 1; omega
  ·have e2 : (decide (384 ≤ a) && decide (a < 384 + 4 * (h.length : Int))) = false := by
    simp only [Bool.and_eq_false_iff, decide_eq_false_iff_not]; omega
   rw [e2]
   dsimp only
   have z : wdB (imgP l h) a 4 = 0 := zero_word fun t ht => by
    unfold imgP imgB imgS
    rw [if_pos (by omega), if_neg (by omega), if_neg (by omega)]
   rw [z]
   exact ⟨zero_nop, nop_r⟩
def pgs (l : List Nat) (j : Nat) : Bool := l.any (· == j)
def spl : (Nat → AV) → List (Nat → AV) → Nat → (Nat → AV)
 | z, [], _ => z
 | z, c :: cs, i => spl (splice z (i * 6) 6 c) cs (i + 1)
theorem spl_lo : ∀ (cs : List (Nat → AV)) (z : Nat → AV) (i j : Nat), j < i * 6 → spl z cs i j = z j
 | [], z, i, j, h => rfl
 | c :: cs, z, i, j, h => by
  show spl (splice z (i * 6) 6 c) cs (i + 1) j = _
  rw [spl_lo cs _ (i + 1) j (by omega)]
  unfold splice; rw [if_neg (by omega)]
theorem spl_in : ∀ (cs : List (Nat → AV)) (l : List In) (z : Nat → AV) (i : Nat), All2 InC cs l → ∀ q, q < l.length → InC (fun j => spl z cs i ((i + q) * 6 + j)) (atI l q)
 | [], [], z, i, h, q, hq => by simp at hq
 | c :: cs, x :: l, z, i, h, 0, hq => by
  refine InC.congr (c := c) h.1 fun j hj => ?_
  show spl (splice z (i * 6) 6 c) cs (i + 1) ((i + 0) * 6 + j) = _
  rw [spl_lo cs _ (i + 1) _ (by omega)]
  unfold splice; rw [if_pos (by omega)]; congr 1; omega
 | c :: cs, x :: l, z, i, h, q + 1, hq => by
  have := spl_in cs l (splice z (i * 6) 6 c) (i + 1) h.2 q (by simpa using hq)
  have e : i + 1 + q = i + (q + 1) := by omega
  rw [e] at this
  exact this
 | [], _ :: _, _, _, h, _, _ => h.elim
 | _ :: _, [], _, _, h, _, _ => h.elim
section
variable {m : Mem}
theorem row_in {b : Nat} {z : Nat → AV} {t : TypeId} (cs : List (Nat → AV)) (l : List In) (e : m.obj b = some ⟨l.length * 6, spl z cs 0, t, false⟩) (h : All2 InC cs l) : IsIn m (.sl b 0 l.length (.ex l.length)) l :=
 IsIn.row e rfl rfl fun i hi => by
  have := spl_in cs l z 0 h i hi
  rw [Nat.zero_add] at this
  exact this
def upl : (Nat → AV) → List AV → Nat → (Nat → AV)
 | z, [], _ => z
 | z, v :: vs, i => upl (upd z i v) vs (i + 1)
theorem upl_lo : ∀ (vs : List AV) (z : Nat → AV) (i j : Nat), j < i → upl z vs i j = z j
 | [], z, i, j, h => rfl
 | v :: vs, z, i, j, h => by
  show upl (upd z i v) vs (i + 1) j = _
  rw [upl_lo vs _ (i + 1) j (by omega)]
  unfold upd; rw [if_neg (by omega)]
theorem upl_at : ∀ (vs : List AV) (z : Nat → AV) (i q : Nat), q < vs.length → upl z vs i (i + q) = lget vs q
 | [], z, i, q, h => by simp at h
 | v :: vs, z, i, 0, h => by
  show upl (upd z i v) vs (i + 1) (i + 0) = v
  rw [upl_lo vs _ (i + 1) _ (by omega)]
  unfold upd; rw [if_pos (Nat.add_zero i)]
 | v :: vs, z, i, q + 1, h => by
  show upl (upd z i v) vs (i + 1) (i + (q + 1)) = lget vs q
  rw [← upl_at vs (upd z i v) (i + 1) q (by simpa using h)]
  congr 1; omega
theorem all2_at {α β : Type} {R : α → β → Prop} {d : α} : ∀ {xs : List α} {ys : List β}, All2 R xs ys → ∀ i, (h : i < ys.length) → R (xs.getD i d) ys[i]
 | _ :: _, _ :: _, h, 0, hi => h.1
 | _ :: _, _ :: _, h, i + 1, hi => all2_at h.2 i (by simpa using hi)
 | [], [], _, i, hi => by simp at hi
theorem lget_getD : ∀ (vs : List AV) (i : Nat), i < vs.length → lget vs i = vs.getD i .junk
 | v :: vs, 0, _ => rfl
 | v :: vs, i + 1, h => by
  show lget vs i = _
  rw [lget_getD vs i (by simpa using h)]; rfl
 | [], i, h => by simp at h
theorem join_of {b : Nat} {z : Nat → AV} {t : TypeId} {ro : Bool} (vs : List AV) (Ls : List (List In)) (e : m.obj b = some ⟨Ls.length, upl z vs 0, t, ro⟩) (h : All2 (IsIn m) vs Ls) (hl : Ls.length ≤ 20) (hl2 : (Ls.all fun l => Nat.ble l.length 100) = true) {k : AV → Mem → Prop} (hk : ∀ v m', IsIn m' v Ls.flatten → Keeps m m' → (∀ x, own v x → m.obj x = none) → k v m') : F17 (.sl b 0 Ls.length (.ex Ls.length)) m k := by
 have hn := h.length
 refine join_spec ⟨⟨_, e, rfl, fun i hi => ?_⟩, hn, fun i hi => ?_⟩ hl (fun l hm => Nat.le_of_ble_eq_true (List.all_eq_true.1 hl2 l hm)) hk
 ·have := upl_at vs z 0 i (by omega)
  rw [Nat.zero_add] at this; exact this
 ·rw [lget_getD vs i (by omega)]
  exact all2_at h i hi
def D0 : Dv := { nd := (0 + 63) / 64 * 64, dk := imgB 0 fun _ => 0 }
theorem imgP_nil (l : List In) : imgB 4096 (imgS (l.length * 4) (byOf l) 0 fun _ => 0) = imgP l [] := by
 funext j
 unfold imgP imgB imgS
 split
 ·split
  ·rfl
  ·rw [if_neg (by omega), if_neg (by simp)]
 ·rfl
theorem prog_mach {v : AV} {l : List In} (h : IsIn m v l) (hl : l.length ≤ 700) (ho : ∀ x ∈ l, InR x) {most : Int} (C : Nat → Bool) {k : AV → Mem → Prop} (hk : ∀ m1 e q c m', Keeps m m1 → AtF m1 C e q c 4 D0 (clN most) St0 (imgP l []) m' → k (.ptr e 0) m') : F16 v m fun v2 m2 => F23 v2 (.flat (.slice none 0 0)) most m2 k := by
 refine code_spec h (by omega) (fun x hx => (ho x hx).i0) fun v2 m2 L2 K2 o2 => ?_
 refine machine_spec L2.r (fun i => byOf_rng _ i) (by omega) (v2 := .flat (.slice none 0 0)) (nd := 0) (fd := fun _ => 0) (.nil none _) (fun i hi => by omega) (by omega) C fun m1 e q c m3 K3 A3 => hk m1 e q c m3 (K2.trans K3) ?_
 rw [imgP_nil] at A3
 exact A3
variable {m0 : Mem} {C : Nat → Bool} {e : Nat} {q : BB} {c : Nat} {p : Nat} {D : Dv} {n : Int} {S : St} {B : Nat → Int}
theorem nilP_ptr (b o : Nat) (K : Bool → Prop) : knilP (.ptr b o) K = K false := rfl
theorem AtF.stateb (h : AtF m0 C e q c p D n S B m) {z : Nat → AV} {t : TypeId} {k : Nat → Mem → Prop} (hk : ∀ b m', Keeps m m' → m.obj b = none → IsSt m' b S.bare → k b m') : F26 e 0 m fun cc m2 => newK m2 ⟨73, z, t, false⟩ fun b m3 => stG 73 m3 b 0 cc fun m4 => k b m4 :=
 h.state fun cc hcc => newS (S := S.bare) hcc fun b m' hb K O h' => hk b m' K hb h'
theorem run_eq {I : Int → In} (hp : p ≤ 64) (hD : D.ev = []) {l : List Hint} {s T : Sr} (hl : s.n.length ≤ 73) (hP : Prog C p I B) (ht : s.t + l.length < 1000000) (h : runK C p I l s B fun s' B' => s' = T ∧ B' = B) : Path C p D l.length (toSt s) B (toSt T) B := by
 obtain ⟨s', B', pa, _, _, _, e1, e2⟩ := run_ok (D := D) hp hD l hl hP ht h
 subst e1 e2
 exact pa
theorem two_path {I : Int → In} (hp : p ≤ 64) (hD : D.ev = []) (hP : Prog C p I B) (f g : Nat → Sr) (hf : ∀ t, (f t).n.length ≤ 73) (ht : ∀ t, (f t).t = t) (h2 : ∀ t, runK C p I [.no, .no] (f t) B fun s' B' => s' = f (t + 2) ∧ B' = B) (h1 : ∀ t, runK C p I [.no] (f t) B fun s' B' => s' = g (t + 1) ∧ B' = B) :
  ∀ (k n t : Nat), n < k → t + n < 900000 → ∃ T, (T = f (t + n) ∨ T = g (t + n)) ∧ Path C p D n (toSt (f t)) B (toSt T) B
 | 0, n, t, h, _ => by omega
 | k + 1, 0, t, h, _ => ⟨_, .inl rfl, .nil _ _⟩
 | k + 1, 1, t, h, hb => ⟨_, .inr rfl, run_eq hp hD (hf t) hP (by rw [ht]; show t + 1 < 1000000; omega) (h1 t)⟩
 | k + 1, n + 2, t, h, hb => by
  obtain ⟨T, hT, pa⟩ := two_path hp hD hP f g hf ht h2 h1 k n (t + 2) (by omega) (by omega)
  refine ⟨T, by rw [show t + (n + 2) = t + 2 + n by omega]; exact hT, ?_⟩
  have := (run_eq (D := D) hp hD (hf t) hP (by rw [ht]; show t + 2 < 1000000; omega) (h2 t)).trans pa
  rw [show [Hint.no, Hint.no].length + n = n + 2 by show 2 + n = n + 2; omega] at this
  exact this
end
def mulL (x y : Int) : List In := liS 1 x ++ (liS 2 y ++ ([rrrS 63 9 1 2, rtiS 50 4 2 1, ⟨42, 4, 0, 0, 0, 2⟩, nopS, rrrS 23 3 3 1, ⟨1, 0, 1, 1, 1, 0⟩, ⟨2, 0, 2, 2, 1, 0⟩] ++ (backS 43 2 0 6 ++ backS 42 0 0 0)))
theorem lui_r {t v : Int} (t0 : 0 ≤ t) (t1 : t < 32) (hv : isU v) : InR ⟨53, 0, t, 0, 0, v / 65536⟩ := by
 obtain ⟨h1, h2, h3⟩ := inOk_p (lui_ok t0 t1 hv).1
 obtain ⟨v0, v1⟩ := hv
 exact ⟨h1, h2, by show v / 65536 < 65536; omega, h3⟩
theorem rti_r {k t s v : Int} (hk : k = 47 ∨ k = 49 ∨ k = 50 ∨ k = 51) (t0 : 0 ≤ t) (t1 : t < 32) (s0 : 0 ≤ s) (s1 : s < 32) : InR (rtiS k t s v) := by
 obtain ⟨h1, h2, h3⟩ := inOk_p (rti_ok (v := v) hk t0 t1 s0 s1).1
 exact ⟨h1, h2, by show v % 65536 < 65536; omega, h3⟩
theorem li_r {t v : Int} (t0 : 0 ≤ t) (t1 : t < 32) (hv : isU v) : ∀ x ∈ liS t v, InR x := by
 intro x hx
 simp only [liS, List.mem_cons, List.not_mem_nil, or_false] at hx
 rcases hx with rfl | rfl
 ·exact lui_r t0 t1 hv
 ·exact rti_r (by simp) t0 t1 t0 t1
theorem all_r {l : List In} (h : l.all inOk2 = true) : ∀ x ∈ l, InR x := fun x hx => inOk2_r (List.all_eq_true.1 h x hx)
theorem app_r {l k : List In} (hl : ∀ x ∈ l, InR x) (hk : ∀ x ∈ k, InR x) : ∀ x ∈ l ++ k, InR x := fun x hx => (List.mem_append.1 hx).elim (hl x) (hk x)
theorem mul_r {a b : Int} (ha : isU a) (hb : isU b) : ∀ x ∈ mulL a b, InR x :=
 app_r (li_r (by decide) (by decide) ha) (app_r (li_r (by decide) (by decide) hb) (all_r (by decide +kernel)))
def rowR (r1 r2 r3 r4 r5 r6 r7 r8 r9 pc : Int) (t : Nat) : Sr := ⟨[0, r1, r2, r3, r4, r5, r6, r7, r8, r9, 0, 0, 0, 0, 0, 0, 0, 0, 0, 0, 0, 0, 0, 0, 0, 0, 0, 0, 0, 0, 0, 0, 0, 0, pc, IntKind.wrap .u32 (pc + 4), 0, 0, 0, 0, 0, 0, 0, 0, 0, 0, 0, 0, 0, 0, 0, 0, 0, 0, 98304, 0, 0, 0, 0, 0, 0, 0, 0, 0, 0, 0, 0, 0, 0, 0, 0, 0, 0], false, false, false, t⟩
section
variable {a b x y z w q : Int} {t : Nat} {B : Nat → Int} {c : Bool}
theorem mul_start : runK (pgs [1]) 4 (imgI (mulL a b) []) [.no, .no, .no, .no, .no] sr0 B (fun s B' => s = rowR (bits .or .u32 (IntKind.wrap .u32 (a / 65536 * 65536)) (a % 65536)) (bits .or .u32 (IntKind.wrap .u32 (b / 65536 * 65536)) (b % 65536)) 0 0 0 0 0 0 (mulV (bits .or .u32 (IntKind.wrap .u32 (a / 65536 * 65536)) (a % 65536)) (bits .or .u32 (IntKind.wrap .u32 (b / 65536 * 65536)) (b % 65536)) true).2 2147484692 5 ∧ B' = B) := by
 have h : ∀ T : Sr, (runK (pgs [1]) 4 (imgI (mulL a b) []) [.no, .no, .no, .no, .no] sr0 B fun s B' => s = T ∧ B' = B) = (rowR (bits .or .u32 (IntKind.wrap .u32 (a / 65536 * 65536)) (a % 65536)) (bits .or .u32 (IntKind.wrap .u32 (b / 65536 * 65536)) (b % 65536)) 0 0 0 0 0 0 (mulV (bits .or .u32 (IntKind.wrap .u32 (a / 65536 * 65536)) (a % 65536)) (bits .or .u32 (IntKind.wrap .u32 (b / 65536 * 65536)) (b % 65536)) true).2 2147484692 5 = T ∧ B = B) := fun T => by kernel_rfl
 rw [h]; exact ⟨rfl, rfl⟩
theorem mul_r1 : ∀ T : Sr, (runK (pgs [1]) 4 (imgI (mulL a b) []) [.no, .br false, .no, .no, .no, .no, .br c, .no] (rowR x y z w 0 0 0 0 q 2147484692 t) B fun s B' => s = T ∧ B' = B) =
  (true = true ∧ (bits .and .u32 y 1 == 0) = false ∧ true = true ∧ (y.fdiv 2 != 0) = c ∧ rowR (IntKind.wrap .u32 (x * 2)) (y.fdiv 2) (IntKind.wrap .u32 (z + x)) (bits .and .u32 y 1) 0 0 0 0 q (match c with | true => 2147484692 | false => 2147484724) (t + 8) = T ∧ B = B) := fun T => by
 cases c <;> kernel_rfl
theorem mul_r0 : ∀ T : Sr, (runK (pgs [1]) 4 (imgI (mulL a b) []) [.no, .br true, .no, .no, .no, .br c, .no] (rowR x y z w 0 0 0 0 q 2147484692 t) B fun s B' => s = T ∧ B' = B) =
  (true = true ∧ (bits .and .u32 y 1 == 0) = true ∧ true = true ∧ (y.fdiv 2 != 0) = c ∧ rowR (IntKind.wrap .u32 (x * 2)) (y.fdiv 2) z (bits .and .u32 y 1) 0 0 0 0 q (match c with | true => 2147484692 | false => 2147484724) (t + 7) = T ∧ B = B) := fun T => by
 cases c <;> kernel_rfl
theorem mul_i2 : ∀ T : Sr, (runK (pgs [1]) 4 (imgI (mulL a b) []) [.no, .no] (rowR x y z w 0 0 0 0 q 2147484724 t) B fun s B' => s = T ∧ B' = B) = (rowR x y z w 0 0 0 0 q 2147484724 (t + 2) = T ∧ B = B) := fun T => by kernel_rfl
def slotR (r1 r2 r3 r4 r5 r6 r7 r8 r9 pc nx : Int) (t : Nat) : Sr := ⟨[0, r1, r2, r3, r4, r5, r6, r7, r8, r9, 0, 0, 0, 0, 0, 0, 0, 0, 0, 0, 0, 0, 0, 0, 0, 0, 0, 0, 0, 0, 0, 0, 0, 0, pc, nx, 0, 0, 0, 0, 0, 0, 0, 0, 0, 0, 0, 0, 0, 0, 0, 0, 0, 0, 98304, 0, 0, 0, 0, 0, 0, 0, 0, 0, 0, 0, 0, 0, 0, 0, 0, 0, 0], true, false, false, t⟩
theorem mul_i1 : ∀ T : Sr, (runK (pgs [1]) 4 (imgI (mulL a b) []) [.no] (rowR x y z w 0 0 0 0 q 2147484724 t) B fun s B' => s = T ∧ B' = B) = (slotR x y z w 0 0 0 0 q 2147484728 2147484724 (t + 1) = T ∧ B = B) := fun T => by kernel_rfl
end
theorem or_hl {v : Int} (hv : isU v) : bits .or .u32 (IntKind.wrap .u32 (v / 65536 * 65536)) (v % 65536) = v := by
 obtain ⟨v0, v1⟩ := hv
 rw [wrap32, Int.emod_eq_of_lt (by omega) (by omega), or_half (by omega) (by omega) (by omega) (by omega)]
 omega
theorem and1 {y : Int} (hy : isU y) : bits .and .u32 y 1 = y % 2 := by have := and_ones y hy.1 hy.2 1 (by decide); simpa using this
theorem mul_loop {a b : Nat} {D : Dv} (hD : D.ev = []) (ha : isU (a : Int)) (hb : isU (b : Int)) : ∀ (m x y z : Nat) (w q : Int) (t : Nat), y < 2 ^ (m + 1) → y < 4294967296 → z < 4294967296 → t + 8 * (m + 1) < 900000 →
  ∃ (n : Nat) (x' w' : Int), n ≤ 8 * (m + 1) ∧ Path (pgs [1]) 4 D n (toSt (rowR x y z w 0 0 0 0 q 2147484692 t)) (imgP (mulL a b) []) (toSt (rowR x' 0 ((z + x * y) % 4294967296 : Nat) w' 0 0 0 0 q 2147484724 (t + n))) (imgP (mulL a b) []) := by
 have hP := img_prog (mul_r ha hb) (h := []) (fun x hx => by simp at hx) (by show (15 : Nat) ≤ 768; decide) (by decide) (pgs [1])
 intro m
 induction m with
 | zero =>
  intro x y z w q t hy _ hz ht
  have hy : y = 0 ∨ y = 1 := by omega
  rcases hy with rfl | rfl
  ·refine ⟨7, IntKind.wrap .u32 ((x : Int) * 2), bits .and .u32 ((0 : Nat) : Int) 1, by omega, run_eq (l := [.no, .br true, .no, .no, .no, .br false, .no]) (by decide) hD (Nat.le_refl 73) hP (by show t + 7 < 1000000; omega) ?_⟩
   rw [mul_r0]
   refine ⟨rfl, by rw [and1 ⟨by decide, by decide⟩]; rfl, rfl, rfl, ?_, rfl⟩
   have e : (z + x * 0) % 4294967296 = z := by omega
   rw [e]; rfl
  ·refine ⟨8, IntKind.wrap .u32 ((x : Int) * 2), bits .and .u32 ((1 : Nat) : Int) 1, by omega, run_eq (l := [.no, .br false, .no, .no, .no, .no, .br false, .no]) (by decide) hD (Nat.le_refl 73) hP (by show t + 8 < 1000000; omega) ?_⟩
   rw [mul_r1]
   refine ⟨rfl, by rw [and1 ⟨by decide, by decide⟩]; rfl, rfl, rfl, ?_, rfl⟩
   have e : (((z + x * 1) % 4294967296 : Nat) : Int) = IntKind.wrap .u32 ((z : Int) + x) := by rw [wrap32]; omega
   rw [e]; rfl
 | succ m ih =>
  intro x y z w q t hy hy2 hz ht
  have e2 : ((y : Int)).fdiv 2 = ((y / 2 : Nat) : Int) := by rw [Int.fdiv_eq_ediv_of_nonneg _ (by decide)]; omega
  have ey : isU (y : Int) := ⟨by omega, by omega⟩
  have hy' : y / 2 < 2 ^ (m + 1) := by rw [Nat.pow_succ] at hy; omega
  have hx' : IntKind.wrap .u32 ((x : Int) * 2) = ((x * 2 % 4294967296 : Nat) : Int) := by rw [wrap32]; omega
  have hm : ∀ u : Nat, (u + x * 2 % 4294967296 * (y / 2)) % 4294967296 = (u + x * 2 * (y / 2)) % 4294967296 := fun u => by
   rw [Nat.add_mod, Nat.mul_mod, Nat.mod_mod, ← Nat.mul_mod, ← Nat.add_mod]
  by_cases c : y % 2 = 0
  ·have hy1 : 2 * (y / 2) = y := by omega
   have ez : (z + x * 2 % 4294967296 * (y / 2)) % 4294967296 = (z + x * y) % 4294967296 := by rw [hm, Nat.mul_assoc, hy1]
   by_cases c2 : y / 2 = 0
   ·refine ⟨7, IntKind.wrap .u32 ((x : Int) * 2), bits .and .u32 (y : Int) 1, by omega, run_eq (l := [.no, .br true, .no, .no, .no, .br false, .no]) (by decide) hD (Nat.le_refl 73) hP (by show t + 7 < 1000000; omega) ?_⟩
    rw [mul_r0]
    refine ⟨rfl, by rw [and1 ey]; exact beq_iff_eq.2 (by omega), rfl, by rw [e2, c2]; rfl, ?_, rfl⟩
    rw [e2, c2]
    have e : (z + x * y) % 4294967296 = z := by rw [show y = 0 by omega, Nat.mul_zero]; omega
    rw [e]; rfl
   ·obtain ⟨n, x', w', hn, pa⟩ := ih (x * 2 % 4294967296) (y / 2) z (bits .and .u32 (y : Int) 1) q (t + 7) hy' (by omega) hz (by omega)
    rw [ez] at pa
    refine ⟨7 + n, x', w', by omega, ?_⟩
    rw [show t + (7 + n) = t + 7 + n by omega]
    refine Path.trans (run_eq (l := [.no, .br true, .no, .no, .no, .br true, .no]) (T := rowR ((x * 2 % 4294967296 : Nat) : Int) ((y / 2 : Nat) : Int) z (bits .and .u32 (y : Int) 1) 0 0 0 0 q 2147484692 (t + 7)) (by decide) hD (Nat.le_refl 73) hP (by show t + 7 < 1000000; omega) ?_) pa
    rw [mul_r0]
    refine ⟨rfl, by rw [and1 ey]; exact beq_iff_eq.2 (by omega), rfl, by rw [e2]; simp; omega, ?_, rfl⟩
    rw [e2, hx']
  ·have hy1 : y = 2 * (y / 2) + 1 := by omega
   have hz' : IntKind.wrap .u32 ((z : Int) + x) = (((z + x) % 4294967296 : Nat) : Int) := by rw [wrap32]; omega
   have ez : ((z + x) % 4294967296 + x * 2 % 4294967296 * (y / 2)) % 4294967296 = (z + x * y) % 4294967296 := by
    rw [hm, Nat.mod_add_mod]
    congr 1
    have : x * y = x * (2 * (y / 2) + 1) := by rw [← hy1]
    rw [this, Nat.mul_add, Nat.mul_assoc, Nat.mul_one]; omega
   by_cases c2 : y / 2 = 0
   ·refine ⟨8, IntKind.wrap .u32 ((x : Int) * 2), bits .and .u32 (y : Int) 1, by omega, run_eq (l := [.no, .br false, .no, .no, .no, .no, .br false, .no]) (by decide) hD (Nat.le_refl 73) hP (by show t + 8 < 1000000; omega) ?_⟩
    rw [mul_r1]
    refine ⟨rfl, by rw [and1 ey]; exact beq_false_of_ne (by omega), rfl, by rw [e2, c2]; rfl, ?_, rfl⟩
    rw [e2, c2, hz']
    have e : (z + x * y) % 4294967296 = (z + x) % 4294967296 := by rw [show y = 1 by omega, Nat.mul_one]
    rw [e]; rfl
   ·obtain ⟨n, x', w', hn, pa⟩ := ih (x * 2 % 4294967296) (y / 2) ((z + x) % 4294967296) (bits .and .u32 (y : Int) 1) q (t + 8) hy' (by omega) (by omega) (by omega)
    rw [ez] at pa
    refine ⟨8 + n, x', w', by omega, ?_⟩
    rw [show t + (8 + n) = t + 8 + n by omega]
    refine Path.trans (run_eq (l := [.no, .br false, .no, .no, .no, .no, .br true, .no]) (T := rowR ((x * 2 % 4294967296 : Nat) : Int) ((y / 2 : Nat) : Int) (((z + x) % 4294967296 : Nat) : Int) (bits .and .u32 (y : Int) 1) 0 0 0 0 q 2147484692 (t + 8)) (by decide) hD (Nat.le_refl 73) hP (by show t + 8 < 1000000; omega) ?_) pa
    rw [mul_r1]
    refine ⟨rfl, by rw [and1 ey]; exact beq_false_of_ne (by omega), rfl, by rw [e2]; simp; omega, ?_, rfl⟩
    rw [e2, hx', hz']
theorem mul_path {a b : Nat} {D : Dv} (hD : D.ev = []) (ha : isU (a : Int)) (hb : isU (b : Int)) : ∃ S', Path (pgs [1]) 4 D 276 St0 (imgP (mulL a b) []) S' (imgP (mulL a b) []) ∧ S'.n 3 = ((a * b) % 4294967296 : Nat) ∧ S'.n 9 = (mulV (a : Int) b true).2 ∧ S'.n 2 = 0 := by
 have hP := img_prog (mul_r ha hb) (h := []) (fun x hx => by simp at hx) (by show (15 : Nat) ≤ 768; decide) (by decide) (pgs [1])
 have p1 := run_eq (D := D) (l := [.no, .no, .no, .no, .no]) (by decide) hD (by decide) hP (by decide) (mul_start (a := a) (b := b) (B := imgP (mulL (a : Int) b) []))
 rw [or_hl ha, or_hl hb, sr0_st] at p1
 have hb2 := hb.2
 obtain ⟨n, x', w', hn, p2⟩ := mul_loop hD ha hb 31 a b 0 0 (mulV (a : Int) b true).2 5 (by omega) (by omega) (by omega) (by omega)
 obtain ⟨T, hT, p3⟩ := two_path (D := D) (by decide) hD hP (fun t => rowR x' 0 ((0 + a * b) % 4294967296 : Nat) w' 0 0 0 0 (mulV (a : Int) b true).2 2147484724 t) (fun t => slotR x' 0 ((0 + a * b) % 4294967296 : Nat) w' 0 0 0 0 (mulV (a : Int) b true).2 2147484728 2147484724 t) (fun t => Nat.le_refl 73) (fun t => rfl)
  (fun t => by rw [mul_i2]; exact ⟨rfl, rfl⟩) (fun t => by rw [mul_i1]; exact ⟨rfl, rfl⟩) (271 - n + 1) (271 - n) (5 + n) (by omega) (by omega)
 refine ⟨toSt T, ?_, ?_⟩
 ·have := (p1.trans p2).trans p3
  rw [show [Hint.no, Hint.no, Hint.no, Hint.no, Hint.no].length + n + (271 - n) = 276 by show 5 + n + (271 - n) = 276; omega] at this
  exact this
 ·have e : ((0 + a * b) % 4294967296 : Nat) = (a * b) % 4294967296 := by rw [Nat.zero_add]
  rw [e] at hT
  rcases hT with rfl | rfl <;> exact ⟨rfl, rfl, rfl⟩
theorem mulV_lo {a b : Nat} (ha : isU (a : Int)) (hb : isU (b : Int)) : (mulV (a : Int) b true).2 = ((a * b % 4294967296 : Nat) : Int) := by
 obtain ⟨a0, a1⟩ := ha
 obtain ⟨b0, b1⟩ := hb
 have w64 : ∀ n : Int, IntKind.wrap .u64 n = n % 18446744073709551616 := fun n => by simp [IntKind.wrap, IntKind.bits, IntKind.signed]
 show IntKind.wrap .u32 (IntKind.wrap .u64 ((IntKind.wrap .u64 (a : Int)) * (IntKind.wrap .u64 (b : Int)))) = _
 rw [w64, w64, w64, wrap32, Int.emod_eq_of_lt (a := (a : Int)) a0 (by omega), Int.emod_eq_of_lt (a := (b : Int)) b0 (by omega), ← Int.natCast_mul]
 omega
section
variable {m : Mem}
theorem TopMuls {x0 x1 x2 x3 : Int} (h0 : isU x0) (h1 : isU x1) {k : Bool → Mem → Prop} (hk : ∀ m', k true m') : F13 x0 x1 x2 x3 m k := by
 unfold F13
 obtain ⟨a, rfl⟩ : ∃ a : Nat, x0 = a := ⟨x0.toNat, by have := h0.1; omega⟩
 obtain ⟨b, rfl⟩ : ∃ b : Nat, x1 = b := ⟨x1.toNat, by have := h1.1; omega⟩
 refine li_spec h0 fun b1 m2 _ K2 i2 => li_spec h1 fun b3 m4 _ K4 i4 => rrr_spec fun c5 h5 => rti_spec ⟨by decide, by decide⟩ fun c7 h7 => rrr_spec fun c9 h9 => newK_i fun b12 m11 _ K11 e11 _ => ?_
 have i11 := row_in [c5, c7, _, _, c9, _, _] [rrrS 63 9 1 2, rtiS 50 4 2 1, ⟨42, 4, 0, 0, 0, 2⟩, nopS, rrrS 23 3 3 1, ⟨1, 0, 1, 1, 1, 0⟩, ⟨2, 0, 2, 2, 1, 0⟩] e11 ⟨h5, h7, ⟨rfl, rfl, rfl, rfl, rfl, rfl⟩, ⟨rfl, rfl, rfl, rfl, rfl, rfl⟩, h9, ⟨rfl, rfl, rfl, rfl, rfl, rfl⟩, ⟨rfl, rfl, rfl, rfl, rfl, rfl⟩, trivial⟩
 refine back_spec (by decide) (by decide) fun b13 m14 _ K14 i14 => idle_spec fun b15 m16 _ K16 i16 => ?_
 refine kif_t rfl (kif_t rfl (kif_t rfl (kif_t rfl (newK_i fun b18 m17 _ K17 e17 _ => ?_))))
 refine join_of [.sl b1 0 2 (.ex 2), .sl b3 0 2 (.ex 2), .sl b12 0 7 (.ex 7), .sl b13 0 2 (.ex 2), .sl b15 0 2 (.ex 2)] [liS 1 a, liS 2 b, _, backS 43 2 0 6, backS 42 0 0 0] e17
  ⟨i2.keep ((((K4.trans K11).trans K14).trans K16).trans K17), i4.keep (((K11.trans K14).trans K16).trans K17), i11.keep ((K14.trans K16).trans K17), i14.keep (K16.trans K17), i16.keep K17, trivial⟩ (by show (5 : Nat) ≤ 20; decide) rfl fun v19 m20 i20 K20 o20 => ?_
 have ef : [liS 1 (a : Int), liS 2 (b : Int), [rrrS 63 9 1 2, rtiS 50 4 2 1, ⟨42, 4, 0, 0, 0, 2⟩, nopS, rrrS 23 3 3 1, ⟨1, 0, 1, 1, 1, 0⟩, ⟨2, 0, 2, 2, 1, 0⟩], backS 43 2 0 6, backS 42 0 0 0].flatten = mulL a b := rfl
 rw [ef] at i20
 refine prog_mach i20 (by show (15 : Nat) ≤ 700; decide) (mul_r h0 h1) (pgs [1]) fun m1 e q c m24 K24 A24 => ?_
 rw [nilP_ptr]
 refine kif_f rfl ?_
 dsimp only [kptr]
 obtain ⟨S', p', r3, r9, r2⟩ := mul_path (D := D0) rfl h0 h1
 refine AtF.top (by decide) (by decide) p' A24 fun m28 A28 => A28.stateb fun b34 m35 K35 _ s35 => ?_
 have e32 : IntKind.wrap .u32 ((a : Int) * b) = ((a * b % 4294967296 : Nat) : Int) := by rw [wrap32, ← Int.natCast_mul]; omega
 rw [ldI_st s35 (by decide) rfl]
 refine kif_t (by show (S'.n 3 == _) = true; rw [r3, e32]; exact beq_self_eq_true _) ?_
 rw [ldI_st s35 (by decide) rfl]
 refine kif_t (by show (S'.n 9 == _) = true; rw [r9, mulV_lo h0 h1, e32]; exact beq_self_eq_true _) ?_
 rw [ldI_st s35 (by decide) rfl]
 refine kif_t (by show (S'.n 2 == _) = true; rw [r2]; rfl) (awake_spec hk)
end
theorem TopMuls_law {m : Mem} {x0 x1 x2 x3 : Int} (h0 : (Lit.int .u32 x0).wf = true) (h1 : (Lit.int .u32 x1).wf = true) (_ : (Lit.int .i64 x2).wf = true) (_ : (Lit.int .i64 x3).wf = true) : F13 x0 x1 x2 x3 m isTrue :=
 TopMuls (wf_u32 h0) (wf_u32 h1) fun _ => rfl
end Go.Proofs.YtkiggdgphbkneaaGreat.Am
