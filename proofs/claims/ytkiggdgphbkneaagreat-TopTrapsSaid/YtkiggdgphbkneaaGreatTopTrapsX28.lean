/- What the top laws' functions share: rows of instructions in blocks, a machine with a program, its State in a box. Conditions: instructions that are right. The program of products: its rounds, its path. Conditions: words. Exceptions, each by itself, in a slot and out of it: the programs' paths, the law's function. Conditions: none. -/
import Derived.Test.YtkiggdgphbkneaaGreatTopTrapsX27
namespace Go.Proofs.YtkiggdgphbkneaaGreat.Am
set_option linter.unusedVariables false
set_option linter.unusedSimpArgs false
set_option maxRecDepth 100000
def spl : (Nat → AV) → List (Nat → AV) → Nat → (Nat → AV)
 | z, [], _ => z
 | z, c :: cs, i => spl (splice z (i * 6) 6 c) cs (i + 1)
theorem spl_lo : ∀ (cs : List (Nat → AV)) (z : Nat → AV) (i j : Nat), j < i * 6 → spl z cs i j = z j
 | [], z, i, j, h => rfl
 | c :: cs, z, i, j, h => by
  show spl (splice z (i * 6) 6 c) cs (i + 1) j = _
  rw [spl_lo cs _ (i + 1) j (by omega)]
  unfold splice; rw [if_neg (by omega)]
theorem spl_in : ∀ (cs : List (Nat → AV)) (l : List In) (z : Nat → AV) (i : Nat), All2 InC cs l → ∀ q, q < l.length → InC (fun j => spl z cs i ((i + q) * 6 + j)) (atI l q)
 | [], [], z, i, h, q, hq => by simp at hq
 | c :: cs, x :: l, z, i, h, 0, hq => by
  refine InC.congr (c := c) h.1 fun j hj => ?_
  show spl (splice z (i * 6) 6 c) cs (i + 1) ((i + 0) * 6 + j) = _
  rw [spl_lo cs _ (i + 1) _ (by omega)]
  unfold splice; rw [if_pos (by omega)]; congr 1; omega
 | c :: cs, x :: l, z, i, h, q + 1, hq => by
  have := spl_in cs l (splice z (i * 6) 6 c) (i + 1) h.2 q (by simpa using hq)
  have e : i + 1 + q = i + (q + 1) := by omega
  rw [e] at this
  exact this
 | [], _ :: _, _, _, h, _, _ => h.elim
 | _ :: _, [], _, _, h, _, _ => h.elim
section
variable {m : Mem}
theorem row_in {b : Nat} {z : Nat → AV} {t : TypeId} (cs : List (Nat → AV)) (l : List In) (e : m.obj b = some ⟨l.length * 6, spl z cs 0, t, false⟩) (h : All2 InC cs l) : IsIn m (.sl b 0 l.length (.ex l.length)) l :=
 IsIn.row e rfl rfl fun i hi => by
  have := spl_in cs l z 0 h i hi
  rw [Nat.zero_add] at this
  exact this
def upl : (Nat → AV) → List AV → Nat → (Nat → AV)
 | z, [], _ => z
 | z, v :: vs, i => upl (upd z i v) vs (i + 1)
theorem upl_lo : ∀ (vs : List AV) (z : Nat → AV) (i j : Nat), j < i → upl z vs i j = z j
 | [], z, i, j, h => rfl
 | v :: vs, z, i, j, h => by
  show upl (upd z i v) vs (i + 1) j = _
  rw [upl_lo vs _ (i + 1) j (by omega)]
  unfold upd; rw [if_neg (by omega)]
theorem upl_at : ∀ (vs : List AV) (z : Nat → AV) (i q : Nat), q < vs.length → upl z vs i (i + q) = lget vs q
 | [], z, i, q, h => by simp at h
 | v :: vs, z, i, 0, h => by
  show upl (upd z i v) vs (i + 1) (i + 0) = v
  rw [upl_lo vs _ (i + 1) _ (by omega)]
  unfold upd; rw [if_pos (Nat.add_zero i)]
 | v :: vs, z, i, q + 1, h => by
  show upl (upd z i v) vs (i + 1) (i + (q + 1)) = lget vs q
  rw [← upl_at vs (upd z i v) (i + 1) q (by simpa using h)]
  congr 1; omega
theorem all2_at {α β : Type} {R : α → β → Prop} {d : α} : ∀ {xs : List α} {ys : List β}, All2 R xs ys → ∀ i, (h : i < ys.length) → R (xs.getD i d) ys[i]
 | _ :: _, _ :: _, h, 0, hi => h.1
 | _ :: _, _ :: _, h, i + 1, hi => all2_at h.2 i (by simpa using hi)
 | [], [], _, i, hi => by simp at hi
theorem lget_getD : ∀ (vs : List AV) (i : Nat), i < vs.length → lget vs i = vs.getD i .junk
 | v :: vs, 0, _ => rfl
 | v :: vs, i + 1, h => by
  show lget vs i = _
  rw [lget_getD vs i (by simpa using h)]; rfl
 | [], i, h => by simp at h
theorem join_of {b : Nat} {z : Nat → AV} {t : TypeId} {ro : Bool} (vs : List AV) (Ls : List (List In)) (e : m.obj b = some ⟨Ls.length, upl z vs 0, t, ro⟩) (h : All2 (IsIn m) vs Ls) (hl : Ls.length ≤ 20) (hl2 : (Ls.all fun l => Nat.ble l.length 100) = true) {k : AV → Mem → Prop} (hk : ∀ v m', IsIn m' v Ls.flatten → Keeps m m' → (∀ x, own v x → m.obj x = none) → k v m') : F17 (.sl b 0 Ls.length (.ex Ls.length)) m k := by
 have hn := h.length
 refine join_spec ⟨⟨_, e, rfl, fun i hi => ?_⟩, hn, fun i hi => ?_⟩ hl (fun l hm => Nat.le_of_ble_eq_true (List.all_eq_true.1 hl2 l hm)) hk
 ·have := upl_at vs z 0 i (by omega)
  rw [Nat.zero_add] at this; exact this
 ·rw [lget_getD vs i (by omega)]
  exact all2_at h i hi
def D0 : Dv := { nd := (0 + 63) / 64 * 64, dk := imgB 0 fun _ => 0 }
theorem imgP_nil (l : List In) : imgB 4096 (imgS (l.length * 4) (byOf l) 0 fun _ => 0) = imgP l [] := by
 funext j
 unfold imgP imgB imgS
 split
 ·split
  ·rfl
  ·rw [if_neg (by omega), if_neg (by simp)]
 ·rfl
theorem prog_mach {v : AV} {l : List In} (h : IsIn m v l) (hl : l.length ≤ 700) (ho : ∀ x ∈ l, InR x) {most : Int} (C : Nat → Bool) {k : AV → Mem → Prop} (hk : ∀ m1 e q c m', Keeps m m1 → AtF m1 C e q c 4 D0 (clN most) St0 (imgP l []) m' → k (.ptr e 0) m') : F16 v m fun v2 m2 => F23 v2 (.flat (.slice none 0 0)) most m2 k := by
 refine code_spec h (by omega) (fun x hx => (ho x hx).i0) fun v2 m2 L2 K2 o2 => ?_
 refine machine_spec L2.r (fun i => byOf_rng _ i) (by omega) (v2 := .flat (.slice none 0 0)) (nd := 0) (fd := fun _ => 0) (.nil none _) (fun i hi => by omega) (by omega) C fun m1 e q c m3 K3 A3 => hk m1 e q c m3 (K2.trans K3) ?_
 rw [imgP_nil] at A3
 exact A3
variable {m0 : Mem} {C : Nat → Bool} {e : Nat} {q : BB} {c : Nat} {p : Nat} {D : Dv} {n : Int} {S : St} {B : Nat → Int}
theorem AtF.K (h : AtF m0 C e q c p D n S B m) : Keeps m0 m := by
 obtain ⟨cap, l, Sc, made, used, S1, M, u, hn, hp, E⟩ := h
 exact E.K
theorem nilP_ptr (b o : Nat) (K : Bool → Prop) : knilP (.ptr b o) K = K false := rfl
theorem AtF.stateb (h : AtF m0 C e q c p D n S B m) {z : Nat → AV} {t : TypeId} {k : Nat → Mem → Prop} (hk : ∀ b m', Keeps m m' → m.obj b = none → IsSt m' b S.bare → k b m') : F26 e 0 m fun cc m2 => newK m2 ⟨73, z, t, false⟩ fun b m3 => stG 73 m3 b 0 cc fun m4 => k b m4 :=
 h.state fun cc hcc => newS (S := S.bare) hcc fun b m' hb K O h' => hk b m' K hb h'
end
theorem all_r {l : List In} (h : l.all inOk2 = true) : ∀ x ∈ l, InR x := fun x hx => inOk2_r (List.all_eq_true.1 h x hx)
def trapT : List In := [⟨11, 0, 0, 0, 0, 0⟩, ⟨12, 0, 0, 0, 0, 0⟩, ⟨62, 0, 0, 0, 0, 0⟩, rrrS 22 9 2 2, ⟨34, 0, 0, 0, 0, 0⟩, rtiS 68 9 0 2, rtiS 73 9 0 2, rtiS 68 9 0 16384, rtiS 73 9 0 16384, rtiS 68 9 3 0]
def trapC : List Int := [8, 9, 11, 12, 13, 4, 5, 2, 3, 7]
def trapI (i : Nat) : In := trapT.getD i in0
def trapN (i : Nat) : Int := trapC.getD i 0
def trapB : List In := liS 2 2147483647 ++ (liS 3 2684354556 ++ ([rtiS 47 5 0 7] ++ []))
def trapS (sl : Bool) : List In := match sl with | true => trapB ++ [⟨42, 0, 0, 0, 0, 5⟩] | false => trapB
def trapL (i : Nat) (sl : Bool) : List In := (trapS sl ++ [trapI i]) ++ [rtiS 47 5 0 8]
def trapH (sl : Bool) : List Hint := match sl with | true => [.no, .no, .no, .no, .no, .no, .no] | false => [.no, .no, .no, .no, .no, .no]
def trapP (i : Nat) : Int := match trapN i == 2 || trapN i == 3 with | true => 2147483648 | false => 2147484032
def trapOk (i : Nat) (sl : Bool) (s : Sr) : Bool := lg s.n 34 == trapP i && lg s.n 53 == 2147484692 && bits .and .u32 ((lg s.n 52).fdiv 4) 31 == trapN i && (((lg s.n 52).fdiv 2147483648 == 1) == sl) && bits .and .u32 (lg s.n 51) 2 != 0 && lg s.n 5 == 7 && lg s.n 9 == 0
theorem trap_run (B : Nat → Int) : ∀ (i : Nat) (sl : Bool), i < 10 → (runK (pgs [0, 1]) 4 (imgI (trapL i sl) []) (trapH sl) sr0 B fun s _ => trapOk i sl s = true) = (true = true) := by
 intro i sl hi
 iterate 10
  rcases i with _ | i
  ·cases sl <;> kernel_rfl
 omega
theorem trap_r : ∀ (i : Nat) (sl : Bool), i < 10 → ∀ x ∈ trapL i sl, InR x := by
 intro i sl hi
 refine all_r ?_
 iterate 10
  rcases i with _ | i
  ·cases sl <;> decide +kernel
 omega
def spw (w : Nat) : (Nat → AV) → List (Nat → AV) → Nat → (Nat → AV)
 | z, [], _ => z
 | z, c :: cs, i => spw w (splice z (i * w) w c) cs (i + 1)
theorem spw_lo (w : Nat) : ∀ (cs : List (Nat → AV)) (z : Nat → AV) (i j : Nat), j < i * w → spw w z cs i j = z j
 | [], z, i, j, h => rfl
 | c :: cs, z, i, j, h => by
  show spw w (splice z (i * w) w c) cs (i + 1) j = _
  rw [spw_lo w cs _ (i + 1) j (by rw [Nat.succ_mul]; omega)]
  unfold splice; rw [if_neg (by omega)]
theorem spw_at (w : Nat) : ∀ (cs : List (Nat → AV)) (z : Nat → AV) (i q j : Nat), q < cs.length → j < w → spw w z cs i ((i + q) * w + j) = cs.getD q z j
 | [], z, i, q, j, h, _ => by simp at h
 | c :: cs, z, i, 0, j, h, hj => by
  have e0 : (i + 0) * w + j = i * w + j := rfl
  show spw w (splice z (i * w) w c) cs (i + 1) ((i + 0) * w + j) = c j
  rw [e0, spw_lo w cs _ (i + 1) _ (by rw [Nat.succ_mul]; omega)]
  unfold splice; rw [if_pos (by omega)]; congr 1; omega
 | c :: cs, z, i, q + 1, j, h, hj => by
  have hq : q < cs.length := by simpa using h
  have := spw_at w cs (splice z (i * w) w c) (i + 1) q j hq hj
  rw [show i + 1 + q = i + (q + 1) by omega] at this
  refine this.trans ?_
  show cs.getD q _ j = cs.getD q z j
  simp [List.getD, hq]
def Trw (m : Mem) (b : Nat) (x : In) (n : Int) : Prop := ∃ y, m.obj b = some y ∧ y.n = 7 ∧ InC y.c x ∧ y.c 6 = vu n
section
variable {m : Mem}
theorem stG_i_T {n b o : Nat} {c : Nat → AV} {x : Blk} {k : Mem → Prop} (e : m.obj b = some x) (hr : x.ro = false) (hn : o + n ≤ x.n) (hk : ∀ m', m'.obj b = some { x with c := splice x.c o n c } → Only m b m' → k m') : stG n m b o c k := by
 rw [stG_of e hr hn]
 exact hk _ (set_same _ _ _) (Only.set _ _ _)
theorem Trw.keep {m' : Mem} {b : Nat} {x : In} {n : Int} (h : Trw m b x n) (K : Keeps m m') : Trw m' b x n := by
 obtain ⟨y, e, r⟩ := h; exact ⟨y, (K b (by rw [e]; simp)).trans e, r⟩
theorem Trw.fr {m' : Mem} {A : Nat → Prop} {b : Nat} {x : In} {n : Int} (h : Trw m b x n) (F : Fr A m m') (hb : ¬ A b) : Trw m' b x n := by
 obtain ⟨y, e, r⟩ := h; exact ⟨y, (F b (by rw [e]; simp) hb).trans e, r⟩
theorem traps_tail {i : Nat} {sl : Bool} (hi : i < 10) {x2 : Int} {b : Nat} {v : AV} (hv : IsIn m v (trapS sl)) (hb : Trw m b (trapI i) (trapN i)) (nv : ¬ own v b) {k : Bool → Mem → Prop} (hk : ∀ m', k true m') : P4_7102 sl x2 b 0 v 2147484692 m k := by
 unfold P4_7102
 obtain ⟨y, ey, yn, yi, y6⟩ := id hb
 rw [ldG_of ey (by omega)]
 refine newK_i fun b40 m39 _ K39 e39 _ => ?_
 have hx : InC (sub y.c (0 + 0) 6) (trapI i) := yi.congr fun j hj => by unfold sub; rw [if_pos hj]; congr 1; omega
 have i39 := row_in [_] [trapI i] e39 ⟨hx, trivial⟩
 have ls : (trapS sl).length ≤ 6 := by cases sl <;> decide
 refine (hv.keep K39).app i39 (by omega) (by show (1 : Nat) ≤ 10000; decide) fun v41 m42 i42 F42 o42 => ?_
 have n41 : ¬ own v41 b := fun t => (o42 b t).elim nv fun t2 => by rw [K39 b (by rw [ey]; simp), ey] at t2; cases t2
 have b42 := (hb.keep K39).fr F42 nv
 refine rti_spec ⟨by decide, by decide⟩ fun c43 h43 => newK_i fun b46 m45 _ K45 e45 _ => ?_
 have i45 := row_in [_] [rtiS 47 5 0 8] e45 ⟨h43, trivial⟩
 have l2 : (trapS sl ++ [trapI i]).length ≤ 7 := by rw [List.length_append]; exact Nat.add_le_add_right ls 1
 refine (i42.keep K45).app i45 (by omega) (by show (1 : Nat) ≤ 10000; decide) fun v47 m48 i48 F48 o48 => ?_
 have b48 := (b42.keep K45).fr F48 n41
 have i48 : IsIn m48 v47 (trapL i sl) := i48
 refine prog_mach i48 (by unfold trapL; rw [List.length_append]; show _ + 1 ≤ 700; omega) (trap_r i sl hi) (pgs [0, 1]) fun m1 e q c m52 K52 A52 => ?_
 rw [nilP_ptr]
 refine kif_f rfl ?_
 dsimp only [kptr]
 refine A52.cap fun m56 A56 => ?_
 rw [(i42.len _)]
 have hP := img_prog (trap_r i sl hi) (h := []) (fun x hx => by simp at hx) (by unfold trapL; rw [List.length_append]; show _ + 1 ≤ 768; omega) (by decide) (pgs [0, 1])
 have hl : (trapH sl).length = (trapS sl ++ [trapI i]).length := by cases sl <;> rfl
 obtain ⟨s', B', pa, _, _, _, ok⟩ := run_ok (D := D0) (by decide) rfl (trapH sl) (s := sr0) (by decide) hP (by cases sl <;> decide) (k := fun s _ => trapOk i sl s = true) (by rw [trap_run _ i sl hi])
 rw [sr0_st, hl] at pa
 refine AtF.go (by decide) (by omega) pa A56 fun m62 A62 => A62.stateb fun b68 m69 K69 _ s69 => ?_
 obtain ⟨z, ez, zn, zi, z6⟩ := (b48.keep K52).keep (A62.K.trans K69)
 have l6 : ∀ k : Int → Prop, ldI .u32 m69 b (0 + 6) k = k (trapN i) := fun k => ldI_of ez (by omega) z6
 rw [l6]
 unfold trapOk at ok
 simp only [Bool.and_eq_true, beq_iff_eq, bne_iff_ne] at ok
 obtain ⟨⟨⟨⟨⟨⟨o1, o2⟩, o3⟩, o4⟩, o5⟩, o6⟩, o7⟩ := ok
 have key : P4_17102 sl b 0 2147484692 b68 0 (trapP i) m69 k := by
  unfold P4_17102
  rw [ldI_st s69 (by decide) rfl]
  refine kif_t (by show (lg s'.n 34 == _) = true; rw [o1]; exact beq_self_eq_true _) ?_
  rw [ldI_st s69 (by decide) rfl]
  refine kif_t (by show (lg s'.n 53 == _) = true; rw [o2]; rfl) ?_
  rw [ldI_st s69 (by decide) rfl, l6]
  refine kif_t (by show (bits .and .u32 ((lg s'.n 52).fdiv 4) 31 == _) = true; rw [o3]; exact beq_self_eq_true _) ?_
  rw [ldI_st s69 (by decide) rfl]
  refine kif_t (by show (((lg s'.n 52).fdiv 2147483648 == 1) == sl) = true; rw [o4]; exact beq_self_eq_true _) ?_
  rw [ldI_st s69 (by decide) rfl]
  refine kif_t (by show (bits .and .u32 (lg s'.n 51) 2 != 0) = true; exact bne_iff_ne.2 o5) ?_
  rw [ldI_st s69 (by decide) rfl]
  refine kif_t (by show (lg s'.n 5 == _) = true; rw [o6]; rfl) ?_
  rw [ldI_st s69 (by decide) rfl]
  exact kif_t (by show (lg s'.n 9 == _) = true; rw [o7]; rfl) (awake_spec hk)
 unfold trapP at key
 refine kif_c _ (fun c2 => ?_) fun c2 => ?_
 ·rw [c2] at key; exact key
 ·rw [c2, Bool.false_or] at key
  rw [l6]
  refine kif_c _ (fun c3 => ?_) fun c3 => ?_
  ·rw [c3] at key; exact key
  ·rw [c3] at key; exact key
theorem TopTraps {x0 x2 : Int} {sl : Bool} (h0 : isI x0) {k : Bool → Mem → Prop} (hk : ∀ m', k true m') : F4 x0 sl x2 m k := by
 unfold F4
 have u : isU 2 ∧ isU 16384 ∧ isU 0 ∧ isU 7 := ⟨⟨by decide, by decide⟩, ⟨by decide, by decide⟩, ⟨by decide, by decide⟩, ⟨by decide, by decide⟩⟩
 refine rrr_spec fun c1 h1 => rti_spec u.1 fun c3 h3 => rti_spec u.1 fun c5 h5 => rti_spec u.2.1 fun c7 h7 => rti_spec u.2.1 fun c9 h9 => rti_spec u.2.2.1 fun c11 h11 => newK_i fun b14 m13 _ K13 e13 _ => ?_
 refine within22 (by decide) (by decide) (by decide) h0.1 h0.2 fun v v0 v9 => ?_
 obtain ⟨i, rfl⟩ : ∃ i : Nat, v = i := ⟨v.toNat, by omega⟩
 have hi : i < 10 := by omega
 refine kif_t (by simp; omega) ?_
 have row : ∃ c : Nat → AV, (∀ j, j < 7 → spw 7 Z70 [(upd (splice (Z7bb) 0 6 (upd (Z6) 0 (.flat (.int .i64 11)))) 6 (.flat (.int .u32 8))), (upd (splice (Z7bb) 0 6 (upd (Z6) 0 (.flat (.int .i64 12)))) 6 (.flat (.int .u32 9))), (upd (splice (Z7bb) 0 6 (upd (Z6) 0 (.flat (.int .i64 62)))) 6 (.flat (.int .u32 11))), (upd (splice (Z7bb) 0 6 c1) 6 (.flat (.int .u32 12))), (upd (splice (Z7bb) 0 6 (upd (Z6) 0 (.flat (.int .i64 34)))) 6 (.flat (.int .u32 13))), (upd (splice (Z7bb) 0 6 c3) 6 (.flat (.int .u32 4))), (upd (splice (Z7bb) 0 6 c5) 6 (.flat (.int .u32 5))), (upd (splice (Z7bb) 0 6 c7) 6 (.flat (.int .u32 2))), (upd (splice (Z7bb) 0 6 c9) 6 (.flat (.int .u32 3))), (upd (splice (Z7bb) 0 6 c11) 6 (.flat (.int .u32 7)))] 0 ((0 + i) * 7 + j) = c j) ∧ InC c (trapI i) ∧ c 6 = vu (trapN i) := by
  refine ⟨_, fun j hj => spw_at 7 _ _ 0 i j (by show i < 10; exact hi) hj, ?_⟩
  have lit : ∀ (c : Nat → AV) (x : In) (n : Int), InC c x → InC (upd (splice (Z7bb) 0 6 c) 6 (.flat (.int .u32 n))) x ∧ (upd (splice (Z7bb) 0 6 c) 6 (.flat (.int .u32 n))) 6 = vu n := fun c x n h => ⟨h.congr fun j hj => by unfold upd splice; rw [if_neg (by omega), if_pos (by omega)]; rfl, rfl⟩
  have z : ∀ kd : Int, InC (upd (Z6) 0 (.flat (.int .i64 kd))) ⟨kd, 0, 0, 0, 0, 0⟩ := fun kd => ⟨rfl, rfl, rfl, rfl, rfl, rfl⟩
  rcases i with _ | _ | _ | _ | _ | _ | _ | _ | _ | _ | i
  ·exact lit _ _ _ (z 11)
  ·exact lit _ _ _ (z 12)
  ·exact lit _ _ _ (z 62)
  ·exact lit _ _ _ h1
  ·exact lit _ _ _ (z 34)
  ·exact lit _ _ _ h3
  ·exact lit _ _ _ h5
  ·exact lit _ _ _ h7
  ·exact lit _ _ _ h9
  ·exact lit _ _ _ h11
  ·omega
 obtain ⟨c, hc, ci, c6⟩ := row
 rw [ldG_of e13 (by dsimp only; omega)]
 refine newK_i fun b19 m18 hb19 K18 e18 _ => ?_
 refine stG_i_T e18 rfl (by decide) fun m20 e20 O20 => ?_
 have hb : Trw m20 b19 (trapI i) (trapN i) := by
  have cell : ∀ j, j < 7 → splice (Z7bb) 0 7 (sub (spw 7 Z70 [(upd (splice (Z7bb) 0 6 (upd (Z6) 0 (.flat (.int .i64 11)))) 6 (.flat (.int .u32 8))), (upd (splice (Z7bb) 0 6 (upd (Z6) 0 (.flat (.int .i64 12)))) 6 (.flat (.int .u32 9))), (upd (splice (Z7bb) 0 6 (upd (Z6) 0 (.flat (.int .i64 62)))) 6 (.flat (.int .u32 11))), (upd (splice (Z7bb) 0 6 c1) 6 (.flat (.int .u32 12))), (upd (splice (Z7bb) 0 6 (upd (Z6) 0 (.flat (.int .i64 34)))) 6 (.flat (.int .u32 13))), (upd (splice (Z7bb) 0 6 c3) 6 (.flat (.int .u32 4))), (upd (splice (Z7bb) 0 6 c5) 6 (.flat (.int .u32 5))), (upd (splice (Z7bb) 0 6 c7) 6 (.flat (.int .u32 2))), (upd (splice (Z7bb) 0 6 c9) 6 (.flat (.int .u32 3))), (upd (splice (Z7bb) 0 6 c11) 6 (.flat (.int .u32 7)))] 0) (0 + (i : Int).toNat * 7) 7) j = c j := fun j hj => by
   rw [← hc j hj]
   unfold splice sub
   rw [if_pos (by omega), if_pos (by omega)]
   congr 1; omega
  exact ⟨_, e20, rfl, ci.congr fun j hj => cell j (by omega), (cell 6 (by omega)).trans c6⟩
 refine li_spec ⟨by decide, by decide⟩ fun b21 m22 _ K22 i22 => li_spec ⟨by decide, by decide⟩ fun b23 m24 _ K24 i24 => rti_spec ⟨by decide, by decide⟩ fun c25 h25 => newK_i fun b28 m27 _ K27 e27 _ => ?_
 have i27 := row_in [c25] [rtiS 47 5 0 7] e27 ⟨h25, trivial⟩
 refine kif_t rfl (kif_t rfl (newK_i fun b30 m29 _ K29 e29 _ => ?_))
 refine join_of [.sl b21 0 2 (.ex 2), .sl b23 0 2 (.ex 2), .sl b28 0 1 (.ex 1)] [liS 2 2147483647, liS 3 2684354556, [rtiS 47 5 0 7]] e29 ⟨i22.keep ((K24.trans K27).trans K29), i24.keep (K27.trans K29), i27.keep K29, trivial⟩ (by decide) rfl fun v31 m32 i32 K32 o32 => ?_
 have K29' := ((K22.trans K24).trans K27).trans K29
 have hb32 := (hb.keep K29').keep K32
 have n31 : ¬ own v31 b19 := fun t => by
  obtain ⟨y, ey, _⟩ := hb.keep K29'
  have := o32 b19 t
  rw [ey] at this; cases this
 have i32 : IsIn m32 v31 trapB := i32
 rw [i32.len]
 have ea : IntKind.wrap .u32 (IntKind.wrap .i64 (2147484672 + IntKind.wrap .i64 (4 * ((trapB.length : Nat) : Int)))) = 2147484692 := by decide
 cases sl with
 | false =>
  refine kif_f rfl ?_
  rw [ea]
  exact traps_tail (sl := false) hi i32 hb32 n31 hk
 | true =>
  refine kif_t rfl (newK_i fun b35 m34 _ K34 e34 _ => ?_)
  have i34 := row_in [_] [⟨42, 0, 0, 0, 0, 5⟩] e34 ⟨⟨rfl, rfl, rfl, rfl, rfl, rfl⟩, trivial⟩
  refine (i32.keep K34).app i34 (by decide) (by decide) fun v36 m37 i37 F37 o37 => ?_
  rw [ea]
  have hb37 := (hb32.keep K34).fr F37 n31
  have n36 : ¬ own v36 b19 := fun t => (o37 b19 t).elim n31 fun t2 => by
   obtain ⟨y, ey, _⟩ := hb32.keep K34
   rw [ey] at t2; cases t2
  exact traps_tail (sl := true) hi i37 hb37 n36 hk
end
theorem TopTraps_law {m : Mem} {x0 x2 : Int} (h0 : (Lit.int .i64 x0).wf = true) (sl : Bool) (_ : (Lit.int .i64 x2).wf = true) : F4 x0 sl x2 m isTrue := TopTraps (wf_i64 h0) fun _ => rfl
end Go.Proofs.YtkiggdgphbkneaaGreat.Am
