/- What the top laws' functions share: rows of instructions in blocks, a machine with a program, its State in a box. Conditions: instructions that are right. The program of products: its rounds, its path. Conditions: words. Memory of a machine written and read fr -/
import Derived.Test.YtkiggdgphbkneaaGreatTopRefillsX27
namespace Go.Proofs.YtkiggdgphbkneaaGreat.Am
set_option linter.unusedVariables false
set_option linter.unusedSimpArgs false
set_option maxRecDepth 100000
def spl : (Nat → AV) → List (Nat → AV) → Nat → (Nat → AV)
 | z, [], _ => z
 | z, c :: cs, i => spl (splice z (i * 6) 6 c) cs (i + 1)
theorem spl_lo : ∀ (cs : List (Nat → AV)) (z : Nat → AV) (i j : Nat), j < i * 6 → spl z cs i j = z j
 | [], z, i, j, h => rfl
 | c :: cs, z, i, j, h => by
  show spl (splice z (i * 6) 6 c) cs (i + 1) j = _
  rw [spl_lo cs _ (i + 1) j (by omega)]
  unfold splice; rw [if_neg (by omega)]
theorem spl_in : ∀ (cs : List (Nat → AV)) (l : List In) (z : Nat → AV) (i : Nat), All2 InC cs l → ∀ q, q < l.length → InC (fun j => spl z cs i ((i + q) * 6 + j)) (atI l q)
 | [], [], z, i, h, q, hq => by simp at hq
 | c :: cs, x :: l, z, i, h, 0, hq => by
  refine InC.congr (c := c) h.1 fun j hj => ?_
  show spl (splice z (i * 6) 6 c) cs (i + 1) ((i + 0) * 6 + j) = _
  rw [spl_lo cs _ (i + 1) _ (by omega)]
  unfold splice; rw [if_pos (by omega)]; congr 1; omega
 | c :: cs, x :: l, z, i, h, q + 1, hq => by
  have := spl_in cs l (splice z (i * 6) 6 c) (i + 1) h.2 q (by simpa using hq)
  have e : i + 1 + q = i + (q + 1) := by omega
  rw [e] at this
  exact this
 | [], _ :: _, _, _, h, _, _ => h.elim
 | _ :: _, [], _, _, h, _, _ => h.elim
section
variable {m : Mem}
theorem row_in {b : Nat} {z : Nat → AV} {t : TypeId} (cs : List (Nat → AV)) (l : List In) (e : m.obj b = some ⟨l.length * 6, spl z cs 0, t, false⟩) (h : All2 InC cs l) : IsIn m (.sl b 0 l.length (.ex l.length)) l :=
 IsIn.row e rfl rfl fun i hi => by
  have := spl_in cs l z 0 h i hi
  rw [Nat.zero_add] at this
  exact this
def upl : (Nat → AV) → List AV → Nat → (Nat → AV)
 | z, [], _ => z
 | z, v :: vs, i => upl (upd z i v) vs (i + 1)
theorem upl_lo : ∀ (vs : List AV) (z : Nat → AV) (i j : Nat), j < i → upl z vs i j = z j
 | [], z, i, j, h => rfl
 | v :: vs, z, i, j, h => by
  show upl (upd z i v) vs (i + 1) j = _
  rw [upl_lo vs _ (i + 1) j (by omega)]
  unfold upd; rw [if_neg (by omega)]
theorem upl_at : ∀ (vs : List AV) (z : Nat → AV) (i q : Nat), q < vs.length → upl z vs i (i + q) = lget vs q
 | [], z, i, q, h => by simp at h
 | v :: vs, z, i, 0, h => by
  show upl (upd z i v) vs (i + 1) (i + 0) = v
  rw [upl_lo vs _ (i + 1) _ (by omega)]
  unfold upd; rw [if_pos (Nat.add_zero i)]
 | v :: vs, z, i, q + 1, h => by
  show upl (upd z i v) vs (i + 1) (i + (q + 1)) = lget vs q
  rw [← upl_at vs (upd z i v) (i + 1) q (by simpa using h)]
  congr 1; omega
theorem all2_at {α β : Type} {R : α → β → Prop} {d : α} : ∀ {xs : List α} {ys : List β}, All2 R xs ys → ∀ i, (h : i < ys.length) → R (xs.getD i d) ys[i]
 | _ :: _, _ :: _, h, 0, hi => h.1
 | _ :: _, _ :: _, h, i + 1, hi => all2_at h.2 i (by simpa using hi)
 | [], [], _, i, hi => by simp at hi
theorem lget_getD : ∀ (vs : List AV) (i : Nat), i < vs.length → lget vs i = vs.getD i .junk
 | v :: vs, 0, _ => rfl
 | v :: vs, i + 1, h => by
  show lget vs i = _
  rw [lget_getD vs i (by simpa using h)]; rfl
 | [], i, h => by simp at h
theorem join_of {b : Nat} {z : Nat → AV} {t : TypeId} {ro : Bool} (vs : List AV) (Ls : List (List In)) (e : m.obj b = some ⟨Ls.length, upl z vs 0, t, ro⟩) (h : All2 (IsIn m) vs Ls) (hl : Ls.length ≤ 20) (hl2 : (Ls.all fun l => Nat.ble l.length 100) = true) {k : AV → Mem → Prop} (hk : ∀ v m', IsIn m' v Ls.flatten → Keeps m m' → (∀ x, own v x → m.obj x = none) → k v m') : F17 (.sl b 0 Ls.length (.ex Ls.length)) m k := by
 have hn := h.length
 refine join_spec ⟨⟨_, e, rfl, fun i hi => ?_⟩, hn, fun i hi => ?_⟩ hl (fun l hm => Nat.le_of_ble_eq_true (List.all_eq_true.1 hl2 l hm)) hk
 ·have := upl_at vs z 0 i (by omega)
  rw [Nat.zero_add] at this; exact this
 ·rw [lget_getD vs i (by omega)]
  exact all2_at h i hi
def D0 : Dv := { nd := (0 + 63) / 64 * 64, dk := imgB 0 fun _ => 0 }
theorem imgP_nil (l : List In) : imgB 4096 (imgS (l.length * 4) (byOf l) 0 fun _ => 0) = imgP l [] := by
 funext j
 unfold imgP imgB imgS
 split
 ·split
  ·rfl
  ·rw [if_neg (by omega), if_neg (by simp)]
 ·rfl
variable {m0 : Mem} {C : Nat → Bool} {e : Nat} {q : BB} {c : Nat} {p : Nat} {D : Dv} {n : Int} {S : St} {B : Nat → Int}
theorem AtF.K (h : AtF m0 C e q c p D n S B m) : Keeps m0 m := by
 obtain ⟨cap, l, Sc, made, used, S1, M, u, hn, hp, E⟩ := h
 exact E.K
theorem nilP_ptr (b o : Nat) (K : Bool → Prop) : knilP (.ptr b o) K = K false := rfl
theorem AtF.stateb (h : AtF m0 C e q c p D n S B m) {z : Nat → AV} {t : TypeId} {k : Nat → Mem → Prop} (hk : ∀ b m', Keeps m m' → m.obj b = none → IsSt m' b S.bare → k b m') : F26 e 0 m fun cc m2 => newK m2 ⟨73, z, t, false⟩ fun b m3 => stG 73 m3 b 0 cc fun m4 => k b m4 :=
 h.state fun cc hcc => newS (S := S.bare) hcc fun b m' hb K O h' => hk b m' K hb h'
end
theorem all_r {l : List In} (h : l.all inOk2 = true) : ∀ x ∈ l, InR x := fun x hx => inOk2_r (List.all_eq_true.1 h x hx)
def putI (I : Int → In) (a0 : Int) (l : List In) (a : Int) : In := match decide (a0 ≤ a) && decide (a < a0 + 4 * (l.length : Int)) with
 | true => atI l ((a - a0) / 4).toNat
 | false => I a
theorem Prog.put {C : Nat → Bool} {p : Nat} {I : Int → In} {B : Nat → Int} (h : Prog C p I B) {l : List In} (hl : ∀ x ∈ l, InR x) {a0 : Int} (h0 : 0 ≤ a0) (h4 : a0 % 4 = 0) : Prog C p (putI I a0 l) (putB B a0 (l.length * 4) (byOf l)) := by
 refine ⟨fun a g0 g1 g4 gC => ?_⟩
 unfold putI
 by_cases c1 : a0 ≤ a ∧ a < a0 + 4 * (l.length : Int)
 ·rw [decide_eq_true c1.1, decide_eq_true c1.2]
  simp only [Bool.and_true]
  have hi : ((a - a0) / 4).toNat < l.length := by omega
  refine ⟨in_word hl hi g0 fun t ht => ?_, atI_r hl hi⟩
  unfold putB
  rw [if_pos (by omega)]
  congr 1; omega
 ·have e1 : (decide (a0 ≤ a) && decide (a < a0 + 4 * (l.length : Int))) = false := by
   simp only [Bool.and_eq_false_iff, decide_eq_false_iff_not]; omega
  rw [e1]
  have e2 : wdB (putB B a0 (l.length * 4) (byOf l)) a 4 = wdB B a 4 := ldv_congr _ fun t ht => by
   have ht : t < 4 := ht
   unfold putB
   rw [if_neg (by omega)]
  rw [e2]
  exact h.i a g0 g1 g4 gC
def fillL : List In := [⟨54, 0, 26, 8, 0, 0⟩, rtiS 50 27 26 1024, rtiS 47 27 27 2053, ⟨55, 0, 27, 2, 0, 0⟩, ⟨58, 0, 0, 0, 0, 0⟩, ⟨60, 0, 0, 0, 0, 0⟩]
def refX (i : Nat) : In := rtiS 68 (10 + i) 1 ((i % 2 * 1024 + i * 4 : Nat) : Int)
def refA (n : Nat) : List In := liS 1 16384 ++ (List.range n).map refX
def refL (n : Nat) : List In := refA n ++ (backS 42 0 0 0 ++ [])
def offR (i : Nat) : Nat := 2048 + i % 2 * 1024 + i * 4
def refV (B : Nat → Int) (n i : Nat) : Int := match Nat.ble (i + 1) n with | true => wdB B (offR i : Nat) 4 | false => 0
def no60r : List Hint := List.replicate 60 .no
theorem ref_run (B : Nat → Int) (T : Nat → Int) : ∀ n : Nat, n < 6 → (runK (pgs [0, 1]) 4 (putI (imgI (refL n) []) 0 fillL) no60r sr0 B fun s _ => (bits .and .u32 (lg s.n 51) 2 == 0) = true ∧ lg s.n 10 = T 0 ∧ lg s.n 11 = T 1 ∧ lg s.n 12 = T 2 ∧ lg s.n 13 = T 3 ∧ lg s.n 14 = T 4) =
  (true = true ∧ refV B n 0 = T 0 ∧ refV B n 1 = T 1 ∧ refV B n 2 = T 2 ∧ refV B n 3 = T 3 ∧ refV B n 4 = T 4) := by
 intro n hn
 iterate 6
  rcases n with _ | n
  ·kernel_rfl
 omega
theorem ref_r {n : Nat} (hn : n < 6) : ∀ x ∈ refL n, InR x := by
 refine all_r ?_
 iterate 6
  rcases n with _ | n
  ·decide +kernel
 omega
theorem fill_r : ∀ x ∈ fillL, InR x := all_r (by decide +kernel)
def refD (w : Nat → Int) : Nat → (Nat → Int) → Nat → Int
 | 0, f => f
 | i + 1, f => fun j => if offR i ≤ j ∧ j < offR i + 4 then by8 (w i) (3 - (j - offR i)) else refD w i f j
theorem refD_lo (w : Nat → Int) (f : Nat → Int) {j : Nat} (hj : j < 2048) : ∀ n, refD w n f j = f j
 | 0 => rfl
 | n + 1 => by
  show (if offR n ≤ j ∧ j < offR n + 4 then _ else refD w n f j) = _
  rw [if_neg (by unfold offR; omega)]
  exact refD_lo w f hj n
theorem refD_at (w : Nat → Int) (f : Nat → Int) {i t : Nat} (ht : t < 4) : ∀ n, n ≤ 5 → i < n → refD w n f (offR i + t) = by8 (w i) (3 - t)
 | 0, _, h => by omega
 | n + 1, h5, h => by
  show (if offR n ≤ offR i + t ∧ offR i + t < offR n + 4 then by8 (w n) (3 - (offR i + t - offR n)) else refD w n f (offR i + t)) = _
  by_cases c : i = n
  ·subst c
   rw [if_pos (by omega)]
   congr 1; omega
  ·rw [if_neg (by unfold offR; omega)]
   exact refD_at w f ht n (by omega) (by omega)
theorem refD_rng {w : Nat → Int} {f : Nat → Int} (hf : ∀ j, 0 ≤ f j ∧ f j < 256) : ∀ n j, 0 ≤ refD w n f j ∧ refD w n f j < 256
 | 0, j => hf j
 | n + 1, j => by
  show 0 ≤ (if offR n ≤ j ∧ j < offR n + 4 then by8 (w n) (3 - (j - offR n)) else refD w n f j) ∧ (if offR n ≤ j ∧ j < offR n + 4 then by8 (w n) (3 - (j - offR n)) else refD w n f j) < 256
  split
  ·exact by8_rng _ _
  ·exact refD_rng hf n j
def refF (n : Nat) : Nat → Int := fun j => if j < 24 then byOf fillL j else imgS ((refL n).length * 4) (byOf (refL n)) 0 (fun _ => 0) j
theorem refF_rng (n j : Nat) : 0 ≤ refF n j ∧ refF n j < 256 := by
 unfold refF; split
 ·exact byOf_rng _ _
 ·exact imgS_rng (fun i => byOf_rng _ i) (fun _ => by omega) j
theorem ref_prog {w : Nat → Int} {n : Nat} (hn : n < 6) : Prog (pgs [0, 1]) 4 (putI (imgI (refL n) []) 0 fillL) (imgB 4096 (refD w n (refF n))) := by
 have hl : (refL n).length ≤ 20 := by
  iterate 6
   rcases n with _ | n
   ·decide
  omega
 refine ((img_prog (ref_r hn) (h := []) (fun x hx => by simp at hx) (by omega) (by decide) (pgs [0, 1])).put (a0 := 0) fill_r (by decide) (by decide)).cod fun j hj => ?_
 have hj : j < 2048 := by
  unfold pgs at hj
  simp only [List.any_cons, List.any_nil, Bool.or_false, Bool.or_eq_true, beq_iff_eq] at hj
  omega
 unfold imgB putB
 rw [if_pos (by omega), refD_lo w _ hj]
 unfold refF
 have l0 : ((fillL.length * 4 : Nat) : Int) = 24 := rfl
 rw [l0]
 by_cases c : j < 24
 ·rw [if_pos c, if_pos (by omega)]; rfl
 ·rw [if_neg c, if_neg (by omega), ← imgP_nil]
  unfold imgB
  rw [if_pos (by omega)]
theorem ref_word {w : Nat → Int} {n i : Nat} (hn : n < 6) (hi : i < n) (hw : isU (w i)) : wdB (imgB 4096 (refD w n (refF n))) (offR i : Nat) 4 = w i := by
 have s : ∀ t, t < 4 → imgB 4096 (refD w n (refF n)) ((offR i : Int).toNat + t) = by8 (w i) (3 - t) := fun t ht => by
  unfold imgB
  rw [Int.toNat_natCast, if_pos (by unfold offR; omega)]
  exact refD_at w _ ht n (by omega) hi
 unfold wdB
 exact ldv_word hw (s 0 (by decide)) (s 1 (by decide)) (s 2 (by decide)) (s 3 (by decide))
section
variable {m : Mem}
theorem slS_at {b n l : Nat} {off : Int} (ho : off = l) (hl : l < n) (k : AV → Prop) : slS 1 (.sl b 0 n (.ex n)) (some off) none k = k (.sl b (0 + l * 1) (n - l) (.ex (n - l))) := by
 subst ho
 show kif (decide ((0 : Int) ≤ (l : Int))) (kif (decide ((l : Int) ≤ (n : Int))) (kif (decide ((n : Int) ≤ (n : Int))) (kite ((l : Int).toNat < n) (k (.sl b (0 + (l : Int).toNat * 1) ((n : Int).toNat - (l : Int).toNat) (.ex (n - (l : Int).toNat)))) (k (.sl b 0 0 (.ex 0)))) False) False) False = _
 rw [kif_te (by simp), kif_te (by simp; omega), kif_te (by simp), kite_eq, Int.toNat_natCast, Int.toNat_natCast, if_pos hl]
theorem refX_i (i : Nat) (hi : i < 5) : IntKind.wrap .u32 (IntKind.wrap .i64 (IntKind.wrap .i64 (((i : Int).tmod 2) * 1024) + IntKind.wrap .i64 ((i : Int) * 4))) = ((i % 2 * 1024 + i * 4 : Nat) : Int) := by
 have : i = 0 ∨ i = 1 ∨ i = 2 ∨ i = 3 ∨ i = 4 := by omega
 rcases this with rfl | rfl | rfl | rfl | rfl <;> decide
theorem refO_i (i : Nat) (hi : i < 5) : IntKind.wrap .i64 (IntKind.wrap .i64 (2048 + IntKind.wrap .i64 (((i : Int).tmod 2) * 1024)) + IntKind.wrap .i64 ((i : Int) * 4)) = ((offR i : Nat) : Int) := by
 have : i = 0 ∨ i = 1 ∨ i = 2 ∨ i = 3 ∨ i = 4 := by omega
 rcases this with rfl | rfl | rfl | rfl | rfl <;> decide
theorem refA_s (i : Nat) : refA i ++ [refX i] = refA (i + 1) := by
 unfold refA
 rw [List.range_succ, List.map_append, List.append_assoc]; rfl
theorem refA_l (i : Nat) : (refA i).length = i + 2 := by unfold refA liS; simp
theorem ref_loop1 {v0 v8 : AV} {x1 x2 : Int} {nn : Nat} (hn : nn < 6) {k0 : AV → Mem → Prop} (hk : ∀ v m', IsIn m' v (refA nn) → Keeps m m' → k0 v m') : ∀ (f i : Nat) (v : AV) (m1 : Mem), i + f = nn + 1 → i ≤ nn → IsIn m1 v (refA i) → Keeps m m1 → (∀ x, own v x → m.obj x = none) → L9_5 v0 x1 x2 nn v8 f v i m1 k0 := by
 intro f
 induction f with
 | zero => intro i v m1 h hi; omega
 | succ f ih =>
  intro i v m1 h hi hv K o
  show R9_5 _ _ _ _ _ _ _ _ _ _
  unfold R9_5
  by_cases c : i < nn
  rotate_left
  ·have : i = nn := by omega
   subst this
   exact kif_f (by simp) (hk v m1 hv K)
  rw [refX_i i (by omega), wrap64 (n := 10 + (i : Int)) (by omega) (by omega), wrap64 (n := (i : Int) + 1) (by omega) (by omega), show (i : Int) + 1 = ((i + 1 : Nat) : Int) by omega]
  refine kif_t (by simp; omega) (rti_spec ⟨by omega, by omega⟩ fun c14 h14 => newK_i fun b17 m16 _ K16 e16 _ => ?_)
  have i16 := row_in [c14] [refX i] e16 ⟨h14, trivial⟩
  refine (hv.keep K16).app i16 (by rw [refA_l]; omega) (by show (1 : Nat) ≤ 10000; decide) fun v18 m19 i19 F19 o19 => ?_
  rw [refA_s] at i19
  exact ih (i + 1) v18 m19 (by omega) (by omega) i19 (Fr.keeps (K.trans K16) F19 o) fun x hx => (o19 x hx).elim (o x) (newK_none (K.trans K16))
theorem ref_loop2 {v0 : AV} {x1 x2 : Int} {nn n0 : Nat} {w : Nat → Int} (hn : nn < 6) (hn0 : nn ≤ n0) (h0 : IsR m 1 v0 n0 (fun i => .flat (.int .u32 (w i)))) {b : Nat} (hb : m.obj b = none) {f0 : Nat → Int} {k2 : Mem → Prop} (hk : ∀ m', IsL m' 1 (.sl b 0 4096 (.ex 4096)) 4096 (cB (refD w nn f0)) → Keeps m m' → k2 m') :
  ∀ (f i : Nat) (m1 : Mem), i + f = nn + 1 → i ≤ nn → IsL m1 1 (.sl b 0 4096 (.ex 4096)) 4096 (cB (refD w i f0)) → Keeps m m1 → L9_12 v0 x1 x2 nn (.sl b 0 4096 (.ex 4096)) f i m1 k2 := by
 intro f
 induction f with
 | zero => intro i m1 h hi; omega
 | succ f ih =>
  intro i m1 h hi hv K
  show R9_12 _ _ _ _ _ _ _ _ _
  unfold R9_12
  by_cases c : i < nn
  rotate_left
  ·have : i = nn := by omega
   subst this
   exact kif_f (by simp) (hk m1 hv K)
  rw [refO_i i (by omega), wrap64 (n := (i : Int) + 1) (by omega) (by omega), show (i : Int) + 1 = ((i + 1 : Nat) : Int) by omega]
  have lo : offR i + 4 ≤ 4096 := by unfold offR; omega
  refine kif_t (by simp; omega) ?_
  rw [slS_at rfl (by omega)]
  have hr := h0.keep K
  have ec : (fun i => AV.flat (.int .u32 (w i))) ((i : Int).toNat) = .flat (.int .u32 (w i)) := by rw [Int.toNat_natCast]
  refine ldI_r hr (by omega) (by omega) ec fun _ _ _ => ldI_r hr (by omega) (by omega) ec fun _ _ _ => ldI_r hr (by omega) (by omega) ec fun _ _ _ => ldI_r hr (by omega) (by omega) ec fun _ _ _ => newK_i fun b59 m58 hb59 K58 e58 _ => ?_
  have r58 : IsR m58 1 (.sl b59 0 4 (.ex 4)) 4 (cB fun t => by8 (w i) (3 - t)) := by
   refine .sl b59 0 4 (.ex 4) _ _ e58 (by show (0 + 4 * 1 : Nat) ≤ 4; decide) fun t ht => ?_
   have ht : t = 0 ∨ t = 1 ∨ t = 2 ∨ t = 3 := by omega
   rcases ht with rfl | rfl | rfl | rfl
   ·rfl
   ·rfl
   ·rfl
   ·show AV.flat (.int .u8 (IntKind.wrap .u8 (w i))) = AV.flat (.int .u8 (IntKind.wrap .u8 ((w i).fdiv (2 ^ (8 * (3 - 3))))))
    have : (2 : Int) ^ (8 * (3 - 3)) = 1 := by decide
    rw [this, Int.fdiv_one]
  rw [← slS_at (b := b) (n := 4096) (l := offR i) rfl (by omega) (fun v => copS 1 v _ _ _)]
  refine slcop (l := offR i) (hv.keep K58) r58 rfl (by omega) fun m61 u61 h61 F61 _ => ?_
  refine ih (i + 1) m61 (by omega) (by omega) (h61.congr fun j hj => ?_) (Fr.keeps (K.trans K58) F61 fun x hx => by cases hx; exact hb)
  show (if offR i * 1 ≤ j ∧ j < (offR i + 4) * 1 then AV.flat (.int .u8 (by8 (w i) (3 - (j - offR i * 1)))) else AV.flat (.int .u8 (refD w i f0 j))) = AV.flat (.int .u8 (if offR i ≤ j ∧ j < offR i + 4 then by8 (w i) (3 - (j - offR i)) else refD w i f0 j))
  rw [Nat.mul_one, Nat.mul_one]
  split <;> rfl
theorem ref_loop3 {v0 : AV} {nn n0 : Nat} {w : Nat → Int} (hn : nn < 6) (hn0 : nn ≤ n0) (h0 : IsR m 1 v0 n0 (fun i => .flat (.int .u32 (w i)))) {b : Nat} {S : St} (hs : IsSt m b S) (hw : ∀ i, i < nn → S.n (10 + i) = w i) {k4 : Mem → Prop} {kr : Bool → Mem → Prop} (hk : k4 m) :
  ∀ (f i : Nat), i + f = nn + 1 → i ≤ nn → L9_22 v0 nn b 0 f i m k4 kr := by
 intro f
 induction f with
 | zero => intro i h hi; omega
 | succ f ih =>
  intro i h hi
  show R9_22 _ _ _ _ _ _ _ _ _
  unfold R9_22
  by_cases c : i < nn
  rotate_left
  ·exact kif_f (by simp; omega) hk
  rw [wrap64 (n := 10 + (i : Int)) (by omega) (by omega), wrap64 (n := (i : Int) + 1) (by omega) (by omega), show (i : Int) + 1 = ((i + 1 : Nat) : Int) by omega]
  refine kif_t (by simp; omega) (kif_t (by simp; omega) ?_)
  rw [show 0 + 0 + (10 + (i : Int)).toNat * 1 = 10 + i by omega, ldI_st hs (by omega) (isP3_lo (by omega)), hw i c]
  refine ldI_r h0 (by omega) (by omega) (x := w i) (by rw [Int.toNat_natCast]) fun _ _ _ => ?_
  exact kif_f (by simp) (ih (i + 1) (by omega) (by omega))
theorem TopRefills {v0 : AV} {x1 x2 : Int} {n0 : Nat} {w : Nat → Int} (h0 : IsR m 1 v0 n0 (fun i => .flat (.int .u32 (w i)))) (hw : ∀ i, i < n0 → isU (w i)) (h2 : isI x2) {k : Bool → Mem → Prop} (hk : ∀ m', k true m') : F9 v0 x1 x2 m k := by
 unfold F9
 rw [klen_r h0]
 obtain ⟨nn, en, hn, hn0⟩ : ∃ nn : Nat, (if (5 : Int) < (n0 : Int) then (5 : Int) else (n0 : Int)) = nn ∧ nn < 6 ∧ nn ≤ n0 := ⟨min n0 5, by split <;> omega, by omega, by omega⟩
 rw [en]
 refine rti_spec ⟨by decide, by decide⟩ fun c2 h2' => rti_spec ⟨by decide, by decide⟩ fun c4 h4 => newK_i fun b7 m6 _ K6 e6 _ => ?_
 have i6 := row_in [_, c2, c4, _, _, _] fillL e6 ⟨⟨rfl, rfl, rfl, rfl, rfl, rfl⟩, h2', h4, ⟨rfl, rfl, rfl, rfl, rfl, rfl⟩, ⟨rfl, rfl, rfl, rfl, rfl, rfl⟩, ⟨rfl, rfl, rfl, rfl, rfl, rfl⟩, trivial⟩
 refine newK_i fun b9 m8 _ K8 e8 _ => ?_
 refine join_of [.sl b7 0 6 (.ex 6)] [fillL] e8 ⟨i6.keep K8, trivial⟩ (by decide) rfl fun v10 m11 i11 K11 o11 => ?_
 have i11 : IsIn m11 v10 fillL := i11
 refine li_spec ⟨by decide, by decide⟩ fun b12 m13 hb12 K13 i13 => ?_
 have i13 : IsIn m13 (.sl b12 0 2 (.ex 2)) (refA 0) := i13
 have K13' := ((K6.trans K8).trans K11)
 refine ⟨nn + 1, ref_loop1 (m := m11) hn (fun v20 m21 i21 K21 => ?_) (nn + 1) 0 _ m13 (by omega) (by omega) i13 K13 (fun x hx => by cases hx; exact hb12)⟩
 refine idle_spec fun b23 m24 _ K24 i24 => kif_t i21.one (kif_t rfl (newK_i fun b26 m25 _ K25 e25 _ => ?_))
 refine join_of [v20, .sl b23 0 2 (.ex 2)] [refA nn, backS 42 0 0 0] e25 ⟨i21.keep (K24.trans K25), i24.keep K25, trivial⟩ (by show (2 : Nat) ≤ 20; decide) (by
  simp only [List.all_cons, List.all_nil, Bool.and_true, Bool.and_eq_true]
  exact ⟨Nat.ble_eq_true_of_le (by rw [refA_l]; omega), rfl⟩) fun v27 m28 i28 K28 o28 => ?_
 have i28 : IsIn m28 v27 (refL nn) := i28
 have lL : (refL nn).length = nn + 4 := by unfold refL; rw [List.length_append, refA_l]; rfl
 refine code_spec i28 (by omega) (fun x hx => (ref_r hn x hx).i0) fun v29 m30 L30 K30 o30 => ?_
 refine image_spec L30.r (n1 := 0) (f1 := fun _ => 0) (.nil none _) (by omega) (by decide) fun b31 m32 hb31 K32 L32 => ?_
 have K32' : Keeps m11 m32 := ((((K21.trans K24).trans K25).trans K28).trans K30).trans K32
 refine code_spec (i11.keep K32') (by decide) (fun x hx => (fill_r x hx).i0) fun v33 m34 L34 K34 o34 => ?_
 refine copL (L32.keep K34) L34.r fun m36 u36 h36 F36 _ => ?_
 have hbm : m30.obj b31 = none := hb31
 have K36 : Keeps m30 m36 := Fr.keeps (K32.trans K34) F36 fun x hx => by cases hx; exact hbm
 have h36' : IsL m36 1 (.sl b31 0 4096 (.ex 4096)) 4096 (cB (refD w 0 (refF nn))) := h36.congr fun i hi => by
  show (if i < 24 then AV.flat (.int .u8 (byOf fillL i)) else AV.flat (.int .u8 (imgS ((refL nn).length * 4) (byOf (refL nn)) 0 (fun _ => 0) i))) = AV.flat (.int .u8 (if i < 24 then byOf fillL i else imgS ((refL nn).length * 4) (byOf (refL nn)) 0 (fun _ => 0) i))
  split <;> rfl
 have Ka : Keeps m m30 := ((((K13'.trans K21).trans K24).trans K25).trans K28).trans K30
 refine ⟨nn + 1, ref_loop2 (m := m30) hn hn0 (h0.keep Ka) hbm (fun m62 L62 K62 => ?_) (nn + 1) 0 m36 (by omega) (by omega) h36' K36⟩
 refine within22 (by decide) (by decide) (by decide) h2.1 h2.2 fun most _ _ => ?_
 refine neweng_at L62.s (fun i _ => refD_rng (refF_rng nn) nn i) (by decide) (.nil none _) (nd := 0) (fd := fun _ => 0) (fun i hi => by omega) (by decide) (pgs [0, 1]) fun e q c m68 A68 => ?_
 rw [nilP_ptr]
 refine kif_f rfl (kif_f rfl ?_)
 dsimp only [kptr]
 refine A68.cap fun m72 A72 => ?_
 have hP := ref_prog (w := w) hn
 obtain ⟨T, hT⟩ : ∃ T : Nat → Int, ∀ i, refV (imgB 4096 (refD w nn (refF nn))) nn i = T i := ⟨_, fun _ => rfl⟩
 have hTw : ∀ i, i < nn → T i = w i := fun i hi => by
  rw [← hT i]
  unfold refV
  rw [Nat.ble_eq_true_of_le hi]
  exact ref_word hn hi (hw i (by omega))
 obtain ⟨s', B', pa, _, _, _, o51, o10, o11', o12, o13, o14⟩ := run_ok (D := D0) (by decide) rfl no60r (s := sr0) (by decide) hP (by decide) (k := fun s _ => (bits .and .u32 (lg s.n 51) 2 == 0) = true ∧ lg s.n 10 = T 0 ∧ lg s.n 11 = T 1 ∧ lg s.n 12 = T 2 ∧ lg s.n 13 = T 3 ∧ lg s.n 14 = T 4)
  ((ref_run (imgB 4096 (refD w nn (refF nn))) T nn hn).mpr ⟨rfl, hT 0, hT 1, hT 2, hT 3, hT 4⟩)
 rw [sr0_st] at pa
 refine AtF.go (by decide) (by decide) pa A72 fun m77 A77 => A77.stateb fun b83 m84 K84 _ s84 => ?_
 have hS : ∀ i, i < nn → (toSt s').bare.n (10 + i) = w i := fun i hi => by
  rw [← hTw i hi]
  have : i = 0 ∨ i = 1 ∨ i = 2 ∨ i = 3 ∨ i = 4 := by omega
  rcases this with rfl | rfl | rfl | rfl | rfl
  ·exact o10
  ·exact o11'
  ·exact o12
  ·exact o13
  ·exact o14
 have Kz : Keeps m m84 := ((Ka.trans K62).trans A77.K).trans K84
 refine ⟨nn + 1, ref_loop3 hn hn0 (h0.keep Kz) s84 hS ?_ (nn + 1) 0 (by omega) (by omega)⟩
 rw [ldI_st s84 (by decide) rfl]
 exact kif_t o51 (awake_spec hk)
end
theorem u32s_ty {m : Mem} {v : AV} (h : Ty m (.sl [.i .u32]) v) : ∃ (n : Nat) (f : Nat → Int), IsR m 1 v n (fun i => .flat (.int .u32 (f i))) ∧ ∀ i, i < n → isU (f i) := by
 cases h with
 | nil ls a => exact ⟨0, fun _ => 0, .nil a _, fun i hi => by omega⟩
 | sl ls b len cap x h1 h2 h3 h4 h5 h6 =>
  simp only [List.length_singleton, Nat.mul_one] at h5 h6
  have hx : ∀ j, j < cap → ∃ n, x.c j = .flat (.int .u32 n) ∧ (Lit.int .u32 n).wf = true := fun j hj => by
   have := h6 j hj 0 (.i .u32) rfl
   rw [Nat.add_zero] at this
   exact ty_int this
  refine ⟨len, fun j => match x.c j with | .flat (.int _ n) => n | _ => 0, .sl b 0 len (.ex cap) x _ h4 (by omega) (fun i hi => ?_), fun i hi => ?_⟩
  ·obtain ⟨n, e, _⟩ := hx i (by omega)
   dsimp only
   rw [Nat.zero_add, e]
  ·obtain ⟨n, e, w⟩ := hx i (by omega)
   dsimp only
   rw [e]
   exact wf_u32 w
theorem TopRefills_law {m : Mem} {v0 : AV} {x1 x2 : Int} (h0 : Ty m (.sl [.i .u32]) v0) (_ : (Lit.int .i64 x1).wf = true) (h2 : (Lit.int .i64 x2).wf = true) : F9 v0 x1 x2 m isTrue := by
 obtain ⟨n0, w, hr, hw⟩ := u32s_ty h0
 exact TopRefills hr hw (wf_i64 h2) fun _ => rfl
end Go.Proofs.YtkiggdgphbkneaaGreat.Am
