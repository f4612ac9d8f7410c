/- What operations ask and write; sorting at most two numbers. Conditions: operations of the kinds that are spoken of. Rows of small operations made shorter: the program. Conditions: at most eight operations, of the kinds that are spoken of. Rows of small operati -/
import Derived.Test.YtkiggdgphbkneaaGreatTopRefillsX23
namespace Go.Proofs.YtkiggdgphbkneaaGreat.Am
set_option linter.unusedVariables false
set_option linter.unusedSimpArgs false
set_option maxRecDepth 100000
section
variable {m : Mem}
def cZ (l : List Int) : Nat → AV := fun i => vi (l.getD i 0)
def IsZ (m : Mem) (v : AV) (l : List Int) : Prop := IsL m 1 v l.length (cZ l)
theorem IsZ.len {v : AV} {l : List Int} (h : IsZ m v l) (k : Int → Prop) : klen v k = k (l.length : Int) := klen_r h.r k
theorem IsZ.fr {m' : Mem} {S : Nat → Prop} {v : AV} {l : List Int} (h : IsZ m v l) (F : Fr S m m') (hs : ∀ b, own v b → ¬ S b) : IsZ m' v l := IsL.fr h F hs
theorem IsZ.ld {v : AV} {l : List Int} (h : IsZ m v l) {i : Nat} (hi : i < l.length) {k : Nat → Nat → Int → Prop} (hk : ∀ b o, own v b → k b o l[i]) : ksl v fun b o q p => kif (decide (0 ≤ (i : Int)) && decide ((i : Int) < q)) (ldI .i64 m b (o + (i : Int).toNat * 1) fun x => k b o x) False :=
 ldI_r h.r (by omega) (by omega) (by rw [Int.toNat_natCast]; show vi (l.getD i 0) = _; simp [List.getD, hi]) hk
def sort2 : List Int → List Int
 | [x, y] => if y < x then [y, x] else [x, y]
 | l => l
def comp2 : List Int → List Int
 | [x, y] => if x = y then [x] else [x, y]
 | l => l
theorem isnan_spec {x : Int} {k : Bool → Mem → Prop} (hk : k false m) : F259 x m k := by
 unfold F259
 exact ⟨Keeps.self m, by simpa using hk⟩
theorem cless_spec {x y : Int} {k : Bool → Mem → Prop} (hk : k (decide (x < y)) m) : F246 x y m k := by
 unfold F246
 exact isnan_spec (kif_f rfl ⟨Keeps.self m, hk⟩)
theorem bitslen_spec {x : Int} (h0 : 0 ≤ x) (h1 : x < 3) {k : Int → Mem → Prop} (hk : ∀ q, k q m) : F235 x m k := by
 unfold F235 F249
 refine kif_f (by simp; omega) ?_
 unfold P249_4103
 refine kif_f (by simp; omega) ?_
 unfold P249_7103
 refine kif_f (by simp; omega) ?_
 unfold P249_10102
 have hx : x = 0 ∨ x = 1 ∨ x = 2 := by omega
 rcases hx with rfl | rfl | rfl
 ·exact kif_t (by decide +kernel) ⟨Keeps.self m, Keeps.self m, hk _⟩
 ·exact kif_t (by decide +kernel) ⟨Keeps.self m, Keeps.self m, hk _⟩
 ·exact kif_t (by decide +kernel) ⟨Keeps.self m, Keeps.self m, hk _⟩
theorem ins0 {v : AV} {n : Int} (hn : n = 0 ∨ n = 1) {k : Mem → Prop} (hk : k m) : F240 v 0 n m k := by
 unfold F240
 refine ⟨1, ?_⟩
 show R240_1 _ _ _ _ _ _ _
 unfold R240_1
 refine kif_f ?_ hk
 rw [wrap64 (by omega) (by omega)]
 rcases hn with rfl | rfl <;> decide
theorem ins2 {v : AV} {x y : Int} (h : IsZ m v [x, y]) {k : Mem → Prop} (hk : ∀ m', IsZ m' v (if y < x then [y, x] else [x, y]) → Fr (own v) m m' → k m') : F240 v 0 2 m k := by
 unfold F240
 refine ⟨2, ?_⟩
 rw [wrap64 (n := 0 + 1) (by omega) (by omega)]
 show R240_1 _ _ _ _ _ _ _
 unfold R240_1
 refine kif_t (by decide) ⟨2, ?_⟩
 rw [wrap64 (n := 0 + 1 + 1) (by omega) (by omega)]
 show R240_4 _ _ _ _ _ _ _ _
 unfold R240_4
 rw [wrap64 (n := 0 + 1 - 1) (by omega) (by omega)]
 have fin : ∀ m', (if y < x then [y, x] else [x, y]).length = 2 → IsZ m' v (if y < x then [y, x] else [x, y]) → Fr (own v) m m' → L240_1 v 0 2 1 (0 + 1 + 1) m' (fun m35 => k m35) := fun m' _ h' F' => by
  show R240_1 _ _ _ _ _ _ _
  unfold R240_1
  exact kif_f (by decide) (hk m' h' F')
 refine kif_t (by decide) (h.ld (i := 1) (by simp) (k := fun b o x => ksl v _) fun _ _ _ => h.ld (i := 0) (by simp) (k := fun b o x => F246 _ _ _ _) fun _ _ _ => cless_spec ?_)
 refine kif_c _ (fun c => ?_) fun c => ?_
 ·have c : y < x := by simpa using c
  refine h.ld (i := 0) (by simp) (k := fun b o x => ksl v _) fun _ _ _ => h.ld (i := 1) (by simp) (k := fun b o x => ksl v _) fun _ _ _ => stC_r h (i := 1) (by omega) (by simp) fun m1 h1 F1 _ => stC_r h1 (i := 0) (by omega) (by simp) fun m2 h2 F2 _ => ?_
  show R240_4 _ _ _ _ _ _ _ _
  unfold R240_4
  refine kif_f (by decide) (fin m2 (by simp [c]) ?_ (F1.trans F2))
  rw [if_pos c]
  refine IsL.congr h2 fun i hi => ?_
  have : i = 0 ∨ i = 1 := by simp at hi; omega
  rcases this with rfl | rfl <;> rfl
 ·have c : ¬ y < x := by simpa using c
  refine fin m (by simp [c]) ?_ (Fr.refl _ _)
  rw [if_neg c]; exact h
theorem sort_spec {v : AV} {l : List Int} (h : IsZ m v l) (hl : l.length ≤ 2) {k : Mem → Prop} (hk : ∀ m', IsZ m' v (sort2 l) → Fr (own v) m m' → k m') : F221 v m k := by
 unfold F221
 rw [h.len, wrapU64 (by omega) (by omega)]
 refine bitslen_spec (by omega) (by omega) fun q => ?_
 unfold F234
 refine ⟨1, ?_⟩
 show R234_2 _ _ _ _ _ _ _ _ _
 unfold R234_2
 refine kif_t ?_ ?_
 ·rw [Int.sub_zero, wrap64 (by omega) (by omega)]; simp; omega
 match l, h, hl, hk with
 | [], h, hl, hk => exact ins0 (.inl rfl) (hk m h (Fr.refl _ _))
 | [x], h, hl, hk => exact ins0 (.inr rfl) (hk m h (Fr.refl _ _))
 | [x, y], h, hl, hk => exact ins2 h hk
 | x :: y :: z :: l, h, hl, hk => simp at hl
theorem kif_te {c : Bool} {A B : Prop} (h : c = true) : kif c A B = A := by subst h; rfl
theorem slS_lo {esz b n : Nat} {lo : Int} {l : Nat} (hl : lo = l) (h : l < n) (k : AV → Prop) : slS esz (.sl b 0 n (.ex n)) (some lo) none k = k (.sl b (0 + l * esz) (n - l) (.ex (n - l))) := by
 subst hl
 show kif (decide ((0 : Int) ≤ (l : Int))) (kif (decide ((l : Int) ≤ (n : Int))) (kif (decide ((n : Int) ≤ (n : Int))) (kite ((l : Int).toNat < n) (k (.sl b (0 + (l : Int).toNat * esz) ((n : Int).toNat - (l : Int).toNat) (.ex (n - (l : Int).toNat)))) (k (.sl b 0 0 (.ex 0)))) False) False) False = _
 rw [kif_te (by simp), kif_te (by simp; omega), kif_te (by simp), kite_eq, if_pos (by omega), Int.toNat_natCast, Int.toNat_natCast]
theorem slS_hi {esz b n : Nat} {hi : Int} {u : Nat} (hu : hi = u) (h : u ≤ n) (h0 : 0 < n) (k : AV → Prop) : slS esz (.sl b 0 n (.ex n)) none (some hi) k = k (.sl b (0 + 0 * esz) u (.ex n)) := by
 subst hu
 show kif (decide ((0 : Int) ≤ 0)) (kif (decide ((0 : Int) ≤ (u : Int))) (kif (decide ((u : Int) ≤ (n : Int))) (kite ((0 : Int).toNat < n) (k (.sl b (0 + (0 : Int).toNat * esz) ((u : Int).toNat - (0 : Int).toNat) (.ex (n - (0 : Int).toNat)))) (k (.sl b 0 0 (.ex 0)))) False) False) False = _
 rw [kif_te (by simp), kif_te (by simp), kif_te (by simp; omega), kite_eq, if_pos (by simpa using h0), Int.toNat_natCast]
 rfl
theorem compact_spec {b : Nat} {l : List Int} (h : IsZ m (.sl b 0 l.length (.ex l.length)) l) (hl : l.length ≤ 2) {k : AV → Mem → Prop} (hk : ∀ v m', IsZ m' v (comp2 l) → Fr (one1 b) m m' → (∀ x, own v x → x = b) → k v m') : F222 (.sl b 0 l.length (.ex l.length)) m k := by
 unfold F222
 rw [h.len]
 have ob : ∀ x, own (.sl b 0 l.length (.ex l.length)) x → x = b := fun x e => e.symm
 match l, h, hl, hk, ob with
 | [], h, hl, hk, ob => exact kif_t rfl (hk _ m h (Fr.refl _ _) ob)
 | [x], h, hl, hk, ob => exact kif_t rfl (hk _ m h (Fr.refl _ _) ob)
 | x :: y :: z :: l, h, hl, hk, ob => simp at hl
 | [x, y], h, hl, hk, ob =>
  refine kif_f rfl ⟨2, ?_⟩
  show R222_4 _ _ _ _ _ _
  unfold R222_4
  rw [h.len]
  rw [wrap64 (n := 1 - 1) (by omega) (by omega), wrap64 (n := 1 + 1) (by omega) (by omega)]
  refine kif_t rfl (h.ld (i := 1) (by simp) (k := fun b o x => ksl _ _) fun _ _ _ => h.ld (i := 0) (by simp) (k := fun b o x => kif _ _ _) fun _ _ _ => ?_)
  refine kif_c _ (fun c => ?_) fun c => ?_
  ·have c : y = x := by simpa using c
   subst c
   have hS : IsS m 1 (.sl b 0 2 (.ex 2)) 2 (cZ [y, y]) := IsL.s h
   refine slS_s hS (l := 1) (u := 2) rfl rfl (by omega) (by omega) fun v13 h13 o13 => ⟨1, ?_⟩
   show R222_9 _ _ _ _ _ _ _
   unfold R222_9
   rw [klen_r h13.r]
   refine kif_f rfl ?_
   -- the last cell is made zero
   cases h with
   | sl b' o' n' cap' Y c' g1 g2 g3 g4 g5 =>
    obtain ⟨Yn, Yc, Yt, Yro⟩ := Y
    dsimp only at g2 g3 g4
    subst g4
    have g2 : 2 ≤ Yn := by simpa using g2
    rw [show [y, y].length = 2 from rfl] at *
    rw [slS_lo (lo := 1) (l := 1) (by decide) (by omega)]
    unfold clrS
    dsimp only
    rw [kite_eq, if_neg (by omega)]
    unfold kobj; rw [g1]
    refine kite_t (by simp; omega) ?_
    rw [slS_hi (hi := 1) (u := 1) (by decide) (by omega) (by omega)]
    refine hk _ _ ?_ (Only.set _ _ _).fr1 fun x e => e.symm
    rw [show comp2 [y, y] = [y] by simp [comp2]]
    refine .sl b 0 1 (.ex 2) _ _ (set_same _ _ _) (by simp; omega) (fun i hi => ?_) rfl ⟨by omega, by simp; omega⟩
    have : i = 0 := by simp at hi; omega
    subst this
    simp only [splice]
    rw [if_neg (by omega)]
    exact g3 0 (by simp)
  ·have c : ¬ y = x := by simpa using c
   show R222_4 _ _ _ _ _ _
   unfold R222_4
   rw [h.len]
   refine kif_f rfl (hk _ m ?_ (Fr.refl _ _) ob)
   rw [show comp2 [x, y] = [x, y] by simp [comp2]; intro e; exact c e.symm]; exact h
theorem sort2_len (l : List Int) : (sort2 l).length = l.length := by
 unfold sort2; split
 ·split <;> rfl
 ·rfl
theorem tidy_spec {b : Nat} {l : List Int} {m0 : Mem} (K : Keeps m0 m) (hb : m0.obj b = none) (h : IsZ m (.sl b 0 l.length (.ex l.length)) l) (hl : l.length ≤ 2) {k : AV → Mem → Prop} (hk : ∀ v m', IsZ m' v (comp2 (sort2 l)) → Keeps m0 m' → (∀ x, own v x → m0.obj x = none) → k v m') : P202_9102 (.sl b 0 l.length (.ex l.length)) m k := by
 unfold P202_9102
 refine sort_spec h hl fun m1 h1 F1 => ?_
 have e := sort2_len l
 rw [← e] at h1 ⊢
 refine compact_spec h1 (by omega) fun v m2 h2 F2 o2 => hk v m2 h2 (Fr.keeps (Fr.keeps K F1 fun x hx => by cases hx; exact hb) F2 fun x hx => by cases hx; exact hb) fun x hx => by rw [o2 x hx]; exact hb
theorem tidy_nil {k : AV → Mem → Prop} (hk : ∀ m', Keeps m m' → k (.flat (.slice none 0 0)) m') : P202_9102 (.flat (.slice none 0 0)) m k := by
 unfold P202_9102
 have h : IsZ m (.flat (.slice none 0 0)) [] := .nil none _
 refine sort_spec h (by simp) fun m1 h1 F1 => ?_
 unfold F222
 rw [klen_r h1.r]
 exact kif_t (by decide) (hk m1 (F1.keeps0 fun x hx => hx.elim))
theorem readsS_eq {o : Op19} (h : o.k ≠ 1) : readsS o = if o.k = 2 then [o.a] else comp2 (sort2 [o.a, o.b]) := by
 unfold readsS
 rw [if_neg h]
 have e : sort2 [o.a, o.b] = if o.b < o.a then [o.b, o.a] else [o.a, o.b] := rfl
 have ec : ∀ x y : Int, comp2 [x, y] = if x = y then [x] else [x, y] := fun _ _ => rfl
 by_cases c2 : o.k = 2
 ·rw [if_pos c2, if_pos c2]
 rw [if_neg c2, if_neg c2, e]
 by_cases c : o.a < o.b
 ·rw [if_pos c, if_neg (by omega), ec, if_neg (by omega)]
 ·rw [if_neg c]
  by_cases c3 : o.a = o.b
  ·rw [if_pos c3, if_neg (by omega), ec, if_pos c3]
  ·rw [if_neg c3, if_pos (by omega), ec, if_neg (by omega)]
theorem row_i {n : Nat} {t : TypeId} {c : Nat → AV} (l : List Int) (hn : n = l.length) (hc : ∀ i, i < n → c i = cZ l i) {k : Nat → Mem → Prop} (hk : ∀ b m', m.obj b = none → Keeps m m' → IsZ m' (.sl b 0 n (.ex n)) l → k b m') : newK m ⟨n, c, t, false⟩ k := by
 subst hn
 refine newK_i fun b m' hb K e O => hk b m' hb K ?_
 exact (IsL.row (esz := 1) e (by simp) rfl).congr fun i hi => hc i (by omega)
theorem reads_spec {c : Nat → AV} {o : Op19} (hc : OpC c o) (ho : OpK o) {k : AV → Mem → Prop} (hk : ∀ v m', IsZ m' v (readsS o) → Keeps m m' → (∀ x, own v x → m.obj x = none) → k v m') : F202 c m k := by
 unfold F202
 refine opB_new hc fun b2 m1 hb2 K1 h2 => ?_
 rw [h2.l0]
 refine h2.lg fun c4 h4 => ir_right h4 ho.r (kif_f rfl (kif_f ?_ ?_))
 ·have := ho.cases; simp; omega
 unfold P202_5004
 refine kif_c _ (fun c1 => ?_) fun c1 => ?_
 ·have c1 : o.k = 1 := by simpa using c1
  have e : readsS o = [] := by unfold readsS; rw [if_pos c1]
  refine tidy_nil fun m' K' => hk _ m' ?_ (K1.trans K') fun x hx => hx.elim
  rw [e]; exact .nil none _
 have c1 : o.k ≠ 1 := by simpa using c1
 have e := readsS_eq c1
 have hk' := ho.cases
 by_cases c2 : o.k = 2
 ·rw [if_pos c2] at e
  refine kif_t (by simp [c2]) ?_
  unfold P202_6004
  refine kif_t rfl ?_
  rw [Nat.zero_add, h2.l2]
  refine row_i [o.a] rfl (fun i hi => ?_) fun b9 m8 hb8 K8 h8 => ?_
  ·have : i = 0 := by simp at hi; omega
   subst this; rfl
  ·exact tidy_spec (l := [o.a]) (K1.trans K8) (newK_none K1 hb8) h8 (by simp) fun v m' hv Kv ov => hk v m' (by rw [e]; exact hv) Kv ov
 ·rw [if_neg c2] at e
  refine kif_f (by simpa using c2) (kif_f (by simp; omega) ?_)
  have e16 : (o.k == 16) = false := by simp; omega
  rw [e16]
  unfold P202_6004
  refine kif_f rfl (kif_f (by simp; omega) ?_)
  have e22 : (o.k == 22) = false := by simp; omega
  rw [e22]
  unfold P202_8004
  refine kif_f rfl ?_
  rw [Nat.zero_add, h2.l2]
  simp only [Nat.zero_add]
  rw [h2.l3]
  refine row_i [o.a, o.b] rfl (fun i hi => ?_) fun b9 m8 hb8 K8 h8 => ?_
  ·have : i = 0 ∨ i = 1 := by simp at hi; omega
   rcases this with rfl | rfl <;> rfl
  ·exact tidy_spec (l := [o.a, o.b]) (K1.trans K8) (newK_none K1 hb8) h8 (by simp) fun v m' hv Kv ov => hk v m' (by rw [e]; exact hv) Kv ov
theorem writes_spec {c : Nat → AV} {o : Op19} (hc : OpC c o) (ho : OpK o) {k : AV → Mem → Prop} (hk : ∀ v m', IsZ m' v (writesS o) → Keeps m m' → (∀ x, own v x → m.obj x = none) → k v m') : F198 c m k := by
 unfold F198
 refine opB_new hc fun b2 m1 hb2 K1 h2 => ?_
 rw [h2.l0]
 have hk' := ho.cases
 refine h2.lg fun c4 h4 => ir_right h4 ho.r (kif_f rfl ?_)
 have e0 : (o.k == 0) = false := by simp; omega
 rw [e0]
 unfold P198_3004
 refine kif_f rfl ?_
 have low : o.k ≠ 20 → ∀ z, z = false → P198_5004 b2 0 z m1 (fun v10 m11 => k v10 m11) (fun m12 => ldI .i64 m12 b2 1 fun x25 => newK m12 ⟨1, upd (lget [(.flat (.int .i64 0))]) 0 (.flat (.int .i64 x25)), 3, false⟩ fun b27 m26 => k (.sl b27 0 1 (.ex 1)) m26) := by
  intro h20 z hz
  subst hz
  unfold P198_5004
  refine kif_f rfl ?_
  rw [Nat.zero_add, h2.l1]
  refine kif_c _ (fun c0 => ?_) fun c0 => ?_
  ·have c0 : o.d = 0 := by simpa using c0
   refine hk _ m1 ?_ K1 fun x hx => hx.elim
   unfold writesS; rw [if_neg h20, if_pos c0]; exact .nil none _
  ·have c0 : o.d ≠ 0 := by simpa using c0
   dsimp only
   rw [h2.l1]
   refine row_i [o.d] rfl (fun i hi => ?_) fun b27 m26 hb26 K26 h26 => hk _ m26 ?_ (K1.trans K26) fun x hx => by cases hx; exact newK_none K1 hb26
   ·have : i = 0 := by simp at hi; omega
    subst this; rfl
   ·unfold writesS; rw [if_neg h20, if_neg c0]; exact h26
 by_cases c20 : o.k = 20
 ·refine kif_t (by simp [c20]) ?_
  rw [show decide (o.k ≤ 20) = true by simp [c20]]
  unfold P198_5004
  refine kif_t rfl (row_i [32, 33] rfl (fun i hi => ?_) fun b8 m7 hb7 K7 h7 => hk _ m7 ?_ (K1.trans K7) fun x hx => by cases hx; exact newK_none K1 hb7)
  ·have : i = 0 ∨ i = 1 := by simp at hi; omega
   rcases this with rfl | rfl <;> rfl
  ·unfold writesS; rw [if_pos c20]; exact h7
 ·exact kif_f (by simp; omega) (low c20 false rfl)
end
section
variable {m : Mem}
def o0 : Op19 := ⟨1, 0, 0, 0, 0⟩
def IsOf (m : Mem) (v : AV) (n : Nat) (X : Nat → Op19) : Prop := ∃ c : Nat → AV, IsL m 5 v n c ∧ ∀ i, i < n → OpC (fun j => c (i * 5 + j)) (X i)
def atO (l : List Op19) : Nat → Op19 := fun i => l.getD i o0
def IsO (m : Mem) (v : AV) (l : List Op19) : Prop := IsOf m v l.length (atO l)
theorem atO_get {l : List Op19} {i : Nat} (h : i < l.length) : atO l i = l[i] := by simp [atO, List.getD, h]
theorem IsOf.fr {m' : Mem} {S : Nat → Prop} {v : AV} {n : Nat} {X : Nat → Op19} (h : IsOf m v n X) (F : Fr S m m') (hs : ∀ b, own v b → ¬ S b) : IsOf m' v n X := by
 obtain ⟨c, h1, h2⟩ := h; exact ⟨c, h1.fr F hs, h2⟩
theorem IsO.fr {m' : Mem} {S : Nat → Prop} {v : AV} {l : List Op19} (h : IsO m v l) (F : Fr S m m') (hs : ∀ b, own v b → ¬ S b) : IsO m' v l := IsOf.fr h F hs
theorem IsO.keep {m' : Mem} {v : AV} {l : List Op19} (h : IsO m v l) (K : Keeps m m') : IsO m' v l := h.fr (K.fr fun _ => False) fun _ _ h => h
theorem IsOf.live {v : AV} {n : Nat} {X : Nat → Op19} (h : IsOf m v n X) {b : Nat} (hb : own v b) : m.obj b ≠ none := by obtain ⟨c, h1, _⟩ := h; exact h1.live hb
theorem IsO.ops {v : AV} {l : List Op19} (h : IsO m v l) : IsOps m v l := by
 obtain ⟨c, h1, h2⟩ := h
 exact ⟨c, h1.r, fun i hi => by rw [← atO_get hi]; exact h2 i hi⟩
theorem OpC.congr {c d : Nat → AV} {o : Op19} (h : OpC c o) (e : ∀ j, j < 5 → d j = c j) : OpC d o := by
 obtain ⟨a0, a1, a2, a3, a4⟩ := h
 exact ⟨(e 0 (by omega)).trans a0, (e 1 (by omega)).trans a1, (e 2 (by omega)).trans a2, (e 3 (by omega)).trans a3, (e 4 (by omega)).trans a4⟩
theorem IsOf.congr {v : AV} {n : Nat} {X Y : Nat → Op19} (h : IsOf m v n X) (e : ∀ i, i < n → X i = Y i) : IsOf m v n Y := by
 obtain ⟨c, h1, h2⟩ := h
 exact ⟨c, h1, fun i hi => by rw [← e i hi]; exact h2 i hi⟩
theorem IsOf.ld {v : AV} {n : Nat} {X : Nat → Op19} (h : IsOf m v n X) {i : Int} (h0 : 0 ≤ i) (h1 : i < n) {k : (Nat → AV) → Prop} (hk : ∀ c, OpC c (X i.toNat) → k c) : ksl v fun b o q p => kif (decide (0 ≤ i) && decide (i < q)) (ldG 5 m b (o + i.toNat * 5) k) False := by
 obtain ⟨c, hc, hx⟩ := h
 cases hc with
 | nil a c => exact absurd h1 (by simp; omega)
 | sl b o n cap y c g1 g2 g3 g4 g5 =>
  refine kif_ix h0 h1 ?_
  rw [ldG_of g1 (by omega)]
  refine hk _ ((hx i.toNat (by omega)).congr fun j hj => ?_)
  simp only [sub]
  rw [if_pos hj, Nat.add_assoc]
  exact g3 _ (by omega)
theorem IsOf.st {v : AV} {n : Nat} {X : Nat → Op19} (h : IsOf m v n X) {i : Int} (h0 : 0 ≤ i) (h1 : i < n) {d : Nat → AV} {x : Op19} (hd : OpC d x) {k : Mem → Prop} (hk : ∀ m', IsOf m' v n (fun j => if j = i.toNat then x else X j) → Fr (own v) m m' → k m') : ksl v fun b o q p => kif (decide (0 ≤ i) && decide (i < q)) (stG 5 m b (o + i.toNat * 5) d k) False := by
 obtain ⟨c, hc, hx⟩ := h
 cases hc with
 | nil a c => exact absurd h1 (by simp; omega)
 | sl b o n cap y c g1 g2 g3 g4 g5 =>
  refine kif_ix h0 h1 ?_
  rw [stG_of g1 g4 (by omega)]
  refine hk _ ⟨fun j => splice c (i.toNat * 5) 5 d j, .sl b o n cap _ _ (set_same _ _ _) g2 (fun j hj => ?_) g4 g5, fun j hj => ?_⟩ (Fr.set rfl _)
  ·simp only [splice]
   by_cases c1 : i.toNat * 5 ≤ j ∧ j < i.toNat * 5 + 5
   ·rw [if_pos (by omega), if_pos (by omega)]; congr 1; omega
   ·rw [if_neg (by omega), if_neg (by omega)]; exact g3 j hj
  ·by_cases c1 : j = i.toNat
   ·subst c1
    dsimp only
    rw [if_pos rfl]
    refine hd.congr fun t ht => ?_
    simp only [splice]
    rw [if_pos (by omega)]; congr 1; omega
   ·dsimp only
    rw [if_neg c1]
    refine (hx j hj).congr fun t ht => ?_
    simp only [splice]
    rw [if_neg (by omega)]
theorem IsO.app {v : AV} {l : List Op19} (h : IsO m v l) (hl : l.length ≤ 1000) {c z : Nat → AV} {x : Op19} (hc : OpC c x) {t e : TypeId} {k : KV} (hk : ∀ v' m', IsO m' v' (l ++ [x]) → Fr (own v) m m' → (∀ b, own v' b → own v b ∨ m.obj b = none) → k v' m') :
  newK m ⟨5, splice z 0 5 c, t, false⟩ fun b m1 => appS 5 40 e v (.sl b 0 1 (.ex 1)) m1 k := by
 obtain ⟨c0, h1, h2⟩ := h
 have h1' := h1.congr (d := fun i => if i < l.length * 5 then c0 i else c (i - l.length * 5)) fun i hi => by rw [if_pos hi]
 refine appN (n' := 1) h1' rfl (fun i hi => ?_) (by omega) fun v' m' g1 g2 g3 => hk v' m' ⟨_, by rw [List.length_append]; exact g1, fun i hi => ?_⟩ g2 g3
 ·simp only [splice]
  rw [if_pos (by omega), if_neg (by omega)]; congr 1; omega
 ·simp at hi
  by_cases c1 : i < l.length
  ·have : atO (l ++ [x]) i = atO l i := by simp [atO, List.getD, List.getElem?_append_left c1]
   rw [this]
   refine (h2 i c1).congr fun j hj => ?_
   rw [if_pos (by omega)]
  ·have e : i = l.length := by omega
   subst e
   have : atO (l ++ [x]) l.length = x := by simp [atO, List.getD]
   rw [this]
   refine hc.congr fun j hj => ?_
   rw [if_neg (by omega)]; congr 1; omega
theorem IsO.nil : IsO m (.flat (.slice none 0 0)) [] := ⟨fun _ => .junk, .nil none _, fun i hi => by simp at hi⟩
theorem oright_spec {v : AV} {l : List Op19} (hl : l.length ≤ 8) (h : IsOps m v l) (ho : ∀ x ∈ l, OpK x) {k : Bool → Mem → Prop} (hk : k true m) : F197 v m k := by
 unfold F197
 rw [h.len]
 have loop : ∀ (j i : Nat) (m1 : Mem), i + j = l.length → Keeps m m1 → L197_2 v l.length (j + 1) i m1 (fun m13 => (Keeps m m13 ∧ k true m)) (fun x14 m15 => (Keeps m m15 ∧ k x14 m)) := by
  intro j
  induction j with
  | zero =>
   intro i m1 e K
   show R197_2 _ _ _ _ _ _ _
   unfold R197_2
   exact kif_f (by simp; omega) ⟨K, hk⟩
  | succ j ih =>
   intro i m1 e K
   show R197_2 _ _ _ _ _ _ _
   unfold R197_2
   rw [wrap64 (n := (i : Int) + 1) (by omega) (by omega)]
   refine kif_t (by simp; omega) ((h.keep K).ld i (by omega) fun c9 h9 => boxN fun b11 m12 y hb11 K12 e12 n12 r12 c12 => ?_)
   have hB : OpB m12 b11 l[i] := ⟨y, e12, n12, h9.congr c12⟩
   refine hB.lg fun c13 h13 => ir_right h13 (ho _ (List.getElem_mem _)).r (kif_f rfl (ih (i + 1) m12 (by omega) (K.trans K12)))
 exact ⟨l.length + 1, loop l.length 0 m (by omega) (Keeps.self m)⟩
theorem sure_spec {c : Nat → AV} {o : Op19} (hc : OpC c o) (ho : OpK o) {k : Bool → Mem → Prop} (hk : k true m) : F201 c m k := by
 unfold F201
 refine opB_new hc fun b m1 hb K h => ?_
 rw [h.l0, h.l0]
 have := ho.cases
 refine kif_t (by simp; omega) ?_
 rw [show (o.k != 22) = true by simp; omega]
 exact ⟨K, hk⟩
def cBo (K : Nat → Bool) : Nat → AV := fun i => .flat (.bool (K i))
theorem Rg.lR {b o N : Nat} {f : Nat → Int} {R : Nat → AV} (h : Rg m b o f N R) {j : Nat} (hj : j < N) (hj2 : j < o ∨ o + 40 ≤ j) {x : Bool} (e : R j = .flat (.bool x)) (k : Bool → Prop) : ldB m b j k = k x := by
 obtain ⟨y, e1, hn, hr, hc, hR⟩ := h.e
 exact ldB_of e1 (by omega) ((hR j hj hj2).trans e)
theorem Rg.sR {b o N : Nat} {f : Nat → Int} {R : Nat → AV} (h : Rg m b o f N R) {j : Nat} (hj : j < N) (hj2 : j < o ∨ o + 40 ≤ j) {x : AV} {k : Mem → Prop} (hk : ∀ m', Rg m' b o f N (upd R j x) → Only m b m' → k m') : stC m b j x k := by
 obtain ⟨y, e, hn, hr, hc, hR⟩ := h.e
 rw [stC_of e hr (by omega)]
 refine hk _ ⟨⟨_, set_same _ _ _, hn, hr, fun i hi => ?_, fun i hi hi2 => ?_⟩, h.n, h.u⟩ (Only.set _ _ _)
 ·show upd y.c _ _ _ = _
  have := h.n
  unfold upd; rw [if_neg (by omega)]; exact hc i hi
 ·show upd y.c _ _ _ = upd R _ _ _
  unfold upd
  by_cases c : i = j
  ·rw [if_pos c, if_pos c]
  ·rw [if_neg c, if_neg c]; exact hR i hi hi2
def Fx (m : Mem) (b : Nat) (K : Nat → Bool) (V : Nat → Int) : Prop := Rg m b 40 V 80 (cBo K)
def inRL (l : List Int) : Prop := ∀ z ∈ l, 0 ≤ z ∧ z < 40
theorem knows_spec {b : Nat} {K : Nat → Bool} {V : Nat → Int} (h : Fx m b K V) {v : AV} {l : List Int} (hv : IsZ m v l) (hl : l.length ≤ 2) (hr : inRL l) {k : Bool → Mem → Prop} (hk : k (knowsB K l) m) : F223 b 0 v m k := by
 unfold F223
 rw [hv.len]
 have loop : ∀ (j i : Nat), i + j = l.length → knowsB K l = knowsB K (l.drop i) → L223_2 b 0 v l.length (j + 1) i m (fun m8 => (Keeps m m8 ∧ k true m)) (fun x9 m10 => (Keeps m m10 ∧ k x9 m)) := by
  intro j
  induction j with
  | zero =>
   intro i e g
   show R223_2 _ _ _ _ _ _ _ _ _
   unfold R223_2
   rw [show i = l.length by omega, List.drop_length] at g
   have g : knowsB K l = true := g
   rw [g] at hk
   exact kif_f (by simp; omega) ⟨Keeps.self m, hk⟩
  | succ j ih =>
   intro i e g
   show R223_2 _ _ _ _ _ _ _ _ _
   unfold R223_2
   have hi : i < l.length := by omega
   have hz := hr _ (List.getElem_mem hi)
   rw [wrap64 (n := (i : Int) + 1) (by omega) (by omega)]
   refine kif_t (by simp; omega) (hv.ld hi (k := fun b o x => kif _ _ _) fun _ _ _ => kif_ix hz.1 hz.2 ?_)
   rw [show 0 + 0 + l[i].toNat * 1 = l[i].toNat by omega, h.lR (x := K l[i].toNat) (by omega) (by omega) rfl]
   rw [List.drop_eq_getElem_cons hi] at g
   have g : knowsB K l = (K l[i].toNat && knowsB K (l.drop (i + 1))) := g
   refine kif_c _ (fun c => ?_) fun c => ?_
   ·have c : K l[i].toNat = false := by simpa using c
    rw [c] at g
    have g : knowsB K l = false := g
    rw [g] at hk
    exact ⟨Keeps.self m, hk⟩
   ·have c : K l[i].toNat = true := by simpa using c
    rw [c] at g
    exact ih (i + 1) (by omega) g
 exact ⟨l.length + 1, loop l.length 0 (by omega) (by rw [List.drop_zero])⟩
theorem reads_in {o : Op19} (h : OpR o) : inRL (readsS o) := fun z hz => reads_rng h hz
theorem writes_in {o : Op19} (h : OpR o) : inRL (writesS o) := fun z hz => ⟨by have := writes_rng h hz; omega, (writes_rng h hz).2⟩
theorem reads_len (o : Op19) : (readsS o).length ≤ 2 := by
 unfold readsS; split
 ·simp
 split
 ·simp
 split
 ·simp
 split <;> simp
theorem writes_len (o : Op19) : (writesS o).length ≤ 2 := by
 unfold writesS; split
 ·simp
 split <;> simp
theorem OpB.st {b : Nat} {o o' : Op19} {c : Nat → AV} (h : ∃ y, m.obj b = some y ∧ y.n = 5 ∧ y.ro = false) (hc : OpC c o') {k : Mem → Prop} (hk : ∀ m', OpB m' b o' → Only m b m' → k m') : stG 5 m b 0 c k := by
 obtain ⟨y, e, n, r⟩ := h
 rw [stG_of e r (by omega)]
 refine hk _ ⟨_, set_same _ _ _, n, hc.congr fun j hj => ?_⟩ (Only.set _ _ _)
 simp only [splice]
 rw [if_pos (by omega)]; rfl
theorem upd00 {V : Nat → Int} (h : V 0 = 0) : upd V 0 0 = V := by
 funext i; unfold upd; split
 ·subst i; exact h.symm
 ·rfl
theorem fold_spec {b : Nat} {K : Nat → Bool} {V : Nat → Int} (h : Fx m b K V) (h0 : V 0 = 0) {c : Nat → AV} {o : Op19} (hc : OpC c o) (ho : OpK o) {k : (Nat → AV) → Bool → Mem → Prop} (hk : ∀ c' m', OpC c' (foldO K V o) → Keeps m m' → k c' true m') : F204 b 0 c m k := by
 unfold F204
 refine opB_new hc fun b2 m1 hb2 K1 h2 => newK_i fun b4 m3 hb4 K3 e4 O4 => ?_
 have h23 := h2.keep K3
 refine h23.lg fun c5 h5 => writes_spec h5 ho fun v6 m7 hv6 K7 ov6 => (h23.keep K7).lg fun c8 h8 => sure_spec h8 ho (kif_f rfl ?_)
 have h27 := h23.keep K7
 have e47 : ∃ y, m7.obj b4 = some y ∧ y.n = 5 ∧ y.ro = false := ⟨_, (K7 b4 (by rw [e4]; simp)).trans e4, rfl, rfl⟩
 have K07 : Keeps m m7 := (K1.trans K3).trans K7
 have n4 : m.obj b4 = none := newK_none K1 hb4
 unfold P204_3004
 refine kif_f rfl (h27.lg fun c20 h20 => sure_spec h20 ho (kif_f rfl ?_))
 rw [hv6.len]
 have keepit : ∀ m1, Keeps m7 m1 → foldO K V o = o → (ldG 5 m1 b2 0 fun c => stG 5 m1 b4 0 c fun m39 => ldG 5 m39 b4 0 fun c59 => k c59 true m39) := fun m1 K1 e => by
  refine (h27.keep K1).lg fun c29 h29 => OpB.st (o := o) (by obtain ⟨y, a, b, c⟩ := e47; exact ⟨y, by rw [K1 _ (by rw [a]; simp)]; exact a, b, c⟩) h29 fun m' h' O' => h'.lg fun c59 h59 => hk c59 m' (by rw [e]; exact h59) ?_
  exact Fr.keeps (K07.trans K1) O'.fr1 fun x hx => by cases hx; exact n4
 have w2 := writes_len o
 refine kif_c _ (fun c1 => ?_) fun c1 => ?_
 ·have c1 : (writesS o).length ≠ 1 := by simp at c1; omega
  exact keepit m7 (Keeps.self _) (by unfold foldO; rw [if_neg fun h => c1 h.1])
 have c1 : (writesS o).length = 1 := by simp at c1; omega
 refine h27.lg fun c24 h24 => reads_spec h24 ho fun v25 m26 hv25 K26 ov25 => knows_spec (Rg.keep h (K07.trans K26)) hv25 (reads_len o) (reads_in ho.r) ?_
 refine kif_c _ (fun c2 => ?_) fun c2 => ?_
 ·have c2 : knowsB K (readsS o) = false := by simpa using c2
  exact keepit m26 K26 (by unfold foldO; rw [if_neg fun h => by rw [c2] at h; simp at h])
 have c2 : knowsB K (readsS o) = true := by simpa using c2
 obtain ⟨k20, hd⟩ := writes_one ho.r c1
 have hdr := ho.r.d
 unfold P204_6102
 have hF := Rg.keep h (K07.trans K26)
 obtain ⟨y, ey, yn, yr, yc, yR⟩ := hF.e
 show ldG 40 m26 b (0 + 40) _
 rw [ldG_of ey (by omega)]
 refine boxN fun b43 m44 y43 hb43 K44 e43 n43 r43 c43 => ?_
 have h43 : Rg m44 b43 0 V 40 (fun _ => .junk) := ⟨⟨y43, e43, n43, r43, fun i hi => by
  rw [Nat.zero_add, c43 i hi]
  simp only [sub]
  rw [if_pos hi]; exact yc i hi, fun j hj hj2 => by omega⟩, by omega, hF.u⟩
 have h244 := (h27.keep K26).keep K44
 refine h244.lg fun c45 h45 => newK_i fun b47 m46 hb47 K46 e47' O46 => ?_
 have i47 : IsOps m46 (.sl b47 0 1 (.ex 1)) [o] := ops1 e47' (h45.congr fun j hj => by simp only [splice]; rw [if_pos (by omega)]; rfl)
 refine irun_spec (by simp) (h43.keep K46) i47 (fun e => ?_) (fun x hx => by simp at hx; subst hx; exact ho) fun m49 h49 F49 => ?_
 ·have e : b47 = b43 := e
  subst e; exact h43.live hb47
 have ne2 : b2 ≠ b43 := fun e => (h27.keep K26).live (e ▸ hb43)
 have h249 : OpB m49 b2 o := (h244.keep K46).fr F49 ne2
 rw [show (0 : Nat) + 1 = 1 from rfl, h249.l1, h249.l1]
 refine kif_ix hdr.1 hdr.2 ?_
 rw [show 0 + o.d.toNat * 1 = 0 + o.d.toNat by omega, h49.ld (by omega)]
 have K49 : Keeps m m49 := Fr.keeps (((K07.trans K26).trans K44).trans K46) F49 fun x hx => by cases hx; exact newK_none (K07.trans K26) hb43
 have e49 : ∃ y, m49.obj b4 = some y ∧ y.n = 5 ∧ y.ro = false := by
  obtain ⟨y, a, b, c⟩ := e47
  have K746 : Keeps m7 m46 := (K26.trans K44).trans K46
  have a' : m46.obj b4 = some y := by rw [K746 _ (by rw [a]; simp)]; exact a
  refine ⟨y, ?_, b, c⟩
  rw [F49 b4 (by rw [a']; simp) fun e => ?_]
  ·exact a'
  ·have e : b4 = b43 := e
   subst e
   rw [K26 b4 (by rw [a]; simp), a] at hb43; simp at hb43
 have e1 : run18 (upd V 0 0) [o] o.d.toNat = one18 V o o.d.toNat := by rw [upd00 h0]; rfl
 rw [e1]
 refine OpB.st (o := o) (o' := foldO K V o) e49 ?_ fun m' h' O' => h'.lg fun c59 h59 => hk c59 m' h59 (Fr.keeps K49 O'.fr1 fun x hx => by cases hx; exact n4)
 unfold foldO; rw [if_pos ⟨c1, c2⟩]
 exact ⟨rfl, rfl, rfl, rfl, rfl⟩
end
section
variable {m : Mem}
def isVz (v : AV) : Bool := match v with
 | .flat (.int .u32 n) => n == 0
 | _ => false
theorem isVz_eq {v : AV} (h : isVz v = true) : v = vu 0 := by
 unfold isVz at h; split at h
 ·rename_i n; have : n = 0 := by simpa using h
  rw [this]
 ·simp at h
def isVf (v : AV) : Bool := match v with
 | .flat (.bool b) => !b
 | _ => false
theorem isVf_eq {v : AV} (h : isVf v = true) : v = .flat (.bool false) := by
 unfold isVf at h; split at h
 ·rename_i n; have : n = false := by simpa using h
  rw [this]
 ·simp at h
def setK (K : Nat → Bool) (l : List Int) (x : Bool) : Nat → Bool := fun n => if (n : Int) ∈ l then x else K n
theorem setK_succ {K : Nat → Bool} {l : List Int} {x : Bool} {i : Nat} (hi : i < l.length) (hr : 0 ≤ l[i]) : setK K (l.take (i + 1)) x = fun n => if n = l[i].toNat then x else setK K (l.take i) x n := by
 funext n
 unfold setK
 have e : l.take (i + 1) = l.take i ++ [l[i]] := (List.take_append_getElem hi).symm
 have em : (n : Int) ∈ l.take (i + 1) ↔ (n : Int) ∈ l.take i ∨ n = l[i].toNat := by
  rw [e, List.mem_append, List.mem_singleton]
  constructor
  ·rintro (h | h)
   ·exact .inl h
   ·exact .inr (by omega)
  ·rintro (h | h)
   ·exact .inl h
   ·exact .inr (by omega)
 by_cases c : n = l[i].toNat
 ·rw [if_pos (em.2 (.inr c)), if_pos c]
 ·rw [if_neg c]
  by_cases c2 : (n : Int) ∈ l.take i
  ·rw [if_pos (em.2 (.inl c2)), if_pos c2]
  ·rw [if_neg fun h => (em.1 h).elim c2 c, if_neg c2]
theorem cBo_upd (K : Nat → Bool) (j : Nat) (x : Bool) : upd (cBo K) j (.flat (.bool x)) = cBo (fun n => if n = j then x else K n) := by
 funext i; unfold upd cBo
 by_cases c : i = j
 ·rw [if_pos c]; show _ = AV.flat (.bool (if i = j then x else K i)); rw [if_pos c]
 ·rw [if_neg c]; show _ = AV.flat (.bool (if i = j then x else K i)); rw [if_neg c]
theorem done_loop {b : Nat} {V : Nat → Int} {K : Nat → Bool} {x : Bool} {v : AV} {l : List Int} (hl : l.length ≤ 2) (hr : inRL l) (hb : ¬ own v b) {k0 : Mem → Prop} {m0 : Mem} (hk : ∀ m', Fx m' b (setK K l x) V → Fr (one1 b) m0 m' → k0 m') :
  ∀ (j i : Nat) (m : Mem), i + j = l.length → IsZ m v l → Fx m b (setK K (l.take i) x) V → Fr (one1 b) m0 m → L205_5 b 0 x v l.length (j + 1) i m k0 := by
 intro j
 induction j with
 | zero =>
  intro i m e hv h F
  show R205_5 _ _ _ _ _ _ _ _ _
  unfold R205_5
  rw [show i = l.length by omega, List.take_length] at h
  exact kif_f (by simp; omega) (hk m h F)
 | succ j ih =>
  intro i m e hv h F
  show R205_5 _ _ _ _ _ _ _ _ _
  unfold R205_5
  have hi : i < l.length := by omega
  have hz := hr _ (List.getElem_mem hi)
  rw [wrap64 (n := (i : Int) + 1) (by omega) (by omega)]
  refine kif_t (by simp; omega) (hv.ld hi (k := fun b o x => kif _ _ _) fun _ _ _ => kif_ix hz.1 hz.2 ?_)
  rw [show 0 + 0 + l[i].toNat * 1 = l[i].toNat by omega]
  refine Rg.sR h (by omega) (by omega) fun m' h' O' => ih (i + 1) m' (by omega) (hv.fr O'.fr1 fun y hy e => by cases e; exact hb hy) ?_ (F.trans O'.fr1)
  rw [cBo_upd, ← setK_succ hi hz.1] at h'
  exact h'
theorem done_spec {b : Nat} {K : Nat → Bool} {V : Nat → Int} (h : Fx m b K V) (h0 : V 0 = 0) {c : Nat → AV} {o : Op19} (hc : OpC c o) (ho : OpK o) {k : Mem → Prop} (hk : ∀ m', Fx m' b (doneK K o) (doneV K V o) → Fr (one1 b) m m' → k m') : F205 b 0 c m k := by
 unfold F205
 refine opB_new hc fun b2 m1 hb2 K1 h2 => h2.lg fun c3 h3 => reads_spec h3 ho fun v4 m5 hv4 K5 ov4 => knows_spec (Rg.keep h (K1.trans K5)) hv4 (reads_len o) (reads_in ho.r) ?_
 have rest : ∀ (m7 : Mem) (V' : Nat → Int) (x : Bool), Fx m7 b K V' → OpB m7 b2 o → Fr (one1 b) m m7 → doneK K o = setK K (writesS o) x → doneV K V o = V' → P205_4102 b 0 b2 0 x m7 (fun m25 => k m25) := fun m7 V' x h7 h27 F7 e1 e2 => by
  unfold P205_4102
  refine h27.lg fun c13 h13 => writes_spec h13 ho fun v14 m15 hv14 K15 ov14 => ?_
  rw [hv14.len]
  have h15 := Rg.keep h7 K15
  refine ⟨(writesS o).length + 1, done_loop (K := K) (V := V') (writes_len o) (writes_in ho.r) (fun e => h7.live (ov14 _ e)) (m0 := m7) (fun m' h' F' => hk m' ?_ (F7.trans F')) (writesS o).length 0 m15 (by omega) hv14 ?_ (K15.fr _)⟩
  ·rw [e1, e2]; exact h'
  ·have : setK K ((writesS o).take 0) x = K := by funext n; simp [setK]
   rw [this]; exact h15
 have dk : ∀ x, knowsB K (readsS o) = x → doneK K o = setK K (writesS o) x := fun x e => by unfold doneK setK; rw [e]
 have h25 := h2.keep K5
 refine kif_c _ (fun c => ?_) fun c => ?_
 ·rw [c]
  refine h25.lg fun c8 h8 => newK_i fun b10 m9 hb10 K9 e10 O9 => ?_
  have i10 : IsOps m9 (.sl b10 0 1 (.ex 1)) [o] := ops1 e10 (h8.congr fun j hj => by simp only [splice]; rw [if_pos (by omega)]; rfl)
  have hF := Rg.keep h (K1.trans K5)
  refine irun_spec (by simp) (hF.keep K9) i10 (fun e => ?_) (fun x hx => by simp at hx; subst hx; exact ho) fun m12 h12 F12 => ?_
  ·have e : b10 = b := e
   subst e; exact hF.live hb10
  ·refine rest m12 _ true h12 ((h25.keep K9).fr F12 fun e => ?_) (Fr.key ((K1.trans K5).trans K9) F12) (dk _ c) ?_
   ·have e : b2 = b := e
    subst e; exact h.live hb2
   ·rw [upd00 h0]; unfold doneV; rw [if_pos c]; rfl
 ·rw [c]
  refine rest m5 _ false (Rg.keep h (K1.trans K5)) h25 ((K1.trans K5).fr _) (dk _ c) ?_
  unfold doneV; rw [if_neg (by rw [c]; simp)]
theorem doneV0 {K : Nat → Bool} {V : Nat → Int} {o : Op19} (ho : OpK o) (h0 : V 0 = 0) : doneV K V o 0 = 0 := by
 unfold doneV; split
 ·rw [one_not ho V fun h => by have := writes_rng ho.r h; omega]; exact h0
 ·exact h0
structure OwO (m0 m : Mem) (v : AV) (l : List Op19) : Prop where
 l : IsO m v l
 K : Keeps m0 m
 o : ∀ b, own v b → m0.obj b = none
theorem OwO.keep {m0 m' : Mem} {v : AV} {l : List Op19} (h : OwO m0 m v l) (K : Keeps m m') : OwO m0 m' v l := ⟨h.l.keep K, h.K.trans K, h.o⟩
theorem OwO.fr1 {m0 m' : Mem} {v : AV} {l : List Op19} {b : Nat} (h : OwO m0 m v l) (F : Fr (one1 b) m m') (hb : m0.obj b = none) (hn : ¬ own v b) : OwO m0 m' v l := ⟨h.l.fr F fun x hx e => by cases e; exact hn hx, Fr.keeps h.K F fun x hx => by cases hx; exact hb, h.o⟩
theorem OwO.app {m0 : Mem} {v : AV} {l : List Op19} (h : OwO m0 m v l) (hl : l.length ≤ 1000) {c z : Nat → AV} {x : Op19} (hc : OpC c x) {t e : TypeId} {k : KV} (hk : ∀ v' m', OwO m0 m' v' (l ++ [x]) → Fr (own v) m m' → (∀ b, own v' b → own v b ∨ m.obj b = none) → k v' m') :
  newK m ⟨5, splice z 0 5 c, t, false⟩ fun b m1 => appS 5 40 e v (.sl b 0 1 (.ex 1)) m1 k :=
 h.l.app hl hc fun v' m' g1 g2 g3 => hk v' m' ⟨g1, Fr.keeps h.K g2 h.o, fun b hb => by
  rcases g3 b hb with h1 | h1
  ·exact h.o b h1
  ·exact newK_none h.K h1⟩ g2 g3
theorem ofold_loop {b : Nat} {v : AV} {l : List Op19} (hl : l.length ≤ 8) (hv0 : ∀ x ∈ l, OpK x) {m0 : Mem} (hb : m0.obj b = none) (hv : IsOps m0 v l) {k0 : AV → Mem → Prop} {R : List Op19} (hk : ∀ v' m', OwO m0 m' v' R → k0 v' m') :
  ∀ (j i : Nat) (a : AV) (al : List Op19) (m : Mem) (K : Nat → Bool) (V : Nat → Int), i + j = l.length → OwO m0 m a al → ¬ own a b → al.length ≤ i → al ++ foldL K V (l.drop i) = R → Fx m b K V → V 0 = 0 → L163_7 b 0 v l.length (j + 1) a i m k0 := by
 intro j
 induction j with
 | zero =>
  intro i a al m K V e A na hal hR hF h0
  show R163_7 _ _ _ _ _ _ _ _ _
  unfold R163_7
  rw [show i = l.length by omega, List.drop_length] at hR
  have hR : al ++ [] = R := hR
  rw [List.append_nil] at hR
  exact kif_f (by simp; omega) (hk a m (hR ▸ A))
 | succ j ih =>
  intro i a al m K V e A na hal hR hF h0
  show R163_7 _ _ _ _ _ _ _ _ _
  unfold R163_7
  have hi : i < l.length := by omega
  have hx := hv0 _ (List.getElem_mem hi)
  rw [wrap64 (n := (i : Int) + 1) (by omega) (by omega)]
  refine kif_t (by simp; omega) ((hv.keep A.K).ld i hi fun c11 h11 => boxN fun b13 m14 y hb13 K14 e13 n13 r13 c13 => ?_)
  have hB : OpB m14 b13 l[i] := ⟨y, e13, n13, h11.congr c13⟩
  refine hB.lg fun c15 h15 => fold_spec (Rg.keep hF K14) h0 h15 hx fun c16 m18 h16 K18 => boxN fun b20 m21 y20 hb20 K21 e20 n20 r20 c20 => kif_t rfl ?_
  have hB20 : OpB m21 b20 (foldO K V l[i]) := ⟨y20, e20, n20, h16.congr c20⟩
  have A21 := ((A.keep K14).keep K18).keep K21
  have F21 := Rg.keep (Rg.keep (Rg.keep hF K14) K18) K21
  refine hB20.lg fun c22 h22 => A21.app (by omega) h22 fun v25 m26 A26 F26 o26 => ?_
  have b20live : m21.obj b20 ≠ none := hB20.live
  have n20 : ¬ own a b20 := fun e => A.l.live e (newK_none (K14.trans K18) hb20)
  have b26 : OpB m26 b20 _ := hB20.fr F26 n20
  have fx26 : Fx m26 b K V := Rg.fr F21 F26 na
  have nv25 : ¬ own v25 b := fun e => by
   rcases o26 _ e with h | h
   ·exact na h
   ·exact F21.live h
  refine b26.lg fun c27 h27 => done_spec fx26 h0 h27 (foldO_k hx hF.u) fun m28 h28 F28 => ih (i + 1) v25 _ m28 _ _ (by omega) (A26.fr1 F28 hb nv25) nv25 (by simp; omega) ?_ h28 (doneV0 (foldO_k hx hF.u) h0)
  rw [List.append_assoc, ← hR, List.drop_eq_getElem_cons hi]; rfl
theorem ofold_spec {v : AV} {l : List Op19} (hl : l.length ≤ 8) (hv : IsOps m v l) (ho : ∀ x ∈ l, OpK x) {k : AV → Mem → Prop} (hk : ∀ v' m', IsO m' v' (foldL K0 (fun _ => 0) l) → Keeps m m' → (∀ b, own v' b → m.obj b = none) → k v' m') : F163 v m k := by
 unfold F163
 refine oright_spec hl hv ho (kif_f rfl (newK_i fun b m3 hb K3 e3 O3 => ?_))
 have h3 : Fx m3 b (fun _ => false) (fun _ => 0) := ⟨⟨_, e3, rfl, rfl, fun i hi => by
  have : ∀ i, i < 40 → isVz (Z80 (40 + i)) = true := by decide +kernel
  exact isVz_eq (this i hi), fun j hj hj2 => by
  have : ∀ i, i < 40 → isVf (Z80 i) = true := by decide +kernel
  exact isVf_eq (this j (by omega))⟩, by omega, fun _ => ⟨Int.le_refl 0, by decide⟩⟩
 refine Rg.sR h3 (by omega) (by omega) fun m5 h5 O5 => ?_
 rw [hv.len]
 have K5 : Keeps m m5 := Fr.keeps K3 O5.fr1 fun x hx => by cases hx; exact hb
 rw [cBo_upd] at h5
 have eK : (fun n => if n = 0 then true else (fun _ : Nat => false) n) = K0 := by funext n; simp [K0]
 rw [eK] at h5
 exact ⟨l.length + 1, ofold_loop hl ho hb hv (R := foldL K0 (fun _ => 0) l) (fun v' m' A => hk v' m' A.l A.K A.o) l.length 0 _ [] m5 K0 (fun _ => 0) (by omega) ⟨.nil, K5, fun b h => h.elim⟩ (fun h => h) (by simp) (by rw [List.drop_zero, List.nil_append]) h5 rfl⟩
end
section
variable {m : Mem}
def Lv (m : Mem) (b : Nat) (L : Nat → Bool) : Prop := ∃ y, m.obj b = some y ∧ y.n = 40 ∧ y.ro = false ∧ ∀ i, i < 40 → y.c i = .flat (.bool (L i))
theorem Lv.fr {m' : Mem} {S : Nat → Prop} {b : Nat} {L : Nat → Bool} (h : Lv m b L) (F : Fr S m m') (hb : ¬ S b) : Lv m' b L := by
 obtain ⟨y, e, r⟩ := h
 exact ⟨y, by rw [F b (by rw [e]; simp) hb]; exact e, r⟩
theorem Lv.keep {m' : Mem} {b : Nat} {L : Nat → Bool} (h : Lv m b L) (K : Keeps m m') : Lv m' b L := h.fr (K.fr fun _ => False) fun h => h
theorem Lv.live {b : Nat} {L : Nat → Bool} (h : Lv m b L) : m.obj b ≠ none := by obtain ⟨y, e, _⟩ := h; rw [e]; simp
theorem Lv.ld {b : Nat} {L : Nat → Bool} (h : Lv m b L) {i : Nat} (hi : i < 40) (k : Bool → Prop) : ldB m b i k = k (L i) := by
 obtain ⟨y, e, hn, hr, hc⟩ := h
 exact ldB_of e (by omega) (hc i hi)
theorem Lv.st {b : Nat} {L : Nat → Bool} (h : Lv m b L) {i : Nat} (hi : i < 40) {x : Bool} {k : Mem → Prop} (hk : ∀ m', Lv m' b (fun n => if n = i then x else L n) → Only m b m' → k m') : stC m b i (.flat (.bool x)) k := by
 obtain ⟨y, e, hn, hr, hc⟩ := h
 rw [stC_of e hr (by omega)]
 refine hk _ ⟨_, set_same _ _ _, hn, hr, fun j hj => ?_⟩ (Only.set _ _ _)
 show upd y.c _ _ _ = AV.flat (.bool (if j = i then x else L j))
 unfold upd
 by_cases c : j = i
 ·rw [if_pos c, if_pos c]
 ·rw [if_neg c, if_neg c]; exact hc j hj
theorem e_dead1 {x : Int} {v : AV} {k : KV} : E220 200 ([(.flat (.int .i64 x))] ++ [v]) m k = F200 x v m (fun x m' => k (.flat (.bool x)) m') := by kernel_rfl
def anyL (L : Nat → Bool) (l : List Int) : Bool := l.any fun n => L n.toNat
theorem any_spec {b : Nat} {L : Nat → Bool} (h : Lv m b L) {v : AV} {l : List Int} (hv : IsZ m v l) (hl : l.length ≤ 2) (hr : inRL l) {k : Bool → Mem → Prop} (hk : k (anyL L l) m) : F199 v (.clo 200 [(.ptr b 0)]) m k := by
 unfold F199
 unfold F220
 rw [hv.len]
 have loop : ∀ (j i : Nat), i + j = l.length → anyL L l = anyL L (l.drop i) → L220_2 v (.clo 200 [(.ptr b 0)]) l.length (j + 1) i m (fun m11 => k (decide ((-1 : Int) ≥ 0)) m11) (fun x12 m13 => k (decide (x12 ≥ 0)) m13) := by
  intro j
  induction j with
  | zero =>
   intro i e g
   show R220_2 _ _ _ _ _ _ _ _
   unfold R220_2
   rw [show i = l.length by omega, List.drop_length] at g
   have g : anyL L l = false := g
   rw [g] at hk
   exact kif_f (by simp; omega) hk
  | succ j ih =>
   intro i e g
   show R220_2 _ _ _ _ _ _ _ _
   unfold R220_2
   have hi : i < l.length := by omega
   have hz := hr _ (List.getElem_mem hi)
   rw [wrap64 (n := (i : Int) + 1) (by omega) (by omega)]
   refine kif_t (by simp; omega) (hv.ld hi (k := fun b o x => kfunv _ _) fun _ _ _ => ?_)
   dsimp only [kfunv]
   rw [e_dead1]
   unfold F200
   refine kif_ix hz.1 hz.2 ?_
   rw [show 0 + l[i].toNat * 1 = l[i].toNat by omega, h.ld (by omega)]
   refine ⟨Keeps.self m, ?_⟩
   dsimp only [kbool]
   rw [List.drop_eq_getElem_cons hi] at g
   have g : anyL L l = (L l[i].toNat || anyL L (l.drop (i + 1))) := g
   refine kif_c _ (fun c => ?_) fun c => ?_
   ·rw [c] at g
    have g : anyL L l = true := g
    rw [g] at hk
    rw [show decide ((i : Int) ≥ 0) = true by simp]; exact hk
   ·rw [c] at g
    exact ih (i + 1) (by omega) (by rw [g]; simp)
 exact ⟨l.length + 1, loop l.length 0 (by omega) (by rw [List.drop_zero])⟩
theorem wr_loop {v0 v5 : AV} {x6 : Int} {b b7 : Nat} {L : Nat → Bool} {v : AV} {l : List Int} (hl : l.length ≤ 2) (hr : inRL l) (hb : ¬ own v b) {o : Op19} (ho : OpK o) (hne : b7 ≠ b) {k0 : Mem → Prop} {m0 : Mem} (hk : ∀ m', Lv m' b (setK L l false) → Fr (one1 b) m0 m' → k0 m') :
  ∀ (j i : Nat) (m : Mem), i + j = l.length → IsZ m v l → OpB m b7 o → Lv m b (setK L (l.take i) false) → Fr (one1 b) m0 m → L162_17 v0 b 0 v5 x6 b7 0 v l.length (j + 1) i m k0 := by
 intro j
 induction j with
 | zero =>
  intro i m e hv h7 h F
  show R162_17 _ _ _ _ _ _ _ _ _ _ _ _ _
  unfold R162_17
  rw [show i = l.length by omega, List.take_length] at h
  exact kif_f (by simp; omega) (hk m h F)
 | succ j ih =>
  intro i m e hv h7 h F
  show R162_17 _ _ _ _ _ _ _ _ _ _ _ _ _
  unfold R162_17
  have hi : i < l.length := by omega
  have hz := hr _ (List.getElem_mem hi)
  rw [wrap64 (n := (i : Int) + 1) (by omega) (by omega)]
  refine kif_t (by simp; omega) (hv.ld hi (k := fun b o x => kif _ _ _) fun _ _ _ => kif_ix hz.1 hz.2 ?_)
  rw [show 0 + l[i].toNat * 1 = l[i].toNat by omega, h.ld (by omega)]
  have st : stC m b l[i].toNat (.flat (.bool false)) fun m' => L162_17 v0 b 0 v5 x6 b7 0 v l.length (j + 1) ((i : Int) + 1) m' k0 := h.st (by omega) fun m' h' O' => ih (i + 1) m' (by omega) (hv.fr O'.fr1 fun y hy e => by cases e; exact hb hy) (h7.fr O'.fr1 hne) (by rw [setK_succ hi hz.1]; exact h') (F.trans O'.fr1)
  refine kif_c _ (fun c => ?_) fun c => ?_
  ·exact h7.lg fun c29 h29 => sure_spec h29 ho (kif_ix hz.1 hz.2 st)
  ·exact kif_ix hz.1 hz.2 st
theorem rd_loop {v0 v5 : AV} {x6 : Int} {b b7 : Nat} {L : Nat → Bool} {v : AV} {l : List Int} (hl : l.length ≤ 2) (hr : inRL l) (hb : ¬ own v b) {k0 : Mem → Prop} {m0 : Mem} (hk : ∀ m', Lv m' b (setK L l true) → Fr (one1 b) m0 m' → k0 m') :
  ∀ (j i : Nat) (m : Mem), i + j = l.length → IsZ m v l → Lv m b (setK L (l.take i) true) → Fr (one1 b) m0 m → L162_22 v0 b 0 v5 x6 b7 0 v l.length (j + 1) i m k0 := by
 intro j
 induction j with
 | zero =>
  intro i m e hv h F
  show R162_22 _ _ _ _ _ _ _ _ _ _ _ _ _
  unfold R162_22
  rw [show i = l.length by omega, List.take_length] at h
  exact kif_f (by simp; omega) (hk m h F)
 | succ j ih =>
  intro i m e hv h F
  show R162_22 _ _ _ _ _ _ _ _ _ _ _ _ _
  unfold R162_22
  have hi : i < l.length := by omega
  have hz := hr _ (List.getElem_mem hi)
  rw [wrap64 (n := (i : Int) + 1) (by omega) (by omega)]
  refine kif_t (by simp; omega) (hv.ld hi (k := fun b o x => kif _ _ _) fun _ _ _ => kif_ix hz.1 hz.2 ?_)
  rw [show 0 + l[i].toNat * 1 = l[i].toNat by omega]
  exact h.st (by omega) fun m' h' O' => ih (i + 1) m' (by omega) (hv.fr O'.fr1 fun y hy e => by cases e; exact hb hy) (by rw [setK_succ hi hz.1]; exact h') (F.trans O'.fr1)
theorem live_eq {L : Nat → Bool} {o : Op19} : setK (setK L (writesS o) false) (readsS o) true = liveS L o := by funext n; rfl
theorem dead_loop {b : Nat} {v : AV} {l : List Op19} (hl : l.length ≤ 8) (hv0 : ∀ x ∈ l, OpK x) {m0 : Mem} (hb : m0.obj b = none) (hv : IsOps m0 v l) {k0 : AV → Mem → Prop} (hk : ∀ v' m', OwO m0 m' v' (deadL l).2.reverse → k0 v' m') :
  ∀ (j : Nat) (a : AV) (m : Mem), j ≤ l.length → OwO m0 m a (deadL (l.drop j)).2.reverse → ¬ own a b → Lv m b (deadL (l.drop j)).1 → L162_11 v b 0 (j + 1) a ((j : Int) - 1) m k0 := by
 intro j
 induction j with
 | zero =>
  intro a m e A na hL
  show R162_11 _ _ _ _ _ _ _ _
  unfold R162_11
  exact kif_f (by decide) (hk a m A)
 | succ j ih =>
  intro a m e A na hL
  show R162_11 _ _ _ _ _ _ _ _
  unfold R162_11
  have hi : j < l.length := by omega
  have hx := hv0 _ (List.getElem_mem hi)
  rw [show ((j + 1 : Nat) : Int) - 1 = (j : Int) by omega, wrap64 (n := (j : Int) - 1) (by omega) (by omega)]
  have eD : l.drop j = l[j] :: l.drop (j + 1) := List.drop_eq_getElem_cons hi
  refine kif_t (by simp) ((hv.keep A.K).ld j hi fun c13 h13 => boxN fun b15 m16 y hb15 K16 e15 n15 r15 c15 => ?_)
  have hB : OpB m16 b15 l[j] := ⟨y, e15, n15, h13.congr c15⟩
  refine hB.lg fun c17 h17 => writes_spec h17 hx fun v18 m19 hv18 K19 ov18 => any_spec (hL.keep (K16.trans K19)) hv18 (writes_len _) (writes_in hx.r) ?_
  have A19 := A.keep (K16.trans K19)
  have L19 := hL.keep (K16.trans K19)
  refine kif_c _ (fun c => ?_) fun c => ?_
  ·have c : anyL (deadL (l.drop (j + 1))).1 (writesS l[j]) = false := by simpa using c
   have eN : deadL (l.drop j) = deadL (l.drop (j + 1)) := by
    rw [eD]
    show (if _ then _ else _) = _
    rw [if_neg (by rw [show ((writesS l[j]).any fun n => (deadL (l.drop (j + 1))).1 n.toNat) = false from c]; simp)]
   exact ih a m19 (by omega) (by rw [eN]; exact A19) na (by rw [eN]; exact L19)
  ·have c : anyL (deadL (l.drop (j + 1))).1 (writesS l[j]) = true := by simpa using c
   have eN : deadL (l.drop j) = (liveS (deadL (l.drop (j + 1))).1 l[j], l[j] :: (deadL (l.drop (j + 1))).2) := by
    rw [eD]
    show (if ((writesS l[j]).any fun n => (deadL (l.drop (j + 1))).1 n.toNat) = true then _ else _) = _
    rw [if_pos (show ((writesS l[j]).any fun n => (deadL (l.drop (j + 1))).1 n.toNat) = true from c)]
   rw [hv18.len]
   have ne : b15 ≠ b := fun e => hL.live (e ▸ hb15)
   have n18 : ¬ own v18 b := fun e => (hL.keep K16).live (ov18 _ e)
   refine ⟨_, wr_loop (L := (deadL (l.drop (j + 1))).1) (m0 := m19) (writes_len l[j]) (writes_in hx.r) n18 hx ne (fun m34 h34 F34 => ?_) (writesS l[j]).length 0 m19 (by omega) hv18 (hB.keep K19) (by rw [show setK (deadL (l.drop (j + 1))).1 ((writesS l[j]).take 0) false = (deadL (l.drop (j + 1))).1 by funext n; simp [setK]]; exact L19) (Fr.refl _ _)⟩
   have B34 := (hB.keep K19).fr F34 ne
   have A34 := A19.fr1 F34 hb na
   refine B34.lg fun c36 h36 => reads_spec h36 hx fun v37 m38 hv37 K38 ov37 => ?_
   rw [hv37.len]
   have n37 : ¬ own v37 b := fun e => h34.live (ov37 _ e)
   refine ⟨_, rd_loop (L := setK (deadL (l.drop (j + 1))).1 (writesS l[j]) false) (m0 := m38) (reads_len l[j]) (reads_in hx.r) n37 (fun m46 h46 F46 => ?_) (readsS l[j]).length 0 m38 (by omega) hv37 (by rw [show setK (setK (deadL (l.drop (j + 1))).1 (writesS l[j]) false) ((readsS l[j]).take 0) true = setK (deadL (l.drop (j + 1))).1 (writesS l[j]) false by funext n; simp [setK]]; exact h34.keep K38) (Fr.refl _ _)⟩
   have B46 := (B34.keep K38).fr F46 ne
   have A46 := (A34.keep K38).fr1 F46 hb na
   refine B46.lg fun c48 h48 => A46.app (by
    have := deadL_len (l.drop (j + 1))
    simp at this ⊢; omega) h48 fun v51 m52 A52 F52 o52 => ?_
   have nv51 : ¬ own v51 b := fun e => by
    rcases o52 _ e with h | h
    ·exact na h
    ·exact h46.live h
   refine ih v51 m52 (by omega) ?_ nv51 ?_
   ·rw [eN, List.reverse_cons]; exact A52
   ·rw [eN]
    rw [live_eq] at h46
    exact h46.fr F52 na
theorem init_loop {v0 : AV} {b : Nat} {k0 : Mem → Prop} {m0 : Mem} (hk : ∀ m', Lv m' b (fun n => decide (n < 34)) → Fr (one1 b) m0 m' → k0 m') : ∀ (j i : Nat) (m : Mem), i + j = 34 → Lv m b (fun n => decide (n < i)) → Fr (one1 b) m0 m → L162_5 v0 b 0 (j + 1) i m k0 := by
 intro j
 induction j with
 | zero =>
  intro i m e h F
  show R162_5 _ _ _ _ _ _ _
  unfold R162_5
  rw [show i = 34 by omega] at h
  exact kif_f (by simp; omega) (hk m h F)
 | succ j ih =>
  intro i m e h F
  show R162_5 _ _ _ _ _ _ _
  unfold R162_5
  rw [wrap64 (n := (i : Int) + 1) (by omega) (by omega)]
  refine kif_t (by simp; omega) (kif_ix (by omega) (by omega) ?_)
  rw [show 0 + (i : Int).toNat * 1 = i by omega]
  refine h.st (by omega) fun m' h' O' => ih (i + 1) m' (by omega) ?_ (F.trans O'.fr1)
  have : (fun n => if n = i then true else decide (n < i)) = fun n => decide (n < i + 1) := by
   funext n
   by_cases c : n = i
   ·rw [if_pos c]; simp; omega
   ·rw [if_neg c]; by_cases c2 : n < i <;> simp [c2] <;> omega
  rw [this] at h'
  exact h'
def revX (n i : Nat) (X : Nat → Op19) : Nat → Op19 := fun p => if p < i ∨ n ≤ p + i then X (n - 1 - p) else X p
theorem rev_loop {v : AV} {n : Nat} {X : Nat → Op19} (hn : n ≤ 8) {k0 : Mem → Prop} {m0 : Mem} (hk : ∀ m', IsOf m' v n (fun p => X (n - 1 - p)) → Fr (own v) m0 m' → k0 m') : ∀ (j i : Nat) (m : Mem), i + j = n → IsOf m v n (revX n i X) → Fr (own v) m0 m → 2 * i ≤ n + 1 → L203_1 v (j + 1) i ((n : Int) - 1 - i) m k0 := by
 intro j
 induction j with
 | zero =>
  intro i m e h F h2
  show R203_1 _ _ _ _ _ _
  unfold R203_1
  refine kif_f (by simp; omega) (hk m (h.congr fun p hp => ?_) F)
  unfold revX
  by_cases c : p < i ∨ n ≤ p + i
  ·rw [if_pos c]
  ·rw [if_neg c]; congr 1; omega
 | succ j ih =>
  intro i m e h F h2
  show R203_1 _ _ _ _ _ _
  unfold R203_1
  by_cases c : (i : Int) < (n : Int) - 1 - i
  ·rw [wrap64 (n := (i : Int) + 1) (by omega) (by omega), wrap64 (n := (n : Int) - 1 - i - 1) (by omega) (by omega)]
   refine kif_t (by simpa using c) (h.ld (by omega) (by omega) fun c6 h6 => h.ld (by omega) (by omega) fun c11 h11 => h.st (by omega) (by omega) h6 fun m16 h16 F16 => h16.st (by omega) (by omega) h11 fun m21 h21 F21 => ?_)
   rw [show (n : Int) - 1 - i - 1 = (n : Int) - 1 - (i + 1 : Nat) by omega]
   refine ih (i + 1) m21 (by omega) (h21.congr fun p hp => ?_) ((F.trans F16).trans F21) (by omega)
   simp only [revX, Int.toNat_natCast]
   rw [show ((n : Int) - 1 - i).toNat = n - 1 - i by omega]
   by_cases c1 : p = n - 1 - i
   ·rw [if_pos c1, if_neg (by omega), if_pos (by omega)]; congr 1; omega
   ·rw [if_neg c1]
    by_cases c2 : p = i
    ·rw [if_pos c2, if_neg (by omega), if_pos (by omega), c2]
    ·rw [if_neg c2]
     by_cases c3 : p < i ∨ n ≤ p + i
     ·rw [if_pos c3, if_pos (by omega)]
     ·rw [if_neg c3, if_neg (by omega)]
  ·refine kif_f (by simpa using c) (hk m (h.congr fun p hp => ?_) F)
   unfold revX
   by_cases c1 : p < i ∨ n ≤ p + i
   ·rw [if_pos c1]
   ·rw [if_neg c1]; congr 1; omega
theorem rev_spec {v : AV} {l : List Op19} (hl : l.length ≤ 8) (h : IsO m v l) {k : Mem → Prop} (hk : ∀ m', IsO m' v l.reverse → Fr (own v) m m' → k m') : F203 v m k := by
 unfold F203
 rw [h.ops.len, wrap64 (n := (l.length : Int) - 1) (by omega) (by omega)]
 refine ⟨l.length + 1, ?_⟩
 have := rev_loop (v := v) (n := l.length) (X := atO l) hl (m0 := m) (k0 := fun m => k m) (fun m' h' F' => hk m' ?_ F') l.length 0 m (by omega) (IsOf.congr h ?_) (Fr.refl _ _) (by omega)
 ·simpa using this
 ·unfold IsO
  rw [List.length_reverse]
  refine h'.congr fun p hp => ?_
  rw [atO_get (l := l.reverse) (by simpa using hp), atO_get (by omega), List.getElem_reverse]
 ·intro p hp; unfold revX; rw [if_neg (by omega)]
theorem odead_spec {v : AV} {l : List Op19} (hl : l.length ≤ 8) (hv : IsOps m v l) (ho : ∀ x ∈ l, OpK x) {k : AV → Mem → Prop} (hk : ∀ v' m', IsO m' v' (deadL l).2 → Keeps m m' → (∀ b, own v' b → m.obj b = none) → k v' m') : F162 v m k := by
 unfold F162
 refine oright_spec hl hv ho (kif_f rfl (newK_i fun b m3 hb K3 e3 O3 => ?_))
 have h3 : Lv m3 b (fun n => decide (n < 0)) := ⟨_, e3, rfl, rfl, fun i hi => by
  have : ∀ i, i < 40 → isVf (Z40 i) = true := by decide +kernel
  show Z40 i = _
  rw [isVf_eq (this i hi)]; simp⟩
 refine ⟨_, init_loop (m0 := m3) (fun m6 h6 F6 => ?_) 34 0 m3 (by omega) h3 (Fr.refl _ _)⟩
 rw [hv.len, wrap64 (n := (l.length : Int) - 1) (by omega) (by omega)]
 have K6 : Keeps m m6 := Fr.keeps K3 F6 fun x hx => by cases hx; exact hb
 refine ⟨l.length + 1, dead_loop hl ho hb hv (fun v53 m54 A => ?_) l.length _ m6 (Nat.le_refl _) (by rw [List.drop_length]; exact ⟨.nil, K6, fun b h => h.elim⟩) (fun h => h) (by rw [List.drop_length]; exact h6)⟩
 have := deadL_len l
 refine rev_spec (by simp; omega) A.l fun m56 h56 F56 => ?_
 rw [List.reverse_reverse] at h56
 exact hk _ _ h56 (Fr.keeps A.K F56 A.o) A.o
theorem opt_spec {v : AV} {l : List Op19} (hl : l.length ≤ 8) (hv : IsOps m v l) (ho : ∀ x ∈ l, OpK x) {k : AV → Mem → Prop} (hk : ∀ v' m', IsO m' v' (optS l) → Keeps m m' → (∀ b, own v' b → m.obj b = none) → k v' m') : F124 v m k := by
 unfold F124
 refine ofold_spec hl hv ho fun v1 m2 h1 K1 o1 => odead_spec (by rw [foldL_len]; exact hl) h1.ops ?_ fun v3 m4 h3 K3 o3 => hk v3 m4 h3 (K1.trans K3) fun b hb => newK_none K1 (o3 b hb)
 exact (foldL_run l K0 (fun _ => 0) (fun _ => 0) ho (fun _ => (⟨Int.le_refl 0, by omega⟩ : isU 0)) (fun _ _ => rfl)).2
end
theorem wrapi32_L (x : Int) : IntKind.wrap .i32 x = if x % 4294967296 ≥ 2147483648 then x % 4294967296 - 4294967296 else x % 4294967296 := by
 simp [IntKind.wrap, IntKind.bits, IntKind.signed]
def sx (v : Int) : Int := if v ≥ 32768 then bits .or .u32 v 4294901760 else v
theorem sx_eq (v : Int) (h0 : 0 ≤ v) (h1 : v < 65536) : sx v = if v ≥ 32768 then v + 4294901760 else v := by
 unfold sx
 split
 ·have e : bits .and .u32 v 65535 = v := by
   have := and_ones v h0 (by omega) 16 (by decide)
   have : bits .and .u32 v 65535 = v % 65536 := by simpa using this
   omega
  rw [or_bv, or_add]
  ·rw [bv_toInt h0 (by omega), bv_toInt (by omega) (by omega)]
  ·have e2 : bv v = bv v &&& bv 65535 := by
    have := congrArg bv e
    rw [and_bv, bv_back] at this; exact this.symm
   rw [e2, BitVec.and_assoc, show bv 65535 &&& bv 4294901760 = 0#32 by decide]
   simp
 ·rfl
theorem sign_eq (v : Int) (h0 : 0 ≤ v) (h1 : v < 65536) : IntKind.wrap .u32 ((IntKind.wrap .i32 (IntKind.wrap .u32 (v * 65536))).fdiv 65536) = sx v := by
 rw [sx_eq v h0 h1, wrap32, wrapi32_L, wrap32, Int.fdiv_eq_ediv_of_nonneg _ (by decide)]
 split <;> split <;> omega
def InC_L (c : Nat → AV) (k sh im : Int) : Prop := c 0 = .flat (.int .i64 k) ∧ c 4 = .flat (.int .i64 sh) ∧ c 5 = .flat (.int .u32 im)
theorem InC_L.sub {c : Nat → AV} {k sh im : Int} (h : InC_L c k sh im) : InC_L (sub c 0 6) k sh im := ⟨h.1, h.2.1, h.2.2⟩
section
variable {m : Mem} {c : Nat → AV} {sh im s t : Int}
theorem sign_spec {v : Int} (h0 : 0 ≤ v) (h1 : v < 65536) {k : Int → Mem → Prop} (hk : k (sx v) m) : F140 v 16 m k := by
 unfold F140
 (repeat (first | refine kif_t (by decide) ?_ | refine kif_f (by decide) ?_ | refine ⟨Keeps.self _, ?_⟩))
 have e := sign_eq v h0 h1
 have e' : IntKind.wrap .u32 ((IntKind.wrap .i32 (IntKind.wrap .u32 (v * 2 ^ min (IntKind.wrap .i64 (32 - 16)).toNat 32))).fdiv (2 ^ min (bits .and .i64 (IntKind.wrap .i64 (32 - 16)) 31).toNat 32)) = sx v := by
  rw [show (2 : Int) ^ min (bits .and .i64 (IntKind.wrap .i64 (32 - 16)) 31).toNat 32 = 65536 by decide, show (2 : Int) ^ min (IntKind.wrap .i64 (32 - 16)).toNat 32 = 65536 by decide]
  exact e
 rw [e']
 exact hk
theorem less_spec {x y : Int} {b : Bool} {k : Bool → Mem → Prop} (hk : k (if b = true then decide (IntKind.wrap .i32 x < IntKind.wrap .i32 y) else decide (x < y)) m) : F186 x y b m k := by
 unfold F186
 cases b with
 | true => exact ⟨Keeps.self _, hk⟩
 | false => exact ⟨Keeps.self _, hk⟩
theorem one_spec {x : Bool} {k : Int → Mem → Prop} (hk : k (if x = true then 1 else 0) m) : F217 x m k := by
 unfold F217
 cases x with
 | true => exact ⟨Keeps.self _, hk⟩
 | false => exact ⟨Keeps.self _, hk⟩
def opR (k s t : Int) : Int :=
 if k = 22 ∨ k = 23 then IntKind.wrap .u32 (s + t)
 else if k = 26 then bits .and .u32 s t
 else if k = 27 then bits .or .u32 s t
 else if k = 28 then bits .xor .u32 s t
 else if k = 29 then bits .xor .u32 4294967295 (bits .or .u32 s t)
 else if k = 30 then if decide (IntKind.wrap .i32 s < IntKind.wrap .i32 t) = true then 1 else 0
 else if decide (s < t) = true then 1 else 0
def regOf (k : Int) : Int := if k = 46 then 22 else if k = 47 then 23 else if k = 48 then 30 else if k = 49 then 31 else if k = 50 then 26 else if k = 51 then 27 else 28
def numOf (k im : Int) : Int := if k < 50 then sx im else im
theorem with_spec_L {kd : Int} (hkd : 46 ≤ kd ∧ kd ≤ 52) (h0 : 0 ≤ im) (h1 : im < 65536) (hc : InC_L c kd sh im) {k : Int → Mem → Prop} (hk : k (opR (regOf kd) s (numOf kd im)) m) : F192 c s m k := by
 unfold F192
 refine newK_i fun b m1 hb K e O => ⟨fun b' => b' = b, rfl, ?_⟩
 rw [ldI_of e (by show 5 < 6; omega) hc.2.2]
 refine ⟨rfl, ?_⟩
 rw [ldI_of e (by show 5 < 6; omega) hc.2.2]
 have em : bits .and .u32 im 65535 = im := by
  have := and_ones im h0 (by omega) 16 (by decide)
  have : bits .and .u32 im 65535 = im % 65536 := by simpa using this
  omega
 rw [em]
 refine sign_spec h0 h1 ⟨fun _ _ _ => rfl, ?_⟩
 rw [ldI_of e (by show 0 < 6; omega) hc.1]
 have : kd = 46 ∨ kd = 47 ∨ kd = 48 ∨ kd = 49 ∨ kd = 50 ∨ kd = 51 ∨ kd = 52 := by omega
 rcases this with rfl | rfl | rfl | rfl | rfl | rfl | rfl
 all_goals
  (repeat (first | refine kif_t (by decide) ?_ | refine kif_f (by decide) ?_ | refine ⟨Keeps.self _, ?_⟩))
  try unfold P192_5004
  (repeat (first | refine kif_t (by decide) ?_ | refine kif_f (by decide) ?_ | refine ⟨Keeps.self _, ?_⟩))
 ·exact ⟨K, hk⟩
 ·exact ⟨K, hk⟩
 all_goals
  try unfold P192_8004
  (repeat (first | refine kif_t (by decide) ?_ | refine kif_f (by decide) ?_ | refine ⟨Keeps.self _, ?_⟩))
 ·rw [show (0 + 0 : Nat) = 0 from rfl, ldI_of e (by show 0 < 6; omega) hc.1]
  exact less_spec (one_spec ⟨K, hk⟩)
 ·rw [show (0 + 0 : Nat) = 0 from rfl, ldI_of e (by show 0 < 6; omega) hc.1]
  exact less_spec (one_spec ⟨K, hk⟩)
 ·exact ⟨K, hk⟩
 ·exact ⟨K, hk⟩
 ·exact ⟨K, hk⟩
theorem is_spec {kd : Int} (h : (1 ≤ kd ∧ kd ≤ 6) ∨ (22 ≤ kd ∧ kd ≤ 31) ∨ (46 ≤ kd ∧ kd ≤ 53)) {k : Bool → Mem → Prop} (hk : k true m) : F190 kd m k := by
 have step : ∀ (a b : Int) (x y : Prop), (a ≤ kd ∧ kd ≤ b → x) → (¬ (a ≤ kd ∧ kd ≤ b) → y) → kif (decide (kd ≥ a)) (kif (decide (kd ≤ b)) x y) y := by
  intro a b x y hx hy
  refine kif_c _ (fun c1 => kif_c _ (fun c2 => hx ⟨by simpa using c1, by simpa using c2⟩) fun c2 => hy fun q => ?_) fun c1 => hy fun q => ?_
  ·simp at c2; omega
  ·simp at c1; omega
 unfold F190
 refine step _ _ _ _ (fun _ => ⟨Keeps.self _, hk⟩) fun n1 => step _ _ _ _ (fun _ => ⟨Keeps.self _, hk⟩) fun n2 => step _ _ _ _ (fun _ => ⟨Keeps.self _, hk⟩) fun n3 => ?_
 omega
theorem do_imm {kd : Int} (hkd : 46 ≤ kd ∧ kd ≤ 52) (h0 : 0 ≤ im) (h1 : im < 65536) (hc : InC_L c kd sh im) {k : Int → Bool → Mem → Prop} (hk : k (opR (regOf kd) s (numOf kd im)) true m) : F150 c s t m k := by
 unfold F150
 refine newK_i fun b m1 hb K e O => ?_
 rw [ldI_of e (by show 0 < 6; omega) hc.1]
 refine is_spec (by omega) (kif_f rfl (kif_f (by simp; omega) (kif_f (by simp; omega) (kif_t (by simp; omega) ?_))))
 unfold P150_9004
 refine kif_t (by simp; omega) ?_
 rw [ldG_of e (by show 0 + 6 ≤ 6; omega)]
 exact with_spec_L hkd h0 h1 hc.sub ⟨K, hk⟩
def shR (k x n : Int) : Int :=
 if k = 1 then IntKind.wrap .u32 (x * 2 ^ min n.toNat 32)
 else if k = 2 then x.fdiv (2 ^ min n.toNat 32)
 else IntKind.wrap .u32 ((IntKind.wrap .i32 x).fdiv (2 ^ min (bits .and .i64 n 31).toNat 32))
theorem and64_31 (n : Int) (h0 : 0 ≤ n) (h1 : n < 32) : bits .and .i64 n 31 = n := by
 have e : ∀ n : Fin 32, bits .and .i64 (n.val : Int) 31 = n.val := by decide +kernel
 have := e ⟨n.toNat, by omega⟩
 have ec : ((n.toNat : Nat) : Int) = n := by omega
 simpa only [ec] using this
theorem shifted_spec {kd n : Int} (hkd : 1 ≤ kd ∧ kd ≤ 6) (h0 : 0 ≤ n) (h1 : n < 32) {k : Int → Mem → Prop} (hk : k (shR (if kd ≤ 3 then kd else kd - 3) t n) m) : F191 kd t n m k := by
 unfold F191
 have : kd = 1 ∨ kd = 2 ∨ kd = 3 ∨ kd = 4 ∨ kd = 5 ∨ kd = 6 := by omega
 have hn : decide (n < 0) = false := by simp; omega
 have h31 := and64_31 n h0 h1
 rcases this with rfl | rfl | rfl | rfl | rfl | rfl
 all_goals
  (repeat (first | refine kif_t (by decide) ?_ | refine kif_f (by decide) ?_ | refine ⟨Keeps.self _, ?_⟩))
  try unfold P191_4004
  (repeat (first | refine kif_t (by decide) ?_ | refine kif_f (by decide) ?_ | refine ⟨Keeps.self _, ?_⟩))
 ·exact kif_f hn ⟨Keeps.self _, hk⟩
 ·exact kif_f hn ⟨Keeps.self _, hk⟩
 ·delta P191_8102 F187
  dsimp only
  rw [h31]
  exact kif_f hn ⟨Keeps.self _, Keeps.self _, by rw [← h31]; exact hk⟩
 ·exact kif_f hn ⟨Keeps.self _, hk⟩
 ·exact kif_f hn ⟨Keeps.self _, hk⟩
 ·delta P191_8102 F187
  dsimp only
  rw [h31]
  exact kif_f hn ⟨Keeps.self _, Keeps.self _, by rw [← h31]; exact hk⟩
theorem do_sh {kd : Int} (hkd : 1 ≤ kd ∧ kd ≤ 3) (h0 : 0 ≤ sh) (h1 : sh < 32) (hc : InC_L c kd sh im) {k : Int → Bool → Mem → Prop} (hk : k (shR kd t sh) true m) : F150 c s t m k := by
 unfold F150
 refine newK_i fun b m1 hb K e O => ?_
 rw [ldI_of e (by show 0 < 6; omega) hc.1]
 refine is_spec (by omega) (kif_f rfl (kif_t (by simp; omega) ?_))
 rw [ldI_of e (by show 4 < 6; omega) hc.2.1, and64_31 sh h0 h1]
 exact shifted_spec (by omega) h0 h1 ⟨K, by rw [if_pos (by omega)]; exact hk⟩
def overR (s t : Int) : Bool := IntKind.wrap .i64 ((IntKind.wrap .i64 (IntKind.wrap .i32 s)) + (IntKind.wrap .i64 (IntKind.wrap .i32 t))) != IntKind.wrap .i64 (IntKind.wrap .i32 (IntKind.wrap .i64 ((IntKind.wrap .i64 (IntKind.wrap .i32 s)) + (IntKind.wrap .i64 (IntKind.wrap .i32 t)))))
theorem over_spec {k : Bool → Mem → Prop} (hk : k (overR s t) m) : F185 s t false m k := by
 unfold F185
 refine kif_f rfl ?_
 unfold P185_4102
 exact ⟨Keeps.self _, hk⟩
end
section
variable {m : Mem} {q : BB} {p : Nat} {B : Nat → Int} {M W : Nat → Bool} {D : Dv} {wv : AV}
structure Still (D : Dv) : Prop where
 uc : D.uc = 0
 en : D.en = 0
def nextD (D : Dv) : Int × Bool := match D.ev with
 | [] => (0, false)
 | e :: _ => (e.at_, true)
def dueD (D : Dv) (now : Int) : Bool := (nextD D).2 && decide ((nextD D).1 ≤ now)
theorem IsBus.dev (h : IsBus m q p B M W D wv) (i : Nat) {b : Nat} (hi : i < 8) (e : lget [.ptr q.r.b 0, .ptr q.w 0, .ptr q.ln 0, .ptr q.t1 0, .ptr q.t2 0, .ptr q.u 0, .ptr q.d 0, .ptr q.k 0] i = .ptr b 0) (k : AV → Prop) : ldA m q.b i k = k (.ptr b 0) := h.b.lA hi e rfl k
theorem ram_spec (h : IsBus m q p B M W D wv) {k : AV → Mem → Prop} (hk : k (.ptr q.r.b 0) m) : F30 q.b 0 m k := by
 unfold F30
 rw [h.dev 0 (by decide) rfl]; exact hk
theorem IsEv.len {v : AV} {es : List Ev} (h : IsEv m v es) (k : Int → Prop) : klen v k = k (es.length : Int) := by
 obtain ⟨c, h1, _⟩ := h; exact klen_r h1.r k
theorem IsEv.hd {v : AV} {e : Ev} {es : List Ev} (h : IsEv m v (e :: es)) {k : Int → Prop} (hk : k e.at_) : ksl v fun b4 o5 l6 p7 => kif (decide (0 ≤ (0 : Int)) && decide ((0 : Int) < l6)) (ldI .i64 m b4 (o5 + 0 + 0) k) False := by
 obtain ⟨c, hc, hx⟩ := h
 cases hc with
 | sl b o n cap y c g1 g2 g3 g4 g5 =>
  have g2 : o + (es.length + 1) * 3 ≤ y.n := g2
  refine kif_t (by simp) ?_
  have := (hx 0 (by simp)).1
  have e0 := g3 0 (by simp)
  rw [ldI_of (n := e.at_) g1 (by omega) (e0.trans this)]
  exact hk
theorem wnext_spec (h : IsBus m q p B M W D wv) {k : Int → Bool → Mem → Prop} (hk : k (nextD D).1 (nextD D).2 m) : F89 q.w 0 m k := by
 unfold F89
 have ew : ∀ k, ldA m q.w (0 + 0) k = k wv := fun k => h.w.lA (i := 0) (by show 0 < 2; decide) rfl (by
  obtain ⟨c, h1, _⟩ := h.wl
  rcases h1.form with ⟨a, rfl⟩ | ⟨b, o, cap, rfl⟩ <;> rfl) k
 rw [ew, h.wl.len]
 unfold nextD at hk
 cases e : D.ev with
 | nil => rw [e] at hk; exact kif_t rfl ⟨Keeps.self m, hk⟩
 | cons x es =>
  rw [e] at hk
  refine kif_f (by simp; omega) ?_
  rw [ew]
  have hw := h.wl
  rw [e] at hw
  exact hw.hd ⟨Keeps.self m, hk⟩
theorem bnext_spec (h : IsBus m q p B M W D wv) {k : Int → Bool → Mem → Prop} (hk : k (nextD D).1 (nextD D).2 m) : F58 q.b 0 m k := by
 unfold F58
 rw [h.dev 1 (by decide) rfl]
 dsimp only [kptr]
 exact wnext_spec h ⟨Keeps.self m, hk⟩
theorem and_zero (x : Int) : bits .and .u32 x 0 = 0 := by
 simp [bits, IntKind.wrap, IntKind.bits, IntKind.signed]
 show ((BitVec.ofInt 32 x &&& 0#32).toNat : Int) % _ = 0
 rw [BitVec.and_zero]; rfl
theorem raised_spec (h : IsBus m q p B M W D wv) (s : Still D) {k : Bool → Mem → Prop} (hk : k false m) : F60 q.b 0 m k := by
 unfold F60
 rw [h.dev 2 (by decide) rfl]
 dsimp only [kptr]
 unfold F90
 rw [h.ln.lI (i := 0) (show 0 < 2 by decide) rfl, h.ln.lI (i := 1) (show 1 < 2 by decide) rfl, s.en, and_zero]
 exact ⟨Keeps.self m, Keeps.self m, hk⟩
def lineD (D : Dv) (d : Int) : Bool := if d = 1 then D.s1 != 0 else if d = 2 then D.s2 != 0 else if d = 3 then false else if d = 4 then bits .and .u32 D.ds 6 != 0 else bits .and .u32 D.kt 6 != 0
theorem bline_spec (h : IsBus m q p B M W D wv) (s : Still D) {d : Int} {k : Bool → Mem → Prop} (hk : k (lineD D d) m) : F134 q.b 0 d m k := by
 unfold F134
 unfold lineD at hk
 refine kif_c _ (fun c => ?_) fun c => ?_
 ·rw [if_pos (by simpa using c)] at hk
  rw [h.dev 3 (by decide) rfl]
  dsimp only [kptr]
  unfold F176
  rw [h.t1.lI (i := 4) (show 4 < 5 by decide) rfl]
  exact ⟨Keeps.self m, Keeps.self m, hk⟩
 rw [if_neg (by simpa using c)] at hk
 refine kif_c _ (fun c => ?_) fun c => ?_
 ·rw [if_pos (by simpa using c)] at hk
  rw [h.dev 4 (by decide) rfl]
  dsimp only [kptr]
  unfold F176
  rw [h.t2.lI (i := 4) (show 4 < 5 by decide) rfl]
  exact ⟨Keeps.self m, Keeps.self m, hk⟩
 rw [if_neg (by simpa using c)] at hk
 refine kif_c _ (fun c => ?_) fun c => ?_
 ·rw [if_pos (by simpa using c)] at hk
  rw [h.dev 5 (by decide) rfl]
  dsimp only [kptr]
  unfold F177
  rw [h.u.lI (i := 5) (show 5 < 7 by decide) rfl, s.uc]
  refine kif_f rfl ?_
  rw [h.u.lI (i := 5) (show 5 < 7 by decide) rfl, s.uc]
  exact kif_f rfl ⟨Keeps.self m, Keeps.self m, hk⟩
 rw [if_neg (by simpa using c)] at hk
 refine kif_c _ (fun c => ?_) fun c => ?_
 ·rw [if_pos (by simpa using c)] at hk
  rw [h.dev 6 (by decide) rfl]
  dsimp only [kptr]
  unfold F178
  rw [h.d.lI (i := 6) (show 6 < 7 by decide) rfl]
  exact ⟨Keeps.self m, Keeps.self m, hk⟩
 rw [if_neg (by simpa using c)] at hk
 rw [h.dev 7 (by decide) rfl]
 dsimp only [kptr]
 unfold F179
 rw [h.k.lI (i := 7) (show 7 < 8 by decide) rfl]
 exact ⟨Keeps.self m, Keeps.self m, hk⟩
theorem IsBus.withLn {m' : Mem} {u : Int} (h : IsBus m q p B M W D wv) (O : Only m q.ln m') (hl : IsCl m' q.ln [vu u, vu D.en]) : IsBus m' q p B M W { D with up := u } wv := by
 have nd := h.nd
 unfold BB.all at nd
 simp only [List.nodup_cons, List.mem_cons, List.not_mem_nil, or_false, not_or] at nd
 obtain ⟨⟨a1, a2, a3, a4, a5, a6, a7, a8, a9, a10, a11, a12⟩, ⟨b2, b3, b4, b5, b6, b7, b8, b9, b10, b11, b12⟩, ⟨c3, c4, c5, c6, c7, c8, c9, c10, c11, c12⟩, _⟩ := nd
 have Fr1 : Fr (one1 q.ln) m m' := O.fr1
 exact ⟨h.b.fr Fr1 a2, h.r.fr Fr1 fun x hx e => by
  have e : x = q.ln := e
  rcases hx with rfl | rfl | rfl | rfl
  ·exact c9 e.symm
  ·exact c10 e.symm
  ·exact c11 e.symm
  ·exact c12 e.symm, h.w.fr Fr1 b2, h.wl.fr Fr1 fun b hb e => h.nw b hb (by rw [show b = q.ln from e]; simp [BB.all]), hl, h.t1.fr Fr1 fun e => c3 e.symm, h.t2.fr Fr1 fun e => c4 e.symm, h.u.fr Fr1 fun e => c5 e.symm, h.d.fr Fr1 fun e => c6 e.symm, h.k.fr Fr1 fun e => c7 e.symm, h.kb.fr Fr1 fun b hb e => by cases hb; exact c8 e.symm, h.dkr, h.nd, h.nw⟩
theorem setl_spec (h : IsBus m q p B M W D wv) {d : Int} (d0 : 1 ≤ d) (d1 : d ≤ 5) {x : Bool} {k : Mem → Prop} (hk : ∀ m' u, IsBus m' q p B M W { D with up := u } wv → Only m q.ln m' → k m') : F133 q.ln 0 d x m k := by
 unfold F133
 refine kif_f (by simp; omega) (kif_f (by simp; omega) ?_)
 rw [h.ln.lI (i := 0) (show 0 < 2 by decide) rfl]
 refine kif_f (by simp; omega) (h.ln.sC (i := 0) (show 0 < 2 by decide) fun m2 h2 O2 => ?_)
 have e2 := h.withLn O2 h2
 refine kif_c _ (fun c => ?_) fun c => hk m2 _ e2 O2
 rw [h2.lI (i := 0) (show 0 < 2 by decide) rfl]
 refine kif_f (by simp; omega) (h2.sC (i := 0) (show 0 < 2 by decide) fun m4 h4 O4 => ?_)
 have O := O2.trans O4
 exact hk m4 _ (h.withLn O h4) O
theorem gather_spec (h : IsBus m q p B M W D wv) (s : Still D) {k : Mem → Prop} (hk : ∀ m' u, IsBus m' q p B M W { D with up := u } wv → Only m q.ln m' → k m') : F101 q.b 0 m k := by
 unfold F101
 have loop : ∀ (j : Nat) (x : Int) (m1 : Mem) (u : Int), x + j = 6 → 1 ≤ x → IsBus m1 q p B M W { D with up := u } wv → Only m q.ln m1 → L101_1 q.b 0 (j + 1) x m1 k := by
  intro j
  induction j with
  | zero =>
   intro x m1 u e h1 hb O
   show R101_1 _ _ _ _ _ _
   unfold R101_1
   exact kif_f (by simp; omega) (hk m1 u hb O)
  | succ j ih =>
   intro x m1 u e h1 hb O
   show R101_1 _ _ _ _ _ _
   unfold R101_1
   refine kif_t (by simp; omega) ⟨fun x => x = q.b, rfl, ?_⟩
   rw [hb.dev 2 (by decide) rfl]
   refine bline_spec hb ⟨s.uc, s.en⟩ ⟨fun _ _ _ => rfl, ?_⟩
   dsimp only [kptr]
   rw [wrap64 (n := x + 1) (by omega) (by omega)]
   have ne : q.b ≠ q.ln := by
    have nd := h.nd
    unfold BB.all at nd
    simp only [List.nodup_cons, List.mem_cons, List.not_mem_nil, or_false, not_or] at nd
    exact nd.1.2.1
   exact setl_spec hb h1 (by omega) fun m' u' h' O' => ⟨fun y hy _ => by subst hy; exact O' _ ne, ih (x + 1) m' u' (by omega) (by omega) h' (O.trans O')⟩
 exact ⟨6, loop 5 1 m D.up (by omega) (by omega) h (Only.refl _ _)⟩
theorem Still.up {u : Int} (s : Still D) : Still { D with up := u } := ⟨s.uc, s.en⟩
theorem fire_spec (h : IsBus m q p B M W D wv) (s : Still D) {now : Int} (hd : dueD D now = false) {k : Int → Mem → Prop} (hk : ∀ m' u, IsBus m' q p B M W { D with up := u } wv → Fr (one1 q.ln) m m' → k 0 m') : F72 q.b 0 now m k := by
 unfold F72
 refine ⟨1, ?_⟩
 show R72_2 _ _ _ _ _ _ _
 unfold R72_2
 refine kif_t (by decide) ?_
 rw [h.dev 1 (by decide) rfl]
 dsimp only [kptr]
 unfold F99
 refine newK_i fun b2 m1 hb2 K1 e1 O1 => wnext_spec (h.keep K1) ?_
 have no : ∀ c m2, Keeps m m2 → (newK m2 ⟨3, lget [(.flat (.int .i64 0)), (.flat (.int .i64 0)), (.flat (.int .i64 0))], 158, false⟩ fun b8 m7 => stG 3 m7 b8 0 c fun m9 => kif (!false) (F101 q.b 0 m9 fun m15 => k 0 m15) (ldG 3 m9 b8 0 fun c10 => F100 q.b 0 c10 m9 fun m11 => L72_2 q.b 0 now 0 (IntKind.wrap .i64 (0 + 1)) m11 fun x12 m13 => F101 q.b 0 m13 fun m15 => k x12 m15)) := fun c m2 K2 => boxN fun b8 m9 y hb8 K9 e9 n9 r9 c9 => kif_t rfl (gather_spec (h.keep (K2.trans K9)) s fun m' u h' O' => hk m' u h' (Fr.key (K2.trans K9) O'.fr1))
 have zero : ∀ (k2 : (Nat → AV) → Mem → Prop), (∀ c m2, Keeps m m2 → k2 c m2) → stG 3 m1 b2 0 (lget [(.flat (.int .i64 0)), (.flat (.int .i64 0)), (.flat (.int .i64 0))]) fun m6 => ldG 3 m6 b2 0 fun c23 => k2 c23 m6 := fun k2 h2 => by
  rw [stG_of e1 rfl (by decide), ldG_of (set_same _ _ _) (by decide)]
  exact h2 _ _ (Only.keeps K1 hb2 (Only.set _ _ _))
 unfold dueD at hd
 refine kif_c _ (fun c => ?_) fun c => ?_
 ·exact zero (fun c m2 => newK m2 ⟨3, lget [(.flat (.int .i64 0)), (.flat (.int .i64 0)), (.flat (.int .i64 0))], 158, false⟩ fun b8 m7 => stG 3 m7 b8 0 c fun m9 => kif (!false) (F101 q.b 0 m9 fun m15 => k 0 m15) (ldG 3 m9 b8 0 fun c10 => F100 q.b 0 c10 m9 fun m11 => L72_2 q.b 0 now 0 (IntKind.wrap .i64 (0 + 1)) m11 fun x12 m13 => F101 q.b 0 m13 fun m15 => k x12 m15)) no
 ·have c : (nextD D).2 = true := by simpa using c
  rw [c] at hd
  refine kif_t (by simp at hd ⊢; omega) ?_
  exact zero (fun c m2 => newK m2 ⟨3, lget [(.flat (.int .i64 0)), (.flat (.int .i64 0)), (.flat (.int .i64 0))], 158, false⟩ fun b8 m7 => stG 3 m7 b8 0 c fun m9 => kif (!false) (F101 q.b 0 m9 fun m15 => k 0 m15) (ldG 3 m9 b8 0 fun c10 => F100 q.b 0 c10 m9 fun m11 => L72_2 q.b 0 now 0 (IntKind.wrap .i64 (0 + 1)) m11 fun x12 m13 => F101 q.b 0 m13 fun m15 => k x12 m15)) no
def wdB (B : Nat → Int) (a n : Int) : Int := ldv (fun i => B (a.toNat + i)) n.toNat
theorem nowin_spec {a n : Int} (ha : isU a) (hd : a < p * 1024 ∨ a < 520093696 ∨ 520094080 ≤ a) (c : ¬ a < p * 1024) {k : Int → Bool → Mem → Prop} (hk : k 0 false m) {g : Int → Int → Mem → Prop} : F137 a n m fun x12 x13 x14 m15 => kif (!x14) (k 0 false m15) (g x12 x13 m15) := by
 unfold F137
 have go : kif (!false) (k 0 false m) (g 0 0 m) := kif_t rfl hk
 obtain ⟨a0, a1⟩ := ha
 refine kif_c _ (fun _ => ⟨Keeps.self m, go⟩) fun _ => kif_c _ (fun _ => ⟨Keeps.self m, go⟩) fun c2 => kif_c _ (fun _ => ⟨Keeps.self m, go⟩) fun _ => ⟨Keeps.self m, kif_t ?_ hk⟩
 have c2 : ¬ a < 520093696 := by simpa using c2
 rw [wrap32 (a - 520093696), Int.emod_eq_of_lt (by omega) (by omega), Int.tdiv_eq_ediv_of_nonneg (by omega), wrap32, Int.emod_eq_of_lt (by omega) (by omega)]
 simp; omega
theorem bload_spec (h : IsBus m q p B M W D wv) {a n t : Int} (ha : isU a) (hn : n = 1 ∨ n = 2 ∨ n = 4) (hd : a < p * 1024 ∨ a < 520093696 ∨ 520094080 ≤ a) {k : Int → Bool → Mem → Prop} (hk : k (if evenR p a n then wdB B a n else 0) (decide (evenR p a n)) m) : F104 q.b 0 a n t m k := by
 unfold F104
 have e0 : ∀ k, ldA m q.b (0 + 0) k = k (.ptr q.r.b 0) := fun k => h.dev 0 (by decide) rfl k
 rw [e0]
 dsimp only [kptr]
 refine size_spec h.r ?_
 have hI : isI n := by unfold isI; omega
 refine kif_c _ (fun c => ?_) fun c => ?_
 ·rw [e0]
  dsimp only [kptr]
  exact load_spec h.r ha hI hk
 ·have c : ¬ a < p * 1024 := by simp at c; omega
  have ne : ¬ evenR p a n := fun e => by obtain ⟨_, _, e1, e2⟩ := e; omega
  rw [if_neg ne, decide_eq_false ne] at hk
  exact nowin_spec ha hd c hk
theorem IsBus.withR {m' : Mem} {B' : Nat → Int} {M' W' : Nat → Bool} (h : IsBus m q p B M W D wv) (F : Fr q.r.has m m') (hr : IsRam m' q.r p B' M' W') : IsBus m' q p B' M' W' D wv := by
 have nd := h.nd
 have nr : ∀ x ∈ [q.b, q.w, q.ln, q.t1, q.t2, q.u, q.d, q.k, q.kb], ¬ q.r.has x := fun x hx hr => by
  have : q.all = [q.b, q.w, q.ln, q.t1, q.t2, q.u, q.d, q.k, q.kb] ++ [q.r.b, q.r.b1, q.r.b2, q.r.b3] := rfl
  rw [this] at nd
  refine (List.nodup_append.1 nd).2.2 x hx x ?_ rfl
  rcases hr with rfl | rfl | rfl | rfl <;> simp
 exact ⟨h.b.fr F (nr _ (by simp)), hr, h.w.fr F (nr _ (by simp)), h.wl.fr F fun b hb e => h.nw b hb (BB.has e), h.ln.fr F (nr _ (by simp)), h.t1.fr F (nr _ (by simp)), h.t2.fr F (nr _ (by simp)), h.u.fr F (nr _ (by simp)), h.d.fr F (nr _ (by simp)), h.k.fr F (nr _ (by simp)), h.kb.fr F fun b hb => by cases hb; exact nr _ (by simp), h.dkr, h.nd, h.nw⟩
theorem bstore_spec (h : IsBus m q p B M W D wv) {a n v t : Int} (ha : isU a) (hn : n = 1 ∨ n = 2 ∨ n = 4) (hd : a < p * 1024 ∨ a < 520093696 ∨ 520094080 ≤ a) {k : Bool → Mem → Prop} (h0 : ¬ evenR p a n → k false m) (h1 : evenR p a n → ∀ m', IsBus m' q p (stv B a n v) M (tW M W a n) D wv → Fr q.r.has m m' → k true m') : F143 q.b 0 a n v t m k := by
 unfold F143
 have e0 : ∀ k, ldA m q.b (0 + 0) k = k (.ptr q.r.b 0) := fun k => h.dev 0 (by decide) rfl k
 rw [e0]
 dsimp only [kptr]
 refine size_spec h.r ?_
 have hI : isI n := by unfold isI; omega
 refine kif_c _ (fun c => ?_) fun c => ?_
 ·rw [e0]
  dsimp only [kptr]
  exact store_spec h.r ha hI h0 fun e m' hr F => h1 e m' (h.withR F hr) F
 ·have c : ¬ a < p * 1024 := by simp at c; omega
  have ne : ¬ evenR p a n := fun e => by obtain ⟨_, _, e1, e2⟩ := e; omega
  exact nowin_spec ha hd c (k := fun _ z m => k z m) (h0 ne)
end
end Go.Proofs.YtkiggdgphbkneaaGreat.Am
