/- A block found in memory, and compared with it. Conditions: words whose operations are of the kinds that are spoken of. Steps on States with other things behind them; instructions done one way and the other; places next to one another. No program in sight. The  -/
import Derived.Test.YtkiggdgphbkneaaGreatTopSortsX25
namespace Go.Proofs.YtkiggdgphbkneaaGreat.Am
set_option linter.unusedVariables false
set_option linter.unusedSimpArgs false
set_option maxRecDepth 100000
structure Shape (p : Nat) (B : Nat → Int) (a : Int) (n : Nat) : Prop where
 a0 : 0 ≤ a
 a4 : a % 4 = 0
 n1 : 1 ≤ n
 n2 : n ≤ 32
 pg : (a + 4 * (n - 1 : Nat)) / 1024 = a / 1024
 r : a < p * 1024
 s : ∀ i, i + 1 < n → classS (inAt B a i).k ≠ 6
theorem Shape.at {p : Nat} {B : Nat → Int} {a : Int} {n : Nat} (h : Shape p B a n) {i : Nat} (hi : i < n) : evenR p (a + 4 * i) 4 ∧ (a + 4 * i) / 1024 = a / 1024 := by
 have := h.a0
 have := h.a4
 have := h.pg
 have := h.r
 have e : (a + 4 * (i : Int)) / 1024 = a / 1024 := by omega
 exact ⟨⟨by simp, by omega, by unfold inR; omega⟩, e⟩
structure Bk (m : Mem) (B : Nat → Int) (v : Nat → AV) (a : Int) (n : Nat) (T : Nat → Prop) : Prop where
 v0 : v 0 = vu a
 w : IsL m 1 (v 1) n (cW B a)
 i : ∃ c, IsL m 6 (v 2) n c ∧ ∀ i, i < n → InC (fun j => c (i * 6 + j)) (inAt B a i)
 o : ∃ c, IsL m 1 (v 3) n c ∧ ∀ i, i < n → (c i).one = true ∧ IsOps m (c i) (optS (opsOf (inAt B a i))) ∧ ∀ x, own (c i) x → ¬ T x
 t1 : ∀ x, own (v 1) x → ¬ T x
 t2 : ∀ x, own (v 2) x → ¬ T x
 t3 : ∀ x, own (v 3) x → ¬ T x
theorem Bk.fr {m m' : Mem} {B : Nat → Int} {v : Nat → AV} {a : Int} {n : Nat} {T T' : Nat → Prop} (h : Bk m B v a n T) (F : Fr T m m') (ht : ∀ x, T' x → T x ∨ m.obj x = none) : Bk m' B v a n T' := by
 obtain ⟨c2, hi1, hi2⟩ := h.i
 obtain ⟨c3, ho1, ho2⟩ := h.o
 exact ⟨h.v0, h.w.fr F h.t1, ⟨c2, hi1.fr F h.t2, hi2⟩, ⟨c3, ho1.fr F h.t3, fun i hi => ⟨(ho2 i hi).1, (ho2 i hi).2.1.fr F (ho2 i hi).2.2, fun x hx t => (ht x t).elim ((ho2 i hi).2.2 x hx) ((ho2 i hi).2.1.live hx)⟩⟩,
  fun x hx t => (ht x t).elim (h.t1 x hx) (h.w.live hx), fun x hx t => (ht x t).elim (h.t2 x hx) (hi1.live hx), fun x hx t => (ht x t).elim (h.t3 x hx) (ho1.live hx)⟩
theorem Bk.congr {m : Mem} {B : Nat → Int} {v v' : Nat → AV} {a : Int} {n : Nat} {T : Nat → Prop} (h : Bk m B v a n T) (e : ∀ j, j < 4 → v' j = v j) : Bk m B v' a n T := by
 obtain ⟨h0, h1, h2, h3, h4, h5, h6⟩ := h
 have e0 := e 0 (by omega)
 have e1 := e 1 (by omega)
 have e2 := e 2 (by omega)
 have e3 := e 3 (by omega)
 exact ⟨e0.trans h0, e1 ▸ h1, e2 ▸ h2, e3 ▸ h3, e1 ▸ h4, e2 ▸ h5, e3 ▸ h6⟩
section
variable {m0 : Mem} {r : RB} {p : Nat} {B : Nat → Int} {M W : Nat → Bool} {at' : Int}
theorem Bd.bk {m : Mem} {b : Nat} {n : Nat} {v1 v2 v3 : AV} {c2 c3 : Nat → AV} (h : Bd m0 m b B at' n v1 v2 v3 c2 c3) {v : Nat → AV} (hv : ∀ j, j < 4 → v j = lget [vu at', v1, v2, v3] j) : Bk m B v at' n fun x => m0.obj x ≠ none := by
 have e0 := hv 0 (by omega)
 have e1 := hv 1 (by omega)
 have e2 := hv 2 (by omega)
 have e3 := hv 3 (by omega)
 have e1 : v 1 = v1 := e1
 have e2 : v 2 = v2 := e2
 have e3 : v 3 = v3 := e3
 exact ⟨e0, e1 ▸ h.w, ⟨c2, e2 ▸ h.i, h.ii⟩, ⟨c3, e3 ▸ h.o, fun i hi => ⟨(h.oo i hi).1, (h.oo i hi).2, fun x hx t => t (h.x4 i hi x hx).1⟩⟩, fun x hx t => t (h.x1 x (e1 ▸ hx)).1, fun x hx t => t (h.x2 x (e2 ▸ hx)).1, fun x hx t => t (h.x3 x (e3 ▸ hx)).1⟩
def PageOk (B : Nat → Int) (at' : Int) : Prop := ∀ i : Nat, (at' + 4 * i) / 1024 = at' / 1024 → ∀ o ∈ opsOf (inAt B at' i), OpK o
theorem find_loop_T {b6 b8 : Nat} {most : Nat} (hm1 : 1 ≤ most) (hm : most ≤ 32) (h : IsRam m0 r p B M W) (a0 : 0 ≤ at') (a4 : at' % 4 = 0) (ar : at' < p * 1024) (hW : PageOk B at') {k0 : Mem → Prop}
  (hk : ∀ m' n v1 v2 v3 c2 c3, Bd m0 m' b8 B at' n v1 v2 v3 c2 c3 → Shape p B at' n → k0 m') :
  ∀ (j k : Nat) (sl : Bool) (m : Mem) (v1 v2 v3 : AV) (c2 c3 : Nat → AV), k + j = most → Bd m0 m b8 B at' k v1 v2 v3 c2 c3 → (k ≠ 0 → (at' + 4 * (k - 1 : Nat)) / 1024 = at' / 1024) → (∀ i, i < k → classS (inAt B at' i).k ≠ 6) → (sl = true → k ≠ 0) → L68_7 r.b 0 at' b6 0 b8 0 most (j + 1) sl k m k0 := by
 have hp := h.p2
 intro j
 induction j with
 | zero =>
  intro k sl m v1 v2 v3 c2 c3 e hB hpg hs hsl
  show R68_7 _ _ _ _ _ _ _ _ _ _ _ _ _
  unfold R68_7
  exact kif_f (by simp; omega) (hk m k v1 v2 v3 c2 c3 hB ⟨a0, a4, by omega, by omega, hpg (by omega), ar, fun i hi => hs i (by omega)⟩)
 | succ j ih =>
  intro k sl m v1 v2 v3 c2 c3 e hB hpg hs hsl
  show R68_7 _ _ _ _ _ _ _ _ _ _ _ _ _
  unfold R68_7
  have ex : IntKind.wrap .u32 (at' + IntKind.wrap .u32 (IntKind.wrap .i64 (4 * (k : Int)))) = at' + 4 * k := by
   rw [wrap64 (n := 4 * (k : Int)) (by omega) (by omega), wrap32 (4 * (k : Int)), wrap32]
   have : at' < 65536 + 1 := by omega
   omega
  rw [ex, wrap64 (n := (k : Int) + 1) (by omega) (by omega)]
  refine kif_t (by simp; omega) ?_
  have stop : k ≠ 0 → k0 m := fun hk0 => hk m k v1 v2 v3 c2 c3 hB ⟨a0, a4, by omega, by omega, hpg hk0, ar, fun i hi => hs i (by omega)⟩
  have body : (at' + 4 * (k : Int)) / 1024 = at' / 1024 → P68_11102 r.b 0 at' b6 0 b8 0 sl (at' + 4 * k) most k m (fun m29 => k0 m29) (fun x30 m31 => L68_7 r.b 0 at' b6 0 b8 0 most (j + 1) x30 ((k : Int) + 1) m31 k0) := fun hpk => by
   unfold P68_11102
   have hev : evenR p (at' + 4 * k) 4 := ⟨by simp, by omega, by unfold inR; omega⟩
   have hu : isU (at' + 4 * k) := ⟨by omega, by obtain ⟨_, _, e1, e2⟩ := hev; omega⟩
   refine load_spec (h.keep hB.K) hu (by unfold isI; omega) ?_
   rw [if_pos hev]
   have ew : ldv (fun i => B ((at' + 4 * (k : Int)).toNat + i)) (4 : Int).toNat = wdAt B at' k := rfl
   rw [ew]
   have wu : isU (wdAt B at' k) := ldv_u _ _
   refine of_spec wu.1 wu.2 fun c13 h13 => newF h13 fun b16 m17 hb16 K17 i17 => i17.lg fun c18 h18 => class_spec h18 ?_
   have hB17 := hB.keep K17
   have eI : ofS (wdAt B at' k) = inAt B at' k := rfl
   rw [eI] at i17
   rw [eI]
   -- one more word
   have more : ∀ sl' : Bool, sl' = sl → P68_15102 r.b 0 at' b6 0 b8 0 sl' (wdAt B at' k) b16 0 (classS (inAt B at' k).k) most k m17 (fun m23 => k0 m23) (fun x24 m25 => L68_7 r.b 0 at' b6 0 b8 0 most (j + 1) x24 ((k : Int) + 1) m25 k0) := fun sl' es => by
    unfold P68_15102
    refine i17.lg fun c21 h21 => add_k hB17 (by omega) h21 (hW k hpk) fun m22 w1 w2 w3 d2 d3 hB22 => ?_
    have fin : k0 m22 := hk m22 (k + 1) w1 w2 w3 d2 d3 hB22 ⟨a0, a4, by omega, by omega, by rw [Nat.add_sub_cancel]; exact hpk, ar, fun i hi => hs i (by omega)⟩
    refine kif_c _ (fun _ => fin) fun _ => kif_c _ (fun _ => fin) fun c6 => ?_
    refine ih (k + 1) _ m22 w1 w2 w3 d2 d3 (by omega) hB22 (fun _ => by rw [Nat.add_sub_cancel]; exact hpk) (fun i hi => ?_) (fun _ => by omega)
    by_cases ci : i < k
    ·exact hs i ci
    ·have : i = k := by omega
     subst this
     simpa using c6
   refine kif_c _ (fun cs => ?_) fun cs => ?_
   ·have hk0 := hsl cs
    have stop17 : k0 m17 := hk m17 k v1 v2 v3 c2 c3 hB17 ⟨a0, a4, by omega, by omega, hpg hk0, ar, fun i hi => hs i (by omega)⟩
    exact kif_c _ (fun _ => stop17) fun _ => kif_c _ (fun _ => stop17) fun _ => more sl rfl
   ·exact more sl rfl
  refine kif_c _ (fun ck => ?_) fun ck => ?_
  ·have hk0 : k ≠ 0 := by simp at ck; omega
   refine kif_c _ (fun cz => stop hk0) fun cz => body ?_
   have cz : (at' + 4 * (k : Int)).tmod 1024 ≠ 0 := by simpa using cz
   rw [tmod_nn (by omega)] at cz
   have := hpg hk0
   omega
  ·have hk0 : k = 0 := by simp at ck; omega
   subst hk0
   exact body (by simp)
theorem bfind_k (h : IsRam m0 r p B M W) (a0 : 0 ≤ at') (a4 : at' % 4 = 0) (ar : at' < p * 1024) (hW : PageOk B at') {most : Int} {k : (Nat → AV) → Bool → Mem → Prop}
  (hk : ∀ c m' n, Bk m' B c at' n (fun x => m0.obj x ≠ none) → Shape p B at' n → Keeps m0 m' → k c true m') : F68 r.b 0 at' most m0 k := by
 unfold F68
 refine newK_i fun b2 m1 hb2 K1 e1 O1 => kif_f ?_ (size_spec (h.keep K1) (kif_f ?_ ?_))
 ·rw [tmod_nn a0, a4]; rfl
 ·simp; omega
 refine box_i fun b8 m9 y hb8 K8 e8 n8 r8 c8 => ?_
 generalize hmo : (if (if 32 < most then 32 else most) > 1 then (if 32 < most then 32 else most) else 1) = mo
 have hm : 1 ≤ mo ∧ mo ≤ 32 := by
  subst hmo
  split <;> split <;> omega
 obtain ⟨mm, rfl⟩ : ∃ mm : Nat, mo = mm := ⟨mo.toNat, by omega⟩
 have hBd : Bd m1 m9 b8 B at' 0 (.flat (.slice none 0 0)) (.flat (.slice none 0 0)) (.flat (.slice none 0 0)) (fun _ => .junk) (fun _ => .junk) := by
  refine ⟨⟨y, e8, n8, r8, fun i hi => ?_⟩, .nil none _, .nil none _, fun i hi => by omega, .nil none _, fun i hi => by omega, K8, hb8, fun x hx => hx.elim, fun x hx => hx.elim, fun x hx => hx.elim, fun i hi => by omega⟩
  rw [c8 i hi]
  have : i = 0 ∨ i = 1 ∨ i = 2 ∨ i = 3 := by have : i < 4 := hi; omega
  rcases this with rfl | rfl | rfl | rfl <;> rfl
 refine ⟨mm + 1, find_loop_T (by omega) (by omega) (h.keep K1) a0 a4 ar hW (fun m35 n v1 v2 v3 c2 c3 hB hS => ?_) mm 0 false m9 _ _ _ _ _ (by omega) hBd (fun t => absurd rfl t) (fun i hi => by omega) (fun t => by cases t)⟩
 obtain ⟨z, ez, nz, rz, cz⟩ := hB.box
 have nz : z.n = 4 := nz
 rw [ldG_of ez (by omega)]
 have e2 := hB.K b2 (by rw [e1]; simp)
 rw [e1] at e2
 rw [stG_of e2 rfl (by show 0 + 4 ≤ 4; omega), ldG_of (set_same _ _ _) (by show 0 + 4 ≤ 4; omega)]
 have hbk := hB.bk (v := sub z.c 0 4) fun j hj => by
  unfold sub; rw [if_pos hj, Nat.zero_add]; exact cz j hj
 refine hk _ _ n ?_ hS ?_
 ·refine (hbk.fr (m' := m35.set b2 _) (T' := fun x => m0.obj x ≠ none) (Fr.set (by show m1.obj b2 ≠ none; rw [e1]; simp) _) fun x hx => .inl ?_).congr fun j hj => ?_
  ·show m1.obj x ≠ none
   rw [K1 x hx]; exact hx
  ·simp only [sub, splice]
   simp [hj]
 ·exact Only.keeps (K1.trans hB.K) hb2 (Only.set _ _ _)
theorem bsame_k {m : Mem} {v : Nat → AV} {n : Nat} {T : Nat → Prop} (h : IsRam m r p B M W) (hb : Bk m B v at' n T) (hS : Shape p B at' n) {k : Bool → Mem → Prop} (hk : k true m) : F66 v r.b 0 m k := by
 unfold F66
 have hp := h.p2
 have ha0 := hS.a0
 have har := hS.r
 have hn2 := hS.n2
 refine newK_i fun b2 m1 hb2 K1 e1 O1 => ?_
 have hb1 : IsL m1 1 (v 1) n (cW B at') := hb.w.keep K1
 have e1c : ldA m1 b2 1 = fun k => k (v 1) := by
  funext k
  exact ldA_v e1 (by show 1 < 4; decide) rfl hb1.one k
 rw [e1c]
 dsimp only
 rw [klen_r hb1.r]
 have loop : ∀ (j i : Nat), i + j = n → L66_4 r.b 0 b2 0 (v 1) n (j + 1) i m1 (fun m14 => (Keeps m m14 ∧ k true m)) (fun x15 m16 => (Keeps m m16 ∧ k x15 m)) := by
  intro j
  induction j with
  | zero =>
   intro i e
   show R66_4 _ _ _ _ _ _ _ _ _ _ _
   unfold R66_4
   exact kif_f (by simp; omega) ⟨K1, hk⟩
  | succ j ih =>
   intro i e
   show R66_4 _ _ _ _ _ _ _ _ _ _ _
   unfold R66_4
   rw [wrap64 (n := (i : Int) + 1) (by omega) (by omega)]
   refine kif_t (by simp; omega) (ldI_r (x := wdAt B at' i) hb1.r (by omega) (by omega) (by rw [Int.toNat_natCast]; rfl) fun _ _ _ => ?_)
   obtain ⟨hev, _⟩ := hS.at (i := i) (by omega)
   have hu : isU (at' + 4 * (i : Int)) := by obtain ⟨_, _, e1, e2⟩ := hev; exact ⟨by omega, by omega⟩
   have ex : IntKind.wrap .u32 (at' + IntKind.wrap .u32 (IntKind.wrap .i64 (4 * (i : Int)))) = at' + 4 * i := by
    rw [wrap64 (n := 4 * (i : Int)) (by omega) (by omega), wrap32 (4 * (i : Int)), wrap32]
    have := hu.2
    omega
   rw [show (0 : Nat) + 0 = 0 from rfl, ldI_of (n := at') e1 (by show 0 < 4; decide) hb.v0, ex]
   refine load_spec (h.keep K1) hu (by unfold isI; omega) ?_
   rw [if_pos hev, decide_eq_true hev]
   refine kif_f rfl (kif_f ?_ (ih (i + 1) (by omega)))
   show (wdAt B at' i != wdAt B at' i) = false
   simp
 exact ⟨n + 1, loop n 0 (by omega)⟩
end
def St.wt (S T : St) : St := { S with x := T.x, q := T.q }
theorem wt_go (S T : St) (n : Int) : (goS (S.wt T) n).1 = (goS S n).1.wt T := by
 unfold goS
 have e : missS (S.wt T) = missS S := rfl
 rw [e]
 split
 ·rfl
 split <;> rfl
theorem wt_line (S T : St) (b : Bool) : lineS (S.wt T) b = (lineS S b).wt T := by unfold lineS; split <;> rfl
theorem wt_enter (S T : St) (c : Int) (r : Bool) : enterS (S.wt T) c r = (enterS S c r).wt T := by
 have h : enterA (S.wt T) = (enterA S).wt T := by
  unfold enterA
  have e : outS (S.wt T) = outS S := rfl
  have e2 : (S.wt T).p 36 = S.p 36 := rfl
  rw [e, e2]
  split
  ·split <;> rfl
  ·rfl
 unfold enterS
 rw [h]
 rfl
theorem wt_set (S T : St) (n v : Int) : setS (S.wt T) n v = (setS S n v).wt T := by unfold setS; split <;> rfl
theorem wt_bad (S T : St) (v c : Int) : badC (S.wt T) v c = (badC S v c).wt T := by unfold badC badS; split <;> rfl
theorem wt_write (S T : St) (n v : Int) : writeS (S.wt T) n v = (writeS S n v).wt T := by
 unfold writeS
 split
 ·rfl
 split
 ·rfl
 split
 ·rfl
 split
 ·rfl
 split
 ·rfl
 split
 ·rfl
 split <;> rfl
theorem wt_on (S T : St) (x : In) (a t : Int) : onS (S.wt T) x a t = (onS S x a t).wt T := by
 unfold onS
 dsimp only
 split
 ·split
  ·exact wt_set ((((S.putN 34 (S.n 35)).putN 35 (IntKind.wrap .u32 (S.n 35 + 4))).putN 35 (targetB x (S.n 34) a)).putP 36 (classS x.k == 3)) T _ _
  ·exact wt_set (((S.putN 34 (S.n 35)).putN 35 (IntKind.wrap .u32 (S.n 35 + 4))).putP 36 (classS x.k == 3)) T _ _
 ·split <;> rfl
theorem wt_ent (S T : St) (c : Int) (r : Bool) : entS (S.wt T) c r = (entS S c r).wt T := by
 unfold entS; rw [wt_enter, wt_go, wt_line]
theorem wt_goon (S T : St) (x : In) (a t : Int) : goonS (S.wt T) x a t = (goonS S x a t).wt T := by
 unfold goonS
 split
 ·rw [wt_go, wt_line]
 ·rw [wt_go, wt_on, wt_line]
theorem wt_lies (S T : St) (va n : Int) (b : Bool) : liesS (S.wt T) va n b = liesS S va n b := rfl
theorem wt_act (p : Nat) (B : Nat → Int) (S T : St) (x : In) : actS p B (S.wt T) x = ((actS p B S x).1.wt T, (actS p B S x).2) := by
 unfold actS
 split
 ·unfold loadS
  rw [show vaS (S.wt T) x = vaS S x from rfl, wt_lies]
  dsimp only
  split
  ·rw [wt_bad]
  split
  ·split
   ·exact Prod.ext (wt_set ((S.putP 37 true).putN 38 (liesS S (vaS S x) (sizeS x.k) false).1) T _ _) rfl
   ·exact Prod.ext (wt_set S T _ _) rfl
  ·rfl
 split
 ·unfold storeS
  rw [show vaS (S.wt T) x = vaS S x from rfl, wt_lies]
  dsimp only
  split
  ·rw [wt_bad]
  split
  ·rename_i h
   have h : x.k = 75 ∧ ¬ (S.p 37 = true ∧ S.n 38 = (liesS S (vaS S x) (sizeS x.k) true).1) := h
   rw [if_pos h, wt_set]; rfl
  rename_i h
  have h : ¬ (x.k = 75 ∧ ¬ (S.p 37 = true ∧ S.n 38 = (liesS S (vaS S x) (sizeS x.k) true).1)) := h
  rw [if_neg h]
  split
  ·by_cases c75 : x.k = 75
   ·simp only [c75, if_true, true_or]
    rw [wt_set]; rfl
   ·simp only [c75, if_false, false_or]
    have e : nearS (S.wt T) = nearS S := rfl
    rw [e]
    split <;> rfl
  ·rfl
 split
 ·dsimp only
  split
  ·rfl
  ·unfold systemS
   split
   ·exact Prod.ext (wt_set _ _ _ _) rfl
   split
   ·exact Prod.ext (wt_write _ _ _ _) rfl
   split <;> rfl
 ·unfold plainX
  dsimp only
  split
  ·exact Prod.ext (wt_set _ _ _ _) rfl
  ·rfl
theorem wt_exec (p : Nat) (B : Nat → Int) (S T : St) (x : In) : execS p B (S.wt T) x = ((execS p B S x).1.wt T, (execS p B S x).2) := by
 unfold execS
 rw [show refS (S.wt T) x = refS S x from rfl, wt_act]
 dsimp only
 split
 ·exact Prod.ext (wt_ent _ _ _ _) rfl
 split
 ·exact Prod.ext (wt_ent _ _ _ _) rfl
 ·exact Prod.ext (wt_goon _ _ _ _ _) rfl
theorem wt_step (p : Nat) (B : Nat → Int) (S T : St) : stepS p B (S.wt T) = ((stepS p B S).1.wt T, (stepS p B S).2) := by
 unfold stepS
 rw [show takenS (S.wt T) = takenS S from rfl, show (S.wt T).n 34 = S.n 34 from rfl, wt_lies]
 dsimp only
 split
 ·exact Prod.ext (wt_ent _ _ _ _) rfl
 split
 ·rw [wt_bad]; exact Prod.ext (wt_ent _ _ _ _) rfl
 split
 ·exact wt_exec _ _ _ _ _
 ·exact Prod.ext (wt_ent _ _ _ _) rfl
theorem Okx.wt {p : Nat} {S : St} {x : In} (h : Okx p S x) (T : St) : Okx p (S.wt T) x := ⟨h.l, h.s, h.z, h.t⟩
theorem Calm.wt {S : St} (h : Calm S) (T : St) : Calm (S.wt T) := ⟨h.w, h.l⟩
theorem Good.wt {p : Nat} {B : Nat → Int} {S : St} (h : Good p B S) (T : St) : Good p B (S.wt T) := ⟨h.c.wt T, h.r0, h.dev, fun a b c => ⟨(h.x a b c).1, (h.x a b c).2.wt T⟩⟩
theorem wt_liftX (S T : St) (x : In) : liftX (S.wt T) x = (liftX S x).wt T := by
 unfold liftX
 rw [show liftS (S.wt T) (opsOf x) = (liftS S (opsOf x)).wt T from rfl, wt_go]
 exact wt_line (advS (goS (liftS S (opsOf x)) 1).1) T false
theorem exec_lift {p : Nat} {B : Nat → Int} {S : St} {x : In} (hx : FX x) (hp : plainS x = true) (r0 : S.n 0 = 0) (ok : S.ok) (hz : x.k = 1 → x.d = 0) : execS p B S x = (liftX S x, B, -1) := by
 have hcl : classS x.k = 1 := by unfold plainS at hp; simp at hp; exact hp.2
 have hr : rightS x = true := by unfold plainS at hp; simp at hp; exact hp.1
 have hkd : x.k = 1 ∨ x.k = 47 := by
  have hk' := exK_c hx.k
  rcases hk' with t | t | t | t | t | t | t | t | t | t | t | t | t | t | t | t | t | t | t | t | t | t <;> first | (left; exact t) | (right; exact t) | (exfalso; rw [t] at hcl; revert hcl; decide)
 have href : refS S x = -1 := by
  unfold refS trapsS
  rw [hcl, hr]
  rcases hkd with t | t <;> rw [t] <;> simp
 unfold execS
 rw [href]
 have hact : actS p B S x = (plainX S x, B, -1, false) := by unfold actS; rw [hcl]; simp
 rw [hact]
 simp only [ne_eq, not_true_eq_false, if_false]
 refine Prod.ext ?_ rfl
 show goonS (plainX S x) x _ _ = liftX S x
 unfold goonS liftX
 have n60 : x.k ≠ 60 := by omega
 rw [if_neg n60]
 congr 1
 -- registers
 have hS : plainX S x = liftS S (opsOf x) := by
  refine St.ext (fun i => ?_) (fun i => ?_) ?_ ?_
  ·show _ = if i < 34 then run18 (rg S) (opsOf x) i else S.n i
   rcases hkd with t | t
   ·have hd := hz t
    unfold plainX
    rw [if_neg (by omega), ops_sh hp (by omega)]
    by_cases c : i < 34
    ·rw [if_pos c]
     show S.n i = one18 (one18 (rg S) ⟨1, 34, 0, 0, IntKind.wrap .u32 x.h⟩) ⟨kindL x.k, x.d, x.t, 34, 0⟩ i
     have e1 : kindL x.k = 9 := by rw [t]; decide
     rw [e1, hd]
     have e2 : ∀ f : Nat → Int, one18 f ⟨9, 0, x.t, 34, 0⟩ = f := fun f => by unfold one18; simp
     rw [e2, const_at, if_neg (by omega)]
     unfold rg; rw [if_pos c]
    ·rw [if_neg c]
   ·unfold plainX
    rw [if_pos t, ops_im hp (by omega)]
    have e1 : kindL x.k = 3 := by rw [t]; decide
    have e2 : immL x = sxV x.i := by unfold immL; rw [if_neg (by omega)]
    rw [e1, e2]
    by_cases c : i < 34
    ·rw [if_pos c, two_put (by show (1 : Int) ≤ 3; decide) (by show (3 : Int) ≤ 16; decide) (by show x.s.toNat < 34; have := hx.s1; omega) rfl c]
     have ht0 := hx.t0
     unfold putV setS
     show _ = (if 0 < x.t then upd (rg S) x.t.toNat (valV 3 (rg S x.s.toNat) (sxV x.i) 0) else rg S) i
     have er : rg S x.s.toNat = S.n x.s.toNat := by unfold rg; rw [if_pos (by have := hx.s1; omega)]
     by_cases ct : x.t = 0
     ·rw [if_pos ct, if_neg (by omega)]; unfold rg; rw [if_pos c]
     ·rw [if_neg ct, if_pos (by omega), er]
      show upd S.n x.t.toNat _ i = upd (rg S) x.t.toNat _ i
      unfold upd
      split
      ·rfl
      ·unfold rg; rw [if_pos c]
    ·rw [if_neg c]
     unfold setS
     have ht0 := hx.t0
     have ht1 := hx.t1
     split
     ·rfl
     ·show upd S.n _ _ i = _
      unfold upd; rw [if_neg (by omega)]
  ·unfold plainX setS
   split
   ·split <;> rfl
   ·rfl
  ·exact (show Tl S (plainX S x) by
    unfold plainX; split
    ·exact tl_set _ _ _
    ·exact .refl _).1
  ·exact (show Tl S (plainX S x) by
    unfold plainX; split
    ·exact tl_set _ _ _
    ·exact .refl _).2
 rw [hS]
 unfold onS advS
 have ht : takenB x (S.n x.s.toNat) (S.n x.t.toNat) = false := by
  unfold takenB
  rw [if_neg (by omega), if_neg (by omega), if_neg (by omega)]
 have n8 : x.k ≠ 8 := by omega
 rw [ht, hcl, if_neg n8]
 rfl
structure Sp (S T : St) : Prop where
 a : S.n 49 = T.n 49
 u : S.n 51 = T.n 51
 t : ∀ i, 55 ≤ i → i < 71 → S.n i = T.n i
theorem Sp.refl (S : St) : Sp S S := ⟨rfl, rfl, fun _ _ _ => rfl⟩
theorem Sp.trans {S T U : St} (h : Sp S T) (h' : Sp T U) : Sp S U := ⟨h.a.trans h'.a, h.u.trans h'.u, fun i a b => (h.t i a b).trans (h'.t i a b)⟩
theorem sp_tfind {S T : St} (h : Sp S T) (va : Int) : ∀ d i : Nat, d + i ≤ 8 → tfind S va d i = tfind T va d i
 | 0, _, _ => rfl
 | d + 1, i, hi => by
  have e : tmatch S va i = tmatch T va i := by unfold tmatch; rw [h.t (55 + i * 2) (by omega) (by omega), h.t (56 + i * 2) (by omega) (by omega), h.a]
  show (if tmatch S va i = true then (i : Int) else tfind S va d (i + 1)) = if tmatch T va i = true then (i : Int) else tfind T va d (i + 1)
  rw [e, sp_tfind h va d (i + 1) (by omega)]
theorem Sp.lies {S T : St} (h : Sp S T) (va n : Int) (b : Bool) : liesS S va n b = liesS T va n b := by
 unfold liesS
 have eu : userS S = userS T := by unfold userS; rw [h.u]
 have el : lookS S va b = lookS T va b := by
  unfold lookS
  rw [sp_tfind h va 8 0 (by omega)]
  have hr := tfind_rng T va 8 0
  dsimp only
  split
  ·rfl
  ·rename_i hk
   rw [h.t (56 + (tfind T va 8 0).toNat * 2) (by omega) (by omega)]
 rw [eu, el]
theorem lies4 (S : St) (va : Int) : liesS S va 4 false = if va % 4 ≠ 0 ∨ (2147483648 ≤ va ∧ userS S = true) then (0, 4, false) else if 2147483648 ≤ va ∧ va < 3221225472 then (bits .and .u32 va 536870911, -1, false) else lookS S va false := rfl
theorem lies_next {S : St} {va a : Int} {r : Bool} {k : Nat} (v0 : 0 ≤ va) (v1 : va < 4294967296) (h : liesS S va 4 false = (a, -1, r)) (ok : S.ok) (a4 : a % 4 = 0) (hp : (a + 4 * k) / 1024 = a / 1024) : va + 4 * k < 4294967296 ∧ liesS S (va + 4 * k) 4 false = (a + 4 * k, -1, r) := by
 rw [lies4] at h ⊢
 have low : ∀ z : Int, 0 ≤ z → z < 4294967296 → bits .and .u32 z 1023 = z % 1024 := fun z h0 h1 => by have := and_ones z h0 h1 10 (by decide); simpa using this
 have low29 : ∀ z : Int, 0 ≤ z → z < 4294967296 → bits .and .u32 z 536870911 = z % 536870912 := fun z h0 h1 => by have := and_ones z h0 h1 29 (by decide); simpa using this
 split at h
 ·simp at h
 rename_i c1
 split at h
 ·rename_i c2
  rw [low29 va v0 v1] at h
  simp only [Prod.mk.injEq, true_and] at h
  obtain ⟨e1, e3⟩ := h
  have hv : (va + 4 * (k : Int)) / 1024 = va / 1024 := by omega
  have hlt : va + 4 * (k : Int) < 3221225472 := by omega
  refine ⟨by omega, ?_⟩
  rw [if_neg (fun t => t.elim (fun t => by omega) fun ⟨t, t2⟩ => c1 (.inr ⟨by omega, t2⟩)), if_pos ⟨by omega, by omega⟩, low29 _ (by omega) (by omega), ← e3]
  congr 1
  omega
 ·rename_i c2
  unfold lookS at h
  dsimp only at h
  split at h
  ·simp at h
  rename_i c3
  split at h
  ·simp at h
  rename_i c4
  split at h
  ·simp at h
  rename_i c5
  have hk := tfind_rng S va 8 0
  have lo := ok.1 (56 + (tfind S va 8 0).toNat * 2) (by omega)
  have eor : ∀ z : Int, 0 ≤ z → z < 4294967296 → bits .or .u32 (bits .and .u32 (S.n (56 + (tfind S va 8 0).toNat * 2)) 4294966272) (bits .and .u32 z 1023) = S.n (56 + (tfind S va 8 0).toNat * 2) - S.n (56 + (tfind S va 8 0).toNat * 2) % 1024 + z % 1024 := fun z h0 h1 => by
   rw [hi_eq _ lo.1 lo.2, low z h0 h1, or_low (by omega) (by omega) (by omega) (by omega) (by omega)]
  rw [eor va v0 v1] at h
  simp only [Prod.mk.injEq, true_and] at h
  obtain ⟨e1, e3⟩ := h
  have hv : (va + 4 * (k : Int)) / 1024 = va / 1024 := by omega
  have hlt : va + 4 * (k : Int) < 4294967296 := by omega
  refine ⟨hlt, ?_⟩
  rw [if_neg (fun t => t.elim (fun t => by omega) fun ⟨t, t2⟩ => c1 (.inr ⟨by omega, t2⟩)), if_neg (by omega)]
  unfold lookS
  rw [tfind_page S (va + 4 * k) va (by omega) hlt v0 v1 (by omega) 8 0]
  dsimp only
  rw [if_neg c3, if_neg c4, if_neg c5, eor _ (by omega) hlt, ← e3]
  congr 1
  omega
theorem ldv_congr {f g : Nat → Int} : ∀ n, (∀ t, t < n → f t = g t) → ldv f n = ldv g n
 | 0, _ => rfl
 | n + 1, h => by
  show bits .or .u32 (IntKind.wrap .u32 (ldv f n * 256)) (IntKind.wrap .u32 (f n)) = bits .or .u32 (IntKind.wrap .u32 (ldv g n * 256)) (IntKind.wrap .u32 (g n))
  rw [ldv_congr n fun t ht => h t (by omega), h n (by omega)]
def Cod (C : Nat → Bool) (B B' : Nat → Int) : Prop := ∀ j : Nat, C (j / 1024) = true → B' j = B j
theorem Cod.wd {C : Nat → Bool} {B B' : Nat → Int} (h : Cod C B B') {a : Int} (a0 : 0 ≤ a) (a4 : a % 4 = 0) (hc : C (a / 1024).toNat = true) : wdB B' a 4 = wdB B a 4 :=
 ldv_congr _ fun t ht => h _ (by
  have ht : t < 4 := ht
  have : (a.toNat + t) / 1024 = (a / 1024).toNat := by omega
  rw [this]; exact hc)
section
variable {m m' : Mem} {b : Nat} {n : Int} {l : List (Key × Val)} {S : Nat → Prop}
theorem Ca.fr {T : Nat → Prop} (h : Ca m b n l S) (F : Fr T m m') (hs : ∀ x, S x → ¬ T x) : Ca m' b n l S := by
 obtain ⟨bm, v, es, w, e⟩ := h
 subst e
 exact ⟨bm, v, es, ⟨w.li.fr F (hs b (.inl rfl)) fun x hx => hs x (.inr (.inr hx)), w.mp.fr F (hs bm (.inr (.inl rfl))), w.pm, w.nd, w.ln, w.n1, w.n2, w.vo⟩, rfl⟩
end
def ft (e : Nat) (q : BB) (wv : AV) (Sc : Nat → Prop) : Nat → Prop := fun x => foot e q x ∨ own wv x ∨ Sc x
structure EI (C : Nat → Bool) (Y : Nat → Prop) (m : Mem) (e : Nat) (q : BB) (c : Nat) (p : Nat) (S : St) (B : Nat → Int) (M : Nat → Bool) (D : Dv) (wv : AV) (n : Int) (l : List (Key × Val)) (Sc : Nat → Prop) (cap made used : Int) : Prop where
 mac : Mac m e q c p S B M (fun _ => false) D wv n l Sc cap made used
 ok : S.ok
 st : Still D
 blk : ∀ en ∈ l, ∃ k, Bk m B en.2 en.1.a k (fun x => ft e q wv Sc x ∨ Y x) ∧ Shape p B en.1.a k ∧ C (en.1.a / 1024).toNat = true
 mks : ∀ j, j < p → M j = true → C j = true
section
variable {C : Nat → Bool} {Y : Nat → Prop} {m m' : Mem} {e : Nat} {q : BB} {c : Nat} {p : Nat} {S : St} {B : Nat → Int} {M : Nat → Bool} {D : Dv} {wv : AV} {n : Int} {l : List (Key × Val)} {Sc : Nat → Prop} {cap made used : Int}
theorem EI.cpu (h : EI C Y m e q c p S B M D wv n l Sc cap made used) : Cpu m e q p S B M (fun _ => false) D wv := ⟨h.mac.s, h.ok, h.mac.b, h.mac.de, h.mac.dw⟩
theorem EI.q0 (h : EI C Y m e q c p S B M D wv n l Sc cap made used) : 0 < S.q := by rw [h.mac.sq]; decide
theorem EI.x0 (h : EI C Y m e q c p S B M D wv n l Sc cap made used) : S.x 0 = .ptr q.b 0 := by rw [h.mac.sx]; rfl
theorem Bk.cB {B' : Nat → Int} {v : Nat → AV} {a : Int} {k : Nat} {T : Nat → Prop} (h : Bk m B v a k T) (e : ∀ i, i < k → wdAt B' a i = wdAt B a i) : Bk m B' v a k T := by
 have e2 : ∀ i, i < k → inAt B' a i = inAt B a i := fun i hi => by unfold inAt; rw [e i hi]
 obtain ⟨h0, h1, ⟨c2, i1, i2⟩, ⟨c3, o1, o2⟩, h4, h5, h6⟩ := h
 exact ⟨h0, h1.congr fun i hi => by unfold cW; rw [e i (by omega)], ⟨c2, i1, fun i hi => by rw [e2 i hi]; exact i2 i hi⟩, ⟨c3, o1, fun i hi => by rw [e2 i hi]; exact o2 i hi⟩, h4, h5, h6⟩
theorem Shape.cB {B' : Nat → Int} {a : Int} {k : Nat} (h : Shape p B a k) (e : ∀ i, i < k → wdAt B' a i = wdAt B a i) : Shape p B' a k :=
 ⟨h.a0, h.a4, h.n1, h.n2, h.pg, h.r, fun i hi => by unfold inAt; rw [e i (by omega)]; exact h.s i hi⟩
theorem Shape.wd {B' : Nat → Int} {a : Int} {k : Nat} (h : Shape p B a k) (hc : Cod C B B') (hC : C (a / 1024).toNat = true) : ∀ i, i < k → wdAt B' a i = wdAt B a i := fun i hi => by
 obtain ⟨⟨_, e4, _⟩, epg⟩ := h.at hi
 have := h.a0
 exact hc.wd (by omega) e4 (by rw [epg]; exact hC)
theorem IsBus.noW {W : Nat → Bool} (h : IsBus m q p B M W D wv) (hW : ∀ j, j < p → W j = false) : IsBus m q p B M (fun _ => false) D wv :=
 ⟨h.b, h.r.congr (fun _ _ => rfl) h.r.rng (fun _ _ => rfl) hW, h.w, h.wl, h.ln, h.t1, h.t2, h.u, h.d, h.k, h.kb, h.dkr, h.nd, h.nw⟩
theorem EI.upd2 {S' : St} {B' : Nat → Int} {W' : Nat → Bool} {D' : Dv} {M' : Nat → Bool} {made' used' : Int} (h : EI C Y m e q c p S B M D wv n l Sc cap made used) (h' : Cpu m' e q p S' B' M' W' D' wv) (hW : ∀ j, j < p → W' j = false) (hD : Still D') (F : Fr (foot e q) m m') (hx : S'.x = engX q.b c cap made' used') (hq : S'.q = 5) (cod : Cod C B B') (hM : ∀ j, j < p → M' j = true → C j = true) :
  EI C Y m' e q c p S' B' M' D' wv n l Sc cap made' used' := by
 have hsf : ∀ x, Sc x → ¬ foot e q x := fun x hx hf => hf.elim (fun t => h.mac.ce (t ▸ hx)) fun t => h.mac.cb x t hx
 refine ⟨⟨h'.s, hx, hq, h'.b.noW hW, h.mac.c.fr F hsf, h.mac.de, h.mac.dw, h.mac.ce, h.mac.cb, h.mac.cw⟩, h'.ok, hD, fun en hen => ?_, hM⟩
 obtain ⟨k, b1, s1, c1⟩ := h.blk en hen
 have ew := s1.wd cod c1
 exact ⟨k, (b1.fr (F.mono fun x _ hx => (.inl (.inl hx) : ft e q wv Sc x ∨ Y x)) fun x hx => .inl hx).cB ew, s1.cB ew, c1⟩
theorem EI.upd {S' : St} {B' : Nat → Int} {W' : Nat → Bool} {D' : Dv} (h : EI C Y m e q c p S B M D wv n l Sc cap made used) (h' : Cpu m' e q p S' B' M W' D' wv) (hW : ∀ j, j < p → W' j = false) (hD : Still D') (F : Fr (foot e q) m m') (t : Tl S S') (cod : Cod C B B') :
  EI C Y m' e q c p S' B' M D' wv n l Sc cap made used := h.upd2 h' hW hD F (t.1.trans h.mac.sx) (t.2.trans h.mac.sq) cod h.mks
theorem EI.keep (h : EI C Y m e q c p S B M D wv n l Sc cap made used) (K : Keeps m m') : EI C Y m' e q c p S B M D wv n l Sc cap made used :=
 h.upd (h.cpu.keep K) (fun _ _ => rfl) h.st (K.fr _) (Tl.refl _) fun _ _ => rfl
theorem wl_none (p : Nat) : wl (fun _ => false) p = [] := by unfold wl; simp
theorem sync_k (h : EI C Y m e q c p S B M D wv n l Sc cap made used) {k : Mem → Prop} (hk : ∀ m', EI C Y m' e q c p S B M D wv n l Sc cap made used → Fr (foot e q) m m' → k m') : F39 e 0 m k := by
 unfold F39
 have tl : ∀ k, ldA m e (0 + 73) k = k (.ptr q.b 0) := fun k => by
  rw [show (0 : Nat) + 73 = 73 + 0 from rfl]
  exact tail_ld (j := 0) h.mac.s h.q0 h.x0 rfl k
 rw [tl]
 dsimp only [kptr]
 refine ram_spec h.mac.b ?_
 dsimp only [kptr]
 refine written_spec h.mac.b.r fun v8 m9 h9 L9 F9 o9 => ?_
 rw [wl_none] at L9
 rw [klen_r L9.r]
 refine ⟨1, ?_⟩
 show R39_1 _ _ _ _ _ _ _ _
 unfold R39_1
 refine kif_f rfl (hk m9 ?_ (has_foot F9))
 exact h.upd (h.cpu.rm (h.mac.b.withR F9 h9) F9) (fun _ _ => rfl) h.st (has_foot F9) (Tl.refl _) fun _ _ => rfl
end
structure ES (m0 : Mem) (C : Nat → Bool) (Y : Nat → Prop) (m : Mem) (e : Nat) (q : BB) (c : Nat) (p : Nat) (S : St) (B : Nat → Int) (M : Nat → Bool) (D : Dv) (wv : AV) (n : Int) (l : List (Key × Val)) (Sc : Nat → Prop) (cap made used : Int) : Prop where
 h : EI C Y m e q c p S B M D wv n l Sc cap made used
 K : Keeps m0 m
 f : ∀ x, ft e q wv Sc x → m0.obj x = none
section
variable {m0 : Mem} {C : Nat → Bool} {Y : Nat → Prop} {m m' : Mem} {e : Nat} {q : BB} {c : Nat} {p : Nat} {S : St} {B : Nat → Int} {M : Nat → Bool} {D : Dv} {wv : AV} {n : Int} {l : List (Key × Val)} {Sc : Nat → Prop} {cap made used : Int}
theorem ES.upd {S' : St} {B' : Nat → Int} {W' : Nat → Bool} {D' : Dv} (h : ES m0 C Y m e q c p S B M D wv n l Sc cap made used) (h' : Cpu m' e q p S' B' M W' D' wv) (hW : ∀ j, j < p → W' j = false) (hD : Still D') (F : Fr (foot e q) m m') (t : Tl S S') (cod : Cod C B B') :
  ES m0 C Y m' e q c p S' B' M D' wv n l Sc cap made used := ⟨h.h.upd h' hW hD F t cod, Fr.keeps h.K F fun x hx => h.f x (.inl hx), h.f⟩
theorem ES.keep (h : ES m0 C Y m e q c p S B M D wv n l Sc cap made used) (K : Keeps m m') : ES m0 C Y m' e q c p S B M D wv n l Sc cap made used := ⟨h.h.keep K, h.K.trans K, h.f⟩
theorem ft_live (h : EI C Y m e q c p S B M D wv n l Sc cap made used) {x : Nat} (hx : ft e q wv Sc x) : m.obj x ≠ none := by
 rcases hx with (hx | hx) | hx | hx
 ·rw [hx]; exact h.mac.s.live
 ·exact h.mac.b.live hx
 ·exact h.mac.b.wl.live hx
 ·exact h.mac.c.live hx
theorem ES.cache {l' : List (Key × Val)} {Sc' : Nat → Prop} (h : ES m0 C Y m e q c p S B M D wv n l Sc cap made used) (hc : Ca m' c n l' Sc') (s : Stp Sc Sc' m m')
  (hb : ∀ en ∈ l', ∃ k, Bk m' B en.2 en.1.a k (fun x => ft e q wv Sc' x ∨ Y x) ∧ Shape p B en.1.a k ∧ C (en.1.a / 1024).toNat = true) : ES m0 C Y m' e q c p S B M D wv n l' Sc' cap made used := by
 have nSe := h.h.mac.ce
 have nb := h.h.mac.cb
 have nw := h.h.mac.cw
 refine ⟨⟨⟨h.h.mac.s.fr s.fr nSe, h.h.mac.sx, h.h.mac.sq, h.h.mac.b.fr s.fr nb nw, hc, h.h.mac.de, h.h.mac.dw, fun t => (s.ft e t).elim nSe h.h.mac.s.live, fun b hb t => (s.ft b t).elim (nb b hb) (h.h.mac.b.live hb), fun b hb t => (s.ft b t).elim (nw b hb) (h.h.mac.b.wl.live hb)⟩, h.h.ok, h.h.st, hb, h.h.mks⟩,
  Fr.keeps h.K s.fr fun x hx => h.f x (.inr (.inr hx)), fun x hx => ?_⟩
 rcases hx with hx | hx | hx
 ·exact h.f x (.inl hx)
 ·exact h.f x (.inr (.inl hx))
 ·rcases s.ft x hx with t | t
  ·exact h.f x (.inr (.inr t))
  ·exact newK_none h.K t
theorem stp_ft {Sc' : Nat → Prop} (s : Stp Sc Sc' m m') : Fr (ft e q wv Sc) m m' ∧ ∀ x, ft e q wv Sc' x → ft e q wv Sc x ∨ m.obj x = none :=
 ⟨s.fr.mono fun x _ h => .inr (.inr h), fun x hx => by
  rcases hx with hx | hx | hx
  ·exact .inl (.inl hx)
  ·exact .inl (.inr (.inl hx))
  ·rcases s.ft x hx with t | t
   ·exact .inl (.inr (.inr t))
   ·exact .inr t⟩
theorem engX_2 {b c : Nat} {cap made used v : Int} : upd (engX b c cap made used) 3 (vi v) = engX b c cap v used := by
 funext j
 unfold upd engX
 match j with
 | 0 => rfl
 | 1 => rfl
 | 2 => rfl
 | 3 => rfl
 | 4 => rfl
 | j + 5 => rfl
theorem engX_3 {b c : Nat} {cap made used v : Int} : upd (engX b c cap made used) 4 (vi v) = engX b c cap made v := by
 funext j
 unfold upd engX
 match j with
 | 0 => rfl
 | 1 => rfl
 | 2 => rfl
 | 3 => rfl
 | 4 => rfl
 | j + 5 => rfl
theorem stX_st {j : Nat} {v : AV} {k : Mem → Prop} (h : IsSt m e S) (hj : j < S.q) (hk : ∀ m', IsSt m' e { S with x := upd S.x j v } → Only m e m' → k m') : stC m e (73 + j) v k := by
 obtain ⟨x, ex, hn, hr, hc, hx⟩ := h
 rw [stC_of ex hr (by omega)]
 refine hk _ ⟨_, set_same _ _ _, hn, hr, fun i hi => ?_, fun i hi => ?_⟩ (Only.set _ _ _)
 ·show upd x.c (73 + j) _ i = _
  unfold upd; rw [if_neg (by omega)]
  rw [hc i hi]; rfl
 ·show upd x.c (73 + j) _ (73 + i) = upd S.x j v i
  unfold upd
  by_cases c1 : i = j
  ·rw [if_pos (by omega), if_pos c1]
  ·rw [if_neg (by omega), if_neg c1]; exact hx i hi
theorem ES.tail {T : St} {made' used' : Int} (h : ES m0 C Y m e q c p S B M D wv n l Sc cap made used) (hT : IsSt m' e T) (en : T.n = S.n) (ep : T.p = S.p) (eq : T.q = S.q) (ex : T.x = engX q.b c cap made' used') (F : Fr (one1 e) m m') : ES m0 C Y m' e q c p T B M D wv n l Sc cap made' used' := by
 have ok' : T.ok := by
  have := h.h.ok
  unfold St.ok at this ⊢
  rw [en]; exact this
 exact ⟨h.h.upd2 (h.h.cpu.st hT ok' F) (fun _ _ => rfl) h.h.st (one_foot F) ex (eq.trans h.h.mac.sq) (fun _ _ => rfl) h.h.mks, Fr.keeps h.K (one_foot (q := q) F) fun x hx => h.f x (.inl hx), h.f⟩
theorem lies_a4 {va a : Int} {r : Bool} (ok : S.ok) (v0 : 0 ≤ va) (v1 : va < 4294967296) (h : liesS S va 4 false = (a, -1, r)) : a % 4 = 0 ∧ 0 ≤ a := by
 have low : ∀ z : Int, 0 ≤ z → z < 4294967296 → bits .and .u32 z 1023 = z % 1024 := fun z h0 h1 => by have := and_ones z h0 h1 10 (by decide); simpa using this
 have low29 : ∀ z : Int, 0 ≤ z → z < 4294967296 → bits .and .u32 z 536870911 = z % 536870912 := fun z h0 h1 => by have := and_ones z h0 h1 29 (by decide); simpa using this
 rw [lies4] at h
 split at h
 ·simp at h
 rename_i c1
 split at h
 ·rw [low29 va v0 v1] at h
  simp only [Prod.mk.injEq, true_and] at h
  have := h.1
  omega
 ·unfold lookS at h
  dsimp only at h
  split at h
  ·simp at h
  split at h
  ·simp at h
  split at h
  ·simp at h
  have hk := tfind_rng S va 8 0
  have lo := ok.1 (56 + (tfind S va 8 0).toNat * 2) (by omega)
  rw [hi_eq _ lo.1 lo.2, low va v0 v1, or_low (by omega) (by omega) (by omega) (by omega) (by omega)] at h
  simp only [Prod.mk.injEq, true_and] at h
  have := h.1
  omega
theorem ES.addY {b : Nat} (h : ES m0 C Y m e q c p S B M D wv n l Sc cap made used) (hb : m.obj b = none) (K : Keeps m m') : ES m0 C (fun x => Y x ∨ x = b) m' e q c p S B M D wv n l Sc cap made used := by
 have h' := h.keep K
 refine ⟨⟨h'.h.mac, h'.h.ok, h'.h.st, fun en hen => ?_, h'.h.mks⟩, h'.K, h'.f⟩
 obtain ⟨k, b1, s1, c1⟩ := h.h.blk en hen
 refine ⟨k, b1.fr (K.fr _) (fun x hx => ?_), s1, c1⟩
 rcases hx with hx | hx | hx
 ·exact .inl (.inl hx)
 ·exact .inl (.inr hx)
 ·exact .inr (by rw [hx]; exact hb)
theorem ES.subY {Y' : Nat → Prop} (h : ES m0 C Y m e q c p S B M D wv n l Sc cap made used) (hY : ∀ x, Y' x → Y x) : ES m0 C Y' m e q c p S B M D wv n l Sc cap made used := by
 refine ⟨⟨h.h.mac, h.h.ok, h.h.st, fun en hen => ?_, h.h.mks⟩, h.K, h.f⟩
 obtain ⟨k, b1, s1, c1⟩ := h.h.blk en hen
 refine ⟨k, b1.fr (Fr.refl _ _) (fun x hx => ?_), s1, c1⟩
 rcases hx with hx | hx
 ·exact .inl (.inl hx)
 ·exact .inl (.inr (hY x hx))
theorem ES.frY {T : Nat → Prop} (h : ES m0 C Y m e q c p S B M D wv n l Sc cap made used) (F : Fr T m m') (hT : ∀ x, T x → Y x) (hf : ∀ x, ft e q wv Sc x → ¬ T x) (h0 : ∀ x, T x → m0.obj x = none) : ES m0 C Y m' e q c p S B M D wv n l Sc cap made used := by
 refine ⟨⟨⟨h.h.mac.s.fr F (hf e (.inl (.inl rfl))), h.h.mac.sx, h.h.mac.sq, h.h.mac.b.fr F (fun b hb => hf b (.inl (.inr hb))) fun b hb => hf b (.inr (.inl hb)), h.h.mac.c.fr F fun x hx => hf x (.inr (.inr hx)), h.h.mac.de, h.h.mac.dw, h.h.mac.ce, h.h.mac.cb, h.h.mac.cw⟩, h.h.ok, h.h.st, fun en hen => ?_, h.h.mks⟩, Fr.keeps h.K F h0, h.f⟩
 obtain ⟨k, b1, s1, c1⟩ := h.h.blk en hen
 exact ⟨k, b1.fr (F.mono fun x _ hx => .inr (hT x hx)) fun x hx => .inl hx, s1, c1⟩
structure Place (C : Nat → Bool) (p : Nat) (B : Nat → Int) (S : St) : Prop where
 k : ∀ a r, liesS S (S.n 34) 4 false = (a, -1, r) → a < p * 1024 → C (a / 1024).toNat = true ∧ PageOk B a
theorem fin_k {b2 b8 a : Nat} {v : Nat → AV} (h : ES m0 C Y m e q c p S B M D wv n l Sc cap made used) (hC : ∀ j : Nat, (j : Int) = (a : Int) / 1024 → j < p → C j = true) {kk : Nat} (hu : isU (a : Int))
  (e8 : ∃ y, m.obj b8 = some y ∧ y.n = 4 ∧ y.ro = false ∧ ∀ j, j < 4 → y.c j = v j) (n8 : ¬ ft e q wv Sc b8) (e2 : ∃ y, m.obj b2 = some y ∧ y.n = 4 ∧ y.ro = false) (n2 : ¬ ft e q wv Sc b2) (n0 : m0.obj b2 = none) (hY2 : Y b2) (hb : Bk m B v a kk (fun x => ft e q wv Sc x ∨ x = b2 ∨ x = b8))
  {kr : Bool → Mem → Prop} (hk : ∀ m' S' M', ES m0 C Y m' e q c p S' B M' D wv n l Sc cap made (IntKind.wrap .i64 (used + 1)) → S'.n = S.n → S'.p = S.p → (∃ y, m'.obj b2 = some y ∧ y.n = 4 ∧ y.ro = false ∧ ∀ j, j < 4 → y.c j = v j) → Bk m' B v a kk (ft e q wv Sc) → kr true m') :
  P41_13102 e 0 b2 0 b8 0 m kr := by
 unfold P41_13102
 refine ⟨fun y => y = e ∨ y = b8, .inl rfl, ?_⟩
 have tl : ∀ k, ldA m e (0 + 73) k = k (.ptr q.b 0) := fun k => by
  rw [show (0 : Nat) + 73 = 73 + 0 from rfl]
  exact tail_ld (j := 0) h.h.mac.s h.h.q0 h.h.x0 rfl k
 rw [tl]
 dsimp only [kptr]
 refine ram_spec h.h.mac.b ⟨fun _ _ _ => rfl, .inr rfl, ?_⟩
 obtain ⟨y8, ey8, yn8, yr8, yc8⟩ := e8
 rw [ldG_of ey8 (by omega)]
 have c0 : (sub y8.c 0 4) 0 = .flat (.int .u32 (a : Int)) := by
  unfold sub; rw [if_pos (by omega), Nat.zero_add, yc8 0 (by omega)]; exact hb.v0
 refine bpage_spec c0 hu ⟨fun _ _ _ => rfl, ?_⟩
 refine mark_spec h.h.mac.b.r fun m93 h93 F93 => ?_
 have n8f : ¬ q.r.has b8 := fun t => n8 (.inl (.inr (BB.has t)))
 have nef : ¬ q.r.has e := fun t => h.h.mac.de (BB.has t)
 refine ⟨fun y hy hl => F93 y hl (by rcases hy with rfl | rfl; exact nef; exact n8f), ?_⟩
 have M93 : ∀ j, j < p → (putM M p ((a : Int) / 1024) true) j = true → C j = true := fun j hj t => by
  unfold putM at t
  split at t
  ·rename_i hc; exact hC j hc.2 hj
  ·exact h.h.mks j hj t
 have E93 : ES m0 C Y m93 e q c p S B (putM M p ((a : Int) / 1024) true) D wv n l Sc cap made used := ⟨h.h.upd2 ⟨h.h.mac.s.fr F93 nef, h.h.ok, h.h.mac.b.withR F93 h93, h.h.mac.de, h.h.mac.dw⟩ (fun _ _ => rfl) h.h.st (has_foot F93) h.h.mac.sx h.h.mac.sq (fun _ _ => rfl) M93, Fr.keeps h.K F93 fun x hx => h.f x (.inl (.inr (BB.has hx))), h.f⟩
 rw [show (0 : Nat) + 77 = 73 + 4 from rfl, tail_li (j := 4) E93.h.mac.s (by rw [E93.h.mac.sq]; decide) (by rw [E93.h.mac.sx]; rfl)]
 refine stX_st E93.h.mac.s (by rw [E93.h.mac.sq]; decide) fun m95 h95 O95 => ?_
 have E95 := E93.tail h95 rfl rfl rfl (by show upd S.x 4 _ = _; rw [E93.h.mac.sx, engX_3]) O95.fr1
 have F95 : Fr (ft e q wv Sc) m m95 := (F93.mono fun x _ hx => (.inl (.inr (BB.has hx)) : ft e q wv Sc x)).trans (O95.fr1.mono fun x _ hx => .inl (.inl hx))
 have ey95 : m95.obj b8 = some y8 := by rw [F95 b8 (by rw [ey8]; simp) n8]; exact ey8
 rw [ldG_of ey95 (by omega)]
 obtain ⟨y2, ey2, yn2, yr2⟩ := e2
 have ey295 : m95.obj b2 = some y2 := by rw [F95 b2 (by rw [ey2]; simp) n2]; exact ey2
 rw [stG_of ey295 yr2 (by omega)]
 have F97 : Fr (one1 b2) m95 (m95.set b2 { y2 with c := splice y2.c 0 4 (sub y8.c 0 4) }) := (Only.set _ _ _).fr1
 have E97 := E95.frY F97 (fun x hx => by have hx : x = b2 := hx; subst hx; exact hY2) (fun x hx t => n2 (by have t : x = b2 := t; subst t; exact hx)) fun x hx => by
  have hx : x = b2 := hx
  subst hx; exact n0
 refine hk _ _ _ E97 rfl rfl ⟨_, set_same _ _ _, yn2, yr2, fun j hj => ?_⟩ ?_
 ·simp only [splice, sub]
  rw [if_pos (by omega), if_pos (by omega)]
  simp
  exact yc8 j hj
 ·refine (hb.fr (T' := ft e q wv Sc) (m' := m95.set b2 _) ?_ fun x hx => .inl (.inl hx))
  exact (F95.mono fun x _ hx => (.inl hx : ft e q wv Sc x ∨ x = b2 ∨ x = b8)).trans (F97.mono fun x _ hx => .inr (.inl hx))
end
theorem rm_in {l : List (Key × Val)} {key : Key} {en : Key × Val} (h : en ∈ rm l key) : en ∈ l := (List.mem_filter.1 h).1
theorem putL_in {n : Int} {l : List (Key × Val)} {key : Key} {v : Val} {en : Key × Val} (h : en ∈ putL n l key v) : en ∈ l ∨ en = (key, v) := by
 unfold putL at h
 rcases List.mem_append.1 h with h | h
 ·left
  have := rm_in h
  split at this
  ·exact this
  split at this
  ·exact List.mem_of_mem_tail this
  ·exact this
 ·right; simpa using h
section
variable {m0 : Mem} {C : Nat → Bool} {m m' : Mem} {e : Nat} {q : BB} {c : Nat} {p : Nat} {S : St} {B : Nat → Int} {M : Nat → Bool} {D : Dv} {wv : AV} {n : Int} {l : List (Key × Val)} {Sc : Nat → Prop} {cap made used : Int}
theorem make_k {Y : Nat → Prop} {b2 b24 b35 a : Nat} (hp : p ≤ 64) (h : ES m0 C Y m e q c p S B M D wv n l Sc cap made used) (hY : ∀ x, Y x → m.obj x ≠ none) (y2 : Y b2) (y24 : Y b24) (y35 : Y b35) (a4 : (a : Int) % 4 = 0) (ar : (a : Int) < p * 1024) (hC : C ((a : Int) / 1024).toNat = true) (hW : PageOk B a) {key : Key} (hk24 : KeyB m b24 key) (ka : key.a = a)
  (e35 : ∃ y, m.obj b35 = some y ∧ y.n = 4 ∧ y.ro = false) (e2 : ∃ y, m.obj b2 = some y ∧ y.n = 4 ∧ y.ro = false) (n2 : ¬ ft e q wv Sc b2) (n24 : ¬ ft e q wv Sc b24) (n35 : ¬ ft e q wv Sc b35) (n2_35 : b2 ≠ b35) (n24_35 : b24 ≠ b35) (n02 : m0.obj b2 = none) (n035 : m0.obj b35 = none)
  {kr : Bool → Mem → Prop} (hk : ∀ m' S' M' kk v l' Sc' made' used', ES m0 C Y m' e q c p S' B M' D wv n l' Sc' cap made' used' → S'.n = S.n → S'.p = S.p → (∃ y, m'.obj b2 = some y ∧ y.n = 4 ∧ y.ro = false ∧ ∀ j, j < 4 → y.c j = v j) → Bk m' B v a kk (ft e q wv Sc') → Shape p B a kk → kr true m') :
  P41_9103 e 0 b2 0 a b24 0 b35 0 false m kr := by
 unfold P41_9103
 refine kif_t rfl ⟨fun y => y = e, rfl, ?_⟩
 have tl : ∀ {mm : Mem} {S1 : St} {B1 : Nat → Int} {M1 : Nat → Bool} {Y1 : Nat → Prop} {l1 Sc1 k1 u1}, ES m0 C Y1 mm e q c p S1 B1 M1 D wv n l1 Sc1 cap k1 u1 → ∀ k, ldA mm e (0 + 73) k = k (.ptr q.b 0) := fun E k => by
  rw [show (0 : Nat) + 73 = 73 + 0 from rfl]
  exact tail_ld (j := 0) E.h.mac.s E.h.q0 E.h.x0 rfl k
 have tc : ∀ {mm : Mem} {S1 : St} {B1 : Nat → Int} {M1 : Nat → Bool} {Y1 : Nat → Prop} {l1 Sc1 k1 u1}, ES m0 C Y1 mm e q c p S1 B1 M1 D wv n l1 Sc1 cap k1 u1 → ∀ k, ldA mm e (0 + 74) k = k (.ptr c 0) := fun E k => by
  rw [show (0 : Nat) + 74 = 73 + 1 from rfl]
  exact tail_ld (j := 1) E.h.mac.s (by rw [E.h.mac.sq]; decide) (by rw [E.h.mac.sx]; rfl) rfl k
 rw [tl h]
 dsimp only [kptr]
 refine ram_spec h.h.mac.b ⟨fun _ _ _ => rfl, rfl, ?_⟩
 rw [show (0 : Nat) + 75 = 73 + 2 from rfl, tail_li (j := 2) h.h.mac.s (by rw [h.h.mac.sq]; decide) (by rw [h.h.mac.sx]; rfl)]
 refine bfind_k h.h.mac.b.r (by omega) a4 ar hW fun c70 m72 kk b70 s70 K72 => ⟨fun y hy hl => K72 y hl, ?_⟩
 have h72 := h.keep K72
 obtain ⟨y35', ey35, yn35, yr35⟩ := e35
 have ey72 := (K72 b35 (by rw [ey35]; simp)).trans ey35
 rw [stG_of ey72 yr35 (by omega)]
 have nee : e ≠ b35 := fun t => n35 (.inl (.inl t.symm))
 generalize hm73 : m72.set b35 { y35' with c := splice y35'.c 0 4 c70 } = m73
 have F73 : Fr (one1 b35) m72 m73 := by rw [← hm73]; exact (Only.set _ _ _).fr1
 have E73 : ES m0 C Y m73 e q c p S B M D wv n l Sc cap made used := h72.frY F73 (fun x hx => by have hx : x = b35 := hx; subst hx; exact y35) (fun x hx t => n35 (by have t : x = b35 := t; subst t; exact hx)) fun x hx => by
  have hx : x = b35 := hx
  subst hx; exact n035
 have ey73 : ∃ y, m73.obj b35 = some y ∧ y.n = 4 ∧ y.ro = false ∧ ∀ j, j < 4 → y.c j = c70 j := by
  refine ⟨{ y35' with c := splice y35'.c 0 4 c70 }, by rw [← hm73]; exact set_same _ _ _, yn35, yr35, fun j hj => ?_⟩
  simp only [splice]
  rw [if_pos (by omega)]; rfl
 have k73 : KeyB m73 b24 key := (hk24.keep K72).fr F73 n24_35
 have b73 : Bk m73 B c70 a kk (fun x => m.obj x ≠ none) := b70.fr (F73.mono fun x _ hx => by
  have hx : x = b35 := hx
  subst hx; rw [ey35]; simp) fun x hx => .inl hx
 rw [tc E73]
 refine k73.lg fun c75 h75 => ?_
 obtain ⟨y7, ey7, yn7, yr7, yc7⟩ := ey73
 rw [ldG_of ey7 (by omega)]
 dsimp only [kptr]
 have cells76 : ∀ j, j < 4 → sub (sub y7.c 0 4) 0 4 j = c70 j := fun j hj => by
  simp only [sub, hj, if_true, Nat.zero_add]; exact yc7 j hj
 have au : isU (a : Int) := ⟨by omega, by omega⟩
 have vok : VOK (key, sub (sub y7.c 0 4) 0 4) := ⟨by
  show sub (sub y7.c 0 4) 0 4 0 = _
  rw [cells76 0 (by omega), ka]; exact b73.v0, by rw [ka]; exact au⟩
 refine put22 E73.h.mac.c h75 vok fun m79 Sc' c79 st79 => ?_
 obtain ⟨f79, g79⟩ := stp_ft (e := e) (q := q) (wv := wv) st79
 have liveY : ∀ x, Y x → m.obj x ≠ none := hY
 have ftl : ∀ x, ft e q wv Sc x → m.obj x ≠ none := fun x hx => ft_live h.h hx
 have liveM : ∀ x, m.obj x ≠ none → m73.obj x ≠ none := fun x hx => by
  by_cases t : x = b35
  ·subst t; rw [ey7]; simp
  ·rw [F73 x (by rw [K72 x hx]; exact hx) t, K72 x hx]; exact hx
 have Fsc : ∀ x, Sc x → m.obj x ≠ none := fun x hx => ftl x (.inr (.inr hx))
 have E79 : ES m0 C Y m79 e q c p S B M D wv n (putL n l key (sub (sub y7.c 0 4) 0 4)) Sc' cap made used := by
  refine E73.cache c79 st79 fun en hen => ?_
  rcases putL_in hen with hin | rfl
  ·obtain ⟨k1, b1, s1, c1⟩ := E73.h.blk en hin
   refine ⟨k1, b1.fr (f79.mono fun x _ hx => .inl hx) (fun x hx => ?_), s1, c1⟩
   rcases hx with hx | hx
   ·exact (g79 x hx).imp .inl id
   ·exact .inl (.inr hx)
  ·refine ⟨kk, ?_, ?_, ?_⟩
   ·show Bk m79 B (sub (sub y7.c 0 4) 0 4) key.a kk _
    rw [ka]
    refine (b73.congr cells76).fr (st79.fr.mono fun x _ hx => Fsc x hx) fun x hx => ?_
    rcases hx with hx | hx
    ·rcases g79 x hx with t | t
     ·exact .inl (ftl x t)
     ·exact .inr t
    ·exact .inl (liveY x hx)
   ·show Shape p B key.a kk
    rw [ka]; exact s70
   ·show C (key.a / 1024).toNat = true
    rw [ka]; exact hC
 have bn : Bk m79 B c70 a kk (fun x => ft e q wv Sc' x ∨ Y x) := b73.fr (st79.fr.mono fun x _ hx => Fsc x hx) fun x hx => by
  rcases hx with hx | hx
  ·rcases g79 x hx with t | t
   ·exact .inl (ftl x t)
   ·exact .inr t
  ·exact .inl (liveY x hx)
 have out : ∀ x, m.obj x ≠ none → ¬ ft e q wv Sc x → ¬ ft e q wv Sc' x := fun x hl hx t => (g79 x t).elim hx (liveM x hl)
 have l2 : m.obj b2 ≠ none := hY b2 y2
 have l35 : m.obj b35 ≠ none := hY b35 y35
 have o2 := out b2 l2 n2
 have o35 := out b35 l35 n35
 have ey79 : m79.obj b35 = some y7 := by rw [st79.fr b35 (by rw [ey7]; simp) fun t => n35 (.inr (.inr t))]; exact ey7
 obtain ⟨y2', ey2, yn2, yr2⟩ := e2
 have ey273 : m73.obj b2 = some y2' := by rw [F73 b2 (by rw [K72 b2 l2]; exact l2) n2_35, K72 b2 l2]; exact ey2
 have ey279 : m79.obj b2 = some y2' := by rw [st79.fr b2 (by rw [ey273]; simp) fun t => n2 (.inr (.inr t))]; exact ey273
 rw [show (0 : Nat) + 76 = 73 + 3 from rfl, tail_li (j := 3) E79.h.mac.s (by rw [E79.h.mac.sq]; decide) (by rw [E79.h.mac.sx]; rfl)]
 refine stX_st E79.h.mac.s (by rw [E79.h.mac.sq]; decide) fun m81 h81 O81 => ?_
 have E81 := E79.tail h81 rfl rfl rfl (by show upd S.x 3 _ = _; rw [E79.h.mac.sx, engX_2]) O81.fr1
 have ne2 : b2 ≠ e := fun t => n2 (.inl (.inl t))
 have F81 : Fr (ft e q wv Sc') m79 m81 := O81.fr1.mono fun x _ hx => .inl (.inl hx)
 refine fin_k (v := c70) (kk := kk) E81 (fun j hj hjp => ?_) au ⟨y7, by rw [O81 b35 fun t => nee t.symm]; exact ey79, yn7, yr7, yc7⟩ o35 ⟨y2', by rw [O81 b2 ne2]; exact ey279, yn2, yr2⟩ o2 n02 y2 ?_ fun m' S' M' E' en ep ex hb' => hk m' S' M' kk c70 _ _ _ _ E' en ep ex hb' s70
 ·have : ((a : Int) / 1024).toNat = j := by omega
  rw [← this]; exact hC
 ·refine bn.fr (F81.mono fun x _ hx => .inl hx) fun x hx => ?_
  rcases hx with hx | hx | hx
  ·exact .inl (.inl hx)
  ·exact .inl (.inr (by rw [hx]; exact y2))
  ·exact .inl (.inr (by rw [hx]; exact y35))
theorem find_k_T (hp : p ≤ 64) (h : ES m0 C (fun _ => False) m e q c p S B M D wv n l Sc cap made used) (pl : Place C p B S) {k : (Nat → AV) → Bool → Mem → Prop}
  (hno : ((liesS S (S.n 34) 4 false).2.1 ≠ -1 ∨ ¬ (liesS S (S.n 34) 4 false).1 < p * 1024) → ∀ c2 m', ES m0 C (fun _ => False) m' e q c p S B M D wv n l Sc cap made used → k c2 false m')
  (hyes : ∀ (a : Nat) r kk c2 m' S' M' l' Sc' made' used', liesS S (S.n 34) 4 false = ((a : Int), -1, r) → (a : Int) < p * 1024 → ES m0 C (fun _ => False) m' e q c p S' B M' D wv n l' Sc' cap made' used' → S'.n = S.n → S'.p = S.p → Bk m' B c2 a kk (ft e q wv Sc') → Shape p B a kk → k c2 true m') : F41 e 0 m k := by
 unfold F41
 refine newK_i fun b2 m1 hb2 K1 e1 O1 => ?_
 have h1 := h.addY hb2 K1
 have n2 : ¬ ft e q wv Sc b2 := fun t => ft_live h.h t hb2
 have n02 : m0.obj b2 = none := newK_none h.K hb2
 have tl : ∀ {mm : Mem} {S1 : St} {B1 : Nat → Int} {M1 : Nat → Bool} {Y1 : Nat → Prop} {l1 Sc1 k1 u1}, ES m0 C Y1 mm e q c p S1 B1 M1 D wv n l1 Sc1 cap k1 u1 → ∀ k, ldA mm e (0 + 73) k = k (.ptr q.b 0) := fun E k => by
  rw [show (0 : Nat) + 73 = 73 + 0 from rfl]
  exact tail_ld (j := 0) E.h.mac.s E.h.q0 E.h.x0 rfl k
 have tc : ∀ {mm : Mem} {S1 : St} {B1 : Nat → Int} {M1 : Nat → Bool} {Y1 : Nat → Prop} {l1 Sc1 k1 u1}, ES m0 C Y1 mm e q c p S1 B1 M1 D wv n l1 Sc1 cap k1 u1 → ∀ k, ldA mm e (0 + 74) k = k (.ptr c 0) := fun E k => by
  rw [show (0 : Nat) + 74 = 73 + 1 from rfl]
  exact tail_ld (j := 1) E.h.mac.s (by rw [E.h.mac.sq]; decide) (by rw [E.h.mac.sx]; rfl) rfl k
 rw [show (0 : Nat) + 0 + 34 = 34 from rfl, ldI_st h1.h.mac.s (by omega) rfl]
 have pu := h.h.ok.1 34 (by omega)
 refine seg_spec h1.h.mac.s pu.1 pu.2 ?_
 have none1 : ((liesS S (S.n 34) 4 false).2.1 ≠ -1 ∨ ¬ (liesS S (S.n 34) 4 false).1 < p * 1024) → (stG 4 m1 b2 0 (lget [(.flat (.int .u32 0)), (.flat (.slice none 0 0)), (.flat (.slice none 0 0)), (.flat (.slice none 0 0))]) fun m17 => ldG 4 m17 b2 0 fun c106 => k c106 false m17) := fun hh => by
  rw [stG_of e1 rfl (by show 0 + 4 ≤ 4; omega), ldG_of (set_same _ _ _) (by show 0 + 4 ≤ 4; omega)]
  refine hno hh _ _ ((h1.frY (Only.set _ _ _).fr1 (fun x hx => .inr hx) (fun x hx t => n2 (by have t : x = b2 := t; subst t; exact hx)) fun x hx => ?_).subY fun x hx => hx.elim)
  have hx : x = b2 := hx
  subst hx; exact n02
 refine kif_c _ (fun c1 => none1 (.inl (by simpa using c1))) fun c1 => ?_
 have c1 : (liesS S (S.n 34) 4 false).2.1 = -1 := by simpa using c1
 rw [tl h1]
 dsimp only [kptr]
 refine ram_spec h1.h.mac.b ?_
 dsimp only
 refine size_spec h1.h.mac.b.r (kif_c _ (fun c2 => none1 (.inr (by simp at c2; omega))) fun c2 => ?_)
 have c2 : (liesS S (S.n 34) 4 false).1 < p * 1024 := by simp at c2; omega
 obtain ⟨av, cv, rv, hL⟩ : ∃ av cv rv, liesS S (S.n 34) 4 false = (av, cv, rv) := ⟨_, _, _, rfl⟩
 rw [hL] at c1 c2 hyes ⊢
 dsimp only at c1 c2 ⊢
 subst c1
 obtain ⟨ha4, ha0⟩ := lies_a4 h.h.ok pu.1 pu.2 hL
 obtain ⟨hC, hW⟩ := pl.k av rv hL c2
 obtain ⟨a, rfl⟩ : ∃ a : Nat, av = a := ⟨av.toNat, by omega⟩
 refine ⟨fun y => y = e, mode_spec h1.h.mac.s ⟨fun _ _ _ => rfl, rfl, ?_⟩⟩
 rw [show (0 : Nat) + 75 = 73 + 2 from rfl, tail_li (j := 2) h1.h.mac.s (by rw [h1.h.mac.sq]; decide) (by rw [h1.h.mac.sx]; rfl)]
 refine boxN fun b24 m25 y24 hb24 K25 e24 yn24 yr24 yc24 => ?_
 have h25 := h1.addY hb24 K25
 have n24 : ¬ ft e q wv Sc b24 := fun t => ft_live h1.h t hb24
 have k24 : KeyB m25 b24 ⟨a, modeS S, cap⟩ := ⟨y24, e24, yn24, yr24, (yc24 0 (by omega)).trans rfl, (yc24 1 (by omega)).trans rfl, (yc24 2 (by omega)).trans rfl⟩
 have e225 : m25.obj b2 = some ⟨4, lget [(.flat (.int .u32 0)), (.flat (.slice none 0 0)), (.flat (.slice none 0 0)), (.flat (.slice none 0 0))], 85, false⟩ := by rw [K25 b2 (by rw [e1]; simp)]; exact e1
 have nee24 : e ≠ b24 := fun t => n24 (.inl (.inl t.symm))
 refine ⟨fun y => y = e ∨ y = b24, .inl rfl, ?_⟩
 rw [tc h25]
 refine ⟨.inr rfl, k24.lg fun c28 h28 => ?_⟩
 dsimp only [kptr]
 have nsc : ∀ y, (y = e ∨ y = b24) → ¬ Sc y := fun y hy t => by
  rcases hy with rfl | rfl
  ·exact h.h.mac.ce t
  ·exact n24 (.inr (.inr t))
 -- what is done at the end
 have fin : ∀ (Sc1 : Nat → Prop) (l1 : List (Key × Val)) (m36 m' : Mem) (b35 : Nat) (S' : St) (M' : Nat → Bool) (kk : Nat) (v : Nat → AV) (l' : List (Key × Val)) (Sc' : Nat → Prop) (made' used' : Int) (Y : Nat → Prop), ES m0 C Y m' e q c p S' B M' D wv n l' Sc' cap made' used' → S'.n = S.n → S'.p = S.p → (∃ y, m'.obj b2 = some y ∧ y.n = 4 ∧ y.ro = false ∧ ∀ j, j < 4 → y.c j = v j) → Bk m' B v a kk (ft e q wv Sc') → Shape p B a kk → ldG 4 m' b2 0 fun c108 => k c108 true m' := fun Sc1 l1 m36 m' b35 S' M' kk v l' Sc' made' used' Y E' en ep ex hb' hs' => by
  obtain ⟨y, ey, yn, yr, yc⟩ := ex
  rw [ldG_of ey (by omega)]
  refine hyes a rv kk _ m' S' M' l' Sc' made' used' rfl c2 (E'.subY fun x hx => hx.elim) en ep (hb'.congr fun j hj => ?_) hs'
  unfold sub; rw [if_pos hj, Nat.zero_add]; exact yc j hj
 refine get22 h25.h.mac.c h28 (fun v c31 m33 Sc' hin hcv c33 st33 => ⟨fun y hy hl => st33.fr y hl (nsc y hy), ?_⟩) fun hnin c31 m33 c33 st33 => ⟨fun y hy hl => st33.fr y hl (nsc y hy), ?_⟩
 ·obtain ⟨f33, g33⟩ := stp_ft (e := e) (q := q) (wv := wv) st33
  have nb : ∀ en ∈ rm l ⟨a, modeS S, cap⟩ ++ [(⟨a, modeS S, cap⟩, v)], en ∈ l := fun en hen => by
   rcases List.mem_append.1 hen with t | t
   ·exact rm_in t
   ·have t : en = (⟨a, modeS S, cap⟩, v) := by simpa using t
    rw [t]; exact hin
  have moved : ∀ {vv : Nat → AV} {aa : Int} {k1 : Nat}, Bk m25 B vv aa k1 (fun x => ft e q wv Sc x ∨ (((fun _ => False) x ∨ x = b2) ∨ x = b24)) → Bk m33 B vv aa k1 (fun x => ft e q wv Sc' x ∨ (((fun _ => False) x ∨ x = b2) ∨ x = b24)) := fun b1 =>
   b1.fr (f33.mono fun x _ hx => .inl hx) fun x hx => by
    rcases hx with hx | hx
    ·exact (g33 x hx).imp .inl id
    ·exact .inl (.inr hx)
  have h33 : ES m0 C (fun x => ((fun _ => False) x ∨ x = b2) ∨ x = b24) m33 e q c p S B M D wv n (rm l ⟨a, modeS S, cap⟩ ++ [(⟨a, modeS S, cap⟩, v)]) Sc' cap made used := h25.cache c33 st33 fun en hen => by
   obtain ⟨k1, b1, s1, c1⟩ := h25.h.blk en (nb en hen)
   exact ⟨k1, moved b1, s1, c1⟩
  obtain ⟨kk, bk25, sk, ck⟩ := h25.h.blk _ hin
  have bk33 := moved bk25
  refine boxN fun b35 m36 y35 hb35 K36 e35 yn35 yr35 yc35 => ⟨fun y => y = b35 ∨ y = e, kif_t rfl ⟨.inl rfl, ?_⟩⟩
  have h36 := h33.addY hb35 K36
  have n35 : ¬ ft e q wv Sc' b35 := fun t => ft_live h33.h t hb35
  have out : ∀ x, m25.obj x ≠ none → ¬ ft e q wv Sc x → ¬ ft e q wv Sc' x := fun x hl hx t => (g33 x t).elim hx hl
  have n2' : ¬ ft e q wv Sc' b2 := out b2 (by rw [e225]; simp) n2
  have e233 := (st33.fr b2 (by rw [e225]; simp) fun t => n2 (.inr (.inr t))).trans e225
  have e236 := (K36 b2 (by rw [e233]; simp)).trans e233
  have bk36 : Bk m36 B v a kk (fun x => ft e q wv Sc' x ∨ x = b2 ∨ x = b35) := bk33.fr (K36.fr _) fun x hx => by
   rcases hx with hx | hx | hx
   ·exact .inl (.inl hx)
   ·exact .inl (.inr (.inl (.inr hx)))
   ·exact .inr (by rw [hx]; exact hb35)
  have yv : ∀ j, j < 4 → y35.c j = v j := fun j hj => (yc35 j hj).trans (hcv j hj)
  rw [ldG_of e35 (by omega)]
  refine ⟨.inr rfl, ?_⟩
  rw [tl h36]
  dsimp only [kptr]
  refine ram_spec h36.h.mac.b ⟨fun _ _ _ => rfl, ?_⟩
  have bk38 : Bk m36 B (sub y35.c 0 4) a kk (fun x => ft e q wv Sc' x ∨ x = b2 ∨ x = b35) := bk36.congr fun j hj => by
   unfold sub; rw [if_pos hj, Nat.zero_add]; exact yv j hj
  dsimp only
  refine bsame_k h36.h.mac.b.r bk38 sk ⟨fun _ _ _ => rfl, ?_⟩
  unfold P41_7004
  refine kif_f rfl ?_
  unfold P41_9103
  refine kif_f rfl ?_
  refine fin_k (v := v) (kk := kk) h36 (fun j hj hjp => ?_) (by unfold isU; omega) ⟨y35, e35, yn35, yr35, yv⟩ n35 ⟨⟨4, lget [(.flat (.int .u32 0)), (.flat (.slice none 0 0)), (.flat (.slice none 0 0)), (.flat (.slice none 0 0))], 85, false⟩, e236, rfl, rfl⟩ n2' n02 (.inl (.inl (.inr rfl))) bk36 fun m' S' M' E' en ep ex hb' => fin Sc' l m36 m' b35 S' M' kk v _ Sc' _ _ _ E' en ep ex hb' sk
  have : ((a : Int) / 1024).toNat = j := by omega
  rw [← this]; exact hC
 ·obtain ⟨f33, g33⟩ := stp_ft (e := e) (q := q) (wv := wv) st33
  have h33 : ES m0 C (fun x => ((fun _ => False) x ∨ x = b2) ∨ x = b24) m33 e q c p S B M D wv n l Sc cap made used := h25.cache c33 st33 fun en hen => by
   obtain ⟨k1, b1, s1, c1⟩ := h25.h.blk en hen
   exact ⟨k1, b1.fr (f33.mono fun x _ hx => .inl hx) (fun x hx => .inl hx), s1, c1⟩
  refine boxN fun b35 m36 y35 hb35 K36 e35 yn35 yr35 yc35 => ⟨fun _ => False, kif_f rfl ?_⟩
  have h36 := h33.addY hb35 K36
  have n35 : ¬ ft e q wv Sc b35 := fun t => ft_live h33.h t hb35
  unfold P41_7004
  refine kif_f rfl ?_
  have k33 : KeyB m33 b24 ⟨a, modeS S, cap⟩ := k24.fr st33.fr (nsc b24 (.inr rfl))
  have e233 := (st33.fr b2 (by rw [e225]; simp) fun t => n2 (.inr (.inr t))).trans e225
  have e236 := (K36 b2 (by rw [e233]; simp)).trans e233
  have l24 : m36.obj b24 ≠ none := (k33.keep K36).live
  refine make_k hp h36 (fun x hx => ?_) (.inl (.inl (.inr rfl))) (.inl (.inr rfl)) (.inr rfl) ha4 c2 hC hW (k33.keep K36) rfl ⟨y35, e35, yn35, yr35⟩ ⟨_, e236, rfl, rfl⟩ n2 n24 n35 (fun t => by subst t; rw [e233] at hb35; simp at hb35) (fun t => k33.live (t ▸ hb35)) n02 (newK_none h33.K hb35) fun m' S' M' kk v l' Sc' made' used' E' en ep ex hb' hs' => fin Sc l m36 m' b35 S' M' kk v l' Sc' made' used' _ E' en ep ex hb' hs'
  rcases hx with ((hx | hx) | hx) | hx
  ·exact hx.elim
  ·rw [hx, e236]; simp
  ·rw [hx]; exact l24
  ·rw [hx, e35]; simp
end
theorem sp_n (S : St) {i : Nat} (h : i < 49 ∨ i = 50 ∨ (51 < i ∧ i < 55) ∨ 71 ≤ i) (v : Int) : Sp S (S.putN i v) :=
 ⟨(putN_other S v (by omega)).symm, (putN_other S v (by omega)).symm, fun j h1 h2 => (putN_other S v (by omega)).symm⟩
theorem sp_p (S : St) (i : Nat) (v : Bool) : Sp S (S.putP i v) := ⟨rfl, rfl, fun _ _ _ => rfl⟩
theorem sp_go (S : St) : Sp S (goS S 1).1 := by
 unfold goS
 split
 ·exact .refl _
 have h := (sp_n S (i := 72) (by omega) (IntKind.wrap .i64 (S.n 72 + 1))).trans (sp_n _ (i := 48) (by omega) (IntKind.wrap .u32 (S.n 48 + IntKind.wrap .u32 1)))
 split
 ·exact h.trans (sp_n _ (by omega) _)
 ·exact h
theorem sp_line (S : St) (b : Bool) : Sp S (lineS S b) := by unfold lineS; split <;> exact sp_n _ (by omega) _
theorem sp_set (S : St) {n v : Int} (h : n < 32) : Sp S (setS S n v) := by
 unfold setS; split
 ·exact .refl _
 ·exact sp_n _ (by omega) _
theorem sp_on (S : St) {x : In} (hx : FX x) (a t : Int) : Sp S (onS S x a t) := by
 unfold onS
 dsimp only
 have h1 : Sp S ((S.putN 34 (S.n 35)).putN 35 (IntKind.wrap .u32 (S.n 35 + 4))) := (sp_n S (by omega) _).trans (sp_n _ (by omega) _)
 have h3 : ∀ T : St, Sp S T → Sp S (if x.k = 8 then setS (T.putP 36 (classS x.k == 3)) x.d (IntKind.wrap .u32 (S.n 34 + 8)) else T.putP 36 (classS x.k == 3)) := fun T h => by
  split
  ·exact (h.trans (sp_p _ _ _)).trans (sp_set _ hx.d1)
  ·exact h.trans (sp_p _ _ _)
 refine h3 _ ?_
 split
 ·exact h1.trans (sp_n _ (i := 35) (by omega) (targetB x (S.n 34) a))
 ·exact h1
theorem sp_lift (S : St) (x : In) : Sp S (liftX S x) := by
 unfold liftX
 have h0 : Sp S (liftS S (opsOf x)) := by
  refine ⟨?_, ?_, fun i h1 h2 => ?_⟩
  ·show S.n 49 = if (49 : Nat) < 34 then run18 (rg S) (opsOf x) 49 else S.n 49
   rw [if_neg (by omega)]
  ·show S.n 51 = if (51 : Nat) < 34 then run18 (rg S) (opsOf x) 51 else S.n 51
   rw [if_neg (by omega)]
  ·show S.n i = if i < 34 then run18 (rg S) (opsOf x) i else S.n i
   rw [if_neg (by omega)]
 refine ((h0.trans (sp_go _)).trans ?_).trans (sp_line _ _)
 unfold advS
 exact ((sp_n _ (by omega) _).trans (sp_n _ (by omega) _)).trans (sp_p _ _ _)
theorem sp_exec {p : Nat} {B : Nat → Int} {S : St} {x : In} (hx : FX x) (hc : (execS p B S x).2.2 = -1) (h6 : classS x.k ≠ 6) : Sp S (execS p B S x).1 := by
 unfold execS at hc ⊢
 dsimp only at hc ⊢
 split at hc
 ·rename_i h
  exact absurd hc h
 rename_i h1
 rw [if_neg h1]
 split at hc
 ·rename_i h
  exact absurd hc h
 rename_i h2
 rw [if_neg h2]
 have ha : Sp S (actS p B S x).1 := by
  have h2' : (actS p B S x).2.2.1 = -1 := by simpa using h2
  unfold actS at h2' ⊢
  split at h2'
  ·rename_i c4
   rw [if_pos c4]
   unfold loadS at h2' ⊢
   dsimp only at h2' ⊢
   split at h2'
   ·rename_i h; exact absurd h2' h
   rename_i h; rw [if_neg h]
   split
   ·refine Sp.trans ?_ (sp_set _ hx.t1)
    split
    ·exact (sp_p _ _ _).trans (sp_n _ (by omega) _)
    ·exact .refl _
   ·exact .refl _
  rename_i c4
  rw [if_neg c4]
  split at h2'
  ·rename_i c5
   rw [if_pos c5]
   unfold storeS at h2' ⊢
   dsimp only at h2' ⊢
   split at h2'
   ·rename_i h; exact absurd h2' h
   rename_i h; rw [if_neg h]
   split
   ·exact (sp_set _ hx.t1).trans (sp_p _ _ _)
   split
   ·have : Sp S (if x.k = 75 then setS S x.t 1 else S) := by
     split
     ·exact sp_set _ hx.t1
     ·exact .refl _
    dsimp only
    generalize (if x.k = 75 then setS S x.t 1 else S) = S1 at this ⊢
    split
    ·exact this.trans (sp_p _ _ _)
    ·exact this
   ·exact .refl _
  rename_i c5
  rw [if_neg c5, if_neg h6]
  show Sp S (plainX S x)
  unfold plainX
  split
  ·exact sp_set _ hx.t1
  ·exact .refl _
 refine ha.trans ?_
 show Sp (actS p B S x).1 (goonS (actS p B S x).1 x (S.n x.s.toNat) (S.n x.t.toNat))
 unfold goonS
 refine Sp.trans ?_ (sp_line _ _)
 split
 ·exact sp_go _
 ·exact (sp_go _).trans (sp_on _ hx _ _)
theorem wrote_wt {p : Nat} {B : Nat → Int} {S T : St} (h : wrote p B (S.wt T)) : wrote p B S := by
 obtain ⟨h1, h2, h3, h4, h5, h6, h7⟩ := h
 refine ⟨h1, h2, h3, h4, h5, h6, ?_⟩
 have e1 : ∀ U : St, actS p B U (instS B S) = storeS p B U (instS B S) := fun U => by
  have h5 : classS (instS B S).k = 5 := h5
  unfold actS; rw [h5]; rfl
 have e2 := wt_act p B S T (instS B S)
 rw [e1, e1] at e2
 have h7 : (storeS p B (S.wt T) (instS B S)).2.2.1 = -1 := h7
 rw [e2] at h7
 exact h7
structure StepC (C : Nat → Bool) (p : Nat) (D : Dv) (S : St) (B : Nat → Int) (S' : St) (B' : Nat → Int) : Prop where
 c : Calm S
 r0 : S.n 0 = 0
 due : dueD D (S.n 72) = false
 pl : Place C p B S
 cod : Cod C B B'
 st : (Good p B S ∧ (stepS p B S).1 = S' ∧ (stepS p B S).2.1 = B' ∧ (wrote p B S → ∀ j : Nat, (j : Int) = wrA B S / 1024 → C j = false)) ∨
  (takenS S = false ∧ S.p 36 = false ∧ (∃ a r, liesS S (S.n 34) 4 false = (a, -1, r) ∧ a < p * 1024) ∧ plainS (instS B S) = true ∧ S' = liftX S (instS B S) ∧ B' = B)
theorem St.as {S S1 : St} (hn : S1.n = S.n) (hp : S1.p = S.p) : S1 = S.wt S1 := St.ext (fun i => by rw [hn]; rfl) (fun i => by rw [hp]; rfl)
section
variable {m0 : Mem} {C : Nat → Bool} {e : Nat} {q : BB} {c : Nat} {p : Nat} {D : Dv} {wv : AV} {n : Int} {cap : Int}
def At (m0 : Mem) (C : Nat → Bool) (e : Nat) (q : BB) (c p : Nat) (D : Dv) (wv : AV) (n cap : Int) (l : List (Key × Val)) (Sc : Nat → Prop) (made used : Int) (S : St) (B : Nat → Int) (m : Mem) : Prop :=
 ∃ S1 M u, S1.n = S.n ∧ S1.p = S.p ∧ ES m0 C (fun _ => False) m e q c p S1 B M { D with up := u } wv n l Sc cap made used
variable {m : Mem} {l : List (Key × Val)} {Sc : Nat → Prop} {made used : Int} {S S' : St} {B B' : Nat → Int}
theorem At.keep {m' : Mem} (h : At m0 C e q c p D wv n cap l Sc made used S B m) (K : Keeps m m') : At m0 C e q c p D wv n cap l Sc made used S B m' := by
 obtain ⟨S1, M, u, a, b, E⟩ := h
 exact ⟨S1, M, u, a, b, E.keep K⟩
theorem At.sync (h : At m0 C e q c p D wv n cap l Sc made used S B m) {k : Mem → Prop} (hk : ∀ m', At m0 C e q c p D wv n cap l Sc made used S B m' → Fr (foot e q) m m' → k m') : F39 e 0 m k := by
 obtain ⟨S1, M, u, a, b, E⟩ := h
 exact sync_k E.h fun m' E' F' => hk m' ⟨S1, M, u, a, b, E', Fr.keeps E.K F' fun x hx => E.f x (.inl hx), E.f⟩ F'
theorem noW {a nn : Int} {M : Nat → Bool} (hM : ∀ j, j < p → M j = true → C j = true) (hev : evenR p a nn) (hC : ∀ j : Nat, (j : Int) = a / 1024 → C j = false) : ∀ j, j < p → tW M (fun _ => false) a nn j = false := fun j hj => by
 unfold tW
 simp only [Bool.false_or]
 cases hm : M j with
 | false => rfl
 | true =>
  rw [Bool.true_and]
  refine decide_eq_false fun ⟨h1, h2, h3⟩ => ?_
  obtain ⟨e1, e2, _⟩ := hev
  have : (j : Int) = a / 1024 := by rcases e1 with rfl | rfl | rfl <;> omega
  have := hC j this
  rw [hM j hj hm] at this; simp at this
theorem At.exec {S1 S2 : St} {M W' : Nat → Bool} {u : Int} {m' : Mem} (hn : S1.n = S.n) (hp : S1.p = S.p) (E : ES m0 C (fun _ => False) m e q c p S1 B M { D with up := u } wv n l Sc cap made used) {u' : Int} (h' : Cpu m' e q p S2 B' M W' { D with up := u' } wv) (hW : ∀ j, j < p → W' j = false) (e1 : S2 = S'.wt S1) (F : Fr (foot e q) m m') (cod : Cod C B B') :
  At m0 C e q c p D wv n cap l Sc made used S' B' m' := by
 refine ⟨S2, M, u', by rw [e1]; rfl, by rw [e1]; rfl, E.upd h' hW ⟨E.h.st.uc, E.h.st.en⟩ F ?_ cod⟩
 rw [e1]; exact ⟨rfl, rfl⟩
theorem code_2 {S : St} {B : Nat → Int} : (stepS p B S).2.2 ≠ -2 := by
 have le : ∀ x, (execS p B S x).2.2 ≠ -2 := fun x => by
  unfold execS
  have r := ref_rng S x
  have ac := act_c p B S x
  dsimp only
  split
  ·dsimp only; omega
  split
  ·dsimp only; omega
  ·dsimp only; omega
 unfold stepS
 have lc := lies_c (S := S) (va := S.n 34) (n := 4) (t := false)
 dsimp only
 split
 ·dsimp only; omega
 split
 ·dsimp only; omega
 split
 ·exact le _
 ·dsimp only; omega
theorem At.step (h : At m0 C e q c p D wv n cap l Sc made used S B m) (g : StepC C p D S B S' B') (hg : Good p B S ∧ (stepS p B S).1 = S' ∧ (stepS p B S).2.1 = B' ∧ (wrote p B S → ∀ j : Nat, (j : Int) = wrA B S / 1024 → C j = false)) {k : Int → Mem → Prop} (hk : ∀ cd m', cd ≠ -2 → At m0 C e q c p D wv n cap l Sc made used S' B' m' → k cd m') : F43 e 0 q.b 0 m k := by
 obtain ⟨S1, M, u, hn, hp, E⟩ := h
 obtain ⟨g1, g2, g3, g4⟩ := hg
 have eS := St.as hn hp
 have st1 : stepS p B S1 = ((stepS p B S).1.wt S1, (stepS p B S).2) := by rw [eS]; exact wt_step p B S _
 have G1 : Good p B S1 := by rw [eS]; exact g1.wt S1
 have d1 : dueD { D with up := u } (S1.n 72) = false := by rw [hn]; exact g.due
 refine step_k E.h.cpu E.h.st G1 d1 fun m' W' u' h' hW F' => ?_
 rw [st1] at h' ⊢
 refine hk _ m' code_2 (At.exec hn hp E (u' := u') (B' := B') (S' := S') (by rw [← g3]; exact h') (fun j hj => ?_) (by rw [g2]) F' g.cod)
 rcases hW with rfl | ⟨w, rfl⟩
 ·rfl
 ·have ew : wrote p B S := by
   have : wrote p B (S.wt S1) := by rw [← eS]; exact w
   exact wrote_wt this
  refine noW (p := p) (C := C) E.h.mks w.2.2.2.2.2.1 (fun j2 hj2 => g4 ew j2 ?_) j hj
  rw [eS] at hj2; exact hj2
end
section
variable {m0 : Mem} {C : Nat → Bool} {e : Nat} {q : BB} {c : Nat} {p : Nat} {D : Dv} {wv : AV} {n : Int} {cap : Int}
variable {m : Mem} {l : List (Key × Val)} {Sc : Nat → Prop} {made used : Int} {S S' : St} {B B' : Nat → Int}
theorem step_exec {a : Int} {r : Bool} (nt : takenS S = false) (hL : liesS S (S.n 34) 4 false = (a, -1, r)) (hev : evenR p a 4) : stepS p B S = execS p B S (ofS (wdB B a 4)) := by
 unfold stepS
 rw [nt, hL]
 dsimp only
 rw [if_neg (by simp), if_neg (by simp), if_pos hev]
theorem At.do (hp : p ≤ 64) (h : At m0 C e q c p D wv n cap l Sc made used S B m) (g : StepC C p D S B S' B') (nt : takenS S = false) {a : Int} {r : Bool} (hL : liesS S (S.n 34) 4 false = (a, -1, r)) (hev : evenR p a 4) {c2 : Nat → AV} {v : AV} (hc : InC c2 (ofS (wdB B a 4))) (hv : IsOps m v (optS (opsOf (ofS (wdB B a 4))))) (nv : ¬ own v e) (ho : ∀ o ∈ opsOf (ofS (wdB B a 4)), OpK o)
  {k : Bool → Mem → Prop} (hk : ∀ fl m', At m0 C e q c p D wv n cap l Sc made used S' B' m' → Fr (foot e q) m m' → (fl = true → Sp S S') → k fl m') : F71 e 0 c2 v m k := by
 unfold F71
 obtain ⟨S1, M, u, hn, hpp, E⟩ := h
 have eS := St.as hn hpp
 refine newI hc fun b2 m1 hb2 K1 i2 O1 => i2.lg fun c3 h3 => ?_
 generalize hx : ofS (wdB B a 4) = x at *
 have hx0 : 0 ≤ x.i := by rw [← hx]; exact of_i (ldv_u _ _).1
 have eI : instS B S = x := by unfold instS; rw [hL]; exact hx
 have E1 := E.keep K1
 have okS : S.ok := by
  have := E.h.ok
  unfold St.ok at this ⊢
  rw [← hn]; exact this
 have sx : stepS p B S = execS p B S x := by rw [← hx]; exact step_exec nt hL hev
 refine lift_is h3 hx0 (kif_c _ (fun cp => ?_) fun cp => ?_)
 · -- by its operations
  obtain ⟨e1, e2⟩ : S' = liftX S x ∧ B' = B := by
   rcases g.st with ⟨gg, g2, g3, _⟩ | ⟨_, _, _, _, g5, g6⟩
   ·rw [sx] at g2 g3
    have hh := gg.x nt (by rw [hL]) (by rw [hL]; exact hev)
    rw [eI] at hh
    have ex := exec_lift (p := p) (B := B) hh.1 cp g.r0 okS hh.2.z
    rw [ex] at g2 g3
    exact ⟨g2.symm, g3.symm⟩
   ·rw [eI] at g5; exact ⟨g5, g6⟩
  obtain ⟨len2, _⟩ := ops_ok (x := x) hx0
  refine liftE_spec E1.h.cpu E1.h.st (by rw [hn]; exact g.r0) (l := opsOf x) (by omega) ho (hv.keep K1) nv (fun m' h' F' => ?_) E1.h.q0 E1.h.x0
  have e3 : lineS (advS (goS (liftS S1 (opsOf x)) 1).1) false = (liftX S x).wt S1 := by
   show liftX S1 x = _
   have := wt_liftX S S1 x
   rw [← eS] at this
   exact this
  rw [e3] at h'
  refine hk true m' (At.exec hn hpp E1 (u' := u) (S' := S') (B' := B') (by rw [e2]; exact h') (fun _ _ => rfl) (by rw [e1]) (one_foot F') g.cod) (Fr.key K1 (one_foot F')) fun _ => by rw [e1]; exact sp_lift _ _
 ·rcases g.st with ⟨gg, g2, g3, g4⟩ | ⟨_, _, _, g4, _, _⟩
  rotate_left
  ·rw [eI, cp] at g4; cases g4
  have hh := gg.x nt (by rw [hL]) (by rw [hL]; exact hev)
  rw [eI] at hh
  have tl : ∀ k, ldA m1 e (0 + 73) k = k (.ptr q.b 0) := fun k => by
   rw [show (0 : Nat) + 73 = 73 + 0 from rfl]
   exact tail_ld (j := 0) E1.h.mac.s E1.h.q0 E1.h.x0 rfl k
  rw [tl]
  refine i2.lg fun c8 h8 => ?_
  dsimp only [kptr]
  have we : execS p B S1 x = ((execS p B S x).1.wt S1, (execS p B S x).2) := by
   have := wt_exec p B S S1 x
   rw [← eS] at this
   exact this
  have ok1 : Okx p S1 x := by rw [eS]; exact hh.2.wt S1
  refine exec_k E1.h.cpu E1.h.st h8 hh.1 ok1 fun m12 W' h12 hW F12 => ?_
  rw [we] at h12 ⊢
  rw [sx] at g2 g3
  have A12 : At m0 C e q c p D wv n cap l Sc made used S' B' m12 := by
   refine At.exec hn hpp E1 (u' := u) (S' := S') (B' := B') (by rw [← g3]; exact h12) (fun j hj => ?_) (by rw [g2]) F12 g.cod
   rcases hW with rfl | ⟨w, rfl⟩
   ·rfl
   ·have w2 : wrote p B (S.wt S1) := ⟨nt, by show (liesS S (S.n 34) 4 false).2.1 = -1; rw [hL], by show evenR p (liesS S (S.n 34) 4 false).1 4; rw [hL]; exact hev, by
     rw [eS] at w
     have : instS B (S.wt S1) = x := eI
     rw [this]; exact w⟩
    have ew := wrote_wt w2
    have hc4 := g4 ew
    refine noW (p := p) (C := C) E1.h.mks w.2.2.1 (fun j2 hj2 => hc4 j2 ?_) j hj
    rw [eS] at hj2
    have : wrA B S = (liesS S (vaS S x) (sizeS x.k) true).1 := by unfold wrA; rw [eI]
    rw [this]; exact hj2
  have nb2 : ¬ foot e q b2 := fun t => ft_live E.h (.inl t) hb2
  refine At.sync A12 fun m13 A13 F13 => ?_
  have F013 : Fr (foot e q) m m13 := Fr.key K1 (F12.trans F13)
  refine kif_c _ (fun c1 => ?_) fun c1 => hk false m13 A13 F013 fun t => by cases t
  have c1 : (execS p B S x).2.2 = -1 := by simpa using c1
  have i13 : InB m13 b2 x := by
   obtain ⟨y, ey, rr⟩ := i2
   exact ⟨y, by rw [F13 b2 (by rw [F12 b2 (by rw [ey]; simp) nb2, ey]; simp) nb2, F12 b2 (by rw [ey]; simp) nb2]; exact ey, rr⟩
  refine i13.lg fun c14 h14 => class_spec h14 (hk _ m13 A13 F013 fun t => ?_)
  rw [← g2]
  exact sp_exec hh.1 c1 (by simpa using t)
end
section
variable {m0 : Mem} {C : Nat → Bool} {e : Nat} {q : BB} {c : Nat} {p : Nat} {D : Dv} {wv : AV} {n : Int} {cap : Int}
variable {m : Mem} {l : List (Key × Val)} {Sc : Nat → Prop} {made used : Int} {S S' : St} {B B' : Nat → Int}
theorem ldIn {v : AV} {nn : Nat} {cc : Nat → AV} {Xs : Nat → In} (h : IsL m 6 v nn cc) (hx : ∀ i, i < nn → InC (fun j => cc (i * 6 + j)) (Xs i)) {i : Nat} (hi : i < nn) {k : (Nat → AV) → Prop} (hk : ∀ cx, InC cx (Xs i) → k cx) : ksl v fun b6 o7 l8 p9 => kif (decide (0 ≤ (i : Int)) && decide ((i : Int) < l8)) (ldG 6 m b6 (o7 + (i : Int).toNat * 6) k) False := by
 cases h with
 | nil a c => exact absurd hi (by omega)
 | sl b o n cap y c g1 g2 g3 g4 g5 =>
  refine kif_ix (by omega) (by omega) ?_
  rw [ldG_of g1 (by omega)]
  have eq : ∀ j, j < 6 → sub y.c (o + (i : Int).toNat * 6) 6 j = cc (i * 6 + j) := fun j hj => by
   simp only [sub]
   rw [if_pos hj, Int.toNat_natCast, Nat.add_assoc]
   exact g3 _ (by omega)
  have h0 := hx i hi
  exact hk _ ⟨(eq 0 (by omega)).trans h0.1, (eq 1 (by omega)).trans h0.2.1, (eq 2 (by omega)).trans h0.2.2.1, (eq 3 (by omega)).trans h0.2.2.2.1, (eq 4 (by omega)).trans h0.2.2.2.2.1, (eq 5 (by omega)).trans h0.2.2.2.2.2⟩
theorem ldAv {v : AV} {nn : Nat} {cc : Nat → AV} (h : IsL m 1 v nn cc) {i : Nat} (hi : i < nn) (h1 : (cc i).one = true) {k : AV → Prop} (hk : k (cc i)) : ksl v fun b37 o38 l39 p40 => kif (decide (0 ≤ (i : Int)) && decide ((i : Int) < l39)) (ldA m b37 (o38 + (i : Int).toNat * 1) k) False := by
 cases h with
 | nil a c => exact absurd hi (by omega)
 | sl b o n cap y c g1 g2 g3 g4 g5 =>
  refine kif_ix (by omega) (by omega) ?_
  rw [ldA_v (v := cc i) g1 (by omega) ?_ h1]
  ·exact hk
  ·rw [Int.toNat_natCast, Nat.mul_one]; exact g3 i (by omega)
theorem At.due (h : At m0 C e q c p D wv n cap l Sc made used S B m) (cm : Calm S) {k : Bool → Mem → Prop} (hk : ∀ m', At m0 C e q c p D wv n cap l Sc made used S B m' → Fr (foot e q) m m' → k (dueD D (S.n 72) || takenS S) m') : F40 e 0 m k := by
 obtain ⟨S1, M, u, hn, hpp, E⟩ := h
 have eS := St.as hn hpp
 have c1 : Calm S1 := by rw [eS]; exact cm.wt S1
 refine due_k E.h.cpu E.h.st c1 E.h.q0 E.h.x0 fun m' h' F' => ?_
 have e1 : (dueD { D with up := u } (S1.n 72) || takenS S1) = (dueD D (S.n 72) || takenS S) := by rw [eS]; rfl
 rw [e1]
 exact hk m' ⟨S1, M, u, hn, hpp, E.upd h' (fun _ _ => rfl) E.h.st (one_foot F') (Tl.refl _) fun _ _ => rfl⟩ (one_foot F')
theorem At.ok (h : At m0 C e q c p D wv n cap l Sc made used S B m) : S.ok := by
 obtain ⟨S1, M, u, hn, hpp, E⟩ := h
 have := E.h.ok
 unfold St.ok at this ⊢
 rw [← hn]; exact this
theorem At.ftl (h : At m0 C e q c p D wv n cap l Sc made used S B m) {x : Nat} (hx : ft e q wv Sc x) : m.obj x ≠ none := by
 obtain ⟨S1, M, u, hn, hpp, E⟩ := h
 exact ft_live E.h hx
theorem At.run (hp : p ≤ 64) {X : Nat → St} {Y : Nat → Nat → Int} {left : Nat} (hX : ∀ g, g < left → StepC C p D (X g) (Y g) (X (g + 1)) (Y (g + 1))) (hl1 : 1 ≤ left) (nt : takenS (X 0) = false) (h : At m0 C e q c p D wv n cap l Sc made used (X 0) (Y 0) m) {a : Nat} {r : Bool} (hL : liesS (X 0) ((X 0).n 34) 4 false = ((a : Int), -1, r)) {c1 : Nat → AV} {kk : Nat} (hb : Bk m (Y 0) c1 a kk (ft e q wv Sc)) (hs : Shape p (Y 0) a kk) (hC : C ((a : Int) / 1024).toNat = true) (hW : PageOk (Y 0) a)
  {k : Int → Mem → Prop} (hk : ∀ (g : Nat) m', 1 ≤ g → g ≤ left → At m0 C e q c p D wv n cap l Sc made used (X g) (Y g) m' → k g m') : F42 e 0 c1 left m k := by
 unfold F42
 refine newK_i fun b2 m1 hb2 K1 e1 O1 => ?_
 have h1 := h.keep K1
 have n2 : ¬ ft e q wv Sc b2 := fun t => h.ftl t hb2
 obtain ⟨S1, M, u, hn, hpp, E⟩ := id h1
 rw [show (0 : Nat) + 0 + 34 = 34 from rfl, ldI_st E.h.mac.s (by omega) rfl, hn]
 have pu := h.ok.1 34 (by omega)
 have hb1 := hb.fr (T' := ft e q wv Sc) (K1.fr _) fun x hx => .inl hx
 have bx : ∀ {mm : Mem} {i : Nat} {v : AV}, mm.obj b2 = some ⟨4, c1, 85, false⟩ → i < 4 → c1 i = v → v.one = true → ∀ kx, ldA mm b2 i kx = kx v := fun he hi hv h1 kx => ldA_v he hi hv h1 kx
 obtain ⟨ci, hi1, hi2⟩ := hb1.i
 rw [bx e1 (by decide) rfl hi1.one, klen_r hi1.r]
 have kn2 := hs.n2
 have loop : ∀ (j i : Nat) (mm : Mem), i + j = kk → i ≤ left → At m0 C e q c p D wv n cap l Sc made used (X i) (Y i) mm → Bk mm (Y 0) c1 a kk (ft e q wv Sc) → mm.obj b2 = some ⟨4, c1, 85, false⟩ → Sp (X 0) (X i) → Cod C (Y 0) (Y i) → L42_4 e 0 left b2 0 ((X 0).n 34) (c1 2) kk (j + 1) i i mm (fun x52 m53 => k x52 m53) := by
  intro j
  induction j with
  | zero =>
   intro i mm ej il hA hB he hsp hcd
   have := hs.n1
   show R42_4 _ _ _ _ _ _ _ _ _ _ _ _ _
   unfold R42_4
   exact kif_f (by simp; omega) (hk i mm (by omega) il hA)
  | succ j ih =>
   intro i mm ej il hA hB he hsp hcd
   show R42_4 _ _ _ _ _ _ _ _ _ _ _ _ _
   unfold R42_4
   have hik : i < kk := by omega
   obtain ⟨ci', hi1', hi2'⟩ := hB.i
   rw [wrap64 (n := (i : Int) + 1) (by omega) (by omega)]
   obtain ⟨hev, hpg⟩ := hs.at hik
   have hnx := lies_next (k := i) pu.1 pu.2 hL h.ok hs.a4 hpg
   have eoff : IntKind.wrap .u32 (IntKind.wrap .i64 (4 * (i : Int))) = 4 * i := by rw [wrap64 (n := 4 * (i : Int)) (by omega) (by omega), wrap32]; omega
   refine kif_t (by simp; omega) ?_
   have ldc : ∀ {kx : (Nat → AV) → Prop}, (∀ cx, InC cx (inAt (Y 0) a i) → kx cx) → ksl (c1 2) fun b6 o7 l8 p9 => kif (decide (0 ≤ (i : Int)) && decide ((i : Int) < l8)) (ldG 6 mm b6 (o7 + (i : Int).toNat * 6) kx) False := fun hkx => ldIn hi1' hi2' hik hkx
   refine ldc fun cx hcx => newF hcx fun b12 m13 hb12 K13 i12 => ?_
   have hA13 := hA.keep K13
   have he13 : m13.obj b2 = some ⟨4, c1, 85, false⟩ := by rw [K13 b2 (by rw [he]; simp)]; exact he
   have hB13 : Bk m13 (Y 0) c1 a kk (ft e q wv Sc) := hB.fr (K13.fr _) fun x hx => .inl hx
   have stop : ∀ mz, 1 ≤ i → At m0 C e q c p D wv n cap l Sc made used (X i) (Y i) mz → k i mz := fun mz hi hz => hk i mz hi il hz
   refine kif_c _ (fun cl => stop m13 (by simp at cl; omega) hA13) fun cl => ?_
   have cl : i < left := by simp at cl; omega
   obtain ⟨S2, M2, u2, hn2, hpp2, E2⟩ := id hA13
   rw [show (0 : Nat) + 0 + 34 = 34 from rfl, ldI_st E2.h.mac.s (by omega) rfl, hn2, eoff]
   have ew : IntKind.wrap .u32 ((X 0).n 34 + 4 * (i : Int)) = (X 0).n 34 + 4 * i := by rw [wrap32]; omega
   rw [ew]
   refine kif_c _ (fun cp => stop m13 ?_ hA13) fun cp => ?_
   ·have cp : (X i).n 34 ≠ (X 0).n 34 + 4 * (i : Int) := by simpa using cp
    by_cases t : i = 0
    ·subst t; simp at cp
    ·omega
   have cp : (X i).n 34 = (X 0).n 34 + 4 * (i : Int) := by simpa using cp
   have hLi : liesS (X i) ((X i).n 34) 4 false = ((a : Int) + 4 * i, -1, r) := by rw [← hsp.lies, cp]; exact hnx.2
   have g := hX i cl
   have body : ∀ mz, takenS (X i) = false → At m0 C e q c p D wv n cap l Sc made used (X i) (Y i) mz → Fr (foot e q) m13 mz → P42_9103 e 0 left b2 0 ((X 0).n 34) i i b12 0 (4 * i) (c1 2) kk i mz (fun x44 m45 => k x44 m45) (fun x46 m47 => L42_4 e 0 left b2 0 ((X 0).n 34) (c1 2) kk (j + 1) x46 ((i : Int) + 1) m47 (fun x52 m53 => k x52 m53)) := fun mz ntz hz Fz => by
    unfold P42_9103
    refine ⟨fun y => y = e ∨ y = b2, .inl rfl, ?_⟩
    obtain ⟨S3, M3, u3, hn3, hpp3, E3⟩ := id hz
    have tl : ∀ k, ldA mz e (0 + 73) k = k (.ptr q.b 0) := fun k => by
     rw [show (0 : Nat) + 73 = 73 + 0 from rfl]
     exact tail_ld (j := 0) E3.h.mac.s E3.h.q0 E3.h.x0 rfl k
    rw [tl]
    dsimp only [kptr]
    have hez : mz.obj b2 = some ⟨4, c1, 85, false⟩ := by rw [Fz b2 (by rw [he13]; simp) fun t => n2 (.inl t)]; exact he13
    have hBz : Bk mz (Y 0) c1 a kk (ft e q wv Sc) := hB13.fr (Fz.mono fun x _ hx => .inl hx) fun x hx => .inl hx
    refine ram_spec E3.h.mac.b ⟨fun _ _ _ => rfl, .inr rfl, ?_⟩
    rw [show (0 : Nat) + 0 = 0 from rfl, ldI_of (n := (a : Int)) hez (by show 0 < 4; decide) hBz.v0]
    dsimp only [kptr]
    have hu : isU ((a : Int) + 4 * i) := by obtain ⟨_, _, q1, q2⟩ := hev; exact ⟨by omega, by omega⟩
    rw [wrapU hu]
    refine load_spec E3.h.mac.b.r hu (by unfold isI; omega) ?_
    rw [if_pos hev, decide_eq_true hev]
    refine ⟨fun _ _ _ => rfl, kif_f rfl ?_⟩
    have ew1 : wdB (Y i) ((a : Int) + 4 * i) 4 = wdAt (Y 0) a i := hs.wd hcd hC i hik
    rw [show (0 : Nat) + 1 = 1 from rfl, bx hez (by decide) rfl hBz.w.one]
    refine ldI_r (x := wdAt (Y 0) a i) hBz.w.r (by omega) (by omega) (by rw [Int.toNat_natCast]; rfl) fun _ _ _ => kif_f ?_ ?_
    ·show (wdB (Y i) ((a : Int) + 4 * i) 4 != wdAt (Y 0) a i) = false
     rw [ew1]; simp
    have iz12 : InB mz b12 (inAt (Y 0) a i) := by
     obtain ⟨y, ey, rr⟩ := i12
     have nb12 : ¬ foot e q b12 := fun t => hA.ftl (.inl t) hb12
     exact ⟨y, by rw [Fz b12 (by rw [ey]; simp) nb12]; exact ey, rr⟩
    refine iz12.lg fun c35 h35 => ?_
    obtain ⟨c3, o1, o2⟩ := hBz.o
    obtain ⟨p1, p2, p3⟩ := o2 i hik
    rw [show (0 : Nat) + 3 = 3 from rfl, bx hez (by decide) rfl o1.one]
    refine ldAv o1 hik p1 ?_
    have eIn : ofS (wdB (Y i) ((a : Int) + 4 * i) 4) = inAt (Y 0) a i := by rw [ew1]; rfl
    refine At.do hp hz g ntz hLi hev (by rw [eIn]; exact h35) (by rw [eIn]; exact p2) (fun t => p3 e t (.inl (.inl rfl))) (by rw [eIn]; exact hW i hpg) fun fl m43 h43 F43 hfl => ?_
    rw [wrap64 (n := (i : Int) + 1) (by omega) (by omega)]
    refine kif_c _ (fun cf => ?_) fun cf => ?_
    ·exact hk (i + 1) m43 (by omega) (by omega) h43
    ·have cf : fl = true := by simpa using cf
     exact ih (i + 1) m43 (by omega) (by omega) h43 (hBz.fr (F43.mono fun x _ hx => .inl hx) fun x hx => .inl hx) (by rw [F43 b2 (by rw [hez]; simp) fun t => n2 (.inl t)]; exact hez) (hsp.trans (hfl cf)) fun j2 hj2 => (g.cod j2 hj2).trans (hcd j2 hj2)
   refine kif_c _ (fun c0 => ?_) fun c0 => ?_
   ·have c0 : 1 ≤ i := by simp at c0; omega
    refine At.due hA13 g.c fun mz hz Fz => ?_
    rw [g.due, Bool.false_or]
    exact kif_c _ (fun ct => stop mz c0 hz) fun ct => body mz ct hz Fz
   ·have c0 : i = 0 := by simp at c0; omega
    refine body m13 ?_ hA13 (Fr.refl _ _)
    rw [c0]; exact nt
 exact ⟨kk + 1, loop kk 0 m1 (by omega) (by omega) h1 hb1 e1 (Sp.refl _) fun _ _ => rfl⟩
end
end Go.Proofs.YtkiggdgphbkneaaGreat.Am
