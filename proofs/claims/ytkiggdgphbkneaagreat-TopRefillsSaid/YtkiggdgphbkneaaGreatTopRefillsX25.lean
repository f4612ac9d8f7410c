/- A step's small parts: what is refused, where it leads, what is done to registers. Conditions: kinds that the programs of the top laws come to. One instruction by itself, and one step. Conditions: kinds that the programs of the top laws come to; nothing is due; -/
import Derived.Test.YtkiggdgphbkneaaGreatTopRefillsX24
namespace Go.Proofs.YtkiggdgphbkneaaGreat.Am
set_option linter.unusedVariables false
set_option linter.unusedSimpArgs false
set_option maxRecDepth 100000
def exK (k : Int) : Bool := k == 1 || k == 47 || k == 7 || k == 8 || k == 11 || k == 12 || k == 22 || k == 34 || k == 42 || k == 43 || k == 54 || k == 55 || k == 57 || k == 58 || k == 60 || k == 62 || k == 68 || k == 69 || k == 71 || k == 73 || k == 74 || k == 75
theorem exK_c {k : Int} (h : exK k = true) : k = 1 ∨ k = 47 ∨ k = 7 ∨ k = 8 ∨ k = 11 ∨ k = 12 ∨ k = 22 ∨ k = 34 ∨ k = 42 ∨ k = 43 ∨ k = 54 ∨ k = 55 ∨ k = 57 ∨ k = 58 ∨ k = 60 ∨ k = 62 ∨ k = 68 ∨ k = 69 ∨ k = 71 ∨ k = 73 ∨ k = 74 ∨ k = 75 := by
 unfold exK at h; simp at h; omega
structure FX (x : In) : Prop where
 k : exK x.k = true
 s0 : 0 ≤ x.s
 s1 : x.s < 32
 t0 : 0 ≤ x.t
 t1 : x.t < 32
 d0 : 0 ≤ x.d
 d1 : x.d < 32
 h0 : 0 ≤ x.h
 h1 : x.h < 32
 i0 : 0 ≤ x.i
 i1 : x.i < 65536
def setS (S : St) (n v : Int) : St := if n = 0 then S else S.putN n.toNat v
def trapsS (x : In) (a t : Int) : Bool := if x.k = 22 then overR a t else if x.k = 34 then a == t else false
def refS (S : St) (x : In) : Int :=
 if S.p 36 = true ∧ (classS x.k = 3 ∨ x.k = 60) then 10
 else if userS S = true ∧ 54 ≤ x.k ∧ x.k ≤ 61 then 11
 else if x.k = 62 then 11
 else if rightS x = false then 10
 else if x.k = 11 then 8
 else if x.k = 12 then 9
 else if trapsS x (S.n x.s.toNat) (S.n x.t.toNat) = false then -1
 else if x.k = 34 then 13 else 12
def takenB (x : In) (a t : Int) : Bool := if x.k = 7 ∨ x.k = 8 then true else if x.k = 42 then a == t else if x.k = 43 then a != t else false
def targetB (x : In) (pc a : Int) : Int := if x.k = 7 ∨ x.k = 8 then a else IntKind.wrap .u32 (IntKind.wrap .u32 (pc + 4) + IntKind.wrap .u32 (sxV x.i * 4))
def onS (S : St) (x : In) (a t : Int) : St :=
 let S1 := (S.putN 34 (S.n 35)).putN 35 (IntKind.wrap .u32 (S.n 35 + 4))
 let S2 := if takenB x a t = true then S1.putN 35 (targetB x (S.n 34) a) else S1
 let S3 := S2.putP 36 (classS x.k == 3)
 if x.k = 8 then setS S3 x.d (IntKind.wrap .u32 (S.n 34 + 8)) else S3
theorem setS_ok {S : St} (h : S.ok) {n v : Int} (n1 : n < 32) (hv : isU v) : (setS S n v).ok := by
 unfold setS; split
 ·exact h
 ·exact putN_ok h (by omega) hv.1 hv.2
theorem onS_ok {S : St} (h : S.ok) {x : In} (hx : FX x) {a t : Int} (ha : isU a) : (onS S x a t).ok := by
 unfold onS
 have w := wrap32_rng (S.n 35 + 4)
 have e35 := h.1 35 (by omega)
 have h1 := putN_ok (putN_ok h (i := 34) (by omega) e35.1 e35.2) (i := 35) (by omega) w.1 w.2
 have hT : isU (targetB x (S.n 34) a) := by
  unfold targetB; split
  ·exact ha
  ·exact wrap32_rng _
 have h3 : ∀ S2 : St, S2.ok → (S2.putP 36 (classS x.k == 3)).ok := fun S2 h2 => putP_ok h2
 have h4 : ∀ S3 : St, S3.ok → (if x.k = 8 then setS S3 x.d (IntKind.wrap .u32 (S.n 34 + 8)) else S3).ok := fun S3 h3 => by
  split
  ·exact setS_ok h3 hx.d1 (wrap32_rng _)
  ·exact h3
 refine h4 _ (h3 _ ?_)
 split
 ·exact putN_ok h1 (by omega) hT.1 hT.2
 ·exact h1
section
variable {m : Mem} {e : Nat} {S : St} {c : Nat → AV} {x : In}
theorem ldR (h : IsSt m e S) {i : Int} (h0 : 0 ≤ i) (h1 : i < 32) (k : Int → Prop) : ldI .u32 m e (0 + 0 + i.toNat * 1) k = k (S.n i.toNat) := by
 rw [show 0 + 0 + i.toNat * 1 = i.toNat by omega]
 exact ldI_st h (by omega) (isP3_lo (by omega)) k
theorem set_spec (h : IsSt m e S) {n v : Int} (n0 : 0 ≤ n) (n1 : n < 32) {k : Mem → Prop} (hk : ∀ m', IsSt m' e (setS S n v) → Only m e m' → k m') : F142 e 0 n v m k := by
 unfold F142
 unfold setS at hk
 refine kif_c _ (fun c => ?_) fun c => ?_
 ·rw [if_neg (by simpa using c)] at hk
  refine kif_ix n0 n1 ?_
  rw [show 0 + 0 + n.toNat * 1 = n.toNat by omega]
  exact stC_st h (by omega) (isP3_lo (by omega)) hk
 ·rw [if_pos (by simpa using c)] at hk
  exact hk m h (Only.refl _ _)
theorem btaken_spec (hc : InC c x) (hx : exK x.k = true) {a t : Int} {k : Bool → Mem → Prop} (hk : k (takenB x a t) m) : F153 c a t m k := by
 unfold F153
 refine newI hc fun b m1 hb K h O => ?_
 rw [h.l0]
 have hk' := exK_c hx
 unfold takenB at hk
 refine kif_f (by simp; omega) (kif_f (by simp; omega) (kif_c _ (fun c7 => ?_) fun c7 => ?_))
 ·have c7 : x.k = 7 := by simpa using c7
  rw [if_pos (by omega)] at hk
  unfold P153_7004
  rw [c7]
  exact kif_t rfl ⟨K, hk⟩
 have c7 : x.k ≠ 7 := by simpa using c7
 unfold P153_7004
 refine kif_c _ (fun c8 => ?_) fun c8 => ?_
 ·rw [if_pos (.inr (by simpa using c8))] at hk
  exact ⟨K, hk⟩
 have c8 : x.k ≠ 8 := by simpa using c8
 rw [if_neg (by omega)] at hk
 refine kif_c _ (fun c42 => ?_) fun c42 => ?_
 ·rw [if_pos (by simpa using c42)] at hk; exact ⟨K, hk⟩
 rw [if_neg (by simpa using c42)] at hk
 refine kif_c _ (fun c43 => ?_) fun c43 => ?_
 ·rw [if_pos (by simpa using c43)] at hk; exact ⟨K, hk⟩
 rw [if_neg (by simpa using c43)] at hk
 refine kif_f (by simp; omega) ?_
 unfold P153_14004
 refine kif_f (by simp; omega) (kif_f (by simp; omega) ?_)
 unfold P153_17004
 exact kif_f (by simp; omega) (kif_f (by simp; omega) (kif_f (by simp; omega) ⟨K, hk⟩))
theorem target_spec (hc : InC c x) (hx : FX x) {pc a : Int} (hb : x.k = 7 ∨ x.k = 8 ∨ x.k = 42 ∨ x.k = 43) {k : Int → Mem → Prop} (hk : k (targetB x pc a) m) : F154 c pc a m k := by
 unfold F154
 refine newI hc fun b m1 hb1 K h O => h.lg fun c3 h3 => class_spec h3 ?_
 have ec : classS x.k = 3 := by rcases hb with e | e | e | e <;> rw [e] <;> decide
 rw [ec]
 refine kif_f rfl ?_
 rw [h.l0]
 refine kif_f (by simp; omega) ?_
 rw [h.l0, show (x.k == 41) = false by simp; omega]
 unfold P154_5004
 refine kif_f rfl ?_
 rw [show (0 : Nat) + 0 = 0 from rfl, h.l0]
 unfold targetB at hk
 refine kif_c _ (fun c7 => ?_) fun c7 => ?_
 ·rw [if_pos (.inl (by simpa using c7))] at hk; exact ⟨K, hk⟩
 rw [h.l0]
 refine kif_c _ (fun c8 => ?_) fun c8 => ?_
 ·rw [if_pos (.inr (by simpa using c8))] at hk; exact ⟨K, hk⟩
 rw [if_neg (by simp at c7 c8; omega)] at hk
 unfold P154_8102
 rw [show (0 : Nat) + 5 = 5 from rfl, h.l5]
 refine lsign_spec hx.i0 hx.i1 ⟨K, ?_⟩
 exact hk
theorem blinks_spec (hc : InC c x) (hx : exK x.k = true) {k : Int → Bool → Mem → Prop} (hk : k (if x.k = 8 then x.d else 0) (decide (x.k = 8)) m) : F155 c m k := by
 unfold F155
 refine newI hc fun b m1 hb1 K h O => ?_
 rw [h.l0]
 have hk' := exK_c hx
 refine kif_f (by simp; omega) (kif_f (by simp; omega) ?_)
 unfold P155_5004
 refine kif_f (by simp; omega) (kif_c _ (fun c8 => ?_) fun c8 => ?_)
 ·have c8 : x.k = 8 := by simpa using c8
  rw [show (0 : Nat) + 3 = 3 from rfl, h.l3]
  rw [if_pos c8, decide_eq_true c8] at hk
  exact ⟨K, hk⟩
 ·have c8 : x.k ≠ 8 := by simpa using c8
  rw [if_neg c8, decide_eq_false c8] at hk
  exact ⟨K, hk⟩
theorem on_spec (h : IsSt m e S) (hc : InC c x) (hx : FX x) {a t : Int} {k : Mem → Prop} (hk : ∀ m', IsSt m' e (onS S x a t) → Fr (one1 e) m m' → k m') : F111 e 0 c a t m k := by
 unfold F111
 refine newI hc fun b m1 hb1 K hB O => ?_
 have h1 := h.keep K
 have ne : b ≠ e := fun q => h.live (q ▸ hb1)
 rw [show (0 : Nat) + 34 = 34 from rfl, show (0 : Nat) + 35 = 35 from rfl, ldI_st h1 (by omega) rfl, ldI_st h1 (by omega) rfl]
 refine stC_st h1 (by omega) rfl fun m5 h5 O5 => ?_
 rw [ldI_st h5 (by omega) rfl, putN_same]
 refine stC_st h5 (by omega) rfl fun m7 h7 O7 => ?_
 have B7 := (hB.only O5 ne).only O7 ne
 refine B7.lg fun c8 hc8 => btaken_spec hc8 hx.k ?_
 have tail : ∀ (m7 : Mem) (S2 : St), IsSt m7 e S2 → InB m7 b x → Fr (one1 e) m m7 → onS S x a t = (if x.k = 8 then setS (S2.putP 36 (classS x.k == 3)) x.d (IntKind.wrap .u32 (S.n 34 + 8)) else S2.putP 36 (classS x.k == 3)) → P111_6102 e 0 b 0 (S.n 34) m7 (fun m24 => k m24) := fun m7 S2 h7 B7 F7 eS => by
  unfold P111_6102
  refine B7.lg fun c15 h15 => class_spec h15 ?_
  rw [show (0 : Nat) + 36 = 36 from rfl]
  refine stB_st h7 (by omega) rfl fun m18 h18 O18 => (B7.only O18 ne).lg fun c19 h19 => blinks_spec h19 hx.k ?_
  rw [eS] at hk
  by_cases c8 : x.k = 8
  ·rw [if_pos c8] at hk
   rw [decide_eq_true c8, if_pos c8]
   exact kif_t rfl (set_spec h18 hx.d0 hx.d1 fun m23 h23 O23 => hk m23 h23 (F7.trans (O18.fr1.trans O23.fr1)))
  ·rw [if_neg c8] at hk
   rw [decide_eq_false c8]
   exact kif_f rfl (hk m18 h18 (F7.trans O18.fr1))
 have F7 : Fr (one1 e) m m7 := Fr.key K (O5.fr1.trans O7.fr1)
 have hk' := exK_c hx.k
 refine kif_c _ (fun ct => ?_) fun ct => ?_
 ·have hbr : x.k = 7 ∨ x.k = 8 ∨ x.k = 42 ∨ x.k = 43 := by
   have ct := ct
   unfold takenB at ct
   split at ct
   ·omega
   split at ct
   ·omega
   split at ct
   ·omega
   ·simp at ct
  refine B7.lg fun c11 h11 => target_spec h11 hx hbr ?_
  refine stC_st h7 (by omega) rfl fun m14 h14 O14 => tail m14 _ h14 (B7.only O14 ne) (F7.trans O14.fr1) ?_
  unfold onS; simp only [ct, if_true]
 ·refine tail m7 _ h7 B7 F7 ?_
  unfold onS; simp only [ct, if_false, Bool.false_eq_true]
theorem ref6 (h : IsSt m e S) {b : Nat} (i : InB m b x) (hx : FX x) {q : Bool} (hq : q = (userS S && decide (54 ≤ x.k) && decide (x.k ≤ 61))) {kr : Int → Mem → Prop} {kn : Mem → Prop} (hs : ¬ (S.p 36 = true ∧ (classS x.k = 3 ∨ x.k = 60))) (hk : refS S x ≠ 12 → kr (refS S x) m) (hn : refS S x = 12 → kn m) : P105_6004 e 0 b 0 x.k q m kr kn := by
 unfold P105_6004
 have e0 : refS S x = (if userS S = true ∧ 54 ≤ x.k ∧ x.k ≤ 61 then 11 else if x.k = 62 then 11 else if rightS x = false then 10 else if x.k = 11 then 8 else if x.k = 12 then 9 else if trapsS x (S.n x.s.toNat) (S.n x.t.toNat) = false then -1 else if x.k = 34 then 13 else 12) := by
  unfold refS; rw [if_neg hs]
 rw [e0] at hk hn
 refine kif_c _ (fun c1 => ?_) fun c1 => ?_
 ·rw [c1] at hq
  rw [if_pos (by simp at hq; exact ⟨hq.1.1, hq.1.2, hq.2⟩)] at hk
  exact hk (by decide)
 rw [c1] at hq
 have n1 : ¬ (userS S = true ∧ 54 ≤ x.k ∧ x.k ≤ 61) := fun ⟨a1, a2, a3⟩ => by rw [a1, decide_eq_true a2, decide_eq_true a3] at hq; simp at hq
 rw [if_neg n1] at hk hn
 refine kif_c _ (fun c2 => ?_) fun c2 => ?_
 ·rw [if_pos (by simpa using c2)] at hk; exact hk (by decide)
 rw [if_neg (by simpa using c2)] at hk hn
 refine i.lg fun c10 h10 => right_spec h10 hx.i0 (kif_c _ (fun c3 => ?_) fun c3 => ?_)
 ·rw [if_pos (by simpa using c3)] at hk; exact hk (by decide)
 rw [if_neg (by simpa using c3)] at hk hn
 refine kif_c _ (fun c4 => ?_) fun c4 => ?_
 ·rw [if_pos (by simpa using c4)] at hk; exact hk (by decide)
 rw [if_neg (by simpa using c4)] at hk hn
 refine kif_c _ (fun c5 => ?_) fun c5 => ?_
 ·rw [if_pos (by simpa using c5)] at hk; exact hk (by decide)
 rw [if_neg (by simpa using c5)] at hk hn
 refine i.lg fun c13 h13 => ?_
 rw [show (0 : Nat) + 1 = 1 from rfl, show (0 : Nat) + 2 = 2 from rfl, i.l1]
 refine kif_ix hx.s0 hx.s1 ?_
 rw [ldR h hx.s0 hx.s1, i.l2]
 refine kif_ix hx.t0 hx.t1 ?_
 rw [ldR h hx.t0 hx.t1]
 have hk' := exK_c hx.k
 have c4 : x.k ≠ 11 := by simpa using c4
 have c5 : x.k ≠ 12 := by simpa using c5
 have done : ∀ (z : Bool), z = trapsS x (S.n x.s.toNat) (S.n x.t.toNat) → kif (!z) (kr (-1) m) (kif (decide (x.k ≥ 32)) (kif (decide (x.k ≤ 35)) (kr 13 m) (kn m)) (kn m)) := fun z hz => by
  refine kif_c _ (fun c6 => ?_) fun c6 => ?_
  ·rw [if_pos (by rw [← hz]; simpa using c6)] at hk; exact hk (by decide)
  rw [if_neg (by rw [← hz]; simpa using c6)] at hk hn
  have zt : trapsS x (S.n x.s.toNat) (S.n x.t.toNat) = true := by rw [← hz]; simpa using c6
  have h34 : x.k = 34 ∨ x.k = 22 := by
   unfold trapsS at zt
   split at zt
   ·exact .inr (by assumption)
   split at zt
   ·exact .inl (by assumption)
   ·simp at zt
  rcases h34 with e1 | e1
  ·rw [if_pos e1] at hk
   exact kif_t (by simp; omega) (kif_t (by simp; omega) (hk (by decide)))
  ·rw [if_neg (by omega)] at hn
   exact kif_f (by simp; omega) (hn rfl)
 unfold F139
 refine newI h13 fun b2 m2 hb2 K2 h2 O2 => ?_
 rw [h2.l0]
 unfold trapsS at done
 by_cases c22 : x.k = 22
 ·rw [if_pos c22] at done
  refine kif_t (by simp [c22]) ?_
  unfold P139_4004
  refine kif_t (by simp [c22]) ?_
  rw [show (0 : Nat) + 0 = 0 from rfl, h2.l0, c22]
  rw [show ((22 : Int) == 24) = false from rfl]
  exact over_spec ⟨K2, by have := done _ rfl; rw [c22] at this; exact this⟩
 ·rw [if_neg c22] at done
  refine kif_f (by simp; omega) ?_
  unfold P139_4004
  refine kif_f (by simp; omega) (kif_f (by simp; omega) (kif_f (by simp; omega) (kif_f (by simp; omega) (kif_c _ (fun c34 => ?_) fun c34 => ?_))))
  ·rw [if_pos (by simpa using c34)] at done
   exact ⟨K2, done _ rfl⟩
  ·rw [if_neg (by simpa using c34)] at done
   exact kif_f (by simp; omega) ⟨K2, done _ rfl⟩
theorem refused_spec_T (h : IsSt m e S) (hc : InC c x) (hx : FX x) {k : Int → Mem → Prop} (hk : k (refS S x) m) : F105 e 0 c m k := by
 unfold F105
 refine newI hc fun b m1 hb1 K i O => i.lg fun c3 h3 => class_spec h3 ?_
 have h1 := h.keep K
 rw [i.l0, show (0 : Nat) + 36 = 36 from rfl, ldB_st h1 (by omega) rfl]
 have hk' := exK_c hx.k
 have slot : S.p 36 = true → (classS x.k = 3 ∨ x.k = 60) → P105_4004 e 0 b 0 x.k true m1 (fun x29 m30 => (Keeps m m30 ∧ k x29 m)) (fun m31 => (Keeps m m31 ∧ k 12 m)) := fun a1 a2 => by
  unfold P105_4004
  have : refS S x = 10 := by unfold refS; rw [if_pos ⟨a1, a2⟩]
  rw [this] at hk
  exact kif_t rfl ⟨K, hk⟩
 have rest : ¬ (S.p 36 = true ∧ (classS x.k = 3 ∨ x.k = 60)) → P105_4004 e 0 b 0 x.k false m1 (fun x29 m30 => (Keeps m m30 ∧ k x29 m)) (fun m31 => (Keeps m m31 ∧ k 12 m)) := fun hs => by
  unfold P105_4004
  refine kif_f rfl (user_spec h1 ?_)
  have go : ∀ q : Bool, q = (userS S && decide (54 ≤ x.k) && decide (x.k ≤ 61)) → P105_6004 e 0 b 0 x.k q m1 (fun x29 m30 => (Keeps m m30 ∧ k x29 m)) (fun m31 => (Keeps m m31 ∧ k 12 m)) := fun q hq => ref6 h1 i hx hq hs (fun _ => ⟨K, hk⟩) fun e12 => ⟨K, by rw [e12] at hk; exact hk⟩
  refine kif_c _ (fun c1 => kif_c _ (fun c2 => ?_) fun c2 => ?_) fun c1 => ?_
  ·refine go _ ?_
   rw [c1, show decide (54 ≤ x.k) = true by simpa using c2]; simp
  ·refine go _ ?_
   rw [show decide (54 ≤ x.k) = false by simpa using c2]; simp
  ·refine go _ ?_
   rw [c1]; simp
 refine kif_c _ (fun c1 => ?_) fun c1 => ?_
 ·refine kif_c _ (fun c2 => slot c1 (.inl (by simpa using c2))) fun c2 => kif_c _ (fun c3 => slot c1 (.inr (by simpa using c3))) fun c3 => ?_
  rw [show (x.k == 61) = false by simp; omega]
  exact rest fun ⟨_, a⟩ => by simp at c2 c3; omega
 ·exact rest fun ⟨a, _⟩ => by rw [a] at c1; simp at c1
end
def sizeS (k : Int) : Int := if k = 69 ∨ k = 71 then 1 else 4
def vaS (S : St) (x : In) : Int := IntKind.wrap .u32 (S.n x.s.toNat + sxV x.i)
def badC (S : St) (va c : Int) : St := badS S va (c != 4 && c != 5)
def nearS (S : St) (a n : Int) : Bool := decide (a + n > S.n 38) && decide (a < S.n 38 + 4)
abbrev Act := St × (Nat → Int) × Int × Bool
def loadS (p : Nat) (B : Nat → Int) (S : St) (x : In) : Act :=
 let L := liesS S (vaS S x) (sizeS x.k) false
 if L.2.1 ≠ -1 then (badC S (vaS S x) L.2.1, B, L.2.1, L.2.2)
 else if evenR p L.1 (sizeS x.k) then (setS (if x.k = 74 then (S.putP 37 true).putN 38 L.1 else S) x.t (wdB B L.1 (sizeS x.k)), B, -1, false)
 else (S, B, 7, false)
def storeS (p : Nat) (B : Nat → Int) (S : St) (x : In) : Act :=
 let L := liesS S (vaS S x) (sizeS x.k) true
 if L.2.1 ≠ -1 then (badC S (vaS S x) L.2.1, B, L.2.1, L.2.2)
 else if x.k = 75 ∧ ¬ (S.p 37 = true ∧ S.n 38 = L.1) then ((setS S x.t 0).putP 37 false, B, -1, false)
 else if evenR p L.1 (sizeS x.k) then
  (let S1 := if x.k = 75 then setS S x.t 1 else S
   if x.k = 75 ∨ nearS S1 L.1 (sizeS x.k) = true then S1.putP 37 false else S1, stv B L.1 (sizeS x.k) (S.n x.t.toNat), -1, false)
 else (S, B, 7, false)
def systemS (S : St) (x : In) : St := if x.k = 54 then setS S x.t (readS S x.d) else if x.k = 55 then writeS S x.d (S.n x.t.toNat) else if x.k = 57 ∨ x.k = 58 then putS S (x.k == 58) else S
def plainX (S : St) (x : In) : St := if x.k = 47 then setS S x.t (IntKind.wrap .u32 (S.n x.s.toNat + sxV x.i)) else S
def actS (p : Nat) (B : Nat → Int) (S : St) (x : In) : Act :=
 if classS x.k = 4 then loadS p B S x else if classS x.k = 5 then storeS p B S x else if classS x.k = 6 then (if x.k = 60 then returnS S else systemS S x, B, -1, false) else (plainX S x, B, -1, false)
def entS (S : St) (c : Int) (r : Bool) : St := lineS (goS (enterS S c r) 1).1 false
def goonS (S : St) (x : In) (a t : Int) : St := lineS (if x.k = 60 then (goS S 1).1 else onS (goS S 1).1 x a t) false
def execS (p : Nat) (B : Nat → Int) (S : St) (x : In) : St × (Nat → Int) × Int :=
 let r := refS S x
 if r ≠ -1 then (entS S r false, B, r)
 else
  let A := actS p B S x
  if A.2.2.1 ≠ -1 then (entS A.1 A.2.2.1 A.2.2.2, A.2.1, A.2.2.1)
  else (goonS A.1 x (S.n x.s.toNat) (S.n x.t.toNat), A.2.1, -1)
structure Cpu (m : Mem) (e : Nat) (q : BB) (p : Nat) (S : St) (B : Nat → Int) (M W : Nat → Bool) (D : Dv) (wv : AV) : Prop where
 s : IsSt m e S
 ok : S.ok
 b : IsBus m q p B M W D wv
 de : e ∉ q.all
 dw : ¬ own wv e
theorem lies_u {S : St} {va n : Int} {t : Bool} : isU (liesS S va n t).1 := by
 unfold liesS
 dsimp only
 generalize (if n ≠ 1 ∧ n ≠ 2 then (4 : Int) else n) = n'
 split
 ·exact (⟨by omega, by omega⟩ : isU 0)
 split
 ·exact and_rng _ _
 ·unfold lookS
  dsimp only
  split
  ·exact (⟨by omega, by omega⟩ : isU 0)
  split
  ·exact (⟨by omega, by omega⟩ : isU 0)
  split
  ·exact (⟨by omega, by omega⟩ : isU 0)
  ·exact or_rng _ _
theorem lies_c {S : St} {va n : Int} {t : Bool} : (liesS S va n t).2.1 = -1 ∨ (1 ≤ (liesS S va n t).2.1 ∧ (liesS S va n t).2.1 ≤ 5) := by
 unfold liesS
 dsimp only
 generalize (if n ≠ 1 ∧ n ≠ 2 then (4 : Int) else n) = n'
 split
 ·cases t <;> exact .inr (by decide)
 split
 ·exact .inl rfl
 ·unfold lookS
  dsimp only
  split
  ·cases t <;> exact .inr (by decide)
  split
  ·cases t <;> exact .inr (by decide)
  split
  ·exact .inr (by decide)
  ·exact .inl rfl
section
variable {m : Mem} {e : Nat} {q : BB} {p : Nat} {S : St} {B : Nat → Int} {M W : Nat → Bool} {D : Dv} {wv : AV} {c : Nat → AV} {x : In}
theorem Cpu.keep {m' : Mem} (h : Cpu m e q p S B M W D wv) (K : Keeps m m') : Cpu m' e q p S B M W D wv := ⟨h.s.keep K, h.ok, h.b.keep K, h.de, h.dw⟩
theorem Cpu.st {m' : Mem} {S' : St} (h : Cpu m e q p S B M W D wv) (h' : IsSt m' e S') (ok : S'.ok) (F : Fr (one1 e) m m') : Cpu m' e q p S' B M W D wv := ⟨h', ok, h.b.fr F (fun b hb t => h.de (by have t : b = e := t; subst t; exact hb)) (fun b hb t => h.dw (by have t : b = e := t; subst t; exact hb)), h.de, h.dw⟩
def foot (e : Nat) (q : BB) : Nat → Prop := fun x => x = e ∨ x ∈ q.all
theorem one_foot {e : Nat} {q : BB} {m m' : Mem} (F : Fr (one1 e) m m') : Fr (foot e q) m m' := F.mono fun b _ h => .inl h
theorem cbad_spec (h : IsSt m e S) {va c : Int} {k : Mem → Prop} (hk : ∀ m', IsSt m' e (badC S va c) → Only m e m' → k m') : F103 e 0 va c m k := by
 unfold F103
 unfold badC at hk
 refine kif_c _ (fun c1 => ?_) fun c1 => ?_
 ·rw [c1] at hk; exact bad_spec h hk
 ·rw [c1] at hk; exact bad_spec h hk
theorem size_k (hx : exK x.k = true) {k : Int → Mem → Prop} (hk : k (sizeS x.k) m) : F141 x.k m k := by
 unfold F141
 have := exK_c hx
 unfold sizeS at hk
 refine kif_f (by simp; omega) (kif_c _ (fun c1 => ?_) fun c1 => ?_)
 ·have c1 : x.k = 69 := by simpa using c1
  rw [if_pos (.inl c1)] at hk
  unfold P141_5004
  exact kif_t (by simp [c1]) ⟨Keeps.self m, hk⟩
 ·have c1 : x.k ≠ 69 := by simpa using c1
  unfold P141_5004
  refine kif_c _ (fun c2 => ?_) fun c2 => ?_
  ·rw [if_pos (.inr (by simpa using c2))] at hk; exact ⟨Keeps.self m, hk⟩
  ·rw [if_neg (by simp at c2; omega)] at hk
   exact kif_f (by simp; omega) (kif_f (by simp; omega) (kif_f (by simp; omega) ⟨Keeps.self m, hk⟩))
theorem entered_spec (h : Cpu m e q p S B M W D wv) (st : Still D) {cd : Int} {r : Bool} (c0 : 0 ≤ cd) (c1 : cd < 32) {k : Int → Mem → Prop} (hk : ∀ m', Cpu m' e q p (entS S cd r) B M W D wv → Fr (one1 e) m m' → k cd m') : F74 e 0 q.b 0 cd r m k := by
 unfold F74
 refine enter_spec h.s c0 c1 fun m1 h1 O1 => go_spec h1 fun m3 h3 O3 => ?_
 have F3 : Fr (one1 e) m m3 := O1.fr1.trans O3.fr1
 have E3 := h.st h3 (goS_ok (enterS_ok h.ok _ _) 1) F3
 refine raised_spec E3.b st (line_spec h3 fun m6 h6 O6 => hk m6 ?_ (F3.trans O6.fr1))
 exact h.st h6 (lineS_ok E3.ok _) (F3.trans O6.fr1)
theorem wrap_va {S : St} (ok : S.ok) {x : In} : isU (vaS S x) := wrap32_rng _
theorem ldv_u (f : Nat → Int) : ∀ n, isU (ldv f n)
 | 0 => (⟨by omega, by omega⟩ : isU 0)
 | n + 1 => or_rng _ _
theorem load_k (h : Cpu m e q p S B M W D wv) (hc : InC c x) (hx : FX x) (hcl : classS x.k = 4) (hd : (liesS S (vaS S x) (sizeS x.k) false).2.1 = -1 → (liesS S (vaS S x) (sizeS x.k) false).1 < p * 1024 ∨ (liesS S (vaS S x) (sizeS x.k) false).1 < 520093696 ∨ 520094080 ≤ (liesS S (vaS S x) (sizeS x.k) false).1)
  {k : Int → Bool → Mem → Prop} (hk : ∀ m', Cpu m' e q p (loadS p B S x).1 B M W D wv → Fr (one1 e) m m' → k (loadS p B S x).2.2.1 (loadS p B S x).2.2.2 m') : F106 e 0 q.b 0 c m k := by
 unfold F106
 refine newI hc fun b m1 hb1 K i O => ⟨fun _ => True, trivial, ?_⟩
 have E1 := h.keep K
 have ne : b ≠ e := fun t => h.s.live (t ▸ hb1)
 rw [i.l1]
 refine kif_ix hx.s0 hx.s1 ⟨trivial, ?_⟩
 rw [ldR E1.s hx.s0 hx.s1]
 refine ⟨trivial, ?_⟩
 rw [i.l5]
 refine lsign_spec hx.i0 hx.i1 ⟨fun _ _ _ => rfl, ?_⟩
 rw [i.l0]
 refine size_k hx.k ?_
 have va : IntKind.wrap .u32 (S.n x.s.toNat + sxV x.i) = vaS S x := rfl
 rw [va]
 have vu := wrap_va (x := x) h.ok
 refine seg_spec E1.s vu.1 vu.2 ?_
 unfold loadS at hk
 dsimp only at hk
 refine kif_c _ (fun c1 => ?_) fun c1 => ?_
 ·have c1 : (liesS S (vaS S x) (sizeS x.k) false).2.1 ≠ -1 := by simpa using c1
  rw [if_pos c1] at hk
  refine cbad_spec E1.s fun m16 h16 O16 => hk m16 ?_ (Fr.key K O16.fr1)
  exact E1.st h16 (badS_ok h.ok vu.1 vu.2 _) O16.fr1
 have c1 : (liesS S (vaS S x) (sizeS x.k) false).2.1 = -1 := by simpa using c1
 rw [if_neg (by simpa using c1)] at hk
 rw [show (0 : Nat) + 72 = 72 from rfl, ldT_st E1.s]
 have hn : sizeS x.k = 1 ∨ sizeS x.k = 2 ∨ sizeS x.k = 4 := by unfold sizeS; split <;> simp
 refine bload_spec E1.b lies_u hn (hd c1) ?_
 refine kif_c _ (fun c2 => ?_) fun c2 => ?_
 ·rw [if_neg (by simpa using c2)] at hk
  exact hk m1 E1 (K.fr _)
 have c2 : evenR p (liesS S (vaS S x) (sizeS x.k) false).1 (sizeS x.k) := by simpa using c2
 rw [if_pos c2] at hk
 rw [if_pos c2, i.l0]
 have hk' := exK_c hx.k
 refine kif_f (by simp; omega) ?_
 rw [i.l0, show (x.k == 67) = false by simp; omega]
 unfold P106_11004
 refine kif_f rfl ?_
 unfold P106_12103
 show ldI .i64 m1 b 0 _
 rw [i.l0]
 have fin : ∀ (m2 : Mem) (S2 : St), Cpu m2 e q p S2 B M W D wv → InB m2 b x → Fr (one1 e) m1 m2 → (if x.k = 74 then (S.putP 37 true).putN 38 (liesS S (vaS S x) (sizeS x.k) false).1 else S) = S2 → P106_14102 e 0 b 0 (wdB B (liesS S (vaS S x) (sizeS x.k) false).1 (sizeS x.k)) m2 (fun x34 x35 m36 => k x34 x35 m36) := fun m2 S2 E2 i2 F2 eS => by
  unfold P106_14102
  rw [show (0 : Nat) + 2 = 2 from rfl, i2.l2]
  rw [eS] at hk
  refine set_spec E2.s hx.t0 hx.t1 fun m33 h33 O33 => hk m33 ?_ (Fr.key K (F2.trans O33.fr1))
  exact E2.st h33 (setS_ok E2.ok hx.t1 (ldv_u _ _)) O33.fr1
 refine kif_c _ (fun c3 => ?_) fun c3 => ?_
 ·have c3 : x.k = 74 := by simpa using c3
  rw [show (0 : Nat) + 37 = 37 from rfl]
  refine stB_st E1.s (by omega) rfl fun m30 h30 O30 => stC_st h30 (by omega) rfl fun m31 h31 O31 => ?_
  have F31 : Fr (one1 e) m1 m31 := O30.fr1.trans O31.fr1
  refine fin m31 _ (E1.st h31 (putN_ok (putP_ok h.ok) (by omega) lies_u.1 lies_u.2) F31) ((i.only O30 ne).only O31 ne) F31 (by rw [if_pos c3])
 ·exact fin m1 _ E1 i (Fr.refl _ _) (by rw [if_neg (by simpa using c3)])
theorem near_spec (h : IsSt m e S) (ok : S.ok) {a n : Int} (ha : isU a) (hn : 0 ≤ n) (hn4 : n ≤ 4) {k : Bool → Mem → Prop} (hk : k (nearS S a n) m) : F144 e 0 a n m k := by
 unfold F144
 have e38 := ok.1 38 (by omega)
 obtain ⟨a0, a1⟩ := ha
 rw [show (0 : Nat) + 38 = 38 from rfl, ldI_st h (by omega) rfl, wrap64 (n := a) (by omega) (by omega), wrap64 (n := a + n) (by omega) (by omega), wrap64 (n := S.n 38) (by omega) (by omega)]
 unfold nearS at hk
 refine kif_c _ (fun c => ?_) fun c => ?_
 ·rw [ldI_st h (by omega) rfl, wrap64 (n := S.n 38) (by omega) (by omega), wrap64 (n := S.n 38 + 4) (by omega) (by omega)]
  have c : a + n > S.n 38 := by simpa using c
  rw [decide_eq_true c, Bool.true_and] at hk
  exact ⟨Keeps.self m, hk⟩
 ·have c : ¬ a + n > S.n 38 := by simp at c; omega
  rw [decide_eq_false c, Bool.false_and] at hk
  exact ⟨Keeps.self m, hk⟩
theorem Cpu.rm {m' : Mem} {B' : Nat → Int} {M' W' : Nat → Bool} (h : Cpu m e q p S B M W D wv) (h' : IsBus m' q p B' M' W' D wv) (F : Fr q.r.has m m') : Cpu m' e q p S B' M' W' D wv := ⟨h.s.fr F fun t => h.de (BB.has t), h.ok, h', h.de, h.dw⟩
theorem has_foot {m m' : Mem} (F : Fr q.r.has m m') : Fr (foot e q) m m' := F.mono fun b _ h => .inr (BB.has h)
theorem store_k (h : Cpu m e q p S B M W D wv) (hc : InC c x) (hx : FX x) (hcl : classS x.k = 5) (hd : (liesS S (vaS S x) (sizeS x.k) true).2.1 = -1 → (liesS S (vaS S x) (sizeS x.k) true).1 < p * 1024 ∨ (liesS S (vaS S x) (sizeS x.k) true).1 < 520093696 ∨ 520094080 ≤ (liesS S (vaS S x) (sizeS x.k) true).1)
  {k : Int → Bool → Mem → Prop} (hk : ∀ m' W', Cpu m' e q p (storeS p B S x).1 (storeS p B S x).2.1 M W' D wv → (W' = W ∨ (evenR p (liesS S (vaS S x) (sizeS x.k) true).1 (sizeS x.k) ∧ (storeS p B S x).2.2.1 = -1 ∧ W' = tW M W (liesS S (vaS S x) (sizeS x.k) true).1 (sizeS x.k))) → Fr (foot e q) m m' → k (storeS p B S x).2.2.1 (storeS p B S x).2.2.2 m') : F107 e 0 q.b 0 c m k := by
 unfold F107
 refine newI hc fun b m1 hb1 K i O => ⟨fun _ => True, trivial, ?_⟩
 have E1 := h.keep K
 have ne : b ≠ e := fun t => h.s.live (t ▸ hb1)
 have neq : ∀ y ∈ q.all, y ≠ b := fun y hy t => h.b.live hy (t ▸ hb1)
 rw [i.l1]
 refine kif_ix hx.s0 hx.s1 ⟨trivial, ?_⟩
 rw [ldR E1.s hx.s0 hx.s1]
 refine ⟨trivial, ?_⟩
 rw [i.l5]
 refine lsign_spec hx.i0 hx.i1 ⟨fun _ _ _ => rfl, ?_⟩
 rw [i.l0]
 refine size_k hx.k ?_
 have va : IntKind.wrap .u32 (S.n x.s.toNat + sxV x.i) = vaS S x := rfl
 rw [va]
 have vu := wrap_va (x := x) h.ok
 refine seg_spec E1.s vu.1 vu.2 ?_
 unfold storeS at hk
 dsimp only at hk
 generalize hL : liesS S (vaS S x) (sizeS x.k) true = L at hk hd ⊢
 have Lu : isU L.1 := by rw [← hL]; exact lies_u
 refine kif_c _ (fun c1 => ?_) fun c1 => ?_
 ·have c1 : L.2.1 ≠ -1 := by simpa using c1
  rw [if_pos c1] at hk
  refine cbad_spec E1.s fun m16 h16 O16 => hk m16 W ?_ (.inl rfl) (one_foot (Fr.key K O16.fr1))
  exact E1.st h16 (badS_ok h.ok vu.1 vu.2 _) O16.fr1
 have c1 : L.2.1 = -1 := by simpa using c1
 rw [if_neg (by simpa using c1)] at hk
 rw [show (0 : Nat) + 37 = 37 from rfl, ldB_st E1.s (by omega) rfl]
 have hn : sizeS x.k = 1 ∨ sizeS x.k = 2 ∨ sizeS x.k = 4 := by unfold sizeS; split <;> simp
 have hk' := exK_c hx.k
 -- the store itself
 have body : (x.k = 75 → S.p 37 = true ∧ S.n 38 = L.1) → P107_12103 e 0 q.b 0 b 0 (sizeS x.k) L.1 m1 (fun x50 x51 m52 => k x50 x51 m52) := fun hl => by
  rw [if_neg (fun t => t.2 (hl t.1))] at hk
  unfold P107_12103
  rw [show (0 : Nat) + 2 = 2 from rfl, i.l2]
  refine kif_ix hx.t0 hx.t1 ?_
  rw [ldR E1.s hx.t0 hx.t1, show (0 : Nat) + 72 = 72 from rfl, ldT_st E1.s]
  refine bstore_spec E1.b Lu hn (hd c1) (fun hev => ?_) fun hev m35 h35 F35 => ?_
  ·rw [if_neg hev] at hk
   exact kif_t rfl (hk m1 W E1 (.inl rfl) (K.fr _))
  rw [if_pos hev] at hk
  refine kif_f rfl ?_
  have E35 := E1.rm h35 F35
  have i35 : InB m35 b x := by
   obtain ⟨y, ey, r⟩ := i
   exact ⟨y, by rw [F35 b (by rw [ey]; simp) fun t => neq b (BB.has t) rfl]; exact ey, r⟩
  rw [show (0 : Nat) + 0 = 0 from rfl, i35.l0]
  have K35 : Fr (foot e q) m m35 := Fr.key K (has_foot F35)
  have fin : ∀ (m2 : Mem) (S2 : St), Cpu m2 e q p S2 (stv B L.1 (sizeS x.k) (S.n x.t.toNat)) M (tW M W L.1 (sizeS x.k)) D wv → InB m2 b x → Fr (foot e q) m m2 → (if x.k = 75 then setS S x.t 1 else S) = S2 → P107_16103 e 0 b 0 (sizeS x.k) L.1 m2 (fun x44 x45 m46 => k x44 x45 m46) := fun m2 S2 E2 i2 F2 eS => by
   unfold P107_16103
   rw [show (0 : Nat) + 0 = 0 from rfl, i2.l0]
   rw [eS] at hk
   refine kif_c _ (fun c3 => ?_) fun c3 => ?_
   ·rw [if_pos (.inl (by simpa using c3))] at hk
    rw [show (0 : Nat) + 37 = 37 from rfl]
    exact stB_st E2.s (by omega) rfl fun m42 h42 O42 => hk m42 _ (E2.st h42 (putP_ok E2.ok) O42.fr1) (.inr ⟨hev, rfl, rfl⟩) (F2.trans (one_foot O42.fr1))
   ·have c3 : x.k ≠ 75 := by simpa using c3
    have n4 : sizeS x.k ≤ 4 := by omega
    refine near_spec E2.s E2.ok Lu (by omega) n4 ?_
    refine kif_c _ (fun c4 => ?_) fun c4 => ?_
    ·rw [if_pos (.inr c4)] at hk
     rw [show (0 : Nat) + 37 = 37 from rfl]
     exact stB_st E2.s (by omega) rfl fun m42 h42 O42 => hk m42 _ (E2.st h42 (putP_ok E2.ok) O42.fr1) (.inr ⟨hev, rfl, rfl⟩) (F2.trans (one_foot O42.fr1))
    ·rw [if_neg (fun t => t.elim c3 fun t => by rw [t] at c4; cases c4)] at hk
     exact hk m2 _ E2 (.inr ⟨hev, rfl, rfl⟩) F2
  refine kif_c _ (fun c3 => ?_) fun c3 => ?_
  ·rw [i35.l2]
   refine set_spec E35.s hx.t0 hx.t1 fun m38 h38 O38 => fin m38 _ (E35.st h38 (setS_ok E35.ok hx.t1 (by unfold isU; omega)) O38.fr1) (i35.only O38 ne) (K35.trans (one_foot O38.fr1)) (by rw [if_pos (by simpa using c3)])
  ·exact fin m35 _ E35 i35 K35 (by rw [if_neg (by simpa using c3)])
 have main : ∀ z : Bool, (z = true ↔ (S.p 37 = true ∧ S.n 38 = L.1)) → P107_8103 e 0 q.b 0 b 0 (sizeS x.k) L.1 z m1 (fun x56 x57 m58 => k x56 x57 m58) := fun z hz => by
  unfold P107_8103
  rw [show (0 : Nat) + 0 = 0 from rfl, i.l0]
  refine kif_c _ (fun c2 => ?_) fun c2 => ?_
  ·have c2 : x.k = 75 := by simpa using c2
   unfold P107_9004
   refine kif_c _ (fun c3 => ?_) fun c3 => ?_
   ·have c3 : ¬ (S.p 37 = true ∧ S.n 38 = L.1) := fun t => by rw [hz.2 t] at c3; simp at c3
    rw [if_pos ⟨c2, c3⟩] at hk
    rw [show (0 : Nat) + 2 = 2 from rfl, i.l2]
    refine set_spec E1.s hx.t0 hx.t1 fun m21 h21 O21 => ?_
    rw [show (0 : Nat) + 37 = 37 from rfl]
    exact stB_st h21 (by omega) rfl fun m22 h22 O22 => hk m22 W (E1.st h22 (putP_ok (setS_ok h.ok hx.t1 (by unfold isU; omega))) (O21.fr1.trans O22.fr1)) (.inl rfl) (one_foot (Fr.key K (O21.fr1.trans O22.fr1)))
   ·exact body fun _ => hz.1 (by simpa using c3)
  ·unfold P107_9004
   exact kif_f rfl (body fun t => by simp at c2; exact absurd t c2)
 refine kif_c _ (fun c2 => ?_) fun c2 => ?_
 ·rw [show (0 : Nat) + 38 = 38 from rfl, ldI_st E1.s (by omega) rfl]
  exact main _ (by rw [c2]; simp)
 ·exact main _ (by rw [c2]; simp)
end
theorem readS_u {S : St} (ok : S.ok) (n : Int) : isU (readS S n) := by
 unfold readS
 have e48 := ok.1 48 (by omega)
 split
 ·exact ⟨by omega, by omega⟩
 split
 ·rename_i h
  have := named_in h
  exact ok.1 _ (by omega)
 ·exact (⟨by omega, by omega⟩ : isU 0)
section
variable {m : Mem} {e : Nat} {q : BB} {p : Nat} {S : St} {B : Nat → Int} {M W : Nat → Bool} {D : Dv} {wv : AV} {c : Nat → AV} {x : In}
theorem system_k (h : Cpu m e q p S B M W D wv) (hc : InC c x) (hx : FX x) (hkd : x.k = 54 ∨ x.k = 55 ∨ x.k = 57 ∨ x.k = 58) {k : Mem → Prop} (hk : ∀ m', Cpu m' e q p (systemS S x) B M W D wv → Fr (one1 e) m m' → k m') : F109 e 0 c m k := by
 unfold F109
 refine newI hc fun b m1 hb1 K i O => ?_
 have E1 := h.keep K
 have ne : b ≠ e := fun t => h.s.live (t ▸ hb1)
 rw [i.l0]
 unfold systemS at hk
 refine kif_c _ (fun c1 => ?_) fun c1 => ?_
 ·rw [if_pos (by simpa using c1)] at hk
  refine ⟨fun y => y = b, rfl, ?_⟩
  rw [i.l2]
  refine ⟨rfl, ?_⟩
  rw [i.l3]
  refine read_spec E1.s E1.ok ⟨fun _ _ _ => rfl, ?_⟩
  refine set_spec E1.s hx.t0 hx.t1 fun m9 h9 O9 => ⟨fun y hy _ => by subst hy; exact O9 _ ne, ?_⟩
  exact hk m9 (E1.st h9 (setS_ok h.ok hx.t1 (readS_u h.ok _)) O9.fr1) (Fr.key K O9.fr1)
 rw [if_neg (by simpa using c1)] at hk
 refine kif_c _ (fun c2 => ?_) fun c2 => ?_
 ·rw [if_pos (by simpa using c2)] at hk
  rw [i.l3, i.l2]
  refine kif_ix hx.t0 hx.t1 ?_
  rw [ldR E1.s hx.t0 hx.t1]
  refine write_spec E1.s fun m13 h13 O13 => hk m13 (E1.st h13 (writeS_ok h.ok ?_ ?_) O13.fr1) (Fr.key K O13.fr1)
  ·exact (h.ok.1 _ (by have := hx.t1; omega)).1
  ·exact (h.ok.1 _ (by have := hx.t1; omega)).2
 rw [if_neg (by simpa using c2)] at hk
 have c1 : x.k ≠ 54 := by simpa using c1
 have c2 : x.k ≠ 55 := by simpa using c2
 rw [if_pos (by omega)] at hk
 have go : P109_10004 e 0 b 0 x.k true m1 (fun m19 => k m19) := by
  unfold P109_10004
  refine kif_t rfl ?_
  rw [show (0 : Nat) + 0 = 0 from rfl, i.l0]
  exact put_spec_S E1.s E1.ok fun m16 h16 O16 => hk m16 (E1.st h16 (putS_ok h.ok _) O16.fr1) (Fr.key K O16.fr1)
 refine kif_f (by simp; omega) (kif_c _ (fun c3 => ?_) fun c3 => ?_)
 ·rw [c3]; exact go
 ·have c3 : x.k ≠ 57 := by simpa using c3
  rw [show (x.k == 58) = true by simp; omega]; exact go
theorem st_same {S : St} {i : Nat} : S.putN i (S.n i) = S := St.ext (fun j => by unfold St.putN upd; dsimp only; split <;> simp [*]) fun j => rfl
theorem plain_k (h : Cpu m e q p S B M W D wv) (hc : InC c x) (hx : FX x) (hkd : (x.k = 1 ∧ x.d = 0) ∨ x.k = 47 ∨ x.k = 7 ∨ x.k = 8 ∨ x.k = 42 ∨ x.k = 43) {k : Mem → Prop} (hk : ∀ m', Cpu m' e q p (plainX S x) B M W D wv → Fr (one1 e) m m' → k m') : F110 e 0 c m k := by
 unfold F110
 refine newI hc fun b m1 hb1 K i O => ?_
 have E1 := h.keep K
 have ne : b ≠ e := fun t => h.s.live (t ▸ hb1)
 rw [i.l1]
 refine kif_ix hx.s0 hx.s1 ?_
 rw [ldR E1.s hx.s0 hx.s1, i.l2]
 refine kif_ix hx.t0 hx.t1 ?_
 rw [ldR E1.s hx.t0 hx.t1]
 refine i.lg fun c7 h7 => ?_
 have tail : ∀ (m2 : Mem), Cpu m2 e q p (plainX S x) B M W D wv → InB m2 b x → Fr (one1 e) m1 m2 → P110_5103 e 0 b 0 (S.n x.s.toNat) (S.n x.t.toNat) m2 (fun m38 => k m38) := fun m2 E2 i2 F2 => by
  unfold P110_5103
  rw [show (0 : Nat) + 0 = 0 from rfl, i2.l0]
  have go : ∀ m3, m3 = m2 → P110_14002 e 0 b 0 (S.n x.s.toNat) (S.n x.t.toNat) m3 (fun m36 => k m36) := fun m3 e3 => by
   subst e3
   unfold P110_14002
   refine i2.lg fun c27 h27 => ?_
   rw [show (0 : Nat) + 32 = 32 from rfl, show (0 : Nat) + 33 = 33 from rfl, ldI_st E2.s (by omega) rfl, ldI_st E2.s (by omega) rfl]
   unfold F152
   refine newI h27 fun b2 m4 hb4 K4 i4 O4 => ?_
   rw [i4.l0]
   have E4 := E2.keep K4
   refine kif_f (by simp; omega) ?_
   unfold P152_5004
   refine kif_f (by simp; omega) (kif_f (by simp; omega) ?_)
   unfold P152_8004
   refine kif_f (by simp; omega) (kif_f (by simp; omega) (kif_f (by simp; omega) ⟨K4, ?_⟩))
   refine stC_st E2.s (by omega) rfl fun m34 h34 O34 => stC_st h34 (by omega) rfl fun m35 h35 O35 => ?_
   rw [st_same, show (plainX S x).n 33 = (plainX S x).n 33 from rfl, st_same] at h35
   have F35 := O34.fr1.trans O35.fr1
   exact hk m35 (E2.st h35 E2.ok F35) (Fr.key K (F2.trans F35))
  refine kif_f (by simp; omega) ?_
  rw [show (x.k == 10) = false by simp; omega]
  unfold P110_8004
  exact kif_f rfl (kif_f (by simp; omega) (kif_f (by simp; omega) (go m2 rfl)))
 have hcL : InC_L c7 x.k x.h x.i := ⟨h7.1, h7.2.2.2.2.1, h7.2.2.2.2.2⟩
 rcases hkd with ⟨k1, d0⟩ | k47 | kb
 ·have pe : plainX S x = S := by unfold plainX; rw [if_neg (by omega)]
  refine do_sh (kd := x.k) (by omega) hx.h0 hx.h1 hcL (kif_t rfl (i.lg fun c11 h11 => linto_spec h11 ?_))
  have eI : intoL x = 0 := by unfold intoL; rw [if_pos (by omega), if_neg (by omega)]; exact d0
  rw [eI]
  refine set_spec E1.s (by omega) (by omega) fun m14 h14 O14 => tail m14 ?_ (i.only O14 ne) O14.fr1
  rw [pe]
  exact E1.st h14 h.ok O14.fr1
 ·refine do_imm (kd := x.k) (by omega) hx.i0 hx.i1 hcL (kif_t rfl (i.lg fun c11 h11 => linto_spec h11 ?_))
  have eI : intoL x = x.t := into_t (by omega)
  have eV : opR (regOf x.k) (S.n x.s.toNat) (numOf x.k x.i) = IntKind.wrap .u32 (S.n x.s.toNat + sxV x.i) := by
   rw [k47]
   have : sx x.i = sxV x.i := by
    rw [sx_eq _ hx.i0 hx.i1]; unfold sxV
    by_cases c : x.i < 32768
    ·rw [if_neg (by omega), if_pos c]
    ·rw [if_pos (by omega), if_neg c]
   show IntKind.wrap .u32 (_ + sx x.i) = _
   rw [this]
  rw [eI, eV]
  have pe : plainX S x = setS S x.t (IntKind.wrap .u32 (S.n x.s.toNat + sxV x.i)) := by unfold plainX; rw [if_pos k47]
  refine set_spec E1.s hx.t0 hx.t1 fun m14 h14 O14 => tail m14 ?_ (i.only O14 ne) O14.fr1
  rw [pe]
  exact E1.st h14 (setS_ok h.ok hx.t1 (wrap32_rng _)) O14.fr1
 ·unfold F150
  refine newI h7 fun b2 m2 hb2 K2 i2 O2 => ?_
  rw [i2.l0]
  refine lis_spec ?_
  rw [decide_eq_false (by omega)]
  refine kif_t rfl ⟨K2, kif_f rfl (tail m1 ?_ i (Fr.refl _ _))⟩
  have pe : plainX S x = S := by unfold plainX; rw [if_neg (by omega)]
  rw [pe]; exact E1
structure Okx (p : Nat) (S : St) (x : In) : Prop where
 l : classS x.k = 4 → (liesS S (vaS S x) (sizeS x.k) false).2.1 = -1 → (liesS S (vaS S x) (sizeS x.k) false).1 < p * 1024 ∨ (liesS S (vaS S x) (sizeS x.k) false).1 < 520093696 ∨ 520094080 ≤ (liesS S (vaS S x) (sizeS x.k) false).1
 s : classS x.k = 5 → (liesS S (vaS S x) (sizeS x.k) true).2.1 = -1 → (liesS S (vaS S x) (sizeS x.k) true).1 < p * 1024 ∨ (liesS S (vaS S x) (sizeS x.k) true).1 < 520093696 ∨ 520094080 ≤ (liesS S (vaS S x) (sizeS x.k) true).1
 z : x.k = 1 → x.d = 0
 t : refS S x = -1 → x.k ≠ 22 ∧ x.k ≠ 34
def wrS (p : Nat) (B : Nat → Int) (S : St) (x : In) : Prop := refS S x = -1 ∧ classS x.k = 5 ∧ evenR p (liesS S (vaS S x) (sizeS x.k) true).1 (sizeS x.k) ∧ (storeS p B S x).2.2.1 = -1
theorem ref_rng (S : St) (x : In) : refS S x = -1 ∨ (0 ≤ refS S x ∧ refS S x < 32) := by
 unfold refS
 split
 ·exact .inr ⟨by omega, by omega⟩
 split
 ·exact .inr ⟨by omega, by omega⟩
 split
 ·exact .inr ⟨by omega, by omega⟩
 split
 ·exact .inr ⟨by omega, by omega⟩
 split
 ·exact .inr ⟨by omega, by omega⟩
 split
 ·exact .inr ⟨by omega, by omega⟩
 split
 ·exact .inl rfl
 split
 ·exact .inr ⟨by omega, by omega⟩
 ·exact .inr ⟨by omega, by omega⟩
theorem act_c (p : Nat) (B : Nat → Int) (S : St) (x : In) : (actS p B S x).2.2.1 = -1 ∨ (0 ≤ (actS p B S x).2.2.1 ∧ (actS p B S x).2.2.1 < 32) := by
 unfold actS
 have l1 := lies_c (S := S) (va := vaS S x) (n := sizeS x.k) (t := false)
 have l2 := lies_c (S := S) (va := vaS S x) (n := sizeS x.k) (t := true)
 split
 ·unfold loadS; dsimp only
  split
  ·rename_i h; exact .inr (by dsimp only; omega)
  split
  ·exact .inl rfl
  ·exact .inr (by dsimp only; omega)
 split
 ·unfold storeS; dsimp only
  split
  ·rename_i h; exact .inr (by dsimp only; omega)
  split
  ·exact .inl rfl
  split
  ·exact .inl rfl
  ·exact .inr (by dsimp only; omega)
 split
 ·exact .inl rfl
 ·exact .inl rfl
theorem exec_k (h : Cpu m e q p S B M W D wv) (st : Still D) (hc : InC c x) (hx : FX x) (hd : Okx p S x) {k : Int → Mem → Prop}
  (hk : ∀ m' W', Cpu m' e q p (execS p B S x).1 (execS p B S x).2.1 M W' D wv → (W' = W ∨ (wrS p B S x ∧ W' = tW M W (liesS S (vaS S x) (sizeS x.k) true).1 (sizeS x.k))) → Fr (foot e q) m m' → k (execS p B S x).2.2 m') : F76 e 0 q.b 0 c m k := by
 unfold F76
 refine newI hc fun b m1 hb1 K i O => i.lg fun c3 h3 => ?_
 have E1 := h.keep K
 have ne : b ≠ e := fun t => h.s.live (t ▸ hb1)
 have nf : ¬ foot e q b := fun t => t.elim ne fun hb => h.b.live hb hb1
 refine refused_spec_T E1.s h3 hx ?_
 unfold execS at hk
 dsimp only at hk
 have rr := ref_rng S x
 refine kif_c _ (fun c1 => ?_) fun c1 => ?_
 ·have c1 : refS S x ≠ -1 := by simpa using c1
  rw [if_pos c1] at hk
  exact entered_spec E1 st (by omega) (by omega) fun m6 h6 F6 => hk m6 W h6 (.inl rfl) (one_foot (Fr.key K F6))
 have c1 : refS S x = -1 := by simpa using c1
 rw [if_neg (by omega)] at hk
 rw [i.l1]
 refine kif_ix hx.s0 hx.s1 ?_
 rw [ldR E1.s hx.s0 hx.s1, i.l2]
 refine kif_ix hx.t0 hx.t1 ?_
 rw [ldR E1.s hx.t0 hx.t1]
 have ac := act_c p B S x
 have e60 : x.k = 60 → classS x.k = 6 := fun t => by rw [t]; decide
 have aU : isU (S.n x.s.toNat) := h.ok.1 _ (by have := hx.s1; omega)
 have tail : ∀ (m2 : Mem) (A : Act) (W' : Nat → Bool), actS p B S x = A → Cpu m2 e q p A.1 A.2.1 M W' D wv → InB m2 b x → Fr (foot e q) m1 m2 → (W' = W ∨ (wrS p B S x ∧ W' = tW M W (liesS S (vaS S x) (sizeS x.k) true).1 (sizeS x.k))) →
   P76_17103 e 0 q.b 0 b 0 A.2.2.1 A.2.2.2 (S.n x.s.toNat) (S.n x.t.toNat) m2 (fun x43 m44 => k x43 m44) := fun m2 A W' eA E2 i2 F2 hW => by
  unfold P76_17103
  rw [eA] at ac
  rw [eA] at hk
  have F02 : Fr (foot e q) m m2 := Fr.key K F2
  refine kif_c _ (fun c2 => ?_) fun c2 => ?_
  ·have c2 : A.2.2.1 ≠ -1 := by simpa using c2
   rw [if_pos c2] at hk
   exact entered_spec E2 st (by omega) (by omega) fun m6 h6 F6 => hk m6 W' h6 hW (F02.trans (one_foot F6))
  ·rw [if_neg (by simpa using c2)] at hk
   refine go_spec E2.s fun m32 h32 O32 => ?_
   have E32 := E2.st h32 (goS_ok E2.ok 1) O32.fr1
   have i32 := i2.only O32 ne
   rw [show (0 : Nat) + 0 = 0 from rfl, i32.l0]
   have fin : ∀ (m3 : Mem) (S3 : St), Cpu m3 e q p S3 A.2.1 M W' D wv → Fr (foot e q) m m3 → (if x.k = 60 then (goS A.1 1).1 else onS (goS A.1 1).1 x (S.n x.s.toNat) (S.n x.t.toNat)) = S3 → P76_22102 e 0 q.b 0 m3 (fun x41 m42 => k x41 m42) := fun m3 S3 E3 F3 eS => by
    unfold P76_22102
    unfold goonS at hk
    rw [eS] at hk
    exact raised_spec E3.b st (line_spec E3.s fun m38 h38 O38 => hk m38 W' (E3.st h38 (lineS_ok E3.ok false) O38.fr1) hW (F3.trans (one_foot O38.fr1)))
   refine kif_c _ (fun c3 => ?_) fun c3 => ?_
   ·have c3 : x.k ≠ 60 := by simpa using c3
    refine i32.lg fun c34 h34 => on_spec E32.s h34 hx fun m35 h35 F35 => fin m35 _ (E32.st h35 (onS_ok E32.ok hx aU) F35) (F02.trans (one_foot (O32.fr1.trans F35))) (by rw [if_neg c3])
   ·have c3 : x.k = 60 := by simpa using c3
    exact fin m32 _ E32 (F02.trans (one_foot O32.fr1)) (by rw [if_pos c3])
 refine i.lg fun c12 h12 => class_spec h12 ?_
 have keepI : ∀ {m2 : Mem}, Fr (foot e q) m1 m2 → InB m2 b x := fun F => by
  obtain ⟨y, ey, r⟩ := i
  exact ⟨y, by rw [F b (by rw [ey]; simp) nf]; exact ey, r⟩
 refine kif_c _ (fun c4 => ?_) fun c4 => ?_
 ·have c4 : classS x.k = 4 := by simpa using c4
  have eA : actS p B S x = loadS p B S x := by unfold actS; rw [if_pos c4]
  refine i.lg fun c15 h15 => load_k E1 h15 hx c4 (hd.l c4) fun m18 h18 F18 => tail m18 _ W eA ?_ (keepI (one_foot F18)) (one_foot F18) (.inl rfl)
  have eB : (loadS p B S x).2.1 = B := by
   unfold loadS; dsimp only
   split
   ·rfl
   split <;> rfl
  rw [eB]; exact h18
 refine kif_c _ (fun c5 => ?_) fun c5 => ?_
 ·have c5 : classS x.k = 5 := by simpa using c5
  have eA : actS p B S x = storeS p B S x := by unfold actS; rw [if_neg (by simpa using c4), if_pos c5]
  refine i.lg fun c19 h19 => store_k E1 h19 hx c5 (hd.s c5) fun m22 W' h22 hW F22 => tail m22 _ W' eA h22 (keepI F22) F22 (hW.elim .inl fun ⟨a, b, c⟩ => .inr ⟨⟨c1, c5, a, b⟩, c⟩)
 have hk' := exK_c hx.k
 refine kif_c _ (fun c6 => ?_) fun c6 => ?_
 ·have c6 : classS x.k = 6 := by simpa using c6
  have eA : actS p B S x = (if x.k = 60 then returnS S else systemS S x, B, -1, false) := by unfold actS; rw [if_neg (by simpa using c4), if_neg (by simpa using c5), if_pos c6]
  rw [i.l0]
  refine kif_c _ (fun c60 => ?_) fun c60 => ?_
  ·rw [if_pos (by simpa using c60)] at eA
   rw [c1]
   exact return_spec E1.s fun m24 h24 O24 => tail m24 _ W eA (E1.st h24 (returnS_ok h.ok) O24.fr1) (i.only O24 ne) (one_foot O24.fr1) (.inl rfl)
  ·have c60 : x.k ≠ 60 := by simpa using c60
   rw [if_neg c60] at eA
   rw [c1]
   have hkd : x.k = 54 ∨ x.k = 55 ∨ x.k = 57 ∨ x.k = 58 := by
    have n62 : x.k ≠ 62 := fun t => by unfold refS at c1; rw [t] at c1; simp at c1; split at c1 <;> simp at c1
    have n11 : x.k ≠ 11 := fun t => by
     unfold refS at c1; rw [t] at c1
     simp at c1
     split at c1
     ·simp at c1
     split at c1 <;> simp at c1
    have n12 : x.k ≠ 12 := fun t => by
     unfold refS at c1; rw [t] at c1
     simp at c1
     split at c1
     ·simp at c1
     split at c1 <;> simp at c1
    rcases hk' with t | t | t | t | t | t | t | t | t | t | t | t | t | t | t | t | t | t | t | t | t | t <;> first | omega | (exfalso; rw [t] at c6; revert c6; decide)
   exact i.lg fun c25 h25 => system_k E1 h25 hx hkd fun m26 h26 F26 => tail m26 _ W eA h26 (keepI (one_foot F26)) (one_foot F26) (.inl rfl)
 ·have c4 : classS x.k ≠ 4 := by simpa using c4
  have c5 : classS x.k ≠ 5 := by simpa using c5
  have c6 : classS x.k ≠ 6 := by simpa using c6
  have eA : actS p B S x = (plainX S x, B, -1, false) := by unfold actS; rw [if_neg c4, if_neg c5, if_neg c6]
  rw [c1]
  have hkd : (x.k = 1 ∧ x.d = 0) ∨ x.k = 47 ∨ x.k = 7 ∨ x.k = 8 ∨ x.k = 42 ∨ x.k = 43 := by
   have ht := hd.t c1
   have hz := hd.z
   rcases hk' with t | t | t | t | t | t | t | t | t | t | t | t | t | t | t | t | t | t | t | t | t | t <;> first | omega | (exfalso; rw [t] at c6 c5 c4; revert c6 c5 c4; decide)
  exact i.lg fun c27 h27 => plain_k E1 h27 hx hkd fun m28 h28 F28 => tail m28 _ W eA h28 (keepI (one_foot F28)) (one_foot F28) (.inl rfl)
end
def rg (S : St) : Nat → Int := fun i => if i < 34 then S.n i else 0
def liftS (S : St) (l : List Op19) : St := { S with n := fun i => if i < 34 then run18 (rg S) l i else S.n i }
def advS (S : St) : St := ((S.putN 34 (S.n 35)).putN 35 (IntKind.wrap .u32 (S.n 35 + 4))).putP 36 false
def liftX (S : St) (x : In) : St := lineS (advS (goS (liftS S (opsOf x)) 1).1) false
theorem run18_u : ∀ (l : List Op19) {f : Nat → Int}, AllU f → (∀ o ∈ l, OpR o) → AllU (run18 f l)
 | [], f, h, _ => h
 | o :: l, f, h, ho => run18_u l (one18_u h (ho o (by simp))) fun o' h' => ho o' (by simp [h'])
theorem rg_u {S : St} (ok : S.ok) : AllU (rg S) := fun i => by
 unfold rg; split
 ·exact ok.1 i (by omega)
 ·exact (⟨by omega, by omega⟩ : isU 0)
theorem liftS_ok {S : St} (ok : S.ok) {l : List Op19} (ho : ∀ o ∈ l, OpR o) : (liftS S l).ok := by
 refine ⟨fun i hi => ?_, ?_⟩
 ·unfold liftS; dsimp only; split
  ·exact run18_u l (rg_u ok) ho i
  ·exact ok.1 i hi
 ·exact ok.2
theorem advS_ok {S : St} (ok : S.ok) : (advS S).ok := by
 have w := wrap32_rng (S.n 35 + 4)
 have e35 := ok.1 35 (by omega)
 exact putP_ok (putN_ok (putN_ok ok (by omega) e35.1 e35.2) (by omega) w.1 w.2)
section
variable {m : Mem} {e : Nat} {q : BB} {p : Nat} {S : St} {B : Nat → Int} {M W : Nat → Bool} {D : Dv} {wv : AV} {c : Nat → AV} {x : In}
theorem slS_w {esz b o n : Nat} (h0 : 0 < n) (k : AV → Prop) : slS esz (.sl b o n (.ex n)) none none k = k (.sl b o n (.ex n)) := by
 show kif (decide ((0 : Int) ≤ 0)) (kif (decide ((0 : Int) ≤ (n : Int))) (kif (decide ((n : Int) ≤ (n : Int))) (kite ((0 : Int).toNat < n) (k (.sl b (o + (0 : Int).toNat * esz) ((n : Int).toNat - (0 : Int).toNat) (.ex (n - (0 : Int).toNat)))) (k (.sl b o 0 (.ex 0)))) False) False) False = _
 rw [kif_te (by simp), kif_te (by simp), kif_te (by simp), kite_eq, if_pos (by simpa using h0), Int.toNat_natCast]
 simp
theorem cop_st {v : AV} {n : Nat} {f : Nat → Int} {d : Nat → AV} (h : IsSt m e S) (hx : IsR m 1 v n d) (hn : 32 ≤ n) (hd : ∀ i, i < 32 → d i = vu (f i)) {k : KV} (hk : ∀ m' u, IsSt m' e { S with n := fun i => if i < 32 then f i else S.n i } → Only m e m' → k u m') : copS 1 (.sl e 0 32 (.ex 32)) v m k := by
 unfold copS
 refine ksrc_r hx fun d' hd' => ?_
 dsimp only
 obtain ⟨y, ey, yn, yr, yc, yx⟩ := h
 rw [kite_eq, if_neg (by omega)]
 unfold kobj; rw [ey]
 dsimp only
 rw [yr]
 refine kite_t (by omega) (hk _ _ ⟨_, set_same _ _ _, yn, rfl, fun i hi => ?_, fun j hj => ?_⟩ (Only.set _ _ _))
 ·simp only [splice]
  by_cases c1 : i < 32
  ·rw [if_pos (by omega), Nat.sub_zero, hd' i (by omega), hd i c1, stc_u (isP3_lo (by omega)) (by omega)]; dsimp only; rw [if_pos c1]
  ·rw [if_neg (by omega), yc i hi]
   unfold stc; dsimp only; rw [if_neg c1]
 ·simp only [splice]
  rw [if_neg (by omega)]; exact yx j hj
theorem liftE_spec (h : Cpu m e q p S B M W D wv) (st : Still D) (r0 : S.n 0 = 0) {v : AV} {l : List Op19} (hl : l.length ≤ 8) (ho : ∀ o ∈ l, OpK o) (hv : IsOps m v (optS l)) (nv : ¬ own v e) {k : Mem → Prop} (hk : ∀ m', Cpu m' e q p (lineS (advS (goS (liftS S l) 1).1) false) B M W D wv → Fr (one1 e) m m' → k m')
  (hq : 0 < S.q) (hx0 : S.x 0 = .ptr q.b 0) : F98 e 0 v m k := by
 unfold F98
 refine newK_i fun b2 m1 hb2 K1 e2 O1 => ?_
 rw [slS_w (by decide), slS_w (by decide)]
 have E1 := h.keep K1
 have ne : b2 ≠ e := fun t => h.s.live (t ▸ hb2)
 have L2 : IsL m1 1 (.sl b2 0 40 (.ex 40)) 40 Z40b := (IsL.row (esz := 1) e2 rfl rfl)
 have R1 : IsR m1 1 (.sl e 0 32 (.ex 32)) 32 (fun i => vu (S.n i)) := by
  obtain ⟨y, ey, yn, yr, yc, yx⟩ := E1.s
  exact .sl e 0 32 (.ex 32) y _ ey (by omega) fun i hi => by
   rw [Nat.zero_add, yc i (by omega)]; exact stc_u (isP3_lo (by omega)) (by omega)
 refine copL L2 R1 fun m6 u h6 F6 _ => ?_
 have F6' : Fr (one1 b2) m1 m6 := F6.mono fun b _ t => t.symm
 have ns6 : ¬ one1 b2 e := fun t => ne (t : e = b2).symm
 have S6 : IsSt m6 e S := E1.s.fr F6' ns6
 rw [show (0 : Nat) + 0 + 32 = 32 from rfl, show (0 : Nat) + 0 + 33 = 33 from rfl, ldI_st S6 (by omega) rfl, ldI_st S6 (by omega) rfl]
 have K06 : Keeps m m6 := Fr.keeps K1 F6' fun x hx => by cases hx; exact hb2
 refine stC_r h6 (i := 32) (by omega) (by omega) fun m9 h9 F9 _ => stC_r h9 (i := 33) (by omega) (by omega) fun m10 h10 F10 _ => ?_
 have F10' : Fr (one1 b2) m1 m10 := (F6.trans (F9.trans F10)).mono fun b _ t => t.symm
 have K010 : Keeps m m10 := Fr.keeps K1 F10' fun x hx => by cases hx; exact hb2
 have gU := rg_u h.ok
 have g0 : rg S 0 = 0 := r0
 -- the registers' row
 have hRg : ∃ N R, Rg m10 b2 0 (rg S) N R := by
  cases h10 with
  | sl b o n cap y c g1 g2 g3 g4 g5 =>
   refine ⟨y.n, fun j => y.c j, ⟨y, g1, rfl, g4, fun i hi => ?_, fun j hj hj2 => rfl⟩, by omega, gU⟩
   have := g3 i (by omega)
   rw [this]
   unfold upd rg
   by_cases c33 : i = 33
   ·subst c33; simp
   rw [if_neg (by simpa using c33)]
   by_cases c32 : i = 32
   ·subst c32; simp
   rw [if_neg (by simpa using c32)]
   by_cases c : i < 32
   ·dsimp only; rw [if_pos (by omega), if_pos (by omega)]
   ·dsimp only; rw [if_neg (by omega), if_neg (by omega)]
    have : ∀ i, i < 40 → isVz (Z40b i) = true := by decide +kernel
    exact isVz_eq (this i hi)
 obtain ⟨N, R, hRg⟩ := hRg
 obtain ⟨hrun, hoK⟩ := optS_run ho g0
 refine irun_spec (Nat.le_trans (optS_len l) hl) hRg (hv.keep K010) (fun t => hv.live t hb2) hoK fun m12 h12 F12 => ?_
 rw [upd00 g0] at h12
 have K012 : Keeps m m12 := Fr.keeps K010 F12 fun x hx => by cases hx; exact hb2
 have S12 : IsSt m12 e S := h.s.keep K012
 rw [slS_w (by decide), slS_w (by decide)]
 have R12 : IsR m12 1 (.sl b2 0 40 (.ex 40)) 40 (fun i => vu (run18 (rg S) (optS l) i)) := by
  obtain ⟨y, ey, yn, yr, yc, _⟩ := h12.e
  have := h12.n
  exact .sl b2 0 40 (.ex 40) y _ ey (by omega) fun i hi => yc i (by omega)
 have hrv : ∀ i, i < 34 → run18 (rg S) (optS l) i = run18 (rg S) l i := fun i hi => hrun i hi
 refine cop_st (f := run18 (rg S) l) S12 R12 (by omega) (fun i hi => by rw [hrv i (by omega)]) fun m16 u16 h16 O16 => ?_
 have hR16 : Rg m16 b2 0 (run18 (rg S) (optS l)) N R := h12.fr O16.fr1 fun t => ne t
 have e32 : ∀ k, ldI .u32 m16 b2 32 k = k (run18 (rg S) l 32) := fun k => by
  have := hR16.ld (i := 32) (by omega) k
  rw [Nat.zero_add] at this
  rw [this, hrv 32 (by omega)]
 have e33 : ∀ k, ldI .u32 m16 b2 33 k = k (run18 (rg S) l 33) := fun k => by
  have := hR16.ld (i := 33) (by omega) k
  rw [Nat.zero_add] at this
  rw [this, hrv 33 (by omega)]
 rw [e32, e33]
 refine stC_st h16 (by omega) rfl fun m19 h19 O19 => stC_st h19 (by omega) rfl fun m20 h20 O20 => ?_
 have eS : ((({ S with n := fun i => if i < 32 then run18 (rg S) l i else S.n i } : St).putN 32 (run18 (rg S) l 32)).putN 33 (run18 (rg S) l 33)) = liftS S l := St.ext (fun i => by
  unfold St.putN liftS upd
  dsimp only
  by_cases c33 : i = 33
  ·subst c33; simp
  rw [if_neg c33]
  by_cases c32 : i = 32
  ·subst c32; simp
  rw [if_neg c32]
  by_cases c : i < 32
  ·rw [if_pos c, if_pos (by omega)]
  ·rw [if_neg c, if_neg (by omega)]) fun i => rfl
 rw [eS] at h20
 refine go_spec h20 fun m22 h22 O22 => ?_
 rw [show (0 : Nat) + 0 + 35 = 35 from rfl, show (0 : Nat) + 0 + 34 = 34 from rfl, show (0 : Nat) + 0 + 36 = 36 from rfl, show (0 : Nat) + 73 = 73 from rfl]
 rw [ldI_st h22 (by omega) rfl]
 refine stC_st h22 (by omega) rfl fun m24 h24 O24 => ?_
 rw [ldI_st h24 (by omega) rfl, putN_other _ _ (by decide)]
 refine stC_st h24 (by omega) rfl fun m26 h26 O26 => stB_st h26 (by omega) rfl fun m27 h27 O27 => ?_
 have F027 : Fr (one1 e) m m27 := Fr.key K012 (((((O16.fr1.trans O19.fr1).trans O20.fr1).trans O22.fr1).trans O24.fr1).trans (O26.fr1.trans O27.fr1))
 have okL := liftS_ok (l := l) h.ok fun o h => (ho o h).r
 have E27 : Cpu m27 e q p (advS (goS (liftS S l) 1).1) B M W D wv := h.st h27 (advS_ok (goS_ok okL 1)) F027
 have eq27 : ∀ T : St, (goS T 1).1.q = T.q ∧ (goS T 1).1.x = T.x := fun T => by
  unfold goS; split
  ·exact ⟨rfl, rfl⟩
  split <;> exact ⟨rfl, rfl⟩
 have q27 : (advS (goS (liftS S l) 1).1).q = S.q := (eq27 (liftS S l)).1
 have x27 : (advS (goS (liftS S l) 1).1).x = S.x := (eq27 (liftS S l)).2
 have tl : ∀ k, ldA m27 e 73 k = k (.ptr q.b 0) := fun k => tail_ld (j := 0) E27.s (by rw [q27]; exact hq) (by rw [x27]; exact hx0) rfl k
 rw [tl]
 refine raised_spec E27.b st (line_spec E27.s fun m33 h33 O33 => hk m33 (E27.st h33 (lineS_ok E27.ok false) O33.fr1) (F027.trans O33.fr1))
end
def Tl (S T : St) : Prop := T.x = S.x ∧ T.q = S.q
theorem Tl.refl (S : St) : Tl S S := ⟨rfl, rfl⟩
theorem tl_set (S : St) (n v : Int) : Tl S (setS S n v) := by unfold setS; split <;> exact ⟨rfl, rfl⟩
structure Calm (S : St) : Prop where
 w : S.p 71 = false
 l : bits .andNot .u32 (S.n 52) 1024 = S.n 52
theorem Calm.line {S : St} (h : Calm S) : lineS S false = S := by
 unfold lineS; rw [if_neg (by simp), h.l]; exact st_same
theorem st_sameP {S : St} {i : Nat} : S.putP i (S.p i) = S := St.ext (fun j => rfl) fun j => by unfold St.putP upd; dsimp only; split <;> simp [*]
def stepS (p : Nat) (B : Nat → Int) (S : St) : St × (Nat → Int) × Int :=
 if takenS S = true then (entS S 0 false, B, 0)
 else
  let L := liesS S (S.n 34) 4 false
  if L.2.1 ≠ -1 then (entS (badC S (S.n 34) L.2.1) L.2.1 L.2.2, B, L.2.1)
  else if evenR p L.1 4 then execS p B S (ofS (wdB B L.1 4)) else (entS S 6 false, B, 6)
def instS (B : Nat → Int) (S : St) : In := ofS (wdB B (liesS S (S.n 34) 4 false).1 4)
structure Good (p : Nat) (B : Nat → Int) (S : St) : Prop where
 c : Calm S
 r0 : S.n 0 = 0
 dev : (liesS S (S.n 34) 4 false).1 < p * 1024 ∨ (liesS S (S.n 34) 4 false).1 < 520093696 ∨ 520094080 ≤ (liesS S (S.n 34) 4 false).1
 x : takenS S = false → (liesS S (S.n 34) 4 false).2.1 = -1 → evenR p (liesS S (S.n 34) 4 false).1 4 → FX (instS B S) ∧ Okx p S (instS B S)
def wrote (p : Nat) (B : Nat → Int) (S : St) : Prop := takenS S = false ∧ (liesS S (S.n 34) 4 false).2.1 = -1 ∧ evenR p (liesS S (S.n 34) 4 false).1 4 ∧ wrS p B S (instS B S)
def wrA (B : Nat → Int) (S : St) : Int := (liesS S (vaS S (instS B S)) (sizeS (instS B S).k) true).1
def wrN (B : Nat → Int) (S : St) : Int := sizeS (instS B S).k
section
variable {m : Mem} {e : Nat} {q : BB} {p : Nat} {S : St} {B : Nat → Int} {M W : Nat → Bool} {D : Dv} {wv : AV} {c : Nat → AV} {x : In}
theorem ldv_at (B : Nat → Int) (a : Int) : isU (wdB B a 4) := ldv_u _ _
theorem fetch_k (h : Cpu m e q p S B M W D wv) (st : Still D) (g : Good p B S) (nt : takenS S = false) {k : Int → Mem → Prop}
  (hk : ∀ m' W', Cpu m' e q p (stepS p B S).1 (stepS p B S).2.1 M W' D wv → (W' = W ∨ (wrote p B S ∧ W' = tW M W (wrA B S) (wrN B S))) → Fr (foot e q) m m' → k (stepS p B S).2.2 m') :
  F75 e 0 q.b 0 m fun c15 x16 x17 m18 => newK m18 ⟨6, Z6, 32, false⟩ fun b20 m19 => stG 6 m19 b20 0 c15 fun m21 => kif (x16 != (-1)) (F74 e 0 q.b 0 x16 x17 m21 fun x22 m23 => k x22 m23) (ldG 6 m21 b20 0 fun c24 => F76 e 0 q.b 0 c24 m21 fun x25 m26 => k x25 m26) := by
 unfold F75
 refine newZ z6_in fun b2 m1 hb2 K1 i2 O1 => ?_
 have E1 := h.keep K1
 have ne : b2 ≠ e := fun t => h.s.live (t ▸ hb2)
 rw [show (0 : Nat) + 34 = 34 from rfl, ldI_st E1.s (by omega) rfl]
 have pu := h.ok.1 34 (by omega)
 refine seg_spec E1.s pu.1 pu.2 ?_
 unfold stepS at hk
 rw [nt, if_neg (by simp)] at hk
 dsimp only at hk
 have lc := lies_c (S := S) (va := S.n 34) (n := 4) (t := false)
 have lu := lies_u (S := S) (va := S.n 34) (n := 4) (t := false)
 -- an exception of fetching
 have exc : ∀ (m2 : Mem) (S2 : St) (cd : Int) (r : Bool), Cpu m2 e q p S2 B M W D wv → InB m2 b2 ⟨0, 0, 0, 0, 0, 0⟩ → Fr (foot e q) m m2 → Keeps m1 m2 ∨ True → cd ≠ -1 → 0 ≤ cd → cd < 32 → (∀ m' W', Cpu m' e q p (entS S2 cd r) B M W' D wv → (W' = W ∨ (wrote p B S ∧ W' = tW M W (wrA B S) (wrN B S))) → Fr (foot e q) m m' → k cd m') →
   stG 6 m2 b2 0 Z6 fun m10 => ldG 6 m10 b2 0 fun c19 => newK m10 ⟨6, Z6, 32, false⟩ fun b20 m19 => stG 6 m19 b20 0 c19 fun m21 => kif (cd != (-1)) (F74 e 0 q.b 0 cd r m21 fun x22 m23 => k x22 m23) (ldG 6 m21 b20 0 fun c24 => F76 e 0 q.b 0 c24 m21 fun x25 m26 => k x25 m26) := fun m2 S2 cd r E2 i F2 _ hc1 hc2 hc3 hkk => by
  refine i.sg z6_in fun m10 i10 O10 => i10.lg fun c19 h19 => newF h19 fun b20 m21 hb20 K21 i21 => kif_t (by simpa using hc1) ?_
  have fb : ¬ foot e q b2 := fun t => t.elim ne fun hb => h.b.live hb hb2
  have F10 : Fr (foot e q) m m10 := fun y hy hf => by
   have ny : y ≠ b2 := fun t => hy (t ▸ hb2)
   rw [O10 y ny]; exact F2 y hy hf
  have E10 : Cpu m10 e q p S2 B M W D wv := ⟨E2.s.only O10 fun t => ne t.symm, E2.ok, E2.b.fr (O10.fr1) (fun y hy t => fb (.inr (by have t : y = b2 := t; subst t; exact hy))) (fun y hy t => by have t : y = b2 := t; subst t; exact (h.b.wl.live hy) hb2), E2.de, E2.dw⟩
  exact entered_spec (E10.keep K21) st hc2 hc3 fun m' h' F' => hkk m' W h' (.inl rfl) (F10.trans (Fr.key K21 (one_foot F')))
 refine kif_c _ (fun c1 => ?_) fun c1 => ?_
 ·have c1 : (liesS S (S.n 34) 4 false).2.1 ≠ -1 := by simpa using c1
  rw [if_pos c1] at hk
  rw [ldI_st E1.s (by omega) rfl]
  refine cbad_spec E1.s fun m9 h9 O9 => ?_
  refine exc m9 _ _ _ (E1.st h9 (badS_ok h.ok pu.1 pu.2 _) O9.fr1) (i2.only O9 ne) (one_foot (Fr.key K1 O9.fr1)) (.inr trivial) c1 (by omega) (by omega) hk
 have c1 : (liesS S (S.n 34) 4 false).2.1 = -1 := by simpa using c1
 rw [if_neg (by simpa using c1)] at hk
 rw [show (0 : Nat) + 72 = 72 from rfl, ldT_st E1.s]
 refine bload_spec E1.b lu (by simp) g.dev (kif_c _ (fun c2 => ?_) fun c2 => ?_)
 ·have c2 : ¬ evenR p (liesS S (S.n 34) 4 false).1 4 := by simpa using c2
  rw [if_neg c2] at hk
  exact exc m1 S 6 false E1 i2 (K1.fr _) (.inr trivial) (by decide) (by decide) (by decide) hk
 have c2 : evenR p (liesS S (S.n 34) 4 false).1 4 := by simpa using c2
 rw [if_pos c2] at hk
 rw [if_pos c2]
 have wu := ldv_at B (liesS S (S.n 34) 4 false).1
 obtain ⟨gx, gd⟩ := g.x nt c1 c2
 refine of_spec wu.1 wu.2 fun c16 h16 => i2.sg h16 fun m18 i18 O18 => i18.lg fun c21 h21 => newF h21 fun b20 m21 hb20 K21 i21 => kif_f rfl (i21.lg fun c24 h24 => ?_)
 have fb : ¬ foot e q b2 := fun t => t.elim ne fun hb => h.b.live hb hb2
 have E18 : Cpu m18 e q p S B M W D wv := ⟨E1.s.only O18 fun t => ne t.symm, E1.ok, E1.b.fr (O18.fr1) (fun y hy t => fb (.inr (by have t : y = b2 := t; subst t; exact hy))) (fun y hy t => by have t : y = b2 := t; subst t; exact (h.b.wl.live hy) hb2), E1.de, E1.dw⟩
 have K018 : Keeps m m18 := Fr.keeps K1 O18.fr1 fun y hy => by cases hy; exact hb2
 refine exec_k (E18.keep K21) st h24 gx gd fun m' W' h' hW F' => hk m' W' h' (hW.elim .inl fun ⟨a, b⟩ => .inr ⟨⟨nt, c1, c2, a⟩, b⟩) (Fr.key (K018.trans K21) F')
theorem step_k (h : Cpu m e q p S B M W D wv) (st : Still D) (g : Good p B S) (nd : dueD D (S.n 72) = false) {k : Int → Mem → Prop}
  (hk : ∀ m' W' u, Cpu m' e q p (stepS p B S).1 (stepS p B S).2.1 M W' { D with up := u } wv → (W' = W ∨ (wrote p B S ∧ W' = tW M W (wrA B S) (wrN B S))) → Fr (foot e q) m m' → k (stepS p B S).2.2 m') : F43 e 0 q.b 0 m k := by
 unfold F43
 rw [show (0 : Nat) + 72 = 72 from rfl, show (0 : Nat) + 71 = 71 from rfl, ldT_st h.s]
 refine fire_spec h.b st nd fun m3 u h3 F3 => ?_
 have hne : ¬ one1 q.ln e := fun t => h.de (by have t : e = q.ln := t; rw [t]; simp [BB.all])
 have F3' : Fr (foot e q) m m3 := F3.mono fun b _ t => .inr (by have t : b = q.ln := t; rw [t]; simp [BB.all])
 have E3 : Cpu m3 e q p S B M W { D with up := u } wv := ⟨h.s.fr F3 hne, h.ok, h3, h.de, h.dw⟩
 have st' : Still { D with up := u } := st.up
 refine raised_spec h3 st' (line_spec E3.s fun m6 h6 O6 => ?_)
 rw [g.c.line] at h6
 have E6 := E3.st h6 h.ok O6.fr1
 rw [ldB_st h6 (by omega) rfl, g.c.w]
 refine kif_f rfl ?_
 unfold P43_7102
 rw [show (0 : Nat) + 71 = 71 from rfl]
 refine stB_st h6 (by omega) rfl fun m10 h10 O10 => ?_
 rw [← g.c.w, st_sameP] at h10
 have E10 := E6.st h10 h.ok O10.fr1
 have F10 : Fr (foot e q) m m10 := F3'.trans (one_foot (O6.fr1.trans O10.fr1))
 refine taken_spec h10 h.ok (kif_c _ (fun c1 => ?_) fun c1 => ?_)
 ·unfold stepS at hk
  rw [if_pos c1] at hk
  exact entered_spec E10 st' (by decide) (by decide) fun m' h' F' => hk m' W u h' (.inl rfl) (F10.trans (one_foot F'))
 ·exact fetch_k E10 st' g c1 fun m' W' h' hW F' => hk m' W' u h' hW (F10.trans F')
theorem due_k (h : Cpu m e q p S B M W D wv) (st : Still D) (cm : Calm S) (hq : 0 < S.q) (hx0 : S.x 0 = .ptr q.b 0) {k : Bool → Mem → Prop} (hk : ∀ m', Cpu m' e q p S B M W D wv → Fr (one1 e) m m' → k (dueD D (S.n 72) || takenS S) m') : F40 e 0 m k := by
 unfold F40
 have tl : ∀ {mm : Mem}, Cpu mm e q p S B M W D wv → ∀ k, ldA mm e (0 + 73) k = k (.ptr q.b 0) := fun E k => by
  rw [show (0 : Nat) + 73 = 73 + 0 from rfl]
  exact tail_ld (j := 0) E.s hq hx0 rfl k
 rw [tl h]
 dsimp only [kptr]
 refine bnext_spec h.b ?_
 rw [tl h]
 dsimp only
 refine raised_spec h.b st (line_spec h.s fun m12 h12 O12 => ?_)
 rw [cm.line] at h12
 have E12 := h.st h12 h.ok O12.fr1
 have rest : dueD D (S.n 72) = false → (ldB m12 e (0 + 0 + 71) fun x14 => kif x14 (k true m12) (F61 e (0 + 0) m12 fun x15 m16 => k x15 m16)) := fun nd => by
  rw [show (0 : Nat) + 0 + 71 = 71 from rfl, ldB_st h12 (by omega) rfl, cm.w]
  refine kif_f rfl (taken_spec h12 h.ok ?_)
  have := hk m12 E12 O12.fr1
  rw [nd, Bool.false_or] at this
  exact this
 refine kif_c _ (fun c1 => ?_) fun c1 => ?_
 ·rw [show (0 : Nat) + 0 + 72 = 72 from rfl, ldT_st h12]
  refine kif_c _ (fun c2 => ?_) fun c2 => rest (by unfold dueD; rw [c1, c2]; rfl)
  have := hk m12 E12 O12.fr1
  rw [show dueD D (S.n 72) = true by unfold dueD; rw [c1, c2]; rfl, Bool.true_or] at this
  exact this
 ·exact rest (by unfold dueD; rw [c1]; rfl)
end
theorem appK {m : Mem} {F : Nat → Prop} {esz bytes q : Nat} {t e : TypeId} {v : AV} {n n' : Nat} {c d : Nat → AV} {k : KV} (h : IsL m esz v n c) (hq : q = n' * esz) (hd : ∀ i, i < n' * esz → d i = c (n * esz + i)) (hb : (n + n') * (bytes + 1) ≤ 140737488355328) (hF : ∀ y, F y → ¬ own v y)
  (hk : ∀ v' m', IsL m' esz v' (n + n') c → Fr (own v) m m' → (∀ b, own v' b → own v b ∨ m.obj b = none) → k v' m') : newK m ⟨q, d, t, false⟩ fun b m1 => appS esz bytes e v (.sl b 0 n' (.ex n')) m1 fun v' m' => KeepsIn F m1 m' ∧ (k v' m') := by
 refine newK_i fun b m1 hb1 K e1 O => appG (h.keep K) (IsL.row (esz := esz) e1 hq rfl).r hd hb fun v' m2 g1 g2 g3 => ⟨fun y hy hl => g2 y hl (hF y hy), hk v' m2 g1 (fun b' hb' ho => ?_) fun b' ho => ?_⟩
 ·rw [g2 b' (by rw [K b' hb']; exact hb') ho, K b' hb']
 ·rcases g3 b' ho with h1 | h1
  ·exact .inl h1
  ·exact .inr (newK_none K h1)
theorem IsL.one {m : Mem} {esz : Nat} {v : AV} {n : Nat} {c : Nat → AV} (h : IsL m esz v n c) : v.one = true := by
 rcases h.form with ⟨a, rfl⟩ | ⟨b, o, cap, rfl⟩ <;> rfl
def wdAt (B : Nat → Int) (a : Int) (i : Nat) : Int := wdB B (a + 4 * i) 4
def inAt (B : Nat → Int) (a : Int) (i : Nat) : In := ofS (wdAt B a i)
def cW (B : Nat → Int) (a : Int) : Nat → AV := fun i => vu (wdAt B a i)
structure Bd (m0 m : Mem) (b : Nat) (B : Nat → Int) (a : Int) (n : Nat) (v1 v2 v3 : AV) (c2 c3 : Nat → AV) : Prop where
 box : IsCl m b [vu a, v1, v2, v3]
 w : IsL m 1 v1 n (cW B a)
 i : IsL m 6 v2 n c2
 ii : ∀ i, i < n → InC (fun j => c2 (i * 6 + j)) (inAt B a i)
 o : IsL m 1 v3 n c3
 oo : ∀ i, i < n → (c3 i).one = true ∧ IsOps m (c3 i) (optS (opsOf (inAt B a i)))
 K : Keeps m0 m
 nb : m0.obj b = none
 x1 : ∀ x, own v1 x → m0.obj x = none ∧ x ≠ b ∧ ¬ own v2 x ∧ ¬ own v3 x ∧ ∀ i, i < n → ¬ own (c3 i) x
 x2 : ∀ x, own v2 x → m0.obj x = none ∧ x ≠ b ∧ ¬ own v3 x ∧ ∀ i, i < n → ¬ own (c3 i) x
 x3 : ∀ x, own v3 x → m0.obj x = none ∧ x ≠ b ∧ ∀ i, i < n → ¬ own (c3 i) x
 x4 : ∀ i, i < n → ∀ x, own (c3 i) x → m0.obj x = none ∧ x ≠ b
theorem Bd.keep {m0 m m' : Mem} {b : Nat} {B : Nat → Int} {a : Int} {n : Nat} {v1 v2 v3 : AV} {c2 c3 : Nat → AV} (h : Bd m0 m b B a n v1 v2 v3 c2 c3) (K : Keeps m m') : Bd m0 m' b B a n v1 v2 v3 c2 c3 :=
 ⟨h.box.keep K, h.w.keep K, h.i.keep K, h.ii, h.o.keep K, fun i hi => ⟨(h.oo i hi).1, (h.oo i hi).2.keep K⟩, h.K.trans K, h.nb, h.x1, h.x2, h.x3, h.x4⟩
theorem of_i {w : Int} (w0 : 0 ≤ w) : 0 ≤ (ofS w).i := by
 unfold ofS withS
 dsimp only
 split
 ·omega
 ·split <;> omega
theorem add_k {m0 m : Mem} {b : Nat} {B : Nat → Int} {a : Int} {n : Nat} {v1 v2 v3 : AV} {c2 c3 : Nat → AV} (h : Bd m0 m b B a n v1 v2 v3 c2 c3) (hn : n ≤ 1000) {c : Nat → AV} (hc : InC c (inAt B a n)) (ho : ∀ o ∈ opsOf (inAt B a n), OpK o) {k : Mem → Prop}
  (hk : ∀ m' w1 w2 w3 d2 d3, Bd m0 m' b B a (n + 1) w1 w2 w3 d2 d3 → k m') : F95 b 0 (wdAt B a n) c m k := by
 unfold F95
 refine newI hc fun b2 m1 hb2 K1 i2 O1 => ⟨fun y => y = b ∨ y = b2, .inl rfl, ?_⟩
 have h1 := h.keep K1
 have ne2 : b2 ≠ b := fun t => h.box.live (t ▸ hb2)
 have l1 : ∀ {mm : Mem} {u1 u2 u3 : AV}, IsCl mm b [vu a, u1, u2, u3] → u1.one = true → ∀ k, ldA mm b (0 + 1) k = k u1 := fun hh h1 k => hh.lA (i := 1) (show 1 < 4 by decide) rfl h1 k
 have l2 : ∀ {mm : Mem} {u1 u2 u3 : AV}, IsCl mm b [vu a, u1, u2, u3] → u2.one = true → ∀ k, ldA mm b (0 + 2) k = k u2 := fun hh h1 k => hh.lA (i := 2) (show 2 < 4 by decide) rfl h1 k
 have l3 : ∀ {mm : Mem} {u1 u2 u3 : AV}, IsCl mm b [vu a, u1, u2, u3] → u3.one = true → ∀ k, ldA mm b (0 + 3) k = k u3 := fun hh h1 k => hh.lA (i := 3) (show 3 < 4 by decide) rfl h1 k
 have o1b : ¬ own v1 b := fun t => (h.x1 b t).2.1 rfl
 have o2b : ¬ own v2 b := fun t => (h.x2 b t).2.1 rfl
 have o3b : ¬ own v3 b := fun t => (h.x3 b t).2.1 rfl
 have o1c : ¬ own v1 b2 := fun t => h.w.live t hb2
 have o2c : ¬ own v2 b2 := fun t => h.i.live t hb2
 have o3c : ¬ own v3 b2 := fun t => h.o.live t hb2
 rw [l1 h1.box h.w.one]
 refine appK (n' := 1) h1.w rfl (fun i hi => ?_) (by omega) (fun y hy => ?_) fun v7 m8 g8 F8 o8 => ?_
 ·have : i = 0 := by omega
  subst this
  show _ = cW B a (n * 1 + 0)
  rw [Nat.mul_one]; rfl
 ·rcases hy with rfl | rfl
  ·exact o1b
  ·exact o1c
 have box8 := h1.box.fr F8 o1b
 have i8 := h1.i.fr F8 fun x hx t => (h.x1 x t).2.2.1 hx
 have s8 := h1.o.fr F8 fun x hx t => (h.x1 x t).2.2.2.1 hx
 have oo8 : ∀ i, i < n → IsOps m8 (c3 i) (optS (opsOf (inAt B a i))) := fun i hi => (h1.oo i hi).2.fr F8 fun x hx t => (h.x1 x t).2.2.2.2 i hi hx
 have i28 : InB m8 b2 (inAt B a n) := by
  obtain ⟨y, ey, r⟩ := i2
  exact ⟨y, by rw [F8 b2 (by rw [ey]; simp) o1c]; exact ey, r⟩
 have K08 : Keeps m0 m8 := Fr.keeps h1.K F8 fun x hx => (h.x1 x hx).1
 refine ⟨.inl rfl, ?_⟩
 rw [l2 box8 h.i.one]
 refine ⟨.inr rfl, i28.lg fun c10 h10 => ?_⟩
 have i8' := i8.congr (d := fun i => if i < n * 6 then c2 i else c10 (i - n * 6)) fun i hi => by rw [if_pos hi]
 refine appK (n' := 1) i8' rfl (fun i hi => ?_) (by omega) (fun y hy => ?_) fun v13 m14 g14 F14 o14 => ?_
 ·simp only [splice]
  rw [if_pos (by omega), if_neg (by omega)]; congr 1; omega
 ·rcases hy with rfl | rfl
  ·exact o2b
  ·exact o2c
 have box14 := box8.fr F14 o2b
 have own7 : ∀ x, own v7 x → ¬ own v2 x := fun x hx t => by
  rcases o8 x hx with h' | h'
  ·exact (h.x1 x h').2.2.1 t
  ·exact h1.i.live t h'
 have w14 := g8.fr F14 fun x hx t => own7 x hx t
 have s14 := s8.fr F14 fun x hx t => (h.x2 x t).2.2.1 hx
 have oo14 : ∀ i, i < n → IsOps m14 (c3 i) (optS (opsOf (inAt B a i))) := fun i hi => (oo8 i hi).fr F14 fun x hx t => (h.x2 x t).2.2.2 i hi hx
 have i214 : InB m14 b2 (inAt B a n) := by
  obtain ⟨y, ey, r⟩ := i28
  exact ⟨y, by rw [F14 b2 (by rw [ey]; simp) o2c]; exact ey, r⟩
 have K014 : Keeps m0 m14 := Fr.keeps K08 F14 fun x hx => (h.x2 x hx).1
 refine box14.sV (i := 1) (show 1 < 4 by decide) g8.one fun m15 box15 O15 => box15.sV (i := 2) (show 2 < 4 by decide) g14.one fun m16 box16 O16 => ?_
 have box16 : IsCl m16 b [vu a, v7, v13, v3] := box16
 have O16' := O15.trans O16
 have F16 : Fr (one1 b) m14 m16 := O16'.fr1
 have own7b : ¬ own v7 b := fun t => by
  rcases o8 b t with h' | h'
  ·exact o1b h'
  ·exact h1.box.live h'
 have own13b : ¬ own v13 b := fun t => by
  rcases o14 b t with h' | h'
  ·exact o2b h'
  ·exact box8.live h'
 have nf : ∀ {u : AV}, ¬ own u b → ∀ x, own u x → ¬ one1 b x := fun hu x hx t => by
  have t : x = b := t
  subst t; exact hu hx
 have w16 := w14.fr F16 (nf own7b)
 have g16 := g14.fr F16 (nf own13b)
 have s16 := s14.fr F16 (nf o3b)
 have oo16 : ∀ i, i < n → IsOps m16 (c3 i) (optS (opsOf (inAt B a i))) := fun i hi => (oo14 i hi).fr F16 (nf fun t => (h.x4 i hi b t).2 rfl)
 have i216 := i214.only O16' ne2
 have K016 : Keeps m0 m16 := Fr.keeps K014 F16 fun x hx => by
  have hx : x = b := hx
  subst hx; exact h.nb
 refine ⟨fun y => y = b ∨ y = b2, .inl rfl, ?_⟩
 rw [l3 box16 h.o.one]
 refine ⟨.inr rfl, i216.lg fun c19 h19 => ?_⟩
 have hw0 : 0 ≤ (inAt B a n).i := of_i (ldv_u _ _).1
 refine lof_spec h19 hw0 fun v20 m21 h20 K21 o20 => ⟨fun y hy hl => K21 y hl, ?_⟩
 obtain ⟨len2, opr⟩ := ops_ok (x := inAt B a n) hw0
 refine opt_spec (by omega) h20 ho fun v22 m23 h22 K23 o22 => ⟨fun y hy hl => K23 y hl, ?_⟩
 have K1623 := K21.trans K23
 have one22 : v22.one = true := by obtain ⟨c, hc, _⟩ := h22; exact hc.one
 refine kif_t one22 ?_
 have s23 := s16.keep K1623
 have s23' := s23.congr (d := fun i => if i < n then c3 i else v22) fun i hi => by rw [if_pos (by omega)]
 refine appK (n' := 1) s23' rfl (fun i hi => ?_) (by omega) (fun y hy => ?_) fun v26 m27 g27 F27 o27 => ?_
 ·have : i = 0 := by omega
  subst this
  show upd _ 0 v22 0 = if n * 1 + 0 < n then _ else _
  rw [if_neg (by omega)]; rfl
 ·rcases hy with rfl | rfl
  ·exact o3b
  ·exact o3c
 have box27 := (box16.keep K1623).fr F27 o3b
 have own7_3 : ∀ x, own v7 x → ¬ own v3 x := fun x hx t => by
  rcases o8 x hx with h' | h'
  ·exact (h.x1 x h').2.2.2.1 t
  ·exact h1.o.live t h'
 have own13_3 : ∀ x, own v13 x → ¬ own v3 x := fun x hx t => by
  rcases o14 x hx with h' | h'
  ·exact (h.x2 x h').2.2.1 t
  ·exact s8.live t h'
 have w27 := (w16.keep K1623).fr F27 fun x hx t => own7_3 x hx t
 have g27i := (g16.keep K1623).fr F27 fun x hx t => own13_3 x hx t
 have oo27 : ∀ i, i < n → IsOps m27 (c3 i) (optS (opsOf (inAt B a i))) := fun i hi => ((oo16 i hi).keep K1623).fr F27 fun x hx t => (h.x3 x t).2.2 i hi hx
 have v22_3 : ∀ x, own v22 x → ¬ own v3 x := fun x hx t => (s16.keep K21).live t (o22 x hx)
 have h2227 : IsOps m27 v22 (optS (opsOf (inAt B a n))) := h22.ops.fr F27 fun x hx t => v22_3 x hx t
 have K027 : Keeps m0 m27 := Fr.keeps (K016.trans K1623) F27 fun x hx => (h.x3 x hx).1
 refine box27.sV (i := 3) (show 3 < 4 by decide) g27.one fun m28 box28 O28 => ?_
 have box28 : IsCl m28 b [vu a, v7, v13, v26] := box28
 have F28 : Fr (one1 b) m27 m28 := O28.fr1
 have own26b : ¬ own v26 b := fun t => by
  rcases o27 b t with h' | h'
  ·exact o3b h'
  ·exact (box16.keep K1623).live h'
 have own22b : ¬ own v22 b := fun t => (box16.keep K21).live (o22 b t)
 have live7 : ∀ x, own v7 x → m21.obj x ≠ none := fun x hx => (w16.keep K21).live hx
 have live13 : ∀ x, own v13 x → m21.obj x ≠ none := fun x hx => (g16.keep K21).live hx
 have live7' : ∀ x, own v7 x → m23.obj x ≠ none := fun x hx => (w16.keep K1623).live hx
 have live13' : ∀ x, own v13 x → m23.obj x ≠ none := fun x hx => (g16.keep K1623).live hx
 have n0 : ∀ {mm : Mem} {x : Nat}, Keeps m0 mm → mm.obj x = none → m0.obj x = none := fun K h => newK_none K h
 refine hk m28 v7 v13 v26 _ (fun i => if i < n then c3 i else v22) ⟨box28, w27.fr F28 (nf own7b), g27i.fr F28 (nf own13b), fun i hi => ?_, g27.fr F28 (nf own26b), fun i hi => ?_, ?_, h.nb, fun x hx => ?_, fun x hx => ?_, fun x hx => ?_, fun i hi x hx => ?_⟩
 ·by_cases ci : i < n
  ·have := h.ii i ci
   refine ⟨?_, ?_, ?_, ?_, ?_, ?_⟩
   ·dsimp only; rw [if_pos (by omega)]; exact this.1
   ·dsimp only; rw [if_pos (by omega)]; exact this.2.1
   ·dsimp only; rw [if_pos (by omega)]; exact this.2.2.1
   ·dsimp only; rw [if_pos (by omega)]; exact this.2.2.2.1
   ·dsimp only; rw [if_pos (by omega)]; exact this.2.2.2.2.1
   ·dsimp only; rw [if_pos (by omega)]; exact this.2.2.2.2.2
  ·have e : i = n := by omega
   subst e
   have eq : ∀ j, (if i * 6 + j < i * 6 then c2 (i * 6 + j) else c10 (i * 6 + j - i * 6)) = c10 j := fun j => by rw [if_neg (by omega)]; congr 1; omega
   exact ⟨(eq 0).trans h10.1, (eq 1).trans h10.2.1, (eq 2).trans h10.2.2.1, (eq 3).trans h10.2.2.2.1, (eq 4).trans h10.2.2.2.2.1, (eq 5).trans h10.2.2.2.2.2⟩
 ·by_cases ci : i < n
  ·rw [if_pos ci]
   exact ⟨(h.oo i ci).1, (oo27 i ci).fr F28 (nf fun t => (h.x4 i ci b t).2 rfl)⟩
  ·have e : i = n := by omega
   subst e
   rw [if_neg ci]
   exact ⟨one22, h2227.fr F28 (nf own22b)⟩
 ·exact Fr.keeps K027 F28 fun x hx => by
   have hx : x = b := hx
   subst hx; exact h.nb
 ·refine ⟨?_, fun t => own7b (t ▸ hx), fun t => ?_, fun t => ?_, fun i hi t => ?_⟩
  ·rcases o8 x hx with h' | h'
   ·exact (h.x1 x h').1
   ·exact n0 h1.K h'
  ·rcases o14 x t with h' | h'
   ·exact own7 x hx h'
   ·exact g8.live hx h'
  ·rcases o27 x t with h' | h'
   ·exact own7_3 x hx h'
   ·exact live7' x hx h'
  ·by_cases ci : i < n
   ·rw [if_pos ci] at t
    rcases o8 x hx with h' | h'
    ·exact (h.x1 x h').2.2.2.2 i ci t
    ·exact (h1.oo i ci).2.live t h'
   ·rw [if_neg ci] at t
    exact live7 x hx (o22 x t)
 ·refine ⟨?_, fun t => own13b (t ▸ hx), fun t => ?_, fun i hi t => ?_⟩
  ·rcases o14 x hx with h' | h'
   ·exact (h.x2 x h').1
   ·exact n0 K08 h'
  ·rcases o27 x t with h' | h'
   ·exact own13_3 x hx h'
   ·exact live13' x hx h'
  ·by_cases ci : i < n
   ·rw [if_pos ci] at t
    rcases o14 x hx with h' | h'
    ·exact (h.x2 x h').2.2.2 i ci t
    ·exact (oo8 i ci).live t h'
   ·rw [if_neg ci] at t
    exact live13 x hx (o22 x t)
 ·refine ⟨?_, fun t => own26b (t ▸ hx), fun i hi t => ?_⟩
  ·rcases o27 x hx with h' | h'
   ·exact (h.x3 x h').1
   ·exact n0 (K016.trans K1623) h'
  ·by_cases ci : i < n
   ·rw [if_pos ci] at t
    rcases o27 x hx with h' | h'
    ·exact (h.x3 x h').2.2 i ci t
    ·exact ((oo16 i ci).keep K1623).live t h'
   ·rw [if_neg ci] at t
    rcases o27 x hx with h' | h'
    ·exact v22_3 x t h'
    ·exact h22.ops.live t h'
 ·by_cases ci : i < n
  ·rw [if_pos ci] at hx
   exact h.x4 i ci x hx
  ·rw [if_neg ci] at hx
   exact ⟨n0 (K016.trans K21) (o22 x hx), fun t => own22b (t ▸ hx)⟩
end Go.Proofs.YtkiggdgphbkneaaGreat.Am
