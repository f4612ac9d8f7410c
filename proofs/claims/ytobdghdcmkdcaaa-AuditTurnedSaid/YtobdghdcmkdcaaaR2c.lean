/- Marks, bytes in a row, what was written, new memories: the program's and the reference's. Conditions: the memory's four blocks are its own. -/
import Derived.Test.YtobdghdcmkdcaaaR2b
namespace Go.Proofs.Ytobdghdcmkdcaaa.Am
set_option linter.unusedVariables false
set_option linter.unusedSimpArgs false
set_option maxRecDepth 100000

section
variable {m : Mem} {r : RB} {p : Nat} {B : Nat → Int} {M W : Nat → Bool}

theorem Fr.trans' {S T : Nat → Prop} {m0 m m' : Mem} (h : Fr S m0 m) (h' : Fr T m m') (hs : ∀ b, T b → m0.obj b = none ∨ S b) : Fr S m0 m' := fun b hb ht => by
  have e := h b hb ht
  rw [h' b (by rw [e]; exact hb) fun t => (hs b t).elim hb ht, e]
/-! ### marks -/
def onP (p : Nat) (x : Int) : Prop := 0 ≤ x ∧ x < p
instance (p : Nat) (x : Int) : Decidable (onP p x) := by unfold onP; infer_instance
def putM (M : Nat → Bool) (p : Nat) (x : Int) (b : Bool) : Nat → Bool := fun j => if onP p x ∧ (j : Int) = x then b else M j
theorem putM_out {x : Int} (h : ¬ onP p x) (b : Bool) : putM M p x b = M := by
  funext j; unfold putM; rw [if_neg fun e => h e.1]
theorem upd_putM {x : Int} (h : onP p x) (b : Bool) (i : Nat) : upd (cF M) x.toNat (.flat (.bool b)) i = cF (putM M p x b) i := by
  obtain ⟨h0, h1⟩ := h
  unfold upd cF putM
  by_cases c : i = x.toNat
  · rw [if_pos c, if_pos ⟨⟨h0, h1⟩, by omega⟩]
  · rw [if_neg c, if_neg (by omega)]
theorem unmark_spec (h : IsRam m r p B M W) {x : Int} {k : Mem → Prop} (hk : ∀ m', IsRam m' r p B (putM M p x false) (putM W p x false) → Fr r.has m m' → k m') : F48 r.b 0 x m k := by
  unfold F48
  refine page_spec h (kif_c _ (fun c => ?_) fun c => ?_)
  · have c : onP p x := by simpa [onP] using c
    simp only [Nat.zero_add, h.l2, h.l3]
    refine stC_r h.d2 c.1 c.2 fun m1 g1 g2 _ => ?_
    obtain ⟨g3, g4⟩ := h.set2 g1 g2 fun i hi => upd_putM c false i
    refine stC_r g3.d3 c.1 c.2 fun m2 g5 g6 _ => ?_
    obtain ⟨g7, g8⟩ := g3.set3 g5 g6 fun i hi => upd_putM c false i
    exact hk m2 g7 (g4.trans g8)
  · have c : ¬ onP p x := by simpa [onP] using c
    exact hk m (by rw [putM_out c, putM_out c]; exact h) (Fr.refl _ _)
/-! ### bytes in a row -/
/-! ### putting -/
def putB (B : Nat → Int) (a : Int) (n : Nat) (f : Nat → Int) : Nat → Int := fun j => if a ≤ j ∧ (j : Int) < a + n then f (j - a.toNat) else B j
theorem put_body (h : IsRam m r p B M W) {a : Int} {v : AV} {n : Nat} {f : Nat → Int} (ha : isU a) (hv : IsR m 1 v n (cB f)) (hf : ∀ i, i < n → 0 ≤ f i ∧ f i < 256) (hin : inR p a n) {k : KV}
    (hk : ∀ m' u, IsRam m' r p (putB B a n f) M W → Fr r.has m m' → k u m') : slS 1 (r.v1 p) (some a) none fun v5 => copS 1 v5 v m k := by
  obtain ⟨a0, a1⟩ := ha
  obtain ⟨i0, i1⟩ := hin
  refine slcop h.d1 hv (l := a.toNat) (by omega) (by omega) fun m' u g1 g2 g3 => ?_
  obtain ⟨g4, g5⟩ := h.set1 (B' := putB B a n f) g1 g2 (fun i hi => by
    unfold putB cB
    dsimp only
    by_cases c : a ≤ (i : Int) ∧ (i : Int) < a + n
    · rw [if_pos (by omega), if_pos c, Nat.mul_one]
    · rw [if_neg (by omega), if_neg c]) (fun i => by
    unfold putB
    by_cases c : a ≤ (i : Int) ∧ (i : Int) < a + n
    · rw [if_pos c]; exact hf _ (by omega)
    · rw [if_neg c]; exact h.rng i)
  exact hk m' u g4 g5
theorem put_spec (h : IsRam m r p B M W) {a : Int} {v : AV} {n : Nat} {f : Nat → Int} (ha : isU a) (hv : IsR m 1 v n (cB f)) (hf : ∀ i, i < n → 0 ≤ f i ∧ f i < 256) (hn : (n : Int) < 9223372036854775808) {k : Bool → Mem → Prop}
    (h0 : ¬ inR p a n → k false m) (h1 : inR p a n → ∀ m', IsRam m' r p (putB B a n f) M (tW M W a n) → Fr r.has m m' → k true m') : F31 r.b 0 a v m k := by
  unfold F31
  rw [klen_r hv]
  refine there_spec h ha ⟨by omega, hn⟩ (kif_c _ (fun c => h0 (by simpa using c)) fun c => ?_)
  have c : inR p a n := by simpa using c
  simp only [Nat.zero_add, h.l1]
  refine put_body h ha hv hf c fun m1 u g1 g2 => ?_
  rw [klen_r hv]
  exact touch_spec g1 ha c fun m2 g3 g4 => h1 c m2 g3 (g2.trans g4)
/-! ### what was written -/
def cI (l : List Nat) : Nat → AV := fun i => .flat (.int .i64 (l.getD i 0 : Nat))
def wl (W : Nat → Bool) (n : Nat) : List Nat := (List.range n).filter W
theorem wl_succ (W : Nat → Bool) (n : Nat) : wl W (n + 1) = wl W n ++ (if W n then [n] else []) := by
  unfold wl
  rw [List.range_succ, List.filter_append]
  by_cases c : W n <;> simp [c]
theorem wl_len (W : Nat → Bool) (n : Nat) : (wl W n).length ≤ n := by
  unfold wl
  exact Nat.le_trans (List.length_filter_le _ _) (by simp)
theorem cat_cI (l : List Nat) (x : Nat) {d : Nat → AV} (hd : d 0 = .flat (.int .i64 x)) (i : Nat) (hi : i < l.length + 1) : cat 1 l.length (cI l) d i = cI (l ++ [x]) i := by
  unfold cat cI
  rw [Nat.mul_one]
  by_cases c : i < l.length
  · rw [if_pos c]; simp [List.getD, List.getElem?_append_left c]
  · rw [if_neg c, show i - l.length = 0 by omega, hd, show i = l.length by omega]; simp [List.getD]
/-- one number more -/
theorem app1 {m : Mem} {v : AV} {l : List Nat} {x : Int} {y : Nat} (hx : x = y) (h : IsL m 1 v l.length (cI l)) (hl : l.length ≤ 1000000) {k : KV} (hk : ∀ v' m', IsL m' 1 v' (l ++ [y]).length (cI (l ++ [y])) → Fr (own v) m m' → (∀ b, own v' b → own v b ∨ m.obj b = none) → k v' m') :
    newK m ⟨1, upd (lget [(.flat (.int .i64 0))]) 0 (.flat (.int .i64 x)), 3, false⟩ fun b9 m8 => appS 1 8 3 v (.sl b9 0 1 (.ex 1)) m8 k := by
  subst hx
  refine newK_i fun b m1 hb K e O => ?_
  have hne : ∀ b', own v b' → b' ≠ b := fun b' ho e => h.live ho (e ▸ hb)
  refine appL (h.keep K) (IsL.row (esz := 1) e rfl rfl).r (by omega) fun v' m2 g1 g2 g3 => ?_
  refine hk v' m2 ?_ (fun b' hb' ho => ?_) fun b' ho => ?_
  · rw [List.length_append, List.length_singleton]
    exact g1.congr fun i hi => cat_cI l y rfl i (by omega)
  · rw [g2 b' (by rw [K b' hb']; exact hb') ho, K b' hb']
  · rcases g3 b' ho with h1 | h1
    · exact .inl h1
    · exact .inr (newK_none K h1)

structure WrSt (m0 m : Mem) (r : RB) (p : Nat) (B : Nat → Int) (M W : Nat → Bool) (v : AV) (i : Nat) : Prop where
  h : IsRam m r p B M (fun j => W j && decide (i ≤ j))
  l : IsL m 1 v (wl W i).length (cI (wl W i))
  F : Fr r.has m0 m
  o : ∀ b, own v b → m0.obj b = none
  hl : ∀ b, r.has b → m0.obj b ≠ none
theorem wr_step {m0 : Mem} {v : AV} {i : Nat} (S : WrSt m0 m r p B M W v i) (hi : i < p) {k : AV → Mem → Prop} (hk : ∀ v' m', WrSt m0 m' r p B M W v' (i + 1) → k v' m') :
    ksl (r.v3 p) fun b o l q => kif (decide (0 ≤ (i : Int)) && decide ((i : Int) < l)) (ldB m b (o + (i : Int).toNat * 1) fun x => kif x (newK m ⟨1, upd (lget [(.flat (.int .i64 0))]) 0 (.flat (.int .i64 i)), 3, false⟩ fun b9 m8 => appS 1 8 3 v (.sl b9 0 1 (.ex 1)) m8 fun v10 m11 => ldA m11 r.b 2 fun v12 => ksl v12 fun b13 o14 l15 p16 => kif (decide (0 ≤ (i : Int)) && decide ((i : Int) < l15)) (stC m11 b13 (o14 + (i : Int).toNat * 1) (.flat (.bool false)) fun m17 => k v10 m17) False) (k v m)) False := by
  have hp := S.h.p2
  have hw := wl_len W i
  have hx : (W i && decide (i ≤ i)) = W i := by simp
  refine ldB_r (k := fun _ _ q => kif q _ _) S.h.d3.r (by omega) (by omega) (by rw [Int.toNat_natCast]; show AV.flat (.bool (W i && decide (i ≤ i))) = _; rw [hx]) fun _ _ _ => kif_c _ (fun c => ?_) fun c => ?_
  · refine app1 rfl S.l (by omega) fun v' m2 g1 g2 g3 => ?_
    have dis : ∀ b, r.has b → ¬ own v b := fun b hb ho => S.hl b hb (S.o b ho)
    have h2 := S.h.fr g2 fun b hb ho => dis b hb ho
    rw [h2.l3]
    refine stC_r h2.d3 (by omega) (by omega) fun m3 g4 g5 g6 => ?_
    obtain ⟨g7, g8⟩ := h2.set3 (W' := fun j => W j && decide (i + 1 ≤ j)) g4 g5 fun j hj => by
      unfold upd cF
      dsimp only
      rw [Int.toNat_natCast]
      by_cases c1 : j = i
      · subst c1; rw [if_pos rfl, decide_eq_false (by omega)]; simp
      · rw [if_neg c1, show decide (i ≤ j) = decide (i + 1 ≤ j) from decide_eq_decide.2 (by omega)]
    have own' : ∀ b, own v' b → m0.obj b = none := fun b hb => by
      rcases g3 b hb with h1 | h1
      · exact S.o b h1
      · by_cases hm : m0.obj b = none
        · exact hm
        · by_cases hr : r.has b
          · exact absurd h1 (S.h.live hr)
          · rw [← S.F b hm hr]; exact h1
    refine hk v' m3 ⟨g7, ?_, ?_, own', S.hl⟩
    · have e : wl W (i + 1) = wl W i ++ [i] := by rw [wl_succ, if_pos c]
      rw [e]
      exact g1.fr g8 fun b ho hr => S.hl b hr (own' b ho)
    · exact (S.F.trans' g2 fun b ho => .inl (S.o b ho)).trans g8
  · refine hk v m ⟨S.h.congr (fun _ _ => rfl) S.h.rng (fun _ _ => rfl) fun j hj => ?_, ?_, S.F, S.o, S.hl⟩
    · by_cases c1 : j = i
      · subst c1; rw [c]; simp
      · rw [show decide (i ≤ j) = decide (i + 1 ≤ j) from decide_eq_decide.2 (by omega)]
    · have e : wl W (i + 1) = wl W i := by rw [wl_succ, if_neg (by rw [c]; simp)]; simp
      rw [e]; exact S.l
theorem wr_end {m0 : Mem} {v : AV} (S : WrSt m0 m r p B M W v p) {k : AV → Mem → Prop} (hk : ∀ v m', IsRam m' r p B M (fun _ => false) → IsL m' 1 v (wl W p).length (cI (wl W p)) → Fr r.has m0 m' → (∀ b, own v b → m0.obj b = none) → k v m') : k v m :=
  hk v m (S.h.congr (fun _ _ => rfl) S.h.rng (fun _ _ => rfl) fun j hj => by rw [decide_eq_false (by omega)]; simp) S.l S.F S.o
theorem wr_begin (h : IsRam m r p B M W) : WrSt m m r p B M W (.flat (.slice none 0 0)) 0 :=
  ⟨h.congr (fun _ _ => rfl) h.rng (fun _ _ => rfl) fun j hj => by rw [decide_eq_true (Nat.zero_le _)]; simp, .nil none _, Fr.refl _ _, fun b e => e.elim, fun b hb => h.live hb⟩
theorem written_loop {m0 : Mem} {k0 : AV → Mem → Prop} (hk : ∀ v m', IsRam m' r p B M (fun _ => false) → IsL m' 1 v (wl W p).length (cI (wl W p)) → Fr r.has m0 m' → (∀ b, own v b → m0.obj b = none) → k0 v m') : ∀ (j i : Nat) (v : AV) (m : Mem), i + j = p → WrSt m0 m r p B M W v i → L47_3 r.b 0 (r.v3 p) p (j + 1) v i m k0
  | 0, i, v, m, e, S => by
    have e : i = p := by omega
    subst e
    show R47_3 _ _ _ _ _ _ _ _ _
    unfold R47_3
    exact kif_f (by simp) (wr_end S hk)
  | j + 1, i, v, m, e, S => by
    have hp := S.h.p2
    show R47_3 _ _ _ _ _ _ _ _ _
    unfold R47_3
    simp only [Nat.zero_add]
    rw [wrap64 (n := (i : Int) + 1) (by omega) (by omega)]
    exact kif_t (by simp; omega) (wr_step (k := fun v' m' => L47_3 r.b 0 (r.v3 p) p (j + 1) v' ((i : Int) + 1) m' k0) S (by omega) fun v' m' S' => written_loop hk j (i + 1) v' m' (by omega) S')
theorem written_spec (h : IsRam m r p B M W) {k : AV → Mem → Prop} (hk : ∀ v m', IsRam m' r p B M (fun _ => false) → IsL m' 1 v (wl W p).length (cI (wl W p)) → Fr r.has m m' → (∀ b, own v b → m.obj b = none) → k v m') : F47 r.b 0 m k := by
  unfold F47
  simp only [Nat.zero_add, h.l3, klen]
  exact ⟨p + 1, written_loop hk p 0 _ m (by omega) (wr_begin h)⟩
/-- lists that are the same -/
theorem same_loop {a b : AV} {l : List Nat} (ha : IsR m 1 a l.length (cI l)) (hb : IsR m 1 b l.length (cI l)) (hl : (l.length : Int) < 9223372036854775807) {k0 : Mem → Prop} {kr : Bool → Mem → Prop} (hk : k0 m) : ∀ j i : Nat, i + j = l.length → L10_4 a b (j + 1) i m k0 kr
  | 0, i, e => by
    show R10_4 _ _ _ _ _ _ _
    unfold R10_4
    rw [klen_r ha]
    exact kif_f (by simp; omega) hk
  | j + 1, i, e => by
    show R10_4 _ _ _ _ _ _ _
    unfold R10_4
    rw [klen_r ha, wrap64 (by omega) (by omega)]
    refine kif_t (by simp; omega) (ldI_r (k := fun _ _ x => ksl _ _) ha (by omega) (by omega) rfl fun _ _ _ => ldI_r (k := fun _ _ x => kif _ _ _) hb (by omega) (by omega) rfl fun _ _ _ => kif_f (by simp) ?_)
    exact same_loop ha hb hl hk j (i + 1) (by omega)
theorem same_spec {a b : AV} {l : List Nat} (ha : IsR m 1 a l.length (cI l)) (hb : IsR m 1 b l.length (cI l)) (hl : (l.length : Int) < 9223372036854775807) {k : Bool → Mem → Prop} (hk : k true m) : F10 a b m k := by
  unfold F10
  rw [klen_r ha, klen_r hb]
  exact kif_f (by simp) ⟨l.length + 1, same_loop ha hb hl ⟨Keeps.self m, hk⟩ l.length 0 (by omega)⟩

/-! ### new memories -/
def clampP (x : Int) : Nat := (max 1 (min x 64)).toNat
theorem new_body {P : Int} {q : Nat} (hP : P = q) (h1 : 1 ≤ q) (h2 : q ≤ 64) {t : TypeId} {k : AV → Mem → Prop} (hk : ∀ r m', IsRam m' r q (fun _ => 0) (fun _ => false) (fun _ => false) → Keeps m m' → (∀ b, r.has b → m.obj b = none) → k (.ptr r.b 0) m') :
    mkS [(.flat (.int .u8 0))] 1 5 (IntKind.wrap .i64 (P * 1024)) (IntKind.wrap .i64 (P * 1024)) m fun b1 m2 => mkS [(.flat (.bool false))] 1 4 P P m2 fun b3 m4 => mkS [(.flat (.bool false))] 1 4 P P m4 fun b5 m6 => newK m6 ⟨3, (upd (upd (upd (lget [(.flat (.slice none 0 0)), (.flat (.slice none 0 0)), (.flat (.slice none 0 0))]) 0 (.sl b1 0 ((IntKind.wrap .i64 (P * 1024)).toNat) (.ex ((IntKind.wrap .i64 (P * 1024)).toNat)))) 1 (.sl b3 0 (P.toNat) (.ex (P.toNat)))) 2 (.sl b5 0 (P.toNat) (.ex (P.toNat)))), t, false⟩ fun b8 m7 => k (.ptr b8 0) m7 := by
  subst hP
  rw [wrap64 (by omega) (by omega), show ((q : Int) * 1024) = ((q * 1024 : Nat) : Int) by push_cast; rfl]
  refine mkS_i (by omega) (by omega) (by omega) fun b1 m1 hb1 K1 e1 O1 => mkS_i (by omega) (by omega) (by omega) fun b2 m2 hb2 K2 e2 O2 => mkS_i (by omega) (by omega) (by omega) fun b3 m3 hb3 K3 e3 O3 => newK_i fun b m4 hb K4 e4 O4 => ?_
  simp only [Int.toNat_natCast] at e1 e2 e3 e4 ⊢
  have K12 := K2.trans (K3.trans K4)
  have f1 : m4.obj b1 = _ := (K12 b1 (by rw [e1]; simp)).trans e1
  have f2 : m4.obj b2 = _ := ((K3.trans K4) b2 (by rw [e2]; simp)).trans e2
  have f3 : m4.obj b3 = _ := (K4 b3 (by rw [e3]; simp)).trans e3
  have l2 : m2.obj b2 ≠ none := by rw [e2]; simp
  have l1 : m1.obj b1 ≠ none := by rw [e1]; simp
  have n12 : b1 ≠ b2 := fun e => by subst e; exact l1 hb2
  have l12 : m2.obj b1 ≠ none := by rw [K2 b1 l1]; exact l1
  have n13 : b1 ≠ b3 := fun e => by subst e; exact l12 hb3
  have n23 : b2 ≠ b3 := fun e => by subst e; exact l2 hb3
  have l13 : m3.obj b1 ≠ none := by rw [K3 b1 l12]; exact l12
  have l23 : m3.obj b2 ≠ none := by rw [K3 b2 l2]; exact l2
  have l33 : m3.obj b3 ≠ none := by rw [e3]; simp
  refine hk ⟨b, b1, b2, b3⟩ m4 ⟨⟨_, e4, rfl, rfl, rfl, rfl⟩, ?_, ?_, ?_, fun i => ⟨Int.le_refl _, by omega⟩, h1, h2, fun e => by cases e; exact l13 hb, fun e => by cases e; exact l23 hb, fun e => by cases e; exact l33 hb, n12, n13, n23⟩ (K1.trans K12) fun b' hb' => ?_
  · exact (IsL.row (esz := 1) f1 (by simp) rfl).congr fun i hi => by simp [reprow1f, cB]
  · exact (IsL.row (esz := 1) f2 (by simp) rfl).congr fun i hi => by simp [reprow1f, cF]
  · exact (IsL.row (esz := 1) f3 (by simp) rfl).congr fun i hi => by simp [reprow1f, cF]
  · rcases hb' with rfl | rfl | rfl | rfl
    · exact newK_none (K1.trans (K2.trans K3)) hb
    · exact hb1
    · exact newK_none K1 hb2
    · exact newK_none (K1.trans K2) hb3
theorem new_spec {x : Int} {k : AV → Mem → Prop} (hk : ∀ r m', IsRam m' r (clampP x) (fun _ => 0) (fun _ => false) (fun _ => false) → Keeps m m' → (∀ b, r.has b → m.obj b = none) → k (.ptr r.b 0) m') : F29 x m k := by
  unfold F29
  exact new_body (by unfold clampP; split <;> split <;> omega) (by unfold clampP; omega) (by unfold clampP; omega) hk
end
end Go.Proofs.Ytobdghdcmkdcaaa.Am
