/- A cache: its list and its map as one plain list; what its functions ask. Conditions: none of its own. -/
import Derived.Test.YtobdghdcmkdcaaaG22a
namespace Go.Proofs.Ytobdghdcmkdcaaa.Am
set_option linter.unusedVariables false
set_option linter.unusedSimpArgs false
set_option maxRecDepth 100000

/-! ### plain lists -/
theorem filter_erase {α : Type} (f : α → Key) (key : Key) : ∀ (l : List α) (i : Nat) (h : i < l.length), (l.map f).Nodup → f l[i] = key → l.filter (fun e => decide (f e ≠ key)) = l.eraseIdx i
  | [], i, h, _, _ => by simp at h
  | x :: l, 0, h, nd, e => by
    simp only [List.getElem_cons_zero] at e
    simp only [List.map_cons, List.nodup_cons] at nd
    rw [List.filter_cons_of_neg (by simp [e]), List.eraseIdx_cons_zero]
    refine List.filter_eq_self.2 fun y hy => ?_
    simp only [ne_eq, decide_eq_true_eq]
    intro e2
    exact nd.1 (by rw [e, ← e2]; exact List.mem_map.2 ⟨y, hy, rfl⟩)
  | x :: l, i + 1, h, nd, e => by
    simp only [List.getElem_cons_succ] at e
    simp only [List.map_cons, List.nodup_cons] at nd
    have hx : f x ≠ key := fun e2 => nd.1 (by rw [e2, ← e]; exact List.mem_map.2 ⟨_, List.getElem_mem _, rfl⟩)
    rw [List.filter_cons_of_pos (by simpa using hx), List.eraseIdx_cons_succ, filter_erase f key l i (by simpa using h) nd.2 e]
theorem filter_no {α : Type} (f : α → Key) (key : Key) (l : List α) (h : ∀ y ∈ l, f y ≠ key) : l.filter (fun e => decide (f e ≠ key)) = l :=
  List.filter_eq_self.2 fun y hy => by simpa using h y hy
theorem set_perm {α : Type} (x : α) : ∀ (l : List α) (i : Nat), i < l.length → (l.set i x).Perm (x :: l.eraseIdx i)
  | [], i, h => by simp at h
  | y :: l, 0, h => by simp
  | y :: l, i + 1, h => by
    rw [List.set_cons_succ, List.eraseIdx_cons_succ]
    exact ((set_perm x l i (by simpa using h)).cons y).trans (.swap x y _)
abbrev Val := Nat → AV
/-- what is kept under a key -/
def rm (l : List (Key × Val)) (key : Key) : List (Key × Val) := l.filter fun e => decide (e.1 ≠ key)
theorem rm_fst (l : List (Key × Val)) (key : Key) : (rm l key).map Prod.fst = (l.map Prod.fst).filter fun e => decide (e ≠ key) := by
  unfold rm; rw [List.filter_map]; rfl
theorem rm_nd {l : List (Key × Val)} (h : (l.map Prod.fst).Nodup) (key : Key) : ((rm l key).map Prod.fst).Nodup := by
  rw [rm_fst]; exact h.filter _
theorem rm_len (l : List (Key × Val)) (key : Key) : (rm l key).length ≤ l.length := List.length_filter_le _ _
theorem rm_lt {l : List (Key × Val)} {key : Key} (h : key ∈ l.map Prod.fst) : (rm l key).length < l.length := by
  obtain ⟨e, he, rfl⟩ := List.mem_map.1 h
  unfold rm
  exact (List.length_filter_lt_length_iff_exists (l := l) (p := fun x : Key × Val => decide (x.1 ≠ e.1))).2 ⟨e, he, by simp⟩
theorem rm_no {l : List (Key × Val)} {key : Key} (h : key ∉ l.map Prod.fst) : rm l key = l := filter_no Prod.fst key l fun y hy e => h (by rw [← e]; exact List.mem_map.2 ⟨y, hy, rfl⟩)
theorem not_rm (l : List (Key × Val)) (key : Key) : key ∉ (rm l key).map Prod.fst := by
  rw [rm_fst]; simp
theorem add_nd {l : List (Key × Val)} (h : (l.map Prod.fst).Nodup) {key : Key} (hk : key ∉ l.map Prod.fst) (v : Val) : ((l ++ [(key, v)]).map Prod.fst).Nodup := by
  rw [List.map_append]
  refine List.nodup_append.2 ⟨h, by simp, fun a ha b hb e => ?_⟩
  simp only [List.map_cons, List.map_nil, List.mem_singleton] at hb
  subst e hb
  exact hk ha

section
variable {m : Mem}
theorem IsK.ldA {v : AV} {ks : List Key} (h : IsK m v ks) {m1 : Mem} {b o : Nat} {y : Blk} (e : m1.obj b = some y) (ho : o < y.n) (hc : y.c o = v) (k : AV → Prop) : ldA m1 b o k = k v := by
  obtain ⟨c, h1, _⟩ := h
  unfold Am.ldA kobj
  rw [e]
  simp only [kite_eq, ho, if_true, hc]
  generalize ks.length = q at h1
  cases h1 <;> rfl
theorem IsK.one {v : AV} {ks : List Key} (h : IsK m v ks) : v.one = true := by
  obtain ⟨c, h1, _⟩ := h
  generalize ks.length = q at h1
  cases h1 <;> rfl
theorem stV_i {m : Mem} {b o : Nat} {v : AV} {k : Mem → Prop} {x : Blk} (h : m.obj b = some x) (hr : x.ro = false) (hv : v.one = true) (ho : o < x.n) (hk : ∀ m', m'.obj b = some { x with c := upd x.c o v } → Only m b m' → k m') : stV m b o v k := by
  obtain ⟨xn, xc, xt, xro⟩ := x
  dsimp only at hr ho hk
  subst hr
  unfold stV kobj
  rw [h]
  dsimp only
  rw [hv]
  exact kite_t ho (hk _ (set_same _ _ _) (Only.set _ _ _))

/-! ### the map -/
def IsMp (m : Mem) (bm : Nat) (es : List (Key × Val)) : Prop := ∃ c, m.obj bm = some ⟨0, c, es.length, false⟩ ∧ ∀ i, (h : i < es.length) → ∃ kc, c (2 * i) = .agg 3 kc ∧ KeyC kc es[i].1 ∧ c (2 * i + 1) = .agg 4 es[i].2
theorem IsMp.fr {m' : Mem} {S : Nat → Prop} {bm : Nat} {es : List (Key × Val)} (h : IsMp m bm es) (F : Fr S m m') (hb : ¬ S bm) : IsMp m' bm es := by
  obtain ⟨c, e, r⟩ := h
  exact ⟨c, by rw [F bm (by rw [e]; simp) hb]; exact e, r⟩
theorem IsMp.live {bm : Nat} {es : List (Key × Val)} (h : IsMp m bm es) : m.obj bm ≠ none := by obtain ⟨c, e, _⟩ := h; rw [e]; simp
theorem mfind_m {es : List (Key × Val)} {c kc : Nat → AV} {key : Key} (hc : ∀ i, (h : i < es.length) → ∃ kc, c (2 * i) = .agg 3 kc ∧ KeyC kc es[i].1 ∧ c (2 * i + 1) = .agg 4 es[i].2) (hk : KeyC kc key) {K : Option Nat → Prop}
    (hyes : ∀ i, (h : i < es.length) → es[i].1 = key → K (some i)) (hno : (∀ e ∈ es, e.1 ≠ key) → K none) : ∀ (j i : Nat), i + j = es.length → (∀ t, (h : t < es.length) → t < i → es[t].1 ≠ key) → mfind K94 3 kc c j i K
  | 0, i, e, hn => hno fun y hy => by
    obtain ⟨t, ht, rfl⟩ := List.getElem_of_mem hy
    exact hn t ht (by omega)
  | j + 1, i, e, hn => by
    unfold mfind
    obtain ⟨d, e1, e2, _⟩ := hc i (by omega)
    rw [e1]
    refine kif_t rfl ?_
    rw [geq_key hk e2]
    refine kif_c _ (fun c1 => hyes i (by omega) (of_decide_eq_true c1).symm) fun c1 => mfind_m hc hk hyes hno j (i + 1) (by omega) fun t ht hlt => ?_
    by_cases e3 : t = i
    · subst e3; intro e4; rw [e4] at c1; simp at c1
    · exact hn t ht (by omega)
theorem mget_m {bm : Nat} {es : List (Key × Val)} (h : IsMp m bm es) {kc : Nat → AV} {key : Key} (hk : KeyC kc key) {z : Nat → AV} {k : (Nat → AV) → Bool → Prop} (hyes : ∀ v, (key, v) ∈ es → k v true) (hno : key ∉ es.map Prod.fst → k z false) : mget K94 3 (.mp bm) kc 4 z m k := by
  obtain ⟨c, e, hc⟩ := h
  unfold mget kobj
  dsimp only
  rw [e]
  refine mfind_m hc hk (fun i hi e1 => ?_) (fun hn => hno fun hm => ?_) es.length 0 (by omega) fun t _ h => by omega
  · obtain ⟨kc', e2, _, e3⟩ := hc i hi
    dsimp only
    rw [e3]
    exact kif_t rfl (hyes _ (by rw [← e1]; exact List.getElem_mem hi))
  · obtain ⟨y, hy, e2⟩ := List.mem_map.1 hm
    exact hn y hy e2
theorem mput_m {bm : Nat} {es : List (Key × Val)} (h : IsMp m bm es) (nd : (es.map Prod.fst).Nodup) {kc : Nat → AV} {key : Key} (hk : KeyC kc key) {v : Val} {k : Mem → Prop} (hkk : ∀ m' es', IsMp m' bm es' → es'.Perm (rm es key ++ [(key, v)]) → Only m bm m' → k m') : mput K94 3 (.mp bm) kc 4 v m k := by
  obtain ⟨c, e, hc⟩ := h
  unfold mput kobj
  dsimp only
  rw [e]
  refine mfind_m hc hk (fun i hi e1 => ?_) (fun hn => ?_) es.length 0 (by omega) fun t _ h => by omega
  · refine hkk _ (es.set i (key, v)) ⟨_, by rw [List.length_set]; exact set_same _ _ _, fun t ht => ?_⟩ ?_ (Only.set _ _ _)
    · rw [List.length_set] at ht
      by_cases c1 : t = i
      · subst c1
        refine ⟨kc, ?_, by rw [List.getElem_set_self]; exact hk, ?_⟩
        · rw [upd_ne _ _ (by omega), upd_eq]
        · rw [upd_eq, List.getElem_set_self]
      · rw [upd_ne _ _ (by omega), upd_ne _ _ (by omega), upd_ne _ _ (by omega), upd_ne _ _ (by omega), List.getElem_set_ne (Ne.symm c1)]
        exact hc t ht
    · refine (set_perm _ _ _ hi).trans ?_
      unfold rm
      rw [filter_erase Prod.fst key es i hi nd e1]
      exact (List.perm_append_comm (l₁ := [(key, v)])).trans (by simp)
  · refine hkk _ (es ++ [(key, v)]) ⟨_, by rw [List.length_append]; exact set_same _ _ _, fun t ht => ?_⟩ ?_ (Only.set _ _ _)
    · dsimp only
      rw [List.length_append] at ht
      simp only [List.length_singleton] at ht
      by_cases c1 : t = es.length
      · subst c1
        refine ⟨kc, ?_, by simpa using hk, ?_⟩
        · rw [upd_ne _ _ (by omega), upd_eq]
        · rw [upd_eq]; simp
      · rw [upd_ne _ _ (by omega), upd_ne _ _ (by omega), upd_ne _ _ (by omega), upd_ne _ _ (by omega), List.getElem_append_left (by omega)]
        exact hc t (by omega)
    · unfold rm
      rw [filter_no Prod.fst key es hn]
theorem mdel_m {bm : Nat} {es : List (Key × Val)} (h : IsMp m bm es) (nd : (es.map Prod.fst).Nodup) {kc : Nat → AV} {key : Key} (hk : KeyC kc key) {k : Mem → Prop} (hkk : ∀ m', IsMp m' bm (rm es key) → Fr (fun x => x = bm) m m' → k m') : mdel K94 3 (.mp bm) kc m k := by
  have h0 := h
  obtain ⟨c, e, hc⟩ := h
  unfold mdel kobj
  dsimp only
  rw [e]
  refine mfind_m hc hk (fun i hi e1 => ?_) (fun hn => ?_) es.length 0 (by omega) fun t _ h => by omega
  · have er : rm es key = es.eraseIdx i := filter_erase Prod.fst key es i hi nd e1
    have hl : (es.eraseIdx i).length = es.length - 1 := by rw [List.length_eraseIdx, if_pos hi]
    refine hkk _ ?_ (Fr.set (S := fun x => x = bm) rfl _)
    rw [er]
    refine ⟨_, by rw [hl]; exact set_same _ _ _, fun t ht => ?_⟩
    rw [List.getElem_eraseIdx]
    by_cases c1 : t < i
    · simp only [dif_pos c1, if_pos (show 2 * t < 2 * i by omega), if_pos (show 2 * t + 1 < 2 * i by omega)]
      exact hc t (by omega)
    · simp only [dif_neg c1, if_neg (show ¬ 2 * t < 2 * i by omega), if_neg (show ¬ 2 * t + 1 < 2 * i by omega)]
      have := hc (t + 1) (by omega)
      rw [show 2 * (t + 1) = 2 * t + 2 by omega, show 2 * t + 2 + 1 = 2 * t + 1 + 2 by omega] at this
      exact this
  · have er : rm es key = es := filter_no Prod.fst key es hn
    exact hkk m (by rw [er]; exact h0) (Fr.refl _ _)
theorem mclear_m {bm : Nat} {es : List (Key × Val)} (h : IsMp m bm es) {k : Mem → Prop} (hkk : ∀ m', IsMp m' bm [] → Only m bm m' → k m') : mclear (.mp bm) m k := by
  obtain ⟨c, e, hc⟩ := h
  unfold mclear kobj
  dsimp only
  rw [e]
  exact hkk _ ⟨c, set_same _ _ _, fun i h => by simp at h⟩ (Only.set _ _ _)

/-! ### the list in its box -/
structure Li (m : Mem) (b : Nat) (n : Int) (bm : Nat) (v : AV) (ks : List Key) : Prop where
  blk : ∃ c t, m.obj b = some ⟨3, c, t, false⟩ ∧ c 0 = .flat (.int .i64 n) ∧ c 1 = v ∧ c 2 = .mp bm
  ks : IsK m v ks
  ne : b ≠ bm
  nb : ¬ own v b
  nm : ¬ own v bm
variable {b bm : Nat} {n : Int} {v : AV} {ks : List Key}
theorem Li.keep {m' : Mem} (h : Li m b n bm v ks) (K : Keeps m m') : Li m' b n bm v ks := by
  obtain ⟨c, t, e, r⟩ := h.blk
  exact ⟨⟨c, t, by rw [K b (by rw [e]; simp)]; exact e, r⟩, h.ks.keep K, h.ne, h.nb, h.nm⟩
theorem Li.fr {m' : Mem} {S : Nat → Prop} (h : Li m b n bm v ks) (F : Fr S m m') (h1 : ¬ S b) (h2 : ∀ x, own v x → ¬ S x) : Li m' b n bm v ks := by
  obtain ⟨c, t, e, r⟩ := h.blk
  exact ⟨⟨c, t, by rw [F b (by rw [e]; simp) h1]; exact e, r⟩, h.ks.fr F h2, h.ne, h.nb, h.nm⟩
theorem Li.live (h : Li m b n bm v ks) : m.obj b ≠ none := by obtain ⟨c, t, e, r⟩ := h.blk; rw [e]; simp
theorem Li.l1 (h : Li m b n bm v ks) (k : AV → Prop) : ldA m b 1 k = k v := by
  obtain ⟨c, t, e, c0, c1, c2⟩ := h.blk
  exact h.ks.ldA e (show (1 : Nat) < 3 by decide) c1 k
theorem Li.l2 (h : Li m b n bm v ks) (k : AV → Prop) : ldA m b 2 k = k (.mp bm) := by
  obtain ⟨c, t, e, c0, c1, c2⟩ := h.blk
  unfold Am.ldA kobj
  rw [e]
  simp only [kite_eq, c2]
  rw [if_pos (by decide)]
theorem Li.l0 (h : Li m b n bm v ks) (k : Int → Prop) : ldI .i64 m b 0 k = k n := by
  obtain ⟨c, t, e, c0, c1, c2⟩ := h.blk
  exact ldI_of e (show (0 : Nat) < 3 by decide) c0
/-- another row is laid in -/
theorem Li.s1 {v' : AV} {ks' : List Key} {m1 : Mem} (h : Li m b n bm v ks) (hb : m1.obj b = m.obj b) (hk : IsK m1 v' ks') (nb : ¬ own v' b) (nm : ¬ own v' bm) {k : Mem → Prop} (hkk : ∀ m', Li m' b n bm v' ks' → Only m1 b m' → k m') : stV m1 b 1 v' k := by
  obtain ⟨c, t, e, c0, c1, c2⟩ := h.blk
  refine stV_i (hb.trans e) rfl hk.one (show (1 : Nat) < 3 by decide) fun m' e' O => hkk m' ⟨⟨_, t, e', ?_, ?_, ?_⟩, hk.fr (S := fun x => x = b) (fun x _ hx => O x hx) (fun x hx hb => nb (hb ▸ hx)), h.ne, nb, nm⟩ O
  · rw [upd_ne _ _ (by decide)]; exact c0
  · rw [upd_eq]
  · rw [upd_ne _ _ (by decide)]; exact c2
def ftL (b : Nat) (v : AV) (x : Nat) : Prop := x = b ∨ own v x
theorem out_spec (h : Li m b n bm v ks) (hl : ks.length ≤ 100000) (nd : ks.Nodup) {c : Nat → AV} {key : Key} (hc : KeyC c key) {k : Mem → Prop} (hk : ∀ m' v', Li m' b n bm v' (ks.filter fun e => decide (e ≠ key)) → Fr (ftL b v) m m' → (∀ x, own v' x → own v x) → k m') : F50 b 0 c m k := by
  unfold F50
  simp only [Nat.zero_add]
  refine newK_i fun b2 m1 hb2 K e O => ?_
  have h1 := h.keep K
  have hb : KeyB m1 b2 key := ⟨_, e, rfl, rfl, hc⟩
  rw [h1.l1]
  refine hb.lg fun c4 h4 => index_spec h1.ks hl h4 (fun hno => kif_f (by decide) ?_) fun i hi e1 => kif_t (by simp) ?_
  · refine hk m1 v ?_ (K.fr _) fun x hx => hx
    rw [show (ks.filter fun e => decide (e ≠ key)) = ks from filter_no id key ks hno]; exact h1
  · rw [h1.l1, wrap64 (n := (i : Int) + 1) (by omega) (by omega)]
    refine del_spec h1.ks hl hi rfl rfl fun v' m2 g2 F2 o2 => ?_
    refine h1.s1 (F2 b h1.live h1.nb) g2 (fun hx => h1.nb (o2 _ hx)) (fun hx => h1.nm (o2 _ hx)) fun m3 g3 O3 => hk m3 v' ?_ (fun x hx hs => ?_) o2
    · rw [show (ks.filter fun e => decide (e ≠ key)) = ks.eraseIdx i from filter_erase id key ks i hi (by simpa using nd) e1]; exact g3
    · rw [O3 x (fun e => hs (.inl e)), F2 x (by rw [K x hx]; exact hx) (fun hx => hs (.inr hx)), K x hx]
/-- a key is put behind the others -/
theorem add_spec (h : Li m b n bm v ks) (hbm : m.obj bm ≠ none) (hl : ks.length ≤ 100000) {kb : Nat} {key : Key} (hkb : KeyB m kb key) {t : TypeId} {k : Mem → Prop} (hk : ∀ m' v', Li m' b n bm v' (ks ++ [key]) → Fr (ftL b v) m m' → (∀ x, own v' x → own v x ∨ m.obj x = none) → k m') :
    ldA m b 1 fun v21 => ldG 3 m kb 0 fun c22 => newK m ⟨3, splice (lget [(.flat (.int .u32 0)), (.flat (.int .i64 0)), (.flat (.int .i64 0))]) 0 3 c22, t, false⟩ fun b24 m23 => appS 3 24 94 v21 (.sl b24 0 1 (.ex 1)) m23 fun v25 m26 => stV m26 b 1 v25 fun m27 => k m27 := by
  rw [h.l1]
  refine hkb.lg fun c22 h22 => ?_
  obtain ⟨c, hL, hC⟩ := h.ks
  have hd : ∀ i, i < 1 * 3 → splice (lget [(.flat (.int .u32 0)), (.flat (.int .i64 0)), (.flat (.int .i64 0))]) 0 3 c22 i = (fun z => if z < ks.length * 3 then c z else c22 (z - ks.length * 3)) (ks.length * 3 + i) := fun i hi => by
    dsimp only
    rw [if_neg (by omega)]
    unfold splice
    rw [if_pos (by omega)]
    congr 1; omega
  refine appN (c := fun z => if z < ks.length * 3 then c z else c22 (z - ks.length * 3)) (hL.congr fun i hi => (if_pos hi).symm) (by rfl) hd (by omega) fun v' m2 g2 F2 o2 => ?_
  have hK : IsK m2 v' (ks ++ [key]) := ⟨_, by rw [List.length_append]; exact g2, fun i hi => by
    rw [List.length_append] at hi
    simp only [List.length_singleton] at hi
    by_cases c1 : i = ks.length
    · subst c1
      rw [List.getElem_append_right (Nat.le_refl _)]
      simp only [Nat.sub_self, List.getElem_cons_zero]
      refine h22.congr fun j hj => ?_
      rw [if_neg (by omega)]; congr 1; omega
    · rw [List.getElem_append_left (by omega)]
      refine (hC i (by omega)).congr fun j hj => ?_
      rw [if_pos (by omega)]⟩
  have hbn : ¬ own v' b := fun hx => by
    rcases o2 b hx with h1 | h1
    · exact h.nb h1
    · exact h.live h1
  refine h.s1 (F2 b h.live h.nb) hK hbn ?_ fun m3 g3 O3 => hk m3 v' g3 (fun x hx hs => by rw [O3 x (fun e => hs (.inl e)), F2 x hx fun hx => hs (.inr hx)]) o2
  intro hx
  rcases o2 bm hx with h1 | h1
  · exact h.nm h1
  · exact hbm h1
end
end Go.Proofs.Ytobdghdcmkdcaaa.Am
