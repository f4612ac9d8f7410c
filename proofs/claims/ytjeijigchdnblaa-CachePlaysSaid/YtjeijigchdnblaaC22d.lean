/- A cache's functions, on. Conditions: none of its own. -/
import Derived.Test.YtjeijigchdnblaaC22c
namespace Go.Proofs.Ytjeijigchdnblaa.Am
set_option linter.unusedVariables false
set_option linter.unusedSimpArgs false
set_option maxRecDepth 100000

def putL (n : Int) (l : List (Key × Val)) (key : Key) (v : Val) : List (Key × Val) := rm (if key ∈ l.map Prod.fst then l else if (l.length : Int) ≥ n then l.tail else l) key ++ [(key, v)]
def clN (x : Int) : Int := if (if 256 < x then 256 else x) > 1 then (if 256 < x then 256 else x) else 1
section
variable {m : Mem} {b : Nat} {n : Int} {l : List (Key × Val)} {S : Nat → Prop}
theorem new22 {x : Int} {k : AV → Mem → Prop} (hk : ∀ b m' S', Ca m' b (clN x) [] S' → Keeps m m' → (∀ y, S' y → m.obj y = none) → k (.ptr b 0) m') : F8 x m k := by
  unfold F8 mapNew
  refine newK_i fun b1 m1 hb1 K1 e1 O1 => newK_i fun b4 m2 hb4 K2 e2 O2 => ?_
  have n2 : clN x ≤ 256 := by unfold clN; split <;> (try split) <;> omega
  have n1 : 1 ≤ clN x := by unfold clN; split <;> omega
  have hne : b4 ≠ b1 := fun e => by rw [e, e1] at hb4; cases hb4
  refine hk b4 m2 (ftC b4 b1 (.flat (.slice none 0 0))) ⟨b1, .flat (.slice none 0 0), [], ⟨⟨⟨_, _, e2, rfl, rfl, rfl⟩, IsK.nil none, hne, fun h => h, fun h => h⟩, ?_, .refl _, by simp, by simp; omega, n1, n2, fun e h => by cases h⟩, rfl⟩ (K1.trans K2) fun y hy => ?_
  · exact ⟨_, (K2 b1 (by rw [e1]; simp)).trans e1, fun i h => by simp at h⟩
  · rcases hy with rfl | rfl | h
    · exact newK_none K1 hb4
    · exact hb1
    · exact h.elim
theorem stG_i {q : Nat} {b o : Nat} {c : Nat → AV} {k : Mem → Prop} {x : Blk} (h : m.obj b = some x) (hr : x.ro = false) (ho : o + q ≤ x.n) (hk : ∀ m', m'.obj b = some { x with c := splice x.c o q c } → Only m b m' → k m') : stG q m b o c k := by
  rw [stG_of h hr ho]; exact hk _ (set_same _ _ _) (Only.set _ _ _)
/-- a box of one's own, filled -/
theorem box_i {q : Nat} {z c : Nat → AV} {t : TypeId} {k : Nat → Mem → Prop} (hk : ∀ b m' y, m.obj b = none → Keeps m m' → m'.obj b = some y → y.n = q → y.ro = false → (∀ j, j < q → y.c j = c j) → k b m') : newK m ⟨q, z, t, false⟩ fun b m1 => stG q m1 b 0 c fun m2 => k b m2 := by
  refine newK_i fun b m1 hb K e O => ?_
  rw [stG_of e rfl (by show 0 + q ≤ q; omega)]
  refine hk b _ _ hb (fun x hx => ?_) (set_same _ _ _) rfl rfl fun j hj => ?_
  · rw [set_other _ (fun h : x = b => hx (h ▸ hb)), K x hx]
  · show splice z 0 q c j = c j
    unfold splice; rw [if_pos (by omega), Nat.sub_zero]
theorem put_tail (h : Ca m b n l S) {b2 b4 : Nat} {key : Key} {c2 : Nat → AV} {t4 : TypeId} (hkb : KeyB m b2 key) (h2 : ¬ S b2) (h4 : m.obj b4 = some ⟨4, c2, t4, false⟩) (h4s : ¬ S b4) (hv : VOK (key, sub c2 0 4)) (hlen : ((rm l key).length : Int) + 1 ≤ n) {k : Mem → Prop}
    (hk : ∀ m' S', Ca m' b n (rm l key ++ [(key, sub c2 0 4)]) S' → Stp S S' m m' → k m') : P9_4102 b 0 b2 0 b4 0 m k := by
  obtain ⟨bm, v, es, h, eS⟩ := h
  subst eS
  unfold P9_4102
  simp only [Nat.zero_add]
  have hl := h.ln
  have hn2 := h.n2
  refine use_spec (val := sub c2 0 4) h.li h.nd h.mp.live (by omega) hkb (fun e => h2 (.inl e)) (fun e => h2 (.inr (.inr e))) fun m2 v2 g2 F2 o2 => ?_
  have ft2 : ∀ x, ftL b v x → ftC b bm v x := fun x hx => hx.elim .inl fun h => .inr (.inr h)
  have hkb2 : KeyB m2 b2 key := hkb.fr F2 fun hx => h2 (ft2 _ hx)
  have e4 : m2.obj b4 = some ⟨4, c2, t4, false⟩ := (F2 b4 (by rw [h4]; simp) fun hx => h4s (ft2 _ hx)).trans h4
  have mp2 : IsMp m2 bm es := h.mp.fr F2 fun hx => hx.elim (fun e => h.li.ne e.symm) h.li.nm
  rw [g2.l2]
  refine hkb2.lg fun c29 h29 => ?_
  rw [ldG_of e4 (by show 0 + 4 ≤ 4; omega)]
  refine mput_m mp2 ((h.pm.map Prod.fst).nodup_iff.2 h.nd) h29 fun m3 es' g3 p3 O3 => hk m3 _ ⟨bm, v2, es', ⟨?_, g3, ?_, ?_, ?_, h.n1, h.n2, ?_⟩, rfl⟩ ⟨fun x hx hs => ?_, fun x hx => ?_⟩
  · exact g2.fr (S := fun x => x = bm) (fun x _ hx => O3 x hx) g2.ne fun x hx e => g2.nm (e ▸ hx)
  · exact p3.trans ((rm_perm h.pm key).append_right _)
  · exact add_nd (rm_nd h.nd key) (not_rm l key) _
  · rw [List.length_append]; simp; omega
  · intro e he
    rcases List.mem_append.1 he with h1 | h1
    · exact h.vo e (List.mem_filter.1 h1).1
    · simp only [List.mem_singleton] at h1; subst h1; exact hv
  · rw [O3 x (fun e => hs (.inr (.inl e))), F2 x hx fun h => hs (ft2 x h)]
  · rcases hx with rfl | rfl | hx
    · exact .inl (.inl rfl)
    · exact .inl (.inr (.inl rfl))
    · rcases o2 x hx with h1 | h1
      · exact .inl (.inr (.inr h1))
      · exact .inr h1
theorem mem_es {bm : Nat} {v : AV} {es : List (Key × Val)} (h : CaW m b n l bm v es) (key : Key) : key ∈ es.map Prod.fst ↔ key ∈ l.map Prod.fst := (h.pm.map Prod.fst).mem_iff
theorem put22 (h : Ca m b n l S) {c1 c2 : Nat → AV} {key : Key} (hc : KeyC c1 key) (hv : VOK (key, sub c2 0 4)) {k : Mem → Prop} (hk : ∀ m' S', Ca m' b n (putL n l key (sub c2 0 4)) S' → Stp S S' m m' → k m') : F9 b 0 c1 c2 m k := by
  unfold F9
  simp only [Nat.zero_add]
  refine newK_i fun b2 m1 hb2 K1 e1 O1 => newK_i fun b4 m3 hb4 K3 e3 O3 => ?_
  have K13 := K1.trans K3
  have hkb : KeyB m3 b2 key := ⟨_, (K3 b2 (by rw [e1]; simp)).trans e1, rfl, rfl, hc⟩
  have h3 := h.keep K13
  obtain ⟨bm, v, es, w, eS⟩ := id h3
  rw [w.li.l2]
  have nS2 : ¬ S b2 := fun hs => (h.live hs) hb2
  have nS4 : ¬ S b4 := fun hs => (h.keep K1).live hs hb4
  have rest : ∀ c7 x8, x8 = decide (key ∈ l.map Prod.fst) → newK m3 ⟨4, lget [(.flat (.int .u32 0)), (.flat (.slice none 0 0)), (.flat (.slice none 0 0)), (.flat (.slice none 0 0))], 33, false⟩ fun b10 m9 => stG 4 m9 b10 0 c7 fun m11 => kif (!x8) (ldA m11 b 1 fun v12 => klen v12 fun x13 => ldI .i64 m11 b 0 fun x14 => P9_3004 b 0 b2 0 b4 0 (decide (x13 ≥ x14)) m11 (fun m17 => P9_4102 b 0 b2 0 b4 0 m17 (fun m32 => k m32))) (P9_3004 b 0 b2 0 b4 0 false m11 (fun m18 => P9_4102 b 0 b2 0 b4 0 m18 (fun m33 => k m33))) := fun c7 x8 hx8 => by
    refine box_i fun b10 m11 y hb10 K11 ey yn yr yc => ?_
    have h11 := h3.keep K11
    have hkb11 := hkb.keep K11
    have e4 := (K11 b4 (by rw [e3]; simp)).trans e3
    have st0 : Stp S S m m11 := Stp.keep S (K13.trans K11)
    have hn2 := h.n2
    have hln := h.ln
    unfold P9_3004
    by_cases hin : key ∈ l.map Prod.fst
    · rw [hx8, decide_eq_true hin]
      refine kif_f rfl (kif_f rfl (put_tail h11 hkb11 nS2 e4 nS4 hv (by have := rm_lt hin; omega) fun m' S' g s => hk m' S' ?_ (st0.trans s)))
      unfold putL; rw [if_pos hin]; exact g
    · rw [hx8, decide_eq_false hin]
      obtain ⟨bm', v', es', w', eS'⟩ := id h11
      refine kif_t rfl ?_
      rw [w'.li.l1, w'.li.ks.len, w'.li.l0, List.length_map]
      refine kif_c _ (fun c => ?_) fun c => ?_
      · have c : (l.length : Int) ≥ n := by simpa using c
        have hn1 := w'.n1
        refine evict_spec h11 (fun e => by subst e; simp at c; omega) fun e l2 el m5 S5 h5 s5 => ?_
        have hkb5 : KeyB m5 b2 key := hkb11.fr s5.fr nS2
        have e5 := (s5.fr b4 (by rw [e4]; simp) nS4).trans e4
        have n5 : ∀ x, m11.obj x ≠ none → ¬ S x → ¬ S5 x := fun x hx hs h => (s5.ft x h).elim hs hx
        have hnot : key ∉ l2.map Prod.fst := fun hm => hin (by rw [el]; simp only [List.map_cons, List.mem_cons]; exact .inr hm)
        refine put_tail h5 hkb5 (n5 b2 hkb11.live nS2) e5 (n5 b4 (by rw [e4]; simp) nS4) hv (by rw [rm_no hnot]; rw [el] at hln; simp only [List.length_cons] at hln; omega) fun m' S' g s => hk m' S' ?_ ((st0.trans s5).trans s)
        unfold putL; rw [if_neg hin, if_pos c, el]; exact g
      · have c : ¬ (l.length : Int) ≥ n := by simpa using c
        refine put_tail h11 hkb11 nS2 e4 nS4 hv (by rw [rm_no hin]; omega) fun m' S' g s => hk m' S' ?_ (st0.trans s)
        unfold putL; rw [if_neg hin, if_neg c]; exact g
  refine hkb.lg fun c6 h6 => mget_m w.mp h6 (fun d hd => ?_) fun hno => ?_
  · exact rest d true (decide_eq_true ((mem_es w key).1 (List.mem_map.2 ⟨_, hd, rfl⟩))).symm
  · exact rest _ false (decide_eq_false fun hm => hno ((mem_es w key).2 hm)).symm
theorem get22 (h : Ca m b n l S) {c1 : Nat → AV} {key : Key} (hc : KeyC c1 key) {k : (Nat → AV) → Bool → Mem → Prop} (hyes : ∀ v c m' S', (key, v) ∈ l → (∀ j, j < 4 → c j = v j) → Ca m' b n (rm l key ++ [(key, v)]) S' → Stp S S' m m' → k c true m')
    (hno : key ∉ l.map Prod.fst → ∀ c m', Ca m' b n l S → Stp S S m m' → k c false m') : F11 b 0 c1 m k := by
  unfold F11
  simp only [Nat.zero_add]
  refine newK_i fun b2 m1 hb2 K1 e1 O1 => newK_i fun b4 m3 hb4 K3 e3 O3 => ?_
  have K13 := K1.trans K3
  have hkb : KeyB m3 b2 key := ⟨_, (K3 b2 (by rw [e1]; simp)).trans e1, rfl, rfl, hc⟩
  have h3 := h.keep K13
  obtain ⟨bm, v, es, w, eS⟩ := id h3
  rw [w.li.l2]
  have nS2 : ¬ S b2 := fun hs => (h.live hs) hb2
  have nS4 : ¬ S b4 := fun hs => (h.keep K1).live hs hb4
  refine hkb.lg fun c6 h6 => mget_m w.mp h6 (fun d hd => ?_) fun hn => ?_
  · have hd := w.pm.mem_iff.1 hd
    refine box_i fun b10 m11 y hb10 K11 ey yn yr yc => kif_t rfl ?_
    have w11 := w.keep K11
    have nS10 : ¬ S b10 := fun hs => h3.live hs hb10
    subst eS
    have hl := w.ln
    have hn2 := w.n2
    refine use_spec (val := d) w11.li w.nd w11.mp.live (by omega) (hkb.keep K11) (fun e => nS2 (.inl e)) (fun e => nS2 (.inr (.inr e))) fun m20 v20 g20 F20 o20 => ?_
    have ft2 : ∀ x, ftL b v x → ftC b bm v x := fun x hx => hx.elim .inl fun h => .inr (.inr h)
    have e10 := (F20 b10 (by rw [ey]; simp) fun hx => nS10 (ft2 _ hx)).trans ey
    rw [ldG_of e10 (by omega)]
    have e4 : m20.obj b4 = _ := (F20 b4 (by rw [K11 b4 (by rw [e3]; simp), e3]; simp) fun hx => nS4 (ft2 _ hx)).trans ((K11 b4 (by rw [e3]; simp)).trans e3)
    refine stG_i e4 rfl (show 0 + 4 ≤ 4 by omega) fun m21 e21 O21 => ?_
    rw [ldG_of e21 (show 0 + 4 ≤ 4 by omega)]
    have n4b : b4 ≠ b := fun e => nS4 (.inl e)
    have Fl : Fr (fun x => x = b4) m20 m21 := fun x _ hx => O21 x hx
    refine hyes d _ m21 _ hd (fun j hj => ?_) ⟨bm, v20, es, ⟨g20.fr Fl (fun e => n4b e.symm) fun x hx e => ?_, ?_, ?_, add_nd (rm_nd w.nd key) (not_rm l key) _, ?_, w.n1, w.n2, ?_⟩, rfl⟩ ⟨fun x hx hs => ?_, fun x hx => ?_⟩
    · show sub (splice _ 0 4 (sub y.c 0 4)) 0 4 j = d j
      unfold sub splice
      rw [if_pos hj, if_pos (by omega)]
      dsimp only
      rw [if_pos (by omega), Nat.zero_add, Nat.zero_add, Nat.sub_zero]
      exact yc j hj
    · subst e
      rcases o20 _ hx with h1 | h1
      · exact nS4 (.inr (.inr h1))
      · rw [K11 x (by rw [e3]; simp), e3] at h1; cases h1
    · have a := w11.mp.fr F20 fun hx => hx.elim (fun e => w.li.ne e.symm) w.li.nm
      exact a.fr Fl fun e => nS4 (.inr (.inl e.symm))
    · have hin : (key, d) ∈ es := w.pm.mem_iff.2 hd
      refine w.pm.trans ?_
      -- l ~ rm l key ++ [(key, d)]
      have : ∀ l : List (Key × Val), (l.map Prod.fst).Nodup → (key, d) ∈ l → l.Perm (rm l key ++ [(key, d)]) := by
        intro l nd hm
        obtain ⟨i, hi, e⟩ := List.getElem_of_mem hm
        have e1 : (l[i]).1 = key := by rw [e]
        unfold rm
        rw [filter_erase Prod.fst key l i hi nd e1]
        have := set_perm (key, d) l i hi
        rw [show l.set i (key, d) = l by rw [← e]; exact List.set_getElem_self hi] at this
        exact this.trans (List.perm_append_comm (l₁ := [(key, d)])).symm.symm
      exact this l w.nd hd
    · rw [List.length_append]
      have := rm_lt (l := l) (key := key) (List.mem_map.2 ⟨_, hd, rfl⟩)
      simp only [List.length_singleton]
      omega
    · intro e he
      rcases List.mem_append.1 he with h1 | h1
      · exact w.vo e (List.mem_filter.1 h1).1
      · simp only [List.mem_singleton] at h1; subst h1; exact w.vo _ hd
    · have hx4 : x ≠ b4 := fun e => hx (by rw [e]; exact newK_none K1 hb4)
      rw [O21 x hx4, F20 x (by rw [K11 x (by rw [K13 x hx]; exact hx), K13 x hx]; exact hx) (fun h => hs (ft2 x h)), K11 x (by rw [K13 x hx]; exact hx), K13 x hx]
    · rcases hx with rfl | rfl | hx
      · exact .inl (.inl rfl)
      · exact .inl (.inr (.inl rfl))
      · rcases o20 x hx with h1 | h1
        · exact .inl (.inr (.inr h1))
        · exact .inr (newK_none (K13.trans K11) h1)
  · have hn : key ∉ l.map Prod.fst := fun hm => hn ((mem_es w key).2 hm)
    refine box_i fun b10 m11 y hb10 K11 ey yn yr yc => kif_f rfl ?_
    rw [ldG_of ey (by omega)]
    have e4 := (K11 b4 (by rw [e3]; simp)).trans e3
    refine stG_i e4 rfl (show 0 + 4 ≤ 4 by omega) fun m21 e21 O21 => ?_
    rw [ldG_of e21 (show 0 + 4 ≤ 4 by omega)]
    have K : Keeps m m21 := fun x hx => by
      have hx4 : x ≠ b4 := fun e => hx (by rw [e]; exact newK_none K1 hb4)
      rw [O21 x hx4, K11 x (by rw [K13 x hx]; exact hx), K13 x hx]
    exact hno hn _ _ (h.keep K) (Stp.keep S K)
end
end Go.Proofs.Ytjeijigchdnblaa.Am
