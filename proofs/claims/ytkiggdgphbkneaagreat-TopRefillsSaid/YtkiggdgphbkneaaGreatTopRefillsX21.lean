/- A cache's functions: what they ask of the plain list. Conditions: none of its own. A cache's functions, on. Conditions: none of its own. Law 22's CacheRoom. Conditions: none of its own. Drop, On, Flush; law 22's CacheDrops. Conditions: none of its own. What fu -/
import Derived.Test.YtkiggdgphbkneaaGreatTopRefillsX20
namespace Go.Proofs.YtkiggdgphbkneaaGreat.Am
set_option linter.unusedVariables false
set_option linter.unusedSimpArgs false
set_option maxRecDepth 100000
def VOK (e : Key × Val) : Prop := e.2 0 = .flat (.int .u32 e.1.a) ∧ isU e.1.a
structure CaW (m : Mem) (b : Nat) (n : Int) (l : List (Key × Val)) (bm : Nat) (v : AV) (es : List (Key × Val)) : Prop where
 li : Li m b n bm v (l.map Prod.fst)
 mp : IsMp m bm es
 pm : es.Perm l
 nd : (l.map Prod.fst).Nodup
 ln : (l.length : Int) ≤ n
 n1 : 1 ≤ n
 n2 : n ≤ 256
 vo : ∀ e ∈ l, VOK e
def ftC (b bm : Nat) (v : AV) (x : Nat) : Prop := x = b ∨ x = bm ∨ own v x
def Ca (m : Mem) (b : Nat) (n : Int) (l : List (Key × Val)) (S : Nat → Prop) : Prop := ∃ bm v es, CaW m b n l bm v es ∧ S = ftC b bm v
structure Stp (S S' : Nat → Prop) (m m' : Mem) : Prop where
 fr : Fr S m m'
 ft : ∀ x, S' x → S x ∨ m.obj x = none
theorem Stp.trans {S S' S'' : Nat → Prop} {a b c : Mem} (h : Stp S S' a b) (h' : Stp S' S'' b c) : Stp S S'' a c := by
 have key : ∀ x, a.obj x ≠ none → ¬ S x → ¬ S' x ∧ b.obj x = a.obj x := fun x hx hs => ⟨fun h1 => by
  rcases h.ft x h1 with h2 | h2
  ·exact hs h2
  ·exact hx h2, h.fr x hx hs⟩
 refine ⟨fun x hx hs => ?_, fun x hx => ?_⟩
 ·obtain ⟨h1, h2⟩ := key x hx hs
  rw [h'.fr x (by rw [h2]; exact hx) h1, h2]
 ·by_cases c1 : S x
  ·exact .inl c1
  ·refine .inr ?_
   cases e : a.obj x with
   | none => rfl
   | some y =>
    obtain ⟨h1, h2⟩ := key x (by rw [e]; simp) c1
    rcases h'.ft x hx with h3 | h3
    ·exact (h1 h3).elim
    ·rw [h2, e] at h3; cases h3
theorem Stp.keep {m m' : Mem} (S : Nat → Prop) (K : Keeps m m') : Stp S S m m' := ⟨K.fr S, fun _ h => .inl h⟩
section
variable {m : Mem} {b : Nat} {n : Int} {l : List (Key × Val)} {S : Nat → Prop}
theorem CaW.keep {bm : Nat} {v : AV} {es : List (Key × Val)} {m' : Mem} (h : CaW m b n l bm v es) (K : Keeps m m') : CaW m' b n l bm v es := ⟨h.li.keep K, h.mp.fr (K.fr fun _ => False) fun h => h, h.pm, h.nd, h.ln, h.n1, h.n2, h.vo⟩
theorem Ca.keep {m' : Mem} (h : Ca m b n l S) (K : Keeps m m') : Ca m' b n l S := by
 obtain ⟨bm, v, es, h, e⟩ := h; exact ⟨bm, v, es, h.keep K, e⟩
theorem Ca.live (h : Ca m b n l S) {x : Nat} (hx : S x) : m.obj x ≠ none := by
 obtain ⟨bm, v, es, h, e⟩ := h
 rw [e] at hx
 rcases hx with rfl | rfl | h1
 ·exact h.li.live
 ·exact h.mp.live
 ·exact h.li.ks.live h1
theorem Ca.ln (h : Ca m b n l S) : (l.length : Int) ≤ n := by obtain ⟨bm, v, es, h, e⟩ := h; exact h.ln
theorem Ca.n2 (h : Ca m b n l S) : n ≤ 256 := by obtain ⟨bm, v, es, h, e⟩ := h; exact h.n2
theorem rm_perm {l l' : List (Key × Val)} (h : l.Perm l') (key : Key) : (rm l key).Perm (rm l' key) := h.filter _
theorem evict_spec (h : Ca m b n l S) {k : Bool → Mem → Prop} (h0 : l = [] → k false m) (h1 : ∀ e l2, l = e :: l2 → ∀ m' S', Ca m' b n l2 S' → Stp S S' m m' → k true m') : F96 b 0 m k := by
 obtain ⟨bm, v, es, h, e⟩ := h
 unfold F96
 simp only [Nat.zero_add]
 rw [h.li.l1, h.li.ks.len]
 cases l with
 | nil => exact kif_t rfl (h0 rfl)
 | cons x l2 =>
  have hnd := h.nd
  have hpm := h.pm
  refine kif_f (by simp; omega) ?_
  rw [h.li.l2, h.li.l1]
  refine h.li.ks.ld 0 (by simp) fun c9 h9 => ?_
  have h9 : KeyC c9 x.1 := h9
  refine mdel_m h.mp ((hpm.map Prod.fst).nodup_iff.2 hnd) h9 fun m2 g2 F2 => ?_
  have li2 := h.li.fr F2 h.li.ne fun y hy e => h.li.nm (e ▸ hy)
  rw [li2.l1]
  have hl := h.ln
  have hn2 := h.n2
  simp only [List.length_cons] at hl
  refine del_spec (i := 0) li2.ks (by simp; omega) (by simp) rfl rfl fun v' m3 g3 F3 o3 => ?_
  refine li2.s1 (F3 b li2.live li2.nb) g3 (fun hx => li2.nb (o3 _ hx)) (fun hx => li2.nm (o3 _ hx)) fun m4 li4 O4 => ?_
  have er : rm (x :: l2) x.1 = l2 := by
   have := filter_erase Prod.fst x.1 (x :: l2) 0 (by simp) hnd rfl
   rw [List.eraseIdx_cons_zero] at this
   exact this
  refine h1 x l2 rfl m4 _ ⟨bm, v', rm es x.1, ⟨?_, ?_, ?_, ?_, ?_, h.n1, h.n2, fun e he => h.vo e (List.mem_cons_of_mem _ he)⟩, rfl⟩ ⟨fun y hy hs => ?_, fun y hy => .inl ?_⟩
  ·simpa using li4
  ·have a := g2.fr F3 li2.nm
   exact a.fr (S := fun x => x = b) (fun x _ hx => O4 x hx) fun e => li2.ne e.symm
  ·have := rm_perm hpm x.1
   rw [er] at this; exact this
  ·simp only [List.map_cons, List.nodup_cons] at hnd; exact hnd.2
  ·omega
  ·subst e
   rw [O4 y (fun e => hs (.inl e)), F3 y (by rw [F2 y hy fun e => hs (.inr (.inl e))]; exact hy) (fun hx => hs (.inr (.inr hx))), F2 y hy fun e => hs (.inr (.inl e))]
  ·subst e
   rcases hy with rfl | rfl | hy
   ·exact .inl rfl
   ·exact .inr (.inl rfl)
   ·exact .inr (.inr (o3 _ hy))
theorem use_spec {bm : Nat} {v : AV} (h : Li m b n bm v (l.map Prod.fst)) (nd : (l.map Prod.fst).Nodup) (hbm : m.obj bm ≠ none) (hl : l.length ≤ 300) {kb : Nat} {key : Key} (hkb : KeyB m kb key) (hnb : kb ≠ b) (hnv : ¬ own v kb) {t : TypeId} {val : Val} {k : Mem → Prop}
  (hk : ∀ m' v', Li m' b n bm v' ((rm l key ++ [(key, val)]).map Prod.fst) → Fr (ftL b v) m m' → (∀ x, own v' x → own v x ∨ m.obj x = none) → k m') :
  ldG 3 m kb 0 fun c19 => F87 b 0 c19 m fun m20 => ldA m20 b 1 fun v21 => ldG 3 m20 kb 0 fun c22 => newK m20 ⟨3, splice (lget [(.flat (.int .u32 0)), (.flat (.int .i64 0)), (.flat (.int .i64 0))]) 0 3 c22, t, false⟩ fun b24 m23 => appS 3 24 125 v21 (.sl b24 0 1 (.ex 1)) m23 fun v25 m26 => stV m26 b 1 v25 fun m27 => k m27 := by
 refine hkb.lg fun c19 h19 => out_spec h (by rw [List.length_map]; omega) nd h19 fun m2 v2 g2 F2 o2 => ?_
 rw [← rm_fst] at g2
 have hkb2 : KeyB m2 kb key := hkb.fr F2 fun hx => by
  rcases hx with hx | hx
  ·exact hnb hx
  ·exact hnv hx
 have hbm2 : m2.obj bm ≠ none := by
  rw [F2 bm hbm fun hx => by
   rcases hx with hx | hx
   ·exact h.ne hx.symm
   ·exact h.nm hx]
  exact hbm
 refine add_spec g2 hbm2 (by rw [List.length_map]; have := rm_len l key; omega) hkb2 fun m3 v3 g3 F3 o3 => hk m3 v3 ?_ (fun x hx hs => ?_) fun x hx => ?_
 ·rw [List.map_append]; exact g3
 ·rw [F3 x (by rw [F2 x hx hs]; exact hx) (fun hy => hs (hy.imp id (o2 x))), F2 x hx hs]
 ·rcases o3 x hx with h1 | h1
  ·exact .inl (o2 x h1)
  ·by_cases c : own v x
   ·exact .inl c
   ·refine .inr ?_
    cases e : m.obj x with
    | none => rfl
    | some y =>
     by_cases c2 : x = b
     ·subst c2
      have := g2.live
      exact (this h1).elim
     ·rw [F2 x (by rw [e]; simp) (fun hs => hs.elim c2 c), e] at h1; cases h1
end
def putL (n : Int) (l : List (Key × Val)) (key : Key) (v : Val) : List (Key × Val) := rm (if key ∈ l.map Prod.fst then l else if (l.length : Int) ≥ n then l.tail else l) key ++ [(key, v)]
def clN (x : Int) : Int := if (if 256 < x then 256 else x) > 1 then (if 256 < x then 256 else x) else 1
section
variable {m : Mem} {b : Nat} {n : Int} {l : List (Key × Val)} {S : Nat → Prop}
theorem new22 {x : Int} {k : AV → Mem → Prop} (hk : ∀ b m' S', Ca m' b (clN x) [] S' → Keeps m m' → (∀ y, S' y → m.obj y = none) → k (.ptr b 0) m') : F51 x m k := by
 unfold F51 mapNew
 refine newK_i fun b1 m1 hb1 K1 e1 O1 => newK_i fun b4 m2 hb4 K2 e2 O2 => ?_
 have n2 : clN x ≤ 256 := by unfold clN; split <;> (try split) <;> omega
 have n1 : 1 ≤ clN x := by unfold clN; split <;> omega
 have hne : b4 ≠ b1 := fun e => by rw [e, e1] at hb4; cases hb4
 refine hk b4 m2 (ftC b4 b1 (.flat (.slice none 0 0))) ⟨b1, .flat (.slice none 0 0), [], ⟨⟨⟨_, _, e2, rfl, rfl, rfl⟩, IsK.nil none, hne, fun h => h, fun h => h⟩, ?_, .refl _, by simp, by simp; omega, n1, n2, fun e h => by cases h⟩, rfl⟩ (K1.trans K2) fun y hy => ?_
 ·exact ⟨_, (K2 b1 (by rw [e1]; simp)).trans e1, fun i h => by simp at h⟩
 ·rcases hy with rfl | rfl | h
  ·exact newK_none K1 hb4
  ·exact hb1
  ·exact h.elim
theorem stG_i {q : Nat} {b o : Nat} {c : Nat → AV} {k : Mem → Prop} {x : Blk} (h : m.obj b = some x) (hr : x.ro = false) (ho : o + q ≤ x.n) (hk : ∀ m', m'.obj b = some { x with c := splice x.c o q c } → Only m b m' → k m') : stG q m b o c k := by
 rw [stG_of h hr ho]; exact hk _ (set_same _ _ _) (Only.set _ _ _)
theorem box_i {q : Nat} {z c : Nat → AV} {t : TypeId} {k : Nat → Mem → Prop} (hk : ∀ b m' y, m.obj b = none → Keeps m m' → m'.obj b = some y → y.n = q → y.ro = false → (∀ j, j < q → y.c j = c j) → k b m') : newK m ⟨q, z, t, false⟩ fun b m1 => stG q m1 b 0 c fun m2 => k b m2 := by
 refine newK_i fun b m1 hb K e O => ?_
 rw [stG_of e rfl (by show 0 + q ≤ q; omega)]
 refine hk b _ _ hb (fun x hx => ?_) (set_same _ _ _) rfl rfl fun j hj => ?_
 ·rw [set_other _ (fun h : x = b => hx (h ▸ hb)), K x hx]
 ·show splice z 0 q c j = c j
  unfold splice; rw [if_pos (by omega), Nat.sub_zero]
theorem put_tail (h : Ca m b n l S) {b2 b4 : Nat} {key : Key} {c2 : Nat → AV} {t4 : TypeId} (hkb : KeyB m b2 key) (h2 : ¬ S b2) (h4 : m.obj b4 = some ⟨4, c2, t4, false⟩) (h4s : ¬ S b4) (hv : VOK (key, sub c2 0 4)) (hlen : ((rm l key).length : Int) + 1 ≤ n) {k : Mem → Prop}
  (hk : ∀ m' S', Ca m' b n (rm l key ++ [(key, sub c2 0 4)]) S' → Stp S S' m m' → k m') : P69_4102 b 0 b2 0 b4 0 m k := by
 obtain ⟨bm, v, es, h, eS⟩ := h
 subst eS
 unfold P69_4102
 simp only [Nat.zero_add]
 have hl := h.ln
 have hn2 := h.n2
 refine use_spec (val := sub c2 0 4) h.li h.nd h.mp.live (by omega) hkb (fun e => h2 (.inl e)) (fun e => h2 (.inr (.inr e))) fun m2 v2 g2 F2 o2 => ?_
 have ft2 : ∀ x, ftL b v x → ftC b bm v x := fun x hx => hx.elim .inl fun h => .inr (.inr h)
 have hkb2 : KeyB m2 b2 key := hkb.fr F2 fun hx => h2 (ft2 _ hx)
 have e4 : m2.obj b4 = some ⟨4, c2, t4, false⟩ := (F2 b4 (by rw [h4]; simp) fun hx => h4s (ft2 _ hx)).trans h4
 have mp2 : IsMp m2 bm es := h.mp.fr F2 fun hx => hx.elim (fun e => h.li.ne e.symm) h.li.nm
 rw [g2.l2]
 refine hkb2.lg fun c29 h29 => ?_
 rw [ldG_of e4 (by show 0 + 4 ≤ 4; omega)]
 refine mput_m mp2 ((h.pm.map Prod.fst).nodup_iff.2 h.nd) h29 fun m3 es' g3 p3 O3 => hk m3 _ ⟨bm, v2, es', ⟨?_, g3, ?_, ?_, ?_, h.n1, h.n2, ?_⟩, rfl⟩ ⟨fun x hx hs => ?_, fun x hx => ?_⟩
 ·exact g2.fr (S := fun x => x = bm) (fun x _ hx => O3 x hx) g2.ne fun x hx e => g2.nm (e ▸ hx)
 ·exact p3.trans ((rm_perm h.pm key).append_right _)
 ·exact add_nd (rm_nd h.nd key) (not_rm l key) _
 ·rw [List.length_append]; simp; omega
 ·intro e he
  rcases List.mem_append.1 he with h1 | h1
  ·exact h.vo e (List.mem_filter.1 h1).1
  ·simp only [List.mem_singleton] at h1; subst h1; exact hv
 ·rw [O3 x (fun e => hs (.inr (.inl e))), F2 x hx fun h => hs (ft2 x h)]
 ·rcases hx with rfl | rfl | hx
  ·exact .inl (.inl rfl)
  ·exact .inl (.inr (.inl rfl))
  ·rcases o2 x hx with h1 | h1
   ·exact .inl (.inr (.inr h1))
   ·exact .inr h1
theorem mem_es {bm : Nat} {v : AV} {es : List (Key × Val)} (h : CaW m b n l bm v es) (key : Key) : key ∈ es.map Prod.fst ↔ key ∈ l.map Prod.fst := (h.pm.map Prod.fst).mem_iff
theorem put22 (h : Ca m b n l S) {c1 c2 : Nat → AV} {key : Key} (hc : KeyC c1 key) (hv : VOK (key, sub c2 0 4)) {k : Mem → Prop} (hk : ∀ m' S', Ca m' b n (putL n l key (sub c2 0 4)) S' → Stp S S' m m' → k m') : F69 b 0 c1 c2 m k := by
 unfold F69
 simp only [Nat.zero_add]
 refine newK_i fun b2 m1 hb2 K1 e1 O1 => newK_i fun b4 m3 hb4 K3 e3 O3 => ?_
 have K13 := K1.trans K3
 have hkb : KeyB m3 b2 key := ⟨_, (K3 b2 (by rw [e1]; simp)).trans e1, rfl, rfl, hc⟩
 have h3 := h.keep K13
 obtain ⟨bm, v, es, w, eS⟩ := id h3
 rw [w.li.l2]
 have nS2 : ¬ S b2 := fun hs => (h.live hs) hb2
 have nS4 : ¬ S b4 := fun hs => (h.keep K1).live hs hb4
 have rest : ∀ c7 x8, x8 = decide (key ∈ l.map Prod.fst) → newK m3 ⟨4, lget [(.flat (.int .u32 0)), (.flat (.slice none 0 0)), (.flat (.slice none 0 0)), (.flat (.slice none 0 0))], 85, false⟩ fun b10 m9 => stG 4 m9 b10 0 c7 fun m11 => kif (!x8) (ldA m11 b 1 fun v12 => klen v12 fun x13 => ldI .i64 m11 b 0 fun x14 => P69_3004 b 0 b2 0 b4 0 (decide (x13 ≥ x14)) m11 (fun m17 => P69_4102 b 0 b2 0 b4 0 m17 (fun m32 => k m32))) (P69_3004 b 0 b2 0 b4 0 false m11 (fun m18 => P69_4102 b 0 b2 0 b4 0 m18 (fun m33 => k m33))) := fun c7 x8 hx8 => by
  refine box_i fun b10 m11 y hb10 K11 ey yn yr yc => ?_
  have h11 := h3.keep K11
  have hkb11 := hkb.keep K11
  have e4 := (K11 b4 (by rw [e3]; simp)).trans e3
  have st0 : Stp S S m m11 := Stp.keep S (K13.trans K11)
  have hn2 := h.n2
  have hln := h.ln
  unfold P69_3004
  by_cases hin : key ∈ l.map Prod.fst
  ·rw [hx8, decide_eq_true hin]
   refine kif_f rfl (kif_f rfl (put_tail h11 hkb11 nS2 e4 nS4 hv (by have := rm_lt hin; omega) fun m' S' g s => hk m' S' ?_ (st0.trans s)))
   unfold putL; rw [if_pos hin]; exact g
  ·rw [hx8, decide_eq_false hin]
   obtain ⟨bm', v', es', w', eS'⟩ := id h11
   refine kif_t rfl ?_
   rw [w'.li.l1, w'.li.ks.len, w'.li.l0, List.length_map]
   refine kif_c _ (fun c => ?_) fun c => ?_
   ·have c : (l.length : Int) ≥ n := by simpa using c
    have hn1 := w'.n1
    refine evict_spec h11 (fun e => by subst e; simp at c; omega) fun e l2 el m5 S5 h5 s5 => ?_
    have hkb5 : KeyB m5 b2 key := hkb11.fr s5.fr nS2
    have e5 := (s5.fr b4 (by rw [e4]; simp) nS4).trans e4
    have n5 : ∀ x, m11.obj x ≠ none → ¬ S x → ¬ S5 x := fun x hx hs h => (s5.ft x h).elim hs hx
    have hnot : key ∉ l2.map Prod.fst := fun hm => hin (by rw [el]; simp only [List.map_cons, List.mem_cons]; exact .inr hm)
    refine put_tail h5 hkb5 (n5 b2 hkb11.live nS2) e5 (n5 b4 (by rw [e4]; simp) nS4) hv (by rw [rm_no hnot]; rw [el] at hln; simp only [List.length_cons] at hln; omega) fun m' S' g s => hk m' S' ?_ ((st0.trans s5).trans s)
    unfold putL; rw [if_neg hin, if_pos c, el]; exact g
   ·have c : ¬ (l.length : Int) ≥ n := by simpa using c
    refine put_tail h11 hkb11 nS2 e4 nS4 hv (by rw [rm_no hin]; omega) fun m' S' g s => hk m' S' ?_ (st0.trans s)
    unfold putL; rw [if_neg hin, if_neg c]; exact g
 refine hkb.lg fun c6 h6 => mget_m w.mp h6 (fun d hd => ?_) fun hno => ?_
 ·exact rest d true (decide_eq_true ((mem_es w key).1 (List.mem_map.2 ⟨_, hd, rfl⟩))).symm
 ·exact rest _ false (decide_eq_false fun hm => hno ((mem_es w key).2 hm)).symm
theorem get22 (h : Ca m b n l S) {c1 : Nat → AV} {key : Key} (hc : KeyC c1 key) {k : (Nat → AV) → Bool → Mem → Prop} (hyes : ∀ v c m' S', (key, v) ∈ l → (∀ j, j < 4 → c j = v j) → Ca m' b n (rm l key ++ [(key, v)]) S' → Stp S S' m m' → k c true m')
  (hno : key ∉ l.map Prod.fst → ∀ c m', Ca m' b n l S → Stp S S m m' → k c false m') : F65 b 0 c1 m k := by
 unfold F65
 simp only [Nat.zero_add]
 refine newK_i fun b2 m1 hb2 K1 e1 O1 => newK_i fun b4 m3 hb4 K3 e3 O3 => ?_
 have K13 := K1.trans K3
 have hkb : KeyB m3 b2 key := ⟨_, (K3 b2 (by rw [e1]; simp)).trans e1, rfl, rfl, hc⟩
 have h3 := h.keep K13
 obtain ⟨bm, v, es, w, eS⟩ := id h3
 rw [w.li.l2]
 have nS2 : ¬ S b2 := fun hs => (h.live hs) hb2
 have nS4 : ¬ S b4 := fun hs => (h.keep K1).live hs hb4
 refine hkb.lg fun c6 h6 => mget_m w.mp h6 (fun d hd => ?_) fun hn => ?_
 ·have hd := w.pm.mem_iff.1 hd
  refine box_i fun b10 m11 y hb10 K11 ey yn yr yc => kif_t rfl ?_
  have w11 := w.keep K11
  have nS10 : ¬ S b10 := fun hs => h3.live hs hb10
  subst eS
  have hl := w.ln
  have hn2 := w.n2
  refine use_spec (val := d) w11.li w.nd w11.mp.live (by omega) (hkb.keep K11) (fun e => nS2 (.inl e)) (fun e => nS2 (.inr (.inr e))) fun m20 v20 g20 F20 o20 => ?_
  have ft2 : ∀ x, ftL b v x → ftC b bm v x := fun x hx => hx.elim .inl fun h => .inr (.inr h)
  have e10 := (F20 b10 (by rw [ey]; simp) fun hx => nS10 (ft2 _ hx)).trans ey
  rw [ldG_of e10 (by omega)]
  have e4 : m20.obj b4 = _ := (F20 b4 (by rw [K11 b4 (by rw [e3]; simp), e3]; simp) fun hx => nS4 (ft2 _ hx)).trans ((K11 b4 (by rw [e3]; simp)).trans e3)
  refine stG_i e4 rfl (show 0 + 4 ≤ 4 by omega) fun m21 e21 O21 => ?_
  rw [ldG_of e21 (show 0 + 4 ≤ 4 by omega)]
  have n4b : b4 ≠ b := fun e => nS4 (.inl e)
  have Fl : Fr (fun x => x = b4) m20 m21 := fun x _ hx => O21 x hx
  refine hyes d _ m21 _ hd (fun j hj => ?_) ⟨bm, v20, es, ⟨g20.fr Fl (fun e => n4b e.symm) fun x hx e => ?_, ?_, ?_, add_nd (rm_nd w.nd key) (not_rm l key) _, ?_, w.n1, w.n2, ?_⟩, rfl⟩ ⟨fun x hx hs => ?_, fun x hx => ?_⟩
  ·show sub (splice _ 0 4 (sub y.c 0 4)) 0 4 j = d j
   unfold sub splice
   rw [if_pos hj, if_pos (by omega)]
   dsimp only
   rw [if_pos (by omega), Nat.zero_add, Nat.zero_add, Nat.sub_zero]
   exact yc j hj
  ·subst e
   rcases o20 _ hx with h1 | h1
   ·exact nS4 (.inr (.inr h1))
   ·rw [K11 x (by rw [e3]; simp), e3] at h1; cases h1
  ·have a := w11.mp.fr F20 fun hx => hx.elim (fun e => w.li.ne e.symm) w.li.nm
   exact a.fr Fl fun e => nS4 (.inr (.inl e.symm))
  ·have hin : (key, d) ∈ es := w.pm.mem_iff.2 hd
   refine w.pm.trans ?_
   -- l ~ rm l key ++ [(key, d)]
   have : ∀ l : List (Key × Val), (l.map Prod.fst).Nodup → (key, d) ∈ l → l.Perm (rm l key ++ [(key, d)]) := by
    intro l nd hm
    obtain ⟨i, hi, e⟩ := List.getElem_of_mem hm
    have e1 : (l[i]).1 = key := by rw [e]
    unfold rm
    rw [filter_erase Prod.fst key l i hi nd e1]
    have := set_perm (key, d) l i hi
    rw [show l.set i (key, d) = l by rw [← e]; exact List.set_getElem_self hi] at this
    exact this.trans (List.perm_append_comm (l₁ := [(key, d)])).symm.symm
   exact this l w.nd hd
  ·rw [List.length_append]
   have := rm_lt (l := l) (key := key) (List.mem_map.2 ⟨_, hd, rfl⟩)
   simp only [List.length_singleton]
   omega
  ·intro e he
   rcases List.mem_append.1 he with h1 | h1
   ·exact w.vo e (List.mem_filter.1 h1).1
   ·simp only [List.mem_singleton] at h1; subst h1; exact w.vo _ hd
  ·have hx4 : x ≠ b4 := fun e => hx (by rw [e]; exact newK_none K1 hb4)
   rw [O21 x hx4, F20 x (by rw [K11 x (by rw [K13 x hx]; exact hx), K13 x hx]; exact hx) (fun h => hs (ft2 x h)), K11 x (by rw [K13 x hx]; exact hx), K13 x hx]
  ·rcases hx with rfl | rfl | hx
   ·exact .inl (.inl rfl)
   ·exact .inl (.inr (.inl rfl))
   ·rcases o20 x hx with h1 | h1
    ·exact .inl (.inr (.inr h1))
    ·exact .inr (newK_none (K13.trans K11) h1)
 ·have hn : key ∉ l.map Prod.fst := fun hm => hn ((mem_es w key).2 hm)
  refine box_i fun b10 m11 y hb10 K11 ey yn yr yc => kif_f rfl ?_
  rw [ldG_of ey (by omega)]
  have e4 := (K11 b4 (by rw [e3]; simp)).trans e3
  refine stG_i e4 rfl (show 0 + 4 ≤ 4 by omega) fun m21 e21 O21 => ?_
  rw [ldG_of e21 (show 0 + 4 ≤ 4 by omega)]
  have K : Keeps m m21 := fun x hx => by
   have hx4 : x ≠ b4 := fun e => hx (by rw [e]; exact newK_none K1 hb4)
   rw [O21 x hx4, K11 x (by rw [K13 x hx]; exact hx), K13 x hx]
  exact hno hn _ _ (h.keep K) (Stp.keep S K)
end
section
variable {m : Mem} {b : Nat} {n : Int} {l : List (Key × Val)} {S : Nat → Prop}
theorem within22 {n lo hi : Int} (h0 : lo < hi) (h1 : hi < 1000000) (h2 : -1000000 < lo) (n0 : -9223372036854775808 ≤ n) (n1 : n < 9223372036854775808) {k : Int → Mem → Prop} (hk : ∀ v, lo ≤ v → v ≤ hi → k v m) : F15 n lo hi m k := by
 unfold F15
 have key : P15_3102 n lo hi m (fun x1 m2 => (Keeps m m2 ∧ k x1 m)) := by
  unfold P15_3102
  rw [wrap64 (n := hi - lo) (by omega) (by omega), wrap64 (n := hi - lo + 1) (by omega) (by omega)]
  have ht : -(hi - lo + 1) < n.tmod (hi - lo + 1) ∧ n.tmod (hi - lo + 1) < hi - lo + 1 := by
   by_cases c : 0 ≤ n
   ·rw [tmod_nn c]
    have a := Int.emod_nonneg n (show hi - lo + 1 ≠ 0 by omega)
    have b := Int.emod_lt_of_pos n (show 0 < hi - lo + 1 by omega)
    omega
   ·have e : n.tmod (hi - lo + 1) = -((-n).tmod (hi - lo + 1)) := by rw [Int.neg_tmod]; omega
    rw [e, tmod_nn (by omega)]
    have a := Int.emod_nonneg (-n) (show hi - lo + 1 ≠ 0 by omega)
    have b := Int.emod_lt_of_pos (-n) (show 0 < hi - lo + 1 by omega)
    omega
  generalize n.tmod (hi - lo + 1) = r at ht
  refine kif_f (by simp; omega) (kif_c _ (fun c => ?_) fun c => ?_)
  ·have c : r < 0 := by simpa using c
   rw [wrap64 (n := r + hi) (by omega) (by omega), wrap64 (n := r + hi - lo) (by omega) (by omega), wrap64 (n := r + hi - lo + 1) (by omega) (by omega), wrap64 (by omega) (by omega)]
   exact ⟨Keeps.self m, hk _ (by omega) (by omega)⟩
  ·have c : ¬ r < 0 := by simpa using c
   rw [wrap64 (by omega) (by omega)]
   exact ⟨Keeps.self m, hk _ (by omega) (by omega)⟩
 refine kif_c _ (fun c => kif_c _ (fun c1 => ⟨Keeps.self m, hk _ (by simpa using c) (by simpa using c1)⟩) fun _ => key) fun _ => key
end
section
variable {m : Mem} {b : Nat} {n : Int} {l : List (Key × Val)} {S : Nat → Prop}
theorem bpage_spec {c : Nat → AV} {a : Int} (h : c 0 = .flat (.int .u32 a)) (hu : isU a) {k : Int → Mem → Prop} (hk : k (a / 1024) m) : F67 c m k := by
 unfold F67
 refine newK_i fun b2 m1 hb K e O => ?_
 rw [ldI_of e (show (0 : Nat) < 4 by decide) h, Int.tdiv_eq_ediv_of_nonneg hu.1, wrap32, Int.emod_eq_of_lt (by have := hu.1; omega) (by have := hu.2; have := hu.1; omega), wrap64 (by have := hu.1; omega) (by have := hu.2; omega)]
 exact ⟨K, hk⟩
theorem _root_.Go.Proofs.YtkiggdgphbkneaaGreat.Am.IsL.form {esz : Nat} {v : AV} {n : Nat} {c : Nat → AV} (h : IsL m esz v n c) : (∃ a, v = .flat (.slice a 0 0)) ∨ ∃ b o cap, v = .sl b o n cap := by
 cases h with
 | nil a c => exact .inl ⟨a, rfl⟩
 | sl b o n cap y c g1 g2 g3 g4 g5 => exact .inr ⟨b, o, cap, rfl⟩
end
def userS (S : St) : Bool := (bits .and .u32 (S.n 51) 16 != 0) && (bits .and .u32 (S.n 51) 2 == 0)
def writeS (S : St) (n v : Int) : St :=
 if n = 0 then S.putN 39 (bits .and .u32 v 7)
 else if n = 2 then S.putN 41 (bits .and .u32 v 4294966279)
 else if n = 10 then S.putN 49 (bits .and .u32 v 4294966527)
 else if n = 9 ∨ n = 14 then S.putN (39 + n.toNat) v
 else if n = 11 then (S.putN 50 v).putN 52 (bits .andNot .u32 (S.n 52) 32768)
 else if n = 12 then S.putN 51 (bits .and .u32 v 65299)
 else if n = 13 then S.putN 52 (bits .or .u32 (bits .andNot .u32 (S.n 52) 768) (bits .and .u32 v 768))
 else S
theorem putN_ok {S : St} (h : S.ok) {i : Nat} {v : Int} (hi : i < 72) (h0 : 0 ≤ v) (h1 : v < 4294967296) : (S.putN i v).ok := by
 refine ⟨fun j hj => ?_, ?_⟩
 ·unfold St.putN upd; dsimp only; split
  ·exact ⟨h0, h1⟩
  ·exact h.1 j hj
 ·unfold St.putN upd; dsimp only; rw [if_neg (by omega)]; exact h.2
theorem putT_ok {S : St} (h : S.ok) {v : Int} (h0 : -9223372036854775808 ≤ v) (h1 : v < 9223372036854775808) : (S.putN 72 v).ok := by
 refine ⟨fun j hj => ?_, ?_⟩
 ·unfold St.putN upd; dsimp only; rw [if_neg (by omega)]; exact h.1 j hj
 ·unfold St.putN upd; dsimp only; rw [if_pos rfl]; exact ⟨h0, h1⟩
theorem putP_ok {S : St} (h : S.ok) {i : Nat} {v : Bool} : (S.putP i v).ok := h
theorem writeS_ok {S : St} (h : S.ok) {n v : Int} (h0 : 0 ≤ v) (h1 : v < 4294967296) : (writeS S n v).ok := by
 unfold writeS
 split
 ·exact putN_ok h (by omega) (and_rng _ _).1 (and_rng _ _).2
 split
 ·exact putN_ok h (by omega) (and_rng _ _).1 (and_rng _ _).2
 split
 ·exact putN_ok h (by omega) (and_rng _ _).1 (and_rng _ _).2
 split
 ·rename_i e; exact putN_ok h (by rcases e with rfl | rfl <;> decide) h0 h1
 split
 ·exact putN_ok (putN_ok h (by omega) h0 h1) (by omega) (not_rng _ _).1 (not_rng _ _).2
 split
 ·exact putN_ok h (by omega) (and_rng _ _).1 (and_rng _ _).2
 split
 ·exact putN_ok h (by omega) (or_rng _ _).1 (or_rng _ _).2
 ·exact h
theorem user_spec {m : Mem} {b : Nat} {S : St} (h : IsSt m b S) {k : Bool → Mem → Prop} (hk : k (userS S) m) : F91 b 0 m k := by
 unfold F91
 rw [ldI_st h (by omega) rfl]
 unfold userS at hk
 refine kif_c _ (fun h1 => ?_) fun h1 => ?_
 ·rw [ldI_st h (by omega) rfl]; rw [h1] at hk; exact ⟨Keeps.self m, hk⟩
 ·rw [h1] at hk; exact ⟨Keeps.self m, hk⟩
theorem ofbeq {a b : Int} (h : (a == b) = true) : a = b := by simpa using h
theorem ofbne {a b : Int} (h : (a == b) = false) : a ≠ b := by simpa using h
theorem cells_all {c d : Nat → AV} {n : Nat} (h : (List.range n).map c = (List.range n).map d) : ∀ i, i < n → c i = d i := fun i hi => List.map_inj_left.1 h i (List.mem_range.2 hi)
def St0 : St := { n := fun i => if i = 34 then 2147484672 else if i = 35 then 2147484676 else if i = 54 then 98304 else 0, p := fun _ => false }
theorem St0_ok : St0.ok := by
 refine ⟨fun i hi => ?_, by decide, by decide⟩
 unfold St0; dsimp only
 split
 ·omega
 split
 ·omega
 split <;> omega
def Sty : St := { n := fun i => if i = 34 then 2147484672 else if i = 35 then 2147484676 else 0, p := fun _ => false }
theorem y73_cells : StCells (upd (upd (Z73) 34 (.flat (.int .u32 2147484672))) 35 (.flat (.int .u32 2147484676))) Sty := cells_all (by kernel_rfl)
theorem St.ext {S T : St} (h : ∀ i, S.n i = T.n i) (h' : ∀ i, S.p i = T.p i) (hx : S.x = T.x := by rfl) (hq : S.q = T.q := by rfl) : S = T := by
 cases S; cases T
 simp only [St.mk.injEq]
 exact ⟨funext h, funext h', hx, hq⟩
theorem Sty_54 : Sty.putN 54 98304 = St0 := St.ext (fun i => by unfold Sty St.putN St0 upd; dsimp only; by_cases c : i = 54 <;> simp [c]) fun i => rfl
theorem write_spec {m : Mem} {b : Nat} {S : St} (h : IsSt m b S) {n v : Int} {k : Mem → Prop} (hk : ∀ m', IsSt m' b (writeS S n v) → Only m b m' → k m') : F146 b 0 n v m k := by
 unfold F146
 refine kif_c _ (fun h1 => ?_) fun h1 => ?_
 ·have e := ofbeq h1; subst e
  exact kif_ix (by omega) (by omega) (stC_st h (by decide) rfl hk)
 refine kif_c _ (fun h2 => ?_) fun h2 => ?_
 ·have e := ofbeq h2; subst e
  exact kif_ix (by omega) (by omega) (stC_st h (by decide) rfl hk)
 refine kif_c _ (fun h3 => ?_) fun h3 => ?_
 ·have e := ofbeq h3; subst e
  exact kif_ix (by omega) (by omega) (stC_st h (by decide) rfl hk)
 have h1 := ofbne h1; have h2 := ofbne h2; have h3 := ofbne h3
 have key : ∀ (c : Bool), (c = true → n = 9 ∨ n = 14) → (c = false → n ≠ 9 ∧ n ≠ 14) → P146_10004 b 0 n v n c m k := by
  intro c hc hc'
  unfold P146_10004
  refine kif_c _ (fun h4 => ?_) fun h4 => ?_
  ·have e : writeS S n v = S.putN (39 + n.toNat) v := by unfold writeS; simp [h1, h2, h3, hc h4]
   rw [e] at hk
   have hn : 9 ≤ n ∧ n ≤ 14 := by rcases hc h4 with e | e <;> omega
   refine kif_ix (by omega) (by omega) ?_
   have e2 : 0 + 39 + n.toNat * 1 = 39 + n.toNat := by omega
   rw [e2]
   exact stC_st h (by omega) (by simp [isP3]; omega) hk
  have h5 := hc' h4
  refine kif_c _ (fun h6 => ?_) fun h6 => ?_
  ·have e := ofbeq h6; subst e
   refine kif_ix (by omega) (by omega) (stC_st h (by decide) rfl fun m1 i1 o1 => ?_)
   rw [ldI_st i1 (by decide) rfl]
   exact stC_st i1 (by decide) rfl fun m2 i2 o2 => hk m2 i2 (o1.trans o2)
  refine kif_c _ (fun h7 => ?_) fun h7 => ?_
  ·have e := ofbeq h7; subst e
   exact kif_ix (by omega) (by omega) (stC_st h (by decide) rfl hk)
  refine kif_c _ (fun h8 => ?_) fun h8 => ?_
  ·have e := ofbeq h8; subst e
   refine kif_ix (by omega) (by omega) ?_
   rw [ldI_st h (by decide) rfl]
   exact kif_ix (by omega) (by omega) (stC_st h (by decide) rfl hk)
  ·have h6 := ofbne h6; have h7 := ofbne h7; have h8 := ofbne h8
   have e : writeS S n v = S := by unfold writeS; simp [h1, h2, h3, h5, h6, h7, h8]
   rw [e] at hk
   exact hk m h (Only.refl m b)
 refine kif_c _ (fun h4 => ?_) fun h4 => ?_
 ·have h4' := ofbeq h4
  rw [h4]; exact key true (fun _ => .inl h4') (fun h => by cases h)
 ·have h4' := ofbne h4
  refine key _ (fun h => .inr (ofbeq h)) fun h => ⟨h4', ofbne h⟩
theorem fresh_spec {m : Mem} {k : (Nat → AV) → Mem → Prop} (hk : ∀ c, StCells c St0 → k c m) : F78 m k := by
 unfold F78
 intro b2 hb2 b4 hb4
 have hne : b4 ≠ b2 := fun e => by subst e; rw [set_same] at hb4; cases hb4
 refine stS_st (set_same _ _ _) rfl rfl y73_cells fun m5 i5 o5 => stC_st i5 (by decide) rfl fun m6 i6 o6 => ?_
 rw [Sty_54] at i6
 refine ldS_st i6 fun c7 h7 => ?_
 have e2 := ((o6 b2 (Ne.symm hne)).trans (o5 b2 (Ne.symm hne))).trans ((set_other _ (Ne.symm hne)).trans (set_same _ _ _))
 refine stS_st e2 rfl rfl h7 fun m8 i8 o8 => ldS_st i8 fun c9 h9 => ⟨fun b' h' => ?_, h9.inDom m, hk c9 h9⟩
 have n2 : b' ≠ b2 := fun e => h' (e ▸ hb2)
 have hb4' : m.obj b4 = none := by rw [set_other _ hne] at hb4; exact hb4
 have n4 : b' ≠ b4 := fun e => h' (e ▸ hb4')
 rw [o8 b' n2, o6 b' n4, o5 b' n4, set_other _ n4, set_other _ n2]
theorem putN_same (S : St) (i : Nat) (v : Int) : (S.putN i v).n i = v := by simp [St.putN, upd]
theorem putN_other (S : St) {i j : Nat} (v : Int) (h : j ≠ i) : (S.putN i v).n j = S.n j := by simp [St.putN, upd, h]
def namedR (n : Int) : Bool := (decide (0 ≤ n) && decide (n ≤ 2)) || (decide (8 ≤ n) && decide (n ≤ 15))
def readS (S : St) (n : Int) : Int := if n = 1 then S.n 48 % 8 else if namedR n = true then S.n (39 + n.toNat) else 0
theorem named_spec {n : Int} {m : Mem} {k : Bool → Mem → Prop} (hk : k (namedR n) m) : F189 n m k := by
 unfold F189
 have hh : ∀ j : Int, (n == j) = true → namedR j = true → (Keeps m m ∧ k true m) := fun j hj hn => ⟨Keeps.self m, by
  have e := ofbeq hj; subst e; rw [hn] at hk; exact hk⟩
 refine kif_c _ (fun c => kif_t c (hh 0 c rfl)) fun c0 => ?_
 refine kif_c _ (fun c => kif_t c (hh 1 c rfl)) fun c1 => ?_
 refine kif_c _ (fun c => kif_t c (hh 2 c rfl)) fun c2 => ?_
 refine kif_c _ (fun c => kif_t c (hh 8 c rfl)) fun c3 => ?_
 refine kif_c _ (fun c => kif_t c (hh 9 c rfl)) fun c4 => ?_
 refine kif_c _ (fun c => kif_t c (hh 10 c rfl)) fun c5 => ?_
 refine kif_c _ (fun c => kif_t c (hh 11 c rfl)) fun c6 => ?_
 refine kif_c _ (fun c => kif_t c (hh 12 c rfl)) fun c7 => ?_
 refine kif_c _ (fun c => kif_t c (hh 13 c rfl)) fun c8 => ?_
 refine kif_c _ (fun c => kif_t c (hh 14 c rfl)) fun c9 => ?_
 refine kif_c _ (fun c => hh 15 c rfl) fun c10 => ?_
 have e : namedR n = false := by
  have := ofbne c0; have := ofbne c1; have := ofbne c2; have := ofbne c3; have := ofbne c4; have := ofbne c5; have := ofbne c6; have := ofbne c7; have := ofbne c8; have := ofbne c9; have := ofbne c10
  unfold namedR
  simp
  omega
 rw [e] at hk
 exact ⟨Keeps.self m, hk⟩
theorem named_in {n : Int} (h : namedR n = true) : 0 ≤ n ∧ n < 16 := by unfold namedR at h; simp at h; omega
theorem read_spec {m : Mem} {b : Nat} {S : St} (h : IsSt m b S) (hS : S.ok) {n : Int} {k : Int → Mem → Prop} (hk : k (readS S n) m) : F145 b 0 n m k := by
 unfold F145
 unfold readS at hk
 refine named_spec (kif_c _ (fun c => ?_) fun c => kif_c _ (fun c1 => ?_) fun c1 => ?_)
 ·have c : namedR n = false := by simpa using c
  have hn : n ≠ 1 := fun e => by subst e; cases c
  rw [if_neg hn, if_neg (by rw [c]; simp)] at hk; exact ⟨Keeps.self m, hk⟩
 ·have e := ofbeq c1; subst e
  rw [ldI_st h (by omega) rfl, tmod_nn (hS.1 48 (by omega)).1]; exact ⟨Keeps.self m, hk⟩
 ·have c : namedR n = true := by simpa using c
  obtain ⟨n0, n1⟩ := named_in c
  rw [if_neg (ofbne c1), if_pos c] at hk
  refine kif_ix n0 n1 ?_
  rw [show 0 + 39 + n.toNat * 1 = 39 + n.toNat by omega, ldI_st h (by omega) (by simp [isP3]; omega)]; exact ⟨Keeps.self m, hk⟩
def tmatch (S : St) (va : Int) (i : Nat) : Bool :=
 (bits .and .u32 (S.n (55 + i * 2)) 4294966272 == bits .and .u32 va 4294966272) && ((bits .and .u32 (S.n (56 + i * 2)) 4 != 0) || (bits .and .u32 (S.n (55 + i * 2)) 255 == bits .and .u32 (S.n 49) 255))
def tfind (S : St) (va : Int) : Nat → Nat → Int
 | 0, _ => -1
 | d + 1, i => if tmatch S va i = true then i else tfind S va d (i + 1)
theorem tfind_rng (S : St) (va : Int) : ∀ (d i : Nat), tfind S va d i = -1 ∨ (i ≤ tfind S va d i ∧ tfind S va d i < i + d)
 | 0, i => .inl rfl
 | d + 1, i => by
  unfold tfind
  split
  ·exact .inr (by omega)
  ·rcases tfind_rng S va d (i + 1) with h | h
   ·exact .inl h
   ·exact .inr (by omega)
def lookS (S : St) (va : Int) (store : Bool) : Int × Int × Bool :=
 let code : Int := if store = true then 3 else 2
 let k := tfind S va 8 0
 if k < 0 then (0, code, true)
 else
  let lo := S.n (56 + k.toNat * 2)
  if (bits .and .u32 lo 1 == 0) = true then (0, code, false)
  else if store = true ∧ (bits .and .u32 lo 2 == 0) = true then (0, 1, false)
  else (bits .or .u32 (bits .and .u32 lo 4294966272) (bits .and .u32 va 1023), -1, false)
theorem e2cells (S : St) (i : Nat) (hi : i < 8) {c : Nat → AV} {o : Nat} (hc : ∀ j, j < 2 → c (o + j) = stc S (55 + i * 2 + j)) : c o = .flat (.int .u32 (S.n (55 + i * 2))) ∧ c (o + 1) = .flat (.int .u32 (S.n (56 + i * 2))) := by
 have h0 := hc 0 (by omega)
 have h1 := hc 1 (by omega)
 rw [stc_u (by simp [isP3]; omega) (by omega)] at h0 h1
 exact ⟨h0, by rw [h1, show 55 + i * 2 + 1 = 56 + i * 2 by omega]⟩
theorem boxE {m : Mem} {t : TypeId} {z c : Nat → AV} {k : Nat → Mem → Prop} (hk : ∀ b m' x, m.obj b = none → Keeps m m' → m'.obj b = some x → x.n = 2 → (∀ j, j < 2 → x.c j = c j) → k b m') : newK m ⟨2, z, t, false⟩ fun b m2 => stG 2 m2 b 0 c fun m4 => k b m4 := by
 intro b hb
 rw [stG_of (set_same _ _ _) rfl (by show 0 + 2 ≤ 2; omega)]
 refine hk b _ _ hb (fun b' h' => ?_) (set_same _ _ _) rfl fun j hj => ?_
 ·have : b' ≠ b := fun e => h' (e ▸ hb)
  rw [set_other _ this, set_other _ this]
 ·show splice _ 0 2 c j = _
  unfold splice; rw [if_pos (by omega), Nat.sub_zero]
theorem find_loop {m0 : Mem} {b : Nat} {S : St} (h : IsSt m0 b S) {va : Int} {c : Nat → AV} (hc : ∀ i, i < 16 → c i = stc S (55 + i)) {k0 : Int → Mem → Prop} (h1 : ∀ m', Keeps m0 m' → k0 (tfind S va 8 0) m') :
  ∀ (d i : Nat), i + d = 8 → tfind S va d i = tfind S va 8 0 → ∀ m, Keeps m0 m → L121_5 b 0 va c (d + 1) (-1) i m k0 := by
 intro d
 induction d with
 | zero =>
  intro i hi e m K
  obtain rfl : i = 8 := by omega
  unfold L121_5 R121_5
  refine kif_f (by decide) ?_
  have := h1 m K
  rw [← e] at this; exact this
 | succ d ih =>
  intro i hi e m K
  have hi8 : i < 8 := by omega
  unfold L121_5 R121_5
  refine kif_t (by simp; omega) (kif_ix (by omega) (by omega) (kite_t (by omega) ?_))
  refine boxE fun b3 m4 y hb3 K4 e4 hn4 hc4 => ?_
  have hcc : ∀ j, j < 2 → y.c (0 + j) = stc S (55 + i * 2 + j) := fun j hj => by
   rw [Nat.zero_add, hc4 j hj]; simp only [sub, if_pos hj]
   rw [show (i : Int).toNat * 2 + j = i * 2 + j by omega, hc _ (by omega), show 55 + (i * 2 + j) = 55 + i * 2 + j by omega]
  obtain ⟨c0, c1⟩ := e2cells S i hi8 hcc
  rw [ldI_of e4 (by omega) c0]
  have K04 : Keeps m0 m4 := K.trans K4
  have hnext : tmatch S va i = false → L121_5 b 0 va c (d + 1) (-1) (IntKind.wrap .i64 ((i : Int) + 1)) m4 k0 := fun hm => by
   rw [wrap64 (by omega) (by omega)]
   have := ih (i + 1) (by omega) (by rw [← e]; conv => rhs; unfold tfind; rw [if_neg (by rw [hm]; simp)]) m4 K04
   exact_mod_cast this
  have hhit : tmatch S va i = true → k0 i m4 := fun hm => by
   have e2 : tfind S va 8 0 = i := by rw [← e]; unfold tfind; rw [if_pos hm]
   have := h1 m4 K04
   rw [e2] at this; exact this
  refine kif_c _ (fun t1 => ?_) fun t1 => ?_
  ·have t1 : (bits .and .u32 (bits .xor .u32 (S.n (55 + i * 2)) va) 4294966272 == 0) = false := by simpa using t1
   rw [xor_and0] at t1
   exact hnext (by unfold tmatch; rw [t1]; rfl)
  have t1 : (bits .and .u32 (bits .xor .u32 (S.n (55 + i * 2)) va) 4294966272 == 0) = true := by simpa using t1
  rw [xor_and0] at t1
  rw [ldI_of e4 (by omega) c1]
  refine kif_c _ (fun t2 => ?_) fun t2 => ?_
  ·exact hhit (by unfold tmatch; rw [t1, t2]; rfl)
  rw [ldI_of e4 (by omega) c0, ldI_st (h.keep K04) (by omega) rfl, xor_and0]
  refine kif_c _ (fun t3 => ?_) fun t3 => ?_
  ·exact hhit (by unfold tmatch; rw [t1, t2, t3]; rfl)
  ·exact hnext (by unfold tmatch; rw [t1, t2, t3]; rfl)
theorem find_spec {m : Mem} {b : Nat} {S : St} (h : IsSt m b S) {va : Int} {k : Int → Mem → Prop} (hk : k (tfind S va 8 0) m) : F121 b 0 va m k := by
 unfold F121
 obtain ⟨x, ex, hn, hr0, hc, hx0⟩ := h
 rw [ldG_of ex (by omega)]
 exact ⟨9, find_loop ⟨x, ex, hn, hr0, hc, hx0⟩ (fun i hi => by simp only [sub, if_pos hi]; exact hc _ (by omega)) (fun m' K => ⟨K, hk⟩) 8 0 rfl rfl m (Keeps.self m)⟩
theorem look_body {m0 m : Mem} {b : Nat} {S : St} (h : IsSt m b S) {va : Int} {store : Bool} {kr : Int → Int → Bool → Mem → Prop} (hk : kr (lookS S va store).1 (lookS S va store).2.1 (lookS S va store).2.2 m) : P92_6102 b 0 va store (if store = true then 3 else 2) m kr := by
 unfold P92_6102
 refine find_spec h ?_
 have hr := tfind_rng S va 8 0
 unfold lookS at hk
 refine kif_c _ (fun c1 => ?_) fun c1 => ?_
 ·have c1 : tfind S va 8 0 < 0 := by simpa using c1
  dsimp only at hk; rw [if_pos c1] at hk; exact hk
 have c1 : ¬ tfind S va 8 0 < 0 := by simpa using c1
 dsimp only at hk; rw [if_neg c1] at hk
 generalize tfind S va 8 0 = x at hk c1 hr
 refine kif_ix (by omega) (by omega) ?_
 rw [show 0 + 55 + x.toNat * 2 + 1 = 56 + x.toNat * 2 by omega, ldI_st h (by omega) (by simp [isP3]; omega)]
 refine kif_c _ (fun c2 => ?_) fun c2 => ?_
 ·rw [if_pos c2] at hk; exact hk
 rw [if_neg (by rw [c2]; simp)] at hk
 have key : ∀ c, (c = true ↔ store = true ∧ (bits .and .u32 (S.n (56 + x.toNat * 2)) 2 == 0) = true) → P92_14004 va (S.n (56 + x.toNat * 2)) c m kr := by
  intro c hc
  unfold P92_14004
  refine kif_c _ (fun c3 => ?_) fun c3 => ?_
  ·rw [if_pos (hc.1 c3)] at hk; exact hk
  ·rw [if_neg (fun e => by rw [hc.2 e] at c3; cases c3)] at hk; exact hk
 refine kif_c _ (fun c3 => key _ (by rw [c3]; simp)) fun c3 => key _ (by rw [c3]; simp)
theorem look_spec {m : Mem} {b : Nat} {S : St} (h : IsSt m b S) {va : Int} {store : Bool} {k : Int → Int → Bool → Mem → Prop} (hk : k (lookS S va store).1 (lookS S va store).2.1 (lookS S va store).2.2 m) : F92 b 0 va store m k := by
 unfold F92
 cases store with
 | true => exact look_body (m0 := m) h ⟨Keeps.self m, hk⟩
 | false => exact look_body (m0 := m) h ⟨Keeps.self m, hk⟩
theorem tmatch_page (S : St) (A B : Int) (a0 : 0 ≤ A) (a1 : A < 4294967296) (b0 : 0 ≤ B) (b1 : B < 4294967296) (h : A - A % 1024 = B - B % 1024) (i : Nat) : tmatch S A i = tmatch S B i := by
 unfold tmatch; rw [hi_eq A a0 a1, hi_eq B b0 b1, h]
theorem tfind_page (S : St) (A B : Int) (a0 : 0 ≤ A) (a1 : A < 4294967296) (b0 : 0 ≤ B) (b1 : B < 4294967296) (h : A - A % 1024 = B - B % 1024) : ∀ d i, tfind S A d i = tfind S B d i
 | 0, i => rfl
 | d + 1, i => by
  unfold tfind; rw [tmatch_page S A B a0 a1 b0 b1 h i, tfind_page S A B a0 a1 b0 b1 h d (i + 1)]
def liesS (S : St) (va n : Int) (store : Bool) : Int × Int × Bool :=
 let n' := if n ≠ 1 ∧ n ≠ 2 then 4 else n
 if va % n' ≠ 0 ∨ (2147483648 ≤ va ∧ userS S = true) then (0, if store = true then 5 else 4, false)
 else if 2147483648 ≤ va ∧ va < 3221225472 then (bits .and .u32 va 536870911, -1, false)
 else lookS S va store
def modeS (S : St) : Int := if userS S = true then bits .and .u32 (S.n 49) 255 + 256 else bits .and .u32 (S.n 49) 255
theorem seg_body {m : Mem} {b : Nat} {S : St} (h : IsSt m b S) {va n : Int} (h0 : 0 ≤ va) (h1 : va < 4294967296) {store : Bool} {kr : Int → Int → Bool → Mem → Prop} (hk : kr (liesS S va n store).1 (liesS S va n store).2.1 (liesS S va n store).2.2 m) : P62_6103 b 0 va n store (if store = true then 5 else 4) m kr := by
 unfold liesS at hk
 have key : ∀ n' : Int, (n' = 1 ∨ n' = 2 ∨ n' = 4) → (if n ≠ 1 ∧ n ≠ 2 then 4 else n) = n' → P62_8105 b 0 va n' store (if store = true then 5 else 4) m kr := by
  intro n' hn' e
  rw [e] at hk
  unfold P62_8105
  have hw : IntKind.wrap .u32 n' = n' := by rw [wrap32]; rcases hn' with rfl | rfl | rfl <;> rfl
  rw [hw, tmod_nn h0]
  refine kif_f (by rcases hn' with rfl | rfl | rfl <;> rfl) ?_
  have rest : ∀ q, (q = true ↔ va % n' ≠ 0 ∨ (2147483648 ≤ va ∧ userS S = true)) → P62_9004 b 0 va store (if store = true then 5 else 4) q m kr (fun m12 => P62_12102 b 0 va store m12 kr) := by
   intro q hq
   unfold P62_9004
   refine kif_c _ (fun c1 => ?_) fun c1 => ?_
   ·rw [if_pos (hq.1 c1)] at hk; exact hk
   rw [if_neg (fun e => by rw [hq.2 e] at c1; cases c1)] at hk
   have look : (¬ (2147483648 ≤ va ∧ va < 3221225472)) → P62_12102 b 0 va store m kr := by
    intro hn
    rw [if_neg hn] at hk
    unfold P62_12102
    exact look_spec h hk
   refine kif_c _ (fun c2 => kif_c _ (fun c3 => ?_) fun c3 => ?_) fun c2 => ?_
   ·rw [if_pos ⟨by simpa using c2, by simpa using c3⟩] at hk; exact hk
   ·exact look fun e => by simp at c3; omega
   ·exact look fun e => by simp at c2; omega
  refine kif_c _ (fun c1 => rest true (by simp at c1; simp [c1])) fun c1 => ?_
  have c1 : va % n' = 0 := by simpa using c1
  refine kif_c _ (fun c2 => ?_) fun c2 => rest false (by simp at c2; simp [c1]; intro; omega)
  refine user_spec h (rest _ (by simp at c2; simp [c1, c2]))
 unfold P62_6103
 refine kif_c _ (fun c1 => kif_c _ (fun c2 => ?_) fun c2 => ?_) fun c1 => ?_
 ·have c1 : n ≠ 1 := by simpa using c1
  have c2 : n ≠ 2 := by simpa using c2
  exact key 4 (by simp) (by simp [c1, c2])
 ·have c2 : n = 2 := by simpa using c2
  exact key n (by simp [c2]) (by simp [c2])
 ·have c1 : n = 1 := by simpa using c1
  exact key n (by simp [c1]) (by simp [c1])
theorem seg_spec {m : Mem} {b : Nat} {S : St} (h : IsSt m b S) {va n : Int} (h0 : 0 ≤ va) (h1 : va < 4294967296) {store : Bool} {k : Int → Int → Bool → Mem → Prop} (hk : k (liesS S va n store).1 (liesS S va n store).2.1 (liesS S va n store).2.2 m) : F62 b 0 va n store m k := by
 unfold F62
 cases store with
 | true => exact seg_body h h0 h1 ⟨Keeps.self m, hk⟩
 | false => exact seg_body h h0 h1 ⟨Keeps.self m, hk⟩
theorem mode_wrap (x : Int) : IntKind.wrap .i64 (bits .and .u32 x 255) = bits .and .u32 x 255 ∧ IntKind.wrap .i64 (bits .and .u32 x 255 + 256) = bits .and .u32 x 255 + 256 := by
 have := and_rng x 255
 exact ⟨wrap64 (by omega) (by omega), wrap64 (by omega) (by omega)⟩
theorem mode_spec {m : Mem} {b : Nat} {S : St} (h : IsSt m b S) {k : Int → Mem → Prop} (hk : k (modeS S) m) : F64 b 0 m k := by
 unfold F64
 rw [ldI_st h (by omega) rfl]
 unfold modeS at hk
 obtain ⟨w1, w2⟩ := mode_wrap (S.n (0 + 39 + 10))
 rw [w1, w2]
 refine user_spec h (kif_c _ (fun c => ?_) fun c => ?_)
 ·rw [if_pos c] at hk; exact ⟨Keeps.self m, hk⟩
 ·rw [if_neg (by rw [c]; simp)] at hk; exact ⟨Keeps.self m, hk⟩
def missS (S : St) : Int := if (S.n 50 - S.n 48) % 4294967296 = 0 then 4294967296 else (S.n 50 - S.n 48) % 4294967296
def goS (S : St) (n : Int) : St × Bool :=
 if n < 1 then (S, false)
 else if missS S ≤ n then (((S.putN 72 (IntKind.wrap .i64 (S.n 72 + n))).putN 48 (IntKind.wrap .u32 (S.n 48 + IntKind.wrap .u32 n))).putN 52 (bits .or .u32 (S.n 52) 32768), true)
 else ((S.putN 72 (IntKind.wrap .i64 (S.n 72 + n))).putN 48 (IntKind.wrap .u32 (S.n 48 + IntKind.wrap .u32 n)), false)
def outS (S : St) : Bool := bits .and .u32 (S.n 51) 2 == 0
def enterA (S : St) : St :=
 if outS S = true then
  if S.p 36 = true then (S.putN 53 (IntKind.wrap .u32 (S.n 34 - 4))).putN 52 (bits .or .u32 (bits .andNot .u32 (S.n 52) 2147483648) 2147483648)
  else (S.putN 53 (S.n 34)).putN 52 (bits .andNot .u32 (S.n 52) 2147483648)
 else S
def toS (S : St) (pc : Int) : St := ((S.putN 34 pc).putN 35 (IntKind.wrap .u32 (pc + 4))).putP 36 false
def enterB (S : St) (code pc : Int) : St := (toS (S.putN 52 (bits .or .u32 (bits .andNot .u32 (S.n 52) 124) (code * 4))) pc).putN 51 (bits .or .u32 (S.n 51) 2)
def enterS (S : St) (code : Int) (refill : Bool) : St := enterB (enterA S) code (if (refill && outS S) = true then 2147483648 else 2147484032)
def returnS (S : St) : St := ((toS S (S.n 53)).putN 51 (bits .andNot .u32 (S.n 51) 2)).putP 37 false
def badS (S : St) (va : Int) (t : Bool) : St := if t = true then (S.putN 47 va).putN 49 (bits .or .u32 (bits .and .u32 (S.n 49) 1023) (bits .and .u32 va 4294966272)) else S.putN 47 va
def lineS (S : St) (up : Bool) : St := if up = true then S.putN 52 (bits .or .u32 (bits .andNot .u32 (S.n 52) 1024) 1024) else S.putN 52 (bits .andNot .u32 (S.n 52) 1024)
def pendS (S : St) : Bool := bits .and .u32 (bits .and .u32 (S.n 52) (S.n 51)) 65280 != 0
def takenS (S : St) : Bool := pendS S && (bits .and .u32 (S.n 51) 3 == 1)
theorem St.putNN (S : St) (i : Nat) (u v : Int) : (S.putN i u).putN i v = S.putN i v := St.ext (fun j => by unfold St.putN upd; dsimp only; split <;> rfl) fun j => rfl
theorem St.putNC (S : St) {i j : Nat} (h : i ≠ j) (u v : Int) : (S.putN i u).putN j v = (S.putN j v).putN i u := St.ext (fun q => by
 unfold St.putN upd; dsimp only
 by_cases a : q = j
 ·subst a; rw [if_pos rfl, if_neg (Ne.symm h), if_pos rfl]
 ·rw [if_neg a]; by_cases c : q = i
  ·rw [if_pos c, if_pos c]
  ·rw [if_neg c, if_neg c, if_neg a]) fun j => rfl
theorem and_idem2 (x q r : Int) (h : bv q &&& bv r = bv r) : bits .and .u32 (bits .and .u32 x q) r = bits .and .u32 x r := by
 rw [and_bv, and_bv, and_bv, bv_back, BitVec.and_assoc, h]
theorem taken_eq (x : Int) (h0 : 0 ≤ x) (h1 : x < 4294967296) : (bits .and .u32 x 3 == 1) = ((bits .and .u32 x 1 != 0) && (bits .and .u32 x 2 == 0)) := by
 rw [← and_idem2 x 3 1 (by decide), ← and_idem2 x 3 2 (by decide)]
 have e : bits .and .u32 x 3 = x % 4 := by have := and_ones x h0 h1 2 (by decide); simpa using this
 rw [e]
 have : x % 4 = 0 ∨ x % 4 = 1 ∨ x % 4 = 2 ∨ x % 4 = 3 := by omega
 rcases this with h | h | h | h <;> rw [h] <;> decide
theorem and_and (x y z : Int) : bits .and .u32 (bits .and .u32 x z) (bits .and .u32 y z) = bits .and .u32 (bits .and .u32 x y) z := by
 rw [and_bv, and_bv, and_bv, and_bv, and_bv, bv_back, bv_back, bv_back]
 congr 2
 apply BitVec.eq_of_getLsbD_eq
 intro i hi
 simp only [BitVec.getLsbD_and]
 generalize (bv x).getLsbD i = p; generalize (bv y).getLsbD i = q; generalize (bv z).getLsbD i = r
 revert p q r; decide
theorem code_and (c : Int) (h0 : 0 ≤ c) (h1 : c < 32) : bits .and .i64 c 31 = c ∧ bits .and .u32 (IntKind.wrap .u32 ((IntKind.wrap .u32 c) * 4)) 124 = c * 4 ∧ IntKind.wrap .u32 ((IntKind.wrap .u32 c) * 4) = c * 4 := by
 have e : ∀ n : Fin 32, bits .and .i64 (n.val : Int) 31 = n.val ∧ bits .and .u32 (IntKind.wrap .u32 ((IntKind.wrap .u32 (n.val : Int)) * 4)) 124 = (n.val : Int) * 4 ∧ IntKind.wrap .u32 ((IntKind.wrap .u32 (n.val : Int)) * 4) = (n.val : Int) * 4 := by decide +kernel
 have := e ⟨c.toNat, by omega⟩
 have ec : ((c.toNat : Nat) : Int) = c := by omega
 simpa only [ec] using this
theorem wrap64_rng (n : Int) : -9223372036854775808 ≤ IntKind.wrap .i64 n ∧ IntKind.wrap .i64 n < 9223372036854775808 := by
 have e : IntKind.wrap .i64 n = if n % 18446744073709551616 ≥ 9223372036854775808 then n % 18446744073709551616 - 18446744073709551616 else n % 18446744073709551616 := by
  simp [IntKind.wrap, IntKind.bits, IntKind.signed]
 rw [e]
 split <;> omega
theorem St.ok_toS {S : St} (h : S.ok) {pc : Int} (h0 : 0 ≤ pc) (h1 : pc < 4294967296) : (toS S pc).ok := by
 unfold toS
 have := wrap32_rng (pc + 4)
 exact putP_ok (putN_ok (putN_ok h (by omega) h0 h1) (by omega) this.1 this.2)
theorem goS_ok {S : St} (h : S.ok) (n : Int) : (goS S n).1.ok := by
 unfold goS
 have w := wrap64_rng (S.n 72 + n)
 have w2 := wrap32_rng (S.n 48 + IntKind.wrap .u32 n)
 have w3 := or_rng (S.n 52) 32768
 split
 ·exact h
 split
 ·exact putN_ok (putN_ok (putT_ok h w.1 w.2) (by omega) w2.1 w2.2) (by omega) w3.1 w3.2
 ·exact putN_ok (putT_ok h w.1 w.2) (by omega) w2.1 w2.2
theorem enterA_ok {S : St} (h : S.ok) : (enterA S).ok := by
 unfold enterA
 have w := wrap32_rng (S.n 34 - 4)
 have w3 := or_rng (bits .andNot .u32 (S.n 52) 2147483648) 2147483648
 have w4 := not_rng (S.n 52) 2147483648
 have w5 := h.1 34 (by omega)
 split
 ·split
  ·exact putN_ok (putN_ok h (by omega) w.1 w.2) (by omega) w3.1 w3.2
  ·exact putN_ok (putN_ok h (by omega) w5.1 w5.2) (by omega) w4.1 w4.2
 ·exact h
theorem enterS_ok {S : St} (h : S.ok) (c : Int) (r : Bool) : (enterS S c r).ok := by
 unfold enterS enterB
 have w := or_rng (bits .andNot .u32 ((enterA S).n 52) 124) (c * 4)
 have w2 := or_rng ((enterA S).n 51) 2
 refine putN_ok (St.ok_toS (putN_ok (enterA_ok h) (by omega) w.1 w.2) ?_ ?_) (by omega) w2.1 w2.2
 ·split <;> decide
 ·split <;> decide
theorem returnS_ok {S : St} (h : S.ok) : (returnS S).ok := by
 unfold returnS
 have w := h.1 53 (by omega)
 have w2 := not_rng (S.n 51) 2
 exact putP_ok (putN_ok (St.ok_toS h w.1 w.2) (by omega) w2.1 w2.2)
theorem badS_ok {S : St} (h : S.ok) {va : Int} (h0 : 0 ≤ va) (h1 : va < 4294967296) (t : Bool) : (badS S va t).ok := by
 unfold badS
 have w := or_rng (bits .and .u32 (S.n 49) 1023) (bits .and .u32 va 4294966272)
 split
 ·exact putN_ok (putN_ok h (by omega) h0 h1) (by omega) w.1 w.2
 ·exact putN_ok h (by omega) h0 h1
theorem lineS_ok {S : St} (h : S.ok) (t : Bool) : (lineS S t).ok := by
 unfold lineS
 have w := or_rng (bits .andNot .u32 (S.n 52) 1024) 1024
 have w2 := not_rng (S.n 52) 1024
 split
 ·exact putN_ok h (by omega) w.1 w.2
 ·exact putN_ok h (by omega) w2.1 w2.2
theorem wrap64d (x : Int) : IntKind.wrap .i64 (IntKind.wrap .u32 x) = x % 4294967296 := by
 rw [wrap32, wrap64 (by omega) (by omega)]
theorem go_spec {m : Mem} {b : Nat} {S : St} (h : IsSt m b S) {n : Int} {k : Bool → Mem → Prop} (hk : ∀ m', IsSt m' b (goS S n).1 → Only m b m' → k (goS S n).2 m') : F77 b 0 n m k := by
 unfold F77
 unfold goS at hk
 refine kif_c _ (fun c => ?_) fun c => ?_
 ·rw [if_pos (by simpa using c)] at hk; exact hk m h (Only.refl m b)
 have c : ¬ n < 1 := by simpa using c
 rw [if_neg c] at hk
 rw [ldI_st h (by omega) rfl, ldI_st h (by omega) rfl, wrap64d]
 have key : ∀ d : Int, d = missS S → P77_6102 b 0 n d m k := by
  intro d hd
  unfold P77_6102
  simp only [Nat.reduceAdd, Nat.zero_add]
  rw [ldT_st h]
  refine stT_st h fun m1 i1 o1 => ?_
  rw [ldI_st i1 (by omega) rfl]
  refine stC_st i1 (by omega) rfl fun m2 i2 o2 => ?_
  rw [putN_other S (i := 72) (j := 48) _ (by decide)] at i2
  refine kif_c _ (fun c2 => ?_) fun c2 => ?_
  ·have c2 : n < d := by simpa using c2
   rw [if_neg (by omega)] at hk
   exact hk m2 i2 (o1.trans o2)
  ·have c2 : ¬ n < d := by simpa using c2
   rw [if_pos (by omega)] at hk
   rw [ldI_st i2 (by omega) rfl]
   refine stC_st i2 (by omega) rfl fun m3 i3 o3 => ?_
   rw [putN_other _ (j := 52) _ (by decide), putN_other _ (j := 52) _ (by decide)] at i3
   exact hk m3 i3 ((o1.trans o2).trans o3)
 refine kif_c _ (fun c1 => key _ ?_) fun c1 => key _ ?_
 ·have c1 := ofbeq c1
  unfold missS; rw [if_pos (by simpa using c1)]
 ·have c1 := ofbne c1
  unfold missS; rw [if_neg (by simpa using c1)]
theorem to_spec {m : Mem} {b : Nat} {S : St} (h : IsSt m b S) {pc : Int} {k : Mem → Prop} (hk : ∀ m', IsSt m' b (toS S pc) → Only m b m' → k m') : F135 b 0 pc m k := by
 unfold F135
 simp only [Nat.reduceAdd, Nat.zero_add]
 exact stC_st h (by omega) rfl fun m1 i1 o1 => stC_st i1 (by omega) rfl fun m2 i2 o2 => stB_st i2 (by omega) rfl fun m3 i3 o3 => hk m3 i3 ((o1.trans o2).trans o3)
theorem enter_spec {m : Mem} {b : Nat} {S : St} (h : IsSt m b S) {c : Int} {r : Bool} (hc0 : 0 ≤ c) (hc1 : c < 32) {k : Mem → Prop} (hk : ∀ m', IsSt m' b (enterS S c r) → Only m b m' → k m') : F102 b 0 c r m k := by
 unfold F102
 simp only [Nat.reduceAdd, Nat.zero_add]
 unfold enterS at hk
 obtain ⟨e1, e2, e3⟩ := code_and c hc0 hc1
 have tail : ∀ (A : St) (pc : Int) (m1 : Mem), IsSt m1 b A → Only m b m1 → (∀ m', IsSt m' b (enterB A c pc) → Only m b m' → k m') → P102_10102 b 0 c pc m1 (fun m9 => k m9) := by
  intro A pc m1 i1 o1 hk
  unfold P102_10102
  simp only [Nat.reduceAdd, Nat.zero_add]
  rw [e1, e3, ldI_st i1 (by omega) rfl]
  refine stC_st i1 (by omega) rfl fun m2 i2 o2 => to_spec i2 fun m3 i3 o3 => ?_
  rw [ldI_st i3 (by omega) rfl]
  refine stC_st i3 (by omega) rfl fun m4 i4 o4 => hk m4 i4 (((o1.trans o2).trans o3).trans o4)
 rw [ldI_st h (by omega) rfl]
 refine kif_c _ (fun cx => ?_) fun cx => ?_
 ·have hout : outS S = true := cx
  have eA : enterA S = if S.p 36 = true then (S.putN 53 (IntKind.wrap .u32 (S.n 34 - 4))).putN 52 (bits .or .u32 (bits .andNot .u32 (S.n 52) 2147483648) 2147483648) else (S.putN 53 (S.n 34)).putN 52 (bits .andNot .u32 (S.n 52) 2147483648) := by unfold enterA; rw [if_pos hout]
  have mid : ∀ (m1 : Mem), IsSt m1 b (enterA S) → Only m b m1 → P102_8102 b 0 c r 2147484032 m1 (fun x m2 => P102_10102 b 0 c x m2 (fun m9 => k m9)) := by
   intro m1 i1 o1
   unfold P102_8102
   rw [hout, Bool.and_true] at hk
   refine kif_c _ (fun c2 => ?_) fun c2 => ?_
   ·rw [if_pos c2] at hk; exact tail _ _ _ i1 o1 hk
   ·rw [if_neg (by rw [c2]; simp)] at hk; exact tail _ _ _ i1 o1 hk
  rw [ldI_st h (by omega) rfl]
  refine stC_st h (by omega) rfl fun m1 i1 o1 => ?_
  rw [ldI_st i1 (by omega) rfl, putN_other S (j := 52) _ (by decide)]
  refine stC_st i1 (by omega) rfl fun m2 i2 o2 => ?_
  rw [ldB_st i2 (by omega) rfl]
  refine kif_c _ (fun c3 => ?_) fun c3 => ?_
  ·have c3 : S.p 36 = true := c3
   rw [ldI_st i2 (by omega) rfl, putN_other _ (j := 34) _ (by decide), putN_other _ (j := 34) _ (by decide)]
   refine stC_st i2 (by omega) rfl fun m3 i3 o3 => ?_
   rw [ldI_st i3 (by omega) rfl, putN_other _ (j := 52) _ (by decide), putN_same]
   refine stC_st i3 (by omega) rfl fun m4 i4 o4 => mid m4 ?_ (((o1.trans o2).trans o3).trans o4)
   rw [eA, if_pos c3]
   rw [St.putNC _ (i := 52) (j := 53) (by decide), St.putNN, St.putNN] at i4
   exact i4
  ·have c3 : S.p 36 = false := c3
   refine mid m2 ?_ (o1.trans o2)
   rw [eA, if_neg (by rw [c3]; simp)]
   exact i2
 ·have hout : outS S = false := cx
  have eA : enterA S = S := by unfold enterA; rw [if_neg (by rw [hout]; simp)]
  rw [hout, Bool.and_false, if_neg (by simp), eA] at hk
  exact tail S _ m h (Only.refl m b) hk
theorem return_spec {m : Mem} {b : Nat} {S : St} (h : IsSt m b S) {k : Mem → Prop} (hk : ∀ m', IsSt m' b (returnS S) → Only m b m' → k m') : F108 b 0 m k := by
 unfold F108
 simp only [Nat.reduceAdd, Nat.zero_add]
 rw [ldI_st h (by omega) rfl]
 refine to_spec h fun m1 i1 o1 => ?_
 rw [ldI_st i1 (by omega) rfl]
 refine stC_st i1 (by omega) rfl fun m2 i2 o2 => stB_st i2 (by omega) rfl fun m3 i3 o3 => hk m3 i3 ((o1.trans o2).trans o3)
theorem bad_spec {m : Mem} {b : Nat} {S : St} (h : IsSt m b S) {va : Int} {t : Bool} {k : Mem → Prop} (hk : ∀ m', IsSt m' b (badS S va t) → Only m b m' → k m') : F136 b 0 va t m k := by
 unfold F136
 simp only [Nat.reduceAdd, Nat.zero_add]
 unfold badS at hk
 refine stC_st h (by omega) rfl fun m1 i1 o1 => kif_c _ (fun c => ?_) fun c => ?_
 ·rw [if_pos c] at hk
  rw [ldI_st i1 (by omega) rfl, putN_other S (j := 49) _ (by decide), not_and (S.n 49) 4294966272 1023 (by decide)]
  exact stC_st i1 (by omega) rfl fun m2 i2 o2 => hk m2 i2 (o1.trans o2)
 ·rw [if_neg (by rw [c]; simp)] at hk
  exact hk m1 i1 o1
theorem line_spec {m : Mem} {b : Nat} {S : St} (h : IsSt m b S) {t : Bool} {k : Mem → Prop} (hk : ∀ m', IsSt m' b (lineS S t) → Only m b m' → k m') : F59 b 0 t m k := by
 unfold F59
 simp only [Nat.reduceAdd, Nat.zero_add]
 unfold lineS at hk
 rw [ldI_st h (by omega) rfl]
 refine stC_st h (by omega) rfl fun m1 i1 o1 => kif_c _ (fun c => ?_) fun c => ?_
 ·rw [if_pos c] at hk
  rw [ldI_st i1 (by omega) rfl, putN_same]
  refine stC_st i1 (by omega) rfl fun m2 i2 o2 => hk m2 ?_ (o1.trans o2)
  rw [St.putNN] at i2; exact i2
 ·rw [if_neg (by rw [c]; simp)] at hk
  exact hk m1 i1 o1
theorem pend_spec {m : Mem} {b : Nat} {S : St} (h : IsSt m b S) {k : Bool → Mem → Prop} (hk : k (pendS S) m) : F73 b 0 m k := by
 unfold F73
 simp only [Nat.reduceAdd, Nat.zero_add]
 rw [ldI_st h (by omega) rfl, ldI_st h (by omega) rfl, and_and]
 exact ⟨Keeps.self m, hk⟩
theorem taken_spec {m : Mem} {b : Nat} {S : St} (h : IsSt m b S) (hS : S.ok) {k : Bool → Mem → Prop} (hk : k (takenS S) m) : F61 b 0 m k := by
 unfold F61
 simp only [Nat.reduceAdd, Nat.zero_add]
 unfold takenS at hk
 rw [taken_eq _ (hS.1 51 (by omega)).1 (hS.1 51 (by omega)).2] at hk
 refine pend_spec h (kif_c _ (fun c => ?_) fun c => ?_)
 ·rw [ldI_st h (by omega) rfl]
  refine kif_c _ (fun c1 => ?_) fun c1 => ?_
  ·rw [ldI_st h (by omega) rfl]; rw [c, c1] at hk; exact ⟨Keeps.self m, hk⟩
  ·rw [c, c1] at hk; exact ⟨Keeps.self m, hk⟩
 ·rw [c] at hk; exact ⟨Keeps.self m, hk⟩
def putS (S : St) (random : Bool) : St :=
 let i : Int := if random = true then S.n 48 % 8 else bits .and .u32 (S.n 39) 7
 (S.putN (55 + i.toNat * 2) (S.n 49)).putN (56 + i.toNat * 2) (S.n 41)
theorem and7 (x : Int) : 0 ≤ bits .and .u32 x 7 ∧ bits .and .u32 x 7 < 8 := by
 have h := and_rng x 7
 have h2 : (bv x &&& bv 7).toNat ≤ 7 := by
  rw [BitVec.toNat_and]; exact Nat.le_trans Nat.and_le_right (by decide)
 rw [and_bv] at h ⊢
 omega
theorem putS_ok {S : St} (h : S.ok) (r : Bool) : (putS S r).ok := by
 unfold putS
 have h48 := h.1 48 (by omega)
 have hi : ∀ i : Int, 0 ≤ i → i < 8 → ((S.putN (55 + i.toNat * 2) (S.n 49)).putN (56 + i.toNat * 2) (S.n 41)).ok := fun i h0 h1 =>
  putN_ok (putN_ok h (by omega) (h.1 49 (by omega)).1 (h.1 49 (by omega)).2) (by omega) (h.1 41 (by omega)).1 (h.1 41 (by omega)).2
 have h7 := and7 (S.n 39)
 cases r with
 | true => exact hi _ (by simp; omega) (by simp; omega)
 | false => exact hi _ (by simp; omega) (by simp; omega)
theorem put_spec_S {m : Mem} {b : Nat} {S : St} (h : IsSt m b S) (hS : S.ok) {r : Bool} {k : Mem → Prop} (hk : ∀ m', IsSt m' b (putS S r) → Only m b m' → k m') : F148 b 0 r m k := by
 unfold F148
 unfold putS at hk
 have key : ∀ i : Int, 0 ≤ i → i < 8 → (∀ m', IsSt m' b ((S.putN (55 + i.toNat * 2) (S.n 49)).putN (56 + i.toNat * 2) (S.n 41)) → Only m b m' → k m') → P148_4002 b 0 i m k := by
  intro i i0 i1 hk
  unfold P148_4002
  rw [ldI_st h (by omega) rfl, ldI_st h (by omega) rfl]
  refine kif_ix i0 i1 ?_
  rw [show 0 + 55 + i.toNat * 2 = 55 + i.toNat * 2 by omega]
  refine stE_st h (by omega) rfl rfl ?_
  rw [show 55 + i.toNat * 2 + 1 = 56 + i.toNat * 2 by omega]
  exact hk
 rw [ldI_st h (by omega) rfl]
 have h48 := hS.1 48 (by omega)
 have h7 := and7 (S.n 39)
 cases r with
 | true =>
  refine kif_t rfl (read_spec h hS ?_)
  exact key _ (by simp [readS]; omega) (by simp [readS]; omega) hk
 | false => exact kif_f rfl (key _ h7.1 h7.2 hk)
structure Row where
 op : Int
 sub : Int
 kd : Int
 f : ByteArray
def T0 : List Row := [⟨0, 0, 1, ⟨#[116, 100, 104]⟩⟩, ⟨0, 2, 2, ⟨#[116, 100, 104]⟩⟩, ⟨0, 3, 3, ⟨#[116, 100, 104]⟩⟩, ⟨0, 4, 4, ⟨#[115, 116, 100]⟩⟩, ⟨0, 6, 5, ⟨#[115, 116, 100]⟩⟩, ⟨0, 7, 6, ⟨#[115, 116, 100]⟩⟩, ⟨0, 8, 7, ⟨#[115]⟩⟩, ⟨0, 9, 8, ⟨#[115, 100]⟩⟩, ⟨0, 10, 9, ⟨#[115, 116, 100]⟩⟩, ⟨0, 11, 10, ⟨#[115, 116, 100]⟩⟩, ⟨0, 12, 11, ⟨#[]⟩⟩, ⟨0, 13, 12, ⟨#[]⟩⟩, ⟨0, 15, 13, ⟨#[]⟩⟩, ⟨0, 16, 14, ⟨#[100]⟩⟩, ⟨0, 17, 15, ⟨#[115]⟩⟩, ⟨0, 18, 16, ⟨#[100]⟩⟩, ⟨0, 19, 17, ⟨#[115]⟩⟩, ⟨0, 24, 18, ⟨#[115, 116]⟩⟩, ⟨0, 25, 19, ⟨#[115, 116]⟩⟩, ⟨0, 26, 20, ⟨#[115, 116]⟩⟩, ⟨0, 27, 21, ⟨#[115, 116]⟩⟩, ⟨0, 32, 22, ⟨#[115, 116, 100]⟩⟩, ⟨0, 33, 23, ⟨#[115, 116, 100]⟩⟩, ⟨0, 34, 24, ⟨#[115, 116, 100]⟩⟩, ⟨0, 35, 25, ⟨#[115, 116, 100]⟩⟩, ⟨0, 36, 26, ⟨#[115, 116, 100]⟩⟩, ⟨0, 37, 27, ⟨#[115, 116, 100]⟩⟩, ⟨0, 38, 28, ⟨#[115, 116, 100]⟩⟩, ⟨0, 39, 29, ⟨#[115, 116, 100]⟩⟩, ⟨0, 42, 30, ⟨#[115, 116, 100]⟩⟩, ⟨0, 43, 31, ⟨#[115, 116, 100]⟩⟩, ⟨0, 48, 32, ⟨#[115, 116]⟩⟩, ⟨0, 50, 33, ⟨#[115, 116]⟩⟩, ⟨0, 52, 34, ⟨#[115, 116]⟩⟩, ⟨0, 54, 35, ⟨#[115, 116]⟩⟩]
def T1 : List Row := [⟨2, 0, 40, ⟨#[106]⟩⟩, ⟨3, 0, 41, ⟨#[106]⟩⟩, ⟨4, 0, 42, ⟨#[115, 116, 105]⟩⟩, ⟨5, 0, 43, ⟨#[115, 116, 105]⟩⟩, ⟨6, 0, 44, ⟨#[115, 105]⟩⟩, ⟨7, 0, 45, ⟨#[115, 105]⟩⟩, ⟨8, 0, 46, ⟨#[115, 116, 105]⟩⟩, ⟨9, 0, 47, ⟨#[115, 116, 105]⟩⟩, ⟨10, 0, 48, ⟨#[115, 116, 105]⟩⟩, ⟨11, 0, 49, ⟨#[115, 116, 105]⟩⟩, ⟨12, 0, 50, ⟨#[115, 116, 105]⟩⟩, ⟨13, 0, 51, ⟨#[115, 116, 105]⟩⟩, ⟨14, 0, 52, ⟨#[115, 116, 105]⟩⟩, ⟨15, 0, 53, ⟨#[116, 105]⟩⟩, ⟨17, 0, 62, ⟨#[]⟩⟩, ⟨32, 0, 66, ⟨#[115, 116, 105]⟩⟩, ⟨33, 0, 67, ⟨#[115, 116, 105]⟩⟩, ⟨35, 0, 68, ⟨#[115, 116, 105]⟩⟩, ⟨36, 0, 69, ⟨#[115, 116, 105]⟩⟩, ⟨37, 0, 70, ⟨#[115, 116, 105]⟩⟩, ⟨40, 0, 71, ⟨#[115, 116, 105]⟩⟩, ⟨41, 0, 72, ⟨#[115, 116, 105]⟩⟩, ⟨43, 0, 73, ⟨#[115, 116, 105]⟩⟩, ⟨47, 0, 76, ⟨#[]⟩⟩, ⟨48, 0, 74, ⟨#[115, 116, 105]⟩⟩, ⟨51, 0, 77, ⟨#[]⟩⟩, ⟨56, 0, 75, ⟨#[115, 116, 105]⟩⟩]
def T2 : List Row := [⟨1, 0, 36, ⟨#[115, 105]⟩⟩, ⟨1, 1, 37, ⟨#[115, 105]⟩⟩, ⟨1, 16, 38, ⟨#[115, 105]⟩⟩, ⟨1, 17, 39, ⟨#[115, 105]⟩⟩, ⟨16, 0, 54, ⟨#[116, 100]⟩⟩, ⟨16, 4, 55, ⟨#[116, 100]⟩⟩, ⟨16, 65, 56, ⟨#[]⟩⟩, ⟨16, 66, 57, ⟨#[]⟩⟩, ⟨16, 70, 58, ⟨#[]⟩⟩, ⟨16, 72, 59, ⟨#[]⟩⟩, ⟨16, 88, 60, ⟨#[]⟩⟩, ⟨16, 96, 61, ⟨#[]⟩⟩, ⟨28, 2, 63, ⟨#[115, 116, 100]⟩⟩, ⟨28, 32, 64, ⟨#[115, 100]⟩⟩, ⟨28, 33, 65, ⟨#[115, 100]⟩⟩]
def rowsOf (op : Int) : List Row := if op = 0 then T0 else if op = 1 ∨ op = 16 ∨ op = 28 then T2 else T1
def rowAt (op sub : Int) : Option Row := (rowsOf op).find? fun r => decide (r.op = op) && decide (r.sub = sub)
def kt (op sub : Int) : Int := match rowAt op sub with | some r => r.kd | none => 0
def findR (k : Int) : Option Row := (T0 ++ (T1 ++ T2)).find? fun r => decide (r.kd = k)
def hasS (b : ByteArray) (c : Int) : Bool := (List.range b.size).any fun i => ((b.data.getD i 0).toNat : Int) == c
def FLT : List Int := [0, 14, 14, 14, 7, 7, 7, 1, 5, 7, 7, 0, 0, 0, 4, 1, 4, 1, 3, 3, 3, 3, 7, 7, 7, 7, 7, 7, 7, 7, 7, 7, 3, 3, 3, 3, 17, 17, 17, 17, 32, 32, 19, 19, 17, 17, 19, 19, 19, 19, 19, 19, 19, 18, 6, 6, 0, 0, 0, 0, 0, 0, 0, 7, 5, 5, 19, 19, 19, 19, 19, 19, 19, 19, 19, 19, 0, 0]
def fl (k : Int) : Int := FLT.getD k.toNat 0
def KT0 : List Int := [1, 0, 2, 3, 4, 0, 5, 6, 7, 8, 9, 10, 11, 12, 0, 13, 14, 15, 16, 17, 0, 0, 0, 0, 18, 19, 20, 21, 0, 0, 0, 0, 22, 23, 24, 25, 26, 27, 28, 29, 0, 0, 30, 31, 0, 0, 0, 0, 32, 0, 33, 0, 34, 0, 35, 0, 0, 0, 0, 0, 0, 0, 0, 0]
def KT1 : List Int := [36, 37, 0, 0, 0, 0, 0, 0, 0, 0, 0, 0, 0, 0, 0, 0, 38, 39, 0, 0, 0, 0, 0, 0, 0, 0, 0, 0, 0, 0, 0, 0]
def KT16 : List Int := [54, 0, 0, 0, 55, 0, 0, 0, 0, 0, 0, 0, 0, 0, 0, 0, 0, 0, 0, 0, 0, 0, 0, 0, 0, 0, 0, 0, 0, 0, 0, 0]
def KT16f : List Int := [0, 56, 57, 0, 0, 0, 58, 0, 59, 0, 0, 0, 0, 0, 0, 0, 0, 0, 0, 0, 0, 0, 0, 0, 60, 0, 0, 0, 0, 0, 0, 0, 61, 0, 0, 0, 0, 0, 0, 0, 0, 0, 0, 0, 0, 0, 0, 0, 0, 0, 0, 0, 0, 0, 0, 0, 0, 0, 0, 0, 0, 0, 0, 0]
def KT28 : List Int := [0, 0, 63, 0, 0, 0, 0, 0, 0, 0, 0, 0, 0, 0, 0, 0, 0, 0, 0, 0, 0, 0, 0, 0, 0, 0, 0, 0, 0, 0, 0, 0, 64, 65, 0, 0, 0, 0, 0, 0, 0, 0, 0, 0, 0, 0, 0, 0, 0, 0, 0, 0, 0, 0, 0, 0, 0, 0, 0, 0, 0, 0, 0, 0]
def KTM : List Int := [0, 0, 40, 41, 42, 43, 44, 45, 46, 47, 48, 49, 50, 51, 52, 53, 0, 62, 0, 0, 0, 0, 0, 0, 0, 0, 0, 0, 0, 0, 0, 0, 66, 67, 0, 68, 69, 70, 0, 0, 71, 72, 0, 73, 0, 0, 0, 76, 74, 0, 0, 77, 0, 0, 0, 0, 75, 0, 0, 0, 0, 0, 0, 0]
def HDT : List Int := [0, 0, 2, 3, 4, 6, 7, 8, 9, 10, 11, 12, 13, 15, 16, 17, 18, 19, 24, 25, 26, 27, 32, 33, 34, 35, 36, 37, 38, 39, 42, 43, 48, 50, 52, 54, 67108864, 67174400, 68157440, 68222976, 134217728, 201326592, 268435456, 335544320, 402653184, 469762048, 536870912, 603979776, 671088640, 738197504, 805306368, 872415232, 939524096, 1006632960, 1073741824, 1082130432, 1107296257, 1107296258, 1107296262, 1107296264, 1107296280, 1107296288, 1140850688, 1879048194, 1879048224, 1879048225, 2147483648, 2214592512, 2348810240, 2415919104, 2483027968, 2684354560, 2751463424, 2885681152, 3221225472, 3758096384, 3154116608, 3422552064]
theorem kt0_eq : ∀ n, n < 64 → kt 0 (n : Nat) = KT0.getD n 0 := by decide +kernel
theorem kt1_eq : ∀ n, n < 32 → kt 1 (n : Nat) = KT1.getD n 0 := by decide +kernel
theorem kt16_eq : ∀ n, n < 32 → kt 16 (n : Nat) = KT16.getD n 0 := by decide +kernel
theorem kt16f_eq : ∀ n, n < 64 → kt 16 (64 + (n : Nat)) = KT16f.getD n 0 := by decide +kernel
theorem kt28_eq : ∀ n, n < 64 → kt 28 (n : Nat) = KT28.getD n 0 := by decide +kernel
theorem ktm_eq : ∀ n, n < 64 → n ≠ 0 → n ≠ 1 → n ≠ 16 → n ≠ 28 → kt (n : Nat) 0 = KTM.getD n 0 := by decide +kernel
end Go.Proofs.YtkiggdgphbkneaaGreat.Am
