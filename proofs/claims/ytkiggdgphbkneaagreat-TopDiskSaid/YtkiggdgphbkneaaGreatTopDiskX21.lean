/- A cache's functions: what they ask of the plain list. Conditions: none of its own. A cache's functions, on. Conditions: none of its own. Drop, On, Flush; law 22's CacheDrops. Conditions: none of its own. What functions of cp0, tlb, seg and of their references  -/
import Derived.Test.YtkiggdgphbkneaaGreatTopDiskX20
namespace Go.Proofs.YtkiggdgphbkneaaGreat.Am
set_option linter.unusedVariables false
set_option linter.unusedSimpArgs false
set_option maxRecDepth 100000
def VOK (e : Key × sN) : Prop := e.2 0 = .flat (.int .u32 e.1.a) /\ wC e.1.a
structure CaW (m : Mem) (b : Nat) (n : Int) (l : List (Key × sN)) (bm : Nat) (v : AV) (es : List (Key × sN)) : Prop where
 li : Li m b n bm v (l.map Prod.fst)
 mp : zAp m bm es
 pm : es.Perm l
 nd : (l.map Prod.fst).Nodup
 ln : (l.length : Int) <= n
 n1 : 1 <= n
 n2 : n <= 256
 vo : ∀ e ∈ l, VOK e
def ftC (b bm : Nat) (v : AV) (x : Nat) : Prop := x = b \/ x = bm \/ own v x
def Ca (m : Mem) (b : Nat) (n : Int) (l : List (Key × sN)) (S : Nat -> Prop) : Prop := ∃ bm v es, CaW m b n l bm v es /\ S = ftC b bm v
structure Stp (S S' : Nat -> Prop) (m m' : Mem) : Prop where
 fr : Fr S m m'
 ft : ∀ x, S' x -> S x \/ m.obj x = none
theorem Stp.trans {S S' S'' : Nat -> Prop} {a b c : Mem} (h : Stp S S' a b) (h' : Stp S' S'' b c) : Stp S S'' a c := by
 have key : ∀ x, a.obj x ≠ none -> ¬ S x -> ¬ S' x /\ b.obj x = a.obj x := fun x hx hs => ⟨fun h1 => by
  rcases h.ft x h1 with h2 | h2
  .exact hs h2
  .exact hx h2, h.fr x hx hs⟩
 refine ⟨fun x hx hs => ?_, fun x hx => ?_⟩
 .obtain ⟨h1, h2⟩ := key x hx hs
  rw [h'.fr x (by rw [h2]; exact hx) h1, h2]
 .by_cases c1 : S x
  .exact .inl c1
  .refine .inr ?_
   cases e : a.obj x with
   | none => rfl
   | some y =>
    obtain ⟨h1, h2⟩ := key x (by rw [e]; simp) c1
    rcases h'.ft x hx with h3 | h3
    .exact (h1 h3).elim
    .rw [h2, e] at h3; cases h3
theorem Stp.keep {m m' : Mem} (S : Nat -> Prop) (K : zA m m') : Stp S S m m' := ⟨K.fr S, fun _ h => .inl h⟩
section
variable {m : Mem} {b : Nat} {n : Int} {l : List (Key × sN)} {S : Nat -> Prop}
theorem CaW.keep {bm : Nat} {v : AV} {es : List (Key × sN)} {m' : Mem} (h : CaW m b n l bm v es) (K : zA m m') : CaW m' b n l bm v es := ⟨h.li.keep K, h.mp.fr (K.fr fun _ => False) fun h => h, h.pm, h.nd, h.ln, h.n1, h.n2, h.vo⟩
theorem Ca.keep {m' : Mem} (h : Ca m b n l S) (K : zA m m') : Ca m' b n l S := by
 obtain ⟨bm, v, es, h, e⟩ := h; exact ⟨bm, v, es, h.keep K, e⟩
theorem Ca.live (h : Ca m b n l S) {x : Nat} (hx : S x) : m.obj x ≠ none := by
 obtain ⟨bm, v, es, h, e⟩ := h
 rw [e] at hx
 rcases hx with rfl | rfl | h1
 .exact h.li.live
 .exact h.mp.live
 .exact h.li.ks.live h1
theorem Ca.ln (h : Ca m b n l S) : (l.length : Int) <= n := by obtain ⟨bm, v, es, h, e⟩ := h; exact h.ln
theorem Ca.n2 (h : Ca m b n l S) : n <= 256 := by obtain ⟨bm, v, es, h, e⟩ := h; exact h.n2
theorem zV5 {l l' : List (Key × sN)} (h : l.Perm l') (key : Key) : (rm l key).Perm (rm l' key) := h.filter _
theorem zS3 (h : Ca m b n l S) {k : Bool -> Mem -> Prop} (h0 : l = [] -> k false m) (h1 : ∀ e l2, l = e :: l2 -> ∀ m' S', Ca m' b n l2 S' -> Stp S S' m m' -> k true m') : F96 b 0 m k := by
 obtain ⟨bm, v, es, h, e⟩ := h
 unfold F96
 simp only [Nat.zero_add]
 rw [h.li.l1, h.li.ks.len]
 cases l with
 | nil => exact zG rfl (h0 rfl)
 | cons x l2 =>
  have hnd := h.nd
  have hpm := h.pm
  refine zB (by simp; omega) ?_
  rw [h.li.l2, h.li.l1]
  refine h.li.ks.ld 0 (by simp) fun c9 h9 => ?_
  have h9 : oM c9 x.1 := h9
  refine yO3 h.mp ((hpm.map Prod.fst).nodup_iff.2 hnd) h9 fun m2 g2 F2 => ?_
  have li2 := h.li.fr F2 h.li.ne fun y hy e => h.li.nm (e ▸ hy)
  rw [li2.l1]
  have hl := h.ln
  have hn2 := h.n2
  simp only [List.length_cons] at hl
  refine zQa (i := 0) li2.ks (by simp; omega) (by simp) rfl rfl fun v' m3 g3 F3 o3 => ?_
  refine li2.s1 (F3 b li2.live li2.nb) g3 (fun hx => li2.nb (o3 _ hx)) (fun hx => li2.nm (o3 _ hx)) fun m4 li4 O4 => ?_
  have er : rm (x :: l2) x.1 = l2 := by
   have := uS Prod.fst x.1 (x :: l2) 0 (by simp) hnd rfl
   rw [List.eraseIdx_cons_zero] at this
   exact this
  refine h1 x l2 rfl m4 _ ⟨bm, v', rm es x.1, ⟨?_, ?_, ?_, ?_, ?_, h.n1, h.n2, fun e he => h.vo e (List.mem_cons_of_mem _ he)⟩, rfl⟩ ⟨fun y hy hs => ?_, fun y hy => .inl ?_⟩
  .simpa using li4
  .have a := g2.fr F3 li2.nm
   exact a.fr (S := fun x => x = b) (fun x _ hx => O4 x hx) fun e => li2.ne e.symm
  .have := zV5 hpm x.1
   rw [er] at this; exact this
  .simp only [List.map_cons, List.nodup_cons] at hnd; exact hnd.2
  .omega
  .subst e
   rw [O4 y (fun e => hs (.inl e)), F3 y (by rw [F2 y hy fun e => hs (.inr (.inl e))]; exact hy) (fun hx => hs (.inr (.inr hx))), F2 y hy fun e => hs (.inr (.inl e))]
  .subst e
   rcases hy with rfl | rfl | hy
   .exact .inl rfl
   .exact .inr (.inl rfl)
   .exact .inr (.inr (o3 _ hy))
theorem zQ0 {bm : Nat} {v : AV} (h : Li m b n bm v (l.map Prod.fst)) (nd : (l.map Prod.fst).Nodup) (hbm : m.obj bm ≠ none) (hl : l.length <= 300) {kb : Nat} {key : Key} (hkb : qJ m kb key) (hnb : kb ≠ b) (hnv : ¬ own v kb) {t : TypeId} {val : sN} {k : Mem -> Prop}
  (hk : ∀ m' v', Li m' b n bm v' ((rm l key ++ [(key, val)]).map Prod.fst) -> Fr (ftL b v) m m' -> (∀ x, own v' x -> own v x \/ m.obj x = none) -> k m') :
  yN 3 m kb 0 fun c19 => F87 b 0 c19 m fun m20 => ldA m20 b 1 fun v21 => yN 3 m20 kb 0 fun c22 => zQ m20 ⟨3, zC (zH [(.flat (.int .u32 0)), (.flat (.int .i64 0)), (.flat (.int .i64 0))]) 0 3 c22, t, false⟩ fun b24 m23 => uB 3 24 125 v21 (.sl b24 0 1 (.ex 1)) m23 fun v25 m26 => stV m26 b 1 v25 fun m27 => k m27 := by
 refine hkb.lg fun c19 h19 => yDo h (by rw [List.length_map]; omega) nd h19 fun m2 v2 g2 F2 o2 => ?_
 rw [<- zU1] at g2
 have hkb2 : qJ m2 kb key := hkb.fr F2 fun hx => by
  rcases hx with hx | hx
  .exact hnb hx
  .exact hnv hx
 have hbm2 : m2.obj bm ≠ none := by
  rw [F2 bm hbm fun hx => by
   rcases hx with hx | hx
   .exact h.ne hx.symm
   .exact h.nm hx]
  exact hbm
 refine yEg g2 hbm2 (by rw [List.length_map]; have := yP0 l key; omega) hkb2 fun m3 v3 g3 F3 o3 => hk m3 v3 ?_ (fun x hx hs => ?_) fun x hx => ?_
 .rw [List.map_append]; exact g3
 .rw [F3 x (by rw [F2 x hx hs]; exact hx) (fun hy => hs (hy.imp id (o2 x))), F2 x hx hs]
 .rcases o3 x hx with h1 | h1
  .exact .inl (o2 x h1)
  .by_cases c : own v x
   .exact .inl c
   .refine .inr ?_
    cases e : m.obj x with
    | none => rfl
    | some y =>
     by_cases c2 : x = b
     .subst c2
      have := g2.live
      exact (this h1).elim
     .rw [F2 x (by rw [e]; simp) (fun hs => hs.elim c2 c), e] at h1; cases h1
end
def zTy (n : Int) (l : List (Key × sN)) (key : Key) (v : sN) : List (Key × sN) := rm (if key ∈ l.map Prod.fst then l else if (l.length : Int) >= n then l.tail else l) key ++ [(key, v)]
def clN (x : Int) : Int := if (if 256 < x then 256 else x) > 1 then (if 256 < x then 256 else x) else 1
section
variable {m : Mem} {b : Nat} {n : Int} {l : List (Key × sN)} {S : Nat -> Prop}
theorem yX6 {x : Int} {k : AV -> Mem -> Prop} (hk : ∀ b m' S', Ca m' b (clN x) [] S' -> zA m m' -> (∀ y, S' y -> m.obj y = none) -> k (.ptr b 0) m') : F51 x m k := by
 unfold F51 zCd
 refine zW fun b1 m1 hb1 K1 e1 O1 => zW fun b4 m2 hb4 K2 e2 O2 => ?_
 have n2 : clN x <= 256 := by unfold clN; split <;> (try split) <;> omega
 have n1 : 1 <= clN x := by unfold clN; split <;> omega
 have hne : b4 ≠ b1 := fun e => by rw [e, e1] at hb4; cases hb4
 refine hk b4 m2 (ftC b4 b1 (.flat (.slice none 0 0))) ⟨b1, .flat (.slice none 0 0), [], ⟨⟨⟨_, _, e2, rfl, rfl, rfl⟩, IsK.nil none, hne, fun h => h, fun h => h⟩, ?_, .refl _, by simp, by simp; omega, n1, n2, fun e h => by cases h⟩, rfl⟩ (K1.trans K2) fun y hy => ?_
 .exact ⟨_, (K2 b1 (by rw [e1]; simp)).trans e1, fun i h => by simp at h⟩
 .rcases hy with rfl | rfl | h
  .exact zX K1 hb4
  .exact hb1
  .exact h.elim
theorem yLd {q : Nat} {b o : Nat} {c : Nat -> AV} {k : Mem -> Prop} {x : Blk} (h : m.obj b = some x) (hr : x.ro = false) (ho : o + q <= x.n) (hk : ∀ m', m'.obj b = some { x with c := zC x.c o q c } -> yC m b m' -> k m') : vA q m b o c k := by
 rw [wR h hr ho]; exact hk _ (zL _ _ _) (yC.set _ _ _)
theorem zVd {q : Nat} {z c : Nat -> AV} {t : TypeId} {k : Nat -> Mem -> Prop} (hk : ∀ b m' y, m.obj b = none -> zA m m' -> m'.obj b = some y -> y.n = q -> y.ro = false -> (∀ j, j < q -> y.c j = c j) -> k b m') : zQ m ⟨q, z, t, false⟩ fun b m1 => vA q m1 b 0 c fun m2 => k b m2 := by
 refine zW fun b m1 hb K e O => ?_
 rw [wR e rfl (by show 0 + q <= q; omega)]
 refine hk b _ _ hb (fun x hx => ?_) (zL _ _ _) rfl rfl fun j hj => ?_
 .rw [zP _ (fun h : x = b => hx (h ▸ hb)), K x hx]
 .show zC z 0 q c j = c j
  unfold zC; rw [if_pos (by omega), Nat.sub_zero]
theorem zDg (h : Ca m b n l S) {b2 b4 : Nat} {key : Key} {c2 : Nat -> AV} {t4 : TypeId} (hkb : qJ m b2 key) (h2 : ¬ S b2) (h4 : m.obj b4 = some ⟨4, c2, t4, false⟩) (h4s : ¬ S b4) (hv : VOK (key, sub c2 0 4)) (hlen : ((rm l key).length : Int) + 1 <= n) {k : Mem -> Prop}
  (hk : ∀ m' S', Ca m' b n (rm l key ++ [(key, sub c2 0 4)]) S' -> Stp S S' m m' -> k m') : pE b 0 b2 0 b4 0 m k := by
 obtain ⟨bm, v, es, h, eS⟩ := h
 subst eS
 unfold pE
 simp only [Nat.zero_add]
 have hl := h.ln
 have hn2 := h.n2
 refine zQ0 (val := sub c2 0 4) h.li h.nd h.mp.live (by omega) hkb (fun e => h2 (.inl e)) (fun e => h2 (.inr (.inr e))) fun m2 v2 g2 F2 o2 => ?_
 have ft2 : ∀ x, ftL b v x -> ftC b bm v x := fun x hx => hx.elim .inl fun h => .inr (.inr h)
 have hkb2 : qJ m2 b2 key := hkb.fr F2 fun hx => h2 (ft2 _ hx)
 have e4 : m2.obj b4 = some ⟨4, c2, t4, false⟩ := (F2 b4 (by rw [h4]; simp) fun hx => h4s (ft2 _ hx)).trans h4
 have mp2 : zAp m2 bm es := h.mp.fr F2 fun hx => hx.elim (fun e => h.li.ne e.symm) h.li.nm
 rw [g2.l2]
 refine hkb2.lg fun c29 h29 => ?_
 rw [xH e4 (by show 0 + 4 <= 4; omega)]
 refine yPn mp2 ((h.pm.map Prod.fst).nodup_iff.2 h.nd) h29 fun m3 es' g3 p3 O3 => hk m3 _ ⟨bm, v2, es', ⟨?_, g3, ?_, ?_, ?_, h.n1, h.n2, ?_⟩, rfl⟩ ⟨fun x hx hs => ?_, fun x hx => ?_⟩
 .exact g2.fr (S := fun x => x = bm) (fun x _ hx => O3 x hx) g2.ne fun x hx e => g2.nm (e ▸ hx)
 .exact p3.trans ((zV5 h.pm key).append_right _)
 .exact yFa (yM5 h.nd key) (yD6 l key) _
 .rw [List.length_append]; simp; omega
 .intro e he
  rcases List.mem_append.1 he with h1 | h1
  .exact h.vo e (List.mem_filter.1 h1).1
  .simp only [List.mem_singleton] at h1; subst h1; exact hv
 .rw [O3 x (fun e => hs (.inr (.inl e))), F2 x hx fun h => hs (ft2 x h)]
 .rcases hx with rfl | rfl | hx
  .exact .inl (.inl rfl)
  .exact .inl (.inr (.inl rfl))
  .rcases o2 x hx with h1 | h1
   .exact .inl (.inr (.inr h1))
   .exact .inr h1
theorem zUb {bm : Nat} {v : AV} {es : List (Key × sN)} (h : CaW m b n l bm v es) (key : Key) : key ∈ es.map Prod.fst ↔ key ∈ l.map Prod.fst := (h.pm.map Prod.fst).mem_iff
theorem yUd (h : Ca m b n l S) {c1 c2 : Nat -> AV} {key : Key} (hc : oM c1 key) (hv : VOK (key, sub c2 0 4)) {k : Mem -> Prop} (hk : ∀ m' S', Ca m' b n (zTy n l key (sub c2 0 4)) S' -> Stp S S' m m' -> k m') : F69 b 0 c1 c2 m k := by
 unfold F69
 simp only [Nat.zero_add]
 refine zW fun b2 m1 hb2 K1 e1 O1 => zW fun b4 m3 hb4 K3 e3 O3 => ?_
 have K13 := K1.trans K3
 have hkb : qJ m3 b2 key := ⟨_, (K3 b2 (by rw [e1]; simp)).trans e1, rfl, rfl, hc⟩
 have h3 := h.keep K13
 obtain ⟨bm, v, es, w, eS⟩ := id h3
 rw [w.li.l2]
 have nS2 : ¬ S b2 := fun hs => (h.live hs) hb2
 have nS4 : ¬ S b4 := fun hs => (h.keep K1).live hs hb4
 have rest : ∀ c7 x8, x8 = decide (key ∈ l.map Prod.fst) -> zQ m3 ⟨4, zH [(.flat (.int .u32 0)), (.flat (.slice none 0 0)), (.flat (.slice none 0 0)), (.flat (.slice none 0 0))], 85, false⟩ fun b10 m9 => vA 4 m9 b10 0 c7 fun m11 => kif (!x8) (ldA m11 b 1 fun v12 => xJ v12 fun x13 => zR .i64 m11 b 0 fun x14 => nC b 0 b2 0 b4 0 (decide (x13 >= x14)) m11 (fun m17 => pE b 0 b2 0 b4 0 m17 (fun m32 => k m32))) (nC b 0 b2 0 b4 0 false m11 (fun m18 => pE b 0 b2 0 b4 0 m18 (fun m33 => k m33))) := fun c7 x8 hx8 => by
  refine zVd fun b10 m11 y hb10 K11 ey yn yr yc => ?_
  have h11 := h3.keep K11
  have hkb11 := hkb.keep K11
  have e4 := (K11 b4 (by rw [e3]; simp)).trans e3
  have st0 : Stp S S m m11 := Stp.keep S (K13.trans K11)
  have hn2 := h.n2
  have hln := h.ln
  unfold nC
  by_cases hin : key ∈ l.map Prod.fst
  .rw [hx8, decide_eq_true hin]
   refine zB rfl (zB rfl (zDg h11 hkb11 nS2 e4 nS4 hv (by have := yMm hin; omega) fun m' S' g s => hk m' S' ?_ (st0.trans s)))
   unfold zTy; rw [if_pos hin]; exact g
  .rw [hx8, decide_eq_false hin]
   obtain ⟨bm', v', es', w', eS'⟩ := id h11
   refine zG rfl ?_
   rw [w'.li.l1, w'.li.ks.len, w'.li.l0, List.length_map]
   refine zD _ (fun c => ?_) fun c => ?_
   .have c : (l.length : Int) >= n := by simpa using c
    have hn1 := w'.n1
    refine zS3 h11 (fun e => by subst e; simp at c; omega) fun e l2 el m5 S5 h5 s5 => ?_
    have hkb5 : qJ m5 b2 key := hkb11.fr s5.fr nS2
    have e5 := (s5.fr b4 (by rw [e4]; simp) nS4).trans e4
    have n5 : ∀ x, m11.obj x ≠ none -> ¬ S x -> ¬ S5 x := fun x hx hs h => (s5.ft x h).elim hs hx
    have hnot : key ∉ l2.map Prod.fst := fun hm => hin (by rw [el]; simp only [List.map_cons, List.mem_cons]; exact .inr hm)
    refine zDg h5 hkb5 (n5 b2 hkb11.live nS2) e5 (n5 b4 (by rw [e4]; simp) nS4) hv (by rw [yN4 hnot]; rw [el] at hln; simp only [List.length_cons] at hln; omega) fun m' S' g s => hk m' S' ?_ ((st0.trans s5).trans s)
    unfold zTy; rw [if_neg hin, if_pos c, el]; exact g
   .have c : ¬ (l.length : Int) >= n := by simpa using c
    refine zDg h11 hkb11 nS2 e4 nS4 hv (by rw [yN4 hin]; omega) fun m' S' g s => hk m' S' ?_ (st0.trans s)
    unfold zTy; rw [if_neg hin, if_neg c]; exact g
 refine hkb.lg fun c6 h6 => yA9 w.mp h6 (fun d hd => ?_) fun hno => ?_
 .exact rest d true (decide_eq_true ((zUb w key).1 (List.mem_map.2 ⟨_, hd, rfl⟩))).symm
 .exact rest _ false (decide_eq_false fun hm => hno ((zUb w key).2 hm)).symm
theorem yU3 (h : Ca m b n l S) {c1 : Nat -> AV} {key : Key} (hc : oM c1 key) {k : (Nat -> AV) -> Bool -> Mem -> Prop} (hyes : ∀ v c m' S', (key, v) ∈ l -> (∀ j, j < 4 -> c j = v j) -> Ca m' b n (rm l key ++ [(key, v)]) S' -> Stp S S' m m' -> k c true m')
  (hno : key ∉ l.map Prod.fst -> ∀ c m', Ca m' b n l S -> Stp S S m m' -> k c false m') : F65 b 0 c1 m k := by
 unfold F65
 simp only [Nat.zero_add]
 refine zW fun b2 m1 hb2 K1 e1 O1 => zW fun b4 m3 hb4 K3 e3 O3 => ?_
 have K13 := K1.trans K3
 have hkb : qJ m3 b2 key := ⟨_, (K3 b2 (by rw [e1]; simp)).trans e1, rfl, rfl, hc⟩
 have h3 := h.keep K13
 obtain ⟨bm, v, es, w, eS⟩ := id h3
 rw [w.li.l2]
 have nS2 : ¬ S b2 := fun hs => (h.live hs) hb2
 have nS4 : ¬ S b4 := fun hs => (h.keep K1).live hs hb4
 refine hkb.lg fun c6 h6 => yA9 w.mp h6 (fun d hd => ?_) fun hn => ?_
 .have hd := w.pm.mem_iff.1 hd
  refine zVd fun b10 m11 y hb10 K11 ey yn yr yc => zG rfl ?_
  have w11 := w.keep K11
  have nS10 : ¬ S b10 := fun hs => h3.live hs hb10
  subst eS
  have hl := w.ln
  have hn2 := w.n2
  refine zQ0 (val := d) w11.li w.nd w11.mp.live (by omega) (hkb.keep K11) (fun e => nS2 (.inl e)) (fun e => nS2 (.inr (.inr e))) fun m20 v20 g20 F20 o20 => ?_
  have ft2 : ∀ x, ftL b v x -> ftC b bm v x := fun x hx => hx.elim .inl fun h => .inr (.inr h)
  have e10 := (F20 b10 (by rw [ey]; simp) fun hx => nS10 (ft2 _ hx)).trans ey
  rw [xH e10 (by omega)]
  have e4 : m20.obj b4 = _ := (F20 b4 (by rw [K11 b4 (by rw [e3]; simp), e3]; simp) fun hx => nS4 (ft2 _ hx)).trans ((K11 b4 (by rw [e3]; simp)).trans e3)
  refine yLd e4 rfl (show 0 + 4 <= 4 by omega) fun m21 e21 O21 => ?_
  rw [xH e21 (show 0 + 4 <= 4 by omega)]
  have n4b : b4 ≠ b := fun e => nS4 (.inl e)
  have Fl : Fr (fun x => x = b4) m20 m21 := fun x _ hx => O21 x hx
  refine hyes d _ m21 _ hd (fun j hj => ?_) ⟨bm, v20, es, ⟨g20.fr Fl (fun e => n4b e.symm) fun x hx e => ?_, ?_, ?_, yFa (yM5 w.nd key) (yD6 l key) _, ?_, w.n1, w.n2, ?_⟩, rfl⟩ ⟨fun x hx hs => ?_, fun x hx => ?_⟩
  .show sub (zC _ 0 4 (sub y.c 0 4)) 0 4 j = d j
   unfold sub zC
   rw [if_pos hj, if_pos (by omega)]
   dsimp only
   rw [if_pos (by omega), Nat.zero_add, Nat.zero_add, Nat.sub_zero]
   exact yc j hj
  .subst e
   rcases o20 _ hx with h1 | h1
   .exact nS4 (.inr (.inr h1))
   .rw [K11 x (by rw [e3]; simp), e3] at h1; cases h1
  .have a := w11.mp.fr F20 fun hx => hx.elim (fun e => w.li.ne e.symm) w.li.nm
   exact a.fr Fl fun e => nS4 (.inr (.inl e.symm))
  .have hin : (key, d) ∈ es := w.pm.mem_iff.2 hd
   refine w.pm.trans ?_
   -- l ~ rm l key ++ [(key, d)]
   have : ∀ l : List (Key × sN), (l.map Prod.fst).Nodup -> (key, d) ∈ l -> l.Perm (rm l key ++ [(key, d)]) := by
    intro l nd hm
    obtain ⟨i, hi, e⟩ := List.getElem_of_mem hm
    have e1 : (l[i]).1 = key := by rw [e]
    unfold rm
    rw [uS Prod.fst key l i hi nd e1]
    have := zDn (key, d) l i hi
    rw [show l.set i (key, d) = l by rw [<- e]; exact List.set_getElem_self hi] at this
    exact this.trans (List.perm_append_comm (l₁ := [(key, d)])).symm.symm
   exact this l w.nd hd
  .rw [List.length_append]
   have := yMm (l := l) (key := key) (List.mem_map.2 ⟨_, hd, rfl⟩)
   simp only [List.length_singleton]
   omega
  .intro e he
   rcases List.mem_append.1 he with h1 | h1
   .exact w.vo e (List.mem_filter.1 h1).1
   .simp only [List.mem_singleton] at h1; subst h1; exact w.vo _ hd
  .have hx4 : x ≠ b4 := fun e => hx (by rw [e]; exact zX K1 hb4)
   rw [O21 x hx4, F20 x (by rw [K11 x (by rw [K13 x hx]; exact hx), K13 x hx]; exact hx) (fun h => hs (ft2 x h)), K11 x (by rw [K13 x hx]; exact hx), K13 x hx]
  .rcases hx with rfl | rfl | hx
   .exact .inl (.inl rfl)
   .exact .inl (.inr (.inl rfl))
   .rcases o20 x hx with h1 | h1
    .exact .inl (.inr (.inr h1))
    .exact .inr (zX (K13.trans K11) h1)
 .have hn : key ∉ l.map Prod.fst := fun hm => hn ((zUb w key).2 hm)
  refine zVd fun b10 m11 y hb10 K11 ey yn yr yc => zB rfl ?_
  rw [xH ey (by omega)]
  have e4 := (K11 b4 (by rw [e3]; simp)).trans e3
  refine yLd e4 rfl (show 0 + 4 <= 4 by omega) fun m21 e21 O21 => ?_
  rw [xH e21 (show 0 + 4 <= 4 by omega)]
  have K : zA m m21 := fun x hx => by
   have hx4 : x ≠ b4 := fun e => hx (by rw [e]; exact zX K1 hb4)
   rw [O21 x hx4, K11 x (by rw [K13 x hx]; exact hx), K13 x hx]
  exact hno hn _ _ (h.keep K) (Stp.keep S K)
end
section
variable {m : Mem} {b : Nat} {n : Int} {l : List (Key × sN)} {S : Nat -> Prop}
theorem zUf {c : Nat -> AV} {a : Int} (h : c 0 = .flat (.int .u32 a)) (hu : wC a) {k : Int -> Mem -> Prop} (hk : k (a / 1024) m) : F67 c m k := by
 unfold F67
 refine zW fun b2 m1 hb K e O => ?_
 rw [yW e (show (0 : Nat) < 4 by decide) h, Int.tdiv_eq_ediv_of_nonneg hu.1, yV, Int.emod_eq_of_lt (by have := hu.1; omega) (by have := hu.2; have := hu.1; omega), zK (by have := hu.1; omega) (by have := hu.2; omega)]
 exact ⟨K, hk⟩
theorem _root_.Go.Proofs.YtkiggdgphbkneaaGreat.Am.IsL.form {esz : Nat} {v : AV} {n : Nat} {c : Nat -> AV} (h : IsL m esz v n c) : (∃ a, v = .flat (.slice a 0 0)) \/ ∃ b o cap, v = .sl b o n cap := by
 cases h with
 | nil a c => exact .inl ⟨a, rfl⟩
 | sl b o n cap y c g1 g2 g3 g4 g5 => exact .inr ⟨b, o, cap, rfl⟩
end
def sQ (S : St) : Bool := (bits .and .u32 (S.n 51) 16 != 0) && (bits .and .u32 (S.n 51) 2 == 0)
def rJ (S : St) (n v : Int) : St :=
 if n = 0 then S.putN 39 (bits .and .u32 v 7)
 else if n = 2 then S.putN 41 (bits .and .u32 v 4294966279)
 else if n = 10 then S.putN 49 (bits .and .u32 v 4294966527)
 else if n = 9 \/ n = 14 then S.putN (39 + n.toNat) v
 else if n = 11 then (S.putN 50 v).putN 52 (bits .andNot .u32 (S.n 52) 32768)
 else if n = 12 then S.putN 51 (bits .and .u32 v 65299)
 else if n = 13 then S.putN 52 (bits .or .u32 (bits .andNot .u32 (S.n 52) 768) (bits .and .u32 v 768))
 else S
theorem yP {S : St} (h : S.ok) {i : Nat} {v : Int} (hi : i < 72) (h0 : 0 <= v) (h1 : v < 4294967296) : (S.putN i v).ok := by
 refine ⟨fun j hj => ?_, ?_⟩
 .unfold St.putN upd; dsimp only; split
  .exact ⟨h0, h1⟩
  .exact h.1 j hj
 .unfold St.putN upd; dsimp only; rw [if_neg (by omega)]; exact h.2
theorem zVa {S : St} (h : S.ok) {v : Int} (h0 : -9223372036854775808 <= v) (h1 : v < 9223372036854775808) : (S.putN 72 v).ok := by
 refine ⟨fun j hj => ?_, ?_⟩
 .unfold St.putN upd; dsimp only; rw [if_neg (by omega)]; exact h.1 j hj
 .unfold St.putN upd; dsimp only; rw [if_pos rfl]; exact ⟨h0, h1⟩
theorem oC {S : St} (h : S.ok) {i : Nat} {v : Bool} : (S.putP i v).ok := h
theorem zX7 {S : St} (h : S.ok) {n v : Int} (h0 : 0 <= v) (h1 : v < 4294967296) : (rJ S n v).ok := by
 unfold rJ
 split
 .exact yP h (by omega) (uN _ _).1 (uN _ _).2
 split
 .exact yP h (by omega) (uN _ _).1 (uN _ _).2
 split
 .exact yP h (by omega) (uN _ _).1 (uN _ _).2
 split
 .rename_i e; exact yP h (by rcases e with rfl | rfl <;> decide) h0 h1
 split
 .exact yP (yP h (by omega) h0 h1) (by omega) (dR _ _).1 (dR _ _).2
 split
 .exact yP h (by omega) (uN _ _).1 (uN _ _).2
 split
 .exact yP h (by omega) (rB _ _).1 (rB _ _).2
 .exact h
theorem zA0 {m : Mem} {b : Nat} {S : St} (h : yQ m b S) {k : Bool -> Mem -> Prop} (hk : k (sQ S) m) : F91 b 0 m k := by
 unfold F91
 rw [yE h (by omega) rfl]
 unfold sQ at hk
 refine zD _ (fun h1 => ?_) fun h1 => ?_
 .rw [yE h (by omega) rfl]; rw [h1] at hk; exact ⟨zA.self m, hk⟩
 .rw [h1] at hk; exact ⟨zA.self m, hk⟩
theorem jE {a b : Int} (h : (a == b) = true) : a = b := by simpa using h
theorem tC {a b : Int} (h : (a == b) = false) : a ≠ b := by simpa using h
theorem zXt {c d : Nat -> AV} {n : Nat} (h : (List.range n).map c = (List.range n).map d) : ∀ i, i < n -> c i = d i := fun i hi => List.map_inj_left.1 h i (List.mem_range.2 hi)
def St0 : St := { n := fun i => if i = 34 then 2147484672 else if i = 35 then 2147484676 else if i = 54 then 98304 else 0, p := fun _ => false }
theorem yBx : St0.ok := by
 refine ⟨fun i hi => ?_, by decide, by decide⟩
 unfold St0; dsimp only
 split
 .omega
 split
 .omega
 split <;> omega
def Sty : St := { n := fun i => if i = 34 then 2147484672 else if i = 35 then 2147484676 else 0, p := fun _ => false }
theorem zXg : uM (upd (upd (Z73) 34 (.flat (.int .u32 2147484672))) 35 (.flat (.int .u32 2147484676))) Sty := zXt (by kernel_rfl)
theorem St.ext {S T : St} (h : ∀ i, S.n i = T.n i) (h' : ∀ i, S.p i = T.p i) (hx : S.x = T.x := by rfl) (hq : S.q = T.q := by rfl) : S = T := by
 cases S; cases T
 simp only [St.mk.injEq]
 exact ⟨funext h, funext h', hx, hq⟩
theorem yPt : Sty.putN 54 98304 = St0 := St.ext (fun i => by unfold Sty St.putN St0 upd; dsimp only; by_cases c : i = 54 <;> simp [c]) fun i => rfl
theorem zUd {m : Mem} {b : Nat} {S : St} (h : yQ m b S) {n v : Int} {k : Mem -> Prop} (hk : ∀ m', yQ m' b (rJ S n v) -> yC m b m' -> k m') : yHd b 0 n v m k := by
 unfold yHd
 refine zD _ (fun h1 => ?_) fun h1 => ?_
 .have e := jE h1; subst e
  exact yF (by omega) (by omega) (xB h (by decide) rfl hk)
 refine zD _ (fun h2 => ?_) fun h2 => ?_
 .have e := jE h2; subst e
  exact yF (by omega) (by omega) (xB h (by decide) rfl hk)
 refine zD _ (fun h3 => ?_) fun h3 => ?_
 .have e := jE h3; subst e
  exact yF (by omega) (by omega) (xB h (by decide) rfl hk)
 have h1 := tC h1; have h2 := tC h2; have h3 := tC h3
 have key : ∀ (c : Bool), (c = true -> n = 9 \/ n = 14) -> (c = false -> n ≠ 9 /\ n ≠ 14) -> pU b 0 n v n c m k := by
  intro c hc hc'
  unfold pU
  refine zD _ (fun h4 => ?_) fun h4 => ?_
  .have e : rJ S n v = S.putN (39 + n.toNat) v := by unfold rJ; simp [h1, h2, h3, hc h4]
   rw [e] at hk
   have hn : 9 <= n /\ n <= 14 := by rcases hc h4 with e | e <;> omega
   refine yF (by omega) (by omega) ?_
   have e2 : 0 + 39 + n.toNat * 1 = 39 + n.toNat := by omega
   rw [e2]
   exact xB h (by omega) (by simp [lX]; omega) hk
  have h5 := hc' h4
  refine zD _ (fun h6 => ?_) fun h6 => ?_
  .have e := jE h6; subst e
   refine yF (by omega) (by omega) (xB h (by decide) rfl fun m1 i1 o1 => ?_)
   rw [yE i1 (by decide) rfl]
   exact xB i1 (by decide) rfl fun m2 i2 o2 => hk m2 i2 (o1.trans o2)
  refine zD _ (fun h7 => ?_) fun h7 => ?_
  .have e := jE h7; subst e
   exact yF (by omega) (by omega) (xB h (by decide) rfl hk)
  refine zD _ (fun h8 => ?_) fun h8 => ?_
  .have e := jE h8; subst e
   refine yF (by omega) (by omega) ?_
   rw [yE h (by decide) rfl]
   exact yF (by omega) (by omega) (xB h (by decide) rfl hk)
  .have h6 := tC h6; have h7 := tC h7; have h8 := tC h8
   have e : rJ S n v = S := by unfold rJ; simp [h1, h2, h3, h5, h6, h7, h8]
   rw [e] at hk
   exact hk m h (yC.refl m b)
 refine zD _ (fun h4 => ?_) fun h4 => ?_
 .have h4' := jE h4
  rw [h4]; exact key true (fun _ => .inl h4') (fun h => by cases h)
 .have h4' := tC h4
  refine key _ (fun h => .inr (jE h)) fun h => ⟨h4', tC h⟩
theorem zTg {m : Mem} {k : (Nat -> AV) -> Mem -> Prop} (hk : ∀ c, uM c St0 -> k c m) : F78 m k := by
 unfold F78
 intro b2 hb2 b4 hb4
 have hne : b4 ≠ b2 := fun e => by subst e; rw [zL] at hb4; cases hb4
 refine zKa (zL _ _ _) rfl rfl zXg fun m5 i5 o5 => xB i5 (by decide) rfl fun m6 i6 o6 => ?_
 rw [yPt] at i6
 refine zA6 i6 fun c7 h7 => ?_
 have e2 := ((o6 b2 (Ne.symm hne)).trans (o5 b2 (Ne.symm hne))).trans ((zP _ (Ne.symm hne)).trans (zL _ _ _))
 refine zKa e2 rfl rfl h7 fun m8 i8 o8 => zA6 i8 fun c9 h9 => ⟨fun b' h' => ?_, h9.inDom m, hk c9 h9⟩
 have n2 : b' ≠ b2 := fun e => h' (e ▸ hb2)
 have hb4' : m.obj b4 = none := by rw [zP _ hne] at hb4; exact hb4
 have n4 : b' ≠ b4 := fun e => h' (e ▸ hb4')
 rw [o8 b' n2, o6 b' n4, o5 b' n4, zP _ n4, zP _ n2]
theorem tV (S : St) (i : Nat) (v : Int) : (S.putN i v).n i = v := by simp [St.putN, upd]
theorem yM (S : St) {i j : Nat} (v : Int) (h : j ≠ i) : (S.putN i v).n j = S.n j := by simp [St.putN, upd, h]
def mM (n : Int) : Bool := (decide (0 <= n) && decide (n <= 2)) || (decide (8 <= n) && decide (n <= 15))
def zBm (S : St) (n : Int) : Int := if n = 1 then S.n 48 % 8 else if mM n = true then S.n (39 + n.toNat) else 0
theorem zSu {n : Int} {m : Mem} {k : Bool -> Mem -> Prop} (hk : k (mM n) m) : yKj n m k := by
 unfold yKj
 have hh : ∀ j : Int, (n == j) = true -> mM j = true -> (zA m m /\ k true m) := fun j hj hn => ⟨zA.self m, by
  have e := jE hj; subst e; rw [hn] at hk; exact hk⟩
 refine zD _ (fun c => zG c (hh 0 c rfl)) fun c0 => ?_
 refine zD _ (fun c => zG c (hh 1 c rfl)) fun c1 => ?_
 refine zD _ (fun c => zG c (hh 2 c rfl)) fun c2 => ?_
 refine zD _ (fun c => zG c (hh 8 c rfl)) fun c3 => ?_
 refine zD _ (fun c => zG c (hh 9 c rfl)) fun c4 => ?_
 refine zD _ (fun c => zG c (hh 10 c rfl)) fun c5 => ?_
 refine zD _ (fun c => zG c (hh 11 c rfl)) fun c6 => ?_
 refine zD _ (fun c => zG c (hh 12 c rfl)) fun c7 => ?_
 refine zD _ (fun c => zG c (hh 13 c rfl)) fun c8 => ?_
 refine zD _ (fun c => zG c (hh 14 c rfl)) fun c9 => ?_
 refine zD _ (fun c => hh 15 c rfl) fun c10 => ?_
 have e : mM n = false := by
  have := tC c0; have := tC c1; have := tC c2; have := tC c3; have := tC c4; have := tC c5; have := tC c6; have := tC c7; have := tC c8; have := tC c9; have := tC c10
  unfold mM
  simp
  omega
 rw [e] at hk
 exact ⟨zA.self m, hk⟩
theorem zMl {n : Int} (h : mM n = true) : 0 <= n /\ n < 16 := by unfold mM at h; simp at h; omega
theorem zIa {m : Mem} {b : Nat} {S : St} (h : yQ m b S) (hS : S.ok) {n : Int} {k : Int -> Mem -> Prop} (hk : k (zBm S n) m) : yDj b 0 n m k := by
 unfold yDj
 unfold zBm at hk
 refine zSu (zD _ (fun c => ?_) fun c => zD _ (fun c1 => ?_) fun c1 => ?_)
 .have c : mM n = false := by simpa using c
  have hn : n ≠ 1 := fun e => by subst e; cases c
  rw [if_neg hn, if_neg (by rw [c]; simp)] at hk; exact ⟨zA.self m, hk⟩
 .have e := jE c1; subst e
  rw [yE h (by omega) rfl, qP (hS.1 48 (by omega)).1]; exact ⟨zA.self m, hk⟩
 .have c : mM n = true := by simpa using c
  obtain ⟨n0, n1⟩ := zMl c
  rw [if_neg (tC c1), if_pos c] at hk
  refine yF n0 n1 ?_
  rw [show 0 + 39 + n.toNat * 1 = 39 + n.toNat by omega, yE h (by omega) (by simp [lX]; omega)]; exact ⟨zA.self m, hk⟩
def tH (S : St) (va : Int) (i : Nat) : Bool :=
 (bits .and .u32 (S.n (55 + i * 2)) 4294966272 == bits .and .u32 va 4294966272) && ((bits .and .u32 (S.n (56 + i * 2)) 4 != 0) || (bits .and .u32 (S.n (55 + i * 2)) 255 == bits .and .u32 (S.n 49) 255))
def wX (S : St) (va : Int) : Nat -> Nat -> Int
 | 0, _ => -1
 | d + 1, i => if tH S va i = true then i else wX S va d (i + 1)
theorem oT (S : St) (va : Int) : ∀ (d i : Nat), wX S va d i = -1 \/ (i <= wX S va d i /\ wX S va d i < i + d)
 | 0, i => .inl rfl
 | d + 1, i => by
  unfold wX
  split
  .exact .inr (by omega)
  .rcases oT S va d (i + 1) with h | h
   .exact .inl h
   .exact .inr (by omega)
def rY (S : St) (va : Int) (store : Bool) : Int × Int × Bool :=
 let code : Int := if store = true then 3 else 2
 let k := wX S va 8 0
 if k < 0 then (0, code, true)
 else
  let lo := S.n (56 + k.toNat * 2)
  if (bits .and .u32 lo 1 == 0) = true then (0, code, false)
  else if store = true /\ (bits .and .u32 lo 2 == 0) = true then (0, 1, false)
  else (bits .or .u32 (bits .and .u32 lo 4294966272) (bits .and .u32 va 1023), -1, false)
theorem yK6 (S : St) (i : Nat) (hi : i < 8) {c : Nat -> AV} {o : Nat} (hc : ∀ j, j < 2 -> c (o + j) = stc S (55 + i * 2 + j)) : c o = .flat (.int .u32 (S.n (55 + i * 2))) /\ c (o + 1) = .flat (.int .u32 (S.n (56 + i * 2))) := by
 have h0 := hc 0 (by omega)
 have h1 := hc 1 (by omega)
 rw [zCq (by simp [lX]; omega) (by omega)] at h0 h1
 exact ⟨h0, by rw [h1, show 55 + i * 2 + 1 = 56 + i * 2 by omega]⟩
theorem xKi {m : Mem} {t : TypeId} {z c : Nat -> AV} {k : Nat -> Mem -> Prop} (hk : ∀ b m' x, m.obj b = none -> zA m m' -> m'.obj b = some x -> x.n = 2 -> (∀ j, j < 2 -> x.c j = c j) -> k b m') : zQ m ⟨2, z, t, false⟩ fun b m2 => vA 2 m2 b 0 c fun m4 => k b m4 := by
 intro b hb
 rw [wR (zL _ _ _) rfl (by show 0 + 2 <= 2; omega)]
 refine hk b _ _ hb (fun b' h' => ?_) (zL _ _ _) rfl fun j hj => ?_
 .have : b' ≠ b := fun e => h' (e ▸ hb)
  rw [zP _ this, zP _ this]
 .show zC _ 0 2 c j = _
  unfold zC; rw [if_pos (by omega), Nat.sub_zero]
theorem zYo {m0 : Mem} {b : Nat} {S : St} (h : yQ m0 b S) {va : Int} {c : Nat -> AV} (hc : ∀ i, i < 16 -> c i = stc S (55 + i)) {k0 : Int -> Mem -> Prop} (h1 : ∀ m', zA m0 m' -> k0 (wX S va 8 0) m') :
  ∀ (d i : Nat), i + d = 8 -> wX S va d i = wX S va 8 0 -> ∀ m, zA m0 m -> fF b 0 va c (d + 1) (-1) i m k0 := by
 intro d
 induction d with
 | zero =>
  intro i hi e m K
  obtain rfl : i = 8 := by omega
  unfold fF zLw
  refine zB (by decide) ?_
  have := h1 m K
  rw [<- e] at this; exact this
 | succ d ih =>
  intro i hi e m K
  have hi8 : i < 8 := by omega
  unfold fF zLw
  refine zG (by simp; omega) (yF (by omega) (by omega) (yK (by omega) ?_))
  refine xKi fun b3 m4 y hb3 K4 e4 hn4 hc4 => ?_
  have hcc : ∀ j, j < 2 -> y.c (0 + j) = stc S (55 + i * 2 + j) := fun j hj => by
   rw [Nat.zero_add, hc4 j hj]; simp only [sub, if_pos hj]
   rw [show (i : Int).toNat * 2 + j = i * 2 + j by omega, hc _ (by omega), show 55 + (i * 2 + j) = 55 + i * 2 + j by omega]
  obtain ⟨c0, c1⟩ := yK6 S i hi8 hcc
  rw [yW e4 (by omega) c0]
  have K04 : zA m0 m4 := K.trans K4
  have hnext : tH S va i = false -> fF b 0 va c (d + 1) (-1) (IntKind.wrap .i64 ((i : Int) + 1)) m4 k0 := fun hm => by
   rw [zK (by omega) (by omega)]
   have := ih (i + 1) (by omega) (by rw [<- e]; conv => rhs; unfold wX; rw [if_neg (by rw [hm]; simp)]) m4 K04
   exact_mod_cast this
  have hhit : tH S va i = true -> k0 i m4 := fun hm => by
   have e2 : wX S va 8 0 = i := by rw [<- e]; unfold wX; rw [if_pos hm]
   have := h1 m4 K04
   rw [e2] at this; exact this
  refine zD _ (fun t1 => ?_) fun t1 => ?_
  .have t1 : (bits .and .u32 (bits .xor .u32 (S.n (55 + i * 2)) va) 4294966272 == 0) = false := by simpa using t1
   rw [zCr] at t1
   exact hnext (by unfold tH; rw [t1]; rfl)
  have t1 : (bits .and .u32 (bits .xor .u32 (S.n (55 + i * 2)) va) 4294966272 == 0) = true := by simpa using t1
  rw [zCr] at t1
  rw [yW e4 (by omega) c1]
  refine zD _ (fun t2 => ?_) fun t2 => ?_
  .exact hhit (by unfold tH; rw [t1, t2]; rfl)
  rw [yW e4 (by omega) c0, yE (h.keep K04) (by omega) rfl, zCr]
  refine zD _ (fun t3 => ?_) fun t3 => ?_
  .exact hhit (by unfold tH; rw [t1, t2, t3]; rfl)
  .exact hnext (by unfold tH; rw [t1, t2, t3]; rfl)
theorem zY1 {m : Mem} {b : Nat} {S : St} (h : yQ m b S) {va : Int} {k : Int -> Mem -> Prop} (hk : k (wX S va 8 0) m) : yIj b 0 va m k := by
 unfold yIj
 obtain ⟨x, ex, hn, hr0, hc, hx0⟩ := h
 rw [xH ex (by omega)]
 exact ⟨9, zYo ⟨x, ex, hn, hr0, hc, hx0⟩ (fun i hi => by simp only [sub, if_pos hi]; exact hc _ (by omega)) (fun m' K => ⟨K, hk⟩) 8 0 rfl rfl m (zA.self m)⟩
theorem zI9 {m0 m : Mem} {b : Nat} {S : St} (h : yQ m b S) {va : Int} {store : Bool} {kr : Int -> Int -> Bool -> Mem -> Prop} (hk : kr (rY S va store).1 (rY S va store).2.1 (rY S va store).2.2 m) : kZ b 0 va store (if store = true then 3 else 2) m kr := by
 unfold kZ
 refine zY1 h ?_
 have hr := oT S va 8 0
 unfold rY at hk
 refine zD _ (fun c1 => ?_) fun c1 => ?_
 .have c1 : wX S va 8 0 < 0 := by simpa using c1
  dsimp only at hk; rw [if_pos c1] at hk; exact hk
 have c1 : ¬ wX S va 8 0 < 0 := by simpa using c1
 dsimp only at hk; rw [if_neg c1] at hk
 generalize wX S va 8 0 = x at hk c1 hr
 refine yF (by omega) (by omega) ?_
 rw [show 0 + 55 + x.toNat * 2 + 1 = 56 + x.toNat * 2 by omega, yE h (by omega) (by simp [lX]; omega)]
 refine zD _ (fun c2 => ?_) fun c2 => ?_
 .rw [if_pos c2] at hk; exact hk
 rw [if_neg (by rw [c2]; simp)] at hk
 have key : ∀ c, (c = true ↔ store = true /\ (bits .and .u32 (S.n (56 + x.toNat * 2)) 2 == 0) = true) -> mA va (S.n (56 + x.toNat * 2)) c m kr := by
  intro c hc
  unfold mA
  refine zD _ (fun c3 => ?_) fun c3 => ?_
  .rw [if_pos (hc.1 c3)] at hk; exact hk
  .rw [if_neg (fun e => by rw [hc.2 e] at c3; cases c3)] at hk; exact hk
 refine zD _ (fun c3 => key _ (by rw [c3]; simp)) fun c3 => key _ (by rw [c3]; simp)
theorem zXw {m : Mem} {b : Nat} {S : St} (h : yQ m b S) {va : Int} {store : Bool} {k : Int -> Int -> Bool -> Mem -> Prop} (hk : k (rY S va store).1 (rY S va store).2.1 (rY S va store).2.2 m) : F92 b 0 va store m k := by
 unfold F92
 cases store with
 | true => exact zI9 (m0 := m) h ⟨zA.self m, hk⟩
 | false => exact zI9 (m0 := m) h ⟨zA.self m, hk⟩
theorem zQs (S : St) (A B : Int) (a0 : 0 <= A) (a1 : A < 4294967296) (b0 : 0 <= B) (b1 : B < 4294967296) (h : A - A % 1024 = B - B % 1024) (i : Nat) : tH S A i = tH S B i := by
 unfold tH; rw [zGs A a0 a1, zGs B b0 b1, h]
theorem zE9 (S : St) (A B : Int) (a0 : 0 <= A) (a1 : A < 4294967296) (b0 : 0 <= B) (b1 : B < 4294967296) (h : A - A % 1024 = B - B % 1024) : ∀ d i, wX S A d i = wX S B d i
 | 0, i => rfl
 | d + 1, i => by
  unfold wX; rw [zQs S A B a0 a1 b0 b1 h i, zE9 S A B a0 a1 b0 b1 h d (i + 1)]
def zJ (S : St) (va n : Int) (store : Bool) : Int × Int × Bool :=
 let n' := if n ≠ 1 /\ n ≠ 2 then 4 else n
 if va % n' ≠ 0 \/ (2147483648 <= va /\ sQ S = true) then (0, if store = true then 5 else 4, false)
 else if 2147483648 <= va /\ va < 3221225472 then (bits .and .u32 va 536870911, -1, false)
 else rY S va store
def dN (S : St) : Int := if sQ S = true then bits .and .u32 (S.n 49) 255 + 256 else bits .and .u32 (S.n 49) 255
theorem zPc {m : Mem} {b : Nat} {S : St} (h : yQ m b S) {va n : Int} (h0 : 0 <= va) (h1 : va < 4294967296) {store : Bool} {kr : Int -> Int -> Bool -> Mem -> Prop} (hk : kr (zJ S va n store).1 (zJ S va n store).2.1 (zJ S va n store).2.2 m) : kF b 0 va n store (if store = true then 5 else 4) m kr := by
 unfold zJ at hk
 have key : ∀ n' : Int, (n' = 1 \/ n' = 2 \/ n' = 4) -> (if n ≠ 1 /\ n ≠ 2 then 4 else n) = n' -> nA b 0 va n' store (if store = true then 5 else 4) m kr := by
  intro n' hn' e
  rw [e] at hk
  unfold nA
  have hw : IntKind.wrap .u32 n' = n' := by rw [yV]; rcases hn' with rfl | rfl | rfl <;> rfl
  rw [hw, qP h0]
  refine zB (by rcases hn' with rfl | rfl | rfl <;> rfl) ?_
  have rest : ∀ q, (q = true ↔ va % n' ≠ 0 \/ (2147483648 <= va /\ sQ S = true)) -> nN b 0 va store (if store = true then 5 else 4) q m kr (fun m12 => rE b 0 va store m12 kr) := by
   intro q hq
   unfold nN
   refine zD _ (fun c1 => ?_) fun c1 => ?_
   .rw [if_pos (hq.1 c1)] at hk; exact hk
   rw [if_neg (fun e => by rw [hq.2 e] at c1; cases c1)] at hk
   have look : (¬ (2147483648 <= va /\ va < 3221225472)) -> rE b 0 va store m kr := by
    intro hn
    rw [if_neg hn] at hk
    unfold rE
    exact zXw h hk
   refine zD _ (fun c2 => zD _ (fun c3 => ?_) fun c3 => ?_) fun c2 => ?_
   .rw [if_pos ⟨by simpa using c2, by simpa using c3⟩] at hk; exact hk
   .exact look fun e => by simp at c3; omega
   .exact look fun e => by simp at c2; omega
  refine zD _ (fun c1 => rest true (by simp at c1; simp [c1])) fun c1 => ?_
  have c1 : va % n' = 0 := by simpa using c1
  refine zD _ (fun c2 => ?_) fun c2 => rest false (by simp at c2; simp [c1]; intro; omega)
  refine zA0 h (rest _ (by simp at c2; simp [c1, c2]))
 unfold kF
 refine zD _ (fun c1 => zD _ (fun c2 => ?_) fun c2 => ?_) fun c1 => ?_
 .have c1 : n ≠ 1 := by simpa using c1
  have c2 : n ≠ 2 := by simpa using c2
  exact key 4 (by simp) (by simp [c1, c2])
 .have c2 : n = 2 := by simpa using c2
  exact key n (by simp [c2]) (by simp [c2])
 .have c1 : n = 1 := by simpa using c1
  exact key n (by simp [c1]) (by simp [c1])
theorem kR {m : Mem} {b : Nat} {S : St} (h : yQ m b S) {va n : Int} (h0 : 0 <= va) (h1 : va < 4294967296) {store : Bool} {k : Int -> Int -> Bool -> Mem -> Prop} (hk : k (zJ S va n store).1 (zJ S va n store).2.1 (zJ S va n store).2.2 m) : F62 b 0 va n store m k := by
 unfold F62
 cases store with
 | true => exact zPc h h0 h1 ⟨zA.self m, hk⟩
 | false => exact zPc h h0 h1 ⟨zA.self m, hk⟩
theorem zZ2 (x : Int) : IntKind.wrap .i64 (bits .and .u32 x 255) = bits .and .u32 x 255 /\ IntKind.wrap .i64 (bits .and .u32 x 255 + 256) = bits .and .u32 x 255 + 256 := by
 have := uN x 255
 exact ⟨zK (by omega) (by omega), zK (by omega) (by omega)⟩
theorem zYs {m : Mem} {b : Nat} {S : St} (h : yQ m b S) {k : Int -> Mem -> Prop} (hk : k (dN S) m) : F64 b 0 m k := by
 unfold F64
 rw [yE h (by omega) rfl]
 unfold dN at hk
 obtain ⟨w1, w2⟩ := zZ2 (S.n (0 + 39 + 10))
 rw [w1, w2]
 refine zA0 h (zD _ (fun c => ?_) fun c => ?_)
 .rw [if_pos c] at hk; exact ⟨zA.self m, hk⟩
 .rw [if_neg (by rw [c]; simp)] at hk; exact ⟨zA.self m, hk⟩
def lN (S : St) : Int := if (S.n 50 - S.n 48) % 4294967296 = 0 then 4294967296 else (S.n 50 - S.n 48) % 4294967296
def gM (S : St) (n : Int) : St × Bool :=
 if n < 1 then (S, false)
 else if lN S <= n then (((S.putN 72 (IntKind.wrap .i64 (S.n 72 + n))).putN 48 (IntKind.wrap .u32 (S.n 48 + IntKind.wrap .u32 n))).putN 52 (bits .or .u32 (S.n 52) 32768), true)
 else ((S.putN 72 (IntKind.wrap .i64 (S.n 72 + n))).putN 48 (IntKind.wrap .u32 (S.n 48 + IntKind.wrap .u32 n)), false)
def zX4 (S : St) : Bool := bits .and .u32 (S.n 51) 2 == 0
def tM (S : St) : St :=
 if zX4 S = true then
  if S.p 36 = true then (S.putN 53 (IntKind.wrap .u32 (S.n 34 - 4))).putN 52 (bits .or .u32 (bits .andNot .u32 (S.n 52) 2147483648) 2147483648)
  else (S.putN 53 (S.n 34)).putN 52 (bits .andNot .u32 (S.n 52) 2147483648)
 else S
def toS (S : St) (pc : Int) : St := ((S.putN 34 pc).putN 35 (IntKind.wrap .u32 (pc + 4))).putP 36 false
def zLt (S : St) (code pc : Int) : St := (toS (S.putN 52 (bits .or .u32 (bits .andNot .u32 (S.n 52) 124) (code * 4))) pc).putN 51 (bits .or .u32 (S.n 51) 2)
def pG (S : St) (code : Int) (refill : Bool) : St := zLt (tM S) code (if (refill && zX4 S) = true then 2147483648 else 2147484032)
def hQ (S : St) : St := ((toS S (S.n 53)).putN 51 (bits .andNot .u32 (S.n 51) 2)).putP 37 false
def zU9 (S : St) (va : Int) (t : Bool) : St := if t = true then (S.putN 47 va).putN 49 (bits .or .u32 (bits .and .u32 (S.n 49) 1023) (bits .and .u32 va 4294966272)) else S.putN 47 va
def wZ (S : St) (up : Bool) : St := if up = true then S.putN 52 (bits .or .u32 (bits .andNot .u32 (S.n 52) 1024) 1024) else S.putN 52 (bits .andNot .u32 (S.n 52) 1024)
def yE9 (S : St) : Bool := bits .and .u32 (bits .and .u32 (S.n 52) (S.n 51)) 65280 != 0
def xD (S : St) : Bool := yE9 S && (bits .and .u32 (S.n 51) 3 == 1)
theorem St.putNN (S : St) (i : Nat) (u v : Int) : (S.putN i u).putN i v = S.putN i v := St.ext (fun j => by unfold St.putN upd; dsimp only; split <;> rfl) fun j => rfl
theorem St.putNC (S : St) {i j : Nat} (h : i ≠ j) (u v : Int) : (S.putN i u).putN j v = (S.putN j v).putN i u := St.ext (fun q => by
 unfold St.putN upd; dsimp only
 by_cases a : q = j
 .subst a; rw [if_pos rfl, if_neg (Ne.symm h), if_pos rfl]
 .rw [if_neg a]; by_cases c : q = i
  .rw [if_pos c, if_pos c]
  .rw [if_neg c, if_neg c, if_neg a]) fun j => rfl
theorem zIc (x q r : Int) (h : bv q &&& bv r = bv r) : bits .and .u32 (bits .and .u32 x q) r = bits .and .u32 x r := by
 rw [vV, vV, vV, rS, BitVec.and_assoc, h]
theorem yCp (x : Int) (h0 : 0 <= x) (h1 : x < 4294967296) : (bits .and .u32 x 3 == 1) = ((bits .and .u32 x 1 != 0) && (bits .and .u32 x 2 == 0)) := by
 rw [<- zIc x 3 1 (by decide), <- zIc x 3 2 (by decide)]
 have e : bits .and .u32 x 3 = x % 4 := by have := wE x h0 h1 2 (by decide); simpa using this
 rw [e]
 have : x % 4 = 0 \/ x % 4 = 1 \/ x % 4 = 2 \/ x % 4 = 3 := by omega
 rcases this with h | h | h | h <;> rw [h] <;> decide
theorem yIf (x y z : Int) : bits .and .u32 (bits .and .u32 x z) (bits .and .u32 y z) = bits .and .u32 (bits .and .u32 x y) z := by
 rw [vV, vV, vV, vV, vV, rS, rS, rS]
 congr 2
 apply BitVec.eq_of_getLsbD_eq
 intro i hi
 simp only [BitVec.getLsbD_and]
 generalize (bv x).getLsbD i = p; generalize (bv y).getLsbD i = q; generalize (bv z).getLsbD i = r
 revert p q r; decide
theorem yE6 (c : Int) (h0 : 0 <= c) (h1 : c < 32) : bits .and .i64 c 31 = c /\ bits .and .u32 (IntKind.wrap .u32 ((IntKind.wrap .u32 c) * 4)) 124 = c * 4 /\ IntKind.wrap .u32 ((IntKind.wrap .u32 c) * 4) = c * 4 := by
 have e : ∀ n : Fin 32, bits .and .i64 (n.val : Int) 31 = n.val /\ bits .and .u32 (IntKind.wrap .u32 ((IntKind.wrap .u32 (n.val : Int)) * 4)) 124 = (n.val : Int) * 4 /\ IntKind.wrap .u32 ((IntKind.wrap .u32 (n.val : Int)) * 4) = (n.val : Int) * 4 := by decide +kernel
 have := e ⟨c.toNat, by omega⟩
 have ec : ((c.toNat : Nat) : Int) = c := by omega
 simpa only [ec] using this
theorem zU7 (n : Int) : -9223372036854775808 <= IntKind.wrap .i64 n /\ IntKind.wrap .i64 n < 9223372036854775808 := by
 have e : IntKind.wrap .i64 n = if n % 18446744073709551616 >= 9223372036854775808 then n % 18446744073709551616 - 18446744073709551616 else n % 18446744073709551616 := by
  simp [IntKind.wrap, IntKind.bits, IntKind.signed]
 rw [e]
 split <;> omega
theorem St.ok_toS {S : St} (h : S.ok) {pc : Int} (h0 : 0 <= pc) (h1 : pc < 4294967296) : (toS S pc).ok := by
 unfold toS
 have := wO (pc + 4)
 exact oC (yP (yP h (by omega) h0 h1) (by omega) this.1 this.2)
theorem zBk {S : St} (h : S.ok) (n : Int) : (gM S n).1.ok := by
 unfold gM
 have w := zU7 (S.n 72 + n)
 have w2 := wO (S.n 48 + IntKind.wrap .u32 n)
 have w3 := rB (S.n 52) 32768
 split
 .exact h
 split
 .exact yP (yP (zVa h w.1 w.2) (by omega) w2.1 w2.2) (by omega) w3.1 w3.2
 .exact yP (zVa h w.1 w.2) (by omega) w2.1 w2.2
theorem zYv {S : St} (h : S.ok) : (tM S).ok := by
 unfold tM
 have w := wO (S.n 34 - 4)
 have w3 := rB (bits .andNot .u32 (S.n 52) 2147483648) 2147483648
 have w4 := dR (S.n 52) 2147483648
 have w5 := h.1 34 (by omega)
 split
 .split
  .exact yP (yP h (by omega) w.1 w.2) (by omega) w3.1 w3.2
  .exact yP (yP h (by omega) w5.1 w5.2) (by omega) w4.1 w4.2
 .exact h
theorem zXh {S : St} (h : S.ok) (c : Int) (r : Bool) : (pG S c r).ok := by
 unfold pG zLt
 have w := rB (bits .andNot .u32 ((tM S).n 52) 124) (c * 4)
 have w2 := rB ((tM S).n 51) 2
 refine yP (St.ok_toS (yP (zYv h) (by omega) w.1 w.2) ?_ ?_) (by omega) w2.1 w2.2
 .split <;> decide
 .split <;> decide
theorem zT3 {S : St} (h : S.ok) : (hQ S).ok := by
 unfold hQ
 have w := h.1 53 (by omega)
 have w2 := dR (S.n 51) 2
 exact oC (yP (St.ok_toS h w.1 w.2) (by omega) w2.1 w2.2)
theorem zKl {S : St} (h : S.ok) {va : Int} (h0 : 0 <= va) (h1 : va < 4294967296) (t : Bool) : (zU9 S va t).ok := by
 unfold zU9
 have w := rB (bits .and .u32 (S.n 49) 1023) (bits .and .u32 va 4294966272)
 split
 .exact yP (yP h (by omega) h0 h1) (by omega) w.1 w.2
 .exact yP h (by omega) h0 h1
theorem jH {S : St} (h : S.ok) (t : Bool) : (wZ S t).ok := by
 unfold wZ
 have w := rB (bits .andNot .u32 (S.n 52) 1024) 1024
 have w2 := dR (S.n 52) 1024
 split
 .exact yP h (by omega) w.1 w.2
 .exact yP h (by omega) w2.1 w2.2
theorem yK8 (x : Int) : IntKind.wrap .i64 (IntKind.wrap .u32 x) = x % 4294967296 := by
 rw [yV, zK (by omega) (by omega)]
theorem zB4 {m : Mem} {b : Nat} {S : St} (h : yQ m b S) {n : Int} {k : Bool -> Mem -> Prop} (hk : ∀ m', yQ m' b (gM S n).1 -> yC m b m' -> k (gM S n).2 m') : F77 b 0 n m k := by
 unfold F77
 unfold gM at hk
 refine zD _ (fun c => ?_) fun c => ?_
 .rw [if_pos (by simpa using c)] at hk; exact hk m h (yC.refl m b)
 have c : ¬ n < 1 := by simpa using c
 rw [if_neg c] at hk
 rw [yE h (by omega) rfl, yE h (by omega) rfl, yK8]
 have key : ∀ d : Int, d = lN S -> kN b 0 n d m k := by
  intro d hd
  unfold kN
  simp only [Nat.reduceAdd, Nat.zero_add]
  rw [jA h]
  refine yOf h fun m1 i1 o1 => ?_
  rw [yE i1 (by omega) rfl]
  refine xB i1 (by omega) rfl fun m2 i2 o2 => ?_
  rw [yM S (i := 72) (j := 48) _ (by decide)] at i2
  refine zD _ (fun c2 => ?_) fun c2 => ?_
  .have c2 : n < d := by simpa using c2
   rw [if_neg (by omega)] at hk
   exact hk m2 i2 (o1.trans o2)
  .have c2 : ¬ n < d := by simpa using c2
   rw [if_pos (by omega)] at hk
   rw [yE i2 (by omega) rfl]
   refine xB i2 (by omega) rfl fun m3 i3 o3 => ?_
   rw [yM _ (j := 52) _ (by decide), yM _ (j := 52) _ (by decide)] at i3
   exact hk m3 i3 ((o1.trans o2).trans o3)
 refine zD _ (fun c1 => key _ ?_) fun c1 => key _ ?_
 .have c1 := jE c1
  unfold lN; rw [if_pos (by simpa using c1)]
 .have c1 := tC c1
  unfold lN; rw [if_neg (by simpa using c1)]
theorem zUq {m : Mem} {b : Nat} {S : St} (h : yQ m b S) {pc : Int} {k : Mem -> Prop} (hk : ∀ m', yQ m' b (toS S pc) -> yC m b m' -> k m') : yA0 b 0 pc m k := by
 unfold yA0
 simp only [Nat.reduceAdd, Nat.zero_add]
 exact xB h (by omega) rfl fun m1 i1 o1 => xB i1 (by omega) rfl fun m2 i2 o2 => oL i2 (by omega) rfl fun m3 i3 o3 => hk m3 i3 ((o1.trans o2).trans o3)
theorem zSd {m : Mem} {b : Nat} {S : St} (h : yQ m b S) {c : Int} {r : Bool} (hc0 : 0 <= c) (hc1 : c < 32) {k : Mem -> Prop} (hk : ∀ m', yQ m' b (pG S c r) -> yC m b m' -> k m') : yGv b 0 c r m k := by
 unfold yGv
 simp only [Nat.reduceAdd, Nat.zero_add]
 unfold pG at hk
 obtain ⟨e1, e2, e3⟩ := yE6 c hc0 hc1
 have tail : ∀ (A : St) (pc : Int) (m1 : Mem), yQ m1 b A -> yC m b m1 -> (∀ m', yQ m' b (zLt A c pc) -> yC m b m' -> k m') -> tK b 0 c pc m1 (fun m9 => k m9) := by
  intro A pc m1 i1 o1 hk
  unfold tK
  simp only [Nat.reduceAdd, Nat.zero_add]
  rw [e1, e3, yE i1 (by omega) rfl]
  refine xB i1 (by omega) rfl fun m2 i2 o2 => zUq i2 fun m3 i3 o3 => ?_
  rw [yE i3 (by omega) rfl]
  refine xB i3 (by omega) rfl fun m4 i4 o4 => hk m4 i4 (((o1.trans o2).trans o3).trans o4)
 rw [yE h (by omega) rfl]
 refine zD _ (fun cx => ?_) fun cx => ?_
 .have hout : zX4 S = true := cx
  have eA : tM S = if S.p 36 = true then (S.putN 53 (IntKind.wrap .u32 (S.n 34 - 4))).putN 52 (bits .or .u32 (bits .andNot .u32 (S.n 52) 2147483648) 2147483648) else (S.putN 53 (S.n 34)).putN 52 (bits .andNot .u32 (S.n 52) 2147483648) := by unfold tM; rw [if_pos hout]
  have mid : ∀ (m1 : Mem), yQ m1 b (tM S) -> yC m b m1 -> nX b 0 c r 2147484032 m1 (fun x m2 => tK b 0 c x m2 (fun m9 => k m9)) := by
   intro m1 i1 o1
   unfold nX
   rw [hout, Bool.and_true] at hk
   refine zD _ (fun c2 => ?_) fun c2 => ?_
   .rw [if_pos c2] at hk; exact tail _ _ _ i1 o1 hk
   .rw [if_neg (by rw [c2]; simp)] at hk; exact tail _ _ _ i1 o1 hk
  rw [yE h (by omega) rfl]
  refine xB h (by omega) rfl fun m1 i1 o1 => ?_
  rw [yE i1 (by omega) rfl, yM S (j := 52) _ (by decide)]
  refine xB i1 (by omega) rfl fun m2 i2 o2 => ?_
  rw [mY i2 (by omega) rfl]
  refine zD _ (fun c3 => ?_) fun c3 => ?_
  .have c3 : S.p 36 = true := c3
   rw [yE i2 (by omega) rfl, yM _ (j := 34) _ (by decide), yM _ (j := 34) _ (by decide)]
   refine xB i2 (by omega) rfl fun m3 i3 o3 => ?_
   rw [yE i3 (by omega) rfl, yM _ (j := 52) _ (by decide), tV]
   refine xB i3 (by omega) rfl fun m4 i4 o4 => mid m4 ?_ (((o1.trans o2).trans o3).trans o4)
   rw [eA, if_pos c3]
   rw [St.putNC _ (i := 52) (j := 53) (by decide), St.putNN, St.putNN] at i4
   exact i4
  .have c3 : S.p 36 = false := c3
   refine mid m2 ?_ (o1.trans o2)
   rw [eA, if_neg (by rw [c3]; simp)]
   exact i2
 .have hout : zX4 S = false := cx
  have eA : tM S = S := by unfold tM; rw [if_neg (by rw [hout]; simp)]
  rw [hout, Bool.and_false, if_neg (by simp), eA] at hk
  exact tail S _ m h (yC.refl m b) hk
theorem zMa {m : Mem} {b : Nat} {S : St} (h : yQ m b S) {k : Mem -> Prop} (hk : ∀ m', yQ m' b (hQ S) -> yC m b m' -> k m') : yJ4 b 0 m k := by
 unfold yJ4
 simp only [Nat.reduceAdd, Nat.zero_add]
 rw [yE h (by omega) rfl]
 refine zUq h fun m1 i1 o1 => ?_
 rw [yE i1 (by omega) rfl]
 refine xB i1 (by omega) rfl fun m2 i2 o2 => oL i2 (by omega) rfl fun m3 i3 o3 => hk m3 i3 ((o1.trans o2).trans o3)
theorem zPf {m : Mem} {b : Nat} {S : St} (h : yQ m b S) {va : Int} {t : Bool} {k : Mem -> Prop} (hk : ∀ m', yQ m' b (zU9 S va t) -> yC m b m' -> k m') : yAg b 0 va t m k := by
 unfold yAg
 simp only [Nat.reduceAdd, Nat.zero_add]
 unfold zU9 at hk
 refine xB h (by omega) rfl fun m1 i1 o1 => zD _ (fun c => ?_) fun c => ?_
 .rw [if_pos c] at hk
  rw [yE i1 (by omega) rfl, yM S (j := 49) _ (by decide), zWs (S.n 49) 4294966272 1023 (by decide)]
  exact xB i1 (by omega) rfl fun m2 i2 o2 => hk m2 i2 (o1.trans o2)
 .rw [if_neg (by rw [c]; simp)] at hk
  exact hk m1 i1 o1
theorem rC {m : Mem} {b : Nat} {S : St} (h : yQ m b S) {t : Bool} {k : Mem -> Prop} (hk : ∀ m', yQ m' b (wZ S t) -> yC m b m' -> k m') : F59 b 0 t m k := by
 unfold F59
 simp only [Nat.reduceAdd, Nat.zero_add]
 unfold wZ at hk
 rw [yE h (by omega) rfl]
 refine xB h (by omega) rfl fun m1 i1 o1 => zD _ (fun c => ?_) fun c => ?_
 .rw [if_pos c] at hk
  rw [yE i1 (by omega) rfl, tV]
  refine xB i1 (by omega) rfl fun m2 i2 o2 => hk m2 ?_ (o1.trans o2)
  rw [St.putNN] at i2; exact i2
 .rw [if_neg (by rw [c]; simp)] at hk
  exact hk m1 i1 o1
theorem zXv {m : Mem} {b : Nat} {S : St} (h : yQ m b S) {k : Bool -> Mem -> Prop} (hk : k (yE9 S) m) : F73 b 0 m k := by
 unfold F73
 simp only [Nat.reduceAdd, Nat.zero_add]
 rw [yE h (by omega) rfl, yE h (by omega) rfl, yIf]
 exact ⟨zA.self m, hk⟩
theorem fQ {m : Mem} {b : Nat} {S : St} (h : yQ m b S) (hS : S.ok) {k : Bool -> Mem -> Prop} (hk : k (xD S) m) : F61 b 0 m k := by
 unfold F61
 simp only [Nat.reduceAdd, Nat.zero_add]
 unfold xD at hk
 rw [yCp _ (hS.1 51 (by omega)).1 (hS.1 51 (by omega)).2] at hk
 refine zXv h (zD _ (fun c => ?_) fun c => ?_)
 .rw [yE h (by omega) rfl]
  refine zD _ (fun c1 => ?_) fun c1 => ?_
  .rw [yE h (by omega) rfl]; rw [c, c1] at hk; exact ⟨zA.self m, hk⟩
  .rw [c, c1] at hk; exact ⟨zA.self m, hk⟩
 .rw [c] at hk; exact ⟨zA.self m, hk⟩
def zR1 (S : St) (random : Bool) : St :=
 let i : Int := if random = true then S.n 48 % 8 else bits .and .u32 (S.n 39) 7
 (S.putN (55 + i.toNat * 2) (S.n 49)).putN (56 + i.toNat * 2) (S.n 41)
theorem yQo (x : Int) : 0 <= bits .and .u32 x 7 /\ bits .and .u32 x 7 < 8 := by
 have h := uN x 7
 have h2 : (bv x &&& bv 7).toNat <= 7 := by
  rw [BitVec.toNat_and]; exact Nat.le_trans Nat.and_le_right (by decide)
 rw [vV] at h ⊢
 omega
theorem yI1 {S : St} (h : S.ok) (r : Bool) : (zR1 S r).ok := by
 unfold zR1
 have h48 := h.1 48 (by omega)
 have hi : ∀ i : Int, 0 <= i -> i < 8 -> ((S.putN (55 + i.toNat * 2) (S.n 49)).putN (56 + i.toNat * 2) (S.n 41)).ok := fun i h0 h1 =>
  yP (yP h (by omega) (h.1 49 (by omega)).1 (h.1 49 (by omega)).2) (by omega) (h.1 41 (by omega)).1 (h.1 41 (by omega)).2
 have h7 := yQo (S.n 39)
 cases r with
 | true => exact hi _ (by simp; omega) (by simp; omega)
 | false => exact hi _ (by simp; omega) (by simp; omega)
theorem zRo {m : Mem} {b : Nat} {S : St} (h : yQ m b S) (hS : S.ok) {r : Bool} {k : Mem -> Prop} (hk : ∀ m', yQ m' b (zR1 S r) -> yC m b m' -> k m') : yIh b 0 r m k := by
 unfold yIh
 unfold zR1 at hk
 have key : ∀ i : Int, 0 <= i -> i < 8 -> (∀ m', yQ m' b ((S.putN (55 + i.toNat * 2) (S.n 49)).putN (56 + i.toNat * 2) (S.n 41)) -> yC m b m' -> k m') -> oX b 0 i m k := by
  intro i i0 i1 hk
  unfold oX
  rw [yE h (by omega) rfl, yE h (by omega) rfl]
  refine yF i0 i1 ?_
  rw [show 0 + 55 + i.toNat * 2 = 55 + i.toNat * 2 by omega]
  refine yQ3 h (by omega) rfl rfl ?_
  rw [show 55 + i.toNat * 2 + 1 = 56 + i.toNat * 2 by omega]
  exact hk
 rw [yE h (by omega) rfl]
 have h48 := hS.1 48 (by omega)
 have h7 := yQo (S.n 39)
 cases r with
 | true =>
  refine zG rfl (zIa h hS ?_)
  exact key _ (by simp [zBm]; omega) (by simp [zBm]; omega) hk
 | false => exact zB rfl (key _ h7.1 h7.2 hk)
structure Row where
 op : Int
 sub : Int
 kd : Int
 f : ByteArray
def T0 : List Row := [⟨0, 0, 1, ⟨#[116, 100, 104]⟩⟩, ⟨0, 2, 2, ⟨#[116, 100, 104]⟩⟩, ⟨0, 3, 3, ⟨#[116, 100, 104]⟩⟩, ⟨0, 4, 4, ⟨#[115, 116, 100]⟩⟩, ⟨0, 6, 5, ⟨#[115, 116, 100]⟩⟩, ⟨0, 7, 6, ⟨#[115, 116, 100]⟩⟩, ⟨0, 8, 7, ⟨#[115]⟩⟩, ⟨0, 9, 8, ⟨#[115, 100]⟩⟩, ⟨0, 10, 9, ⟨#[115, 116, 100]⟩⟩, ⟨0, 11, 10, ⟨#[115, 116, 100]⟩⟩, ⟨0, 12, 11, ⟨#[]⟩⟩, ⟨0, 13, 12, ⟨#[]⟩⟩, ⟨0, 15, 13, ⟨#[]⟩⟩, ⟨0, 16, 14, ⟨#[100]⟩⟩, ⟨0, 17, 15, ⟨#[115]⟩⟩, ⟨0, 18, 16, ⟨#[100]⟩⟩, ⟨0, 19, 17, ⟨#[115]⟩⟩, ⟨0, 24, 18, ⟨#[115, 116]⟩⟩, ⟨0, 25, 19, ⟨#[115, 116]⟩⟩, ⟨0, 26, 20, ⟨#[115, 116]⟩⟩, ⟨0, 27, 21, ⟨#[115, 116]⟩⟩, ⟨0, 32, 22, ⟨#[115, 116, 100]⟩⟩, ⟨0, 33, 23, ⟨#[115, 116, 100]⟩⟩, ⟨0, 34, 24, ⟨#[115, 116, 100]⟩⟩, ⟨0, 35, 25, ⟨#[115, 116, 100]⟩⟩, ⟨0, 36, 26, ⟨#[115, 116, 100]⟩⟩, ⟨0, 37, 27, ⟨#[115, 116, 100]⟩⟩, ⟨0, 38, 28, ⟨#[115, 116, 100]⟩⟩, ⟨0, 39, 29, ⟨#[115, 116, 100]⟩⟩, ⟨0, 42, 30, ⟨#[115, 116, 100]⟩⟩, ⟨0, 43, 31, ⟨#[115, 116, 100]⟩⟩, ⟨0, 48, 32, ⟨#[115, 116]⟩⟩, ⟨0, 50, 33, ⟨#[115, 116]⟩⟩, ⟨0, 52, 34, ⟨#[115, 116]⟩⟩, ⟨0, 54, 35, ⟨#[115, 116]⟩⟩]
def T1 : List Row := [⟨2, 0, 40, ⟨#[106]⟩⟩, ⟨3, 0, 41, ⟨#[106]⟩⟩, ⟨4, 0, 42, ⟨#[115, 116, 105]⟩⟩, ⟨5, 0, 43, ⟨#[115, 116, 105]⟩⟩, ⟨6, 0, 44, ⟨#[115, 105]⟩⟩, ⟨7, 0, 45, ⟨#[115, 105]⟩⟩, ⟨8, 0, 46, ⟨#[115, 116, 105]⟩⟩, ⟨9, 0, 47, ⟨#[115, 116, 105]⟩⟩, ⟨10, 0, 48, ⟨#[115, 116, 105]⟩⟩, ⟨11, 0, 49, ⟨#[115, 116, 105]⟩⟩, ⟨12, 0, 50, ⟨#[115, 116, 105]⟩⟩, ⟨13, 0, 51, ⟨#[115, 116, 105]⟩⟩, ⟨14, 0, 52, ⟨#[115, 116, 105]⟩⟩, ⟨15, 0, 53, ⟨#[116, 105]⟩⟩, ⟨17, 0, 62, ⟨#[]⟩⟩, ⟨32, 0, 66, ⟨#[115, 116, 105]⟩⟩, ⟨33, 0, 67, ⟨#[115, 116, 105]⟩⟩, ⟨35, 0, 68, ⟨#[115, 116, 105]⟩⟩, ⟨36, 0, 69, ⟨#[115, 116, 105]⟩⟩, ⟨37, 0, 70, ⟨#[115, 116, 105]⟩⟩, ⟨40, 0, 71, ⟨#[115, 116, 105]⟩⟩, ⟨41, 0, 72, ⟨#[115, 116, 105]⟩⟩, ⟨43, 0, 73, ⟨#[115, 116, 105]⟩⟩, ⟨47, 0, 76, ⟨#[]⟩⟩, ⟨48, 0, 74, ⟨#[115, 116, 105]⟩⟩, ⟨51, 0, 77, ⟨#[]⟩⟩, ⟨56, 0, 75, ⟨#[115, 116, 105]⟩⟩]
def T2 : List Row := [⟨1, 0, 36, ⟨#[115, 105]⟩⟩, ⟨1, 1, 37, ⟨#[115, 105]⟩⟩, ⟨1, 16, 38, ⟨#[115, 105]⟩⟩, ⟨1, 17, 39, ⟨#[115, 105]⟩⟩, ⟨16, 0, 54, ⟨#[116, 100]⟩⟩, ⟨16, 4, 55, ⟨#[116, 100]⟩⟩, ⟨16, 65, 56, ⟨#[]⟩⟩, ⟨16, 66, 57, ⟨#[]⟩⟩, ⟨16, 70, 58, ⟨#[]⟩⟩, ⟨16, 72, 59, ⟨#[]⟩⟩, ⟨16, 88, 60, ⟨#[]⟩⟩, ⟨16, 96, 61, ⟨#[]⟩⟩, ⟨28, 2, 63, ⟨#[115, 116, 100]⟩⟩, ⟨28, 32, 64, ⟨#[115, 100]⟩⟩, ⟨28, 33, 65, ⟨#[115, 100]⟩⟩]
def yDw (op : Int) : List Row := if op = 0 then T0 else if op = 1 \/ op = 16 \/ op = 28 then T2 else T1
def yMe (op sub : Int) : Option Row := (yDw op).find? fun r => decide (r.op = op) && decide (r.sub = sub)
def kt (op sub : Int) : Int := match yMe op sub with | some r => r.kd | none => 0
def lL (k : Int) : Option Row := (T0 ++ (T1 ++ T2)).find? fun r => decide (r.kd = k)
def rL (b : ByteArray) (c : Int) : Bool := (List.range b.size).any fun i => ((b.data.getD i 0).toNat : Int) == c
def aH : List Int := [0, 14, 14, 14, 7, 7, 7, 1, 5, 7, 7, 0, 0, 0, 4, 1, 4, 1, 3, 3, 3, 3, 7, 7, 7, 7, 7, 7, 7, 7, 7, 7, 3, 3, 3, 3, 17, 17, 17, 17, 32, 32, 19, 19, 17, 17, 19, 19, 19, 19, 19, 19, 19, 18, 6, 6, 0, 0, 0, 0, 0, 0, 0, 7, 5, 5, 19, 19, 19, 19, 19, 19, 19, 19, 19, 19, 0, 0]
def fl (k : Int) : Int := aH.getD k.toNat 0
def KT0 : List Int := [1, 0, 2, 3, 4, 0, 5, 6, 7, 8, 9, 10, 11, 12, 0, 13, 14, 15, 16, 17, 0, 0, 0, 0, 18, 19, 20, 21, 0, 0, 0, 0, 22, 23, 24, 25, 26, 27, 28, 29, 0, 0, 30, 31, 0, 0, 0, 0, 32, 0, 33, 0, 34, 0, 35, 0, 0, 0, 0, 0, 0, 0, 0, 0]
def KT1 : List Int := [36, 37, 0, 0, 0, 0, 0, 0, 0, 0, 0, 0, 0, 0, 0, 0, 38, 39, 0, 0, 0, 0, 0, 0, 0, 0, 0, 0, 0, 0, 0, 0]
def yOa : List Int := [54, 0, 0, 0, 55, 0, 0, 0, 0, 0, 0, 0, 0, 0, 0, 0, 0, 0, 0, 0, 0, 0, 0, 0, 0, 0, 0, 0, 0, 0, 0, 0]
def yN3 : List Int := [0, 56, 57, 0, 0, 0, 58, 0, 59, 0, 0, 0, 0, 0, 0, 0, 0, 0, 0, 0, 0, 0, 0, 0, 60, 0, 0, 0, 0, 0, 0, 0, 61, 0, 0, 0, 0, 0, 0, 0, 0, 0, 0, 0, 0, 0, 0, 0, 0, 0, 0, 0, 0, 0, 0, 0, 0, 0, 0, 0, 0, 0, 0, 0]
def yVn : List Int := [0, 0, 63, 0, 0, 0, 0, 0, 0, 0, 0, 0, 0, 0, 0, 0, 0, 0, 0, 0, 0, 0, 0, 0, 0, 0, 0, 0, 0, 0, 0, 0, 64, 65, 0, 0, 0, 0, 0, 0, 0, 0, 0, 0, 0, 0, 0, 0, 0, 0, 0, 0, 0, 0, 0, 0, 0, 0, 0, 0, 0, 0, 0, 0]
def KTM : List Int := [0, 0, 40, 41, 42, 43, 44, 45, 46, 47, 48, 49, 50, 51, 52, 53, 0, 62, 0, 0, 0, 0, 0, 0, 0, 0, 0, 0, 0, 0, 0, 0, 66, 67, 0, 68, 69, 70, 0, 0, 71, 72, 0, 73, 0, 0, 0, 76, 74, 0, 0, 77, 0, 0, 0, 0, 75, 0, 0, 0, 0, 0, 0, 0]
def HDT : List Int := [0, 0, 2, 3, 4, 6, 7, 8, 9, 10, 11, 12, 13, 15, 16, 17, 18, 19, 24, 25, 26, 27, 32, 33, 34, 35, 36, 37, 38, 39, 42, 43, 48, 50, 52, 54, 67108864, 67174400, 68157440, 68222976, 134217728, 201326592, 268435456, 335544320, 402653184, 469762048, 536870912, 603979776, 671088640, 738197504, 805306368, 872415232, 939524096, 1006632960, 1073741824, 1082130432, 1107296257, 1107296258, 1107296262, 1107296264, 1107296280, 1107296288, 1140850688, 1879048194, 1879048224, 1879048225, 2147483648, 2214592512, 2348810240, 2415919104, 2483027968, 2684354560, 2751463424, 2885681152, 3221225472, 3758096384, 3154116608, 3422552064]
theorem yQa : ∀ n, n < 64 -> kt 0 (n : Nat) = KT0.getD n 0 := by decide +kernel
theorem yP6 : ∀ n, n < 32 -> kt 1 (n : Nat) = KT1.getD n 0 := by decide +kernel
theorem yJa : ∀ n, n < 32 -> kt 16 (n : Nat) = yOa.getD n 0 := by decide +kernel
theorem yB4 : ∀ n, n < 64 -> kt 16 (64 + (n : Nat)) = yN3.getD n 0 := by decide +kernel
theorem yI0 : ∀ n, n < 64 -> kt 28 (n : Nat) = yVn.getD n 0 := by decide +kernel
theorem yOi : ∀ n, n < 64 -> n ≠ 0 -> n ≠ 1 -> n ≠ 16 -> n ≠ 28 -> kt (n : Nat) 0 = KTM.getD n 0 := by decide +kernel
structure In where
 k : Int
 s : Int
 t : Int
 d : Int
 h : Int
 i : Int
deriving DecidableEq
def yA (m q : Int) : Bool := bits .and .i64 m q != 0
def wJ (k w : Int) : In := ⟨k, if yA (fl k) 1 = true then w / 2097152 % 32 else 0, if yA (fl k) 2 = true then w / 65536 % 32 else 0, if yA (fl k) 4 = true then w / 2048 % 32 else 0, if yA (fl k) 8 = true then w / 64 % 32 else 0,
 if yA (fl k) 16 = true then w % 65536 else if yA (fl k) 32 = true then w % 67108864 else 0⟩
def zOf (w : Int) : Int :=
 if w / 67108864 = 0 \/ w / 67108864 = 28 then w % 64
 else if w / 67108864 = 1 then w / 65536 % 32
 else if w / 67108864 = 16 then if w / 2097152 % 32 = 16 then 64 + w % 64 else w / 2097152 % 32
 else 0
def jG (w : Int) : Int := kt (w / 67108864) (zOf w)
def ofS (w : Int) : In := wJ (jG w) w
abbrev vI (x y : Int) : Int := bits .or .u32 x y
def xG (x : In) : Int := vI (vI (vI (vI (IntKind.wrap .u32 (IntKind.wrap .u32 x.s * 2097152)) (IntKind.wrap .u32 (IntKind.wrap .u32 x.t * 65536))) (IntKind.wrap .u32 (IntKind.wrap .u32 x.d * 2048))) (IntKind.wrap .u32 (IntKind.wrap .u32 x.h * 64))) x.i
def zBj (k : Int) : Int := HDT.getD k.toNat 0
def zLz (n : Int) : Bool := decide (0 <= n) && decide (n <= 31)
def wN (x : In) : Bool := zLz x.s && zLz x.t && zLz x.d && zLz x.h && decide (0 < x.k) && decide (x.k < 78) && decide (x.i <= 67108863) && decide (wJ x.k (xG x) = x)
def zAa (x : In) : Int × Bool := if wN x = true then (vI (zBj x.k) (xG x), true) else (0, false)
def wQ (f : Int) : Int := if yA f 16 = true then 65535 else if yA f 32 = true then 67108863 else 0
structure OK (x : In) : Prop where
 k0 : 0 < x.k
 k1 : x.k < 78
 s0 : 0 <= x.s
 s1 : x.s < 32
 s2 : yA (fl x.k) 1 = false -> x.s = 0
 t0 : 0 <= x.t
 t1 : x.t < 32
 t2 : yA (fl x.k) 2 = false -> x.t = 0
 d0 : 0 <= x.d
 d1 : x.d < 32
 d2 : yA (fl x.k) 4 = false -> x.d = 0
 h0 : 0 <= x.h
 h1 : x.h < 32
 h2 : yA (fl x.k) 8 = false -> x.h = 0
 i0 : 0 <= x.i
 i1 : x.i <= wQ (fl x.k)
theorem iO {x y : Int} (hx : 0 <= x /\ x < 4294967296) (hy : 0 <= y /\ y < 4294967296) : vI x y = ((x.toNat ||| y.toNat : Nat) : Int) := by
 unfold vI
 rw [gI, BitVec.toNat_or]
 have h1 := pF hx.1 hx.2
 have h2 := pF hy.1 hy.2
 rw [show (bv x).toNat = x.toNat by omega, show (bv y).toNat = y.toNat by omega]
theorem wW (x y : Int) : 0 <= vI x y /\ vI x y < 4294967296 := rB x y
theorem dD {x y : Int} (hx : 0 <= x /\ x < 4294967296) (hy : 0 <= y /\ y < 4294967296) (a b : Nat) : vI x y / ((2 ^ a : Nat) : Int) % ((2 ^ b : Nat) : Int) = vI (x / ((2 ^ a : Nat) : Int) % ((2 ^ b : Nat) : Int)) (y / ((2 ^ a : Nat) : Int) % ((2 ^ b : Nat) : Int)) := by
 obtain ⟨m, rfl⟩ : ∃ m : Nat, x = m := ⟨x.toNat, by omega⟩
 obtain ⟨n, rfl⟩ : ∃ n : Nat, y = n := ⟨y.toNat, by omega⟩
 have hm : m < 4294967296 := by omega
 have hn : n < 4294967296 := by omega
 have e1 : ((m : Int) / ((2 ^ a : Nat) : Int) % ((2 ^ b : Nat) : Int)) = ((m / 2 ^ a % 2 ^ b : Nat) : Int) := by push_cast; rfl
 have e2 : ((n : Int) / ((2 ^ a : Nat) : Int) % ((2 ^ b : Nat) : Int)) = ((n / 2 ^ a % 2 ^ b : Nat) : Int) := by push_cast; rfl
 have l1 : m / 2 ^ a % 2 ^ b <= m := Nat.le_trans (Nat.mod_le _ _) (Nat.div_le_self _ _)
 have l2 : n / 2 ^ a % 2 ^ b <= n := Nat.le_trans (Nat.mod_le _ _) (Nat.div_le_self _ _)
 rw [e1, e2, iO hx hy, iO ⟨by omega, by omega⟩ ⟨by omega, by omega⟩]
 simp only [Int.toNat_natCast]
 rw [<- Nat.or_mod_two_pow, <- Nat.or_div_two_pow]
 push_cast; rfl
theorem tF {x : Int} (hx : 0 <= x /\ x < 4294967296) : vI x 0 = x := by
 rw [iO hx (by omega)]; simp; omega
theorem cJ {x : Int} (hx : 0 <= x /\ x < 4294967296) : vI 0 x = x := by
 rw [iO (by omega) hx]; simp; omega
theorem yFg (x y : Int) : vI x y = vI y x := by unfold vI; rw [gI, gI, BitVec.or_comm]
theorem iA (x y z : Int) : vI (vI x y) z = vI x (vI y z) := by unfold vI; rw [gI, gI, gI, gI, rS, rS, BitVec.or_assoc]
theorem yF3 : ∀ n, n < 78 -> (yA (aH.getD n 0) 16 = true -> yA (aH.getD n 0) 4 = false /\ yA (aH.getD n 0) 8 = false /\ yA (aH.getD n 0) 32 = false) /\
  (yA (aH.getD n 0) 32 = true -> yA (aH.getD n 0) 1 = false /\ yA (aH.getD n 0) 2 = false /\ yA (aH.getD n 0) 4 = false /\ yA (aH.getD n 0) 8 = false /\ yA (aH.getD n 0) 16 = false) := by decide +kernel
structure Fields (x : In) (w : Int) : Prop where
 r : 0 <= w /\ w < 4294967296
 o : w / 67108864 = 0
 s : yA (fl x.k) 32 = false -> w / 2097152 % 32 = x.s
 t : yA (fl x.k) 32 = false -> w / 65536 % 32 = x.t
 d : yA (fl x.k) 16 = false -> yA (fl x.k) 32 = false -> w / 2048 % 32 = x.d
 h : yA (fl x.k) 16 = false -> yA (fl x.k) 32 = false -> w / 64 % 32 = x.h
 f : yA (fl x.k) 16 = false -> yA (fl x.k) 32 = false -> w % 64 = 0
 i : yA (fl x.k) 16 = true -> w % 65536 = x.i
 j : yA (fl x.k) 32 = true -> w % 67108864 = x.i
theorem zNu (k : Int) (h0 : 0 <= k) (h1 : k < 78) : (yA (fl k) 16 = true -> yA (fl k) 4 = false /\ yA (fl k) 8 = false /\ yA (fl k) 32 = false) /\
  (yA (fl k) 32 = true -> yA (fl k) 1 = false /\ yA (fl k) 2 = false /\ yA (fl k) 4 = false /\ yA (fl k) 8 = false /\ yA (fl k) 16 = false) := yF3 k.toNat (by omega)
theorem yCx (f : Int) : wQ f <= 67108863 := by unfold wQ; split; omega; split <;> omega
theorem bO {f : Int} (h : yA f 16 = false) (h2 : yA f 32 = false) : wQ f = 0 := by unfold wQ; rw [h, h2]; rfl
theorem yCv {f : Int} (h : yA f 16 = true) : wQ f = 65535 := by unfold wQ; rw [h]; rfl
theorem yE3 {f : Int} (h : yA f 16 = false) (h2 : yA f 32 = true) : wQ f = 67108863 := by unfold wQ; rw [h, h2]; rfl
theorem zS6 {x : In} (h : OK x) : yA (fl x.k) 32 = false -> Fields x (xG x) := by
 intro h32
 obtain ⟨k0, k1, s0, s1, s2, t0, t1, t2, d0, d1, d2, h0, h1, h2, i0, i1⟩ := h
 have shape := (zNu x.k (by omega) k1).1
 have hi : x.i < 65536 := by
  cases h16 : yA (fl x.k) 16 with
  | true => rw [yCv h16] at i1; omega
  | false => rw [bO h16 h32] at i1; omega
 unfold xG
 rw [yV, yV, yV, yV, yV, yV, yV, yV]
 rw [show x.s % 4294967296 * 2097152 % 4294967296 = x.s * 2097152 by omega, show x.t % 4294967296 * 65536 % 4294967296 = x.t * 65536 by omega, show x.d % 4294967296 * 2048 % 4294967296 = x.d * 2048 by omega, show x.h % 4294967296 * 64 % 4294967296 = x.h * 64 by omega]
 have ext := fun (a b : Nat) => (show vI (vI (vI (vI (x.s * 2097152) (x.t * 65536)) (x.d * 2048)) (x.h * 64)) x.i / ((2 ^ a : Nat) : Int) % ((2 ^ b : Nat) : Int) = _ from by
  rw [dD (wW _ _) (by omega), dD (wW _ _) (by omega), dD (wW _ _) (by omega), dD (by omega) (by omega)])
 have r := wW (vI (vI (vI (x.s * 2097152) (x.t * 65536)) (x.d * 2048)) (x.h * 64)) x.i
 have z5 : ∀ {u : Int}, 0 <= u -> u < 4294967296 -> vI (vI (vI (vI u 0) 0) 0) 0 = u := fun a b => by rw [tF (wW _ _), tF (wW _ _), tF (wW _ _), tF ⟨a, b⟩]
 have z0 : vI 0 0 = 0 := by decide
 refine ⟨r, ?_, ?_, ?_, ?_, ?_, ?_, ?_, ?_⟩
 .have e := ext 26 6
  simp only [Nat.reducePow] at e
  rw [show x.s * 2097152 / ((67108864 : Nat) : Int) % ((64 : Nat) : Int) = 0 by omega, show x.t * 65536 / ((67108864 : Nat) : Int) % ((64 : Nat) : Int) = 0 by omega, show x.d * 2048 / ((67108864 : Nat) : Int) % ((64 : Nat) : Int) = 0 by omega, show x.h * 64 / ((67108864 : Nat) : Int) % ((64 : Nat) : Int) = 0 by omega, show x.i / ((67108864 : Nat) : Int) % ((64 : Nat) : Int) = 0 by omega, z0, z0, z0, z0] at e
  omega
 .intro _
  have e := ext 21 5
  simp only [Nat.reducePow] at e
  rw [show x.s * 2097152 / ((2097152 : Nat) : Int) % ((32 : Nat) : Int) = x.s by omega, show x.t * 65536 / ((2097152 : Nat) : Int) % ((32 : Nat) : Int) = 0 by omega, show x.d * 2048 / ((2097152 : Nat) : Int) % ((32 : Nat) : Int) = 0 by omega, show x.h * 64 / ((2097152 : Nat) : Int) % ((32 : Nat) : Int) = 0 by omega, show x.i / ((2097152 : Nat) : Int) % ((32 : Nat) : Int) = 0 by omega, z5 s0 (by omega)] at e
  omega
 .intro _
  have e := ext 16 5
  simp only [Nat.reducePow] at e
  rw [show x.s * 2097152 / ((65536 : Nat) : Int) % ((32 : Nat) : Int) = 0 by omega, show x.t * 65536 / ((65536 : Nat) : Int) % ((32 : Nat) : Int) = x.t by omega, show x.d * 2048 / ((65536 : Nat) : Int) % ((32 : Nat) : Int) = 0 by omega, show x.h * 64 / ((65536 : Nat) : Int) % ((32 : Nat) : Int) = 0 by omega, show x.i / ((65536 : Nat) : Int) % ((32 : Nat) : Int) = 0 by omega, tF (wW _ _), tF (wW _ _), tF (wW _ _), cJ (by omega)] at e
  omega
 .intro h16 _
  have hz : x.i = 0 := by rw [bO h16 h32] at i1; omega
  have e := ext 11 5
  simp only [Nat.reducePow] at e
  rw [show x.s * 2097152 / ((2048 : Nat) : Int) % ((32 : Nat) : Int) = 0 by omega, show x.t * 65536 / ((2048 : Nat) : Int) % ((32 : Nat) : Int) = 0 by omega, show x.d * 2048 / ((2048 : Nat) : Int) % ((32 : Nat) : Int) = x.d by omega, show x.h * 64 / ((2048 : Nat) : Int) % ((32 : Nat) : Int) = 0 by omega, show x.i / ((2048 : Nat) : Int) % ((32 : Nat) : Int) = 0 by omega, z0, tF (wW _ _), tF (wW _ _), cJ (by omega)] at e
  omega
 .intro h16 _
  have hz : x.i = 0 := by rw [bO h16 h32] at i1; omega
  have e := ext 6 5
  simp only [Nat.reducePow] at e
  rw [show x.s * 2097152 / ((64 : Nat) : Int) % ((32 : Nat) : Int) = 0 by omega, show x.t * 65536 / ((64 : Nat) : Int) % ((32 : Nat) : Int) = 0 by omega, show x.d * 2048 / ((64 : Nat) : Int) % ((32 : Nat) : Int) = 0 by omega, show x.h * 64 / ((64 : Nat) : Int) % ((32 : Nat) : Int) = x.h by omega, show x.i / ((64 : Nat) : Int) % ((32 : Nat) : Int) = 0 by omega, z0, z0, tF (wW _ _), cJ (by omega)] at e
  omega
 .intro h16 _
  have hz : x.i = 0 := by rw [bO h16 h32] at i1; omega
  have e := ext 0 6
  simp only [Nat.reducePow] at e
  rw [show x.s * 2097152 / ((1 : Nat) : Int) % ((64 : Nat) : Int) = 0 by omega, show x.t * 65536 / ((1 : Nat) : Int) % ((64 : Nat) : Int) = 0 by omega, show x.d * 2048 / ((1 : Nat) : Int) % ((64 : Nat) : Int) = 0 by omega, show x.h * 64 / ((1 : Nat) : Int) % ((64 : Nat) : Int) = 0 by omega, show x.i / ((1 : Nat) : Int) % ((64 : Nat) : Int) = 0 by omega, z0, z0, z0, z0] at e
  omega
 .intro h16
  obtain ⟨q1, q2, _⟩ := shape h16
  have hd := d2 q1
  have hh := h2 q2
  have e := ext 0 16
  simp only [Nat.reducePow] at e
  rw [show x.s * 2097152 / ((1 : Nat) : Int) % ((65536 : Nat) : Int) = 0 by omega, show x.t * 65536 / ((1 : Nat) : Int) % ((65536 : Nat) : Int) = 0 by omega, show x.d * 2048 / ((1 : Nat) : Int) % ((65536 : Nat) : Int) = 0 by omega, show x.h * 64 / ((1 : Nat) : Int) % ((65536 : Nat) : Int) = 0 by omega, show x.i / ((1 : Nat) : Int) % ((65536 : Nat) : Int) = x.i by omega, z0, z0, z0, cJ (by omega)] at e
  omega
 .intro q; rw [h32] at q; cases q
theorem zM3 {x : In} (h : OK x) (h32 : yA (fl x.k) 32 = true) : xG x = x.i /\ x.s = 0 /\ x.t = 0 /\ x.d = 0 /\ x.h = 0 /\ x.i < 67108864 := by
 obtain ⟨k0, k1, s0, s1, s2, t0, t1, t2, d0, d1, d2, h0, h1, h2, i0, i1⟩ := h
 have shape := (zNu x.k (by omega) k1).2 h32
 obtain ⟨q1, q2, q3, q4, q5⟩ := shape
 have hs := s2 q1
 have ht := t2 q2
 have hd := d2 q3
 have hh := h2 q4
 have hi : x.i < 67108864 := by rw [yE3 q5 h32] at i1; omega
 refine ⟨?_, hs, ht, hd, hh, hi⟩
 unfold xG
 rw [hs, ht, hd, hh]
 rw [show vI (vI (vI (IntKind.wrap .u32 (IntKind.wrap .u32 0 * 2097152)) (IntKind.wrap .u32 (IntKind.wrap .u32 0 * 65536))) (IntKind.wrap .u32 (IntKind.wrap .u32 0 * 2048))) (IntKind.wrap .u32 (IntKind.wrap .u32 0 * 64)) = 0 by decide]
 exact cJ (by omega)
theorem zUr {x : In} (h : OK x) : Fields x (xG x) := by
 cases h32 : yA (fl x.k) 32 with
 | false => exact zS6 h h32
 | true =>
  obtain ⟨e, hs, ht, hd, hh, hi⟩ := zM3 h h32
  have i0 := h.i0
  have q5 := ((zNu x.k (by have := h.k0; omega) h.k1).2 h32).2.2.2.2
  rw [e]
  refine ⟨⟨i0, by omega⟩, by omega, fun q => ?_, fun q => ?_, fun _ q => ?_, fun _ q => ?_, fun _ q => ?_, fun q => ?_, fun _ => by omega⟩
  .rw [h32] at q; cases q
  .rw [h32] at q; cases q
  .rw [h32] at q; cases q
  .rw [h32] at q; cases q
  .rw [h32] at q; cases q
  .rw [q5] at q; cases q
theorem tR (x : In) (hi : 0 <= x.i) : wN x = true ↔ OK x := by
 constructor
 .intro h
  unfold wN zLz at h
  simp only [Bool.and_eq_true, decide_eq_true_eq] at h
  obtain ⟨⟨⟨⟨⟨⟨⟨⟨s0, s1⟩, ⟨t0, t1⟩⟩, ⟨d0, d1⟩⟩, ⟨h0, h1⟩⟩, k0⟩, k1⟩, i1⟩, e⟩ := h
  have es := congrArg In.s e
  have et := congrArg In.t e
  have ed := congrArg In.d e
  have eh := congrArg In.h e
  have ei := congrArg In.i e
  unfold wJ at es et ed eh ei
  dsimp only at es et ed eh ei
  refine ⟨k0, k1, s0, by omega, fun q => ?_, t0, by omega, fun q => ?_, d0, by omega, fun q => ?_, h0, by omega, fun q => ?_, hi, ?_⟩
  .rw [if_neg (by rw [q]; simp)] at es; exact es.symm
  .rw [if_neg (by rw [q]; simp)] at et; exact et.symm
  .rw [if_neg (by rw [q]; simp)] at ed; exact ed.symm
  .rw [if_neg (by rw [q]; simp)] at eh; exact eh.symm
  .cases h16 : yA (fl x.k) 16 with
   | true => rw [yCv h16]; rw [if_pos h16] at ei; omega
   | false =>
    cases h32 : yA (fl x.k) 32 with
    | true => rw [yE3 h16 h32]; exact i1
    | false => rw [bO h16 h32]; rw [if_neg (by rw [h16]; simp), if_neg (by rw [h32]; simp)] at ei; omega
 .intro h
  have F := zUr h
  have sh := zNu x.k (by have := h.k0; omega) h.k1
  unfold wN zLz
  simp only [Bool.and_eq_true, decide_eq_true_eq]
  have := yCx (fl x.k)
  have := h.i1
  refine ⟨⟨⟨⟨⟨⟨⟨⟨h.s0, by have := h.s1; omega⟩, ⟨h.t0, by have := h.t1; omega⟩⟩, ⟨h.d0, by have := h.d1; omega⟩⟩, ⟨h.h0, by have := h.h1; omega⟩⟩, h.k0⟩, h.k1⟩, by omega⟩, ?_⟩
  unfold wJ
  have n32 : ∀ {q : Int}, yA (fl x.k) q = true -> (yA (fl x.k) 32 = true -> yA (fl x.k) q = false) -> yA (fl x.k) 32 = false := fun a b => by
   cases c : yA (fl x.k) 32 with
   | false => rfl
   | true => rw [b c] at a; cases a
  have n16 : ∀ {q : Int}, yA (fl x.k) q = true -> (yA (fl x.k) 16 = true -> yA (fl x.k) q = false) -> yA (fl x.k) 16 = false := fun a b => by
   cases c : yA (fl x.k) 16 with
   | false => rfl
   | true => rw [b c] at a; cases a
  have es : (if yA (fl x.k) 1 = true then xG x / 2097152 % 32 else 0) = x.s := by
   cases c : yA (fl x.k) 1 with
   | true => rw [if_pos rfl]; exact F.s (n32 c fun q => (sh.2 q).1)
   | false => rw [if_neg (by simp)]; exact (h.s2 c).symm
  have et : (if yA (fl x.k) 2 = true then xG x / 65536 % 32 else 0) = x.t := by
   cases c : yA (fl x.k) 2 with
   | true => rw [if_pos rfl]; exact F.t (n32 c fun q => (sh.2 q).2.1)
   | false => rw [if_neg (by simp)]; exact (h.t2 c).symm
  have ed : (if yA (fl x.k) 4 = true then xG x / 2048 % 32 else 0) = x.d := by
   cases c : yA (fl x.k) 4 with
   | true => rw [if_pos rfl]; exact F.d (n16 c fun q => (sh.1 q).1) (n32 c fun q => (sh.2 q).2.2.1)
   | false => rw [if_neg (by simp)]; exact (h.d2 c).symm
  have eh : (if yA (fl x.k) 8 = true then xG x / 64 % 32 else 0) = x.h := by
   cases c : yA (fl x.k) 8 with
   | true => rw [if_pos rfl]; exact F.h (n16 c fun q => (sh.1 q).2.1) (n32 c fun q => (sh.2 q).2.2.2.1)
   | false => rw [if_neg (by simp)]; exact (h.h2 c).symm
  have ei : (if yA (fl x.k) 16 = true then xG x % 65536 else if yA (fl x.k) 32 = true then xG x % 67108864 else 0) = x.i := by
   cases c : yA (fl x.k) 16 with
   | true => rw [if_pos rfl]; exact F.i c
   | false =>
    rw [if_neg (by simp)]
    cases c2 : yA (fl x.k) 32 with
    | true => rw [if_pos rfl]; exact F.j c2
    | false => rw [if_neg (by simp)]; have := h.i1; have := h.i0; rw [bO c c2] at *; omega
  rw [es, et, ed, eh, ei]
set_option synthInstance.maxHeartbeats 400000 in
set_option synthInstance.maxSize 4000 in
theorem yQc : ∀ n, n < 78 -> 0 < n -> (0 <= HDT.getD n 0 /\ HDT.getD n 0 < 4294967296) /\ jG (HDT.getD n 0) = n /\
  (yA (aH.getD n 0) 1 = true -> HDT.getD n 0 / 2097152 % 32 = 0) /\ (yA (aH.getD n 0) 2 = true -> HDT.getD n 0 / 65536 % 32 = 0) /\ (yA (aH.getD n 0) 4 = true -> HDT.getD n 0 / 2048 % 32 = 0) /\ (yA (aH.getD n 0) 8 = true -> HDT.getD n 0 / 64 % 32 = 0) /\
  (yA (aH.getD n 0) 16 = true -> HDT.getD n 0 % 65536 = 0) /\ (yA (aH.getD n 0) 32 = true -> HDT.getD n 0 % 67108864 = 0) := by decide +kernel
set_option synthInstance.maxHeartbeats 400000 in
set_option synthInstance.maxSize 4000 in
theorem yKk : ∀ n, n < 78 -> 0 < n ->
  ((HDT.getD n 0 / 67108864 = 0 \/ HDT.getD n 0 / 67108864 = 28) -> yA (aH.getD n 0) 16 = false /\ yA (aH.getD n 0) 32 = false) /\
  (HDT.getD n 0 / 67108864 = 1 -> yA (aH.getD n 0) 2 = false /\ yA (aH.getD n 0) 32 = false) /\
  (HDT.getD n 0 / 67108864 = 16 -> yA (aH.getD n 0) 1 = false /\ yA (aH.getD n 0) 16 = false /\ yA (aH.getD n 0) 32 = false) := by decide +kernel
theorem yHj {x : In} (h : OK x) : ofS (vI (zBj x.k) (xG x)) = x := by
 have F := zUr h
 have k0 := h.k0
 have k1 := h.k1
 have sh := zNu x.k (by omega) k1
 have T := yQc x.k.toNat (by omega) (by omega)
 have T2 := yKk x.k.toNat (by omega) (by omega)
 have ek : ((x.k.toNat : Nat) : Int) = x.k := by omega
 have eh : HDT.getD x.k.toNat 0 = zBj x.k := rfl
 have ef : aH.getD x.k.toNat 0 = fl x.k := rfl
 rw [eh, ef, ek] at T
 rw [eh, ef] at T2
 generalize zBj x.k = H at T T2 ⊢
 obtain ⟨hr, hk, a1, a2, a4, a8, a16, a32⟩ := T
 obtain ⟨b0, b1, b16⟩ := T2
 have Pr := F.r
 have ext := fun a b => dD hr Pr a b
 have er := wW H (xG x)
 -- the parts of the word
 have eo : vI H (xG x) / 67108864 = H / 67108864 := by
  have e := ext 26 6
  simp only [Nat.reducePow] at e
  have o := F.o
  rw [show xG x / ((67108864 : Nat) : Int) % ((64 : Nat) : Int) = 0 by omega, tF (by omega)] at e
  omega
 have ef6 : yA (fl x.k) 16 = false -> yA (fl x.k) 32 = false -> vI H (xG x) % 64 = H % 64 := fun p q => by
  have e := ext 0 6
  simp only [Nat.reducePow] at e
  have o := F.f p q
  rw [show xG x / ((1 : Nat) : Int) % ((64 : Nat) : Int) = 0 by omega, tF (by omega)] at e
  omega
 have et0 : yA (fl x.k) 2 = false -> yA (fl x.k) 32 = false -> vI H (xG x) / 65536 % 32 = H / 65536 % 32 := fun p q => by
  have e := ext 16 5
  simp only [Nat.reducePow] at e
  have o := F.t q
  rw [h.t2 p] at o
  rw [show xG x / ((65536 : Nat) : Int) % ((32 : Nat) : Int) = 0 by omega, tF (by omega)] at e
  omega
 have es0 : yA (fl x.k) 1 = false -> yA (fl x.k) 32 = false -> vI H (xG x) / 2097152 % 32 = H / 2097152 % 32 := fun p q => by
  have e := ext 21 5
  simp only [Nat.reducePow] at e
  have o := F.s q
  rw [h.s2 p] at o
  rw [show xG x / ((2097152 : Nat) : Int) % ((32 : Nat) : Int) = 0 by omega, tF (by omega)] at e
  omega
 have esub : zOf (vI H (xG x)) = zOf H := by
  unfold zOf
  rw [eo]
  by_cases c0 : H / 67108864 = 0 \/ H / 67108864 = 28
  .rw [if_pos c0, if_pos c0]; exact ef6 (b0 c0).1 (b0 c0).2
  .rw [if_neg c0, if_neg c0]
   by_cases c1 : H / 67108864 = 1
   .rw [if_pos c1, if_pos c1]; exact et0 (b1 c1).1 (b1 c1).2
   .rw [if_neg c1, if_neg c1]
    by_cases c2 : H / 67108864 = 16
    .rw [if_pos c2, if_pos c2, es0 (b16 c2).1 (b16 c2).2.2, ef6 (b16 c2).2.1 (b16 c2).2.2]
    .rw [if_neg c2, if_neg c2]
 have ekd : jG (vI H (xG x)) = x.k := by
  unfold jG at hk ⊢; rw [eo, esub]; exact hk
 have R := (tR x h.i0).2 h
 have W : wJ x.k (xG x) = x := by
  unfold wN at R; simp only [Bool.and_eq_true, decide_eq_true_eq] at R; exact R.2
 unfold ofS
 rw [ekd]
 refine Eq.trans ?_ W
 unfold wJ
 have part : ∀ (q : Int) (a b : Nat), (yA (fl x.k) q = true -> H / ((2 ^ a : Nat) : Int) % ((2 ^ b : Nat) : Int) = 0) -> yA (fl x.k) q = true -> vI H (xG x) / ((2 ^ a : Nat) : Int) % ((2 ^ b : Nat) : Int) = xG x / ((2 ^ a : Nat) : Int) % ((2 ^ b : Nat) : Int) := fun q a b z c => by
  rw [ext, z c]
  have e1 : ∃ n : Nat, xG x = n := ⟨(xG x).toNat, by omega⟩
  obtain ⟨n, e1⟩ := e1
  have l2 : n / 2 ^ a % 2 ^ b <= n := Nat.le_trans (Nat.mod_le _ _) (Nat.div_le_self _ _)
  have e2 : xG x / ((2 ^ a : Nat) : Int) % ((2 ^ b : Nat) : Int) = ((n / 2 ^ a % 2 ^ b : Nat) : Int) := by rw [e1]; push_cast; rfl
  rw [e2]
  exact cJ (by omega)
 congr 1
 .split
  .rename_i c; have := part 1 21 5 (fun q => by simpa using a1 q) c; simpa using this
  .rfl
 .split
  .rename_i c; have := part 2 16 5 (fun q => by simpa using a2 q) c; simpa using this
  .rfl
 .split
  .rename_i c; have := part 4 11 5 (fun q => by simpa using a4 q) c; simpa using this
  .rfl
 .split
  .rename_i c; have := part 8 6 5 (fun q => by simpa using a8 q) c; simpa using this
  .rfl
 .split
  .rename_i c; have := part 16 0 16 (fun q => by simpa using a16 q) c; simpa using this
  .split
   .rename_i c; have := part 32 0 26 (fun q => by simpa using a32 q) c; simpa using this
   .rfl
end Go.Proofs.YtkiggdgphbkneaaGreat.Am
