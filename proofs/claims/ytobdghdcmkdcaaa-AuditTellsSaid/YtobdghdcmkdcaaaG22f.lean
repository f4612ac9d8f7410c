/- Drop, On, Flush; law 22's CacheDrops. Conditions: none of its own. -/
import Derived.Test.YtobdghdcmkdcaaaG22e
namespace Go.Proofs.Ytobdghdcmkdcaaa.Am
set_option linter.unusedVariables false
set_option linter.unusedSimpArgs false
set_option maxRecDepth 100000

def pg (e : Key × Val) : Int := e.1.a / 1024
section
variable {m : Mem} {b : Nat} {n : Int} {l : List (Key × Val)} {S : Nat → Prop}
theorem bpage_spec {c : Nat → AV} {a : Int} (h : c 0 = .flat (.int .u32 a)) (hu : isU a) {k : Int → Mem → Prop} (hk : k (a / 1024) m) : F44 c m k := by
  unfold F44
  refine newK_i fun b2 m1 hb K e O => ?_
  rw [ldI_of e (show (0 : Nat) < 4 by decide) h, Int.tdiv_eq_ediv_of_nonneg hu.1, wrap32, Int.emod_eq_of_lt (by have := hu.1; omega) (by have := hu.2; have := hu.1; omega), wrap64 (by have := hu.1; omega) (by have := hu.2; omega)]
  exact ⟨K, hk⟩
/-- so many of a page -/
def cnt (p : Int) (l : List (Key × Val)) : Nat := (l.filter fun e => decide (pg e = p)).length
theorem cnt_split (p : Int) (l : List (Key × Val)) : cnt p l + (l.filter fun e => decide (pg e ≠ p)).length = l.length := by
  induction l with
  | nil => rfl
  | cons x l ih =>
    unfold cnt at ih ⊢
    by_cases c : pg x = p
    · rw [List.filter_cons_of_pos (by simpa using c), List.filter_cons_of_neg (by simpa using c)]
      simp only [List.length_cons]; omega
    · rw [List.filter_cons_of_neg (by simpa using c), List.filter_cons_of_pos (by simpa using c)]
      simp only [List.length_cons]; omega
theorem cnt_take (p : Int) (l : List (Key × Val)) (i : Nat) (h : i < l.length) : cnt p (l.take (i + 1)) = cnt p (l.take i) + if pg l[i] = p then 1 else 0 := by
  unfold cnt
  rw [List.take_succ_eq_append_getElem h, List.filter_append, List.length_append]
  congr 1
  by_cases c : pg l[i] = p
  · rw [List.filter_cons_of_pos (by simpa using c), if_pos c]; rfl
  · rw [List.filter_cons_of_neg (by simpa using c), if_neg c]; rfl
theorem _root_.Go.Proofs.Ytobdghdcmkdcaaa.Am.IsL.form {esz : Nat} {v : AV} {n : Nat} {c : Nat → AV} (h : IsL m esz v n c) : (∃ a, v = .flat (.slice a 0 0)) ∨ ∃ b o cap, v = .sl b o n cap := by
  cases h with
  | nil a c => exact .inl ⟨a, rfl⟩
  | sl b o n cap y c g1 g2 g3 g4 g5 => exact .inr ⟨b, o, cap, rfl⟩
/-- a row of keys copied -/
theorem cloneK_spec {v : AV} {ks : List Key} (h : IsK m v ks) (hl : ks.length ≤ 1000) {k : AV → Mem → Prop} (hk : ∀ v' m', IsK m' v' ks → Keeps m m' → (∀ x, own v' x → m.obj x = none) → k v' m') : F49 v m k := by
  unfold F49
  obtain ⟨c, hL, hC⟩ := h
  have main : newK m ⟨0, lget [], 94, false⟩ fun b3 m2 => appS 3 24 94 (.sl b3 0 0 (.ex 0)) v m2 fun v4 m5 => k v4 m5 := by
    refine newK_i fun b3 m2 hb3 K2 e2 O2 => appL (n := 0) (c := fun _ => .junk) (IsL.row (esz := 3) e2 rfl rfl) (hL.r.keep K2) (by omega) fun v' m' g F o => hk v' m' ⟨_, by rw [Nat.zero_add] at g; exact g, fun i hi => (hC i hi).congr fun j hj => ?_⟩ (Fr.keeps K2 F fun x e => by cases e; exact hb3) fun x hx => ?_
    · unfold cat; rw [if_neg (by omega)]; congr 1
    · rcases o x hx with h1 | h1
      · cases h1; exact hb3
      · exact newK_none K2 h1
  rcases hL.form with ⟨a, rfl⟩ | ⟨b, o, cap, rfl⟩
  · cases a with
    | none => exact hk _ m ⟨c, hL, hC⟩ (Keeps.self m) fun x h => h.elim
    | some a => exact main
  · exact main
/-- what stands after i of l were looked at -/
def dr (p : Int) (l : List (Key × Val)) (i : Nat) : List (Key × Val) := (l.take i).filter (fun e => decide (pg e ≠ p)) ++ l.drop i
theorem dr_zero (p : Int) (l : List (Key × Val)) : dr p l 0 = l := by unfold dr; simp
theorem dr_end (p : Int) (l : List (Key × Val)) {i : Nat} (h : l.length ≤ i) : dr p l i = l.filter fun e => decide (pg e ≠ p) := by
  unfold dr; rw [List.take_of_length_le h, List.drop_eq_nil_of_le h, List.append_nil]
theorem dr_sub (p : Int) (l : List (Key × Val)) (i : Nat) : (dr p l i).Sublist l := by
  unfold dr
  have := (List.filter_sublist (l := l.take i) (p := fun e => decide (pg e ≠ p))).append (List.Sublist.refl (l.drop i))
  rwa [List.take_append_drop] at this
theorem dr_no (p : Int) (l : List (Key × Val)) {i : Nat} (h : i < l.length) (c : ¬ pg l[i] = p) : dr p l (i + 1) = dr p l i := by
  unfold dr
  rw [List.take_succ_eq_append_getElem h, List.filter_append, List.filter_cons_of_pos (by simpa using c), List.append_assoc]
  congr 1
  rw [List.filter_nil, List.drop_eq_getElem_cons h]; rfl
theorem dr_yes (p : Int) {l : List (Key × Val)} (nd : (l.map Prod.fst).Nodup) {i : Nat} (h : i < l.length) (c : pg l[i] = p) : rm (dr p l i) l[i].1 = dr p l (i + 1) := by
  have nd2 : ((dr p l i).map Prod.fst).Nodup := ((dr_sub p l i).map Prod.fst).nodup nd
  have hd : dr p l i = (l.take i).filter (fun e => decide (pg e ≠ p)) ++ l[i] :: l.drop (i + 1) := by unfold dr; rw [List.drop_eq_getElem_cons h]
  have hlen : ((l.take i).filter (fun e => decide (pg e ≠ p))).length < (dr p l i).length := by rw [hd]; simp; omega
  have hat : (dr p l i)[((l.take i).filter (fun e => decide (pg e ≠ p))).length] = l[i] := by
    simp only [hd]
    rw [List.getElem_append_right (Nat.le_refl _)]
    simp
  unfold rm
  rw [filter_erase Prod.fst l[i].1 (dr p l i) _ hlen nd2 (by rw [hat]), hd, List.eraseIdx_append_of_length_le (Nat.le_refl _)]
  simp only [Nat.sub_self, List.eraseIdx_cons_zero]
  unfold dr
  rw [List.take_succ_eq_append_getElem h, List.filter_append, List.filter_cons_of_neg (by simpa using c), List.filter_nil, List.append_nil]
/-- a row outside -/
structure OutK (m : Mem) (S : Nat → Prop) (v : AV) (ks : List Key) : Prop where
  k : IsK m v ks
  o : ∀ x, own v x → ¬ S x
theorem OutK.stp {m' : Mem} {S' : Nat → Prop} {v : AV} {ks : List Key} (h : OutK m S v ks) (s : Stp S S' m m') : OutK m' S' v ks := ⟨h.k.fr s.fr h.o, fun x hx hs => (s.ft x hs).elim (h.o x hx) (h.k.live hx)⟩
theorem OutK.keep {m' : Mem} {v : AV} {ks : List Key} (h : OutK m S v ks) (K : Keeps m m') : OutK m' S v ks := ⟨h.k.keep K, h.o⟩
theorem del_key (C : Ca m b n l S) {kb : Nat} {key : Key} (B : OutB m S kb key) {k : Mem → Prop} (hk : ∀ m' S', Ca m' b n (rm l key) S' → Stp S S' m m' → k m') :
    ldG 3 m kb 0 fun c19 => F50 b 0 c19 m fun m20 => ldA m20 b 2 fun v21 => ldG 3 m20 kb 0 fun c22 => mdel K94 3 v21 c22 m20 fun m23 => k m23 := by
  obtain ⟨bm, v, es, h, eS⟩ := C
  subst eS
  have hl := h.ln
  have hn2 := h.n2
  refine B.k.lg fun c19 h19 => out_spec h.li (by rw [List.length_map]; omega) h.nd h19 fun m2 v2 g2 F2 o2 => ?_
  rw [← rm_fst] at g2
  have ft2 : ∀ x, ftL b v x → ftC b bm v x := fun x hx => hx.elim .inl fun h => .inr (.inr h)
  have mp2 : IsMp m2 bm es := h.mp.fr F2 fun hx => hx.elim (fun e => h.li.ne e.symm) h.li.nm
  rw [g2.l2]
  refine (B.k.fr F2 fun hx => B.o (ft2 _ hx)).lg fun c22 h22 => mdel_m mp2 ((h.pm.map Prod.fst).nodup_iff.2 h.nd) h22 fun m3 g3 F3 => hk m3 _ ⟨bm, v2, rm es key, ⟨g2.fr F3 g2.ne fun x hx e => g2.nm (e ▸ hx), g3, rm_perm h.pm key, rm_nd h.nd key, ?_, h.n1, h.n2, fun e he => h.vo e (List.mem_filter.1 he).1⟩, rfl⟩ ⟨fun x hx hs => ?_, fun x hx => .inl ?_⟩
  · have := rm_len l key; omega
  · rw [F3 x (by rw [F2 x hx fun h => hs (ft2 x h)]; exact hx) (fun e => hs (.inr (.inl e))), F2 x hx fun h => hs (ft2 x h)]
  · rcases hx with rfl | rfl | hx
    · exact .inl rfl
    · exact .inr (.inl rfl)
    · exact .inr (.inr (o2 x hx))
theorem drop_loop {m0 : Mem} {S0 : Nat → Prop} {v2 : AV} {p : Int} (nd : (l.map Prod.fst).Nodup) (vo : ∀ e ∈ l, VOK e) (hl : l.length ≤ 256) {k0 : Int → Mem → Prop} (hk : ∀ m' S', Ca m' b n (l.filter fun e => decide (pg e ≠ p)) S' → Stp S0 S' m0 m' → k0 (cnt p l) m') :
    ∀ (j i : Nat) (m : Mem) (S : Nat → Prop), i + j = l.length → Ca m b n (dr p l i) S → Stp S0 S m0 m → OutK m S v2 (l.map Prod.fst) → L43_3 b 0 p v2 l.length (j + 1) (cnt p (l.take i)) i m k0
  | 0, i, m, S, e, C, s, O => by
    show R43_3 _ _ _ _ _ _ _ _ _ _
    unfold R43_3
    refine kif_f (by simp; omega) ?_
    rw [List.take_of_length_le (by omega)]
    rw [dr_end p l (by omega)] at C
    exact hk m S C s
  | j + 1, i, m, S, e, C, s, O => by
    show R43_3 _ _ _ _ _ _ _ _ _ _
    unfold R43_3
    have hi : i < l.length := by omega
    rw [wrap64 (n := (i : Int) + 1) (by omega) (by omega), wrap64 (n := ((cnt p (l.take i) : Nat) : Int) + 1) (by omega) (by have := cnt_split p (l.take i); rw [List.length_take] at this; omega)]
    refine kif_t (by simp; omega) (O.k.ld i (by rw [List.length_map]; exact hi) fun c9 h9 => ?_)
    rw [List.getElem_map] at h9
    refine box_i fun b11 m12 y hb11 K11 ey yn yr yc => ?_
    have C12 := C.keep K11
    have s12 := s.trans (Stp.keep S K11)
    have O12 := O.keep K11
    have B : OutB m12 S b11 l[i].1 := ⟨⟨y, ey, yn, yr, h9.congr fun j hj => yc j hj⟩, fun h => C.live h hb11⟩
    simp only [Nat.zero_add]
    obtain ⟨bm, v, es, w, eS⟩ := id C12
    rw [w.li.l2]
    have hin : l[i] ∈ dr p l i := List.mem_append.2 (.inr (by rw [List.drop_eq_getElem_cons hi]; exact .head _))
    refine B.k.lg fun c14 h14 => mget_m w.mp h14 (fun d hd => ?_) fun hno => absurd ((mem_es w _).2 (List.mem_map.2 ⟨_, hin, rfl⟩)) hno
    have hd := w.pm.mem_iff.1 hd
    have ed : d = l[i].2 := mem_unique w.nd hd hin
    have vo1 := vo _ (List.getElem_mem hi)
    subst ed
    refine bpage_spec vo1.1 vo1.2 (kif_c _ (fun c => ?_) fun c => ?_)
    · have c : pg l[i] = p := by unfold pg; simpa using c
      refine del_key C12 B fun m3 S3 C3 s3 => ?_
      rw [dr_yes p nd hi c] at C3
      have := drop_loop nd vo hl hk j (i + 1) m3 S3 (by omega) C3 (s12.trans s3) (O12.stp s3)
      rw [cnt_take p l i hi, if_pos c] at this
      exact this
    · have c : ¬ pg l[i] = p := by unfold pg; simpa using c
      rw [← dr_no p l hi c] at C12
      have := drop_loop nd vo hl hk j (i + 1) m12 S (by omega) C12 s12 O12
      rw [cnt_take p l i hi, if_neg c] at this
      exact this
theorem drop22 (C : Ca m b n l S) {p : Int} {k : Int → Mem → Prop} (hk : ∀ m' S', Ca m' b n (l.filter fun e => decide (pg e ≠ p)) S' → Stp S S' m m' → k (cnt p l) m') : F43 b 0 p m k := by
  obtain ⟨bm, v, es, h, eS⟩ := id C
  have hl := h.ln
  have hn2 := h.n2
  unfold F43
  simp only [Nat.zero_add]
  rw [h.li.l1]
  refine cloneK_spec h.li.ks (by rw [List.length_map]; omega) fun v2 m3 g3 K3 o3 => ?_
  rw [g3.len, List.length_map]
  refine ⟨l.length + 1, drop_loop (m0 := m) (S0 := S) h.nd h.vo (by omega) hk l.length 0 m3 S (by omega) ?_ (Stp.keep S K3) ⟨g3, fun x hx hs => C.live hs (o3 x hx)⟩⟩
  rw [dr_zero]; exact C.keep K3
theorem stC_j {b o : Nat} {v : AV} {k : Mem → Prop} {x : Blk} (h : m.obj b = some x) (hr : x.ro = false) (ho : o < x.n) (hk : ∀ m', m'.obj b = some { x with c := upd x.c o v } → Only m b m' → k m') : stC m b o v k := by
  rw [stC_of h hr ho]; exact hk _ (set_same _ _ _) (Only.set _ _ _)
end
end Go.Proofs.Ytobdghdcmkdcaaa.Am
