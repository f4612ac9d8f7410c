/- Law 22's play: its state, its parts. Conditions: none of its own. -/
import Derived.Test.YtjeijigchdnblaaC22h
namespace Go.Proofs.Ytjeijigchdnblaa.Am
set_option linter.unusedVariables false
set_option linter.unusedSimpArgs false
set_option maxRecDepth 100000

abbrev Ent := Key × Val × Int
def kv (e : Ent) : Key × Val := (e.1, e.2.1)
abbrev keysE (L : List Ent) : List Key := L.map fun e => e.1
abbrev tagsE (L : List Ent) : List Int := L.map fun e => e.2.2
theorem kv_fst (L : List Ent) : (L.map kv).map Prod.fst = keysE L := by rw [List.map_map]; rfl
/-- a word in a block of its own -/
def WO (m : Mem) (S : Nat → Prop) (v7 v8 : AV) (w : Nat) (t : Int) : Prop := (∃ y, m.obj w = some y ∧ 1 ≤ y.n ∧ y.c 0 = .flat (.int .u32 t)) ∧ ¬ S w ∧ ¬ own v7 w ∧ ¬ own v8 w
structure Pl (m0 m : Mem) (b : Nat) (n : Int) (L : List Ent) (S : Nat → Prop) (v7 v8 : AV) : Prop where
  C : Ca m b n (L.map kv) S
  K : IsX KeyC m 3 v7 (keysE L)
  T : IsX TagC m 1 v8 (tagsE L)
  W : ∀ e ∈ L, ∃ w, e.2.1 1 = .sl w 0 1 (.ex 1) ∧ WO m S v7 v8 w e.2.2
  d7 : ∀ x, own v7 x → ¬ S x
  d8 : ∀ x, own v8 x → ¬ S x
  d78 : ∀ x, own v7 x → ¬ own v8 x
  O : Own m0 m S
  f7 : ∀ x, own v7 x → m0.obj x = none
  f8 : ∀ x, own v8 x → m0.obj x = none
section
variable {m0 m : Mem} {b : Nat} {n : Int} {L : List Ent} {S : Nat → Prop} {v7 v8 : AV}
theorem WO.keep {m' : Mem} {w : Nat} {t : Int} (h : WO m S v7 v8 w t) (K : Keeps m m') : WO m' S v7 v8 w t := by
  obtain ⟨⟨y, e, r⟩, h⟩ := h
  exact ⟨⟨y, by rw [K w (by rw [e]; simp)]; exact e, r⟩, h⟩
theorem WO.live {w : Nat} {t : Int} (h : WO m S v7 v8 w t) : m.obj w ≠ none := by obtain ⟨⟨y, e, r⟩, h⟩ := h; rw [e]; simp
theorem Pl.keep {m' : Mem} (h : Pl m0 m b n L S v7 v8) (K : Keeps m m') : Pl m0 m' b n L S v7 v8 := ⟨h.C.keep K, h.K.keep K, h.T.keep K, fun e he => by
  obtain ⟨w, e1, e2⟩ := h.W e he
  exact ⟨w, e1, e2.keep K⟩, h.d7, h.d8, h.d78, h.O.keep K, h.f7, h.f8⟩
theorem Pl.len (h : Pl m0 m b n L S v7 v8) : (L.length : Int) ≤ n ∧ n ≤ 256 := by
  have h1 := h.C.ln
  rw [List.length_map] at h1
  exact ⟨h1, h.C.n2⟩
theorem Pl.nd (h : Pl m0 m b n L S v7 v8) : (keysE L).Nodup := by rw [← kv_fst]; exact h.C.nd
theorem Ca.fr {m' : Mem} {l : List (Key × Val)} {P : Nat → Prop} (h : Ca m b n l S) (F : Fr P m m') (hP : ∀ x, S x → ¬ P x) : Ca m' b n l S := by
  obtain ⟨bm, v, es, w, e⟩ := h
  subst e
  exact ⟨bm, v, es, ⟨w.li.fr F (hP b (.inl rfl)) fun x hx => hP x (.inr (.inr hx)), w.mp.fr F (hP bm (.inr (.inl rfl))), w.pm, w.nd, w.ln, w.n1, w.n2, w.vo⟩, rfl⟩
/-- behind a step of the cache: the rows and words as they were -/
structure Mid (m0 m : Mem) (b : Nat) (n : Int) (l : List (Key × Val)) (L : List Ent) (S : Nat → Prop) (v7 v8 : AV) : Prop where
  C : Ca m b n l S
  K : IsX KeyC m 3 v7 (keysE L)
  T : IsX TagC m 1 v8 (tagsE L)
  W : ∀ e ∈ L, ∃ w, e.2.1 1 = .sl w 0 1 (.ex 1) ∧ WO m S v7 v8 w e.2.2
  d7 : ∀ x, own v7 x → ¬ S x
  d8 : ∀ x, own v8 x → ¬ S x
  d78 : ∀ x, own v7 x → ¬ own v8 x
  O : Own m0 m S
  f7 : ∀ x, own v7 x → m0.obj x = none
  f8 : ∀ x, own v8 x → m0.obj x = none
theorem Pl.mid (h : Pl m0 m b n L S v7 v8) : Mid m0 m b n (L.map kv) L S v7 v8 := ⟨h.C, h.K, h.T, h.W, h.d7, h.d8, h.d78, h.O, h.f7, h.f8⟩
theorem WO.stp {m' : Mem} {S' : Nat → Prop} {w : Nat} {t : Int} (h : WO m S v7 v8 w t) (s : Stp S S' m m') : WO m' S' v7 v8 w t := by
  have hl := h.live
  obtain ⟨⟨y, e, r⟩, h1, h2, h3⟩ := h
  exact ⟨⟨y, by rw [s.fr w hl h1]; exact e, r⟩, fun hx => (s.ft w hx).elim h1 hl, h2, h3⟩
theorem Mid.stp {m' : Mem} {S' : Nat → Prop} {l l' : List (Key × Val)} (h : Mid m0 m b n l L S v7 v8) (s : Stp S S' m m') (C : Ca m' b n l' S') : Mid m0 m' b n l' L S' v7 v8 :=
  ⟨C, h.K.fr s.fr h.d7, h.T.fr s.fr h.d8, fun e he => by
    obtain ⟨w, e1, e2⟩ := h.W e he
    exact ⟨w, e1, e2.stp s⟩, fun x hx hs => (s.ft x hs).elim (h.d7 x hx) (h.K.live hx), fun x hx hs => (s.ft x hs).elim (h.d8 x hx) (h.T.live hx), h.d78, h.O.stp s, h.f7, h.f8⟩
theorem Mid.keep {m' : Mem} {l : List (Key × Val)} (h : Mid m0 m b n l L S v7 v8) (K : Keeps m m') : Mid m0 m' b n l L S v7 v8 := ⟨h.C.keep K, h.K.keep K, h.T.keep K, fun e he => by
  obtain ⟨w, e1, e2⟩ := h.W e he
  exact ⟨w, e1, e2.keep K⟩, h.d7, h.d8, h.d78, h.O.keep K, h.f7, h.f8⟩
/-- the rows are new ones -/
theorem Mid.rows {m1 m2 : Mem} {l : List (Key × Val)} {L' : List Ent} {v7' v8' : AV} (h : Mid m0 m b n l L S v7 v8) (hs : ∀ e ∈ L', e ∈ L) (K1 : Keeps m m1) (g7 : IsX KeyC m1 3 v7' (keysE L')) (o7 : ∀ x, own v7' x → m.obj x = none)
    (K2 : Keeps m1 m2) (g8 : IsX TagC m2 1 v8' (tagsE L')) (o8 : ∀ x, own v8' x → m1.obj x = none) : Mid m0 m2 b n l L' S v7' v8' := by
  have K := K1.trans K2
  refine ⟨h.C.keep K, g7.keep K2, g8, fun e he => ?_, fun x hx hS => h.C.live hS (o7 x hx), fun x hx hS => (h.C.keep K1).live hS (o8 x hx), fun x h7 h8 => g7.live h7 (o8 x h8), h.O.keep K, fun x hx => newK_none h.O.K (o7 x hx), fun x hx => newK_none (h.O.K.trans K1) (o8 x hx)⟩
  obtain ⟨w, e1, e2⟩ := h.W e (hs e he)
  refine ⟨w, e1, (e2.keep K).1, e2.2.1, fun hx => e2.live (o7 w hx), fun hx => (e2.keep K1).live (o8 w hx)⟩
/-- a key and a tag put behind -/
theorem two_add {l : List (Key × Val)} (h : Mid m0 m b n l L S v7 v8) (hl : L.length ≤ 900) {kb : Nat} {key : Key} (hkb : KeyB m kb key) (hs : ¬ S kb) (h7 : ¬ own v7 kb) {v1 v5 : AV} {x6 x9 : Int} (hx9 : 0 ≤ x9 ∧ x9 < 1000) {val : Val} {w : Nat} (hw : val 1 = .sl w 0 1 (.ex 1)) (hW : WO m S v7 v8 w x9)
    (hl2 : l = (L ++ [(key, val, x9)]).map kv) {kn : AV → AV → Mem → Prop} (hk : ∀ v7' v8' m', Pl m0 m' b n (L ++ [(key, val, x9)]) S v7' v8' → kn v7' v8' m') : P16_23002 v1 v5 x6 v7 v8 x9 kb 0 m kn := by
  unfold P16_23002
  refine hkb.lg fun c194 h194 => ?_
  refine add_x keyRC h.K (by rw [List.length_map]; omega) (by decide) rfl (h194.congr fun j hj => ?_) fun v7' m2 g7 F7 o7 => ?_
  · unfold splice; rw [if_pos (by omega)]; congr 1
  have wx : IntKind.wrap .u32 x9 = x9 := by rw [wrap32]; omega
  rw [wx]
  have C2 := h.C.fr F7 fun x hS ho => h.d7 x ho hS
  have T2 : IsX TagC m2 1 v8 (tagsE L) := h.T.fr F7 fun x h8 h7 => h.d78 x h7 h8
  have d72 : ∀ x, own v7' x → ¬ S x := fun x hx hS => (o7 x hx).elim (fun h1 => h.d7 x h1 hS) (h.C.live hS)
  have d782 : ∀ x, own v7' x → ¬ own v8 x := fun x hx h8 => (o7 x hx).elim (fun h1 => h.d78 x h1 h8) (h.T.live h8)
  have K2 : Keeps m0 m2 := Fr.keeps h.O.K F7 h.f7
  have f72 : ∀ x, own v7' x → m0.obj x = none := fun x hx => (o7 x hx).elim (h.f7 x) (newK_none h.O.K)
  refine add_x tagRC T2 (by rw [List.length_map]; omega) (by decide) rfl (x := x9) ?_ fun v8' m3 g8 F8 o8 => hk v7' v8' m3 ?_
  · exact upd_eq _ _ _
  have K3 : Keeps m0 m3 := Fr.keeps K2 F8 h.f8
  have wo : ∀ u t, WO m S v7 v8 u t → WO m3 S v7' v8' u t := fun u t hu => by
    have hl := hu.live
    obtain ⟨⟨y, e, r⟩, h1, h2, h3⟩ := hu
    have e2 : m2.obj u = some y := (F7 u hl h2).trans e
    exact ⟨⟨y, (F8 u (by rw [e2]; simp) h3).trans e2, r⟩, h1, fun hx => (o7 u hx).elim h2 hl, fun hx => (o8 u hx).elim h3 (by rw [e2]; simp)⟩
  refine ⟨?_, ?_, ?_, fun e he => ?_, d72, fun x hx hS => (o8 x hx).elim (fun h1 => h.d8 x h1 hS) (C2.live hS), fun x h7 h8 => (o8 x h8).elim (d782 x h7) (g7.live h7), ⟨K3, h.O.f⟩, f72, fun x hx => (o8 x hx).elim (h.f8 x) (newK_none K2)⟩
  · rw [← hl2]; exact C2.fr F8 fun x hS ho => h.d8 x ho hS
  · unfold keysE; rw [List.map_append]
    exact g7.fr F8 d782
  · unfold tagsE; rw [List.map_append]
    exact g8
  · rcases List.mem_append.1 he with h1 | h1
    · obtain ⟨u, e1, e2⟩ := h.W e h1
      exact ⟨u, e1, wo u _ e2⟩
    · simp only [List.mem_singleton] at h1
      subst h1
      exact ⟨w, hw, wo w _ hW⟩

/-! ### the checks behind each round -/
theorem cnt_loop {v1 v5 : AV} {x6 x9 : Int} (h : IsX KeyC m 3 v7 (keysE L)) (hu : ∀ e ∈ L, isU e.1.a) (hl : L.length ≤ 1000) {k7 : Int → Mem → Prop} (hk : k7 (cnt 1 (L.map kv)) m) : ∀ (j i : Nat), i + j = L.length → L16_55 v1 v5 x6 v7 v8 x9 (j + 1) (cnt 1 ((L.map kv).take i)) i m k7
  | 0, i, e => by
    show R16_55 _ _ _ _ _ _ _ _ _ _ _
    unfold R16_55
    rw [h.len, List.length_map]
    refine kif_f (by simp; omega) ?_
    rw [List.take_of_length_le (by rw [List.length_map]; omega)]
    exact hk
  | j + 1, i, e => by
    show R16_55 _ _ _ _ _ _ _ _ _ _ _
    unfold R16_55
    have hi : i < L.length := by omega
    have hin : L[i] ∈ L := List.getElem_mem hi
    have hua := hu _ hin
    rw [h.len, List.length_map, wrap64 (n := (i : Int) + 1) (by omega) (by omega), wrap64 (n := ((cnt 1 ((L.map kv).take i) : Nat) : Int) + 1) (by omega) (by have := cnt_split 1 ((L.map kv).take i); rw [List.length_take, List.length_map] at this; omega)]
    obtain ⟨c, hL, hC⟩ := h
    have hc0 : c (i * 3) = .flat (.int .u32 L[i].1.a) := by
      have := (hC i (by rw [List.length_map]; exact hi)).1
      rw [List.getElem_map] at this
      exact this
    refine kif_t (by simp; omega) (ix_r (k := fun b' o' => ldI .u32 m b' (o' + 0) fun x => kif ((IntKind.wrap .u32 (x.tdiv 1024)) == 1) _ _) hL.r (i := (i : Int)) (by omega) (by rw [List.length_map]; omega) fun b' o' y _ ey ho hcy => ?_)
    rw [ldI_of (n := L[i].1.a) ey (by omega) (by have := hcy 0 (by decide); rw [this, Int.toNat_natCast, Nat.add_zero]; exact hc0), Int.tdiv_eq_ediv_of_nonneg hua.1, wrap32, Int.emod_eq_of_lt (by have := hua.1; omega) (by have := hua.2; have := hua.1; omega)]
    have hpg : pg ((L.map kv)[i]'(by rw [List.length_map]; exact hi)) = L[i].1.a / 1024 := by rw [List.getElem_map]; rfl
    refine kif_c _ (fun c1 => ?_) fun c1 => ?_
    · have c1 : L[i].1.a / 1024 = 1 := by simpa using c1
      have := cnt_loop (v1 := v1) (v5 := v5) (x6 := x6) (x9 := x9) ⟨c, hL, hC⟩ hu hl hk j (i + 1) (by omega)
      rw [cnt_take 1 (L.map kv) i (by rw [List.length_map]; exact hi), if_pos (hpg.trans c1)] at this
      exact this
    · have c1 : ¬ L[i].1.a / 1024 = 1 := by simpa using c1
      have := cnt_loop (v1 := v1) (v5 := v5) (x6 := x6) (x9 := x9) ⟨c, hL, hC⟩ hu hl hk j (i + 1) (by omega)
      rw [cnt_take 1 (L.map kv) i (by rw [List.length_map]; exact hi), if_neg (by rw [hpg]; exact c1)] at this
      exact this
theorem keys_loop {va vb : AV} {ks : List Key} (ha : IsK m va ks) (hb : IsK m vb ks) (hl : ks.length ≤ 1000) {k0 : Mem → Prop} {kr : Bool → Mem → Prop} (hk : k0 m) : ∀ j i : Nat, i + j = ks.length → L23_4 va vb (j + 1) i m k0 kr
  | 0, i, e => by
    show R23_4 _ _ _ _ _ _ _
    unfold R23_4
    rw [ha.len]
    exact kif_f (by simp; omega) hk
  | j + 1, i, e => by
    show R23_4 _ _ _ _ _ _ _
    unfold R23_4
    rw [ha.len, wrap64 (by omega) (by omega)]
    refine kif_t (by simp; omega) (ha.ld i (by omega) fun c8 h8 => hb.ld i (by omega) fun c13 h13 => ?_)
    rw [geq_key h8 h13]
    exact kif_f (by simp) (keys_loop ha hb hl hk j (i + 1) (by omega))
theorem check22 {v1 : AV} {x9 : Int} (h : Pl m0 m b n L S v7 v8) {kr : Bool → Mem → Prop} {kn : Mem → Prop} (hk : ∀ m', Pl m0 m' b n L S v7 v8 → kn m') : P16_53102 v1 (.ptr b 0) n v7 v8 x9 m kr kn := by
  unfold P16_53102
  obtain ⟨l1, l2⟩ := h.len
  have hu : ∀ e ∈ L, isU e.1.a := fun e he => (h.C.vo (kv e) (List.mem_map.2 ⟨e, he, rfl⟩)).2
  refine ⟨L.length + 1, cnt_loop h.K hu (by omega) ?_ L.length 0 (by omega)⟩
  dsimp only [kptr]
  refine len_spec h.C ?_
  rw [h.K.len, List.length_map, List.length_map]
  refine kif_f (by simp) ?_
  unfold F24
  simp only [Nat.zero_add]
  obtain ⟨bm, v, es, w, eS⟩ := id h.C
  rw [w.li.l1]
  refine clone_spec w.li.ks (by rw [List.length_map, List.length_map]; omega) fun v238 m3 g3 K3 o3 => ?_
  rw [kv_fst] at g3
  have h3 := h.keep K3
  unfold F23
  rw [g3.len, h3.K.len]
  refine kif_f (by simp) ⟨(keysE L).length + 1, keys_loop g3 h3.K (by rw [List.length_map]; omega) ⟨Keeps.self m3, ?_⟩ (keysE L).length 0 (by omega)⟩
  refine kif_f rfl (on22 h3.C (kif_f (by simp) (hk m3 h3)))
end
end Go.Proofs.Ytjeijigchdnblaa.Am
