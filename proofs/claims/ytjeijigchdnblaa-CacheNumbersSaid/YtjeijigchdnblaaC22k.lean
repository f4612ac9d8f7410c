/- Law 22's play: a round. Conditions: none of its own. -/
import Derived.Test.YtjeijigchdnblaaC22j
namespace Go.Proofs.Ytjeijigchdnblaa.Am
set_option linter.unusedVariables false
set_option linter.unusedSimpArgs false
set_option maxRecDepth 100000

section
variable {m0 m : Mem} {b : Nat} {n : Int} {L : List Ent} {S : Nat → Prop} {v7 v8 : AV}
theorem ksl_ix {b o : Nat} {p : Cap} {k : Nat → Nat → Nat → Cap → Prop} (h : k b o 1 p) : ksl (.sl b o 1 p) fun b o l p => kif (decide (0 ≤ (0 : Int)) && decide ((0 : Int) < l)) (k b o l p) False := h
theorem klen1 {b o : Nat} {p : Cap} {A B : Prop} (h : B) : klen (.sl b o 1 p) fun x => kif (x != 1) A B := h
theorem KeyB.l0 {kb : Nat} {x : Key} (h : KeyB m kb x) (k : Int → Prop) : ldI .u32 m kb 0 k = k x.a := by
  obtain ⟨y, e, hn, hr, hc⟩ := h
  exact ldI_of e (by omega) hc.1
/-- a key's box, apart from all -/
structure Box (m : Mem) (S : Nat → Prop) (v7 v8 : AV) (kb : Nat) (key : Key) : Prop where
  k : KeyB m kb key
  s : ¬ S kb
  o7 : ¬ own v7 kb
  o8 : ¬ own v8 kb
theorem Box.stp {m' : Mem} {S' : Nat → Prop} {kb : Nat} {key : Key} (h : Box m S v7 v8 kb key) (s : Stp S S' m m') : Box m' S' v7 v8 kb key := ⟨h.k.fr s.fr h.s, fun hx => (s.ft kb hx).elim h.s h.k.live, h.o7, h.o8⟩
theorem Box.keep {m' : Mem} {kb : Nat} {key : Key} (h : Box m S v7 v8 kb key) (K : Keeps m m') : Box m' S v7 v8 kb key := ⟨h.k.keep K, h.s, h.o7, h.o8⟩
theorem Mid.rows2 {m2 : Mem} {l : List (Key × Val)} {L' : List Ent} {v7' v8' : AV} (h : Mid m0 m b n l L S v7 v8) (hs : ∀ e ∈ L', e ∈ L) (K : Keeps m m2) (g7 : IsX KeyC m2 3 v7' (keysE L')) (o7 : ∀ x, own v7' x → m.obj x = none)
    (g8 : IsX TagC m2 1 v8' (tagsE L')) (o8 : ∀ x, own v8' x → m.obj x = none) (d : ∀ x, own v7' x → ¬ own v8' x) : Mid m0 m2 b n l L' S v7' v8' := by
  refine ⟨h.C.keep K, g7, g8, fun e he => ?_, fun x hx hS => h.C.live hS (o7 x hx), fun x hx hS => h.C.live hS (o8 x hx), d, h.O.keep K, fun x hx => newK_none h.O.K (o7 x hx), fun x hx => newK_none h.O.K (o8 x hx)⟩
  obtain ⟨w, e1, e2⟩ := h.W e (hs e he)
  exact ⟨w, e1, (e2.keep K).1, e2.2.1, fun hx => e2.live (o7 w hx), fun hx => e2.live (o8 w hx)⟩
theorem Mid.pl {l : List (Key × Val)} (h : Mid m0 m b n l L S v7 v8) (e : l = L.map kv) : Pl m0 m b n L S v7 v8 := ⟨e ▸ h.C, h.K, h.T, h.W, h.d7, h.d8, h.d78, h.O, h.f7, h.f8⟩
theorem rm_kv (nd : (keysE L).Nodup) {t : Nat} (ht : t < L.length) {key : Key} (e : L[t].1 = key) : rm (L.map kv) key = (L.eraseIdx t).map kv := by
  rw [map_erase]
  exact filter_erase Prod.fst key (L.map kv) t (by rw [List.length_map]; exact ht) (by rw [kv_fst]; exact nd) (by rw [List.getElem_map]; exact e)
theorem get_br (h : Pl m0 m b n L S v7 v8) {kb : Nat} {key : Key} (B : Box m S v7 v8 kb key) {at' : Int} (hf : Fd L key at') {v1 : AV} {x9 x67 : Int} {kr : Bool → Mem → Prop} {kn : AV → AV → Mem → Prop} (hk : ∀ L' S' v7' v8' m', Pl m0 m' b n L' S' v7' v8' → kn v7' v8' m') :
    P16_26004 v1 (.ptr b 0) n v7 v8 x9 kb 0 at' x67 true m kr kn := by
  unfold P16_26004
  obtain ⟨l1, l2⟩ := h.len
  refine kif_t rfl (B.k.lg fun c35 h35 => ?_)
  dsimp only [kptr]
  refine get22 h.C h35 (fun v c m3 S3 hin hc C3 s3 => ?_) fun hno c m3 C3 s3 => ?_
  · obtain ⟨t, ht, rfl, e2⟩ : ∃ t : Nat, ∃ h : t < L.length, at' = t ∧ L[t].1 = key := by
      rcases hf with ⟨_, h2⟩ | h2
      · obtain ⟨e, he, e3⟩ := List.mem_map.1 hin
        exact absurd (congrArg Prod.fst e3) (h2 e he)
      · exact h2
    have hint : L[t] ∈ L := List.getElem_mem ht
    have hin2 : (key, L[t].2.1) ∈ L.map kv := List.mem_map.2 ⟨_, hint, by unfold kv; rw [e2]⟩
    have ev : v = L[t].2.1 := mem_unique h.C.nd hin hin2
    subst ev
    have vo := h.C.vo _ hin
    refine box_i fun b42 m43 y hb42 K42 ey yn yr yc => kif_f (by simp) (kif_t rfl ?_)
    have B3 := (B.stp s3).keep K42
    have M3 := (h.mid.stp s3 C3).keep K42
    obtain ⟨w, ew, hW⟩ := M3.W _ hint
    rw [ldI_of (n := key.a) ey (by omega) ((yc 0 (by decide)).trans ((hc 0 (by decide)).trans vo.1))]
    simp only [Nat.add_zero]
    rw [B3.k.l0]
    refine kif_f (by simp) ?_
    have y1 : y.c 1 = .sl w 0 1 (.ex 1) := (yc 1 (by decide)).trans ((hc 1 (by decide)).trans ew)
    rw [ldA_sl ey (by omega) y1]
    refine klen1 ?_
    rw [ldA_sl ey (by omega) y1]
    obtain ⟨⟨yw, eyw, ynw, yw0⟩, _⟩ := id hW
    refine ksl_ix ?_
    rw [ldI_of eyw (by omega) yw0]
    refine tag_ld M3.T ht (kif_f (by simp) ?_)
    subst e2
    refine used22 M3 (by omega) ht B3.k ?_ fun v7' v8' m' g => hk _ _ _ _ _ g
    rw [rm_kv h.nd ht rfl, List.map_append]; rfl
  · have hn : at' = -1 := by
      rcases hf with ⟨h1, _⟩ | ⟨t, ht, _, h2⟩
      · exact h1
      · exact absurd (by rw [kv_fst]; exact List.mem_map.2 ⟨_, List.getElem_mem ht, h2⟩) hno
    subst hn
    refine box_i fun b42 m43 y hb42 K42 ey yn yr yc => kif_f rfl (kif_f rfl ?_)
    unfold P16_29102
    exact kif_f rfl (hk _ _ _ _ _ (((h.mid.stp s3 C3).keep K42).pl rfl))
theorem tail_kv (L : List Ent) : (L.map kv).tail = L.tail.map kv := by cases L <;> rfl
theorem evict_br (h : Pl m0 m b n L S v7 v8) {kr : Bool → Mem → Prop} {kn : AV → AV → Mem → Prop} (hk : ∀ L' S' v7' v8' m', Pl m0 m' b n L' S' v7' v8' → kn v7' v8' m') :
    F18 b 0 m fun x140 m141 => klen v7 fun x142 => kif (!(x140 == (decide (x142 > 0)))) (kr false m141) (klen v7 fun x143 => kif (decide (x143 > 0)) (∃ Fr144 : Nat → Prop, newK m141 ⟨0, lget [], 28, false⟩ fun b146 m145 => slS 3 v7 (some 1) none fun v147 => appS 3 24 28 (.sl b146 0 0 (.ex 0)) v147 m145 fun v148 m149 => KeepsIn Fr144 m145 m149 ∧ (newK m149 ⟨0, lget [], 26, false⟩ fun b151 m150 => slS 1 v8 (some 1) none fun v152 => appS 1 4 26 (.sl b151 0 0 (.ex 0)) v152 m150 fun v153 m154 => KeepsIn Fr144 m150 m154 ∧ (kn v148 v153 m154))) (kn v7 v8 m141)) := by
  obtain ⟨l1, l2⟩ := h.len
  refine evict_spec h.C (fun e => ?_) fun e l2' el m5 S5 C5 s5 => ?_
  · have e : L = [] := List.map_eq_nil_iff.1 e
    rw [h.K.len, h.K.len]
    subst e
    exact kif_f rfl (kif_f rfl (hk _ _ _ _ _ h))
  · have M5 := h.mid.stp s5 C5
    have hpos : 0 < L.length := by
      cases L with
      | nil => cases el
      | cons x L => simp
    rw [M5.K.len, M5.K.len, List.length_map]
    refine kif_f (by simp; omega) (kif_t (by simp; omega) ⟨fun _ => False, ?_⟩)
    refine tail_x keyRC M5.K (by rw [List.length_map]; omega) (by decide) (by rw [List.length_map]; exact hpos) (fun x e => e.elim) fun v148 m6 g6 K6 o6 => tail_x tagRC (M5.T.keep K6) (by rw [List.length_map]; omega) (by decide) (by rw [List.length_map]; exact hpos) (fun x e => e.elim) fun v153 m7 g7 K7 o7 => hk L.tail S5 v148 v153 m7 ?_
    refine (M5.rows (L' := L.tail) (fun e he => List.mem_of_mem_tail he) K6 (by unfold keysE; rw [List.map_tail]; exact g6) o6 K7 (by unfold tagsE; rw [List.map_tail]; exact g7) o7).pl ?_
    rw [← tail_kv, el]; rfl
theorem put_br (h : Pl m0 m b n L S v7 v8) {kb : Nat} {key : Key} (B : Box m S v7 v8 kb key) (hu : isU key.a) {at' : Int} (hf : Fd L key at') {v1 : AV} {x9 : Int} (hx9 : 0 ≤ x9 ∧ x9 < 1000) {kn : AV → AV → Mem → Prop} (hk : ∀ L' S' v7' v8' m', Pl m0 m' b n L' S' v7' v8' → kn v7' v8' m') :
    ldG 3 m kb 0 fun c158 => ldI .u32 m kb (0 + 0) fun x159 => newK m ⟨1, upd (lget [(.flat (.int .u32 0))]) 0 (.flat (.int .u32 (IntKind.wrap .u32 x9))), 26, false⟩ fun b161 m160 => F9 b 0 c158 (upd (upd (lget [(.flat (.int .u32 0)), (.flat (.slice none 0 0)), (.flat (.slice none 0 0)), (.flat (.slice none 0 0))]) 0 (.flat (.int .u32 x159))) 1 (.sl b161 0 1 (.ex 1))) m160 fun m164 => kif (decide (at' ≥ 0)) (∃ Fr165 : Nat → Prop, newK m164 ⟨0, lget [], 28, false⟩ fun b167 m166 => slS 3 v7 none (some at') fun v168 => appS 3 24 28 (.sl b167 0 0 (.ex 0)) v168 m166 fun v169 m170 => KeepsIn Fr165 m166 m170 ∧ (slS 3 v7 (some (IntKind.wrap .i64 (at' + 1))) none fun v171 => appS 3 24 28 v169 v171 m170 fun v172 m173 => KeepsIn Fr165 m170 m173 ∧ (newK m173 ⟨0, lget [], 26, false⟩ fun b175 m174 => slS 1 v8 none (some at') fun v176 => appS 1 4 26 (.sl b175 0 0 (.ex 0)) v176 m174 fun v177 m178 => KeepsIn Fr165 m174 m178 ∧ (slS 1 v8 (some (IntKind.wrap .i64 (at' + 1))) none fun v179 => appS 1 4 26 v177 v179 m178 fun v180 m181 => KeepsIn Fr165 m178 m181 ∧ (P16_23002 v1 (.ptr b 0) n v172 v180 x9 kb 0 m181 (fun v203 v204 m205 => kn v203 v204 m205)))))) (klen v7 fun x182 => kif (decide (x182 ≥ n)) (∃ Fr183 : Nat → Prop, newK m164 ⟨0, lget [], 28, false⟩ fun b185 m184 => slS 3 v7 (some 1) none fun v186 => appS 3 24 28 (.sl b185 0 0 (.ex 0)) v186 m184 fun v187 m188 => KeepsIn Fr183 m184 m188 ∧ (newK m188 ⟨0, lget [], 26, false⟩ fun b190 m189 => slS 1 v8 (some 1) none fun v191 => appS 1 4 26 (.sl b190 0 0 (.ex 0)) v191 m189 fun v192 m193 => KeepsIn Fr183 m189 m193 ∧ (P16_23002 v1 (.ptr b 0) n v187 v192 x9 kb 0 m193 (fun v206 v207 m208 => kn v206 v207 m208)))) (P16_23002 v1 (.ptr b 0) n v7 v8 x9 kb 0 m164 (fun v209 v210 m211 => kn v209 v210 m211))) := by
  obtain ⟨l1, l2⟩ := h.len
  refine B.k.lg fun c158 h158 => ?_
  rw [B.k.l0]
  refine newK_i fun b161 m160 hb161 K160 e161 O160 => ?_
  have wx : IntKind.wrap .u32 x9 = x9 := by rw [wrap32]; omega
  have ew0 : upd (lget [(.flat (.int .u32 0))]) 0 (.flat (.int .u32 (IntKind.wrap .u32 x9))) 0 = .flat (.int .u32 x9) := by rw [upd_eq, wx]
  have M0 := h.mid.keep K160
  have B0 := B.keep K160
  have hW0 : WO m160 S v7 v8 b161 x9 := ⟨⟨_, e161, Nat.le_refl _, ew0⟩, fun hs => h.C.live hs hb161, fun hs => h.K.live hs hb161, fun hs => h.T.live hs hb161⟩
  refine put22 M0.C h158 (c2 := upd (upd (lget [(.flat (.int .u32 0)), (.flat (.slice none 0 0)), (.flat (.slice none 0 0)), (.flat (.slice none 0 0))]) 0 (.flat (.int .u32 key.a))) 1 (.sl b161 0 1 (.ex 1))) ⟨rfl, hu⟩ fun m164 S4 C4 s4 => ?_
  generalize hval : sub (upd (upd (lget [(.flat (.int .u32 0)), (.flat (.slice none 0 0)), (.flat (.slice none 0 0)), (.flat (.slice none 0 0))]) 0 (.flat (.int .u32 key.a))) 1 (.sl b161 0 1 (.ex 1))) 0 4 = val at C4
  have hv1 : val 1 = .sl b161 0 1 (.ex 1) := by rw [← hval]; rfl
  have M4 := M0.stp s4 C4
  have B4 := B0.stp s4
  have hW4 := hW0.stp s4
  rcases hf with ⟨rfl, hno⟩ | ⟨t, ht, rfl, e2⟩
  · have hni : key ∉ (L.map kv).map Prod.fst := by
      rw [kv_fst]; intro hm
      obtain ⟨e, he, e3⟩ := List.mem_map.1 hm
      exact hno e he e3
    refine kif_f (by decide) ?_
    rw [M4.K.len, List.length_map]
    refine kif_c _ (fun c => ?_) fun c => ?_
    · have c : (L.length : Int) ≥ n := by simpa using c
      have hn1 : 1 ≤ n := by obtain ⟨bm, v, es, w, _⟩ := h.C; exact w.n1
      have hpos : 0 < L.length := by omega
      have e4 : putL n (L.map kv) key val = (L.tail ++ [(key, val, x9)]).map kv := by
        unfold putL
        rw [if_neg hni, if_pos (by rw [List.length_map]; exact c), tail_kv, rm_no (fun hm => hni ?_), List.map_append]; rfl
        rw [← tail_kv] at hm
        obtain ⟨e, he, e3⟩ := List.mem_map.1 hm
        exact List.mem_map.2 ⟨e, List.mem_of_mem_tail he, e3⟩
      refine ⟨fun _ => False, tail_x keyRC M4.K (by rw [List.length_map]; omega) (by decide) (by rw [List.length_map]; exact hpos) (fun x e => e.elim) fun v187 m6 g6 K6 o6 => tail_x tagRC (M4.T.keep K6) (by rw [List.length_map]; omega) (by decide) (by rw [List.length_map]; exact hpos) (fun x e => e.elim) fun v192 m7 g7 K7 o7 => ?_⟩
      have M7 := M4.rows (L' := L.tail) (fun e he => List.mem_of_mem_tail he) K6 (by unfold keysE; rw [List.map_tail]; exact g6) o6 K7 (by unfold tagsE; rw [List.map_tail]; exact g7) o7
      have hW7 := hW4.keep (K6.trans K7)
      exact two_add M7 (by rw [List.length_tail]; omega) ((B4.k.keep K6).keep K7) B4.s (fun hx => B4.k.live (o6 _ hx)) hx9 hv1 ⟨hW7.1, hW7.2.1, fun hx => hW4.live (o6 _ hx), fun hx => (hW4.keep K6).live (o7 _ hx)⟩ e4 fun v7' v8' m' g => hk _ _ _ _ _ g
    · have c : ¬ (L.length : Int) ≥ n := by simpa using c
      have e4 : putL n (L.map kv) key val = (L ++ [(key, val, x9)]).map kv := by
        unfold putL
        rw [if_neg hni, if_neg (by rw [List.length_map]; exact c), rm_no hni, List.map_append]; rfl
      exact two_add M4 (by omega) B4.k B4.s B4.o7 hx9 hv1 hW4 e4 fun v7' v8' m' g => hk _ _ _ _ _ g
  · have hin : key ∈ (L.map kv).map Prod.fst := by rw [kv_fst]; exact List.mem_map.2 ⟨_, List.getElem_mem ht, e2⟩
    have e4 : putL n (L.map kv) key val = (L.eraseIdx t ++ [(key, val, x9)]).map kv := by
      unfold putL
      rw [if_pos hin, rm_kv h.nd ht e2, List.map_append]; rfl
    have w1 : IntKind.wrap .i64 ((t : Int) + 1) = (t : Int) + 1 := wrap64 (by omega) (by omega)
    refine kif_t (by simp) ⟨fun _ => False, erase_x keyRC M4.K (by rw [List.length_map]; omega) (by decide) (by rw [List.length_map]; exact ht) w1 (fun x e => e.elim) fun v172 m6 g6 K6 o6 => erase_x tagRC (M4.T.keep K6) (by rw [List.length_map]; omega) (by decide) (by rw [List.length_map]; exact ht) w1 (fun x e => e.elim) fun v180 m7 g7 K7 o7 => ?_⟩
    have M7 := M4.rows (L' := L.eraseIdx t) (fun e he => List.mem_of_mem_eraseIdx he) K6 (by unfold keysE; rw [map_erase]; exact g6) o6 K7 (by unfold tagsE; rw [map_erase]; exact g7) o7
    have hW7 := hW4.keep (K6.trans K7)
    exact two_add M7 (by rw [List.length_eraseIdx]; split <;> omega) ((B4.k.keep K6).keep K7) B4.s (fun hx => B4.k.live (o6 _ hx)) hx9 hv1 ⟨hW7.1, hW7.2.1, fun hx => hW4.live (o6 _ hx), fun hx => (hW4.keep K6).live (o7 _ hx)⟩ e4 fun v7' v8' m' g => hk _ _ _ _ _ g
end
end Go.Proofs.Ytjeijigchdnblaa.Am
