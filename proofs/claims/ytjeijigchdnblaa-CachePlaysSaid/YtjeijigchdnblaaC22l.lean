/- Law 22's play: drop and flush, a round's middle. Conditions: none of its own. -/
import Derived.Test.YtjeijigchdnblaaC22k
namespace Go.Proofs.Ytjeijigchdnblaa.Am
set_option linter.unusedVariables false
set_option linter.unusedSimpArgs false
set_option maxRecDepth 100000

section
variable {m0 m : Mem} {b : Nat} {n : Int} {L : List Ent} {S : Nat → Prop} {v7 v8 : AV}
/-- two rows of one's own that grow -/
structure FI (m m' : Mem) (LF : List Ent) (v16 v17 : AV) : Prop where
  K : Keeps m m'
  g7 : IsX KeyC m' 3 v16 (keysE LF)
  g8 : IsX TagC m' 1 v17 (tagsE LF)
  o7 : ∀ x, own v16 x → m.obj x = none
  o8 : ∀ x, own v17 x → m.obj x = none
  d : ∀ x, own v16 x → ¬ own v17 x
def fE (p : Int) (L : List Ent) : List Ent := L.filter fun e => decide (e.1.a / 1024 ≠ p)
theorem fE_kv (p : Int) (L : List Ent) : (fE p L).map kv = (L.map kv).filter fun e => decide (pg e ≠ p) := by
  unfold fE
  rw [List.filter_map]; rfl
theorem fE_take (p : Int) (L : List Ent) (i : Nat) (h : i < L.length) : fE p (L.take (i + 1)) = if L[i].1.a / 1024 ≠ p then fE p (L.take i) ++ [L[i]] else fE p (L.take i) := by
  unfold fE
  rw [List.take_succ_eq_append_getElem h, List.filter_append]
  by_cases c : L[i].1.a / 1024 ≠ p
  · rw [if_pos c, List.filter_cons_of_pos (by simpa using c)]; rfl
  · rw [if_neg c, List.filter_cons_of_neg (by simpa using c)]; simp
theorem dropE_loop {v1 v5 : AV} {x6 x9 : Int} {p : Int} (hK : IsX KeyC m 3 v7 (keysE L)) (hT : IsX TagC m 1 v8 (tagsE L)) (hu : ∀ e ∈ L, isU e.1.a) (hl : L.length ≤ 900) {k5 : AV → AV → Mem → Prop} (hk : ∀ v16 v17 m', FI m m' (fE p L) v16 v17 → k5 v16 v17 m') : ∀ (j i : Nat) (v16 v17 : AV) (m' : Mem), i + j = L.length → FI m m' (fE p (L.take i)) v16 v17 → L16_37 v1 v5 x6 v7 v8 x9 p (j + 1) v16 v17 i m' k5
  | 0, i, v16, v17, m', e, I => by
    show R16_37 _ _ _ _ _ _ _ _ _ _ _ _ _
    unfold R16_37
    rw [hK.len, List.length_map]
    refine kif_f (by simp; omega) (hk v16 v17 m' ?_)
    rw [List.take_of_length_le (by omega)] at I
    exact I
  | j + 1, i, v16, v17, m', e, I => by
    show R16_37 _ _ _ _ _ _ _ _ _ _ _ _ _
    unfold R16_37
    have hi : i < L.length := by omega
    have hin : L[i] ∈ L := List.getElem_mem hi
    have hua := hu _ hin
    have hfl : (fE p (L.take i)).length ≤ L.length := by
      unfold fE
      exact Nat.le_trans (List.length_filter_le _ _) (by rw [List.length_take]; omega)
    have hK' := hK.keep I.K
    have hT' := hT.keep I.K
    rw [hK.len, List.length_map, wrap64 (n := (i : Int) + 1) (by omega) (by omega)]
    obtain ⟨c, hL, hC⟩ := id hK'
    have hci := hC i (by rw [List.length_map]; exact hi)
    rw [List.getElem_map] at hci
    refine kif_t (by simp; omega) (ix_r (k := fun b' o' => ldI .u32 m' b' (o' + 0) fun x => kif ((IntKind.wrap .i64 (IntKind.wrap .u32 (x.tdiv 1024))) != p) _ _) hL.r (i := (i : Int)) (by omega) (by rw [List.length_map]; omega) fun b' o' y _ ey ho hcy => ?_)
    rw [ldI_of (n := L[i].1.a) ey (by omega) (by have := hcy 0 (by decide); rw [this, Int.toNat_natCast, Nat.add_zero]; exact hci.1), Int.tdiv_eq_ediv_of_nonneg hua.1, wrap32, Int.emod_eq_of_lt (by have := hua.1; omega) (by have := hua.2; have := hua.1; omega), wrap64 (by have := hua.1; omega) (by have := hua.2; omega)]
    refine kif_c _ (fun c1 => ?_) fun c1 => ?_
    · have c1 : L[i].1.a / 1024 ≠ p := by simpa using c1
      refine ⟨fun x => own v7 x ∨ own v8 x, ix_r (k := fun b' o' => (own v7 b' ∨ own v8 b') ∧ ldG 3 m' b' o' _) hL.r (i := (i : Int)) (by omega) (by rw [List.length_map]; omega) fun b' o' y hob ey ho hcy => ⟨.inl hob, ?_⟩⟩
      rw [ldG_of ey ho]
      refine add_xF keyRC I.g7 (by rw [List.length_map]; omega) (by decide) rfl (x := L[i].1) (hci.congr fun j hj => ?_) (fun x e => ⟨?_, fun hx => ?_⟩) fun v117 m2 g2 F2 o2 => ?_
      · unfold splice; rw [if_pos (by omega)]
        unfold sub
        rw [Nat.sub_zero, if_pos (by omega), hcy j (by omega), Int.toNat_natCast]
      · exact e.elim hK'.live hT'.live
      · exact e.elim (fun h1 => hK.live h1 (I.o7 x hx)) fun h1 => hT.live h1 (I.o7 x hx)
      have K2 : Keeps m m2 := Fr.keeps I.K F2 I.o7
      obtain ⟨cT, hTL, hTC⟩ := id (hT.keep K2)
      have hti : cT (i * 1 + 0) = .flat (.int .u32 L[i].2.2) := by
        have := hTC i (by rw [List.length_map]; exact hi)
        rw [List.getElem_map] at this
        exact this
      refine ix_r (k := fun b' o' => (own v7 b' ∨ own v8 b') ∧ ldI .u32 m2 b' o' _) hTL.r (i := (i : Int)) (by omega) (by rw [List.length_map]; omega) fun b' o' y hob ey ho hcy => ⟨.inr hob, ?_⟩
      rw [ldI_of (n := L[i].2.2) ey (by omega) (by have := hcy 0 (by decide); rw [Nat.add_zero] at this; rw [this, Int.toNat_natCast]; exact hti)]
      have T2 : IsX TagC m2 1 v17 (tagsE (fE p (L.take i))) := I.g8.fr F2 fun x h8 h7 => I.d x h7 h8
      have hK2 := hK.keep K2
      have hT2 := hT.keep K2
      have o2' : ∀ x, own v117 x → m.obj x = none := fun x hx => (o2 x hx).elim (I.o7 x) (newK_none I.K)
      have d2 : ∀ x, own v117 x → ¬ own v17 x := fun x hx h8 => (o2 x hx).elim (fun h1 => I.d x h1 h8) (I.g8.live h8)
      refine add_xF tagRC T2 (by rw [List.length_map]; omega) (by decide) rfl (x := L[i].2.2) (upd_eq _ _ _) (fun x e => ⟨?_, fun hx => ?_⟩) fun v126 m3 g3 F3 o3 => ?_
      · exact e.elim hK2.live hT2.live
      · exact e.elim (fun h1 => hK.live h1 (I.o8 x hx)) fun h1 => hT.live h1 (I.o8 x hx)
      refine dropE_loop hK hT hu hl hk j (i + 1) v117 v126 m3 (by omega) ?_
      rw [fE_take p L i hi, if_pos c1]
      exact ⟨Fr.keeps K2 F3 I.o8, by unfold keysE; rw [List.map_append]; exact g2.fr F3 d2, by unfold tagsE; rw [List.map_append]; exact g3, o2', fun x hx => (o3 x hx).elim (I.o8 x) (newK_none K2), fun x h7 h8 => (o3 x h8).elim (d2 x h7) (g2.live h7)⟩
    · have c1 : ¬ L[i].1.a / 1024 ≠ p := by simpa using c1
      refine dropE_loop hK hT hu hl hk j (i + 1) v16 v17 m' (by omega) ?_
      rw [fE_take p L i hi, if_neg c1]; exact I
/-- what is asked: a row of five numbers each -/
def AsksR (m : Mem) (v : AV) (n : Nat) : Prop := ∃ c, IsR m 5 v n c ∧ ∀ i, i < n → ∃ kd pgv, AskC (fun j => c (i * 5 + j)) kd pgv
theorem AsksR.keep {m' : Mem} {v : AV} {n : Nat} (h : AsksR m v n) (K : Keeps m m') : AsksR m' v n := by
  obtain ⟨c, h1, h2⟩ := h; exact ⟨c, h1.keep K, h2⟩
theorem own_nil {x : Nat} (h : own (.flat (.slice none 0 0)) x) : False := h
theorem FI.nil (m : Mem) : FI m m [] (.flat (.slice none 0 0)) (.flat (.slice none 0 0)) := ⟨Keeps.self m, IsX.nil, IsX.nil, fun x hx => (own_nil hx).elim, fun x hx => (own_nil hx).elim, fun x hx => (own_nil hx).elim⟩
theorem drop_br (h : Pl m0 m b n L S v7 v8) {v1 : AV} {nA : Nat} (hA : AsksR m0 v1 nA) {i : Nat} (hi : i < nA) {kr : Bool → Mem → Prop} {kn : AV → AV → Mem → Prop} (hk : ∀ L' S' v7' v8' m', Pl m0 m' b n L' S' v7' v8' → kn v7' v8' m') :
    ksl v1 fun b96 o97 l98 p99 => kif (decide (0 ≤ (i : Int)) && decide ((i : Int) < l98)) (ldI .i64 m b96 (o97 + (i : Int).toNat * 5 + 3) fun x100 => F7 x100 (-1) 6 m fun x101 m102 => ∃ N131, L16_37 v1 (.ptr b 0) n v7 v8 i x101 N131 (.flat (.slice none 0 0)) (.flat (.slice none 0 0)) 0 m102 (fun v128 v129 m130 => kptr (.ptr b 0) fun b132 o133 => F14 b132 o133 x101 m130 fun x134 m135 => klen v7 fun x136 => klen v128 fun x137 => kif (x134 != (IntKind.wrap .i64 (x136 - x137))) (kr false m135) (kn v128 v129 m135))) False := by
  obtain ⟨l1, l2⟩ := h.len
  obtain ⟨c, hR, hC⟩ := hA.keep h.O.K
  obtain ⟨kd, pgv, hc⟩ := hC i hi
  refine ix_r (k := fun b' o' => ldI .i64 m b' (o' + 3) _) hR (i := (i : Int)) (by omega) (by omega) fun b' o' y _ ey ho hcy => ?_
  rw [ldI_of (n := pgv) ey (by omega) (by rw [hcy 3 (by decide), Int.toNat_natCast]; exact hc.h3.1)]
  have hu : ∀ e ∈ L, isU e.1.a := fun e he => (h.C.vo (kv e) (List.mem_map.2 ⟨e, he, rfl⟩)).2
  refine within22 (by decide) (by decide) (by decide) hc.h3.2.1 hc.h3.2.2 fun p p0 p1 => ⟨L.length + 1, dropE_loop h.K h.T hu (by omega) (fun v16 v17 m' I => ?_) L.length 0 _ _ m (by omega) (FI.nil m)⟩
  have hm := h.mid.rows2 (L' := fE p L) (fun e he => (List.mem_filter.1 he).1) I.K I.g7 I.o7 I.g8 I.o8 I.d
  dsimp only [kptr]
  refine drop22 hm.C fun m5 S5 C5 s5 => ?_
  rw [h.K.len, I.g7.len, List.length_map, List.length_map]
  have e1 := cnt_split p (L.map kv)
  rw [← fE_kv, List.length_map, List.length_map] at e1
  rw [wrap64 (by omega) (by omega)]
  refine kif_f (by simp; omega) (hk _ _ _ _ _ ((hm.stp s5 C5).pl ?_))
  exact (fE_kv p L).symm
theorem flush_br (h : Pl m0 m b n L S v7 v8) {kn : AV → AV → Mem → Prop} (hk : ∀ L' S' v7' v8' m', Pl m0 m' b n L' S' v7' v8' → kn v7' v8' m') :
    F15 b 0 m fun m157 => kn (.flat (.slice none 0 0)) (.flat (.slice none 0 0)) m157 := by
  refine flush22 h.C fun m' S' C' s' => hk [] S' _ _ m' ?_
  exact ⟨C', IsX.nil, IsX.nil, fun e he => by simp at he, fun x hx => (own_nil hx).elim, fun x hx => (own_nil hx).elim, fun x hx => (own_nil hx).elim, h.O.stp s', fun x hx => (own_nil hx).elim, fun x hx => (own_nil hx).elim⟩
theorem mid22 (h : Pl m0 m b n L S v7 v8) {kb : Nat} {key : Key} (B : Box m S v7 v8 kb key) (hu : isU key.a) {at' : Int} (hf : Fd L key at') {v1 : AV} {nA : Nat} (hA : AsksR m0 v1 nA) {i : Nat} (hi : i < nA) (hi2 : i < 1000) {x67 : Int} {q : Bool} {kr : Bool → Mem → Prop} {kn : AV → AV → Mem → Prop} (hk : ∀ L' S' v7' v8' m', Pl m0 m' b n L' S' v7' v8' → kn v7' v8' m') :
    P16_26004 v1 (.ptr b 0) n v7 v8 i kb 0 at' x67 q m kr kn := by
  cases q
  · unfold P16_26004
    refine kif_f rfl ?_
    refine kif_c _ (fun c1 => drop_br h hA hi hk) fun c1 => ?_
    refine kif_c _ (fun c1 => evict_br h hk) fun c1 => ?_
    refine kif_c _ (fun c1 => ?_) fun c1 => ?_
    · exact kif_c _ (fun c1 => flush_br h hk) fun c1 => hk _ _ _ _ _ h
    · exact put_br h B hu hf (by omega) hk
  · exact get_br h B hf hk
end
end Go.Proofs.Ytjeijigchdnblaa.Am
