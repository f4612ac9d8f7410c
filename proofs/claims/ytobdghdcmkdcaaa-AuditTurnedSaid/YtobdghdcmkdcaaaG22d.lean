/- A cache's functions, on. Conditions: none of its own. -/
import Derived.Test.YtobdghdcmkdcaaaG22c
namespace Go.Proofs.Ytobdghdcmkdcaaa.Am
set_option linter.unusedVariables false
set_option linter.unusedSimpArgs false
set_option maxRecDepth 100000

def putL (n : Int) (l : List (Key × Val)) (key : Key) (v : Val) : List (Key × Val) := rm (if key ∈ l.map Prod.fst then l else if (l.length : Int) ≥ n then l.tail else l) key ++ [(key, v)]
def clN (x : Int) : Int := if (if 256 < x then 256 else x) > 1 then (if 256 < x then 256 else x) else 1
section
variable {m : Mem} {b : Nat} {n : Int} {l : List (Key × Val)} {S : Nat → Prop}
theorem new22 {x : Int} {k : AV → Mem → Prop} (hk : ∀ b m' S', Ca m' b (clN x) [] S' → Keeps m m' → (∀ y, S' y → m.obj y = none) → k (.ptr b 0) m') : F19 x m k := by
  unfold F19 mapNew
  refine newK_i fun b1 m1 hb1 K1 e1 O1 => newK_i fun b4 m2 hb4 K2 e2 O2 => ?_
  have n2 : clN x ≤ 256 := by unfold clN; split <;> (try split) <;> omega
  have n1 : 1 ≤ clN x := by unfold clN; split <;> omega
  have hne : b4 ≠ b1 := fun e => by rw [e, e1] at hb4; cases hb4
  refine hk b4 m2 (ftC b4 b1 (.flat (.slice none 0 0))) ⟨b1, .flat (.slice none 0 0), [], ⟨⟨⟨_, _, e2, rfl, rfl, rfl⟩, IsK.nil none, hne, fun h => h, fun h => h⟩, ?_, .refl _, by simp, by simp; omega, n1, n2, fun e h => by cases h⟩, rfl⟩ (K1.trans K2) fun y hy => ?_
  · exact ⟨_, (K2 b1 (by rw [e1]; simp)).trans e1, fun i h => by simp at h⟩
  · rcases hy with rfl | rfl | h
    · exact newK_none K1 hb4
    · exact hb1
    · exact h.elim
theorem stG_i {q : Nat} {b o : Nat} {c : Nat → AV} {k : Mem → Prop} {x : Blk} (h : m.obj b = some x) (hr : x.ro = false) (ho : o + q ≤ x.n) (hk : ∀ m', m'.obj b = some { x with c := splice x.c o q c } → Only m b m' → k m') : stG q m b o c k := by
  rw [stG_of h hr ho]; exact hk _ (set_same _ _ _) (Only.set _ _ _)
/-- a box of one's own, filled -/
theorem box_i {q : Nat} {z c : Nat → AV} {t : TypeId} {k : Nat → Mem → Prop} (hk : ∀ b m' y, m.obj b = none → Keeps m m' → m'.obj b = some y → y.n = q → y.ro = false → (∀ j, j < q → y.c j = c j) → k b m') : newK m ⟨q, z, t, false⟩ fun b m1 => stG q m1 b 0 c fun m2 => k b m2 := by
  refine newK_i fun b m1 hb K e O => ?_
  rw [stG_of e rfl (by show 0 + q ≤ q; omega)]
  refine hk b _ _ hb (fun x hx => ?_) (set_same _ _ _) rfl rfl fun j hj => ?_
  · rw [set_other _ (fun h : x = b => hx (h ▸ hb)), K x hx]
  · show splice z 0 q c j = c j
    unfold splice; rw [if_pos (by omega), Nat.sub_zero]
theorem mem_es {bm : Nat} {v : AV} {es : List (Key × Val)} (h : CaW m b n l bm v es) (key : Key) : key ∈ es.map Prod.fst ↔ key ∈ l.map Prod.fst := (h.pm.map Prod.fst).mem_iff
theorem get22 (h : Ca m b n l S) {c1 : Nat → AV} {key : Key} (hc : KeyC c1 key) {k : (Nat → AV) → Bool → Mem → Prop} (hyes : ∀ v c m' S', (key, v) ∈ l → (∀ j, j < 4 → c j = v j) → Ca m' b n (rm l key ++ [(key, v)]) S' → Stp S S' m m' → k c true m')
    (hno : key ∉ l.map Prod.fst → ∀ c m', Ca m' b n l S → Stp S S m m' → k c false m') : F40 b 0 c1 m k := by
  unfold F40
  simp only [Nat.zero_add]
  refine newK_i fun b2 m1 hb2 K1 e1 O1 => newK_i fun b4 m3 hb4 K3 e3 O3 => ?_
  have K13 := K1.trans K3
  have hkb : KeyB m3 b2 key := ⟨_, (K3 b2 (by rw [e1]; simp)).trans e1, rfl, rfl, hc⟩
  have h3 := h.keep K13
  obtain ⟨bm, v, es, w, eS⟩ := id h3
  rw [w.li.l2]
  have nS2 : ¬ S b2 := fun hs => (h.live hs) hb2
  have nS4 : ¬ S b4 := fun hs => (h.keep K1).live hs hb4
  refine hkb.lg fun c6 h6 => mget_m w.mp h6 (fun d hd => ?_) fun hn => ?_
  · have hd := w.pm.mem_iff.1 hd
    refine box_i fun b10 m11 y hb10 K11 ey yn yr yc => kif_t rfl ?_
    have w11 := w.keep K11
    have nS10 : ¬ S b10 := fun hs => h3.live hs hb10
    subst eS
    have hl := w.ln
    have hn2 := w.n2
    refine use_spec (val := d) w11.li w.nd w11.mp.live (by omega) (hkb.keep K11) (fun e => nS2 (.inl e)) (fun e => nS2 (.inr (.inr e))) fun m20 v20 g20 F20 o20 => ?_
    have ft2 : ∀ x, ftL b v x → ftC b bm v x := fun x hx => hx.elim .inl fun h => .inr (.inr h)
    have e10 := (F20 b10 (by rw [ey]; simp) fun hx => nS10 (ft2 _ hx)).trans ey
    rw [ldG_of e10 (by omega)]
    have e4 : m20.obj b4 = _ := (F20 b4 (by rw [K11 b4 (by rw [e3]; simp), e3]; simp) fun hx => nS4 (ft2 _ hx)).trans ((K11 b4 (by rw [e3]; simp)).trans e3)
    refine stG_i e4 rfl (show 0 + 4 ≤ 4 by omega) fun m21 e21 O21 => ?_
    rw [ldG_of e21 (show 0 + 4 ≤ 4 by omega)]
    have n4b : b4 ≠ b := fun e => nS4 (.inl e)
    have Fl : Fr (fun x => x = b4) m20 m21 := fun x _ hx => O21 x hx
    refine hyes d _ m21 _ hd (fun j hj => ?_) ⟨bm, v20, es, ⟨g20.fr Fl (fun e => n4b e.symm) fun x hx e => ?_, ?_, ?_, add_nd (rm_nd w.nd key) (not_rm l key) _, ?_, w.n1, w.n2, ?_⟩, rfl⟩ ⟨fun x hx hs => ?_, fun x hx => ?_⟩
    · show sub (splice _ 0 4 (sub y.c 0 4)) 0 4 j = d j
      unfold sub splice
      rw [if_pos hj, if_pos (by omega)]
      dsimp only
      rw [if_pos (by omega), Nat.zero_add, Nat.zero_add, Nat.sub_zero]
      exact yc j hj
    · subst e
      rcases o20 _ hx with h1 | h1
      · exact nS4 (.inr (.inr h1))
      · rw [K11 x (by rw [e3]; simp), e3] at h1; cases h1
    · have a := w11.mp.fr F20 fun hx => hx.elim (fun e => w.li.ne e.symm) w.li.nm
      exact a.fr Fl fun e => nS4 (.inr (.inl e.symm))
    · have hin : (key, d) ∈ es := w.pm.mem_iff.2 hd
      refine w.pm.trans ?_
      -- l ~ rm l key ++ [(key, d)]
      have : ∀ l : List (Key × Val), (l.map Prod.fst).Nodup → (key, d) ∈ l → l.Perm (rm l key ++ [(key, d)]) := by
        intro l nd hm
        obtain ⟨i, hi, e⟩ := List.getElem_of_mem hm
        have e1 : (l[i]).1 = key := by rw [e]
        unfold rm
        rw [filter_erase Prod.fst key l i hi nd e1]
        have := set_perm (key, d) l i hi
        rw [show l.set i (key, d) = l by rw [← e]; exact List.set_getElem_self hi] at this
        exact this.trans (List.perm_append_comm (l₁ := [(key, d)])).symm.symm
      exact this l w.nd hd
    · rw [List.length_append]
      have := rm_lt (l := l) (key := key) (List.mem_map.2 ⟨_, hd, rfl⟩)
      simp only [List.length_singleton]
      omega
    · intro e he
      rcases List.mem_append.1 he with h1 | h1
      · exact w.vo e (List.mem_filter.1 h1).1
      · simp only [List.mem_singleton] at h1; subst h1; exact w.vo _ hd
    · have hx4 : x ≠ b4 := fun e => hx (by rw [e]; exact newK_none K1 hb4)
      rw [O21 x hx4, F20 x (by rw [K11 x (by rw [K13 x hx]; exact hx), K13 x hx]; exact hx) (fun h => hs (ft2 x h)), K11 x (by rw [K13 x hx]; exact hx), K13 x hx]
    · rcases hx with rfl | rfl | hx
      · exact .inl (.inl rfl)
      · exact .inl (.inr (.inl rfl))
      · rcases o20 x hx with h1 | h1
        · exact .inl (.inr (.inr h1))
        · exact .inr (newK_none (K13.trans K11) h1)
  · have hn : key ∉ l.map Prod.fst := fun hm => hn ((mem_es w key).2 hm)
    refine box_i fun b10 m11 y hb10 K11 ey yn yr yc => kif_f rfl ?_
    rw [ldG_of ey (by omega)]
    have e4 := (K11 b4 (by rw [e3]; simp)).trans e3
    refine stG_i e4 rfl (show 0 + 4 ≤ 4 by omega) fun m21 e21 O21 => ?_
    rw [ldG_of e21 (show 0 + 4 ≤ 4 by omega)]
    have K : Keeps m m21 := fun x hx => by
      have hx4 : x ≠ b4 := fun e => hx (by rw [e]; exact newK_none K1 hb4)
      rw [O21 x hx4, K11 x (by rw [K13 x hx]; exact hx), K13 x hx]
    exact hno hn _ _ (h.keep K) (Stp.keep S K)
end
end Go.Proofs.Ytobdghdcmkdcaaa.Am
