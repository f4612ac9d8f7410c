/- A cache's functions: what they ask of the plain list. Conditions: none of its own. -/
import Derived.Test.YtobdghdcmkdcaaaG22b
namespace Go.Proofs.Ytobdghdcmkdcaaa.Am
set_option linter.unusedVariables false
set_option linter.unusedSimpArgs false
set_option maxRecDepth 100000

def VOK (e : Key × Val) : Prop := e.2 0 = .flat (.int .u32 e.1.a) ∧ isU e.1.a
structure CaW (m : Mem) (b : Nat) (n : Int) (l : List (Key × Val)) (bm : Nat) (v : AV) (es : List (Key × Val)) : Prop where
  li : Li m b n bm v (l.map Prod.fst)
  mp : IsMp m bm es
  pm : es.Perm l
  nd : (l.map Prod.fst).Nodup
  ln : (l.length : Int) ≤ n
  n1 : 1 ≤ n
  n2 : n ≤ 256
  vo : ∀ e ∈ l, VOK e
def ftC (b bm : Nat) (v : AV) (x : Nat) : Prop := x = b ∨ x = bm ∨ own v x
def Ca (m : Mem) (b : Nat) (n : Int) (l : List (Key × Val)) (S : Nat → Prop) : Prop := ∃ bm v es, CaW m b n l bm v es ∧ S = ftC b bm v
/-- one step of a part of memory: all else is as it was -/
structure Stp (S S' : Nat → Prop) (m m' : Mem) : Prop where
  fr : Fr S m m'
  ft : ∀ x, S' x → S x ∨ m.obj x = none
theorem Stp.trans {S S' S'' : Nat → Prop} {a b c : Mem} (h : Stp S S' a b) (h' : Stp S' S'' b c) : Stp S S'' a c := by
  have key : ∀ x, a.obj x ≠ none → ¬ S x → ¬ S' x ∧ b.obj x = a.obj x := fun x hx hs => ⟨fun h1 => by
    rcases h.ft x h1 with h2 | h2
    · exact hs h2
    · exact hx h2, h.fr x hx hs⟩
  refine ⟨fun x hx hs => ?_, fun x hx => ?_⟩
  · obtain ⟨h1, h2⟩ := key x hx hs
    rw [h'.fr x (by rw [h2]; exact hx) h1, h2]
  · by_cases c1 : S x
    · exact .inl c1
    · refine .inr ?_
      cases e : a.obj x with
      | none => rfl
      | some y =>
        obtain ⟨h1, h2⟩ := key x (by rw [e]; simp) c1
        rcases h'.ft x hx with h3 | h3
        · exact (h1 h3).elim
        · rw [h2, e] at h3; cases h3
theorem Stp.refl (S : Nat → Prop) (m : Mem) : Stp S S m m := ⟨Fr.refl _ _, fun _ h => .inl h⟩
theorem Stp.keep {m m' : Mem} (S : Nat → Prop) (K : Keeps m m') : Stp S S m m' := ⟨K.fr S, fun _ h => .inl h⟩

section
variable {m : Mem} {b : Nat} {n : Int} {l : List (Key × Val)} {S : Nat → Prop}
theorem CaW.keep {bm : Nat} {v : AV} {es : List (Key × Val)} {m' : Mem} (h : CaW m b n l bm v es) (K : Keeps m m') : CaW m' b n l bm v es := ⟨h.li.keep K, h.mp.fr (K.fr fun _ => False) fun h => h, h.pm, h.nd, h.ln, h.n1, h.n2, h.vo⟩
theorem Ca.keep {m' : Mem} (h : Ca m b n l S) (K : Keeps m m') : Ca m' b n l S := by
  obtain ⟨bm, v, es, h, e⟩ := h; exact ⟨bm, v, es, h.keep K, e⟩
theorem Ca.live (h : Ca m b n l S) {x : Nat} (hx : S x) : m.obj x ≠ none := by
  obtain ⟨bm, v, es, h, e⟩ := h
  rw [e] at hx
  rcases hx with rfl | rfl | h1
  · exact h.li.live
  · exact h.mp.live
  · exact h.li.ks.live h1
theorem Ca.nd (h : Ca m b n l S) : (l.map Prod.fst).Nodup := by obtain ⟨bm, v, es, h, e⟩ := h; exact h.nd
theorem Ca.ln (h : Ca m b n l S) : (l.length : Int) ≤ n := by obtain ⟨bm, v, es, h, e⟩ := h; exact h.ln
theorem Ca.n2 (h : Ca m b n l S) : n ≤ 256 := by obtain ⟨bm, v, es, h, e⟩ := h; exact h.n2
theorem Ca.vo (h : Ca m b n l S) : ∀ e ∈ l, VOK e := by obtain ⟨bm, v, es, h, e⟩ := h; exact h.vo
theorem mem_unique {l : List (Key × Val)} (nd : (l.map Prod.fst).Nodup) {k : Key} {v v' : Val} (h : (k, v) ∈ l) (h' : (k, v') ∈ l) : v = v' := by
  induction l with
  | nil => cases h
  | cons x l ih =>
    simp only [List.map_cons, List.nodup_cons] at nd
    rcases List.mem_cons.1 h with e | h1 <;> rcases List.mem_cons.1 h' with e' | h1'
    · have := e.trans e'.symm; simpa using this
    · exact absurd (List.mem_map.2 ⟨_, h1', by rw [← e]⟩) nd.1
    · exact absurd (List.mem_map.2 ⟨_, h1, by rw [← e']⟩) nd.1
    · exact ih nd.2 h1 h1'
theorem rm_perm {l l' : List (Key × Val)} (h : l.Perm l') (key : Key) : (rm l key).Perm (rm l' key) := h.filter _

/-- a key is used: it stands behind the others then -/
theorem use_spec {bm : Nat} {v : AV} (h : Li m b n bm v (l.map Prod.fst)) (nd : (l.map Prod.fst).Nodup) (hbm : m.obj bm ≠ none) (hl : l.length ≤ 300) {kb : Nat} {key : Key} (hkb : KeyB m kb key) (hnb : kb ≠ b) (hnv : ¬ own v kb) {t : TypeId} {val : Val} {k : Mem → Prop}
    (hk : ∀ m' v', Li m' b n bm v' ((rm l key ++ [(key, val)]).map Prod.fst) → Fr (ftL b v) m m' → (∀ x, own v' x → own v x ∨ m.obj x = none) → k m') :
    ldG 3 m kb 0 fun c19 => F50 b 0 c19 m fun m20 => ldA m20 b 1 fun v21 => ldG 3 m20 kb 0 fun c22 => newK m20 ⟨3, splice (lget [(.flat (.int .u32 0)), (.flat (.int .i64 0)), (.flat (.int .i64 0))]) 0 3 c22, t, false⟩ fun b24 m23 => appS 3 24 94 v21 (.sl b24 0 1 (.ex 1)) m23 fun v25 m26 => stV m26 b 1 v25 fun m27 => k m27 := by
  refine hkb.lg fun c19 h19 => out_spec h (by rw [List.length_map]; omega) nd h19 fun m2 v2 g2 F2 o2 => ?_
  rw [← rm_fst] at g2
  have hkb2 : KeyB m2 kb key := hkb.fr F2 fun hx => by
    rcases hx with hx | hx
    · exact hnb hx
    · exact hnv hx
  have hbm2 : m2.obj bm ≠ none := by
    rw [F2 bm hbm fun hx => by
      rcases hx with hx | hx
      · exact h.ne hx.symm
      · exact h.nm hx]
    exact hbm
  refine add_spec g2 hbm2 (by rw [List.length_map]; have := rm_len l key; omega) hkb2 fun m3 v3 g3 F3 o3 => hk m3 v3 ?_ (fun x hx hs => ?_) fun x hx => ?_
  · rw [List.map_append]; exact g3
  · rw [F3 x (by rw [F2 x hx hs]; exact hx) (fun hy => hs (hy.imp id (o2 x))), F2 x hx hs]
  · rcases o3 x hx with h1 | h1
    · exact .inl (o2 x h1)
    · by_cases c : own v x
      · exact .inl c
      · refine .inr ?_
        cases e : m.obj x with
        | none => rfl
        | some y =>
          by_cases c2 : x = b
          · subst c2
            have := g2.live
            exact (this h1).elim
          · rw [F2 x (by rw [e]; simp) (fun hs => hs.elim c2 c), e] at h1; cases h1
end
end Go.Proofs.Ytobdghdcmkdcaaa.Am
