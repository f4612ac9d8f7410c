/- Blocks of structs by the rows of their cells; live blocks, each once. No program in sight. -/
import Derived.Test.YtobdghdcmkdcaaaR2c
import Derived.Test.YtobdghdcmkdcaaaG22f
namespace Go.Proofs.Ytobdghdcmkdcaaa.Am
set_option linter.unusedVariables false
set_option linter.unusedSimpArgs false
set_option maxRecDepth 100000

/-- a struct's block, by its cells -/
def IsCl (m : Mem) (b : Nat) (cs : List AV) : Prop := ∃ y, m.obj b = some y ∧ y.n = cs.length ∧ y.ro = false ∧ ∀ i, i < cs.length → y.c i = lget cs i
section
variable {m m' : Mem} {b : Nat} {cs : List AV} {i : Nat}
theorem IsCl.fr {S : Nat → Prop} (h : IsCl m b cs) (F : Fr S m m') (hb : ¬ S b) : IsCl m' b cs := by
  obtain ⟨y, e, r⟩ := h
  exact ⟨y, by rw [F b (by rw [e]; simp) hb]; exact e, r⟩
theorem IsCl.keep (h : IsCl m b cs) (K : Keeps m m') : IsCl m' b cs := h.fr (K.fr fun _ => False) fun h => h
theorem IsCl.live (h : IsCl m b cs) : m.obj b ≠ none := by obtain ⟨y, e, _⟩ := h; rw [e]; simp
theorem IsCl.only {b' : Nat} (h : IsCl m b cs) (O : Only m b' m') (hne : b ≠ b') : IsCl m' b cs := by
  obtain ⟨y, e, r⟩ := h
  exact ⟨y, by rw [O b hne]; exact e, r⟩
theorem IsCl.lI {kd : IntKind} {n : Int} (h : IsCl m b cs) (hi : i < cs.length) (e : lget cs i = .flat (.int kd n)) (k : Int → Prop) : ldI kd m b i k = k n := by
  obtain ⟨y, ey, hn, hr, hc⟩ := h
  exact ldI_of ey (by omega) ((hc i hi).trans e)
theorem IsCl.lB {n : Bool} (h : IsCl m b cs) (hi : i < cs.length) (e : lget cs i = .flat (.bool n)) (k : Bool → Prop) : ldB m b i k = k n := by
  obtain ⟨y, ey, hn, hr, hc⟩ := h
  exact ldB_of ey (by omega) ((hc i hi).trans e)
theorem ldA_v {v : AV} {y : Blk} (e : m.obj b = some y) (hi : i < y.n) (hc : y.c i = v) (h1 : v.one = true) (k : AV → Prop) : ldA m b i k = k v := by
  unfold ldA kobj
  rw [e]
  simp only [kite_eq, hi, if_true, hc]
  cases v with
  | flat u => rfl
  | ptr b o => rfl
  | sl b o l c => rfl
  | e0 => rfl
  | mp b => rfl
  | ch => rfl
  | agg n c => simp [AV.one] at h1
  | tup vs => simp [AV.one] at h1
  | clo f vs => simp [AV.one] at h1
  | junk => simp [AV.one] at h1
theorem IsCl.lA {v : AV} (h : IsCl m b cs) (hi : i < cs.length) (e : lget cs i = v) (h1 : v.one = true) (k : AV → Prop) : ldA m b i k = k v := by
  obtain ⟨y, ey, hn, hr, hc⟩ := h
  exact ldA_v ey (by omega) ((hc i hi).trans e) h1 k
theorem lget_set (v : AV) : ∀ (cs : List AV) (i j : Nat), i < cs.length → lget (cs.set i v) j = if j = i then v else lget cs j
  | [], i, j, h => by simp at h
  | x :: cs, 0, 0, h => rfl
  | x :: cs, 0, j + 1, h => by simp [lget]
  | x :: cs, i + 1, 0, h => by simp [lget]
  | x :: cs, i + 1, j + 1, h => by simpa [lget] using lget_set v cs i j (by simpa using h)
theorem IsCl.set {v : AV} {y : Blk} (e : m.obj b = some y) (h : IsCl m b cs) (hi : i < cs.length) : IsCl (m.set b { y with c := upd y.c i v }) b (cs.set i v) := by
  obtain ⟨y', ey, hn, hr, hc⟩ := h
  rw [e] at ey; cases ey
  refine ⟨_, set_same _ _ _, by simpa using hn, hr, fun j hj => ?_⟩
  rw [lget_set v cs i j hi]
  show upd y.c i v j = _
  unfold upd
  split
  · rfl
  · exact hc j (by simpa using hj)
theorem IsCl.sC {v : AV} {k : Mem → Prop} (h : IsCl m b cs) (hi : i < cs.length) (hk : ∀ m', IsCl m' b (cs.set i v) → Only m b m' → k m') : stC m b i v k := by
  have h0 := h
  obtain ⟨y, ey, hn, hr, hc⟩ := h
  rw [stC_of ey hr (by omega)]
  exact hk _ (IsCl.set ey h0 hi) (Only.set _ _ _)
theorem IsCl.sV {v : AV} {k : Mem → Prop} (h : IsCl m b cs) (hi : i < cs.length) (hv : v.one = true) (hk : ∀ m', IsCl m' b (cs.set i v) → Only m b m' → k m') : stV m b i v k := by
  have h0 := h
  obtain ⟨y, ey, hn, hr, hc⟩ := h
  refine stV_i ey hr hv (by omega) fun m' e O => hk m' ?_ O
  refine ⟨_, e, by simpa using hn, hr, fun j hj => ?_⟩
  rw [lget_set v cs i j hi]
  show upd y.c i v j = _
  unfold upd
  split
  · rfl
  · exact hc j (by simpa using hj)
theorem IsCl.new {n : Nat} {t : TypeId} {c : Nat → AV} {k : Nat → Mem → Prop} (cs : List AV) (hn : n = cs.length) (hc : ∀ i, i < cs.length → c i = lget cs i) (hk : ∀ b m', m.obj b = none → Keeps m m' → IsCl m' b cs → k b m') : newK m ⟨n, c, t, false⟩ k :=
  newK_i fun b m' hb K e O => hk b m' hb K ⟨_, e, hn, rfl, hc⟩
end
/-- live blocks, each once -/
def LiveL (m : Mem) (l : List Nat) : Prop := l.Nodup ∧ ∀ b ∈ l, m.obj b ≠ none
theorem LiveL.keep {m m' : Mem} {l : List Nat} (h : LiveL m l) (K : Keeps m m') : LiveL m' l := ⟨h.1, fun b hb => by rw [K b (h.2 b hb)]; exact h.2 b hb⟩
theorem LiveL.cons {m m' : Mem} {l : List Nat} {b : Nat} (h : LiveL m l) (K : Keeps m m') (hb : m.obj b = none) (hb' : m'.obj b ≠ none) : LiveL m' (b :: l) := by
  refine ⟨List.nodup_cons.2 ⟨fun hm => h.2 b hm hb, h.1⟩, fun x hx => ?_⟩
  rcases List.mem_cons.1 hx with rfl | hx
  · exact hb'
  · exact (h.keep K).2 x hx
theorem nd_ne {l : List Nat} (h : l.Nodup) {i j a b : Nat} (hij : i ≠ j) (ha : l[i]? = some a) (hb : l[j]? = some b) : a ≠ b := fun e => by
  subst e
  obtain ⟨h1, e1⟩ := List.getElem?_eq_some_iff.1 ha
  obtain ⟨h2, e2⟩ := List.getElem?_eq_some_iff.1 hb
  have hp := List.pairwise_iff_getElem.1 h
  rcases Nat.lt_or_gt_of_ne hij with c | c
  · exact hp i j h1 h2 c (e1.trans e2.symm)
  · exact hp j i h2 h1 c (e2.trans e1.symm)
end Go.Proofs.Ytobdghdcmkdcaaa.Am
