/- Law 22's CacheRoom. Conditions: none of its own. -/
import Derived.Test.YtobdghdcmkdcaaaG22d
namespace Go.Proofs.Ytobdghdcmkdcaaa.Am
set_option linter.unusedVariables false
set_option linter.unusedSimpArgs false
set_option maxRecDepth 100000

/-- a part of memory that is one's own, since m0 -/
structure Own (m0 m : Mem) (S : Nat → Prop) : Prop where
  K : Keeps m0 m
  f : ∀ x, S x → m0.obj x = none
theorem Own.stp {m0 m m' : Mem} {S S' : Nat → Prop} (h : Own m0 m S) (s : Stp S S' m m') : Own m0 m' S' := ⟨Fr.keeps h.K s.fr h.f, fun x hx => (s.ft x hx).elim (h.f x) (newK_none h.K)⟩
theorem Own.keep {m0 m m' : Mem} {S : Nat → Prop} (h : Own m0 m S) (K : Keeps m m') : Own m0 m' S := ⟨h.K.trans K, h.f⟩
/-- a box outside -/
structure OutB (m : Mem) (S : Nat → Prop) (b : Nat) (x : Key) : Prop where
  k : KeyB m b x
  o : ¬ S b
theorem OutB.stp {m m' : Mem} {S S' : Nat → Prop} {b : Nat} {x : Key} (h : OutB m S b x) (s : Stp S S' m m') : OutB m' S' b x := ⟨h.k.fr s.fr h.o, fun hx => (s.ft b hx).elim h.o h.k.live⟩
theorem OutB.keep {m m' : Mem} {S : Nat → Prop} {b : Nat} {x : Key} (h : OutB m S b x) (K : Keeps m m') : OutB m' S b x := ⟨h.k.keep K, h.o⟩

section
variable {m : Mem} {b : Nat} {n : Int} {l : List (Key × Val)} {S : Nat → Prop}
theorem within22 {n lo hi : Int} (h0 : lo < hi) (h1 : hi < 1000000) (h2 : -1000000 < lo) (n0 : -9223372036854775808 ≤ n) (n1 : n < 9223372036854775808) {k : Int → Mem → Prop} (hk : ∀ v, lo ≤ v → v ≤ hi → k v m) : F15 n lo hi m k := by
  unfold F15
  have key : P15_3102 n lo hi m (fun x1 m2 => (Keeps m m2 ∧ k x1 m)) := by
    unfold P15_3102
    rw [wrap64 (n := hi - lo) (by omega) (by omega), wrap64 (n := hi - lo + 1) (by omega) (by omega)]
    have ht : -(hi - lo + 1) < n.tmod (hi - lo + 1) ∧ n.tmod (hi - lo + 1) < hi - lo + 1 := by
      by_cases c : 0 ≤ n
      · rw [tmod_nn c]
        have a := Int.emod_nonneg n (show hi - lo + 1 ≠ 0 by omega)
        have b := Int.emod_lt_of_pos n (show 0 < hi - lo + 1 by omega)
        omega
      · have e : n.tmod (hi - lo + 1) = -((-n).tmod (hi - lo + 1)) := by rw [Int.neg_tmod]; omega
        rw [e, tmod_nn (by omega)]
        have a := Int.emod_nonneg (-n) (show hi - lo + 1 ≠ 0 by omega)
        have b := Int.emod_lt_of_pos (-n) (show 0 < hi - lo + 1 by omega)
        omega
    generalize n.tmod (hi - lo + 1) = r at ht
    refine kif_f (by simp; omega) (kif_c _ (fun c => ?_) fun c => ?_)
    · have c : r < 0 := by simpa using c
      rw [wrap64 (n := r + hi) (by omega) (by omega), wrap64 (n := r + hi - lo) (by omega) (by omega), wrap64 (n := r + hi - lo + 1) (by omega) (by omega), wrap64 (by omega) (by omega)]
      exact ⟨Keeps.self m, hk _ (by omega) (by omega)⟩
    · have c : ¬ r < 0 := by simpa using c
      rw [wrap64 (by omega) (by omega)]
      exact ⟨Keeps.self m, hk _ (by omega) (by omega)⟩
  refine kif_c _ (fun c => kif_c _ (fun c1 => ⟨Keeps.self m, hk _ (by simpa using c) (by simpa using c1)⟩) fun _ => key) fun _ => key
theorem ty_i {k : IntKind} {v : AV} (h : Ty m (.i k) v) : ∃ n, v = .flat (.int k n) ∧ (Lit.int k n).wf = true := by
  cases h with
  | i k n hn => exact ⟨n, rfl, hn⟩
theorem ints_ty {k : IntKind} {v : AV} (h : Ty m (.sl [.i k]) v) : ∃ (n : Nat) (f : Nat → Int), IsR m 1 v n (cK k f) ∧ ∀ i, i < n → (Lit.int k (f i)).wf = true := by
  cases h with
  | nil ls a => exact ⟨0, fun _ => 0, .nil a _, fun i hi => by omega⟩
  | sl ls b len cap x h1 h2 h3 h4 h5 h6 =>
    simp only [List.length_singleton, Nat.mul_one] at h5 h6
    have hx : ∀ j, j < cap → ∃ n, x.c j = .flat (.int k n) ∧ (Lit.int k n).wf = true := fun j hj => by
      have := h6 j hj 0 (.i k) rfl
      rw [Nat.add_zero] at this
      exact ty_i this
    refine ⟨len, fun j => match x.c j with | .flat (.int _ n) => n | _ => 0, .sl b 0 len (.ex cap) x _ h4 (by omega) (fun i hi => ?_), fun i hi => ?_⟩
    · obtain ⟨n, e, _⟩ := hx i (by omega)
      unfold cK
      dsimp only
      rw [Nat.zero_add, e]
    · obtain ⟨n, e, hn⟩ := hx i (by omega)
      dsimp only
      rw [e]; exact hn

/-! ### CacheRoom -/
def fst22 : Key := ⟨4, 0, 0⟩
/-- at a round's head -/
def RoomL (n : Int) (l : List (Key × Val)) : Prop := (n > 1 → ∃ l0 v, l = l0 ++ [(fst22, v)]) ∧ (n ≤ 1 → l.length = 1)
theorem room_put {n : Int} {l : List (Key × Val)} (h : RoomL n l) {key : Key} (hne : key ≠ fst22) {v : Val} : (n > 1 → fst22 ∈ (putL n l key v).map Prod.fst) ∧ (n ≤ 1 → fst22 ∉ (putL n l key v).map Prod.fst ∧ (putL n l key v).length = 1) := by
  refine ⟨fun hn => ?_, fun hn => ?_⟩
  · obtain ⟨l0, w, rfl⟩ := h.1 hn
    unfold putL
    rw [List.map_append]
    refine List.mem_append.2 (.inl ?_)
    rw [rm_fst]
    refine List.mem_filter.2 ⟨?_, by simpa using Ne.symm hne⟩
    split
    · simp
    split
    · rename_i c1 c2
      simp only [List.length_append, List.length_singleton] at c2
      cases l0 with
      | nil => simp at c2; omega
      | cons x l0 => simp
    · simp
  · have hl := h.2 hn
    obtain ⟨e, rfl⟩ := List.length_eq_one_iff.1 hl
    unfold putL
    have : rm (if key ∈ [e].map Prod.fst then [e] else if (([e].length : Nat) : Int) ≥ n then [e].tail else [e]) key = [] := by
      split
      · rename_i c
        have c : key = e.1 := by simpa using c
        unfold rm; simp [c]
      · rw [if_pos (by simp; omega)]; rfl
    rw [this]
    simpa using Ne.symm hne
end
end Go.Proofs.Ytobdghdcmkdcaaa.Am
