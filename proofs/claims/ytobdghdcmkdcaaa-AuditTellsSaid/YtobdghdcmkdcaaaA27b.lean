/- What differs in two States: the program and the law tell the same list. Conditions: none of their own. -/
import Derived.Test.YtobdghdcmkdcaaaA27a
import Derived.Test.YtobdghdcmkdcaaaE1c
namespace Go.Proofs.Ytobdghdcmkdcaaa.Am
set_option linter.unusedVariables false
set_option linter.unusedSimpArgs false
set_option maxRecDepth 100000

/-- the first k numbers are another State's -/
def St.mix (S T : St) (k : Nat) : St := { S with n := fun i => if i < k then T.n i else S.n i }
def restB (S T : St) : Bool := decide (S.same (T.mix S 36))
theorem restB_sym (S T : St) : decide ((S.mix T 36).same T) = restB S T := by
  refine decide_eq_decide.2 ⟨fun h i hi => ?_, fun h i hi => ?_⟩
  · have := h i hi
    unfold St.mix at this ⊢
    dsimp only at this ⊢
    by_cases c : i < 36
    · have e : isP3 i = false := by simp [isP3]; omega
      simp [e, c]
    · simpa [c] using this
  · have := h i hi
    unfold St.mix at this ⊢
    dsimp only at this ⊢
    by_cases c : i < 36
    · have e : isP3 i = false := by simp [isP3]; omega
      simp [e, c]
    · simpa [c] using this
def dl (S T : St) (i : Nat) : List Nat := (List.range i).filter fun j => S.n j != T.n j
theorem dl_succ (S T : St) (i : Nat) : dl S T (i + 1) = dl S T i ++ (if (S.n i != T.n i) = true then [i] else []) := by
  unfold dl; rw [List.range_succ, List.filter_append]; cases h : S.n i != T.n i <;> simp [List.filter, h]
theorem dl_len (S T : St) (i : Nat) : (dl S T i).length ≤ i := by
  unfold dl; exact Nat.le_trans (List.length_filter_le _ _) (by simp)
def diffL (S T : St) : List Nat := dl S T 36 ++ (if restB S T = true then [] else [36])
theorem diffL_len (S T : St) : (diffL S T).length ≤ 37 := by
  unfold diffL
  have := dl_len S T 36
  rw [List.length_append]; split <;> simp <;> omega
section
variable {m0 m : Mem} {b2 b4 : Nat} {S T : St} {v : AV}
theorem boxS {c : Nat → AV} {t : TypeId} {k : Nat → Mem → Prop} (hc : StCells c S) (hk : ∀ b m', m.obj b = none → Keeps m m' → IsSt m' b S.bare → k b m') : newK m ⟨73, c, t, false⟩ k :=
  newK_i fun b m' hb K e O => hk b m' hb K ⟨_, e, rfl, rfl, hc, fun j hj => by have : j < 0 := hj; omega⟩
/-- a list grows behind m0 -/
structure Gr (m0 m : Mem) (v : AV) (L : List Nat) : Prop where
  l : IsL m 1 v L.length (cI L)
  K : Keeps m0 m
  o : ∀ b, own v b → m0.obj b = none
theorem Gr.app {L : List Nat} (h : Gr m0 m v L) (hl : L.length ≤ 1000) {x : Int} {y : Nat} (hx : x = y) {k : KV} (hk : ∀ v' m', Gr m0 m' v' (L ++ [y]) → k v' m') : newK m ⟨1, upd (lget [(.flat (.int .i64 0))]) 0 (.flat (.int .i64 x)), 3, false⟩ fun b9 m8 => appS 1 8 3 v (.sl b9 0 1 (.ex 1)) m8 k :=
  app1 hx h.l (by omega) fun v' m' g1 g2 g3 => hk v' m' ⟨g1, Fr.keeps h.K g2 h.o, fun b hb => (g3 b hb).elim (h.o b) (newK_none h.K)⟩
theorem Gr.begin (m : Mem) : Gr m m (.flat (.slice none 0 0)) [] := ⟨.nil none _, Keeps.self m, fun _ h => h.elim⟩
theorem Gr.keep {m' : Mem} {L : List Nat} (h : Gr m0 m v L) (K : Keeps m m') : Gr m0 m' v L := ⟨h.l.keep K, h.K.trans K, h.o⟩
theorem df_loop1 (h2 : IsSt m0 b2 S) (h4 : IsSt m0 b4 T) {k0 : AV → Mem → Prop} (hk : ∀ v' m', Gr m0 m' v' (dl S T 32) → k0 v' m') : ∀ (j i : Nat) (v : AV) (m : Mem), i + j = 32 → Gr m0 m v (dl S T i) → L11_3 b2 0 b4 0 (j + 1) v i m k0
  | 0, i, v, m, e, h => by
    show R11_3 _ _ _ _ _ _ _ _ _
    unfold R11_3
    obtain rfl : i = 32 := by omega
    exact kif_f (by simp) (hk v m h)
  | j + 1, i, v, m, e, h => by
    show R11_3 _ _ _ _ _ _ _ _ _
    unfold R11_3
    have hl := dl_len S T i
    refine kif_t (by simp; omega) (kif_ix (by omega) (by omega) ?_)
    rw [show 0 + 0 + (i : Int).toNat * 1 = i by omega, ldI_st (h2.keep h.K) (by omega) (by simp [isP3]; omega)]
    refine kif_ix (by omega) (by omega) ?_
    rw [ldI_st (h4.keep h.K) (by omega) (by simp [isP3]; omega), wrap64 (by omega) (by omega)]
    have hs := dl_succ S T i
    refine kif_c _ (fun c => h.app (by omega) rfl fun v' m' h' => ?_) fun c => ?_
    · rw [if_pos c] at hs; rw [← hs] at h'
      exact df_loop1 h2 h4 hk j (i + 1) v' m' (by omega) h'
    · rw [c, if_neg (by simp), List.append_nil] at hs; rw [← hs] at h
      exact df_loop1 h2 h4 hk j (i + 1) v m (by omega) h
theorem rf_loop1 (h2 : IsSt m0 b2 S) (h4 : IsSt m0 b4 T) {k0 : AV → Mem → Prop} (hk : ∀ v' m', Gr m0 m' v' (dl S T 32) → k0 v' m') : ∀ (j i : Nat) (v : AV) (m : Mem), i + j = 32 → Gr m0 m v (dl S T i) → L12_3 b2 0 b4 0 (j + 1) v i m k0
  | 0, i, v, m, e, h => by
    show R12_3 _ _ _ _ _ _ _ _ _
    unfold R12_3
    obtain rfl : i = 32 := by omega
    exact kif_f (by simp) (hk v m h)
  | j + 1, i, v, m, e, h => by
    show R12_3 _ _ _ _ _ _ _ _ _
    unfold R12_3
    have hl := dl_len S T i
    refine kif_t (by simp; omega) (kif_ix (by omega) (by omega) ?_)
    rw [show 0 + 0 + (i : Int).toNat * 1 = i by omega, ldI_st (h2.keep h.K) (by omega) (by simp [isP3]; omega)]
    refine kif_ix (by omega) (by omega) ?_
    rw [ldI_st (h4.keep h.K) (by omega) (by simp [isP3]; omega), wrap64 (by omega) (by omega)]
    have hs := dl_succ S T i
    refine kif_c _ (fun c => h.app (by omega) rfl fun v' m' h' => ?_) fun c => ?_
    · rw [if_pos c] at hs; rw [← hs] at h'
      exact rf_loop1 h2 h4 hk j (i + 1) v' m' (by omega) h'
    · rw [c, if_neg (by simp), List.append_nil] at hs; rw [← hs] at h
      exact rf_loop1 h2 h4 hk j (i + 1) v m (by omega) h
def dbl (S T : St) : Nat → AV := upd (upd (upd (upd (lget [(.flat (.bool false)), (.flat (.bool false)), (.flat (.bool false)), (.flat (.bool false))]) 0 (.flat (.bool (S.n 32 != T.n 32)))) 1 (.flat (.bool (S.n 33 != T.n 33)))) 2 (.flat (.bool (S.n 34 != T.n 34)))) 3 (.flat (.bool (S.n 35 != T.n 35)))
theorem dbl_at (S T : St) {i : Nat} (hi : i < 4) : dbl S T i = .flat (.bool (S.n (32 + i) != T.n (32 + i))) := by
  have : i = 0 ∨ i = 1 ∨ i = 2 ∨ i = 3 := by omega
  rcases this with rfl | rfl | rfl | rfl <;> rfl
theorem df_loop2 {b : Nat} {t : TypeId} (hb : m0.obj b = some ⟨4, dbl S T, t, false⟩) {m1 : Mem} {k0 : AV → Mem → Prop} (hk : ∀ v' m', Gr m1 m' v' (dl S T 36) → k0 v' m') : ∀ (j i : Nat) (v : AV) (m : Mem), i + j = 4 → (m.obj b = m0.obj b ∧ ¬ own v b) → Gr m1 m v (dl S T (32 + i)) → L11_9 b2 0 b4 0 (.sl b 0 4 (.ex 4)) 4 (j + 1) v i m k0
  | 0, i, v, m, e, hm, h => by
    show R11_9 _ _ _ _ _ _ _ _ _ _ _
    unfold R11_9
    obtain rfl : i = 4 := by omega
    exact kif_f (by simp) (hk v m h)
  | j + 1, i, v, m, e, hm, h => by
    show R11_9 _ _ _ _ _ _ _ _ _ _ _
    unfold R11_9
    have hl := dl_len S T (32 + i)
    refine kif_t (by simp; omega) (kif_ix (by omega) (by omega) ?_)
    rw [ldB_of (hm.1.trans hb) (show 0 + (i : Int).toNat * 1 < 4 by omega) (by rw [show 0 + (i : Int).toNat * 1 = i by omega]; exact dbl_at S T (by omega)), wrap64 (n := 32 + (i : Int)) (by omega) (by omega), wrap64 (by omega) (by omega)]
    have hs := dl_succ S T (32 + i)
    refine kif_c _ (fun c => ?_) fun c => ?_
    · refine app1 (y := 32 + i) (by omega) h.l (by omega) fun v' m' g1 g2 g3 => ?_
      have h' : Gr m1 m' v' (dl S T (32 + (i + 1))) := ⟨by rw [show 32 + (i + 1) = 32 + i + 1 by omega, hs, if_pos c]; exact g1, Fr.keeps h.K g2 h.o, fun b hb => (g3 b hb).elim (h.o b) (newK_none h.K)⟩
      refine df_loop2 hb hk j (i + 1) v' m' (by omega) ⟨?_, fun ho => ?_⟩ h'
      · rw [g2 b (by rw [hm.1, hb]; simp) hm.2]; exact hm.1
      · rcases g3 b ho with h1 | h1
        · exact hm.2 h1
        · rw [hm.1, hb] at h1; cases h1
    · rw [c, if_neg (by simp), List.append_nil] at hs; rw [← hs] at h
      exact df_loop2 hb hk j (i + 1) v m (by omega) hm h
end
end Go.Proofs.Ytobdghdcmkdcaaa.Am
