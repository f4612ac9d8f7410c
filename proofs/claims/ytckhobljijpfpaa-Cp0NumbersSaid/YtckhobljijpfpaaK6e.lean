/- Which registers have a name, and what is read: the program's and the reference's. Conditions: the State lies in a block of its own. -/
import Derived.Test.YtckhobljijpfpaaK6
import Derived.Test.YtckhobljijpfpaaAmW2
namespace Go.Proofs.Ytckhobljijpfpaa.Am
set_option linter.unusedVariables false
set_option linter.unusedSimpArgs false

theorem putN_same (S : St) (i : Nat) (v : Int) : (S.putN i v).n i = v := by simp [St.putN, upd]
theorem putN_other (S : St) {i j : Nat} (v : Int) (h : j ≠ i) : (S.putN i v).n j = S.n j := by simp [St.putN, upd, h]

def namedR (n : Int) : Bool := (decide (0 ≤ n) && decide (n ≤ 2)) || (decide (8 ≤ n) && decide (n ≤ 15))
def readS (S : St) (n : Int) : Int := if n = 1 then S.n 48 % 8 else if namedR n = true then S.n (39 + n.toNat) else 0
theorem named_spec {n : Int} {m : Mem} {k : Bool → Mem → Prop} (hk : k (namedR n) m) : F32 n m k := by
  unfold F32
  have hh : ∀ j : Int, (n == j) = true → namedR j = true → (Keeps m m ∧ k true m) := fun j hj hn => ⟨Keeps.self m, by
    have e := ofbeq hj; subst e; rw [hn] at hk; exact hk⟩
  refine kif_c _ (fun c => kif_t c (hh 0 c rfl)) fun c0 => ?_
  refine kif_c _ (fun c => kif_t c (hh 1 c rfl)) fun c1 => ?_
  refine kif_c _ (fun c => kif_t c (hh 2 c rfl)) fun c2 => ?_
  refine kif_c _ (fun c => kif_t c (hh 8 c rfl)) fun c3 => ?_
  refine kif_c _ (fun c => kif_t c (hh 9 c rfl)) fun c4 => ?_
  refine kif_c _ (fun c => kif_t c (hh 10 c rfl)) fun c5 => ?_
  refine kif_c _ (fun c => kif_t c (hh 11 c rfl)) fun c6 => ?_
  refine kif_c _ (fun c => kif_t c (hh 12 c rfl)) fun c7 => ?_
  refine kif_c _ (fun c => kif_t c (hh 13 c rfl)) fun c8 => ?_
  refine kif_c _ (fun c => kif_t c (hh 14 c rfl)) fun c9 => ?_
  refine kif_c _ (fun c => hh 15 c rfl) fun c10 => ?_
  have e : namedR n = false := by
    have := ofbne c0; have := ofbne c1; have := ofbne c2; have := ofbne c3; have := ofbne c4; have := ofbne c5; have := ofbne c6; have := ofbne c7; have := ofbne c8; have := ofbne c9; have := ofbne c10
    unfold namedR
    simp
    omega
  rw [e] at hk
  exact ⟨Keeps.self m, hk⟩
theorem rnamed_spec {n : Int} {m : Mem} {k : Bool → Mem → Prop} (hk : k (namedR n) m) : F34 n m k := by
  unfold F34
  unfold namedR at hk
  refine kif_c _ (fun c => kif_c _ (fun c1 => ?_) fun c1 => kif_c _ (fun c2 => ?_) fun c2 => ?_) fun c => kif_c _ (fun c2 => ?_) fun c2 => ?_
  · simp at c c1; simp [c, c1] at hk; exact ⟨Keeps.self m, hk⟩
  · simp at c c1 c2
    have e1 : ¬ n ≤ 2 := by omega
    simp [e1, c2] at hk; exact ⟨Keeps.self m, hk⟩
  · simp at c c1 c2
    have e1 : ¬ n ≤ 2 := by omega
    have e2 : ¬ 8 ≤ n := by omega
    simp [e1, e2] at hk; exact ⟨Keeps.self m, hk⟩
  · simp at c c2; omega
  · simp at c c2
    have e1 : ¬ 0 ≤ n := by omega
    have e2 : ¬ 8 ≤ n := by omega
    simp [e1, e2] at hk; exact ⟨Keeps.self m, hk⟩
theorem named_in {n : Int} (h : namedR n = true) : 0 ≤ n ∧ n < 16 := by unfold namedR at h; simp at h; omega

theorem read_spec {m : Mem} {b : Nat} {S : St} (h : IsSt m b S) (hS : S.ok) {n : Int} {k : Int → Mem → Prop} (hk : k (readS S n) m) : F17 (.ptr b 0) n m k := by
  unfold F17; simp only [knilP, kptr]; refine kif_f rfl ?_
  unfold readS at hk
  refine named_spec ?_
  unfold P17_2004; simp only [knilP, kptr]
  refine kif_c _ (fun c => ?_) fun c => kif_c _ (fun c1 => ?_) fun c1 => ?_
  · have c : namedR n = false := by simpa using c
    have hn : n ≠ 1 := fun e => by subst e; cases c
    rw [if_neg hn, if_neg (by rw [c]; simp)] at hk; exact ⟨Keeps.self m, hk⟩
  · have e := ofbeq c1; subst e
    show ldI _ _ _ _ _
    rw [ldI_st h (by omega) rfl, tmod_nn (hS.1 48 (by omega)).1]; exact ⟨Keeps.self m, hk⟩
  · have c : namedR n = true := by simpa using c
    obtain ⟨n0, n1⟩ := named_in c
    rw [if_neg (ofbne c1), if_pos c] at hk
    unfold P17_5102; simp only [knilP, kptr]
    refine kif_ix n0 n1 ?_
    rw [show 0 + 39 + n.toNat * 1 = 39 + n.toNat by omega, ldI_st h (by omega) (by simp [isP3]; omega)]; exact ⟨Keeps.self m, hk⟩
theorem rread_spec {m : Mem} {b : Nat} {S : St} (h : IsSt m b S) (hS : S.ok) {n : Int} {k : Int → Mem → Prop} (hk : k (readS S n) m) : F28 b 0 n m k := by
  unfold F28
  unfold readS at hk
  refine kif_c _ (fun c1 => ?_) fun c1 => rnamed_spec (kif_c _ (fun c => ?_) fun c => ?_)
  · have e := ofbeq c1; subst e
    rw [ldI_st h (by omega) rfl, tmod_nn (hS.1 48 (by omega)).1]; exact ⟨Keeps.self m, hk⟩
  · have c : namedR n = false := by simpa using c
    rw [if_neg (ofbne c1), if_neg (by rw [c]; simp)] at hk; exact ⟨Keeps.self m, hk⟩
  · have c : namedR n = true := by simpa using c
    obtain ⟨n0, n1⟩ := named_in c
    rw [if_neg (ofbne c1), if_pos c] at hk
    refine kif_ix n0 n1 ?_
    rw [show 0 + 39 + n.toNat * 1 = 39 + n.toNat by omega, ldI_st h (by omega) (by simp [isP3]; omega)]; exact ⟨Keeps.self m, hk⟩

/-! ### two States that are the same -/
/-- all blocks that are there, but two -/
def Rest2 (b c : Nat) (m m' : Mem) : Prop := ∀ b', b' ≠ b → b' ≠ c → m.obj b' ≠ none → m'.obj b' = m.obj b'
theorem Rest2.refl (b c : Nat) (m : Mem) : Rest2 b c m m := fun _ _ _ _ => rfl
theorem Rest2.trans {b c : Nat} {m m1 m2 : Mem} (h : Rest2 b c m m1) (h' : Rest2 b c m1 m2) : Rest2 b c m m2 := fun b' h1 h2 h3 => by
  have e := h b' h1 h2 h3
  rw [h' b' h1 h2 (by rw [e]; exact h3), e]
theorem Only.rest {b c : Nat} {m m' : Mem} (h : Only m b m') : Rest2 b c m m' := fun b' h1 _ _ => h b' h1
theorem Only.rest' {b c : Nat} {m m' : Mem} (h : Only m c m') : Rest2 b c m m' := fun b' _ h2 _ => h b' h2
theorem Keeps.rest {b c : Nat} {m m' : Mem} (h : Keeps m m') : Rest2 b c m m' := fun b' _ _ h3 => h b' h3
/-- all blocks that are there, but one -/
def OnlyK (m : Mem) (b : Nat) (m' : Mem) : Prop := ∀ b', b' ≠ b → m.obj b' ≠ none → m'.obj b' = m.obj b'
theorem Only.onlyK {b : Nat} {m m' : Mem} (h : Only m b m') : OnlyK m b m' := fun b' h1 _ => h b' h1
theorem IsSt.onlyK {m m' : Mem} {b b' : Nat} {S : St} (h : IsSt m b S) (O : OnlyK m b' m') (hne : b ≠ b') : IsSt m' b S := by
  obtain ⟨x, e, r⟩ := h
  exact ⟨x, by rw [O b hne (by rw [e]; simp)]; exact e, r⟩
theorem OnlyK.rest {b c : Nat} {m m' : Mem} (h : OnlyK m b m') : Rest2 b c m m' := fun b' h1 _ h3 => h b' h1 h3
theorem OnlyK.rest' {b c : Nat} {m m' : Mem} (h : OnlyK m c m') : Rest2 b c m m' := fun b' _ h2 h3 => h b' h2 h3

theorem St.same_refl (S : St) : S.same S := fun i _ => by split <;> rfl
structure Two (b c : Nat) (S : St) (m : Mem) : Prop where
  l : IsSt m b S
  r : IsSt m c S
  ne : b ≠ c
  ok : S.ok

end Go.Proofs.Ytckhobljijpfpaa.Am
