/- cp0.Write: the same plain function of a State as the reference's. Conditions: the State lies in a block of its own. -/
import Derived.Test.YtdjieokcflogmaaK6b
namespace Go.Proofs.Ytdjieokcflogmaa.Am
set_option linter.unusedVariables false
set_option linter.unusedSimpArgs false

theorem write_spec {m : Mem} {b : Nat} {S : St} (h : IsSt m b S) {n v : Int} {k : Mem → Prop} (hk : ∀ m', IsSt m' b (writeS S n v) → Only m b m' → k m') : F13 b 0 n v m k := by
  unfold F13
  refine kif_c _ (fun h1 => ?_) fun h1 => ?_
  · have e := ofbeq h1; subst e
    exact kif_ix (by omega) (by omega) (stC_st h (by decide) rfl hk)
  refine kif_c _ (fun h2 => ?_) fun h2 => ?_
  · have e := ofbeq h2; subst e
    exact kif_ix (by omega) (by omega) (stC_st h (by decide) rfl hk)
  refine kif_c _ (fun h3 => ?_) fun h3 => ?_
  · have e := ofbeq h3; subst e
    exact kif_ix (by omega) (by omega) (stC_st h (by decide) rfl hk)
  have h1 := ofbne h1; have h2 := ofbne h2; have h3 := ofbne h3
  have key : ∀ (c : Bool), (c = true → n = 9 ∨ n = 14) → (c = false → n ≠ 9 ∧ n ≠ 14) → P13_10004 b 0 n v n c m k := by
    intro c hc hc'
    unfold P13_10004
    refine kif_c _ (fun h4 => ?_) fun h4 => ?_
    · have e : writeS S n v = S.putN (39 + n.toNat) v := by unfold writeS; simp [h1, h2, h3, hc h4]
      rw [e] at hk
      have hn : 9 ≤ n ∧ n ≤ 14 := by rcases hc h4 with e | e <;> omega
      refine kif_ix (by omega) (by omega) ?_
      have e2 : 0 + 39 + n.toNat * 1 = 39 + n.toNat := by omega
      rw [e2]
      exact stC_st h (by omega) (by simp [isP3]; omega) hk
    have h5 := hc' h4
    refine kif_c _ (fun h6 => ?_) fun h6 => ?_
    · have e := ofbeq h6; subst e
      refine kif_ix (by omega) (by omega) (stC_st h (by decide) rfl fun m1 i1 o1 => ?_)
      rw [ldI_st i1 (by decide) rfl]
      exact stC_st i1 (by decide) rfl fun m2 i2 o2 => hk m2 i2 (o1.trans o2)
    refine kif_c _ (fun h7 => ?_) fun h7 => ?_
    · have e := ofbeq h7; subst e
      exact kif_ix (by omega) (by omega) (stC_st h (by decide) rfl hk)
    refine kif_c _ (fun h8 => ?_) fun h8 => ?_
    · have e := ofbeq h8; subst e
      refine kif_ix (by omega) (by omega) ?_
      rw [ldI_st h (by decide) rfl]
      exact kif_ix (by omega) (by omega) (stC_st h (by decide) rfl hk)
    · have h6 := ofbne h6; have h7 := ofbne h7; have h8 := ofbne h8
      have e : writeS S n v = S := by unfold writeS; simp [h1, h2, h3, h5, h6, h7, h8]
      rw [e] at hk
      exact hk m h (Only.refl m b)
  refine kif_c _ (fun h4 => ?_) fun h4 => ?_
  · have h4' := ofbeq h4
    rw [h4]; exact key true (fun _ => .inl h4') (fun h => by cases h)
  · have h4' := ofbne h4
    refine key _ (fun h => .inr (ofbeq h)) fun h => ⟨h4', ofbne h⟩

end Go.Proofs.Ytdjieokcflogmaa.Am
