/- cp0.Write: the same plain function of a State as the reference's. Conditions: the State lies in a block of its own. -/
import Derived.Test.YtobdghdcmkdcaaaK6b
namespace Go.Proofs.Ytobdghdcmkdcaaa.Am
set_option linter.unusedVariables false
set_option linter.unusedSimpArgs false

theorem write_spec {m : Mem} {b : Nat} {S : St} (h : IsSt m b S) {n v : Int} {k : Mem → Prop} (hk : ∀ m', IsSt m' b (writeS S n v) → Only m b m' → k m') : F26 b 0 n v m k := by
  unfold F26
  refine kif_c _ (fun h1 => ?_) fun h1 => ?_
  · have e := ofbeq h1; subst e
    exact kif_ix (by omega) (by omega) (stC_st h (by decide) rfl hk)
  refine kif_c _ (fun h2 => ?_) fun h2 => ?_
  · have e := ofbeq h2; subst e
    exact kif_ix (by omega) (by omega) (stC_st h (by decide) rfl hk)
  refine kif_c _ (fun h3 => ?_) fun h3 => ?_
  · have e := ofbeq h3; subst e
    exact kif_ix (by omega) (by omega) (stC_st h (by decide) rfl hk)
  have h1 := ofbne h1; have h2 := ofbne h2; have h3 := ofbne h3
  have key : ∀ (c : Bool), (c = true → n = 9 ∨ n = 14) → (c = false → n ≠ 9 ∧ n ≠ 14) → P26_10004 b 0 n v n c m k := by
    intro c hc hc'
    unfold P26_10004
    refine kif_c _ (fun h4 => ?_) fun h4 => ?_
    · have e : writeS S n v = S.putN (39 + n.toNat) v := by unfold writeS; simp [h1, h2, h3, hc h4]
      rw [e] at hk
      have hn : 9 ≤ n ∧ n ≤ 14 := by rcases hc h4 with e | e <;> omega
      refine kif_ix (by omega) (by omega) ?_
      have e2 : 0 + 39 + n.toNat * 1 = 39 + n.toNat := by omega
      rw [e2]
      exact stC_st h (by omega) (by simp [isP3]; omega) hk
    have h5 := hc' h4
    refine kif_c _ (fun h6 => ?_) fun h6 => ?_
    · have e := ofbeq h6; subst e
      refine kif_ix (by omega) (by omega) (stC_st h (by decide) rfl fun m1 i1 o1 => ?_)
      rw [ldI_st i1 (by decide) rfl]
      exact stC_st i1 (by decide) rfl fun m2 i2 o2 => hk m2 i2 (o1.trans o2)
    refine kif_c _ (fun h7 => ?_) fun h7 => ?_
    · have e := ofbeq h7; subst e
      exact kif_ix (by omega) (by omega) (stC_st h (by decide) rfl hk)
    refine kif_c _ (fun h8 => ?_) fun h8 => ?_
    · have e := ofbeq h8; subst e
      refine kif_ix (by omega) (by omega) ?_
      rw [ldI_st h (by decide) rfl]
      exact kif_ix (by omega) (by omega) (stC_st h (by decide) rfl hk)
    · have h6 := ofbne h6; have h7 := ofbne h7; have h8 := ofbne h8
      have e : writeS S n v = S := by unfold writeS; simp [h1, h2, h3, h5, h6, h7, h8]
      rw [e] at hk
      exact hk m h (Only.refl m b)
  refine kif_c _ (fun h4 => ?_) fun h4 => ?_
  · have h4' := ofbeq h4
    rw [h4]; exact key true (fun _ => .inl h4') (fun h => by cases h)
  · have h4' := ofbne h4
    refine key _ (fun h => .inr (ofbeq h)) fun h => ⟨h4', ofbne h⟩

theorem fresh_spec {m : Mem} {k : (Nat → AV) → Mem → Prop} (hk : ∀ c, StCells c St0 → k c m) : F24 m k := by
  unfold F24
  intro b2 hb2 b4 hb4
  have hne : b4 ≠ b2 := fun e => by subst e; rw [set_same] at hb4; cases hb4
  refine stS_st (set_same _ _ _) rfl rfl y73_cells fun m5 i5 o5 => stC_st i5 (by decide) rfl fun m6 i6 o6 => ?_
  rw [Sty_54] at i6
  refine ldS_st i6 fun c7 h7 => ?_
  have e2 := ((o6 b2 (Ne.symm hne)).trans (o5 b2 (Ne.symm hne))).trans ((set_other _ (Ne.symm hne)).trans (set_same _ _ _))
  refine stS_st e2 rfl rfl h7 fun m8 i8 o8 => ldS_st i8 fun c9 h9 => ⟨fun b' h' => ?_, h9.inDom m, hk c9 h9⟩
  have n2 : b' ≠ b2 := fun e => h' (e ▸ hb2)
  have hb4' : m.obj b4 = none := by rw [set_other _ hne] at hb4; exact hb4
  have n4 : b' ≠ b4 := fun e => h' (e ▸ hb4')
  rw [o8 b' n2, o6 b' n4, o5 b' n4, set_other _ n4, set_other _ n2]

end Go.Proofs.Ytobdghdcmkdcaaa.Am
