/- What functions of cp0, tlb, seg and of their references ask of what follows them: plain functions of a State. Conditions: the State lies in a block of its own. -/
import Derived.Test.YtobdghdcmkdcaaaAmW
import Derived.Test.YtobdghdcmkdcaaaM4
namespace Go.Proofs.Ytobdghdcmkdcaaa.Am
set_option linter.unusedVariables false
set_option linter.unusedSimpArgs false

/-! ### plain functions -/
def userS (S : St) : Bool := (bits .and .u32 (S.n 51) 16 != 0) && (bits .and .u32 (S.n 51) 2 == 0)
def writeS (S : St) (n v : Int) : St :=
  if n = 0 then S.putN 39 (bits .and .u32 v 7)
  else if n = 2 then S.putN 41 (bits .and .u32 v 4294966279)
  else if n = 10 then S.putN 49 (bits .and .u32 v 4294966527)
  else if n = 9 ∨ n = 14 then S.putN (39 + n.toNat) v
  else if n = 11 then (S.putN 50 v).putN 52 (bits .andNot .u32 (S.n 52) 32768)
  else if n = 12 then S.putN 51 (bits .and .u32 v 65299)
  else if n = 13 then S.putN 52 (bits .or .u32 (bits .andNot .u32 (S.n 52) 768) (bits .and .u32 v 768))
  else S
theorem putN_ok {S : St} (h : S.ok) {i : Nat} {v : Int} (hi : i < 72) (h0 : 0 ≤ v) (h1 : v < 4294967296) : (S.putN i v).ok := by
  refine ⟨fun j hj => ?_, ?_⟩
  · unfold St.putN upd; dsimp only; split
    · exact ⟨h0, h1⟩
    · exact h.1 j hj
  · unfold St.putN upd; dsimp only; rw [if_neg (by omega)]; exact h.2
theorem putT_ok {S : St} (h : S.ok) {v : Int} (h0 : -9223372036854775808 ≤ v) (h1 : v < 9223372036854775808) : (S.putN 72 v).ok := by
  refine ⟨fun j hj => ?_, ?_⟩
  · unfold St.putN upd; dsimp only; rw [if_neg (by omega)]; exact h.1 j hj
  · unfold St.putN upd; dsimp only; rw [if_pos rfl]; exact ⟨h0, h1⟩
theorem putP_ok {S : St} (h : S.ok) {i : Nat} {v : Bool} : (S.putP i v).ok := h
theorem writeS_ok {S : St} (h : S.ok) {n v : Int} (h0 : 0 ≤ v) (h1 : v < 4294967296) : (writeS S n v).ok := by
  unfold writeS
  split
  · exact putN_ok h (by omega) (and_rng _ _).1 (and_rng _ _).2
  split
  · exact putN_ok h (by omega) (and_rng _ _).1 (and_rng _ _).2
  split
  · exact putN_ok h (by omega) (and_rng _ _).1 (and_rng _ _).2
  split
  · rename_i e; exact putN_ok h (by rcases e with rfl | rfl <;> decide) h0 h1
  split
  · exact putN_ok (putN_ok h (by omega) h0 h1) (by omega) (not_rng _ _).1 (not_rng _ _).2
  split
  · exact putN_ok h (by omega) (and_rng _ _).1 (and_rng _ _).2
  split
  · exact putN_ok h (by omega) (or_rng _ _).1 (or_rng _ _).2
  · exact h

/-! ### the functions -/
theorem beqZ {a b : Int} (h : a = b) : (a == b) = true := by simpa using h
theorem bneZ {a b : Int} (h : a ≠ b) : (a == b) = false := by simpa using h
theorem ofbeq {a b : Int} (h : (a == b) = true) : a = b := by simpa using h
theorem ofbne {a b : Int} (h : (a == b) = false) : a ≠ b := by simpa using h

theorem rwrite_spec {m : Mem} {b : Nat} {S : St} (h : IsSt m b S) {n v : Int} {k : Mem → Prop} (hk : ∀ m', IsSt m' b (writeS S n v) → Only m b m' → k m') : F23 b 0 n v m k := by
  unfold F23
  refine kif_c _ (fun h1 => ?_) fun h1 => ?_
  · have e := ofbeq h1; subst e
    exact kif_ix (by omega) (by omega) (stC_st h (by decide) rfl hk)
  refine kif_c _ (fun h2 => ?_) fun h2 => ?_
  · have e := ofbeq h2; subst e
    exact kif_ix (by omega) (by omega) (stC_st h (by decide) rfl hk)
  refine kif_c _ (fun h3 => ?_) fun h3 => ?_
  · have e := ofbeq h3; subst e
    exact kif_ix (by omega) (by omega) (stC_st h (by decide) rfl hk)
  have h1 := ofbne h1; have h2 := ofbne h2; have h3 := ofbne h3
  have key : ∀ (c : Bool), (c = true → n = 9 ∨ n = 14) → (c = false → n ≠ 9 ∧ n ≠ 14) → P23_9004 b 0 n v n c m k := by
    intro c hc hc'
    unfold P23_9004
    refine kif_c _ (fun h4 => ?_) fun h4 => ?_
    · have e : writeS S n v = S.putN (39 + n.toNat) v := by unfold writeS; simp [h1, h2, h3, hc h4]
      rw [e] at hk
      have hn : 9 ≤ n ∧ n ≤ 14 := by rcases hc h4 with e | e <;> omega
      refine kif_ix (by omega) (by omega) ?_
      have e2 : 0 + 39 + n.toNat * 1 = 39 + n.toNat := by omega
      rw [e2]
      exact stC_st h (by omega) (by simp [isP3]; omega) hk
    have h5 := hc' h4
    refine kif_c _ (fun h6 => ?_) fun h6 => ?_
    · have e := ofbeq h6; subst e
      refine kif_ix (by omega) (by omega) (stC_st h (by decide) rfl fun m1 i1 o1 => ?_)
      rw [ldI_st i1 (by decide) rfl]
      exact stC_st i1 (by decide) rfl fun m2 i2 o2 => hk m2 i2 (o1.trans o2)
    refine kif_c _ (fun h7 => ?_) fun h7 => ?_
    · have e := ofbeq h7; subst e
      exact kif_ix (by omega) (by omega) (stC_st h (by decide) rfl hk)
    refine kif_c _ (fun h8 => ?_) fun h8 => ?_
    · have e := ofbeq h8; subst e
      refine kif_ix (by omega) (by omega) ?_
      rw [ldI_st h (by decide) rfl]
      exact kif_ix (by omega) (by omega) (stC_st h (by decide) rfl hk)
    · have h6 := ofbne h6; have h7 := ofbne h7; have h8 := ofbne h8
      have e : writeS S n v = S := by unfold writeS; simp [h1, h2, h3, h5, h6, h7, h8]
      rw [e] at hk
      exact hk m h (Only.refl m b)
  refine kif_c _ (fun h4 => ?_) fun h4 => ?_
  · have h4' := ofbeq h4
    rw [h4]; exact key true (fun _ => .inl h4') (fun h => by cases h)
  · have h4' := ofbne h4
    refine key _ (fun h => .inr (ofbeq h)) fun h => ⟨h4', ofbne h⟩

theorem cells_all {c d : Nat → AV} {n : Nat} (h : (List.range n).map c = (List.range n).map d) : ∀ i, i < n → c i = d i := fun i hi => List.map_inj_left.1 h i (List.mem_range.2 hi)
def St0 : St := { n := fun i => if i = 34 then 2147484672 else if i = 35 then 2147484676 else if i = 54 then 98304 else 0, p := fun _ => false }
theorem St0_ok : St0.ok := by
  refine ⟨fun i hi => ?_, by decide, by decide⟩
  unfold St0; dsimp only
  split
  · omega
  split
  · omega
  split <;> omega
def Stz : St := { n := fun _ => 0, p := fun _ => false }
def Sty : St := { n := fun i => if i = 34 then 2147484672 else if i = 35 then 2147484676 else 0, p := fun _ => false }
theorem z73_cells : StCells Z73 Stz := cells_all (by kernel_rfl)
theorem y73_cells : StCells (upd (upd (Z73) 34 (.flat (.int .u32 2147484672))) 35 (.flat (.int .u32 2147484676))) Sty := cells_all (by kernel_rfl)
theorem St.ext {S T : St} (h : ∀ i, S.n i = T.n i) (h' : ∀ i, S.p i = T.p i) (hx : S.x = T.x := by rfl) (hq : S.q = T.q := by rfl) : S = T := by
  cases S; cases T
  simp only [St.mk.injEq]
  exact ⟨funext h, funext h', hx, hq⟩
theorem Sty_54 : Sty.putN 54 98304 = St0 := St.ext (fun i => by unfold Sty St.putN St0 upd; dsimp only; by_cases c : i = 54 <;> simp [c]) fun i => rfl

theorem rfresh_spec {m : Mem} {k : (Nat → AV) → Mem → Prop} (hk : ∀ c, StCells c St0 → k c m) : F22 m k := by
  unfold F22
  intro b2 hb2 b4 hb4
  have hne : b4 ≠ b2 := fun e => by subst e; rw [set_same] at hb4; cases hb4
  refine stS_st (set_same _ _ _) rfl rfl y73_cells fun m5 i5 o5 => stC_st i5 (by decide) rfl fun m6 i6 o6 => ?_
  rw [Sty_54] at i6
  refine ldS_st i6 fun c7 h7 => ?_
  have e2 := ((o6 b2 (Ne.symm hne)).trans (o5 b2 (Ne.symm hne))).trans ((set_other _ (Ne.symm hne)).trans (set_same _ _ _))
  refine stS_st e2 rfl rfl h7 fun m8 i8 o8 => ldS_st i8 fun c9 h9 => ⟨fun b' h' => ?_, h9.inDom m, hk c9 h9⟩
  have n2 : b' ≠ b2 := fun e => h' (e ▸ hb2)
  have hb4' : m.obj b4 = none := by rw [set_other _ hne] at hb4; exact hb4
  have n4 : b' ≠ b4 := fun e => h' (e ▸ hb4')
  rw [o8 b' n2, o6 b' n4, o5 b' n4, set_other _ n4, set_other _ n2]

end Go.Proofs.Ytobdghdcmkdcaaa.Am
