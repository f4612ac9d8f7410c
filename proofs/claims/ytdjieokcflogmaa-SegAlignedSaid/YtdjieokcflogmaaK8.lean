/- Where an address lies: what the program and the reference ask: the same plain function of a State. Conditions: the State lies in a block of its own, its numbers are in their ranges. -/
import Derived.Test.YtdjieokcflogmaaK7
namespace Go.Proofs.Ytdjieokcflogmaa.Am
set_option linter.unusedVariables false
set_option linter.unusedSimpArgs false

def liesS (S : St) (va n : Int) (store : Bool) : Int × Int × Bool :=
  let n' := if n ≠ 1 ∧ n ≠ 2 then 4 else n
  if va % n' ≠ 0 ∨ (2147483648 ≤ va ∧ userS S = true) then (0, if store = true then 5 else 4, false)
  else if 2147483648 ≤ va ∧ va < 3221225472 then (bits .and .u32 va 536870911, -1, false)
  else lookS S va store
def modeS (S : St) : Int := if userS S = true then bits .and .u32 (S.n 49) 255 + 256 else bits .and .u32 (S.n 49) 255


theorem tmod_nn {a b : Int} (h : 0 ≤ a) : a.tmod b = a % b := Int.tmod_eq_emod_of_nonneg h

theorem seg_body {m : Mem} {b : Nat} {S : St} (h : IsSt m b S) {va n : Int} (h0 : 0 ≤ va) (h1 : va < 4294967296) {store : Bool} {kr : Int → Int → Bool → Mem → Prop} (hk : kr (liesS S va n store).1 (liesS S va n store).2.1 (liesS S va n store).2.2 m) : P10_6103 b 0 va n store (if store = true then 5 else 4) m kr := by
  unfold liesS at hk
  have key : ∀ n' : Int, (n' = 1 ∨ n' = 2 ∨ n' = 4) → (if n ≠ 1 ∧ n ≠ 2 then 4 else n) = n' → P10_8105 b 0 va n' store (if store = true then 5 else 4) m kr := by
    intro n' hn' e
    rw [e] at hk
    unfold P10_8105
    have hw : IntKind.wrap .u32 n' = n' := by rw [wrap32]; rcases hn' with rfl | rfl | rfl <;> rfl
    rw [hw, tmod_nn h0]
    refine kif_f (by rcases hn' with rfl | rfl | rfl <;> rfl) ?_
    have rest : ∀ q, (q = true ↔ va % n' ≠ 0 ∨ (2147483648 ≤ va ∧ userS S = true)) → P10_9004 b 0 va store (if store = true then 5 else 4) q m kr (fun m12 => P10_12102 b 0 va store m12 kr) := by
      intro q hq
      unfold P10_9004
      refine kif_c _ (fun c1 => ?_) fun c1 => ?_
      · rw [if_pos (hq.1 c1)] at hk; exact hk
      rw [if_neg (fun e => by rw [hq.2 e] at c1; cases c1)] at hk
      have look : (¬ (2147483648 ≤ va ∧ va < 3221225472)) → P10_12102 b 0 va store m kr := by
        intro hn
        rw [if_neg hn] at hk
        unfold P10_12102
        exact look_spec h hk
      refine kif_c _ (fun c2 => kif_c _ (fun c3 => ?_) fun c3 => ?_) fun c2 => ?_
      · rw [if_pos ⟨by simpa using c2, by simpa using c3⟩] at hk; exact hk
      · exact look fun e => by simp at c3; omega
      · exact look fun e => by simp at c2; omega
    refine kif_c _ (fun c1 => rest true (by simp at c1; simp [c1])) fun c1 => ?_
    have c1 : va % n' = 0 := by simpa using c1
    refine kif_c _ (fun c2 => ?_) fun c2 => rest false (by simp at c2; simp [c1]; intro; omega)
    refine user_spec h (rest _ (by simp at c2; simp [c1, c2]))
  unfold P10_6103
  refine kif_c _ (fun c1 => kif_c _ (fun c2 => ?_) fun c2 => ?_) fun c1 => ?_
  · have c1 : n ≠ 1 := by simpa using c1
    have c2 : n ≠ 2 := by simpa using c2
    exact key 4 (by simp) (by simp [c1, c2])
  · have c2 : n = 2 := by simpa using c2
    exact key n (by simp [c2]) (by simp [c2])
  · have c1 : n = 1 := by simpa using c1
    exact key n (by simp [c1]) (by simp [c1])
theorem seg_spec {m : Mem} {b : Nat} {S : St} (h : IsSt m b S) {va n : Int} (h0 : 0 ≤ va) (h1 : va < 4294967296) {store : Bool} {k : Int → Int → Bool → Mem → Prop} (hk : k (liesS S va n store).1 (liesS S va n store).2.1 (liesS S va n store).2.2 m) : F10 b 0 va n store m k := by
  unfold F10
  cases store with
  | true => exact seg_body h h0 h1 ⟨Keeps.self m, hk⟩
  | false => exact seg_body h h0 h1 ⟨Keeps.self m, hk⟩

theorem lies_body {m : Mem} {b : Nat} {S : St} (h : IsSt m b S) {va n : Int} (h0 : 0 ≤ va) (h1 : va < 4294967296) {store : Bool} {kr : Int → Int → Bool → Mem → Prop} (n' : Int) (hn' : n' = 1 ∨ n' = 2 ∨ n' = 4) (e : (if n ≠ 1 ∧ n ≠ 2 then 4 else n) = n') (hk : kr (liesS S va n store).1 (liesS S va n store).2.1 (liesS S va n store).2.2 m) : P16_3103 b 0 va n' store m kr := by
  unfold liesS at hk
  dsimp only at hk
  rw [e] at hk
  unfold P16_3103
  have hw : IntKind.wrap .u32 n' = n' := by rw [wrap32]; rcases hn' with rfl | rfl | rfl <;> rfl
  rw [hw, tmod_nn h0]
  refine kif_f (by rcases hn' with rfl | rfl | rfl <;> rfl) ?_
  have rest : ∀ q, (q = true ↔ va % n' ≠ 0 ∨ (2147483648 ≤ va ∧ userS S = true)) → P16_4004 b 0 va store q m kr (fun m12 => P16_7103 b 0 va store m12 kr) := by
    intro q hq
    unfold P16_4004
    refine kif_c _ (fun c1 => ?_) fun c1 => ?_
    · rw [if_pos (hq.1 c1)] at hk
      cases store with
      | true => exact hk
      | false => exact hk
    rw [if_neg (fun e => by rw [hq.2 e] at c1; cases c1)] at hk
    have look : (¬ (2147483648 ≤ va ∧ va < 3221225472)) → P16_9102 b 0 va store m kr := by
      intro hn
      rw [if_neg hn] at hk
      unfold P16_9102
      exact rlook_spec h hk
    unfold P16_7103
    refine kif_c _ (fun c2 => kif_c _ (fun c3 => ?_) fun c3 => ?_) fun c2 => ?_
    · rw [if_pos ⟨by simpa using c2, by simpa using c3⟩] at hk; exact hk
    · exact look fun e => by simp at c3; omega
    · exact look fun e => by simp at c2; omega
  refine kif_c _ (fun c1 => rest true (by simp at c1; simp [c1])) fun c1 => ?_
  have c1 : va % n' = 0 := by simpa using c1
  refine ruser_spec h (kif_c _ (fun c2 => ?_) fun c2 => rest false (by simp [c1, c2]))
  exact rest _ (by simp [c1, c2])
theorem lies_spec {m : Mem} {b : Nat} {S : St} (h : IsSt m b S) {va n : Int} (h0 : 0 ≤ va) (h1 : va < 4294967296) {store : Bool} {k : Int → Int → Bool → Mem → Prop} (hk : k (liesS S va n store).1 (liesS S va n store).2.1 (liesS S va n store).2.2 m) : F16 b 0 va n store m k := by
  unfold F16
  refine kif_c _ (fun c1 => kif_c _ (fun c2 => ?_) fun c2 => ?_) fun c1 => ?_
  · have c1 : n ≠ 1 := by simpa using c1
    have c2 : n ≠ 2 := by simpa using c2
    exact lies_body h h0 h1 4 (by simp) (by simp [c1, c2]) ⟨Keeps.self m, hk⟩
  · have c2 : n = 2 := by simpa using c2
    exact lies_body h h0 h1 n (by simp [c2]) (by simp [c2]) ⟨Keeps.self m, hk⟩
  · have c1 : n = 1 := by simpa using c1
    exact lies_body h h0 h1 n (by simp [c1]) (by simp [c1]) ⟨Keeps.self m, hk⟩

theorem mode_wrap (x : Int) : IntKind.wrap .i64 (bits .and .u32 x 255) = bits .and .u32 x 255 ∧ IntKind.wrap .i64 (bits .and .u32 x 255 + 256) = bits .and .u32 x 255 + 256 := by
  have := and_rng x 255
  exact ⟨wrap64 (by omega) (by omega), wrap64 (by omega) (by omega)⟩
theorem mode_spec {m : Mem} {b : Nat} {S : St} (h : IsSt m b S) {k : Int → Mem → Prop} (hk : k (modeS S) m) : F17 b 0 m k := by
  unfold F17
  rw [ldI_st h (by omega) rfl]
  unfold modeS at hk
  obtain ⟨w1, w2⟩ := mode_wrap (S.n (0 + 39 + 10))
  rw [w1, w2]
  refine user_spec h (kif_c _ (fun c => ?_) fun c => ?_)
  · rw [if_pos c] at hk; exact ⟨Keeps.self m, hk⟩
  · rw [if_neg (by rw [c]; simp)] at hk; exact ⟨Keeps.self m, hk⟩
theorem rmode_spec {m : Mem} {b : Nat} {S : St} (h : IsSt m b S) {k : Int → Mem → Prop} (hk : k (modeS S) m) : F18 b 0 m k := by
  unfold F18
  rw [ldI_st h (by omega) rfl]
  unfold modeS at hk
  obtain ⟨w1, w2⟩ := mode_wrap (S.n (0 + 39 + 10))
  rw [w1, w2]
  refine ruser_spec h (kif_c _ (fun c => ?_) fun c => ?_)
  · rw [if_pos c] at hk; exact ⟨Keeps.self m, hk⟩
  · rw [if_neg (by rw [c]; simp)] at hk; exact ⟨Keeps.self m, hk⟩

theorem fresh_spec {m : Mem} {k : (Nat → AV) → Mem → Prop} (hk : ∀ c, StCells c St0 → k c m) : F12 m k := by
  unfold F12
  intro b2 hb2 b4 hb4
  have hne : b4 ≠ b2 := fun e => by subst e; rw [set_same] at hb4; cases hb4
  refine stS_st (set_same _ _ _) rfl rfl y73_cells fun m5 i5 o5 => stC_st i5 (by decide) rfl fun m6 i6 o6 => ?_
  rw [Sty_54] at i6
  refine ldS_st i6 fun c7 h7 => ?_
  have e2 := ((o6 b2 (Ne.symm hne)).trans (o5 b2 (Ne.symm hne))).trans ((set_other _ (Ne.symm hne)).trans (set_same _ _ _))
  refine stS_st e2 rfl rfl h7 fun m8 i8 o8 => ldS_st i8 fun c9 h9 => ⟨fun b' h' => ?_, h9.inDom m, hk c9 h9⟩
  have n2 : b' ≠ b2 := fun e => h' (e ▸ hb2)
  have hb4' : m.obj b4 = none := by rw [set_other _ hne] at hb4; exact hb4
  have n4 : b' ≠ b4 := fun e => h' (e ▸ hb4')
  rw [o8 b' n2, o6 b' n4, o5 b' n4, set_other _ n4, set_other _ n2]

theorem known8 {m : Mem} {k : Bool → Mem → Prop} (hk : k true m) : F9 m k := by
  unfold F9
  refine fresh_spec fun c1 h1 => newS h1 fun b4 m5 hb K O i => ?_
  refine seg_spec i (by omega) (by omega) (seg_spec i (by omega) (by omega) ?_)
  have e1 : liesS St0 2147484672 4 false = (1024, -1, false) := by decide
  have e2 : liesS St0 2 4 true = (0, 5, false) := by decide
  rw [e1, e2]
  refine kif_t rfl (kif_t rfl (kif_t rfl (mode_spec i ?_)))
  have e3 : modeS St0 = 0 := by decide
  rw [e3]
  exact ⟨K, hk⟩

theorem same_spec {m : Mem} {b : Nat} {S : St} (h : IsSt m b S) {va n : Int} (h0 : 0 ≤ va) (h1 : va < 4294967296) {k : Bool → Mem → Prop} (hk : k true m) : F8 b 0 va n m k := by
  unfold F8
  refine newK_i fun b2 m1 hb2 K e2 O => ?_
  have i1 := h.keep K
  have round : ∀ (i : Nat) (kn : Int → Mem → Prop) (k0 : Mem → Prop) (kr : Bool → Mem → Prop), i < 2 → kn (i + 1) m1 → R8_2 b 0 va n (.sl b2 0 2 (.ex 2)) 2 i m1 kn k0 kr := by
    intro i kn k0 kr hi hkn
    unfold R8_2
    refine kif_t (by simp; omega) (kif_ix (by omega) (by omega) ?_)
    have hq : ∃ q, upd (upd (lget [(.flat (.bool false)), (.flat (.bool false))]) 0 (.flat (.bool false))) 1 (.flat (.bool true)) (0 + (i : Int).toNat * 1) = AV.flat (.bool q) := by
      have : i = 0 ∨ i = 1 := by omega
      rcases this with rfl | rfl <;> exact ⟨_, rfl⟩
    obtain ⟨q, hq⟩ := hq
    rw [ldB_of e2 (by show 0 + (i : Int).toNat * 1 < 2; omega) hq]
    refine seg_spec i1 h0 h1 (lies_spec i1 h0 h1 ?_)
    refine kif_f (by simp) (kif_f (by simp) (kif_f (by simp) ?_))
    rw [wrap64 (by omega) (by omega)]
    exact hkn
  refine ⟨3, ?_⟩
  unfold L8_2
  refine round 0 _ _ _ (by omega) ?_
  unfold L8_2
  refine round 1 _ _ _ (by omega) ?_
  unfold L8_2 R8_2
  refine kif_f (by decide) (mode_spec i1 (rmode_spec i1 ⟨K, ?_⟩))
  simpa using hk

end Go.Proofs.Ytdjieokcflogmaa.Am
