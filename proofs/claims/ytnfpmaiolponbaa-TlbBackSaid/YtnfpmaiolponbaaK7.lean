/- The table: what Find and Look of the program and of the reference ask: the same plain function of a State. Conditions: the State lies in a block of its own. -/
import Derived.Test.YtnfpmaiolponbaaK6b
import Derived.Test.YtnfpmaiolponbaaAmW2
namespace Go.Proofs.Ytnfpmaiolponbaa.Am
set_option linter.unusedVariables false
set_option linter.unusedSimpArgs false

/-- an entry that an address meets -/
def tmatch (S : St) (va : Int) (i : Nat) : Bool :=
  (bits .and .u32 (S.n (55 + i * 2)) 4294966272 == bits .and .u32 va 4294966272) && ((bits .and .u32 (S.n (56 + i * 2)) 4 != 0) || (bits .and .u32 (S.n (55 + i * 2)) 255 == bits .and .u32 (S.n 49) 255))
def tfind (S : St) (va : Int) : Nat → Nat → Int
  | 0, _ => -1
  | d + 1, i => if tmatch S va i = true then i else tfind S va d (i + 1)
theorem tfind_rng (S : St) (va : Int) : ∀ (d i : Nat), tfind S va d i = -1 ∨ (i ≤ tfind S va d i ∧ tfind S va d i < i + d)
  | 0, i => .inl rfl
  | d + 1, i => by
    unfold tfind
    split
    · exact .inr (by omega)
    · rcases tfind_rng S va d (i + 1) with h | h
      · exact .inl h
      · exact .inr (by omega)
def lookS (S : St) (va : Int) (store : Bool) : Int × Int × Bool :=
  let code : Int := if store = true then 3 else 2
  let k := tfind S va 8 0
  if k < 0 then (0, code, true)
  else
    let lo := S.n (56 + k.toNat * 2)
    if (bits .and .u32 lo 1 == 0) = true then (0, code, false)
    else if store = true ∧ (bits .and .u32 lo 2 == 0) = true then (0, 1, false)
    else (bits .or .u32 (bits .and .u32 lo 4294966272) (bits .and .u32 va 1023), -1, false)
/-! ### the table -/
theorem e2cells (S : St) (i : Nat) (hi : i < 8) {c : Nat → AV} {o : Nat} (hc : ∀ j, j < 2 → c (o + j) = stc S (55 + i * 2 + j)) : c o = .flat (.int .u32 (S.n (55 + i * 2))) ∧ c (o + 1) = .flat (.int .u32 (S.n (56 + i * 2))) := by
  have h0 := hc 0 (by omega)
  have h1 := hc 1 (by omega)
  rw [stc_u (by simp [isP3]; omega) (by omega)] at h0 h1
  exact ⟨h0, by rw [h1, show 55 + i * 2 + 1 = 56 + i * 2 by omega]⟩

/-- a box of an entry, with its two words -/
theorem boxE {m : Mem} {t : TypeId} {z c : Nat → AV} {k : Nat → Mem → Prop} (hk : ∀ b m' x, m.obj b = none → Keeps m m' → m'.obj b = some x → x.n = 2 → (∀ j, j < 2 → x.c j = c j) → k b m') : newK m ⟨2, z, t, false⟩ fun b m2 => stG 2 m2 b 0 c fun m4 => k b m4 := by
  intro b hb
  rw [stG_of (set_same _ _ _) rfl (by show 0 + 2 ≤ 2; omega)]
  refine hk b _ _ hb (fun b' h' => ?_) (set_same _ _ _) rfl fun j hj => ?_
  · have : b' ≠ b := fun e => h' (e ▸ hb)
    rw [set_other _ this, set_other _ this]
  · show splice _ 0 2 c j = _
    unfold splice; rw [if_pos (by omega), Nat.sub_zero]

theorem rfind_loop {m0 : Mem} {b : Nat} {S : St} (h : IsSt m0 b S) {va : Int} {k0 : Mem → Prop} {kr : Int → Mem → Prop} (h0 : tfind S va 8 0 = -1 → ∀ m', Keeps m0 m' → k0 m') (h1 : ∀ m', Keeps m0 m' → 0 ≤ tfind S va 8 0 → kr (tfind S va 8 0) m') :
    ∀ (d i : Nat), i + d = 8 → tfind S va d i = tfind S va 8 0 → ∀ m, Keeps m0 m → L24_2 b 0 va (d + 1) i m k0 kr := by
  intro d
  induction d with
  | zero =>
    intro i hi e m K
    obtain rfl : i = 8 := by omega
    unfold L24_2 R24_2
    exact kif_f (by decide) (h0 (by rw [← e]; rfl) m K)
  | succ d ih =>
    intro i hi e m K
    have hi8 : i < 8 := by omega
    unfold L24_2 R24_2
    refine kif_t (by simp; omega) (kif_ix (by omega) (by omega) ?_)
    obtain ⟨x, ex, hn, _, hc⟩ := h.keep K
    have eo : 0 + 55 + (i : Int).toNat * 2 = 55 + i * 2 := by omega
    rw [eo, ldG_of ex (by omega)]
    refine boxE fun b3 m4 y hb3 K4 e4 hn4 hc4 => ?_
    have hcc : ∀ j, j < 2 → y.c (0 + j) = stc S (55 + i * 2 + j) := fun j hj => by
      rw [Nat.zero_add, hc4 j hj]; simp only [sub, if_pos hj]; exact hc _ (by omega)
    obtain ⟨c0, c1⟩ := e2cells S i hi8 hcc
    rw [ldI_of e4 (by omega) c0]
    have K04 : Keeps m0 m4 := K.trans K4
    have hnext : tmatch S va i = false → L24_2 b 0 va (d + 1) (IntKind.wrap .i64 ((i : Int) + 1)) m4 k0 kr := fun hm => by
      rw [wrap64 (by omega) (by omega)]
      have := ih (i + 1) (by omega) (by rw [← e]; conv => rhs; unfold tfind; rw [if_neg (by rw [hm]; simp)]) m4 K04
      exact_mod_cast this
    have hhit : tmatch S va i = true → kr i m4 := fun hm => by
      have e2 : tfind S va 8 0 = i := by rw [← e]; unfold tfind; rw [if_pos hm]
      have := h1 m4 K04 (by rw [e2]; omega)
      rw [e2] at this; exact this
    rw [not1023, not1023]
    refine kif_c _ (fun t1 => ?_) fun t1 => ?_
    rotate_left
    · exact hnext (by unfold tmatch; rw [t1]; rfl)
    rw [ldI_of e4 (by omega) c1]
    refine kif_c _ (fun t2 => ?_) fun t2 => ?_
    · exact hhit (by unfold tmatch; rw [t1, t2]; rfl)
    rw [ldI_of e4 (by omega) c0, ldI_st (h.keep K04) (by omega) rfl]
    refine kif_c _ (fun t3 => ?_) fun t3 => ?_
    · exact hhit (by unfold tmatch; rw [t1, t2, t3]; rfl)
    · exact hnext (by unfold tmatch; rw [t1, t2, t3]; rfl)

theorem rfind_spec {m : Mem} {b : Nat} {S : St} (h : IsSt m b S) {va : Int} {k : Int → Mem → Prop} (hk : k (tfind S va 8 0) m) : F24 b 0 va m k := by
  unfold F24
  refine ⟨9, rfind_loop h (fun e m' K => ⟨K, by rw [e] at hk; exact hk⟩) (fun m' K _ => ⟨K, hk⟩) 8 0 rfl rfl m (Keeps.self m)⟩

theorem find_loop {m0 : Mem} {b : Nat} {S : St} (h : IsSt m0 b S) {va : Int} {c : Nat → AV} (hc : ∀ i, i < 16 → c i = stc S (55 + i)) {k0 : Int → Mem → Prop} (h1 : ∀ m', Keeps m0 m' → k0 (tfind S va 8 0) m') :
    ∀ (d i : Nat), i + d = 8 → tfind S va d i = tfind S va 8 0 → ∀ m, Keeps m0 m → L10_5 b 0 va c (d + 1) (-1) i m k0 := by
  intro d
  induction d with
  | zero =>
    intro i hi e m K
    obtain rfl : i = 8 := by omega
    unfold L10_5 R10_5
    refine kif_f (by decide) ?_
    have := h1 m K
    rw [← e] at this; exact this
  | succ d ih =>
    intro i hi e m K
    have hi8 : i < 8 := by omega
    unfold L10_5 R10_5
    refine kif_t (by simp; omega) (kif_ix (by omega) (by omega) (kite_t (by omega) ?_))
    refine boxE fun b3 m4 y hb3 K4 e4 hn4 hc4 => ?_
    have hcc : ∀ j, j < 2 → y.c (0 + j) = stc S (55 + i * 2 + j) := fun j hj => by
      rw [Nat.zero_add, hc4 j hj]; simp only [sub, if_pos hj]
      rw [show (i : Int).toNat * 2 + j = i * 2 + j by omega, hc _ (by omega), show 55 + (i * 2 + j) = 55 + i * 2 + j by omega]
    obtain ⟨c0, c1⟩ := e2cells S i hi8 hcc
    rw [ldI_of e4 (by omega) c0]
    have K04 : Keeps m0 m4 := K.trans K4
    have hnext : tmatch S va i = false → L10_5 b 0 va c (d + 1) (-1) (IntKind.wrap .i64 ((i : Int) + 1)) m4 k0 := fun hm => by
      rw [wrap64 (by omega) (by omega)]
      have := ih (i + 1) (by omega) (by rw [← e]; conv => rhs; unfold tfind; rw [if_neg (by rw [hm]; simp)]) m4 K04
      exact_mod_cast this
    have hhit : tmatch S va i = true → k0 i m4 := fun hm => by
      have e2 : tfind S va 8 0 = i := by rw [← e]; unfold tfind; rw [if_pos hm]
      have := h1 m4 K04
      rw [e2] at this; exact this
    refine kif_c _ (fun t1 => ?_) fun t1 => ?_
    · have t1 : (bits .and .u32 (bits .xor .u32 (S.n (55 + i * 2)) va) 4294966272 == 0) = false := by simpa using t1
      rw [xor_and0] at t1
      exact hnext (by unfold tmatch; rw [t1]; rfl)
    have t1 : (bits .and .u32 (bits .xor .u32 (S.n (55 + i * 2)) va) 4294966272 == 0) = true := by simpa using t1
    rw [xor_and0] at t1
    rw [ldI_of e4 (by omega) c1]
    refine kif_c _ (fun t2 => ?_) fun t2 => ?_
    · exact hhit (by unfold tmatch; rw [t1, t2]; rfl)
    rw [ldI_of e4 (by omega) c0, ldI_st (h.keep K04) (by omega) rfl, xor_and0]
    refine kif_c _ (fun t3 => ?_) fun t3 => ?_
    · exact hhit (by unfold tmatch; rw [t1, t2, t3]; rfl)
    · exact hnext (by unfold tmatch; rw [t1, t2, t3]; rfl)

theorem find_spec {m : Mem} {b : Nat} {S : St} (h : IsSt m b S) {va : Int} {k : Int → Mem → Prop} (hk : k (tfind S va 8 0) m) : F10 b 0 va m k := by
  unfold F10
  obtain ⟨x, ex, hn, _, hc⟩ := h
  rw [ldG_of ex (by omega)]
  exact ⟨9, find_loop ⟨x, ex, hn, ‹_›, hc⟩ (fun i hi => by simp only [sub, if_pos hi]; exact hc _ (by omega)) (fun m' K => ⟨K, hk⟩) 8 0 rfl rfl m (Keeps.self m)⟩

/-! ### where an address lies -/
theorem look_body {m0 m : Mem} {b : Nat} {S : St} (h : IsSt m b S) {va : Int} {store : Bool} {kr : Int → Int → Bool → Mem → Prop} (hk : kr (lookS S va store).1 (lookS S va store).2.1 (lookS S va store).2.2 m) : P9_6102 b 0 va store (if store = true then 3 else 2) m kr := by
  unfold P9_6102
  refine find_spec h ?_
  have hr := tfind_rng S va 8 0
  unfold lookS at hk
  refine kif_c _ (fun c1 => ?_) fun c1 => ?_
  · have c1 : tfind S va 8 0 < 0 := by simpa using c1
    dsimp only at hk; rw [if_pos c1] at hk; exact hk
  have c1 : ¬ tfind S va 8 0 < 0 := by simpa using c1
  dsimp only at hk; rw [if_neg c1] at hk
  generalize tfind S va 8 0 = x at hk c1 hr
  refine kif_ix (by omega) (by omega) ?_
  rw [show 0 + 55 + x.toNat * 2 + 1 = 56 + x.toNat * 2 by omega, ldI_st h (by omega) (by simp [isP3]; omega)]
  refine kif_c _ (fun c2 => ?_) fun c2 => ?_
  · rw [if_pos c2] at hk; exact hk
  rw [if_neg (by rw [c2]; simp)] at hk
  have key : ∀ c, (c = true ↔ store = true ∧ (bits .and .u32 (S.n (56 + x.toNat * 2)) 2 == 0) = true) → P9_14004 va (S.n (56 + x.toNat * 2)) c m kr := by
    intro c hc
    unfold P9_14004
    refine kif_c _ (fun c3 => ?_) fun c3 => ?_
    · rw [if_pos (hc.1 c3)] at hk; exact hk
    · rw [if_neg (fun e => by rw [hc.2 e] at c3; cases c3)] at hk; exact hk
  refine kif_c _ (fun c3 => key _ (by rw [c3]; simp)) fun c3 => key _ (by rw [c3]; simp)
theorem look_spec {m : Mem} {b : Nat} {S : St} (h : IsSt m b S) {va : Int} {store : Bool} {k : Int → Int → Bool → Mem → Prop} (hk : k (lookS S va store).1 (lookS S va store).2.1 (lookS S va store).2.2 m) : F9 b 0 va store m k := by
  unfold F9
  cases store with
  | true => exact look_body (m0 := m) h ⟨Keeps.self m, hk⟩
  | false => exact look_body (m0 := m) h ⟨Keeps.self m, hk⟩

theorem rlook_body {m : Mem} {b : Nat} {S : St} (h : IsSt m b S) {va : Int} {store : Bool} {kr : Int → Int → Bool → Mem → Prop} (hk : kr (lookS S va store).1 (lookS S va store).2.1 (lookS S va store).2.2 m) : P23_4102 b 0 va store (if store = true then 3 else 2) m kr := by
  unfold P23_4102
  refine rfind_spec h ?_
  have hr := tfind_rng S va 8 0
  unfold lookS at hk
  refine kif_c _ (fun c1 => ?_) fun c1 => ?_
  · have c1 : tfind S va 8 0 < 0 := by simpa using c1
    dsimp only at hk; rw [if_pos c1] at hk; exact hk
  have c1 : ¬ tfind S va 8 0 < 0 := by simpa using c1
  dsimp only at hk; rw [if_neg c1] at hk
  generalize tfind S va 8 0 = x at hk c1 hr
  refine kif_ix (by omega) (by omega) ?_
  rw [show 0 + 55 + x.toNat * 2 + 1 = 56 + x.toNat * 2 by omega, ldI_st h (by omega) (by simp [isP3]; omega)]
  refine kif_c _ (fun c2 => ?_) fun c2 => ?_
  · rw [if_pos c2] at hk; exact hk
  rw [if_neg (by rw [c2]; simp)] at hk
  unfold P23_12102
  rw [not1023]
  refine kif_c _ (fun c3 => ?_) fun c3 => ?_
  · refine kif_c _ (fun c4 => ?_) fun c4 => ?_
    · rw [if_pos ⟨c3, c4⟩] at hk; exact hk
    · rw [if_neg (fun e => by rw [e.2] at c4; cases c4)] at hk; exact hk
  · rw [if_neg (fun e => by rw [e.1] at c3; cases c3)] at hk; exact hk
theorem rlook_spec {m : Mem} {b : Nat} {S : St} (h : IsSt m b S) {va : Int} {store : Bool} {k : Int → Int → Bool → Mem → Prop} (hk : k (lookS S va store).1 (lookS S va store).2.1 (lookS S va store).2.2 m) : F23 b 0 va store m k := by
  unfold F23
  cases store with
  | true => exact rlook_body h ⟨Keeps.self m, hk⟩
  | false => exact rlook_body h ⟨Keeps.self m, hk⟩

theorem tmatch_page (S : St) (A B : Int) (a0 : 0 ≤ A) (a1 : A < 4294967296) (b0 : 0 ≤ B) (b1 : B < 4294967296) (h : A - A % 1024 = B - B % 1024) (i : Nat) : tmatch S A i = tmatch S B i := by
  unfold tmatch; rw [hi_eq A a0 a1, hi_eq B b0 b1, h]
theorem tfind_page (S : St) (A B : Int) (a0 : 0 ≤ A) (a1 : A < 4294967296) (b0 : 0 ≤ B) (b1 : B < 4294967296) (h : A - A % 1024 = B - B % 1024) : ∀ d i, tfind S A d i = tfind S B d i
  | 0, i => rfl
  | d + 1, i => by
    unfold tfind; rw [tmatch_page S A B a0 a1 b0 b1 h i, tfind_page S A B a0 a1 b0 b1 h d (i + 1)]

end Go.Proofs.Ytnfpmaiolponbaa.Am
