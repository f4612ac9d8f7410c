/- The laws of chapter 8 over the abstract machine. Conditions: what is handed in is plain data. -/
import Derived.Test.YtdjieokcflogmaaK8
namespace Go.Proofs.Ytdjieokcflogmaa.Am
set_option linter.unusedVariables false
set_option linter.unusedSimpArgs false

def isTrue : Bool → Mem → Prop := fun r _ => r = true

/-- a State as it is drawn, in a box, then in a block of its own -/
theorem drawn {m : Mem} {c : Nat → AV} {t t' : TypeId} {z : Nat → AV} (hT : TyAll m shS c) {now : Int} (hn0 : -9223372036854775808 ≤ now) (hn1 : now < 9223372036854775808) {k : Nat → Nat → Mem → Prop}
    (hk : ∀ b2 b7 m' S, IsSt m' b7 S → S.ok → TyAll m' shS c → (∃ x, m'.obj b2 = some x ∧ x.n = 11 ∧ ∀ i, i < 11 → x.c i = c i) → Keeps m m' → m.obj b7 = none → b2 ≠ b7 → k b2 b7 m') :
    newK m ⟨11, c, t, false⟩ fun b2 m1 => ldG 11 m1 b2 0 fun c3 => F7 c3 now m1 fun c4 m5 => newK m5 ⟨73, z, t', false⟩ fun b7 m6 => stG 73 m6 b7 0 c4 fun m8 => k b2 b7 m8 := by
  refine newK_i fun b2 m1 hb2 K1 e2 O1 => ?_
  rw [ldG_of e2 (by show 0 + 11 ≤ 11; omega)]
  have hs : ∀ i, i < 11 → sub c 0 11 i = c i := fun i hi => by simp [sub, hi]
  have hT1 : TyAll m1 shS (sub c 0 11) := fun i l e => by
    have hi : i < 11 := (List.getElem?_eq_some_iff.1 e).1
    rw [hs i hi]; exact (hT i l e).keep K1
  refine state_spec hT1 hn0 hn1 fun c4 S h4 hS => newS h4 fun b7 m8 hb7 K8 O8 i8 => ?_
  have hne : b2 ≠ b7 := fun e => by subst e; rw [e2] at hb7; cases hb7
  refine hk b2 b7 m8 S i8 hS (hT.keep (K1.trans K8)) ⟨_, (O8 b2 hne).trans e2, rfl, fun i hi => rfl⟩ (K1.trans K8) ?_ hne
  by_cases h0 : m.obj b7 = none
  · exact h0
  · rw [K1 b7 h0] at hb7; exact hb7

theorem bv_lit (n : Int) (h0 : 0 ≤ n) (h1 : n < 4294967296) : bv n = BitVec.ofNat 32 n.toNat := by
  unfold bv; obtain ⟨k, rfl⟩ := Int.eq_ofNat_of_zero_le h0; rw [BitVec.ofInt_natCast]; rfl

/-- two bits from below off, 29 kept -/
theorem and_dir (x : Int) : bits .and .u32 x 536870908 % 4 = 0 ∧ 0 ≤ bits .and .u32 x 536870908 ∧ bits .and .u32 x 536870908 < 536870912 := by
  have hr := and_rng x 536870908
  have e : bits .and .u32 x 536870908 = bits .and .u32 (bits .and .u32 x 4294967292) 536870911 := by
    rw [and_bv, and_bv, and_bv, bv_back, BitVec.and_assoc]; rfl
  have e3 : ∀ y : Int, 0 ≤ y → y < 4294967296 → bits .and .u32 y 536870911 = y % 536870912 := fun y h0 h1 => by
    have := and_ones y h0 h1 29 (by decide); simpa using this
  have h4 : bits .and .u32 x 536870908 % 4 = 0 := by
    have h5 : bits .and .u32 (bits .and .u32 x 536870908) 3 = 0 := by
      rw [and_bv, and_bv, bv_back, BitVec.and_assoc]
      have : bv 536870908 &&& bv 3 = 0#32 := by decide
      rw [this]; simp
    have := and_ones (bits .and .u32 x 536870908) hr.1 hr.2 2 (by decide)
    have h6 : ((2 ^ 2 - 1 : Nat) : Int) = 3 := rfl
    rw [h6, h5] at this
    simpa using this.symm
  have h7 := and_rng x 4294967292
  rw [e3 _ h7.1 h7.2] at e
  omega

theorem SegDirect {m : Mem} {c : Nat → AV} (hT : TyAll m shS c) {va : Int} (hw : (Lit.int .u32 va).wf = true) : F4 c va m isTrue := by
  obtain ⟨h0, h1⟩ := wf_u32 hw
  unfold F4
  refine drawn hT (by omega) (by omega) fun b2 b7 m' S i hS _ _ _ _ _ => ?_
  obtain ⟨hd, hr0, hr1⟩ := and_dir va
  generalize hoff : bits .and .u32 va 536870908 = off at hd hr0 hr1 ⊢
  rw [wrap32, wrap32, Int.emod_eq_of_lt (by omega) (by omega), Int.emod_eq_of_lt (by omega) (by omega)]
  refine seg_spec i (by omega) (by omega) (seg_spec i (by omega) (by omega) (user_spec i ?_))
  have low : ∀ y : Int, 0 ≤ y → y < 4294967296 → bits .and .u32 y 536870911 = y % 536870912 := fun y h0 h1 => by
    have := and_ones y h0 h1 29 (by decide); simpa using this
  have e1 : ∀ st, liesS S (2147483648 + off) 4 st = if userS S = true then (0, if st = true then 5 else 4, false) else (off, -1, false) := fun st => by
    unfold liesS; dsimp only
    rw [if_pos (by decide : (4 : Int) ≠ 1 ∧ (4 : Int) ≠ 2)]
    by_cases hu : userS S = true
    · rw [if_pos (.inr ⟨by omega, hu⟩), if_pos hu]
    · rw [if_neg (by simp [hu]; omega), if_neg hu, if_pos (by omega), low _ (by omega) (by omega)]
      congr 1; omega
  have e2 : ∀ st, liesS S (2684354560 + off) 4 st = if userS S = true then (0, if st = true then 5 else 4, false) else (off, -1, false) := fun st => by
    unfold liesS; dsimp only
    rw [if_pos (by decide : (4 : Int) ≠ 1 ∧ (4 : Int) ≠ 2)]
    by_cases hu : userS S = true
    · rw [if_pos (.inr ⟨by omega, hu⟩), if_pos hu]
    · rw [if_neg (by simp [hu]; omega), if_neg hu, if_pos (by omega), low _ (by omega) (by omega)]
      congr 1; omega
  rw [e1, e2]
  refine kif_c _ (fun c1 => ?_) fun c1 => ?_
  · rw [if_pos c1, if_pos c1]
    exact kif_t rfl (kif_t rfl (kif_t rfl (kif_t rfl (known8 rfl))))
  · rw [if_neg (by rw [c1]; simp), if_neg (by rw [c1]; simp)]
    exact kif_t (by simp) (kif_t rfl (kif_t (by simp) (kif_t rfl (known8 rfl))))

end Go.Proofs.Ytdjieokcflogmaa.Am
