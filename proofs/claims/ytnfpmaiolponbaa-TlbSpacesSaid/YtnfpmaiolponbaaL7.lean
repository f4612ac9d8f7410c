/- The laws of chapter 7 over the abstract machine. Conditions: what is handed in is plain data. -/
import Derived.Test.YtnfpmaiolponbaaK7
import Derived.Test.YtnfpmaiolponbaaK6c
import Derived.Test.YtnfpmaiolponbaaK6d
namespace Go.Proofs.Ytnfpmaiolponbaa.Am
set_option linter.unusedVariables false
set_option linter.unusedSimpArgs false

theorem putN_same (S : St) (i : Nat) (v : Int) : (S.putN i v).n i = v := by simp [St.putN, upd]
theorem putN_other (S : St) {i j : Nat} (v : Int) (h : j ≠ i) : (S.putN i v).n j = S.n j := by simp [St.putN, upd, h]

/-- all blocks that are there, but two -/
def Rest2 (b c : Nat) (m m' : Mem) : Prop := ∀ b', b' ≠ b → b' ≠ c → m.obj b' ≠ none → m'.obj b' = m.obj b'
theorem Rest2.refl (b c : Nat) (m : Mem) : Rest2 b c m m := fun _ _ _ _ => rfl
theorem Rest2.trans {b c : Nat} {m m1 m2 : Mem} (h : Rest2 b c m m1) (h' : Rest2 b c m1 m2) : Rest2 b c m m2 := fun b' h1 h2 h3 => by
  have e := h b' h1 h2 h3
  rw [h' b' h1 h2 (by rw [e]; exact h3), e]
theorem Only.rest {b c : Nat} {m m' : Mem} (h : Only m b m') : Rest2 b c m m' := fun b' h1 _ _ => h b' h1
theorem Only.rest' {b c : Nat} {m m' : Mem} (h : Only m c m') : Rest2 b c m m' := fun b' _ h2 _ => h b' h2
theorem Keeps.rest {b c : Nat} {m m' : Mem} (h : Keeps m m') : Rest2 b c m m' := fun b' _ _ h3 => h b' h3
/-- all blocks that are there, but one -/
def OnlyK (m : Mem) (b : Nat) (m' : Mem) : Prop := ∀ b', b' ≠ b → m.obj b' ≠ none → m'.obj b' = m.obj b'
theorem Only.onlyK {b : Nat} {m m' : Mem} (h : Only m b m') : OnlyK m b m' := fun b' h1 _ => h b' h1
theorem IsSt.onlyK {m m' : Mem} {b b' : Nat} {S : St} (h : IsSt m b S) (O : OnlyK m b' m') (hne : b ≠ b') : IsSt m' b S := by
  obtain ⟨x, e, r⟩ := h
  exact ⟨x, by rw [O b hne (by rw [e]; simp)]; exact e, r⟩
theorem OnlyK.rest {b c : Nat} {m m' : Mem} (h : OnlyK m b m') : Rest2 b c m m' := fun b' h1 _ h3 => h b' h1 h3
theorem OnlyK.rest' {b c : Nat} {m m' : Mem} (h : OnlyK m c m') : Rest2 b c m m' := fun b' _ h2 h3 => h b' h2 h3

/-! ### plain functions -/
def namedR (n : Int) : Bool := (decide (0 ≤ n) && decide (n ≤ 2)) || (decide (8 ≤ n) && decide (n ≤ 15))
def readS (S : St) (n : Int) : Int := if n = 1 then S.n 48 % 8 else if namedR n = true then S.n (39 + n.toNat) else 0
def putS (S : St) (random : Bool) : St :=
  let i : Int := if random = true then S.n 48 % 8 else bits .and .u32 (S.n 39) 7
  (S.putN (55 + i.toNat * 2) (S.n 49)).putN (56 + i.toNat * 2) (S.n 41)
def getS (S : St) : St :=
  let i : Int := bits .and .u32 (S.n 39) 7
  writeS (writeS S 10 (S.n (55 + i.toNat * 2))) 2 (S.n (56 + i.toNat * 2))
def probeS (S : St) : St :=
  let S1 := S.putN 39 2147483648
  if 0 ≤ tfind S1 (S.n 49) 8 0 then S1.putN 39 (tfind S1 (S.n 49) 8 0) else S1

theorem and7 (x : Int) : 0 ≤ bits .and .u32 x 7 ∧ bits .and .u32 x 7 < 8 := by
  have h := and_rng x 7
  have h2 : (bv x &&& bv 7).toNat ≤ 7 := by
    rw [BitVec.toNat_and]; exact Nat.le_trans Nat.and_le_right (by decide)
  rw [and_bv] at h ⊢
  omega
theorem putS_ok {S : St} (h : S.ok) (r : Bool) : (putS S r).ok := by
  unfold putS
  have h48 := h.1 48 (by omega)
  have hi : ∀ i : Int, 0 ≤ i → i < 8 → ((S.putN (55 + i.toNat * 2) (S.n 49)).putN (56 + i.toNat * 2) (S.n 41)).ok := fun i h0 h1 =>
    putN_ok (putN_ok h (by omega) (h.1 49 (by omega)).1 (h.1 49 (by omega)).2) (by omega) (h.1 41 (by omega)).1 (h.1 41 (by omega)).2
  have h7 := and7 (S.n 39)
  cases r with
  | true => exact hi _ (by simp; omega) (by simp; omega)
  | false => exact hi _ (by simp; omega) (by simp; omega)
theorem getS_ok {S : St} (h : S.ok) : (getS S).ok := by
  unfold getS
  have h7 := and7 (S.n 39)
  have e1 := h.1 (55 + (bits .and .u32 (S.n 39) 7).toNat * 2) (by omega)
  have e2 := h.1 (56 + (bits .and .u32 (S.n 39) 7).toNat * 2) (by omega)
  exact writeS_ok (writeS_ok h e1.1 e1.2) e2.1 e2.2
theorem probeS_ok {S : St} (h : S.ok) : (probeS S).ok := by
  unfold probeS
  have h1 := putN_ok h (i := 39) (v := 2147483648) (by omega) (by omega) (by omega)
  have hr := tfind_rng (S.putN 39 2147483648) (S.n 49) 8 0
  dsimp only
  split
  · exact putN_ok h1 (by omega) (by omega) (by omega)
  · exact h1

/-! ### the functions -/
theorem named_spec {n : Int} {m : Mem} {k : Bool → Mem → Prop} (hk : k (namedR n) m) : F28 n m k := by
  unfold F28
  have hh : ∀ j : Int, (n == j) = true → namedR j = true → (Keeps m m ∧ k true m) := fun j hj hn => ⟨Keeps.self m, by
    have e := ofbeq hj; subst e; rw [hn] at hk; exact hk⟩
  refine kif_c _ (fun c => kif_t c (hh 0 c rfl)) fun c0 => ?_
  refine kif_c _ (fun c => kif_t c (hh 1 c rfl)) fun c1 => ?_
  refine kif_c _ (fun c => kif_t c (hh 2 c rfl)) fun c2 => ?_
  refine kif_c _ (fun c => kif_t c (hh 8 c rfl)) fun c3 => ?_
  refine kif_c _ (fun c => kif_t c (hh 9 c rfl)) fun c4 => ?_
  refine kif_c _ (fun c => kif_t c (hh 10 c rfl)) fun c5 => ?_
  refine kif_c _ (fun c => kif_t c (hh 11 c rfl)) fun c6 => ?_
  refine kif_c _ (fun c => kif_t c (hh 12 c rfl)) fun c7 => ?_
  refine kif_c _ (fun c => kif_t c (hh 13 c rfl)) fun c8 => ?_
  refine kif_c _ (fun c => kif_t c (hh 14 c rfl)) fun c9 => ?_
  refine kif_c _ (fun c => hh 15 c rfl) fun c10 => ?_
  have e : namedR n = false := by
    have := ofbne c0; have := ofbne c1; have := ofbne c2; have := ofbne c3; have := ofbne c4; have := ofbne c5; have := ofbne c6; have := ofbne c7; have := ofbne c8; have := ofbne c9; have := ofbne c10
    unfold namedR
    simp
    omega
  rw [e] at hk
  exact ⟨Keeps.self m, hk⟩
theorem rnamed_spec {n : Int} {m : Mem} {k : Bool → Mem → Prop} (hk : k (namedR n) m) : F29 n m k := by
  unfold F29
  unfold namedR at hk
  refine kif_c _ (fun c => kif_c _ (fun c1 => ?_) fun c1 => kif_c _ (fun c2 => ?_) fun c2 => ?_) fun c => kif_c _ (fun c2 => ?_) fun c2 => ?_
  · simp at c c1; simp [c, c1] at hk; exact ⟨Keeps.self m, hk⟩
  · simp at c c1 c2
    have e1 : ¬ n ≤ 2 := by omega
    simp [e1, c2] at hk; exact ⟨Keeps.self m, hk⟩
  · simp at c c1 c2
    have e1 : ¬ n ≤ 2 := by omega
    have e2 : ¬ 8 ≤ n := by omega
    simp [e1, e2] at hk; exact ⟨Keeps.self m, hk⟩
  · simp at c c2; omega
  · simp at c c2
    have e1 : ¬ 0 ≤ n := by omega
    have e2 : ¬ 8 ≤ n := by omega
    simp [e1, e2] at hk; exact ⟨Keeps.self m, hk⟩
theorem named_in {n : Int} (h : namedR n = true) : 0 ≤ n ∧ n < 16 := by unfold namedR at h; simp at h; omega

theorem read_spec {m : Mem} {b : Nat} {S : St} (h : IsSt m b S) (hS : S.ok) {n : Int} {k : Int → Mem → Prop} (hk : k (readS S n) m) : F26 b 0 n m k := by
  unfold F26
  unfold readS at hk
  refine named_spec (kif_c _ (fun c => ?_) fun c => kif_c _ (fun c1 => ?_) fun c1 => ?_)
  · have c : namedR n = false := by simpa using c
    have hn : n ≠ 1 := fun e => by subst e; cases c
    rw [if_neg hn, if_neg (by rw [c]; simp)] at hk; exact ⟨Keeps.self m, hk⟩
  · have e := ofbeq c1; subst e
    rw [ldI_st h (by omega) rfl, tmod_nn (hS.1 48 (by omega)).1]; exact ⟨Keeps.self m, hk⟩
  · have c : namedR n = true := by simpa using c
    obtain ⟨n0, n1⟩ := named_in c
    rw [if_neg (ofbne c1), if_pos c] at hk
    refine kif_ix n0 n1 ?_
    rw [show 0 + 39 + n.toNat * 1 = 39 + n.toNat by omega, ldI_st h (by omega) (by simp [isP3]; omega)]; exact ⟨Keeps.self m, hk⟩
theorem rread_spec {m : Mem} {b : Nat} {S : St} (h : IsSt m b S) (hS : S.ok) {n : Int} {k : Int → Mem → Prop} (hk : k (readS S n) m) : F27 b 0 n m k := by
  unfold F27
  unfold readS at hk
  refine kif_c _ (fun c1 => ?_) fun c1 => rnamed_spec (kif_c _ (fun c => ?_) fun c => ?_)
  · have e := ofbeq c1; subst e
    rw [ldI_st h (by omega) rfl, tmod_nn (hS.1 48 (by omega)).1]; exact ⟨Keeps.self m, hk⟩
  · have c : namedR n = false := by simpa using c
    rw [if_neg (ofbne c1), if_neg (by rw [c]; simp)] at hk; exact ⟨Keeps.self m, hk⟩
  · have c : namedR n = true := by simpa using c
    obtain ⟨n0, n1⟩ := named_in c
    rw [if_neg (ofbne c1), if_pos c] at hk
    refine kif_ix n0 n1 ?_
    rw [show 0 + 39 + n.toNat * 1 = 39 + n.toNat by omega, ldI_st h (by omega) (by simp [isP3]; omega)]; exact ⟨Keeps.self m, hk⟩

theorem put_spec {m : Mem} {b : Nat} {S : St} (h : IsSt m b S) (hS : S.ok) {r : Bool} {k : Mem → Prop} (hk : ∀ m', IsSt m' b (putS S r) → Only m b m' → k m') : F16 b 0 r m k := by
  unfold F16
  unfold putS at hk
  have key : ∀ i : Int, 0 ≤ i → i < 8 → (∀ m', IsSt m' b ((S.putN (55 + i.toNat * 2) (S.n 49)).putN (56 + i.toNat * 2) (S.n 41)) → Only m b m' → k m') → P16_4002 b 0 i m k := by
    intro i i0 i1 hk
    unfold P16_4002
    rw [ldI_st h (by omega) rfl, ldI_st h (by omega) rfl]
    refine kif_ix i0 i1 ?_
    rw [show 0 + 55 + i.toNat * 2 = 55 + i.toNat * 2 by omega]
    refine stE_st h (by omega) rfl rfl ?_
    rw [show 55 + i.toNat * 2 + 1 = 56 + i.toNat * 2 by omega]
    exact hk
  rw [ldI_st h (by omega) rfl]
  have h48 := hS.1 48 (by omega)
  have h7 := and7 (S.n 39)
  cases r with
  | true =>
    refine kif_t rfl (read_spec h hS ?_)
    exact key _ (by simp [readS]; omega) (by simp [readS]; omega) hk
  | false => exact kif_f rfl (key _ h7.1 h7.2 hk)
theorem rput_spec {m : Mem} {b : Nat} {S : St} (h : IsSt m b S) (hS : S.ok) {r : Bool} {k : Mem → Prop} (hk : ∀ m', IsSt m' b (putS S r) → Only m b m' → k m') : F22 b 0 r m k := by
  unfold F22
  unfold putS at hk
  have key : ∀ i : Int, 0 ≤ i → i < 8 → (∀ m', IsSt m' b ((S.putN (55 + i.toNat * 2) (S.n 49)).putN (56 + i.toNat * 2) (S.n 41)) → Only m b m' → k m') → P22_3002 b 0 i m k := by
    intro i i0 i1 hk
    unfold P22_3002
    rw [ldI_st h (by omega) rfl, ldI_st h (by omega) rfl]
    refine kif_ix i0 i1 ?_
    rw [show 0 + 55 + i.toNat * 2 = 55 + i.toNat * 2 by omega]
    refine stE_st h (by omega) rfl rfl ?_
    rw [show 55 + i.toNat * 2 + 1 = 56 + i.toNat * 2 by omega]
    exact hk
  rw [ldI_st h (by omega) rfl]
  have h48 := hS.1 48 (by omega)
  have h7 := and7 (S.n 39)
  cases r with
  | true =>
    refine kif_t rfl (rread_spec h hS ?_)
    exact key _ (by simp [readS]; omega) (by simp [readS]; omega) hk
  | false => exact kif_f rfl (key _ h7.1 h7.2 hk)

theorem probe_spec {m : Mem} {b : Nat} {S : St} (h : IsSt m b S) {k : Mem → Prop} (hk : ∀ m', IsSt m' b (probeS S) → Only m b m' → k m') : F17 b 0 m k := by
  unfold F17
  unfold probeS at hk
  dsimp only at hk
  refine stC_st h (by omega) rfl fun m1 i1 o1 => ?_
  have i1 : IsSt m1 b (S.putN 39 2147483648) := i1
  rw [ldI_st i1 (by omega) rfl]
  have e49 : (S.putN 39 2147483648).n (0 + 39 + 10) = S.n 49 := putN_other _ _ (by omega)
  rw [e49]
  refine find_spec i1 ?_
  have hr := tfind_rng (S.putN 39 2147483648) (S.n 49) 8 0
  refine kif_c _ (fun c => ?_) fun c => ?_
  · have c : 0 ≤ tfind (S.putN 39 2147483648) (S.n 49) 8 0 := by simpa using c
    rw [if_pos c] at hk
    rw [wrap32, Int.emod_eq_of_lt (by omega) (by omega)]
    exact stC_st i1 (by omega) rfl fun m2 i2 o2 => hk m2 i2 (o1.trans o2)
  · rw [if_neg (by simpa using c)] at hk
    exact hk m1 i1 o1
theorem rprobe_spec {m : Mem} {b : Nat} {S : St} (h : IsSt m b S) {k : Mem → Prop} (hk : ∀ m', IsSt m' b (probeS S) → Only m b m' → k m') : F20 b 0 m k := by
  unfold F20
  unfold probeS at hk
  dsimp only at hk
  refine stC_st h (by omega) rfl fun m1 i1 o1 => ?_
  have i1 : IsSt m1 b (S.putN 39 2147483648) := i1
  rw [ldI_st i1 (by omega) rfl]
  have e49 : (S.putN 39 2147483648).n (0 + 39 + 10) = S.n 49 := putN_other _ _ (by omega)
  rw [e49]
  refine rfind_spec i1 ?_
  have hr := tfind_rng (S.putN 39 2147483648) (S.n 49) 8 0
  refine kif_c _ (fun c => ?_) fun c => ?_
  · have c : 0 ≤ tfind (S.putN 39 2147483648) (S.n 49) 8 0 := by simpa using c
    rw [if_pos c] at hk
    rw [wrap32, Int.emod_eq_of_lt (by omega) (by omega)]
    exact stC_st i1 (by omega) rfl fun m2 i2 o2 => hk m2 i2 (o1.trans o2)
  · rw [if_neg (by simpa using c)] at hk
    exact hk m1 i1 o1

theorem get_spec {m : Mem} {b : Nat} {S : St} (h : IsSt m b S) {k : Mem → Prop} (hk : ∀ m', IsSt m' b (getS S) → OnlyK m b m' → k m') : F18 b 0 m k := by
  unfold F18
  rw [ldI_st h (by omega) rfl]
  unfold getS at hk
  dsimp only at hk
  have h7 := and7 (S.n 39)
  have e39 : S.n (0 + 39 + 0) = S.n 39 := rfl
  rw [e39]
  generalize bits .and .u32 (S.n 39) 7 = i at h7 hk
  refine kif_ix h7.1 h7.2 ?_
  have hS := h
  obtain ⟨x, ex, hn, _, hc⟩ := h
  rw [show 0 + 55 + i.toNat * 2 = 55 + i.toNat * 2 by omega, ldG_of ex (by omega)]
  refine boxE fun b4 m5 y hb4 K4 e4 hn4 hc4 => ?_
  have hne : b4 ≠ b := fun e => by subst e; rw [ex] at hb4; cases hb4
  have hcc : ∀ j, j < 2 → y.c (0 + j) = stc S (55 + i.toNat * 2 + j) := fun j hj => by
    rw [Nat.zero_add, hc4 j hj]; simp only [sub, if_pos hj]; exact hc _ (by omega)
  obtain ⟨c0, c1⟩ := e2cells S i.toNat (by omega) hcc
  rw [ldI_of e4 (by omega) c0]
  refine write_spec (hS.keep K4) fun m7 i7 o7 => ?_
  rw [ldI_of ((o7 b4 hne).trans e4) (by omega) c1]
  refine write_spec i7 fun m9 i9 o9 => hk m9 i9 fun b' h1 h2 => ?_
  rw [o9 b' h1, o7 b' h1, K4 b' h2]
theorem rget_spec {m : Mem} {b : Nat} {S : St} (h : IsSt m b S) {k : Mem → Prop} (hk : ∀ m', IsSt m' b (getS S) → OnlyK m b m' → k m') : F19 b 0 m k := by
  unfold F19
  rw [ldI_st h (by omega) rfl]
  unfold getS at hk
  dsimp only at hk
  have h7 := and7 (S.n 39)
  have e39 : S.n (0 + 39 + 0) = S.n 39 := rfl
  rw [e39]
  generalize bits .and .u32 (S.n 39) 7 = i at h7 hk
  refine kif_ix h7.1 h7.2 ?_
  have hS := h
  obtain ⟨x, ex, hn, _, hc⟩ := h
  rw [show 0 + 55 + i.toNat * 2 = 55 + i.toNat * 2 by omega, ldG_of ex (by omega)]
  refine boxE fun b4 m5 y hb4 K4 e4 hn4 hc4 => ?_
  have hne : b4 ≠ b := fun e => by subst e; rw [ex] at hb4; cases hb4
  have hcc : ∀ j, j < 2 → y.c (0 + j) = stc S (55 + i.toNat * 2 + j) := fun j hj => by
    rw [Nat.zero_add, hc4 j hj]; simp only [sub, if_pos hj]; exact hc _ (by omega)
  obtain ⟨c0, c1⟩ := e2cells S i.toNat (by omega) hcc
  rw [ldI_of e4 (by omega) c0]
  refine rwrite_spec (hS.keep K4) fun m7 i7 o7 => ?_
  rw [ldI_of ((o7 b4 hne).trans e4) (by omega) c1]
  refine rwrite_spec i7 fun m9 i9 o9 => hk m9 i9 fun b' h1 h2 => ?_
  rw [o9 b' h1, o7 b' h1, K4 b' h2]

/-! ### two States that are the same -/
theorem St.same_refl (S : St) : S.same S := fun i _ => by split <;> rfl
structure Two (b c : Nat) (S : St) (m : Mem) : Prop where
  l : IsSt m b S
  r : IsSt m c S
  ne : b ≠ c
  ok : S.ok
theorem eq_spec {m : Mem} {b c : Nat} {S : St} (h : Two b c S m) {kr : Bool → Mem → Prop} (hk : kr true m) : P12_14102 b 0 c 0 m kr := by
  unfold P12_14102
  refine ldS_st h.l fun c20 h20 => ldS_st h.r fun c21 h21 => ?_
  rw [geq_st h20 h21 _ (by kernel_rfl), decide_eq_true (St.same_refl S)]
  exact hk

def shAsk : List Lf := [.i .i64, .i .i64, .i .u32, .b]
theorem do_spec {m : Mem} {b c : Nat} {S : St} (h : Two b c S m) {a : Nat → AV} (hT : TyAll m shAsk a) {k : Bool → Mem → Prop} (hk : ∀ m' S', Two b c S' m' → Rest2 b c m m' → k true m') : F12 b 0 c 0 a m k := by
  unfold F12
  refine newK_i fun b2 m1 hb2 K1 e2 O1 => ?_
  obtain ⟨n0, en0, _⟩ := ty_int (hT 0 _ rfl)
  obtain ⟨n1, en1, w1⟩ := ty_int (hT 1 _ rfl)
  obtain ⟨n2, en2, r2, r2'⟩ := ty_u32 (hT 2 _ rfl)
  obtain ⟨q3, en3⟩ := ty_b (hT 3 _ rfl)
  have l1 := h.l.keep K1
  have r1 := h.r.keep K1
  have hb : b2 ≠ b := fun e => by subst e; exact h.l.live hb2
  have hc : b2 ≠ c := fun e => by subst e; exact h.r.live hb2
  rw [ldI_of e2 (by show 0 < 4; omega) en0]
  refine kif_c _ (fun t => ?_) fun t => ?_
  · refine get_spec l1 fun m4 i4 o4 => rget_spec (r1.onlyK o4 (Ne.symm h.ne)) fun m5 i5 o5 => eq_spec ⟨i4.onlyK o5 h.ne, i5, h.ne, getS_ok h.ok⟩ ?_
    exact hk m5 _ ⟨i4.onlyK o5 h.ne, i5, h.ne, getS_ok h.ok⟩ (K1.rest.trans (o4.rest.trans o5.rest'))
  refine kif_c _ (fun t => ?_) fun t => ?_
  · refine probe_spec l1 fun m4 i4 o4 => rprobe_spec (r1.only o4 (Ne.symm h.ne)) fun m5 i5 o5 => eq_spec ⟨i4.only o5 h.ne, i5, h.ne, probeS_ok h.ok⟩ ?_
    exact hk m5 _ ⟨i4.only o5 h.ne, i5, h.ne, probeS_ok h.ok⟩ (K1.rest.trans (o4.rest.trans o5.rest'))
  refine kif_c _ (fun t => ?_) fun t => ?_
  · refine newK_i fun b9 m8 hb9 K8 e9 O8 => ?_
    have e2' := (K8 b2 (by rw [e2]; simp)).trans e2
    rw [ldI_of e2' (by show 1 < 4; omega) en1]
    have h3 := and64_rng n1 3 (by omega)
    have h3 : 0 ≤ bits .and .i64 n1 3 ∧ bits .and .i64 n1 3 ≤ 3 := h3
    generalize bits .and .i64 n1 3 = j at h3
    refine kif_ix (by omega) (by omega) ?_
    have hreg : ∃ r : Int, upd (upd (upd (upd (lget [(.flat (.int .i64 0)), (.flat (.int .i64 0)), (.flat (.int .i64 0)), (.flat (.int .i64 0))]) 0 (.flat (.int .i64 0))) 1 (.flat (.int .i64 2))) 2 (.flat (.int .i64 10))) 3 (.flat (.int .i64 9)) (0 + j.toNat * 1) = AV.flat (.int .i64 r) := by
      have : j = 0 ∨ j = 1 ∨ j = 2 ∨ j = 3 := by omega
      rcases this with rfl | rfl | rfl | rfl <;> exact ⟨_, rfl⟩
    obtain ⟨r, hr⟩ := hreg
    rw [ldI_of e9 (by show 0 + j.toNat * 1 < 4; omega) hr, ldI_of e2' (by show 2 < 4; omega) en2]
    refine write_spec (l1.keep K8) fun m13 i13 o13 => ?_
    rw [ldI_of ((o13 b2 hb).trans e2') (by show 2 < 4; omega) en2]
    refine rwrite_spec ((r1.keep K8).only o13 (Ne.symm h.ne)) fun m15 i15 o15 => eq_spec ⟨i13.only o15 h.ne, i15, h.ne, writeS_ok h.ok r2 r2'⟩ ?_
    exact hk m15 _ ⟨i13.only o15 h.ne, i15, h.ne, writeS_ok h.ok r2 r2'⟩ (K1.rest.trans (K8.rest.trans (o13.rest.trans o15.rest')))
  · rw [ldB_of e2 (by show 3 < 4; omega) en3]
    refine put_spec l1 h.ok fun m4 i4 o4 => ?_
    rw [ldB_of ((o4 b2 hb).trans e2) (by show 3 < 4; omega) en3]
    refine rput_spec (r1.only o4 (Ne.symm h.ne)) h.ok fun m5 i5 o5 => eq_spec ⟨i4.only o5 h.ne, i5, h.ne, putS_ok h.ok _⟩ ?_
    exact hk m5 _ ⟨i4.only o5 h.ne, i5, h.ne, putS_ok h.ok _⟩ (K1.rest.trans (o4.rest.trans o5.rest'))

theorem same_spec {m : Mem} {b c : Nat} {S : St} (h : Two b c S m) {va : Int} {k : Bool → Mem → Prop} (hk : k true m) : F13 b 0 c 0 va m k := by
  unfold F13
  refine newK_i fun b2 m1 hb2 K e2 O => ?_
  have l1 := h.l.keep K
  have r1 := h.r.keep K
  have round : ∀ (i : Nat) (kn : Int → Mem → Prop) (k0 : Mem → Prop) (kr : Bool → Mem → Prop), i < 2 → kn (i + 1) m1 → R13_2 b 0 c 0 va (.sl b2 0 2 (.ex 2)) 2 i m1 kn k0 kr := by
    intro i kn k0 kr hi hkn
    unfold R13_2
    refine kif_t (by simp; omega) (kif_ix (by omega) (by omega) ?_)
    have hq : ∃ q, upd (upd (lget [(.flat (.bool false)), (.flat (.bool false))]) 0 (.flat (.bool false))) 1 (.flat (.bool true)) (0 + (i : Int).toNat * 1) = AV.flat (.bool q) := by
      have : i = 0 ∨ i = 1 := by omega
      rcases this with rfl | rfl <;> exact ⟨_, rfl⟩
    obtain ⟨q, hq⟩ := hq
    rw [ldB_of e2 (by show 0 + (i : Int).toNat * 1 < 2; omega) hq]
    refine look_spec l1 (rlook_spec r1 ?_)
    refine kif_f (by simp) (kif_f (by simp) (kif_f (by simp) ?_))
    rw [wrap64 (by omega) (by omega)]
    exact hkn
  refine ⟨3, ?_⟩
  unfold L13_2
  refine round 0 _ _ _ (by omega) ?_
  unfold L13_2
  refine round 1 _ _ _ (by omega) ?_
  unfold L13_2 R13_2
  refine kif_f (by decide) (ldS_st l1 fun c20 h20 => ldS_st r1 fun c21 h21 => ?_)
  rw [geq_st h20 h21 _ (by kernel_rfl), decide_eq_true (St.same_refl S)]
  refine kif_t rfl (find_spec l1 (rfind_spec r1 ⟨K, ?_⟩))
  simpa using hk

theorem known7 {m : Mem} {k : Bool → Mem → Prop} (hk : k true m) : F11 m k := by
  unfold F11
  refine fresh_spec fun c1 h1 => newS h1 fun b4 m5 hb K O i => ?_
  refine look_spec i ?_
  have e1 : lookS St0 20480 false = (0, 2, true) := by decide
  rw [e1]
  refine kif_f rfl (kif_f rfl (kif_f rfl (find_spec i ?_)))
  have e2 : tfind St0 20480 8 0 = -1 := by decide
  rw [e2]
  refine kif_f rfl (stC_st i (by omega) rfl fun m12 i12 o12 => stC_st i12 (by omega) rfl fun m13 i13 o13 => ?_)
  have hok : ((St0.putN 49 20480).putN 41 9217).ok := putN_ok (putN_ok St0_ok (by omega) (by omega) (by omega)) (by omega) (by omega) (by omega)
  refine put_spec i13 hok fun m14 i14 o14 => look_spec i14 (look_spec i14 ?_)
  have e3 : lookS (putS ((St0.putN 49 20480).putN 41 9217) false) 20496 false = (9232, -1, false) := by decide
  have e4 : lookS (putS ((St0.putN 49 20480).putN 41 9217) false) 20496 true = (0, 1, false) := by decide
  rw [e3, e4]
  exact kif_t rfl (kif_t rfl ⟨Only.keeps (Only.keeps (Only.keeps K hb o12) hb o13) hb o14, hk⟩)

theorem page_spec {n va : Int} {m : Mem} {k : Int → Mem → Prop} (h0 : 0 ≤ va) (h1 : va < 4294967296) (hk : ∀ v, 0 ≤ v → v < 4294967296 → k v m) : F15 n va m k := by
  unfold F15
  refine kif_c _ (fun _ => ⟨Keeps.self m, hk va h0 h1⟩) fun _ => ⟨Keeps.self m, hk _ (or_rng _ _).1 (or_rng _ _).2⟩

/-! ### calls -/
section
variable {b c : Nat}
theorem plays12 {v1 v2 : AV} {S : St} {x9 : Int} {k2 : Mem → Prop} {kr : Bool → Mem → Prop} {m : Mem} (h : Two b c S m) (hv : Ty m (.sl [.i .u32]) v2) (hk : k2 m) : ∀ (d : Nat) (i : Int), 0 ≤ i → 6 ≤ i + d → L5_12 v1 v2 b 0 c 0 x9 (d + 1) i m k2 kr := by
  intro d
  induction d with
  | zero =>
    intro i h0 h1
    unfold L5_12 R5_12
    cases hv with
    | nil ls a => exact kif_f (by simp; omega) hk
    | sl ls b len cap y l1 l2 l3 l4 l5 l6 => exact kif_c _ (fun _ => kif_f (by simp; omega) hk) fun _ => hk
  | succ d ih =>
    intro i h0 h1
    unfold L5_12 R5_12
    cases hv with
    | nil ls a => exact kif_f (by simp; omega) hk
    | sl ls b' len cap y l1 l2 l3 l4 l5 l6 =>
      refine kif_c _ (fun c1 => ?_) fun _ => hk
      have c1 : i < (len : Int) := by simpa using c1
      refine kif_c _ (fun c2 => ?_) fun _ => hk
      have c2 : i < 6 := by simpa using c2
      refine kif_ix h0 c1 ?_
      obtain ⟨va, eva, r0, r1⟩ := ty_u32 (l6 i.toNat (by omega) 0 _ rfl)
      have eo : 0 + i.toNat * 1 = i.toNat * [Lf.i IntKind.u32].length + 0 := by simp
      rw [eo, ldI_of l4 (by rw [l5]; simp; omega) eva]
      refine page_spec r0 r1 fun v _ _ => same_spec h (kif_f rfl ?_)
      rw [wrap64 (by omega) (by omega)]
      exact ih (i + 1) (by omega) (by omega)

theorem Rest2.keeps {m0 m m' : Mem} (R : Rest2 b c m m') (K : Keeps m0 m) (hb : m0.obj b = none) (hc : m0.obj c = none) : Keeps m0 m' := fun b' h => by
  have h1 : b' ≠ b := fun e => h (e ▸ hb)
  have h2 : b' ≠ c := fun e => h (e ▸ hc)
  rw [R b' h1 h2 (by rw [K b' h]; exact h)]; exact K b' h
theorem wf_of_u32 {n : Int} (h0 : 0 ≤ n) (h1 : n < 4294967296) : (Lit.int .u32 n).wf = true := by
  simp [Lit.wf, IntKind.min, IntKind.max, IntKind.signed, IntKind.bits]; omega
theorem wf_of_i64 {n : Int} (h0 : -9223372036854775808 ≤ n) (h1 : n < 9223372036854775808) : (Lit.int .i64 n).wf = true := by
  simp [Lit.wf, IntKind.min, IntKind.max, IntKind.signed, IntKind.bits]; omega

theorem plays_body {v1 v2 : AV} {S : St} {x9 : Int} {kn : Mem → Prop} {kr : Bool → Mem → Prop} {m0 m : Mem} (h : Two b c S m) (K : Keeps m0 m) (hb : m0.obj b = none) (hc : m0.obj c = none) (hv : Ty m0 (.sl [.i .u32]) v2)
    {b20 : Nat} {x : Blk} (hx : m.obj b20 = some x) (hn : x.n = 4) (hT : TyAll m shAsk x.c) (hk : ∀ m' S', Two b c S' m' → Keeps m0 m' → kn m') : P5_9103 v1 v2 b 0 c 0 x9 b20 0 m kr kn := by
  unfold P5_9103
  rw [ldG_of hx (by omega)]
  have hT' : TyAll m shAsk (sub x.c 0 4) := fun i l e => by
    have hi : i < 4 := (List.getElem?_eq_some_iff.1 e).1
    simp only [sub, if_pos hi, Nat.zero_add]; exact hT i l e
  refine do_spec h hT' fun m' S' h' R => kif_f rfl ⟨7, plays12 h' (hv.keep (R.keeps K hb hc)) ?_ 6 0 (by omega) (by omega)⟩
  exact hk m' S' h' (R.keeps K hb hc)

theorem plays4 {v1 v2 : AV} {k0 : Mem → Prop} {kr : Bool → Mem → Prop} {m0 : Mem} (hb : m0.obj b = none) (hc : m0.obj c = none) (hv1 : Ty m0 (.sl shAsk) v1) (hv2 : Ty m0 (.sl [.i .u32]) v2) (hk : ∀ m, k0 m) :
    ∀ (d : Nat) (i : Int) (m : Mem) (S : St), 0 ≤ i → 40 ≤ i + d → Two b c S m → Keeps m0 m → L5_4 v1 v2 b 0 c 0 (d + 1) i m k0 kr := by
  intro d
  induction d with
  | zero =>
    intro i m S h0 h1 h K
    unfold L5_4 R5_4
    cases hv1 with
    | nil ls a => exact kif_f (by simp; omega) (hk m)
    | sl ls b len cap y l1 l2 l3 l4 l5 l6 => exact kif_c _ (fun _ => kif_f (by simp; omega) (hk m)) fun _ => hk m
  | succ d ih =>
    intro i m S h0 h1 h K
    unfold L5_4 R5_4
    cases hv1 with
    | nil ls a => exact kif_f (by simp; omega) (hk m)
    | sl ls b' len cap y l1 l2 l3 l4 l5 l6 =>
      refine kif_c _ (fun c1 => ?_) fun _ => hk m
      have c1 : i < (len : Int) := by simpa using c1
      refine kif_c _ (fun c2 => ?_) fun _ => hk m
      have c2 : i < 40 := by simpa using c2
      refine kif_ix h0 c1 ?_
      have l4' := (K b' (by rw [l4]; simp)).trans l4
      have hl : shAsk.length = 4 := rfl
      rw [hl] at l5 l6
      rw [ldG_of l4' (by rw [l5]; omega)]
      have hT18 : TyAll m0 shAsk (sub y.c (0 + i.toNat * 4) 4) := fun j l e => by
        have hj : j < 4 := (List.getElem?_eq_some_iff.1 e).1
        simp only [sub, if_pos hj]
        have := l6 i.toNat (by omega) j l e
        rwa [show 0 + i.toNat * 4 + j = i.toNat * 4 + j by omega]
      have hnext : ∀ m' S', Two b c S' m' → Keeps m0 m' → L5_4 (.sl b' 0 len (.ex cap)) v2 b 0 c 0 (d + 1) (IntKind.wrap .i64 (i + 1)) m' k0 kr := fun m' S' h' K' => by
        rw [wrap64 (by omega) (by omega)]
        exact ih (i + 1) m' S' (by omega) (by omega) h' K'
      refine boxN fun b20 m21 x21 hb20 K21 ex hn hro hcx => ?_
      have hTx : TyAll m21 shAsk x21.c := fun j l e => by
        have hj : j < 4 := (List.getElem?_eq_some_iff.1 e).1
        rw [hcx j hj]; exact (hT18 j l e).keep (K.trans K21)
      have h21 : Two b c S m21 := ⟨h.l.keep K21, h.r.keep K21, h.ne, h.ok⟩
      have hbb : b20 ≠ b := fun e => by subst e; exact h.l.live hb20
      have hbc : b20 ≠ c := fun e => by subst e; exact h.r.live hb20
      obtain ⟨n1, en1, w1⟩ := ty_int (hTx 1 _ rfl)
      obtain ⟨n2, en2, r2, r2'⟩ := ty_u32 (hTx 2 _ rfl)
      rw [ldI_of ex (by omega) en1]
      refine kif_c _ (fun _ => ?_) fun _ => ?_
      · rw [ldI_of ex (by omega) en1, ldI_of ex (by omega) en2]
        refine page_spec r2 r2' fun v v0 v1 => ?_
        rw [stC_of ex hro (by omega)]
        have O27 : Only m21 b20 (m21.set b20 { x21 with c := upd x21.c 2 (.flat (.int .u32 v)) }) := Only.set _ _ _
        have h27 : Two b c S (m21.set b20 { x21 with c := upd x21.c 2 (.flat (.int .u32 v)) }) := ⟨h21.l.only O27 (Ne.symm hbb), h21.r.only O27 (Ne.symm hbc), h.ne, h.ok⟩
        have hm0b : m0.obj b20 = none := newK_none K hb20
        have K27 : Keeps m0 (m21.set b20 { x21 with c := upd x21.c 2 (.flat (.int .u32 v)) }) := Only.keeps (K.trans K21) hm0b O27
        refine plays_body h27 K27 hb hc hv2 (set_same _ _ _) hn (fun j l e => ?_) hnext
        show Ty _ l (upd x21.c 2 _ j)
        unfold upd
        split
        · rename_i ej; subst ej
          have : l = .i .u32 := by simpa [shAsk] using e.symm
          subst this; exact .i .u32 v (wf_of_u32 v0 v1)
        · obtain hj := (List.getElem?_eq_some_iff.1 e).1
          have := hTx j l e
          have hj : j = 0 ∨ j = 1 ∨ j = 3 := by
            have : j < 4 := hj
            omega
          rcases hj with rfl | rfl | rfl
          · have : l = .i .i64 := by simpa [shAsk] using e.symm
            subst this; obtain ⟨n, en, w⟩ := ty_int (hTx 0 _ rfl); rw [en]; exact .i .i64 n w
          · have : l = .i .i64 := by simpa [shAsk] using e.symm
            subst this; rw [en1]; exact .i .i64 n1 w1
          · have : l = .b := by simpa [shAsk] using e.symm
            subst this; obtain ⟨n, en⟩ := ty_b (hTx 3 _ rfl); rw [en]; exact .b n
      · exact plays_body h21 (K.trans K21) hb hc hv2 ex hn hTx hnext
end

theorem TlbPlays {m : Mem} {a : Nat → AV} (hT : TyAll m shS a) {v1 v2 : AV} (hv1 : Ty m (.sl shAsk) v1) (hv2 : Ty m (.sl [.i .u32]) v2) : F5 a v1 v2 m isTrue := by
  unfold F5
  refine drawn hT (by omega) (by omega) fun b2 b7 m8 S i7 hS _ _ K h7 _ => ?_
  refine ldS_st i7 fun c9 h9 => newS h9 fun b11 m12 hb11 K12 O12 i11 => ?_
  have h11 : m.obj b11 = none := by
    by_cases e : m.obj b11 = none
    · exact e
    · rw [K b11 e] at hb11; exact absurd hb11 e
  have hne : b7 ≠ b11 := fun e => by subst e; exact i7.live hb11
  exact ⟨41, plays4 h7 h11 hv1 hv2 (fun m => known7 rfl) 40 0 m12 S (by omega) (by omega) ⟨i7.keep K12, i11, hne, hS⟩ (K.trans K12)⟩

/-! ### the closed sentence -/
section
variable {b c : Nat}
theorem nums10 {S : St} {m : Mem} (h : Two b c S m) {x3 : Int} {k2 : Mem → Prop} {kr : Bool → Mem → Prop} (hk : k2 m) : ∀ (d : Nat) (i : Int), 0 ≤ i → 9216 ≤ i + 511 * d → L4_10 b 0 c 0 x3 (d + 1) i m k2 kr := by
  intro d
  induction d with
  | zero =>
    intro i h0 h1
    unfold L4_10 R4_10
    exact kif_f (by simp; omega) hk
  | succ d ih =>
    intro i h0 h1
    unfold L4_10 R4_10
    refine kif_c _ (fun c1 => ?_) fun _ => hk
    have c1 : i < 9216 := by simpa using c1
    refine same_spec h (kif_f rfl ?_)
    rw [wrap32, Int.emod_eq_of_lt (by omega) (by omega)]
    exact ih (i + 511) (by omega) (by omega)

theorem nums4 {k0 : Mem → Prop} {kr : Bool → Mem → Prop} (hk : ∀ m, k0 m) : ∀ (d : Nat) (i : Int) (m : Mem) (S : St), 0 ≤ i → i + d = 120 → Two b c S m → L4_4 b 0 c 0 (d + 1) i m k0 kr := by
  intro d
  induction d with
  | zero =>
    intro i m S h0 h1 h
    unfold L4_4 R4_4
    exact kif_f (by simp; omega) (hk m)
  | succ d ih =>
    intro i m S h0 h1 h
    unfold L4_4 R4_4
    refine kif_t (by simp; omega) ?_
    rw [tmod_nn h0]
    refine newK_i fun b11 m10 hb11 K10 e11 O10 => kif_ix (by omega) (by omega) ?_
    have hreg : ∃ r : Int, 0 ≤ r ∧ r < 5 ∧ upd (upd (upd (upd (upd (upd (upd (upd (Z8) 0 (.flat (.int .i64 4))) 1 (.flat (.int .i64 4))) 2 (.flat (.int .i64 0))) 3 (.flat (.int .i64 4))) 4 (.flat (.int .i64 3))) 5 (.flat (.int .i64 2))) 6 (.flat (.int .i64 1))) 7 (.flat (.int .i64 4)) (0 + (i % 8).toNat * 1) = AV.flat (.int .i64 r) := by
      have : i % 8 = 0 ∨ i % 8 = 1 ∨ i % 8 = 2 ∨ i % 8 = 3 ∨ i % 8 = 4 ∨ i % 8 = 5 ∨ i % 8 = 6 ∨ i % 8 = 7 := by omega
      rcases this with e | e | e | e | e | e | e | e <;> rw [e] <;> exact ⟨_, by decide, by decide, rfl⟩
    obtain ⟨r, hr0, hr1, hr⟩ := hreg
    rw [ldI_of e11 (by show 0 + (i % 8).toNat * 1 < 8; omega) hr]
    refine boxN fun b14 m15 x14 hb14 K14 e14 hn14 hro14 hc14 => ?_
    rw [ldG_of e14 (by omega)]
    have hor := or_rng (bits .and .u32 (IntKind.wrap .u32 ((IntKind.wrap .u32 i) * 1024)) 7168) (IntKind.wrap .u32 (i.tmod 9))
    generalize bits .or .u32 (bits .and .u32 (IntKind.wrap .u32 ((IntKind.wrap .u32 i) * 1024)) 7168) (IntKind.wrap .u32 (i.tmod 9)) = w at hor hc14 ⊢
    have K15 : Keeps m m15 := K10.trans K14
    have h15 : Two b c S m15 := ⟨h.l.keep K15, h.r.keep K15, h.ne, h.ok⟩
    refine do_spec h15 (fun j l e => ?_) fun m18 S' h18 R18 => kif_f rfl ?_
    · have hj : j < 4 := (List.getElem?_eq_some_iff.1 e).1
      simp only [sub, if_pos hj, Nat.zero_add]
      rw [hc14 j hj]
      have hj : j = 0 ∨ j = 1 ∨ j = 2 ∨ j = 3 := by omega
      rcases hj with rfl | rfl | rfl | rfl
      · have : l = .i .i64 := by simpa [shAsk] using e.symm
        subst this; exact .i .i64 r (wf_of_i64 (by omega) (by omega))
      · have : l = .i .i64 := by simpa [shAsk] using e.symm
        subst this; exact .i .i64 i (wf_of_i64 (by omega) (by omega))
      · have : l = .i .u32 := by simpa [shAsk] using e.symm
        subst this; exact .i .u32 w (wf_of_u32 hor.1 hor.2)
      · have : l = .b := by simpa [shAsk] using e.symm
        subst this; exact .b _
    · refine ⟨20, nums10 h18 ?_ 19 0 (by omega) (by omega)⟩
      rw [wrap64 (by omega) (by omega)]
      exact ih (i + 1) m18 S' (by omega) (by omega) h18
end
theorem TlbNumbers {m : Mem} : F4 m isTrue := by
  unfold F4
  refine fresh_spec fun c1 h1 => newS h1 fun b4 m5 hb4 K5 O5 i4 => ldS_st i4 fun c6 h6 => newS h6 fun b8 m9 hb8 K9 O9 i8 => ?_
  have hne : b4 ≠ b8 := fun e => by subst e; exact i4.live hb8
  exact ⟨121, nums4 (fun m => known7 rfl) 120 0 m9 St0 (by omega) (by omega) ⟨i4.keep K9, i8, hne, St0_ok⟩⟩

end Go.Proofs.Ytnfpmaiolponbaa.Am
