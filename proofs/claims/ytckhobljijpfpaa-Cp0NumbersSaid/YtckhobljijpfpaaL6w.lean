/- Chapter 6: what its functions do to a State, the program's and the reference's: the walk. Conditions: the State lies in a block of its own. -/
import Derived.Test.YtckhobljijpfpaaL6
namespace Go.Proofs.Ytckhobljijpfpaa.Am
set_option linter.unusedVariables false
set_option linter.unusedSimpArgs false

theorem wrap64d (x : Int) : IntKind.wrap .i64 (IntKind.wrap .u32 x) = x % 4294967296 := by
  rw [wrap32, wrap64 (by omega) (by omega)]

theorem go_spec {m : Mem} {b : Nat} {S : St} (h : IsSt m b S) {n : Int} {k : Bool → Mem → Prop} (hk : ∀ m', IsSt m' b (goS S n).1 → Only m b m' → k (goS S n).2 m') : F8 (.ptr b 0) n m k := by
  unfold F8; simp only [knilP, kptr]; refine kif_f rfl ?_
  unfold goS at hk
  refine kif_c _ (fun c => ?_) fun c => ?_
  · rw [if_pos (by simpa using c)] at hk; exact hk m h (Only.refl m b)
  have c : ¬ n < 1 := by simpa using c
  rw [if_neg c] at hk
  rw [ldI_st h (by omega) rfl, ldI_st h (by omega) rfl, wrap64d]
  have key : ∀ d : Int, d = missS S → P8_6102 (.ptr b 0) n d m k := by
    intro d hd
    unfold P8_6102; simp only [knilP, kptr]
    simp only [Nat.reduceAdd, Nat.zero_add]
    rw [ldT_st h]
    refine stT_st h fun m1 i1 o1 => ?_
    rw [ldI_st i1 (by omega) rfl]
    refine stC_st i1 (by omega) rfl fun m2 i2 o2 => ?_
    rw [putN_other S (i := 72) (j := 48) _ (by decide)] at i2
    refine kif_c _ (fun c2 => ?_) fun c2 => ?_
    · have c2 : n < d := by simpa using c2
      rw [if_neg (by omega)] at hk
      exact hk m2 i2 (o1.trans o2)
    · have c2 : ¬ n < d := by simpa using c2
      rw [if_pos (by omega)] at hk
      rw [ldI_st i2 (by omega) rfl]
      refine stC_st i2 (by omega) rfl fun m3 i3 o3 => ?_
      rw [putN_other _ (j := 52) _ (by decide), putN_other _ (j := 52) _ (by decide)] at i3
      exact hk m3 i3 ((o1.trans o2).trans o3)
  refine kif_c _ (fun c1 => key _ ?_) fun c1 => key _ ?_
  · have c1 := ofbeq c1
    unfold missS; rw [if_pos (by simpa using c1)]
  · have c1 := ofbne c1
    unfold missS; rw [if_neg (by simpa using c1)]

theorem to_spec {m : Mem} {b : Nat} {S : St} (h : IsSt m b S) {pc : Int} {k : Mem → Prop} (hk : ∀ m', IsSt m' b (toS S pc) → Only m b m' → k m') : F19 b 0 pc m k := by
  unfold F19
  simp only [Nat.reduceAdd, Nat.zero_add]
  exact stC_st h (by omega) rfl fun m1 i1 o1 => stC_st i1 (by omega) rfl fun m2 i2 o2 => stB_st i2 (by omega) rfl fun m3 i3 o3 => hk m3 i3 ((o1.trans o2).trans o3)

theorem enter_spec {m : Mem} {b : Nat} {S : St} (h : IsSt m b S) {c : Int} {r : Bool} (hc0 : 0 ≤ c) (hc1 : c < 32) {k : Mem → Prop} (hk : ∀ m', IsSt m' b (enterS S c r) → Only m b m' → k m') : F11 (.ptr b 0) c r m k := by
  unfold F11; simp only [knilP, kptr]; refine kif_f rfl ?_
  simp only [Nat.reduceAdd, Nat.zero_add]
  unfold enterS at hk
  obtain ⟨e1, e2, e3⟩ := code_and c hc0 hc1
  have tail : ∀ (A : St) (pc : Int) (m1 : Mem), IsSt m1 b A → Only m b m1 → (∀ m', IsSt m' b (enterB A c pc) → Only m b m' → k m') → P11_10102 (.ptr b 0) c pc m1 (fun m9 => k m9) := by
    intro A pc m1 i1 o1 hk
    unfold P11_10102; simp only [knilP, kptr]
    simp only [Nat.reduceAdd, Nat.zero_add]
    rw [e1, e3, ldI_st i1 (by omega) rfl]
    refine stC_st i1 (by omega) rfl fun m2 i2 o2 => to_spec i2 fun m3 i3 o3 => ?_
    rw [ldI_st i3 (by omega) rfl]
    refine stC_st i3 (by omega) rfl fun m4 i4 o4 => hk m4 i4 (((o1.trans o2).trans o3).trans o4)
  rw [ldI_st h (by omega) rfl]
  refine kif_c _ (fun cx => ?_) fun cx => ?_
  · have hout : outS S = true := cx
    have eA : enterA S = if S.p 36 = true then (S.putN 53 (IntKind.wrap .u32 (S.n 34 - 4))).putN 52 (bits .or .u32 (bits .andNot .u32 (S.n 52) 2147483648) 2147483648) else (S.putN 53 (S.n 34)).putN 52 (bits .andNot .u32 (S.n 52) 2147483648) := by unfold enterA; rw [if_pos hout]
    have mid : ∀ (m1 : Mem), IsSt m1 b (enterA S) → Only m b m1 → P11_8102 (.ptr b 0) c r 2147484032 m1 (fun x m2 => P11_10102 (.ptr b 0) c x m2 (fun m9 => k m9)) := by
      intro m1 i1 o1
      unfold P11_8102; simp only [knilP, kptr]
      rw [hout, Bool.and_true] at hk
      refine kif_c _ (fun c2 => ?_) fun c2 => ?_
      · rw [if_pos c2] at hk; exact tail _ _ _ i1 o1 hk
      · rw [if_neg (by rw [c2]; simp)] at hk; exact tail _ _ _ i1 o1 hk
    rw [ldI_st h (by omega) rfl]
    refine stC_st h (by omega) rfl fun m1 i1 o1 => ?_
    rw [ldI_st i1 (by omega) rfl, putN_other S (j := 52) _ (by decide)]
    refine stC_st i1 (by omega) rfl fun m2 i2 o2 => ?_
    rw [ldB_st i2 (by omega) rfl]
    refine kif_c _ (fun c3 => ?_) fun c3 => ?_
    · have c3 : S.p 36 = true := c3
      rw [ldI_st i2 (by omega) rfl, putN_other _ (j := 34) _ (by decide), putN_other _ (j := 34) _ (by decide)]
      refine stC_st i2 (by omega) rfl fun m3 i3 o3 => ?_
      rw [ldI_st i3 (by omega) rfl, putN_other _ (j := 52) _ (by decide), putN_same]
      refine stC_st i3 (by omega) rfl fun m4 i4 o4 => mid m4 ?_ (((o1.trans o2).trans o3).trans o4)
      rw [eA, if_pos c3]
      rw [St.putNC _ (i := 52) (j := 53) (by decide), St.putNN, St.putNN] at i4
      exact i4
    · have c3 : S.p 36 = false := c3
      refine mid m2 ?_ (o1.trans o2)
      rw [eA, if_neg (by rw [c3]; simp)]
      exact i2
  · have hout : outS S = false := cx
    have eA : enterA S = S := by unfold enterA; rw [if_neg (by rw [hout]; simp)]
    rw [hout, Bool.and_false, if_neg (by simp), eA] at hk
    exact tail S _ m h (Only.refl m b) hk

theorem renter_spec {m : Mem} {b : Nat} {S : St} (h : IsSt m b S) {c : Int} {r : Bool} (hc0 : 0 ≤ c) (hc1 : c < 32) {k : Mem → Prop} (hk : ∀ m', IsSt m' b (enterS S c r) → Only m b m' → k m') : F21 b 0 c r m k := by
  unfold F21
  simp only [Nat.reduceAdd, Nat.zero_add]
  unfold enterS at hk
  obtain ⟨e1, e2, e3⟩ := code_and c hc0 hc1
  have last : ∀ (A : St) (pc : Int) (m1 : Mem), IsSt m1 b (A.putN 34 pc) → Only m b m1 → (∀ m', IsSt m' b (toS A pc) → Only m b m' → k m') → P21_12002 b 0 m1 (fun m9 => k m9) := by
    intro A pc m1 i1 o1 hk
    unfold P21_12002
    simp only [Nat.reduceAdd, Nat.zero_add]
    rw [ldI_st i1 (by omega) rfl, putN_same]
    exact stC_st i1 (by omega) rfl fun m2 i2 o2 => stB_st i2 (by omega) rfl fun m3 i3 o3 => hk m3 i3 ((o1.trans o2).trans o3)
  have tail : ∀ (A : St) (m1 : Mem), IsSt m1 b A → Only m b m1 → (∀ m', IsSt m' b (enterB A c (if (r && outS S) = true then 2147483648 else 2147484032)) → Only m b m' → k m') → P21_7102 b 0 c r (bits .and .u32 (S.n 51) 2 != 0) m1 (fun m9 => k m9) := by
    intro A m1 i1 o1 hk
    unfold P21_7102
    simp only [Nat.reduceAdd, Nat.zero_add]
    rw [e2, ldI_st i1 (by omega) rfl]
    refine stC_st i1 (by omega) rfl fun m2 i2 o2 => ?_
    rw [ldI_st i2 (by omega) rfl]
    refine stC_st i2 (by omega) rfl fun m3 i3 o3 => stC_st i3 (by omega) rfl fun m4 i4 o4 => ?_
    have o4 := ((o1.trans o2).trans o3).trans o4
    have eqB : ∀ pc, enterB A c pc = toS ((A.putN 52 (bits .or .u32 (bits .andNot .u32 (A.n 52) 124) (c * 4))).putN 51 (bits .or .u32 (A.n 51) 2)) pc := by
      intro pc
      unfold enterB toS
      exact St.ext (fun i => by
        simp only [St.putN, St.putP, upd]
        by_cases q1 : i = 51
        · subst q1; simp
        · by_cases q2 : i = 35
          · subst q2; simp
          · by_cases q3 : i = 34
            · subst q3; simp
            · by_cases q4 : i = 52
              · subst q4; simp
              · simp [q1, q2, q3, q4]) fun i => rfl
    rw [putN_other A (j := 51) _ (by decide)] at i4
    refine kif_c _ (fun c1 => kif_c _ (fun c2 => ?_) fun c2 => ?_) fun c1 => ?_
    · have ho : outS S = true := by unfold outS; simpa using c2
      rw [c1, ho] at hk
      refine stC_st i4 (by omega) rfl fun m5 i5 o5 => last _ _ m5 (by rw [St.putNN] at i5; exact i5) (o4.trans o5) ?_
      rw [← eqB]; exact hk
    · have ho : outS S = false := by unfold outS; simpa using c2
      rw [c1, ho] at hk
      refine last _ _ m4 i4 o4 ?_
      rw [← eqB]; exact hk
    · rw [c1] at hk
      refine last _ _ m4 i4 o4 ?_
      rw [← eqB]; exact hk
  rw [ldI_st h (by omega) rfl]
  refine kif_c _ (fun cx => ?_) fun cx => ?_
  · have hout : outS S = true := by unfold outS; simpa using cx
    have eA : enterA S = if S.p 36 = true then (S.putN 53 (IntKind.wrap .u32 (S.n 34 - 4))).putN 52 (bits .or .u32 (bits .andNot .u32 (S.n 52) 2147483648) 2147483648) else (S.putN 53 (S.n 34)).putN 52 (bits .andNot .u32 (S.n 52) 2147483648) := by unfold enterA; rw [if_pos hout]
    rw [ldI_st h (by omega) rfl]
    refine stC_st h (by omega) rfl fun m1 i1 o1 => ?_
    rw [ldI_st i1 (by omega) rfl, putN_other S (j := 52) _ (by decide)]
    refine stC_st i1 (by omega) rfl fun m2 i2 o2 => ?_
    rw [ldB_st i2 (by omega) rfl]
    refine kif_c _ (fun c3 => ?_) fun c3 => ?_
    · have c3 : S.p 36 = true := c3
      rw [ldI_st i2 (by omega) rfl, putN_other _ (j := 34) _ (by decide), putN_other _ (j := 34) _ (by decide)]
      refine stC_st i2 (by omega) rfl fun m3 i3 o3 => ?_
      rw [ldI_st i3 (by omega) rfl, putN_other _ (j := 52) _ (by decide), putN_same]
      refine stC_st i3 (by omega) rfl fun m4 i4 o4 => tail _ m4 ?_ (((o1.trans o2).trans o3).trans o4) hk
      rw [eA, if_pos c3]
      rw [St.putNC _ (i := 52) (j := 53) (by decide), St.putNN, St.putNN] at i4
      exact i4
    · have c3 : S.p 36 = false := c3
      refine tail _ m2 ?_ (o1.trans o2) hk
      rw [eA, if_neg (by rw [c3]; simp)]
      exact i2
  · have hout : outS S = false := by unfold outS; simpa using cx
    have eA : enterA S = S := by unfold enterA; rw [if_neg (by rw [hout]; simp)]
    rw [eA] at hk
    exact tail S m h (Only.refl m b) hk

theorem return_spec {m : Mem} {b : Nat} {S : St} (h : IsSt m b S) {k : Mem → Prop} (hk : ∀ m', IsSt m' b (returnS S) → Only m b m' → k m') : F14 b 0 m k := by
  unfold F14
  simp only [Nat.reduceAdd, Nat.zero_add]
  rw [ldI_st h (by omega) rfl]
  refine to_spec h fun m1 i1 o1 => ?_
  rw [ldI_st i1 (by omega) rfl]
  refine stC_st i1 (by omega) rfl fun m2 i2 o2 => stB_st i2 (by omega) rfl fun m3 i3 o3 => hk m3 i3 ((o1.trans o2).trans o3)
theorem rreturn_spec {m : Mem} {b : Nat} {S : St} (h : IsSt m b S) {k : Mem → Prop} (hk : ∀ m', IsSt m' b (returnS S) → Only m b m' → k m') : F24 b 0 m k := by
  unfold F24
  simp only [Nat.reduceAdd, Nat.zero_add]
  rw [ldI_st h (by omega) rfl]
  refine stC_st h (by omega) rfl fun m1 i1 o1 => ?_
  rw [ldI_st i1 (by omega) rfl, putN_same]
  refine stC_st i1 (by omega) rfl fun m2 i2 o2 => stB_st i2 (by omega) rfl fun m3 i3 o3 => stB_st i3 (by omega) rfl fun m4 i4 o4 => ?_
  rw [ldI_st i4 (by omega) rfl]
  exact stC_st i4 (by omega) rfl fun m5 i5 o5 => hk m5 i5 ((((o1.trans o2).trans o3).trans o4).trans o5)

theorem bad_spec {m : Mem} {b : Nat} {S : St} (h : IsSt m b S) {va : Int} {t : Bool} {k : Mem → Prop} (hk : ∀ m', IsSt m' b (badS S va t) → Only m b m' → k m') : F22 b 0 va t m k := by
  unfold F22
  simp only [Nat.reduceAdd, Nat.zero_add]
  unfold badS at hk
  refine stC_st h (by omega) rfl fun m1 i1 o1 => kif_c _ (fun c => ?_) fun c => ?_
  · rw [if_pos c] at hk
    rw [ldI_st i1 (by omega) rfl, putN_other S (j := 49) _ (by decide), not_and (S.n 49) 4294966272 1023 (by decide)]
    exact stC_st i1 (by omega) rfl fun m2 i2 o2 => hk m2 i2 (o1.trans o2)
  · rw [if_neg (by rw [c]; simp)] at hk
    exact hk m1 i1 o1
theorem rbad_spec {m : Mem} {b : Nat} {S : St} (h : IsSt m b S) {va : Int} {t : Bool} {k : Mem → Prop} (hk : ∀ m', IsSt m' b (badS S va t) → Only m b m' → k m') : F23 b 0 va t m k := by
  unfold F23
  simp only [Nat.reduceAdd, Nat.zero_add]
  unfold badS at hk
  refine stC_st h (by omega) rfl fun m1 i1 o1 => kif_c _ (fun c => ?_) fun c => ?_
  · rw [if_pos c] at hk
    rw [ldI_st i1 (by omega) rfl, putN_other S (j := 49) _ (by decide), not1023]
    exact stC_st i1 (by omega) rfl fun m2 i2 o2 => hk m2 i2 (o1.trans o2)
  · rw [if_neg (by rw [c]; simp)] at hk
    exact hk m1 i1 o1

theorem line_spec {m : Mem} {b : Nat} {S : St} (h : IsSt m b S) {t : Bool} {k : Mem → Prop} (hk : ∀ m', IsSt m' b (lineS S t) → Only m b m' → k m') : F26 b 0 t m k := by
  unfold F26
  simp only [Nat.reduceAdd, Nat.zero_add]
  unfold lineS at hk
  rw [ldI_st h (by omega) rfl]
  refine stC_st h (by omega) rfl fun m1 i1 o1 => kif_c _ (fun c => ?_) fun c => ?_
  · rw [if_pos c] at hk
    rw [ldI_st i1 (by omega) rfl, putN_same]
    refine stC_st i1 (by omega) rfl fun m2 i2 o2 => hk m2 ?_ (o1.trans o2)
    rw [St.putNN] at i2; exact i2
  · rw [if_neg (by rw [c]; simp)] at hk
    exact hk m1 i1 o1
theorem rline_spec {m : Mem} {b : Nat} {S : St} (h : IsSt m b S) {t : Bool} {k : Mem → Prop} (hk : ∀ m', IsSt m' b (lineS S t) → Only m b m' → k m') : F27 b 0 t m k := by
  unfold F27
  simp only [Nat.reduceAdd, Nat.zero_add]
  unfold lineS at hk
  rw [ldI_st h (by omega) rfl]
  refine stC_st h (by omega) rfl fun m1 i1 o1 => kif_c _ (fun c => ?_) fun c => ?_
  · rw [if_pos c] at hk
    rw [ldI_st i1 (by omega) rfl, putN_same]
    refine stC_st i1 (by omega) rfl fun m2 i2 o2 => hk m2 ?_ (o1.trans o2)
    rw [St.putNN] at i2; exact i2
  · rw [if_neg (by rw [c]; simp)] at hk
    exact hk m1 i1 o1

theorem pend_spec {m : Mem} {b : Nat} {S : St} (h : IsSt m b S) {k : Bool → Mem → Prop} (hk : k (pendS S) m) : F20 b 0 m k := by
  unfold F20
  simp only [Nat.reduceAdd, Nat.zero_add]
  rw [ldI_st h (by omega) rfl, ldI_st h (by omega) rfl, and_and]
  exact ⟨Keeps.self m, hk⟩
theorem rpend_spec {m : Mem} {b : Nat} {S : St} (h : IsSt m b S) {k : Bool → Mem → Prop} (hk : k (pendS S) m) : F30 b 0 m k := by
  unfold F30
  simp only [Nat.reduceAdd, Nat.zero_add]
  rw [ldI_st h (by omega) rfl, ldI_st h (by omega) rfl]
  exact ⟨Keeps.self m, hk⟩
theorem taken_spec {m : Mem} {b : Nat} {S : St} (h : IsSt m b S) (hS : S.ok) {k : Bool → Mem → Prop} (hk : k (takenS S) m) : F13 b 0 m k := by
  unfold F13
  simp only [Nat.reduceAdd, Nat.zero_add]
  unfold takenS at hk
  rw [taken_eq _ (hS.1 51 (by omega)).1 (hS.1 51 (by omega)).2] at hk
  refine pend_spec h (kif_c _ (fun c => ?_) fun c => ?_)
  · rw [ldI_st h (by omega) rfl]
    refine kif_c _ (fun c1 => ?_) fun c1 => ?_
    · rw [ldI_st h (by omega) rfl]; rw [c, c1] at hk; exact ⟨Keeps.self m, hk⟩
    · rw [c, c1] at hk; exact ⟨Keeps.self m, hk⟩
  · rw [c] at hk; exact ⟨Keeps.self m, hk⟩
theorem rtaken_spec {m : Mem} {b : Nat} {S : St} (h : IsSt m b S) {k : Bool → Mem → Prop} (hk : k (takenS S) m) : F31 b 0 m k := by
  unfold F31
  simp only [Nat.reduceAdd, Nat.zero_add]
  unfold takenS at hk
  refine rpend_spec h (kif_c _ (fun c => ?_) fun c => ?_)
  · rw [ldI_st h (by omega) rfl]; rw [c] at hk; exact ⟨Keeps.self m, hk⟩
  · rw [c] at hk; exact ⟨Keeps.self m, hk⟩

theorem rgo_spec {m : Mem} {b : Nat} {S : St} (h : IsSt m b S) {n : Int} {k : Bool → Mem → Prop} (hk : ∀ m', IsSt m' b (goS S n).1 → Only m b m' → k (goS S n).2 m') : F25 b 0 n m k := by
  unfold F25
  simp only [Nat.reduceAdd, Nat.zero_add]
  unfold goS at hk
  refine kif_c _ (fun c => ?_) fun c => ?_
  · rw [if_pos (by simpa using c)] at hk; exact hk m h (Only.refl m b)
  have c : ¬ n < 1 := by simpa using c
  rw [if_neg c] at hk
  have miss : ∀ {k : Int → Mem → Prop}, k (missS S) m → F33 b 0 m k := by
    intro k hk
    unfold F33
    unfold missS at hk
    rw [ldI_st h (by omega) rfl, ldI_st h (by omega) rfl, wrap64d]
    refine kif_c _ (fun c => ?_) fun c => ?_
    · rw [if_pos (by simpa using ofbeq c)] at hk; exact ⟨Keeps.self m, hk⟩
    · rw [if_neg (by simpa using ofbne c)] at hk; exact ⟨Keeps.self m, hk⟩
  refine miss ?_
  rw [ldT_st h]
  refine stT_st h fun m1 i1 o1 => ?_
  rw [ldI_st i1 (by omega) rfl]
  refine stC_st i1 (by omega) rfl fun m2 i2 o2 => ?_
  rw [putN_other S (i := 72) (j := 48) _ (by decide)] at i2
  refine kif_c _ (fun c2 => ?_) fun c2 => ?_
  · rw [c2]
    have c2 : missS S ≤ n := by simpa using c2
    rw [if_pos c2] at hk
    rw [ldI_st i2 (by omega) rfl]
    refine stC_st i2 (by omega) rfl fun m3 i3 o3 => ?_
    rw [putN_other _ (j := 52) _ (by decide), putN_other _ (j := 52) _ (by decide)] at i3
    exact hk m3 i3 ((o1.trans o2).trans o3)
  · rw [c2]
    have c2 : ¬ missS S ≤ n := by simpa using c2
    rw [if_neg c2] at hk
    exact hk m2 i2 (o1.trans o2)

end Go.Proofs.Ytckhobljijpfpaa.Am
