/- The laws of chapter 6 over the abstract machine: counts; returns. Conditions: what is handed in is plain data. -/
import Derived.Test.YtckhobljijpfpaaL6w
namespace Go.Proofs.Ytckhobljijpfpaa.Am
set_option linter.unusedVariables false
set_option linter.unusedSimpArgs false

theorem known6 {m : Mem} {k : Bool → Mem → Prop} (hk : k true m) : F9 m k := by
  unfold F9
  refine fresh_spec fun c1 h1 => newS h1 fun b m5 hb K5 O5 i5 => ?_
  rw [ldI_st i5 (by omega) rfl, show St0.n 34 = 2147484672 from rfl]
  refine kif_f rfl ?_
  rw [ldI_st i5 (by omega) rfl, show St0.n 35 = 2147484676 from rfl]
  refine kif_f rfl (user_spec i5 (kif_f (by decide) (write_spec i5 fun m6 i6 o6 => go_spec i6 fun m7 i7 o7 => ?_)))
  have eg : goS (writeS St0 11 1) 1 = (((((((St0.putN 50 1).putN 52 0).putN 72 1).putN 48 1).putN 52 32768)), true) := by
    have ew : writeS St0 11 1 = (St0.putN 50 1).putN 52 0 := by
      unfold writeS
      rw [if_neg (by decide), if_neg (by decide), if_neg (by decide), if_neg (by decide), if_pos rfl]
      rfl
    rw [ew]; unfold goS
    rw [if_neg (by decide), if_pos (by decide)]
    rfl
  rw [eg] at i7 ⊢
  refine kif_t rfl ?_
  rw [ldI_st i7 (by omega) rfl, putN_same]
  refine kif_t rfl ?_
  rw [ldT_st i7, putN_other _ _ (by decide), putN_other _ _ (by decide), putN_same]
  refine kif_t rfl ?_
  have ok7 : (((((((St0.putN 50 1).putN 52 0).putN 72 1).putN 48 1).putN 52 32768))).ok := by
    exact putN_ok (putN_ok (putT_ok (putN_ok (putN_ok St0_ok (by omega) (by omega) (by omega)) (by omega) (by omega) (by omega)) (by omega) (by omega)) (by omega) (by omega) (by omega)) (by omega) (by omega) (by omega)
  refine read_spec i7 ok7 ?_
  rw [show readS (((((St0.putN 50 1).putN 52 0).putN 72 1).putN 48 1).putN 52 32768) 15 = 98304 from rfl]
  refine kif_t rfl (read_spec i7 ok7 ?_)
  rw [show readS (((((St0.putN 50 1).putN 52 0).putN 72 1).putN 48 1).putN 52 32768) 1 = 1 from rfl]
  refine ⟨?_, hk⟩
  exact fun b' h' => by
    have : b' ≠ b := fun e => h' (e ▸ hb)
    rw [o7 b' this, o6 b' this, K5 b' h']

/-! ### counts -/
structure CntS (S : St) (count d went : Int) : Prop where
  c : S.n 48 = (count + went) % 4294967296
  p : S.n 50 = (count + d) % 4294967296
  t : S.n 72 = went
  z : S.n 52 = if d ≤ went then 32768 else 0

theorem cnt_step {S : St} {count d went n : Int} (h : CntS S count d went) (d0 : 1 ≤ d) (d1 : d ≤ 200) (w0 : 0 ≤ went) (w1 : went ≤ 1200) (n0 : 0 ≤ n) (n1 : n < 60) :
    CntS (goS S n).1 count d (went + n) ∧ (goS S n).2 = (decide (went < d) && decide (went + n ≥ d)) := by
  obtain ⟨hc, hp, ht, hz⟩ := h
  unfold goS
  by_cases c0 : n < 1
  · rw [if_pos c0]
    have : n = 0 := by omega
    subst this
    refine ⟨⟨by rw [Int.add_zero]; exact hc, hp, by rw [Int.add_zero]; exact ht, by rw [Int.add_zero]; exact hz⟩, ?_⟩
    show false = _
    symm
    rw [Bool.and_eq_false_iff]
    by_cases c : went < d
    · right; simp; omega
    · left; simp; omega
  rw [if_neg c0]
  have hm : missS S = if went < d then d - went else if went = d then 4294967296 else 4294967296 - (went - d) := by
    unfold missS
    rw [hc, hp]
    have e : ((count + d) % 4294967296 - (count + went) % 4294967296) % 4294967296 = (d - went) % 4294967296 := by omega
    rw [e]
    by_cases c : went < d
    · rw [if_pos c, if_neg (by omega)]; omega
    · rw [if_neg c]
      by_cases c2 : went = d
      · rw [if_pos c2, if_pos (by omega)]
      · rw [if_neg c2, if_neg (by omega)]; omega
  have hit : missS S ≤ n ↔ (went < d ∧ went + n ≥ d) := by
    rw [hm]; split
    · omega
    · split <;> omega
  have e48 : IntKind.wrap .u32 (S.n 48 + IntKind.wrap .u32 n) = (count + (went + n)) % 4294967296 := by
    rw [wrap32, wrap32, hc]; omega
  have e72 : IntKind.wrap .i64 (S.n 72 + n) = went + n := by rw [ht, wrap64 (by omega) (by omega)]
  rw [e48, e72]
  by_cases c : missS S ≤ n
  · rw [if_pos c]
    have h2 := hit.1 c
    refine ⟨⟨?_, ?_, ?_, ?_⟩, ?_⟩
    · show (St.putN _ 52 _).n 48 = _
      rw [putN_other _ _ (by decide), putN_same]
    · show (St.putN _ 52 _).n 50 = _
      rw [putN_other _ _ (by decide), putN_other _ _ (by decide), putN_other _ _ (by decide)]; exact hp
    · show (St.putN _ 52 _).n 72 = _
      rw [putN_other _ _ (by decide), putN_other _ _ (by decide), putN_same]
    · show (St.putN _ 52 _).n 52 = _
      rw [putN_same, hz, if_neg (by omega), if_pos (by omega)]; rfl
    · show true = _
      simp; omega
  · rw [if_neg c]
    have h2 : ¬ (went < d ∧ went + n ≥ d) := fun x => c (hit.2 x)
    refine ⟨⟨?_, ?_, ?_, ?_⟩, ?_⟩
    · show (St.putN _ 48 _).n 48 = _
      rw [putN_same]
    · show (St.putN _ 48 _).n 50 = _
      rw [putN_other _ _ (by decide), putN_other _ _ (by decide)]; exact hp
    · show (St.putN _ 48 _).n 72 = _
      rw [putN_other _ _ (by decide), putN_same]
    · show (St.putN _ 48 _).n 52 = _
      rw [putN_other _ _ (by decide), putN_other _ _ (by decide), hz]
      by_cases q : d ≤ went
      · rw [if_pos q, if_pos (by omega)]
      · rw [if_neg q, if_neg (by omega)]
    · show false = _
      symm
      rw [Bool.and_eq_false_iff]
      by_cases q : went < d
      · right; simp; omega
      · left; simp; omega

theorem mod60 (x : Int) : 0 ≤ (IntKind.wrap .i64 (x.tmod 60 + 60)).tmod 60 ∧ (IntKind.wrap .i64 (x.tmod 60 + 60)).tmod 60 < 60 := by
  have h : -60 < x.tmod 60 ∧ x.tmod 60 < 60 := by
    by_cases c : 0 ≤ x
    · rw [tmod_nn c]; omega
    · have e : x.tmod 60 = -((-x).tmod 60) := by rw [Int.neg_tmod]; omega
      rw [e, tmod_nn (by omega)]; omega
  rw [wrap64 (by omega) (by omega), tmod_nn (by omega)]
  omega

theorem cnt_loop {m0 : Mem} {x0 d : Int} {v2 : AV} {b : Nat} (hb : m0.obj b = none) (hv : Ty m0 (.sl [.i .i64]) v2) (d0 : 1 ≤ d) (d1 : d ≤ 200) {k0 : Int → Mem → Prop} {kr : Bool → Mem → Prop} (hk : ∀ went m S, 0 ≤ went → went ≤ 1200 → IsSt m b S → CntS S x0 d went → k0 went m) :
    ∀ (r : Nat) (w i : Int) (m : Mem) (S : St), 0 ≤ i → 20 ≤ i + r → 0 ≤ w → w ≤ 60 * i → i ≤ 20 → IsSt m b S → CntS S x0 d w → Keeps m0 m → L3_7 x0 v2 b 0 d (r + 1) w i m k0 kr := by
  intro r
  induction r with
  | zero =>
    intro w i m S i0 i1 w0 w1 i20 hS hc K
    unfold L3_7 R3_7
    have hlen : ∃ x, klen v2 = fun k => k x := by
      cases hv with
      | nil ls a => exact ⟨_, rfl⟩
      | sl ls b len cap y l1 l2 l3 l4 l5 l6 => exact ⟨_, rfl⟩
    obtain ⟨x, hlen⟩ := hlen
    rw [hlen]
    have := hk w m S w0 (by omega) hS hc
    refine kif_c _ (fun c1 => kif_f (by simp; omega) this) fun c1 => this
  | succ r ih =>
    intro w i m S i0 i1 w0 w1 i20 hS hc K
    unfold L3_7 R3_7
    have hd := hk w m S w0 (by omega) hS hc
    have hT0 := hv.keep K
    clear hv
    cases hT0 with
    | nil ls a => exact kif_f (by simp; omega) hd
    | sl ls b' len cap y l1 l2 l3 l4 l5 l6 =>
      show kif _ _ _
      refine kif_c _ (fun c2 => ?_) fun c2 => hd
      have c2 : i < (len : Int) := by simpa using c2
      refine kif_c _ (fun c1 => ?_) fun c1 => hd
      have c1 : i < 20 := by simpa using c1
      refine kif_ix i0 (by omega) ?_
      obtain ⟨n, en, wn⟩ := ty_int (l6 i.toNat (by omega) 0 _ rfl)
      have eo : 0 + i.toNat * 1 = i.toNat * [Lf.i IntKind.i64].length + 0 := by simp
      rw [eo, ldI_of l4 (by rw [l5]; simp; omega) en]
      obtain ⟨n0, n1⟩ := mod60 n
      generalize (IntKind.wrap .i64 (n.tmod 60 + 60)).tmod 60 = q at n0 n1
      refine go_spec hS fun m' i' o' => ?_
      obtain ⟨hc', hb'⟩ := cnt_step hc d0 d1 w0 (by omega) n0 n1
      rw [hb', wrap64 (by omega) (by omega), wrap64 (by omega) (by omega)]
      have hz : (bits .and .u32 ((goS S q).1.n 52) 32768 != 0) = decide (w + q ≥ d) := by
        rw [hc'.z]
        by_cases z : d ≤ w + q
        · rw [if_pos z]; simp [z]; decide
        · rw [if_neg z]; simp [z]; decide
      have next := ih (w + q) (i + 1) m' _ (by omega) (by omega) (by omega) (by omega) (by omega) i' hc' (Only.keeps K hb o')
      refine kif_c _ (fun c3 => ?_) fun c3 => ?_
      · rw [c3, Bool.true_and]
        refine kif_f (by simp) ?_
        simp only [Nat.reduceAdd, Nat.zero_add]
        rw [ldI_st i' (by omega) rfl, hz]
        exact kif_f (by simp) next
      · rw [c3, Bool.false_and]
        refine kif_f rfl ?_
        simp only [Nat.reduceAdd, Nat.zero_add]
        rw [ldI_st i' (by omega) rfl, hz]
        exact kif_f (by simp) next

theorem Cp0Counts {m : Mem} {x0 x1 : Int} {v2 : AV} (h1 : (Lit.int .u32 x0).wf = true) (h2 : (Lit.int .u32 x1).wf = true) (hv : Ty m (.sl [.i .i64]) v2) : F3 x0 x1 v2 m isTrue := by
  obtain ⟨p0, p1⟩ := wf_u32 h1
  obtain ⟨q0, q1⟩ := wf_u32 h2
  unfold F3
  refine fresh_spec fun c1 hc1 => newS hc1 fun b m5 hb K5 O5 i5 => ?_
  rw [tmod_nn q0, wrap64 (n := x1 % 200) (by omega) (by omega), wrap64 (n := x1 % 200 + 1) (by omega) (by omega)]
  generalize hd : x1 % 200 + 1 = d
  refine write_spec i5 fun m6 i6 o6 => write_spec i6 fun m7 i7 o7 => ?_
  have d0 : 1 ≤ d := by omega
  have d1 : d ≤ 200 := by omega
  have ew : writeS (writeS St0 9 x0) 11 (IntKind.wrap .u32 (x0 + IntKind.wrap .u32 d)) = ((St0.putN 48 x0).putN 50 ((x0 + d) % 4294967296)).putN 52 0 := by
    have e1 : writeS St0 9 x0 = St0.putN 48 x0 := by
      unfold writeS
      rw [if_neg (by decide), if_neg (by decide), if_neg (by decide), if_pos (by decide)]; rfl
    have e2 : IntKind.wrap .u32 (x0 + IntKind.wrap .u32 d) = (x0 + d) % 4294967296 := by rw [wrap32, wrap32]; omega
    rw [e1, e2]
    unfold writeS
    rw [if_neg (by decide), if_neg (by decide), if_neg (by decide), if_neg (by decide), if_pos rfl, putN_other _ _ (by decide)]
    rfl
  rw [ew] at i7
  have hc : CntS (((St0.putN 48 x0).putN 50 ((x0 + d) % 4294967296)).putN 52 0) x0 d 0 := by
    refine ⟨?_, ?_, ?_, ?_⟩
    · rw [putN_other _ _ (by decide), putN_other _ _ (by decide), putN_same]; omega
    · rw [putN_other _ _ (by decide), putN_same]
    · rfl
    · rw [putN_same, if_neg (by omega)]
  refine ⟨21, cnt_loop hb hv d0 d1 (fun went m' S w0 w1 hS hcn => ?_) 20 0 0 m7 _ (by omega) (by omega) (by omega) (by omega) (by omega) i7 hc ?_⟩
  · rw [ldT_st hS, hcn.t]
    refine kif_t (by simp) ?_
    rw [ldI_st hS (by omega) rfl, hcn.c]
    refine kif_t ?_ (known6 rfl)
    rw [wrap32, wrap32]
    simp only [beq_iff_eq]; omega
  · exact fun b' h' => by
      have : b' ≠ b := fun e => h' (e ▸ hb)
      rw [o7 b' this, o6 b' this, K5 b' h']

end Go.Proofs.Ytckhobljijpfpaa.Am
