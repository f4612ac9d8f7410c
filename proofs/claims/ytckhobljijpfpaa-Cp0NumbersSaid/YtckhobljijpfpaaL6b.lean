/- The laws of chapter 6 over the abstract machine: returns. Conditions: what is handed in is plain data. -/
import Derived.Test.YtckhobljijpfpaaL6a
namespace Go.Proofs.Ytckhobljijpfpaa.Am
set_option linter.unusedVariables false
set_option linter.unusedSimpArgs false

/-! ### words -/
/-- a part that is not written to -/
theorem sel_out (x p q m : Int) (h1 : bv p &&& bv m = 0#32) (h2 : bv q &&& bv m = 0#32) : bits .and .u32 (bits .or .u32 (bits .andNot .u32 x p) q) m = bits .and .u32 x m := by
  rw [not_bv, or_bv, and_bv, and_bv, bv_back, bv_back]
  congr 2
  apply BitVec.eq_of_getLsbD_eq
  intro i hi
  have e1 := congrArg (fun z => z.getLsbD i) h1
  have e2 := congrArg (fun z => z.getLsbD i) h2
  simp only [BitVec.getLsbD_and, BitVec.getLsbD_zero] at e1 e2
  simp only [BitVec.getLsbD_or, BitVec.getLsbD_and, BitVec.getLsbD_not, hi, decide_true, Bool.true_and]
  revert e1 e2
  generalize (bv x).getLsbD i = a; generalize (bv p).getLsbD i = b; generalize (bv q).getLsbD i = c; generalize (bv m).getLsbD i = d
  revert a b c d; decide
/-- a part that is written to -/
theorem sel_in (x q m : Int) (h : bv q &&& bv m = bv q) : bits .and .u32 (bits .or .u32 (bits .andNot .u32 x m) q) m = ((bv q).toNat : Int) := by
  rw [not_bv, or_bv, and_bv, bv_back, bv_back]
  congr 2
  rw [← h]
  apply BitVec.eq_of_getLsbD_eq
  intro i hi
  simp only [BitVec.getLsbD_or, BitVec.getLsbD_and, BitVec.getLsbD_not, hi, decide_true, Bool.true_and]
  generalize (bv x).getLsbD i = a; generalize (bv q).getLsbD i = c; generalize (bv m).getLsbD i = d
  revert a c d; decide
theorem or_in (x q : Int) : bits .and .u32 (bits .or .u32 x q) q = ((bv q).toNat : Int) := by
  rw [or_bv, and_bv, bv_back]
  congr 2
  apply BitVec.eq_of_getLsbD_eq
  intro i hi
  simp only [BitVec.getLsbD_or, BitVec.getLsbD_and]
  generalize (bv x).getLsbD i = a; generalize (bv q).getLsbD i = c
  revert a c; decide
theorem not_in (x q : Int) : bits .and .u32 (bits .andNot .u32 x q) q = 0 := by
  rw [not_bv, and_bv, bv_back]
  have : bv x &&& ~~~bv q &&& bv q = 0#32 := by
    apply BitVec.eq_of_getLsbD_eq
    intro i hi
    simp only [BitVec.getLsbD_and, BitVec.getLsbD_not, hi, decide_true, Bool.true_and, BitVec.getLsbD_zero]
    generalize (bv x).getLsbD i = a; generalize (bv q).getLsbD i = c
    revert a c; decide
  rw [this]; rfl
theorem not_or (x q : Int) : bits .andNot .u32 (bits .or .u32 (bits .or .u32 (bits .andNot .u32 x q) q) q) q = bits .andNot .u32 x q := by
  rw [not_bv, or_bv, or_bv, not_bv, bv_back, bv_back, bv_back]
  congr 2
  apply BitVec.eq_of_getLsbD_eq
  intro i hi
  simp only [BitVec.getLsbD_or, BitVec.getLsbD_and, BitVec.getLsbD_not, hi, decide_true, Bool.true_and]
  generalize (bv x).getLsbD i = a; generalize (bv q).getLsbD i = c
  revert a c; decide
theorem code_at (x c : Int) (c0 : 0 ≤ c) (c1 : c < 32) : bits .and .u32 ((bits .or .u32 (bits .andNot .u32 x 124) (c * 4)).fdiv 4) 31 = c := by
  have e : ∀ n : Fin 32, bv ((n.val : Int) * 4) &&& bv 124 = bv ((n.val : Int) * 4) := by decide +kernel
  have hc := e ⟨c.toNat, by omega⟩
  have ec : ((c.toNat : Nat) : Int) = c := by omega
  simp only [ec] at hc
  have h := sel_in x (c * 4) 124 hc
  rw [bv_toInt (by omega) (by omega)] at h
  have hr := or_rng (bits .andNot .u32 x 124) (c * 4)
  generalize bits .or .u32 (bits .andNot .u32 x 124) (c * 4) = y at h hr
  have e2 : bits .and .u32 y 124 = bits .andNot .u32 (bits .and .u32 y 127) 3 := by
    rw [and_bv, not_bv, and_bv, bv_back, BitVec.and_assoc]; rfl
  have e3 : bits .and .u32 y 127 = y % 128 := by have := and_ones y hr.1 hr.2 7 (by decide); simpa using this
  rw [e2, e3, not3 _ (by omega) (by omega)] at h
  have e4 : bits .and .u32 (y.fdiv 4) 31 = (y.fdiv 4) % 32 := by
    have := and_ones (y.fdiv 4) (by rw [Int.fdiv_eq_ediv_of_nonneg _ (by decide)]; omega) (by rw [Int.fdiv_eq_ediv_of_nonneg _ (by decide)]; omega) 5 (by decide); simpa using this
  rw [e4, Int.fdiv_eq_ediv_of_nonneg _ (by decide)]
  omega
theorem top_bit (x p q : Int) (h0 : 0 ≤ x) (h1 : x < 4294967296) (e1 : bv p &&& bv 2147483648 = 0#32) (e2 : bv q &&& bv 2147483648 = 0#32) : (bits .or .u32 (bits .andNot .u32 x p) q).fdiv 2147483648 = x.fdiv 2147483648 := by
  have h := sel_out x p q 2147483648 e1 e2
  have hr := or_rng (bits .andNot .u32 x p) q
  generalize bits .or .u32 (bits .andNot .u32 x p) q = y at h hr
  have e3 : ∀ z : Int, 0 ≤ z → z < 4294967296 → bits .and .u32 z 2147483648 = z - z % 2147483648 := fun z a b => by
    have e : bits .and .u32 z 2147483648 = bits .andNot .u32 z 2147483647 := (not_and z _ _ (by decide)).symm
    rw [e, andn3 z a b 31 (by decide) 2147483647 (by decide) (by decide)]; rfl
  rw [e3 y hr.1 hr.2, e3 x h0 h1] at h
  rw [Int.fdiv_eq_ediv_of_nonneg _ (by decide), Int.fdiv_eq_ediv_of_nonneg _ (by decide)]
  omega

/-! ### registers compared -/
def regLeafs : List (Nat × LK) := (List.range 32).map fun i => (i, .i .u32)
theorem geq_regs {c d : Nat → AV} {S T : St} (h : ∀ i, i < 32 → c i = stc S i) (h' : ∀ i, i < 32 → d i = stc T i) (e : ∀ i, i < 32 → S.n i = T.n i) (ls : List (Nat × LK)) (hl : ls = regLeafs) (k : Bool → Prop) : geq ls c d k = k true := by
  subst hl
  unfold geq
  have p3 : ∀ i, i < 32 → isP3 i = false := fun i hi => by simp [isP3]; omega
  have h1 : (regLeafs.all fun p => p.2.fits (c p.1) && p.2.fits (d p.1)) = true := by
    rw [List.all_eq_true]
    intro p hp
    obtain ⟨i, hi, rfl⟩ := List.mem_map.1 hp
    have hi := List.mem_range.1 hi
    rw [h i hi, h' i hi, stc_u (p3 i hi) (by omega), stc_u (p3 i hi) (by omega)]
    simp [LK.fits]
  rw [h1]
  have h2 : (regLeafs.all fun p => (c p.1).same (d p.1)) = true := by
    rw [List.all_eq_true]
    intro p hp
    obtain ⟨i, hi, rfl⟩ := List.mem_map.1 hp
    have hi := List.mem_range.1 hi
    dsimp only
    rw [h i hi, h' i hi, stc_u (p3 i hi) (by omega), stc_u (p3 i hi) (by omega), e i hi]
    simp [AV.same]
  rw [h2]

/-! ### what is entered -/
theorem putP_n (S : St) (i : Nat) (v : Bool) (j : Nat) : (S.putP i v).n j = S.n j := rfl
theorem enterB_n {S : St} {c pc : Int} {i : Nat} (h : i ≠ 52) (h2 : i ≠ 34) (h3 : i ≠ 35) (h4 : i ≠ 51) : (enterB S c pc).n i = S.n i := by
  unfold enterB toS
  rw [putN_other _ _ h4, putP_n, putN_other _ _ h3, putN_other _ _ h2, putN_other _ _ h]
theorem enterB_34 {S : St} {c pc : Int} : (enterB S c pc).n 34 = pc := by
  unfold enterB toS
  rw [putN_other _ _ (by decide), putP_n, putN_other _ _ (by decide), putN_same]
theorem enterB_35 {S : St} {c pc : Int} : (enterB S c pc).n 35 = IntKind.wrap .u32 (pc + 4) := by
  unfold enterB toS
  rw [putN_other _ _ (by decide), putP_n, putN_same]
theorem enterB_51 {S : St} {c pc : Int} : (enterB S c pc).n 51 = bits .or .u32 (S.n 51) 2 := by
  unfold enterB; rw [putN_same]
theorem enterB_52 {S : St} {c pc : Int} : (enterB S c pc).n 52 = bits .or .u32 (bits .andNot .u32 (S.n 52) 124) (c * 4) := by
  unfold enterB toS
  rw [putN_other _ _ (by decide), putP_n, putN_other _ _ (by decide), putN_other _ _ (by decide), putN_same]
theorem enterA_n {S : St} {i : Nat} (h : i ≠ 53) (h2 : i ≠ 52) : (enterA S).n i = S.n i := by
  unfold enterA
  split
  · split
    · rw [putN_other _ _ h2, putN_other _ _ h]
    · rw [putN_other _ _ h2, putN_other _ _ h]
  · rfl

theorem IsSt.cells {m : Mem} {b : Nat} {S : St} (h : IsSt m b S) {n : Nat} (hn : n ≤ 73) {k : (Nat → AV) → Prop} (hk : ∀ c, (∀ i, i < n → c i = stc S i) → k c) : ldG n m b 0 k := by
  obtain ⟨x, ex, en, _, hc⟩ := h
  rw [ldG_of ex (by omega)]
  exact hk _ fun i hi => by simp only [sub, if_pos hi, Nat.zero_add]; exact hc i (by omega)

theorem Cp0Returns {m : Mem} {a : Nat → AV} (hT : TyAll m shS a) {x1 : Int} (h1 : (Lit.int .i64 x1).wf = true) (r : Bool) : F4 a x1 r m isTrue := by
  unfold F4
  have hc := and64_rng x1 31 (by decide)
  have hc : 0 ≤ bits .and .i64 x1 31 ∧ bits .and .i64 x1 31 ≤ 31 := hc
  generalize bits .and .i64 x1 31 = c at hc
  refine drawn hT (by omega) (by omega) fun b2 b m8 S0 i8 hS0 _ _ K hb hne => ?_
  rw [ldI_st i8 (by omega) rfl]
  refine stC_st i8 (by omega) rfl fun m10 i10 o10 => ldS_st i10 fun c11 h11 => newS h11 fun b' m14 hb' K14 O14 i14 => ?_
  have i14b := i10.keep K14
  have okW : (S0.putN 51 (bits .andNot .u32 (S0.n 51) 2)).ok := putN_ok hS0 (by omega) (not_rng _ _).1 (not_rng _ _).2
  have w51 : (S0.putN 51 (bits .andNot .u32 (S0.n 51) 2)).n 51 = bits .andNot .u32 (S0.n 51) 2 := putN_same _ _ _
  generalize hX : bits .andNot .u32 (S0.n 51) 2 = X at w51 okW i14 i14b h11 i10
  generalize hW : S0.putN 51 X = W at w51 okW i14 i14b h11 i10
  have hbb : b ≠ b' := fun e => by subst e; exact i10.live hb'
  have hout : outS W = true := by
    unfold outS; rw [w51, ← hX, not_in]; rfl
  refine enter_spec i14b hc.1 (by omega) fun m15 i15 o15 => ?_
  have ok1 := enterS_ok okW c r
  have j15 := i14.only o15 hbb.symm
  -- what it is entered with
  have n51 : (enterS W c r).n 51 = bits .or .u32 X 2 := by unfold enterS; rw [enterB_51, enterA_n (by decide) (by decide), w51]
  have nlo : ∀ i, i ≠ 53 → i ≠ 52 → i ≠ 34 → i ≠ 35 → i ≠ 51 → (enterS W c r).n i = W.n i := fun i a1 a2 a3 a4 a5 => by
    unfold enterS; rw [enterB_n a2 a3 a4 a5, enterA_n a1 a2]
  have p36 : (enterS W c r).p 36 = false := by
    unfold enterS enterB toS; rfl
  have n3435 : (enterS W c r).n 35 = IntKind.wrap .u32 ((enterS W c r).n 34 + 4) := by unfold enterS; rw [enterB_35, enterB_34]
  have n52 : bits .and .u32 (((enterS W c r).n 52).fdiv 4) 31 = c := by unfold enterS; rw [enterB_52, code_at _ c hc.1 (by omega)]
  have n53 : (enterS W c r).n 53 = if W.p 36 = true then IntKind.wrap .u32 (W.n 34 - 4) else W.n 34 := by
    unfold enterS; rw [enterB_n (by decide) (by decide) (by decide) (by decide)]
    unfold enterA
    rw [if_pos hout]
    split
    · rw [putN_other _ _ (by decide), putN_same]
    · rw [putN_other _ _ (by decide), putN_same]
  generalize hS1 : enterS W c r = S1 at *
  refine i15.cells (by omega) fun c16 h16 => j15.cells (by omega) fun c17 h17 => ?_
  rw [geq_regs h16 h17 (fun i hi => nlo i (by omega) (by omega) (by omega) (by omega) (by omega)) _ (by kernel_rfl)]
  refine kif_f rfl ?_
  rw [ldT_st i15, ldT_st j15, nlo 72 (by omega) (by omega) (by omega) (by omega) (by omega)]
  refine kif_f (by simp) ?_
  rw [ldB_st i15 (by omega) rfl, p36]
  refine kif_f rfl ?_
  rw [ldI_st i15 (by omega) rfl, ldI_st i15 (by omega) rfl, n3435]
  refine kif_f (by simp) ?_
  rw [ldI_st i15 (by omega) rfl, ldI_st j15 (by omega) rfl, n51, w51]
  refine kif_f (by simp) ?_
  have or2 : bits .and .u32 (bits .or .u32 X 2) 2 = 2 := or_in X 2
  refine user_spec i15 (kif_f ?_ ?_)
  · unfold userS; rw [n51, or2]; simp
  refine taken_spec i15 ok1 (kif_f ?_ ?_)
  · unfold takenS
    rw [taken_eq _ (ok1.1 51 (by omega)).1 (ok1.1 51 (by omega)).2, n51, or2]; simp
  rw [ldI_st i15 (by omega) rfl, n52, show IntKind.wrap .u32 c = c by rw [wrap32]; omega]
  refine kif_f (by simp) ?_
  refine ldS_st i15 fun c31 h31 => newS h31 fun b3 m34 hb3 K34 O34 i34 => ?_
  have i34b := i15.keep K34
  have j34 := j15.keep K34
  have hb3b : b ≠ b3 := fun e => by subst e; exact i15.live hb3
  have hb3b' : b' ≠ b3 := fun e => by subst e; exact j15.live hb3
  have hout1 : outS S1 = false := by unfold outS; rw [n51, or2]; rfl
  have eA1 : enterA S1 = S1 := by unfold enterA; rw [if_neg (by rw [hout1]; simp)]
  refine enter_spec i34b (by omega) (by omega) fun m35 i35 o35 => ?_
  have j35 := j34.only o35 hbb.symm
  have q35 := i34.only o35 hb3b.symm
  have eS2 : enterS S1 1 true = enterB S1 1 2147484032 := by
    unfold enterS; rw [eA1, hout1]; rfl
  rw [eS2] at i35
  rw [ldI_st i35 (by omega) rfl, ldI_st q35 (by omega) rfl, enterB_n (by decide) (by decide) (by decide) (by decide)]
  refine kif_f (by simp) ?_
  rw [ldI_st i35 (by omega) rfl, enterB_34]
  refine kif_f rfl ?_
  rw [ldI_st i35 (by omega) rfl, ldI_st q35 (by omega) rfl, enterB_52, top_bit _ 124 (1 * 4) (ok1.1 52 (by omega)).1 (ok1.1 52 (by omega)).2 (by decide) (by decide)]
  refine kif_f (by simp) ?_
  refine return_spec i35 fun m41 i41 o41 => ?_
  have j41 := j35.only o41 hbb.symm
  have key : ∀ pc : Int, pc = S1.n 53 → P4_15102 b 0 b' 0 pc m41 isTrue := by
    intro pc hpc
    unfold P4_15102
    simp only [Nat.reduceAdd, Nat.zero_add]
    have e34 : (returnS (enterB S1 1 2147484032)).n 34 = S1.n 53 := by
      unfold returnS toS
      rw [putP_n, putN_other _ _ (by decide), putP_n, putN_other _ _ (by decide), putN_same, enterB_n (by decide) (by decide) (by decide) (by decide)]
    have e35 : (returnS (enterB S1 1 2147484032)).n 35 = IntKind.wrap .u32 (S1.n 53 + 4) := by
      unfold returnS toS
      rw [putP_n, putN_other _ _ (by decide), putP_n, putN_same, enterB_n (by decide) (by decide) (by decide) (by decide)]
    have e51 : (returnS (enterB S1 1 2147484032)).n 51 = X := by
      unfold returnS
      rw [putP_n, putN_same]
      show bits .andNot .u32 ((enterB S1 1 2147484032).n 51) 2 = X
      rw [enterB_51, n51, ← hX, not_or]
    rw [ldI_st i41 (by omega) rfl, e34]
    refine kif_t (by simp [hpc]) ?_
    rw [ldI_st i41 (by omega) rfl, e35, hpc]
    refine kif_t (by simp) ?_
    rw [ldI_st i41 (by omega) rfl, ldI_st j41 (by omega) rfl, e51, w51]
    refine kif_t (by simp) ?_
    rw [ldB_st i41 (by omega) rfl]
    exact kif_t rfl (known6 rfl)
  rw [ldI_st j41 (by omega) rfl, ldB_st j41 (by omega) rfl]
  refine kif_c _ (fun cs => ?_) fun cs => ?_
  · rw [ldI_st j41 (by omega) rfl]
    exact key _ (by rw [n53, if_pos cs])
  · exact key _ (by rw [n53, if_neg (by rw [cs]; simp)])

end Go.Proofs.Ytckhobljijpfpaa.Am
