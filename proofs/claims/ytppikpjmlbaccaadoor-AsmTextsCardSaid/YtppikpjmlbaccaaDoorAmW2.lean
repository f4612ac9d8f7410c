/- More on words of 32 bits: parts of words as numbers. No program in sight. -/
import Derived.Test.YtppikpjmlbaccaaDoorAmW
import Derived.Test.YtppikpjmlbaccaaDoorAmN
namespace Go.Proofs.YtppikpjmlbaccaaDoor.Am
set_option linter.unusedVariables false
set_option linter.unusedSimpArgs false

def isTrue : Bool → Mem → Prop := fun r _ => r = true

theorem tmod_nn {a b : Int} (h : 0 ≤ a) : a.tmod b = a % b := Int.tmod_eq_emod_of_nonneg h
theorem andn3 (x : Int) (h0 : 0 ≤ x) (h1 : x < 4294967296) (b : Nat) (hb : b ≤ 32) (q : Int) (hq : ~~~ bv q = bv (4294967296 - 2 ^ b)) (hq2 : bv q = bv ((2 ^ b - 1 : Nat) : Int)) : bits .andNot .u32 x q = x - x % 2 ^ b := by
  have e1 := and_ones x h0 h1 b hb
  rw [and_bv, ← hq2] at e1
  rw [not_bv]
  have e2 : (bv x &&& bv q) ||| (bv x &&& ~~~ bv q) = bv x := by
    apply BitVec.eq_of_getLsbD_eq
    intro i hi
    simp only [BitVec.getLsbD_or, BitVec.getLsbD_and, BitVec.getLsbD_not, hi, decide_true, Bool.true_and]
    generalize (bv x).getLsbD i = p; generalize (bv q).getLsbD i = r
    revert p r; decide
  have e3 : (bv x &&& bv q) + (bv x &&& ~~~ bv q) = bv x := by
    rw [BitVec.add_eq_or_of_and_eq_zero, e2]
    apply BitVec.eq_of_getLsbD_eq
    intro i hi
    simp only [BitVec.getLsbD_and, BitVec.getLsbD_not, hi, decide_true, Bool.true_and, BitVec.getLsbD_zero]
    generalize (bv x).getLsbD i = p; generalize (bv q).getLsbD i = r
    revert p r; decide
  have e4 := congrArg BitVec.toNat e3
  have e5 : (bv x &&& bv q).toNat + (bv x &&& ~~~ bv q).toNat = ((bv x &&& bv q) ||| (bv x &&& ~~~ bv q)).toNat := by
    rw [← BitVec.add_eq_or_of_and_eq_zero]
    · rw [BitVec.toNat_add_of_and_eq_zero]
      apply BitVec.eq_of_getLsbD_eq
      intro i hi
      simp only [BitVec.getLsbD_and, BitVec.getLsbD_not, hi, decide_true, Bool.true_and, BitVec.getLsbD_zero]
      generalize (bv x).getLsbD i = p; generalize (bv q).getLsbD i = r
      revert p r; decide
    · apply BitVec.eq_of_getLsbD_eq
      intro i hi
      simp only [BitVec.getLsbD_and, BitVec.getLsbD_not, hi, decide_true, Bool.true_and, BitVec.getLsbD_zero]
      generalize (bv x).getLsbD i = p; generalize (bv q).getLsbD i = r
      revert p r; decide
  rw [e2] at e5
  have e6 := bv_toInt h0 h1
  omega

theorem hi_eq (x : Int) (h0 : 0 ≤ x) (h1 : x < 4294967296) : bits .and .u32 x 4294966272 = x - x % 1024 := by
  rw [← not1023, andn3 x h0 h1 10 (by decide) 1023 (by decide) (by decide)]; rfl
theorem lo_eq (x : Int) (h0 : 0 ≤ x) (h1 : x < 4294967296) : bits .and .u32 x 1023 = x % 1024 := by
  have := and_ones x h0 h1 10 (by decide); simpa using this
theorem not3 (x : Int) (h0 : 0 ≤ x) (h1 : x < 4294967296) : bits .andNot .u32 x 3 = x - x % 4 := by
  rw [andn3 x h0 h1 2 (by decide) 3 (by decide) (by decide)]; rfl
theorem or_add {a b : BitVec 32} (h : a &&& b = 0#32) : ((a ||| b).toNat : Int) = (a.toNat : Int) + (b.toNat : Int) := by
  rw [← BitVec.add_eq_or_of_and_eq_zero _ _ h, BitVec.toNat_add_of_and_eq_zero h]; push_cast; rfl
theorem hilo (x y : Int) (h0 : 0 ≤ x) (h1 : x < 4294967296) (g0 : 0 ≤ y) (g1 : y < 4294967296) : bits .or .u32 (bits .and .u32 x 4294966272) (bits .and .u32 y 1023) = (x - x % 1024) + y % 1024 := by
  rw [← hi_eq x h0 h1, ← lo_eq y g0 g1, or_bv, and_bv, and_bv, bv_back, bv_back, or_add]
  apply BitVec.eq_of_getLsbD_eq
  intro i hi
  have hd : bv 4294966272 &&& bv 1023 = 0#32 := by decide
  have := congrArg (fun z => z.getLsbD i) hd
  simp only [BitVec.getLsbD_and, BitVec.getLsbD_zero] at this ⊢
  revert this
  generalize (bv x).getLsbD i = p; generalize (bv y).getLsbD i = q; generalize (bv 4294966272).getLsbD i = r; generalize (bv 1023).getLsbD i = t
  revert p q r t; decide
theorem and1020 (x : Int) (h0 : 0 ≤ x) (h1 : x < 4294967296) : bits .and .u32 x 1020 = x % 1024 - x % 4 := by
  have e : bits .and .u32 x 1020 = bits .andNot .u32 (bits .and .u32 x 1023) 3 := by
    rw [and_bv, not_bv, and_bv, bv_back, BitVec.and_assoc]; rfl
  have hr := and_rng x 1023
  rw [e, not3 _ hr.1 hr.2, lo_eq x h0 h1]; omega
theorem low29 (y : Int) (h0 : 0 ≤ y) (h1 : y < 4294967296) : bits .and .u32 y 536870911 = y % 536870912 := by
  have := and_ones y h0 h1 29 (by decide); simpa using this


theorem and64_rng (x : Int) (q : Nat) (hq : q < 9223372036854775808) : 0 ≤ bits .and .i64 x (q : Int) ∧ bits .and .i64 x (q : Int) ≤ q := by
  have e : bits .and .i64 x (q : Int) = IntKind.wrap .i64 ((BitVec.ofInt 64 x &&& BitVec.ofInt 64 (q : Int)).toNat : Int) := rfl
  have h : (BitVec.ofInt 64 x &&& BitVec.ofInt 64 (q : Int)).toNat ≤ q := by
    rw [BitVec.toNat_and, BitVec.ofInt_natCast, BitVec.toNat_ofNat, Nat.mod_eq_of_lt (by omega)]
    exact Nat.and_le_right
  rw [e, wrap64 (by omega) (by omega)]
  omega
theorem or_low {x y : Int} (h0 : 0 ≤ x) (h1 : x < 4294967296) (hx : x % 1024 = 0) (g0 : 0 ≤ y) (g1 : y < 1024) : bits .or .u32 x y = x + y := by
  have e := hilo x y h0 h1 g0 (by omega)
  rw [hi_eq x h0 h1, lo_eq y g0 (by omega), hx, Int.emod_eq_of_lt g0 g1, Int.sub_zero] at e
  exact e
theorem or_ge (x y : Int) (g0 : 0 ≤ y) (g1 : y < 4294967296) : y ≤ bits .or .u32 x y := by
  rw [or_bv, BitVec.toNat_or]
  have h := bv_toInt g0 g1
  have : (bv y).toNat ≤ (bv x).toNat ||| (bv y).toNat := Nat.right_le_or
  omega
theorem or_mod1024 {x y : Int} (h0 : 0 ≤ x) (h1 : x < 4294967296) (hx : x % 1024 = 0) (g0 : 0 ≤ y) (g1 : y < 4294967296) (hy : y % 1024 = 0) : bits .or .u32 x y % 1024 = 0 := by
  have hr := or_rng x y
  rw [← lo_eq _ hr.1 hr.2]
  have e1 := lo_eq x h0 h1
  have e2 := lo_eq y g0 g1
  rw [hx, and_bv] at e1
  rw [hy, and_bv] at e2
  have z1 : bv x &&& bv 1023 = 0#32 := toNat_inj32.1 (e1.trans (by rfl : (0 : Int) = ((0#32).toNat : Int)))
  have z2 : bv y &&& bv 1023 = 0#32 := toNat_inj32.1 (e2.trans (by rfl : (0 : Int) = ((0#32).toNat : Int)))
  rw [or_bv, and_bv, bv_back]
  have z3 : (bv x ||| bv y) &&& bv 1023 = 0#32 := by
    apply BitVec.eq_of_getLsbD_eq
    intro i hi
    have q1 := congrArg (fun z => z.getLsbD i) z1
    have q2 := congrArg (fun z => z.getLsbD i) z2
    simp only [BitVec.getLsbD_and, BitVec.getLsbD_or, BitVec.getLsbD_zero] at q1 q2 ⊢
    revert q1 q2
    generalize (bv x).getLsbD i = p; generalize (bv y).getLsbD i = q; generalize (bv 1023).getLsbD i = r
    revert p q r; decide
  rw [z3]; rfl

/-- a box of n cells, filled -/
theorem boxN {n : Nat} {m : Mem} {t : TypeId} {z c : Nat → AV} {k : Nat → Mem → Prop} (hk : ∀ b m' x, m.obj b = none → Keeps m m' → m'.obj b = some x → x.n = n → x.ro = false → (∀ j, j < n → x.c j = c j) → k b m') : newK m ⟨n, z, t, false⟩ fun b m2 => stG n m2 b 0 c fun m4 => k b m4 := by
  intro b hb
  rw [stG_of (set_same _ _ _) rfl (by show 0 + n ≤ n; omega)]
  refine hk b _ _ hb (fun b' h' => ?_) (set_same _ _ _) rfl rfl fun j hj => ?_
  · have : b' ≠ b := fun e => h' (e ▸ hb)
    rw [set_other _ this, set_other _ this]
  · show splice _ 0 n c j = _
    unfold splice; rw [if_pos (by omega), Nat.sub_zero]
theorem newK_none {m0 m : Mem} (K : Keeps m0 m) {b : Nat} (hb : m.obj b = none) : m0.obj b = none := by
  by_cases e : m0.obj b = none
  · exact e
  · rw [K b e] at hb; exact absurd hb e

/-! ### plain data -/
theorem ldA_ty {m : Mem} {b o : Nat} {x : Blk} {l : Lf} (h : m.obj b = some x) (ho : o < x.n) (hT : Ty m l (x.c o)) (k : AV → Prop) : ldA m b o k = k (x.c o) := by
  unfold ldA kobj
  rw [h]
  simp only [kite_eq, ho, if_true]
  generalize x.c o = v at hT
  cases hT <;> rfl
theorem ty_u32 {m : Mem} {v : AV} (h : Ty m (.i .u32) v) : ∃ n, v = .flat (.int .u32 n) ∧ 0 ≤ n ∧ n < 4294967296 := by
  cases h with
  | i k n hw => exact ⟨n, rfl, wf_u32 hw⟩
theorem ty_b {m : Mem} {v : AV} (h : Ty m .b v) : ∃ n, v = .flat (.bool n) := by
  cases h with
  | b x => exact ⟨x, rfl⟩

def TyAll (m : Mem) (ls : List Lf) (c : Nat → AV) : Prop := ∀ i l, ls[i]? = some l → Ty m l (c i)
theorem TyAll.keep {m m' : Mem} {ls : List Lf} {c : Nat → AV} (h : TyAll m ls c) (K : Keeps m m') : TyAll m' ls c := fun i l e => (h i l e).keep K


end Go.Proofs.YtppikpjmlbaccaaDoor.Am
