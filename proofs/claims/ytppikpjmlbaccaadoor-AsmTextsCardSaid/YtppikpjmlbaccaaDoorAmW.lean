/- Rules to show what the machine asks; words of 32 bits. No program in sight. -/
import Derived.Test.YtppikpjmlbaccaaDoorAmS
import Derived.Laws.Entries
namespace Go.Proofs.YtppikpjmlbaccaaDoor.Am
set_option linter.unusedVariables false
set_option linter.unusedSimpArgs false

theorem kif_t {c : Bool} {A B : Prop} (h : c = true) (a : A) : kif c A B := by subst h; exact a
theorem kif_f {c : Bool} {A B : Prop} (h : c = false) (b : B) : kif c A B := by subst h; exact b
theorem kif_c (c : Bool) {A B : Prop} (a : c = true → A) (b : c = false → B) : kif c A B := by
  cases c
  · exact b rfl
  · exact a rfl
theorem kif_ix {x : Int} {n : Int} {A B : Prop} (h0 : 0 ≤ x) (h1 : x < n) (a : A) : kif (decide (0 ≤ x) && decide (x < n)) A B := kif_t (by simp [h0, h1]) a
theorem kite_t {c : Prop} [Decidable c] {A B : Prop} (h : c) (a : A) : kite c A B := by rw [kite_eq, if_pos h]; exact a
theorem newK_i {m : Mem} {x : Blk} {k : Nat → Mem → Prop} (hk : ∀ b m', m.obj b = none → Keeps m m' → m'.obj b = some x → Only m b m' → k b m') : newK m x k := fun b hb => hk b _ hb (Keeps.set hb x) (set_same _ _ _) (Only.set _ _ _)
theorem wrap64 {n : Int} (h : -9223372036854775808 ≤ n) (h' : n < 9223372036854775808) : IntKind.wrap .i64 n = n := by
  simp [IntKind.wrap, IntKind.bits, IntKind.signed]; omega
theorem wrap32 (n : Int) : IntKind.wrap .u32 n = n % 4294967296 := by simp [IntKind.wrap, IntKind.bits, IntKind.signed]
theorem wrap32_rng (n : Int) : 0 ≤ IntKind.wrap .u32 n ∧ IntKind.wrap .u32 n < 4294967296 := by rw [wrap32]; omega
theorem wf_u32 {a : Int} (h : (Lit.int .u32 a).wf = true) : 0 ≤ a ∧ a < 4294967296 := by
  have h2 : 0 ≤ a ∧ a ≤ 4294967295 := by simpa [Lit.wf, IntKind.min, IntKind.max, IntKind.signed, IntKind.bits] using h
  omega
theorem wf_i64 {a : Int} (h : (Lit.int .i64 a).wf = true) : -9223372036854775808 ≤ a ∧ a < 9223372036854775808 := by
  have h2 : -9223372036854775808 ≤ a ∧ a ≤ 9223372036854775807 := by simpa [Lit.wf, IntKind.min, IntKind.max, IntKind.signed, IntKind.bits] using h
  omega
theorem wf_u8 {a : Int} (h : (Lit.int .u8 a).wf = true) : 0 ≤ a ∧ a < 256 := by
  have h2 : 0 ≤ a ∧ a ≤ 255 := by simpa [Lit.wf, IntKind.min, IntKind.max, IntKind.signed, IntKind.bits] using h
  omega

/-! words by vectors of bits -/
def bv (x : Int) : BitVec 32 := BitVec.ofInt 32 x
theorem wrap_bv (b : BitVec 32) : IntKind.wrap .u32 (b.toNat : Int) = (b.toNat : Int) := by
  rw [wrap32]; have := b.isLt; omega
theorem and_bv (x y : Int) : Go.bits .and .u32 x y = ((bv x &&& bv y).toNat : Int) := wrap_bv _
theorem or_bv (x y : Int) : Go.bits .or .u32 x y = ((bv x ||| bv y).toNat : Int) := wrap_bv _
theorem xor_bv (x y : Int) : Go.bits .xor .u32 x y = ((bv x ^^^ bv y).toNat : Int) := wrap_bv _
theorem not_bv (x y : Int) : Go.bits .andNot .u32 x y = ((bv x &&& ~~~ bv y).toNat : Int) := wrap_bv _
theorem bv_back (b : BitVec 32) : bv (b.toNat : Int) = b := by unfold bv; rw [BitVec.ofInt_natCast, BitVec.ofNat_toNat, BitVec.setWidth_eq]
theorem bv_rng (b : BitVec 32) : 0 ≤ (b.toNat : Int) ∧ (b.toNat : Int) < 4294967296 := by have := b.isLt; omega
theorem and_rng (x y : Int) : 0 ≤ Go.bits .and .u32 x y ∧ Go.bits .and .u32 x y < 4294967296 := by rw [and_bv]; exact bv_rng _
theorem or_rng (x y : Int) : 0 ≤ Go.bits .or .u32 x y ∧ Go.bits .or .u32 x y < 4294967296 := by rw [or_bv]; exact bv_rng _
theorem xor_rng (x y : Int) : 0 ≤ Go.bits .xor .u32 x y ∧ Go.bits .xor .u32 x y < 4294967296 := by rw [xor_bv]; exact bv_rng _
theorem not_rng (x y : Int) : 0 ≤ Go.bits .andNot .u32 x y ∧ Go.bits .andNot .u32 x y < 4294967296 := by rw [not_bv]; exact bv_rng _
theorem toNat_inj32 {a b : BitVec 32} : ((a.toNat : Int) = (b.toNat : Int)) ↔ a = b :=
  ⟨fun h => BitVec.eq_of_toNat_eq (by exact_mod_cast h), fun h => by rw [h]⟩
theorem bv_toInt {x : Int} (h0 : 0 ≤ x) (h1 : x < 4294967296) : ((bv x).toNat : Int) = x := by
  unfold bv
  obtain ⟨n, rfl⟩ := Int.eq_ofNat_of_zero_le h0
  rw [BitVec.ofInt_natCast, BitVec.toNat_ofNat, Nat.mod_eq_of_lt (by omega)]
theorem beq_bv (a b : BitVec 32) : ((a.toNat : Int) == (b.toNat : Int)) = (a == b) := by
  rw [Bool.eq_iff_iff, beq_iff_eq, beq_iff_eq, toNat_inj32]
theorem beq_bv0 (a : BitVec 32) : ((a.toNat : Int) == 0) = (a == 0#32) := by
  have := beq_bv a 0#32; simpa using this

/-- the same upper parts, said two ways -/
theorem xor_and (a b m : BitVec 32) : ((a ^^^ b) &&& m == 0#32) = (a &&& m == b &&& m) := by
  rw [Bool.eq_iff_iff, beq_iff_eq, beq_iff_eq]
  constructor
  · intro h
    apply BitVec.eq_of_getLsbD_eq
    intro i hi
    have := congrArg (fun x => x.getLsbD i) h
    simp only [BitVec.getLsbD_and, BitVec.getLsbD_xor, BitVec.getLsbD_zero] at this ⊢
    revert this
    generalize a.getLsbD i = p; generalize b.getLsbD i = q; generalize m.getLsbD i = r
    revert p q r; decide
  · intro h
    apply BitVec.eq_of_getLsbD_eq
    intro i hi
    have := congrArg (fun x => x.getLsbD i) h
    simp only [BitVec.getLsbD_and, BitVec.getLsbD_xor, BitVec.getLsbD_zero] at this ⊢
    revert this
    generalize a.getLsbD i = p; generalize b.getLsbD i = q; generalize m.getLsbD i = r
    revert p q r; decide
theorem xor_and0 (x y m : Int) : (Go.bits .and .u32 (Go.bits .xor .u32 x y) m == 0) = (Go.bits .and .u32 x m == Go.bits .and .u32 y m) := by
  rw [xor_bv, and_bv, and_bv, and_bv, bv_back, beq_bv0, beq_bv, xor_and]
theorem not_and (x m m' : Int) (h : ~~~ bv m = bv m') : Go.bits .andNot .u32 x m = Go.bits .and .u32 x m' := by
  rw [not_bv, and_bv, h]
theorem not1023 (x : Int) : Go.bits .andNot .u32 x 1023 = Go.bits .and .u32 x 4294966272 := not_and x _ _ (by decide)
theorem and_ones (x : Int) (h0 : 0 ≤ x) (h1 : x < 4294967296) (b : Nat) (hb : b ≤ 32) : Go.bits .and .u32 x ((2 ^ b - 1 : Nat) : Int) = x % 2 ^ b := by
  obtain ⟨n, rfl⟩ := Int.eq_ofNat_of_zero_le h0
  have h2 : 2 ^ b ≤ 2 ^ 32 := Nat.pow_le_pow_right (by decide) hb
  rw [and_bv]
  have e : (bv (n : Int) &&& bv ((2 ^ b - 1 : Nat) : Int)).toNat = n &&& (2 ^ b - 1) := by
    rw [BitVec.toNat_and]
    have e1 := bv_toInt (x := (n : Int)) (by omega) (by omega)
    have e2 := bv_toInt (x := ((2 ^ b - 1 : Nat) : Int)) (by omega) (by have : 0 < 2 ^ b := Nat.two_pow_pos b; omega)
    rw [show (bv (n : Int)).toNat = n by omega, show (bv ((2 ^ b - 1 : Nat) : Int)).toNat = 2 ^ b - 1 by omega]
  rw [e, Nat.and_two_pow_sub_one_eq_mod]
  simp

end Go.Proofs.YtppikpjmlbaccaaDoor.Am
