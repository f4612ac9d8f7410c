/- Chapter 6: what its functions do to a State, the program's and the reference's. Conditions: the State lies in a block of its own. -/
import Derived.Test.YtckhobljijpfpaaK6c
import Derived.Test.YtckhobljijpfpaaK6d
import Derived.Test.YtckhobljijpfpaaK6e
namespace Go.Proofs.Ytckhobljijpfpaa.Am
set_option linter.unusedVariables false
set_option linter.unusedSimpArgs false

/-! ### plain functions -/
def missS (S : St) : Int := if (S.n 50 - S.n 48) % 4294967296 = 0 then 4294967296 else (S.n 50 - S.n 48) % 4294967296
def goS (S : St) (n : Int) : St × Bool :=
  if n < 1 then (S, false)
  else if missS S ≤ n then (((S.putN 72 (IntKind.wrap .i64 (S.n 72 + n))).putN 48 (IntKind.wrap .u32 (S.n 48 + IntKind.wrap .u32 n))).putN 52 (bits .or .u32 (S.n 52) 32768), true)
  else ((S.putN 72 (IntKind.wrap .i64 (S.n 72 + n))).putN 48 (IntKind.wrap .u32 (S.n 48 + IntKind.wrap .u32 n)), false)
def outS (S : St) : Bool := bits .and .u32 (S.n 51) 2 == 0
def enterA (S : St) : St :=
  if outS S = true then
    if S.p 36 = true then (S.putN 53 (IntKind.wrap .u32 (S.n 34 - 4))).putN 52 (bits .or .u32 (bits .andNot .u32 (S.n 52) 2147483648) 2147483648)
    else (S.putN 53 (S.n 34)).putN 52 (bits .andNot .u32 (S.n 52) 2147483648)
  else S
def toS (S : St) (pc : Int) : St := ((S.putN 34 pc).putN 35 (IntKind.wrap .u32 (pc + 4))).putP 36 false
def enterB (S : St) (code pc : Int) : St := (toS (S.putN 52 (bits .or .u32 (bits .andNot .u32 (S.n 52) 124) (code * 4))) pc).putN 51 (bits .or .u32 (S.n 51) 2)
def enterS (S : St) (code : Int) (refill : Bool) : St := enterB (enterA S) code (if (refill && outS S) = true then 2147483648 else 2147484032)
def returnS (S : St) : St := ((toS S (S.n 53)).putN 51 (bits .andNot .u32 (S.n 51) 2)).putP 37 false
def badS (S : St) (va : Int) (t : Bool) : St := if t = true then (S.putN 47 va).putN 49 (bits .or .u32 (bits .and .u32 (S.n 49) 1023) (bits .and .u32 va 4294966272)) else S.putN 47 va
def lineS (S : St) (up : Bool) : St := if up = true then S.putN 52 (bits .or .u32 (bits .andNot .u32 (S.n 52) 1024) 1024) else S.putN 52 (bits .andNot .u32 (S.n 52) 1024)
def pendS (S : St) : Bool := bits .and .u32 (bits .and .u32 (S.n 52) (S.n 51)) 65280 != 0
def takenS (S : St) : Bool := pendS S && (bits .and .u32 (S.n 51) 3 == 1)

/-! ### words -/
theorem St.putNN (S : St) (i : Nat) (u v : Int) : (S.putN i u).putN i v = S.putN i v := St.ext (fun j => by unfold St.putN upd; dsimp only; split <;> rfl) fun j => rfl
theorem St.putNC (S : St) {i j : Nat} (h : i ≠ j) (u v : Int) : (S.putN i u).putN j v = (S.putN j v).putN i u := St.ext (fun q => by
  unfold St.putN upd; dsimp only
  by_cases a : q = j
  · subst a; rw [if_pos rfl, if_neg (Ne.symm h), if_pos rfl]
  · rw [if_neg a]; by_cases c : q = i
    · rw [if_pos c, if_pos c]
    · rw [if_neg c, if_neg c, if_neg a]) fun j => rfl
theorem and_idem2 (x q r : Int) (h : bv q &&& bv r = bv r) : bits .and .u32 (bits .and .u32 x q) r = bits .and .u32 x r := by
  rw [and_bv, and_bv, and_bv, bv_back, BitVec.and_assoc, h]
theorem taken_eq (x : Int) (h0 : 0 ≤ x) (h1 : x < 4294967296) : (bits .and .u32 x 3 == 1) = ((bits .and .u32 x 1 != 0) && (bits .and .u32 x 2 == 0)) := by
  rw [← and_idem2 x 3 1 (by decide), ← and_idem2 x 3 2 (by decide)]
  have e : bits .and .u32 x 3 = x % 4 := by have := and_ones x h0 h1 2 (by decide); simpa using this
  rw [e]
  have : x % 4 = 0 ∨ x % 4 = 1 ∨ x % 4 = 2 ∨ x % 4 = 3 := by omega
  rcases this with h | h | h | h <;> rw [h] <;> decide
theorem and_and (x y z : Int) : bits .and .u32 (bits .and .u32 x z) (bits .and .u32 y z) = bits .and .u32 (bits .and .u32 x y) z := by
  rw [and_bv, and_bv, and_bv, and_bv, and_bv, bv_back, bv_back, bv_back]
  congr 2
  apply BitVec.eq_of_getLsbD_eq
  intro i hi
  simp only [BitVec.getLsbD_and]
  generalize (bv x).getLsbD i = p; generalize (bv y).getLsbD i = q; generalize (bv z).getLsbD i = r
  revert p q r; decide
theorem code_and (c : Int) (h0 : 0 ≤ c) (h1 : c < 32) : bits .and .i64 c 31 = c ∧ bits .and .u32 (IntKind.wrap .u32 ((IntKind.wrap .u32 c) * 4)) 124 = c * 4 ∧ IntKind.wrap .u32 ((IntKind.wrap .u32 c) * 4) = c * 4 := by
  have e : ∀ n : Fin 32, bits .and .i64 (n.val : Int) 31 = n.val ∧ bits .and .u32 (IntKind.wrap .u32 ((IntKind.wrap .u32 (n.val : Int)) * 4)) 124 = (n.val : Int) * 4 ∧ IntKind.wrap .u32 ((IntKind.wrap .u32 (n.val : Int)) * 4) = (n.val : Int) * 4 := by decide +kernel
  have := e ⟨c.toNat, by omega⟩
  have ec : ((c.toNat : Nat) : Int) = c := by omega
  simpa only [ec] using this

theorem wrap64_rng (n : Int) : -9223372036854775808 ≤ IntKind.wrap .i64 n ∧ IntKind.wrap .i64 n < 9223372036854775808 := by
  have e : IntKind.wrap .i64 n = if n % 18446744073709551616 ≥ 9223372036854775808 then n % 18446744073709551616 - 18446744073709551616 else n % 18446744073709551616 := by
    simp [IntKind.wrap, IntKind.bits, IntKind.signed]
  rw [e]
  split <;> omega
theorem St.ok_toS {S : St} (h : S.ok) {pc : Int} (h0 : 0 ≤ pc) (h1 : pc < 4294967296) : (toS S pc).ok := by
  unfold toS
  have := wrap32_rng (pc + 4)
  exact putP_ok (putN_ok (putN_ok h (by omega) h0 h1) (by omega) this.1 this.2)
theorem goS_ok {S : St} (h : S.ok) (n : Int) : (goS S n).1.ok := by
  unfold goS
  have w := wrap64_rng (S.n 72 + n)
  have w2 := wrap32_rng (S.n 48 + IntKind.wrap .u32 n)
  have w3 := or_rng (S.n 52) 32768
  split
  · exact h
  split
  · exact putN_ok (putN_ok (putT_ok h w.1 w.2) (by omega) w2.1 w2.2) (by omega) w3.1 w3.2
  · exact putN_ok (putT_ok h w.1 w.2) (by omega) w2.1 w2.2
theorem enterA_ok {S : St} (h : S.ok) : (enterA S).ok := by
  unfold enterA
  have w := wrap32_rng (S.n 34 - 4)
  have w3 := or_rng (bits .andNot .u32 (S.n 52) 2147483648) 2147483648
  have w4 := not_rng (S.n 52) 2147483648
  have w5 := h.1 34 (by omega)
  split
  · split
    · exact putN_ok (putN_ok h (by omega) w.1 w.2) (by omega) w3.1 w3.2
    · exact putN_ok (putN_ok h (by omega) w5.1 w5.2) (by omega) w4.1 w4.2
  · exact h
theorem enterS_ok {S : St} (h : S.ok) (c : Int) (r : Bool) : (enterS S c r).ok := by
  unfold enterS enterB
  have w := or_rng (bits .andNot .u32 ((enterA S).n 52) 124) (c * 4)
  have w2 := or_rng ((enterA S).n 51) 2
  refine putN_ok (St.ok_toS (putN_ok (enterA_ok h) (by omega) w.1 w.2) ?_ ?_) (by omega) w2.1 w2.2
  · split <;> decide
  · split <;> decide
theorem returnS_ok {S : St} (h : S.ok) : (returnS S).ok := by
  unfold returnS
  have w := h.1 53 (by omega)
  have w2 := not_rng (S.n 51) 2
  exact putP_ok (putN_ok (St.ok_toS h w.1 w.2) (by omega) w2.1 w2.2)
theorem badS_ok {S : St} (h : S.ok) {va : Int} (h0 : 0 ≤ va) (h1 : va < 4294967296) (t : Bool) : (badS S va t).ok := by
  unfold badS
  have w := or_rng (bits .and .u32 (S.n 49) 1023) (bits .and .u32 va 4294966272)
  split
  · exact putN_ok (putN_ok h (by omega) h0 h1) (by omega) w.1 w.2
  · exact putN_ok h (by omega) h0 h1
theorem lineS_ok {S : St} (h : S.ok) (t : Bool) : (lineS S t).ok := by
  unfold lineS
  have w := or_rng (bits .andNot .u32 (S.n 52) 1024) 1024
  have w2 := not_rng (S.n 52) 1024
  split
  · exact putN_ok h (by omega) w.1 w.2
  · exact putN_ok h (by omega) w2.1 w2.2

end Go.Proofs.Ytckhobljijpfpaa.Am
