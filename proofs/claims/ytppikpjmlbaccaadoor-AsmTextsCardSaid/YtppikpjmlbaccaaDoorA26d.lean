/- Texts of instructions: numerals joined by spaces, unlike ones unlike. No program in sight. -/
import Derived.Test.YtppikpjmlbaccaaDoorK3g
import Derived.Lib.ItoaLen
import Derived.Lib.Join
namespace Go.Proofs.YtppikpjmlbaccaaDoor.Am
set_option linter.unusedVariables false
set_option linter.unusedSimpArgs false

def dv (l : List UInt8) : Nat := l.foldl (fun a d => a * 10 + (d.toNat - 48)) 0
theorem dg_nat {u : Nat} (h : u < 10) : (UInt8.ofNat (48 + u)).toNat = 48 + u := by
  rw [UInt8.toNat_ofNat']; omega
theorem dv_dec (u : Nat) : dv (Lib.decDigits u) = u := by
  induction u using Nat.strongRecOn with
  | ind u ih =>
    rw [Lib.decDigits]
    split
    · rename_i h
      show 0 * 10 + ((UInt8.ofNat (48 + u)).toNat - 48) = u
      rw [dg_nat h]; omega
    · rename_i h
      have e := ih (u / 10) (by omega)
      unfold dv at e ⊢
      rw [List.foldl_append, e]
      show u / 10 * 10 + ((UInt8.ofNat (48 + u % 10)).toNat - 48) = u
      rw [dg_nat (by omega)]; omega
theorem dec_no (u : Nat) : ∀ d ∈ Lib.decDigits u, d ≠ 32 := by
  have one : ∀ v, v < 10 → UInt8.ofNat (48 + v) ≠ 32 := fun v h e => by
    have := dg_nat h
    rw [e] at this
    have h2 : (32 : UInt8).toNat = 32 := rfl
    omega
  induction u using Nat.strongRecOn with
  | ind u ih =>
    rw [Lib.decDigits]
    split
    · rename_i h
      intro d hd
      rw [List.mem_singleton.1 hd]
      exact one u h
    · rename_i h
      intro d hd
      rcases List.mem_append.1 hd with hd | hd
      · exact ih (u / 10) (by omega) d hd
      · rw [List.mem_singleton.1 hd]
        exact one _ (by omega)
theorem itoa_nn {n : Int} (h : 0 ≤ n) : Lib.itoa n = Lib.decDigits n.toNat := by unfold Lib.itoa; rw [if_neg (by omega)]
theorem itoa_no {n : Int} (h : 0 ≤ n) : ∀ d ∈ Lib.itoa n, d ≠ 32 := by rw [itoa_nn h]; exact dec_no _
theorem itoa_inj {a b : Int} (ha : 0 ≤ a) (hb : 0 ≤ b) (h : Lib.itoa a = Lib.itoa b) : a = b := by
  rw [itoa_nn ha, itoa_nn hb] at h
  have := congrArg dv h
  rw [dv_dec, dv_dec] at this
  omega
theorem split32 {a b r s : List UInt8} (ha : ∀ d ∈ a, d ≠ 32) (hb : ∀ d ∈ b, d ≠ 32) (h : a ++ 32 :: r = b ++ 32 :: s) : a = b ∧ r = s := by
  induction a generalizing b with
  | nil => cases b with
    | nil => exact ⟨rfl, (List.cons.inj h).2⟩
    | cons y b => exact absurd (List.cons.inj h).1.symm (hb y (List.mem_cons_self ..))
  | cons x a ih => cases b with
    | nil => exact absurd (List.cons.inj h).1 (ha x (List.mem_cons_self ..))
    | cons y b =>
      obtain ⟨e1, e2⟩ := List.cons.inj h
      obtain ⟨h1, h2⟩ := ih (fun d hd => ha d (List.mem_cons_of_mem _ hd)) (fun d hd => hb d (List.mem_cons_of_mem _ hd)) e2
      exact ⟨by rw [e1, h1], h2⟩

def fld (x : In) : Nat → Int
  | 0 => x.k
  | 1 => x.s
  | 2 => x.t
  | 3 => x.d
  | 4 => x.h
  | _ => x.i
def TB (x : In) : Prop := ∀ i, 0 ≤ fld x i ∧ fld x i < 4294967296
def textL (x : In) : List UInt8 := Lib.itoa x.k ++ 32 :: (Lib.itoa x.s ++ 32 :: (Lib.itoa x.t ++ 32 :: (Lib.itoa x.d ++ 32 :: (Lib.itoa x.h ++ 32 :: Lib.itoa x.i))))
theorem text_inj {x y : In} (hx : TB x) (hy : TB y) (h : textL x = textL y) : x = y := by
  unfold textL at h
  have X := fun i => (hx i).1
  have Y := fun i => (hy i).1
  obtain ⟨h0, h⟩ := split32 (itoa_no (X 0)) (itoa_no (Y 0)) h
  obtain ⟨h1, h⟩ := split32 (itoa_no (X 1)) (itoa_no (Y 1)) h
  obtain ⟨h2, h⟩ := split32 (itoa_no (X 2)) (itoa_no (Y 2)) h
  obtain ⟨h3, h⟩ := split32 (itoa_no (X 3)) (itoa_no (Y 3)) h
  obtain ⟨h4, h5⟩ := split32 (itoa_no (X 4)) (itoa_no (Y 4)) h
  have e0 := itoa_inj (X 0) (Y 0) h0
  have e1 := itoa_inj (X 1) (Y 1) h1
  have e2 := itoa_inj (X 2) (Y 2) h2
  have e3 := itoa_inj (X 3) (Y 3) h3
  have e4 := itoa_inj (X 4) (Y 4) h4
  have e5 := itoa_inj (X 5) (Y 5) h5
  cases x; cases y
  simp only [fld] at e0 e1 e2 e3 e4 e5
  subst e0 e1 e2 e3 e4 e5
  rfl
theorem text_len {x : In} (hx : TB x) : (textL x).length ≤ 131 := by
  have L := fun i => Lib.itoa_length_le (fld x i) (by have := hx i; omega) (by have := hx i; omega)
  have l0 := L 0
  have l1 := L 1
  have l2 := L 2
  have l3 := L 3
  have l4 := L 4
  have l5 := L 5
  simp only [fld] at l0 l1 l2 l3 l4 l5
  unfold textL
  simp only [List.length_append, List.length_cons]
  omega
theorem text_pos (x : In) : 0 < (textL x).length := by
  unfold textL
  simp only [List.length_append, List.length_cons]
  omega
def itB (n : Int) : ByteArray := ⟨(Lib.itoa n).toArray⟩
def itL (x : In) : List ByteArray := [itB x.k, itB x.s, itB x.t, itB x.d, itB x.h, itB x.i]
theorem itL_get (x : In) (j : Nat) (s : ByteArray) (h : (itL x)[j]? = some s) : s = itB (fld x j) := by
  match j, h with
  | 0, h => exact (Option.some.inj h).symm
  | 1, h => exact (Option.some.inj h).symm
  | 2, h => exact (Option.some.inj h).symm
  | 3, h => exact (Option.some.inj h).symm
  | 4, h => exact (Option.some.inj h).symm
  | 5, h => exact (Option.some.inj h).symm
  | _ + 6, h => exact absurd h (by simp [itL])
theorem itL_join (x : In) : Lib.join ((itL x).map (·.data.toList)) [32] = textL x := by
  simp [itL, itB, textL, Lib.join_cons, Lib.joinTail]
def txt (x : In) : ByteArray := ⟨(textL x).toArray⟩
theorem txt_size (x : In) : (txt x).size = (textL x).length := by simp [txt, ByteArray.size]
theorem txt_eq {x y : In} (hx : TB x) (hy : TB y) : ((txt x).toList == (txt y).toList) = decide (x = y) := by
  rw [Lib.toList_data, Lib.toList_data]
  show (textL x == textL y) = _
  by_cases h : x = y
  · subst h; simp
  · rw [decide_eq_false h]
    exact beq_eq_false_iff_ne.2 fun e => h (text_inj hx hy e)
theorem most_le (f : Int) : most f ≤ 67108863 := by
  unfold most
  split
  · decide
  · split <;> decide
theorem OK.tb {x : In} (h : OK x) : TB x := fun i => by
  have m := most_le (fl x.k)
  have := h.k0; have := h.k1; have := h.s0; have := h.s1; have := h.t0; have := h.t1; have := h.d0; have := h.d1; have := h.h0; have := h.h1; have := h.i0; have := h.i1
  unfold fld
  split <;> omega
theorem tb0 : TB ⟨0, 0, 0, 0, 0, 0⟩ := fun i => by
  unfold fld
  split <;> decide
end Go.Proofs.YtppikpjmlbaccaaDoor.Am
