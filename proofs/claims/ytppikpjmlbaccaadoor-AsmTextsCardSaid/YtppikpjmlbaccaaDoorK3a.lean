/- Chapter 3 as plain functions: instructions and words. No program in sight. -/
import Derived.Test.YtppikpjmlbaccaaDoorK3t
namespace Go.Proofs.YtppikpjmlbaccaaDoor.Am
set_option linter.unusedVariables false
set_option linter.unusedSimpArgs false
set_option maxRecDepth 100000

structure In where
  k : Int
  s : Int
  t : Int
  d : Int
  h : Int
  i : Int
deriving DecidableEq
def In.ty (x : In) : Prop := (Lit.int .i64 x.k).wf = true ∧ (Lit.int .i64 x.s).wf = true ∧ (Lit.int .i64 x.t).wf = true ∧ (Lit.int .i64 x.d).wf = true ∧ (Lit.int .i64 x.h).wf = true ∧ (Lit.int .u32 x.i).wf = true
def hasM (m q : Int) : Bool := bits .and .i64 m q != 0
def withS (k w : Int) : In := ⟨k, if hasM (fl k) 1 = true then w / 2097152 % 32 else 0, if hasM (fl k) 2 = true then w / 65536 % 32 else 0, if hasM (fl k) 4 = true then w / 2048 % 32 else 0, if hasM (fl k) 8 = true then w / 64 % 32 else 0,
  if hasM (fl k) 16 = true then w % 65536 else if hasM (fl k) 32 = true then w % 67108864 else 0⟩
def subOf (w : Int) : Int :=
  if w / 67108864 = 0 ∨ w / 67108864 = 28 then w % 64
  else if w / 67108864 = 1 then w / 65536 % 32
  else if w / 67108864 = 16 then if w / 2097152 % 32 = 16 then 64 + w % 64 else w / 2097152 % 32
  else 0
def kindOf (w : Int) : Int := kt (w / 67108864) (subOf w)
def ofS (w : Int) : In := withS (kindOf w) w
abbrev orI (x y : Int) : Int := bits .or .u32 x y
def putS (x : In) : Int := orI (orI (orI (orI (IntKind.wrap .u32 (IntKind.wrap .u32 x.s * 2097152)) (IntKind.wrap .u32 (IntKind.wrap .u32 x.t * 65536))) (IntKind.wrap .u32 (IntKind.wrap .u32 x.d * 2048))) (IntKind.wrap .u32 (IntKind.wrap .u32 x.h * 64))) x.i
def headS (k : Int) : Int := HDT.getD k.toNat 0
def five (n : Int) : Bool := decide (0 ≤ n) && decide (n ≤ 31)
def rightS (x : In) : Bool := five x.s && five x.t && five x.d && five x.h && decide (0 < x.k) && decide (x.k < 78) && decide (x.i ≤ 67108863) && decide (withS x.k (putS x) = x)
def wordS (x : In) : Int × Bool := if rightS x = true then (orI (headS x.k) (putS x), true) else (0, false)
def most (f : Int) : Int := if hasM f 16 = true then 65535 else if hasM f 32 = true then 67108863 else 0
/-- what is right -/
structure OK (x : In) : Prop where
  k0 : 0 < x.k
  k1 : x.k < 78
  s0 : 0 ≤ x.s
  s1 : x.s < 32
  s2 : hasM (fl x.k) 1 = false → x.s = 0
  t0 : 0 ≤ x.t
  t1 : x.t < 32
  t2 : hasM (fl x.k) 2 = false → x.t = 0
  d0 : 0 ≤ x.d
  d1 : x.d < 32
  d2 : hasM (fl x.k) 4 = false → x.d = 0
  h0 : 0 ≤ x.h
  h1 : x.h < 32
  h2 : hasM (fl x.k) 8 = false → x.h = 0
  i0 : 0 ≤ x.i
  i1 : x.i ≤ most (fl x.k)

/-! ### words in parts -/
theorem orI_nat {x y : Int} (hx : 0 ≤ x ∧ x < 4294967296) (hy : 0 ≤ y ∧ y < 4294967296) : orI x y = ((x.toNat ||| y.toNat : Nat) : Int) := by
  unfold orI
  rw [or_bv, BitVec.toNat_or]
  have h1 := bv_toInt hx.1 hx.2
  have h2 := bv_toInt hy.1 hy.2
  rw [show (bv x).toNat = x.toNat by omega, show (bv y).toNat = y.toNat by omega]
theorem orI_rng (x y : Int) : 0 ≤ orI x y ∧ orI x y < 4294967296 := or_rng x y
theorem orI_ext {x y : Int} (hx : 0 ≤ x ∧ x < 4294967296) (hy : 0 ≤ y ∧ y < 4294967296) (a b : Nat) : orI x y / ((2 ^ a : Nat) : Int) % ((2 ^ b : Nat) : Int) = orI (x / ((2 ^ a : Nat) : Int) % ((2 ^ b : Nat) : Int)) (y / ((2 ^ a : Nat) : Int) % ((2 ^ b : Nat) : Int)) := by
  obtain ⟨m, rfl⟩ : ∃ m : Nat, x = m := ⟨x.toNat, by omega⟩
  obtain ⟨n, rfl⟩ : ∃ n : Nat, y = n := ⟨y.toNat, by omega⟩
  have hm : m < 4294967296 := by omega
  have hn : n < 4294967296 := by omega
  have e1 : ((m : Int) / ((2 ^ a : Nat) : Int) % ((2 ^ b : Nat) : Int)) = ((m / 2 ^ a % 2 ^ b : Nat) : Int) := by push_cast; rfl
  have e2 : ((n : Int) / ((2 ^ a : Nat) : Int) % ((2 ^ b : Nat) : Int)) = ((n / 2 ^ a % 2 ^ b : Nat) : Int) := by push_cast; rfl
  have l1 : m / 2 ^ a % 2 ^ b ≤ m := Nat.le_trans (Nat.mod_le _ _) (Nat.div_le_self _ _)
  have l2 : n / 2 ^ a % 2 ^ b ≤ n := Nat.le_trans (Nat.mod_le _ _) (Nat.div_le_self _ _)
  rw [e1, e2, orI_nat hx hy, orI_nat ⟨by omega, by omega⟩ ⟨by omega, by omega⟩]
  simp only [Int.toNat_natCast]
  rw [← Nat.or_mod_two_pow, ← Nat.or_div_two_pow]
  push_cast; rfl
theorem orI_0r {x : Int} (hx : 0 ≤ x ∧ x < 4294967296) : orI x 0 = x := by
  rw [orI_nat hx (by omega)]; simp; omega
theorem orI_0l {x : Int} (hx : 0 ≤ x ∧ x < 4294967296) : orI 0 x = x := by
  rw [orI_nat (by omega) hx]; simp; omega
theorem orI_comm (x y : Int) : orI x y = orI y x := by unfold orI; rw [or_bv, or_bv, BitVec.or_comm]
theorem orI_assoc (x y z : Int) : orI (orI x y) z = orI x (orI y z) := by unfold orI; rw [or_bv, or_bv, or_bv, or_bv, bv_back, bv_back, BitVec.or_assoc]

theorem fl_shape : ∀ n, n < 78 → (hasM (FLT.getD n 0) 16 = true → hasM (FLT.getD n 0) 4 = false ∧ hasM (FLT.getD n 0) 8 = false ∧ hasM (FLT.getD n 0) 32 = false) ∧
    (hasM (FLT.getD n 0) 32 = true → hasM (FLT.getD n 0) 1 = false ∧ hasM (FLT.getD n 0) 2 = false ∧ hasM (FLT.getD n 0) 4 = false ∧ hasM (FLT.getD n 0) 8 = false ∧ hasM (FLT.getD n 0) 16 = false) := by decide +kernel

/-- the fields of a word that an instruction is put into -/
structure Fields (x : In) (w : Int) : Prop where
  r : 0 ≤ w ∧ w < 4294967296
  o : w / 67108864 = 0
  s : hasM (fl x.k) 32 = false → w / 2097152 % 32 = x.s
  t : hasM (fl x.k) 32 = false → w / 65536 % 32 = x.t
  d : hasM (fl x.k) 16 = false → hasM (fl x.k) 32 = false → w / 2048 % 32 = x.d
  h : hasM (fl x.k) 16 = false → hasM (fl x.k) 32 = false → w / 64 % 32 = x.h
  f : hasM (fl x.k) 16 = false → hasM (fl x.k) 32 = false → w % 64 = 0
  i : hasM (fl x.k) 16 = true → w % 65536 = x.i
  j : hasM (fl x.k) 32 = true → w % 67108864 = x.i
theorem fl_sh (k : Int) (h0 : 0 ≤ k) (h1 : k < 78) : (hasM (fl k) 16 = true → hasM (fl k) 4 = false ∧ hasM (fl k) 8 = false ∧ hasM (fl k) 32 = false) ∧
    (hasM (fl k) 32 = true → hasM (fl k) 1 = false ∧ hasM (fl k) 2 = false ∧ hasM (fl k) 4 = false ∧ hasM (fl k) 8 = false ∧ hasM (fl k) 16 = false) := fl_shape k.toNat (by omega)
theorem most_rng (f : Int) : most f ≤ 67108863 := by unfold most; split; omega; split <;> omega
theorem most_0 {f : Int} (h : hasM f 16 = false) (h2 : hasM f 32 = false) : most f = 0 := by unfold most; rw [h, h2]; rfl
theorem most_h {f : Int} (h : hasM f 16 = true) : most f = 65535 := by unfold most; rw [h]; rfl
theorem most_l {f : Int} (h : hasM f 16 = false) (h2 : hasM f 32 = true) : most f = 67108863 := by unfold most; rw [h, h2]; rfl
theorem put_fields {x : In} (h : OK x) : hasM (fl x.k) 32 = false → Fields x (putS x) := by
  intro h32
  obtain ⟨k0, k1, s0, s1, s2, t0, t1, t2, d0, d1, d2, h0, h1, h2, i0, i1⟩ := h
  have shape := (fl_sh x.k (by omega) k1).1
  have hi : x.i < 65536 := by
    cases h16 : hasM (fl x.k) 16 with
    | true => rw [most_h h16] at i1; omega
    | false => rw [most_0 h16 h32] at i1; omega
  unfold putS
  rw [wrap32, wrap32, wrap32, wrap32, wrap32, wrap32, wrap32, wrap32]
  rw [show x.s % 4294967296 * 2097152 % 4294967296 = x.s * 2097152 by omega, show x.t % 4294967296 * 65536 % 4294967296 = x.t * 65536 by omega, show x.d % 4294967296 * 2048 % 4294967296 = x.d * 2048 by omega, show x.h % 4294967296 * 64 % 4294967296 = x.h * 64 by omega]
  have ext := fun (a b : Nat) => (show orI (orI (orI (orI (x.s * 2097152) (x.t * 65536)) (x.d * 2048)) (x.h * 64)) x.i / ((2 ^ a : Nat) : Int) % ((2 ^ b : Nat) : Int) = _ from by
    rw [orI_ext (orI_rng _ _) (by omega), orI_ext (orI_rng _ _) (by omega), orI_ext (orI_rng _ _) (by omega), orI_ext (by omega) (by omega)])
  have r := orI_rng (orI (orI (orI (x.s * 2097152) (x.t * 65536)) (x.d * 2048)) (x.h * 64)) x.i
  have z5 : ∀ {u : Int}, 0 ≤ u → u < 4294967296 → orI (orI (orI (orI u 0) 0) 0) 0 = u := fun a b => by rw [orI_0r (orI_rng _ _), orI_0r (orI_rng _ _), orI_0r (orI_rng _ _), orI_0r ⟨a, b⟩]
  have z0 : orI 0 0 = 0 := by decide
  refine ⟨r, ?_, ?_, ?_, ?_, ?_, ?_, ?_, ?_⟩
  · have e := ext 26 6
    simp only [Nat.reducePow] at e
    rw [show x.s * 2097152 / ((67108864 : Nat) : Int) % ((64 : Nat) : Int) = 0 by omega, show x.t * 65536 / ((67108864 : Nat) : Int) % ((64 : Nat) : Int) = 0 by omega, show x.d * 2048 / ((67108864 : Nat) : Int) % ((64 : Nat) : Int) = 0 by omega, show x.h * 64 / ((67108864 : Nat) : Int) % ((64 : Nat) : Int) = 0 by omega, show x.i / ((67108864 : Nat) : Int) % ((64 : Nat) : Int) = 0 by omega, z0, z0, z0, z0] at e
    omega
  · intro _
    have e := ext 21 5
    simp only [Nat.reducePow] at e
    rw [show x.s * 2097152 / ((2097152 : Nat) : Int) % ((32 : Nat) : Int) = x.s by omega, show x.t * 65536 / ((2097152 : Nat) : Int) % ((32 : Nat) : Int) = 0 by omega, show x.d * 2048 / ((2097152 : Nat) : Int) % ((32 : Nat) : Int) = 0 by omega, show x.h * 64 / ((2097152 : Nat) : Int) % ((32 : Nat) : Int) = 0 by omega, show x.i / ((2097152 : Nat) : Int) % ((32 : Nat) : Int) = 0 by omega, z5 s0 (by omega)] at e
    omega
  · intro _
    have e := ext 16 5
    simp only [Nat.reducePow] at e
    rw [show x.s * 2097152 / ((65536 : Nat) : Int) % ((32 : Nat) : Int) = 0 by omega, show x.t * 65536 / ((65536 : Nat) : Int) % ((32 : Nat) : Int) = x.t by omega, show x.d * 2048 / ((65536 : Nat) : Int) % ((32 : Nat) : Int) = 0 by omega, show x.h * 64 / ((65536 : Nat) : Int) % ((32 : Nat) : Int) = 0 by omega, show x.i / ((65536 : Nat) : Int) % ((32 : Nat) : Int) = 0 by omega, orI_0r (orI_rng _ _), orI_0r (orI_rng _ _), orI_0r (orI_rng _ _), orI_0l (by omega)] at e
    omega
  · intro h16 _
    have hz : x.i = 0 := by rw [most_0 h16 h32] at i1; omega
    have e := ext 11 5
    simp only [Nat.reducePow] at e
    rw [show x.s * 2097152 / ((2048 : Nat) : Int) % ((32 : Nat) : Int) = 0 by omega, show x.t * 65536 / ((2048 : Nat) : Int) % ((32 : Nat) : Int) = 0 by omega, show x.d * 2048 / ((2048 : Nat) : Int) % ((32 : Nat) : Int) = x.d by omega, show x.h * 64 / ((2048 : Nat) : Int) % ((32 : Nat) : Int) = 0 by omega, show x.i / ((2048 : Nat) : Int) % ((32 : Nat) : Int) = 0 by omega, z0, orI_0r (orI_rng _ _), orI_0r (orI_rng _ _), orI_0l (by omega)] at e
    omega
  · intro h16 _
    have hz : x.i = 0 := by rw [most_0 h16 h32] at i1; omega
    have e := ext 6 5
    simp only [Nat.reducePow] at e
    rw [show x.s * 2097152 / ((64 : Nat) : Int) % ((32 : Nat) : Int) = 0 by omega, show x.t * 65536 / ((64 : Nat) : Int) % ((32 : Nat) : Int) = 0 by omega, show x.d * 2048 / ((64 : Nat) : Int) % ((32 : Nat) : Int) = 0 by omega, show x.h * 64 / ((64 : Nat) : Int) % ((32 : Nat) : Int) = x.h by omega, show x.i / ((64 : Nat) : Int) % ((32 : Nat) : Int) = 0 by omega, z0, z0, orI_0r (orI_rng _ _), orI_0l (by omega)] at e
    omega
  · intro h16 _
    have hz : x.i = 0 := by rw [most_0 h16 h32] at i1; omega
    have e := ext 0 6
    simp only [Nat.reducePow] at e
    rw [show x.s * 2097152 / ((1 : Nat) : Int) % ((64 : Nat) : Int) = 0 by omega, show x.t * 65536 / ((1 : Nat) : Int) % ((64 : Nat) : Int) = 0 by omega, show x.d * 2048 / ((1 : Nat) : Int) % ((64 : Nat) : Int) = 0 by omega, show x.h * 64 / ((1 : Nat) : Int) % ((64 : Nat) : Int) = 0 by omega, show x.i / ((1 : Nat) : Int) % ((64 : Nat) : Int) = 0 by omega, z0, z0, z0, z0] at e
    omega
  · intro h16
    obtain ⟨q1, q2, _⟩ := shape h16
    have hd := d2 q1
    have hh := h2 q2
    have e := ext 0 16
    simp only [Nat.reducePow] at e
    rw [show x.s * 2097152 / ((1 : Nat) : Int) % ((65536 : Nat) : Int) = 0 by omega, show x.t * 65536 / ((1 : Nat) : Int) % ((65536 : Nat) : Int) = 0 by omega, show x.d * 2048 / ((1 : Nat) : Int) % ((65536 : Nat) : Int) = 0 by omega, show x.h * 64 / ((1 : Nat) : Int) % ((65536 : Nat) : Int) = 0 by omega, show x.i / ((1 : Nat) : Int) % ((65536 : Nat) : Int) = x.i by omega, z0, z0, z0, orI_0l (by omega)] at e
    omega
  · intro q; rw [h32] at q; cases q
theorem put_fields_j {x : In} (h : OK x) (h32 : hasM (fl x.k) 32 = true) : putS x = x.i ∧ x.s = 0 ∧ x.t = 0 ∧ x.d = 0 ∧ x.h = 0 ∧ x.i < 67108864 := by
  obtain ⟨k0, k1, s0, s1, s2, t0, t1, t2, d0, d1, d2, h0, h1, h2, i0, i1⟩ := h
  have shape := (fl_sh x.k (by omega) k1).2 h32
  obtain ⟨q1, q2, q3, q4, q5⟩ := shape
  have hs := s2 q1
  have ht := t2 q2
  have hd := d2 q3
  have hh := h2 q4
  have hi : x.i < 67108864 := by rw [most_l q5 h32] at i1; omega
  refine ⟨?_, hs, ht, hd, hh, hi⟩
  unfold putS
  rw [hs, ht, hd, hh]
  rw [show orI (orI (orI (IntKind.wrap .u32 (IntKind.wrap .u32 0 * 2097152)) (IntKind.wrap .u32 (IntKind.wrap .u32 0 * 65536))) (IntKind.wrap .u32 (IntKind.wrap .u32 0 * 2048))) (IntKind.wrap .u32 (IntKind.wrap .u32 0 * 64)) = 0 by decide]
  exact orI_0l (by omega)
theorem put_all {x : In} (h : OK x) : Fields x (putS x) := by
  cases h32 : hasM (fl x.k) 32 with
  | false => exact put_fields h h32
  | true =>
    obtain ⟨e, hs, ht, hd, hh, hi⟩ := put_fields_j h h32
    have i0 := h.i0
    have q5 := ((fl_sh x.k (by have := h.k0; omega) h.k1).2 h32).2.2.2.2
    rw [e]
    refine ⟨⟨i0, by omega⟩, by omega, fun q => ?_, fun q => ?_, fun _ q => ?_, fun _ q => ?_, fun _ q => ?_, fun q => ?_, fun _ => by omega⟩
    · rw [h32] at q; cases q
    · rw [h32] at q; cases q
    · rw [h32] at q; cases q
    · rw [h32] at q; cases q
    · rw [h32] at q; cases q
    · rw [q5] at q; cases q

/-! ### right -/
theorem with_k (k w : Int) : (withS k w).k = k := rfl
theorem right_iff (x : In) (hi : 0 ≤ x.i) : rightS x = true ↔ OK x := by
  constructor
  · intro h
    unfold rightS five at h
    simp only [Bool.and_eq_true, decide_eq_true_eq] at h
    obtain ⟨⟨⟨⟨⟨⟨⟨⟨s0, s1⟩, ⟨t0, t1⟩⟩, ⟨d0, d1⟩⟩, ⟨h0, h1⟩⟩, k0⟩, k1⟩, i1⟩, e⟩ := h
    have es := congrArg In.s e
    have et := congrArg In.t e
    have ed := congrArg In.d e
    have eh := congrArg In.h e
    have ei := congrArg In.i e
    unfold withS at es et ed eh ei
    dsimp only at es et ed eh ei
    refine ⟨k0, k1, s0, by omega, fun q => ?_, t0, by omega, fun q => ?_, d0, by omega, fun q => ?_, h0, by omega, fun q => ?_, hi, ?_⟩
    · rw [if_neg (by rw [q]; simp)] at es; exact es.symm
    · rw [if_neg (by rw [q]; simp)] at et; exact et.symm
    · rw [if_neg (by rw [q]; simp)] at ed; exact ed.symm
    · rw [if_neg (by rw [q]; simp)] at eh; exact eh.symm
    · cases h16 : hasM (fl x.k) 16 with
      | true => rw [most_h h16]; rw [if_pos h16] at ei; omega
      | false =>
        cases h32 : hasM (fl x.k) 32 with
        | true => rw [most_l h16 h32]; exact i1
        | false => rw [most_0 h16 h32]; rw [if_neg (by rw [h16]; simp), if_neg (by rw [h32]; simp)] at ei; omega
  · intro h
    have F := put_all h
    have sh := fl_sh x.k (by have := h.k0; omega) h.k1
    unfold rightS five
    simp only [Bool.and_eq_true, decide_eq_true_eq]
    have := most_rng (fl x.k)
    have := h.i1
    refine ⟨⟨⟨⟨⟨⟨⟨⟨h.s0, by have := h.s1; omega⟩, ⟨h.t0, by have := h.t1; omega⟩⟩, ⟨h.d0, by have := h.d1; omega⟩⟩, ⟨h.h0, by have := h.h1; omega⟩⟩, h.k0⟩, h.k1⟩, by omega⟩, ?_⟩
    unfold withS
    have n32 : ∀ {q : Int}, hasM (fl x.k) q = true → (hasM (fl x.k) 32 = true → hasM (fl x.k) q = false) → hasM (fl x.k) 32 = false := fun a b => by
      cases c : hasM (fl x.k) 32 with
      | false => rfl
      | true => rw [b c] at a; cases a
    have n16 : ∀ {q : Int}, hasM (fl x.k) q = true → (hasM (fl x.k) 16 = true → hasM (fl x.k) q = false) → hasM (fl x.k) 16 = false := fun a b => by
      cases c : hasM (fl x.k) 16 with
      | false => rfl
      | true => rw [b c] at a; cases a
    have es : (if hasM (fl x.k) 1 = true then putS x / 2097152 % 32 else 0) = x.s := by
      cases c : hasM (fl x.k) 1 with
      | true => rw [if_pos rfl]; exact F.s (n32 c fun q => (sh.2 q).1)
      | false => rw [if_neg (by simp)]; exact (h.s2 c).symm
    have et : (if hasM (fl x.k) 2 = true then putS x / 65536 % 32 else 0) = x.t := by
      cases c : hasM (fl x.k) 2 with
      | true => rw [if_pos rfl]; exact F.t (n32 c fun q => (sh.2 q).2.1)
      | false => rw [if_neg (by simp)]; exact (h.t2 c).symm
    have ed : (if hasM (fl x.k) 4 = true then putS x / 2048 % 32 else 0) = x.d := by
      cases c : hasM (fl x.k) 4 with
      | true => rw [if_pos rfl]; exact F.d (n16 c fun q => (sh.1 q).1) (n32 c fun q => (sh.2 q).2.2.1)
      | false => rw [if_neg (by simp)]; exact (h.d2 c).symm
    have eh : (if hasM (fl x.k) 8 = true then putS x / 64 % 32 else 0) = x.h := by
      cases c : hasM (fl x.k) 8 with
      | true => rw [if_pos rfl]; exact F.h (n16 c fun q => (sh.1 q).2.1) (n32 c fun q => (sh.2 q).2.2.2.1)
      | false => rw [if_neg (by simp)]; exact (h.h2 c).symm
    have ei : (if hasM (fl x.k) 16 = true then putS x % 65536 else if hasM (fl x.k) 32 = true then putS x % 67108864 else 0) = x.i := by
      cases c : hasM (fl x.k) 16 with
      | true => rw [if_pos rfl]; exact F.i c
      | false =>
        rw [if_neg (by simp)]
        cases c2 : hasM (fl x.k) 32 with
        | true => rw [if_pos rfl]; exact F.j c2
        | false => rw [if_neg (by simp)]; have := h.i1; have := h.i0; rw [most_0 c c2] at *; omega
    rw [es, et, ed, eh, ei]

/-- a word's instruction is right, where it is one -/
theorem of_ok {w : Int} (w0 : 0 ≤ w) (h : 0 < kindOf w) (h2 : kindOf w < 78) : OK (ofS w) := by
  unfold ofS withS
  have m0 : ∀ f : Int, 0 ≤ most f := fun f => by unfold most; split; omega; split <;> omega
  refine ⟨h, h2, ?_, ?_, ?_, ?_, ?_, ?_, ?_, ?_, ?_, ?_, ?_, ?_, ?_, ?_⟩
  all_goals dsimp only
  · split <;> omega
  · split <;> omega
  · intro q; rw [q]; rfl
  · split <;> omega
  · split <;> omega
  · intro q; rw [q]; rfl
  · split <;> omega
  · split <;> omega
  · intro q; rw [q]; rfl
  · split <;> omega
  · split <;> omega
  · intro q; rw [q]; rfl
  · split; omega; split <;> omega
  · unfold most; split; omega; split <;> omega

/-! ### a word of an instruction -/
set_option synthInstance.maxHeartbeats 400000 in
set_option synthInstance.maxSize 4000 in
theorem hd_tab : ∀ n, n < 78 → 0 < n → (0 ≤ HDT.getD n 0 ∧ HDT.getD n 0 < 4294967296) ∧ kindOf (HDT.getD n 0) = n ∧
    (hasM (FLT.getD n 0) 1 = true → HDT.getD n 0 / 2097152 % 32 = 0) ∧ (hasM (FLT.getD n 0) 2 = true → HDT.getD n 0 / 65536 % 32 = 0) ∧ (hasM (FLT.getD n 0) 4 = true → HDT.getD n 0 / 2048 % 32 = 0) ∧ (hasM (FLT.getD n 0) 8 = true → HDT.getD n 0 / 64 % 32 = 0) ∧
    (hasM (FLT.getD n 0) 16 = true → HDT.getD n 0 % 65536 = 0) ∧ (hasM (FLT.getD n 0) 32 = true → HDT.getD n 0 % 67108864 = 0) := by decide +kernel
set_option synthInstance.maxHeartbeats 400000 in
set_option synthInstance.maxSize 4000 in
theorem hd_tab2 : ∀ n, n < 78 → 0 < n →
    ((HDT.getD n 0 / 67108864 = 0 ∨ HDT.getD n 0 / 67108864 = 28) → hasM (FLT.getD n 0) 16 = false ∧ hasM (FLT.getD n 0) 32 = false) ∧
    (HDT.getD n 0 / 67108864 = 1 → hasM (FLT.getD n 0) 2 = false ∧ hasM (FLT.getD n 0) 32 = false) ∧
    (HDT.getD n 0 / 67108864 = 16 → hasM (FLT.getD n 0) 1 = false ∧ hasM (FLT.getD n 0) 16 = false ∧ hasM (FLT.getD n 0) 32 = false) := by decide +kernel
theorem of_word {x : In} (h : OK x) : ofS (orI (headS x.k) (putS x)) = x := by
  have F := put_all h
  have k0 := h.k0
  have k1 := h.k1
  have sh := fl_sh x.k (by omega) k1
  have T := hd_tab x.k.toNat (by omega) (by omega)
  have T2 := hd_tab2 x.k.toNat (by omega) (by omega)
  have ek : ((x.k.toNat : Nat) : Int) = x.k := by omega
  have eh : HDT.getD x.k.toNat 0 = headS x.k := rfl
  have ef : FLT.getD x.k.toNat 0 = fl x.k := rfl
  rw [eh, ef, ek] at T
  rw [eh, ef] at T2
  generalize headS x.k = H at T T2 ⊢
  obtain ⟨hr, hk, a1, a2, a4, a8, a16, a32⟩ := T
  obtain ⟨b0, b1, b16⟩ := T2
  have Pr := F.r
  have ext := fun a b => orI_ext hr Pr a b
  have er := orI_rng H (putS x)
  -- the parts of the word
  have eo : orI H (putS x) / 67108864 = H / 67108864 := by
    have e := ext 26 6
    simp only [Nat.reducePow] at e
    have o := F.o
    rw [show putS x / ((67108864 : Nat) : Int) % ((64 : Nat) : Int) = 0 by omega, orI_0r (by omega)] at e
    omega
  have ef6 : hasM (fl x.k) 16 = false → hasM (fl x.k) 32 = false → orI H (putS x) % 64 = H % 64 := fun p q => by
    have e := ext 0 6
    simp only [Nat.reducePow] at e
    have o := F.f p q
    rw [show putS x / ((1 : Nat) : Int) % ((64 : Nat) : Int) = 0 by omega, orI_0r (by omega)] at e
    omega
  have et0 : hasM (fl x.k) 2 = false → hasM (fl x.k) 32 = false → orI H (putS x) / 65536 % 32 = H / 65536 % 32 := fun p q => by
    have e := ext 16 5
    simp only [Nat.reducePow] at e
    have o := F.t q
    rw [h.t2 p] at o
    rw [show putS x / ((65536 : Nat) : Int) % ((32 : Nat) : Int) = 0 by omega, orI_0r (by omega)] at e
    omega
  have es0 : hasM (fl x.k) 1 = false → hasM (fl x.k) 32 = false → orI H (putS x) / 2097152 % 32 = H / 2097152 % 32 := fun p q => by
    have e := ext 21 5
    simp only [Nat.reducePow] at e
    have o := F.s q
    rw [h.s2 p] at o
    rw [show putS x / ((2097152 : Nat) : Int) % ((32 : Nat) : Int) = 0 by omega, orI_0r (by omega)] at e
    omega
  have esub : subOf (orI H (putS x)) = subOf H := by
    unfold subOf
    rw [eo]
    by_cases c0 : H / 67108864 = 0 ∨ H / 67108864 = 28
    · rw [if_pos c0, if_pos c0]; exact ef6 (b0 c0).1 (b0 c0).2
    · rw [if_neg c0, if_neg c0]
      by_cases c1 : H / 67108864 = 1
      · rw [if_pos c1, if_pos c1]; exact et0 (b1 c1).1 (b1 c1).2
      · rw [if_neg c1, if_neg c1]
        by_cases c2 : H / 67108864 = 16
        · rw [if_pos c2, if_pos c2, es0 (b16 c2).1 (b16 c2).2.2, ef6 (b16 c2).2.1 (b16 c2).2.2]
        · rw [if_neg c2, if_neg c2]
  have ekd : kindOf (orI H (putS x)) = x.k := by
    unfold kindOf at hk ⊢; rw [eo, esub]; exact hk
  have R := (right_iff x h.i0).2 h
  have W : withS x.k (putS x) = x := by
    unfold rightS at R; simp only [Bool.and_eq_true, decide_eq_true_eq] at R; exact R.2
  unfold ofS
  rw [ekd]
  refine Eq.trans ?_ W
  unfold withS
  have part : ∀ (q : Int) (a b : Nat), (hasM (fl x.k) q = true → H / ((2 ^ a : Nat) : Int) % ((2 ^ b : Nat) : Int) = 0) → hasM (fl x.k) q = true → orI H (putS x) / ((2 ^ a : Nat) : Int) % ((2 ^ b : Nat) : Int) = putS x / ((2 ^ a : Nat) : Int) % ((2 ^ b : Nat) : Int) := fun q a b z c => by
    rw [ext, z c]
    have e1 : ∃ n : Nat, putS x = n := ⟨(putS x).toNat, by omega⟩
    obtain ⟨n, e1⟩ := e1
    have l2 : n / 2 ^ a % 2 ^ b ≤ n := Nat.le_trans (Nat.mod_le _ _) (Nat.div_le_self _ _)
    have e2 : putS x / ((2 ^ a : Nat) : Int) % ((2 ^ b : Nat) : Int) = ((n / 2 ^ a % 2 ^ b : Nat) : Int) := by rw [e1]; push_cast; rfl
    rw [e2]
    exact orI_0l (by omega)
  congr 1
  · split
    · rename_i c; have := part 1 21 5 (fun q => by simpa using a1 q) c; simpa using this
    · rfl
  · split
    · rename_i c; have := part 2 16 5 (fun q => by simpa using a2 q) c; simpa using this
    · rfl
  · split
    · rename_i c; have := part 4 11 5 (fun q => by simpa using a4 q) c; simpa using this
    · rfl
  · split
    · rename_i c; have := part 8 6 5 (fun q => by simpa using a8 q) c; simpa using this
    · rfl
  · split
    · rename_i c; have := part 16 0 16 (fun q => by simpa using a16 q) c; simpa using this
    · split
      · rename_i c; have := part 32 0 26 (fun q => by simpa using a32 q) c; simpa using this
      · rfl

end Go.Proofs.YtppikpjmlbaccaaDoor.Am
