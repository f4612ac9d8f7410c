/- Chapter 3 as plain functions: instructions and words. No program in sight. The small functions of package decode at each number, printed by wip/am/gen3b.py. Conditions: none. Package decode over the abstract machine. Conditions: instructions are plain data. de -/
import Derived.Test.YtkiggdgphbkneaaGreatTopRefillsX21
namespace Go.Proofs.YtkiggdgphbkneaaGreat.Am
set_option linter.unusedVariables false
set_option linter.unusedSimpArgs false
set_option maxRecDepth 100000
structure In where
 k : Int
 s : Int
 t : Int
 d : Int
 h : Int
 i : Int
deriving DecidableEq
def hasM (m q : Int) : Bool := bits .and .i64 m q != 0
def withS (k w : Int) : In := ⟨k, if hasM (fl k) 1 = true then w / 2097152 % 32 else 0, if hasM (fl k) 2 = true then w / 65536 % 32 else 0, if hasM (fl k) 4 = true then w / 2048 % 32 else 0, if hasM (fl k) 8 = true then w / 64 % 32 else 0,
 if hasM (fl k) 16 = true then w % 65536 else if hasM (fl k) 32 = true then w % 67108864 else 0⟩
def subOf (w : Int) : Int :=
 if w / 67108864 = 0 ∨ w / 67108864 = 28 then w % 64
 else if w / 67108864 = 1 then w / 65536 % 32
 else if w / 67108864 = 16 then if w / 2097152 % 32 = 16 then 64 + w % 64 else w / 2097152 % 32
 else 0
def kindOf (w : Int) : Int := kt (w / 67108864) (subOf w)
def ofS (w : Int) : In := withS (kindOf w) w
abbrev orI (x y : Int) : Int := bits .or .u32 x y
def putS_K (x : In) : Int := orI (orI (orI (orI (IntKind.wrap .u32 (IntKind.wrap .u32 x.s * 2097152)) (IntKind.wrap .u32 (IntKind.wrap .u32 x.t * 65536))) (IntKind.wrap .u32 (IntKind.wrap .u32 x.d * 2048))) (IntKind.wrap .u32 (IntKind.wrap .u32 x.h * 64))) x.i
def headS (k : Int) : Int := HDT.getD k.toNat 0
def five (n : Int) : Bool := decide (0 ≤ n) && decide (n ≤ 31)
def rightS (x : In) : Bool := five x.s && five x.t && five x.d && five x.h && decide (0 < x.k) && decide (x.k < 78) && decide (x.i ≤ 67108863) && decide (withS x.k (putS_K x) = x)
def wordS (x : In) : Int × Bool := if rightS x = true then (orI (headS x.k) (putS_K x), true) else (0, false)
def most (f : Int) : Int := if hasM f 16 = true then 65535 else if hasM f 32 = true then 67108863 else 0
structure OK (x : In) : Prop where
 k0 : 0 < x.k
 k1 : x.k < 78
 s0 : 0 ≤ x.s
 s1 : x.s < 32
 s2 : hasM (fl x.k) 1 = false → x.s = 0
 t0 : 0 ≤ x.t
 t1 : x.t < 32
 t2 : hasM (fl x.k) 2 = false → x.t = 0
 d0 : 0 ≤ x.d
 d1 : x.d < 32
 d2 : hasM (fl x.k) 4 = false → x.d = 0
 h0 : 0 ≤ x.h
 h1 : x.h < 32
 h2 : hasM (fl x.k) 8 = false → x.h = 0
 i0 : 0 ≤ x.i
 i1 : x.i ≤ most (fl x.k)
theorem orI_nat {x y : Int} (hx : 0 ≤ x ∧ x < 4294967296) (hy : 0 ≤ y ∧ y < 4294967296) : orI x y = ((x.toNat ||| y.toNat : Nat) : Int) := by
 unfold orI
 rw [or_bv, BitVec.toNat_or]
 have h1 := bv_toInt hx.1 hx.2
 have h2 := bv_toInt hy.1 hy.2
 rw [show (bv x).toNat = x.toNat by omega, show (bv y).toNat = y.toNat by omega]
theorem orI_rng (x y : Int) : 0 ≤ orI x y ∧ orI x y < 4294967296 := or_rng x y
theorem orI_ext {x y : Int} (hx : 0 ≤ x ∧ x < 4294967296) (hy : 0 ≤ y ∧ y < 4294967296) (a b : Nat) : orI x y / ((2 ^ a : Nat) : Int) % ((2 ^ b : Nat) : Int) = orI (x / ((2 ^ a : Nat) : Int) % ((2 ^ b : Nat) : Int)) (y / ((2 ^ a : Nat) : Int) % ((2 ^ b : Nat) : Int)) := by
 obtain ⟨m, rfl⟩ : ∃ m : Nat, x = m := ⟨x.toNat, by omega⟩
 obtain ⟨n, rfl⟩ : ∃ n : Nat, y = n := ⟨y.toNat, by omega⟩
 have hm : m < 4294967296 := by omega
 have hn : n < 4294967296 := by omega
 have e1 : ((m : Int) / ((2 ^ a : Nat) : Int) % ((2 ^ b : Nat) : Int)) = ((m / 2 ^ a % 2 ^ b : Nat) : Int) := by push_cast; rfl
 have e2 : ((n : Int) / ((2 ^ a : Nat) : Int) % ((2 ^ b : Nat) : Int)) = ((n / 2 ^ a % 2 ^ b : Nat) : Int) := by push_cast; rfl
 have l1 : m / 2 ^ a % 2 ^ b ≤ m := Nat.le_trans (Nat.mod_le _ _) (Nat.div_le_self _ _)
 have l2 : n / 2 ^ a % 2 ^ b ≤ n := Nat.le_trans (Nat.mod_le _ _) (Nat.div_le_self _ _)
 rw [e1, e2, orI_nat hx hy, orI_nat ⟨by omega, by omega⟩ ⟨by omega, by omega⟩]
 simp only [Int.toNat_natCast]
 rw [← Nat.or_mod_two_pow, ← Nat.or_div_two_pow]
 push_cast; rfl
theorem orI_0r {x : Int} (hx : 0 ≤ x ∧ x < 4294967296) : orI x 0 = x := by
 rw [orI_nat hx (by omega)]; simp; omega
theorem orI_0l {x : Int} (hx : 0 ≤ x ∧ x < 4294967296) : orI 0 x = x := by
 rw [orI_nat (by omega) hx]; simp; omega
theorem orI_comm (x y : Int) : orI x y = orI y x := by unfold orI; rw [or_bv, or_bv, BitVec.or_comm]
theorem orI_assoc (x y z : Int) : orI (orI x y) z = orI x (orI y z) := by unfold orI; rw [or_bv, or_bv, or_bv, or_bv, bv_back, bv_back, BitVec.or_assoc]
theorem fl_shape : ∀ n, n < 78 → (hasM (FLT.getD n 0) 16 = true → hasM (FLT.getD n 0) 4 = false ∧ hasM (FLT.getD n 0) 8 = false ∧ hasM (FLT.getD n 0) 32 = false) ∧
  (hasM (FLT.getD n 0) 32 = true → hasM (FLT.getD n 0) 1 = false ∧ hasM (FLT.getD n 0) 2 = false ∧ hasM (FLT.getD n 0) 4 = false ∧ hasM (FLT.getD n 0) 8 = false ∧ hasM (FLT.getD n 0) 16 = false) := by decide +kernel
structure Fields (x : In) (w : Int) : Prop where
 r : 0 ≤ w ∧ w < 4294967296
 o : w / 67108864 = 0
 s : hasM (fl x.k) 32 = false → w / 2097152 % 32 = x.s
 t : hasM (fl x.k) 32 = false → w / 65536 % 32 = x.t
 d : hasM (fl x.k) 16 = false → hasM (fl x.k) 32 = false → w / 2048 % 32 = x.d
 h : hasM (fl x.k) 16 = false → hasM (fl x.k) 32 = false → w / 64 % 32 = x.h
 f : hasM (fl x.k) 16 = false → hasM (fl x.k) 32 = false → w % 64 = 0
 i : hasM (fl x.k) 16 = true → w % 65536 = x.i
 j : hasM (fl x.k) 32 = true → w % 67108864 = x.i
theorem fl_sh (k : Int) (h0 : 0 ≤ k) (h1 : k < 78) : (hasM (fl k) 16 = true → hasM (fl k) 4 = false ∧ hasM (fl k) 8 = false ∧ hasM (fl k) 32 = false) ∧
  (hasM (fl k) 32 = true → hasM (fl k) 1 = false ∧ hasM (fl k) 2 = false ∧ hasM (fl k) 4 = false ∧ hasM (fl k) 8 = false ∧ hasM (fl k) 16 = false) := fl_shape k.toNat (by omega)
theorem most_rng (f : Int) : most f ≤ 67108863 := by unfold most; split; omega; split <;> omega
theorem most_0 {f : Int} (h : hasM f 16 = false) (h2 : hasM f 32 = false) : most f = 0 := by unfold most; rw [h, h2]; rfl
theorem most_h {f : Int} (h : hasM f 16 = true) : most f = 65535 := by unfold most; rw [h]; rfl
theorem most_l {f : Int} (h : hasM f 16 = false) (h2 : hasM f 32 = true) : most f = 67108863 := by unfold most; rw [h, h2]; rfl
theorem put_fields {x : In} (h : OK x) : hasM (fl x.k) 32 = false → Fields x (putS_K x) := by
 intro h32
 obtain ⟨k0, k1, s0, s1, s2, t0, t1, t2, d0, d1, d2, h0, h1, h2, i0, i1⟩ := h
 have shape := (fl_sh x.k (by omega) k1).1
 have hi : x.i < 65536 := by
  cases h16 : hasM (fl x.k) 16 with
  | true => rw [most_h h16] at i1; omega
  | false => rw [most_0 h16 h32] at i1; omega
 unfold putS_K
 rw [wrap32, wrap32, wrap32, wrap32, wrap32, wrap32, wrap32, wrap32]
 rw [show x.s % 4294967296 * 2097152 % 4294967296 = x.s * 2097152 by omega, show x.t % 4294967296 * 65536 % 4294967296 = x.t * 65536 by omega, show x.d % 4294967296 * 2048 % 4294967296 = x.d * 2048 by omega, show x.h % 4294967296 * 64 % 4294967296 = x.h * 64 by omega]
 have ext := fun (a b : Nat) => (show orI (orI (orI (orI (x.s * 2097152) (x.t * 65536)) (x.d * 2048)) (x.h * 64)) x.i / ((2 ^ a : Nat) : Int) % ((2 ^ b : Nat) : Int) = _ from by
  rw [orI_ext (orI_rng _ _) (by omega), orI_ext (orI_rng _ _) (by omega), orI_ext (orI_rng _ _) (by omega), orI_ext (by omega) (by omega)])
 have r := orI_rng (orI (orI (orI (x.s * 2097152) (x.t * 65536)) (x.d * 2048)) (x.h * 64)) x.i
 have z5 : ∀ {u : Int}, 0 ≤ u → u < 4294967296 → orI (orI (orI (orI u 0) 0) 0) 0 = u := fun a b => by rw [orI_0r (orI_rng _ _), orI_0r (orI_rng _ _), orI_0r (orI_rng _ _), orI_0r ⟨a, b⟩]
 have z0 : orI 0 0 = 0 := by decide
 refine ⟨r, ?_, ?_, ?_, ?_, ?_, ?_, ?_, ?_⟩
 ·have e := ext 26 6
  simp only [Nat.reducePow] at e
  rw [show x.s * 2097152 / ((67108864 : Nat) : Int) % ((64 : Nat) : Int) = 0 by omega, show x.t * 65536 / ((67108864 : Nat) : Int) % ((64 : Nat) : Int) = 0 by omega, show x.d * 2048 / ((67108864 : Nat) : Int) % ((64 : Nat) : Int) = 0 by omega, show x.h * 64 / ((67108864 : Nat) : Int) % ((64 : Nat) : Int) = 0 by omega, show x.i / ((67108864 : Nat) : Int) % ((64 : Nat) : Int) = 0 by omega, z0, z0, z0, z0] at e
  omega
 ·intro _
  have e := ext 21 5
  simp only [Nat.reducePow] at e
  rw [show x.s * 2097152 / ((2097152 : Nat) : Int) % ((32 : Nat) : Int) = x.s by omega, show x.t * 65536 / ((2097152 : Nat) : Int) % ((32 : Nat) : Int) = 0 by omega, show x.d * 2048 / ((2097152 : Nat) : Int) % ((32 : Nat) : Int) = 0 by omega, show x.h * 64 / ((2097152 : Nat) : Int) % ((32 : Nat) : Int) = 0 by omega, show x.i / ((2097152 : Nat) : Int) % ((32 : Nat) : Int) = 0 by omega, z5 s0 (by omega)] at e
  omega
 ·intro _
  have e := ext 16 5
  simp only [Nat.reducePow] at e
  rw [show x.s * 2097152 / ((65536 : Nat) : Int) % ((32 : Nat) : Int) = 0 by omega, show x.t * 65536 / ((65536 : Nat) : Int) % ((32 : Nat) : Int) = x.t by omega, show x.d * 2048 / ((65536 : Nat) : Int) % ((32 : Nat) : Int) = 0 by omega, show x.h * 64 / ((65536 : Nat) : Int) % ((32 : Nat) : Int) = 0 by omega, show x.i / ((65536 : Nat) : Int) % ((32 : Nat) : Int) = 0 by omega, orI_0r (orI_rng _ _), orI_0r (orI_rng _ _), orI_0r (orI_rng _ _), orI_0l (by omega)] at e
  omega
 ·intro h16 _
  have hz : x.i = 0 := by rw [most_0 h16 h32] at i1; omega
  have e := ext 11 5
  simp only [Nat.reducePow] at e
  rw [show x.s * 2097152 / ((2048 : Nat) : Int) % ((32 : Nat) : Int) = 0 by omega, show x.t * 65536 / ((2048 : Nat) : Int) % ((32 : Nat) : Int) = 0 by omega, show x.d * 2048 / ((2048 : Nat) : Int) % ((32 : Nat) : Int) = x.d by omega, show x.h * 64 / ((2048 : Nat) : Int) % ((32 : Nat) : Int) = 0 by omega, show x.i / ((2048 : Nat) : Int) % ((32 : Nat) : Int) = 0 by omega, z0, orI_0r (orI_rng _ _), orI_0r (orI_rng _ _), orI_0l (by omega)] at e
  omega
 ·intro h16 _
  have hz : x.i = 0 := by rw [most_0 h16 h32] at i1; omega
  have e := ext 6 5
  simp only [Nat.reducePow] at e
  rw [show x.s * 2097152 / ((64 : Nat) : Int) % ((32 : Nat) : Int) = 0 by omega, show x.t * 65536 / ((64 : Nat) : Int) % ((32 : Nat) : Int) = 0 by omega, show x.d * 2048 / ((64 : Nat) : Int) % ((32 : Nat) : Int) = 0 by omega, show x.h * 64 / ((64 : Nat) : Int) % ((32 : Nat) : Int) = x.h by omega, show x.i / ((64 : Nat) : Int) % ((32 : Nat) : Int) = 0 by omega, z0, z0, orI_0r (orI_rng _ _), orI_0l (by omega)] at e
  omega
 ·intro h16 _
  have hz : x.i = 0 := by rw [most_0 h16 h32] at i1; omega
  have e := ext 0 6
  simp only [Nat.reducePow] at e
  rw [show x.s * 2097152 / ((1 : Nat) : Int) % ((64 : Nat) : Int) = 0 by omega, show x.t * 65536 / ((1 : Nat) : Int) % ((64 : Nat) : Int) = 0 by omega, show x.d * 2048 / ((1 : Nat) : Int) % ((64 : Nat) : Int) = 0 by omega, show x.h * 64 / ((1 : Nat) : Int) % ((64 : Nat) : Int) = 0 by omega, show x.i / ((1 : Nat) : Int) % ((64 : Nat) : Int) = 0 by omega, z0, z0, z0, z0] at e
  omega
 ·intro h16
  obtain ⟨q1, q2, _⟩ := shape h16
  have hd := d2 q1
  have hh := h2 q2
  have e := ext 0 16
  simp only [Nat.reducePow] at e
  rw [show x.s * 2097152 / ((1 : Nat) : Int) % ((65536 : Nat) : Int) = 0 by omega, show x.t * 65536 / ((1 : Nat) : Int) % ((65536 : Nat) : Int) = 0 by omega, show x.d * 2048 / ((1 : Nat) : Int) % ((65536 : Nat) : Int) = 0 by omega, show x.h * 64 / ((1 : Nat) : Int) % ((65536 : Nat) : Int) = 0 by omega, show x.i / ((1 : Nat) : Int) % ((65536 : Nat) : Int) = x.i by omega, z0, z0, z0, orI_0l (by omega)] at e
  omega
 ·intro q; rw [h32] at q; cases q
theorem put_fields_j {x : In} (h : OK x) (h32 : hasM (fl x.k) 32 = true) : putS_K x = x.i ∧ x.s = 0 ∧ x.t = 0 ∧ x.d = 0 ∧ x.h = 0 ∧ x.i < 67108864 := by
 obtain ⟨k0, k1, s0, s1, s2, t0, t1, t2, d0, d1, d2, h0, h1, h2, i0, i1⟩ := h
 have shape := (fl_sh x.k (by omega) k1).2 h32
 obtain ⟨q1, q2, q3, q4, q5⟩ := shape
 have hs := s2 q1
 have ht := t2 q2
 have hd := d2 q3
 have hh := h2 q4
 have hi : x.i < 67108864 := by rw [most_l q5 h32] at i1; omega
 refine ⟨?_, hs, ht, hd, hh, hi⟩
 unfold putS_K
 rw [hs, ht, hd, hh]
 rw [show orI (orI (orI (IntKind.wrap .u32 (IntKind.wrap .u32 0 * 2097152)) (IntKind.wrap .u32 (IntKind.wrap .u32 0 * 65536))) (IntKind.wrap .u32 (IntKind.wrap .u32 0 * 2048))) (IntKind.wrap .u32 (IntKind.wrap .u32 0 * 64)) = 0 by decide]
 exact orI_0l (by omega)
theorem put_all {x : In} (h : OK x) : Fields x (putS_K x) := by
 cases h32 : hasM (fl x.k) 32 with
 | false => exact put_fields h h32
 | true =>
  obtain ⟨e, hs, ht, hd, hh, hi⟩ := put_fields_j h h32
  have i0 := h.i0
  have q5 := ((fl_sh x.k (by have := h.k0; omega) h.k1).2 h32).2.2.2.2
  rw [e]
  refine ⟨⟨i0, by omega⟩, by omega, fun q => ?_, fun q => ?_, fun _ q => ?_, fun _ q => ?_, fun _ q => ?_, fun q => ?_, fun _ => by omega⟩
  ·rw [h32] at q; cases q
  ·rw [h32] at q; cases q
  ·rw [h32] at q; cases q
  ·rw [h32] at q; cases q
  ·rw [h32] at q; cases q
  ·rw [q5] at q; cases q
theorem right_iff (x : In) (hi : 0 ≤ x.i) : rightS x = true ↔ OK x := by
 constructor
 ·intro h
  unfold rightS five at h
  simp only [Bool.and_eq_true, decide_eq_true_eq] at h
  obtain ⟨⟨⟨⟨⟨⟨⟨⟨s0, s1⟩, ⟨t0, t1⟩⟩, ⟨d0, d1⟩⟩, ⟨h0, h1⟩⟩, k0⟩, k1⟩, i1⟩, e⟩ := h
  have es := congrArg In.s e
  have et := congrArg In.t e
  have ed := congrArg In.d e
  have eh := congrArg In.h e
  have ei := congrArg In.i e
  unfold withS at es et ed eh ei
  dsimp only at es et ed eh ei
  refine ⟨k0, k1, s0, by omega, fun q => ?_, t0, by omega, fun q => ?_, d0, by omega, fun q => ?_, h0, by omega, fun q => ?_, hi, ?_⟩
  ·rw [if_neg (by rw [q]; simp)] at es; exact es.symm
  ·rw [if_neg (by rw [q]; simp)] at et; exact et.symm
  ·rw [if_neg (by rw [q]; simp)] at ed; exact ed.symm
  ·rw [if_neg (by rw [q]; simp)] at eh; exact eh.symm
  ·cases h16 : hasM (fl x.k) 16 with
   | true => rw [most_h h16]; rw [if_pos h16] at ei; omega
   | false =>
    cases h32 : hasM (fl x.k) 32 with
    | true => rw [most_l h16 h32]; exact i1
    | false => rw [most_0 h16 h32]; rw [if_neg (by rw [h16]; simp), if_neg (by rw [h32]; simp)] at ei; omega
 ·intro h
  have F := put_all h
  have sh := fl_sh x.k (by have := h.k0; omega) h.k1
  unfold rightS five
  simp only [Bool.and_eq_true, decide_eq_true_eq]
  have := most_rng (fl x.k)
  have := h.i1
  refine ⟨⟨⟨⟨⟨⟨⟨⟨h.s0, by have := h.s1; omega⟩, ⟨h.t0, by have := h.t1; omega⟩⟩, ⟨h.d0, by have := h.d1; omega⟩⟩, ⟨h.h0, by have := h.h1; omega⟩⟩, h.k0⟩, h.k1⟩, by omega⟩, ?_⟩
  unfold withS
  have n32 : ∀ {q : Int}, hasM (fl x.k) q = true → (hasM (fl x.k) 32 = true → hasM (fl x.k) q = false) → hasM (fl x.k) 32 = false := fun a b => by
   cases c : hasM (fl x.k) 32 with
   | false => rfl
   | true => rw [b c] at a; cases a
  have n16 : ∀ {q : Int}, hasM (fl x.k) q = true → (hasM (fl x.k) 16 = true → hasM (fl x.k) q = false) → hasM (fl x.k) 16 = false := fun a b => by
   cases c : hasM (fl x.k) 16 with
   | false => rfl
   | true => rw [b c] at a; cases a
  have es : (if hasM (fl x.k) 1 = true then putS_K x / 2097152 % 32 else 0) = x.s := by
   cases c : hasM (fl x.k) 1 with
   | true => rw [if_pos rfl]; exact F.s (n32 c fun q => (sh.2 q).1)
   | false => rw [if_neg (by simp)]; exact (h.s2 c).symm
  have et : (if hasM (fl x.k) 2 = true then putS_K x / 65536 % 32 else 0) = x.t := by
   cases c : hasM (fl x.k) 2 with
   | true => rw [if_pos rfl]; exact F.t (n32 c fun q => (sh.2 q).2.1)
   | false => rw [if_neg (by simp)]; exact (h.t2 c).symm
  have ed : (if hasM (fl x.k) 4 = true then putS_K x / 2048 % 32 else 0) = x.d := by
   cases c : hasM (fl x.k) 4 with
   | true => rw [if_pos rfl]; exact F.d (n16 c fun q => (sh.1 q).1) (n32 c fun q => (sh.2 q).2.2.1)
   | false => rw [if_neg (by simp)]; exact (h.d2 c).symm
  have eh : (if hasM (fl x.k) 8 = true then putS_K x / 64 % 32 else 0) = x.h := by
   cases c : hasM (fl x.k) 8 with
   | true => rw [if_pos rfl]; exact F.h (n16 c fun q => (sh.1 q).2.1) (n32 c fun q => (sh.2 q).2.2.2.1)
   | false => rw [if_neg (by simp)]; exact (h.h2 c).symm
  have ei : (if hasM (fl x.k) 16 = true then putS_K x % 65536 else if hasM (fl x.k) 32 = true then putS_K x % 67108864 else 0) = x.i := by
   cases c : hasM (fl x.k) 16 with
   | true => rw [if_pos rfl]; exact F.i c
   | false =>
    rw [if_neg (by simp)]
    cases c2 : hasM (fl x.k) 32 with
    | true => rw [if_pos rfl]; exact F.j c2
    | false => rw [if_neg (by simp)]; have := h.i1; have := h.i0; rw [most_0 c c2] at *; omega
  rw [es, et, ed, eh, ei]
set_option synthInstance.maxHeartbeats 400000 in
set_option synthInstance.maxSize 4000 in
theorem hd_tab : ∀ n, n < 78 → 0 < n → (0 ≤ HDT.getD n 0 ∧ HDT.getD n 0 < 4294967296) ∧ kindOf (HDT.getD n 0) = n ∧
  (hasM (FLT.getD n 0) 1 = true → HDT.getD n 0 / 2097152 % 32 = 0) ∧ (hasM (FLT.getD n 0) 2 = true → HDT.getD n 0 / 65536 % 32 = 0) ∧ (hasM (FLT.getD n 0) 4 = true → HDT.getD n 0 / 2048 % 32 = 0) ∧ (hasM (FLT.getD n 0) 8 = true → HDT.getD n 0 / 64 % 32 = 0) ∧
  (hasM (FLT.getD n 0) 16 = true → HDT.getD n 0 % 65536 = 0) ∧ (hasM (FLT.getD n 0) 32 = true → HDT.getD n 0 % 67108864 = 0) := by decide +kernel
set_option synthInstance.maxHeartbeats 400000 in
set_option synthInstance.maxSize 4000 in
theorem hd_tab2 : ∀ n, n < 78 → 0 < n →
  ((HDT.getD n 0 / 67108864 = 0 ∨ HDT.getD n 0 / 67108864 = 28) → hasM (FLT.getD n 0) 16 = false ∧ hasM (FLT.getD n 0) 32 = false) ∧
  (HDT.getD n 0 / 67108864 = 1 → hasM (FLT.getD n 0) 2 = false ∧ hasM (FLT.getD n 0) 32 = false) ∧
  (HDT.getD n 0 / 67108864 = 16 → hasM (FLT.getD n 0) 1 = false ∧ hasM (FLT.getD n 0) 16 = false ∧ hasM (FLT.getD n 0) 32 = false) := by decide +kernel
theorem of_word {x : In} (h : OK x) : ofS (orI (headS x.k) (putS_K x)) = x := by
 have F := put_all h
 have k0 := h.k0
 have k1 := h.k1
 have sh := fl_sh x.k (by omega) k1
 have T := hd_tab x.k.toNat (by omega) (by omega)
 have T2 := hd_tab2 x.k.toNat (by omega) (by omega)
 have ek : ((x.k.toNat : Nat) : Int) = x.k := by omega
 have eh : HDT.getD x.k.toNat 0 = headS x.k := rfl
 have ef : FLT.getD x.k.toNat 0 = fl x.k := rfl
 rw [eh, ef, ek] at T
 rw [eh, ef] at T2
 generalize headS x.k = H at T T2 ⊢
 obtain ⟨hr, hk, a1, a2, a4, a8, a16, a32⟩ := T
 obtain ⟨b0, b1, b16⟩ := T2
 have Pr := F.r
 have ext := fun a b => orI_ext hr Pr a b
 have er := orI_rng H (putS_K x)
 -- the parts of the word
 have eo : orI H (putS_K x) / 67108864 = H / 67108864 := by
  have e := ext 26 6
  simp only [Nat.reducePow] at e
  have o := F.o
  rw [show putS_K x / ((67108864 : Nat) : Int) % ((64 : Nat) : Int) = 0 by omega, orI_0r (by omega)] at e
  omega
 have ef6 : hasM (fl x.k) 16 = false → hasM (fl x.k) 32 = false → orI H (putS_K x) % 64 = H % 64 := fun p q => by
  have e := ext 0 6
  simp only [Nat.reducePow] at e
  have o := F.f p q
  rw [show putS_K x / ((1 : Nat) : Int) % ((64 : Nat) : Int) = 0 by omega, orI_0r (by omega)] at e
  omega
 have et0 : hasM (fl x.k) 2 = false → hasM (fl x.k) 32 = false → orI H (putS_K x) / 65536 % 32 = H / 65536 % 32 := fun p q => by
  have e := ext 16 5
  simp only [Nat.reducePow] at e
  have o := F.t q
  rw [h.t2 p] at o
  rw [show putS_K x / ((65536 : Nat) : Int) % ((32 : Nat) : Int) = 0 by omega, orI_0r (by omega)] at e
  omega
 have es0 : hasM (fl x.k) 1 = false → hasM (fl x.k) 32 = false → orI H (putS_K x) / 2097152 % 32 = H / 2097152 % 32 := fun p q => by
  have e := ext 21 5
  simp only [Nat.reducePow] at e
  have o := F.s q
  rw [h.s2 p] at o
  rw [show putS_K x / ((2097152 : Nat) : Int) % ((32 : Nat) : Int) = 0 by omega, orI_0r (by omega)] at e
  omega
 have esub : subOf (orI H (putS_K x)) = subOf H := by
  unfold subOf
  rw [eo]
  by_cases c0 : H / 67108864 = 0 ∨ H / 67108864 = 28
  ·rw [if_pos c0, if_pos c0]; exact ef6 (b0 c0).1 (b0 c0).2
  ·rw [if_neg c0, if_neg c0]
   by_cases c1 : H / 67108864 = 1
   ·rw [if_pos c1, if_pos c1]; exact et0 (b1 c1).1 (b1 c1).2
   ·rw [if_neg c1, if_neg c1]
    by_cases c2 : H / 67108864 = 16
    ·rw [if_pos c2, if_pos c2, es0 (b16 c2).1 (b16 c2).2.2, ef6 (b16 c2).2.1 (b16 c2).2.2]
    ·rw [if_neg c2, if_neg c2]
 have ekd : kindOf (orI H (putS_K x)) = x.k := by
  unfold kindOf at hk ⊢; rw [eo, esub]; exact hk
 have R := (right_iff x h.i0).2 h
 have W : withS x.k (putS_K x) = x := by
  unfold rightS at R; simp only [Bool.and_eq_true, decide_eq_true_eq] at R; exact R.2
 unfold ofS
 rw [ekd]
 refine Eq.trans ?_ W
 unfold withS
 have part : ∀ (q : Int) (a b : Nat), (hasM (fl x.k) q = true → H / ((2 ^ a : Nat) : Int) % ((2 ^ b : Nat) : Int) = 0) → hasM (fl x.k) q = true → orI H (putS_K x) / ((2 ^ a : Nat) : Int) % ((2 ^ b : Nat) : Int) = putS_K x / ((2 ^ a : Nat) : Int) % ((2 ^ b : Nat) : Int) := fun q a b z c => by
  rw [ext, z c]
  have e1 : ∃ n : Nat, putS_K x = n := ⟨(putS_K x).toNat, by omega⟩
  obtain ⟨n, e1⟩ := e1
  have l2 : n / 2 ^ a % 2 ^ b ≤ n := Nat.le_trans (Nat.mod_le _ _) (Nat.div_le_self _ _)
  have e2 : putS_K x / ((2 ^ a : Nat) : Int) % ((2 ^ b : Nat) : Int) = ((n / 2 ^ a % 2 ^ b : Nat) : Int) := by rw [e1]; push_cast; rfl
  rw [e2]
  exact orI_0l (by omega)
 congr 1
 ·split
  ·rename_i c; have := part 1 21 5 (fun q => by simpa using a1 q) c; simpa using this
  ·rfl
 ·split
  ·rename_i c; have := part 2 16 5 (fun q => by simpa using a2 q) c; simpa using this
  ·rfl
 ·split
  ·rename_i c; have := part 4 11 5 (fun q => by simpa using a4 q) c; simpa using this
  ·rfl
 ·split
  ·rename_i c; have := part 8 6 5 (fun q => by simpa using a8 q) c; simpa using this
  ·rfl
 ·split
  ·rename_i c; have := part 16 0 16 (fun q => by simpa using a16 q) c; simpa using this
  ·split
   ·rename_i c; have := part 32 0 26 (fun q => by simpa using a32 q) c; simpa using this
   ·rfl
theorem fields_at {m : Mem} {k : Int → Mem → Prop} : ∀ n : Nat, n < 78 → k (FLT.getD n 0) m → F156 n m k := by
 intro n hn hk
 iterate 78
  rcases n with _ | n
  ·(repeat (first | refine kif_t (by decide) ?_ | refine kif_f (by decide) ?_ | refine ⟨Keeps.self _, ?_⟩)); exact hk
 omega
theorem special_at {m : Mem} {k : Int → Mem → Prop} : ∀ n : Nat, n < 64 → k (KT0.getD n 0) m → F157 n m k := by
 intro n hn hk
 iterate 64
  rcases n with _ | n
  ·(repeat (first | refine kif_t (by decide) ?_ | refine kif_f (by decide) ?_ | refine ⟨Keeps.self _, ?_⟩)); exact hk
 omega
theorem regimm_at {m : Mem} {k : Int → Mem → Prop} : ∀ n : Nat, n < 32 → k (KT1.getD n 0) m → F158 n m k := by
 intro n hn hk
 iterate 32
  rcases n with _ | n
  ·(repeat (first | refine kif_t (by decide) ?_ | refine kif_f (by decide) ?_ | refine ⟨Keeps.self _, ?_⟩)); exact hk
 omega
theorem table_at {m : Mem} {k : Int → Mem → Prop} : ∀ n : Nat, n < 64 → k (KT16f.getD n 0) m → F196 n m k := by
 intro n hn hk
 iterate 64
  rcases n with _ | n
  ·(repeat (first | refine kif_t (by decide) ?_ | refine kif_f (by decide) ?_ | refine ⟨Keeps.self _, ?_⟩)); exact hk
 omega
theorem special2_at {m : Mem} {k : Int → Mem → Prop} : ∀ n : Nat, n < 64 → k (KT28.getD n 0) m → F160 n m k := by
 intro n hn hk
 iterate 64
  rcases n with _ | n
  ·(repeat (first | refine kif_t (by decide) ?_ | refine kif_f (by decide) ?_ | refine ⟨Keeps.self _, ?_⟩)); exact hk
 omega
theorem major_at {m : Mem} {k : Int → Mem → Prop} : ∀ n : Nat, n < 64 → k (KTM.getD n 0) m → F161 n m k := by
 intro n hn hk
 iterate 64
  rcases n with _ | n
  ·(repeat (first | refine kif_t (by decide) ?_ | refine kif_f (by decide) ?_ | refine ⟨Keeps.self _, ?_⟩)); exact hk
 omega
def InC (c : Nat → AV) (x : In) : Prop := c 0 = .flat (.int .i64 x.k) ∧ c 1 = .flat (.int .i64 x.s) ∧ c 2 = .flat (.int .i64 x.t) ∧ c 3 = .flat (.int .i64 x.d) ∧ c 4 = .flat (.int .i64 x.h) ∧ c 5 = .flat (.int .u32 x.i)
def InB (m : Mem) (b : Nat) (x : In) : Prop := ∃ y, m.obj b = some y ∧ y.n = 6 ∧ y.ro = false ∧ InC y.c x
section
variable {m m' : Mem} {b b' : Nat} {x y : In} {c d : Nat → AV}
theorem InB.keep (h : InB m b x) (K : Keeps m m') : InB m' b x := by
 obtain ⟨z, e, r⟩ := h; exact ⟨z, by rw [K b (by rw [e]; simp)]; exact e, r⟩
theorem InB.only (h : InB m b x) (O : Only m b' m') (hne : b ≠ b') : InB m' b x := by
 obtain ⟨z, e, r⟩ := h; exact ⟨z, by rw [O b hne]; exact e, r⟩
theorem InB.live (h : InB m b x) : m.obj b ≠ none := by obtain ⟨z, e, r⟩ := h; rw [e]; simp
theorem InB.l0 (h : InB m b x) (k : Int → Prop) : ldI .i64 m b 0 k = k x.k := by obtain ⟨z, e, n, r, h0, h1, h2, h3, h4, h5⟩ := h; exact ldI_of e (by omega) h0
theorem InB.l1 (h : InB m b x) (k : Int → Prop) : ldI .i64 m b 1 k = k x.s := by obtain ⟨z, e, n, r, h0, h1, h2, h3, h4, h5⟩ := h; exact ldI_of e (by omega) h1
theorem InB.l2 (h : InB m b x) (k : Int → Prop) : ldI .i64 m b 2 k = k x.t := by obtain ⟨z, e, n, r, h0, h1, h2, h3, h4, h5⟩ := h; exact ldI_of e (by omega) h2
theorem InB.l3 (h : InB m b x) (k : Int → Prop) : ldI .i64 m b 3 k = k x.d := by obtain ⟨z, e, n, r, h0, h1, h2, h3, h4, h5⟩ := h; exact ldI_of e (by omega) h3
theorem InB.l4 (h : InB m b x) (k : Int → Prop) : ldI .i64 m b 4 k = k x.h := by obtain ⟨z, e, n, r, h0, h1, h2, h3, h4, h5⟩ := h; exact ldI_of e (by omega) h4
theorem InB.l5 (h : InB m b x) (k : Int → Prop) : ldI .u32 m b 5 k = k x.i := by obtain ⟨z, e, n, r, h0, h1, h2, h3, h4, h5⟩ := h; exact ldI_of e (by omega) h5
theorem InB.lg (h : InB m b x) {k : (Nat → AV) → Prop} (hk : ∀ c, InC c x → k c) : ldG 6 m b 0 k := by
 obtain ⟨z, e, n, r, h⟩ := h
 rw [ldG_of e (by omega)]
 exact hk _ h
theorem InB.st {o : Nat} {v : AV} (h : InB m b x) (ho : o < 6) (hy : ∀ z, InC z x → InC (upd z o v) y) {k : Mem → Prop} (hk : ∀ m', InB m' b y → Only m b m' → k m') : stC m b o v k := by
 obtain ⟨z, e, n, r, h⟩ := h
 rw [stC_of e r (by omega)]
 exact hk _ ⟨_, set_same _ _ _, n, r, hy _ h⟩ (Only.set _ _ _)
theorem InB.s1 (h : InB m b x) {v : Int} {k : Mem → Prop} (hk : ∀ m', InB m' b { x with s := v } → Only m b m' → k m') : stC m b 1 (.flat (.int .i64 v)) k := InB.st (y := { x with s := v }) (v := .flat (.int .i64 v)) (o := 1) h (by omega) (fun z h => ⟨h.1, rfl, h.2.2.1, h.2.2.2.1, h.2.2.2.2.1, h.2.2.2.2.2⟩) hk
theorem InB.s2 (h : InB m b x) {v : Int} {k : Mem → Prop} (hk : ∀ m', InB m' b { x with t := v } → Only m b m' → k m') : stC m b 2 (.flat (.int .i64 v)) k := InB.st (y := { x with t := v }) (v := .flat (.int .i64 v)) (o := 2) h (by omega) (fun z h => ⟨h.1, h.2.1, rfl, h.2.2.2.1, h.2.2.2.2.1, h.2.2.2.2.2⟩) hk
theorem InB.s3 (h : InB m b x) {v : Int} {k : Mem → Prop} (hk : ∀ m', InB m' b { x with d := v } → Only m b m' → k m') : stC m b 3 (.flat (.int .i64 v)) k := InB.st (y := { x with d := v }) (v := .flat (.int .i64 v)) (o := 3) h (by omega) (fun z h => ⟨h.1, h.2.1, h.2.2.1, rfl, h.2.2.2.2.1, h.2.2.2.2.2⟩) hk
theorem InB.s4 (h : InB m b x) {v : Int} {k : Mem → Prop} (hk : ∀ m', InB m' b { x with h := v } → Only m b m' → k m') : stC m b 4 (.flat (.int .i64 v)) k := InB.st (y := { x with h := v }) (v := .flat (.int .i64 v)) (o := 4) h (by omega) (fun z h => ⟨h.1, h.2.1, h.2.2.1, h.2.2.2.1, rfl, h.2.2.2.2.2⟩) hk
theorem InB.s5 (h : InB m b x) {v : Int} {k : Mem → Prop} (hk : ∀ m', InB m' b { x with i := v } → Only m b m' → k m') : stC m b 5 (.flat (.int .u32 v)) k := InB.st (y := { x with i := v }) (v := .flat (.int .u32 v)) (o := 5) h (by omega) (fun z h => ⟨h.1, h.2.1, h.2.2.1, h.2.2.2.1, h.2.2.2.2.1, rfl⟩) hk
theorem InB.sg (h : InB m b x) (hc : InC c y) {k : Mem → Prop} (hk : ∀ m', InB m' b y → Only m b m' → k m') : stG 6 m b 0 c k := by
 obtain ⟨z, e, n, r, h⟩ := h
 rw [stG_of e r (by omega)]
 exact hk _ ⟨_, set_same _ _ _, n, r, hc.1, hc.2.1, hc.2.2.1, hc.2.2.2.1, hc.2.2.2.2.1, hc.2.2.2.2.2⟩ (Only.set _ _ _)
theorem newI {t : TypeId} (hc : InC c x) {k : Nat → Mem → Prop} (hk : ∀ b m', m.obj b = none → Keeps m m' → InB m' b x → Only m b m' → k b m') : newK m ⟨6, c, t, false⟩ k :=
 newK_i fun b m1 hb K e O => hk b m1 hb K ⟨_, e, rfl, rfl, hc⟩ O
theorem newZ {t : TypeId} {z : Nat → AV} (hz : InC z ⟨0, 0, 0, 0, 0, 0⟩) {k : Nat → Mem → Prop} (hk : ∀ b m', m.obj b = none → Keeps m m' → InB m' b ⟨0, 0, 0, 0, 0, 0⟩ → Only m b m' → k b m') : newK m ⟨6, z, t, false⟩ k := newI hz hk
theorem newF {t : TypeId} {z : Nat → AV} (hc : InC c x) {k : Nat → Mem → Prop} (hk : ∀ b m', m.obj b = none → Keeps m m' → InB m' b x → k b m') : newK m ⟨6, z, t, false⟩ fun b m1 => stG 6 m1 b 0 c fun m2 => k b m2 :=
 boxN fun b m' y hb K ey hn hr hyc => hk b m' hb K ⟨y, ey, hn, hr, (hyc 0 (by omega)).trans hc.1, (hyc 1 (by omega)).trans hc.2.1, (hyc 2 (by omega)).trans hc.2.2.1, (hyc 3 (by omega)).trans hc.2.2.2.1, (hyc 4 (by omega)).trans hc.2.2.2.2.1, (hyc 5 (by omega)).trans hc.2.2.2.2.2⟩
theorem InC.inDom (h : InC c x) (m : Mem) : InDomG 6 m c := fun i hi => by
 obtain ⟨h0, h1, h2, h3, h4, h5⟩ := h
 have : i = 0 ∨ i = 1 ∨ i = 2 ∨ i = 3 ∨ i = 4 ∨ i = 5 := by omega
 rcases this with rfl | rfl | rfl | rfl | rfl | rfl
 ·rw [h0]; trivial
 ·rw [h1]; trivial
 ·rw [h2]; trivial
 ·rw [h3]; trivial
 ·rw [h4]; trivial
 ·rw [h5]; trivial
theorem z6_in : InC Z6 ⟨0, 0, 0, 0, 0, 0⟩ := ⟨rfl, rfl, rfl, rfl, rfl, rfl⟩
def inLeafs : List (Nat × LK) := [(0, .i .i64), (1, .i .i64), (2, .i .i64), (3, .i .i64), (4, .i .i64), (5, .i .u32)]
theorem geq_in (h : InC c x) (h' : InC d y) (ls : List (Nat × LK)) (hl : ls = inLeafs) (k : Bool → Prop) : geq ls c d k = k (decide (x = y)) := by
 subst hl
 obtain ⟨a0, a1, a2, a3, a4, a5⟩ := h
 obtain ⟨b0, b1, b2, b3, b4, b5⟩ := h'
 unfold geq inLeafs
 simp only [List.all_cons, List.all_nil, a0, a1, a2, a3, a4, a5, b0, b1, b2, b3, b4, b5, LK.fits, AV.same, Bool.and_true, decide_true, Bool.true_and]
 congr 1
 rw [Bool.eq_iff_iff]
 simp only [decide_eq_true_eq, Bool.and_eq_true]
 constructor
 ·intro h
  cases x; cases y
  simp at h
  simp [h]
 ·rintro rfl; simp
end
section
variable {m : Mem} {c : Nat → AV} {x : In}
theorem put_spec_K (h : InC c x) {k : Int → Mem → Prop} (hk : k (putS_K x) m) : F166 c m k := by
 unfold F166
 refine newI h fun b m1 hb K i O => ?_
 rw [i.l1, i.l2, i.l3, i.l4, i.l5]
 exact ⟨K, hk⟩
theorem nat_of {n : Int} {p : Nat} (h0 : 0 ≤ n) (h1 : n < p) : ∃ j : Nat, n = j ∧ j < p := ⟨n.toNat, by omega, by omega⟩
theorem fields_spec {n : Int} (h0 : 0 ≤ n) (h1 : n < 78) {k : Int → Mem → Prop} (hk : k (fl n) m) : F156 n m k := by
 obtain ⟨j, rfl, hj⟩ := nat_of (p := 78) h0 (by omega)
 exact fields_at j hj hk
theorem fdiv_w (w d : Int) (hd : 0 ≤ d) : w.fdiv d = w / d := Int.fdiv_eq_ediv_of_nonneg _ hd
theorem and31 (w : Int) (h0 : 0 ≤ w) (h1 : w < 4294967296) : bits .and .u32 w 31 = w % 32 := by have := and_ones w h0 h1 5 (by decide); simpa using this
theorem and63 (w : Int) (h0 : 0 ≤ w) (h1 : w < 4294967296) : bits .and .u32 w 63 = w % 64 := by have := and_ones w h0 h1 6 (by decide); simpa using this
theorem and16 (w : Int) (h0 : 0 ≤ w) (h1 : w < 4294967296) : bits .and .u32 w 65535 = w % 65536 := by have := and_ones w h0 h1 16 (by decide); simpa using this
theorem and26 (w : Int) (h0 : 0 ≤ w) (h1 : w < 4294967296) : bits .and .u32 w 67108863 = w % 67108864 := by have := and_ones w h0 h1 26 (by decide); simpa using this
theorem with_spec {n w : Int} (h0 : 0 ≤ n) (h1 : n < 78) (w0 : 0 ≤ w) (w1 : w < 4294967296) {k : (Nat → AV) → Mem → Prop} (hk : ∀ c, InC c (withS n w) → k c m) : F122 n w m k := by
 unfold F122
 refine newZ z6_in fun b m1 hb K1 i1 O1 => ?_
 refine newF (x := ⟨n, 0, 0, 0, 0, 0⟩) ⟨rfl, rfl, rfl, rfl, rfl, rfl⟩ fun b4 m5 hb4 K5 i4 => fields_spec h0 h1 ?_
 have hne : b ≠ b4 := fun e => by subst e; exact i1.live hb4
 have hb4' : m.obj b4 = none := newK_none K1 hb4
 have i5 := i1.keep K5
 have K : Keeps m m5 := K1.trans K5
 -- the end
 have fin : ∀ m1, InB m1 b (withS n w) → Keeps m m1 → (ldG 6 m1 b 0 fun c28 => (Keeps m m1 ∧ InDomG 6 m c28 ∧ k c28 m)) := fun m1 i K => i.lg fun c hc => ⟨K, hc.inDom m, hk c hc⟩
 have last : ∀ m1 (y : In), InB m1 b ⟨0, 0, 0, 0, 0, 0⟩ → InB m1 b4 y → Keeps m m1 → y = withS n w → (ldG 6 m1 b4 0 fun c14 => stG 6 m1 b 0 c14 fun m15 => (ldG 6 m15 b 0 fun c28 => (Keeps m m15 ∧ InDomG 6 m c28 ∧ k c28 m))) := fun m1 y i i' K e => by
  subst e
  exact i'.lg fun c hc => i.sg hc fun m2 i2 o2 => fin m2 i2 (Only.keeps K hb o2)
 have p5 : ∀ m1 (a1 a2 a3 a4 : Int), InB m1 b ⟨0, 0, 0, 0, 0, 0⟩ → InB m1 b4 ⟨n, a1, a2, a3, a4, 0⟩ → Keeps m m1 → (withS n w).s = a1 → (withS n w).t = a2 → (withS n w).d = a3 → (withS n w).h = a4 →
   P122_11105 w b 0 b4 0 (fl n) m1 fun m26 => (ldG 6 m26 b 0 fun c28 => (Keeps m m26 ∧ InDomG 6 m c28 ∧ k c28 m)) := fun m1 a1 a2 a3 a4 i i' K e1 e2 e3 e4 => by
  unfold P122_11105
  simp only [Nat.zero_add]
  have em : ∀ v, (withS n w).i = v → (⟨n, a1, a2, a3, a4, v⟩ : In) = withS n w := fun v hv => by
   subst e1 e2 e3 e4 hv; rfl
  refine kif_c _ (fun c => ?_) fun c => kif_c _ (fun c2 => ?_) fun c2 => ?_
  ·rw [and16 w w0 w1]
   exact i'.s5 fun m2 i2 o2 => last m2 _ (i.only o2 hne) i2 (Only.keeps K hb4' o2) (em _ (by unfold withS; exact if_pos c))
  ·rw [and26 w w0 w1]
   exact i'.s5 fun m2 i2 o2 => last m2 _ (i.only o2 hne) i2 (Only.keeps K hb4' o2) (em _ (by
    unfold withS; dsimp only
    rw [if_neg (by show ¬ hasM (fl n) 16 = true; unfold hasM; rw [c]; simp)]; exact if_pos c2))
  ·exact last m1 _ i i' K (em _ (by
    unfold withS; dsimp only
    rw [if_neg (by show ¬ hasM (fl n) 16 = true; unfold hasM; rw [c]; simp)]; exact if_neg (by show ¬ hasM (fl n) 32 = true; unfold hasM; rw [c2]; simp)))
 have p4 : ∀ m1 (a1 a2 a3 : Int), InB m1 b ⟨0, 0, 0, 0, 0, 0⟩ → InB m1 b4 ⟨n, a1, a2, a3, 0, 0⟩ → Keeps m m1 → (withS n w).s = a1 → (withS n w).t = a2 → (withS n w).d = a3 →
   P122_9103 w b 0 b4 0 (fl n) m1 fun m26 => (ldG 6 m26 b 0 fun c28 => (Keeps m m26 ∧ InDomG 6 m c28 ∧ k c28 m)) := fun m1 a1 a2 a3 i i' K e1 e2 e3 => by
  unfold P122_9103
  simp only [Nat.zero_add]
  refine kif_c _ (fun c => ?_) fun c => ?_
  ·rw [fdiv_w w _ (by decide), and31 _ (by omega) (by omega), wrap64 (by omega) (by omega)]
   exact i'.s4 fun m2 i2 o2 => p5 m2 a1 a2 a3 _ (i.only o2 hne) i2 (Only.keeps K hb4' o2) e1 e2 e3 (by unfold withS; exact if_pos c)
  ·exact p5 m1 a1 a2 a3 0 i i' K e1 e2 e3 (by unfold withS; exact if_neg (by show ¬ hasM (fl n) 8 = true; unfold hasM; rw [c]; simp))
 have p3 : ∀ m1 (a1 a2 : Int), InB m1 b ⟨0, 0, 0, 0, 0, 0⟩ → InB m1 b4 ⟨n, a1, a2, 0, 0, 0⟩ → Keeps m m1 → (withS n w).s = a1 → (withS n w).t = a2 →
   P122_7103 w b 0 b4 0 (fl n) m1 fun m26 => (ldG 6 m26 b 0 fun c28 => (Keeps m m26 ∧ InDomG 6 m c28 ∧ k c28 m)) := fun m1 a1 a2 i i' K e1 e2 => by
  unfold P122_7103
  simp only [Nat.zero_add]
  refine kif_c _ (fun c => ?_) fun c => ?_
  ·rw [fdiv_w w _ (by decide), and31 _ (by omega) (by omega), wrap64 (by omega) (by omega)]
   exact i'.s3 fun m2 i2 o2 => p4 m2 a1 a2 _ (i.only o2 hne) i2 (Only.keeps K hb4' o2) e1 e2 (by unfold withS; exact if_pos c)
  ·exact p4 m1 a1 a2 0 i i' K e1 e2 (by unfold withS; exact if_neg (by show ¬ hasM (fl n) 4 = true; unfold hasM; rw [c]; simp))
 have p2 : ∀ m1 (a1 : Int), InB m1 b ⟨0, 0, 0, 0, 0, 0⟩ → InB m1 b4 ⟨n, a1, 0, 0, 0, 0⟩ → Keeps m m1 → (withS n w).s = a1 →
   P122_5103 w b 0 b4 0 (fl n) m1 fun m26 => (ldG 6 m26 b 0 fun c28 => (Keeps m m26 ∧ InDomG 6 m c28 ∧ k c28 m)) := fun m1 a1 i i' K e1 => by
  unfold P122_5103
  simp only [Nat.zero_add]
  refine kif_c _ (fun c => ?_) fun c => ?_
  ·rw [fdiv_w w _ (by decide), and31 _ (by omega) (by omega), wrap64 (by omega) (by omega)]
   exact i'.s2 fun m2 i2 o2 => p3 m2 a1 _ (i.only o2 hne) i2 (Only.keeps K hb4' o2) e1 (by unfold withS; exact if_pos c)
  ·exact p3 m1 a1 0 i i' K e1 (by unfold withS; exact if_neg (by show ¬ hasM (fl n) 2 = true; unfold hasM; rw [c]; simp))
 refine kif_c _ (fun c => ?_) fun c => ?_
 ·rw [fdiv_w w _ (by decide), and31 _ (by omega) (by omega), wrap64 (by omega) (by omega)]
  exact i4.s1 fun m2 i2 o2 => p2 m2 _ (i5.only o2 hne) i2 (Only.keeps K hb4' o2) (by unfold withS; exact if_pos c)
 ·exact p2 m5 0 i5 i4 K (by unfold withS; exact if_neg (by show ¬ hasM (fl n) 1 = true; unfold hasM; rw [c]; simp))
theorem kind_spec {w : Int} (w0 : 0 ≤ w) (w1 : w < 4294967296) {k : Int → Mem → Prop} (hk : k (kindOf w) m) : F123 w m k := by
 unfold F123
 rw [fdiv_w w 67108864 (by decide), fdiv_w w 65536 (by decide), and63 w w0 w1, and31 _ (by omega) (by omega)]
 unfold kindOf subOf at hk
 refine kif_c _ (fun c => ?_) fun c => ?_
 ·have c : w / 67108864 = 0 := by simpa using c
  rw [c, if_pos (by omega)] at hk
  obtain ⟨j, e, hj⟩ := nat_of (n := w % 64) (p := 64) (by omega) (by omega)
  rw [e, kt0_eq j hj] at hk
  rw [e]
  exact special_at j hj ⟨Keeps.self m, hk⟩
 have c : ¬ w / 67108864 = 0 := by simpa using c
 refine kif_c _ (fun c1 => ?_) fun c1 => ?_
 ·have c1 : w / 67108864 = 1 := by simpa using c1
  rw [c1, if_neg (by omega), if_pos rfl] at hk
  obtain ⟨j, e, hj⟩ := nat_of (n := w / 65536 % 32) (p := 32) (by omega) (by omega)
  rw [e, kt1_eq j hj] at hk
  rw [e]
  exact regimm_at j hj ⟨Keeps.self m, hk⟩
 have c1 : ¬ w / 67108864 = 1 := by simpa using c1
 refine kif_c _ (fun c2 => ?_) fun c2 => ?_
 ·have c2 : w / 67108864 = 16 := by simpa using c2
  rw [c2, if_neg (by omega), if_neg (by omega), if_pos rfl] at hk
  unfold F159
  rw [fdiv_w w 2097152 (by decide), and31 _ (by omega) (by omega), and63 w w0 w1]
  obtain ⟨s, es, hs⟩ := nat_of (n := w / 2097152 % 32) (p := 32) (by omega) (by omega)
  rw [es] at hk ⊢
  by_cases h16 : s = 16
  ·subst h16
   rw [if_pos (by decide)] at hk
   obtain ⟨j, e, hj⟩ := nat_of (n := w % 64) (p := 64) (by omega) (by omega)
   rw [e, kt16f_eq j hj] at hk
   rw [e]
   exact kif_f (by decide) (kif_f (by decide) (kif_t (by decide) (table_at j hj ⟨Keeps.self m, Keeps.self m, hk⟩)))
  ·rw [if_neg (by omega), kt16_eq s hs] at hk
   refine kif_c _ (fun q => ?_) fun q => kif_c _ (fun q1 => ?_) fun q1 => kif_f (by simp; omega) ?_
   ·have : s = 0 := by simp at q; omega
    subst this; exact ⟨Keeps.self m, Keeps.self m, hk⟩
   ·have : s = 4 := by simp at q1; omega
    subst this; exact ⟨Keeps.self m, Keeps.self m, hk⟩
   ·have q : s ≠ 0 := by simp at q; omega
    have q1 : s ≠ 4 := by simp at q1; omega
    have z : KT16.getD s 0 = 0 := by
     have : ∀ s, s < 32 → s ≠ 0 → s ≠ 4 → KT16.getD s 0 = 0 := by decide
     exact this s hs q q1
    rw [z] at hk
    exact ⟨Keeps.self m, Keeps.self m, hk⟩
 have c2 : ¬ w / 67108864 = 16 := by simpa using c2
 refine kif_c _ (fun c3 => ?_) fun c3 => ?_
 ·have c3 : w / 67108864 = 28 := by simpa using c3
  rw [c3, if_pos (by omega)] at hk
  obtain ⟨j, e, hj⟩ := nat_of (n := w % 64) (p := 64) (by omega) (by omega)
  rw [e, kt28_eq j hj] at hk
  rw [e]
  exact special2_at j hj ⟨Keeps.self m, hk⟩
 have c3 : ¬ w / 67108864 = 28 := by simpa using c3
 rw [if_neg (by omega), if_neg c1, if_neg c2] at hk
 obtain ⟨j, e, hj⟩ := nat_of (n := w / 67108864) (p := 64) (by omega) (by omega)
 rw [e] at hk c c1 c2 c3 ⊢
 rw [ktm_eq j hj (by omega) (by omega) (by omega) (by omega)] at hk
 exact major_at j hj ⟨Keeps.self m, hk⟩
theorem kt_rng : ∀ op sub : Int, 0 ≤ kt op sub ∧ kt op sub < 78 := by
 have key : ∀ (l : List Row), (l.all fun r => decide (0 ≤ r.kd) && decide (r.kd < 78)) = true → ∀ (p : Row → Bool) (r : Row), l.find? p = some r → 0 ≤ r.kd ∧ r.kd < 78 := by
  intro l hl p r hr
  have := List.all_eq_true.1 hl r (List.mem_of_find?_eq_some hr)
  simpa using this
 intro op sub
 unfold kt rowAt rowsOf
 split
 ·rename_i r hr
  split at hr
  ·exact key T0 (by decide +kernel) _ r hr
  ·split at hr
   ·exact key T2 (by decide +kernel) _ r hr
   ·exact key T1 (by decide +kernel) _ r hr
 ·omega
theorem of_spec {w : Int} (w0 : 0 ≤ w) (w1 : w < 4294967296) {k : (Nat → AV) → Mem → Prop} (hk : ∀ c, InC c (ofS w) → k c m) : F93 w m k := by
 unfold F93
 have hr : 0 ≤ kindOf w ∧ kindOf w < 78 := kt_rng _ _
 refine newZ z6_in fun b m1 hb K1 i1 O1 => kind_spec w0 w1 (with_spec hr.1 hr.2 w0 w1 fun c hc => ?_)
 exact i1.sg hc fun m2 i2 o2 => i2.lg fun c hc => ⟨Only.keeps K1 hb o2, hc.inDom m, hk c hc⟩
end
def opt (o : Option Int) (kr : Int → Mem → Prop) (kn : Mem → Prop) (m : Mem) : Prop := match o with
 | some r => kr r m
 | none => kn m
def cls9 (x : Int) (b : Bool) : Option Int := if b = true then some 5 else if x = 22 ∨ x = 24 ∨ x = 46 ∨ (32 ≤ x ∧ x ≤ 35) then some 2 else none
def cls7 (x : Int) (b : Bool) : Option Int := if b = true then some 4 else cls9 x (decide ((71 ≤ x ∧ x ≤ 73) ∨ x = 75))
def cls5 (x : Int) (b : Bool) : Option Int := if b = true then some 3 else cls7 x (decide ((66 ≤ x ∧ x ≤ 70) ∨ x = 74))
def cls3 (x : Int) (b : Bool) : Option Int := if b = true then some 6 else cls5 x (decide (x = 7 ∨ x = 8 ∨ (36 ≤ x ∧ x ≤ 45)))
def classS (x : Int) : Int := match cls3 x (decide (x ≤ 0 ∨ x ≥ 78 ∨ x = 11 ∨ x = 12 ∨ (54 ≤ x ∧ x ≤ 62))) with
 | some r => r
 | none => 1
theorem class_9 {m : Mem} {x : Int} {b : Bool} {kr : Int → Mem → Prop} {kn : Mem → Prop} (h : opt (cls9 x b) kr kn m) : P94_9004 x b m kr kn := by
 unfold P94_9004
 unfold cls9 at h
 refine kif_c _ (fun c => ?_) fun c => ?_
 ·rw [if_pos c] at h; exact h
 rw [if_neg (by rw [c]; simp)] at h
 refine kif_c _ (fun c => ?_) fun c1 => kif_c _ (fun c => ?_) fun c2 => kif_c _ (fun c => ?_) fun c3 => kif_c _ (fun c4 => kif_c _ (fun c => ?_) fun c => ?_) fun c4 => ?_
 ·rw [if_pos (by (((try simp only [decide_eq_true_eq, decide_eq_false_iff_not, beq_iff_eq, beq_eq_false_iff_ne, ne_eq] at *); omega)))] at h; exact h
 ·rw [if_pos (by (((try simp only [decide_eq_true_eq, decide_eq_false_iff_not, beq_iff_eq, beq_eq_false_iff_ne, ne_eq] at *); omega)))] at h; exact h
 ·rw [if_pos (by (((try simp only [decide_eq_true_eq, decide_eq_false_iff_not, beq_iff_eq, beq_eq_false_iff_ne, ne_eq] at *); omega)))] at h; exact h
 ·rw [if_pos (by (((try simp only [decide_eq_true_eq, decide_eq_false_iff_not, beq_iff_eq, beq_eq_false_iff_ne, ne_eq] at *); omega)))] at h; exact h
 ·rw [if_neg (by (((try simp only [decide_eq_true_eq, decide_eq_false_iff_not, beq_iff_eq, beq_eq_false_iff_ne, ne_eq] at *); omega)))] at h; exact h
 ·rw [if_neg (by (((try simp only [decide_eq_true_eq, decide_eq_false_iff_not, beq_iff_eq, beq_eq_false_iff_ne, ne_eq] at *); omega)))] at h; exact h
theorem class_7 {m : Mem} {x : Int} {b : Bool} {kr : Int → Mem → Prop} {kn : Mem → Prop} (h : opt (cls7 x b) kr kn m) : P94_7004 x b m kr kn := by
 unfold P94_7004
 unfold cls7 at h
 refine kif_c _ (fun c => ?_) fun c => ?_
 ·rw [if_pos c] at h; exact h
 rw [if_neg (by rw [c]; simp)] at h
 refine kif_c _ (fun c4 => kif_c _ (fun c => ?_) fun c => ?_) fun c4 => ?_ <;> refine class_9 ?_
 ·rw [show decide ((71 ≤ x ∧ x ≤ 73) ∨ x = 75) = true by ((refine Bool.eq_iff_iff.2 ?_; (try simp only [decide_eq_true_eq, decide_eq_false_iff_not, beq_iff_eq, beq_eq_false_iff_ne, ne_eq, Bool.false_eq_true, iff_true, iff_false, Bool.and_eq_true] at *); omega))] at h; exact h
 ·rw [show decide ((71 ≤ x ∧ x ≤ 73) ∨ x = 75) = (x == 75) by ((refine Bool.eq_iff_iff.2 ?_; (try simp only [decide_eq_true_eq, decide_eq_false_iff_not, beq_iff_eq, beq_eq_false_iff_ne, ne_eq, Bool.false_eq_true, iff_true, iff_false, Bool.and_eq_true] at *); omega))] at h; exact h
 ·rw [show decide ((71 ≤ x ∧ x ≤ 73) ∨ x = 75) = (x == 75) by ((refine Bool.eq_iff_iff.2 ?_; (try simp only [decide_eq_true_eq, decide_eq_false_iff_not, beq_iff_eq, beq_eq_false_iff_ne, ne_eq, Bool.false_eq_true, iff_true, iff_false, Bool.and_eq_true] at *); omega))] at h; exact h
theorem class_5 {m : Mem} {x : Int} {b : Bool} {kr : Int → Mem → Prop} {kn : Mem → Prop} (h : opt (cls5 x b) kr kn m) : P94_5004 x b m kr kn := by
 unfold P94_5004
 unfold cls5 at h
 refine kif_c _ (fun c => ?_) fun c => ?_
 ·rw [if_pos c] at h; exact h
 rw [if_neg (by rw [c]; simp)] at h
 refine kif_c _ (fun c4 => kif_c _ (fun c => ?_) fun c => ?_) fun c4 => ?_ <;> refine class_7 ?_
 ·rw [show decide ((66 ≤ x ∧ x ≤ 70) ∨ x = 74) = true by ((refine Bool.eq_iff_iff.2 ?_; (try simp only [decide_eq_true_eq, decide_eq_false_iff_not, beq_iff_eq, beq_eq_false_iff_ne, ne_eq, Bool.false_eq_true, iff_true, iff_false, Bool.and_eq_true] at *); omega))] at h; exact h
 ·rw [show decide ((66 ≤ x ∧ x ≤ 70) ∨ x = 74) = (x == 74) by ((refine Bool.eq_iff_iff.2 ?_; (try simp only [decide_eq_true_eq, decide_eq_false_iff_not, beq_iff_eq, beq_eq_false_iff_ne, ne_eq, Bool.false_eq_true, iff_true, iff_false, Bool.and_eq_true] at *); omega))] at h; exact h
 ·rw [show decide ((66 ≤ x ∧ x ≤ 70) ∨ x = 74) = (x == 74) by ((refine Bool.eq_iff_iff.2 ?_; (try simp only [decide_eq_true_eq, decide_eq_false_iff_not, beq_iff_eq, beq_eq_false_iff_ne, ne_eq, Bool.false_eq_true, iff_true, iff_false, Bool.and_eq_true] at *); omega))] at h; exact h
theorem class_3 {m : Mem} {x : Int} {b : Bool} {kr : Int → Mem → Prop} {kn : Mem → Prop} (h : opt (cls3 x b) kr kn m) : P94_3004 x b m kr kn := by
 unfold P94_3004
 unfold cls3 at h
 refine kif_c _ (fun c => ?_) fun c => ?_
 ·rw [if_pos c] at h; exact h
 rw [if_neg (by rw [c]; simp)] at h
 refine kif_c _ (fun c => ?_) fun c1 => kif_c _ (fun c => ?_) fun c2 => kif_c _ (fun c4 => ?_) fun c4 => ?_ <;> refine class_5 ?_
 ·rw [show decide (x = 7 ∨ x = 8 ∨ (36 ≤ x ∧ x ≤ 45)) = true by ((refine Bool.eq_iff_iff.2 ?_; (try simp only [decide_eq_true_eq, decide_eq_false_iff_not, beq_iff_eq, beq_eq_false_iff_ne, ne_eq, Bool.false_eq_true, iff_true, iff_false, Bool.and_eq_true] at *); omega))] at h; exact h
 ·rw [show decide (x = 7 ∨ x = 8 ∨ (36 ≤ x ∧ x ≤ 45)) = true by ((refine Bool.eq_iff_iff.2 ?_; (try simp only [decide_eq_true_eq, decide_eq_false_iff_not, beq_iff_eq, beq_eq_false_iff_ne, ne_eq, Bool.false_eq_true, iff_true, iff_false, Bool.and_eq_true] at *); omega))] at h; exact h
 ·rw [show decide (x = 7 ∨ x = 8 ∨ (36 ≤ x ∧ x ≤ 45)) = decide (x ≤ 45) by ((refine Bool.eq_iff_iff.2 ?_; (try simp only [decide_eq_true_eq, decide_eq_false_iff_not, beq_iff_eq, beq_eq_false_iff_ne, ne_eq, Bool.false_eq_true, iff_true, iff_false, Bool.and_eq_true] at *); omega))] at h; exact h
 ·rw [show decide (x = 7 ∨ x = 8 ∨ (36 ≤ x ∧ x ≤ 45)) = false by ((refine Bool.eq_iff_iff.2 ?_; (try simp only [decide_eq_true_eq, decide_eq_false_iff_not, beq_iff_eq, beq_eq_false_iff_ne, ne_eq, Bool.false_eq_true, iff_true, iff_false, Bool.and_eq_true] at *); omega))] at h; exact h
theorem class_spec {m : Mem} {c : Nat → AV} {x : In} (hc : InC c x) {k : Int → Mem → Prop} (hk : k (classS x.k) m) : F94 c m k := by
 unfold F94
 refine newI hc fun b m1 hb K i O => ?_
 rw [i.l0]
 have fin : ∀ (q : Bool), decide (x.k ≤ 0 ∨ x.k ≥ 78 ∨ x.k = 11 ∨ x.k = 12 ∨ (54 ≤ x.k ∧ x.k ≤ 62)) = q → P94_3004 x.k q m1 (fun x34 m35 => (Keeps m m35 ∧ k x34 m)) (fun m36 => (Keeps m m36 ∧ k 1 m)) := fun q e => by
  refine class_3 ?_
  unfold classS at hk
  rw [e] at hk
  revert hk
  unfold opt
  cases cls3 x.k q with
  | none => exact fun h => ⟨K, h⟩
  | some r => exact fun h => ⟨K, h⟩
 refine kif_c _ (fun c => fin _ ?_) fun c1 => kif_c _ (fun c => fin _ ?_) fun c2 => kif_c _ (fun c => fin _ ?_) fun c3 => kif_c _ (fun c => fin _ ?_) fun c4 => kif_c _ (fun c => fin _ ?_) fun c => fin _ ?_
 ·((refine Bool.eq_iff_iff.2 ?_; (try simp only [decide_eq_true_eq, decide_eq_false_iff_not, beq_iff_eq, beq_eq_false_iff_ne, ne_eq, Bool.false_eq_true, iff_true, iff_false, Bool.and_eq_true] at *); omega))
 ·((refine Bool.eq_iff_iff.2 ?_; (try simp only [decide_eq_true_eq, decide_eq_false_iff_not, beq_iff_eq, beq_eq_false_iff_ne, ne_eq, Bool.false_eq_true, iff_true, iff_false, Bool.and_eq_true] at *); omega))
 ·((refine Bool.eq_iff_iff.2 ?_; (try simp only [decide_eq_true_eq, decide_eq_false_iff_not, beq_iff_eq, beq_eq_false_iff_ne, ne_eq, Bool.false_eq_true, iff_true, iff_false, Bool.and_eq_true] at *); omega))
 ·((refine Bool.eq_iff_iff.2 ?_; (try simp only [decide_eq_true_eq, decide_eq_false_iff_not, beq_iff_eq, beq_eq_false_iff_ne, ne_eq, Bool.false_eq_true, iff_true, iff_false, Bool.and_eq_true] at *); omega))
 ·((refine Bool.eq_iff_iff.2 ?_; (try simp only [decide_eq_true_eq, decide_eq_false_iff_not, beq_iff_eq, beq_eq_false_iff_ne, ne_eq, Bool.false_eq_true, iff_true, iff_false, Bool.and_eq_true] at *); omega))
 ·((refine Bool.eq_iff_iff.2 ?_; (try simp only [decide_eq_true_eq, decide_eq_false_iff_not, beq_iff_eq, beq_eq_false_iff_ne, ne_eq, Bool.false_eq_true, iff_true, iff_false, Bool.and_eq_true] at *); omega))
section
variable {m : Mem} {c : Nat → AV} {x : In}
theorem right_2 {b b8 : Nat} {y : Blk} (e : m.obj b8 = some y) (hn : y.n = 4) {k0 : Mem → Prop} {kr : Bool → Mem → Prop} {r j : Nat} {v : Int} (hj : j + r + 1 = 4) (hv : y.c j = .flat (.int .i64 v))
  (h1 : five v = true → L126_2 b 0 (.sl b8 0 4 (.ex 4)) 4 (r + 1) ((j : Int) + 1) m k0 kr) (h2 : five v = false → kr false m) : L126_2 b 0 (.sl b8 0 4 (.ex 4)) 4 (r + 1 + 1) j m k0 kr := by
 unfold L126_2 R126_2
 refine kif_t (by simp; omega) (kif_ix (by omega) (by show (j : Int) < (4 : Nat); omega) ?_)
 rw [ldI_of e (by omega) (by rw [show 0 + (j : Int).toNat * 1 = j by omega]; exact hv), wrap64 (by omega) (by omega)]
 unfold five at h1 h2
 refine kif_c _ (fun c => h2 (by ((refine Bool.eq_iff_iff.2 ?_; (try simp only [decide_eq_true_eq, decide_eq_false_iff_not, beq_iff_eq, beq_eq_false_iff_ne, ne_eq, Bool.false_eq_true, iff_true, iff_false, Bool.and_eq_true] at *); omega)))) fun c1 => kif_c _ (fun c => h2 (by ((refine Bool.eq_iff_iff.2 ?_; (try simp only [decide_eq_true_eq, decide_eq_false_iff_not, beq_iff_eq, beq_eq_false_iff_ne, ne_eq, Bool.false_eq_true, iff_true, iff_false, Bool.and_eq_true] at *); omega)))) fun c2 => h1 ?_
 simp only [decide_eq_false_iff_not] at c1 c2
 simp; omega
theorem right_spec (hc : InC c x) (hi : 0 ≤ x.i) {k : Bool → Mem → Prop} (hk : k (rightS x) m) : F126 c m k := by
 unfold F126
 refine newI hc fun b m1 hb K i O => ?_
 rw [i.l1, i.l2, i.l3, i.l4]
 refine newK_i fun b8 m7 hb8 K7 e8 O7 => ?_
 have i7 := i.keep K7
 have K17 := K.trans K7
 unfold rightS at hk
 have no : ∀ q : Bool, q = false → rightS x = q → (Keeps m m7 ∧ k false m) := fun q e1 e2 => ⟨K17, by unfold rightS at e2; rw [e2, e1] at hk; exact hk⟩
 refine ⟨5, right_2 (r := 3) (j := 0) e8 rfl rfl rfl (fun f1 => right_2 (r := 2) (j := 1) e8 rfl rfl rfl (fun f2 => right_2 (r := 1) (j := 2) e8 rfl rfl rfl (fun f3 => right_2 (r := 0) (j := 3) e8 rfl rfl rfl (fun f4 => ?_) ?_) ?_) ?_) ?_⟩
 ·unfold L126_2 R126_2
  refine kif_f (by decide) ?_
  rw [f1, f2, f3, f4] at hk
  simp only [Bool.and_self, Bool.true_and] at hk
  refine ⟨fun b' => b' = b, rfl, ?_⟩
  rw [i7.l0]
  refine kif_c _ (fun c1 => ⟨rfl, ?_⟩) fun c1 => ?_
  ·rw [i7.l0]
   have c1 : 0 < x.k := by simpa using c1
   refine kif_c _ (fun c2 => ⟨rfl, ?_⟩) fun c2 => ?_
   ·have c2 : x.k < 78 := by simpa using c2
    rw [i7.l5]
    refine kif_c _ (fun c3 => ⟨rfl, ?_⟩) fun c3 => ?_
    ·have c3 : x.i ≤ 67108863 := by simpa using c3
     rw [i7.l0]
     refine ⟨rfl, i7.lg fun c23 h23 => put_spec_K h23 ⟨fun _ _ _ => rfl, ?_⟩⟩
     have hp := orI_rng (orI (orI (orI (IntKind.wrap .u32 (IntKind.wrap .u32 x.s * 2097152)) (IntKind.wrap .u32 (IntKind.wrap .u32 x.t * 65536))) (IntKind.wrap .u32 (IntKind.wrap .u32 x.d * 2048))) (IntKind.wrap .u32 (IntKind.wrap .u32 x.h * 64))) x.i
     refine with_spec (by omega) c2 hp.1 hp.2 fun c26 h26 => ⟨fun _ _ _ => rfl, rfl, i7.lg fun c28 h28 => ?_⟩
     rw [geq_in h26 h28 _ (by kernel_rfl)]
     refine ⟨K17, ?_⟩
     rw [decide_eq_true c1, decide_eq_true c2, decide_eq_true c3] at hk
     exact hk
    ·have c3 : decide (x.i ≤ 67108863) = false := c3
     rw [c3] at hk; simp only [Bool.and_false, Bool.false_and] at hk; exact ⟨K17, hk⟩
   ·have c2 : decide (x.k < 78) = false := c2
    rw [c2] at hk; simp only [Bool.and_false, Bool.false_and] at hk; exact ⟨K17, hk⟩
  ·have c1 : decide (0 < x.k) = false := c1
   rw [c1] at hk; simp only [Bool.and_false, Bool.false_and] at hk; exact ⟨K17, hk⟩
 ·intro q; rw [q] at hk; simp only [Bool.and_false, Bool.false_and] at hk; exact ⟨K17, hk⟩
 ·intro q; rw [q] at hk; simp only [Bool.and_false, Bool.false_and] at hk; exact ⟨K17, hk⟩
 ·intro q; rw [q] at hk; simp only [Bool.and_false, Bool.false_and] at hk; exact ⟨K17, hk⟩
 ·intro q; rw [q] at hk; simp only [Bool.and_false, Bool.false_and] at hk; exact ⟨K17, hk⟩
end
section
variable {m : Mem} {c : Nat → AV} {x : In}
theorem has_2 {b : ByteArray} {ch : Int} (hb : b.size < 1000) {k0 : Mem → Prop} {kr : Bool → Mem → Prop} (h1 : hasS b ch = true → kr true m) (h0 : hasS b ch = false → k0 m) : ∀ (r i : Nat), i + r = b.size → (∀ j, j < i → (((b.data.getD j 0).toNat : Int) == ch) = false) → L81_2 b ch (r + 1) i m k0 kr := by
 intro r
 induction r with
 | zero =>
  intro i hi hn
  unfold L81_2 R81_2
  refine kif_f (by simp; omega) (h0 ?_)
  unfold hasS
  rw [Bool.eq_false_iff]
  intro q
  obtain ⟨j, hj, e⟩ := List.any_eq_true.1 q
  rw [hn j (by have := List.mem_range.1 hj; omega)] at e; cases e
 | succ r ih =>
  intro i hi hn
  unfold L81_2 R81_2
  refine kif_t (by simp; omega) (kif_ix (by omega) (by omega) (kif_c _ (fun q => h1 ?_) fun q => ?_))
  ·unfold hasS
   rw [List.any_eq_true]
   exact ⟨i, List.mem_range.2 (by omega), by simpa using q⟩
  ·rw [wrap64 (by omega) (by omega)]
   refine ih (i + 1) (by omega) fun j hj => ?_
   by_cases e : j = i
   ·subst e; simpa using q
   ·exact hn j (by omega)
theorem has_spec {b : ByteArray} {ch : Int} (hb : b.size < 1000) {k : Bool → Mem → Prop} (hk : k (hasS b ch) m) : F81 b ch m k := by
 unfold F81
 exact ⟨b.size + 1, has_2 hb (fun e => ⟨Keeps.self m, by rw [e] at hk; exact hk⟩) (fun e => ⟨Keeps.self m, by rw [e] at hk; exact hk⟩) b.size 0 (by omega) (fun j hj => by omega)⟩
def RowC (c : Nat → AV) (r : Row) : Prop := c 0 = .flat (.int .i64 r.op) ∧ c 1 = .flat (.int .i64 r.sub) ∧ c 2 = .flat (.int .i64 r.kd) ∧ c 3 = .flat (.string r.f)
def RowB (m : Mem) (b : Nat) (r : Row) : Prop := ∃ y, m.obj b = some y ∧ y.n = 4 ∧ y.ro = false ∧ RowC y.c r
def RowsB (m : Mem) (b : Nat) (l : List Row) : Prop := ∃ y, m.obj b = some y ∧ y.n = 4 * l.length ∧ ∀ i, (h : i < l.length) → RowC (fun j => y.c (i * 4 + j)) l[i]
def RowsV (m : Mem) (v : AV) (l : List Row) : Prop := ∃ b, v = .sl b 0 l.length (.ex l.length) ∧ RowsB m b l
theorem rows_mk {m : Mem} {b : Nat} {y : Blk} {l : List Row} (e : m.obj b = some y) (hn : y.n = 4 * l.length) (h : (List.range (4 * l.length)).map y.c = l.flatMap fun r => [AV.flat (.int .i64 r.op), .flat (.int .i64 r.sub), .flat (.int .i64 r.kd), .flat (.string r.f)]) : RowsB m b l := by
 refine ⟨y, e, hn, fun i hi => ?_⟩
 have key : ∀ (l : List Row) (i : Nat) (hi : i < l.length) (j : Nat), j < 4 → (l.flatMap fun r => [AV.flat (.int .i64 r.op), .flat (.int .i64 r.sub), .flat (.int .i64 r.kd), .flat (.string r.f)])[i * 4 + j]? = [AV.flat (.int .i64 l[i].op), .flat (.int .i64 l[i].sub), .flat (.int .i64 l[i].kd), .flat (.string l[i].f)][j]? := by
  intro l
  induction l with
  | nil => intro i hi; cases hi
  | cons r l ih =>
   intro i hi j hj
   rw [List.flatMap_cons]
   cases i with
   | zero =>
    rw [List.getElem?_append_left (by simp; omega), Nat.zero_mul, Nat.zero_add]; rfl
   | succ i =>
    rw [List.getElem?_append_right (by simp; omega)]
    have := ih i (by simpa using hi) j hj
    rw [show (i + 1) * 4 + j - [AV.flat (.int .i64 r.op), .flat (.int .i64 r.sub), .flat (.int .i64 r.kd), .flat (.string r.f)].length = i * 4 + j by simp; omega, this]
    simp
 have at' : ∀ j, j < 4 → some (y.c (i * 4 + j)) = [AV.flat (.int .i64 l[i].op), .flat (.int .i64 l[i].sub), .flat (.int .i64 l[i].kd), .flat (.string l[i].f)][j]? := fun j hj => by
  rw [← key l i hi j hj, ← h, List.getElem?_map, List.getElem?_range (by omega)]; rfl
 exact ⟨by simpa using at' 0 (by omega), by simpa using at' 1 (by omega), by simpa using at' 2 (by omega), by simpa using at' 3 (by omega)⟩
theorem special_v {k : AV → Mem → Prop} (hk : ∀ v m', Keeps m m' → RowsV m' v T0 → k v m') : F83 m k := by
 unfold F83
 exact newK_i fun b m1 hb K e O => hk _ m1 K ⟨b, rfl, rows_mk e rfl (by kernel_rfl)⟩
theorem others_v {k : AV → Mem → Prop} (hk : ∀ v m', Keeps m m' → RowsV m' v T2 → k v m') : F85 m k := by
 unfold F85
 exact newK_i fun b m1 hb K e O => hk _ m1 K ⟨b, rfl, rows_mk e rfl (by kernel_rfl)⟩
theorem plain_v {k : AV → Mem → Prop} (hk : ∀ v m', Keeps m m' → RowsV m' v T1 → k v m') : F84 m k := by
 unfold F84
 exact newK_i fun b m1 hb K e O => hk _ m1 K ⟨b, rfl, rows_mk e rfl (by kernel_rfl)⟩
theorem RowB.keep {m m' : Mem} {b : Nat} {r : Row} (h : RowB m b r) (K : Keeps m m') : RowB m' b r := by
 obtain ⟨z, e, q⟩ := h; exact ⟨z, by rw [K b (by rw [e]; simp)]; exact e, q⟩
theorem RowB.l0 {b : Nat} {r : Row} (h : RowB m b r) (k : Int → Prop) : ldI .i64 m b 0 k = k r.op := by obtain ⟨z, e, n, _, h0, h1, h2, h3⟩ := h; exact ldI_of e (by omega) h0
theorem RowB.l1 {b : Nat} {r : Row} (h : RowB m b r) (k : Int → Prop) : ldI .i64 m b 1 k = k r.sub := by obtain ⟨z, e, n, _, h0, h1, h2, h3⟩ := h; exact ldI_of e (by omega) h1
theorem RowB.l3 {b : Nat} {r : Row} (h : RowB m b r) (k : ByteArray → Prop) : ldS m b 3 k = k r.f := by
 obtain ⟨z, e, n, _, h0, h1, h2, h3⟩ := h
 unfold ldS kobj; rw [e]; simp only [kite_eq, show 3 < z.n by omega, if_true, h3]
theorem RowC.inDom {r : Row} (h : RowC c r) (m : Mem) : InDomG 4 m c := fun i hi => by
 obtain ⟨h0, h1, h2, h3⟩ := h
 have : i = 0 ∨ i = 1 ∨ i = 2 ∨ i = 3 := by omega
 rcases this with rfl | rfl | rfl | rfl
 ·rw [h0]; trivial
 ·rw [h1]; trivial
 ·rw [h2]; trivial
 ·rw [h3]; trivial
def Row0 : Row := ⟨0, 0, 0, ⟨#[]⟩⟩
theorem find_10 {kd : Int} {t : Int} {v : AV} {l : List Row} {b : Nat} {m0 : Mem} (hb0 : m0.obj b = none) (hv : RowsV m v l) (hl : l.length < 1000) {q : Row} (hb : RowB m b q) (K : Keeps m0 m) {k2 : Mem → Prop} {kr : Bool → Mem → Prop}
  (h2 : l.find? (fun r => decide (r.kd = kd)) = none → k2 m) (hr : ∀ r m', l.find? (fun r => decide (r.kd = kd)) = some r → RowB m' b r → Keeps m0 m' → kr true m') :
  ∀ (n i : Nat), i + n = l.length → (∀ j, (h : j < l.length) → j < i → l[j].kd ≠ kd) → L54_10 kd b 0 t v (n + 1) i m k2 kr := by
 obtain ⟨bv, rfl, y, ey, hn, hy⟩ := hv
 obtain ⟨z, ez, zn, zr, hz⟩ := hb
 intro n
 induction n with
 | zero =>
  intro i hi hno
  unfold L54_10 R54_10
  refine kif_f (by simp; omega) (h2 ?_)
  rw [List.find?_eq_none]
  intro r hrm
  obtain ⟨j, hj, rfl⟩ := List.getElem_of_mem hrm
  simpa using hno j hj (by omega)
 | succ n ih =>
  intro i hi hno
  unfold L54_10 R54_10
  have hil : i < l.length := by omega
  have h4 := hy i hil
  refine kif_t (by simp; omega) (kif_ix (by omega) (by omega) ?_)
  rw [ldI_of ey (by rw [hn]; simp; omega) (show y.c (0 + (i : Int).toNat * 4 + 2) = _ by rw [show 0 + (i : Int).toNat * 4 + 2 = i * 4 + 2 by simp]; exact h4.2.2.1)]
  refine kif_c _ (fun c1 => kif_ix (by omega) (by omega) ?_) fun c1 => ?_
  ·have c1 : l[i].kd = kd := by simpa using c1
   rw [ldG_of ey (by rw [hn]; simp; omega), stG_of ez zr (by omega)]
   refine hr l[i] _ ?_ ⟨_, set_same _ _ _, zn, zr, ?_⟩ (Only.keeps K hb0 (Only.set _ _ _))
   ·rw [List.find?_eq_some_iff_getElem]
    refine ⟨by simpa using c1, i, hil, rfl, fun j hj => by simpa using hno j (by omega) hj⟩
   ·have e0 : 0 + (i : Int).toNat * 4 = i * 4 := by simp
    rw [e0]
    exact ⟨h4.1, h4.2.1, h4.2.2.1, h4.2.2.2⟩
  ·have c1 : l[i].kd ≠ kd := by simpa using c1
   rw [wrap64 (by omega) (by omega)]
   refine ih (i + 1) (by omega) fun j hj hji => ?_
   by_cases e : j = i
   ·subst e; exact c1
   ·exact hno j hj (by omega)
def tabT (t : Int) : List Row := if t = 1 then T1 else if t = 2 then T2 else T0
theorem len_T : T0.length = 35 ∧ T1.length = 27 ∧ T2.length = 15 := by decide
theorem tabT_len (t : Int) : (tabT t).length < 1000 := by
 have := len_T
 unfold tabT; split
 ·omega
 ·split <;> omega
theorem find_spec_K {kd : Int} {k : (Nat → AV) → Bool → Mem → Prop} (h0 : findR kd = none → ∀ c, RowC c Row0 → k c false m) (h1 : ∀ r c, findR kd = some r → RowC c r → k c true m) : F54 kd m k := by
 unfold F54
 refine newK_i fun b m1 hb K1 e1 O1 => ?_
 have hb1 : RowB m1 b Row0 := ⟨_, e1, rfl, rfl, rfl, rfl, rfl, rfl⟩
 have fin : ∀ r m', findR kd = some r → RowB m' b r → Keeps m m' → (ldG 4 m' b 0 fun c39 => (Keeps m m' ∧ (InDomG 4 m c39 ∧ True) ∧ k c39 true m)) := fun r m' hf hr K => by
  obtain ⟨y, ey, yn, yr, hy⟩ := hr
  rw [ldG_of ey (by omega)]
  have hc : RowC (sub y.c 0 4) r := ⟨hy.1, hy.2.1, hy.2.2.1, hy.2.2.2⟩
  exact ⟨K, ⟨hc.inDom m, trivial⟩, h1 r _ hf hc⟩
 have step : ∀ (t : Int) (n : Nat) (m2 : Mem) (kn : Mem → Prop), 0 ≤ t → t < 3 → Keeps m m2 → RowB m2 b Row0 → (∀ r, (tabT t).find? (fun r => decide (r.kd = kd)) = some r → findR kd = some r) →
   ((tabT t).find? (fun r => decide (r.kd = kd)) = none → ∀ m', Keeps m m' → RowB m' b Row0 → L54_2 kd b 0 n (t + 1) m' (fun m34 => stG 4 m34 b 0 (lget [(.flat (.int .i64 0)), (.flat (.int .i64 0)), (.flat (.int .i64 0)), (.flat (.string ⟨#[]⟩))]) fun m38 => ldG 4 m38 b 0 fun c40 => (Keeps m m38 ∧ (InDomG 4 m c40 ∧ True) ∧ k c40 false m)) (fun x35 m36 => ldG 4 m36 b 0 fun c39 => (Keeps m m36 ∧ (InDomG 4 m c39 ∧ True) ∧ k c39 x35 m))) →
   L54_2 kd b 0 (n + 1) t m2 (fun m34 => stG 4 m34 b 0 (lget [(.flat (.int .i64 0)), (.flat (.int .i64 0)), (.flat (.int .i64 0)), (.flat (.string ⟨#[]⟩))]) fun m38 => ldG 4 m38 b 0 fun c40 => (Keeps m m38 ∧ (InDomG 4 m c40 ∧ True) ∧ k c40 false m)) (fun x35 m36 => ldG 4 m36 b 0 fun c39 => (Keeps m m36 ∧ (InDomG 4 m c39 ∧ True) ∧ k c39 x35 m)) := by
  intro t n m2 kn t0 t1 K2 hb2 hf hnext
  unfold L54_2 R54_2
  have go : ∀ (kn2 : Mem → Prop) v m3, Keeps m m3 → RowB m3 b Row0 → RowsV m3 v (tabT t) → ((tabT t).find? (fun r => decide (r.kd = kd)) = none → kn2 m3) → P54_9102 kd b 0 t v m3 kn2 (fun x35 m36 => ldG 4 m36 b 0 fun c39 => (Keeps m m36 ∧ (InDomG 4 m c39 ∧ True) ∧ k c39 x35 m)) := fun kn2 v m3 K3 hb3 hv hkn => by
   unfold P54_9102
   exact ⟨(tabT t).length + 1, find_10 (m0 := m) hb hv (tabT_len t) hb3 K3 hkn (fun r m' hr' hrb K' => fin r m' (hf r hr') hrb K') (tabT t).length 0 (by omega) (fun j _ hj => by omega)⟩
  have ew : IntKind.wrap .i64 (t + 1) = t + 1 := wrap64 (by omega) (by omega)
  rw [ew]
  refine kif_t (by simp; omega) (special_v fun v m3 K3 hv => ?_)
  have K3' := K2.trans K3
  refine kif_c _ (fun c1 => plain_v fun v' m4 K4 hv' => ?_) fun c1 => kif_c _ (fun c2 => others_v fun v' m4 K4 hv' => ?_) fun c2 => ?_
  ·have c1 : t = 1 := by simpa using c1
   refine go _ v' m4 (K3'.trans K4) ((hb2.keep K3).keep K4) ?_ fun hn => hnext hn m4 (K3'.trans K4) ((hb2.keep K3).keep K4)
   unfold tabT; rw [if_pos c1]; exact hv'
  ·have c1 : t ≠ 1 := by simpa using c1
   have c2 : t = 2 := by simpa using c2
   refine go _ v' m4 (K3'.trans K4) ((hb2.keep K3).keep K4) ?_ fun hn => hnext hn m4 (K3'.trans K4) ((hb2.keep K3).keep K4)
   unfold tabT; rw [if_neg c1, if_pos c2]; exact hv'
  ·have c1 : t ≠ 1 := by simpa using c1
   have c2 : t ≠ 2 := by simpa using c2
   refine go _ v m3 K3' (hb2.keep K3) ?_ fun hn => hnext hn m3 K3' (hb2.keep K3)
   unfold tabT; rw [if_neg c1, if_neg c2]; exact hv
 refine ⟨4, step 0 3 m1 (fun _ => True) (by omega) (by omega) K1 hb1 (fun r hr => ?_) fun n0 m2 K2 hb2 => step 1 2 m2 (fun _ => True) (by omega) (by omega) K2 hb2 (fun r hr => ?_) fun n1 m3 K3 hb3 => step 2 1 m3 (fun _ => True) (by omega) (by omega) K3 hb3 (fun r hr => ?_) fun n2 m4 K4 hb4 => ?_⟩
 ·unfold findR; rw [List.find?_append]; exact (show (T0.find? _).or _ = some r by rw [show T0.find? (fun r => decide (r.kd = kd)) = some r from hr]; rfl)
 ·unfold findR; rw [List.find?_append, show T0.find? (fun r => decide (r.kd = kd)) = none from n0, List.find?_append, show T1.find? (fun r => decide (r.kd = kd)) = some r from hr]; rfl
 ·unfold findR; rw [List.find?_append, show T0.find? (fun r => decide (r.kd = kd)) = none from n0, List.find?_append, show T1.find? (fun r => decide (r.kd = kd)) = none from n1, show T2.find? (fun r => decide (r.kd = kd)) = some r from hr]; rfl
 ·unfold L54_2 R54_2
  refine kif_f (by decide) ?_
  have hno : findR kd = none := by
   unfold findR; rw [List.find?_append, show T0.find? (fun r => decide (r.kd = kd)) = none from n0, List.find?_append, show T1.find? (fun r => decide (r.kd = kd)) = none from n1, show T2.find? (fun r => decide (r.kd = kd)) = none from n2]; rfl
  obtain ⟨y, ey, yn, yr, hy⟩ := hb4
  dsimp only
  rw [stG_of ey yr (by omega), ldG_of (set_same _ _ _) (by show 0 + 4 ≤ y.n; omega)]
  have hc : ∀ (u : Nat → AV), RowC (sub (splice u 0 4 (lget [(.flat (.int .i64 0)), (.flat (.int .i64 0)), (.flat (.int .i64 0)), (.flat (.string ⟨#[]⟩))])) 0 4) Row0 := fun u => ⟨rfl, rfl, rfl, rfl⟩
  exact ⟨Only.keeps K4 hb (Only.set _ _ _), ⟨(hc _).inDom m, trivial⟩, h0 hno _ (hc _)⟩
end
def midR (r : Row) : Int :=
 if r.op = 0 ∨ r.op = 28 then IntKind.wrap .u32 r.sub
 else if r.op = 1 then IntKind.wrap .u32 (IntKind.wrap .u32 r.sub * 65536)
 else if r.op = 16 then if r.sub ≥ 64 then orI 33554432 (IntKind.wrap .u32 (IntKind.wrap .i64 (r.sub - 64))) else IntKind.wrap .u32 (IntKind.wrap .u32 r.sub * 2097152)
 else 0
def rowOK (r : Row) : Bool := decide (0 < r.kd) && decide (r.kd < 78) && decide (r.f.size < 1000) && (hasS r.f 115 == hasM (fl r.kd) 1) && (hasS r.f 116 == hasM (fl r.kd) 2) && (hasS r.f 100 == hasM (fl r.kd) 4) && (hasS r.f 104 == hasM (fl r.kd) 8) && (hasS r.f 105 == hasM (fl r.kd) 16) && (hasS r.f 106 == hasM (fl r.kd) 32) &&
 decide (headS r.kd = orI (IntKind.wrap .u32 (IntKind.wrap .u32 r.op * 67108864)) (midR r))
structure RowOK (r : Row) : Prop where
 k0 : 0 < r.kd
 k1 : r.kd < 78
 z : r.f.size < 1000
 s : hasS r.f 115 = hasM (fl r.kd) 1
 t : hasS r.f 116 = hasM (fl r.kd) 2
 d : hasS r.f 100 = hasM (fl r.kd) 4
 h : hasS r.f 104 = hasM (fl r.kd) 8
 i : hasS r.f 105 = hasM (fl r.kd) 16
 j : hasS r.f 106 = hasM (fl r.kd) 32
 w : headS r.kd = orI (IntKind.wrap .u32 (IntKind.wrap .u32 r.op * 67108864)) (midR r)
theorem rowOK_of {r : Row} (h : rowOK r = true) : RowOK r := by
 unfold rowOK at h
 simp only [Bool.and_eq_true, decide_eq_true_eq, beq_iff_eq] at h
 obtain ⟨⟨⟨⟨⟨⟨⟨⟨⟨a1, a2⟩, a3⟩, a4⟩, a5⟩, a6⟩, a7⟩, a8⟩, a9⟩, a10⟩ := h
 exact ⟨a1, a2, a3, a4, a5, a6, a7, a8, a9, a10⟩
theorem rows_all : (T0 ++ (T1 ++ T2)).all rowOK = true := by decide +kernel
theorem row_mem {r : Row} (h : r ∈ T0 ++ (T1 ++ T2)) : RowOK r := rowOK_of (List.all_eq_true.1 rows_all r h)
theorem findR_ok {kd : Int} {r : Row} (h : findR kd = some r) : RowOK r ∧ r.kd = kd :=
 ⟨row_mem (List.mem_of_find?_eq_some h), by simpa using List.find?_some h⟩
theorem findR_some : ∀ n, n < 78 → 0 < n → (findR (n : Nat)).isSome = true := by decide +kernel
def smallS (n : Int) (b : Bool) : Bool := decide (n = 0) || (b && (decide (n > 0) && decide (n < 32)))
def rightRow (x : In) (r : Row) : Bool := smallS x.s (hasS r.f 115) && (smallS x.t (hasS r.f 116) && (smallS x.d (hasS r.f 100) && (smallS x.h (hasS r.f 104) && decide (x.i ≤ if hasS r.f 105 = true then 65535 else if hasS r.f 106 = true then 67108863 else 0))))
def rightR (x : In) : Bool := match findR x.k with
 | some r => rightRow x r
 | none => false
theorem small_iff (n : Int) (b : Bool) : smallS n b = true ↔ (0 ≤ n ∧ n < 32 ∧ (b = false → n = 0)) := by
 unfold smallS
 cases b with
 | true => simp; omega
 | false => simp; omega
theorem rightR_eq (x : In) (hi : 0 ≤ x.i) : rightR x = rightS x := by
 rw [Bool.eq_iff_iff, right_iff x hi]
 unfold rightR
 constructor
 ·intro h
  split at h
  ·rename_i r hr
   obtain ⟨R, e⟩ := findR_ok hr
   unfold rightRow at h
   rw [R.s, R.t, R.d, R.h, R.i, R.j, e] at h
   simp only [Bool.and_eq_true, small_iff, decide_eq_true_eq] at h
   obtain ⟨⟨s0, s1, s2⟩, ⟨t0, t1, t2⟩, ⟨d0, d1, d2⟩, ⟨h0, h1, h2⟩, i1⟩ := h
   exact ⟨by have := R.k0; omega, by have := R.k1; omega, s0, s1, s2, t0, t1, t2, d0, d1, d2, h0, h1, h2, hi, by unfold most; exact i1⟩
  ·cases h
 ·intro h
  have hs := findR_some x.k.toNat (by have := h.k0; have := h.k1; omega) (by have := h.k0; omega)
  rw [show ((x.k.toNat : Nat) : Int) = x.k by have := h.k0; omega] at hs
  obtain ⟨r, hr⟩ := Option.isSome_iff_exists.1 hs
  rw [hr]
  obtain ⟨R, e⟩ := findR_ok hr
  show rightRow x r = true
  unfold rightRow
  rw [R.s, R.t, R.d, R.h, R.i, R.j, e]
  simp only [Bool.and_eq_true, small_iff, decide_eq_true_eq]
  exact ⟨⟨h.s0, h.s1, h.s2⟩, ⟨h.t0, h.t1, h.t2⟩, ⟨h.d0, h.d1, h.d2⟩, ⟨h.h0, h.h1, h.h2⟩, by have := h.i1; unfold most at this; exact this⟩
section
variable {m : Mem} {c : Nat → AV} {x : In}
theorem small_spec {n : Int} {b : Bool} {k : Bool → Mem → Prop} (hk : k (smallS n b) m) : F82 n b m k := by
 unfold F82
 unfold smallS at hk
 refine kif_c _ (fun c => ?_) fun c => ?_
 ·have c : n = 0 := by simpa using c
  rw [decide_eq_true c] at hk; exact ⟨Keeps.self m, hk⟩
 have c : ¬ n = 0 := by simpa using c
 rw [decide_eq_false c] at hk
 cases b with
 | false => exact kif_f rfl ⟨Keeps.self m, hk⟩
 | true =>
  refine kif_t rfl (kif_c _ (fun c1 => ?_) fun c1 => ?_)
  ·rw [c1] at hk; exact ⟨Keeps.self m, hk⟩
  ·rw [c1] at hk; exact ⟨Keeps.self m, hk⟩
theorem rright_10 {b : Nat} (i : InB m b x) {r : Row} (R : RowOK r) {mo : Int} {k : Bool → Mem → Prop} (hk : k (smallS x.s (hasS r.f 115) && (smallS x.t (hasS r.f 116) && (smallS x.d (hasS r.f 100) && (smallS x.h (hasS r.f 104) && decide (x.i ≤ mo))))) m) : P53_10102 b 0 r.f mo m k := by
 unfold P53_10102
 simp only [Nat.zero_add]
 have kin : ∀ F : Nat → Prop, KeepsIn F m m := fun F b _ _ => rfl
 refine ⟨fun b' => b' = b, rfl, ?_⟩
 rw [i.l1]
 refine has_spec R.z ⟨kin _, small_spec ⟨kin _, kif_c _ (fun c => ⟨rfl, ?_⟩) fun c => ?_⟩⟩
 ·rw [c] at hk
  rw [i.l2]
  refine has_spec R.z ⟨kin _, small_spec ⟨kin _, kif_c _ (fun c => ⟨rfl, ?_⟩) fun c => ?_⟩⟩
  ·rw [c] at hk
   rw [i.l3]
   refine has_spec R.z ⟨kin _, small_spec ⟨kin _, kif_c _ (fun c => ⟨rfl, ?_⟩) fun c => ?_⟩⟩
   ·rw [c] at hk
    rw [i.l4]
    refine has_spec R.z ⟨kin _, small_spec ⟨kin _, kif_c _ (fun c => ⟨rfl, ?_⟩) fun c => ?_⟩⟩
    ·rw [c] at hk
     rw [i.l5]
     exact hk
    ·rw [c] at hk; exact hk
   ·rw [c] at hk; exact hk
  ·rw [c] at hk; exact hk
 ·rw [c] at hk; exact hk
theorem rright_spec (hc : InC c x) (hi : 0 ≤ x.i) {k : Bool → Mem → Prop} (hk : k (rightS x) m) : F53 c m k := by
 rw [← rightR_eq x hi] at hk
 unfold F53
 unfold rightR at hk
 refine newI hc fun b m1 hb K i O => ?_
 rw [i.l0]
 refine find_spec_K (fun hn c hr => ?_) fun r c hs hr => ?_
 ·refine boxN fun b8 m9 y hb8 K9 ey _ _ _ => kif_t rfl ?_
  rw [hn] at hk
  exact ⟨K.trans K9, hk⟩
 ·rw [hs] at hk
  have hk : k (rightRow x r) m := hk
  obtain ⟨R, e⟩ := findR_ok hs
  refine boxN fun b8 m9 y hb8 K9 ey yn yr yc => kif_f rfl ?_
  have B : RowB m9 b8 r := ⟨y, ey, yn, yr, (yc 0 (by omega)).trans hr.1, (yc 1 (by omega)).trans hr.2.1, (yc 2 (by omega)).trans hr.2.2.1, (yc 3 (by omega)).trans hr.2.2.2⟩
  have i9 := i.keep K9
  have K19 := K.trans K9
  rw [B.l3]
  unfold rightRow at hk
  refine has_spec R.z (kif_c _ (fun c1 => ?_) fun c1 => has_spec R.z (kif_c _ (fun c2 => ?_) fun c2 => ?_))
  ·rw [c1, if_pos rfl] at hk; exact rright_10 i9 R ⟨K19, hk⟩
  ·rw [c1, if_neg (by simp), c2, if_pos rfl] at hk; exact rright_10 i9 R ⟨K19, hk⟩
  ·rw [c1, if_neg (by simp), c2, if_neg (by simp)] at hk; exact rright_10 i9 R ⟨K19, hk⟩
theorem rword_spec (hc : InC c x) (hi : 0 ≤ x.i) {k : Int → Bool → Mem → Prop} (hk : k (wordS x).1 (wordS x).2 m) : F37 c m k := by
 unfold F37
 refine newI hc fun b m1 hb K i O => i.lg fun c3 h3 => rright_spec h3 hi ?_
 unfold wordS at hk
 cases hr : rightS x with
 | false => rw [hr] at hk; exact kif_t rfl ⟨K, hk⟩
 | true =>
  rw [hr, if_pos rfl] at hk
  have ok := (right_iff x hi).1 hr
  refine kif_f rfl ?_
  rw [i.l0]
  refine find_spec_K (fun hn c hr => ?_) fun r c hs hr => ?_
  ·have hs := findR_some x.k.toNat (by have := ok.k0; have := ok.k1; omega) (by have := ok.k0; omega)
   rw [show ((x.k.toNat : Nat) : Int) = x.k by have := ok.k0; omega, hn] at hs; cases hs
  obtain ⟨R, e⟩ := findR_ok hs
  refine boxN fun b8 m9 y hb8 K9 ey yn yr yc => ?_
  have B : RowB m9 b8 r := ⟨y, ey, yn, yr, (yc 0 (by omega)).trans hr.1, (yc 1 (by omega)).trans hr.2.1, (yc 2 (by omega)).trans hr.2.2.1, (yc 3 (by omega)).trans hr.2.2.2⟩
  have i9 := i.keep K9
  have K19 := K.trans K9
  rw [B.l0, i9.l1, i9.l2, i9.l3, i9.l4, i9.l5, B.l0]
  -- the word in the reference's order
  have key : ∀ v, v = orI (orI (orI (orI (orI (orI (IntKind.wrap .u32 (IntKind.wrap .u32 r.op * 67108864)) (IntKind.wrap .u32 (IntKind.wrap .u32 x.s * 2097152))) (IntKind.wrap .u32 (IntKind.wrap .u32 x.t * 65536))) (IntKind.wrap .u32 (IntKind.wrap .u32 x.d * 2048))) (IntKind.wrap .u32 (IntKind.wrap .u32 x.h * 64))) x.i) (midR r) → k v true m := fun v hv => by
   have : v = orI (headS x.k) (putS_K x) := by
    rw [hv, ← e, R.w]
    unfold putS_K
    generalize IntKind.wrap .u32 (IntKind.wrap .u32 r.op * 67108864) = A
    generalize IntKind.wrap .u32 (IntKind.wrap .u32 x.s * 2097152) = s
    generalize IntKind.wrap .u32 (IntKind.wrap .u32 x.t * 65536) = t
    generalize IntKind.wrap .u32 (IntKind.wrap .u32 x.d * 2048) = d
    generalize IntKind.wrap .u32 (IntKind.wrap .u32 x.h * 64) = h
    generalize midR r = M
    have q : orI (orI (orI (orI (orI A s) t) d) h) x.i = orI A (orI (orI (orI (orI s t) d) h) x.i) := by simp only [orI_assoc]
    rw [q, orI_assoc, orI_comm _ M, ← orI_assoc]
   rw [this]; exact hk
  have hw := orI_rng (orI (orI (orI (orI (IntKind.wrap .u32 (IntKind.wrap .u32 r.op * 67108864)) (IntKind.wrap .u32 (IntKind.wrap .u32 x.s * 2097152))) (IntKind.wrap .u32 (IntKind.wrap .u32 x.t * 65536))) (IntKind.wrap .u32 (IntKind.wrap .u32 x.d * 2048))) (IntKind.wrap .u32 (IntKind.wrap .u32 x.h * 64))) x.i
  have key6 : ∀ q : Bool, decide (r.op = 0 ∨ r.op = 28) = q → P37_6004 b8 0 (orI (orI (orI (orI (orI (IntKind.wrap .u32 (IntKind.wrap .u32 r.op * 67108864)) (IntKind.wrap .u32 (IntKind.wrap .u32 x.s * 2097152))) (IntKind.wrap .u32 (IntKind.wrap .u32 x.t * 65536))) (IntKind.wrap .u32 (IntKind.wrap .u32 x.d * 2048))) (IntKind.wrap .u32 (IntKind.wrap .u32 x.h * 64))) x.i) q m9 (fun x33 m34 => (Keeps m m34 ∧ k x33 true m)) := by
   intro q hq
   generalize orI (orI (orI (orI (orI (IntKind.wrap .u32 (IntKind.wrap .u32 r.op * 67108864)) (IntKind.wrap .u32 (IntKind.wrap .u32 x.s * 2097152))) (IntKind.wrap .u32 (IntKind.wrap .u32 x.t * 65536))) (IntKind.wrap .u32 (IntKind.wrap .u32 x.d * 2048))) (IntKind.wrap .u32 (IntKind.wrap .u32 x.h * 64))) x.i = w at key hw
   unfold P37_6004
   simp only [Nat.zero_add]
   unfold midR at key
   refine kif_c _ (fun c1 => ?_) fun c1 => ?_
   ·rw [c1] at hq
    have hq : r.op = 0 ∨ r.op = 28 := by simpa using hq
    rw [if_pos hq] at key
    rw [B.l1]; exact ⟨K19, key _ rfl⟩
   rw [c1] at hq
   have hq : ¬ (r.op = 0 ∨ r.op = 28) := by simpa using hq
   rw [if_neg hq] at key
   rw [B.l0]
   refine kif_c _ (fun c2 => ?_) fun c2 => ?_
   ·rw [if_pos (by simpa using c2)] at key
    rw [B.l1]; exact ⟨K19, key _ rfl⟩
   rw [if_neg (by simpa using c2)] at key
   rw [B.l0]
   refine kif_c _ (fun c3 => ?_) fun c3 => ?_
   ·rw [if_pos (by simpa using c3)] at key
    rw [B.l1]
    unfold P37_10004
    simp only [Nat.zero_add]
    refine kif_c _ (fun c4 => ?_) fun c4 => ?_
    ·rw [if_pos (by simpa using c4)] at key
     rw [B.l1]; exact ⟨K19, key _ (orI_assoc _ _ _)⟩
    ·rw [if_neg (by simpa using c4)] at key
     rw [B.l0]
     refine kif_t c3 ?_
     rw [B.l1]; exact ⟨K19, key _ rfl⟩
   ·rw [if_neg (by simpa using c3), orI_0r hw] at key
    unfold P37_10004
    simp only [Nat.zero_add]
    refine kif_f rfl ?_
    rw [B.l0]
    exact kif_f c3 ⟨K19, key _ rfl⟩
  refine kif_c _ (fun c1 => key6 true (by have : r.op = 0 := by simpa using c1
                                          simp [this])) fun c1 => ?_
  rw [B.l0]
  refine key6 _ ?_
  have : ¬ r.op = 0 := by simpa using c1
  rw [Bool.eq_iff_iff]; simp [this]
end
theorem wrap_u (n : Int) : isU (IntKind.wrap .u32 n) := wrap32_rng n
theorem wrapU {n : Int} (h : isU n) : IntKind.wrap .u32 n = n := by rw [wrap32, Int.emod_eq_of_lt h.1 h.2]
def sarN : Nat → Int → Int
 | 0, x => x
 | n + 1, x => sarN n (bits .or .u32 (x.fdiv 2) (bits .and .u32 x 2147483648))
theorem sarN_u : ∀ (n : Nat) (x : Int), isU x → isU (sarN n x)
 | 0, x, h => h
 | n + 1, x, h => sarN_u n _ (or_rng _ _)
def wideV (x : Int) (b : Bool) : Int := if b = true ∧ x ≥ 2147483648 then IntKind.wrap .i64 (IntKind.wrap .i64 x - 4294967296) else IntKind.wrap .i64 x
def mulV (a b : Int) (s : Bool) : Int × Int :=
 let p := IntKind.wrap .u64 ((IntKind.wrap .u64 a) * (IntKind.wrap .u64 b))
 let h0 := IntKind.wrap .u32 (p.fdiv 4294967296)
 let h1 := if s = true ∧ a ≥ 2147483648 then IntKind.wrap .u32 (h0 - b) else h0
 let h2 := if s = true ∧ b ≥ 2147483648 then IntKind.wrap .u32 (h1 - a) else h1
 (h2, IntKind.wrap .u32 p)
theorem mulV_u (a b : Int) (s : Bool) : isU (mulV a b s).1 ∧ isU (mulV a b s).2 := by
 unfold mulV
 dsimp only
 refine ⟨?_, wrap_u _⟩
 split
 ·exact wrap_u _
 ·split <;> exact wrap_u _
def divV (a b : Int) (s : Bool) : Int × Int := if b = 0 then (4294967295, a) else (IntKind.wrap .u32 (IntKind.wrap .i64 ((wideV a s).tdiv (wideV b s))), IntKind.wrap .u32 ((wideV a s).tmod (wideV b s)))
theorem divV_u {a b : Int} (ha : isU a) (s : Bool) : isU (divV a b s).1 ∧ isU (divV a b s).2 := by
 unfold divV
 split
 ·exact ⟨(⟨by decide, by decide⟩ : isU 4294967295), ha⟩
 ·exact ⟨wrap_u _, wrap_u _⟩
def clzN (x : Int) : Nat → Int → Int
 | 0, n => n
 | j + 1, n => if bits .and .u32 (x.fdiv (2 ^ j)) 1 = 1 then n else clzN x j (n + 1)
def clzV (x : Int) : Int := clzN x 32 0
def bitV (b : Bool) : Int := if b = true then 1 else 0
section
variable {m0 m : Mem}
structure Op19 where
 k : Int
 d : Int
 a : Int
 b : Int
 i : Int
def OpC (c : Nat → AV) (o : Op19) : Prop := c 0 = .flat (.int .i64 o.k) ∧ c 1 = .flat (.int .i64 o.d) ∧ c 2 = .flat (.int .i64 o.a) ∧ c 3 = .flat (.int .i64 o.b) ∧ c 4 = .flat (.int .u32 o.i)
structure OpR (o : Op19) : Prop where
 k : 0 ≤ o.k ∧ o.k ≤ 22
 d : 0 ≤ o.d ∧ o.d < 40
 a : 0 ≤ o.a ∧ o.a < 40
 b : 0 ≤ o.b ∧ o.b < 40
 i : isU o.i
def valV (k a b i : Int) : Int :=
 if k = 1 then i else if k = 2 then a else if k = 3 then IntKind.wrap .u32 (a + b) else if k = 4 then IntKind.wrap .u32 (a - b) else if k = 5 then bits .and .u32 a b else if k = 6 then bits .or .u32 a b else if k = 7 then bits .xor .u32 a b
 else if k = 8 then bits .xor .u32 4294967295 (bits .or .u32 a b) else if k = 9 then IntKind.wrap .u32 (a * 2 ^ min (b % 32).toNat 32) else if k = 10 then a.fdiv (2 ^ min (b % 32).toNat 32) else if k = 11 then sarN (b % 32).toNat a
 else if k = 12 then bitV (decide (wideV a true < wideV b true)) else if k = 13 then bitV (decide (wideV a false < wideV b false)) else if k = 14 then (mulV a b true).2 else if k = 15 then IntKind.wrap .u32 (clzV a) else if k = 16 then IntKind.wrap .u32 (clzV (bits .xor .u32 4294967295 a)) else a
theorem valV_u {k a b i : Int} (ha : isU a) (hi : isU i) : isU (valV k a b i) := by
 have bu : ∀ q, isU (bitV q) := fun q => by unfold bitV; split <;> exact ⟨by decide, by decide⟩
 have sh : isU (a.fdiv (2 ^ min (b % 32).toNat 32)) := by
  have hp : (0 : Int) < 2 ^ min (b % 32).toNat 32 := Int.pow_pos (by decide)
  rw [fdiv_w _ _ (Int.le_of_lt hp)]
  exact ⟨Int.ediv_nonneg ha.1 (Int.le_of_lt hp), Int.lt_of_le_of_lt (Int.ediv_le_self _ ha.1) ha.2⟩
 unfold valV
 by_cases c1 : k = 1
 ·rw [if_pos c1]; exact hi
 rw [if_neg c1]
 by_cases c2 : k = 2
 ·rw [if_pos c2]; exact ha
 rw [if_neg c2]
 by_cases c3 : k = 3
 ·rw [if_pos c3]; exact wrap_u _
 rw [if_neg c3]
 by_cases c4 : k = 4
 ·rw [if_pos c4]; exact wrap_u _
 rw [if_neg c4]
 by_cases c5 : k = 5
 ·rw [if_pos c5]; exact and_rng _ _
 rw [if_neg c5]
 by_cases c6 : k = 6
 ·rw [if_pos c6]; exact or_rng _ _
 rw [if_neg c6]
 by_cases c7 : k = 7
 ·rw [if_pos c7]; exact xor_rng _ _
 rw [if_neg c7]
 by_cases c8 : k = 8
 ·rw [if_pos c8]; exact xor_rng _ _
 rw [if_neg c8]
 by_cases c9 : k = 9
 ·rw [if_pos c9]; exact wrap_u _
 rw [if_neg c9]
 by_cases c10 : k = 10
 ·rw [if_pos c10]; exact sh
 rw [if_neg c10]
 by_cases c11 : k = 11
 ·rw [if_pos c11]; exact sarN_u _ _ ha
 rw [if_neg c11]
 by_cases c12 : k = 12
 ·rw [if_pos c12]; exact bu _
 rw [if_neg c12]
 by_cases c13 : k = 13
 ·rw [if_pos c13]; exact bu _
 rw [if_neg c13]
 by_cases c14 : k = 14
 ·rw [if_pos c14]; exact (mulV_u _ _ _).2
 rw [if_neg c14]
 by_cases c15 : k = 15
 ·rw [if_pos c15]; exact wrap_u _
 rw [if_neg c15]
 by_cases c16 : k = 16
 ·rw [if_pos c16]; exact wrap_u _
 rw [if_neg c16]
 exact ha
def one18 (f : Nat → Int) (o : Op19) : Nat → Int :=
 let a := f o.a.toNat
 let b := f o.b.toNat
 if o.k = 0 then f else if o.k = 17 ∨ o.k = 18 then upd (upd f 32 (mulV a b (o.k == 17)).1) 33 (mulV a b (o.k == 17)).2
 else if o.k = 19 ∨ o.k = 20 then upd (upd f 33 (divV a b (o.k == 19)).1) 32 (divV a b (o.k == 19)).2
 else if (o.k = 21 ∨ o.k = 22) ∧ (b == 0) ≠ (o.k == 21) then f
 else if o.d > 0 then upd f o.d.toNat (valV o.k a b o.i) else f
def run18 (f : Nat → Int) (l : List Op19) : Nat → Int := l.foldl one18 f
def AllU (f : Nat → Int) : Prop := ∀ i, isU (f i)
theorem upd_u {f : Nat → Int} (h : AllU f) (i : Nat) {v : Int} (hv : isU v) : AllU (upd f i v) := fun j => by
 unfold upd; split
 ·exact hv
 ·exact h j
theorem one18_u {f : Nat → Int} (h : AllU f) {o : Op19} (ho : OpR o) : AllU (one18 f o) := by
 unfold one18
 dsimp only
 split
 ·exact h
 split
 ·exact upd_u (upd_u h _ (mulV_u _ _ _).1) _ (mulV_u _ _ _).2
 split
 ·exact upd_u (upd_u h _ (divV_u (h _) _).1) _ (divV_u (h _) _).2
 split
 ·exact h
 split
 ·exact upd_u h _ (valV_u (h _) ho.i)
 ·exact h
def OpB (m : Mem) (b : Nat) (o : Op19) : Prop := ∃ y, m.obj b = some y ∧ y.n = 5 ∧ OpC y.c o
theorem OpB.l0 {b : Nat} {o : Op19} (h : OpB m b o) (k : Int → Prop) : ldI .i64 m b 0 k = k o.k := by obtain ⟨z, e, n, h0, h1, h2, h3, h4⟩ := h; exact ldI_of e (by omega) h0
theorem OpB.l1 {b : Nat} {o : Op19} (h : OpB m b o) (k : Int → Prop) : ldI .i64 m b 1 k = k o.d := by obtain ⟨z, e, n, h0, h1, h2, h3, h4⟩ := h; exact ldI_of e (by omega) h1
theorem OpB.l2 {b : Nat} {o : Op19} (h : OpB m b o) (k : Int → Prop) : ldI .i64 m b 2 k = k o.a := by obtain ⟨z, e, n, h0, h1, h2, h3, h4⟩ := h; exact ldI_of e (by omega) h2
theorem OpB.l3 {b : Nat} {o : Op19} (h : OpB m b o) (k : Int → Prop) : ldI .i64 m b 3 k = k o.b := by obtain ⟨z, e, n, h0, h1, h2, h3, h4⟩ := h; exact ldI_of e (by omega) h3
theorem OpB.l4 {b : Nat} {o : Op19} (h : OpB m b o) (k : Int → Prop) : ldI .u32 m b 4 k = k o.i := by obtain ⟨z, e, n, h0, h1, h2, h3, h4⟩ := h; exact ldI_of e (by omega) h4
def IsOps (m : Mem) (v : AV) (l : List Op19) : Prop := ∃ c : Nat → AV, IsR m 5 v l.length c ∧ ∀ i, (h : i < l.length) → OpC (fun j => c (i * 5 + j)) l[i]
theorem IsOps.keep {m' : Mem} {v : AV} {l : List Op19} (h : IsOps m v l) (K : Keeps m m') : IsOps m' v l := by
 obtain ⟨c, h1, h2⟩ := h; exact ⟨c, h1.keep K, h2⟩
theorem IsOps.fr {m' : Mem} {S : Nat → Prop} {v : AV} {l : List Op19} (h : IsOps m v l) (F : Fr S m m') (hs : ∀ b, own v b → ¬ S b) : IsOps m' v l := by
 obtain ⟨c, h1, h2⟩ := h; exact ⟨c, h1.fr F hs, h2⟩
theorem IsOps.len {v : AV} {l : List Op19} (h : IsOps m v l) (k : Int → Prop) : klen v k = k (l.length : Int) := by
 obtain ⟨c, h1, h2⟩ := h; exact klen_r h1 k
theorem IsOps.ld {v : AV} {l : List Op19} (h : IsOps m v l) (i : Nat) (hi : i < l.length) {k : (Nat → AV) → Prop} (hk : ∀ c, OpC c l[i] → k c) : ksl v fun b o q p => kif (decide (0 ≤ (i : Int)) && decide ((i : Int) < q)) (ldG 5 m b (o + (i : Int).toNat * 5) k) False := by
 obtain ⟨c, h1, h2⟩ := h
 refine ldG_r h1 (by omega) (by omega) fun d hd => hk d ?_
 obtain ⟨a0, a1, a2, a3, a4⟩ := h2 i hi
 simp only [Int.toNat_natCast] at hd
 exact ⟨(hd 0 (by omega)).trans a0, (hd 1 (by omega)).trans a1, (hd 2 (by omega)).trans a2, (hd 3 (by omega)).trans a3, (hd 4 (by omega)).trans a4⟩
end
end Go.Proofs.YtkiggdgphbkneaaGreat.Am
