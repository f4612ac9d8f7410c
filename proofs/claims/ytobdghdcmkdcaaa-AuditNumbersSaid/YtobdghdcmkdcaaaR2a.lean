/- Memory of pages in abstract memory; what the program's and the reference's functions on it ask. Conditions: the memory's four blocks are its own. -/
import Derived.Test.YtobdghdcmkdcaaaM4
import Derived.Test.YtobdghdcmkdcaaaAmP
namespace Go.Proofs.Ytobdghdcmkdcaaa.Am
set_option linter.unusedVariables false
set_option linter.unusedSimpArgs false
set_option maxRecDepth 100000

/-- the four blocks of a memory: the struct, bytes, marks, what was written -/
structure RB where
  b : Nat
  b1 : Nat
  b2 : Nat
  b3 : Nat
def RB.has (r : RB) (x : Nat) : Prop := x = r.b ∨ x = r.b1 ∨ x = r.b2 ∨ x = r.b3
abbrev RB.v1 (r : RB) (p : Nat) : AV := .sl r.b1 0 (p * 1024) (.ex (p * 1024))
abbrev RB.v2 (r : RB) (p : Nat) : AV := .sl r.b2 0 p (.ex p)
abbrev RB.v3 (r : RB) (p : Nat) : AV := .sl r.b3 0 p (.ex p)
def cB (B : Nat → Int) : Nat → AV := fun i => .flat (.int .u8 (B i))
def cF (M : Nat → Bool) : Nat → AV := fun i => .flat (.bool (M i))
structure IsRam (m : Mem) (r : RB) (p : Nat) (B : Nat → Int) (M W : Nat → Bool) : Prop where
  s : ∃ y, m.obj r.b = some y ∧ y.n = 3 ∧ y.c 0 = r.v1 p ∧ y.c 1 = r.v2 p ∧ y.c 2 = r.v3 p
  d1 : IsL m 1 (r.v1 p) (p * 1024) (cB B)
  d2 : IsL m 1 (r.v2 p) p (cF M)
  d3 : IsL m 1 (r.v3 p) p (cF W)
  rng : ∀ i, 0 ≤ B i ∧ B i < 256
  p1 : 1 ≤ p
  p2 : p ≤ 64
  ne : r.b ≠ r.b1 ∧ r.b ≠ r.b2 ∧ r.b ≠ r.b3 ∧ r.b1 ≠ r.b2 ∧ r.b1 ≠ r.b3 ∧ r.b2 ≠ r.b3

section
variable {m : Mem} {r : RB} {p : Nat} {B : Nat → Int} {M W : Nat → Bool}
theorem IsRam.live (h : IsRam m r p B M W) {x : Nat} (hx : r.has x) : m.obj x ≠ none := by
  rcases hx with rfl | rfl | rfl | rfl
  · obtain ⟨y, e, _⟩ := h.s; rw [e]; simp
  · exact h.d1.live rfl
  · exact h.d2.live rfl
  · exact h.d3.live rfl
theorem IsRam.fr {m' : Mem} {S : Nat → Prop} (h : IsRam m r p B M W) (F : Fr S m m') (hs : ∀ x, r.has x → ¬ S x) : IsRam m' r p B M W := by
  obtain ⟨y, e, hy⟩ := h.s
  exact ⟨⟨y, by rw [F r.b (by rw [e]; simp) (hs _ (.inl rfl))]; exact e, hy⟩, h.d1.fr F fun b e => hs b (.inr (.inl e.symm)), h.d2.fr F fun b e => hs b (.inr (.inr (.inl e.symm))), h.d3.fr F fun b e => hs b (.inr (.inr (.inr e.symm))), h.rng, h.p1, h.p2, h.ne⟩
theorem IsRam.keep {m' : Mem} (h : IsRam m r p B M W) (K : Keeps m m') : IsRam m' r p B M W := h.fr (K.fr fun _ => False) fun _ _ e => e
theorem IsRam.l1 (h : IsRam m r p B M W) (k : AV → Prop) : ldA m r.b 0 k = k (r.v1 p) := by
  obtain ⟨y, e, hn, h1, h2, h3⟩ := h.s
  exact ldA_sl e (by omega) h1
theorem IsRam.l2 (h : IsRam m r p B M W) (k : AV → Prop) : ldA m r.b 1 k = k (r.v2 p) := by
  obtain ⟨y, e, hn, h1, h2, h3⟩ := h.s
  exact ldA_sl e (by omega) h2
theorem IsRam.l3 (h : IsRam m r p B M W) (k : AV → Prop) : ldA m r.b 2 k = k (r.v3 p) := by
  obtain ⟨y, e, hn, h1, h2, h3⟩ := h.s
  exact ldA_sl e (by omega) h3
theorem IsRam.set1 {m' : Mem} {c : Nat → AV} {B' : Nat → Int} (h : IsRam m r p B M W) (h1 : IsL m' 1 (r.v1 p) (p * 1024) c) (F : Fr (own (r.v1 p)) m m') (e : ∀ i, i < p * 1024 → c i = cB B' i) (hr : ∀ i, 0 ≤ B' i ∧ B' i < 256) : IsRam m' r p B' M W ∧ Fr r.has m m' := by
  obtain ⟨y, ey, hy⟩ := h.s
  obtain ⟨n1, n2, n3, n4, n5, n6⟩ := h.ne
  exact ⟨⟨⟨y, by rw [F r.b (by rw [ey]; simp) fun e => n1 e.symm]; exact ey, hy⟩, h1.congr fun i hi => e i (by omega), h.d2.fr F fun b e e' => n4 (Eq.trans e' e.symm), h.d3.fr F fun b e e' => n5 (Eq.trans e' e.symm), hr, h.p1, h.p2, h.ne⟩, F.mono fun b _ e => .inr (.inl e.symm)⟩
theorem IsRam.set2 {m' : Mem} {c : Nat → AV} {M' : Nat → Bool} (h : IsRam m r p B M W) (h1 : IsL m' 1 (r.v2 p) p c) (F : Fr (own (r.v2 p)) m m') (e : ∀ i, i < p → c i = cF M' i) : IsRam m' r p B M' W ∧ Fr r.has m m' := by
  obtain ⟨y, ey, hy⟩ := h.s
  obtain ⟨n1, n2, n3, n4, n5, n6⟩ := h.ne
  exact ⟨⟨⟨y, by rw [F r.b (by rw [ey]; simp) fun e => n2 e.symm]; exact ey, hy⟩, h.d1.fr F fun b e e' => n4 (Eq.trans e e'.symm), h1.congr fun i hi => e i (by omega), h.d3.fr F fun b e e' => n6 (Eq.trans e' e.symm), h.rng, h.p1, h.p2, h.ne⟩, F.mono fun b _ e => .inr (.inr (.inl e.symm))⟩
theorem IsRam.set3 {m' : Mem} {c : Nat → AV} {W' : Nat → Bool} (h : IsRam m r p B M W) (h1 : IsL m' 1 (r.v3 p) p c) (F : Fr (own (r.v3 p)) m m') (e : ∀ i, i < p → c i = cF W' i) : IsRam m' r p B M W' ∧ Fr r.has m m' := by
  obtain ⟨y, ey, hy⟩ := h.s
  obtain ⟨n1, n2, n3, n4, n5, n6⟩ := h.ne
  exact ⟨⟨⟨y, by rw [F r.b (by rw [ey]; simp) fun e => n3 e.symm]; exact ey, hy⟩, h.d1.fr F fun b e e' => n5 (Eq.trans e e'.symm), h.d2.fr F fun b e e' => n6 (Eq.trans e e'.symm), h1.congr fun i hi => e i (by omega), h.rng, h.p1, h.p2, h.ne⟩, F.mono fun b _ e => .inr (.inr (.inr e.symm))⟩
theorem IsRam.congr {B' : Nat → Int} {M' W' : Nat → Bool} (h : IsRam m r p B M W) (e1 : ∀ i, i < p * 1024 → B i = B' i) (hr : ∀ i, 0 ≤ B' i ∧ B' i < 256) (e2 : ∀ i, i < p → M i = M' i) (e3 : ∀ i, i < p → W i = W' i) : IsRam m r p B' M' W' :=
  ⟨h.s, h.d1.congr fun i hi => by simp [cB, e1 i (by omega)], h.d2.congr fun i hi => by simp [cF, e2 i (by omega)], h.d3.congr fun i hi => by simp [cF, e3 i (by omega)], hr, h.p1, h.p2, h.ne⟩

/-- so many bytes from a place on are there -/
def inR (p : Nat) (a n : Int) : Prop := 0 ≤ n ∧ a + n ≤ p * 1024
instance (p : Nat) (a n : Int) : Decidable (inR p a n) := by unfold inR; infer_instance
def evenR (p : Nat) (a n : Int) : Prop := (n = 1 ∨ n = 2 ∨ n = 4) ∧ a % n = 0 ∧ inR p a n
instance (p : Nat) (a n : Int) : Decidable (evenR p a n) := by unfold evenR; infer_instance
def isI (n : Int) : Prop := -9223372036854775808 ≤ n ∧ n < 9223372036854775808
def isU (n : Int) : Prop := 0 ≤ n ∧ n < 4294967296
theorem isU.w {n : Int} (h : isU n) : IntKind.wrap .i64 n = n := by obtain ⟨h0, h1⟩ := h; exact wrap64 (by omega) (by omega)
theorem wrapU64 {n : Int} (h : 0 ≤ n) (h' : n < 18446744073709551616) : IntKind.wrap .u64 n = n := by
  simp [IntKind.wrap, IntKind.bits, IntKind.signed]; omega

theorem there_spec (h : IsRam m r p B M W) {a n : Int} (ha : isU a) (hn : isI n) {k : Bool → Mem → Prop} (hk : k (decide (inR p a n)) m) : F45 r.b 0 a n m k := by
  unfold F45
  have hp := h.p2
  obtain ⟨a0, a1⟩ := ha
  obtain ⟨n0, n1⟩ := hn
  simp only [Nat.zero_add, h.l1, isU.w ⟨a0, a1⟩, klen]
  refine kif_c _ (fun c1 => kif_c _ (fun c2 => ?_) fun c2 => ?_) fun c1 => ?_
  · simp at c1 c2
    refine ⟨Keeps.self m, ?_⟩
    rw [wrap64 (by omega) (by omega)]
    rw [show decide (n ≤ ((p * 1024 : Nat) : Int) - a) = decide (inR p a n) from decide_eq_decide.2 (by unfold inR; push_cast; omega)]
    exact hk
  · simp at c1 c2
    refine ⟨Keeps.self m, ?_⟩
    rw [show decide (inR p a n) = false from decide_eq_false (by unfold inR; omega)] at hk
    exact hk
  · simp at c1
    refine ⟨Keeps.self m, ?_⟩
    rw [show decide (inR p a n) = false from decide_eq_false (by unfold inR; omega)] at hk
    exact hk
theorem even_spec (h : IsRam m r p B M W) {a n : Int} (ha : isU a) (hn : isI n) {k : Bool → Mem → Prop} (hk : k (decide (evenR p a n)) m) : F55 r.b 0 a n m k := by
  unfold F55
  have one : ∀ q : Int, n = q → (q = 1 ∨ q = 2 ∨ q = 4) → kif (decide (IntKind.wrap .u32 n = 0)) False (kif ((a.tmod (IntKind.wrap .u32 n)) == 0) (F45 r.b 0 a n m fun x1 m2 => (Keeps m m2 ∧ k x1 m)) ((Keeps m m ∧ k false m))) := by
    intro q e hq
    subst e
    have hw : IntKind.wrap .u32 n = n := by rw [wrap32]; omega
    rw [hw, tmod_nn ha.1]
    refine kif_f (by simp; omega) (kif_c _ (fun c => there_spec h ha hn ⟨Keeps.self m, ?_⟩) fun c => ⟨Keeps.self m, ?_⟩)
    · simp at c
      rw [show decide (inR p a n) = decide (evenR p a n) from decide_eq_decide.2 (by unfold evenR; exact ⟨fun h => ⟨hq, c, h⟩, fun h => h.2.2⟩)]
      exact hk
    · simp at c
      rw [show decide (evenR p a n) = false from decide_eq_false (by unfold evenR; intro h; exact c h.2.1)] at hk
      exact hk
  refine kif_c _ (fun c => one 1 (by simpa using c) (by simp)) fun c1 => kif_c _ (fun c => one 2 (by simpa using c) (by simp)) fun c2 => kif_c _ (fun c => one 4 (by simpa using c) (by simp)) fun c3 => ⟨Keeps.self m, ?_⟩
  simp at c1 c2 c3
  rw [show decide (evenR p a n) = false from decide_eq_false (by unfold evenR; omega)] at hk
  exact hk
theorem size_spec (h : IsRam m r p B M W) {k : Int → Mem → Prop} (hk : k ((p * 1024 : Nat) : Int) m) : F32 r.b 0 m k := by
  unfold F32
  have := h.p2
  simp only [Nat.zero_add, h.l1, klen]
  rw [wrap32, Int.emod_eq_of_lt (by omega) (by omega)]
  exact ⟨Keeps.self m, hk⟩
theorem page_spec (h : IsRam m r p B M W) {x : Int} {k : Bool → Mem → Prop} (hk : k (decide (0 ≤ x ∧ x < p)) m) : F52 r.b 0 x m k := by
  unfold F52
  simp only [Nat.zero_add, h.l2, klen]
  refine kif_c _ (fun c => ⟨Keeps.self m, ?_⟩) fun c => ⟨Keeps.self m, ?_⟩
  · simp at c
    rw [show decide (x < (p : Int)) = decide (0 ≤ x ∧ x < p) from decide_eq_decide.2 (by omega)]; exact hk
  · simp at c
    rw [show decide (0 ≤ x ∧ x < (p : Int)) = false from decide_eq_false (by omega)] at hk; exact hk

/-! ### loading -/
def ldv (f : Nat → Int) : Nat → Int
  | 0 => 0
  | i + 1 => bits .or .u32 (IntKind.wrap .u32 (ldv f i * 256)) (IntKind.wrap .u32 (f i))
theorem load_loop {v : AV} {n : Nat} {f : Nat → Int} (h : IsR m 1 v n (cB f)) (hn : (n : Int) < 9223372036854775807) {k0 : Int → Mem → Prop} (hk : k0 (ldv f n) m) : ∀ j i : Nat, i + j = n → ∃ N, L51_5 v n N (ldv f i) i m k0
  | 0, i, e => ⟨1, by
    show R51_5 _ _ _ _ _ _ _
    unfold R51_5
    refine kif_f (by simp; omega) ?_
    rw [show i = n by omega]; exact hk⟩
  | j + 1, i, e => by
    obtain ⟨N, hN⟩ := load_loop h hn hk j (i + 1) (by omega)
    refine ⟨N + 1, ?_⟩
    show R51_5 _ _ _ _ _ _ _
    unfold R51_5
    refine kif_t (by simp; omega) (ldI_r (k := fun _ _ x => _) h (by omega) (by omega) rfl fun _ _ _ => ?_)
    rw [wrap64 (by omega) (by omega)]
    exact hN
theorem load_spec (h : IsRam m r p B M W) {a n : Int} (ha : isU a) (hn : isI n) {k : Int → Bool → Mem → Prop} (hk : k (if evenR p a n then ldv (fun i => B (a.toNat + i)) n.toNat else 0) (decide (evenR p a n)) m) : F51 r.b 0 a n m k := by
  unfold F51
  refine even_spec h ha hn (kif_c _ (fun c => ⟨Keeps.self m, ?_⟩) fun c => ?_)
  · simp at c
    rw [if_neg c, decide_eq_false c] at hk; exact hk
  · simp at c
    rw [if_pos c, decide_eq_true c] at hk
    obtain ⟨hn3, _, hi0, hi1⟩ := c
    obtain ⟨a0, a1⟩ := ha
    have hp := h.p2
    simp only [Nat.zero_add, h.l1]
    rw [isU.w ⟨a0, a1⟩, wrap64 (by omega) (by omega)]
    refine slS_r h.d1.r (l := a.toNat) (u := (a + n).toNat) (by simp [optI]; omega) (by simp [optI]; omega) (by omega) (by omega) (fun b o cap e => by cases e; exact ⟨Nat.le_refl _, fun e q h => by cases h⟩) fun v' hv _ => ?_
    have hv : IsR m 1 v' n.toNat (cB fun i => B (a.toNat + i)) := by
      rw [show (a + n).toNat - a.toNat = n.toNat by omega] at hv
      exact hv.congr fun i hi => by simp [cB]
    rw [klen_r hv]
    obtain ⟨N, hN⟩ := load_loop (k0 := fun x11 m12 => (Keeps m m12 ∧ k x11 true m)) hv (by omega) ⟨Keeps.self m, hk⟩ n.toNat 0 (by omega)
    exact ⟨N, hN⟩
end

end Go.Proofs.Ytobdghdcmkdcaaa.Am
