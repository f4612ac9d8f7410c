/- Storing, putting, marking, telling what was written: the program's and the reference's. Conditions: the memory's four blocks are its own. -/
import Derived.Test.YtobdghdcmkdcaaaR2a
namespace Go.Proofs.Ytobdghdcmkdcaaa.Am
set_option linter.unusedVariables false
set_option linter.unusedSimpArgs false
set_option maxRecDepth 100000

section
variable {m : Mem} {r : RB} {p : Nat} {B : Nat → Int} {M W : Nat → Bool}

/-! ### what was written is noted -/
def tW (M W : Nat → Bool) (a n : Int) : Nat → Bool := fun j => W j || (M j && decide (1 ≤ n ∧ a / 1024 ≤ j ∧ (j : Int) ≤ (a + n - 1) / 1024))
theorem touch_loop {a n : Int} (ha : isU a) (hn : inR p a n) (h1 : 1 ≤ n) {k0 : Mem → Prop} : ∀ (j : Nat) (x : Int) (m : Mem), a / 1024 ≤ x → x + j = (a + n - 1) / 1024 + 1 → IsRam m r p B M (fun i => W i || (M i && decide (a / 1024 ≤ i ∧ (i : Int) < x))) →
    (∀ m', IsRam m' r p B M (tW M W a n) → Fr r.has m m' → k0 m') → L46_2 r.b 0 a n (j + 1) x m k0
  | 0, x, m, hx, e, h, hk => by
    show R46_2 _ _ _ _ _ _ _ _
    unfold R46_2
    obtain ⟨a0, a1⟩ := ha
    obtain ⟨n0, n1⟩ := hn
    have hp := h.p2
    rw [isU.w ⟨a0, a1⟩, wrap64 (n := a + n) (by omega) (by omega), wrap64 (n := a + n - 1) (by omega) (by omega), Int.tdiv_eq_ediv_of_nonneg (by omega), wrap64 (n := (a + n - 1) / 1024) (by omega) (by omega)]
    refine kif_f (by simp; omega) (hk m (h.congr (fun _ _ => rfl) h.rng (fun _ _ => rfl) fun i hi => ?_) (Fr.refl _ _))
    unfold tW
    rw [show decide (a / 1024 ≤ (i : Int) ∧ (i : Int) < x) = decide (1 ≤ n ∧ a / 1024 ≤ (i : Int) ∧ (i : Int) ≤ (a + n - 1) / 1024) from decide_eq_decide.2 (by omega)]
  | j + 1, x, m, hx, e, h, hk => by
    have ha' := ha
    have hn' := hn
    obtain ⟨a0, a1⟩ := ha
    obtain ⟨n0, n1⟩ := hn
    have hp := h.p2
    show R46_2 _ _ _ _ _ _ _ _
    unfold R46_2
    have hx0 : 0 ≤ x ∧ x < p := by omega
    have ew : ((fun i : Nat => W i || (M i && decide (a / 1024 ≤ i ∧ (i : Int) < x))) x.toNat) = W x.toNat := by
      have : ¬ (a / 1024 ≤ ((x.toNat : Nat) : Int) ∧ ((x.toNat : Nat) : Int) < x) := by omega
      show (W x.toNat || (M x.toNat && decide _)) = _
      rw [decide_eq_false this]; simp
    have nx : ∀ q, q = (W x.toNat || M x.toNat) → ∀ m1, IsL m1 1 (r.v3 p) p (upd (cF (fun i => W i || (M i && decide (a / 1024 ≤ i ∧ (i : Int) < x)))) x.toNat (.flat (.bool q))) → Fr (own (r.v3 p)) m m1 → L46_2 r.b 0 a n (j + 1) (IntKind.wrap .i64 (x + 1)) m1 k0 := fun q hq m1 g1 g2 => by
      rw [wrap64 (by omega) (by omega)]
      obtain ⟨g4, g5⟩ := h.set3 (W' := fun i => W i || (M i && decide (a / 1024 ≤ i ∧ (i : Int) < x + 1))) g1 g2 fun i hi => by
        unfold upd cF
        by_cases c : i = x.toNat
        · subst c
          rw [if_pos rfl, hq]
          have : a / 1024 ≤ ((x.toNat : Nat) : Int) ∧ ((x.toNat : Nat) : Int) < x + 1 := by omega
          show AV.flat (.bool _) = AV.flat (.bool (W x.toNat || (M x.toNat && decide _)))
          rw [decide_eq_true this]; simp
        · rw [if_neg c]
          show AV.flat (.bool (W i || (M i && decide _))) = AV.flat (.bool (W i || (M i && decide _)))
          rw [show decide (a / 1024 ≤ (i : Int) ∧ (i : Int) < x) = decide (a / 1024 ≤ (i : Int) ∧ (i : Int) < x + 1) from decide_eq_decide.2 (by omega)]
      exact touch_loop ha' hn' h1 j (x + 1) m1 (by omega) (by omega) g4 fun m' g6 g7 => hk m' g6 (g5.trans g7)
    simp only [Nat.zero_add, h.l3, h.l2]
    rw [isU.w ⟨a0, a1⟩, wrap64 (n := a + n) (by omega) (by omega), wrap64 (n := a + n - 1) (by omega) (by omega), Int.tdiv_eq_ediv_of_nonneg (by omega), wrap64 (n := (a + n - 1) / 1024) (by omega) (by omega)]
    refine kif_t (by simp; omega) (ldB_r (k := fun _ _ q => kif q _ _) h.d3.r hx0.1 hx0.2 (by show AV.flat (.bool _) = _; rw [ew]) fun _ _ _ => kif_c _ (fun c => ?_) fun c => ?_)
    · exact stC_r h.d3 hx0.1 hx0.2 fun m1 g1 g2 _ => nx _ (by simp [c]) m1 g1 g2
    · refine ldB_r (k := fun _ _ q => ksl _ _) h.d2.r hx0.1 hx0.2 rfl fun _ _ _ => ?_
      exact stC_r h.d3 hx0.1 hx0.2 fun m1 g1 g2 _ => nx _ (by simp [c]) m1 g1 g2
theorem touch_spec (h : IsRam m r p B M W) {a n : Int} (ha : isU a) (hn : inR p a n) {k : Mem → Prop} (hk : ∀ m', IsRam m' r p B M (tW M W a n) → Fr r.has m m' → k m') : F46 r.b 0 a n m k := by
  unfold F46
  refine kif_c _ (fun c => ?_) fun c => ?_
  · simp at c
    exact hk m (h.congr (fun _ _ => rfl) h.rng (fun _ _ => rfl) fun i hi => by
      unfold tW
      have : ¬ (1 ≤ n) := by omega
      simp [this]) (Fr.refl _ _)
  · simp at c
    obtain ⟨a0, a1⟩ := ha
    have hp := h.p2
    obtain ⟨n0, n1⟩ := hn
    rw [isU.w ⟨a0, a1⟩, Int.tdiv_eq_ediv_of_nonneg a0, wrap64 (by omega) (by omega)]
    refine ⟨((a + n - 1) / 1024 + 1 - a / 1024).toNat + 1, touch_loop ⟨a0, a1⟩ ⟨n0, n1⟩ c _ _ m (by omega) (by omega) (h.congr (fun _ _ => rfl) h.rng (fun _ _ => rfl) fun i hi => ?_) hk⟩
    have : ¬ (a / 1024 ≤ (i : Int) ∧ (i : Int) < a / 1024) := by omega
    simp [this]
/-! ### storing -/
def by8 (v : Int) (q : Nat) : Int := IntKind.wrap .u8 (v.fdiv (2 ^ (8 * q)))
theorem by8_rng (v : Int) (q : Nat) : 0 ≤ by8 v q ∧ by8 v q < 256 := by
  simp [by8, IntKind.wrap, IntKind.bits, IntKind.signed]; omega
def stv (B : Nat → Int) (a n v : Int) : Nat → Int := fun j => if a ≤ j ∧ (j : Int) < a + n then by8 v (a + n - 1 - j).toNat else B j
end
end Go.Proofs.Ytobdghdcmkdcaaa.Am
