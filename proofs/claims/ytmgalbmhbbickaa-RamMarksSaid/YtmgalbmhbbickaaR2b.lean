/- Storing, putting, marking, telling what was written: the program's and the reference's. Conditions: the memory's four blocks are its own. -/
import Derived.Test.YtmgalbmhbbickaaR2a
namespace Go.Proofs.Ytmgalbmhbbickaa.Am
set_option linter.unusedVariables false
set_option linter.unusedSimpArgs false
set_option maxRecDepth 100000

section
variable {m : Mem} {r : RB} {p : Nat} {B : Nat → Int} {M W : Nat → Bool}

/-! ### what was written is noted -/
def tW (M W : Nat → Bool) (a n : Int) : Nat → Bool := fun j => W j || (M j && decide (1 ≤ n ∧ a / 1024 ≤ j ∧ (j : Int) ≤ (a + n - 1) / 1024))
theorem touch_loop {a n : Int} (ha : isU a) (hn : inR p a n) (h1 : 1 ≤ n) {k0 : Mem → Prop} : ∀ (j : Nat) (x : Int) (m : Mem), a / 1024 ≤ x → x + j = (a + n - 1) / 1024 + 1 → IsRam m r p B M (fun i => W i || (M i && decide (a / 1024 ≤ i ∧ (i : Int) < x))) →
    (∀ m', IsRam m' r p B M (tW M W a n) → Fr r.has m m' → k0 m') → L22_2 r.b 0 a n (j + 1) x m k0
  | 0, x, m, hx, e, h, hk => by
    show R22_2 _ _ _ _ _ _ _ _
    unfold R22_2
    obtain ⟨a0, a1⟩ := ha
    obtain ⟨n0, n1⟩ := hn
    have hp := h.p2
    rw [isU.w ⟨a0, a1⟩, wrap64 (n := a + n) (by omega) (by omega), wrap64 (n := a + n - 1) (by omega) (by omega), Int.tdiv_eq_ediv_of_nonneg (by omega), wrap64 (n := (a + n - 1) / 1024) (by omega) (by omega)]
    refine kif_f (by simp; omega) (hk m (h.congr (fun _ _ => rfl) h.rng (fun _ _ => rfl) fun i hi => ?_) (Fr.refl _ _))
    unfold tW
    rw [show decide (a / 1024 ≤ (i : Int) ∧ (i : Int) < x) = decide (1 ≤ n ∧ a / 1024 ≤ (i : Int) ∧ (i : Int) ≤ (a + n - 1) / 1024) from decide_eq_decide.2 (by omega)]
  | j + 1, x, m, hx, e, h, hk => by
    have ha' := ha
    have hn' := hn
    obtain ⟨a0, a1⟩ := ha
    obtain ⟨n0, n1⟩ := hn
    have hp := h.p2
    show R22_2 _ _ _ _ _ _ _ _
    unfold R22_2
    have hx0 : 0 ≤ x ∧ x < p := by omega
    have ew : ((fun i : Nat => W i || (M i && decide (a / 1024 ≤ i ∧ (i : Int) < x))) x.toNat) = W x.toNat := by
      have : ¬ (a / 1024 ≤ ((x.toNat : Nat) : Int) ∧ ((x.toNat : Nat) : Int) < x) := by omega
      show (W x.toNat || (M x.toNat && decide _)) = _
      rw [decide_eq_false this]; simp
    have nx : ∀ q, q = (W x.toNat || M x.toNat) → ∀ m1, IsL m1 1 (r.v3 p) p (upd (cF (fun i => W i || (M i && decide (a / 1024 ≤ i ∧ (i : Int) < x)))) x.toNat (.flat (.bool q))) → Fr (own (r.v3 p)) m m1 → L22_2 r.b 0 a n (j + 1) (IntKind.wrap .i64 (x + 1)) m1 k0 := fun q hq m1 g1 g2 => by
      rw [wrap64 (by omega) (by omega)]
      obtain ⟨g4, g5⟩ := h.set3 (W' := fun i => W i || (M i && decide (a / 1024 ≤ i ∧ (i : Int) < x + 1))) g1 g2 fun i hi => by
        unfold upd cF
        by_cases c : i = x.toNat
        · subst c
          rw [if_pos rfl, hq]
          have : a / 1024 ≤ ((x.toNat : Nat) : Int) ∧ ((x.toNat : Nat) : Int) < x + 1 := by omega
          show AV.flat (.bool _) = AV.flat (.bool (W x.toNat || (M x.toNat && decide _)))
          rw [decide_eq_true this]; simp
        · rw [if_neg c]
          show AV.flat (.bool (W i || (M i && decide _))) = AV.flat (.bool (W i || (M i && decide _)))
          rw [show decide (a / 1024 ≤ (i : Int) ∧ (i : Int) < x) = decide (a / 1024 ≤ (i : Int) ∧ (i : Int) < x + 1) from decide_eq_decide.2 (by omega)]
      exact touch_loop ha' hn' h1 j (x + 1) m1 (by omega) (by omega) g4 fun m' g6 g7 => hk m' g6 (g5.trans g7)
    simp only [Nat.zero_add, h.l3, h.l2]
    rw [isU.w ⟨a0, a1⟩, wrap64 (n := a + n) (by omega) (by omega), wrap64 (n := a + n - 1) (by omega) (by omega), Int.tdiv_eq_ediv_of_nonneg (by omega), wrap64 (n := (a + n - 1) / 1024) (by omega) (by omega)]
    refine kif_t (by simp; omega) (ldB_r (k := fun _ _ q => kif q _ _) h.d3.r hx0.1 hx0.2 (by show AV.flat (.bool _) = _; rw [ew]) fun _ _ _ => kif_c _ (fun c => ?_) fun c => ?_)
    · exact stC_r h.d3 hx0.1 hx0.2 fun m1 g1 g2 _ => nx _ (by simp [c]) m1 g1 g2
    · refine ldB_r (k := fun _ _ q => ksl _ _) h.d2.r hx0.1 hx0.2 rfl fun _ _ _ => ?_
      exact stC_r h.d3 hx0.1 hx0.2 fun m1 g1 g2 _ => nx _ (by simp [c]) m1 g1 g2
theorem touch_spec (h : IsRam m r p B M W) {a n : Int} (ha : isU a) (hn : inR p a n) {k : Mem → Prop} (hk : ∀ m', IsRam m' r p B M (tW M W a n) → Fr r.has m m' → k m') : F22 r.b 0 a n m k := by
  unfold F22
  refine kif_c _ (fun c => ?_) fun c => ?_
  · simp at c
    exact hk m (h.congr (fun _ _ => rfl) h.rng (fun _ _ => rfl) fun i hi => by
      unfold tW
      have : ¬ (1 ≤ n) := by omega
      simp [this]) (Fr.refl _ _)
  · simp at c
    obtain ⟨a0, a1⟩ := ha
    have hp := h.p2
    obtain ⟨n0, n1⟩ := hn
    rw [isU.w ⟨a0, a1⟩, Int.tdiv_eq_ediv_of_nonneg a0, wrap64 (by omega) (by omega)]
    refine ⟨((a + n - 1) / 1024 + 1 - a / 1024).toNat + 1, touch_loop ⟨a0, a1⟩ ⟨n0, n1⟩ c _ _ m (by omega) (by omega) (h.congr (fun _ _ => rfl) h.rng (fun _ _ => rfl) fun i hi => ?_) hk⟩
    have : ¬ (a / 1024 ≤ (i : Int) ∧ (i : Int) < a / 1024) := by omega
    simp [this]
theorem rtouch_loop {a n : Int} (ha : isU a) (hn : inR p a n) {k0 : Mem → Prop} : ∀ (j : Nat) (x : Int) (m : Mem), 0 ≤ x → x + j = n → IsRam m r p B M (tW M W a x) →
    (∀ m', IsRam m' r p B M (tW M W a n) → Fr r.has m m' → k0 m') → L35_1 r.b 0 a n (j + 1) x m k0
  | 0, x, m, hx, e, h, hk => by
    show R35_1 _ _ _ _ _ _ _ _
    unfold R35_1
    refine kif_f (by simp; omega) (hk m ?_ (Fr.refl _ _))
    rw [show n = x by omega]; exact h
  | j + 1, x, m, hx, e, h, hk => by
    have ha' := ha
    have hn' := hn
    obtain ⟨a0, a1⟩ := ha
    obtain ⟨n0, n1⟩ := hn
    have hp := h.p2
    show R35_1 _ _ _ _ _ _ _ _
    unfold R35_1
    have hx0 : 0 ≤ (a + x) / 1024 ∧ (a + x) / 1024 < p := by omega
    simp only [Nat.zero_add, h.l3, h.l2]
    rw [isU.w ⟨a0, a1⟩, wrap64 (n := a + x) (by omega) (by omega), Int.tdiv_eq_ediv_of_nonneg (by omega), wrap64 (n := (a + x) / 1024) (by omega) (by omega), wrap64 (n := x + 1) (by omega) (by omega)]
    have same : ∀ i : Nat, i ≠ ((a + x) / 1024).toNat ∨ M i = false → tW M W a x i = tW M W a (x + 1) i := fun i hi => by
      unfold tW
      rcases hi with hi | hi
      · rw [show decide (1 ≤ x ∧ a / 1024 ≤ (i : Int) ∧ (i : Int) ≤ (a + x - 1) / 1024) = decide (1 ≤ x + 1 ∧ a / 1024 ≤ (i : Int) ∧ (i : Int) ≤ (a + (x + 1) - 1) / 1024) from decide_eq_decide.2 (by omega)]
      · simp [hi]
    refine kif_t (by simp; omega) (ldB_r (k := fun _ _ q => kif q _ _) h.d2.r hx0.1 hx0.2 rfl fun _ _ _ => kif_c _ (fun c => ?_) fun c => ?_)
    · refine stC_r h.d3 hx0.1 hx0.2 fun m1 g1 g2 _ => ?_
      obtain ⟨g4, g5⟩ := h.set3 (W' := tW M W a (x + 1)) g1 g2 fun i hi => by
        unfold upd
        by_cases c1 : i = ((a + x) / 1024).toNat
        · subst c1
          rw [if_pos rfl]
          unfold cF tW
          have : 1 ≤ x + 1 ∧ a / 1024 ≤ (((a + x) / 1024).toNat : Int) ∧ (((a + x) / 1024).toNat : Int) ≤ (a + (x + 1) - 1) / 1024 := by omega
          rw [decide_eq_true this, c]; simp
        · rw [if_neg c1]; unfold cF; rw [same i (.inl c1)]
      exact rtouch_loop ha' hn' j (x + 1) m1 (by omega) (by omega) g4 fun m' g6 g7 => hk m' g6 (g5.trans g7)
    · refine rtouch_loop ha' hn' j (x + 1) m (by omega) (by omega) (h.congr (fun _ _ => rfl) h.rng (fun _ _ => rfl) fun i hi => ?_) hk
      by_cases c1 : i = ((a + x) / 1024).toNat
      · exact same i (.inr (by rw [c1]; exact c))
      · exact same i (.inl c1)
theorem rtouch_spec (h : IsRam m r p B M W) {a n : Int} (ha : isU a) (hn : inR p a n) {k : Mem → Prop} (hk : ∀ m', IsRam m' r p B M (tW M W a n) → Fr r.has m m' → k m') : F35 r.b 0 a n m k := by
  unfold F35
  refine ⟨n.toNat + 1, rtouch_loop ha hn _ 0 m (by omega) (by have := hn.1; omega) (h.congr (fun _ _ => rfl) h.rng (fun _ _ => rfl) fun i hi => ?_) hk⟩
  unfold tW
  simp

/-! ### storing -/
def by8 (v : Int) (q : Nat) : Int := IntKind.wrap .u8 (v.fdiv (2 ^ (8 * q)))
theorem by8_rng (v : Int) (q : Nat) : 0 ≤ by8 v q ∧ by8 v q < 256 := by
  simp [by8, IntKind.wrap, IntKind.bits, IntKind.signed]; omega
def stv (B : Nat → Int) (a n v : Int) : Nat → Int := fun j => if a ≤ j ∧ (j : Int) < a + n then by8 v (a + n - 1 - j).toNat else B j
theorem store_loop {a n v : Int} (ha : isU a) (hn : inR p a n) (hn4 : n ≤ 4) {k0 : Mem → Prop} : ∀ (j : Nat) (x : Int) (m : Mem), 0 ≤ x → x + j = n → IsRam m r p (fun i => if a + n - x ≤ i ∧ (i : Int) < a + n then by8 v (a + n - 1 - i).toNat else B i) M W →
    (∀ m', IsRam m' r p (stv B a n v) M W → Fr r.has m m' → k0 m') → L10_4 r.b 0 a n v n (j + 1) x m k0
  | 0, x, m, hx, e, h, hk => by
    show R10_4 _ _ _ _ _ _ _ _ _ _
    unfold R10_4
    refine kif_f (by simp; omega) (hk m ?_ (Fr.refl _ _))
    rw [show x = n by omega, show a + n - n = a by omega] at h
    exact h
  | j + 1, x, m, hx, e, h, hk => by
    have ha' := ha
    have hn' := hn
    obtain ⟨a0, a1⟩ := ha
    obtain ⟨n0, n1⟩ := hn
    have hp := h.p2
    show R10_4 _ _ _ _ _ _ _ _ _ _
    unfold R10_4
    simp only [Nat.zero_add, h.l1]
    rw [isU.w ⟨a0, a1⟩, wrap64 (n := a + n) (by omega) (by omega), wrap64 (n := a + n - 1) (by omega) (by omega), wrap64 (n := a + n - 1 - x) (by omega) (by omega), wrap64 (n := 8 * x) (by omega) (by omega), wrap64 (n := x + 1) (by omega) (by omega)]
    refine kif_t (by simp; omega) (kif_f (by simp; omega) (stC_r h.d1 (by omega) (by omega) fun m1 g1 g2 _ => ?_))
    obtain ⟨g4, g5⟩ := h.set1 (B' := fun i => if a + n - (x + 1) ≤ i ∧ (i : Int) < a + n then by8 v (a + n - 1 - i).toNat else B i) g1 g2 (fun i hi => by
      unfold upd cB
      dsimp only
      by_cases c1 : i = (a + n - 1 - x).toNat
      · subst c1
        rw [if_pos rfl, if_pos (by omega)]
        unfold by8
        rw [show min (8 * x).toNat 32 = 8 * (a + n - 1 - ((a + n - 1 - x).toNat : Int)).toNat by omega]
      · rw [if_neg c1]
        by_cases c2 : a + n - x ≤ (i : Int) ∧ (i : Int) < a + n
        · rw [if_pos c2, if_pos (by omega)]
        · rw [if_neg c2, if_neg (by omega)]) (fun i => by
      by_cases c2 : a + n - (x + 1) ≤ (i : Int) ∧ (i : Int) < a + n
      · simp only [if_pos c2]; exact by8_rng _ _
      · simp only [if_neg c2]
        have := h.rng i
        try dsimp only at this
        rw [if_neg (by omega)] at this; exact this)
    exact store_loop ha' hn' hn4 j (x + 1) m1 (by omega) (by omega) g4 fun m' g6 g7 => hk m' g6 (g5.trans g7)
theorem store_spec (h : IsRam m r p B M W) {a n v : Int} (ha : isU a) (hn : isI n) {k : Bool → Mem → Prop} (h0 : ¬ evenR p a n → k false m) (h1 : evenR p a n → ∀ m', IsRam m' r p (stv B a n v) M (tW M W a n) → Fr r.has m m' → k true m') : F10 r.b 0 a n v m k := by
  unfold F10
  refine even_spec h ha hn (kif_c _ (fun c => h0 (by simpa using c)) fun c => ?_)
  have c : evenR p a n := by simpa using c
  have hn3 := c.1
  refine ⟨n.toNat + 1, store_loop ha c.2.2 (by omega) _ 0 m (by omega) (by omega) (h.congr (fun i hi => by rw [if_neg (by omega)]) (fun i => by (try dsimp only); rw [if_neg (by omega)]; exact h.rng i) (fun _ _ => rfl) (fun _ _ => rfl)) fun m1 g1 g2 => ?_⟩
  exact touch_spec g1 ha c.2.2 fun m2 g3 g4 => h1 c m2 g3 (g2.trans g4)
theorem rstore_loop {a n v : Int} (ha : isU a) (hn : inR p a n) (hn4 : n ≤ 4) {k0 : Mem → Prop} : ∀ (j : Nat) (x : Int) (m : Mem), 0 ≤ x → x + j = n → IsRam m r p (fun i => if a ≤ i ∧ (i : Int) < a + x then by8 v (a + n - 1 - i).toNat else B i) M W →
    (∀ m', IsRam m' r p (stv B a n v) M W → Fr r.has m m' → k0 m') → L28_4 r.b 0 a n v (j + 1) x m k0
  | 0, x, m, hx, e, h, hk => by
    show R28_4 _ _ _ _ _ _ _ _ _
    unfold R28_4
    refine kif_f (by simp; omega) (hk m ?_ (Fr.refl _ _))
    rw [show x = n by omega] at h
    exact h
  | j + 1, x, m, hx, e, h, hk => by
    have ha' := ha
    have hn' := hn
    obtain ⟨a0, a1⟩ := ha
    obtain ⟨n0, n1⟩ := hn
    have hp := h.p2
    show R28_4 _ _ _ _ _ _ _ _ _
    unfold R28_4
    simp only [Nat.zero_add, h.l1]
    rw [isU.w ⟨a0, a1⟩, wrap64 (n := a + x) (by omega) (by omega), wrap64 (n := n - 1) (by omega) (by omega), wrap64 (n := n - 1 - x) (by omega) (by omega), wrap64 (n := 8 * (n - 1 - x)) (by omega) (by omega), wrapU64 (by omega) (by omega), wrap64 (n := x + 1) (by omega) (by omega)]
    refine kif_t (by simp; omega) (kif_f (by simp; omega) (stC_r h.d1 (by omega) (by omega) fun m1 g1 g2 _ => ?_))
    obtain ⟨g4, g5⟩ := h.set1 (B' := fun i => if a ≤ i ∧ (i : Int) < a + (x + 1) then by8 v (a + n - 1 - i).toNat else B i) g1 g2 (fun i hi => by
      unfold upd cB
      dsimp only
      by_cases c1 : i = (a + x).toNat
      · subst c1
        rw [if_pos rfl, if_pos (by omega)]
        unfold by8
        rw [show min (8 * (n - 1 - x)).toNat 32 = 8 * (a + n - 1 - ((a + x).toNat : Int)).toNat by omega]
      · rw [if_neg c1]
        by_cases c2 : a ≤ (i : Int) ∧ (i : Int) < a + x
        · rw [if_pos c2, if_pos (by omega)]
        · rw [if_neg c2, if_neg (by omega)]) (fun i => by
      by_cases c2 : a ≤ (i : Int) ∧ (i : Int) < a + (x + 1)
      · simp only [if_pos c2]; exact by8_rng _ _
      · simp only [if_neg c2]
        have := h.rng i
        try dsimp only at this
        rw [if_neg (by omega)] at this; exact this)
    exact rstore_loop ha' hn' hn4 j (x + 1) m1 (by omega) (by omega) g4 fun m' g6 g7 => hk m' g6 (g5.trans g7)
theorem rstore_spec (h : IsRam m r p B M W) {a n v : Int} (ha : isU a) (hn : isI n) {k : Bool → Mem → Prop} (h0 : ¬ evenR p a n → k false m) (h1 : evenR p a n → ∀ m', IsRam m' r p (stv B a n v) M (tW M W a n) → Fr r.has m m' → k true m') : F28 r.b 0 a n v m k := by
  unfold F28
  have one : (n = 1 ∨ n = 2 ∨ n = 4) → kif (decide (IntKind.wrap .u32 n = 0)) False (kif ((a.tmod (IntKind.wrap .u32 n)) != 0) (k false m) (F34 r.b 0 a n m fun x1 m2 => kif (!x1) (k false m2) (P28_3103 r.b 0 a n v m2 (fun x16 m17 => k x16 m17)))) := by
    intro hq
    have hw : IntKind.wrap .u32 n = n := by rw [wrap32]; omega
    rw [hw, tmod_nn ha.1]
    refine kif_f (by simp; omega) (kif_c _ (fun c => ?_) fun c => in_spec h ha hn (kif_c _ (fun c2 => ?_) fun c2 => ?_))
    · simp at c
      exact h0 fun h => c h.2.1
    · simp at c c2
      exact h0 fun h => c2 h.2.2
    · simp at c c2
      unfold P28_3103
      refine ⟨n.toNat + 1, rstore_loop ha c2 (by omega) _ 0 m (by omega) (by omega) (h.congr (fun i hi => by rw [if_neg (by omega)]) (fun i => by (try dsimp only); rw [if_neg (by omega)]; exact h.rng i) (fun _ _ => rfl) (fun _ _ => rfl)) fun m1 g1 g2 => ?_⟩
      exact rtouch_spec g1 ha c2 fun m2 g3 g4 => h1 ⟨hq, c, c2⟩ m2 g3 (g2.trans g4)
  refine kif_c _ (fun c1 => kif_c _ (fun c2 => kif_c _ (fun c3 => h0 ?_) fun c => one ?_) fun c => one ?_) fun c => one ?_
  · simp at c1 c2 c3
    intro h; unfold evenR at h; omega
  all_goals simp at c; simp [c]
end
end Go.Proofs.Ytmgalbmhbbickaa.Am
