/- Words are their bytes; marked pages are told once: over the abstract machine. Conditions: what is handed in is plain data. -/
import Derived.Test.YtmgalbmhbbickaaR2e
namespace Go.Proofs.Ytmgalbmhbbickaa.Am
set_option linter.unusedVariables false
set_option linter.unusedSimpArgs false
set_option maxRecDepth 100000

/-! ### words by their bytes -/
theorem wrap8 (n : Int) : IntKind.wrap .u8 n = n % 256 := by simp [IntKind.wrap, IntKind.bits, IntKind.signed]
theorem fdiv_pos {a b : Int} (hb : 0 ≤ b) : a.fdiv b = a / b := Int.fdiv_eq_ediv_of_nonneg a hb
theorem by8_0 (v : Int) : by8 v 0 = v % 256 := by unfold by8; rw [wrap8, fdiv_pos (by decide)]; simp
theorem by8_1 (v : Int) : by8 v 1 = v / 256 % 256 := by unfold by8; rw [wrap8, fdiv_pos (by decide)]; rfl
theorem by8_2 (v : Int) : by8 v 2 = v / 65536 % 256 := by unfold by8; rw [wrap8, fdiv_pos (by decide)]; rfl
theorem by8_3 (v : Int) : by8 v 3 = v / 16777216 % 256 := by unfold by8; rw [wrap8, fdiv_pos (by decide)]; rfl
theorem or_nat {x y : Int} (h0 : 0 ≤ x) (h1 : x < 4294967296) (g0 : 0 ≤ y) (g1 : y < 4294967296) : bits .or .u32 x y = ((x.toNat ||| y.toNat : Nat) : Int) := by
  rw [or_bv, BitVec.toNat_or]
  have e1 := bv_toInt h0 h1
  have e2 := bv_toInt g0 g1
  rw [show (bv x).toNat = x.toNat by omega, show (bv y).toNat = y.toNat by omega]
theorem or_mul (k : Nat) {y z q : Int} (h0 : 0 ≤ y) (h1 : y < 2 ^ k) (hy : y < 4294967296) (hq : 0 ≤ q) (hz : z = q * 2 ^ k) (hz1 : z < 4294967296) : bits .or .u32 y z = y + z := by
  have hp : (0 : Int) < 2 ^ k := Int.pow_pos (by decide)
  have hz0 : 0 ≤ z := by rw [hz]; exact Int.mul_nonneg hq (by omega)
  rw [or_nat h0 hy hz0 hz1]
  have e : z.toNat = q.toNat <<< k := by
    rw [Nat.shiftLeft_eq]
    have : ((q.toNat * 2 ^ k : Nat) : Int) = z := by push_cast; rw [Int.toNat_of_nonneg hq]; exact hz.symm
    omega
  rw [e, Nat.or_comm, ← Nat.shiftLeft_add_eq_or_of_lt (by
    have : ((2 ^ k : Nat) : Int) = 2 ^ k := by push_cast; rfl
    omega), ← e]
  omega
theorem or_comm' (x y : Int) : bits .or .u32 x y = bits .or .u32 y x := by rw [or_bv, or_bv, BitVec.or_comm]
theorem or256 {x y : Int} (h0 : 0 ≤ x) (h1 : x < 16777216) (g0 : 0 ≤ y) (g1 : y < 256) : bits .or .u32 (IntKind.wrap .u32 (x * 256)) (IntKind.wrap .u32 y) = x * 256 + y := by
  rw [wrap32, wrap32, Int.emod_eq_of_lt (by omega) (by omega), Int.emod_eq_of_lt (by omega) (by omega), or_comm', or_mul (z := x * 256) 8 g0 (by omega) (by omega) h0 rfl (by omega)]
  omega
theorem ldv2 {f : Nat → Int} (h : ∀ i, 0 ≤ f i ∧ f i < 256) : ldv f 2 = f 0 * 256 + f 1 := by
  have h0 := h 0
  have h1 := h 1
  show bits .or .u32 (IntKind.wrap .u32 (bits .or .u32 (IntKind.wrap .u32 (0 * 256)) (IntKind.wrap .u32 (f 0)) * 256)) (IntKind.wrap .u32 (f 1)) = _
  rw [or256 (x := 0) (by omega) (by omega) h0.1 h0.2, or256 (by omega) (by omega) h1.1 h1.2]
  omega
theorem ldv4 {f : Nat → Int} (h : ∀ i, 0 ≤ f i ∧ f i < 256) : ldv f 4 = ((f 0 * 256 + f 1) * 256 + f 2) * 256 + f 3 := by
  have h0 := h 0
  have h1 := h 1
  have h2 := h 2
  have h3 := h 3
  show bits .or .u32 (IntKind.wrap .u32 (bits .or .u32 (IntKind.wrap .u32 (ldv f 2 * 256)) (IntKind.wrap .u32 (f 2)) * 256)) (IntKind.wrap .u32 (f 3)) = _
  rw [ldv2 h, or256 (by omega) (by omega) h2.1 h2.2, or256 (by omega) (by omega) h3.1 h3.2]
theorem and_two (x : Int) (M A B : Int) (h : bv A &&& ~~~ bv B = bv M) : bits .and .u32 x M = bits .andNot .u32 (bits .and .u32 x A) B := by
  rw [and_bv, not_bv, and_bv, bv_back, BitVec.and_assoc, h]
theorem and_rngs (x : Int) (b : Nat) (hb : b ≤ 32) (h0 : 0 ≤ x) (h1 : x < 4294967296) : bits .and .u32 x ((2 ^ b - 1 : Nat) : Int) = x % 2 ^ b := and_ones x h0 h1 b hb
theorem mask1 {x : Int} (h0 : 0 ≤ x) (h1 : x < 4294967296) : bits .and .u32 x 65280 = x % 65536 - x % 65536 % 256 := by
  rw [and_two x 65280 65535 255 (by decide), show (65535 : Int) = ((2 ^ 16 - 1 : Nat) : Int) from rfl, and_ones x h0 h1 16 (by omega)]
  rw [andn3 (x % 2 ^ 16) (by omega) (by omega) 8 (by omega) 255 (by decide) (by decide)]
  rfl
theorem mask2 {x : Int} (h0 : 0 ≤ x) (h1 : x < 4294967296) : bits .and .u32 x 16711680 = x % 16777216 - x % 16777216 % 65536 := by
  rw [and_two x 16711680 16777215 65535 (by decide), show (16777215 : Int) = ((2 ^ 24 - 1 : Nat) : Int) from rfl, and_ones x h0 h1 24 (by omega)]
  rw [andn3 (x % 2 ^ 24) (by omega) (by omega) 16 (by omega) 65535 (by decide) (by decide)]
  rfl
theorem turned {v : Int} (h0 : 0 ≤ v) (h1 : v < 4294967296) : bits .or .u32 (bits .or .u32 (bits .or .u32 (v.fdiv 16777216) (bits .and .u32 (v.fdiv 256) 65280)) (bits .and .u32 (IntKind.wrap .u32 (v * 256)) 16711680)) (IntKind.wrap .u32 (v * 16777216)) = ((v % 256 * 256 + v / 256 % 256) * 256 + v / 65536 % 256) * 256 + v / 16777216 % 256 := by
  rw [fdiv_pos (by omega), fdiv_pos (by omega), mask1 (by omega) (by omega), mask2 (wrap32_rng _).1 (wrap32_rng _).2, wrap32, wrap32]
  have e1 : v / 256 % 65536 - v / 256 % 65536 % 256 = (v / 65536 % 256) * 2 ^ 8 := by omega
  have e2 : v * 256 % 4294967296 % 16777216 - v * 256 % 4294967296 % 16777216 % 65536 = (v / 256 % 256) * 2 ^ 16 := by omega
  have e3 : v * 16777216 % 4294967296 = (v % 256) * 2 ^ 24 := by omega
  rw [e1, or_mul 8 (q := v / 65536 % 256) (by omega) (by omega) (by omega) (by omega) rfl (by omega), e2, or_mul 16 (q := v / 256 % 256) (by omega) (by omega) (by omega) (by omega) rfl (by omega), e3, or_mul 24 (q := v % 256) (by omega) (by omega) (by omega) (by omega) rfl (by omega)]
  omega

section
variable {m0 m : Mem} {r : RB} {a v : Int}
/-- the bytes of a word, turned one by one -/
def Bx (a v : Int) (i : Nat) : Nat → Int := fun j => if a ≤ j ∧ (j : Int) < a + i then by8 v (j - a).toNat else stv (fun _ => 0) a 4 v j
theorem Bx_rng (a v : Int) (i j : Nat) : 0 ≤ Bx a v i j ∧ Bx a v i j < 256 := by
  unfold Bx stv
  split
  · exact by8_rng _ _
  · split
    · exact by8_rng _ _
    · exact ⟨Int.le_refl _, (by decide : (0 : Int) < 256)⟩
theorem stv_at {B : Nat → Int} (a0 : 0 ≤ a) (i : Nat) (hi : i < 4) : stv B a 4 v (a.toNat + i) = by8 v (3 - i) := by
  unfold stv
  rw [if_pos (by omega), show (a + 4 - 1 - ((a.toNat + i : Nat) : Int)).toNat = 3 - i by omega]
theorem turn_loop {w : AV} (a0 : 0 ≤ a) (a1 : a + 4 ≤ 2048) (hv : 0 ≤ v) (fr : ∀ b, r.has b → m0.obj b = none) (ow : ∀ b, own w b → ¬ r.has b) {l : AV} {k0 : Mem → Prop} {kr : Bool → Mem → Prop} {M : Nat → Bool}
    (hk : ∀ m' W', IsRam m' r 2 (Bx a v 4) M W' → Keeps m0 m' → k0 m') : ∀ (j i : Nat) (m : Mem) (W : Nat → Bool), i + j = 4 → IsRam m r 2 (Bx a v i) M W → IsL m 1 w 4 (cB fun i => stv (fun _ => 0) a 4 v (a.toNat + i)) → Keeps m0 m → L4_13 v l (.ptr r.b 0) a w (j + 1) i m k0 kr
  | 0, i, m, W, e, h, hw, K => by
    have e : i = 4 := by omega
    subst e
    show R4_13 _ _ _ _ _ _ _ _ _ _
    unfold R4_13
    exact kif_f (by simp) (hk m W h K)
  | j + 1, i, m, W, e, h, hw, K => by
    show R4_13 _ _ _ _ _ _ _ _ _ _
    unfold R4_13
    have w1 : IntKind.wrap .u32 (3 - (i : Int)) = ((3 - i : Nat) : Int) := by rw [wrap32]; omega
    have w2 : IntKind.wrap .u32 (a + (i : Int)) = a + i := by rw [wrap32]; omega
    have w3 : IntKind.wrap .u32 ((i : Int) + 1) = ((i + 1 : Nat) : Int) := by rw [wrap32]; omega
    rw [w1, w2, w3]
    refine kif_t (by simp; omega) (ldI_r (k := fun _ _ x => _) hw.r (by omega) (by omega) rfl fun _ _ _ => ?_)
    rw [Int.toNat_natCast]
    dsimp only
    rw [stv_at a0 (3 - i) (by omega), show 3 - (3 - i) = i by omega]
    have br := by8_rng v i
    simp only [kptr]
    have w4 : IntKind.wrap .u32 (by8 v i) = by8 v i := by rw [wrap32]; omega
    rw [w4]
    have ev : evenR 2 (a + i) 1 := ⟨.inl rfl, by omega, by omega, by omega⟩
    refine store_spec h ⟨by omega, by omega⟩ ⟨by omega, by omega⟩ (fun c => absurd ev c) fun _ m1 h1 F1 => kif_f rfl ?_
    refine turn_loop a0 a1 hv fr ow hk j (i + 1) m1 _ (by omega) (h1.congr (fun t ht => ?_) (Bx_rng a v (i + 1)) (fun _ _ => rfl) fun _ _ => rfl) (hw.fr F1 ow) (F1.keeps K fr)
    unfold stv Bx
    by_cases c1 : (t : Int) = a + i
    · rw [if_pos (by omega), if_pos (by omega), show (a + (i : Int) + 1 - 1 - (t : Int)).toNat = 0 by omega, show ((t : Int) - a).toNat = i by omega, by8_0]
      omega
    · rw [if_neg (by omega)]
      by_cases c2 : a ≤ (t : Int) ∧ (t : Int) < a + i
      · rw [if_pos c2, if_pos (by omega)]
      · rw [if_neg c2, if_neg (by omega)]
theorem back_spec {l : AV} {n : Nat} {f : Nat → Int} {B : Nat → Int} {M W : Nat → Bool} (h : IsRam m r 2 B M W) (K : Keeps m0 m) (fr : ∀ b, r.has b → m0.obj b = none) (a0 : 0 ≤ a) (a1 : a + 4 ≤ 2048) (hl : IsR m0 1 l n (cB f)) (hf : ∀ i, i < n → 0 ≤ f i ∧ f i < 256) (hn : n ≤ 100) {kr : Bool → Mem → Prop} (hk : ∀ m', kr true m') : P4_22103 l (.ptr r.b 0) a m kr := by
  unfold P4_22103
  simp only [kptr]
  rw [tmod_nn a0]
  have i1 : inR 2 (a % 900) n := ⟨by omega, by omega⟩
  refine put_spec h ⟨by omega, by omega⟩ (hl.keep K) hf (by omega) (fun c => absurd i1 c) fun _ m1 h1 F1 => kif_f rfl ?_
  have K1 := F1.keeps K fr
  rw [klen_r hl]
  refine bytes_spec h1 ⟨by omega, by omega⟩ ⟨by omega, by omega⟩ (fun c => absurd i1 c) fun _ w m2 g1 g2 g3 => kif_t rfl ?_
  have hc : ∀ i, i < n → cB f i = .flat (.int .u8 (f i)) ∧ 0 ≤ f i ∧ f i < 256 := fun i hi => ⟨rfl, hf i hi⟩
  refine kstr_b (n := n) (c := cB f) ((by rw [Int.toNat_natCast] at g1; exact g1 : IsL m2 1 w n _).r.congr fun i hi => ?_) f hc (kstr_b ((hl.keep K1).keep g2) f hc (kif_t (by simp) (known2 fun m3 _ => hk m3)))
  unfold cB putB
  dsimp only
  rw [if_pos (by omega), show (a % 900).toNat + i - (a % 900).toNat = i by omega]
theorem RamBytes {x y : Int} {l : AV} (hx : (Lit.int .u32 x).wf = true) (hy : (Lit.int .u32 y).wf = true) (hl : Ty m (.sl [.i .u8]) l) : F4 x y l m isTrue := by
  obtain ⟨n, f, l1, l2, l3, l4⟩ := bytes_ty hl
  obtain ⟨x0, x1⟩ := wf_u32 hx
  obtain ⟨y0, y1⟩ := wf_u32 hy
  unfold F4
  rw [tmod_nn x0, not3 (x % 2044) (by omega) (by omega)]
  generalize ha : x % 2044 - x % 2044 % 4 = a
  have a0 : 0 ≤ a := by omega
  have a1 : a + 4 ≤ 2048 := by omega
  have a4 : a % 4 = 0 := by omega
  refine new_spec fun r m1 h1 K1 f1 => ?_
  have e1 : clampP 2 = 2 := by decide
  rw [e1] at h1
  simp only [knilP, kptr]
  have aU : isU a := ⟨by omega, by omega⟩
  have ev4 : evenR 2 a 4 := ⟨by omega, by omega, by omega, by omega⟩
  refine kif_f rfl (store_spec h1 aU ⟨by omega, by omega⟩ (fun c => absurd ev4 c) fun _ m2 h2 F2 => kif_f rfl ?_)
  have K2 := F2.keeps K1 f1
  refine bytes_spec h2 aU ⟨by omega, by omega⟩ (fun c => absurd ev4.2.2 c) fun _ w m3 g1 g2 g3 => ?_
  have h3 := h2.keep g2
  have K3 := K2.trans g2
  have w2 : IntKind.wrap .u32 (a + 2) = a + 2 := by rw [wrap32]; omega
  rw [w2]
  have ev2 : evenR 2 a 2 := ⟨by omega, by omega, by omega, by omega⟩
  have ev2' : evenR 2 (a + 2) 2 := ⟨by omega, by omega, by omega, by omega⟩
  refine load_spec h3 aU ⟨by omega, by omega⟩ (load_spec h3 (a := a + 2) ⟨by omega, by omega⟩ ⟨by omega, by omega⟩ ?_)
  rw [if_pos ev2, if_pos ev2']
  have g1 : IsL m3 1 w 4 (cB fun i => stv (fun _ => 0) a 4 y (a.toNat + i)) := g1
  rw [klen_r g1.r]
  have rg : ∀ i, 0 ≤ stv (fun _ => 0) a 4 y i ∧ stv (fun _ => 0) a 4 y i < 256 := h3.rng
  have s0 : stv (fun _ => 0) a 4 y (a.toNat + 0) = y / 16777216 % 256 := by rw [stv_at a0 0 (by omega), by8_3]
  have s1 : stv (fun _ => 0) a 4 y (a.toNat + 1) = y / 65536 % 256 := by rw [stv_at a0 1 (by omega), by8_2]
  have s2 : stv (fun _ => 0) a 4 y (a.toNat + 2) = y / 256 % 256 := by rw [stv_at a0 2 (by omega), by8_1]
  have s3 : stv (fun _ => 0) a 4 y (a.toNat + 3) = y % 256 := by rw [stv_at a0 3 (by omega), by8_0]
  refine kif_f rfl ?_
  show ksl w fun b24 o25 l26 p27 => kif (decide (0 ≤ (0 : Int)) && decide ((0 : Int) < l26)) (ldI .u8 m3 b24 (o25 + (0 : Int).toNat * 1) fun x28 => _) False
  refine ldI_r (k := fun _ _ x => _) g1.r (by omega) (by omega) (x := stv (fun _ => 0) a 4 y (a.toNat + 0)) rfl fun _ _ _ => ?_
  rw [s0, wrap8, fdiv_pos (by omega)]
  refine kif_f (by simp) ?_
  show ksl w fun b24 o25 l26 p27 => kif (decide (0 ≤ (3 : Int)) && decide ((3 : Int) < l26)) (ldI .u8 m3 b24 (o25 + (3 : Int).toNat * 1) fun x28 => _) False
  refine ldI_r (k := fun _ _ x => _) g1.r (by omega) (by omega) (x := stv (fun _ => 0) a 4 y (a.toNat + 3)) rfl fun _ _ _ => ?_
  rw [s3, wrap8]
  refine kif_f (by simp) ?_
  have q1 : ldv (fun i => stv (fun _ => 0) a 4 y (a.toNat + i)) (2 : Int).toNat = y.fdiv 65536 := by
    show ldv _ 2 = _
    rw [ldv2 fun i => rg _, s0, s1, fdiv_pos (by omega)]; omega
  have q2 : ldv (fun i => stv (fun _ => 0) a 4 y ((a + 2).toNat + i)) (2 : Int).toNat = bits .and .u32 y 65535 := by
    show ldv _ 2 = _
    rw [ldv2 fun i => rg _, show (a + 2).toNat + 0 = a.toNat + 2 by omega, show (a + 2).toNat + 1 = a.toNat + 3 by omega, s2, s3, show (65535 : Int) = ((2 ^ 16 - 1 : Nat) : Int) from rfl, and_ones y y0 y1 16 (by omega)]
    omega
  rw [q1, q2]
  refine kif_f (by simp) (kif_f (by simp) ⟨5, turn_loop (m0 := m) (M := fun _ => false) a0 a1 y0 f1 (fun b hb hr => ?_) (fun m4 W4 h4 K4 => ?_) 4 0 m3 _ (by omega) (h3.congr (fun i hi => by unfold Bx; rw [if_neg (by omega)]) (Bx_rng a y 0) (fun _ _ => rfl) fun _ _ => rfl) g1 K3⟩)
  · exact h2.live hr (g3 b hb)
  · refine load_spec h4 aU ⟨by omega, by omega⟩ ?_
    rw [if_pos ev4, decide_eq_true ev4]
    refine kif_f rfl ?_
    have bx : ∀ i, i < 4 → Bx a y 4 (a.toNat + i) = by8 y i := fun i hi => by
      unfold Bx; rw [if_pos (by omega), show (((a.toNat + i : Nat) : Int) - a).toNat = i by omega]
    have q3 : ldv (fun i => Bx a y 4 (a.toNat + i)) (4 : Int).toNat = ((y % 256 * 256 + y / 256 % 256) * 256 + y / 65536 % 256) * 256 + y / 16777216 % 256 := by
      show ldv _ 4 = _
      rw [ldv4 fun i => Bx_rng a y 4 _, bx 0 (by omega), bx 1 (by omega), bx 2 (by omega), bx 3 (by omega), by8_0, by8_1, by8_2, by8_3]
    have tn := turned y0 y1
    rw [fdiv_pos (a := y) (b := 16777216) (by omega)] at tn
    rw [q3, tn, klen_r l1]
    refine kif_f (by simp) (kif_c _ (fun c => ?_) fun c => ?_)
    · have c : (n : Int) > 100 := by simpa using c
      refine slS_r l1 (l := 0) (u := 100) rfl rfl (by omega) (by omega) l4 fun v' hv _ => ?_
      exact back_spec h4 K4 f1 a0 a1 (hv.congr (d := cB f) fun i hi => by simp) (fun i hi => l2 i (by omega)) (by omega) fun _ => rfl
    · have c : ¬ (n : Int) > 100 := by simpa using c
      exact back_spec h4 K4 f1 a0 a1 l1 l2 (by omega) fun _ => rfl
end

/-! ### marks are told once -/
structure MkSt (m0 m : Mem) (r : RB) (b5 b7 : Nat) (M W : Nat → Bool) : Prop where
  h : ∃ B, IsRam m r 8 B M W
  d5 : IsL m 1 (.sl b5 0 8 (.ex 8)) 8 (cF M)
  d7 : IsL m 1 (.sl b7 0 8 (.ex 8)) 8 (cF W)
  ne : b5 ≠ b7
  n5 : ¬ r.has b5
  n7 : ¬ r.has b7
  K : Keeps m0 m
  fr : ∀ b, r.has b ∨ b = b5 ∨ b = b7 → m0.obj b = none
section
variable {m0 m : Mem} {r : RB} {b5 b7 : Nat} {M W : Nat → Bool}
theorem MkSt.stepR {m' : Mem} {B' : Nat → Int} {M' W' : Nat → Bool} (S : MkSt m0 m r b5 b7 M W) (h : IsRam m' r 8 B' M' W') (F : Fr r.has m m') {c5 c7 : Mem → Prop} : IsL m' 1 (.sl b5 0 8 (.ex 8)) 8 (cF M) ∧ IsL m' 1 (.sl b7 0 8 (.ex 8)) 8 (cF W) ∧ Keeps m0 m' :=
  ⟨S.d5.fr F fun b e hr => S.n5 (by cases e; exact hr), S.d7.fr F fun b e hr => S.n7 (by cases e; exact hr), F.keeps S.K fun b hb => S.fr b (.inl hb)⟩
theorem mk_mark (S : MkSt m0 m r b5 b7 M W) {x : Int} (hx : onP 8 x) {k : Mem → Prop} (hk : ∀ m', MkSt m0 m' r b5 b7 (putM M 8 x true) W → k m') :
    F9 r.b 0 x m fun m18 => kif (decide (0 ≤ x) && decide (x < 8)) (stC m18 b5 (0 + (x).toNat * 1) (.flat (.bool true)) k) False := by
  obtain ⟨B, h⟩ := S.h
  refine mark_spec h fun m1 g1 g2 => ?_
  obtain ⟨d5, d7, K1⟩ := S.stepR (c5 := fun _ => True) (c7 := fun _ => True) g1 g2
  have := stC_r (k := k) (x := .flat (.bool true)) d5 hx.1 (show x < ((8 : Nat) : Int) from hx.2) fun m2 e1 e2 e3 => ?_
  · exact this
  · refine hk m2 ⟨⟨B, g1.fr e2 fun b hr e => S.n5 (by cases e; exact hr)⟩, e1.congr fun i hi => upd_putM hx true i, d7.fr e2 fun b e e' => S.ne (by cases e; cases e'; rfl), S.ne, S.n5, S.n7, e2.keeps K1 fun b e => by cases e; exact S.fr _ (.inr (.inl rfl)), S.fr⟩
theorem marks_loop {v0 v1 : AV} {n : Nat} {f : Nat → Int} (hv : IsR m0 1 v0 n (fun i => .flat (.int .i64 (f i)))) (hf : ∀ i, i < n → isI (f i)) {k0 : Mem → Prop} (hk : ∀ m' M', MkSt m0 m' r b5 b7 M' W → k0 m') : ∀ (j i : Nat) (m : Mem) (M : Nat → Bool), i + j = min n 8 → MkSt m0 m r b5 b7 M W → L3_6 v0 v1 (.ptr r.b 0) b5 0 b7 0 (j + 1) i m k0
  | 0, i, m, M, e, S => by
    show R3_6 _ _ _ _ _ _ _ _ _ _ _
    unfold R3_6
    rw [klen_r hv]
    refine kif_c _ (fun c => ?_) fun _ => hk m M S
    have c : (i : Int) < n := by simpa using c
    exact kif_f (by simp; omega) (hk m M S)
  | j + 1, i, m, M, e, S => by
    show R3_6 _ _ _ _ _ _ _ _ _ _ _
    unfold R3_6
    rw [klen_r hv, wrap64 (n := (i : Int) + 1) (by omega) (by omega)]
    refine kif_t (by simp; omega) (kif_t (by simp; omega) (ldI_r (k := fun _ _ x => F8 x 0 7 m _) (hv.keep S.K) (by omega) (by omega) rfl fun _ _ _ => ?_))
    refine within_r (by omega) (by omega) (by omega) (hf _ (by omega)) fun x x0 x1 => ?_
    exact mk_mark S ⟨x0, by omega⟩ fun m1 S1 => marks_loop hv hf hk j (i + 1) m1 _ (by omega) S1
theorem stores_loop {v1 : AV} {n : Nat} {f : Nat → Int} (hv : IsR m0 1 v1 n (fun i => .flat (.int .u32 (f i)))) (hf : ∀ i, i < n → isU (f i)) {k2 : Mem → Prop} {kr : Bool → Mem → Prop} (hk : ∀ m' W', MkSt m0 m' r b5 b7 M W' → k2 m') : ∀ (j i : Nat) (m : Mem) (W : Nat → Bool), i + j = min n 20 → MkSt m0 m r b5 b7 M W → L3_12 v1 (.ptr r.b 0) b5 0 b7 0 (j + 1) i m k2 kr
  | 0, i, m, W, e, S => by
    show R3_12 _ _ _ _ _ _ _ _ _ _ _
    unfold R3_12
    rw [klen_r hv]
    refine kif_c _ (fun c => ?_) fun _ => hk m W S
    have c : (i : Int) < n := by simpa using c
    exact kif_f (by simp; omega) (hk m W S)
  | j + 1, i, m, W, e, S => by
    have hfi := hf i (by omega)
    show R3_12 _ _ _ _ _ _ _ _ _ _ _
    unfold R3_12
    rw [klen_r hv, wrap64 (n := (i : Int) + 1) (by omega) (by omega)]
    refine kif_t (by simp; omega) (kif_t (by simp; omega) (ldI_r (k := fun _ _ x => kptr (.ptr r.b 0) _) (hv.keep S.K) (by omega) (by omega) rfl fun _ _ _ => ?_))
    rw [Int.toNat_natCast]
    simp only [kptr]
    obtain ⟨f0, f1⟩ := hfi
    generalize f i = x at f0 f1
    rw [tmod_nn f0]
    have hk' : IntKind.wrap .u32 ((x % 8192).tdiv 1024) = ((x % 8192 / 1024).toNat : Int) := by
      rw [Int.tdiv_eq_ediv_of_nonneg (by omega), wrap32]; omega
    rw [hk']
    generalize hq : (x % 8192 / 1024).toNat = q
    have hq8 : q < 8 := by omega
    obtain ⟨B, h⟩ := S.h
    have ev : evenR 8 (x % 8192) 1 := ⟨.inl rfl, by omega, by omega, by omega⟩
    refine store_spec h ⟨by omega, by omega⟩ ⟨by omega, by omega⟩ (fun c => absurd ev c) fun _ m1 g1 g2 => kif_f rfl ?_
    obtain ⟨d5, d7, K1⟩ := S.stepR (c5 := fun _ => True) (c7 := fun _ => True) g1 g2
    have nx : ∀ (z : Bool) m2, z = (W q || M q) → IsL m2 1 (.sl b7 0 8 (.ex 8)) 8 (upd (cF W) q (.flat (.bool z))) → Fr (own (.sl b7 0 8 (.ex 8))) m1 m2 → L3_12 v1 (.ptr r.b 0) b5 0 b7 0 (j + 1) ((i : Int) + 1) m2 k2 kr := fun z m2 hz e1 e2 => by
      refine stores_loop hv hf hk j (i + 1) m2 (tW M W (x % 8192) 1) (by omega) ⟨⟨_, g1.fr e2 fun b hr e => S.n7 (by cases e; exact hr)⟩, d5.fr e2 fun b e e' => S.ne (by cases e; cases e'; rfl), e1.congr fun t ht => ?_, S.ne, S.n5, S.n7, e2.keeps K1 fun b e => by cases e; exact S.fr _ (.inr (.inr rfl)), S.fr⟩
      unfold upd cF tW
      by_cases c : t = q
      · subst c
        rw [if_pos rfl, hz, decide_eq_true (by omega)]; simp
      · rw [if_neg c, decide_eq_false (by omega)]; simp
    have rd : ∀ (d : Nat → Bool) (bb : Nat) (k : Bool → Prop), IsL m1 1 (.sl bb 0 8 (.ex 8)) 8 (cF d) → k (d q) → ldB m1 bb (0 + ((q : Int)).toNat * 1) k := fun d bb k hd hk => by
      have := ldB_r (k := fun _ _ x => k x) hd.r (i := (q : Int)) (by omega) (by omega) (x := d q) (by rw [Int.toNat_natCast]; rfl) fun _ _ _ => hk
      rcases kif_ok this with ⟨_, h⟩ | ⟨_, h⟩
      · exact h
      · exact h.elim
    have st : ∀ (z : Bool), z = (W q || M q) → kif (decide (0 ≤ (q : Int)) && decide ((q : Int) < 8)) (stC m1 b7 (0 + ((q : Int)).toNat * 1) (.flat (.bool z)) fun m33 => L3_12 v1 (.ptr r.b 0) b5 0 b7 0 (j + 1) ((i : Int) + 1) m33 k2 kr) False := fun z hz =>
      stC_r (x := .flat (.bool z)) (k := fun m33 => L3_12 v1 (.ptr r.b 0) b5 0 b7 0 (j + 1) ((i : Int) + 1) m33 k2 kr) d7 (by omega) (show (q : Int) < ((8 : Nat) : Int) by omega) fun m2 e1 e2 e3 => nx z m2 hz (by rw [Int.toNat_natCast] at e1; exact e1) e2
    refine kif_ix (by omega) (by omega) (rd W b7 _ d7 (kif_c _ (fun c => st true (by rw [c]; rfl)) fun c => kif_ix (by omega) (by omega) (rd M b5 _ d5 (st _ (by rw [c]; simp)))))
theorem told_loop {k4 : AV → Mem → Prop} {kr : Bool → Mem → Prop} (hk : ∀ v m', MkSt m0 m' r b5 b7 M W → IsL m' 1 v (wl W 8).length (cI (wl W 8)) → (∀ b, own v b → ¬ r.has b) → k4 v m') : ∀ (j i : Nat) (v : AV) (m : Mem), i + j = 8 → MkSt m0 m r b5 b7 M W → IsL m 1 v (wl W i).length (cI (wl W i)) → (∀ b, own v b → ¬ r.has b ∧ b ≠ b5 ∧ b ≠ b7 ∧ m0.obj b = none) → L3_20 (.ptr r.b 0) b5 0 b7 0 (j + 1) v i m k4 kr
  | 0, i, v, m, e, S, hl, ho => by
    have e : i = 8 := by omega
    subst e
    show R3_20 _ _ _ _ _ _ _ _ _ _ _
    unfold R3_20
    exact kif_f (by simp) (hk v m S hl fun b hb => (ho b hb).1)
  | j + 1, i, v, m, e, S, hl, ho => by
    show R3_20 _ _ _ _ _ _ _ _ _ _ _
    unfold R3_20
    rw [wrap64 (n := (i : Int) + 1) (by omega) (by omega)]
    have rd : ∀ (m : Mem) (d : Nat → Bool) (bb : Nat) (k : Bool → Prop), IsL m 1 (.sl bb 0 8 (.ex 8)) 8 (cF d) → k (d i) → ldB m bb (0 + ((i : Int)).toNat * 1) k := fun m d bb k hd hk => by
      have := ldB_r (k := fun _ _ x => k x) hd.r (i := (i : Int)) (by omega) (by omega) (x := d i) (by rw [Int.toNat_natCast]; rfl) fun _ _ _ => hk
      rcases kif_ok this with ⟨_, h⟩ | ⟨_, h⟩
      · exact h
      · exact h.elim
    have rest : ∀ v' m', MkSt m0 m' r b5 b7 M W → IsL m' 1 v' (wl W (i + 1)).length (cI (wl W (i + 1))) → (∀ b, own v' b → ¬ r.has b ∧ b ≠ b5 ∧ b ≠ b7 ∧ m0.obj b = none) → P3_24102 (.ptr r.b 0) b5 0 b7 0 v' i m' (fun x51 m52 => kr x51 m52) (fun m53 => L3_20 (.ptr r.b 0) b5 0 b7 0 (j + 1) v' ((i : Int) + 1) m53 k4 kr) := fun v' m' S' hl' ho' => by
      unfold P3_24102
      obtain ⟨B, h⟩ := S'.h
      refine ⟨fun b' => b' = b5, ?_⟩
      simp only [kptr]
      refine marked_spec h ⟨keepsIn_self, kif_ix (by omega) (by omega) ⟨trivial, rd m' M b5 _ S'.d5 ?_⟩⟩
      rw [decide_eq_true (show onP 8 (i : Int) from ⟨by omega, by omega⟩), Int.toNat_natCast]
      exact kif_f (by simp) (told_loop hk j (i + 1) v' m' (by omega) S' hl' ho')
    refine kif_t (by simp; omega) (kif_ix (by omega) (by omega) (rd m W b7 _ S.d7 (kif_c _ (fun c => ?_) fun c => ?_)))
    · have hw := wl_len W i
      refine app1 rfl hl (by omega) fun v' m1 g1 g2 g3 => rest v' m1 ?_ ?_ fun b hb => ?_
      · obtain ⟨B, h⟩ := S.h
        exact ⟨⟨B, h.fr g2 fun b hr e => (ho b e).1 hr⟩, S.d5.fr g2 fun b e e' => by cases e; exact (ho _ e').2.1 rfl, S.d7.fr g2 fun b e e' => by cases e; exact (ho _ e').2.2.1 rfl, S.ne, S.n5, S.n7, g2.keeps S.K fun b e => (ho b e).2.2.2, S.fr⟩
      · rw [wl_succ, if_pos c]; exact g1
      · rcases g3 b hb with h1 | h1
        · exact ho b h1
        · obtain ⟨B, h⟩ := S.h
          exact ⟨fun hr => h.live hr h1, fun e => S.d5.live (b := b) (by cases e; rfl) h1, fun e => S.d7.live (b := b) (by cases e; rfl) h1, newK_none S.K h1⟩
    · refine rest v m S ?_ ho
      rw [wl_succ, if_neg (by rw [c]; simp), List.append_nil]; exact hl
theorem ints_ty {k : IntKind} {v : AV} (h : Ty m (.sl [.i k]) v) : ∃ (n : Nat) (f : Nat → Int), IsR m 1 v n (fun i => .flat (.int k (f i))) ∧ ∀ i, i < n → (Lit.int k (f i)).wf = true := by
  cases h with
  | nil ls a => exact ⟨0, fun _ => 0, .nil a _, fun i hi => by omega⟩
  | sl ls b len cap x h1 h2 h3 h4 h5 h6 =>
    simp only [List.length_singleton, Nat.mul_one] at h5 h6
    have hx : ∀ j, j < cap → ∃ n, x.c j = .flat (.int k n) ∧ (Lit.int k n).wf = true := fun j hj => by
      have := h6 j hj 0 (.i k) rfl
      rw [Nat.add_zero] at this
      exact ty_i this
    refine ⟨len, fun j => match x.c j with | .flat (.int _ n) => n | _ => 0, .sl b 0 len (.ex cap) x _ h4 (by omega) (fun i hi => ?_), fun i hi => ?_⟩
    · obtain ⟨n, e, _⟩ := hx i (by omega)
      dsimp only
      rw [Nat.zero_add, e]
    · obtain ⟨n, e, hn⟩ := hx i (by omega)
      dsimp only
      rw [e]; exact hn
theorem RamMarks {v0 v1 : AV} (h0 : Ty m (.sl [.i .i64]) v0) (h1 : Ty m (.sl [.i .u32]) v1) : F3 v0 v1 m isTrue := by
  obtain ⟨n0, f0, l0, w0⟩ := ints_ty h0
  obtain ⟨n1, f1, l1, w1⟩ := ints_ty h1
  unfold F3
  refine new_spec fun r m1 g1 K1 fr => ?_
  have e1 : clampP 8 = 8 := by decide
  rw [e1] at g1
  simp only [knilP]
  refine kif_f rfl (newK_i fun b5 m2 hb5 K2 e5 O5 => newK_i fun b7 m3 hb7 K3 e7 O7 => ?_)
  have g3 := (g1.keep K2).keep K3
  have e5' : m3.obj b5 = _ := (K3 b5 (by rw [e5]; simp)).trans e5
  have ne : b5 ≠ b7 := fun e => by subst e; rw [hb7] at e5; cases e5
  have z8 : ∀ i, i < 8 → Z8 i = .flat (.bool false) := fun i hi => by
    match i, hi with
    | 0, _ => rfl
    | 1, _ => rfl
    | 2, _ => rfl
    | 3, _ => rfl
    | 4, _ => rfl
    | 5, _ => rfl
    | 6, _ => rfl
    | 7, _ => rfl
  have S : MkSt m m3 r b5 b7 (fun _ => false) (fun _ => false) :=
    ⟨⟨_, g3⟩, (IsL.row (esz := 1) e5' rfl rfl).congr fun i hi => z8 i (by omega), (IsL.row (esz := 1) e7 rfl rfl).congr fun i hi => z8 i (by omega), ne, fun hr => g1.live hr hb5, fun hr => (g1.keep K2).live hr hb7, K1.trans (K2.trans K3), fun b hb => by
      rcases hb with hb | rfl | rfl
      · exact fr b hb
      · exact newK_none K1 hb5
      · exact newK_none (K1.trans K2) hb7⟩
  refine ⟨min n0 8 + 1, marks_loop l0 (fun i hi => wf_i64 (w0 i hi)) (fun m4 M S4 => ⟨min n1 20 + 1, stores_loop l1 (fun i hi => wf_u32 (w1 i hi)) (fun m5 W S5 => ⟨9, told_loop (fun v m6 S6 hl ho => ?_) 8 0 _ m5 (by omega) S5 (.nil none _) fun b e => e.elim⟩) (min n1 20) 0 m4 _ (by omega) S4⟩) (min n0 8) 0 m3 _ (by omega) S⟩
  obtain ⟨B, h6⟩ := S6.h
  simp only [kptr]
  refine written_spec h6 fun v2 m7 h7 l7 F7 o7 => ?_
  have l8 := hl.fr F7 ho
  have hw := wl_len W 8
  refine same_spec l7.r l8.r (by omega) (kif_t rfl (written_spec h7 fun v3 m8 h8 l9 F8 o8 => ?_))
  have ew : wl (fun _ => false) 8 = [] := by decide
  rw [ew] at l9
  rw [klen_r l9.r]
  exact kif_t rfl (known2 fun m9 _ => rfl)
end
end Go.Proofs.Ytmgalbmhbbickaa.Am
