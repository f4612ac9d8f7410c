/- Instructions as bytes, bytes as words: the program's and the reference's. Conditions: lists are lists of plain data, and short. -/
import Derived.Test.YtppikpjmlbaccaaDoorK3g
import Derived.Test.YtppikpjmlbaccaaDoorAmP
namespace Go.Proofs.YtppikpjmlbaccaaDoor.Am
set_option linter.unusedVariables false
set_option linter.unusedSimpArgs false
set_option maxRecDepth 100000

/-! ### four bytes -/
theorem or_mul (k : Nat) {y z q : Int} (h0 : 0 ≤ y) (h1 : y < 2 ^ k) (hy : y < 4294967296) (hq : 0 ≤ q) (hz : z = q * 2 ^ k) (hz1 : z < 4294967296) : bits .or .u32 y z = y + z := by
  have hp : (0 : Int) < 2 ^ k := Int.pow_pos (by decide)
  have hz0 : 0 ≤ z := by rw [hz]; exact Int.mul_nonneg hq (by omega)
  show orI y z = _
  rw [orI_nat ⟨h0, hy⟩ ⟨hz0, hz1⟩]
  have e : z.toNat = q.toNat <<< k := by
    rw [Nat.shiftLeft_eq]
    have : ((q.toNat * 2 ^ k : Nat) : Int) = z := by push_cast; rw [Int.toNat_of_nonneg hq]; exact hz.symm
    omega
  rw [e, Nat.or_comm, ← Nat.shiftLeft_add_eq_or_of_lt (by
    have : ((2 ^ k : Nat) : Int) = 2 ^ k := by push_cast; rfl
    omega), ← e]
  omega
theorem or_swap (x y : Int) : bits .or .u32 x y = bits .or .u32 y x := orI_comm x y
/-- a word by its four bytes -/
def wcomb (a b c d : Int) : Int := bits .or .u32 (bits .or .u32 (bits .or .u32 (IntKind.wrap .u32 ((IntKind.wrap .u32 a) * 16777216)) (IntKind.wrap .u32 ((IntKind.wrap .u32 b) * 65536))) (IntKind.wrap .u32 ((IntKind.wrap .u32 c) * 256))) (IntKind.wrap .u32 d)
theorem wcomb_eq {a b c d : Int} (ha : 0 ≤ a ∧ a < 256) (hb : 0 ≤ b ∧ b < 256) (hc : 0 ≤ c ∧ c < 256) (hd : 0 ≤ d ∧ d < 256) : wcomb a b c d = a * 16777216 + b * 65536 + c * 256 + d := by
  have w : ∀ x : Int, 0 ≤ x → x < 4294967296 → IntKind.wrap .u32 x = x := fun x h0 h1 => by rw [wrap32, Int.emod_eq_of_lt h0 h1]
  unfold wcomb
  rw [w a (by omega) (by omega), w b (by omega) (by omega), w c (by omega) (by omega), w d (by omega) (by omega), w (a * 16777216) (by omega) (by omega), w (b * 65536) (by omega) (by omega), w (c * 256) (by omega) (by omega)]
  rw [or_swap (a * 16777216), or_mul (z := a * 16777216) 24 (y := b * 65536) (q := a) (by omega) (by omega) (by omega) (by omega) rfl (by omega)]
  rw [or_swap (b * 65536 + a * 16777216), or_mul (z := b * 65536 + a * 16777216) 16 (y := c * 256) (q := b + a * 256) (by omega) (by omega) (by omega) (by omega) (by omega) (by omega)]
  rw [or_swap (c * 256 + (b * 65536 + a * 16777216)), or_mul (z := c * 256 + (b * 65536 + a * 16777216)) 8 (y := d) (q := c + b * 256 + a * 65536) (by omega) (by omega) (by omega) (by omega) (by omega) (by omega)]
  omega
theorem wrap8 (n : Int) : IntKind.wrap .u8 n = n % 256 := by simp [IntKind.wrap, IntKind.bits, IntKind.signed]
def bt (w : Int) (j : Nat) : Int := match j with
  | 0 => IntKind.wrap .u8 (w.fdiv 16777216)
  | 1 => IntKind.wrap .u8 (w.fdiv 65536)
  | 2 => IntKind.wrap .u8 (w.fdiv 256)
  | _ => IntKind.wrap .u8 w
theorem bt_rng (w : Int) (j : Nat) : 0 ≤ bt w j ∧ bt w j < 256 := by
  unfold bt; split <;> rw [wrap8] <;> omega
theorem wcomb_bt {w : Int} (h0 : 0 ≤ w) (h1 : w < 4294967296) : wcomb (bt w 0) (bt w 1) (bt w 2) (bt w 3) = w := by
  rw [wcomb_eq (bt_rng w 0) (bt_rng w 1) (bt_rng w 2) (bt_rng w 3)]
  simp only [bt]
  rw [wrap8, wrap8, wrap8, wrap8, fdiv_w _ _ (by omega), fdiv_w _ _ (by omega), fdiv_w _ _ (by omega)]
  omega
/-- the bytes of words, the words of bytes -/
def WB (ws : Nat → Int) : Nat → Int := fun j => bt (ws (j / 4)) (j % 4)
theorem WB_rng (ws : Nat → Int) (j : Nat) : 0 ≤ WB ws j ∧ WB ws j < 256 := bt_rng _ _
def BW (f : Nat → Int) : Nat → Int := fun i => wcomb (f (4 * i)) (f (4 * i + 1)) (f (4 * i + 2)) (f (4 * i + 3))
theorem BW_WB {ws f : Nat → Int} {i : Nat} (h : ∀ j, j < 4 → f (4 * i + j) = WB ws (4 * i + j)) (h0 : 0 ≤ ws i) (h1 : ws i < 4294967296) : BW f i = ws i := by
  unfold BW
  have e : ∀ j, j < 4 → f (4 * i + j) = bt (ws i) j := fun j hj => by
    rw [h j hj]
    unfold WB
    rw [show (4 * i + j) / 4 = i by omega, show (4 * i + j) % 4 = j by omega]
  have e0 := e 0 (by omega)
  rw [Nat.add_zero] at e0
  rw [e0, e 1 (by omega), e 2 (by omega), e 3 (by omega), wcomb_bt h0 h1]

section
variable {m0 m : Mem}
/-! ### lists of instructions -/
structure IsI (m : Mem) (v : AV) (n : Nat) (X : Nat → In) : Prop where
  c : ∃ c : Nat → AV, IsS m 6 v n c ∧ ∀ i, i < n → InC (fun j => c (i * 6 + j)) (X i)
  p : ∀ i, i < n → 0 ≤ (X i).i
theorem IsI.fr {m' : Mem} {S : Nat → Prop} {v : AV} {n : Nat} {X : Nat → In} (h : IsI m v n X) (F : Fr S m m') (hs : ∀ b, own v b → ¬ S b) : IsI m' v n X := by
  obtain ⟨c, h1, h2⟩ := h.c
  exact ⟨⟨c, h1.fr F hs, h2⟩, h.p⟩
theorem IsI.keep {m' : Mem} {v : AV} {n : Nat} {X : Nat → In} (h : IsI m v n X) (K : Keeps m m') : IsI m' v n X := by
  obtain ⟨c, h1, h2⟩ := h.c
  exact ⟨⟨c, h1.keep K, h2⟩, h.p⟩
theorem IsI.len {v : AV} {n : Nat} {X : Nat → In} (h : IsI m v n X) (k : Int → Prop) : klen v k = k (n : Int) := by
  obtain ⟨c, h1, h2⟩ := h.c
  exact klen_r h1.r k
theorem IsI.ld {v : AV} {n : Nat} {X : Nat → In} (h : IsI m v n X) (i : Nat) (hi : i < n) {k : (Nat → AV) → Prop} (hk : ∀ c, InC c (X i) → k c) : ksl v fun b o l p => kif (decide (0 ≤ (i : Int)) && decide ((i : Int) < l)) (ldG 6 m b (o + (i : Int).toNat * 6) k) False := by
  obtain ⟨c, h1, h2⟩ := h.c
  refine ldG_r h1.r (by omega) (by omega) fun d hd => hk d ?_
  obtain ⟨a0, a1, a2, a3, a4, a5⟩ := h2 i hi
  simp only [Int.toNat_natCast] at hd
  exact ⟨(hd 0 (by omega)).trans a0, (hd 1 (by omega)).trans a1, (hd 2 (by omega)).trans a2, (hd 3 (by omega)).trans a3, (hd 4 (by omega)).trans a4, (hd 5 (by omega)).trans a5⟩
def wsOf (X : Nat → In) : Nat → Int := fun i => (wordS (X i)).1
theorem ws_rng (X : Nat → In) (i : Nat) : 0 ≤ wsOf X i ∧ wsOf X i < 4294967296 := by
  unfold wsOf wordS; split
  · exact orI_rng _ _
  · decide
def okI (X : Nat → In) (n : Nat) : Prop := ∀ i, i < n → (wordS (X i)).2 = true
theorem wb_row (ws : Nat → Int) (i : Nat) (z : List AV) : ∀ j, j < 4 * 1 → upd (upd (upd (upd (lget z) 0 (.flat (.int .u8 (IntKind.wrap .u8 ((ws i).fdiv 16777216))))) 1 (.flat (.int .u8 (IntKind.wrap .u8 ((ws i).fdiv 65536))))) 2 (.flat (.int .u8 (IntKind.wrap .u8 ((ws i).fdiv 256))))) 3 (.flat (.int .u8 (IntKind.wrap .u8 (ws i)))) j = cK .u8 (WB ws) (4 * i * 1 + j) := by
  intro j hj
  unfold cK WB
  rw [show (4 * i * 1 + j) / 4 = i by omega, show (4 * i * 1 + j) % 4 = j by omega]
  match j, hj with
  | 0, _ => rfl
  | 1, _ => rfl
  | 2, _ => rfl
  | 3, _ => rfl
theorem abytes_loop {v : AV} {n : Nat} {X : Nat → In} (hn : n ≤ 1000) (hv : IsI m0 v n X) {k0 : AV → Mem → Prop} {kr : AV → Int → Mem → Prop}
    (h0 : okI X n → ∀ w m', IsL m' 1 w (4 * n) (cK .u8 (WB (wsOf X))) → Keeps m0 m' → (∀ b, own w b → m0.obj b = none) → k0 w m') (h1 : ¬ okI X n → ∀ m', Keeps m0 m' → kr (.flat (.slice none 0 0)) 1 m') :
    ∀ (j i : Nat) (w : AV) (m : Mem), i + j = n → okI X i → IsL m 1 w (4 * i) (cK .u8 (WB (wsOf X))) → Keeps m0 m → (∀ b, own w b → m0.obj b = none) → L11_3 v n (j + 1) w i m k0 kr
  | 0, i, w, m, e, ok, hw, K, ho => by
    have e : i = n := by omega
    subst e
    show R11_3 _ _ _ _ _ _ _ _
    unfold R11_3
    exact kif_f (by simp) (h0 ok w m hw K ho)
  | j + 1, i, w, m, e, ok, hw, K, ho => by
    show R11_3 _ _ _ _ _ _ _ _
    unfold R11_3
    rw [wrap64 (n := (i : Int) + 1) (by omega) (by omega)]
    refine kif_t (by simp; omega) ((hv.keep K).ld i (by omega) fun c hc => newF hc fun b m1 hb K1 ib => ib.lg fun c10 h10 => word_spec h10 (hv.p i (by omega)) (kif_c _ (fun c1 => ?_) fun c1 => ?_))
    · exact h1 (fun h => by rw [h i (by omega)] at c1; cases c1) m1 (K.trans K1)
    · refine appN (n := 4 * i) (n' := 4) (hw.keep K1) rfl (wb_row (wsOf X) i _) (by omega) fun w' m2 g1 g2 g3 => ?_
      have c1 : (wordS (X i)).2 = true := by simpa using c1
      refine abytes_loop hn hv h0 h1 j (i + 1) w' m2 (by omega) (fun t ht => ?_) (by rw [show 4 * (i + 1) = 4 * i + 4 by omega]; exact g1) (g2.keeps (K.trans K1) ho) fun b' hb' => ?_
      · by_cases ct : t < i
        · exact ok t ct
        · rw [show t = i by omega]; exact c1
      · rcases g3 b' hb' with h | h
        · exact ho b' h
        · exact newK_none (K.trans K1) h
theorem knt_l {esz : Nat} {v : AV} {n : Nat} {c : Nat → AV} {A : Prop} (h : IsL m esz v n c) (a : A) : knt v A := by
  cases h <;> exact a
theorem abytes_spec {v : AV} {n : Nat} {X : Nat → In} (hn : n ≤ 1000) (hv : IsI m v n X) {k : AV → Int → Mem → Prop}
    (h0 : okI X n → ∀ w m', IsL m' 1 w (4 * n) (cK .u8 (WB (wsOf X))) → Keeps m m' → (∀ b, own w b → m.obj b = none) → k w 0 m') (h1 : ¬ okI X n → ∀ m', Keeps m m' → k (.flat (.slice none 0 0)) 1 m') : F11 v m k := by
  unfold F11
  rw [hv.len]
  refine ⟨n + 1, ?_⟩
  exact abytes_loop (k0 := fun v18 m19 => knt v18 (k v18 0 m19)) (kr := fun v20 x21 m22 => knt v20 (k v20 x21 m22)) hn hv (fun ok w m' hw K ho => knt_l hw (h0 ok w m' hw K ho)) (fun nok m' K => h1 nok m' K) n 0 _ m (by omega) (fun i hi => by omega) (.nil none _) (Keeps.self m) fun b e => e.elim

/-! ### words of bytes -/
/-! ### an image -/
def imF (a : Nat) (n : Nat) (f : Nat → Int) : Nat → Int := fun j => if a ≤ j ∧ j < a + n then f (j - a) else 0
def imOk (p a : Int) (n : Nat) : Prop := 1 ≤ p ∧ p ≤ 64 ∧ a + n ≤ p * 1024
def isI (n : Int) : Prop := -9223372036854775808 ≤ n ∧ n < 9223372036854775808
end
end Go.Proofs.YtppikpjmlbaccaaDoor.Am
