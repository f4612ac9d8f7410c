/- Programs put together, images: what the laws of chapter 26 ask. Conditions: lists are lists of plain data, and short. -/
import Derived.Test.YtppikpjmlbaccaaA26a
namespace Go.Proofs.Ytppikpjmlbaccaa.Am
set_option linter.unusedVariables false
set_option linter.unusedSimpArgs false
set_option maxRecDepth 100000

section
variable {m0 m : Mem}
theorem isI_row1 {b : Nat} {c : Nat → AV} {t : TypeId} {x : In} (e : m.obj b = some ⟨6, c, t, false⟩) (hc : InC c x) (hx : 0 ≤ x.i) : IsI m (.sl b 0 1 (.ex 1)) 1 (fun _ => x) :=
  ⟨⟨c, (IsL.row (esz := 6) e rfl rfl).s, fun i hi => by rw [show i = 0 by omega]; simpa [InC] using hc⟩, fun _ _ => hx⟩
theorem splice_in {c d : Nat → AV} {x : In} (h : InC d x) : InC (splice c 0 6 d) x := by
  obtain ⟨h0, h1, h2, h3, h4, h5⟩ := h
  exact ⟨h0, h1, h2, h3, h4, h5⟩
def addiu : In := ⟨47, 0, 1, 0, 0, 5⟩
theorem known26 {k : Bool → Mem → Prop} (hk : ∀ m', Keeps m m' → k true m') : F11 m k := by
  unfold F11
  refine newK_i fun b m1 hb K1 e1 O1 => ?_
  have no : ¬ okI (fun _ => ⟨0, 0, 0, 0, 0, 0⟩) 1 := fun h => absurd (h 0 (by omega)) (by decide +kernel)
  refine abytes_spec (by omega) (isI_row1 e1 (splice_in z6_in) (by decide)) (fun ok => absurd ok no) fun _ m2 K2 => newK_i fun b7 m3 hb7 K3 e3 O3 => ?_
  have yes : okI (fun _ => addiu) 1 := fun i _ => by show (wordS addiu).2 = true; decide +kernel
  refine abytes_spec (by omega) (isI_row1 (x := addiu) e3 (splice_in ⟨rfl, rfl, rfl, rfl, rfl, rfl⟩) (by decide)) (fun _ w m4 g1 K4 o4 => ?_) fun nok => absurd yes nok
  refine kif_t rfl (kif_t rfl (kstr_b (n := 4) g1.r (WB (wsOf fun _ => addiu)) (fun i _ => ⟨rfl, WB_rng _ _⟩) (kif_t (by decide +kernel) ?_)))
  unfold F9
  refine ⟨Keeps.self _, kif_t (by decide +kernel) ⟨Keeps.self _, ?_⟩⟩
  dsimp only
  rw [show (bits .and .u32 (IntKind.wrap .u32 (IntKind.wrap .i64 ((IntKind.wrap .i64 (1 - 0)) - 1))) 65535 == 0) = true by decide +kernel]
  exact hk m4 (K1.trans (K2.trans (K3.trans K4)))

/-! ### programs put together -/
theorem rword_loop {v u : AV} {e : Int} {n : Nat} {X : Nat → In} (hn : n ≤ 1000) (hv : IsI m0 v n X) {k0 : AV → Mem → Prop} {kr : Bool → Mem → Prop}
    (h0 : okI X n → ∀ w m', IsL m' 1 w (4 * n) (cK .u8 (WB (wsOf X))) → Keeps m0 m' → (∀ b, own w b → m0.obj b = none) → k0 w m') (h1 : ¬ okI X n → e = 1 ∧ u = .flat (.slice none 0 0) ∧ ∀ m', Keeps m0 m' → kr true m') :
    ∀ (j i : Nat) (w : AV) (m : Mem), i + j = n → okI X i → IsL m 1 w (4 * i) (cK .u8 (WB (wsOf X))) → Keeps m0 m → (∀ b, own w b → m0.obj b = none) → L6_4 v u e (j + 1) w i m k0 kr
  | 0, i, w, m, ei, ok, hw, K, ho => by
    have ei : i = n := by omega
    subst ei
    show R6_4 _ _ _ _ _ _ _ _ _
    unfold R6_4
    rw [hv.len]
    exact kif_f (by simp) (h0 ok w m hw K ho)
  | j + 1, i, w, m, ei, ok, hw, K, ho => by
    show R6_4 _ _ _ _ _ _ _ _ _
    unfold R6_4
    rw [hv.len, wrap64 (n := (i : Int) + 1) (by omega) (by omega)]
    refine kif_t (by simp; omega) ((hv.keep K).ld i (by omega) fun c hc => rword_spec hc (hv.p i (by omega)) (kif_c _ (fun c1 => ?_) fun c1 => ?_))
    · obtain ⟨rfl, rfl, h2⟩ := h1 fun h => by rw [h i (by omega)] at c1; cases c1
      exact kif_t rfl (h2 m K)
    · refine appN (n := 4 * i) (n' := 4) hw rfl (wb_row (wsOf X) i _) (by omega) fun w' m2 g1 g2 g3 => ?_
      have c1 : (wordS (X i)).2 = true := by simpa using c1
      refine rword_loop hn hv h0 h1 j (i + 1) w' m2 (by omega) (fun t ht => ?_) (by rw [show 4 * (i + 1) = 4 * i + 4 by omega]; exact g1) (g2.keeps K ho) fun b' hb' => ?_
      · by_cases ct : t < i
        · exact ok t ct
        · rw [show t = i by omega]; exact c1
      · rcases g3 b' hb' with h | h
        · exact ho b' h
        · exact newK_none K h
theorem of_back {x : In} (hi : 0 ≤ x.i) (h : (wordS x).2 = true) : ofS (wordS x).1 = x := by
  unfold wordS at h ⊢
  split at h
  · rename_i c
    rw [if_pos c]
    exact of_word ((right_iff x hi).1 c)
  · cases h
theorem back_loop {v u : AV} {n : Nat} {X : Nat → In} {f : Nat → Int} (hn : n ≤ 1000) (hv : IsI m v n X) (hu : IsR m 1 u n (cK .u32 f)) (hf : ∀ i, i < n → f i = wsOf X i) (ok : okI X n) {k2 : Mem → Prop} {kr : Bool → Mem → Prop} (hk : k2 m) :
    ∀ j i : Nat, i + j = n → L6_16 v u (j + 1) i m k2 kr
  | 0, i, e => by
    show R6_16 _ _ _ _ _ _ _
    unfold R6_16
    rw [hv.len]
    exact kif_f (by simp; omega) hk
  | j + 1, i, e => by
    show R6_16 _ _ _ _ _ _ _
    unfold R6_16
    rw [hv.len, wrap64 (n := (i : Int) + 1) (by omega) (by omega)]
    refine kif_t (by simp; omega) ⟨fun _ => True, ?_⟩
    simp only [true_and]
    have wr := ws_rng X i
    refine ldK_r (k := fun _ _ x => F18 x m _) hu i (by omega) fun _ _ _ => ?_
    rw [hf i (by omega)]
    refine rof_spec wr.1 wr.2 fun c40 h40 => ⟨fun _ _ _ => rfl, ?_⟩
    refine hv.ld i (by omega) fun c46 h46 => ?_
    rw [geq_in h40 h46 _ (by kernel_rfl), decide_eq_true (show ofS (wsOf X i) = X i from of_back (hv.p i (by omega)) (ok i (by omega)))]
    exact kif_f rfl (back_loop hn hv hu hf ok hk j (i + 1) (by omega))
theorem bytes_law {v : AV} {n : Nat} {X : Nat → In} (hn : n ≤ 100) (hv : IsI m v n X) {k : Bool → Mem → Prop} (hk : ∀ m', Keeps m m' → k true m') : F6 v m k := by
  unfold F6
  refine abytes_spec (by omega) hv (fun ok w m1 g1 K1 o1 => ?_) fun nok m1 K1 => ?_
  · refine ⟨n + 1, rword_loop (m0 := m1) (by omega) (hv.keep K1) (fun _ w2 m2 g2 K2 o2 => ?_) (fun nok => absurd ok nok) n 0 _ m1 (by omega) (fun i hi => by omega) (.nil none _) (Keeps.self _) fun b e => e.elim⟩
    refine kif_f rfl (kstr_b (g1.keep K2).r (WB (wsOf X)) (fun i _ => ⟨rfl, WB_rng _ _⟩) (kstr_b g2.r (WB (wsOf X)) (fun i _ => ⟨rfl, WB_rng _ _⟩) (kif_f (by simp) ?_)))
    have K12 := K1.trans K2
    let f27 : Nat → Int := fun j => if j < 4 * n then WB (wsOf X) j else (j : Int) - 4 * n + 1
    have e27 : ∀ i, i < 4 * n * 1 → cK .u8 (WB (wsOf X)) i = cK .u8 f27 i := fun i hi => by
      show AV.flat (.int .u8 _) = AV.flat (.int .u8 (if i < 4 * n then _ else _))
      rw [if_pos (by omega)]
    refine appN (n := 4 * n) (n' := 3) (c := cK .u8 f27) ((g1.keep K2).congr e27) rfl (fun t ht => ?_) (by omega) fun w3 m3 g3 F3 o3 => ?_
    · have : ∀ t, t < 3 → upd (upd (upd (lget [(.flat (.int .u8 0)), (.flat (.int .u8 0)), (.flat (.int .u8 0))]) 0 (.flat (.int .u8 1))) 1 (.flat (.int .u8 2))) 2 (.flat (.int .u8 3)) t = AV.flat (.int .u8 ((t : Int) + 1)) := fun t ht => by
        match t, ht with
        | 0, _ => rfl
        | 1, _ => rfl
        | 2, _ => rfl
      rw [this t (by omega)]
      show _ = AV.flat (.int .u8 (if 4 * n * 1 + t < 4 * n then _ else _))
      rw [if_neg (by omega)]
      congr 2; push_cast; omega
    · have K3 : Keeps m m3 := F3.keeps K12 fun b hb => o1 b hb
      refine words_spec (by omega) g3.s fun u m4 g4 K4 o4 => ?_
      have e4 : (4 * n + 3) / 4 = n := by omega
      rw [e4] at g4
      have hv4 := (hv.keep K3).keep K4
      rw [klen_r g4.r, hv.len]
      refine kif_f (by simp) ⟨n + 1, back_loop (by omega) hv4 g4.r (fun i hi => ?_) ok (hk m4 (K3.trans K4)) n 0 (by omega)⟩
      refine BW_WB (fun j hj => ?_) (ws_rng X i).1 (ws_rng X i).2
      show (if 4 * i + j < 4 * n then _ else _) = _
      rw [if_pos (by omega)]
  · refine ⟨n + 1, rword_loop (m0 := m1) (by omega) (hv.keep K1) (fun ok => absurd ok nok) (fun _ => ⟨rfl, rfl, fun m2 K2 => hk m2 (K1.trans K2)⟩) n 0 _ m1 (by omega) (fun i hi => by omega) (.nil none _) (Keeps.self _) fun b e => e.elim⟩

/-! ### images -/
theorem zero_loop {p : Nat} {a : Nat} {v w : AV} {n : Nat} {f : Nat → Int} (hp : p ≤ 65536) (ha : (a : Int) < 4294967296) (hv : IsR m 1 v n (cK .u8 f)) (hn : n ≤ 65536) (hw : IsR m 1 w p (cK .u8 (imF a n f))) {k0 : Mem → Prop} {kr : Bool → Mem → Prop} (hk : k0 m) :
    ∀ j i : Nat, i + j = p → L7_7 a v w (j + 1) i m k0 kr
  | 0, i, e => by
    show R7_7 _ _ _ _ _ _ _ _
    unfold R7_7
    rw [klen_r hw]
    exact kif_f (by simp; omega) hk
  | j + 1, i, e => by
    show R7_7 _ _ _ _ _ _ _ _
    unfold R7_7
    rw [klen_r hw, klen_r hv, wrap64 (n := (a : Int)) (by omega) (by omega), wrap64 (n := (i : Int) + 1) (by omega) (by omega), wrap64 (n := (a : Int) + n) (by omega) (by omega)]
    have nx := zero_loop (kr := kr) hp ha hv hn hw hk j (i + 1) (by omega)
    have z : ¬ (a ≤ i ∧ i < a + n) → ksl w fun b21 o22 l23 p24 => kif (decide (0 ≤ (i : Int)) && decide ((i : Int) < l23)) (ldI .u8 m b21 (o22 + ((i : Int)).toNat * 1) fun x25 => kif (x25 != 0) (kr false m) (L7_7 a v w (j + 1) ((i : Int) + 1) m k0 kr)) False := fun c => by
      refine ldK_r (k := fun _ _ x => kif (x != 0) (kr false m) _) hw i (by omega) fun _ _ _ => ?_
      have : imF a n f i = 0 := by unfold imF; rw [if_neg c]
      rw [this]
      exact kif_f rfl nx
    refine kif_t (by simp; omega) (kif_c _ (fun c => z ?_) fun c => kif_c _ (fun c2 => z ?_) fun c2 => nx)
    · have c : (i : Int) < a := by simpa using c
      omega
    · have c2 : (i : Int) ≥ a + n := by simpa using c2
      omega
theorem image_law {p a : Int} {v : AV} {n : Nat} {f : Nat → Int} (hp : isI p) (a0 : 0 ≤ a) (a1 : a < 4294967296) (hv : IsR m 1 v n (cK .u8 f)) (hf : ∀ i, i < n → 0 ≤ f i ∧ f i < 256) (hn : (n : Int) < 9223372036854775808) {k : Bool → Mem → Prop} (hk : ∀ m', Keeps m m' → k true m') : F7 p a v m k := by
  unfold F7
  obtain ⟨p0, p1⟩ := hp
  have w64 : ∀ x : Int, 0 ≤ x → x < 18446744073709551616 → IntKind.wrap .u64 x = x := fun x h0 h1 => by simp [IntKind.wrap, IntKind.bits, IntKind.signed]; omega
  refine aimage_spec ⟨p0, p1⟩ a0 a1 hv hn (fun no => ?_) fun ok w m1 g1 K1 o1 => ?_
  · have bad : P7_3004 p a v (.flat (.slice none 0 0)) 1 true m (fun x6 m7 => k x6 m7) (fun m8 => P7_4103 p a v (.flat (.slice none 0 0)) 1 m8 (fun x36 m37 => k x36 m37)) := by
      unfold P7_3004
      exact kif_t rfl (kif_t rfl (hk m (Keeps.self m)))
    refine kif_c _ (fun _ => bad) fun c1 => kif_c _ (fun _ => bad) fun c2 => ?_
    simp at c1 c2
    rw [klen_r hv, w64 a (by omega) (by omega), w64 n (by omega) (by omega), w64 p (by omega) (by omega), w64 (a + n) (by omega) (by omega), w64 (p * 1024) (by omega) (by omega)]
    rw [show decide (a + (n : Int) > p * 1024) = true from decide_eq_true (by
      by_cases c : a + (n : Int) > p * 1024
      · exact c
      · exact absurd ⟨by omega, by omega, by omega⟩ no)]
    exact bad
  · have ok' := ok
    obtain ⟨k1, k2, k3⟩ := ok
    refine kif_f (by simp; omega) (kif_f (by simp; omega) ?_)
    rw [klen_r hv, w64 a (by omega) (by omega), w64 n (by omega) (by omega), w64 p (by omega) (by omega), w64 (a + n) (by omega) (by omega), w64 (p * 1024) (by omega) (by omega)]
    rw [show decide (a + (n : Int) > p * 1024) = false from decide_eq_false (by omega)]
    unfold P7_3004
    refine kif_f rfl ?_
    dsimp only
    unfold P7_4103
    rw [klen_r g1.r, klen_r hv, wrap64 (n := p * 1024) (by omega) (by omega), wrap64 (n := a) (by omega) (by omega), wrap64 (n := a + n) (by omega) (by omega)]
    refine kif_f rfl (kif_f (by simp; omega) ?_)
    refine slS_s g1.s (l := a.toNat) (u := a.toNat + n) (by simp [optI]; omega) (by simp [optI]; omega) (by omega) (by omega) fun u hu _ => ?_
    have hu : IsR m1 1 u n (cK .u8 f) := by
      have := hu.r
      rw [show a.toNat + n - a.toNat = n by omega] at this
      exact this.congr fun i hi => by
        unfold cK imF
        rw [Nat.mul_one, if_pos (by omega), show a.toNat + i - a.toNat = i by omega]
    have hv1 := hv.keep K1
    refine kstr_b hu f (fun i hi => ⟨rfl, hf i hi⟩) (kstr_b hv1 f (fun i hi => ⟨rfl, hf i hi⟩) (kif_f (by simp) ⟨p.toNat * 1024 + 1, ?_⟩))
    have := zero_loop (p := p.toNat * 1024) (a := a.toNat) (kr := fun x33 m34 => k x33 m34) (k0 := fun m32 => k true m32) (by omega) (by omega) hv1 (by omega) g1.r (hk m1 K1) (p.toNat * 1024) 0 (by omega)
    rw [show ((a.toNat : Nat) : Int) = a by omega] at this
    exact this
end
end Go.Proofs.Ytppikpjmlbaccaa.Am
