/- The laws of chapter 3 over the abstract machine. Conditions: what is handed in is plain data. -/
import Derived.Test.YtmhlljnnpoegbaaK3g
namespace Go.Proofs.Ytmhlljnnpoegbaa.Am
set_option linter.unusedVariables false
set_option linter.unusedSimpArgs false
set_option maxRecDepth 100000

section
variable {m : Mem} {c : Nat → AV} {x : In}
theorem insts_spec (hc : InC c x) (hi : 0 ≤ x.i) {k : Bool → Mem → Prop} (hk : k true m) : F8 c m k := by
  unfold F8
  refine newI hc fun b m1 hb K i O => i.lg fun c3 h3 => word_spec h3 hi (i.lg fun c7 h7 => rword_spec h7 hi ⟨fun b' => b' = b, kif_t (by simp) (kif_t (by simp) ⟨rfl, i.lg fun c12 h12 => right_spec h12 hi ⟨fun _ _ _ => rfl, rfl, i.lg fun c15 h15 => rright_spec h15 hi ⟨fun _ _ _ => rfl, kif_t (by simp) ⟨rfl, i.lg fun c18 h18 => class_spec h18 ⟨fun _ _ _ => rfl, rfl, i.lg fun c21 h21 => rclass_spec h21 ⟨fun _ _ _ => rfl, K, ?_⟩⟩⟩⟩⟩⟩)⟩)
  rw [show (classS x.k == classS x.k) = true by simp]
  exact hk
theorem of_i (w : Int) (w0 : 0 ≤ w) : 0 ≤ (ofS w).i := by
  unfold ofS withS; dsimp only; split
  · omega
  · split <;> omega
theorem words_spec {w : Int} (w0 : 0 ≤ w) (w1 : w < 4294967296) {k : Bool → Mem → Prop} (hk : k true m) : F7 w m k := by
  unfold F7
  have hi := of_i w w0
  refine of_spec w0 w1 fun c1 h1 => newF h1 fun b m5 hb K i => ⟨fun b' => b' = b, rfl, i.lg fun c7 h7 => rof_spec w0 w1 fun c8 h8 => ⟨fun _ _ _ => rfl, ?_⟩⟩
  rw [geq_in h7 h8 _ (by kernel_rfl), decide_eq_true rfl]
  refine kif_t rfl ⟨rfl, i.lg fun c11 h11 => class_spec h11 ⟨fun _ _ _ => rfl, rfl, i.lg fun c14 h14 => rclass_spec h14 ⟨fun _ _ _ => rfl, kif_t (by simp) ⟨rfl, i.lg fun c17 h17 => insts_spec h17 hi ⟨fun _ _ _ => rfl, K, hk⟩⟩⟩⟩⟩

theorem known3 {k : Bool → Mem → Prop} (hk : k true m) : F9 m k := by
  unfold F9
  have e1 : wordS ⟨1, 0, 0, 0, 32, 0⟩ = (0, false) := by decide +kernel
  have e2 : wordS ⟨47, 1, 2, 0, 0, 5⟩ = (606208005, true) := by decide +kernel
  have e3 : ofS 0 = ⟨1, 0, 0, 0, 0, 0⟩ := by decide +kernel
  have e4 : (ofS 4294967295).k = 0 := by decide +kernel
  refine word_spec (x := ⟨1, 0, 0, 0, 32, 0⟩) ⟨rfl, rfl, rfl, rfl, rfl, rfl⟩ (by decide) ?_
  rw [e1]
  refine word_spec (x := ⟨47, 1, 2, 0, 0, 5⟩) ⟨rfl, rfl, rfl, rfl, rfl, rfl⟩ (by decide) ?_
  rw [e2]
  refine of_spec (by omega) (by omega) fun c7 h7 => ?_
  rw [e3] at h7
  rw [geq_in h7 (show InC (upd (Z6) 0 (.flat (.int .i64 1))) ⟨1, 0, 0, 0, 0, 0⟩ from ⟨rfl, rfl, rfl, rfl, rfl, rfl⟩) _ (by kernel_rfl), decide_eq_true rfl]
  refine kif_t rfl (of_spec (by omega) (by omega) fun c10 h10 => ?_)
  rw [h10.1, kI_flat, e4]
  refine kif_t rfl (kif_t rfl (kif_t rfl (kif_t rfl (class_spec (x := ⟨40, 0, 0, 0, 0, 0⟩) ⟨rfl, rfl, rfl, rfl, rfl, rfl⟩ ⟨Keeps.self m, ?_⟩))))
  rw [show (classS 40 == 3) = true by decide]
  exact hk

/-! ### any word, any instruction -/
def shIn : List Lf := [.i .i64, .i .i64, .i .i64, .i .i64, .i .i64, .i .u32]
theorem in_of (hT : TyAll m shIn c) : ∃ x, InC c x ∧ 0 ≤ x.i := by
  obtain ⟨k, e0, w0⟩ := ty_int (hT 0 _ rfl)
  obtain ⟨s, e1, w1⟩ := ty_int (hT 1 _ rfl)
  obtain ⟨t, e2, w2⟩ := ty_int (hT 2 _ rfl)
  obtain ⟨d, e3, w3⟩ := ty_int (hT 3 _ rfl)
  obtain ⟨h, e4, w4⟩ := ty_int (hT 4 _ rfl)
  obtain ⟨i, e5, w5⟩ := ty_int (hT 5 _ rfl)
  exact ⟨⟨k, s, t, d, h, i⟩, ⟨e0, e1, e2, e3, e4, e5⟩, (wf_u32 w5).1⟩
theorem DecodeTells {w : Int} {c2 : Nat → AV} (hw : (Lit.int .u32 w).wf = true) (h1 : TyAll m shI c) (h2 : TyAll m shIn c2) : F4 w c c2 m isTrue := by
  obtain ⟨w0, w1⟩ := wf_u32 hw
  obtain ⟨x, raw, hc, hx⟩ := ic_of h1
  obtain ⟨z, hz, z0⟩ := in_of h2
  unfold F4
  refine newD hc fun b2 m1 hb2 K1 d => newI hz fun b4 m3 hb4 K4 i4 O4 => words_spec w0 w1 (kif_t rfl ?_)
  have d3 := d.keep K4
  refine d3.lg fun c7 h7 => code_spec h7 hx fun v v0 v1 => words_spec v0 v1 (kif_t rfl (d3.lg fun c12 h12 => any_spec h12 hx fun c13 y hy ok => insts_spec hy ok.i0 (kif_t rfl (i4.lg fun c17 h17 => insts_spec h17 z0 (kif_t rfl (known3 rfl))))))

theorem DecodeBack {w : Int} (h1 : TyAll m shI c) (hw : (Lit.int .u32 w).wf = true) : F5 c w m isTrue := by
  obtain ⟨w0, w1⟩ := wf_u32 hw
  obtain ⟨x, raw, hc, hx⟩ := ic_of h1
  unfold F5
  refine newD hc fun b2 m1 hb2 K1 d => d.lg fun c3 h3 => any_spec h3 hx fun c4 y hy ok => newF hy fun b7 m8 hb7 K7 i7 => i7.lg fun c9 h9 => word_spec h9 ok.i0 ⟨fun b' => b' = b7, ?_⟩
  have R := (right_iff y ok.i0).2 ok
  have ew : wordS y = (orI (headS y.k) (putS y), true) := by unfold wordS; rw [if_pos R]
  have hr := orI_rng (headS y.k) (putS y)
  rw [ew]
  refine kif_f rfl (of_spec hr.1 hr.2 fun c14 h14 => ⟨fun _ _ _ => rfl, rfl, i7.lg fun c16 h16 => ?_⟩)
  rw [of_word ok] at h14
  rw [geq_in h14 h16 _ (by kernel_rfl), decide_eq_true rfl]
  refine kif_f rfl ⟨rfl, i7.lg fun c18 h18 => right_spec h18 ok.i0 ⟨fun _ _ _ => rfl, ?_⟩⟩
  rw [R]
  have hi := of_i w w0
  refine kif_f rfl (of_spec w0 w1 fun c21 h21 => newF h21 fun b24 m25 hb24 K24 i24 => ?_)
  rw [i24.l0]
  have kr : 0 ≤ kindOf w ∧ kindOf w < 78 := kt_rng _ _
  have ek : (ofS w).k = kindOf w := rfl
  refine kif_c _ (fun c => ?_) fun c => ?_
  · have c : kindOf w = 0 := ek ▸ (by simpa using c)
    have e0 : ofS w = ⟨0, 0, 0, 0, 0, 0⟩ := by unfold ofS; rw [c]; rfl
    rw [e0] at i24
    refine i24.lg fun c27 h27 => ?_
    rw [geq_in h27 z6_in _ (by kernel_rfl), decide_eq_true rfl]
    refine kif_t rfl (i24.lg fun c29 h29 => right_spec h29 (by decide) ?_)
    rw [show rightS ⟨0, 0, 0, 0, 0, 0⟩ = false by decide +kernel]
    refine kif_t rfl (i24.lg fun c32 h32 => class_spec h32 (kif_t (by decide) (known3 rfl)))
  · have c : ¬ kindOf w = 0 := ek ▸ (by simpa using c)
    have okw := of_ok w0 (by omega) kr.2
    have Rw := (right_iff _ hi).2 okw
    have eww : wordS (ofS w) = (orI (headS (ofS w).k) (putS (ofS w)), true) := by unfold wordS; rw [if_pos Rw]
    have hrw := orI_rng (headS (ofS w).k) (putS (ofS w))
    refine i24.lg fun c37 h37 => word_spec h37 hi ⟨fun b' => b' = b24, ?_⟩
    rw [eww]
    refine kif_t rfl (of_spec hrw.1 hrw.2 fun c42 h42 => ⟨fun _ _ _ => rfl, rfl, i24.lg fun c44 h44 => ?_⟩)
    rw [of_word okw] at h42
    rw [geq_in h42 h44 _ (by kernel_rfl), decide_eq_true rfl]
    exact kif_t rfl (known3 ⟨fun _ _ _ => rfl, rfl⟩)

theorem DecodeFields {n : Int} (h1 : TyAll m shI c) (hn : (Lit.int .i64 n).wf = true) : F6 c n m isTrue := by
  obtain ⟨n0, n1⟩ := wf_i64 hn
  obtain ⟨x, raw, hc, hx⟩ := ic_of h1
  unfold F6
  refine newD hc fun b2 m1 hb2 K1 d => d.lg fun c3 h3 => any_spec h3 hx fun c4 y hy ok => newF hy fun b7 m8 hb7 K7 i7 => i7.lg fun c9 h9 => word_spec h9 ok.i0 ?_
  have R := (right_iff y ok.i0).2 ok
  have ew : wordS y = (orI (headS y.k) (putS y), true) := by unfold wordS; rw [if_pos R]
  have hr := orI_rng (headS y.k) (putS y)
  rw [ew]
  have hb : 0 ≤ (IntKind.wrap .i64 (n.tmod 32 + 32)).tmod 32 ∧ (IntKind.wrap .i64 (n.tmod 32 + 32)).tmod 32 < 32 := by
    have h : -32 < n.tmod 32 ∧ n.tmod 32 < 32 := by
      by_cases c : 0 ≤ n
      · rw [tmod_nn c]; omega
      · have e : n.tmod 32 = -((-n).tmod 32) := by rw [Int.neg_tmod]; omega
        rw [e, tmod_nn (by omega)]; omega
    rw [wrap64 (by omega) (by omega), tmod_nn (by omega)]
    omega
  generalize (IntKind.wrap .i64 (n.tmod 32 + 32)).tmod 32 = q at hb
  have eq64 : IntKind.wrap .u64 q = q := by simp [IntKind.wrap, IntKind.bits, IntKind.signed]; omega
  rw [eq64]
  have hv := xor_rng (orI (headS y.k) (putS y)) (IntKind.wrap .u32 (1 * 2 ^ min q.toNat 32))
  generalize bits .xor .u32 (orI (headS y.k) (putS y)) (IntKind.wrap .u32 (1 * 2 ^ min q.toNat 32)) = v at hv
  have hi := of_i v hv.1
  refine kif_f (by simp; omega) (of_spec hv.1 hv.2 fun c13 h13 => newF h13 fun b16 m17 hb16 K16 i16 => kif_f rfl (i16.lg fun c18 h18 => word_spec h18 hi (i16.lg fun c22 h22 => (i7.keep K16).lg fun c23 h23 => ?_)))
  rw [geq_in h22 h23 _ (by kernel_rfl)]
  by_cases e : ofS v = y
  · rw [e, decide_eq_true rfl, ew]
    exact kif_t rfl (kif_t rfl (kif_t (by simp) (known3 rfl)))
  · rw [decide_eq_false e]
    refine kif_f rfl ?_
    cases hs : (wordS (ofS v)).2 with
    | false => exact kif_t rfl (known3 rfl)
    | true =>
      refine kif_f rfl (kif_t ?_ (known3 rfl))
      have Rv : rightS (ofS v) = true := by
        unfold wordS at hs; split at hs
        · rename_i h; exact h
        · cases hs
      have okv := (right_iff _ hi).1 Rv
      have ewv : (wordS (ofS v)).1 = orI (headS (ofS v).k) (putS (ofS v)) := by unfold wordS; rw [if_pos Rv]
      rw [ewv]
      have ne : orI (headS (ofS v).k) (putS (ofS v)) ≠ orI (headS y.k) (putS y) := fun q => by
        have a := of_word okv
        rw [q, of_word ok] at a
        exact e a.symm
      simpa using ne

/-! ### the closed sentence -/
def Six (y : Blk) : Prop := ∀ i, i < 6 → ∃ w : Int, y.c i = .flat (.int .u32 w) ∧ 0 ≤ w ∧ w < 4294967296
theorem six_mk {y : Blk} (w : Nat → Int) (hw : ∀ j, 0 ≤ w j ∧ w j < 4294967296) (h0 : y.c 0 = .flat (.int .u32 (w 0))) (h1 : y.c 1 = .flat (.int .u32 (w 1))) (h2 : y.c 2 = .flat (.int .u32 (w 2))) (h3 : y.c 3 = .flat (.int .u32 (w 3))) (h4 : y.c 4 = .flat (.int .u32 (w 4))) (h5 : y.c 5 = .flat (.int .u32 (w 5))) : Six y := by
  intro i hi
  have : i = 0 ∨ i = 1 ∨ i = 2 ∨ i = 3 ∨ i = 4 ∨ i = 5 := by omega
  rcases this with rfl | rfl | rfl | rfl | rfl | rfl
  · exact ⟨_, h0, hw _⟩
  · exact ⟨_, h1, hw _⟩
  · exact ⟨_, h2, hw _⟩
  · exact ⟨_, h3, hw _⟩
  · exact ⟨_, h4, hw _⟩
  · exact ⟨_, h5, hw _⟩
theorem n8 {b : Nat} {y : Blk} (e : m.obj b = some y) (hn : y.n = 6) (h6 : Six y) {o z : Int} {k4 : Mem → Prop} {kr : Bool → Mem → Prop} (hk : k4 m) : ∀ (r i : Nat), i + r = 6 → L3_8 o z (.sl b 0 6 (.ex 6)) 6 (r + 1) i m k4 kr := by
  intro r
  induction r with
  | zero =>
    intro i hi
    unfold L3_8 R3_8
    exact kif_f (by simp; omega) hk
  | succ r ih =>
    intro i hi
    unfold L3_8 R3_8
    obtain ⟨w, hw, w0, w1⟩ := h6 i (by omega)
    refine kif_t (by simp; omega) (kif_ix (by omega) (by show (i : Int) < (6 : Nat); omega) ?_)
    rw [ldI_of e (by omega) (by rw [show 0 + (i : Int).toNat * 1 = i by omega]; exact hw)]
    have hr := or_rng (IntKind.wrap .u32 (o * 67108864)) w
    refine words_spec hr.1 hr.2 (kif_f rfl ?_)
    rw [wrap64 (by omega) (by omega)]
    exact ih (i + 1) (by omega)
theorem n5 {o : Int} {k2 : Mem → Prop} {kr : Bool → Mem → Prop} (hk : ∀ m, k2 m) : ∀ (r i : Nat) (m : Mem), i + r = 64 → L3_5 o (r + 1) i m k2 kr := by
  intro r
  induction r with
  | zero =>
    intro i m hi
    unfold L3_5 R3_5
    exact kif_f (by simp; omega) (hk m)
  | succ r ih =>
    intro i m hi
    unfold L3_5 R3_5
    refine kif_t (by simp; omega) (newK_i fun b m1 hb K e O => ⟨7, n8 e rfl ?_ ?_ 6 0 (by omega)⟩)
    · refine six_mk (fun j => match j with
        | 0 => (i : Int)
        | 1 => bits .and .u32 (IntKind.wrap .u32 ((i : Int) * 65536)) 2031616
        | 2 => bits .and .u32 (IntKind.wrap .u32 ((i : Int) * 2097152)) 65011712
        | 3 => bits .or .u32 33554432 (i : Int)
        | 4 => bits .or .u32 (IntKind.wrap .u32 ((i : Int) * 64)) 63
        | _ => IntKind.wrap .u32 (67108863 - (i : Int))) (fun j => ?_) rfl rfl rfl rfl rfl rfl
      split
      · omega
      · exact and_rng _ _
      · exact and_rng _ _
      · exact or_rng _ _
      · exact or_rng _ _
      · exact wrap32_rng _
    · rw [wrap32, Int.emod_eq_of_lt (by omega) (by omega)]
      exact ih (i + 1) m1 (by omega)
theorem n2 {k0 : Mem → Prop} {kr : Bool → Mem → Prop} (hk : ∀ m, k0 m) : ∀ (r i : Nat) (m : Mem), i + r = 64 → L3_2 (r + 1) i m k0 kr := by
  intro r
  induction r with
  | zero =>
    intro i m hi
    unfold L3_2 R3_2
    exact kif_f (by simp; omega) (hk m)
  | succ r ih =>
    intro i m hi
    unfold L3_2 R3_2
    refine kif_t (by simp; omega) ⟨65, n5 (fun m14 => ?_) 64 0 m (by omega)⟩
    rw [wrap32, Int.emod_eq_of_lt (by omega) (by omega)]
    exact ih (i + 1) m14 (by omega)
theorem n47 {b : Nat} {y : In} (i : InB m b y) (hi : 0 ≤ y.i) {o z : Int} {kr : Bool → Mem → Prop} {kn : Mem → Prop} (hk : kn m) : P3_47102 o z b 0 m kr kn := by
  unfold P3_47102
  exact i.lg fun c hc => insts_spec hc hi (kif_f rfl hk)
theorem n17 {o : Int} {k8 : Mem → Prop} {kr : Bool → Mem → Prop} (hk : ∀ m, k8 m) : ∀ (r i : Nat) (m : Mem), i + r = 14 → L3_17 o (r + 1) i m k8 kr := by
  intro r
  induction r with
  | zero =>
    intro i m hi
    unfold L3_17 R3_17
    exact kif_f (by simp; omega) (hk m)
  | succ r ih =>
    intro i m hi
    unfold L3_17 R3_17
    refine kif_t (by simp; omega) (newF (x := ⟨o, 0, 0, 0, 0, 0⟩) ⟨rfl, rfl, rfl, rfl, rfl, rfl⟩ fun b m1 hb K j => ?_)
    rw [wrap64 (by omega) (by omega)]
    have nx : ∀ m, L3_17 o (r + 1) ((i : Int) + 1) m k8 kr := fun m => ih (i + 1) m (by omega)
    refine kif_c _ (fun _ => j.s1 fun m2 j2 o2 => n47 j2 (by dsimp only; omega) (nx m2)) fun _ => kif_c _ (fun _ => j.s2 fun m2 j2 o2 => n47 j2 (by dsimp only; omega) (nx m2)) fun _ => kif_c _ (fun _ => j.s3 fun m2 j2 o2 => n47 j2 (by dsimp only; omega) (nx m2)) fun _ => kif_c _ (fun _ => j.s4 fun m2 j2 o2 => n47 j2 (by dsimp only; omega) (nx m2)) fun _ =>
      kif_c _ (fun _ => j.s5 fun m2 j2 o2 => n47 j2 (by dsimp only; omega) (nx m2)) fun _ => kif_c _ (fun _ => j.s5 fun m2 j2 o2 => n47 j2 (by dsimp only; omega) (nx m2)) fun _ => kif_c _ (fun _ => j.s1 fun m2 j2 o2 => n47 j2 (by dsimp only; omega) (nx m2)) fun _ => kif_c _ (fun _ => j.s2 fun m2 j2 o2 => n47 j2 (by dsimp only; omega) (nx m2)) fun _ =>
      kif_c _ (fun _ => j.s3 fun m2 j2 o2 => n47 j2 (by dsimp only; omega) (nx m2)) fun _ => kif_c _ (fun _ => j.s4 fun m2 j2 o2 => n47 j2 (by dsimp only; omega) (nx m2)) fun _ => kif_c _ (fun _ => j.s5 fun m2 j2 o2 => n47 j2 (by dsimp only; omega) (nx m2)) fun _ => kif_c _ (fun _ => j.s5 fun m2 j2 o2 => n47 j2 (by dsimp only; omega) (nx m2)) fun _ =>
      kif_c _ (fun _ => j.s1 fun m2 j2 o2 => j2.s2 fun m3 j3 o3 => j3.s3 fun m4 j4 o4 => n47 j4 (by dsimp only; omega) (nx m4)) fun _ => n47 j (by dsimp only; omega) (nx m1)
theorem n14 {k6 : Mem → Prop} {kr : Bool → Mem → Prop} (hk : ∀ m, k6 m) : ∀ (r : Nat) (i : Int) (m : Mem), -2 ≤ i → i + r = 81 → L3_14 (r + 1) i m k6 kr := by
  intro r
  induction r with
  | zero =>
    intro i m h2 hi
    unfold L3_14 R3_14
    exact kif_f (by simp; omega) (hk m)
  | succ r ih =>
    intro i m h2 hi
    unfold L3_14 R3_14
    refine kif_t (by simp; omega) ⟨15, n17 (fun m85 => ?_) 14 0 m (by omega)⟩
    rw [wrap64 (by omega) (by omega)]
    exact ih (i + 1) m85 (by omega) (by omega)
theorem DecodeNumbers : F3 m isTrue := by
  unfold F3
  exact ⟨65, n2 (fun m18 => ⟨84, n14 (fun m89 => known3 rfl) 83 (-2) m18 (by omega) (by omega)⟩) 64 0 m (by omega)⟩
end
end Go.Proofs.Ytmhlljnnpoegbaa.Am
