/- Law 19's LiftNumbers. Conditions: none of its own. -/
import Derived.Test.YtkgidjnaddjjbaaGreatC19i
namespace Go.Proofs.YtkgidjnaddjjbaaGreat.Am
set_option linter.unusedVariables false
set_option linter.unusedSimpArgs false
set_option maxRecDepth 100000
set_option maxHeartbeats 1000000

section
variable {m0 m : Mem}
theorem inst_all {kd : Int} {c : Nat → AV} {x : In} {raw : Int} (hc : IC c x raw) (hx : ITy x raw) {k : (Nat → AV) → Mem → Prop} (hk : ∀ c y, InC c y → 0 ≤ y.i → k c m) : F6 c kd m k := by
  unfold F6
  refine newD hc fun b2 m1 hb2 K1 d => newZ z6_in fun b4 m3 hb4 K4 i4 O4 => ?_
  have d3 := d.keep K4
  refine ⟨fun b' => b' = b2, rfl, ?_⟩
  have kin : ∀ F : Nat → Prop, KeepsIn F m3 m3 := fun F b _ _ => rfl
  rw [d3.l1]
  refine near_spec hx.s.a hx.s.b fun s s0 s1 => ⟨kin _, rfl, ?_⟩
  rw [d3.l2]
  refine near_spec hx.t.a hx.t.b fun t t0 t1 => ⟨kin _, rfl, ?_⟩
  rw [d3.l3]
  refine near_spec hx.d.a hx.d.b fun dd dd0 dd1 => ⟨kin _, rfl, ?_⟩
  rw [d3.l4]
  refine within_spec (by omega) (by omega) hx.h.a hx.h.b fun h h0 h1 => ⟨kin _, rfl, ?_⟩
  rw [d3.l5, and26 x.i hx.i0 hx.i1]
  refine newF (x := ⟨kd, s, t, dd, h, x.i % 67108864⟩) ⟨rfl, rfl, rfl, rfl, rfl, rfl⟩ fun b20 m21 hb20 K20 i20 => ?_
  have hne : b4 ≠ b20 := fun e => by subst e; exact i4.live hb20
  have j4 := i4.keep K20
  have K : Keeps m m21 := (K1.trans K4).trans K20
  have g20 : m.obj b20 = none := newK_none (K1.trans K4) hb20
  have g4 : m.obj b4 = none := newK_none K1 hb4
  have y0 : 0 ≤ (⟨kd, s, t, dd, h, x.i % 67108864⟩ : In).i := by dsimp only; omega
  generalize (⟨kd, s, t, dd, h, x.i % 67108864⟩ : In) = y at i20 y0
  refine ⟨7, inst_3 (f := 0) (by omega) i20 y0 K g20 fun m2 i2 k2 r2 => inst_3 (f := 1) (by omega) i2 (step_i y0 0) k2 g20 fun m3 i3 k3 r3 => inst_3 (f := 2) (by omega) i3 (step_i (step_i y0 0) 1) k3 g20 fun m4 i4 k4 r4 => inst_3 (f := 3) (by omega) i4 (step_i (step_i (step_i y0 0) 1) 2) k4 g20 fun m5 i5 k5 r5 => inst_3 (f := 4) (by omega) i5 (step_i (step_i (step_i (step_i y0 0) 1) 2) 3) k5 g20 fun m6 i6 k6 r6 => inst_3 (f := 5) (by omega) i6 (step_i (step_i (step_i (step_i (step_i y0 0) 1) 2) 3) 4) k6 g20 fun m7 i7 k7 r7 => ?_⟩
  unfold L6_3 R6_3
  refine kif_f (by decide) ?_
  have l4 := j4.live
  have q2 := r2 b4 hne l4
  have q3 := r3 b4 hne (by rw [q2]; exact l4)
  have q4 := r4 b4 hne (by rw [q3, q2]; exact l4)
  have q5 := r5 b4 hne (by rw [q4, q3, q2]; exact l4)
  have q6 := r6 b4 hne (by rw [q5, q4, q3, q2]; exact l4)
  have q7 := r7 b4 hne (by rw [q6, q5, q4, q3, q2]; exact l4)
  have j7 : InB m7 b4 ⟨0, 0, 0, 0, 0, 0⟩ := by
    obtain ⟨z, e, r⟩ := j4
    exact ⟨z, by rw [q7, q6, q5, q4, q3, q2]; exact e, r⟩
  exact i7.lg fun c hc => j7.sg hc fun m8 j8 o8 => j8.lg fun c hc => ⟨Only.keeps k7 g4 o8, hc.inDom m, hk c _ hc (step_i (step_i (step_i (step_i (step_i (step_i y0 0) 1) 2) 3) 4) 5)⟩
theorem cells_u {n : Nat} {c : Nat → AV} (h : ((List.range n).all fun j => match c j with | .flat (.int .u32 v) => decide (0 ≤ v) && decide (v < 4294967296) | _ => false) = true) : ∀ j, j < n → ∃ v, c j = AV.flat (.int .u32 v) ∧ isU v := by
  intro j hj
  have := List.all_eq_true.1 h j (List.mem_range.2 hj)
  revert this
  generalize c j = a
  intro h
  split at h
  · exact ⟨_, rfl, by simp only [Bool.and_eq_true, decide_eq_true_eq] at h; exact h⟩
  · cases h
theorem num_fill {va : AV} (o : ∀ b, own va b → m0.obj b = none) {k0 : Mem → Prop} (hk : ∀ m f, Keeps m0 m → Regs m va f → k0 m) : ∀ (j i : Nat) (m : Mem) (f : Nat → Int), i + j = 40 → Keeps m0 m → Regs m va f → L3_3 va 40 (j + 1) i m k0
  | 0, i, m, f, e, K, h => by
    show R3_3 _ _ _ _ _ _
    unfold R3_3
    exact kif_f (by simp; omega) (hk m f K h)
  | j + 1, i, m, f, e, K, h => by
    show R3_3 _ _ _ _ _ _
    unfold R3_3
    rw [wrap64 (n := (i : Int) + 1) (by omega) (by omega), tmod_nn (by omega)]
    refine kif_t (by simp; omega) (newK_i fun b4 m3 hb4 K3 e4 O4 => kif_t (by simp; omega) ?_)
    obtain ⟨v, hv, hu⟩ := cells_u (n := 8) (c := upd (upd (upd (upd (upd (upd (upd (upd (Z8) 0 (.flat (.int .u32 0))) 1 (.flat (.int .u32 1))) 2 (.flat (.int .u32 2147483648))) 3 (.flat (.int .u32 4294967295))) 4 (.flat (.int .u32 33))) 5 (.flat (.int .u32 2147483647))) 6 (.flat (.int .u32 32768))) 7 (.flat (.int .u32 5))) (by kernel_rfl) (0 + ((i : Int) % 8).toNat * 1) (by omega)
    rw [ldI_of e4 (by show 0 + ((i : Int) % 8).toNat * 1 < 8; omega) hv]
    exact (h.keep K3).st (by omega) (by omega) hu fun m' r' F' => num_fill o hk j (i + 1) m' _ (by omega) (Fr.keeps (K.trans K3) F' o) r'
variable {va : AV} {f : Nat → Int}
theorem num_one {b16 : Nat} {y : In} {x3 x4 x5 x6 : Int} (K : Keeps m0 m) (hl : IsR m0 1 va 40 (cK .u32 f)) (uf : ∀ i, i < 40 → isU (f i)) (i16 : InB m b16 y) (hi : 0 ≤ y.i) {kr : Bool → Mem → Prop} {kn : Mem → Prop} (hk : ∀ m', Keeps m0 m' → kn m') : P3_22102 va x3 x4 x5 x6 b16 0 m kr kn := by
  unfold P3_22102
  exact i16.lg fun c21 h21 => same19 h21 hi (hl.keep K) uf fun m' K' => kif_f rfl (hk m' (K.trans K'))
theorem num_17 (hl : IsR m0 1 va 40 (cK .u32 f)) (uf : ∀ i, i < 40 → isU (f i)) {x3 x4 x5 : Int} (a0 : 0 ≤ x4) (a1 : x4 < 6) (b0 : 0 ≤ x5) (b1 : x5 < 6) {k8 : Mem → Prop} {kr : Bool → Mem → Prop} (hk : ∀ m', Keeps m0 m' → k8 m') : ∀ (j i : Nat) (m : Mem), i + j = 4 → Keeps m0 m → L3_17 va x3 x4 x5 (j + 1) i m k8 kr
  | 0, i, m, e, K => by
    show R3_17 _ _ _ _ _ _ _ _ _
    unfold R3_17
    exact kif_f (by simp; omega) (hk m K)
  | j + 1, i, m, e, K => by
    show R3_17 _ _ _ _ _ _ _ _ _
    unfold R3_17
    rw [wrap64 (n := (i : Int) + 1) (by omega) (by omega)]
    have recu : ∀ m', Keeps m0 m' → L3_17 va x3 x4 x5 (j + 1) ((i : Int) + 1) m' k8 kr := fun m' K' => num_17 hl uf a0 a1 b0 b1 hk j (i + 1) m' (by omega) K'
    have w := wrap32_rng ((IntKind.wrap .u32 x5) * 13107)
    refine kif_t (by simp; omega) (inst_all (x := ⟨0, IntKind.wrap .i64 (x4 * 8), IntKind.wrap .i64 (x5 * 8), IntKind.wrap .i64 ((i : Int) * 8), IntKind.wrap .i64 (x4 * 6), IntKind.wrap .u32 ((IntKind.wrap .u32 x5) * 13107)⟩) (raw := 0) ⟨rfl, rfl, rfl, rfl, rfl, rfl, rfl⟩ ?_ fun c13 y hy y0 => newF hy fun b16 m1 hb16 K1 i16 => ?_)
    · rw [wrap64 (n := x4 * 8) (by omega) (by omega), wrap64 (n := x5 * 8) (by omega) (by omega), wrap64 (n := (i : Int) * 8) (by omega) (by omega), wrap64 (n := x4 * 6) (by omega) (by omega)]
      exact ⟨⟨by dsimp only; omega, by dsimp only; omega⟩, ⟨by dsimp only; omega, by dsimp only; omega⟩, ⟨by dsimp only; omega, by dsimp only; omega⟩, ⟨by dsimp only; omega, by dsimp only; omega⟩, ⟨by dsimp only; omega, by dsimp only; omega⟩, w.1, w.2, by decide, by decide⟩
    have K2 := K.trans K1
    have hb' : m0.obj b16 = none := newK_none K hb16
    have ov : stG 6 m1 b16 0 (upd (Z6) 0 (.flat (.int .i64 x3))) fun m18 => P3_22102 va x3 x4 x5 i b16 0 m18 (fun x24 m25 => kr x24 m25) (fun m26 => L3_17 va x3 x4 x5 (j + 1) ((i : Int) + 1) m26 k8 kr) :=
      i16.sg (y := ⟨x3, 0, 0, 0, 0, 0⟩) ⟨rfl, rfl, rfl, rfl, rfl, rfl⟩ fun m2 j2 o2 => num_one (Only.keeps K2 hb' o2) hl uf j2 (Int.le_refl 0) recu
    exact kif_c _ (fun _ => ov) fun _ => kif_c _ (fun _ => ov) fun _ => kif_c _ (fun _ => ov) fun _ => num_one K2 hl uf i16 y0 recu
theorem num_14 (hl : IsR m0 1 va 40 (cK .u32 f)) (uf : ∀ i, i < 40 → isU (f i)) {x3 x4 : Int} (a0 : 0 ≤ x4) (a1 : x4 < 6) {k8 : Mem → Prop} {kr : Bool → Mem → Prop} (hk : ∀ m', Keeps m0 m' → k8 m') : ∀ (j i : Nat) (m : Mem), i + j = 6 → Keeps m0 m → L3_14 va x3 x4 (j + 1) i m k8 kr
  | 0, i, m, e, K => by
    show R3_14 _ _ _ _ _ _ _ _
    unfold R3_14
    exact kif_f (by simp; omega) (hk m K)
  | j + 1, i, m, e, K => by
    show R3_14 _ _ _ _ _ _ _ _
    unfold R3_14
    rw [wrap64 (n := (i : Int) + 1) (by omega) (by omega)]
    exact kif_t (by simp; omega) ⟨5, num_17 hl uf a0 a1 (by omega) (by omega) (fun m' K' => num_14 hl uf a0 a1 hk j (i + 1) m' (by omega) K') 4 0 m (by omega) K⟩
theorem num_11 (hl : IsR m0 1 va 40 (cK .u32 f)) (uf : ∀ i, i < 40 → isU (f i)) {x3 : Int} {k8 : Mem → Prop} {kr : Bool → Mem → Prop} (hk : ∀ m', Keeps m0 m' → k8 m') : ∀ (j i : Nat) (m : Mem), i + j = 6 → Keeps m0 m → L3_11 va x3 (j + 1) i m k8 kr
  | 0, i, m, e, K => by
    show R3_11 _ _ _ _ _ _ _
    unfold R3_11
    exact kif_f (by simp; omega) (hk m K)
  | j + 1, i, m, e, K => by
    show R3_11 _ _ _ _ _ _ _
    unfold R3_11
    rw [wrap64 (n := (i : Int) + 1) (by omega) (by omega)]
    exact kif_t (by simp; omega) ⟨7, num_14 hl uf (by omega) (by omega) (fun m' K' => num_11 hl uf hk j (i + 1) m' (by omega) K') 6 0 m (by omega) K⟩
theorem num_8 (hl : IsR m0 1 va 40 (cK .u32 f)) (uf : ∀ i, i < 40 → isU (f i)) {k8 : Mem → Prop} {kr : Bool → Mem → Prop} (hk : ∀ m', Keeps m0 m' → k8 m') : ∀ (j : Nat) (i : Int) (m : Mem), i + j = 79 → -1 ≤ i → Keeps m0 m → L3_8 va (j + 1) i m k8 kr
  | 0, i, m, e, h, K => by
    show R3_8 _ _ _ _ _ _
    unfold R3_8
    exact kif_f (by simp; omega) (hk m K)
  | j + 1, i, m, e, h, K => by
    show R3_8 _ _ _ _ _ _
    unfold R3_8
    rw [wrap64 (n := i + 1) (by omega) (by omega)]
    exact kif_t (by simp; omega) ⟨7, num_11 hl uf (fun m' K' => num_8 hl uf hk j (i + 1) m' (by omega) (by omega) K') 6 0 m (by omega) K⟩
theorem LiftNumbers : F3 m isTrue := by
  unfold F3
  refine mkS_i (by decide) (by decide) (by decide) fun b1 m1 hb1 K1 e1 O1 => ?_
  have Z : cK .u32 (fun _ => 0) = reprow [.flat (.int .u32 0)] := by rw [reprow1f]; rfl
  have R0 : Regs m1 (.sl b1 0 40 (.ex 40)) (fun _ => 0) := ⟨by rw [Z]; exact IsL.row (esz := 1) e1 rfl rfl, fun i => (⟨by decide, by decide⟩ : isU 0)⟩
  exact ⟨41, num_fill (m0 := m) (fun b e => by cases e; exact hb1) (fun m2 f K2 R => ⟨81, num_8 R.l.r (fun i _ => R.u i) (fun m3 K3 => known19 fun m' => rfl) 80 (-1) m2 (by omega) (by omega) (Keeps.self m2)⟩) 40 0 m1 _ (by omega) K1 R0⟩
end
end Go.Proofs.YtkgidjnaddjjbaaGreat.Am
