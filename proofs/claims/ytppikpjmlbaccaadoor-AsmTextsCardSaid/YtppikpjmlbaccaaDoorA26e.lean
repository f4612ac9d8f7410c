/- Texts of instructions: what asm.Text gives; the law. Conditions: the fields' bounds. -/
import Derived.Test.YtppikpjmlbaccaaDoorA26b
import Derived.Test.YtppikpjmlbaccaaDoorA26d
namespace Go.Proofs.YtppikpjmlbaccaaDoor.Am
set_option linter.unusedVariables false
set_option linter.unusedSimpArgs false
set_option maxRecDepth 100000

section
variable {m0 m : Mem}
abbrev txC (x : In) : Nat → AV := fun i => .flat (.string (itB (fld x i)))
theorem text_loop {x : In} (hx : TB x) {b : Nat} {y : Blk} (hb : m0.obj b = some y) (hn : y.n = 6) (hc : ∀ i, i < 6 → y.c i = .flat (.int .i64 (fld x i))) {k0 : AV → Mem → Prop}
    (h0 : ∀ v m', IsL m' 1 v 6 (txC x) → Keeps m0 m' → k0 v m') :
    ∀ (j i : Nat) (v : AV) (m : Mem), i + j = 6 → IsL m 1 v i (txC x) → Keeps m0 m → (∀ b, own v b → m0.obj b = none) → L5_3 (.sl b 0 6 (.ex 6)) 6 (j + 1) v i m k0
  | 0, i, v, m, e, hv, K, ho => by
    have e : i = 6 := by omega
    subst e
    show R5_3 _ _ _ _ _ _ _
    unfold R5_3
    exact kif_f (by simp) (h0 v m hv K)
  | j + 1, i, v, m, e, hv, K, ho => by
    show R5_3 _ _ _ _ _ _ _
    unfold R5_3
    rw [wrap64 (n := (i : Int) + 1) (by omega) (by omega)]
    refine kif_t (by simp; omega) (kif_t (by simp; omega) ?_)
    have hb' : m.obj b = some y := by rw [K b (by rw [hb]; simp)]; exact hb
    rw [ldI_of hb' (by omega) (show y.c (0 + (i : Int).toNat * 1) = .flat (.int .i64 (fld x i)) by rw [show 0 + (i : Int).toNat * 1 = i by omega]; exact hc i (by omega))]
    have r := hx i
    refine ⟨⟨by omega, by omega⟩, ?_⟩
    refine appN (n := i) (n' := 1) (c := txC x) hv rfl (fun t ht => ?_) (by omega) fun v' m2 g1 g2 g3 => ?_
    · have : t = 0 := by omega
      subst this
      show AV.flat (.string _) = AV.flat (.string (itB (fld x (i * 1 + 0))))
      rw [show i * 1 + 0 = i by omega]; rfl
    · refine text_loop hx hb hn hc h0 j (i + 1) v' m2 (by omega) g1 (g2.keeps K ho) fun b' hb' => ?_
      rcases g3 b' hb' with h | h
      · exact ho b' h
      · exact newK_none K h
theorem text_spec {c : Nat → AV} {x : In} (hc : InC c x) (hx : TB x) {k : ByteArray → Mem → Prop} (hk : ∀ m', Keeps m m' → k (txt x) m') : F5 c m k := by
  unfold F5
  refine newI hc fun b m1 hb K1 ib O1 => ?_
  obtain ⟨z, ez, nz, rz, c0, c1, c2, c3, c4, c5⟩ := ib
  rw [ldI_of ez (by omega) c0, ldI_of ez (by omega) c1, ldI_of ez (by omega) c2, ldI_of ez (by omega) c3, ldI_of ez (by omega) c4, ldI_of ez (by omega) c5]
  refine newK_i fun b2 m2 hb2 K2 e2 O2 => ⟨6 + 1, ?_⟩
  refine text_loop (m0 := m2) hx e2 rfl (fun i hi => ?_) (fun v m3 g3 K3 => ?_) 6 0 _ m2 (by omega) (.nil none _) (Keeps.self _) fun b e => e.elim
  · have i5 := hx 5
    simp only [fld] at i5
    match i, hi with
    | 0, _ => rfl
    | 1, _ => rfl
    | 2, _ => rfl
    | 3, _ => rfl
    | 4, _ => rfl
    | 5, _ => show AV.flat (.int .i64 (IntKind.wrap .i64 x.i)) = AV.flat (.int .i64 x.i); rw [wrap64 (by omega) (by omega)]
  · have e32 : (Yb11 : ByteArray).data.toList = [32] := rfl
    cases g3 with
    | sl b o n cap y c h1 h2 h3 h4 h5 =>
      refine ⟨b, o, cap, itL x, y, rfl, h1, (show o + 6 ≤ y.n by omega), fun j s hs => ?_, by simp [itL], ?_, ?_⟩
      · have hj : j < 6 := by obtain ⟨h, _⟩ := List.getElem?_eq_some_iff.1 hs; simpa [itL] using h
        rw [itL_get x j s hs]
        exact h3 j (by omega)
      · rw [e32, itL_join]
        have := text_len hx
        omega
      · rw [e32, itL_join]
        exact hk m3 (K1.trans (K2.trans K3))

theorem AsmTexts_law {m : Mem} {c0 c1 : Nat → AV} (h0 : TyAll m shI c0) (h1 : TyAll m shI c1) : F3 c0 c1 m isTrue := by
  obtain ⟨x, rx, ix, tx⟩ := ic_of h0
  obtain ⟨y, ry, iy, ty⟩ := ic_of h1
  unfold F3
  refine newD ix fun b2 m1 hb2 K1 d2 => newD iy fun b4 m3 hb4 K3 d4 => ?_
  have kin : ∀ F : Nat → Prop, KeepsIn F m3 m3 := fun F b _ _ => rfl
  have kof : ∀ {F : Nat → Prop} {a b : Mem}, Keeps a b → KeepsIn F a b := fun K b _ hb => K b hb
  refine ⟨fun _ => True, trivial, (d2.keep K3).lg fun c6 h6 => any_spec h6 tx fun c7 X i7 oX => ⟨kin _, trivial, d4.lg fun c9 h9 => any_spec h9 ty fun c10 Y i10 oY => ⟨kin _, ?_⟩⟩⟩
  refine newI z6_in fun b13 m12 hb13 K12 i13 O12 => newI z6_in fun b15 m14 hb15 K14 i15 O14 => ?_
  have hne : b13 ≠ b15 := fun e => by obtain ⟨z, ez, _⟩ := i13; rw [e, hb15] at ez; cases ez
  refine (i13.keep K14).sg i7 fun m16 j13 O16 => InB.sg ((show InB m16 b15 _ by obtain ⟨z, ez, r⟩ := i15; exact ⟨z, by rw [O16 b15 (Ne.symm hne)]; exact ez, r⟩)) i10 fun m17 j15 O17 => ?_
  have j13 : InB m17 b13 X := by obtain ⟨z, ez, r⟩ := j13; exact ⟨z, by rw [O17 b13 hne]; exact ez, r⟩
  have pX : decide (((txt X).size : Int) > 0) = true := decide_eq_true (by rw [txt_size]; have := text_pos X; omega)
  have p0 : decide (((txt ⟨0, 0, 0, 0, 0, 0⟩).size : Int) > 0) = true := decide_eq_true (by rw [txt_size]; have := text_pos ⟨0, 0, 0, 0, 0, 0⟩; omega)
  refine ⟨fun _ => True, trivial, j13.lg fun c19 h19 => text_spec h19 oX.tb fun m21 K21 => ⟨kof K21, kif_t pX ⟨trivial, (j13.keep K21).lg fun c22 h22 => text_spec h22 oX.tb fun m24 K24 => ⟨kof K24, trivial, ?_⟩⟩⟩⟩
  have K1724 := K21.trans K24
  refine (j15.keep K1724).lg fun c25 h25 => text_spec h25 oY.tb fun m27 K27 => ⟨kof K27, trivial, ?_⟩
  have K1727 := K1724.trans K27
  refine (j13.keep K1727).lg fun c28 h28 => ⟨trivial, (j15.keep K1727).lg fun c29 h29 => ?_⟩
  rw [geq_in h28 h29 _ (by kernel_rfl), txt_eq oX.tb oY.tb]
  refine kif_t (by simp) (text_spec z6_in tb0 fun m32 K32 => ⟨kof K32, kif_t p0 (known26 fun m34 K34 => ⟨kof K34, ?_⟩)⟩)
  simp [isTrue]
end
end Go.Proofs.YtppikpjmlbaccaaDoor.Am
