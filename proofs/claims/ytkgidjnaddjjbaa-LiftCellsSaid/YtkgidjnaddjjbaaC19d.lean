/- Law 19's LiftCells. Conditions: none of its own. -/
import Derived.Test.YtkgidjnaddjjbaaC19c
namespace Go.Proofs.Ytkgidjnaddjjbaa.Am
set_option linter.unusedVariables false
set_option linter.unusedSimpArgs false
set_option maxRecDepth 100000

section
variable {m0 m : Mem}
/-! ### known -/
theorem do35 {b0 : Nat} {y : Blk} (e : m.obj b0 = some y) (hn : y.n = 40) (hr : y.ro = false) {c : Nat → AV} {o : Op19} (hc : OpC c o) (hk : o.k = 1 ∨ o.k = 3) (a0 : 0 ≤ o.a) (a1 : o.a < 40) (b0' : 0 ≤ o.b) (b1 : o.b < 40) (d0 : 0 < o.d) (d1 : o.d < 40) {p q : Int}
    (ha : y.c o.a.toNat = .flat (.int .u32 p)) (hb : y.c o.b.toNat = .flat (.int .u32 q)) {k : Mem → Prop}
    (hkk : ∀ m', m'.obj b0 = some { y with c := upd y.c o.d.toNat (.flat (.int .u32 (if o.k = 1 then o.i else IntKind.wrap .u32 (p + q)))) } → Fr (fun b => b = b0) m m' → k m') : F35 b0 0 c m k := by
  unfold F35
  refine newK_i fun b m1 hb1 K1 e1 O1 => ?_
  have hB : OpB m1 b o := ⟨_, e1, rfl, hc⟩
  have e' : m1.obj b0 = some y := by rw [K1 b0 (by rw [e]; simp)]; exact e
  simp only [hB.l2, hB.l3, hB.l0, Nat.zero_add, Nat.mul_one]
  refine kif_t (by simp; omega) ?_
  rw [ldI_of e' (by omega) ha]
  refine kif_t (by simp; omega) ?_
  rw [ldI_of e' (by omega) hb]
  refine kif_f (by simp; omega) ?_
  unfold P35_5004
  refine kif_f (by simp; omega) (kif_f (by simp; omega) ?_)
  unfold P35_7004
  refine kif_f (by simp; omega) (kif_f (by simp; omega) ?_)
  simp only [Nat.zero_add, hB.l1]
  refine kif_f (by simp; omega) (kif_f (by simp; omega) (kif_f (by simp; omega) ?_))
  unfold P35_3004
  refine kif_f rfl ⟨fun b' => b' = b, rfl, ?_⟩
  simp only [Nat.zero_add, hB.l1]
  refine ⟨trivial, ?_⟩
  have fin : ∀ m2 x, x = (if o.k = 1 then o.i else IntKind.wrap .u32 (p + q)) → Keeps m1 m2 → kif (decide (0 ≤ o.d) && decide (o.d < 40)) (stC m2 b0 (o.d.toNat * 1) (.flat (.int .u32 x)) fun m24 => k m24) False := fun m2 x hx K2 => by
    have e2 : m2.obj b0 = some y := by rw [K2 b0 (by rw [e']; simp)]; exact e'
    refine kif_t (by simp; omega) ?_
    rw [stC_of e2 hr (by omega), Nat.mul_one, hx]
    refine hkk _ (set_same _ _ _) fun b' hb' hne => ?_
    rw [set_other _ hne, K2 b' (by rw [K1 b' hb']; exact hb'), K1 b' hb']
  rw [ldG_of e1 (by simp)]
  unfold F46
  refine newK_i fun b9 m2 hb9 K2 e9 O9 => ?_
  have hB9 : OpB m2 b9 o := ⟨_, e9, rfl, by obtain ⟨q0, q1, q2, q3, q4⟩ := hc; refine ⟨?_, ?_, ?_, ?_, ?_⟩; exact q0; exact q1; exact q2; exact q3; exact q4⟩
  rw [hB9.l0, hB9.l4]
  rcases hk with h | h
  · exact kif_t (by simp; omega) ⟨K2, fun _ _ _ => rfl, fin m1 _ (by rw [if_pos h]) (Keeps.self m1)⟩
  · exact kif_f (by simp; omega) (kif_t (by simp; omega) ⟨K2, fun _ _ _ => rfl, fin m1 _ (by rw [if_neg (by omega)]) (Keeps.self m1)⟩)
theorem known19 {k : Bool → Mem → Prop} (hk : ∀ m', k true m') : F8 m k := by
  unfold F8
  have e1 : opsOf ⟨47, 0, 1, 0, 0, 5⟩ = [⟨1, 34, 0, 0, 5⟩, ⟨3, 1, 0, 34, 0⟩] := by kernel_rfl
  refine lof_spec (x := ⟨47, 0, 1, 0, 0, 5⟩) ⟨rfl, rfl, rfl, rfl, rfl, rfl⟩ (by decide) fun v m2 hv K2 ov => ?_
  rw [e1] at hv
  refine newK_i fun b4 m3 hb4 K3 e4 O4 => ?_
  refine lift_is (x := ⟨47, 0, 1, 0, 0, 0⟩) ⟨rfl, rfl, rfl, rfl, rfl, rfl⟩ (by decide) (kif_t (by decide +kernel) ?_)
  refine lift_is (x := ⟨68, 0, 0, 0, 0, 0⟩) ⟨rfl, rfl, rfl, rfl, rfl, rfl⟩ (by decide) (kif_t (by decide +kernel) ?_)
  have hv3 := hv.keep K3
  rw [hv3.len]
  refine kif_t rfl ?_
  unfold F17
  refine ir_none (by decide) hv3 (fun o ho => ?_) (kif_f rfl ?_)
  · simp at ho
    rcases ho with rfl | rfl
    · exact ⟨⟨by decide, by decide⟩, ⟨by decide, by decide⟩, ⟨by decide, by decide⟩, ⟨by decide, by decide⟩, ⟨by decide, by decide⟩⟩
    · exact ⟨⟨by decide, by decide⟩, ⟨by decide, by decide⟩, ⟨by decide, by decide⟩, ⟨by decide, by decide⟩, ⟨by decide, by decide⟩⟩
  rw [stC_of e4 rfl (by decide), hv3.len]
  have notb : ∀ b, own v b → ¬ (b = b4) := fun b ho e => by
    obtain ⟨c, h1, h2⟩ := hv
    exact h1.live ho (e ▸ hb4)
  generalize hm4 : m3.set b4 _ = m4
  have F4 : Fr (fun b => b = b4) m3 m4 := by rw [← hm4]; exact Fr.set (S := fun b => b = b4) rfl _
  have hv4 := hv3.fr F4 notb
  have e5 : m4.obj b4 = some ⟨40, upd Z40 0 (.flat (.int .u32 0)), 48, false⟩ := by rw [← hm4]; exact set_same _ _ _
  have round : ∀ (mm : Mem) (y : Blk) (o : Op19) (i : Nat) (hi : i < 2), IsOps mm v [⟨1, 34, 0, 0, 5⟩, ⟨3, 1, 0, 34, 0⟩] → mm.obj b4 = some y → y.n = 40 → y.ro = false → ([⟨1, 34, 0, 0, 5⟩, ⟨3, 1, 0, 34, 0⟩] : List Op19)[i] = o → (o.k = 1 ∨ o.k = 3) → 0 ≤ o.a → o.a < 40 → 0 ≤ o.b → o.b < 40 → 0 < o.d → o.d < 40 → ∀ p q,
      y.c o.a.toNat = .flat (.int .u32 p) → y.c o.b.toNat = .flat (.int .u32 q) → ∀ (kn : Int → Mem → Prop) k0,
      (∀ m', m'.obj b4 = some { y with c := upd y.c o.d.toNat (.flat (.int .u32 (if o.k = 1 then o.i else IntKind.wrap .u32 (p + q)))) } → Fr (fun b => b = b4) mm m' → kn ((i : Int) + 1) m') → R17_5 b4 0 v 2 i mm kn k0 := fun mm y o i hi h0 h1 h2 h3 h4 h5 a0 a1 b0 b1 d0 d1 p q hp hq kn k0 hkn => by
    unfold R17_5
    rw [wrap64 (n := (i : Int) + 1) (by omega) (by omega)]
    refine kif_t (by simp; omega) (h0.ld i hi fun c hc => newK_i fun b m1 hb K e O => ?_)
    rw [stG_of e rfl (by decide)]
    have hb4' : b4 ≠ b := fun e => by rw [← e, h1] at hb; cases hb
    have Fs : ∀ x, Fr (fun b => b = b4) mm (m1.set b x) := fun x b' hb' _ => by
      rw [set_other _ (fun e : b' = b => hb' (by rw [e]; exact hb)), K b' hb']
    rw [ldG_of (set_same _ _ _) (by simp)]
    rw [h4] at hc
    refine do35 (o := o) (y := y) ?_ h2 h3 ?_ h5 a0 a1 b0 b1 d0 d1 hp hq fun m' g1 g2 => hkn m' g1 ((Fs _).trans g2)
    · rw [set_other _ hb4', K b4 (by rw [h1]; simp)]; exact h1
    · obtain ⟨q0, q1, q2, q3, q4⟩ := hc
      refine ⟨?_, ?_, ?_, ?_, ?_⟩
      exact q0; exact q1; exact q2; exact q3; exact q4
  refine ⟨3, ?_⟩
  show R17_5 _ _ _ _ ((0 : Nat) : Int) _ _ _
  refine round m4 _ ⟨1, 34, 0, 0, 5⟩ 0 (by decide) hv4 e5 rfl rfl rfl (.inl rfl) (by decide) (by decide) (by decide) (by decide) (by decide) (by decide) 0 0 rfl rfl _ _ fun m5 g5 F5 => ?_
  show R17_5 _ _ _ _ ((1 : Nat) : Int) _ _ _
  refine round m5 _ ⟨3, 1, 0, 34, 0⟩ 1 (by decide) (hv4.fr F5 notb) g5 rfl rfl rfl (.inr rfl) (by decide) (by decide) (by decide) (by decide) (by decide) (by decide) 0 5 rfl rfl _ _ fun m6 g6 F6 => ?_
  show R17_5 _ _ _ _ _ _ _ _
  unfold R17_5
  refine kif_f rfl (kif_t rfl ?_)
  rw [ldI_of (n := 5) g6 (by decide) rfl]
  exact hk _

/-! ### cells filled -/
theorem ty_i {k : IntKind} {v : AV} (h : Ty m (.i k) v) : ∃ n, v = .flat (.int k n) ∧ (Lit.int k n).wf = true := by
  cases h with
  | i k n hn => exact ⟨n, rfl, hn⟩
theorem ints_ty {k : IntKind} {v : AV} (h : Ty m (.sl [.i k]) v) : ∃ (n : Nat) (f : Nat → Int), IsR m 1 v n (cK k f) ∧ ∀ i, i < n → (Lit.int k (f i)).wf = true := by
  cases h with
  | nil ls a => exact ⟨0, fun _ => 0, .nil a _, fun i hi => by omega⟩
  | sl ls b len cap x h1 h2 h3 h4 h5 h6 =>
    simp only [List.length_singleton, Nat.mul_one] at h5 h6
    have hx : ∀ j, j < cap → ∃ n, x.c j = .flat (.int k n) ∧ (Lit.int k n).wf = true := fun j hj => by
      have := h6 j hj 0 (.i k) rfl
      rw [Nat.add_zero] at this
      exact ty_i this
    refine ⟨len, fun j => match x.c j with | .flat (.int _ n) => n | _ => 0, .sl b 0 len (.ex cap) x _ h4 (by omega) (fun i hi => ?_), fun i hi => ?_⟩
    · obtain ⟨n, e, _⟩ := hx i (by omega)
      unfold cK
      dsimp only
      rw [Nat.zero_add, e]
    · obtain ⟨n, e, hn⟩ := hx i (by omega)
      dsimp only
      rw [e]; exact hn
structure Two19 (m0 m : Mem) (va vb : AV) (f g : Nat → Int) : Prop where
  K : Keeps m0 m
  a : Regs m va f
  b : Regs m vb g
  e : ∀ i, i < 34 → f i = g i
theorem fill_loop {va vb w1 w2 v10 : AV} {b7 n1 n2 : Nat} {f1 f2 : Nat → Int} (ha : ∀ b, own va b → m0.obj b = none) (hb : ∀ b, own vb b → m0.obj b = none) (dis : ∀ b, own va b → ¬ own vb b)
    (h1 : IsR m0 1 w1 n1 (cK .u32 f1)) (h2 : IsR m0 1 w2 n2 (cK .u32 f2)) (u1 : ∀ i, i < n1 → isU (f1 i)) (u2 : ∀ i, i < n2 → isU (f2 i)) {k0 : Mem → Prop} (hk : ∀ m f g, Two19 m0 m va vb f g → k0 m) :
    ∀ (j i : Nat) (m : Mem) (f g : Nat → Int), i + j = 40 → Two19 m0 m va vb f g → L3_5 w1 w2 b7 0 v10 va vb (j + 1) i m k0
  | 0, i, m, f, g, e, T => by
    show R3_5 _ _ _ _ _ _ _ _ _ _ _
    unfold R3_5
    exact kif_f (by simp; omega) (hk m f g T)
  | j + 1, i, m, f, g, e, T => by
    show R3_5 _ _ _ _ _ _ _ _ _ _ _
    unfold R3_5
    rw [klen_r h1, wrap64 (n := (i : Int) + 1) (by omega) (by omega)]
    have recu := fill_loop (b7 := b7) (v10 := v10) ha hb dis h1 h2 u1 u2 hk j (i + 1)
    have up : ∀ (f : Nat → Int) x (k : Nat), k ≠ i → upd f i x k = f k := fun f x k hne => by unfold upd; rw [if_neg hne]
    have upi : ∀ (f : Nat → Int) x, upd f i x i = x := fun f x => by unfold upd; rw [if_pos rfl]
    have fin : ∀ m f g, Two19 m0 m va vb f g → P3_9102 w1 w2 b7 0 v10 va vb i m (fun m50 => L3_5 w1 w2 b7 0 v10 va vb (j + 1) ((i : Int) + 1) m50 k0) := fun m f g T => by
      unfold P3_9102
      rw [klen_r h2]
      refine kif_c _ (fun c => ?_) fun c => ?_
      · unfold P3_10004
        refine kif_c _ (fun c2 => ?_) fun c2 => ?_
        · have c : (i : Int) > 33 := by simpa using c
          have c2 : i < n2 := by simpa using c2
          refine ldK_r (k := fun _ _ x => ksl _ _) (h2.keep T.K) i c2 fun _ _ _ => T.b.st (by omega) (by omega) (u2 i c2) fun m' r' F' => ?_
          refine recu m' f _ (by omega) ⟨Fr.keeps T.K F' hb, T.a.fr F' dis, r', fun k hk => ?_⟩
          rw [Int.toNat_natCast, up _ _ _ (by omega)]; exact T.e k hk
        · exact recu m f g (by omega) T
      · unfold P3_10004
        exact kif_f rfl (recu m f g (by omega) T)
    refine kif_t (by simp; omega) (kif_c _ (fun c => ?_) fun c => fin m f g T)
    have c : i < n1 := by simpa using c
    refine ldK_r (k := fun _ _ x => ksl _ _) (h1.keep T.K) i c fun _ _ _ => ldK_r (k := fun _ _ x => ksl _ _) (h1.keep T.K) i c fun _ _ _ => T.a.st (by omega) (by omega) (u1 i c) fun m1 r1 F1 => ?_
    have K1 := Fr.keeps T.K F1 ha
    refine (T.b.fr F1 fun b hb' ha' => dis b ha' hb').st (by omega) (by omega) (u1 i c) fun m2 r2 F2 => ?_
    refine fin m2 _ _ ⟨Fr.keeps K1 F2 hb, r1.fr F2 dis, r2, fun k hk => ?_⟩
    rw [Int.toNat_natCast]
    by_cases ck : k = i
    · subst ck; rw [upi, upi]
    · rw [up _ _ _ ck, up _ _ _ ck]; exact T.e k hk

/-! ### two rows alike -/
theorem same_loop {a b : AV} {n : Nat} {f : Nat → Int} (ha : IsR m 1 a n (cK .u32 f)) (hb : IsR m 1 b n (cK .u32 f)) (hl : (n : Int) < 9223372036854775807) {k0 : Mem → Prop} {kr : Bool → Mem → Prop} (hk : k0 m) : ∀ j i : Nat, i + j = n → L7_4 a b (j + 1) i m k0 kr
  | 0, i, e => by
    show R7_4 _ _ _ _ _ _ _
    unfold R7_4
    rw [klen_r ha]
    exact kif_f (by simp; omega) hk
  | j + 1, i, e => by
    show R7_4 _ _ _ _ _ _ _
    unfold R7_4
    rw [klen_r ha, wrap64 (by omega) (by omega)]
    refine kif_t (by simp; omega) (ldK_r (k := fun _ _ x => ksl _ _) ha i (by omega) fun _ _ _ => ldK_r (k := fun _ _ x => kif _ _ _) hb i (by omega) fun _ _ _ => kif_f (by simp) ?_)
    exact same_loop ha hb hl hk j (i + 1) (by omega)
theorem same_spec {a b : AV} {n : Nat} {f : Nat → Int} (ha : IsR m 1 a n (cK .u32 f)) (hb : IsR m 1 b n (cK .u32 f)) (hl : (n : Int) < 9223372036854775807) {k : Bool → Mem → Prop} (hk : k true m) : F7 a b m k := by
  unfold F7
  rw [klen_r ha, klen_r hb]
  exact kif_f (by simp) ⟨n + 1, same_loop ha hb hl ⟨Keeps.self m, hk⟩ n 0 (by omega)⟩

/-! ### at most one register -/
theorem one_loop {va vw : AV} {b7 : Nat} {x : In} {f w : Nat → Int} (hB : InB m b7 x) (ha : IsR m 1 va 40 (cK .u32 f)) (hw : IsR m 1 vw 40 (cK .u32 w)) {D : Int} (hD : ∀ k : Nat, k < 32 → f k ≠ w k → (k : Int) = D ∧ k ≠ 0 ∧ (D = x.d ∨ D = x.t)) {k2 : Int → Mem → Prop} {kr : Bool → Mem → Prop} (hk : ∀ n, 0 ≤ n → n ≤ 1 → k2 n m) {v10 : AV} :
    ∀ (j i : Nat) (n : Int), i + j = 32 → 0 ≤ n → n ≤ (if D < i then 1 else 0) → L3_16 b7 0 va vw (j + 1) n i m k2 kr
  | 0, i, n, e, n0, n1 => by
    show R3_16 _ _ _ _ _ _ _ _ _ _
    unfold R3_16
    refine kif_f (by simp; omega) (hk n n0 ?_)
    split at n1 <;> omega
  | j + 1, i, n, e, n0, n1 => by
    show R3_16 _ _ _ _ _ _ _ _ _ _
    unfold R3_16
    simp only [Nat.zero_add, hB.l2, hB.l3]
    have n2 : n ≤ 1 := by split at n1 <;> omega
    rw [wrap64 (n := (i : Int) + 1) (by omega) (by omega), wrap64 (n := n + 1) (by omega) (by omega)]
    refine kif_t (by simp; omega) (ldK_r (k := fun _ _ x => ksl _ _) ha i (by omega) fun _ _ _ => ldK_r (k := fun _ _ x => kif _ _ _) hw i (by omega) fun _ _ _ => kif_c _ (fun c => ?_) fun c => ?_)
    · have c : f i ≠ w i := by simpa using c
      obtain ⟨h1, h2, h3⟩ := hD i (by omega) c
      have go := one_loop hB ha hw hD hk (v10 := v10) (kr := kr) j (i + 1) (n + 1) (by omega) (by omega) (by
        rw [if_neg (by omega)] at n1
        rw [if_pos (by omega)]; omega)
      have z : ((i : Int) == 0) = false := by simp; omega
      refine kif_c _ (fun c3 => kif_c _ (fun c4 => ?_) fun c4 => kif_f z go) fun c3 => kif_f z go
      simp at c3 c4; omega
    · refine one_loop hB ha hw hD hk (v10 := v10) (kr := kr) j (i + 1) n (by omega) n0 (Int.le_trans n1 ?_)
      split <;> split <;> omega

theorem LiftCells {c : Nat → AV} {w1 w2 : AV} (hT : TyAll m shI c) (hw1 : Ty m (.sl [.i .u32]) w1) (hw2 : Ty m (.sl [.i .u32]) w2) : F3 c w1 w2 m isTrue := by
  obtain ⟨x0, raw, hc, hx⟩ := ic_of hT
  obtain ⟨n1, f1, r1, u1⟩ := ints_ty hw1
  obtain ⟨n2, f2, r2, u2⟩ := ints_ty hw2
  unfold F3
  refine newD hc fun b2 m1 hb2 K1 d => d.lg fun c3 h3 => plain_spec h3 hx fun c4 x h4 ok => ?_
  refine newF h4 fun b7 m2 hb7 K2 i7 => i7.lg fun c9 h9 => lof_spec h9 ok.i0 fun v10 m3 hv K3 ov => ?_
  have i73 := i7.keep K3
  refine mkS_i (by decide) (by decide) (by decide) fun b12 m4 hb12 K4 e12 O4 => mkS_i (by decide) (by decide) (by decide) fun b14 m5 hb14 K5 e14 O5 => ?_
  have ne : b12 ≠ b14 := fun e => by rw [← e, e12] at hb14; cases hb14
  have hb14' : m3.obj b14 = none := newK_none K4 hb14
  have K5' : Keeps m3 m5 := K4.trans K5
  have e12' : m5.obj b12 = _ := (K5 b12 (by rw [e12]; simp)).trans e12
  have Z : cK .u32 (fun _ => 0) = reprow [.flat (.int .u32 0)] := by rw [reprow1f]; rfl
  have zu : AllU fun _ => 0 := fun i => (⟨by decide, by decide⟩ : isU 0)
  have Ra : Regs m5 (.sl b12 0 40 (.ex 40)) (fun _ => 0) := ⟨by rw [Z]; exact IsL.row (esz := 1) e12' rfl rfl, zu⟩
  have Rb : Regs m5 (.sl b14 0 40 (.ex 40)) (fun _ => 0) := ⟨by rw [Z]; exact IsL.row (esz := 1) e14 rfl rfl, zu⟩
  have oa : ∀ b, own (.sl b12 0 40 (.ex 40)) b → m3.obj b = none := fun b e => by cases e; exact hb12
  have ob : ∀ b, own (.sl b14 0 40 (.ex 40)) b → m3.obj b = none := fun b e => by cases e; exact hb14'
  have dis : ∀ b, own (.sl b12 0 40 (.ex 40)) b → ¬ own (.sl b14 0 40 (.ex 40)) b := fun b e e' => by cases e; cases e'; exact ne rfl
  have K03 : Keeps m m3 := (K1.trans K2).trans K3
  refine ⟨40, fill_loop (m0 := m3) oa ob dis (r1.keep K03) (r2.keep K03) (fun i hi => wf_u32 (u1 i hi)) (fun i hi => wf_u32 (u2 i hi)) (fun m6 f g T => ?_) 39 1 m5 _ _ (by omega) ⟨K5', Ra, Rb, fun _ _ => rfl⟩⟩
  refine newK_i fun b55 m7 hb55 K7 e55 O7 => ?_
  have Ta := T.a.keep K7
  have Tb := T.b.keep K7
  have K37 : Keeps m3 m7 := T.K.trans K7
  refine appL (n := 0) (n' := 40) (c := fun _ => .junk) (IsL.row (esz := 1) e55 rfl rfl) Ta.l.r (by decide) fun v56 m8 g56 F8 own8 => ?_
  have hb55' : m3.obj b55 = none := newK_none T.K hb55
  have K38 : Keeps m3 m8 := Fr.keeps K37 F8 fun b e => by cases e; exact hb55'
  have n55a : ∀ b, own (.sl b12 0 40 (.ex 40)) b → ¬ own (.sl b55 0 0 (.ex 0)) b := fun b e e' => by cases e'; exact T.a.l.live e hb55
  have n55b : ∀ b, own (.sl b14 0 40 (.ex 40)) b → ¬ own (.sl b55 0 0 (.ex 0)) b := fun b e e' => by cases e'; exact T.b.l.live e hb55
  have Sa := Ta.fr F8 n55a
  have Sb := Tb.fr F8 n55b
  have w8 : IsR m8 1 v56 40 (cK .u32 f) := by
    have := g56.r
    rw [Nat.zero_add] at this
    exact this.congr fun i hi => by unfold cat; rw [if_neg (by omega)]; rfl
  have w_a : ∀ b, own v56 b → ¬ own (.sl b12 0 40 (.ex 40)) b := fun b o e => by
    rcases own8 b o with h | h
    · exact n55a b e h
    · exact Ta.l.live e h
  have w_b : ∀ b, own v56 b → ¬ own (.sl b14 0 40 (.ex 40)) b := fun b o e => by
    rcases own8 b o with h | h
    · exact n55b b e h
    · exact Tb.l.live e h
  have v_a : ∀ b, own v10 b → ¬ own (.sl b12 0 40 (.ex 40)) b := fun b o e => by
    obtain ⟨cc, q1, q2⟩ := hv
    exact q1.live o (oa b e)
  have v_b : ∀ b, own v10 b → ¬ own (.sl b14 0 40 (.ex 40)) b := fun b o e => by
    obtain ⟨cc, q1, q2⟩ := hv
    exact q1.live o (ob b e)
  obtain ⟨len2, okOps⟩ := ops_ok ok.i0
  refine run18_spec (by omega) v_a okOps (hv.keep K38) Sa fun m9 A9 F9 => kif_f rfl ?_
  have K39 : Keeps m3 m9 := Fr.keeps K38 F9 oa
  refine run18_spec (by omega) v_b okOps (hv.keep K39) (Sb.fr F9 fun b e e' => dis b e' e) fun m10 B10 F10 => kif_f rfl ?_
  have K310 : Keeps m3 m10 := Fr.keeps K39 F10 ob
  have A10 := A9.fr F10 dis
  have w10 : IsR m10 1 v56 40 (cK .u32 f) := (w8.fr F9 w_a).fr F10 w_b
  refine slS_s A10.l.s (l := 0) (u := 34) rfl rfl (by decide) (by decide) fun v62 s62 _ => slS_s B10.l.s (l := 0) (u := 34) rfl rfl (by decide) (by decide) fun v63 s63 _ => ?_
  have q62 : IsR m10 1 v62 34 (cK .u32 (run18 f (opsOf x))) := s62.r.congr fun i hi => by rw [Nat.zero_mul, Nat.zero_add]
  have q63 : IsR m10 1 v63 34 (cK .u32 (run18 f (opsOf x))) := s63.r.congr fun i hi => by
    rw [Nat.zero_mul, Nat.zero_add]
    unfold cK
    rw [run_agree ok.i0 T.e i (by omega)]
  refine same_spec q62 q63 (by decide) (kif_f rfl ?_)
  obtain ⟨D, hD⟩ := run_change ok.i0 f
  refine ⟨33, one_loop (v10 := v10) (i73.keep K310) A10.l.r w10 hD (fun n n0 n1 => kif_t (by simpa using n1) (known19 fun m' => rfl)) 32 0 0 (by omega) (by omega) ?_⟩
  split <;> omega
end
end Go.Proofs.Ytkgidjnaddjjbaa.Am
