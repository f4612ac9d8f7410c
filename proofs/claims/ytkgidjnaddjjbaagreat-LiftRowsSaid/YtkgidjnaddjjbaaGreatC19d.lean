/- Law 19's LiftCells. Conditions: none of its own. -/
import Derived.Test.YtkgidjnaddjjbaaGreatC19c
namespace Go.Proofs.YtkgidjnaddjjbaaGreat.Am
set_option linter.unusedVariables false
set_option linter.unusedSimpArgs false
set_option maxRecDepth 100000

section
variable {m0 m : Mem}
/-! ### known -/
theorem do35 {b0 : Nat} {y : Blk} (e : m.obj b0 = some y) (hn : y.n = 40) (hr : y.ro = false) {c : Nat → AV} {o : Op19} (hc : OpC c o) (hk : o.k = 1 ∨ o.k = 3) (a0 : 0 ≤ o.a) (a1 : o.a < 40) (b0' : 0 ≤ o.b) (b1 : o.b < 40) (d0 : 0 < o.d) (d1 : o.d < 40) {p q : Int}
    (ha : y.c o.a.toNat = .flat (.int .u32 p)) (hb : y.c o.b.toNat = .flat (.int .u32 q)) {k : Mem → Prop}
    (hkk : ∀ m', m'.obj b0 = some { y with c := upd y.c o.d.toNat (.flat (.int .u32 (if o.k = 1 then o.i else IntKind.wrap .u32 (p + q)))) } → Fr (fun b => b = b0) m m' → k m') : F46 b0 0 c m k := by
  unfold F46
  refine newK_i fun b m1 hb1 K1 e1 O1 => ?_
  have hB : OpB m1 b o := ⟨_, e1, rfl, hc⟩
  have e' : m1.obj b0 = some y := by rw [K1 b0 (by rw [e]; simp)]; exact e
  simp only [hB.l2, hB.l3, hB.l0, Nat.zero_add, Nat.mul_one]
  refine kif_t (by simp; omega) ?_
  rw [ldI_of e' (by omega) ha]
  refine kif_t (by simp; omega) ?_
  rw [ldI_of e' (by omega) hb]
  refine kif_f (by simp; omega) ?_
  unfold P46_5004
  refine kif_f (by simp; omega) (kif_f (by simp; omega) ?_)
  unfold P46_7004
  refine kif_f (by simp; omega) (kif_f (by simp; omega) ?_)
  simp only [Nat.zero_add, hB.l1]
  refine kif_f (by simp; omega) (kif_f (by simp; omega) (kif_f (by simp; omega) ?_))
  unfold P46_3004
  refine kif_f rfl ⟨fun b' => b' = b, rfl, ?_⟩
  simp only [Nat.zero_add, hB.l1]
  refine ⟨trivial, ?_⟩
  have fin : ∀ m2 x, x = (if o.k = 1 then o.i else IntKind.wrap .u32 (p + q)) → Keeps m1 m2 → kif (decide (0 ≤ o.d) && decide (o.d < 40)) (stC m2 b0 (o.d.toNat * 1) (.flat (.int .u32 x)) fun m24 => k m24) False := fun m2 x hx K2 => by
    have e2 : m2.obj b0 = some y := by rw [K2 b0 (by rw [e']; simp)]; exact e'
    refine kif_t (by simp; omega) ?_
    rw [stC_of e2 hr (by omega), Nat.mul_one, hx]
    refine hkk _ (set_same _ _ _) fun b' hb' hne => ?_
    rw [set_other _ hne, K2 b' (by rw [K1 b' hb']; exact hb'), K1 b' hb']
  rw [ldG_of e1 (by simp)]
  unfold F87
  refine newK_i fun b9 m2 hb9 K2 e9 O9 => ?_
  have hB9 : OpB m2 b9 o := ⟨_, e9, rfl, by obtain ⟨q0, q1, q2, q3, q4⟩ := hc; refine ⟨?_, ?_, ?_, ?_, ?_⟩; exact q0; exact q1; exact q2; exact q3; exact q4⟩
  rw [hB9.l0, hB9.l4]
  rcases hk with h | h
  · exact kif_t (by simp; omega) ⟨K2, fun _ _ _ => rfl, fin m1 _ (by rw [if_pos h]) (Keeps.self m1)⟩
  · exact kif_f (by simp; omega) (kif_t (by simp; omega) ⟨K2, fun _ _ _ => rfl, fin m1 _ (by rw [if_neg (by omega)]) (Keeps.self m1)⟩)
theorem known19 {k : Bool → Mem → Prop} (hk : ∀ m', k true m') : F8 m k := by
  unfold F8
  have e1 : opsOf ⟨47, 0, 1, 0, 0, 5⟩ = [⟨1, 34, 0, 0, 5⟩, ⟨3, 1, 0, 34, 0⟩] := by kernel_rfl
  refine lof_spec (x := ⟨47, 0, 1, 0, 0, 5⟩) ⟨rfl, rfl, rfl, rfl, rfl, rfl⟩ (by decide) fun v m2 hv K2 ov => ?_
  rw [e1] at hv
  refine newK_i fun b4 m3 hb4 K3 e4 O4 => ?_
  refine lift_is (x := ⟨47, 0, 1, 0, 0, 0⟩) ⟨rfl, rfl, rfl, rfl, rfl, rfl⟩ (by decide) (kif_t (by decide +kernel) ?_)
  refine lift_is (x := ⟨68, 0, 0, 0, 0, 0⟩) ⟨rfl, rfl, rfl, rfl, rfl, rfl⟩ (by decide) (kif_t (by decide +kernel) ?_)
  have hv3 := hv.keep K3
  rw [hv3.len]
  refine kif_t rfl ?_
  unfold F22
  refine ir_none (by decide) hv3 (fun o ho => ?_) (kif_f rfl ?_)
  · simp at ho
    rcases ho with rfl | rfl
    · exact ⟨⟨by decide, by decide⟩, ⟨by decide, by decide⟩, ⟨by decide, by decide⟩, ⟨by decide, by decide⟩, ⟨by decide, by decide⟩⟩
    · exact ⟨⟨by decide, by decide⟩, ⟨by decide, by decide⟩, ⟨by decide, by decide⟩, ⟨by decide, by decide⟩, ⟨by decide, by decide⟩⟩
  rw [stC_of e4 rfl (by decide), hv3.len]
  have notb : ∀ b, own v b → ¬ (b = b4) := fun b ho e => by
    obtain ⟨c, h1, h2⟩ := hv
    exact h1.live ho (e ▸ hb4)
  generalize hm4 : m3.set b4 _ = m4
  have F4 : Fr (fun b => b = b4) m3 m4 := by rw [← hm4]; exact Fr.set (S := fun b => b = b4) rfl _
  have hv4 := hv3.fr F4 notb
  obtain ⟨ty, e5⟩ : ∃ ty, m4.obj b4 = some ⟨40, upd Z40 0 (.flat (.int .u32 0)), ty, false⟩ := ⟨_, by rw [← hm4]; exact set_same _ _ _⟩
  have round : ∀ (mm : Mem) (y : Blk) (o : Op19) (i : Nat) (hi : i < 2), IsOps mm v [⟨1, 34, 0, 0, 5⟩, ⟨3, 1, 0, 34, 0⟩] → mm.obj b4 = some y → y.n = 40 → y.ro = false → ([⟨1, 34, 0, 0, 5⟩, ⟨3, 1, 0, 34, 0⟩] : List Op19)[i] = o → (o.k = 1 ∨ o.k = 3) → 0 ≤ o.a → o.a < 40 → 0 ≤ o.b → o.b < 40 → 0 < o.d → o.d < 40 → ∀ p q,
      y.c o.a.toNat = .flat (.int .u32 p) → y.c o.b.toNat = .flat (.int .u32 q) → ∀ (kn : Int → Mem → Prop) k0,
      (∀ m', m'.obj b4 = some { y with c := upd y.c o.d.toNat (.flat (.int .u32 (if o.k = 1 then o.i else IntKind.wrap .u32 (p + q)))) } → Fr (fun b => b = b4) mm m' → kn ((i : Int) + 1) m') → R22_5 b4 0 v 2 i mm kn k0 := fun mm y o i hi h0 h1 h2 h3 h4 h5 a0 a1 b0 b1 d0 d1 p q hp hq kn k0 hkn => by
    unfold R22_5
    rw [wrap64 (n := (i : Int) + 1) (by omega) (by omega)]
    refine kif_t (by simp; omega) (h0.ld i hi fun c hc => newK_i fun b m1 hb K e O => ?_)
    rw [stG_of e rfl (by decide)]
    have hb4' : b4 ≠ b := fun e => by rw [← e, h1] at hb; cases hb
    have Fs : ∀ x, Fr (fun b => b = b4) mm (m1.set b x) := fun x b' hb' _ => by
      rw [set_other _ (fun e : b' = b => hb' (by rw [e]; exact hb)), K b' hb']
    rw [ldG_of (set_same _ _ _) (by simp)]
    rw [h4] at hc
    refine do35 (o := o) (y := y) ?_ h2 h3 ?_ h5 a0 a1 b0 b1 d0 d1 hp hq fun m' g1 g2 => hkn m' g1 ((Fs _).trans g2)
    · rw [set_other _ hb4', K b4 (by rw [h1]; simp)]; exact h1
    · obtain ⟨q0, q1, q2, q3, q4⟩ := hc
      refine ⟨?_, ?_, ?_, ?_, ?_⟩
      exact q0; exact q1; exact q2; exact q3; exact q4
  refine ⟨3, ?_⟩
  show R22_5 _ _ _ _ ((0 : Nat) : Int) _ _ _
  refine round m4 _ ⟨1, 34, 0, 0, 5⟩ 0 (by decide) hv4 e5 rfl rfl rfl (.inl rfl) (by decide) (by decide) (by decide) (by decide) (by decide) (by decide) 0 0 rfl rfl _ _ fun m5 g5 F5 => ?_
  show R22_5 _ _ _ _ ((1 : Nat) : Int) _ _ _
  refine round m5 _ ⟨3, 1, 0, 34, 0⟩ 1 (by decide) (hv4.fr F5 notb) g5 rfl rfl rfl (.inr rfl) (by decide) (by decide) (by decide) (by decide) (by decide) (by decide) 0 5 rfl rfl _ _ fun m6 g6 F6 => ?_
  show R22_5 _ _ _ _ _ _ _ _
  unfold R22_5
  refine kif_f rfl (kif_t rfl ?_)
  rw [ldI_of (n := 5) g6 (show (1 : Nat) < 40 by decide) rfl]
  exact hk _

/-! ### cells filled -/
theorem ty_i {k : IntKind} {v : AV} (h : Ty m (.i k) v) : ∃ n, v = .flat (.int k n) ∧ (Lit.int k n).wf = true := by
  cases h with
  | i k n hn => exact ⟨n, rfl, hn⟩
theorem ints_ty {k : IntKind} {v : AV} (h : Ty m (.sl [.i k]) v) : ∃ (n : Nat) (f : Nat → Int), IsR m 1 v n (cK k f) ∧ ∀ i, i < n → (Lit.int k (f i)).wf = true := by
  cases h with
  | nil ls a => exact ⟨0, fun _ => 0, .nil a _, fun i hi => by omega⟩
  | sl ls b len cap x h1 h2 h3 h4 h5 h6 =>
    simp only [List.length_singleton, Nat.mul_one] at h5 h6
    have hx : ∀ j, j < cap → ∃ n, x.c j = .flat (.int k n) ∧ (Lit.int k n).wf = true := fun j hj => by
      have := h6 j hj 0 (.i k) rfl
      rw [Nat.add_zero] at this
      exact ty_i this
    refine ⟨len, fun j => match x.c j with | .flat (.int _ n) => n | _ => 0, .sl b 0 len (.ex cap) x _ h4 (by omega) (fun i hi => ?_), fun i hi => ?_⟩
    · obtain ⟨n, e, _⟩ := hx i (by omega)
      unfold cK
      dsimp only
      rw [Nat.zero_add, e]
    · obtain ⟨n, e, hn⟩ := hx i (by omega)
      dsimp only
      rw [e]; exact hn
structure Two19 (m0 m : Mem) (va vb : AV) (f g : Nat → Int) : Prop where
  K : Keeps m0 m
  a : Regs m va f
  b : Regs m vb g
  e : ∀ i, i < 34 → f i = g i
/-! ### two rows alike -/
theorem same_loop {a b : AV} {n : Nat} {f : Nat → Int} (ha : IsR m 1 a n (cK .u32 f)) (hb : IsR m 1 b n (cK .u32 f)) (hl : (n : Int) < 9223372036854775807) {k0 : Mem → Prop} {kr : Bool → Mem → Prop} (hk : k0 m) : ∀ j i : Nat, i + j = n → L15_4 a b (j + 1) i m k0 kr
  | 0, i, e => by
    show R15_4 _ _ _ _ _ _ _
    unfold R15_4
    rw [klen_r ha]
    exact kif_f (by simp; omega) hk
  | j + 1, i, e => by
    show R15_4 _ _ _ _ _ _ _
    unfold R15_4
    rw [klen_r ha, wrap64 (by omega) (by omega)]
    refine kif_t (by simp; omega) (ldK_r (k := fun _ _ x => ksl _ _) ha i (by omega) fun _ _ _ => ldK_r (k := fun _ _ x => kif _ _ _) hb i (by omega) fun _ _ _ => kif_f (by simp) ?_)
    exact same_loop ha hb hl hk j (i + 1) (by omega)
theorem same_spec {a b : AV} {n : Nat} {f : Nat → Int} (ha : IsR m 1 a n (cK .u32 f)) (hb : IsR m 1 b n (cK .u32 f)) (hl : (n : Int) < 9223372036854775807) {k : Bool → Mem → Prop} (hk : k true m) : F15 a b m k := by
  unfold F15
  rw [klen_r ha, klen_r hb]
  exact kif_f (by simp) ⟨n + 1, same_loop ha hb hl ⟨Keeps.self m, hk⟩ n 0 (by omega)⟩

/-! ### at most one register -/
end
end Go.Proofs.YtkgidjnaddjjbaaGreat.Am
