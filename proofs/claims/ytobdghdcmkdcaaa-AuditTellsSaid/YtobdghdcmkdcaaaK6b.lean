/- A State as it is drawn: any State; where an address lies. Conditions: what is handed in is plain data. -/
import Derived.Test.YtobdghdcmkdcaaaK6
import Derived.Test.YtobdghdcmkdcaaaAmW2
namespace Go.Proofs.Ytobdghdcmkdcaaa.Am
set_option linter.unusedVariables false
set_option linter.unusedSimpArgs false

def shS : List Lf := [.sl [.i .u32], .i .u32, .i .u32, .i .u32, .i .u32, .b, .b, .sl [.i .u32], .sl [.i .u32, .i .u32], .i .u32, .i .u32]

section
variable {m3 : Mem} {b2 b4 b8 : Nat} {xb : Blk} (hx : m3.obj b2 = some xb) (hn : xb.n = 11) (hT : TyAll m3 shS xb.c) (h8 : m3.obj b8 = none) {now : Int}
include hx hn hT h8

def StInv (m3 : Mem) (b8 : Nat) (m : Mem) (S : St) : Prop := IsSt m b8 S ∧ S.ok ∧ Keeps m3 m
omit hx hn hT in
theorem StInv.step {m m' : Mem} {S S' : St} (h : StInv m3 b8 m S) (i : IsSt m' b8 S') (o : S'.ok) (O : Only m b8 m') : StInv m3 b8 m' S' := ⟨i, o, Only.keeps h.2.2 h8 O⟩

theorem st_l3 {k0 : Mem → Prop} (hk : ∀ m S, StInv m3 b8 m S → k0 m) : ∀ (d : Nat) (i : Int) (m : Mem) (S : St), 0 ≤ i → 32 ≤ i + d → StInv m3 b8 m S → L14_3 now b2 0 b4 0 b8 0 (d + 1) i m k0 := by
  intro d
  induction d with
  | zero =>
    intro i m S h0 h1 hI
    unfold L14_3 R14_3
    exact kif_f (by simp; omega) (hk m S hI)
  | succ d ih =>
    intro i m S h0 h1 hI
    unfold L14_3 R14_3
    refine kif_c _ (fun c1 => ?_) fun c1 => hk m S hI
    have c1 : i < 32 := by simpa using c1
    have ex : m.obj b2 = some xb := by rw [hI.2.2 b2 (by rw [hx]; simp)]; exact hx
    have hT0 := (hT 0 _ rfl).keep hI.2.2
    rw [ldA_ty ex (by omega) hT0, ldA_ty ex (by omega) hT0]
    generalize xb.c (0 + 0) = v at hT0
    cases hT0 with
    | nil ls a => exact kif_f (by simp [klen]; omega) (hk m S hI)
    | sl ls b len cap y l1 l2 l3 l4 l5 l6 =>
      show kif _ _ _
      refine kif_c _ (fun c2 => ?_) fun c2 => hk m S hI
      have c2 : i < (len : Int) := by simpa using c2
      refine kif_ix h0 (by omega) ?_
      obtain ⟨n, en, r0, r1⟩ := ty_u32 (l6 i.toNat (by omega) 0 _ rfl)
      have eo : 0 + i.toNat * 1 = i.toNat * [Lf.i IntKind.u32].length + 0 := by simp
      rw [eo, ldI_of l4 (by rw [l5]; simp; omega) en]
      refine kif_ix h0 (by omega) ?_
      have eo2 : i.toNat * [Lf.i IntKind.u32].length + 0 = i.toNat := by simp
      rw [eo2]
      refine stC_st hI.1 (by omega) (by simp [isP3]; omega) fun m' i' o' => ?_
      rw [wrap64 (by omega) (by omega)]
      exact ih (i + 1) m' _ (by omega) (by omega) (hI.step h8 i' (putN_ok hI.2.1 (by omega) r0 r1) o')

theorem st_l20 {k4 : Mem → Prop} (hk : ∀ m S, StInv m3 b8 m S → k4 m) : ∀ (d : Nat) (i : Int) (m : Mem) (S : St), 0 ≤ i → 8 ≤ i + d → StInv m3 b8 m S → L14_20 now b2 0 b4 0 b8 0 (d + 1) i m k4 := by
  intro d
  induction d with
  | zero =>
    intro i m S h0 h1 hI
    unfold L14_20 R14_20
    have ex : m.obj b2 = some xb := by rw [hI.2.2 b2 (by rw [hx]; simp)]; exact hx
    have hT0 := (hT 8 _ rfl).keep hI.2.2
    rw [ldA_ty ex (by omega) hT0]
    have hlen : ∃ x, klen (xb.c (0 + 8)) = fun k => k x := by
      generalize xb.c (0 + 8) = v at hT0
      cases hT0 with
      | nil ls a => exact ⟨_, rfl⟩
      | sl ls b len cap y l1 l2 l3 l4 l5 l6 => exact ⟨_, rfl⟩
    obtain ⟨x, hlen⟩ := hlen
    rw [hlen]
    refine kif_c _ (fun c1 => kif_f (by simp; omega) (hk m S hI)) fun c1 => hk m S hI
  | succ d ih =>
    intro i m S h0 h1 hI
    unfold L14_20 R14_20
    have ex : m.obj b2 = some xb := by rw [hI.2.2 b2 (by rw [hx]; simp)]; exact hx
    have hT0 := (hT 8 _ rfl).keep hI.2.2
    simp only [ldA_ty ex (show 0 + 8 < xb.n by omega) hT0]
    generalize xb.c (0 + 8) = v at hT0
    cases hT0 with
    | nil ls a => exact kif_f (by simp; omega) (hk m S hI)
    | sl ls b len cap y l1 l2 l3 l4 l5 l6 =>
      show kif _ _ _
      refine kif_c _ (fun c2 => ?_) fun c2 => hk m S hI
      have c2 : i < (len : Int) := by simpa using c2
      refine kif_c _ (fun c1 => ?_) fun c1 => hk m S hI
      have c1 : i < 8 := by simpa using c1
      refine kif_ix h0 (by omega) ?_
      obtain ⟨n, en, r0, r1⟩ := ty_u32 (l6 i.toNat (by omega) 0 _ rfl)
      obtain ⟨n', en', r0', r1'⟩ := ty_u32 (l6 i.toNat (by omega) 1 _ rfl)
      have eo : 0 + i.toNat * 2 + 0 = i.toNat * [Lf.i IntKind.u32, Lf.i IntKind.u32].length + 0 := by simp
      rw [eo, ldI_of l4 (by rw [l5]; simp; omega) en]
      refine kif_ix h0 (by omega) ?_
      have eo' : 0 + i.toNat * 2 + 1 = i.toNat * [Lf.i IntKind.u32, Lf.i IntKind.u32].length + 1 := by simp
      rw [eo', ldI_of l4 (by rw [l5]; simp; omega) en']
      refine kif_ix h0 (by omega) ?_
      have eo2 : 0 + 55 + i.toNat * 2 = 55 + i.toNat * 2 := by omega
      rw [eo2]
      refine stE_st hI.1 (by omega) rfl rfl fun m' i' o' => ?_
      rw [wrap64 (by omega) (by omega)]
      exact ih (i + 1) m' _ (by omega) (by omega) (hI.step h8 i' (putN_ok (putN_ok hI.2.1 (by omega) (and_rng _ _).1 (and_rng _ _).2) (by omega) (and_rng _ _).1 (and_rng _ _).2) o')

theorem st_l16 {k2 : Mem → Prop} (hk : ∀ m S, StInv m3 b8 m S → k2 m) : ∀ (d : Nat) (i : Int) (m : Mem) (S : St), 0 ≤ i → 3 ≤ i + d → StInv m3 b8 m S → L14_16 now b2 0 b4 0 b8 0 (d + 1) i m k2 := by
  intro d
  induction d with
  | zero =>
    intro i m S h0 h1 hI
    unfold L14_16 R14_16
    have ex : m.obj b2 = some xb := by rw [hI.2.2 b2 (by rw [hx]; simp)]; exact hx
    have hT0 := (hT 7 _ rfl).keep hI.2.2
    rw [ldA_ty ex (by omega) hT0]
    have hlen : ∃ x, klen (xb.c (0 + 7)) = fun k => k x := by
      generalize xb.c (0 + 7) = v at hT0
      cases hT0 with
      | nil ls a => exact ⟨_, rfl⟩
      | sl ls b len cap y l1 l2 l3 l4 l5 l6 => exact ⟨_, rfl⟩
    obtain ⟨x, hlen⟩ := hlen
    rw [hlen]
    refine kif_c _ (fun c1 => kif_f (by simp; omega) (hk m S hI)) fun c1 => hk m S hI
  | succ d ih =>
    intro i m S h0 h1 hI
    unfold L14_16 R14_16
    have ex : m.obj b2 = some xb := by rw [hI.2.2 b2 (by rw [hx]; simp)]; exact hx
    have hT0 := (hT 7 _ rfl).keep hI.2.2
    rw [ldA_ty ex (show 0 + 7 < xb.n by omega) hT0]
    have hcase : (klen (xb.c (0 + 7)) = fun k => k 0) ∨ ∃ b len cap y, xb.c (0 + 7) = .sl b 0 len (.ex cap) ∧ len ≤ cap ∧ cap ≤ maxLen ∧ m.obj b = some y ∧ y.n = cap * 1 ∧ ∀ j, j < cap → Ty m (.i .u32) (y.c (j * 1 + 0)) := by
      generalize xb.c (0 + 7) = v at hT0
      cases hT0 with
      | nil ls a => exact .inl rfl
      | sl ls b len cap y l1 l2 l3 l4 l5 l6 => exact .inr ⟨b, len, cap, y, rfl, l1, l3, l4, l5, fun j hj => l6 j hj 0 _ rfl⟩
    rcases hcase with hc | ⟨b, len, cap, y, ev, l1, l3, l4, l5, l6⟩
    · rw [hc]; exact kif_f (by simp; omega) (hk m S hI)
    rw [ev]
    show kif _ _ _
    refine kif_c _ (fun c2 => ?_) fun c2 => hk m S hI
    have c2 : i < (len : Int) := by simpa using c2
    refine kif_c _ (fun c1 => ?_) fun c1 => hk m S hI
    have c1 : i < 3 := by simpa using c1
    refine newK_i fun b9 m9 hb9 Kb e9 _ => ?_
    refine kif_ix h0 (by omega) ?_
    have hI' := And.intro (hI.1.keep Kb) (And.intro hI.2.1 (hI.2.2.trans Kb))
    have hreg : ∃ r : Int, 0 ≤ r ∧ upd (upd (upd (lget [(.flat (.int .i64 0)), (.flat (.int .i64 0)), (.flat (.int .i64 0))]) 0 (.flat (.int .i64 0))) 1 (.flat (.int .i64 2))) 2 (.flat (.int .i64 14)) (0 + i.toNat * 1) = AV.flat (.int .i64 r) := by
      have : i = 0 ∨ i = 1 ∨ i = 2 := by omega
      rcases this with rfl | rfl | rfl
      · exact ⟨0, by decide, rfl⟩
      · exact ⟨2, by decide, rfl⟩
      · exact ⟨14, by decide, rfl⟩
    obtain ⟨r, hr0, hr⟩ := hreg
    rw [ldI_of e9 (by show 0 + i.toNat * 1 < 3; omega) hr]
    have ex' := (hI'.2.2 b2 (by rw [hx]; simp)).trans hx
    rw [ldA_ty ex' (show 0 + 7 < xb.n by omega) ((hT 7 _ rfl).keep hI'.2.2), ev]
    refine kif_ix h0 (by omega) ?_
    obtain ⟨n, en, r0, r1⟩ := ty_u32 (l6 i.toNat (by omega))
    have eo : 0 + i.toNat * 1 = i.toNat * 1 + 0 := by omega
    have l4' := (Kb b (by rw [l4]; simp)).trans l4
    rw [eo, ldI_of l4' (by omega) en]
    refine rwrite_spec hI'.1 fun m' i' o' => ?_
    rw [wrap64 (by omega) (by omega)]
    exact ih (i + 1) m' _ (by omega) (by omega) (StInv.step h8 hI' i' (writeS_ok hI'.2.1 r0 r1) o')
end

theorem state_spec {m : Mem} {c : Nat → AV} (hT : TyAll m shS c) {now : Int} (hn0 : -9223372036854775808 ≤ now) (hn1 : now < 9223372036854775808) {k : (Nat → AV) → Mem → Prop} (hk : ∀ c' S, StCells c' S → S.ok → k c' m) : F14 c now m k := by
  unfold F14
  refine newK_i fun b2 m1 hb2 K1 e2 O1 => newK_i fun b4 m3 hb4 K3 e4 O3 => rfresh_spec fun c5 h5 => newS h5 fun b8 m9 hb8 K9 O9 i9 => ?_
  have hne42 : b4 ≠ b2 := fun e => by subst e; rw [e2] at hb4; cases hb4
  have ex : m3.obj b2 = some _ := (O3 b2 (Ne.symm hne42)).trans e2
  have hT3 : TyAll m3 shS c := hT.keep (K1.trans K3)
  refine ⟨33, st_l3 ex rfl hT3 hb8 (now := now) (fun m19 S19 I19 => ?_) 32 1 m9 St0 (by omega) (by omega) ⟨i9, St0_ok, K9⟩⟩
  have bx : ∀ {m' S}, StInv m3 b8 m' S → m'.obj b2 = some _ := fun {m' S} I => (I.2.2 b2 (by rw [ex]; simp)).trans ex
  obtain ⟨n1, en1, r1, r1'⟩ := ty_u32 (hT3 1 _ rfl)
  rw [ldI_of (bx I19) (by show 1 < 11; omega) en1]
  refine stC_st I19.1 (by omega) rfl fun m22 i22 o22 => ?_
  have I22 := I19.step hb8 i22 (putN_ok I19.2.1 (by omega) r1 r1') o22
  rw [ldI_st I22.1 (by omega) rfl]
  refine stC_st I22.1 (by omega) rfl fun m24 i24 o24 => ?_
  have I24 := I22.step hb8 i24 (putN_ok I22.2.1 (by omega) (wrap32_rng _).1 (wrap32_rng _).2) o24
  obtain ⟨q5, en5⟩ := ty_b (hT3 5 _ rfl)
  rw [ldB_of (bx I24) (by show 5 < 11; omega) en5]
  have tail : ∀ m' S, StInv m3 b8 m' S → P14_10102 now b2 0 b4 0 b8 0 m' (fun m76 => ldG 73 m76 b4 0 fun c78 => Keeps m m76 ∧ InDomG 73 m c78 ∧ k c78 m) := by
    intro m29 S29 I29
    unfold P14_10102
    obtain ⟨n2, en2, r2, r2'⟩ := ty_u32 (hT3 2 _ rfl)
    rw [ldI_of (bx I29) (by show 0 + 2 < 11; omega) en2]
    refine rwrite_spec I29.1 fun m30 i30 o30 => ?_
    have I30 := I29.step hb8 i30 (writeS_ok I29.2.1 r2 r2') o30
    obtain ⟨n3, en3, r3, r3'⟩ := ty_u32 (hT3 3 _ rfl)
    rw [ldI_of (bx I30) (by show 0 + 3 < 11; omega) en3]
    refine rwrite_spec I30.1 fun m32 i32 o32 => ?_
    have I32 := I30.step hb8 i32 (writeS_ok I30.2.1 r3 r3') o32
    obtain ⟨n4, en4, r4, r4'⟩ := ty_u32 (hT3 4 _ rfl)
    rw [ldI_of (bx I32) (by show 0 + 4 < 11; omega) en4]
    refine rwrite_spec I32.1 fun m34 i34 o34 => ?_
    have I34 := I32.step hb8 i34 (writeS_ok I32.2.1 r4 r4') o34
    obtain ⟨n9, en9, r9, r9'⟩ := ty_u32 (hT3 9 _ rfl)
    rw [ldI_of (bx I34) (by show 0 + 9 < 11; omega) en9]
    refine rwrite_spec I34.1 fun m36 i36 o36 => ?_
    have I36 := I34.step hb8 i36 (writeS_ok I34.2.1 r9 r9') o36
    obtain ⟨n10, en10, r10, r10'⟩ := ty_u32 (hT3 10 _ rfl)
    rw [ldI_of (bx I36) (by show 0 + 9 < 11; omega) en9, ldI_of (bx I36) (by show 0 + 10 < 11; omega) en10]
    refine rwrite_spec I36.1 fun m39 i39 o39 => ?_
    have I39 := I36.step hb8 i39 (writeS_ok I36.2.1 (wrap32_rng _).1 (wrap32_rng _).2) o39
    refine ⟨4, st_l16 ex rfl hT3 hb8 (now := now) (fun m52 S52 I52 => ?_) 3 0 m39 _ (by omega) (by omega) I39⟩
    refine ⟨9, st_l20 ex rfl hT3 hb8 (now := now) (fun m69 S69 I69 => ?_) 8 0 m52 _ (by omega) (by omega) I52⟩
    obtain ⟨q6, en6⟩ := ty_b (hT3 6 _ rfl)
    rw [ldB_of (bx I69) (by show 0 + 6 < 11; omega) en6]
    refine stB_st I69.1 (by omega) rfl fun m72 i72 o72 => ?_
    have I72 := I69.step hb8 i72 (putP_ok I69.2.1) o72
    refine stT_st I72.1 fun m73 i73 o73 => ?_
    have I73 := I72.step hb8 i73 (putT_ok I72.2.1 hn0 hn1) o73
    refine ldS_st I73.1 fun c74 h74 => ?_
    have e4' := (I73.2.2 b4 (by rw [e4]; simp)).trans e4
    refine stS_b e4' rfl rfl h74 fun m75 i75 o75 => ldS_st i75 fun c78 h78 => ⟨fun b' h' => ?_, h78.inDom m, hk c78 _ h78 I73.2.1⟩
    have hb4' : b' ≠ b4 := fun e => by subst e; rw [K1 _ h'] at hb4; exact h' hb4
    rw [o75 b' hb4', I73.2.2 b' (by rw [K3 b' (by rw [K1 b' h']; exact h'), K1 b' h']; exact h'), K3 b' (by rw [K1 b' h']; exact h'), K1 b' h']
  refine kif_c _ (fun c1 => ?_) fun c1 => tail _ _ I24
  rw [ldI_st I24.1 (by omega) rfl]
  refine stB_st I24.1 (by omega) rfl fun m27 i27 o27 => ?_
  have I27 := I24.step hb8 i27 (putP_ok I24.2.1) o27
  refine stC_st I27.1 (by omega) rfl fun m28 i28 o28 => ?_
  exact tail _ _ (I27.step hb8 i28 (putN_ok I27.2.1 (by omega) (wrap32_rng _).1 (wrap32_rng _).2) o28)

end Go.Proofs.Ytobdghdcmkdcaaa.Am
