/- Law 27. Conditions: none of its own. -/
import Derived.Test.YtobdghdcmkdcaaaA27d
import Derived.Test.YtobdghdcmkdcaaaR2d
namespace Go.Proofs.Ytobdghdcmkdcaaa.Am
set_option linter.unusedVariables false
set_option linter.unusedSimpArgs false
set_option maxRecDepth 100000

section
variable {m : Mem} {S T : St}
theorem nilS (m : Mem) (c : Nat → AV) : IsS m 1 (.flat (.slice none 0 0)) 0 c := ⟨.nil none c, fun b o cap e => by cases e⟩
/-- a machine of two pages -/
theorem new27 {k : AV → Int → Mem → Prop} (hk : ∀ e q c Sc m', Mac m' e q c 2 { St0 with x := engX q.b c 32 0 0, q := 5 } (fun _ => 0) (fun _ => false) (fun _ => false) {} (.flat (.slice none 0 0)) 3 [] Sc 32 0 0 → Keeps m m' → (∀ b ∈ q.all, m.obj b = none) → k (.ptr e 0) 0 m') : F6 2 (.flat (.slice none 0 0)) (.flat (.slice none 0 0)) 3 m k := by
  refine neweng_spec (n := 0) (nd := 0) (f := fun _ => 0) (fd := fun _ => 0) (by omega) (nilS m _) (fun i hi => by omega) (by omega) (.nil none _) (fun i hi => by omega) (by omega) fun e q c Sc m' h K h1 h2 h3 => ?_
  have e1 : imgB 0 (fun _ => 0) = fun _ => 0 := by funext i; simp [imgB]
  rw [e1] at h
  exact hk e q c Sc m' h K h2
def T27 : St := (St0.putN 0 5).putN 7 1
theorem same_refl (S : St) : S.same S := fun i hi => by split <;> rfl
theorem listR {m : Mem} {b : Nat} {t : TypeId} {c : Nat → AV} (L : List Nat) (n : Nat) (hn : n = L.length) (h : m.obj b = some ⟨n, c, t, false⟩) (hc : ∀ i, i < n → c i = cI L i) : IsR m 1 (.sl b 0 n (.ex n)) L.length (cI L) := by
  subst hn
  exact .sl b 0 _ _ _ _ h (by simp) fun i hi => by rw [Nat.zero_add]; exact hc i (by omega)
theorem known27 {k : Bool → Mem → Prop} (hk : k true m) : F13 m k := by
  unfold F13
  refine new27 fun e q c Sc m3 h3 K3 f3 => ?_
  dsimp only [knilP, kptr]
  refine kif_f rfl (kif_f rfl (estate_spec h3.s fun c7 h7 => newS (S := St0) h7 fun b10 m11 hb10 K11 O11 i10 => ldS_st i10 fun c12 h12 => newS (S := St0) h12 fun b14 m15 hb14 K15 O15 i14 => ?_))
  have hne : b10 ≠ b14 := fun e => i10.live (e ▸ hb14)
  refine stC_st i14 (by omega) rfl fun m16 i16 o16 => stC_st i16 (by omega) rfl fun m17 i17 o17 => ?_
  have K17 : Keeps m11 m17 := Only.keeps K15 hb14 (o16.trans o17)
  have i10' := i10.keep K17
  refine ldS_st i10' fun c18 h18 => astate_spec h18 fun m20 K20 => ?_
  have eS : auS St0 = true := auS_ok St0_may (by decide) (by decide)
  have eT : auS T27 = false := decide_eq_false fun h => by have := h.2.1; revert this; decide
  rw [eS]
  have i14' : IsSt m20 b14 T27 := i17.keep K20
  refine kif_t rfl (ldS_st i14' fun c21 h21 => astate_spec h21 fun m23 K23 => ?_)
  rw [eT]
  have K23' : Keeps m3 m23 := (K11.trans K17).trans (K20.trans K23)
  refine kif_t rfl (aengine_spec (h3.keep K23') eS fun m25 F25 => kif_t rfl ?_)
  have nr : ∀ b, m3.obj b = none → ¬ q.r.has b := fun b hb hr => h3.b.live (BB.has hr) hb
  have i10c : IsSt m25 b10 St0 := ((i10'.keep K20).keep K23).fr F25 (nr b10 hb10)
  have i14c : IsSt m25 b14 T27 := (i14'.keep K23).fr F25 (nr b14 (newK_none K11 hb14))
  unfold F21 -- as it stands
  dsimp only [knilP]
  refine kif_f rfl (kif_t rfl (ldS_st i10c fun c28 h28 => ldS_st i10c fun c29 h29 => asame_spec h28 h29 ?_))
  rw [decide_eq_true (same_refl St0)]
  refine kif_t rfl (ldS_st i10c fun c32 h32 => ldS_st i14c fun c33 h33 => differ_spec h32 h33 fun v34 m35 G35 => ?_)
  have eL : diffL St0 T27 = [0, 7] := by decide
  rw [eL] at G35
  refine newK_i fun b37 m36 hb37 K36 e37 O37 => same_spec (l := [0, 7]) (G35.l.r.keep K36) (listR [0, 7] 2 rfl e37 fun i hi => ?_) (by decide) ⟨?_, hk⟩
  · have : i = 0 ∨ i = 1 := by omega
    rcases this with rfl | rfl <;> rfl
  · have K25 : Keeps m m25 := fun b hb => by
      have e1 := (K3.trans K23') b hb
      rw [F25 b (by rw [e1]; exact hb) (fun hr => hb (f3 b (BB.has hr))), e1]
    exact K25.trans (G35.K.trans K36)

theorem notsame_n {i : Nat} (hi : i < 73) (hp : isP3 i = false) (h : S.n i ≠ T.n i) : ¬ S.same T := fun hs => by
  have := hs i hi
  rw [hp] at this
  exact h (by simpa using this)
theorem kpIn {m m' : Mem} {b5 b3 : Nat} (K : Keeps m m') (h3 : m.obj b3 ≠ none) (h5 : m.obj b5 ≠ none) : KeepsIn (fun x => x = b3 ∨ x = b5) m m' := fun x _ hb => K x hb
theorem num_body {b3 b5 : Nat} (h3 : IsSt m b3 S) (h5 : IsSt m b5 T) {x : Int} {bad : Bool} (ha : auS T = !bad) (hs : ¬ S.same T) {kr : Bool → Mem → Prop} {kn : Mem → Prop} (hk : ∀ m', Keeps m m' → kn m') : P3_35102 b3 0 x b5 0 bad m kr kn := by
  unfold P3_35102
  refine ⟨fun x => True, trivial, ldS_st h5 fun c30 h30 => astate_spec h30 fun m32 K32 => ⟨fun b _ hb => K32 b hb, ?_⟩⟩
  rw [ha]
  have h3 := h3.keep K32
  have h5 := h5.keep K32
  refine kif_f (by cases bad <;> rfl) ⟨trivial, ldS_st h3 fun c33 h33 => ⟨trivial, ldS_st h5 fun c34 h34 => asame_spec h33 h34 ⟨fun b _ hb => rfl, ?_⟩⟩⟩
  rw [decide_eq_false hs]
  refine kif_f rfl ⟨trivial, ldS_st h3 fun c37 h37 => ⟨trivial, ldS_st h5 fun c38 h38 => differ_spec h37 h38 fun v39 m40 G40 => ⟨fun b _ hb => G40.K b hb, trivial, ldS_st (h3.keep G40.K) fun c41 h41 => ⟨trivial, ldS_st (h5.keep G40.K) fun c42 h42 => rdiffer_spec h41 h42 fun v43 m44 G44 => ⟨fun b _ hb => G44.K b hb, ?_⟩⟩⟩⟩⟩
  refine same_spec (l := diffL S T) (G40.l.r.keep G44.K) G44.l.r (by have := diffL_len S T; omega) ⟨fun b _ hb => rfl, kif_f rfl (hk m44 (K32.trans (G40.K.trans G44.K)))⟩
theorem num_loop {b3 : Nat} {k0 : Mem → Prop} {kr : Bool → Mem → Prop} (hk : ∀ m', k0 m') : ∀ (j i : Nat) (m : Mem), i + j = 14 → IsSt m b3 St0 → L3_6 b3 0 (j + 1) i m k0 kr
  | 0, i, m, e, h => by
    show R3_6 _ _ _ _ _ _ _
    unfold R3_6
    obtain rfl : i = 14 := by omega
    exact kif_f (by simp) (hk m)
  | j + 1, i, m, e, h => by
    show R3_6 _ _ _ _ _ _ _
    unfold R3_6
    rw [wrap64 (n := (i : Int) + 1) (by omega) (by omega)]
    refine kif_t (by simp; omega) (ldS_st h fun c12 h12 => newS (S := St0) h12 fun b14 m15 hb14 K15 O15 i14 => ?_)
    have h15 := h.keep K15
    have hne : b3 ≠ b14 := fun e => h.live (e ▸ hb14)
    have go : ∀ (m16 : Mem) (T : St) (bad : Bool), IsSt m16 b14 T → Only m15 b14 m16 → auS T = (!bad) → ¬ St0.same T → P3_35102 b3 0 i b14 0 bad m16 kr (fun m' => L3_6 b3 0 (j + 1) ((i : Int) + 1) m' k0 kr) := fun m16 T bad iT oT ha hs =>
      num_body (h15.only oT hne) iT ha hs fun m' K' => num_loop hk j (i + 1) m' (by omega) ((h15.only oT hne).keep K')
    have bad1 : ∀ (T : St) (n : Nat), n < 16 → rightS n (T.n (39 + n)) = false → auS T = (!true) := fun T n hn h => decide_eq_false fun h' => by rw [h'.1 n hn] at h; cases h
    refine kif_c _ (fun c => ?_) fun c0 => kif_c _ (fun c => ?_) fun c1 => kif_c _ (fun c => ?_) fun c2 => kif_c _ (fun c => ?_) fun c3 => kif_c _ (fun c => ?_) fun c4 => kif_c _ (fun c => ?_) fun c5 => kif_c _ (fun c => ?_) fun c6 => kif_c _ (fun c => ?_) fun c7 => kif_c _ (fun c => ?_) fun c8 => kif_c _ (fun c => ?_) fun c9 => ?_
    · exact stC_st i14 (by omega) rfl fun m16 i16 o16 => go m16 _ true i16 o16 (decide_eq_false fun h' => by have := h'.2.1; revert this; decide) (notsame_n (i := 0) (by omega) rfl (by decide))
    · exact stC_st i14 (by omega) rfl fun m16 i16 o16 => go m16 _ true i16 o16 (bad1 _ 1 (by omega) (by decide)) (notsame_n (i := 40) (by omega) rfl (by decide))
    · exact stC_st i14 (by omega) rfl fun m16 i16 o16 => go m16 _ true i16 o16 (bad1 _ 15 (by omega) (by decide)) (notsame_n (i := 54) (by omega) rfl (by decide))
    · exact stC_st i14 (by omega) rfl fun m16 i16 o16 => go m16 _ true i16 o16 (bad1 _ 12 (by omega) (by decide)) (notsame_n (i := 51) (by omega) rfl (by decide))
    · exact stC_st i14 (by omega) rfl fun m16 i16 o16 => go m16 _ true i16 o16 (bad1 _ 5 (by omega) (by decide)) (notsame_n (i := 44) (by omega) rfl (by decide))
    · exact stT_st i14 fun m16 i16 o16 => go m16 _ true i16 o16 (decide_eq_false fun h' => by have := h'.2.2.1; revert this; decide) (notsame_n (i := 72) (by omega) rfl (by decide))
    · exact stC_st i14 (by omega) rfl fun m16 i16 o16 => go m16 _ true i16 o16 (bad1 _ 0 (by omega) (by decide)) (notsame_n (i := 39) (by omega) rfl (by decide))
    · exact stC_st i14 (by omega) rfl fun m16 i16 o16 => go m16 _ true i16 o16 (bad1 _ 13 (by omega) (by decide)) (notsame_n (i := 52) (by omega) rfl (by decide))
    · exact stC_st i14 (by omega) rfl fun m16 i16 o16 => go m16 _ true i16 o16 (bad1 _ 10 (by omega) (by decide)) (notsame_n (i := 49) (by omega) rfl (by decide))
    · exact stC_st i14 (by omega) rfl fun m16 i16 o16 => go m16 _ true i16 o16 (bad1 _ 2 (by omega) (by decide)) (notsame_n (i := 41) (by omega) rfl (by decide))
    · refine kif_ix (by omega) (by omega) (stC_st i14 (i := 0 + (i : Int).toNat * 1) (by omega) (by simp [isP3]; omega) fun m16 i16 o16 => stC_st i16 (by omega) rfl fun m17 i17 o17 => stC_st i17 (by omega) rfl fun m18 i18 o18 => go m18 _ false i18 ((o16.trans o17).trans o18) ?_ (notsame_n (i := 39) (by omega) rfl ?_))
      · simp at c0 c1 c2 c3 c4 c5 c6 c7 c8 c9
        have : i = 10 ∨ i = 11 ∨ i = 12 ∨ i = 13 := by omega
        rcases this with rfl | rfl | rfl | rfl <;> exact auS_ok ⟨by decide, by decide⟩ (by decide) (by decide)
      · simp at c0 c1 c2 c3 c4 c5 c6 c7 c8 c9
        have : i = 10 ∨ i = 11 ∨ i = 12 ∨ i = 13 := by omega
        rcases this with rfl | rfl | rfl | rfl <;> decide
theorem AuditNumbers : F3 m isTrue := by
  unfold F3
  refine new27 fun e q c Sc m3 h3 K3 f3 => ?_
  dsimp only [knilP, kptr]
  exact kif_f rfl (kif_f rfl (estate_spec h3.s fun c7 h7 => newS (S := St0) h7 fun b10 m11 hb10 K11 O11 i10 => ⟨15, num_loop (fun m' => known27 rfl) 14 0 m11 rfl i10⟩))
end
end Go.Proofs.Ytobdghdcmkdcaaa.Am
