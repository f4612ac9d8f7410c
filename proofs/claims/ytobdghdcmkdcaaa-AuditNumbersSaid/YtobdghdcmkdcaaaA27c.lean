/- What differs in two States, to the end. Conditions: none of their own. -/
import Derived.Test.YtobdghdcmkdcaaaA27b
namespace Go.Proofs.Ytobdghdcmkdcaaa.Am
set_option linter.unusedVariables false
set_option linter.unusedSimpArgs false
set_option maxRecDepth 100000

section
variable {m0 m : Mem} {b2 b4 : Nat} {S T : St} {v : AV}
def dbl2 (S T : St) : Nat → AV := splice (splice (splice (splice (Z8bb) 0 2 (upd (upd (lget [(.flat (.int .u32 0)), (.flat (.int .u32 0))]) 0 (.flat (.int .u32 (S.n 32)))) 1 (.flat (.int .u32 (T.n 32))))) 2 2 (upd (upd (lget [(.flat (.int .u32 0)), (.flat (.int .u32 0))]) 0 (.flat (.int .u32 (S.n 33)))) 1 (.flat (.int .u32 (T.n 33))))) 4 2 (upd (upd (lget [(.flat (.int .u32 0)), (.flat (.int .u32 0))]) 0 (.flat (.int .u32 (S.n 34)))) 1 (.flat (.int .u32 (T.n 34))))) 6 2 (upd (upd (lget [(.flat (.int .u32 0)), (.flat (.int .u32 0))]) 0 (.flat (.int .u32 (S.n 35)))) 1 (.flat (.int .u32 (T.n 35))))
theorem dbl2_at (S T : St) {i : Nat} (hi : i < 4) : dbl2 S T (i * 2) = vu (S.n (32 + i)) ∧ dbl2 S T (i * 2 + 1) = vu (T.n (32 + i)) := by
  have : i = 0 ∨ i = 1 ∨ i = 2 ∨ i = 3 := by omega
  rcases this with rfl | rfl | rfl | rfl <;> exact ⟨rfl, rfl⟩
theorem rf_loop2 {b : Nat} {t : TypeId} (hb : m0.obj b = some ⟨8, dbl2 S T, t, false⟩) {m1 : Mem} {k0 : AV → Mem → Prop} (hk : ∀ v' m', Gr m1 m' v' (dl S T 36) → k0 v' m') : ∀ (j i : Nat) (v : AV) (m : Mem), i + j = 4 → (m.obj b = m0.obj b ∧ ¬ own v b) → Gr m1 m v (dl S T (32 + i)) → L12_8 b2 0 b4 0 (.sl b 0 4 (.ex 4)) 4 (j + 1) v i m k0
  | 0, i, v, m, e, hm, h => by
    show R12_8 _ _ _ _ _ _ _ _ _ _ _
    unfold R12_8
    obtain rfl : i = 4 := by omega
    exact kif_f (by simp) (hk v m h)
  | j + 1, i, v, m, e, hm, h => by
    show R12_8 _ _ _ _ _ _ _ _ _ _ _
    unfold R12_8
    have hl := dl_len S T (32 + i)
    obtain ⟨d0, d1⟩ := dbl2_at S T (show i < 4 by omega)
    refine kif_t (by simp; omega) (kif_ix (by omega) (by omega) ?_)
    rw [ldG_of (hm.1.trans hb) (show 0 + (i : Int).toNat * 2 + 2 ≤ 8 by omega)]
    refine boxN fun b30 m31 x hb30 K31 e31 n31 r31 c31 => ?_
    rw [ldI_of (n := S.n (32 + i)) e31 (by omega) ((c31 0 (by omega)).trans (by simp only [sub]; rw [if_pos (by omega), show 0 + (i : Int).toNat * 2 + 0 = i * 2 by omega]; exact d0)), ldI_of (n := T.n (32 + i)) e31 (by omega) ((c31 1 (by omega)).trans (by simp only [sub]; rw [if_pos (by omega), show 0 + (i : Int).toNat * 2 + 1 = i * 2 + 1 by omega]; exact d1)), wrap64 (n := 32 + (i : Int)) (by omega) (by omega), wrap64 (by omega) (by omega)]
    have hs := dl_succ S T (32 + i)
    have h31 := h.keep K31
    have hm31 : m31.obj b = m0.obj b := by rw [K31 b (by rw [hm.1, hb]; simp)]; exact hm.1
    refine kif_c _ (fun c => ?_) fun c => ?_
    · refine app1 (y := 32 + i) (by omega) h31.l (by omega) fun v' m' g1 g2 g3 => ?_
      have h' : Gr m1 m' v' (dl S T (32 + (i + 1))) := ⟨by rw [show 32 + (i + 1) = 32 + i + 1 by omega, hs, if_pos c]; exact g1, Fr.keeps h31.K g2 h31.o, fun b hb => (g3 b hb).elim (h31.o b) (newK_none h31.K)⟩
      refine rf_loop2 hb hk j (i + 1) v' m' (by omega) ⟨?_, fun ho => ?_⟩ h'
      · rw [g2 b (by rw [hm31, hb]; simp) hm.2]; exact hm31
      · rcases g3 b ho with h1 | h1
        · exact hm.2 h1
        · rw [hm31, hb] at h1; cases h1
    · rw [c, if_neg (by simp), List.append_nil] at hs; rw [← hs] at h31
      exact rf_loop2 hb hk j (i + 1) v m31 (by omega) ⟨hm31, hm.2⟩ h31
theorem mix_succ (T S : St) (i : Nat) : (T.mix S i).putN i (S.n i) = T.mix S (i + 1) := St.ext (fun j => by
  unfold St.mix St.putN upd
  dsimp only
  by_cases c : j = i
  · subst c; rw [if_pos rfl, if_pos (by omega)]
  · rw [if_neg c]
    by_cases c2 : j < i
    · rw [if_pos c2, if_pos (by omega)]
    · rw [if_neg c2, if_neg (by omega)]) fun j => rfl
/-- the registers are another State's -/
theorem st32 {b : Nat} {c : Nat → AV} {k : Mem → Prop} (h : IsSt m b T) (hc : ∀ i, i < 32 → c i = vu (S.n i)) (hk : ∀ m', IsSt m' b (T.mix S 32) → Only m b m' → k m') : stG 32 m b 0 c k := by
  obtain ⟨x, e, hn, hr, hcs, hx⟩ := h
  rw [stG_of e hr (by omega)]
  refine hk _ ⟨_, set_same _ _ _, hn, hr, fun j hj => ?_, fun j hj => ?_⟩ (Only.set _ _ _)
  · show splice x.c 0 32 c j = _
    unfold splice
    by_cases c1 : j < 32
    · rw [if_pos (by omega), Nat.sub_zero, hc j c1, stc_u (by simp [isP3]; omega) (by omega)]
      simp [St.mix, c1]
    · rw [if_neg (by omega), hcs j hj]
      unfold stc St.mix
      simp [c1]
  · show splice x.c 0 32 c (73 + j) = _
    unfold splice; rw [if_neg (by omega)]; exact hx j hj
theorem ld32 {b : Nat} {k : (Nat → AV) → Prop} (h : IsSt m b S) (hk : ∀ c, (∀ i, i < 32 → c i = vu (S.n i)) → k c) : ldG 32 m b 0 k := by
  obtain ⟨x, e, hn, hr, hcs, hx⟩ := h
  rw [ldG_of e (by omega)]
  refine hk _ fun i hi => ?_
  unfold sub
  rw [if_pos hi, Nat.zero_add, hcs i (by omega), stc_u (by simp [isP3]; omega) (by omega)]
/-- the first numbers of one State are laid into another one -/
theorem mix_spec (h2 : IsSt m b2 S) (h4 : IsSt m b4 T) (hne : b2 ≠ b4) {k : Mem → Prop} (hk : ∀ m', IsSt m' b4 (T.mix S 36) → Only m b4 m' → k m') :
    ∃ Fr36 : Nat → Prop, Fr36 b2 ∧ (ldG 32 m b2 0 fun c37 => Fr36 b2 ∧ (ldI .u32 m b2 32 fun x38 => Fr36 b2 ∧ (ldI .u32 m b2 33 fun x39 => Fr36 b2 ∧ (ldI .u32 m b2 34 fun x40 => Fr36 b2 ∧ (ldI .u32 m b2 35 fun x41 => stG 32 m b4 0 c37 fun m42 => KeepsIn Fr36 m m42 ∧ (stC m42 b4 32 (.flat (.int .u32 x38)) fun m43 => KeepsIn Fr36 m42 m43 ∧ (stC m43 b4 33 (.flat (.int .u32 x39)) fun m44 => KeepsIn Fr36 m43 m44 ∧ (stC m44 b4 34 (.flat (.int .u32 x40)) fun m45 => KeepsIn Fr36 m44 m45 ∧ (stC m45 b4 35 (.flat (.int .u32 x41)) fun m46 => KeepsIn Fr36 m45 m46 ∧ k m46))))))))) := by
  have kp : ∀ {a b : Mem}, Only a b4 b → KeepsIn (fun x => x = b2) a b := fun O x e _ => by subst e; exact O x hne
  refine ⟨fun x => x = b2, rfl, ld32 h2 fun c hc => ⟨rfl, ?_⟩⟩
  rw [ldI_st h2 (by omega) rfl]
  refine ⟨rfl, ?_⟩
  rw [ldI_st h2 (by omega) rfl]
  refine ⟨rfl, ?_⟩
  rw [ldI_st h2 (by omega) rfl]
  refine ⟨rfl, ?_⟩
  rw [ldI_st h2 (by omega) rfl]
  refine st32 h4 hc fun m1 i1 o1 => ⟨kp o1, stC_st i1 (by omega) rfl fun m2 i2 o2 => ⟨kp o2, ?_⟩⟩
  rw [mix_succ] at i2
  refine stC_st i2 (by omega) rfl fun m3 i3 o3 => ⟨kp o3, ?_⟩
  rw [mix_succ] at i3
  refine stC_st i3 (by omega) rfl fun m4 i4 o4 => ⟨kp o4, ?_⟩
  rw [mix_succ] at i4
  refine stC_st i4 (by omega) rfl fun m5 i5 o5 => ⟨kp o5, ?_⟩
  rw [mix_succ] at i5
  exact hk m5 i5 ((((o1.trans o2).trans o3).trans o4).trans o5)
/-- the list's end -/
theorem df_end {L : List Nat} (h : Gr m0 m v L) (hl : L.length ≤ 1000) {r : Bool} {k : AV → Mem → Prop} (hk : ∀ v' m', Gr m0 m' v' (L ++ (if r = true then [] else [36])) → k v' m') :
    kif (!r) (newK m ⟨1, upd (lget [(.flat (.int .i64 0))]) 0 (.flat (.int .i64 36)), 3, false⟩ fun b51 m50 => appS 1 8 3 v (.sl b51 0 1 (.ex 1)) m50 fun v52 m53 => k v52 m53) (k v m) := by
  cases r with
  | true =>
    refine kif_f rfl (hk v m ?_)
    rw [if_pos rfl, List.append_nil]; exact h
  | false =>
    refine kif_t rfl (h.app hl (y := 36) rfl fun v' m' h' => hk v' m' ?_)
    rw [if_neg (by simp)]; exact h'
theorem Gr.base {m1 : Mem} {L : List Nat} (h : Gr m1 m v L) (K : Keeps m0 m1) : Gr m0 m v L := ⟨h.l, K.trans h.K, fun b hb => newK_none K (h.o b hb)⟩
/-- behind a change of a block that is none of the list's, nor there ahead -/
theorem Gr.only {m1 m' : Mem} {L : List Nat} {b : Nat} (h : Gr m1 m v L) (K : Keeps m0 m1) (hb1 : m1.obj b ≠ none) (hb0 : m0.obj b = none) (O : Only m b m') : Gr m0 m' v L := by
  refine ⟨h.l.fr (S := fun x => x = b) (fun x _ hx => O x hx) fun x hx e => ?_, fun x hx => ?_, fun x hx => newK_none K (h.o x hx)⟩
  · subst e; exact hb1 (h.o _ hx)
  · have hne : x ≠ b := fun e => by subst e; exact hx hb0
    rw [O x hne, (K.trans h.K) x hx]
theorem differ_spec {c d : Nat → AV} (hc : StCells c S) (hd : StCells d T) {k : AV → Mem → Prop} (hk : ∀ v m', Gr m m' v (diffL S T) → k v m') : F11 c d m k := by
  unfold F11
  refine boxS hc fun b2 m1 hb2 K1 h2 => boxS hd fun b4 m3 hb4 K3 h4 => ?_
  have hne : b2 ≠ b4 := fun e => h2.live (e ▸ hb4)
  have h2 := h2.keep K3
  refine ⟨33, df_loop1 h2 h4 (fun v11 m12 G12 => ?_) 32 0 _ m3 rfl (Gr.begin m3)⟩
  have h2b := h2.keep G12.K
  have h4b := h4.keep G12.K
  rw [ldI_st h2b (by omega) rfl, ldI_st h4b (by omega) rfl, ldI_st h2b (by omega) rfl, ldI_st h4b (by omega) rfl, ldI_st h2b (by omega) rfl, ldI_st h4b (by omega) rfl, ldI_st h2b (by omega) rfl, ldI_st h4b (by omega) rfl]
  refine newK_i fun b23 m22 hb23 K22 e22 O22 => ?_
  refine ⟨5, df_loop2 (S := S.bare) (T := T.bare) (m1 := m3) e22 (fun v33 m34 G34 => ?_) 4 0 v11 m22 rfl ⟨rfl, fun ho => G12.l.live ho hb23⟩ (G12.keep K22)⟩
  refine mix_spec (h2.keep G34.K) (h4.keep G34.K) hne fun m46 i46 o46 => ldS_st ((h2.keep G34.K).only o46 hne) fun c47 h47 => ldS_st i46 fun c48 h48 => ?_
  rw [geq_st h47 h48 _ (by kernel_rfl)]
  exact df_end (G34.only (K1.trans K3) h4.live (newK_none K1 hb4) o46) (by have := dl_len S.bare T.bare 36; omega) hk
theorem rdiffer_spec {c d : Nat → AV} (hc : StCells c S) (hd : StCells d T) {k : AV → Mem → Prop} (hk : ∀ v m', Gr m m' v (diffL S T) → k v m') : F12 c d m k := by
  unfold F12
  refine boxS hc fun b2 m1 hb2 K1 h2 => boxS hd fun b4 m3 hb4 K3 h4 => ?_
  have hne : b2 ≠ b4 := fun e => h2.live (e ▸ hb4)
  have h2 := h2.keep K3
  refine ⟨33, rf_loop1 h2 h4 (fun v11 m12 G12 => ?_) 32 0 _ m3 rfl (Gr.begin m3)⟩
  have h2b := h2.keep G12.K
  have h4b := h4.keep G12.K
  rw [ldI_st h2b (by omega) rfl, ldI_st h4b (by omega) rfl, ldI_st h2b (by omega) rfl, ldI_st h4b (by omega) rfl, ldI_st h2b (by omega) rfl, ldI_st h4b (by omega) rfl, ldI_st h2b (by omega) rfl, ldI_st h4b (by omega) rfl]
  refine newK_i fun b23 m22 hb23 K22 e22 O22 => ?_
  refine ⟨5, rf_loop2 (S := S.bare) (T := T.bare) (m1 := m3) e22 (fun v38 m39 G39 => ?_) 4 0 v11 m22 rfl ⟨rfl, fun ho => G12.l.live ho hb23⟩ (G12.keep K22)⟩
  have h2c := h2.keep G39.K
  have h4c := h4.keep G39.K
  refine ldS_st h2c fun c41 h41 => newS (S := S.bare) h41 fun b43 m44 hb43 K44 O44 h43 => ?_
  have hne4 : b4 ≠ b43 := fun e => h4c.live (e ▸ hb43)
  refine mix_spec (h4c.keep K44) h43 hne4 fun m55 i55 o55 => ldS_st i55 fun c56 h56 => ldS_st ((h4c.keep K44).only o55 hne4) fun c57 h57 => ?_
  rw [geq_st h56 h57 _ (by kernel_rfl), restB_sym]
  have G55 : Gr m m55 v38 (dl S.bare T.bare 36) := by
    have G44 := G39.keep K44
    refine ⟨G44.l.fr (S := fun x => x = b43) (fun x _ hx => o55 x hx) fun x hx e => ?_, fun x hx => ?_, fun x hx => newK_none (K1.trans K3) (G44.o x hx)⟩
    · subst e; exact G39.l.live hx hb43
    · have hx3 : m3.obj x ≠ none := by rw [(K1.trans K3) x hx]; exact hx
      have hx39 : m39.obj x ≠ none := by rw [G39.K x hx3]; exact hx3
      have hne : x ≠ b43 := fun e => by subst e; exact hx39 hb43
      rw [o55 x hne, K44 x hx39, G39.K x hx3, (K1.trans K3) x hx]
  exact df_end G55 (by have := dl_len S.bare T.bare 36; omega) hk
theorem asame_spec {c d : Nat → AV} (hc : StCells c S) (hd : StCells d T) {k : Bool → Mem → Prop} (hk : k (decide (S.same T)) m) : F9 c d m k := by
  unfold F9
  refine boxS hc fun b2 m1 hb2 K1 h2 => boxS hd fun b4 m3 hb4 K3 h4 => ldS_st (h2.keep K3) fun c5 h5 => ldS_st h4 fun c6 h6 => ?_
  rw [geq_st h5 h6 _ (by kernel_rfl)]
  exact ⟨K1.trans K3, hk⟩
end
end Go.Proofs.Ytobdghdcmkdcaaa.Am
