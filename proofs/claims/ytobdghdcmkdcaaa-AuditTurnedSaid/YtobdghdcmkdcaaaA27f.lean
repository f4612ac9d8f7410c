/- Law 27, on. Conditions: none of its own. -/
import Derived.Test.YtobdghdcmkdcaaaA27e
namespace Go.Proofs.Ytobdghdcmkdcaaa.Am
set_option linter.unusedVariables false
set_option linter.unusedSimpArgs false
set_option maxRecDepth 100000

section
variable {m : Mem} {S T : St}
theorem tells_body {b7 b8 : Nat} (h7 : IsSt m b7 S) (h8 : IsSt m b8 T) (hS : auS S = true) (hT : auS T = true) {kr : Bool → Mem → Prop} (hk : ∀ m', kr true m') : P4_5102 b7 0 b8 0 m kr := by
  unfold P4_5102
  refine ⟨fun x => True, trivial, ldS_st h7 fun c23 h23 => astate_spec h23 fun m25 K25 => ⟨fun b _ hb => K25 b hb, ?_⟩⟩
  rw [hS]
  have h7 := h7.keep K25
  have h8 := h8.keep K25
  refine kif_t rfl ⟨trivial, ldS_st h8 fun c26 h26 => astate_spec h26 fun m28 K28 => ⟨fun b _ hb => K28 b hb, ?_⟩⟩
  rw [hT]
  have h7 := h7.keep K28
  have h8 := h8.keep K28
  refine kif_t rfl ⟨trivial, ldS_st h7 fun c29 h29 => ⟨trivial, ldS_st h8 fun c30 h30 => asame_spec h29 h30 ⟨fun b _ hb => rfl, trivial, ldS_st h7 fun c33 h33 => ⟨trivial, ldS_st h8 fun c34 h34 => ?_⟩⟩⟩⟩
  rw [geq_st h33 h34 _ (by kernel_rfl)]
  refine kif_t (by simp) ⟨trivial, ldS_st h7 fun c36 h36 => ⟨trivial, ldS_st h8 fun c37 h37 => differ_spec h36 h37 fun v38 m39 G38 => ⟨fun b _ hb => G38.K b hb, trivial, ldS_st (h7.keep G38.K) fun c40 h40 => ⟨trivial, ldS_st (h8.keep G38.K) fun c41 h41 => rdiffer_spec h40 h41 fun v42 m43 G42 => ⟨fun b _ hb => G42.K b hb, ?_⟩⟩⟩⟩⟩
  exact same_spec (l := diffL S T) (G38.l.r.keep G42.K) G42.l.r (by have := diffL_len S T; omega) ⟨fun b _ hb => rfl, kif_t rfl (known27 ⟨fun b _ hb => rfl, hk m43⟩)⟩
theorem sub11 {c : Nat → AV} (h : TyAll m shS c) : TyAll m shS (sub c 0 11) := fun i l e => by
  have hi : i < 11 := (List.getElem?_eq_some_iff.1 e).1
  unfold sub; rw [if_pos hi, Nat.zero_add]; exact h i l e
theorem may_bare {S : St} (h : OkM S) : OkM S.bare := h
theorem AuditTells {c0 c1 : Nat → AV} {x2 : Int} (h0 : TyAll m shS c0) (h1 : TyAll m shS c1) (h2 : (Lit.int .i64 x2).wf = true) : F4 c0 c1 x2 m isTrue := by
  unfold F4
  refine newK_i fun b2 m1 hb2 K1 e2 O1 => newK_i fun b4 m3 hb4 K3 e4 O3 => ⟨fun x => x = b2 ∨ x = b4, .inl rfl, ?_⟩
  have e2' := (K3 b2 (by rw [e2]; simp)).trans e2
  rw [ldG_of e2' (show 0 + 11 ≤ 11 by omega)]
  refine statem_spec (sub11 (h0.keep (K1.trans K3))) (by omega) (by omega) fun c7 S h7 oS tS => ⟨fun b _ hb => rfl, .inr rfl, ?_⟩
  rw [ldG_of e4 (show 0 + 11 ≤ 11 by omega)]
  refine statem_spec (sub11 (h1.keep (K1.trans K3))) (by omega) (by omega) fun c10 T h10 oT tT => ⟨fun b _ hb => rfl, ?_⟩
  refine newK_i fun b13 m12 hb13 K12 e13 O12 => newK_i fun b15 m14 hb15 K14 e15 O14 => ?_
  have hne : b13 ≠ b15 := fun e => by rw [← e, e13] at hb15; cases hb15
  have kp : ∀ {x : Nat} {a b : Mem}, m3.obj x = none → Only a x b → KeepsIn (fun x => x = b2 ∨ x = b4) a b := fun {x a b} hx O y hy _ => O y fun e => by
    subst e
    rcases hy with rfl | rfl
    · rw [e2'] at hx; cases hx
    · rw [e4] at hx; cases hx
  have hb15' : m3.obj b15 = none := newK_none K12 hb15
  refine stS_b ((K14 b13 (by rw [e13]; simp)).trans e13) rfl rfl h7 fun m16 i16 o16 => ⟨kp hb13 o16, ?_⟩
  have e15' := (o16 b15 (Ne.symm hne)).trans e15
  refine stS_b e15' rfl rfl h10 fun m17 i17 o17 => ⟨kp hb15' o17, ?_⟩
  have i13 := i16.only o17 hne
  have aS : auS S.bare = true := auS_ok oS.2 (by show 0 ≤ S.n 72; omega) (by show S.n 72 ≤ _; omega)
  have aT : auS T.bare = true := auS_ok oT.2 (by show 0 ≤ T.n 72; omega) (by show T.n 72 ≤ _; omega)
  refine kif_c _ (fun c => ldS_st i13 fun c18 h18 => ?_) fun c => tells_body i13 i17 aS aT fun m' => rfl
  obtain ⟨y, ey, yn, yr, yc, yx⟩ := i17
  refine stS_b ey yn yr h18 fun m19 i19 o19 => ?_
  have hr := and64_rng x2 15 (by decide)
  have hr : 0 ≤ bits .and .i64 x2 15 ∧ bits .and .i64 x2 15 ≤ 15 := hr
  rw [wrap64 (n := 1 + bits .and .i64 x2 15) (by omega) (by omega)]
  generalize bits .and .i64 x2 15 = r at hr
  refine kif_ix (by omega) (by omega) ?_
  rw [ldI_st i19 (by omega) (by simp [isP3]; omega)]
  refine kif_ix (by omega) (by omega) (stC_st i19 (by omega) (by simp [isP3]; omega) fun m21 i21 o21 => ?_)
  refine tells_body ((i13.only o19 hne).only o21 hne) i21 aS (auS_ok (putN_may (S := S.bare) oS.2 (by omega)) ?_ ?_) fun m' => rfl
  · show 0 ≤ upd S.n _ _ 72
    unfold upd; rw [if_neg (by omega)]; omega
  · show upd S.n _ _ 72 ≤ _
    unfold upd; rw [if_neg (by omega)]; omega

/-! ### one thing turned -/
theorem filter_one (n k : Nat) (f : Nat → Bool) (hf : ∀ j, j < n → f j = decide (j = k)) : (List.range n).filter f = if k < n then [k] else [] := by
  induction n with
  | zero => rfl
  | succ n ih =>
    rw [List.range_succ, List.filter_append, ih fun j hj => hf j (by omega)]
    have := hf n (by omega)
    by_cases c : n = k
    · subst c; simp [List.filter, this]
    · have e : f n = false := by rw [this]; simp [c]
      simp only [List.filter, e, List.append_nil]
      by_cases c2 : k < n
      · rw [if_pos c2, if_pos (by omega)]
      · rw [if_neg c2, if_neg (by omega)]
theorem diff_low {k : Nat} {v : Int} (hk : k < 36) (h : S.n k ≠ v) : diffL S (S.putN k v) = [k] ∧ diffL (S.putN k v) S = [k] ∧ ¬ S.same (S.putN k v) := by
  have ne : ∀ j, (S.n j != (S.putN k v).n j) = decide (j = k) := fun j => by
    show (S.n j != upd S.n k v j) = _
    unfold upd
    by_cases c : j = k
    · subst c; simp [h]
    · simp [c]
  have ne' : ∀ j, ((S.putN k v).n j != S.n j) = decide (j = k) := fun j => by
    rw [← ne j, bne_comm]
  refine ⟨?_, ?_, ?_⟩
  · unfold diffL dl
    rw [filter_one 36 k _ fun j _ => ne j, if_pos hk]
    have : restB S (S.putN k v) = true := decide_eq_true fun i hi => by
      unfold St.mix St.putN upd
      dsimp only
      split
      · rfl
      · by_cases c : i < 36
        · rw [if_pos c]
        · rw [if_neg c, if_neg (by omega)]
    rw [this]; rfl
  · unfold diffL dl
    rw [filter_one 36 k _ fun j _ => ne' j, if_pos hk]
    have : restB (S.putN k v) S = true := decide_eq_true fun i hi => by
      unfold St.mix St.putN upd
      dsimp only
      split
      · rfl
      · by_cases c : i < 36
        · rw [if_pos c]
        · rw [if_neg c, if_neg (by omega)]
    rw [this]; rfl
  · refine notsame_n (i := k) (by omega) (by simp [isP3]; omega) ?_
    show S.n k ≠ upd S.n k v k
    unfold upd; rw [if_pos rfl]; exact h
theorem diff_high {k : Nat} {v : Int} (hk : 36 ≤ k) (hk2 : k < 73) (hp : isP3 k = false) (h : S.n k ≠ v) : diffL S (S.putN k v) = [36] ∧ diffL (S.putN k v) S = [36] ∧ ¬ S.same (S.putN k v) := by
  have at' : (S.putN k v).n k = v := by show upd S.n k v k = v; unfold upd; rw [if_pos rfl]
  have ne : ∀ j, j < 36 → (S.n j != (S.putN k v).n j) = decide (j = k) := fun j hj => by
    show (S.n j != upd S.n k v j) = _
    unfold upd
    rw [if_neg (by omega), decide_eq_false (by omega)]; simp
  have ne' : ∀ j, j < 36 → ((S.putN k v).n j != S.n j) = decide (j = k) := fun j hj => by
    rw [← ne j hj, bne_comm]
  refine ⟨?_, ?_, ?_⟩
  · unfold diffL dl
    rw [filter_one 36 k _ ne, if_neg (by omega)]
    have : restB S (S.putN k v) = false := decide_eq_false fun hs => by
      have := hs k hk2
      rw [hp] at this
      have e : ((S.putN k v).mix S 36).n k = v := by unfold St.mix; dsimp only; rw [if_neg (by omega)]; exact at'
      rw [e] at this
      exact h (by simpa using this)
    rw [this]; rfl
  · unfold diffL dl
    rw [filter_one 36 k _ ne', if_neg (by omega)]
    have : restB (S.putN k v) S = false := decide_eq_false fun hs => by
      have := hs k hk2
      rw [hp] at this
      have e : (S.mix (S.putN k v) 36).n k = S.n k := by unfold St.mix; dsimp only; rw [if_neg (by omega)]
      rw [e, at'] at this
      exact h (by simpa using this.symm)
    rw [this]; rfl
  · refine notsame_n (i := k) hk2 hp ?_
    rw [at']; exact h
theorem diff_self : diffL S S = [] := by
  unfold diffL dl
  have e : (List.range 36).filter (fun j => S.n j != S.n j) = [] := by simp
  rw [e]
  have : restB S S = true := decide_eq_true fun i hi => by
    unfold St.mix
    dsimp only
    split
    · rfl
    · split <;> rfl
  rw [this]; rfl
theorem list1 {m : Mem} {v : AV} {L : List Nat} {m1 : Mem} (h : Gr m1 m v L) {k : Nat} (hL : L = [k]) {K : Bool → Mem → Prop} (hk : ∀ m', Keeps m m' → K true m') :
    newK m ⟨1, upd (lget [(.flat (.int .i64 0))]) 0 (.flat (.int .i64 (k : Int))), 3, false⟩ fun b m' => F10 v (.sl b 0 1 (.ex 1)) m' K := by
  subst hL
  refine newK_i fun b m' hb K' e O => same_spec (l := [k]) (h.l.r.keep K') (listR [k] 1 rfl e fun i hi => ?_) (by simp) (hk m' K')
  have : i = 0 := by omega
  subst this
  rfl
theorem turned_body {b7 b8 : Nat} (h7 : IsSt m b7 S) (h8 : IsSt m b8 T) {k : Nat} (h1 : diffL S T = [k]) (h2 : diffL T S = [k]) (h3 : ¬ S.same T) {kr : Bool → Mem → Prop} (hk : ∀ m', kr true m') : P5_16102 b7 0 b8 0 k m kr := by
  unfold P5_16102
  refine ldS_st h7 fun c27 h27 => ldS_st h8 fun c28 h28 => differ_spec h27 h28 fun v29 m30 G30 => list1 G30 h1 fun m34 K34 => kif_t rfl ?_
  have h7 := (h7.keep G30.K).keep K34
  have h8 := (h8.keep G30.K).keep K34
  refine ldS_st h8 fun c35 h35 => ldS_st h7 fun c36 h36 => differ_spec h35 h36 fun v37 m38 G38 => list1 G38 h2 fun m42 K42 => kif_t rfl ?_
  have h7 := (h7.keep G38.K).keep K42
  have h8 := (h8.keep G38.K).keep K42
  refine ldS_st h7 fun c43 h43 => ldS_st h8 fun c44 h44 => asame_spec h43 h44 ?_
  rw [decide_eq_false h3]
  refine kif_t rfl (ldS_st h7 fun c47 h47 => ldS_st h7 fun c48 h48 => asame_spec h47 h48 ?_)
  rw [decide_eq_true (same_refl S)]
  refine kif_t rfl (ldS_st h7 fun c51 h51 => ldS_st h7 fun c52 h52 => differ_spec h51 h52 fun v53 m54 G54 => ?_)
  have e := G54.l
  rw [diff_self] at e
  rw [klen_r e.r]
  exact kif_t rfl (known27 (hk m54))
theorem xor_ne {x v : Int} (h0 : 0 ≤ x) (h1 : x < 4294967296) : x ≠ bits .xor .u32 x (bits .or .u32 v 1) := fun e => by
  rw [xor_bv] at e
  have e1 := bv_toInt h0 h1
  have e2 : bv x = bv x ^^^ bv (bits .or .u32 v 1) := toNat_inj32.1 (e1.trans e)
  rw [or_bv, bv_back] at e2
  have e3 := congrArg (fun z => z.getLsbD 0) e2
  simp only [BitVec.getLsbD_xor, BitVec.getLsbD_or] at e3
  have e4 : (bv 1).getLsbD 0 = true := by decide
  rw [e4] at e3
  revert e3
  generalize (bv x).getLsbD 0 = p; generalize (bv v).getLsbD 0 = q
  revert p q; decide
theorem AuditTurned {c0 : Nat → AV} {x1 x2 : Int} (h0 : TyAll m shS c0) (h1 : (Lit.int .i64 x1).wf = true) (h2 : (Lit.int .u32 x2).wf = true) : F5 c0 x1 x2 m isTrue := by
  have hx := wf_u32 h2
  have hx1 := wf_i64 h1
  unfold F5
  refine newK_i fun b2 m1 hb2 K1 e2 O1 => ?_
  rw [ldG_of e2 (show 0 + 11 ≤ 11 by omega)]
  refine statem_spec (sub11 (h0.keep K1)) (by omega) (by omega) fun c4 S h4 oS tS => newS (S := S.bare) h4 fun b7 m8 hb7 K8 O8 i7 => ldS_st i7 fun c9 h9 => newS (S := S.bare) h9 fun b11 m12 hb11 K12 O12 i11 => ?_
  have hne : b7 ≠ b11 := fun e => i7.live (e ▸ hb11)
  have i7 := i7.keep K12
  have ok := oS.1.1
  refine within_r (by decide) (by decide) (by decide) hx1 fun v v0 v1 => ?_
  obtain ⟨k, rfl⟩ := Int.eq_ofNat_of_zero_le v0
  have low : ∀ {i : Nat}, i = k → k < 36 → isP3 k = false → stC m12 b11 i (.flat (.int .u32 (bits .xor .u32 (S.n k) (bits .or .u32 x2 1)))) (fun m16 => P5_16102 b7 0 b11 0 k m16 isTrue) := fun {i} hi hk hp => by
    subst hi
    refine stC_st i11 (by omega) hp fun m16 i16 o16 => ?_
    obtain ⟨d1, d2, d3⟩ := diff_low (S := S.bare) hk (xor_ne (v := x2) (ok _ (by omega)).1 (ok _ (by omega)).2)
    exact turned_body (i7.only o16 hne) i16 d1 d2 d3 fun m' => rfl
  refine kif_c _ (fun c => ?_) fun c => kif_c _ (fun c32 => ?_) fun c32 => kif_c _ (fun c33 => ?_) fun c33 => kif_c _ (fun c34 => ?_) fun c34 => kif_c _ (fun c35 => ?_) fun c35 => ?_
  · have hp : isP3 k = false := by simp at c; simp [isP3]; omega
    simp at c
    refine kif_ix (by omega) (by omega) ?_
    rw [ldI_st i11 (by omega) (by rw [show 0 + (k : Int).toNat * 1 = k by omega]; exact hp), show 0 + (k : Int).toNat * 1 = k by omega]
    exact kif_ix (by omega) (by omega) (low rfl (by omega) hp)
  · obtain rfl : k = 32 := by simp at c32; omega
    rw [ldI_st i11 (by omega) rfl]
    exact low rfl (by omega) rfl
  · obtain rfl : k = 33 := by simp at c33; omega
    rw [ldI_st i11 (by omega) rfl]
    exact low rfl (by omega) rfl
  · obtain rfl : k = 34 := by simp at c34; omega
    rw [ldI_st i11 (by omega) rfl]
    exact low rfl (by omega) rfl
  · obtain rfl : k = 35 := by simp at c35; omega
    rw [ldI_st i11 (by omega) rfl]
    exact low rfl (by omega) rfl
  · obtain rfl : k = 36 := by simp at c c32 c33 c34 c35; omega
    have hr : 0 ≤ bits .and .u32 x2 7 ∧ bits .and .u32 x2 7 ≤ 7 := by
      have := and_ones x2 hx.1 hx.2 3 (by decide)
      have e : bits .and .u32 x2 7 = x2 % 8 := this
      rw [e]; omega
    generalize bits .and .u32 x2 7 = r at hr
    have hp : isP3 (55 + r.toNat * 2 + 1) = false := by simp [isP3]; omega
    refine kif_ix (by omega) (by omega) ?_
    rw [ldI_st i11 (by omega) hp]
    refine kif_ix (by omega) (by omega) (stC_st i11 (by omega) hp fun m16 i16 o16 => ?_)
    obtain ⟨d1, d2, d3⟩ := diff_high (S := S.bare) (k := 55 + r.toNat * 2 + 1) (by omega) (by omega) hp (xor_ne (v := x2) (ok _ (by omega)).1 (ok _ (by omega)).2)
    exact turned_body (i7.only o16 hne) i16 d1 d2 d3 fun m' => rfl
end
end Go.Proofs.Ytobdghdcmkdcaaa.Am
