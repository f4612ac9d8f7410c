/- The laws of chapter 7 over the abstract machine: spaces; there and back. Conditions: what is handed in is plain data. -/
import Derived.Test.YtnfpmaiolponbaaL7
namespace Go.Proofs.Ytnfpmaiolponbaa.Am
set_option linter.unusedVariables false
set_option linter.unusedSimpArgs false

theorem tfind_at {S : St} {va : Int} : ∀ (d i j : Nat), i ≤ j → j < i + d → tmatch S va j = true → (∀ q, i ≤ q → q < j → tmatch S va q = false) → tfind S va d i = j
  | 0, i, j, h1, h2, _, _ => by omega
  | d + 1, i, j, h1, h2, h3, h4 => by
    unfold tfind
    by_cases c : i = j
    · subst c; rw [if_pos h3]
    · rw [if_neg (by rw [h4 i (Nat.le_refl _) (by omega)]; simp)]
      exact tfind_at d (i + 1) j (by omega) (by omega) h3 fun q q1 q2 => h4 q (by omega) q2
theorem tfind_none {S : St} {va : Int} : ∀ (d i : Nat), (∀ q, i ≤ q → q < i + d → tmatch S va q = false) → tfind S va d i = -1
  | 0, i, _ => rfl
  | d + 1, i, h => by
    unfold tfind
    rw [if_neg (by rw [h i (Nat.le_refl _) (by omega)]; simp)]
    exact tfind_none d (i + 1) fun q q1 q2 => h q (by omega) (by omega)
theorem tfind_le {S : St} {va : Int} : ∀ (d i j : Nat), i ≤ j → j < i + d → tmatch S va j = true → (i : Int) ≤ tfind S va d i ∧ tfind S va d i ≤ j
  | 0, i, j, h1, h2, _ => by omega
  | d + 1, i, j, h1, h2, h3 => by
    unfold tfind
    by_cases c : tmatch S va i = true
    · rw [if_pos c]; omega
    · rw [if_neg c]
      have : i ≠ j := fun e => by subst e; exact c h3
      have := tfind_le (S := S) (va := va) d (i + 1) j (by omega) (by omega) h3
      omega

theorem and_mask_idem (x q r : Int) (h : bv q &&& bv r = bv r) : bits .and .u32 (bits .and .u32 x q) r = bits .and .u32 x r := by
  rw [and_bv, and_bv, and_bv, bv_back, BitVec.and_assoc, h]

theorem TlbSpaces {m : Mem} {va a b : Int} (hw : (Lit.int .u32 va).wf = true) (ha : (Lit.int .u8 a).wf = true) (hb : (Lit.int .u8 b).wf = true) (g : Bool) : F3 va a b g m isTrue := by
  obtain ⟨h0, h1⟩ := wf_u32 hw
  obtain ⟨a0, a1⟩ := wf_u8 ha
  obtain ⟨b0, b1⟩ := wf_u8 hb
  unfold F3
  refine fresh_spec fun c1 hc1 => newS hc1 fun b4 m5 hb4 K5 O5 i5 => ?_
  -- the page
  rw [not1023, hi_eq va h0 h1]
  have hP := or_rng (va - va % 1024) 1048576
  have hPm := or_mod1024 (x := va - va % 1024) (y := 1048576) (by omega) (by omega) (by omega) (by omega) (by omega) (by omega)
  have hPge := or_ge (va - va % 1024) 1048576 (by omega) (by omega)
  generalize bits .or .u32 (va - va % 1024) 1048576 = P at hP hPm hPge ⊢
  have ea : IntKind.wrap .u32 a = a := by rw [wrap32]; omega
  have eb : IntKind.wrap .u32 b = b := by rw [wrap32]; omega
  have main : ∀ lo : Int, (lo = 8199 ∧ g = true ∨ lo = 8195 ∧ g = false) → P3_6102 va a b g b4 0 P lo m5 isTrue := by
    intro lo hlo
    unfold P3_6102
    rw [ea, eb, lo_eq va h0 h1, or_low hP.1 hP.2 hPm a0 (by omega), or_low hP.1 hP.2 hPm (by omega) (by omega)]
    refine stE_st i5 (by omega) rfl rfl fun m6 i6 o6 => write_spec i6 fun m7 i7 o7 => look_spec i7 ?_
    -- the State
    have hbm : bits .and .u32 b 4294966527 = b := by
      have e := and_mask_idem b 4294966527 255 (by decide)
      have e255 : ∀ y : Int, 0 ≤ y → y < 4294967296 → bits .and .u32 y 255 = y % 256 := fun y p q => by have := and_ones y p q 8 (by decide); simpa using this
      have hr := and_rng b 4294966527
      have hle : bits .and .u32 b 4294966527 ≤ b := by
        rw [and_bv, BitVec.toNat_and]
        have := bv_toInt b0 (by omega : b < 4294967296)
        have h2 : (bv b).toNat &&& (bv 4294966527).toNat ≤ (bv b).toNat := Nat.and_le_left
        omega
      rw [e255 _ hr.1 hr.2, e255 b b0 (by omega)] at e
      omega
    have e3 : writeS ((St0.putN (0 + 55 + 8) (P + a)).putN (0 + 55 + 8 + 1) lo) 10 b = ((St0.putN 63 (P + a)).putN 64 lo).putN 49 b := by
      unfold writeS; rw [if_neg (by decide), if_neg (by decide), if_pos rfl, hbm]
    rw [e3] at i7 ⊢
    generalize hSd : ((St0.putN 63 (P + a)).putN 64 lo).putN 49 b = S at i7 ⊢
    have n63 : S.n 63 = P + a := by rw [← hSd, putN_other _ _ (by decide), putN_other _ _ (by decide), putN_same]
    have n64 : S.n 64 = lo := by rw [← hSd, putN_other _ _ (by decide), putN_same]
    have n49 : S.n 49 = b := by rw [← hSd, putN_same]
    have nz : ∀ i, 55 ≤ i → i < 71 → i ≠ 63 → i ≠ 64 → S.n i = 0 := fun i p1 p2 p3 p4 => by
      rw [← hSd, putN_other _ _ (by omega), putN_other _ _ p4, putN_other _ _ p3]
      unfold St0; dsimp only; rw [if_neg (by omega), if_neg (by omega), if_neg (by omega)]
    have e255 : ∀ y : Int, 0 ≤ y → y < 4294967296 → bits .and .u32 y 255 = y % 256 := fun y p q => by have := and_ones y p q 8 (by decide); simpa using this
    have other : ∀ v : Int, 0 ≤ v → v < 4294967296 → v - v % 1024 = P → ∀ q, q < 8 → q ≠ 4 → tmatch S v q = false := fun v v0 v1 vp q hq h4 => by
      unfold tmatch
      rw [nz (55 + q * 2) (by omega) (by omega) (by omega) (by omega), hi_eq v v0 v1, hi_eq 0 (by omega) (by omega), vp]
      have : ((0 : Int) - 0 % 1024 == P) = false := by simp; omega
      rw [this]; rfl
    have at4 : ∀ v : Int, 0 ≤ v → v < 4294967296 → v - v % 1024 = P → tmatch S v 4 = (g || (a == b)) := fun v v0 v1 vp => by
      unfold tmatch
      rw [show 55 + 4 * 2 = 63 by rfl, show 56 + 4 * 2 = 64 by rfl, n63, n64, n49, hi_eq v v0 v1, hi_eq (P + a) (by omega) (by omega), vp, e255 (P + a) (by omega) (by omega), e255 b b0 (by omega)]
      have p1 : ((P + a) - (P + a) % 1024 == P) = true := by simp; omega
      have p2 : (P + a) % 256 = a := by omega
      have p3 : b % 256 = b := by omega
      rw [p1, p2, p3]
      rcases hlo with ⟨rfl, rfl⟩ | ⟨rfl, rfl⟩
      · rfl
      · have : (bits .and .u32 8195 4 != 0) = false := by decide
        rw [this]; simp
    have find : ∀ v : Int, 0 ≤ v → v < 4294967296 → v - v % 1024 = P → tfind S v 8 0 = if (g || (a == b)) = true then 4 else -1 := fun v v0 v1 vp => by
      by_cases c : (g || (a == b)) = true
      · rw [if_pos c]
        exact tfind_at 8 0 4 (by omega) (by omega) (by rw [at4 v v0 v1 vp]; exact c) fun q _ q2 => other v v0 v1 vp q (by omega) (by omega)
      · rw [if_neg c]
        refine tfind_none 8 0 fun q _ q2 => ?_
        by_cases h4 : q = 4
        · subst h4; rw [at4 v v0 v1 vp]; simpa using c
        · exact other v v0 v1 vp q (by omega) h4
    have fl := find (P + va % 1024) (by omega) (by omega) (by omega)
    have fp := find P (by omega) (by omega) (by omega)
    have hlook : lookS S (P + va % 1024) true = if (g || (a == b)) = true then (8192 + va % 1024, -1, false) else (0, 3, true) := by
      unfold lookS
      dsimp only
      rw [fl]
      by_cases c : (g || (a == b)) = true
      · rw [if_pos c, if_pos c, if_neg (by omega)]
        rw [show 56 + (4 : Int).toNat * 2 = 64 by rfl, n64]
        have q1 : (bits .and .u32 lo 1 == 0) = false := by rcases hlo with ⟨rfl, _⟩ | ⟨rfl, _⟩ <;> decide
        have q2 : (bits .and .u32 lo 2 == 0) = false := by rcases hlo with ⟨rfl, _⟩ | ⟨rfl, _⟩ <;> decide
        rw [if_neg (by rw [q1]; simp), if_neg (by rw [q2]; simp), hilo lo _ (by rcases hlo with ⟨rfl, _⟩ | ⟨rfl, _⟩ <;> omega) (by rcases hlo with ⟨rfl, _⟩ | ⟨rfl, _⟩ <;> omega) (by omega) (by omega)]
        congr 1
        rcases hlo with ⟨rfl, _⟩ | ⟨rfl, _⟩ <;> omega
      · rw [if_neg c, if_neg c, if_pos (by omega)]; rfl
    rw [hlook]
    have t12 : P3_10004 va b4 0 P (8192 + va % 1024) (-1) false true m7 isTrue (fun m18 => P3_11102 b4 0 P (8192 + va % 1024) (-1) false m18 isTrue) ∨ ¬ (g || (a == b)) = true := by
      by_cases c : (g || (a == b)) = true
      · refine .inl ?_
        unfold P3_10004
        refine kif_t rfl (kif_t ?_ (kif_t rfl (find_spec i7 ?_)))
        · rw [lo_eq va h0 h1, or_low (by omega) (by omega) (by omega) (by omega) (by omega)]; simp
        · rw [fp, if_pos c]; exact kif_t rfl (known7 rfl)
      · exact .inr c
    refine kif_c _ (fun hg => ?_) fun hg => ?_
    · have c : (g || (a == b)) = true := by rw [hg]; rfl
      rw [if_pos c]
      rcases t12 with t | t
      · exact t
      · exact absurd c t
    · cases hab : (a == b) with
      | true =>
        have c : (g || (a == b)) = true := by rw [hab]; simp
        rw [if_pos (by simp)]
        rcases t12 with t | t
        · exact t
        · exact absurd c t
      | false =>
        rw [if_neg (by rw [hg]; simp)]
        unfold P3_10004
        refine kif_f rfl ?_
        unfold P3_11102
        refine kif_t rfl (kif_t rfl (kif_t rfl (find_spec i7 ?_)))
        rw [fp, if_neg (by rw [hg, hab]; simp)]
        exact kif_t rfl (known7 rfl)
  refine kif_c _ (fun hg => ?_) fun hg => ?_
  · exact main 8199 (.inl ⟨rfl, hg⟩)
  · exact main 8195 (.inr ⟨rfl, hg⟩)


/-! ### there and back -/
theorem writeS_0 (S : St) (v : Int) : writeS S 0 v = S.putN 39 (bits .and .u32 v 7) := by
  unfold writeS; rw [if_pos rfl]
theorem writeS_2 (S : St) (v : Int) : writeS S 2 v = S.putN 41 (bits .and .u32 v 4294966279) := by
  unfold writeS; rw [if_neg (by decide), if_pos rfl]
theorem writeS_10 (S : St) (v : Int) : writeS S 10 v = S.putN 49 (bits .and .u32 v 4294966527) := by
  unfold writeS; rw [if_neg (by decide), if_neg (by decide), if_pos rfl]
theorem back_fill {m0 : Mem} {x0 x1 x2 : Int} {v3 : AV} {b : Nat} (hb : m0.obj b = none) (hv : Ty m0 (.sl [.i .u32, .i .u32]) v3) {k0 : Mem → Prop} (hk : ∀ m S, StInv m0 b m S → k0 m) : ∀ (d : Nat) (i : Int) (m : Mem) (S : St), 0 ≤ i → 8 ≤ i + d → StInv m0 b m S → L6_3 x0 x1 x2 v3 b 0 (d + 1) i m k0 := by
  intro d
  induction d with
  | zero =>
    intro i m S h0 h1 hI
    unfold L6_3 R6_3
    have hlen : ∃ x, klen v3 = fun k => k x := by
      cases hv with
      | nil ls a => exact ⟨_, rfl⟩
      | sl ls b len cap y l1 l2 l3 l4 l5 l6 => exact ⟨_, rfl⟩
    obtain ⟨x, hlen⟩ := hlen
    rw [hlen]
    refine kif_c _ (fun c1 => kif_f (by simp; omega) (hk m S hI)) fun c1 => hk m S hI
  | succ d ih =>
    intro i m S h0 h1 hI
    unfold L6_3 R6_3
    have hT0 := hv.keep hI.2.2
    clear hv
    cases hT0 with
    | nil ls a => exact kif_f (by simp; omega) (hk m S hI)
    | sl ls b len cap y l1 l2 l3 l4 l5 l6 =>
      show kif _ _ _
      refine kif_c _ (fun c2 => ?_) fun c2 => hk m S hI
      have c2 : i < (len : Int) := by simpa using c2
      refine kif_c _ (fun c1 => ?_) fun c1 => hk m S hI
      have c1 : i < 8 := by simpa using c1
      refine kif_ix h0 (by omega) ?_
      obtain ⟨n, en, r0, r1⟩ := ty_u32 (l6 i.toNat (by omega) 0 _ rfl)
      obtain ⟨n', en', r0', r1'⟩ := ty_u32 (l6 i.toNat (by omega) 1 _ rfl)
      have eo : 0 + i.toNat * 2 + 0 = i.toNat * [Lf.i IntKind.u32, Lf.i IntKind.u32].length + 0 := by simp
      rw [eo, ldI_of l4 (by rw [l5]; simp; omega) en]
      refine kif_ix h0 (by omega) ?_
      have eo' : 0 + i.toNat * 2 + 1 = i.toNat * [Lf.i IntKind.u32, Lf.i IntKind.u32].length + 1 := by simp
      rw [eo', ldI_of l4 (by rw [l5]; simp; omega) en']
      refine kif_ix h0 (by omega) ?_
      have eo2 : 0 + 55 + i.toNat * 2 = 55 + i.toNat * 2 := by omega
      rw [eo2]
      refine stE_st hI.1 (by omega) rfl rfl fun m' i' o' => ?_
      rw [wrap64 (by omega) (by omega)]
      exact ih (i + 1) m' _ (by omega) (by omega) (hI.step hb i' (putN_ok (putN_ok hI.2.1 (by omega) (and_rng _ _).1 (and_rng _ _).2) (by omega) (and_rng _ _).1 (and_rng _ _).2) o')

theorem TlbBack {m : Mem} {hi lo at' : Int} {v3 : AV} (h1 : (Lit.int .u32 hi).wf = true) (h2 : (Lit.int .u32 lo).wf = true) (h3 : (Lit.int .i64 at').wf = true) (hv : Ty m (.sl [.i .u32, .i .u32]) v3) : F6 hi lo at' v3 m isTrue := by
  obtain ⟨p0, p1⟩ := wf_u32 h1
  obtain ⟨q0, q1⟩ := wf_u32 h2
  unfold F6
  refine fresh_spec fun c1 hc1 => newS hc1 fun b m5 hb K5 O5 i5 => ?_
  have hk := and64_rng at' 7 (by decide)
  generalize ek : bits .and .i64 at' ((7 : Nat) : Int) = k0 at hk
  have ek : bits .and .i64 at' 7 = k0 := ek
  rw [wrap32, Int.emod_eq_of_lt hk.1 (by omega), wrap64 (by omega) (by omega)]
  obtain ⟨k, rfl⟩ : ∃ k : Nat, k0 = (k : Int) := ⟨k0.toNat, by omega⟩
  have hk7 : k < 8 := by omega
  refine ⟨9, back_fill hb hv (fun m18 S hI => ?_) 8 0 m5 St0 (by omega) (by omega) ⟨i5, St0_ok, K5⟩⟩
  refine write_spec hI.1 fun m20 i20 o20 => write_spec i20 fun m21 i21 o21 => write_spec i21 fun m22 i22 o22 => ?_
  have e7 : ∀ v : Int, 0 ≤ v → v < 8 → bits .and .u32 v 7 = v := fun v a b => by
    have := and_ones v a (by omega) 3 (by decide)
    have this : bits .and .u32 v 7 = v % 8 := by simpa using this
    omega
  have ew : writeS (writeS (writeS S 0 k) 10 hi) 2 lo = ((S.putN 39 k).putN 49 (bits .and .u32 hi 4294966527)).putN 41 (bits .and .u32 lo 4294966279) := by
    rw [writeS_0, writeS_10, writeS_2, e7 k (by omega) (by omega)]
  rw [ew] at i22
  have w2 := and_rng hi 4294966527
  have w3 := and_rng lo 4294966279
  have ok22 : (((S.putN 39 k).putN 49 (bits .and .u32 hi 4294966527)).putN 41 (bits .and .u32 lo 4294966279)).ok := putN_ok (putN_ok (putN_ok hI.2.1 (by omega) (by omega) (by omega)) (by omega) w2.1 w2.2) (by omega) w3.1 w3.2
  refine put_spec i22 ok22 fun m23 i23 o23 => ?_
  have ok23 := putS_ok ok22 false
  have ep : putS (((S.putN 39 k).putN 49 (bits .and .u32 hi 4294966527)).putN 41 (bits .and .u32 lo 4294966279)) false = (((((S.putN 39 k).putN 49 (bits .and .u32 hi 4294966527)).putN 41 (bits .and .u32 lo 4294966279)).putN (55 + k * 2) (bits .and .u32 hi 4294966527)).putN (56 + k * 2) (bits .and .u32 lo 4294966279)) := by
    unfold putS
    dsimp only
    rw [if_neg (by decide)]
    have e39 : (((S.putN 39 k).putN 49 (bits .and .u32 hi 4294966527)).putN 41 (bits .and .u32 lo 4294966279)).n 39 = k := by
      rw [putN_other _ _ (by decide), putN_other _ _ (by decide), putN_same]
    have e49 : (((S.putN 39 k).putN 49 (bits .and .u32 hi 4294966527)).putN 41 (bits .and .u32 lo 4294966279)).n 49 = bits .and .u32 hi 4294966527 := by
      rw [putN_other _ _ (by decide), putN_same]
    have e41 : (((S.putN 39 k).putN 49 (bits .and .u32 hi 4294966527)).putN 41 (bits .and .u32 lo 4294966279)).n 41 = bits .and .u32 lo 4294966279 := by
      rw [putN_same]
    rw [e39, e49, e41, e7 k (by omega) (by omega), Int.toNat_natCast]
  rw [ep] at i23 ok23
  generalize hS : (((((S.putN 39 k).putN 49 (bits .and .u32 hi 4294966527)).putN 41 (bits .and .u32 lo 4294966279)).putN (55 + k * 2) (bits .and .u32 hi 4294966527)).putN (56 + k * 2) (bits .and .u32 lo 4294966279)) = T at i23 ok23
  have n1 : T.n (55 + k * 2) = bits .and .u32 hi 4294966527 := by rw [← hS, putN_other _ _ (by omega), putN_same]
  have n2 : T.n (56 + k * 2) = bits .and .u32 lo 4294966279 := by rw [← hS, putN_same]
  have n49 : T.n 49 = bits .and .u32 hi 4294966527 := by
    rw [← hS, putN_other _ _ (by omega), putN_other _ _ (by omega), putN_other _ _ (by decide), putN_same]
  have n39 : T.n 39 = k := by
    rw [← hS, putN_other _ _ (by omega), putN_other _ _ (by omega), putN_other _ _ (by decide), putN_other _ _ (by decide), putN_same]
  have a1 : ∀ x : Int, bits .and .u32 (bits .and .u32 x 4294966527) 4294966272 = bits .and .u32 x 4294966272 := fun x => and_mask_idem x _ _ (by decide)
  have mt : ∀ (U : St) (v : Int), U.n (55 + k * 2) = bits .and .u32 hi 4294966527 → U.n 49 = bits .and .u32 hi 4294966527 → bits .and .u32 v 4294966272 = bits .and .u32 hi 4294966272 → tmatch U v k = true := fun U v u1 u2 hv => by
    unfold tmatch
    rw [u1, u2, hv, a1]
    simp
  have f1 := tfind_le (S := T) (va := hi) 8 0 k (by omega) (by omega) (mt T hi n1 n49 rfl)
  refine find_spec i23 (kif_f (by simpa using f1.1) (find_spec i23 (kif_f (by simpa using f1.2) ?_)))
  refine probe_spec i23 fun m28 i28 o28 => ?_
  -- what is probed
  have fq := tfind_le (S := T.putN 39 2147483648) (va := T.n 49) 8 0 k (by omega) (by omega) (mt _ _ (by rw [putN_other _ _ (by omega)]; exact n1) (by rw [putN_other _ _ (by decide)]; exact n49) (by rw [n49, a1]))
  have epr : probeS T = (T.putN 39 2147483648).putN 39 (tfind (T.putN 39 2147483648) (T.n 49) 8 0) := by
    unfold probeS; dsimp only; rw [if_pos (by omega)]
  rw [epr] at i28
  rw [ldI_st i28 (by omega) rfl, putN_same]
  refine kif_f (by simpa using fq.2) ?_
  refine write_spec i28 fun m30 i30 o30 => write_spec i30 fun m31 i31 o31 => write_spec i31 fun m32 i32 o32 => get_spec i32 fun m33 i33 _ => ?_
  have e0 : bits .and .u32 0 4294966527 = 0 := by decide
  have e0' : bits .and .u32 0 4294966279 = 0 := by decide
  have eq3 : writeS (writeS (writeS ((T.putN 39 2147483648).putN 39 (tfind (T.putN 39 2147483648) (T.n 49) 8 0)) 10 0) 2 0) 0 k = ((((T.putN 39 2147483648).putN 39 (tfind (T.putN 39 2147483648) (T.n 49) 8 0)).putN 49 0).putN 41 0).putN 39 k := by
    rw [writeS_10, writeS_2, writeS_0, e0, e0', e7 k (by omega) (by omega)]
  rw [eq3] at i33
  have eg : getS (((((T.putN 39 2147483648).putN 39 (tfind (T.putN 39 2147483648) (T.n 49) 8 0)).putN 49 0).putN 41 0).putN 39 k) = ((((((T.putN 39 2147483648).putN 39 (tfind (T.putN 39 2147483648) (T.n 49) 8 0)).putN 49 0).putN 41 0).putN 39 k).putN 49 (bits .and .u32 hi 4294966527)).putN 41 (bits .and .u32 lo 4294966279) := by
    unfold getS
    dsimp only
    rw [putN_same, e7 k (by omega) (by omega), Int.toNat_natCast]
    rw [putN_other _ _ (by omega), putN_other _ _ (by omega), putN_other _ _ (by omega), putN_other _ _ (by omega), putN_other _ _ (by omega), n1]
    rw [putN_other _ _ (by omega), putN_other _ _ (by omega), putN_other _ _ (by omega), putN_other _ _ (by omega), putN_other _ _ (by omega), n2]
    rw [writeS_10, writeS_2, and_mask_idem hi 4294966527 4294966527 (by decide), and_mask_idem lo 4294966279 4294966279 (by decide)]
  rw [eg] at i33
  rw [ldI_st i33 (by omega) rfl, putN_other _ _ (by decide), putN_same]
  refine kif_t (by simp) ?_
  rw [ldI_st i33 (by omega) rfl, putN_same]
  exact kif_t (by simp) (known7 rfl)

end Go.Proofs.Ytnfpmaiolponbaa.Am
