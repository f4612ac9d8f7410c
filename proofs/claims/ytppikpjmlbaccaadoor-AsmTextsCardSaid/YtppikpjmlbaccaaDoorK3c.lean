/- decode.Right, head, Word, Class, and the reference's Class, printed by wip/am/gen3c.py. Conditions: instructions are plain data. -/
import Derived.Test.YtppikpjmlbaccaaDoorK3b
namespace Go.Proofs.YtppikpjmlbaccaaDoor.Am
set_option linter.unusedVariables false
set_option linter.unusedSimpArgs false
set_option maxRecDepth 100000


/-! ### Class -/
def opt (o : Option Int) (kr : Int → Mem → Prop) (kn : Mem → Prop) (m : Mem) : Prop := match o with
  | some r => kr r m
  | none => kn m
def cls9 (x : Int) (b : Bool) : Option Int := if b = true then some 5 else if x = 22 ∨ x = 24 ∨ x = 46 ∨ (32 ≤ x ∧ x ≤ 35) then some 2 else none
def cls7 (x : Int) (b : Bool) : Option Int := if b = true then some 4 else cls9 x (decide ((71 ≤ x ∧ x ≤ 73) ∨ x = 75))
def cls5 (x : Int) (b : Bool) : Option Int := if b = true then some 3 else cls7 x (decide ((66 ≤ x ∧ x ≤ 70) ∨ x = 74))
def cls3 (x : Int) (b : Bool) : Option Int := if b = true then some 6 else cls5 x (decide (x = 7 ∨ x = 8 ∨ (36 ≤ x ∧ x ≤ 45)))
def classS (x : Int) : Int := match cls3 x (decide (x ≤ 0 ∨ x ≥ 78 ∨ x = 11 ∨ x = 12 ∨ (54 ≤ x ∧ x ≤ 62))) with
  | some r => r
  | none => 1

/-! ### head -/
def HP : List (Nat × Nat) := [(0, 0), (0, 0), (2, 1), (3, 1), (4, 1), (6, 1), (7, 1), (8, 1), (9, 1), (10, 1), (11, 1), (12, 1), (13, 1), (15, 1), (16, 1), (17, 1), (18, 1), (19, 1), (24, 1), (25, 1), (26, 1), (27, 1), (32, 1), (33, 1), (34, 1), (35, 1), (36, 1), (37, 1), (38, 1), (39, 1), (42, 1), (43, 1), (48, 1), (50, 1), (52, 1), (54, 1), (0, 2), (1, 2), (16, 2), (17, 2), (2, 0), (3, 0), (4, 0), (5, 0), (6, 0), (7, 0), (8, 0), (9, 0), (10, 0), (11, 0), (12, 0), (13, 0), (14, 0), (15, 0), (0, 3), (4, 3), (1, 4), (2, 4), (6, 4), (8, 4), (24, 4), (32, 4), (17, 0), (2, 5), (32, 5), (33, 5), (32, 0), (33, 0), (35, 0), (36, 0), (37, 0), (40, 0), (41, 0), (43, 0), (48, 0), (56, 0), (47, 0), (51, 0)]
def hwI (x : Int) : Nat → Int
  | 0 => IntKind.wrap .u32 (x * 67108864)
  | 1 => bits .or .u32 0 x
  | 2 => bits .or .u32 67108864 (IntKind.wrap .u32 ((bits .and .u32 x 31) * 65536))
  | 3 => bits .or .u32 1073741824 (IntKind.wrap .u32 ((bits .and .u32 x 31) * 2097152))
  | 4 => bits .or .u32 1107296256 x
  | _ => bits .or .u32 1879048192 x
theorem hw_tab : ∀ n, n < 64 → ∀ j, j < 6 → kindOf (hwI (n : Nat) j) = (KWT.getD n []).getD j 0 := by decide +kernel
theorem hw_rng (x : Int) (j : Nat) : 0 ≤ hwI x j ∧ hwI x j < 4294967296 := by
  unfold hwI
  split
  · exact wrap32_rng _
  all_goals exact or_rng _ _
theorem hp_tab : ∀ k, k < 78 → 0 < k → (HP.getD k (0, 0)).1 < 64 ∧ (HP.getD k (0, 0)).2 < 6 ∧ hwI (HP.getD k (0, 0)).1 (HP.getD k (0, 0)).2 = HDT.getD k 0 ∧ (KWT.getD (HP.getD k (0, 0)).1 []).getD (HP.getD k (0, 0)).2 0 = k := by decide +kernel
theorem hp_tab2 : ∀ k, k < 78 → 0 < k → ∀ n, n < 64 → n < (HP.getD k (0, 0)).1 → ∀ j, j < 6 → (KWT.getD n []).getD j 0 ≠ (k : Nat) := by decide +kernel
theorem hp_tab3 : ∀ k, k < 78 → 0 < k → ∀ j, j < 6 → j < (HP.getD k (0, 0)).2 → (KWT.getD (HP.getD k (0, 0)).1 []).getD j 0 ≠ (k : Nat) := by decide +kernel

section
variable {m : Mem} {c : Nat → AV} {x : In}
theorem head_6 {b : Nat} {y : Blk} (e : m.obj b = some y) (hn : y.n = 6) {n : Nat} (hn64 : n < 64) (hy : ∀ j, j < 6 → y.c j = .flat (.int .u32 (hwI n j))) {k x3 : Int} {k2 k0 : Int → Mem → Prop}
    (j0 : Nat) (hj : ∀ j, j < 6 → j < j0 → (KWT.getD n []).getD j 0 ≠ k) (h2 : 6 ≤ j0 → k2 x3 m) (h0 : j0 < 6 → (KWT.getD n []).getD j0 0 = k ∧ k0 (hwI n j0) m) :
    ∀ (r j : Nat), j + r = 6 → j ≤ j0 → L28_6 k n (.sl b 0 6 (.ex 6)) 6 (r + 1) x3 j m k2 k0 := by
  intro r
  induction r with
  | zero =>
    intro j hjr hle
    unfold L28_6 R28_6
    exact kif_f (by simp; omega) (h2 (by omega))
  | succ r ih =>
    intro j hjr hle
    unfold L28_6 R28_6
    refine kif_t (by simp; omega) (kif_ix (by omega) (by show (j : Int) < (6 : Nat); omega) ?_)
    have hw := hw_rng n j
    rw [ldI_of e (by omega) (by rw [show 0 + (j : Int).toNat * 1 = j by omega]; exact hy j (by omega))]
    refine kind_spec hw.1 hw.2 ?_
    rw [hw_tab n hn64 j (by omega)]
    refine kif_c _ (fun c1 => ?_) fun c1 => ?_
    · have c1 : (KWT.getD n []).getD j 0 = k := by simpa using c1
      have : j = j0 := by
        by_cases q : j < j0
        · exact absurd c1 (hj j (by omega) q)
        · omega
      subst this
      exact (h0 (by omega)).2
    · have c1 : (KWT.getD n []).getD j 0 ≠ k := by simpa using c1
      have : j ≠ j0 := fun q => by subst q; exact c1 (h0 (by omega)).1
      rw [wrap64 (by omega) (by omega)]
      exact ih (j + 1) (by omega) (by omega)
theorem head_3 {kn : Nat} (hk1 : kn < 78) (hk0 : 0 < kn) {k0 : Int → Mem → Prop} {m0 : Mem} (h : ∀ m, Keeps m0 m → k0 (headS kn) m) :
    ∀ (r n : Nat) (m : Mem), n + r = 64 → n ≤ (HP.getD kn (0, 0)).1 → Keeps m0 m → L28_3 kn (r + 1) 0 n m k0 := by
  obtain ⟨t1, t2, t3, t4⟩ := hp_tab kn hk1 hk0
  intro r
  induction r with
  | zero => intro n m h1 h2; omega
  | succ r ih =>
    intro n m h1 h2 K
    unfold L28_3 R28_3
    refine kif_t (by simp; omega) (newK_i fun b m1 hb K1 e O => ?_)
    have hy : ∀ j, j < 6 → _ = AV.flat (.int .u32 (hwI n j)) := fun j hj => by
      have : j = 0 ∨ j = 1 ∨ j = 2 ∨ j = 3 ∨ j = 4 ∨ j = 5 := by omega
      exact (show (upd (upd (upd (upd (upd (upd (lget [.flat (.int .u32 0), .flat (.int .u32 0), .flat (.int .u32 0), .flat (.int .u32 0), .flat (.int .u32 0), .flat (.int .u32 0)]) 0 (.flat (.int .u32 (hwI n 0)))) 1 (.flat (.int .u32 (hwI n 1)))) 2 (.flat (.int .u32 (hwI n 2)))) 3 (.flat (.int .u32 (hwI n 3)))) 4 (.flat (.int .u32 (hwI n 4)))) 5 (.flat (.int .u32 (hwI n 5)))) j = _ by
        rcases this with rfl | rfl | rfl | rfl | rfl | rfl <;> rfl)
    by_cases c : n < (HP.getD kn (0, 0)).1
    · refine ⟨7, head_6 e rfl (by omega) hy 6 (fun j hj _ => hp_tab2 kn hk1 hk0 n (by omega) c j hj) (fun _ => ?_) (fun q => by omega) 6 0 (by omega) (by omega)⟩
      rw [wrap32, Int.emod_eq_of_lt (by omega) (by omega)]
      exact ih (n + 1) m1 (by omega) (by omega) (K.trans K1)
    · have hn : n = (HP.getD kn (0, 0)).1 := by omega
      refine ⟨7, head_6 e rfl (by omega) hy (HP.getD kn (0, 0)).2 (fun j hj q => ?_) (fun q => by omega) (fun _ => ⟨?_, ?_⟩) 6 0 (by omega) (by omega)⟩
      · rw [hn]; exact hp_tab3 kn hk1 hk0 j hj q
      · rw [hn]; exact t4
      · rw [hn, t3]; exact h m1 (K.trans K1)
theorem head_spec {kd : Int} (h0 : 0 < kd) (h1 : kd < 78) {k : Int → Mem → Prop} (hk : k (headS kd) m) : F28 kd m k := by
  unfold F28
  obtain ⟨j, rfl, hj⟩ := nat_of (p := 78) (Int.le_of_lt h0) (by omega)
  exact ⟨65, head_3 hj (by omega) (m0 := m) (fun m' K => ⟨K, hk⟩) 64 0 m (by omega) (by omega) (Keeps.self m)⟩

/-! ### Right, Word -/
theorem right_2 {b b8 : Nat} {y : Blk} (e : m.obj b8 = some y) (hn : y.n = 4) {k0 : Mem → Prop} {kr : Bool → Mem → Prop} {r j : Nat} {v : Int} (hj : j + r + 1 = 4) (hv : y.c j = .flat (.int .i64 v))
    (h1 : five v = true → L27_2 b 0 (.sl b8 0 4 (.ex 4)) 4 (r + 1) ((j : Int) + 1) m k0 kr) (h2 : five v = false → kr false m) : L27_2 b 0 (.sl b8 0 4 (.ex 4)) 4 (r + 1 + 1) j m k0 kr := by
  unfold L27_2 R27_2
  refine kif_t (by simp; omega) (kif_ix (by omega) (by show (j : Int) < (4 : Nat); omega) ?_)
  rw [ldI_of e (by omega) (by rw [show 0 + (j : Int).toNat * 1 = j by omega]; exact hv), wrap64 (by omega) (by omega)]
  unfold five at h1 h2
  refine kif_c _ (fun c => h2 (by ((refine Bool.eq_iff_iff.2 ?_; (try simp only [decide_eq_true_eq, decide_eq_false_iff_not, beq_iff_eq, beq_eq_false_iff_ne, ne_eq, Bool.false_eq_true, iff_true, iff_false, Bool.and_eq_true] at *); omega)))) fun c1 => kif_c _ (fun c => h2 (by ((refine Bool.eq_iff_iff.2 ?_; (try simp only [decide_eq_true_eq, decide_eq_false_iff_not, beq_iff_eq, beq_eq_false_iff_ne, ne_eq, Bool.false_eq_true, iff_true, iff_false, Bool.and_eq_true] at *); omega)))) fun c2 => h1 ?_
  simp only [decide_eq_false_iff_not] at c1 c2
  simp; omega
theorem Bool.and_f {a b : Bool} (h : a = false) : (a && b) = false := by rw [h]; rfl
theorem right_spec (hc : InC c x) (hi : 0 ≤ x.i) {k : Bool → Mem → Prop} (hk : k (rightS x) m) : F27 c m k := by
  unfold F27
  refine newI hc fun b m1 hb K i O => ?_
  rw [i.l1, i.l2, i.l3, i.l4]
  refine newK_i fun b8 m7 hb8 K7 e8 O7 => ?_
  have i7 := i.keep K7
  have K17 := K.trans K7
  unfold rightS at hk
  have no : ∀ q : Bool, q = false → rightS x = q → (Keeps m m7 ∧ k false m) := fun q e1 e2 => ⟨K17, by unfold rightS at e2; rw [e2, e1] at hk; exact hk⟩
  refine ⟨5, right_2 (r := 3) (j := 0) e8 rfl rfl rfl (fun f1 => right_2 (r := 2) (j := 1) e8 rfl rfl rfl (fun f2 => right_2 (r := 1) (j := 2) e8 rfl rfl rfl (fun f3 => right_2 (r := 0) (j := 3) e8 rfl rfl rfl (fun f4 => ?_) ?_) ?_) ?_) ?_⟩
  · unfold L27_2 R27_2
    refine kif_f (by decide) ?_
    rw [f1, f2, f3, f4] at hk
    simp only [Bool.and_self, Bool.true_and] at hk
    refine ⟨fun b' => b' = b, rfl, ?_⟩
    rw [i7.l0]
    refine kif_c _ (fun c1 => ⟨rfl, ?_⟩) fun c1 => ?_
    · rw [i7.l0]
      have c1 : 0 < x.k := by simpa using c1
      refine kif_c _ (fun c2 => ⟨rfl, ?_⟩) fun c2 => ?_
      · have c2 : x.k < 78 := by simpa using c2
        rw [i7.l5]
        refine kif_c _ (fun c3 => ⟨rfl, ?_⟩) fun c3 => ?_
        · have c3 : x.i ≤ 67108863 := by simpa using c3
          rw [i7.l0]
          refine ⟨rfl, i7.lg fun c23 h23 => put_spec h23 ⟨fun _ _ _ => rfl, ?_⟩⟩
          have hp := orI_rng (orI (orI (orI (IntKind.wrap .u32 (IntKind.wrap .u32 x.s * 2097152)) (IntKind.wrap .u32 (IntKind.wrap .u32 x.t * 65536))) (IntKind.wrap .u32 (IntKind.wrap .u32 x.d * 2048))) (IntKind.wrap .u32 (IntKind.wrap .u32 x.h * 64))) x.i
          refine with_spec (by omega) c2 hp.1 hp.2 fun c26 h26 => ⟨fun _ _ _ => rfl, rfl, i7.lg fun c28 h28 => ?_⟩
          rw [geq_in h26 h28 _ (by kernel_rfl)]
          refine ⟨K17, ?_⟩
          rw [decide_eq_true c1, decide_eq_true c2, decide_eq_true c3] at hk
          exact hk
        · have c3 : decide (x.i ≤ 67108863) = false := c3
          rw [c3] at hk; simp only [Bool.and_false, Bool.false_and] at hk; exact ⟨K17, hk⟩
      · have c2 : decide (x.k < 78) = false := c2
        rw [c2] at hk; simp only [Bool.and_false, Bool.false_and] at hk; exact ⟨K17, hk⟩
    · have c1 : decide (0 < x.k) = false := c1
      rw [c1] at hk; simp only [Bool.and_false, Bool.false_and] at hk; exact ⟨K17, hk⟩
  · intro q; rw [q] at hk; simp only [Bool.and_false, Bool.false_and] at hk; exact ⟨K17, hk⟩
  · intro q; rw [q] at hk; simp only [Bool.and_false, Bool.false_and] at hk; exact ⟨K17, hk⟩
  · intro q; rw [q] at hk; simp only [Bool.and_false, Bool.false_and] at hk; exact ⟨K17, hk⟩
  · intro q; rw [q] at hk; simp only [Bool.and_false, Bool.false_and] at hk; exact ⟨K17, hk⟩
theorem word_spec (hc : InC c x) (hi : 0 ≤ x.i) {k : Int → Bool → Mem → Prop} (hk : k (wordS x).1 (wordS x).2 m) : F20 c m k := by
  unfold F20
  refine newI hc fun b m1 hb K i O => i.lg fun c3 h3 => right_spec h3 hi ?_
  unfold wordS at hk
  cases hr : rightS x with
  | false =>
    rw [hr] at hk
    exact kif_t rfl ⟨K, hk⟩
  | true =>
    rw [hr] at hk
    have ok := (right_iff x hi).1 hr
    refine kif_f rfl ⟨fun b' => b' = b, rfl, ?_⟩
    rw [i.l0]
    refine head_spec ok.k0 ok.k1 ⟨fun _ _ _ => rfl, rfl, i.lg fun c10 h10 => put_spec h10 ⟨fun _ _ _ => rfl, K, hk⟩⟩
end

end Go.Proofs.YtppikpjmlbaccaaDoor.Am
