/- The laws of chapter 6 over the abstract machine: the closed sentence. Conditions: none. -/
import Derived.Test.YtckhobljijpfpaaL6b
namespace Go.Proofs.Ytckhobljijpfpaa.Am
set_option linter.unusedVariables false
set_option linter.unusedSimpArgs false

/-- what is asked: Kind, N, V, Flag, Steps -/
structure AskIs (m : Mem) (b : Nat) (kd n v : Int) (f : Bool) (st : Int) : Prop where
  ex : ∃ x, m.obj b = some x ∧ x.n = 5 ∧ x.c 0 = .flat (.int .i64 kd) ∧ x.c 1 = .flat (.int .i64 n) ∧ x.c 2 = .flat (.int .u32 v) ∧ x.c 3 = .flat (.bool f) ∧ x.c 4 = .flat (.int .i64 st)
theorem AskIs.l0 {m : Mem} {b : Nat} {kd n v : Int} {f : Bool} {st : Int} (h : AskIs m b kd n v f st) (k : Int → Prop) : ldI .i64 m b 0 k = k kd := by
  obtain ⟨x, e, hn, h0, h1, h2, h3, h4⟩ := h.ex; exact ldI_of e (by omega) h0
theorem AskIs.l1 {m : Mem} {b : Nat} {kd n v : Int} {f : Bool} {st : Int} (h : AskIs m b kd n v f st) (k : Int → Prop) : ldI .i64 m b 1 k = k n := by
  obtain ⟨x, e, hn, h0, h1, h2, h3, h4⟩ := h.ex; exact ldI_of e (by omega) h1
theorem AskIs.l2 {m : Mem} {b : Nat} {kd n v : Int} {f : Bool} {st : Int} (h : AskIs m b kd n v f st) (k : Int → Prop) : ldI .u32 m b 2 k = k v := by
  obtain ⟨x, e, hn, h0, h1, h2, h3, h4⟩ := h.ex; exact ldI_of e (by omega) h2
theorem AskIs.l3 {m : Mem} {b : Nat} {kd n v : Int} {f : Bool} {st : Int} (h : AskIs m b kd n v f st) (k : Bool → Prop) : ldB m b 3 k = k f := by
  obtain ⟨x, e, hn, h0, h1, h2, h3, h4⟩ := h.ex; exact ldB_of e (by omega) h3
theorem AskIs.l4 {m : Mem} {b : Nat} {kd n v : Int} {f : Bool} {st : Int} (h : AskIs m b kd n v f st) (k : Int → Prop) : ldI .i64 m b 4 k = k st := by
  obtain ⟨x, e, hn, h0, h1, h2, h3, h4⟩ := h.ex; exact ldI_of e (by omega) h4
theorem AskIs.only {m m' : Mem} {b b' : Nat} {kd n v : Int} {f : Bool} {st : Int} (h : AskIs m b kd n v f st) (O : Only m b' m') (hne : b ≠ b') : AskIs m' b kd n v f st := by
  obtain ⟨x, e, r⟩ := h.ex; exact ⟨x, by rw [O b hne]; exact e, r⟩

section
variable {b c a : Nat} {kd n v : Int} {f : Bool} {st : Int}
theorem two_loop {S : St} {m : Mem} (h : Two b c S m) {k1 : Mem → Prop} {kr : Bool → Mem → Prop} (hk : k1 m) : ∀ (d : Nat) (i : Int), 18 ≤ i + d → -9223372036854775808 ≤ i → L16_26 b 0 c 0 a 0 (d + 1) i m k1 kr := by
  intro d
  induction d with
  | zero =>
    intro i h1 h2
    unfold L16_26 R16_26
    exact kif_f (by simp; omega) hk
  | succ d ih =>
    intro i h1 h2
    unfold L16_26 R16_26
    refine kif_c _ (fun c1 => ?_) fun _ => hk
    have c1 : i < 18 := by simpa using c1
    refine read_spec h.l h.ok (rread_spec h.r h.ok (kif_f (by simp) ?_))
    rw [wrap64 (by omega) (by omega)]
    exact ih (i + 1) (by omega) (by omega)

theorem same_all {S : St} {m : Mem} (h : Two b c S m) (ha : AskIs m a kd n v f st) {kr : Bool → Mem → Prop} (hk : kr true m) : P16_25103 b 0 c 0 a 0 m kr := by
  unfold P16_25103
  refine ⟨20, two_loop h ?_ 19 (-1) (by omega) (by omega)⟩
  have kin : ∀ F : Nat → Prop, KeepsIn F m m := fun F b _ _ => rfl
  refine ⟨fun _ => True, trivial, ldS_st h.l fun c64 h64 => ⟨trivial, ldS_st h.r fun c65 h65 => ?_⟩⟩
  rw [geq_st h64 h65 _ (by kernel_rfl), decide_eq_true (St.same_refl S)]
  simp only [Nat.reduceAdd, Nat.zero_add]
  refine kif_t rfl (user_spec h.l ⟨kin _, ruser_spec h.r ⟨kin _, kif_t (by simp) (pend_spec h.l ⟨kin _, rpend_spec h.r ⟨kin _, kif_t (by simp) (taken_spec h.l h.ok ⟨kin _, rtaken_spec h.r ⟨kin _, kif_t (by simp) ⟨trivial, ?_⟩⟩⟩)⟩⟩)⟩⟩)
  rw [ha.l1]
  refine read_spec h.l h.ok ⟨kin _, trivial, ?_⟩
  rw [ha.l1]
  refine rread_spec h.r h.ok ⟨kin _, ?_⟩
  rw [show (readS S n == readS S n) = true by simp]
  exact hk

theorem ask_go {S : St} {m : Mem} (h : Two b c S m) (ha : AskIs m a kd n v f st) (hba : b ≠ a) (hca : c ≠ a) {x : Int} {kr : Bool → Mem → Prop} {kn : Mem → Prop} (hk : ∀ m' S', Two b c S' m' → AskIs m' a kd n v f st → Rest2 b c m m' → kn m') : P16_18103 b 0 c 0 a 0 x m kr kn := by
  have key : ∀ y : Int, P16_20102 b 0 c 0 a 0 y m kr kn := by
    intro y
    unfold P16_20102
    refine go_spec h.l fun m1 i1 o1 => rgo_spec (h.r.only o1 h.ne.symm) fun m2 i2 o2 => kif_f (by simp) ?_
    exact hk m2 _ ⟨i1.only o2 h.ne, i2, h.ne, goS_ok h.ok y⟩ ((ha.only o1 hba.symm).only o2 hca.symm) (o1.rest.trans o2.rest')
  unfold P16_18103
  refine kif_c _ (fun _ => ?_) fun _ => kif_c _ (fun _ => ?_) fun _ => ?_ <;> exact key _

theorem ask_else {S : St} {m : Mem} (h : Two b c S m) (ha : AskIs m a kd n v f st) (hba : b ≠ a) (hca : c ≠ a) (hv0 : 0 ≤ v) (hv1 : v < 4294967296) {z : Bool} {kr : Bool → Mem → Prop} {kn : Mem → Prop} (hk : ∀ m' S', Two b c S' m' → AskIs m' a kd n v f st → Rest2 b c m m' → kn m') : P16_15004 b 0 c 0 a 0 kd z m kr kn := by
  unfold P16_15004
  simp only [Nat.reduceAdd, Nat.zero_add]
  refine kif_c _ (fun _ => ?_) fun _ => kif_c _ (fun _ => ?_) fun _ => ?_
  · rw [ha.l4, ha.l0]
    refine kif_c _ (fun _ => ?_) fun _ => ?_ <;> exact ask_go h ha hba hca hk
  · rw [ha.l3]
    refine line_spec h.l fun m1 i1 o1 => ?_
    have ha1 := ha.only o1 hba.symm
    rw [ha1.l3]
    refine rline_spec (h.r.only o1 h.ne.symm) fun m2 i2 o2 => hk m2 _ ⟨i1.only o2 h.ne, i2, h.ne, lineS_ok h.ok f⟩ (ha1.only o2 hca.symm) (o1.rest.trans o2.rest')
  · rw [ha.l1, ha.l2]
    refine write_spec h.l fun m1 i1 o1 => ?_
    have ha1 := ha.only o1 hba.symm
    rw [ha1.l1, ha1.l2]
    refine rwrite_spec (h.r.only o1 h.ne.symm) fun m2 i2 o2 => hk m2 _ ⟨i1.only o2 h.ne, i2, h.ne, writeS_ok h.ok hv0 hv1⟩ (ha1.only o2 hca.symm) (o1.rest.trans o2.rest')

theorem do_spec {S : St} {m : Mem} (h : Two b c S m) {x : Nat → AV} (h0 : x 0 = .flat (.int .i64 kd)) (h1 : x 1 = .flat (.int .i64 n)) (h2 : x 2 = .flat (.int .u32 v)) (h3 : x 3 = .flat (.bool f)) (h4 : x 4 = .flat (.int .i64 st)) (hv0 : 0 ≤ v) (hv1 : v < 4294967296) {k : Bool → Mem → Prop} (hk : ∀ m' S', Two b c S' m' → Rest2 b c m m' → k true m') : F16 b 0 c 0 x m k := by
  unfold F16
  refine newK_i fun a m1 hb2 K1 e2 O1 => ?_
  have h' : Two b c S m1 := ⟨h.l.keep K1, h.r.keep K1, h.ne, h.ok⟩
  have ha : AskIs m1 a kd n v f st := ⟨_, e2, rfl, h0, h1, h2, h3, h4⟩
  have hba : b ≠ a := fun e => by subst e; exact h.l.live hb2
  have hca : c ≠ a := fun e => by subst e; exact h.r.live hb2
  have fin : ∀ (m' : Mem) (S' : St), Two b c S' m' → AskIs m' a kd n v f st → Rest2 b c m1 m' → P16_25103 b 0 c 0 a 0 m' k := fun m' S' t ha' r => same_all t ha' (hk m' S' t (K1.rest.trans r))
  rw [ha.l0]
  have hc := and64_rng n 31 (by decide)
  have hc : 0 ≤ bits .and .i64 n 31 ∧ bits .and .i64 n 31 ≤ 31 := hc
  refine kif_c _ (fun _ => ?_) fun _ => kif_c _ (fun _ => ?_) fun _ => kif_c _ (fun _ => ?_) fun _ => kif_c _ (fun _ => ?_) fun _ => ?_
  · rw [ha.l1, ha.l3]
    refine enter_spec h'.l hc.1 (by omega) fun m2 i2 o2 => ?_
    have ha1 := ha.only o2 hba.symm
    rw [ha1.l1, ha1.l3]
    refine renter_spec (h'.r.only o2 h.ne.symm) hc.1 (by omega) fun m3 i3 o3 => ?_
    exact fin m3 _ ⟨i2.only o3 h.ne, i3, h.ne, enterS_ok h.ok _ _⟩ (ha1.only o3 hca.symm) (o2.rest.trans o3.rest')
  · rw [ha.l2, ha.l3]
    refine bad_spec h'.l fun m2 i2 o2 => ?_
    have ha1 := ha.only o2 hba.symm
    rw [ha1.l2, ha1.l3]
    refine rbad_spec (h'.r.only o2 h.ne.symm) fun m3 i3 o3 => ?_
    exact fin m3 _ ⟨i2.only o3 h.ne, i3, h.ne, badS_ok h.ok hv0 hv1 _⟩ (ha1.only o3 hca.symm) (o2.rest.trans o3.rest')
  · refine return_spec h'.l fun m2 i2 o2 => ?_
    have ha1 := ha.only o2 hba.symm
    refine rreturn_spec (h'.r.only o2 h.ne.symm) fun m3 i3 o3 => ?_
    exact fin m3 _ ⟨i2.only o3 h.ne, i3, h.ne, returnS_ok h.ok⟩ (ha1.only o3 hca.symm) (o2.rest.trans o3.rest')
  · exact ask_else h' ha hba hca hv0 hv1 fin
  · exact ask_else h' ha hba hca hv0 hv1 fin
end

/-! ### the closed sentence -/
/-- a list of four words in a block -/
def Four (m : Mem) (b : Nat) : Prop := ∃ x, m.obj b = some x ∧ x.n = 4 ∧ ∀ i, i < 4 → ∃ w : Int, x.c i = .flat (.int .u32 w) ∧ 0 ≤ w ∧ w < 4294967296
theorem Four.rest {m m' : Mem} {b c d : Nat} (h : Four m d) (R : Rest2 b c m m') (h1 : d ≠ b) (h2 : d ≠ c) : Four m' d := by
  obtain ⟨x, e, r⟩ := h
  exact ⟨x, by rw [R d h1 h2 (by rw [e]; simp)]; exact e, r⟩
theorem Four.at {m : Mem} {b : Nat} (h : Four m b) {i : Int} (h0 : 0 ≤ i) (h1 : i < 4) : ∃ w : Int, (∀ k : Int → Prop, ldI .u32 m b (0 + i.toNat * 1) k = k w) ∧ 0 ≤ w ∧ w < 4294967296 := by
  obtain ⟨x, e, hn, hc⟩ := h
  obtain ⟨w, ew, w0, w1⟩ := hc i.toNat (by omega)
  exact ⟨w, fun k => ldI_of e (by omega) (by rw [show 0 + i.toNat * 1 = i.toNat by omega]; exact ew), w0, w1⟩
theorem four_mk {m : Mem} {b : Nat} {x : Blk} (e : m.obj b = some x) (hn : x.n = 4) {w0 w1 w2 w3 : Int} (h0 : x.c 0 = .flat (.int .u32 w0)) (h1 : x.c 1 = .flat (.int .u32 w1)) (h2 : x.c 2 = .flat (.int .u32 w2)) (h3 : x.c 3 = .flat (.int .u32 w3))
    (r0 : 0 ≤ w0 ∧ w0 < 4294967296) (r1 : 0 ≤ w1 ∧ w1 < 4294967296) (r2 : 0 ≤ w2 ∧ w2 < 4294967296) (r3 : 0 ≤ w3 ∧ w3 < 4294967296) : Four m b := by
  refine ⟨x, e, hn, fun i hi => ?_⟩
  have : i = 0 ∨ i = 1 ∨ i = 2 ∨ i = 3 := by omega
  rcases this with rfl | rfl | rfl | rfl
  · exact ⟨_, h0, r0⟩
  · exact ⟨_, h1, r1⟩
  · exact ⟨_, h2, r2⟩
  · exact ⟨_, h3, r3⟩

section
variable {b c : Nat}
theorem n9 {d : Nat} (hdb : d ≠ b) (hdc : d ≠ c) {n : Int} {k2 : Mem → Prop} {kr : Bool → Mem → Prop} (hk : ∀ m S, Two b c S m → k2 m) : ∀ (r : Nat) (i : Int) (m : Mem) (S : St), 0 ≤ i → i + r = 4 → Two b c S m → Four m d → L5_9 b 0 c 0 n (.sl d 0 4 (.ex 4)) 4 (r + 1) i m k2 kr := by
  intro r
  induction r with
  | zero =>
    intro i m S h0 h1 h h4
    unfold L5_9 R5_9
    exact kif_f (by simp; omega) (hk m S h)
  | succ r ih =>
    intro i m S h0 h1 h h4
    unfold L5_9 R5_9
    refine kif_t (by simp; omega) (kif_ix h0 (by show i < 4; omega) ?_)
    obtain ⟨w, ew, w0, w1⟩ := h4.at h0 (by omega)
    rw [ew]
    refine do_spec h rfl rfl rfl rfl rfl w0 w1 fun m1 S1 t1 r1 => kif_f rfl ?_
    refine do_spec t1 rfl rfl rfl rfl rfl (by omega) (by omega) fun m2 S2 t2 r2 => kif_f rfl ?_
    rw [wrap64 (by omega) (by omega)]
    exact ih (i + 1) m2 S2 (by omega) (by omega) t2 ((h4.rest r1 hdb hdc).rest r2 hdb hdc)
theorem n6 {k0 : Mem → Prop} {kr : Bool → Mem → Prop} (hk : ∀ m S, Two b c S m → k0 m) : ∀ (r : Nat) (i : Int) (m : Mem) (S : St), -1 ≤ i → i + r = 18 → Two b c S m → L5_6 b 0 c 0 (r + 1) i m k0 kr := by
  intro r
  induction r with
  | zero =>
    intro i m S h0 h1 h
    unfold L5_6 R5_6
    exact kif_f (by simp; omega) (hk m S h)
  | succ r ih =>
    intro i m S h0 h1 h
    unfold L5_6 R5_6
    refine kif_t (by simp; omega) (newK_i fun d m1 hd K1 e1 O1 => ?_)
    refine ⟨5, n9 (fun e => by subst e; exact h.l.live hd) (fun e => by subst e; exact h.r.live hd) (fun m2 S2 t2 => ?_) 4 0 m1 S (by omega) (by omega) ⟨h.l.keep K1, h.r.keep K1, h.ne, h.ok⟩
      (four_mk e1 rfl rfl rfl rfl rfl (by omega) (by omega) (by omega) (by omega))⟩
    rw [wrap64 (by omega) (by omega)]
    exact ih (i + 1) m2 S2 (by omega) (by omega) t2
theorem n15 {k0 : Mem → Prop} {kr : Bool → Mem → Prop} (hk : ∀ m S, Two b c S m → k0 m) : ∀ (r : Nat) (i : Int) (m : Mem) (S : St), 0 ≤ i → i + r = 200 → Two b c S m → L5_15 b 0 c 0 (r + 1) i m k0 kr := by
  intro r
  induction r with
  | zero =>
    intro i m S h0 h1 h
    unfold L5_15 R5_15
    exact kif_f (by simp; omega) (hk m S h)
  | succ r ih =>
    intro i m S h0 h1 h
    unfold L5_15 R5_15
    refine kif_t (by simp; omega) ?_
    rw [tmod_nn h0]
    refine newK_i fun d m1 hd K1 e1 O1 => kif_ix (by omega) (by omega) ?_
    have hreg : ∃ g : Int, upd (upd (upd (upd (upd (upd (Z6) 0 (.flat (.int .i64 12))) 1 (.flat (.int .i64 13))) 2 (.flat (.int .i64 9))) 3 (.flat (.int .i64 11))) 4 (.flat (.int .i64 14))) 5 (.flat (.int .i64 10)) (0 + (i % 6).toNat * 1) = AV.flat (.int .i64 g) := by
      have : i % 6 = 0 ∨ i % 6 = 1 ∨ i % 6 = 2 ∨ i % 6 = 3 ∨ i % 6 = 4 ∨ i % 6 = 5 := by omega
      rcases this with e | e | e | e | e | e <;> rw [e] <;> exact ⟨_, rfl⟩
    obtain ⟨g, hg⟩ := hreg
    rw [ldI_of e1 (by show 0 + (i % 6).toNat * 1 < 6; omega) hg]
    refine boxN fun a m2 x ha K2 ea hn hro hc => ?_
    have K12 : Keeps m m2 := K1.trans K2
    have t2 : Two b c S m2 := ⟨h.l.keep K12, h.r.keep K12, h.ne, h.ok⟩
    have ha0 : m.obj a = none := newK_none K1 ha
    have hba : b ≠ a := fun e => by subst e; exact h.l.live ha0
    have hca : c ≠ a := fun e => by subst e; exact h.r.live ha0
    have hw := wrap32_rng (IntKind.wrap .u32 i * 16777619)
    have last : ∀ (m3 : Mem) (S3 : St) (k1 : Mem → Prop), Two b c S3 m3 → m3.obj a = some x → (∀ m4 S4, Two b c S4 m4 → k1 m4) → P5_20102 b 0 c 0 i a 0 m3 kr k1 := by
      intro m3 S3 k1 t3 e3 hk1
      unfold P5_20102
      rw [ldG_of e3 (by omega)]
      have hs := fun j (hj : j < 5) => (show sub x.c 0 5 j = x.c j by simp only [sub]; rw [if_pos hj, Nat.zero_add]).trans (hc j hj)
      exact do_spec t3 (hs 0 (by omega)) (hs 1 (by omega)) (hs 2 (by omega)) (hs 3 (by omega)) (hs 4 (by omega)) hw.1 hw.2 fun m4 S4 t4 r4 => kif_f rfl (hk1 m4 S4 t4)
    refine kif_c _ (fun _ => ?_) fun _ => ?_
    · refine stB_st t2.l (by omega) rfl fun m3 i3 o3 => stB_st (t2.r.only o3 h.ne.symm) (by omega) rfl fun m4 i4 o4 => ?_
      refine last m4 _ _ ⟨i3.only o4 h.ne, i4, h.ne, putP_ok h.ok⟩ (by rw [o4 a hca.symm, o3 a hba.symm]; exact ea) fun m5 S5 t5 => ?_
      rw [wrap64 (by omega) (by omega)]
      exact ih (i + 1) m5 S5 (by omega) (by omega) t5
    · refine last m2 _ _ t2 ea fun m5 S5 t5 => ?_
      rw [wrap64 (by omega) (by omega)]
      exact ih (i + 1) m5 S5 (by omega) (by omega) t5
theorem n26 {d : Nat} (hdb : d ≠ b) (hdc : d ≠ c) {w j : Int} (w0 : 0 ≤ w) (w1 : w < 4294967296) {k8 : Mem → Prop} {kr : Bool → Mem → Prop} (hk : ∀ m S, Two b c S m → Four m d → k8 m) : ∀ (r : Nat) (i : Int) (m : Mem) (S : St), 0 ≤ i → i + r = 8 → Two b c S m → Four m d → L5_26 b 0 c 0 w (.sl d 0 4 (.ex 4)) 4 j (r + 1) i m k8 kr := by
  intro r
  induction r with
  | zero =>
    intro i m S h0 h1 h h4
    unfold L5_26 R5_26
    exact kif_f (by simp; omega) (hk m S h h4)
  | succ r ih =>
    intro i m S h0 h1 h h4
    unfold L5_26 R5_26
    refine kif_t (by simp; omega) (fresh_spec fun x1 g1 => rfresh_spec fun x2 g2 => ?_)
    obtain ⟨y1, e1, q1, q2, q3⟩ := h.l
    refine stS_st e1 q1 q2 g1 fun m1 i1 o1 => ?_
    obtain ⟨y2, e2, q4, q5, q6⟩ := h.r.only o1 h.ne.symm
    refine stS_st e2 q4 q5 g2 fun m2 i2 o2 => ?_
    have t2 : Two b c St0 m2 := ⟨i1.only o2 h.ne, i2, h.ne, St0_ok⟩
    have f2 : Four m2 d := (h4.rest (o1.rest (c := c)) hdb hdc).rest (o2.rest' (b := b)) hdb hdc
    have hw := wrap32_rng (4294967293 + w)
    refine do_spec t2 rfl rfl rfl rfl rfl (by omega) (by omega) fun m3 S3 t3 r3 => kif_f rfl ?_
    refine do_spec t3 rfl rfl rfl rfl rfl hw.1 hw.2 fun m4 S4 t4 r4 => kif_f rfl ?_
    refine do_spec t4 rfl rfl rfl rfl rfl (by omega) (by omega) fun m5 S5 t5 r5 => kif_f rfl ?_
    rw [wrap64 (by omega) (by omega)]
    exact ih (i + 1) m5 S5 (by omega) (by omega) t5 (((f2.rest r3 hdb hdc).rest r4 hdb hdc).rest r5 hdb hdc)
theorem n23 {d : Nat} (hdb : d ≠ b) (hdc : d ≠ c) {k6 : Mem → Prop} {kr : Bool → Mem → Prop} (hk : ∀ m, k6 m) : ∀ (r : Nat) (i : Int) (m : Mem) (S : St), 0 ≤ i → i + r = 4 → Two b c S m → Four m d → L5_23 b 0 c 0 (.sl d 0 4 (.ex 4)) 4 (r + 1) i m k6 kr := by
  intro r
  induction r with
  | zero =>
    intro i m S h0 h1 h h4
    unfold L5_23 R5_23
    exact kif_f (by simp; omega) (hk m)
  | succ r ih =>
    intro i m S h0 h1 h h4
    unfold L5_23 R5_23
    refine kif_t (by simp; omega) (kif_ix h0 (by show i < 4; omega) ?_)
    obtain ⟨w, ew, w0, w1⟩ := h4.at h0 (by omega)
    rw [ew]
    refine ⟨9, n26 hdb hdc w0 w1 (fun m1 S1 t1 f1 => ?_) 8 0 m S (by omega) (by omega) h h4⟩
    rw [wrap64 (by omega) (by omega)]
    exact ih (i + 1) m1 S1 (by omega) (by omega) t1 f1
end

theorem write_nil {n v : Int} {m : Mem} {k : Mem → Prop} (hk : k m) : F7 (.flat (.pointer none)) n v m k := by
  delta F7; exact hk
theorem enter_nil {n : Int} {r : Bool} {m : Mem} {k : Mem → Prop} (hk : k m) : F11 (.flat (.pointer none)) n r m k := by
  delta F11; exact hk
theorem go_nil {n : Int} {m : Mem} {k : Bool → Mem → Prop} (hk : k false m) : F8 (.flat (.pointer none)) n m k := by
  delta F8; exact hk
theorem user_nil {m : Mem} {k : Bool → Mem → Prop} (hk : k false m) : F12 (.flat (.pointer none)) m k := by
  delta F12; exact ⟨Keeps.self m, hk⟩
theorem read_nil {n : Int} {m : Mem} {k : Int → Mem → Prop} (hk : k 0 m) : F17 (.flat (.pointer none)) n m k := by
  delta F17 P17_2004; exact ⟨Keeps.self m, hk⟩
theorem Cp0Numbers {m : Mem} : F5 m isTrue := by
  unfold F5
  refine fresh_spec fun c1 h1 => newS h1 fun b m5 hb K5 O5 i5 => rfresh_spec fun c6 h6 => newS h6 fun c m10 hc K10 O10 i10 => ?_
  have hne : b ≠ c := fun e => by subst e; exact i5.live hc
  have t : Two b c St0 m10 := ⟨i5.keep K10, i10, hne, St0_ok⟩
  refine ldS_st t.l fun c11 h11 => ldS_st t.r fun c12 h12 => ?_
  rw [geq_st h11 h12 _ (by kernel_rfl), decide_eq_true (St.same_refl St0)]
  refine kif_f rfl ⟨20, n6 (fun m29 S29 t29 => ?_) 19 (-1) m10 St0 (by omega) (by omega) t⟩
  refine ⟨201, n15 (fun m50 S50 t50 => ?_) 200 0 m29 S29 (by omega) (by omega) t29⟩
  refine newK_i fun d m54 hd K e O => ?_
  refine ⟨5, n23 (fun e => by subst e; exact t50.l.live hd) (fun e => by subst e; exact t50.r.live hd) (fun m77 => ?_) 4 0 m54 S50 (by omega) (by omega) ⟨t50.l.keep K, t50.r.keep K, hne, t50.ok⟩
    (four_mk e rfl rfl rfl rfl rfl (by omega) (by omega) (by omega) (by omega))⟩
  exact write_nil (enter_nil (go_nil (kif_t rfl (user_nil (kif_t rfl (read_nil (kif_t rfl (known6 rfl))))))))

end Go.Proofs.Ytckhobljijpfpaa.Am
