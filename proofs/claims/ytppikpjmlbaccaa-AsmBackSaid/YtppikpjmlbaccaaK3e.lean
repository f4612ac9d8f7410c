/- The reference of chapter 3: Right, Word, Of are the program's. Conditions: instructions are plain data. -/
import Derived.Test.YtppikpjmlbaccaaK3d
namespace Go.Proofs.Ytppikpjmlbaccaa.Am
set_option linter.unusedVariables false
set_option linter.unusedSimpArgs false
set_option maxRecDepth 100000

/-! ### rows, plainly -/
def midR (r : Row) : Int :=
  if r.op = 0 ∨ r.op = 28 then IntKind.wrap .u32 r.sub
  else if r.op = 1 then IntKind.wrap .u32 (IntKind.wrap .u32 r.sub * 65536)
  else if r.op = 16 then if r.sub ≥ 64 then orI 33554432 (IntKind.wrap .u32 (IntKind.wrap .i64 (r.sub - 64))) else IntKind.wrap .u32 (IntKind.wrap .u32 r.sub * 2097152)
  else 0
def rowOK (r : Row) : Bool := decide (0 < r.kd) && decide (r.kd < 78) && decide (r.f.size < 1000) && (hasS r.f 115 == hasM (fl r.kd) 1) && (hasS r.f 116 == hasM (fl r.kd) 2) && (hasS r.f 100 == hasM (fl r.kd) 4) && (hasS r.f 104 == hasM (fl r.kd) 8) && (hasS r.f 105 == hasM (fl r.kd) 16) && (hasS r.f 106 == hasM (fl r.kd) 32) &&
  decide (headS r.kd = orI (IntKind.wrap .u32 (IntKind.wrap .u32 r.op * 67108864)) (midR r))
structure RowOK (r : Row) : Prop where
  k0 : 0 < r.kd
  k1 : r.kd < 78
  z : r.f.size < 1000
  s : hasS r.f 115 = hasM (fl r.kd) 1
  t : hasS r.f 116 = hasM (fl r.kd) 2
  d : hasS r.f 100 = hasM (fl r.kd) 4
  h : hasS r.f 104 = hasM (fl r.kd) 8
  i : hasS r.f 105 = hasM (fl r.kd) 16
  j : hasS r.f 106 = hasM (fl r.kd) 32
  w : headS r.kd = orI (IntKind.wrap .u32 (IntKind.wrap .u32 r.op * 67108864)) (midR r)
theorem rowOK_of {r : Row} (h : rowOK r = true) : RowOK r := by
  unfold rowOK at h
  simp only [Bool.and_eq_true, decide_eq_true_eq, beq_iff_eq] at h
  obtain ⟨⟨⟨⟨⟨⟨⟨⟨⟨a1, a2⟩, a3⟩, a4⟩, a5⟩, a6⟩, a7⟩, a8⟩, a9⟩, a10⟩ := h
  exact ⟨a1, a2, a3, a4, a5, a6, a7, a8, a9, a10⟩
theorem rows_all : (T0 ++ (T1 ++ T2)).all rowOK = true := by decide +kernel
theorem row_mem {r : Row} (h : r ∈ T0 ++ (T1 ++ T2)) : RowOK r := rowOK_of (List.all_eq_true.1 rows_all r h)
theorem findR_ok {kd : Int} {r : Row} (h : findR kd = some r) : RowOK r ∧ r.kd = kd :=
  ⟨row_mem (List.mem_of_find?_eq_some h), by simpa using List.find?_some h⟩
theorem findR_some : ∀ n, n < 78 → 0 < n → (findR (n : Nat)).isSome = true := by decide +kernel
theorem rowAt_ok {op sub : Int} {r : Row} (h : rowAt op sub = some r) : RowOK r ∧ r.op = op ∧ r.sub = sub := by
  have := List.find?_some h
  simp at this
  refine ⟨row_mem ?_, this.1, this.2⟩
  have hm := List.mem_of_find?_eq_some h
  unfold rowsOf at hm
  split at hm
  · exact List.mem_append_left _ hm
  · split at hm
    · exact List.mem_append_right _ (List.mem_append_right _ hm)
    · exact List.mem_append_right _ (List.mem_append_left _ hm)

/-! ### Right -/
def smallS (n : Int) (b : Bool) : Bool := decide (n = 0) || (b && (decide (n > 0) && decide (n < 32)))
def rightRow (x : In) (r : Row) : Bool := smallS x.s (hasS r.f 115) && (smallS x.t (hasS r.f 116) && (smallS x.d (hasS r.f 100) && (smallS x.h (hasS r.f 104) && decide (x.i ≤ if hasS r.f 105 = true then 65535 else if hasS r.f 106 = true then 67108863 else 0))))
def rightR (x : In) : Bool := match findR x.k with
  | some r => rightRow x r
  | none => false
theorem small_iff (n : Int) (b : Bool) : smallS n b = true ↔ (0 ≤ n ∧ n < 32 ∧ (b = false → n = 0)) := by
  unfold smallS
  cases b with
  | true => simp; omega
  | false => simp; omega
theorem rightR_eq (x : In) (hi : 0 ≤ x.i) : rightR x = rightS x := by
  rw [Bool.eq_iff_iff, right_iff x hi]
  unfold rightR
  constructor
  · intro h
    split at h
    · rename_i r hr
      obtain ⟨R, e⟩ := findR_ok hr
      unfold rightRow at h
      rw [R.s, R.t, R.d, R.h, R.i, R.j, e] at h
      simp only [Bool.and_eq_true, small_iff, decide_eq_true_eq] at h
      obtain ⟨⟨s0, s1, s2⟩, ⟨t0, t1, t2⟩, ⟨d0, d1, d2⟩, ⟨h0, h1, h2⟩, i1⟩ := h
      exact ⟨by have := R.k0; omega, by have := R.k1; omega, s0, s1, s2, t0, t1, t2, d0, d1, d2, h0, h1, h2, hi, by unfold most; exact i1⟩
    · cases h
  · intro h
    have hs := findR_some x.k.toNat (by have := h.k0; have := h.k1; omega) (by have := h.k0; omega)
    rw [show ((x.k.toNat : Nat) : Int) = x.k by have := h.k0; omega] at hs
    obtain ⟨r, hr⟩ := Option.isSome_iff_exists.1 hs
    rw [hr]
    obtain ⟨R, e⟩ := findR_ok hr
    show rightRow x r = true
    unfold rightRow
    rw [R.s, R.t, R.d, R.h, R.i, R.j, e]
    simp only [Bool.and_eq_true, small_iff, decide_eq_true_eq]
    exact ⟨⟨h.s0, h.s1, h.s2⟩, ⟨h.t0, h.t1, h.t2⟩, ⟨h.d0, h.d1, h.d2⟩, ⟨h.h0, h.h1, h.h2⟩, by have := h.i1; unfold most at this; exact this⟩

section
variable {m : Mem} {c : Nat → AV} {x : In}
theorem small_spec {n : Int} {b : Bool} {k : Bool → Mem → Prop} (hk : k (smallS n b) m) : F32 n b m k := by
  unfold F32
  unfold smallS at hk
  refine kif_c _ (fun c => ?_) fun c => ?_
  · have c : n = 0 := by simpa using c
    rw [decide_eq_true c] at hk; exact ⟨Keeps.self m, hk⟩
  have c : ¬ n = 0 := by simpa using c
  rw [decide_eq_false c] at hk
  cases b with
  | false => exact kif_f rfl ⟨Keeps.self m, hk⟩
  | true =>
    refine kif_t rfl (kif_c _ (fun c1 => ?_) fun c1 => ?_)
    · rw [c1] at hk; exact ⟨Keeps.self m, hk⟩
    · rw [c1] at hk; exact ⟨Keeps.self m, hk⟩

theorem rright_10 {b : Nat} (i : InB m b x) {r : Row} (R : RowOK r) {mo : Int} {k : Bool → Mem → Prop} (hk : k (smallS x.s (hasS r.f 115) && (smallS x.t (hasS r.f 116) && (smallS x.d (hasS r.f 100) && (smallS x.h (hasS r.f 104) && decide (x.i ≤ mo))))) m) : P22_10102 b 0 r.f mo m k := by
  unfold P22_10102
  simp only [Nat.zero_add]
  have kin : ∀ F : Nat → Prop, KeepsIn F m m := fun F b _ _ => rfl
  refine ⟨fun b' => b' = b, rfl, ?_⟩
  rw [i.l1]
  refine has_spec R.z ⟨kin _, small_spec ⟨kin _, kif_c _ (fun c => ⟨rfl, ?_⟩) fun c => ?_⟩⟩
  · rw [c] at hk
    rw [i.l2]
    refine has_spec R.z ⟨kin _, small_spec ⟨kin _, kif_c _ (fun c => ⟨rfl, ?_⟩) fun c => ?_⟩⟩
    · rw [c] at hk
      rw [i.l3]
      refine has_spec R.z ⟨kin _, small_spec ⟨kin _, kif_c _ (fun c => ⟨rfl, ?_⟩) fun c => ?_⟩⟩
      · rw [c] at hk
        rw [i.l4]
        refine has_spec R.z ⟨kin _, small_spec ⟨kin _, kif_c _ (fun c => ⟨rfl, ?_⟩) fun c => ?_⟩⟩
        · rw [c] at hk
          rw [i.l5]
          exact hk
        · rw [c] at hk; exact hk
      · rw [c] at hk; exact hk
    · rw [c] at hk; exact hk
  · rw [c] at hk; exact hk

theorem rright_spec (hc : InC c x) (hi : 0 ≤ x.i) {k : Bool → Mem → Prop} (hk : k (rightS x) m) : F22 c m k := by
  rw [← rightR_eq x hi] at hk
  unfold F22
  unfold rightR at hk
  refine newI hc fun b m1 hb K i O => ?_
  rw [i.l0]
  refine find_spec (fun hn c hr => ?_) fun r c hs hr => ?_
  · refine boxN fun b8 m9 y hb8 K9 ey _ _ _ => kif_t rfl ?_
    rw [hn] at hk
    exact ⟨K.trans K9, hk⟩
  · rw [hs] at hk
    have hk : k (rightRow x r) m := hk
    obtain ⟨R, e⟩ := findR_ok hs
    refine boxN fun b8 m9 y hb8 K9 ey yn yr yc => kif_f rfl ?_
    have B : RowB m9 b8 r := ⟨y, ey, yn, yr, (yc 0 (by omega)).trans hr.1, (yc 1 (by omega)).trans hr.2.1, (yc 2 (by omega)).trans hr.2.2.1, (yc 3 (by omega)).trans hr.2.2.2⟩
    have i9 := i.keep K9
    have K19 := K.trans K9
    rw [B.l3]
    unfold rightRow at hk
    refine has_spec R.z (kif_c _ (fun c1 => ?_) fun c1 => has_spec R.z (kif_c _ (fun c2 => ?_) fun c2 => ?_))
    · rw [c1, if_pos rfl] at hk; exact rright_10 i9 R ⟨K19, hk⟩
    · rw [c1, if_neg (by simp), c2, if_pos rfl] at hk; exact rright_10 i9 R ⟨K19, hk⟩
    · rw [c1, if_neg (by simp), c2, if_neg (by simp)] at hk; exact rright_10 i9 R ⟨K19, hk⟩

/-! ### Word -/
theorem rword_spec (hc : InC c x) (hi : 0 ≤ x.i) {k : Int → Bool → Mem → Prop} (hk : k (wordS x).1 (wordS x).2 m) : F17 c m k := by
  unfold F17
  refine newI hc fun b m1 hb K i O => i.lg fun c3 h3 => rright_spec h3 hi ?_
  unfold wordS at hk
  cases hr : rightS x with
  | false => rw [hr] at hk; exact kif_t rfl ⟨K, hk⟩
  | true =>
    rw [hr, if_pos rfl] at hk
    have ok := (right_iff x hi).1 hr
    refine kif_f rfl ?_
    rw [i.l0]
    refine find_spec (fun hn c hr => ?_) fun r c hs hr => ?_
    · have hs := findR_some x.k.toNat (by have := ok.k0; have := ok.k1; omega) (by have := ok.k0; omega)
      rw [show ((x.k.toNat : Nat) : Int) = x.k by have := ok.k0; omega, hn] at hs; cases hs
    obtain ⟨R, e⟩ := findR_ok hs
    refine boxN fun b8 m9 y hb8 K9 ey yn yr yc => ?_
    have B : RowB m9 b8 r := ⟨y, ey, yn, yr, (yc 0 (by omega)).trans hr.1, (yc 1 (by omega)).trans hr.2.1, (yc 2 (by omega)).trans hr.2.2.1, (yc 3 (by omega)).trans hr.2.2.2⟩
    have i9 := i.keep K9
    have K19 := K.trans K9
    rw [B.l0, i9.l1, i9.l2, i9.l3, i9.l4, i9.l5, B.l0]
    -- the word in the reference's order
    have key : ∀ v, v = orI (orI (orI (orI (orI (orI (IntKind.wrap .u32 (IntKind.wrap .u32 r.op * 67108864)) (IntKind.wrap .u32 (IntKind.wrap .u32 x.s * 2097152))) (IntKind.wrap .u32 (IntKind.wrap .u32 x.t * 65536))) (IntKind.wrap .u32 (IntKind.wrap .u32 x.d * 2048))) (IntKind.wrap .u32 (IntKind.wrap .u32 x.h * 64))) x.i) (midR r) → k v true m := fun v hv => by
      have : v = orI (headS x.k) (putS x) := by
        rw [hv, ← e, R.w]
        unfold putS
        generalize IntKind.wrap .u32 (IntKind.wrap .u32 r.op * 67108864) = A
        generalize IntKind.wrap .u32 (IntKind.wrap .u32 x.s * 2097152) = s
        generalize IntKind.wrap .u32 (IntKind.wrap .u32 x.t * 65536) = t
        generalize IntKind.wrap .u32 (IntKind.wrap .u32 x.d * 2048) = d
        generalize IntKind.wrap .u32 (IntKind.wrap .u32 x.h * 64) = h
        generalize midR r = M
        have q : orI (orI (orI (orI (orI A s) t) d) h) x.i = orI A (orI (orI (orI (orI s t) d) h) x.i) := by simp only [orI_assoc]
        rw [q, orI_assoc, orI_comm _ M, ← orI_assoc]
      rw [this]; exact hk
    have hw := orI_rng (orI (orI (orI (orI (IntKind.wrap .u32 (IntKind.wrap .u32 r.op * 67108864)) (IntKind.wrap .u32 (IntKind.wrap .u32 x.s * 2097152))) (IntKind.wrap .u32 (IntKind.wrap .u32 x.t * 65536))) (IntKind.wrap .u32 (IntKind.wrap .u32 x.d * 2048))) (IntKind.wrap .u32 (IntKind.wrap .u32 x.h * 64))) x.i
    have key6 : ∀ q : Bool, decide (r.op = 0 ∨ r.op = 28) = q → P17_6004 b8 0 (orI (orI (orI (orI (orI (IntKind.wrap .u32 (IntKind.wrap .u32 r.op * 67108864)) (IntKind.wrap .u32 (IntKind.wrap .u32 x.s * 2097152))) (IntKind.wrap .u32 (IntKind.wrap .u32 x.t * 65536))) (IntKind.wrap .u32 (IntKind.wrap .u32 x.d * 2048))) (IntKind.wrap .u32 (IntKind.wrap .u32 x.h * 64))) x.i) q m9 (fun x33 m34 => (Keeps m m34 ∧ k x33 true m)) := by
      intro q hq
      generalize orI (orI (orI (orI (orI (IntKind.wrap .u32 (IntKind.wrap .u32 r.op * 67108864)) (IntKind.wrap .u32 (IntKind.wrap .u32 x.s * 2097152))) (IntKind.wrap .u32 (IntKind.wrap .u32 x.t * 65536))) (IntKind.wrap .u32 (IntKind.wrap .u32 x.d * 2048))) (IntKind.wrap .u32 (IntKind.wrap .u32 x.h * 64))) x.i = w at key hw
      unfold P17_6004
      simp only [Nat.zero_add]
      unfold midR at key
      refine kif_c _ (fun c1 => ?_) fun c1 => ?_
      · rw [c1] at hq
        have hq : r.op = 0 ∨ r.op = 28 := by simpa using hq
        rw [if_pos hq] at key
        rw [B.l1]; exact ⟨K19, key _ rfl⟩
      rw [c1] at hq
      have hq : ¬ (r.op = 0 ∨ r.op = 28) := by simpa using hq
      rw [if_neg hq] at key
      rw [B.l0]
      refine kif_c _ (fun c2 => ?_) fun c2 => ?_
      · rw [if_pos (by simpa using c2)] at key
        rw [B.l1]; exact ⟨K19, key _ rfl⟩
      rw [if_neg (by simpa using c2)] at key
      rw [B.l0]
      refine kif_c _ (fun c3 => ?_) fun c3 => ?_
      · rw [if_pos (by simpa using c3)] at key
        rw [B.l1]
        unfold P17_10004
        simp only [Nat.zero_add]
        refine kif_c _ (fun c4 => ?_) fun c4 => ?_
        · rw [if_pos (by simpa using c4)] at key
          rw [B.l1]; exact ⟨K19, key _ (orI_assoc _ _ _)⟩
        · rw [if_neg (by simpa using c4)] at key
          rw [B.l0]
          refine kif_t c3 ?_
          rw [B.l1]; exact ⟨K19, key _ rfl⟩
      · rw [if_neg (by simpa using c3), orI_0r hw] at key
        unfold P17_10004
        simp only [Nat.zero_add]
        refine kif_f rfl ?_
        rw [B.l0]
        exact kif_f c3 ⟨K19, key _ rfl⟩
    refine kif_c _ (fun c1 => key6 true (by have : r.op = 0 := by simpa using c1
                                            simp [this])) fun c1 => ?_
    rw [B.l0]
    refine key6 _ ?_
    have : ¬ r.op = 0 := by simpa using c1
    rw [Bool.eq_iff_iff]; simp [this]

/-! ### Of -/
theorem sub_spec {w : Int} (w0 : 0 ≤ w) (w1 : w < 4294967296) {k : Int → Mem → Prop} (hk : k (subOf w) m) : F25 w m k := by
  unfold F25
  rw [fdiv_w w 67108864 (by decide), fdiv_w w 65536 (by decide), fdiv_w w 2097152 (by decide), and63 w w0 w1, and31 _ (by omega) (by omega), and31 _ (by omega) (by omega), wrap64 (by omega) (by omega), wrap64 (n := w / 65536 % 32) (by omega) (by omega), wrap64 (n := w / 2097152 % 32) (by omega) (by omega)]
  unfold subOf at hk
  have key : ∀ q : Bool, decide (w / 67108864 = 0 ∨ w / 67108864 = 28) = q → P25_5004 (w % 64) (w / 65536 % 32) (w / 2097152 % 32) (w / 67108864) q m (fun x1 m2 => (Keeps m m2 ∧ k x1 m)) (fun m3 => (Keeps m m3 ∧ k 0 m)) := by
    intro q hq
    unfold P25_5004
    refine kif_c _ (fun c => ?_) fun c => ?_
    · rw [c] at hq; rw [if_pos (by simpa using hq)] at hk; exact ⟨Keeps.self m, hk⟩
    rw [c] at hq; rw [if_neg (by simpa using hq)] at hk
    refine kif_c _ (fun c => ?_) fun c => ?_
    · rw [if_pos (by simpa using c)] at hk; exact ⟨Keeps.self m, hk⟩
    rw [if_neg (by simpa using c)] at hk
    refine kif_c _ (fun c => ?_) fun c => ?_
    · rw [if_pos (by simpa using c)] at hk
      refine kif_c _ (fun c => ?_) fun c => ?_
      · rw [if_pos (by simpa using c)] at hk
        rw [wrap64 (by omega) (by omega)]; exact ⟨Keeps.self m, hk⟩
      · rw [if_neg (by simpa using c)] at hk; exact ⟨Keeps.self m, hk⟩
    · rw [if_neg (by simpa using c)] at hk; exact ⟨Keeps.self m, hk⟩
  refine kif_c _ (fun c => key _ ?_) fun c => key _ ?_
  · have c' : w / 67108864 = 0 := by simpa using c
    rw [c]; simp [c']
  · have c' : ¬ w / 67108864 = 0 := by simpa using c
    rw [Bool.eq_iff_iff]; simp [c']

theorem rows_spec {op : Int} {k : AV → Mem → Prop} (hk : ∀ v m', Keeps m m' → RowsV m' v (rowsOf op) → k v m') : F24 op m k := by
  unfold F24
  unfold rowsOf at hk
  refine kif_c _ (fun c => ?_) fun c => ?_
  · rw [if_pos (by simpa using c)] at hk; exact special_v hk
  have c0 : ¬ op = 0 := by simpa using c
  rw [if_neg c0] at hk
  have key : ∀ q : Bool, decide (op = 1 ∨ op = 16 ∨ op = 28) = q → P24_4004 q m (fun v5 m6 => k v5 m6) (fun m7 => P24_5102 m7 (fun v16 m17 => k v16 m17)) := by
    intro q hq
    unfold P24_4004
    refine kif_c _ (fun c => ?_) fun c => ?_
    · rw [c] at hq; rw [if_pos (by simpa using hq)] at hk; exact others_v hk
    · rw [c] at hq; rw [if_neg (by simpa using hq)] at hk
      unfold P24_5102
      exact plain_v hk
  refine kif_c _ (fun c => key _ ?_) fun c => kif_c _ (fun c1 => key _ ?_) fun c1 => key _ ?_
  · have c : op = 1 := by simpa using c
    simp [c]
  · have c1 : op = 16 := by simpa using c1
    simp [c1]
  · have c : ¬ op = 1 := by simpa using c
    have c1 : ¬ op = 16 := by simpa using c1
    rw [Bool.eq_iff_iff]; simp [c, c1]

/-- the fields of a row, put into the box -/
theorem rof_10 {b2 b12 b21 : Nat} {w : Int} (w0 : 0 ≤ w) (w1 : w < 4294967296) {r : Row} (R : RowOK r) {kr : Mem → Prop} {z : In} (i2 : InB m b2 z) (B : RowB m b12 r) {x : In} (i : InB m b21 x) (hx : x.k = r.kd ∧ x.s = (withS r.kd w).s ∧ x.t = 0 ∧ x.d = 0 ∧ x.h = 0 ∧ x.i = 0)
    {m0 : Mem} (K : Keeps m0 m) (hb2 : m0.obj b2 = none) (hb12 : m0.obj b12 = none) (hb21 : m0.obj b21 = none) (n1 : b2 ≠ b21) (n2 : b12 ≠ b21)
    (hk : ∀ m', InB m' b2 (withS r.kd w) → Keeps m0 m' → kr m') : P18_10103 w b2 0 b12 0 b21 0 m kr := by
  have Bo : ∀ {m m' : Mem}, RowB m b12 r → Only m b21 m' → RowB m' b12 r := fun h O => by obtain ⟨y, e, q⟩ := h; exact ⟨y, by rw [O b12 n2]; exact e, q⟩
  have sh := fl_sh r.kd (by have := R.k0; omega) R.k1
  obtain ⟨hk0, hs, ht, hd, hh, hi⟩ := hx
  have last : ∀ (m : Mem) (y : In), InB m b2 z → InB m b21 y → Keeps m0 m → y = withS r.kd w → (ldG 6 m b21 0 fun c14 => stG 6 m b2 0 c14 fun m15 => kr m15) := fun m y j2 j K e => by
    subst e
    exact j.lg fun c hc => j2.sg hc fun m2 k2 o2 => hk m2 k2 (Only.keeps K hb2 o2)
  have eqI : ∀ (y : In), y.k = r.kd → y.s = (withS r.kd w).s → y.t = (withS r.kd w).t → y.d = (withS r.kd w).d → y.h = (withS r.kd w).h → y.i = (withS r.kd w).i → y = withS r.kd w := fun y a b c d e f => by
    cases y; unfold withS at *; simp at *; exact ⟨a, b, c, d, e, f⟩
  have p18 : ∀ (m : Mem) (y : In), InB m b2 z → RowB m b12 r → InB m b21 y → Keeps m0 m → y.k = r.kd → y.s = (withS r.kd w).s → y.t = (withS r.kd w).t → y.d = (withS r.kd w).d → y.h = (withS r.kd w).h → (hasM (fl r.kd) 32 = false → y.i = (withS r.kd w).i) → P18_18103 w b2 0 b12 0 b21 0 m kr := fun m y j2 B j K a1 a2 a3 a4 a5 a6 => by
    unfold P18_18103
    simp only [Nat.zero_add]
    rw [B.l3]
    refine has_spec R.z (kif_c _ (fun c => ?_) fun c => ?_)
    · rw [R.j] at c
      rw [and26 w w0 w1]
      refine j.s5 fun m2 k2 o2 => last m2 _ (j2.only o2 n1) k2 (Only.keeps K hb21 o2) (eqI _ a1 a2 a3 a4 a5 ?_)
      unfold withS; dsimp only
      rw [if_neg (by rw [(sh.2 c).2.2.2.2]; simp), if_pos c]
    · rw [R.j] at c
      exact last m y j2 j K (eqI _ a1 a2 a3 a4 a5 (a6 c))
  have p16 : ∀ (m : Mem) (y : In), InB m b2 z → RowB m b12 r → InB m b21 y → Keeps m0 m → y.k = r.kd → y.s = (withS r.kd w).s → y.t = (withS r.kd w).t → y.d = (withS r.kd w).d → y.h = (withS r.kd w).h → y.i = 0 → P18_16103 w b2 0 b12 0 b21 0 m kr := fun m y j2 B j K a1 a2 a3 a4 a5 a6 => by
    unfold P18_16103
    simp only [Nat.zero_add]
    rw [B.l3]
    refine has_spec R.z (kif_c _ (fun c => ?_) fun c => ?_)
    · rw [R.i] at c
      rw [and16 w w0 w1]
      refine j.s5 fun m2 k2 o2 => p18 m2 _ (j2.only o2 n1) (Bo B o2) k2 (Only.keeps K hb21 o2) a1 a2 a3 a4 a5 fun _ => ?_
      unfold withS; dsimp only
      rw [if_pos c]
    · rw [R.i] at c
      refine p18 m y j2 B j K a1 a2 a3 a4 a5 fun q => ?_
      rw [a6]; unfold withS; dsimp only
      rw [if_neg (by rw [c]; simp), if_neg (by rw [q]; simp)]
  have p14 : ∀ (m : Mem) (y : In), InB m b2 z → RowB m b12 r → InB m b21 y → Keeps m0 m → y.k = r.kd → y.s = (withS r.kd w).s → y.t = (withS r.kd w).t → y.d = (withS r.kd w).d → y.h = 0 → y.i = 0 → P18_14103 w b2 0 b12 0 b21 0 m kr := fun m y j2 B j K a1 a2 a3 a4 a5 a6 => by
    unfold P18_14103
    simp only [Nat.zero_add]
    rw [B.l3]
    refine has_spec R.z (kif_c _ (fun c => ?_) fun c => ?_)
    · rw [R.h] at c
      rw [fdiv_w w _ (by decide), and31 _ (by omega) (by omega), wrap64 (by omega) (by omega)]
      refine j.s4 fun m2 k2 o2 => p16 m2 _ (j2.only o2 n1) (Bo B o2) k2 (Only.keeps K hb21 o2) a1 a2 a3 a4 ?_ a6
      unfold withS; dsimp only
      rw [if_pos c]
    · rw [R.h] at c
      refine p16 m y j2 B j K a1 a2 a3 a4 ?_ a6
      rw [a5]; unfold withS; dsimp only
      rw [if_neg (by rw [c]; simp)]
  have p12 : ∀ (m : Mem) (y : In), InB m b2 z → RowB m b12 r → InB m b21 y → Keeps m0 m → y.k = r.kd → y.s = (withS r.kd w).s → y.t = (withS r.kd w).t → y.d = 0 → y.h = 0 → y.i = 0 → P18_12103 w b2 0 b12 0 b21 0 m kr := fun m y j2 B j K a1 a2 a3 a4 a5 a6 => by
    unfold P18_12103
    simp only [Nat.zero_add]
    rw [B.l3]
    refine has_spec R.z (kif_c _ (fun c => ?_) fun c => ?_)
    · rw [R.d] at c
      rw [fdiv_w w _ (by decide), and31 _ (by omega) (by omega), wrap64 (by omega) (by omega)]
      refine j.s3 fun m2 k2 o2 => p14 m2 _ (j2.only o2 n1) (Bo B o2) k2 (Only.keeps K hb21 o2) a1 a2 a3 ?_ a5 a6
      unfold withS; dsimp only
      rw [if_pos c]
    · rw [R.d] at c
      refine p14 m y j2 B j K a1 a2 a3 ?_ a5 a6
      rw [a4]; unfold withS; dsimp only
      rw [if_neg (by rw [c]; simp)]
  unfold P18_10103
  simp only [Nat.zero_add]
  rw [B.l3]
  refine has_spec R.z (kif_c _ (fun c => ?_) fun c => ?_)
  · rw [R.t] at c
    rw [fdiv_w w _ (by decide), and31 _ (by omega) (by omega), wrap64 (by omega) (by omega)]
    refine i.s2 fun m2 k2 o2 => p12 m2 _ (i2.only o2 n1) (Bo B o2) k2 (Only.keeps K hb21 o2) hk0 hs ?_ hd hh hi
    unfold withS; dsimp only
    rw [if_pos c]
  · rw [R.t] at c
    refine p12 m x i2 B i K hk0 hs ?_ hd hh hi
    rw [ht]; unfold withS; dsimp only
    rw [if_neg (by rw [c]; simp)]

theorem rof_3 {w : Int} (w0 : 0 ≤ w) (w1 : w < 4294967296) {b : Nat} {m0 : Mem} (hb : m0.obj b = none) {v : AV} {l : List Row} (hl : l.length < 1000) (hR : ∀ r, r ∈ l → RowOK r) {k0 kr : Mem → Prop} {z : In}
    (h0 : l.find? (fun r => decide (r.op = w / 67108864) && decide (r.sub = subOf w)) = none → ∀ m', InB m' b z → Keeps m0 m' → k0 m') (h1 : ∀ r, l.find? (fun r => decide (r.op = w / 67108864) && decide (r.sub = subOf w)) = some r → ∀ m', InB m' b (withS r.kd w) → Keeps m0 m' → kr m') :
    ∀ (n i : Nat) (m : Mem), i + n = l.length → (∀ j, (h : j < l.length) → j < i → ¬ (l[j].op = w / 67108864 ∧ l[j].sub = subOf w)) → InB m b z → RowsV m v l → Keeps m0 m → L18_3 w b 0 v (n + 1) i m k0 kr := by
  intro n
  induction n with
  | zero =>
    intro i m hi hno ib hv K
    obtain ⟨bv, rfl, y, ey, hn, hy⟩ := hv
    unfold L18_3 R18_3
    refine kif_f (by simp; omega) (h0 ?_ m ib K)
    rw [List.find?_eq_none]
    intro r hrm
    obtain ⟨j, hj, rfl⟩ := List.getElem_of_mem hrm
    simpa using hno j hj (by omega)
  | succ n ih =>
    intro i m hi hno ib hv0 K
    have hv := hv0
    obtain ⟨bv, rfl, y, ey, hn, hy⟩ := hv
    unfold L18_3 R18_3
    have hil : i < l.length := by omega
    have h4 := hy i hil
    refine kif_t (by simp; omega) (kif_ix (by omega) (by omega) ?_)
    rw [ldG_of ey (by rw [hn]; simp; omega)]
    refine boxN fun b12 m13 q hb12 K13 eq qn qr qc => ⟨fun b' => b' = b12, rfl, ?_⟩
    have e0 : 0 + (i : Int).toNat * 4 = i * 4 := by simp
    have B : RowB m13 b12 l[i] := ⟨q, eq, qn, qr, (qc 0 (by omega)).trans (by rw [e0]; exact h4.1), (qc 1 (by omega)).trans (by rw [e0]; exact h4.2.1), (qc 2 (by omega)).trans (by rw [e0]; exact h4.2.2.1), (qc 3 (by omega)).trans (by rw [e0]; exact h4.2.2.2)⟩
    have K13' := K.trans K13
    have ib13 := ib.keep K13
    have next : ¬ (l[i].op = w / 67108864 ∧ l[i].sub = subOf w) → L18_3 w b 0 _ (n + 1) (IntKind.wrap .i64 (i + 1)) m13 k0 kr := fun hne => by
      rw [wrap64 (by omega) (by omega)]
      refine ih (i + 1) m13 (by omega) (fun j hj hji => ?_) ib13 (hv0.keep K13) K13'
      by_cases e : j = i
      · subst e; exact hne
      · exact hno j hj (by omega)
    rw [B.l0, fdiv_w w 67108864 (by decide), wrap64 (n := w / 67108864) (by omega) (by omega)]
    refine kif_c _ (fun c1 => next fun q => ?_) fun c1 => ⟨rfl, ?_⟩
    · rw [q.1] at c1; simp at c1
    have c1 : l[i].op = w / 67108864 := by simpa using c1
    rw [B.l1]
    refine sub_spec w0 w1 ⟨fun _ _ _ => rfl, kif_c _ (fun c2 => next fun q => ?_) fun c2 => ?_⟩
    · rw [q.2] at c2; simp at c2
    have c2 : l[i].sub = subOf w := by simpa using c2
    have hf : l.find? (fun r => decide (r.op = w / 67108864) && decide (r.sub = subOf w)) = some l[i] := by
      rw [List.find?_eq_some_iff_getElem]
      exact ⟨by simp [c1, c2], i, hil, rfl, fun j hj => by
        have := hno j (by omega) hj
        simp only [Bool.not_eq_true', Bool.and_eq_false_iff, decide_eq_false_iff_not]
        by_cases a : l[j].op = w / 67108864
        · exact .inr fun c => this ⟨a, c⟩
        · exact .inl a⟩
    have R := hR l[i] (List.getElem_mem hil)
    rw [B.l2]
    refine newF (x := ⟨l[i].kd, 0, 0, 0, 0, 0⟩) ⟨rfl, rfl, rfl, rfl, rfl, rfl⟩ fun b21 m22 hb21 K22 i22 => ?_
    have K22' := K13'.trans K22
    have B22 := B.keep K22
    have ib22 := ib13.keep K22
    have n1 : b ≠ b21 := fun e => by subst e; exact ib13.live hb21
    have n2 : b12 ≠ b21 := fun e => by subst e; obtain ⟨y, e, _⟩ := B; rw [e] at hb21; cases hb21
    have g12 : m0.obj b12 = none := newK_none K hb12
    have g21 : m0.obj b21 = none := newK_none K13' hb21
    rw [B22.l3]
    refine has_spec R.z (kif_c _ (fun c => ?_) fun c => ?_)
    · rw [R.s] at c
      rw [fdiv_w w _ (by decide), and31 _ (by omega) (by omega), wrap64 (by omega) (by omega)]
      refine i22.s1 fun m2 k2 o2 => rof_10 w0 w1 R (ib22.only o2 n1) ?_ k2 ⟨rfl, ?_, rfl, rfl, rfl, rfl⟩ (Only.keeps K22' g21 o2) hb g12 g21 n1 n2 (h1 _ hf)
      · obtain ⟨y, e, q⟩ := B22; exact ⟨y, by rw [o2 b12 n2]; exact e, q⟩
      · unfold withS; dsimp only; rw [if_pos c]
    · rw [R.s] at c
      refine rof_10 w0 w1 R ib22 B22 i22 ⟨rfl, ?_, rfl, rfl, rfl, rfl⟩ K22' hb g12 g21 n1 n2 (h1 _ hf)
      unfold withS; dsimp only; rw [if_neg (by rw [c]; simp)]

theorem rof_spec {w : Int} (w0 : 0 ≤ w) (w1 : w < 4294967296) {k : (Nat → AV) → Mem → Prop} (hk : ∀ c, InC c (ofS w) → k c m) : F18 w m k := by
  unfold F18
  refine newZ z6_in fun b m1 hb K1 i1 O1 => ?_
  rw [fdiv_w w 67108864 (by decide), wrap64 (by omega) (by omega)]
  refine rows_spec fun v m4 K4 hv => ⟨(rowsOf (w / 67108864)).length + 1, rof_3 (m0 := m) w0 w1 hb ?_ ?_ (fun hn m' i K => ?_) (fun r hr m' i K => ?_) (rowsOf (w / 67108864)).length 0 m4 (by omega) (fun j _ hj => by omega) (i1.keep K4) hv (K1.trans K4)⟩
  · have := len_T
    unfold rowsOf; split
    · omega
    · split <;> omega
  · intro r hr
    unfold rowsOf at hr
    split at hr
    · exact row_mem (List.mem_append_left _ hr)
    · split at hr
      · exact row_mem (List.mem_append_right _ (List.mem_append_right _ hr))
      · exact row_mem (List.mem_append_right _ (List.mem_append_left _ hr))
  · have e0 : ofS w = ⟨0, 0, 0, 0, 0, 0⟩ := by
      have : kindOf w = 0 := by unfold kindOf kt rowAt; rw [hn]
      unfold ofS; rw [this]; rfl
    refine i.sg z6_in fun m2 i2 o2 => i2.lg fun c hc => ⟨Only.keeps K hb o2, hc.inDom m, hk c (by rw [e0]; exact hc)⟩
  · have e1 : ofS w = withS r.kd w := by
      have : kindOf w = r.kd := by unfold kindOf kt rowAt; rw [hr]
      unfold ofS; rw [this]
    exact i.lg fun c hc => ⟨K, hc.inDom m, hk c (by rw [e1]; exact hc)⟩
end
end Go.Proofs.Ytppikpjmlbaccaa.Am
