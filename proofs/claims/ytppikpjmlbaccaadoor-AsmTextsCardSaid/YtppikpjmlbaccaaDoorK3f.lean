/- Instructions as they are drawn. Conditions: what is handed in is plain data. -/
import Derived.Test.YtppikpjmlbaccaaDoorK3e
import Derived.Test.YtppikpjmlbaccaaDoorAmW2
namespace Go.Proofs.YtppikpjmlbaccaaDoor.Am
set_option linter.unusedVariables false
set_option linter.unusedSimpArgs false
set_option maxRecDepth 100000

section
variable {m : Mem} {c : Nat → AV}
theorem within_spec {n hi : Int} (h0 : 0 < hi) (h1 : hi < 4294967296) (n0 : -9223372036854775808 ≤ n) (n1 : n < 9223372036854775808) {k : Int → Mem → Prop} (hk : ∀ v, 0 ≤ v → v ≤ hi → k v m) : F8 n 0 hi m k := by
  unfold F8
  have key : P8_3102 n 0 hi m (fun x1 m2 => (Keeps m m2 ∧ k x1 m)) := by
    unfold P8_3102
    rw [wrap64 (n := hi - 0) (by omega) (by omega), wrap64 (n := hi - 0 + 1) (by omega) (by omega)]
    have ht : -(hi + 1) < n.tmod (hi - 0 + 1) ∧ n.tmod (hi - 0 + 1) < hi + 1 := by
      by_cases c : 0 ≤ n
      · rw [tmod_nn c]
        have a := Int.emod_nonneg n (show hi - 0 + 1 ≠ 0 by omega)
        have b := Int.emod_lt_of_pos n (show 0 < hi - 0 + 1 by omega)
        omega
      · have e : n.tmod (hi - 0 + 1) = -((-n).tmod (hi - 0 + 1)) := by rw [Int.neg_tmod]; omega
        rw [e, tmod_nn (by omega)]
        have a := Int.emod_nonneg (-n) (show hi - 0 + 1 ≠ 0 by omega)
        have b := Int.emod_lt_of_pos (-n) (show 0 < hi - 0 + 1 by omega)
        omega
    generalize n.tmod (hi - 0 + 1) = r at ht
    refine kif_f (by simp; omega) (kif_c _ (fun c => ?_) fun c => ?_)
    · have c : r < 0 := by simpa using c
      rw [wrap64 (n := r + hi) (by omega) (by omega), wrap64 (n := r + hi - 0) (by omega) (by omega), wrap64 (n := r + hi - 0 + 1) (by omega) (by omega), wrap64 (by omega) (by omega)]
      exact ⟨Keeps.self m, hk _ (by omega) (by omega)⟩
    · have c : ¬ r < 0 := by simpa using c
      rw [wrap64 (by omega) (by omega)]
      exact ⟨Keeps.self m, hk _ (by omega) (by omega)⟩
  refine kif_c _ (fun c => kif_c _ (fun c1 => ⟨Keeps.self m, hk _ (by simpa using c) (by simpa using c1)⟩) fun _ => key) fun _ => key
theorem near_spec {n : Int} (n0 : -9223372036854775808 ≤ n) (n1 : n < 9223372036854775808) {k : Int → Mem → Prop} (hk : ∀ v, 0 ≤ v → v < 32 → k v m) : F13 n m k := by
  unfold F13
  refine within_spec (by omega) (by omega) n0 n1 fun v v0 v1 => ?_
  have e : v.tdiv 8 = v / 8 := Int.tdiv_eq_ediv_of_nonneg v0
  rw [e, wrap64 (by omega) (by omega), tmod_nn v0, tmod_nn (a := v / 8) (b := 32) (by omega), tmod_nn (a := v / 8) (b := 8) (by omega)]
  refine kif_c _ (fun c => ⟨Keeps.self m, hk _ (by omega) (by omega)⟩) fun c => ⟨Keeps.self m, hk _ (by omega) (by omega)⟩

/-- a drawn instruction -/
def shI : List Lf := [.i .i64, .i .i64, .i .i64, .i .i64, .i .i64, .i .u32, .i .u32]
def IC (c : Nat → AV) (x : In) (raw : Int) : Prop := c 0 = .flat (.int .i64 x.k) ∧ c 1 = .flat (.int .i64 x.s) ∧ c 2 = .flat (.int .i64 x.t) ∧ c 3 = .flat (.int .i64 x.d) ∧ c 4 = .flat (.int .i64 x.h) ∧ c 5 = .flat (.int .u32 x.i) ∧ c 6 = .flat (.int .u32 raw)
def IB (m : Mem) (b : Nat) (x : In) (raw : Int) : Prop := ∃ y, m.obj b = some y ∧ y.n = 7 ∧ IC y.c x raw
structure I64 (n : Int) : Prop where
  a : -9223372036854775808 ≤ n
  b : n < 9223372036854775808
/-- numbers of a drawn one -/
structure ITy (x : In) (raw : Int) : Prop where
  k : I64 x.k
  s : I64 x.s
  t : I64 x.t
  d : I64 x.d
  h : I64 x.h
  i0 : 0 ≤ x.i
  i1 : x.i < 4294967296
  r0 : 0 ≤ raw
  r1 : raw < 4294967296
theorem ic_of (hT : TyAll m shI c) : ∃ x raw, IC c x raw ∧ ITy x raw := by
  obtain ⟨k, e0, w0⟩ := ty_int (hT 0 _ rfl)
  obtain ⟨s, e1, w1⟩ := ty_int (hT 1 _ rfl)
  obtain ⟨t, e2, w2⟩ := ty_int (hT 2 _ rfl)
  obtain ⟨d, e3, w3⟩ := ty_int (hT 3 _ rfl)
  obtain ⟨h, e4, w4⟩ := ty_int (hT 4 _ rfl)
  obtain ⟨i, e5, w5⟩ := ty_int (hT 5 _ rfl)
  obtain ⟨r, e6, w6⟩ := ty_int (hT 6 _ rfl)
  exact ⟨⟨k, s, t, d, h, i⟩, r, ⟨e0, e1, e2, e3, e4, e5, e6⟩, ⟨⟨(wf_i64 w0).1, (wf_i64 w0).2⟩, ⟨(wf_i64 w1).1, (wf_i64 w1).2⟩, ⟨(wf_i64 w2).1, (wf_i64 w2).2⟩, ⟨(wf_i64 w3).1, (wf_i64 w3).2⟩, ⟨(wf_i64 w4).1, (wf_i64 w4).2⟩, (wf_u32 w5).1, (wf_u32 w5).2, (wf_u32 w6).1, (wf_u32 w6).2⟩⟩
variable {b : Nat} {x : In} {raw : Int}
theorem IB.keep {m' : Mem} (h : IB m b x raw) (K : Keeps m m') : IB m' b x raw := by
  obtain ⟨z, e, r⟩ := h; exact ⟨z, by rw [K b (by rw [e]; simp)]; exact e, r⟩
theorem IB.only {m' : Mem} {b' : Nat} (h : IB m b x raw) (O : Only m b' m') (hne : b ≠ b') : IB m' b x raw := by
  obtain ⟨z, e, r⟩ := h; exact ⟨z, by rw [O b hne]; exact e, r⟩
theorem IB.live (h : IB m b x raw) : m.obj b ≠ none := by obtain ⟨z, e, r⟩ := h; rw [e]; simp
theorem IB.l0 (h : IB m b x raw) (k : Int → Prop) : ldI .i64 m b 0 k = k x.k := by obtain ⟨z, e, n, h0, h1, h2, h3, h4, h5, h6⟩ := h; exact ldI_of e (by omega) h0
theorem IB.l1 (h : IB m b x raw) (k : Int → Prop) : ldI .i64 m b 1 k = k x.s := by obtain ⟨z, e, n, h0, h1, h2, h3, h4, h5, h6⟩ := h; exact ldI_of e (by omega) h1
theorem IB.l2 (h : IB m b x raw) (k : Int → Prop) : ldI .i64 m b 2 k = k x.t := by obtain ⟨z, e, n, h0, h1, h2, h3, h4, h5, h6⟩ := h; exact ldI_of e (by omega) h2
theorem IB.l3 (h : IB m b x raw) (k : Int → Prop) : ldI .i64 m b 3 k = k x.d := by obtain ⟨z, e, n, h0, h1, h2, h3, h4, h5, h6⟩ := h; exact ldI_of e (by omega) h3
theorem IB.l4 (h : IB m b x raw) (k : Int → Prop) : ldI .i64 m b 4 k = k x.h := by obtain ⟨z, e, n, h0, h1, h2, h3, h4, h5, h6⟩ := h; exact ldI_of e (by omega) h4
theorem IB.l5 (h : IB m b x raw) (k : Int → Prop) : ldI .u32 m b 5 k = k x.i := by obtain ⟨z, e, n, h0, h1, h2, h3, h4, h5, h6⟩ := h; exact ldI_of e (by omega) h5
theorem IB.l6 (h : IB m b x raw) (k : Int → Prop) : ldI .u32 m b 6 k = k raw := by obtain ⟨z, e, n, h0, h1, h2, h3, h4, h5, h6⟩ := h; exact ldI_of e (by omega) h6
theorem IB.lg (h : IB m b x raw) {k : (Nat → AV) → Prop} (hk : ∀ c, IC c x raw → k c) : ldG 7 m b 0 k := by
  obtain ⟨z, e, n, h⟩ := h
  rw [ldG_of e (by omega)]; exact hk _ h
theorem newD {t : TypeId} (hc : IC c x raw) {k : Nat → Mem → Prop} (hk : ∀ b m', m.obj b = none → Keeps m m' → IB m' b x raw → k b m') : newK m ⟨7, c, t, false⟩ k :=
  newK_i fun b m1 hb K e O => hk b m1 hb K ⟨_, e, rfl, hc⟩

/-! ### only, Inst -/
def onlyS (x : In) (f : Int) : In := if f = 0 then ⟨x.k, 1, 0, 0, 0, 0⟩ else if f = 1 then ⟨x.k, 0, 1, 0, 0, 0⟩ else if f = 2 then ⟨x.k, 0, 0, 1, 0, 0⟩ else if f = 3 then ⟨x.k, 0, 0, 0, 1, 0⟩ else if f = 4 then ⟨x.k, 0, 0, 0, 0, x.i⟩ else ⟨x.k, 0, 0, 0, 0, 1⟩
def zeroS (x : In) (f : Int) : In := if f = 0 then { x with s := 0 } else if f = 1 then { x with t := 0 } else if f = 2 then { x with d := 0 } else if f = 3 then { x with h := 0 } else if f = 4 then { x with i := bits .and .u32 x.i 65535 } else { x with i := 0 }
theorem only_spec {f : Int} (hc : InC c x) {k : (Nat → AV) → Mem → Prop} (hk : ∀ c, InC c (onlyS x f) → k c m) : F15 c f m k := by
  unfold F15
  unfold onlyS at hk
  refine newI hc fun b m1 hb K1 i O1 => newZ z6_in fun b4 m3 hb4 K4 i4 O4 => ?_
  rw [(i.keep K4).l0]
  refine newF (x := ⟨x.k, 0, 0, 0, 0, 0⟩) ⟨rfl, rfl, rfl, rfl, rfl, rfl⟩ fun b7 m8 hb7 K7 i7 => ?_
  have i8 := (i.keep K4).keep K7
  have j4 := i4.keep K7
  have K : Keeps m m8 := (K1.trans K4).trans K7
  have g7 : m.obj b7 = none := newK_none (K1.trans K4) hb7
  have g4 : m.obj b4 = none := newK_none K1 hb4
  have n47 : b4 ≠ b7 := fun e => by subst e; exact i4.live hb7
  have fin : ∀ (m2 : Mem) (y : In), InB m2 b7 y → Only m8 b7 m2 → (∀ c, InC c y → k c m) → (ldG 6 m2 b7 0 fun c16 => stG 6 m2 b4 0 c16 fun m17 => ldG 6 m17 b4 0 fun c28 => (Keeps m m17 ∧ InDomG 6 m c28 ∧ k c28 m)) := fun m2 y j o hy =>
    j.lg fun c hc => (j4.only o n47).sg hc fun m3 j3 o3 => j3.lg fun c hc => ⟨Only.keeps (Only.keeps K g7 o) g4 o3, hc.inDom m, hy c hc⟩
  refine kif_c _ (fun c => ?_) fun c0 => kif_c _ (fun c => ?_) fun c1 => kif_c _ (fun c => ?_) fun c2 => kif_c _ (fun c => ?_) fun c3 => kif_c _ (fun c => ?_) fun c4 => ?_
  · rw [if_pos (by simpa using c)] at hk; exact i7.s1 fun m2 j o => fin m2 _ j o hk
  all_goals rw [if_neg (by simpa using c0)] at hk
  · rw [if_pos (by simpa using c)] at hk; exact i7.s2 fun m2 j o => fin m2 _ j o hk
  all_goals rw [if_neg (by simpa using c1)] at hk
  · rw [if_pos (by simpa using c)] at hk; exact i7.s3 fun m2 j o => fin m2 _ j o hk
  all_goals rw [if_neg (by simpa using c2)] at hk
  · rw [if_pos (by simpa using c)] at hk; exact i7.s4 fun m2 j o => fin m2 _ j o hk
  all_goals rw [if_neg (by simpa using c3)] at hk
  · rw [if_pos (by simpa using c)] at hk
    rw [i8.l5]
    exact i7.s5 fun m2 j o => fin m2 _ j o hk
  · rw [if_neg (by simpa using c4)] at hk; exact i7.s5 fun m2 j o => fin m2 _ j o hk

theorem onlyR {k : Int} (k0 : 0 < k) (k1 : k < 78) : rightS ⟨k, 1, 0, 0, 0, 0⟩ = hasM (fl k) 1 ∧ rightS ⟨k, 0, 1, 0, 0, 0⟩ = hasM (fl k) 2 ∧ rightS ⟨k, 0, 0, 1, 0, 0⟩ = hasM (fl k) 4 ∧ rightS ⟨k, 0, 0, 0, 1, 0⟩ = hasM (fl k) 8 ∧ ∀ v : Int, 0 ≤ v → rightS ⟨k, 0, 0, 0, 0, v⟩ = decide (v ≤ most (fl k)) := by
  have m0 : 0 ≤ most (fl k) := by unfold most; split; omega; split <;> omega
  refine ⟨?_, ?_, ?_, ?_, fun v v0 => ?_⟩ <;> rw [Bool.eq_iff_iff, right_iff _ (by dsimp only; omega)]
  · constructor
    · intro h; cases e : hasM (fl k) 1 with
      | true => rfl
      | false => have := h.s2 e; dsimp only at this; omega
    · intro e
      refine ⟨k0, k1, ?_, ?_, ?_, ?_, ?_, ?_, ?_, ?_, ?_, ?_, ?_, ?_, ?_, ?_⟩ <;> dsimp only <;> first | omega | exact m0 | (intro _; rfl) | (intro q; rw [e] at q; cases q)
  · constructor
    · intro h; cases e : hasM (fl k) 2 with
      | true => rfl
      | false => have := h.t2 e; dsimp only at this; omega
    · intro e
      refine ⟨k0, k1, ?_, ?_, ?_, ?_, ?_, ?_, ?_, ?_, ?_, ?_, ?_, ?_, ?_, ?_⟩ <;> dsimp only <;> first | omega | exact m0 | (intro _; rfl) | (intro q; rw [e] at q; cases q)
  · constructor
    · intro h; cases e : hasM (fl k) 4 with
      | true => rfl
      | false => have := h.d2 e; dsimp only at this; omega
    · intro e
      refine ⟨k0, k1, ?_, ?_, ?_, ?_, ?_, ?_, ?_, ?_, ?_, ?_, ?_, ?_, ?_, ?_⟩ <;> dsimp only <;> first | omega | exact m0 | (intro _; rfl) | (intro q; rw [e] at q; cases q)
  · constructor
    · intro h; cases e : hasM (fl k) 8 with
      | true => rfl
      | false => have := h.h2 e; dsimp only at this; omega
    · intro e
      refine ⟨k0, k1, ?_, ?_, ?_, ?_, ?_, ?_, ?_, ?_, ?_, ?_, ?_, ?_, ?_, ?_⟩ <;> dsimp only <;> first | omega | exact m0 | (intro _; rfl) | (intro q; rw [e] at q; cases q)
  · rw [decide_eq_true_eq]
    constructor
    · intro h; exact h.i1
    · intro e
      refine ⟨k0, k1, ?_, ?_, ?_, ?_, ?_, ?_, ?_, ?_, ?_, ?_, ?_, ?_, ?_, ?_⟩ <;> dsimp only <;> first | omega | exact m0 | (intro _; rfl) | (intro q; rw [e] at q; cases q)

def stepS (y : In) (f : Int) : In := if rightS (onlyS y f) = true then y else zeroS y f
/-- numbers of a drawn one, each in its field -/
structure YTy (y : In) : Prop where
  s0 : 0 ≤ y.s
  s1 : y.s < 32
  t0 : 0 ≤ y.t
  t1 : y.t < 32
  d0 : 0 ≤ y.d
  d1 : y.d < 32
  h0 : 0 ≤ y.h
  h1 : y.h < 32
  i0 : 0 ≤ y.i
  i1 : y.i < 67108864
theorem step_ok {y : In} (k0 : 0 < y.k) (k1 : y.k < 78) (h : YTy y) : OK (stepS (stepS (stepS (stepS (stepS (stepS y 0) 1) 2) 3) 4) 5) ∧ (stepS (stepS (stepS (stepS (stepS (stepS y 0) 1) 2) 3) 4) 5).k = y.k := by
  obtain ⟨r1, r2, r3, r4, r5⟩ := onlyR k0 k1
  obtain ⟨s0, s1, t0, t1, d0, d1, h0, h1, i0, i1⟩ := h
  obtain ⟨k, s, t, d, h, i⟩ := y
  dsimp only at *
  have e0 : stepS ⟨k, s, t, d, h, i⟩ 0 = ⟨k, if hasM (fl k) 1 = true then s else 0, t, d, h, i⟩ := by
    show (if rightS ⟨k, 1, 0, 0, 0, 0⟩ = true then (⟨k, s, t, d, h, i⟩ : In) else ⟨k, 0, t, d, h, i⟩) = _
    rw [r1]; split <;> rfl
  rw [e0]
  have e1 : ∀ s, stepS ⟨k, s, t, d, h, i⟩ 1 = ⟨k, s, if hasM (fl k) 2 = true then t else 0, d, h, i⟩ := fun s => by
    show (if rightS ⟨k, 0, 1, 0, 0, 0⟩ = true then (⟨k, s, t, d, h, i⟩ : In) else ⟨k, s, 0, d, h, i⟩) = _
    rw [r2]; split <;> rfl
  rw [e1]
  have e2 : ∀ s t, stepS ⟨k, s, t, d, h, i⟩ 2 = ⟨k, s, t, if hasM (fl k) 4 = true then d else 0, h, i⟩ := fun s t => by
    show (if rightS ⟨k, 0, 0, 1, 0, 0⟩ = true then (⟨k, s, t, d, h, i⟩ : In) else ⟨k, s, t, 0, h, i⟩) = _
    rw [r3]; split <;> rfl
  rw [e2]
  have e3 : ∀ s t d, stepS ⟨k, s, t, d, h, i⟩ 3 = ⟨k, s, t, d, if hasM (fl k) 8 = true then h else 0, i⟩ := fun s t d => by
    show (if rightS ⟨k, 0, 0, 0, 1, 0⟩ = true then (⟨k, s, t, d, h, i⟩ : In) else ⟨k, s, t, d, 0, i⟩) = _
    rw [r4]; split <;> rfl
  rw [e3]
  have e4 : ∀ s t d h, stepS ⟨k, s, t, d, h, i⟩ 4 = ⟨k, s, t, d, h, if i ≤ most (fl k) then i else i % 65536⟩ := fun s t d h => by
    show (if rightS ⟨k, 0, 0, 0, 0, i⟩ = true then (⟨k, s, t, d, h, i⟩ : In) else ⟨k, s, t, d, h, bits .and .u32 i 65535⟩) = _
    rw [r5 i i0, and16 i i0 (by omega)]
    by_cases c : i ≤ most (fl k)
    · rw [decide_eq_true c, if_pos rfl, if_pos c]
    · rw [decide_eq_false c, if_neg (by simp), if_neg c]
  rw [e4]
  have e5 : ∀ s t d h i, stepS ⟨k, s, t, d, h, i⟩ 5 = ⟨k, s, t, d, h, if 1 ≤ most (fl k) then i else 0⟩ := fun s t d h i => by
    show (if rightS ⟨k, 0, 0, 0, 0, 1⟩ = true then (⟨k, s, t, d, h, i⟩ : In) else ⟨k, s, t, d, h, 0⟩) = _
    rw [r5 1 (by decide)]
    by_cases c : 1 ≤ most (fl k)
    · rw [decide_eq_true c, if_pos rfl, if_pos c]
    · rw [decide_eq_false c, if_neg (by simp), if_neg c]
  rw [e5]
  have hm : most (fl k) = 0 ∨ most (fl k) = 65535 ∨ most (fl k) = 67108863 := by unfold most; split; omega; split <;> omega
  refine ⟨⟨k0, k1, ?_, ?_, ?_, ?_, ?_, ?_, ?_, ?_, ?_, ?_, ?_, ?_, ?_, ?_⟩, rfl⟩ <;> dsimp only
  · split <;> omega
  · split <;> omega
  · intro q; rw [q]; rfl
  · split <;> omega
  · split <;> omega
  · intro q; rw [q]; rfl
  · split <;> omega
  · split <;> omega
  · intro q; rw [q]; rfl
  · split <;> omega
  · split <;> omega
  · intro q; rw [q]; rfl
  · split
    · split <;> omega
    · omega
  · split
    · split <;> omega
    · omega

theorem inst_18 {b4 b5 b7 : Nat} {y z : In} {f : Int} (i5 : InB m b5 y) (i7 : InB m b7 z) (hz : z = zeroS y f) (hne : b7 ≠ b5) (hy : 0 ≤ (onlyS y f).i) {m0 : Mem} (K : Keeps m0 m) (hb5 : m0.obj b5 = none) {kn : Mem → Prop} (hk : ∀ m', InB m' b5 (stepS y f) → Keeps m0 m' → (∀ b', b' ≠ b5 → m'.obj b' = m.obj b') → kn m') : P7_18102 b4 0 b5 0 f b7 0 m kn := by
  unfold P7_18102
  unfold stepS at hk
  refine i5.lg fun c hc => only_spec hc fun c hc => rright_spec hc hy (kif_c _ (fun c => ?_) fun c => ?_)
  · have c : rightS (onlyS y f) = false := by simpa using c
    rw [if_neg (by rw [c]; simp)] at hk
    exact i7.lg fun c hc => i5.sg hc fun m2 j o => hk m2 (by rw [← hz]; exact j) (Only.keeps K hb5 o) fun b' hb' => o b' hb'
  · have c : rightS (onlyS y f) = true := by simpa using c
    rw [if_pos c] at hk
    exact hk m i5 K fun _ _ => rfl

theorem inst_3 {b4 b5 : Nat} {y : In} {f : Nat} (hf : f < 6) (i5 : InB m b5 y) (hy : 0 ≤ y.i) {m0 : Mem} (K : Keeps m0 m) (hb5 : m0.obj b5 = none) {N : Nat} {kn : Mem → Prop} (hk : ∀ m', InB m' b5 (stepS y f) → Keeps m0 m' → (∀ b', b' ≠ b5 → m.obj b' ≠ none → m'.obj b' = m.obj b') → L7_3 b4 0 b5 0 N ((f : Int) + 1) m' kn) : L7_3 b4 0 b5 0 (N + 1) f m kn := by
  unfold L7_3 R7_3
  refine kif_t (by simp; omega) (i5.lg fun c22 h22 => newF h22 fun b24 m25 hb24 K24 i24 => ?_)
  have j5 := i5.keep K24
  have hne : b24 ≠ b5 := fun e => by subst e; exact i5.live hb24
  have g24 : m0.obj b24 = none := newK_none K hb24
  have K' := K.trans K24
  rw [wrap64 (by omega) (by omega)]
  have ho : ∀ f : Int, 0 ≤ (onlyS y f).i := fun f => by
    unfold onlyS
    split
    · dsimp only; omega
    split
    · dsimp only; omega
    split
    · dsimp only; omega
    split
    · dsimp only; omega
    split
    · dsimp only; omega
    · dsimp only; omega
  have go : ∀ (m2 : Mem) (z : In), InB m2 b24 z → Only m25 b24 m2 → z = zeroS y f → P7_18102 b4 0 b5 0 f b24 0 m2 (fun m40 => L7_3 b4 0 b5 0 N ((f : Int) + 1) m40 kn) := fun m2 z j o hz =>
    inst_18 (j5.only o hne.symm) j hz hne (ho _) (Only.keeps K' g24 o) hb5 fun m' i' Kf fr => hk m' i' Kf fun b' h1 h2 => by
      have : b' ≠ b24 := fun e => h2 (e ▸ hb24)
      rw [fr b' h1, o b' this, K24 b' h2]
  have zs : ∀ j : Int, (f : Int) = j → zeroS y f = zeroS y j := fun j e => by rw [e]
  refine kif_c _ (fun c => ?_) fun c0 => kif_c _ (fun c => ?_) fun c1 => kif_c _ (fun c => ?_) fun c2 => kif_c _ (fun c => ?_) fun c3 => kif_c _ (fun c => ?_) fun c4 => ?_
  · exact i24.s1 fun m2 j o => go m2 _ j o ((zs 0 (by simpa using c)).trans rfl).symm
  · exact i24.s2 fun m2 j o => go m2 _ j o ((zs 1 (by simpa using c)).trans rfl).symm
  · exact i24.s3 fun m2 j o => go m2 _ j o ((zs 2 (by simpa using c)).trans rfl).symm
  · exact i24.s4 fun m2 j o => go m2 _ j o ((zs 3 (by simpa using c)).trans rfl).symm
  · rw [i24.l5]
    exact i24.s5 fun m2 j o => go m2 _ j o ((zs 4 (by simpa using c)).trans rfl).symm
  · have : (f : Int) = 5 := by
      simp at c0 c1 c2 c3 c4; omega
    exact i24.s5 fun m2 j o => go m2 _ j o ((zs 5 this).trans rfl).symm

theorem step_i {y : In} (h : 0 ≤ y.i) (f : Int) : 0 ≤ (stepS y f).i := by
  unfold stepS zeroS
  have := and_rng y.i 65535
  split
  · exact h
  split
  · exact h
  split
  · exact h
  split
  · exact h
  split
  · exact h
  split
  · exact this.1
  · dsimp only; omega

theorem inst_spec {kd : Int} (hc : IC c x raw) (hx : ITy x raw) (k0 : 0 < kd) (k1 : kd < 78) {k : (Nat → AV) → Mem → Prop} (hk : ∀ c y, InC c y → OK y → y.k = kd → k c m) : F7 c kd m k := by
  unfold F7
  refine newD hc fun b2 m1 hb2 K1 d => newZ z6_in fun b4 m3 hb4 K4 i4 O4 => ?_
  have d3 := d.keep K4
  refine ⟨fun b' => b' = b2, rfl, ?_⟩
  have kin : ∀ F : Nat → Prop, KeepsIn F m3 m3 := fun F b _ _ => rfl
  rw [d3.l1]
  refine near_spec hx.s.a hx.s.b fun s s0 s1 => ⟨kin _, rfl, ?_⟩
  rw [d3.l2]
  refine near_spec hx.t.a hx.t.b fun t t0 t1 => ⟨kin _, rfl, ?_⟩
  rw [d3.l3]
  refine near_spec hx.d.a hx.d.b fun dd dd0 dd1 => ⟨kin _, rfl, ?_⟩
  rw [d3.l4]
  refine within_spec (by omega) (by omega) hx.h.a hx.h.b fun h h0 h1 => ⟨kin _, rfl, ?_⟩
  rw [d3.l5, and26 x.i hx.i0 hx.i1]
  refine newF (x := ⟨kd, s, t, dd, h, x.i % 67108864⟩) ⟨rfl, rfl, rfl, rfl, rfl, rfl⟩ fun b20 m21 hb20 K20 i20 => ?_
  have hne : b4 ≠ b20 := fun e => by subst e; exact i4.live hb20
  have j4 := i4.keep K20
  have K : Keeps m m21 := (K1.trans K4).trans K20
  have g20 : m.obj b20 = none := newK_none (K1.trans K4) hb20
  have g4 : m.obj b4 = none := newK_none K1 hb4
  have y0 : 0 ≤ (⟨kd, s, t, dd, h, x.i % 67108864⟩ : In).i := by dsimp only; omega
  have ok := step_ok (y := ⟨kd, s, t, dd, h, x.i % 67108864⟩) k0 k1 ⟨s0, s1, t0, t1, dd0, dd1, h0, by dsimp only; omega, y0, by dsimp only; omega⟩
  have yk : (⟨kd, s, t, dd, h, x.i % 67108864⟩ : In).k = kd := rfl
  generalize (⟨kd, s, t, dd, h, x.i % 67108864⟩ : In) = y at i20 y0 ok yk
  refine ⟨7, inst_3 (f := 0) (by omega) i20 y0 K g20 fun m2 i2 k2 r2 => inst_3 (f := 1) (by omega) i2 (step_i y0 0) k2 g20 fun m3 i3 k3 r3 => inst_3 (f := 2) (by omega) i3 (step_i (step_i y0 0) 1) k3 g20 fun m4 i4 k4 r4 => inst_3 (f := 3) (by omega) i4 (step_i (step_i (step_i y0 0) 1) 2) k4 g20 fun m5 i5 k5 r5 => inst_3 (f := 4) (by omega) i5 (step_i (step_i (step_i (step_i y0 0) 1) 2) 3) k5 g20 fun m6 i6 k6 r6 => inst_3 (f := 5) (by omega) i6 (step_i (step_i (step_i (step_i (step_i y0 0) 1) 2) 3) 4) k6 g20 fun m7 i7 k7 r7 => ?_⟩
  unfold L7_3 R7_3
  refine kif_f (by decide) ?_
  have l4 := j4.live
  have q2 := r2 b4 hne l4
  have q3 := r3 b4 hne (by rw [q2]; exact l4)
  have q4 := r4 b4 hne (by rw [q3, q2]; exact l4)
  have q5 := r5 b4 hne (by rw [q4, q3, q2]; exact l4)
  have q6 := r6 b4 hne (by rw [q5, q4, q3, q2]; exact l4)
  have q7 := r7 b4 hne (by rw [q6, q5, q4, q3, q2]; exact l4)
  have j7 : InB m7 b4 ⟨0, 0, 0, 0, 0, 0⟩ := by
    obtain ⟨z, e, r⟩ := j4
    exact ⟨z, by rw [q7, q6, q5, q4, q3, q2]; exact e, r⟩
  exact i7.lg fun c hc => j7.sg hc fun m8 j8 o8 => j8.lg fun c hc => ⟨Only.keeps k7 g4 o8, hc.inDom m, hk c _ hc ok.1 (ok.2.trans yk)⟩
end
end Go.Proofs.YtppikpjmlbaccaaDoor.Am
