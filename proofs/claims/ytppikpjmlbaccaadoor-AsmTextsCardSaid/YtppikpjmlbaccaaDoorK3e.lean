/- The reference of chapter 3: Right, Word, Of are the program's. Conditions: instructions are plain data. -/
import Derived.Test.YtppikpjmlbaccaaDoorK3d
namespace Go.Proofs.YtppikpjmlbaccaaDoor.Am
set_option linter.unusedVariables false
set_option linter.unusedSimpArgs false
set_option maxRecDepth 100000

/-! ### rows, plainly -/
def midR (r : Row) : Int :=
  if r.op = 0 ∨ r.op = 28 then IntKind.wrap .u32 r.sub
  else if r.op = 1 then IntKind.wrap .u32 (IntKind.wrap .u32 r.sub * 65536)
  else if r.op = 16 then if r.sub ≥ 64 then orI 33554432 (IntKind.wrap .u32 (IntKind.wrap .i64 (r.sub - 64))) else IntKind.wrap .u32 (IntKind.wrap .u32 r.sub * 2097152)
  else 0
def rowOK (r : Row) : Bool := decide (0 < r.kd) && decide (r.kd < 78) && decide (r.f.size < 1000) && (hasS r.f 115 == hasM (fl r.kd) 1) && (hasS r.f 116 == hasM (fl r.kd) 2) && (hasS r.f 100 == hasM (fl r.kd) 4) && (hasS r.f 104 == hasM (fl r.kd) 8) && (hasS r.f 105 == hasM (fl r.kd) 16) && (hasS r.f 106 == hasM (fl r.kd) 32) &&
  decide (headS r.kd = orI (IntKind.wrap .u32 (IntKind.wrap .u32 r.op * 67108864)) (midR r))
structure RowOK (r : Row) : Prop where
  k0 : 0 < r.kd
  k1 : r.kd < 78
  z : r.f.size < 1000
  s : hasS r.f 115 = hasM (fl r.kd) 1
  t : hasS r.f 116 = hasM (fl r.kd) 2
  d : hasS r.f 100 = hasM (fl r.kd) 4
  h : hasS r.f 104 = hasM (fl r.kd) 8
  i : hasS r.f 105 = hasM (fl r.kd) 16
  j : hasS r.f 106 = hasM (fl r.kd) 32
  w : headS r.kd = orI (IntKind.wrap .u32 (IntKind.wrap .u32 r.op * 67108864)) (midR r)
theorem rowOK_of {r : Row} (h : rowOK r = true) : RowOK r := by
  unfold rowOK at h
  simp only [Bool.and_eq_true, decide_eq_true_eq, beq_iff_eq] at h
  obtain ⟨⟨⟨⟨⟨⟨⟨⟨⟨a1, a2⟩, a3⟩, a4⟩, a5⟩, a6⟩, a7⟩, a8⟩, a9⟩, a10⟩ := h
  exact ⟨a1, a2, a3, a4, a5, a6, a7, a8, a9, a10⟩
theorem rows_all : (T0 ++ (T1 ++ T2)).all rowOK = true := by decide +kernel
theorem row_mem {r : Row} (h : r ∈ T0 ++ (T1 ++ T2)) : RowOK r := rowOK_of (List.all_eq_true.1 rows_all r h)
theorem findR_ok {kd : Int} {r : Row} (h : findR kd = some r) : RowOK r ∧ r.kd = kd :=
  ⟨row_mem (List.mem_of_find?_eq_some h), by simpa using List.find?_some h⟩
theorem findR_some : ∀ n, n < 78 → 0 < n → (findR (n : Nat)).isSome = true := by decide +kernel
theorem rowAt_ok {op sub : Int} {r : Row} (h : rowAt op sub = some r) : RowOK r ∧ r.op = op ∧ r.sub = sub := by
  have := List.find?_some h
  simp at this
  refine ⟨row_mem ?_, this.1, this.2⟩
  have hm := List.mem_of_find?_eq_some h
  unfold rowsOf at hm
  split at hm
  · exact List.mem_append_left _ hm
  · split at hm
    · exact List.mem_append_right _ (List.mem_append_right _ hm)
    · exact List.mem_append_right _ (List.mem_append_left _ hm)

/-! ### Right -/
def smallS (n : Int) (b : Bool) : Bool := decide (n = 0) || (b && (decide (n > 0) && decide (n < 32)))
def rightRow (x : In) (r : Row) : Bool := smallS x.s (hasS r.f 115) && (smallS x.t (hasS r.f 116) && (smallS x.d (hasS r.f 100) && (smallS x.h (hasS r.f 104) && decide (x.i ≤ if hasS r.f 105 = true then 65535 else if hasS r.f 106 = true then 67108863 else 0))))
def rightR (x : In) : Bool := match findR x.k with
  | some r => rightRow x r
  | none => false
theorem small_iff (n : Int) (b : Bool) : smallS n b = true ↔ (0 ≤ n ∧ n < 32 ∧ (b = false → n = 0)) := by
  unfold smallS
  cases b with
  | true => simp; omega
  | false => simp; omega
theorem rightR_eq (x : In) (hi : 0 ≤ x.i) : rightR x = rightS x := by
  rw [Bool.eq_iff_iff, right_iff x hi]
  unfold rightR
  constructor
  · intro h
    split at h
    · rename_i r hr
      obtain ⟨R, e⟩ := findR_ok hr
      unfold rightRow at h
      rw [R.s, R.t, R.d, R.h, R.i, R.j, e] at h
      simp only [Bool.and_eq_true, small_iff, decide_eq_true_eq] at h
      obtain ⟨⟨s0, s1, s2⟩, ⟨t0, t1, t2⟩, ⟨d0, d1, d2⟩, ⟨h0, h1, h2⟩, i1⟩ := h
      exact ⟨by have := R.k0; omega, by have := R.k1; omega, s0, s1, s2, t0, t1, t2, d0, d1, d2, h0, h1, h2, hi, by unfold most; exact i1⟩
    · cases h
  · intro h
    have hs := findR_some x.k.toNat (by have := h.k0; have := h.k1; omega) (by have := h.k0; omega)
    rw [show ((x.k.toNat : Nat) : Int) = x.k by have := h.k0; omega] at hs
    obtain ⟨r, hr⟩ := Option.isSome_iff_exists.1 hs
    rw [hr]
    obtain ⟨R, e⟩ := findR_ok hr
    show rightRow x r = true
    unfold rightRow
    rw [R.s, R.t, R.d, R.h, R.i, R.j, e]
    simp only [Bool.and_eq_true, small_iff, decide_eq_true_eq]
    exact ⟨⟨h.s0, h.s1, h.s2⟩, ⟨h.t0, h.t1, h.t2⟩, ⟨h.d0, h.d1, h.d2⟩, ⟨h.h0, h.h1, h.h2⟩, by have := h.i1; unfold most at this; exact this⟩

section
variable {m : Mem} {c : Nat → AV} {x : In}
theorem small_spec {n : Int} {b : Bool} {k : Bool → Mem → Prop} (hk : k (smallS n b) m) : F23 n b m k := by
  unfold F23
  unfold smallS at hk
  refine kif_c _ (fun c => ?_) fun c => ?_
  · have c : n = 0 := by simpa using c
    rw [decide_eq_true c] at hk; exact ⟨Keeps.self m, hk⟩
  have c : ¬ n = 0 := by simpa using c
  rw [decide_eq_false c] at hk
  cases b with
  | false => exact kif_f rfl ⟨Keeps.self m, hk⟩
  | true =>
    refine kif_t rfl (kif_c _ (fun c1 => ?_) fun c1 => ?_)
    · rw [c1] at hk; exact ⟨Keeps.self m, hk⟩
    · rw [c1] at hk; exact ⟨Keeps.self m, hk⟩

theorem rright_10 {b : Nat} (i : InB m b x) {r : Row} (R : RowOK r) {mo : Int} {k : Bool → Mem → Prop} (hk : k (smallS x.s (hasS r.f 115) && (smallS x.t (hasS r.f 116) && (smallS x.d (hasS r.f 100) && (smallS x.h (hasS r.f 104) && decide (x.i ≤ mo))))) m) : P14_10102 b 0 r.f mo m k := by
  unfold P14_10102
  simp only [Nat.zero_add]
  have kin : ∀ F : Nat → Prop, KeepsIn F m m := fun F b _ _ => rfl
  refine ⟨fun b' => b' = b, rfl, ?_⟩
  rw [i.l1]
  refine has_spec R.z ⟨kin _, small_spec ⟨kin _, kif_c _ (fun c => ⟨rfl, ?_⟩) fun c => ?_⟩⟩
  · rw [c] at hk
    rw [i.l2]
    refine has_spec R.z ⟨kin _, small_spec ⟨kin _, kif_c _ (fun c => ⟨rfl, ?_⟩) fun c => ?_⟩⟩
    · rw [c] at hk
      rw [i.l3]
      refine has_spec R.z ⟨kin _, small_spec ⟨kin _, kif_c _ (fun c => ⟨rfl, ?_⟩) fun c => ?_⟩⟩
      · rw [c] at hk
        rw [i.l4]
        refine has_spec R.z ⟨kin _, small_spec ⟨kin _, kif_c _ (fun c => ⟨rfl, ?_⟩) fun c => ?_⟩⟩
        · rw [c] at hk
          rw [i.l5]
          exact hk
        · rw [c] at hk; exact hk
      · rw [c] at hk; exact hk
    · rw [c] at hk; exact hk
  · rw [c] at hk; exact hk

theorem rright_spec (hc : InC c x) (hi : 0 ≤ x.i) {k : Bool → Mem → Prop} (hk : k (rightS x) m) : F14 c m k := by
  rw [← rightR_eq x hi] at hk
  unfold F14
  unfold rightR at hk
  refine newI hc fun b m1 hb K i O => ?_
  rw [i.l0]
  refine find_spec (fun hn c hr => ?_) fun r c hs hr => ?_
  · refine boxN fun b8 m9 y hb8 K9 ey _ _ _ => kif_t rfl ?_
    rw [hn] at hk
    exact ⟨K.trans K9, hk⟩
  · rw [hs] at hk
    have hk : k (rightRow x r) m := hk
    obtain ⟨R, e⟩ := findR_ok hs
    refine boxN fun b8 m9 y hb8 K9 ey yn yr yc => kif_f rfl ?_
    have B : RowB m9 b8 r := ⟨y, ey, yn, yr, (yc 0 (by omega)).trans hr.1, (yc 1 (by omega)).trans hr.2.1, (yc 2 (by omega)).trans hr.2.2.1, (yc 3 (by omega)).trans hr.2.2.2⟩
    have i9 := i.keep K9
    have K19 := K.trans K9
    rw [B.l3]
    unfold rightRow at hk
    refine has_spec R.z (kif_c _ (fun c1 => ?_) fun c1 => has_spec R.z (kif_c _ (fun c2 => ?_) fun c2 => ?_))
    · rw [c1, if_pos rfl] at hk; exact rright_10 i9 R ⟨K19, hk⟩
    · rw [c1, if_neg (by simp), c2, if_pos rfl] at hk; exact rright_10 i9 R ⟨K19, hk⟩
    · rw [c1, if_neg (by simp), c2, if_neg (by simp)] at hk; exact rright_10 i9 R ⟨K19, hk⟩

/-! ### Word -/
/-! ### Of -/
end
end Go.Proofs.YtppikpjmlbaccaaDoor.Am
