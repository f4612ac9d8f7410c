/- The reference of chapter 3 over the abstract machine. Conditions: instructions are plain data. -/
import Derived.Test.YtppikpjmlbaccaaDoorK3c
namespace Go.Proofs.YtppikpjmlbaccaaDoor.Am
set_option linter.unusedVariables false
set_option linter.unusedSimpArgs false
set_option maxRecDepth 100000

section
variable {m : Mem} {c : Nat → AV} {x : In}
/-! ### texts of fields -/
theorem has_2 {b : ByteArray} {ch : Int} (hb : b.size < 1000) {k0 : Mem → Prop} {kr : Bool → Mem → Prop} (h1 : hasS b ch = true → kr true m) (h0 : hasS b ch = false → k0 m) : ∀ (r i : Nat), i + r = b.size → (∀ j, j < i → (((b.data.getD j 0).toNat : Int) == ch) = false) → L22_2 b ch (r + 1) i m k0 kr := by
  intro r
  induction r with
  | zero =>
    intro i hi hn
    unfold L22_2 R22_2
    refine kif_f (by simp; omega) (h0 ?_)
    unfold hasS
    rw [Bool.eq_false_iff]
    intro q
    obtain ⟨j, hj, e⟩ := List.any_eq_true.1 q
    rw [hn j (by have := List.mem_range.1 hj; omega)] at e; cases e
  | succ r ih =>
    intro i hi hn
    unfold L22_2 R22_2
    refine kif_t (by simp; omega) (kif_ix (by omega) (by omega) (kif_c _ (fun q => h1 ?_) fun q => ?_))
    · unfold hasS
      rw [List.any_eq_true]
      exact ⟨i, List.mem_range.2 (by omega), by simpa using q⟩
    · rw [wrap64 (by omega) (by omega)]
      refine ih (i + 1) (by omega) fun j hj => ?_
      by_cases e : j = i
      · subst e; simpa using q
      · exact hn j (by omega)
theorem has_spec {b : ByteArray} {ch : Int} (hb : b.size < 1000) {k : Bool → Mem → Prop} (hk : k (hasS b ch) m) : F22 b ch m k := by
  unfold F22
  exact ⟨b.size + 1, has_2 hb (fun e => ⟨Keeps.self m, by rw [e] at hk; exact hk⟩) (fun e => ⟨Keeps.self m, by rw [e] at hk; exact hk⟩) b.size 0 (by omega) (fun j hj => by omega)⟩

/-! ### rows -/
def RowC (c : Nat → AV) (r : Row) : Prop := c 0 = .flat (.int .i64 r.op) ∧ c 1 = .flat (.int .i64 r.sub) ∧ c 2 = .flat (.int .i64 r.kd) ∧ c 3 = .flat (.string r.f)
def RowB (m : Mem) (b : Nat) (r : Row) : Prop := ∃ y, m.obj b = some y ∧ y.n = 4 ∧ y.ro = false ∧ RowC y.c r
def RowsB (m : Mem) (b : Nat) (l : List Row) : Prop := ∃ y, m.obj b = some y ∧ y.n = 4 * l.length ∧ ∀ i, (h : i < l.length) → RowC (fun j => y.c (i * 4 + j)) l[i]
/-- the value that is a list of rows -/
def RowsV (m : Mem) (v : AV) (l : List Row) : Prop := ∃ b, v = .sl b 0 l.length (.ex l.length) ∧ RowsB m b l
theorem RowsV.keep {m m' : Mem} {v : AV} {l : List Row} (h : RowsV m v l) (K : Keeps m m') : RowsV m' v l := by
  obtain ⟨b, e, y, ey, r⟩ := h; exact ⟨b, e, y, by rw [K b (by rw [ey]; simp)]; exact ey, r⟩
theorem rows_mk {m : Mem} {b : Nat} {y : Blk} {l : List Row} (e : m.obj b = some y) (hn : y.n = 4 * l.length) (h : (List.range (4 * l.length)).map y.c = l.flatMap fun r => [AV.flat (.int .i64 r.op), .flat (.int .i64 r.sub), .flat (.int .i64 r.kd), .flat (.string r.f)]) : RowsB m b l := by
  refine ⟨y, e, hn, fun i hi => ?_⟩
  have key : ∀ (l : List Row) (i : Nat) (hi : i < l.length) (j : Nat), j < 4 → (l.flatMap fun r => [AV.flat (.int .i64 r.op), .flat (.int .i64 r.sub), .flat (.int .i64 r.kd), .flat (.string r.f)])[i * 4 + j]? = [AV.flat (.int .i64 l[i].op), .flat (.int .i64 l[i].sub), .flat (.int .i64 l[i].kd), .flat (.string l[i].f)][j]? := by
    intro l
    induction l with
    | nil => intro i hi; cases hi
    | cons r l ih =>
      intro i hi j hj
      rw [List.flatMap_cons]
      cases i with
      | zero =>
        rw [List.getElem?_append_left (by simp; omega), Nat.zero_mul, Nat.zero_add]; rfl
      | succ i =>
        rw [List.getElem?_append_right (by simp; omega)]
        have := ih i (by simpa using hi) j hj
        rw [show (i + 1) * 4 + j - [AV.flat (.int .i64 r.op), .flat (.int .i64 r.sub), .flat (.int .i64 r.kd), .flat (.string r.f)].length = i * 4 + j by simp; omega, this]
        simp
  have at' : ∀ j, j < 4 → some (y.c (i * 4 + j)) = [AV.flat (.int .i64 l[i].op), .flat (.int .i64 l[i].sub), .flat (.int .i64 l[i].kd), .flat (.string l[i].f)][j]? := fun j hj => by
    rw [← key l i hi j hj, ← h, List.getElem?_map, List.getElem?_range (by omega)]; rfl
  exact ⟨by simpa using at' 0 (by omega), by simpa using at' 1 (by omega), by simpa using at' 2 (by omega), by simpa using at' 3 (by omega)⟩

theorem special_v {k : AV → Mem → Prop} (hk : ∀ v m', Keeps m m' → RowsV m' v T0 → k v m') : F30 m k := by
  unfold F30
  exact newK_i fun b m1 hb K e O => hk _ m1 K ⟨b, rfl, rows_mk e rfl (by kernel_rfl)⟩
theorem others_v {k : AV → Mem → Prop} (hk : ∀ v m', Keeps m m' → RowsV m' v T2 → k v m') : F32 m k := by
  unfold F32
  exact newK_i fun b m1 hb K e O => hk _ m1 K ⟨b, rfl, rows_mk e rfl (by kernel_rfl)⟩
theorem plain_v {k : AV → Mem → Prop} (hk : ∀ v m', Keeps m m' → RowsV m' v T1 → k v m') : F31 m k := by
  unfold F31
  exact newK_i fun b m1 hb K e O => hk _ m1 K ⟨b, rfl, rows_mk e rfl (by kernel_rfl)⟩

theorem RowB.keep {m m' : Mem} {b : Nat} {r : Row} (h : RowB m b r) (K : Keeps m m') : RowB m' b r := by
  obtain ⟨z, e, q⟩ := h; exact ⟨z, by rw [K b (by rw [e]; simp)]; exact e, q⟩
theorem RowB.l0 {b : Nat} {r : Row} (h : RowB m b r) (k : Int → Prop) : ldI .i64 m b 0 k = k r.op := by obtain ⟨z, e, n, _, h0, h1, h2, h3⟩ := h; exact ldI_of e (by omega) h0
theorem RowB.l1 {b : Nat} {r : Row} (h : RowB m b r) (k : Int → Prop) : ldI .i64 m b 1 k = k r.sub := by obtain ⟨z, e, n, _, h0, h1, h2, h3⟩ := h; exact ldI_of e (by omega) h1
theorem RowB.l2 {b : Nat} {r : Row} (h : RowB m b r) (k : Int → Prop) : ldI .i64 m b 2 k = k r.kd := by obtain ⟨z, e, n, _, h0, h1, h2, h3⟩ := h; exact ldI_of e (by omega) h2
theorem RowB.l3 {b : Nat} {r : Row} (h : RowB m b r) (k : ByteArray → Prop) : ldS m b 3 k = k r.f := by
  obtain ⟨z, e, n, _, h0, h1, h2, h3⟩ := h
  unfold ldS kobj; rw [e]; simp only [kite_eq, show 3 < z.n by omega, if_true, h3]
theorem RowC.inDom {r : Row} (h : RowC c r) (m : Mem) : InDomG 4 m c := fun i hi => by
  obtain ⟨h0, h1, h2, h3⟩ := h
  have : i = 0 ∨ i = 1 ∨ i = 2 ∨ i = 3 := by omega
  rcases this with rfl | rfl | rfl | rfl
  · rw [h0]; trivial
  · rw [h1]; trivial
  · rw [h2]; trivial
  · rw [h3]; trivial
def Row0 : Row := ⟨0, 0, 0, ⟨#[]⟩⟩

/-! ### find -/
theorem find_10 {kd : Int} {t : Int} {v : AV} {l : List Row} {b : Nat} {m0 : Mem} (hb0 : m0.obj b = none) (hv : RowsV m v l) (hl : l.length < 1000) {q : Row} (hb : RowB m b q) (K : Keeps m0 m) {k2 : Mem → Prop} {kr : Bool → Mem → Prop}
    (h2 : l.find? (fun r => decide (r.kd = kd)) = none → k2 m) (hr : ∀ r m', l.find? (fun r => decide (r.kd = kd)) = some r → RowB m' b r → Keeps m0 m' → kr true m') :
    ∀ (n i : Nat), i + n = l.length → (∀ j, (h : j < l.length) → j < i → l[j].kd ≠ kd) → L21_10 kd b 0 t v (n + 1) i m k2 kr := by
  obtain ⟨bv, rfl, y, ey, hn, hy⟩ := hv
  obtain ⟨z, ez, zn, zr, hz⟩ := hb
  intro n
  induction n with
  | zero =>
    intro i hi hno
    unfold L21_10 R21_10
    refine kif_f (by simp; omega) (h2 ?_)
    rw [List.find?_eq_none]
    intro r hrm
    obtain ⟨j, hj, rfl⟩ := List.getElem_of_mem hrm
    simpa using hno j hj (by omega)
  | succ n ih =>
    intro i hi hno
    unfold L21_10 R21_10
    have hil : i < l.length := by omega
    have h4 := hy i hil
    refine kif_t (by simp; omega) (kif_ix (by omega) (by omega) ?_)
    rw [ldI_of ey (by rw [hn]; simp; omega) (show y.c (0 + (i : Int).toNat * 4 + 2) = _ by rw [show 0 + (i : Int).toNat * 4 + 2 = i * 4 + 2 by simp]; exact h4.2.2.1)]
    refine kif_c _ (fun c1 => kif_ix (by omega) (by omega) ?_) fun c1 => ?_
    · have c1 : l[i].kd = kd := by simpa using c1
      rw [ldG_of ey (by rw [hn]; simp; omega), stG_of ez zr (by omega)]
      refine hr l[i] _ ?_ ⟨_, set_same _ _ _, zn, zr, ?_⟩ (Only.keeps K hb0 (Only.set _ _ _))
      · rw [List.find?_eq_some_iff_getElem]
        refine ⟨by simpa using c1, i, hil, rfl, fun j hj => by simpa using hno j (by omega) hj⟩
      · have e0 : 0 + (i : Int).toNat * 4 = i * 4 := by simp
        rw [e0]
        exact ⟨h4.1, h4.2.1, h4.2.2.1, h4.2.2.2⟩
    · have c1 : l[i].kd ≠ kd := by simpa using c1
      rw [wrap64 (by omega) (by omega)]
      refine ih (i + 1) (by omega) fun j hj hji => ?_
      by_cases e : j = i
      · subst e; exact c1
      · exact hno j hj (by omega)

def tabT (t : Int) : List Row := if t = 1 then T1 else if t = 2 then T2 else T0
theorem len_T : T0.length = 35 ∧ T1.length = 27 ∧ T2.length = 15 := by decide
theorem tabT_len (t : Int) : (tabT t).length < 1000 := by
  have := len_T
  unfold tabT; split
  · omega
  · split <;> omega
theorem find_spec {kd : Int} {k : (Nat → AV) → Bool → Mem → Prop} (h0 : findR kd = none → ∀ c, RowC c Row0 → k c false m) (h1 : ∀ r c, findR kd = some r → RowC c r → k c true m) : F21 kd m k := by
  unfold F21
  refine newK_i fun b m1 hb K1 e1 O1 => ?_
  have hb1 : RowB m1 b Row0 := ⟨_, e1, rfl, rfl, rfl, rfl, rfl, rfl⟩
  have fin : ∀ r m', findR kd = some r → RowB m' b r → Keeps m m' → (ldG 4 m' b 0 fun c39 => (Keeps m m' ∧ (InDomG 4 m c39 ∧ True) ∧ k c39 true m)) := fun r m' hf hr K => by
    obtain ⟨y, ey, yn, yr, hy⟩ := hr
    rw [ldG_of ey (by omega)]
    have hc : RowC (sub y.c 0 4) r := ⟨hy.1, hy.2.1, hy.2.2.1, hy.2.2.2⟩
    exact ⟨K, ⟨hc.inDom m, trivial⟩, h1 r _ hf hc⟩
  have step : ∀ (t : Int) (n : Nat) (m2 : Mem) (kn : Mem → Prop), 0 ≤ t → t < 3 → Keeps m m2 → RowB m2 b Row0 → (∀ r, (tabT t).find? (fun r => decide (r.kd = kd)) = some r → findR kd = some r) →
      ((tabT t).find? (fun r => decide (r.kd = kd)) = none → ∀ m', Keeps m m' → RowB m' b Row0 → L21_2 kd b 0 n (t + 1) m' (fun m34 => stG 4 m34 b 0 (lget [(.flat (.int .i64 0)), (.flat (.int .i64 0)), (.flat (.int .i64 0)), (.flat (.string ⟨#[]⟩))]) fun m38 => ldG 4 m38 b 0 fun c40 => (Keeps m m38 ∧ (InDomG 4 m c40 ∧ True) ∧ k c40 false m)) (fun x35 m36 => ldG 4 m36 b 0 fun c39 => (Keeps m m36 ∧ (InDomG 4 m c39 ∧ True) ∧ k c39 x35 m))) →
      L21_2 kd b 0 (n + 1) t m2 (fun m34 => stG 4 m34 b 0 (lget [(.flat (.int .i64 0)), (.flat (.int .i64 0)), (.flat (.int .i64 0)), (.flat (.string ⟨#[]⟩))]) fun m38 => ldG 4 m38 b 0 fun c40 => (Keeps m m38 ∧ (InDomG 4 m c40 ∧ True) ∧ k c40 false m)) (fun x35 m36 => ldG 4 m36 b 0 fun c39 => (Keeps m m36 ∧ (InDomG 4 m c39 ∧ True) ∧ k c39 x35 m)) := by
    intro t n m2 kn t0 t1 K2 hb2 hf hnext
    unfold L21_2 R21_2
    have go : ∀ (kn2 : Mem → Prop) v m3, Keeps m m3 → RowB m3 b Row0 → RowsV m3 v (tabT t) → ((tabT t).find? (fun r => decide (r.kd = kd)) = none → kn2 m3) → P21_9102 kd b 0 t v m3 kn2 (fun x35 m36 => ldG 4 m36 b 0 fun c39 => (Keeps m m36 ∧ (InDomG 4 m c39 ∧ True) ∧ k c39 x35 m)) := fun kn2 v m3 K3 hb3 hv hkn => by
      unfold P21_9102
      exact ⟨(tabT t).length + 1, find_10 (m0 := m) hb hv (tabT_len t) hb3 K3 hkn (fun r m' hr' hrb K' => fin r m' (hf r hr') hrb K') (tabT t).length 0 (by omega) (fun j _ hj => by omega)⟩
    have ew : IntKind.wrap .i64 (t + 1) = t + 1 := wrap64 (by omega) (by omega)
    rw [ew]
    refine kif_t (by simp; omega) (special_v fun v m3 K3 hv => ?_)
    have K3' := K2.trans K3
    refine kif_c _ (fun c1 => plain_v fun v' m4 K4 hv' => ?_) fun c1 => kif_c _ (fun c2 => others_v fun v' m4 K4 hv' => ?_) fun c2 => ?_
    · have c1 : t = 1 := by simpa using c1
      refine go _ v' m4 (K3'.trans K4) ((hb2.keep K3).keep K4) ?_ fun hn => hnext hn m4 (K3'.trans K4) ((hb2.keep K3).keep K4)
      unfold tabT; rw [if_pos c1]; exact hv'
    · have c1 : t ≠ 1 := by simpa using c1
      have c2 : t = 2 := by simpa using c2
      refine go _ v' m4 (K3'.trans K4) ((hb2.keep K3).keep K4) ?_ fun hn => hnext hn m4 (K3'.trans K4) ((hb2.keep K3).keep K4)
      unfold tabT; rw [if_neg c1, if_pos c2]; exact hv'
    · have c1 : t ≠ 1 := by simpa using c1
      have c2 : t ≠ 2 := by simpa using c2
      refine go _ v m3 K3' (hb2.keep K3) ?_ fun hn => hnext hn m3 K3' (hb2.keep K3)
      unfold tabT; rw [if_neg c1, if_neg c2]; exact hv
  refine ⟨4, step 0 3 m1 (fun _ => True) (by omega) (by omega) K1 hb1 (fun r hr => ?_) fun n0 m2 K2 hb2 => step 1 2 m2 (fun _ => True) (by omega) (by omega) K2 hb2 (fun r hr => ?_) fun n1 m3 K3 hb3 => step 2 1 m3 (fun _ => True) (by omega) (by omega) K3 hb3 (fun r hr => ?_) fun n2 m4 K4 hb4 => ?_⟩
  · unfold findR; rw [List.find?_append]; exact (show (T0.find? _).or _ = some r by rw [show T0.find? (fun r => decide (r.kd = kd)) = some r from hr]; rfl)
  · unfold findR; rw [List.find?_append, show T0.find? (fun r => decide (r.kd = kd)) = none from n0, List.find?_append, show T1.find? (fun r => decide (r.kd = kd)) = some r from hr]; rfl
  · unfold findR; rw [List.find?_append, show T0.find? (fun r => decide (r.kd = kd)) = none from n0, List.find?_append, show T1.find? (fun r => decide (r.kd = kd)) = none from n1, show T2.find? (fun r => decide (r.kd = kd)) = some r from hr]; rfl
  · unfold L21_2 R21_2
    refine kif_f (by decide) ?_
    have hno : findR kd = none := by
      unfold findR; rw [List.find?_append, show T0.find? (fun r => decide (r.kd = kd)) = none from n0, List.find?_append, show T1.find? (fun r => decide (r.kd = kd)) = none from n1, show T2.find? (fun r => decide (r.kd = kd)) = none from n2]; rfl
    obtain ⟨y, ey, yn, yr, hy⟩ := hb4
    dsimp only
    rw [stG_of ey yr (by omega), ldG_of (set_same _ _ _) (by show 0 + 4 ≤ y.n; omega)]
    have hc : ∀ (u : Nat → AV), RowC (sub (splice u 0 4 (lget [(.flat (.int .i64 0)), (.flat (.int .i64 0)), (.flat (.int .i64 0)), (.flat (.string ⟨#[]⟩))])) 0 4) Row0 := fun u => ⟨rfl, rfl, rfl, rfl⟩
    exact ⟨Only.keeps K4 hb (Only.set _ _ _), ⟨(hc _).inDom m, trivial⟩, h0 hno _ (hc _)⟩
end
end Go.Proofs.YtppikpjmlbaccaaDoor.Am
