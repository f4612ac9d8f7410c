/- Small operations: what the reference's functions on them ask; words reckoned. Conditions: cells are words. -/
import Derived.Test.YtkgidjnaddjjbaaGreatK3g
import Derived.Test.YtkgidjnaddjjbaaGreatAmP
namespace Go.Proofs.YtkgidjnaddjjbaaGreat.Am
set_option linter.unusedVariables false
set_option linter.unusedSimpArgs false
set_option maxRecDepth 100000

def isU (n : Int) : Prop := 0 ≤ n ∧ n < 4294967296
theorem wrap_u (n : Int) : isU (IntKind.wrap .u32 n) := wrap32_rng n
theorem wrapU {n : Int} (h : isU n) : IntKind.wrap .u32 n = n := by rw [wrap32, Int.emod_eq_of_lt h.1 h.2]
theorem wU64 {n : Int} (h : 0 ≤ n) (h' : n < 18446744073709551616) : IntKind.wrap .u64 n = n := by
  simp [IntKind.wrap, IntKind.bits, IntKind.signed]; omega

/-! ### words reckoned -/
def sarN : Nat → Int → Int
  | 0, x => x
  | n + 1, x => sarN n (bits .or .u32 (x.fdiv 2) (bits .and .u32 x 2147483648))
theorem sarN_u : ∀ (n : Nat) (x : Int), isU x → isU (sarN n x)
  | 0, x, h => h
  | n + 1, x, h => sarN_u n _ (or_rng _ _)
def wideV (x : Int) (b : Bool) : Int := if b = true ∧ x ≥ 2147483648 then IntKind.wrap .i64 (IntKind.wrap .i64 x - 4294967296) else IntKind.wrap .i64 x
theorem wide_ne {x : Int} (h : isU x) (h0 : x ≠ 0) (b : Bool) : wideV x b ≠ 0 := by
  obtain ⟨h1, h2⟩ := h
  unfold wideV
  rw [wrap64 (n := x) (by omega) (by omega)]
  split
  · rw [wrap64 (by omega) (by omega)]; omega
  · exact h0
def mulV (a b : Int) (s : Bool) : Int × Int :=
  let p := IntKind.wrap .u64 ((IntKind.wrap .u64 a) * (IntKind.wrap .u64 b))
  let h0 := IntKind.wrap .u32 (p.fdiv 4294967296)
  let h1 := if s = true ∧ a ≥ 2147483648 then IntKind.wrap .u32 (h0 - b) else h0
  let h2 := if s = true ∧ b ≥ 2147483648 then IntKind.wrap .u32 (h1 - a) else h1
  (h2, IntKind.wrap .u32 p)
theorem mulV_u (a b : Int) (s : Bool) : isU (mulV a b s).1 ∧ isU (mulV a b s).2 := by
  unfold mulV
  dsimp only
  refine ⟨?_, wrap_u _⟩
  split
  · exact wrap_u _
  · split <;> exact wrap_u _
def divV (a b : Int) (s : Bool) : Int × Int := if b = 0 then (4294967295, a) else (IntKind.wrap .u32 (IntKind.wrap .i64 ((wideV a s).tdiv (wideV b s))), IntKind.wrap .u32 ((wideV a s).tmod (wideV b s)))
theorem divV_u {a b : Int} (ha : isU a) (s : Bool) : isU (divV a b s).1 ∧ isU (divV a b s).2 := by
  unfold divV
  split
  · exact ⟨(⟨by decide, by decide⟩ : isU 4294967295), ha⟩
  · exact ⟨wrap_u _, wrap_u _⟩
def clzN (x : Int) : Nat → Int → Int
  | 0, n => n
  | j + 1, n => if bits .and .u32 (x.fdiv (2 ^ j)) 1 = 1 then n else clzN x j (n + 1)
def clzV (x : Int) : Int := clzN x 32 0
def bitV (b : Bool) : Int := if b = true then 1 else 0
section
variable {m0 m : Mem}
theorem sar_loop {k0 : Int → Mem → Prop} : ∀ (j : Nat) (x : Int), j < 1000 → k0 (sarN j x) m → L48_2 (j + 1) x j m k0
  | 0, x, h, hk => by
    show R48_2 _ _ _ _ _
    unfold R48_2
    exact kif_f (by simp) hk
  | j + 1, x, h, hk => by
    show R48_2 _ _ _ _ _
    unfold R48_2
    rw [wU64 (n := ((j + 1 : Nat) : Int) - 1) (by omega) (by omega), show ((j + 1 : Nat) : Int) - 1 = (j : Int) by omega]
    exact kif_t (by simp) (sar_loop j _ (by omega) hk)
theorem sar_spec {x n : Int} (n0 : 0 ≤ n) (n1 : n < 32) {k : Int → Mem → Prop} (hk : k (sarN n.toNat x) m) : F48 x n m k := by
  unfold F48
  have e : IntKind.wrap .u64 ((IntKind.wrap .i64 ((n.tmod 32) + 32)).tmod 32) = (n.toNat : Int) := by
    rw [tmod_nn n0, wrap64 (by omega) (by omega), tmod_nn (by omega), wU64 (by omega) (by omega)]; omega
  rw [e]
  exact ⟨_, sar_loop (k0 := fun x1 m2 => (Keeps m m2 ∧ k x1 m)) n.toNat x (by omega) ⟨Keeps.self m, hk⟩⟩
theorem wide_spec {x : Int} {b : Bool} {k : Int → Mem → Prop} (hk : k (wideV x b) m) : F88 x b m k := by
  unfold F88
  unfold wideV at hk
  refine kif_c _ (fun c => kif_c _ (fun c2 => ⟨Keeps.self m, ?_⟩) fun c2 => ⟨Keeps.self m, ?_⟩) fun c => ⟨Keeps.self m, ?_⟩
  · rw [if_pos ⟨c, by simpa using c2⟩] at hk; exact hk
  · rw [if_neg fun h => by have := h.2; simp at c2; omega] at hk; exact hk
  · rw [if_neg fun h => by rw [h.1] at c; cases c] at hk; exact hk
theorem rless_spec {x y : Int} {b : Bool} {k : Bool → Mem → Prop} (hk : k (decide (wideV x b < wideV y b)) m) : F50 x y b m k := by
  unfold F50
  exact wide_spec (wide_spec ⟨Keeps.self m, hk⟩)
theorem rmul_spec {x y : Int} {b : Bool} {k : Int → Int → Mem → Prop} (hk : k (mulV x y b).1 (mulV x y b).2 m) : F51 x y b m k := by
  unfold F51
  unfold mulV at hk
  dsimp only at hk
  have tail : ∀ h1 p, k (if b = true ∧ y ≥ 2147483648 then IntKind.wrap .u32 (h1 - x) else h1) (IntKind.wrap .u32 p) m → P51_5103 x y b p h1 m (fun x10 x11 m12 => (Keeps m m12 ∧ k x10 x11 m)) := fun h1 p hk => by
    unfold P51_5103 P51_7102
    refine kif_c _ (fun c => kif_c _ (fun c2 => ⟨Keeps.self m, ?_⟩) fun c2 => ⟨Keeps.self m, ?_⟩) fun c => ⟨Keeps.self m, ?_⟩
    · rw [if_pos ⟨c, by simpa using c2⟩] at hk; exact hk
    · rw [if_neg fun h => by have := h.2; simp at c2; omega] at hk; exact hk
    · rw [if_neg fun h => by rw [h.1] at c; cases c] at hk; exact hk
  refine kif_c _ (fun c => kif_c _ (fun c2 => tail _ _ ?_) fun c2 => tail _ _ ?_) fun c => tail _ _ ?_
  · rw [if_pos (c := b = true ∧ x ≥ 2147483648) ⟨c, by simpa using c2⟩] at hk; exact hk
  · rw [if_neg (c := b = true ∧ x ≥ 2147483648) fun h => by have := h.2; simp at c2; omega] at hk; exact hk
  · rw [if_neg (c := b = true ∧ x ≥ 2147483648) fun h => by rw [h.1] at c; cases c] at hk; exact hk
theorem rdiv_spec {x y : Int} (hy : isU y) {b : Bool} {k : Int → Int → Mem → Prop} (hk : k (divV x y b).1 (divV x y b).2 m) : F54 x y b m k := by
  unfold F54
  unfold divV at hk
  refine kif_c _ (fun c => ⟨Keeps.self m, ?_⟩) fun c => wide_spec (wide_spec ?_)
  · rw [if_pos (by simpa using c)] at hk; exact hk
  · have c : y ≠ 0 := by simpa using c
    rw [if_neg c] at hk
    have h := wide_ne hy c b
    exact kif_f (by simpa using h) (kif_f (by simpa using h) ⟨Keeps.self m, hk⟩)
theorem clz_loop {x : Int} {k0 kr : Int → Mem → Prop} (h0 : ∀ n, k0 n m → kr n m) (h1 : ∀ n, kr n m → k0 n m) : ∀ (j : Nat) (n : Int), j ≤ 32 → 0 ≤ n → n + j ≤ 32 → kr (clzN x j n) m → L52_3 x (j + 1) n ((j : Int) - 1) m k0 kr
  | 0, n, hj, n0, n1, hk => by
    show R52_3 _ _ _ _ _ _ _
    unfold R52_3
    exact kif_f (by simp) (h1 _ hk)
  | j + 1, n, hj, n0, n1, hk => by
    show R52_3 _ _ _ _ _ _ _
    unfold R52_3
    have e : ((j + 1 : Nat) : Int) - 1 = (j : Int) := by omega
    rw [e, wU64 (n := (j : Int)) (by omega) (by omega), Int.toNat_natCast, show min j 32 = j by omega, wrap64 (n := n + 1) (by omega) (by omega), wrap64 (n := (j : Int) - 1) (by omega) (by omega)]
    unfold clzN at hk
    refine kif_t (by simp) (kif_f (by simp) (kif_c _ (fun c => ?_) fun c => ?_))
    · rw [if_pos (by simpa using c)] at hk; exact hk
    · rw [if_neg (by simpa using c)] at hk
      exact clz_loop h0 h1 j (n + 1) (by omega) (by omega) (by omega) hk
theorem rclz_spec {x : Int} {k : Int → Mem → Prop} (hk : k (clzV x) m) : F52 x m k := by
  unfold F52
  exact ⟨33, clz_loop (k0 := fun x1 m2 => (Keeps m m2 ∧ k x1 m)) (kr := fun x3 m4 => (Keeps m m4 ∧ k x3 m)) (fun _ h => h) (fun _ h => h) 32 0 (by omega) (by omega) (by omega) ⟨Keeps.self m, hk⟩⟩
theorem rclo_spec {x : Int} {k : Int → Mem → Prop} (hk : k (clzV (bits .xor .u32 4294967295 x)) m) : F53 x m k := by
  unfold F53
  exact rclz_spec ⟨Keeps.self m, hk⟩
theorem bit18_spec {b : Bool} {k : Int → Mem → Prop} (hk : k (bitV b) m) : F49 b m k := by
  unfold F49
  unfold bitV at hk
  refine kif_c _ (fun c => ⟨Keeps.self m, ?_⟩) fun c => ⟨Keeps.self m, ?_⟩
  · rw [if_pos c] at hk; exact hk
  · rw [if_neg (by rw [c]; simp)] at hk; exact hk

/-! ### operations -/
structure Op19 where
  k : Int
  d : Int
  a : Int
  b : Int
  i : Int
def OpC (c : Nat → AV) (o : Op19) : Prop := c 0 = .flat (.int .i64 o.k) ∧ c 1 = .flat (.int .i64 o.d) ∧ c 2 = .flat (.int .i64 o.a) ∧ c 3 = .flat (.int .i64 o.b) ∧ c 4 = .flat (.int .u32 o.i)
structure OpR (o : Op19) : Prop where
  k : 0 ≤ o.k ∧ o.k ≤ 22
  d : 0 ≤ o.d ∧ o.d < 40
  a : 0 ≤ o.a ∧ o.a < 40
  b : 0 ≤ o.b ∧ o.b < 40
  i : isU o.i
/-- the number that an operation of one cell gives -/
def valV (k a b i : Int) : Int :=
  if k = 1 then i else if k = 2 then a else if k = 3 then IntKind.wrap .u32 (a + b) else if k = 4 then IntKind.wrap .u32 (a - b) else if k = 5 then bits .and .u32 a b else if k = 6 then bits .or .u32 a b else if k = 7 then bits .xor .u32 a b
  else if k = 8 then bits .xor .u32 4294967295 (bits .or .u32 a b) else if k = 9 then IntKind.wrap .u32 (a * 2 ^ min (b % 32).toNat 32) else if k = 10 then a.fdiv (2 ^ min (b % 32).toNat 32) else if k = 11 then sarN (b % 32).toNat a
  else if k = 12 then bitV (decide (wideV a true < wideV b true)) else if k = 13 then bitV (decide (wideV a false < wideV b false)) else if k = 14 then (mulV a b true).2 else if k = 15 then IntKind.wrap .u32 (clzV a) else if k = 16 then IntKind.wrap .u32 (clzV (bits .xor .u32 4294967295 a)) else a
theorem valV_u {k a b i : Int} (ha : isU a) (hi : isU i) : isU (valV k a b i) := by
  have bu : ∀ q, isU (bitV q) := fun q => by unfold bitV; split <;> exact ⟨by decide, by decide⟩
  have sh : isU (a.fdiv (2 ^ min (b % 32).toNat 32)) := by
    have hp : (0 : Int) < 2 ^ min (b % 32).toNat 32 := Int.pow_pos (by decide)
    rw [fdiv_w _ _ (Int.le_of_lt hp)]
    exact ⟨Int.ediv_nonneg ha.1 (Int.le_of_lt hp), Int.lt_of_le_of_lt (Int.ediv_le_self _ ha.1) ha.2⟩
  unfold valV
  by_cases c1 : k = 1
  · rw [if_pos c1]; exact hi
  rw [if_neg c1]
  by_cases c2 : k = 2
  · rw [if_pos c2]; exact ha
  rw [if_neg c2]
  by_cases c3 : k = 3
  · rw [if_pos c3]; exact wrap_u _
  rw [if_neg c3]
  by_cases c4 : k = 4
  · rw [if_pos c4]; exact wrap_u _
  rw [if_neg c4]
  by_cases c5 : k = 5
  · rw [if_pos c5]; exact and_rng _ _
  rw [if_neg c5]
  by_cases c6 : k = 6
  · rw [if_pos c6]; exact or_rng _ _
  rw [if_neg c6]
  by_cases c7 : k = 7
  · rw [if_pos c7]; exact xor_rng _ _
  rw [if_neg c7]
  by_cases c8 : k = 8
  · rw [if_pos c8]; exact xor_rng _ _
  rw [if_neg c8]
  by_cases c9 : k = 9
  · rw [if_pos c9]; exact wrap_u _
  rw [if_neg c9]
  by_cases c10 : k = 10
  · rw [if_pos c10]; exact sh
  rw [if_neg c10]
  by_cases c11 : k = 11
  · rw [if_pos c11]; exact sarN_u _ _ ha
  rw [if_neg c11]
  by_cases c12 : k = 12
  · rw [if_pos c12]; exact bu _
  rw [if_neg c12]
  by_cases c13 : k = 13
  · rw [if_pos c13]; exact bu _
  rw [if_neg c13]
  by_cases c14 : k = 14
  · rw [if_pos c14]; exact (mulV_u _ _ _).2
  rw [if_neg c14]
  by_cases c15 : k = 15
  · rw [if_pos c15]; exact wrap_u _
  rw [if_neg c15]
  by_cases c16 : k = 16
  · rw [if_pos c16]; exact wrap_u _
  rw [if_neg c16]
  exact ha
def one18 (f : Nat → Int) (o : Op19) : Nat → Int :=
  let a := f o.a.toNat
  let b := f o.b.toNat
  if o.k = 0 then f else if o.k = 17 ∨ o.k = 18 then upd (upd f 32 (mulV a b (o.k == 17)).1) 33 (mulV a b (o.k == 17)).2
  else if o.k = 19 ∨ o.k = 20 then upd (upd f 33 (divV a b (o.k == 19)).1) 32 (divV a b (o.k == 19)).2
  else if (o.k = 21 ∨ o.k = 22) ∧ (b == 0) ≠ (o.k == 21) then f
  else if o.d > 0 then upd f o.d.toNat (valV o.k a b o.i) else f
def run18 (f : Nat → Int) (l : List Op19) : Nat → Int := l.foldl one18 f
def AllU (f : Nat → Int) : Prop := ∀ i, isU (f i)
theorem upd_u {f : Nat → Int} (h : AllU f) (i : Nat) {v : Int} (hv : isU v) : AllU (upd f i v) := fun j => by
  unfold upd; split
  · exact hv
  · exact h j
theorem one18_u {f : Nat → Int} (h : AllU f) {o : Op19} (ho : OpR o) : AllU (one18 f o) := by
  unfold one18
  dsimp only
  split
  · exact h
  split
  · exact upd_u (upd_u h _ (mulV_u _ _ _).1) _ (mulV_u _ _ _).2
  split
  · exact upd_u (upd_u h _ (divV_u (h _) _).1) _ (divV_u (h _) _).2
  split
  · exact h
  split
  · exact upd_u h _ (valV_u (h _) ho.i)
  · exact h
theorem upd_cK (kd : IntKind) (f : Nat → Int) (i : Nat) (v : Int) (j : Nat) : upd (cK kd f) i (.flat (.int kd v)) j = cK kd (upd f i v) j := by
  unfold upd cK
  dsimp only
  by_cases c : j = i
  · rw [if_pos c, if_pos c]
  · rw [if_neg c, if_neg c]

structure Regs (m : Mem) (v : AV) (f : Nat → Int) : Prop where
  l : IsL m 1 v 40 (cK .u32 f)
  u : AllU f
theorem Regs.st {v : AV} {f : Nat → Int} (h : Regs m v f) {i : Int} (i0 : 0 ≤ i) (i1 : i < 40) {x : Int} (hx : isU x) {k : Mem → Prop} (hk : ∀ m', Regs m' v (upd f i.toNat x) → Fr (own v) m m' → k m') :
    ksl v fun b o l p => kif (decide (0 ≤ i) && decide (i < l)) (stC m b (o + i.toNat * 1) (.flat (.int .u32 x)) k) False :=
  stC_r h.l i0 i1 fun m' g1 g2 g3 => hk m' ⟨g1.congr fun j hj => upd_cK .u32 f _ x j, upd_u h.u _ hx⟩ g2
theorem Regs.ld {v : AV} {f : Nat → Int} (h : Regs m v f) {i : Int} (i0 : 0 ≤ i) (i1 : i < 40) {k : Int → Prop} (hk : k (f i.toNat)) :
    ksl v fun b o l p => kif (decide (0 ≤ i) && decide (i < l)) (ldI .u32 m b (o + i.toNat * 1) k) False :=
  ldI_r (k := fun _ _ x => k x) h.l.r i0 i1 rfl fun _ _ _ => hk
theorem Regs.fr {m' : Mem} {S : Nat → Prop} {v : AV} {f : Nat → Int} (h : Regs m v f) (F : Fr S m m') (hs : ∀ b, own v b → ¬ S b) : Regs m' v f := ⟨h.l.fr F hs, h.u⟩
theorem Regs.keep {m' : Mem} {v : AV} {f : Nat → Int} (h : Regs m v f) (K : Keeps m m') : Regs m' v f := ⟨h.l.keep K, h.u⟩

/-- an operation in a block -/
def OpB (m : Mem) (b : Nat) (o : Op19) : Prop := ∃ y, m.obj b = some y ∧ y.n = 5 ∧ OpC y.c o
theorem OpB.l0 {b : Nat} {o : Op19} (h : OpB m b o) (k : Int → Prop) : ldI .i64 m b 0 k = k o.k := by obtain ⟨z, e, n, h0, h1, h2, h3, h4⟩ := h; exact ldI_of e (by omega) h0
theorem OpB.l1 {b : Nat} {o : Op19} (h : OpB m b o) (k : Int → Prop) : ldI .i64 m b 1 k = k o.d := by obtain ⟨z, e, n, h0, h1, h2, h3, h4⟩ := h; exact ldI_of e (by omega) h1
theorem OpB.l2 {b : Nat} {o : Op19} (h : OpB m b o) (k : Int → Prop) : ldI .i64 m b 2 k = k o.a := by obtain ⟨z, e, n, h0, h1, h2, h3, h4⟩ := h; exact ldI_of e (by omega) h2
theorem OpB.l3 {b : Nat} {o : Op19} (h : OpB m b o) (k : Int → Prop) : ldI .i64 m b 3 k = k o.b := by obtain ⟨z, e, n, h0, h1, h2, h3, h4⟩ := h; exact ldI_of e (by omega) h3
theorem OpB.l4 {b : Nat} {o : Op19} (h : OpB m b o) (k : Int → Prop) : ldI .u32 m b 4 k = k o.i := by obtain ⟨z, e, n, h0, h1, h2, h3, h4⟩ := h; exact ldI_of e (by omega) h4
theorem right18_spec {c : Nat → AV} {o : Op19} (hc : OpC c o) (ho : OpR o) {k : Bool → Mem → Prop} (hk : k true m) : F25 c m k := by
  unfold F25
  refine newK_i fun b m1 hb K e O => ?_
  have h : OpB m1 b o := ⟨_, e, rfl, hc⟩
  simp only [h.l0, h.l1, h.l2, h.l3]
  have := ho.k
  have := ho.d
  have := ho.a
  have := ho.b
  refine kif_t (by simp; omega) (kif_t (by simp; omega) (kif_t (by simp; omega) (kif_t (by simp; omega) (kif_t (by simp; omega) (kif_t (by simp; omega) (kif_t (by simp; omega) ⟨K, ?_⟩))))))
  rw [decide_eq_true (by omega)]; exact hk

/-- what an operation does -/
theorem put18 {v : AV} {f : Nat → Int} {b : Nat} {o : Op19} {x : Int} (h : Regs m v f) (hb : OpB m b o) (ho : OpR o) (hx : isU x) {kn : Mem → Prop} (hk : ∀ m', Regs m' v (if o.d > 0 then upd f o.d.toNat x else f) → Fr (own v) m m' → kn m') : P26_46102 v b 0 x m kn := by
  unfold P26_46102
  simp only [Nat.zero_add, hb.l1]
  refine kif_c _ (fun c => ?_) fun c => ?_
  · have c : o.d > 0 := by simpa using c
    rw [if_pos c] at hk
    exact h.st ho.d.1 ho.d.2 hx hk
  · have c : ¬ o.d > 0 := by simpa using c
    rw [if_neg c] at hk
    exact hk m h (Fr.refl _ _)
theorem one18_spec {v : AV} {f : Nat → Int} {c : Nat → AV} {o : Op19} (h : Regs m v f) (hc : OpC c o) (ho : OpR o) {k : Mem → Prop} (hk : ∀ m', Regs m' v (one18 f o) → Fr (own v) m m' → k m') : F26 v c m k := by
  unfold F26
  refine newK_i fun b m1 hb K e O => ?_
  have hB : OpB m1 b o := ⟨_, e, rfl, hc⟩
  have h1 := h.keep K
  have hk : ∀ m', Regs m' v (one18 f o) → Fr (own v) m1 m' → k m' := fun m' r F => hk m' r fun b' hb' hs => by rw [F b' (by rw [K b' hb']; exact hb') hs, K b' hb']
  rw [hB.l2]
  refine h1.ld ho.a.1 ho.a.2 ?_
  rw [hB.l3]
  refine h1.ld ho.b.1 ho.b.2 ?_
  rw [hB.l0]
  have ha := h1.u o.a.toNat
  have hbb := h1.u o.b.toNat
  have pt : ∀ x, isU x → (o.k ≠ 0 → ¬ (o.k = 17 ∨ o.k = 18) → ¬ (o.k = 19 ∨ o.k = 20) → ¬ ((o.k = 21 ∨ o.k = 22) ∧ (f o.b.toNat == 0) ≠ (o.k == 21)) → x = valV o.k (f o.a.toNat) (f o.b.toNat) o.i) → o.k ≠ 0 → ¬ (o.k = 17 ∨ o.k = 18) → ¬ (o.k = 19 ∨ o.k = 20) → ¬ ((o.k = 21 ∨ o.k = 22) ∧ (f o.b.toNat == 0) ≠ (o.k == 21)) → P26_46102 v b 0 x m1 (fun m91 => k m91) := fun x hx hv c0 c1 c2 c3 => by
    refine put18 h1 hB ho hx fun m' r F => hk m' ?_ F
    unfold one18
    dsimp only
    rw [if_neg c0, if_neg c1, if_neg c2, if_neg c3, ← hv c0 c1 c2 c3]
    exact r
  have tm : (f o.b.toNat).tmod 32 = f o.b.toNat % 32 := tmod_nn hbb.1
  rw [tm]
  refine kif_c _ (fun c => ?_) fun c0 => kif_c _ (fun c => ?_) fun c1 => kif_c _ (fun c => ?_) fun c2 => kif_c _ (fun c => ?_) fun c3 => kif_c _ (fun c => ?_) fun c4 => kif_c _ (fun c => ?_) fun c5 => kif_c _ (fun c => ?_) fun c6 => kif_c _ (fun c => ?_) fun c7 => kif_c _ (fun c => ?_) fun c8 => kif_c _ (fun c => ?_) fun c9 => kif_c _ (fun c => ?_) fun c10 => kif_c _ (fun c => ?_) fun c11 => ?_
  · have c : o.k = 0 := by simpa using c
    refine hk m1 ?_ (Fr.refl _ _)
    unfold one18; dsimp only; rw [if_pos c]; exact h1
  · have c : o.k = 1 := by simpa using c
    rw [hB.l4]
    exact pt _ ho.i (fun _ _ _ _ => by rw [c]; rfl) (by omega) (by omega) (by omega) (by omega)
  · have c : o.k = 2 := by simpa using c
    exact pt _ ha (fun _ _ _ _ => by rw [c]; rfl) (by omega) (by omega) (by omega) (by omega)
  · have c : o.k = 3 := by simpa using c
    exact pt _ (wrap_u _) (fun _ _ _ _ => by rw [c]; rfl) (by omega) (by omega) (by omega) (by omega)
  · have c : o.k = 4 := by simpa using c
    exact pt _ (wrap_u _) (fun _ _ _ _ => by rw [c]; rfl) (by omega) (by omega) (by omega) (by omega)
  · have c : o.k = 5 := by simpa using c
    exact pt _ (and_rng _ _) (fun _ _ _ _ => by rw [c]; rfl) (by omega) (by omega) (by omega) (by omega)
  · have c : o.k = 6 := by simpa using c
    exact pt _ (or_rng _ _) (fun _ _ _ _ => by rw [c]; rfl) (by omega) (by omega) (by omega) (by omega)
  · have c : o.k = 7 := by simpa using c
    exact pt _ (xor_rng _ _) (fun _ _ _ _ => by rw [c]; rfl) (by omega) (by omega) (by omega) (by omega)
  · have c : o.k = 8 := by simpa using c
    exact pt _ (xor_rng _ _) (fun _ _ _ _ => by rw [c]; rfl) (by omega) (by omega) (by omega) (by omega)
  · have c : o.k = 9 := by simpa using c
    exact kif_f (by simp; omega) (pt _ (wrap_u _) (fun _ _ _ _ => by rw [c]; rfl) (by omega) (by omega) (by omega) (by omega))
  · have c : o.k = 10 := by simpa using c
    refine kif_f (by simp; omega) (pt _ ?_ (fun _ _ _ _ => by rw [c]; rfl) (by omega) (by omega) (by omega) (by omega))
    have := valV_u (k := 10) (b := f o.b.toNat) ha ho.i
    exact this
  · have c : o.k = 11 := by simpa using c
    rw [wrap64 (by omega) (by omega)]
    exact sar_spec (by omega) (by omega) (pt _ (sarN_u _ _ ha) (fun _ _ _ _ => by rw [c]; rfl) (by omega) (by omega) (by omega) (by omega))
  · simp only [beq_iff_eq, beq_eq_false_iff_ne] at c0 c1 c2 c3 c4 c5 c6 c7 c8 c9 c10 c11
    have bu : ∀ q, isU (bitV q) := fun q => by unfold bitV; split <;> exact ⟨by decide, by decide⟩
    have main : ∀ q : Bool, (q = true ↔ o.k = 12 ∨ o.k = 13) → P26_29004 v b 0 (f o.a.toNat) (f o.b.toNat) 0 o.k q m1 (fun x78 m79 => P26_46102 v b 0 x78 m79 (fun m102 => k m102)) (fun m80 => k m80) := fun q hq => by
      unfold P26_29004
      simp only [Nat.zero_add, hB.l0]
      refine kif_c _ (fun c => ?_) fun c => kif_c _ (fun d => ?_) fun d14 => kif_c _ (fun d => ?_) fun d15 => kif_c _ (fun d => ?_) fun d16 => ?_
      · have c := hq.1 c
        refine rless_spec (bit18_spec (pt _ (bu _) (fun _ _ _ _ => ?_) (by omega) (by omega) (by omega) (by omega)))
        rcases c with c | c <;> (rw [c]; rfl)
      · have d : o.k = 14 := by simpa using d
        exact rmul_spec (pt _ (mulV_u _ _ _).2 (fun _ _ _ _ => by rw [d]; rfl) (by omega) (by omega) (by omega) (by omega))
      · have d : o.k = 15 := by simpa using d
        exact rclz_spec (pt _ (wrap_u _) (fun _ _ _ _ => by rw [d]; rfl) (by omega) (by omega) (by omega) (by omega))
      · have d : o.k = 16 := by simpa using d
        exact rclo_spec (pt _ (wrap_u _) (fun _ _ _ _ => by rw [d]; rfl) (by omega) (by omega) (by omega) (by omega))
      · have c : ¬ (o.k = 12 ∨ o.k = 13) := fun h => by rw [hq.2 h] at c; cases c
        simp only [beq_eq_false_iff_ne] at d14 d15 d16
        have m38 : ∀ q : Bool, (q = true ↔ o.k = 17 ∨ o.k = 18) → P26_38004 v b 0 (f o.a.toNat) (f o.b.toNat) 0 o.k q m1 (fun m72 => k m72) (fun x73 m74 => P26_46102 v b 0 x73 m74 (fun m102 => k m102)) := fun q hq => by
          unfold P26_38004
          simp only [Nat.zero_add, hB.l0]
          refine kif_c _ (fun d => ?_) fun d => ?_
          · have d := hq.1 d
            refine rmul_spec ?_
            refine h1.st (i := 32) (by omega) (by omega) (mulV_u _ _ _).1 fun m2 r2 F2 => ?_
            refine r2.st (i := 33) (by omega) (by omega) (mulV_u _ _ _).2 fun m3 r3 F3 => hk m3 ?_ (F2.trans F3)
            unfold one18; dsimp only; rw [if_neg c0, if_pos d]; exact r3
          · have d : ¬ (o.k = 17 ∨ o.k = 18) := fun h => by rw [hq.2 h] at d; cases d
            have m41 : ∀ q : Bool, (q = true ↔ o.k = 19 ∨ o.k = 20) → P26_41004 v b 0 (f o.a.toNat) (f o.b.toNat) 0 o.k q m1 (fun m72 => k m72) (fun x73 m74 => P26_46102 v b 0 x73 m74 (fun m102 => k m102)) := fun q hq => by
              unfold P26_41004
              simp only [Nat.zero_add, hB.l0]
              refine kif_c _ (fun g => ?_) fun g => ?_
              · have g := hq.1 g
                refine rdiv_spec hbb ?_
                refine h1.st (i := 33) (by omega) (by omega) (divV_u ha _).1 fun m2 r2 F2 => ?_
                refine r2.st (i := 32) (by omega) (by omega) (divV_u ha _).2 fun m3 r3 F3 => hk m3 ?_ (F2.trans F3)
                unfold one18; dsimp only; rw [if_neg c0, if_neg d, if_pos g]; exact r3
              · have g : ¬ (o.k = 19 ∨ o.k = 20) := fun h => by rw [hq.2 h] at g; cases g
                have m44 : P26_44004 v b 0 (f o.a.toNat) (f o.b.toNat) 0 true m1 (fun m72 => k m72) (fun x73 m74 => P26_46102 v b 0 x73 m74 (fun m102 => k m102)) := by
                  have hkk := ho.k
                  have k2 : o.k = 21 ∨ o.k = 22 := by omega
                  unfold P26_44004
                  simp only [Nat.zero_add, hB.l0]
                  refine kif_t rfl (kif_c _ (fun h => ?_) fun h => ?_)
                  · refine hk m1 ?_ (Fr.refl _ _)
                    have h : (f o.b.toNat == 0) ≠ (o.k == 21) := by simpa using h
                    unfold one18; dsimp only; rw [if_neg c0, if_neg d, if_neg g, if_pos ⟨k2, h⟩]; exact h1
                  · have h : (f o.b.toNat == 0) = (o.k == 21) := by simpa using h
                    exact pt _ ha (fun _ _ _ _ => by rcases k2 with e | e <;> (rw [e]; rfl)) c0 d g (fun hh => hh.2 h)
                have hkk := ho.k
                refine kif_c _ (fun h => ?_) fun h => ?_
                · have e : (o.k == 21) = true := h
                  rw [e]; exact m44
                · have e : (o.k == 22) = true := by
                    have : o.k ≠ 21 := by simpa using h
                    simp; omega
                  rw [e]; exact m44
            refine kif_c _ (fun h => m41 _ (by simp at h ⊢; simp [h])) fun h => m41 _ (by simp at h ⊢; omega)
        refine kif_c _ (fun h => m38 _ (by simp at h ⊢; simp [h])) fun h => m38 _ (by simp at h ⊢; omega)
    refine kif_c _ (fun h => main _ (by simp at h ⊢; simp [h])) fun h => main _ (by simp at h ⊢; omega)

/-! ### rows of operations -/
def IsOps (m : Mem) (v : AV) (l : List Op19) : Prop := ∃ c : Nat → AV, IsR m 5 v l.length c ∧ ∀ i, (h : i < l.length) → OpC (fun j => c (i * 5 + j)) l[i]
theorem IsOps.keep {m' : Mem} {v : AV} {l : List Op19} (h : IsOps m v l) (K : Keeps m m') : IsOps m' v l := by
  obtain ⟨c, h1, h2⟩ := h; exact ⟨c, h1.keep K, h2⟩
theorem IsOps.fr {m' : Mem} {S : Nat → Prop} {v : AV} {l : List Op19} (h : IsOps m v l) (F : Fr S m m') (hs : ∀ b, own v b → ¬ S b) : IsOps m' v l := by
  obtain ⟨c, h1, h2⟩ := h; exact ⟨c, h1.fr F hs, h2⟩
theorem IsOps.len {v : AV} {l : List Op19} (h : IsOps m v l) (k : Int → Prop) : klen v k = k (l.length : Int) := by
  obtain ⟨c, h1, h2⟩ := h; exact klen_r h1 k
theorem IsOps.ld {v : AV} {l : List Op19} (h : IsOps m v l) (i : Nat) (hi : i < l.length) {k : (Nat → AV) → Prop} (hk : ∀ c, OpC c l[i] → k c) : ksl v fun b o q p => kif (decide (0 ≤ (i : Int)) && decide ((i : Int) < q)) (ldG 5 m b (o + (i : Int).toNat * 5) k) False := by
  obtain ⟨c, h1, h2⟩ := h
  refine ldG_r h1 (by omega) (by omega) fun d hd => hk d ?_
  obtain ⟨a0, a1, a2, a3, a4⟩ := h2 i hi
  simp only [Int.toNat_natCast] at hd
  exact ⟨(hd 0 (by omega)).trans a0, (hd 1 (by omega)).trans a1, (hd 2 (by omega)).trans a2, (hd 3 (by omega)).trans a3, (hd 4 (by omega)).trans a4⟩
theorem rights_loop {v w : AV} {l : List Op19} (hl : l.length ≤ 8) (hw : IsOps m w l) (ho : ∀ o ∈ l, OpR o) {k0 : Mem → Prop} {kr : Bool → Mem → Prop} (hk : k0 m) : ∀ j i : Nat, i + j = l.length → L12_2 v w (j + 1) i m k0 kr
  | 0, i, e => by
    show R12_2 _ _ _ _ _ _ _
    unfold R12_2
    rw [hw.len]
    exact kif_f (by simp; omega) hk
  | j + 1, i, e => by
    show R12_2 _ _ _ _ _ _ _
    unfold R12_2
    rw [hw.len, wrap64 (n := (i : Int) + 1) (by omega) (by omega)]
    exact kif_t (by simp; omega) (hw.ld i (by omega) fun c hc => right18_spec hc (ho _ (List.getElem_mem _)) (kif_f rfl (rights_loop hl hw ho hk j (i + 1) (by omega))))
theorem ones_loop {v w : AV} {l : List Op19} (hl : l.length ≤ 8) (dis : ∀ b, own w b → ¬ own v b) (ho : ∀ o ∈ l, OpR o) {m0 : Mem} {k2 : Mem → Prop} : ∀ (j i : Nat) (m : Mem) (f : Nat → Int), i + j = l.length → IsOps m w l → Regs m v f → Fr (own v) m0 m → (∀ m', Regs m' v (run18 f (l.drop i)) → Fr (own v) m0 m' → k2 m') → L12_7 v w (j + 1) i m k2
  | 0, i, m, f, e, hw, hr, F, hk => by
    show R12_7 _ _ _ _ _ _
    unfold R12_7
    rw [hw.len]
    rw [List.drop_eq_nil_of_le (by omega)] at hk
    exact kif_f (by simp; omega) (hk m hr F)
  | j + 1, i, m, f, e, hw, hr, F, hk => by
    show R12_7 _ _ _ _ _ _
    unfold R12_7
    rw [hw.len, wrap64 (n := (i : Int) + 1) (by omega) (by omega)]
    rw [List.drop_eq_getElem_cons (by omega)] at hk
    exact kif_t (by simp; omega) (hw.ld i (by omega) fun c hc => one18_spec hr hc (ho _ (List.getElem_mem _)) fun m' r' F' => ones_loop hl dis ho j (i + 1) m' _ (by omega) (hw.fr F' dis) r' (F.trans F') hk)
theorem run18_spec {v w : AV} {l : List Op19} {f : Nat → Int} (hl : l.length ≤ 8) (dis : ∀ b, own w b → ¬ own v b) (ho : ∀ o ∈ l, OpR o) (hw : IsOps m w l) (hr : Regs m v f) {k : Bool → Mem → Prop} (hk : ∀ m', Regs m' v (run18 f l) → Fr (own v) m m' → k true m') : F12 v w m k := by
  unfold F12
  exact ⟨l.length + 1, rights_loop hl hw ho ⟨l.length + 1, ones_loop (m0 := m) hl dis ho l.length 0 m f (by omega) hw hr (Fr.refl _ _) hk⟩ l.length 0 (by omega)⟩
end
end Go.Proofs.YtkgidjnaddjjbaaGreat.Am
