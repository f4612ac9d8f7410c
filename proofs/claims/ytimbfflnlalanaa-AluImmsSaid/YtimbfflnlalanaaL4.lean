/- The law of chapter 4 on numbers in instructions over the abstract machine. Conditions: what is handed in is plain data. -/
import Derived.Test.YtimbfflnlalanaaM1
import Derived.Test.YtimbfflnlalanaaAmW2
namespace Go.Proofs.Ytimbfflnlalanaa.Am
set_option linter.unusedVariables false
set_option linter.unusedSimpArgs false


theorem wrapi32 (x : Int) : IntKind.wrap .i32 x = if x % 4294967296 ≥ 2147483648 then x % 4294967296 - 4294967296 else x % 4294967296 := by
  simp [IntKind.wrap, IntKind.bits, IntKind.signed]
/-- a number of 16 bits, signed -/
def sx (v : Int) : Int := if v ≥ 32768 then bits .or .u32 v 4294901760 else v
theorem sx_eq (v : Int) (h0 : 0 ≤ v) (h1 : v < 65536) : sx v = if v ≥ 32768 then v + 4294901760 else v := by
  unfold sx
  split
  · have e : bits .and .u32 v 65535 = v := by
      have := and_ones v h0 (by omega) 16 (by decide)
      have : bits .and .u32 v 65535 = v % 65536 := by simpa using this
      omega
    rw [or_bv, or_add]
    · rw [bv_toInt h0 (by omega), bv_toInt (by omega) (by omega)]
    · have e2 : bv v = bv v &&& bv 65535 := by
        have := congrArg bv e
        rw [and_bv, bv_back] at this; exact this.symm
      rw [e2, BitVec.and_assoc, show bv 65535 &&& bv 4294901760 = 0#32 by decide]
      simp
  · rfl
theorem min16 : min (16 : Int).toNat 32 = 16 := by decide
theorem sign_eq (v : Int) (h0 : 0 ≤ v) (h1 : v < 65536) : IntKind.wrap .u32 ((IntKind.wrap .i32 (IntKind.wrap .u32 (v * 65536))).fdiv 65536) = sx v := by
  rw [sx_eq v h0 h1, wrap32, wrapi32, wrap32, Int.fdiv_eq_ediv_of_nonneg _ (by decide)]
  split <;> split <;> omega

/-- an instruction: its Kind, its Shift, its number -/
def InC (c : Nat → AV) (k sh im : Int) : Prop := c 0 = .flat (.int .i64 k) ∧ c 4 = .flat (.int .i64 sh) ∧ c 5 = .flat (.int .u32 im)
theorem InC.sub {c : Nat → AV} {k sh im : Int} (h : InC c k sh im) : InC (sub c 0 6) k sh im := ⟨h.1, h.2.1, h.2.2⟩
theorem inc1 (k im : Int) : InC (upd (upd (Z6) 0 (.flat (.int .i64 k))) 5 (.flat (.int .u32 im))) k 0 im := ⟨rfl, rfl, rfl⟩
theorem inc2 (k sh : Int) : InC (upd (upd (Z6) 0 (.flat (.int .i64 k))) 4 (.flat (.int .i64 sh))) k sh 0 := ⟨rfl, rfl, rfl⟩
theorem inc0 (k : Int) : InC (upd (Z6) 0 (.flat (.int .i64 k))) k 0 0 := ⟨rfl, rfl, rfl⟩

section
variable {m : Mem} {c : Nat → AV} {sh im s t : Int}

/-! ### the parts -/
theorem sign_spec {v : Int} (h0 : 0 ≤ v) (h1 : v < 65536) {k : Int → Mem → Prop} (hk : k (sx v) m) : F19 v 16 m k := by
  unfold F19
  (repeat (first | refine kif_t (by decide) ?_ | refine kif_f (by decide) ?_ | refine ⟨Keeps.self _, ?_⟩))
  have e := sign_eq v h0 h1
  have e' : IntKind.wrap .u32 ((IntKind.wrap .i32 (IntKind.wrap .u32 (v * 2 ^ min (IntKind.wrap .i64 (32 - 16)).toNat 32))).fdiv (2 ^ min (bits .and .i64 (IntKind.wrap .i64 (32 - 16)) 31).toNat 32)) = sx v := by
    rw [show (2 : Int) ^ min (bits .and .i64 (IntKind.wrap .i64 (32 - 16)) 31).toNat 32 = 65536 by decide, show (2 : Int) ^ min (IntKind.wrap .i64 (32 - 16)).toNat 32 = 65536 by decide]
    exact e
  rw [e']
  exact hk
theorem less_spec {x y : Int} {b : Bool} {k : Bool → Mem → Prop} (hk : k (if b = true then decide (IntKind.wrap .i32 x < IntKind.wrap .i32 y) else decide (x < y)) m) : F20 x y b m k := by
  unfold F20
  cases b with
  | true => exact ⟨Keeps.self _, hk⟩
  | false => exact ⟨Keeps.self _, hk⟩
theorem one_spec {x : Bool} {k : Int → Mem → Prop} (hk : k (if x = true then 1 else 0) m) : F31 x m k := by
  unfold F31
  cases x with
  | true => exact ⟨Keeps.self _, hk⟩
  | false => exact ⟨Keeps.self _, hk⟩
/-- what two words make, by a Kind of registers -/
def opR (k s t : Int) : Int :=
  if k = 22 ∨ k = 23 then IntKind.wrap .u32 (s + t)
  else if k = 26 then bits .and .u32 s t
  else if k = 27 then bits .or .u32 s t
  else if k = 28 then bits .xor .u32 s t
  else if k = 29 then bits .xor .u32 4294967295 (bits .or .u32 s t)
  else if k = 30 then if decide (IntKind.wrap .i32 s < IntKind.wrap .i32 t) = true then 1 else 0
  else if decide (s < t) = true then 1 else 0
theorem of_spec {kd : Int} (hkd : kd = 22 ∨ kd = 23 ∨ kd = 26 ∨ kd = 27 ∨ kd = 28 ∨ kd = 29 ∨ kd = 30 ∨ kd = 31) {k : Int → Mem → Prop} (hk : k (opR kd s t) m) : F17 kd s t m k := by
  unfold F17
  rcases hkd with rfl | rfl | rfl | rfl | rfl | rfl | rfl | rfl
  all_goals (repeat (first | refine kif_t (by decide) ?_ | refine kif_f (by decide) ?_ | refine ⟨Keeps.self _, ?_⟩))
  · exact hk
  · exact hk
  · exact hk
  · exact hk
  · exact hk
  · exact hk
  all_goals
    dsimp only
    refine one_spec ?_
    exact ⟨Keeps.self _, hk⟩
/-- the Kind of registers of a Kind with a number -/
def regOf (k : Int) : Int := if k = 46 then 22 else if k = 47 then 23 else if k = 48 then 30 else if k = 49 then 31 else if k = 50 then 26 else if k = 51 then 27 else 28
def numOf (k im : Int) : Int := if k < 50 then sx im else im
theorem with_spec {kd : Int} (hkd : 46 ≤ kd ∧ kd ≤ 52) (h0 : 0 ≤ im) (h1 : im < 65536) (hc : InC c kd sh im) {k : Int → Mem → Prop} (hk : k (opR (regOf kd) s (numOf kd im)) m) : F16 c s m k := by
  unfold F16
  refine newK_i fun b m1 hb K e O => ⟨fun b' => b' = b, rfl, ?_⟩
  rw [ldI_of e (by show 5 < 6; omega) hc.2.2]
  refine ⟨rfl, ?_⟩
  rw [ldI_of e (by show 5 < 6; omega) hc.2.2]
  have em : bits .and .u32 im 65535 = im := by
    have := and_ones im h0 (by omega) 16 (by decide)
    have : bits .and .u32 im 65535 = im % 65536 := by simpa using this
    omega
  rw [em]
  refine sign_spec h0 h1 ⟨fun _ _ _ => rfl, ?_⟩
  rw [ldI_of e (by show 0 < 6; omega) hc.1]
  have : kd = 46 ∨ kd = 47 ∨ kd = 48 ∨ kd = 49 ∨ kd = 50 ∨ kd = 51 ∨ kd = 52 := by omega
  rcases this with rfl | rfl | rfl | rfl | rfl | rfl | rfl
  all_goals
    (repeat (first | refine kif_t (by decide) ?_ | refine kif_f (by decide) ?_ | refine ⟨Keeps.self _, ?_⟩))
    try unfold P16_5004
    (repeat (first | refine kif_t (by decide) ?_ | refine kif_f (by decide) ?_ | refine ⟨Keeps.self _, ?_⟩))
  · exact ⟨K, hk⟩
  · exact ⟨K, hk⟩
  all_goals
    try unfold P16_8004
    (repeat (first | refine kif_t (by decide) ?_ | refine kif_f (by decide) ?_ | refine ⟨Keeps.self _, ?_⟩))
  · rw [show (0 + 0 : Nat) = 0 from rfl, ldI_of e (by show 0 < 6; omega) hc.1]
    exact less_spec (one_spec ⟨K, hk⟩)
  · rw [show (0 + 0 : Nat) = 0 from rfl, ldI_of e (by show 0 < 6; omega) hc.1]
    exact less_spec (one_spec ⟨K, hk⟩)
  · exact ⟨K, hk⟩
  · exact ⟨K, hk⟩
  · exact ⟨K, hk⟩

theorem is_spec {kd : Int} (h : (1 ≤ kd ∧ kd ≤ 6) ∨ (22 ≤ kd ∧ kd ≤ 31) ∨ (46 ≤ kd ∧ kd ≤ 53)) {k : Bool → Mem → Prop} (hk : k true m) : F14 kd m k := by
  have step : ∀ (a b : Int) (x y : Prop), (a ≤ kd ∧ kd ≤ b → x) → (¬ (a ≤ kd ∧ kd ≤ b) → y) → kif (decide (kd ≥ a)) (kif (decide (kd ≤ b)) x y) y := by
    intro a b x y hx hy
    refine kif_c _ (fun c1 => kif_c _ (fun c2 => hx ⟨by simpa using c1, by simpa using c2⟩) fun c2 => hy fun q => ?_) fun c1 => hy fun q => ?_
    · simp at c2; omega
    · simp at c1; omega
  unfold F14
  refine step _ _ _ _ (fun _ => ⟨Keeps.self _, hk⟩) fun n1 => step _ _ _ _ (fun _ => ⟨Keeps.self _, hk⟩) fun n2 => step _ _ _ _ (fun _ => ⟨Keeps.self _, hk⟩) fun n3 => ?_
  omega
theorem isnt_spec {k : Bool → Mem → Prop} (hk : k false m) : F14 40 m k := by
  unfold F14
  (repeat (first | refine kif_t (by decide) ?_ | refine kif_f (by decide) ?_ | refine ⟨Keeps.self _, ?_⟩))
  exact hk

/-! ### Do -/
theorem do_imm {kd : Int} (hkd : 46 ≤ kd ∧ kd ≤ 52) (h0 : 0 ≤ im) (h1 : im < 65536) (hc : InC c kd sh im) {k : Int → Bool → Mem → Prop} (hk : k (opR (regOf kd) s (numOf kd im)) true m) : F7 c s t m k := by
  unfold F7
  refine newK_i fun b m1 hb K e O => ?_
  rw [ldI_of e (by show 0 < 6; omega) hc.1]
  refine is_spec (by omega) (kif_f rfl (kif_f (by simp; omega) (kif_f (by simp; omega) (kif_t (by simp; omega) ?_))))
  unfold P7_9004
  refine kif_t (by simp; omega) ?_
  rw [ldG_of e (by show 0 + 6 ≤ 6; omega)]
  exact with_spec hkd h0 h1 hc.sub ⟨K, hk⟩
theorem do_reg {kd : Int} (hkd : kd = 22 ∨ kd = 23 ∨ kd = 26 ∨ kd = 27 ∨ kd = 28 ∨ kd = 29 ∨ kd = 30 ∨ kd = 31) (hc : InC c kd sh im) {k : Int → Bool → Mem → Prop} (hk : k (opR kd s t) true m) : F7 c s t m k := by
  unfold F7
  refine newK_i fun b m1 hb K e O => ?_
  rw [ldI_of e (by show 0 < 6; omega) hc.1]
  refine is_spec (by omega) (kif_f rfl (kif_f (by simp; omega) (kif_f (by simp; omega) (kif_f (by simp; omega) ?_))))
  unfold P7_9004
  refine kif_f rfl ?_
  try unfold P7_10102
  dsimp only
  rw [show (0 + 0 : Nat) = 0 from rfl, ldI_of e (by show 0 < 6; omega) hc.1]
  exact of_spec hkd ⟨K, hk⟩
/-- shifted by a number -/
def shR (k x n : Int) : Int :=
  if k = 1 then IntKind.wrap .u32 (x * 2 ^ min n.toNat 32)
  else if k = 2 then x.fdiv (2 ^ min n.toNat 32)
  else IntKind.wrap .u32 ((IntKind.wrap .i32 x).fdiv (2 ^ min (bits .and .i64 n 31).toNat 32))
theorem and64_31 (n : Int) (h0 : 0 ≤ n) (h1 : n < 32) : bits .and .i64 n 31 = n := by
  have e : ∀ n : Fin 32, bits .and .i64 (n.val : Int) 31 = n.val := by decide +kernel
  have := e ⟨n.toNat, by omega⟩
  have ec : ((n.toNat : Nat) : Int) = n := by omega
  simpa only [ec] using this
theorem shifted_spec {kd n : Int} (hkd : 1 ≤ kd ∧ kd ≤ 6) (h0 : 0 ≤ n) (h1 : n < 32) {k : Int → Mem → Prop} (hk : k (shR (if kd ≤ 3 then kd else kd - 3) t n) m) : F15 kd t n m k := by
  unfold F15
  have : kd = 1 ∨ kd = 2 ∨ kd = 3 ∨ kd = 4 ∨ kd = 5 ∨ kd = 6 := by omega
  have hn : decide (n < 0) = false := by simp; omega
  have h31 := and64_31 n h0 h1
  rcases this with rfl | rfl | rfl | rfl | rfl | rfl
  all_goals
    (repeat (first | refine kif_t (by decide) ?_ | refine kif_f (by decide) ?_ | refine ⟨Keeps.self _, ?_⟩))
    try unfold P15_4004
    (repeat (first | refine kif_t (by decide) ?_ | refine kif_f (by decide) ?_ | refine ⟨Keeps.self _, ?_⟩))
  · exact kif_f hn ⟨Keeps.self _, hk⟩
  · exact kif_f hn ⟨Keeps.self _, hk⟩
  · delta P15_8102 F30
    dsimp only
    rw [h31]
    exact kif_f hn ⟨Keeps.self _, Keeps.self _, by rw [← h31]; exact hk⟩
  · exact kif_f hn ⟨Keeps.self _, hk⟩
  · exact kif_f hn ⟨Keeps.self _, hk⟩
  · delta P15_8102 F30
    dsimp only
    rw [h31]
    exact kif_f hn ⟨Keeps.self _, Keeps.self _, by rw [← h31]; exact hk⟩
theorem do_sh {kd : Int} (hkd : 1 ≤ kd ∧ kd ≤ 3) (h0 : 0 ≤ sh) (h1 : sh < 32) (hc : InC c kd sh im) {k : Int → Bool → Mem → Prop} (hk : k (shR kd t sh) true m) : F7 c s t m k := by
  unfold F7
  refine newK_i fun b m1 hb K e O => ?_
  rw [ldI_of e (by show 0 < 6; omega) hc.1]
  refine is_spec (by omega) (kif_f rfl (kif_t (by simp; omega) ?_))
  rw [ldI_of e (by show 4 < 6; omega) hc.2.1, and64_31 sh h0 h1]
  exact shifted_spec (by omega) h0 h1 ⟨K, by rw [if_pos (by omega)]; exact hk⟩
theorem do_shv {kd : Int} (hkd : 4 ≤ kd ∧ kd ≤ 6) (hs0 : 0 ≤ s) (hs1 : s < 4294967296) (hc : InC c kd sh im) {k : Int → Bool → Mem → Prop} (hk : k (shR (kd - 3) t (s % 32)) true m) : F7 c s t m k := by
  unfold F7
  refine newK_i fun b m1 hb K e O => ?_
  rw [ldI_of e (by show 0 < 6; omega) hc.1]
  refine is_spec (by omega) (kif_f rfl (kif_f (by simp; omega) (kif_t (by simp; omega) ?_)))
  have e31 : bits .and .u32 s 31 = s % 32 := by have := and_ones s hs0 hs1 5 (by decide); simpa using this
  rw [e31, wrap64 (by omega) (by omega)]
  exact shifted_spec (by omega) (by omega) (by omega) ⟨K, by rw [if_neg (by omega)]; exact hk⟩
theorem do_no (hc : InC c 40 sh im) {k : Int → Bool → Mem → Prop} (hk : k 0 false m) : F7 c s t m k := by
  unfold F7
  refine newK_i fun b m1 hb K e O => ?_
  rw [ldI_of e (by show 0 < 6; omega) hc.1]
  exact isnt_spec (kif_t rfl ⟨K, hk⟩)

/-! ### Traps -/
def overR (s t : Int) : Bool := IntKind.wrap .i64 ((IntKind.wrap .i64 (IntKind.wrap .i32 s)) + (IntKind.wrap .i64 (IntKind.wrap .i32 t))) != IntKind.wrap .i64 (IntKind.wrap .i32 (IntKind.wrap .i64 ((IntKind.wrap .i64 (IntKind.wrap .i32 s)) + (IntKind.wrap .i64 (IntKind.wrap .i32 t)))))
theorem over_spec {k : Bool → Mem → Prop} (hk : k (overR s t) m) : F18 s t false m k := by
  unfold F18
  refine kif_f rfl ?_
  unfold P18_4102
  exact ⟨Keeps.self _, hk⟩
def trapR (k s t : Int) : Bool := if k = 22 then overR s t else false
theorem traps_reg {kd : Int} (hkd : kd = 22 ∨ kd = 23 ∨ kd = 30 ∨ kd = 31) (hc : InC c kd sh im) {k : Bool → Mem → Prop} (hk : k (trapR kd s t) m) : F9 c s t m k := by
  unfold F9
  refine newK_i fun b m1 hb K e O => ?_
  rw [ldI_of e (by show 0 < 6; omega) hc.1]
  rcases hkd with rfl | rfl | rfl | rfl
  all_goals
    (repeat (first | refine kif_t (by decide) ?_ | refine kif_f (by decide) ?_ | refine ⟨Keeps.self _, ?_⟩))
    try unfold P9_4004
    (repeat (first | refine kif_t (by decide) ?_ | refine kif_f (by decide) ?_ | refine ⟨Keeps.self _, ?_⟩))
  · rw [show (0 + 0 : Nat) = 0 from rfl, ldI_of e (by show 0 < 6; omega) hc.1]
    exact over_spec ⟨K, hk⟩
  · exact ⟨K, hk⟩
  · exact ⟨K, hk⟩
  · exact ⟨K, hk⟩
theorem traps_imm {kd : Int} (hkd : 46 ≤ kd ∧ kd ≤ 49) (h0 : 0 ≤ im) (h1 : im < 65536) (hc : InC c kd sh im) {k : Bool → Mem → Prop} (hk : k (trapR (regOf kd) s (numOf kd im)) m) : F9 c s t m k := by
  unfold F9
  refine newK_i fun b m1 hb K e O => ?_
  rw [ldI_of e (by show 0 < 6; omega) hc.1]
  have : kd = 46 ∨ kd = 47 ∨ kd = 48 ∨ kd = 49 := by omega
  rcases this with rfl | rfl | rfl | rfl
  all_goals
    (repeat (first | refine kif_t (by decide) ?_ | refine kif_f (by decide) ?_ | refine ⟨Keeps.self _, ?_⟩))
    try unfold P9_4004
    (repeat (first | refine kif_t (by decide) ?_ | refine kif_f (by decide) ?_ | refine ⟨Keeps.self _, ?_⟩))
  · rw [show (0 + 5 : Nat) = 5 from rfl, ldI_of e (by show 5 < 6; omega) hc.2.2]
    exact sign_spec h0 h1 (over_spec ⟨K, hk⟩)
  · exact ⟨K, hk⟩
  · exact ⟨K, hk⟩
  · exact ⟨K, hk⟩
end

theorem known4 {m : Mem} {k : Bool → Mem → Prop} (hk : k true m) : F8 m k := by
  unfold F8
  refine do_reg (by omega) (inc0 29) (do_no (inc0 40) ?_)
  refine kif_t (by decide) (kif_t rfl (kif_t rfl (traps_reg (by omega) (inc0 22) (kif_t (by decide) (traps_reg (by omega) (inc0 23) ⟨Keeps.self _, hk⟩)))))

/-! ### the law -/
/-- a list of pairs in a block -/
def Pairs (m : Mem) (b : Nat) (l : List (Int × Int)) : Prop := ∃ x, m.obj b = some x ∧ x.n = 2 * l.length ∧ ∀ i, (h : i < l.length) → x.c (i * 2) = .flat (.int .i64 l[i].1) ∧ x.c (i * 2 + 1) = .flat (.int .i64 l[i].2)
theorem Pairs.keep {m m' : Mem} {b : Nat} {l : List (Int × Int)} (h : Pairs m b l) (K : Keeps m m') : Pairs m' b l := by
  obtain ⟨x, e, r⟩ := h; exact ⟨x, by rw [K b (by rw [e]; simp)]; exact e, r⟩
/-- one pair, in a box of its own -/
theorem Pairs.at {m : Mem} {b : Nat} {l : List (Int × Int)} (h : Pairs m b l) {i : Nat} (hi : i < l.length) {z : Nat → AV} {tt : TypeId} {k : Nat → Mem → Prop}
    (hk : ∀ b' m', Keeps m m' → (∀ q : Int → Prop, ldI .i64 m' b' 0 q = q l[i].1) → (∀ q : Int → Prop, ldI .i64 m' b' 1 q = q l[i].2) → k b' m') :
    ldG 2 m b (0 + (i : Int).toNat * 2) fun c => newK m ⟨2, z, tt, false⟩ fun b' m1 => stG 2 m1 b' 0 c fun m2 => k b' m2 := by
  obtain ⟨x, e, hn, hc⟩ := h
  rw [Int.toNat_natCast, Nat.zero_add, ldG_of e (by omega)]
  refine boxN fun b' m' y hb K ey hyn _ hyc => hk b' m' K ?_ ?_
  · exact fun q => ldI_of ey (by omega) (by rw [hyc 0 (by omega)]; simp only [sub]; rw [if_pos (by omega)]; exact (hc i hi).1)
  · exact fun q => ldI_of ey (by omega) (by rw [hyc 1 (by omega)]; simp only [sub]; rw [if_pos (by omega)]; exact (hc i hi).2)

section
variable {x0 : Int}
theorem imm_loop {v : Int} (v0 : 0 ≤ v) (v1 : v < 65536) {x2 : Int} {b : Nat} {k0 : Mem → Prop} {kr : Bool → Mem → Prop} (hk : ∀ m, k0 m) : ∀ (r i : Nat) (m : Mem), i + r = 4 → Pairs m b [(47, 23), (46, 22), (48, 30), (49, 31)] → L4_6 x0 x2 v (sx v) (.sl b 0 4 (.ex 4)) 4 (r + 1) i m k0 kr := by
  intro r
  induction r with
  | zero =>
    intro i m hi h
    unfold L4_6 R4_6
    exact kif_f (by simp; omega) (hk m)
  | succ r ih =>
    intro i m hi h
    unfold L4_6 R4_6
    refine kif_t (by simp; omega) (kif_ix (by omega) (by show (i : Int) < (4 : Nat); omega) (h.at (i := i) (by show i < 4; omega) fun b' m' K q0 q1 => ?_))
    rw [q0]
    generalize hl : ([(47, 23), (46, 22), (48, 30), (49, 31)] : List (Int × Int))[i]'(by show i < 4; omega) = p at q0 q1 ⊢
    have hp : p.1 ≤ 49 ∧ 46 ≤ p.1 ∧ regOf p.1 = p.2 ∧ (p.2 = 22 ∨ p.2 = 23 ∨ p.2 = 30 ∨ p.2 = 31) := by
      have : i = 0 ∨ i = 1 ∨ i = 2 ∨ i = 3 := by omega
      rcases this with rfl | rfl | rfl | rfl <;> (simp at hl; subst hl; decide)
    obtain ⟨p1, p2, p3, p4⟩ := hp
    have en : numOf p.1 v = sx v := by unfold numOf; rw [if_pos (by omega)]
    refine do_imm (by omega) v0 v1 (inc1 p.1 v) ?_
    rw [q1, p3, en]
    refine do_reg (by omega) (inc0 p.2) ⟨fun b'' => b'' = b', kif_f rfl (kif_f rfl (kif_f (by simp) ⟨rfl, ?_⟩))⟩
    rw [q0]
    refine traps_imm (by omega) v0 v1 (inc1 p.1 v) ⟨fun _ _ _ => rfl, rfl, ?_⟩
    rw [q1, p3, en]
    refine traps_reg p4 (inc0 p.2) ⟨fun _ _ _ => rfl, kif_f (by simp) ?_⟩
    rw [wrap64 (by omega) (by omega)]
    have := ih (i + 1) m' (by omega) (h.keep K)
    simpa using this
theorem log_loop {v : Int} (v0 : 0 ≤ v) (v1 : v < 65536) {x2 : Int} {b : Nat} {k0 : Mem → Prop} {kr : Bool → Mem → Prop} (hk : ∀ m, k0 m) : ∀ (r i : Nat) (m : Mem), i + r = 3 → Pairs m b [(50, 26), (51, 27), (52, 28)] → L4_14 x0 x2 v (.sl b 0 3 (.ex 3)) 3 (r + 1) i m k0 kr := by
  intro r
  induction r with
  | zero =>
    intro i m hi h
    unfold L4_14 R4_14
    exact kif_f (by simp; omega) (hk m)
  | succ r ih =>
    intro i m hi h
    unfold L4_14 R4_14
    refine kif_t (by simp; omega) (kif_ix (by omega) (by show (i : Int) < (3 : Nat); omega) (h.at (i := i) (by show i < 3; omega) fun b' m' K q0 q1 => ?_))
    rw [q0]
    generalize hl : ([(50, 26), (51, 27), (52, 28)] : List (Int × Int))[i]'(by show i < 3; omega) = p at q0 q1 ⊢
    have hp : p.1 ≤ 52 ∧ 50 ≤ p.1 ∧ regOf p.1 = p.2 ∧ (p.2 = 26 ∨ p.2 = 27 ∨ p.2 = 28) := by
      have : i = 0 ∨ i = 1 ∨ i = 2 := by omega
      rcases this with rfl | rfl | rfl <;> (simp at hl; subst hl; decide)
    obtain ⟨p1, p2, p3, p4⟩ := hp
    have en : numOf p.1 v = v := by unfold numOf; rw [if_neg (by omega)]
    refine do_imm (by omega) v0 v1 (inc1 p.1 v) ?_
    rw [q1, p3, en]
    refine do_reg (by omega) (inc0 p.2) (kif_f (by simp) ?_)
    rw [wrap64 (by omega) (by omega)]
    have := ih (i + 1) m' (by omega) (h.keep K)
    simpa using this
theorem sh_loop {n : Int} (n0 : 0 ≤ n) (n1 : n < 32) {b : Nat} {k0 : Mem → Prop} {kr : Bool → Mem → Prop} (hk : ∀ m, k0 m) : ∀ (r i : Nat) (m : Mem), i + r = 3 → Pairs m b [(1, 4), (2, 5), (3, 6)] → L4_23 x0 n (.sl b 0 3 (.ex 3)) 3 (r + 1) i m k0 kr := by
  intro r
  induction r with
  | zero =>
    intro i m hi h
    unfold L4_23 R4_23
    exact kif_f (by simp; omega) (hk m)
  | succ r ih =>
    intro i m hi h
    unfold L4_23 R4_23
    refine kif_t (by simp; omega) (kif_ix (by omega) (by show (i : Int) < (3 : Nat); omega) (h.at (i := i) (by show i < 3; omega) fun b' m' K q0 q1 => ?_))
    rw [q0]
    generalize hl : ([(1, 4), (2, 5), (3, 6)] : List (Int × Int))[i]'(by show i < 3; omega) = p at q0 q1 ⊢
    have hp : p.1 ≤ 3 ∧ 1 ≤ p.1 ∧ p.2 = p.1 + 3 := by
      have : i = 0 ∨ i = 1 ∨ i = 2 := by omega
      rcases this with rfl | rfl | rfl <;> (simp at hl; subst hl; decide)
    obtain ⟨p1, p2, p3⟩ := hp
    refine do_sh (by omega) n0 n1 (inc2 p.1 n) ?_
    rw [q1]
    have e : IntKind.wrap .u32 (IntKind.wrap .u32 n + 32) = n + 32 := by rw [wrap32, wrap32]; omega
    rw [e]
    refine do_shv (by omega) (by omega) (by omega) (inc0 p.2) (kif_f ?_ ?_)
    · rw [show p.2 - 3 = p.1 by omega, show (n + 32) % 32 = n by omega]; simp
    rw [wrap64 (by omega) (by omega)]
    have := ih (i + 1) m' (by omega) (h.keep K)
    simpa using this
end

theorem mod32 (x : Int) : 0 ≤ (IntKind.wrap .i64 (x.tmod 32 + 32)).tmod 32 ∧ (IntKind.wrap .i64 (x.tmod 32 + 32)).tmod 32 < 32 := by
  have h : -32 < x.tmod 32 ∧ x.tmod 32 < 32 := by
    by_cases c : 0 ≤ x
    · rw [tmod_nn c]; omega
    · have e : x.tmod 32 = -((-x).tmod 32) := by rw [Int.neg_tmod]; omega
      rw [e, tmod_nn (by omega)]; omega
  rw [wrap64 (by omega) (by omega), tmod_nn (by omega)]
  omega

theorem AluImms {m : Mem} {x0 x1 x2 : Int} (h1 : (Lit.int .u32 x0).wf = true) (h2 : (Lit.int .u32 x1).wf = true) (h3 : (Lit.int .i64 x2).wf = true) : F4 x0 x1 x2 m isTrue := by
  obtain ⟨q0, q1⟩ := wf_u32 h2
  unfold F4
  have ev : bits .and .u32 x1 65535 = x1 % 65536 := by have := and_ones x1 q0 q1 16 (by decide); simpa using this
  rw [ev]
  generalize hv : x1 % 65536 = v
  have v0 : 0 ≤ v := by omega
  have v1 : v < 65536 := by omega
  have main : P4_5103 x0 x2 v (sx v) m isTrue := by
    unfold P4_5103
    refine newK_i fun b m1 hb K e O => ⟨5, imm_loop v0 v1 (fun m26 => ?_) 4 0 m1 (by omega) ⟨_, e, rfl, fun i hi => ?_⟩⟩
    · refine newK_i fun b m2 hb K e O => ⟨4, log_loop v0 v1 (fun m48 => ?_) 3 0 m2 (by omega) ⟨_, e, rfl, fun i hi => ?_⟩⟩
      · refine newK_i fun b m3 hb K e O => ⟨4, sh_loop (mod32 x2).1 (mod32 x2).2 (fun m70 => known4 rfl) 3 0 m3 (by omega) ⟨_, e, rfl, fun i hi => ?_⟩⟩
        have hi : i < 3 := hi
        have : i = 0 ∨ i = 1 ∨ i = 2 := by omega
        rcases this with rfl | rfl | rfl <;> exact ⟨rfl, rfl⟩
      · have hi : i < 3 := hi
        have : i = 0 ∨ i = 1 ∨ i = 2 := by omega
        rcases this with rfl | rfl | rfl <;> exact ⟨rfl, rfl⟩
    · have hi : i < 4 := hi
      have : i = 0 ∨ i = 1 ∨ i = 2 ∨ i = 3 := by omega
      rcases this with rfl | rfl | rfl | rfl <;> exact ⟨rfl, rfl⟩
  refine kif_c _ (fun c => ?_) fun c => ?_
  · have c : v ≥ 32768 := by simpa using c
    have e : sx v = bits .or .u32 v 4294901760 := by unfold sx; rw [if_pos c]
    rw [← e]; exact main
  · have c : ¬ v ≥ 32768 := by simpa using c
    have e : sx v = v := by unfold sx; rw [if_neg c]
    have main := main
    rw [e] at main
    exact main

end Go.Proofs.Ytimbfflnlalanaa.Am
