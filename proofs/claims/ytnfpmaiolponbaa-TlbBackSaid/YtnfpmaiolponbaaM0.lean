/- What Go functions ask of what follows them, as plain functions over the abstract machine; the machine asks just that. Written by gen.py. -/
import Derived.Test.YtnfpmaiolponbaaProg
import Derived.Test.YtnfpmaiolponbaaAmL
namespace Go.Proofs.Ytnfpmaiolponbaa.Am
set_option linter.unusedVariables false
set_option linter.unusedSimpArgs false
set_option maxRecDepth 100000

def Z73 : Nat → AV := lget [(.flat (.int .u32 0)), (.flat (.int .u32 0)), (.flat (.int .u32 0)), (.flat (.int .u32 0)), (.flat (.int .u32 0)), (.flat (.int .u32 0)), (.flat (.int .u32 0)), (.flat (.int .u32 0)), (.flat (.int .u32 0)), (.flat (.int .u32 0)), (.flat (.int .u32 0)), (.flat (.int .u32 0)), (.flat (.int .u32 0)), (.flat (.int .u32 0)), (.flat (.int .u32 0)), (.flat (.int .u32 0)), (.flat (.int .u32 0)), (.flat (.int .u32 0)), (.flat (.int .u32 0)), (.flat (.int .u32 0)), (.flat (.int .u32 0)), (.flat (.int .u32 0)), (.flat (.int .u32 0)), (.flat (.int .u32 0)), (.flat (.int .u32 0)), (.flat (.int .u32 0)), (.flat (.int .u32 0)), (.flat (.int .u32 0)), (.flat (.int .u32 0)), (.flat (.int .u32 0)), (.flat (.int .u32 0)), (.flat (.int .u32 0)), (.flat (.int .u32 0)), (.flat (.int .u32 0)), (.flat (.int .u32 0)), (.flat (.int .u32 0)), (.flat (.bool false)), (.flat (.bool false)), (.flat (.int .u32 0)), (.flat (.int .u32 0)), (.flat (.int .u32 0)), (.flat (.int .u32 0)), (.flat (.int .u32 0)), (.flat (.int .u32 0)), (.flat (.int .u32 0)), (.flat (.int .u32 0)), (.flat (.int .u32 0)), (.flat (.int .u32 0)), (.flat (.int .u32 0)), (.flat (.int .u32 0)), (.flat (.int .u32 0)), (.flat (.int .u32 0)), (.flat (.int .u32 0)), (.flat (.int .u32 0)), (.flat (.int .u32 0)), (.flat (.int .u32 0)), (.flat (.int .u32 0)), (.flat (.int .u32 0)), (.flat (.int .u32 0)), (.flat (.int .u32 0)), (.flat (.int .u32 0)), (.flat (.int .u32 0)), (.flat (.int .u32 0)), (.flat (.int .u32 0)), (.flat (.int .u32 0)), (.flat (.int .u32 0)), (.flat (.int .u32 0)), (.flat (.int .u32 0)), (.flat (.int .u32 0)), (.flat (.int .u32 0)), (.flat (.int .u32 0)), (.flat (.bool false)), (.flat (.int .i64 0))]

def Z8 : Nat → AV := lget [(.flat (.int .i64 0)), (.flat (.int .i64 0)), (.flat (.int .i64 0)), (.flat (.int .i64 0)), (.flat (.int .i64 0)), (.flat (.int .i64 0)), (.flat (.int .i64 0)), (.flat (.int .i64 0))]

def K29 : List (Nat × LK) := [(0, (.i .u32)), (1, (.i .u32)), (2, (.i .u32)), (3, (.i .u32)), (4, (.i .u32)), (5, (.i .u32)), (6, (.i .u32)), (7, (.i .u32)), (8, (.i .u32)), (9, (.i .u32)), (10, (.i .u32)), (11, (.i .u32)), (12, (.i .u32)), (13, (.i .u32)), (14, (.i .u32)), (15, (.i .u32)), (16, (.i .u32)), (17, (.i .u32)), (18, (.i .u32)), (19, (.i .u32)), (20, (.i .u32)), (21, (.i .u32)), (22, (.i .u32)), (23, (.i .u32)), (24, (.i .u32)), (25, (.i .u32)), (26, (.i .u32)), (27, (.i .u32)), (28, (.i .u32)), (29, (.i .u32)), (30, (.i .u32)), (31, (.i .u32)), (32, (.i .u32)), (33, (.i .u32)), (34, (.i .u32)), (35, (.i .u32)), (36, .b), (37, .b), (38, (.i .u32)), (39, (.i .u32)), (40, (.i .u32)), (41, (.i .u32)), (42, (.i .u32)), (43, (.i .u32)), (44, (.i .u32)), (45, (.i .u32)), (46, (.i .u32)), (47, (.i .u32)), (48, (.i .u32)), (49, (.i .u32)), (50, (.i .u32)), (51, (.i .u32)), (52, (.i .u32)), (53, (.i .u32)), (54, (.i .u32)), (55, (.i .u32)), (56, (.i .u32)), (57, (.i .u32)), (58, (.i .u32)), (59, (.i .u32)), (60, (.i .u32)), (61, (.i .u32)), (62, (.i .u32)), (63, (.i .u32)), (64, (.i .u32)), (65, (.i .u32)), (66, (.i .u32)), (67, (.i .u32)), (68, (.i .u32)), (69, (.i .u32)), (70, (.i .u32)), (71, .b), (72, (.i .i64))]

/-- pianola/cp0.Fresh -/
def F7  (m : Mem) (k : (Nat → AV) → Mem → Prop) : Prop :=
  newK m ⟨73, Z73, 29, false⟩ fun b2 m1 => newK m1 ⟨73, Z73, 29, false⟩ fun b4 m3 => stG 73 m3 b4 0 (upd (upd (Z73) 34 (.flat (.int .u32 2147484672))) 35 (.flat (.int .u32 2147484676))) fun m5 => stC m5 b4 54 (.flat (.int .u32 98304)) fun m6 => ldG 73 m6 b4 0 fun c7 => stG 73 m6 b2 0 c7 fun m8 => ldG 73 m8 b2 0 fun c9 => (Keeps m m8 ∧ InDomG 73 m c9 ∧ k c9 m)

def G7 (args : List AV) (m : Mem) (k : KV) : Prop := match args with
  | [] => F7  m (fun c_1000 m' => k (.agg 73 c_1000) m')
  | _ => False

def E7 : Env := envOf []

def Lam7 : LEnv := ⟨fun a σ m k => match firstReg a with
  | _ => bump False,
  fun id => match id with
  | _ => bump false,
  fun b => match keyC b with
  | _ => bump false,
  fun b σ m k => match keyC b with
  | _ => bump False⟩

theorem eqn7  (m : Mem) (k : KV) : bodyK Try.prog E7 Lam7 Try.f7 true [] m k = F7  m (fun c_1000 m' => k (.agg 73 c_1000) m') := by
  kernel_rfl

theorem fs7 (w0 : World) : FS Try.prog w0 7 G7 := by
  refine (fs_body (Γ := E7) (sound_env (l := []) w0 (by
    intro p hp
    cases hp)) (by kernel_rfl) Try.func7 (Λ := Lam7) (c := (bodyOf Try.f7)) (by kernel_rfl) Try.call7 (by kernel_rfl) (LS_of (bodyOf Try.f7) 0 (by kernel_rfl) (fun i hi => absurd hi (Nat.not_lt_zero i)) 0 (by kernel_rfl) (fun i hi => absurd hi (Nat.not_lt_zero i))) true (np := 0) (Nat.le_of_ble_eq_true (by kernel_rfl))).imp fun args => ?_
  by_cases hl : args.length = 0
  rotate_left
  · exact .inr fun m k hk => by
      unfold G7 at hk
      split at hk
      · exact hl rfl
      · exact hk
  obtain rfl : args = [] := len_list0 hl

  exact .inl fun m k => propext ⟨fun h => ⟨rfl, by rw [eqn7]; simpa only [G7, kI, kbool, kS, kptr, kaggN, kite, decide_true, eq_self] using h⟩, fun h => by have h := h.2; rw [eqn7] at h; simpa only [G7, kI, kbool, kS, kptr, kaggN, kite, decide_true, eq_self] using h⟩

def P8_10004 (b_0 o_0 : Nat) (x_1 : Int) (x_2 : Int) (x_8 : Int) (x_36 : Bool) (m : Mem) (kn : Mem → Prop) : Prop :=
  kif x_36 (kif (decide (0 ≤ x_1) && decide (x_1 < 16)) (stC m b_0 (o_0 + 39 + (x_1).toNat * 1) (.flat (.int .u32 x_2)) fun m4 => kn  m4) False) (kif (x_8 == 11) (kif (decide (0 ≤ x_1) && decide (x_1 < 16)) (stC m b_0 (o_0 + 39 + (x_1).toNat * 1) (.flat (.int .u32 x_2)) fun m5 => ldI .u32 m5 b_0 (o_0 + 39 + 13) fun x6 => stC m5 b_0 (o_0 + 39 + 13) (.flat (.int .u32 (bits .andNot .u32 x6 32768))) fun m7 => kn  m7) False) (kif (x_8 == 12) (kif (decide (0 ≤ x_1) && decide (x_1 < 16)) (stC m b_0 (o_0 + 39 + (x_1).toNat * 1) (.flat (.int .u32 (bits .and .u32 x_2 65299))) fun m8 => kn  m8) False) (kif (x_8 == 13) (kif (decide (0 ≤ x_1) && decide (x_1 < 16)) (ldI .u32 m b_0 (o_0 + 39 + (x_1).toNat * 1) fun x9 => kif (decide (0 ≤ x_1) && decide (x_1 < 16)) (stC m b_0 (o_0 + 39 + (x_1).toNat * 1) (.flat (.int .u32 (bits .or .u32 (bits .andNot .u32 x9 768) (bits .and .u32 x_2 768)))) fun m10 => kn  m10) False) False) (kn  m))))

/-- pianola/cp0.Write -/
def F8 (b_0 o_0 : Nat) (x_1 : Int) (x_2 : Int) (m : Mem) (k : Mem → Prop) : Prop :=
  kif (x_1 == 0) (kif (decide (0 ≤ x_1) && decide (x_1 < 16)) (stC m b_0 (o_0 + 39 + (x_1).toNat * 1) (.flat (.int .u32 (bits .and .u32 x_2 7))) fun m1 => k  m1) False) (kif (x_1 == 2) (kif (decide (0 ≤ x_1) && decide (x_1 < 16)) (stC m b_0 (o_0 + 39 + (x_1).toNat * 1) (.flat (.int .u32 (bits .and .u32 x_2 4294966279))) fun m2 => k  m2) False) (kif (x_1 == 10) (kif (decide (0 ≤ x_1) && decide (x_1 < 16)) (stC m b_0 (o_0 + 39 + (x_1).toNat * 1) (.flat (.int .u32 (bits .and .u32 x_2 4294966527))) fun m3 => k  m3) False) (kif (x_1 == 9) (P8_10004 b_0 o_0 x_1 x_2 x_1 (x_1 == 9) m (fun m11 => k  m11)) (P8_10004 b_0 o_0 x_1 x_2 x_1 (x_1 == 14) m (fun m12 => k  m12)))))

def G8 (args : List AV) (m : Mem) (k : KV) : Prop := match args with
  | [a0, a1, a2] => kptr a0 fun b_0 o_0 => kI .i64 a1 fun x_1 => kI .u32 a2 fun x_2 => F8 b_0 o_0 x_1 x_2 m (fun m' => k (.tup []) m')
  | _ => False

def E8 : Env := envOf []

def LamP8_10004 (σ : Nat → AV) (m : Mem) (k : KX) : Prop := kptr (σ 0) fun b_0 o_0 => kI .i64 (σ 1) fun x_1 => kI .u32 (σ 2) fun x_2 => kI .i64 (σ 8) fun x_8 => kbool (σ 36) fun x_36 => P8_10004 b_0 o_0 x_1 x_2 x_8 x_36 m (fun m' => k .normal (only [] []) m')

def Lam8 : LEnv := ⟨fun a σ m k => match firstReg a with
  | _ => bump False,
  fun id => match id with
  | _ => bump false,
  fun b => match keyC b with
  | some 10004 => true
  | _ => bump false,
  fun b σ m k => match keyC b with
  | some 10004 => LamP8_10004 σ m k
  | _ => bump False⟩

def lxp8_10004 : Ex → List Nat := fun e => match e with
  | .normal => []
  | _ => []

theorem pc8_10004 (b_0 o_0 : Nat) (x_1 : Int) (x_2 : Int) (x_8 : Int) (x_36 : Bool) (m : Mem) (k : KX) : once Try.prog E8 Lam8 [0, 1, 2, 8, 36] lxp8_10004 (((secsOf (bodyOf Try.f8)).filter Lam8.cut).getD 0 .skip) [(.ptr b_0 o_0), (.flat (.int .i64 x_1)), (.flat (.int .u32 x_2)), (.flat (.int .i64 x_8)), (.flat (.bool x_36))] m k = P8_10004 b_0 o_0 x_1 x_2 x_8 x_36 m (fun m' => k .normal (only [] []) m') := by
  kernel_rfl

theorem pok8_10004 : PieceOK Try.prog E8 Lam8 (((secsOf (bodyOf Try.f8)).filter Lam8.cut).getD 0 .skip) := by
  refine ⟨fun σ => ∃ b_0 o_0 x_1 x_2 x_8 x_36, σ 0 = .ptr b_0 o_0 ∧ σ 1 = .flat (.int .i64 x_1) ∧ σ 2 = .flat (.int .u32 x_2) ∧ σ 8 = .flat (.int .i64 x_8) ∧ σ 36 = .flat (.bool x_36), [0, 1, 2, 8, 36], lxp8_10004, fun σ m k => ?_⟩
  have e : Lam8.piece (((secsOf (bodyOf Try.f8)).filter Lam8.cut).getD 0 .skip) σ m k = LamP8_10004 σ m k := by kernel_rfl
  rw [e]
  constructor
  · intro h
    unfold LamP8_10004 at h
    obtain ⟨b_0, o_0, h0, h⟩ := kptr_ok h
    obtain ⟨x_1, h1, h⟩ := kI_ok h
    obtain ⟨x_2, h2, h⟩ := kI_ok h
    obtain ⟨x_8, h3, h⟩ := kI_ok h
    obtain ⟨x_36, h4, h⟩ := kbool_ok h
    refine ⟨⟨b_0, o_0, x_1, x_2, x_8, x_36, h0, h1, h2, h3, h4⟩, ?_⟩
    have ev : [0, 1, 2, 8, 36].map σ = [(.ptr b_0 o_0), (.flat (.int .i64 x_1)), (.flat (.int .u32 x_2)), (.flat (.int .i64 x_8)), (.flat (.bool x_36))] := by simp only [List.map_cons, List.map_nil, h0, h1, h2, h3, h4]
    rw [ev, pc8_10004]
    exact h
  · rintro ⟨⟨b_0, o_0, x_1, x_2, x_8, x_36, h0, h1, h2, h3, h4⟩, h⟩
    have ev : [0, 1, 2, 8, 36].map σ = [(.ptr b_0 o_0), (.flat (.int .i64 x_1)), (.flat (.int .u32 x_2)), (.flat (.int .i64 x_8)), (.flat (.bool x_36))] := by simp only [List.map_cons, List.map_nil, h0, h1, h2, h3, h4]
    rw [ev, pc8_10004] at h
    unfold LamP8_10004
    simp only [h0, h1, h2, h3, h4, kI, kbool, kS, kptr, kaggN, kite, decide_true, eq_self]
    exact h

theorem eqn8 (b_0 o_0 : Nat) (x_1 : Int) (x_2 : Int) (m : Mem) (k : KV) : bodyK Try.prog E8 Lam8 Try.f8 false [(.ptr b_0 o_0), (.flat (.int .i64 x_1)), (.flat (.int .u32 x_2))] m k = F8 b_0 o_0 x_1 x_2 m (fun m' => k (.tup []) m') := by
  kernel_rfl

theorem fs8 (w0 : World) : FS Try.prog w0 8 G8 := by
  refine (fs_body (Γ := E8) (sound_env (l := []) w0 (by
    intro p hp
    cases hp)) (by kernel_rfl) Try.func8 (Λ := Lam8) (c := (bodyOf Try.f8)) (by kernel_rfl) Try.call8 (by kernel_rfl) (LS_of (bodyOf Try.f8) 0 (by kernel_rfl) (fun i hi => absurd hi (Nat.not_lt_zero i)) 1 (by kernel_rfl) (by
    intro i hi
    match i, hi with
    | 0, _ => exact pok8_10004
    | i + 1, hi => omega)) false (np := 3) (Nat.le_of_ble_eq_true (by kernel_rfl))).imp fun args => ?_
  by_cases hl : args.length = 3
  rotate_left
  · exact .inr fun m k hk => by
      unfold G8 at hk
      split at hk
      · exact hl rfl
      · exact hk
  obtain ⟨a0, a1, a2, rfl⟩ : ∃ a0 a1 a2, args = [a0, a1, a2] := len_list3 hl
  rcases kptr_or a0 with ⟨b_0, o_0, rfl⟩ | h
  rotate_left
  · exact .inr fun m k hk => h _ (by simpa only [G8, kI, kbool, kS, kptr, kaggN, kite, decide_true, eq_self] using hk)
  rcases kI_or .i64 a1 with ⟨x_1, rfl⟩ | h
  rotate_left
  · exact .inr fun m k hk => h _ (by simpa only [G8, kI, kbool, kS, kptr, kaggN, kite, decide_true, eq_self] using hk)
  rcases kI_or .u32 a2 with ⟨x_2, rfl⟩ | h
  rotate_left
  · exact .inr fun m k hk => h _ (by simpa only [G8, kI, kbool, kS, kptr, kaggN, kite, decide_true, eq_self] using hk)
  exact .inl fun m k => propext ⟨fun h => ⟨rfl, by rw [eqn8]; simpa only [G8, kI, kbool, kS, kptr, kaggN, kite, decide_true, eq_self] using h⟩, fun h => by have h := h.2; rw [eqn8] at h; simpa only [G8, kI, kbool, kS, kptr, kaggN, kite, decide_true, eq_self] using h⟩

def R10_5 (b_0 o_0 : Nat) (x_1 : Int) (c_13 : Nat → AV) (x_5 : Int) (x_14 : Int) (m : Mem) (kn : Int → Int → Mem → Prop) (k0 : Int → Mem → Prop) : Prop :=
  kif (decide (x_14 < 8)) (kif (decide (0 ≤ x_14) && decide (x_14 < 8)) (kite ((x_14).toNat * 2 + 2 ≤ 16) (newK m ⟨2, lget [(.flat (.int .u32 0)), (.flat (.int .u32 0))], 26, false⟩ fun b3 m2 => stG 2 m2 b3 0 (sub c_13 ((x_14).toNat * 2) 2) fun m4 => ldI .u32 m4 b3 0 fun x5 => kif ((bits .and .u32 (bits .xor .u32 x5 x_1) 4294966272) != 0) (kn x_5 (IntKind.wrap .i64 (x_14 + 1)) m4) (ldI .u32 m4 b3 1 fun x6 => kif ((bits .and .u32 x6 4) != 0) (k0 x_14 m4) (ldI .u32 m4 b3 0 fun x7 => ldI .u32 m4 b_0 (o_0 + 39 + 10) fun x8 => kif ((bits .and .u32 (bits .xor .u32 x7 x8) 255) == 0) (k0 x_14 m4) (kn x_5 (IntKind.wrap .i64 (x_14 + 1)) m4)))) False) False) (k0 x_5 m)

def L10_5 (b_0 o_0 : Nat) (x_1 : Int) (c_13 : Nat → AV) : Nat → Int → Int → Mem → (Int → Mem → Prop) → Prop
  | 0, _, _,  _, _ => bump False
  | N + 1, x_5, x_14,  m, k0 => R10_5 b_0 o_0 x_1 c_13 x_5 x_14 m (fun x_5' x_14' m' => L10_5 b_0 o_0 x_1 c_13 N x_5' x_14' m' k0) k0

/-- pianola/tlb.Find -/
def F10 (b_0 o_0 : Nat) (x_1 : Int) (m : Mem) (k : Int → Mem → Prop) : Prop :=
  ldG 16 m b_0 (o_0 + 55) fun c1 => ∃ N11, L10_5 b_0 o_0 x_1 c1 N11 (-1) 0 m (fun x9 m10 => (Keeps m m10 ∧ k x9 m))

def G10 (args : List AV) (m : Mem) (k : KV) : Prop := match args with
  | [a0, a1] => kptr a0 fun b_0 o_0 => kI .u32 a1 fun x_1 => F10 b_0 o_0 x_1 m (fun x_1000 m' => k (.flat (.int .i64 x_1000)) m')
  | _ => False

def E10 : Env := envOf []

def Lam10_5 (σ : Nat → AV) (m : Mem) (k : KX) : Prop := kptr (σ 0) fun b_0 o_0 => kI .u32 (σ 1) fun x_1 => kI .i64 (σ 5) fun x_5 => kaggN 16 (σ 13) fun c_13 => kI .i64 (σ 14) fun x_14 => ∃ N, L10_5 b_0 o_0 x_1 c_13 N x_5 x_14 m (fun x_5' m' => k (.exit 0) (only [5] [(.flat (.int .i64 x_5'))]) m')

def Lam10 : LEnv := ⟨fun a σ m k => match firstReg a with
  | some 5 => Lam10_5 σ m k
  | _ => bump False,
  fun id => match id with
  | _ => bump false,
  fun b => match keyC b with
  | _ => bump false,
  fun b σ m k => match keyC b with
  | _ => bump False⟩

def lx10_5 : Ex → List Nat := fun e => match e with
  | .exit 0 => [5]
  | _ => []

theorem round10_5 (b_0 o_0 : Nat) (x_1 : Int) (c_13 : Nat → AV) (x_5 : Int) (x_14 : Int) (m : Mem) (G : List AV → Mem → Prop) (k : KX) : (wpA Try.prog E10 Lam10 ((loopsOf (bodyOf Try.f10)).getD 0 .skip) (only [0, 1, 5, 13, 14] [(.ptr b_0 o_0), (.flat (.int .u32 x_1)), (.flat (.int .i64 x_5)), (.agg 16 c_13), (.flat (.int .i64 x_14))]) m fun e σ' m' => match e with
    | .normal => G ([0, 1, 5, 13, 14].map σ') m'
    | .exit id => k (.exit id) (only (lx10_5 (.exit id)) ((lx10_5 (.exit id)).map σ')) m'
    | .ret => k .ret (only (lx10_5 .ret) ((lx10_5 .ret).map σ')) m') = R10_5 b_0 o_0 x_1 c_13 x_5 x_14 m (fun x_5' x_14' m' => G [(.ptr b_0 o_0), (.flat (.int .u32 x_1)), (.flat (.int .i64 x_5')), (.agg 16 c_13), (.flat (.int .i64 x_14'))] m') (fun x_5' m' => k (.exit 0) (only [5] [(.flat (.int .i64 x_5'))]) m') := by
  kernel_rfl

theorem loop10_5 (b_0 o_0 : Nat) (x_1 : Int) (c_13 : Nat → AV) (k : KX) : ∀ (N : Nat) (x_5 : Int) (x_14 : Int) (m : Mem), rounds Try.prog E10 Lam10 [0, 1, 5, 13, 14] lx10_5 ((loopsOf (bodyOf Try.f10)).getD 0 .skip) N [(.ptr b_0 o_0), (.flat (.int .u32 x_1)), (.flat (.int .i64 x_5)), (.agg 16 c_13), (.flat (.int .i64 x_14))] m k = L10_5 b_0 o_0 x_1 c_13 N x_5 x_14 m (fun x_5' m' => k (.exit 0) (only [5] [(.flat (.int .i64 x_5'))]) m') := by
  intro N
  induction N with
  | zero => intros; rfl
  | succ N ih =>
    intro x_5 x_14 m
    refine (round10_5 b_0 o_0 x_1 c_13 x_5 x_14 m (fun vs m' => rounds Try.prog E10 Lam10 [0, 1, 5, 13, 14] lx10_5 ((loopsOf (bodyOf Try.f10)).getD 0 .skip) N vs m' k) k).trans ?_
    simp only [ih]
    rfl

theorem lok10_5 : LoopOK Try.prog E10 Lam10 ((loopsOf (bodyOf Try.f10)).getD 0 .skip) := by
  refine ⟨fun σ => ∃ b_0 o_0 x_1 x_5 c_13 x_14, σ 0 = .ptr b_0 o_0 ∧ σ 1 = .flat (.int .u32 x_1) ∧ σ 5 = .flat (.int .i64 x_5) ∧ σ 13 = .agg 16 c_13 ∧ σ 14 = .flat (.int .i64 x_14), [0, 1, 5, 13, 14], lx10_5, fun σ m k => ?_⟩
  have e : Lam10.loop ((loopsOf (bodyOf Try.f10)).getD 0 .skip) σ m k = Lam10_5 σ m k := by kernel_rfl
  rw [e]
  constructor
  · intro h
    unfold Lam10_5 at h
    obtain ⟨b_0, o_0, h0, h⟩ := kptr_ok h
    obtain ⟨x_1, h1, h⟩ := kI_ok h
    obtain ⟨x_5, h2, h⟩ := kI_ok h
    obtain ⟨c_13, h3, h⟩ := kaggN_ok h
    obtain ⟨x_14, h4, h⟩ := kI_ok h
    obtain ⟨N, h⟩ := h
    refine ⟨⟨b_0, o_0, x_1, x_5, c_13, x_14, h0, h1, h2, h3, h4⟩, N, ?_⟩
    have ev : [0, 1, 5, 13, 14].map σ = [(.ptr b_0 o_0), (.flat (.int .u32 x_1)), (.flat (.int .i64 x_5)), (.agg 16 c_13), (.flat (.int .i64 x_14))] := by simp only [List.map_cons, List.map_nil, h0, h1, h2, h3, h4]
    rw [ev, loop10_5]
    exact h
  · rintro ⟨⟨b_0, o_0, x_1, x_5, c_13, x_14, h0, h1, h2, h3, h4⟩, N, h⟩
    have ev : [0, 1, 5, 13, 14].map σ = [(.ptr b_0 o_0), (.flat (.int .u32 x_1)), (.flat (.int .i64 x_5)), (.agg 16 c_13), (.flat (.int .i64 x_14))] := by simp only [List.map_cons, List.map_nil, h0, h1, h2, h3, h4]
    rw [ev, loop10_5] at h
    unfold Lam10_5
    simp only [h0, h1, h2, h3, h4, kI, kbool, kS, kptr, kaggN, kite, decide_true, eq_self]
    exact ⟨N, h⟩

theorem eqn10 (b_0 o_0 : Nat) (x_1 : Int) (m : Mem) (k : KV) : bodyK Try.prog E10 Lam10 Try.f10 true [(.ptr b_0 o_0), (.flat (.int .u32 x_1))] m k = F10 b_0 o_0 x_1 m (fun x_1000 m' => k (.flat (.int .i64 x_1000)) m') := by
  kernel_rfl

theorem fs10 (w0 : World) : FS Try.prog w0 10 G10 := by
  refine (fs_body (Γ := E10) (sound_env (l := []) w0 (by
    intro p hp
    cases hp)) (by kernel_rfl) Try.func10 (Λ := Lam10) (c := (bodyOf Try.f10)) (by kernel_rfl) Try.call10 (by kernel_rfl) (LS_of (bodyOf Try.f10) 1 (by kernel_rfl) (by
    intro i hi
    match i, hi with
    | 0, _ => exact lok10_5
    | i + 1, hi => omega) 0 (by kernel_rfl) (fun i hi => absurd hi (Nat.not_lt_zero i))) true (np := 2) (Nat.le_of_ble_eq_true (by kernel_rfl))).imp fun args => ?_
  by_cases hl : args.length = 2
  rotate_left
  · exact .inr fun m k hk => by
      unfold G10 at hk
      split at hk
      · exact hl rfl
      · exact hk
  obtain ⟨a0, a1, rfl⟩ : ∃ a0 a1, args = [a0, a1] := len_list2 hl
  rcases kptr_or a0 with ⟨b_0, o_0, rfl⟩ | h
  rotate_left
  · exact .inr fun m k hk => h _ (by simpa only [G10, kI, kbool, kS, kptr, kaggN, kite, decide_true, eq_self] using hk)
  rcases kI_or .u32 a1 with ⟨x_1, rfl⟩ | h
  rotate_left
  · exact .inr fun m k hk => h _ (by simpa only [G10, kI, kbool, kS, kptr, kaggN, kite, decide_true, eq_self] using hk)
  exact .inl fun m k => propext ⟨fun h => ⟨rfl, by rw [eqn10]; simpa only [G10, kI, kbool, kS, kptr, kaggN, kite, decide_true, eq_self] using h⟩, fun h => by have h := h.2; rw [eqn10] at h; simpa only [G10, kI, kbool, kS, kptr, kaggN, kite, decide_true, eq_self] using h⟩

def P9_14004 (x_1 : Int) (x_11 : Int) (x_38 : Bool) (m : Mem) (kr : Int → Int → Bool → Mem → Prop) : Prop :=
  kif x_38 (kr 0 1 false m) (kr (bits .or .u32 (bits .and .u32 x_11 4294966272) (bits .and .u32 x_1 1023)) (-1) false m)

def P9_6102 (b_0 o_0 : Nat) (x_1 : Int) (x_2 : Bool) (x_9 : Int) (m : Mem) (kr : Int → Int → Bool → Mem → Prop) : Prop :=
  F10 b_0 o_0 x_1 m fun x1 m2 => kif (decide (x1 < 0)) (kr 0 x_9 true m2) (kif (decide (0 ≤ x1) && decide (x1 < 8)) (ldI .u32 m2 b_0 (o_0 + 55 + (x1).toNat * 2 + 1) fun x3 => kif ((bits .and .u32 x3 1) == 0) (kr 0 x_9 false m2) (kif x_2 (P9_14004 x_1 x3 ((bits .and .u32 x3 2) == 0) m2 (fun x4 x5 x6 m7 => kr x4 x5 x6 m7)) (P9_14004 x_1 x3 false m2 (fun x8 x9 x10 m11 => kr x8 x9 x10 m11)))) False)

/-- pianola/tlb.Look -/
def F9 (b_0 o_0 : Nat) (x_1 : Int) (x_2 : Bool) (m : Mem) (k : Int → Int → Bool → Mem → Prop) : Prop :=
  kif x_2 (P9_6102 b_0 o_0 x_1 x_2 3 m (fun x12 x13 x14 m15 => (Keeps m m15 ∧ k x12 x13 x14 m))) (P9_6102 b_0 o_0 x_1 x_2 2 m (fun x16 x17 x18 m19 => (Keeps m m19 ∧ k x16 x17 x18 m)))

def G9 (args : List AV) (m : Mem) (k : KV) : Prop := match args with
  | [a0, a1, a2] => kptr a0 fun b_0 o_0 => kI .u32 a1 fun x_1 => kbool a2 fun x_2 => F9 b_0 o_0 x_1 x_2 m (fun x_1000 x_1001 x_1002 m' => k (.tup [(.flat (.int .u32 x_1000)), (.flat (.int .i64 x_1001)), (.flat (.bool x_1002))]) m')
  | _ => False

def E9 : Env := envOf [(10, G10)]

def LamP9_6102 (σ : Nat → AV) (m : Mem) (k : KX) : Prop := kptr (σ 0) fun b_0 o_0 => kI .u32 (σ 1) fun x_1 => kbool (σ 2) fun x_2 => kI .i64 (σ 9) fun x_9 => P9_6102 b_0 o_0 x_1 x_2 x_9 m (fun x_6' x_7' x_8' m' => k .ret (only [6, 7, 8] [(.flat (.int .u32 x_6')), (.flat (.int .i64 x_7')), (.flat (.bool x_8'))]) m')

def LamP9_14004 (σ : Nat → AV) (m : Mem) (k : KX) : Prop := kI .u32 (σ 1) fun x_1 => kI .u32 (σ 11) fun x_11 => kbool (σ 38) fun x_38 => P9_14004 x_1 x_11 x_38 m (fun x_6' x_7' x_8' m' => k .ret (only [6, 7, 8] [(.flat (.int .u32 x_6')), (.flat (.int .i64 x_7')), (.flat (.bool x_8'))]) m')

def Lam9 : LEnv := ⟨fun a σ m k => match firstReg a with
  | _ => bump False,
  fun id => match id with
  | _ => bump false,
  fun b => match keyC b with
  | some 6102 => true
  | some 14004 => true
  | _ => bump false,
  fun b σ m k => match keyC b with
  | some 6102 => LamP9_6102 σ m k
  | some 14004 => LamP9_14004 σ m k
  | _ => bump False⟩

def lxp9_14004 : Ex → List Nat := fun e => match e with
  | .ret => [6, 7, 8]
  | _ => []

theorem pc9_14004 (x_1 : Int) (x_11 : Int) (x_38 : Bool) (m : Mem) (k : KX) : once Try.prog E9 Lam9 [1, 11, 38] lxp9_14004 (((secsOf (bodyOf Try.f9)).filter Lam9.cut).getD 1 .skip) [(.flat (.int .u32 x_1)), (.flat (.int .u32 x_11)), (.flat (.bool x_38))] m k = P9_14004 x_1 x_11 x_38 m (fun x_6' x_7' x_8' m' => k .ret (only [6, 7, 8] [(.flat (.int .u32 x_6')), (.flat (.int .i64 x_7')), (.flat (.bool x_8'))]) m') := by
  kernel_rfl

theorem pok9_14004 : PieceOK Try.prog E9 Lam9 (((secsOf (bodyOf Try.f9)).filter Lam9.cut).getD 1 .skip) := by
  refine ⟨fun σ => ∃ x_1 x_11 x_38, σ 1 = .flat (.int .u32 x_1) ∧ σ 11 = .flat (.int .u32 x_11) ∧ σ 38 = .flat (.bool x_38), [1, 11, 38], lxp9_14004, fun σ m k => ?_⟩
  have e : Lam9.piece (((secsOf (bodyOf Try.f9)).filter Lam9.cut).getD 1 .skip) σ m k = LamP9_14004 σ m k := by kernel_rfl
  rw [e]
  constructor
  · intro h
    unfold LamP9_14004 at h
    obtain ⟨x_1, h0, h⟩ := kI_ok h
    obtain ⟨x_11, h1, h⟩ := kI_ok h
    obtain ⟨x_38, h2, h⟩ := kbool_ok h
    refine ⟨⟨x_1, x_11, x_38, h0, h1, h2⟩, ?_⟩
    have ev : [1, 11, 38].map σ = [(.flat (.int .u32 x_1)), (.flat (.int .u32 x_11)), (.flat (.bool x_38))] := by simp only [List.map_cons, List.map_nil, h0, h1, h2]
    rw [ev, pc9_14004]
    exact h
  · rintro ⟨⟨x_1, x_11, x_38, h0, h1, h2⟩, h⟩
    have ev : [1, 11, 38].map σ = [(.flat (.int .u32 x_1)), (.flat (.int .u32 x_11)), (.flat (.bool x_38))] := by simp only [List.map_cons, List.map_nil, h0, h1, h2]
    rw [ev, pc9_14004] at h
    unfold LamP9_14004
    simp only [h0, h1, h2, kI, kbool, kS, kptr, kaggN, kite, decide_true, eq_self]
    exact h

def lxp9_6102 : Ex → List Nat := fun e => match e with
  | .ret => [6, 7, 8]
  | _ => []

theorem pc9_6102 (b_0 o_0 : Nat) (x_1 : Int) (x_2 : Bool) (x_9 : Int) (m : Mem) (k : KX) : once Try.prog E9 Lam9 [0, 1, 2, 9] lxp9_6102 (((secsOf (bodyOf Try.f9)).filter Lam9.cut).getD 0 .skip) [(.ptr b_0 o_0), (.flat (.int .u32 x_1)), (.flat (.bool x_2)), (.flat (.int .i64 x_9))] m k = P9_6102 b_0 o_0 x_1 x_2 x_9 m (fun x_6' x_7' x_8' m' => k .ret (only [6, 7, 8] [(.flat (.int .u32 x_6')), (.flat (.int .i64 x_7')), (.flat (.bool x_8'))]) m') := by
  kernel_rfl

theorem pok9_6102 : PieceOK Try.prog E9 Lam9 (((secsOf (bodyOf Try.f9)).filter Lam9.cut).getD 0 .skip) := by
  refine ⟨fun σ => ∃ b_0 o_0 x_1 x_2 x_9, σ 0 = .ptr b_0 o_0 ∧ σ 1 = .flat (.int .u32 x_1) ∧ σ 2 = .flat (.bool x_2) ∧ σ 9 = .flat (.int .i64 x_9), [0, 1, 2, 9], lxp9_6102, fun σ m k => ?_⟩
  have e : Lam9.piece (((secsOf (bodyOf Try.f9)).filter Lam9.cut).getD 0 .skip) σ m k = LamP9_6102 σ m k := by kernel_rfl
  rw [e]
  constructor
  · intro h
    unfold LamP9_6102 at h
    obtain ⟨b_0, o_0, h0, h⟩ := kptr_ok h
    obtain ⟨x_1, h1, h⟩ := kI_ok h
    obtain ⟨x_2, h2, h⟩ := kbool_ok h
    obtain ⟨x_9, h3, h⟩ := kI_ok h
    refine ⟨⟨b_0, o_0, x_1, x_2, x_9, h0, h1, h2, h3⟩, ?_⟩
    have ev : [0, 1, 2, 9].map σ = [(.ptr b_0 o_0), (.flat (.int .u32 x_1)), (.flat (.bool x_2)), (.flat (.int .i64 x_9))] := by simp only [List.map_cons, List.map_nil, h0, h1, h2, h3]
    rw [ev, pc9_6102]
    exact h
  · rintro ⟨⟨b_0, o_0, x_1, x_2, x_9, h0, h1, h2, h3⟩, h⟩
    have ev : [0, 1, 2, 9].map σ = [(.ptr b_0 o_0), (.flat (.int .u32 x_1)), (.flat (.bool x_2)), (.flat (.int .i64 x_9))] := by simp only [List.map_cons, List.map_nil, h0, h1, h2, h3]
    rw [ev, pc9_6102] at h
    unfold LamP9_6102
    simp only [h0, h1, h2, h3, kI, kbool, kS, kptr, kaggN, kite, decide_true, eq_self]
    exact h

theorem eqn9 (b_0 o_0 : Nat) (x_1 : Int) (x_2 : Bool) (m : Mem) (k : KV) : bodyK Try.prog E9 Lam9 Try.f9 true [(.ptr b_0 o_0), (.flat (.int .u32 x_1)), (.flat (.bool x_2))] m k = F9 b_0 o_0 x_1 x_2 m (fun x_1000 x_1001 x_1002 m' => k (.tup [(.flat (.int .u32 x_1000)), (.flat (.int .i64 x_1001)), (.flat (.bool x_1002))]) m') := by
  kernel_rfl

theorem fs9 (w0 : World) : FS Try.prog w0 9 G9 := by
  refine (fs_body (Γ := E9) (sound_env (l := [(10, G10)]) w0 (by
    intro p hp
    simp only [List.mem_cons, List.not_mem_nil, or_false] at hp
    rcases hp with rfl
    · exact fs10 w0)) (by kernel_rfl) Try.func9 (Λ := Lam9) (c := (bodyOf Try.f9)) (by kernel_rfl) Try.call9 (by kernel_rfl) (LS_of (bodyOf Try.f9) 0 (by kernel_rfl) (fun i hi => absurd hi (Nat.not_lt_zero i)) 2 (by kernel_rfl) (by
    intro i hi
    match i, hi with
    | 0, _ => exact pok9_6102
    | 1, _ => exact pok9_14004
    | i + 2, hi => omega)) true (np := 3) (Nat.le_of_ble_eq_true (by kernel_rfl))).imp fun args => ?_
  by_cases hl : args.length = 3
  rotate_left
  · exact .inr fun m k hk => by
      unfold G9 at hk
      split at hk
      · exact hl rfl
      · exact hk
  obtain ⟨a0, a1, a2, rfl⟩ : ∃ a0 a1 a2, args = [a0, a1, a2] := len_list3 hl
  rcases kptr_or a0 with ⟨b_0, o_0, rfl⟩ | h
  rotate_left
  · exact .inr fun m k hk => h _ (by simpa only [G9, kI, kbool, kS, kptr, kaggN, kite, decide_true, eq_self] using hk)
  rcases kI_or .u32 a1 with ⟨x_1, rfl⟩ | h
  rotate_left
  · exact .inr fun m k hk => h _ (by simpa only [G9, kI, kbool, kS, kptr, kaggN, kite, decide_true, eq_self] using hk)
  rcases kbool_or a2 with ⟨x_2, rfl⟩ | h
  rotate_left
  · exact .inr fun m k hk => h _ (by simpa only [G9, kI, kbool, kS, kptr, kaggN, kite, decide_true, eq_self] using hk)
  exact .inl fun m k => propext ⟨fun h => ⟨rfl, by rw [eqn9]; simpa only [G9, kI, kbool, kS, kptr, kaggN, kite, decide_true, eq_self] using h⟩, fun h => by have h := h.2; rw [eqn9] at h; simpa only [G9, kI, kbool, kS, kptr, kaggN, kite, decide_true, eq_self] using h⟩

/-- pianola/cp0.named -/
def F28 (x_0 : Int) (m : Mem) (k : Bool → Mem → Prop) : Prop :=
  kif (x_0 == 0) (kif (x_0 == 0) ((Keeps m m ∧ k true m)) ((Keeps m m ∧ k false m))) (kif (x_0 == 1) (kif (x_0 == 1) ((Keeps m m ∧ k true m)) ((Keeps m m ∧ k false m))) (kif (x_0 == 2) (kif (x_0 == 2) ((Keeps m m ∧ k true m)) ((Keeps m m ∧ k false m))) (kif (x_0 == 8) (kif (x_0 == 8) ((Keeps m m ∧ k true m)) ((Keeps m m ∧ k false m))) (kif (x_0 == 9) (kif (x_0 == 9) ((Keeps m m ∧ k true m)) ((Keeps m m ∧ k false m))) (kif (x_0 == 10) (kif (x_0 == 10) ((Keeps m m ∧ k true m)) ((Keeps m m ∧ k false m))) (kif (x_0 == 11) (kif (x_0 == 11) ((Keeps m m ∧ k true m)) ((Keeps m m ∧ k false m))) (kif (x_0 == 12) (kif (x_0 == 12) ((Keeps m m ∧ k true m)) ((Keeps m m ∧ k false m))) (kif (x_0 == 13) (kif (x_0 == 13) ((Keeps m m ∧ k true m)) ((Keeps m m ∧ k false m))) (kif (x_0 == 14) (kif (x_0 == 14) ((Keeps m m ∧ k true m)) ((Keeps m m ∧ k false m))) (kif (x_0 == 15) ((Keeps m m ∧ k true m)) ((Keeps m m ∧ k false m))))))))))))

def G28 (args : List AV) (m : Mem) (k : KV) : Prop := match args with
  | [a0] => kI .i64 a0 fun x_0 => F28 x_0 m (fun x_1000 m' => k (.flat (.bool x_1000)) m')
  | _ => False

def E28 : Env := envOf []

def Lam28 : LEnv := ⟨fun a σ m k => match firstReg a with
  | _ => bump False,
  fun id => match id with
  | _ => bump false,
  fun b => match keyC b with
  | _ => bump false,
  fun b σ m k => match keyC b with
  | _ => bump False⟩

theorem eqn28 (x_0 : Int) (m : Mem) (k : KV) : bodyK Try.prog E28 Lam28 Try.f28 true [(.flat (.int .i64 x_0))] m k = F28 x_0 m (fun x_1000 m' => k (.flat (.bool x_1000)) m') := by
  kernel_rfl

theorem fs28 (w0 : World) : FS Try.prog w0 28 G28 := by
  refine (fs_body (Γ := E28) (sound_env (l := []) w0 (by
    intro p hp
    cases hp)) (by kernel_rfl) Try.func28 (Λ := Lam28) (c := (bodyOf Try.f28)) (by kernel_rfl) Try.call28 (by kernel_rfl) (LS_of (bodyOf Try.f28) 0 (by kernel_rfl) (fun i hi => absurd hi (Nat.not_lt_zero i)) 0 (by kernel_rfl) (fun i hi => absurd hi (Nat.not_lt_zero i))) true (np := 1) (Nat.le_of_ble_eq_true (by kernel_rfl))).imp fun args => ?_
  by_cases hl : args.length = 1
  rotate_left
  · exact .inr fun m k hk => by
      unfold G28 at hk
      split at hk
      · exact hl rfl
      · exact hk
  obtain ⟨a0, rfl⟩ : ∃ a0, args = [a0] := len_list1 hl
  rcases kI_or .i64 a0 with ⟨x_0, rfl⟩ | h
  rotate_left
  · exact .inr fun m k hk => h _ (by simpa only [G28, kI, kbool, kS, kptr, kaggN, kite, decide_true, eq_self] using hk)
  exact .inl fun m k => propext ⟨fun h => ⟨rfl, by rw [eqn28]; simpa only [G28, kI, kbool, kS, kptr, kaggN, kite, decide_true, eq_self] using h⟩, fun h => by have h := h.2; rw [eqn28] at h; simpa only [G28, kI, kbool, kS, kptr, kaggN, kite, decide_true, eq_self] using h⟩

/-- pianola/cp0.Read -/
def F26 (b_0 o_0 : Nat) (x_1 : Int) (m : Mem) (k : Int → Mem → Prop) : Prop :=
  F28 x_1 m fun x1 m2 => kif (!x1) ((Keeps m m2 ∧ k 0 m)) (kif (x_1 == 1) (ldI .u32 m2 b_0 (o_0 + 39 + 9) fun x3 => (Keeps m m2 ∧ k (x3.tmod 8) m)) (kif (decide (0 ≤ x_1) && decide (x_1 < 16)) (ldI .u32 m2 b_0 (o_0 + 39 + (x_1).toNat * 1) fun x4 => (Keeps m m2 ∧ k x4 m)) False))

def G26 (args : List AV) (m : Mem) (k : KV) : Prop := match args with
  | [a0, a1] => kptr a0 fun b_0 o_0 => kI .i64 a1 fun x_1 => F26 b_0 o_0 x_1 m (fun x_1000 m' => k (.flat (.int .u32 x_1000)) m')
  | _ => False

def E26 : Env := envOf [(28, G28)]

def Lam26 : LEnv := ⟨fun a σ m k => match firstReg a with
  | _ => bump False,
  fun id => match id with
  | _ => bump false,
  fun b => match keyC b with
  | _ => bump false,
  fun b σ m k => match keyC b with
  | _ => bump False⟩

theorem eqn26 (b_0 o_0 : Nat) (x_1 : Int) (m : Mem) (k : KV) : bodyK Try.prog E26 Lam26 Try.f26 true [(.ptr b_0 o_0), (.flat (.int .i64 x_1))] m k = F26 b_0 o_0 x_1 m (fun x_1000 m' => k (.flat (.int .u32 x_1000)) m') := by
  kernel_rfl

theorem fs26 (w0 : World) : FS Try.prog w0 26 G26 := by
  refine (fs_body (Γ := E26) (sound_env (l := [(28, G28)]) w0 (by
    intro p hp
    simp only [List.mem_cons, List.not_mem_nil, or_false] at hp
    rcases hp with rfl
    · exact fs28 w0)) (by kernel_rfl) Try.func26 (Λ := Lam26) (c := (bodyOf Try.f26)) (by kernel_rfl) Try.call26 (by kernel_rfl) (LS_of (bodyOf Try.f26) 0 (by kernel_rfl) (fun i hi => absurd hi (Nat.not_lt_zero i)) 0 (by kernel_rfl) (fun i hi => absurd hi (Nat.not_lt_zero i))) true (np := 2) (Nat.le_of_ble_eq_true (by kernel_rfl))).imp fun args => ?_
  by_cases hl : args.length = 2
  rotate_left
  · exact .inr fun m k hk => by
      unfold G26 at hk
      split at hk
      · exact hl rfl
      · exact hk
  obtain ⟨a0, a1, rfl⟩ : ∃ a0 a1, args = [a0, a1] := len_list2 hl
  rcases kptr_or a0 with ⟨b_0, o_0, rfl⟩ | h
  rotate_left
  · exact .inr fun m k hk => h _ (by simpa only [G26, kI, kbool, kS, kptr, kaggN, kite, decide_true, eq_self] using hk)
  rcases kI_or .i64 a1 with ⟨x_1, rfl⟩ | h
  rotate_left
  · exact .inr fun m k hk => h _ (by simpa only [G26, kI, kbool, kS, kptr, kaggN, kite, decide_true, eq_self] using hk)
  exact .inl fun m k => propext ⟨fun h => ⟨rfl, by rw [eqn26]; simpa only [G26, kI, kbool, kS, kptr, kaggN, kite, decide_true, eq_self] using h⟩, fun h => by have h := h.2; rw [eqn26] at h; simpa only [G26, kI, kbool, kS, kptr, kaggN, kite, decide_true, eq_self] using h⟩

def P16_4002 (b_0 o_0 : Nat) (x_4 : Int) (m : Mem) (kn : Mem → Prop) : Prop :=
  ldI .u32 m b_0 (o_0 + 39 + 10) fun x4 => ldI .u32 m b_0 (o_0 + 39 + 2) fun x5 => kif (decide (0 ≤ x_4) && decide (x_4 < 8)) (stG 2 m b_0 (o_0 + 55 + (x_4).toNat * 2) (upd (upd (lget [(.flat (.int .u32 0)), (.flat (.int .u32 0))]) 0 (.flat (.int .u32 x4))) 1 (.flat (.int .u32 x5))) fun m6 => kn  m6) False

/-- pianola/tlb.Put -/
def F16 (b_0 o_0 : Nat) (x_1 : Bool) (m : Mem) (k : Mem → Prop) : Prop :=
  ldI .u32 m b_0 (o_0 + 39 + 0) fun x1 => kif x_1 (F26 b_0 o_0 1 m fun x2 m3 => P16_4002 b_0 o_0 x2 m3 (fun m7 => k  m7)) (P16_4002 b_0 o_0 (bits .and .u32 x1 7) m (fun m8 => k  m8))

def G16 (args : List AV) (m : Mem) (k : KV) : Prop := match args with
  | [a0, a1] => kptr a0 fun b_0 o_0 => kbool a1 fun x_1 => F16 b_0 o_0 x_1 m (fun m' => k (.tup []) m')
  | _ => False

def E16 : Env := envOf [(26, G26)]

def LamP16_4002 (σ : Nat → AV) (m : Mem) (k : KX) : Prop := kptr (σ 0) fun b_0 o_0 => kI .u32 (σ 4) fun x_4 => P16_4002 b_0 o_0 x_4 m (fun m' => k .normal (only [] []) m')

def Lam16 : LEnv := ⟨fun a σ m k => match firstReg a with
  | _ => bump False,
  fun id => match id with
  | _ => bump false,
  fun b => match keyC b with
  | some 4002 => true
  | _ => bump false,
  fun b σ m k => match keyC b with
  | some 4002 => LamP16_4002 σ m k
  | _ => bump False⟩

def lxp16_4002 : Ex → List Nat := fun e => match e with
  | .normal => []
  | _ => []

theorem pc16_4002 (b_0 o_0 : Nat) (x_4 : Int) (m : Mem) (k : KX) : once Try.prog E16 Lam16 [0, 4] lxp16_4002 (((secsOf (bodyOf Try.f16)).filter Lam16.cut).getD 0 .skip) [(.ptr b_0 o_0), (.flat (.int .u32 x_4))] m k = P16_4002 b_0 o_0 x_4 m (fun m' => k .normal (only [] []) m') := by
  kernel_rfl

theorem pok16_4002 : PieceOK Try.prog E16 Lam16 (((secsOf (bodyOf Try.f16)).filter Lam16.cut).getD 0 .skip) := by
  refine ⟨fun σ => ∃ b_0 o_0 x_4, σ 0 = .ptr b_0 o_0 ∧ σ 4 = .flat (.int .u32 x_4), [0, 4], lxp16_4002, fun σ m k => ?_⟩
  have e : Lam16.piece (((secsOf (bodyOf Try.f16)).filter Lam16.cut).getD 0 .skip) σ m k = LamP16_4002 σ m k := by kernel_rfl
  rw [e]
  constructor
  · intro h
    unfold LamP16_4002 at h
    obtain ⟨b_0, o_0, h0, h⟩ := kptr_ok h
    obtain ⟨x_4, h1, h⟩ := kI_ok h
    refine ⟨⟨b_0, o_0, x_4, h0, h1⟩, ?_⟩
    have ev : [0, 4].map σ = [(.ptr b_0 o_0), (.flat (.int .u32 x_4))] := by simp only [List.map_cons, List.map_nil, h0, h1]
    rw [ev, pc16_4002]
    exact h
  · rintro ⟨⟨b_0, o_0, x_4, h0, h1⟩, h⟩
    have ev : [0, 4].map σ = [(.ptr b_0 o_0), (.flat (.int .u32 x_4))] := by simp only [List.map_cons, List.map_nil, h0, h1]
    rw [ev, pc16_4002] at h
    unfold LamP16_4002
    simp only [h0, h1, kI, kbool, kS, kptr, kaggN, kite, decide_true, eq_self]
    exact h

theorem eqn16 (b_0 o_0 : Nat) (x_1 : Bool) (m : Mem) (k : KV) : bodyK Try.prog E16 Lam16 Try.f16 false [(.ptr b_0 o_0), (.flat (.bool x_1))] m k = F16 b_0 o_0 x_1 m (fun m' => k (.tup []) m') := by
  kernel_rfl

theorem fs16 (w0 : World) : FS Try.prog w0 16 G16 := by
  refine (fs_body (Γ := E16) (sound_env (l := [(26, G26)]) w0 (by
    intro p hp
    simp only [List.mem_cons, List.not_mem_nil, or_false] at hp
    rcases hp with rfl
    · exact fs26 w0)) (by kernel_rfl) Try.func16 (Λ := Lam16) (c := (bodyOf Try.f16)) (by kernel_rfl) Try.call16 (by kernel_rfl) (LS_of (bodyOf Try.f16) 0 (by kernel_rfl) (fun i hi => absurd hi (Nat.not_lt_zero i)) 1 (by kernel_rfl) (by
    intro i hi
    match i, hi with
    | 0, _ => exact pok16_4002
    | i + 1, hi => omega)) false (np := 2) (Nat.le_of_ble_eq_true (by kernel_rfl))).imp fun args => ?_
  by_cases hl : args.length = 2
  rotate_left
  · exact .inr fun m k hk => by
      unfold G16 at hk
      split at hk
      · exact hl rfl
      · exact hk
  obtain ⟨a0, a1, rfl⟩ : ∃ a0 a1, args = [a0, a1] := len_list2 hl
  rcases kptr_or a0 with ⟨b_0, o_0, rfl⟩ | h
  rotate_left
  · exact .inr fun m k hk => h _ (by simpa only [G16, kI, kbool, kS, kptr, kaggN, kite, decide_true, eq_self] using hk)
  rcases kbool_or a1 with ⟨x_1, rfl⟩ | h
  rotate_left
  · exact .inr fun m k hk => h _ (by simpa only [G16, kI, kbool, kS, kptr, kaggN, kite, decide_true, eq_self] using hk)
  exact .inl fun m k => propext ⟨fun h => ⟨rfl, by rw [eqn16]; simpa only [G16, kI, kbool, kS, kptr, kaggN, kite, decide_true, eq_self] using h⟩, fun h => by have h := h.2; rw [eqn16] at h; simpa only [G16, kI, kbool, kS, kptr, kaggN, kite, decide_true, eq_self] using h⟩

/-- pianola/pianolalaw7.known -/
def F11  (m : Mem) (k : Bool → Mem → Prop) : Prop :=
  F7  m fun c1 m2 => newK m2 ⟨73, Z73, 29, false⟩ fun b4 m3 => stG 73 m3 b4 0 c1 fun m5 => F9 b4 0 20480 false m5 fun x6 x7 x8 m9 => kif (x6 != 0) ((Keeps m m9 ∧ k false m)) (kif (x7 != 2) ((Keeps m m9 ∧ k false m)) (kif (!x8) ((Keeps m m9 ∧ k false m)) (F10 b4 0 20480 m9 fun x10 m11 => kif (x10 != (-1)) ((Keeps m m11 ∧ k false m)) (stC m11 b4 49 (.flat (.int .u32 20480)) fun m12 => stC m12 b4 41 (.flat (.int .u32 9217)) fun m13 => F16 b4 0 false m13 fun m14 => F9 b4 0 20496 false m14 fun x15 x16 x17 m18 => F9 b4 0 20496 true m18 fun x19 x20 x21 m22 => kif (x15 == 9232) (kif (x16 == (-1)) ((Keeps m m22 ∧ k (x20 == 1) m)) ((Keeps m m22 ∧ k false m))) ((Keeps m m22 ∧ k false m))))))

def G11 (args : List AV) (m : Mem) (k : KV) : Prop := match args with
  | [] => F11  m (fun x_1000 m' => k (.flat (.bool x_1000)) m')
  | _ => False

def E11 : Env := envOf [(7, G7), (9, G9), (10, G10), (16, G16)]

def Lam11 : LEnv := ⟨fun a σ m k => match firstReg a with
  | _ => bump False,
  fun id => match id with
  | _ => bump false,
  fun b => match keyC b with
  | _ => bump false,
  fun b σ m k => match keyC b with
  | _ => bump False⟩

theorem eqn11  (m : Mem) (k : KV) : bodyK Try.prog E11 Lam11 Try.f11 true [] m k = F11  m (fun x_1000 m' => k (.flat (.bool x_1000)) m') := by
  kernel_rfl

theorem fs11 (w0 : World) : FS Try.prog w0 11 G11 := by
  refine (fs_body (Γ := E11) (sound_env (l := [(7, G7), (9, G9), (10, G10), (16, G16)]) w0 (by
    intro p hp
    simp only [List.mem_cons, List.not_mem_nil, or_false] at hp
    rcases hp with rfl | rfl | rfl | rfl
    · exact fs7 w0
    · exact fs9 w0
    · exact fs10 w0
    · exact fs16 w0)) (by kernel_rfl) Try.func11 (Λ := Lam11) (c := (bodyOf Try.f11)) (by kernel_rfl) Try.call11 (by kernel_rfl) (LS_of (bodyOf Try.f11) 0 (by kernel_rfl) (fun i hi => absurd hi (Nat.not_lt_zero i)) 0 (by kernel_rfl) (fun i hi => absurd hi (Nat.not_lt_zero i))) true (np := 0) (Nat.le_of_ble_eq_true (by kernel_rfl))).imp fun args => ?_
  by_cases hl : args.length = 0
  rotate_left
  · exact .inr fun m k hk => by
      unfold G11 at hk
      split at hk
      · exact hl rfl
      · exact hk
  obtain rfl : args = [] := len_list0 hl

  exact .inl fun m k => propext ⟨fun h => ⟨rfl, by rw [eqn11]; simpa only [G11, kI, kbool, kS, kptr, kaggN, kite, decide_true, eq_self] using h⟩, fun h => by have h := h.2; rw [eqn11] at h; simpa only [G11, kI, kbool, kS, kptr, kaggN, kite, decide_true, eq_self] using h⟩

def P3_11102 (b_9 o_9 : Nat) (x_10 : Int) (x_12 : Int) (x_13 : Int) (x_14 : Bool) (m : Mem) (kr : Bool → Mem → Prop) : Prop :=
  kif (x_12 == 0) (kif (x_13 == 3) (kif x_14 (F10 b_9 o_9 x_10 m fun x22 m23 => kif (x22 == (-1)) (F11  m23 fun x24 m25 => kr x24 m25) (kr false m23)) (kr false m)) (kr false m)) (kr false m)

def P3_10004 (x_0 : Int) (b_9 o_9 : Nat) (x_10 : Int) (x_12 : Int) (x_13 : Int) (x_14 : Bool) (x_47 : Bool) (m : Mem) (kr : Bool → Mem → Prop) (kn : Mem → Prop) : Prop :=
  kif x_47 (kif (x_12 == (bits .or .u32 8192 (bits .and .u32 x_0 1023))) (kif (x_13 == (-1)) (F10 b_9 o_9 x_10 m fun x12 m13 => kif (x12 == 4) (F11  m13 fun x14 m15 => kr x14 m15) (kr false m13)) (kr false m)) (kr false m)) (kn  m)

def P3_6102 (x_0 : Int) (x_1 : Int) (x_2 : Int) (x_3 : Bool) (b_9 o_9 : Nat) (x_10 : Int) (x_11 : Int) (m : Mem) (kr : Bool → Mem → Prop) : Prop :=
  stG 2 m b_9 (o_9 + 55 + 8) (upd (upd (lget [(.flat (.int .u32 0)), (.flat (.int .u32 0))]) 0 (.flat (.int .u32 (bits .or .u32 x_10 (IntKind.wrap .u32 x_1))))) 1 (.flat (.int .u32 x_11))) fun m6 => F8 b_9 o_9 10 (IntKind.wrap .u32 x_2) m6 fun m7 => F9 b_9 o_9 (bits .or .u32 x_10 (bits .and .u32 x_0 1023)) true m7 fun x8 x9 x10 m11 => kif x_3 (P3_10004 x_0 b_9 o_9 x_10 x8 x9 x10 true m11 (fun x16 m17 => kr x16 m17) (fun m18 => P3_11102 b_9 o_9 x_10 x8 x9 x10 m18 (fun x26 m27 => kr x26 m27))) (P3_10004 x_0 b_9 o_9 x_10 x8 x9 x10 (x_1 == x_2) m11 (fun x19 m20 => kr x19 m20) (fun m21 => P3_11102 b_9 o_9 x_10 x8 x9 x10 m21 (fun x28 m29 => kr x28 m29)))

/-- pianola/pianolalaw7.TlbSpaces -/
def F3 (x_0 : Int) (x_1 : Int) (x_2 : Int) (x_3 : Bool) (m : Mem) (k : Bool → Mem → Prop) : Prop :=
  F7  m fun c1 m2 => newK m2 ⟨73, Z73, 29, false⟩ fun b4 m3 => stG 73 m3 b4 0 c1 fun m5 => kif x_3 (P3_6102 x_0 x_1 x_2 x_3 b4 0 (bits .or .u32 (bits .andNot .u32 x_0 1023) 1048576) 8199 m5 (fun x30 m31 => k x30 m31)) (P3_6102 x_0 x_1 x_2 x_3 b4 0 (bits .or .u32 (bits .andNot .u32 x_0 1023) 1048576) 8195 m5 (fun x32 m33 => k x32 m33))

def G3 (args : List AV) (m : Mem) (k : KV) : Prop := match args with
  | [a0, a1, a2, a3] => kI .u32 a0 fun x_0 => kI .u8 a1 fun x_1 => kI .u8 a2 fun x_2 => kbool a3 fun x_3 => F3 x_0 x_1 x_2 x_3 m (fun x_1000 m' => k (.flat (.bool x_1000)) m')
  | _ => False

def E3 : Env := envOf [(7, G7), (8, G8), (9, G9), (10, G10), (11, G11)]

def LamP3_6102 (σ : Nat → AV) (m : Mem) (k : KX) : Prop := kI .u32 (σ 0) fun x_0 => kI .u8 (σ 1) fun x_1 => kI .u8 (σ 2) fun x_2 => kbool (σ 3) fun x_3 => kptr (σ 9) fun b_9 o_9 => kI .u32 (σ 10) fun x_10 => kI .u32 (σ 11) fun x_11 => P3_6102 x_0 x_1 x_2 x_3 b_9 o_9 x_10 x_11 m (fun x_8' m' => k .ret (only [8] [(.flat (.bool x_8'))]) m')

def LamP3_10004 (σ : Nat → AV) (m : Mem) (k : KX) : Prop := kI .u32 (σ 0) fun x_0 => kptr (σ 9) fun b_9 o_9 => kI .u32 (σ 10) fun x_10 => kI .u32 (σ 12) fun x_12 => kI .i64 (σ 13) fun x_13 => kbool (σ 14) fun x_14 => kbool (σ 47) fun x_47 => P3_10004 x_0 b_9 o_9 x_10 x_12 x_13 x_14 x_47 m (fun x_8' m' => k .ret (only [8] [(.flat (.bool x_8'))]) m') (fun m' => k .normal (only [9, 10, 12, 13, 14] [(.ptr b_9 o_9), (.flat (.int .u32 x_10)), (.flat (.int .u32 x_12)), (.flat (.int .i64 x_13)), (.flat (.bool x_14))]) m')

def LamP3_11102 (σ : Nat → AV) (m : Mem) (k : KX) : Prop := kptr (σ 9) fun b_9 o_9 => kI .u32 (σ 10) fun x_10 => kI .u32 (σ 12) fun x_12 => kI .i64 (σ 13) fun x_13 => kbool (σ 14) fun x_14 => P3_11102 b_9 o_9 x_10 x_12 x_13 x_14 m (fun x_8' m' => k .ret (only [8] [(.flat (.bool x_8'))]) m')

def Lam3 : LEnv := ⟨fun a σ m k => match firstReg a with
  | _ => bump False,
  fun id => match id with
  | _ => bump false,
  fun b => match keyC b with
  | some 6102 => true
  | some 10004 => true
  | some 11102 => true
  | _ => bump false,
  fun b σ m k => match keyC b with
  | some 6102 => LamP3_6102 σ m k
  | some 10004 => LamP3_10004 σ m k
  | some 11102 => LamP3_11102 σ m k
  | _ => bump False⟩

def lxp3_11102 : Ex → List Nat := fun e => match e with
  | .ret => [8]
  | _ => []

theorem pc3_11102 (b_9 o_9 : Nat) (x_10 : Int) (x_12 : Int) (x_13 : Int) (x_14 : Bool) (m : Mem) (k : KX) : once Try.prog E3 Lam3 [9, 10, 12, 13, 14] lxp3_11102 (((secsOf (bodyOf Try.f3)).filter Lam3.cut).getD 1 .skip) [(.ptr b_9 o_9), (.flat (.int .u32 x_10)), (.flat (.int .u32 x_12)), (.flat (.int .i64 x_13)), (.flat (.bool x_14))] m k = P3_11102 b_9 o_9 x_10 x_12 x_13 x_14 m (fun x_8' m' => k .ret (only [8] [(.flat (.bool x_8'))]) m') := by
  kernel_rfl

theorem pok3_11102 : PieceOK Try.prog E3 Lam3 (((secsOf (bodyOf Try.f3)).filter Lam3.cut).getD 1 .skip) := by
  refine ⟨fun σ => ∃ b_9 o_9 x_10 x_12 x_13 x_14, σ 9 = .ptr b_9 o_9 ∧ σ 10 = .flat (.int .u32 x_10) ∧ σ 12 = .flat (.int .u32 x_12) ∧ σ 13 = .flat (.int .i64 x_13) ∧ σ 14 = .flat (.bool x_14), [9, 10, 12, 13, 14], lxp3_11102, fun σ m k => ?_⟩
  have e : Lam3.piece (((secsOf (bodyOf Try.f3)).filter Lam3.cut).getD 1 .skip) σ m k = LamP3_11102 σ m k := by kernel_rfl
  rw [e]
  constructor
  · intro h
    unfold LamP3_11102 at h
    obtain ⟨b_9, o_9, h0, h⟩ := kptr_ok h
    obtain ⟨x_10, h1, h⟩ := kI_ok h
    obtain ⟨x_12, h2, h⟩ := kI_ok h
    obtain ⟨x_13, h3, h⟩ := kI_ok h
    obtain ⟨x_14, h4, h⟩ := kbool_ok h
    refine ⟨⟨b_9, o_9, x_10, x_12, x_13, x_14, h0, h1, h2, h3, h4⟩, ?_⟩
    have ev : [9, 10, 12, 13, 14].map σ = [(.ptr b_9 o_9), (.flat (.int .u32 x_10)), (.flat (.int .u32 x_12)), (.flat (.int .i64 x_13)), (.flat (.bool x_14))] := by simp only [List.map_cons, List.map_nil, h0, h1, h2, h3, h4]
    rw [ev, pc3_11102]
    exact h
  · rintro ⟨⟨b_9, o_9, x_10, x_12, x_13, x_14, h0, h1, h2, h3, h4⟩, h⟩
    have ev : [9, 10, 12, 13, 14].map σ = [(.ptr b_9 o_9), (.flat (.int .u32 x_10)), (.flat (.int .u32 x_12)), (.flat (.int .i64 x_13)), (.flat (.bool x_14))] := by simp only [List.map_cons, List.map_nil, h0, h1, h2, h3, h4]
    rw [ev, pc3_11102] at h
    unfold LamP3_11102
    simp only [h0, h1, h2, h3, h4, kI, kbool, kS, kptr, kaggN, kite, decide_true, eq_self]
    exact h

def lxp3_10004 : Ex → List Nat := fun e => match e with
  | .ret => [8]
  | .normal => [9, 10, 12, 13, 14]
  | _ => []

theorem pc3_10004 (x_0 : Int) (b_9 o_9 : Nat) (x_10 : Int) (x_12 : Int) (x_13 : Int) (x_14 : Bool) (x_47 : Bool) (m : Mem) (k : KX) : once Try.prog E3 Lam3 [0, 9, 10, 12, 13, 14, 47] lxp3_10004 (((secsOf (bodyOf Try.f3)).filter Lam3.cut).getD 2 .skip) [(.flat (.int .u32 x_0)), (.ptr b_9 o_9), (.flat (.int .u32 x_10)), (.flat (.int .u32 x_12)), (.flat (.int .i64 x_13)), (.flat (.bool x_14)), (.flat (.bool x_47))] m k = P3_10004 x_0 b_9 o_9 x_10 x_12 x_13 x_14 x_47 m (fun x_8' m' => k .ret (only [8] [(.flat (.bool x_8'))]) m') (fun m' => k .normal (only [9, 10, 12, 13, 14] [(.ptr b_9 o_9), (.flat (.int .u32 x_10)), (.flat (.int .u32 x_12)), (.flat (.int .i64 x_13)), (.flat (.bool x_14))]) m') := by
  kernel_rfl

theorem pok3_10004 : PieceOK Try.prog E3 Lam3 (((secsOf (bodyOf Try.f3)).filter Lam3.cut).getD 2 .skip) := by
  refine ⟨fun σ => ∃ x_0 b_9 o_9 x_10 x_12 x_13 x_14 x_47, σ 0 = .flat (.int .u32 x_0) ∧ σ 9 = .ptr b_9 o_9 ∧ σ 10 = .flat (.int .u32 x_10) ∧ σ 12 = .flat (.int .u32 x_12) ∧ σ 13 = .flat (.int .i64 x_13) ∧ σ 14 = .flat (.bool x_14) ∧ σ 47 = .flat (.bool x_47), [0, 9, 10, 12, 13, 14, 47], lxp3_10004, fun σ m k => ?_⟩
  have e : Lam3.piece (((secsOf (bodyOf Try.f3)).filter Lam3.cut).getD 2 .skip) σ m k = LamP3_10004 σ m k := by kernel_rfl
  rw [e]
  constructor
  · intro h
    unfold LamP3_10004 at h
    obtain ⟨x_0, h0, h⟩ := kI_ok h
    obtain ⟨b_9, o_9, h1, h⟩ := kptr_ok h
    obtain ⟨x_10, h2, h⟩ := kI_ok h
    obtain ⟨x_12, h3, h⟩ := kI_ok h
    obtain ⟨x_13, h4, h⟩ := kI_ok h
    obtain ⟨x_14, h5, h⟩ := kbool_ok h
    obtain ⟨x_47, h6, h⟩ := kbool_ok h
    refine ⟨⟨x_0, b_9, o_9, x_10, x_12, x_13, x_14, x_47, h0, h1, h2, h3, h4, h5, h6⟩, ?_⟩
    have ev : [0, 9, 10, 12, 13, 14, 47].map σ = [(.flat (.int .u32 x_0)), (.ptr b_9 o_9), (.flat (.int .u32 x_10)), (.flat (.int .u32 x_12)), (.flat (.int .i64 x_13)), (.flat (.bool x_14)), (.flat (.bool x_47))] := by simp only [List.map_cons, List.map_nil, h0, h1, h2, h3, h4, h5, h6]
    rw [ev, pc3_10004]
    exact h
  · rintro ⟨⟨x_0, b_9, o_9, x_10, x_12, x_13, x_14, x_47, h0, h1, h2, h3, h4, h5, h6⟩, h⟩
    have ev : [0, 9, 10, 12, 13, 14, 47].map σ = [(.flat (.int .u32 x_0)), (.ptr b_9 o_9), (.flat (.int .u32 x_10)), (.flat (.int .u32 x_12)), (.flat (.int .i64 x_13)), (.flat (.bool x_14)), (.flat (.bool x_47))] := by simp only [List.map_cons, List.map_nil, h0, h1, h2, h3, h4, h5, h6]
    rw [ev, pc3_10004] at h
    unfold LamP3_10004
    simp only [h0, h1, h2, h3, h4, h5, h6, kI, kbool, kS, kptr, kaggN, kite, decide_true, eq_self]
    exact h

def lxp3_6102 : Ex → List Nat := fun e => match e with
  | .ret => [8]
  | _ => []

theorem pc3_6102 (x_0 : Int) (x_1 : Int) (x_2 : Int) (x_3 : Bool) (b_9 o_9 : Nat) (x_10 : Int) (x_11 : Int) (m : Mem) (k : KX) : once Try.prog E3 Lam3 [0, 1, 2, 3, 9, 10, 11] lxp3_6102 (((secsOf (bodyOf Try.f3)).filter Lam3.cut).getD 0 .skip) [(.flat (.int .u32 x_0)), (.flat (.int .u8 x_1)), (.flat (.int .u8 x_2)), (.flat (.bool x_3)), (.ptr b_9 o_9), (.flat (.int .u32 x_10)), (.flat (.int .u32 x_11))] m k = P3_6102 x_0 x_1 x_2 x_3 b_9 o_9 x_10 x_11 m (fun x_8' m' => k .ret (only [8] [(.flat (.bool x_8'))]) m') := by
  kernel_rfl

theorem pok3_6102 : PieceOK Try.prog E3 Lam3 (((secsOf (bodyOf Try.f3)).filter Lam3.cut).getD 0 .skip) := by
  refine ⟨fun σ => ∃ x_0 x_1 x_2 x_3 b_9 o_9 x_10 x_11, σ 0 = .flat (.int .u32 x_0) ∧ σ 1 = .flat (.int .u8 x_1) ∧ σ 2 = .flat (.int .u8 x_2) ∧ σ 3 = .flat (.bool x_3) ∧ σ 9 = .ptr b_9 o_9 ∧ σ 10 = .flat (.int .u32 x_10) ∧ σ 11 = .flat (.int .u32 x_11), [0, 1, 2, 3, 9, 10, 11], lxp3_6102, fun σ m k => ?_⟩
  have e : Lam3.piece (((secsOf (bodyOf Try.f3)).filter Lam3.cut).getD 0 .skip) σ m k = LamP3_6102 σ m k := by kernel_rfl
  rw [e]
  constructor
  · intro h
    unfold LamP3_6102 at h
    obtain ⟨x_0, h0, h⟩ := kI_ok h
    obtain ⟨x_1, h1, h⟩ := kI_ok h
    obtain ⟨x_2, h2, h⟩ := kI_ok h
    obtain ⟨x_3, h3, h⟩ := kbool_ok h
    obtain ⟨b_9, o_9, h4, h⟩ := kptr_ok h
    obtain ⟨x_10, h5, h⟩ := kI_ok h
    obtain ⟨x_11, h6, h⟩ := kI_ok h
    refine ⟨⟨x_0, x_1, x_2, x_3, b_9, o_9, x_10, x_11, h0, h1, h2, h3, h4, h5, h6⟩, ?_⟩
    have ev : [0, 1, 2, 3, 9, 10, 11].map σ = [(.flat (.int .u32 x_0)), (.flat (.int .u8 x_1)), (.flat (.int .u8 x_2)), (.flat (.bool x_3)), (.ptr b_9 o_9), (.flat (.int .u32 x_10)), (.flat (.int .u32 x_11))] := by simp only [List.map_cons, List.map_nil, h0, h1, h2, h3, h4, h5, h6]
    rw [ev, pc3_6102]
    exact h
  · rintro ⟨⟨x_0, x_1, x_2, x_3, b_9, o_9, x_10, x_11, h0, h1, h2, h3, h4, h5, h6⟩, h⟩
    have ev : [0, 1, 2, 3, 9, 10, 11].map σ = [(.flat (.int .u32 x_0)), (.flat (.int .u8 x_1)), (.flat (.int .u8 x_2)), (.flat (.bool x_3)), (.ptr b_9 o_9), (.flat (.int .u32 x_10)), (.flat (.int .u32 x_11))] := by simp only [List.map_cons, List.map_nil, h0, h1, h2, h3, h4, h5, h6]
    rw [ev, pc3_6102] at h
    unfold LamP3_6102
    simp only [h0, h1, h2, h3, h4, h5, h6, kI, kbool, kS, kptr, kaggN, kite, decide_true, eq_self]
    exact h

theorem eqn3 (x_0 : Int) (x_1 : Int) (x_2 : Int) (x_3 : Bool) (m : Mem) (k : KV) : bodyK Try.prog E3 Lam3 Try.f3 false [(.flat (.int .u32 x_0)), (.flat (.int .u8 x_1)), (.flat (.int .u8 x_2)), (.flat (.bool x_3))] m k = F3 x_0 x_1 x_2 x_3 m (fun x_1000 m' => k (.flat (.bool x_1000)) m') := by
  kernel_rfl

theorem fs3 (w0 : World) : FS Try.prog w0 3 G3 := by
  refine (fs_body (Γ := E3) (sound_env (l := [(7, G7), (8, G8), (9, G9), (10, G10), (11, G11)]) w0 (by
    intro p hp
    simp only [List.mem_cons, List.not_mem_nil, or_false] at hp
    rcases hp with rfl | rfl | rfl | rfl | rfl
    · exact fs7 w0
    · exact fs8 w0
    · exact fs9 w0
    · exact fs10 w0
    · exact fs11 w0)) (by kernel_rfl) Try.func3 (Λ := Lam3) (c := (bodyOf Try.f3)) (by kernel_rfl) Try.call3 (by kernel_rfl) (LS_of (bodyOf Try.f3) 0 (by kernel_rfl) (fun i hi => absurd hi (Nat.not_lt_zero i)) 3 (by kernel_rfl) (by
    intro i hi
    match i, hi with
    | 0, _ => exact pok3_6102
    | 1, _ => exact pok3_11102
    | 2, _ => exact pok3_10004
    | i + 3, hi => omega)) false (np := 4) (Nat.le_of_ble_eq_true (by kernel_rfl))).imp fun args => ?_
  by_cases hl : args.length = 4
  rotate_left
  · exact .inr fun m k hk => by
      unfold G3 at hk
      split at hk
      · exact hl rfl
      · exact hk
  obtain ⟨a0, a1, a2, a3, rfl⟩ : ∃ a0 a1 a2 a3, args = [a0, a1, a2, a3] := len_list4 hl
  rcases kI_or .u32 a0 with ⟨x_0, rfl⟩ | h
  rotate_left
  · exact .inr fun m k hk => h _ (by simpa only [G3, kI, kbool, kS, kptr, kaggN, kite, decide_true, eq_self] using hk)
  rcases kI_or .u8 a1 with ⟨x_1, rfl⟩ | h
  rotate_left
  · exact .inr fun m k hk => h _ (by simpa only [G3, kI, kbool, kS, kptr, kaggN, kite, decide_true, eq_self] using hk)
  rcases kI_or .u8 a2 with ⟨x_2, rfl⟩ | h
  rotate_left
  · exact .inr fun m k hk => h _ (by simpa only [G3, kI, kbool, kS, kptr, kaggN, kite, decide_true, eq_self] using hk)
  rcases kbool_or a3 with ⟨x_3, rfl⟩ | h
  rotate_left
  · exact .inr fun m k hk => h _ (by simpa only [G3, kI, kbool, kS, kptr, kaggN, kite, decide_true, eq_self] using hk)
  exact .inl fun m k => propext ⟨fun h => ⟨rfl, by rw [eqn3]; simpa only [G3, kI, kbool, kS, kptr, kaggN, kite, decide_true, eq_self] using h⟩, fun h => by have h := h.2; rw [eqn3] at h; simpa only [G3, kI, kbool, kS, kptr, kaggN, kite, decide_true, eq_self] using h⟩

/-- pianola/tlb.Probe -/
def F17 (b_0 o_0 : Nat) (m : Mem) (k : Mem → Prop) : Prop :=
  stC m b_0 (o_0 + 39 + 0) (.flat (.int .u32 2147483648)) fun m1 => ldI .u32 m1 b_0 (o_0 + 39 + 10) fun x2 => F10 b_0 o_0 x2 m1 fun x3 m4 => kif (decide (x3 ≥ 0)) (stC m4 b_0 (o_0 + 39 + 0) (.flat (.int .u32 (IntKind.wrap .u32 x3))) fun m5 => k  m5) (k  m4)

def G17 (args : List AV) (m : Mem) (k : KV) : Prop := match args with
  | [a0] => kptr a0 fun b_0 o_0 => F17 b_0 o_0 m (fun m' => k (.tup []) m')
  | _ => False

def E17 : Env := envOf [(10, G10)]

def Lam17 : LEnv := ⟨fun a σ m k => match firstReg a with
  | _ => bump False,
  fun id => match id with
  | _ => bump false,
  fun b => match keyC b with
  | _ => bump false,
  fun b σ m k => match keyC b with
  | _ => bump False⟩

theorem eqn17 (b_0 o_0 : Nat) (m : Mem) (k : KV) : bodyK Try.prog E17 Lam17 Try.f17 false [(.ptr b_0 o_0)] m k = F17 b_0 o_0 m (fun m' => k (.tup []) m') := by
  kernel_rfl

theorem fs17 (w0 : World) : FS Try.prog w0 17 G17 := by
  refine (fs_body (Γ := E17) (sound_env (l := [(10, G10)]) w0 (by
    intro p hp
    simp only [List.mem_cons, List.not_mem_nil, or_false] at hp
    rcases hp with rfl
    · exact fs10 w0)) (by kernel_rfl) Try.func17 (Λ := Lam17) (c := (bodyOf Try.f17)) (by kernel_rfl) Try.call17 (by kernel_rfl) (LS_of (bodyOf Try.f17) 0 (by kernel_rfl) (fun i hi => absurd hi (Nat.not_lt_zero i)) 0 (by kernel_rfl) (fun i hi => absurd hi (Nat.not_lt_zero i))) false (np := 1) (Nat.le_of_ble_eq_true (by kernel_rfl))).imp fun args => ?_
  by_cases hl : args.length = 1
  rotate_left
  · exact .inr fun m k hk => by
      unfold G17 at hk
      split at hk
      · exact hl rfl
      · exact hk
  obtain ⟨a0, rfl⟩ : ∃ a0, args = [a0] := len_list1 hl
  rcases kptr_or a0 with ⟨b_0, o_0, rfl⟩ | h
  rotate_left
  · exact .inr fun m k hk => h _ (by simpa only [G17, kI, kbool, kS, kptr, kaggN, kite, decide_true, eq_self] using hk)
  exact .inl fun m k => propext ⟨fun h => ⟨rfl, by rw [eqn17]; simpa only [G17, kI, kbool, kS, kptr, kaggN, kite, decide_true, eq_self] using h⟩, fun h => by have h := h.2; rw [eqn17] at h; simpa only [G17, kI, kbool, kS, kptr, kaggN, kite, decide_true, eq_self] using h⟩

/-- pianola/tlb.Get -/
def F18 (b_0 o_0 : Nat) (m : Mem) (k : Mem → Prop) : Prop :=
  ldI .u32 m b_0 (o_0 + 39 + 0) fun x1 => kif (decide (0 ≤ bits .and .u32 x1 7) && decide (bits .and .u32 x1 7 < 8)) (ldG 2 m b_0 (o_0 + 55 + (bits .and .u32 x1 7).toNat * 2) fun c2 => newK m ⟨2, lget [(.flat (.int .u32 0)), (.flat (.int .u32 0))], 26, false⟩ fun b4 m3 => stG 2 m3 b4 0 c2 fun m5 => ldI .u32 m5 b4 0 fun x6 => F8 b_0 o_0 10 x6 m5 fun m7 => ldI .u32 m7 b4 1 fun x8 => F8 b_0 o_0 2 x8 m7 fun m9 => k  m9) False

def G18 (args : List AV) (m : Mem) (k : KV) : Prop := match args with
  | [a0] => kptr a0 fun b_0 o_0 => F18 b_0 o_0 m (fun m' => k (.tup []) m')
  | _ => False

def E18 : Env := envOf [(8, G8)]

def Lam18 : LEnv := ⟨fun a σ m k => match firstReg a with
  | _ => bump False,
  fun id => match id with
  | _ => bump false,
  fun b => match keyC b with
  | _ => bump false,
  fun b σ m k => match keyC b with
  | _ => bump False⟩

theorem eqn18 (b_0 o_0 : Nat) (m : Mem) (k : KV) : bodyK Try.prog E18 Lam18 Try.f18 false [(.ptr b_0 o_0)] m k = F18 b_0 o_0 m (fun m' => k (.tup []) m') := by
  kernel_rfl

theorem fs18 (w0 : World) : FS Try.prog w0 18 G18 := by
  refine (fs_body (Γ := E18) (sound_env (l := [(8, G8)]) w0 (by
    intro p hp
    simp only [List.mem_cons, List.not_mem_nil, or_false] at hp
    rcases hp with rfl
    · exact fs8 w0)) (by kernel_rfl) Try.func18 (Λ := Lam18) (c := (bodyOf Try.f18)) (by kernel_rfl) Try.call18 (by kernel_rfl) (LS_of (bodyOf Try.f18) 0 (by kernel_rfl) (fun i hi => absurd hi (Nat.not_lt_zero i)) 0 (by kernel_rfl) (fun i hi => absurd hi (Nat.not_lt_zero i))) false (np := 1) (Nat.le_of_ble_eq_true (by kernel_rfl))).imp fun args => ?_
  by_cases hl : args.length = 1
  rotate_left
  · exact .inr fun m k hk => by
      unfold G18 at hk
      split at hk
      · exact hl rfl
      · exact hk
  obtain ⟨a0, rfl⟩ : ∃ a0, args = [a0] := len_list1 hl
  rcases kptr_or a0 with ⟨b_0, o_0, rfl⟩ | h
  rotate_left
  · exact .inr fun m k hk => h _ (by simpa only [G18, kI, kbool, kS, kptr, kaggN, kite, decide_true, eq_self] using hk)
  exact .inl fun m k => propext ⟨fun h => ⟨rfl, by rw [eqn18]; simpa only [G18, kI, kbool, kS, kptr, kaggN, kite, decide_true, eq_self] using h⟩, fun h => by have h := h.2; rw [eqn18] at h; simpa only [G18, kI, kbool, kS, kptr, kaggN, kite, decide_true, eq_self] using h⟩

def P21_9004 (b_0 o_0 : Nat) (x_1 : Int) (x_2 : Int) (x_6 : Int) (x_34 : Bool) (m : Mem) (kn : Mem → Prop) : Prop :=
  kif x_34 (kif (decide (0 ≤ x_1) && decide (x_1 < 16)) (stC m b_0 (o_0 + 39 + (x_1).toNat * 1) (.flat (.int .u32 x_2)) fun m4 => kn  m4) False) (kif (x_6 == 11) (kif (decide (0 ≤ x_1) && decide (x_1 < 16)) (stC m b_0 (o_0 + 39 + (x_1).toNat * 1) (.flat (.int .u32 x_2)) fun m5 => ldI .u32 m5 b_0 (o_0 + 39 + 13) fun x6 => stC m5 b_0 (o_0 + 39 + 13) (.flat (.int .u32 (bits .andNot .u32 x6 32768))) fun m7 => kn  m7) False) (kif (x_6 == 12) (kif (decide (0 ≤ x_1) && decide (x_1 < 16)) (stC m b_0 (o_0 + 39 + (x_1).toNat * 1) (.flat (.int .u32 (bits .and .u32 x_2 65299))) fun m8 => kn  m8) False) (kif (x_6 == 13) (kif (decide (0 ≤ x_1) && decide (x_1 < 16)) (ldI .u32 m b_0 (o_0 + 39 + (x_1).toNat * 1) fun x9 => kif (decide (0 ≤ x_1) && decide (x_1 < 16)) (stC m b_0 (o_0 + 39 + (x_1).toNat * 1) (.flat (.int .u32 (bits .or .u32 (bits .andNot .u32 x9 768) (bits .and .u32 x_2 768)))) fun m10 => kn  m10) False) False) (kn  m))))

/-- pianola/pianolaref6.Write -/
def F21 (b_0 o_0 : Nat) (x_1 : Int) (x_2 : Int) (m : Mem) (k : Mem → Prop) : Prop :=
  kif (x_1 == 0) (kif (decide (0 ≤ x_1) && decide (x_1 < 16)) (stC m b_0 (o_0 + 39 + (x_1).toNat * 1) (.flat (.int .u32 (bits .and .u32 x_2 7))) fun m1 => k  m1) False) (kif (x_1 == 2) (kif (decide (0 ≤ x_1) && decide (x_1 < 16)) (stC m b_0 (o_0 + 39 + (x_1).toNat * 1) (.flat (.int .u32 (bits .and .u32 x_2 4294966279))) fun m2 => k  m2) False) (kif (x_1 == 10) (kif (decide (0 ≤ x_1) && decide (x_1 < 16)) (stC m b_0 (o_0 + 39 + (x_1).toNat * 1) (.flat (.int .u32 (bits .and .u32 x_2 4294966527))) fun m3 => k  m3) False) (kif (x_1 == 9) (P21_9004 b_0 o_0 x_1 x_2 x_1 (x_1 == 9) m (fun m11 => k  m11)) (P21_9004 b_0 o_0 x_1 x_2 x_1 (x_1 == 14) m (fun m12 => k  m12)))))

def G21 (args : List AV) (m : Mem) (k : KV) : Prop := match args with
  | [a0, a1, a2] => kptr a0 fun b_0 o_0 => kI .i64 a1 fun x_1 => kI .u32 a2 fun x_2 => F21 b_0 o_0 x_1 x_2 m (fun m' => k (.tup []) m')
  | _ => False

def E21 : Env := envOf []

def LamP21_9004 (σ : Nat → AV) (m : Mem) (k : KX) : Prop := kptr (σ 0) fun b_0 o_0 => kI .i64 (σ 1) fun x_1 => kI .u32 (σ 2) fun x_2 => kI .i64 (σ 6) fun x_6 => kbool (σ 34) fun x_34 => P21_9004 b_0 o_0 x_1 x_2 x_6 x_34 m (fun m' => k .normal (only [] []) m')

def Lam21 : LEnv := ⟨fun a σ m k => match firstReg a with
  | _ => bump False,
  fun id => match id with
  | _ => bump false,
  fun b => match keyC b with
  | some 9004 => true
  | _ => bump false,
  fun b σ m k => match keyC b with
  | some 9004 => LamP21_9004 σ m k
  | _ => bump False⟩

def lxp21_9004 : Ex → List Nat := fun e => match e with
  | .normal => []
  | _ => []

theorem pc21_9004 (b_0 o_0 : Nat) (x_1 : Int) (x_2 : Int) (x_6 : Int) (x_34 : Bool) (m : Mem) (k : KX) : once Try.prog E21 Lam21 [0, 1, 2, 6, 34] lxp21_9004 (((secsOf (bodyOf Try.f21)).filter Lam21.cut).getD 0 .skip) [(.ptr b_0 o_0), (.flat (.int .i64 x_1)), (.flat (.int .u32 x_2)), (.flat (.int .i64 x_6)), (.flat (.bool x_34))] m k = P21_9004 b_0 o_0 x_1 x_2 x_6 x_34 m (fun m' => k .normal (only [] []) m') := by
  kernel_rfl

theorem pok21_9004 : PieceOK Try.prog E21 Lam21 (((secsOf (bodyOf Try.f21)).filter Lam21.cut).getD 0 .skip) := by
  refine ⟨fun σ => ∃ b_0 o_0 x_1 x_2 x_6 x_34, σ 0 = .ptr b_0 o_0 ∧ σ 1 = .flat (.int .i64 x_1) ∧ σ 2 = .flat (.int .u32 x_2) ∧ σ 6 = .flat (.int .i64 x_6) ∧ σ 34 = .flat (.bool x_34), [0, 1, 2, 6, 34], lxp21_9004, fun σ m k => ?_⟩
  have e : Lam21.piece (((secsOf (bodyOf Try.f21)).filter Lam21.cut).getD 0 .skip) σ m k = LamP21_9004 σ m k := by kernel_rfl
  rw [e]
  constructor
  · intro h
    unfold LamP21_9004 at h
    obtain ⟨b_0, o_0, h0, h⟩ := kptr_ok h
    obtain ⟨x_1, h1, h⟩ := kI_ok h
    obtain ⟨x_2, h2, h⟩ := kI_ok h
    obtain ⟨x_6, h3, h⟩ := kI_ok h
    obtain ⟨x_34, h4, h⟩ := kbool_ok h
    refine ⟨⟨b_0, o_0, x_1, x_2, x_6, x_34, h0, h1, h2, h3, h4⟩, ?_⟩
    have ev : [0, 1, 2, 6, 34].map σ = [(.ptr b_0 o_0), (.flat (.int .i64 x_1)), (.flat (.int .u32 x_2)), (.flat (.int .i64 x_6)), (.flat (.bool x_34))] := by simp only [List.map_cons, List.map_nil, h0, h1, h2, h3, h4]
    rw [ev, pc21_9004]
    exact h
  · rintro ⟨⟨b_0, o_0, x_1, x_2, x_6, x_34, h0, h1, h2, h3, h4⟩, h⟩
    have ev : [0, 1, 2, 6, 34].map σ = [(.ptr b_0 o_0), (.flat (.int .i64 x_1)), (.flat (.int .u32 x_2)), (.flat (.int .i64 x_6)), (.flat (.bool x_34))] := by simp only [List.map_cons, List.map_nil, h0, h1, h2, h3, h4]
    rw [ev, pc21_9004] at h
    unfold LamP21_9004
    simp only [h0, h1, h2, h3, h4, kI, kbool, kS, kptr, kaggN, kite, decide_true, eq_self]
    exact h

theorem eqn21 (b_0 o_0 : Nat) (x_1 : Int) (x_2 : Int) (m : Mem) (k : KV) : bodyK Try.prog E21 Lam21 Try.f21 false [(.ptr b_0 o_0), (.flat (.int .i64 x_1)), (.flat (.int .u32 x_2))] m k = F21 b_0 o_0 x_1 x_2 m (fun m' => k (.tup []) m') := by
  kernel_rfl

theorem fs21 (w0 : World) : FS Try.prog w0 21 G21 := by
  refine (fs_body (Γ := E21) (sound_env (l := []) w0 (by
    intro p hp
    cases hp)) (by kernel_rfl) Try.func21 (Λ := Lam21) (c := (bodyOf Try.f21)) (by kernel_rfl) Try.call21 (by kernel_rfl) (LS_of (bodyOf Try.f21) 0 (by kernel_rfl) (fun i hi => absurd hi (Nat.not_lt_zero i)) 1 (by kernel_rfl) (by
    intro i hi
    match i, hi with
    | 0, _ => exact pok21_9004
    | i + 1, hi => omega)) false (np := 3) (Nat.le_of_ble_eq_true (by kernel_rfl))).imp fun args => ?_
  by_cases hl : args.length = 3
  rotate_left
  · exact .inr fun m k hk => by
      unfold G21 at hk
      split at hk
      · exact hl rfl
      · exact hk
  obtain ⟨a0, a1, a2, rfl⟩ : ∃ a0 a1 a2, args = [a0, a1, a2] := len_list3 hl
  rcases kptr_or a0 with ⟨b_0, o_0, rfl⟩ | h
  rotate_left
  · exact .inr fun m k hk => h _ (by simpa only [G21, kI, kbool, kS, kptr, kaggN, kite, decide_true, eq_self] using hk)
  rcases kI_or .i64 a1 with ⟨x_1, rfl⟩ | h
  rotate_left
  · exact .inr fun m k hk => h _ (by simpa only [G21, kI, kbool, kS, kptr, kaggN, kite, decide_true, eq_self] using hk)
  rcases kI_or .u32 a2 with ⟨x_2, rfl⟩ | h
  rotate_left
  · exact .inr fun m k hk => h _ (by simpa only [G21, kI, kbool, kS, kptr, kaggN, kite, decide_true, eq_self] using hk)
  exact .inl fun m k => propext ⟨fun h => ⟨rfl, by rw [eqn21]; simpa only [G21, kI, kbool, kS, kptr, kaggN, kite, decide_true, eq_self] using h⟩, fun h => by have h := h.2; rw [eqn21] at h; simpa only [G21, kI, kbool, kS, kptr, kaggN, kite, decide_true, eq_self] using h⟩

end Go.Proofs.Ytnfpmaiolponbaa.Am
