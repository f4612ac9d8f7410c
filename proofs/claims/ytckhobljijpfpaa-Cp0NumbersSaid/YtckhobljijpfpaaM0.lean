/- What Go functions ask of what follows them, as plain functions over the abstract machine; the machine asks just that. Written by gen.py. -/
import Derived.Test.YtckhobljijpfpaaProg
import Derived.Test.YtckhobljijpfpaaAmL
namespace Go.Proofs.Ytckhobljijpfpaa.Am
set_option linter.unusedVariables false
set_option linter.unusedSimpArgs false
set_option maxRecDepth 100000

def Z73 : Nat → AV := lget [(.flat (.int .u32 0)), (.flat (.int .u32 0)), (.flat (.int .u32 0)), (.flat (.int .u32 0)), (.flat (.int .u32 0)), (.flat (.int .u32 0)), (.flat (.int .u32 0)), (.flat (.int .u32 0)), (.flat (.int .u32 0)), (.flat (.int .u32 0)), (.flat (.int .u32 0)), (.flat (.int .u32 0)), (.flat (.int .u32 0)), (.flat (.int .u32 0)), (.flat (.int .u32 0)), (.flat (.int .u32 0)), (.flat (.int .u32 0)), (.flat (.int .u32 0)), (.flat (.int .u32 0)), (.flat (.int .u32 0)), (.flat (.int .u32 0)), (.flat (.int .u32 0)), (.flat (.int .u32 0)), (.flat (.int .u32 0)), (.flat (.int .u32 0)), (.flat (.int .u32 0)), (.flat (.int .u32 0)), (.flat (.int .u32 0)), (.flat (.int .u32 0)), (.flat (.int .u32 0)), (.flat (.int .u32 0)), (.flat (.int .u32 0)), (.flat (.int .u32 0)), (.flat (.int .u32 0)), (.flat (.int .u32 0)), (.flat (.int .u32 0)), (.flat (.bool false)), (.flat (.bool false)), (.flat (.int .u32 0)), (.flat (.int .u32 0)), (.flat (.int .u32 0)), (.flat (.int .u32 0)), (.flat (.int .u32 0)), (.flat (.int .u32 0)), (.flat (.int .u32 0)), (.flat (.int .u32 0)), (.flat (.int .u32 0)), (.flat (.int .u32 0)), (.flat (.int .u32 0)), (.flat (.int .u32 0)), (.flat (.int .u32 0)), (.flat (.int .u32 0)), (.flat (.int .u32 0)), (.flat (.int .u32 0)), (.flat (.int .u32 0)), (.flat (.int .u32 0)), (.flat (.int .u32 0)), (.flat (.int .u32 0)), (.flat (.int .u32 0)), (.flat (.int .u32 0)), (.flat (.int .u32 0)), (.flat (.int .u32 0)), (.flat (.int .u32 0)), (.flat (.int .u32 0)), (.flat (.int .u32 0)), (.flat (.int .u32 0)), (.flat (.int .u32 0)), (.flat (.int .u32 0)), (.flat (.int .u32 0)), (.flat (.int .u32 0)), (.flat (.int .u32 0)), (.flat (.bool false)), (.flat (.int .i64 0))]

def Z6 : Nat → AV := lget [(.flat (.int .i64 0)), (.flat (.int .i64 0)), (.flat (.int .i64 0)), (.flat (.int .i64 0)), (.flat (.int .i64 0)), (.flat (.int .i64 0))]

def K24 : List (Nat × LK) := [(0, (.i .u32)), (1, (.i .u32)), (2, (.i .u32)), (3, (.i .u32)), (4, (.i .u32)), (5, (.i .u32)), (6, (.i .u32)), (7, (.i .u32)), (8, (.i .u32)), (9, (.i .u32)), (10, (.i .u32)), (11, (.i .u32)), (12, (.i .u32)), (13, (.i .u32)), (14, (.i .u32)), (15, (.i .u32)), (16, (.i .u32)), (17, (.i .u32)), (18, (.i .u32)), (19, (.i .u32)), (20, (.i .u32)), (21, (.i .u32)), (22, (.i .u32)), (23, (.i .u32)), (24, (.i .u32)), (25, (.i .u32)), (26, (.i .u32)), (27, (.i .u32)), (28, (.i .u32)), (29, (.i .u32)), (30, (.i .u32)), (31, (.i .u32))]

def K30 : List (Nat × LK) := [(0, (.i .u32)), (1, (.i .u32)), (2, (.i .u32)), (3, (.i .u32)), (4, (.i .u32)), (5, (.i .u32)), (6, (.i .u32)), (7, (.i .u32)), (8, (.i .u32)), (9, (.i .u32)), (10, (.i .u32)), (11, (.i .u32)), (12, (.i .u32)), (13, (.i .u32)), (14, (.i .u32)), (15, (.i .u32)), (16, (.i .u32)), (17, (.i .u32)), (18, (.i .u32)), (19, (.i .u32)), (20, (.i .u32)), (21, (.i .u32)), (22, (.i .u32)), (23, (.i .u32)), (24, (.i .u32)), (25, (.i .u32)), (26, (.i .u32)), (27, (.i .u32)), (28, (.i .u32)), (29, (.i .u32)), (30, (.i .u32)), (31, (.i .u32)), (32, (.i .u32)), (33, (.i .u32)), (34, (.i .u32)), (35, (.i .u32)), (36, .b), (37, .b), (38, (.i .u32)), (39, (.i .u32)), (40, (.i .u32)), (41, (.i .u32)), (42, (.i .u32)), (43, (.i .u32)), (44, (.i .u32)), (45, (.i .u32)), (46, (.i .u32)), (47, (.i .u32)), (48, (.i .u32)), (49, (.i .u32)), (50, (.i .u32)), (51, (.i .u32)), (52, (.i .u32)), (53, (.i .u32)), (54, (.i .u32)), (55, (.i .u32)), (56, (.i .u32)), (57, (.i .u32)), (58, (.i .u32)), (59, (.i .u32)), (60, (.i .u32)), (61, (.i .u32)), (62, (.i .u32)), (63, (.i .u32)), (64, (.i .u32)), (65, (.i .u32)), (66, (.i .u32)), (67, (.i .u32)), (68, (.i .u32)), (69, (.i .u32)), (70, (.i .u32)), (71, .b), (72, (.i .i64))]

/-- pianola/cp0.Fresh -/
def F6  (m : Mem) (k : (Nat → AV) → Mem → Prop) : Prop :=
  newK m ⟨73, Z73, 30, false⟩ fun b2 m1 => newK m1 ⟨73, Z73, 30, false⟩ fun b4 m3 => stG 73 m3 b4 0 (upd (upd (Z73) 34 (.flat (.int .u32 2147484672))) 35 (.flat (.int .u32 2147484676))) fun m5 => stC m5 b4 54 (.flat (.int .u32 98304)) fun m6 => ldG 73 m6 b4 0 fun c7 => stG 73 m6 b2 0 c7 fun m8 => ldG 73 m8 b2 0 fun c9 => (Keeps m m8 ∧ InDomG 73 m c9 ∧ k c9 m)

def G6 (args : List AV) (m : Mem) (k : KV) : Prop := match args with
  | [] => F6  m (fun c_1000 m' => k (.agg 73 c_1000) m')
  | _ => False

def E6 : Env := envOf []

def Lam6 : LEnv := ⟨fun a σ m k => match firstReg a with
  | _ => bump False,
  fun id => match id with
  | _ => bump false,
  fun b => match keyC b with
  | _ => bump false,
  fun b σ m k => match keyC b with
  | _ => bump False⟩

theorem eqn6  (m : Mem) (k : KV) : bodyK Try.prog E6 Lam6 Try.f6 true [] m k = F6  m (fun c_1000 m' => k (.agg 73 c_1000) m') := by
  kernel_rfl

theorem fs6 (w0 : World) : FS Try.prog w0 6 G6 := by
  refine (fs_body (Γ := E6) (sound_env (l := []) w0 (by
    intro p hp
    cases hp)) (by kernel_rfl) Try.func6 (Λ := Lam6) (c := (bodyOf Try.f6)) (by kernel_rfl) Try.call6 (by kernel_rfl) (LS_of (bodyOf Try.f6) 0 (by kernel_rfl) (fun i hi => absurd hi (Nat.not_lt_zero i)) 0 (by kernel_rfl) (fun i hi => absurd hi (Nat.not_lt_zero i))) true (np := 0) (Nat.le_of_ble_eq_true (by kernel_rfl))).imp fun args => ?_
  by_cases hl : args.length = 0
  rotate_left
  · exact .inr fun m k hk => by
      unfold G6 at hk
      split at hk
      · exact hl rfl
      · exact hk
  obtain rfl : args = [] := len_list0 hl

  exact .inl fun m k => propext ⟨fun h => ⟨rfl, by rw [eqn6]; simpa only [G6, kI, kbool, kS, kptr, kaggN, kite, decide_true, eq_self] using h⟩, fun h => by have h := h.2; rw [eqn6] at h; simpa only [G6, kI, kbool, kS, kptr, kaggN, kite, decide_true, eq_self] using h⟩

def P7_10004 (v_0 : AV) (x_1 : Int) (x_2 : Int) (x_8 : Int) (x_36 : Bool) (m : Mem) (kn : Mem → Prop) : Prop :=
  kif x_36 (kptr v_0 fun b11 o12 => kif (decide (0 ≤ x_1) && decide (x_1 < 16)) (stC m b11 (o12 + 39 + (x_1).toNat * 1) (.flat (.int .u32 x_2)) fun m13 => kn  m13) False) (kif (x_8 == 11) (kptr v_0 fun b14 o15 => kif (decide (0 ≤ x_1) && decide (x_1 < 16)) (stC m b14 (o15 + 39 + (x_1).toNat * 1) (.flat (.int .u32 x_2)) fun m16 => kptr v_0 fun b17 o18 => ldI .u32 m16 b17 (o18 + 39 + 13) fun x19 => kptr v_0 fun b20 o21 => stC m16 b20 (o21 + 39 + 13) (.flat (.int .u32 (bits .andNot .u32 x19 32768))) fun m22 => kn  m22) False) (kif (x_8 == 12) (kptr v_0 fun b23 o24 => kif (decide (0 ≤ x_1) && decide (x_1 < 16)) (stC m b23 (o24 + 39 + (x_1).toNat * 1) (.flat (.int .u32 (bits .and .u32 x_2 65299))) fun m25 => kn  m25) False) (kif (x_8 == 13) (kptr v_0 fun b26 o27 => kif (decide (0 ≤ x_1) && decide (x_1 < 16)) (ldI .u32 m b26 (o27 + 39 + (x_1).toNat * 1) fun x28 => kptr v_0 fun b29 o30 => kif (decide (0 ≤ x_1) && decide (x_1 < 16)) (stC m b29 (o30 + 39 + (x_1).toNat * 1) (.flat (.int .u32 (bits .or .u32 (bits .andNot .u32 x28 768) (bits .and .u32 x_2 768)))) fun m31 => kn  m31) False) False) (kn  m))))

/-- pianola/cp0.Write -/
def F7 (v_0 : AV) (x_1 : Int) (x_2 : Int) (m : Mem) (k : Mem → Prop) : Prop :=
  knilP v_0 fun x1 => kif x1 (k  m) (kif (x_1 == 0) (kptr v_0 fun b2 o3 => kif (decide (0 ≤ x_1) && decide (x_1 < 16)) (stC m b2 (o3 + 39 + (x_1).toNat * 1) (.flat (.int .u32 (bits .and .u32 x_2 7))) fun m4 => k  m4) False) (kif (x_1 == 2) (kptr v_0 fun b5 o6 => kif (decide (0 ≤ x_1) && decide (x_1 < 16)) (stC m b5 (o6 + 39 + (x_1).toNat * 1) (.flat (.int .u32 (bits .and .u32 x_2 4294966279))) fun m7 => k  m7) False) (kif (x_1 == 10) (kptr v_0 fun b8 o9 => kif (decide (0 ≤ x_1) && decide (x_1 < 16)) (stC m b8 (o9 + 39 + (x_1).toNat * 1) (.flat (.int .u32 (bits .and .u32 x_2 4294966527))) fun m10 => k  m10) False) (kif (x_1 == 9) (P7_10004 v_0 x_1 x_2 x_1 (x_1 == 9) m (fun m32 => k  m32)) (P7_10004 v_0 x_1 x_2 x_1 (x_1 == 14) m (fun m33 => k  m33))))))

def G7 (args : List AV) (m : Mem) (k : KV) : Prop := match args with
  | [a0, a1, a2] => kI .i64 a1 fun x_1 => kI .u32 a2 fun x_2 => F7 a0 x_1 x_2 m (fun m' => k (.tup []) m')
  | _ => False

def E7 : Env := envOf []

def LamP7_10004 (σ : Nat → AV) (m : Mem) (k : KX) : Prop := kI .i64 (σ 1) fun x_1 => kI .u32 (σ 2) fun x_2 => kI .i64 (σ 8) fun x_8 => kbool (σ 36) fun x_36 => P7_10004 (σ 0) x_1 x_2 x_8 x_36 m (fun m' => k .normal (only [] []) m')

def Lam7 : LEnv := ⟨fun a σ m k => match firstReg a with
  | _ => bump False,
  fun id => match id with
  | _ => bump false,
  fun b => match keyC b with
  | some 10004 => true
  | _ => bump false,
  fun b σ m k => match keyC b with
  | some 10004 => LamP7_10004 σ m k
  | _ => bump False⟩

def lxp7_10004 : Ex → List Nat := fun e => match e with
  | .normal => []
  | _ => []

theorem pc7_10004 (v_0 : AV) (x_1 : Int) (x_2 : Int) (x_8 : Int) (x_36 : Bool) (m : Mem) (k : KX) : once Try.prog E7 Lam7 [0, 1, 2, 8, 36] lxp7_10004 (((secsOf (bodyOf Try.f7)).filter Lam7.cut).getD 0 .skip) [v_0, (.flat (.int .i64 x_1)), (.flat (.int .u32 x_2)), (.flat (.int .i64 x_8)), (.flat (.bool x_36))] m k = P7_10004 v_0 x_1 x_2 x_8 x_36 m (fun m' => k .normal (only [] []) m') := by
  kernel_rfl

theorem pok7_10004 : PieceOK Try.prog E7 Lam7 (((secsOf (bodyOf Try.f7)).filter Lam7.cut).getD 0 .skip) := by
  refine ⟨fun σ => ∃ v_0 x_1 x_2 x_8 x_36, σ 0 = v_0 ∧ σ 1 = .flat (.int .i64 x_1) ∧ σ 2 = .flat (.int .u32 x_2) ∧ σ 8 = .flat (.int .i64 x_8) ∧ σ 36 = .flat (.bool x_36), [0, 1, 2, 8, 36], lxp7_10004, fun σ m k => ?_⟩
  have e : Lam7.piece (((secsOf (bodyOf Try.f7)).filter Lam7.cut).getD 0 .skip) σ m k = LamP7_10004 σ m k := by kernel_rfl
  rw [e]
  constructor
  · intro h
    unfold LamP7_10004 at h
    obtain ⟨v_0, h0⟩ : ∃ v, σ 0 = v := ⟨_, rfl⟩
    obtain ⟨x_1, h1, h⟩ := kI_ok h
    obtain ⟨x_2, h2, h⟩ := kI_ok h
    obtain ⟨x_8, h3, h⟩ := kI_ok h
    obtain ⟨x_36, h4, h⟩ := kbool_ok h
    refine ⟨⟨v_0, x_1, x_2, x_8, x_36, h0, h1, h2, h3, h4⟩, ?_⟩
    have ev : [0, 1, 2, 8, 36].map σ = [v_0, (.flat (.int .i64 x_1)), (.flat (.int .u32 x_2)), (.flat (.int .i64 x_8)), (.flat (.bool x_36))] := by simp only [List.map_cons, List.map_nil, h0, h1, h2, h3, h4]
    rw [ev, pc7_10004]
    simp only [h0] at h
    exact h
  · rintro ⟨⟨v_0, x_1, x_2, x_8, x_36, h0, h1, h2, h3, h4⟩, h⟩
    have ev : [0, 1, 2, 8, 36].map σ = [v_0, (.flat (.int .i64 x_1)), (.flat (.int .u32 x_2)), (.flat (.int .i64 x_8)), (.flat (.bool x_36))] := by simp only [List.map_cons, List.map_nil, h0, h1, h2, h3, h4]
    rw [ev, pc7_10004] at h
    unfold LamP7_10004
    simp only [h0, h1, h2, h3, h4, kI, kbool, kS, kptr, kaggN, kite, decide_true, eq_self]
    exact h

theorem eqn7 (v_0 : AV) (x_1 : Int) (x_2 : Int) (m : Mem) (k : KV) : bodyK Try.prog E7 Lam7 Try.f7 false [v_0, (.flat (.int .i64 x_1)), (.flat (.int .u32 x_2))] m k = F7 v_0 x_1 x_2 m (fun m' => k (.tup []) m') := by
  kernel_rfl

theorem fs7 (w0 : World) : FS Try.prog w0 7 G7 := by
  refine (fs_body (Γ := E7) (sound_env (l := []) w0 (by
    intro p hp
    cases hp)) (by kernel_rfl) Try.func7 (Λ := Lam7) (c := (bodyOf Try.f7)) (by kernel_rfl) Try.call7 (by kernel_rfl) (LS_of (bodyOf Try.f7) 0 (by kernel_rfl) (fun i hi => absurd hi (Nat.not_lt_zero i)) 1 (by kernel_rfl) (by
    intro i hi
    match i, hi with
    | 0, _ => exact pok7_10004
    | i + 1, hi => omega)) false (np := 3) (Nat.le_of_ble_eq_true (by kernel_rfl))).imp fun args => ?_
  by_cases hl : args.length = 3
  rotate_left
  · exact .inr fun m k hk => by
      unfold G7 at hk
      split at hk
      · exact hl rfl
      · exact hk
  obtain ⟨a0, a1, a2, rfl⟩ : ∃ a0 a1 a2, args = [a0, a1, a2] := len_list3 hl
  rcases kI_or .i64 a1 with ⟨x_1, rfl⟩ | h
  rotate_left
  · exact .inr fun m k hk => h _ (by simpa only [G7, kI, kbool, kS, kptr, kaggN, kite, decide_true, eq_self] using hk)
  rcases kI_or .u32 a2 with ⟨x_2, rfl⟩ | h
  rotate_left
  · exact .inr fun m k hk => h _ (by simpa only [G7, kI, kbool, kS, kptr, kaggN, kite, decide_true, eq_self] using hk)
  exact .inl fun m k => propext ⟨fun h => ⟨rfl, by rw [eqn7]; simpa only [G7, kI, kbool, kS, kptr, kaggN, kite, decide_true, eq_self] using h⟩, fun h => by have h := h.2; rw [eqn7] at h; simpa only [G7, kI, kbool, kS, kptr, kaggN, kite, decide_true, eq_self] using h⟩

def P8_6102 (v_0 : AV) (x_1 : Int) (x_5 : Int) (m : Mem) (kr : Bool → Mem → Prop) : Prop :=
  kptr v_0 fun b8 o9 => ldI .i64 m b8 (o9 + 72) fun x10 => kptr v_0 fun b11 o12 => stC m b11 (o12 + 72) (.flat (.int .i64 (IntKind.wrap .i64 (x10 + x_1)))) fun m13 => kptr v_0 fun b14 o15 => ldI .u32 m13 b14 (o15 + 39 + 9) fun x16 => kptr v_0 fun b17 o18 => stC m13 b17 (o18 + 39 + 9) (.flat (.int .u32 (IntKind.wrap .u32 (x16 + (IntKind.wrap .u32 x_1))))) fun m19 => kif (decide (x_1 < x_5)) (kr false m19) (kptr v_0 fun b20 o21 => ldI .u32 m19 b20 (o21 + 39 + 13) fun x22 => kptr v_0 fun b23 o24 => stC m19 b23 (o24 + 39 + 13) (.flat (.int .u32 (bits .or .u32 x22 32768))) fun m25 => kr true m25)

/-- pianola/cp0.Go -/
def F8 (v_0 : AV) (x_1 : Int) (m : Mem) (k : Bool → Mem → Prop) : Prop :=
  knilP v_0 fun x1 => kif x1 (k false m) (kif (decide (x_1 < 1)) (k false m) (kptr v_0 fun b2 o3 => ldI .u32 m b2 (o3 + 39 + 11) fun x4 => kptr v_0 fun b5 o6 => ldI .u32 m b5 (o6 + 39 + 9) fun x7 => kif ((IntKind.wrap .i64 (IntKind.wrap .u32 (x4 - x7))) == 0) (P8_6102 v_0 x_1 4294967296 m (fun x26 m27 => k x26 m27)) (P8_6102 v_0 x_1 (IntKind.wrap .i64 (IntKind.wrap .u32 (x4 - x7))) m (fun x28 m29 => k x28 m29))))

def G8 (args : List AV) (m : Mem) (k : KV) : Prop := match args with
  | [a0, a1] => kI .i64 a1 fun x_1 => F8 a0 x_1 m (fun x_1000 m' => k (.flat (.bool x_1000)) m')
  | _ => False

def E8 : Env := envOf []

def LamP8_6102 (σ : Nat → AV) (m : Mem) (k : KX) : Prop := kI .i64 (σ 1) fun x_1 => kI .i64 (σ 5) fun x_5 => P8_6102 (σ 0) x_1 x_5 m (fun x_4' m' => k .ret (only [4] [(.flat (.bool x_4'))]) m')

def Lam8 : LEnv := ⟨fun a σ m k => match firstReg a with
  | _ => bump False,
  fun id => match id with
  | _ => bump false,
  fun b => match keyC b with
  | some 6102 => true
  | _ => bump false,
  fun b σ m k => match keyC b with
  | some 6102 => LamP8_6102 σ m k
  | _ => bump False⟩

def lxp8_6102 : Ex → List Nat := fun e => match e with
  | .ret => [4]
  | _ => []

theorem pc8_6102 (v_0 : AV) (x_1 : Int) (x_5 : Int) (m : Mem) (k : KX) : once Try.prog E8 Lam8 [0, 1, 5] lxp8_6102 (((secsOf (bodyOf Try.f8)).filter Lam8.cut).getD 0 .skip) [v_0, (.flat (.int .i64 x_1)), (.flat (.int .i64 x_5))] m k = P8_6102 v_0 x_1 x_5 m (fun x_4' m' => k .ret (only [4] [(.flat (.bool x_4'))]) m') := by
  kernel_rfl

theorem pok8_6102 : PieceOK Try.prog E8 Lam8 (((secsOf (bodyOf Try.f8)).filter Lam8.cut).getD 0 .skip) := by
  refine ⟨fun σ => ∃ v_0 x_1 x_5, σ 0 = v_0 ∧ σ 1 = .flat (.int .i64 x_1) ∧ σ 5 = .flat (.int .i64 x_5), [0, 1, 5], lxp8_6102, fun σ m k => ?_⟩
  have e : Lam8.piece (((secsOf (bodyOf Try.f8)).filter Lam8.cut).getD 0 .skip) σ m k = LamP8_6102 σ m k := by kernel_rfl
  rw [e]
  constructor
  · intro h
    unfold LamP8_6102 at h
    obtain ⟨v_0, h0⟩ : ∃ v, σ 0 = v := ⟨_, rfl⟩
    obtain ⟨x_1, h1, h⟩ := kI_ok h
    obtain ⟨x_5, h2, h⟩ := kI_ok h
    refine ⟨⟨v_0, x_1, x_5, h0, h1, h2⟩, ?_⟩
    have ev : [0, 1, 5].map σ = [v_0, (.flat (.int .i64 x_1)), (.flat (.int .i64 x_5))] := by simp only [List.map_cons, List.map_nil, h0, h1, h2]
    rw [ev, pc8_6102]
    simp only [h0] at h
    exact h
  · rintro ⟨⟨v_0, x_1, x_5, h0, h1, h2⟩, h⟩
    have ev : [0, 1, 5].map σ = [v_0, (.flat (.int .i64 x_1)), (.flat (.int .i64 x_5))] := by simp only [List.map_cons, List.map_nil, h0, h1, h2]
    rw [ev, pc8_6102] at h
    unfold LamP8_6102
    simp only [h0, h1, h2, kI, kbool, kS, kptr, kaggN, kite, decide_true, eq_self]
    exact h

theorem eqn8 (v_0 : AV) (x_1 : Int) (m : Mem) (k : KV) : bodyK Try.prog E8 Lam8 Try.f8 false [v_0, (.flat (.int .i64 x_1))] m k = F8 v_0 x_1 m (fun x_1000 m' => k (.flat (.bool x_1000)) m') := by
  kernel_rfl

theorem fs8 (w0 : World) : FS Try.prog w0 8 G8 := by
  refine (fs_body (Γ := E8) (sound_env (l := []) w0 (by
    intro p hp
    cases hp)) (by kernel_rfl) Try.func8 (Λ := Lam8) (c := (bodyOf Try.f8)) (by kernel_rfl) Try.call8 (by kernel_rfl) (LS_of (bodyOf Try.f8) 0 (by kernel_rfl) (fun i hi => absurd hi (Nat.not_lt_zero i)) 1 (by kernel_rfl) (by
    intro i hi
    match i, hi with
    | 0, _ => exact pok8_6102
    | i + 1, hi => omega)) false (np := 2) (Nat.le_of_ble_eq_true (by kernel_rfl))).imp fun args => ?_
  by_cases hl : args.length = 2
  rotate_left
  · exact .inr fun m k hk => by
      unfold G8 at hk
      split at hk
      · exact hl rfl
      · exact hk
  obtain ⟨a0, a1, rfl⟩ : ∃ a0 a1, args = [a0, a1] := len_list2 hl
  rcases kI_or .i64 a1 with ⟨x_1, rfl⟩ | h
  rotate_left
  · exact .inr fun m k hk => h _ (by simpa only [G8, kI, kbool, kS, kptr, kaggN, kite, decide_true, eq_self] using hk)
  exact .inl fun m k => propext ⟨fun h => ⟨rfl, by rw [eqn8]; simpa only [G8, kI, kbool, kS, kptr, kaggN, kite, decide_true, eq_self] using h⟩, fun h => by have h := h.2; rw [eqn8] at h; simpa only [G8, kI, kbool, kS, kptr, kaggN, kite, decide_true, eq_self] using h⟩

/-- pianola/cp0.User -/
def F12 (v_0 : AV) (m : Mem) (k : Bool → Mem → Prop) : Prop :=
  knilP v_0 fun x1 => kif (!x1) (kptr v_0 fun b2 o3 => ldI .u32 m b2 (o3 + 39 + 12) fun x4 => kif ((bits .and .u32 x4 16) != 0) (kptr v_0 fun b5 o6 => ldI .u32 m b5 (o6 + 39 + 12) fun x7 => (Keeps m m ∧ k ((bits .and .u32 x7 2) == 0) m)) ((Keeps m m ∧ k false m))) ((Keeps m m ∧ k false m))

def G12 (args : List AV) (m : Mem) (k : KV) : Prop := match args with
  | [a0] => F12 a0 m (fun x_1000 m' => k (.flat (.bool x_1000)) m')
  | _ => False

def E12 : Env := envOf []

def Lam12 : LEnv := ⟨fun a σ m k => match firstReg a with
  | _ => bump False,
  fun id => match id with
  | _ => bump false,
  fun b => match keyC b with
  | _ => bump false,
  fun b σ m k => match keyC b with
  | _ => bump False⟩

theorem eqn12 (v_0 : AV) (m : Mem) (k : KV) : bodyK Try.prog E12 Lam12 Try.f12 true [v_0] m k = F12 v_0 m (fun x_1000 m' => k (.flat (.bool x_1000)) m') := by
  kernel_rfl

theorem fs12 (w0 : World) : FS Try.prog w0 12 G12 := by
  refine (fs_body (Γ := E12) (sound_env (l := []) w0 (by
    intro p hp
    cases hp)) (by kernel_rfl) Try.func12 (Λ := Lam12) (c := (bodyOf Try.f12)) (by kernel_rfl) Try.call12 (by kernel_rfl) (LS_of (bodyOf Try.f12) 0 (by kernel_rfl) (fun i hi => absurd hi (Nat.not_lt_zero i)) 0 (by kernel_rfl) (fun i hi => absurd hi (Nat.not_lt_zero i))) true (np := 1) (Nat.le_of_ble_eq_true (by kernel_rfl))).imp fun args => ?_
  by_cases hl : args.length = 1
  rotate_left
  · exact .inr fun m k hk => by
      unfold G12 at hk
      split at hk
      · exact hl rfl
      · exact hk
  obtain ⟨a0, rfl⟩ : ∃ a0, args = [a0] := len_list1 hl

  exact .inl fun m k => propext ⟨fun h => ⟨rfl, by rw [eqn12]; simpa only [G12, kI, kbool, kS, kptr, kaggN, kite, decide_true, eq_self] using h⟩, fun h => by have h := h.2; rw [eqn12] at h; simpa only [G12, kI, kbool, kS, kptr, kaggN, kite, decide_true, eq_self] using h⟩

/-- pianola/cp0.named -/
def F32 (x_0 : Int) (m : Mem) (k : Bool → Mem → Prop) : Prop :=
  kif (x_0 == 0) (kif (x_0 == 0) ((Keeps m m ∧ k true m)) ((Keeps m m ∧ k false m))) (kif (x_0 == 1) (kif (x_0 == 1) ((Keeps m m ∧ k true m)) ((Keeps m m ∧ k false m))) (kif (x_0 == 2) (kif (x_0 == 2) ((Keeps m m ∧ k true m)) ((Keeps m m ∧ k false m))) (kif (x_0 == 8) (kif (x_0 == 8) ((Keeps m m ∧ k true m)) ((Keeps m m ∧ k false m))) (kif (x_0 == 9) (kif (x_0 == 9) ((Keeps m m ∧ k true m)) ((Keeps m m ∧ k false m))) (kif (x_0 == 10) (kif (x_0 == 10) ((Keeps m m ∧ k true m)) ((Keeps m m ∧ k false m))) (kif (x_0 == 11) (kif (x_0 == 11) ((Keeps m m ∧ k true m)) ((Keeps m m ∧ k false m))) (kif (x_0 == 12) (kif (x_0 == 12) ((Keeps m m ∧ k true m)) ((Keeps m m ∧ k false m))) (kif (x_0 == 13) (kif (x_0 == 13) ((Keeps m m ∧ k true m)) ((Keeps m m ∧ k false m))) (kif (x_0 == 14) (kif (x_0 == 14) ((Keeps m m ∧ k true m)) ((Keeps m m ∧ k false m))) (kif (x_0 == 15) ((Keeps m m ∧ k true m)) ((Keeps m m ∧ k false m))))))))))))

def G32 (args : List AV) (m : Mem) (k : KV) : Prop := match args with
  | [a0] => kI .i64 a0 fun x_0 => F32 x_0 m (fun x_1000 m' => k (.flat (.bool x_1000)) m')
  | _ => False

def E32 : Env := envOf []

def Lam32 : LEnv := ⟨fun a σ m k => match firstReg a with
  | _ => bump False,
  fun id => match id with
  | _ => bump false,
  fun b => match keyC b with
  | _ => bump false,
  fun b σ m k => match keyC b with
  | _ => bump False⟩

theorem eqn32 (x_0 : Int) (m : Mem) (k : KV) : bodyK Try.prog E32 Lam32 Try.f32 true [(.flat (.int .i64 x_0))] m k = F32 x_0 m (fun x_1000 m' => k (.flat (.bool x_1000)) m') := by
  kernel_rfl

theorem fs32 (w0 : World) : FS Try.prog w0 32 G32 := by
  refine (fs_body (Γ := E32) (sound_env (l := []) w0 (by
    intro p hp
    cases hp)) (by kernel_rfl) Try.func32 (Λ := Lam32) (c := (bodyOf Try.f32)) (by kernel_rfl) Try.call32 (by kernel_rfl) (LS_of (bodyOf Try.f32) 0 (by kernel_rfl) (fun i hi => absurd hi (Nat.not_lt_zero i)) 0 (by kernel_rfl) (fun i hi => absurd hi (Nat.not_lt_zero i))) true (np := 1) (Nat.le_of_ble_eq_true (by kernel_rfl))).imp fun args => ?_
  by_cases hl : args.length = 1
  rotate_left
  · exact .inr fun m k hk => by
      unfold G32 at hk
      split at hk
      · exact hl rfl
      · exact hk
  obtain ⟨a0, rfl⟩ : ∃ a0, args = [a0] := len_list1 hl
  rcases kI_or .i64 a0 with ⟨x_0, rfl⟩ | h
  rotate_left
  · exact .inr fun m k hk => h _ (by simpa only [G32, kI, kbool, kS, kptr, kaggN, kite, decide_true, eq_self] using hk)
  exact .inl fun m k => propext ⟨fun h => ⟨rfl, by rw [eqn32]; simpa only [G32, kI, kbool, kS, kptr, kaggN, kite, decide_true, eq_self] using h⟩, fun h => by have h := h.2; rw [eqn32] at h; simpa only [G32, kI, kbool, kS, kptr, kaggN, kite, decide_true, eq_self] using h⟩

def P17_5102 (v_0 : AV) (x_1 : Int) (m : Mem) (kr : Int → Mem → Prop) : Prop :=
  kptr v_0 fun b13 o14 => kif (decide (0 ≤ x_1) && decide (x_1 < 16)) (ldI .u32 m b13 (o14 + 39 + (x_1).toNat * 1) fun x15 => kr x15 m) False

def P17_2004 (v_0 : AV) (x_1 : Int) (x_5 : Bool) (m : Mem) (kr : Int → Mem → Prop) (kn : Mem → Prop) : Prop :=
  kif x_5 (kr 0 m) (kif (x_1 == 1) (kptr v_0 fun b4 o5 => ldI .u32 m b4 (o5 + 39 + 9) fun x6 => kr (x6.tmod 8) m) (kn  m))

/-- pianola/cp0.Read -/
def F17 (v_0 : AV) (x_1 : Int) (m : Mem) (k : Int → Mem → Prop) : Prop :=
  knilP v_0 fun x1 => kif x1 (P17_2004 v_0 x_1 true m (fun x7 m8 => (Keeps m m8 ∧ k x7 m)) (fun m9 => P17_5102 v_0 x_1 m9 (fun x16 m17 => (Keeps m m17 ∧ k x16 m)))) (F32 x_1 m fun x2 m3 => P17_2004 v_0 x_1 (!x2) m3 (fun x10 m11 => (Keeps m m11 ∧ k x10 m)) (fun m12 => P17_5102 v_0 x_1 m12 (fun x18 m19 => (Keeps m m19 ∧ k x18 m))))

def G17 (args : List AV) (m : Mem) (k : KV) : Prop := match args with
  | [a0, a1] => kI .i64 a1 fun x_1 => F17 a0 x_1 m (fun x_1000 m' => k (.flat (.int .u32 x_1000)) m')
  | _ => False

def E17 : Env := envOf [(32, G32)]

def LamP17_2004 (σ : Nat → AV) (m : Mem) (k : KX) : Prop := kI .i64 (σ 1) fun x_1 => kbool (σ 5) fun x_5 => P17_2004 (σ 0) x_1 x_5 m (fun x_4' m' => k .ret (only [4] [(.flat (.int .u32 x_4'))]) m') (fun m' => k .normal (only [0, 1] [(σ 0), (.flat (.int .i64 x_1))]) m')

def LamP17_5102 (σ : Nat → AV) (m : Mem) (k : KX) : Prop := kI .i64 (σ 1) fun x_1 => P17_5102 (σ 0) x_1 m (fun x_4' m' => k .ret (only [4] [(.flat (.int .u32 x_4'))]) m')

def Lam17 : LEnv := ⟨fun a σ m k => match firstReg a with
  | _ => bump False,
  fun id => match id with
  | _ => bump false,
  fun b => match keyC b with
  | some 2004 => true
  | some 5102 => true
  | _ => bump false,
  fun b σ m k => match keyC b with
  | some 2004 => LamP17_2004 σ m k
  | some 5102 => LamP17_5102 σ m k
  | _ => bump False⟩

def lxp17_5102 : Ex → List Nat := fun e => match e with
  | .ret => [4]
  | _ => []

theorem pc17_5102 (v_0 : AV) (x_1 : Int) (m : Mem) (k : KX) : once Try.prog E17 Lam17 [0, 1] lxp17_5102 (((secsOf (bodyOf Try.f17)).filter Lam17.cut).getD 0 .skip) [v_0, (.flat (.int .i64 x_1))] m k = P17_5102 v_0 x_1 m (fun x_4' m' => k .ret (only [4] [(.flat (.int .u32 x_4'))]) m') := by
  kernel_rfl

theorem pok17_5102 : PieceOK Try.prog E17 Lam17 (((secsOf (bodyOf Try.f17)).filter Lam17.cut).getD 0 .skip) := by
  refine ⟨fun σ => ∃ v_0 x_1, σ 0 = v_0 ∧ σ 1 = .flat (.int .i64 x_1), [0, 1], lxp17_5102, fun σ m k => ?_⟩
  have e : Lam17.piece (((secsOf (bodyOf Try.f17)).filter Lam17.cut).getD 0 .skip) σ m k = LamP17_5102 σ m k := by kernel_rfl
  rw [e]
  constructor
  · intro h
    unfold LamP17_5102 at h
    obtain ⟨v_0, h0⟩ : ∃ v, σ 0 = v := ⟨_, rfl⟩
    obtain ⟨x_1, h1, h⟩ := kI_ok h
    refine ⟨⟨v_0, x_1, h0, h1⟩, ?_⟩
    have ev : [0, 1].map σ = [v_0, (.flat (.int .i64 x_1))] := by simp only [List.map_cons, List.map_nil, h0, h1]
    rw [ev, pc17_5102]
    simp only [h0] at h
    exact h
  · rintro ⟨⟨v_0, x_1, h0, h1⟩, h⟩
    have ev : [0, 1].map σ = [v_0, (.flat (.int .i64 x_1))] := by simp only [List.map_cons, List.map_nil, h0, h1]
    rw [ev, pc17_5102] at h
    unfold LamP17_5102
    simp only [h0, h1, kI, kbool, kS, kptr, kaggN, kite, decide_true, eq_self]
    exact h

def lxp17_2004 : Ex → List Nat := fun e => match e with
  | .ret => [4]
  | .normal => [0, 1]
  | _ => []

theorem pc17_2004 (v_0 : AV) (x_1 : Int) (x_5 : Bool) (m : Mem) (k : KX) : once Try.prog E17 Lam17 [0, 1, 5] lxp17_2004 (((secsOf (bodyOf Try.f17)).filter Lam17.cut).getD 1 .skip) [v_0, (.flat (.int .i64 x_1)), (.flat (.bool x_5))] m k = P17_2004 v_0 x_1 x_5 m (fun x_4' m' => k .ret (only [4] [(.flat (.int .u32 x_4'))]) m') (fun m' => k .normal (only [0, 1] [v_0, (.flat (.int .i64 x_1))]) m') := by
  kernel_rfl

theorem pok17_2004 : PieceOK Try.prog E17 Lam17 (((secsOf (bodyOf Try.f17)).filter Lam17.cut).getD 1 .skip) := by
  refine ⟨fun σ => ∃ v_0 x_1 x_5, σ 0 = v_0 ∧ σ 1 = .flat (.int .i64 x_1) ∧ σ 5 = .flat (.bool x_5), [0, 1, 5], lxp17_2004, fun σ m k => ?_⟩
  have e : Lam17.piece (((secsOf (bodyOf Try.f17)).filter Lam17.cut).getD 1 .skip) σ m k = LamP17_2004 σ m k := by kernel_rfl
  rw [e]
  constructor
  · intro h
    unfold LamP17_2004 at h
    obtain ⟨v_0, h0⟩ : ∃ v, σ 0 = v := ⟨_, rfl⟩
    obtain ⟨x_1, h1, h⟩ := kI_ok h
    obtain ⟨x_5, h2, h⟩ := kbool_ok h
    refine ⟨⟨v_0, x_1, x_5, h0, h1, h2⟩, ?_⟩
    have ev : [0, 1, 5].map σ = [v_0, (.flat (.int .i64 x_1)), (.flat (.bool x_5))] := by simp only [List.map_cons, List.map_nil, h0, h1, h2]
    rw [ev, pc17_2004]
    simp only [h0] at h
    exact h
  · rintro ⟨⟨v_0, x_1, x_5, h0, h1, h2⟩, h⟩
    have ev : [0, 1, 5].map σ = [v_0, (.flat (.int .i64 x_1)), (.flat (.bool x_5))] := by simp only [List.map_cons, List.map_nil, h0, h1, h2]
    rw [ev, pc17_2004] at h
    unfold LamP17_2004
    simp only [h0, h1, h2, kI, kbool, kS, kptr, kaggN, kite, decide_true, eq_self]
    exact h

theorem eqn17 (v_0 : AV) (x_1 : Int) (m : Mem) (k : KV) : bodyK Try.prog E17 Lam17 Try.f17 true [v_0, (.flat (.int .i64 x_1))] m k = F17 v_0 x_1 m (fun x_1000 m' => k (.flat (.int .u32 x_1000)) m') := by
  kernel_rfl

theorem fs17 (w0 : World) : FS Try.prog w0 17 G17 := by
  refine (fs_body (Γ := E17) (sound_env (l := [(32, G32)]) w0 (by
    intro p hp
    simp only [List.mem_cons, List.not_mem_nil, or_false] at hp
    rcases hp with rfl
    · exact fs32 w0)) (by kernel_rfl) Try.func17 (Λ := Lam17) (c := (bodyOf Try.f17)) (by kernel_rfl) Try.call17 (by kernel_rfl) (LS_of (bodyOf Try.f17) 0 (by kernel_rfl) (fun i hi => absurd hi (Nat.not_lt_zero i)) 2 (by kernel_rfl) (by
    intro i hi
    match i, hi with
    | 0, _ => exact pok17_5102
    | 1, _ => exact pok17_2004
    | i + 2, hi => omega)) true (np := 2) (Nat.le_of_ble_eq_true (by kernel_rfl))).imp fun args => ?_
  by_cases hl : args.length = 2
  rotate_left
  · exact .inr fun m k hk => by
      unfold G17 at hk
      split at hk
      · exact hl rfl
      · exact hk
  obtain ⟨a0, a1, rfl⟩ : ∃ a0 a1, args = [a0, a1] := len_list2 hl
  rcases kI_or .i64 a1 with ⟨x_1, rfl⟩ | h
  rotate_left
  · exact .inr fun m k hk => h _ (by simpa only [G17, kI, kbool, kS, kptr, kaggN, kite, decide_true, eq_self] using hk)
  exact .inl fun m k => propext ⟨fun h => ⟨rfl, by rw [eqn17]; simpa only [G17, kI, kbool, kS, kptr, kaggN, kite, decide_true, eq_self] using h⟩, fun h => by have h := h.2; rw [eqn17] at h; simpa only [G17, kI, kbool, kS, kptr, kaggN, kite, decide_true, eq_self] using h⟩

/-- pianola/pianolalaw6.known -/
def F9  (m : Mem) (k : Bool → Mem → Prop) : Prop :=
  F6  m fun c1 m2 => newK m2 ⟨73, Z73, 30, false⟩ fun b4 m3 => stG 73 m3 b4 0 c1 fun m5 => ldI .u32 m5 b4 34 fun x6 => kif (x6 != 2147484672) ((Keeps m m5 ∧ k false m)) (ldI .u32 m5 b4 35 fun x7 => kif (x7 != 2147484676) ((Keeps m m5 ∧ k false m)) (F12 (.ptr b4 0) m5 fun x8 m9 => kif x8 ((Keeps m m9 ∧ k false m)) (F7 (.ptr b4 0) 11 1 m9 fun m10 => F8 (.ptr b4 0) 1 m10 fun x11 m12 => kif x11 (ldI .u32 m12 b4 52 fun x13 => kif (x13 == 32768) (ldI .i64 m12 b4 72 fun x14 => kif (x14 == 1) (F17 (.ptr b4 0) 15 m12 fun x15 m16 => kif (x15 == 98304) (F17 (.ptr b4 0) 1 m16 fun x17 m18 => (Keeps m m18 ∧ k (x17 == 1) m)) ((Keeps m m16 ∧ k false m))) ((Keeps m m12 ∧ k false m))) ((Keeps m m12 ∧ k false m))) ((Keeps m m12 ∧ k false m)))))

def G9 (args : List AV) (m : Mem) (k : KV) : Prop := match args with
  | [] => F9  m (fun x_1000 m' => k (.flat (.bool x_1000)) m')
  | _ => False

def E9 : Env := envOf [(6, G6), (7, G7), (8, G8), (12, G12), (17, G17)]

def Lam9 : LEnv := ⟨fun a σ m k => match firstReg a with
  | _ => bump False,
  fun id => match id with
  | _ => bump false,
  fun b => match keyC b with
  | _ => bump false,
  fun b σ m k => match keyC b with
  | _ => bump False⟩

theorem eqn9  (m : Mem) (k : KV) : bodyK Try.prog E9 Lam9 Try.f9 true [] m k = F9  m (fun x_1000 m' => k (.flat (.bool x_1000)) m') := by
  kernel_rfl

theorem fs9 (w0 : World) : FS Try.prog w0 9 G9 := by
  refine (fs_body (Γ := E9) (sound_env (l := [(6, G6), (7, G7), (8, G8), (12, G12), (17, G17)]) w0 (by
    intro p hp
    simp only [List.mem_cons, List.not_mem_nil, or_false] at hp
    rcases hp with rfl | rfl | rfl | rfl | rfl
    · exact fs6 w0
    · exact fs7 w0
    · exact fs8 w0
    · exact fs12 w0
    · exact fs17 w0)) (by kernel_rfl) Try.func9 (Λ := Lam9) (c := (bodyOf Try.f9)) (by kernel_rfl) Try.call9 (by kernel_rfl) (LS_of (bodyOf Try.f9) 0 (by kernel_rfl) (fun i hi => absurd hi (Nat.not_lt_zero i)) 0 (by kernel_rfl) (fun i hi => absurd hi (Nat.not_lt_zero i))) true (np := 0) (Nat.le_of_ble_eq_true (by kernel_rfl))).imp fun args => ?_
  by_cases hl : args.length = 0
  rotate_left
  · exact .inr fun m k hk => by
      unfold G9 at hk
      split at hk
      · exact hl rfl
      · exact hk
  obtain rfl : args = [] := len_list0 hl

  exact .inl fun m k => propext ⟨fun h => ⟨rfl, by rw [eqn9]; simpa only [G9, kI, kbool, kS, kptr, kaggN, kite, decide_true, eq_self] using h⟩, fun h => by have h := h.2; rw [eqn9] at h; simpa only [G9, kI, kbool, kS, kptr, kaggN, kite, decide_true, eq_self] using h⟩

def R3_7 (x_0 : Int) (v_2 : AV) (b_7 o_7 : Nat) (x_8 : Int) (x_9 : Int) (x_10 : Int) (m : Mem) (kn : Int → Int → Mem → Prop) (k0 : Int → Mem → Prop) (kr : Bool → Mem → Prop) : Prop :=
  klen v_2 fun x8 => kif (decide (x_10 < x8)) (kif (decide (x_10 < 20)) (ksl v_2 fun b9 o10 l11 p12 => kif (decide (0 ≤ x_10) && decide (x_10 < l11)) (ldI .i64 m b9 (o10 + (x_10).toNat * 1) fun x13 => F8 (.ptr b_7 o_7) ((IntKind.wrap .i64 ((x13.tmod 60) + 60)).tmod 60) m fun x14 m15 => kif (decide (x_9 < x_8)) (kif (!(x14 == (decide ((IntKind.wrap .i64 (x_9 + ((IntKind.wrap .i64 ((x13.tmod 60) + 60)).tmod 60))) ≥ x_8)))) (kr false m15) (ldI .u32 m15 b_7 (o_7 + 39 + 13) fun x16 => kif (!(((bits .and .u32 x16 32768) != 0) == (decide ((IntKind.wrap .i64 (x_9 + ((IntKind.wrap .i64 ((x13.tmod 60) + 60)).tmod 60))) ≥ x_8)))) (kr false m15) (kn (IntKind.wrap .i64 (x_9 + ((IntKind.wrap .i64 ((x13.tmod 60) + 60)).tmod 60))) (IntKind.wrap .i64 (x_10 + 1)) m15))) (kif (!(x14 == false)) (kr false m15) (ldI .u32 m15 b_7 (o_7 + 39 + 13) fun x17 => kif (!(((bits .and .u32 x17 32768) != 0) == (decide ((IntKind.wrap .i64 (x_9 + ((IntKind.wrap .i64 ((x13.tmod 60) + 60)).tmod 60))) ≥ x_8)))) (kr false m15) (kn (IntKind.wrap .i64 (x_9 + ((IntKind.wrap .i64 ((x13.tmod 60) + 60)).tmod 60))) (IntKind.wrap .i64 (x_10 + 1)) m15)))) False) (k0 x_9 m)) (k0 x_9 m)

def L3_7 (x_0 : Int) (v_2 : AV) (b_7 o_7 : Nat) (x_8 : Int) : Nat → Int → Int → Mem → (Int → Mem → Prop) → (Bool → Mem → Prop) → Prop
  | 0, _, _,  _, _, _ => bump False
  | N + 1, x_9, x_10,  m, k0, kr => R3_7 x_0 v_2 b_7 o_7 x_8 x_9 x_10 m (fun x_9' x_10' m' => L3_7 x_0 v_2 b_7 o_7 x_8 N x_9' x_10' m' k0 kr) k0 kr

/-- pianola/pianolalaw6.Cp0Counts -/
def F3 (x_0 : Int) (x_1 : Int) (v_2 : AV) (m : Mem) (k : Bool → Mem → Prop) : Prop :=
  F6  m fun c1 m2 => newK m2 ⟨73, Z73, 30, false⟩ fun b4 m3 => stG 73 m3 b4 0 c1 fun m5 => F7 (.ptr b4 0) 9 x_0 m5 fun m6 => F7 (.ptr b4 0) 11 (IntKind.wrap .u32 (x_0 + (IntKind.wrap .u32 (IntKind.wrap .i64 ((IntKind.wrap .i64 (x_1.tmod 200)) + 1))))) m6 fun m7 => ∃ N22, L3_7 x_0 v_2 b4 0 (IntKind.wrap .i64 ((IntKind.wrap .i64 (x_1.tmod 200)) + 1)) N22 0 0 m7 (fun x18 m19 => ldI .i64 m19 b4 72 fun x23 => kif (x23 == x18) (ldI .u32 m19 b4 48 fun x24 => kif (x24 == (IntKind.wrap .u32 (x_0 + (IntKind.wrap .u32 x18)))) (F9  m19 fun x25 m26 => k x25 m26) (k false m19)) (k false m19)) (fun x20 m21 => k x20 m21)

def G3 (args : List AV) (m : Mem) (k : KV) : Prop := match args with
  | [a0, a1, a2] => kI .u32 a0 fun x_0 => kI .u32 a1 fun x_1 => F3 x_0 x_1 a2 m (fun x_1000 m' => k (.flat (.bool x_1000)) m')
  | _ => False

def E3 : Env := envOf [(6, G6), (7, G7), (8, G8), (9, G9)]

def Lam3_7 (σ : Nat → AV) (m : Mem) (k : KX) : Prop := kI .u32 (σ 0) fun x_0 => kptr (σ 7) fun b_7 o_7 => kI .i64 (σ 8) fun x_8 => kI .i64 (σ 9) fun x_9 => kI .i64 (σ 10) fun x_10 => ∃ N, L3_7 x_0 (σ 2) b_7 o_7 x_8 N x_9 x_10 m (fun x_9' m' => k (.exit 0) (only [0, 7, 9] [(.flat (.int .u32 x_0)), (.ptr b_7 o_7), (.flat (.int .i64 x_9'))]) m') (fun x_6' m' => k .ret (only [6] [(.flat (.bool x_6'))]) m')

def Lam3 : LEnv := ⟨fun a σ m k => match firstReg a with
  | some 7 => Lam3_7 σ m k
  | _ => bump False,
  fun id => match id with
  | _ => bump false,
  fun b => match keyC b with
  | _ => bump false,
  fun b σ m k => match keyC b with
  | _ => bump False⟩

def lx3_7 : Ex → List Nat := fun e => match e with
  | .exit 0 => [0, 7, 9]
  | .ret => [6]
  | _ => []

theorem round3_7 (x_0 : Int) (v_2 : AV) (b_7 o_7 : Nat) (x_8 : Int) (x_9 : Int) (x_10 : Int) (m : Mem) (G : List AV → Mem → Prop) (k : KX) : (wpA Try.prog E3 Lam3 ((loopsOf (bodyOf Try.f3)).getD 0 .skip) (only [0, 2, 7, 8, 9, 10] [(.flat (.int .u32 x_0)), v_2, (.ptr b_7 o_7), (.flat (.int .i64 x_8)), (.flat (.int .i64 x_9)), (.flat (.int .i64 x_10))]) m fun e σ' m' => match e with
    | .normal => G ([0, 2, 7, 8, 9, 10].map σ') m'
    | .exit id => k (.exit id) (only (lx3_7 (.exit id)) ((lx3_7 (.exit id)).map σ')) m'
    | .ret => k .ret (only (lx3_7 .ret) ((lx3_7 .ret).map σ')) m') = R3_7 x_0 v_2 b_7 o_7 x_8 x_9 x_10 m (fun x_9' x_10' m' => G [(.flat (.int .u32 x_0)), v_2, (.ptr b_7 o_7), (.flat (.int .i64 x_8)), (.flat (.int .i64 x_9')), (.flat (.int .i64 x_10'))] m') (fun x_9' m' => k (.exit 0) (only [0, 7, 9] [(.flat (.int .u32 x_0)), (.ptr b_7 o_7), (.flat (.int .i64 x_9'))]) m') (fun x_6' m' => k .ret (only [6] [(.flat (.bool x_6'))]) m') := by
  kernel_rfl

theorem loop3_7 (x_0 : Int) (v_2 : AV) (b_7 o_7 : Nat) (x_8 : Int) (k : KX) : ∀ (N : Nat) (x_9 : Int) (x_10 : Int) (m : Mem), rounds Try.prog E3 Lam3 [0, 2, 7, 8, 9, 10] lx3_7 ((loopsOf (bodyOf Try.f3)).getD 0 .skip) N [(.flat (.int .u32 x_0)), v_2, (.ptr b_7 o_7), (.flat (.int .i64 x_8)), (.flat (.int .i64 x_9)), (.flat (.int .i64 x_10))] m k = L3_7 x_0 v_2 b_7 o_7 x_8 N x_9 x_10 m (fun x_9' m' => k (.exit 0) (only [0, 7, 9] [(.flat (.int .u32 x_0)), (.ptr b_7 o_7), (.flat (.int .i64 x_9'))]) m') (fun x_6' m' => k .ret (only [6] [(.flat (.bool x_6'))]) m') := by
  intro N
  induction N with
  | zero => intros; rfl
  | succ N ih =>
    intro x_9 x_10 m
    refine (round3_7 x_0 v_2 b_7 o_7 x_8 x_9 x_10 m (fun vs m' => rounds Try.prog E3 Lam3 [0, 2, 7, 8, 9, 10] lx3_7 ((loopsOf (bodyOf Try.f3)).getD 0 .skip) N vs m' k) k).trans ?_
    simp only [ih]
    rfl

theorem lok3_7 : LoopOK Try.prog E3 Lam3 ((loopsOf (bodyOf Try.f3)).getD 0 .skip) := by
  refine ⟨fun σ => ∃ x_0 v_2 b_7 o_7 x_8 x_9 x_10, σ 0 = .flat (.int .u32 x_0) ∧ σ 2 = v_2 ∧ σ 7 = .ptr b_7 o_7 ∧ σ 8 = .flat (.int .i64 x_8) ∧ σ 9 = .flat (.int .i64 x_9) ∧ σ 10 = .flat (.int .i64 x_10), [0, 2, 7, 8, 9, 10], lx3_7, fun σ m k => ?_⟩
  have e : Lam3.loop ((loopsOf (bodyOf Try.f3)).getD 0 .skip) σ m k = Lam3_7 σ m k := by kernel_rfl
  rw [e]
  constructor
  · intro h
    unfold Lam3_7 at h
    obtain ⟨x_0, h0, h⟩ := kI_ok h
    obtain ⟨v_2, h1⟩ : ∃ v, σ 2 = v := ⟨_, rfl⟩
    obtain ⟨b_7, o_7, h2, h⟩ := kptr_ok h
    obtain ⟨x_8, h3, h⟩ := kI_ok h
    obtain ⟨x_9, h4, h⟩ := kI_ok h
    obtain ⟨x_10, h5, h⟩ := kI_ok h
    obtain ⟨N, h⟩ := h
    refine ⟨⟨x_0, v_2, b_7, o_7, x_8, x_9, x_10, h0, h1, h2, h3, h4, h5⟩, N, ?_⟩
    have ev : [0, 2, 7, 8, 9, 10].map σ = [(.flat (.int .u32 x_0)), v_2, (.ptr b_7 o_7), (.flat (.int .i64 x_8)), (.flat (.int .i64 x_9)), (.flat (.int .i64 x_10))] := by simp only [List.map_cons, List.map_nil, h0, h1, h2, h3, h4, h5]
    rw [ev, loop3_7]
    simp only [h1] at h
    exact h
  · rintro ⟨⟨x_0, v_2, b_7, o_7, x_8, x_9, x_10, h0, h1, h2, h3, h4, h5⟩, N, h⟩
    have ev : [0, 2, 7, 8, 9, 10].map σ = [(.flat (.int .u32 x_0)), v_2, (.ptr b_7 o_7), (.flat (.int .i64 x_8)), (.flat (.int .i64 x_9)), (.flat (.int .i64 x_10))] := by simp only [List.map_cons, List.map_nil, h0, h1, h2, h3, h4, h5]
    rw [ev, loop3_7] at h
    unfold Lam3_7
    simp only [h0, h1, h2, h3, h4, h5, kI, kbool, kS, kptr, kaggN, kite, decide_true, eq_self]
    exact ⟨N, h⟩

theorem eqn3 (x_0 : Int) (x_1 : Int) (v_2 : AV) (m : Mem) (k : KV) : bodyK Try.prog E3 Lam3 Try.f3 false [(.flat (.int .u32 x_0)), (.flat (.int .u32 x_1)), v_2] m k = F3 x_0 x_1 v_2 m (fun x_1000 m' => k (.flat (.bool x_1000)) m') := by
  kernel_rfl

theorem fs3 (w0 : World) : FS Try.prog w0 3 G3 := by
  refine (fs_body (Γ := E3) (sound_env (l := [(6, G6), (7, G7), (8, G8), (9, G9)]) w0 (by
    intro p hp
    simp only [List.mem_cons, List.not_mem_nil, or_false] at hp
    rcases hp with rfl | rfl | rfl | rfl
    · exact fs6 w0
    · exact fs7 w0
    · exact fs8 w0
    · exact fs9 w0)) (by kernel_rfl) Try.func3 (Λ := Lam3) (c := (bodyOf Try.f3)) (by kernel_rfl) Try.call3 (by kernel_rfl) (LS_of (bodyOf Try.f3) 1 (by kernel_rfl) (by
    intro i hi
    match i, hi with
    | 0, _ => exact lok3_7
    | i + 1, hi => omega) 0 (by kernel_rfl) (fun i hi => absurd hi (Nat.not_lt_zero i))) false (np := 3) (Nat.le_of_ble_eq_true (by kernel_rfl))).imp fun args => ?_
  by_cases hl : args.length = 3
  rotate_left
  · exact .inr fun m k hk => by
      unfold G3 at hk
      split at hk
      · exact hl rfl
      · exact hk
  obtain ⟨a0, a1, a2, rfl⟩ : ∃ a0 a1 a2, args = [a0, a1, a2] := len_list3 hl
  rcases kI_or .u32 a0 with ⟨x_0, rfl⟩ | h
  rotate_left
  · exact .inr fun m k hk => h _ (by simpa only [G3, kI, kbool, kS, kptr, kaggN, kite, decide_true, eq_self] using hk)
  rcases kI_or .u32 a1 with ⟨x_1, rfl⟩ | h
  rotate_left
  · exact .inr fun m k hk => h _ (by simpa only [G3, kI, kbool, kS, kptr, kaggN, kite, decide_true, eq_self] using hk)
  exact .inl fun m k => propext ⟨fun h => ⟨rfl, by rw [eqn3]; simpa only [G3, kI, kbool, kS, kptr, kaggN, kite, decide_true, eq_self] using h⟩, fun h => by have h := h.2; rw [eqn3] at h; simpa only [G3, kI, kbool, kS, kptr, kaggN, kite, decide_true, eq_self] using h⟩

/-- pianola/pianolaref6.Fresh -/
def F15  (m : Mem) (k : (Nat → AV) → Mem → Prop) : Prop :=
  newK m ⟨73, Z73, 30, false⟩ fun b2 m1 => newK m1 ⟨73, Z73, 30, false⟩ fun b4 m3 => stG 73 m3 b4 0 (upd (upd (Z73) 34 (.flat (.int .u32 2147484672))) 35 (.flat (.int .u32 2147484676))) fun m5 => stC m5 b4 54 (.flat (.int .u32 98304)) fun m6 => ldG 73 m6 b4 0 fun c7 => stG 73 m6 b2 0 c7 fun m8 => ldG 73 m8 b2 0 fun c9 => (Keeps m m8 ∧ InDomG 73 m c9 ∧ k c9 m)

def G15 (args : List AV) (m : Mem) (k : KV) : Prop := match args with
  | [] => F15  m (fun c_1000 m' => k (.agg 73 c_1000) m')
  | _ => False

def E15 : Env := envOf []

def Lam15 : LEnv := ⟨fun a σ m k => match firstReg a with
  | _ => bump False,
  fun id => match id with
  | _ => bump false,
  fun b => match keyC b with
  | _ => bump false,
  fun b σ m k => match keyC b with
  | _ => bump False⟩

theorem eqn15  (m : Mem) (k : KV) : bodyK Try.prog E15 Lam15 Try.f15 true [] m k = F15  m (fun c_1000 m' => k (.agg 73 c_1000) m') := by
  kernel_rfl

theorem fs15 (w0 : World) : FS Try.prog w0 15 G15 := by
  refine (fs_body (Γ := E15) (sound_env (l := []) w0 (by
    intro p hp
    cases hp)) (by kernel_rfl) Try.func15 (Λ := Lam15) (c := (bodyOf Try.f15)) (by kernel_rfl) Try.call15 (by kernel_rfl) (LS_of (bodyOf Try.f15) 0 (by kernel_rfl) (fun i hi => absurd hi (Nat.not_lt_zero i)) 0 (by kernel_rfl) (fun i hi => absurd hi (Nat.not_lt_zero i))) true (np := 0) (Nat.le_of_ble_eq_true (by kernel_rfl))).imp fun args => ?_
  by_cases hl : args.length = 0
  rotate_left
  · exact .inr fun m k hk => by
      unfold G15 at hk
      split at hk
      · exact hl rfl
      · exact hk
  obtain rfl : args = [] := len_list0 hl

  exact .inl fun m k => propext ⟨fun h => ⟨rfl, by rw [eqn15]; simpa only [G15, kI, kbool, kS, kptr, kaggN, kite, decide_true, eq_self] using h⟩, fun h => by have h := h.2; rw [eqn15] at h; simpa only [G15, kI, kbool, kS, kptr, kaggN, kite, decide_true, eq_self] using h⟩

def P18_9004 (b_0 o_0 : Nat) (x_1 : Int) (x_2 : Int) (x_6 : Int) (x_34 : Bool) (m : Mem) (kn : Mem → Prop) : Prop :=
  kif x_34 (kif (decide (0 ≤ x_1) && decide (x_1 < 16)) (stC m b_0 (o_0 + 39 + (x_1).toNat * 1) (.flat (.int .u32 x_2)) fun m4 => kn  m4) False) (kif (x_6 == 11) (kif (decide (0 ≤ x_1) && decide (x_1 < 16)) (stC m b_0 (o_0 + 39 + (x_1).toNat * 1) (.flat (.int .u32 x_2)) fun m5 => ldI .u32 m5 b_0 (o_0 + 39 + 13) fun x6 => stC m5 b_0 (o_0 + 39 + 13) (.flat (.int .u32 (bits .andNot .u32 x6 32768))) fun m7 => kn  m7) False) (kif (x_6 == 12) (kif (decide (0 ≤ x_1) && decide (x_1 < 16)) (stC m b_0 (o_0 + 39 + (x_1).toNat * 1) (.flat (.int .u32 (bits .and .u32 x_2 65299))) fun m8 => kn  m8) False) (kif (x_6 == 13) (kif (decide (0 ≤ x_1) && decide (x_1 < 16)) (ldI .u32 m b_0 (o_0 + 39 + (x_1).toNat * 1) fun x9 => kif (decide (0 ≤ x_1) && decide (x_1 < 16)) (stC m b_0 (o_0 + 39 + (x_1).toNat * 1) (.flat (.int .u32 (bits .or .u32 (bits .andNot .u32 x9 768) (bits .and .u32 x_2 768)))) fun m10 => kn  m10) False) False) (kn  m))))

/-- pianola/pianolaref6.Write -/
def F18 (b_0 o_0 : Nat) (x_1 : Int) (x_2 : Int) (m : Mem) (k : Mem → Prop) : Prop :=
  kif (x_1 == 0) (kif (decide (0 ≤ x_1) && decide (x_1 < 16)) (stC m b_0 (o_0 + 39 + (x_1).toNat * 1) (.flat (.int .u32 (bits .and .u32 x_2 7))) fun m1 => k  m1) False) (kif (x_1 == 2) (kif (decide (0 ≤ x_1) && decide (x_1 < 16)) (stC m b_0 (o_0 + 39 + (x_1).toNat * 1) (.flat (.int .u32 (bits .and .u32 x_2 4294966279))) fun m2 => k  m2) False) (kif (x_1 == 10) (kif (decide (0 ≤ x_1) && decide (x_1 < 16)) (stC m b_0 (o_0 + 39 + (x_1).toNat * 1) (.flat (.int .u32 (bits .and .u32 x_2 4294966527))) fun m3 => k  m3) False) (kif (x_1 == 9) (P18_9004 b_0 o_0 x_1 x_2 x_1 (x_1 == 9) m (fun m11 => k  m11)) (P18_9004 b_0 o_0 x_1 x_2 x_1 (x_1 == 14) m (fun m12 => k  m12)))))

def G18 (args : List AV) (m : Mem) (k : KV) : Prop := match args with
  | [a0, a1, a2] => kptr a0 fun b_0 o_0 => kI .i64 a1 fun x_1 => kI .u32 a2 fun x_2 => F18 b_0 o_0 x_1 x_2 m (fun m' => k (.tup []) m')
  | _ => False

def E18 : Env := envOf []

def LamP18_9004 (σ : Nat → AV) (m : Mem) (k : KX) : Prop := kptr (σ 0) fun b_0 o_0 => kI .i64 (σ 1) fun x_1 => kI .u32 (σ 2) fun x_2 => kI .i64 (σ 6) fun x_6 => kbool (σ 34) fun x_34 => P18_9004 b_0 o_0 x_1 x_2 x_6 x_34 m (fun m' => k .normal (only [] []) m')

def Lam18 : LEnv := ⟨fun a σ m k => match firstReg a with
  | _ => bump False,
  fun id => match id with
  | _ => bump false,
  fun b => match keyC b with
  | some 9004 => true
  | _ => bump false,
  fun b σ m k => match keyC b with
  | some 9004 => LamP18_9004 σ m k
  | _ => bump False⟩

def lxp18_9004 : Ex → List Nat := fun e => match e with
  | .normal => []
  | _ => []

theorem pc18_9004 (b_0 o_0 : Nat) (x_1 : Int) (x_2 : Int) (x_6 : Int) (x_34 : Bool) (m : Mem) (k : KX) : once Try.prog E18 Lam18 [0, 1, 2, 6, 34] lxp18_9004 (((secsOf (bodyOf Try.f18)).filter Lam18.cut).getD 0 .skip) [(.ptr b_0 o_0), (.flat (.int .i64 x_1)), (.flat (.int .u32 x_2)), (.flat (.int .i64 x_6)), (.flat (.bool x_34))] m k = P18_9004 b_0 o_0 x_1 x_2 x_6 x_34 m (fun m' => k .normal (only [] []) m') := by
  kernel_rfl

theorem pok18_9004 : PieceOK Try.prog E18 Lam18 (((secsOf (bodyOf Try.f18)).filter Lam18.cut).getD 0 .skip) := by
  refine ⟨fun σ => ∃ b_0 o_0 x_1 x_2 x_6 x_34, σ 0 = .ptr b_0 o_0 ∧ σ 1 = .flat (.int .i64 x_1) ∧ σ 2 = .flat (.int .u32 x_2) ∧ σ 6 = .flat (.int .i64 x_6) ∧ σ 34 = .flat (.bool x_34), [0, 1, 2, 6, 34], lxp18_9004, fun σ m k => ?_⟩
  have e : Lam18.piece (((secsOf (bodyOf Try.f18)).filter Lam18.cut).getD 0 .skip) σ m k = LamP18_9004 σ m k := by kernel_rfl
  rw [e]
  constructor
  · intro h
    unfold LamP18_9004 at h
    obtain ⟨b_0, o_0, h0, h⟩ := kptr_ok h
    obtain ⟨x_1, h1, h⟩ := kI_ok h
    obtain ⟨x_2, h2, h⟩ := kI_ok h
    obtain ⟨x_6, h3, h⟩ := kI_ok h
    obtain ⟨x_34, h4, h⟩ := kbool_ok h
    refine ⟨⟨b_0, o_0, x_1, x_2, x_6, x_34, h0, h1, h2, h3, h4⟩, ?_⟩
    have ev : [0, 1, 2, 6, 34].map σ = [(.ptr b_0 o_0), (.flat (.int .i64 x_1)), (.flat (.int .u32 x_2)), (.flat (.int .i64 x_6)), (.flat (.bool x_34))] := by simp only [List.map_cons, List.map_nil, h0, h1, h2, h3, h4]
    rw [ev, pc18_9004]
    exact h
  · rintro ⟨⟨b_0, o_0, x_1, x_2, x_6, x_34, h0, h1, h2, h3, h4⟩, h⟩
    have ev : [0, 1, 2, 6, 34].map σ = [(.ptr b_0 o_0), (.flat (.int .i64 x_1)), (.flat (.int .u32 x_2)), (.flat (.int .i64 x_6)), (.flat (.bool x_34))] := by simp only [List.map_cons, List.map_nil, h0, h1, h2, h3, h4]
    rw [ev, pc18_9004] at h
    unfold LamP18_9004
    simp only [h0, h1, h2, h3, h4, kI, kbool, kS, kptr, kaggN, kite, decide_true, eq_self]
    exact h

theorem eqn18 (b_0 o_0 : Nat) (x_1 : Int) (x_2 : Int) (m : Mem) (k : KV) : bodyK Try.prog E18 Lam18 Try.f18 false [(.ptr b_0 o_0), (.flat (.int .i64 x_1)), (.flat (.int .u32 x_2))] m k = F18 b_0 o_0 x_1 x_2 m (fun m' => k (.tup []) m') := by
  kernel_rfl

theorem fs18 (w0 : World) : FS Try.prog w0 18 G18 := by
  refine (fs_body (Γ := E18) (sound_env (l := []) w0 (by
    intro p hp
    cases hp)) (by kernel_rfl) Try.func18 (Λ := Lam18) (c := (bodyOf Try.f18)) (by kernel_rfl) Try.call18 (by kernel_rfl) (LS_of (bodyOf Try.f18) 0 (by kernel_rfl) (fun i hi => absurd hi (Nat.not_lt_zero i)) 1 (by kernel_rfl) (by
    intro i hi
    match i, hi with
    | 0, _ => exact pok18_9004
    | i + 1, hi => omega)) false (np := 3) (Nat.le_of_ble_eq_true (by kernel_rfl))).imp fun args => ?_
  by_cases hl : args.length = 3
  rotate_left
  · exact .inr fun m k hk => by
      unfold G18 at hk
      split at hk
      · exact hl rfl
      · exact hk
  obtain ⟨a0, a1, a2, rfl⟩ : ∃ a0 a1 a2, args = [a0, a1, a2] := len_list3 hl
  rcases kptr_or a0 with ⟨b_0, o_0, rfl⟩ | h
  rotate_left
  · exact .inr fun m k hk => h _ (by simpa only [G18, kI, kbool, kS, kptr, kaggN, kite, decide_true, eq_self] using hk)
  rcases kI_or .i64 a1 with ⟨x_1, rfl⟩ | h
  rotate_left
  · exact .inr fun m k hk => h _ (by simpa only [G18, kI, kbool, kS, kptr, kaggN, kite, decide_true, eq_self] using hk)
  rcases kI_or .u32 a2 with ⟨x_2, rfl⟩ | h
  rotate_left
  · exact .inr fun m k hk => h _ (by simpa only [G18, kI, kbool, kS, kptr, kaggN, kite, decide_true, eq_self] using hk)
  exact .inl fun m k => propext ⟨fun h => ⟨rfl, by rw [eqn18]; simpa only [G18, kI, kbool, kS, kptr, kaggN, kite, decide_true, eq_self] using h⟩, fun h => by have h := h.2; rw [eqn18] at h; simpa only [G18, kI, kbool, kS, kptr, kaggN, kite, decide_true, eq_self] using h⟩

def R10_20 (x_1 : Int) (b_2 o_2 : Nat) (b_4 o_4 : Nat) (b_5 o_5 : Nat) (x_8 : Int) (m : Mem) (kn : Int → Mem → Prop) (k4 : Mem → Prop) : Prop :=
  ldA m b_2 (o_2 + 8) fun v54 => klen v54 fun x55 => kif (decide (x_8 < x55)) (kif (decide (x_8 < 8)) (ldA m b_2 (o_2 + 8) fun v56 => ksl v56 fun b57 o58 l59 p60 => kif (decide (0 ≤ x_8) && decide (x_8 < l59)) (ldI .u32 m b57 (o58 + (x_8).toNat * 2 + 0) fun x61 => ldA m b_2 (o_2 + 8) fun v62 => ksl v62 fun b63 o64 l65 p66 => kif (decide (0 ≤ x_8) && decide (x_8 < l65)) (ldI .u32 m b63 (o64 + (x_8).toNat * 2 + 1) fun x67 => kif (decide (0 ≤ x_8) && decide (x_8 < 8)) (stG 2 m b_5 (o_5 + 55 + (x_8).toNat * 2) (upd (upd (lget [(.flat (.int .u32 0)), (.flat (.int .u32 0))]) 0 (.flat (.int .u32 (bits .and .u32 x61 4294966527)))) 1 (.flat (.int .u32 (bits .and .u32 x67 4294966279)))) fun m68 => kn (IntKind.wrap .i64 (x_8 + 1)) m68) False) False) False) (k4  m)) (k4  m)

def L10_20 (x_1 : Int) (b_2 o_2 : Nat) (b_4 o_4 : Nat) (b_5 o_5 : Nat) : Nat → Int → Mem → (Mem → Prop) → Prop
  | 0, _,  _, _ => bump False
  | N + 1, x_8,  m, k4 => R10_20 x_1 b_2 o_2 b_4 o_4 b_5 o_5 x_8 m (fun x_8' m' => L10_20 x_1 b_2 o_2 b_4 o_4 b_5 o_5 N x_8' m' k4) k4

def R10_16 (x_1 : Int) (b_2 o_2 : Nat) (b_4 o_4 : Nat) (b_5 o_5 : Nat) (x_7 : Int) (m : Mem) (kn : Int → Mem → Prop) (k2 : Mem → Prop) : Prop :=
  ldA m b_2 (o_2 + 7) fun v40 => klen v40 fun x41 => kif (decide (x_7 < x41)) (kif (decide (x_7 < 3)) (newK m ⟨3, upd (upd (upd (lget [(.flat (.int .i64 0)), (.flat (.int .i64 0)), (.flat (.int .i64 0))]) 0 (.flat (.int .i64 0))) 1 (.flat (.int .i64 2))) 2 (.flat (.int .i64 14)), 3, false⟩ fun b43 m42 => kif (decide (0 ≤ x_7) && decide (x_7 < 3)) (ldI .i64 m42 b43 (0 + (x_7).toNat * 1) fun x44 => ldA m42 b_2 (o_2 + 7) fun v45 => ksl v45 fun b46 o47 l48 p49 => kif (decide (0 ≤ x_7) && decide (x_7 < l48)) (ldI .u32 m42 b46 (o47 + (x_7).toNat * 1) fun x50 => F18 b_5 o_5 x44 x50 m42 fun m51 => kn (IntKind.wrap .i64 (x_7 + 1)) m51) False) False) (k2  m)) (k2  m)

def L10_16 (x_1 : Int) (b_2 o_2 : Nat) (b_4 o_4 : Nat) (b_5 o_5 : Nat) : Nat → Int → Mem → (Mem → Prop) → Prop
  | 0, _,  _, _ => bump False
  | N + 1, x_7,  m, k2 => R10_16 x_1 b_2 o_2 b_4 o_4 b_5 o_5 x_7 m (fun x_7' m' => L10_16 x_1 b_2 o_2 b_4 o_4 b_5 o_5 N x_7' m' k2) k2

def P10_10102 (x_1 : Int) (b_2 o_2 : Nat) (b_4 o_4 : Nat) (b_5 o_5 : Nat) (m : Mem) (kr : Mem → Prop) : Prop :=
  ldI .u32 m b_2 (o_2 + 2) fun x29 => F18 b_5 o_5 12 x29 m fun m30 => ldI .u32 m30 b_2 (o_2 + 3) fun x31 => F18 b_5 o_5 13 x31 m30 fun m32 => ldI .u32 m32 b_2 (o_2 + 4) fun x33 => F18 b_5 o_5 10 x33 m32 fun m34 => ldI .u32 m34 b_2 (o_2 + 9) fun x35 => F18 b_5 o_5 9 x35 m34 fun m36 => ldI .u32 m36 b_2 (o_2 + 9) fun x37 => ldI .u32 m36 b_2 (o_2 + 10) fun x38 => F18 b_5 o_5 11 (IntKind.wrap .u32 (x37 + (x38.tmod 50))) m36 fun m39 => ∃ N53, L10_16 x_1 b_2 o_2 b_4 o_4 b_5 o_5 N53 0 m39 (fun m52 => ∃ N70, L10_20 x_1 b_2 o_2 b_4 o_4 b_5 o_5 N70 0 m52 (fun m69 => ldB m69 b_2 (o_2 + 6) fun x71 => stC m69 b_5 (o_5 + 37) (.flat (.bool x71)) fun m72 => stC m72 b_5 (o_5 + 72) (.flat (.int .i64 x_1)) fun m73 => ldG 73 m73 b_5 o_5 fun c74 => stG 73 m73 b_4 o_4 c74 fun m75 => kr  m75))

def R10_3 (x_1 : Int) (b_2 o_2 : Nat) (b_4 o_4 : Nat) (b_5 o_5 : Nat) (x_6 : Int) (m : Mem) (kn : Int → Mem → Prop) (k0 : Mem → Prop) : Prop :=
  kif (decide (x_6 < 32)) (ldA m b_2 (o_2 + 0) fun v10 => klen v10 fun x11 => kif (decide (x_6 < x11)) (ldA m b_2 (o_2 + 0) fun v12 => ksl v12 fun b13 o14 l15 p16 => kif (decide (0 ≤ x_6) && decide (x_6 < l15)) (ldI .u32 m b13 (o14 + (x_6).toNat * 1) fun x17 => kif (decide (0 ≤ x_6) && decide (x_6 < 32)) (stC m b_5 (o_5 + 0 + (x_6).toNat * 1) (.flat (.int .u32 x17)) fun m18 => kn (IntKind.wrap .i64 (x_6 + 1)) m18) False) False) (k0  m)) (k0  m)

def L10_3 (x_1 : Int) (b_2 o_2 : Nat) (b_4 o_4 : Nat) (b_5 o_5 : Nat) : Nat → Int → Mem → (Mem → Prop) → Prop
  | 0, _,  _, _ => bump False
  | N + 1, x_6,  m, k0 => R10_3 x_1 b_2 o_2 b_4 o_4 b_5 o_5 x_6 m (fun x_6' m' => L10_3 x_1 b_2 o_2 b_4 o_4 b_5 o_5 N x_6' m' k0) k0

/-- pianola/pianolakeep.State -/
def F10 (c_0 : Nat → AV) (x_1 : Int) (m : Mem) (k : (Nat → AV) → Mem → Prop) : Prop :=
  newK m ⟨11, c_0, 40, false⟩ fun b2 m1 => newK m1 ⟨73, Z73, 30, false⟩ fun b4 m3 => F15  m3 fun c5 m6 => newK m6 ⟨73, Z73, 30, false⟩ fun b8 m7 => stG 73 m7 b8 0 c5 fun m9 => ∃ N20, L10_3 x_1 b2 0 b4 0 b8 0 N20 1 m9 (fun m19 => ldI .u32 m19 b2 1 fun x21 => stC m19 b8 34 (.flat (.int .u32 x21)) fun m22 => ldI .u32 m22 b8 34 fun x23 => stC m22 b8 35 (.flat (.int .u32 (IntKind.wrap .u32 (x23 + 4)))) fun m24 => ldB m24 b2 5 fun x25 => kif x25 (ldI .u32 m24 b8 34 fun x26 => stC m24 b8 36 (.flat (.bool true)) fun m27 => stC m27 b8 35 (.flat (.int .u32 (IntKind.wrap .u32 (x26 + 16)))) fun m28 => P10_10102 x_1 b2 0 b4 0 b8 0 m28 (fun m76 => ldG 73 m76 b4 0 fun c78 => (Keeps m m76 ∧ InDomG 73 m c78 ∧ k c78 m))) (P10_10102 x_1 b2 0 b4 0 b8 0 m24 (fun m77 => ldG 73 m77 b4 0 fun c79 => (Keeps m m77 ∧ InDomG 73 m c79 ∧ k c79 m))))

def G10 (args : List AV) (m : Mem) (k : KV) : Prop := match args with
  | [a0, a1] => kaggN 11 a0 fun c_0 => kI .i64 a1 fun x_1 => F10 c_0 x_1 m (fun c_1000 m' => k (.agg 73 c_1000) m')
  | _ => False

def E10 : Env := envOf [(15, G15), (18, G18)]

def Lam10_3 (σ : Nat → AV) (m : Mem) (k : KX) : Prop := kI .i64 (σ 1) fun x_1 => kptr (σ 2) fun b_2 o_2 => kptr (σ 4) fun b_4 o_4 => kptr (σ 5) fun b_5 o_5 => kI .i64 (σ 6) fun x_6 => ∃ N, L10_3 x_1 b_2 o_2 b_4 o_4 b_5 o_5 N x_6 m (fun m' => k (.exit 0) (only [1, 2, 4, 5] [(.flat (.int .i64 x_1)), (.ptr b_2 o_2), (.ptr b_4 o_4), (.ptr b_5 o_5)]) m')

def LamP10_10102 (σ : Nat → AV) (m : Mem) (k : KX) : Prop := kI .i64 (σ 1) fun x_1 => kptr (σ 2) fun b_2 o_2 => kptr (σ 4) fun b_4 o_4 => kptr (σ 5) fun b_5 o_5 => P10_10102 x_1 b_2 o_2 b_4 o_4 b_5 o_5 m (fun m' => k .ret (only [4] [(.ptr b_4 o_4)]) m')

def Lam10_16 (σ : Nat → AV) (m : Mem) (k : KX) : Prop := kI .i64 (σ 1) fun x_1 => kptr (σ 2) fun b_2 o_2 => kptr (σ 4) fun b_4 o_4 => kptr (σ 5) fun b_5 o_5 => kI .i64 (σ 7) fun x_7 => ∃ N, L10_16 x_1 b_2 o_2 b_4 o_4 b_5 o_5 N x_7 m (fun m' => k (.exit 2) (only [1, 2, 4, 5] [(.flat (.int .i64 x_1)), (.ptr b_2 o_2), (.ptr b_4 o_4), (.ptr b_5 o_5)]) m')

def Lam10_20 (σ : Nat → AV) (m : Mem) (k : KX) : Prop := kI .i64 (σ 1) fun x_1 => kptr (σ 2) fun b_2 o_2 => kptr (σ 4) fun b_4 o_4 => kptr (σ 5) fun b_5 o_5 => kI .i64 (σ 8) fun x_8 => ∃ N, L10_20 x_1 b_2 o_2 b_4 o_4 b_5 o_5 N x_8 m (fun m' => k (.exit 4) (only [1, 2, 4, 5] [(.flat (.int .i64 x_1)), (.ptr b_2 o_2), (.ptr b_4 o_4), (.ptr b_5 o_5)]) m')

def Lam10 : LEnv := ⟨fun a σ m k => match firstReg a with
  | some 3 => Lam10_3 σ m k
  | some 16 => Lam10_16 σ m k
  | some 20 => Lam10_20 σ m k
  | _ => bump False,
  fun id => match id with
  | _ => bump false,
  fun b => match keyC b with
  | some 10102 => true
  | _ => bump false,
  fun b σ m k => match keyC b with
  | some 10102 => LamP10_10102 σ m k
  | _ => bump False⟩

def lx10_20 : Ex → List Nat := fun e => match e with
  | .exit 4 => [1, 2, 4, 5]
  | _ => []

theorem round10_20 (x_1 : Int) (b_2 o_2 : Nat) (b_4 o_4 : Nat) (b_5 o_5 : Nat) (x_8 : Int) (m : Mem) (G : List AV → Mem → Prop) (k : KX) : (wpA Try.prog E10 Lam10 ((loopsOf (bodyOf Try.f10)).getD 2 .skip) (only [1, 2, 4, 5, 8] [(.flat (.int .i64 x_1)), (.ptr b_2 o_2), (.ptr b_4 o_4), (.ptr b_5 o_5), (.flat (.int .i64 x_8))]) m fun e σ' m' => match e with
    | .normal => G ([1, 2, 4, 5, 8].map σ') m'
    | .exit id => k (.exit id) (only (lx10_20 (.exit id)) ((lx10_20 (.exit id)).map σ')) m'
    | .ret => k .ret (only (lx10_20 .ret) ((lx10_20 .ret).map σ')) m') = R10_20 x_1 b_2 o_2 b_4 o_4 b_5 o_5 x_8 m (fun x_8' m' => G [(.flat (.int .i64 x_1)), (.ptr b_2 o_2), (.ptr b_4 o_4), (.ptr b_5 o_5), (.flat (.int .i64 x_8'))] m') (fun m' => k (.exit 4) (only [1, 2, 4, 5] [(.flat (.int .i64 x_1)), (.ptr b_2 o_2), (.ptr b_4 o_4), (.ptr b_5 o_5)]) m') := by
  kernel_rfl

theorem loop10_20 (x_1 : Int) (b_2 o_2 : Nat) (b_4 o_4 : Nat) (b_5 o_5 : Nat) (k : KX) : ∀ (N : Nat) (x_8 : Int) (m : Mem), rounds Try.prog E10 Lam10 [1, 2, 4, 5, 8] lx10_20 ((loopsOf (bodyOf Try.f10)).getD 2 .skip) N [(.flat (.int .i64 x_1)), (.ptr b_2 o_2), (.ptr b_4 o_4), (.ptr b_5 o_5), (.flat (.int .i64 x_8))] m k = L10_20 x_1 b_2 o_2 b_4 o_4 b_5 o_5 N x_8 m (fun m' => k (.exit 4) (only [1, 2, 4, 5] [(.flat (.int .i64 x_1)), (.ptr b_2 o_2), (.ptr b_4 o_4), (.ptr b_5 o_5)]) m') := by
  intro N
  induction N with
  | zero => intros; rfl
  | succ N ih =>
    intro x_8 m
    refine (round10_20 x_1 b_2 o_2 b_4 o_4 b_5 o_5 x_8 m (fun vs m' => rounds Try.prog E10 Lam10 [1, 2, 4, 5, 8] lx10_20 ((loopsOf (bodyOf Try.f10)).getD 2 .skip) N vs m' k) k).trans ?_
    simp only [ih]
    rfl

theorem lok10_20 : LoopOK Try.prog E10 Lam10 ((loopsOf (bodyOf Try.f10)).getD 2 .skip) := by
  refine ⟨fun σ => ∃ x_1 b_2 o_2 b_4 o_4 b_5 o_5 x_8, σ 1 = .flat (.int .i64 x_1) ∧ σ 2 = .ptr b_2 o_2 ∧ σ 4 = .ptr b_4 o_4 ∧ σ 5 = .ptr b_5 o_5 ∧ σ 8 = .flat (.int .i64 x_8), [1, 2, 4, 5, 8], lx10_20, fun σ m k => ?_⟩
  have e : Lam10.loop ((loopsOf (bodyOf Try.f10)).getD 2 .skip) σ m k = Lam10_20 σ m k := by kernel_rfl
  rw [e]
  constructor
  · intro h
    unfold Lam10_20 at h
    obtain ⟨x_1, h0, h⟩ := kI_ok h
    obtain ⟨b_2, o_2, h1, h⟩ := kptr_ok h
    obtain ⟨b_4, o_4, h2, h⟩ := kptr_ok h
    obtain ⟨b_5, o_5, h3, h⟩ := kptr_ok h
    obtain ⟨x_8, h4, h⟩ := kI_ok h
    obtain ⟨N, h⟩ := h
    refine ⟨⟨x_1, b_2, o_2, b_4, o_4, b_5, o_5, x_8, h0, h1, h2, h3, h4⟩, N, ?_⟩
    have ev : [1, 2, 4, 5, 8].map σ = [(.flat (.int .i64 x_1)), (.ptr b_2 o_2), (.ptr b_4 o_4), (.ptr b_5 o_5), (.flat (.int .i64 x_8))] := by simp only [List.map_cons, List.map_nil, h0, h1, h2, h3, h4]
    rw [ev, loop10_20]
    exact h
  · rintro ⟨⟨x_1, b_2, o_2, b_4, o_4, b_5, o_5, x_8, h0, h1, h2, h3, h4⟩, N, h⟩
    have ev : [1, 2, 4, 5, 8].map σ = [(.flat (.int .i64 x_1)), (.ptr b_2 o_2), (.ptr b_4 o_4), (.ptr b_5 o_5), (.flat (.int .i64 x_8))] := by simp only [List.map_cons, List.map_nil, h0, h1, h2, h3, h4]
    rw [ev, loop10_20] at h
    unfold Lam10_20
    simp only [h0, h1, h2, h3, h4, kI, kbool, kS, kptr, kaggN, kite, decide_true, eq_self]
    exact ⟨N, h⟩

def lx10_16 : Ex → List Nat := fun e => match e with
  | .exit 2 => [1, 2, 4, 5]
  | _ => []

theorem round10_16 (x_1 : Int) (b_2 o_2 : Nat) (b_4 o_4 : Nat) (b_5 o_5 : Nat) (x_7 : Int) (m : Mem) (G : List AV → Mem → Prop) (k : KX) : (wpA Try.prog E10 Lam10 ((loopsOf (bodyOf Try.f10)).getD 1 .skip) (only [1, 2, 4, 5, 7] [(.flat (.int .i64 x_1)), (.ptr b_2 o_2), (.ptr b_4 o_4), (.ptr b_5 o_5), (.flat (.int .i64 x_7))]) m fun e σ' m' => match e with
    | .normal => G ([1, 2, 4, 5, 7].map σ') m'
    | .exit id => k (.exit id) (only (lx10_16 (.exit id)) ((lx10_16 (.exit id)).map σ')) m'
    | .ret => k .ret (only (lx10_16 .ret) ((lx10_16 .ret).map σ')) m') = R10_16 x_1 b_2 o_2 b_4 o_4 b_5 o_5 x_7 m (fun x_7' m' => G [(.flat (.int .i64 x_1)), (.ptr b_2 o_2), (.ptr b_4 o_4), (.ptr b_5 o_5), (.flat (.int .i64 x_7'))] m') (fun m' => k (.exit 2) (only [1, 2, 4, 5] [(.flat (.int .i64 x_1)), (.ptr b_2 o_2), (.ptr b_4 o_4), (.ptr b_5 o_5)]) m') := by
  kernel_rfl

theorem loop10_16 (x_1 : Int) (b_2 o_2 : Nat) (b_4 o_4 : Nat) (b_5 o_5 : Nat) (k : KX) : ∀ (N : Nat) (x_7 : Int) (m : Mem), rounds Try.prog E10 Lam10 [1, 2, 4, 5, 7] lx10_16 ((loopsOf (bodyOf Try.f10)).getD 1 .skip) N [(.flat (.int .i64 x_1)), (.ptr b_2 o_2), (.ptr b_4 o_4), (.ptr b_5 o_5), (.flat (.int .i64 x_7))] m k = L10_16 x_1 b_2 o_2 b_4 o_4 b_5 o_5 N x_7 m (fun m' => k (.exit 2) (only [1, 2, 4, 5] [(.flat (.int .i64 x_1)), (.ptr b_2 o_2), (.ptr b_4 o_4), (.ptr b_5 o_5)]) m') := by
  intro N
  induction N with
  | zero => intros; rfl
  | succ N ih =>
    intro x_7 m
    refine (round10_16 x_1 b_2 o_2 b_4 o_4 b_5 o_5 x_7 m (fun vs m' => rounds Try.prog E10 Lam10 [1, 2, 4, 5, 7] lx10_16 ((loopsOf (bodyOf Try.f10)).getD 1 .skip) N vs m' k) k).trans ?_
    simp only [ih]
    rfl

theorem lok10_16 : LoopOK Try.prog E10 Lam10 ((loopsOf (bodyOf Try.f10)).getD 1 .skip) := by
  refine ⟨fun σ => ∃ x_1 b_2 o_2 b_4 o_4 b_5 o_5 x_7, σ 1 = .flat (.int .i64 x_1) ∧ σ 2 = .ptr b_2 o_2 ∧ σ 4 = .ptr b_4 o_4 ∧ σ 5 = .ptr b_5 o_5 ∧ σ 7 = .flat (.int .i64 x_7), [1, 2, 4, 5, 7], lx10_16, fun σ m k => ?_⟩
  have e : Lam10.loop ((loopsOf (bodyOf Try.f10)).getD 1 .skip) σ m k = Lam10_16 σ m k := by kernel_rfl
  rw [e]
  constructor
  · intro h
    unfold Lam10_16 at h
    obtain ⟨x_1, h0, h⟩ := kI_ok h
    obtain ⟨b_2, o_2, h1, h⟩ := kptr_ok h
    obtain ⟨b_4, o_4, h2, h⟩ := kptr_ok h
    obtain ⟨b_5, o_5, h3, h⟩ := kptr_ok h
    obtain ⟨x_7, h4, h⟩ := kI_ok h
    obtain ⟨N, h⟩ := h
    refine ⟨⟨x_1, b_2, o_2, b_4, o_4, b_5, o_5, x_7, h0, h1, h2, h3, h4⟩, N, ?_⟩
    have ev : [1, 2, 4, 5, 7].map σ = [(.flat (.int .i64 x_1)), (.ptr b_2 o_2), (.ptr b_4 o_4), (.ptr b_5 o_5), (.flat (.int .i64 x_7))] := by simp only [List.map_cons, List.map_nil, h0, h1, h2, h3, h4]
    rw [ev, loop10_16]
    exact h
  · rintro ⟨⟨x_1, b_2, o_2, b_4, o_4, b_5, o_5, x_7, h0, h1, h2, h3, h4⟩, N, h⟩
    have ev : [1, 2, 4, 5, 7].map σ = [(.flat (.int .i64 x_1)), (.ptr b_2 o_2), (.ptr b_4 o_4), (.ptr b_5 o_5), (.flat (.int .i64 x_7))] := by simp only [List.map_cons, List.map_nil, h0, h1, h2, h3, h4]
    rw [ev, loop10_16] at h
    unfold Lam10_16
    simp only [h0, h1, h2, h3, h4, kI, kbool, kS, kptr, kaggN, kite, decide_true, eq_self]
    exact ⟨N, h⟩

def lxp10_10102 : Ex → List Nat := fun e => match e with
  | .ret => [4]
  | _ => []

theorem pc10_10102 (x_1 : Int) (b_2 o_2 : Nat) (b_4 o_4 : Nat) (b_5 o_5 : Nat) (m : Mem) (k : KX) : once Try.prog E10 Lam10 [1, 2, 4, 5] lxp10_10102 (((secsOf (bodyOf Try.f10)).filter Lam10.cut).getD 0 .skip) [(.flat (.int .i64 x_1)), (.ptr b_2 o_2), (.ptr b_4 o_4), (.ptr b_5 o_5)] m k = P10_10102 x_1 b_2 o_2 b_4 o_4 b_5 o_5 m (fun m' => k .ret (only [4] [(.ptr b_4 o_4)]) m') := by
  kernel_rfl

theorem pok10_10102 : PieceOK Try.prog E10 Lam10 (((secsOf (bodyOf Try.f10)).filter Lam10.cut).getD 0 .skip) := by
  refine ⟨fun σ => ∃ x_1 b_2 o_2 b_4 o_4 b_5 o_5, σ 1 = .flat (.int .i64 x_1) ∧ σ 2 = .ptr b_2 o_2 ∧ σ 4 = .ptr b_4 o_4 ∧ σ 5 = .ptr b_5 o_5, [1, 2, 4, 5], lxp10_10102, fun σ m k => ?_⟩
  have e : Lam10.piece (((secsOf (bodyOf Try.f10)).filter Lam10.cut).getD 0 .skip) σ m k = LamP10_10102 σ m k := by kernel_rfl
  rw [e]
  constructor
  · intro h
    unfold LamP10_10102 at h
    obtain ⟨x_1, h0, h⟩ := kI_ok h
    obtain ⟨b_2, o_2, h1, h⟩ := kptr_ok h
    obtain ⟨b_4, o_4, h2, h⟩ := kptr_ok h
    obtain ⟨b_5, o_5, h3, h⟩ := kptr_ok h
    refine ⟨⟨x_1, b_2, o_2, b_4, o_4, b_5, o_5, h0, h1, h2, h3⟩, ?_⟩
    have ev : [1, 2, 4, 5].map σ = [(.flat (.int .i64 x_1)), (.ptr b_2 o_2), (.ptr b_4 o_4), (.ptr b_5 o_5)] := by simp only [List.map_cons, List.map_nil, h0, h1, h2, h3]
    rw [ev, pc10_10102]
    exact h
  · rintro ⟨⟨x_1, b_2, o_2, b_4, o_4, b_5, o_5, h0, h1, h2, h3⟩, h⟩
    have ev : [1, 2, 4, 5].map σ = [(.flat (.int .i64 x_1)), (.ptr b_2 o_2), (.ptr b_4 o_4), (.ptr b_5 o_5)] := by simp only [List.map_cons, List.map_nil, h0, h1, h2, h3]
    rw [ev, pc10_10102] at h
    unfold LamP10_10102
    simp only [h0, h1, h2, h3, kI, kbool, kS, kptr, kaggN, kite, decide_true, eq_self]
    exact h

def lx10_3 : Ex → List Nat := fun e => match e with
  | .exit 0 => [1, 2, 4, 5]
  | _ => []

theorem round10_3 (x_1 : Int) (b_2 o_2 : Nat) (b_4 o_4 : Nat) (b_5 o_5 : Nat) (x_6 : Int) (m : Mem) (G : List AV → Mem → Prop) (k : KX) : (wpA Try.prog E10 Lam10 ((loopsOf (bodyOf Try.f10)).getD 0 .skip) (only [1, 2, 4, 5, 6] [(.flat (.int .i64 x_1)), (.ptr b_2 o_2), (.ptr b_4 o_4), (.ptr b_5 o_5), (.flat (.int .i64 x_6))]) m fun e σ' m' => match e with
    | .normal => G ([1, 2, 4, 5, 6].map σ') m'
    | .exit id => k (.exit id) (only (lx10_3 (.exit id)) ((lx10_3 (.exit id)).map σ')) m'
    | .ret => k .ret (only (lx10_3 .ret) ((lx10_3 .ret).map σ')) m') = R10_3 x_1 b_2 o_2 b_4 o_4 b_5 o_5 x_6 m (fun x_6' m' => G [(.flat (.int .i64 x_1)), (.ptr b_2 o_2), (.ptr b_4 o_4), (.ptr b_5 o_5), (.flat (.int .i64 x_6'))] m') (fun m' => k (.exit 0) (only [1, 2, 4, 5] [(.flat (.int .i64 x_1)), (.ptr b_2 o_2), (.ptr b_4 o_4), (.ptr b_5 o_5)]) m') := by
  kernel_rfl

theorem loop10_3 (x_1 : Int) (b_2 o_2 : Nat) (b_4 o_4 : Nat) (b_5 o_5 : Nat) (k : KX) : ∀ (N : Nat) (x_6 : Int) (m : Mem), rounds Try.prog E10 Lam10 [1, 2, 4, 5, 6] lx10_3 ((loopsOf (bodyOf Try.f10)).getD 0 .skip) N [(.flat (.int .i64 x_1)), (.ptr b_2 o_2), (.ptr b_4 o_4), (.ptr b_5 o_5), (.flat (.int .i64 x_6))] m k = L10_3 x_1 b_2 o_2 b_4 o_4 b_5 o_5 N x_6 m (fun m' => k (.exit 0) (only [1, 2, 4, 5] [(.flat (.int .i64 x_1)), (.ptr b_2 o_2), (.ptr b_4 o_4), (.ptr b_5 o_5)]) m') := by
  intro N
  induction N with
  | zero => intros; rfl
  | succ N ih =>
    intro x_6 m
    refine (round10_3 x_1 b_2 o_2 b_4 o_4 b_5 o_5 x_6 m (fun vs m' => rounds Try.prog E10 Lam10 [1, 2, 4, 5, 6] lx10_3 ((loopsOf (bodyOf Try.f10)).getD 0 .skip) N vs m' k) k).trans ?_
    simp only [ih]
    rfl

theorem lok10_3 : LoopOK Try.prog E10 Lam10 ((loopsOf (bodyOf Try.f10)).getD 0 .skip) := by
  refine ⟨fun σ => ∃ x_1 b_2 o_2 b_4 o_4 b_5 o_5 x_6, σ 1 = .flat (.int .i64 x_1) ∧ σ 2 = .ptr b_2 o_2 ∧ σ 4 = .ptr b_4 o_4 ∧ σ 5 = .ptr b_5 o_5 ∧ σ 6 = .flat (.int .i64 x_6), [1, 2, 4, 5, 6], lx10_3, fun σ m k => ?_⟩
  have e : Lam10.loop ((loopsOf (bodyOf Try.f10)).getD 0 .skip) σ m k = Lam10_3 σ m k := by kernel_rfl
  rw [e]
  constructor
  · intro h
    unfold Lam10_3 at h
    obtain ⟨x_1, h0, h⟩ := kI_ok h
    obtain ⟨b_2, o_2, h1, h⟩ := kptr_ok h
    obtain ⟨b_4, o_4, h2, h⟩ := kptr_ok h
    obtain ⟨b_5, o_5, h3, h⟩ := kptr_ok h
    obtain ⟨x_6, h4, h⟩ := kI_ok h
    obtain ⟨N, h⟩ := h
    refine ⟨⟨x_1, b_2, o_2, b_4, o_4, b_5, o_5, x_6, h0, h1, h2, h3, h4⟩, N, ?_⟩
    have ev : [1, 2, 4, 5, 6].map σ = [(.flat (.int .i64 x_1)), (.ptr b_2 o_2), (.ptr b_4 o_4), (.ptr b_5 o_5), (.flat (.int .i64 x_6))] := by simp only [List.map_cons, List.map_nil, h0, h1, h2, h3, h4]
    rw [ev, loop10_3]
    exact h
  · rintro ⟨⟨x_1, b_2, o_2, b_4, o_4, b_5, o_5, x_6, h0, h1, h2, h3, h4⟩, N, h⟩
    have ev : [1, 2, 4, 5, 6].map σ = [(.flat (.int .i64 x_1)), (.ptr b_2 o_2), (.ptr b_4 o_4), (.ptr b_5 o_5), (.flat (.int .i64 x_6))] := by simp only [List.map_cons, List.map_nil, h0, h1, h2, h3, h4]
    rw [ev, loop10_3] at h
    unfold Lam10_3
    simp only [h0, h1, h2, h3, h4, kI, kbool, kS, kptr, kaggN, kite, decide_true, eq_self]
    exact ⟨N, h⟩

theorem eqn10 (c_0 : Nat → AV) (x_1 : Int) (m : Mem) (k : KV) : bodyK Try.prog E10 Lam10 Try.f10 true [(.agg 11 c_0), (.flat (.int .i64 x_1))] m k = F10 c_0 x_1 m (fun c_1000 m' => k (.agg 73 c_1000) m') := by
  kernel_rfl

theorem fs10 (w0 : World) : FS Try.prog w0 10 G10 := by
  refine (fs_body (Γ := E10) (sound_env (l := [(15, G15), (18, G18)]) w0 (by
    intro p hp
    simp only [List.mem_cons, List.not_mem_nil, or_false] at hp
    rcases hp with rfl | rfl
    · exact fs15 w0
    · exact fs18 w0)) (by kernel_rfl) Try.func10 (Λ := Lam10) (c := (bodyOf Try.f10)) (by kernel_rfl) Try.call10 (by kernel_rfl) (LS_of (bodyOf Try.f10) 3 (by kernel_rfl) (by
    intro i hi
    match i, hi with
    | 0, _ => exact lok10_3
    | 1, _ => exact lok10_16
    | 2, _ => exact lok10_20
    | i + 3, hi => omega) 1 (by kernel_rfl) (by
    intro i hi
    match i, hi with
    | 0, _ => exact pok10_10102
    | i + 1, hi => omega)) true (np := 2) (Nat.le_of_ble_eq_true (by kernel_rfl))).imp fun args => ?_
  by_cases hl : args.length = 2
  rotate_left
  · exact .inr fun m k hk => by
      unfold G10 at hk
      split at hk
      · exact hl rfl
      · exact hk
  obtain ⟨a0, a1, rfl⟩ : ∃ a0 a1, args = [a0, a1] := len_list2 hl
  rcases kaggN_or 11 a0 with ⟨c_0, rfl⟩ | h
  rotate_left
  · exact .inr fun m k hk => h _ (by simpa only [G10, kI, kbool, kS, kptr, kaggN, kite, decide_true, eq_self] using hk)
  rcases kI_or .i64 a1 with ⟨x_1, rfl⟩ | h
  rotate_left
  · exact .inr fun m k hk => h _ (by simpa only [G10, kI, kbool, kS, kptr, kaggN, kite, decide_true, eq_self] using hk)
  exact .inl fun m k => propext ⟨fun h => ⟨rfl, by rw [eqn10]; simpa only [G10, kI, kbool, kS, kptr, kaggN, kite, decide_true, eq_self] using h⟩, fun h => by have h := h.2; rw [eqn10] at h; simpa only [G10, kI, kbool, kS, kptr, kaggN, kite, decide_true, eq_self] using h⟩

/-- pianola/cp0.to -/
def F19 (b_0 o_0 : Nat) (x_1 : Int) (m : Mem) (k : Mem → Prop) : Prop :=
  stC m b_0 (o_0 + 34) (.flat (.int .u32 x_1)) fun m1 => stC m1 b_0 (o_0 + 35) (.flat (.int .u32 (IntKind.wrap .u32 (x_1 + 4)))) fun m2 => stC m2 b_0 (o_0 + 36) (.flat (.bool false)) fun m3 => k  m3

def G19 (args : List AV) (m : Mem) (k : KV) : Prop := match args with
  | [a0, a1] => kptr a0 fun b_0 o_0 => kI .u32 a1 fun x_1 => F19 b_0 o_0 x_1 m (fun m' => k (.tup []) m')
  | _ => False

def E19 : Env := envOf []

def Lam19 : LEnv := ⟨fun a σ m k => match firstReg a with
  | _ => bump False,
  fun id => match id with
  | _ => bump false,
  fun b => match keyC b with
  | _ => bump false,
  fun b σ m k => match keyC b with
  | _ => bump False⟩

theorem eqn19 (b_0 o_0 : Nat) (x_1 : Int) (m : Mem) (k : KV) : bodyK Try.prog E19 Lam19 Try.f19 false [(.ptr b_0 o_0), (.flat (.int .u32 x_1))] m k = F19 b_0 o_0 x_1 m (fun m' => k (.tup []) m') := by
  kernel_rfl

theorem fs19 (w0 : World) : FS Try.prog w0 19 G19 := by
  refine (fs_body (Γ := E19) (sound_env (l := []) w0 (by
    intro p hp
    cases hp)) (by kernel_rfl) Try.func19 (Λ := Lam19) (c := (bodyOf Try.f19)) (by kernel_rfl) Try.call19 (by kernel_rfl) (LS_of (bodyOf Try.f19) 0 (by kernel_rfl) (fun i hi => absurd hi (Nat.not_lt_zero i)) 0 (by kernel_rfl) (fun i hi => absurd hi (Nat.not_lt_zero i))) false (np := 2) (Nat.le_of_ble_eq_true (by kernel_rfl))).imp fun args => ?_
  by_cases hl : args.length = 2
  rotate_left
  · exact .inr fun m k hk => by
      unfold G19 at hk
      split at hk
      · exact hl rfl
      · exact hk
  obtain ⟨a0, a1, rfl⟩ : ∃ a0 a1, args = [a0, a1] := len_list2 hl
  rcases kptr_or a0 with ⟨b_0, o_0, rfl⟩ | h
  rotate_left
  · exact .inr fun m k hk => h _ (by simpa only [G19, kI, kbool, kS, kptr, kaggN, kite, decide_true, eq_self] using hk)
  rcases kI_or .u32 a1 with ⟨x_1, rfl⟩ | h
  rotate_left
  · exact .inr fun m k hk => h _ (by simpa only [G19, kI, kbool, kS, kptr, kaggN, kite, decide_true, eq_self] using hk)
  exact .inl fun m k => propext ⟨fun h => ⟨rfl, by rw [eqn19]; simpa only [G19, kI, kbool, kS, kptr, kaggN, kite, decide_true, eq_self] using h⟩, fun h => by have h := h.2; rw [eqn19] at h; simpa only [G19, kI, kbool, kS, kptr, kaggN, kite, decide_true, eq_self] using h⟩

end Go.Proofs.Ytckhobljijpfpaa.Am
