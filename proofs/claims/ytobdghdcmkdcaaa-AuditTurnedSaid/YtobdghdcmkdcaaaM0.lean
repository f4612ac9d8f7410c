/- What Go functions ask of what follows them, as plain functions over the abstract machine; the machine asks just that. Written by gen.py. -/
import Derived.Test.YtobdghdcmkdcaaaProg
import Derived.Test.YtobdghdcmkdcaaaAmL
namespace Go.Proofs.Ytobdghdcmkdcaaa.Am
set_option linter.unusedVariables false
set_option linter.unusedSimpArgs false
set_option maxRecDepth 100000

def Z73 : Nat → AV := lget [(.flat (.int .u32 0)), (.flat (.int .u32 0)), (.flat (.int .u32 0)), (.flat (.int .u32 0)), (.flat (.int .u32 0)), (.flat (.int .u32 0)), (.flat (.int .u32 0)), (.flat (.int .u32 0)), (.flat (.int .u32 0)), (.flat (.int .u32 0)), (.flat (.int .u32 0)), (.flat (.int .u32 0)), (.flat (.int .u32 0)), (.flat (.int .u32 0)), (.flat (.int .u32 0)), (.flat (.int .u32 0)), (.flat (.int .u32 0)), (.flat (.int .u32 0)), (.flat (.int .u32 0)), (.flat (.int .u32 0)), (.flat (.int .u32 0)), (.flat (.int .u32 0)), (.flat (.int .u32 0)), (.flat (.int .u32 0)), (.flat (.int .u32 0)), (.flat (.int .u32 0)), (.flat (.int .u32 0)), (.flat (.int .u32 0)), (.flat (.int .u32 0)), (.flat (.int .u32 0)), (.flat (.int .u32 0)), (.flat (.int .u32 0)), (.flat (.int .u32 0)), (.flat (.int .u32 0)), (.flat (.int .u32 0)), (.flat (.int .u32 0)), (.flat (.bool false)), (.flat (.bool false)), (.flat (.int .u32 0)), (.flat (.int .u32 0)), (.flat (.int .u32 0)), (.flat (.int .u32 0)), (.flat (.int .u32 0)), (.flat (.int .u32 0)), (.flat (.int .u32 0)), (.flat (.int .u32 0)), (.flat (.int .u32 0)), (.flat (.int .u32 0)), (.flat (.int .u32 0)), (.flat (.int .u32 0)), (.flat (.int .u32 0)), (.flat (.int .u32 0)), (.flat (.int .u32 0)), (.flat (.int .u32 0)), (.flat (.int .u32 0)), (.flat (.int .u32 0)), (.flat (.int .u32 0)), (.flat (.int .u32 0)), (.flat (.int .u32 0)), (.flat (.int .u32 0)), (.flat (.int .u32 0)), (.flat (.int .u32 0)), (.flat (.int .u32 0)), (.flat (.int .u32 0)), (.flat (.int .u32 0)), (.flat (.int .u32 0)), (.flat (.int .u32 0)), (.flat (.int .u32 0)), (.flat (.int .u32 0)), (.flat (.int .u32 0)), (.flat (.int .u32 0)), (.flat (.bool false)), (.flat (.int .i64 0))]

def Z7 : Nat → AV := lget [(.flat (.int .i64 0)), (.flat (.pointer none)), (.flat (.chan none)), (.flat (.chan none)), (.flat (.bool false)), (.flat (.int .u32 0)), (.flat (.slice none 0 0))]

def Z7b : Nat → AV := lget [(.flat (.int .i64 0)), (.flat (.pointer none)), (.flat (.pointer none)), (.flat (.int .u32 0)), (.flat (.int .u32 0)), (.flat (.int .u32 0)), (.flat (.int .u32 0))]

def Z8 : Nat → AV := lget [(.flat (.int .i64 0)), (.flat (.pointer none)), (.flat (.pointer none)), (.flat (.slice none 0 0)), (.flat (.int .u32 0)), (.flat (.int .u32 0)), (.flat (.int .u32 0)), (.flat (.int .u32 0))]

def Z8b : Nat → AV := lget [(.flat (.pointer none)), (.flat (.pointer none)), (.flat (.pointer none)), (.flat (.pointer none)), (.flat (.pointer none)), (.flat (.pointer none)), (.flat (.pointer none)), (.flat (.pointer none))]

def Z74 : Nat → AV := lget [(.flat (.int .u32 0)), (.flat (.int .u32 0)), (.flat (.int .u32 0)), (.flat (.int .u32 0)), (.flat (.int .u32 0)), (.flat (.int .u32 0)), (.flat (.int .u32 0)), (.flat (.int .u32 0)), (.flat (.int .u32 0)), (.flat (.int .u32 0)), (.flat (.int .u32 0)), (.flat (.int .u32 0)), (.flat (.int .u32 0)), (.flat (.int .u32 0)), (.flat (.int .u32 0)), (.flat (.int .u32 0)), (.flat (.int .u32 0)), (.flat (.int .u32 0)), (.flat (.int .u32 0)), (.flat (.int .u32 0)), (.flat (.int .u32 0)), (.flat (.int .u32 0)), (.flat (.int .u32 0)), (.flat (.int .u32 0)), (.flat (.int .u32 0)), (.flat (.int .u32 0)), (.flat (.int .u32 0)), (.flat (.int .u32 0)), (.flat (.int .u32 0)), (.flat (.int .u32 0)), (.flat (.int .u32 0)), (.flat (.int .u32 0)), (.flat (.int .u32 0)), (.flat (.int .u32 0)), (.flat (.int .u32 0)), (.flat (.int .u32 0)), (.flat (.bool false)), (.flat (.bool false)), (.flat (.int .u32 0)), (.flat (.int .u32 0)), (.flat (.int .u32 0)), (.flat (.int .u32 0)), (.flat (.int .u32 0)), (.flat (.int .u32 0)), (.flat (.int .u32 0)), (.flat (.int .u32 0)), (.flat (.int .u32 0)), (.flat (.int .u32 0)), (.flat (.int .u32 0)), (.flat (.int .u32 0)), (.flat (.int .u32 0)), (.flat (.int .u32 0)), (.flat (.int .u32 0)), (.flat (.int .u32 0)), (.flat (.int .u32 0)), (.flat (.int .u32 0)), (.flat (.int .u32 0)), (.flat (.int .u32 0)), (.flat (.int .u32 0)), (.flat (.int .u32 0)), (.flat (.int .u32 0)), (.flat (.int .u32 0)), (.flat (.int .u32 0)), (.flat (.int .u32 0)), (.flat (.int .u32 0)), (.flat (.int .u32 0)), (.flat (.int .u32 0)), (.flat (.int .u32 0)), (.flat (.int .u32 0)), (.flat (.int .u32 0)), (.flat (.int .u32 0)), (.flat (.bool false)), (.flat (.int .i64 0)), (.flat (.pointer none))]

def Z78 : Nat → AV := lget [(.flat (.int .u32 0)), (.flat (.int .u32 0)), (.flat (.int .u32 0)), (.flat (.int .u32 0)), (.flat (.int .u32 0)), (.flat (.int .u32 0)), (.flat (.int .u32 0)), (.flat (.int .u32 0)), (.flat (.int .u32 0)), (.flat (.int .u32 0)), (.flat (.int .u32 0)), (.flat (.int .u32 0)), (.flat (.int .u32 0)), (.flat (.int .u32 0)), (.flat (.int .u32 0)), (.flat (.int .u32 0)), (.flat (.int .u32 0)), (.flat (.int .u32 0)), (.flat (.int .u32 0)), (.flat (.int .u32 0)), (.flat (.int .u32 0)), (.flat (.int .u32 0)), (.flat (.int .u32 0)), (.flat (.int .u32 0)), (.flat (.int .u32 0)), (.flat (.int .u32 0)), (.flat (.int .u32 0)), (.flat (.int .u32 0)), (.flat (.int .u32 0)), (.flat (.int .u32 0)), (.flat (.int .u32 0)), (.flat (.int .u32 0)), (.flat (.int .u32 0)), (.flat (.int .u32 0)), (.flat (.int .u32 0)), (.flat (.int .u32 0)), (.flat (.bool false)), (.flat (.bool false)), (.flat (.int .u32 0)), (.flat (.int .u32 0)), (.flat (.int .u32 0)), (.flat (.int .u32 0)), (.flat (.int .u32 0)), (.flat (.int .u32 0)), (.flat (.int .u32 0)), (.flat (.int .u32 0)), (.flat (.int .u32 0)), (.flat (.int .u32 0)), (.flat (.int .u32 0)), (.flat (.int .u32 0)), (.flat (.int .u32 0)), (.flat (.int .u32 0)), (.flat (.int .u32 0)), (.flat (.int .u32 0)), (.flat (.int .u32 0)), (.flat (.int .u32 0)), (.flat (.int .u32 0)), (.flat (.int .u32 0)), (.flat (.int .u32 0)), (.flat (.int .u32 0)), (.flat (.int .u32 0)), (.flat (.int .u32 0)), (.flat (.int .u32 0)), (.flat (.int .u32 0)), (.flat (.int .u32 0)), (.flat (.int .u32 0)), (.flat (.int .u32 0)), (.flat (.int .u32 0)), (.flat (.int .u32 0)), (.flat (.int .u32 0)), (.flat (.int .u32 0)), (.flat (.bool false)), (.flat (.int .i64 0)), (.flat (.pointer none)), (.flat (.pointer none)), (.flat (.int .i64 0)), (.flat (.int .i64 0)), (.flat (.int .i64 0))]

def Z8bb : Nat → AV := lget [(.flat (.int .u32 0)), (.flat (.int .u32 0)), (.flat (.int .u32 0)), (.flat (.int .u32 0)), (.flat (.int .u32 0)), (.flat (.int .u32 0)), (.flat (.int .u32 0)), (.flat (.int .u32 0))]

def K33 : List (Nat × LK) := [(0, (.i .u32)), (1, (.i .u32)), (2, (.i .u32)), (3, (.i .u32)), (4, (.i .u32)), (5, (.i .u32)), (6, (.i .u32)), (7, (.i .u32)), (8, (.i .u32)), (9, (.i .u32)), (10, (.i .u32)), (11, (.i .u32)), (12, (.i .u32)), (13, (.i .u32)), (14, (.i .u32)), (15, (.i .u32)), (16, (.i .u32)), (17, (.i .u32)), (18, (.i .u32)), (19, (.i .u32)), (20, (.i .u32)), (21, (.i .u32)), (22, (.i .u32)), (23, (.i .u32)), (24, (.i .u32)), (25, (.i .u32)), (26, (.i .u32)), (27, (.i .u32)), (28, (.i .u32)), (29, (.i .u32)), (30, (.i .u32)), (31, (.i .u32)), (32, (.i .u32)), (33, (.i .u32)), (34, (.i .u32)), (35, (.i .u32)), (36, .b), (37, .b), (38, (.i .u32)), (39, (.i .u32)), (40, (.i .u32)), (41, (.i .u32)), (42, (.i .u32)), (43, (.i .u32)), (44, (.i .u32)), (45, (.i .u32)), (46, (.i .u32)), (47, (.i .u32)), (48, (.i .u32)), (49, (.i .u32)), (50, (.i .u32)), (51, (.i .u32)), (52, (.i .u32)), (53, (.i .u32)), (54, (.i .u32)), (55, (.i .u32)), (56, (.i .u32)), (57, (.i .u32)), (58, (.i .u32)), (59, (.i .u32)), (60, (.i .u32)), (61, (.i .u32)), (62, (.i .u32)), (63, (.i .u32)), (64, (.i .u32)), (65, (.i .u32)), (66, (.i .u32)), (67, (.i .u32)), (68, (.i .u32)), (69, (.i .u32)), (70, (.i .u32)), (71, .b), (72, (.i .i64))]

def K94 : List (Nat × LK) := [(0, (.i .u32)), (1, (.i .i64)), (2, (.i .i64))]

def E24 : Env := envOf []

/-- pianola/cp0.Fresh -/
def F24  (m : Mem) (k : (Nat → AV) → Mem → Prop) : Prop :=
  newK m ⟨73, Z73, 33, false⟩ fun b2 m1 => newK m1 ⟨73, Z73, 33, false⟩ fun b4 m3 => stG 73 m3 b4 0 (upd (upd (Z73) 34 (.flat (.int .u32 2147484672))) 35 (.flat (.int .u32 2147484676))) fun m5 => stC m5 b4 54 (.flat (.int .u32 98304)) fun m6 => ldG 73 m6 b4 0 fun c7 => stG 73 m6 b2 0 c7 fun m8 => ldG 73 m8 b2 0 fun c9 => (Keeps m m8 ∧ InDomG 73 m c9 ∧ k c9 m)

def G24 (args : List AV) (m : Mem) (k : KV) : Prop := match args with
  | [] => F24  m (fun c_1000 m' => k (.agg 73 c_1000) m')
  | _ => False

def Lam24 : LEnv := ⟨fun a σ m k => match firstReg a with
  | _ => bump False,
  fun id => match id with
  | _ => bump false,
  fun b => match keyC b with
  | _ => bump false,
  fun b σ m k => match keyC b with
  | _ => bump False⟩

theorem eqn24  (m : Mem) (k : KV) : bodyK Try.prog E24 Lam24 Try.f24 true [] m k = F24  m (fun c_1000 m' => k (.agg 73 c_1000) m') := by
  kernel_rfl

theorem fs24 (w0 : World) : FS Try.prog w0 24 G24 := by
  refine (fs_body (Γ := E24) (sound_env (l := []) w0 (by
    intro p hp
    cases hp)) (by kernel_rfl) Try.func24 (Λ := Lam24) (c := (bodyOf Try.f24)) (by kernel_rfl) Try.call24 (by kernel_rfl) (LS_of (bodyOf Try.f24) 0 (by kernel_rfl) (fun i hi => absurd hi (Nat.not_lt_zero i)) 0 (by kernel_rfl) (fun i hi => absurd hi (Nat.not_lt_zero i))) true (np := 0) (Nat.le_of_ble_eq_true (by kernel_rfl))).imp fun args => ?_
  by_cases hl : args.length = 0
  rotate_left
  · exact .inr fun m k hk => by
      unfold G24 at hk
      split at hk
      · exact hl rfl
      · exact hk
  obtain rfl : args = [] := len_list0 hl

  exact .inl fun m k => propext ⟨fun h => ⟨rfl, by rw [eqn24]; simpa only [G24, kI, kbool, kS, kptr, kaggN, kite, decide_true, eq_self] using h⟩, fun h => by have h := h.2; rw [eqn24] at h; simpa only [G24, kI, kbool, kS, kptr, kaggN, kite, decide_true, eq_self] using h⟩

def E29 : Env := envOf []

/-- pianola/ram.New -/
def F29 (x_0 : Int) (m : Mem) (k : AV → Mem → Prop) : Prop :=
  mkS [(.flat (.int .u8 0))] 1 5 (IntKind.wrap .i64 ((if (if 64 < x_0 then 64 else x_0) > 1 then (if 64 < x_0 then 64 else x_0) else 1) * 1024)) (IntKind.wrap .i64 ((if (if 64 < x_0 then 64 else x_0) > 1 then (if 64 < x_0 then 64 else x_0) else 1) * 1024)) m fun b1 m2 => mkS [(.flat (.bool false))] 1 4 (if (if 64 < x_0 then 64 else x_0) > 1 then (if 64 < x_0 then 64 else x_0) else 1) (if (if 64 < x_0 then 64 else x_0) > 1 then (if 64 < x_0 then 64 else x_0) else 1) m2 fun b3 m4 => mkS [(.flat (.bool false))] 1 4 (if (if 64 < x_0 then 64 else x_0) > 1 then (if 64 < x_0 then 64 else x_0) else 1) (if (if 64 < x_0 then 64 else x_0) > 1 then (if 64 < x_0 then 64 else x_0) else 1) m4 fun b5 m6 => newK m6 ⟨3, (upd (upd (upd (lget [(.flat (.slice none 0 0)), (.flat (.slice none 0 0)), (.flat (.slice none 0 0))]) 0 (.sl b1 0 ((IntKind.wrap .i64 ((if (if 64 < x_0 then 64 else x_0) > 1 then (if 64 < x_0 then 64 else x_0) else 1) * 1024)).toNat) (.ex ((IntKind.wrap .i64 ((if (if 64 < x_0 then 64 else x_0) > 1 then (if 64 < x_0 then 64 else x_0) else 1) * 1024)).toNat)))) 1 (.sl b3 0 ((if (if 64 < x_0 then 64 else x_0) > 1 then (if 64 < x_0 then 64 else x_0) else 1).toNat) (.ex ((if (if 64 < x_0 then 64 else x_0) > 1 then (if 64 < x_0 then 64 else x_0) else 1).toNat)))) 2 (.sl b5 0 ((if (if 64 < x_0 then 64 else x_0) > 1 then (if 64 < x_0 then 64 else x_0) else 1).toNat) (.ex ((if (if 64 < x_0 then 64 else x_0) > 1 then (if 64 < x_0 then 64 else x_0) else 1).toNat)))), 105, false⟩ fun b8 m7 => k (.ptr b8 0) m7

def G29 (args : List AV) (m : Mem) (k : KV) : Prop := match args with
  | [a0] => kI .i64 a0 fun x_0 => F29 x_0 m (fun v_1000 m' => k v_1000 m')
  | _ => False

def Lam29 : LEnv := ⟨fun a σ m k => match firstReg a with
  | _ => bump False,
  fun id => match id with
  | _ => bump false,
  fun b => match keyC b with
  | _ => bump false,
  fun b σ m k => match keyC b with
  | _ => bump False⟩

theorem eqn29 (x_0 : Int) (m : Mem) (k : KV) : bodyK Try.prog E29 Lam29 Try.f29 false [(.flat (.int .i64 x_0))] m k = F29 x_0 m (fun v_1000 m' => k v_1000 m') := by
  kernel_rfl

theorem fs29 (w0 : World) : FS Try.prog w0 29 G29 := by
  refine (fs_body (Γ := E29) (sound_env (l := []) w0 (by
    intro p hp
    cases hp)) (by kernel_rfl) Try.func29 (Λ := Lam29) (c := (bodyOf Try.f29)) (by kernel_rfl) Try.call29 (by kernel_rfl) (LS_of (bodyOf Try.f29) 0 (by kernel_rfl) (fun i hi => absurd hi (Nat.not_lt_zero i)) 0 (by kernel_rfl) (fun i hi => absurd hi (Nat.not_lt_zero i))) false (np := 1) (Nat.le_of_ble_eq_true (by kernel_rfl))).imp fun args => ?_
  by_cases hl : args.length = 1
  rotate_left
  · exact .inr fun m k hk => by
      unfold G29 at hk
      split at hk
      · exact hl rfl
      · exact hk
  obtain ⟨a0, rfl⟩ : ∃ a0, args = [a0] := len_list1 hl
  rcases kI_or .i64 a0 with ⟨x_0, rfl⟩ | h
  rotate_left
  · exact .inr fun m k hk => h _ (by simpa only [G29, kI, kbool, kS, kptr, kaggN, kite, decide_true, eq_self] using hk)
  exact .inl fun m k => propext ⟨fun h => ⟨rfl, by rw [eqn29]; simpa only [G29, kI, kbool, kS, kptr, kaggN, kite, decide_true, eq_self] using h⟩, fun h => by have h := h.2; rw [eqn29] at h; simpa only [G29, kI, kbool, kS, kptr, kaggN, kite, decide_true, eq_self] using h⟩

def E30 : Env := envOf []

/-- pianola/wheel.New -/
def F30  (m : Mem) (k : AV → Mem → Prop) : Prop :=
  newK m ⟨2, (lget [(.flat (.slice none 0 0)), (.flat (.int .i64 0))]), 108, false⟩ fun b2 m1 => k (.ptr b2 0) m1

def G30 (args : List AV) (m : Mem) (k : KV) : Prop := match args with
  | [] => F30  m (fun v_1000 m' => k v_1000 m')
  | _ => False

def Lam30 : LEnv := ⟨fun a σ m k => match firstReg a with
  | _ => bump False,
  fun id => match id with
  | _ => bump false,
  fun b => match keyC b with
  | _ => bump false,
  fun b σ m k => match keyC b with
  | _ => bump False⟩

theorem eqn30  (m : Mem) (k : KV) : bodyK Try.prog E30 Lam30 Try.f30 false [] m k = F30  m (fun v_1000 m' => k v_1000 m') := by
  kernel_rfl

theorem fs30 (w0 : World) : FS Try.prog w0 30 G30 := by
  refine (fs_body (Γ := E30) (sound_env (l := []) w0 (by
    intro p hp
    cases hp)) (by kernel_rfl) Try.func30 (Λ := Lam30) (c := (bodyOf Try.f30)) (by kernel_rfl) Try.call30 (by kernel_rfl) (LS_of (bodyOf Try.f30) 0 (by kernel_rfl) (fun i hi => absurd hi (Nat.not_lt_zero i)) 0 (by kernel_rfl) (fun i hi => absurd hi (Nat.not_lt_zero i))) false (np := 0) (Nat.le_of_ble_eq_true (by kernel_rfl))).imp fun args => ?_
  by_cases hl : args.length = 0
  rotate_left
  · exact .inr fun m k hk => by
      unfold G30 at hk
      split at hk
      · exact hl rfl
      · exact hk
  obtain rfl : args = [] := len_list0 hl

  exact .inl fun m k => propext ⟨fun h => ⟨rfl, by rw [eqn30]; simpa only [G30, kI, kbool, kS, kptr, kaggN, kite, decide_true, eq_self] using h⟩, fun h => by have h := h.2; rw [eqn30] at h; simpa only [G30, kI, kbool, kS, kptr, kaggN, kite, decide_true, eq_self] using h⟩

def E45 : Env := envOf []

/-- (*pianola/ram.Ram).there -/
def F45 (b_0 o_0 : Nat) (x_1 : Int) (x_2 : Int) (m : Mem) (k : Bool → Mem → Prop) : Prop :=
  kif (decide (x_2 ≥ 0)) (ldA m b_0 (o_0 + 0) fun v1 => klen v1 fun x2 => kif (decide ((IntKind.wrap .i64 x_1) ≤ x2)) (ldA m b_0 (o_0 + 0) fun v3 => klen v3 fun x4 => (Keeps m m ∧ k (decide (x_2 ≤ (IntKind.wrap .i64 (x4 - (IntKind.wrap .i64 x_1))))) m)) ((Keeps m m ∧ k false m))) ((Keeps m m ∧ k false m))

def G45 (args : List AV) (m : Mem) (k : KV) : Prop := match args with
  | [a0, a1, a2] => kptr a0 fun b_0 o_0 => kI .u32 a1 fun x_1 => kI .i64 a2 fun x_2 => F45 b_0 o_0 x_1 x_2 m (fun x_1000 m' => k (.flat (.bool x_1000)) m')
  | _ => False

def Lam45 : LEnv := ⟨fun a σ m k => match firstReg a with
  | _ => bump False,
  fun id => match id with
  | _ => bump false,
  fun b => match keyC b with
  | _ => bump false,
  fun b σ m k => match keyC b with
  | _ => bump False⟩

theorem eqn45 (b_0 o_0 : Nat) (x_1 : Int) (x_2 : Int) (m : Mem) (k : KV) : bodyK Try.prog E45 Lam45 Try.f45 true [(.ptr b_0 o_0), (.flat (.int .u32 x_1)), (.flat (.int .i64 x_2))] m k = F45 b_0 o_0 x_1 x_2 m (fun x_1000 m' => k (.flat (.bool x_1000)) m') := by
  kernel_rfl

theorem fs45 (w0 : World) : FS Try.prog w0 45 G45 := by
  refine (fs_body (Γ := E45) (sound_env (l := []) w0 (by
    intro p hp
    cases hp)) (by kernel_rfl) Try.func45 (Λ := Lam45) (c := (bodyOf Try.f45)) (by kernel_rfl) Try.call45 (by kernel_rfl) (LS_of (bodyOf Try.f45) 0 (by kernel_rfl) (fun i hi => absurd hi (Nat.not_lt_zero i)) 0 (by kernel_rfl) (fun i hi => absurd hi (Nat.not_lt_zero i))) true (np := 3) (Nat.le_of_ble_eq_true (by kernel_rfl))).imp fun args => ?_
  by_cases hl : args.length = 3
  rotate_left
  · exact .inr fun m k hk => by
      unfold G45 at hk
      split at hk
      · exact hl rfl
      · exact hk
  obtain ⟨a0, a1, a2, rfl⟩ : ∃ a0 a1 a2, args = [a0, a1, a2] := len_list3 hl
  rcases kptr_or a0 with ⟨b_0, o_0, rfl⟩ | h
  rotate_left
  · exact .inr fun m k hk => h _ (by simpa only [G45, kI, kbool, kS, kptr, kaggN, kite, decide_true, eq_self] using hk)
  rcases kI_or .u32 a1 with ⟨x_1, rfl⟩ | h
  rotate_left
  · exact .inr fun m k hk => h _ (by simpa only [G45, kI, kbool, kS, kptr, kaggN, kite, decide_true, eq_self] using hk)
  rcases kI_or .i64 a2 with ⟨x_2, rfl⟩ | h
  rotate_left
  · exact .inr fun m k hk => h _ (by simpa only [G45, kI, kbool, kS, kptr, kaggN, kite, decide_true, eq_self] using hk)
  exact .inl fun m k => propext ⟨fun h => ⟨rfl, by rw [eqn45]; simpa only [G45, kI, kbool, kS, kptr, kaggN, kite, decide_true, eq_self] using h⟩, fun h => by have h := h.2; rw [eqn45] at h; simpa only [G45, kI, kbool, kS, kptr, kaggN, kite, decide_true, eq_self] using h⟩

def E46 : Env := envOf []

def R46_2 (b_0 o_0 : Nat) (x_1 : Int) (x_2 : Int) (x_6 : Int) (m : Mem) (kn : Int → Mem → Prop) (k0 : Mem → Prop) : Prop :=
  kif (decide (x_6 ≤ (IntKind.wrap .i64 ((IntKind.wrap .i64 ((IntKind.wrap .i64 ((IntKind.wrap .i64 x_1) + x_2)) - 1)).tdiv 1024)))) (ldA m b_0 (o_0 + 2) fun v1 => ldA m b_0 (o_0 + 2) fun v2 => ksl v2 fun b3 o4 l5 p6 => kif (decide (0 ≤ x_6) && decide (x_6 < l5)) (ldB m b3 (o4 + (x_6).toNat * 1) fun x7 => kif x7 (ksl v1 fun b8 o9 l10 p11 => kif (decide (0 ≤ x_6) && decide (x_6 < l10)) (stC m b8 (o9 + (x_6).toNat * 1) (.flat (.bool true)) fun m12 => kn (IntKind.wrap .i64 (x_6 + 1)) m12) False) (ldA m b_0 (o_0 + 1) fun v13 => ksl v13 fun b14 o15 l16 p17 => kif (decide (0 ≤ x_6) && decide (x_6 < l16)) (ldB m b14 (o15 + (x_6).toNat * 1) fun x18 => ksl v1 fun b19 o20 l21 p22 => kif (decide (0 ≤ x_6) && decide (x_6 < l21)) (stC m b19 (o20 + (x_6).toNat * 1) (.flat (.bool x18)) fun m23 => kn (IntKind.wrap .i64 (x_6 + 1)) m23) False) False)) False) (k0  m)

def L46_2 (b_0 o_0 : Nat) (x_1 : Int) (x_2 : Int) : Nat → Int → Mem → (Mem → Prop) → Prop
  | 0, _,  _, _ => bump False
  | N + 1, x_6,  m, k0 => R46_2 b_0 o_0 x_1 x_2 x_6 m (fun x_6' m' => L46_2 b_0 o_0 x_1 x_2 N x_6' m' k0) k0

/-- (*pianola/ram.Ram).touch -/
def F46 (b_0 o_0 : Nat) (x_1 : Int) (x_2 : Int) (m : Mem) (k : Mem → Prop) : Prop :=
  kif (decide (x_2 < 1)) (k  m) (∃ N25, L46_2 b_0 o_0 x_1 x_2 N25 (IntKind.wrap .i64 ((IntKind.wrap .i64 x_1).tdiv 1024)) m (fun m24 => k  m24))

def G46 (args : List AV) (m : Mem) (k : KV) : Prop := match args with
  | [a0, a1, a2] => kptr a0 fun b_0 o_0 => kI .u32 a1 fun x_1 => kI .i64 a2 fun x_2 => F46 b_0 o_0 x_1 x_2 m (fun m' => k (.tup []) m')
  | _ => False

def Lam46_2 (σ : Nat → AV) (m : Mem) (k : KX) : Prop := kptr (σ 0) fun b_0 o_0 => kI .u32 (σ 1) fun x_1 => kI .i64 (σ 2) fun x_2 => kI .i64 (σ 6) fun x_6 => ∃ N, L46_2 b_0 o_0 x_1 x_2 N x_6 m (fun m' => k (.exit 0) (only [] []) m')

def Lam46 : LEnv := ⟨fun a σ m k => match firstReg a with
  | some 2 => Lam46_2 σ m k
  | _ => bump False,
  fun id => match id with
  | _ => bump false,
  fun b => match keyC b with
  | _ => bump false,
  fun b σ m k => match keyC b with
  | _ => bump False⟩

def lx46_2 : Ex → List Nat := fun e => match e with
  | .exit 0 => []
  | _ => []

theorem round46_2 (b_0 o_0 : Nat) (x_1 : Int) (x_2 : Int) (x_6 : Int) (m : Mem) (G : List AV → Mem → Prop) (k : KX) : (wpA Try.prog E46 Lam46 ((loopsOf (bodyOf Try.f46)).getD 0 .skip) (only [0, 1, 2, 6] [(.ptr b_0 o_0), (.flat (.int .u32 x_1)), (.flat (.int .i64 x_2)), (.flat (.int .i64 x_6))]) m fun e σ' m' => match e with
    | .normal => G ([0, 1, 2, 6].map σ') m'
    | .exit id => k (.exit id) (only (lx46_2 (.exit id)) ((lx46_2 (.exit id)).map σ')) m'
    | .ret => k .ret (only (lx46_2 .ret) ((lx46_2 .ret).map σ')) m') = R46_2 b_0 o_0 x_1 x_2 x_6 m (fun x_6' m' => G [(.ptr b_0 o_0), (.flat (.int .u32 x_1)), (.flat (.int .i64 x_2)), (.flat (.int .i64 x_6'))] m') (fun m' => k (.exit 0) (only [] []) m') := by
  kernel_rfl

theorem loop46_2 (b_0 o_0 : Nat) (x_1 : Int) (x_2 : Int) (k : KX) : ∀ (N : Nat) (x_6 : Int) (m : Mem), rounds Try.prog E46 Lam46 [0, 1, 2, 6] lx46_2 ((loopsOf (bodyOf Try.f46)).getD 0 .skip) N [(.ptr b_0 o_0), (.flat (.int .u32 x_1)), (.flat (.int .i64 x_2)), (.flat (.int .i64 x_6))] m k = L46_2 b_0 o_0 x_1 x_2 N x_6 m (fun m' => k (.exit 0) (only [] []) m') := by
  intro N
  induction N with
  | zero => intros; rfl
  | succ N ih =>
    intro x_6 m
    refine (round46_2 b_0 o_0 x_1 x_2 x_6 m (fun vs m' => rounds Try.prog E46 Lam46 [0, 1, 2, 6] lx46_2 ((loopsOf (bodyOf Try.f46)).getD 0 .skip) N vs m' k) k).trans ?_
    simp only [ih]
    rfl

theorem lok46_2 : LoopOK Try.prog E46 Lam46 ((loopsOf (bodyOf Try.f46)).getD 0 .skip) := by
  refine ⟨fun σ => ∃ b_0 o_0 x_1 x_2 x_6, σ 0 = .ptr b_0 o_0 ∧ σ 1 = .flat (.int .u32 x_1) ∧ σ 2 = .flat (.int .i64 x_2) ∧ σ 6 = .flat (.int .i64 x_6), [0, 1, 2, 6], lx46_2, fun σ m k => ?_⟩
  have e : Lam46.loop ((loopsOf (bodyOf Try.f46)).getD 0 .skip) σ m k = Lam46_2 σ m k := by kernel_rfl
  rw [e]
  constructor
  · intro h
    unfold Lam46_2 at h
    obtain ⟨b_0, o_0, h0, h⟩ := kptr_ok h
    obtain ⟨x_1, h1, h⟩ := kI_ok h
    obtain ⟨x_2, h2, h⟩ := kI_ok h
    obtain ⟨x_6, h3, h⟩ := kI_ok h
    obtain ⟨N, h⟩ := h
    refine ⟨⟨b_0, o_0, x_1, x_2, x_6, h0, h1, h2, h3⟩, N, ?_⟩
    have ev : [0, 1, 2, 6].map σ = [(.ptr b_0 o_0), (.flat (.int .u32 x_1)), (.flat (.int .i64 x_2)), (.flat (.int .i64 x_6))] := by simp only [List.map_cons, List.map_nil, h0, h1, h2, h3]
    rw [ev, loop46_2]
    exact h
  · rintro ⟨⟨b_0, o_0, x_1, x_2, x_6, h0, h1, h2, h3⟩, N, h⟩
    have ev : [0, 1, 2, 6].map σ = [(.ptr b_0 o_0), (.flat (.int .u32 x_1)), (.flat (.int .i64 x_2)), (.flat (.int .i64 x_6))] := by simp only [List.map_cons, List.map_nil, h0, h1, h2, h3]
    rw [ev, loop46_2] at h
    unfold Lam46_2
    try simp only [h0, h1, h2, h3, kI, kbool, kS, kptr, kaggN, kite, decide_true, eq_self]
    exact ⟨N, h⟩

theorem eqn46 (b_0 o_0 : Nat) (x_1 : Int) (x_2 : Int) (m : Mem) (k : KV) : bodyK Try.prog E46 Lam46 Try.f46 false [(.ptr b_0 o_0), (.flat (.int .u32 x_1)), (.flat (.int .i64 x_2))] m k = F46 b_0 o_0 x_1 x_2 m (fun m' => k (.tup []) m') := by
  kernel_rfl

theorem fs46 (w0 : World) : FS Try.prog w0 46 G46 := by
  refine (fs_body (Γ := E46) (sound_env (l := []) w0 (by
    intro p hp
    cases hp)) (by kernel_rfl) Try.func46 (Λ := Lam46) (c := (bodyOf Try.f46)) (by kernel_rfl) Try.call46 (by kernel_rfl) (LS_of (bodyOf Try.f46) 1 (by kernel_rfl) (by
    intro i hi
    match i, hi with
    | 0, _ => exact lok46_2
    | i + 1, hi => omega) 0 (by kernel_rfl) (fun i hi => absurd hi (Nat.not_lt_zero i))) false (np := 3) (Nat.le_of_ble_eq_true (by kernel_rfl))).imp fun args => ?_
  by_cases hl : args.length = 3
  rotate_left
  · exact .inr fun m k hk => by
      unfold G46 at hk
      split at hk
      · exact hl rfl
      · exact hk
  obtain ⟨a0, a1, a2, rfl⟩ : ∃ a0 a1 a2, args = [a0, a1, a2] := len_list3 hl
  rcases kptr_or a0 with ⟨b_0, o_0, rfl⟩ | h
  rotate_left
  · exact .inr fun m k hk => h _ (by simpa only [G46, kI, kbool, kS, kptr, kaggN, kite, decide_true, eq_self] using hk)
  rcases kI_or .u32 a1 with ⟨x_1, rfl⟩ | h
  rotate_left
  · exact .inr fun m k hk => h _ (by simpa only [G46, kI, kbool, kS, kptr, kaggN, kite, decide_true, eq_self] using hk)
  rcases kI_or .i64 a2 with ⟨x_2, rfl⟩ | h
  rotate_left
  · exact .inr fun m k hk => h _ (by simpa only [G46, kI, kbool, kS, kptr, kaggN, kite, decide_true, eq_self] using hk)
  exact .inl fun m k => propext ⟨fun h => ⟨rfl, by rw [eqn46]; simpa only [G46, kI, kbool, kS, kptr, kaggN, kite, decide_true, eq_self] using h⟩, fun h => by have h := h.2; rw [eqn46] at h; simpa only [G46, kI, kbool, kS, kptr, kaggN, kite, decide_true, eq_self] using h⟩

def E31 : Env := envOf [(45, G45), (46, G46)]

/-- (*pianola/ram.Ram).Put -/
def F31 (b_0 o_0 : Nat) (x_1 : Int) (v_2 : AV) (m : Mem) (k : Bool → Mem → Prop) : Prop :=
  klen v_2 fun x1 => F45 b_0 o_0 x_1 x1 m fun x2 m3 => kif (!x2) (k false m3) (ldA m3 b_0 (o_0 + 0) fun v4 => slS 1 v4 (some x_1) none fun v5 => copS 1 v5 v_2 m3 fun v6 m7 => klen v_2 fun x8 => F46 b_0 o_0 x_1 x8 m7 fun m9 => k true m9)

def G31 (args : List AV) (m : Mem) (k : KV) : Prop := match args with
  | [a0, a1, a2] => kptr a0 fun b_0 o_0 => kI .u32 a1 fun x_1 => F31 b_0 o_0 x_1 a2 m (fun x_1000 m' => k (.flat (.bool x_1000)) m')
  | _ => False

def Lam31 : LEnv := ⟨fun a σ m k => match firstReg a with
  | _ => bump False,
  fun id => match id with
  | _ => bump false,
  fun b => match keyC b with
  | _ => bump false,
  fun b σ m k => match keyC b with
  | _ => bump False⟩

theorem eqn31 (b_0 o_0 : Nat) (x_1 : Int) (v_2 : AV) (m : Mem) (k : KV) : bodyK Try.prog E31 Lam31 Try.f31 false [(.ptr b_0 o_0), (.flat (.int .u32 x_1)), v_2] m k = F31 b_0 o_0 x_1 v_2 m (fun x_1000 m' => k (.flat (.bool x_1000)) m') := by
  kernel_rfl

theorem fs31 (w0 : World) : FS Try.prog w0 31 G31 := by
  refine (fs_body (Γ := E31) (sound_env (l := [(45, G45), (46, G46)]) w0 (by
    intro p hp
    simp only [List.mem_cons, List.not_mem_nil, or_false] at hp
    rcases hp with rfl | rfl
    · exact fs45 w0
    · exact fs46 w0)) (by kernel_rfl) Try.func31 (Λ := Lam31) (c := (bodyOf Try.f31)) (by kernel_rfl) Try.call31 (by kernel_rfl) (LS_of (bodyOf Try.f31) 0 (by kernel_rfl) (fun i hi => absurd hi (Nat.not_lt_zero i)) 0 (by kernel_rfl) (fun i hi => absurd hi (Nat.not_lt_zero i))) false (np := 3) (Nat.le_of_ble_eq_true (by kernel_rfl))).imp fun args => ?_
  by_cases hl : args.length = 3
  rotate_left
  · exact .inr fun m k hk => by
      unfold G31 at hk
      split at hk
      · exact hl rfl
      · exact hk
  obtain ⟨a0, a1, a2, rfl⟩ : ∃ a0 a1 a2, args = [a0, a1, a2] := len_list3 hl
  rcases kptr_or a0 with ⟨b_0, o_0, rfl⟩ | h
  rotate_left
  · exact .inr fun m k hk => h _ (by simpa only [G31, kI, kbool, kS, kptr, kaggN, kite, decide_true, eq_self] using hk)
  rcases kI_or .u32 a1 with ⟨x_1, rfl⟩ | h
  rotate_left
  · exact .inr fun m k hk => h _ (by simpa only [G31, kI, kbool, kS, kptr, kaggN, kite, decide_true, eq_self] using hk)
  exact .inl fun m k => propext ⟨fun h => ⟨rfl, by rw [eqn31]; simpa only [G31, kI, kbool, kS, kptr, kaggN, kite, decide_true, eq_self] using h⟩, fun h => by have h := h.2; rw [eqn31] at h; simpa only [G31, kI, kbool, kS, kptr, kaggN, kite, decide_true, eq_self] using h⟩

def E32 : Env := envOf []

/-- (*pianola/ram.Ram).Size -/
def F32 (b_0 o_0 : Nat) (m : Mem) (k : Int → Mem → Prop) : Prop :=
  ldA m b_0 (o_0 + 0) fun v1 => klen v1 fun x2 => (Keeps m m ∧ k (IntKind.wrap .u32 x2) m)

def G32 (args : List AV) (m : Mem) (k : KV) : Prop := match args with
  | [a0] => kptr a0 fun b_0 o_0 => F32 b_0 o_0 m (fun x_1000 m' => k (.flat (.int .u32 x_1000)) m')
  | _ => False

def Lam32 : LEnv := ⟨fun a σ m k => match firstReg a with
  | _ => bump False,
  fun id => match id with
  | _ => bump false,
  fun b => match keyC b with
  | _ => bump false,
  fun b σ m k => match keyC b with
  | _ => bump False⟩

theorem eqn32 (b_0 o_0 : Nat) (m : Mem) (k : KV) : bodyK Try.prog E32 Lam32 Try.f32 true [(.ptr b_0 o_0)] m k = F32 b_0 o_0 m (fun x_1000 m' => k (.flat (.int .u32 x_1000)) m') := by
  kernel_rfl

theorem fs32 (w0 : World) : FS Try.prog w0 32 G32 := by
  refine (fs_body (Γ := E32) (sound_env (l := []) w0 (by
    intro p hp
    cases hp)) (by kernel_rfl) Try.func32 (Λ := Lam32) (c := (bodyOf Try.f32)) (by kernel_rfl) Try.call32 (by kernel_rfl) (LS_of (bodyOf Try.f32) 0 (by kernel_rfl) (fun i hi => absurd hi (Nat.not_lt_zero i)) 0 (by kernel_rfl) (fun i hi => absurd hi (Nat.not_lt_zero i))) true (np := 1) (Nat.le_of_ble_eq_true (by kernel_rfl))).imp fun args => ?_
  by_cases hl : args.length = 1
  rotate_left
  · exact .inr fun m k hk => by
      unfold G32 at hk
      split at hk
      · exact hl rfl
      · exact hk
  obtain ⟨a0, rfl⟩ : ∃ a0, args = [a0] := len_list1 hl
  rcases kptr_or a0 with ⟨b_0, o_0, rfl⟩ | h
  rotate_left
  · exact .inr fun m k hk => h _ (by simpa only [G32, kI, kbool, kS, kptr, kaggN, kite, decide_true, eq_self] using hk)
  exact .inl fun m k => propext ⟨fun h => ⟨rfl, by rw [eqn32]; simpa only [G32, kI, kbool, kS, kptr, kaggN, kite, decide_true, eq_self] using h⟩, fun h => by have h := h.2; rw [eqn32] at h; simpa only [G32, kI, kbool, kS, kptr, kaggN, kite, decide_true, eq_self] using h⟩

def E33 : Env := envOf []

/-- pianola/lines.New -/
def F33  (m : Mem) (k : AV → Mem → Prop) : Prop :=
  newK m ⟨2, (lget [(.flat (.int .u32 0)), (.flat (.int .u32 0))]), 112, false⟩ fun b2 m1 => k (.ptr b2 0) m1

def G33 (args : List AV) (m : Mem) (k : KV) : Prop := match args with
  | [] => F33  m (fun v_1000 m' => k v_1000 m')
  | _ => False

def Lam33 : LEnv := ⟨fun a σ m k => match firstReg a with
  | _ => bump False,
  fun id => match id with
  | _ => bump false,
  fun b => match keyC b with
  | _ => bump false,
  fun b σ m k => match keyC b with
  | _ => bump False⟩

theorem eqn33  (m : Mem) (k : KV) : bodyK Try.prog E33 Lam33 Try.f33 false [] m k = F33  m (fun v_1000 m' => k v_1000 m') := by
  kernel_rfl

theorem fs33 (w0 : World) : FS Try.prog w0 33 G33 := by
  refine (fs_body (Γ := E33) (sound_env (l := []) w0 (by
    intro p hp
    cases hp)) (by kernel_rfl) Try.func33 (Λ := Lam33) (c := (bodyOf Try.f33)) (by kernel_rfl) Try.call33 (by kernel_rfl) (LS_of (bodyOf Try.f33) 0 (by kernel_rfl) (fun i hi => absurd hi (Nat.not_lt_zero i)) 0 (by kernel_rfl) (fun i hi => absurd hi (Nat.not_lt_zero i))) false (np := 0) (Nat.le_of_ble_eq_true (by kernel_rfl))).imp fun args => ?_
  by_cases hl : args.length = 0
  rotate_left
  · exact .inr fun m k hk => by
      unfold G33 at hk
      split at hk
      · exact hl rfl
      · exact hk
  obtain rfl : args = [] := len_list0 hl

  exact .inl fun m k => propext ⟨fun h => ⟨rfl, by rw [eqn33]; simpa only [G33, kI, kbool, kS, kptr, kaggN, kite, decide_true, eq_self] using h⟩, fun h => by have h := h.2; rw [eqn33] at h; simpa only [G33, kI, kbool, kS, kptr, kaggN, kite, decide_true, eq_self] using h⟩

def E34 : Env := envOf []

/-- pianola/timer.New -/
def F34 (x_0 : Int) (b_1 o_1 : Nat) (m : Mem) (k : AV → Mem → Prop) : Prop :=
  newK m ⟨5, (upd (upd (lget [(.flat (.int .i64 0)), (.flat (.pointer none)), (.flat (.int .u32 0)), (.flat (.int .u32 0)), (.flat (.int .u32 0))]) 0 (.flat (.int .i64 x_0))) 1 (.ptr b_1 o_1)), 114, false⟩ fun b2 m1 => k (.ptr b2 0) m1

def G34 (args : List AV) (m : Mem) (k : KV) : Prop := match args with
  | [a0, a1] => kI .i64 a0 fun x_0 => kptr a1 fun b_1 o_1 => F34 x_0 b_1 o_1 m (fun v_1000 m' => k v_1000 m')
  | _ => False

def Lam34 : LEnv := ⟨fun a σ m k => match firstReg a with
  | _ => bump False,
  fun id => match id with
  | _ => bump false,
  fun b => match keyC b with
  | _ => bump false,
  fun b σ m k => match keyC b with
  | _ => bump False⟩

theorem eqn34 (x_0 : Int) (b_1 o_1 : Nat) (m : Mem) (k : KV) : bodyK Try.prog E34 Lam34 Try.f34 false [(.flat (.int .i64 x_0)), (.ptr b_1 o_1)] m k = F34 x_0 b_1 o_1 m (fun v_1000 m' => k v_1000 m') := by
  kernel_rfl

theorem fs34 (w0 : World) : FS Try.prog w0 34 G34 := by
  refine (fs_body (Γ := E34) (sound_env (l := []) w0 (by
    intro p hp
    cases hp)) (by kernel_rfl) Try.func34 (Λ := Lam34) (c := (bodyOf Try.f34)) (by kernel_rfl) Try.call34 (by kernel_rfl) (LS_of (bodyOf Try.f34) 0 (by kernel_rfl) (fun i hi => absurd hi (Nat.not_lt_zero i)) 0 (by kernel_rfl) (fun i hi => absurd hi (Nat.not_lt_zero i))) false (np := 2) (Nat.le_of_ble_eq_true (by kernel_rfl))).imp fun args => ?_
  by_cases hl : args.length = 2
  rotate_left
  · exact .inr fun m k hk => by
      unfold G34 at hk
      split at hk
      · exact hl rfl
      · exact hk
  obtain ⟨a0, a1, rfl⟩ : ∃ a0 a1, args = [a0, a1] := len_list2 hl
  rcases kI_or .i64 a0 with ⟨x_0, rfl⟩ | h
  rotate_left
  · exact .inr fun m k hk => h _ (by simpa only [G34, kI, kbool, kS, kptr, kaggN, kite, decide_true, eq_self] using hk)
  rcases kptr_or a1 with ⟨b_1, o_1, rfl⟩ | h
  rotate_left
  · exact .inr fun m k hk => h _ (by simpa only [G34, kI, kbool, kS, kptr, kaggN, kite, decide_true, eq_self] using hk)
  exact .inl fun m k => propext ⟨fun h => ⟨rfl, by rw [eqn34]; simpa only [G34, kI, kbool, kS, kptr, kaggN, kite, decide_true, eq_self] using h⟩, fun h => by have h := h.2; rw [eqn34] at h; simpa only [G34, kI, kbool, kS, kptr, kaggN, kite, decide_true, eq_self] using h⟩

def E35 : Env := envOf []

/-- pianola/uart.New -/
def F35 (x_0 : Int) (b_1 o_1 : Nat) (m : Mem) (k : AV → Mem → Prop) : Prop :=
  newK m ⟨7, (upd (upd (upd (upd (Z7) 0 (.flat (.int .i64 x_0))) 1 (.ptr b_1 o_1)) 2 .ch) 3 .ch), 117, false⟩ fun b2 m1 => k (.ptr b2 0) m1

def G35 (args : List AV) (m : Mem) (k : KV) : Prop := match args with
  | [a0, a1] => kI .i64 a0 fun x_0 => kptr a1 fun b_1 o_1 => F35 x_0 b_1 o_1 m (fun v_1000 m' => k v_1000 m')
  | _ => False

def Lam35 : LEnv := ⟨fun a σ m k => match firstReg a with
  | _ => bump False,
  fun id => match id with
  | _ => bump false,
  fun b => match keyC b with
  | _ => bump false,
  fun b σ m k => match keyC b with
  | _ => bump False⟩

theorem eqn35 (x_0 : Int) (b_1 o_1 : Nat) (m : Mem) (k : KV) : bodyK Try.prog E35 Lam35 Try.f35 false [(.flat (.int .i64 x_0)), (.ptr b_1 o_1)] m k = F35 x_0 b_1 o_1 m (fun v_1000 m' => k v_1000 m') := by
  kernel_rfl

theorem fs35 (w0 : World) : FS Try.prog w0 35 G35 := by
  refine (fs_body (Γ := E35) (sound_env (l := []) w0 (by
    intro p hp
    cases hp)) (by kernel_rfl) Try.func35 (Λ := Lam35) (c := (bodyOf Try.f35)) (by kernel_rfl) Try.call35 (by kernel_rfl) (LS_of (bodyOf Try.f35) 0 (by kernel_rfl) (fun i hi => absurd hi (Nat.not_lt_zero i)) 0 (by kernel_rfl) (fun i hi => absurd hi (Nat.not_lt_zero i))) false (np := 2) (Nat.le_of_ble_eq_true (by kernel_rfl))).imp fun args => ?_
  by_cases hl : args.length = 2
  rotate_left
  · exact .inr fun m k hk => by
      unfold G35 at hk
      split at hk
      · exact hl rfl
      · exact hk
  obtain ⟨a0, a1, rfl⟩ : ∃ a0 a1, args = [a0, a1] := len_list2 hl
  rcases kI_or .i64 a0 with ⟨x_0, rfl⟩ | h
  rotate_left
  · exact .inr fun m k hk => h _ (by simpa only [G35, kI, kbool, kS, kptr, kaggN, kite, decide_true, eq_self] using hk)
  rcases kptr_or a1 with ⟨b_1, o_1, rfl⟩ | h
  rotate_left
  · exact .inr fun m k hk => h _ (by simpa only [G35, kI, kbool, kS, kptr, kaggN, kite, decide_true, eq_self] using hk)
  exact .inl fun m k => propext ⟨fun h => ⟨rfl, by rw [eqn35]; simpa only [G35, kI, kbool, kS, kptr, kaggN, kite, decide_true, eq_self] using h⟩, fun h => by have h := h.2; rw [eqn35] at h; simpa only [G35, kI, kbool, kS, kptr, kaggN, kite, decide_true, eq_self] using h⟩

def E36 : Env := envOf []

/-- pianola/dma.New -/
def F36 (x_0 : Int) (b_1 o_1 : Nat) (b_2 o_2 : Nat) (m : Mem) (k : AV → Mem → Prop) : Prop :=
  newK m ⟨7, (upd (upd (upd (Z7b) 0 (.flat (.int .i64 x_0))) 1 (.ptr b_1 o_1)) 2 (.ptr b_2 o_2)), 119, false⟩ fun b2 m1 => k (.ptr b2 0) m1

def G36 (args : List AV) (m : Mem) (k : KV) : Prop := match args with
  | [a0, a1, a2] => kI .i64 a0 fun x_0 => kptr a1 fun b_1 o_1 => kptr a2 fun b_2 o_2 => F36 x_0 b_1 o_1 b_2 o_2 m (fun v_1000 m' => k v_1000 m')
  | _ => False

def Lam36 : LEnv := ⟨fun a σ m k => match firstReg a with
  | _ => bump False,
  fun id => match id with
  | _ => bump false,
  fun b => match keyC b with
  | _ => bump false,
  fun b σ m k => match keyC b with
  | _ => bump False⟩

theorem eqn36 (x_0 : Int) (b_1 o_1 : Nat) (b_2 o_2 : Nat) (m : Mem) (k : KV) : bodyK Try.prog E36 Lam36 Try.f36 false [(.flat (.int .i64 x_0)), (.ptr b_1 o_1), (.ptr b_2 o_2)] m k = F36 x_0 b_1 o_1 b_2 o_2 m (fun v_1000 m' => k v_1000 m') := by
  kernel_rfl

theorem fs36 (w0 : World) : FS Try.prog w0 36 G36 := by
  refine (fs_body (Γ := E36) (sound_env (l := []) w0 (by
    intro p hp
    cases hp)) (by kernel_rfl) Try.func36 (Λ := Lam36) (c := (bodyOf Try.f36)) (by kernel_rfl) Try.call36 (by kernel_rfl) (LS_of (bodyOf Try.f36) 0 (by kernel_rfl) (fun i hi => absurd hi (Nat.not_lt_zero i)) 0 (by kernel_rfl) (fun i hi => absurd hi (Nat.not_lt_zero i))) false (np := 3) (Nat.le_of_ble_eq_true (by kernel_rfl))).imp fun args => ?_
  by_cases hl : args.length = 3
  rotate_left
  · exact .inr fun m k hk => by
      unfold G36 at hk
      split at hk
      · exact hl rfl
      · exact hk
  obtain ⟨a0, a1, a2, rfl⟩ : ∃ a0 a1 a2, args = [a0, a1, a2] := len_list3 hl
  rcases kI_or .i64 a0 with ⟨x_0, rfl⟩ | h
  rotate_left
  · exact .inr fun m k hk => h _ (by simpa only [G36, kI, kbool, kS, kptr, kaggN, kite, decide_true, eq_self] using hk)
  rcases kptr_or a1 with ⟨b_1, o_1, rfl⟩ | h
  rotate_left
  · exact .inr fun m k hk => h _ (by simpa only [G36, kI, kbool, kS, kptr, kaggN, kite, decide_true, eq_self] using hk)
  rcases kptr_or a2 with ⟨b_2, o_2, rfl⟩ | h
  rotate_left
  · exact .inr fun m k hk => h _ (by simpa only [G36, kI, kbool, kS, kptr, kaggN, kite, decide_true, eq_self] using hk)
  exact .inl fun m k => propext ⟨fun h => ⟨rfl, by rw [eqn36]; simpa only [G36, kI, kbool, kS, kptr, kaggN, kite, decide_true, eq_self] using h⟩, fun h => by have h := h.2; rw [eqn36] at h; simpa only [G36, kI, kbool, kS, kptr, kaggN, kite, decide_true, eq_self] using h⟩

def E37 : Env := envOf []

/-- pianola/disk.New -/
def F37 (x_0 : Int) (b_1 o_1 : Nat) (b_2 o_2 : Nat) (v_3 : AV) (m : Mem) (k : AV → Mem → Prop) : Prop :=
  klen v_3 fun x1 => mkS [(.flat (.int .u8 0))] 1 5 (IntKind.wrap .i64 ((if 64 < (IntKind.wrap .i64 ((IntKind.wrap .i64 ((IntKind.wrap .i64 (x1 + 64)) - 1)).tdiv 64)) then 64 else (IntKind.wrap .i64 ((IntKind.wrap .i64 ((IntKind.wrap .i64 (x1 + 64)) - 1)).tdiv 64))) * 64)) (IntKind.wrap .i64 ((if 64 < (IntKind.wrap .i64 ((IntKind.wrap .i64 ((IntKind.wrap .i64 (x1 + 64)) - 1)).tdiv 64)) then 64 else (IntKind.wrap .i64 ((IntKind.wrap .i64 ((IntKind.wrap .i64 (x1 + 64)) - 1)).tdiv 64))) * 64)) m fun b2 m3 => copS 1 (.sl b2 0 ((IntKind.wrap .i64 ((if 64 < (IntKind.wrap .i64 ((IntKind.wrap .i64 ((IntKind.wrap .i64 (x1 + 64)) - 1)).tdiv 64)) then 64 else (IntKind.wrap .i64 ((IntKind.wrap .i64 ((IntKind.wrap .i64 (x1 + 64)) - 1)).tdiv 64))) * 64)).toNat) (.ex ((IntKind.wrap .i64 ((if 64 < (IntKind.wrap .i64 ((IntKind.wrap .i64 ((IntKind.wrap .i64 (x1 + 64)) - 1)).tdiv 64)) then 64 else (IntKind.wrap .i64 ((IntKind.wrap .i64 ((IntKind.wrap .i64 (x1 + 64)) - 1)).tdiv 64))) * 64)).toNat))) v_3 m3 fun v4 m5 => newK m5 ⟨8, (upd (upd (upd (upd (Z8) 0 (.flat (.int .i64 x_0))) 1 (.ptr b_1 o_1)) 2 (.ptr b_2 o_2)) 3 (.sl b2 0 ((IntKind.wrap .i64 ((if 64 < (IntKind.wrap .i64 ((IntKind.wrap .i64 ((IntKind.wrap .i64 (x1 + 64)) - 1)).tdiv 64)) then 64 else (IntKind.wrap .i64 ((IntKind.wrap .i64 ((IntKind.wrap .i64 (x1 + 64)) - 1)).tdiv 64))) * 64)).toNat) (.ex ((IntKind.wrap .i64 ((if 64 < (IntKind.wrap .i64 ((IntKind.wrap .i64 ((IntKind.wrap .i64 (x1 + 64)) - 1)).tdiv 64)) then 64 else (IntKind.wrap .i64 ((IntKind.wrap .i64 ((IntKind.wrap .i64 (x1 + 64)) - 1)).tdiv 64))) * 64)).toNat)))), 121, false⟩ fun b7 m6 => k (.ptr b7 0) m6

def G37 (args : List AV) (m : Mem) (k : KV) : Prop := match args with
  | [a0, a1, a2, a3] => kI .i64 a0 fun x_0 => kptr a1 fun b_1 o_1 => kptr a2 fun b_2 o_2 => F37 x_0 b_1 o_1 b_2 o_2 a3 m (fun v_1000 m' => k v_1000 m')
  | _ => False

def Lam37 : LEnv := ⟨fun a σ m k => match firstReg a with
  | _ => bump False,
  fun id => match id with
  | _ => bump false,
  fun b => match keyC b with
  | _ => bump false,
  fun b σ m k => match keyC b with
  | _ => bump False⟩

theorem eqn37 (x_0 : Int) (b_1 o_1 : Nat) (b_2 o_2 : Nat) (v_3 : AV) (m : Mem) (k : KV) : bodyK Try.prog E37 Lam37 Try.f37 false [(.flat (.int .i64 x_0)), (.ptr b_1 o_1), (.ptr b_2 o_2), v_3] m k = F37 x_0 b_1 o_1 b_2 o_2 v_3 m (fun v_1000 m' => k v_1000 m') := by
  kernel_rfl

theorem fs37 (w0 : World) : FS Try.prog w0 37 G37 := by
  refine (fs_body (Γ := E37) (sound_env (l := []) w0 (by
    intro p hp
    cases hp)) (by kernel_rfl) Try.func37 (Λ := Lam37) (c := (bodyOf Try.f37)) (by kernel_rfl) Try.call37 (by kernel_rfl) (LS_of (bodyOf Try.f37) 0 (by kernel_rfl) (fun i hi => absurd hi (Nat.not_lt_zero i)) 0 (by kernel_rfl) (fun i hi => absurd hi (Nat.not_lt_zero i))) false (np := 4) (Nat.le_of_ble_eq_true (by kernel_rfl))).imp fun args => ?_
  by_cases hl : args.length = 4
  rotate_left
  · exact .inr fun m k hk => by
      unfold G37 at hk
      split at hk
      · exact hl rfl
      · exact hk
  obtain ⟨a0, a1, a2, a3, rfl⟩ : ∃ a0 a1 a2 a3, args = [a0, a1, a2, a3] := len_list4 hl
  rcases kI_or .i64 a0 with ⟨x_0, rfl⟩ | h
  rotate_left
  · exact .inr fun m k hk => h _ (by simpa only [G37, kI, kbool, kS, kptr, kaggN, kite, decide_true, eq_self] using hk)
  rcases kptr_or a1 with ⟨b_1, o_1, rfl⟩ | h
  rotate_left
  · exact .inr fun m k hk => h _ (by simpa only [G37, kI, kbool, kS, kptr, kaggN, kite, decide_true, eq_self] using hk)
  rcases kptr_or a2 with ⟨b_2, o_2, rfl⟩ | h
  rotate_left
  · exact .inr fun m k hk => h _ (by simpa only [G37, kI, kbool, kS, kptr, kaggN, kite, decide_true, eq_self] using hk)
  exact .inl fun m k => propext ⟨fun h => ⟨rfl, by rw [eqn37]; simpa only [G37, kI, kbool, kS, kptr, kaggN, kite, decide_true, eq_self] using h⟩, fun h => by have h := h.2; rw [eqn37] at h; simpa only [G37, kI, kbool, kS, kptr, kaggN, kite, decide_true, eq_self] using h⟩

end Go.Proofs.Ytobdghdcmkdcaaa.Am
