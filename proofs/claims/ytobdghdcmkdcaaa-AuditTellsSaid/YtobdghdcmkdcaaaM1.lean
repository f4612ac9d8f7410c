/- What Go functions ask of what follows them, as plain functions over the abstract machine; the machine asks just that. Written by gen.py. -/
import Derived.Test.YtobdghdcmkdcaaaProg
import Derived.Test.YtobdghdcmkdcaaaAmL
import Derived.Test.YtobdghdcmkdcaaaM0
namespace Go.Proofs.Ytobdghdcmkdcaaa.Am
set_option linter.unusedVariables false
set_option linter.unusedSimpArgs false
set_option maxRecDepth 100000

def E25 : Env := envOf [(29, G29), (30, G30), (31, G31), (32, G32), (33, G33), (34, G34), (35, G35), (36, G36), (37, G37)]

/-- pianola/bus.New -/
def F25 (x_0 : Int) (v_1 : AV) (v_2 : AV) (m : Mem) (k : AV → Mem → Prop) : Prop :=
  F29 x_0 m fun v1 m2 => F30  m2 fun v3 m4 => klen v_1 fun x5 => kptr v1 fun b6 o7 => F32 b6 o7 m4 fun x8 m9 => slS 1 v_1 none (some (if (IntKind.wrap .i64 x8) < x5 then (IntKind.wrap .i64 x8) else x5)) fun v10 => kptr v1 fun b11 o12 => F31 b11 o12 0 v10 m9 fun x13 m14 => F33  m14 fun v15 m16 => kptr v3 fun b17 o18 => F34 1 b17 o18 m16 fun v19 m20 => kptr v3 fun b21 o22 => F34 2 b21 o22 m20 fun v23 m24 => kptr v3 fun b25 o26 => F35 3 b25 o26 m24 fun v27 m28 => kptr v3 fun b29 o30 => kptr v1 fun b31 o32 => F36 4 b29 o30 b31 o32 m28 fun v33 m34 => kptr v3 fun b35 o36 => kptr v1 fun b37 o38 => F37 5 b35 o36 b37 o38 v_2 m34 fun v39 m40 => kif (AV.one v1) (kif (AV.one v3) (kif (AV.one v15) (kif (AV.one v19) (kif (AV.one v23) (kif (AV.one v27) (kif (AV.one v33) (kif (AV.one v39) (newK m40 ⟨8, (upd (upd (upd (upd (upd (upd (upd (upd (Z8b) 0 v1) 1 v3) 2 v15) 3 v19) 4 v23) 5 v27) 6 v33) 7 v39), 92, false⟩ fun b42 m41 => k (.ptr b42 0) m41) False) False) False) False) False) False) False) False

def G25 (args : List AV) (m : Mem) (k : KV) : Prop := match args with
  | [a0, a1, a2] => kI .i64 a0 fun x_0 => F25 x_0 a1 a2 m (fun v_1000 m' => k v_1000 m')
  | _ => False

def Lam25 : LEnv := ⟨fun a σ m k => match firstReg a with
  | _ => bump False,
  fun id => match id with
  | _ => bump false,
  fun b => match keyC b with
  | _ => bump false,
  fun b σ m k => match keyC b with
  | _ => bump False⟩

theorem eqn25 (x_0 : Int) (v_1 : AV) (v_2 : AV) (m : Mem) (k : KV) : bodyK Try.prog E25 Lam25 Try.f25 false [(.flat (.int .i64 x_0)), v_1, v_2] m k = F25 x_0 v_1 v_2 m (fun v_1000 m' => k v_1000 m') := by
  kernel_rfl

theorem fs25 (w0 : World) : FS Try.prog w0 25 G25 := by
  refine (fs_body (Γ := E25) (sound_env (l := [(29, G29), (30, G30), (31, G31), (32, G32), (33, G33), (34, G34), (35, G35), (36, G36), (37, G37)]) w0 (by
    intro p hp
    simp only [List.mem_cons, List.not_mem_nil, or_false] at hp
    rcases hp with rfl | rfl | rfl | rfl | rfl | rfl | rfl | rfl | rfl
    · exact fs29 w0
    · exact fs30 w0
    · exact fs31 w0
    · exact fs32 w0
    · exact fs33 w0
    · exact fs34 w0
    · exact fs35 w0
    · exact fs36 w0
    · exact fs37 w0)) (by kernel_rfl) Try.func25 (Λ := Lam25) (c := (bodyOf Try.f25)) (by kernel_rfl) Try.call25 (by kernel_rfl) (LS_of (bodyOf Try.f25) 0 (by kernel_rfl) (fun i hi => absurd hi (Nat.not_lt_zero i)) 0 (by kernel_rfl) (fun i hi => absurd hi (Nat.not_lt_zero i))) false (np := 3) (Nat.le_of_ble_eq_true (by kernel_rfl))).imp fun args => ?_
  by_cases hl : args.length = 3
  rotate_left
  · exact .inr fun m k hk => by
      unfold G25 at hk
      split at hk
      · exact hl rfl
      · exact hk
  obtain ⟨a0, a1, a2, rfl⟩ : ∃ a0 a1 a2, args = [a0, a1, a2] := len_list3 hl
  rcases kI_or .i64 a0 with ⟨x_0, rfl⟩ | h
  rotate_left
  · exact .inr fun m k hk => h _ (by simpa only [G25, kI, kbool, kS, kptr, kaggN, kite, decide_true, eq_self] using hk)
  exact .inl fun m k => propext ⟨fun h => ⟨rfl, by rw [eqn25]; simpa only [G25, kI, kbool, kS, kptr, kaggN, kite, decide_true, eq_self] using h⟩, fun h => by have h := h.2; rw [eqn25] at h; simpa only [G25, kI, kbool, kS, kptr, kaggN, kite, decide_true, eq_self] using h⟩

def E16 : Env := envOf [(24, G24), (25, G25)]

/-- pianola/model.New -/
def F16 (x_0 : Int) (v_1 : AV) (v_2 : AV) (m : Mem) (k : AV → Int → Mem → Prop) : Prop :=
  kif (decide (x_0 < 1)) (k (.flat (.pointer none)) 1 m) (kif (decide (x_0 > 64)) (k (.flat (.pointer none)) 1 m) (klen v_1 fun x1 => kif (decide (x1 > (IntKind.wrap .i64 (x_0 * 1024)))) (k (.flat (.pointer none)) 1 m) (klen v_2 fun x2 => kif (decide (x2 > 4096)) (k (.flat (.pointer none)) 1 m) (F24  m fun c3 m4 => F25 x_0 v_1 v_2 m4 fun v5 m6 => kif (AV.one v5) (newK m6 ⟨74, (upd (splice (Z74) 0 73 c3) 73 v5), 68, false⟩ fun b8 m7 => k (.ptr b8 0) 0 m7) False))))

def G16 (args : List AV) (m : Mem) (k : KV) : Prop := match args with
  | [a0, a1, a2] => kI .i64 a0 fun x_0 => F16 x_0 a1 a2 m (fun v_1000 x_1001 m' => k (.tup [v_1000, (.flat (.int .i64 x_1001))]) m')
  | _ => False

def Lam16 : LEnv := ⟨fun a σ m k => match firstReg a with
  | _ => bump False,
  fun id => match id with
  | _ => bump false,
  fun b => match keyC b with
  | _ => bump false,
  fun b σ m k => match keyC b with
  | _ => bump False⟩

theorem eqn16 (x_0 : Int) (v_1 : AV) (v_2 : AV) (m : Mem) (k : KV) : bodyK Try.prog E16 Lam16 Try.f16 false [(.flat (.int .i64 x_0)), v_1, v_2] m k = F16 x_0 v_1 v_2 m (fun v_1000 x_1001 m' => k (.tup [v_1000, (.flat (.int .i64 x_1001))]) m') := by
  kernel_rfl

theorem fs16 (w0 : World) : FS Try.prog w0 16 G16 := by
  refine (fs_body (Γ := E16) (sound_env (l := [(24, G24), (25, G25)]) w0 (by
    intro p hp
    simp only [List.mem_cons, List.not_mem_nil, or_false] at hp
    rcases hp with rfl | rfl
    · exact fs24 w0
    · exact fs25 w0)) (by kernel_rfl) Try.func16 (Λ := Lam16) (c := (bodyOf Try.f16)) (by kernel_rfl) Try.call16 (by kernel_rfl) (LS_of (bodyOf Try.f16) 0 (by kernel_rfl) (fun i hi => absurd hi (Nat.not_lt_zero i)) 0 (by kernel_rfl) (fun i hi => absurd hi (Nat.not_lt_zero i))) false (np := 3) (Nat.le_of_ble_eq_true (by kernel_rfl))).imp fun args => ?_
  by_cases hl : args.length = 3
  rotate_left
  · exact .inr fun m k hk => by
      unfold G16 at hk
      split at hk
      · exact hl rfl
      · exact hk
  obtain ⟨a0, a1, a2, rfl⟩ : ∃ a0 a1 a2, args = [a0, a1, a2] := len_list3 hl
  rcases kI_or .i64 a0 with ⟨x_0, rfl⟩ | h
  rotate_left
  · exact .inr fun m k hk => h _ (by simpa only [G16, kI, kbool, kS, kptr, kaggN, kite, decide_true, eq_self] using hk)
  exact .inl fun m k => propext ⟨fun h => ⟨rfl, by rw [eqn16]; simpa only [G16, kI, kbool, kS, kptr, kaggN, kite, decide_true, eq_self] using h⟩, fun h => by have h := h.2; rw [eqn16] at h; simpa only [G16, kI, kbool, kS, kptr, kaggN, kite, decide_true, eq_self] using h⟩

def E17 : Env := envOf []

/-- (*pianola/model.Machine).State -/
def F17 (b_0 o_0 : Nat) (m : Mem) (k : (Nat → AV) → Mem → Prop) : Prop :=
  newK m ⟨73, Z73, 33, false⟩ fun b2 m1 => ldG 73 m1 b_0 (o_0 + 0) fun c3 => stG 73 m1 b2 0 c3 fun m4 => ldG 73 m4 b2 0 fun c5 => (Keeps m m4 ∧ InDomG 73 m c5 ∧ k c5 m)

def G17 (args : List AV) (m : Mem) (k : KV) : Prop := match args with
  | [a0] => kptr a0 fun b_0 o_0 => F17 b_0 o_0 m (fun c_1000 m' => k (.agg 73 c_1000) m')
  | _ => False

def Lam17 : LEnv := ⟨fun a σ m k => match firstReg a with
  | _ => bump False,
  fun id => match id with
  | _ => bump false,
  fun b => match keyC b with
  | _ => bump false,
  fun b σ m k => match keyC b with
  | _ => bump False⟩

theorem eqn17 (b_0 o_0 : Nat) (m : Mem) (k : KV) : bodyK Try.prog E17 Lam17 Try.f17 true [(.ptr b_0 o_0)] m k = F17 b_0 o_0 m (fun c_1000 m' => k (.agg 73 c_1000) m') := by
  kernel_rfl

theorem fs17 (w0 : World) : FS Try.prog w0 17 G17 := by
  refine (fs_body (Γ := E17) (sound_env (l := []) w0 (by
    intro p hp
    cases hp)) (by kernel_rfl) Try.func17 (Λ := Lam17) (c := (bodyOf Try.f17)) (by kernel_rfl) Try.call17 (by kernel_rfl) (LS_of (bodyOf Try.f17) 0 (by kernel_rfl) (fun i hi => absurd hi (Nat.not_lt_zero i)) 0 (by kernel_rfl) (fun i hi => absurd hi (Nat.not_lt_zero i))) true (np := 1) (Nat.le_of_ble_eq_true (by kernel_rfl))).imp fun args => ?_
  by_cases hl : args.length = 1
  rotate_left
  · exact .inr fun m k hk => by
      unfold G17 at hk
      split at hk
      · exact hl rfl
      · exact hk
  obtain ⟨a0, rfl⟩ : ∃ a0, args = [a0] := len_list1 hl
  rcases kptr_or a0 with ⟨b_0, o_0, rfl⟩ | h
  rotate_left
  · exact .inr fun m k hk => h _ (by simpa only [G17, kI, kbool, kS, kptr, kaggN, kite, decide_true, eq_self] using hk)
  exact .inl fun m k => propext ⟨fun h => ⟨rfl, by rw [eqn17]; simpa only [G17, kI, kbool, kS, kptr, kaggN, kite, decide_true, eq_self] using h⟩, fun h => by have h := h.2; rw [eqn17] at h; simpa only [G17, kI, kbool, kS, kptr, kaggN, kite, decide_true, eq_self] using h⟩

def E18 : Env := envOf []

/-- (*pianola/model.Machine).Bus -/
def F18 (b_0 o_0 : Nat) (m : Mem) (k : AV → Mem → Prop) : Prop :=
  ldA m b_0 (o_0 + 73) fun v1 => k v1 m

def G18 (args : List AV) (m : Mem) (k : KV) : Prop := match args with
  | [a0] => kptr a0 fun b_0 o_0 => F18 b_0 o_0 m (fun v_1000 m' => k v_1000 m')
  | _ => False

def Lam18 : LEnv := ⟨fun a σ m k => match firstReg a with
  | _ => bump False,
  fun id => match id with
  | _ => bump false,
  fun b => match keyC b with
  | _ => bump false,
  fun b σ m k => match keyC b with
  | _ => bump False⟩

theorem eqn18 (b_0 o_0 : Nat) (m : Mem) (k : KV) : bodyK Try.prog E18 Lam18 Try.f18 false [(.ptr b_0 o_0)] m k = F18 b_0 o_0 m (fun v_1000 m' => k v_1000 m') := by
  kernel_rfl

theorem fs18 (w0 : World) : FS Try.prog w0 18 G18 := by
  refine (fs_body (Γ := E18) (sound_env (l := []) w0 (by
    intro p hp
    cases hp)) (by kernel_rfl) Try.func18 (Λ := Lam18) (c := (bodyOf Try.f18)) (by kernel_rfl) Try.call18 (by kernel_rfl) (LS_of (bodyOf Try.f18) 0 (by kernel_rfl) (fun i hi => absurd hi (Nat.not_lt_zero i)) 0 (by kernel_rfl) (fun i hi => absurd hi (Nat.not_lt_zero i))) false (np := 1) (Nat.le_of_ble_eq_true (by kernel_rfl))).imp fun args => ?_
  by_cases hl : args.length = 1
  rotate_left
  · exact .inr fun m k hk => by
      unfold G18 at hk
      split at hk
      · exact hl rfl
      · exact hk
  obtain ⟨a0, rfl⟩ : ∃ a0, args = [a0] := len_list1 hl
  rcases kptr_or a0 with ⟨b_0, o_0, rfl⟩ | h
  rotate_left
  · exact .inr fun m k hk => h _ (by simpa only [G18, kI, kbool, kS, kptr, kaggN, kite, decide_true, eq_self] using hk)
  exact .inl fun m k => propext ⟨fun h => ⟨rfl, by rw [eqn18]; simpa only [G18, kI, kbool, kS, kptr, kaggN, kite, decide_true, eq_self] using h⟩, fun h => by have h := h.2; rw [eqn18] at h; simpa only [G18, kI, kbool, kS, kptr, kaggN, kite, decide_true, eq_self] using h⟩

def E19 : Env := envOf []

/-- pianola/cache.New -/
def F19 (x_0 : Int) (m : Mem) (k : AV → Mem → Prop) : Prop :=
  mapNew m fun b1 m2 => newK m2 ⟨3, (upd (upd (lget [(.flat (.int .i64 0)), (.flat (.slice none 0 0)), (.flat (.map none))]) 0 (.flat (.int .i64 (if (if 256 < x_0 then 256 else x_0) > 1 then (if 256 < x_0 then 256 else x_0) else 1)))) 2 (.mp b1)), 72, false⟩ fun b4 m3 => k (.ptr b4 0) m3

def G19 (args : List AV) (m : Mem) (k : KV) : Prop := match args with
  | [a0] => kI .i64 a0 fun x_0 => F19 x_0 m (fun v_1000 m' => k v_1000 m')
  | _ => False

def Lam19 : LEnv := ⟨fun a σ m k => match firstReg a with
  | _ => bump False,
  fun id => match id with
  | _ => bump false,
  fun b => match keyC b with
  | _ => bump false,
  fun b σ m k => match keyC b with
  | _ => bump False⟩

theorem eqn19 (x_0 : Int) (m : Mem) (k : KV) : bodyK Try.prog E19 Lam19 Try.f19 false [(.flat (.int .i64 x_0))] m k = F19 x_0 m (fun v_1000 m' => k v_1000 m') := by
  kernel_rfl

theorem fs19 (w0 : World) : FS Try.prog w0 19 G19 := by
  refine (fs_body (Γ := E19) (sound_env (l := []) w0 (by
    intro p hp
    cases hp)) (by kernel_rfl) Try.func19 (Λ := Lam19) (c := (bodyOf Try.f19)) (by kernel_rfl) Try.call19 (by kernel_rfl) (LS_of (bodyOf Try.f19) 0 (by kernel_rfl) (fun i hi => absurd hi (Nat.not_lt_zero i)) 0 (by kernel_rfl) (fun i hi => absurd hi (Nat.not_lt_zero i))) false (np := 1) (Nat.le_of_ble_eq_true (by kernel_rfl))).imp fun args => ?_
  by_cases hl : args.length = 1
  rotate_left
  · exact .inr fun m k hk => by
      unfold G19 at hk
      split at hk
      · exact hl rfl
      · exact hk
  obtain ⟨a0, rfl⟩ : ∃ a0, args = [a0] := len_list1 hl
  rcases kI_or .i64 a0 with ⟨x_0, rfl⟩ | h
  rotate_left
  · exact .inr fun m k hk => h _ (by simpa only [G19, kI, kbool, kS, kptr, kaggN, kite, decide_true, eq_self] using hk)
  exact .inl fun m k => propext ⟨fun h => ⟨rfl, by rw [eqn19]; simpa only [G19, kI, kbool, kS, kptr, kaggN, kite, decide_true, eq_self] using h⟩, fun h => by have h := h.2; rw [eqn19] at h; simpa only [G19, kI, kbool, kS, kptr, kaggN, kite, decide_true, eq_self] using h⟩

def E6 : Env := envOf [(16, G16), (17, G17), (18, G18), (19, G19)]

/-- pianola/engine.New -/
def F6 (x_0 : Int) (v_1 : AV) (v_2 : AV) (x_3 : Int) (m : Mem) (k : AV → Int → Mem → Prop) : Prop :=
  F16 x_0 v_1 v_2 m fun v1 x2 m3 => kif (x2 != 0) (k (.flat (.pointer none)) x2 m3) (kptr v1 fun b4 o5 => F17 b4 o5 m3 fun c6 m7 => kptr v1 fun b8 o9 => F18 b8 o9 m7 fun v10 m11 => F19 x_3 m11 fun v12 m13 => kif (AV.one v10) (kif (AV.one v12) (newK m13 ⟨78, (upd (upd (upd (splice (Z78) 0 73 c6) 73 v10) 74 v12) 75 (.flat (.int .i64 32))), 58, false⟩ fun b15 m14 => k (.ptr b15 0) 0 m14) False) False)

def G6 (args : List AV) (m : Mem) (k : KV) : Prop := match args with
  | [a0, a1, a2, a3] => kI .i64 a0 fun x_0 => kI .i64 a3 fun x_3 => F6 x_0 a1 a2 x_3 m (fun v_1000 x_1001 m' => k (.tup [v_1000, (.flat (.int .i64 x_1001))]) m')
  | _ => False

def Lam6 : LEnv := ⟨fun a σ m k => match firstReg a with
  | _ => bump False,
  fun id => match id with
  | _ => bump false,
  fun b => match keyC b with
  | _ => bump false,
  fun b σ m k => match keyC b with
  | _ => bump False⟩

theorem eqn6 (x_0 : Int) (v_1 : AV) (v_2 : AV) (x_3 : Int) (m : Mem) (k : KV) : bodyK Try.prog E6 Lam6 Try.f6 false [(.flat (.int .i64 x_0)), v_1, v_2, (.flat (.int .i64 x_3))] m k = F6 x_0 v_1 v_2 x_3 m (fun v_1000 x_1001 m' => k (.tup [v_1000, (.flat (.int .i64 x_1001))]) m') := by
  kernel_rfl

theorem fs6 (w0 : World) : FS Try.prog w0 6 G6 := by
  refine (fs_body (Γ := E6) (sound_env (l := [(16, G16), (17, G17), (18, G18), (19, G19)]) w0 (by
    intro p hp
    simp only [List.mem_cons, List.not_mem_nil, or_false] at hp
    rcases hp with rfl | rfl | rfl | rfl
    · exact fs16 w0
    · exact fs17 w0
    · exact fs18 w0
    · exact fs19 w0)) (by kernel_rfl) Try.func6 (Λ := Lam6) (c := (bodyOf Try.f6)) (by kernel_rfl) Try.call6 (by kernel_rfl) (LS_of (bodyOf Try.f6) 0 (by kernel_rfl) (fun i hi => absurd hi (Nat.not_lt_zero i)) 0 (by kernel_rfl) (fun i hi => absurd hi (Nat.not_lt_zero i))) false (np := 4) (Nat.le_of_ble_eq_true (by kernel_rfl))).imp fun args => ?_
  by_cases hl : args.length = 4
  rotate_left
  · exact .inr fun m k hk => by
      unfold G6 at hk
      split at hk
      · exact hl rfl
      · exact hk
  obtain ⟨a0, a1, a2, a3, rfl⟩ : ∃ a0 a1 a2 a3, args = [a0, a1, a2, a3] := len_list4 hl
  rcases kI_or .i64 a0 with ⟨x_0, rfl⟩ | h
  rotate_left
  · exact .inr fun m k hk => h _ (by simpa only [G6, kI, kbool, kS, kptr, kaggN, kite, decide_true, eq_self] using hk)
  rcases kI_or .i64 a3 with ⟨x_3, rfl⟩ | h
  rotate_left
  · exact .inr fun m k hk => h _ (by simpa only [G6, kI, kbool, kS, kptr, kaggN, kite, decide_true, eq_self] using hk)
  exact .inl fun m k => propext ⟨fun h => ⟨rfl, by rw [eqn6]; simpa only [G6, kI, kbool, kS, kptr, kaggN, kite, decide_true, eq_self] using h⟩, fun h => by have h := h.2; rw [eqn6] at h; simpa only [G6, kI, kbool, kS, kptr, kaggN, kite, decide_true, eq_self] using h⟩

def E7 : Env := envOf []

/-- (*pianola/engine.Machine).State -/
def F7 (b_0 o_0 : Nat) (m : Mem) (k : (Nat → AV) → Mem → Prop) : Prop :=
  newK m ⟨73, Z73, 33, false⟩ fun b2 m1 => ldG 73 m1 b_0 (o_0 + 0) fun c3 => stG 73 m1 b2 0 c3 fun m4 => ldG 73 m4 b2 0 fun c5 => (Keeps m m4 ∧ InDomG 73 m c5 ∧ k c5 m)

def G7 (args : List AV) (m : Mem) (k : KV) : Prop := match args with
  | [a0] => kptr a0 fun b_0 o_0 => F7 b_0 o_0 m (fun c_1000 m' => k (.agg 73 c_1000) m')
  | _ => False

def Lam7 : LEnv := ⟨fun a σ m k => match firstReg a with
  | _ => bump False,
  fun id => match id with
  | _ => bump false,
  fun b => match keyC b with
  | _ => bump false,
  fun b σ m k => match keyC b with
  | _ => bump False⟩

theorem eqn7 (b_0 o_0 : Nat) (m : Mem) (k : KV) : bodyK Try.prog E7 Lam7 Try.f7 true [(.ptr b_0 o_0)] m k = F7 b_0 o_0 m (fun c_1000 m' => k (.agg 73 c_1000) m') := by
  kernel_rfl

theorem fs7 (w0 : World) : FS Try.prog w0 7 G7 := by
  refine (fs_body (Γ := E7) (sound_env (l := []) w0 (by
    intro p hp
    cases hp)) (by kernel_rfl) Try.func7 (Λ := Lam7) (c := (bodyOf Try.f7)) (by kernel_rfl) Try.call7 (by kernel_rfl) (LS_of (bodyOf Try.f7) 0 (by kernel_rfl) (fun i hi => absurd hi (Nat.not_lt_zero i)) 0 (by kernel_rfl) (fun i hi => absurd hi (Nat.not_lt_zero i))) true (np := 1) (Nat.le_of_ble_eq_true (by kernel_rfl))).imp fun args => ?_
  by_cases hl : args.length = 1
  rotate_left
  · exact .inr fun m k hk => by
      unfold G7 at hk
      split at hk
      · exact hl rfl
      · exact hk
  obtain ⟨a0, rfl⟩ : ∃ a0, args = [a0] := len_list1 hl
  rcases kptr_or a0 with ⟨b_0, o_0, rfl⟩ | h
  rotate_left
  · exact .inr fun m k hk => h _ (by simpa only [G7, kI, kbool, kS, kptr, kaggN, kite, decide_true, eq_self] using hk)
  exact .inl fun m k => propext ⟨fun h => ⟨rfl, by rw [eqn7]; simpa only [G7, kI, kbool, kS, kptr, kaggN, kite, decide_true, eq_self] using h⟩, fun h => by have h := h.2; rw [eqn7] at h; simpa only [G7, kI, kbool, kS, kptr, kaggN, kite, decide_true, eq_self] using h⟩

def E26 : Env := envOf []

def P26_10004 (b_0 o_0 : Nat) (x_1 : Int) (x_2 : Int) (x_8 : Int) (x_36 : Bool) (m : Mem) (kn : Mem → Prop) : Prop :=
  kif x_36 (kif (decide (0 ≤ x_1) && decide (x_1 < 16)) (stC m b_0 (o_0 + 39 + (x_1).toNat * 1) (.flat (.int .u32 x_2)) fun m4 => kn  m4) False) (kif (x_8 == 11) (kif (decide (0 ≤ x_1) && decide (x_1 < 16)) (stC m b_0 (o_0 + 39 + (x_1).toNat * 1) (.flat (.int .u32 x_2)) fun m5 => ldI .u32 m5 b_0 (o_0 + 39 + 13) fun x6 => stC m5 b_0 (o_0 + 39 + 13) (.flat (.int .u32 (bits .andNot .u32 x6 32768))) fun m7 => kn  m7) False) (kif (x_8 == 12) (kif (decide (0 ≤ x_1) && decide (x_1 < 16)) (stC m b_0 (o_0 + 39 + (x_1).toNat * 1) (.flat (.int .u32 (bits .and .u32 x_2 65299))) fun m8 => kn  m8) False) (kif (x_8 == 13) (kif (decide (0 ≤ x_1) && decide (x_1 < 16)) (ldI .u32 m b_0 (o_0 + 39 + (x_1).toNat * 1) fun x9 => kif (decide (0 ≤ x_1) && decide (x_1 < 16)) (stC m b_0 (o_0 + 39 + (x_1).toNat * 1) (.flat (.int .u32 (bits .or .u32 (bits .andNot .u32 x9 768) (bits .and .u32 x_2 768)))) fun m10 => kn  m10) False) False) (kn  m))))

/-- pianola/cp0.Write -/
def F26 (b_0 o_0 : Nat) (x_1 : Int) (x_2 : Int) (m : Mem) (k : Mem → Prop) : Prop :=
  kif (x_1 == 0) (kif (decide (0 ≤ x_1) && decide (x_1 < 16)) (stC m b_0 (o_0 + 39 + (x_1).toNat * 1) (.flat (.int .u32 (bits .and .u32 x_2 7))) fun m1 => k  m1) False) (kif (x_1 == 2) (kif (decide (0 ≤ x_1) && decide (x_1 < 16)) (stC m b_0 (o_0 + 39 + (x_1).toNat * 1) (.flat (.int .u32 (bits .and .u32 x_2 4294966279))) fun m2 => k  m2) False) (kif (x_1 == 10) (kif (decide (0 ≤ x_1) && decide (x_1 < 16)) (stC m b_0 (o_0 + 39 + (x_1).toNat * 1) (.flat (.int .u32 (bits .and .u32 x_2 4294966527))) fun m3 => k  m3) False) (kif (x_1 == 9) (P26_10004 b_0 o_0 x_1 x_2 x_1 (x_1 == 9) m (fun m11 => k  m11)) (P26_10004 b_0 o_0 x_1 x_2 x_1 (x_1 == 14) m (fun m12 => k  m12)))))

def G26 (args : List AV) (m : Mem) (k : KV) : Prop := match args with
  | [a0, a1, a2] => kptr a0 fun b_0 o_0 => kI .i64 a1 fun x_1 => kI .u32 a2 fun x_2 => F26 b_0 o_0 x_1 x_2 m (fun m' => k (.tup []) m')
  | _ => False

def LamP26_10004 (σ : Nat → AV) (m : Mem) (k : KX) : Prop := kptr (σ 0) fun b_0 o_0 => kI .i64 (σ 1) fun x_1 => kI .u32 (σ 2) fun x_2 => kI .i64 (σ 8) fun x_8 => kbool (σ 36) fun x_36 => P26_10004 b_0 o_0 x_1 x_2 x_8 x_36 m (fun m' => k .normal (only [] []) m')

def Lam26 : LEnv := ⟨fun a σ m k => match firstReg a with
  | _ => bump False,
  fun id => match id with
  | _ => bump false,
  fun b => match keyC b with
  | some 10004 => true
  | _ => bump false,
  fun b σ m k => match keyC b with
  | some 10004 => LamP26_10004 σ m k
  | _ => bump False⟩

def lxp26_10004 : Ex → List Nat := fun e => match e with
  | .normal => []
  | _ => []

theorem pc26_10004 (b_0 o_0 : Nat) (x_1 : Int) (x_2 : Int) (x_8 : Int) (x_36 : Bool) (m : Mem) (k : KX) : once Try.prog E26 Lam26 [0, 1, 2, 8, 36] lxp26_10004 (((secsOf (bodyOf Try.f26)).filter Lam26.cut).getD 0 .skip) [(.ptr b_0 o_0), (.flat (.int .i64 x_1)), (.flat (.int .u32 x_2)), (.flat (.int .i64 x_8)), (.flat (.bool x_36))] m k = P26_10004 b_0 o_0 x_1 x_2 x_8 x_36 m (fun m' => k .normal (only [] []) m') := by
  kernel_rfl

theorem pok26_10004 : PieceOK Try.prog E26 Lam26 (((secsOf (bodyOf Try.f26)).filter Lam26.cut).getD 0 .skip) := by
  refine ⟨fun σ => ∃ b_0 o_0 x_1 x_2 x_8 x_36, σ 0 = .ptr b_0 o_0 ∧ σ 1 = .flat (.int .i64 x_1) ∧ σ 2 = .flat (.int .u32 x_2) ∧ σ 8 = .flat (.int .i64 x_8) ∧ σ 36 = .flat (.bool x_36), [0, 1, 2, 8, 36], lxp26_10004, fun σ m k => ?_⟩
  have e : Lam26.piece (((secsOf (bodyOf Try.f26)).filter Lam26.cut).getD 0 .skip) σ m k = LamP26_10004 σ m k := by kernel_rfl
  rw [e]
  constructor
  · intro h
    unfold LamP26_10004 at h
    obtain ⟨b_0, o_0, h0, h⟩ := kptr_ok h
    obtain ⟨x_1, h1, h⟩ := kI_ok h
    obtain ⟨x_2, h2, h⟩ := kI_ok h
    obtain ⟨x_8, h3, h⟩ := kI_ok h
    obtain ⟨x_36, h4, h⟩ := kbool_ok h
    refine ⟨⟨b_0, o_0, x_1, x_2, x_8, x_36, h0, h1, h2, h3, h4⟩, ?_⟩
    have ev : [0, 1, 2, 8, 36].map σ = [(.ptr b_0 o_0), (.flat (.int .i64 x_1)), (.flat (.int .u32 x_2)), (.flat (.int .i64 x_8)), (.flat (.bool x_36))] := by simp only [List.map_cons, List.map_nil, h0, h1, h2, h3, h4]
    rw [ev, pc26_10004]
    exact h
  · rintro ⟨⟨b_0, o_0, x_1, x_2, x_8, x_36, h0, h1, h2, h3, h4⟩, h⟩
    have ev : [0, 1, 2, 8, 36].map σ = [(.ptr b_0 o_0), (.flat (.int .i64 x_1)), (.flat (.int .u32 x_2)), (.flat (.int .i64 x_8)), (.flat (.bool x_36))] := by simp only [List.map_cons, List.map_nil, h0, h1, h2, h3, h4]
    rw [ev, pc26_10004] at h
    unfold LamP26_10004
    try simp only [h0, h1, h2, h3, h4, kI, kbool, kS, kptr, kaggN, kite, decide_true, eq_self]
    exact h

theorem eqn26 (b_0 o_0 : Nat) (x_1 : Int) (x_2 : Int) (m : Mem) (k : KV) : bodyK Try.prog E26 Lam26 Try.f26 false [(.ptr b_0 o_0), (.flat (.int .i64 x_1)), (.flat (.int .u32 x_2))] m k = F26 b_0 o_0 x_1 x_2 m (fun m' => k (.tup []) m') := by
  kernel_rfl

theorem fs26 (w0 : World) : FS Try.prog w0 26 G26 := by
  refine (fs_body (Γ := E26) (sound_env (l := []) w0 (by
    intro p hp
    cases hp)) (by kernel_rfl) Try.func26 (Λ := Lam26) (c := (bodyOf Try.f26)) (by kernel_rfl) Try.call26 (by kernel_rfl) (LS_of (bodyOf Try.f26) 0 (by kernel_rfl) (fun i hi => absurd hi (Nat.not_lt_zero i)) 1 (by kernel_rfl) (by
    intro i hi
    match i, hi with
    | 0, _ => exact pok26_10004
    | i + 1, hi => omega)) false (np := 3) (Nat.le_of_ble_eq_true (by kernel_rfl))).imp fun args => ?_
  by_cases hl : args.length = 3
  rotate_left
  · exact .inr fun m k hk => by
      unfold G26 at hk
      split at hk
      · exact hl rfl
      · exact hk
  obtain ⟨a0, a1, a2, rfl⟩ : ∃ a0 a1 a2, args = [a0, a1, a2] := len_list3 hl
  rcases kptr_or a0 with ⟨b_0, o_0, rfl⟩ | h
  rotate_left
  · exact .inr fun m k hk => h _ (by simpa only [G26, kI, kbool, kS, kptr, kaggN, kite, decide_true, eq_self] using hk)
  rcases kI_or .i64 a1 with ⟨x_1, rfl⟩ | h
  rotate_left
  · exact .inr fun m k hk => h _ (by simpa only [G26, kI, kbool, kS, kptr, kaggN, kite, decide_true, eq_self] using hk)
  rcases kI_or .u32 a2 with ⟨x_2, rfl⟩ | h
  rotate_left
  · exact .inr fun m k hk => h _ (by simpa only [G26, kI, kbool, kS, kptr, kaggN, kite, decide_true, eq_self] using hk)
  exact .inl fun m k => propext ⟨fun h => ⟨rfl, by rw [eqn26]; simpa only [G26, kI, kbool, kS, kptr, kaggN, kite, decide_true, eq_self] using h⟩, fun h => by have h := h.2; rw [eqn26] at h; simpa only [G26, kI, kbool, kS, kptr, kaggN, kite, decide_true, eq_self] using h⟩

def E20 : Env := envOf [(24, G24), (26, G26)]

def P20_9102 (x_0 : Int) (x_1 : Int) (m : Mem) (kr : Bool → Mem → Prop) : Prop :=
  F24  m fun c1 m2 => newK m2 ⟨73, Z73, 33, false⟩ fun b4 m3 => stG 73 m3 b4 0 c1 fun m5 => F26 b4 0 x_0 x_1 m5 fun m6 => kif (decide (0 ≤ x_0) && decide (x_0 < 16)) (ldI .u32 m6 b4 (39 + (x_0).toNat * 1) fun x7 => kr (x7 == x_1) m6) False

/-- pianola/audit.right -/
def F20 (x_0 : Int) (x_1 : Int) (m : Mem) (k : Bool → Mem → Prop) : Prop :=
  kif (x_0 == 8) (k true m) (kif (x_0 == 13) (k ((bits .andNot .u32 x_1 2147518332) == 0) m) (kif (x_0 == 0) (kif (x_1 == 2147483648) (k true m) (P20_9102 x_0 x_1 m (fun x8 m9 => k x8 m9))) (P20_9102 x_0 x_1 m (fun x10 m11 => k x10 m11))))

def G20 (args : List AV) (m : Mem) (k : KV) : Prop := match args with
  | [a0, a1] => kI .i64 a0 fun x_0 => kI .u32 a1 fun x_1 => F20 x_0 x_1 m (fun x_1000 m' => k (.flat (.bool x_1000)) m')
  | _ => False

def LamP20_9102 (σ : Nat → AV) (m : Mem) (k : KX) : Prop := kI .i64 (σ 0) fun x_0 => kI .u32 (σ 1) fun x_1 => P20_9102 x_0 x_1 m (fun x_4' m' => k .ret (only [4] [(.flat (.bool x_4'))]) m')

def Lam20 : LEnv := ⟨fun a σ m k => match firstReg a with
  | _ => bump False,
  fun id => match id with
  | _ => bump false,
  fun b => match keyC b with
  | some 9102 => true
  | _ => bump false,
  fun b σ m k => match keyC b with
  | some 9102 => LamP20_9102 σ m k
  | _ => bump False⟩

def lxp20_9102 : Ex → List Nat := fun e => match e with
  | .ret => [4]
  | _ => []

theorem pc20_9102 (x_0 : Int) (x_1 : Int) (m : Mem) (k : KX) : once Try.prog E20 Lam20 [0, 1] lxp20_9102 (((secsOf (bodyOf Try.f20)).filter Lam20.cut).getD 0 .skip) [(.flat (.int .i64 x_0)), (.flat (.int .u32 x_1))] m k = P20_9102 x_0 x_1 m (fun x_4' m' => k .ret (only [4] [(.flat (.bool x_4'))]) m') := by
  kernel_rfl

theorem pok20_9102 : PieceOK Try.prog E20 Lam20 (((secsOf (bodyOf Try.f20)).filter Lam20.cut).getD 0 .skip) := by
  refine ⟨fun σ => ∃ x_0 x_1, σ 0 = .flat (.int .i64 x_0) ∧ σ 1 = .flat (.int .u32 x_1), [0, 1], lxp20_9102, fun σ m k => ?_⟩
  have e : Lam20.piece (((secsOf (bodyOf Try.f20)).filter Lam20.cut).getD 0 .skip) σ m k = LamP20_9102 σ m k := by kernel_rfl
  rw [e]
  constructor
  · intro h
    unfold LamP20_9102 at h
    obtain ⟨x_0, h0, h⟩ := kI_ok h
    obtain ⟨x_1, h1, h⟩ := kI_ok h
    refine ⟨⟨x_0, x_1, h0, h1⟩, ?_⟩
    have ev : [0, 1].map σ = [(.flat (.int .i64 x_0)), (.flat (.int .u32 x_1))] := by simp only [List.map_cons, List.map_nil, h0, h1]
    rw [ev, pc20_9102]
    exact h
  · rintro ⟨⟨x_0, x_1, h0, h1⟩, h⟩
    have ev : [0, 1].map σ = [(.flat (.int .i64 x_0)), (.flat (.int .u32 x_1))] := by simp only [List.map_cons, List.map_nil, h0, h1]
    rw [ev, pc20_9102] at h
    unfold LamP20_9102
    try simp only [h0, h1, kI, kbool, kS, kptr, kaggN, kite, decide_true, eq_self]
    exact h

theorem eqn20 (x_0 : Int) (x_1 : Int) (m : Mem) (k : KV) : bodyK Try.prog E20 Lam20 Try.f20 false [(.flat (.int .i64 x_0)), (.flat (.int .u32 x_1))] m k = F20 x_0 x_1 m (fun x_1000 m' => k (.flat (.bool x_1000)) m') := by
  kernel_rfl

theorem fs20 (w0 : World) : FS Try.prog w0 20 G20 := by
  refine (fs_body (Γ := E20) (sound_env (l := [(24, G24), (26, G26)]) w0 (by
    intro p hp
    simp only [List.mem_cons, List.not_mem_nil, or_false] at hp
    rcases hp with rfl | rfl
    · exact fs24 w0
    · exact fs26 w0)) (by kernel_rfl) Try.func20 (Λ := Lam20) (c := (bodyOf Try.f20)) (by kernel_rfl) Try.call20 (by kernel_rfl) (LS_of (bodyOf Try.f20) 0 (by kernel_rfl) (fun i hi => absurd hi (Nat.not_lt_zero i)) 1 (by kernel_rfl) (by
    intro i hi
    match i, hi with
    | 0, _ => exact pok20_9102
    | i + 1, hi => omega)) false (np := 2) (Nat.le_of_ble_eq_true (by kernel_rfl))).imp fun args => ?_
  by_cases hl : args.length = 2
  rotate_left
  · exact .inr fun m k hk => by
      unfold G20 at hk
      split at hk
      · exact hl rfl
      · exact hk
  obtain ⟨a0, a1, rfl⟩ : ∃ a0 a1, args = [a0, a1] := len_list2 hl
  rcases kI_or .i64 a0 with ⟨x_0, rfl⟩ | h
  rotate_left
  · exact .inr fun m k hk => h _ (by simpa only [G20, kI, kbool, kS, kptr, kaggN, kite, decide_true, eq_self] using hk)
  rcases kI_or .u32 a1 with ⟨x_1, rfl⟩ | h
  rotate_left
  · exact .inr fun m k hk => h _ (by simpa only [G20, kI, kbool, kS, kptr, kaggN, kite, decide_true, eq_self] using hk)
  exact .inl fun m k => propext ⟨fun h => ⟨rfl, by rw [eqn20]; simpa only [G20, kI, kbool, kS, kptr, kaggN, kite, decide_true, eq_self] using h⟩, fun h => by have h := h.2; rw [eqn20] at h; simpa only [G20, kI, kbool, kS, kptr, kaggN, kite, decide_true, eq_self] using h⟩

def E8 : Env := envOf [(20, G20)]

def R8_2 (b_1 o_1 : Nat) (c_6 : Nat → AV) (x_7 : Int) (m : Mem) (kn : Int → Mem → Prop) (k0 : Mem → Prop) (kr : Bool → Mem → Prop) : Prop :=
  kif (decide (x_7 < 16)) (kif (decide (0 ≤ x_7) && decide (x_7 < 16)) (kite ((x_7).toNat * 1 < 16) (kI .u32 (c_6 ((x_7).toNat * 1)) fun x4 => F20 x_7 x4 m fun x5 m6 => kif (!x5) (kr false m6) (kn (IntKind.wrap .i64 (x_7 + 1)) m6)) False) False) (k0  m)

def L8_2 (b_1 o_1 : Nat) (c_6 : Nat → AV) : Nat → Int → Mem → (Mem → Prop) → (Bool → Mem → Prop) → Prop
  | 0, _,  _, _, _ => bump False
  | N + 1, x_7,  m, k0, kr => R8_2 b_1 o_1 c_6 x_7 m (fun x_7' m' => L8_2 b_1 o_1 c_6 N x_7' m' k0 kr) k0 kr

/-- pianola/audit.State -/
def F8 (c_0 : Nat → AV) (m : Mem) (k : Bool → Mem → Prop) : Prop :=
  newK m ⟨73, c_0, 33, false⟩ fun b2 m1 => ldG 16 m1 b2 39 fun c3 => ∃ N10, L8_2 b2 0 c3 N10 0 m1 (fun m7 => ldI .u32 m7 b2 0 fun x11 => kif (x11 == 0) (ldI .i64 m7 b2 72 fun x12 => kif (decide (x12 ≥ 0)) (ldI .i64 m7 b2 72 fun x13 => k (decide (x13 ≤ 2199023255552)) m7) (k false m7)) (k false m7)) (fun x8 m9 => k x8 m9)

def G8 (args : List AV) (m : Mem) (k : KV) : Prop := match args with
  | [a0] => kaggN 73 a0 fun c_0 => F8 c_0 m (fun x_1000 m' => k (.flat (.bool x_1000)) m')
  | _ => False

def Lam8_2 (σ : Nat → AV) (m : Mem) (k : KX) : Prop := kptr (σ 1) fun b_1 o_1 => kaggN 16 (σ 6) fun c_6 => kI .i64 (σ 7) fun x_7 => ∃ N, L8_2 b_1 o_1 c_6 N x_7 m (fun m' => k (.exit 0) (only [1] [(.ptr b_1 o_1)]) m') (fun x_2' m' => k .ret (only [2] [(.flat (.bool x_2'))]) m')

def Lam8 : LEnv := ⟨fun a σ m k => match firstReg a with
  | some 2 => Lam8_2 σ m k
  | _ => bump False,
  fun id => match id with
  | _ => bump false,
  fun b => match keyC b with
  | _ => bump false,
  fun b σ m k => match keyC b with
  | _ => bump False⟩

def lx8_2 : Ex → List Nat := fun e => match e with
  | .exit 0 => [1]
  | .ret => [2]
  | _ => []

theorem round8_2 (b_1 o_1 : Nat) (c_6 : Nat → AV) (x_7 : Int) (m : Mem) (G : List AV → Mem → Prop) (k : KX) : (wpA Try.prog E8 Lam8 ((loopsOf (bodyOf Try.f8)).getD 0 .skip) (only [1, 6, 7] [(.ptr b_1 o_1), (.agg 16 c_6), (.flat (.int .i64 x_7))]) m fun e σ' m' => match e with
    | .normal => G ([1, 6, 7].map σ') m'
    | .exit id => k (.exit id) (only (lx8_2 (.exit id)) ((lx8_2 (.exit id)).map σ')) m'
    | .ret => k .ret (only (lx8_2 .ret) ((lx8_2 .ret).map σ')) m') = R8_2 b_1 o_1 c_6 x_7 m (fun x_7' m' => G [(.ptr b_1 o_1), (.agg 16 c_6), (.flat (.int .i64 x_7'))] m') (fun m' => k (.exit 0) (only [1] [(.ptr b_1 o_1)]) m') (fun x_2' m' => k .ret (only [2] [(.flat (.bool x_2'))]) m') := by
  kernel_rfl

theorem loop8_2 (b_1 o_1 : Nat) (c_6 : Nat → AV) (k : KX) : ∀ (N : Nat) (x_7 : Int) (m : Mem), rounds Try.prog E8 Lam8 [1, 6, 7] lx8_2 ((loopsOf (bodyOf Try.f8)).getD 0 .skip) N [(.ptr b_1 o_1), (.agg 16 c_6), (.flat (.int .i64 x_7))] m k = L8_2 b_1 o_1 c_6 N x_7 m (fun m' => k (.exit 0) (only [1] [(.ptr b_1 o_1)]) m') (fun x_2' m' => k .ret (only [2] [(.flat (.bool x_2'))]) m') := by
  intro N
  induction N with
  | zero => intros; rfl
  | succ N ih =>
    intro x_7 m
    refine (round8_2 b_1 o_1 c_6 x_7 m (fun vs m' => rounds Try.prog E8 Lam8 [1, 6, 7] lx8_2 ((loopsOf (bodyOf Try.f8)).getD 0 .skip) N vs m' k) k).trans ?_
    simp only [ih]
    rfl

theorem lok8_2 : LoopOK Try.prog E8 Lam8 ((loopsOf (bodyOf Try.f8)).getD 0 .skip) := by
  refine ⟨fun σ => ∃ b_1 o_1 c_6 x_7, σ 1 = .ptr b_1 o_1 ∧ σ 6 = .agg 16 c_6 ∧ σ 7 = .flat (.int .i64 x_7), [1, 6, 7], lx8_2, fun σ m k => ?_⟩
  have e : Lam8.loop ((loopsOf (bodyOf Try.f8)).getD 0 .skip) σ m k = Lam8_2 σ m k := by kernel_rfl
  rw [e]
  constructor
  · intro h
    unfold Lam8_2 at h
    obtain ⟨b_1, o_1, h0, h⟩ := kptr_ok h
    obtain ⟨c_6, h1, h⟩ := kaggN_ok h
    obtain ⟨x_7, h2, h⟩ := kI_ok h
    obtain ⟨N, h⟩ := h
    refine ⟨⟨b_1, o_1, c_6, x_7, h0, h1, h2⟩, N, ?_⟩
    have ev : [1, 6, 7].map σ = [(.ptr b_1 o_1), (.agg 16 c_6), (.flat (.int .i64 x_7))] := by simp only [List.map_cons, List.map_nil, h0, h1, h2]
    rw [ev, loop8_2]
    exact h
  · rintro ⟨⟨b_1, o_1, c_6, x_7, h0, h1, h2⟩, N, h⟩
    have ev : [1, 6, 7].map σ = [(.ptr b_1 o_1), (.agg 16 c_6), (.flat (.int .i64 x_7))] := by simp only [List.map_cons, List.map_nil, h0, h1, h2]
    rw [ev, loop8_2] at h
    unfold Lam8_2
    try simp only [h0, h1, h2, kI, kbool, kS, kptr, kaggN, kite, decide_true, eq_self]
    exact ⟨N, h⟩

theorem eqn8 (c_0 : Nat → AV) (m : Mem) (k : KV) : bodyK Try.prog E8 Lam8 Try.f8 false [(.agg 73 c_0)] m k = F8 c_0 m (fun x_1000 m' => k (.flat (.bool x_1000)) m') := by
  kernel_rfl

theorem fs8 (w0 : World) : FS Try.prog w0 8 G8 := by
  refine (fs_body (Γ := E8) (sound_env (l := [(20, G20)]) w0 (by
    intro p hp
    simp only [List.mem_cons, List.not_mem_nil, or_false] at hp
    rcases hp with rfl
    · exact fs20 w0)) (by kernel_rfl) Try.func8 (Λ := Lam8) (c := (bodyOf Try.f8)) (by kernel_rfl) Try.call8 (by kernel_rfl) (LS_of (bodyOf Try.f8) 1 (by kernel_rfl) (by
    intro i hi
    match i, hi with
    | 0, _ => exact lok8_2
    | i + 1, hi => omega) 0 (by kernel_rfl) (fun i hi => absurd hi (Nat.not_lt_zero i))) false (np := 1) (Nat.le_of_ble_eq_true (by kernel_rfl))).imp fun args => ?_
  by_cases hl : args.length = 1
  rotate_left
  · exact .inr fun m k hk => by
      unfold G8 at hk
      split at hk
      · exact hl rfl
      · exact hk
  obtain ⟨a0, rfl⟩ : ∃ a0, args = [a0] := len_list1 hl
  rcases kaggN_or 73 a0 with ⟨c_0, rfl⟩ | h
  rotate_left
  · exact .inr fun m k hk => h _ (by simpa only [G8, kI, kbool, kS, kptr, kaggN, kite, decide_true, eq_self] using hk)
  exact .inl fun m k => propext ⟨fun h => ⟨rfl, by rw [eqn8]; simpa only [G8, kI, kbool, kS, kptr, kaggN, kite, decide_true, eq_self] using h⟩, fun h => by have h := h.2; rw [eqn8] at h; simpa only [G8, kI, kbool, kS, kptr, kaggN, kite, decide_true, eq_self] using h⟩

def E9 : Env := envOf []

/-- pianola/audit.Same -/
def F9 (c_0 : Nat → AV) (c_1 : Nat → AV) (m : Mem) (k : Bool → Mem → Prop) : Prop :=
  newK m ⟨73, c_0, 33, false⟩ fun b2 m1 => newK m1 ⟨73, c_1, 33, false⟩ fun b4 m3 => ldG 73 m3 b2 0 fun c5 => ldG 73 m3 b4 0 fun c6 => geq K33 c5 c6 fun x7 => (Keeps m m3 ∧ k x7 m)

def G9 (args : List AV) (m : Mem) (k : KV) : Prop := match args with
  | [a0, a1] => kaggN 73 a0 fun c_0 => kaggN 73 a1 fun c_1 => F9 c_0 c_1 m (fun x_1000 m' => k (.flat (.bool x_1000)) m')
  | _ => False

def Lam9 : LEnv := ⟨fun a σ m k => match firstReg a with
  | _ => bump False,
  fun id => match id with
  | _ => bump false,
  fun b => match keyC b with
  | _ => bump false,
  fun b σ m k => match keyC b with
  | _ => bump False⟩

theorem eqn9 (c_0 : Nat → AV) (c_1 : Nat → AV) (m : Mem) (k : KV) : bodyK Try.prog E9 Lam9 Try.f9 true [(.agg 73 c_0), (.agg 73 c_1)] m k = F9 c_0 c_1 m (fun x_1000 m' => k (.flat (.bool x_1000)) m') := by
  kernel_rfl

theorem fs9 (w0 : World) : FS Try.prog w0 9 G9 := by
  refine (fs_body (Γ := E9) (sound_env (l := []) w0 (by
    intro p hp
    cases hp)) (by kernel_rfl) Try.func9 (Λ := Lam9) (c := (bodyOf Try.f9)) (by kernel_rfl) Try.call9 (by kernel_rfl) (LS_of (bodyOf Try.f9) 0 (by kernel_rfl) (fun i hi => absurd hi (Nat.not_lt_zero i)) 0 (by kernel_rfl) (fun i hi => absurd hi (Nat.not_lt_zero i))) true (np := 2) (Nat.le_of_ble_eq_true (by kernel_rfl))).imp fun args => ?_
  by_cases hl : args.length = 2
  rotate_left
  · exact .inr fun m k hk => by
      unfold G9 at hk
      split at hk
      · exact hl rfl
      · exact hk
  obtain ⟨a0, a1, rfl⟩ : ∃ a0 a1, args = [a0, a1] := len_list2 hl
  rcases kaggN_or 73 a0 with ⟨c_0, rfl⟩ | h
  rotate_left
  · exact .inr fun m k hk => h _ (by simpa only [G9, kI, kbool, kS, kptr, kaggN, kite, decide_true, eq_self] using hk)
  rcases kaggN_or 73 a1 with ⟨c_1, rfl⟩ | h
  rotate_left
  · exact .inr fun m k hk => h _ (by simpa only [G9, kI, kbool, kS, kptr, kaggN, kite, decide_true, eq_self] using hk)
  exact .inl fun m k => propext ⟨fun h => ⟨rfl, by rw [eqn9]; simpa only [G9, kI, kbool, kS, kptr, kaggN, kite, decide_true, eq_self] using h⟩, fun h => by have h := h.2; rw [eqn9] at h; simpa only [G9, kI, kbool, kS, kptr, kaggN, kite, decide_true, eq_self] using h⟩

def E10 : Env := envOf []

def R10_4 (v_0 : AV) (v_1 : AV) (x_5 : Int) (m : Mem) (kn : Int → Mem → Prop) (k0 : Mem → Prop) (kr : Bool → Mem → Prop) : Prop :=
  klen v_0 fun x3 => kif (decide (x_5 < x3)) (ksl v_0 fun b4 o5 l6 p7 => kif (decide (0 ≤ x_5) && decide (x_5 < l6)) (ldI .i64 m b4 (o5 + (x_5).toNat * 1) fun x8 => ksl v_1 fun b9 o10 l11 p12 => kif (decide (0 ≤ x_5) && decide (x_5 < l11)) (ldI .i64 m b9 (o10 + (x_5).toNat * 1) fun x13 => kif (x8 != x13) (kr false m) (kn (IntKind.wrap .i64 (x_5 + 1)) m)) False) False) (k0  m)

def L10_4 (v_0 : AV) (v_1 : AV) : Nat → Int → Mem → (Mem → Prop) → (Bool → Mem → Prop) → Prop
  | 0, _,  _, _, _ => bump False
  | N + 1, x_5,  m, k0, kr => R10_4 v_0 v_1 x_5 m (fun x_5' m' => L10_4 v_0 v_1 N x_5' m' k0 kr) k0 kr

/-- pianola/pianolabook.Same[int] -/
def F10 (v_0 : AV) (v_1 : AV) (m : Mem) (k : Bool → Mem → Prop) : Prop :=
  klen v_0 fun x1 => klen v_1 fun x2 => kif (x1 != x2) ((Keeps m m ∧ k false m)) (∃ N17, L10_4 v_0 v_1 N17 0 m (fun m14 => (Keeps m m14 ∧ k true m)) (fun x15 m16 => (Keeps m m16 ∧ k x15 m)))

def G10 (args : List AV) (m : Mem) (k : KV) : Prop := match args with
  | [a0, a1] => F10 a0 a1 m (fun x_1000 m' => k (.flat (.bool x_1000)) m')
  | _ => False

def Lam10_4 (σ : Nat → AV) (m : Mem) (k : KX) : Prop := kI .i64 (σ 5) fun x_5 => ∃ N, L10_4 (σ 0) (σ 1) N x_5 m (fun m' => k (.exit 0) (only [] []) m') (fun x_4' m' => k .ret (only [4] [(.flat (.bool x_4'))]) m')

def Lam10 : LEnv := ⟨fun a σ m k => match firstReg a with
  | some 4 => Lam10_4 σ m k
  | _ => bump False,
  fun id => match id with
  | _ => bump false,
  fun b => match keyC b with
  | _ => bump false,
  fun b σ m k => match keyC b with
  | _ => bump False⟩

def lx10_4 : Ex → List Nat := fun e => match e with
  | .exit 0 => []
  | .ret => [4]
  | _ => []

theorem round10_4 (v_0 : AV) (v_1 : AV) (x_5 : Int) (m : Mem) (G : List AV → Mem → Prop) (k : KX) : (wpA Try.prog E10 Lam10 ((loopsOf (bodyOf Try.f10)).getD 0 .skip) (only [0, 1, 5] [v_0, v_1, (.flat (.int .i64 x_5))]) m fun e σ' m' => match e with
    | .normal => G ([0, 1, 5].map σ') m'
    | .exit id => k (.exit id) (only (lx10_4 (.exit id)) ((lx10_4 (.exit id)).map σ')) m'
    | .ret => k .ret (only (lx10_4 .ret) ((lx10_4 .ret).map σ')) m') = R10_4 v_0 v_1 x_5 m (fun x_5' m' => G [v_0, v_1, (.flat (.int .i64 x_5'))] m') (fun m' => k (.exit 0) (only [] []) m') (fun x_4' m' => k .ret (only [4] [(.flat (.bool x_4'))]) m') := by
  kernel_rfl

theorem loop10_4 (v_0 : AV) (v_1 : AV) (k : KX) : ∀ (N : Nat) (x_5 : Int) (m : Mem), rounds Try.prog E10 Lam10 [0, 1, 5] lx10_4 ((loopsOf (bodyOf Try.f10)).getD 0 .skip) N [v_0, v_1, (.flat (.int .i64 x_5))] m k = L10_4 v_0 v_1 N x_5 m (fun m' => k (.exit 0) (only [] []) m') (fun x_4' m' => k .ret (only [4] [(.flat (.bool x_4'))]) m') := by
  intro N
  induction N with
  | zero => intros; rfl
  | succ N ih =>
    intro x_5 m
    refine (round10_4 v_0 v_1 x_5 m (fun vs m' => rounds Try.prog E10 Lam10 [0, 1, 5] lx10_4 ((loopsOf (bodyOf Try.f10)).getD 0 .skip) N vs m' k) k).trans ?_
    simp only [ih]
    rfl

theorem lok10_4 : LoopOK Try.prog E10 Lam10 ((loopsOf (bodyOf Try.f10)).getD 0 .skip) := by
  refine ⟨fun σ => ∃ v_0 v_1 x_5, σ 0 = v_0 ∧ σ 1 = v_1 ∧ σ 5 = .flat (.int .i64 x_5), [0, 1, 5], lx10_4, fun σ m k => ?_⟩
  have e : Lam10.loop ((loopsOf (bodyOf Try.f10)).getD 0 .skip) σ m k = Lam10_4 σ m k := by kernel_rfl
  rw [e]
  constructor
  · intro h
    unfold Lam10_4 at h
    obtain ⟨v_0, h0⟩ : ∃ v, σ 0 = v := ⟨_, rfl⟩
    obtain ⟨v_1, h1⟩ : ∃ v, σ 1 = v := ⟨_, rfl⟩
    obtain ⟨x_5, h2, h⟩ := kI_ok h
    obtain ⟨N, h⟩ := h
    refine ⟨⟨v_0, v_1, x_5, h0, h1, h2⟩, N, ?_⟩
    have ev : [0, 1, 5].map σ = [v_0, v_1, (.flat (.int .i64 x_5))] := by simp only [List.map_cons, List.map_nil, h0, h1, h2]
    rw [ev, loop10_4]
    simp only [h0, h1] at h
    exact h
  · rintro ⟨⟨v_0, v_1, x_5, h0, h1, h2⟩, N, h⟩
    have ev : [0, 1, 5].map σ = [v_0, v_1, (.flat (.int .i64 x_5))] := by simp only [List.map_cons, List.map_nil, h0, h1, h2]
    rw [ev, loop10_4] at h
    unfold Lam10_4
    try simp only [h0, h1, h2, kI, kbool, kS, kptr, kaggN, kite, decide_true, eq_self]
    exact ⟨N, h⟩

theorem eqn10 (v_0 : AV) (v_1 : AV) (m : Mem) (k : KV) : bodyK Try.prog E10 Lam10 Try.f10 true [v_0, v_1] m k = F10 v_0 v_1 m (fun x_1000 m' => k (.flat (.bool x_1000)) m') := by
  kernel_rfl

theorem fs10 (w0 : World) : FS Try.prog w0 10 G10 := by
  refine (fs_body (Γ := E10) (sound_env (l := []) w0 (by
    intro p hp
    cases hp)) (by kernel_rfl) Try.func10 (Λ := Lam10) (c := (bodyOf Try.f10)) (by kernel_rfl) Try.call10 (by kernel_rfl) (LS_of (bodyOf Try.f10) 1 (by kernel_rfl) (by
    intro i hi
    match i, hi with
    | 0, _ => exact lok10_4
    | i + 1, hi => omega) 0 (by kernel_rfl) (fun i hi => absurd hi (Nat.not_lt_zero i))) true (np := 2) (Nat.le_of_ble_eq_true (by kernel_rfl))).imp fun args => ?_
  by_cases hl : args.length = 2
  rotate_left
  · exact .inr fun m k hk => by
      unfold G10 at hk
      split at hk
      · exact hl rfl
      · exact hk
  obtain ⟨a0, a1, rfl⟩ : ∃ a0 a1, args = [a0, a1] := len_list2 hl

  exact .inl fun m k => propext ⟨fun h => ⟨rfl, by rw [eqn10]; simpa only [G10, kI, kbool, kS, kptr, kaggN, kite, decide_true, eq_self] using h⟩, fun h => by have h := h.2; rw [eqn10] at h; simpa only [G10, kI, kbool, kS, kptr, kaggN, kite, decide_true, eq_self] using h⟩

end Go.Proofs.Ytobdghdcmkdcaaa.Am
