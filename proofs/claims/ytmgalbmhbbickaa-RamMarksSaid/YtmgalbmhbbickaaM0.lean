/- What Go functions ask of what follows them, as plain functions over the abstract machine; the machine asks just that. Written by gen.py. -/
import Derived.Test.YtmgalbmhbbickaaProg
import Derived.Test.YtmgalbmhbbickaaAmL
namespace Go.Proofs.Ytmgalbmhbbickaa.Am
set_option linter.unusedVariables false
set_option linter.unusedSimpArgs false
set_option maxRecDepth 100000

def Z8 : Nat → AV := lget [(.flat (.bool false)), (.flat (.bool false)), (.flat (.bool false)), (.flat (.bool false)), (.flat (.bool false)), (.flat (.bool false)), (.flat (.bool false)), (.flat (.bool false))]

def Z6 : Nat → AV := lget [(.flat (.int .i64 0)), (.flat (.int .i64 0)), (.flat (.int .i64 0)), (.flat (.int .u32 0)), (.flat (.int .u32 0)), (.flat (.slice none 0 0))]

def Z6b : Nat → AV := lget [(.flat (.int .i64 0)), (.flat (.int .i64 0)), (.flat (.int .i64 0)), (.flat (.int .i64 0)), (.flat (.int .i64 0)), (.flat (.int .i64 0))]

/-- pianola/ram.New -/
def F7 (x_0 : Int) (m : Mem) (k : AV → Mem → Prop) : Prop :=
  mkS [(.flat (.int .u8 0))] 1 5 (IntKind.wrap .i64 ((if (if 64 < x_0 then 64 else x_0) > 1 then (if 64 < x_0 then 64 else x_0) else 1) * 1024)) (IntKind.wrap .i64 ((if (if 64 < x_0 then 64 else x_0) > 1 then (if 64 < x_0 then 64 else x_0) else 1) * 1024)) m fun b1 m2 => mkS [(.flat (.bool false))] 1 4 (if (if 64 < x_0 then 64 else x_0) > 1 then (if 64 < x_0 then 64 else x_0) else 1) (if (if 64 < x_0 then 64 else x_0) > 1 then (if 64 < x_0 then 64 else x_0) else 1) m2 fun b3 m4 => mkS [(.flat (.bool false))] 1 4 (if (if 64 < x_0 then 64 else x_0) > 1 then (if 64 < x_0 then 64 else x_0) else 1) (if (if 64 < x_0 then 64 else x_0) > 1 then (if 64 < x_0 then 64 else x_0) else 1) m4 fun b5 m6 => newK m6 ⟨3, (upd (upd (upd (lget [(.flat (.slice none 0 0)), (.flat (.slice none 0 0)), (.flat (.slice none 0 0))]) 0 (.sl b1 0 ((IntKind.wrap .i64 ((if (if 64 < x_0 then 64 else x_0) > 1 then (if 64 < x_0 then 64 else x_0) else 1) * 1024)).toNat) (.ex ((IntKind.wrap .i64 ((if (if 64 < x_0 then 64 else x_0) > 1 then (if 64 < x_0 then 64 else x_0) else 1) * 1024)).toNat)))) 1 (.sl b3 0 ((if (if 64 < x_0 then 64 else x_0) > 1 then (if 64 < x_0 then 64 else x_0) else 1).toNat) (.ex ((if (if 64 < x_0 then 64 else x_0) > 1 then (if 64 < x_0 then 64 else x_0) else 1).toNat)))) 2 (.sl b5 0 ((if (if 64 < x_0 then 64 else x_0) > 1 then (if 64 < x_0 then 64 else x_0) else 1).toNat) (.ex ((if (if 64 < x_0 then 64 else x_0) > 1 then (if 64 < x_0 then 64 else x_0) else 1).toNat)))), 52, false⟩ fun b8 m7 => k (.ptr b8 0) m7

def G7 (args : List AV) (m : Mem) (k : KV) : Prop := match args with
  | [a0] => kI .i64 a0 fun x_0 => F7 x_0 m (fun v_1000 m' => k v_1000 m')
  | _ => False

def E7 : Env := envOf []

def Lam7 : LEnv := ⟨fun a σ m k => match firstReg a with
  | _ => bump False,
  fun id => match id with
  | _ => bump false,
  fun b => match keyC b with
  | _ => bump false,
  fun b σ m k => match keyC b with
  | _ => bump False⟩

theorem eqn7 (x_0 : Int) (m : Mem) (k : KV) : bodyK Try.prog E7 Lam7 Try.f7 false [(.flat (.int .i64 x_0))] m k = F7 x_0 m (fun v_1000 m' => k v_1000 m') := by
  kernel_rfl

theorem fs7 (w0 : World) : FS Try.prog w0 7 G7 := by
  refine (fs_body (Γ := E7) (sound_env (l := []) w0 (by
    intro p hp
    cases hp)) (by kernel_rfl) Try.func7 (Λ := Lam7) (c := (bodyOf Try.f7)) (by kernel_rfl) Try.call7 (by kernel_rfl) (LS_of (bodyOf Try.f7) 0 (by kernel_rfl) (fun i hi => absurd hi (Nat.not_lt_zero i)) 0 (by kernel_rfl) (fun i hi => absurd hi (Nat.not_lt_zero i))) false (np := 1) (Nat.le_of_ble_eq_true (by kernel_rfl))).imp fun args => ?_
  by_cases hl : args.length = 1
  rotate_left
  · exact .inr fun m k hk => by
      unfold G7 at hk
      split at hk
      · exact hl rfl
      · exact hk
  obtain ⟨a0, rfl⟩ : ∃ a0, args = [a0] := len_list1 hl
  rcases kI_or .i64 a0 with ⟨x_0, rfl⟩ | h
  rotate_left
  · exact .inr fun m k hk => h _ (by simpa only [G7, kI, kbool, kS, kptr, kaggN, kite, decide_true, eq_self] using hk)
  exact .inl fun m k => propext ⟨fun h => ⟨rfl, by rw [eqn7]; simpa only [G7, kI, kbool, kS, kptr, kaggN, kite, decide_true, eq_self] using h⟩, fun h => by have h := h.2; rw [eqn7] at h; simpa only [G7, kI, kbool, kS, kptr, kaggN, kite, decide_true, eq_self] using h⟩

def P8_3102 (x_0 : Int) (x_1 : Int) (x_2 : Int) (m : Mem) (kr : Int → Mem → Prop) : Prop :=
  kif (decide (IntKind.wrap .i64 ((IntKind.wrap .i64 (x_2 - x_1)) + 1) = 0)) False (kif (decide ((x_0.tmod (IntKind.wrap .i64 ((IntKind.wrap .i64 (x_2 - x_1)) + 1))) < 0)) (kr (IntKind.wrap .i64 (x_1 + (IntKind.wrap .i64 ((IntKind.wrap .i64 ((IntKind.wrap .i64 ((x_0.tmod (IntKind.wrap .i64 ((IntKind.wrap .i64 (x_2 - x_1)) + 1))) + x_2)) - x_1)) + 1)))) m) (kr (IntKind.wrap .i64 (x_1 + (x_0.tmod (IntKind.wrap .i64 ((IntKind.wrap .i64 (x_2 - x_1)) + 1))))) m))

/-- pianola/pianolabook.Within -/
def F8 (x_0 : Int) (x_1 : Int) (x_2 : Int) (m : Mem) (k : Int → Mem → Prop) : Prop :=
  kif (decide (x_0 ≥ x_1)) (kif (decide (x_0 ≤ x_2)) ((Keeps m m ∧ k x_0 m)) (P8_3102 x_0 x_1 x_2 m (fun x1 m2 => (Keeps m m2 ∧ k x1 m)))) (P8_3102 x_0 x_1 x_2 m (fun x3 m4 => (Keeps m m4 ∧ k x3 m)))

def G8 (args : List AV) (m : Mem) (k : KV) : Prop := match args with
  | [a0, a1, a2] => kI .i64 a0 fun x_0 => kI .i64 a1 fun x_1 => kI .i64 a2 fun x_2 => F8 x_0 x_1 x_2 m (fun x_1000 m' => k (.flat (.int .i64 x_1000)) m')
  | _ => False

def E8 : Env := envOf []

def LamP8_3102 (σ : Nat → AV) (m : Mem) (k : KX) : Prop := kI .i64 (σ 0) fun x_0 => kI .i64 (σ 1) fun x_1 => kI .i64 (σ 2) fun x_2 => P8_3102 x_0 x_1 x_2 m (fun x_6' m' => k .ret (only [6] [(.flat (.int .i64 x_6'))]) m')

def Lam8 : LEnv := ⟨fun a σ m k => match firstReg a with
  | _ => bump False,
  fun id => match id with
  | _ => bump false,
  fun b => match keyC b with
  | some 3102 => true
  | _ => bump false,
  fun b σ m k => match keyC b with
  | some 3102 => LamP8_3102 σ m k
  | _ => bump False⟩

def lxp8_3102 : Ex → List Nat := fun e => match e with
  | .ret => [6]
  | _ => []

theorem pc8_3102 (x_0 : Int) (x_1 : Int) (x_2 : Int) (m : Mem) (k : KX) : once Try.prog E8 Lam8 [0, 1, 2] lxp8_3102 (((secsOf (bodyOf Try.f8)).filter Lam8.cut).getD 0 .skip) [(.flat (.int .i64 x_0)), (.flat (.int .i64 x_1)), (.flat (.int .i64 x_2))] m k = P8_3102 x_0 x_1 x_2 m (fun x_6' m' => k .ret (only [6] [(.flat (.int .i64 x_6'))]) m') := by
  kernel_rfl

theorem pok8_3102 : PieceOK Try.prog E8 Lam8 (((secsOf (bodyOf Try.f8)).filter Lam8.cut).getD 0 .skip) := by
  refine ⟨fun σ => ∃ x_0 x_1 x_2, σ 0 = .flat (.int .i64 x_0) ∧ σ 1 = .flat (.int .i64 x_1) ∧ σ 2 = .flat (.int .i64 x_2), [0, 1, 2], lxp8_3102, fun σ m k => ?_⟩
  have e : Lam8.piece (((secsOf (bodyOf Try.f8)).filter Lam8.cut).getD 0 .skip) σ m k = LamP8_3102 σ m k := by kernel_rfl
  rw [e]
  constructor
  · intro h
    unfold LamP8_3102 at h
    obtain ⟨x_0, h0, h⟩ := kI_ok h
    obtain ⟨x_1, h1, h⟩ := kI_ok h
    obtain ⟨x_2, h2, h⟩ := kI_ok h
    refine ⟨⟨x_0, x_1, x_2, h0, h1, h2⟩, ?_⟩
    have ev : [0, 1, 2].map σ = [(.flat (.int .i64 x_0)), (.flat (.int .i64 x_1)), (.flat (.int .i64 x_2))] := by simp only [List.map_cons, List.map_nil, h0, h1, h2]
    rw [ev, pc8_3102]
    exact h
  · rintro ⟨⟨x_0, x_1, x_2, h0, h1, h2⟩, h⟩
    have ev : [0, 1, 2].map σ = [(.flat (.int .i64 x_0)), (.flat (.int .i64 x_1)), (.flat (.int .i64 x_2))] := by simp only [List.map_cons, List.map_nil, h0, h1, h2]
    rw [ev, pc8_3102] at h
    unfold LamP8_3102
    try simp only [h0, h1, h2, kI, kbool, kS, kptr, kaggN, kite, decide_true, eq_self]
    exact h

theorem eqn8 (x_0 : Int) (x_1 : Int) (x_2 : Int) (m : Mem) (k : KV) : bodyK Try.prog E8 Lam8 Try.f8 true [(.flat (.int .i64 x_0)), (.flat (.int .i64 x_1)), (.flat (.int .i64 x_2))] m k = F8 x_0 x_1 x_2 m (fun x_1000 m' => k (.flat (.int .i64 x_1000)) m') := by
  kernel_rfl

theorem fs8 (w0 : World) : FS Try.prog w0 8 G8 := by
  refine (fs_body (Γ := E8) (sound_env (l := []) w0 (by
    intro p hp
    cases hp)) (by kernel_rfl) Try.func8 (Λ := Lam8) (c := (bodyOf Try.f8)) (by kernel_rfl) Try.call8 (by kernel_rfl) (LS_of (bodyOf Try.f8) 0 (by kernel_rfl) (fun i hi => absurd hi (Nat.not_lt_zero i)) 1 (by kernel_rfl) (by
    intro i hi
    match i, hi with
    | 0, _ => exact pok8_3102
    | i + 1, hi => omega)) true (np := 3) (Nat.le_of_ble_eq_true (by kernel_rfl))).imp fun args => ?_
  by_cases hl : args.length = 3
  rotate_left
  · exact .inr fun m k hk => by
      unfold G8 at hk
      split at hk
      · exact hl rfl
      · exact hk
  obtain ⟨a0, a1, a2, rfl⟩ : ∃ a0 a1 a2, args = [a0, a1, a2] := len_list3 hl
  rcases kI_or .i64 a0 with ⟨x_0, rfl⟩ | h
  rotate_left
  · exact .inr fun m k hk => h _ (by simpa only [G8, kI, kbool, kS, kptr, kaggN, kite, decide_true, eq_self] using hk)
  rcases kI_or .i64 a1 with ⟨x_1, rfl⟩ | h
  rotate_left
  · exact .inr fun m k hk => h _ (by simpa only [G8, kI, kbool, kS, kptr, kaggN, kite, decide_true, eq_self] using hk)
  rcases kI_or .i64 a2 with ⟨x_2, rfl⟩ | h
  rotate_left
  · exact .inr fun m k hk => h _ (by simpa only [G8, kI, kbool, kS, kptr, kaggN, kite, decide_true, eq_self] using hk)
  exact .inl fun m k => propext ⟨fun h => ⟨rfl, by rw [eqn8]; simpa only [G8, kI, kbool, kS, kptr, kaggN, kite, decide_true, eq_self] using h⟩, fun h => by have h := h.2; rw [eqn8] at h; simpa only [G8, kI, kbool, kS, kptr, kaggN, kite, decide_true, eq_self] using h⟩

/-- (*pianola/ram.Ram).page -/
def F20 (b_0 o_0 : Nat) (x_1 : Int) (m : Mem) (k : Bool → Mem → Prop) : Prop :=
  kif (decide (x_1 ≥ 0)) (ldA m b_0 (o_0 + 1) fun v1 => klen v1 fun x2 => (Keeps m m ∧ k (decide (x_1 < x2)) m)) ((Keeps m m ∧ k false m))

def G20 (args : List AV) (m : Mem) (k : KV) : Prop := match args with
  | [a0, a1] => kptr a0 fun b_0 o_0 => kI .i64 a1 fun x_1 => F20 b_0 o_0 x_1 m (fun x_1000 m' => k (.flat (.bool x_1000)) m')
  | _ => False

def E20 : Env := envOf []

def Lam20 : LEnv := ⟨fun a σ m k => match firstReg a with
  | _ => bump False,
  fun id => match id with
  | _ => bump false,
  fun b => match keyC b with
  | _ => bump false,
  fun b σ m k => match keyC b with
  | _ => bump False⟩

theorem eqn20 (b_0 o_0 : Nat) (x_1 : Int) (m : Mem) (k : KV) : bodyK Try.prog E20 Lam20 Try.f20 true [(.ptr b_0 o_0), (.flat (.int .i64 x_1))] m k = F20 b_0 o_0 x_1 m (fun x_1000 m' => k (.flat (.bool x_1000)) m') := by
  kernel_rfl

theorem fs20 (w0 : World) : FS Try.prog w0 20 G20 := by
  refine (fs_body (Γ := E20) (sound_env (l := []) w0 (by
    intro p hp
    cases hp)) (by kernel_rfl) Try.func20 (Λ := Lam20) (c := (bodyOf Try.f20)) (by kernel_rfl) Try.call20 (by kernel_rfl) (LS_of (bodyOf Try.f20) 0 (by kernel_rfl) (fun i hi => absurd hi (Nat.not_lt_zero i)) 0 (by kernel_rfl) (fun i hi => absurd hi (Nat.not_lt_zero i))) true (np := 2) (Nat.le_of_ble_eq_true (by kernel_rfl))).imp fun args => ?_
  by_cases hl : args.length = 2
  rotate_left
  · exact .inr fun m k hk => by
      unfold G20 at hk
      split at hk
      · exact hl rfl
      · exact hk
  obtain ⟨a0, a1, rfl⟩ : ∃ a0 a1, args = [a0, a1] := len_list2 hl
  rcases kptr_or a0 with ⟨b_0, o_0, rfl⟩ | h
  rotate_left
  · exact .inr fun m k hk => h _ (by simpa only [G20, kI, kbool, kS, kptr, kaggN, kite, decide_true, eq_self] using hk)
  rcases kI_or .i64 a1 with ⟨x_1, rfl⟩ | h
  rotate_left
  · exact .inr fun m k hk => h _ (by simpa only [G20, kI, kbool, kS, kptr, kaggN, kite, decide_true, eq_self] using hk)
  exact .inl fun m k => propext ⟨fun h => ⟨rfl, by rw [eqn20]; simpa only [G20, kI, kbool, kS, kptr, kaggN, kite, decide_true, eq_self] using h⟩, fun h => by have h := h.2; rw [eqn20] at h; simpa only [G20, kI, kbool, kS, kptr, kaggN, kite, decide_true, eq_self] using h⟩

/-- (*pianola/ram.Ram).Mark -/
def F9 (b_0 o_0 : Nat) (x_1 : Int) (m : Mem) (k : Mem → Prop) : Prop :=
  F20 b_0 o_0 x_1 m fun x1 m2 => kif x1 (ldA m2 b_0 (o_0 + 1) fun v3 => ksl v3 fun b4 o5 l6 p7 => kif (decide (0 ≤ x_1) && decide (x_1 < l6)) (stC m2 b4 (o5 + (x_1).toNat * 1) (.flat (.bool true)) fun m8 => k  m8) False) (k  m2)

def G9 (args : List AV) (m : Mem) (k : KV) : Prop := match args with
  | [a0, a1] => kptr a0 fun b_0 o_0 => kI .i64 a1 fun x_1 => F9 b_0 o_0 x_1 m (fun m' => k (.tup []) m')
  | _ => False

def E9 : Env := envOf [(20, G20)]

def Lam9 : LEnv := ⟨fun a σ m k => match firstReg a with
  | _ => bump False,
  fun id => match id with
  | _ => bump false,
  fun b => match keyC b with
  | _ => bump false,
  fun b σ m k => match keyC b with
  | _ => bump False⟩

theorem eqn9 (b_0 o_0 : Nat) (x_1 : Int) (m : Mem) (k : KV) : bodyK Try.prog E9 Lam9 Try.f9 false [(.ptr b_0 o_0), (.flat (.int .i64 x_1))] m k = F9 b_0 o_0 x_1 m (fun m' => k (.tup []) m') := by
  kernel_rfl

theorem fs9 (w0 : World) : FS Try.prog w0 9 G9 := by
  refine (fs_body (Γ := E9) (sound_env (l := [(20, G20)]) w0 (by
    intro p hp
    simp only [List.mem_cons, List.not_mem_nil, or_false] at hp
    rcases hp with rfl
    · exact fs20 w0)) (by kernel_rfl) Try.func9 (Λ := Lam9) (c := (bodyOf Try.f9)) (by kernel_rfl) Try.call9 (by kernel_rfl) (LS_of (bodyOf Try.f9) 0 (by kernel_rfl) (fun i hi => absurd hi (Nat.not_lt_zero i)) 0 (by kernel_rfl) (fun i hi => absurd hi (Nat.not_lt_zero i))) false (np := 2) (Nat.le_of_ble_eq_true (by kernel_rfl))).imp fun args => ?_
  by_cases hl : args.length = 2
  rotate_left
  · exact .inr fun m k hk => by
      unfold G9 at hk
      split at hk
      · exact hl rfl
      · exact hk
  obtain ⟨a0, a1, rfl⟩ : ∃ a0 a1, args = [a0, a1] := len_list2 hl
  rcases kptr_or a0 with ⟨b_0, o_0, rfl⟩ | h
  rotate_left
  · exact .inr fun m k hk => h _ (by simpa only [G9, kI, kbool, kS, kptr, kaggN, kite, decide_true, eq_self] using hk)
  rcases kI_or .i64 a1 with ⟨x_1, rfl⟩ | h
  rotate_left
  · exact .inr fun m k hk => h _ (by simpa only [G9, kI, kbool, kS, kptr, kaggN, kite, decide_true, eq_self] using hk)
  exact .inl fun m k => propext ⟨fun h => ⟨rfl, by rw [eqn9]; simpa only [G9, kI, kbool, kS, kptr, kaggN, kite, decide_true, eq_self] using h⟩, fun h => by have h := h.2; rw [eqn9] at h; simpa only [G9, kI, kbool, kS, kptr, kaggN, kite, decide_true, eq_self] using h⟩

/-- (*pianola/ram.Ram).there -/
def F23 (b_0 o_0 : Nat) (x_1 : Int) (x_2 : Int) (m : Mem) (k : Bool → Mem → Prop) : Prop :=
  kif (decide (x_2 ≥ 0)) (ldA m b_0 (o_0 + 0) fun v1 => klen v1 fun x2 => kif (decide ((IntKind.wrap .i64 x_1) ≤ x2)) (ldA m b_0 (o_0 + 0) fun v3 => klen v3 fun x4 => (Keeps m m ∧ k (decide (x_2 ≤ (IntKind.wrap .i64 (x4 - (IntKind.wrap .i64 x_1))))) m)) ((Keeps m m ∧ k false m))) ((Keeps m m ∧ k false m))

def G23 (args : List AV) (m : Mem) (k : KV) : Prop := match args with
  | [a0, a1, a2] => kptr a0 fun b_0 o_0 => kI .u32 a1 fun x_1 => kI .i64 a2 fun x_2 => F23 b_0 o_0 x_1 x_2 m (fun x_1000 m' => k (.flat (.bool x_1000)) m')
  | _ => False

def E23 : Env := envOf []

def Lam23 : LEnv := ⟨fun a σ m k => match firstReg a with
  | _ => bump False,
  fun id => match id with
  | _ => bump false,
  fun b => match keyC b with
  | _ => bump false,
  fun b σ m k => match keyC b with
  | _ => bump False⟩

theorem eqn23 (b_0 o_0 : Nat) (x_1 : Int) (x_2 : Int) (m : Mem) (k : KV) : bodyK Try.prog E23 Lam23 Try.f23 true [(.ptr b_0 o_0), (.flat (.int .u32 x_1)), (.flat (.int .i64 x_2))] m k = F23 b_0 o_0 x_1 x_2 m (fun x_1000 m' => k (.flat (.bool x_1000)) m') := by
  kernel_rfl

theorem fs23 (w0 : World) : FS Try.prog w0 23 G23 := by
  refine (fs_body (Γ := E23) (sound_env (l := []) w0 (by
    intro p hp
    cases hp)) (by kernel_rfl) Try.func23 (Λ := Lam23) (c := (bodyOf Try.f23)) (by kernel_rfl) Try.call23 (by kernel_rfl) (LS_of (bodyOf Try.f23) 0 (by kernel_rfl) (fun i hi => absurd hi (Nat.not_lt_zero i)) 0 (by kernel_rfl) (fun i hi => absurd hi (Nat.not_lt_zero i))) true (np := 3) (Nat.le_of_ble_eq_true (by kernel_rfl))).imp fun args => ?_
  by_cases hl : args.length = 3
  rotate_left
  · exact .inr fun m k hk => by
      unfold G23 at hk
      split at hk
      · exact hl rfl
      · exact hk
  obtain ⟨a0, a1, a2, rfl⟩ : ∃ a0 a1 a2, args = [a0, a1, a2] := len_list3 hl
  rcases kptr_or a0 with ⟨b_0, o_0, rfl⟩ | h
  rotate_left
  · exact .inr fun m k hk => h _ (by simpa only [G23, kI, kbool, kS, kptr, kaggN, kite, decide_true, eq_self] using hk)
  rcases kI_or .u32 a1 with ⟨x_1, rfl⟩ | h
  rotate_left
  · exact .inr fun m k hk => h _ (by simpa only [G23, kI, kbool, kS, kptr, kaggN, kite, decide_true, eq_self] using hk)
  rcases kI_or .i64 a2 with ⟨x_2, rfl⟩ | h
  rotate_left
  · exact .inr fun m k hk => h _ (by simpa only [G23, kI, kbool, kS, kptr, kaggN, kite, decide_true, eq_self] using hk)
  exact .inl fun m k => propext ⟨fun h => ⟨rfl, by rw [eqn23]; simpa only [G23, kI, kbool, kS, kptr, kaggN, kite, decide_true, eq_self] using h⟩, fun h => by have h := h.2; rw [eqn23] at h; simpa only [G23, kI, kbool, kS, kptr, kaggN, kite, decide_true, eq_self] using h⟩

/-- (*pianola/ram.Ram).even -/
def F21 (b_0 o_0 : Nat) (x_1 : Int) (x_2 : Int) (m : Mem) (k : Bool → Mem → Prop) : Prop :=
  kif (x_2 == 1) (kif (decide (IntKind.wrap .u32 x_2 = 0)) False (kif ((x_1.tmod (IntKind.wrap .u32 x_2)) == 0) (F23 b_0 o_0 x_1 x_2 m fun x1 m2 => (Keeps m m2 ∧ k x1 m)) ((Keeps m m ∧ k false m)))) (kif (x_2 == 2) (kif (decide (IntKind.wrap .u32 x_2 = 0)) False (kif ((x_1.tmod (IntKind.wrap .u32 x_2)) == 0) (F23 b_0 o_0 x_1 x_2 m fun x3 m4 => (Keeps m m4 ∧ k x3 m)) ((Keeps m m ∧ k false m)))) (kif (x_2 == 4) (kif (decide (IntKind.wrap .u32 x_2 = 0)) False (kif ((x_1.tmod (IntKind.wrap .u32 x_2)) == 0) (F23 b_0 o_0 x_1 x_2 m fun x5 m6 => (Keeps m m6 ∧ k x5 m)) ((Keeps m m ∧ k false m)))) ((Keeps m m ∧ k false m))))

def G21 (args : List AV) (m : Mem) (k : KV) : Prop := match args with
  | [a0, a1, a2] => kptr a0 fun b_0 o_0 => kI .u32 a1 fun x_1 => kI .i64 a2 fun x_2 => F21 b_0 o_0 x_1 x_2 m (fun x_1000 m' => k (.flat (.bool x_1000)) m')
  | _ => False

def E21 : Env := envOf [(23, G23)]

def Lam21 : LEnv := ⟨fun a σ m k => match firstReg a with
  | _ => bump False,
  fun id => match id with
  | _ => bump false,
  fun b => match keyC b with
  | _ => bump false,
  fun b σ m k => match keyC b with
  | _ => bump False⟩

theorem eqn21 (b_0 o_0 : Nat) (x_1 : Int) (x_2 : Int) (m : Mem) (k : KV) : bodyK Try.prog E21 Lam21 Try.f21 true [(.ptr b_0 o_0), (.flat (.int .u32 x_1)), (.flat (.int .i64 x_2))] m k = F21 b_0 o_0 x_1 x_2 m (fun x_1000 m' => k (.flat (.bool x_1000)) m') := by
  kernel_rfl

theorem fs21 (w0 : World) : FS Try.prog w0 21 G21 := by
  refine (fs_body (Γ := E21) (sound_env (l := [(23, G23)]) w0 (by
    intro p hp
    simp only [List.mem_cons, List.not_mem_nil, or_false] at hp
    rcases hp with rfl
    · exact fs23 w0)) (by kernel_rfl) Try.func21 (Λ := Lam21) (c := (bodyOf Try.f21)) (by kernel_rfl) Try.call21 (by kernel_rfl) (LS_of (bodyOf Try.f21) 0 (by kernel_rfl) (fun i hi => absurd hi (Nat.not_lt_zero i)) 0 (by kernel_rfl) (fun i hi => absurd hi (Nat.not_lt_zero i))) true (np := 3) (Nat.le_of_ble_eq_true (by kernel_rfl))).imp fun args => ?_
  by_cases hl : args.length = 3
  rotate_left
  · exact .inr fun m k hk => by
      unfold G21 at hk
      split at hk
      · exact hl rfl
      · exact hk
  obtain ⟨a0, a1, a2, rfl⟩ : ∃ a0 a1 a2, args = [a0, a1, a2] := len_list3 hl
  rcases kptr_or a0 with ⟨b_0, o_0, rfl⟩ | h
  rotate_left
  · exact .inr fun m k hk => h _ (by simpa only [G21, kI, kbool, kS, kptr, kaggN, kite, decide_true, eq_self] using hk)
  rcases kI_or .u32 a1 with ⟨x_1, rfl⟩ | h
  rotate_left
  · exact .inr fun m k hk => h _ (by simpa only [G21, kI, kbool, kS, kptr, kaggN, kite, decide_true, eq_self] using hk)
  rcases kI_or .i64 a2 with ⟨x_2, rfl⟩ | h
  rotate_left
  · exact .inr fun m k hk => h _ (by simpa only [G21, kI, kbool, kS, kptr, kaggN, kite, decide_true, eq_self] using hk)
  exact .inl fun m k => propext ⟨fun h => ⟨rfl, by rw [eqn21]; simpa only [G21, kI, kbool, kS, kptr, kaggN, kite, decide_true, eq_self] using h⟩, fun h => by have h := h.2; rw [eqn21] at h; simpa only [G21, kI, kbool, kS, kptr, kaggN, kite, decide_true, eq_self] using h⟩

def R22_2 (b_0 o_0 : Nat) (x_1 : Int) (x_2 : Int) (x_6 : Int) (m : Mem) (kn : Int → Mem → Prop) (k0 : Mem → Prop) : Prop :=
  kif (decide (x_6 ≤ (IntKind.wrap .i64 ((IntKind.wrap .i64 ((IntKind.wrap .i64 ((IntKind.wrap .i64 x_1) + x_2)) - 1)).tdiv 1024)))) (ldA m b_0 (o_0 + 2) fun v1 => ldA m b_0 (o_0 + 2) fun v2 => ksl v2 fun b3 o4 l5 p6 => kif (decide (0 ≤ x_6) && decide (x_6 < l5)) (ldB m b3 (o4 + (x_6).toNat * 1) fun x7 => kif x7 (ksl v1 fun b8 o9 l10 p11 => kif (decide (0 ≤ x_6) && decide (x_6 < l10)) (stC m b8 (o9 + (x_6).toNat * 1) (.flat (.bool true)) fun m12 => kn (IntKind.wrap .i64 (x_6 + 1)) m12) False) (ldA m b_0 (o_0 + 1) fun v13 => ksl v13 fun b14 o15 l16 p17 => kif (decide (0 ≤ x_6) && decide (x_6 < l16)) (ldB m b14 (o15 + (x_6).toNat * 1) fun x18 => ksl v1 fun b19 o20 l21 p22 => kif (decide (0 ≤ x_6) && decide (x_6 < l21)) (stC m b19 (o20 + (x_6).toNat * 1) (.flat (.bool x18)) fun m23 => kn (IntKind.wrap .i64 (x_6 + 1)) m23) False) False)) False) (k0  m)

def L22_2 (b_0 o_0 : Nat) (x_1 : Int) (x_2 : Int) : Nat → Int → Mem → (Mem → Prop) → Prop
  | 0, _,  _, _ => bump False
  | N + 1, x_6,  m, k0 => R22_2 b_0 o_0 x_1 x_2 x_6 m (fun x_6' m' => L22_2 b_0 o_0 x_1 x_2 N x_6' m' k0) k0

/-- (*pianola/ram.Ram).touch -/
def F22 (b_0 o_0 : Nat) (x_1 : Int) (x_2 : Int) (m : Mem) (k : Mem → Prop) : Prop :=
  kif (decide (x_2 < 1)) (k  m) (∃ N25, L22_2 b_0 o_0 x_1 x_2 N25 (IntKind.wrap .i64 ((IntKind.wrap .i64 x_1).tdiv 1024)) m (fun m24 => k  m24))

def G22 (args : List AV) (m : Mem) (k : KV) : Prop := match args with
  | [a0, a1, a2] => kptr a0 fun b_0 o_0 => kI .u32 a1 fun x_1 => kI .i64 a2 fun x_2 => F22 b_0 o_0 x_1 x_2 m (fun m' => k (.tup []) m')
  | _ => False

def E22 : Env := envOf []

def Lam22_2 (σ : Nat → AV) (m : Mem) (k : KX) : Prop := kptr (σ 0) fun b_0 o_0 => kI .u32 (σ 1) fun x_1 => kI .i64 (σ 2) fun x_2 => kI .i64 (σ 6) fun x_6 => ∃ N, L22_2 b_0 o_0 x_1 x_2 N x_6 m (fun m' => k (.exit 0) (only [] []) m')

def Lam22 : LEnv := ⟨fun a σ m k => match firstReg a with
  | some 2 => Lam22_2 σ m k
  | _ => bump False,
  fun id => match id with
  | _ => bump false,
  fun b => match keyC b with
  | _ => bump false,
  fun b σ m k => match keyC b with
  | _ => bump False⟩

def lx22_2 : Ex → List Nat := fun e => match e with
  | .exit 0 => []
  | _ => []

theorem round22_2 (b_0 o_0 : Nat) (x_1 : Int) (x_2 : Int) (x_6 : Int) (m : Mem) (G : List AV → Mem → Prop) (k : KX) : (wpA Try.prog E22 Lam22 ((loopsOf (bodyOf Try.f22)).getD 0 .skip) (only [0, 1, 2, 6] [(.ptr b_0 o_0), (.flat (.int .u32 x_1)), (.flat (.int .i64 x_2)), (.flat (.int .i64 x_6))]) m fun e σ' m' => match e with
    | .normal => G ([0, 1, 2, 6].map σ') m'
    | .exit id => k (.exit id) (only (lx22_2 (.exit id)) ((lx22_2 (.exit id)).map σ')) m'
    | .ret => k .ret (only (lx22_2 .ret) ((lx22_2 .ret).map σ')) m') = R22_2 b_0 o_0 x_1 x_2 x_6 m (fun x_6' m' => G [(.ptr b_0 o_0), (.flat (.int .u32 x_1)), (.flat (.int .i64 x_2)), (.flat (.int .i64 x_6'))] m') (fun m' => k (.exit 0) (only [] []) m') := by
  kernel_rfl

theorem loop22_2 (b_0 o_0 : Nat) (x_1 : Int) (x_2 : Int) (k : KX) : ∀ (N : Nat) (x_6 : Int) (m : Mem), rounds Try.prog E22 Lam22 [0, 1, 2, 6] lx22_2 ((loopsOf (bodyOf Try.f22)).getD 0 .skip) N [(.ptr b_0 o_0), (.flat (.int .u32 x_1)), (.flat (.int .i64 x_2)), (.flat (.int .i64 x_6))] m k = L22_2 b_0 o_0 x_1 x_2 N x_6 m (fun m' => k (.exit 0) (only [] []) m') := by
  intro N
  induction N with
  | zero => intros; rfl
  | succ N ih =>
    intro x_6 m
    refine (round22_2 b_0 o_0 x_1 x_2 x_6 m (fun vs m' => rounds Try.prog E22 Lam22 [0, 1, 2, 6] lx22_2 ((loopsOf (bodyOf Try.f22)).getD 0 .skip) N vs m' k) k).trans ?_
    simp only [ih]
    rfl

theorem lok22_2 : LoopOK Try.prog E22 Lam22 ((loopsOf (bodyOf Try.f22)).getD 0 .skip) := by
  refine ⟨fun σ => ∃ b_0 o_0 x_1 x_2 x_6, σ 0 = .ptr b_0 o_0 ∧ σ 1 = .flat (.int .u32 x_1) ∧ σ 2 = .flat (.int .i64 x_2) ∧ σ 6 = .flat (.int .i64 x_6), [0, 1, 2, 6], lx22_2, fun σ m k => ?_⟩
  have e : Lam22.loop ((loopsOf (bodyOf Try.f22)).getD 0 .skip) σ m k = Lam22_2 σ m k := by kernel_rfl
  rw [e]
  constructor
  · intro h
    unfold Lam22_2 at h
    obtain ⟨b_0, o_0, h0, h⟩ := kptr_ok h
    obtain ⟨x_1, h1, h⟩ := kI_ok h
    obtain ⟨x_2, h2, h⟩ := kI_ok h
    obtain ⟨x_6, h3, h⟩ := kI_ok h
    obtain ⟨N, h⟩ := h
    refine ⟨⟨b_0, o_0, x_1, x_2, x_6, h0, h1, h2, h3⟩, N, ?_⟩
    have ev : [0, 1, 2, 6].map σ = [(.ptr b_0 o_0), (.flat (.int .u32 x_1)), (.flat (.int .i64 x_2)), (.flat (.int .i64 x_6))] := by simp only [List.map_cons, List.map_nil, h0, h1, h2, h3]
    rw [ev, loop22_2]
    exact h
  · rintro ⟨⟨b_0, o_0, x_1, x_2, x_6, h0, h1, h2, h3⟩, N, h⟩
    have ev : [0, 1, 2, 6].map σ = [(.ptr b_0 o_0), (.flat (.int .u32 x_1)), (.flat (.int .i64 x_2)), (.flat (.int .i64 x_6))] := by simp only [List.map_cons, List.map_nil, h0, h1, h2, h3]
    rw [ev, loop22_2] at h
    unfold Lam22_2
    try simp only [h0, h1, h2, h3, kI, kbool, kS, kptr, kaggN, kite, decide_true, eq_self]
    exact ⟨N, h⟩

theorem eqn22 (b_0 o_0 : Nat) (x_1 : Int) (x_2 : Int) (m : Mem) (k : KV) : bodyK Try.prog E22 Lam22 Try.f22 false [(.ptr b_0 o_0), (.flat (.int .u32 x_1)), (.flat (.int .i64 x_2))] m k = F22 b_0 o_0 x_1 x_2 m (fun m' => k (.tup []) m') := by
  kernel_rfl

theorem fs22 (w0 : World) : FS Try.prog w0 22 G22 := by
  refine (fs_body (Γ := E22) (sound_env (l := []) w0 (by
    intro p hp
    cases hp)) (by kernel_rfl) Try.func22 (Λ := Lam22) (c := (bodyOf Try.f22)) (by kernel_rfl) Try.call22 (by kernel_rfl) (LS_of (bodyOf Try.f22) 1 (by kernel_rfl) (by
    intro i hi
    match i, hi with
    | 0, _ => exact lok22_2
    | i + 1, hi => omega) 0 (by kernel_rfl) (fun i hi => absurd hi (Nat.not_lt_zero i))) false (np := 3) (Nat.le_of_ble_eq_true (by kernel_rfl))).imp fun args => ?_
  by_cases hl : args.length = 3
  rotate_left
  · exact .inr fun m k hk => by
      unfold G22 at hk
      split at hk
      · exact hl rfl
      · exact hk
  obtain ⟨a0, a1, a2, rfl⟩ : ∃ a0 a1 a2, args = [a0, a1, a2] := len_list3 hl
  rcases kptr_or a0 with ⟨b_0, o_0, rfl⟩ | h
  rotate_left
  · exact .inr fun m k hk => h _ (by simpa only [G22, kI, kbool, kS, kptr, kaggN, kite, decide_true, eq_self] using hk)
  rcases kI_or .u32 a1 with ⟨x_1, rfl⟩ | h
  rotate_left
  · exact .inr fun m k hk => h _ (by simpa only [G22, kI, kbool, kS, kptr, kaggN, kite, decide_true, eq_self] using hk)
  rcases kI_or .i64 a2 with ⟨x_2, rfl⟩ | h
  rotate_left
  · exact .inr fun m k hk => h _ (by simpa only [G22, kI, kbool, kS, kptr, kaggN, kite, decide_true, eq_self] using hk)
  exact .inl fun m k => propext ⟨fun h => ⟨rfl, by rw [eqn22]; simpa only [G22, kI, kbool, kS, kptr, kaggN, kite, decide_true, eq_self] using h⟩, fun h => by have h := h.2; rw [eqn22] at h; simpa only [G22, kI, kbool, kS, kptr, kaggN, kite, decide_true, eq_self] using h⟩

def R10_4 (b_0 o_0 : Nat) (x_1 : Int) (x_2 : Int) (x_3 : Int) (x_15 : Int) (x_16 : Int) (m : Mem) (kn : Int → Mem → Prop) (k0 : Mem → Prop) : Prop :=
  kif (decide (x_16 < x_15)) (ldA m b_0 (o_0 + 0) fun v3 => kif (decide (IntKind.wrap .i64 (8 * x_16) < 0)) False (ksl v3 fun b4 o5 l6 p7 => kif (decide (0 ≤ IntKind.wrap .i64 ((IntKind.wrap .i64 ((IntKind.wrap .i64 ((IntKind.wrap .i64 x_1) + x_2)) - 1)) - x_16)) && decide (IntKind.wrap .i64 ((IntKind.wrap .i64 ((IntKind.wrap .i64 ((IntKind.wrap .i64 x_1) + x_2)) - 1)) - x_16) < l6)) (stC m b4 (o5 + (IntKind.wrap .i64 ((IntKind.wrap .i64 ((IntKind.wrap .i64 ((IntKind.wrap .i64 x_1) + x_2)) - 1)) - x_16)).toNat * 1) (.flat (.int .u8 (IntKind.wrap .u8 (x_3.fdiv (2 ^ min (IntKind.wrap .i64 (8 * x_16)).toNat 32))))) fun m8 => kn (IntKind.wrap .i64 (x_16 + 1)) m8) False)) (k0  m)

def L10_4 (b_0 o_0 : Nat) (x_1 : Int) (x_2 : Int) (x_3 : Int) (x_15 : Int) : Nat → Int → Mem → (Mem → Prop) → Prop
  | 0, _,  _, _ => bump False
  | N + 1, x_16,  m, k0 => R10_4 b_0 o_0 x_1 x_2 x_3 x_15 x_16 m (fun x_16' m' => L10_4 b_0 o_0 x_1 x_2 x_3 x_15 N x_16' m' k0) k0

/-- (*pianola/ram.Ram).Store -/
def F10 (b_0 o_0 : Nat) (x_1 : Int) (x_2 : Int) (x_3 : Int) (m : Mem) (k : Bool → Mem → Prop) : Prop :=
  F21 b_0 o_0 x_1 x_2 m fun x1 m2 => kif (!x1) (k false m2) (∃ N10, L10_4 b_0 o_0 x_1 x_2 x_3 x_2 N10 0 m2 (fun m9 => F22 b_0 o_0 x_1 x_2 m9 fun m11 => k true m11))

def G10 (args : List AV) (m : Mem) (k : KV) : Prop := match args with
  | [a0, a1, a2, a3] => kptr a0 fun b_0 o_0 => kI .u32 a1 fun x_1 => kI .i64 a2 fun x_2 => kI .u32 a3 fun x_3 => F10 b_0 o_0 x_1 x_2 x_3 m (fun x_1000 m' => k (.flat (.bool x_1000)) m')
  | _ => False

def E10 : Env := envOf [(21, G21), (22, G22)]

def Lam10_4 (σ : Nat → AV) (m : Mem) (k : KX) : Prop := kptr (σ 0) fun b_0 o_0 => kI .u32 (σ 1) fun x_1 => kI .i64 (σ 2) fun x_2 => kI .u32 (σ 3) fun x_3 => kI .i64 (σ 15) fun x_15 => kI .i64 (σ 16) fun x_16 => ∃ N, L10_4 b_0 o_0 x_1 x_2 x_3 x_15 N x_16 m (fun m' => k (.exit 0) (only [0, 1, 2] [(.ptr b_0 o_0), (.flat (.int .u32 x_1)), (.flat (.int .i64 x_2))]) m')

def Lam10 : LEnv := ⟨fun a σ m k => match firstReg a with
  | some 4 => Lam10_4 σ m k
  | _ => bump False,
  fun id => match id with
  | _ => bump false,
  fun b => match keyC b with
  | _ => bump false,
  fun b σ m k => match keyC b with
  | _ => bump False⟩

def lx10_4 : Ex → List Nat := fun e => match e with
  | .exit 0 => [0, 1, 2]
  | _ => []

theorem round10_4 (b_0 o_0 : Nat) (x_1 : Int) (x_2 : Int) (x_3 : Int) (x_15 : Int) (x_16 : Int) (m : Mem) (G : List AV → Mem → Prop) (k : KX) : (wpA Try.prog E10 Lam10 ((loopsOf (bodyOf Try.f10)).getD 0 .skip) (only [0, 1, 2, 3, 15, 16] [(.ptr b_0 o_0), (.flat (.int .u32 x_1)), (.flat (.int .i64 x_2)), (.flat (.int .u32 x_3)), (.flat (.int .i64 x_15)), (.flat (.int .i64 x_16))]) m fun e σ' m' => match e with
    | .normal => G ([0, 1, 2, 3, 15, 16].map σ') m'
    | .exit id => k (.exit id) (only (lx10_4 (.exit id)) ((lx10_4 (.exit id)).map σ')) m'
    | .ret => k .ret (only (lx10_4 .ret) ((lx10_4 .ret).map σ')) m') = R10_4 b_0 o_0 x_1 x_2 x_3 x_15 x_16 m (fun x_16' m' => G [(.ptr b_0 o_0), (.flat (.int .u32 x_1)), (.flat (.int .i64 x_2)), (.flat (.int .u32 x_3)), (.flat (.int .i64 x_15)), (.flat (.int .i64 x_16'))] m') (fun m' => k (.exit 0) (only [0, 1, 2] [(.ptr b_0 o_0), (.flat (.int .u32 x_1)), (.flat (.int .i64 x_2))]) m') := by
  kernel_rfl

theorem loop10_4 (b_0 o_0 : Nat) (x_1 : Int) (x_2 : Int) (x_3 : Int) (x_15 : Int) (k : KX) : ∀ (N : Nat) (x_16 : Int) (m : Mem), rounds Try.prog E10 Lam10 [0, 1, 2, 3, 15, 16] lx10_4 ((loopsOf (bodyOf Try.f10)).getD 0 .skip) N [(.ptr b_0 o_0), (.flat (.int .u32 x_1)), (.flat (.int .i64 x_2)), (.flat (.int .u32 x_3)), (.flat (.int .i64 x_15)), (.flat (.int .i64 x_16))] m k = L10_4 b_0 o_0 x_1 x_2 x_3 x_15 N x_16 m (fun m' => k (.exit 0) (only [0, 1, 2] [(.ptr b_0 o_0), (.flat (.int .u32 x_1)), (.flat (.int .i64 x_2))]) m') := by
  intro N
  induction N with
  | zero => intros; rfl
  | succ N ih =>
    intro x_16 m
    refine (round10_4 b_0 o_0 x_1 x_2 x_3 x_15 x_16 m (fun vs m' => rounds Try.prog E10 Lam10 [0, 1, 2, 3, 15, 16] lx10_4 ((loopsOf (bodyOf Try.f10)).getD 0 .skip) N vs m' k) k).trans ?_
    simp only [ih]
    rfl

theorem lok10_4 : LoopOK Try.prog E10 Lam10 ((loopsOf (bodyOf Try.f10)).getD 0 .skip) := by
  refine ⟨fun σ => ∃ b_0 o_0 x_1 x_2 x_3 x_15 x_16, σ 0 = .ptr b_0 o_0 ∧ σ 1 = .flat (.int .u32 x_1) ∧ σ 2 = .flat (.int .i64 x_2) ∧ σ 3 = .flat (.int .u32 x_3) ∧ σ 15 = .flat (.int .i64 x_15) ∧ σ 16 = .flat (.int .i64 x_16), [0, 1, 2, 3, 15, 16], lx10_4, fun σ m k => ?_⟩
  have e : Lam10.loop ((loopsOf (bodyOf Try.f10)).getD 0 .skip) σ m k = Lam10_4 σ m k := by kernel_rfl
  rw [e]
  constructor
  · intro h
    unfold Lam10_4 at h
    obtain ⟨b_0, o_0, h0, h⟩ := kptr_ok h
    obtain ⟨x_1, h1, h⟩ := kI_ok h
    obtain ⟨x_2, h2, h⟩ := kI_ok h
    obtain ⟨x_3, h3, h⟩ := kI_ok h
    obtain ⟨x_15, h4, h⟩ := kI_ok h
    obtain ⟨x_16, h5, h⟩ := kI_ok h
    obtain ⟨N, h⟩ := h
    refine ⟨⟨b_0, o_0, x_1, x_2, x_3, x_15, x_16, h0, h1, h2, h3, h4, h5⟩, N, ?_⟩
    have ev : [0, 1, 2, 3, 15, 16].map σ = [(.ptr b_0 o_0), (.flat (.int .u32 x_1)), (.flat (.int .i64 x_2)), (.flat (.int .u32 x_3)), (.flat (.int .i64 x_15)), (.flat (.int .i64 x_16))] := by simp only [List.map_cons, List.map_nil, h0, h1, h2, h3, h4, h5]
    rw [ev, loop10_4]
    exact h
  · rintro ⟨⟨b_0, o_0, x_1, x_2, x_3, x_15, x_16, h0, h1, h2, h3, h4, h5⟩, N, h⟩
    have ev : [0, 1, 2, 3, 15, 16].map σ = [(.ptr b_0 o_0), (.flat (.int .u32 x_1)), (.flat (.int .i64 x_2)), (.flat (.int .u32 x_3)), (.flat (.int .i64 x_15)), (.flat (.int .i64 x_16))] := by simp only [List.map_cons, List.map_nil, h0, h1, h2, h3, h4, h5]
    rw [ev, loop10_4] at h
    unfold Lam10_4
    try simp only [h0, h1, h2, h3, h4, h5, kI, kbool, kS, kptr, kaggN, kite, decide_true, eq_self]
    exact ⟨N, h⟩

theorem eqn10 (b_0 o_0 : Nat) (x_1 : Int) (x_2 : Int) (x_3 : Int) (m : Mem) (k : KV) : bodyK Try.prog E10 Lam10 Try.f10 false [(.ptr b_0 o_0), (.flat (.int .u32 x_1)), (.flat (.int .i64 x_2)), (.flat (.int .u32 x_3))] m k = F10 b_0 o_0 x_1 x_2 x_3 m (fun x_1000 m' => k (.flat (.bool x_1000)) m') := by
  kernel_rfl

theorem fs10 (w0 : World) : FS Try.prog w0 10 G10 := by
  refine (fs_body (Γ := E10) (sound_env (l := [(21, G21), (22, G22)]) w0 (by
    intro p hp
    simp only [List.mem_cons, List.not_mem_nil, or_false] at hp
    rcases hp with rfl | rfl
    · exact fs21 w0
    · exact fs22 w0)) (by kernel_rfl) Try.func10 (Λ := Lam10) (c := (bodyOf Try.f10)) (by kernel_rfl) Try.call10 (by kernel_rfl) (LS_of (bodyOf Try.f10) 1 (by kernel_rfl) (by
    intro i hi
    match i, hi with
    | 0, _ => exact lok10_4
    | i + 1, hi => omega) 0 (by kernel_rfl) (fun i hi => absurd hi (Nat.not_lt_zero i))) false (np := 4) (Nat.le_of_ble_eq_true (by kernel_rfl))).imp fun args => ?_
  by_cases hl : args.length = 4
  rotate_left
  · exact .inr fun m k hk => by
      unfold G10 at hk
      split at hk
      · exact hl rfl
      · exact hk
  obtain ⟨a0, a1, a2, a3, rfl⟩ : ∃ a0 a1 a2 a3, args = [a0, a1, a2, a3] := len_list4 hl
  rcases kptr_or a0 with ⟨b_0, o_0, rfl⟩ | h
  rotate_left
  · exact .inr fun m k hk => h _ (by simpa only [G10, kI, kbool, kS, kptr, kaggN, kite, decide_true, eq_self] using hk)
  rcases kI_or .u32 a1 with ⟨x_1, rfl⟩ | h
  rotate_left
  · exact .inr fun m k hk => h _ (by simpa only [G10, kI, kbool, kS, kptr, kaggN, kite, decide_true, eq_self] using hk)
  rcases kI_or .i64 a2 with ⟨x_2, rfl⟩ | h
  rotate_left
  · exact .inr fun m k hk => h _ (by simpa only [G10, kI, kbool, kS, kptr, kaggN, kite, decide_true, eq_self] using hk)
  rcases kI_or .u32 a3 with ⟨x_3, rfl⟩ | h
  rotate_left
  · exact .inr fun m k hk => h _ (by simpa only [G10, kI, kbool, kS, kptr, kaggN, kite, decide_true, eq_self] using hk)
  exact .inl fun m k => propext ⟨fun h => ⟨rfl, by rw [eqn10]; simpa only [G10, kI, kbool, kS, kptr, kaggN, kite, decide_true, eq_self] using h⟩, fun h => by have h := h.2; rw [eqn10] at h; simpa only [G10, kI, kbool, kS, kptr, kaggN, kite, decide_true, eq_self] using h⟩

/-- (*pianola/ram.Ram).Marked -/
def F11 (b_0 o_0 : Nat) (x_1 : Int) (m : Mem) (k : Bool → Mem → Prop) : Prop :=
  F20 b_0 o_0 x_1 m fun x1 m2 => kif x1 (ldA m2 b_0 (o_0 + 1) fun v3 => ksl v3 fun b4 o5 l6 p7 => kif (decide (0 ≤ x_1) && decide (x_1 < l6)) (ldB m2 b4 (o5 + (x_1).toNat * 1) fun x8 => (Keeps m m2 ∧ k x8 m)) False) ((Keeps m m2 ∧ k false m))

def G11 (args : List AV) (m : Mem) (k : KV) : Prop := match args with
  | [a0, a1] => kptr a0 fun b_0 o_0 => kI .i64 a1 fun x_1 => F11 b_0 o_0 x_1 m (fun x_1000 m' => k (.flat (.bool x_1000)) m')
  | _ => False

def E11 : Env := envOf [(20, G20)]

def Lam11 : LEnv := ⟨fun a σ m k => match firstReg a with
  | _ => bump False,
  fun id => match id with
  | _ => bump false,
  fun b => match keyC b with
  | _ => bump false,
  fun b σ m k => match keyC b with
  | _ => bump False⟩

theorem eqn11 (b_0 o_0 : Nat) (x_1 : Int) (m : Mem) (k : KV) : bodyK Try.prog E11 Lam11 Try.f11 true [(.ptr b_0 o_0), (.flat (.int .i64 x_1))] m k = F11 b_0 o_0 x_1 m (fun x_1000 m' => k (.flat (.bool x_1000)) m') := by
  kernel_rfl

theorem fs11 (w0 : World) : FS Try.prog w0 11 G11 := by
  refine (fs_body (Γ := E11) (sound_env (l := [(20, G20)]) w0 (by
    intro p hp
    simp only [List.mem_cons, List.not_mem_nil, or_false] at hp
    rcases hp with rfl
    · exact fs20 w0)) (by kernel_rfl) Try.func11 (Λ := Lam11) (c := (bodyOf Try.f11)) (by kernel_rfl) Try.call11 (by kernel_rfl) (LS_of (bodyOf Try.f11) 0 (by kernel_rfl) (fun i hi => absurd hi (Nat.not_lt_zero i)) 0 (by kernel_rfl) (fun i hi => absurd hi (Nat.not_lt_zero i))) true (np := 2) (Nat.le_of_ble_eq_true (by kernel_rfl))).imp fun args => ?_
  by_cases hl : args.length = 2
  rotate_left
  · exact .inr fun m k hk => by
      unfold G11 at hk
      split at hk
      · exact hl rfl
      · exact hk
  obtain ⟨a0, a1, rfl⟩ : ∃ a0 a1, args = [a0, a1] := len_list2 hl
  rcases kptr_or a0 with ⟨b_0, o_0, rfl⟩ | h
  rotate_left
  · exact .inr fun m k hk => h _ (by simpa only [G11, kI, kbool, kS, kptr, kaggN, kite, decide_true, eq_self] using hk)
  rcases kI_or .i64 a1 with ⟨x_1, rfl⟩ | h
  rotate_left
  · exact .inr fun m k hk => h _ (by simpa only [G11, kI, kbool, kS, kptr, kaggN, kite, decide_true, eq_self] using hk)
  exact .inl fun m k => propext ⟨fun h => ⟨rfl, by rw [eqn11]; simpa only [G11, kI, kbool, kS, kptr, kaggN, kite, decide_true, eq_self] using h⟩, fun h => by have h := h.2; rw [eqn11] at h; simpa only [G11, kI, kbool, kS, kptr, kaggN, kite, decide_true, eq_self] using h⟩

def R12_4 (v_0 : AV) (v_1 : AV) (x_5 : Int) (m : Mem) (kn : Int → Mem → Prop) (k0 : Mem → Prop) (kr : Bool → Mem → Prop) : Prop :=
  klen v_0 fun x3 => kif (decide (x_5 < x3)) (ksl v_0 fun b4 o5 l6 p7 => kif (decide (0 ≤ x_5) && decide (x_5 < l6)) (ldI .i64 m b4 (o5 + (x_5).toNat * 1) fun x8 => ksl v_1 fun b9 o10 l11 p12 => kif (decide (0 ≤ x_5) && decide (x_5 < l11)) (ldI .i64 m b9 (o10 + (x_5).toNat * 1) fun x13 => kif (x8 != x13) (kr false m) (kn (IntKind.wrap .i64 (x_5 + 1)) m)) False) False) (k0  m)

def L12_4 (v_0 : AV) (v_1 : AV) : Nat → Int → Mem → (Mem → Prop) → (Bool → Mem → Prop) → Prop
  | 0, _,  _, _, _ => bump False
  | N + 1, x_5,  m, k0, kr => R12_4 v_0 v_1 x_5 m (fun x_5' m' => L12_4 v_0 v_1 N x_5' m' k0 kr) k0 kr

/-- pianola/pianolabook.Same[int] -/
def F12 (v_0 : AV) (v_1 : AV) (m : Mem) (k : Bool → Mem → Prop) : Prop :=
  klen v_0 fun x1 => klen v_1 fun x2 => kif (x1 != x2) ((Keeps m m ∧ k false m)) (∃ N17, L12_4 v_0 v_1 N17 0 m (fun m14 => (Keeps m m14 ∧ k true m)) (fun x15 m16 => (Keeps m m16 ∧ k x15 m)))

def G12 (args : List AV) (m : Mem) (k : KV) : Prop := match args with
  | [a0, a1] => F12 a0 a1 m (fun x_1000 m' => k (.flat (.bool x_1000)) m')
  | _ => False

def E12 : Env := envOf []

def Lam12_4 (σ : Nat → AV) (m : Mem) (k : KX) : Prop := kI .i64 (σ 5) fun x_5 => ∃ N, L12_4 (σ 0) (σ 1) N x_5 m (fun m' => k (.exit 0) (only [] []) m') (fun x_4' m' => k .ret (only [4] [(.flat (.bool x_4'))]) m')

def Lam12 : LEnv := ⟨fun a σ m k => match firstReg a with
  | some 4 => Lam12_4 σ m k
  | _ => bump False,
  fun id => match id with
  | _ => bump false,
  fun b => match keyC b with
  | _ => bump false,
  fun b σ m k => match keyC b with
  | _ => bump False⟩

def lx12_4 : Ex → List Nat := fun e => match e with
  | .exit 0 => []
  | .ret => [4]
  | _ => []

theorem round12_4 (v_0 : AV) (v_1 : AV) (x_5 : Int) (m : Mem) (G : List AV → Mem → Prop) (k : KX) : (wpA Try.prog E12 Lam12 ((loopsOf (bodyOf Try.f12)).getD 0 .skip) (only [0, 1, 5] [v_0, v_1, (.flat (.int .i64 x_5))]) m fun e σ' m' => match e with
    | .normal => G ([0, 1, 5].map σ') m'
    | .exit id => k (.exit id) (only (lx12_4 (.exit id)) ((lx12_4 (.exit id)).map σ')) m'
    | .ret => k .ret (only (lx12_4 .ret) ((lx12_4 .ret).map σ')) m') = R12_4 v_0 v_1 x_5 m (fun x_5' m' => G [v_0, v_1, (.flat (.int .i64 x_5'))] m') (fun m' => k (.exit 0) (only [] []) m') (fun x_4' m' => k .ret (only [4] [(.flat (.bool x_4'))]) m') := by
  kernel_rfl

theorem loop12_4 (v_0 : AV) (v_1 : AV) (k : KX) : ∀ (N : Nat) (x_5 : Int) (m : Mem), rounds Try.prog E12 Lam12 [0, 1, 5] lx12_4 ((loopsOf (bodyOf Try.f12)).getD 0 .skip) N [v_0, v_1, (.flat (.int .i64 x_5))] m k = L12_4 v_0 v_1 N x_5 m (fun m' => k (.exit 0) (only [] []) m') (fun x_4' m' => k .ret (only [4] [(.flat (.bool x_4'))]) m') := by
  intro N
  induction N with
  | zero => intros; rfl
  | succ N ih =>
    intro x_5 m
    refine (round12_4 v_0 v_1 x_5 m (fun vs m' => rounds Try.prog E12 Lam12 [0, 1, 5] lx12_4 ((loopsOf (bodyOf Try.f12)).getD 0 .skip) N vs m' k) k).trans ?_
    simp only [ih]
    rfl

theorem lok12_4 : LoopOK Try.prog E12 Lam12 ((loopsOf (bodyOf Try.f12)).getD 0 .skip) := by
  refine ⟨fun σ => ∃ v_0 v_1 x_5, σ 0 = v_0 ∧ σ 1 = v_1 ∧ σ 5 = .flat (.int .i64 x_5), [0, 1, 5], lx12_4, fun σ m k => ?_⟩
  have e : Lam12.loop ((loopsOf (bodyOf Try.f12)).getD 0 .skip) σ m k = Lam12_4 σ m k := by kernel_rfl
  rw [e]
  constructor
  · intro h
    unfold Lam12_4 at h
    obtain ⟨v_0, h0⟩ : ∃ v, σ 0 = v := ⟨_, rfl⟩
    obtain ⟨v_1, h1⟩ : ∃ v, σ 1 = v := ⟨_, rfl⟩
    obtain ⟨x_5, h2, h⟩ := kI_ok h
    obtain ⟨N, h⟩ := h
    refine ⟨⟨v_0, v_1, x_5, h0, h1, h2⟩, N, ?_⟩
    have ev : [0, 1, 5].map σ = [v_0, v_1, (.flat (.int .i64 x_5))] := by simp only [List.map_cons, List.map_nil, h0, h1, h2]
    rw [ev, loop12_4]
    simp only [h0, h1] at h
    exact h
  · rintro ⟨⟨v_0, v_1, x_5, h0, h1, h2⟩, N, h⟩
    have ev : [0, 1, 5].map σ = [v_0, v_1, (.flat (.int .i64 x_5))] := by simp only [List.map_cons, List.map_nil, h0, h1, h2]
    rw [ev, loop12_4] at h
    unfold Lam12_4
    try simp only [h0, h1, h2, kI, kbool, kS, kptr, kaggN, kite, decide_true, eq_self]
    exact ⟨N, h⟩

theorem eqn12 (v_0 : AV) (v_1 : AV) (m : Mem) (k : KV) : bodyK Try.prog E12 Lam12 Try.f12 true [v_0, v_1] m k = F12 v_0 v_1 m (fun x_1000 m' => k (.flat (.bool x_1000)) m') := by
  kernel_rfl

theorem fs12 (w0 : World) : FS Try.prog w0 12 G12 := by
  refine (fs_body (Γ := E12) (sound_env (l := []) w0 (by
    intro p hp
    cases hp)) (by kernel_rfl) Try.func12 (Λ := Lam12) (c := (bodyOf Try.f12)) (by kernel_rfl) Try.call12 (by kernel_rfl) (LS_of (bodyOf Try.f12) 1 (by kernel_rfl) (by
    intro i hi
    match i, hi with
    | 0, _ => exact lok12_4
    | i + 1, hi => omega) 0 (by kernel_rfl) (fun i hi => absurd hi (Nat.not_lt_zero i))) true (np := 2) (Nat.le_of_ble_eq_true (by kernel_rfl))).imp fun args => ?_
  by_cases hl : args.length = 2
  rotate_left
  · exact .inr fun m k hk => by
      unfold G12 at hk
      split at hk
      · exact hl rfl
      · exact hk
  obtain ⟨a0, a1, rfl⟩ : ∃ a0 a1, args = [a0, a1] := len_list2 hl

  exact .inl fun m k => propext ⟨fun h => ⟨rfl, by rw [eqn12]; simpa only [G12, kI, kbool, kS, kptr, kaggN, kite, decide_true, eq_self] using h⟩, fun h => by have h := h.2; rw [eqn12] at h; simpa only [G12, kI, kbool, kS, kptr, kaggN, kite, decide_true, eq_self] using h⟩

def R13_3 (b_0 o_0 : Nat) (v_9 : AV) (x_10 : Int) (v_3 : AV) (x_11 : Int) (m : Mem) (kn : AV → Int → Mem → Prop) (k0 : AV → Mem → Prop) : Prop :=
  kif (decide (x_11 < x_10)) (ksl v_9 fun b3 o4 l5 p6 => kif (decide (0 ≤ x_11) && decide (x_11 < l5)) (ldB m b3 (o4 + (x_11).toNat * 1) fun x7 => kif x7 (newK m ⟨1, upd (lget [(.flat (.int .i64 0))]) 0 (.flat (.int .i64 x_11)), 3, false⟩ fun b9 m8 => appS 1 8 3 v_3 (.sl b9 0 1 (.ex 1)) m8 fun v10 m11 => ldA m11 b_0 (o_0 + 2) fun v12 => ksl v12 fun b13 o14 l15 p16 => kif (decide (0 ≤ x_11) && decide (x_11 < l15)) (stC m11 b13 (o14 + (x_11).toNat * 1) (.flat (.bool false)) fun m17 => kn v10 (IntKind.wrap .i64 (x_11 + 1)) m17) False) (kn v_3 (IntKind.wrap .i64 (x_11 + 1)) m)) False) (k0 v_3 m)

def L13_3 (b_0 o_0 : Nat) (v_9 : AV) (x_10 : Int) : Nat → AV → Int → Mem → (AV → Mem → Prop) → Prop
  | 0, _, _,  _, _ => bump False
  | N + 1, v_3, x_11,  m, k0 => R13_3 b_0 o_0 v_9 x_10 v_3 x_11 m (fun v_3' x_11' m' => L13_3 b_0 o_0 v_9 x_10 N v_3' x_11' m' k0) k0

/-- (*pianola/ram.Ram).Written -/
def F13 (b_0 o_0 : Nat) (m : Mem) (k : AV → Mem → Prop) : Prop :=
  ldA m b_0 (o_0 + 2) fun v1 => klen v1 fun x2 => ∃ N20, L13_3 b_0 o_0 v1 x2 N20 (.flat (.slice none 0 0)) 0 m (fun v18 m19 => k v18 m19)

def G13 (args : List AV) (m : Mem) (k : KV) : Prop := match args with
  | [a0] => kptr a0 fun b_0 o_0 => F13 b_0 o_0 m (fun v_1000 m' => k v_1000 m')
  | _ => False

def E13 : Env := envOf []

def Lam13_3 (σ : Nat → AV) (m : Mem) (k : KX) : Prop := kptr (σ 0) fun b_0 o_0 => kI .i64 (σ 10) fun x_10 => kI .i64 (σ 11) fun x_11 => ∃ N, L13_3 b_0 o_0 (σ 9) x_10 N (σ 3) x_11 m (fun v_3' m' => k (.exit 0) (only [3] [v_3']) m')

def Lam13 : LEnv := ⟨fun a σ m k => match firstReg a with
  | some 3 => Lam13_3 σ m k
  | _ => bump False,
  fun id => match id with
  | _ => bump false,
  fun b => match keyC b with
  | _ => bump false,
  fun b σ m k => match keyC b with
  | _ => bump False⟩

def lx13_3 : Ex → List Nat := fun e => match e with
  | .exit 0 => [3]
  | _ => []

theorem round13_3 (b_0 o_0 : Nat) (v_9 : AV) (x_10 : Int) (v_3 : AV) (x_11 : Int) (m : Mem) (G : List AV → Mem → Prop) (k : KX) : (wpA Try.prog E13 Lam13 ((loopsOf (bodyOf Try.f13)).getD 0 .skip) (only [0, 3, 9, 10, 11] [(.ptr b_0 o_0), v_3, v_9, (.flat (.int .i64 x_10)), (.flat (.int .i64 x_11))]) m fun e σ' m' => match e with
    | .normal => G ([0, 3, 9, 10, 11].map σ') m'
    | .exit id => k (.exit id) (only (lx13_3 (.exit id)) ((lx13_3 (.exit id)).map σ')) m'
    | .ret => k .ret (only (lx13_3 .ret) ((lx13_3 .ret).map σ')) m') = R13_3 b_0 o_0 v_9 x_10 v_3 x_11 m (fun v_3' x_11' m' => G [(.ptr b_0 o_0), v_3', v_9, (.flat (.int .i64 x_10)), (.flat (.int .i64 x_11'))] m') (fun v_3' m' => k (.exit 0) (only [3] [v_3']) m') := by
  kernel_rfl

theorem loop13_3 (b_0 o_0 : Nat) (v_9 : AV) (x_10 : Int) (k : KX) : ∀ (N : Nat) (v_3 : AV) (x_11 : Int) (m : Mem), rounds Try.prog E13 Lam13 [0, 3, 9, 10, 11] lx13_3 ((loopsOf (bodyOf Try.f13)).getD 0 .skip) N [(.ptr b_0 o_0), v_3, v_9, (.flat (.int .i64 x_10)), (.flat (.int .i64 x_11))] m k = L13_3 b_0 o_0 v_9 x_10 N v_3 x_11 m (fun v_3' m' => k (.exit 0) (only [3] [v_3']) m') := by
  intro N
  induction N with
  | zero => intros; rfl
  | succ N ih =>
    intro v_3 x_11 m
    refine (round13_3 b_0 o_0 v_9 x_10 v_3 x_11 m (fun vs m' => rounds Try.prog E13 Lam13 [0, 3, 9, 10, 11] lx13_3 ((loopsOf (bodyOf Try.f13)).getD 0 .skip) N vs m' k) k).trans ?_
    simp only [ih]
    rfl

theorem lok13_3 : LoopOK Try.prog E13 Lam13 ((loopsOf (bodyOf Try.f13)).getD 0 .skip) := by
  refine ⟨fun σ => ∃ b_0 o_0 v_3 v_9 x_10 x_11, σ 0 = .ptr b_0 o_0 ∧ σ 3 = v_3 ∧ σ 9 = v_9 ∧ σ 10 = .flat (.int .i64 x_10) ∧ σ 11 = .flat (.int .i64 x_11), [0, 3, 9, 10, 11], lx13_3, fun σ m k => ?_⟩
  have e : Lam13.loop ((loopsOf (bodyOf Try.f13)).getD 0 .skip) σ m k = Lam13_3 σ m k := by kernel_rfl
  rw [e]
  constructor
  · intro h
    unfold Lam13_3 at h
    obtain ⟨b_0, o_0, h0, h⟩ := kptr_ok h
    obtain ⟨v_3, h1⟩ : ∃ v, σ 3 = v := ⟨_, rfl⟩
    obtain ⟨v_9, h2⟩ : ∃ v, σ 9 = v := ⟨_, rfl⟩
    obtain ⟨x_10, h3, h⟩ := kI_ok h
    obtain ⟨x_11, h4, h⟩ := kI_ok h
    obtain ⟨N, h⟩ := h
    refine ⟨⟨b_0, o_0, v_3, v_9, x_10, x_11, h0, h1, h2, h3, h4⟩, N, ?_⟩
    have ev : [0, 3, 9, 10, 11].map σ = [(.ptr b_0 o_0), v_3, v_9, (.flat (.int .i64 x_10)), (.flat (.int .i64 x_11))] := by simp only [List.map_cons, List.map_nil, h0, h1, h2, h3, h4]
    rw [ev, loop13_3]
    simp only [h1, h2] at h
    exact h
  · rintro ⟨⟨b_0, o_0, v_3, v_9, x_10, x_11, h0, h1, h2, h3, h4⟩, N, h⟩
    have ev : [0, 3, 9, 10, 11].map σ = [(.ptr b_0 o_0), v_3, v_9, (.flat (.int .i64 x_10)), (.flat (.int .i64 x_11))] := by simp only [List.map_cons, List.map_nil, h0, h1, h2, h3, h4]
    rw [ev, loop13_3] at h
    unfold Lam13_3
    try simp only [h0, h1, h2, h3, h4, kI, kbool, kS, kptr, kaggN, kite, decide_true, eq_self]
    exact ⟨N, h⟩

theorem eqn13 (b_0 o_0 : Nat) (m : Mem) (k : KV) : bodyK Try.prog E13 Lam13 Try.f13 false [(.ptr b_0 o_0)] m k = F13 b_0 o_0 m (fun v_1000 m' => k v_1000 m') := by
  kernel_rfl

theorem fs13 (w0 : World) : FS Try.prog w0 13 G13 := by
  refine (fs_body (Γ := E13) (sound_env (l := []) w0 (by
    intro p hp
    cases hp)) (by kernel_rfl) Try.func13 (Λ := Lam13) (c := (bodyOf Try.f13)) (by kernel_rfl) Try.call13 (by kernel_rfl) (LS_of (bodyOf Try.f13) 1 (by kernel_rfl) (by
    intro i hi
    match i, hi with
    | 0, _ => exact lok13_3
    | i + 1, hi => omega) 0 (by kernel_rfl) (fun i hi => absurd hi (Nat.not_lt_zero i))) false (np := 1) (Nat.le_of_ble_eq_true (by kernel_rfl))).imp fun args => ?_
  by_cases hl : args.length = 1
  rotate_left
  · exact .inr fun m k hk => by
      unfold G13 at hk
      split at hk
      · exact hl rfl
      · exact hk
  obtain ⟨a0, rfl⟩ : ∃ a0, args = [a0] := len_list1 hl
  rcases kptr_or a0 with ⟨b_0, o_0, rfl⟩ | h
  rotate_left
  · exact .inr fun m k hk => h _ (by simpa only [G13, kI, kbool, kS, kptr, kaggN, kite, decide_true, eq_self] using hk)
  exact .inl fun m k => propext ⟨fun h => ⟨rfl, by rw [eqn13]; simpa only [G13, kI, kbool, kS, kptr, kaggN, kite, decide_true, eq_self] using h⟩, fun h => by have h := h.2; rw [eqn13] at h; simpa only [G13, kI, kbool, kS, kptr, kaggN, kite, decide_true, eq_self] using h⟩

def R16_5 (v_25 : AV) (x_26 : Int) (x_8 : Int) (x_27 : Int) (m : Mem) (kn : Int → Int → Mem → Prop) (k0 : Int → Mem → Prop) : Prop :=
  kif (decide (x_27 < x_26)) (ksl v_25 fun b6 o7 l8 p9 => kif (decide (0 ≤ x_27) && decide (x_27 < l8)) (ldI .u8 m b6 (o7 + (x_27).toNat * 1) fun x10 => kn (bits .or .u32 (IntKind.wrap .u32 (x_8 * 256)) (IntKind.wrap .u32 x10)) (IntKind.wrap .i64 (x_27 + 1)) m) False) (k0 x_8 m)

def L16_5 (v_25 : AV) (x_26 : Int) : Nat → Int → Int → Mem → (Int → Mem → Prop) → Prop
  | 0, _, _,  _, _ => bump False
  | N + 1, x_8, x_27,  m, k0 => R16_5 v_25 x_26 x_8 x_27 m (fun x_8' x_27' m' => L16_5 v_25 x_26 N x_8' x_27' m' k0) k0

/-- (*pianola/ram.Ram).Load -/
def F16 (b_0 o_0 : Nat) (x_1 : Int) (x_2 : Int) (m : Mem) (k : Int → Bool → Mem → Prop) : Prop :=
  F21 b_0 o_0 x_1 x_2 m fun x1 m2 => kif (!x1) ((Keeps m m2 ∧ k 0 false m)) (ldA m2 b_0 (o_0 + 0) fun v3 => slS 1 v3 (some x_1) (some (IntKind.wrap .i64 ((IntKind.wrap .i64 x_1) + x_2))) fun v4 => klen v4 fun x5 => ∃ N13, L16_5 v4 x5 N13 0 0 m2 (fun x11 m12 => (Keeps m m12 ∧ k x11 true m)))

def G16 (args : List AV) (m : Mem) (k : KV) : Prop := match args with
  | [a0, a1, a2] => kptr a0 fun b_0 o_0 => kI .u32 a1 fun x_1 => kI .i64 a2 fun x_2 => F16 b_0 o_0 x_1 x_2 m (fun x_1000 x_1001 m' => k (.tup [(.flat (.int .u32 x_1000)), (.flat (.bool x_1001))]) m')
  | _ => False

def E16 : Env := envOf [(21, G21)]

def Lam16_5 (σ : Nat → AV) (m : Mem) (k : KX) : Prop := kI .u32 (σ 8) fun x_8 => kI .i64 (σ 26) fun x_26 => kI .i64 (σ 27) fun x_27 => ∃ N, L16_5 (σ 25) x_26 N x_8 x_27 m (fun x_8' m' => k (.exit 0) (only [8] [(.flat (.int .u32 x_8'))]) m')

def Lam16 : LEnv := ⟨fun a σ m k => match firstReg a with
  | some 5 => Lam16_5 σ m k
  | _ => bump False,
  fun id => match id with
  | _ => bump false,
  fun b => match keyC b with
  | _ => bump false,
  fun b σ m k => match keyC b with
  | _ => bump False⟩

def lx16_5 : Ex → List Nat := fun e => match e with
  | .exit 0 => [8]
  | _ => []

theorem round16_5 (v_25 : AV) (x_26 : Int) (x_8 : Int) (x_27 : Int) (m : Mem) (G : List AV → Mem → Prop) (k : KX) : (wpA Try.prog E16 Lam16 ((loopsOf (bodyOf Try.f16)).getD 0 .skip) (only [8, 25, 26, 27] [(.flat (.int .u32 x_8)), v_25, (.flat (.int .i64 x_26)), (.flat (.int .i64 x_27))]) m fun e σ' m' => match e with
    | .normal => G ([8, 25, 26, 27].map σ') m'
    | .exit id => k (.exit id) (only (lx16_5 (.exit id)) ((lx16_5 (.exit id)).map σ')) m'
    | .ret => k .ret (only (lx16_5 .ret) ((lx16_5 .ret).map σ')) m') = R16_5 v_25 x_26 x_8 x_27 m (fun x_8' x_27' m' => G [(.flat (.int .u32 x_8')), v_25, (.flat (.int .i64 x_26)), (.flat (.int .i64 x_27'))] m') (fun x_8' m' => k (.exit 0) (only [8] [(.flat (.int .u32 x_8'))]) m') := by
  kernel_rfl

theorem loop16_5 (v_25 : AV) (x_26 : Int) (k : KX) : ∀ (N : Nat) (x_8 : Int) (x_27 : Int) (m : Mem), rounds Try.prog E16 Lam16 [8, 25, 26, 27] lx16_5 ((loopsOf (bodyOf Try.f16)).getD 0 .skip) N [(.flat (.int .u32 x_8)), v_25, (.flat (.int .i64 x_26)), (.flat (.int .i64 x_27))] m k = L16_5 v_25 x_26 N x_8 x_27 m (fun x_8' m' => k (.exit 0) (only [8] [(.flat (.int .u32 x_8'))]) m') := by
  intro N
  induction N with
  | zero => intros; rfl
  | succ N ih =>
    intro x_8 x_27 m
    refine (round16_5 v_25 x_26 x_8 x_27 m (fun vs m' => rounds Try.prog E16 Lam16 [8, 25, 26, 27] lx16_5 ((loopsOf (bodyOf Try.f16)).getD 0 .skip) N vs m' k) k).trans ?_
    simp only [ih]
    rfl

theorem lok16_5 : LoopOK Try.prog E16 Lam16 ((loopsOf (bodyOf Try.f16)).getD 0 .skip) := by
  refine ⟨fun σ => ∃ x_8 v_25 x_26 x_27, σ 8 = .flat (.int .u32 x_8) ∧ σ 25 = v_25 ∧ σ 26 = .flat (.int .i64 x_26) ∧ σ 27 = .flat (.int .i64 x_27), [8, 25, 26, 27], lx16_5, fun σ m k => ?_⟩
  have e : Lam16.loop ((loopsOf (bodyOf Try.f16)).getD 0 .skip) σ m k = Lam16_5 σ m k := by kernel_rfl
  rw [e]
  constructor
  · intro h
    unfold Lam16_5 at h
    obtain ⟨x_8, h0, h⟩ := kI_ok h
    obtain ⟨v_25, h1⟩ : ∃ v, σ 25 = v := ⟨_, rfl⟩
    obtain ⟨x_26, h2, h⟩ := kI_ok h
    obtain ⟨x_27, h3, h⟩ := kI_ok h
    obtain ⟨N, h⟩ := h
    refine ⟨⟨x_8, v_25, x_26, x_27, h0, h1, h2, h3⟩, N, ?_⟩
    have ev : [8, 25, 26, 27].map σ = [(.flat (.int .u32 x_8)), v_25, (.flat (.int .i64 x_26)), (.flat (.int .i64 x_27))] := by simp only [List.map_cons, List.map_nil, h0, h1, h2, h3]
    rw [ev, loop16_5]
    simp only [h1] at h
    exact h
  · rintro ⟨⟨x_8, v_25, x_26, x_27, h0, h1, h2, h3⟩, N, h⟩
    have ev : [8, 25, 26, 27].map σ = [(.flat (.int .u32 x_8)), v_25, (.flat (.int .i64 x_26)), (.flat (.int .i64 x_27))] := by simp only [List.map_cons, List.map_nil, h0, h1, h2, h3]
    rw [ev, loop16_5] at h
    unfold Lam16_5
    try simp only [h0, h1, h2, h3, kI, kbool, kS, kptr, kaggN, kite, decide_true, eq_self]
    exact ⟨N, h⟩

theorem eqn16 (b_0 o_0 : Nat) (x_1 : Int) (x_2 : Int) (m : Mem) (k : KV) : bodyK Try.prog E16 Lam16 Try.f16 true [(.ptr b_0 o_0), (.flat (.int .u32 x_1)), (.flat (.int .i64 x_2))] m k = F16 b_0 o_0 x_1 x_2 m (fun x_1000 x_1001 m' => k (.tup [(.flat (.int .u32 x_1000)), (.flat (.bool x_1001))]) m') := by
  kernel_rfl

theorem fs16 (w0 : World) : FS Try.prog w0 16 G16 := by
  refine (fs_body (Γ := E16) (sound_env (l := [(21, G21)]) w0 (by
    intro p hp
    simp only [List.mem_cons, List.not_mem_nil, or_false] at hp
    rcases hp with rfl
    · exact fs21 w0)) (by kernel_rfl) Try.func16 (Λ := Lam16) (c := (bodyOf Try.f16)) (by kernel_rfl) Try.call16 (by kernel_rfl) (LS_of (bodyOf Try.f16) 1 (by kernel_rfl) (by
    intro i hi
    match i, hi with
    | 0, _ => exact lok16_5
    | i + 1, hi => omega) 0 (by kernel_rfl) (fun i hi => absurd hi (Nat.not_lt_zero i))) true (np := 3) (Nat.le_of_ble_eq_true (by kernel_rfl))).imp fun args => ?_
  by_cases hl : args.length = 3
  rotate_left
  · exact .inr fun m k hk => by
      unfold G16 at hk
      split at hk
      · exact hl rfl
      · exact hk
  obtain ⟨a0, a1, a2, rfl⟩ : ∃ a0 a1 a2, args = [a0, a1, a2] := len_list3 hl
  rcases kptr_or a0 with ⟨b_0, o_0, rfl⟩ | h
  rotate_left
  · exact .inr fun m k hk => h _ (by simpa only [G16, kI, kbool, kS, kptr, kaggN, kite, decide_true, eq_self] using hk)
  rcases kI_or .u32 a1 with ⟨x_1, rfl⟩ | h
  rotate_left
  · exact .inr fun m k hk => h _ (by simpa only [G16, kI, kbool, kS, kptr, kaggN, kite, decide_true, eq_self] using hk)
  rcases kI_or .i64 a2 with ⟨x_2, rfl⟩ | h
  rotate_left
  · exact .inr fun m k hk => h _ (by simpa only [G16, kI, kbool, kS, kptr, kaggN, kite, decide_true, eq_self] using hk)
  exact .inl fun m k => propext ⟨fun h => ⟨rfl, by rw [eqn16]; simpa only [G16, kI, kbool, kS, kptr, kaggN, kite, decide_true, eq_self] using h⟩, fun h => by have h := h.2; rw [eqn16] at h; simpa only [G16, kI, kbool, kS, kptr, kaggN, kite, decide_true, eq_self] using h⟩

end Go.Proofs.Ytmgalbmhbbickaa.Am
