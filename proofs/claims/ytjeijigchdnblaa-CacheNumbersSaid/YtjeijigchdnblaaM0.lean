/- What Go functions ask of what follows them, as plain functions over the abstract machine; the machine asks just that. Written by gen.py. -/
import Derived.Test.YtjeijigchdnblaaProg
import Derived.Test.YtjeijigchdnblaaAmL
namespace Go.Proofs.Ytjeijigchdnblaa.Am
set_option linter.unusedVariables false
set_option linter.unusedSimpArgs false
set_option maxRecDepth 100000

def Z11 : Nat → AV := lget [(.flat (.int .i64 0)), (.flat (.int .i64 0)), (.flat (.int .i64 0)), (.flat (.int .i64 0)), (.flat (.int .i64 0)), (.flat (.int .i64 0)), (.flat (.int .i64 0)), (.flat (.int .i64 0)), (.flat (.int .i64 0)), (.flat (.int .i64 0)), (.flat (.int .i64 0))]

def K28 : List (Nat × LK) := [(0, (.i .u32)), (1, (.i .i64)), (2, (.i .i64))]

def E7 : Env := envOf []

def P7_3102 (x_0 : Int) (x_1 : Int) (x_2 : Int) (m : Mem) (kr : Int → Mem → Prop) : Prop :=
  kif (decide (IntKind.wrap .i64 ((IntKind.wrap .i64 (x_2 - x_1)) + 1) = 0)) False (kif (decide ((x_0.tmod (IntKind.wrap .i64 ((IntKind.wrap .i64 (x_2 - x_1)) + 1))) < 0)) (kr (IntKind.wrap .i64 (x_1 + (IntKind.wrap .i64 ((IntKind.wrap .i64 ((IntKind.wrap .i64 ((x_0.tmod (IntKind.wrap .i64 ((IntKind.wrap .i64 (x_2 - x_1)) + 1))) + x_2)) - x_1)) + 1)))) m) (kr (IntKind.wrap .i64 (x_1 + (x_0.tmod (IntKind.wrap .i64 ((IntKind.wrap .i64 (x_2 - x_1)) + 1))))) m))

/-- pianola/pianolabook.Within -/
def F7 (x_0 : Int) (x_1 : Int) (x_2 : Int) (m : Mem) (k : Int → Mem → Prop) : Prop :=
  kif (decide (x_0 ≥ x_1)) (kif (decide (x_0 ≤ x_2)) ((Keeps m m ∧ k x_0 m)) (P7_3102 x_0 x_1 x_2 m (fun x1 m2 => (Keeps m m2 ∧ k x1 m)))) (P7_3102 x_0 x_1 x_2 m (fun x3 m4 => (Keeps m m4 ∧ k x3 m)))

def G7 (args : List AV) (m : Mem) (k : KV) : Prop := match args with
  | [a0, a1, a2] => kI .i64 a0 fun x_0 => kI .i64 a1 fun x_1 => kI .i64 a2 fun x_2 => F7 x_0 x_1 x_2 m (fun x_1000 m' => k (.flat (.int .i64 x_1000)) m')
  | _ => False

def LamP7_3102 (σ : Nat → AV) (m : Mem) (k : KX) : Prop := kI .i64 (σ 0) fun x_0 => kI .i64 (σ 1) fun x_1 => kI .i64 (σ 2) fun x_2 => P7_3102 x_0 x_1 x_2 m (fun x_6' m' => k .ret (only [6] [(.flat (.int .i64 x_6'))]) m')

def Lam7 : LEnv := ⟨fun a σ m k => match firstReg a with
  | _ => bump False,
  fun id => match id with
  | _ => bump false,
  fun b => match keyC b with
  | some 3102 => true
  | _ => bump false,
  fun b σ m k => match keyC b with
  | some 3102 => LamP7_3102 σ m k
  | _ => bump False⟩

def lxp7_3102 : Ex → List Nat := fun e => match e with
  | .ret => [6]
  | _ => []

theorem pc7_3102 (x_0 : Int) (x_1 : Int) (x_2 : Int) (m : Mem) (k : KX) : once Try.prog E7 Lam7 [0, 1, 2] lxp7_3102 (((secsOf (bodyOf Try.f7)).filter Lam7.cut).getD 0 .skip) [(.flat (.int .i64 x_0)), (.flat (.int .i64 x_1)), (.flat (.int .i64 x_2))] m k = P7_3102 x_0 x_1 x_2 m (fun x_6' m' => k .ret (only [6] [(.flat (.int .i64 x_6'))]) m') := by
  kernel_rfl

theorem pok7_3102 : PieceOK Try.prog E7 Lam7 (((secsOf (bodyOf Try.f7)).filter Lam7.cut).getD 0 .skip) := by
  refine ⟨fun σ => ∃ x_0 x_1 x_2, σ 0 = .flat (.int .i64 x_0) ∧ σ 1 = .flat (.int .i64 x_1) ∧ σ 2 = .flat (.int .i64 x_2), [0, 1, 2], lxp7_3102, fun σ m k => ?_⟩
  have e : Lam7.piece (((secsOf (bodyOf Try.f7)).filter Lam7.cut).getD 0 .skip) σ m k = LamP7_3102 σ m k := by kernel_rfl
  rw [e]
  constructor
  · intro h
    unfold LamP7_3102 at h
    obtain ⟨x_0, h0, h⟩ := kI_ok h
    obtain ⟨x_1, h1, h⟩ := kI_ok h
    obtain ⟨x_2, h2, h⟩ := kI_ok h
    refine ⟨⟨x_0, x_1, x_2, h0, h1, h2⟩, ?_⟩
    have ev : [0, 1, 2].map σ = [(.flat (.int .i64 x_0)), (.flat (.int .i64 x_1)), (.flat (.int .i64 x_2))] := by simp only [List.map_cons, List.map_nil, h0, h1, h2]
    rw [ev, pc7_3102]
    exact h
  · rintro ⟨⟨x_0, x_1, x_2, h0, h1, h2⟩, h⟩
    have ev : [0, 1, 2].map σ = [(.flat (.int .i64 x_0)), (.flat (.int .i64 x_1)), (.flat (.int .i64 x_2))] := by simp only [List.map_cons, List.map_nil, h0, h1, h2]
    rw [ev, pc7_3102] at h
    unfold LamP7_3102
    try simp only [h0, h1, h2, kI, kbool, kS, kptr, kaggN, kite, decide_true, eq_self]
    exact h

theorem eqn7 (x_0 : Int) (x_1 : Int) (x_2 : Int) (m : Mem) (k : KV) : bodyK Try.prog E7 Lam7 Try.f7 true [(.flat (.int .i64 x_0)), (.flat (.int .i64 x_1)), (.flat (.int .i64 x_2))] m k = F7 x_0 x_1 x_2 m (fun x_1000 m' => k (.flat (.int .i64 x_1000)) m') := by
  kernel_rfl

theorem fs7 (w0 : World) : FS Try.prog w0 7 G7 := by
  refine (fs_body (Γ := E7) (sound_env (l := []) w0 (by
    intro p hp
    cases hp)) (by kernel_rfl) Try.func7 (Λ := Lam7) (c := (bodyOf Try.f7)) (by kernel_rfl) Try.call7 (by kernel_rfl) (LS_of (bodyOf Try.f7) 0 (by kernel_rfl) (fun i hi => absurd hi (Nat.not_lt_zero i)) 1 (by kernel_rfl) (by
    intro i hi
    match i, hi with
    | 0, _ => exact pok7_3102
    | i + 1, hi => omega)) true (np := 3) (Nat.le_of_ble_eq_true (by kernel_rfl))).imp fun args => ?_
  by_cases hl : args.length = 3
  rotate_left
  · exact .inr fun m k hk => by
      unfold G7 at hk
      split at hk
      · exact hl rfl
      · exact hk
  obtain ⟨a0, a1, a2, rfl⟩ : ∃ a0 a1 a2, args = [a0, a1, a2] := len_list3 hl
  rcases kI_or .i64 a0 with ⟨x_0, rfl⟩ | h
  rotate_left
  · exact .inr fun m k hk => h _ (by simpa only [G7, kI, kbool, kS, kptr, kaggN, kite, decide_true, eq_self] using hk)
  rcases kI_or .i64 a1 with ⟨x_1, rfl⟩ | h
  rotate_left
  · exact .inr fun m k hk => h _ (by simpa only [G7, kI, kbool, kS, kptr, kaggN, kite, decide_true, eq_self] using hk)
  rcases kI_or .i64 a2 with ⟨x_2, rfl⟩ | h
  rotate_left
  · exact .inr fun m k hk => h _ (by simpa only [G7, kI, kbool, kS, kptr, kaggN, kite, decide_true, eq_self] using hk)
  exact .inl fun m k => propext ⟨fun h => ⟨rfl, by rw [eqn7]; simpa only [G7, kI, kbool, kS, kptr, kaggN, kite, decide_true, eq_self] using h⟩, fun h => by have h := h.2; rw [eqn7] at h; simpa only [G7, kI, kbool, kS, kptr, kaggN, kite, decide_true, eq_self] using h⟩

def E8 : Env := envOf []

/-- pianola/cache.New -/
def F8 (x_0 : Int) (m : Mem) (k : AV → Mem → Prop) : Prop :=
  mapNew m fun b1 m2 => newK m2 ⟨3, (upd (upd (lget [(.flat (.int .i64 0)), (.flat (.slice none 0 0)), (.flat (.map none))]) 0 (.flat (.int .i64 (if (if 256 < x_0 then 256 else x_0) > 1 then (if 256 < x_0 then 256 else x_0) else 1)))) 2 (.mp b1)), 49, false⟩ fun b4 m3 => k (.ptr b4 0) m3

def G8 (args : List AV) (m : Mem) (k : KV) : Prop := match args with
  | [a0] => kI .i64 a0 fun x_0 => F8 x_0 m (fun v_1000 m' => k v_1000 m')
  | _ => False

def Lam8 : LEnv := ⟨fun a σ m k => match firstReg a with
  | _ => bump False,
  fun id => match id with
  | _ => bump false,
  fun b => match keyC b with
  | _ => bump false,
  fun b σ m k => match keyC b with
  | _ => bump False⟩

theorem eqn8 (x_0 : Int) (m : Mem) (k : KV) : bodyK Try.prog E8 Lam8 Try.f8 false [(.flat (.int .i64 x_0))] m k = F8 x_0 m (fun v_1000 m' => k v_1000 m') := by
  kernel_rfl

theorem fs8 (w0 : World) : FS Try.prog w0 8 G8 := by
  refine (fs_body (Γ := E8) (sound_env (l := []) w0 (by
    intro p hp
    cases hp)) (by kernel_rfl) Try.func8 (Λ := Lam8) (c := (bodyOf Try.f8)) (by kernel_rfl) Try.call8 (by kernel_rfl) (LS_of (bodyOf Try.f8) 0 (by kernel_rfl) (fun i hi => absurd hi (Nat.not_lt_zero i)) 0 (by kernel_rfl) (fun i hi => absurd hi (Nat.not_lt_zero i))) false (np := 1) (Nat.le_of_ble_eq_true (by kernel_rfl))).imp fun args => ?_
  by_cases hl : args.length = 1
  rotate_left
  · exact .inr fun m k hk => by
      unfold G8 at hk
      split at hk
      · exact hl rfl
      · exact hk
  obtain ⟨a0, rfl⟩ : ∃ a0, args = [a0] := len_list1 hl
  rcases kI_or .i64 a0 with ⟨x_0, rfl⟩ | h
  rotate_left
  · exact .inr fun m k hk => h _ (by simpa only [G8, kI, kbool, kS, kptr, kaggN, kite, decide_true, eq_self] using hk)
  exact .inl fun m k => propext ⟨fun h => ⟨rfl, by rw [eqn8]; simpa only [G8, kI, kbool, kS, kptr, kaggN, kite, decide_true, eq_self] using h⟩, fun h => by have h := h.2; rw [eqn8] at h; simpa only [G8, kI, kbool, kS, kptr, kaggN, kite, decide_true, eq_self] using h⟩

def E25 : Env := envOf []

/-- slices.Delete[[]pianola/cache.Key,pianola/cache.Key] -/
def F25 (v_0 : AV) (x_1 : Int) (x_2 : Int) (m : Mem) (k : AV → Mem → Prop) : Prop :=
  klen v_0 fun x1 => slM v_0 (some x_1) (some x_2) (some x1) (kif (x_1 == x_2) (k v_0 m) (klen v_0 fun x2 => slS 3 v_0 none (some x_1) fun v3 => slS 3 v_0 (some x_2) none fun v4 => appS 3 24 28 v3 v4 m fun v5 m6 => klen v5 fun x7 => slS 3 v5 (some x7) (some x2) fun v8 => clrS [(.flat (.int .u32 0)), (.flat (.int .i64 0)), (.flat (.int .i64 0))] v8 m6 fun m9 => k v5 m9))

def G25 (args : List AV) (m : Mem) (k : KV) : Prop := match args with
  | [a0, a1, a2] => kI .i64 a1 fun x_1 => kI .i64 a2 fun x_2 => F25 a0 x_1 x_2 m (fun v_1000 m' => k v_1000 m')
  | _ => False

def Lam25 : LEnv := ⟨fun a σ m k => match firstReg a with
  | _ => bump False,
  fun id => match id with
  | _ => bump false,
  fun b => match keyC b with
  | _ => bump false,
  fun b σ m k => match keyC b with
  | _ => bump False⟩

theorem eqn25 (v_0 : AV) (x_1 : Int) (x_2 : Int) (m : Mem) (k : KV) : bodyK Try.prog E25 Lam25 Try.f25 false [v_0, (.flat (.int .i64 x_1)), (.flat (.int .i64 x_2))] m k = F25 v_0 x_1 x_2 m (fun v_1000 m' => k v_1000 m') := by
  kernel_rfl

theorem fs25 (w0 : World) : FS Try.prog w0 25 G25 := by
  refine (fs_body (Γ := E25) (sound_env (l := []) w0 (by
    intro p hp
    cases hp)) (by kernel_rfl) Try.func25 (Λ := Lam25) (c := (bodyOf Try.f25)) (by kernel_rfl) Try.call25 (by kernel_rfl) (LS_of (bodyOf Try.f25) 0 (by kernel_rfl) (fun i hi => absurd hi (Nat.not_lt_zero i)) 0 (by kernel_rfl) (fun i hi => absurd hi (Nat.not_lt_zero i))) false (np := 3) (Nat.le_of_ble_eq_true (by kernel_rfl))).imp fun args => ?_
  by_cases hl : args.length = 3
  rotate_left
  · exact .inr fun m k hk => by
      unfold G25 at hk
      split at hk
      · exact hl rfl
      · exact hk
  obtain ⟨a0, a1, a2, rfl⟩ : ∃ a0 a1 a2, args = [a0, a1, a2] := len_list3 hl
  rcases kI_or .i64 a1 with ⟨x_1, rfl⟩ | h
  rotate_left
  · exact .inr fun m k hk => h _ (by simpa only [G25, kI, kbool, kS, kptr, kaggN, kite, decide_true, eq_self] using hk)
  rcases kI_or .i64 a2 with ⟨x_2, rfl⟩ | h
  rotate_left
  · exact .inr fun m k hk => h _ (by simpa only [G25, kI, kbool, kS, kptr, kaggN, kite, decide_true, eq_self] using hk)
  exact .inl fun m k => propext ⟨fun h => ⟨rfl, by rw [eqn25]; simpa only [G25, kI, kbool, kS, kptr, kaggN, kite, decide_true, eq_self] using h⟩, fun h => by have h := h.2; rw [eqn25] at h; simpa only [G25, kI, kbool, kS, kptr, kaggN, kite, decide_true, eq_self] using h⟩

def E18 : Env := envOf [(25, G25)]

/-- (*pianola/cache.Cache).Evict -/
def F18 (b_0 o_0 : Nat) (m : Mem) (k : Bool → Mem → Prop) : Prop :=
  ldA m b_0 (o_0 + 1) fun v1 => klen v1 fun x2 => kif (x2 == 0) (k false m) (ldA m b_0 (o_0 + 2) fun v3 => ldA m b_0 (o_0 + 1) fun v4 => ksl v4 fun b5 o6 l7 p8 => kif (decide (0 ≤ (0 : Int)) && decide ((0 : Int) < l7)) (ldG 3 m b5 (o6 + 0) fun c9 => mdel K28 3 v3 c9 m fun m10 => ldA m10 b_0 (o_0 + 1) fun v11 => F25 v11 0 1 m10 fun v12 m13 => stV m13 b_0 (o_0 + 1) v12 fun m14 => k true m14) False)

def G18 (args : List AV) (m : Mem) (k : KV) : Prop := match args with
  | [a0] => kptr a0 fun b_0 o_0 => F18 b_0 o_0 m (fun x_1000 m' => k (.flat (.bool x_1000)) m')
  | _ => False

def Lam18 : LEnv := ⟨fun a σ m k => match firstReg a with
  | _ => bump False,
  fun id => match id with
  | _ => bump false,
  fun b => match keyC b with
  | _ => bump false,
  fun b σ m k => match keyC b with
  | _ => bump False⟩

theorem eqn18 (b_0 o_0 : Nat) (m : Mem) (k : KV) : bodyK Try.prog E18 Lam18 Try.f18 false [(.ptr b_0 o_0)] m k = F18 b_0 o_0 m (fun x_1000 m' => k (.flat (.bool x_1000)) m') := by
  kernel_rfl

theorem fs18 (w0 : World) : FS Try.prog w0 18 G18 := by
  refine (fs_body (Γ := E18) (sound_env (l := [(25, G25)]) w0 (by
    intro p hp
    simp only [List.mem_cons, List.not_mem_nil, or_false] at hp
    rcases hp with rfl
    · exact fs25 w0)) (by kernel_rfl) Try.func18 (Λ := Lam18) (c := (bodyOf Try.f18)) (by kernel_rfl) Try.call18 (by kernel_rfl) (LS_of (bodyOf Try.f18) 0 (by kernel_rfl) (fun i hi => absurd hi (Nat.not_lt_zero i)) 0 (by kernel_rfl) (fun i hi => absurd hi (Nat.not_lt_zero i))) false (np := 1) (Nat.le_of_ble_eq_true (by kernel_rfl))).imp fun args => ?_
  by_cases hl : args.length = 1
  rotate_left
  · exact .inr fun m k hk => by
      unfold G18 at hk
      split at hk
      · exact hl rfl
      · exact hk
  obtain ⟨a0, rfl⟩ : ∃ a0, args = [a0] := len_list1 hl
  rcases kptr_or a0 with ⟨b_0, o_0, rfl⟩ | h
  rotate_left
  · exact .inr fun m k hk => h _ (by simpa only [G18, kI, kbool, kS, kptr, kaggN, kite, decide_true, eq_self] using hk)
  exact .inl fun m k => propext ⟨fun h => ⟨rfl, by rw [eqn18]; simpa only [G18, kI, kbool, kS, kptr, kaggN, kite, decide_true, eq_self] using h⟩, fun h => by have h := h.2; rw [eqn18] at h; simpa only [G18, kI, kbool, kS, kptr, kaggN, kite, decide_true, eq_self] using h⟩

def E26 : Env := envOf []

def R26_2 (v_0 : AV) (b_3 o_3 : Nat) (x_7 : Int) (x_8 : Int) (m : Mem) (kn : Int → Mem → Prop) (k0 : Mem → Prop) (kr : Int → Mem → Prop) : Prop :=
  kif (decide (x_8 < x_7)) (ldG 3 m b_3 o_3 fun c4 => ksl v_0 fun b5 o6 l7 p8 => kif (decide (0 ≤ x_8) && decide (x_8 < l7)) (ldG 3 m b5 (o6 + (x_8).toNat * 3) fun c9 => geq K28 c4 c9 fun x10 => kif x10 (kr x_8 m) (kn (IntKind.wrap .i64 (x_8 + 1)) m)) False) (k0  m)

def L26_2 (v_0 : AV) (b_3 o_3 : Nat) (x_7 : Int) : Nat → Int → Mem → (Mem → Prop) → (Int → Mem → Prop) → Prop
  | 0, _,  _, _, _ => bump False
  | N + 1, x_8,  m, k0, kr => R26_2 v_0 b_3 o_3 x_7 x_8 m (fun x_8' m' => L26_2 v_0 b_3 o_3 x_7 N x_8' m' k0 kr) k0 kr

/-- slices.Index[[]pianola/cache.Key,pianola/cache.Key] -/
def F26 (v_0 : AV) (c_1 : Nat → AV) (m : Mem) (k : Int → Mem → Prop) : Prop :=
  newK m ⟨3, c_1, 28, false⟩ fun b2 m1 => klen v_0 fun x3 => ∃ N14, L26_2 v_0 b2 0 x3 N14 0 m1 (fun m11 => (Keeps m m11 ∧ k (-1) m)) (fun x12 m13 => (Keeps m m13 ∧ k x12 m))

def G26 (args : List AV) (m : Mem) (k : KV) : Prop := match args with
  | [a0, a1] => kaggN 3 a1 fun c_1 => F26 a0 c_1 m (fun x_1000 m' => k (.flat (.int .i64 x_1000)) m')
  | _ => False

def Lam26_2 (σ : Nat → AV) (m : Mem) (k : KX) : Prop := kptr (σ 3) fun b_3 o_3 => kI .i64 (σ 7) fun x_7 => kI .i64 (σ 8) fun x_8 => ∃ N, L26_2 (σ 0) b_3 o_3 x_7 N x_8 m (fun m' => k (.exit 0) (only [] []) m') (fun x_4' m' => k .ret (only [4] [(.flat (.int .i64 x_4'))]) m')

def Lam26 : LEnv := ⟨fun a σ m k => match firstReg a with
  | some 2 => Lam26_2 σ m k
  | _ => bump False,
  fun id => match id with
  | _ => bump false,
  fun b => match keyC b with
  | _ => bump false,
  fun b σ m k => match keyC b with
  | _ => bump False⟩

def lx26_2 : Ex → List Nat := fun e => match e with
  | .exit 0 => []
  | .ret => [4]
  | _ => []

theorem round26_2 (v_0 : AV) (b_3 o_3 : Nat) (x_7 : Int) (x_8 : Int) (m : Mem) (G : List AV → Mem → Prop) (k : KX) : (wpA Try.prog E26 Lam26 ((loopsOf (bodyOf Try.f26)).getD 0 .skip) (only [0, 3, 7, 8] [v_0, (.ptr b_3 o_3), (.flat (.int .i64 x_7)), (.flat (.int .i64 x_8))]) m fun e σ' m' => match e with
    | .normal => G ([0, 3, 7, 8].map σ') m'
    | .exit id => k (.exit id) (only (lx26_2 (.exit id)) ((lx26_2 (.exit id)).map σ')) m'
    | .ret => k .ret (only (lx26_2 .ret) ((lx26_2 .ret).map σ')) m') = R26_2 v_0 b_3 o_3 x_7 x_8 m (fun x_8' m' => G [v_0, (.ptr b_3 o_3), (.flat (.int .i64 x_7)), (.flat (.int .i64 x_8'))] m') (fun m' => k (.exit 0) (only [] []) m') (fun x_4' m' => k .ret (only [4] [(.flat (.int .i64 x_4'))]) m') := by
  kernel_rfl

theorem loop26_2 (v_0 : AV) (b_3 o_3 : Nat) (x_7 : Int) (k : KX) : ∀ (N : Nat) (x_8 : Int) (m : Mem), rounds Try.prog E26 Lam26 [0, 3, 7, 8] lx26_2 ((loopsOf (bodyOf Try.f26)).getD 0 .skip) N [v_0, (.ptr b_3 o_3), (.flat (.int .i64 x_7)), (.flat (.int .i64 x_8))] m k = L26_2 v_0 b_3 o_3 x_7 N x_8 m (fun m' => k (.exit 0) (only [] []) m') (fun x_4' m' => k .ret (only [4] [(.flat (.int .i64 x_4'))]) m') := by
  intro N
  induction N with
  | zero => intros; rfl
  | succ N ih =>
    intro x_8 m
    refine (round26_2 v_0 b_3 o_3 x_7 x_8 m (fun vs m' => rounds Try.prog E26 Lam26 [0, 3, 7, 8] lx26_2 ((loopsOf (bodyOf Try.f26)).getD 0 .skip) N vs m' k) k).trans ?_
    simp only [ih]
    rfl

theorem lok26_2 : LoopOK Try.prog E26 Lam26 ((loopsOf (bodyOf Try.f26)).getD 0 .skip) := by
  refine ⟨fun σ => ∃ v_0 b_3 o_3 x_7 x_8, σ 0 = v_0 ∧ σ 3 = .ptr b_3 o_3 ∧ σ 7 = .flat (.int .i64 x_7) ∧ σ 8 = .flat (.int .i64 x_8), [0, 3, 7, 8], lx26_2, fun σ m k => ?_⟩
  have e : Lam26.loop ((loopsOf (bodyOf Try.f26)).getD 0 .skip) σ m k = Lam26_2 σ m k := by kernel_rfl
  rw [e]
  constructor
  · intro h
    unfold Lam26_2 at h
    obtain ⟨v_0, h0⟩ : ∃ v, σ 0 = v := ⟨_, rfl⟩
    obtain ⟨b_3, o_3, h1, h⟩ := kptr_ok h
    obtain ⟨x_7, h2, h⟩ := kI_ok h
    obtain ⟨x_8, h3, h⟩ := kI_ok h
    obtain ⟨N, h⟩ := h
    refine ⟨⟨v_0, b_3, o_3, x_7, x_8, h0, h1, h2, h3⟩, N, ?_⟩
    have ev : [0, 3, 7, 8].map σ = [v_0, (.ptr b_3 o_3), (.flat (.int .i64 x_7)), (.flat (.int .i64 x_8))] := by simp only [List.map_cons, List.map_nil, h0, h1, h2, h3]
    rw [ev, loop26_2]
    simp only [h0] at h
    exact h
  · rintro ⟨⟨v_0, b_3, o_3, x_7, x_8, h0, h1, h2, h3⟩, N, h⟩
    have ev : [0, 3, 7, 8].map σ = [v_0, (.ptr b_3 o_3), (.flat (.int .i64 x_7)), (.flat (.int .i64 x_8))] := by simp only [List.map_cons, List.map_nil, h0, h1, h2, h3]
    rw [ev, loop26_2] at h
    unfold Lam26_2
    try simp only [h0, h1, h2, h3, kI, kbool, kS, kptr, kaggN, kite, decide_true, eq_self]
    exact ⟨N, h⟩

theorem eqn26 (v_0 : AV) (c_1 : Nat → AV) (m : Mem) (k : KV) : bodyK Try.prog E26 Lam26 Try.f26 true [v_0, (.agg 3 c_1)] m k = F26 v_0 c_1 m (fun x_1000 m' => k (.flat (.int .i64 x_1000)) m') := by
  kernel_rfl

theorem fs26 (w0 : World) : FS Try.prog w0 26 G26 := by
  refine (fs_body (Γ := E26) (sound_env (l := []) w0 (by
    intro p hp
    cases hp)) (by kernel_rfl) Try.func26 (Λ := Lam26) (c := (bodyOf Try.f26)) (by kernel_rfl) Try.call26 (by kernel_rfl) (LS_of (bodyOf Try.f26) 1 (by kernel_rfl) (by
    intro i hi
    match i, hi with
    | 0, _ => exact lok26_2
    | i + 1, hi => omega) 0 (by kernel_rfl) (fun i hi => absurd hi (Nat.not_lt_zero i))) true (np := 2) (Nat.le_of_ble_eq_true (by kernel_rfl))).imp fun args => ?_
  by_cases hl : args.length = 2
  rotate_left
  · exact .inr fun m k hk => by
      unfold G26 at hk
      split at hk
      · exact hl rfl
      · exact hk
  obtain ⟨a0, a1, rfl⟩ : ∃ a0 a1, args = [a0, a1] := len_list2 hl
  rcases kaggN_or 3 a1 with ⟨c_1, rfl⟩ | h
  rotate_left
  · exact .inr fun m k hk => h _ (by simpa only [G26, kI, kbool, kS, kptr, kaggN, kite, decide_true, eq_self] using hk)
  exact .inl fun m k => propext ⟨fun h => ⟨rfl, by rw [eqn26]; simpa only [G26, kI, kbool, kS, kptr, kaggN, kite, decide_true, eq_self] using h⟩, fun h => by have h := h.2; rw [eqn26] at h; simpa only [G26, kI, kbool, kS, kptr, kaggN, kite, decide_true, eq_self] using h⟩

def E19 : Env := envOf [(25, G25), (26, G26)]

/-- (*pianola/cache.Cache).out -/
def F19 (b_0 o_0 : Nat) (c_1 : Nat → AV) (m : Mem) (k : Mem → Prop) : Prop :=
  newK m ⟨3, c_1, 28, false⟩ fun b2 m1 => ldA m1 b_0 (o_0 + 1) fun v3 => ldG 3 m1 b2 0 fun c4 => F26 v3 c4 m1 fun x5 m6 => kif (decide (x5 ≥ 0)) (ldA m6 b_0 (o_0 + 1) fun v7 => F25 v7 x5 (IntKind.wrap .i64 (x5 + 1)) m6 fun v8 m9 => stV m9 b_0 (o_0 + 1) v8 fun m10 => k  m10) (k  m6)

def G19 (args : List AV) (m : Mem) (k : KV) : Prop := match args with
  | [a0, a1] => kptr a0 fun b_0 o_0 => kaggN 3 a1 fun c_1 => F19 b_0 o_0 c_1 m (fun m' => k (.tup []) m')
  | _ => False

def Lam19 : LEnv := ⟨fun a σ m k => match firstReg a with
  | _ => bump False,
  fun id => match id with
  | _ => bump false,
  fun b => match keyC b with
  | _ => bump false,
  fun b σ m k => match keyC b with
  | _ => bump False⟩

theorem eqn19 (b_0 o_0 : Nat) (c_1 : Nat → AV) (m : Mem) (k : KV) : bodyK Try.prog E19 Lam19 Try.f19 false [(.ptr b_0 o_0), (.agg 3 c_1)] m k = F19 b_0 o_0 c_1 m (fun m' => k (.tup []) m') := by
  kernel_rfl

theorem fs19 (w0 : World) : FS Try.prog w0 19 G19 := by
  refine (fs_body (Γ := E19) (sound_env (l := [(25, G25), (26, G26)]) w0 (by
    intro p hp
    simp only [List.mem_cons, List.not_mem_nil, or_false] at hp
    rcases hp with rfl | rfl
    · exact fs25 w0
    · exact fs26 w0)) (by kernel_rfl) Try.func19 (Λ := Lam19) (c := (bodyOf Try.f19)) (by kernel_rfl) Try.call19 (by kernel_rfl) (LS_of (bodyOf Try.f19) 0 (by kernel_rfl) (fun i hi => absurd hi (Nat.not_lt_zero i)) 0 (by kernel_rfl) (fun i hi => absurd hi (Nat.not_lt_zero i))) false (np := 2) (Nat.le_of_ble_eq_true (by kernel_rfl))).imp fun args => ?_
  by_cases hl : args.length = 2
  rotate_left
  · exact .inr fun m k hk => by
      unfold G19 at hk
      split at hk
      · exact hl rfl
      · exact hk
  obtain ⟨a0, a1, rfl⟩ : ∃ a0 a1, args = [a0, a1] := len_list2 hl
  rcases kptr_or a0 with ⟨b_0, o_0, rfl⟩ | h
  rotate_left
  · exact .inr fun m k hk => h _ (by simpa only [G19, kI, kbool, kS, kptr, kaggN, kite, decide_true, eq_self] using hk)
  rcases kaggN_or 3 a1 with ⟨c_1, rfl⟩ | h
  rotate_left
  · exact .inr fun m k hk => h _ (by simpa only [G19, kI, kbool, kS, kptr, kaggN, kite, decide_true, eq_self] using hk)
  exact .inl fun m k => propext ⟨fun h => ⟨rfl, by rw [eqn19]; simpa only [G19, kI, kbool, kS, kptr, kaggN, kite, decide_true, eq_self] using h⟩, fun h => by have h := h.2; rw [eqn19] at h; simpa only [G19, kI, kbool, kS, kptr, kaggN, kite, decide_true, eq_self] using h⟩

def E9 : Env := envOf [(18, G18), (19, G19)]

def P9_4102 (b_0 o_0 : Nat) (b_4 o_4 : Nat) (b_5 o_5 : Nat) (m : Mem) (kn : Mem → Prop) : Prop :=
  ldG 3 m b_4 o_4 fun c19 => F19 b_0 o_0 c19 m fun m20 => ldA m20 b_0 (o_0 + 1) fun v21 => ldG 3 m20 b_4 o_4 fun c22 => newK m20 ⟨3, splice (lget [(.flat (.int .u32 0)), (.flat (.int .i64 0)), (.flat (.int .i64 0))]) 0 3 c22, 28, false⟩ fun b24 m23 => appS 3 24 28 v21 (.sl b24 0 1 (.ex 1)) m23 fun v25 m26 => stV m26 b_0 (o_0 + 1) v25 fun m27 => ldA m27 b_0 (o_0 + 2) fun v28 => ldG 3 m27 b_4 o_4 fun c29 => ldG 4 m27 b_5 o_5 fun c30 => mput K28 3 v28 c29 4 c30 m27 fun m31 => kn  m31

def P9_3004 (b_0 o_0 : Nat) (b_4 o_4 : Nat) (b_5 o_5 : Nat) (x_30 : Bool) (m : Mem) (kn : Mem → Prop) : Prop :=
  kif x_30 (F18 b_0 o_0 m fun x15 m16 => kn  m16) (kn  m)

/-- (*pianola/cache.Cache).Put -/
def F9 (b_0 o_0 : Nat) (c_1 : Nat → AV) (c_2 : Nat → AV) (m : Mem) (k : Mem → Prop) : Prop :=
  newK m ⟨3, c_1, 28, false⟩ fun b2 m1 => newK m1 ⟨4, c_2, 33, false⟩ fun b4 m3 => ldA m3 b_0 (o_0 + 2) fun v5 => ldG 3 m3 b2 0 fun c6 => mget K28 3 v5 c6 4 (lget [(.flat (.int .u32 0)), (.flat (.slice none 0 0)), (.flat (.slice none 0 0)), (.flat (.slice none 0 0))]) m3 fun c7 x8 => newK m3 ⟨4, lget [(.flat (.int .u32 0)), (.flat (.slice none 0 0)), (.flat (.slice none 0 0)), (.flat (.slice none 0 0))], 33, false⟩ fun b10 m9 => stG 4 m9 b10 0 c7 fun m11 => kif (!x8) (ldA m11 b_0 (o_0 + 1) fun v12 => klen v12 fun x13 => ldI .i64 m11 b_0 (o_0 + 0) fun x14 => P9_3004 b_0 o_0 b2 0 b4 0 (decide (x13 ≥ x14)) m11 (fun m17 => P9_4102 b_0 o_0 b2 0 b4 0 m17 (fun m32 => k  m32))) (P9_3004 b_0 o_0 b2 0 b4 0 false m11 (fun m18 => P9_4102 b_0 o_0 b2 0 b4 0 m18 (fun m33 => k  m33)))

def G9 (args : List AV) (m : Mem) (k : KV) : Prop := match args with
  | [a0, a1, a2] => kptr a0 fun b_0 o_0 => kaggN 3 a1 fun c_1 => kaggN 4 a2 fun c_2 => F9 b_0 o_0 c_1 c_2 m (fun m' => k (.tup []) m')
  | _ => False

def LamP9_3004 (σ : Nat → AV) (m : Mem) (k : KX) : Prop := kptr (σ 0) fun b_0 o_0 => kptr (σ 4) fun b_4 o_4 => kptr (σ 5) fun b_5 o_5 => kbool (σ 30) fun x_30 => P9_3004 b_0 o_0 b_4 o_4 b_5 o_5 x_30 m (fun m' => k .normal (only [0, 4, 5] [(.ptr b_0 o_0), (.ptr b_4 o_4), (.ptr b_5 o_5)]) m')

def LamP9_4102 (σ : Nat → AV) (m : Mem) (k : KX) : Prop := kptr (σ 0) fun b_0 o_0 => kptr (σ 4) fun b_4 o_4 => kptr (σ 5) fun b_5 o_5 => P9_4102 b_0 o_0 b_4 o_4 b_5 o_5 m (fun m' => k .normal (only [] []) m')

def Lam9 : LEnv := ⟨fun a σ m k => match firstReg a with
  | _ => bump False,
  fun id => match id with
  | _ => bump false,
  fun b => match keyC b with
  | some 3004 => true
  | some 4102 => true
  | _ => bump false,
  fun b σ m k => match keyC b with
  | some 3004 => LamP9_3004 σ m k
  | some 4102 => LamP9_4102 σ m k
  | _ => bump False⟩

def lxp9_4102 : Ex → List Nat := fun e => match e with
  | .normal => []
  | _ => []

theorem pc9_4102 (b_0 o_0 : Nat) (b_4 o_4 : Nat) (b_5 o_5 : Nat) (m : Mem) (k : KX) : once Try.prog E9 Lam9 [0, 4, 5] lxp9_4102 (((secsOf (bodyOf Try.f9)).filter Lam9.cut).getD 0 .skip) [(.ptr b_0 o_0), (.ptr b_4 o_4), (.ptr b_5 o_5)] m k = P9_4102 b_0 o_0 b_4 o_4 b_5 o_5 m (fun m' => k .normal (only [] []) m') := by
  kernel_rfl

theorem pok9_4102 : PieceOK Try.prog E9 Lam9 (((secsOf (bodyOf Try.f9)).filter Lam9.cut).getD 0 .skip) := by
  refine ⟨fun σ => ∃ b_0 o_0 b_4 o_4 b_5 o_5, σ 0 = .ptr b_0 o_0 ∧ σ 4 = .ptr b_4 o_4 ∧ σ 5 = .ptr b_5 o_5, [0, 4, 5], lxp9_4102, fun σ m k => ?_⟩
  have e : Lam9.piece (((secsOf (bodyOf Try.f9)).filter Lam9.cut).getD 0 .skip) σ m k = LamP9_4102 σ m k := by kernel_rfl
  rw [e]
  constructor
  · intro h
    unfold LamP9_4102 at h
    obtain ⟨b_0, o_0, h0, h⟩ := kptr_ok h
    obtain ⟨b_4, o_4, h1, h⟩ := kptr_ok h
    obtain ⟨b_5, o_5, h2, h⟩ := kptr_ok h
    refine ⟨⟨b_0, o_0, b_4, o_4, b_5, o_5, h0, h1, h2⟩, ?_⟩
    have ev : [0, 4, 5].map σ = [(.ptr b_0 o_0), (.ptr b_4 o_4), (.ptr b_5 o_5)] := by simp only [List.map_cons, List.map_nil, h0, h1, h2]
    rw [ev, pc9_4102]
    exact h
  · rintro ⟨⟨b_0, o_0, b_4, o_4, b_5, o_5, h0, h1, h2⟩, h⟩
    have ev : [0, 4, 5].map σ = [(.ptr b_0 o_0), (.ptr b_4 o_4), (.ptr b_5 o_5)] := by simp only [List.map_cons, List.map_nil, h0, h1, h2]
    rw [ev, pc9_4102] at h
    unfold LamP9_4102
    try simp only [h0, h1, h2, kI, kbool, kS, kptr, kaggN, kite, decide_true, eq_self]
    exact h

def lxp9_3004 : Ex → List Nat := fun e => match e with
  | .normal => [0, 4, 5]
  | _ => []

theorem pc9_3004 (b_0 o_0 : Nat) (b_4 o_4 : Nat) (b_5 o_5 : Nat) (x_30 : Bool) (m : Mem) (k : KX) : once Try.prog E9 Lam9 [0, 4, 5, 30] lxp9_3004 (((secsOf (bodyOf Try.f9)).filter Lam9.cut).getD 1 .skip) [(.ptr b_0 o_0), (.ptr b_4 o_4), (.ptr b_5 o_5), (.flat (.bool x_30))] m k = P9_3004 b_0 o_0 b_4 o_4 b_5 o_5 x_30 m (fun m' => k .normal (only [0, 4, 5] [(.ptr b_0 o_0), (.ptr b_4 o_4), (.ptr b_5 o_5)]) m') := by
  kernel_rfl

theorem pok9_3004 : PieceOK Try.prog E9 Lam9 (((secsOf (bodyOf Try.f9)).filter Lam9.cut).getD 1 .skip) := by
  refine ⟨fun σ => ∃ b_0 o_0 b_4 o_4 b_5 o_5 x_30, σ 0 = .ptr b_0 o_0 ∧ σ 4 = .ptr b_4 o_4 ∧ σ 5 = .ptr b_5 o_5 ∧ σ 30 = .flat (.bool x_30), [0, 4, 5, 30], lxp9_3004, fun σ m k => ?_⟩
  have e : Lam9.piece (((secsOf (bodyOf Try.f9)).filter Lam9.cut).getD 1 .skip) σ m k = LamP9_3004 σ m k := by kernel_rfl
  rw [e]
  constructor
  · intro h
    unfold LamP9_3004 at h
    obtain ⟨b_0, o_0, h0, h⟩ := kptr_ok h
    obtain ⟨b_4, o_4, h1, h⟩ := kptr_ok h
    obtain ⟨b_5, o_5, h2, h⟩ := kptr_ok h
    obtain ⟨x_30, h3, h⟩ := kbool_ok h
    refine ⟨⟨b_0, o_0, b_4, o_4, b_5, o_5, x_30, h0, h1, h2, h3⟩, ?_⟩
    have ev : [0, 4, 5, 30].map σ = [(.ptr b_0 o_0), (.ptr b_4 o_4), (.ptr b_5 o_5), (.flat (.bool x_30))] := by simp only [List.map_cons, List.map_nil, h0, h1, h2, h3]
    rw [ev, pc9_3004]
    exact h
  · rintro ⟨⟨b_0, o_0, b_4, o_4, b_5, o_5, x_30, h0, h1, h2, h3⟩, h⟩
    have ev : [0, 4, 5, 30].map σ = [(.ptr b_0 o_0), (.ptr b_4 o_4), (.ptr b_5 o_5), (.flat (.bool x_30))] := by simp only [List.map_cons, List.map_nil, h0, h1, h2, h3]
    rw [ev, pc9_3004] at h
    unfold LamP9_3004
    try simp only [h0, h1, h2, h3, kI, kbool, kS, kptr, kaggN, kite, decide_true, eq_self]
    exact h

theorem eqn9 (b_0 o_0 : Nat) (c_1 : Nat → AV) (c_2 : Nat → AV) (m : Mem) (k : KV) : bodyK Try.prog E9 Lam9 Try.f9 false [(.ptr b_0 o_0), (.agg 3 c_1), (.agg 4 c_2)] m k = F9 b_0 o_0 c_1 c_2 m (fun m' => k (.tup []) m') := by
  kernel_rfl

theorem fs9 (w0 : World) : FS Try.prog w0 9 G9 := by
  refine (fs_body (Γ := E9) (sound_env (l := [(18, G18), (19, G19)]) w0 (by
    intro p hp
    simp only [List.mem_cons, List.not_mem_nil, or_false] at hp
    rcases hp with rfl | rfl
    · exact fs18 w0
    · exact fs19 w0)) (by kernel_rfl) Try.func9 (Λ := Lam9) (c := (bodyOf Try.f9)) (by kernel_rfl) Try.call9 (by kernel_rfl) (LS_of (bodyOf Try.f9) 0 (by kernel_rfl) (fun i hi => absurd hi (Nat.not_lt_zero i)) 2 (by kernel_rfl) (by
    intro i hi
    match i, hi with
    | 0, _ => exact pok9_4102
    | 1, _ => exact pok9_3004
    | i + 2, hi => omega)) false (np := 3) (Nat.le_of_ble_eq_true (by kernel_rfl))).imp fun args => ?_
  by_cases hl : args.length = 3
  rotate_left
  · exact .inr fun m k hk => by
      unfold G9 at hk
      split at hk
      · exact hl rfl
      · exact hk
  obtain ⟨a0, a1, a2, rfl⟩ : ∃ a0 a1 a2, args = [a0, a1, a2] := len_list3 hl
  rcases kptr_or a0 with ⟨b_0, o_0, rfl⟩ | h
  rotate_left
  · exact .inr fun m k hk => h _ (by simpa only [G9, kI, kbool, kS, kptr, kaggN, kite, decide_true, eq_self] using hk)
  rcases kaggN_or 3 a1 with ⟨c_1, rfl⟩ | h
  rotate_left
  · exact .inr fun m k hk => h _ (by simpa only [G9, kI, kbool, kS, kptr, kaggN, kite, decide_true, eq_self] using hk)
  rcases kaggN_or 4 a2 with ⟨c_2, rfl⟩ | h
  rotate_left
  · exact .inr fun m k hk => h _ (by simpa only [G9, kI, kbool, kS, kptr, kaggN, kite, decide_true, eq_self] using hk)
  exact .inl fun m k => propext ⟨fun h => ⟨rfl, by rw [eqn9]; simpa only [G9, kI, kbool, kS, kptr, kaggN, kite, decide_true, eq_self] using h⟩, fun h => by have h := h.2; rw [eqn9] at h; simpa only [G9, kI, kbool, kS, kptr, kaggN, kite, decide_true, eq_self] using h⟩

def E10 : Env := envOf []

/-- (*pianola/cache.Cache).Len -/
def F10 (b_0 o_0 : Nat) (m : Mem) (k : Int → Mem → Prop) : Prop :=
  ldA m b_0 (o_0 + 1) fun v1 => klen v1 fun x2 => (Keeps m m ∧ k x2 m)

def G10 (args : List AV) (m : Mem) (k : KV) : Prop := match args with
  | [a0] => kptr a0 fun b_0 o_0 => F10 b_0 o_0 m (fun x_1000 m' => k (.flat (.int .i64 x_1000)) m')
  | _ => False

def Lam10 : LEnv := ⟨fun a σ m k => match firstReg a with
  | _ => bump False,
  fun id => match id with
  | _ => bump false,
  fun b => match keyC b with
  | _ => bump false,
  fun b σ m k => match keyC b with
  | _ => bump False⟩

theorem eqn10 (b_0 o_0 : Nat) (m : Mem) (k : KV) : bodyK Try.prog E10 Lam10 Try.f10 true [(.ptr b_0 o_0)] m k = F10 b_0 o_0 m (fun x_1000 m' => k (.flat (.int .i64 x_1000)) m') := by
  kernel_rfl

theorem fs10 (w0 : World) : FS Try.prog w0 10 G10 := by
  refine (fs_body (Γ := E10) (sound_env (l := []) w0 (by
    intro p hp
    cases hp)) (by kernel_rfl) Try.func10 (Λ := Lam10) (c := (bodyOf Try.f10)) (by kernel_rfl) Try.call10 (by kernel_rfl) (LS_of (bodyOf Try.f10) 0 (by kernel_rfl) (fun i hi => absurd hi (Nat.not_lt_zero i)) 0 (by kernel_rfl) (fun i hi => absurd hi (Nat.not_lt_zero i))) true (np := 1) (Nat.le_of_ble_eq_true (by kernel_rfl))).imp fun args => ?_
  by_cases hl : args.length = 1
  rotate_left
  · exact .inr fun m k hk => by
      unfold G10 at hk
      split at hk
      · exact hl rfl
      · exact hk
  obtain ⟨a0, rfl⟩ : ∃ a0, args = [a0] := len_list1 hl
  rcases kptr_or a0 with ⟨b_0, o_0, rfl⟩ | h
  rotate_left
  · exact .inr fun m k hk => h _ (by simpa only [G10, kI, kbool, kS, kptr, kaggN, kite, decide_true, eq_self] using hk)
  exact .inl fun m k => propext ⟨fun h => ⟨rfl, by rw [eqn10]; simpa only [G10, kI, kbool, kS, kptr, kaggN, kite, decide_true, eq_self] using h⟩, fun h => by have h := h.2; rw [eqn10] at h; simpa only [G10, kI, kbool, kS, kptr, kaggN, kite, decide_true, eq_self] using h⟩

def E11 : Env := envOf [(19, G19)]

/-- (*pianola/cache.Cache).Get -/
def F11 (b_0 o_0 : Nat) (c_1 : Nat → AV) (m : Mem) (k : (Nat → AV) → Bool → Mem → Prop) : Prop :=
  newK m ⟨3, c_1, 28, false⟩ fun b2 m1 => newK m1 ⟨4, lget [(.flat (.int .u32 0)), (.flat (.slice none 0 0)), (.flat (.slice none 0 0)), (.flat (.slice none 0 0))], 33, false⟩ fun b4 m3 => ldA m3 b_0 (o_0 + 2) fun v5 => ldG 3 m3 b2 0 fun c6 => mget K28 3 v5 c6 4 (lget [(.flat (.int .u32 0)), (.flat (.slice none 0 0)), (.flat (.slice none 0 0)), (.flat (.slice none 0 0))]) m3 fun c7 x8 => newK m3 ⟨4, lget [(.flat (.int .u32 0)), (.flat (.slice none 0 0)), (.flat (.slice none 0 0)), (.flat (.slice none 0 0))], 33, false⟩ fun b10 m9 => stG 4 m9 b10 0 c7 fun m11 => kif x8 (ldG 3 m11 b2 0 fun c12 => F19 b_0 o_0 c12 m11 fun m13 => ldA m13 b_0 (o_0 + 1) fun v14 => ldG 3 m13 b2 0 fun c15 => newK m13 ⟨3, splice (lget [(.flat (.int .u32 0)), (.flat (.int .i64 0)), (.flat (.int .i64 0))]) 0 3 c15, 28, false⟩ fun b17 m16 => appS 3 24 28 v14 (.sl b17 0 1 (.ex 1)) m16 fun v18 m19 => stV m19 b_0 (o_0 + 1) v18 fun m20 => ldG 4 m20 b10 0 fun c21 => stG 4 m20 b4 0 c21 fun m22 => ldG 4 m22 b4 0 fun c25 => k c25 x8 m22) (ldG 4 m11 b10 0 fun c23 => stG 4 m11 b4 0 c23 fun m24 => ldG 4 m24 b4 0 fun c26 => k c26 x8 m24)

def G11 (args : List AV) (m : Mem) (k : KV) : Prop := match args with
  | [a0, a1] => kptr a0 fun b_0 o_0 => kaggN 3 a1 fun c_1 => F11 b_0 o_0 c_1 m (fun c_1000 x_1001 m' => k (.tup [(.agg 4 c_1000), (.flat (.bool x_1001))]) m')
  | _ => False

def Lam11 : LEnv := ⟨fun a σ m k => match firstReg a with
  | _ => bump False,
  fun id => match id with
  | _ => bump false,
  fun b => match keyC b with
  | _ => bump false,
  fun b σ m k => match keyC b with
  | _ => bump False⟩

theorem eqn11 (b_0 o_0 : Nat) (c_1 : Nat → AV) (m : Mem) (k : KV) : bodyK Try.prog E11 Lam11 Try.f11 false [(.ptr b_0 o_0), (.agg 3 c_1)] m k = F11 b_0 o_0 c_1 m (fun c_1000 x_1001 m' => k (.tup [(.agg 4 c_1000), (.flat (.bool x_1001))]) m') := by
  kernel_rfl

theorem fs11 (w0 : World) : FS Try.prog w0 11 G11 := by
  refine (fs_body (Γ := E11) (sound_env (l := [(19, G19)]) w0 (by
    intro p hp
    simp only [List.mem_cons, List.not_mem_nil, or_false] at hp
    rcases hp with rfl
    · exact fs19 w0)) (by kernel_rfl) Try.func11 (Λ := Lam11) (c := (bodyOf Try.f11)) (by kernel_rfl) Try.call11 (by kernel_rfl) (LS_of (bodyOf Try.f11) 0 (by kernel_rfl) (fun i hi => absurd hi (Nat.not_lt_zero i)) 0 (by kernel_rfl) (fun i hi => absurd hi (Nat.not_lt_zero i))) false (np := 2) (Nat.le_of_ble_eq_true (by kernel_rfl))).imp fun args => ?_
  by_cases hl : args.length = 2
  rotate_left
  · exact .inr fun m k hk => by
      unfold G11 at hk
      split at hk
      · exact hl rfl
      · exact hk
  obtain ⟨a0, a1, rfl⟩ : ∃ a0 a1, args = [a0, a1] := len_list2 hl
  rcases kptr_or a0 with ⟨b_0, o_0, rfl⟩ | h
  rotate_left
  · exact .inr fun m k hk => h _ (by simpa only [G11, kI, kbool, kS, kptr, kaggN, kite, decide_true, eq_self] using hk)
  rcases kaggN_or 3 a1 with ⟨c_1, rfl⟩ | h
  rotate_left
  · exact .inr fun m k hk => h _ (by simpa only [G11, kI, kbool, kS, kptr, kaggN, kite, decide_true, eq_self] using hk)
  exact .inl fun m k => propext ⟨fun h => ⟨rfl, by rw [eqn11]; simpa only [G11, kI, kbool, kS, kptr, kaggN, kite, decide_true, eq_self] using h⟩, fun h => by have h := h.2; rw [eqn11] at h; simpa only [G11, kI, kbool, kS, kptr, kaggN, kite, decide_true, eq_self] using h⟩

def E17 : Env := envOf []

/-- (*pianola/cache.Cache).Most -/
def F17 (b_0 o_0 : Nat) (m : Mem) (k : Int → Mem → Prop) : Prop :=
  ldI .i64 m b_0 (o_0 + 0) fun x1 => (Keeps m m ∧ k x1 m)

def G17 (args : List AV) (m : Mem) (k : KV) : Prop := match args with
  | [a0] => kptr a0 fun b_0 o_0 => F17 b_0 o_0 m (fun x_1000 m' => k (.flat (.int .i64 x_1000)) m')
  | _ => False

def Lam17 : LEnv := ⟨fun a σ m k => match firstReg a with
  | _ => bump False,
  fun id => match id with
  | _ => bump false,
  fun b => match keyC b with
  | _ => bump false,
  fun b σ m k => match keyC b with
  | _ => bump False⟩

theorem eqn17 (b_0 o_0 : Nat) (m : Mem) (k : KV) : bodyK Try.prog E17 Lam17 Try.f17 true [(.ptr b_0 o_0)] m k = F17 b_0 o_0 m (fun x_1000 m' => k (.flat (.int .i64 x_1000)) m') := by
  kernel_rfl

theorem fs17 (w0 : World) : FS Try.prog w0 17 G17 := by
  refine (fs_body (Γ := E17) (sound_env (l := []) w0 (by
    intro p hp
    cases hp)) (by kernel_rfl) Try.func17 (Λ := Lam17) (c := (bodyOf Try.f17)) (by kernel_rfl) Try.call17 (by kernel_rfl) (LS_of (bodyOf Try.f17) 0 (by kernel_rfl) (fun i hi => absurd hi (Nat.not_lt_zero i)) 0 (by kernel_rfl) (fun i hi => absurd hi (Nat.not_lt_zero i))) true (np := 1) (Nat.le_of_ble_eq_true (by kernel_rfl))).imp fun args => ?_
  by_cases hl : args.length = 1
  rotate_left
  · exact .inr fun m k hk => by
      unfold G17 at hk
      split at hk
      · exact hl rfl
      · exact hk
  obtain ⟨a0, rfl⟩ : ∃ a0, args = [a0] := len_list1 hl
  rcases kptr_or a0 with ⟨b_0, o_0, rfl⟩ | h
  rotate_left
  · exact .inr fun m k hk => h _ (by simpa only [G17, kI, kbool, kS, kptr, kaggN, kite, decide_true, eq_self] using hk)
  exact .inl fun m k => propext ⟨fun h => ⟨rfl, by rw [eqn17]; simpa only [G17, kI, kbool, kS, kptr, kaggN, kite, decide_true, eq_self] using h⟩, fun h => by have h := h.2; rw [eqn17] at h; simpa only [G17, kI, kbool, kS, kptr, kaggN, kite, decide_true, eq_self] using h⟩

def E12 : Env := envOf [(8, G8), (9, G9), (10, G10), (11, G11), (17, G17), (18, G18)]

/-- pianola/pianolalaw22.known -/
def F12  (m : Mem) (k : Bool → Mem → Prop) : Prop :=
  F8 1 m fun v1 m2 => knilP v1 fun x3 => kif x3 (k false m2) (kptr v1 fun b4 o5 => F18 b4 o5 m2 fun x6 m7 => kif x6 (k false m7) (newK m7 ⟨3, lget [(.flat (.int .u32 0)), (.flat (.int .i64 0)), (.flat (.int .i64 0))], 28, false⟩ fun b9 m8 => newK m8 ⟨3, lget [(.flat (.int .u32 0)), (.flat (.int .i64 0)), (.flat (.int .i64 0))], 28, false⟩ fun b11 m10 => stG 3 m10 b9 0 (upd (lget [(.flat (.int .u32 0)), (.flat (.int .i64 0)), (.flat (.int .i64 0))]) 0 (.flat (.int .u32 4))) fun m12 => stG 3 m12 b11 0 (upd (lget [(.flat (.int .u32 0)), (.flat (.int .i64 0)), (.flat (.int .i64 0))]) 0 (.flat (.int .u32 8))) fun m13 => ldG 3 m13 b9 0 fun c14 => newK m13 ⟨1, upd (lget [(.flat (.int .u32 0))]) 0 (.flat (.int .u32 7)), 26, false⟩ fun b16 m15 => kptr v1 fun b17 o18 => F9 b17 o18 c14 (upd (upd (lget [(.flat (.int .u32 0)), (.flat (.slice none 0 0)), (.flat (.slice none 0 0)), (.flat (.slice none 0 0))]) 0 (.flat (.int .u32 4))) 1 (.sl b16 0 1 (.ex 1))) m15 fun m19 => ldG 3 m19 b11 0 fun c20 => kptr v1 fun b21 o22 => F9 b21 o22 c20 (upd (lget [(.flat (.int .u32 0)), (.flat (.slice none 0 0)), (.flat (.slice none 0 0)), (.flat (.slice none 0 0))]) 0 (.flat (.int .u32 8))) m19 fun m23 => ldG 3 m23 b9 0 fun c24 => kptr v1 fun b25 o26 => F11 b25 o26 c24 m23 fun c27 x28 m29 => newK m29 ⟨4, lget [(.flat (.int .u32 0)), (.flat (.slice none 0 0)), (.flat (.slice none 0 0)), (.flat (.slice none 0 0))], 33, false⟩ fun b31 m30 => stG 4 m30 b31 0 c27 fun m32 => ldG 3 m32 b11 0 fun c33 => kptr v1 fun b34 o35 => F11 b34 o35 c33 m32 fun c36 x37 m38 => newK m38 ⟨4, lget [(.flat (.int .u32 0)), (.flat (.slice none 0 0)), (.flat (.slice none 0 0)), (.flat (.slice none 0 0))], 33, false⟩ fun b40 m39 => stG 4 m39 b40 0 c36 fun m41 => kif (!x28) (kif x37 (kptr v1 fun b42 o43 => F10 b42 o43 m41 fun x44 m45 => kif (x44 == 1) (kptr v1 fun b46 o47 => F17 b46 o47 m45 fun x48 m49 => k (x48 == 1) m49) (k false m45)) (k false m41)) (k false m41)))

def G12 (args : List AV) (m : Mem) (k : KV) : Prop := match args with
  | [] => F12  m (fun x_1000 m' => k (.flat (.bool x_1000)) m')
  | _ => False

def Lam12 : LEnv := ⟨fun a σ m k => match firstReg a with
  | _ => bump False,
  fun id => match id with
  | _ => bump false,
  fun b => match keyC b with
  | _ => bump false,
  fun b σ m k => match keyC b with
  | _ => bump False⟩

theorem eqn12  (m : Mem) (k : KV) : bodyK Try.prog E12 Lam12 Try.f12 false [] m k = F12  m (fun x_1000 m' => k (.flat (.bool x_1000)) m') := by
  kernel_rfl

theorem fs12 (w0 : World) : FS Try.prog w0 12 G12 := by
  refine (fs_body (Γ := E12) (sound_env (l := [(8, G8), (9, G9), (10, G10), (11, G11), (17, G17), (18, G18)]) w0 (by
    intro p hp
    simp only [List.mem_cons, List.not_mem_nil, or_false] at hp
    rcases hp with rfl | rfl | rfl | rfl | rfl | rfl
    · exact fs8 w0
    · exact fs9 w0
    · exact fs10 w0
    · exact fs11 w0
    · exact fs17 w0
    · exact fs18 w0)) (by kernel_rfl) Try.func12 (Λ := Lam12) (c := (bodyOf Try.f12)) (by kernel_rfl) Try.call12 (by kernel_rfl) (LS_of (bodyOf Try.f12) 0 (by kernel_rfl) (fun i hi => absurd hi (Nat.not_lt_zero i)) 0 (by kernel_rfl) (fun i hi => absurd hi (Nat.not_lt_zero i))) false (np := 0) (Nat.le_of_ble_eq_true (by kernel_rfl))).imp fun args => ?_
  by_cases hl : args.length = 0
  rotate_left
  · exact .inr fun m k hk => by
      unfold G12 at hk
      split at hk
      · exact hl rfl
      · exact hk
  obtain rfl : args = [] := len_list0 hl

  exact .inl fun m k => propext ⟨fun h => ⟨rfl, by rw [eqn12]; simpa only [G12, kI, kbool, kS, kptr, kaggN, kite, decide_true, eq_self] using h⟩, fun h => by have h := h.2; rw [eqn12] at h; simpa only [G12, kI, kbool, kS, kptr, kaggN, kite, decide_true, eq_self] using h⟩

def E3 : Env := envOf [(7, G7), (8, G8), (9, G9), (10, G10), (11, G11), (12, G12)]

def R3_8 (v_1 : AV) (x_5 : Int) (v_6 : AV) (b_7 o_7 : Nat) (x_8 : Int) (m : Mem) (kn : Int → Mem → Prop) (k0 : Mem → Prop) (kr : Bool → Mem → Prop) : Prop :=
  klen v_1 fun x13 => kif (decide (x_8 < x13)) (kif (decide (x_8 < 50)) (ksl v_1 fun b14 o15 l16 p17 => kif (decide (0 ≤ x_8) && decide (x_8 < l16)) (ldI .u32 m b14 (o15 + (x_8).toNat * 1) fun x18 => ksl v_1 fun b19 o20 l21 p22 => kif (decide (0 ≤ x_8) && decide (x_8 < l21)) (ldI .u32 m b19 (o20 + (x_8).toNat * 1) fun x23 => kptr v_6 fun b24 o25 => F9 b24 o25 (upd (lget [(.flat (.int .u32 0)), (.flat (.int .i64 0)), (.flat (.int .i64 0))]) 0 (.flat (.int .u32 (IntKind.wrap .u32 (8 + (IntKind.wrap .u32 ((x18.tmod 100) * 4))))))) (upd (lget [(.flat (.int .u32 0)), (.flat (.slice none 0 0)), (.flat (.slice none 0 0)), (.flat (.slice none 0 0))]) 0 (.flat (.int .u32 (IntKind.wrap .u32 (8 + (IntKind.wrap .u32 ((x23.tmod 100) * 4))))))) m fun m26 => kptr v_6 fun b27 o28 => F10 b27 o28 m26 fun x29 m30 => kif (decide (x29 > x_5)) (kr false m30) (ldG 3 m30 b_7 o_7 fun c31 => kptr v_6 fun b32 o33 => F11 b32 o33 c31 m30 fun c34 x35 m36 => newK m36 ⟨4, lget [(.flat (.int .u32 0)), (.flat (.slice none 0 0)), (.flat (.slice none 0 0)), (.flat (.slice none 0 0))], 33, false⟩ fun b38 m37 => stG 4 m37 b38 0 c34 fun m39 => kif (!(x35 == (decide (x_5 > 1)))) (kr false m39) (kn (IntKind.wrap .i64 (x_8 + 1)) m39))) False) False) (k0  m)) (k0  m)

def L3_8 (v_1 : AV) (x_5 : Int) (v_6 : AV) (b_7 o_7 : Nat) : Nat → Int → Mem → (Mem → Prop) → (Bool → Mem → Prop) → Prop
  | 0, _,  _, _, _ => bump False
  | N + 1, x_8,  m, k0, kr => R3_8 v_1 x_5 v_6 b_7 o_7 x_8 m (fun x_8' m' => L3_8 v_1 x_5 v_6 b_7 o_7 N x_8' m' k0 kr) k0 kr

/-- pianola/pianolalaw22.CacheRoom -/
def F3 (x_0 : Int) (v_1 : AV) (m : Mem) (k : Bool → Mem → Prop) : Prop :=
  F7 x_0 1 10 m fun x1 m2 => F8 x1 m2 fun v3 m4 => knilP v3 fun x5 => kif x5 (k false m4) (newK m4 ⟨3, lget [(.flat (.int .u32 0)), (.flat (.int .i64 0)), (.flat (.int .i64 0))], 28, false⟩ fun b7 m6 => stG 3 m6 b7 0 (upd (lget [(.flat (.int .u32 0)), (.flat (.int .i64 0)), (.flat (.int .i64 0))]) 0 (.flat (.int .u32 4))) fun m8 => ldG 3 m8 b7 0 fun c9 => kptr v3 fun b10 o11 => F9 b10 o11 c9 (upd (lget [(.flat (.int .u32 0)), (.flat (.slice none 0 0)), (.flat (.slice none 0 0)), (.flat (.slice none 0 0))]) 0 (.flat (.int .u32 4))) m8 fun m12 => ∃ N43, L3_8 v_1 x1 v3 b7 0 N43 0 m12 (fun m40 => F12  m40 fun x44 m45 => k x44 m45) (fun x41 m42 => k x41 m42))

def G3 (args : List AV) (m : Mem) (k : KV) : Prop := match args with
  | [a0, a1] => kI .i64 a0 fun x_0 => F3 x_0 a1 m (fun x_1000 m' => k (.flat (.bool x_1000)) m')
  | _ => False

def Lam3_8 (σ : Nat → AV) (m : Mem) (k : KX) : Prop := kI .i64 (σ 5) fun x_5 => kptr (σ 7) fun b_7 o_7 => kI .i64 (σ 8) fun x_8 => ∃ N, L3_8 (σ 1) x_5 (σ 6) b_7 o_7 N x_8 m (fun m' => k (.exit 0) (only [] []) m') (fun x_4' m' => k .ret (only [4] [(.flat (.bool x_4'))]) m')

def Lam3 : LEnv := ⟨fun a σ m k => match firstReg a with
  | some 8 => Lam3_8 σ m k
  | _ => bump False,
  fun id => match id with
  | _ => bump false,
  fun b => match keyC b with
  | _ => bump false,
  fun b σ m k => match keyC b with
  | _ => bump False⟩

def lx3_8 : Ex → List Nat := fun e => match e with
  | .exit 0 => []
  | .ret => [4]
  | _ => []

theorem round3_8 (v_1 : AV) (x_5 : Int) (v_6 : AV) (b_7 o_7 : Nat) (x_8 : Int) (m : Mem) (G : List AV → Mem → Prop) (k : KX) : (wpA Try.prog E3 Lam3 ((loopsOf (bodyOf Try.f3)).getD 0 .skip) (only [1, 5, 6, 7, 8] [v_1, (.flat (.int .i64 x_5)), v_6, (.ptr b_7 o_7), (.flat (.int .i64 x_8))]) m fun e σ' m' => match e with
    | .normal => G ([1, 5, 6, 7, 8].map σ') m'
    | .exit id => k (.exit id) (only (lx3_8 (.exit id)) ((lx3_8 (.exit id)).map σ')) m'
    | .ret => k .ret (only (lx3_8 .ret) ((lx3_8 .ret).map σ')) m') = R3_8 v_1 x_5 v_6 b_7 o_7 x_8 m (fun x_8' m' => G [v_1, (.flat (.int .i64 x_5)), v_6, (.ptr b_7 o_7), (.flat (.int .i64 x_8'))] m') (fun m' => k (.exit 0) (only [] []) m') (fun x_4' m' => k .ret (only [4] [(.flat (.bool x_4'))]) m') := by
  kernel_rfl

theorem loop3_8 (v_1 : AV) (x_5 : Int) (v_6 : AV) (b_7 o_7 : Nat) (k : KX) : ∀ (N : Nat) (x_8 : Int) (m : Mem), rounds Try.prog E3 Lam3 [1, 5, 6, 7, 8] lx3_8 ((loopsOf (bodyOf Try.f3)).getD 0 .skip) N [v_1, (.flat (.int .i64 x_5)), v_6, (.ptr b_7 o_7), (.flat (.int .i64 x_8))] m k = L3_8 v_1 x_5 v_6 b_7 o_7 N x_8 m (fun m' => k (.exit 0) (only [] []) m') (fun x_4' m' => k .ret (only [4] [(.flat (.bool x_4'))]) m') := by
  intro N
  induction N with
  | zero => intros; rfl
  | succ N ih =>
    intro x_8 m
    refine (round3_8 v_1 x_5 v_6 b_7 o_7 x_8 m (fun vs m' => rounds Try.prog E3 Lam3 [1, 5, 6, 7, 8] lx3_8 ((loopsOf (bodyOf Try.f3)).getD 0 .skip) N vs m' k) k).trans ?_
    simp only [ih]
    rfl

theorem lok3_8 : LoopOK Try.prog E3 Lam3 ((loopsOf (bodyOf Try.f3)).getD 0 .skip) := by
  refine ⟨fun σ => ∃ v_1 x_5 v_6 b_7 o_7 x_8, σ 1 = v_1 ∧ σ 5 = .flat (.int .i64 x_5) ∧ σ 6 = v_6 ∧ σ 7 = .ptr b_7 o_7 ∧ σ 8 = .flat (.int .i64 x_8), [1, 5, 6, 7, 8], lx3_8, fun σ m k => ?_⟩
  have e : Lam3.loop ((loopsOf (bodyOf Try.f3)).getD 0 .skip) σ m k = Lam3_8 σ m k := by kernel_rfl
  rw [e]
  constructor
  · intro h
    unfold Lam3_8 at h
    obtain ⟨v_1, h0⟩ : ∃ v, σ 1 = v := ⟨_, rfl⟩
    obtain ⟨x_5, h1, h⟩ := kI_ok h
    obtain ⟨v_6, h2⟩ : ∃ v, σ 6 = v := ⟨_, rfl⟩
    obtain ⟨b_7, o_7, h3, h⟩ := kptr_ok h
    obtain ⟨x_8, h4, h⟩ := kI_ok h
    obtain ⟨N, h⟩ := h
    refine ⟨⟨v_1, x_5, v_6, b_7, o_7, x_8, h0, h1, h2, h3, h4⟩, N, ?_⟩
    have ev : [1, 5, 6, 7, 8].map σ = [v_1, (.flat (.int .i64 x_5)), v_6, (.ptr b_7 o_7), (.flat (.int .i64 x_8))] := by simp only [List.map_cons, List.map_nil, h0, h1, h2, h3, h4]
    rw [ev, loop3_8]
    simp only [h0, h2] at h
    exact h
  · rintro ⟨⟨v_1, x_5, v_6, b_7, o_7, x_8, h0, h1, h2, h3, h4⟩, N, h⟩
    have ev : [1, 5, 6, 7, 8].map σ = [v_1, (.flat (.int .i64 x_5)), v_6, (.ptr b_7 o_7), (.flat (.int .i64 x_8))] := by simp only [List.map_cons, List.map_nil, h0, h1, h2, h3, h4]
    rw [ev, loop3_8] at h
    unfold Lam3_8
    try simp only [h0, h1, h2, h3, h4, kI, kbool, kS, kptr, kaggN, kite, decide_true, eq_self]
    exact ⟨N, h⟩

theorem eqn3 (x_0 : Int) (v_1 : AV) (m : Mem) (k : KV) : bodyK Try.prog E3 Lam3 Try.f3 false [(.flat (.int .i64 x_0)), v_1] m k = F3 x_0 v_1 m (fun x_1000 m' => k (.flat (.bool x_1000)) m') := by
  kernel_rfl

theorem fs3 (w0 : World) : FS Try.prog w0 3 G3 := by
  refine (fs_body (Γ := E3) (sound_env (l := [(7, G7), (8, G8), (9, G9), (10, G10), (11, G11), (12, G12)]) w0 (by
    intro p hp
    simp only [List.mem_cons, List.not_mem_nil, or_false] at hp
    rcases hp with rfl | rfl | rfl | rfl | rfl | rfl
    · exact fs7 w0
    · exact fs8 w0
    · exact fs9 w0
    · exact fs10 w0
    · exact fs11 w0
    · exact fs12 w0)) (by kernel_rfl) Try.func3 (Λ := Lam3) (c := (bodyOf Try.f3)) (by kernel_rfl) Try.call3 (by kernel_rfl) (LS_of (bodyOf Try.f3) 1 (by kernel_rfl) (by
    intro i hi
    match i, hi with
    | 0, _ => exact lok3_8
    | i + 1, hi => omega) 0 (by kernel_rfl) (fun i hi => absurd hi (Nat.not_lt_zero i))) false (np := 2) (Nat.le_of_ble_eq_true (by kernel_rfl))).imp fun args => ?_
  by_cases hl : args.length = 2
  rotate_left
  · exact .inr fun m k hk => by
      unfold G3 at hk
      split at hk
      · exact hl rfl
      · exact hk
  obtain ⟨a0, a1, rfl⟩ : ∃ a0 a1, args = [a0, a1] := len_list2 hl
  rcases kI_or .i64 a0 with ⟨x_0, rfl⟩ | h
  rotate_left
  · exact .inr fun m k hk => h _ (by simpa only [G3, kI, kbool, kS, kptr, kaggN, kite, decide_true, eq_self] using hk)
  exact .inl fun m k => propext ⟨fun h => ⟨rfl, by rw [eqn3]; simpa only [G3, kI, kbool, kS, kptr, kaggN, kite, decide_true, eq_self] using h⟩, fun h => by have h := h.2; rw [eqn3] at h; simpa only [G3, kI, kbool, kS, kptr, kaggN, kite, decide_true, eq_self] using h⟩

end Go.Proofs.Ytjeijigchdnblaa.Am
