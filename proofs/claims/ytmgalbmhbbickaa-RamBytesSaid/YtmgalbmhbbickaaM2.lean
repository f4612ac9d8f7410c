/- What Go functions ask of what follows them, as plain functions over the abstract machine; the machine asks just that. Written by gen.py. -/
import Derived.Test.YtmgalbmhbbickaaProg
import Derived.Test.YtmgalbmhbbickaaAmL
import Derived.Test.YtmgalbmhbbickaaM1
namespace Go.Proofs.Ytmgalbmhbbickaa.Am
set_option linter.unusedVariables false
set_option linter.unusedSimpArgs false
set_option maxRecDepth 100000

/-- (*pianola/pianolaref2.Ram).Put -/
def F29 (b_0 o_0 : Nat) (x_1 : Int) (v_2 : AV) (m : Mem) (k : Bool → Mem → Prop) : Prop :=
  klen v_2 fun x1 => F34 b_0 o_0 x_1 x1 m fun x2 m3 => kif (!x2) (k false m3) (ldA m3 b_0 (o_0 + 0) fun v4 => slS 1 v4 (some x_1) none fun v5 => copS 1 v5 v_2 m3 fun v6 m7 => klen v_2 fun x8 => F35 b_0 o_0 x_1 x8 m7 fun m9 => k true m9)

def G29 (args : List AV) (m : Mem) (k : KV) : Prop := match args with
  | [a0, a1, a2] => kptr a0 fun b_0 o_0 => kI .u32 a1 fun x_1 => F29 b_0 o_0 x_1 a2 m (fun x_1000 m' => k (.flat (.bool x_1000)) m')
  | _ => False

def E29 : Env := envOf [(34, G34), (35, G35)]

def Lam29 : LEnv := ⟨fun a σ m k => match firstReg a with
  | _ => bump False,
  fun id => match id with
  | _ => bump false,
  fun b => match keyC b with
  | _ => bump false,
  fun b σ m k => match keyC b with
  | _ => bump False⟩

theorem eqn29 (b_0 o_0 : Nat) (x_1 : Int) (v_2 : AV) (m : Mem) (k : KV) : bodyK Try.prog E29 Lam29 Try.f29 false [(.ptr b_0 o_0), (.flat (.int .u32 x_1)), v_2] m k = F29 b_0 o_0 x_1 v_2 m (fun x_1000 m' => k (.flat (.bool x_1000)) m') := by
  kernel_rfl

theorem fs29 (w0 : World) : FS Try.prog w0 29 G29 := by
  refine (fs_body (Γ := E29) (sound_env (l := [(34, G34), (35, G35)]) w0 (by
    intro p hp
    simp only [List.mem_cons, List.not_mem_nil, or_false] at hp
    rcases hp with rfl | rfl
    · exact fs34 w0
    · exact fs35 w0)) (by kernel_rfl) Try.func29 (Λ := Lam29) (c := (bodyOf Try.f29)) (by kernel_rfl) Try.call29 (by kernel_rfl) (LS_of (bodyOf Try.f29) 0 (by kernel_rfl) (fun i hi => absurd hi (Nat.not_lt_zero i)) 0 (by kernel_rfl) (fun i hi => absurd hi (Nat.not_lt_zero i))) false (np := 3) (Nat.le_of_ble_eq_true (by kernel_rfl))).imp fun args => ?_
  by_cases hl : args.length = 3
  rotate_left
  · exact .inr fun m k hk => by
      unfold G29 at hk
      split at hk
      · exact hl rfl
      · exact hk
  obtain ⟨a0, a1, a2, rfl⟩ : ∃ a0 a1 a2, args = [a0, a1, a2] := len_list3 hl
  rcases kptr_or a0 with ⟨b_0, o_0, rfl⟩ | h
  rotate_left
  · exact .inr fun m k hk => h _ (by simpa only [G29, kI, kbool, kS, kptr, kaggN, kite, decide_true, eq_self] using hk)
  rcases kI_or .u32 a1 with ⟨x_1, rfl⟩ | h
  rotate_left
  · exact .inr fun m k hk => h _ (by simpa only [G29, kI, kbool, kS, kptr, kaggN, kite, decide_true, eq_self] using hk)
  exact .inl fun m k => propext ⟨fun h => ⟨rfl, by rw [eqn29]; simpa only [G29, kI, kbool, kS, kptr, kaggN, kite, decide_true, eq_self] using h⟩, fun h => by have h := h.2; rw [eqn29] at h; simpa only [G29, kI, kbool, kS, kptr, kaggN, kite, decide_true, eq_self] using h⟩

/-- (*pianola/pianolaref2.Ram).Bytes -/
def F30 (b_0 o_0 : Nat) (x_1 : Int) (x_2 : Int) (m : Mem) (k : AV → Bool → Mem → Prop) : Prop :=
  F34 b_0 o_0 x_1 x_2 m fun x1 m2 => kif (!x1) (k (.flat (.slice none 0 0)) false m2) (newK m2 ⟨0, lget [], 5, false⟩ fun b4 m3 => ldA m3 b_0 (o_0 + 0) fun v5 => slS 1 v5 (some x_1) (some (IntKind.wrap .i64 ((IntKind.wrap .i64 x_1) + x_2))) fun v6 => appS 1 1 5 (.sl b4 0 0 (.ex 0)) v6 m3 fun v7 m8 => k v7 true m8)

def G30 (args : List AV) (m : Mem) (k : KV) : Prop := match args with
  | [a0, a1, a2] => kptr a0 fun b_0 o_0 => kI .u32 a1 fun x_1 => kI .i64 a2 fun x_2 => F30 b_0 o_0 x_1 x_2 m (fun v_1000 x_1001 m' => k (.tup [v_1000, (.flat (.bool x_1001))]) m')
  | _ => False

def E30 : Env := envOf [(34, G34)]

def Lam30 : LEnv := ⟨fun a σ m k => match firstReg a with
  | _ => bump False,
  fun id => match id with
  | _ => bump false,
  fun b => match keyC b with
  | _ => bump false,
  fun b σ m k => match keyC b with
  | _ => bump False⟩

theorem eqn30 (b_0 o_0 : Nat) (x_1 : Int) (x_2 : Int) (m : Mem) (k : KV) : bodyK Try.prog E30 Lam30 Try.f30 false [(.ptr b_0 o_0), (.flat (.int .u32 x_1)), (.flat (.int .i64 x_2))] m k = F30 b_0 o_0 x_1 x_2 m (fun v_1000 x_1001 m' => k (.tup [v_1000, (.flat (.bool x_1001))]) m') := by
  kernel_rfl

theorem fs30 (w0 : World) : FS Try.prog w0 30 G30 := by
  refine (fs_body (Γ := E30) (sound_env (l := [(34, G34)]) w0 (by
    intro p hp
    simp only [List.mem_cons, List.not_mem_nil, or_false] at hp
    rcases hp with rfl
    · exact fs34 w0)) (by kernel_rfl) Try.func30 (Λ := Lam30) (c := (bodyOf Try.f30)) (by kernel_rfl) Try.call30 (by kernel_rfl) (LS_of (bodyOf Try.f30) 0 (by kernel_rfl) (fun i hi => absurd hi (Nat.not_lt_zero i)) 0 (by kernel_rfl) (fun i hi => absurd hi (Nat.not_lt_zero i))) false (np := 3) (Nat.le_of_ble_eq_true (by kernel_rfl))).imp fun args => ?_
  by_cases hl : args.length = 3
  rotate_left
  · exact .inr fun m k hk => by
      unfold G30 at hk
      split at hk
      · exact hl rfl
      · exact hk
  obtain ⟨a0, a1, a2, rfl⟩ : ∃ a0 a1 a2, args = [a0, a1, a2] := len_list3 hl
  rcases kptr_or a0 with ⟨b_0, o_0, rfl⟩ | h
  rotate_left
  · exact .inr fun m k hk => h _ (by simpa only [G30, kI, kbool, kS, kptr, kaggN, kite, decide_true, eq_self] using hk)
  rcases kI_or .u32 a1 with ⟨x_1, rfl⟩ | h
  rotate_left
  · exact .inr fun m k hk => h _ (by simpa only [G30, kI, kbool, kS, kptr, kaggN, kite, decide_true, eq_self] using hk)
  rcases kI_or .i64 a2 with ⟨x_2, rfl⟩ | h
  rotate_left
  · exact .inr fun m k hk => h _ (by simpa only [G30, kI, kbool, kS, kptr, kaggN, kite, decide_true, eq_self] using hk)
  exact .inl fun m k => propext ⟨fun h => ⟨rfl, by rw [eqn30]; simpa only [G30, kI, kbool, kS, kptr, kaggN, kite, decide_true, eq_self] using h⟩, fun h => by have h := h.2; rw [eqn30] at h; simpa only [G30, kI, kbool, kS, kptr, kaggN, kite, decide_true, eq_self] using h⟩

/-- (*pianola/pianolaref2.Ram).Mark -/
def F31 (b_0 o_0 : Nat) (x_1 : Int) (x_2 : Bool) (m : Mem) (k : Mem → Prop) : Prop :=
  kif (decide (x_1 < 0)) (k  m) (ldA m b_0 (o_0 + 1) fun v1 => klen v1 fun x2 => kif (decide (x_1 ≥ x2)) (k  m) (ldA m b_0 (o_0 + 1) fun v3 => ksl v3 fun b4 o5 l6 p7 => kif (decide (0 ≤ x_1) && decide (x_1 < l6)) (stC m b4 (o5 + (x_1).toNat * 1) (.flat (.bool x_2)) fun m8 => kif (!x_2) (ldA m8 b_0 (o_0 + 2) fun v9 => ksl v9 fun b10 o11 l12 p13 => kif (decide (0 ≤ x_1) && decide (x_1 < l12)) (stC m8 b10 (o11 + (x_1).toNat * 1) (.flat (.bool false)) fun m14 => k  m14) False) (k  m8)) False))

def G31 (args : List AV) (m : Mem) (k : KV) : Prop := match args with
  | [a0, a1, a2] => kptr a0 fun b_0 o_0 => kI .i64 a1 fun x_1 => kbool a2 fun x_2 => F31 b_0 o_0 x_1 x_2 m (fun m' => k (.tup []) m')
  | _ => False

def E31 : Env := envOf []

def Lam31 : LEnv := ⟨fun a σ m k => match firstReg a with
  | _ => bump False,
  fun id => match id with
  | _ => bump false,
  fun b => match keyC b with
  | _ => bump false,
  fun b σ m k => match keyC b with
  | _ => bump False⟩

theorem eqn31 (b_0 o_0 : Nat) (x_1 : Int) (x_2 : Bool) (m : Mem) (k : KV) : bodyK Try.prog E31 Lam31 Try.f31 false [(.ptr b_0 o_0), (.flat (.int .i64 x_1)), (.flat (.bool x_2))] m k = F31 b_0 o_0 x_1 x_2 m (fun m' => k (.tup []) m') := by
  kernel_rfl

theorem fs31 (w0 : World) : FS Try.prog w0 31 G31 := by
  refine (fs_body (Γ := E31) (sound_env (l := []) w0 (by
    intro p hp
    cases hp)) (by kernel_rfl) Try.func31 (Λ := Lam31) (c := (bodyOf Try.f31)) (by kernel_rfl) Try.call31 (by kernel_rfl) (LS_of (bodyOf Try.f31) 0 (by kernel_rfl) (fun i hi => absurd hi (Nat.not_lt_zero i)) 0 (by kernel_rfl) (fun i hi => absurd hi (Nat.not_lt_zero i))) false (np := 3) (Nat.le_of_ble_eq_true (by kernel_rfl))).imp fun args => ?_
  by_cases hl : args.length = 3
  rotate_left
  · exact .inr fun m k hk => by
      unfold G31 at hk
      split at hk
      · exact hl rfl
      · exact hk
  obtain ⟨a0, a1, a2, rfl⟩ : ∃ a0 a1 a2, args = [a0, a1, a2] := len_list3 hl
  rcases kptr_or a0 with ⟨b_0, o_0, rfl⟩ | h
  rotate_left
  · exact .inr fun m k hk => h _ (by simpa only [G31, kI, kbool, kS, kptr, kaggN, kite, decide_true, eq_self] using hk)
  rcases kI_or .i64 a1 with ⟨x_1, rfl⟩ | h
  rotate_left
  · exact .inr fun m k hk => h _ (by simpa only [G31, kI, kbool, kS, kptr, kaggN, kite, decide_true, eq_self] using hk)
  rcases kbool_or a2 with ⟨x_2, rfl⟩ | h
  rotate_left
  · exact .inr fun m k hk => h _ (by simpa only [G31, kI, kbool, kS, kptr, kaggN, kite, decide_true, eq_self] using hk)
  exact .inl fun m k => propext ⟨fun h => ⟨rfl, by rw [eqn31]; simpa only [G31, kI, kbool, kS, kptr, kaggN, kite, decide_true, eq_self] using h⟩, fun h => by have h := h.2; rw [eqn31] at h; simpa only [G31, kI, kbool, kS, kptr, kaggN, kite, decide_true, eq_self] using h⟩

/-- (*pianola/ram.Ram).Unmark -/
def F32 (b_0 o_0 : Nat) (x_1 : Int) (m : Mem) (k : Mem → Prop) : Prop :=
  F20 b_0 o_0 x_1 m fun x1 m2 => kif x1 (ldA m2 b_0 (o_0 + 1) fun v3 => ldA m2 b_0 (o_0 + 2) fun v4 => ksl v3 fun b5 o6 l7 p8 => kif (decide (0 ≤ x_1) && decide (x_1 < l7)) (stC m2 b5 (o6 + (x_1).toNat * 1) (.flat (.bool false)) fun m9 => ksl v4 fun b10 o11 l12 p13 => kif (decide (0 ≤ x_1) && decide (x_1 < l12)) (stC m9 b10 (o11 + (x_1).toNat * 1) (.flat (.bool false)) fun m14 => k  m14) False) False) (k  m2)

def G32 (args : List AV) (m : Mem) (k : KV) : Prop := match args with
  | [a0, a1] => kptr a0 fun b_0 o_0 => kI .i64 a1 fun x_1 => F32 b_0 o_0 x_1 m (fun m' => k (.tup []) m')
  | _ => False

def E32 : Env := envOf [(20, G20)]

def Lam32 : LEnv := ⟨fun a σ m k => match firstReg a with
  | _ => bump False,
  fun id => match id with
  | _ => bump false,
  fun b => match keyC b with
  | _ => bump false,
  fun b σ m k => match keyC b with
  | _ => bump False⟩

theorem eqn32 (b_0 o_0 : Nat) (x_1 : Int) (m : Mem) (k : KV) : bodyK Try.prog E32 Lam32 Try.f32 false [(.ptr b_0 o_0), (.flat (.int .i64 x_1))] m k = F32 b_0 o_0 x_1 m (fun m' => k (.tup []) m') := by
  kernel_rfl

theorem fs32 (w0 : World) : FS Try.prog w0 32 G32 := by
  refine (fs_body (Γ := E32) (sound_env (l := [(20, G20)]) w0 (by
    intro p hp
    simp only [List.mem_cons, List.not_mem_nil, or_false] at hp
    rcases hp with rfl
    · exact fs20 w0)) (by kernel_rfl) Try.func32 (Λ := Lam32) (c := (bodyOf Try.f32)) (by kernel_rfl) Try.call32 (by kernel_rfl) (LS_of (bodyOf Try.f32) 0 (by kernel_rfl) (fun i hi => absurd hi (Nat.not_lt_zero i)) 0 (by kernel_rfl) (fun i hi => absurd hi (Nat.not_lt_zero i))) false (np := 2) (Nat.le_of_ble_eq_true (by kernel_rfl))).imp fun args => ?_
  by_cases hl : args.length = 2
  rotate_left
  · exact .inr fun m k hk => by
      unfold G32 at hk
      split at hk
      · exact hl rfl
      · exact hk
  obtain ⟨a0, a1, rfl⟩ : ∃ a0 a1, args = [a0, a1] := len_list2 hl
  rcases kptr_or a0 with ⟨b_0, o_0, rfl⟩ | h
  rotate_left
  · exact .inr fun m k hk => h _ (by simpa only [G32, kI, kbool, kS, kptr, kaggN, kite, decide_true, eq_self] using hk)
  rcases kI_or .i64 a1 with ⟨x_1, rfl⟩ | h
  rotate_left
  · exact .inr fun m k hk => h _ (by simpa only [G32, kI, kbool, kS, kptr, kaggN, kite, decide_true, eq_self] using hk)
  exact .inl fun m k => propext ⟨fun h => ⟨rfl, by rw [eqn32]; simpa only [G32, kI, kbool, kS, kptr, kaggN, kite, decide_true, eq_self] using h⟩, fun h => by have h := h.2; rw [eqn32] at h; simpa only [G32, kI, kbool, kS, kptr, kaggN, kite, decide_true, eq_self] using h⟩

def R33_5 (b_0 o_0 : Nat) (x_1 : Int) (x_2 : Int) (x_8 : Int) (x_9 : Int) (m : Mem) (kn : Int → Int → Mem → Prop) (k0 : Int → Mem → Prop) : Prop :=
  kif (decide (x_9 < x_2)) (ldA m b_0 (o_0 + 0) fun v7 => ksl v7 fun b8 o9 l10 p11 => kif (decide (0 ≤ IntKind.wrap .i64 ((IntKind.wrap .i64 x_1) + x_9)) && decide (IntKind.wrap .i64 ((IntKind.wrap .i64 x_1) + x_9) < l10)) (ldI .u8 m b8 (o9 + (IntKind.wrap .i64 ((IntKind.wrap .i64 x_1) + x_9)).toNat * 1) fun x12 => kn (bits .or .u32 (IntKind.wrap .u32 (x_8 * 256)) (IntKind.wrap .u32 x12)) (IntKind.wrap .i64 (x_9 + 1)) m) False) (k0 x_8 m)

def L33_5 (b_0 o_0 : Nat) (x_1 : Int) (x_2 : Int) : Nat → Int → Int → Mem → (Int → Mem → Prop) → Prop
  | 0, _, _,  _, _ => bump False
  | N + 1, x_8, x_9,  m, k0 => R33_5 b_0 o_0 x_1 x_2 x_8 x_9 m (fun x_8' x_9' m' => L33_5 b_0 o_0 x_1 x_2 N x_8' x_9' m' k0) k0

def P33_3102 (b_0 o_0 : Nat) (x_1 : Int) (x_2 : Int) (m : Mem) (kr : Int → Bool → Mem → Prop) : Prop :=
  ∃ N15, L33_5 b_0 o_0 x_1 x_2 N15 0 0 m (fun x13 m14 => kr x13 true m14)

/-- (*pianola/pianolaref2.Ram).Load -/
def F33 (b_0 o_0 : Nat) (x_1 : Int) (x_2 : Int) (m : Mem) (k : Int → Bool → Mem → Prop) : Prop :=
  kif (x_2 != 1) (kif (x_2 != 2) (kif (x_2 != 4) ((Keeps m m ∧ k 0 false m)) (kif (decide (IntKind.wrap .u32 x_2 = 0)) False (kif ((x_1.tmod (IntKind.wrap .u32 x_2)) != 0) ((Keeps m m ∧ k 0 false m)) (F34 b_0 o_0 x_1 x_2 m fun x1 m2 => kif (!x1) ((Keeps m m2 ∧ k 0 false m)) (P33_3102 b_0 o_0 x_1 x_2 m2 (fun x16 x17 m18 => (Keeps m m18 ∧ k x16 x17 m))))))) (kif (decide (IntKind.wrap .u32 x_2 = 0)) False (kif ((x_1.tmod (IntKind.wrap .u32 x_2)) != 0) ((Keeps m m ∧ k 0 false m)) (F34 b_0 o_0 x_1 x_2 m fun x3 m4 => kif (!x3) ((Keeps m m4 ∧ k 0 false m)) (P33_3102 b_0 o_0 x_1 x_2 m4 (fun x19 x20 m21 => (Keeps m m21 ∧ k x19 x20 m))))))) (kif (decide (IntKind.wrap .u32 x_2 = 0)) False (kif ((x_1.tmod (IntKind.wrap .u32 x_2)) != 0) ((Keeps m m ∧ k 0 false m)) (F34 b_0 o_0 x_1 x_2 m fun x5 m6 => kif (!x5) ((Keeps m m6 ∧ k 0 false m)) (P33_3102 b_0 o_0 x_1 x_2 m6 (fun x22 x23 m24 => (Keeps m m24 ∧ k x22 x23 m))))))

def G33 (args : List AV) (m : Mem) (k : KV) : Prop := match args with
  | [a0, a1, a2] => kptr a0 fun b_0 o_0 => kI .u32 a1 fun x_1 => kI .i64 a2 fun x_2 => F33 b_0 o_0 x_1 x_2 m (fun x_1000 x_1001 m' => k (.tup [(.flat (.int .u32 x_1000)), (.flat (.bool x_1001))]) m')
  | _ => False

def E33 : Env := envOf [(34, G34)]

def LamP33_3102 (σ : Nat → AV) (m : Mem) (k : KX) : Prop := kptr (σ 0) fun b_0 o_0 => kI .u32 (σ 1) fun x_1 => kI .i64 (σ 2) fun x_2 => P33_3102 b_0 o_0 x_1 x_2 m (fun x_6' x_7' m' => k .ret (only [6, 7] [(.flat (.int .u32 x_6')), (.flat (.bool x_7'))]) m')

def Lam33_5 (σ : Nat → AV) (m : Mem) (k : KX) : Prop := kptr (σ 0) fun b_0 o_0 => kI .u32 (σ 1) fun x_1 => kI .i64 (σ 2) fun x_2 => kI .u32 (σ 8) fun x_8 => kI .i64 (σ 9) fun x_9 => ∃ N, L33_5 b_0 o_0 x_1 x_2 N x_8 x_9 m (fun x_8' m' => k (.exit 0) (only [8] [(.flat (.int .u32 x_8'))]) m')

def Lam33 : LEnv := ⟨fun a σ m k => match firstReg a with
  | some 5 => Lam33_5 σ m k
  | _ => bump False,
  fun id => match id with
  | _ => bump false,
  fun b => match keyC b with
  | some 3102 => true
  | _ => bump false,
  fun b σ m k => match keyC b with
  | some 3102 => LamP33_3102 σ m k
  | _ => bump False⟩

def lx33_5 : Ex → List Nat := fun e => match e with
  | .exit 0 => [8]
  | _ => []

theorem round33_5 (b_0 o_0 : Nat) (x_1 : Int) (x_2 : Int) (x_8 : Int) (x_9 : Int) (m : Mem) (G : List AV → Mem → Prop) (k : KX) : (wpA Try.prog E33 Lam33 ((loopsOf (bodyOf Try.f33)).getD 0 .skip) (only [0, 1, 2, 8, 9] [(.ptr b_0 o_0), (.flat (.int .u32 x_1)), (.flat (.int .i64 x_2)), (.flat (.int .u32 x_8)), (.flat (.int .i64 x_9))]) m fun e σ' m' => match e with
    | .normal => G ([0, 1, 2, 8, 9].map σ') m'
    | .exit id => k (.exit id) (only (lx33_5 (.exit id)) ((lx33_5 (.exit id)).map σ')) m'
    | .ret => k .ret (only (lx33_5 .ret) ((lx33_5 .ret).map σ')) m') = R33_5 b_0 o_0 x_1 x_2 x_8 x_9 m (fun x_8' x_9' m' => G [(.ptr b_0 o_0), (.flat (.int .u32 x_1)), (.flat (.int .i64 x_2)), (.flat (.int .u32 x_8')), (.flat (.int .i64 x_9'))] m') (fun x_8' m' => k (.exit 0) (only [8] [(.flat (.int .u32 x_8'))]) m') := by
  kernel_rfl

theorem loop33_5 (b_0 o_0 : Nat) (x_1 : Int) (x_2 : Int) (k : KX) : ∀ (N : Nat) (x_8 : Int) (x_9 : Int) (m : Mem), rounds Try.prog E33 Lam33 [0, 1, 2, 8, 9] lx33_5 ((loopsOf (bodyOf Try.f33)).getD 0 .skip) N [(.ptr b_0 o_0), (.flat (.int .u32 x_1)), (.flat (.int .i64 x_2)), (.flat (.int .u32 x_8)), (.flat (.int .i64 x_9))] m k = L33_5 b_0 o_0 x_1 x_2 N x_8 x_9 m (fun x_8' m' => k (.exit 0) (only [8] [(.flat (.int .u32 x_8'))]) m') := by
  intro N
  induction N with
  | zero => intros; rfl
  | succ N ih =>
    intro x_8 x_9 m
    refine (round33_5 b_0 o_0 x_1 x_2 x_8 x_9 m (fun vs m' => rounds Try.prog E33 Lam33 [0, 1, 2, 8, 9] lx33_5 ((loopsOf (bodyOf Try.f33)).getD 0 .skip) N vs m' k) k).trans ?_
    simp only [ih]
    rfl

theorem lok33_5 : LoopOK Try.prog E33 Lam33 ((loopsOf (bodyOf Try.f33)).getD 0 .skip) := by
  refine ⟨fun σ => ∃ b_0 o_0 x_1 x_2 x_8 x_9, σ 0 = .ptr b_0 o_0 ∧ σ 1 = .flat (.int .u32 x_1) ∧ σ 2 = .flat (.int .i64 x_2) ∧ σ 8 = .flat (.int .u32 x_8) ∧ σ 9 = .flat (.int .i64 x_9), [0, 1, 2, 8, 9], lx33_5, fun σ m k => ?_⟩
  have e : Lam33.loop ((loopsOf (bodyOf Try.f33)).getD 0 .skip) σ m k = Lam33_5 σ m k := by kernel_rfl
  rw [e]
  constructor
  · intro h
    unfold Lam33_5 at h
    obtain ⟨b_0, o_0, h0, h⟩ := kptr_ok h
    obtain ⟨x_1, h1, h⟩ := kI_ok h
    obtain ⟨x_2, h2, h⟩ := kI_ok h
    obtain ⟨x_8, h3, h⟩ := kI_ok h
    obtain ⟨x_9, h4, h⟩ := kI_ok h
    obtain ⟨N, h⟩ := h
    refine ⟨⟨b_0, o_0, x_1, x_2, x_8, x_9, h0, h1, h2, h3, h4⟩, N, ?_⟩
    have ev : [0, 1, 2, 8, 9].map σ = [(.ptr b_0 o_0), (.flat (.int .u32 x_1)), (.flat (.int .i64 x_2)), (.flat (.int .u32 x_8)), (.flat (.int .i64 x_9))] := by simp only [List.map_cons, List.map_nil, h0, h1, h2, h3, h4]
    rw [ev, loop33_5]
    exact h
  · rintro ⟨⟨b_0, o_0, x_1, x_2, x_8, x_9, h0, h1, h2, h3, h4⟩, N, h⟩
    have ev : [0, 1, 2, 8, 9].map σ = [(.ptr b_0 o_0), (.flat (.int .u32 x_1)), (.flat (.int .i64 x_2)), (.flat (.int .u32 x_8)), (.flat (.int .i64 x_9))] := by simp only [List.map_cons, List.map_nil, h0, h1, h2, h3, h4]
    rw [ev, loop33_5] at h
    unfold Lam33_5
    try simp only [h0, h1, h2, h3, h4, kI, kbool, kS, kptr, kaggN, kite, decide_true, eq_self]
    exact ⟨N, h⟩

def lxp33_3102 : Ex → List Nat := fun e => match e with
  | .ret => [6, 7]
  | _ => []

theorem pc33_3102 (b_0 o_0 : Nat) (x_1 : Int) (x_2 : Int) (m : Mem) (k : KX) : once Try.prog E33 Lam33 [0, 1, 2] lxp33_3102 (((secsOf (bodyOf Try.f33)).filter Lam33.cut).getD 0 .skip) [(.ptr b_0 o_0), (.flat (.int .u32 x_1)), (.flat (.int .i64 x_2))] m k = P33_3102 b_0 o_0 x_1 x_2 m (fun x_6' x_7' m' => k .ret (only [6, 7] [(.flat (.int .u32 x_6')), (.flat (.bool x_7'))]) m') := by
  kernel_rfl

theorem pok33_3102 : PieceOK Try.prog E33 Lam33 (((secsOf (bodyOf Try.f33)).filter Lam33.cut).getD 0 .skip) := by
  refine ⟨fun σ => ∃ b_0 o_0 x_1 x_2, σ 0 = .ptr b_0 o_0 ∧ σ 1 = .flat (.int .u32 x_1) ∧ σ 2 = .flat (.int .i64 x_2), [0, 1, 2], lxp33_3102, fun σ m k => ?_⟩
  have e : Lam33.piece (((secsOf (bodyOf Try.f33)).filter Lam33.cut).getD 0 .skip) σ m k = LamP33_3102 σ m k := by kernel_rfl
  rw [e]
  constructor
  · intro h
    unfold LamP33_3102 at h
    obtain ⟨b_0, o_0, h0, h⟩ := kptr_ok h
    obtain ⟨x_1, h1, h⟩ := kI_ok h
    obtain ⟨x_2, h2, h⟩ := kI_ok h
    refine ⟨⟨b_0, o_0, x_1, x_2, h0, h1, h2⟩, ?_⟩
    have ev : [0, 1, 2].map σ = [(.ptr b_0 o_0), (.flat (.int .u32 x_1)), (.flat (.int .i64 x_2))] := by simp only [List.map_cons, List.map_nil, h0, h1, h2]
    rw [ev, pc33_3102]
    exact h
  · rintro ⟨⟨b_0, o_0, x_1, x_2, h0, h1, h2⟩, h⟩
    have ev : [0, 1, 2].map σ = [(.ptr b_0 o_0), (.flat (.int .u32 x_1)), (.flat (.int .i64 x_2))] := by simp only [List.map_cons, List.map_nil, h0, h1, h2]
    rw [ev, pc33_3102] at h
    unfold LamP33_3102
    try simp only [h0, h1, h2, kI, kbool, kS, kptr, kaggN, kite, decide_true, eq_self]
    exact h

theorem eqn33 (b_0 o_0 : Nat) (x_1 : Int) (x_2 : Int) (m : Mem) (k : KV) : bodyK Try.prog E33 Lam33 Try.f33 true [(.ptr b_0 o_0), (.flat (.int .u32 x_1)), (.flat (.int .i64 x_2))] m k = F33 b_0 o_0 x_1 x_2 m (fun x_1000 x_1001 m' => k (.tup [(.flat (.int .u32 x_1000)), (.flat (.bool x_1001))]) m') := by
  kernel_rfl

theorem fs33 (w0 : World) : FS Try.prog w0 33 G33 := by
  refine (fs_body (Γ := E33) (sound_env (l := [(34, G34)]) w0 (by
    intro p hp
    simp only [List.mem_cons, List.not_mem_nil, or_false] at hp
    rcases hp with rfl
    · exact fs34 w0)) (by kernel_rfl) Try.func33 (Λ := Lam33) (c := (bodyOf Try.f33)) (by kernel_rfl) Try.call33 (by kernel_rfl) (LS_of (bodyOf Try.f33) 1 (by kernel_rfl) (by
    intro i hi
    match i, hi with
    | 0, _ => exact lok33_5
    | i + 1, hi => omega) 1 (by kernel_rfl) (by
    intro i hi
    match i, hi with
    | 0, _ => exact pok33_3102
    | i + 1, hi => omega)) true (np := 3) (Nat.le_of_ble_eq_true (by kernel_rfl))).imp fun args => ?_
  by_cases hl : args.length = 3
  rotate_left
  · exact .inr fun m k hk => by
      unfold G33 at hk
      split at hk
      · exact hl rfl
      · exact hk
  obtain ⟨a0, a1, a2, rfl⟩ : ∃ a0 a1 a2, args = [a0, a1, a2] := len_list3 hl
  rcases kptr_or a0 with ⟨b_0, o_0, rfl⟩ | h
  rotate_left
  · exact .inr fun m k hk => h _ (by simpa only [G33, kI, kbool, kS, kptr, kaggN, kite, decide_true, eq_self] using hk)
  rcases kI_or .u32 a1 with ⟨x_1, rfl⟩ | h
  rotate_left
  · exact .inr fun m k hk => h _ (by simpa only [G33, kI, kbool, kS, kptr, kaggN, kite, decide_true, eq_self] using hk)
  rcases kI_or .i64 a2 with ⟨x_2, rfl⟩ | h
  rotate_left
  · exact .inr fun m k hk => h _ (by simpa only [G33, kI, kbool, kS, kptr, kaggN, kite, decide_true, eq_self] using hk)
  exact .inl fun m k => propext ⟨fun h => ⟨rfl, by rw [eqn33]; simpa only [G33, kI, kbool, kS, kptr, kaggN, kite, decide_true, eq_self] using h⟩, fun h => by have h := h.2; rw [eqn33] at h; simpa only [G33, kI, kbool, kS, kptr, kaggN, kite, decide_true, eq_self] using h⟩

def P26_29102 (b_0 o_0 : Nat) (b_1 o_1 : Nat) (b_5 o_5 : Nat) (x_12 : Int) (x_13 : Bool) (x_14 : Int) (x_15 : Bool) (x_16 : Bool) (m : Mem) (kr : Bool → Mem → Prop) : Prop :=
  kif (x_12 == x_14) (kif (x_13 == x_15) (ldI .i64 m b_5 (o_5 + 2) fun x77 => F11 b_0 o_0 x77 m fun x78 m79 => kif x_16 (ldA m79 b_1 (o_1 + 1) fun v80 => ldI .i64 m79 b_5 (o_5 + 2) fun x81 => ksl v80 fun b82 o83 l84 p85 => kif (decide (0 ≤ x81) && decide (x81 < l84)) (ldB m79 b82 (o83 + (x81).toNat * 1) fun x86 => kr (x78 == x86) m79) False) (kr (x78 == false) m79)) (kr false m)) (kr false m)

def P26_26102 (b_0 o_0 : Nat) (b_1 o_1 : Nat) (b_5 o_5 : Nat) (m : Mem) (kr : Bool → Mem → Prop) : Prop :=
  ldI .u32 m b_5 (o_5 + 3) fun x63 => ldI .i64 m b_5 (o_5 + 1) fun x64 => F16 b_0 o_0 x63 x64 m fun x65 x66 m67 => ldI .u32 m67 b_5 (o_5 + 3) fun x68 => ldI .i64 m67 b_5 (o_5 + 1) fun x69 => F33 b_1 o_1 x68 x69 m67 fun x70 x71 m72 => ldI .i64 m72 b_5 (o_5 + 2) fun x73 => kif (decide (x73 ≥ 0)) (ldI .i64 m72 b_5 (o_5 + 2) fun x74 => ldA m72 b_1 (o_1 + 1) fun v75 => klen v75 fun x76 => P26_29102 b_0 o_0 b_1 o_1 b_5 o_5 x65 x66 x70 x71 (decide (x74 < x76)) m72 (fun x87 m88 => kr x87 m88)) (P26_29102 b_0 o_0 b_1 o_1 b_5 o_5 x65 x66 x70 x71 false m72 (fun x89 m90 => kr x89 m90))

def P26_10102 (b_0 o_0 : Nat) (b_1 o_1 : Nat) (b_5 o_5 : Nat) (v_7 : AV) (m : Mem) (kr : Bool → Mem → Prop) (kn : Mem → Prop) : Prop :=
  ∃ Fr18 : Nat → Prop, Fr18 b_5 ∧ (ldI .u32 m b_5 (o_5 + 3) fun x19 => F17 b_0 o_0 x19 v_7 m fun x20 m21 => KeepsIn Fr18 m m21 ∧ (Fr18 b_5 ∧ (ldI .u32 m21 b_5 (o_5 + 3) fun x22 => F29 b_1 o_1 x22 v_7 m21 fun x23 m24 => KeepsIn Fr18 m21 m24 ∧ (kif (!(x20 == x23)) (kr false m24) (kn  m24)))))

def P26_4004 (b_0 o_0 : Nat) (b_1 o_1 : Nat) (b_5 o_5 : Nat) (x_18 : Int) (x_19 : Bool) (m : Mem) (kr : Bool → Mem → Prop) (kn : Mem → Prop) : Prop :=
  kif x_19 (∃ Fr4 : Nat → Prop, Fr4 b_5 ∧ (ldI .u32 m b_5 (o_5 + 3) fun x5 => Fr4 b_5 ∧ (ldI .i64 m b_5 (o_5 + 1) fun x6 => Fr4 b_5 ∧ (ldI .u32 m b_5 (o_5 + 4) fun x7 => F10 b_0 o_0 x5 x6 x7 m fun x8 m9 => KeepsIn Fr4 m m9 ∧ (Fr4 b_5 ∧ (ldI .u32 m9 b_5 (o_5 + 3) fun x10 => Fr4 b_5 ∧ (ldI .i64 m9 b_5 (o_5 + 1) fun x11 => Fr4 b_5 ∧ (ldI .u32 m9 b_5 (o_5 + 4) fun x12 => F28 b_1 o_1 x10 x11 x12 m9 fun x13 m14 => KeepsIn Fr4 m9 m14 ∧ (kif (!(x8 == x13)) (kr false m14) (kn  m14)))))))))) (kif (x_18 == 4) (ldA m b_5 (o_5 + 5) fun v15 => klen v15 fun x16 => kif (decide (x16 > 50)) (slS 1 v15 none (some 50) fun v17 => P26_10102 b_0 o_0 b_1 o_1 b_5 o_5 v17 m (fun x25 m26 => kr x25 m26) (fun m27 => kn  m27)) (P26_10102 b_0 o_0 b_1 o_1 b_5 o_5 v15 m (fun x28 m29 => kr x28 m29) (fun m30 => kn  m30))) (kif (x_18 == 5) (ldI .u32 m b_5 (o_5 + 3) fun x31 => ldI .i64 m b_5 (o_5 + 1) fun x32 => F15 b_0 o_0 x31 x32 m fun v33 x34 m35 => ldI .u32 m35 b_5 (o_5 + 3) fun x36 => ldI .i64 m35 b_5 (o_5 + 1) fun x37 => F30 b_1 o_1 x36 x37 m35 fun v38 x39 m40 => kif (!(x34 == x39)) (kr false m40) (kstr v33 m40 fun z41 => kstr v38 m40 fun z42 => kif (!(z41.toList == z42.toList)) (kr false m40) (kn  m40))) (kif (x_18 == 6) (ldI .i64 m b_5 (o_5 + 2) fun x43 => F9 b_0 o_0 x43 m fun m44 => ldI .i64 m44 b_5 (o_5 + 2) fun x45 => F31 b_1 o_1 x45 true m44 fun m46 => kn  m46) (kif (x_18 == 7) (ldI .i64 m b_5 (o_5 + 2) fun x47 => F32 b_0 o_0 x47 m fun m48 => ldI .i64 m48 b_5 (o_5 + 2) fun x49 => F31 b_1 o_1 x49 false m48 fun m50 => kn  m50) (kif (x_18 == 8) (F13 b_0 o_0 m fun v51 m52 => F27 b_1 o_1 m52 fun v53 m54 => F12 v51 v53 m54 fun x55 m56 => kif (!x55) (kr false m56) (kn  m56)) (kn  m))))))

/-- pianola/pianolalaw2.do -/
def F26 (b_0 o_0 : Nat) (b_1 o_1 : Nat) (c_2 : Nat → AV) (m : Mem) (k : Bool → Mem → Prop) : Prop :=
  newK m ⟨6, c_2, 46, false⟩ fun b2 m1 => ldI .i64 m1 b2 0 fun x3 => kif (x3 == 0) (P26_4004 b_0 o_0 b_1 o_1 b2 0 x3 (x3 == 0) m1 (fun x57 m58 => k x57 m58) (fun m59 => P26_26102 b_0 o_0 b_1 o_1 b2 0 m59 (fun x91 m92 => k x91 m92))) (P26_4004 b_0 o_0 b_1 o_1 b2 0 x3 (x3 == 1) m1 (fun x60 m61 => k x60 m61) (fun m62 => P26_26102 b_0 o_0 b_1 o_1 b2 0 m62 (fun x93 m94 => k x93 m94)))

def G26 (args : List AV) (m : Mem) (k : KV) : Prop := match args with
  | [a0, a1, a2] => kptr a0 fun b_0 o_0 => kptr a1 fun b_1 o_1 => kaggN 6 a2 fun c_2 => F26 b_0 o_0 b_1 o_1 c_2 m (fun x_1000 m' => k (.flat (.bool x_1000)) m')
  | _ => False

def E26 : Env := envOf [(9, G9), (10, G10), (11, G11), (12, G12), (13, G13), (15, G15), (16, G16), (17, G17), (27, G27), (28, G28), (29, G29), (30, G30), (31, G31), (32, G32), (33, G33)]

def LamP26_4004 (σ : Nat → AV) (m : Mem) (k : KX) : Prop := kptr (σ 0) fun b_0 o_0 => kptr (σ 1) fun b_1 o_1 => kptr (σ 5) fun b_5 o_5 => kI .i64 (σ 18) fun x_18 => kbool (σ 19) fun x_19 => P26_4004 b_0 o_0 b_1 o_1 b_5 o_5 x_18 x_19 m (fun x_6' m' => k .ret (only [6] [(.flat (.bool x_6'))]) m') (fun m' => k .normal (only [0, 1, 5] [(.ptr b_0 o_0), (.ptr b_1 o_1), (.ptr b_5 o_5)]) m')

def LamP26_10102 (σ : Nat → AV) (m : Mem) (k : KX) : Prop := kptr (σ 0) fun b_0 o_0 => kptr (σ 1) fun b_1 o_1 => kptr (σ 5) fun b_5 o_5 => P26_10102 b_0 o_0 b_1 o_1 b_5 o_5 (σ 7) m (fun x_6' m' => k .ret (only [6] [(.flat (.bool x_6'))]) m') (fun m' => k .normal (only [0, 1, 5] [(.ptr b_0 o_0), (.ptr b_1 o_1), (.ptr b_5 o_5)]) m')

def LamP26_26102 (σ : Nat → AV) (m : Mem) (k : KX) : Prop := kptr (σ 0) fun b_0 o_0 => kptr (σ 1) fun b_1 o_1 => kptr (σ 5) fun b_5 o_5 => P26_26102 b_0 o_0 b_1 o_1 b_5 o_5 m (fun x_6' m' => k .ret (only [6] [(.flat (.bool x_6'))]) m')

def LamP26_29102 (σ : Nat → AV) (m : Mem) (k : KX) : Prop := kptr (σ 0) fun b_0 o_0 => kptr (σ 1) fun b_1 o_1 => kptr (σ 5) fun b_5 o_5 => kI .u32 (σ 12) fun x_12 => kbool (σ 13) fun x_13 => kI .u32 (σ 14) fun x_14 => kbool (σ 15) fun x_15 => kbool (σ 16) fun x_16 => P26_29102 b_0 o_0 b_1 o_1 b_5 o_5 x_12 x_13 x_14 x_15 x_16 m (fun x_6' m' => k .ret (only [6] [(.flat (.bool x_6'))]) m')

def Lam26 : LEnv := ⟨fun a σ m k => match firstReg a with
  | _ => bump False,
  fun id => match id with
  | 4 => true
  | 10 => true
  | _ => bump false,
  fun b => match keyC b with
  | some 4004 => true
  | some 10102 => true
  | some 26102 => true
  | some 29102 => true
  | _ => bump false,
  fun b σ m k => match keyC b with
  | some 4004 => LamP26_4004 σ m k
  | some 10102 => LamP26_10102 σ m k
  | some 26102 => LamP26_26102 σ m k
  | some 29102 => LamP26_29102 σ m k
  | _ => bump False⟩

def lxp26_29102 : Ex → List Nat := fun e => match e with
  | .ret => [6]
  | _ => []

theorem pc26_29102 (b_0 o_0 : Nat) (b_1 o_1 : Nat) (b_5 o_5 : Nat) (x_12 : Int) (x_13 : Bool) (x_14 : Int) (x_15 : Bool) (x_16 : Bool) (m : Mem) (k : KX) : once Try.prog E26 Lam26 [0, 1, 5, 12, 13, 14, 15, 16] lxp26_29102 (((secsOf (bodyOf Try.f26)).filter Lam26.cut).getD 3 .skip) [(.ptr b_0 o_0), (.ptr b_1 o_1), (.ptr b_5 o_5), (.flat (.int .u32 x_12)), (.flat (.bool x_13)), (.flat (.int .u32 x_14)), (.flat (.bool x_15)), (.flat (.bool x_16))] m k = P26_29102 b_0 o_0 b_1 o_1 b_5 o_5 x_12 x_13 x_14 x_15 x_16 m (fun x_6' m' => k .ret (only [6] [(.flat (.bool x_6'))]) m') := by
  kernel_rfl

theorem pok26_29102 : PieceOK Try.prog E26 Lam26 (((secsOf (bodyOf Try.f26)).filter Lam26.cut).getD 3 .skip) := by
  refine ⟨fun σ => ∃ b_0 o_0 b_1 o_1 b_5 o_5 x_12 x_13 x_14 x_15 x_16, σ 0 = .ptr b_0 o_0 ∧ σ 1 = .ptr b_1 o_1 ∧ σ 5 = .ptr b_5 o_5 ∧ σ 12 = .flat (.int .u32 x_12) ∧ σ 13 = .flat (.bool x_13) ∧ σ 14 = .flat (.int .u32 x_14) ∧ σ 15 = .flat (.bool x_15) ∧ σ 16 = .flat (.bool x_16), [0, 1, 5, 12, 13, 14, 15, 16], lxp26_29102, fun σ m k => ?_⟩
  have e : Lam26.piece (((secsOf (bodyOf Try.f26)).filter Lam26.cut).getD 3 .skip) σ m k = LamP26_29102 σ m k := by kernel_rfl
  rw [e]
  constructor
  · intro h
    unfold LamP26_29102 at h
    obtain ⟨b_0, o_0, h0, h⟩ := kptr_ok h
    obtain ⟨b_1, o_1, h1, h⟩ := kptr_ok h
    obtain ⟨b_5, o_5, h2, h⟩ := kptr_ok h
    obtain ⟨x_12, h3, h⟩ := kI_ok h
    obtain ⟨x_13, h4, h⟩ := kbool_ok h
    obtain ⟨x_14, h5, h⟩ := kI_ok h
    obtain ⟨x_15, h6, h⟩ := kbool_ok h
    obtain ⟨x_16, h7, h⟩ := kbool_ok h
    refine ⟨⟨b_0, o_0, b_1, o_1, b_5, o_5, x_12, x_13, x_14, x_15, x_16, h0, h1, h2, h3, h4, h5, h6, h7⟩, ?_⟩
    have ev : [0, 1, 5, 12, 13, 14, 15, 16].map σ = [(.ptr b_0 o_0), (.ptr b_1 o_1), (.ptr b_5 o_5), (.flat (.int .u32 x_12)), (.flat (.bool x_13)), (.flat (.int .u32 x_14)), (.flat (.bool x_15)), (.flat (.bool x_16))] := by simp only [List.map_cons, List.map_nil, h0, h1, h2, h3, h4, h5, h6, h7]
    rw [ev, pc26_29102]
    exact h
  · rintro ⟨⟨b_0, o_0, b_1, o_1, b_5, o_5, x_12, x_13, x_14, x_15, x_16, h0, h1, h2, h3, h4, h5, h6, h7⟩, h⟩
    have ev : [0, 1, 5, 12, 13, 14, 15, 16].map σ = [(.ptr b_0 o_0), (.ptr b_1 o_1), (.ptr b_5 o_5), (.flat (.int .u32 x_12)), (.flat (.bool x_13)), (.flat (.int .u32 x_14)), (.flat (.bool x_15)), (.flat (.bool x_16))] := by simp only [List.map_cons, List.map_nil, h0, h1, h2, h3, h4, h5, h6, h7]
    rw [ev, pc26_29102] at h
    unfold LamP26_29102
    try simp only [h0, h1, h2, h3, h4, h5, h6, h7, kI, kbool, kS, kptr, kaggN, kite, decide_true, eq_self]
    exact h

def lxp26_26102 : Ex → List Nat := fun e => match e with
  | .ret => [6]
  | _ => []

theorem pc26_26102 (b_0 o_0 : Nat) (b_1 o_1 : Nat) (b_5 o_5 : Nat) (m : Mem) (k : KX) : once Try.prog E26 Lam26 [0, 1, 5] lxp26_26102 (((secsOf (bodyOf Try.f26)).filter Lam26.cut).getD 0 .skip) [(.ptr b_0 o_0), (.ptr b_1 o_1), (.ptr b_5 o_5)] m k = P26_26102 b_0 o_0 b_1 o_1 b_5 o_5 m (fun x_6' m' => k .ret (only [6] [(.flat (.bool x_6'))]) m') := by
  kernel_rfl

theorem pok26_26102 : PieceOK Try.prog E26 Lam26 (((secsOf (bodyOf Try.f26)).filter Lam26.cut).getD 0 .skip) := by
  refine ⟨fun σ => ∃ b_0 o_0 b_1 o_1 b_5 o_5, σ 0 = .ptr b_0 o_0 ∧ σ 1 = .ptr b_1 o_1 ∧ σ 5 = .ptr b_5 o_5, [0, 1, 5], lxp26_26102, fun σ m k => ?_⟩
  have e : Lam26.piece (((secsOf (bodyOf Try.f26)).filter Lam26.cut).getD 0 .skip) σ m k = LamP26_26102 σ m k := by kernel_rfl
  rw [e]
  constructor
  · intro h
    unfold LamP26_26102 at h
    obtain ⟨b_0, o_0, h0, h⟩ := kptr_ok h
    obtain ⟨b_1, o_1, h1, h⟩ := kptr_ok h
    obtain ⟨b_5, o_5, h2, h⟩ := kptr_ok h
    refine ⟨⟨b_0, o_0, b_1, o_1, b_5, o_5, h0, h1, h2⟩, ?_⟩
    have ev : [0, 1, 5].map σ = [(.ptr b_0 o_0), (.ptr b_1 o_1), (.ptr b_5 o_5)] := by simp only [List.map_cons, List.map_nil, h0, h1, h2]
    rw [ev, pc26_26102]
    exact h
  · rintro ⟨⟨b_0, o_0, b_1, o_1, b_5, o_5, h0, h1, h2⟩, h⟩
    have ev : [0, 1, 5].map σ = [(.ptr b_0 o_0), (.ptr b_1 o_1), (.ptr b_5 o_5)] := by simp only [List.map_cons, List.map_nil, h0, h1, h2]
    rw [ev, pc26_26102] at h
    unfold LamP26_26102
    try simp only [h0, h1, h2, kI, kbool, kS, kptr, kaggN, kite, decide_true, eq_self]
    exact h

def lxp26_10102 : Ex → List Nat := fun e => match e with
  | .ret => [6]
  | .normal => [0, 1, 5]
  | _ => []

theorem pc26_10102 (b_0 o_0 : Nat) (b_1 o_1 : Nat) (b_5 o_5 : Nat) (v_7 : AV) (m : Mem) (k : KX) : once Try.prog E26 Lam26 [0, 1, 5, 7] lxp26_10102 (((secsOf (bodyOf Try.f26)).filter Lam26.cut).getD 2 .skip) [(.ptr b_0 o_0), (.ptr b_1 o_1), (.ptr b_5 o_5), v_7] m k = P26_10102 b_0 o_0 b_1 o_1 b_5 o_5 v_7 m (fun x_6' m' => k .ret (only [6] [(.flat (.bool x_6'))]) m') (fun m' => k .normal (only [0, 1, 5] [(.ptr b_0 o_0), (.ptr b_1 o_1), (.ptr b_5 o_5)]) m') := by
  kernel_rfl

theorem pok26_10102 : PieceOK Try.prog E26 Lam26 (((secsOf (bodyOf Try.f26)).filter Lam26.cut).getD 2 .skip) := by
  refine ⟨fun σ => ∃ b_0 o_0 b_1 o_1 b_5 o_5 v_7, σ 0 = .ptr b_0 o_0 ∧ σ 1 = .ptr b_1 o_1 ∧ σ 5 = .ptr b_5 o_5 ∧ σ 7 = v_7, [0, 1, 5, 7], lxp26_10102, fun σ m k => ?_⟩
  have e : Lam26.piece (((secsOf (bodyOf Try.f26)).filter Lam26.cut).getD 2 .skip) σ m k = LamP26_10102 σ m k := by kernel_rfl
  rw [e]
  constructor
  · intro h
    unfold LamP26_10102 at h
    obtain ⟨b_0, o_0, h0, h⟩ := kptr_ok h
    obtain ⟨b_1, o_1, h1, h⟩ := kptr_ok h
    obtain ⟨b_5, o_5, h2, h⟩ := kptr_ok h
    obtain ⟨v_7, h3⟩ : ∃ v, σ 7 = v := ⟨_, rfl⟩
    refine ⟨⟨b_0, o_0, b_1, o_1, b_5, o_5, v_7, h0, h1, h2, h3⟩, ?_⟩
    have ev : [0, 1, 5, 7].map σ = [(.ptr b_0 o_0), (.ptr b_1 o_1), (.ptr b_5 o_5), v_7] := by simp only [List.map_cons, List.map_nil, h0, h1, h2, h3]
    rw [ev, pc26_10102]
    simp only [h3] at h
    exact h
  · rintro ⟨⟨b_0, o_0, b_1, o_1, b_5, o_5, v_7, h0, h1, h2, h3⟩, h⟩
    have ev : [0, 1, 5, 7].map σ = [(.ptr b_0 o_0), (.ptr b_1 o_1), (.ptr b_5 o_5), v_7] := by simp only [List.map_cons, List.map_nil, h0, h1, h2, h3]
    rw [ev, pc26_10102] at h
    unfold LamP26_10102
    try simp only [h0, h1, h2, h3, kI, kbool, kS, kptr, kaggN, kite, decide_true, eq_self]
    exact h

def lxp26_4004 : Ex → List Nat := fun e => match e with
  | .ret => [6]
  | .normal => [0, 1, 5]
  | _ => []

theorem pc26_4004 (b_0 o_0 : Nat) (b_1 o_1 : Nat) (b_5 o_5 : Nat) (x_18 : Int) (x_19 : Bool) (m : Mem) (k : KX) : once Try.prog E26 Lam26 [0, 1, 5, 18, 19] lxp26_4004 (((secsOf (bodyOf Try.f26)).filter Lam26.cut).getD 1 .skip) [(.ptr b_0 o_0), (.ptr b_1 o_1), (.ptr b_5 o_5), (.flat (.int .i64 x_18)), (.flat (.bool x_19))] m k = P26_4004 b_0 o_0 b_1 o_1 b_5 o_5 x_18 x_19 m (fun x_6' m' => k .ret (only [6] [(.flat (.bool x_6'))]) m') (fun m' => k .normal (only [0, 1, 5] [(.ptr b_0 o_0), (.ptr b_1 o_1), (.ptr b_5 o_5)]) m') := by
  kernel_rfl

theorem pok26_4004 : PieceOK Try.prog E26 Lam26 (((secsOf (bodyOf Try.f26)).filter Lam26.cut).getD 1 .skip) := by
  refine ⟨fun σ => ∃ b_0 o_0 b_1 o_1 b_5 o_5 x_18 x_19, σ 0 = .ptr b_0 o_0 ∧ σ 1 = .ptr b_1 o_1 ∧ σ 5 = .ptr b_5 o_5 ∧ σ 18 = .flat (.int .i64 x_18) ∧ σ 19 = .flat (.bool x_19), [0, 1, 5, 18, 19], lxp26_4004, fun σ m k => ?_⟩
  have e : Lam26.piece (((secsOf (bodyOf Try.f26)).filter Lam26.cut).getD 1 .skip) σ m k = LamP26_4004 σ m k := by kernel_rfl
  rw [e]
  constructor
  · intro h
    unfold LamP26_4004 at h
    obtain ⟨b_0, o_0, h0, h⟩ := kptr_ok h
    obtain ⟨b_1, o_1, h1, h⟩ := kptr_ok h
    obtain ⟨b_5, o_5, h2, h⟩ := kptr_ok h
    obtain ⟨x_18, h3, h⟩ := kI_ok h
    obtain ⟨x_19, h4, h⟩ := kbool_ok h
    refine ⟨⟨b_0, o_0, b_1, o_1, b_5, o_5, x_18, x_19, h0, h1, h2, h3, h4⟩, ?_⟩
    have ev : [0, 1, 5, 18, 19].map σ = [(.ptr b_0 o_0), (.ptr b_1 o_1), (.ptr b_5 o_5), (.flat (.int .i64 x_18)), (.flat (.bool x_19))] := by simp only [List.map_cons, List.map_nil, h0, h1, h2, h3, h4]
    rw [ev, pc26_4004]
    exact h
  · rintro ⟨⟨b_0, o_0, b_1, o_1, b_5, o_5, x_18, x_19, h0, h1, h2, h3, h4⟩, h⟩
    have ev : [0, 1, 5, 18, 19].map σ = [(.ptr b_0 o_0), (.ptr b_1 o_1), (.ptr b_5 o_5), (.flat (.int .i64 x_18)), (.flat (.bool x_19))] := by simp only [List.map_cons, List.map_nil, h0, h1, h2, h3, h4]
    rw [ev, pc26_4004] at h
    unfold LamP26_4004
    try simp only [h0, h1, h2, h3, h4, kI, kbool, kS, kptr, kaggN, kite, decide_true, eq_self]
    exact h

theorem eqn26 (b_0 o_0 : Nat) (b_1 o_1 : Nat) (c_2 : Nat → AV) (m : Mem) (k : KV) : bodyK Try.prog E26 Lam26 Try.f26 false [(.ptr b_0 o_0), (.ptr b_1 o_1), (.agg 6 c_2)] m k = F26 b_0 o_0 b_1 o_1 c_2 m (fun x_1000 m' => k (.flat (.bool x_1000)) m') := by
  kernel_rfl

theorem fs26 (w0 : World) : FS Try.prog w0 26 G26 := by
  refine (fs_body (Γ := E26) (sound_env (l := [(9, G9), (10, G10), (11, G11), (12, G12), (13, G13), (15, G15), (16, G16), (17, G17), (27, G27), (28, G28), (29, G29), (30, G30), (31, G31), (32, G32), (33, G33)]) w0 (by
    intro p hp
    simp only [List.mem_cons, List.not_mem_nil, or_false] at hp
    rcases hp with rfl | rfl | rfl | rfl | rfl | rfl | rfl | rfl | rfl | rfl | rfl | rfl | rfl | rfl | rfl
    · exact fs9 w0
    · exact fs10 w0
    · exact fs11 w0
    · exact fs12 w0
    · exact fs13 w0
    · exact fs15 w0
    · exact fs16 w0
    · exact fs17 w0
    · exact fs27 w0
    · exact fs28 w0
    · exact fs29 w0
    · exact fs30 w0
    · exact fs31 w0
    · exact fs32 w0
    · exact fs33 w0)) (by kernel_rfl) Try.func26 (Λ := Lam26) (c := (bodyOf Try.f26)) (by kernel_rfl) Try.call26 (by kernel_rfl) (LS_of (bodyOf Try.f26) 0 (by kernel_rfl) (fun i hi => absurd hi (Nat.not_lt_zero i)) 4 (by kernel_rfl) (by
    intro i hi
    match i, hi with
    | 0, _ => exact pok26_26102
    | 1, _ => exact pok26_4004
    | 2, _ => exact pok26_10102
    | 3, _ => exact pok26_29102
    | i + 4, hi => omega)) false (np := 3) (Nat.le_of_ble_eq_true (by kernel_rfl))).imp fun args => ?_
  by_cases hl : args.length = 3
  rotate_left
  · exact .inr fun m k hk => by
      unfold G26 at hk
      split at hk
      · exact hl rfl
      · exact hk
  obtain ⟨a0, a1, a2, rfl⟩ : ∃ a0 a1 a2, args = [a0, a1, a2] := len_list3 hl
  rcases kptr_or a0 with ⟨b_0, o_0, rfl⟩ | h
  rotate_left
  · exact .inr fun m k hk => h _ (by simpa only [G26, kI, kbool, kS, kptr, kaggN, kite, decide_true, eq_self] using hk)
  rcases kptr_or a1 with ⟨b_1, o_1, rfl⟩ | h
  rotate_left
  · exact .inr fun m k hk => h _ (by simpa only [G26, kI, kbool, kS, kptr, kaggN, kite, decide_true, eq_self] using hk)
  rcases kaggN_or 6 a2 with ⟨c_2, rfl⟩ | h
  rotate_left
  · exact .inr fun m k hk => h _ (by simpa only [G26, kI, kbool, kS, kptr, kaggN, kite, decide_true, eq_self] using hk)
  exact .inl fun m k => propext ⟨fun h => ⟨rfl, by rw [eqn26]; simpa only [G26, kI, kbool, kS, kptr, kaggN, kite, decide_true, eq_self] using h⟩, fun h => by have h := h.2; rw [eqn26] at h; simpa only [G26, kI, kbool, kS, kptr, kaggN, kite, decide_true, eq_self] using h⟩

def P18_12102 (v_1 : AV) (x_2 : Bool) (v_7 : AV) (v_8 : AV) (x_9 : Int) (b_10 o_10 : Nat) (m : Mem) (kr : Bool → Mem → Prop) (kn : Mem → Prop) : Prop :=
  ldG 6 m b_10 o_10 fun c46 => kptr v_7 fun b47 o48 => kptr v_8 fun b49 o50 => F26 b47 o48 b49 o50 c46 m fun x51 m52 => kif (!x51) (kr false m52) (kn  m52)

def R18_5 (v_1 : AV) (x_2 : Bool) (v_7 : AV) (v_8 : AV) (x_9 : Int) (m : Mem) (kn : Int → Mem → Prop) (k0 : Mem → Prop) (kr : Bool → Mem → Prop) : Prop :=
  klen v_1 fun x15 => kif (decide (x_9 < x15)) (kif (decide (x_9 < 80)) (ksl v_1 fun b16 o17 l18 p19 => kif (decide (0 ≤ x_9) && decide (x_9 < l18)) (ldG 6 m b16 (o17 + (x_9).toNat * 6) fun c20 => newK m ⟨6, Z6, 46, false⟩ fun b22 m21 => stG 6 m21 b22 0 c20 fun m23 => kif x_2 (∃ Fr24 : Nat → Prop, Fr24 b22 ∧ (ldI .u32 m23 b22 3 fun x25 => kptr v_7 fun b26 o27 => F19 b26 o27 m23 fun x28 m29 => KeepsIn Fr24 m23 m29 ∧ (kif (decide (IntKind.wrap .u32 (x28 + 8) = 0)) False (stC m29 b22 3 (.flat (.int .u32 (x25.tmod (IntKind.wrap .u32 (x28 + 8))))) fun m30 => newK m30 ⟨6, upd (upd (upd (upd (upd (upd (Z6b) 0 (.flat (.int .i64 1))) 1 (.flat (.int .i64 2))) 2 (.flat (.int .i64 4))) 3 (.flat (.int .i64 3))) 4 (.flat (.int .i64 0))) 5 (.flat (.int .i64 4)), 3, false⟩ fun b32 m31 => ldI .i64 m31 b22 1 fun x33 => F8 x33 0 1048576 m31 fun x34 m35 => kif (decide (0 ≤ x34.tmod 6) && decide (x34.tmod 6 < 6)) (ldI .i64 m35 b32 (0 + (x34.tmod 6).toNat * 1) fun x36 => stC m35 b22 1 (.flat (.int .i64 x36)) fun m37 => ldI .i64 m37 b22 2 fun x38 => kptr v_8 fun b39 o40 => ldA m37 b39 (o40 + 1) fun v41 => klen v41 fun x42 => F8 x38 (-1) x42 m37 fun x43 m44 => stC m44 b22 2 (.flat (.int .i64 x43)) fun m45 => P18_12102 v_1 x_2 v_7 v_8 x_9 b22 0 m45 (fun x53 m54 => kr x53 m54) (fun m55 => kn (IntKind.wrap .i64 (x_9 + 1)) m55)) False)))) (P18_12102 v_1 x_2 v_7 v_8 x_9 b22 0 m23 (fun x56 m57 => kr x56 m57) (fun m58 => kn (IntKind.wrap .i64 (x_9 + 1)) m58))) False) (k0  m)) (k0  m)

def L18_5 (v_1 : AV) (x_2 : Bool) (v_7 : AV) (v_8 : AV) : Nat → Int → Mem → (Mem → Prop) → (Bool → Mem → Prop) → Prop
  | 0, _,  _, _, _ => bump False
  | N + 1, x_9,  m, k0, kr => R18_5 v_1 x_2 v_7 v_8 x_9 m (fun x_9' m' => L18_5 v_1 x_2 v_7 v_8 N x_9' m' k0 kr) k0 kr

/-- pianola/pianolalaw2.play -/
def F18 (x_0 : Int) (v_1 : AV) (x_2 : Bool) (m : Mem) (k : Bool → Mem → Prop) : Prop :=
  F7 x_0 m fun v1 m2 => F25 x_0 m2 fun v3 m4 => ∃ Fr5 : Nat → Prop, knilP v1 fun x6 => kif x6 (k false m4) (kptr v1 fun b7 o8 => F19 b7 o8 m4 fun x9 m10 => KeepsIn Fr5 m4 m10 ∧ (kptr v3 fun b11 o12 => Fr5 b11 ∧ (ldA m10 b11 (o12 + 0) fun v13 => klen v13 fun x14 => kif (x9 != (IntKind.wrap .u32 x14)) (k false m10) (∃ N62, L18_5 v_1 x_2 v1 v3 N62 0 m10 (fun m59 => kptr v3 fun b63 o64 => ldA m59 b63 (o64 + 0) fun v65 => klen v65 fun x66 => kptr v1 fun b67 o68 => F15 b67 o68 0 x66 m59 fun v69 x70 m71 => kif x70 (kstr v69 m71 fun z72 => kptr v3 fun b73 o74 => ldA m71 b73 (o74 + 0) fun v75 => kstr v75 m71 fun z76 => kif (z72.toList == z76.toList) (kptr v1 fun b77 o78 => F13 b77 o78 m71 fun v79 m80 => kptr v3 fun b81 o82 => F27 b81 o82 m80 fun v83 m84 => F12 v79 v83 m84 fun x85 m86 => k x85 m86) (k false m71)) (k false m71)) (fun x60 m61 => k x60 m61)))))

def G18 (args : List AV) (m : Mem) (k : KV) : Prop := match args with
  | [a0, a1, a2] => kI .i64 a0 fun x_0 => kbool a2 fun x_2 => F18 x_0 a1 x_2 m (fun x_1000 m' => k (.flat (.bool x_1000)) m')
  | _ => False

def E18 : Env := envOf [(7, G7), (8, G8), (12, G12), (13, G13), (15, G15), (19, G19), (25, G25), (26, G26), (27, G27)]

def Lam18_5 (σ : Nat → AV) (m : Mem) (k : KX) : Prop := kbool (σ 2) fun x_2 => kI .i64 (σ 9) fun x_9 => ∃ N, L18_5 (σ 1) x_2 (σ 7) (σ 8) N x_9 m (fun m' => k (.exit 0) (only [7, 8] [(σ 7), (σ 8)]) m') (fun x_6' m' => k .ret (only [6] [(.flat (.bool x_6'))]) m')

def LamP18_12102 (σ : Nat → AV) (m : Mem) (k : KX) : Prop := kbool (σ 2) fun x_2 => kI .i64 (σ 9) fun x_9 => kptr (σ 10) fun b_10 o_10 => P18_12102 (σ 1) x_2 (σ 7) (σ 8) x_9 b_10 o_10 m (fun x_6' m' => k .ret (only [6] [(.flat (.bool x_6'))]) m') (fun m' => k .normal (only [1, 2, 7, 8, 9] [(σ 1), (.flat (.bool x_2)), (σ 7), (σ 8), (.flat (.int .i64 x_9))]) m')

def Lam18 : LEnv := ⟨fun a σ m k => match firstReg a with
  | some 5 => Lam18_5 σ m k
  | _ => bump False,
  fun id => match id with
  | 2 => true
  | 9 => true
  | _ => bump false,
  fun b => match keyC b with
  | some 12102 => true
  | _ => bump false,
  fun b σ m k => match keyC b with
  | some 12102 => LamP18_12102 σ m k
  | _ => bump False⟩

def lxp18_12102 : Ex → List Nat := fun e => match e with
  | .ret => [6]
  | .normal => [1, 2, 7, 8, 9]
  | _ => []

theorem pc18_12102 (v_1 : AV) (x_2 : Bool) (v_7 : AV) (v_8 : AV) (x_9 : Int) (b_10 o_10 : Nat) (m : Mem) (k : KX) : once Try.prog E18 Lam18 [1, 2, 7, 8, 9, 10] lxp18_12102 (((secsOf (bodyOf Try.f18)).filter Lam18.cut).getD 0 .skip) [v_1, (.flat (.bool x_2)), v_7, v_8, (.flat (.int .i64 x_9)), (.ptr b_10 o_10)] m k = P18_12102 v_1 x_2 v_7 v_8 x_9 b_10 o_10 m (fun x_6' m' => k .ret (only [6] [(.flat (.bool x_6'))]) m') (fun m' => k .normal (only [1, 2, 7, 8, 9] [v_1, (.flat (.bool x_2)), v_7, v_8, (.flat (.int .i64 x_9))]) m') := by
  kernel_rfl

theorem pok18_12102 : PieceOK Try.prog E18 Lam18 (((secsOf (bodyOf Try.f18)).filter Lam18.cut).getD 0 .skip) := by
  refine ⟨fun σ => ∃ v_1 x_2 v_7 v_8 x_9 b_10 o_10, σ 1 = v_1 ∧ σ 2 = .flat (.bool x_2) ∧ σ 7 = v_7 ∧ σ 8 = v_8 ∧ σ 9 = .flat (.int .i64 x_9) ∧ σ 10 = .ptr b_10 o_10, [1, 2, 7, 8, 9, 10], lxp18_12102, fun σ m k => ?_⟩
  have e : Lam18.piece (((secsOf (bodyOf Try.f18)).filter Lam18.cut).getD 0 .skip) σ m k = LamP18_12102 σ m k := by kernel_rfl
  rw [e]
  constructor
  · intro h
    unfold LamP18_12102 at h
    obtain ⟨v_1, h0⟩ : ∃ v, σ 1 = v := ⟨_, rfl⟩
    obtain ⟨x_2, h1, h⟩ := kbool_ok h
    obtain ⟨v_7, h2⟩ : ∃ v, σ 7 = v := ⟨_, rfl⟩
    obtain ⟨v_8, h3⟩ : ∃ v, σ 8 = v := ⟨_, rfl⟩
    obtain ⟨x_9, h4, h⟩ := kI_ok h
    obtain ⟨b_10, o_10, h5, h⟩ := kptr_ok h
    refine ⟨⟨v_1, x_2, v_7, v_8, x_9, b_10, o_10, h0, h1, h2, h3, h4, h5⟩, ?_⟩
    have ev : [1, 2, 7, 8, 9, 10].map σ = [v_1, (.flat (.bool x_2)), v_7, v_8, (.flat (.int .i64 x_9)), (.ptr b_10 o_10)] := by simp only [List.map_cons, List.map_nil, h0, h1, h2, h3, h4, h5]
    rw [ev, pc18_12102]
    simp only [h0, h2, h3] at h
    exact h
  · rintro ⟨⟨v_1, x_2, v_7, v_8, x_9, b_10, o_10, h0, h1, h2, h3, h4, h5⟩, h⟩
    have ev : [1, 2, 7, 8, 9, 10].map σ = [v_1, (.flat (.bool x_2)), v_7, v_8, (.flat (.int .i64 x_9)), (.ptr b_10 o_10)] := by simp only [List.map_cons, List.map_nil, h0, h1, h2, h3, h4, h5]
    rw [ev, pc18_12102] at h
    unfold LamP18_12102
    try simp only [h0, h1, h2, h3, h4, h5, kI, kbool, kS, kptr, kaggN, kite, decide_true, eq_self]
    exact h

def lx18_5 : Ex → List Nat := fun e => match e with
  | .exit 0 => [7, 8]
  | .ret => [6]
  | _ => []

theorem round18_5 (v_1 : AV) (x_2 : Bool) (v_7 : AV) (v_8 : AV) (x_9 : Int) (m : Mem) (G : List AV → Mem → Prop) (k : KX) : (wpA Try.prog E18 Lam18 ((loopsOf (bodyOf Try.f18)).getD 0 .skip) (only [1, 2, 7, 8, 9] [v_1, (.flat (.bool x_2)), v_7, v_8, (.flat (.int .i64 x_9))]) m fun e σ' m' => match e with
    | .normal => G ([1, 2, 7, 8, 9].map σ') m'
    | .exit id => k (.exit id) (only (lx18_5 (.exit id)) ((lx18_5 (.exit id)).map σ')) m'
    | .ret => k .ret (only (lx18_5 .ret) ((lx18_5 .ret).map σ')) m') = R18_5 v_1 x_2 v_7 v_8 x_9 m (fun x_9' m' => G [v_1, (.flat (.bool x_2)), v_7, v_8, (.flat (.int .i64 x_9'))] m') (fun m' => k (.exit 0) (only [7, 8] [v_7, v_8]) m') (fun x_6' m' => k .ret (only [6] [(.flat (.bool x_6'))]) m') := by
  kernel_rfl

theorem loop18_5 (v_1 : AV) (x_2 : Bool) (v_7 : AV) (v_8 : AV) (k : KX) : ∀ (N : Nat) (x_9 : Int) (m : Mem), rounds Try.prog E18 Lam18 [1, 2, 7, 8, 9] lx18_5 ((loopsOf (bodyOf Try.f18)).getD 0 .skip) N [v_1, (.flat (.bool x_2)), v_7, v_8, (.flat (.int .i64 x_9))] m k = L18_5 v_1 x_2 v_7 v_8 N x_9 m (fun m' => k (.exit 0) (only [7, 8] [v_7, v_8]) m') (fun x_6' m' => k .ret (only [6] [(.flat (.bool x_6'))]) m') := by
  intro N
  induction N with
  | zero => intros; rfl
  | succ N ih =>
    intro x_9 m
    refine (round18_5 v_1 x_2 v_7 v_8 x_9 m (fun vs m' => rounds Try.prog E18 Lam18 [1, 2, 7, 8, 9] lx18_5 ((loopsOf (bodyOf Try.f18)).getD 0 .skip) N vs m' k) k).trans ?_
    simp only [ih]
    rfl

theorem lok18_5 : LoopOK Try.prog E18 Lam18 ((loopsOf (bodyOf Try.f18)).getD 0 .skip) := by
  refine ⟨fun σ => ∃ v_1 x_2 v_7 v_8 x_9, σ 1 = v_1 ∧ σ 2 = .flat (.bool x_2) ∧ σ 7 = v_7 ∧ σ 8 = v_8 ∧ σ 9 = .flat (.int .i64 x_9), [1, 2, 7, 8, 9], lx18_5, fun σ m k => ?_⟩
  have e : Lam18.loop ((loopsOf (bodyOf Try.f18)).getD 0 .skip) σ m k = Lam18_5 σ m k := by kernel_rfl
  rw [e]
  constructor
  · intro h
    unfold Lam18_5 at h
    obtain ⟨v_1, h0⟩ : ∃ v, σ 1 = v := ⟨_, rfl⟩
    obtain ⟨x_2, h1, h⟩ := kbool_ok h
    obtain ⟨v_7, h2⟩ : ∃ v, σ 7 = v := ⟨_, rfl⟩
    obtain ⟨v_8, h3⟩ : ∃ v, σ 8 = v := ⟨_, rfl⟩
    obtain ⟨x_9, h4, h⟩ := kI_ok h
    obtain ⟨N, h⟩ := h
    refine ⟨⟨v_1, x_2, v_7, v_8, x_9, h0, h1, h2, h3, h4⟩, N, ?_⟩
    have ev : [1, 2, 7, 8, 9].map σ = [v_1, (.flat (.bool x_2)), v_7, v_8, (.flat (.int .i64 x_9))] := by simp only [List.map_cons, List.map_nil, h0, h1, h2, h3, h4]
    rw [ev, loop18_5]
    simp only [h0, h2, h3] at h
    exact h
  · rintro ⟨⟨v_1, x_2, v_7, v_8, x_9, h0, h1, h2, h3, h4⟩, N, h⟩
    have ev : [1, 2, 7, 8, 9].map σ = [v_1, (.flat (.bool x_2)), v_7, v_8, (.flat (.int .i64 x_9))] := by simp only [List.map_cons, List.map_nil, h0, h1, h2, h3, h4]
    rw [ev, loop18_5] at h
    unfold Lam18_5
    try simp only [h0, h1, h2, h3, h4, kI, kbool, kS, kptr, kaggN, kite, decide_true, eq_self]
    exact ⟨N, h⟩

theorem eqn18 (x_0 : Int) (v_1 : AV) (x_2 : Bool) (m : Mem) (k : KV) : bodyK Try.prog E18 Lam18 Try.f18 false [(.flat (.int .i64 x_0)), v_1, (.flat (.bool x_2))] m k = F18 x_0 v_1 x_2 m (fun x_1000 m' => k (.flat (.bool x_1000)) m') := by
  kernel_rfl

theorem fs18 (w0 : World) : FS Try.prog w0 18 G18 := by
  refine (fs_body (Γ := E18) (sound_env (l := [(7, G7), (8, G8), (12, G12), (13, G13), (15, G15), (19, G19), (25, G25), (26, G26), (27, G27)]) w0 (by
    intro p hp
    simp only [List.mem_cons, List.not_mem_nil, or_false] at hp
    rcases hp with rfl | rfl | rfl | rfl | rfl | rfl | rfl | rfl | rfl
    · exact fs7 w0
    · exact fs8 w0
    · exact fs12 w0
    · exact fs13 w0
    · exact fs15 w0
    · exact fs19 w0
    · exact fs25 w0
    · exact fs26 w0
    · exact fs27 w0)) (by kernel_rfl) Try.func18 (Λ := Lam18) (c := (bodyOf Try.f18)) (by kernel_rfl) Try.call18 (by kernel_rfl) (LS_of (bodyOf Try.f18) 1 (by kernel_rfl) (by
    intro i hi
    match i, hi with
    | 0, _ => exact lok18_5
    | i + 1, hi => omega) 1 (by kernel_rfl) (by
    intro i hi
    match i, hi with
    | 0, _ => exact pok18_12102
    | i + 1, hi => omega)) false (np := 3) (Nat.le_of_ble_eq_true (by kernel_rfl))).imp fun args => ?_
  by_cases hl : args.length = 3
  rotate_left
  · exact .inr fun m k hk => by
      unfold G18 at hk
      split at hk
      · exact hl rfl
      · exact hk
  obtain ⟨a0, a1, a2, rfl⟩ : ∃ a0 a1 a2, args = [a0, a1, a2] := len_list3 hl
  rcases kI_or .i64 a0 with ⟨x_0, rfl⟩ | h
  rotate_left
  · exact .inr fun m k hk => h _ (by simpa only [G18, kI, kbool, kS, kptr, kaggN, kite, decide_true, eq_self] using hk)
  rcases kbool_or a2 with ⟨x_2, rfl⟩ | h
  rotate_left
  · exact .inr fun m k hk => h _ (by simpa only [G18, kI, kbool, kS, kptr, kaggN, kite, decide_true, eq_self] using hk)
  exact .inl fun m k => propext ⟨fun h => ⟨rfl, by rw [eqn18]; simpa only [G18, kI, kbool, kS, kptr, kaggN, kite, decide_true, eq_self] using h⟩, fun h => by have h := h.2; rw [eqn18] at h; simpa only [G18, kI, kbool, kS, kptr, kaggN, kite, decide_true, eq_self] using h⟩

def R5_7 (v_1 : AV) (x_3 : Int) (m : Mem) (kn : Int → Mem → Prop) (k2 : Mem → Prop) (kr : Bool → Mem → Prop) : Prop :=
  kif (decide (x_3 < 4)) (F18 x_3 v_1 false m fun x10 m11 => kif (!x10) (kr false m11) (F18 x_3 v_1 true m11 fun x12 m13 => kif (!x12) (kr false m13) (kn (IntKind.wrap .i64 (x_3 + 1)) m13))) (k2  m)

def L5_7 (v_1 : AV) : Nat → Int → Mem → (Mem → Prop) → (Bool → Mem → Prop) → Prop
  | 0, _,  _, _, _ => bump False
  | N + 1, x_3,  m, k2, kr => R5_7 v_1 x_3 m (fun x_3' m' => L5_7 v_1 N x_3' m' k2 kr) k2 kr

def R5_3  (v_1 : AV) (x_2 : Int) (m : Mem) (kn : AV → Int → Mem → Prop) (k0 : AV → Mem → Prop) : Prop :=
  kif (decide (x_2 < 78)) (mkS [(.flat (.int .u8 0))] 1 5 (x_2.tmod 9) (x_2.tmod 9) m fun b1 m2 => newK m2 ⟨6, splice (Z6) 0 6 (upd (upd (upd (upd (upd (upd (Z6) 0 (.flat (.int .i64 (x_2.tmod 9)))) 1 (.flat (.int .i64 (x_2.tmod 6)))) 2 (.flat (.int .i64 (IntKind.wrap .i64 ((x_2.tmod 5) - 1))))) 3 (.flat (.int .u32 (IntKind.wrap .u32 ((IntKind.wrap .i64 (x_2 * 37)).tmod 2060))))) 4 (.flat (.int .u32 (IntKind.wrap .u32 ((IntKind.wrap .u32 x_2) * 16909060))))) 5 (.sl b1 0 ((x_2.tmod 9).toNat) (.ex ((x_2.tmod 9).toNat)))), 46, false⟩ fun b4 m3 => appS 6 56 46 v_1 (.sl b4 0 1 (.ex 1)) m3 fun v5 m6 => kn v5 (IntKind.wrap .i64 (x_2 + 1)) m6) (k0 v_1 m)

def L5_3  : Nat → AV → Int → Mem → (AV → Mem → Prop) → Prop
  | 0, _, _,  _, _ => bump False
  | N + 1, v_1, x_2,  m, k0 => R5_3  v_1 x_2 m (fun v_1' x_2' m' => L5_3  N v_1' x_2' m' k0) k0

/-- pianola/pianolalaw2.RamNumbers -/
def F5  (m : Mem) (k : Bool → Mem → Prop) : Prop :=
  ∃ N9, L5_3  N9 (.flat (.slice none 0 0)) 0 m (fun v7 m8 => ∃ N17, L5_7 v7 N17 (-1) m8 (fun m14 => F7 1000 m14 fun v18 m19 => knilP v18 fun x20 => kif (!x20) (kptr v18 fun b21 o22 => F19 b21 o22 m19 fun x23 m24 => kif (x23 == 65536) (F14  m24 fun x25 m26 => k x25 m26) (k false m24)) (k false m19)) (fun x15 m16 => k x15 m16))

def G5 (args : List AV) (m : Mem) (k : KV) : Prop := match args with
  | [] => F5  m (fun x_1000 m' => k (.flat (.bool x_1000)) m')
  | _ => False

def E5 : Env := envOf [(7, G7), (14, G14), (18, G18), (19, G19)]

def Lam5_3 (σ : Nat → AV) (m : Mem) (k : KX) : Prop := kI .i64 (σ 2) fun x_2 => ∃ N, L5_3  N (σ 1) x_2 m (fun v_1' m' => k (.exit 0) (only [1] [v_1']) m')

def Lam5_7 (σ : Nat → AV) (m : Mem) (k : KX) : Prop := kI .i64 (σ 3) fun x_3 => ∃ N, L5_7 (σ 1) N x_3 m (fun m' => k (.exit 2) (only [] []) m') (fun x_0' m' => k .ret (only [0] [(.flat (.bool x_0'))]) m')

def Lam5 : LEnv := ⟨fun a σ m k => match firstReg a with
  | some 3 => Lam5_3 σ m k
  | some 7 => Lam5_7 σ m k
  | _ => bump False,
  fun id => match id with
  | _ => bump false,
  fun b => match keyC b with
  | _ => bump false,
  fun b σ m k => match keyC b with
  | _ => bump False⟩

def lx5_7 : Ex → List Nat := fun e => match e with
  | .exit 2 => []
  | .ret => [0]
  | _ => []

theorem round5_7 (v_1 : AV) (x_3 : Int) (m : Mem) (G : List AV → Mem → Prop) (k : KX) : (wpA Try.prog E5 Lam5 ((loopsOf (bodyOf Try.f5)).getD 1 .skip) (only [1, 3] [v_1, (.flat (.int .i64 x_3))]) m fun e σ' m' => match e with
    | .normal => G ([1, 3].map σ') m'
    | .exit id => k (.exit id) (only (lx5_7 (.exit id)) ((lx5_7 (.exit id)).map σ')) m'
    | .ret => k .ret (only (lx5_7 .ret) ((lx5_7 .ret).map σ')) m') = R5_7 v_1 x_3 m (fun x_3' m' => G [v_1, (.flat (.int .i64 x_3'))] m') (fun m' => k (.exit 2) (only [] []) m') (fun x_0' m' => k .ret (only [0] [(.flat (.bool x_0'))]) m') := by
  kernel_rfl

theorem loop5_7 (v_1 : AV) (k : KX) : ∀ (N : Nat) (x_3 : Int) (m : Mem), rounds Try.prog E5 Lam5 [1, 3] lx5_7 ((loopsOf (bodyOf Try.f5)).getD 1 .skip) N [v_1, (.flat (.int .i64 x_3))] m k = L5_7 v_1 N x_3 m (fun m' => k (.exit 2) (only [] []) m') (fun x_0' m' => k .ret (only [0] [(.flat (.bool x_0'))]) m') := by
  intro N
  induction N with
  | zero => intros; rfl
  | succ N ih =>
    intro x_3 m
    refine (round5_7 v_1 x_3 m (fun vs m' => rounds Try.prog E5 Lam5 [1, 3] lx5_7 ((loopsOf (bodyOf Try.f5)).getD 1 .skip) N vs m' k) k).trans ?_
    simp only [ih]
    rfl

theorem lok5_7 : LoopOK Try.prog E5 Lam5 ((loopsOf (bodyOf Try.f5)).getD 1 .skip) := by
  refine ⟨fun σ => ∃ v_1 x_3, σ 1 = v_1 ∧ σ 3 = .flat (.int .i64 x_3), [1, 3], lx5_7, fun σ m k => ?_⟩
  have e : Lam5.loop ((loopsOf (bodyOf Try.f5)).getD 1 .skip) σ m k = Lam5_7 σ m k := by kernel_rfl
  rw [e]
  constructor
  · intro h
    unfold Lam5_7 at h
    obtain ⟨v_1, h0⟩ : ∃ v, σ 1 = v := ⟨_, rfl⟩
    obtain ⟨x_3, h1, h⟩ := kI_ok h
    obtain ⟨N, h⟩ := h
    refine ⟨⟨v_1, x_3, h0, h1⟩, N, ?_⟩
    have ev : [1, 3].map σ = [v_1, (.flat (.int .i64 x_3))] := by simp only [List.map_cons, List.map_nil, h0, h1]
    rw [ev, loop5_7]
    simp only [h0] at h
    exact h
  · rintro ⟨⟨v_1, x_3, h0, h1⟩, N, h⟩
    have ev : [1, 3].map σ = [v_1, (.flat (.int .i64 x_3))] := by simp only [List.map_cons, List.map_nil, h0, h1]
    rw [ev, loop5_7] at h
    unfold Lam5_7
    try simp only [h0, h1, kI, kbool, kS, kptr, kaggN, kite, decide_true, eq_self]
    exact ⟨N, h⟩

def lx5_3 : Ex → List Nat := fun e => match e with
  | .exit 0 => [1]
  | _ => []

theorem round5_3  (v_1 : AV) (x_2 : Int) (m : Mem) (G : List AV → Mem → Prop) (k : KX) : (wpA Try.prog E5 Lam5 ((loopsOf (bodyOf Try.f5)).getD 0 .skip) (only [1, 2] [v_1, (.flat (.int .i64 x_2))]) m fun e σ' m' => match e with
    | .normal => G ([1, 2].map σ') m'
    | .exit id => k (.exit id) (only (lx5_3 (.exit id)) ((lx5_3 (.exit id)).map σ')) m'
    | .ret => k .ret (only (lx5_3 .ret) ((lx5_3 .ret).map σ')) m') = R5_3  v_1 x_2 m (fun v_1' x_2' m' => G [v_1', (.flat (.int .i64 x_2'))] m') (fun v_1' m' => k (.exit 0) (only [1] [v_1']) m') := by
  kernel_rfl

theorem loop5_3  (k : KX) : ∀ (N : Nat) (v_1 : AV) (x_2 : Int) (m : Mem), rounds Try.prog E5 Lam5 [1, 2] lx5_3 ((loopsOf (bodyOf Try.f5)).getD 0 .skip) N [v_1, (.flat (.int .i64 x_2))] m k = L5_3  N v_1 x_2 m (fun v_1' m' => k (.exit 0) (only [1] [v_1']) m') := by
  intro N
  induction N with
  | zero => intros; rfl
  | succ N ih =>
    intro v_1 x_2 m
    refine (round5_3  v_1 x_2 m (fun vs m' => rounds Try.prog E5 Lam5 [1, 2] lx5_3 ((loopsOf (bodyOf Try.f5)).getD 0 .skip) N vs m' k) k).trans ?_
    simp only [ih]
    rfl

theorem lok5_3 : LoopOK Try.prog E5 Lam5 ((loopsOf (bodyOf Try.f5)).getD 0 .skip) := by
  refine ⟨fun σ => ∃ v_1 x_2, σ 1 = v_1 ∧ σ 2 = .flat (.int .i64 x_2), [1, 2], lx5_3, fun σ m k => ?_⟩
  have e : Lam5.loop ((loopsOf (bodyOf Try.f5)).getD 0 .skip) σ m k = Lam5_3 σ m k := by kernel_rfl
  rw [e]
  constructor
  · intro h
    unfold Lam5_3 at h
    obtain ⟨v_1, h0⟩ : ∃ v, σ 1 = v := ⟨_, rfl⟩
    obtain ⟨x_2, h1, h⟩ := kI_ok h
    obtain ⟨N, h⟩ := h
    refine ⟨⟨v_1, x_2, h0, h1⟩, N, ?_⟩
    have ev : [1, 2].map σ = [v_1, (.flat (.int .i64 x_2))] := by simp only [List.map_cons, List.map_nil, h0, h1]
    rw [ev, loop5_3]
    simp only [h0] at h
    exact h
  · rintro ⟨⟨v_1, x_2, h0, h1⟩, N, h⟩
    have ev : [1, 2].map σ = [v_1, (.flat (.int .i64 x_2))] := by simp only [List.map_cons, List.map_nil, h0, h1]
    rw [ev, loop5_3] at h
    unfold Lam5_3
    try simp only [h0, h1, kI, kbool, kS, kptr, kaggN, kite, decide_true, eq_self]
    exact ⟨N, h⟩

theorem eqn5  (m : Mem) (k : KV) : bodyK Try.prog E5 Lam5 Try.f5 false [] m k = F5  m (fun x_1000 m' => k (.flat (.bool x_1000)) m') := by
  kernel_rfl

theorem fs5 (w0 : World) : FS Try.prog w0 5 G5 := by
  refine (fs_body (Γ := E5) (sound_env (l := [(7, G7), (14, G14), (18, G18), (19, G19)]) w0 (by
    intro p hp
    simp only [List.mem_cons, List.not_mem_nil, or_false] at hp
    rcases hp with rfl | rfl | rfl | rfl
    · exact fs7 w0
    · exact fs14 w0
    · exact fs18 w0
    · exact fs19 w0)) (by kernel_rfl) Try.func5 (Λ := Lam5) (c := (bodyOf Try.f5)) (by kernel_rfl) Try.call5 (by kernel_rfl) (LS_of (bodyOf Try.f5) 2 (by kernel_rfl) (by
    intro i hi
    match i, hi with
    | 0, _ => exact lok5_3
    | 1, _ => exact lok5_7
    | i + 2, hi => omega) 0 (by kernel_rfl) (fun i hi => absurd hi (Nat.not_lt_zero i))) false (np := 0) (Nat.le_of_ble_eq_true (by kernel_rfl))).imp fun args => ?_
  by_cases hl : args.length = 0
  rotate_left
  · exact .inr fun m k hk => by
      unfold G5 at hk
      split at hk
      · exact hl rfl
      · exact hk
  obtain rfl : args = [] := len_list0 hl

  exact .inl fun m k => propext ⟨fun h => ⟨rfl, by rw [eqn5]; simpa only [G5, kI, kbool, kS, kptr, kaggN, kite, decide_true, eq_self] using h⟩, fun h => by have h := h.2; rw [eqn5] at h; simpa only [G5, kI, kbool, kS, kptr, kaggN, kite, decide_true, eq_self] using h⟩

/-- pianola/pianolalaw2.RamPlays -/
def F6 (x_0 : Int) (v_1 : AV) (m : Mem) (k : Bool → Mem → Prop) : Prop :=
  F8 x_0 1 3 m fun x1 m2 => F18 x1 v_1 true m2 fun x3 m4 => kif x3 (F8 x_0 1 3 m4 fun x5 m6 => F18 x5 v_1 false m6 fun x7 m8 => kif x7 (F14  m8 fun x9 m10 => k x9 m10) (k false m8)) (k false m4)

def G6 (args : List AV) (m : Mem) (k : KV) : Prop := match args with
  | [a0, a1] => kI .i64 a0 fun x_0 => F6 x_0 a1 m (fun x_1000 m' => k (.flat (.bool x_1000)) m')
  | _ => False

def E6 : Env := envOf [(8, G8), (14, G14), (18, G18)]

def Lam6 : LEnv := ⟨fun a σ m k => match firstReg a with
  | _ => bump False,
  fun id => match id with
  | _ => bump false,
  fun b => match keyC b with
  | _ => bump false,
  fun b σ m k => match keyC b with
  | _ => bump False⟩

theorem eqn6 (x_0 : Int) (v_1 : AV) (m : Mem) (k : KV) : bodyK Try.prog E6 Lam6 Try.f6 false [(.flat (.int .i64 x_0)), v_1] m k = F6 x_0 v_1 m (fun x_1000 m' => k (.flat (.bool x_1000)) m') := by
  kernel_rfl

theorem fs6 (w0 : World) : FS Try.prog w0 6 G6 := by
  refine (fs_body (Γ := E6) (sound_env (l := [(8, G8), (14, G14), (18, G18)]) w0 (by
    intro p hp
    simp only [List.mem_cons, List.not_mem_nil, or_false] at hp
    rcases hp with rfl | rfl | rfl
    · exact fs8 w0
    · exact fs14 w0
    · exact fs18 w0)) (by kernel_rfl) Try.func6 (Λ := Lam6) (c := (bodyOf Try.f6)) (by kernel_rfl) Try.call6 (by kernel_rfl) (LS_of (bodyOf Try.f6) 0 (by kernel_rfl) (fun i hi => absurd hi (Nat.not_lt_zero i)) 0 (by kernel_rfl) (fun i hi => absurd hi (Nat.not_lt_zero i))) false (np := 2) (Nat.le_of_ble_eq_true (by kernel_rfl))).imp fun args => ?_
  by_cases hl : args.length = 2
  rotate_left
  · exact .inr fun m k hk => by
      unfold G6 at hk
      split at hk
      · exact hl rfl
      · exact hk
  obtain ⟨a0, a1, rfl⟩ : ∃ a0 a1, args = [a0, a1] := len_list2 hl
  rcases kI_or .i64 a0 with ⟨x_0, rfl⟩ | h
  rotate_left
  · exact .inr fun m k hk => h _ (by simpa only [G6, kI, kbool, kS, kptr, kaggN, kite, decide_true, eq_self] using hk)
  exact .inl fun m k => propext ⟨fun h => ⟨rfl, by rw [eqn6]; simpa only [G6, kI, kbool, kS, kptr, kaggN, kite, decide_true, eq_self] using h⟩, fun h => by have h := h.2; rw [eqn6] at h; simpa only [G6, kI, kbool, kS, kptr, kaggN, kite, decide_true, eq_self] using h⟩

end Go.Proofs.Ytmgalbmhbbickaa.Am
