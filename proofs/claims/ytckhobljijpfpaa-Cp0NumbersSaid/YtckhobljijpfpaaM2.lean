/- What Go functions ask of what follows them, as plain functions over the abstract machine; the machine asks just that. Written by gen.py. -/
import Derived.Test.YtckhobljijpfpaaProg
import Derived.Test.YtckhobljijpfpaaAmL
import Derived.Test.YtckhobljijpfpaaM1
namespace Go.Proofs.Ytckhobljijpfpaa.Am
set_option linter.unusedVariables false
set_option linter.unusedSimpArgs false
set_option maxRecDepth 100000

/-- pianola/pianolaref6.Line -/
def F27 (b_0 o_0 : Nat) (x_1 : Bool) (m : Mem) (k : Mem → Prop) : Prop :=
  ldI .u32 m b_0 (o_0 + 39 + 13) fun x1 => stC m b_0 (o_0 + 39 + 13) (.flat (.int .u32 (bits .andNot .u32 x1 1024))) fun m2 => kif x_1 (ldI .u32 m2 b_0 (o_0 + 39 + 13) fun x3 => stC m2 b_0 (o_0 + 39 + 13) (.flat (.int .u32 (bits .or .u32 x3 1024))) fun m4 => k  m4) (k  m2)

def G27 (args : List AV) (m : Mem) (k : KV) : Prop := match args with
  | [a0, a1] => kptr a0 fun b_0 o_0 => kbool a1 fun x_1 => F27 b_0 o_0 x_1 m (fun m' => k (.tup []) m')
  | _ => False

def E27 : Env := envOf []

def Lam27 : LEnv := ⟨fun a σ m k => match firstReg a with
  | _ => bump False,
  fun id => match id with
  | _ => bump false,
  fun b => match keyC b with
  | _ => bump false,
  fun b σ m k => match keyC b with
  | _ => bump False⟩

theorem eqn27 (b_0 o_0 : Nat) (x_1 : Bool) (m : Mem) (k : KV) : bodyK Try.prog E27 Lam27 Try.f27 false [(.ptr b_0 o_0), (.flat (.bool x_1))] m k = F27 b_0 o_0 x_1 m (fun m' => k (.tup []) m') := by
  kernel_rfl

theorem fs27 (w0 : World) : FS Try.prog w0 27 G27 := by
  refine (fs_body (Γ := E27) (sound_env (l := []) w0 (by
    intro p hp
    cases hp)) (by kernel_rfl) Try.func27 (Λ := Lam27) (c := (bodyOf Try.f27)) (by kernel_rfl) Try.call27 (by kernel_rfl) (LS_of (bodyOf Try.f27) 0 (by kernel_rfl) (fun i hi => absurd hi (Nat.not_lt_zero i)) 0 (by kernel_rfl) (fun i hi => absurd hi (Nat.not_lt_zero i))) false (np := 2) (Nat.le_of_ble_eq_true (by kernel_rfl))).imp fun args => ?_
  by_cases hl : args.length = 2
  rotate_left
  · exact .inr fun m k hk => by
      unfold G27 at hk
      split at hk
      · exact hl rfl
      · exact hk
  obtain ⟨a0, a1, rfl⟩ : ∃ a0 a1, args = [a0, a1] := len_list2 hl
  rcases kptr_or a0 with ⟨b_0, o_0, rfl⟩ | h
  rotate_left
  · exact .inr fun m k hk => h _ (by simpa only [G27, kI, kbool, kS, kptr, kaggN, kite, decide_true, eq_self] using hk)
  rcases kbool_or a1 with ⟨x_1, rfl⟩ | h
  rotate_left
  · exact .inr fun m k hk => h _ (by simpa only [G27, kI, kbool, kS, kptr, kaggN, kite, decide_true, eq_self] using hk)
  exact .inl fun m k => propext ⟨fun h => ⟨rfl, by rw [eqn27]; simpa only [G27, kI, kbool, kS, kptr, kaggN, kite, decide_true, eq_self] using h⟩, fun h => by have h := h.2; rw [eqn27] at h; simpa only [G27, kI, kbool, kS, kptr, kaggN, kite, decide_true, eq_self] using h⟩

/-- pianola/pianolaref6.named -/
def F34 (x_0 : Int) (m : Mem) (k : Bool → Mem → Prop) : Prop :=
  kif (decide (x_0 ≥ 0)) (kif (decide (x_0 ≤ 2)) ((Keeps m m ∧ k true m)) (kif (decide (x_0 ≥ 8)) ((Keeps m m ∧ k (decide (x_0 ≤ 15)) m)) ((Keeps m m ∧ k false m)))) (kif (decide (x_0 ≥ 8)) ((Keeps m m ∧ k (decide (x_0 ≤ 15)) m)) ((Keeps m m ∧ k false m)))

def G34 (args : List AV) (m : Mem) (k : KV) : Prop := match args with
  | [a0] => kI .i64 a0 fun x_0 => F34 x_0 m (fun x_1000 m' => k (.flat (.bool x_1000)) m')
  | _ => False

def E34 : Env := envOf []

def Lam34 : LEnv := ⟨fun a σ m k => match firstReg a with
  | _ => bump False,
  fun id => match id with
  | _ => bump false,
  fun b => match keyC b with
  | _ => bump false,
  fun b σ m k => match keyC b with
  | _ => bump False⟩

theorem eqn34 (x_0 : Int) (m : Mem) (k : KV) : bodyK Try.prog E34 Lam34 Try.f34 true [(.flat (.int .i64 x_0))] m k = F34 x_0 m (fun x_1000 m' => k (.flat (.bool x_1000)) m') := by
  kernel_rfl

theorem fs34 (w0 : World) : FS Try.prog w0 34 G34 := by
  refine (fs_body (Γ := E34) (sound_env (l := []) w0 (by
    intro p hp
    cases hp)) (by kernel_rfl) Try.func34 (Λ := Lam34) (c := (bodyOf Try.f34)) (by kernel_rfl) Try.call34 (by kernel_rfl) (LS_of (bodyOf Try.f34) 0 (by kernel_rfl) (fun i hi => absurd hi (Nat.not_lt_zero i)) 0 (by kernel_rfl) (fun i hi => absurd hi (Nat.not_lt_zero i))) true (np := 1) (Nat.le_of_ble_eq_true (by kernel_rfl))).imp fun args => ?_
  by_cases hl : args.length = 1
  rotate_left
  · exact .inr fun m k hk => by
      unfold G34 at hk
      split at hk
      · exact hl rfl
      · exact hk
  obtain ⟨a0, rfl⟩ : ∃ a0, args = [a0] := len_list1 hl
  rcases kI_or .i64 a0 with ⟨x_0, rfl⟩ | h
  rotate_left
  · exact .inr fun m k hk => h _ (by simpa only [G34, kI, kbool, kS, kptr, kaggN, kite, decide_true, eq_self] using hk)
  exact .inl fun m k => propext ⟨fun h => ⟨rfl, by rw [eqn34]; simpa only [G34, kI, kbool, kS, kptr, kaggN, kite, decide_true, eq_self] using h⟩, fun h => by have h := h.2; rw [eqn34] at h; simpa only [G34, kI, kbool, kS, kptr, kaggN, kite, decide_true, eq_self] using h⟩

/-- pianola/pianolaref6.Read -/
def F28 (b_0 o_0 : Nat) (x_1 : Int) (m : Mem) (k : Int → Mem → Prop) : Prop :=
  kif (x_1 == 1) (ldI .u32 m b_0 (o_0 + 39 + 9) fun x1 => (Keeps m m ∧ k (x1.tmod 8) m)) (F34 x_1 m fun x2 m3 => kif (!x2) ((Keeps m m3 ∧ k 0 m)) (kif (decide (0 ≤ x_1) && decide (x_1 < 16)) (ldI .u32 m3 b_0 (o_0 + 39 + (x_1).toNat * 1) fun x4 => (Keeps m m3 ∧ k x4 m)) False))

def G28 (args : List AV) (m : Mem) (k : KV) : Prop := match args with
  | [a0, a1] => kptr a0 fun b_0 o_0 => kI .i64 a1 fun x_1 => F28 b_0 o_0 x_1 m (fun x_1000 m' => k (.flat (.int .u32 x_1000)) m')
  | _ => False

def E28 : Env := envOf [(34, G34)]

def Lam28 : LEnv := ⟨fun a σ m k => match firstReg a with
  | _ => bump False,
  fun id => match id with
  | _ => bump false,
  fun b => match keyC b with
  | _ => bump false,
  fun b σ m k => match keyC b with
  | _ => bump False⟩

theorem eqn28 (b_0 o_0 : Nat) (x_1 : Int) (m : Mem) (k : KV) : bodyK Try.prog E28 Lam28 Try.f28 true [(.ptr b_0 o_0), (.flat (.int .i64 x_1))] m k = F28 b_0 o_0 x_1 m (fun x_1000 m' => k (.flat (.int .u32 x_1000)) m') := by
  kernel_rfl

theorem fs28 (w0 : World) : FS Try.prog w0 28 G28 := by
  refine (fs_body (Γ := E28) (sound_env (l := [(34, G34)]) w0 (by
    intro p hp
    simp only [List.mem_cons, List.not_mem_nil, or_false] at hp
    rcases hp with rfl
    · exact fs34 w0)) (by kernel_rfl) Try.func28 (Λ := Lam28) (c := (bodyOf Try.f28)) (by kernel_rfl) Try.call28 (by kernel_rfl) (LS_of (bodyOf Try.f28) 0 (by kernel_rfl) (fun i hi => absurd hi (Nat.not_lt_zero i)) 0 (by kernel_rfl) (fun i hi => absurd hi (Nat.not_lt_zero i))) true (np := 2) (Nat.le_of_ble_eq_true (by kernel_rfl))).imp fun args => ?_
  by_cases hl : args.length = 2
  rotate_left
  · exact .inr fun m k hk => by
      unfold G28 at hk
      split at hk
      · exact hl rfl
      · exact hk
  obtain ⟨a0, a1, rfl⟩ : ∃ a0 a1, args = [a0, a1] := len_list2 hl
  rcases kptr_or a0 with ⟨b_0, o_0, rfl⟩ | h
  rotate_left
  · exact .inr fun m k hk => h _ (by simpa only [G28, kI, kbool, kS, kptr, kaggN, kite, decide_true, eq_self] using hk)
  rcases kI_or .i64 a1 with ⟨x_1, rfl⟩ | h
  rotate_left
  · exact .inr fun m k hk => h _ (by simpa only [G28, kI, kbool, kS, kptr, kaggN, kite, decide_true, eq_self] using hk)
  exact .inl fun m k => propext ⟨fun h => ⟨rfl, by rw [eqn28]; simpa only [G28, kI, kbool, kS, kptr, kaggN, kite, decide_true, eq_self] using h⟩, fun h => by have h := h.2; rw [eqn28] at h; simpa only [G28, kI, kbool, kS, kptr, kaggN, kite, decide_true, eq_self] using h⟩

/-- pianola/pianolaref6.User -/
def F29 (b_0 o_0 : Nat) (m : Mem) (k : Bool → Mem → Prop) : Prop :=
  ldI .u32 m b_0 (o_0 + 39 + 12) fun x1 => kif ((bits .and .u32 x1 16) != 0) (ldI .u32 m b_0 (o_0 + 39 + 12) fun x2 => (Keeps m m ∧ k ((bits .and .u32 x2 2) == 0) m)) ((Keeps m m ∧ k false m))

def G29 (args : List AV) (m : Mem) (k : KV) : Prop := match args with
  | [a0] => kptr a0 fun b_0 o_0 => F29 b_0 o_0 m (fun x_1000 m' => k (.flat (.bool x_1000)) m')
  | _ => False

def E29 : Env := envOf []

def Lam29 : LEnv := ⟨fun a σ m k => match firstReg a with
  | _ => bump False,
  fun id => match id with
  | _ => bump false,
  fun b => match keyC b with
  | _ => bump false,
  fun b σ m k => match keyC b with
  | _ => bump False⟩

theorem eqn29 (b_0 o_0 : Nat) (m : Mem) (k : KV) : bodyK Try.prog E29 Lam29 Try.f29 true [(.ptr b_0 o_0)] m k = F29 b_0 o_0 m (fun x_1000 m' => k (.flat (.bool x_1000)) m') := by
  kernel_rfl

theorem fs29 (w0 : World) : FS Try.prog w0 29 G29 := by
  refine (fs_body (Γ := E29) (sound_env (l := []) w0 (by
    intro p hp
    cases hp)) (by kernel_rfl) Try.func29 (Λ := Lam29) (c := (bodyOf Try.f29)) (by kernel_rfl) Try.call29 (by kernel_rfl) (LS_of (bodyOf Try.f29) 0 (by kernel_rfl) (fun i hi => absurd hi (Nat.not_lt_zero i)) 0 (by kernel_rfl) (fun i hi => absurd hi (Nat.not_lt_zero i))) true (np := 1) (Nat.le_of_ble_eq_true (by kernel_rfl))).imp fun args => ?_
  by_cases hl : args.length = 1
  rotate_left
  · exact .inr fun m k hk => by
      unfold G29 at hk
      split at hk
      · exact hl rfl
      · exact hk
  obtain ⟨a0, rfl⟩ : ∃ a0, args = [a0] := len_list1 hl
  rcases kptr_or a0 with ⟨b_0, o_0, rfl⟩ | h
  rotate_left
  · exact .inr fun m k hk => h _ (by simpa only [G29, kI, kbool, kS, kptr, kaggN, kite, decide_true, eq_self] using hk)
  exact .inl fun m k => propext ⟨fun h => ⟨rfl, by rw [eqn29]; simpa only [G29, kI, kbool, kS, kptr, kaggN, kite, decide_true, eq_self] using h⟩, fun h => by have h := h.2; rw [eqn29] at h; simpa only [G29, kI, kbool, kS, kptr, kaggN, kite, decide_true, eq_self] using h⟩

/-- pianola/pianolaref6.Pending -/
def F30 (b_0 o_0 : Nat) (m : Mem) (k : Bool → Mem → Prop) : Prop :=
  ldI .u32 m b_0 (o_0 + 39 + 13) fun x1 => ldI .u32 m b_0 (o_0 + 39 + 12) fun x2 => (Keeps m m ∧ k ((bits .and .u32 (bits .and .u32 x1 x2) 65280) != 0) m)

def G30 (args : List AV) (m : Mem) (k : KV) : Prop := match args with
  | [a0] => kptr a0 fun b_0 o_0 => F30 b_0 o_0 m (fun x_1000 m' => k (.flat (.bool x_1000)) m')
  | _ => False

def E30 : Env := envOf []

def Lam30 : LEnv := ⟨fun a σ m k => match firstReg a with
  | _ => bump False,
  fun id => match id with
  | _ => bump false,
  fun b => match keyC b with
  | _ => bump false,
  fun b σ m k => match keyC b with
  | _ => bump False⟩

theorem eqn30 (b_0 o_0 : Nat) (m : Mem) (k : KV) : bodyK Try.prog E30 Lam30 Try.f30 true [(.ptr b_0 o_0)] m k = F30 b_0 o_0 m (fun x_1000 m' => k (.flat (.bool x_1000)) m') := by
  kernel_rfl

theorem fs30 (w0 : World) : FS Try.prog w0 30 G30 := by
  refine (fs_body (Γ := E30) (sound_env (l := []) w0 (by
    intro p hp
    cases hp)) (by kernel_rfl) Try.func30 (Λ := Lam30) (c := (bodyOf Try.f30)) (by kernel_rfl) Try.call30 (by kernel_rfl) (LS_of (bodyOf Try.f30) 0 (by kernel_rfl) (fun i hi => absurd hi (Nat.not_lt_zero i)) 0 (by kernel_rfl) (fun i hi => absurd hi (Nat.not_lt_zero i))) true (np := 1) (Nat.le_of_ble_eq_true (by kernel_rfl))).imp fun args => ?_
  by_cases hl : args.length = 1
  rotate_left
  · exact .inr fun m k hk => by
      unfold G30 at hk
      split at hk
      · exact hl rfl
      · exact hk
  obtain ⟨a0, rfl⟩ : ∃ a0, args = [a0] := len_list1 hl
  rcases kptr_or a0 with ⟨b_0, o_0, rfl⟩ | h
  rotate_left
  · exact .inr fun m k hk => h _ (by simpa only [G30, kI, kbool, kS, kptr, kaggN, kite, decide_true, eq_self] using hk)
  exact .inl fun m k => propext ⟨fun h => ⟨rfl, by rw [eqn30]; simpa only [G30, kI, kbool, kS, kptr, kaggN, kite, decide_true, eq_self] using h⟩, fun h => by have h := h.2; rw [eqn30] at h; simpa only [G30, kI, kbool, kS, kptr, kaggN, kite, decide_true, eq_self] using h⟩

/-- pianola/pianolaref6.Taken -/
def F31 (b_0 o_0 : Nat) (m : Mem) (k : Bool → Mem → Prop) : Prop :=
  F30 b_0 o_0 m fun x1 m2 => kif x1 (ldI .u32 m2 b_0 (o_0 + 39 + 12) fun x3 => (Keeps m m2 ∧ k ((bits .and .u32 x3 3) == 1) m)) ((Keeps m m2 ∧ k false m))

def G31 (args : List AV) (m : Mem) (k : KV) : Prop := match args with
  | [a0] => kptr a0 fun b_0 o_0 => F31 b_0 o_0 m (fun x_1000 m' => k (.flat (.bool x_1000)) m')
  | _ => False

def E31 : Env := envOf [(30, G30)]

def Lam31 : LEnv := ⟨fun a σ m k => match firstReg a with
  | _ => bump False,
  fun id => match id with
  | _ => bump false,
  fun b => match keyC b with
  | _ => bump false,
  fun b σ m k => match keyC b with
  | _ => bump False⟩

theorem eqn31 (b_0 o_0 : Nat) (m : Mem) (k : KV) : bodyK Try.prog E31 Lam31 Try.f31 true [(.ptr b_0 o_0)] m k = F31 b_0 o_0 m (fun x_1000 m' => k (.flat (.bool x_1000)) m') := by
  kernel_rfl

theorem fs31 (w0 : World) : FS Try.prog w0 31 G31 := by
  refine (fs_body (Γ := E31) (sound_env (l := [(30, G30)]) w0 (by
    intro p hp
    simp only [List.mem_cons, List.not_mem_nil, or_false] at hp
    rcases hp with rfl
    · exact fs30 w0)) (by kernel_rfl) Try.func31 (Λ := Lam31) (c := (bodyOf Try.f31)) (by kernel_rfl) Try.call31 (by kernel_rfl) (LS_of (bodyOf Try.f31) 0 (by kernel_rfl) (fun i hi => absurd hi (Nat.not_lt_zero i)) 0 (by kernel_rfl) (fun i hi => absurd hi (Nat.not_lt_zero i))) true (np := 1) (Nat.le_of_ble_eq_true (by kernel_rfl))).imp fun args => ?_
  by_cases hl : args.length = 1
  rotate_left
  · exact .inr fun m k hk => by
      unfold G31 at hk
      split at hk
      · exact hl rfl
      · exact hk
  obtain ⟨a0, rfl⟩ : ∃ a0, args = [a0] := len_list1 hl
  rcases kptr_or a0 with ⟨b_0, o_0, rfl⟩ | h
  rotate_left
  · exact .inr fun m k hk => h _ (by simpa only [G31, kI, kbool, kS, kptr, kaggN, kite, decide_true, eq_self] using hk)
  exact .inl fun m k => propext ⟨fun h => ⟨rfl, by rw [eqn31]; simpa only [G31, kI, kbool, kS, kptr, kaggN, kite, decide_true, eq_self] using h⟩, fun h => by have h := h.2; rw [eqn31] at h; simpa only [G31, kI, kbool, kS, kptr, kaggN, kite, decide_true, eq_self] using h⟩

def R16_26 (b_0 o_0 : Nat) (b_1 o_1 : Nat) (b_5 o_5 : Nat) (x_8 : Int) (m : Mem) (kn : Int → Mem → Prop) (k1 : Mem → Prop) (kr : Bool → Mem → Prop) : Prop :=
  kif (decide (x_8 < 18)) (F17 (.ptr b_0 o_0) x_8 m fun x55 m56 => F28 b_1 o_1 x_8 m56 fun x57 m58 => kif (x55 != x57) (kr false m58) (kn (IntKind.wrap .i64 (x_8 + 1)) m58)) (k1  m)

def L16_26 (b_0 o_0 : Nat) (b_1 o_1 : Nat) (b_5 o_5 : Nat) : Nat → Int → Mem → (Mem → Prop) → (Bool → Mem → Prop) → Prop
  | 0, _,  _, _, _ => bump False
  | N + 1, x_8,  m, k1, kr => R16_26 b_0 o_0 b_1 o_1 b_5 o_5 x_8 m (fun x_8' m' => L16_26 b_0 o_0 b_1 o_1 b_5 o_5 N x_8' m' k1 kr) k1 kr

def P16_25103 (b_0 o_0 : Nat) (b_1 o_1 : Nat) (b_5 o_5 : Nat) (m : Mem) (kr : Bool → Mem → Prop) : Prop :=
  ∃ N62, L16_26 b_0 o_0 b_1 o_1 b_5 o_5 N62 (-1) m (fun m59 => ∃ Fr63 : Nat → Prop, Fr63 b_0 ∧ (ldG 73 m59 b_0 o_0 fun c64 => Fr63 b_1 ∧ (ldG 73 m59 b_1 o_1 fun c65 => geq K30 c64 c65 fun x66 => kif x66 (F12 (.ptr b_0 o_0) m59 fun x67 m68 => KeepsIn Fr63 m59 m68 ∧ (F29 b_1 o_1 m68 fun x69 m70 => KeepsIn Fr63 m68 m70 ∧ (kif (x67 == x69) (F20 b_0 o_0 m70 fun x71 m72 => KeepsIn Fr63 m70 m72 ∧ (F30 b_1 o_1 m72 fun x73 m74 => KeepsIn Fr63 m72 m74 ∧ (kif (x71 == x73) (F13 b_0 o_0 m74 fun x75 m76 => KeepsIn Fr63 m74 m76 ∧ (F31 b_1 o_1 m76 fun x77 m78 => KeepsIn Fr63 m76 m78 ∧ (kif (x75 == x77) (Fr63 b_5 ∧ (ldI .i64 m78 b_5 (o_5 + 1) fun x79 => F17 (.ptr b_0 o_0) x79 m78 fun x80 m81 => KeepsIn Fr63 m78 m81 ∧ (Fr63 b_5 ∧ (ldI .i64 m81 b_5 (o_5 + 1) fun x82 => F28 b_1 o_1 x82 m81 fun x83 m84 => KeepsIn Fr63 m81 m84 ∧ (kr (x80 == x83) m84))))) (kr false m78)))) (kr false m74)))) (kr false m70)))) (kr false m59)))) (fun x60 m61 => kr x60 m61)

def P16_20102 (b_0 o_0 : Nat) (b_1 o_1 : Nat) (b_5 o_5 : Nat) (x_7 : Int) (m : Mem) (kr : Bool → Mem → Prop) (kn : Mem → Prop) : Prop :=
  F8 (.ptr b_0 o_0) x_7 m fun x20 m21 => F25 b_1 o_1 x_7 m21 fun x22 m23 => kif (!(x20 == x22)) (kr false m23) (kn  m23)

def P16_18103 (b_0 o_0 : Nat) (b_1 o_1 : Nat) (b_5 o_5 : Nat) (x_7 : Int) (m : Mem) (kr : Bool → Mem → Prop) (kn : Mem → Prop) : Prop :=
  kif (decide (x_7 > 1099511627776)) (P16_20102 b_0 o_0 b_1 o_1 b_5 o_5 (x_7.tmod 1099511627776) m (fun x24 m25 => kr x24 m25) (fun m26 => kn  m26)) (kif (decide (x_7 < (-1099511627776))) (P16_20102 b_0 o_0 b_1 o_1 b_5 o_5 (x_7.tmod 1099511627776) m (fun x27 m28 => kr x27 m28) (fun m29 => kn  m29)) (P16_20102 b_0 o_0 b_1 o_1 b_5 o_5 x_7 m (fun x30 m31 => kr x30 m31) (fun m32 => kn  m32)))

def P16_15004 (b_0 o_0 : Nat) (b_1 o_1 : Nat) (b_5 o_5 : Nat) (x_10 : Int) (x_59 : Bool) (m : Mem) (kr : Bool → Mem → Prop) (kn : Mem → Prop) : Prop :=
  kif x_59 (ldI .i64 m b_5 (o_5 + 4) fun x18 => ldI .i64 m b_5 (o_5 + 0) fun x19 => kif (x19 == 8) (P16_18103 b_0 o_0 b_1 o_1 b_5 o_5 (x18.tmod 60) m (fun x33 m34 => kr x33 m34) (fun m35 => kn  m35)) (P16_18103 b_0 o_0 b_1 o_1 b_5 o_5 x18 m (fun x36 m37 => kr x36 m37) (fun m38 => kn  m38))) (kif (x_10 == 9) (ldB m b_5 (o_5 + 3) fun x39 => F26 b_0 o_0 x39 m fun m40 => ldB m40 b_5 (o_5 + 3) fun x41 => F27 b_1 o_1 x41 m40 fun m42 => kn  m42) (ldI .i64 m b_5 (o_5 + 1) fun x43 => ldI .u32 m b_5 (o_5 + 2) fun x44 => F7 (.ptr b_0 o_0) x43 x44 m fun m45 => ldI .i64 m45 b_5 (o_5 + 1) fun x46 => ldI .u32 m45 b_5 (o_5 + 2) fun x47 => F18 b_1 o_1 x46 x47 m45 fun m48 => kn  m48))

/-- pianola/pianolalaw6.do -/
def F16 (b_0 o_0 : Nat) (b_1 o_1 : Nat) (c_2 : Nat → AV) (m : Mem) (k : Bool → Mem → Prop) : Prop :=
  newK m ⟨5, c_2, 49, false⟩ fun b2 m1 => ldI .i64 m1 b2 0 fun x3 => kif (x3 == 4) (ldI .i64 m1 b2 1 fun x4 => ldB m1 b2 3 fun x5 => F11 (.ptr b_0 o_0) (bits .and .i64 x4 31) x5 m1 fun m6 => ldI .i64 m6 b2 1 fun x7 => ldB m6 b2 3 fun x8 => F21 b_1 o_1 (bits .and .i64 x7 31) x8 m6 fun m9 => P16_25103 b_0 o_0 b_1 o_1 b2 0 m9 (fun x85 m86 => k x85 m86)) (kif (x3 == 5) (ldI .u32 m1 b2 2 fun x10 => ldB m1 b2 3 fun x11 => F22 b_0 o_0 x10 x11 m1 fun m12 => ldI .u32 m12 b2 2 fun x13 => ldB m12 b2 3 fun x14 => F23 b_1 o_1 x13 x14 m12 fun m15 => P16_25103 b_0 o_0 b_1 o_1 b2 0 m15 (fun x87 m88 => k x87 m88)) (kif (x3 == 6) (F14 b_0 o_0 m1 fun m16 => F24 b_1 o_1 m16 fun m17 => P16_25103 b_0 o_0 b_1 o_1 b2 0 m17 (fun x89 m90 => k x89 m90)) (kif (x3 == 7) (P16_15004 b_0 o_0 b_1 o_1 b2 0 x3 (x3 == 7) m1 (fun x49 m50 => k x49 m50) (fun m51 => P16_25103 b_0 o_0 b_1 o_1 b2 0 m51 (fun x91 m92 => k x91 m92))) (P16_15004 b_0 o_0 b_1 o_1 b2 0 x3 (x3 == 8) m1 (fun x52 m53 => k x52 m53) (fun m54 => P16_25103 b_0 o_0 b_1 o_1 b2 0 m54 (fun x93 m94 => k x93 m94))))))

def G16 (args : List AV) (m : Mem) (k : KV) : Prop := match args with
  | [a0, a1, a2] => kptr a0 fun b_0 o_0 => kptr a1 fun b_1 o_1 => kaggN 5 a2 fun c_2 => F16 b_0 o_0 b_1 o_1 c_2 m (fun x_1000 m' => k (.flat (.bool x_1000)) m')
  | _ => False

def E16 : Env := envOf [(7, G7), (8, G8), (11, G11), (12, G12), (13, G13), (14, G14), (17, G17), (18, G18), (20, G20), (21, G21), (22, G22), (23, G23), (24, G24), (25, G25), (26, G26), (27, G27), (28, G28), (29, G29), (30, G30), (31, G31)]

def LamP16_15004 (σ : Nat → AV) (m : Mem) (k : KX) : Prop := kptr (σ 0) fun b_0 o_0 => kptr (σ 1) fun b_1 o_1 => kptr (σ 5) fun b_5 o_5 => kI .i64 (σ 10) fun x_10 => kbool (σ 59) fun x_59 => P16_15004 b_0 o_0 b_1 o_1 b_5 o_5 x_10 x_59 m (fun x_6' m' => k .ret (only [6] [(.flat (.bool x_6'))]) m') (fun m' => k .normal (only [0, 1, 5] [(.ptr b_0 o_0), (.ptr b_1 o_1), (.ptr b_5 o_5)]) m')

def LamP16_18103 (σ : Nat → AV) (m : Mem) (k : KX) : Prop := kptr (σ 0) fun b_0 o_0 => kptr (σ 1) fun b_1 o_1 => kptr (σ 5) fun b_5 o_5 => kI .i64 (σ 7) fun x_7 => P16_18103 b_0 o_0 b_1 o_1 b_5 o_5 x_7 m (fun x_6' m' => k .ret (only [6] [(.flat (.bool x_6'))]) m') (fun m' => k .normal (only [0, 1, 5] [(.ptr b_0 o_0), (.ptr b_1 o_1), (.ptr b_5 o_5)]) m')

def LamP16_20102 (σ : Nat → AV) (m : Mem) (k : KX) : Prop := kptr (σ 0) fun b_0 o_0 => kptr (σ 1) fun b_1 o_1 => kptr (σ 5) fun b_5 o_5 => kI .i64 (σ 7) fun x_7 => P16_20102 b_0 o_0 b_1 o_1 b_5 o_5 x_7 m (fun x_6' m' => k .ret (only [6] [(.flat (.bool x_6'))]) m') (fun m' => k .normal (only [0, 1, 5] [(.ptr b_0 o_0), (.ptr b_1 o_1), (.ptr b_5 o_5)]) m')

def LamP16_25103 (σ : Nat → AV) (m : Mem) (k : KX) : Prop := kptr (σ 0) fun b_0 o_0 => kptr (σ 1) fun b_1 o_1 => kptr (σ 5) fun b_5 o_5 => P16_25103 b_0 o_0 b_1 o_1 b_5 o_5 m (fun x_6' m' => k .ret (only [6] [(.flat (.bool x_6'))]) m')

def Lam16_26 (σ : Nat → AV) (m : Mem) (k : KX) : Prop := kptr (σ 0) fun b_0 o_0 => kptr (σ 1) fun b_1 o_1 => kptr (σ 5) fun b_5 o_5 => kI .i64 (σ 8) fun x_8 => ∃ N, L16_26 b_0 o_0 b_1 o_1 b_5 o_5 N x_8 m (fun m' => k (.exit 1) (only [0, 1, 5] [(.ptr b_0 o_0), (.ptr b_1 o_1), (.ptr b_5 o_5)]) m') (fun x_6' m' => k .ret (only [6] [(.flat (.bool x_6'))]) m')

def Lam16 : LEnv := ⟨fun a σ m k => match firstReg a with
  | some 26 => Lam16_26 σ m k
  | _ => bump False,
  fun id => match id with
  | 30 => true
  | _ => bump false,
  fun b => match keyC b with
  | some 15004 => true
  | some 18103 => true
  | some 20102 => true
  | some 25103 => true
  | _ => bump false,
  fun b σ m k => match keyC b with
  | some 15004 => LamP16_15004 σ m k
  | some 18103 => LamP16_18103 σ m k
  | some 20102 => LamP16_20102 σ m k
  | some 25103 => LamP16_25103 σ m k
  | _ => bump False⟩

def lx16_26 : Ex → List Nat := fun e => match e with
  | .exit 1 => [0, 1, 5]
  | .ret => [6]
  | _ => []

theorem round16_26 (b_0 o_0 : Nat) (b_1 o_1 : Nat) (b_5 o_5 : Nat) (x_8 : Int) (m : Mem) (G : List AV → Mem → Prop) (k : KX) : (wpA Try.prog E16 Lam16 ((loopsOf (bodyOf Try.f16)).getD 0 .skip) (only [0, 1, 5, 8] [(.ptr b_0 o_0), (.ptr b_1 o_1), (.ptr b_5 o_5), (.flat (.int .i64 x_8))]) m fun e σ' m' => match e with
    | .normal => G ([0, 1, 5, 8].map σ') m'
    | .exit id => k (.exit id) (only (lx16_26 (.exit id)) ((lx16_26 (.exit id)).map σ')) m'
    | .ret => k .ret (only (lx16_26 .ret) ((lx16_26 .ret).map σ')) m') = R16_26 b_0 o_0 b_1 o_1 b_5 o_5 x_8 m (fun x_8' m' => G [(.ptr b_0 o_0), (.ptr b_1 o_1), (.ptr b_5 o_5), (.flat (.int .i64 x_8'))] m') (fun m' => k (.exit 1) (only [0, 1, 5] [(.ptr b_0 o_0), (.ptr b_1 o_1), (.ptr b_5 o_5)]) m') (fun x_6' m' => k .ret (only [6] [(.flat (.bool x_6'))]) m') := by
  kernel_rfl

theorem loop16_26 (b_0 o_0 : Nat) (b_1 o_1 : Nat) (b_5 o_5 : Nat) (k : KX) : ∀ (N : Nat) (x_8 : Int) (m : Mem), rounds Try.prog E16 Lam16 [0, 1, 5, 8] lx16_26 ((loopsOf (bodyOf Try.f16)).getD 0 .skip) N [(.ptr b_0 o_0), (.ptr b_1 o_1), (.ptr b_5 o_5), (.flat (.int .i64 x_8))] m k = L16_26 b_0 o_0 b_1 o_1 b_5 o_5 N x_8 m (fun m' => k (.exit 1) (only [0, 1, 5] [(.ptr b_0 o_0), (.ptr b_1 o_1), (.ptr b_5 o_5)]) m') (fun x_6' m' => k .ret (only [6] [(.flat (.bool x_6'))]) m') := by
  intro N
  induction N with
  | zero => intros; rfl
  | succ N ih =>
    intro x_8 m
    refine (round16_26 b_0 o_0 b_1 o_1 b_5 o_5 x_8 m (fun vs m' => rounds Try.prog E16 Lam16 [0, 1, 5, 8] lx16_26 ((loopsOf (bodyOf Try.f16)).getD 0 .skip) N vs m' k) k).trans ?_
    simp only [ih]
    rfl

theorem lok16_26 : LoopOK Try.prog E16 Lam16 ((loopsOf (bodyOf Try.f16)).getD 0 .skip) := by
  refine ⟨fun σ => ∃ b_0 o_0 b_1 o_1 b_5 o_5 x_8, σ 0 = .ptr b_0 o_0 ∧ σ 1 = .ptr b_1 o_1 ∧ σ 5 = .ptr b_5 o_5 ∧ σ 8 = .flat (.int .i64 x_8), [0, 1, 5, 8], lx16_26, fun σ m k => ?_⟩
  have e : Lam16.loop ((loopsOf (bodyOf Try.f16)).getD 0 .skip) σ m k = Lam16_26 σ m k := by kernel_rfl
  rw [e]
  constructor
  · intro h
    unfold Lam16_26 at h
    obtain ⟨b_0, o_0, h0, h⟩ := kptr_ok h
    obtain ⟨b_1, o_1, h1, h⟩ := kptr_ok h
    obtain ⟨b_5, o_5, h2, h⟩ := kptr_ok h
    obtain ⟨x_8, h3, h⟩ := kI_ok h
    obtain ⟨N, h⟩ := h
    refine ⟨⟨b_0, o_0, b_1, o_1, b_5, o_5, x_8, h0, h1, h2, h3⟩, N, ?_⟩
    have ev : [0, 1, 5, 8].map σ = [(.ptr b_0 o_0), (.ptr b_1 o_1), (.ptr b_5 o_5), (.flat (.int .i64 x_8))] := by simp only [List.map_cons, List.map_nil, h0, h1, h2, h3]
    rw [ev, loop16_26]
    exact h
  · rintro ⟨⟨b_0, o_0, b_1, o_1, b_5, o_5, x_8, h0, h1, h2, h3⟩, N, h⟩
    have ev : [0, 1, 5, 8].map σ = [(.ptr b_0 o_0), (.ptr b_1 o_1), (.ptr b_5 o_5), (.flat (.int .i64 x_8))] := by simp only [List.map_cons, List.map_nil, h0, h1, h2, h3]
    rw [ev, loop16_26] at h
    unfold Lam16_26
    simp only [h0, h1, h2, h3, kI, kbool, kS, kptr, kaggN, kite, decide_true, eq_self]
    exact ⟨N, h⟩

def lxp16_25103 : Ex → List Nat := fun e => match e with
  | .ret => [6]
  | _ => []

theorem pc16_25103 (b_0 o_0 : Nat) (b_1 o_1 : Nat) (b_5 o_5 : Nat) (m : Mem) (k : KX) : once Try.prog E16 Lam16 [0, 1, 5] lxp16_25103 (((secsOf (bodyOf Try.f16)).filter Lam16.cut).getD 0 .skip) [(.ptr b_0 o_0), (.ptr b_1 o_1), (.ptr b_5 o_5)] m k = P16_25103 b_0 o_0 b_1 o_1 b_5 o_5 m (fun x_6' m' => k .ret (only [6] [(.flat (.bool x_6'))]) m') := by
  kernel_rfl

theorem pok16_25103 : PieceOK Try.prog E16 Lam16 (((secsOf (bodyOf Try.f16)).filter Lam16.cut).getD 0 .skip) := by
  refine ⟨fun σ => ∃ b_0 o_0 b_1 o_1 b_5 o_5, σ 0 = .ptr b_0 o_0 ∧ σ 1 = .ptr b_1 o_1 ∧ σ 5 = .ptr b_5 o_5, [0, 1, 5], lxp16_25103, fun σ m k => ?_⟩
  have e : Lam16.piece (((secsOf (bodyOf Try.f16)).filter Lam16.cut).getD 0 .skip) σ m k = LamP16_25103 σ m k := by kernel_rfl
  rw [e]
  constructor
  · intro h
    unfold LamP16_25103 at h
    obtain ⟨b_0, o_0, h0, h⟩ := kptr_ok h
    obtain ⟨b_1, o_1, h1, h⟩ := kptr_ok h
    obtain ⟨b_5, o_5, h2, h⟩ := kptr_ok h
    refine ⟨⟨b_0, o_0, b_1, o_1, b_5, o_5, h0, h1, h2⟩, ?_⟩
    have ev : [0, 1, 5].map σ = [(.ptr b_0 o_0), (.ptr b_1 o_1), (.ptr b_5 o_5)] := by simp only [List.map_cons, List.map_nil, h0, h1, h2]
    rw [ev, pc16_25103]
    exact h
  · rintro ⟨⟨b_0, o_0, b_1, o_1, b_5, o_5, h0, h1, h2⟩, h⟩
    have ev : [0, 1, 5].map σ = [(.ptr b_0 o_0), (.ptr b_1 o_1), (.ptr b_5 o_5)] := by simp only [List.map_cons, List.map_nil, h0, h1, h2]
    rw [ev, pc16_25103] at h
    unfold LamP16_25103
    simp only [h0, h1, h2, kI, kbool, kS, kptr, kaggN, kite, decide_true, eq_self]
    exact h

def lxp16_20102 : Ex → List Nat := fun e => match e with
  | .ret => [6]
  | .normal => [0, 1, 5]
  | _ => []

theorem pc16_20102 (b_0 o_0 : Nat) (b_1 o_1 : Nat) (b_5 o_5 : Nat) (x_7 : Int) (m : Mem) (k : KX) : once Try.prog E16 Lam16 [0, 1, 5, 7] lxp16_20102 (((secsOf (bodyOf Try.f16)).filter Lam16.cut).getD 3 .skip) [(.ptr b_0 o_0), (.ptr b_1 o_1), (.ptr b_5 o_5), (.flat (.int .i64 x_7))] m k = P16_20102 b_0 o_0 b_1 o_1 b_5 o_5 x_7 m (fun x_6' m' => k .ret (only [6] [(.flat (.bool x_6'))]) m') (fun m' => k .normal (only [0, 1, 5] [(.ptr b_0 o_0), (.ptr b_1 o_1), (.ptr b_5 o_5)]) m') := by
  kernel_rfl

theorem pok16_20102 : PieceOK Try.prog E16 Lam16 (((secsOf (bodyOf Try.f16)).filter Lam16.cut).getD 3 .skip) := by
  refine ⟨fun σ => ∃ b_0 o_0 b_1 o_1 b_5 o_5 x_7, σ 0 = .ptr b_0 o_0 ∧ σ 1 = .ptr b_1 o_1 ∧ σ 5 = .ptr b_5 o_5 ∧ σ 7 = .flat (.int .i64 x_7), [0, 1, 5, 7], lxp16_20102, fun σ m k => ?_⟩
  have e : Lam16.piece (((secsOf (bodyOf Try.f16)).filter Lam16.cut).getD 3 .skip) σ m k = LamP16_20102 σ m k := by kernel_rfl
  rw [e]
  constructor
  · intro h
    unfold LamP16_20102 at h
    obtain ⟨b_0, o_0, h0, h⟩ := kptr_ok h
    obtain ⟨b_1, o_1, h1, h⟩ := kptr_ok h
    obtain ⟨b_5, o_5, h2, h⟩ := kptr_ok h
    obtain ⟨x_7, h3, h⟩ := kI_ok h
    refine ⟨⟨b_0, o_0, b_1, o_1, b_5, o_5, x_7, h0, h1, h2, h3⟩, ?_⟩
    have ev : [0, 1, 5, 7].map σ = [(.ptr b_0 o_0), (.ptr b_1 o_1), (.ptr b_5 o_5), (.flat (.int .i64 x_7))] := by simp only [List.map_cons, List.map_nil, h0, h1, h2, h3]
    rw [ev, pc16_20102]
    exact h
  · rintro ⟨⟨b_0, o_0, b_1, o_1, b_5, o_5, x_7, h0, h1, h2, h3⟩, h⟩
    have ev : [0, 1, 5, 7].map σ = [(.ptr b_0 o_0), (.ptr b_1 o_1), (.ptr b_5 o_5), (.flat (.int .i64 x_7))] := by simp only [List.map_cons, List.map_nil, h0, h1, h2, h3]
    rw [ev, pc16_20102] at h
    unfold LamP16_20102
    simp only [h0, h1, h2, h3, kI, kbool, kS, kptr, kaggN, kite, decide_true, eq_self]
    exact h

def lxp16_18103 : Ex → List Nat := fun e => match e with
  | .ret => [6]
  | .normal => [0, 1, 5]
  | _ => []

theorem pc16_18103 (b_0 o_0 : Nat) (b_1 o_1 : Nat) (b_5 o_5 : Nat) (x_7 : Int) (m : Mem) (k : KX) : once Try.prog E16 Lam16 [0, 1, 5, 7] lxp16_18103 (((secsOf (bodyOf Try.f16)).filter Lam16.cut).getD 2 .skip) [(.ptr b_0 o_0), (.ptr b_1 o_1), (.ptr b_5 o_5), (.flat (.int .i64 x_7))] m k = P16_18103 b_0 o_0 b_1 o_1 b_5 o_5 x_7 m (fun x_6' m' => k .ret (only [6] [(.flat (.bool x_6'))]) m') (fun m' => k .normal (only [0, 1, 5] [(.ptr b_0 o_0), (.ptr b_1 o_1), (.ptr b_5 o_5)]) m') := by
  kernel_rfl

theorem pok16_18103 : PieceOK Try.prog E16 Lam16 (((secsOf (bodyOf Try.f16)).filter Lam16.cut).getD 2 .skip) := by
  refine ⟨fun σ => ∃ b_0 o_0 b_1 o_1 b_5 o_5 x_7, σ 0 = .ptr b_0 o_0 ∧ σ 1 = .ptr b_1 o_1 ∧ σ 5 = .ptr b_5 o_5 ∧ σ 7 = .flat (.int .i64 x_7), [0, 1, 5, 7], lxp16_18103, fun σ m k => ?_⟩
  have e : Lam16.piece (((secsOf (bodyOf Try.f16)).filter Lam16.cut).getD 2 .skip) σ m k = LamP16_18103 σ m k := by kernel_rfl
  rw [e]
  constructor
  · intro h
    unfold LamP16_18103 at h
    obtain ⟨b_0, o_0, h0, h⟩ := kptr_ok h
    obtain ⟨b_1, o_1, h1, h⟩ := kptr_ok h
    obtain ⟨b_5, o_5, h2, h⟩ := kptr_ok h
    obtain ⟨x_7, h3, h⟩ := kI_ok h
    refine ⟨⟨b_0, o_0, b_1, o_1, b_5, o_5, x_7, h0, h1, h2, h3⟩, ?_⟩
    have ev : [0, 1, 5, 7].map σ = [(.ptr b_0 o_0), (.ptr b_1 o_1), (.ptr b_5 o_5), (.flat (.int .i64 x_7))] := by simp only [List.map_cons, List.map_nil, h0, h1, h2, h3]
    rw [ev, pc16_18103]
    exact h
  · rintro ⟨⟨b_0, o_0, b_1, o_1, b_5, o_5, x_7, h0, h1, h2, h3⟩, h⟩
    have ev : [0, 1, 5, 7].map σ = [(.ptr b_0 o_0), (.ptr b_1 o_1), (.ptr b_5 o_5), (.flat (.int .i64 x_7))] := by simp only [List.map_cons, List.map_nil, h0, h1, h2, h3]
    rw [ev, pc16_18103] at h
    unfold LamP16_18103
    simp only [h0, h1, h2, h3, kI, kbool, kS, kptr, kaggN, kite, decide_true, eq_self]
    exact h

def lxp16_15004 : Ex → List Nat := fun e => match e with
  | .ret => [6]
  | .normal => [0, 1, 5]
  | _ => []

theorem pc16_15004 (b_0 o_0 : Nat) (b_1 o_1 : Nat) (b_5 o_5 : Nat) (x_10 : Int) (x_59 : Bool) (m : Mem) (k : KX) : once Try.prog E16 Lam16 [0, 1, 5, 10, 59] lxp16_15004 (((secsOf (bodyOf Try.f16)).filter Lam16.cut).getD 1 .skip) [(.ptr b_0 o_0), (.ptr b_1 o_1), (.ptr b_5 o_5), (.flat (.int .i64 x_10)), (.flat (.bool x_59))] m k = P16_15004 b_0 o_0 b_1 o_1 b_5 o_5 x_10 x_59 m (fun x_6' m' => k .ret (only [6] [(.flat (.bool x_6'))]) m') (fun m' => k .normal (only [0, 1, 5] [(.ptr b_0 o_0), (.ptr b_1 o_1), (.ptr b_5 o_5)]) m') := by
  kernel_rfl

theorem pok16_15004 : PieceOK Try.prog E16 Lam16 (((secsOf (bodyOf Try.f16)).filter Lam16.cut).getD 1 .skip) := by
  refine ⟨fun σ => ∃ b_0 o_0 b_1 o_1 b_5 o_5 x_10 x_59, σ 0 = .ptr b_0 o_0 ∧ σ 1 = .ptr b_1 o_1 ∧ σ 5 = .ptr b_5 o_5 ∧ σ 10 = .flat (.int .i64 x_10) ∧ σ 59 = .flat (.bool x_59), [0, 1, 5, 10, 59], lxp16_15004, fun σ m k => ?_⟩
  have e : Lam16.piece (((secsOf (bodyOf Try.f16)).filter Lam16.cut).getD 1 .skip) σ m k = LamP16_15004 σ m k := by kernel_rfl
  rw [e]
  constructor
  · intro h
    unfold LamP16_15004 at h
    obtain ⟨b_0, o_0, h0, h⟩ := kptr_ok h
    obtain ⟨b_1, o_1, h1, h⟩ := kptr_ok h
    obtain ⟨b_5, o_5, h2, h⟩ := kptr_ok h
    obtain ⟨x_10, h3, h⟩ := kI_ok h
    obtain ⟨x_59, h4, h⟩ := kbool_ok h
    refine ⟨⟨b_0, o_0, b_1, o_1, b_5, o_5, x_10, x_59, h0, h1, h2, h3, h4⟩, ?_⟩
    have ev : [0, 1, 5, 10, 59].map σ = [(.ptr b_0 o_0), (.ptr b_1 o_1), (.ptr b_5 o_5), (.flat (.int .i64 x_10)), (.flat (.bool x_59))] := by simp only [List.map_cons, List.map_nil, h0, h1, h2, h3, h4]
    rw [ev, pc16_15004]
    exact h
  · rintro ⟨⟨b_0, o_0, b_1, o_1, b_5, o_5, x_10, x_59, h0, h1, h2, h3, h4⟩, h⟩
    have ev : [0, 1, 5, 10, 59].map σ = [(.ptr b_0 o_0), (.ptr b_1 o_1), (.ptr b_5 o_5), (.flat (.int .i64 x_10)), (.flat (.bool x_59))] := by simp only [List.map_cons, List.map_nil, h0, h1, h2, h3, h4]
    rw [ev, pc16_15004] at h
    unfold LamP16_15004
    simp only [h0, h1, h2, h3, h4, kI, kbool, kS, kptr, kaggN, kite, decide_true, eq_self]
    exact h

theorem eqn16 (b_0 o_0 : Nat) (b_1 o_1 : Nat) (c_2 : Nat → AV) (m : Mem) (k : KV) : bodyK Try.prog E16 Lam16 Try.f16 false [(.ptr b_0 o_0), (.ptr b_1 o_1), (.agg 5 c_2)] m k = F16 b_0 o_0 b_1 o_1 c_2 m (fun x_1000 m' => k (.flat (.bool x_1000)) m') := by
  kernel_rfl

theorem fs16 (w0 : World) : FS Try.prog w0 16 G16 := by
  refine (fs_body (Γ := E16) (sound_env (l := [(7, G7), (8, G8), (11, G11), (12, G12), (13, G13), (14, G14), (17, G17), (18, G18), (20, G20), (21, G21), (22, G22), (23, G23), (24, G24), (25, G25), (26, G26), (27, G27), (28, G28), (29, G29), (30, G30), (31, G31)]) w0 (by
    intro p hp
    simp only [List.mem_cons, List.not_mem_nil, or_false] at hp
    rcases hp with rfl | rfl | rfl | rfl | rfl | rfl | rfl | rfl | rfl | rfl | rfl | rfl | rfl | rfl | rfl | rfl | rfl | rfl | rfl | rfl
    · exact fs7 w0
    · exact fs8 w0
    · exact fs11 w0
    · exact fs12 w0
    · exact fs13 w0
    · exact fs14 w0
    · exact fs17 w0
    · exact fs18 w0
    · exact fs20 w0
    · exact fs21 w0
    · exact fs22 w0
    · exact fs23 w0
    · exact fs24 w0
    · exact fs25 w0
    · exact fs26 w0
    · exact fs27 w0
    · exact fs28 w0
    · exact fs29 w0
    · exact fs30 w0
    · exact fs31 w0)) (by kernel_rfl) Try.func16 (Λ := Lam16) (c := (bodyOf Try.f16)) (by kernel_rfl) Try.call16 (by kernel_rfl) (LS_of (bodyOf Try.f16) 1 (by kernel_rfl) (by
    intro i hi
    match i, hi with
    | 0, _ => exact lok16_26
    | i + 1, hi => omega) 4 (by kernel_rfl) (by
    intro i hi
    match i, hi with
    | 0, _ => exact pok16_25103
    | 1, _ => exact pok16_15004
    | 2, _ => exact pok16_18103
    | 3, _ => exact pok16_20102
    | i + 4, hi => omega)) false (np := 3) (Nat.le_of_ble_eq_true (by kernel_rfl))).imp fun args => ?_
  by_cases hl : args.length = 3
  rotate_left
  · exact .inr fun m k hk => by
      unfold G16 at hk
      split at hk
      · exact hl rfl
      · exact hk
  obtain ⟨a0, a1, a2, rfl⟩ : ∃ a0 a1 a2, args = [a0, a1, a2] := len_list3 hl
  rcases kptr_or a0 with ⟨b_0, o_0, rfl⟩ | h
  rotate_left
  · exact .inr fun m k hk => h _ (by simpa only [G16, kI, kbool, kS, kptr, kaggN, kite, decide_true, eq_self] using hk)
  rcases kptr_or a1 with ⟨b_1, o_1, rfl⟩ | h
  rotate_left
  · exact .inr fun m k hk => h _ (by simpa only [G16, kI, kbool, kS, kptr, kaggN, kite, decide_true, eq_self] using hk)
  rcases kaggN_or 5 a2 with ⟨c_2, rfl⟩ | h
  rotate_left
  · exact .inr fun m k hk => h _ (by simpa only [G16, kI, kbool, kS, kptr, kaggN, kite, decide_true, eq_self] using hk)
  exact .inl fun m k => propext ⟨fun h => ⟨rfl, by rw [eqn16]; simpa only [G16, kI, kbool, kS, kptr, kaggN, kite, decide_true, eq_self] using h⟩, fun h => by have h := h.2; rw [eqn16] at h; simpa only [G16, kI, kbool, kS, kptr, kaggN, kite, decide_true, eq_self] using h⟩

def R5_26 (b_1 o_1 : Nat) (b_2 o_2 : Nat) (x_9 : Int) (v_66 : AV) (x_67 : Int) (x_68 : Int) (x_10 : Int) (m : Mem) (kn : Int → Mem → Prop) (k8 : Mem → Prop) (kr : Bool → Mem → Prop) : Prop :=
  kif (decide (x_10 < 8)) (F6  m fun c61 m62 => F15  m62 fun c63 m64 => stG 73 m64 b_1 o_1 c61 fun m65 => stG 73 m65 b_2 o_2 c63 fun m66 => F16 b_1 o_1 b_2 o_2 (upd (upd (lget [(.flat (.int .i64 0)), (.flat (.int .i64 0)), (.flat (.int .u32 0)), (.flat (.bool false)), (.flat (.int .i64 0))]) 1 (.flat (.int .i64 9))) 2 (.flat (.int .u32 4294967293))) m66 fun x67 m68 => kif (!x67) (kr false m68) (F16 b_1 o_1 b_2 o_2 (upd (upd (lget [(.flat (.int .i64 0)), (.flat (.int .i64 0)), (.flat (.int .u32 0)), (.flat (.bool false)), (.flat (.int .i64 0))]) 1 (.flat (.int .i64 11))) 2 (.flat (.int .u32 (IntKind.wrap .u32 (4294967293 + x_9))))) m68 fun x69 m70 => kif (!x69) (kr false m70) (F16 b_1 o_1 b_2 o_2 (upd (upd (lget [(.flat (.int .i64 0)), (.flat (.int .i64 0)), (.flat (.int .u32 0)), (.flat (.bool false)), (.flat (.int .i64 0))]) 0 (.flat (.int .i64 7))) 4 (.flat (.int .i64 x_10))) m70 fun x71 m72 => kif (!x71) (kr false m72) (kn (IntKind.wrap .i64 (x_10 + 1)) m72)))) (k8  m)

def L5_26 (b_1 o_1 : Nat) (b_2 o_2 : Nat) (x_9 : Int) (v_66 : AV) (x_67 : Int) (x_68 : Int) : Nat → Int → Mem → (Mem → Prop) → (Bool → Mem → Prop) → Prop
  | 0, _,  _, _, _ => bump False
  | N + 1, x_10,  m, k8, kr => R5_26 b_1 o_1 b_2 o_2 x_9 v_66 x_67 x_68 x_10 m (fun x_10' m' => L5_26 b_1 o_1 b_2 o_2 x_9 v_66 x_67 x_68 N x_10' m' k8 kr) k8 kr

def R5_23 (b_1 o_1 : Nat) (b_2 o_2 : Nat) (v_66 : AV) (x_67 : Int) (x_68 : Int) (m : Mem) (kn : Int → Mem → Prop) (k6 : Mem → Prop) (kr : Bool → Mem → Prop) : Prop :=
  kif (decide (x_68 < x_67)) (ksl v_66 fun b56 o57 l58 p59 => kif (decide (0 ≤ x_68) && decide (x_68 < l58)) (ldI .u32 m b56 (o57 + (x_68).toNat * 1) fun x60 => ∃ N76, L5_26 b_1 o_1 b_2 o_2 x60 v_66 x_67 x_68 N76 0 m (fun m73 => kn (IntKind.wrap .i64 (x_68 + 1)) m73) (fun x74 m75 => kr x74 m75)) False) (k6  m)

def L5_23 (b_1 o_1 : Nat) (b_2 o_2 : Nat) (v_66 : AV) (x_67 : Int) : Nat → Int → Mem → (Mem → Prop) → (Bool → Mem → Prop) → Prop
  | 0, _,  _, _, _ => bump False
  | N + 1, x_68,  m, k6, kr => R5_23 b_1 o_1 b_2 o_2 v_66 x_67 x_68 m (fun x_68' m' => L5_23 b_1 o_1 b_2 o_2 v_66 x_67 N x_68' m' k6 kr) k6 kr

def P5_20102 (b_1 o_1 : Nat) (b_2 o_2 : Nat) (x_6 : Int) (b_7 o_7 : Nat) (m : Mem) (kr : Bool → Mem → Prop) (kn : Mem → Prop) : Prop :=
  ldG 5 m b_7 o_7 fun c41 => F16 b_1 o_1 b_2 o_2 c41 m fun x42 m43 => kif (!x42) (kr false m43) (kn  m43)

def R5_15 (b_1 o_1 : Nat) (b_2 o_2 : Nat) (x_6 : Int) (m : Mem) (kn : Int → Mem → Prop) (k4 : Mem → Prop) (kr : Bool → Mem → Prop) : Prop :=
  kif (decide (x_6 < 200)) (newK m ⟨6, upd (upd (upd (upd (upd (upd (Z6) 0 (.flat (.int .i64 12))) 1 (.flat (.int .i64 13))) 2 (.flat (.int .i64 9))) 3 (.flat (.int .i64 11))) 4 (.flat (.int .i64 14))) 5 (.flat (.int .i64 10)), 3, false⟩ fun b34 m33 => kif (decide (0 ≤ x_6.tmod 6) && decide (x_6.tmod 6 < 6)) (ldI .i64 m33 b34 (0 + (x_6.tmod 6).toNat * 1) fun x35 => newK m33 ⟨5, lget [(.flat (.int .i64 0)), (.flat (.int .i64 0)), (.flat (.int .u32 0)), (.flat (.bool false)), (.flat (.int .i64 0))], 49, false⟩ fun b37 m36 => stG 5 m36 b37 0 (upd (upd (upd (upd (upd (lget [(.flat (.int .i64 0)), (.flat (.int .i64 0)), (.flat (.int .u32 0)), (.flat (.bool false)), (.flat (.int .i64 0))]) 0 (.flat (.int .i64 (x_6.tmod 10)))) 1 (.flat (.int .i64 x35))) 2 (.flat (.int .u32 (IntKind.wrap .u32 ((IntKind.wrap .u32 x_6) * 16777619))))) 3 (.flat (.bool ((x_6.tmod 3) == 0)))) 4 (.flat (.int .i64 (IntKind.wrap .i64 ((x_6.tmod 5) - 1))))) fun m38 => kif ((x_6.tmod 17) == 16) (stC m38 b_1 (o_1 + 36) (.flat (.bool true)) fun m39 => stC m39 b_2 (o_2 + 36) (.flat (.bool true)) fun m40 => P5_20102 b_1 o_1 b_2 o_2 x_6 b37 0 m40 (fun x44 m45 => kr x44 m45) (fun m46 => kn (IntKind.wrap .i64 (x_6 + 1)) m46)) (P5_20102 b_1 o_1 b_2 o_2 x_6 b37 0 m38 (fun x47 m48 => kr x47 m48) (fun m49 => kn (IntKind.wrap .i64 (x_6 + 1)) m49))) False) (k4  m)

def L5_15 (b_1 o_1 : Nat) (b_2 o_2 : Nat) : Nat → Int → Mem → (Mem → Prop) → (Bool → Mem → Prop) → Prop
  | 0, _,  _, _, _ => bump False
  | N + 1, x_6,  m, k4, kr => R5_15 b_1 o_1 b_2 o_2 x_6 m (fun x_6' m' => L5_15 b_1 o_1 b_2 o_2 N x_6' m' k4 kr) k4 kr

def R5_9 (b_1 o_1 : Nat) (b_2 o_2 : Nat) (x_3 : Int) (v_20 : AV) (x_21 : Int) (x_22 : Int) (m : Mem) (kn : Int → Mem → Prop) (k2 : Mem → Prop) (kr : Bool → Mem → Prop) : Prop :=
  kif (decide (x_22 < x_21)) (ksl v_20 fun b16 o17 l18 p19 => kif (decide (0 ≤ x_22) && decide (x_22 < l18)) (ldI .u32 m b16 (o17 + (x_22).toNat * 1) fun x20 => F16 b_1 o_1 b_2 o_2 (upd (upd (lget [(.flat (.int .i64 0)), (.flat (.int .i64 0)), (.flat (.int .u32 0)), (.flat (.bool false)), (.flat (.int .i64 0))]) 1 (.flat (.int .i64 x_3))) 2 (.flat (.int .u32 x20))) m fun x21 m22 => kif (!x21) (kr false m22) (F16 b_1 o_1 b_2 o_2 (upd (upd (lget [(.flat (.int .i64 0)), (.flat (.int .i64 0)), (.flat (.int .u32 0)), (.flat (.bool false)), (.flat (.int .i64 0))]) 0 (.flat (.int .i64 7))) 4 (.flat (.int .i64 1))) m22 fun x23 m24 => kif (!x23) (kr false m24) (kn (IntKind.wrap .i64 (x_22 + 1)) m24))) False) (k2  m)

def L5_9 (b_1 o_1 : Nat) (b_2 o_2 : Nat) (x_3 : Int) (v_20 : AV) (x_21 : Int) : Nat → Int → Mem → (Mem → Prop) → (Bool → Mem → Prop) → Prop
  | 0, _,  _, _, _ => bump False
  | N + 1, x_22,  m, k2, kr => R5_9 b_1 o_1 b_2 o_2 x_3 v_20 x_21 x_22 m (fun x_22' m' => L5_9 b_1 o_1 b_2 o_2 x_3 v_20 x_21 N x_22' m' k2 kr) k2 kr

def R5_6 (b_1 o_1 : Nat) (b_2 o_2 : Nat) (x_3 : Int) (m : Mem) (kn : Int → Mem → Prop) (k0 : Mem → Prop) (kr : Bool → Mem → Prop) : Prop :=
  kif (decide (x_3 < 18)) (newK m ⟨4, upd (upd (upd (upd (lget [(.flat (.int .u32 0)), (.flat (.int .u32 0)), (.flat (.int .u32 0)), (.flat (.int .u32 0))]) 0 (.flat (.int .u32 4294967295))) 1 (.flat (.int .u32 0))) 2 (.flat (.int .u32 1431655765))) 3 (.flat (.int .u32 2147483648)), 22, false⟩ fun b15 m14 => ∃ N28, L5_9 b_1 o_1 b_2 o_2 x_3 (.sl b15 0 4 (.ex 4)) 4 N28 0 m14 (fun m25 => kn (IntKind.wrap .i64 (x_3 + 1)) m25) (fun x26 m27 => kr x26 m27)) (k0  m)

def L5_6 (b_1 o_1 : Nat) (b_2 o_2 : Nat) : Nat → Int → Mem → (Mem → Prop) → (Bool → Mem → Prop) → Prop
  | 0, _,  _, _, _ => bump False
  | N + 1, x_3,  m, k0, kr => R5_6 b_1 o_1 b_2 o_2 x_3 m (fun x_3' m' => L5_6 b_1 o_1 b_2 o_2 N x_3' m' k0 kr) k0 kr

/-- pianola/pianolalaw6.Cp0Numbers -/
def F5  (m : Mem) (k : Bool → Mem → Prop) : Prop :=
  F6  m fun c1 m2 => newK m2 ⟨73, Z73, 30, false⟩ fun b4 m3 => stG 73 m3 b4 0 c1 fun m5 => F15  m5 fun c6 m7 => newK m7 ⟨73, Z73, 30, false⟩ fun b9 m8 => stG 73 m8 b9 0 c6 fun m10 => ldG 73 m10 b4 0 fun c11 => ldG 73 m10 b9 0 fun c12 => geq K30 c11 c12 fun x13 => kif (!x13) (k false m10) (∃ N32, L5_6 b4 0 b9 0 N32 (-1) m10 (fun m29 => ∃ N53, L5_15 b4 0 b9 0 N53 0 m29 (fun m50 => newK m50 ⟨4, upd (upd (upd (upd (lget [(.flat (.int .u32 0)), (.flat (.int .u32 0)), (.flat (.int .u32 0)), (.flat (.int .u32 0))]) 0 (.flat (.int .u32 0))) 1 (.flat (.int .u32 1))) 2 (.flat (.int .u32 2))) 3 (.flat (.int .u32 5)), 22, false⟩ fun b55 m54 => ∃ N80, L5_23 b4 0 b9 0 (.sl b55 0 4 (.ex 4)) 4 N80 0 m54 (fun m77 => F7 (.flat (.pointer none)) 1 2 m77 fun m81 => F11 (.flat (.pointer none)) 1 true m81 fun m82 => F8 (.flat (.pointer none)) 1 m82 fun x83 m84 => kif (!x83) (F12 (.flat (.pointer none)) m84 fun x85 m86 => kif (!x85) (F17 (.flat (.pointer none)) 1 m86 fun x87 m88 => kif (x87 == 0) (F9  m88 fun x89 m90 => k x89 m90) (k false m88)) (k false m86)) (k false m84)) (fun x78 m79 => k x78 m79)) (fun x51 m52 => k x51 m52)) (fun x30 m31 => k x30 m31))

def G5 (args : List AV) (m : Mem) (k : KV) : Prop := match args with
  | [] => F5  m (fun x_1000 m' => k (.flat (.bool x_1000)) m')
  | _ => False

def E5 : Env := envOf [(6, G6), (7, G7), (8, G8), (9, G9), (11, G11), (12, G12), (15, G15), (16, G16), (17, G17)]

def Lam5_6 (σ : Nat → AV) (m : Mem) (k : KX) : Prop := kptr (σ 1) fun b_1 o_1 => kptr (σ 2) fun b_2 o_2 => kI .i64 (σ 3) fun x_3 => ∃ N, L5_6 b_1 o_1 b_2 o_2 N x_3 m (fun m' => k (.exit 0) (only [1, 2] [(.ptr b_1 o_1), (.ptr b_2 o_2)]) m') (fun x_0' m' => k .ret (only [0] [(.flat (.bool x_0'))]) m')

def Lam5_9 (σ : Nat → AV) (m : Mem) (k : KX) : Prop := kptr (σ 1) fun b_1 o_1 => kptr (σ 2) fun b_2 o_2 => kI .i64 (σ 3) fun x_3 => kI .i64 (σ 21) fun x_21 => kI .i64 (σ 22) fun x_22 => ∃ N, L5_9 b_1 o_1 b_2 o_2 x_3 (σ 20) x_21 N x_22 m (fun m' => k (.exit 2) (only [1, 2, 3] [(.ptr b_1 o_1), (.ptr b_2 o_2), (.flat (.int .i64 x_3))]) m') (fun x_0' m' => k .ret (only [0] [(.flat (.bool x_0'))]) m')

def Lam5_15 (σ : Nat → AV) (m : Mem) (k : KX) : Prop := kptr (σ 1) fun b_1 o_1 => kptr (σ 2) fun b_2 o_2 => kI .i64 (σ 6) fun x_6 => ∃ N, L5_15 b_1 o_1 b_2 o_2 N x_6 m (fun m' => k (.exit 4) (only [1, 2] [(.ptr b_1 o_1), (.ptr b_2 o_2)]) m') (fun x_0' m' => k .ret (only [0] [(.flat (.bool x_0'))]) m')

def LamP5_20102 (σ : Nat → AV) (m : Mem) (k : KX) : Prop := kptr (σ 1) fun b_1 o_1 => kptr (σ 2) fun b_2 o_2 => kI .i64 (σ 6) fun x_6 => kptr (σ 7) fun b_7 o_7 => P5_20102 b_1 o_1 b_2 o_2 x_6 b_7 o_7 m (fun x_0' m' => k .ret (only [0] [(.flat (.bool x_0'))]) m') (fun m' => k .normal (only [1, 2, 6] [(.ptr b_1 o_1), (.ptr b_2 o_2), (.flat (.int .i64 x_6))]) m')

def Lam5_23 (σ : Nat → AV) (m : Mem) (k : KX) : Prop := kptr (σ 1) fun b_1 o_1 => kptr (σ 2) fun b_2 o_2 => kI .i64 (σ 67) fun x_67 => kI .i64 (σ 68) fun x_68 => ∃ N, L5_23 b_1 o_1 b_2 o_2 (σ 66) x_67 N x_68 m (fun m' => k (.exit 6) (only [] []) m') (fun x_0' m' => k .ret (only [0] [(.flat (.bool x_0'))]) m')

def Lam5_26 (σ : Nat → AV) (m : Mem) (k : KX) : Prop := kptr (σ 1) fun b_1 o_1 => kptr (σ 2) fun b_2 o_2 => kI .u32 (σ 9) fun x_9 => kI .i64 (σ 10) fun x_10 => kI .i64 (σ 67) fun x_67 => kI .i64 (σ 68) fun x_68 => ∃ N, L5_26 b_1 o_1 b_2 o_2 x_9 (σ 66) x_67 x_68 N x_10 m (fun m' => k (.exit 8) (only [1, 2, 66, 67, 68] [(.ptr b_1 o_1), (.ptr b_2 o_2), (σ 66), (.flat (.int .i64 x_67)), (.flat (.int .i64 x_68))]) m') (fun x_0' m' => k .ret (only [0] [(.flat (.bool x_0'))]) m')

def Lam5 : LEnv := ⟨fun a σ m k => match firstReg a with
  | some 6 => Lam5_6 σ m k
  | some 9 => Lam5_9 σ m k
  | some 15 => Lam5_15 σ m k
  | some 23 => Lam5_23 σ m k
  | some 26 => Lam5_26 σ m k
  | _ => bump False,
  fun id => match id with
  | _ => bump false,
  fun b => match keyC b with
  | some 20102 => true
  | _ => bump false,
  fun b σ m k => match keyC b with
  | some 20102 => LamP5_20102 σ m k
  | _ => bump False⟩

def lx5_26 : Ex → List Nat := fun e => match e with
  | .exit 8 => [1, 2, 66, 67, 68]
  | .ret => [0]
  | _ => []

theorem round5_26 (b_1 o_1 : Nat) (b_2 o_2 : Nat) (x_9 : Int) (v_66 : AV) (x_67 : Int) (x_68 : Int) (x_10 : Int) (m : Mem) (G : List AV → Mem → Prop) (k : KX) : (wpA Try.prog E5 Lam5 ((loopsOf (bodyOf Try.f5)).getD 4 .skip) (only [1, 2, 9, 10, 66, 67, 68] [(.ptr b_1 o_1), (.ptr b_2 o_2), (.flat (.int .u32 x_9)), (.flat (.int .i64 x_10)), v_66, (.flat (.int .i64 x_67)), (.flat (.int .i64 x_68))]) m fun e σ' m' => match e with
    | .normal => G ([1, 2, 9, 10, 66, 67, 68].map σ') m'
    | .exit id => k (.exit id) (only (lx5_26 (.exit id)) ((lx5_26 (.exit id)).map σ')) m'
    | .ret => k .ret (only (lx5_26 .ret) ((lx5_26 .ret).map σ')) m') = R5_26 b_1 o_1 b_2 o_2 x_9 v_66 x_67 x_68 x_10 m (fun x_10' m' => G [(.ptr b_1 o_1), (.ptr b_2 o_2), (.flat (.int .u32 x_9)), (.flat (.int .i64 x_10')), v_66, (.flat (.int .i64 x_67)), (.flat (.int .i64 x_68))] m') (fun m' => k (.exit 8) (only [1, 2, 66, 67, 68] [(.ptr b_1 o_1), (.ptr b_2 o_2), v_66, (.flat (.int .i64 x_67)), (.flat (.int .i64 x_68))]) m') (fun x_0' m' => k .ret (only [0] [(.flat (.bool x_0'))]) m') := by
  kernel_rfl

theorem loop5_26 (b_1 o_1 : Nat) (b_2 o_2 : Nat) (x_9 : Int) (v_66 : AV) (x_67 : Int) (x_68 : Int) (k : KX) : ∀ (N : Nat) (x_10 : Int) (m : Mem), rounds Try.prog E5 Lam5 [1, 2, 9, 10, 66, 67, 68] lx5_26 ((loopsOf (bodyOf Try.f5)).getD 4 .skip) N [(.ptr b_1 o_1), (.ptr b_2 o_2), (.flat (.int .u32 x_9)), (.flat (.int .i64 x_10)), v_66, (.flat (.int .i64 x_67)), (.flat (.int .i64 x_68))] m k = L5_26 b_1 o_1 b_2 o_2 x_9 v_66 x_67 x_68 N x_10 m (fun m' => k (.exit 8) (only [1, 2, 66, 67, 68] [(.ptr b_1 o_1), (.ptr b_2 o_2), v_66, (.flat (.int .i64 x_67)), (.flat (.int .i64 x_68))]) m') (fun x_0' m' => k .ret (only [0] [(.flat (.bool x_0'))]) m') := by
  intro N
  induction N with
  | zero => intros; rfl
  | succ N ih =>
    intro x_10 m
    refine (round5_26 b_1 o_1 b_2 o_2 x_9 v_66 x_67 x_68 x_10 m (fun vs m' => rounds Try.prog E5 Lam5 [1, 2, 9, 10, 66, 67, 68] lx5_26 ((loopsOf (bodyOf Try.f5)).getD 4 .skip) N vs m' k) k).trans ?_
    simp only [ih]
    rfl

theorem lok5_26 : LoopOK Try.prog E5 Lam5 ((loopsOf (bodyOf Try.f5)).getD 4 .skip) := by
  refine ⟨fun σ => ∃ b_1 o_1 b_2 o_2 x_9 x_10 v_66 x_67 x_68, σ 1 = .ptr b_1 o_1 ∧ σ 2 = .ptr b_2 o_2 ∧ σ 9 = .flat (.int .u32 x_9) ∧ σ 10 = .flat (.int .i64 x_10) ∧ σ 66 = v_66 ∧ σ 67 = .flat (.int .i64 x_67) ∧ σ 68 = .flat (.int .i64 x_68), [1, 2, 9, 10, 66, 67, 68], lx5_26, fun σ m k => ?_⟩
  have e : Lam5.loop ((loopsOf (bodyOf Try.f5)).getD 4 .skip) σ m k = Lam5_26 σ m k := by kernel_rfl
  rw [e]
  constructor
  · intro h
    unfold Lam5_26 at h
    obtain ⟨b_1, o_1, h0, h⟩ := kptr_ok h
    obtain ⟨b_2, o_2, h1, h⟩ := kptr_ok h
    obtain ⟨x_9, h2, h⟩ := kI_ok h
    obtain ⟨x_10, h3, h⟩ := kI_ok h
    obtain ⟨v_66, h4⟩ : ∃ v, σ 66 = v := ⟨_, rfl⟩
    obtain ⟨x_67, h5, h⟩ := kI_ok h
    obtain ⟨x_68, h6, h⟩ := kI_ok h
    obtain ⟨N, h⟩ := h
    refine ⟨⟨b_1, o_1, b_2, o_2, x_9, x_10, v_66, x_67, x_68, h0, h1, h2, h3, h4, h5, h6⟩, N, ?_⟩
    have ev : [1, 2, 9, 10, 66, 67, 68].map σ = [(.ptr b_1 o_1), (.ptr b_2 o_2), (.flat (.int .u32 x_9)), (.flat (.int .i64 x_10)), v_66, (.flat (.int .i64 x_67)), (.flat (.int .i64 x_68))] := by simp only [List.map_cons, List.map_nil, h0, h1, h2, h3, h4, h5, h6]
    rw [ev, loop5_26]
    simp only [h4] at h
    exact h
  · rintro ⟨⟨b_1, o_1, b_2, o_2, x_9, x_10, v_66, x_67, x_68, h0, h1, h2, h3, h4, h5, h6⟩, N, h⟩
    have ev : [1, 2, 9, 10, 66, 67, 68].map σ = [(.ptr b_1 o_1), (.ptr b_2 o_2), (.flat (.int .u32 x_9)), (.flat (.int .i64 x_10)), v_66, (.flat (.int .i64 x_67)), (.flat (.int .i64 x_68))] := by simp only [List.map_cons, List.map_nil, h0, h1, h2, h3, h4, h5, h6]
    rw [ev, loop5_26] at h
    unfold Lam5_26
    simp only [h0, h1, h2, h3, h4, h5, h6, kI, kbool, kS, kptr, kaggN, kite, decide_true, eq_self]
    exact ⟨N, h⟩

def lx5_23 : Ex → List Nat := fun e => match e with
  | .exit 6 => []
  | .ret => [0]
  | _ => []

theorem round5_23 (b_1 o_1 : Nat) (b_2 o_2 : Nat) (v_66 : AV) (x_67 : Int) (x_68 : Int) (m : Mem) (G : List AV → Mem → Prop) (k : KX) : (wpA Try.prog E5 Lam5 ((loopsOf (bodyOf Try.f5)).getD 3 .skip) (only [1, 2, 66, 67, 68] [(.ptr b_1 o_1), (.ptr b_2 o_2), v_66, (.flat (.int .i64 x_67)), (.flat (.int .i64 x_68))]) m fun e σ' m' => match e with
    | .normal => G ([1, 2, 66, 67, 68].map σ') m'
    | .exit id => k (.exit id) (only (lx5_23 (.exit id)) ((lx5_23 (.exit id)).map σ')) m'
    | .ret => k .ret (only (lx5_23 .ret) ((lx5_23 .ret).map σ')) m') = R5_23 b_1 o_1 b_2 o_2 v_66 x_67 x_68 m (fun x_68' m' => G [(.ptr b_1 o_1), (.ptr b_2 o_2), v_66, (.flat (.int .i64 x_67)), (.flat (.int .i64 x_68'))] m') (fun m' => k (.exit 6) (only [] []) m') (fun x_0' m' => k .ret (only [0] [(.flat (.bool x_0'))]) m') := by
  kernel_rfl

theorem loop5_23 (b_1 o_1 : Nat) (b_2 o_2 : Nat) (v_66 : AV) (x_67 : Int) (k : KX) : ∀ (N : Nat) (x_68 : Int) (m : Mem), rounds Try.prog E5 Lam5 [1, 2, 66, 67, 68] lx5_23 ((loopsOf (bodyOf Try.f5)).getD 3 .skip) N [(.ptr b_1 o_1), (.ptr b_2 o_2), v_66, (.flat (.int .i64 x_67)), (.flat (.int .i64 x_68))] m k = L5_23 b_1 o_1 b_2 o_2 v_66 x_67 N x_68 m (fun m' => k (.exit 6) (only [] []) m') (fun x_0' m' => k .ret (only [0] [(.flat (.bool x_0'))]) m') := by
  intro N
  induction N with
  | zero => intros; rfl
  | succ N ih =>
    intro x_68 m
    refine (round5_23 b_1 o_1 b_2 o_2 v_66 x_67 x_68 m (fun vs m' => rounds Try.prog E5 Lam5 [1, 2, 66, 67, 68] lx5_23 ((loopsOf (bodyOf Try.f5)).getD 3 .skip) N vs m' k) k).trans ?_
    simp only [ih]
    rfl

theorem lok5_23 : LoopOK Try.prog E5 Lam5 ((loopsOf (bodyOf Try.f5)).getD 3 .skip) := by
  refine ⟨fun σ => ∃ b_1 o_1 b_2 o_2 v_66 x_67 x_68, σ 1 = .ptr b_1 o_1 ∧ σ 2 = .ptr b_2 o_2 ∧ σ 66 = v_66 ∧ σ 67 = .flat (.int .i64 x_67) ∧ σ 68 = .flat (.int .i64 x_68), [1, 2, 66, 67, 68], lx5_23, fun σ m k => ?_⟩
  have e : Lam5.loop ((loopsOf (bodyOf Try.f5)).getD 3 .skip) σ m k = Lam5_23 σ m k := by kernel_rfl
  rw [e]
  constructor
  · intro h
    unfold Lam5_23 at h
    obtain ⟨b_1, o_1, h0, h⟩ := kptr_ok h
    obtain ⟨b_2, o_2, h1, h⟩ := kptr_ok h
    obtain ⟨v_66, h2⟩ : ∃ v, σ 66 = v := ⟨_, rfl⟩
    obtain ⟨x_67, h3, h⟩ := kI_ok h
    obtain ⟨x_68, h4, h⟩ := kI_ok h
    obtain ⟨N, h⟩ := h
    refine ⟨⟨b_1, o_1, b_2, o_2, v_66, x_67, x_68, h0, h1, h2, h3, h4⟩, N, ?_⟩
    have ev : [1, 2, 66, 67, 68].map σ = [(.ptr b_1 o_1), (.ptr b_2 o_2), v_66, (.flat (.int .i64 x_67)), (.flat (.int .i64 x_68))] := by simp only [List.map_cons, List.map_nil, h0, h1, h2, h3, h4]
    rw [ev, loop5_23]
    simp only [h2] at h
    exact h
  · rintro ⟨⟨b_1, o_1, b_2, o_2, v_66, x_67, x_68, h0, h1, h2, h3, h4⟩, N, h⟩
    have ev : [1, 2, 66, 67, 68].map σ = [(.ptr b_1 o_1), (.ptr b_2 o_2), v_66, (.flat (.int .i64 x_67)), (.flat (.int .i64 x_68))] := by simp only [List.map_cons, List.map_nil, h0, h1, h2, h3, h4]
    rw [ev, loop5_23] at h
    unfold Lam5_23
    simp only [h0, h1, h2, h3, h4, kI, kbool, kS, kptr, kaggN, kite, decide_true, eq_self]
    exact ⟨N, h⟩

def lxp5_20102 : Ex → List Nat := fun e => match e with
  | .ret => [0]
  | .normal => [1, 2, 6]
  | _ => []

theorem pc5_20102 (b_1 o_1 : Nat) (b_2 o_2 : Nat) (x_6 : Int) (b_7 o_7 : Nat) (m : Mem) (k : KX) : once Try.prog E5 Lam5 [1, 2, 6, 7] lxp5_20102 (((secsOf (bodyOf Try.f5)).filter Lam5.cut).getD 0 .skip) [(.ptr b_1 o_1), (.ptr b_2 o_2), (.flat (.int .i64 x_6)), (.ptr b_7 o_7)] m k = P5_20102 b_1 o_1 b_2 o_2 x_6 b_7 o_7 m (fun x_0' m' => k .ret (only [0] [(.flat (.bool x_0'))]) m') (fun m' => k .normal (only [1, 2, 6] [(.ptr b_1 o_1), (.ptr b_2 o_2), (.flat (.int .i64 x_6))]) m') := by
  kernel_rfl

theorem pok5_20102 : PieceOK Try.prog E5 Lam5 (((secsOf (bodyOf Try.f5)).filter Lam5.cut).getD 0 .skip) := by
  refine ⟨fun σ => ∃ b_1 o_1 b_2 o_2 x_6 b_7 o_7, σ 1 = .ptr b_1 o_1 ∧ σ 2 = .ptr b_2 o_2 ∧ σ 6 = .flat (.int .i64 x_6) ∧ σ 7 = .ptr b_7 o_7, [1, 2, 6, 7], lxp5_20102, fun σ m k => ?_⟩
  have e : Lam5.piece (((secsOf (bodyOf Try.f5)).filter Lam5.cut).getD 0 .skip) σ m k = LamP5_20102 σ m k := by kernel_rfl
  rw [e]
  constructor
  · intro h
    unfold LamP5_20102 at h
    obtain ⟨b_1, o_1, h0, h⟩ := kptr_ok h
    obtain ⟨b_2, o_2, h1, h⟩ := kptr_ok h
    obtain ⟨x_6, h2, h⟩ := kI_ok h
    obtain ⟨b_7, o_7, h3, h⟩ := kptr_ok h
    refine ⟨⟨b_1, o_1, b_2, o_2, x_6, b_7, o_7, h0, h1, h2, h3⟩, ?_⟩
    have ev : [1, 2, 6, 7].map σ = [(.ptr b_1 o_1), (.ptr b_2 o_2), (.flat (.int .i64 x_6)), (.ptr b_7 o_7)] := by simp only [List.map_cons, List.map_nil, h0, h1, h2, h3]
    rw [ev, pc5_20102]
    exact h
  · rintro ⟨⟨b_1, o_1, b_2, o_2, x_6, b_7, o_7, h0, h1, h2, h3⟩, h⟩
    have ev : [1, 2, 6, 7].map σ = [(.ptr b_1 o_1), (.ptr b_2 o_2), (.flat (.int .i64 x_6)), (.ptr b_7 o_7)] := by simp only [List.map_cons, List.map_nil, h0, h1, h2, h3]
    rw [ev, pc5_20102] at h
    unfold LamP5_20102
    simp only [h0, h1, h2, h3, kI, kbool, kS, kptr, kaggN, kite, decide_true, eq_self]
    exact h

def lx5_15 : Ex → List Nat := fun e => match e with
  | .exit 4 => [1, 2]
  | .ret => [0]
  | _ => []

theorem round5_15 (b_1 o_1 : Nat) (b_2 o_2 : Nat) (x_6 : Int) (m : Mem) (G : List AV → Mem → Prop) (k : KX) : (wpA Try.prog E5 Lam5 ((loopsOf (bodyOf Try.f5)).getD 2 .skip) (only [1, 2, 6] [(.ptr b_1 o_1), (.ptr b_2 o_2), (.flat (.int .i64 x_6))]) m fun e σ' m' => match e with
    | .normal => G ([1, 2, 6].map σ') m'
    | .exit id => k (.exit id) (only (lx5_15 (.exit id)) ((lx5_15 (.exit id)).map σ')) m'
    | .ret => k .ret (only (lx5_15 .ret) ((lx5_15 .ret).map σ')) m') = R5_15 b_1 o_1 b_2 o_2 x_6 m (fun x_6' m' => G [(.ptr b_1 o_1), (.ptr b_2 o_2), (.flat (.int .i64 x_6'))] m') (fun m' => k (.exit 4) (only [1, 2] [(.ptr b_1 o_1), (.ptr b_2 o_2)]) m') (fun x_0' m' => k .ret (only [0] [(.flat (.bool x_0'))]) m') := by
  kernel_rfl

theorem loop5_15 (b_1 o_1 : Nat) (b_2 o_2 : Nat) (k : KX) : ∀ (N : Nat) (x_6 : Int) (m : Mem), rounds Try.prog E5 Lam5 [1, 2, 6] lx5_15 ((loopsOf (bodyOf Try.f5)).getD 2 .skip) N [(.ptr b_1 o_1), (.ptr b_2 o_2), (.flat (.int .i64 x_6))] m k = L5_15 b_1 o_1 b_2 o_2 N x_6 m (fun m' => k (.exit 4) (only [1, 2] [(.ptr b_1 o_1), (.ptr b_2 o_2)]) m') (fun x_0' m' => k .ret (only [0] [(.flat (.bool x_0'))]) m') := by
  intro N
  induction N with
  | zero => intros; rfl
  | succ N ih =>
    intro x_6 m
    refine (round5_15 b_1 o_1 b_2 o_2 x_6 m (fun vs m' => rounds Try.prog E5 Lam5 [1, 2, 6] lx5_15 ((loopsOf (bodyOf Try.f5)).getD 2 .skip) N vs m' k) k).trans ?_
    simp only [ih]
    rfl

theorem lok5_15 : LoopOK Try.prog E5 Lam5 ((loopsOf (bodyOf Try.f5)).getD 2 .skip) := by
  refine ⟨fun σ => ∃ b_1 o_1 b_2 o_2 x_6, σ 1 = .ptr b_1 o_1 ∧ σ 2 = .ptr b_2 o_2 ∧ σ 6 = .flat (.int .i64 x_6), [1, 2, 6], lx5_15, fun σ m k => ?_⟩
  have e : Lam5.loop ((loopsOf (bodyOf Try.f5)).getD 2 .skip) σ m k = Lam5_15 σ m k := by kernel_rfl
  rw [e]
  constructor
  · intro h
    unfold Lam5_15 at h
    obtain ⟨b_1, o_1, h0, h⟩ := kptr_ok h
    obtain ⟨b_2, o_2, h1, h⟩ := kptr_ok h
    obtain ⟨x_6, h2, h⟩ := kI_ok h
    obtain ⟨N, h⟩ := h
    refine ⟨⟨b_1, o_1, b_2, o_2, x_6, h0, h1, h2⟩, N, ?_⟩
    have ev : [1, 2, 6].map σ = [(.ptr b_1 o_1), (.ptr b_2 o_2), (.flat (.int .i64 x_6))] := by simp only [List.map_cons, List.map_nil, h0, h1, h2]
    rw [ev, loop5_15]
    exact h
  · rintro ⟨⟨b_1, o_1, b_2, o_2, x_6, h0, h1, h2⟩, N, h⟩
    have ev : [1, 2, 6].map σ = [(.ptr b_1 o_1), (.ptr b_2 o_2), (.flat (.int .i64 x_6))] := by simp only [List.map_cons, List.map_nil, h0, h1, h2]
    rw [ev, loop5_15] at h
    unfold Lam5_15
    simp only [h0, h1, h2, kI, kbool, kS, kptr, kaggN, kite, decide_true, eq_self]
    exact ⟨N, h⟩

def lx5_9 : Ex → List Nat := fun e => match e with
  | .exit 2 => [1, 2, 3]
  | .ret => [0]
  | _ => []

theorem round5_9 (b_1 o_1 : Nat) (b_2 o_2 : Nat) (x_3 : Int) (v_20 : AV) (x_21 : Int) (x_22 : Int) (m : Mem) (G : List AV → Mem → Prop) (k : KX) : (wpA Try.prog E5 Lam5 ((loopsOf (bodyOf Try.f5)).getD 1 .skip) (only [1, 2, 3, 20, 21, 22] [(.ptr b_1 o_1), (.ptr b_2 o_2), (.flat (.int .i64 x_3)), v_20, (.flat (.int .i64 x_21)), (.flat (.int .i64 x_22))]) m fun e σ' m' => match e with
    | .normal => G ([1, 2, 3, 20, 21, 22].map σ') m'
    | .exit id => k (.exit id) (only (lx5_9 (.exit id)) ((lx5_9 (.exit id)).map σ')) m'
    | .ret => k .ret (only (lx5_9 .ret) ((lx5_9 .ret).map σ')) m') = R5_9 b_1 o_1 b_2 o_2 x_3 v_20 x_21 x_22 m (fun x_22' m' => G [(.ptr b_1 o_1), (.ptr b_2 o_2), (.flat (.int .i64 x_3)), v_20, (.flat (.int .i64 x_21)), (.flat (.int .i64 x_22'))] m') (fun m' => k (.exit 2) (only [1, 2, 3] [(.ptr b_1 o_1), (.ptr b_2 o_2), (.flat (.int .i64 x_3))]) m') (fun x_0' m' => k .ret (only [0] [(.flat (.bool x_0'))]) m') := by
  kernel_rfl

theorem loop5_9 (b_1 o_1 : Nat) (b_2 o_2 : Nat) (x_3 : Int) (v_20 : AV) (x_21 : Int) (k : KX) : ∀ (N : Nat) (x_22 : Int) (m : Mem), rounds Try.prog E5 Lam5 [1, 2, 3, 20, 21, 22] lx5_9 ((loopsOf (bodyOf Try.f5)).getD 1 .skip) N [(.ptr b_1 o_1), (.ptr b_2 o_2), (.flat (.int .i64 x_3)), v_20, (.flat (.int .i64 x_21)), (.flat (.int .i64 x_22))] m k = L5_9 b_1 o_1 b_2 o_2 x_3 v_20 x_21 N x_22 m (fun m' => k (.exit 2) (only [1, 2, 3] [(.ptr b_1 o_1), (.ptr b_2 o_2), (.flat (.int .i64 x_3))]) m') (fun x_0' m' => k .ret (only [0] [(.flat (.bool x_0'))]) m') := by
  intro N
  induction N with
  | zero => intros; rfl
  | succ N ih =>
    intro x_22 m
    refine (round5_9 b_1 o_1 b_2 o_2 x_3 v_20 x_21 x_22 m (fun vs m' => rounds Try.prog E5 Lam5 [1, 2, 3, 20, 21, 22] lx5_9 ((loopsOf (bodyOf Try.f5)).getD 1 .skip) N vs m' k) k).trans ?_
    simp only [ih]
    rfl

theorem lok5_9 : LoopOK Try.prog E5 Lam5 ((loopsOf (bodyOf Try.f5)).getD 1 .skip) := by
  refine ⟨fun σ => ∃ b_1 o_1 b_2 o_2 x_3 v_20 x_21 x_22, σ 1 = .ptr b_1 o_1 ∧ σ 2 = .ptr b_2 o_2 ∧ σ 3 = .flat (.int .i64 x_3) ∧ σ 20 = v_20 ∧ σ 21 = .flat (.int .i64 x_21) ∧ σ 22 = .flat (.int .i64 x_22), [1, 2, 3, 20, 21, 22], lx5_9, fun σ m k => ?_⟩
  have e : Lam5.loop ((loopsOf (bodyOf Try.f5)).getD 1 .skip) σ m k = Lam5_9 σ m k := by kernel_rfl
  rw [e]
  constructor
  · intro h
    unfold Lam5_9 at h
    obtain ⟨b_1, o_1, h0, h⟩ := kptr_ok h
    obtain ⟨b_2, o_2, h1, h⟩ := kptr_ok h
    obtain ⟨x_3, h2, h⟩ := kI_ok h
    obtain ⟨v_20, h3⟩ : ∃ v, σ 20 = v := ⟨_, rfl⟩
    obtain ⟨x_21, h4, h⟩ := kI_ok h
    obtain ⟨x_22, h5, h⟩ := kI_ok h
    obtain ⟨N, h⟩ := h
    refine ⟨⟨b_1, o_1, b_2, o_2, x_3, v_20, x_21, x_22, h0, h1, h2, h3, h4, h5⟩, N, ?_⟩
    have ev : [1, 2, 3, 20, 21, 22].map σ = [(.ptr b_1 o_1), (.ptr b_2 o_2), (.flat (.int .i64 x_3)), v_20, (.flat (.int .i64 x_21)), (.flat (.int .i64 x_22))] := by simp only [List.map_cons, List.map_nil, h0, h1, h2, h3, h4, h5]
    rw [ev, loop5_9]
    simp only [h3] at h
    exact h
  · rintro ⟨⟨b_1, o_1, b_2, o_2, x_3, v_20, x_21, x_22, h0, h1, h2, h3, h4, h5⟩, N, h⟩
    have ev : [1, 2, 3, 20, 21, 22].map σ = [(.ptr b_1 o_1), (.ptr b_2 o_2), (.flat (.int .i64 x_3)), v_20, (.flat (.int .i64 x_21)), (.flat (.int .i64 x_22))] := by simp only [List.map_cons, List.map_nil, h0, h1, h2, h3, h4, h5]
    rw [ev, loop5_9] at h
    unfold Lam5_9
    simp only [h0, h1, h2, h3, h4, h5, kI, kbool, kS, kptr, kaggN, kite, decide_true, eq_self]
    exact ⟨N, h⟩

def lx5_6 : Ex → List Nat := fun e => match e with
  | .exit 0 => [1, 2]
  | .ret => [0]
  | _ => []

theorem round5_6 (b_1 o_1 : Nat) (b_2 o_2 : Nat) (x_3 : Int) (m : Mem) (G : List AV → Mem → Prop) (k : KX) : (wpA Try.prog E5 Lam5 ((loopsOf (bodyOf Try.f5)).getD 0 .skip) (only [1, 2, 3] [(.ptr b_1 o_1), (.ptr b_2 o_2), (.flat (.int .i64 x_3))]) m fun e σ' m' => match e with
    | .normal => G ([1, 2, 3].map σ') m'
    | .exit id => k (.exit id) (only (lx5_6 (.exit id)) ((lx5_6 (.exit id)).map σ')) m'
    | .ret => k .ret (only (lx5_6 .ret) ((lx5_6 .ret).map σ')) m') = R5_6 b_1 o_1 b_2 o_2 x_3 m (fun x_3' m' => G [(.ptr b_1 o_1), (.ptr b_2 o_2), (.flat (.int .i64 x_3'))] m') (fun m' => k (.exit 0) (only [1, 2] [(.ptr b_1 o_1), (.ptr b_2 o_2)]) m') (fun x_0' m' => k .ret (only [0] [(.flat (.bool x_0'))]) m') := by
  kernel_rfl

theorem loop5_6 (b_1 o_1 : Nat) (b_2 o_2 : Nat) (k : KX) : ∀ (N : Nat) (x_3 : Int) (m : Mem), rounds Try.prog E5 Lam5 [1, 2, 3] lx5_6 ((loopsOf (bodyOf Try.f5)).getD 0 .skip) N [(.ptr b_1 o_1), (.ptr b_2 o_2), (.flat (.int .i64 x_3))] m k = L5_6 b_1 o_1 b_2 o_2 N x_3 m (fun m' => k (.exit 0) (only [1, 2] [(.ptr b_1 o_1), (.ptr b_2 o_2)]) m') (fun x_0' m' => k .ret (only [0] [(.flat (.bool x_0'))]) m') := by
  intro N
  induction N with
  | zero => intros; rfl
  | succ N ih =>
    intro x_3 m
    refine (round5_6 b_1 o_1 b_2 o_2 x_3 m (fun vs m' => rounds Try.prog E5 Lam5 [1, 2, 3] lx5_6 ((loopsOf (bodyOf Try.f5)).getD 0 .skip) N vs m' k) k).trans ?_
    simp only [ih]
    rfl

theorem lok5_6 : LoopOK Try.prog E5 Lam5 ((loopsOf (bodyOf Try.f5)).getD 0 .skip) := by
  refine ⟨fun σ => ∃ b_1 o_1 b_2 o_2 x_3, σ 1 = .ptr b_1 o_1 ∧ σ 2 = .ptr b_2 o_2 ∧ σ 3 = .flat (.int .i64 x_3), [1, 2, 3], lx5_6, fun σ m k => ?_⟩
  have e : Lam5.loop ((loopsOf (bodyOf Try.f5)).getD 0 .skip) σ m k = Lam5_6 σ m k := by kernel_rfl
  rw [e]
  constructor
  · intro h
    unfold Lam5_6 at h
    obtain ⟨b_1, o_1, h0, h⟩ := kptr_ok h
    obtain ⟨b_2, o_2, h1, h⟩ := kptr_ok h
    obtain ⟨x_3, h2, h⟩ := kI_ok h
    obtain ⟨N, h⟩ := h
    refine ⟨⟨b_1, o_1, b_2, o_2, x_3, h0, h1, h2⟩, N, ?_⟩
    have ev : [1, 2, 3].map σ = [(.ptr b_1 o_1), (.ptr b_2 o_2), (.flat (.int .i64 x_3))] := by simp only [List.map_cons, List.map_nil, h0, h1, h2]
    rw [ev, loop5_6]
    exact h
  · rintro ⟨⟨b_1, o_1, b_2, o_2, x_3, h0, h1, h2⟩, N, h⟩
    have ev : [1, 2, 3].map σ = [(.ptr b_1 o_1), (.ptr b_2 o_2), (.flat (.int .i64 x_3))] := by simp only [List.map_cons, List.map_nil, h0, h1, h2]
    rw [ev, loop5_6] at h
    unfold Lam5_6
    simp only [h0, h1, h2, kI, kbool, kS, kptr, kaggN, kite, decide_true, eq_self]
    exact ⟨N, h⟩

theorem eqn5  (m : Mem) (k : KV) : bodyK Try.prog E5 Lam5 Try.f5 false [] m k = F5  m (fun x_1000 m' => k (.flat (.bool x_1000)) m') := by
  kernel_rfl

theorem fs5 (w0 : World) : FS Try.prog w0 5 G5 := by
  refine (fs_body (Γ := E5) (sound_env (l := [(6, G6), (7, G7), (8, G8), (9, G9), (11, G11), (12, G12), (15, G15), (16, G16), (17, G17)]) w0 (by
    intro p hp
    simp only [List.mem_cons, List.not_mem_nil, or_false] at hp
    rcases hp with rfl | rfl | rfl | rfl | rfl | rfl | rfl | rfl | rfl
    · exact fs6 w0
    · exact fs7 w0
    · exact fs8 w0
    · exact fs9 w0
    · exact fs11 w0
    · exact fs12 w0
    · exact fs15 w0
    · exact fs16 w0
    · exact fs17 w0)) (by kernel_rfl) Try.func5 (Λ := Lam5) (c := (bodyOf Try.f5)) (by kernel_rfl) Try.call5 (by kernel_rfl) (LS_of (bodyOf Try.f5) 5 (by kernel_rfl) (by
    intro i hi
    match i, hi with
    | 0, _ => exact lok5_6
    | 1, _ => exact lok5_9
    | 2, _ => exact lok5_15
    | 3, _ => exact lok5_23
    | 4, _ => exact lok5_26
    | i + 5, hi => omega) 1 (by kernel_rfl) (by
    intro i hi
    match i, hi with
    | 0, _ => exact pok5_20102
    | i + 1, hi => omega)) false (np := 0) (Nat.le_of_ble_eq_true (by kernel_rfl))).imp fun args => ?_
  by_cases hl : args.length = 0
  rotate_left
  · exact .inr fun m k hk => by
      unfold G5 at hk
      split at hk
      · exact hl rfl
      · exact hk
  obtain rfl : args = [] := len_list0 hl

  exact .inl fun m k => propext ⟨fun h => ⟨rfl, by rw [eqn5]; simpa only [G5, kI, kbool, kS, kptr, kaggN, kite, decide_true, eq_self] using h⟩, fun h => by have h := h.2; rw [eqn5] at h; simpa only [G5, kI, kbool, kS, kptr, kaggN, kite, decide_true, eq_self] using h⟩

end Go.Proofs.Ytckhobljijpfpaa.Am
