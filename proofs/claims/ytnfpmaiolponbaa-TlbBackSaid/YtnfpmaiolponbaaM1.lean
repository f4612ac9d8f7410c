/- What Go functions ask of what follows them, as plain functions over the abstract machine; the machine asks just that. Written by gen.py. -/
import Derived.Test.YtnfpmaiolponbaaProg
import Derived.Test.YtnfpmaiolponbaaAmL
import Derived.Test.YtnfpmaiolponbaaM0
namespace Go.Proofs.Ytnfpmaiolponbaa.Am
set_option linter.unusedVariables false
set_option linter.unusedSimpArgs false
set_option maxRecDepth 100000

/-- pianola/pianolaref6.Get -/
def F19 (b_0 o_0 : Nat) (m : Mem) (k : Mem → Prop) : Prop :=
  ldI .u32 m b_0 (o_0 + 39 + 0) fun x1 => kif (decide (0 ≤ bits .and .u32 x1 7) && decide (bits .and .u32 x1 7 < 8)) (ldG 2 m b_0 (o_0 + 55 + (bits .and .u32 x1 7).toNat * 2) fun c2 => newK m ⟨2, lget [(.flat (.int .u32 0)), (.flat (.int .u32 0))], 26, false⟩ fun b4 m3 => stG 2 m3 b4 0 c2 fun m5 => ldI .u32 m5 b4 0 fun x6 => F21 b_0 o_0 10 x6 m5 fun m7 => ldI .u32 m7 b4 1 fun x8 => F21 b_0 o_0 2 x8 m7 fun m9 => k  m9) False

def G19 (args : List AV) (m : Mem) (k : KV) : Prop := match args with
  | [a0] => kptr a0 fun b_0 o_0 => F19 b_0 o_0 m (fun m' => k (.tup []) m')
  | _ => False

def E19 : Env := envOf [(21, G21)]

def Lam19 : LEnv := ⟨fun a σ m k => match firstReg a with
  | _ => bump False,
  fun id => match id with
  | _ => bump false,
  fun b => match keyC b with
  | _ => bump false,
  fun b σ m k => match keyC b with
  | _ => bump False⟩

theorem eqn19 (b_0 o_0 : Nat) (m : Mem) (k : KV) : bodyK Try.prog E19 Lam19 Try.f19 false [(.ptr b_0 o_0)] m k = F19 b_0 o_0 m (fun m' => k (.tup []) m') := by
  kernel_rfl

theorem fs19 (w0 : World) : FS Try.prog w0 19 G19 := by
  refine (fs_body (Γ := E19) (sound_env (l := [(21, G21)]) w0 (by
    intro p hp
    simp only [List.mem_cons, List.not_mem_nil, or_false] at hp
    rcases hp with rfl
    · exact fs21 w0)) (by kernel_rfl) Try.func19 (Λ := Lam19) (c := (bodyOf Try.f19)) (by kernel_rfl) Try.call19 (by kernel_rfl) (LS_of (bodyOf Try.f19) 0 (by kernel_rfl) (fun i hi => absurd hi (Nat.not_lt_zero i)) 0 (by kernel_rfl) (fun i hi => absurd hi (Nat.not_lt_zero i))) false (np := 1) (Nat.le_of_ble_eq_true (by kernel_rfl))).imp fun args => ?_
  by_cases hl : args.length = 1
  rotate_left
  · exact .inr fun m k hk => by
      unfold G19 at hk
      split at hk
      · exact hl rfl
      · exact hk
  obtain ⟨a0, rfl⟩ : ∃ a0, args = [a0] := len_list1 hl
  rcases kptr_or a0 with ⟨b_0, o_0, rfl⟩ | h
  rotate_left
  · exact .inr fun m k hk => h _ (by simpa only [G19, kI, kbool, kS, kptr, kaggN, kite, decide_true, eq_self] using hk)
  exact .inl fun m k => propext ⟨fun h => ⟨rfl, by rw [eqn19]; simpa only [G19, kI, kbool, kS, kptr, kaggN, kite, decide_true, eq_self] using h⟩, fun h => by have h := h.2; rw [eqn19] at h; simpa only [G19, kI, kbool, kS, kptr, kaggN, kite, decide_true, eq_self] using h⟩

def R24_2 (b_0 o_0 : Nat) (x_1 : Int) (x_5 : Int) (m : Mem) (kn : Int → Mem → Prop) (k0 : Mem → Prop) (kr : Int → Mem → Prop) : Prop :=
  kif (decide (x_5 < 8)) (kif (decide (0 ≤ x_5) && decide (x_5 < 8)) (ldG 2 m b_0 (o_0 + 55 + (x_5).toNat * 2) fun c1 => newK m ⟨2, lget [(.flat (.int .u32 0)), (.flat (.int .u32 0))], 26, false⟩ fun b3 m2 => stG 2 m2 b3 0 c1 fun m4 => ldI .u32 m4 b3 0 fun x5 => kif ((bits .andNot .u32 x5 1023) == (bits .andNot .u32 x_1 1023)) (ldI .u32 m4 b3 1 fun x6 => kif ((bits .and .u32 x6 4) != 0) (kr x_5 m4) (ldI .u32 m4 b3 0 fun x7 => ldI .u32 m4 b_0 (o_0 + 39 + 10) fun x8 => kif ((bits .and .u32 x7 255) == (bits .and .u32 x8 255)) (kr x_5 m4) (kn (IntKind.wrap .i64 (x_5 + 1)) m4))) (kn (IntKind.wrap .i64 (x_5 + 1)) m4)) False) (k0  m)

def L24_2 (b_0 o_0 : Nat) (x_1 : Int) : Nat → Int → Mem → (Mem → Prop) → (Int → Mem → Prop) → Prop
  | 0, _,  _, _, _ => bump False
  | N + 1, x_5,  m, k0, kr => R24_2 b_0 o_0 x_1 x_5 m (fun x_5' m' => L24_2 b_0 o_0 x_1 N x_5' m' k0 kr) k0 kr

/-- pianola/pianolaref6.Find -/
def F24 (b_0 o_0 : Nat) (x_1 : Int) (m : Mem) (k : Int → Mem → Prop) : Prop :=
  ∃ N12, L24_2 b_0 o_0 x_1 N12 0 m (fun m9 => (Keeps m m9 ∧ k (-1) m)) (fun x10 m11 => (Keeps m m11 ∧ k x10 m))

def G24 (args : List AV) (m : Mem) (k : KV) : Prop := match args with
  | [a0, a1] => kptr a0 fun b_0 o_0 => kI .u32 a1 fun x_1 => F24 b_0 o_0 x_1 m (fun x_1000 m' => k (.flat (.int .i64 x_1000)) m')
  | _ => False

def E24 : Env := envOf []

def Lam24_2 (σ : Nat → AV) (m : Mem) (k : KX) : Prop := kptr (σ 0) fun b_0 o_0 => kI .u32 (σ 1) fun x_1 => kI .i64 (σ 5) fun x_5 => ∃ N, L24_2 b_0 o_0 x_1 N x_5 m (fun m' => k (.exit 0) (only [] []) m') (fun x_4' m' => k .ret (only [4] [(.flat (.int .i64 x_4'))]) m')

def Lam24 : LEnv := ⟨fun a σ m k => match firstReg a with
  | some 2 => Lam24_2 σ m k
  | _ => bump False,
  fun id => match id with
  | _ => bump false,
  fun b => match keyC b with
  | _ => bump false,
  fun b σ m k => match keyC b with
  | _ => bump False⟩

def lx24_2 : Ex → List Nat := fun e => match e with
  | .exit 0 => []
  | .ret => [4]
  | _ => []

theorem round24_2 (b_0 o_0 : Nat) (x_1 : Int) (x_5 : Int) (m : Mem) (G : List AV → Mem → Prop) (k : KX) : (wpA Try.prog E24 Lam24 ((loopsOf (bodyOf Try.f24)).getD 0 .skip) (only [0, 1, 5] [(.ptr b_0 o_0), (.flat (.int .u32 x_1)), (.flat (.int .i64 x_5))]) m fun e σ' m' => match e with
    | .normal => G ([0, 1, 5].map σ') m'
    | .exit id => k (.exit id) (only (lx24_2 (.exit id)) ((lx24_2 (.exit id)).map σ')) m'
    | .ret => k .ret (only (lx24_2 .ret) ((lx24_2 .ret).map σ')) m') = R24_2 b_0 o_0 x_1 x_5 m (fun x_5' m' => G [(.ptr b_0 o_0), (.flat (.int .u32 x_1)), (.flat (.int .i64 x_5'))] m') (fun m' => k (.exit 0) (only [] []) m') (fun x_4' m' => k .ret (only [4] [(.flat (.int .i64 x_4'))]) m') := by
  kernel_rfl

theorem loop24_2 (b_0 o_0 : Nat) (x_1 : Int) (k : KX) : ∀ (N : Nat) (x_5 : Int) (m : Mem), rounds Try.prog E24 Lam24 [0, 1, 5] lx24_2 ((loopsOf (bodyOf Try.f24)).getD 0 .skip) N [(.ptr b_0 o_0), (.flat (.int .u32 x_1)), (.flat (.int .i64 x_5))] m k = L24_2 b_0 o_0 x_1 N x_5 m (fun m' => k (.exit 0) (only [] []) m') (fun x_4' m' => k .ret (only [4] [(.flat (.int .i64 x_4'))]) m') := by
  intro N
  induction N with
  | zero => intros; rfl
  | succ N ih =>
    intro x_5 m
    refine (round24_2 b_0 o_0 x_1 x_5 m (fun vs m' => rounds Try.prog E24 Lam24 [0, 1, 5] lx24_2 ((loopsOf (bodyOf Try.f24)).getD 0 .skip) N vs m' k) k).trans ?_
    simp only [ih]
    rfl

theorem lok24_2 : LoopOK Try.prog E24 Lam24 ((loopsOf (bodyOf Try.f24)).getD 0 .skip) := by
  refine ⟨fun σ => ∃ b_0 o_0 x_1 x_5, σ 0 = .ptr b_0 o_0 ∧ σ 1 = .flat (.int .u32 x_1) ∧ σ 5 = .flat (.int .i64 x_5), [0, 1, 5], lx24_2, fun σ m k => ?_⟩
  have e : Lam24.loop ((loopsOf (bodyOf Try.f24)).getD 0 .skip) σ m k = Lam24_2 σ m k := by kernel_rfl
  rw [e]
  constructor
  · intro h
    unfold Lam24_2 at h
    obtain ⟨b_0, o_0, h0, h⟩ := kptr_ok h
    obtain ⟨x_1, h1, h⟩ := kI_ok h
    obtain ⟨x_5, h2, h⟩ := kI_ok h
    obtain ⟨N, h⟩ := h
    refine ⟨⟨b_0, o_0, x_1, x_5, h0, h1, h2⟩, N, ?_⟩
    have ev : [0, 1, 5].map σ = [(.ptr b_0 o_0), (.flat (.int .u32 x_1)), (.flat (.int .i64 x_5))] := by simp only [List.map_cons, List.map_nil, h0, h1, h2]
    rw [ev, loop24_2]
    exact h
  · rintro ⟨⟨b_0, o_0, x_1, x_5, h0, h1, h2⟩, N, h⟩
    have ev : [0, 1, 5].map σ = [(.ptr b_0 o_0), (.flat (.int .u32 x_1)), (.flat (.int .i64 x_5))] := by simp only [List.map_cons, List.map_nil, h0, h1, h2]
    rw [ev, loop24_2] at h
    unfold Lam24_2
    simp only [h0, h1, h2, kI, kbool, kS, kptr, kaggN, kite, decide_true, eq_self]
    exact ⟨N, h⟩

theorem eqn24 (b_0 o_0 : Nat) (x_1 : Int) (m : Mem) (k : KV) : bodyK Try.prog E24 Lam24 Try.f24 true [(.ptr b_0 o_0), (.flat (.int .u32 x_1))] m k = F24 b_0 o_0 x_1 m (fun x_1000 m' => k (.flat (.int .i64 x_1000)) m') := by
  kernel_rfl

theorem fs24 (w0 : World) : FS Try.prog w0 24 G24 := by
  refine (fs_body (Γ := E24) (sound_env (l := []) w0 (by
    intro p hp
    cases hp)) (by kernel_rfl) Try.func24 (Λ := Lam24) (c := (bodyOf Try.f24)) (by kernel_rfl) Try.call24 (by kernel_rfl) (LS_of (bodyOf Try.f24) 1 (by kernel_rfl) (by
    intro i hi
    match i, hi with
    | 0, _ => exact lok24_2
    | i + 1, hi => omega) 0 (by kernel_rfl) (fun i hi => absurd hi (Nat.not_lt_zero i))) true (np := 2) (Nat.le_of_ble_eq_true (by kernel_rfl))).imp fun args => ?_
  by_cases hl : args.length = 2
  rotate_left
  · exact .inr fun m k hk => by
      unfold G24 at hk
      split at hk
      · exact hl rfl
      · exact hk
  obtain ⟨a0, a1, rfl⟩ : ∃ a0 a1, args = [a0, a1] := len_list2 hl
  rcases kptr_or a0 with ⟨b_0, o_0, rfl⟩ | h
  rotate_left
  · exact .inr fun m k hk => h _ (by simpa only [G24, kI, kbool, kS, kptr, kaggN, kite, decide_true, eq_self] using hk)
  rcases kI_or .u32 a1 with ⟨x_1, rfl⟩ | h
  rotate_left
  · exact .inr fun m k hk => h _ (by simpa only [G24, kI, kbool, kS, kptr, kaggN, kite, decide_true, eq_self] using hk)
  exact .inl fun m k => propext ⟨fun h => ⟨rfl, by rw [eqn24]; simpa only [G24, kI, kbool, kS, kptr, kaggN, kite, decide_true, eq_self] using h⟩, fun h => by have h := h.2; rw [eqn24] at h; simpa only [G24, kI, kbool, kS, kptr, kaggN, kite, decide_true, eq_self] using h⟩

/-- pianola/pianolaref6.Probe -/
def F20 (b_0 o_0 : Nat) (m : Mem) (k : Mem → Prop) : Prop :=
  stC m b_0 (o_0 + 39 + 0) (.flat (.int .u32 2147483648)) fun m1 => ldI .u32 m1 b_0 (o_0 + 39 + 10) fun x2 => F24 b_0 o_0 x2 m1 fun x3 m4 => kif (decide (x3 ≥ 0)) (stC m4 b_0 (o_0 + 39 + 0) (.flat (.int .u32 (IntKind.wrap .u32 x3))) fun m5 => k  m5) (k  m4)

def G20 (args : List AV) (m : Mem) (k : KV) : Prop := match args with
  | [a0] => kptr a0 fun b_0 o_0 => F20 b_0 o_0 m (fun m' => k (.tup []) m')
  | _ => False

def E20 : Env := envOf [(24, G24)]

def Lam20 : LEnv := ⟨fun a σ m k => match firstReg a with
  | _ => bump False,
  fun id => match id with
  | _ => bump false,
  fun b => match keyC b with
  | _ => bump false,
  fun b σ m k => match keyC b with
  | _ => bump False⟩

theorem eqn20 (b_0 o_0 : Nat) (m : Mem) (k : KV) : bodyK Try.prog E20 Lam20 Try.f20 false [(.ptr b_0 o_0)] m k = F20 b_0 o_0 m (fun m' => k (.tup []) m') := by
  kernel_rfl

theorem fs20 (w0 : World) : FS Try.prog w0 20 G20 := by
  refine (fs_body (Γ := E20) (sound_env (l := [(24, G24)]) w0 (by
    intro p hp
    simp only [List.mem_cons, List.not_mem_nil, or_false] at hp
    rcases hp with rfl
    · exact fs24 w0)) (by kernel_rfl) Try.func20 (Λ := Lam20) (c := (bodyOf Try.f20)) (by kernel_rfl) Try.call20 (by kernel_rfl) (LS_of (bodyOf Try.f20) 0 (by kernel_rfl) (fun i hi => absurd hi (Nat.not_lt_zero i)) 0 (by kernel_rfl) (fun i hi => absurd hi (Nat.not_lt_zero i))) false (np := 1) (Nat.le_of_ble_eq_true (by kernel_rfl))).imp fun args => ?_
  by_cases hl : args.length = 1
  rotate_left
  · exact .inr fun m k hk => by
      unfold G20 at hk
      split at hk
      · exact hl rfl
      · exact hk
  obtain ⟨a0, rfl⟩ : ∃ a0, args = [a0] := len_list1 hl
  rcases kptr_or a0 with ⟨b_0, o_0, rfl⟩ | h
  rotate_left
  · exact .inr fun m k hk => h _ (by simpa only [G20, kI, kbool, kS, kptr, kaggN, kite, decide_true, eq_self] using hk)
  exact .inl fun m k => propext ⟨fun h => ⟨rfl, by rw [eqn20]; simpa only [G20, kI, kbool, kS, kptr, kaggN, kite, decide_true, eq_self] using h⟩, fun h => by have h := h.2; rw [eqn20] at h; simpa only [G20, kI, kbool, kS, kptr, kaggN, kite, decide_true, eq_self] using h⟩

/-- pianola/pianolaref6.named -/
def F29 (x_0 : Int) (m : Mem) (k : Bool → Mem → Prop) : Prop :=
  kif (decide (x_0 ≥ 0)) (kif (decide (x_0 ≤ 2)) ((Keeps m m ∧ k true m)) (kif (decide (x_0 ≥ 8)) ((Keeps m m ∧ k (decide (x_0 ≤ 15)) m)) ((Keeps m m ∧ k false m)))) (kif (decide (x_0 ≥ 8)) ((Keeps m m ∧ k (decide (x_0 ≤ 15)) m)) ((Keeps m m ∧ k false m)))

def G29 (args : List AV) (m : Mem) (k : KV) : Prop := match args with
  | [a0] => kI .i64 a0 fun x_0 => F29 x_0 m (fun x_1000 m' => k (.flat (.bool x_1000)) m')
  | _ => False

def E29 : Env := envOf []

def Lam29 : LEnv := ⟨fun a σ m k => match firstReg a with
  | _ => bump False,
  fun id => match id with
  | _ => bump false,
  fun b => match keyC b with
  | _ => bump false,
  fun b σ m k => match keyC b with
  | _ => bump False⟩

theorem eqn29 (x_0 : Int) (m : Mem) (k : KV) : bodyK Try.prog E29 Lam29 Try.f29 true [(.flat (.int .i64 x_0))] m k = F29 x_0 m (fun x_1000 m' => k (.flat (.bool x_1000)) m') := by
  kernel_rfl

theorem fs29 (w0 : World) : FS Try.prog w0 29 G29 := by
  refine (fs_body (Γ := E29) (sound_env (l := []) w0 (by
    intro p hp
    cases hp)) (by kernel_rfl) Try.func29 (Λ := Lam29) (c := (bodyOf Try.f29)) (by kernel_rfl) Try.call29 (by kernel_rfl) (LS_of (bodyOf Try.f29) 0 (by kernel_rfl) (fun i hi => absurd hi (Nat.not_lt_zero i)) 0 (by kernel_rfl) (fun i hi => absurd hi (Nat.not_lt_zero i))) true (np := 1) (Nat.le_of_ble_eq_true (by kernel_rfl))).imp fun args => ?_
  by_cases hl : args.length = 1
  rotate_left
  · exact .inr fun m k hk => by
      unfold G29 at hk
      split at hk
      · exact hl rfl
      · exact hk
  obtain ⟨a0, rfl⟩ : ∃ a0, args = [a0] := len_list1 hl
  rcases kI_or .i64 a0 with ⟨x_0, rfl⟩ | h
  rotate_left
  · exact .inr fun m k hk => h _ (by simpa only [G29, kI, kbool, kS, kptr, kaggN, kite, decide_true, eq_self] using hk)
  exact .inl fun m k => propext ⟨fun h => ⟨rfl, by rw [eqn29]; simpa only [G29, kI, kbool, kS, kptr, kaggN, kite, decide_true, eq_self] using h⟩, fun h => by have h := h.2; rw [eqn29] at h; simpa only [G29, kI, kbool, kS, kptr, kaggN, kite, decide_true, eq_self] using h⟩

/-- pianola/pianolaref6.Read -/
def F27 (b_0 o_0 : Nat) (x_1 : Int) (m : Mem) (k : Int → Mem → Prop) : Prop :=
  kif (x_1 == 1) (ldI .u32 m b_0 (o_0 + 39 + 9) fun x1 => (Keeps m m ∧ k (x1.tmod 8) m)) (F29 x_1 m fun x2 m3 => kif (!x2) ((Keeps m m3 ∧ k 0 m)) (kif (decide (0 ≤ x_1) && decide (x_1 < 16)) (ldI .u32 m3 b_0 (o_0 + 39 + (x_1).toNat * 1) fun x4 => (Keeps m m3 ∧ k x4 m)) False))

def G27 (args : List AV) (m : Mem) (k : KV) : Prop := match args with
  | [a0, a1] => kptr a0 fun b_0 o_0 => kI .i64 a1 fun x_1 => F27 b_0 o_0 x_1 m (fun x_1000 m' => k (.flat (.int .u32 x_1000)) m')
  | _ => False

def E27 : Env := envOf [(29, G29)]

def Lam27 : LEnv := ⟨fun a σ m k => match firstReg a with
  | _ => bump False,
  fun id => match id with
  | _ => bump false,
  fun b => match keyC b with
  | _ => bump false,
  fun b σ m k => match keyC b with
  | _ => bump False⟩

theorem eqn27 (b_0 o_0 : Nat) (x_1 : Int) (m : Mem) (k : KV) : bodyK Try.prog E27 Lam27 Try.f27 true [(.ptr b_0 o_0), (.flat (.int .i64 x_1))] m k = F27 b_0 o_0 x_1 m (fun x_1000 m' => k (.flat (.int .u32 x_1000)) m') := by
  kernel_rfl

theorem fs27 (w0 : World) : FS Try.prog w0 27 G27 := by
  refine (fs_body (Γ := E27) (sound_env (l := [(29, G29)]) w0 (by
    intro p hp
    simp only [List.mem_cons, List.not_mem_nil, or_false] at hp
    rcases hp with rfl
    · exact fs29 w0)) (by kernel_rfl) Try.func27 (Λ := Lam27) (c := (bodyOf Try.f27)) (by kernel_rfl) Try.call27 (by kernel_rfl) (LS_of (bodyOf Try.f27) 0 (by kernel_rfl) (fun i hi => absurd hi (Nat.not_lt_zero i)) 0 (by kernel_rfl) (fun i hi => absurd hi (Nat.not_lt_zero i))) true (np := 2) (Nat.le_of_ble_eq_true (by kernel_rfl))).imp fun args => ?_
  by_cases hl : args.length = 2
  rotate_left
  · exact .inr fun m k hk => by
      unfold G27 at hk
      split at hk
      · exact hl rfl
      · exact hk
  obtain ⟨a0, a1, rfl⟩ : ∃ a0 a1, args = [a0, a1] := len_list2 hl
  rcases kptr_or a0 with ⟨b_0, o_0, rfl⟩ | h
  rotate_left
  · exact .inr fun m k hk => h _ (by simpa only [G27, kI, kbool, kS, kptr, kaggN, kite, decide_true, eq_self] using hk)
  rcases kI_or .i64 a1 with ⟨x_1, rfl⟩ | h
  rotate_left
  · exact .inr fun m k hk => h _ (by simpa only [G27, kI, kbool, kS, kptr, kaggN, kite, decide_true, eq_self] using hk)
  exact .inl fun m k => propext ⟨fun h => ⟨rfl, by rw [eqn27]; simpa only [G27, kI, kbool, kS, kptr, kaggN, kite, decide_true, eq_self] using h⟩, fun h => by have h := h.2; rw [eqn27] at h; simpa only [G27, kI, kbool, kS, kptr, kaggN, kite, decide_true, eq_self] using h⟩

def P22_3002 (b_0 o_0 : Nat) (x_4 : Int) (m : Mem) (kn : Mem → Prop) : Prop :=
  ldI .u32 m b_0 (o_0 + 39 + 10) fun x4 => ldI .u32 m b_0 (o_0 + 39 + 2) fun x5 => kif (decide (0 ≤ x_4) && decide (x_4 < 8)) (stG 2 m b_0 (o_0 + 55 + (x_4).toNat * 2) (upd (upd (lget [(.flat (.int .u32 0)), (.flat (.int .u32 0))]) 0 (.flat (.int .u32 x4))) 1 (.flat (.int .u32 x5))) fun m6 => kn  m6) False

/-- pianola/pianolaref6.Put -/
def F22 (b_0 o_0 : Nat) (x_1 : Bool) (m : Mem) (k : Mem → Prop) : Prop :=
  ldI .u32 m b_0 (o_0 + 39 + 0) fun x1 => kif x_1 (F27 b_0 o_0 1 m fun x2 m3 => P22_3002 b_0 o_0 x2 m3 (fun m7 => k  m7)) (P22_3002 b_0 o_0 (bits .and .u32 x1 7) m (fun m8 => k  m8))

def G22 (args : List AV) (m : Mem) (k : KV) : Prop := match args with
  | [a0, a1] => kptr a0 fun b_0 o_0 => kbool a1 fun x_1 => F22 b_0 o_0 x_1 m (fun m' => k (.tup []) m')
  | _ => False

def E22 : Env := envOf [(27, G27)]

def LamP22_3002 (σ : Nat → AV) (m : Mem) (k : KX) : Prop := kptr (σ 0) fun b_0 o_0 => kI .u32 (σ 4) fun x_4 => P22_3002 b_0 o_0 x_4 m (fun m' => k .normal (only [] []) m')

def Lam22 : LEnv := ⟨fun a σ m k => match firstReg a with
  | _ => bump False,
  fun id => match id with
  | _ => bump false,
  fun b => match keyC b with
  | some 3002 => true
  | _ => bump false,
  fun b σ m k => match keyC b with
  | some 3002 => LamP22_3002 σ m k
  | _ => bump False⟩

def lxp22_3002 : Ex → List Nat := fun e => match e with
  | .normal => []
  | _ => []

theorem pc22_3002 (b_0 o_0 : Nat) (x_4 : Int) (m : Mem) (k : KX) : once Try.prog E22 Lam22 [0, 4] lxp22_3002 (((secsOf (bodyOf Try.f22)).filter Lam22.cut).getD 0 .skip) [(.ptr b_0 o_0), (.flat (.int .u32 x_4))] m k = P22_3002 b_0 o_0 x_4 m (fun m' => k .normal (only [] []) m') := by
  kernel_rfl

theorem pok22_3002 : PieceOK Try.prog E22 Lam22 (((secsOf (bodyOf Try.f22)).filter Lam22.cut).getD 0 .skip) := by
  refine ⟨fun σ => ∃ b_0 o_0 x_4, σ 0 = .ptr b_0 o_0 ∧ σ 4 = .flat (.int .u32 x_4), [0, 4], lxp22_3002, fun σ m k => ?_⟩
  have e : Lam22.piece (((secsOf (bodyOf Try.f22)).filter Lam22.cut).getD 0 .skip) σ m k = LamP22_3002 σ m k := by kernel_rfl
  rw [e]
  constructor
  · intro h
    unfold LamP22_3002 at h
    obtain ⟨b_0, o_0, h0, h⟩ := kptr_ok h
    obtain ⟨x_4, h1, h⟩ := kI_ok h
    refine ⟨⟨b_0, o_0, x_4, h0, h1⟩, ?_⟩
    have ev : [0, 4].map σ = [(.ptr b_0 o_0), (.flat (.int .u32 x_4))] := by simp only [List.map_cons, List.map_nil, h0, h1]
    rw [ev, pc22_3002]
    exact h
  · rintro ⟨⟨b_0, o_0, x_4, h0, h1⟩, h⟩
    have ev : [0, 4].map σ = [(.ptr b_0 o_0), (.flat (.int .u32 x_4))] := by simp only [List.map_cons, List.map_nil, h0, h1]
    rw [ev, pc22_3002] at h
    unfold LamP22_3002
    simp only [h0, h1, kI, kbool, kS, kptr, kaggN, kite, decide_true, eq_self]
    exact h

theorem eqn22 (b_0 o_0 : Nat) (x_1 : Bool) (m : Mem) (k : KV) : bodyK Try.prog E22 Lam22 Try.f22 false [(.ptr b_0 o_0), (.flat (.bool x_1))] m k = F22 b_0 o_0 x_1 m (fun m' => k (.tup []) m') := by
  kernel_rfl

theorem fs22 (w0 : World) : FS Try.prog w0 22 G22 := by
  refine (fs_body (Γ := E22) (sound_env (l := [(27, G27)]) w0 (by
    intro p hp
    simp only [List.mem_cons, List.not_mem_nil, or_false] at hp
    rcases hp with rfl
    · exact fs27 w0)) (by kernel_rfl) Try.func22 (Λ := Lam22) (c := (bodyOf Try.f22)) (by kernel_rfl) Try.call22 (by kernel_rfl) (LS_of (bodyOf Try.f22) 0 (by kernel_rfl) (fun i hi => absurd hi (Nat.not_lt_zero i)) 1 (by kernel_rfl) (by
    intro i hi
    match i, hi with
    | 0, _ => exact pok22_3002
    | i + 1, hi => omega)) false (np := 2) (Nat.le_of_ble_eq_true (by kernel_rfl))).imp fun args => ?_
  by_cases hl : args.length = 2
  rotate_left
  · exact .inr fun m k hk => by
      unfold G22 at hk
      split at hk
      · exact hl rfl
      · exact hk
  obtain ⟨a0, a1, rfl⟩ : ∃ a0 a1, args = [a0, a1] := len_list2 hl
  rcases kptr_or a0 with ⟨b_0, o_0, rfl⟩ | h
  rotate_left
  · exact .inr fun m k hk => h _ (by simpa only [G22, kI, kbool, kS, kptr, kaggN, kite, decide_true, eq_self] using hk)
  rcases kbool_or a1 with ⟨x_1, rfl⟩ | h
  rotate_left
  · exact .inr fun m k hk => h _ (by simpa only [G22, kI, kbool, kS, kptr, kaggN, kite, decide_true, eq_self] using hk)
  exact .inl fun m k => propext ⟨fun h => ⟨rfl, by rw [eqn22]; simpa only [G22, kI, kbool, kS, kptr, kaggN, kite, decide_true, eq_self] using h⟩, fun h => by have h := h.2; rw [eqn22] at h; simpa only [G22, kI, kbool, kS, kptr, kaggN, kite, decide_true, eq_self] using h⟩

def P12_14102 (b_0 o_0 : Nat) (b_1 o_1 : Nat) (m : Mem) (kr : Bool → Mem → Prop) : Prop :=
  ldG 73 m b_0 o_0 fun c20 => ldG 73 m b_1 o_1 fun c21 => geq K29 c20 c21 fun x22 => kr x22 m

/-- pianola/pianolalaw7.do -/
def F12 (b_0 o_0 : Nat) (b_1 o_1 : Nat) (c_2 : Nat → AV) (m : Mem) (k : Bool → Mem → Prop) : Prop :=
  newK m ⟨4, c_2, 40, false⟩ fun b2 m1 => ldI .i64 m1 b2 0 fun x3 => kif (x3 == 2) (F18 b_0 o_0 m1 fun m4 => F19 b_1 o_1 m4 fun m5 => P12_14102 b_0 o_0 b_1 o_1 m5 (fun x23 m24 => k x23 m24)) (kif (x3 == 3) (F17 b_0 o_0 m1 fun m6 => F20 b_1 o_1 m6 fun m7 => P12_14102 b_0 o_0 b_1 o_1 m7 (fun x25 m26 => k x25 m26)) (kif (x3 == 4) (newK m1 ⟨4, upd (upd (upd (upd (lget [(.flat (.int .i64 0)), (.flat (.int .i64 0)), (.flat (.int .i64 0)), (.flat (.int .i64 0))]) 0 (.flat (.int .i64 0))) 1 (.flat (.int .i64 2))) 2 (.flat (.int .i64 10))) 3 (.flat (.int .i64 9)), 3, false⟩ fun b9 m8 => ldI .i64 m8 b2 1 fun x10 => kif (decide (0 ≤ bits .and .i64 x10 3) && decide (bits .and .i64 x10 3 < 4)) (ldI .i64 m8 b9 (0 + (bits .and .i64 x10 3).toNat * 1) fun x11 => ldI .u32 m8 b2 2 fun x12 => F8 b_0 o_0 x11 x12 m8 fun m13 => ldI .u32 m13 b2 2 fun x14 => F21 b_1 o_1 x11 x14 m13 fun m15 => P12_14102 b_0 o_0 b_1 o_1 m15 (fun x27 m28 => k x27 m28)) False) (ldB m1 b2 3 fun x16 => F16 b_0 o_0 x16 m1 fun m17 => ldB m17 b2 3 fun x18 => F22 b_1 o_1 x18 m17 fun m19 => P12_14102 b_0 o_0 b_1 o_1 m19 (fun x29 m30 => k x29 m30))))

def G12 (args : List AV) (m : Mem) (k : KV) : Prop := match args with
  | [a0, a1, a2] => kptr a0 fun b_0 o_0 => kptr a1 fun b_1 o_1 => kaggN 4 a2 fun c_2 => F12 b_0 o_0 b_1 o_1 c_2 m (fun x_1000 m' => k (.flat (.bool x_1000)) m')
  | _ => False

def E12 : Env := envOf [(8, G8), (16, G16), (17, G17), (18, G18), (19, G19), (20, G20), (21, G21), (22, G22)]

def LamP12_14102 (σ : Nat → AV) (m : Mem) (k : KX) : Prop := kptr (σ 0) fun b_0 o_0 => kptr (σ 1) fun b_1 o_1 => P12_14102 b_0 o_0 b_1 o_1 m (fun x_6' m' => k .ret (only [6] [(.flat (.bool x_6'))]) m')

def Lam12 : LEnv := ⟨fun a σ m k => match firstReg a with
  | _ => bump False,
  fun id => match id with
  | _ => bump false,
  fun b => match keyC b with
  | some 14102 => true
  | _ => bump false,
  fun b σ m k => match keyC b with
  | some 14102 => LamP12_14102 σ m k
  | _ => bump False⟩

def lxp12_14102 : Ex → List Nat := fun e => match e with
  | .ret => [6]
  | _ => []

theorem pc12_14102 (b_0 o_0 : Nat) (b_1 o_1 : Nat) (m : Mem) (k : KX) : once Try.prog E12 Lam12 [0, 1] lxp12_14102 (((secsOf (bodyOf Try.f12)).filter Lam12.cut).getD 0 .skip) [(.ptr b_0 o_0), (.ptr b_1 o_1)] m k = P12_14102 b_0 o_0 b_1 o_1 m (fun x_6' m' => k .ret (only [6] [(.flat (.bool x_6'))]) m') := by
  kernel_rfl

theorem pok12_14102 : PieceOK Try.prog E12 Lam12 (((secsOf (bodyOf Try.f12)).filter Lam12.cut).getD 0 .skip) := by
  refine ⟨fun σ => ∃ b_0 o_0 b_1 o_1, σ 0 = .ptr b_0 o_0 ∧ σ 1 = .ptr b_1 o_1, [0, 1], lxp12_14102, fun σ m k => ?_⟩
  have e : Lam12.piece (((secsOf (bodyOf Try.f12)).filter Lam12.cut).getD 0 .skip) σ m k = LamP12_14102 σ m k := by kernel_rfl
  rw [e]
  constructor
  · intro h
    unfold LamP12_14102 at h
    obtain ⟨b_0, o_0, h0, h⟩ := kptr_ok h
    obtain ⟨b_1, o_1, h1, h⟩ := kptr_ok h
    refine ⟨⟨b_0, o_0, b_1, o_1, h0, h1⟩, ?_⟩
    have ev : [0, 1].map σ = [(.ptr b_0 o_0), (.ptr b_1 o_1)] := by simp only [List.map_cons, List.map_nil, h0, h1]
    rw [ev, pc12_14102]
    exact h
  · rintro ⟨⟨b_0, o_0, b_1, o_1, h0, h1⟩, h⟩
    have ev : [0, 1].map σ = [(.ptr b_0 o_0), (.ptr b_1 o_1)] := by simp only [List.map_cons, List.map_nil, h0, h1]
    rw [ev, pc12_14102] at h
    unfold LamP12_14102
    simp only [h0, h1, kI, kbool, kS, kptr, kaggN, kite, decide_true, eq_self]
    exact h

theorem eqn12 (b_0 o_0 : Nat) (b_1 o_1 : Nat) (c_2 : Nat → AV) (m : Mem) (k : KV) : bodyK Try.prog E12 Lam12 Try.f12 false [(.ptr b_0 o_0), (.ptr b_1 o_1), (.agg 4 c_2)] m k = F12 b_0 o_0 b_1 o_1 c_2 m (fun x_1000 m' => k (.flat (.bool x_1000)) m') := by
  kernel_rfl

theorem fs12 (w0 : World) : FS Try.prog w0 12 G12 := by
  refine (fs_body (Γ := E12) (sound_env (l := [(8, G8), (16, G16), (17, G17), (18, G18), (19, G19), (20, G20), (21, G21), (22, G22)]) w0 (by
    intro p hp
    simp only [List.mem_cons, List.not_mem_nil, or_false] at hp
    rcases hp with rfl | rfl | rfl | rfl | rfl | rfl | rfl | rfl
    · exact fs8 w0
    · exact fs16 w0
    · exact fs17 w0
    · exact fs18 w0
    · exact fs19 w0
    · exact fs20 w0
    · exact fs21 w0
    · exact fs22 w0)) (by kernel_rfl) Try.func12 (Λ := Lam12) (c := (bodyOf Try.f12)) (by kernel_rfl) Try.call12 (by kernel_rfl) (LS_of (bodyOf Try.f12) 0 (by kernel_rfl) (fun i hi => absurd hi (Nat.not_lt_zero i)) 1 (by kernel_rfl) (by
    intro i hi
    match i, hi with
    | 0, _ => exact pok12_14102
    | i + 1, hi => omega)) false (np := 3) (Nat.le_of_ble_eq_true (by kernel_rfl))).imp fun args => ?_
  by_cases hl : args.length = 3
  rotate_left
  · exact .inr fun m k hk => by
      unfold G12 at hk
      split at hk
      · exact hl rfl
      · exact hk
  obtain ⟨a0, a1, a2, rfl⟩ : ∃ a0 a1 a2, args = [a0, a1, a2] := len_list3 hl
  rcases kptr_or a0 with ⟨b_0, o_0, rfl⟩ | h
  rotate_left
  · exact .inr fun m k hk => h _ (by simpa only [G12, kI, kbool, kS, kptr, kaggN, kite, decide_true, eq_self] using hk)
  rcases kptr_or a1 with ⟨b_1, o_1, rfl⟩ | h
  rotate_left
  · exact .inr fun m k hk => h _ (by simpa only [G12, kI, kbool, kS, kptr, kaggN, kite, decide_true, eq_self] using hk)
  rcases kaggN_or 4 a2 with ⟨c_2, rfl⟩ | h
  rotate_left
  · exact .inr fun m k hk => h _ (by simpa only [G12, kI, kbool, kS, kptr, kaggN, kite, decide_true, eq_self] using hk)
  exact .inl fun m k => propext ⟨fun h => ⟨rfl, by rw [eqn12]; simpa only [G12, kI, kbool, kS, kptr, kaggN, kite, decide_true, eq_self] using h⟩, fun h => by have h := h.2; rw [eqn12] at h; simpa only [G12, kI, kbool, kS, kptr, kaggN, kite, decide_true, eq_self] using h⟩

def P23_12102 (x_1 : Int) (x_11 : Int) (m : Mem) (kr : Int → Int → Bool → Mem → Prop) : Prop :=
  kr (bits .or .u32 (bits .andNot .u32 x_11 1023) (bits .and .u32 x_1 1023)) (-1) false m

def P23_4102 (b_0 o_0 : Nat) (x_1 : Int) (x_2 : Bool) (x_9 : Int) (m : Mem) (kr : Int → Int → Bool → Mem → Prop) : Prop :=
  F24 b_0 o_0 x_1 m fun x1 m2 => kif (decide (x1 < 0)) (kr 0 x_9 true m2) (kif (decide (0 ≤ x1) && decide (x1 < 8)) (ldI .u32 m2 b_0 (o_0 + 55 + (x1).toNat * 2 + 1) fun x3 => kif ((bits .and .u32 x3 1) == 0) (kr 0 x_9 false m2) (kif x_2 (kif ((bits .and .u32 x3 2) == 0) (kr 0 1 false m2) (P23_12102 x_1 x3 m2 (fun x4 x5 x6 m7 => kr x4 x5 x6 m7))) (P23_12102 x_1 x3 m2 (fun x8 x9 x10 m11 => kr x8 x9 x10 m11)))) False)

/-- pianola/pianolaref6.Look -/
def F23 (b_0 o_0 : Nat) (x_1 : Int) (x_2 : Bool) (m : Mem) (k : Int → Int → Bool → Mem → Prop) : Prop :=
  kif x_2 (P23_4102 b_0 o_0 x_1 x_2 3 m (fun x12 x13 x14 m15 => (Keeps m m15 ∧ k x12 x13 x14 m))) (P23_4102 b_0 o_0 x_1 x_2 2 m (fun x16 x17 x18 m19 => (Keeps m m19 ∧ k x16 x17 x18 m)))

def G23 (args : List AV) (m : Mem) (k : KV) : Prop := match args with
  | [a0, a1, a2] => kptr a0 fun b_0 o_0 => kI .u32 a1 fun x_1 => kbool a2 fun x_2 => F23 b_0 o_0 x_1 x_2 m (fun x_1000 x_1001 x_1002 m' => k (.tup [(.flat (.int .u32 x_1000)), (.flat (.int .i64 x_1001)), (.flat (.bool x_1002))]) m')
  | _ => False

def E23 : Env := envOf [(24, G24)]

def LamP23_4102 (σ : Nat → AV) (m : Mem) (k : KX) : Prop := kptr (σ 0) fun b_0 o_0 => kI .u32 (σ 1) fun x_1 => kbool (σ 2) fun x_2 => kI .i64 (σ 9) fun x_9 => P23_4102 b_0 o_0 x_1 x_2 x_9 m (fun x_6' x_7' x_8' m' => k .ret (only [6, 7, 8] [(.flat (.int .u32 x_6')), (.flat (.int .i64 x_7')), (.flat (.bool x_8'))]) m')

def LamP23_12102 (σ : Nat → AV) (m : Mem) (k : KX) : Prop := kI .u32 (σ 1) fun x_1 => kI .u32 (σ 11) fun x_11 => P23_12102 x_1 x_11 m (fun x_6' x_7' x_8' m' => k .ret (only [6, 7, 8] [(.flat (.int .u32 x_6')), (.flat (.int .i64 x_7')), (.flat (.bool x_8'))]) m')

def Lam23 : LEnv := ⟨fun a σ m k => match firstReg a with
  | _ => bump False,
  fun id => match id with
  | _ => bump false,
  fun b => match keyC b with
  | some 4102 => true
  | some 12102 => true
  | _ => bump false,
  fun b σ m k => match keyC b with
  | some 4102 => LamP23_4102 σ m k
  | some 12102 => LamP23_12102 σ m k
  | _ => bump False⟩

def lxp23_12102 : Ex → List Nat := fun e => match e with
  | .ret => [6, 7, 8]
  | _ => []

theorem pc23_12102 (x_1 : Int) (x_11 : Int) (m : Mem) (k : KX) : once Try.prog E23 Lam23 [1, 11] lxp23_12102 (((secsOf (bodyOf Try.f23)).filter Lam23.cut).getD 1 .skip) [(.flat (.int .u32 x_1)), (.flat (.int .u32 x_11))] m k = P23_12102 x_1 x_11 m (fun x_6' x_7' x_8' m' => k .ret (only [6, 7, 8] [(.flat (.int .u32 x_6')), (.flat (.int .i64 x_7')), (.flat (.bool x_8'))]) m') := by
  kernel_rfl

theorem pok23_12102 : PieceOK Try.prog E23 Lam23 (((secsOf (bodyOf Try.f23)).filter Lam23.cut).getD 1 .skip) := by
  refine ⟨fun σ => ∃ x_1 x_11, σ 1 = .flat (.int .u32 x_1) ∧ σ 11 = .flat (.int .u32 x_11), [1, 11], lxp23_12102, fun σ m k => ?_⟩
  have e : Lam23.piece (((secsOf (bodyOf Try.f23)).filter Lam23.cut).getD 1 .skip) σ m k = LamP23_12102 σ m k := by kernel_rfl
  rw [e]
  constructor
  · intro h
    unfold LamP23_12102 at h
    obtain ⟨x_1, h0, h⟩ := kI_ok h
    obtain ⟨x_11, h1, h⟩ := kI_ok h
    refine ⟨⟨x_1, x_11, h0, h1⟩, ?_⟩
    have ev : [1, 11].map σ = [(.flat (.int .u32 x_1)), (.flat (.int .u32 x_11))] := by simp only [List.map_cons, List.map_nil, h0, h1]
    rw [ev, pc23_12102]
    exact h
  · rintro ⟨⟨x_1, x_11, h0, h1⟩, h⟩
    have ev : [1, 11].map σ = [(.flat (.int .u32 x_1)), (.flat (.int .u32 x_11))] := by simp only [List.map_cons, List.map_nil, h0, h1]
    rw [ev, pc23_12102] at h
    unfold LamP23_12102
    simp only [h0, h1, kI, kbool, kS, kptr, kaggN, kite, decide_true, eq_self]
    exact h

def lxp23_4102 : Ex → List Nat := fun e => match e with
  | .ret => [6, 7, 8]
  | _ => []

theorem pc23_4102 (b_0 o_0 : Nat) (x_1 : Int) (x_2 : Bool) (x_9 : Int) (m : Mem) (k : KX) : once Try.prog E23 Lam23 [0, 1, 2, 9] lxp23_4102 (((secsOf (bodyOf Try.f23)).filter Lam23.cut).getD 0 .skip) [(.ptr b_0 o_0), (.flat (.int .u32 x_1)), (.flat (.bool x_2)), (.flat (.int .i64 x_9))] m k = P23_4102 b_0 o_0 x_1 x_2 x_9 m (fun x_6' x_7' x_8' m' => k .ret (only [6, 7, 8] [(.flat (.int .u32 x_6')), (.flat (.int .i64 x_7')), (.flat (.bool x_8'))]) m') := by
  kernel_rfl

theorem pok23_4102 : PieceOK Try.prog E23 Lam23 (((secsOf (bodyOf Try.f23)).filter Lam23.cut).getD 0 .skip) := by
  refine ⟨fun σ => ∃ b_0 o_0 x_1 x_2 x_9, σ 0 = .ptr b_0 o_0 ∧ σ 1 = .flat (.int .u32 x_1) ∧ σ 2 = .flat (.bool x_2) ∧ σ 9 = .flat (.int .i64 x_9), [0, 1, 2, 9], lxp23_4102, fun σ m k => ?_⟩
  have e : Lam23.piece (((secsOf (bodyOf Try.f23)).filter Lam23.cut).getD 0 .skip) σ m k = LamP23_4102 σ m k := by kernel_rfl
  rw [e]
  constructor
  · intro h
    unfold LamP23_4102 at h
    obtain ⟨b_0, o_0, h0, h⟩ := kptr_ok h
    obtain ⟨x_1, h1, h⟩ := kI_ok h
    obtain ⟨x_2, h2, h⟩ := kbool_ok h
    obtain ⟨x_9, h3, h⟩ := kI_ok h
    refine ⟨⟨b_0, o_0, x_1, x_2, x_9, h0, h1, h2, h3⟩, ?_⟩
    have ev : [0, 1, 2, 9].map σ = [(.ptr b_0 o_0), (.flat (.int .u32 x_1)), (.flat (.bool x_2)), (.flat (.int .i64 x_9))] := by simp only [List.map_cons, List.map_nil, h0, h1, h2, h3]
    rw [ev, pc23_4102]
    exact h
  · rintro ⟨⟨b_0, o_0, x_1, x_2, x_9, h0, h1, h2, h3⟩, h⟩
    have ev : [0, 1, 2, 9].map σ = [(.ptr b_0 o_0), (.flat (.int .u32 x_1)), (.flat (.bool x_2)), (.flat (.int .i64 x_9))] := by simp only [List.map_cons, List.map_nil, h0, h1, h2, h3]
    rw [ev, pc23_4102] at h
    unfold LamP23_4102
    simp only [h0, h1, h2, h3, kI, kbool, kS, kptr, kaggN, kite, decide_true, eq_self]
    exact h

theorem eqn23 (b_0 o_0 : Nat) (x_1 : Int) (x_2 : Bool) (m : Mem) (k : KV) : bodyK Try.prog E23 Lam23 Try.f23 true [(.ptr b_0 o_0), (.flat (.int .u32 x_1)), (.flat (.bool x_2))] m k = F23 b_0 o_0 x_1 x_2 m (fun x_1000 x_1001 x_1002 m' => k (.tup [(.flat (.int .u32 x_1000)), (.flat (.int .i64 x_1001)), (.flat (.bool x_1002))]) m') := by
  kernel_rfl

theorem fs23 (w0 : World) : FS Try.prog w0 23 G23 := by
  refine (fs_body (Γ := E23) (sound_env (l := [(24, G24)]) w0 (by
    intro p hp
    simp only [List.mem_cons, List.not_mem_nil, or_false] at hp
    rcases hp with rfl
    · exact fs24 w0)) (by kernel_rfl) Try.func23 (Λ := Lam23) (c := (bodyOf Try.f23)) (by kernel_rfl) Try.call23 (by kernel_rfl) (LS_of (bodyOf Try.f23) 0 (by kernel_rfl) (fun i hi => absurd hi (Nat.not_lt_zero i)) 2 (by kernel_rfl) (by
    intro i hi
    match i, hi with
    | 0, _ => exact pok23_4102
    | 1, _ => exact pok23_12102
    | i + 2, hi => omega)) true (np := 3) (Nat.le_of_ble_eq_true (by kernel_rfl))).imp fun args => ?_
  by_cases hl : args.length = 3
  rotate_left
  · exact .inr fun m k hk => by
      unfold G23 at hk
      split at hk
      · exact hl rfl
      · exact hk
  obtain ⟨a0, a1, a2, rfl⟩ : ∃ a0 a1 a2, args = [a0, a1, a2] := len_list3 hl
  rcases kptr_or a0 with ⟨b_0, o_0, rfl⟩ | h
  rotate_left
  · exact .inr fun m k hk => h _ (by simpa only [G23, kI, kbool, kS, kptr, kaggN, kite, decide_true, eq_self] using hk)
  rcases kI_or .u32 a1 with ⟨x_1, rfl⟩ | h
  rotate_left
  · exact .inr fun m k hk => h _ (by simpa only [G23, kI, kbool, kS, kptr, kaggN, kite, decide_true, eq_self] using hk)
  rcases kbool_or a2 with ⟨x_2, rfl⟩ | h
  rotate_left
  · exact .inr fun m k hk => h _ (by simpa only [G23, kI, kbool, kS, kptr, kaggN, kite, decide_true, eq_self] using hk)
  exact .inl fun m k => propext ⟨fun h => ⟨rfl, by rw [eqn23]; simpa only [G23, kI, kbool, kS, kptr, kaggN, kite, decide_true, eq_self] using h⟩, fun h => by have h := h.2; rw [eqn23] at h; simpa only [G23, kI, kbool, kS, kptr, kaggN, kite, decide_true, eq_self] using h⟩

def R13_2 (b_0 o_0 : Nat) (b_1 o_1 : Nat) (x_2 : Int) (v_15 : AV) (x_16 : Int) (x_17 : Int) (m : Mem) (kn : Int → Mem → Prop) (k0 : Mem → Prop) (kr : Bool → Mem → Prop) : Prop :=
  kif (decide (x_17 < x_16)) (ksl v_15 fun b3 o4 l5 p6 => kif (decide (0 ≤ x_17) && decide (x_17 < l5)) (ldB m b3 (o4 + (x_17).toNat * 1) fun x7 => F9 b_0 o_0 x_2 x7 m fun x8 x9 x10 m11 => F23 b_1 o_1 x_2 x7 m11 fun x12 x13 x14 m15 => kif (x8 != x12) (kr false m15) (kif (x9 != x13) (kr false m15) (kif (!(x10 == x14)) (kr false m15) (kn (IntKind.wrap .i64 (x_17 + 1)) m15)))) False) (k0  m)

def L13_2 (b_0 o_0 : Nat) (b_1 o_1 : Nat) (x_2 : Int) (v_15 : AV) (x_16 : Int) : Nat → Int → Mem → (Mem → Prop) → (Bool → Mem → Prop) → Prop
  | 0, _,  _, _, _ => bump False
  | N + 1, x_17,  m, k0, kr => R13_2 b_0 o_0 b_1 o_1 x_2 v_15 x_16 x_17 m (fun x_17' m' => L13_2 b_0 o_0 b_1 o_1 x_2 v_15 x_16 N x_17' m' k0 kr) k0 kr

/-- pianola/pianolalaw7.same -/
def F13 (b_0 o_0 : Nat) (b_1 o_1 : Nat) (x_2 : Int) (m : Mem) (k : Bool → Mem → Prop) : Prop :=
  newK m ⟨2, upd (upd (lget [(.flat (.bool false)), (.flat (.bool false))]) 0 (.flat (.bool false))) 1 (.flat (.bool true)), 4, false⟩ fun b2 m1 => ∃ N19, L13_2 b_0 o_0 b_1 o_1 x_2 (.sl b2 0 2 (.ex 2)) 2 N19 0 m1 (fun m16 => ldG 73 m16 b_0 o_0 fun c20 => ldG 73 m16 b_1 o_1 fun c21 => geq K29 c20 c21 fun x22 => kif x22 (F10 b_0 o_0 x_2 m16 fun x23 m24 => F24 b_1 o_1 x_2 m24 fun x25 m26 => (Keeps m m26 ∧ k (x23 == x25) m)) ((Keeps m m16 ∧ k false m))) (fun x17 m18 => (Keeps m m18 ∧ k x17 m))

def G13 (args : List AV) (m : Mem) (k : KV) : Prop := match args with
  | [a0, a1, a2] => kptr a0 fun b_0 o_0 => kptr a1 fun b_1 o_1 => kI .u32 a2 fun x_2 => F13 b_0 o_0 b_1 o_1 x_2 m (fun x_1000 m' => k (.flat (.bool x_1000)) m')
  | _ => False

def E13 : Env := envOf [(9, G9), (10, G10), (23, G23), (24, G24)]

def Lam13_2 (σ : Nat → AV) (m : Mem) (k : KX) : Prop := kptr (σ 0) fun b_0 o_0 => kptr (σ 1) fun b_1 o_1 => kI .u32 (σ 2) fun x_2 => kI .i64 (σ 16) fun x_16 => kI .i64 (σ 17) fun x_17 => ∃ N, L13_2 b_0 o_0 b_1 o_1 x_2 (σ 15) x_16 N x_17 m (fun m' => k (.exit 0) (only [0, 1, 2] [(.ptr b_0 o_0), (.ptr b_1 o_1), (.flat (.int .u32 x_2))]) m') (fun x_6' m' => k .ret (only [6] [(.flat (.bool x_6'))]) m')

def Lam13 : LEnv := ⟨fun a σ m k => match firstReg a with
  | some 2 => Lam13_2 σ m k
  | _ => bump False,
  fun id => match id with
  | _ => bump false,
  fun b => match keyC b with
  | _ => bump false,
  fun b σ m k => match keyC b with
  | _ => bump False⟩

def lx13_2 : Ex → List Nat := fun e => match e with
  | .exit 0 => [0, 1, 2]
  | .ret => [6]
  | _ => []

theorem round13_2 (b_0 o_0 : Nat) (b_1 o_1 : Nat) (x_2 : Int) (v_15 : AV) (x_16 : Int) (x_17 : Int) (m : Mem) (G : List AV → Mem → Prop) (k : KX) : (wpA Try.prog E13 Lam13 ((loopsOf (bodyOf Try.f13)).getD 0 .skip) (only [0, 1, 2, 15, 16, 17] [(.ptr b_0 o_0), (.ptr b_1 o_1), (.flat (.int .u32 x_2)), v_15, (.flat (.int .i64 x_16)), (.flat (.int .i64 x_17))]) m fun e σ' m' => match e with
    | .normal => G ([0, 1, 2, 15, 16, 17].map σ') m'
    | .exit id => k (.exit id) (only (lx13_2 (.exit id)) ((lx13_2 (.exit id)).map σ')) m'
    | .ret => k .ret (only (lx13_2 .ret) ((lx13_2 .ret).map σ')) m') = R13_2 b_0 o_0 b_1 o_1 x_2 v_15 x_16 x_17 m (fun x_17' m' => G [(.ptr b_0 o_0), (.ptr b_1 o_1), (.flat (.int .u32 x_2)), v_15, (.flat (.int .i64 x_16)), (.flat (.int .i64 x_17'))] m') (fun m' => k (.exit 0) (only [0, 1, 2] [(.ptr b_0 o_0), (.ptr b_1 o_1), (.flat (.int .u32 x_2))]) m') (fun x_6' m' => k .ret (only [6] [(.flat (.bool x_6'))]) m') := by
  kernel_rfl

theorem loop13_2 (b_0 o_0 : Nat) (b_1 o_1 : Nat) (x_2 : Int) (v_15 : AV) (x_16 : Int) (k : KX) : ∀ (N : Nat) (x_17 : Int) (m : Mem), rounds Try.prog E13 Lam13 [0, 1, 2, 15, 16, 17] lx13_2 ((loopsOf (bodyOf Try.f13)).getD 0 .skip) N [(.ptr b_0 o_0), (.ptr b_1 o_1), (.flat (.int .u32 x_2)), v_15, (.flat (.int .i64 x_16)), (.flat (.int .i64 x_17))] m k = L13_2 b_0 o_0 b_1 o_1 x_2 v_15 x_16 N x_17 m (fun m' => k (.exit 0) (only [0, 1, 2] [(.ptr b_0 o_0), (.ptr b_1 o_1), (.flat (.int .u32 x_2))]) m') (fun x_6' m' => k .ret (only [6] [(.flat (.bool x_6'))]) m') := by
  intro N
  induction N with
  | zero => intros; rfl
  | succ N ih =>
    intro x_17 m
    refine (round13_2 b_0 o_0 b_1 o_1 x_2 v_15 x_16 x_17 m (fun vs m' => rounds Try.prog E13 Lam13 [0, 1, 2, 15, 16, 17] lx13_2 ((loopsOf (bodyOf Try.f13)).getD 0 .skip) N vs m' k) k).trans ?_
    simp only [ih]
    rfl

theorem lok13_2 : LoopOK Try.prog E13 Lam13 ((loopsOf (bodyOf Try.f13)).getD 0 .skip) := by
  refine ⟨fun σ => ∃ b_0 o_0 b_1 o_1 x_2 v_15 x_16 x_17, σ 0 = .ptr b_0 o_0 ∧ σ 1 = .ptr b_1 o_1 ∧ σ 2 = .flat (.int .u32 x_2) ∧ σ 15 = v_15 ∧ σ 16 = .flat (.int .i64 x_16) ∧ σ 17 = .flat (.int .i64 x_17), [0, 1, 2, 15, 16, 17], lx13_2, fun σ m k => ?_⟩
  have e : Lam13.loop ((loopsOf (bodyOf Try.f13)).getD 0 .skip) σ m k = Lam13_2 σ m k := by kernel_rfl
  rw [e]
  constructor
  · intro h
    unfold Lam13_2 at h
    obtain ⟨b_0, o_0, h0, h⟩ := kptr_ok h
    obtain ⟨b_1, o_1, h1, h⟩ := kptr_ok h
    obtain ⟨x_2, h2, h⟩ := kI_ok h
    obtain ⟨v_15, h3⟩ : ∃ v, σ 15 = v := ⟨_, rfl⟩
    obtain ⟨x_16, h4, h⟩ := kI_ok h
    obtain ⟨x_17, h5, h⟩ := kI_ok h
    obtain ⟨N, h⟩ := h
    refine ⟨⟨b_0, o_0, b_1, o_1, x_2, v_15, x_16, x_17, h0, h1, h2, h3, h4, h5⟩, N, ?_⟩
    have ev : [0, 1, 2, 15, 16, 17].map σ = [(.ptr b_0 o_0), (.ptr b_1 o_1), (.flat (.int .u32 x_2)), v_15, (.flat (.int .i64 x_16)), (.flat (.int .i64 x_17))] := by simp only [List.map_cons, List.map_nil, h0, h1, h2, h3, h4, h5]
    rw [ev, loop13_2]
    simp only [h3] at h
    exact h
  · rintro ⟨⟨b_0, o_0, b_1, o_1, x_2, v_15, x_16, x_17, h0, h1, h2, h3, h4, h5⟩, N, h⟩
    have ev : [0, 1, 2, 15, 16, 17].map σ = [(.ptr b_0 o_0), (.ptr b_1 o_1), (.flat (.int .u32 x_2)), v_15, (.flat (.int .i64 x_16)), (.flat (.int .i64 x_17))] := by simp only [List.map_cons, List.map_nil, h0, h1, h2, h3, h4, h5]
    rw [ev, loop13_2] at h
    unfold Lam13_2
    simp only [h0, h1, h2, h3, h4, h5, kI, kbool, kS, kptr, kaggN, kite, decide_true, eq_self]
    exact ⟨N, h⟩

theorem eqn13 (b_0 o_0 : Nat) (b_1 o_1 : Nat) (x_2 : Int) (m : Mem) (k : KV) : bodyK Try.prog E13 Lam13 Try.f13 true [(.ptr b_0 o_0), (.ptr b_1 o_1), (.flat (.int .u32 x_2))] m k = F13 b_0 o_0 b_1 o_1 x_2 m (fun x_1000 m' => k (.flat (.bool x_1000)) m') := by
  kernel_rfl

theorem fs13 (w0 : World) : FS Try.prog w0 13 G13 := by
  refine (fs_body (Γ := E13) (sound_env (l := [(9, G9), (10, G10), (23, G23), (24, G24)]) w0 (by
    intro p hp
    simp only [List.mem_cons, List.not_mem_nil, or_false] at hp
    rcases hp with rfl | rfl | rfl | rfl
    · exact fs9 w0
    · exact fs10 w0
    · exact fs23 w0
    · exact fs24 w0)) (by kernel_rfl) Try.func13 (Λ := Lam13) (c := (bodyOf Try.f13)) (by kernel_rfl) Try.call13 (by kernel_rfl) (LS_of (bodyOf Try.f13) 1 (by kernel_rfl) (by
    intro i hi
    match i, hi with
    | 0, _ => exact lok13_2
    | i + 1, hi => omega) 0 (by kernel_rfl) (fun i hi => absurd hi (Nat.not_lt_zero i))) true (np := 3) (Nat.le_of_ble_eq_true (by kernel_rfl))).imp fun args => ?_
  by_cases hl : args.length = 3
  rotate_left
  · exact .inr fun m k hk => by
      unfold G13 at hk
      split at hk
      · exact hl rfl
      · exact hk
  obtain ⟨a0, a1, a2, rfl⟩ : ∃ a0 a1 a2, args = [a0, a1, a2] := len_list3 hl
  rcases kptr_or a0 with ⟨b_0, o_0, rfl⟩ | h
  rotate_left
  · exact .inr fun m k hk => h _ (by simpa only [G13, kI, kbool, kS, kptr, kaggN, kite, decide_true, eq_self] using hk)
  rcases kptr_or a1 with ⟨b_1, o_1, rfl⟩ | h
  rotate_left
  · exact .inr fun m k hk => h _ (by simpa only [G13, kI, kbool, kS, kptr, kaggN, kite, decide_true, eq_self] using hk)
  rcases kI_or .u32 a2 with ⟨x_2, rfl⟩ | h
  rotate_left
  · exact .inr fun m k hk => h _ (by simpa only [G13, kI, kbool, kS, kptr, kaggN, kite, decide_true, eq_self] using hk)
  exact .inl fun m k => propext ⟨fun h => ⟨rfl, by rw [eqn13]; simpa only [G13, kI, kbool, kS, kptr, kaggN, kite, decide_true, eq_self] using h⟩, fun h => by have h := h.2; rw [eqn13] at h; simpa only [G13, kI, kbool, kS, kptr, kaggN, kite, decide_true, eq_self] using h⟩

def R4_10 (b_1 o_1 : Nat) (b_2 o_2 : Nat) (x_3 : Int) (x_5 : Int) (m : Mem) (kn : Int → Mem → Prop) (k2 : Mem → Prop) (kr : Bool → Mem → Prop) : Prop :=
  kif (decide (x_5 < 9216)) (F13 b_1 o_1 b_2 o_2 x_5 m fun x19 m20 => kif (!x19) (kr false m20) (kn (IntKind.wrap .u32 (x_5 + 511)) m20)) (k2  m)

def L4_10 (b_1 o_1 : Nat) (b_2 o_2 : Nat) (x_3 : Int) : Nat → Int → Mem → (Mem → Prop) → (Bool → Mem → Prop) → Prop
  | 0, _,  _, _, _ => bump False
  | N + 1, x_5,  m, k2, kr => R4_10 b_1 o_1 b_2 o_2 x_3 x_5 m (fun x_5' m' => L4_10 b_1 o_1 b_2 o_2 x_3 N x_5' m' k2 kr) k2 kr

def R4_4 (b_1 o_1 : Nat) (b_2 o_2 : Nat) (x_3 : Int) (m : Mem) (kn : Int → Mem → Prop) (k0 : Mem → Prop) (kr : Bool → Mem → Prop) : Prop :=
  kif (decide (x_3 < 120)) (newK m ⟨8, upd (upd (upd (upd (upd (upd (upd (upd (Z8) 0 (.flat (.int .i64 4))) 1 (.flat (.int .i64 4))) 2 (.flat (.int .i64 0))) 3 (.flat (.int .i64 4))) 4 (.flat (.int .i64 3))) 5 (.flat (.int .i64 2))) 6 (.flat (.int .i64 1))) 7 (.flat (.int .i64 4)), 3, false⟩ fun b11 m10 => kif (decide (0 ≤ x_3.tmod 8) && decide (x_3.tmod 8 < 8)) (ldI .i64 m10 b11 (0 + (x_3.tmod 8).toNat * 1) fun x12 => newK m10 ⟨4, lget [(.flat (.int .i64 0)), (.flat (.int .i64 0)), (.flat (.int .u32 0)), (.flat (.bool false))], 40, false⟩ fun b14 m13 => stG 4 m13 b14 0 (upd (upd (upd (upd (lget [(.flat (.int .i64 0)), (.flat (.int .i64 0)), (.flat (.int .u32 0)), (.flat (.bool false))]) 0 (.flat (.int .i64 x12))) 1 (.flat (.int .i64 x_3))) 2 (.flat (.int .u32 (bits .or .u32 (bits .and .u32 (IntKind.wrap .u32 ((IntKind.wrap .u32 x_3) * 1024)) 7168) (IntKind.wrap .u32 (x_3.tmod 9)))))) 3 (.flat (.bool ((x_3.tmod 3) == 0)))) fun m15 => ldG 4 m15 b14 0 fun c16 => F12 b_1 o_1 b_2 o_2 c16 m15 fun x17 m18 => kif (!x17) (kr false m18) (∃ N24, L4_10 b_1 o_1 b_2 o_2 x_3 N24 0 m18 (fun m21 => kn (IntKind.wrap .i64 (x_3 + 1)) m21) (fun x22 m23 => kr x22 m23))) False) (k0  m)

def L4_4 (b_1 o_1 : Nat) (b_2 o_2 : Nat) : Nat → Int → Mem → (Mem → Prop) → (Bool → Mem → Prop) → Prop
  | 0, _,  _, _, _ => bump False
  | N + 1, x_3,  m, k0, kr => R4_4 b_1 o_1 b_2 o_2 x_3 m (fun x_3' m' => L4_4 b_1 o_1 b_2 o_2 N x_3' m' k0 kr) k0 kr

/-- pianola/pianolalaw7.TlbNumbers -/
def F4  (m : Mem) (k : Bool → Mem → Prop) : Prop :=
  F7  m fun c1 m2 => newK m2 ⟨73, Z73, 29, false⟩ fun b4 m3 => stG 73 m3 b4 0 c1 fun m5 => ldG 73 m5 b4 0 fun c6 => newK m5 ⟨73, Z73, 29, false⟩ fun b8 m7 => stG 73 m7 b8 0 c6 fun m9 => ∃ N28, L4_4 b4 0 b8 0 N28 0 m9 (fun m25 => F11  m25 fun x29 m30 => k x29 m30) (fun x26 m27 => k x26 m27)

def G4 (args : List AV) (m : Mem) (k : KV) : Prop := match args with
  | [] => F4  m (fun x_1000 m' => k (.flat (.bool x_1000)) m')
  | _ => False

def E4 : Env := envOf [(7, G7), (11, G11), (12, G12), (13, G13)]

def Lam4_4 (σ : Nat → AV) (m : Mem) (k : KX) : Prop := kptr (σ 1) fun b_1 o_1 => kptr (σ 2) fun b_2 o_2 => kI .i64 (σ 3) fun x_3 => ∃ N, L4_4 b_1 o_1 b_2 o_2 N x_3 m (fun m' => k (.exit 0) (only [] []) m') (fun x_0' m' => k .ret (only [0] [(.flat (.bool x_0'))]) m')

def Lam4_10 (σ : Nat → AV) (m : Mem) (k : KX) : Prop := kptr (σ 1) fun b_1 o_1 => kptr (σ 2) fun b_2 o_2 => kI .i64 (σ 3) fun x_3 => kI .u32 (σ 5) fun x_5 => ∃ N, L4_10 b_1 o_1 b_2 o_2 x_3 N x_5 m (fun m' => k (.exit 2) (only [1, 2, 3] [(.ptr b_1 o_1), (.ptr b_2 o_2), (.flat (.int .i64 x_3))]) m') (fun x_0' m' => k .ret (only [0] [(.flat (.bool x_0'))]) m')

def Lam4 : LEnv := ⟨fun a σ m k => match firstReg a with
  | some 4 => Lam4_4 σ m k
  | some 10 => Lam4_10 σ m k
  | _ => bump False,
  fun id => match id with
  | _ => bump false,
  fun b => match keyC b with
  | _ => bump false,
  fun b σ m k => match keyC b with
  | _ => bump False⟩

def lx4_10 : Ex → List Nat := fun e => match e with
  | .exit 2 => [1, 2, 3]
  | .ret => [0]
  | _ => []

theorem round4_10 (b_1 o_1 : Nat) (b_2 o_2 : Nat) (x_3 : Int) (x_5 : Int) (m : Mem) (G : List AV → Mem → Prop) (k : KX) : (wpA Try.prog E4 Lam4 ((loopsOf (bodyOf Try.f4)).getD 1 .skip) (only [1, 2, 3, 5] [(.ptr b_1 o_1), (.ptr b_2 o_2), (.flat (.int .i64 x_3)), (.flat (.int .u32 x_5))]) m fun e σ' m' => match e with
    | .normal => G ([1, 2, 3, 5].map σ') m'
    | .exit id => k (.exit id) (only (lx4_10 (.exit id)) ((lx4_10 (.exit id)).map σ')) m'
    | .ret => k .ret (only (lx4_10 .ret) ((lx4_10 .ret).map σ')) m') = R4_10 b_1 o_1 b_2 o_2 x_3 x_5 m (fun x_5' m' => G [(.ptr b_1 o_1), (.ptr b_2 o_2), (.flat (.int .i64 x_3)), (.flat (.int .u32 x_5'))] m') (fun m' => k (.exit 2) (only [1, 2, 3] [(.ptr b_1 o_1), (.ptr b_2 o_2), (.flat (.int .i64 x_3))]) m') (fun x_0' m' => k .ret (only [0] [(.flat (.bool x_0'))]) m') := by
  kernel_rfl

theorem loop4_10 (b_1 o_1 : Nat) (b_2 o_2 : Nat) (x_3 : Int) (k : KX) : ∀ (N : Nat) (x_5 : Int) (m : Mem), rounds Try.prog E4 Lam4 [1, 2, 3, 5] lx4_10 ((loopsOf (bodyOf Try.f4)).getD 1 .skip) N [(.ptr b_1 o_1), (.ptr b_2 o_2), (.flat (.int .i64 x_3)), (.flat (.int .u32 x_5))] m k = L4_10 b_1 o_1 b_2 o_2 x_3 N x_5 m (fun m' => k (.exit 2) (only [1, 2, 3] [(.ptr b_1 o_1), (.ptr b_2 o_2), (.flat (.int .i64 x_3))]) m') (fun x_0' m' => k .ret (only [0] [(.flat (.bool x_0'))]) m') := by
  intro N
  induction N with
  | zero => intros; rfl
  | succ N ih =>
    intro x_5 m
    refine (round4_10 b_1 o_1 b_2 o_2 x_3 x_5 m (fun vs m' => rounds Try.prog E4 Lam4 [1, 2, 3, 5] lx4_10 ((loopsOf (bodyOf Try.f4)).getD 1 .skip) N vs m' k) k).trans ?_
    simp only [ih]
    rfl

theorem lok4_10 : LoopOK Try.prog E4 Lam4 ((loopsOf (bodyOf Try.f4)).getD 1 .skip) := by
  refine ⟨fun σ => ∃ b_1 o_1 b_2 o_2 x_3 x_5, σ 1 = .ptr b_1 o_1 ∧ σ 2 = .ptr b_2 o_2 ∧ σ 3 = .flat (.int .i64 x_3) ∧ σ 5 = .flat (.int .u32 x_5), [1, 2, 3, 5], lx4_10, fun σ m k => ?_⟩
  have e : Lam4.loop ((loopsOf (bodyOf Try.f4)).getD 1 .skip) σ m k = Lam4_10 σ m k := by kernel_rfl
  rw [e]
  constructor
  · intro h
    unfold Lam4_10 at h
    obtain ⟨b_1, o_1, h0, h⟩ := kptr_ok h
    obtain ⟨b_2, o_2, h1, h⟩ := kptr_ok h
    obtain ⟨x_3, h2, h⟩ := kI_ok h
    obtain ⟨x_5, h3, h⟩ := kI_ok h
    obtain ⟨N, h⟩ := h
    refine ⟨⟨b_1, o_1, b_2, o_2, x_3, x_5, h0, h1, h2, h3⟩, N, ?_⟩
    have ev : [1, 2, 3, 5].map σ = [(.ptr b_1 o_1), (.ptr b_2 o_2), (.flat (.int .i64 x_3)), (.flat (.int .u32 x_5))] := by simp only [List.map_cons, List.map_nil, h0, h1, h2, h3]
    rw [ev, loop4_10]
    exact h
  · rintro ⟨⟨b_1, o_1, b_2, o_2, x_3, x_5, h0, h1, h2, h3⟩, N, h⟩
    have ev : [1, 2, 3, 5].map σ = [(.ptr b_1 o_1), (.ptr b_2 o_2), (.flat (.int .i64 x_3)), (.flat (.int .u32 x_5))] := by simp only [List.map_cons, List.map_nil, h0, h1, h2, h3]
    rw [ev, loop4_10] at h
    unfold Lam4_10
    simp only [h0, h1, h2, h3, kI, kbool, kS, kptr, kaggN, kite, decide_true, eq_self]
    exact ⟨N, h⟩

def lx4_4 : Ex → List Nat := fun e => match e with
  | .exit 0 => []
  | .ret => [0]
  | _ => []

theorem round4_4 (b_1 o_1 : Nat) (b_2 o_2 : Nat) (x_3 : Int) (m : Mem) (G : List AV → Mem → Prop) (k : KX) : (wpA Try.prog E4 Lam4 ((loopsOf (bodyOf Try.f4)).getD 0 .skip) (only [1, 2, 3] [(.ptr b_1 o_1), (.ptr b_2 o_2), (.flat (.int .i64 x_3))]) m fun e σ' m' => match e with
    | .normal => G ([1, 2, 3].map σ') m'
    | .exit id => k (.exit id) (only (lx4_4 (.exit id)) ((lx4_4 (.exit id)).map σ')) m'
    | .ret => k .ret (only (lx4_4 .ret) ((lx4_4 .ret).map σ')) m') = R4_4 b_1 o_1 b_2 o_2 x_3 m (fun x_3' m' => G [(.ptr b_1 o_1), (.ptr b_2 o_2), (.flat (.int .i64 x_3'))] m') (fun m' => k (.exit 0) (only [] []) m') (fun x_0' m' => k .ret (only [0] [(.flat (.bool x_0'))]) m') := by
  kernel_rfl

theorem loop4_4 (b_1 o_1 : Nat) (b_2 o_2 : Nat) (k : KX) : ∀ (N : Nat) (x_3 : Int) (m : Mem), rounds Try.prog E4 Lam4 [1, 2, 3] lx4_4 ((loopsOf (bodyOf Try.f4)).getD 0 .skip) N [(.ptr b_1 o_1), (.ptr b_2 o_2), (.flat (.int .i64 x_3))] m k = L4_4 b_1 o_1 b_2 o_2 N x_3 m (fun m' => k (.exit 0) (only [] []) m') (fun x_0' m' => k .ret (only [0] [(.flat (.bool x_0'))]) m') := by
  intro N
  induction N with
  | zero => intros; rfl
  | succ N ih =>
    intro x_3 m
    refine (round4_4 b_1 o_1 b_2 o_2 x_3 m (fun vs m' => rounds Try.prog E4 Lam4 [1, 2, 3] lx4_4 ((loopsOf (bodyOf Try.f4)).getD 0 .skip) N vs m' k) k).trans ?_
    simp only [ih]
    rfl

theorem lok4_4 : LoopOK Try.prog E4 Lam4 ((loopsOf (bodyOf Try.f4)).getD 0 .skip) := by
  refine ⟨fun σ => ∃ b_1 o_1 b_2 o_2 x_3, σ 1 = .ptr b_1 o_1 ∧ σ 2 = .ptr b_2 o_2 ∧ σ 3 = .flat (.int .i64 x_3), [1, 2, 3], lx4_4, fun σ m k => ?_⟩
  have e : Lam4.loop ((loopsOf (bodyOf Try.f4)).getD 0 .skip) σ m k = Lam4_4 σ m k := by kernel_rfl
  rw [e]
  constructor
  · intro h
    unfold Lam4_4 at h
    obtain ⟨b_1, o_1, h0, h⟩ := kptr_ok h
    obtain ⟨b_2, o_2, h1, h⟩ := kptr_ok h
    obtain ⟨x_3, h2, h⟩ := kI_ok h
    obtain ⟨N, h⟩ := h
    refine ⟨⟨b_1, o_1, b_2, o_2, x_3, h0, h1, h2⟩, N, ?_⟩
    have ev : [1, 2, 3].map σ = [(.ptr b_1 o_1), (.ptr b_2 o_2), (.flat (.int .i64 x_3))] := by simp only [List.map_cons, List.map_nil, h0, h1, h2]
    rw [ev, loop4_4]
    exact h
  · rintro ⟨⟨b_1, o_1, b_2, o_2, x_3, h0, h1, h2⟩, N, h⟩
    have ev : [1, 2, 3].map σ = [(.ptr b_1 o_1), (.ptr b_2 o_2), (.flat (.int .i64 x_3))] := by simp only [List.map_cons, List.map_nil, h0, h1, h2]
    rw [ev, loop4_4] at h
    unfold Lam4_4
    simp only [h0, h1, h2, kI, kbool, kS, kptr, kaggN, kite, decide_true, eq_self]
    exact ⟨N, h⟩

theorem eqn4  (m : Mem) (k : KV) : bodyK Try.prog E4 Lam4 Try.f4 false [] m k = F4  m (fun x_1000 m' => k (.flat (.bool x_1000)) m') := by
  kernel_rfl

theorem fs4 (w0 : World) : FS Try.prog w0 4 G4 := by
  refine (fs_body (Γ := E4) (sound_env (l := [(7, G7), (11, G11), (12, G12), (13, G13)]) w0 (by
    intro p hp
    simp only [List.mem_cons, List.not_mem_nil, or_false] at hp
    rcases hp with rfl | rfl | rfl | rfl
    · exact fs7 w0
    · exact fs11 w0
    · exact fs12 w0
    · exact fs13 w0)) (by kernel_rfl) Try.func4 (Λ := Lam4) (c := (bodyOf Try.f4)) (by kernel_rfl) Try.call4 (by kernel_rfl) (LS_of (bodyOf Try.f4) 2 (by kernel_rfl) (by
    intro i hi
    match i, hi with
    | 0, _ => exact lok4_4
    | 1, _ => exact lok4_10
    | i + 2, hi => omega) 0 (by kernel_rfl) (fun i hi => absurd hi (Nat.not_lt_zero i))) false (np := 0) (Nat.le_of_ble_eq_true (by kernel_rfl))).imp fun args => ?_
  by_cases hl : args.length = 0
  rotate_left
  · exact .inr fun m k hk => by
      unfold G4 at hk
      split at hk
      · exact hl rfl
      · exact hk
  obtain rfl : args = [] := len_list0 hl

  exact .inl fun m k => propext ⟨fun h => ⟨rfl, by rw [eqn4]; simpa only [G4, kI, kbool, kS, kptr, kaggN, kite, decide_true, eq_self] using h⟩, fun h => by have h := h.2; rw [eqn4] at h; simpa only [G4, kI, kbool, kS, kptr, kaggN, kite, decide_true, eq_self] using h⟩

/-- pianola/pianolaref6.Fresh -/
def F25  (m : Mem) (k : (Nat → AV) → Mem → Prop) : Prop :=
  newK m ⟨73, Z73, 29, false⟩ fun b2 m1 => newK m1 ⟨73, Z73, 29, false⟩ fun b4 m3 => stG 73 m3 b4 0 (upd (upd (Z73) 34 (.flat (.int .u32 2147484672))) 35 (.flat (.int .u32 2147484676))) fun m5 => stC m5 b4 54 (.flat (.int .u32 98304)) fun m6 => ldG 73 m6 b4 0 fun c7 => stG 73 m6 b2 0 c7 fun m8 => ldG 73 m8 b2 0 fun c9 => (Keeps m m8 ∧ InDomG 73 m c9 ∧ k c9 m)

def G25 (args : List AV) (m : Mem) (k : KV) : Prop := match args with
  | [] => F25  m (fun c_1000 m' => k (.agg 73 c_1000) m')
  | _ => False

def E25 : Env := envOf []

def Lam25 : LEnv := ⟨fun a σ m k => match firstReg a with
  | _ => bump False,
  fun id => match id with
  | _ => bump false,
  fun b => match keyC b with
  | _ => bump false,
  fun b σ m k => match keyC b with
  | _ => bump False⟩

theorem eqn25  (m : Mem) (k : KV) : bodyK Try.prog E25 Lam25 Try.f25 true [] m k = F25  m (fun c_1000 m' => k (.agg 73 c_1000) m') := by
  kernel_rfl

theorem fs25 (w0 : World) : FS Try.prog w0 25 G25 := by
  refine (fs_body (Γ := E25) (sound_env (l := []) w0 (by
    intro p hp
    cases hp)) (by kernel_rfl) Try.func25 (Λ := Lam25) (c := (bodyOf Try.f25)) (by kernel_rfl) Try.call25 (by kernel_rfl) (LS_of (bodyOf Try.f25) 0 (by kernel_rfl) (fun i hi => absurd hi (Nat.not_lt_zero i)) 0 (by kernel_rfl) (fun i hi => absurd hi (Nat.not_lt_zero i))) true (np := 0) (Nat.le_of_ble_eq_true (by kernel_rfl))).imp fun args => ?_
  by_cases hl : args.length = 0
  rotate_left
  · exact .inr fun m k hk => by
      unfold G25 at hk
      split at hk
      · exact hl rfl
      · exact hk
  obtain rfl : args = [] := len_list0 hl

  exact .inl fun m k => propext ⟨fun h => ⟨rfl, by rw [eqn25]; simpa only [G25, kI, kbool, kS, kptr, kaggN, kite, decide_true, eq_self] using h⟩, fun h => by have h := h.2; rw [eqn25] at h; simpa only [G25, kI, kbool, kS, kptr, kaggN, kite, decide_true, eq_self] using h⟩

def R14_20 (x_1 : Int) (b_2 o_2 : Nat) (b_4 o_4 : Nat) (b_5 o_5 : Nat) (x_8 : Int) (m : Mem) (kn : Int → Mem → Prop) (k4 : Mem → Prop) : Prop :=
  ldA m b_2 (o_2 + 8) fun v54 => klen v54 fun x55 => kif (decide (x_8 < x55)) (kif (decide (x_8 < 8)) (ldA m b_2 (o_2 + 8) fun v56 => ksl v56 fun b57 o58 l59 p60 => kif (decide (0 ≤ x_8) && decide (x_8 < l59)) (ldI .u32 m b57 (o58 + (x_8).toNat * 2 + 0) fun x61 => ldA m b_2 (o_2 + 8) fun v62 => ksl v62 fun b63 o64 l65 p66 => kif (decide (0 ≤ x_8) && decide (x_8 < l65)) (ldI .u32 m b63 (o64 + (x_8).toNat * 2 + 1) fun x67 => kif (decide (0 ≤ x_8) && decide (x_8 < 8)) (stG 2 m b_5 (o_5 + 55 + (x_8).toNat * 2) (upd (upd (lget [(.flat (.int .u32 0)), (.flat (.int .u32 0))]) 0 (.flat (.int .u32 (bits .and .u32 x61 4294966527)))) 1 (.flat (.int .u32 (bits .and .u32 x67 4294966279)))) fun m68 => kn (IntKind.wrap .i64 (x_8 + 1)) m68) False) False) False) (k4  m)) (k4  m)

def L14_20 (x_1 : Int) (b_2 o_2 : Nat) (b_4 o_4 : Nat) (b_5 o_5 : Nat) : Nat → Int → Mem → (Mem → Prop) → Prop
  | 0, _,  _, _ => bump False
  | N + 1, x_8,  m, k4 => R14_20 x_1 b_2 o_2 b_4 o_4 b_5 o_5 x_8 m (fun x_8' m' => L14_20 x_1 b_2 o_2 b_4 o_4 b_5 o_5 N x_8' m' k4) k4

def R14_16 (x_1 : Int) (b_2 o_2 : Nat) (b_4 o_4 : Nat) (b_5 o_5 : Nat) (x_7 : Int) (m : Mem) (kn : Int → Mem → Prop) (k2 : Mem → Prop) : Prop :=
  ldA m b_2 (o_2 + 7) fun v40 => klen v40 fun x41 => kif (decide (x_7 < x41)) (kif (decide (x_7 < 3)) (newK m ⟨3, upd (upd (upd (lget [(.flat (.int .i64 0)), (.flat (.int .i64 0)), (.flat (.int .i64 0))]) 0 (.flat (.int .i64 0))) 1 (.flat (.int .i64 2))) 2 (.flat (.int .i64 14)), 3, false⟩ fun b43 m42 => kif (decide (0 ≤ x_7) && decide (x_7 < 3)) (ldI .i64 m42 b43 (0 + (x_7).toNat * 1) fun x44 => ldA m42 b_2 (o_2 + 7) fun v45 => ksl v45 fun b46 o47 l48 p49 => kif (decide (0 ≤ x_7) && decide (x_7 < l48)) (ldI .u32 m42 b46 (o47 + (x_7).toNat * 1) fun x50 => F21 b_5 o_5 x44 x50 m42 fun m51 => kn (IntKind.wrap .i64 (x_7 + 1)) m51) False) False) (k2  m)) (k2  m)

def L14_16 (x_1 : Int) (b_2 o_2 : Nat) (b_4 o_4 : Nat) (b_5 o_5 : Nat) : Nat → Int → Mem → (Mem → Prop) → Prop
  | 0, _,  _, _ => bump False
  | N + 1, x_7,  m, k2 => R14_16 x_1 b_2 o_2 b_4 o_4 b_5 o_5 x_7 m (fun x_7' m' => L14_16 x_1 b_2 o_2 b_4 o_4 b_5 o_5 N x_7' m' k2) k2

def P14_10102 (x_1 : Int) (b_2 o_2 : Nat) (b_4 o_4 : Nat) (b_5 o_5 : Nat) (m : Mem) (kr : Mem → Prop) : Prop :=
  ldI .u32 m b_2 (o_2 + 2) fun x29 => F21 b_5 o_5 12 x29 m fun m30 => ldI .u32 m30 b_2 (o_2 + 3) fun x31 => F21 b_5 o_5 13 x31 m30 fun m32 => ldI .u32 m32 b_2 (o_2 + 4) fun x33 => F21 b_5 o_5 10 x33 m32 fun m34 => ldI .u32 m34 b_2 (o_2 + 9) fun x35 => F21 b_5 o_5 9 x35 m34 fun m36 => ldI .u32 m36 b_2 (o_2 + 9) fun x37 => ldI .u32 m36 b_2 (o_2 + 10) fun x38 => F21 b_5 o_5 11 (IntKind.wrap .u32 (x37 + (x38.tmod 50))) m36 fun m39 => ∃ N53, L14_16 x_1 b_2 o_2 b_4 o_4 b_5 o_5 N53 0 m39 (fun m52 => ∃ N70, L14_20 x_1 b_2 o_2 b_4 o_4 b_5 o_5 N70 0 m52 (fun m69 => ldB m69 b_2 (o_2 + 6) fun x71 => stC m69 b_5 (o_5 + 37) (.flat (.bool x71)) fun m72 => stC m72 b_5 (o_5 + 72) (.flat (.int .i64 x_1)) fun m73 => ldG 73 m73 b_5 o_5 fun c74 => stG 73 m73 b_4 o_4 c74 fun m75 => kr  m75))

def R14_3 (x_1 : Int) (b_2 o_2 : Nat) (b_4 o_4 : Nat) (b_5 o_5 : Nat) (x_6 : Int) (m : Mem) (kn : Int → Mem → Prop) (k0 : Mem → Prop) : Prop :=
  kif (decide (x_6 < 32)) (ldA m b_2 (o_2 + 0) fun v10 => klen v10 fun x11 => kif (decide (x_6 < x11)) (ldA m b_2 (o_2 + 0) fun v12 => ksl v12 fun b13 o14 l15 p16 => kif (decide (0 ≤ x_6) && decide (x_6 < l15)) (ldI .u32 m b13 (o14 + (x_6).toNat * 1) fun x17 => kif (decide (0 ≤ x_6) && decide (x_6 < 32)) (stC m b_5 (o_5 + 0 + (x_6).toNat * 1) (.flat (.int .u32 x17)) fun m18 => kn (IntKind.wrap .i64 (x_6 + 1)) m18) False) False) (k0  m)) (k0  m)

def L14_3 (x_1 : Int) (b_2 o_2 : Nat) (b_4 o_4 : Nat) (b_5 o_5 : Nat) : Nat → Int → Mem → (Mem → Prop) → Prop
  | 0, _,  _, _ => bump False
  | N + 1, x_6,  m, k0 => R14_3 x_1 b_2 o_2 b_4 o_4 b_5 o_5 x_6 m (fun x_6' m' => L14_3 x_1 b_2 o_2 b_4 o_4 b_5 o_5 N x_6' m' k0) k0

/-- pianola/pianolakeep.State -/
def F14 (c_0 : Nat → AV) (x_1 : Int) (m : Mem) (k : (Nat → AV) → Mem → Prop) : Prop :=
  newK m ⟨11, c_0, 46, false⟩ fun b2 m1 => newK m1 ⟨73, Z73, 29, false⟩ fun b4 m3 => F25  m3 fun c5 m6 => newK m6 ⟨73, Z73, 29, false⟩ fun b8 m7 => stG 73 m7 b8 0 c5 fun m9 => ∃ N20, L14_3 x_1 b2 0 b4 0 b8 0 N20 1 m9 (fun m19 => ldI .u32 m19 b2 1 fun x21 => stC m19 b8 34 (.flat (.int .u32 x21)) fun m22 => ldI .u32 m22 b8 34 fun x23 => stC m22 b8 35 (.flat (.int .u32 (IntKind.wrap .u32 (x23 + 4)))) fun m24 => ldB m24 b2 5 fun x25 => kif x25 (ldI .u32 m24 b8 34 fun x26 => stC m24 b8 36 (.flat (.bool true)) fun m27 => stC m27 b8 35 (.flat (.int .u32 (IntKind.wrap .u32 (x26 + 16)))) fun m28 => P14_10102 x_1 b2 0 b4 0 b8 0 m28 (fun m76 => ldG 73 m76 b4 0 fun c78 => (Keeps m m76 ∧ InDomG 73 m c78 ∧ k c78 m))) (P14_10102 x_1 b2 0 b4 0 b8 0 m24 (fun m77 => ldG 73 m77 b4 0 fun c79 => (Keeps m m77 ∧ InDomG 73 m c79 ∧ k c79 m))))

def G14 (args : List AV) (m : Mem) (k : KV) : Prop := match args with
  | [a0, a1] => kaggN 11 a0 fun c_0 => kI .i64 a1 fun x_1 => F14 c_0 x_1 m (fun c_1000 m' => k (.agg 73 c_1000) m')
  | _ => False

def E14 : Env := envOf [(21, G21), (25, G25)]

def Lam14_3 (σ : Nat → AV) (m : Mem) (k : KX) : Prop := kI .i64 (σ 1) fun x_1 => kptr (σ 2) fun b_2 o_2 => kptr (σ 4) fun b_4 o_4 => kptr (σ 5) fun b_5 o_5 => kI .i64 (σ 6) fun x_6 => ∃ N, L14_3 x_1 b_2 o_2 b_4 o_4 b_5 o_5 N x_6 m (fun m' => k (.exit 0) (only [1, 2, 4, 5] [(.flat (.int .i64 x_1)), (.ptr b_2 o_2), (.ptr b_4 o_4), (.ptr b_5 o_5)]) m')

def LamP14_10102 (σ : Nat → AV) (m : Mem) (k : KX) : Prop := kI .i64 (σ 1) fun x_1 => kptr (σ 2) fun b_2 o_2 => kptr (σ 4) fun b_4 o_4 => kptr (σ 5) fun b_5 o_5 => P14_10102 x_1 b_2 o_2 b_4 o_4 b_5 o_5 m (fun m' => k .ret (only [4] [(.ptr b_4 o_4)]) m')

def Lam14_16 (σ : Nat → AV) (m : Mem) (k : KX) : Prop := kI .i64 (σ 1) fun x_1 => kptr (σ 2) fun b_2 o_2 => kptr (σ 4) fun b_4 o_4 => kptr (σ 5) fun b_5 o_5 => kI .i64 (σ 7) fun x_7 => ∃ N, L14_16 x_1 b_2 o_2 b_4 o_4 b_5 o_5 N x_7 m (fun m' => k (.exit 2) (only [1, 2, 4, 5] [(.flat (.int .i64 x_1)), (.ptr b_2 o_2), (.ptr b_4 o_4), (.ptr b_5 o_5)]) m')

def Lam14_20 (σ : Nat → AV) (m : Mem) (k : KX) : Prop := kI .i64 (σ 1) fun x_1 => kptr (σ 2) fun b_2 o_2 => kptr (σ 4) fun b_4 o_4 => kptr (σ 5) fun b_5 o_5 => kI .i64 (σ 8) fun x_8 => ∃ N, L14_20 x_1 b_2 o_2 b_4 o_4 b_5 o_5 N x_8 m (fun m' => k (.exit 4) (only [1, 2, 4, 5] [(.flat (.int .i64 x_1)), (.ptr b_2 o_2), (.ptr b_4 o_4), (.ptr b_5 o_5)]) m')

def Lam14 : LEnv := ⟨fun a σ m k => match firstReg a with
  | some 3 => Lam14_3 σ m k
  | some 16 => Lam14_16 σ m k
  | some 20 => Lam14_20 σ m k
  | _ => bump False,
  fun id => match id with
  | _ => bump false,
  fun b => match keyC b with
  | some 10102 => true
  | _ => bump false,
  fun b σ m k => match keyC b with
  | some 10102 => LamP14_10102 σ m k
  | _ => bump False⟩

def lx14_20 : Ex → List Nat := fun e => match e with
  | .exit 4 => [1, 2, 4, 5]
  | _ => []

theorem round14_20 (x_1 : Int) (b_2 o_2 : Nat) (b_4 o_4 : Nat) (b_5 o_5 : Nat) (x_8 : Int) (m : Mem) (G : List AV → Mem → Prop) (k : KX) : (wpA Try.prog E14 Lam14 ((loopsOf (bodyOf Try.f14)).getD 2 .skip) (only [1, 2, 4, 5, 8] [(.flat (.int .i64 x_1)), (.ptr b_2 o_2), (.ptr b_4 o_4), (.ptr b_5 o_5), (.flat (.int .i64 x_8))]) m fun e σ' m' => match e with
    | .normal => G ([1, 2, 4, 5, 8].map σ') m'
    | .exit id => k (.exit id) (only (lx14_20 (.exit id)) ((lx14_20 (.exit id)).map σ')) m'
    | .ret => k .ret (only (lx14_20 .ret) ((lx14_20 .ret).map σ')) m') = R14_20 x_1 b_2 o_2 b_4 o_4 b_5 o_5 x_8 m (fun x_8' m' => G [(.flat (.int .i64 x_1)), (.ptr b_2 o_2), (.ptr b_4 o_4), (.ptr b_5 o_5), (.flat (.int .i64 x_8'))] m') (fun m' => k (.exit 4) (only [1, 2, 4, 5] [(.flat (.int .i64 x_1)), (.ptr b_2 o_2), (.ptr b_4 o_4), (.ptr b_5 o_5)]) m') := by
  kernel_rfl

theorem loop14_20 (x_1 : Int) (b_2 o_2 : Nat) (b_4 o_4 : Nat) (b_5 o_5 : Nat) (k : KX) : ∀ (N : Nat) (x_8 : Int) (m : Mem), rounds Try.prog E14 Lam14 [1, 2, 4, 5, 8] lx14_20 ((loopsOf (bodyOf Try.f14)).getD 2 .skip) N [(.flat (.int .i64 x_1)), (.ptr b_2 o_2), (.ptr b_4 o_4), (.ptr b_5 o_5), (.flat (.int .i64 x_8))] m k = L14_20 x_1 b_2 o_2 b_4 o_4 b_5 o_5 N x_8 m (fun m' => k (.exit 4) (only [1, 2, 4, 5] [(.flat (.int .i64 x_1)), (.ptr b_2 o_2), (.ptr b_4 o_4), (.ptr b_5 o_5)]) m') := by
  intro N
  induction N with
  | zero => intros; rfl
  | succ N ih =>
    intro x_8 m
    refine (round14_20 x_1 b_2 o_2 b_4 o_4 b_5 o_5 x_8 m (fun vs m' => rounds Try.prog E14 Lam14 [1, 2, 4, 5, 8] lx14_20 ((loopsOf (bodyOf Try.f14)).getD 2 .skip) N vs m' k) k).trans ?_
    simp only [ih]
    rfl

theorem lok14_20 : LoopOK Try.prog E14 Lam14 ((loopsOf (bodyOf Try.f14)).getD 2 .skip) := by
  refine ⟨fun σ => ∃ x_1 b_2 o_2 b_4 o_4 b_5 o_5 x_8, σ 1 = .flat (.int .i64 x_1) ∧ σ 2 = .ptr b_2 o_2 ∧ σ 4 = .ptr b_4 o_4 ∧ σ 5 = .ptr b_5 o_5 ∧ σ 8 = .flat (.int .i64 x_8), [1, 2, 4, 5, 8], lx14_20, fun σ m k => ?_⟩
  have e : Lam14.loop ((loopsOf (bodyOf Try.f14)).getD 2 .skip) σ m k = Lam14_20 σ m k := by kernel_rfl
  rw [e]
  constructor
  · intro h
    unfold Lam14_20 at h
    obtain ⟨x_1, h0, h⟩ := kI_ok h
    obtain ⟨b_2, o_2, h1, h⟩ := kptr_ok h
    obtain ⟨b_4, o_4, h2, h⟩ := kptr_ok h
    obtain ⟨b_5, o_5, h3, h⟩ := kptr_ok h
    obtain ⟨x_8, h4, h⟩ := kI_ok h
    obtain ⟨N, h⟩ := h
    refine ⟨⟨x_1, b_2, o_2, b_4, o_4, b_5, o_5, x_8, h0, h1, h2, h3, h4⟩, N, ?_⟩
    have ev : [1, 2, 4, 5, 8].map σ = [(.flat (.int .i64 x_1)), (.ptr b_2 o_2), (.ptr b_4 o_4), (.ptr b_5 o_5), (.flat (.int .i64 x_8))] := by simp only [List.map_cons, List.map_nil, h0, h1, h2, h3, h4]
    rw [ev, loop14_20]
    exact h
  · rintro ⟨⟨x_1, b_2, o_2, b_4, o_4, b_5, o_5, x_8, h0, h1, h2, h3, h4⟩, N, h⟩
    have ev : [1, 2, 4, 5, 8].map σ = [(.flat (.int .i64 x_1)), (.ptr b_2 o_2), (.ptr b_4 o_4), (.ptr b_5 o_5), (.flat (.int .i64 x_8))] := by simp only [List.map_cons, List.map_nil, h0, h1, h2, h3, h4]
    rw [ev, loop14_20] at h
    unfold Lam14_20
    simp only [h0, h1, h2, h3, h4, kI, kbool, kS, kptr, kaggN, kite, decide_true, eq_self]
    exact ⟨N, h⟩

def lx14_16 : Ex → List Nat := fun e => match e with
  | .exit 2 => [1, 2, 4, 5]
  | _ => []

theorem round14_16 (x_1 : Int) (b_2 o_2 : Nat) (b_4 o_4 : Nat) (b_5 o_5 : Nat) (x_7 : Int) (m : Mem) (G : List AV → Mem → Prop) (k : KX) : (wpA Try.prog E14 Lam14 ((loopsOf (bodyOf Try.f14)).getD 1 .skip) (only [1, 2, 4, 5, 7] [(.flat (.int .i64 x_1)), (.ptr b_2 o_2), (.ptr b_4 o_4), (.ptr b_5 o_5), (.flat (.int .i64 x_7))]) m fun e σ' m' => match e with
    | .normal => G ([1, 2, 4, 5, 7].map σ') m'
    | .exit id => k (.exit id) (only (lx14_16 (.exit id)) ((lx14_16 (.exit id)).map σ')) m'
    | .ret => k .ret (only (lx14_16 .ret) ((lx14_16 .ret).map σ')) m') = R14_16 x_1 b_2 o_2 b_4 o_4 b_5 o_5 x_7 m (fun x_7' m' => G [(.flat (.int .i64 x_1)), (.ptr b_2 o_2), (.ptr b_4 o_4), (.ptr b_5 o_5), (.flat (.int .i64 x_7'))] m') (fun m' => k (.exit 2) (only [1, 2, 4, 5] [(.flat (.int .i64 x_1)), (.ptr b_2 o_2), (.ptr b_4 o_4), (.ptr b_5 o_5)]) m') := by
  kernel_rfl

theorem loop14_16 (x_1 : Int) (b_2 o_2 : Nat) (b_4 o_4 : Nat) (b_5 o_5 : Nat) (k : KX) : ∀ (N : Nat) (x_7 : Int) (m : Mem), rounds Try.prog E14 Lam14 [1, 2, 4, 5, 7] lx14_16 ((loopsOf (bodyOf Try.f14)).getD 1 .skip) N [(.flat (.int .i64 x_1)), (.ptr b_2 o_2), (.ptr b_4 o_4), (.ptr b_5 o_5), (.flat (.int .i64 x_7))] m k = L14_16 x_1 b_2 o_2 b_4 o_4 b_5 o_5 N x_7 m (fun m' => k (.exit 2) (only [1, 2, 4, 5] [(.flat (.int .i64 x_1)), (.ptr b_2 o_2), (.ptr b_4 o_4), (.ptr b_5 o_5)]) m') := by
  intro N
  induction N with
  | zero => intros; rfl
  | succ N ih =>
    intro x_7 m
    refine (round14_16 x_1 b_2 o_2 b_4 o_4 b_5 o_5 x_7 m (fun vs m' => rounds Try.prog E14 Lam14 [1, 2, 4, 5, 7] lx14_16 ((loopsOf (bodyOf Try.f14)).getD 1 .skip) N vs m' k) k).trans ?_
    simp only [ih]
    rfl

theorem lok14_16 : LoopOK Try.prog E14 Lam14 ((loopsOf (bodyOf Try.f14)).getD 1 .skip) := by
  refine ⟨fun σ => ∃ x_1 b_2 o_2 b_4 o_4 b_5 o_5 x_7, σ 1 = .flat (.int .i64 x_1) ∧ σ 2 = .ptr b_2 o_2 ∧ σ 4 = .ptr b_4 o_4 ∧ σ 5 = .ptr b_5 o_5 ∧ σ 7 = .flat (.int .i64 x_7), [1, 2, 4, 5, 7], lx14_16, fun σ m k => ?_⟩
  have e : Lam14.loop ((loopsOf (bodyOf Try.f14)).getD 1 .skip) σ m k = Lam14_16 σ m k := by kernel_rfl
  rw [e]
  constructor
  · intro h
    unfold Lam14_16 at h
    obtain ⟨x_1, h0, h⟩ := kI_ok h
    obtain ⟨b_2, o_2, h1, h⟩ := kptr_ok h
    obtain ⟨b_4, o_4, h2, h⟩ := kptr_ok h
    obtain ⟨b_5, o_5, h3, h⟩ := kptr_ok h
    obtain ⟨x_7, h4, h⟩ := kI_ok h
    obtain ⟨N, h⟩ := h
    refine ⟨⟨x_1, b_2, o_2, b_4, o_4, b_5, o_5, x_7, h0, h1, h2, h3, h4⟩, N, ?_⟩
    have ev : [1, 2, 4, 5, 7].map σ = [(.flat (.int .i64 x_1)), (.ptr b_2 o_2), (.ptr b_4 o_4), (.ptr b_5 o_5), (.flat (.int .i64 x_7))] := by simp only [List.map_cons, List.map_nil, h0, h1, h2, h3, h4]
    rw [ev, loop14_16]
    exact h
  · rintro ⟨⟨x_1, b_2, o_2, b_4, o_4, b_5, o_5, x_7, h0, h1, h2, h3, h4⟩, N, h⟩
    have ev : [1, 2, 4, 5, 7].map σ = [(.flat (.int .i64 x_1)), (.ptr b_2 o_2), (.ptr b_4 o_4), (.ptr b_5 o_5), (.flat (.int .i64 x_7))] := by simp only [List.map_cons, List.map_nil, h0, h1, h2, h3, h4]
    rw [ev, loop14_16] at h
    unfold Lam14_16
    simp only [h0, h1, h2, h3, h4, kI, kbool, kS, kptr, kaggN, kite, decide_true, eq_self]
    exact ⟨N, h⟩

def lxp14_10102 : Ex → List Nat := fun e => match e with
  | .ret => [4]
  | _ => []

theorem pc14_10102 (x_1 : Int) (b_2 o_2 : Nat) (b_4 o_4 : Nat) (b_5 o_5 : Nat) (m : Mem) (k : KX) : once Try.prog E14 Lam14 [1, 2, 4, 5] lxp14_10102 (((secsOf (bodyOf Try.f14)).filter Lam14.cut).getD 0 .skip) [(.flat (.int .i64 x_1)), (.ptr b_2 o_2), (.ptr b_4 o_4), (.ptr b_5 o_5)] m k = P14_10102 x_1 b_2 o_2 b_4 o_4 b_5 o_5 m (fun m' => k .ret (only [4] [(.ptr b_4 o_4)]) m') := by
  kernel_rfl

theorem pok14_10102 : PieceOK Try.prog E14 Lam14 (((secsOf (bodyOf Try.f14)).filter Lam14.cut).getD 0 .skip) := by
  refine ⟨fun σ => ∃ x_1 b_2 o_2 b_4 o_4 b_5 o_5, σ 1 = .flat (.int .i64 x_1) ∧ σ 2 = .ptr b_2 o_2 ∧ σ 4 = .ptr b_4 o_4 ∧ σ 5 = .ptr b_5 o_5, [1, 2, 4, 5], lxp14_10102, fun σ m k => ?_⟩
  have e : Lam14.piece (((secsOf (bodyOf Try.f14)).filter Lam14.cut).getD 0 .skip) σ m k = LamP14_10102 σ m k := by kernel_rfl
  rw [e]
  constructor
  · intro h
    unfold LamP14_10102 at h
    obtain ⟨x_1, h0, h⟩ := kI_ok h
    obtain ⟨b_2, o_2, h1, h⟩ := kptr_ok h
    obtain ⟨b_4, o_4, h2, h⟩ := kptr_ok h
    obtain ⟨b_5, o_5, h3, h⟩ := kptr_ok h
    refine ⟨⟨x_1, b_2, o_2, b_4, o_4, b_5, o_5, h0, h1, h2, h3⟩, ?_⟩
    have ev : [1, 2, 4, 5].map σ = [(.flat (.int .i64 x_1)), (.ptr b_2 o_2), (.ptr b_4 o_4), (.ptr b_5 o_5)] := by simp only [List.map_cons, List.map_nil, h0, h1, h2, h3]
    rw [ev, pc14_10102]
    exact h
  · rintro ⟨⟨x_1, b_2, o_2, b_4, o_4, b_5, o_5, h0, h1, h2, h3⟩, h⟩
    have ev : [1, 2, 4, 5].map σ = [(.flat (.int .i64 x_1)), (.ptr b_2 o_2), (.ptr b_4 o_4), (.ptr b_5 o_5)] := by simp only [List.map_cons, List.map_nil, h0, h1, h2, h3]
    rw [ev, pc14_10102] at h
    unfold LamP14_10102
    simp only [h0, h1, h2, h3, kI, kbool, kS, kptr, kaggN, kite, decide_true, eq_self]
    exact h

def lx14_3 : Ex → List Nat := fun e => match e with
  | .exit 0 => [1, 2, 4, 5]
  | _ => []

theorem round14_3 (x_1 : Int) (b_2 o_2 : Nat) (b_4 o_4 : Nat) (b_5 o_5 : Nat) (x_6 : Int) (m : Mem) (G : List AV → Mem → Prop) (k : KX) : (wpA Try.prog E14 Lam14 ((loopsOf (bodyOf Try.f14)).getD 0 .skip) (only [1, 2, 4, 5, 6] [(.flat (.int .i64 x_1)), (.ptr b_2 o_2), (.ptr b_4 o_4), (.ptr b_5 o_5), (.flat (.int .i64 x_6))]) m fun e σ' m' => match e with
    | .normal => G ([1, 2, 4, 5, 6].map σ') m'
    | .exit id => k (.exit id) (only (lx14_3 (.exit id)) ((lx14_3 (.exit id)).map σ')) m'
    | .ret => k .ret (only (lx14_3 .ret) ((lx14_3 .ret).map σ')) m') = R14_3 x_1 b_2 o_2 b_4 o_4 b_5 o_5 x_6 m (fun x_6' m' => G [(.flat (.int .i64 x_1)), (.ptr b_2 o_2), (.ptr b_4 o_4), (.ptr b_5 o_5), (.flat (.int .i64 x_6'))] m') (fun m' => k (.exit 0) (only [1, 2, 4, 5] [(.flat (.int .i64 x_1)), (.ptr b_2 o_2), (.ptr b_4 o_4), (.ptr b_5 o_5)]) m') := by
  kernel_rfl

theorem loop14_3 (x_1 : Int) (b_2 o_2 : Nat) (b_4 o_4 : Nat) (b_5 o_5 : Nat) (k : KX) : ∀ (N : Nat) (x_6 : Int) (m : Mem), rounds Try.prog E14 Lam14 [1, 2, 4, 5, 6] lx14_3 ((loopsOf (bodyOf Try.f14)).getD 0 .skip) N [(.flat (.int .i64 x_1)), (.ptr b_2 o_2), (.ptr b_4 o_4), (.ptr b_5 o_5), (.flat (.int .i64 x_6))] m k = L14_3 x_1 b_2 o_2 b_4 o_4 b_5 o_5 N x_6 m (fun m' => k (.exit 0) (only [1, 2, 4, 5] [(.flat (.int .i64 x_1)), (.ptr b_2 o_2), (.ptr b_4 o_4), (.ptr b_5 o_5)]) m') := by
  intro N
  induction N with
  | zero => intros; rfl
  | succ N ih =>
    intro x_6 m
    refine (round14_3 x_1 b_2 o_2 b_4 o_4 b_5 o_5 x_6 m (fun vs m' => rounds Try.prog E14 Lam14 [1, 2, 4, 5, 6] lx14_3 ((loopsOf (bodyOf Try.f14)).getD 0 .skip) N vs m' k) k).trans ?_
    simp only [ih]
    rfl

theorem lok14_3 : LoopOK Try.prog E14 Lam14 ((loopsOf (bodyOf Try.f14)).getD 0 .skip) := by
  refine ⟨fun σ => ∃ x_1 b_2 o_2 b_4 o_4 b_5 o_5 x_6, σ 1 = .flat (.int .i64 x_1) ∧ σ 2 = .ptr b_2 o_2 ∧ σ 4 = .ptr b_4 o_4 ∧ σ 5 = .ptr b_5 o_5 ∧ σ 6 = .flat (.int .i64 x_6), [1, 2, 4, 5, 6], lx14_3, fun σ m k => ?_⟩
  have e : Lam14.loop ((loopsOf (bodyOf Try.f14)).getD 0 .skip) σ m k = Lam14_3 σ m k := by kernel_rfl
  rw [e]
  constructor
  · intro h
    unfold Lam14_3 at h
    obtain ⟨x_1, h0, h⟩ := kI_ok h
    obtain ⟨b_2, o_2, h1, h⟩ := kptr_ok h
    obtain ⟨b_4, o_4, h2, h⟩ := kptr_ok h
    obtain ⟨b_5, o_5, h3, h⟩ := kptr_ok h
    obtain ⟨x_6, h4, h⟩ := kI_ok h
    obtain ⟨N, h⟩ := h
    refine ⟨⟨x_1, b_2, o_2, b_4, o_4, b_5, o_5, x_6, h0, h1, h2, h3, h4⟩, N, ?_⟩
    have ev : [1, 2, 4, 5, 6].map σ = [(.flat (.int .i64 x_1)), (.ptr b_2 o_2), (.ptr b_4 o_4), (.ptr b_5 o_5), (.flat (.int .i64 x_6))] := by simp only [List.map_cons, List.map_nil, h0, h1, h2, h3, h4]
    rw [ev, loop14_3]
    exact h
  · rintro ⟨⟨x_1, b_2, o_2, b_4, o_4, b_5, o_5, x_6, h0, h1, h2, h3, h4⟩, N, h⟩
    have ev : [1, 2, 4, 5, 6].map σ = [(.flat (.int .i64 x_1)), (.ptr b_2 o_2), (.ptr b_4 o_4), (.ptr b_5 o_5), (.flat (.int .i64 x_6))] := by simp only [List.map_cons, List.map_nil, h0, h1, h2, h3, h4]
    rw [ev, loop14_3] at h
    unfold Lam14_3
    simp only [h0, h1, h2, h3, h4, kI, kbool, kS, kptr, kaggN, kite, decide_true, eq_self]
    exact ⟨N, h⟩

theorem eqn14 (c_0 : Nat → AV) (x_1 : Int) (m : Mem) (k : KV) : bodyK Try.prog E14 Lam14 Try.f14 true [(.agg 11 c_0), (.flat (.int .i64 x_1))] m k = F14 c_0 x_1 m (fun c_1000 m' => k (.agg 73 c_1000) m') := by
  kernel_rfl

theorem fs14 (w0 : World) : FS Try.prog w0 14 G14 := by
  refine (fs_body (Γ := E14) (sound_env (l := [(21, G21), (25, G25)]) w0 (by
    intro p hp
    simp only [List.mem_cons, List.not_mem_nil, or_false] at hp
    rcases hp with rfl | rfl
    · exact fs21 w0
    · exact fs25 w0)) (by kernel_rfl) Try.func14 (Λ := Lam14) (c := (bodyOf Try.f14)) (by kernel_rfl) Try.call14 (by kernel_rfl) (LS_of (bodyOf Try.f14) 3 (by kernel_rfl) (by
    intro i hi
    match i, hi with
    | 0, _ => exact lok14_3
    | 1, _ => exact lok14_16
    | 2, _ => exact lok14_20
    | i + 3, hi => omega) 1 (by kernel_rfl) (by
    intro i hi
    match i, hi with
    | 0, _ => exact pok14_10102
    | i + 1, hi => omega)) true (np := 2) (Nat.le_of_ble_eq_true (by kernel_rfl))).imp fun args => ?_
  by_cases hl : args.length = 2
  rotate_left
  · exact .inr fun m k hk => by
      unfold G14 at hk
      split at hk
      · exact hl rfl
      · exact hk
  obtain ⟨a0, a1, rfl⟩ : ∃ a0 a1, args = [a0, a1] := len_list2 hl
  rcases kaggN_or 11 a0 with ⟨c_0, rfl⟩ | h
  rotate_left
  · exact .inr fun m k hk => h _ (by simpa only [G14, kI, kbool, kS, kptr, kaggN, kite, decide_true, eq_self] using hk)
  rcases kI_or .i64 a1 with ⟨x_1, rfl⟩ | h
  rotate_left
  · exact .inr fun m k hk => h _ (by simpa only [G14, kI, kbool, kS, kptr, kaggN, kite, decide_true, eq_self] using hk)
  exact .inl fun m k => propext ⟨fun h => ⟨rfl, by rw [eqn14]; simpa only [G14, kI, kbool, kS, kptr, kaggN, kite, decide_true, eq_self] using h⟩, fun h => by have h := h.2; rw [eqn14] at h; simpa only [G14, kI, kbool, kS, kptr, kaggN, kite, decide_true, eq_self] using h⟩

end Go.Proofs.Ytnfpmaiolponbaa.Am
