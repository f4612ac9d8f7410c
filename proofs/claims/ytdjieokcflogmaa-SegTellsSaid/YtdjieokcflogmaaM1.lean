/- What Go functions ask of what follows them, as plain functions over the abstract machine; the machine asks just that. Written by gen.py. -/
import Derived.Test.YtdjieokcflogmaaProg
import Derived.Test.YtdjieokcflogmaaAmL
import Derived.Test.YtdjieokcflogmaaM0
namespace Go.Proofs.Ytdjieokcflogmaa.Am
set_option linter.unusedVariables false
set_option linter.unusedSimpArgs false
set_option maxRecDepth 100000

/-- pianola/pianolaref6.Mode -/
def F18 (b_0 o_0 : Nat) (m : Mem) (k : Int → Mem → Prop) : Prop :=
  ldI .u32 m b_0 (o_0 + 39 + 10) fun x1 => F20 b_0 o_0 m fun x2 m3 => kif x2 ((Keeps m m3 ∧ k (IntKind.wrap .i64 ((IntKind.wrap .i64 (bits .and .u32 x1 255)) + 256)) m)) ((Keeps m m3 ∧ k (IntKind.wrap .i64 (bits .and .u32 x1 255)) m))

def G18 (args : List AV) (m : Mem) (k : KV) : Prop := match args with
  | [a0] => kptr a0 fun b_0 o_0 => F18 b_0 o_0 m (fun x_1000 m' => k (.flat (.int .i64 x_1000)) m')
  | _ => False

def E18 : Env := envOf [(20, G20)]

def Lam18 : LEnv := ⟨fun a σ m k => match firstReg a with
  | _ => bump False,
  fun id => match id with
  | _ => bump false,
  fun b => match keyC b with
  | _ => bump false,
  fun b σ m k => match keyC b with
  | _ => bump False⟩

theorem eqn18 (b_0 o_0 : Nat) (m : Mem) (k : KV) : bodyK Try.prog E18 Lam18 Try.f18 true [(.ptr b_0 o_0)] m k = F18 b_0 o_0 m (fun x_1000 m' => k (.flat (.int .i64 x_1000)) m') := by
  kernel_rfl

theorem fs18 (w0 : World) : FS Try.prog w0 18 G18 := by
  refine (fs_body (Γ := E18) (sound_env (l := [(20, G20)]) w0 (by
    intro p hp
    simp only [List.mem_cons, List.not_mem_nil, or_false] at hp
    rcases hp with rfl
    · exact fs20 w0)) (by kernel_rfl) Try.func18 (Λ := Lam18) (c := (bodyOf Try.f18)) (by kernel_rfl) Try.call18 (by kernel_rfl) (LS_of (bodyOf Try.f18) 0 (by kernel_rfl) (fun i hi => absurd hi (Nat.not_lt_zero i)) 0 (by kernel_rfl) (fun i hi => absurd hi (Nat.not_lt_zero i))) true (np := 1) (Nat.le_of_ble_eq_true (by kernel_rfl))).imp fun args => ?_
  by_cases hl : args.length = 1
  rotate_left
  · exact .inr fun m k hk => by
      unfold G18 at hk
      split at hk
      · exact hl rfl
      · exact hk
  obtain ⟨a0, rfl⟩ : ∃ a0, args = [a0] := len_list1 hl
  rcases kptr_or a0 with ⟨b_0, o_0, rfl⟩ | h
  rotate_left
  · exact .inr fun m k hk => h _ (by simpa only [G18, kI, kbool, kS, kptr, kaggN, kite, decide_true, eq_self] using hk)
  exact .inl fun m k => propext ⟨fun h => ⟨rfl, by rw [eqn18]; simpa only [G18, kI, kbool, kS, kptr, kaggN, kite, decide_true, eq_self] using h⟩, fun h => by have h := h.2; rw [eqn18] at h; simpa only [G18, kI, kbool, kS, kptr, kaggN, kite, decide_true, eq_self] using h⟩

def R8_2 (b_0 o_0 : Nat) (x_1 : Int) (x_2 : Int) (v_15 : AV) (x_16 : Int) (x_17 : Int) (m : Mem) (kn : Int → Mem → Prop) (k0 : Mem → Prop) (kr : Bool → Mem → Prop) : Prop :=
  kif (decide (x_17 < x_16)) (ksl v_15 fun b3 o4 l5 p6 => kif (decide (0 ≤ x_17) && decide (x_17 < l5)) (ldB m b3 (o4 + (x_17).toNat * 1) fun x7 => F10 b_0 o_0 x_1 x_2 x7 m fun x8 x9 x10 m11 => F16 b_0 o_0 x_1 x_2 x7 m11 fun x12 x13 x14 m15 => kif (x8 != x12) (kr false m15) (kif (x9 != x13) (kr false m15) (kif (!(x10 == x14)) (kr false m15) (kn (IntKind.wrap .i64 (x_17 + 1)) m15)))) False) (k0  m)

def L8_2 (b_0 o_0 : Nat) (x_1 : Int) (x_2 : Int) (v_15 : AV) (x_16 : Int) : Nat → Int → Mem → (Mem → Prop) → (Bool → Mem → Prop) → Prop
  | 0, _,  _, _, _ => bump False
  | N + 1, x_17,  m, k0, kr => R8_2 b_0 o_0 x_1 x_2 v_15 x_16 x_17 m (fun x_17' m' => L8_2 b_0 o_0 x_1 x_2 v_15 x_16 N x_17' m' k0 kr) k0 kr

/-- pianola/pianolalaw8.same -/
def F8 (b_0 o_0 : Nat) (x_1 : Int) (x_2 : Int) (m : Mem) (k : Bool → Mem → Prop) : Prop :=
  newK m ⟨2, upd (upd (lget [(.flat (.bool false)), (.flat (.bool false))]) 0 (.flat (.bool false))) 1 (.flat (.bool true)), 4, false⟩ fun b2 m1 => ∃ N19, L8_2 b_0 o_0 x_1 x_2 (.sl b2 0 2 (.ex 2)) 2 N19 0 m1 (fun m16 => F17 b_0 o_0 m16 fun x20 m21 => F18 b_0 o_0 m21 fun x22 m23 => (Keeps m m23 ∧ k (x20 == x22) m)) (fun x17 m18 => (Keeps m m18 ∧ k x17 m))

def G8 (args : List AV) (m : Mem) (k : KV) : Prop := match args with
  | [a0, a1, a2] => kptr a0 fun b_0 o_0 => kI .u32 a1 fun x_1 => kI .i64 a2 fun x_2 => F8 b_0 o_0 x_1 x_2 m (fun x_1000 m' => k (.flat (.bool x_1000)) m')
  | _ => False

def E8 : Env := envOf [(10, G10), (16, G16), (17, G17), (18, G18)]

def Lam8_2 (σ : Nat → AV) (m : Mem) (k : KX) : Prop := kptr (σ 0) fun b_0 o_0 => kI .u32 (σ 1) fun x_1 => kI .i64 (σ 2) fun x_2 => kI .i64 (σ 16) fun x_16 => kI .i64 (σ 17) fun x_17 => ∃ N, L8_2 b_0 o_0 x_1 x_2 (σ 15) x_16 N x_17 m (fun m' => k (.exit 0) (only [0] [(.ptr b_0 o_0)]) m') (fun x_6' m' => k .ret (only [6] [(.flat (.bool x_6'))]) m')

def Lam8 : LEnv := ⟨fun a σ m k => match firstReg a with
  | some 2 => Lam8_2 σ m k
  | _ => bump False,
  fun id => match id with
  | _ => bump false,
  fun b => match keyC b with
  | _ => bump false,
  fun b σ m k => match keyC b with
  | _ => bump False⟩

def lx8_2 : Ex → List Nat := fun e => match e with
  | .exit 0 => [0]
  | .ret => [6]
  | _ => []

theorem round8_2 (b_0 o_0 : Nat) (x_1 : Int) (x_2 : Int) (v_15 : AV) (x_16 : Int) (x_17 : Int) (m : Mem) (G : List AV → Mem → Prop) (k : KX) : (wpA Try.prog E8 Lam8 ((loopsOf (bodyOf Try.f8)).getD 0 .skip) (only [0, 1, 2, 15, 16, 17] [(.ptr b_0 o_0), (.flat (.int .u32 x_1)), (.flat (.int .i64 x_2)), v_15, (.flat (.int .i64 x_16)), (.flat (.int .i64 x_17))]) m fun e σ' m' => match e with
    | .normal => G ([0, 1, 2, 15, 16, 17].map σ') m'
    | .exit id => k (.exit id) (only (lx8_2 (.exit id)) ((lx8_2 (.exit id)).map σ')) m'
    | .ret => k .ret (only (lx8_2 .ret) ((lx8_2 .ret).map σ')) m') = R8_2 b_0 o_0 x_1 x_2 v_15 x_16 x_17 m (fun x_17' m' => G [(.ptr b_0 o_0), (.flat (.int .u32 x_1)), (.flat (.int .i64 x_2)), v_15, (.flat (.int .i64 x_16)), (.flat (.int .i64 x_17'))] m') (fun m' => k (.exit 0) (only [0] [(.ptr b_0 o_0)]) m') (fun x_6' m' => k .ret (only [6] [(.flat (.bool x_6'))]) m') := by
  kernel_rfl

theorem loop8_2 (b_0 o_0 : Nat) (x_1 : Int) (x_2 : Int) (v_15 : AV) (x_16 : Int) (k : KX) : ∀ (N : Nat) (x_17 : Int) (m : Mem), rounds Try.prog E8 Lam8 [0, 1, 2, 15, 16, 17] lx8_2 ((loopsOf (bodyOf Try.f8)).getD 0 .skip) N [(.ptr b_0 o_0), (.flat (.int .u32 x_1)), (.flat (.int .i64 x_2)), v_15, (.flat (.int .i64 x_16)), (.flat (.int .i64 x_17))] m k = L8_2 b_0 o_0 x_1 x_2 v_15 x_16 N x_17 m (fun m' => k (.exit 0) (only [0] [(.ptr b_0 o_0)]) m') (fun x_6' m' => k .ret (only [6] [(.flat (.bool x_6'))]) m') := by
  intro N
  induction N with
  | zero => intros; rfl
  | succ N ih =>
    intro x_17 m
    refine (round8_2 b_0 o_0 x_1 x_2 v_15 x_16 x_17 m (fun vs m' => rounds Try.prog E8 Lam8 [0, 1, 2, 15, 16, 17] lx8_2 ((loopsOf (bodyOf Try.f8)).getD 0 .skip) N vs m' k) k).trans ?_
    simp only [ih]
    rfl

theorem lok8_2 : LoopOK Try.prog E8 Lam8 ((loopsOf (bodyOf Try.f8)).getD 0 .skip) := by
  refine ⟨fun σ => ∃ b_0 o_0 x_1 x_2 v_15 x_16 x_17, σ 0 = .ptr b_0 o_0 ∧ σ 1 = .flat (.int .u32 x_1) ∧ σ 2 = .flat (.int .i64 x_2) ∧ σ 15 = v_15 ∧ σ 16 = .flat (.int .i64 x_16) ∧ σ 17 = .flat (.int .i64 x_17), [0, 1, 2, 15, 16, 17], lx8_2, fun σ m k => ?_⟩
  have e : Lam8.loop ((loopsOf (bodyOf Try.f8)).getD 0 .skip) σ m k = Lam8_2 σ m k := by kernel_rfl
  rw [e]
  constructor
  · intro h
    unfold Lam8_2 at h
    obtain ⟨b_0, o_0, h0, h⟩ := kptr_ok h
    obtain ⟨x_1, h1, h⟩ := kI_ok h
    obtain ⟨x_2, h2, h⟩ := kI_ok h
    obtain ⟨v_15, h3⟩ : ∃ v, σ 15 = v := ⟨_, rfl⟩
    obtain ⟨x_16, h4, h⟩ := kI_ok h
    obtain ⟨x_17, h5, h⟩ := kI_ok h
    obtain ⟨N, h⟩ := h
    refine ⟨⟨b_0, o_0, x_1, x_2, v_15, x_16, x_17, h0, h1, h2, h3, h4, h5⟩, N, ?_⟩
    have ev : [0, 1, 2, 15, 16, 17].map σ = [(.ptr b_0 o_0), (.flat (.int .u32 x_1)), (.flat (.int .i64 x_2)), v_15, (.flat (.int .i64 x_16)), (.flat (.int .i64 x_17))] := by simp only [List.map_cons, List.map_nil, h0, h1, h2, h3, h4, h5]
    rw [ev, loop8_2]
    simp only [h3] at h
    exact h
  · rintro ⟨⟨b_0, o_0, x_1, x_2, v_15, x_16, x_17, h0, h1, h2, h3, h4, h5⟩, N, h⟩
    have ev : [0, 1, 2, 15, 16, 17].map σ = [(.ptr b_0 o_0), (.flat (.int .u32 x_1)), (.flat (.int .i64 x_2)), v_15, (.flat (.int .i64 x_16)), (.flat (.int .i64 x_17))] := by simp only [List.map_cons, List.map_nil, h0, h1, h2, h3, h4, h5]
    rw [ev, loop8_2] at h
    unfold Lam8_2
    simp only [h0, h1, h2, h3, h4, h5, kI, kbool, kS, kptr, kaggN, kite, decide_true, eq_self]
    exact ⟨N, h⟩

theorem eqn8 (b_0 o_0 : Nat) (x_1 : Int) (x_2 : Int) (m : Mem) (k : KV) : bodyK Try.prog E8 Lam8 Try.f8 true [(.ptr b_0 o_0), (.flat (.int .u32 x_1)), (.flat (.int .i64 x_2))] m k = F8 b_0 o_0 x_1 x_2 m (fun x_1000 m' => k (.flat (.bool x_1000)) m') := by
  kernel_rfl

theorem fs8 (w0 : World) : FS Try.prog w0 8 G8 := by
  refine (fs_body (Γ := E8) (sound_env (l := [(10, G10), (16, G16), (17, G17), (18, G18)]) w0 (by
    intro p hp
    simp only [List.mem_cons, List.not_mem_nil, or_false] at hp
    rcases hp with rfl | rfl | rfl | rfl
    · exact fs10 w0
    · exact fs16 w0
    · exact fs17 w0
    · exact fs18 w0)) (by kernel_rfl) Try.func8 (Λ := Lam8) (c := (bodyOf Try.f8)) (by kernel_rfl) Try.call8 (by kernel_rfl) (LS_of (bodyOf Try.f8) 1 (by kernel_rfl) (by
    intro i hi
    match i, hi with
    | 0, _ => exact lok8_2
    | i + 1, hi => omega) 0 (by kernel_rfl) (fun i hi => absurd hi (Nat.not_lt_zero i))) true (np := 3) (Nat.le_of_ble_eq_true (by kernel_rfl))).imp fun args => ?_
  by_cases hl : args.length = 3
  rotate_left
  · exact .inr fun m k hk => by
      unfold G8 at hk
      split at hk
      · exact hl rfl
      · exact hk
  obtain ⟨a0, a1, a2, rfl⟩ : ∃ a0 a1 a2, args = [a0, a1, a2] := len_list3 hl
  rcases kptr_or a0 with ⟨b_0, o_0, rfl⟩ | h
  rotate_left
  · exact .inr fun m k hk => h _ (by simpa only [G8, kI, kbool, kS, kptr, kaggN, kite, decide_true, eq_self] using hk)
  rcases kI_or .u32 a1 with ⟨x_1, rfl⟩ | h
  rotate_left
  · exact .inr fun m k hk => h _ (by simpa only [G8, kI, kbool, kS, kptr, kaggN, kite, decide_true, eq_self] using hk)
  rcases kI_or .i64 a2 with ⟨x_2, rfl⟩ | h
  rotate_left
  · exact .inr fun m k hk => h _ (by simpa only [G8, kI, kbool, kS, kptr, kaggN, kite, decide_true, eq_self] using hk)
  exact .inl fun m k => propext ⟨fun h => ⟨rfl, by rw [eqn8]; simpa only [G8, kI, kbool, kS, kptr, kaggN, kite, decide_true, eq_self] using h⟩, fun h => by have h := h.2; rw [eqn8] at h; simpa only [G8, kI, kbool, kS, kptr, kaggN, kite, decide_true, eq_self] using h⟩

/-- pianola/cp0.Fresh -/
def F12  (m : Mem) (k : (Nat → AV) → Mem → Prop) : Prop :=
  newK m ⟨73, Z73, 33, false⟩ fun b2 m1 => newK m1 ⟨73, Z73, 33, false⟩ fun b4 m3 => stG 73 m3 b4 0 (upd (upd (Z73) 34 (.flat (.int .u32 2147484672))) 35 (.flat (.int .u32 2147484676))) fun m5 => stC m5 b4 54 (.flat (.int .u32 98304)) fun m6 => ldG 73 m6 b4 0 fun c7 => stG 73 m6 b2 0 c7 fun m8 => ldG 73 m8 b2 0 fun c9 => (Keeps m m8 ∧ InDomG 73 m c9 ∧ k c9 m)

def G12 (args : List AV) (m : Mem) (k : KV) : Prop := match args with
  | [] => F12  m (fun c_1000 m' => k (.agg 73 c_1000) m')
  | _ => False

def E12 : Env := envOf []

def Lam12 : LEnv := ⟨fun a σ m k => match firstReg a with
  | _ => bump False,
  fun id => match id with
  | _ => bump false,
  fun b => match keyC b with
  | _ => bump false,
  fun b σ m k => match keyC b with
  | _ => bump False⟩

theorem eqn12  (m : Mem) (k : KV) : bodyK Try.prog E12 Lam12 Try.f12 true [] m k = F12  m (fun c_1000 m' => k (.agg 73 c_1000) m') := by
  kernel_rfl

theorem fs12 (w0 : World) : FS Try.prog w0 12 G12 := by
  refine (fs_body (Γ := E12) (sound_env (l := []) w0 (by
    intro p hp
    cases hp)) (by kernel_rfl) Try.func12 (Λ := Lam12) (c := (bodyOf Try.f12)) (by kernel_rfl) Try.call12 (by kernel_rfl) (LS_of (bodyOf Try.f12) 0 (by kernel_rfl) (fun i hi => absurd hi (Nat.not_lt_zero i)) 0 (by kernel_rfl) (fun i hi => absurd hi (Nat.not_lt_zero i))) true (np := 0) (Nat.le_of_ble_eq_true (by kernel_rfl))).imp fun args => ?_
  by_cases hl : args.length = 0
  rotate_left
  · exact .inr fun m k hk => by
      unfold G12 at hk
      split at hk
      · exact hl rfl
      · exact hk
  obtain rfl : args = [] := len_list0 hl

  exact .inl fun m k => propext ⟨fun h => ⟨rfl, by rw [eqn12]; simpa only [G12, kI, kbool, kS, kptr, kaggN, kite, decide_true, eq_self] using h⟩, fun h => by have h := h.2; rw [eqn12] at h; simpa only [G12, kI, kbool, kS, kptr, kaggN, kite, decide_true, eq_self] using h⟩

/-- pianola/pianolalaw8.known -/
def F9  (m : Mem) (k : Bool → Mem → Prop) : Prop :=
  F12  m fun c1 m2 => newK m2 ⟨73, Z73, 33, false⟩ fun b4 m3 => stG 73 m3 b4 0 c1 fun m5 => F10 b4 0 2147484672 4 false m5 fun x6 x7 x8 m9 => F10 b4 0 2 4 true m9 fun x10 x11 x12 m13 => kif (x6 == 1024) (kif (x7 == (-1)) (kif (x11 == 5) (F17 b4 0 m13 fun x14 m15 => (Keeps m m15 ∧ k (x14 == 0) m)) ((Keeps m m13 ∧ k false m))) ((Keeps m m13 ∧ k false m))) ((Keeps m m13 ∧ k false m))

def G9 (args : List AV) (m : Mem) (k : KV) : Prop := match args with
  | [] => F9  m (fun x_1000 m' => k (.flat (.bool x_1000)) m')
  | _ => False

def E9 : Env := envOf [(10, G10), (12, G12), (17, G17)]

def Lam9 : LEnv := ⟨fun a σ m k => match firstReg a with
  | _ => bump False,
  fun id => match id with
  | _ => bump false,
  fun b => match keyC b with
  | _ => bump false,
  fun b σ m k => match keyC b with
  | _ => bump False⟩

theorem eqn9  (m : Mem) (k : KV) : bodyK Try.prog E9 Lam9 Try.f9 true [] m k = F9  m (fun x_1000 m' => k (.flat (.bool x_1000)) m') := by
  kernel_rfl

theorem fs9 (w0 : World) : FS Try.prog w0 9 G9 := by
  refine (fs_body (Γ := E9) (sound_env (l := [(10, G10), (12, G12), (17, G17)]) w0 (by
    intro p hp
    simp only [List.mem_cons, List.not_mem_nil, or_false] at hp
    rcases hp with rfl | rfl | rfl
    · exact fs10 w0
    · exact fs12 w0
    · exact fs17 w0)) (by kernel_rfl) Try.func9 (Λ := Lam9) (c := (bodyOf Try.f9)) (by kernel_rfl) Try.call9 (by kernel_rfl) (LS_of (bodyOf Try.f9) 0 (by kernel_rfl) (fun i hi => absurd hi (Nat.not_lt_zero i)) 0 (by kernel_rfl) (fun i hi => absurd hi (Nat.not_lt_zero i))) true (np := 0) (Nat.le_of_ble_eq_true (by kernel_rfl))).imp fun args => ?_
  by_cases hl : args.length = 0
  rotate_left
  · exact .inr fun m k hk => by
      unfold G9 at hk
      split at hk
      · exact hl rfl
      · exact hk
  obtain rfl : args = [] := len_list0 hl

  exact .inl fun m k => propext ⟨fun h => ⟨rfl, by rw [eqn9]; simpa only [G9, kI, kbool, kS, kptr, kaggN, kite, decide_true, eq_self] using h⟩, fun h => by have h := h.2; rw [eqn9] at h; simpa only [G9, kI, kbool, kS, kptr, kaggN, kite, decide_true, eq_self] using h⟩

def R3_4 (v_1 : AV) (x_2 : Int) (b_3 o_3 : Nat) (b_7 o_7 : Nat) (b_8 o_8 : Nat) (x_9 : Int) (m : Mem) (kn : Int → Mem → Prop) (k0 : Mem → Prop) (kr : Bool → Mem → Prop) : Prop :=
  klen v_1 fun x13 => kif (decide (x_9 < x13)) (kif (decide (x_9 < 20)) (ksl v_1 fun b14 o15 l16 p17 => kif (decide (0 ≤ x_9) && decide (x_9 < l16)) (ldI .u32 m b14 (o15 + (x_9).toNat * 1) fun x18 => F8 b_7 o_7 x18 x_2 m fun x19 m20 => kif (!x19) (kr false m20) (ksl v_1 fun b21 o22 l23 p24 => kif (decide (0 ≤ x_9) && decide (x_9 < l23)) (ldI .u32 m20 b21 (o22 + (x_9).toNat * 1) fun x25 => F8 b_7 o_7 (bits .andNot .u32 x25 3) 4 m20 fun x26 m27 => kif (!x26) (kr false m27) (ksl v_1 fun b28 o29 l30 p31 => kif (decide (0 ≤ x_9) && decide (x_9 < l30)) (ldI .u32 m27 b28 (o29 + (x_9).toNat * 1) fun x32 => F8 b_7 o_7 (x32.tmod 16384) 1 m27 fun x33 m34 => kif (!x33) (kr false m34) (ldA m34 b_3 (o_3 + 8) fun v35 => klen v35 fun x36 => kif (decide (x36 > 0)) (ldA m34 b_3 (o_3 + 8) fun v37 => ldA m34 b_3 (o_3 + 8) fun v38 => klen v38 fun x39 => kif (decide (x39 = 0)) False (ksl v37 fun b40 o41 l42 p43 => kif (decide (0 ≤ x_9.tmod x39) && decide (x_9.tmod x39 < l42)) (ldI .u32 m34 b40 (o41 + (x_9.tmod x39).toNat * 2 + 0) fun x44 => ksl v_1 fun b45 o46 l47 p48 => kif (decide (0 ≤ x_9) && decide (x_9 < l47)) (ldI .u32 m34 b45 (o46 + (x_9).toNat * 1) fun x49 => F8 b_7 o_7 (bits .or .u32 x44 (bits .and .u32 x49 1020)) 4 m34 fun x50 m51 => kif (!x50) (kr false m51) (kn (IntKind.wrap .i64 (x_9 + 1)) m51)) False) False)) (kn (IntKind.wrap .i64 (x_9 + 1)) m34))) False)) False)) False) (k0  m)) (k0  m)

def L3_4 (v_1 : AV) (x_2 : Int) (b_3 o_3 : Nat) (b_7 o_7 : Nat) (b_8 o_8 : Nat) : Nat → Int → Mem → (Mem → Prop) → (Bool → Mem → Prop) → Prop
  | 0, _,  _, _, _ => bump False
  | N + 1, x_9,  m, k0, kr => R3_4 v_1 x_2 b_3 o_3 b_7 o_7 b_8 o_8 x_9 m (fun x_9' m' => L3_4 v_1 x_2 b_3 o_3 b_7 o_7 b_8 o_8 N x_9' m' k0 kr) k0 kr

/-- pianola/pianolalaw8.SegTells -/
def F3 (c_0 : Nat → AV) (v_1 : AV) (x_2 : Int) (m : Mem) (k : Bool → Mem → Prop) : Prop :=
  newK m ⟨11, c_0, 26, false⟩ fun b2 m1 => ldG 11 m1 b2 0 fun c3 => F7 c3 0 m1 fun c4 m5 => newK m5 ⟨73, Z73, 33, false⟩ fun b7 m6 => stG 73 m6 b7 0 c4 fun m8 => ldG 73 m8 b7 0 fun c9 => newK m8 ⟨73, Z73, 33, false⟩ fun b11 m10 => stG 73 m10 b11 0 c9 fun m12 => ∃ N55, L3_4 v_1 x_2 b2 0 b7 0 b11 0 N55 0 m12 (fun m52 => ldG 73 m52 b7 0 fun c56 => ldG 73 m52 b11 0 fun c57 => geq K33 c56 c57 fun x58 => kif x58 (F9  m52 fun x59 m60 => k x59 m60) (k false m52)) (fun x53 m54 => k x53 m54)

def G3 (args : List AV) (m : Mem) (k : KV) : Prop := match args with
  | [a0, a1, a2] => kaggN 11 a0 fun c_0 => kI .i64 a2 fun x_2 => F3 c_0 a1 x_2 m (fun x_1000 m' => k (.flat (.bool x_1000)) m')
  | _ => False

def E3 : Env := envOf [(7, G7), (8, G8), (9, G9)]

def Lam3_4 (σ : Nat → AV) (m : Mem) (k : KX) : Prop := kI .i64 (σ 2) fun x_2 => kptr (σ 3) fun b_3 o_3 => kptr (σ 7) fun b_7 o_7 => kptr (σ 8) fun b_8 o_8 => kI .i64 (σ 9) fun x_9 => ∃ N, L3_4 (σ 1) x_2 b_3 o_3 b_7 o_7 b_8 o_8 N x_9 m (fun m' => k (.exit 0) (only [7, 8] [(.ptr b_7 o_7), (.ptr b_8 o_8)]) m') (fun x_6' m' => k .ret (only [6] [(.flat (.bool x_6'))]) m')

def Lam3 : LEnv := ⟨fun a σ m k => match firstReg a with
  | some 4 => Lam3_4 σ m k
  | _ => bump False,
  fun id => match id with
  | _ => bump false,
  fun b => match keyC b with
  | _ => bump false,
  fun b σ m k => match keyC b with
  | _ => bump False⟩

def lx3_4 : Ex → List Nat := fun e => match e with
  | .exit 0 => [7, 8]
  | .ret => [6]
  | _ => []

theorem round3_4 (v_1 : AV) (x_2 : Int) (b_3 o_3 : Nat) (b_7 o_7 : Nat) (b_8 o_8 : Nat) (x_9 : Int) (m : Mem) (G : List AV → Mem → Prop) (k : KX) : (wpA Try.prog E3 Lam3 ((loopsOf (bodyOf Try.f3)).getD 0 .skip) (only [1, 2, 3, 7, 8, 9] [v_1, (.flat (.int .i64 x_2)), (.ptr b_3 o_3), (.ptr b_7 o_7), (.ptr b_8 o_8), (.flat (.int .i64 x_9))]) m fun e σ' m' => match e with
    | .normal => G ([1, 2, 3, 7, 8, 9].map σ') m'
    | .exit id => k (.exit id) (only (lx3_4 (.exit id)) ((lx3_4 (.exit id)).map σ')) m'
    | .ret => k .ret (only (lx3_4 .ret) ((lx3_4 .ret).map σ')) m') = R3_4 v_1 x_2 b_3 o_3 b_7 o_7 b_8 o_8 x_9 m (fun x_9' m' => G [v_1, (.flat (.int .i64 x_2)), (.ptr b_3 o_3), (.ptr b_7 o_7), (.ptr b_8 o_8), (.flat (.int .i64 x_9'))] m') (fun m' => k (.exit 0) (only [7, 8] [(.ptr b_7 o_7), (.ptr b_8 o_8)]) m') (fun x_6' m' => k .ret (only [6] [(.flat (.bool x_6'))]) m') := by
  kernel_rfl

theorem loop3_4 (v_1 : AV) (x_2 : Int) (b_3 o_3 : Nat) (b_7 o_7 : Nat) (b_8 o_8 : Nat) (k : KX) : ∀ (N : Nat) (x_9 : Int) (m : Mem), rounds Try.prog E3 Lam3 [1, 2, 3, 7, 8, 9] lx3_4 ((loopsOf (bodyOf Try.f3)).getD 0 .skip) N [v_1, (.flat (.int .i64 x_2)), (.ptr b_3 o_3), (.ptr b_7 o_7), (.ptr b_8 o_8), (.flat (.int .i64 x_9))] m k = L3_4 v_1 x_2 b_3 o_3 b_7 o_7 b_8 o_8 N x_9 m (fun m' => k (.exit 0) (only [7, 8] [(.ptr b_7 o_7), (.ptr b_8 o_8)]) m') (fun x_6' m' => k .ret (only [6] [(.flat (.bool x_6'))]) m') := by
  intro N
  induction N with
  | zero => intros; rfl
  | succ N ih =>
    intro x_9 m
    refine (round3_4 v_1 x_2 b_3 o_3 b_7 o_7 b_8 o_8 x_9 m (fun vs m' => rounds Try.prog E3 Lam3 [1, 2, 3, 7, 8, 9] lx3_4 ((loopsOf (bodyOf Try.f3)).getD 0 .skip) N vs m' k) k).trans ?_
    simp only [ih]
    rfl

theorem lok3_4 : LoopOK Try.prog E3 Lam3 ((loopsOf (bodyOf Try.f3)).getD 0 .skip) := by
  refine ⟨fun σ => ∃ v_1 x_2 b_3 o_3 b_7 o_7 b_8 o_8 x_9, σ 1 = v_1 ∧ σ 2 = .flat (.int .i64 x_2) ∧ σ 3 = .ptr b_3 o_3 ∧ σ 7 = .ptr b_7 o_7 ∧ σ 8 = .ptr b_8 o_8 ∧ σ 9 = .flat (.int .i64 x_9), [1, 2, 3, 7, 8, 9], lx3_4, fun σ m k => ?_⟩
  have e : Lam3.loop ((loopsOf (bodyOf Try.f3)).getD 0 .skip) σ m k = Lam3_4 σ m k := by kernel_rfl
  rw [e]
  constructor
  · intro h
    unfold Lam3_4 at h
    obtain ⟨v_1, h0⟩ : ∃ v, σ 1 = v := ⟨_, rfl⟩
    obtain ⟨x_2, h1, h⟩ := kI_ok h
    obtain ⟨b_3, o_3, h2, h⟩ := kptr_ok h
    obtain ⟨b_7, o_7, h3, h⟩ := kptr_ok h
    obtain ⟨b_8, o_8, h4, h⟩ := kptr_ok h
    obtain ⟨x_9, h5, h⟩ := kI_ok h
    obtain ⟨N, h⟩ := h
    refine ⟨⟨v_1, x_2, b_3, o_3, b_7, o_7, b_8, o_8, x_9, h0, h1, h2, h3, h4, h5⟩, N, ?_⟩
    have ev : [1, 2, 3, 7, 8, 9].map σ = [v_1, (.flat (.int .i64 x_2)), (.ptr b_3 o_3), (.ptr b_7 o_7), (.ptr b_8 o_8), (.flat (.int .i64 x_9))] := by simp only [List.map_cons, List.map_nil, h0, h1, h2, h3, h4, h5]
    rw [ev, loop3_4]
    simp only [h0] at h
    exact h
  · rintro ⟨⟨v_1, x_2, b_3, o_3, b_7, o_7, b_8, o_8, x_9, h0, h1, h2, h3, h4, h5⟩, N, h⟩
    have ev : [1, 2, 3, 7, 8, 9].map σ = [v_1, (.flat (.int .i64 x_2)), (.ptr b_3 o_3), (.ptr b_7 o_7), (.ptr b_8 o_8), (.flat (.int .i64 x_9))] := by simp only [List.map_cons, List.map_nil, h0, h1, h2, h3, h4, h5]
    rw [ev, loop3_4] at h
    unfold Lam3_4
    simp only [h0, h1, h2, h3, h4, h5, kI, kbool, kS, kptr, kaggN, kite, decide_true, eq_self]
    exact ⟨N, h⟩

theorem eqn3 (c_0 : Nat → AV) (v_1 : AV) (x_2 : Int) (m : Mem) (k : KV) : bodyK Try.prog E3 Lam3 Try.f3 false [(.agg 11 c_0), v_1, (.flat (.int .i64 x_2))] m k = F3 c_0 v_1 x_2 m (fun x_1000 m' => k (.flat (.bool x_1000)) m') := by
  kernel_rfl

theorem fs3 (w0 : World) : FS Try.prog w0 3 G3 := by
  refine (fs_body (Γ := E3) (sound_env (l := [(7, G7), (8, G8), (9, G9)]) w0 (by
    intro p hp
    simp only [List.mem_cons, List.not_mem_nil, or_false] at hp
    rcases hp with rfl | rfl | rfl
    · exact fs7 w0
    · exact fs8 w0
    · exact fs9 w0)) (by kernel_rfl) Try.func3 (Λ := Lam3) (c := (bodyOf Try.f3)) (by kernel_rfl) Try.call3 (by kernel_rfl) (LS_of (bodyOf Try.f3) 1 (by kernel_rfl) (by
    intro i hi
    match i, hi with
    | 0, _ => exact lok3_4
    | i + 1, hi => omega) 0 (by kernel_rfl) (fun i hi => absurd hi (Nat.not_lt_zero i))) false (np := 3) (Nat.le_of_ble_eq_true (by kernel_rfl))).imp fun args => ?_
  by_cases hl : args.length = 3
  rotate_left
  · exact .inr fun m k hk => by
      unfold G3 at hk
      split at hk
      · exact hl rfl
      · exact hk
  obtain ⟨a0, a1, a2, rfl⟩ : ∃ a0 a1 a2, args = [a0, a1, a2] := len_list3 hl
  rcases kaggN_or 11 a0 with ⟨c_0, rfl⟩ | h
  rotate_left
  · exact .inr fun m k hk => h _ (by simpa only [G3, kI, kbool, kS, kptr, kaggN, kite, decide_true, eq_self] using hk)
  rcases kI_or .i64 a2 with ⟨x_2, rfl⟩ | h
  rotate_left
  · exact .inr fun m k hk => h _ (by simpa only [G3, kI, kbool, kS, kptr, kaggN, kite, decide_true, eq_self] using hk)
  exact .inl fun m k => propext ⟨fun h => ⟨rfl, by rw [eqn3]; simpa only [G3, kI, kbool, kS, kptr, kaggN, kite, decide_true, eq_self] using h⟩, fun h => by have h := h.2; rw [eqn3] at h; simpa only [G3, kI, kbool, kS, kptr, kaggN, kite, decide_true, eq_self] using h⟩

/-- pianola/pianolalaw8.SegDirect -/
def F4 (c_0 : Nat → AV) (x_1 : Int) (m : Mem) (k : Bool → Mem → Prop) : Prop :=
  newK m ⟨11, c_0, 26, false⟩ fun b2 m1 => ldG 11 m1 b2 0 fun c3 => F7 c3 0 m1 fun c4 m5 => newK m5 ⟨73, Z73, 33, false⟩ fun b7 m6 => stG 73 m6 b7 0 c4 fun m8 => F10 b7 0 (IntKind.wrap .u32 (2147483648 + (bits .and .u32 x_1 536870908))) 4 true m8 fun x9 x10 x11 m12 => F10 b7 0 (IntKind.wrap .u32 (2684354560 + (bits .and .u32 x_1 536870908))) 4 false m12 fun x13 x14 x15 m16 => F11 b7 0 m16 fun x17 m18 => kif x17 (kif (x9 == 0) (kif (x10 == 5) (kif (x13 == 0) (kif (x14 == 4) (F9  m18 fun x19 m20 => k x19 m20) (k false m18)) (k false m18)) (k false m18)) (k false m18)) (kif (x9 == (bits .and .u32 x_1 536870908)) (kif (x10 == (-1)) (kif (x13 == (bits .and .u32 x_1 536870908)) (kif (x14 == (-1)) (F9  m18 fun x21 m22 => k x21 m22) (k false m18)) (k false m18)) (k false m18)) (k false m18))

def G4 (args : List AV) (m : Mem) (k : KV) : Prop := match args with
  | [a0, a1] => kaggN 11 a0 fun c_0 => kI .u32 a1 fun x_1 => F4 c_0 x_1 m (fun x_1000 m' => k (.flat (.bool x_1000)) m')
  | _ => False

def E4 : Env := envOf [(7, G7), (9, G9), (10, G10), (11, G11)]

def Lam4 : LEnv := ⟨fun a σ m k => match firstReg a with
  | _ => bump False,
  fun id => match id with
  | _ => bump false,
  fun b => match keyC b with
  | _ => bump false,
  fun b σ m k => match keyC b with
  | _ => bump False⟩

theorem eqn4 (c_0 : Nat → AV) (x_1 : Int) (m : Mem) (k : KV) : bodyK Try.prog E4 Lam4 Try.f4 false [(.agg 11 c_0), (.flat (.int .u32 x_1))] m k = F4 c_0 x_1 m (fun x_1000 m' => k (.flat (.bool x_1000)) m') := by
  kernel_rfl

theorem fs4 (w0 : World) : FS Try.prog w0 4 G4 := by
  refine (fs_body (Γ := E4) (sound_env (l := [(7, G7), (9, G9), (10, G10), (11, G11)]) w0 (by
    intro p hp
    simp only [List.mem_cons, List.not_mem_nil, or_false] at hp
    rcases hp with rfl | rfl | rfl | rfl
    · exact fs7 w0
    · exact fs9 w0
    · exact fs10 w0
    · exact fs11 w0)) (by kernel_rfl) Try.func4 (Λ := Lam4) (c := (bodyOf Try.f4)) (by kernel_rfl) Try.call4 (by kernel_rfl) (LS_of (bodyOf Try.f4) 0 (by kernel_rfl) (fun i hi => absurd hi (Nat.not_lt_zero i)) 0 (by kernel_rfl) (fun i hi => absurd hi (Nat.not_lt_zero i))) false (np := 2) (Nat.le_of_ble_eq_true (by kernel_rfl))).imp fun args => ?_
  by_cases hl : args.length = 2
  rotate_left
  · exact .inr fun m k hk => by
      unfold G4 at hk
      split at hk
      · exact hl rfl
      · exact hk
  obtain ⟨a0, a1, rfl⟩ : ∃ a0 a1, args = [a0, a1] := len_list2 hl
  rcases kaggN_or 11 a0 with ⟨c_0, rfl⟩ | h
  rotate_left
  · exact .inr fun m k hk => h _ (by simpa only [G4, kI, kbool, kS, kptr, kaggN, kite, decide_true, eq_self] using hk)
  rcases kI_or .u32 a1 with ⟨x_1, rfl⟩ | h
  rotate_left
  · exact .inr fun m k hk => h _ (by simpa only [G4, kI, kbool, kS, kptr, kaggN, kite, decide_true, eq_self] using hk)
  exact .inl fun m k => propext ⟨fun h => ⟨rfl, by rw [eqn4]; simpa only [G4, kI, kbool, kS, kptr, kaggN, kite, decide_true, eq_self] using h⟩, fun h => by have h := h.2; rw [eqn4] at h; simpa only [G4, kI, kbool, kS, kptr, kaggN, kite, decide_true, eq_self] using h⟩

/-- pianola/pianolalaw8.SegAligned -/
def F5 (c_0 : Nat → AV) (x_1 : Int) (x_2 : Int) (m : Mem) (k : Bool → Mem → Prop) : Prop :=
  newK m ⟨11, c_0, 26, false⟩ fun b2 m1 => ldG 11 m1 b2 0 fun c3 => F7 c3 0 m1 fun c4 m5 => newK m5 ⟨73, Z73, 33, false⟩ fun b7 m6 => stG 73 m6 b7 0 c4 fun m8 => newK m8 ⟨3, upd (upd (upd (lget [(.flat (.int .i64 0)), (.flat (.int .i64 0)), (.flat (.int .i64 0))]) 0 (.flat (.int .i64 1))) 1 (.flat (.int .i64 2))) 2 (.flat (.int .i64 4)), 3, false⟩ fun b10 m9 => kif (decide (0 ≤ (IntKind.wrap .i64 ((x_2.tmod 3) + 3)).tmod 3) && decide ((IntKind.wrap .i64 ((x_2.tmod 3) + 3)).tmod 3 < 3)) (ldI .i64 m9 b10 (0 + ((IntKind.wrap .i64 ((x_2.tmod 3) + 3)).tmod 3).toNat * 1) fun x11 => F10 b7 0 x_1 x11 true m9 fun x12 x13 x14 m15 => kif (decide (IntKind.wrap .u32 x11 = 0)) False (kif ((x_1.tmod (IntKind.wrap .u32 x11)) != 0) (kif (x13 == 5) (kif (!x14) (F9  m15 fun x16 m17 => k x16 m17) (k false m15)) (k false m15)) (F10 b7 0 (bits .andNot .u32 x_1 3) 4 false m15 fun x18 x19 x20 m21 => F10 b7 0 (bits .andNot .u32 x_1 1023) 4 false m21 fun x22 x23 x24 m25 => kif (x19 == x23) (kif (decide (x19 ≥ 0)) (kif (x18 == 0) (kif (x22 == 0) (F9  m25 fun x26 m27 => k x26 m27) (kif (decide (x19 < 0)) (kif ((IntKind.wrap .u32 (x18 - x22)) == (bits .and .u32 x_1 1020)) (F9  m25 fun x28 m29 => k x28 m29) (k false m25)) (k false m25))) (kif (decide (x19 < 0)) (kif ((IntKind.wrap .u32 (x18 - x22)) == (bits .and .u32 x_1 1020)) (F9  m25 fun x30 m31 => k x30 m31) (k false m25)) (k false m25))) (kif (decide (x19 < 0)) (kif ((IntKind.wrap .u32 (x18 - x22)) == (bits .and .u32 x_1 1020)) (F9  m25 fun x32 m33 => k x32 m33) (k false m25)) (k false m25))) (k false m25)))) False

def G5 (args : List AV) (m : Mem) (k : KV) : Prop := match args with
  | [a0, a1, a2] => kaggN 11 a0 fun c_0 => kI .u32 a1 fun x_1 => kI .i64 a2 fun x_2 => F5 c_0 x_1 x_2 m (fun x_1000 m' => k (.flat (.bool x_1000)) m')
  | _ => False

def E5 : Env := envOf [(7, G7), (9, G9), (10, G10)]

def Lam5 : LEnv := ⟨fun a σ m k => match firstReg a with
  | _ => bump False,
  fun id => match id with
  | _ => bump false,
  fun b => match keyC b with
  | _ => bump false,
  fun b σ m k => match keyC b with
  | _ => bump False⟩

theorem eqn5 (c_0 : Nat → AV) (x_1 : Int) (x_2 : Int) (m : Mem) (k : KV) : bodyK Try.prog E5 Lam5 Try.f5 false [(.agg 11 c_0), (.flat (.int .u32 x_1)), (.flat (.int .i64 x_2))] m k = F5 c_0 x_1 x_2 m (fun x_1000 m' => k (.flat (.bool x_1000)) m') := by
  kernel_rfl

theorem fs5 (w0 : World) : FS Try.prog w0 5 G5 := by
  refine (fs_body (Γ := E5) (sound_env (l := [(7, G7), (9, G9), (10, G10)]) w0 (by
    intro p hp
    simp only [List.mem_cons, List.not_mem_nil, or_false] at hp
    rcases hp with rfl | rfl | rfl
    · exact fs7 w0
    · exact fs9 w0
    · exact fs10 w0)) (by kernel_rfl) Try.func5 (Λ := Lam5) (c := (bodyOf Try.f5)) (by kernel_rfl) Try.call5 (by kernel_rfl) (LS_of (bodyOf Try.f5) 0 (by kernel_rfl) (fun i hi => absurd hi (Nat.not_lt_zero i)) 0 (by kernel_rfl) (fun i hi => absurd hi (Nat.not_lt_zero i))) false (np := 3) (Nat.le_of_ble_eq_true (by kernel_rfl))).imp fun args => ?_
  by_cases hl : args.length = 3
  rotate_left
  · exact .inr fun m k hk => by
      unfold G5 at hk
      split at hk
      · exact hl rfl
      · exact hk
  obtain ⟨a0, a1, a2, rfl⟩ : ∃ a0 a1 a2, args = [a0, a1, a2] := len_list3 hl
  rcases kaggN_or 11 a0 with ⟨c_0, rfl⟩ | h
  rotate_left
  · exact .inr fun m k hk => h _ (by simpa only [G5, kI, kbool, kS, kptr, kaggN, kite, decide_true, eq_self] using hk)
  rcases kI_or .u32 a1 with ⟨x_1, rfl⟩ | h
  rotate_left
  · exact .inr fun m k hk => h _ (by simpa only [G5, kI, kbool, kS, kptr, kaggN, kite, decide_true, eq_self] using hk)
  rcases kI_or .i64 a2 with ⟨x_2, rfl⟩ | h
  rotate_left
  · exact .inr fun m k hk => h _ (by simpa only [G5, kI, kbool, kS, kptr, kaggN, kite, decide_true, eq_self] using hk)
  exact .inl fun m k => propext ⟨fun h => ⟨rfl, by rw [eqn5]; simpa only [G5, kI, kbool, kS, kptr, kaggN, kite, decide_true, eq_self] using h⟩, fun h => by have h := h.2; rw [eqn5] at h; simpa only [G5, kI, kbool, kS, kptr, kaggN, kite, decide_true, eq_self] using h⟩

def P13_10004 (b_0 o_0 : Nat) (x_1 : Int) (x_2 : Int) (x_8 : Int) (x_36 : Bool) (m : Mem) (kn : Mem → Prop) : Prop :=
  kif x_36 (kif (decide (0 ≤ x_1) && decide (x_1 < 16)) (stC m b_0 (o_0 + 39 + (x_1).toNat * 1) (.flat (.int .u32 x_2)) fun m4 => kn  m4) False) (kif (x_8 == 11) (kif (decide (0 ≤ x_1) && decide (x_1 < 16)) (stC m b_0 (o_0 + 39 + (x_1).toNat * 1) (.flat (.int .u32 x_2)) fun m5 => ldI .u32 m5 b_0 (o_0 + 39 + 13) fun x6 => stC m5 b_0 (o_0 + 39 + 13) (.flat (.int .u32 (bits .andNot .u32 x6 32768))) fun m7 => kn  m7) False) (kif (x_8 == 12) (kif (decide (0 ≤ x_1) && decide (x_1 < 16)) (stC m b_0 (o_0 + 39 + (x_1).toNat * 1) (.flat (.int .u32 (bits .and .u32 x_2 65299))) fun m8 => kn  m8) False) (kif (x_8 == 13) (kif (decide (0 ≤ x_1) && decide (x_1 < 16)) (ldI .u32 m b_0 (o_0 + 39 + (x_1).toNat * 1) fun x9 => kif (decide (0 ≤ x_1) && decide (x_1 < 16)) (stC m b_0 (o_0 + 39 + (x_1).toNat * 1) (.flat (.int .u32 (bits .or .u32 (bits .andNot .u32 x9 768) (bits .and .u32 x_2 768)))) fun m10 => kn  m10) False) False) (kn  m))))

/-- pianola/cp0.Write -/
def F13 (b_0 o_0 : Nat) (x_1 : Int) (x_2 : Int) (m : Mem) (k : Mem → Prop) : Prop :=
  kif (x_1 == 0) (kif (decide (0 ≤ x_1) && decide (x_1 < 16)) (stC m b_0 (o_0 + 39 + (x_1).toNat * 1) (.flat (.int .u32 (bits .and .u32 x_2 7))) fun m1 => k  m1) False) (kif (x_1 == 2) (kif (decide (0 ≤ x_1) && decide (x_1 < 16)) (stC m b_0 (o_0 + 39 + (x_1).toNat * 1) (.flat (.int .u32 (bits .and .u32 x_2 4294966279))) fun m2 => k  m2) False) (kif (x_1 == 10) (kif (decide (0 ≤ x_1) && decide (x_1 < 16)) (stC m b_0 (o_0 + 39 + (x_1).toNat * 1) (.flat (.int .u32 (bits .and .u32 x_2 4294966527))) fun m3 => k  m3) False) (kif (x_1 == 9) (P13_10004 b_0 o_0 x_1 x_2 x_1 (x_1 == 9) m (fun m11 => k  m11)) (P13_10004 b_0 o_0 x_1 x_2 x_1 (x_1 == 14) m (fun m12 => k  m12)))))

def G13 (args : List AV) (m : Mem) (k : KV) : Prop := match args with
  | [a0, a1, a2] => kptr a0 fun b_0 o_0 => kI .i64 a1 fun x_1 => kI .u32 a2 fun x_2 => F13 b_0 o_0 x_1 x_2 m (fun m' => k (.tup []) m')
  | _ => False

def E13 : Env := envOf []

def LamP13_10004 (σ : Nat → AV) (m : Mem) (k : KX) : Prop := kptr (σ 0) fun b_0 o_0 => kI .i64 (σ 1) fun x_1 => kI .u32 (σ 2) fun x_2 => kI .i64 (σ 8) fun x_8 => kbool (σ 36) fun x_36 => P13_10004 b_0 o_0 x_1 x_2 x_8 x_36 m (fun m' => k .normal (only [] []) m')

def Lam13 : LEnv := ⟨fun a σ m k => match firstReg a with
  | _ => bump False,
  fun id => match id with
  | _ => bump false,
  fun b => match keyC b with
  | some 10004 => true
  | _ => bump false,
  fun b σ m k => match keyC b with
  | some 10004 => LamP13_10004 σ m k
  | _ => bump False⟩

def lxp13_10004 : Ex → List Nat := fun e => match e with
  | .normal => []
  | _ => []

theorem pc13_10004 (b_0 o_0 : Nat) (x_1 : Int) (x_2 : Int) (x_8 : Int) (x_36 : Bool) (m : Mem) (k : KX) : once Try.prog E13 Lam13 [0, 1, 2, 8, 36] lxp13_10004 (((secsOf (bodyOf Try.f13)).filter Lam13.cut).getD 0 .skip) [(.ptr b_0 o_0), (.flat (.int .i64 x_1)), (.flat (.int .u32 x_2)), (.flat (.int .i64 x_8)), (.flat (.bool x_36))] m k = P13_10004 b_0 o_0 x_1 x_2 x_8 x_36 m (fun m' => k .normal (only [] []) m') := by
  kernel_rfl

theorem pok13_10004 : PieceOK Try.prog E13 Lam13 (((secsOf (bodyOf Try.f13)).filter Lam13.cut).getD 0 .skip) := by
  refine ⟨fun σ => ∃ b_0 o_0 x_1 x_2 x_8 x_36, σ 0 = .ptr b_0 o_0 ∧ σ 1 = .flat (.int .i64 x_1) ∧ σ 2 = .flat (.int .u32 x_2) ∧ σ 8 = .flat (.int .i64 x_8) ∧ σ 36 = .flat (.bool x_36), [0, 1, 2, 8, 36], lxp13_10004, fun σ m k => ?_⟩
  have e : Lam13.piece (((secsOf (bodyOf Try.f13)).filter Lam13.cut).getD 0 .skip) σ m k = LamP13_10004 σ m k := by kernel_rfl
  rw [e]
  constructor
  · intro h
    unfold LamP13_10004 at h
    obtain ⟨b_0, o_0, h0, h⟩ := kptr_ok h
    obtain ⟨x_1, h1, h⟩ := kI_ok h
    obtain ⟨x_2, h2, h⟩ := kI_ok h
    obtain ⟨x_8, h3, h⟩ := kI_ok h
    obtain ⟨x_36, h4, h⟩ := kbool_ok h
    refine ⟨⟨b_0, o_0, x_1, x_2, x_8, x_36, h0, h1, h2, h3, h4⟩, ?_⟩
    have ev : [0, 1, 2, 8, 36].map σ = [(.ptr b_0 o_0), (.flat (.int .i64 x_1)), (.flat (.int .u32 x_2)), (.flat (.int .i64 x_8)), (.flat (.bool x_36))] := by simp only [List.map_cons, List.map_nil, h0, h1, h2, h3, h4]
    rw [ev, pc13_10004]
    exact h
  · rintro ⟨⟨b_0, o_0, x_1, x_2, x_8, x_36, h0, h1, h2, h3, h4⟩, h⟩
    have ev : [0, 1, 2, 8, 36].map σ = [(.ptr b_0 o_0), (.flat (.int .i64 x_1)), (.flat (.int .u32 x_2)), (.flat (.int .i64 x_8)), (.flat (.bool x_36))] := by simp only [List.map_cons, List.map_nil, h0, h1, h2, h3, h4]
    rw [ev, pc13_10004] at h
    unfold LamP13_10004
    simp only [h0, h1, h2, h3, h4, kI, kbool, kS, kptr, kaggN, kite, decide_true, eq_self]
    exact h

theorem eqn13 (b_0 o_0 : Nat) (x_1 : Int) (x_2 : Int) (m : Mem) (k : KV) : bodyK Try.prog E13 Lam13 Try.f13 false [(.ptr b_0 o_0), (.flat (.int .i64 x_1)), (.flat (.int .u32 x_2))] m k = F13 b_0 o_0 x_1 x_2 m (fun m' => k (.tup []) m') := by
  kernel_rfl

theorem fs13 (w0 : World) : FS Try.prog w0 13 G13 := by
  refine (fs_body (Γ := E13) (sound_env (l := []) w0 (by
    intro p hp
    cases hp)) (by kernel_rfl) Try.func13 (Λ := Lam13) (c := (bodyOf Try.f13)) (by kernel_rfl) Try.call13 (by kernel_rfl) (LS_of (bodyOf Try.f13) 0 (by kernel_rfl) (fun i hi => absurd hi (Nat.not_lt_zero i)) 1 (by kernel_rfl) (by
    intro i hi
    match i, hi with
    | 0, _ => exact pok13_10004
    | i + 1, hi => omega)) false (np := 3) (Nat.le_of_ble_eq_true (by kernel_rfl))).imp fun args => ?_
  by_cases hl : args.length = 3
  rotate_left
  · exact .inr fun m k hk => by
      unfold G13 at hk
      split at hk
      · exact hl rfl
      · exact hk
  obtain ⟨a0, a1, a2, rfl⟩ : ∃ a0 a1 a2, args = [a0, a1, a2] := len_list3 hl
  rcases kptr_or a0 with ⟨b_0, o_0, rfl⟩ | h
  rotate_left
  · exact .inr fun m k hk => h _ (by simpa only [G13, kI, kbool, kS, kptr, kaggN, kite, decide_true, eq_self] using hk)
  rcases kI_or .i64 a1 with ⟨x_1, rfl⟩ | h
  rotate_left
  · exact .inr fun m k hk => h _ (by simpa only [G13, kI, kbool, kS, kptr, kaggN, kite, decide_true, eq_self] using hk)
  rcases kI_or .u32 a2 with ⟨x_2, rfl⟩ | h
  rotate_left
  · exact .inr fun m k hk => h _ (by simpa only [G13, kI, kbool, kS, kptr, kaggN, kite, decide_true, eq_self] using hk)
  exact .inl fun m k => propext ⟨fun h => ⟨rfl, by rw [eqn13]; simpa only [G13, kI, kbool, kS, kptr, kaggN, kite, decide_true, eq_self] using h⟩, fun h => by have h := h.2; rw [eqn13] at h; simpa only [G13, kI, kbool, kS, kptr, kaggN, kite, decide_true, eq_self] using h⟩

def R6_15 (b_3 o_3 : Nat) (x_5 : Int) (x_6 : Int) (v_8 : AV) (x_9 : Int) (x_10 : Int) (v_23 : AV) (x_24 : Int) (x_25 : Int) (x_7 : Int) (m : Mem) (kn : Int → Mem → Prop) (k6 : Mem → Prop) (kr : Bool → Mem → Prop) : Prop :=
  kif (decide (x_7 < 6)) (F8 b_3 o_3 (IntKind.wrap .u32 (x_5 + x_6)) x_7 m fun x23 m24 => kif (!x23) (kr false m24) (F8 b_3 o_3 (IntKind.wrap .u32 (x_5 - x_6)) x_7 m24 fun x25 m26 => kif (!x25) (kr false m26) (kn (IntKind.wrap .i64 (x_7 + 1)) m26))) (k6  m)

def L6_15 (b_3 o_3 : Nat) (x_5 : Int) (x_6 : Int) (v_8 : AV) (x_9 : Int) (x_10 : Int) (v_23 : AV) (x_24 : Int) (x_25 : Int) : Nat → Int → Mem → (Mem → Prop) → (Bool → Mem → Prop) → Prop
  | 0, _,  _, _, _ => bump False
  | N + 1, x_7,  m, k6, kr => R6_15 b_3 o_3 x_5 x_6 v_8 x_9 x_10 v_23 x_24 x_25 x_7 m (fun x_7' m' => L6_15 b_3 o_3 x_5 x_6 v_8 x_9 x_10 v_23 x_24 x_25 N x_7' m' k6 kr) k6 kr

def R6_12 (b_3 o_3 : Nat) (x_5 : Int) (v_8 : AV) (x_9 : Int) (x_10 : Int) (v_23 : AV) (x_24 : Int) (x_25 : Int) (x_6 : Int) (m : Mem) (kn : Int → Mem → Prop) (k4 : Mem → Prop) (kr : Bool → Mem → Prop) : Prop :=
  kif (decide (x_6 < 5)) (∃ N30, L6_15 b_3 o_3 x_5 x_6 v_8 x_9 x_10 v_23 x_24 x_25 N30 (-1) m (fun m27 => kn (IntKind.wrap .u32 (x_6 + 1)) m27) (fun x28 m29 => kr x28 m29)) (k4  m)

def L6_12 (b_3 o_3 : Nat) (x_5 : Int) (v_8 : AV) (x_9 : Int) (x_10 : Int) (v_23 : AV) (x_24 : Int) (x_25 : Int) : Nat → Int → Mem → (Mem → Prop) → (Bool → Mem → Prop) → Prop
  | 0, _,  _, _, _ => bump False
  | N + 1, x_6,  m, k4, kr => R6_12 b_3 o_3 x_5 v_8 x_9 x_10 v_23 x_24 x_25 x_6 m (fun x_6' m' => L6_12 b_3 o_3 x_5 v_8 x_9 x_10 v_23 x_24 x_25 N x_6' m' k4 kr) k4 kr

def R6_9 (b_3 o_3 : Nat) (v_8 : AV) (x_9 : Int) (x_10 : Int) (v_23 : AV) (x_24 : Int) (x_25 : Int) (m : Mem) (kn : Int → Mem → Prop) (k2 : Mem → Prop) (kr : Bool → Mem → Prop) : Prop :=
  kif (decide (x_25 < x_24)) (ksl v_23 fun b18 o19 l20 p21 => kif (decide (0 ≤ x_25) && decide (x_25 < l20)) (ldI .u32 m b18 (o19 + (x_25).toNat * 1) fun x22 => ∃ N34, L6_12 b_3 o_3 x22 v_8 x_9 x_10 v_23 x_24 x_25 N34 0 m (fun m31 => kn (IntKind.wrap .i64 (x_25 + 1)) m31) (fun x32 m33 => kr x32 m33)) False) (k2  m)

def L6_9 (b_3 o_3 : Nat) (v_8 : AV) (x_9 : Int) (x_10 : Int) (v_23 : AV) (x_24 : Int) : Nat → Int → Mem → (Mem → Prop) → (Bool → Mem → Prop) → Prop
  | 0, _,  _, _, _ => bump False
  | N + 1, x_25,  m, k2, kr => R6_9 b_3 o_3 v_8 x_9 x_10 v_23 x_24 x_25 m (fun x_25' m' => L6_9 b_3 o_3 v_8 x_9 x_10 v_23 x_24 N x_25' m' k2 kr) k2 kr

def R6_2 (v_8 : AV) (x_9 : Int) (x_10 : Int) (m : Mem) (kn : Int → Mem → Prop) (k0 : Mem → Prop) (kr : Bool → Mem → Prop) : Prop :=
  kif (decide (x_10 < x_9)) (ksl v_8 fun b3 o4 l5 p6 => kif (decide (0 ≤ x_10) && decide (x_10 < l5)) (ldI .u32 m b3 (o4 + (x_10).toNat * 1) fun x7 => F12  m fun c8 m9 => newK m9 ⟨73, Z73, 33, false⟩ fun b11 m10 => stG 73 m10 b11 0 c8 fun m12 => F13 b11 0 12 x7 m12 fun m13 => stG 2 m13 b11 61 (upd (upd (lget [(.flat (.int .u32 0)), (.flat (.int .u32 0))]) 0 (.flat (.int .u32 2147482624))) 1 (.flat (.int .u32 4101))) fun m14 => stG 2 m14 b11 65 (upd (upd (lget [(.flat (.int .u32 0)), (.flat (.int .u32 0))]) 0 (.flat (.int .u32 3221225472))) 1 (.flat (.int .u32 8199))) fun m15 => newK m15 ⟨10, upd (upd (upd (upd (upd (upd (upd (upd (upd (upd (Z10) 0 (.flat (.int .u32 0))) 1 (.flat (.int .u32 2147482624))) 2 (.flat (.int .u32 2147483647))) 3 (.flat (.int .u32 2147483648))) 4 (.flat (.int .u32 2684354559))) 5 (.flat (.int .u32 2684354560))) 6 (.flat (.int .u32 3221225471))) 7 (.flat (.int .u32 3221225472))) 8 (.flat (.int .u32 3221226496))) 9 (.flat (.int .u32 4294967295)), 23, false⟩ fun b17 m16 => ∃ N38, L6_9 b11 0 v_8 x_9 x_10 (.sl b17 0 10 (.ex 10)) 10 N38 0 m16 (fun m35 => kn (IntKind.wrap .i64 (x_10 + 1)) m35) (fun x36 m37 => kr x36 m37)) False) (k0  m)

def L6_2 (v_8 : AV) (x_9 : Int) : Nat → Int → Mem → (Mem → Prop) → (Bool → Mem → Prop) → Prop
  | 0, _,  _, _, _ => bump False
  | N + 1, x_10,  m, k0, kr => R6_2 v_8 x_9 x_10 m (fun x_10' m' => L6_2 v_8 x_9 N x_10' m' k0 kr) k0 kr

/-- pianola/pianolalaw8.SegNumbers -/
def F6  (m : Mem) (k : Bool → Mem → Prop) : Prop :=
  newK m ⟨3, upd (upd (upd (lget [(.flat (.int .u32 0)), (.flat (.int .u32 0)), (.flat (.int .u32 0))]) 0 (.flat (.int .u32 0))) 1 (.flat (.int .u32 16))) 2 (.flat (.int .u32 18)), 23, false⟩ fun b2 m1 => ∃ N42, L6_2 (.sl b2 0 3 (.ex 3)) 3 N42 0 m1 (fun m39 => F9  m39 fun x43 m44 => k x43 m44) (fun x40 m41 => k x40 m41)

def G6 (args : List AV) (m : Mem) (k : KV) : Prop := match args with
  | [] => F6  m (fun x_1000 m' => k (.flat (.bool x_1000)) m')
  | _ => False

def E6 : Env := envOf [(8, G8), (9, G9), (12, G12), (13, G13)]

def Lam6_2 (σ : Nat → AV) (m : Mem) (k : KX) : Prop := kI .i64 (σ 9) fun x_9 => kI .i64 (σ 10) fun x_10 => ∃ N, L6_2 (σ 8) x_9 N x_10 m (fun m' => k (.exit 0) (only [] []) m') (fun x_0' m' => k .ret (only [0] [(.flat (.bool x_0'))]) m')

def Lam6_9 (σ : Nat → AV) (m : Mem) (k : KX) : Prop := kptr (σ 3) fun b_3 o_3 => kI .i64 (σ 9) fun x_9 => kI .i64 (σ 10) fun x_10 => kI .i64 (σ 24) fun x_24 => kI .i64 (σ 25) fun x_25 => ∃ N, L6_9 b_3 o_3 (σ 8) x_9 x_10 (σ 23) x_24 N x_25 m (fun m' => k (.exit 2) (only [8, 9, 10] [(σ 8), (.flat (.int .i64 x_9)), (.flat (.int .i64 x_10))]) m') (fun x_0' m' => k .ret (only [0] [(.flat (.bool x_0'))]) m')

def Lam6_12 (σ : Nat → AV) (m : Mem) (k : KX) : Prop := kptr (σ 3) fun b_3 o_3 => kI .u32 (σ 5) fun x_5 => kI .u32 (σ 6) fun x_6 => kI .i64 (σ 9) fun x_9 => kI .i64 (σ 10) fun x_10 => kI .i64 (σ 24) fun x_24 => kI .i64 (σ 25) fun x_25 => ∃ N, L6_12 b_3 o_3 x_5 (σ 8) x_9 x_10 (σ 23) x_24 x_25 N x_6 m (fun m' => k (.exit 4) (only [3, 8, 9, 10, 23, 24, 25] [(.ptr b_3 o_3), (σ 8), (.flat (.int .i64 x_9)), (.flat (.int .i64 x_10)), (σ 23), (.flat (.int .i64 x_24)), (.flat (.int .i64 x_25))]) m') (fun x_0' m' => k .ret (only [0] [(.flat (.bool x_0'))]) m')

def Lam6_15 (σ : Nat → AV) (m : Mem) (k : KX) : Prop := kptr (σ 3) fun b_3 o_3 => kI .u32 (σ 5) fun x_5 => kI .u32 (σ 6) fun x_6 => kI .i64 (σ 7) fun x_7 => kI .i64 (σ 9) fun x_9 => kI .i64 (σ 10) fun x_10 => kI .i64 (σ 24) fun x_24 => kI .i64 (σ 25) fun x_25 => ∃ N, L6_15 b_3 o_3 x_5 x_6 (σ 8) x_9 x_10 (σ 23) x_24 x_25 N x_7 m (fun m' => k (.exit 6) (only [3, 5, 6, 8, 9, 10, 23, 24, 25] [(.ptr b_3 o_3), (.flat (.int .u32 x_5)), (.flat (.int .u32 x_6)), (σ 8), (.flat (.int .i64 x_9)), (.flat (.int .i64 x_10)), (σ 23), (.flat (.int .i64 x_24)), (.flat (.int .i64 x_25))]) m') (fun x_0' m' => k .ret (only [0] [(.flat (.bool x_0'))]) m')

def Lam6 : LEnv := ⟨fun a σ m k => match firstReg a with
  | some 2 => Lam6_2 σ m k
  | some 9 => Lam6_9 σ m k
  | some 12 => Lam6_12 σ m k
  | some 15 => Lam6_15 σ m k
  | _ => bump False,
  fun id => match id with
  | _ => bump false,
  fun b => match keyC b with
  | _ => bump false,
  fun b σ m k => match keyC b with
  | _ => bump False⟩

def lx6_15 : Ex → List Nat := fun e => match e with
  | .exit 6 => [3, 5, 6, 8, 9, 10, 23, 24, 25]
  | .ret => [0]
  | _ => []

theorem round6_15 (b_3 o_3 : Nat) (x_5 : Int) (x_6 : Int) (v_8 : AV) (x_9 : Int) (x_10 : Int) (v_23 : AV) (x_24 : Int) (x_25 : Int) (x_7 : Int) (m : Mem) (G : List AV → Mem → Prop) (k : KX) : (wpA Try.prog E6 Lam6 ((loopsOf (bodyOf Try.f6)).getD 3 .skip) (only [3, 5, 6, 7, 8, 9, 10, 23, 24, 25] [(.ptr b_3 o_3), (.flat (.int .u32 x_5)), (.flat (.int .u32 x_6)), (.flat (.int .i64 x_7)), v_8, (.flat (.int .i64 x_9)), (.flat (.int .i64 x_10)), v_23, (.flat (.int .i64 x_24)), (.flat (.int .i64 x_25))]) m fun e σ' m' => match e with
    | .normal => G ([3, 5, 6, 7, 8, 9, 10, 23, 24, 25].map σ') m'
    | .exit id => k (.exit id) (only (lx6_15 (.exit id)) ((lx6_15 (.exit id)).map σ')) m'
    | .ret => k .ret (only (lx6_15 .ret) ((lx6_15 .ret).map σ')) m') = R6_15 b_3 o_3 x_5 x_6 v_8 x_9 x_10 v_23 x_24 x_25 x_7 m (fun x_7' m' => G [(.ptr b_3 o_3), (.flat (.int .u32 x_5)), (.flat (.int .u32 x_6)), (.flat (.int .i64 x_7')), v_8, (.flat (.int .i64 x_9)), (.flat (.int .i64 x_10)), v_23, (.flat (.int .i64 x_24)), (.flat (.int .i64 x_25))] m') (fun m' => k (.exit 6) (only [3, 5, 6, 8, 9, 10, 23, 24, 25] [(.ptr b_3 o_3), (.flat (.int .u32 x_5)), (.flat (.int .u32 x_6)), v_8, (.flat (.int .i64 x_9)), (.flat (.int .i64 x_10)), v_23, (.flat (.int .i64 x_24)), (.flat (.int .i64 x_25))]) m') (fun x_0' m' => k .ret (only [0] [(.flat (.bool x_0'))]) m') := by
  kernel_rfl

theorem loop6_15 (b_3 o_3 : Nat) (x_5 : Int) (x_6 : Int) (v_8 : AV) (x_9 : Int) (x_10 : Int) (v_23 : AV) (x_24 : Int) (x_25 : Int) (k : KX) : ∀ (N : Nat) (x_7 : Int) (m : Mem), rounds Try.prog E6 Lam6 [3, 5, 6, 7, 8, 9, 10, 23, 24, 25] lx6_15 ((loopsOf (bodyOf Try.f6)).getD 3 .skip) N [(.ptr b_3 o_3), (.flat (.int .u32 x_5)), (.flat (.int .u32 x_6)), (.flat (.int .i64 x_7)), v_8, (.flat (.int .i64 x_9)), (.flat (.int .i64 x_10)), v_23, (.flat (.int .i64 x_24)), (.flat (.int .i64 x_25))] m k = L6_15 b_3 o_3 x_5 x_6 v_8 x_9 x_10 v_23 x_24 x_25 N x_7 m (fun m' => k (.exit 6) (only [3, 5, 6, 8, 9, 10, 23, 24, 25] [(.ptr b_3 o_3), (.flat (.int .u32 x_5)), (.flat (.int .u32 x_6)), v_8, (.flat (.int .i64 x_9)), (.flat (.int .i64 x_10)), v_23, (.flat (.int .i64 x_24)), (.flat (.int .i64 x_25))]) m') (fun x_0' m' => k .ret (only [0] [(.flat (.bool x_0'))]) m') := by
  intro N
  induction N with
  | zero => intros; rfl
  | succ N ih =>
    intro x_7 m
    refine (round6_15 b_3 o_3 x_5 x_6 v_8 x_9 x_10 v_23 x_24 x_25 x_7 m (fun vs m' => rounds Try.prog E6 Lam6 [3, 5, 6, 7, 8, 9, 10, 23, 24, 25] lx6_15 ((loopsOf (bodyOf Try.f6)).getD 3 .skip) N vs m' k) k).trans ?_
    simp only [ih]
    rfl

theorem lok6_15 : LoopOK Try.prog E6 Lam6 ((loopsOf (bodyOf Try.f6)).getD 3 .skip) := by
  refine ⟨fun σ => ∃ b_3 o_3 x_5 x_6 x_7 v_8 x_9 x_10 v_23 x_24 x_25, σ 3 = .ptr b_3 o_3 ∧ σ 5 = .flat (.int .u32 x_5) ∧ σ 6 = .flat (.int .u32 x_6) ∧ σ 7 = .flat (.int .i64 x_7) ∧ σ 8 = v_8 ∧ σ 9 = .flat (.int .i64 x_9) ∧ σ 10 = .flat (.int .i64 x_10) ∧ σ 23 = v_23 ∧ σ 24 = .flat (.int .i64 x_24) ∧ σ 25 = .flat (.int .i64 x_25), [3, 5, 6, 7, 8, 9, 10, 23, 24, 25], lx6_15, fun σ m k => ?_⟩
  have e : Lam6.loop ((loopsOf (bodyOf Try.f6)).getD 3 .skip) σ m k = Lam6_15 σ m k := by kernel_rfl
  rw [e]
  constructor
  · intro h
    unfold Lam6_15 at h
    obtain ⟨b_3, o_3, h0, h⟩ := kptr_ok h
    obtain ⟨x_5, h1, h⟩ := kI_ok h
    obtain ⟨x_6, h2, h⟩ := kI_ok h
    obtain ⟨x_7, h3, h⟩ := kI_ok h
    obtain ⟨v_8, h4⟩ : ∃ v, σ 8 = v := ⟨_, rfl⟩
    obtain ⟨x_9, h5, h⟩ := kI_ok h
    obtain ⟨x_10, h6, h⟩ := kI_ok h
    obtain ⟨v_23, h7⟩ : ∃ v, σ 23 = v := ⟨_, rfl⟩
    obtain ⟨x_24, h8, h⟩ := kI_ok h
    obtain ⟨x_25, h9, h⟩ := kI_ok h
    obtain ⟨N, h⟩ := h
    refine ⟨⟨b_3, o_3, x_5, x_6, x_7, v_8, x_9, x_10, v_23, x_24, x_25, h0, h1, h2, h3, h4, h5, h6, h7, h8, h9⟩, N, ?_⟩
    have ev : [3, 5, 6, 7, 8, 9, 10, 23, 24, 25].map σ = [(.ptr b_3 o_3), (.flat (.int .u32 x_5)), (.flat (.int .u32 x_6)), (.flat (.int .i64 x_7)), v_8, (.flat (.int .i64 x_9)), (.flat (.int .i64 x_10)), v_23, (.flat (.int .i64 x_24)), (.flat (.int .i64 x_25))] := by simp only [List.map_cons, List.map_nil, h0, h1, h2, h3, h4, h5, h6, h7, h8, h9]
    rw [ev, loop6_15]
    simp only [h4, h7] at h
    exact h
  · rintro ⟨⟨b_3, o_3, x_5, x_6, x_7, v_8, x_9, x_10, v_23, x_24, x_25, h0, h1, h2, h3, h4, h5, h6, h7, h8, h9⟩, N, h⟩
    have ev : [3, 5, 6, 7, 8, 9, 10, 23, 24, 25].map σ = [(.ptr b_3 o_3), (.flat (.int .u32 x_5)), (.flat (.int .u32 x_6)), (.flat (.int .i64 x_7)), v_8, (.flat (.int .i64 x_9)), (.flat (.int .i64 x_10)), v_23, (.flat (.int .i64 x_24)), (.flat (.int .i64 x_25))] := by simp only [List.map_cons, List.map_nil, h0, h1, h2, h3, h4, h5, h6, h7, h8, h9]
    rw [ev, loop6_15] at h
    unfold Lam6_15
    simp only [h0, h1, h2, h3, h4, h5, h6, h7, h8, h9, kI, kbool, kS, kptr, kaggN, kite, decide_true, eq_self]
    exact ⟨N, h⟩

def lx6_12 : Ex → List Nat := fun e => match e with
  | .exit 4 => [3, 8, 9, 10, 23, 24, 25]
  | .ret => [0]
  | _ => []

theorem round6_12 (b_3 o_3 : Nat) (x_5 : Int) (v_8 : AV) (x_9 : Int) (x_10 : Int) (v_23 : AV) (x_24 : Int) (x_25 : Int) (x_6 : Int) (m : Mem) (G : List AV → Mem → Prop) (k : KX) : (wpA Try.prog E6 Lam6 ((loopsOf (bodyOf Try.f6)).getD 2 .skip) (only [3, 5, 6, 8, 9, 10, 23, 24, 25] [(.ptr b_3 o_3), (.flat (.int .u32 x_5)), (.flat (.int .u32 x_6)), v_8, (.flat (.int .i64 x_9)), (.flat (.int .i64 x_10)), v_23, (.flat (.int .i64 x_24)), (.flat (.int .i64 x_25))]) m fun e σ' m' => match e with
    | .normal => G ([3, 5, 6, 8, 9, 10, 23, 24, 25].map σ') m'
    | .exit id => k (.exit id) (only (lx6_12 (.exit id)) ((lx6_12 (.exit id)).map σ')) m'
    | .ret => k .ret (only (lx6_12 .ret) ((lx6_12 .ret).map σ')) m') = R6_12 b_3 o_3 x_5 v_8 x_9 x_10 v_23 x_24 x_25 x_6 m (fun x_6' m' => G [(.ptr b_3 o_3), (.flat (.int .u32 x_5)), (.flat (.int .u32 x_6')), v_8, (.flat (.int .i64 x_9)), (.flat (.int .i64 x_10)), v_23, (.flat (.int .i64 x_24)), (.flat (.int .i64 x_25))] m') (fun m' => k (.exit 4) (only [3, 8, 9, 10, 23, 24, 25] [(.ptr b_3 o_3), v_8, (.flat (.int .i64 x_9)), (.flat (.int .i64 x_10)), v_23, (.flat (.int .i64 x_24)), (.flat (.int .i64 x_25))]) m') (fun x_0' m' => k .ret (only [0] [(.flat (.bool x_0'))]) m') := by
  kernel_rfl

theorem loop6_12 (b_3 o_3 : Nat) (x_5 : Int) (v_8 : AV) (x_9 : Int) (x_10 : Int) (v_23 : AV) (x_24 : Int) (x_25 : Int) (k : KX) : ∀ (N : Nat) (x_6 : Int) (m : Mem), rounds Try.prog E6 Lam6 [3, 5, 6, 8, 9, 10, 23, 24, 25] lx6_12 ((loopsOf (bodyOf Try.f6)).getD 2 .skip) N [(.ptr b_3 o_3), (.flat (.int .u32 x_5)), (.flat (.int .u32 x_6)), v_8, (.flat (.int .i64 x_9)), (.flat (.int .i64 x_10)), v_23, (.flat (.int .i64 x_24)), (.flat (.int .i64 x_25))] m k = L6_12 b_3 o_3 x_5 v_8 x_9 x_10 v_23 x_24 x_25 N x_6 m (fun m' => k (.exit 4) (only [3, 8, 9, 10, 23, 24, 25] [(.ptr b_3 o_3), v_8, (.flat (.int .i64 x_9)), (.flat (.int .i64 x_10)), v_23, (.flat (.int .i64 x_24)), (.flat (.int .i64 x_25))]) m') (fun x_0' m' => k .ret (only [0] [(.flat (.bool x_0'))]) m') := by
  intro N
  induction N with
  | zero => intros; rfl
  | succ N ih =>
    intro x_6 m
    refine (round6_12 b_3 o_3 x_5 v_8 x_9 x_10 v_23 x_24 x_25 x_6 m (fun vs m' => rounds Try.prog E6 Lam6 [3, 5, 6, 8, 9, 10, 23, 24, 25] lx6_12 ((loopsOf (bodyOf Try.f6)).getD 2 .skip) N vs m' k) k).trans ?_
    simp only [ih]
    rfl

theorem lok6_12 : LoopOK Try.prog E6 Lam6 ((loopsOf (bodyOf Try.f6)).getD 2 .skip) := by
  refine ⟨fun σ => ∃ b_3 o_3 x_5 x_6 v_8 x_9 x_10 v_23 x_24 x_25, σ 3 = .ptr b_3 o_3 ∧ σ 5 = .flat (.int .u32 x_5) ∧ σ 6 = .flat (.int .u32 x_6) ∧ σ 8 = v_8 ∧ σ 9 = .flat (.int .i64 x_9) ∧ σ 10 = .flat (.int .i64 x_10) ∧ σ 23 = v_23 ∧ σ 24 = .flat (.int .i64 x_24) ∧ σ 25 = .flat (.int .i64 x_25), [3, 5, 6, 8, 9, 10, 23, 24, 25], lx6_12, fun σ m k => ?_⟩
  have e : Lam6.loop ((loopsOf (bodyOf Try.f6)).getD 2 .skip) σ m k = Lam6_12 σ m k := by kernel_rfl
  rw [e]
  constructor
  · intro h
    unfold Lam6_12 at h
    obtain ⟨b_3, o_3, h0, h⟩ := kptr_ok h
    obtain ⟨x_5, h1, h⟩ := kI_ok h
    obtain ⟨x_6, h2, h⟩ := kI_ok h
    obtain ⟨v_8, h3⟩ : ∃ v, σ 8 = v := ⟨_, rfl⟩
    obtain ⟨x_9, h4, h⟩ := kI_ok h
    obtain ⟨x_10, h5, h⟩ := kI_ok h
    obtain ⟨v_23, h6⟩ : ∃ v, σ 23 = v := ⟨_, rfl⟩
    obtain ⟨x_24, h7, h⟩ := kI_ok h
    obtain ⟨x_25, h8, h⟩ := kI_ok h
    obtain ⟨N, h⟩ := h
    refine ⟨⟨b_3, o_3, x_5, x_6, v_8, x_9, x_10, v_23, x_24, x_25, h0, h1, h2, h3, h4, h5, h6, h7, h8⟩, N, ?_⟩
    have ev : [3, 5, 6, 8, 9, 10, 23, 24, 25].map σ = [(.ptr b_3 o_3), (.flat (.int .u32 x_5)), (.flat (.int .u32 x_6)), v_8, (.flat (.int .i64 x_9)), (.flat (.int .i64 x_10)), v_23, (.flat (.int .i64 x_24)), (.flat (.int .i64 x_25))] := by simp only [List.map_cons, List.map_nil, h0, h1, h2, h3, h4, h5, h6, h7, h8]
    rw [ev, loop6_12]
    simp only [h3, h6] at h
    exact h
  · rintro ⟨⟨b_3, o_3, x_5, x_6, v_8, x_9, x_10, v_23, x_24, x_25, h0, h1, h2, h3, h4, h5, h6, h7, h8⟩, N, h⟩
    have ev : [3, 5, 6, 8, 9, 10, 23, 24, 25].map σ = [(.ptr b_3 o_3), (.flat (.int .u32 x_5)), (.flat (.int .u32 x_6)), v_8, (.flat (.int .i64 x_9)), (.flat (.int .i64 x_10)), v_23, (.flat (.int .i64 x_24)), (.flat (.int .i64 x_25))] := by simp only [List.map_cons, List.map_nil, h0, h1, h2, h3, h4, h5, h6, h7, h8]
    rw [ev, loop6_12] at h
    unfold Lam6_12
    simp only [h0, h1, h2, h3, h4, h5, h6, h7, h8, kI, kbool, kS, kptr, kaggN, kite, decide_true, eq_self]
    exact ⟨N, h⟩

def lx6_9 : Ex → List Nat := fun e => match e with
  | .exit 2 => [8, 9, 10]
  | .ret => [0]
  | _ => []

theorem round6_9 (b_3 o_3 : Nat) (v_8 : AV) (x_9 : Int) (x_10 : Int) (v_23 : AV) (x_24 : Int) (x_25 : Int) (m : Mem) (G : List AV → Mem → Prop) (k : KX) : (wpA Try.prog E6 Lam6 ((loopsOf (bodyOf Try.f6)).getD 1 .skip) (only [3, 8, 9, 10, 23, 24, 25] [(.ptr b_3 o_3), v_8, (.flat (.int .i64 x_9)), (.flat (.int .i64 x_10)), v_23, (.flat (.int .i64 x_24)), (.flat (.int .i64 x_25))]) m fun e σ' m' => match e with
    | .normal => G ([3, 8, 9, 10, 23, 24, 25].map σ') m'
    | .exit id => k (.exit id) (only (lx6_9 (.exit id)) ((lx6_9 (.exit id)).map σ')) m'
    | .ret => k .ret (only (lx6_9 .ret) ((lx6_9 .ret).map σ')) m') = R6_9 b_3 o_3 v_8 x_9 x_10 v_23 x_24 x_25 m (fun x_25' m' => G [(.ptr b_3 o_3), v_8, (.flat (.int .i64 x_9)), (.flat (.int .i64 x_10)), v_23, (.flat (.int .i64 x_24)), (.flat (.int .i64 x_25'))] m') (fun m' => k (.exit 2) (only [8, 9, 10] [v_8, (.flat (.int .i64 x_9)), (.flat (.int .i64 x_10))]) m') (fun x_0' m' => k .ret (only [0] [(.flat (.bool x_0'))]) m') := by
  kernel_rfl

theorem loop6_9 (b_3 o_3 : Nat) (v_8 : AV) (x_9 : Int) (x_10 : Int) (v_23 : AV) (x_24 : Int) (k : KX) : ∀ (N : Nat) (x_25 : Int) (m : Mem), rounds Try.prog E6 Lam6 [3, 8, 9, 10, 23, 24, 25] lx6_9 ((loopsOf (bodyOf Try.f6)).getD 1 .skip) N [(.ptr b_3 o_3), v_8, (.flat (.int .i64 x_9)), (.flat (.int .i64 x_10)), v_23, (.flat (.int .i64 x_24)), (.flat (.int .i64 x_25))] m k = L6_9 b_3 o_3 v_8 x_9 x_10 v_23 x_24 N x_25 m (fun m' => k (.exit 2) (only [8, 9, 10] [v_8, (.flat (.int .i64 x_9)), (.flat (.int .i64 x_10))]) m') (fun x_0' m' => k .ret (only [0] [(.flat (.bool x_0'))]) m') := by
  intro N
  induction N with
  | zero => intros; rfl
  | succ N ih =>
    intro x_25 m
    refine (round6_9 b_3 o_3 v_8 x_9 x_10 v_23 x_24 x_25 m (fun vs m' => rounds Try.prog E6 Lam6 [3, 8, 9, 10, 23, 24, 25] lx6_9 ((loopsOf (bodyOf Try.f6)).getD 1 .skip) N vs m' k) k).trans ?_
    simp only [ih]
    rfl

theorem lok6_9 : LoopOK Try.prog E6 Lam6 ((loopsOf (bodyOf Try.f6)).getD 1 .skip) := by
  refine ⟨fun σ => ∃ b_3 o_3 v_8 x_9 x_10 v_23 x_24 x_25, σ 3 = .ptr b_3 o_3 ∧ σ 8 = v_8 ∧ σ 9 = .flat (.int .i64 x_9) ∧ σ 10 = .flat (.int .i64 x_10) ∧ σ 23 = v_23 ∧ σ 24 = .flat (.int .i64 x_24) ∧ σ 25 = .flat (.int .i64 x_25), [3, 8, 9, 10, 23, 24, 25], lx6_9, fun σ m k => ?_⟩
  have e : Lam6.loop ((loopsOf (bodyOf Try.f6)).getD 1 .skip) σ m k = Lam6_9 σ m k := by kernel_rfl
  rw [e]
  constructor
  · intro h
    unfold Lam6_9 at h
    obtain ⟨b_3, o_3, h0, h⟩ := kptr_ok h
    obtain ⟨v_8, h1⟩ : ∃ v, σ 8 = v := ⟨_, rfl⟩
    obtain ⟨x_9, h2, h⟩ := kI_ok h
    obtain ⟨x_10, h3, h⟩ := kI_ok h
    obtain ⟨v_23, h4⟩ : ∃ v, σ 23 = v := ⟨_, rfl⟩
    obtain ⟨x_24, h5, h⟩ := kI_ok h
    obtain ⟨x_25, h6, h⟩ := kI_ok h
    obtain ⟨N, h⟩ := h
    refine ⟨⟨b_3, o_3, v_8, x_9, x_10, v_23, x_24, x_25, h0, h1, h2, h3, h4, h5, h6⟩, N, ?_⟩
    have ev : [3, 8, 9, 10, 23, 24, 25].map σ = [(.ptr b_3 o_3), v_8, (.flat (.int .i64 x_9)), (.flat (.int .i64 x_10)), v_23, (.flat (.int .i64 x_24)), (.flat (.int .i64 x_25))] := by simp only [List.map_cons, List.map_nil, h0, h1, h2, h3, h4, h5, h6]
    rw [ev, loop6_9]
    simp only [h1, h4] at h
    exact h
  · rintro ⟨⟨b_3, o_3, v_8, x_9, x_10, v_23, x_24, x_25, h0, h1, h2, h3, h4, h5, h6⟩, N, h⟩
    have ev : [3, 8, 9, 10, 23, 24, 25].map σ = [(.ptr b_3 o_3), v_8, (.flat (.int .i64 x_9)), (.flat (.int .i64 x_10)), v_23, (.flat (.int .i64 x_24)), (.flat (.int .i64 x_25))] := by simp only [List.map_cons, List.map_nil, h0, h1, h2, h3, h4, h5, h6]
    rw [ev, loop6_9] at h
    unfold Lam6_9
    simp only [h0, h1, h2, h3, h4, h5, h6, kI, kbool, kS, kptr, kaggN, kite, decide_true, eq_self]
    exact ⟨N, h⟩

def lx6_2 : Ex → List Nat := fun e => match e with
  | .exit 0 => []
  | .ret => [0]
  | _ => []

theorem round6_2 (v_8 : AV) (x_9 : Int) (x_10 : Int) (m : Mem) (G : List AV → Mem → Prop) (k : KX) : (wpA Try.prog E6 Lam6 ((loopsOf (bodyOf Try.f6)).getD 0 .skip) (only [8, 9, 10] [v_8, (.flat (.int .i64 x_9)), (.flat (.int .i64 x_10))]) m fun e σ' m' => match e with
    | .normal => G ([8, 9, 10].map σ') m'
    | .exit id => k (.exit id) (only (lx6_2 (.exit id)) ((lx6_2 (.exit id)).map σ')) m'
    | .ret => k .ret (only (lx6_2 .ret) ((lx6_2 .ret).map σ')) m') = R6_2 v_8 x_9 x_10 m (fun x_10' m' => G [v_8, (.flat (.int .i64 x_9)), (.flat (.int .i64 x_10'))] m') (fun m' => k (.exit 0) (only [] []) m') (fun x_0' m' => k .ret (only [0] [(.flat (.bool x_0'))]) m') := by
  kernel_rfl

theorem loop6_2 (v_8 : AV) (x_9 : Int) (k : KX) : ∀ (N : Nat) (x_10 : Int) (m : Mem), rounds Try.prog E6 Lam6 [8, 9, 10] lx6_2 ((loopsOf (bodyOf Try.f6)).getD 0 .skip) N [v_8, (.flat (.int .i64 x_9)), (.flat (.int .i64 x_10))] m k = L6_2 v_8 x_9 N x_10 m (fun m' => k (.exit 0) (only [] []) m') (fun x_0' m' => k .ret (only [0] [(.flat (.bool x_0'))]) m') := by
  intro N
  induction N with
  | zero => intros; rfl
  | succ N ih =>
    intro x_10 m
    refine (round6_2 v_8 x_9 x_10 m (fun vs m' => rounds Try.prog E6 Lam6 [8, 9, 10] lx6_2 ((loopsOf (bodyOf Try.f6)).getD 0 .skip) N vs m' k) k).trans ?_
    simp only [ih]
    rfl

theorem lok6_2 : LoopOK Try.prog E6 Lam6 ((loopsOf (bodyOf Try.f6)).getD 0 .skip) := by
  refine ⟨fun σ => ∃ v_8 x_9 x_10, σ 8 = v_8 ∧ σ 9 = .flat (.int .i64 x_9) ∧ σ 10 = .flat (.int .i64 x_10), [8, 9, 10], lx6_2, fun σ m k => ?_⟩
  have e : Lam6.loop ((loopsOf (bodyOf Try.f6)).getD 0 .skip) σ m k = Lam6_2 σ m k := by kernel_rfl
  rw [e]
  constructor
  · intro h
    unfold Lam6_2 at h
    obtain ⟨v_8, h0⟩ : ∃ v, σ 8 = v := ⟨_, rfl⟩
    obtain ⟨x_9, h1, h⟩ := kI_ok h
    obtain ⟨x_10, h2, h⟩ := kI_ok h
    obtain ⟨N, h⟩ := h
    refine ⟨⟨v_8, x_9, x_10, h0, h1, h2⟩, N, ?_⟩
    have ev : [8, 9, 10].map σ = [v_8, (.flat (.int .i64 x_9)), (.flat (.int .i64 x_10))] := by simp only [List.map_cons, List.map_nil, h0, h1, h2]
    rw [ev, loop6_2]
    simp only [h0] at h
    exact h
  · rintro ⟨⟨v_8, x_9, x_10, h0, h1, h2⟩, N, h⟩
    have ev : [8, 9, 10].map σ = [v_8, (.flat (.int .i64 x_9)), (.flat (.int .i64 x_10))] := by simp only [List.map_cons, List.map_nil, h0, h1, h2]
    rw [ev, loop6_2] at h
    unfold Lam6_2
    simp only [h0, h1, h2, kI, kbool, kS, kptr, kaggN, kite, decide_true, eq_self]
    exact ⟨N, h⟩

theorem eqn6  (m : Mem) (k : KV) : bodyK Try.prog E6 Lam6 Try.f6 false [] m k = F6  m (fun x_1000 m' => k (.flat (.bool x_1000)) m') := by
  kernel_rfl

theorem fs6 (w0 : World) : FS Try.prog w0 6 G6 := by
  refine (fs_body (Γ := E6) (sound_env (l := [(8, G8), (9, G9), (12, G12), (13, G13)]) w0 (by
    intro p hp
    simp only [List.mem_cons, List.not_mem_nil, or_false] at hp
    rcases hp with rfl | rfl | rfl | rfl
    · exact fs8 w0
    · exact fs9 w0
    · exact fs12 w0
    · exact fs13 w0)) (by kernel_rfl) Try.func6 (Λ := Lam6) (c := (bodyOf Try.f6)) (by kernel_rfl) Try.call6 (by kernel_rfl) (LS_of (bodyOf Try.f6) 4 (by kernel_rfl) (by
    intro i hi
    match i, hi with
    | 0, _ => exact lok6_2
    | 1, _ => exact lok6_9
    | 2, _ => exact lok6_12
    | 3, _ => exact lok6_15
    | i + 4, hi => omega) 0 (by kernel_rfl) (fun i hi => absurd hi (Nat.not_lt_zero i))) false (np := 0) (Nat.le_of_ble_eq_true (by kernel_rfl))).imp fun args => ?_
  by_cases hl : args.length = 0
  rotate_left
  · exact .inr fun m k hk => by
      unfold G6 at hk
      split at hk
      · exact hl rfl
      · exact hk
  obtain rfl : args = [] := len_list0 hl

  exact .inl fun m k => propext ⟨fun h => ⟨rfl, by rw [eqn6]; simpa only [G6, kI, kbool, kS, kptr, kaggN, kite, decide_true, eq_self] using h⟩, fun h => by have h := h.2; rw [eqn6] at h; simpa only [G6, kI, kbool, kS, kptr, kaggN, kite, decide_true, eq_self] using h⟩

end Go.Proofs.Ytdjieokcflogmaa.Am
