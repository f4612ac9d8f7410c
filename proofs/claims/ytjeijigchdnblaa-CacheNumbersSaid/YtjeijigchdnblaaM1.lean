/- What Go functions ask of what follows them, as plain functions over the abstract machine; the machine asks just that. Written by gen.py. -/
import Derived.Test.YtjeijigchdnblaaProg
import Derived.Test.YtjeijigchdnblaaAmL
import Derived.Test.YtjeijigchdnblaaM0
namespace Go.Proofs.Ytjeijigchdnblaa.Am
set_option linter.unusedVariables false
set_option linter.unusedSimpArgs false
set_option maxRecDepth 100000

def E20 : Env := envOf []

/-- (pianola/block.Block).Page -/
def F20 (c_0 : Nat → AV) (m : Mem) (k : Int → Mem → Prop) : Prop :=
  newK m ⟨4, c_0, 33, false⟩ fun b2 m1 => ldI .u32 m1 b2 0 fun x3 => (Keeps m m1 ∧ k (IntKind.wrap .i64 (IntKind.wrap .u32 (x3.tdiv 1024))) m)

def G20 (args : List AV) (m : Mem) (k : KV) : Prop := match args with
  | [a0] => kaggN 4 a0 fun c_0 => F20 c_0 m (fun x_1000 m' => k (.flat (.int .i64 x_1000)) m')
  | _ => False

def Lam20 : LEnv := ⟨fun a σ m k => match firstReg a with
  | _ => bump False,
  fun id => match id with
  | _ => bump false,
  fun b => match keyC b with
  | _ => bump false,
  fun b σ m k => match keyC b with
  | _ => bump False⟩

theorem eqn20 (c_0 : Nat → AV) (m : Mem) (k : KV) : bodyK Try.prog E20 Lam20 Try.f20 true [(.agg 4 c_0)] m k = F20 c_0 m (fun x_1000 m' => k (.flat (.int .i64 x_1000)) m') := by
  kernel_rfl

theorem fs20 (w0 : World) : FS Try.prog w0 20 G20 := by
  refine (fs_body (Γ := E20) (sound_env (l := []) w0 (by
    intro p hp
    cases hp)) (by kernel_rfl) Try.func20 (Λ := Lam20) (c := (bodyOf Try.f20)) (by kernel_rfl) Try.call20 (by kernel_rfl) (LS_of (bodyOf Try.f20) 0 (by kernel_rfl) (fun i hi => absurd hi (Nat.not_lt_zero i)) 0 (by kernel_rfl) (fun i hi => absurd hi (Nat.not_lt_zero i))) true (np := 1) (Nat.le_of_ble_eq_true (by kernel_rfl))).imp fun args => ?_
  by_cases hl : args.length = 1
  rotate_left
  · exact .inr fun m k hk => by
      unfold G20 at hk
      split at hk
      · exact hl rfl
      · exact hk
  obtain ⟨a0, rfl⟩ : ∃ a0, args = [a0] := len_list1 hl
  rcases kaggN_or 4 a0 with ⟨c_0, rfl⟩ | h
  rotate_left
  · exact .inr fun m k hk => h _ (by simpa only [G20, kI, kbool, kS, kptr, kaggN, kite, decide_true, eq_self] using hk)
  exact .inl fun m k => propext ⟨fun h => ⟨rfl, by rw [eqn20]; simpa only [G20, kI, kbool, kS, kptr, kaggN, kite, decide_true, eq_self] using h⟩, fun h => by have h := h.2; rw [eqn20] at h; simpa only [G20, kI, kbool, kS, kptr, kaggN, kite, decide_true, eq_self] using h⟩

def E13 : Env := envOf [(20, G20)]

def R13_3 (b_0 o_0 : Nat) (x_1 : Int) (v_11 : AV) (x_12 : Int) (x_5 : Int) (x_13 : Int) (m : Mem) (kn : Int → Int → Mem → Prop) (k0 : Int → Mem → Prop) : Prop :=
  kif (decide (x_13 < x_12)) (ksl v_11 fun b3 o4 l5 p6 => kif (decide (0 ≤ x_13) && decide (x_13 < l5)) (ldG 3 m b3 (o4 + (x_13).toNat * 3) fun c7 => newK m ⟨3, lget [(.flat (.int .u32 0)), (.flat (.int .i64 0)), (.flat (.int .i64 0))], 28, false⟩ fun b9 m8 => stG 3 m8 b9 0 c7 fun m10 => ldA m10 b_0 (o_0 + 2) fun v11 => ldG 3 m10 b9 0 fun c12 => mget K28 3 v11 c12 4 (lget [(.flat (.int .u32 0)), (.flat (.slice none 0 0)), (.flat (.slice none 0 0)), (.flat (.slice none 0 0))]) m10 fun c13 x14 => F20 c13 m10 fun x15 m16 => kif (x15 == x_1) (kn (IntKind.wrap .i64 (x_5 + 1)) (IntKind.wrap .i64 (x_13 + 1)) m16) (kn x_5 (IntKind.wrap .i64 (x_13 + 1)) m16)) False) (k0 x_5 m)

def L13_3 (b_0 o_0 : Nat) (x_1 : Int) (v_11 : AV) (x_12 : Int) : Nat → Int → Int → Mem → (Int → Mem → Prop) → Prop
  | 0, _, _,  _, _ => bump False
  | N + 1, x_5, x_13,  m, k0 => R13_3 b_0 o_0 x_1 v_11 x_12 x_5 x_13 m (fun x_5' x_13' m' => L13_3 b_0 o_0 x_1 v_11 x_12 N x_5' x_13' m' k0) k0

/-- (*pianola/cache.Cache).On -/
def F13 (b_0 o_0 : Nat) (x_1 : Int) (m : Mem) (k : Int → Mem → Prop) : Prop :=
  ldA m b_0 (o_0 + 1) fun v1 => klen v1 fun x2 => ∃ N19, L13_3 b_0 o_0 x_1 v1 x2 N19 0 0 m (fun x17 m18 => (Keeps m m18 ∧ k x17 m))

def G13 (args : List AV) (m : Mem) (k : KV) : Prop := match args with
  | [a0, a1] => kptr a0 fun b_0 o_0 => kI .i64 a1 fun x_1 => F13 b_0 o_0 x_1 m (fun x_1000 m' => k (.flat (.int .i64 x_1000)) m')
  | _ => False

def Lam13_3 (σ : Nat → AV) (m : Mem) (k : KX) : Prop := kptr (σ 0) fun b_0 o_0 => kI .i64 (σ 1) fun x_1 => kI .i64 (σ 5) fun x_5 => kI .i64 (σ 12) fun x_12 => kI .i64 (σ 13) fun x_13 => ∃ N, L13_3 b_0 o_0 x_1 (σ 11) x_12 N x_5 x_13 m (fun x_5' m' => k (.exit 0) (only [5] [(.flat (.int .i64 x_5'))]) m')

def Lam13 : LEnv := ⟨fun a σ m k => match firstReg a with
  | some 3 => Lam13_3 σ m k
  | _ => bump False,
  fun id => match id with
  | _ => bump false,
  fun b => match keyC b with
  | _ => bump false,
  fun b σ m k => match keyC b with
  | _ => bump False⟩

def lx13_3 : Ex → List Nat := fun e => match e with
  | .exit 0 => [5]
  | _ => []

theorem round13_3 (b_0 o_0 : Nat) (x_1 : Int) (v_11 : AV) (x_12 : Int) (x_5 : Int) (x_13 : Int) (m : Mem) (G : List AV → Mem → Prop) (k : KX) : (wpA Try.prog E13 Lam13 ((loopsOf (bodyOf Try.f13)).getD 0 .skip) (only [0, 1, 5, 11, 12, 13] [(.ptr b_0 o_0), (.flat (.int .i64 x_1)), (.flat (.int .i64 x_5)), v_11, (.flat (.int .i64 x_12)), (.flat (.int .i64 x_13))]) m fun e σ' m' => match e with
    | .normal => G ([0, 1, 5, 11, 12, 13].map σ') m'
    | .exit id => k (.exit id) (only (lx13_3 (.exit id)) ((lx13_3 (.exit id)).map σ')) m'
    | .ret => k .ret (only (lx13_3 .ret) ((lx13_3 .ret).map σ')) m') = R13_3 b_0 o_0 x_1 v_11 x_12 x_5 x_13 m (fun x_5' x_13' m' => G [(.ptr b_0 o_0), (.flat (.int .i64 x_1)), (.flat (.int .i64 x_5')), v_11, (.flat (.int .i64 x_12)), (.flat (.int .i64 x_13'))] m') (fun x_5' m' => k (.exit 0) (only [5] [(.flat (.int .i64 x_5'))]) m') := by
  kernel_rfl

theorem loop13_3 (b_0 o_0 : Nat) (x_1 : Int) (v_11 : AV) (x_12 : Int) (k : KX) : ∀ (N : Nat) (x_5 : Int) (x_13 : Int) (m : Mem), rounds Try.prog E13 Lam13 [0, 1, 5, 11, 12, 13] lx13_3 ((loopsOf (bodyOf Try.f13)).getD 0 .skip) N [(.ptr b_0 o_0), (.flat (.int .i64 x_1)), (.flat (.int .i64 x_5)), v_11, (.flat (.int .i64 x_12)), (.flat (.int .i64 x_13))] m k = L13_3 b_0 o_0 x_1 v_11 x_12 N x_5 x_13 m (fun x_5' m' => k (.exit 0) (only [5] [(.flat (.int .i64 x_5'))]) m') := by
  intro N
  induction N with
  | zero => intros; rfl
  | succ N ih =>
    intro x_5 x_13 m
    refine (round13_3 b_0 o_0 x_1 v_11 x_12 x_5 x_13 m (fun vs m' => rounds Try.prog E13 Lam13 [0, 1, 5, 11, 12, 13] lx13_3 ((loopsOf (bodyOf Try.f13)).getD 0 .skip) N vs m' k) k).trans ?_
    simp only [ih]
    rfl

theorem lok13_3 : LoopOK Try.prog E13 Lam13 ((loopsOf (bodyOf Try.f13)).getD 0 .skip) := by
  refine ⟨fun σ => ∃ b_0 o_0 x_1 x_5 v_11 x_12 x_13, σ 0 = .ptr b_0 o_0 ∧ σ 1 = .flat (.int .i64 x_1) ∧ σ 5 = .flat (.int .i64 x_5) ∧ σ 11 = v_11 ∧ σ 12 = .flat (.int .i64 x_12) ∧ σ 13 = .flat (.int .i64 x_13), [0, 1, 5, 11, 12, 13], lx13_3, fun σ m k => ?_⟩
  have e : Lam13.loop ((loopsOf (bodyOf Try.f13)).getD 0 .skip) σ m k = Lam13_3 σ m k := by kernel_rfl
  rw [e]
  constructor
  · intro h
    unfold Lam13_3 at h
    obtain ⟨b_0, o_0, h0, h⟩ := kptr_ok h
    obtain ⟨x_1, h1, h⟩ := kI_ok h
    obtain ⟨x_5, h2, h⟩ := kI_ok h
    obtain ⟨v_11, h3⟩ : ∃ v, σ 11 = v := ⟨_, rfl⟩
    obtain ⟨x_12, h4, h⟩ := kI_ok h
    obtain ⟨x_13, h5, h⟩ := kI_ok h
    obtain ⟨N, h⟩ := h
    refine ⟨⟨b_0, o_0, x_1, x_5, v_11, x_12, x_13, h0, h1, h2, h3, h4, h5⟩, N, ?_⟩
    have ev : [0, 1, 5, 11, 12, 13].map σ = [(.ptr b_0 o_0), (.flat (.int .i64 x_1)), (.flat (.int .i64 x_5)), v_11, (.flat (.int .i64 x_12)), (.flat (.int .i64 x_13))] := by simp only [List.map_cons, List.map_nil, h0, h1, h2, h3, h4, h5]
    rw [ev, loop13_3]
    simp only [h3] at h
    exact h
  · rintro ⟨⟨b_0, o_0, x_1, x_5, v_11, x_12, x_13, h0, h1, h2, h3, h4, h5⟩, N, h⟩
    have ev : [0, 1, 5, 11, 12, 13].map σ = [(.ptr b_0 o_0), (.flat (.int .i64 x_1)), (.flat (.int .i64 x_5)), v_11, (.flat (.int .i64 x_12)), (.flat (.int .i64 x_13))] := by simp only [List.map_cons, List.map_nil, h0, h1, h2, h3, h4, h5]
    rw [ev, loop13_3] at h
    unfold Lam13_3
    try simp only [h0, h1, h2, h3, h4, h5, kI, kbool, kS, kptr, kaggN, kite, decide_true, eq_self]
    exact ⟨N, h⟩

theorem eqn13 (b_0 o_0 : Nat) (x_1 : Int) (m : Mem) (k : KV) : bodyK Try.prog E13 Lam13 Try.f13 true [(.ptr b_0 o_0), (.flat (.int .i64 x_1))] m k = F13 b_0 o_0 x_1 m (fun x_1000 m' => k (.flat (.int .i64 x_1000)) m') := by
  kernel_rfl

theorem fs13 (w0 : World) : FS Try.prog w0 13 G13 := by
  refine (fs_body (Γ := E13) (sound_env (l := [(20, G20)]) w0 (by
    intro p hp
    simp only [List.mem_cons, List.not_mem_nil, or_false] at hp
    rcases hp with rfl
    · exact fs20 w0)) (by kernel_rfl) Try.func13 (Λ := Lam13) (c := (bodyOf Try.f13)) (by kernel_rfl) Try.call13 (by kernel_rfl) (LS_of (bodyOf Try.f13) 1 (by kernel_rfl) (by
    intro i hi
    match i, hi with
    | 0, _ => exact lok13_3
    | i + 1, hi => omega) 0 (by kernel_rfl) (fun i hi => absurd hi (Nat.not_lt_zero i))) true (np := 2) (Nat.le_of_ble_eq_true (by kernel_rfl))).imp fun args => ?_
  by_cases hl : args.length = 2
  rotate_left
  · exact .inr fun m k hk => by
      unfold G13 at hk
      split at hk
      · exact hl rfl
      · exact hk
  obtain ⟨a0, a1, rfl⟩ : ∃ a0 a1, args = [a0, a1] := len_list2 hl
  rcases kptr_or a0 with ⟨b_0, o_0, rfl⟩ | h
  rotate_left
  · exact .inr fun m k hk => h _ (by simpa only [G13, kI, kbool, kS, kptr, kaggN, kite, decide_true, eq_self] using hk)
  rcases kI_or .i64 a1 with ⟨x_1, rfl⟩ | h
  rotate_left
  · exact .inr fun m k hk => h _ (by simpa only [G13, kI, kbool, kS, kptr, kaggN, kite, decide_true, eq_self] using hk)
  exact .inl fun m k => propext ⟨fun h => ⟨rfl, by rw [eqn13]; simpa only [G13, kI, kbool, kS, kptr, kaggN, kite, decide_true, eq_self] using h⟩, fun h => by have h := h.2; rw [eqn13] at h; simpa only [G13, kI, kbool, kS, kptr, kaggN, kite, decide_true, eq_self] using h⟩

def E21 : Env := envOf []

/-- slices.Clone[[]pianola/cache.Key,pianola/cache.Key] -/
def F21 (v_0 : AV) (m : Mem) (k : AV → Mem → Prop) : Prop :=
  knilS v_0 fun x1 => kif x1 (k (.flat (.slice none 0 0)) m) (newK m ⟨0, lget [], 28, false⟩ fun b3 m2 => appS 3 24 28 (.sl b3 0 0 (.ex 0)) v_0 m2 fun v4 m5 => k v4 m5)

def G21 (args : List AV) (m : Mem) (k : KV) : Prop := match args with
  | [a0] => F21 a0 m (fun v_1000 m' => k v_1000 m')
  | _ => False

def Lam21 : LEnv := ⟨fun a σ m k => match firstReg a with
  | _ => bump False,
  fun id => match id with
  | _ => bump false,
  fun b => match keyC b with
  | _ => bump false,
  fun b σ m k => match keyC b with
  | _ => bump False⟩

theorem eqn21 (v_0 : AV) (m : Mem) (k : KV) : bodyK Try.prog E21 Lam21 Try.f21 false [v_0] m k = F21 v_0 m (fun v_1000 m' => k v_1000 m') := by
  kernel_rfl

theorem fs21 (w0 : World) : FS Try.prog w0 21 G21 := by
  refine (fs_body (Γ := E21) (sound_env (l := []) w0 (by
    intro p hp
    cases hp)) (by kernel_rfl) Try.func21 (Λ := Lam21) (c := (bodyOf Try.f21)) (by kernel_rfl) Try.call21 (by kernel_rfl) (LS_of (bodyOf Try.f21) 0 (by kernel_rfl) (fun i hi => absurd hi (Nat.not_lt_zero i)) 0 (by kernel_rfl) (fun i hi => absurd hi (Nat.not_lt_zero i))) false (np := 1) (Nat.le_of_ble_eq_true (by kernel_rfl))).imp fun args => ?_
  by_cases hl : args.length = 1
  rotate_left
  · exact .inr fun m k hk => by
      unfold G21 at hk
      split at hk
      · exact hl rfl
      · exact hk
  obtain ⟨a0, rfl⟩ : ∃ a0, args = [a0] := len_list1 hl

  exact .inl fun m k => propext ⟨fun h => ⟨rfl, by rw [eqn21]; simpa only [G21, kI, kbool, kS, kptr, kaggN, kite, decide_true, eq_self] using h⟩, fun h => by have h := h.2; rw [eqn21] at h; simpa only [G21, kI, kbool, kS, kptr, kaggN, kite, decide_true, eq_self] using h⟩

def E14 : Env := envOf [(19, G19), (20, G20), (21, G21)]

def R14_3 (b_0 o_0 : Nat) (x_1 : Int) (v_12 : AV) (x_13 : Int) (x_5 : Int) (x_14 : Int) (m : Mem) (kn : Int → Int → Mem → Prop) (k0 : Int → Mem → Prop) : Prop :=
  kif (decide (x_14 < x_13)) (ksl v_12 fun b5 o6 l7 p8 => kif (decide (0 ≤ x_14) && decide (x_14 < l7)) (ldG 3 m b5 (o6 + (x_14).toNat * 3) fun c9 => newK m ⟨3, lget [(.flat (.int .u32 0)), (.flat (.int .i64 0)), (.flat (.int .i64 0))], 28, false⟩ fun b11 m10 => stG 3 m10 b11 0 c9 fun m12 => ldA m12 b_0 (o_0 + 2) fun v13 => ldG 3 m12 b11 0 fun c14 => mget K28 3 v13 c14 4 (lget [(.flat (.int .u32 0)), (.flat (.slice none 0 0)), (.flat (.slice none 0 0)), (.flat (.slice none 0 0))]) m12 fun c15 x16 => F20 c15 m12 fun x17 m18 => kif (x17 == x_1) (ldG 3 m18 b11 0 fun c19 => F19 b_0 o_0 c19 m18 fun m20 => ldA m20 b_0 (o_0 + 2) fun v21 => ldG 3 m20 b11 0 fun c22 => mdel K28 3 v21 c22 m20 fun m23 => kn (IntKind.wrap .i64 (x_5 + 1)) (IntKind.wrap .i64 (x_14 + 1)) m23) (kn x_5 (IntKind.wrap .i64 (x_14 + 1)) m18)) False) (k0 x_5 m)

def L14_3 (b_0 o_0 : Nat) (x_1 : Int) (v_12 : AV) (x_13 : Int) : Nat → Int → Int → Mem → (Int → Mem → Prop) → Prop
  | 0, _, _,  _, _ => bump False
  | N + 1, x_5, x_14,  m, k0 => R14_3 b_0 o_0 x_1 v_12 x_13 x_5 x_14 m (fun x_5' x_14' m' => L14_3 b_0 o_0 x_1 v_12 x_13 N x_5' x_14' m' k0) k0

/-- (*pianola/cache.Cache).Drop -/
def F14 (b_0 o_0 : Nat) (x_1 : Int) (m : Mem) (k : Int → Mem → Prop) : Prop :=
  ldA m b_0 (o_0 + 1) fun v1 => F21 v1 m fun v2 m3 => klen v2 fun x4 => ∃ N26, L14_3 b_0 o_0 x_1 v2 x4 N26 0 0 m3 (fun x24 m25 => k x24 m25)

def G14 (args : List AV) (m : Mem) (k : KV) : Prop := match args with
  | [a0, a1] => kptr a0 fun b_0 o_0 => kI .i64 a1 fun x_1 => F14 b_0 o_0 x_1 m (fun x_1000 m' => k (.flat (.int .i64 x_1000)) m')
  | _ => False

def Lam14_3 (σ : Nat → AV) (m : Mem) (k : KX) : Prop := kptr (σ 0) fun b_0 o_0 => kI .i64 (σ 1) fun x_1 => kI .i64 (σ 5) fun x_5 => kI .i64 (σ 13) fun x_13 => kI .i64 (σ 14) fun x_14 => ∃ N, L14_3 b_0 o_0 x_1 (σ 12) x_13 N x_5 x_14 m (fun x_5' m' => k (.exit 0) (only [5] [(.flat (.int .i64 x_5'))]) m')

def Lam14 : LEnv := ⟨fun a σ m k => match firstReg a with
  | some 3 => Lam14_3 σ m k
  | _ => bump False,
  fun id => match id with
  | _ => bump false,
  fun b => match keyC b with
  | _ => bump false,
  fun b σ m k => match keyC b with
  | _ => bump False⟩

def lx14_3 : Ex → List Nat := fun e => match e with
  | .exit 0 => [5]
  | _ => []

theorem round14_3 (b_0 o_0 : Nat) (x_1 : Int) (v_12 : AV) (x_13 : Int) (x_5 : Int) (x_14 : Int) (m : Mem) (G : List AV → Mem → Prop) (k : KX) : (wpA Try.prog E14 Lam14 ((loopsOf (bodyOf Try.f14)).getD 0 .skip) (only [0, 1, 5, 12, 13, 14] [(.ptr b_0 o_0), (.flat (.int .i64 x_1)), (.flat (.int .i64 x_5)), v_12, (.flat (.int .i64 x_13)), (.flat (.int .i64 x_14))]) m fun e σ' m' => match e with
    | .normal => G ([0, 1, 5, 12, 13, 14].map σ') m'
    | .exit id => k (.exit id) (only (lx14_3 (.exit id)) ((lx14_3 (.exit id)).map σ')) m'
    | .ret => k .ret (only (lx14_3 .ret) ((lx14_3 .ret).map σ')) m') = R14_3 b_0 o_0 x_1 v_12 x_13 x_5 x_14 m (fun x_5' x_14' m' => G [(.ptr b_0 o_0), (.flat (.int .i64 x_1)), (.flat (.int .i64 x_5')), v_12, (.flat (.int .i64 x_13)), (.flat (.int .i64 x_14'))] m') (fun x_5' m' => k (.exit 0) (only [5] [(.flat (.int .i64 x_5'))]) m') := by
  kernel_rfl

theorem loop14_3 (b_0 o_0 : Nat) (x_1 : Int) (v_12 : AV) (x_13 : Int) (k : KX) : ∀ (N : Nat) (x_5 : Int) (x_14 : Int) (m : Mem), rounds Try.prog E14 Lam14 [0, 1, 5, 12, 13, 14] lx14_3 ((loopsOf (bodyOf Try.f14)).getD 0 .skip) N [(.ptr b_0 o_0), (.flat (.int .i64 x_1)), (.flat (.int .i64 x_5)), v_12, (.flat (.int .i64 x_13)), (.flat (.int .i64 x_14))] m k = L14_3 b_0 o_0 x_1 v_12 x_13 N x_5 x_14 m (fun x_5' m' => k (.exit 0) (only [5] [(.flat (.int .i64 x_5'))]) m') := by
  intro N
  induction N with
  | zero => intros; rfl
  | succ N ih =>
    intro x_5 x_14 m
    refine (round14_3 b_0 o_0 x_1 v_12 x_13 x_5 x_14 m (fun vs m' => rounds Try.prog E14 Lam14 [0, 1, 5, 12, 13, 14] lx14_3 ((loopsOf (bodyOf Try.f14)).getD 0 .skip) N vs m' k) k).trans ?_
    simp only [ih]
    rfl

theorem lok14_3 : LoopOK Try.prog E14 Lam14 ((loopsOf (bodyOf Try.f14)).getD 0 .skip) := by
  refine ⟨fun σ => ∃ b_0 o_0 x_1 x_5 v_12 x_13 x_14, σ 0 = .ptr b_0 o_0 ∧ σ 1 = .flat (.int .i64 x_1) ∧ σ 5 = .flat (.int .i64 x_5) ∧ σ 12 = v_12 ∧ σ 13 = .flat (.int .i64 x_13) ∧ σ 14 = .flat (.int .i64 x_14), [0, 1, 5, 12, 13, 14], lx14_3, fun σ m k => ?_⟩
  have e : Lam14.loop ((loopsOf (bodyOf Try.f14)).getD 0 .skip) σ m k = Lam14_3 σ m k := by kernel_rfl
  rw [e]
  constructor
  · intro h
    unfold Lam14_3 at h
    obtain ⟨b_0, o_0, h0, h⟩ := kptr_ok h
    obtain ⟨x_1, h1, h⟩ := kI_ok h
    obtain ⟨x_5, h2, h⟩ := kI_ok h
    obtain ⟨v_12, h3⟩ : ∃ v, σ 12 = v := ⟨_, rfl⟩
    obtain ⟨x_13, h4, h⟩ := kI_ok h
    obtain ⟨x_14, h5, h⟩ := kI_ok h
    obtain ⟨N, h⟩ := h
    refine ⟨⟨b_0, o_0, x_1, x_5, v_12, x_13, x_14, h0, h1, h2, h3, h4, h5⟩, N, ?_⟩
    have ev : [0, 1, 5, 12, 13, 14].map σ = [(.ptr b_0 o_0), (.flat (.int .i64 x_1)), (.flat (.int .i64 x_5)), v_12, (.flat (.int .i64 x_13)), (.flat (.int .i64 x_14))] := by simp only [List.map_cons, List.map_nil, h0, h1, h2, h3, h4, h5]
    rw [ev, loop14_3]
    simp only [h3] at h
    exact h
  · rintro ⟨⟨b_0, o_0, x_1, x_5, v_12, x_13, x_14, h0, h1, h2, h3, h4, h5⟩, N, h⟩
    have ev : [0, 1, 5, 12, 13, 14].map σ = [(.ptr b_0 o_0), (.flat (.int .i64 x_1)), (.flat (.int .i64 x_5)), v_12, (.flat (.int .i64 x_13)), (.flat (.int .i64 x_14))] := by simp only [List.map_cons, List.map_nil, h0, h1, h2, h3, h4, h5]
    rw [ev, loop14_3] at h
    unfold Lam14_3
    try simp only [h0, h1, h2, h3, h4, h5, kI, kbool, kS, kptr, kaggN, kite, decide_true, eq_self]
    exact ⟨N, h⟩

theorem eqn14 (b_0 o_0 : Nat) (x_1 : Int) (m : Mem) (k : KV) : bodyK Try.prog E14 Lam14 Try.f14 false [(.ptr b_0 o_0), (.flat (.int .i64 x_1))] m k = F14 b_0 o_0 x_1 m (fun x_1000 m' => k (.flat (.int .i64 x_1000)) m') := by
  kernel_rfl

theorem fs14 (w0 : World) : FS Try.prog w0 14 G14 := by
  refine (fs_body (Γ := E14) (sound_env (l := [(19, G19), (20, G20), (21, G21)]) w0 (by
    intro p hp
    simp only [List.mem_cons, List.not_mem_nil, or_false] at hp
    rcases hp with rfl | rfl | rfl
    · exact fs19 w0
    · exact fs20 w0
    · exact fs21 w0)) (by kernel_rfl) Try.func14 (Λ := Lam14) (c := (bodyOf Try.f14)) (by kernel_rfl) Try.call14 (by kernel_rfl) (LS_of (bodyOf Try.f14) 1 (by kernel_rfl) (by
    intro i hi
    match i, hi with
    | 0, _ => exact lok14_3
    | i + 1, hi => omega) 0 (by kernel_rfl) (fun i hi => absurd hi (Nat.not_lt_zero i))) false (np := 2) (Nat.le_of_ble_eq_true (by kernel_rfl))).imp fun args => ?_
  by_cases hl : args.length = 2
  rotate_left
  · exact .inr fun m k hk => by
      unfold G14 at hk
      split at hk
      · exact hl rfl
      · exact hk
  obtain ⟨a0, a1, rfl⟩ : ∃ a0 a1, args = [a0, a1] := len_list2 hl
  rcases kptr_or a0 with ⟨b_0, o_0, rfl⟩ | h
  rotate_left
  · exact .inr fun m k hk => h _ (by simpa only [G14, kI, kbool, kS, kptr, kaggN, kite, decide_true, eq_self] using hk)
  rcases kI_or .i64 a1 with ⟨x_1, rfl⟩ | h
  rotate_left
  · exact .inr fun m k hk => h _ (by simpa only [G14, kI, kbool, kS, kptr, kaggN, kite, decide_true, eq_self] using hk)
  exact .inl fun m k => propext ⟨fun h => ⟨rfl, by rw [eqn14]; simpa only [G14, kI, kbool, kS, kptr, kaggN, kite, decide_true, eq_self] using h⟩, fun h => by have h := h.2; rw [eqn14] at h; simpa only [G14, kI, kbool, kS, kptr, kaggN, kite, decide_true, eq_self] using h⟩

def E15 : Env := envOf []

/-- (*pianola/cache.Cache).Flush -/
def F15 (b_0 o_0 : Nat) (m : Mem) (k : Mem → Prop) : Prop :=
  stC m b_0 (o_0 + 1) (.flat (.slice none 0 0)) fun m1 => ldA m1 b_0 (o_0 + 2) fun v2 => mclear v2 m1 fun m3 => k  m3

def G15 (args : List AV) (m : Mem) (k : KV) : Prop := match args with
  | [a0] => kptr a0 fun b_0 o_0 => F15 b_0 o_0 m (fun m' => k (.tup []) m')
  | _ => False

def Lam15 : LEnv := ⟨fun a σ m k => match firstReg a with
  | _ => bump False,
  fun id => match id with
  | _ => bump false,
  fun b => match keyC b with
  | _ => bump false,
  fun b σ m k => match keyC b with
  | _ => bump False⟩

theorem eqn15 (b_0 o_0 : Nat) (m : Mem) (k : KV) : bodyK Try.prog E15 Lam15 Try.f15 false [(.ptr b_0 o_0)] m k = F15 b_0 o_0 m (fun m' => k (.tup []) m') := by
  kernel_rfl

theorem fs15 (w0 : World) : FS Try.prog w0 15 G15 := by
  refine (fs_body (Γ := E15) (sound_env (l := []) w0 (by
    intro p hp
    cases hp)) (by kernel_rfl) Try.func15 (Λ := Lam15) (c := (bodyOf Try.f15)) (by kernel_rfl) Try.call15 (by kernel_rfl) (LS_of (bodyOf Try.f15) 0 (by kernel_rfl) (fun i hi => absurd hi (Nat.not_lt_zero i)) 0 (by kernel_rfl) (fun i hi => absurd hi (Nat.not_lt_zero i))) false (np := 1) (Nat.le_of_ble_eq_true (by kernel_rfl))).imp fun args => ?_
  by_cases hl : args.length = 1
  rotate_left
  · exact .inr fun m k hk => by
      unfold G15 at hk
      split at hk
      · exact hl rfl
      · exact hk
  obtain ⟨a0, rfl⟩ : ∃ a0, args = [a0] := len_list1 hl
  rcases kptr_or a0 with ⟨b_0, o_0, rfl⟩ | h
  rotate_left
  · exact .inr fun m k hk => h _ (by simpa only [G15, kI, kbool, kS, kptr, kaggN, kite, decide_true, eq_self] using hk)
  exact .inl fun m k => propext ⟨fun h => ⟨rfl, by rw [eqn15]; simpa only [G15, kI, kbool, kS, kptr, kaggN, kite, decide_true, eq_self] using h⟩, fun h => by have h := h.2; rw [eqn15] at h; simpa only [G15, kI, kbool, kS, kptr, kaggN, kite, decide_true, eq_self] using h⟩

def E4 : Env := envOf [(7, G7), (8, G8), (9, G9), (10, G10), (11, G11), (12, G12), (13, G13), (14, G14), (15, G15)]

def R4_14 (v_0 : AV) (v_5 : AV) (x_6 : Int) (x_8 : Int) (x_10 : Int) (m : Mem) (kn : Int → Mem → Prop) (k2 : Mem → Prop) (kr : Bool → Mem → Prop) : Prop :=
  kif (decide (x_10 < x_6)) (ksl v_0 fun b38 o39 l40 p41 => kif (decide (0 ≤ x_10) && decide (x_10 < l40)) (ldI .u32 m b38 (o39 + (x_10).toNat * 1) fun x42 => kptr v_5 fun b43 o44 => F11 b43 o44 (upd (lget [(.flat (.int .u32 0)), (.flat (.int .i64 0)), (.flat (.int .i64 0))]) 0 (.flat (.int .u32 (bits .andNot .u32 (x42.tmod 8192) 3)))) m fun c45 x46 m47 => newK m47 ⟨4, lget [(.flat (.int .u32 0)), (.flat (.slice none 0 0)), (.flat (.slice none 0 0)), (.flat (.slice none 0 0))], 33, false⟩ fun b49 m48 => stG 4 m48 b49 0 c45 fun m50 => kif (!(x46 == ((IntKind.wrap .i64 (IntKind.wrap .u32 ((bits .andNot .u32 (x42.tmod 8192) 3).tdiv 1024))) != x_8))) (kr false m50) (kif x46 (ldI .u32 m50 b49 0 fun x51 => kif (x51 != (bits .andNot .u32 (x42.tmod 8192) 3)) (kr false m50) (kn (IntKind.wrap .i64 (x_10 + 1)) m50)) (kn (IntKind.wrap .i64 (x_10 + 1)) m50))) False) (k2  m)

def L4_14 (v_0 : AV) (v_5 : AV) (x_6 : Int) (x_8 : Int) : Nat → Int → Mem → (Mem → Prop) → (Bool → Mem → Prop) → Prop
  | 0, _,  _, _, _ => bump False
  | N + 1, x_10,  m, k2, kr => R4_14 v_0 v_5 x_6 x_8 x_10 m (fun x_10' m' => L4_14 v_0 v_5 x_6 x_8 N x_10' m' k2 kr) k2 kr

def R4_6 (v_0 : AV) (x_1 : Int) (v_5 : AV) (x_6 : Int) (x_7 : Int) (m : Mem) (kn : Int → Mem → Prop) (k0 : Mem → Prop) : Prop :=
  kif (decide (x_7 < x_6)) (ksl v_0 fun b5 o6 l7 p8 => kif (decide (0 ≤ x_7) && decide (x_7 < l7)) (ldI .u32 m b5 (o6 + (x_7).toNat * 1) fun x9 => ksl v_0 fun b10 o11 l12 p13 => kif (decide (0 ≤ x_7) && decide (x_7 < l12)) (ldI .u32 m b10 (o11 + (x_7).toNat * 1) fun x14 => kptr v_5 fun b15 o16 => F9 b15 o16 (upd (lget [(.flat (.int .u32 0)), (.flat (.int .i64 0)), (.flat (.int .i64 0))]) 0 (.flat (.int .u32 (bits .andNot .u32 (x9.tmod 8192) 3)))) (upd (lget [(.flat (.int .u32 0)), (.flat (.slice none 0 0)), (.flat (.slice none 0 0)), (.flat (.slice none 0 0))]) 0 (.flat (.int .u32 (bits .andNot .u32 (x14.tmod 8192) 3)))) m fun m17 => kn (IntKind.wrap .i64 (x_7 + 1)) m17) False) False) (k0  m)

def L4_6 (v_0 : AV) (x_1 : Int) (v_5 : AV) (x_6 : Int) : Nat → Int → Mem → (Mem → Prop) → Prop
  | 0, _,  _, _ => bump False
  | N + 1, x_7,  m, k0 => R4_6 v_0 x_1 v_5 x_6 x_7 m (fun x_7' m' => L4_6 v_0 x_1 v_5 x_6 N x_7' m' k0) k0

/-- pianola/pianolalaw22.CacheDrops -/
def F4 (v_0 : AV) (x_1 : Int) (m : Mem) (k : Bool → Mem → Prop) : Prop :=
  F8 100 m fun v1 m2 => knilP v1 fun x3 => kif x3 (k false m2) (klen v_0 fun x4 => ∃ N19, L4_6 v_0 x_1 v1 (if 40 < x4 then 40 else x4) N19 0 m2 (fun m18 => F7 x_1 0 7 m18 fun x20 m21 => kptr v1 fun b22 o23 => F13 b22 o23 x20 m21 fun x24 m25 => kptr v1 fun b26 o27 => F14 b26 o27 x20 m25 fun x28 m29 => kif (x28 != x24) (k false m29) (kptr v1 fun b30 o31 => F14 b30 o31 x20 m29 fun x32 m33 => kif (x32 != 0) (k false m33) (kptr v1 fun b34 o35 => F13 b34 o35 x20 m33 fun x36 m37 => kif (x36 != 0) (k false m37) (∃ N55, L4_14 v_0 v1 (if 40 < x4 then 40 else x4) x20 N55 0 m37 (fun m52 => kptr v1 fun b56 o57 => F15 b56 o57 m52 fun m58 => kptr v1 fun b59 o60 => F10 b59 o60 m58 fun x61 m62 => kif (x61 == 0) (F12  m62 fun x63 m64 => k x63 m64) (k false m62)) (fun x53 m54 => k x53 m54))))))

def G4 (args : List AV) (m : Mem) (k : KV) : Prop := match args with
  | [a0, a1] => kI .i64 a1 fun x_1 => F4 a0 x_1 m (fun x_1000 m' => k (.flat (.bool x_1000)) m')
  | _ => False

def Lam4_6 (σ : Nat → AV) (m : Mem) (k : KX) : Prop := kI .i64 (σ 1) fun x_1 => kI .i64 (σ 6) fun x_6 => kI .i64 (σ 7) fun x_7 => ∃ N, L4_6 (σ 0) x_1 (σ 5) x_6 N x_7 m (fun m' => k (.exit 0) (only [0, 1, 5, 6] [(σ 0), (.flat (.int .i64 x_1)), (σ 5), (.flat (.int .i64 x_6))]) m')

def Lam4_14 (σ : Nat → AV) (m : Mem) (k : KX) : Prop := kI .i64 (σ 6) fun x_6 => kI .i64 (σ 8) fun x_8 => kI .i64 (σ 10) fun x_10 => ∃ N, L4_14 (σ 0) (σ 5) x_6 x_8 N x_10 m (fun m' => k (.exit 2) (only [5] [(σ 5)]) m') (fun x_4' m' => k .ret (only [4] [(.flat (.bool x_4'))]) m')

def Lam4 : LEnv := ⟨fun a σ m k => match firstReg a with
  | some 6 => Lam4_6 σ m k
  | some 14 => Lam4_14 σ m k
  | _ => bump False,
  fun id => match id with
  | _ => bump false,
  fun b => match keyC b with
  | _ => bump false,
  fun b σ m k => match keyC b with
  | _ => bump False⟩

def lx4_14 : Ex → List Nat := fun e => match e with
  | .exit 2 => [5]
  | .ret => [4]
  | _ => []

theorem round4_14 (v_0 : AV) (v_5 : AV) (x_6 : Int) (x_8 : Int) (x_10 : Int) (m : Mem) (G : List AV → Mem → Prop) (k : KX) : (wpA Try.prog E4 Lam4 ((loopsOf (bodyOf Try.f4)).getD 1 .skip) (only [0, 5, 6, 8, 10] [v_0, v_5, (.flat (.int .i64 x_6)), (.flat (.int .i64 x_8)), (.flat (.int .i64 x_10))]) m fun e σ' m' => match e with
    | .normal => G ([0, 5, 6, 8, 10].map σ') m'
    | .exit id => k (.exit id) (only (lx4_14 (.exit id)) ((lx4_14 (.exit id)).map σ')) m'
    | .ret => k .ret (only (lx4_14 .ret) ((lx4_14 .ret).map σ')) m') = R4_14 v_0 v_5 x_6 x_8 x_10 m (fun x_10' m' => G [v_0, v_5, (.flat (.int .i64 x_6)), (.flat (.int .i64 x_8)), (.flat (.int .i64 x_10'))] m') (fun m' => k (.exit 2) (only [5] [v_5]) m') (fun x_4' m' => k .ret (only [4] [(.flat (.bool x_4'))]) m') := by
  kernel_rfl

theorem loop4_14 (v_0 : AV) (v_5 : AV) (x_6 : Int) (x_8 : Int) (k : KX) : ∀ (N : Nat) (x_10 : Int) (m : Mem), rounds Try.prog E4 Lam4 [0, 5, 6, 8, 10] lx4_14 ((loopsOf (bodyOf Try.f4)).getD 1 .skip) N [v_0, v_5, (.flat (.int .i64 x_6)), (.flat (.int .i64 x_8)), (.flat (.int .i64 x_10))] m k = L4_14 v_0 v_5 x_6 x_8 N x_10 m (fun m' => k (.exit 2) (only [5] [v_5]) m') (fun x_4' m' => k .ret (only [4] [(.flat (.bool x_4'))]) m') := by
  intro N
  induction N with
  | zero => intros; rfl
  | succ N ih =>
    intro x_10 m
    refine (round4_14 v_0 v_5 x_6 x_8 x_10 m (fun vs m' => rounds Try.prog E4 Lam4 [0, 5, 6, 8, 10] lx4_14 ((loopsOf (bodyOf Try.f4)).getD 1 .skip) N vs m' k) k).trans ?_
    simp only [ih]
    rfl

theorem lok4_14 : LoopOK Try.prog E4 Lam4 ((loopsOf (bodyOf Try.f4)).getD 1 .skip) := by
  refine ⟨fun σ => ∃ v_0 v_5 x_6 x_8 x_10, σ 0 = v_0 ∧ σ 5 = v_5 ∧ σ 6 = .flat (.int .i64 x_6) ∧ σ 8 = .flat (.int .i64 x_8) ∧ σ 10 = .flat (.int .i64 x_10), [0, 5, 6, 8, 10], lx4_14, fun σ m k => ?_⟩
  have e : Lam4.loop ((loopsOf (bodyOf Try.f4)).getD 1 .skip) σ m k = Lam4_14 σ m k := by kernel_rfl
  rw [e]
  constructor
  · intro h
    unfold Lam4_14 at h
    obtain ⟨v_0, h0⟩ : ∃ v, σ 0 = v := ⟨_, rfl⟩
    obtain ⟨v_5, h1⟩ : ∃ v, σ 5 = v := ⟨_, rfl⟩
    obtain ⟨x_6, h2, h⟩ := kI_ok h
    obtain ⟨x_8, h3, h⟩ := kI_ok h
    obtain ⟨x_10, h4, h⟩ := kI_ok h
    obtain ⟨N, h⟩ := h
    refine ⟨⟨v_0, v_5, x_6, x_8, x_10, h0, h1, h2, h3, h4⟩, N, ?_⟩
    have ev : [0, 5, 6, 8, 10].map σ = [v_0, v_5, (.flat (.int .i64 x_6)), (.flat (.int .i64 x_8)), (.flat (.int .i64 x_10))] := by simp only [List.map_cons, List.map_nil, h0, h1, h2, h3, h4]
    rw [ev, loop4_14]
    simp only [h0, h1] at h
    exact h
  · rintro ⟨⟨v_0, v_5, x_6, x_8, x_10, h0, h1, h2, h3, h4⟩, N, h⟩
    have ev : [0, 5, 6, 8, 10].map σ = [v_0, v_5, (.flat (.int .i64 x_6)), (.flat (.int .i64 x_8)), (.flat (.int .i64 x_10))] := by simp only [List.map_cons, List.map_nil, h0, h1, h2, h3, h4]
    rw [ev, loop4_14] at h
    unfold Lam4_14
    try simp only [h0, h1, h2, h3, h4, kI, kbool, kS, kptr, kaggN, kite, decide_true, eq_self]
    exact ⟨N, h⟩

def lx4_6 : Ex → List Nat := fun e => match e with
  | .exit 0 => [0, 1, 5, 6]
  | _ => []

theorem round4_6 (v_0 : AV) (x_1 : Int) (v_5 : AV) (x_6 : Int) (x_7 : Int) (m : Mem) (G : List AV → Mem → Prop) (k : KX) : (wpA Try.prog E4 Lam4 ((loopsOf (bodyOf Try.f4)).getD 0 .skip) (only [0, 1, 5, 6, 7] [v_0, (.flat (.int .i64 x_1)), v_5, (.flat (.int .i64 x_6)), (.flat (.int .i64 x_7))]) m fun e σ' m' => match e with
    | .normal => G ([0, 1, 5, 6, 7].map σ') m'
    | .exit id => k (.exit id) (only (lx4_6 (.exit id)) ((lx4_6 (.exit id)).map σ')) m'
    | .ret => k .ret (only (lx4_6 .ret) ((lx4_6 .ret).map σ')) m') = R4_6 v_0 x_1 v_5 x_6 x_7 m (fun x_7' m' => G [v_0, (.flat (.int .i64 x_1)), v_5, (.flat (.int .i64 x_6)), (.flat (.int .i64 x_7'))] m') (fun m' => k (.exit 0) (only [0, 1, 5, 6] [v_0, (.flat (.int .i64 x_1)), v_5, (.flat (.int .i64 x_6))]) m') := by
  kernel_rfl

theorem loop4_6 (v_0 : AV) (x_1 : Int) (v_5 : AV) (x_6 : Int) (k : KX) : ∀ (N : Nat) (x_7 : Int) (m : Mem), rounds Try.prog E4 Lam4 [0, 1, 5, 6, 7] lx4_6 ((loopsOf (bodyOf Try.f4)).getD 0 .skip) N [v_0, (.flat (.int .i64 x_1)), v_5, (.flat (.int .i64 x_6)), (.flat (.int .i64 x_7))] m k = L4_6 v_0 x_1 v_5 x_6 N x_7 m (fun m' => k (.exit 0) (only [0, 1, 5, 6] [v_0, (.flat (.int .i64 x_1)), v_5, (.flat (.int .i64 x_6))]) m') := by
  intro N
  induction N with
  | zero => intros; rfl
  | succ N ih =>
    intro x_7 m
    refine (round4_6 v_0 x_1 v_5 x_6 x_7 m (fun vs m' => rounds Try.prog E4 Lam4 [0, 1, 5, 6, 7] lx4_6 ((loopsOf (bodyOf Try.f4)).getD 0 .skip) N vs m' k) k).trans ?_
    simp only [ih]
    rfl

theorem lok4_6 : LoopOK Try.prog E4 Lam4 ((loopsOf (bodyOf Try.f4)).getD 0 .skip) := by
  refine ⟨fun σ => ∃ v_0 x_1 v_5 x_6 x_7, σ 0 = v_0 ∧ σ 1 = .flat (.int .i64 x_1) ∧ σ 5 = v_5 ∧ σ 6 = .flat (.int .i64 x_6) ∧ σ 7 = .flat (.int .i64 x_7), [0, 1, 5, 6, 7], lx4_6, fun σ m k => ?_⟩
  have e : Lam4.loop ((loopsOf (bodyOf Try.f4)).getD 0 .skip) σ m k = Lam4_6 σ m k := by kernel_rfl
  rw [e]
  constructor
  · intro h
    unfold Lam4_6 at h
    obtain ⟨v_0, h0⟩ : ∃ v, σ 0 = v := ⟨_, rfl⟩
    obtain ⟨x_1, h1, h⟩ := kI_ok h
    obtain ⟨v_5, h2⟩ : ∃ v, σ 5 = v := ⟨_, rfl⟩
    obtain ⟨x_6, h3, h⟩ := kI_ok h
    obtain ⟨x_7, h4, h⟩ := kI_ok h
    obtain ⟨N, h⟩ := h
    refine ⟨⟨v_0, x_1, v_5, x_6, x_7, h0, h1, h2, h3, h4⟩, N, ?_⟩
    have ev : [0, 1, 5, 6, 7].map σ = [v_0, (.flat (.int .i64 x_1)), v_5, (.flat (.int .i64 x_6)), (.flat (.int .i64 x_7))] := by simp only [List.map_cons, List.map_nil, h0, h1, h2, h3, h4]
    rw [ev, loop4_6]
    simp only [h0, h2] at h
    exact h
  · rintro ⟨⟨v_0, x_1, v_5, x_6, x_7, h0, h1, h2, h3, h4⟩, N, h⟩
    have ev : [0, 1, 5, 6, 7].map σ = [v_0, (.flat (.int .i64 x_1)), v_5, (.flat (.int .i64 x_6)), (.flat (.int .i64 x_7))] := by simp only [List.map_cons, List.map_nil, h0, h1, h2, h3, h4]
    rw [ev, loop4_6] at h
    unfold Lam4_6
    try simp only [h0, h1, h2, h3, h4, kI, kbool, kS, kptr, kaggN, kite, decide_true, eq_self]
    exact ⟨N, h⟩

theorem eqn4 (v_0 : AV) (x_1 : Int) (m : Mem) (k : KV) : bodyK Try.prog E4 Lam4 Try.f4 false [v_0, (.flat (.int .i64 x_1))] m k = F4 v_0 x_1 m (fun x_1000 m' => k (.flat (.bool x_1000)) m') := by
  kernel_rfl

theorem fs4 (w0 : World) : FS Try.prog w0 4 G4 := by
  refine (fs_body (Γ := E4) (sound_env (l := [(7, G7), (8, G8), (9, G9), (10, G10), (11, G11), (12, G12), (13, G13), (14, G14), (15, G15)]) w0 (by
    intro p hp
    simp only [List.mem_cons, List.not_mem_nil, or_false] at hp
    rcases hp with rfl | rfl | rfl | rfl | rfl | rfl | rfl | rfl | rfl
    · exact fs7 w0
    · exact fs8 w0
    · exact fs9 w0
    · exact fs10 w0
    · exact fs11 w0
    · exact fs12 w0
    · exact fs13 w0
    · exact fs14 w0
    · exact fs15 w0)) (by kernel_rfl) Try.func4 (Λ := Lam4) (c := (bodyOf Try.f4)) (by kernel_rfl) Try.call4 (by kernel_rfl) (LS_of (bodyOf Try.f4) 2 (by kernel_rfl) (by
    intro i hi
    match i, hi with
    | 0, _ => exact lok4_6
    | 1, _ => exact lok4_14
    | i + 2, hi => omega) 0 (by kernel_rfl) (fun i hi => absurd hi (Nat.not_lt_zero i))) false (np := 2) (Nat.le_of_ble_eq_true (by kernel_rfl))).imp fun args => ?_
  by_cases hl : args.length = 2
  rotate_left
  · exact .inr fun m k hk => by
      unfold G4 at hk
      split at hk
      · exact hl rfl
      · exact hk
  obtain ⟨a0, a1, rfl⟩ : ∃ a0 a1, args = [a0, a1] := len_list2 hl
  rcases kI_or .i64 a1 with ⟨x_1, rfl⟩ | h
  rotate_left
  · exact .inr fun m k hk => h _ (by simpa only [G4, kI, kbool, kS, kptr, kaggN, kite, decide_true, eq_self] using hk)
  exact .inl fun m k => propext ⟨fun h => ⟨rfl, by rw [eqn4]; simpa only [G4, kI, kbool, kS, kptr, kaggN, kite, decide_true, eq_self] using h⟩, fun h => by have h := h.2; rw [eqn4] at h; simpa only [G4, kI, kbool, kS, kptr, kaggN, kite, decide_true, eq_self] using h⟩

def E22 : Env := envOf [(7, G7)]

/-- pianola/pianolalaw22.key -/
def F22 (c_0 : Nat → AV) (m : Mem) (k : (Nat → AV) → Mem → Prop) : Prop :=
  newK m ⟨5, c_0, 44, false⟩ fun b2 m1 => newK m1 ⟨3, lget [(.flat (.int .u32 0)), (.flat (.int .i64 0)), (.flat (.int .i64 0))], 28, false⟩ fun b4 m3 => ∃ Fr5 : Nat → Prop, Fr5 b2 ∧ (ldI .u32 m3 b2 4 fun x6 => Fr5 b2 ∧ (ldI .i64 m3 b2 1 fun x7 => F7 x7 0 1 m3 fun x8 m9 => KeepsIn Fr5 m3 m9 ∧ (Fr5 b2 ∧ (ldI .i64 m9 b2 2 fun x10 => F7 x10 0 1 m9 fun x11 m12 => KeepsIn Fr5 m9 m12 ∧ (stG 3 m12 b4 0 (upd (upd (upd (lget [(.flat (.int .u32 0)), (.flat (.int .i64 0)), (.flat (.int .i64 0))]) 0 (.flat (.int .u32 (bits .andNot .u32 (IntKind.wrap .u32 ((x6.tmod 12) * 400)) 3)))) 1 (.flat (.int .i64 x8))) 2 (.flat (.int .i64 (IntKind.wrap .i64 (1 + x11))))) fun m13 => ldG 3 m13 b4 0 fun c14 => (Keeps m m13 ∧ InDomG 3 m c14 ∧ k c14 m))))))

def G22 (args : List AV) (m : Mem) (k : KV) : Prop := match args with
  | [a0] => kaggN 5 a0 fun c_0 => F22 c_0 m (fun c_1000 m' => k (.agg 3 c_1000) m')
  | _ => False

def Lam22 : LEnv := ⟨fun a σ m k => match firstReg a with
  | _ => bump False,
  fun id => match id with
  | 1 => true
  | _ => bump false,
  fun b => match keyC b with
  | _ => bump false,
  fun b σ m k => match keyC b with
  | _ => bump False⟩

theorem eqn22 (c_0 : Nat → AV) (m : Mem) (k : KV) : bodyK Try.prog E22 Lam22 Try.f22 true [(.agg 5 c_0)] m k = F22 c_0 m (fun c_1000 m' => k (.agg 3 c_1000) m') := by
  kernel_rfl

theorem fs22 (w0 : World) : FS Try.prog w0 22 G22 := by
  refine (fs_body (Γ := E22) (sound_env (l := [(7, G7)]) w0 (by
    intro p hp
    simp only [List.mem_cons, List.not_mem_nil, or_false] at hp
    rcases hp with rfl
    · exact fs7 w0)) (by kernel_rfl) Try.func22 (Λ := Lam22) (c := (bodyOf Try.f22)) (by kernel_rfl) Try.call22 (by kernel_rfl) (LS_of (bodyOf Try.f22) 0 (by kernel_rfl) (fun i hi => absurd hi (Nat.not_lt_zero i)) 0 (by kernel_rfl) (fun i hi => absurd hi (Nat.not_lt_zero i))) true (np := 1) (Nat.le_of_ble_eq_true (by kernel_rfl))).imp fun args => ?_
  by_cases hl : args.length = 1
  rotate_left
  · exact .inr fun m k hk => by
      unfold G22 at hk
      split at hk
      · exact hl rfl
      · exact hk
  obtain ⟨a0, rfl⟩ : ∃ a0, args = [a0] := len_list1 hl
  rcases kaggN_or 5 a0 with ⟨c_0, rfl⟩ | h
  rotate_left
  · exact .inr fun m k hk => h _ (by simpa only [G22, kI, kbool, kS, kptr, kaggN, kite, decide_true, eq_self] using hk)
  exact .inl fun m k => propext ⟨fun h => ⟨rfl, by rw [eqn22]; simpa only [G22, kI, kbool, kS, kptr, kaggN, kite, decide_true, eq_self] using h⟩, fun h => by have h := h.2; rw [eqn22] at h; simpa only [G22, kI, kbool, kS, kptr, kaggN, kite, decide_true, eq_self] using h⟩

def E23 : Env := envOf []

def R23_4 (v_0 : AV) (v_1 : AV) (x_5 : Int) (m : Mem) (kn : Int → Mem → Prop) (k0 : Mem → Prop) (kr : Bool → Mem → Prop) : Prop :=
  klen v_0 fun x3 => kif (decide (x_5 < x3)) (ksl v_0 fun b4 o5 l6 p7 => kif (decide (0 ≤ x_5) && decide (x_5 < l6)) (ldG 3 m b4 (o5 + (x_5).toNat * 3) fun c8 => ksl v_1 fun b9 o10 l11 p12 => kif (decide (0 ≤ x_5) && decide (x_5 < l11)) (ldG 3 m b9 (o10 + (x_5).toNat * 3) fun c13 => geq K28 c8 c13 fun x14 => kif (!x14) (kr false m) (kn (IntKind.wrap .i64 (x_5 + 1)) m)) False) False) (k0  m)

def L23_4 (v_0 : AV) (v_1 : AV) : Nat → Int → Mem → (Mem → Prop) → (Bool → Mem → Prop) → Prop
  | 0, _,  _, _, _ => bump False
  | N + 1, x_5,  m, k0, kr => R23_4 v_0 v_1 x_5 m (fun x_5' m' => L23_4 v_0 v_1 N x_5' m' k0 kr) k0 kr

/-- pianola/pianolabook.Same[pianola/cache.Key] -/
def F23 (v_0 : AV) (v_1 : AV) (m : Mem) (k : Bool → Mem → Prop) : Prop :=
  klen v_0 fun x1 => klen v_1 fun x2 => kif (x1 != x2) ((Keeps m m ∧ k false m)) (∃ N18, L23_4 v_0 v_1 N18 0 m (fun m15 => (Keeps m m15 ∧ k true m)) (fun x16 m17 => (Keeps m m17 ∧ k x16 m)))

def G23 (args : List AV) (m : Mem) (k : KV) : Prop := match args with
  | [a0, a1] => F23 a0 a1 m (fun x_1000 m' => k (.flat (.bool x_1000)) m')
  | _ => False

def Lam23_4 (σ : Nat → AV) (m : Mem) (k : KX) : Prop := kI .i64 (σ 5) fun x_5 => ∃ N, L23_4 (σ 0) (σ 1) N x_5 m (fun m' => k (.exit 0) (only [] []) m') (fun x_4' m' => k .ret (only [4] [(.flat (.bool x_4'))]) m')

def Lam23 : LEnv := ⟨fun a σ m k => match firstReg a with
  | some 4 => Lam23_4 σ m k
  | _ => bump False,
  fun id => match id with
  | _ => bump false,
  fun b => match keyC b with
  | _ => bump false,
  fun b σ m k => match keyC b with
  | _ => bump False⟩

def lx23_4 : Ex → List Nat := fun e => match e with
  | .exit 0 => []
  | .ret => [4]
  | _ => []

theorem round23_4 (v_0 : AV) (v_1 : AV) (x_5 : Int) (m : Mem) (G : List AV → Mem → Prop) (k : KX) : (wpA Try.prog E23 Lam23 ((loopsOf (bodyOf Try.f23)).getD 0 .skip) (only [0, 1, 5] [v_0, v_1, (.flat (.int .i64 x_5))]) m fun e σ' m' => match e with
    | .normal => G ([0, 1, 5].map σ') m'
    | .exit id => k (.exit id) (only (lx23_4 (.exit id)) ((lx23_4 (.exit id)).map σ')) m'
    | .ret => k .ret (only (lx23_4 .ret) ((lx23_4 .ret).map σ')) m') = R23_4 v_0 v_1 x_5 m (fun x_5' m' => G [v_0, v_1, (.flat (.int .i64 x_5'))] m') (fun m' => k (.exit 0) (only [] []) m') (fun x_4' m' => k .ret (only [4] [(.flat (.bool x_4'))]) m') := by
  kernel_rfl

theorem loop23_4 (v_0 : AV) (v_1 : AV) (k : KX) : ∀ (N : Nat) (x_5 : Int) (m : Mem), rounds Try.prog E23 Lam23 [0, 1, 5] lx23_4 ((loopsOf (bodyOf Try.f23)).getD 0 .skip) N [v_0, v_1, (.flat (.int .i64 x_5))] m k = L23_4 v_0 v_1 N x_5 m (fun m' => k (.exit 0) (only [] []) m') (fun x_4' m' => k .ret (only [4] [(.flat (.bool x_4'))]) m') := by
  intro N
  induction N with
  | zero => intros; rfl
  | succ N ih =>
    intro x_5 m
    refine (round23_4 v_0 v_1 x_5 m (fun vs m' => rounds Try.prog E23 Lam23 [0, 1, 5] lx23_4 ((loopsOf (bodyOf Try.f23)).getD 0 .skip) N vs m' k) k).trans ?_
    simp only [ih]
    rfl

theorem lok23_4 : LoopOK Try.prog E23 Lam23 ((loopsOf (bodyOf Try.f23)).getD 0 .skip) := by
  refine ⟨fun σ => ∃ v_0 v_1 x_5, σ 0 = v_0 ∧ σ 1 = v_1 ∧ σ 5 = .flat (.int .i64 x_5), [0, 1, 5], lx23_4, fun σ m k => ?_⟩
  have e : Lam23.loop ((loopsOf (bodyOf Try.f23)).getD 0 .skip) σ m k = Lam23_4 σ m k := by kernel_rfl
  rw [e]
  constructor
  · intro h
    unfold Lam23_4 at h
    obtain ⟨v_0, h0⟩ : ∃ v, σ 0 = v := ⟨_, rfl⟩
    obtain ⟨v_1, h1⟩ : ∃ v, σ 1 = v := ⟨_, rfl⟩
    obtain ⟨x_5, h2, h⟩ := kI_ok h
    obtain ⟨N, h⟩ := h
    refine ⟨⟨v_0, v_1, x_5, h0, h1, h2⟩, N, ?_⟩
    have ev : [0, 1, 5].map σ = [v_0, v_1, (.flat (.int .i64 x_5))] := by simp only [List.map_cons, List.map_nil, h0, h1, h2]
    rw [ev, loop23_4]
    simp only [h0, h1] at h
    exact h
  · rintro ⟨⟨v_0, v_1, x_5, h0, h1, h2⟩, N, h⟩
    have ev : [0, 1, 5].map σ = [v_0, v_1, (.flat (.int .i64 x_5))] := by simp only [List.map_cons, List.map_nil, h0, h1, h2]
    rw [ev, loop23_4] at h
    unfold Lam23_4
    try simp only [h0, h1, h2, kI, kbool, kS, kptr, kaggN, kite, decide_true, eq_self]
    exact ⟨N, h⟩

theorem eqn23 (v_0 : AV) (v_1 : AV) (m : Mem) (k : KV) : bodyK Try.prog E23 Lam23 Try.f23 true [v_0, v_1] m k = F23 v_0 v_1 m (fun x_1000 m' => k (.flat (.bool x_1000)) m') := by
  kernel_rfl

theorem fs23 (w0 : World) : FS Try.prog w0 23 G23 := by
  refine (fs_body (Γ := E23) (sound_env (l := []) w0 (by
    intro p hp
    cases hp)) (by kernel_rfl) Try.func23 (Λ := Lam23) (c := (bodyOf Try.f23)) (by kernel_rfl) Try.call23 (by kernel_rfl) (LS_of (bodyOf Try.f23) 1 (by kernel_rfl) (by
    intro i hi
    match i, hi with
    | 0, _ => exact lok23_4
    | i + 1, hi => omega) 0 (by kernel_rfl) (fun i hi => absurd hi (Nat.not_lt_zero i))) true (np := 2) (Nat.le_of_ble_eq_true (by kernel_rfl))).imp fun args => ?_
  by_cases hl : args.length = 2
  rotate_left
  · exact .inr fun m k hk => by
      unfold G23 at hk
      split at hk
      · exact hl rfl
      · exact hk
  obtain ⟨a0, a1, rfl⟩ : ∃ a0 a1, args = [a0, a1] := len_list2 hl

  exact .inl fun m k => propext ⟨fun h => ⟨rfl, by rw [eqn23]; simpa only [G23, kI, kbool, kS, kptr, kaggN, kite, decide_true, eq_self] using h⟩, fun h => by have h := h.2; rw [eqn23] at h; simpa only [G23, kI, kbool, kS, kptr, kaggN, kite, decide_true, eq_self] using h⟩

def E24 : Env := envOf [(21, G21)]

/-- (*pianola/cache.Cache).Keys -/
def F24 (b_0 o_0 : Nat) (m : Mem) (k : AV → Mem → Prop) : Prop :=
  ldA m b_0 (o_0 + 1) fun v1 => F21 v1 m fun v2 m3 => k v2 m3

def G24 (args : List AV) (m : Mem) (k : KV) : Prop := match args with
  | [a0] => kptr a0 fun b_0 o_0 => F24 b_0 o_0 m (fun v_1000 m' => k v_1000 m')
  | _ => False

def Lam24 : LEnv := ⟨fun a σ m k => match firstReg a with
  | _ => bump False,
  fun id => match id with
  | _ => bump false,
  fun b => match keyC b with
  | _ => bump false,
  fun b σ m k => match keyC b with
  | _ => bump False⟩

theorem eqn24 (b_0 o_0 : Nat) (m : Mem) (k : KV) : bodyK Try.prog E24 Lam24 Try.f24 false [(.ptr b_0 o_0)] m k = F24 b_0 o_0 m (fun v_1000 m' => k v_1000 m') := by
  kernel_rfl

theorem fs24 (w0 : World) : FS Try.prog w0 24 G24 := by
  refine (fs_body (Γ := E24) (sound_env (l := [(21, G21)]) w0 (by
    intro p hp
    simp only [List.mem_cons, List.not_mem_nil, or_false] at hp
    rcases hp with rfl
    · exact fs21 w0)) (by kernel_rfl) Try.func24 (Λ := Lam24) (c := (bodyOf Try.f24)) (by kernel_rfl) Try.call24 (by kernel_rfl) (LS_of (bodyOf Try.f24) 0 (by kernel_rfl) (fun i hi => absurd hi (Nat.not_lt_zero i)) 0 (by kernel_rfl) (fun i hi => absurd hi (Nat.not_lt_zero i))) false (np := 1) (Nat.le_of_ble_eq_true (by kernel_rfl))).imp fun args => ?_
  by_cases hl : args.length = 1
  rotate_left
  · exact .inr fun m k hk => by
      unfold G24 at hk
      split at hk
      · exact hl rfl
      · exact hk
  obtain ⟨a0, rfl⟩ : ∃ a0, args = [a0] := len_list1 hl
  rcases kptr_or a0 with ⟨b_0, o_0, rfl⟩ | h
  rotate_left
  · exact .inr fun m k hk => h _ (by simpa only [G24, kI, kbool, kS, kptr, kaggN, kite, decide_true, eq_self] using hk)
  exact .inl fun m k => propext ⟨fun h => ⟨rfl, by rw [eqn24]; simpa only [G24, kI, kbool, kS, kptr, kaggN, kite, decide_true, eq_self] using h⟩, fun h => by have h := h.2; rw [eqn24] at h; simpa only [G24, kI, kbool, kS, kptr, kaggN, kite, decide_true, eq_self] using h⟩

def E16 : Env := envOf [(7, G7), (8, G8), (9, G9), (10, G10), (11, G11), (13, G13), (14, G14), (15, G15), (17, G17), (18, G18), (22, G22), (23, G23), (24, G24)]

def R16_55 (v_1 : AV) (v_5 : AV) (x_6 : Int) (v_7 : AV) (v_8 : AV) (x_9 : Int) (x_20 : Int) (x_21 : Int) (m : Mem) (kn : Int → Int → Mem → Prop) (k7 : Int → Mem → Prop) : Prop :=
  klen v_7 fun x222 => kif (decide (x_21 < x222)) (ksl v_7 fun b223 o224 l225 p226 => kif (decide (0 ≤ x_21) && decide (x_21 < l225)) (ldI .u32 m b223 (o224 + (x_21).toNat * 3 + 0) fun x227 => kif ((IntKind.wrap .u32 (x227.tdiv 1024)) == 1) (kn (IntKind.wrap .i64 (x_20 + 1)) (IntKind.wrap .i64 (x_21 + 1)) m) (kn x_20 (IntKind.wrap .i64 (x_21 + 1)) m)) False) (k7 x_20 m)

def L16_55 (v_1 : AV) (v_5 : AV) (x_6 : Int) (v_7 : AV) (v_8 : AV) (x_9 : Int) : Nat → Int → Int → Mem → (Int → Mem → Prop) → Prop
  | 0, _, _,  _, _ => bump False
  | N + 1, x_20, x_21,  m, k7 => R16_55 v_1 v_5 x_6 v_7 v_8 x_9 x_20 x_21 m (fun x_20' x_21' m' => L16_55 v_1 v_5 x_6 v_7 v_8 x_9 N x_20' x_21' m' k7) k7

def P16_53102 (v_1 : AV) (v_5 : AV) (x_6 : Int) (v_7 : AV) (v_8 : AV) (x_9 : Int) (m : Mem) (kr : Bool → Mem → Prop) (kn : Mem → Prop) : Prop :=
  ∃ N230, L16_55 v_1 v_5 x_6 v_7 v_8 x_9 N230 0 0 m (fun x228 m229 => kptr v_5 fun b231 o232 => F10 b231 o232 m229 fun x233 m234 => klen v_7 fun x235 => kif (x233 != x235) (kr false m234) (kptr v_5 fun b236 o237 => F24 b236 o237 m234 fun v238 m239 => F23 v238 v_7 m239 fun x240 m241 => kif (!x240) (kr false m241) (kptr v_5 fun b242 o243 => F13 b242 o243 1 m241 fun x244 m245 => kif (x244 != x228) (kr false m245) (kn  m245))))

def P16_23002 (v_1 : AV) (v_5 : AV) (x_6 : Int) (v_7 : AV) (v_8 : AV) (x_9 : Int) (b_10 o_10 : Nat) (m : Mem) (kn : AV → AV → Mem → Prop) : Prop :=
  ldG 3 m b_10 o_10 fun c194 => newK m ⟨3, splice (lget [(.flat (.int .u32 0)), (.flat (.int .i64 0)), (.flat (.int .i64 0))]) 0 3 c194, 28, false⟩ fun b196 m195 => appS 3 24 28 v_7 (.sl b196 0 1 (.ex 1)) m195 fun v197 m198 => newK m198 ⟨1, upd (lget [(.flat (.int .u32 0))]) 0 (.flat (.int .u32 (IntKind.wrap .u32 x_9))), 26, false⟩ fun b200 m199 => appS 1 4 26 v_8 (.sl b200 0 1 (.ex 1)) m199 fun v201 m202 => kn v197 v201 m202

def R16_37 (v_1 : AV) (v_5 : AV) (x_6 : Int) (v_7 : AV) (v_8 : AV) (x_9 : Int) (x_18 : Int) (v_16 : AV) (v_17 : AV) (x_19 : Int) (m : Mem) (kn : AV → AV → Int → Mem → Prop) (k5 : AV → AV → Mem → Prop) : Prop :=
  klen v_7 fun x103 => kif (decide (x_19 < x103)) (ksl v_7 fun b104 o105 l106 p107 => kif (decide (0 ≤ x_19) && decide (x_19 < l106)) (ldI .u32 m b104 (o105 + (x_19).toNat * 3 + 0) fun x108 => kif ((IntKind.wrap .i64 (IntKind.wrap .u32 (x108.tdiv 1024))) != x_18) (∃ Fr109 : Nat → Prop, ksl v_7 fun b110 o111 l112 p113 => kif (decide (0 ≤ x_19) && decide (x_19 < l112)) (Fr109 b110 ∧ (ldG 3 m b110 (o111 + (x_19).toNat * 3) fun c114 => newK m ⟨3, splice (lget [(.flat (.int .u32 0)), (.flat (.int .i64 0)), (.flat (.int .i64 0))]) 0 3 c114, 28, false⟩ fun b116 m115 => appS 3 24 28 v_16 (.sl b116 0 1 (.ex 1)) m115 fun v117 m118 => KeepsIn Fr109 m115 m118 ∧ (ksl v_8 fun b119 o120 l121 p122 => kif (decide (0 ≤ x_19) && decide (x_19 < l121)) (Fr109 b119 ∧ (ldI .u32 m118 b119 (o120 + (x_19).toNat * 1) fun x123 => newK m118 ⟨1, upd (lget [(.flat (.int .u32 0))]) 0 (.flat (.int .u32 x123)), 26, false⟩ fun b125 m124 => appS 1 4 26 v_17 (.sl b125 0 1 (.ex 1)) m124 fun v126 m127 => KeepsIn Fr109 m124 m127 ∧ (kn v117 v126 (IntKind.wrap .i64 (x_19 + 1)) m127))) False))) False) (kn v_16 v_17 (IntKind.wrap .i64 (x_19 + 1)) m)) False) (k5 v_16 v_17 m)

def L16_37 (v_1 : AV) (v_5 : AV) (x_6 : Int) (v_7 : AV) (v_8 : AV) (x_9 : Int) (x_18 : Int) : Nat → AV → AV → Int → Mem → (AV → AV → Mem → Prop) → Prop
  | 0, _, _, _,  _, _ => bump False
  | N + 1, v_16, v_17, x_19,  m, k5 => R16_37 v_1 v_5 x_6 v_7 v_8 x_9 x_18 v_16 v_17 x_19 m (fun v_16' v_17' x_19' m' => L16_37 v_1 v_5 x_6 v_7 v_8 x_9 x_18 N v_16' v_17' x_19' m' k5) k5

def P16_29102 (v_1 : AV) (v_5 : AV) (x_6 : Int) (v_7 : AV) (v_8 : AV) (x_9 : Int) (b_10 o_10 : Nat) (x_11 : Int) (x_14 : Bool) (m : Mem) (kn : AV → AV → Mem → Prop) : Prop :=
  kif x_14 (ksl v_8 fun b59 o60 l61 p62 => kif (decide (0 ≤ x_11) && decide (x_11 < l61)) (ldI .u32 m b59 (o60 + (x_11).toNat * 1) fun x63 => ∃ Fr64 : Nat → Prop, newK m ⟨0, lget [], 28, false⟩ fun b66 m65 => slS 3 v_7 none (some x_11) fun v67 => appS 3 24 28 (.sl b66 0 0 (.ex 0)) v67 m65 fun v68 m69 => KeepsIn Fr64 m65 m69 ∧ (slS 3 v_7 (some (IntKind.wrap .i64 (x_11 + 1))) none fun v70 => appS 3 24 28 v68 v70 m69 fun v71 m72 => KeepsIn Fr64 m69 m72 ∧ (Fr64 b_10 ∧ (ldG 3 m72 b_10 o_10 fun c73 => newK m72 ⟨3, splice (lget [(.flat (.int .u32 0)), (.flat (.int .i64 0)), (.flat (.int .i64 0))]) 0 3 c73, 28, false⟩ fun b75 m74 => appS 3 24 28 v71 (.sl b75 0 1 (.ex 1)) m74 fun v76 m77 => KeepsIn Fr64 m74 m77 ∧ (newK m77 ⟨0, lget [], 26, false⟩ fun b79 m78 => slS 1 v_8 none (some x_11) fun v80 => appS 1 4 26 (.sl b79 0 0 (.ex 0)) v80 m78 fun v81 m82 => KeepsIn Fr64 m78 m82 ∧ (slS 1 v_8 (some (IntKind.wrap .i64 (x_11 + 1))) none fun v83 => appS 1 4 26 v81 v83 m82 fun v84 m85 => KeepsIn Fr64 m82 m85 ∧ (newK m85 ⟨1, upd (lget [(.flat (.int .u32 0))]) 0 (.flat (.int .u32 x63)), 26, false⟩ fun b87 m86 => appS 1 4 26 v84 (.sl b87 0 1 (.ex 1)) m86 fun v88 m89 => KeepsIn Fr64 m86 m89 ∧ (kn v76 v88 m89)))))))) False) (kn v_7 v_8 m)

def P16_26004 (v_1 : AV) (v_5 : AV) (x_6 : Int) (v_7 : AV) (v_8 : AV) (x_9 : Int) (b_10 o_10 : Nat) (x_11 : Int) (x_67 : Int) (x_120 : Bool) (m : Mem) (kr : Bool → Mem → Prop) (kn : AV → AV → Mem → Prop) : Prop :=
  kif x_120 (ldG 3 m b_10 o_10 fun c35 => kptr v_5 fun b36 o37 => F11 b36 o37 c35 m fun c38 x39 m40 => newK m40 ⟨4, lget [(.flat (.int .u32 0)), (.flat (.slice none 0 0)), (.flat (.slice none 0 0)), (.flat (.slice none 0 0))], 33, false⟩ fun b42 m41 => stG 4 m41 b42 0 c38 fun m43 => kif (!(x39 == (decide (x_11 ≥ 0)))) (kr false m43) (kif x39 (ldI .u32 m43 b42 0 fun x44 => ldI .u32 m43 b_10 (o_10 + 0) fun x45 => kif (x44 != x45) (kr false m43) (ldA m43 b42 1 fun v46 => klen v46 fun x47 => kif (x47 != 1) (kr false m43) (ldA m43 b42 1 fun v48 => ksl v48 fun b49 o50 l51 p52 => kif (decide (0 ≤ (0 : Int)) && decide ((0 : Int) < l51)) (ldI .u32 m43 b49 (o50 + 0) fun x53 => ksl v_8 fun b54 o55 l56 p57 => kif (decide (0 ≤ x_11) && decide (x_11 < l56)) (ldI .u32 m43 b54 (o55 + (x_11).toNat * 1) fun x58 => kif (x53 != x58) (kr false m43) (P16_29102 v_1 v_5 x_6 v_7 v_8 x_9 b_10 o_10 x_11 x39 m43 (fun v90 v91 m92 => kn v90 v91 m92))) False) False))) (P16_29102 v_1 v_5 x_6 v_7 v_8 x_9 b_10 o_10 x_11 x39 m43 (fun v93 v94 m95 => kn v93 v94 m95)))) (kif (x_67 == 6) (ksl v_1 fun b96 o97 l98 p99 => kif (decide (0 ≤ x_9) && decide (x_9 < l98)) (ldI .i64 m b96 (o97 + (x_9).toNat * 5 + 3) fun x100 => F7 x100 (-1) 6 m fun x101 m102 => ∃ N131, L16_37 v_1 v_5 x_6 v_7 v_8 x_9 x101 N131 (.flat (.slice none 0 0)) (.flat (.slice none 0 0)) 0 m102 (fun v128 v129 m130 => kptr v_5 fun b132 o133 => F14 b132 o133 x101 m130 fun x134 m135 => klen v_7 fun x136 => klen v128 fun x137 => kif (x134 != (IntKind.wrap .i64 (x136 - x137))) (kr false m135) (kn v128 v129 m135))) False) (kif (x_67 == 7) (kptr v_5 fun b138 o139 => F18 b138 o139 m fun x140 m141 => klen v_7 fun x142 => kif (!(x140 == (decide (x142 > 0)))) (kr false m141) (klen v_7 fun x143 => kif (decide (x143 > 0)) (∃ Fr144 : Nat → Prop, newK m141 ⟨0, lget [], 28, false⟩ fun b146 m145 => slS 3 v_7 (some 1) none fun v147 => appS 3 24 28 (.sl b146 0 0 (.ex 0)) v147 m145 fun v148 m149 => KeepsIn Fr144 m145 m149 ∧ (newK m149 ⟨0, lget [], 26, false⟩ fun b151 m150 => slS 1 v_8 (some 1) none fun v152 => appS 1 4 26 (.sl b151 0 0 (.ex 0)) v152 m150 fun v153 m154 => KeepsIn Fr144 m150 m154 ∧ (kn v148 v153 m154))) (kn v_7 v_8 m141))) (kif (x_67 == 8) (kif ((x_9.tmod 5) == 0) (kptr v_5 fun b155 o156 => F15 b155 o156 m fun m157 => kn (.flat (.slice none 0 0)) (.flat (.slice none 0 0)) m157) (kn v_7 v_8 m)) (ldG 3 m b_10 o_10 fun c158 => ldI .u32 m b_10 (o_10 + 0) fun x159 => newK m ⟨1, upd (lget [(.flat (.int .u32 0))]) 0 (.flat (.int .u32 (IntKind.wrap .u32 x_9))), 26, false⟩ fun b161 m160 => kptr v_5 fun b162 o163 => F9 b162 o163 c158 (upd (upd (lget [(.flat (.int .u32 0)), (.flat (.slice none 0 0)), (.flat (.slice none 0 0)), (.flat (.slice none 0 0))]) 0 (.flat (.int .u32 x159))) 1 (.sl b161 0 1 (.ex 1))) m160 fun m164 => kif (decide (x_11 ≥ 0)) (∃ Fr165 : Nat → Prop, newK m164 ⟨0, lget [], 28, false⟩ fun b167 m166 => slS 3 v_7 none (some x_11) fun v168 => appS 3 24 28 (.sl b167 0 0 (.ex 0)) v168 m166 fun v169 m170 => KeepsIn Fr165 m166 m170 ∧ (slS 3 v_7 (some (IntKind.wrap .i64 (x_11 + 1))) none fun v171 => appS 3 24 28 v169 v171 m170 fun v172 m173 => KeepsIn Fr165 m170 m173 ∧ (newK m173 ⟨0, lget [], 26, false⟩ fun b175 m174 => slS 1 v_8 none (some x_11) fun v176 => appS 1 4 26 (.sl b175 0 0 (.ex 0)) v176 m174 fun v177 m178 => KeepsIn Fr165 m174 m178 ∧ (slS 1 v_8 (some (IntKind.wrap .i64 (x_11 + 1))) none fun v179 => appS 1 4 26 v177 v179 m178 fun v180 m181 => KeepsIn Fr165 m178 m181 ∧ (P16_23002 v_1 v_5 x_6 v172 v180 x_9 b_10 o_10 m181 (fun v203 v204 m205 => kn v203 v204 m205)))))) (klen v_7 fun x182 => kif (decide (x182 ≥ x_6)) (∃ Fr183 : Nat → Prop, newK m164 ⟨0, lget [], 28, false⟩ fun b185 m184 => slS 3 v_7 (some 1) none fun v186 => appS 3 24 28 (.sl b185 0 0 (.ex 0)) v186 m184 fun v187 m188 => KeepsIn Fr183 m184 m188 ∧ (newK m188 ⟨0, lget [], 26, false⟩ fun b190 m189 => slS 1 v_8 (some 1) none fun v191 => appS 1 4 26 (.sl b190 0 0 (.ex 0)) v191 m189 fun v192 m193 => KeepsIn Fr183 m189 m193 ∧ (P16_23002 v_1 v_5 x_6 v187 v192 x_9 b_10 o_10 m193 (fun v206 v207 m208 => kn v206 v207 m208)))) (P16_23002 v_1 v_5 x_6 v_7 v_8 x_9 b_10 o_10 m164 (fun v209 v210 m211 => kn v209 v210 m211)))))))

def R16_13 (v_1 : AV) (v_5 : AV) (x_6 : Int) (v_7 : AV) (v_8 : AV) (x_9 : Int) (b_10 o_10 : Nat) (x_11 : Int) (x_12 : Int) (m : Mem) (kn : Int → Int → Mem → Prop) (k2 : Int → Mem → Prop) : Prop :=
  klen v_7 fun x19 => kif (decide (x_12 < x19)) (ksl v_7 fun b20 o21 l22 p23 => kif (decide (0 ≤ x_12) && decide (x_12 < l22)) (ldG 3 m b20 (o21 + (x_12).toNat * 3) fun c24 => ldG 3 m b_10 o_10 fun c25 => geq K28 c24 c25 fun x26 => kif x26 (kn x_12 (IntKind.wrap .i64 (x_12 + 1)) m) (kn x_11 (IntKind.wrap .i64 (x_12 + 1)) m)) False) (k2 x_11 m)

def L16_13 (v_1 : AV) (v_5 : AV) (x_6 : Int) (v_7 : AV) (v_8 : AV) (x_9 : Int) (b_10 o_10 : Nat) : Nat → Int → Int → Mem → (Int → Mem → Prop) → Prop
  | 0, _, _,  _, _ => bump False
  | N + 1, x_11, x_12,  m, k2 => R16_13 v_1 v_5 x_6 v_7 v_8 x_9 b_10 o_10 x_11 x_12 m (fun x_11' x_12' m' => L16_13 v_1 v_5 x_6 v_7 v_8 x_9 b_10 o_10 N x_11' x_12' m' k2) k2

def R16_6 (v_1 : AV) (v_5 : AV) (x_6 : Int) (v_7 : AV) (v_8 : AV) (x_9 : Int) (m : Mem) (kn : AV → AV → Int → Mem → Prop) (k0 : Mem → Prop) (kr : Bool → Mem → Prop) : Prop :=
  klen v_1 fun x3 => kif (decide (x_9 < x3)) (kif (decide (x_9 < 100)) (knilP v_5 fun x4 => kif x4 (kr false m) (kptr v_5 fun b5 o6 => F17 b5 o6 m fun x7 m8 => kif (x7 != x_6) (kr false m8) (ksl v_1 fun b9 o10 l11 p12 => kif (decide (0 ≤ x_9) && decide (x_9 < l11)) (ldG 5 m8 b9 (o10 + (x_9).toNat * 5) fun c13 => F22 c13 m8 fun c14 m15 => newK m15 ⟨3, lget [(.flat (.int .u32 0)), (.flat (.int .i64 0)), (.flat (.int .i64 0))], 28, false⟩ fun b17 m16 => stG 3 m16 b17 0 c14 fun m18 => ∃ N29, L16_13 v_1 v_5 x_6 v_7 v_8 x_9 b17 0 N29 (-1) 0 m18 (fun x27 m28 => ksl v_1 fun b30 o31 l32 p33 => kif (decide (0 ≤ x_9) && decide (x_9 < l32)) (ldI .i64 m28 b30 (o31 + (x_9).toNat * 5 + 0) fun x34 => kif (x34 == 4) (P16_26004 v_1 v_5 x_6 v_7 v_8 x_9 b17 0 x27 x34 (x34 == 4) m28 (fun x212 m213 => kr x212 m213) (fun v214 v215 m216 => P16_53102 v_1 v_5 x_6 v214 v215 x_9 m216 (fun x246 m247 => kr x246 m247) (fun m248 => kn v214 v215 (IntKind.wrap .i64 (x_9 + 1)) m248))) (P16_26004 v_1 v_5 x_6 v_7 v_8 x_9 b17 0 x27 x34 (x34 == 5) m28 (fun x217 m218 => kr x217 m218) (fun v219 v220 m221 => P16_53102 v_1 v_5 x_6 v219 v220 x_9 m221 (fun x249 m250 => kr x249 m250) (fun m251 => kn v219 v220 (IntKind.wrap .i64 (x_9 + 1)) m251)))) False)) False))) (k0  m)) (k0  m)

def L16_6 (v_1 : AV) (v_5 : AV) (x_6 : Int) : Nat → AV → AV → Int → Mem → (Mem → Prop) → (Bool → Mem → Prop) → Prop
  | 0, _, _, _,  _, _, _ => bump False
  | N + 1, v_7, v_8, x_9,  m, k0, kr => R16_6 v_1 v_5 x_6 v_7 v_8 x_9 m (fun v_7' v_8' x_9' m' => L16_6 v_1 v_5 x_6 N v_7' v_8' x_9' m' k0 kr) k0 kr

/-- pianola/pianolalaw22.play -/
def F16 (x_0 : Int) (v_1 : AV) (m : Mem) (k : Bool → Mem → Prop) : Prop :=
  F8 x_0 m fun v1 m2 => ∃ N255, L16_6 v_1 v1 (if 1 > (if 256 < x_0 then 256 else x_0) then 1 else (if 256 < x_0 then 256 else x_0)) N255 (.flat (.slice none 0 0)) (.flat (.slice none 0 0)) 0 m2 (fun m252 => knilP v1 fun x256 => k (!x256) m252) (fun x253 m254 => k x253 m254)

def G16 (args : List AV) (m : Mem) (k : KV) : Prop := match args with
  | [a0, a1] => kI .i64 a0 fun x_0 => F16 x_0 a1 m (fun x_1000 m' => k (.flat (.bool x_1000)) m')
  | _ => False

def Lam16_6 (σ : Nat → AV) (m : Mem) (k : KX) : Prop := kI .i64 (σ 6) fun x_6 => kI .i64 (σ 9) fun x_9 => ∃ N, L16_6 (σ 1) (σ 5) x_6 N (σ 7) (σ 8) x_9 m (fun m' => k (.exit 0) (only [5] [(σ 5)]) m') (fun x_4' m' => k .ret (only [4] [(.flat (.bool x_4'))]) m')

def Lam16_13 (σ : Nat → AV) (m : Mem) (k : KX) : Prop := kI .i64 (σ 6) fun x_6 => kI .i64 (σ 9) fun x_9 => kptr (σ 10) fun b_10 o_10 => kI .i64 (σ 11) fun x_11 => kI .i64 (σ 12) fun x_12 => ∃ N, L16_13 (σ 1) (σ 5) x_6 (σ 7) (σ 8) x_9 b_10 o_10 N x_11 x_12 m (fun x_11' m' => k (.exit 2) (only [1, 5, 6, 7, 8, 9, 10, 11] [(σ 1), (σ 5), (.flat (.int .i64 x_6)), (σ 7), (σ 8), (.flat (.int .i64 x_9)), (.ptr b_10 o_10), (.flat (.int .i64 x_11'))]) m')

def LamP16_26004 (σ : Nat → AV) (m : Mem) (k : KX) : Prop := kI .i64 (σ 6) fun x_6 => kI .i64 (σ 9) fun x_9 => kptr (σ 10) fun b_10 o_10 => kI .i64 (σ 11) fun x_11 => kI .i64 (σ 67) fun x_67 => kbool (σ 120) fun x_120 => P16_26004 (σ 1) (σ 5) x_6 (σ 7) (σ 8) x_9 b_10 o_10 x_11 x_67 x_120 m (fun x_4' m' => k .ret (only [4] [(.flat (.bool x_4'))]) m') (fun v_7' v_8' m' => k .normal (only [1, 5, 6, 7, 8, 9] [(σ 1), (σ 5), (.flat (.int .i64 x_6)), v_7', v_8', (.flat (.int .i64 x_9))]) m')

def LamP16_29102 (σ : Nat → AV) (m : Mem) (k : KX) : Prop := kI .i64 (σ 6) fun x_6 => kI .i64 (σ 9) fun x_9 => kptr (σ 10) fun b_10 o_10 => kI .i64 (σ 11) fun x_11 => kbool (σ 14) fun x_14 => P16_29102 (σ 1) (σ 5) x_6 (σ 7) (σ 8) x_9 b_10 o_10 x_11 x_14 m (fun v_7' v_8' m' => k .normal (only [1, 5, 6, 7, 8, 9] [(σ 1), (σ 5), (.flat (.int .i64 x_6)), v_7', v_8', (.flat (.int .i64 x_9))]) m')

def Lam16_37 (σ : Nat → AV) (m : Mem) (k : KX) : Prop := kI .i64 (σ 6) fun x_6 => kI .i64 (σ 9) fun x_9 => kI .i64 (σ 18) fun x_18 => kI .i64 (σ 19) fun x_19 => ∃ N, L16_37 (σ 1) (σ 5) x_6 (σ 7) (σ 8) x_9 x_18 N (σ 16) (σ 17) x_19 m (fun v_16' v_17' m' => k (.exit 5) (only [1, 5, 6, 7, 9, 16, 17, 18] [(σ 1), (σ 5), (.flat (.int .i64 x_6)), (σ 7), (.flat (.int .i64 x_9)), v_16', v_17', (.flat (.int .i64 x_18))]) m')

def LamP16_23002 (σ : Nat → AV) (m : Mem) (k : KX) : Prop := kI .i64 (σ 6) fun x_6 => kI .i64 (σ 9) fun x_9 => kptr (σ 10) fun b_10 o_10 => P16_23002 (σ 1) (σ 5) x_6 (σ 7) (σ 8) x_9 b_10 o_10 m (fun v_7' v_8' m' => k .normal (only [1, 5, 6, 7, 8, 9] [(σ 1), (σ 5), (.flat (.int .i64 x_6)), v_7', v_8', (.flat (.int .i64 x_9))]) m')

def LamP16_53102 (σ : Nat → AV) (m : Mem) (k : KX) : Prop := kI .i64 (σ 6) fun x_6 => kI .i64 (σ 9) fun x_9 => P16_53102 (σ 1) (σ 5) x_6 (σ 7) (σ 8) x_9 m (fun x_4' m' => k .ret (only [4] [(.flat (.bool x_4'))]) m') (fun m' => k .normal (only [1, 5, 6, 7, 8, 9] [(σ 1), (σ 5), (.flat (.int .i64 x_6)), (σ 7), (σ 8), (.flat (.int .i64 x_9))]) m')

def Lam16_55 (σ : Nat → AV) (m : Mem) (k : KX) : Prop := kI .i64 (σ 6) fun x_6 => kI .i64 (σ 9) fun x_9 => kI .i64 (σ 20) fun x_20 => kI .i64 (σ 21) fun x_21 => ∃ N, L16_55 (σ 1) (σ 5) x_6 (σ 7) (σ 8) x_9 N x_20 x_21 m (fun x_20' m' => k (.exit 7) (only [1, 5, 6, 7, 8, 9, 20] [(σ 1), (σ 5), (.flat (.int .i64 x_6)), (σ 7), (σ 8), (.flat (.int .i64 x_9)), (.flat (.int .i64 x_20'))]) m')

def Lam16 : LEnv := ⟨fun a σ m k => match firstReg a with
  | some 6 => Lam16_6 σ m k
  | some 13 => Lam16_13 σ m k
  | some 37 => Lam16_37 σ m k
  | some 55 => Lam16_55 σ m k
  | _ => bump False,
  fun id => match id with
  | 20 => true
  | 22 => true
  | 31 => true
  | 40 => true
  | 48 => true
  | _ => bump false,
  fun b => match keyC b with
  | some 26004 => true
  | some 29102 => true
  | some 23002 => true
  | some 53102 => true
  | _ => bump false,
  fun b σ m k => match keyC b with
  | some 26004 => LamP16_26004 σ m k
  | some 29102 => LamP16_29102 σ m k
  | some 23002 => LamP16_23002 σ m k
  | some 53102 => LamP16_53102 σ m k
  | _ => bump False⟩

def lx16_55 : Ex → List Nat := fun e => match e with
  | .exit 7 => [1, 5, 6, 7, 8, 9, 20]
  | _ => []

theorem round16_55 (v_1 : AV) (v_5 : AV) (x_6 : Int) (v_7 : AV) (v_8 : AV) (x_9 : Int) (x_20 : Int) (x_21 : Int) (m : Mem) (G : List AV → Mem → Prop) (k : KX) : (wpA Try.prog E16 Lam16 ((loopsOf (bodyOf Try.f16)).getD 3 .skip) (only [1, 5, 6, 7, 8, 9, 20, 21] [v_1, v_5, (.flat (.int .i64 x_6)), v_7, v_8, (.flat (.int .i64 x_9)), (.flat (.int .i64 x_20)), (.flat (.int .i64 x_21))]) m fun e σ' m' => match e with
    | .normal => G ([1, 5, 6, 7, 8, 9, 20, 21].map σ') m'
    | .exit id => k (.exit id) (only (lx16_55 (.exit id)) ((lx16_55 (.exit id)).map σ')) m'
    | .ret => k .ret (only (lx16_55 .ret) ((lx16_55 .ret).map σ')) m') = R16_55 v_1 v_5 x_6 v_7 v_8 x_9 x_20 x_21 m (fun x_20' x_21' m' => G [v_1, v_5, (.flat (.int .i64 x_6)), v_7, v_8, (.flat (.int .i64 x_9)), (.flat (.int .i64 x_20')), (.flat (.int .i64 x_21'))] m') (fun x_20' m' => k (.exit 7) (only [1, 5, 6, 7, 8, 9, 20] [v_1, v_5, (.flat (.int .i64 x_6)), v_7, v_8, (.flat (.int .i64 x_9)), (.flat (.int .i64 x_20'))]) m') := by
  kernel_rfl

theorem loop16_55 (v_1 : AV) (v_5 : AV) (x_6 : Int) (v_7 : AV) (v_8 : AV) (x_9 : Int) (k : KX) : ∀ (N : Nat) (x_20 : Int) (x_21 : Int) (m : Mem), rounds Try.prog E16 Lam16 [1, 5, 6, 7, 8, 9, 20, 21] lx16_55 ((loopsOf (bodyOf Try.f16)).getD 3 .skip) N [v_1, v_5, (.flat (.int .i64 x_6)), v_7, v_8, (.flat (.int .i64 x_9)), (.flat (.int .i64 x_20)), (.flat (.int .i64 x_21))] m k = L16_55 v_1 v_5 x_6 v_7 v_8 x_9 N x_20 x_21 m (fun x_20' m' => k (.exit 7) (only [1, 5, 6, 7, 8, 9, 20] [v_1, v_5, (.flat (.int .i64 x_6)), v_7, v_8, (.flat (.int .i64 x_9)), (.flat (.int .i64 x_20'))]) m') := by
  intro N
  induction N with
  | zero => intros; rfl
  | succ N ih =>
    intro x_20 x_21 m
    refine (round16_55 v_1 v_5 x_6 v_7 v_8 x_9 x_20 x_21 m (fun vs m' => rounds Try.prog E16 Lam16 [1, 5, 6, 7, 8, 9, 20, 21] lx16_55 ((loopsOf (bodyOf Try.f16)).getD 3 .skip) N vs m' k) k).trans ?_
    simp only [ih]
    rfl

theorem lok16_55 : LoopOK Try.prog E16 Lam16 ((loopsOf (bodyOf Try.f16)).getD 3 .skip) := by
  refine ⟨fun σ => ∃ v_1 v_5 x_6 v_7 v_8 x_9 x_20 x_21, σ 1 = v_1 ∧ σ 5 = v_5 ∧ σ 6 = .flat (.int .i64 x_6) ∧ σ 7 = v_7 ∧ σ 8 = v_8 ∧ σ 9 = .flat (.int .i64 x_9) ∧ σ 20 = .flat (.int .i64 x_20) ∧ σ 21 = .flat (.int .i64 x_21), [1, 5, 6, 7, 8, 9, 20, 21], lx16_55, fun σ m k => ?_⟩
  have e : Lam16.loop ((loopsOf (bodyOf Try.f16)).getD 3 .skip) σ m k = Lam16_55 σ m k := by kernel_rfl
  rw [e]
  constructor
  · intro h
    unfold Lam16_55 at h
    obtain ⟨v_1, h0⟩ : ∃ v, σ 1 = v := ⟨_, rfl⟩
    obtain ⟨v_5, h1⟩ : ∃ v, σ 5 = v := ⟨_, rfl⟩
    obtain ⟨x_6, h2, h⟩ := kI_ok h
    obtain ⟨v_7, h3⟩ : ∃ v, σ 7 = v := ⟨_, rfl⟩
    obtain ⟨v_8, h4⟩ : ∃ v, σ 8 = v := ⟨_, rfl⟩
    obtain ⟨x_9, h5, h⟩ := kI_ok h
    obtain ⟨x_20, h6, h⟩ := kI_ok h
    obtain ⟨x_21, h7, h⟩ := kI_ok h
    obtain ⟨N, h⟩ := h
    refine ⟨⟨v_1, v_5, x_6, v_7, v_8, x_9, x_20, x_21, h0, h1, h2, h3, h4, h5, h6, h7⟩, N, ?_⟩
    have ev : [1, 5, 6, 7, 8, 9, 20, 21].map σ = [v_1, v_5, (.flat (.int .i64 x_6)), v_7, v_8, (.flat (.int .i64 x_9)), (.flat (.int .i64 x_20)), (.flat (.int .i64 x_21))] := by simp only [List.map_cons, List.map_nil, h0, h1, h2, h3, h4, h5, h6, h7]
    rw [ev, loop16_55]
    simp only [h0, h1, h3, h4] at h
    exact h
  · rintro ⟨⟨v_1, v_5, x_6, v_7, v_8, x_9, x_20, x_21, h0, h1, h2, h3, h4, h5, h6, h7⟩, N, h⟩
    have ev : [1, 5, 6, 7, 8, 9, 20, 21].map σ = [v_1, v_5, (.flat (.int .i64 x_6)), v_7, v_8, (.flat (.int .i64 x_9)), (.flat (.int .i64 x_20)), (.flat (.int .i64 x_21))] := by simp only [List.map_cons, List.map_nil, h0, h1, h2, h3, h4, h5, h6, h7]
    rw [ev, loop16_55] at h
    unfold Lam16_55
    try simp only [h0, h1, h2, h3, h4, h5, h6, h7, kI, kbool, kS, kptr, kaggN, kite, decide_true, eq_self]
    exact ⟨N, h⟩

def lxp16_53102 : Ex → List Nat := fun e => match e with
  | .ret => [4]
  | .normal => [1, 5, 6, 7, 8, 9]
  | _ => []

theorem pc16_53102 (v_1 : AV) (v_5 : AV) (x_6 : Int) (v_7 : AV) (v_8 : AV) (x_9 : Int) (m : Mem) (k : KX) : once Try.prog E16 Lam16 [1, 5, 6, 7, 8, 9] lxp16_53102 (((secsOf (bodyOf Try.f16)).filter Lam16.cut).getD 0 .skip) [v_1, v_5, (.flat (.int .i64 x_6)), v_7, v_8, (.flat (.int .i64 x_9))] m k = P16_53102 v_1 v_5 x_6 v_7 v_8 x_9 m (fun x_4' m' => k .ret (only [4] [(.flat (.bool x_4'))]) m') (fun m' => k .normal (only [1, 5, 6, 7, 8, 9] [v_1, v_5, (.flat (.int .i64 x_6)), v_7, v_8, (.flat (.int .i64 x_9))]) m') := by
  kernel_rfl

theorem pok16_53102 : PieceOK Try.prog E16 Lam16 (((secsOf (bodyOf Try.f16)).filter Lam16.cut).getD 0 .skip) := by
  refine ⟨fun σ => ∃ v_1 v_5 x_6 v_7 v_8 x_9, σ 1 = v_1 ∧ σ 5 = v_5 ∧ σ 6 = .flat (.int .i64 x_6) ∧ σ 7 = v_7 ∧ σ 8 = v_8 ∧ σ 9 = .flat (.int .i64 x_9), [1, 5, 6, 7, 8, 9], lxp16_53102, fun σ m k => ?_⟩
  have e : Lam16.piece (((secsOf (bodyOf Try.f16)).filter Lam16.cut).getD 0 .skip) σ m k = LamP16_53102 σ m k := by kernel_rfl
  rw [e]
  constructor
  · intro h
    unfold LamP16_53102 at h
    obtain ⟨v_1, h0⟩ : ∃ v, σ 1 = v := ⟨_, rfl⟩
    obtain ⟨v_5, h1⟩ : ∃ v, σ 5 = v := ⟨_, rfl⟩
    obtain ⟨x_6, h2, h⟩ := kI_ok h
    obtain ⟨v_7, h3⟩ : ∃ v, σ 7 = v := ⟨_, rfl⟩
    obtain ⟨v_8, h4⟩ : ∃ v, σ 8 = v := ⟨_, rfl⟩
    obtain ⟨x_9, h5, h⟩ := kI_ok h
    refine ⟨⟨v_1, v_5, x_6, v_7, v_8, x_9, h0, h1, h2, h3, h4, h5⟩, ?_⟩
    have ev : [1, 5, 6, 7, 8, 9].map σ = [v_1, v_5, (.flat (.int .i64 x_6)), v_7, v_8, (.flat (.int .i64 x_9))] := by simp only [List.map_cons, List.map_nil, h0, h1, h2, h3, h4, h5]
    rw [ev, pc16_53102]
    simp only [h0, h1, h3, h4] at h
    exact h
  · rintro ⟨⟨v_1, v_5, x_6, v_7, v_8, x_9, h0, h1, h2, h3, h4, h5⟩, h⟩
    have ev : [1, 5, 6, 7, 8, 9].map σ = [v_1, v_5, (.flat (.int .i64 x_6)), v_7, v_8, (.flat (.int .i64 x_9))] := by simp only [List.map_cons, List.map_nil, h0, h1, h2, h3, h4, h5]
    rw [ev, pc16_53102] at h
    unfold LamP16_53102
    try simp only [h0, h1, h2, h3, h4, h5, kI, kbool, kS, kptr, kaggN, kite, decide_true, eq_self]
    exact h

def lxp16_23002 : Ex → List Nat := fun e => match e with
  | .normal => [1, 5, 6, 7, 8, 9]
  | _ => []

theorem pc16_23002 (v_1 : AV) (v_5 : AV) (x_6 : Int) (v_7 : AV) (v_8 : AV) (x_9 : Int) (b_10 o_10 : Nat) (m : Mem) (k : KX) : once Try.prog E16 Lam16 [1, 5, 6, 7, 8, 9, 10] lxp16_23002 (((secsOf (bodyOf Try.f16)).filter Lam16.cut).getD 3 .skip) [v_1, v_5, (.flat (.int .i64 x_6)), v_7, v_8, (.flat (.int .i64 x_9)), (.ptr b_10 o_10)] m k = P16_23002 v_1 v_5 x_6 v_7 v_8 x_9 b_10 o_10 m (fun v_7' v_8' m' => k .normal (only [1, 5, 6, 7, 8, 9] [v_1, v_5, (.flat (.int .i64 x_6)), v_7', v_8', (.flat (.int .i64 x_9))]) m') := by
  kernel_rfl

theorem pok16_23002 : PieceOK Try.prog E16 Lam16 (((secsOf (bodyOf Try.f16)).filter Lam16.cut).getD 3 .skip) := by
  refine ⟨fun σ => ∃ v_1 v_5 x_6 v_7 v_8 x_9 b_10 o_10, σ 1 = v_1 ∧ σ 5 = v_5 ∧ σ 6 = .flat (.int .i64 x_6) ∧ σ 7 = v_7 ∧ σ 8 = v_8 ∧ σ 9 = .flat (.int .i64 x_9) ∧ σ 10 = .ptr b_10 o_10, [1, 5, 6, 7, 8, 9, 10], lxp16_23002, fun σ m k => ?_⟩
  have e : Lam16.piece (((secsOf (bodyOf Try.f16)).filter Lam16.cut).getD 3 .skip) σ m k = LamP16_23002 σ m k := by kernel_rfl
  rw [e]
  constructor
  · intro h
    unfold LamP16_23002 at h
    obtain ⟨v_1, h0⟩ : ∃ v, σ 1 = v := ⟨_, rfl⟩
    obtain ⟨v_5, h1⟩ : ∃ v, σ 5 = v := ⟨_, rfl⟩
    obtain ⟨x_6, h2, h⟩ := kI_ok h
    obtain ⟨v_7, h3⟩ : ∃ v, σ 7 = v := ⟨_, rfl⟩
    obtain ⟨v_8, h4⟩ : ∃ v, σ 8 = v := ⟨_, rfl⟩
    obtain ⟨x_9, h5, h⟩ := kI_ok h
    obtain ⟨b_10, o_10, h6, h⟩ := kptr_ok h
    refine ⟨⟨v_1, v_5, x_6, v_7, v_8, x_9, b_10, o_10, h0, h1, h2, h3, h4, h5, h6⟩, ?_⟩
    have ev : [1, 5, 6, 7, 8, 9, 10].map σ = [v_1, v_5, (.flat (.int .i64 x_6)), v_7, v_8, (.flat (.int .i64 x_9)), (.ptr b_10 o_10)] := by simp only [List.map_cons, List.map_nil, h0, h1, h2, h3, h4, h5, h6]
    rw [ev, pc16_23002]
    simp only [h0, h1, h3, h4] at h
    exact h
  · rintro ⟨⟨v_1, v_5, x_6, v_7, v_8, x_9, b_10, o_10, h0, h1, h2, h3, h4, h5, h6⟩, h⟩
    have ev : [1, 5, 6, 7, 8, 9, 10].map σ = [v_1, v_5, (.flat (.int .i64 x_6)), v_7, v_8, (.flat (.int .i64 x_9)), (.ptr b_10 o_10)] := by simp only [List.map_cons, List.map_nil, h0, h1, h2, h3, h4, h5, h6]
    rw [ev, pc16_23002] at h
    unfold LamP16_23002
    try simp only [h0, h1, h2, h3, h4, h5, h6, kI, kbool, kS, kptr, kaggN, kite, decide_true, eq_self]
    exact h

def lx16_37 : Ex → List Nat := fun e => match e with
  | .exit 5 => [1, 5, 6, 7, 9, 16, 17, 18]
  | _ => []

theorem round16_37 (v_1 : AV) (v_5 : AV) (x_6 : Int) (v_7 : AV) (v_8 : AV) (x_9 : Int) (x_18 : Int) (v_16 : AV) (v_17 : AV) (x_19 : Int) (m : Mem) (G : List AV → Mem → Prop) (k : KX) : (wpA Try.prog E16 Lam16 ((loopsOf (bodyOf Try.f16)).getD 2 .skip) (only [1, 5, 6, 7, 8, 9, 16, 17, 18, 19] [v_1, v_5, (.flat (.int .i64 x_6)), v_7, v_8, (.flat (.int .i64 x_9)), v_16, v_17, (.flat (.int .i64 x_18)), (.flat (.int .i64 x_19))]) m fun e σ' m' => match e with
    | .normal => G ([1, 5, 6, 7, 8, 9, 16, 17, 18, 19].map σ') m'
    | .exit id => k (.exit id) (only (lx16_37 (.exit id)) ((lx16_37 (.exit id)).map σ')) m'
    | .ret => k .ret (only (lx16_37 .ret) ((lx16_37 .ret).map σ')) m') = R16_37 v_1 v_5 x_6 v_7 v_8 x_9 x_18 v_16 v_17 x_19 m (fun v_16' v_17' x_19' m' => G [v_1, v_5, (.flat (.int .i64 x_6)), v_7, v_8, (.flat (.int .i64 x_9)), v_16', v_17', (.flat (.int .i64 x_18)), (.flat (.int .i64 x_19'))] m') (fun v_16' v_17' m' => k (.exit 5) (only [1, 5, 6, 7, 9, 16, 17, 18] [v_1, v_5, (.flat (.int .i64 x_6)), v_7, (.flat (.int .i64 x_9)), v_16', v_17', (.flat (.int .i64 x_18))]) m') := by
  kernel_rfl

theorem loop16_37 (v_1 : AV) (v_5 : AV) (x_6 : Int) (v_7 : AV) (v_8 : AV) (x_9 : Int) (x_18 : Int) (k : KX) : ∀ (N : Nat) (v_16 : AV) (v_17 : AV) (x_19 : Int) (m : Mem), rounds Try.prog E16 Lam16 [1, 5, 6, 7, 8, 9, 16, 17, 18, 19] lx16_37 ((loopsOf (bodyOf Try.f16)).getD 2 .skip) N [v_1, v_5, (.flat (.int .i64 x_6)), v_7, v_8, (.flat (.int .i64 x_9)), v_16, v_17, (.flat (.int .i64 x_18)), (.flat (.int .i64 x_19))] m k = L16_37 v_1 v_5 x_6 v_7 v_8 x_9 x_18 N v_16 v_17 x_19 m (fun v_16' v_17' m' => k (.exit 5) (only [1, 5, 6, 7, 9, 16, 17, 18] [v_1, v_5, (.flat (.int .i64 x_6)), v_7, (.flat (.int .i64 x_9)), v_16', v_17', (.flat (.int .i64 x_18))]) m') := by
  intro N
  induction N with
  | zero => intros; rfl
  | succ N ih =>
    intro v_16 v_17 x_19 m
    refine (round16_37 v_1 v_5 x_6 v_7 v_8 x_9 x_18 v_16 v_17 x_19 m (fun vs m' => rounds Try.prog E16 Lam16 [1, 5, 6, 7, 8, 9, 16, 17, 18, 19] lx16_37 ((loopsOf (bodyOf Try.f16)).getD 2 .skip) N vs m' k) k).trans ?_
    simp only [ih]
    rfl

theorem lok16_37 : LoopOK Try.prog E16 Lam16 ((loopsOf (bodyOf Try.f16)).getD 2 .skip) := by
  refine ⟨fun σ => ∃ v_1 v_5 x_6 v_7 v_8 x_9 v_16 v_17 x_18 x_19, σ 1 = v_1 ∧ σ 5 = v_5 ∧ σ 6 = .flat (.int .i64 x_6) ∧ σ 7 = v_7 ∧ σ 8 = v_8 ∧ σ 9 = .flat (.int .i64 x_9) ∧ σ 16 = v_16 ∧ σ 17 = v_17 ∧ σ 18 = .flat (.int .i64 x_18) ∧ σ 19 = .flat (.int .i64 x_19), [1, 5, 6, 7, 8, 9, 16, 17, 18, 19], lx16_37, fun σ m k => ?_⟩
  have e : Lam16.loop ((loopsOf (bodyOf Try.f16)).getD 2 .skip) σ m k = Lam16_37 σ m k := by kernel_rfl
  rw [e]
  constructor
  · intro h
    unfold Lam16_37 at h
    obtain ⟨v_1, h0⟩ : ∃ v, σ 1 = v := ⟨_, rfl⟩
    obtain ⟨v_5, h1⟩ : ∃ v, σ 5 = v := ⟨_, rfl⟩
    obtain ⟨x_6, h2, h⟩ := kI_ok h
    obtain ⟨v_7, h3⟩ : ∃ v, σ 7 = v := ⟨_, rfl⟩
    obtain ⟨v_8, h4⟩ : ∃ v, σ 8 = v := ⟨_, rfl⟩
    obtain ⟨x_9, h5, h⟩ := kI_ok h
    obtain ⟨v_16, h6⟩ : ∃ v, σ 16 = v := ⟨_, rfl⟩
    obtain ⟨v_17, h7⟩ : ∃ v, σ 17 = v := ⟨_, rfl⟩
    obtain ⟨x_18, h8, h⟩ := kI_ok h
    obtain ⟨x_19, h9, h⟩ := kI_ok h
    obtain ⟨N, h⟩ := h
    refine ⟨⟨v_1, v_5, x_6, v_7, v_8, x_9, v_16, v_17, x_18, x_19, h0, h1, h2, h3, h4, h5, h6, h7, h8, h9⟩, N, ?_⟩
    have ev : [1, 5, 6, 7, 8, 9, 16, 17, 18, 19].map σ = [v_1, v_5, (.flat (.int .i64 x_6)), v_7, v_8, (.flat (.int .i64 x_9)), v_16, v_17, (.flat (.int .i64 x_18)), (.flat (.int .i64 x_19))] := by simp only [List.map_cons, List.map_nil, h0, h1, h2, h3, h4, h5, h6, h7, h8, h9]
    rw [ev, loop16_37]
    simp only [h0, h1, h3, h4, h6, h7] at h
    exact h
  · rintro ⟨⟨v_1, v_5, x_6, v_7, v_8, x_9, v_16, v_17, x_18, x_19, h0, h1, h2, h3, h4, h5, h6, h7, h8, h9⟩, N, h⟩
    have ev : [1, 5, 6, 7, 8, 9, 16, 17, 18, 19].map σ = [v_1, v_5, (.flat (.int .i64 x_6)), v_7, v_8, (.flat (.int .i64 x_9)), v_16, v_17, (.flat (.int .i64 x_18)), (.flat (.int .i64 x_19))] := by simp only [List.map_cons, List.map_nil, h0, h1, h2, h3, h4, h5, h6, h7, h8, h9]
    rw [ev, loop16_37] at h
    unfold Lam16_37
    try simp only [h0, h1, h2, h3, h4, h5, h6, h7, h8, h9, kI, kbool, kS, kptr, kaggN, kite, decide_true, eq_self]
    exact ⟨N, h⟩

def lxp16_29102 : Ex → List Nat := fun e => match e with
  | .normal => [1, 5, 6, 7, 8, 9]
  | _ => []

theorem pc16_29102 (v_1 : AV) (v_5 : AV) (x_6 : Int) (v_7 : AV) (v_8 : AV) (x_9 : Int) (b_10 o_10 : Nat) (x_11 : Int) (x_14 : Bool) (m : Mem) (k : KX) : once Try.prog E16 Lam16 [1, 5, 6, 7, 8, 9, 10, 11, 14] lxp16_29102 (((secsOf (bodyOf Try.f16)).filter Lam16.cut).getD 2 .skip) [v_1, v_5, (.flat (.int .i64 x_6)), v_7, v_8, (.flat (.int .i64 x_9)), (.ptr b_10 o_10), (.flat (.int .i64 x_11)), (.flat (.bool x_14))] m k = P16_29102 v_1 v_5 x_6 v_7 v_8 x_9 b_10 o_10 x_11 x_14 m (fun v_7' v_8' m' => k .normal (only [1, 5, 6, 7, 8, 9] [v_1, v_5, (.flat (.int .i64 x_6)), v_7', v_8', (.flat (.int .i64 x_9))]) m') := by
  kernel_rfl

theorem pok16_29102 : PieceOK Try.prog E16 Lam16 (((secsOf (bodyOf Try.f16)).filter Lam16.cut).getD 2 .skip) := by
  refine ⟨fun σ => ∃ v_1 v_5 x_6 v_7 v_8 x_9 b_10 o_10 x_11 x_14, σ 1 = v_1 ∧ σ 5 = v_5 ∧ σ 6 = .flat (.int .i64 x_6) ∧ σ 7 = v_7 ∧ σ 8 = v_8 ∧ σ 9 = .flat (.int .i64 x_9) ∧ σ 10 = .ptr b_10 o_10 ∧ σ 11 = .flat (.int .i64 x_11) ∧ σ 14 = .flat (.bool x_14), [1, 5, 6, 7, 8, 9, 10, 11, 14], lxp16_29102, fun σ m k => ?_⟩
  have e : Lam16.piece (((secsOf (bodyOf Try.f16)).filter Lam16.cut).getD 2 .skip) σ m k = LamP16_29102 σ m k := by kernel_rfl
  rw [e]
  constructor
  · intro h
    unfold LamP16_29102 at h
    obtain ⟨v_1, h0⟩ : ∃ v, σ 1 = v := ⟨_, rfl⟩
    obtain ⟨v_5, h1⟩ : ∃ v, σ 5 = v := ⟨_, rfl⟩
    obtain ⟨x_6, h2, h⟩ := kI_ok h
    obtain ⟨v_7, h3⟩ : ∃ v, σ 7 = v := ⟨_, rfl⟩
    obtain ⟨v_8, h4⟩ : ∃ v, σ 8 = v := ⟨_, rfl⟩
    obtain ⟨x_9, h5, h⟩ := kI_ok h
    obtain ⟨b_10, o_10, h6, h⟩ := kptr_ok h
    obtain ⟨x_11, h7, h⟩ := kI_ok h
    obtain ⟨x_14, h8, h⟩ := kbool_ok h
    refine ⟨⟨v_1, v_5, x_6, v_7, v_8, x_9, b_10, o_10, x_11, x_14, h0, h1, h2, h3, h4, h5, h6, h7, h8⟩, ?_⟩
    have ev : [1, 5, 6, 7, 8, 9, 10, 11, 14].map σ = [v_1, v_5, (.flat (.int .i64 x_6)), v_7, v_8, (.flat (.int .i64 x_9)), (.ptr b_10 o_10), (.flat (.int .i64 x_11)), (.flat (.bool x_14))] := by simp only [List.map_cons, List.map_nil, h0, h1, h2, h3, h4, h5, h6, h7, h8]
    rw [ev, pc16_29102]
    simp only [h0, h1, h3, h4] at h
    exact h
  · rintro ⟨⟨v_1, v_5, x_6, v_7, v_8, x_9, b_10, o_10, x_11, x_14, h0, h1, h2, h3, h4, h5, h6, h7, h8⟩, h⟩
    have ev : [1, 5, 6, 7, 8, 9, 10, 11, 14].map σ = [v_1, v_5, (.flat (.int .i64 x_6)), v_7, v_8, (.flat (.int .i64 x_9)), (.ptr b_10 o_10), (.flat (.int .i64 x_11)), (.flat (.bool x_14))] := by simp only [List.map_cons, List.map_nil, h0, h1, h2, h3, h4, h5, h6, h7, h8]
    rw [ev, pc16_29102] at h
    unfold LamP16_29102
    try simp only [h0, h1, h2, h3, h4, h5, h6, h7, h8, kI, kbool, kS, kptr, kaggN, kite, decide_true, eq_self]
    exact h

def lxp16_26004 : Ex → List Nat := fun e => match e with
  | .ret => [4]
  | .normal => [1, 5, 6, 7, 8, 9]
  | _ => []

theorem pc16_26004 (v_1 : AV) (v_5 : AV) (x_6 : Int) (v_7 : AV) (v_8 : AV) (x_9 : Int) (b_10 o_10 : Nat) (x_11 : Int) (x_67 : Int) (x_120 : Bool) (m : Mem) (k : KX) : once Try.prog E16 Lam16 [1, 5, 6, 7, 8, 9, 10, 11, 67, 120] lxp16_26004 (((secsOf (bodyOf Try.f16)).filter Lam16.cut).getD 1 .skip) [v_1, v_5, (.flat (.int .i64 x_6)), v_7, v_8, (.flat (.int .i64 x_9)), (.ptr b_10 o_10), (.flat (.int .i64 x_11)), (.flat (.int .i64 x_67)), (.flat (.bool x_120))] m k = P16_26004 v_1 v_5 x_6 v_7 v_8 x_9 b_10 o_10 x_11 x_67 x_120 m (fun x_4' m' => k .ret (only [4] [(.flat (.bool x_4'))]) m') (fun v_7' v_8' m' => k .normal (only [1, 5, 6, 7, 8, 9] [v_1, v_5, (.flat (.int .i64 x_6)), v_7', v_8', (.flat (.int .i64 x_9))]) m') := by
  kernel_rfl

theorem pok16_26004 : PieceOK Try.prog E16 Lam16 (((secsOf (bodyOf Try.f16)).filter Lam16.cut).getD 1 .skip) := by
  refine ⟨fun σ => ∃ v_1 v_5 x_6 v_7 v_8 x_9 b_10 o_10 x_11 x_67 x_120, σ 1 = v_1 ∧ σ 5 = v_5 ∧ σ 6 = .flat (.int .i64 x_6) ∧ σ 7 = v_7 ∧ σ 8 = v_8 ∧ σ 9 = .flat (.int .i64 x_9) ∧ σ 10 = .ptr b_10 o_10 ∧ σ 11 = .flat (.int .i64 x_11) ∧ σ 67 = .flat (.int .i64 x_67) ∧ σ 120 = .flat (.bool x_120), [1, 5, 6, 7, 8, 9, 10, 11, 67, 120], lxp16_26004, fun σ m k => ?_⟩
  have e : Lam16.piece (((secsOf (bodyOf Try.f16)).filter Lam16.cut).getD 1 .skip) σ m k = LamP16_26004 σ m k := by kernel_rfl
  rw [e]
  constructor
  · intro h
    unfold LamP16_26004 at h
    obtain ⟨v_1, h0⟩ : ∃ v, σ 1 = v := ⟨_, rfl⟩
    obtain ⟨v_5, h1⟩ : ∃ v, σ 5 = v := ⟨_, rfl⟩
    obtain ⟨x_6, h2, h⟩ := kI_ok h
    obtain ⟨v_7, h3⟩ : ∃ v, σ 7 = v := ⟨_, rfl⟩
    obtain ⟨v_8, h4⟩ : ∃ v, σ 8 = v := ⟨_, rfl⟩
    obtain ⟨x_9, h5, h⟩ := kI_ok h
    obtain ⟨b_10, o_10, h6, h⟩ := kptr_ok h
    obtain ⟨x_11, h7, h⟩ := kI_ok h
    obtain ⟨x_67, h8, h⟩ := kI_ok h
    obtain ⟨x_120, h9, h⟩ := kbool_ok h
    refine ⟨⟨v_1, v_5, x_6, v_7, v_8, x_9, b_10, o_10, x_11, x_67, x_120, h0, h1, h2, h3, h4, h5, h6, h7, h8, h9⟩, ?_⟩
    have ev : [1, 5, 6, 7, 8, 9, 10, 11, 67, 120].map σ = [v_1, v_5, (.flat (.int .i64 x_6)), v_7, v_8, (.flat (.int .i64 x_9)), (.ptr b_10 o_10), (.flat (.int .i64 x_11)), (.flat (.int .i64 x_67)), (.flat (.bool x_120))] := by simp only [List.map_cons, List.map_nil, h0, h1, h2, h3, h4, h5, h6, h7, h8, h9]
    rw [ev, pc16_26004]
    simp only [h0, h1, h3, h4] at h
    exact h
  · rintro ⟨⟨v_1, v_5, x_6, v_7, v_8, x_9, b_10, o_10, x_11, x_67, x_120, h0, h1, h2, h3, h4, h5, h6, h7, h8, h9⟩, h⟩
    have ev : [1, 5, 6, 7, 8, 9, 10, 11, 67, 120].map σ = [v_1, v_5, (.flat (.int .i64 x_6)), v_7, v_8, (.flat (.int .i64 x_9)), (.ptr b_10 o_10), (.flat (.int .i64 x_11)), (.flat (.int .i64 x_67)), (.flat (.bool x_120))] := by simp only [List.map_cons, List.map_nil, h0, h1, h2, h3, h4, h5, h6, h7, h8, h9]
    rw [ev, pc16_26004] at h
    unfold LamP16_26004
    try simp only [h0, h1, h2, h3, h4, h5, h6, h7, h8, h9, kI, kbool, kS, kptr, kaggN, kite, decide_true, eq_self]
    exact h

def lx16_13 : Ex → List Nat := fun e => match e with
  | .exit 2 => [1, 5, 6, 7, 8, 9, 10, 11]
  | _ => []

theorem round16_13 (v_1 : AV) (v_5 : AV) (x_6 : Int) (v_7 : AV) (v_8 : AV) (x_9 : Int) (b_10 o_10 : Nat) (x_11 : Int) (x_12 : Int) (m : Mem) (G : List AV → Mem → Prop) (k : KX) : (wpA Try.prog E16 Lam16 ((loopsOf (bodyOf Try.f16)).getD 1 .skip) (only [1, 5, 6, 7, 8, 9, 10, 11, 12] [v_1, v_5, (.flat (.int .i64 x_6)), v_7, v_8, (.flat (.int .i64 x_9)), (.ptr b_10 o_10), (.flat (.int .i64 x_11)), (.flat (.int .i64 x_12))]) m fun e σ' m' => match e with
    | .normal => G ([1, 5, 6, 7, 8, 9, 10, 11, 12].map σ') m'
    | .exit id => k (.exit id) (only (lx16_13 (.exit id)) ((lx16_13 (.exit id)).map σ')) m'
    | .ret => k .ret (only (lx16_13 .ret) ((lx16_13 .ret).map σ')) m') = R16_13 v_1 v_5 x_6 v_7 v_8 x_9 b_10 o_10 x_11 x_12 m (fun x_11' x_12' m' => G [v_1, v_5, (.flat (.int .i64 x_6)), v_7, v_8, (.flat (.int .i64 x_9)), (.ptr b_10 o_10), (.flat (.int .i64 x_11')), (.flat (.int .i64 x_12'))] m') (fun x_11' m' => k (.exit 2) (only [1, 5, 6, 7, 8, 9, 10, 11] [v_1, v_5, (.flat (.int .i64 x_6)), v_7, v_8, (.flat (.int .i64 x_9)), (.ptr b_10 o_10), (.flat (.int .i64 x_11'))]) m') := by
  kernel_rfl

theorem loop16_13 (v_1 : AV) (v_5 : AV) (x_6 : Int) (v_7 : AV) (v_8 : AV) (x_9 : Int) (b_10 o_10 : Nat) (k : KX) : ∀ (N : Nat) (x_11 : Int) (x_12 : Int) (m : Mem), rounds Try.prog E16 Lam16 [1, 5, 6, 7, 8, 9, 10, 11, 12] lx16_13 ((loopsOf (bodyOf Try.f16)).getD 1 .skip) N [v_1, v_5, (.flat (.int .i64 x_6)), v_7, v_8, (.flat (.int .i64 x_9)), (.ptr b_10 o_10), (.flat (.int .i64 x_11)), (.flat (.int .i64 x_12))] m k = L16_13 v_1 v_5 x_6 v_7 v_8 x_9 b_10 o_10 N x_11 x_12 m (fun x_11' m' => k (.exit 2) (only [1, 5, 6, 7, 8, 9, 10, 11] [v_1, v_5, (.flat (.int .i64 x_6)), v_7, v_8, (.flat (.int .i64 x_9)), (.ptr b_10 o_10), (.flat (.int .i64 x_11'))]) m') := by
  intro N
  induction N with
  | zero => intros; rfl
  | succ N ih =>
    intro x_11 x_12 m
    refine (round16_13 v_1 v_5 x_6 v_7 v_8 x_9 b_10 o_10 x_11 x_12 m (fun vs m' => rounds Try.prog E16 Lam16 [1, 5, 6, 7, 8, 9, 10, 11, 12] lx16_13 ((loopsOf (bodyOf Try.f16)).getD 1 .skip) N vs m' k) k).trans ?_
    simp only [ih]
    rfl

theorem lok16_13 : LoopOK Try.prog E16 Lam16 ((loopsOf (bodyOf Try.f16)).getD 1 .skip) := by
  refine ⟨fun σ => ∃ v_1 v_5 x_6 v_7 v_8 x_9 b_10 o_10 x_11 x_12, σ 1 = v_1 ∧ σ 5 = v_5 ∧ σ 6 = .flat (.int .i64 x_6) ∧ σ 7 = v_7 ∧ σ 8 = v_8 ∧ σ 9 = .flat (.int .i64 x_9) ∧ σ 10 = .ptr b_10 o_10 ∧ σ 11 = .flat (.int .i64 x_11) ∧ σ 12 = .flat (.int .i64 x_12), [1, 5, 6, 7, 8, 9, 10, 11, 12], lx16_13, fun σ m k => ?_⟩
  have e : Lam16.loop ((loopsOf (bodyOf Try.f16)).getD 1 .skip) σ m k = Lam16_13 σ m k := by kernel_rfl
  rw [e]
  constructor
  · intro h
    unfold Lam16_13 at h
    obtain ⟨v_1, h0⟩ : ∃ v, σ 1 = v := ⟨_, rfl⟩
    obtain ⟨v_5, h1⟩ : ∃ v, σ 5 = v := ⟨_, rfl⟩
    obtain ⟨x_6, h2, h⟩ := kI_ok h
    obtain ⟨v_7, h3⟩ : ∃ v, σ 7 = v := ⟨_, rfl⟩
    obtain ⟨v_8, h4⟩ : ∃ v, σ 8 = v := ⟨_, rfl⟩
    obtain ⟨x_9, h5, h⟩ := kI_ok h
    obtain ⟨b_10, o_10, h6, h⟩ := kptr_ok h
    obtain ⟨x_11, h7, h⟩ := kI_ok h
    obtain ⟨x_12, h8, h⟩ := kI_ok h
    obtain ⟨N, h⟩ := h
    refine ⟨⟨v_1, v_5, x_6, v_7, v_8, x_9, b_10, o_10, x_11, x_12, h0, h1, h2, h3, h4, h5, h6, h7, h8⟩, N, ?_⟩
    have ev : [1, 5, 6, 7, 8, 9, 10, 11, 12].map σ = [v_1, v_5, (.flat (.int .i64 x_6)), v_7, v_8, (.flat (.int .i64 x_9)), (.ptr b_10 o_10), (.flat (.int .i64 x_11)), (.flat (.int .i64 x_12))] := by simp only [List.map_cons, List.map_nil, h0, h1, h2, h3, h4, h5, h6, h7, h8]
    rw [ev, loop16_13]
    simp only [h0, h1, h3, h4] at h
    exact h
  · rintro ⟨⟨v_1, v_5, x_6, v_7, v_8, x_9, b_10, o_10, x_11, x_12, h0, h1, h2, h3, h4, h5, h6, h7, h8⟩, N, h⟩
    have ev : [1, 5, 6, 7, 8, 9, 10, 11, 12].map σ = [v_1, v_5, (.flat (.int .i64 x_6)), v_7, v_8, (.flat (.int .i64 x_9)), (.ptr b_10 o_10), (.flat (.int .i64 x_11)), (.flat (.int .i64 x_12))] := by simp only [List.map_cons, List.map_nil, h0, h1, h2, h3, h4, h5, h6, h7, h8]
    rw [ev, loop16_13] at h
    unfold Lam16_13
    try simp only [h0, h1, h2, h3, h4, h5, h6, h7, h8, kI, kbool, kS, kptr, kaggN, kite, decide_true, eq_self]
    exact ⟨N, h⟩

def lx16_6 : Ex → List Nat := fun e => match e with
  | .exit 0 => [5]
  | .ret => [4]
  | _ => []

theorem round16_6 (v_1 : AV) (v_5 : AV) (x_6 : Int) (v_7 : AV) (v_8 : AV) (x_9 : Int) (m : Mem) (G : List AV → Mem → Prop) (k : KX) : (wpA Try.prog E16 Lam16 ((loopsOf (bodyOf Try.f16)).getD 0 .skip) (only [1, 5, 6, 7, 8, 9] [v_1, v_5, (.flat (.int .i64 x_6)), v_7, v_8, (.flat (.int .i64 x_9))]) m fun e σ' m' => match e with
    | .normal => G ([1, 5, 6, 7, 8, 9].map σ') m'
    | .exit id => k (.exit id) (only (lx16_6 (.exit id)) ((lx16_6 (.exit id)).map σ')) m'
    | .ret => k .ret (only (lx16_6 .ret) ((lx16_6 .ret).map σ')) m') = R16_6 v_1 v_5 x_6 v_7 v_8 x_9 m (fun v_7' v_8' x_9' m' => G [v_1, v_5, (.flat (.int .i64 x_6)), v_7', v_8', (.flat (.int .i64 x_9'))] m') (fun m' => k (.exit 0) (only [5] [v_5]) m') (fun x_4' m' => k .ret (only [4] [(.flat (.bool x_4'))]) m') := by
  kernel_rfl

theorem loop16_6 (v_1 : AV) (v_5 : AV) (x_6 : Int) (k : KX) : ∀ (N : Nat) (v_7 : AV) (v_8 : AV) (x_9 : Int) (m : Mem), rounds Try.prog E16 Lam16 [1, 5, 6, 7, 8, 9] lx16_6 ((loopsOf (bodyOf Try.f16)).getD 0 .skip) N [v_1, v_5, (.flat (.int .i64 x_6)), v_7, v_8, (.flat (.int .i64 x_9))] m k = L16_6 v_1 v_5 x_6 N v_7 v_8 x_9 m (fun m' => k (.exit 0) (only [5] [v_5]) m') (fun x_4' m' => k .ret (only [4] [(.flat (.bool x_4'))]) m') := by
  intro N
  induction N with
  | zero => intros; rfl
  | succ N ih =>
    intro v_7 v_8 x_9 m
    refine (round16_6 v_1 v_5 x_6 v_7 v_8 x_9 m (fun vs m' => rounds Try.prog E16 Lam16 [1, 5, 6, 7, 8, 9] lx16_6 ((loopsOf (bodyOf Try.f16)).getD 0 .skip) N vs m' k) k).trans ?_
    simp only [ih]
    rfl

theorem lok16_6 : LoopOK Try.prog E16 Lam16 ((loopsOf (bodyOf Try.f16)).getD 0 .skip) := by
  refine ⟨fun σ => ∃ v_1 v_5 x_6 v_7 v_8 x_9, σ 1 = v_1 ∧ σ 5 = v_5 ∧ σ 6 = .flat (.int .i64 x_6) ∧ σ 7 = v_7 ∧ σ 8 = v_8 ∧ σ 9 = .flat (.int .i64 x_9), [1, 5, 6, 7, 8, 9], lx16_6, fun σ m k => ?_⟩
  have e : Lam16.loop ((loopsOf (bodyOf Try.f16)).getD 0 .skip) σ m k = Lam16_6 σ m k := by kernel_rfl
  rw [e]
  constructor
  · intro h
    unfold Lam16_6 at h
    obtain ⟨v_1, h0⟩ : ∃ v, σ 1 = v := ⟨_, rfl⟩
    obtain ⟨v_5, h1⟩ : ∃ v, σ 5 = v := ⟨_, rfl⟩
    obtain ⟨x_6, h2, h⟩ := kI_ok h
    obtain ⟨v_7, h3⟩ : ∃ v, σ 7 = v := ⟨_, rfl⟩
    obtain ⟨v_8, h4⟩ : ∃ v, σ 8 = v := ⟨_, rfl⟩
    obtain ⟨x_9, h5, h⟩ := kI_ok h
    obtain ⟨N, h⟩ := h
    refine ⟨⟨v_1, v_5, x_6, v_7, v_8, x_9, h0, h1, h2, h3, h4, h5⟩, N, ?_⟩
    have ev : [1, 5, 6, 7, 8, 9].map σ = [v_1, v_5, (.flat (.int .i64 x_6)), v_7, v_8, (.flat (.int .i64 x_9))] := by simp only [List.map_cons, List.map_nil, h0, h1, h2, h3, h4, h5]
    rw [ev, loop16_6]
    simp only [h0, h1, h3, h4] at h
    exact h
  · rintro ⟨⟨v_1, v_5, x_6, v_7, v_8, x_9, h0, h1, h2, h3, h4, h5⟩, N, h⟩
    have ev : [1, 5, 6, 7, 8, 9].map σ = [v_1, v_5, (.flat (.int .i64 x_6)), v_7, v_8, (.flat (.int .i64 x_9))] := by simp only [List.map_cons, List.map_nil, h0, h1, h2, h3, h4, h5]
    rw [ev, loop16_6] at h
    unfold Lam16_6
    try simp only [h0, h1, h2, h3, h4, h5, kI, kbool, kS, kptr, kaggN, kite, decide_true, eq_self]
    exact ⟨N, h⟩

theorem eqn16 (x_0 : Int) (v_1 : AV) (m : Mem) (k : KV) : bodyK Try.prog E16 Lam16 Try.f16 false [(.flat (.int .i64 x_0)), v_1] m k = F16 x_0 v_1 m (fun x_1000 m' => k (.flat (.bool x_1000)) m') := by
  kernel_rfl

theorem fs16 (w0 : World) : FS Try.prog w0 16 G16 := by
  refine (fs_body (Γ := E16) (sound_env (l := [(7, G7), (8, G8), (9, G9), (10, G10), (11, G11), (13, G13), (14, G14), (15, G15), (17, G17), (18, G18), (22, G22), (23, G23), (24, G24)]) w0 (by
    intro p hp
    simp only [List.mem_cons, List.not_mem_nil, or_false] at hp
    rcases hp with rfl | rfl | rfl | rfl | rfl | rfl | rfl | rfl | rfl | rfl | rfl | rfl | rfl
    · exact fs7 w0
    · exact fs8 w0
    · exact fs9 w0
    · exact fs10 w0
    · exact fs11 w0
    · exact fs13 w0
    · exact fs14 w0
    · exact fs15 w0
    · exact fs17 w0
    · exact fs18 w0
    · exact fs22 w0
    · exact fs23 w0
    · exact fs24 w0)) (by kernel_rfl) Try.func16 (Λ := Lam16) (c := (bodyOf Try.f16)) (by kernel_rfl) Try.call16 (by kernel_rfl) (LS_of (bodyOf Try.f16) 4 (by kernel_rfl) (by
    intro i hi
    match i, hi with
    | 0, _ => exact lok16_6
    | 1, _ => exact lok16_13
    | 2, _ => exact lok16_37
    | 3, _ => exact lok16_55
    | i + 4, hi => omega) 4 (by kernel_rfl) (by
    intro i hi
    match i, hi with
    | 0, _ => exact pok16_53102
    | 1, _ => exact pok16_26004
    | 2, _ => exact pok16_29102
    | 3, _ => exact pok16_23002
    | i + 4, hi => omega)) false (np := 2) (Nat.le_of_ble_eq_true (by kernel_rfl))).imp fun args => ?_
  by_cases hl : args.length = 2
  rotate_left
  · exact .inr fun m k hk => by
      unfold G16 at hk
      split at hk
      · exact hl rfl
      · exact hk
  obtain ⟨a0, a1, rfl⟩ : ∃ a0 a1, args = [a0, a1] := len_list2 hl
  rcases kI_or .i64 a0 with ⟨x_0, rfl⟩ | h
  rotate_left
  · exact .inr fun m k hk => h _ (by simpa only [G16, kI, kbool, kS, kptr, kaggN, kite, decide_true, eq_self] using hk)
  exact .inl fun m k => propext ⟨fun h => ⟨rfl, by rw [eqn16]; simpa only [G16, kI, kbool, kS, kptr, kaggN, kite, decide_true, eq_self] using h⟩, fun h => by have h := h.2; rw [eqn16] at h; simpa only [G16, kI, kbool, kS, kptr, kaggN, kite, decide_true, eq_self] using h⟩

def E6 : Env := envOf [(7, G7), (12, G12), (16, G16)]

/-- pianola/pianolalaw22.CachePlays -/
def F6 (x_0 : Int) (v_1 : AV) (m : Mem) (k : Bool → Mem → Prop) : Prop :=
  F7 x_0 1 20 m fun x1 m2 => F16 x1 v_1 m2 fun x3 m4 => kif x3 (F12  m4 fun x5 m6 => k x5 m6) (k false m4)

def G6 (args : List AV) (m : Mem) (k : KV) : Prop := match args with
  | [a0, a1] => kI .i64 a0 fun x_0 => F6 x_0 a1 m (fun x_1000 m' => k (.flat (.bool x_1000)) m')
  | _ => False

def Lam6 : LEnv := ⟨fun a σ m k => match firstReg a with
  | _ => bump False,
  fun id => match id with
  | _ => bump false,
  fun b => match keyC b with
  | _ => bump false,
  fun b σ m k => match keyC b with
  | _ => bump False⟩

theorem eqn6 (x_0 : Int) (v_1 : AV) (m : Mem) (k : KV) : bodyK Try.prog E6 Lam6 Try.f6 false [(.flat (.int .i64 x_0)), v_1] m k = F6 x_0 v_1 m (fun x_1000 m' => k (.flat (.bool x_1000)) m') := by
  kernel_rfl

theorem fs6 (w0 : World) : FS Try.prog w0 6 G6 := by
  refine (fs_body (Γ := E6) (sound_env (l := [(7, G7), (12, G12), (16, G16)]) w0 (by
    intro p hp
    simp only [List.mem_cons, List.not_mem_nil, or_false] at hp
    rcases hp with rfl | rfl | rfl
    · exact fs7 w0
    · exact fs12 w0
    · exact fs16 w0)) (by kernel_rfl) Try.func6 (Λ := Lam6) (c := (bodyOf Try.f6)) (by kernel_rfl) Try.call6 (by kernel_rfl) (LS_of (bodyOf Try.f6) 0 (by kernel_rfl) (fun i hi => absurd hi (Nat.not_lt_zero i)) 0 (by kernel_rfl) (fun i hi => absurd hi (Nat.not_lt_zero i))) false (np := 2) (Nat.le_of_ble_eq_true (by kernel_rfl))).imp fun args => ?_
  by_cases hl : args.length = 2
  rotate_left
  · exact .inr fun m k hk => by
      unfold G6 at hk
      split at hk
      · exact hl rfl
      · exact hk
  obtain ⟨a0, a1, rfl⟩ : ∃ a0 a1, args = [a0, a1] := len_list2 hl
  rcases kI_or .i64 a0 with ⟨x_0, rfl⟩ | h
  rotate_left
  · exact .inr fun m k hk => h _ (by simpa only [G6, kI, kbool, kS, kptr, kaggN, kite, decide_true, eq_self] using hk)
  exact .inl fun m k => propext ⟨fun h => ⟨rfl, by rw [eqn6]; simpa only [G6, kI, kbool, kS, kptr, kaggN, kite, decide_true, eq_self] using h⟩, fun h => by have h := h.2; rw [eqn6] at h; simpa only [G6, kI, kbool, kS, kptr, kaggN, kite, decide_true, eq_self] using h⟩

def E5 : Env := envOf [(8, G8), (12, G12), (16, G16), (17, G17)]

def R5_7 (v_1 : AV) (x_3 : Int) (m : Mem) (kn : Int → Mem → Prop) (k2 : Mem → Prop) (kr : Bool → Mem → Prop) : Prop :=
  kif (decide (x_3 < 12)) (F16 x_3 v_1 m fun x11 m12 => kif (!x11) (kr false m12) (kn (IntKind.wrap .i64 (x_3 + 1)) m12)) (k2  m)

def L5_7 (v_1 : AV) : Nat → Int → Mem → (Mem → Prop) → (Bool → Mem → Prop) → Prop
  | 0, _,  _, _, _ => bump False
  | N + 1, x_3,  m, k2, kr => R5_7 v_1 x_3 m (fun x_3' m' => L5_7 v_1 N x_3' m' k2 kr) k2 kr

def R5_3  (v_1 : AV) (x_2 : Int) (m : Mem) (kn : AV → Int → Mem → Prop) (k0 : AV → Mem → Prop) : Prop :=
  kif (decide (x_2 < 98)) (newK m ⟨11, upd (upd (upd (upd (upd (upd (upd (upd (upd (upd (upd (Z11) 0 (.flat (.int .i64 0))) 1 (.flat (.int .i64 1))) 2 (.flat (.int .i64 2))) 3 (.flat (.int .i64 4))) 4 (.flat (.int .i64 3))) 5 (.flat (.int .i64 6))) 6 (.flat (.int .i64 0))) 7 (.flat (.int .i64 5))) 8 (.flat (.int .i64 7))) 9 (.flat (.int .i64 0))) 10 (.flat (.int .i64 8)), 3, false⟩ fun b2 m1 => kif (decide (0 ≤ x_2.tmod 11) && decide (x_2.tmod 11 < 11)) (ldI .i64 m1 b2 (0 + (x_2.tmod 11).toNat * 1) fun x3 => newK m1 ⟨5, splice (lget [(.flat (.int .i64 0)), (.flat (.int .i64 0)), (.flat (.int .i64 0)), (.flat (.int .i64 0)), (.flat (.int .u32 0))]) 0 5 (upd (upd (upd (upd (upd (lget [(.flat (.int .i64 0)), (.flat (.int .i64 0)), (.flat (.int .i64 0)), (.flat (.int .i64 0)), (.flat (.int .u32 0))]) 0 (.flat (.int .i64 x3))) 1 (.flat (.int .i64 (x_2.tmod 2)))) 2 (.flat (.int .i64 ((IntKind.wrap .i64 (x_2.tdiv 2)).tmod 2)))) 3 (.flat (.int .i64 (IntKind.wrap .i64 ((x_2.tmod 8) - 1))))) 4 (.flat (.int .u32 (IntKind.wrap .u32 (IntKind.wrap .i64 (x_2 * 5)))))), 44, false⟩ fun b5 m4 => appS 5 40 44 v_1 (.sl b5 0 1 (.ex 1)) m4 fun v6 m7 => kn v6 (IntKind.wrap .i64 (x_2 + 1)) m7) False) (k0 v_1 m)

def L5_3  : Nat → AV → Int → Mem → (AV → Mem → Prop) → Prop
  | 0, _, _,  _, _ => bump False
  | N + 1, v_1, x_2,  m, k0 => R5_3  v_1 x_2 m (fun v_1' x_2' m' => L5_3  N v_1' x_2' m' k0) k0

/-- pianola/pianolalaw22.CacheNumbers -/
def F5  (m : Mem) (k : Bool → Mem → Prop) : Prop :=
  ∃ N10, L5_3  N10 (.flat (.slice none 0 0)) 0 m (fun v8 m9 => ∃ N16, L5_7 v8 N16 (-1) m9 (fun m13 => F8 9999 m13 fun v17 m18 => knilP v17 fun x19 => kif (!x19) (kptr v17 fun b20 o21 => F17 b20 o21 m18 fun x22 m23 => kif (x22 == 256) (F12  m23 fun x24 m25 => k x24 m25) (k false m23)) (k false m18)) (fun x14 m15 => k x14 m15))

def G5 (args : List AV) (m : Mem) (k : KV) : Prop := match args with
  | [] => F5  m (fun x_1000 m' => k (.flat (.bool x_1000)) m')
  | _ => False

def Lam5_3 (σ : Nat → AV) (m : Mem) (k : KX) : Prop := kI .i64 (σ 2) fun x_2 => ∃ N, L5_3  N (σ 1) x_2 m (fun v_1' m' => k (.exit 0) (only [1] [v_1']) m')

def Lam5_7 (σ : Nat → AV) (m : Mem) (k : KX) : Prop := kI .i64 (σ 3) fun x_3 => ∃ N, L5_7 (σ 1) N x_3 m (fun m' => k (.exit 2) (only [] []) m') (fun x_0' m' => k .ret (only [0] [(.flat (.bool x_0'))]) m')

def Lam5 : LEnv := ⟨fun a σ m k => match firstReg a with
  | some 3 => Lam5_3 σ m k
  | some 7 => Lam5_7 σ m k
  | _ => bump False,
  fun id => match id with
  | _ => bump false,
  fun b => match keyC b with
  | _ => bump false,
  fun b σ m k => match keyC b with
  | _ => bump False⟩

def lx5_7 : Ex → List Nat := fun e => match e with
  | .exit 2 => []
  | .ret => [0]
  | _ => []

theorem round5_7 (v_1 : AV) (x_3 : Int) (m : Mem) (G : List AV → Mem → Prop) (k : KX) : (wpA Try.prog E5 Lam5 ((loopsOf (bodyOf Try.f5)).getD 1 .skip) (only [1, 3] [v_1, (.flat (.int .i64 x_3))]) m fun e σ' m' => match e with
    | .normal => G ([1, 3].map σ') m'
    | .exit id => k (.exit id) (only (lx5_7 (.exit id)) ((lx5_7 (.exit id)).map σ')) m'
    | .ret => k .ret (only (lx5_7 .ret) ((lx5_7 .ret).map σ')) m') = R5_7 v_1 x_3 m (fun x_3' m' => G [v_1, (.flat (.int .i64 x_3'))] m') (fun m' => k (.exit 2) (only [] []) m') (fun x_0' m' => k .ret (only [0] [(.flat (.bool x_0'))]) m') := by
  kernel_rfl

theorem loop5_7 (v_1 : AV) (k : KX) : ∀ (N : Nat) (x_3 : Int) (m : Mem), rounds Try.prog E5 Lam5 [1, 3] lx5_7 ((loopsOf (bodyOf Try.f5)).getD 1 .skip) N [v_1, (.flat (.int .i64 x_3))] m k = L5_7 v_1 N x_3 m (fun m' => k (.exit 2) (only [] []) m') (fun x_0' m' => k .ret (only [0] [(.flat (.bool x_0'))]) m') := by
  intro N
  induction N with
  | zero => intros; rfl
  | succ N ih =>
    intro x_3 m
    refine (round5_7 v_1 x_3 m (fun vs m' => rounds Try.prog E5 Lam5 [1, 3] lx5_7 ((loopsOf (bodyOf Try.f5)).getD 1 .skip) N vs m' k) k).trans ?_
    simp only [ih]
    rfl

theorem lok5_7 : LoopOK Try.prog E5 Lam5 ((loopsOf (bodyOf Try.f5)).getD 1 .skip) := by
  refine ⟨fun σ => ∃ v_1 x_3, σ 1 = v_1 ∧ σ 3 = .flat (.int .i64 x_3), [1, 3], lx5_7, fun σ m k => ?_⟩
  have e : Lam5.loop ((loopsOf (bodyOf Try.f5)).getD 1 .skip) σ m k = Lam5_7 σ m k := by kernel_rfl
  rw [e]
  constructor
  · intro h
    unfold Lam5_7 at h
    obtain ⟨v_1, h0⟩ : ∃ v, σ 1 = v := ⟨_, rfl⟩
    obtain ⟨x_3, h1, h⟩ := kI_ok h
    obtain ⟨N, h⟩ := h
    refine ⟨⟨v_1, x_3, h0, h1⟩, N, ?_⟩
    have ev : [1, 3].map σ = [v_1, (.flat (.int .i64 x_3))] := by simp only [List.map_cons, List.map_nil, h0, h1]
    rw [ev, loop5_7]
    simp only [h0] at h
    exact h
  · rintro ⟨⟨v_1, x_3, h0, h1⟩, N, h⟩
    have ev : [1, 3].map σ = [v_1, (.flat (.int .i64 x_3))] := by simp only [List.map_cons, List.map_nil, h0, h1]
    rw [ev, loop5_7] at h
    unfold Lam5_7
    try simp only [h0, h1, kI, kbool, kS, kptr, kaggN, kite, decide_true, eq_self]
    exact ⟨N, h⟩

def lx5_3 : Ex → List Nat := fun e => match e with
  | .exit 0 => [1]
  | _ => []

theorem round5_3  (v_1 : AV) (x_2 : Int) (m : Mem) (G : List AV → Mem → Prop) (k : KX) : (wpA Try.prog E5 Lam5 ((loopsOf (bodyOf Try.f5)).getD 0 .skip) (only [1, 2] [v_1, (.flat (.int .i64 x_2))]) m fun e σ' m' => match e with
    | .normal => G ([1, 2].map σ') m'
    | .exit id => k (.exit id) (only (lx5_3 (.exit id)) ((lx5_3 (.exit id)).map σ')) m'
    | .ret => k .ret (only (lx5_3 .ret) ((lx5_3 .ret).map σ')) m') = R5_3  v_1 x_2 m (fun v_1' x_2' m' => G [v_1', (.flat (.int .i64 x_2'))] m') (fun v_1' m' => k (.exit 0) (only [1] [v_1']) m') := by
  kernel_rfl

theorem loop5_3  (k : KX) : ∀ (N : Nat) (v_1 : AV) (x_2 : Int) (m : Mem), rounds Try.prog E5 Lam5 [1, 2] lx5_3 ((loopsOf (bodyOf Try.f5)).getD 0 .skip) N [v_1, (.flat (.int .i64 x_2))] m k = L5_3  N v_1 x_2 m (fun v_1' m' => k (.exit 0) (only [1] [v_1']) m') := by
  intro N
  induction N with
  | zero => intros; rfl
  | succ N ih =>
    intro v_1 x_2 m
    refine (round5_3  v_1 x_2 m (fun vs m' => rounds Try.prog E5 Lam5 [1, 2] lx5_3 ((loopsOf (bodyOf Try.f5)).getD 0 .skip) N vs m' k) k).trans ?_
    simp only [ih]
    rfl

theorem lok5_3 : LoopOK Try.prog E5 Lam5 ((loopsOf (bodyOf Try.f5)).getD 0 .skip) := by
  refine ⟨fun σ => ∃ v_1 x_2, σ 1 = v_1 ∧ σ 2 = .flat (.int .i64 x_2), [1, 2], lx5_3, fun σ m k => ?_⟩
  have e : Lam5.loop ((loopsOf (bodyOf Try.f5)).getD 0 .skip) σ m k = Lam5_3 σ m k := by kernel_rfl
  rw [e]
  constructor
  · intro h
    unfold Lam5_3 at h
    obtain ⟨v_1, h0⟩ : ∃ v, σ 1 = v := ⟨_, rfl⟩
    obtain ⟨x_2, h1, h⟩ := kI_ok h
    obtain ⟨N, h⟩ := h
    refine ⟨⟨v_1, x_2, h0, h1⟩, N, ?_⟩
    have ev : [1, 2].map σ = [v_1, (.flat (.int .i64 x_2))] := by simp only [List.map_cons, List.map_nil, h0, h1]
    rw [ev, loop5_3]
    simp only [h0] at h
    exact h
  · rintro ⟨⟨v_1, x_2, h0, h1⟩, N, h⟩
    have ev : [1, 2].map σ = [v_1, (.flat (.int .i64 x_2))] := by simp only [List.map_cons, List.map_nil, h0, h1]
    rw [ev, loop5_3] at h
    unfold Lam5_3
    try simp only [h0, h1, kI, kbool, kS, kptr, kaggN, kite, decide_true, eq_self]
    exact ⟨N, h⟩

theorem eqn5  (m : Mem) (k : KV) : bodyK Try.prog E5 Lam5 Try.f5 false [] m k = F5  m (fun x_1000 m' => k (.flat (.bool x_1000)) m') := by
  kernel_rfl

theorem fs5 (w0 : World) : FS Try.prog w0 5 G5 := by
  refine (fs_body (Γ := E5) (sound_env (l := [(8, G8), (12, G12), (16, G16), (17, G17)]) w0 (by
    intro p hp
    simp only [List.mem_cons, List.not_mem_nil, or_false] at hp
    rcases hp with rfl | rfl | rfl | rfl
    · exact fs8 w0
    · exact fs12 w0
    · exact fs16 w0
    · exact fs17 w0)) (by kernel_rfl) Try.func5 (Λ := Lam5) (c := (bodyOf Try.f5)) (by kernel_rfl) Try.call5 (by kernel_rfl) (LS_of (bodyOf Try.f5) 2 (by kernel_rfl) (by
    intro i hi
    match i, hi with
    | 0, _ => exact lok5_3
    | 1, _ => exact lok5_7
    | i + 2, hi => omega) 0 (by kernel_rfl) (fun i hi => absurd hi (Nat.not_lt_zero i))) false (np := 0) (Nat.le_of_ble_eq_true (by kernel_rfl))).imp fun args => ?_
  by_cases hl : args.length = 0
  rotate_left
  · exact .inr fun m k hk => by
      unfold G5 at hk
      split at hk
      · exact hl rfl
      · exact hk
  obtain rfl : args = [] := len_list0 hl

  exact .inl fun m k => propext ⟨fun h => ⟨rfl, by rw [eqn5]; simpa only [G5, kI, kbool, kS, kptr, kaggN, kite, decide_true, eq_self] using h⟩, fun h => by have h := h.2; rw [eqn5] at h; simpa only [G5, kI, kbool, kS, kptr, kaggN, kite, decide_true, eq_self] using h⟩

end Go.Proofs.Ytjeijigchdnblaa.Am
