/- What Go functions ask of what follows them, as plain functions over the abstract machine; the machine asks just that. Written by gen.py. -/
import Derived.Test.YtobdghdcmkdcaaaProg
import Derived.Test.YtobdghdcmkdcaaaAmL
import Derived.Test.YtobdghdcmkdcaaaM2
namespace Go.Proofs.Ytobdghdcmkdcaaa.Am
set_option linter.unusedVariables false
set_option linter.unusedSimpArgs false
set_option maxRecDepth 100000

def E38 : Env := envOf [(42, G42), (43, G43), (47, G47), (48, G48)]

def R38_1 (b_0 o_0 : Nat) (v_9 : AV) (x_10 : Int) (x_11 : Int) (m : Mem) (kn : Int → Mem → Prop) (k0 : Mem → Prop) : Prop :=
  kif (decide (x_11 < x_10)) (ksl v_9 fun b11 o12 l13 p14 => kif (decide (0 ≤ x_11) && decide (x_11 < l13)) (ldI .i64 m b11 (o12 + (x_11).toNat * 1) fun x15 => ldA m b_0 (o_0 + 74) fun v16 => kptr v16 fun b17 o18 => F43 b17 o18 x15 m fun x19 m20 => ldA m20 b_0 (o_0 + 73) fun v21 => kptr v21 fun b22 o23 => F42 b22 o23 m20 fun v24 m25 => kptr v24 fun b26 o27 => F48 b26 o27 x15 m25 fun m28 => kn (IntKind.wrap .i64 (x_11 + 1)) m28) False) (k0  m)

def L38_1 (b_0 o_0 : Nat) (v_9 : AV) (x_10 : Int) : Nat → Int → Mem → (Mem → Prop) → Prop
  | 0, _,  _, _ => bump False
  | N + 1, x_11,  m, k0 => R38_1 b_0 o_0 v_9 x_10 x_11 m (fun x_11' m' => L38_1 b_0 o_0 v_9 x_10 N x_11' m' k0) k0

/-- (*pianola/engine.Machine).sync -/
def F38 (b_0 o_0 : Nat) (m : Mem) (k : Mem → Prop) : Prop :=
  ldA m b_0 (o_0 + 73) fun v1 => kptr v1 fun b2 o3 => F42 b2 o3 m fun v4 m5 => kptr v4 fun b6 o7 => F47 b6 o7 m5 fun v8 m9 => klen v8 fun x10 => ∃ N30, L38_1 b_0 o_0 v8 x10 N30 0 m9 (fun m29 => k  m29)

def G38 (args : List AV) (m : Mem) (k : KV) : Prop := match args with
  | [a0] => kptr a0 fun b_0 o_0 => F38 b_0 o_0 m (fun m' => k (.tup []) m')
  | _ => False

def Lam38_1 (σ : Nat → AV) (m : Mem) (k : KX) : Prop := kptr (σ 0) fun b_0 o_0 => kI .i64 (σ 10) fun x_10 => kI .i64 (σ 11) fun x_11 => ∃ N, L38_1 b_0 o_0 (σ 9) x_10 N x_11 m (fun m' => k (.exit 0) (only [] []) m')

def Lam38 : LEnv := ⟨fun a σ m k => match firstReg a with
  | some 1 => Lam38_1 σ m k
  | _ => bump False,
  fun id => match id with
  | _ => bump false,
  fun b => match keyC b with
  | _ => bump false,
  fun b σ m k => match keyC b with
  | _ => bump False⟩

def lx38_1 : Ex → List Nat := fun e => match e with
  | .exit 0 => []
  | _ => []

theorem round38_1 (b_0 o_0 : Nat) (v_9 : AV) (x_10 : Int) (x_11 : Int) (m : Mem) (G : List AV → Mem → Prop) (k : KX) : (wpA Try.prog E38 Lam38 ((loopsOf (bodyOf Try.f38)).getD 0 .skip) (only [0, 9, 10, 11] [(.ptr b_0 o_0), v_9, (.flat (.int .i64 x_10)), (.flat (.int .i64 x_11))]) m fun e σ' m' => match e with
    | .normal => G ([0, 9, 10, 11].map σ') m'
    | .exit id => k (.exit id) (only (lx38_1 (.exit id)) ((lx38_1 (.exit id)).map σ')) m'
    | .ret => k .ret (only (lx38_1 .ret) ((lx38_1 .ret).map σ')) m') = R38_1 b_0 o_0 v_9 x_10 x_11 m (fun x_11' m' => G [(.ptr b_0 o_0), v_9, (.flat (.int .i64 x_10)), (.flat (.int .i64 x_11'))] m') (fun m' => k (.exit 0) (only [] []) m') := by
  kernel_rfl

theorem loop38_1 (b_0 o_0 : Nat) (v_9 : AV) (x_10 : Int) (k : KX) : ∀ (N : Nat) (x_11 : Int) (m : Mem), rounds Try.prog E38 Lam38 [0, 9, 10, 11] lx38_1 ((loopsOf (bodyOf Try.f38)).getD 0 .skip) N [(.ptr b_0 o_0), v_9, (.flat (.int .i64 x_10)), (.flat (.int .i64 x_11))] m k = L38_1 b_0 o_0 v_9 x_10 N x_11 m (fun m' => k (.exit 0) (only [] []) m') := by
  intro N
  induction N with
  | zero => intros; rfl
  | succ N ih =>
    intro x_11 m
    refine (round38_1 b_0 o_0 v_9 x_10 x_11 m (fun vs m' => rounds Try.prog E38 Lam38 [0, 9, 10, 11] lx38_1 ((loopsOf (bodyOf Try.f38)).getD 0 .skip) N vs m' k) k).trans ?_
    simp only [ih]
    rfl

theorem lok38_1 : LoopOK Try.prog E38 Lam38 ((loopsOf (bodyOf Try.f38)).getD 0 .skip) := by
  refine ⟨fun σ => ∃ b_0 o_0 v_9 x_10 x_11, σ 0 = .ptr b_0 o_0 ∧ σ 9 = v_9 ∧ σ 10 = .flat (.int .i64 x_10) ∧ σ 11 = .flat (.int .i64 x_11), [0, 9, 10, 11], lx38_1, fun σ m k => ?_⟩
  have e : Lam38.loop ((loopsOf (bodyOf Try.f38)).getD 0 .skip) σ m k = Lam38_1 σ m k := by kernel_rfl
  rw [e]
  constructor
  · intro h
    unfold Lam38_1 at h
    obtain ⟨b_0, o_0, h0, h⟩ := kptr_ok h
    obtain ⟨v_9, h1⟩ : ∃ v, σ 9 = v := ⟨_, rfl⟩
    obtain ⟨x_10, h2, h⟩ := kI_ok h
    obtain ⟨x_11, h3, h⟩ := kI_ok h
    obtain ⟨N, h⟩ := h
    refine ⟨⟨b_0, o_0, v_9, x_10, x_11, h0, h1, h2, h3⟩, N, ?_⟩
    have ev : [0, 9, 10, 11].map σ = [(.ptr b_0 o_0), v_9, (.flat (.int .i64 x_10)), (.flat (.int .i64 x_11))] := by simp only [List.map_cons, List.map_nil, h0, h1, h2, h3]
    rw [ev, loop38_1]
    simp only [h1] at h
    exact h
  · rintro ⟨⟨b_0, o_0, v_9, x_10, x_11, h0, h1, h2, h3⟩, N, h⟩
    have ev : [0, 9, 10, 11].map σ = [(.ptr b_0 o_0), v_9, (.flat (.int .i64 x_10)), (.flat (.int .i64 x_11))] := by simp only [List.map_cons, List.map_nil, h0, h1, h2, h3]
    rw [ev, loop38_1] at h
    unfold Lam38_1
    try simp only [h0, h1, h2, h3, kI, kbool, kS, kptr, kaggN, kite, decide_true, eq_self]
    exact ⟨N, h⟩

theorem eqn38 (b_0 o_0 : Nat) (m : Mem) (k : KV) : bodyK Try.prog E38 Lam38 Try.f38 false [(.ptr b_0 o_0)] m k = F38 b_0 o_0 m (fun m' => k (.tup []) m') := by
  kernel_rfl

theorem fs38 (w0 : World) : FS Try.prog w0 38 G38 := by
  refine (fs_body (Γ := E38) (sound_env (l := [(42, G42), (43, G43), (47, G47), (48, G48)]) w0 (by
    intro p hp
    simp only [List.mem_cons, List.not_mem_nil, or_false] at hp
    rcases hp with rfl | rfl | rfl | rfl
    · exact fs42 w0
    · exact fs43 w0
    · exact fs47 w0
    · exact fs48 w0)) (by kernel_rfl) Try.func38 (Λ := Lam38) (c := (bodyOf Try.f38)) (by kernel_rfl) Try.call38 (by kernel_rfl) (LS_of (bodyOf Try.f38) 1 (by kernel_rfl) (by
    intro i hi
    match i, hi with
    | 0, _ => exact lok38_1
    | i + 1, hi => omega) 0 (by kernel_rfl) (fun i hi => absurd hi (Nat.not_lt_zero i))) false (np := 1) (Nat.le_of_ble_eq_true (by kernel_rfl))).imp fun args => ?_
  by_cases hl : args.length = 1
  rotate_left
  · exact .inr fun m k hk => by
      unfold G38 at hk
      split at hk
      · exact hl rfl
      · exact hk
  obtain ⟨a0, rfl⟩ : ∃ a0, args = [a0] := len_list1 hl
  rcases kptr_or a0 with ⟨b_0, o_0, rfl⟩ | h
  rotate_left
  · exact .inr fun m k hk => h _ (by simpa only [G38, kI, kbool, kS, kptr, kaggN, kite, decide_true, eq_self] using hk)
  exact .inl fun m k => propext ⟨fun h => ⟨rfl, by rw [eqn38]; simpa only [G38, kI, kbool, kS, kptr, kaggN, kite, decide_true, eq_self] using h⟩, fun h => by have h := h.2; rw [eqn38] at h; simpa only [G38, kI, kbool, kS, kptr, kaggN, kite, decide_true, eq_self] using h⟩

def E39 : Env := envOf [(49, G49)]

/-- (*pianola/cache.Cache).Keys -/
def F39 (b_0 o_0 : Nat) (m : Mem) (k : AV → Mem → Prop) : Prop :=
  ldA m b_0 (o_0 + 1) fun v1 => F49 v1 m fun v2 m3 => k v2 m3

def G39 (args : List AV) (m : Mem) (k : KV) : Prop := match args with
  | [a0] => kptr a0 fun b_0 o_0 => F39 b_0 o_0 m (fun v_1000 m' => k v_1000 m')
  | _ => False

def Lam39 : LEnv := ⟨fun a σ m k => match firstReg a with
  | _ => bump False,
  fun id => match id with
  | _ => bump false,
  fun b => match keyC b with
  | _ => bump false,
  fun b σ m k => match keyC b with
  | _ => bump False⟩

theorem eqn39 (b_0 o_0 : Nat) (m : Mem) (k : KV) : bodyK Try.prog E39 Lam39 Try.f39 false [(.ptr b_0 o_0)] m k = F39 b_0 o_0 m (fun v_1000 m' => k v_1000 m') := by
  kernel_rfl

theorem fs39 (w0 : World) : FS Try.prog w0 39 G39 := by
  refine (fs_body (Γ := E39) (sound_env (l := [(49, G49)]) w0 (by
    intro p hp
    simp only [List.mem_cons, List.not_mem_nil, or_false] at hp
    rcases hp with rfl
    · exact fs49 w0)) (by kernel_rfl) Try.func39 (Λ := Lam39) (c := (bodyOf Try.f39)) (by kernel_rfl) Try.call39 (by kernel_rfl) (LS_of (bodyOf Try.f39) 0 (by kernel_rfl) (fun i hi => absurd hi (Nat.not_lt_zero i)) 0 (by kernel_rfl) (fun i hi => absurd hi (Nat.not_lt_zero i))) false (np := 1) (Nat.le_of_ble_eq_true (by kernel_rfl))).imp fun args => ?_
  by_cases hl : args.length = 1
  rotate_left
  · exact .inr fun m k hk => by
      unfold G39 at hk
      split at hk
      · exact hl rfl
      · exact hk
  obtain ⟨a0, rfl⟩ : ∃ a0, args = [a0] := len_list1 hl
  rcases kptr_or a0 with ⟨b_0, o_0, rfl⟩ | h
  rotate_left
  · exact .inr fun m k hk => h _ (by simpa only [G39, kI, kbool, kS, kptr, kaggN, kite, decide_true, eq_self] using hk)
  exact .inl fun m k => propext ⟨fun h => ⟨rfl, by rw [eqn39]; simpa only [G39, kI, kbool, kS, kptr, kaggN, kite, decide_true, eq_self] using h⟩, fun h => by have h := h.2; rw [eqn39] at h; simpa only [G39, kI, kbool, kS, kptr, kaggN, kite, decide_true, eq_self] using h⟩

def E40 : Env := envOf [(50, G50)]

/-- (*pianola/cache.Cache).Get -/
def F40 (b_0 o_0 : Nat) (c_1 : Nat → AV) (m : Mem) (k : (Nat → AV) → Bool → Mem → Prop) : Prop :=
  newK m ⟨3, c_1, 94, false⟩ fun b2 m1 => newK m1 ⟨4, lget [(.flat (.int .u32 0)), (.flat (.slice none 0 0)), (.flat (.slice none 0 0)), (.flat (.slice none 0 0))], 98, false⟩ fun b4 m3 => ldA m3 b_0 (o_0 + 2) fun v5 => ldG 3 m3 b2 0 fun c6 => mget K94 3 v5 c6 4 (lget [(.flat (.int .u32 0)), (.flat (.slice none 0 0)), (.flat (.slice none 0 0)), (.flat (.slice none 0 0))]) m3 fun c7 x8 => newK m3 ⟨4, lget [(.flat (.int .u32 0)), (.flat (.slice none 0 0)), (.flat (.slice none 0 0)), (.flat (.slice none 0 0))], 98, false⟩ fun b10 m9 => stG 4 m9 b10 0 c7 fun m11 => kif x8 (ldG 3 m11 b2 0 fun c12 => F50 b_0 o_0 c12 m11 fun m13 => ldA m13 b_0 (o_0 + 1) fun v14 => ldG 3 m13 b2 0 fun c15 => newK m13 ⟨3, splice (lget [(.flat (.int .u32 0)), (.flat (.int .i64 0)), (.flat (.int .i64 0))]) 0 3 c15, 94, false⟩ fun b17 m16 => appS 3 24 94 v14 (.sl b17 0 1 (.ex 1)) m16 fun v18 m19 => stV m19 b_0 (o_0 + 1) v18 fun m20 => ldG 4 m20 b10 0 fun c21 => stG 4 m20 b4 0 c21 fun m22 => ldG 4 m22 b4 0 fun c25 => k c25 x8 m22) (ldG 4 m11 b10 0 fun c23 => stG 4 m11 b4 0 c23 fun m24 => ldG 4 m24 b4 0 fun c26 => k c26 x8 m24)

def G40 (args : List AV) (m : Mem) (k : KV) : Prop := match args with
  | [a0, a1] => kptr a0 fun b_0 o_0 => kaggN 3 a1 fun c_1 => F40 b_0 o_0 c_1 m (fun c_1000 x_1001 m' => k (.tup [(.agg 4 c_1000), (.flat (.bool x_1001))]) m')
  | _ => False

def Lam40 : LEnv := ⟨fun a σ m k => match firstReg a with
  | _ => bump False,
  fun id => match id with
  | _ => bump false,
  fun b => match keyC b with
  | _ => bump false,
  fun b σ m k => match keyC b with
  | _ => bump False⟩

theorem eqn40 (b_0 o_0 : Nat) (c_1 : Nat → AV) (m : Mem) (k : KV) : bodyK Try.prog E40 Lam40 Try.f40 false [(.ptr b_0 o_0), (.agg 3 c_1)] m k = F40 b_0 o_0 c_1 m (fun c_1000 x_1001 m' => k (.tup [(.agg 4 c_1000), (.flat (.bool x_1001))]) m') := by
  kernel_rfl

theorem fs40 (w0 : World) : FS Try.prog w0 40 G40 := by
  refine (fs_body (Γ := E40) (sound_env (l := [(50, G50)]) w0 (by
    intro p hp
    simp only [List.mem_cons, List.not_mem_nil, or_false] at hp
    rcases hp with rfl
    · exact fs50 w0)) (by kernel_rfl) Try.func40 (Λ := Lam40) (c := (bodyOf Try.f40)) (by kernel_rfl) Try.call40 (by kernel_rfl) (LS_of (bodyOf Try.f40) 0 (by kernel_rfl) (fun i hi => absurd hi (Nat.not_lt_zero i)) 0 (by kernel_rfl) (fun i hi => absurd hi (Nat.not_lt_zero i))) false (np := 2) (Nat.le_of_ble_eq_true (by kernel_rfl))).imp fun args => ?_
  by_cases hl : args.length = 2
  rotate_left
  · exact .inr fun m k hk => by
      unfold G40 at hk
      split at hk
      · exact hl rfl
      · exact hk
  obtain ⟨a0, a1, rfl⟩ : ∃ a0 a1, args = [a0, a1] := len_list2 hl
  rcases kptr_or a0 with ⟨b_0, o_0, rfl⟩ | h
  rotate_left
  · exact .inr fun m k hk => h _ (by simpa only [G40, kI, kbool, kS, kptr, kaggN, kite, decide_true, eq_self] using hk)
  rcases kaggN_or 3 a1 with ⟨c_1, rfl⟩ | h
  rotate_left
  · exact .inr fun m k hk => h _ (by simpa only [G40, kI, kbool, kS, kptr, kaggN, kite, decide_true, eq_self] using hk)
  exact .inl fun m k => propext ⟨fun h => ⟨rfl, by rw [eqn40]; simpa only [G40, kI, kbool, kS, kptr, kaggN, kite, decide_true, eq_self] using h⟩, fun h => by have h := h.2; rw [eqn40] at h; simpa only [G40, kI, kbool, kS, kptr, kaggN, kite, decide_true, eq_self] using h⟩

def E55 : Env := envOf [(45, G45)]

/-- (*pianola/ram.Ram).even -/
def F55 (b_0 o_0 : Nat) (x_1 : Int) (x_2 : Int) (m : Mem) (k : Bool → Mem → Prop) : Prop :=
  kif (x_2 == 1) (kif (decide (IntKind.wrap .u32 x_2 = 0)) False (kif ((x_1.tmod (IntKind.wrap .u32 x_2)) == 0) (F45 b_0 o_0 x_1 x_2 m fun x1 m2 => (Keeps m m2 ∧ k x1 m)) ((Keeps m m ∧ k false m)))) (kif (x_2 == 2) (kif (decide (IntKind.wrap .u32 x_2 = 0)) False (kif ((x_1.tmod (IntKind.wrap .u32 x_2)) == 0) (F45 b_0 o_0 x_1 x_2 m fun x3 m4 => (Keeps m m4 ∧ k x3 m)) ((Keeps m m ∧ k false m)))) (kif (x_2 == 4) (kif (decide (IntKind.wrap .u32 x_2 = 0)) False (kif ((x_1.tmod (IntKind.wrap .u32 x_2)) == 0) (F45 b_0 o_0 x_1 x_2 m fun x5 m6 => (Keeps m m6 ∧ k x5 m)) ((Keeps m m ∧ k false m)))) ((Keeps m m ∧ k false m))))

def G55 (args : List AV) (m : Mem) (k : KV) : Prop := match args with
  | [a0, a1, a2] => kptr a0 fun b_0 o_0 => kI .u32 a1 fun x_1 => kI .i64 a2 fun x_2 => F55 b_0 o_0 x_1 x_2 m (fun x_1000 m' => k (.flat (.bool x_1000)) m')
  | _ => False

def Lam55 : LEnv := ⟨fun a σ m k => match firstReg a with
  | _ => bump False,
  fun id => match id with
  | _ => bump false,
  fun b => match keyC b with
  | _ => bump false,
  fun b σ m k => match keyC b with
  | _ => bump False⟩

theorem eqn55 (b_0 o_0 : Nat) (x_1 : Int) (x_2 : Int) (m : Mem) (k : KV) : bodyK Try.prog E55 Lam55 Try.f55 true [(.ptr b_0 o_0), (.flat (.int .u32 x_1)), (.flat (.int .i64 x_2))] m k = F55 b_0 o_0 x_1 x_2 m (fun x_1000 m' => k (.flat (.bool x_1000)) m') := by
  kernel_rfl

theorem fs55 (w0 : World) : FS Try.prog w0 55 G55 := by
  refine (fs_body (Γ := E55) (sound_env (l := [(45, G45)]) w0 (by
    intro p hp
    simp only [List.mem_cons, List.not_mem_nil, or_false] at hp
    rcases hp with rfl
    · exact fs45 w0)) (by kernel_rfl) Try.func55 (Λ := Lam55) (c := (bodyOf Try.f55)) (by kernel_rfl) Try.call55 (by kernel_rfl) (LS_of (bodyOf Try.f55) 0 (by kernel_rfl) (fun i hi => absurd hi (Nat.not_lt_zero i)) 0 (by kernel_rfl) (fun i hi => absurd hi (Nat.not_lt_zero i))) true (np := 3) (Nat.le_of_ble_eq_true (by kernel_rfl))).imp fun args => ?_
  by_cases hl : args.length = 3
  rotate_left
  · exact .inr fun m k hk => by
      unfold G55 at hk
      split at hk
      · exact hl rfl
      · exact hk
  obtain ⟨a0, a1, a2, rfl⟩ : ∃ a0 a1 a2, args = [a0, a1, a2] := len_list3 hl
  rcases kptr_or a0 with ⟨b_0, o_0, rfl⟩ | h
  rotate_left
  · exact .inr fun m k hk => h _ (by simpa only [G55, kI, kbool, kS, kptr, kaggN, kite, decide_true, eq_self] using hk)
  rcases kI_or .u32 a1 with ⟨x_1, rfl⟩ | h
  rotate_left
  · exact .inr fun m k hk => h _ (by simpa only [G55, kI, kbool, kS, kptr, kaggN, kite, decide_true, eq_self] using hk)
  rcases kI_or .i64 a2 with ⟨x_2, rfl⟩ | h
  rotate_left
  · exact .inr fun m k hk => h _ (by simpa only [G55, kI, kbool, kS, kptr, kaggN, kite, decide_true, eq_self] using hk)
  exact .inl fun m k => propext ⟨fun h => ⟨rfl, by rw [eqn55]; simpa only [G55, kI, kbool, kS, kptr, kaggN, kite, decide_true, eq_self] using h⟩, fun h => by have h := h.2; rw [eqn55] at h; simpa only [G55, kI, kbool, kS, kptr, kaggN, kite, decide_true, eq_self] using h⟩

def E51 : Env := envOf [(55, G55)]

def R51_5 (v_25 : AV) (x_26 : Int) (x_8 : Int) (x_27 : Int) (m : Mem) (kn : Int → Int → Mem → Prop) (k0 : Int → Mem → Prop) : Prop :=
  kif (decide (x_27 < x_26)) (ksl v_25 fun b6 o7 l8 p9 => kif (decide (0 ≤ x_27) && decide (x_27 < l8)) (ldI .u8 m b6 (o7 + (x_27).toNat * 1) fun x10 => kn (bits .or .u32 (IntKind.wrap .u32 (x_8 * 256)) (IntKind.wrap .u32 x10)) (IntKind.wrap .i64 (x_27 + 1)) m) False) (k0 x_8 m)

def L51_5 (v_25 : AV) (x_26 : Int) : Nat → Int → Int → Mem → (Int → Mem → Prop) → Prop
  | 0, _, _,  _, _ => bump False
  | N + 1, x_8, x_27,  m, k0 => R51_5 v_25 x_26 x_8 x_27 m (fun x_8' x_27' m' => L51_5 v_25 x_26 N x_8' x_27' m' k0) k0

/-- (*pianola/ram.Ram).Load -/
def F51 (b_0 o_0 : Nat) (x_1 : Int) (x_2 : Int) (m : Mem) (k : Int → Bool → Mem → Prop) : Prop :=
  F55 b_0 o_0 x_1 x_2 m fun x1 m2 => kif (!x1) ((Keeps m m2 ∧ k 0 false m)) (ldA m2 b_0 (o_0 + 0) fun v3 => slS 1 v3 (some x_1) (some (IntKind.wrap .i64 ((IntKind.wrap .i64 x_1) + x_2))) fun v4 => klen v4 fun x5 => ∃ N13, L51_5 v4 x5 N13 0 0 m2 (fun x11 m12 => (Keeps m m12 ∧ k x11 true m)))

def G51 (args : List AV) (m : Mem) (k : KV) : Prop := match args with
  | [a0, a1, a2] => kptr a0 fun b_0 o_0 => kI .u32 a1 fun x_1 => kI .i64 a2 fun x_2 => F51 b_0 o_0 x_1 x_2 m (fun x_1000 x_1001 m' => k (.tup [(.flat (.int .u32 x_1000)), (.flat (.bool x_1001))]) m')
  | _ => False

def Lam51_5 (σ : Nat → AV) (m : Mem) (k : KX) : Prop := kI .u32 (σ 8) fun x_8 => kI .i64 (σ 26) fun x_26 => kI .i64 (σ 27) fun x_27 => ∃ N, L51_5 (σ 25) x_26 N x_8 x_27 m (fun x_8' m' => k (.exit 0) (only [8] [(.flat (.int .u32 x_8'))]) m')

def Lam51 : LEnv := ⟨fun a σ m k => match firstReg a with
  | some 5 => Lam51_5 σ m k
  | _ => bump False,
  fun id => match id with
  | _ => bump false,
  fun b => match keyC b with
  | _ => bump false,
  fun b σ m k => match keyC b with
  | _ => bump False⟩

def lx51_5 : Ex → List Nat := fun e => match e with
  | .exit 0 => [8]
  | _ => []

theorem round51_5 (v_25 : AV) (x_26 : Int) (x_8 : Int) (x_27 : Int) (m : Mem) (G : List AV → Mem → Prop) (k : KX) : (wpA Try.prog E51 Lam51 ((loopsOf (bodyOf Try.f51)).getD 0 .skip) (only [8, 25, 26, 27] [(.flat (.int .u32 x_8)), v_25, (.flat (.int .i64 x_26)), (.flat (.int .i64 x_27))]) m fun e σ' m' => match e with
    | .normal => G ([8, 25, 26, 27].map σ') m'
    | .exit id => k (.exit id) (only (lx51_5 (.exit id)) ((lx51_5 (.exit id)).map σ')) m'
    | .ret => k .ret (only (lx51_5 .ret) ((lx51_5 .ret).map σ')) m') = R51_5 v_25 x_26 x_8 x_27 m (fun x_8' x_27' m' => G [(.flat (.int .u32 x_8')), v_25, (.flat (.int .i64 x_26)), (.flat (.int .i64 x_27'))] m') (fun x_8' m' => k (.exit 0) (only [8] [(.flat (.int .u32 x_8'))]) m') := by
  kernel_rfl

theorem loop51_5 (v_25 : AV) (x_26 : Int) (k : KX) : ∀ (N : Nat) (x_8 : Int) (x_27 : Int) (m : Mem), rounds Try.prog E51 Lam51 [8, 25, 26, 27] lx51_5 ((loopsOf (bodyOf Try.f51)).getD 0 .skip) N [(.flat (.int .u32 x_8)), v_25, (.flat (.int .i64 x_26)), (.flat (.int .i64 x_27))] m k = L51_5 v_25 x_26 N x_8 x_27 m (fun x_8' m' => k (.exit 0) (only [8] [(.flat (.int .u32 x_8'))]) m') := by
  intro N
  induction N with
  | zero => intros; rfl
  | succ N ih =>
    intro x_8 x_27 m
    refine (round51_5 v_25 x_26 x_8 x_27 m (fun vs m' => rounds Try.prog E51 Lam51 [8, 25, 26, 27] lx51_5 ((loopsOf (bodyOf Try.f51)).getD 0 .skip) N vs m' k) k).trans ?_
    simp only [ih]
    rfl

theorem lok51_5 : LoopOK Try.prog E51 Lam51 ((loopsOf (bodyOf Try.f51)).getD 0 .skip) := by
  refine ⟨fun σ => ∃ x_8 v_25 x_26 x_27, σ 8 = .flat (.int .u32 x_8) ∧ σ 25 = v_25 ∧ σ 26 = .flat (.int .i64 x_26) ∧ σ 27 = .flat (.int .i64 x_27), [8, 25, 26, 27], lx51_5, fun σ m k => ?_⟩
  have e : Lam51.loop ((loopsOf (bodyOf Try.f51)).getD 0 .skip) σ m k = Lam51_5 σ m k := by kernel_rfl
  rw [e]
  constructor
  · intro h
    unfold Lam51_5 at h
    obtain ⟨x_8, h0, h⟩ := kI_ok h
    obtain ⟨v_25, h1⟩ : ∃ v, σ 25 = v := ⟨_, rfl⟩
    obtain ⟨x_26, h2, h⟩ := kI_ok h
    obtain ⟨x_27, h3, h⟩ := kI_ok h
    obtain ⟨N, h⟩ := h
    refine ⟨⟨x_8, v_25, x_26, x_27, h0, h1, h2, h3⟩, N, ?_⟩
    have ev : [8, 25, 26, 27].map σ = [(.flat (.int .u32 x_8)), v_25, (.flat (.int .i64 x_26)), (.flat (.int .i64 x_27))] := by simp only [List.map_cons, List.map_nil, h0, h1, h2, h3]
    rw [ev, loop51_5]
    simp only [h1] at h
    exact h
  · rintro ⟨⟨x_8, v_25, x_26, x_27, h0, h1, h2, h3⟩, N, h⟩
    have ev : [8, 25, 26, 27].map σ = [(.flat (.int .u32 x_8)), v_25, (.flat (.int .i64 x_26)), (.flat (.int .i64 x_27))] := by simp only [List.map_cons, List.map_nil, h0, h1, h2, h3]
    rw [ev, loop51_5] at h
    unfold Lam51_5
    try simp only [h0, h1, h2, h3, kI, kbool, kS, kptr, kaggN, kite, decide_true, eq_self]
    exact ⟨N, h⟩

theorem eqn51 (b_0 o_0 : Nat) (x_1 : Int) (x_2 : Int) (m : Mem) (k : KV) : bodyK Try.prog E51 Lam51 Try.f51 true [(.ptr b_0 o_0), (.flat (.int .u32 x_1)), (.flat (.int .i64 x_2))] m k = F51 b_0 o_0 x_1 x_2 m (fun x_1000 x_1001 m' => k (.tup [(.flat (.int .u32 x_1000)), (.flat (.bool x_1001))]) m') := by
  kernel_rfl

theorem fs51 (w0 : World) : FS Try.prog w0 51 G51 := by
  refine (fs_body (Γ := E51) (sound_env (l := [(55, G55)]) w0 (by
    intro p hp
    simp only [List.mem_cons, List.not_mem_nil, or_false] at hp
    rcases hp with rfl
    · exact fs55 w0)) (by kernel_rfl) Try.func51 (Λ := Lam51) (c := (bodyOf Try.f51)) (by kernel_rfl) Try.call51 (by kernel_rfl) (LS_of (bodyOf Try.f51) 1 (by kernel_rfl) (by
    intro i hi
    match i, hi with
    | 0, _ => exact lok51_5
    | i + 1, hi => omega) 0 (by kernel_rfl) (fun i hi => absurd hi (Nat.not_lt_zero i))) true (np := 3) (Nat.le_of_ble_eq_true (by kernel_rfl))).imp fun args => ?_
  by_cases hl : args.length = 3
  rotate_left
  · exact .inr fun m k hk => by
      unfold G51 at hk
      split at hk
      · exact hl rfl
      · exact hk
  obtain ⟨a0, a1, a2, rfl⟩ : ∃ a0 a1 a2, args = [a0, a1, a2] := len_list3 hl
  rcases kptr_or a0 with ⟨b_0, o_0, rfl⟩ | h
  rotate_left
  · exact .inr fun m k hk => h _ (by simpa only [G51, kI, kbool, kS, kptr, kaggN, kite, decide_true, eq_self] using hk)
  rcases kI_or .u32 a1 with ⟨x_1, rfl⟩ | h
  rotate_left
  · exact .inr fun m k hk => h _ (by simpa only [G51, kI, kbool, kS, kptr, kaggN, kite, decide_true, eq_self] using hk)
  rcases kI_or .i64 a2 with ⟨x_2, rfl⟩ | h
  rotate_left
  · exact .inr fun m k hk => h _ (by simpa only [G51, kI, kbool, kS, kptr, kaggN, kite, decide_true, eq_self] using hk)
  exact .inl fun m k => propext ⟨fun h => ⟨rfl, by rw [eqn51]; simpa only [G51, kI, kbool, kS, kptr, kaggN, kite, decide_true, eq_self] using h⟩, fun h => by have h := h.2; rw [eqn51] at h; simpa only [G51, kI, kbool, kS, kptr, kaggN, kite, decide_true, eq_self] using h⟩

def E41 : Env := envOf [(51, G51)]

def R41_4 (b_1 o_1 : Nat) (b_2 o_2 : Nat) (v_12 : AV) (x_13 : Int) (x_14 : Int) (m : Mem) (kn : Int → Mem → Prop) (k0 : Mem → Prop) (kr : Bool → Mem → Prop) : Prop :=
  kif (decide (x_14 < x_13)) (ksl v_12 fun b5 o6 l7 p8 => kif (decide (0 ≤ x_14) && decide (x_14 < l7)) (ldI .u32 m b5 (o6 + (x_14).toNat * 1) fun x9 => ldI .u32 m b_2 (o_2 + 0) fun x10 => F51 b_1 o_1 (IntKind.wrap .u32 (x10 + (IntKind.wrap .u32 (IntKind.wrap .i64 (4 * x_14))))) 4 m fun x11 x12 m13 => kif (!x12) (kr false m13) (kif (x11 != x9) (kr false m13) (kn (IntKind.wrap .i64 (x_14 + 1)) m13))) False) (k0  m)

def L41_4 (b_1 o_1 : Nat) (b_2 o_2 : Nat) (v_12 : AV) (x_13 : Int) : Nat → Int → Mem → (Mem → Prop) → (Bool → Mem → Prop) → Prop
  | 0, _,  _, _, _ => bump False
  | N + 1, x_14,  m, k0, kr => R41_4 b_1 o_1 b_2 o_2 v_12 x_13 x_14 m (fun x_14' m' => L41_4 b_1 o_1 b_2 o_2 v_12 x_13 N x_14' m' k0 kr) k0 kr

/-- pianola/block.Same -/
def F41 (c_0 : Nat → AV) (b_1 o_1 : Nat) (m : Mem) (k : Bool → Mem → Prop) : Prop :=
  newK m ⟨4, c_0, 98, false⟩ fun b2 m1 => ldA m1 b2 1 fun v3 => klen v3 fun x4 => ∃ N17, L41_4 b_1 o_1 b2 0 v3 x4 N17 0 m1 (fun m14 => (Keeps m m14 ∧ k true m)) (fun x15 m16 => (Keeps m m16 ∧ k x15 m))

def G41 (args : List AV) (m : Mem) (k : KV) : Prop := match args with
  | [a0, a1] => kaggN 4 a0 fun c_0 => kptr a1 fun b_1 o_1 => F41 c_0 b_1 o_1 m (fun x_1000 m' => k (.flat (.bool x_1000)) m')
  | _ => False

def Lam41_4 (σ : Nat → AV) (m : Mem) (k : KX) : Prop := kptr (σ 1) fun b_1 o_1 => kptr (σ 2) fun b_2 o_2 => kI .i64 (σ 13) fun x_13 => kI .i64 (σ 14) fun x_14 => ∃ N, L41_4 b_1 o_1 b_2 o_2 (σ 12) x_13 N x_14 m (fun m' => k (.exit 0) (only [] []) m') (fun x_4' m' => k .ret (only [4] [(.flat (.bool x_4'))]) m')

def Lam41 : LEnv := ⟨fun a σ m k => match firstReg a with
  | some 4 => Lam41_4 σ m k
  | _ => bump False,
  fun id => match id with
  | _ => bump false,
  fun b => match keyC b with
  | _ => bump false,
  fun b σ m k => match keyC b with
  | _ => bump False⟩

def lx41_4 : Ex → List Nat := fun e => match e with
  | .exit 0 => []
  | .ret => [4]
  | _ => []

theorem round41_4 (b_1 o_1 : Nat) (b_2 o_2 : Nat) (v_12 : AV) (x_13 : Int) (x_14 : Int) (m : Mem) (G : List AV → Mem → Prop) (k : KX) : (wpA Try.prog E41 Lam41 ((loopsOf (bodyOf Try.f41)).getD 0 .skip) (only [1, 2, 12, 13, 14] [(.ptr b_1 o_1), (.ptr b_2 o_2), v_12, (.flat (.int .i64 x_13)), (.flat (.int .i64 x_14))]) m fun e σ' m' => match e with
    | .normal => G ([1, 2, 12, 13, 14].map σ') m'
    | .exit id => k (.exit id) (only (lx41_4 (.exit id)) ((lx41_4 (.exit id)).map σ')) m'
    | .ret => k .ret (only (lx41_4 .ret) ((lx41_4 .ret).map σ')) m') = R41_4 b_1 o_1 b_2 o_2 v_12 x_13 x_14 m (fun x_14' m' => G [(.ptr b_1 o_1), (.ptr b_2 o_2), v_12, (.flat (.int .i64 x_13)), (.flat (.int .i64 x_14'))] m') (fun m' => k (.exit 0) (only [] []) m') (fun x_4' m' => k .ret (only [4] [(.flat (.bool x_4'))]) m') := by
  kernel_rfl

theorem loop41_4 (b_1 o_1 : Nat) (b_2 o_2 : Nat) (v_12 : AV) (x_13 : Int) (k : KX) : ∀ (N : Nat) (x_14 : Int) (m : Mem), rounds Try.prog E41 Lam41 [1, 2, 12, 13, 14] lx41_4 ((loopsOf (bodyOf Try.f41)).getD 0 .skip) N [(.ptr b_1 o_1), (.ptr b_2 o_2), v_12, (.flat (.int .i64 x_13)), (.flat (.int .i64 x_14))] m k = L41_4 b_1 o_1 b_2 o_2 v_12 x_13 N x_14 m (fun m' => k (.exit 0) (only [] []) m') (fun x_4' m' => k .ret (only [4] [(.flat (.bool x_4'))]) m') := by
  intro N
  induction N with
  | zero => intros; rfl
  | succ N ih =>
    intro x_14 m
    refine (round41_4 b_1 o_1 b_2 o_2 v_12 x_13 x_14 m (fun vs m' => rounds Try.prog E41 Lam41 [1, 2, 12, 13, 14] lx41_4 ((loopsOf (bodyOf Try.f41)).getD 0 .skip) N vs m' k) k).trans ?_
    simp only [ih]
    rfl

theorem lok41_4 : LoopOK Try.prog E41 Lam41 ((loopsOf (bodyOf Try.f41)).getD 0 .skip) := by
  refine ⟨fun σ => ∃ b_1 o_1 b_2 o_2 v_12 x_13 x_14, σ 1 = .ptr b_1 o_1 ∧ σ 2 = .ptr b_2 o_2 ∧ σ 12 = v_12 ∧ σ 13 = .flat (.int .i64 x_13) ∧ σ 14 = .flat (.int .i64 x_14), [1, 2, 12, 13, 14], lx41_4, fun σ m k => ?_⟩
  have e : Lam41.loop ((loopsOf (bodyOf Try.f41)).getD 0 .skip) σ m k = Lam41_4 σ m k := by kernel_rfl
  rw [e]
  constructor
  · intro h
    unfold Lam41_4 at h
    obtain ⟨b_1, o_1, h0, h⟩ := kptr_ok h
    obtain ⟨b_2, o_2, h1, h⟩ := kptr_ok h
    obtain ⟨v_12, h2⟩ : ∃ v, σ 12 = v := ⟨_, rfl⟩
    obtain ⟨x_13, h3, h⟩ := kI_ok h
    obtain ⟨x_14, h4, h⟩ := kI_ok h
    obtain ⟨N, h⟩ := h
    refine ⟨⟨b_1, o_1, b_2, o_2, v_12, x_13, x_14, h0, h1, h2, h3, h4⟩, N, ?_⟩
    have ev : [1, 2, 12, 13, 14].map σ = [(.ptr b_1 o_1), (.ptr b_2 o_2), v_12, (.flat (.int .i64 x_13)), (.flat (.int .i64 x_14))] := by simp only [List.map_cons, List.map_nil, h0, h1, h2, h3, h4]
    rw [ev, loop41_4]
    simp only [h2] at h
    exact h
  · rintro ⟨⟨b_1, o_1, b_2, o_2, v_12, x_13, x_14, h0, h1, h2, h3, h4⟩, N, h⟩
    have ev : [1, 2, 12, 13, 14].map σ = [(.ptr b_1 o_1), (.ptr b_2 o_2), v_12, (.flat (.int .i64 x_13)), (.flat (.int .i64 x_14))] := by simp only [List.map_cons, List.map_nil, h0, h1, h2, h3, h4]
    rw [ev, loop41_4] at h
    unfold Lam41_4
    try simp only [h0, h1, h2, h3, h4, kI, kbool, kS, kptr, kaggN, kite, decide_true, eq_self]
    exact ⟨N, h⟩

theorem eqn41 (c_0 : Nat → AV) (b_1 o_1 : Nat) (m : Mem) (k : KV) : bodyK Try.prog E41 Lam41 Try.f41 true [(.agg 4 c_0), (.ptr b_1 o_1)] m k = F41 c_0 b_1 o_1 m (fun x_1000 m' => k (.flat (.bool x_1000)) m') := by
  kernel_rfl

theorem fs41 (w0 : World) : FS Try.prog w0 41 G41 := by
  refine (fs_body (Γ := E41) (sound_env (l := [(51, G51)]) w0 (by
    intro p hp
    simp only [List.mem_cons, List.not_mem_nil, or_false] at hp
    rcases hp with rfl
    · exact fs51 w0)) (by kernel_rfl) Try.func41 (Λ := Lam41) (c := (bodyOf Try.f41)) (by kernel_rfl) Try.call41 (by kernel_rfl) (LS_of (bodyOf Try.f41) 1 (by kernel_rfl) (by
    intro i hi
    match i, hi with
    | 0, _ => exact lok41_4
    | i + 1, hi => omega) 0 (by kernel_rfl) (fun i hi => absurd hi (Nat.not_lt_zero i))) true (np := 2) (Nat.le_of_ble_eq_true (by kernel_rfl))).imp fun args => ?_
  by_cases hl : args.length = 2
  rotate_left
  · exact .inr fun m k hk => by
      unfold G41 at hk
      split at hk
      · exact hl rfl
      · exact hk
  obtain ⟨a0, a1, rfl⟩ : ∃ a0 a1, args = [a0, a1] := len_list2 hl
  rcases kaggN_or 4 a0 with ⟨c_0, rfl⟩ | h
  rotate_left
  · exact .inr fun m k hk => h _ (by simpa only [G41, kI, kbool, kS, kptr, kaggN, kite, decide_true, eq_self] using hk)
  rcases kptr_or a1 with ⟨b_1, o_1, rfl⟩ | h
  rotate_left
  · exact .inr fun m k hk => h _ (by simpa only [G41, kI, kbool, kS, kptr, kaggN, kite, decide_true, eq_self] using hk)
  exact .inl fun m k => propext ⟨fun h => ⟨rfl, by rw [eqn41]; simpa only [G41, kI, kbool, kS, kptr, kaggN, kite, decide_true, eq_self] using h⟩, fun h => by have h := h.2; rw [eqn41] at h; simpa only [G41, kI, kbool, kS, kptr, kaggN, kite, decide_true, eq_self] using h⟩

def E27 : Env := envOf [(38, G38), (39, G39), (40, G40), (41, G41), (42, G42), (43, G43), (44, G44)]

def R27_11 (b_0 o_0 : Nat) (v_56 : AV) (x_57 : Int) (x_7 : Int) (x_58 : Int) (m : Mem) (kn : Int → Int → Mem → Prop) (k2 : Int → Mem → Prop) : Prop :=
  kif (decide (x_58 < x_57)) (ksl v_56 fun b57 o58 l59 p60 => kif (decide (0 ≤ x_58) && decide (x_58 < l59)) (ldG 3 m b57 (o58 + (x_58).toNat * 3) fun c61 => newK m ⟨3, lget [(.flat (.int .u32 0)), (.flat (.int .i64 0)), (.flat (.int .i64 0))], 94, false⟩ fun b63 m62 => stG 3 m62 b63 0 c61 fun m64 => ∃ Fr65 : Nat → Prop, Fr65 b_0 ∧ (ldA m64 b_0 (o_0 + 74) fun v66 => Fr65 b63 ∧ (ldG 3 m64 b63 0 fun c67 => kptr v66 fun b68 o69 => F40 b68 o69 c67 m64 fun c70 x71 m72 => KeepsIn Fr65 m64 m72 ∧ (newK m72 ⟨4, lget [(.flat (.int .u32 0)), (.flat (.slice none 0 0)), (.flat (.slice none 0 0)), (.flat (.slice none 0 0))], 98, false⟩ fun b74 m73 => stG 4 m73 b74 0 c70 fun m75 => KeepsIn Fr65 m73 m75 ∧ (∃ Fr76 : Nat → Prop, Fr76 b74 ∧ (ldG 4 m75 b74 0 fun c77 => Fr76 b_0 ∧ (ldA m75 b_0 (o_0 + 73) fun v78 => kptr v78 fun b79 o80 => F42 b79 o80 m75 fun v81 m82 => KeepsIn Fr76 m75 m82 ∧ (kptr v81 fun b83 o84 => F41 c77 b83 o84 m82 fun x85 m86 => KeepsIn Fr76 m82 m86 ∧ (kif (!x85) (kn (IntKind.wrap .i64 (x_7 + 1)) (IntKind.wrap .i64 (x_58 + 1)) m86) (kn x_7 (IntKind.wrap .i64 (x_58 + 1)) m86)))))))))) False) (k2 x_7 m)

def L27_11 (b_0 o_0 : Nat) (v_56 : AV) (x_57 : Int) : Nat → Int → Int → Mem → (Int → Mem → Prop) → Prop
  | 0, _, _,  _, _ => bump False
  | N + 1, x_7, x_58,  m, k2 => R27_11 b_0 o_0 v_56 x_57 x_7 x_58 m (fun x_7' x_58' m' => L27_11 b_0 o_0 v_56 x_57 N x_7' x_58' m' k2) k2

def P27_7004 (b_0 o_0 : Nat) (b_5 o_5 : Nat) (v_18 : AV) (x_19 : Int) (x_20 : Int) (x_43 : Bool) (m : Mem) (kn : Mem → Prop) : Prop :=
  kif x_43 (∃ Fr38 : Nat → Prop, Fr38 b_0 ∧ (ldA m b_0 (o_0 + 74) fun v39 => Fr38 b_5 ∧ (ldG 4 m b_5 o_5 fun c40 => F44 c40 m fun x41 m42 => KeepsIn Fr38 m m42 ∧ (kptr v39 fun b43 o44 => F43 b43 o44 x41 m42 fun x45 m46 => KeepsIn Fr38 m42 m46 ∧ (kn  m46))))) (kn  m)

def R27_3 (b_0 o_0 : Nat) (v_18 : AV) (x_19 : Int) (x_20 : Int) (m : Mem) (kn : Int → Mem → Prop) (k0 : Mem → Prop) : Prop :=
  kif (decide (x_20 < x_19)) (ksl v_18 fun b8 o9 l10 p11 => kif (decide (0 ≤ x_20) && decide (x_20 < l10)) (ldG 3 m b8 (o9 + (x_20).toNat * 3) fun c12 => newK m ⟨3, lget [(.flat (.int .u32 0)), (.flat (.int .i64 0)), (.flat (.int .i64 0))], 94, false⟩ fun b14 m13 => stG 3 m13 b14 0 c12 fun m15 => ∃ Fr16 : Nat → Prop, Fr16 b_0 ∧ (ldA m15 b_0 (o_0 + 74) fun v17 => Fr16 b14 ∧ (ldG 3 m15 b14 0 fun c18 => kptr v17 fun b19 o20 => F40 b19 o20 c18 m15 fun c21 x22 m23 => KeepsIn Fr16 m15 m23 ∧ (newK m23 ⟨4, lget [(.flat (.int .u32 0)), (.flat (.slice none 0 0)), (.flat (.slice none 0 0)), (.flat (.slice none 0 0))], 98, false⟩ fun b25 m24 => stG 4 m24 b25 0 c21 fun m26 => KeepsIn Fr16 m24 m26 ∧ (∃ Fr27 : Nat → Prop, kif x22 (Fr27 b25 ∧ (ldG 4 m26 b25 0 fun c28 => Fr27 b_0 ∧ (ldA m26 b_0 (o_0 + 73) fun v29 => kptr v29 fun b30 o31 => F42 b30 o31 m26 fun v32 m33 => KeepsIn Fr27 m26 m33 ∧ (kptr v32 fun b34 o35 => F41 c28 b34 o35 m33 fun x36 m37 => KeepsIn Fr27 m33 m37 ∧ (P27_7004 b_0 o_0 b25 0 v_18 x_19 x_20 (!x36) m37 (fun m47 => kn (IntKind.wrap .i64 (x_20 + 1)) m47)))))) (P27_7004 b_0 o_0 b25 0 v_18 x_19 x_20 false m26 (fun m48 => kn (IntKind.wrap .i64 (x_20 + 1)) m48))))))) False) (k0  m)

def L27_3 (b_0 o_0 : Nat) (v_18 : AV) (x_19 : Int) : Nat → Int → Mem → (Mem → Prop) → Prop
  | 0, _,  _, _ => bump False
  | N + 1, x_20,  m, k0 => R27_3 b_0 o_0 v_18 x_19 x_20 m (fun x_20' m' => L27_3 b_0 o_0 v_18 x_19 N x_20' m' k0) k0

/-- (*pianola/engine.Machine).Stale -/
def F27 (b_0 o_0 : Nat) (m : Mem) (k : Int → Mem → Prop) : Prop :=
  F38 b_0 o_0 m fun m1 => ldA m1 b_0 (o_0 + 74) fun v2 => kptr v2 fun b3 o4 => F39 b3 o4 m1 fun v5 m6 => klen v5 fun x7 => ∃ N50, L27_3 b_0 o_0 v5 x7 N50 0 m6 (fun m49 => ldA m49 b_0 (o_0 + 74) fun v51 => kptr v51 fun b52 o53 => F39 b52 o53 m49 fun v54 m55 => klen v54 fun x56 => ∃ N89, L27_11 b_0 o_0 v54 x56 N89 0 0 m55 (fun x87 m88 => k x87 m88))

def G27 (args : List AV) (m : Mem) (k : KV) : Prop := match args with
  | [a0] => kptr a0 fun b_0 o_0 => F27 b_0 o_0 m (fun x_1000 m' => k (.flat (.int .i64 x_1000)) m')
  | _ => False

def Lam27_3 (σ : Nat → AV) (m : Mem) (k : KX) : Prop := kptr (σ 0) fun b_0 o_0 => kI .i64 (σ 19) fun x_19 => kI .i64 (σ 20) fun x_20 => ∃ N, L27_3 b_0 o_0 (σ 18) x_19 N x_20 m (fun m' => k (.exit 0) (only [0] [(.ptr b_0 o_0)]) m')

def LamP27_7004 (σ : Nat → AV) (m : Mem) (k : KX) : Prop := kptr (σ 0) fun b_0 o_0 => kptr (σ 5) fun b_5 o_5 => kI .i64 (σ 19) fun x_19 => kI .i64 (σ 20) fun x_20 => kbool (σ 43) fun x_43 => P27_7004 b_0 o_0 b_5 o_5 (σ 18) x_19 x_20 x_43 m (fun m' => k .normal (only [0, 18, 19, 20] [(.ptr b_0 o_0), (σ 18), (.flat (.int .i64 x_19)), (.flat (.int .i64 x_20))]) m')

def Lam27_11 (σ : Nat → AV) (m : Mem) (k : KX) : Prop := kptr (σ 0) fun b_0 o_0 => kI .i64 (σ 7) fun x_7 => kI .i64 (σ 57) fun x_57 => kI .i64 (σ 58) fun x_58 => ∃ N, L27_11 b_0 o_0 (σ 56) x_57 N x_7 x_58 m (fun x_7' m' => k (.exit 2) (only [7] [(.flat (.int .i64 x_7'))]) m')

def Lam27 : LEnv := ⟨fun a σ m k => match firstReg a with
  | some 3 => Lam27_3 σ m k
  | some 11 => Lam27_11 σ m k
  | _ => bump False,
  fun id => match id with
  | 5 => true
  | 6 => true
  | 7 => true
  | 13 => true
  | 14 => true
  | _ => bump false,
  fun b => match keyC b with
  | some 7004 => true
  | _ => bump false,
  fun b σ m k => match keyC b with
  | some 7004 => LamP27_7004 σ m k
  | _ => bump False⟩

def lx27_11 : Ex → List Nat := fun e => match e with
  | .exit 2 => [7]
  | _ => []

theorem round27_11 (b_0 o_0 : Nat) (v_56 : AV) (x_57 : Int) (x_7 : Int) (x_58 : Int) (m : Mem) (G : List AV → Mem → Prop) (k : KX) : (wpA Try.prog E27 Lam27 ((loopsOf (bodyOf Try.f27)).getD 1 .skip) (only [0, 7, 56, 57, 58] [(.ptr b_0 o_0), (.flat (.int .i64 x_7)), v_56, (.flat (.int .i64 x_57)), (.flat (.int .i64 x_58))]) m fun e σ' m' => match e with
    | .normal => G ([0, 7, 56, 57, 58].map σ') m'
    | .exit id => k (.exit id) (only (lx27_11 (.exit id)) ((lx27_11 (.exit id)).map σ')) m'
    | .ret => k .ret (only (lx27_11 .ret) ((lx27_11 .ret).map σ')) m') = R27_11 b_0 o_0 v_56 x_57 x_7 x_58 m (fun x_7' x_58' m' => G [(.ptr b_0 o_0), (.flat (.int .i64 x_7')), v_56, (.flat (.int .i64 x_57)), (.flat (.int .i64 x_58'))] m') (fun x_7' m' => k (.exit 2) (only [7] [(.flat (.int .i64 x_7'))]) m') := by
  kernel_rfl

theorem loop27_11 (b_0 o_0 : Nat) (v_56 : AV) (x_57 : Int) (k : KX) : ∀ (N : Nat) (x_7 : Int) (x_58 : Int) (m : Mem), rounds Try.prog E27 Lam27 [0, 7, 56, 57, 58] lx27_11 ((loopsOf (bodyOf Try.f27)).getD 1 .skip) N [(.ptr b_0 o_0), (.flat (.int .i64 x_7)), v_56, (.flat (.int .i64 x_57)), (.flat (.int .i64 x_58))] m k = L27_11 b_0 o_0 v_56 x_57 N x_7 x_58 m (fun x_7' m' => k (.exit 2) (only [7] [(.flat (.int .i64 x_7'))]) m') := by
  intro N
  induction N with
  | zero => intros; rfl
  | succ N ih =>
    intro x_7 x_58 m
    refine (round27_11 b_0 o_0 v_56 x_57 x_7 x_58 m (fun vs m' => rounds Try.prog E27 Lam27 [0, 7, 56, 57, 58] lx27_11 ((loopsOf (bodyOf Try.f27)).getD 1 .skip) N vs m' k) k).trans ?_
    simp only [ih]
    rfl

theorem lok27_11 : LoopOK Try.prog E27 Lam27 ((loopsOf (bodyOf Try.f27)).getD 1 .skip) := by
  refine ⟨fun σ => ∃ b_0 o_0 x_7 v_56 x_57 x_58, σ 0 = .ptr b_0 o_0 ∧ σ 7 = .flat (.int .i64 x_7) ∧ σ 56 = v_56 ∧ σ 57 = .flat (.int .i64 x_57) ∧ σ 58 = .flat (.int .i64 x_58), [0, 7, 56, 57, 58], lx27_11, fun σ m k => ?_⟩
  have e : Lam27.loop ((loopsOf (bodyOf Try.f27)).getD 1 .skip) σ m k = Lam27_11 σ m k := by kernel_rfl
  rw [e]
  constructor
  · intro h
    unfold Lam27_11 at h
    obtain ⟨b_0, o_0, h0, h⟩ := kptr_ok h
    obtain ⟨x_7, h1, h⟩ := kI_ok h
    obtain ⟨v_56, h2⟩ : ∃ v, σ 56 = v := ⟨_, rfl⟩
    obtain ⟨x_57, h3, h⟩ := kI_ok h
    obtain ⟨x_58, h4, h⟩ := kI_ok h
    obtain ⟨N, h⟩ := h
    refine ⟨⟨b_0, o_0, x_7, v_56, x_57, x_58, h0, h1, h2, h3, h4⟩, N, ?_⟩
    have ev : [0, 7, 56, 57, 58].map σ = [(.ptr b_0 o_0), (.flat (.int .i64 x_7)), v_56, (.flat (.int .i64 x_57)), (.flat (.int .i64 x_58))] := by simp only [List.map_cons, List.map_nil, h0, h1, h2, h3, h4]
    rw [ev, loop27_11]
    simp only [h2] at h
    exact h
  · rintro ⟨⟨b_0, o_0, x_7, v_56, x_57, x_58, h0, h1, h2, h3, h4⟩, N, h⟩
    have ev : [0, 7, 56, 57, 58].map σ = [(.ptr b_0 o_0), (.flat (.int .i64 x_7)), v_56, (.flat (.int .i64 x_57)), (.flat (.int .i64 x_58))] := by simp only [List.map_cons, List.map_nil, h0, h1, h2, h3, h4]
    rw [ev, loop27_11] at h
    unfold Lam27_11
    try simp only [h0, h1, h2, h3, h4, kI, kbool, kS, kptr, kaggN, kite, decide_true, eq_self]
    exact ⟨N, h⟩

def lxp27_7004 : Ex → List Nat := fun e => match e with
  | .normal => [0, 18, 19, 20]
  | _ => []

theorem pc27_7004 (b_0 o_0 : Nat) (b_5 o_5 : Nat) (v_18 : AV) (x_19 : Int) (x_20 : Int) (x_43 : Bool) (m : Mem) (k : KX) : once Try.prog E27 Lam27 [0, 5, 18, 19, 20, 43] lxp27_7004 (((secsOf (bodyOf Try.f27)).filter Lam27.cut).getD 0 .skip) [(.ptr b_0 o_0), (.ptr b_5 o_5), v_18, (.flat (.int .i64 x_19)), (.flat (.int .i64 x_20)), (.flat (.bool x_43))] m k = P27_7004 b_0 o_0 b_5 o_5 v_18 x_19 x_20 x_43 m (fun m' => k .normal (only [0, 18, 19, 20] [(.ptr b_0 o_0), v_18, (.flat (.int .i64 x_19)), (.flat (.int .i64 x_20))]) m') := by
  kernel_rfl

theorem pok27_7004 : PieceOK Try.prog E27 Lam27 (((secsOf (bodyOf Try.f27)).filter Lam27.cut).getD 0 .skip) := by
  refine ⟨fun σ => ∃ b_0 o_0 b_5 o_5 v_18 x_19 x_20 x_43, σ 0 = .ptr b_0 o_0 ∧ σ 5 = .ptr b_5 o_5 ∧ σ 18 = v_18 ∧ σ 19 = .flat (.int .i64 x_19) ∧ σ 20 = .flat (.int .i64 x_20) ∧ σ 43 = .flat (.bool x_43), [0, 5, 18, 19, 20, 43], lxp27_7004, fun σ m k => ?_⟩
  have e : Lam27.piece (((secsOf (bodyOf Try.f27)).filter Lam27.cut).getD 0 .skip) σ m k = LamP27_7004 σ m k := by kernel_rfl
  rw [e]
  constructor
  · intro h
    unfold LamP27_7004 at h
    obtain ⟨b_0, o_0, h0, h⟩ := kptr_ok h
    obtain ⟨b_5, o_5, h1, h⟩ := kptr_ok h
    obtain ⟨v_18, h2⟩ : ∃ v, σ 18 = v := ⟨_, rfl⟩
    obtain ⟨x_19, h3, h⟩ := kI_ok h
    obtain ⟨x_20, h4, h⟩ := kI_ok h
    obtain ⟨x_43, h5, h⟩ := kbool_ok h
    refine ⟨⟨b_0, o_0, b_5, o_5, v_18, x_19, x_20, x_43, h0, h1, h2, h3, h4, h5⟩, ?_⟩
    have ev : [0, 5, 18, 19, 20, 43].map σ = [(.ptr b_0 o_0), (.ptr b_5 o_5), v_18, (.flat (.int .i64 x_19)), (.flat (.int .i64 x_20)), (.flat (.bool x_43))] := by simp only [List.map_cons, List.map_nil, h0, h1, h2, h3, h4, h5]
    rw [ev, pc27_7004]
    simp only [h2] at h
    exact h
  · rintro ⟨⟨b_0, o_0, b_5, o_5, v_18, x_19, x_20, x_43, h0, h1, h2, h3, h4, h5⟩, h⟩
    have ev : [0, 5, 18, 19, 20, 43].map σ = [(.ptr b_0 o_0), (.ptr b_5 o_5), v_18, (.flat (.int .i64 x_19)), (.flat (.int .i64 x_20)), (.flat (.bool x_43))] := by simp only [List.map_cons, List.map_nil, h0, h1, h2, h3, h4, h5]
    rw [ev, pc27_7004] at h
    unfold LamP27_7004
    try simp only [h0, h1, h2, h3, h4, h5, kI, kbool, kS, kptr, kaggN, kite, decide_true, eq_self]
    exact h

def lx27_3 : Ex → List Nat := fun e => match e with
  | .exit 0 => [0]
  | _ => []

theorem round27_3 (b_0 o_0 : Nat) (v_18 : AV) (x_19 : Int) (x_20 : Int) (m : Mem) (G : List AV → Mem → Prop) (k : KX) : (wpA Try.prog E27 Lam27 ((loopsOf (bodyOf Try.f27)).getD 0 .skip) (only [0, 18, 19, 20] [(.ptr b_0 o_0), v_18, (.flat (.int .i64 x_19)), (.flat (.int .i64 x_20))]) m fun e σ' m' => match e with
    | .normal => G ([0, 18, 19, 20].map σ') m'
    | .exit id => k (.exit id) (only (lx27_3 (.exit id)) ((lx27_3 (.exit id)).map σ')) m'
    | .ret => k .ret (only (lx27_3 .ret) ((lx27_3 .ret).map σ')) m') = R27_3 b_0 o_0 v_18 x_19 x_20 m (fun x_20' m' => G [(.ptr b_0 o_0), v_18, (.flat (.int .i64 x_19)), (.flat (.int .i64 x_20'))] m') (fun m' => k (.exit 0) (only [0] [(.ptr b_0 o_0)]) m') := by
  kernel_rfl

theorem loop27_3 (b_0 o_0 : Nat) (v_18 : AV) (x_19 : Int) (k : KX) : ∀ (N : Nat) (x_20 : Int) (m : Mem), rounds Try.prog E27 Lam27 [0, 18, 19, 20] lx27_3 ((loopsOf (bodyOf Try.f27)).getD 0 .skip) N [(.ptr b_0 o_0), v_18, (.flat (.int .i64 x_19)), (.flat (.int .i64 x_20))] m k = L27_3 b_0 o_0 v_18 x_19 N x_20 m (fun m' => k (.exit 0) (only [0] [(.ptr b_0 o_0)]) m') := by
  intro N
  induction N with
  | zero => intros; rfl
  | succ N ih =>
    intro x_20 m
    refine (round27_3 b_0 o_0 v_18 x_19 x_20 m (fun vs m' => rounds Try.prog E27 Lam27 [0, 18, 19, 20] lx27_3 ((loopsOf (bodyOf Try.f27)).getD 0 .skip) N vs m' k) k).trans ?_
    simp only [ih]
    rfl

theorem lok27_3 : LoopOK Try.prog E27 Lam27 ((loopsOf (bodyOf Try.f27)).getD 0 .skip) := by
  refine ⟨fun σ => ∃ b_0 o_0 v_18 x_19 x_20, σ 0 = .ptr b_0 o_0 ∧ σ 18 = v_18 ∧ σ 19 = .flat (.int .i64 x_19) ∧ σ 20 = .flat (.int .i64 x_20), [0, 18, 19, 20], lx27_3, fun σ m k => ?_⟩
  have e : Lam27.loop ((loopsOf (bodyOf Try.f27)).getD 0 .skip) σ m k = Lam27_3 σ m k := by kernel_rfl
  rw [e]
  constructor
  · intro h
    unfold Lam27_3 at h
    obtain ⟨b_0, o_0, h0, h⟩ := kptr_ok h
    obtain ⟨v_18, h1⟩ : ∃ v, σ 18 = v := ⟨_, rfl⟩
    obtain ⟨x_19, h2, h⟩ := kI_ok h
    obtain ⟨x_20, h3, h⟩ := kI_ok h
    obtain ⟨N, h⟩ := h
    refine ⟨⟨b_0, o_0, v_18, x_19, x_20, h0, h1, h2, h3⟩, N, ?_⟩
    have ev : [0, 18, 19, 20].map σ = [(.ptr b_0 o_0), v_18, (.flat (.int .i64 x_19)), (.flat (.int .i64 x_20))] := by simp only [List.map_cons, List.map_nil, h0, h1, h2, h3]
    rw [ev, loop27_3]
    simp only [h1] at h
    exact h
  · rintro ⟨⟨b_0, o_0, v_18, x_19, x_20, h0, h1, h2, h3⟩, N, h⟩
    have ev : [0, 18, 19, 20].map σ = [(.ptr b_0 o_0), v_18, (.flat (.int .i64 x_19)), (.flat (.int .i64 x_20))] := by simp only [List.map_cons, List.map_nil, h0, h1, h2, h3]
    rw [ev, loop27_3] at h
    unfold Lam27_3
    try simp only [h0, h1, h2, h3, kI, kbool, kS, kptr, kaggN, kite, decide_true, eq_self]
    exact ⟨N, h⟩

theorem eqn27 (b_0 o_0 : Nat) (m : Mem) (k : KV) : bodyK Try.prog E27 Lam27 Try.f27 false [(.ptr b_0 o_0)] m k = F27 b_0 o_0 m (fun x_1000 m' => k (.flat (.int .i64 x_1000)) m') := by
  kernel_rfl

theorem fs27 (w0 : World) : FS Try.prog w0 27 G27 := by
  refine (fs_body (Γ := E27) (sound_env (l := [(38, G38), (39, G39), (40, G40), (41, G41), (42, G42), (43, G43), (44, G44)]) w0 (by
    intro p hp
    simp only [List.mem_cons, List.not_mem_nil, or_false] at hp
    rcases hp with rfl | rfl | rfl | rfl | rfl | rfl | rfl
    · exact fs38 w0
    · exact fs39 w0
    · exact fs40 w0
    · exact fs41 w0
    · exact fs42 w0
    · exact fs43 w0
    · exact fs44 w0)) (by kernel_rfl) Try.func27 (Λ := Lam27) (c := (bodyOf Try.f27)) (by kernel_rfl) Try.call27 (by kernel_rfl) (LS_of (bodyOf Try.f27) 2 (by kernel_rfl) (by
    intro i hi
    match i, hi with
    | 0, _ => exact lok27_3
    | 1, _ => exact lok27_11
    | i + 2, hi => omega) 1 (by kernel_rfl) (by
    intro i hi
    match i, hi with
    | 0, _ => exact pok27_7004
    | i + 1, hi => omega)) false (np := 1) (Nat.le_of_ble_eq_true (by kernel_rfl))).imp fun args => ?_
  by_cases hl : args.length = 1
  rotate_left
  · exact .inr fun m k hk => by
      unfold G27 at hk
      split at hk
      · exact hl rfl
      · exact hk
  obtain ⟨a0, rfl⟩ : ∃ a0, args = [a0] := len_list1 hl
  rcases kptr_or a0 with ⟨b_0, o_0, rfl⟩ | h
  rotate_left
  · exact .inr fun m k hk => h _ (by simpa only [G27, kI, kbool, kS, kptr, kaggN, kite, decide_true, eq_self] using hk)
  exact .inl fun m k => propext ⟨fun h => ⟨rfl, by rw [eqn27]; simpa only [G27, kI, kbool, kS, kptr, kaggN, kite, decide_true, eq_self] using h⟩, fun h => by have h := h.2; rw [eqn27] at h; simpa only [G27, kI, kbool, kS, kptr, kaggN, kite, decide_true, eq_self] using h⟩

def E28 : Env := envOf [(38, G38), (39, G39)]

/-- (*pianola/engine.Machine).Kept -/
def F28 (b_0 o_0 : Nat) (m : Mem) (k : AV → Mem → Prop) : Prop :=
  F38 b_0 o_0 m fun m1 => ldA m1 b_0 (o_0 + 74) fun v2 => kptr v2 fun b3 o4 => F39 b3 o4 m1 fun v5 m6 => k v5 m6

def G28 (args : List AV) (m : Mem) (k : KV) : Prop := match args with
  | [a0] => kptr a0 fun b_0 o_0 => F28 b_0 o_0 m (fun v_1000 m' => k v_1000 m')
  | _ => False

def Lam28 : LEnv := ⟨fun a σ m k => match firstReg a with
  | _ => bump False,
  fun id => match id with
  | _ => bump false,
  fun b => match keyC b with
  | _ => bump false,
  fun b σ m k => match keyC b with
  | _ => bump False⟩

theorem eqn28 (b_0 o_0 : Nat) (m : Mem) (k : KV) : bodyK Try.prog E28 Lam28 Try.f28 false [(.ptr b_0 o_0)] m k = F28 b_0 o_0 m (fun v_1000 m' => k v_1000 m') := by
  kernel_rfl

theorem fs28 (w0 : World) : FS Try.prog w0 28 G28 := by
  refine (fs_body (Γ := E28) (sound_env (l := [(38, G38), (39, G39)]) w0 (by
    intro p hp
    simp only [List.mem_cons, List.not_mem_nil, or_false] at hp
    rcases hp with rfl | rfl
    · exact fs38 w0
    · exact fs39 w0)) (by kernel_rfl) Try.func28 (Λ := Lam28) (c := (bodyOf Try.f28)) (by kernel_rfl) Try.call28 (by kernel_rfl) (LS_of (bodyOf Try.f28) 0 (by kernel_rfl) (fun i hi => absurd hi (Nat.not_lt_zero i)) 0 (by kernel_rfl) (fun i hi => absurd hi (Nat.not_lt_zero i))) false (np := 1) (Nat.le_of_ble_eq_true (by kernel_rfl))).imp fun args => ?_
  by_cases hl : args.length = 1
  rotate_left
  · exact .inr fun m k hk => by
      unfold G28 at hk
      split at hk
      · exact hl rfl
      · exact hk
  obtain ⟨a0, rfl⟩ : ∃ a0, args = [a0] := len_list1 hl
  rcases kptr_or a0 with ⟨b_0, o_0, rfl⟩ | h
  rotate_left
  · exact .inr fun m k hk => h _ (by simpa only [G28, kI, kbool, kS, kptr, kaggN, kite, decide_true, eq_self] using hk)
  exact .inl fun m k => propext ⟨fun h => ⟨rfl, by rw [eqn28]; simpa only [G28, kI, kbool, kS, kptr, kaggN, kite, decide_true, eq_self] using h⟩, fun h => by have h := h.2; rw [eqn28] at h; simpa only [G28, kI, kbool, kS, kptr, kaggN, kite, decide_true, eq_self] using h⟩

def E21 : Env := envOf [(7, G7), (8, G8), (27, G27), (28, G28)]

/-- pianola/audit.Engine -/
def F21 (v_0 : AV) (m : Mem) (k : Bool → Mem → Prop) : Prop :=
  knilP v_0 fun x1 => kif (!x1) (kptr v_0 fun b2 o3 => F7 b2 o3 m fun c4 m5 => F8 c4 m5 fun x6 m7 => kif x6 (kptr v_0 fun b8 o9 => F27 b8 o9 m7 fun x10 m11 => kif (x10 == 0) (kptr v_0 fun b12 o13 => F28 b12 o13 m11 fun v14 m15 => klen v14 fun x16 => k (decide (x16 ≤ 256)) m15) (k false m11)) (k false m7)) (k false m)

def G21 (args : List AV) (m : Mem) (k : KV) : Prop := match args with
  | [a0] => F21 a0 m (fun x_1000 m' => k (.flat (.bool x_1000)) m')
  | _ => False

def Lam21 : LEnv := ⟨fun a σ m k => match firstReg a with
  | _ => bump False,
  fun id => match id with
  | _ => bump false,
  fun b => match keyC b with
  | _ => bump false,
  fun b σ m k => match keyC b with
  | _ => bump False⟩

theorem eqn21 (v_0 : AV) (m : Mem) (k : KV) : bodyK Try.prog E21 Lam21 Try.f21 false [v_0] m k = F21 v_0 m (fun x_1000 m' => k (.flat (.bool x_1000)) m') := by
  kernel_rfl

theorem fs21 (w0 : World) : FS Try.prog w0 21 G21 := by
  refine (fs_body (Γ := E21) (sound_env (l := [(7, G7), (8, G8), (27, G27), (28, G28)]) w0 (by
    intro p hp
    simp only [List.mem_cons, List.not_mem_nil, or_false] at hp
    rcases hp with rfl | rfl | rfl | rfl
    · exact fs7 w0
    · exact fs8 w0
    · exact fs27 w0
    · exact fs28 w0)) (by kernel_rfl) Try.func21 (Λ := Lam21) (c := (bodyOf Try.f21)) (by kernel_rfl) Try.call21 (by kernel_rfl) (LS_of (bodyOf Try.f21) 0 (by kernel_rfl) (fun i hi => absurd hi (Nat.not_lt_zero i)) 0 (by kernel_rfl) (fun i hi => absurd hi (Nat.not_lt_zero i))) false (np := 1) (Nat.le_of_ble_eq_true (by kernel_rfl))).imp fun args => ?_
  by_cases hl : args.length = 1
  rotate_left
  · exact .inr fun m k hk => by
      unfold G21 at hk
      split at hk
      · exact hl rfl
      · exact hk
  obtain ⟨a0, rfl⟩ : ∃ a0, args = [a0] := len_list1 hl

  exact .inl fun m k => propext ⟨fun h => ⟨rfl, by rw [eqn21]; simpa only [G21, kI, kbool, kS, kptr, kaggN, kite, decide_true, eq_self] using h⟩, fun h => by have h := h.2; rw [eqn21] at h; simpa only [G21, kI, kbool, kS, kptr, kaggN, kite, decide_true, eq_self] using h⟩

def E13 : Env := envOf [(6, G6), (7, G7), (8, G8), (9, G9), (10, G10), (11, G11), (21, G21)]

/-- pianola/pianolalaw27.known -/
def F13  (m : Mem) (k : Bool → Mem → Prop) : Prop :=
  F6 2 (.flat (.slice none 0 0)) (.flat (.slice none 0 0)) 3 m fun v1 x2 m3 => knilP v1 fun x4 => kif x4 ((Keeps m m3 ∧ k false m)) (kif (x2 != 0) ((Keeps m m3 ∧ k false m)) (kptr v1 fun b5 o6 => F7 b5 o6 m3 fun c7 m8 => newK m8 ⟨73, Z73, 33, false⟩ fun b10 m9 => stG 73 m9 b10 0 c7 fun m11 => ldG 73 m11 b10 0 fun c12 => newK m11 ⟨73, Z73, 33, false⟩ fun b14 m13 => stG 73 m13 b14 0 c12 fun m15 => stC m15 b14 0 (.flat (.int .u32 5)) fun m16 => stC m16 b14 7 (.flat (.int .u32 1)) fun m17 => ldG 73 m17 b10 0 fun c18 => F8 c18 m17 fun x19 m20 => kif x19 (ldG 73 m20 b14 0 fun c21 => F8 c21 m20 fun x22 m23 => kif (!x22) (F21 v1 m23 fun x24 m25 => kif x24 (F21 (.flat (.pointer none)) m25 fun x26 m27 => kif (!x26) (ldG 73 m27 b10 0 fun c28 => ldG 73 m27 b10 0 fun c29 => F9 c28 c29 m27 fun x30 m31 => kif x30 (ldG 73 m31 b10 0 fun c32 => ldG 73 m31 b14 0 fun c33 => F11 c32 c33 m31 fun v34 m35 => newK m35 ⟨2, upd (upd (lget [(.flat (.int .i64 0)), (.flat (.int .i64 0))]) 0 (.flat (.int .i64 0))) 1 (.flat (.int .i64 7)), 3, false⟩ fun b37 m36 => F10 v34 (.sl b37 0 2 (.ex 2)) m36 fun x38 m39 => (Keeps m m39 ∧ k x38 m)) ((Keeps m m31 ∧ k false m))) ((Keeps m m27 ∧ k false m))) ((Keeps m m25 ∧ k false m))) ((Keeps m m23 ∧ k false m))) ((Keeps m m20 ∧ k false m))))

def G13 (args : List AV) (m : Mem) (k : KV) : Prop := match args with
  | [] => F13  m (fun x_1000 m' => k (.flat (.bool x_1000)) m')
  | _ => False

def Lam13 : LEnv := ⟨fun a σ m k => match firstReg a with
  | _ => bump False,
  fun id => match id with
  | _ => bump false,
  fun b => match keyC b with
  | _ => bump false,
  fun b σ m k => match keyC b with
  | _ => bump False⟩

theorem eqn13  (m : Mem) (k : KV) : bodyK Try.prog E13 Lam13 Try.f13 true [] m k = F13  m (fun x_1000 m' => k (.flat (.bool x_1000)) m') := by
  kernel_rfl

theorem fs13 (w0 : World) : FS Try.prog w0 13 G13 := by
  refine (fs_body (Γ := E13) (sound_env (l := [(6, G6), (7, G7), (8, G8), (9, G9), (10, G10), (11, G11), (21, G21)]) w0 (by
    intro p hp
    simp only [List.mem_cons, List.not_mem_nil, or_false] at hp
    rcases hp with rfl | rfl | rfl | rfl | rfl | rfl | rfl
    · exact fs6 w0
    · exact fs7 w0
    · exact fs8 w0
    · exact fs9 w0
    · exact fs10 w0
    · exact fs11 w0
    · exact fs21 w0)) (by kernel_rfl) Try.func13 (Λ := Lam13) (c := (bodyOf Try.f13)) (by kernel_rfl) Try.call13 (by kernel_rfl) (LS_of (bodyOf Try.f13) 0 (by kernel_rfl) (fun i hi => absurd hi (Nat.not_lt_zero i)) 0 (by kernel_rfl) (fun i hi => absurd hi (Nat.not_lt_zero i))) true (np := 0) (Nat.le_of_ble_eq_true (by kernel_rfl))).imp fun args => ?_
  by_cases hl : args.length = 0
  rotate_left
  · exact .inr fun m k hk => by
      unfold G13 at hk
      split at hk
      · exact hl rfl
      · exact hk
  obtain rfl : args = [] := len_list0 hl

  exact .inl fun m k => propext ⟨fun h => ⟨rfl, by rw [eqn13]; simpa only [G13, kI, kbool, kS, kptr, kaggN, kite, decide_true, eq_self] using h⟩, fun h => by have h := h.2; rw [eqn13] at h; simpa only [G13, kI, kbool, kS, kptr, kaggN, kite, decide_true, eq_self] using h⟩

def E3 : Env := envOf [(6, G6), (7, G7), (8, G8), (9, G9), (10, G10), (11, G11), (12, G12), (13, G13)]

def P3_35102 (b_3 o_3 : Nat) (x_4 : Int) (b_5 o_5 : Nat) (x_6 : Bool) (m : Mem) (kr : Bool → Mem → Prop) (kn : Mem → Prop) : Prop :=
  ∃ Fr29 : Nat → Prop, Fr29 b_5 ∧ (ldG 73 m b_5 o_5 fun c30 => F8 c30 m fun x31 m32 => KeepsIn Fr29 m m32 ∧ (kif (x31 == x_6) (kr false m32) (Fr29 b_3 ∧ (ldG 73 m32 b_3 o_3 fun c33 => Fr29 b_5 ∧ (ldG 73 m32 b_5 o_5 fun c34 => F9 c33 c34 m32 fun x35 m36 => KeepsIn Fr29 m32 m36 ∧ (kif x35 (kr false m36) (Fr29 b_3 ∧ (ldG 73 m36 b_3 o_3 fun c37 => Fr29 b_5 ∧ (ldG 73 m36 b_5 o_5 fun c38 => F11 c37 c38 m36 fun v39 m40 => KeepsIn Fr29 m36 m40 ∧ (Fr29 b_3 ∧ (ldG 73 m40 b_3 o_3 fun c41 => Fr29 b_5 ∧ (ldG 73 m40 b_5 o_5 fun c42 => F12 c41 c42 m40 fun v43 m44 => KeepsIn Fr29 m40 m44 ∧ (F10 v39 v43 m44 fun x45 m46 => KeepsIn Fr29 m44 m46 ∧ (kif (!x45) (kr false m46) (kn  m46)))))))))))))))

def R3_6 (b_3 o_3 : Nat) (x_4 : Int) (m : Mem) (kn : Int → Mem → Prop) (k0 : Mem → Prop) (kr : Bool → Mem → Prop) : Prop :=
  kif (decide (x_4 < 14)) (ldG 73 m b_3 o_3 fun c12 => newK m ⟨73, Z73, 33, false⟩ fun b14 m13 => stG 73 m13 b14 0 c12 fun m15 => kif (x_4 == 0) (stC m15 b14 0 (.flat (.int .u32 1)) fun m16 => P3_35102 b_3 o_3 x_4 b14 0 true m16 (fun x47 m48 => kr x47 m48) (fun m49 => kn (IntKind.wrap .i64 (x_4 + 1)) m49)) (kif (x_4 == 1) (stC m15 b14 40 (.flat (.int .u32 1)) fun m17 => P3_35102 b_3 o_3 x_4 b14 0 true m17 (fun x50 m51 => kr x50 m51) (fun m52 => kn (IntKind.wrap .i64 (x_4 + 1)) m52)) (kif (x_4 == 2) (stC m15 b14 54 (.flat (.int .u32 1)) fun m18 => P3_35102 b_3 o_3 x_4 b14 0 true m18 (fun x53 m54 => kr x53 m54) (fun m55 => kn (IntKind.wrap .i64 (x_4 + 1)) m55)) (kif (x_4 == 3) (stC m15 b14 51 (.flat (.int .u32 4)) fun m19 => P3_35102 b_3 o_3 x_4 b14 0 true m19 (fun x56 m57 => kr x56 m57) (fun m58 => kn (IntKind.wrap .i64 (x_4 + 1)) m58)) (kif (x_4 == 4) (stC m15 b14 44 (.flat (.int .u32 1)) fun m20 => P3_35102 b_3 o_3 x_4 b14 0 true m20 (fun x59 m60 => kr x59 m60) (fun m61 => kn (IntKind.wrap .i64 (x_4 + 1)) m61)) (kif (x_4 == 5) (stC m15 b14 72 (.flat (.int .i64 (-1))) fun m21 => P3_35102 b_3 o_3 x_4 b14 0 true m21 (fun x62 m63 => kr x62 m63) (fun m64 => kn (IntKind.wrap .i64 (x_4 + 1)) m64)) (kif (x_4 == 6) (stC m15 b14 39 (.flat (.int .u32 9)) fun m22 => P3_35102 b_3 o_3 x_4 b14 0 true m22 (fun x65 m66 => kr x65 m66) (fun m67 => kn (IntKind.wrap .i64 (x_4 + 1)) m67)) (kif (x_4 == 7) (stC m15 b14 52 (.flat (.int .u32 1)) fun m23 => P3_35102 b_3 o_3 x_4 b14 0 true m23 (fun x68 m69 => kr x68 m69) (fun m70 => kn (IntKind.wrap .i64 (x_4 + 1)) m70)) (kif (x_4 == 8) (stC m15 b14 49 (.flat (.int .u32 256)) fun m24 => P3_35102 b_3 o_3 x_4 b14 0 true m24 (fun x71 m72 => kr x71 m72) (fun m73 => kn (IntKind.wrap .i64 (x_4 + 1)) m73)) (kif (x_4 == 9) (stC m15 b14 41 (.flat (.int .u32 8)) fun m25 => P3_35102 b_3 o_3 x_4 b14 0 true m25 (fun x74 m75 => kr x74 m75) (fun m76 => kn (IntKind.wrap .i64 (x_4 + 1)) m76)) (kif (decide (0 ≤ x_4) && decide (x_4 < 32)) (stC m15 b14 (0 + (x_4).toNat * 1) (.flat (.int .u32 7)) fun m26 => stC m26 b14 39 (.flat (.int .u32 2147483648)) fun m27 => stC m27 b14 52 (.flat (.int .u32 2147518332)) fun m28 => P3_35102 b_3 o_3 x_4 b14 0 false m28 (fun x77 m78 => kr x77 m78) (fun m79 => kn (IntKind.wrap .i64 (x_4 + 1)) m79)) False))))))))))) (k0  m)

def L3_6 (b_3 o_3 : Nat) : Nat → Int → Mem → (Mem → Prop) → (Bool → Mem → Prop) → Prop
  | 0, _,  _, _, _ => bump False
  | N + 1, x_4,  m, k0, kr => R3_6 b_3 o_3 x_4 m (fun x_4' m' => L3_6 b_3 o_3 N x_4' m' k0 kr) k0 kr

/-- pianola/pianolalaw27.AuditNumbers -/
def F3  (m : Mem) (k : Bool → Mem → Prop) : Prop :=
  F6 2 (.flat (.slice none 0 0)) (.flat (.slice none 0 0)) 3 m fun v1 x2 m3 => knilP v1 fun x4 => kif x4 (k false m3) (kif (x2 != 0) (k false m3) (kptr v1 fun b5 o6 => F7 b5 o6 m3 fun c7 m8 => newK m8 ⟨73, Z73, 33, false⟩ fun b10 m9 => stG 73 m9 b10 0 c7 fun m11 => ∃ N83, L3_6 b10 0 N83 0 m11 (fun m80 => F13  m80 fun x84 m85 => k x84 m85) (fun x81 m82 => k x81 m82)))

def G3 (args : List AV) (m : Mem) (k : KV) : Prop := match args with
  | [] => F3  m (fun x_1000 m' => k (.flat (.bool x_1000)) m')
  | _ => False

def Lam3_6 (σ : Nat → AV) (m : Mem) (k : KX) : Prop := kptr (σ 3) fun b_3 o_3 => kI .i64 (σ 4) fun x_4 => ∃ N, L3_6 b_3 o_3 N x_4 m (fun m' => k (.exit 0) (only [] []) m') (fun x_0' m' => k .ret (only [0] [(.flat (.bool x_0'))]) m')

def LamP3_35102 (σ : Nat → AV) (m : Mem) (k : KX) : Prop := kptr (σ 3) fun b_3 o_3 => kI .i64 (σ 4) fun x_4 => kptr (σ 5) fun b_5 o_5 => kbool (σ 6) fun x_6 => P3_35102 b_3 o_3 x_4 b_5 o_5 x_6 m (fun x_0' m' => k .ret (only [0] [(.flat (.bool x_0'))]) m') (fun m' => k .normal (only [3, 4] [(.ptr b_3 o_3), (.flat (.int .i64 x_4))]) m')

def Lam3 : LEnv := ⟨fun a σ m k => match firstReg a with
  | some 6 => Lam3_6 σ m k
  | _ => bump False,
  fun id => match id with
  | 35 => true
  | _ => bump false,
  fun b => match keyC b with
  | some 35102 => true
  | _ => bump false,
  fun b σ m k => match keyC b with
  | some 35102 => LamP3_35102 σ m k
  | _ => bump False⟩

def lxp3_35102 : Ex → List Nat := fun e => match e with
  | .ret => [0]
  | .normal => [3, 4]
  | _ => []

theorem pc3_35102 (b_3 o_3 : Nat) (x_4 : Int) (b_5 o_5 : Nat) (x_6 : Bool) (m : Mem) (k : KX) : once Try.prog E3 Lam3 [3, 4, 5, 6] lxp3_35102 (((secsOf (bodyOf Try.f3)).filter Lam3.cut).getD 0 .skip) [(.ptr b_3 o_3), (.flat (.int .i64 x_4)), (.ptr b_5 o_5), (.flat (.bool x_6))] m k = P3_35102 b_3 o_3 x_4 b_5 o_5 x_6 m (fun x_0' m' => k .ret (only [0] [(.flat (.bool x_0'))]) m') (fun m' => k .normal (only [3, 4] [(.ptr b_3 o_3), (.flat (.int .i64 x_4))]) m') := by
  kernel_rfl

theorem pok3_35102 : PieceOK Try.prog E3 Lam3 (((secsOf (bodyOf Try.f3)).filter Lam3.cut).getD 0 .skip) := by
  refine ⟨fun σ => ∃ b_3 o_3 x_4 b_5 o_5 x_6, σ 3 = .ptr b_3 o_3 ∧ σ 4 = .flat (.int .i64 x_4) ∧ σ 5 = .ptr b_5 o_5 ∧ σ 6 = .flat (.bool x_6), [3, 4, 5, 6], lxp3_35102, fun σ m k => ?_⟩
  have e : Lam3.piece (((secsOf (bodyOf Try.f3)).filter Lam3.cut).getD 0 .skip) σ m k = LamP3_35102 σ m k := by kernel_rfl
  rw [e]
  constructor
  · intro h
    unfold LamP3_35102 at h
    obtain ⟨b_3, o_3, h0, h⟩ := kptr_ok h
    obtain ⟨x_4, h1, h⟩ := kI_ok h
    obtain ⟨b_5, o_5, h2, h⟩ := kptr_ok h
    obtain ⟨x_6, h3, h⟩ := kbool_ok h
    refine ⟨⟨b_3, o_3, x_4, b_5, o_5, x_6, h0, h1, h2, h3⟩, ?_⟩
    have ev : [3, 4, 5, 6].map σ = [(.ptr b_3 o_3), (.flat (.int .i64 x_4)), (.ptr b_5 o_5), (.flat (.bool x_6))] := by simp only [List.map_cons, List.map_nil, h0, h1, h2, h3]
    rw [ev, pc3_35102]
    exact h
  · rintro ⟨⟨b_3, o_3, x_4, b_5, o_5, x_6, h0, h1, h2, h3⟩, h⟩
    have ev : [3, 4, 5, 6].map σ = [(.ptr b_3 o_3), (.flat (.int .i64 x_4)), (.ptr b_5 o_5), (.flat (.bool x_6))] := by simp only [List.map_cons, List.map_nil, h0, h1, h2, h3]
    rw [ev, pc3_35102] at h
    unfold LamP3_35102
    try simp only [h0, h1, h2, h3, kI, kbool, kS, kptr, kaggN, kite, decide_true, eq_self]
    exact h

def lx3_6 : Ex → List Nat := fun e => match e with
  | .exit 0 => []
  | .ret => [0]
  | _ => []

theorem round3_6 (b_3 o_3 : Nat) (x_4 : Int) (m : Mem) (G : List AV → Mem → Prop) (k : KX) : (wpA Try.prog E3 Lam3 ((loopsOf (bodyOf Try.f3)).getD 0 .skip) (only [3, 4] [(.ptr b_3 o_3), (.flat (.int .i64 x_4))]) m fun e σ' m' => match e with
    | .normal => G ([3, 4].map σ') m'
    | .exit id => k (.exit id) (only (lx3_6 (.exit id)) ((lx3_6 (.exit id)).map σ')) m'
    | .ret => k .ret (only (lx3_6 .ret) ((lx3_6 .ret).map σ')) m') = R3_6 b_3 o_3 x_4 m (fun x_4' m' => G [(.ptr b_3 o_3), (.flat (.int .i64 x_4'))] m') (fun m' => k (.exit 0) (only [] []) m') (fun x_0' m' => k .ret (only [0] [(.flat (.bool x_0'))]) m') := by
  kernel_rfl

theorem loop3_6 (b_3 o_3 : Nat) (k : KX) : ∀ (N : Nat) (x_4 : Int) (m : Mem), rounds Try.prog E3 Lam3 [3, 4] lx3_6 ((loopsOf (bodyOf Try.f3)).getD 0 .skip) N [(.ptr b_3 o_3), (.flat (.int .i64 x_4))] m k = L3_6 b_3 o_3 N x_4 m (fun m' => k (.exit 0) (only [] []) m') (fun x_0' m' => k .ret (only [0] [(.flat (.bool x_0'))]) m') := by
  intro N
  induction N with
  | zero => intros; rfl
  | succ N ih =>
    intro x_4 m
    refine (round3_6 b_3 o_3 x_4 m (fun vs m' => rounds Try.prog E3 Lam3 [3, 4] lx3_6 ((loopsOf (bodyOf Try.f3)).getD 0 .skip) N vs m' k) k).trans ?_
    simp only [ih]
    rfl

theorem lok3_6 : LoopOK Try.prog E3 Lam3 ((loopsOf (bodyOf Try.f3)).getD 0 .skip) := by
  refine ⟨fun σ => ∃ b_3 o_3 x_4, σ 3 = .ptr b_3 o_3 ∧ σ 4 = .flat (.int .i64 x_4), [3, 4], lx3_6, fun σ m k => ?_⟩
  have e : Lam3.loop ((loopsOf (bodyOf Try.f3)).getD 0 .skip) σ m k = Lam3_6 σ m k := by kernel_rfl
  rw [e]
  constructor
  · intro h
    unfold Lam3_6 at h
    obtain ⟨b_3, o_3, h0, h⟩ := kptr_ok h
    obtain ⟨x_4, h1, h⟩ := kI_ok h
    obtain ⟨N, h⟩ := h
    refine ⟨⟨b_3, o_3, x_4, h0, h1⟩, N, ?_⟩
    have ev : [3, 4].map σ = [(.ptr b_3 o_3), (.flat (.int .i64 x_4))] := by simp only [List.map_cons, List.map_nil, h0, h1]
    rw [ev, loop3_6]
    exact h
  · rintro ⟨⟨b_3, o_3, x_4, h0, h1⟩, N, h⟩
    have ev : [3, 4].map σ = [(.ptr b_3 o_3), (.flat (.int .i64 x_4))] := by simp only [List.map_cons, List.map_nil, h0, h1]
    rw [ev, loop3_6] at h
    unfold Lam3_6
    try simp only [h0, h1, kI, kbool, kS, kptr, kaggN, kite, decide_true, eq_self]
    exact ⟨N, h⟩

theorem eqn3  (m : Mem) (k : KV) : bodyK Try.prog E3 Lam3 Try.f3 false [] m k = F3  m (fun x_1000 m' => k (.flat (.bool x_1000)) m') := by
  kernel_rfl

theorem fs3 (w0 : World) : FS Try.prog w0 3 G3 := by
  refine (fs_body (Γ := E3) (sound_env (l := [(6, G6), (7, G7), (8, G8), (9, G9), (10, G10), (11, G11), (12, G12), (13, G13)]) w0 (by
    intro p hp
    simp only [List.mem_cons, List.not_mem_nil, or_false] at hp
    rcases hp with rfl | rfl | rfl | rfl | rfl | rfl | rfl | rfl
    · exact fs6 w0
    · exact fs7 w0
    · exact fs8 w0
    · exact fs9 w0
    · exact fs10 w0
    · exact fs11 w0
    · exact fs12 w0
    · exact fs13 w0)) (by kernel_rfl) Try.func3 (Λ := Lam3) (c := (bodyOf Try.f3)) (by kernel_rfl) Try.call3 (by kernel_rfl) (LS_of (bodyOf Try.f3) 1 (by kernel_rfl) (by
    intro i hi
    match i, hi with
    | 0, _ => exact lok3_6
    | i + 1, hi => omega) 1 (by kernel_rfl) (by
    intro i hi
    match i, hi with
    | 0, _ => exact pok3_35102
    | i + 1, hi => omega)) false (np := 0) (Nat.le_of_ble_eq_true (by kernel_rfl))).imp fun args => ?_
  by_cases hl : args.length = 0
  rotate_left
  · exact .inr fun m k hk => by
      unfold G3 at hk
      split at hk
      · exact hl rfl
      · exact hk
  obtain rfl : args = [] := len_list0 hl

  exact .inl fun m k => propext ⟨fun h => ⟨rfl, by rw [eqn3]; simpa only [G3, kI, kbool, kS, kptr, kaggN, kite, decide_true, eq_self] using h⟩, fun h => by have h := h.2; rw [eqn3] at h; simpa only [G3, kI, kbool, kS, kptr, kaggN, kite, decide_true, eq_self] using h⟩

def E22 : Env := envOf []

/-- pianola/pianolaref6.Fresh -/
def F22  (m : Mem) (k : (Nat → AV) → Mem → Prop) : Prop :=
  newK m ⟨73, Z73, 33, false⟩ fun b2 m1 => newK m1 ⟨73, Z73, 33, false⟩ fun b4 m3 => stG 73 m3 b4 0 (upd (upd (Z73) 34 (.flat (.int .u32 2147484672))) 35 (.flat (.int .u32 2147484676))) fun m5 => stC m5 b4 54 (.flat (.int .u32 98304)) fun m6 => ldG 73 m6 b4 0 fun c7 => stG 73 m6 b2 0 c7 fun m8 => ldG 73 m8 b2 0 fun c9 => (Keeps m m8 ∧ InDomG 73 m c9 ∧ k c9 m)

def G22 (args : List AV) (m : Mem) (k : KV) : Prop := match args with
  | [] => F22  m (fun c_1000 m' => k (.agg 73 c_1000) m')
  | _ => False

def Lam22 : LEnv := ⟨fun a σ m k => match firstReg a with
  | _ => bump False,
  fun id => match id with
  | _ => bump false,
  fun b => match keyC b with
  | _ => bump false,
  fun b σ m k => match keyC b with
  | _ => bump False⟩

theorem eqn22  (m : Mem) (k : KV) : bodyK Try.prog E22 Lam22 Try.f22 true [] m k = F22  m (fun c_1000 m' => k (.agg 73 c_1000) m') := by
  kernel_rfl

theorem fs22 (w0 : World) : FS Try.prog w0 22 G22 := by
  refine (fs_body (Γ := E22) (sound_env (l := []) w0 (by
    intro p hp
    cases hp)) (by kernel_rfl) Try.func22 (Λ := Lam22) (c := (bodyOf Try.f22)) (by kernel_rfl) Try.call22 (by kernel_rfl) (LS_of (bodyOf Try.f22) 0 (by kernel_rfl) (fun i hi => absurd hi (Nat.not_lt_zero i)) 0 (by kernel_rfl) (fun i hi => absurd hi (Nat.not_lt_zero i))) true (np := 0) (Nat.le_of_ble_eq_true (by kernel_rfl))).imp fun args => ?_
  by_cases hl : args.length = 0
  rotate_left
  · exact .inr fun m k hk => by
      unfold G22 at hk
      split at hk
      · exact hl rfl
      · exact hk
  obtain rfl : args = [] := len_list0 hl

  exact .inl fun m k => propext ⟨fun h => ⟨rfl, by rw [eqn22]; simpa only [G22, kI, kbool, kS, kptr, kaggN, kite, decide_true, eq_self] using h⟩, fun h => by have h := h.2; rw [eqn22] at h; simpa only [G22, kI, kbool, kS, kptr, kaggN, kite, decide_true, eq_self] using h⟩

end Go.Proofs.Ytobdghdcmkdcaaa.Am
