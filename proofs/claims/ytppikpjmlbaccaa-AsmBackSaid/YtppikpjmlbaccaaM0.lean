/- What Go functions ask of what follows them, as plain functions over the abstract machine; the machine asks just that. Written by gen.py. -/
import Derived.Test.YtppikpjmlbaccaaProg
import Derived.Test.YtppikpjmlbaccaaAmL
namespace Go.Proofs.Ytppikpjmlbaccaa.Am
set_option linter.unusedVariables false
set_option linter.unusedSimpArgs false
set_option maxRecDepth 100000

def Yb0 : ByteArray := ⟨#[116, 100, 104]⟩

def Yb1 : ByteArray := ⟨#[115, 116, 100]⟩

def Yb2 : ByteArray := ⟨#[115]⟩

def Yb3 : ByteArray := ⟨#[115, 100]⟩

def Yb4 : ByteArray := ⟨#[100]⟩

def Yb5 : ByteArray := ⟨#[115, 116]⟩

def Yb6 : ByteArray := ⟨#[106]⟩

def Yb7 : ByteArray := ⟨#[115, 116, 105]⟩

def Yb8 : ByteArray := ⟨#[115, 105]⟩

def Yb9 : ByteArray := ⟨#[116, 105]⟩

def Yb10 : ByteArray := ⟨#[116, 100]⟩

def Yb11 : ByteArray := ⟨#[36, 1, 0, 5]⟩

def Z6 : Nat → AV := lget [(.flat (.int .i64 0)), (.flat (.int .i64 0)), (.flat (.int .i64 0)), (.flat (.int .i64 0)), (.flat (.int .i64 0)), (.flat (.int .u32 0))]

def Z6b : Nat → AV := lget [(.flat (.int .u32 0)), (.flat (.int .u32 0)), (.flat (.int .u32 0)), (.flat (.int .u32 0)), (.flat (.int .u32 0)), (.flat (.int .u32 0))]

def Z140 : Nat → AV := lget [(.flat (.int .i64 0)), (.flat (.int .i64 0)), (.flat (.int .i64 0)), (.flat (.string ⟨#[]⟩)), (.flat (.int .i64 0)), (.flat (.int .i64 0)), (.flat (.int .i64 0)), (.flat (.string ⟨#[]⟩)), (.flat (.int .i64 0)), (.flat (.int .i64 0)), (.flat (.int .i64 0)), (.flat (.string ⟨#[]⟩)), (.flat (.int .i64 0)), (.flat (.int .i64 0)), (.flat (.int .i64 0)), (.flat (.string ⟨#[]⟩)), (.flat (.int .i64 0)), (.flat (.int .i64 0)), (.flat (.int .i64 0)), (.flat (.string ⟨#[]⟩)), (.flat (.int .i64 0)), (.flat (.int .i64 0)), (.flat (.int .i64 0)), (.flat (.string ⟨#[]⟩)), (.flat (.int .i64 0)), (.flat (.int .i64 0)), (.flat (.int .i64 0)), (.flat (.string ⟨#[]⟩)), (.flat (.int .i64 0)), (.flat (.int .i64 0)), (.flat (.int .i64 0)), (.flat (.string ⟨#[]⟩)), (.flat (.int .i64 0)), (.flat (.int .i64 0)), (.flat (.int .i64 0)), (.flat (.string ⟨#[]⟩)), (.flat (.int .i64 0)), (.flat (.int .i64 0)), (.flat (.int .i64 0)), (.flat (.string ⟨#[]⟩)), (.flat (.int .i64 0)), (.flat (.int .i64 0)), (.flat (.int .i64 0)), (.flat (.string ⟨#[]⟩)), (.flat (.int .i64 0)), (.flat (.int .i64 0)), (.flat (.int .i64 0)), (.flat (.string ⟨#[]⟩)), (.flat (.int .i64 0)), (.flat (.int .i64 0)), (.flat (.int .i64 0)), (.flat (.string ⟨#[]⟩)), (.flat (.int .i64 0)), (.flat (.int .i64 0)), (.flat (.int .i64 0)), (.flat (.string ⟨#[]⟩)), (.flat (.int .i64 0)), (.flat (.int .i64 0)), (.flat (.int .i64 0)), (.flat (.string ⟨#[]⟩)), (.flat (.int .i64 0)), (.flat (.int .i64 0)), (.flat (.int .i64 0)), (.flat (.string ⟨#[]⟩)), (.flat (.int .i64 0)), (.flat (.int .i64 0)), (.flat (.int .i64 0)), (.flat (.string ⟨#[]⟩)), (.flat (.int .i64 0)), (.flat (.int .i64 0)), (.flat (.int .i64 0)), (.flat (.string ⟨#[]⟩)), (.flat (.int .i64 0)), (.flat (.int .i64 0)), (.flat (.int .i64 0)), (.flat (.string ⟨#[]⟩)), (.flat (.int .i64 0)), (.flat (.int .i64 0)), (.flat (.int .i64 0)), (.flat (.string ⟨#[]⟩)), (.flat (.int .i64 0)), (.flat (.int .i64 0)), (.flat (.int .i64 0)), (.flat (.string ⟨#[]⟩)), (.flat (.int .i64 0)), (.flat (.int .i64 0)), (.flat (.int .i64 0)), (.flat (.string ⟨#[]⟩)), (.flat (.int .i64 0)), (.flat (.int .i64 0)), (.flat (.int .i64 0)), (.flat (.string ⟨#[]⟩)), (.flat (.int .i64 0)), (.flat (.int .i64 0)), (.flat (.int .i64 0)), (.flat (.string ⟨#[]⟩)), (.flat (.int .i64 0)), (.flat (.int .i64 0)), (.flat (.int .i64 0)), (.flat (.string ⟨#[]⟩)), (.flat (.int .i64 0)), (.flat (.int .i64 0)), (.flat (.int .i64 0)), (.flat (.string ⟨#[]⟩)), (.flat (.int .i64 0)), (.flat (.int .i64 0)), (.flat (.int .i64 0)), (.flat (.string ⟨#[]⟩)), (.flat (.int .i64 0)), (.flat (.int .i64 0)), (.flat (.int .i64 0)), (.flat (.string ⟨#[]⟩)), (.flat (.int .i64 0)), (.flat (.int .i64 0)), (.flat (.int .i64 0)), (.flat (.string ⟨#[]⟩)), (.flat (.int .i64 0)), (.flat (.int .i64 0)), (.flat (.int .i64 0)), (.flat (.string ⟨#[]⟩)), (.flat (.int .i64 0)), (.flat (.int .i64 0)), (.flat (.int .i64 0)), (.flat (.string ⟨#[]⟩)), (.flat (.int .i64 0)), (.flat (.int .i64 0)), (.flat (.int .i64 0)), (.flat (.string ⟨#[]⟩)), (.flat (.int .i64 0)), (.flat (.int .i64 0)), (.flat (.int .i64 0)), (.flat (.string ⟨#[]⟩)), (.flat (.int .i64 0)), (.flat (.int .i64 0)), (.flat (.int .i64 0)), (.flat (.string ⟨#[]⟩)), (.flat (.int .i64 0)), (.flat (.int .i64 0)), (.flat (.int .i64 0)), (.flat (.string ⟨#[]⟩))]

def Z108 : Nat → AV := lget [(.flat (.int .i64 0)), (.flat (.int .i64 0)), (.flat (.int .i64 0)), (.flat (.string ⟨#[]⟩)), (.flat (.int .i64 0)), (.flat (.int .i64 0)), (.flat (.int .i64 0)), (.flat (.string ⟨#[]⟩)), (.flat (.int .i64 0)), (.flat (.int .i64 0)), (.flat (.int .i64 0)), (.flat (.string ⟨#[]⟩)), (.flat (.int .i64 0)), (.flat (.int .i64 0)), (.flat (.int .i64 0)), (.flat (.string ⟨#[]⟩)), (.flat (.int .i64 0)), (.flat (.int .i64 0)), (.flat (.int .i64 0)), (.flat (.string ⟨#[]⟩)), (.flat (.int .i64 0)), (.flat (.int .i64 0)), (.flat (.int .i64 0)), (.flat (.string ⟨#[]⟩)), (.flat (.int .i64 0)), (.flat (.int .i64 0)), (.flat (.int .i64 0)), (.flat (.string ⟨#[]⟩)), (.flat (.int .i64 0)), (.flat (.int .i64 0)), (.flat (.int .i64 0)), (.flat (.string ⟨#[]⟩)), (.flat (.int .i64 0)), (.flat (.int .i64 0)), (.flat (.int .i64 0)), (.flat (.string ⟨#[]⟩)), (.flat (.int .i64 0)), (.flat (.int .i64 0)), (.flat (.int .i64 0)), (.flat (.string ⟨#[]⟩)), (.flat (.int .i64 0)), (.flat (.int .i64 0)), (.flat (.int .i64 0)), (.flat (.string ⟨#[]⟩)), (.flat (.int .i64 0)), (.flat (.int .i64 0)), (.flat (.int .i64 0)), (.flat (.string ⟨#[]⟩)), (.flat (.int .i64 0)), (.flat (.int .i64 0)), (.flat (.int .i64 0)), (.flat (.string ⟨#[]⟩)), (.flat (.int .i64 0)), (.flat (.int .i64 0)), (.flat (.int .i64 0)), (.flat (.string ⟨#[]⟩)), (.flat (.int .i64 0)), (.flat (.int .i64 0)), (.flat (.int .i64 0)), (.flat (.string ⟨#[]⟩)), (.flat (.int .i64 0)), (.flat (.int .i64 0)), (.flat (.int .i64 0)), (.flat (.string ⟨#[]⟩)), (.flat (.int .i64 0)), (.flat (.int .i64 0)), (.flat (.int .i64 0)), (.flat (.string ⟨#[]⟩)), (.flat (.int .i64 0)), (.flat (.int .i64 0)), (.flat (.int .i64 0)), (.flat (.string ⟨#[]⟩)), (.flat (.int .i64 0)), (.flat (.int .i64 0)), (.flat (.int .i64 0)), (.flat (.string ⟨#[]⟩)), (.flat (.int .i64 0)), (.flat (.int .i64 0)), (.flat (.int .i64 0)), (.flat (.string ⟨#[]⟩)), (.flat (.int .i64 0)), (.flat (.int .i64 0)), (.flat (.int .i64 0)), (.flat (.string ⟨#[]⟩)), (.flat (.int .i64 0)), (.flat (.int .i64 0)), (.flat (.int .i64 0)), (.flat (.string ⟨#[]⟩)), (.flat (.int .i64 0)), (.flat (.int .i64 0)), (.flat (.int .i64 0)), (.flat (.string ⟨#[]⟩)), (.flat (.int .i64 0)), (.flat (.int .i64 0)), (.flat (.int .i64 0)), (.flat (.string ⟨#[]⟩)), (.flat (.int .i64 0)), (.flat (.int .i64 0)), (.flat (.int .i64 0)), (.flat (.string ⟨#[]⟩)), (.flat (.int .i64 0)), (.flat (.int .i64 0)), (.flat (.int .i64 0)), (.flat (.string ⟨#[]⟩)), (.flat (.int .i64 0)), (.flat (.int .i64 0)), (.flat (.int .i64 0)), (.flat (.string ⟨#[]⟩))]

def Z60 : Nat → AV := lget [(.flat (.int .i64 0)), (.flat (.int .i64 0)), (.flat (.int .i64 0)), (.flat (.string ⟨#[]⟩)), (.flat (.int .i64 0)), (.flat (.int .i64 0)), (.flat (.int .i64 0)), (.flat (.string ⟨#[]⟩)), (.flat (.int .i64 0)), (.flat (.int .i64 0)), (.flat (.int .i64 0)), (.flat (.string ⟨#[]⟩)), (.flat (.int .i64 0)), (.flat (.int .i64 0)), (.flat (.int .i64 0)), (.flat (.string ⟨#[]⟩)), (.flat (.int .i64 0)), (.flat (.int .i64 0)), (.flat (.int .i64 0)), (.flat (.string ⟨#[]⟩)), (.flat (.int .i64 0)), (.flat (.int .i64 0)), (.flat (.int .i64 0)), (.flat (.string ⟨#[]⟩)), (.flat (.int .i64 0)), (.flat (.int .i64 0)), (.flat (.int .i64 0)), (.flat (.string ⟨#[]⟩)), (.flat (.int .i64 0)), (.flat (.int .i64 0)), (.flat (.int .i64 0)), (.flat (.string ⟨#[]⟩)), (.flat (.int .i64 0)), (.flat (.int .i64 0)), (.flat (.int .i64 0)), (.flat (.string ⟨#[]⟩)), (.flat (.int .i64 0)), (.flat (.int .i64 0)), (.flat (.int .i64 0)), (.flat (.string ⟨#[]⟩)), (.flat (.int .i64 0)), (.flat (.int .i64 0)), (.flat (.int .i64 0)), (.flat (.string ⟨#[]⟩)), (.flat (.int .i64 0)), (.flat (.int .i64 0)), (.flat (.int .i64 0)), (.flat (.string ⟨#[]⟩)), (.flat (.int .i64 0)), (.flat (.int .i64 0)), (.flat (.int .i64 0)), (.flat (.string ⟨#[]⟩)), (.flat (.int .i64 0)), (.flat (.int .i64 0)), (.flat (.int .i64 0)), (.flat (.string ⟨#[]⟩)), (.flat (.int .i64 0)), (.flat (.int .i64 0)), (.flat (.int .i64 0)), (.flat (.string ⟨#[]⟩))]

def Z12 : Nat → AV := lget [(.flat (.int .i64 0)), (.flat (.int .i64 0)), (.flat (.int .i64 0)), (.flat (.int .i64 0)), (.flat (.int .i64 0)), (.flat (.int .u32 0)), (.flat (.int .i64 0)), (.flat (.int .i64 0)), (.flat (.int .i64 0)), (.flat (.int .i64 0)), (.flat (.int .i64 0)), (.flat (.int .u32 0))]

def Z6bb : Nat → AV := lget [(.flat (.int .i64 0)), (.flat (.int .i64 0)), (.flat (.int .i64 0)), (.flat (.int .i64 0)), (.flat (.int .i64 0)), (.flat (.int .i64 0))]

def K25 : List (Nat × LK) := [(0, (.i .i64)), (1, (.i .i64)), (2, (.i .i64)), (3, (.i .i64)), (4, (.i .i64)), (5, (.i .u32))]

def R10_2  (v_0 : AV) (v_3 : AV) (m : Mem) (kn : AV → AV → Mem → Prop) (k0 : AV → Mem → Prop) : Prop :=
  klen v_0 fun x1 => kif (decide (x1 ≥ 4)) (ksl v_0 fun b2 o3 l4 p5 => kif (decide (0 ≤ (0 : Int)) && decide ((0 : Int) < l4)) (ldI .u8 m b2 (o3 + 0) fun x6 => ksl v_0 fun b7 o8 l9 p10 => kif (decide (0 ≤ (1 : Int)) && decide ((1 : Int) < l9)) (ldI .u8 m b7 (o8 + 1) fun x11 => ksl v_0 fun b12 o13 l14 p15 => kif (decide (0 ≤ (2 : Int)) && decide ((2 : Int) < l14)) (ldI .u8 m b12 (o13 + 2) fun x16 => ksl v_0 fun b17 o18 l19 p20 => kif (decide (0 ≤ (3 : Int)) && decide ((3 : Int) < l19)) (ldI .u8 m b17 (o18 + 3) fun x21 => newK m ⟨1, upd (lget [(.flat (.int .u32 0))]) 0 (.flat (.int .u32 (bits .or .u32 (bits .or .u32 (bits .or .u32 (IntKind.wrap .u32 ((IntKind.wrap .u32 x6) * 16777216)) (IntKind.wrap .u32 ((IntKind.wrap .u32 x11) * 65536))) (IntKind.wrap .u32 ((IntKind.wrap .u32 x16) * 256))) (IntKind.wrap .u32 x21)))), 23, false⟩ fun b23 m22 => appS 1 4 23 v_3 (.sl b23 0 1 (.ex 1)) m22 fun v24 m25 => slS 1 v_0 (some 4) none fun v26 => kn v26 v24 m25) False) False) False) False) (k0 v_3 m)

def L10_2  : Nat → AV → AV → Mem → (AV → Mem → Prop) → Prop
  | 0, _, _,  _, _ => bump False
  | N + 1, v_0, v_3,  m, k0 => R10_2  v_0 v_3 m (fun v_0' v_3' m' => L10_2  N v_0' v_3' m' k0) k0

/-- pianola/asm.Words -/
def F10 (v_0 : AV) (m : Mem) (k : AV → Mem → Prop) : Prop :=
  ∃ N29, L10_2  N29 v_0 (.flat (.slice none 0 0)) m (fun v27 m28 => k v27 m28)

def G10 (args : List AV) (m : Mem) (k : KV) : Prop := match args with
  | [a0] => F10 a0 m (fun v_1000 m' => k v_1000 m')
  | _ => False

def E10 : Env := envOf []

def Lam10_2 (σ : Nat → AV) (m : Mem) (k : KX) : Prop := ∃ N, L10_2  N (σ 0) (σ 3) m (fun v_3' m' => k (.exit 0) (only [3] [v_3']) m')

def Lam10 : LEnv := ⟨fun a σ m k => match firstReg a with
  | some 2 => Lam10_2 σ m k
  | _ => bump False,
  fun id => match id with
  | _ => bump false,
  fun b => match keyC b with
  | _ => bump false,
  fun b σ m k => match keyC b with
  | _ => bump False⟩

def lx10_2 : Ex → List Nat := fun e => match e with
  | .exit 0 => [3]
  | _ => []

theorem round10_2  (v_0 : AV) (v_3 : AV) (m : Mem) (G : List AV → Mem → Prop) (k : KX) : (wpA Try.prog E10 Lam10 ((loopsOf (bodyOf Try.f10)).getD 0 .skip) (only [0, 3] [v_0, v_3]) m fun e σ' m' => match e with
    | .normal => G ([0, 3].map σ') m'
    | .exit id => k (.exit id) (only (lx10_2 (.exit id)) ((lx10_2 (.exit id)).map σ')) m'
    | .ret => k .ret (only (lx10_2 .ret) ((lx10_2 .ret).map σ')) m') = R10_2  v_0 v_3 m (fun v_0' v_3' m' => G [v_0', v_3'] m') (fun v_3' m' => k (.exit 0) (only [3] [v_3']) m') := by
  kernel_rfl

theorem loop10_2  (k : KX) : ∀ (N : Nat) (v_0 : AV) (v_3 : AV) (m : Mem), rounds Try.prog E10 Lam10 [0, 3] lx10_2 ((loopsOf (bodyOf Try.f10)).getD 0 .skip) N [v_0, v_3] m k = L10_2  N v_0 v_3 m (fun v_3' m' => k (.exit 0) (only [3] [v_3']) m') := by
  intro N
  induction N with
  | zero => intros; rfl
  | succ N ih =>
    intro v_0 v_3 m
    refine (round10_2  v_0 v_3 m (fun vs m' => rounds Try.prog E10 Lam10 [0, 3] lx10_2 ((loopsOf (bodyOf Try.f10)).getD 0 .skip) N vs m' k) k).trans ?_
    simp only [ih]
    rfl

theorem lok10_2 : LoopOK Try.prog E10 Lam10 ((loopsOf (bodyOf Try.f10)).getD 0 .skip) := by
  refine ⟨fun σ => ∃ v_0 v_3, σ 0 = v_0 ∧ σ 3 = v_3, [0, 3], lx10_2, fun σ m k => ?_⟩
  have e : Lam10.loop ((loopsOf (bodyOf Try.f10)).getD 0 .skip) σ m k = Lam10_2 σ m k := by kernel_rfl
  rw [e]
  constructor
  · intro h
    unfold Lam10_2 at h
    obtain ⟨v_0, h0⟩ : ∃ v, σ 0 = v := ⟨_, rfl⟩
    obtain ⟨v_3, h1⟩ : ∃ v, σ 3 = v := ⟨_, rfl⟩
    obtain ⟨N, h⟩ := h
    refine ⟨⟨v_0, v_3, h0, h1⟩, N, ?_⟩
    have ev : [0, 3].map σ = [v_0, v_3] := by simp only [List.map_cons, List.map_nil, h0, h1]
    rw [ev, loop10_2]
    simp only [h0, h1] at h
    exact h
  · rintro ⟨⟨v_0, v_3, h0, h1⟩, N, h⟩
    have ev : [0, 3].map σ = [v_0, v_3] := by simp only [List.map_cons, List.map_nil, h0, h1]
    rw [ev, loop10_2] at h
    unfold Lam10_2
    try simp only [h0, h1, kI, kbool, kS, kptr, kaggN, kite, decide_true, eq_self]
    exact ⟨N, h⟩

theorem eqn10 (v_0 : AV) (m : Mem) (k : KV) : bodyK Try.prog E10 Lam10 Try.f10 false [v_0] m k = F10 v_0 m (fun v_1000 m' => k v_1000 m') := by
  kernel_rfl

theorem fs10 (w0 : World) : FS Try.prog w0 10 G10 := by
  refine (fs_body (Γ := E10) (sound_env (l := []) w0 (by
    intro p hp
    cases hp)) (by kernel_rfl) Try.func10 (Λ := Lam10) (c := (bodyOf Try.f10)) (by kernel_rfl) Try.call10 (by kernel_rfl) (LS_of (bodyOf Try.f10) 1 (by kernel_rfl) (by
    intro i hi
    match i, hi with
    | 0, _ => exact lok10_2
    | i + 1, hi => omega) 0 (by kernel_rfl) (fun i hi => absurd hi (Nat.not_lt_zero i))) false (np := 1) (Nat.le_of_ble_eq_true (by kernel_rfl))).imp fun args => ?_
  by_cases hl : args.length = 1
  rotate_left
  · exact .inr fun m k hk => by
      unfold G10 at hk
      split at hk
      · exact hl rfl
      · exact hk
  obtain ⟨a0, rfl⟩ : ∃ a0, args = [a0] := len_list1 hl

  exact .inl fun m k => propext ⟨fun h => ⟨rfl, by rw [eqn10]; simpa only [G10, kI, kbool, kS, kptr, kaggN, kite, decide_true, eq_self] using h⟩, fun h => by have h := h.2; rw [eqn10] at h; simpa only [G10, kI, kbool, kS, kptr, kaggN, kite, decide_true, eq_self] using h⟩

/-- pianola/decode.put -/
def F31 (c_0 : Nat → AV) (m : Mem) (k : Int → Mem → Prop) : Prop :=
  newK m ⟨6, c_0, 25, false⟩ fun b2 m1 => ldI .i64 m1 b2 1 fun x3 => ldI .i64 m1 b2 2 fun x4 => ldI .i64 m1 b2 3 fun x5 => ldI .i64 m1 b2 4 fun x6 => ldI .u32 m1 b2 5 fun x7 => (Keeps m m1 ∧ k (bits .or .u32 (bits .or .u32 (bits .or .u32 (bits .or .u32 (IntKind.wrap .u32 ((IntKind.wrap .u32 x3) * 2097152)) (IntKind.wrap .u32 ((IntKind.wrap .u32 x4) * 65536))) (IntKind.wrap .u32 ((IntKind.wrap .u32 x5) * 2048))) (IntKind.wrap .u32 ((IntKind.wrap .u32 x6) * 64))) x7) m)

def G31 (args : List AV) (m : Mem) (k : KV) : Prop := match args with
  | [a0] => kaggN 6 a0 fun c_0 => F31 c_0 m (fun x_1000 m' => k (.flat (.int .u32 x_1000)) m')
  | _ => False

def E31 : Env := envOf []

def Lam31 : LEnv := ⟨fun a σ m k => match firstReg a with
  | _ => bump False,
  fun id => match id with
  | _ => bump false,
  fun b => match keyC b with
  | _ => bump false,
  fun b σ m k => match keyC b with
  | _ => bump False⟩

theorem eqn31 (c_0 : Nat → AV) (m : Mem) (k : KV) : bodyK Try.prog E31 Lam31 Try.f31 true [(.agg 6 c_0)] m k = F31 c_0 m (fun x_1000 m' => k (.flat (.int .u32 x_1000)) m') := by
  kernel_rfl

theorem fs31 (w0 : World) : FS Try.prog w0 31 G31 := by
  refine (fs_body (Γ := E31) (sound_env (l := []) w0 (by
    intro p hp
    cases hp)) (by kernel_rfl) Try.func31 (Λ := Lam31) (c := (bodyOf Try.f31)) (by kernel_rfl) Try.call31 (by kernel_rfl) (LS_of (bodyOf Try.f31) 0 (by kernel_rfl) (fun i hi => absurd hi (Nat.not_lt_zero i)) 0 (by kernel_rfl) (fun i hi => absurd hi (Nat.not_lt_zero i))) true (np := 1) (Nat.le_of_ble_eq_true (by kernel_rfl))).imp fun args => ?_
  by_cases hl : args.length = 1
  rotate_left
  · exact .inr fun m k hk => by
      unfold G31 at hk
      split at hk
      · exact hl rfl
      · exact hk
  obtain ⟨a0, rfl⟩ : ∃ a0, args = [a0] := len_list1 hl
  rcases kaggN_or 6 a0 with ⟨c_0, rfl⟩ | h
  rotate_left
  · exact .inr fun m k hk => h _ (by simpa only [G31, kI, kbool, kS, kptr, kaggN, kite, decide_true, eq_self] using hk)
  exact .inl fun m k => propext ⟨fun h => ⟨rfl, by rw [eqn31]; simpa only [G31, kI, kbool, kS, kptr, kaggN, kite, decide_true, eq_self] using h⟩, fun h => by have h := h.2; rw [eqn31] at h; simpa only [G31, kI, kbool, kS, kptr, kaggN, kite, decide_true, eq_self] using h⟩

def P38_18004 (x_0 : Int) (x_103 : Bool) (m : Mem) (kr : Int → Mem → Prop) (kn : Mem → Prop) : Prop :=
  kif x_103 (kr 19 m) (kif (x_0 == 53) (kr 18 m) (kif (x_0 == 54) (kr 6 m) (kif (x_0 == 55) (kr 6 m) (kn  m))))

def P38_16004 (x_0 : Int) (x_96 : Bool) (m : Mem) (kr : Int → Mem → Prop) (kn : Mem → Prop) : Prop :=
  kif x_96 (kr 32 m) (kif (x_0 == 42) (P38_18004 x_0 true m (fun x1 m2 => kr x1 m2) (fun m3 => kn  m3)) (kif (x_0 == 43) (P38_18004 x_0 true m (fun x4 m5 => kr x4 m5) (fun m6 => kn  m6)) (kif (decide (x_0 ≥ 46)) (kif (decide (x_0 ≤ 52)) (P38_18004 x_0 true m (fun x7 m8 => kr x7 m8) (fun m9 => kn  m9)) (kif (decide (x_0 ≥ 66)) (P38_18004 x_0 (decide (x_0 ≤ 75)) m (fun x10 m11 => kr x10 m11) (fun m12 => kn  m12)) (P38_18004 x_0 false m (fun x13 m14 => kr x13 m14) (fun m15 => kn  m15)))) (kif (decide (x_0 ≥ 66)) (P38_18004 x_0 (decide (x_0 ≤ 75)) m (fun x16 m17 => kr x16 m17) (fun m18 => kn  m18)) (P38_18004 x_0 false m (fun x19 m20 => kr x19 m20) (fun m21 => kn  m21))))))

def P38_14004 (x_0 : Int) (x_81 : Bool) (m : Mem) (kr : Int → Mem → Prop) (kn : Mem → Prop) : Prop :=
  kif x_81 (kr 17 m) (kif (x_0 == 40) (P38_16004 x_0 true m (fun x22 m23 => kr x22 m23) (fun m24 => kn  m24)) (P38_16004 x_0 (x_0 == 41) m (fun x25 m26 => kr x25 m26) (fun m27 => kn  m27)))

def P38_12004 (x_0 : Int) (x_66 : Bool) (m : Mem) (kr : Int → Mem → Prop) (kn : Mem → Prop) : Prop :=
  kif x_66 (kr 3 m) (kif (decide (x_0 ≥ 36)) (kif (decide (x_0 ≤ 39)) (P38_14004 x_0 true m (fun x28 m29 => kr x28 m29) (fun m30 => kn  m30)) (kif (x_0 == 44) (P38_14004 x_0 true m (fun x31 m32 => kr x31 m32) (fun m33 => kn  m33)) (P38_14004 x_0 (x_0 == 45) m (fun x34 m35 => kr x34 m35) (fun m36 => kn  m36)))) (kif (x_0 == 44) (P38_14004 x_0 true m (fun x37 m38 => kr x37 m38) (fun m39 => kn  m39)) (P38_14004 x_0 (x_0 == 45) m (fun x40 m41 => kr x40 m41) (fun m42 => kn  m42))))

def P38_10004 (x_0 : Int) (x_59 : Bool) (m : Mem) (kr : Int → Mem → Prop) (kn : Mem → Prop) : Prop :=
  kif x_59 (kr 4 m) (kif (decide (x_0 ≥ 18)) (kif (decide (x_0 ≤ 21)) (P38_12004 x_0 true m (fun x43 m44 => kr x43 m44) (fun m45 => kn  m45)) (kif (decide (x_0 ≥ 32)) (P38_12004 x_0 (decide (x_0 ≤ 35)) m (fun x46 m47 => kr x46 m47) (fun m48 => kn  m48)) (P38_12004 x_0 false m (fun x49 m50 => kr x49 m50) (fun m51 => kn  m51)))) (kif (decide (x_0 ≥ 32)) (P38_12004 x_0 (decide (x_0 ≤ 35)) m (fun x52 m53 => kr x52 m53) (fun m54 => kn  m54)) (P38_12004 x_0 false m (fun x55 m56 => kr x55 m56) (fun m57 => kn  m57))))

def P38_8004 (x_0 : Int) (x_48 : Bool) (m : Mem) (kr : Int → Mem → Prop) (kn : Mem → Prop) : Prop :=
  kif x_48 (kr 5 m) (kif (x_0 == 14) (P38_10004 x_0 true m (fun x58 m59 => kr x58 m59) (fun m60 => kn  m60)) (P38_10004 x_0 (x_0 == 16) m (fun x61 m62 => kr x61 m62) (fun m63 => kn  m63)))

def P38_6004 (x_0 : Int) (x_37 : Bool) (m : Mem) (kr : Int → Mem → Prop) (kn : Mem → Prop) : Prop :=
  kif x_37 (kr 1 m) (kif (x_0 == 8) (P38_8004 x_0 true m (fun x64 m65 => kr x64 m65) (fun m66 => kn  m66)) (kif (x_0 == 64) (P38_8004 x_0 true m (fun x67 m68 => kr x67 m68) (fun m69 => kn  m69)) (P38_8004 x_0 (x_0 == 65) m (fun x70 m71 => kr x70 m71) (fun m72 => kn  m72))))

def P38_4004 (x_0 : Int) (x_10 : Bool) (m : Mem) (kr : Int → Mem → Prop) (kn : Mem → Prop) : Prop :=
  kif x_10 (kr 7 m) (kif (x_0 == 7) (P38_6004 x_0 true m (fun x73 m74 => kr x73 m74) (fun m75 => kn  m75)) (kif (x_0 == 15) (P38_6004 x_0 true m (fun x76 m77 => kr x76 m77) (fun m78 => kn  m78)) (P38_6004 x_0 (x_0 == 17) m (fun x79 m80 => kr x79 m80) (fun m81 => kn  m81))))

def P38_2004 (x_0 : Int) (x_3 : Bool) (m : Mem) (kr : Int → Mem → Prop) (kn : Mem → Prop) : Prop :=
  kif x_3 (kr 14 m) (kif (decide (x_0 ≥ 4)) (kif (decide (x_0 ≤ 6)) (P38_4004 x_0 true m (fun x82 m83 => kr x82 m83) (fun m84 => kn  m84)) (kif (x_0 == 9) (P38_4004 x_0 true m (fun x85 m86 => kr x85 m86) (fun m87 => kn  m87)) (kif (x_0 == 10) (P38_4004 x_0 true m (fun x88 m89 => kr x88 m89) (fun m90 => kn  m90)) (kif (decide (x_0 ≥ 22)) (kif (decide (x_0 ≤ 31)) (P38_4004 x_0 true m (fun x91 m92 => kr x91 m92) (fun m93 => kn  m93)) (P38_4004 x_0 (x_0 == 63) m (fun x94 m95 => kr x94 m95) (fun m96 => kn  m96))) (P38_4004 x_0 (x_0 == 63) m (fun x97 m98 => kr x97 m98) (fun m99 => kn  m99)))))) (kif (x_0 == 9) (P38_4004 x_0 true m (fun x100 m101 => kr x100 m101) (fun m102 => kn  m102)) (kif (x_0 == 10) (P38_4004 x_0 true m (fun x103 m104 => kr x103 m104) (fun m105 => kn  m105)) (kif (decide (x_0 ≥ 22)) (kif (decide (x_0 ≤ 31)) (P38_4004 x_0 true m (fun x106 m107 => kr x106 m107) (fun m108 => kn  m108)) (P38_4004 x_0 (x_0 == 63) m (fun x109 m110 => kr x109 m110) (fun m111 => kn  m111))) (P38_4004 x_0 (x_0 == 63) m (fun x112 m113 => kr x112 m113) (fun m114 => kn  m114))))))

/-- pianola/decode.fields -/
def F38 (x_0 : Int) (m : Mem) (k : Int → Mem → Prop) : Prop :=
  kif (decide (x_0 ≥ 1)) (P38_2004 x_0 (decide (x_0 ≤ 3)) m (fun x115 m116 => (Keeps m m116 ∧ k x115 m)) (fun m117 => (Keeps m m117 ∧ k 0 m))) (P38_2004 x_0 false m (fun x118 m119 => (Keeps m m119 ∧ k x118 m)) (fun m120 => (Keeps m m120 ∧ k 0 m)))

def G38 (args : List AV) (m : Mem) (k : KV) : Prop := match args with
  | [a0] => kI .i64 a0 fun x_0 => F38 x_0 m (fun x_1000 m' => k (.flat (.int .i64 x_1000)) m')
  | _ => False

def E38 : Env := envOf []

def LamP38_2004 (σ : Nat → AV) (m : Mem) (k : KX) : Prop := kI .i64 (σ 0) fun x_0 => kbool (σ 3) fun x_3 => P38_2004 x_0 x_3 m (fun x_2' m' => k .ret (only [2] [(.flat (.int .i64 x_2'))]) m') (fun m' => k .normal (only [] []) m')

def LamP38_4004 (σ : Nat → AV) (m : Mem) (k : KX) : Prop := kI .i64 (σ 0) fun x_0 => kbool (σ 10) fun x_10 => P38_4004 x_0 x_10 m (fun x_2' m' => k .ret (only [2] [(.flat (.int .i64 x_2'))]) m') (fun m' => k .normal (only [] []) m')

def LamP38_6004 (σ : Nat → AV) (m : Mem) (k : KX) : Prop := kI .i64 (σ 0) fun x_0 => kbool (σ 37) fun x_37 => P38_6004 x_0 x_37 m (fun x_2' m' => k .ret (only [2] [(.flat (.int .i64 x_2'))]) m') (fun m' => k .normal (only [] []) m')

def LamP38_8004 (σ : Nat → AV) (m : Mem) (k : KX) : Prop := kI .i64 (σ 0) fun x_0 => kbool (σ 48) fun x_48 => P38_8004 x_0 x_48 m (fun x_2' m' => k .ret (only [2] [(.flat (.int .i64 x_2'))]) m') (fun m' => k .normal (only [] []) m')

def LamP38_10004 (σ : Nat → AV) (m : Mem) (k : KX) : Prop := kI .i64 (σ 0) fun x_0 => kbool (σ 59) fun x_59 => P38_10004 x_0 x_59 m (fun x_2' m' => k .ret (only [2] [(.flat (.int .i64 x_2'))]) m') (fun m' => k .normal (only [] []) m')

def LamP38_12004 (σ : Nat → AV) (m : Mem) (k : KX) : Prop := kI .i64 (σ 0) fun x_0 => kbool (σ 66) fun x_66 => P38_12004 x_0 x_66 m (fun x_2' m' => k .ret (only [2] [(.flat (.int .i64 x_2'))]) m') (fun m' => k .normal (only [] []) m')

def LamP38_14004 (σ : Nat → AV) (m : Mem) (k : KX) : Prop := kI .i64 (σ 0) fun x_0 => kbool (σ 81) fun x_81 => P38_14004 x_0 x_81 m (fun x_2' m' => k .ret (only [2] [(.flat (.int .i64 x_2'))]) m') (fun m' => k .normal (only [] []) m')

def LamP38_16004 (σ : Nat → AV) (m : Mem) (k : KX) : Prop := kI .i64 (σ 0) fun x_0 => kbool (σ 96) fun x_96 => P38_16004 x_0 x_96 m (fun x_2' m' => k .ret (only [2] [(.flat (.int .i64 x_2'))]) m') (fun m' => k .normal (only [] []) m')

def LamP38_18004 (σ : Nat → AV) (m : Mem) (k : KX) : Prop := kI .i64 (σ 0) fun x_0 => kbool (σ 103) fun x_103 => P38_18004 x_0 x_103 m (fun x_2' m' => k .ret (only [2] [(.flat (.int .i64 x_2'))]) m') (fun m' => k .normal (only [] []) m')

def Lam38 : LEnv := ⟨fun a σ m k => match firstReg a with
  | _ => bump False,
  fun id => match id with
  | _ => bump false,
  fun b => match keyC b with
  | some 2004 => true
  | some 4004 => true
  | some 6004 => true
  | some 8004 => true
  | some 10004 => true
  | some 12004 => true
  | some 14004 => true
  | some 16004 => true
  | some 18004 => true
  | _ => bump false,
  fun b σ m k => match keyC b with
  | some 2004 => LamP38_2004 σ m k
  | some 4004 => LamP38_4004 σ m k
  | some 6004 => LamP38_6004 σ m k
  | some 8004 => LamP38_8004 σ m k
  | some 10004 => LamP38_10004 σ m k
  | some 12004 => LamP38_12004 σ m k
  | some 14004 => LamP38_14004 σ m k
  | some 16004 => LamP38_16004 σ m k
  | some 18004 => LamP38_18004 σ m k
  | _ => bump False⟩

def lxp38_18004 : Ex → List Nat := fun e => match e with
  | .ret => [2]
  | .normal => []
  | _ => []

theorem pc38_18004 (x_0 : Int) (x_103 : Bool) (m : Mem) (k : KX) : once Try.prog E38 Lam38 [0, 103] lxp38_18004 (((secsOf (bodyOf Try.f38)).filter Lam38.cut).getD 8 .skip) [(.flat (.int .i64 x_0)), (.flat (.bool x_103))] m k = P38_18004 x_0 x_103 m (fun x_2' m' => k .ret (only [2] [(.flat (.int .i64 x_2'))]) m') (fun m' => k .normal (only [] []) m') := by
  kernel_rfl

theorem pok38_18004 : PieceOK Try.prog E38 Lam38 (((secsOf (bodyOf Try.f38)).filter Lam38.cut).getD 8 .skip) := by
  refine ⟨fun σ => ∃ x_0 x_103, σ 0 = .flat (.int .i64 x_0) ∧ σ 103 = .flat (.bool x_103), [0, 103], lxp38_18004, fun σ m k => ?_⟩
  have e : Lam38.piece (((secsOf (bodyOf Try.f38)).filter Lam38.cut).getD 8 .skip) σ m k = LamP38_18004 σ m k := by kernel_rfl
  rw [e]
  constructor
  · intro h
    unfold LamP38_18004 at h
    obtain ⟨x_0, h0, h⟩ := kI_ok h
    obtain ⟨x_103, h1, h⟩ := kbool_ok h
    refine ⟨⟨x_0, x_103, h0, h1⟩, ?_⟩
    have ev : [0, 103].map σ = [(.flat (.int .i64 x_0)), (.flat (.bool x_103))] := by simp only [List.map_cons, List.map_nil, h0, h1]
    rw [ev, pc38_18004]
    exact h
  · rintro ⟨⟨x_0, x_103, h0, h1⟩, h⟩
    have ev : [0, 103].map σ = [(.flat (.int .i64 x_0)), (.flat (.bool x_103))] := by simp only [List.map_cons, List.map_nil, h0, h1]
    rw [ev, pc38_18004] at h
    unfold LamP38_18004
    try simp only [h0, h1, kI, kbool, kS, kptr, kaggN, kite, decide_true, eq_self]
    exact h

def lxp38_16004 : Ex → List Nat := fun e => match e with
  | .ret => [2]
  | .normal => []
  | _ => []

theorem pc38_16004 (x_0 : Int) (x_96 : Bool) (m : Mem) (k : KX) : once Try.prog E38 Lam38 [0, 96] lxp38_16004 (((secsOf (bodyOf Try.f38)).filter Lam38.cut).getD 7 .skip) [(.flat (.int .i64 x_0)), (.flat (.bool x_96))] m k = P38_16004 x_0 x_96 m (fun x_2' m' => k .ret (only [2] [(.flat (.int .i64 x_2'))]) m') (fun m' => k .normal (only [] []) m') := by
  kernel_rfl

theorem pok38_16004 : PieceOK Try.prog E38 Lam38 (((secsOf (bodyOf Try.f38)).filter Lam38.cut).getD 7 .skip) := by
  refine ⟨fun σ => ∃ x_0 x_96, σ 0 = .flat (.int .i64 x_0) ∧ σ 96 = .flat (.bool x_96), [0, 96], lxp38_16004, fun σ m k => ?_⟩
  have e : Lam38.piece (((secsOf (bodyOf Try.f38)).filter Lam38.cut).getD 7 .skip) σ m k = LamP38_16004 σ m k := by kernel_rfl
  rw [e]
  constructor
  · intro h
    unfold LamP38_16004 at h
    obtain ⟨x_0, h0, h⟩ := kI_ok h
    obtain ⟨x_96, h1, h⟩ := kbool_ok h
    refine ⟨⟨x_0, x_96, h0, h1⟩, ?_⟩
    have ev : [0, 96].map σ = [(.flat (.int .i64 x_0)), (.flat (.bool x_96))] := by simp only [List.map_cons, List.map_nil, h0, h1]
    rw [ev, pc38_16004]
    exact h
  · rintro ⟨⟨x_0, x_96, h0, h1⟩, h⟩
    have ev : [0, 96].map σ = [(.flat (.int .i64 x_0)), (.flat (.bool x_96))] := by simp only [List.map_cons, List.map_nil, h0, h1]
    rw [ev, pc38_16004] at h
    unfold LamP38_16004
    try simp only [h0, h1, kI, kbool, kS, kptr, kaggN, kite, decide_true, eq_self]
    exact h

def lxp38_14004 : Ex → List Nat := fun e => match e with
  | .ret => [2]
  | .normal => []
  | _ => []

theorem pc38_14004 (x_0 : Int) (x_81 : Bool) (m : Mem) (k : KX) : once Try.prog E38 Lam38 [0, 81] lxp38_14004 (((secsOf (bodyOf Try.f38)).filter Lam38.cut).getD 6 .skip) [(.flat (.int .i64 x_0)), (.flat (.bool x_81))] m k = P38_14004 x_0 x_81 m (fun x_2' m' => k .ret (only [2] [(.flat (.int .i64 x_2'))]) m') (fun m' => k .normal (only [] []) m') := by
  kernel_rfl

theorem pok38_14004 : PieceOK Try.prog E38 Lam38 (((secsOf (bodyOf Try.f38)).filter Lam38.cut).getD 6 .skip) := by
  refine ⟨fun σ => ∃ x_0 x_81, σ 0 = .flat (.int .i64 x_0) ∧ σ 81 = .flat (.bool x_81), [0, 81], lxp38_14004, fun σ m k => ?_⟩
  have e : Lam38.piece (((secsOf (bodyOf Try.f38)).filter Lam38.cut).getD 6 .skip) σ m k = LamP38_14004 σ m k := by kernel_rfl
  rw [e]
  constructor
  · intro h
    unfold LamP38_14004 at h
    obtain ⟨x_0, h0, h⟩ := kI_ok h
    obtain ⟨x_81, h1, h⟩ := kbool_ok h
    refine ⟨⟨x_0, x_81, h0, h1⟩, ?_⟩
    have ev : [0, 81].map σ = [(.flat (.int .i64 x_0)), (.flat (.bool x_81))] := by simp only [List.map_cons, List.map_nil, h0, h1]
    rw [ev, pc38_14004]
    exact h
  · rintro ⟨⟨x_0, x_81, h0, h1⟩, h⟩
    have ev : [0, 81].map σ = [(.flat (.int .i64 x_0)), (.flat (.bool x_81))] := by simp only [List.map_cons, List.map_nil, h0, h1]
    rw [ev, pc38_14004] at h
    unfold LamP38_14004
    try simp only [h0, h1, kI, kbool, kS, kptr, kaggN, kite, decide_true, eq_self]
    exact h

def lxp38_12004 : Ex → List Nat := fun e => match e with
  | .ret => [2]
  | .normal => []
  | _ => []

theorem pc38_12004 (x_0 : Int) (x_66 : Bool) (m : Mem) (k : KX) : once Try.prog E38 Lam38 [0, 66] lxp38_12004 (((secsOf (bodyOf Try.f38)).filter Lam38.cut).getD 5 .skip) [(.flat (.int .i64 x_0)), (.flat (.bool x_66))] m k = P38_12004 x_0 x_66 m (fun x_2' m' => k .ret (only [2] [(.flat (.int .i64 x_2'))]) m') (fun m' => k .normal (only [] []) m') := by
  kernel_rfl

theorem pok38_12004 : PieceOK Try.prog E38 Lam38 (((secsOf (bodyOf Try.f38)).filter Lam38.cut).getD 5 .skip) := by
  refine ⟨fun σ => ∃ x_0 x_66, σ 0 = .flat (.int .i64 x_0) ∧ σ 66 = .flat (.bool x_66), [0, 66], lxp38_12004, fun σ m k => ?_⟩
  have e : Lam38.piece (((secsOf (bodyOf Try.f38)).filter Lam38.cut).getD 5 .skip) σ m k = LamP38_12004 σ m k := by kernel_rfl
  rw [e]
  constructor
  · intro h
    unfold LamP38_12004 at h
    obtain ⟨x_0, h0, h⟩ := kI_ok h
    obtain ⟨x_66, h1, h⟩ := kbool_ok h
    refine ⟨⟨x_0, x_66, h0, h1⟩, ?_⟩
    have ev : [0, 66].map σ = [(.flat (.int .i64 x_0)), (.flat (.bool x_66))] := by simp only [List.map_cons, List.map_nil, h0, h1]
    rw [ev, pc38_12004]
    exact h
  · rintro ⟨⟨x_0, x_66, h0, h1⟩, h⟩
    have ev : [0, 66].map σ = [(.flat (.int .i64 x_0)), (.flat (.bool x_66))] := by simp only [List.map_cons, List.map_nil, h0, h1]
    rw [ev, pc38_12004] at h
    unfold LamP38_12004
    try simp only [h0, h1, kI, kbool, kS, kptr, kaggN, kite, decide_true, eq_self]
    exact h

def lxp38_10004 : Ex → List Nat := fun e => match e with
  | .ret => [2]
  | .normal => []
  | _ => []

theorem pc38_10004 (x_0 : Int) (x_59 : Bool) (m : Mem) (k : KX) : once Try.prog E38 Lam38 [0, 59] lxp38_10004 (((secsOf (bodyOf Try.f38)).filter Lam38.cut).getD 4 .skip) [(.flat (.int .i64 x_0)), (.flat (.bool x_59))] m k = P38_10004 x_0 x_59 m (fun x_2' m' => k .ret (only [2] [(.flat (.int .i64 x_2'))]) m') (fun m' => k .normal (only [] []) m') := by
  kernel_rfl

theorem pok38_10004 : PieceOK Try.prog E38 Lam38 (((secsOf (bodyOf Try.f38)).filter Lam38.cut).getD 4 .skip) := by
  refine ⟨fun σ => ∃ x_0 x_59, σ 0 = .flat (.int .i64 x_0) ∧ σ 59 = .flat (.bool x_59), [0, 59], lxp38_10004, fun σ m k => ?_⟩
  have e : Lam38.piece (((secsOf (bodyOf Try.f38)).filter Lam38.cut).getD 4 .skip) σ m k = LamP38_10004 σ m k := by kernel_rfl
  rw [e]
  constructor
  · intro h
    unfold LamP38_10004 at h
    obtain ⟨x_0, h0, h⟩ := kI_ok h
    obtain ⟨x_59, h1, h⟩ := kbool_ok h
    refine ⟨⟨x_0, x_59, h0, h1⟩, ?_⟩
    have ev : [0, 59].map σ = [(.flat (.int .i64 x_0)), (.flat (.bool x_59))] := by simp only [List.map_cons, List.map_nil, h0, h1]
    rw [ev, pc38_10004]
    exact h
  · rintro ⟨⟨x_0, x_59, h0, h1⟩, h⟩
    have ev : [0, 59].map σ = [(.flat (.int .i64 x_0)), (.flat (.bool x_59))] := by simp only [List.map_cons, List.map_nil, h0, h1]
    rw [ev, pc38_10004] at h
    unfold LamP38_10004
    try simp only [h0, h1, kI, kbool, kS, kptr, kaggN, kite, decide_true, eq_self]
    exact h

def lxp38_8004 : Ex → List Nat := fun e => match e with
  | .ret => [2]
  | .normal => []
  | _ => []

theorem pc38_8004 (x_0 : Int) (x_48 : Bool) (m : Mem) (k : KX) : once Try.prog E38 Lam38 [0, 48] lxp38_8004 (((secsOf (bodyOf Try.f38)).filter Lam38.cut).getD 3 .skip) [(.flat (.int .i64 x_0)), (.flat (.bool x_48))] m k = P38_8004 x_0 x_48 m (fun x_2' m' => k .ret (only [2] [(.flat (.int .i64 x_2'))]) m') (fun m' => k .normal (only [] []) m') := by
  kernel_rfl

theorem pok38_8004 : PieceOK Try.prog E38 Lam38 (((secsOf (bodyOf Try.f38)).filter Lam38.cut).getD 3 .skip) := by
  refine ⟨fun σ => ∃ x_0 x_48, σ 0 = .flat (.int .i64 x_0) ∧ σ 48 = .flat (.bool x_48), [0, 48], lxp38_8004, fun σ m k => ?_⟩
  have e : Lam38.piece (((secsOf (bodyOf Try.f38)).filter Lam38.cut).getD 3 .skip) σ m k = LamP38_8004 σ m k := by kernel_rfl
  rw [e]
  constructor
  · intro h
    unfold LamP38_8004 at h
    obtain ⟨x_0, h0, h⟩ := kI_ok h
    obtain ⟨x_48, h1, h⟩ := kbool_ok h
    refine ⟨⟨x_0, x_48, h0, h1⟩, ?_⟩
    have ev : [0, 48].map σ = [(.flat (.int .i64 x_0)), (.flat (.bool x_48))] := by simp only [List.map_cons, List.map_nil, h0, h1]
    rw [ev, pc38_8004]
    exact h
  · rintro ⟨⟨x_0, x_48, h0, h1⟩, h⟩
    have ev : [0, 48].map σ = [(.flat (.int .i64 x_0)), (.flat (.bool x_48))] := by simp only [List.map_cons, List.map_nil, h0, h1]
    rw [ev, pc38_8004] at h
    unfold LamP38_8004
    try simp only [h0, h1, kI, kbool, kS, kptr, kaggN, kite, decide_true, eq_self]
    exact h

def lxp38_6004 : Ex → List Nat := fun e => match e with
  | .ret => [2]
  | .normal => []
  | _ => []

theorem pc38_6004 (x_0 : Int) (x_37 : Bool) (m : Mem) (k : KX) : once Try.prog E38 Lam38 [0, 37] lxp38_6004 (((secsOf (bodyOf Try.f38)).filter Lam38.cut).getD 2 .skip) [(.flat (.int .i64 x_0)), (.flat (.bool x_37))] m k = P38_6004 x_0 x_37 m (fun x_2' m' => k .ret (only [2] [(.flat (.int .i64 x_2'))]) m') (fun m' => k .normal (only [] []) m') := by
  kernel_rfl

theorem pok38_6004 : PieceOK Try.prog E38 Lam38 (((secsOf (bodyOf Try.f38)).filter Lam38.cut).getD 2 .skip) := by
  refine ⟨fun σ => ∃ x_0 x_37, σ 0 = .flat (.int .i64 x_0) ∧ σ 37 = .flat (.bool x_37), [0, 37], lxp38_6004, fun σ m k => ?_⟩
  have e : Lam38.piece (((secsOf (bodyOf Try.f38)).filter Lam38.cut).getD 2 .skip) σ m k = LamP38_6004 σ m k := by kernel_rfl
  rw [e]
  constructor
  · intro h
    unfold LamP38_6004 at h
    obtain ⟨x_0, h0, h⟩ := kI_ok h
    obtain ⟨x_37, h1, h⟩ := kbool_ok h
    refine ⟨⟨x_0, x_37, h0, h1⟩, ?_⟩
    have ev : [0, 37].map σ = [(.flat (.int .i64 x_0)), (.flat (.bool x_37))] := by simp only [List.map_cons, List.map_nil, h0, h1]
    rw [ev, pc38_6004]
    exact h
  · rintro ⟨⟨x_0, x_37, h0, h1⟩, h⟩
    have ev : [0, 37].map σ = [(.flat (.int .i64 x_0)), (.flat (.bool x_37))] := by simp only [List.map_cons, List.map_nil, h0, h1]
    rw [ev, pc38_6004] at h
    unfold LamP38_6004
    try simp only [h0, h1, kI, kbool, kS, kptr, kaggN, kite, decide_true, eq_self]
    exact h

def lxp38_4004 : Ex → List Nat := fun e => match e with
  | .ret => [2]
  | .normal => []
  | _ => []

theorem pc38_4004 (x_0 : Int) (x_10 : Bool) (m : Mem) (k : KX) : once Try.prog E38 Lam38 [0, 10] lxp38_4004 (((secsOf (bodyOf Try.f38)).filter Lam38.cut).getD 1 .skip) [(.flat (.int .i64 x_0)), (.flat (.bool x_10))] m k = P38_4004 x_0 x_10 m (fun x_2' m' => k .ret (only [2] [(.flat (.int .i64 x_2'))]) m') (fun m' => k .normal (only [] []) m') := by
  kernel_rfl

theorem pok38_4004 : PieceOK Try.prog E38 Lam38 (((secsOf (bodyOf Try.f38)).filter Lam38.cut).getD 1 .skip) := by
  refine ⟨fun σ => ∃ x_0 x_10, σ 0 = .flat (.int .i64 x_0) ∧ σ 10 = .flat (.bool x_10), [0, 10], lxp38_4004, fun σ m k => ?_⟩
  have e : Lam38.piece (((secsOf (bodyOf Try.f38)).filter Lam38.cut).getD 1 .skip) σ m k = LamP38_4004 σ m k := by kernel_rfl
  rw [e]
  constructor
  · intro h
    unfold LamP38_4004 at h
    obtain ⟨x_0, h0, h⟩ := kI_ok h
    obtain ⟨x_10, h1, h⟩ := kbool_ok h
    refine ⟨⟨x_0, x_10, h0, h1⟩, ?_⟩
    have ev : [0, 10].map σ = [(.flat (.int .i64 x_0)), (.flat (.bool x_10))] := by simp only [List.map_cons, List.map_nil, h0, h1]
    rw [ev, pc38_4004]
    exact h
  · rintro ⟨⟨x_0, x_10, h0, h1⟩, h⟩
    have ev : [0, 10].map σ = [(.flat (.int .i64 x_0)), (.flat (.bool x_10))] := by simp only [List.map_cons, List.map_nil, h0, h1]
    rw [ev, pc38_4004] at h
    unfold LamP38_4004
    try simp only [h0, h1, kI, kbool, kS, kptr, kaggN, kite, decide_true, eq_self]
    exact h

def lxp38_2004 : Ex → List Nat := fun e => match e with
  | .ret => [2]
  | .normal => []
  | _ => []

theorem pc38_2004 (x_0 : Int) (x_3 : Bool) (m : Mem) (k : KX) : once Try.prog E38 Lam38 [0, 3] lxp38_2004 (((secsOf (bodyOf Try.f38)).filter Lam38.cut).getD 0 .skip) [(.flat (.int .i64 x_0)), (.flat (.bool x_3))] m k = P38_2004 x_0 x_3 m (fun x_2' m' => k .ret (only [2] [(.flat (.int .i64 x_2'))]) m') (fun m' => k .normal (only [] []) m') := by
  kernel_rfl

theorem pok38_2004 : PieceOK Try.prog E38 Lam38 (((secsOf (bodyOf Try.f38)).filter Lam38.cut).getD 0 .skip) := by
  refine ⟨fun σ => ∃ x_0 x_3, σ 0 = .flat (.int .i64 x_0) ∧ σ 3 = .flat (.bool x_3), [0, 3], lxp38_2004, fun σ m k => ?_⟩
  have e : Lam38.piece (((secsOf (bodyOf Try.f38)).filter Lam38.cut).getD 0 .skip) σ m k = LamP38_2004 σ m k := by kernel_rfl
  rw [e]
  constructor
  · intro h
    unfold LamP38_2004 at h
    obtain ⟨x_0, h0, h⟩ := kI_ok h
    obtain ⟨x_3, h1, h⟩ := kbool_ok h
    refine ⟨⟨x_0, x_3, h0, h1⟩, ?_⟩
    have ev : [0, 3].map σ = [(.flat (.int .i64 x_0)), (.flat (.bool x_3))] := by simp only [List.map_cons, List.map_nil, h0, h1]
    rw [ev, pc38_2004]
    exact h
  · rintro ⟨⟨x_0, x_3, h0, h1⟩, h⟩
    have ev : [0, 3].map σ = [(.flat (.int .i64 x_0)), (.flat (.bool x_3))] := by simp only [List.map_cons, List.map_nil, h0, h1]
    rw [ev, pc38_2004] at h
    unfold LamP38_2004
    try simp only [h0, h1, kI, kbool, kS, kptr, kaggN, kite, decide_true, eq_self]
    exact h

theorem eqn38 (x_0 : Int) (m : Mem) (k : KV) : bodyK Try.prog E38 Lam38 Try.f38 true [(.flat (.int .i64 x_0))] m k = F38 x_0 m (fun x_1000 m' => k (.flat (.int .i64 x_1000)) m') := by
  kernel_rfl

theorem fs38 (w0 : World) : FS Try.prog w0 38 G38 := by
  refine (fs_body (Γ := E38) (sound_env (l := []) w0 (by
    intro p hp
    cases hp)) (by kernel_rfl) Try.func38 (Λ := Lam38) (c := (bodyOf Try.f38)) (by kernel_rfl) Try.call38 (by kernel_rfl) (LS_of (bodyOf Try.f38) 0 (by kernel_rfl) (fun i hi => absurd hi (Nat.not_lt_zero i)) 9 (by kernel_rfl) (by
    intro i hi
    match i, hi with
    | 0, _ => exact pok38_2004
    | 1, _ => exact pok38_4004
    | 2, _ => exact pok38_6004
    | 3, _ => exact pok38_8004
    | 4, _ => exact pok38_10004
    | 5, _ => exact pok38_12004
    | 6, _ => exact pok38_14004
    | 7, _ => exact pok38_16004
    | 8, _ => exact pok38_18004
    | i + 9, hi => omega)) true (np := 1) (Nat.le_of_ble_eq_true (by kernel_rfl))).imp fun args => ?_
  by_cases hl : args.length = 1
  rotate_left
  · exact .inr fun m k hk => by
      unfold G38 at hk
      split at hk
      · exact hl rfl
      · exact hk
  obtain ⟨a0, rfl⟩ : ∃ a0, args = [a0] := len_list1 hl
  rcases kI_or .i64 a0 with ⟨x_0, rfl⟩ | h
  rotate_left
  · exact .inr fun m k hk => h _ (by simpa only [G38, kI, kbool, kS, kptr, kaggN, kite, decide_true, eq_self] using hk)
  exact .inl fun m k => propext ⟨fun h => ⟨rfl, by rw [eqn38]; simpa only [G38, kI, kbool, kS, kptr, kaggN, kite, decide_true, eq_self] using h⟩, fun h => by have h := h.2; rw [eqn38] at h; simpa only [G38, kI, kbool, kS, kptr, kaggN, kite, decide_true, eq_self] using h⟩

def P36_11105 (x_1 : Int) (b_4 o_4 : Nat) (b_5 o_5 : Nat) (x_6 : Int) (m : Mem) (kr : Mem → Prop) : Prop :=
  kif ((bits .and .i64 x_6 16) != 0) (stC m b_5 (o_5 + 5) (.flat (.int .u32 (bits .and .u32 x_1 65535))) fun m12 => ldG 6 m12 b_5 o_5 fun c14 => stG 6 m12 b_4 o_4 c14 fun m15 => kr  m15) (kif ((bits .and .i64 x_6 32) != 0) (stC m b_5 (o_5 + 5) (.flat (.int .u32 (bits .and .u32 x_1 67108863))) fun m13 => ldG 6 m13 b_5 o_5 fun c16 => stG 6 m13 b_4 o_4 c16 fun m17 => kr  m17) (ldG 6 m b_5 o_5 fun c18 => stG 6 m b_4 o_4 c18 fun m19 => kr  m19))

def P36_9103 (x_1 : Int) (b_4 o_4 : Nat) (b_5 o_5 : Nat) (x_6 : Int) (m : Mem) (kr : Mem → Prop) : Prop :=
  kif ((bits .and .i64 x_6 8) != 0) (stC m b_5 (o_5 + 4) (.flat (.int .i64 (IntKind.wrap .i64 (bits .and .u32 (x_1.fdiv 64) 31)))) fun m11 => P36_11105 x_1 b_4 o_4 b_5 o_5 x_6 m11 (fun m20 => kr  m20)) (P36_11105 x_1 b_4 o_4 b_5 o_5 x_6 m (fun m21 => kr  m21))

def P36_7103 (x_1 : Int) (b_4 o_4 : Nat) (b_5 o_5 : Nat) (x_6 : Int) (m : Mem) (kr : Mem → Prop) : Prop :=
  kif ((bits .and .i64 x_6 4) != 0) (stC m b_5 (o_5 + 3) (.flat (.int .i64 (IntKind.wrap .i64 (bits .and .u32 (x_1.fdiv 2048) 31)))) fun m10 => P36_9103 x_1 b_4 o_4 b_5 o_5 x_6 m10 (fun m22 => kr  m22)) (P36_9103 x_1 b_4 o_4 b_5 o_5 x_6 m (fun m23 => kr  m23))

def P36_5103 (x_1 : Int) (b_4 o_4 : Nat) (b_5 o_5 : Nat) (x_6 : Int) (m : Mem) (kr : Mem → Prop) : Prop :=
  kif ((bits .and .i64 x_6 2) != 0) (stC m b_5 (o_5 + 2) (.flat (.int .i64 (IntKind.wrap .i64 (bits .and .u32 (x_1.fdiv 65536) 31)))) fun m9 => P36_7103 x_1 b_4 o_4 b_5 o_5 x_6 m9 (fun m24 => kr  m24)) (P36_7103 x_1 b_4 o_4 b_5 o_5 x_6 m (fun m25 => kr  m25))

/-- pianola/decode.with -/
def F36 (x_0 : Int) (x_1 : Int) (m : Mem) (k : (Nat → AV) → Mem → Prop) : Prop :=
  newK m ⟨6, Z6, 25, false⟩ fun b2 m1 => newK m1 ⟨6, Z6, 25, false⟩ fun b4 m3 => stG 6 m3 b4 0 (upd (Z6) 0 (.flat (.int .i64 x_0))) fun m5 => F38 x_0 m5 fun x6 m7 => kif ((bits .and .i64 x6 1) != 0) (stC m7 b4 1 (.flat (.int .i64 (IntKind.wrap .i64 (bits .and .u32 (x_1.fdiv 2097152) 31)))) fun m8 => P36_5103 x_1 b2 0 b4 0 x6 m8 (fun m26 => ldG 6 m26 b2 0 fun c28 => (Keeps m m26 ∧ InDomG 6 m c28 ∧ k c28 m))) (P36_5103 x_1 b2 0 b4 0 x6 m7 (fun m27 => ldG 6 m27 b2 0 fun c29 => (Keeps m m27 ∧ InDomG 6 m c29 ∧ k c29 m)))

def G36 (args : List AV) (m : Mem) (k : KV) : Prop := match args with
  | [a0, a1] => kI .i64 a0 fun x_0 => kI .u32 a1 fun x_1 => F36 x_0 x_1 m (fun c_1000 m' => k (.agg 6 c_1000) m')
  | _ => False

def E36 : Env := envOf [(38, G38)]

def LamP36_5103 (σ : Nat → AV) (m : Mem) (k : KX) : Prop := kI .u32 (σ 1) fun x_1 => kptr (σ 4) fun b_4 o_4 => kptr (σ 5) fun b_5 o_5 => kI .i64 (σ 6) fun x_6 => P36_5103 x_1 b_4 o_4 b_5 o_5 x_6 m (fun m' => k .ret (only [4] [(.ptr b_4 o_4)]) m')

def LamP36_7103 (σ : Nat → AV) (m : Mem) (k : KX) : Prop := kI .u32 (σ 1) fun x_1 => kptr (σ 4) fun b_4 o_4 => kptr (σ 5) fun b_5 o_5 => kI .i64 (σ 6) fun x_6 => P36_7103 x_1 b_4 o_4 b_5 o_5 x_6 m (fun m' => k .ret (only [4] [(.ptr b_4 o_4)]) m')

def LamP36_9103 (σ : Nat → AV) (m : Mem) (k : KX) : Prop := kI .u32 (σ 1) fun x_1 => kptr (σ 4) fun b_4 o_4 => kptr (σ 5) fun b_5 o_5 => kI .i64 (σ 6) fun x_6 => P36_9103 x_1 b_4 o_4 b_5 o_5 x_6 m (fun m' => k .ret (only [4] [(.ptr b_4 o_4)]) m')

def LamP36_11105 (σ : Nat → AV) (m : Mem) (k : KX) : Prop := kI .u32 (σ 1) fun x_1 => kptr (σ 4) fun b_4 o_4 => kptr (σ 5) fun b_5 o_5 => kI .i64 (σ 6) fun x_6 => P36_11105 x_1 b_4 o_4 b_5 o_5 x_6 m (fun m' => k .ret (only [4] [(.ptr b_4 o_4)]) m')

def Lam36 : LEnv := ⟨fun a σ m k => match firstReg a with
  | _ => bump False,
  fun id => match id with
  | _ => bump false,
  fun b => match keyC b with
  | some 5103 => true
  | some 7103 => true
  | some 9103 => true
  | some 11105 => true
  | _ => bump false,
  fun b σ m k => match keyC b with
  | some 5103 => LamP36_5103 σ m k
  | some 7103 => LamP36_7103 σ m k
  | some 9103 => LamP36_9103 σ m k
  | some 11105 => LamP36_11105 σ m k
  | _ => bump False⟩

def lxp36_11105 : Ex → List Nat := fun e => match e with
  | .ret => [4]
  | _ => []

theorem pc36_11105 (x_1 : Int) (b_4 o_4 : Nat) (b_5 o_5 : Nat) (x_6 : Int) (m : Mem) (k : KX) : once Try.prog E36 Lam36 [1, 4, 5, 6] lxp36_11105 (((secsOf (bodyOf Try.f36)).filter Lam36.cut).getD 3 .skip) [(.flat (.int .u32 x_1)), (.ptr b_4 o_4), (.ptr b_5 o_5), (.flat (.int .i64 x_6))] m k = P36_11105 x_1 b_4 o_4 b_5 o_5 x_6 m (fun m' => k .ret (only [4] [(.ptr b_4 o_4)]) m') := by
  kernel_rfl

theorem pok36_11105 : PieceOK Try.prog E36 Lam36 (((secsOf (bodyOf Try.f36)).filter Lam36.cut).getD 3 .skip) := by
  refine ⟨fun σ => ∃ x_1 b_4 o_4 b_5 o_5 x_6, σ 1 = .flat (.int .u32 x_1) ∧ σ 4 = .ptr b_4 o_4 ∧ σ 5 = .ptr b_5 o_5 ∧ σ 6 = .flat (.int .i64 x_6), [1, 4, 5, 6], lxp36_11105, fun σ m k => ?_⟩
  have e : Lam36.piece (((secsOf (bodyOf Try.f36)).filter Lam36.cut).getD 3 .skip) σ m k = LamP36_11105 σ m k := by kernel_rfl
  rw [e]
  constructor
  · intro h
    unfold LamP36_11105 at h
    obtain ⟨x_1, h0, h⟩ := kI_ok h
    obtain ⟨b_4, o_4, h1, h⟩ := kptr_ok h
    obtain ⟨b_5, o_5, h2, h⟩ := kptr_ok h
    obtain ⟨x_6, h3, h⟩ := kI_ok h
    refine ⟨⟨x_1, b_4, o_4, b_5, o_5, x_6, h0, h1, h2, h3⟩, ?_⟩
    have ev : [1, 4, 5, 6].map σ = [(.flat (.int .u32 x_1)), (.ptr b_4 o_4), (.ptr b_5 o_5), (.flat (.int .i64 x_6))] := by simp only [List.map_cons, List.map_nil, h0, h1, h2, h3]
    rw [ev, pc36_11105]
    exact h
  · rintro ⟨⟨x_1, b_4, o_4, b_5, o_5, x_6, h0, h1, h2, h3⟩, h⟩
    have ev : [1, 4, 5, 6].map σ = [(.flat (.int .u32 x_1)), (.ptr b_4 o_4), (.ptr b_5 o_5), (.flat (.int .i64 x_6))] := by simp only [List.map_cons, List.map_nil, h0, h1, h2, h3]
    rw [ev, pc36_11105] at h
    unfold LamP36_11105
    try simp only [h0, h1, h2, h3, kI, kbool, kS, kptr, kaggN, kite, decide_true, eq_self]
    exact h

def lxp36_9103 : Ex → List Nat := fun e => match e with
  | .ret => [4]
  | _ => []

theorem pc36_9103 (x_1 : Int) (b_4 o_4 : Nat) (b_5 o_5 : Nat) (x_6 : Int) (m : Mem) (k : KX) : once Try.prog E36 Lam36 [1, 4, 5, 6] lxp36_9103 (((secsOf (bodyOf Try.f36)).filter Lam36.cut).getD 2 .skip) [(.flat (.int .u32 x_1)), (.ptr b_4 o_4), (.ptr b_5 o_5), (.flat (.int .i64 x_6))] m k = P36_9103 x_1 b_4 o_4 b_5 o_5 x_6 m (fun m' => k .ret (only [4] [(.ptr b_4 o_4)]) m') := by
  kernel_rfl

theorem pok36_9103 : PieceOK Try.prog E36 Lam36 (((secsOf (bodyOf Try.f36)).filter Lam36.cut).getD 2 .skip) := by
  refine ⟨fun σ => ∃ x_1 b_4 o_4 b_5 o_5 x_6, σ 1 = .flat (.int .u32 x_1) ∧ σ 4 = .ptr b_4 o_4 ∧ σ 5 = .ptr b_5 o_5 ∧ σ 6 = .flat (.int .i64 x_6), [1, 4, 5, 6], lxp36_9103, fun σ m k => ?_⟩
  have e : Lam36.piece (((secsOf (bodyOf Try.f36)).filter Lam36.cut).getD 2 .skip) σ m k = LamP36_9103 σ m k := by kernel_rfl
  rw [e]
  constructor
  · intro h
    unfold LamP36_9103 at h
    obtain ⟨x_1, h0, h⟩ := kI_ok h
    obtain ⟨b_4, o_4, h1, h⟩ := kptr_ok h
    obtain ⟨b_5, o_5, h2, h⟩ := kptr_ok h
    obtain ⟨x_6, h3, h⟩ := kI_ok h
    refine ⟨⟨x_1, b_4, o_4, b_5, o_5, x_6, h0, h1, h2, h3⟩, ?_⟩
    have ev : [1, 4, 5, 6].map σ = [(.flat (.int .u32 x_1)), (.ptr b_4 o_4), (.ptr b_5 o_5), (.flat (.int .i64 x_6))] := by simp only [List.map_cons, List.map_nil, h0, h1, h2, h3]
    rw [ev, pc36_9103]
    exact h
  · rintro ⟨⟨x_1, b_4, o_4, b_5, o_5, x_6, h0, h1, h2, h3⟩, h⟩
    have ev : [1, 4, 5, 6].map σ = [(.flat (.int .u32 x_1)), (.ptr b_4 o_4), (.ptr b_5 o_5), (.flat (.int .i64 x_6))] := by simp only [List.map_cons, List.map_nil, h0, h1, h2, h3]
    rw [ev, pc36_9103] at h
    unfold LamP36_9103
    try simp only [h0, h1, h2, h3, kI, kbool, kS, kptr, kaggN, kite, decide_true, eq_self]
    exact h

def lxp36_7103 : Ex → List Nat := fun e => match e with
  | .ret => [4]
  | _ => []

theorem pc36_7103 (x_1 : Int) (b_4 o_4 : Nat) (b_5 o_5 : Nat) (x_6 : Int) (m : Mem) (k : KX) : once Try.prog E36 Lam36 [1, 4, 5, 6] lxp36_7103 (((secsOf (bodyOf Try.f36)).filter Lam36.cut).getD 1 .skip) [(.flat (.int .u32 x_1)), (.ptr b_4 o_4), (.ptr b_5 o_5), (.flat (.int .i64 x_6))] m k = P36_7103 x_1 b_4 o_4 b_5 o_5 x_6 m (fun m' => k .ret (only [4] [(.ptr b_4 o_4)]) m') := by
  kernel_rfl

theorem pok36_7103 : PieceOK Try.prog E36 Lam36 (((secsOf (bodyOf Try.f36)).filter Lam36.cut).getD 1 .skip) := by
  refine ⟨fun σ => ∃ x_1 b_4 o_4 b_5 o_5 x_6, σ 1 = .flat (.int .u32 x_1) ∧ σ 4 = .ptr b_4 o_4 ∧ σ 5 = .ptr b_5 o_5 ∧ σ 6 = .flat (.int .i64 x_6), [1, 4, 5, 6], lxp36_7103, fun σ m k => ?_⟩
  have e : Lam36.piece (((secsOf (bodyOf Try.f36)).filter Lam36.cut).getD 1 .skip) σ m k = LamP36_7103 σ m k := by kernel_rfl
  rw [e]
  constructor
  · intro h
    unfold LamP36_7103 at h
    obtain ⟨x_1, h0, h⟩ := kI_ok h
    obtain ⟨b_4, o_4, h1, h⟩ := kptr_ok h
    obtain ⟨b_5, o_5, h2, h⟩ := kptr_ok h
    obtain ⟨x_6, h3, h⟩ := kI_ok h
    refine ⟨⟨x_1, b_4, o_4, b_5, o_5, x_6, h0, h1, h2, h3⟩, ?_⟩
    have ev : [1, 4, 5, 6].map σ = [(.flat (.int .u32 x_1)), (.ptr b_4 o_4), (.ptr b_5 o_5), (.flat (.int .i64 x_6))] := by simp only [List.map_cons, List.map_nil, h0, h1, h2, h3]
    rw [ev, pc36_7103]
    exact h
  · rintro ⟨⟨x_1, b_4, o_4, b_5, o_5, x_6, h0, h1, h2, h3⟩, h⟩
    have ev : [1, 4, 5, 6].map σ = [(.flat (.int .u32 x_1)), (.ptr b_4 o_4), (.ptr b_5 o_5), (.flat (.int .i64 x_6))] := by simp only [List.map_cons, List.map_nil, h0, h1, h2, h3]
    rw [ev, pc36_7103] at h
    unfold LamP36_7103
    try simp only [h0, h1, h2, h3, kI, kbool, kS, kptr, kaggN, kite, decide_true, eq_self]
    exact h

def lxp36_5103 : Ex → List Nat := fun e => match e with
  | .ret => [4]
  | _ => []

theorem pc36_5103 (x_1 : Int) (b_4 o_4 : Nat) (b_5 o_5 : Nat) (x_6 : Int) (m : Mem) (k : KX) : once Try.prog E36 Lam36 [1, 4, 5, 6] lxp36_5103 (((secsOf (bodyOf Try.f36)).filter Lam36.cut).getD 0 .skip) [(.flat (.int .u32 x_1)), (.ptr b_4 o_4), (.ptr b_5 o_5), (.flat (.int .i64 x_6))] m k = P36_5103 x_1 b_4 o_4 b_5 o_5 x_6 m (fun m' => k .ret (only [4] [(.ptr b_4 o_4)]) m') := by
  kernel_rfl

theorem pok36_5103 : PieceOK Try.prog E36 Lam36 (((secsOf (bodyOf Try.f36)).filter Lam36.cut).getD 0 .skip) := by
  refine ⟨fun σ => ∃ x_1 b_4 o_4 b_5 o_5 x_6, σ 1 = .flat (.int .u32 x_1) ∧ σ 4 = .ptr b_4 o_4 ∧ σ 5 = .ptr b_5 o_5 ∧ σ 6 = .flat (.int .i64 x_6), [1, 4, 5, 6], lxp36_5103, fun σ m k => ?_⟩
  have e : Lam36.piece (((secsOf (bodyOf Try.f36)).filter Lam36.cut).getD 0 .skip) σ m k = LamP36_5103 σ m k := by kernel_rfl
  rw [e]
  constructor
  · intro h
    unfold LamP36_5103 at h
    obtain ⟨x_1, h0, h⟩ := kI_ok h
    obtain ⟨b_4, o_4, h1, h⟩ := kptr_ok h
    obtain ⟨b_5, o_5, h2, h⟩ := kptr_ok h
    obtain ⟨x_6, h3, h⟩ := kI_ok h
    refine ⟨⟨x_1, b_4, o_4, b_5, o_5, x_6, h0, h1, h2, h3⟩, ?_⟩
    have ev : [1, 4, 5, 6].map σ = [(.flat (.int .u32 x_1)), (.ptr b_4 o_4), (.ptr b_5 o_5), (.flat (.int .i64 x_6))] := by simp only [List.map_cons, List.map_nil, h0, h1, h2, h3]
    rw [ev, pc36_5103]
    exact h
  · rintro ⟨⟨x_1, b_4, o_4, b_5, o_5, x_6, h0, h1, h2, h3⟩, h⟩
    have ev : [1, 4, 5, 6].map σ = [(.flat (.int .u32 x_1)), (.ptr b_4 o_4), (.ptr b_5 o_5), (.flat (.int .i64 x_6))] := by simp only [List.map_cons, List.map_nil, h0, h1, h2, h3]
    rw [ev, pc36_5103] at h
    unfold LamP36_5103
    try simp only [h0, h1, h2, h3, kI, kbool, kS, kptr, kaggN, kite, decide_true, eq_self]
    exact h

theorem eqn36 (x_0 : Int) (x_1 : Int) (m : Mem) (k : KV) : bodyK Try.prog E36 Lam36 Try.f36 true [(.flat (.int .i64 x_0)), (.flat (.int .u32 x_1))] m k = F36 x_0 x_1 m (fun c_1000 m' => k (.agg 6 c_1000) m') := by
  kernel_rfl

theorem fs36 (w0 : World) : FS Try.prog w0 36 G36 := by
  refine (fs_body (Γ := E36) (sound_env (l := [(38, G38)]) w0 (by
    intro p hp
    simp only [List.mem_cons, List.not_mem_nil, or_false] at hp
    rcases hp with rfl
    · exact fs38 w0)) (by kernel_rfl) Try.func36 (Λ := Lam36) (c := (bodyOf Try.f36)) (by kernel_rfl) Try.call36 (by kernel_rfl) (LS_of (bodyOf Try.f36) 0 (by kernel_rfl) (fun i hi => absurd hi (Nat.not_lt_zero i)) 4 (by kernel_rfl) (by
    intro i hi
    match i, hi with
    | 0, _ => exact pok36_5103
    | 1, _ => exact pok36_7103
    | 2, _ => exact pok36_9103
    | 3, _ => exact pok36_11105
    | i + 4, hi => omega)) true (np := 2) (Nat.le_of_ble_eq_true (by kernel_rfl))).imp fun args => ?_
  by_cases hl : args.length = 2
  rotate_left
  · exact .inr fun m k hk => by
      unfold G36 at hk
      split at hk
      · exact hl rfl
      · exact hk
  obtain ⟨a0, a1, rfl⟩ : ∃ a0 a1, args = [a0, a1] := len_list2 hl
  rcases kI_or .i64 a0 with ⟨x_0, rfl⟩ | h
  rotate_left
  · exact .inr fun m k hk => h _ (by simpa only [G36, kI, kbool, kS, kptr, kaggN, kite, decide_true, eq_self] using hk)
  rcases kI_or .u32 a1 with ⟨x_1, rfl⟩ | h
  rotate_left
  · exact .inr fun m k hk => h _ (by simpa only [G36, kI, kbool, kS, kptr, kaggN, kite, decide_true, eq_self] using hk)
  exact .inl fun m k => propext ⟨fun h => ⟨rfl, by rw [eqn36]; simpa only [G36, kI, kbool, kS, kptr, kaggN, kite, decide_true, eq_self] using h⟩, fun h => by have h := h.2; rw [eqn36] at h; simpa only [G36, kI, kbool, kS, kptr, kaggN, kite, decide_true, eq_self] using h⟩

def R29_2 (b_1 o_1 : Nat) (v_13 : AV) (x_14 : Int) (x_15 : Int) (m : Mem) (kn : Int → Mem → Prop) (k0 : Mem → Prop) (kr : Bool → Mem → Prop) : Prop :=
  kif (decide (x_15 < x_14)) (ksl v_13 fun b9 o10 l11 p12 => kif (decide (0 ≤ x_15) && decide (x_15 < l11)) (ldI .i64 m b9 (o10 + (x_15).toNat * 1) fun x13 => kif (decide (x13 < 0)) (kr false m) (kif (decide (x13 > 31)) (kr false m) (kn (IntKind.wrap .i64 (x_15 + 1)) m))) False) (k0  m)

def L29_2 (b_1 o_1 : Nat) (v_13 : AV) (x_14 : Int) : Nat → Int → Mem → (Mem → Prop) → (Bool → Mem → Prop) → Prop
  | 0, _,  _, _, _ => bump False
  | N + 1, x_15,  m, k0, kr => R29_2 b_1 o_1 v_13 x_14 x_15 m (fun x_15' m' => L29_2 b_1 o_1 v_13 x_14 N x_15' m' k0 kr) k0 kr

/-- pianola/decode.Right -/
def F29 (c_0 : Nat → AV) (m : Mem) (k : Bool → Mem → Prop) : Prop :=
  newK m ⟨6, c_0, 25, false⟩ fun b2 m1 => ldI .i64 m1 b2 1 fun x3 => ldI .i64 m1 b2 2 fun x4 => ldI .i64 m1 b2 3 fun x5 => ldI .i64 m1 b2 4 fun x6 => newK m1 ⟨4, upd (upd (upd (upd (lget [(.flat (.int .i64 0)), (.flat (.int .i64 0)), (.flat (.int .i64 0)), (.flat (.int .i64 0))]) 0 (.flat (.int .i64 x3))) 1 (.flat (.int .i64 x4))) 2 (.flat (.int .i64 x5))) 3 (.flat (.int .i64 x6)), 3, false⟩ fun b8 m7 => ∃ N17, L29_2 b2 0 (.sl b8 0 4 (.ex 4)) 4 N17 0 m7 (fun m14 => ∃ Fr18 : Nat → Prop, Fr18 b2 ∧ (ldI .i64 m14 b2 0 fun x19 => kif (decide (x19 > 0)) (Fr18 b2 ∧ (ldI .i64 m14 b2 0 fun x20 => kif (decide (x20 < 78)) (Fr18 b2 ∧ (ldI .u32 m14 b2 5 fun x21 => kif (decide (x21 ≤ 67108863)) (Fr18 b2 ∧ (ldI .i64 m14 b2 0 fun x22 => Fr18 b2 ∧ (ldG 6 m14 b2 0 fun c23 => F31 c23 m14 fun x24 m25 => KeepsIn Fr18 m14 m25 ∧ (F36 x22 x24 m25 fun c26 m27 => KeepsIn Fr18 m25 m27 ∧ (Fr18 b2 ∧ (ldG 6 m27 b2 0 fun c28 => geq K25 c26 c28 fun x29 => (Keeps m m27 ∧ k x29 m))))))) ((Keeps m m14 ∧ k false m)))) ((Keeps m m14 ∧ k false m)))) ((Keeps m m14 ∧ k false m)))) (fun x15 m16 => (Keeps m m16 ∧ k x15 m))

def G29 (args : List AV) (m : Mem) (k : KV) : Prop := match args with
  | [a0] => kaggN 6 a0 fun c_0 => F29 c_0 m (fun x_1000 m' => k (.flat (.bool x_1000)) m')
  | _ => False

def E29 : Env := envOf [(31, G31), (36, G36)]

def Lam29_2 (σ : Nat → AV) (m : Mem) (k : KX) : Prop := kptr (σ 1) fun b_1 o_1 => kI .i64 (σ 14) fun x_14 => kI .i64 (σ 15) fun x_15 => ∃ N, L29_2 b_1 o_1 (σ 13) x_14 N x_15 m (fun m' => k (.exit 0) (only [1] [(.ptr b_1 o_1)]) m') (fun x_2' m' => k .ret (only [2] [(.flat (.bool x_2'))]) m')

def Lam29 : LEnv := ⟨fun a σ m k => match firstReg a with
  | some 2 => Lam29_2 σ m k
  | _ => bump False,
  fun id => match id with
  | 7 => true
  | _ => bump false,
  fun b => match keyC b with
  | _ => bump false,
  fun b σ m k => match keyC b with
  | _ => bump False⟩

def lx29_2 : Ex → List Nat := fun e => match e with
  | .exit 0 => [1]
  | .ret => [2]
  | _ => []

theorem round29_2 (b_1 o_1 : Nat) (v_13 : AV) (x_14 : Int) (x_15 : Int) (m : Mem) (G : List AV → Mem → Prop) (k : KX) : (wpA Try.prog E29 Lam29 ((loopsOf (bodyOf Try.f29)).getD 0 .skip) (only [1, 13, 14, 15] [(.ptr b_1 o_1), v_13, (.flat (.int .i64 x_14)), (.flat (.int .i64 x_15))]) m fun e σ' m' => match e with
    | .normal => G ([1, 13, 14, 15].map σ') m'
    | .exit id => k (.exit id) (only (lx29_2 (.exit id)) ((lx29_2 (.exit id)).map σ')) m'
    | .ret => k .ret (only (lx29_2 .ret) ((lx29_2 .ret).map σ')) m') = R29_2 b_1 o_1 v_13 x_14 x_15 m (fun x_15' m' => G [(.ptr b_1 o_1), v_13, (.flat (.int .i64 x_14)), (.flat (.int .i64 x_15'))] m') (fun m' => k (.exit 0) (only [1] [(.ptr b_1 o_1)]) m') (fun x_2' m' => k .ret (only [2] [(.flat (.bool x_2'))]) m') := by
  kernel_rfl

theorem loop29_2 (b_1 o_1 : Nat) (v_13 : AV) (x_14 : Int) (k : KX) : ∀ (N : Nat) (x_15 : Int) (m : Mem), rounds Try.prog E29 Lam29 [1, 13, 14, 15] lx29_2 ((loopsOf (bodyOf Try.f29)).getD 0 .skip) N [(.ptr b_1 o_1), v_13, (.flat (.int .i64 x_14)), (.flat (.int .i64 x_15))] m k = L29_2 b_1 o_1 v_13 x_14 N x_15 m (fun m' => k (.exit 0) (only [1] [(.ptr b_1 o_1)]) m') (fun x_2' m' => k .ret (only [2] [(.flat (.bool x_2'))]) m') := by
  intro N
  induction N with
  | zero => intros; rfl
  | succ N ih =>
    intro x_15 m
    refine (round29_2 b_1 o_1 v_13 x_14 x_15 m (fun vs m' => rounds Try.prog E29 Lam29 [1, 13, 14, 15] lx29_2 ((loopsOf (bodyOf Try.f29)).getD 0 .skip) N vs m' k) k).trans ?_
    simp only [ih]
    rfl

theorem lok29_2 : LoopOK Try.prog E29 Lam29 ((loopsOf (bodyOf Try.f29)).getD 0 .skip) := by
  refine ⟨fun σ => ∃ b_1 o_1 v_13 x_14 x_15, σ 1 = .ptr b_1 o_1 ∧ σ 13 = v_13 ∧ σ 14 = .flat (.int .i64 x_14) ∧ σ 15 = .flat (.int .i64 x_15), [1, 13, 14, 15], lx29_2, fun σ m k => ?_⟩
  have e : Lam29.loop ((loopsOf (bodyOf Try.f29)).getD 0 .skip) σ m k = Lam29_2 σ m k := by kernel_rfl
  rw [e]
  constructor
  · intro h
    unfold Lam29_2 at h
    obtain ⟨b_1, o_1, h0, h⟩ := kptr_ok h
    obtain ⟨v_13, h1⟩ : ∃ v, σ 13 = v := ⟨_, rfl⟩
    obtain ⟨x_14, h2, h⟩ := kI_ok h
    obtain ⟨x_15, h3, h⟩ := kI_ok h
    obtain ⟨N, h⟩ := h
    refine ⟨⟨b_1, o_1, v_13, x_14, x_15, h0, h1, h2, h3⟩, N, ?_⟩
    have ev : [1, 13, 14, 15].map σ = [(.ptr b_1 o_1), v_13, (.flat (.int .i64 x_14)), (.flat (.int .i64 x_15))] := by simp only [List.map_cons, List.map_nil, h0, h1, h2, h3]
    rw [ev, loop29_2]
    simp only [h1] at h
    exact h
  · rintro ⟨⟨b_1, o_1, v_13, x_14, x_15, h0, h1, h2, h3⟩, N, h⟩
    have ev : [1, 13, 14, 15].map σ = [(.ptr b_1 o_1), v_13, (.flat (.int .i64 x_14)), (.flat (.int .i64 x_15))] := by simp only [List.map_cons, List.map_nil, h0, h1, h2, h3]
    rw [ev, loop29_2] at h
    unfold Lam29_2
    try simp only [h0, h1, h2, h3, kI, kbool, kS, kptr, kaggN, kite, decide_true, eq_self]
    exact ⟨N, h⟩

theorem eqn29 (c_0 : Nat → AV) (m : Mem) (k : KV) : bodyK Try.prog E29 Lam29 Try.f29 true [(.agg 6 c_0)] m k = F29 c_0 m (fun x_1000 m' => k (.flat (.bool x_1000)) m') := by
  kernel_rfl

theorem fs29 (w0 : World) : FS Try.prog w0 29 G29 := by
  refine (fs_body (Γ := E29) (sound_env (l := [(31, G31), (36, G36)]) w0 (by
    intro p hp
    simp only [List.mem_cons, List.not_mem_nil, or_false] at hp
    rcases hp with rfl | rfl
    · exact fs31 w0
    · exact fs36 w0)) (by kernel_rfl) Try.func29 (Λ := Lam29) (c := (bodyOf Try.f29)) (by kernel_rfl) Try.call29 (by kernel_rfl) (LS_of (bodyOf Try.f29) 1 (by kernel_rfl) (by
    intro i hi
    match i, hi with
    | 0, _ => exact lok29_2
    | i + 1, hi => omega) 0 (by kernel_rfl) (fun i hi => absurd hi (Nat.not_lt_zero i))) true (np := 1) (Nat.le_of_ble_eq_true (by kernel_rfl))).imp fun args => ?_
  by_cases hl : args.length = 1
  rotate_left
  · exact .inr fun m k hk => by
      unfold G29 at hk
      split at hk
      · exact hl rfl
      · exact hk
  obtain ⟨a0, rfl⟩ : ∃ a0, args = [a0] := len_list1 hl
  rcases kaggN_or 6 a0 with ⟨c_0, rfl⟩ | h
  rotate_left
  · exact .inr fun m k hk => h _ (by simpa only [G29, kI, kbool, kS, kptr, kaggN, kite, decide_true, eq_self] using hk)
  exact .inl fun m k => propext ⟨fun h => ⟨rfl, by rw [eqn29]; simpa only [G29, kI, kbool, kS, kptr, kaggN, kite, decide_true, eq_self] using h⟩, fun h => by have h := h.2; rw [eqn29] at h; simpa only [G29, kI, kbool, kS, kptr, kaggN, kite, decide_true, eq_self] using h⟩

def P39_21004 (x_3 : Int) (x_75 : Bool) (m : Mem) (kr : Int → Mem → Prop) (kn : Mem → Prop) : Prop :=
  kif x_75 (kr (IntKind.wrap .i64 ((IntKind.wrap .i64 (30 + x_3)) - 42)) m) (kif (decide (x_3 ≥ 48)) (kif (decide (x_3 ≤ 54)) (kif ((x_3.tmod 2) == 0) (kr (IntKind.wrap .i64 (32 + (IntKind.wrap .i64 ((IntKind.wrap .i64 (x_3 - 48)).tdiv 2)))) m) (kn  m)) (kn  m)) (kn  m))

def P39_19004 (x_3 : Int) (x_65 : Bool) (m : Mem) (kr : Int → Mem → Prop) (kn : Mem → Prop) : Prop :=
  kif x_65 (kr (IntKind.wrap .i64 ((IntKind.wrap .i64 (22 + x_3)) - 32)) m) (kif (x_3 == 42) (P39_21004 x_3 true m (fun x1 m2 => kr x1 m2) (fun m3 => kn  m3)) (P39_21004 x_3 (x_3 == 43) m (fun x4 m5 => kr x4 m5) (fun m6 => kn  m6)))

def P39_17004 (x_3 : Int) (x_55 : Bool) (m : Mem) (kr : Int → Mem → Prop) (kn : Mem → Prop) : Prop :=
  kif x_55 (kr (IntKind.wrap .i64 ((IntKind.wrap .i64 (18 + x_3)) - 24)) m) (kif (decide (x_3 ≥ 32)) (P39_19004 x_3 (decide (x_3 ≤ 39)) m (fun x7 m8 => kr x7 m8) (fun m9 => kn  m9)) (P39_19004 x_3 false m (fun x10 m11 => kr x10 m11) (fun m12 => kn  m12)))

def P39_15004 (x_3 : Int) (x_45 : Bool) (m : Mem) (kr : Int → Mem → Prop) (kn : Mem → Prop) : Prop :=
  kif x_45 (kr (IntKind.wrap .i64 ((IntKind.wrap .i64 (14 + x_3)) - 16)) m) (kif (decide (x_3 ≥ 24)) (P39_17004 x_3 (decide (x_3 ≤ 27)) m (fun x13 m14 => kr x13 m14) (fun m15 => kn  m15)) (P39_17004 x_3 false m (fun x16 m17 => kr x16 m17) (fun m18 => kn  m18)))

def P39_11004 (x_3 : Int) (x_32 : Bool) (m : Mem) (kr : Int → Mem → Prop) (kn : Mem → Prop) : Prop :=
  kif x_32 (kr (IntKind.wrap .i64 ((IntKind.wrap .i64 (7 + x_3)) - 8)) m) (kif (x_3 == 15) (kr 13 m) (kif (decide (x_3 ≥ 16)) (P39_15004 x_3 (decide (x_3 ≤ 19)) m (fun x19 m20 => kr x19 m20) (fun m21 => kn  m21)) (P39_15004 x_3 false m (fun x22 m23 => kr x22 m23) (fun m24 => kn  m24))))

def P39_9004 (x_3 : Int) (x_22 : Bool) (m : Mem) (kr : Int → Mem → Prop) (kn : Mem → Prop) : Prop :=
  kif x_22 (kr (IntKind.wrap .i64 ((IntKind.wrap .i64 (5 + x_3)) - 6)) m) (kif (decide (x_3 ≥ 8)) (P39_11004 x_3 (decide (x_3 ≤ 13)) m (fun x25 m26 => kr x25 m26) (fun m27 => kn  m27)) (P39_11004 x_3 false m (fun x28 m29 => kr x28 m29) (fun m30 => kn  m30)))

def P39_5004 (x_3 : Int) (x_9 : Bool) (m : Mem) (kr : Int → Mem → Prop) (kn : Mem → Prop) : Prop :=
  kif x_9 (kr (IntKind.wrap .i64 ((IntKind.wrap .i64 (2 + x_3)) - 2)) m) (kif (x_3 == 4) (kr 4 m) (kif (x_3 == 6) (P39_9004 x_3 true m (fun x31 m32 => kr x31 m32) (fun m33 => kn  m33)) (P39_9004 x_3 (x_3 == 7) m (fun x34 m35 => kr x34 m35) (fun m36 => kn  m36))))

/-- pianola/decode.special -/
def F39 (x_0 : Int) (m : Mem) (k : Int → Mem → Prop) : Prop :=
  kif ((IntKind.wrap .i64 x_0) == 0) ((Keeps m m ∧ k 1 m)) (kif ((IntKind.wrap .i64 x_0) == 2) (P39_5004 (IntKind.wrap .i64 x_0) true m (fun x37 m38 => (Keeps m m38 ∧ k x37 m)) (fun m39 => (Keeps m m39 ∧ k 0 m))) (P39_5004 (IntKind.wrap .i64 x_0) ((IntKind.wrap .i64 x_0) == 3) m (fun x40 m41 => (Keeps m m41 ∧ k x40 m)) (fun m42 => (Keeps m m42 ∧ k 0 m))))

def G39 (args : List AV) (m : Mem) (k : KV) : Prop := match args with
  | [a0] => kI .u32 a0 fun x_0 => F39 x_0 m (fun x_1000 m' => k (.flat (.int .i64 x_1000)) m')
  | _ => False

def E39 : Env := envOf []

def LamP39_5004 (σ : Nat → AV) (m : Mem) (k : KX) : Prop := kI .i64 (σ 3) fun x_3 => kbool (σ 9) fun x_9 => P39_5004 x_3 x_9 m (fun x_2' m' => k .ret (only [2] [(.flat (.int .i64 x_2'))]) m') (fun m' => k .normal (only [] []) m')

def LamP39_9004 (σ : Nat → AV) (m : Mem) (k : KX) : Prop := kI .i64 (σ 3) fun x_3 => kbool (σ 22) fun x_22 => P39_9004 x_3 x_22 m (fun x_2' m' => k .ret (only [2] [(.flat (.int .i64 x_2'))]) m') (fun m' => k .normal (only [] []) m')

def LamP39_11004 (σ : Nat → AV) (m : Mem) (k : KX) : Prop := kI .i64 (σ 3) fun x_3 => kbool (σ 32) fun x_32 => P39_11004 x_3 x_32 m (fun x_2' m' => k .ret (only [2] [(.flat (.int .i64 x_2'))]) m') (fun m' => k .normal (only [] []) m')

def LamP39_15004 (σ : Nat → AV) (m : Mem) (k : KX) : Prop := kI .i64 (σ 3) fun x_3 => kbool (σ 45) fun x_45 => P39_15004 x_3 x_45 m (fun x_2' m' => k .ret (only [2] [(.flat (.int .i64 x_2'))]) m') (fun m' => k .normal (only [] []) m')

def LamP39_17004 (σ : Nat → AV) (m : Mem) (k : KX) : Prop := kI .i64 (σ 3) fun x_3 => kbool (σ 55) fun x_55 => P39_17004 x_3 x_55 m (fun x_2' m' => k .ret (only [2] [(.flat (.int .i64 x_2'))]) m') (fun m' => k .normal (only [] []) m')

def LamP39_19004 (σ : Nat → AV) (m : Mem) (k : KX) : Prop := kI .i64 (σ 3) fun x_3 => kbool (σ 65) fun x_65 => P39_19004 x_3 x_65 m (fun x_2' m' => k .ret (only [2] [(.flat (.int .i64 x_2'))]) m') (fun m' => k .normal (only [] []) m')

def LamP39_21004 (σ : Nat → AV) (m : Mem) (k : KX) : Prop := kI .i64 (σ 3) fun x_3 => kbool (σ 75) fun x_75 => P39_21004 x_3 x_75 m (fun x_2' m' => k .ret (only [2] [(.flat (.int .i64 x_2'))]) m') (fun m' => k .normal (only [] []) m')

def Lam39 : LEnv := ⟨fun a σ m k => match firstReg a with
  | _ => bump False,
  fun id => match id with
  | _ => bump false,
  fun b => match keyC b with
  | some 5004 => true
  | some 9004 => true
  | some 11004 => true
  | some 15004 => true
  | some 17004 => true
  | some 19004 => true
  | some 21004 => true
  | _ => bump false,
  fun b σ m k => match keyC b with
  | some 5004 => LamP39_5004 σ m k
  | some 9004 => LamP39_9004 σ m k
  | some 11004 => LamP39_11004 σ m k
  | some 15004 => LamP39_15004 σ m k
  | some 17004 => LamP39_17004 σ m k
  | some 19004 => LamP39_19004 σ m k
  | some 21004 => LamP39_21004 σ m k
  | _ => bump False⟩

def lxp39_21004 : Ex → List Nat := fun e => match e with
  | .ret => [2]
  | .normal => []
  | _ => []

theorem pc39_21004 (x_3 : Int) (x_75 : Bool) (m : Mem) (k : KX) : once Try.prog E39 Lam39 [3, 75] lxp39_21004 (((secsOf (bodyOf Try.f39)).filter Lam39.cut).getD 6 .skip) [(.flat (.int .i64 x_3)), (.flat (.bool x_75))] m k = P39_21004 x_3 x_75 m (fun x_2' m' => k .ret (only [2] [(.flat (.int .i64 x_2'))]) m') (fun m' => k .normal (only [] []) m') := by
  kernel_rfl

theorem pok39_21004 : PieceOK Try.prog E39 Lam39 (((secsOf (bodyOf Try.f39)).filter Lam39.cut).getD 6 .skip) := by
  refine ⟨fun σ => ∃ x_3 x_75, σ 3 = .flat (.int .i64 x_3) ∧ σ 75 = .flat (.bool x_75), [3, 75], lxp39_21004, fun σ m k => ?_⟩
  have e : Lam39.piece (((secsOf (bodyOf Try.f39)).filter Lam39.cut).getD 6 .skip) σ m k = LamP39_21004 σ m k := by kernel_rfl
  rw [e]
  constructor
  · intro h
    unfold LamP39_21004 at h
    obtain ⟨x_3, h0, h⟩ := kI_ok h
    obtain ⟨x_75, h1, h⟩ := kbool_ok h
    refine ⟨⟨x_3, x_75, h0, h1⟩, ?_⟩
    have ev : [3, 75].map σ = [(.flat (.int .i64 x_3)), (.flat (.bool x_75))] := by simp only [List.map_cons, List.map_nil, h0, h1]
    rw [ev, pc39_21004]
    exact h
  · rintro ⟨⟨x_3, x_75, h0, h1⟩, h⟩
    have ev : [3, 75].map σ = [(.flat (.int .i64 x_3)), (.flat (.bool x_75))] := by simp only [List.map_cons, List.map_nil, h0, h1]
    rw [ev, pc39_21004] at h
    unfold LamP39_21004
    try simp only [h0, h1, kI, kbool, kS, kptr, kaggN, kite, decide_true, eq_self]
    exact h

def lxp39_19004 : Ex → List Nat := fun e => match e with
  | .ret => [2]
  | .normal => []
  | _ => []

theorem pc39_19004 (x_3 : Int) (x_65 : Bool) (m : Mem) (k : KX) : once Try.prog E39 Lam39 [3, 65] lxp39_19004 (((secsOf (bodyOf Try.f39)).filter Lam39.cut).getD 5 .skip) [(.flat (.int .i64 x_3)), (.flat (.bool x_65))] m k = P39_19004 x_3 x_65 m (fun x_2' m' => k .ret (only [2] [(.flat (.int .i64 x_2'))]) m') (fun m' => k .normal (only [] []) m') := by
  kernel_rfl

theorem pok39_19004 : PieceOK Try.prog E39 Lam39 (((secsOf (bodyOf Try.f39)).filter Lam39.cut).getD 5 .skip) := by
  refine ⟨fun σ => ∃ x_3 x_65, σ 3 = .flat (.int .i64 x_3) ∧ σ 65 = .flat (.bool x_65), [3, 65], lxp39_19004, fun σ m k => ?_⟩
  have e : Lam39.piece (((secsOf (bodyOf Try.f39)).filter Lam39.cut).getD 5 .skip) σ m k = LamP39_19004 σ m k := by kernel_rfl
  rw [e]
  constructor
  · intro h
    unfold LamP39_19004 at h
    obtain ⟨x_3, h0, h⟩ := kI_ok h
    obtain ⟨x_65, h1, h⟩ := kbool_ok h
    refine ⟨⟨x_3, x_65, h0, h1⟩, ?_⟩
    have ev : [3, 65].map σ = [(.flat (.int .i64 x_3)), (.flat (.bool x_65))] := by simp only [List.map_cons, List.map_nil, h0, h1]
    rw [ev, pc39_19004]
    exact h
  · rintro ⟨⟨x_3, x_65, h0, h1⟩, h⟩
    have ev : [3, 65].map σ = [(.flat (.int .i64 x_3)), (.flat (.bool x_65))] := by simp only [List.map_cons, List.map_nil, h0, h1]
    rw [ev, pc39_19004] at h
    unfold LamP39_19004
    try simp only [h0, h1, kI, kbool, kS, kptr, kaggN, kite, decide_true, eq_self]
    exact h

def lxp39_17004 : Ex → List Nat := fun e => match e with
  | .ret => [2]
  | .normal => []
  | _ => []

theorem pc39_17004 (x_3 : Int) (x_55 : Bool) (m : Mem) (k : KX) : once Try.prog E39 Lam39 [3, 55] lxp39_17004 (((secsOf (bodyOf Try.f39)).filter Lam39.cut).getD 4 .skip) [(.flat (.int .i64 x_3)), (.flat (.bool x_55))] m k = P39_17004 x_3 x_55 m (fun x_2' m' => k .ret (only [2] [(.flat (.int .i64 x_2'))]) m') (fun m' => k .normal (only [] []) m') := by
  kernel_rfl

theorem pok39_17004 : PieceOK Try.prog E39 Lam39 (((secsOf (bodyOf Try.f39)).filter Lam39.cut).getD 4 .skip) := by
  refine ⟨fun σ => ∃ x_3 x_55, σ 3 = .flat (.int .i64 x_3) ∧ σ 55 = .flat (.bool x_55), [3, 55], lxp39_17004, fun σ m k => ?_⟩
  have e : Lam39.piece (((secsOf (bodyOf Try.f39)).filter Lam39.cut).getD 4 .skip) σ m k = LamP39_17004 σ m k := by kernel_rfl
  rw [e]
  constructor
  · intro h
    unfold LamP39_17004 at h
    obtain ⟨x_3, h0, h⟩ := kI_ok h
    obtain ⟨x_55, h1, h⟩ := kbool_ok h
    refine ⟨⟨x_3, x_55, h0, h1⟩, ?_⟩
    have ev : [3, 55].map σ = [(.flat (.int .i64 x_3)), (.flat (.bool x_55))] := by simp only [List.map_cons, List.map_nil, h0, h1]
    rw [ev, pc39_17004]
    exact h
  · rintro ⟨⟨x_3, x_55, h0, h1⟩, h⟩
    have ev : [3, 55].map σ = [(.flat (.int .i64 x_3)), (.flat (.bool x_55))] := by simp only [List.map_cons, List.map_nil, h0, h1]
    rw [ev, pc39_17004] at h
    unfold LamP39_17004
    try simp only [h0, h1, kI, kbool, kS, kptr, kaggN, kite, decide_true, eq_self]
    exact h

def lxp39_15004 : Ex → List Nat := fun e => match e with
  | .ret => [2]
  | .normal => []
  | _ => []

theorem pc39_15004 (x_3 : Int) (x_45 : Bool) (m : Mem) (k : KX) : once Try.prog E39 Lam39 [3, 45] lxp39_15004 (((secsOf (bodyOf Try.f39)).filter Lam39.cut).getD 3 .skip) [(.flat (.int .i64 x_3)), (.flat (.bool x_45))] m k = P39_15004 x_3 x_45 m (fun x_2' m' => k .ret (only [2] [(.flat (.int .i64 x_2'))]) m') (fun m' => k .normal (only [] []) m') := by
  kernel_rfl

theorem pok39_15004 : PieceOK Try.prog E39 Lam39 (((secsOf (bodyOf Try.f39)).filter Lam39.cut).getD 3 .skip) := by
  refine ⟨fun σ => ∃ x_3 x_45, σ 3 = .flat (.int .i64 x_3) ∧ σ 45 = .flat (.bool x_45), [3, 45], lxp39_15004, fun σ m k => ?_⟩
  have e : Lam39.piece (((secsOf (bodyOf Try.f39)).filter Lam39.cut).getD 3 .skip) σ m k = LamP39_15004 σ m k := by kernel_rfl
  rw [e]
  constructor
  · intro h
    unfold LamP39_15004 at h
    obtain ⟨x_3, h0, h⟩ := kI_ok h
    obtain ⟨x_45, h1, h⟩ := kbool_ok h
    refine ⟨⟨x_3, x_45, h0, h1⟩, ?_⟩
    have ev : [3, 45].map σ = [(.flat (.int .i64 x_3)), (.flat (.bool x_45))] := by simp only [List.map_cons, List.map_nil, h0, h1]
    rw [ev, pc39_15004]
    exact h
  · rintro ⟨⟨x_3, x_45, h0, h1⟩, h⟩
    have ev : [3, 45].map σ = [(.flat (.int .i64 x_3)), (.flat (.bool x_45))] := by simp only [List.map_cons, List.map_nil, h0, h1]
    rw [ev, pc39_15004] at h
    unfold LamP39_15004
    try simp only [h0, h1, kI, kbool, kS, kptr, kaggN, kite, decide_true, eq_self]
    exact h

def lxp39_11004 : Ex → List Nat := fun e => match e with
  | .ret => [2]
  | .normal => []
  | _ => []

theorem pc39_11004 (x_3 : Int) (x_32 : Bool) (m : Mem) (k : KX) : once Try.prog E39 Lam39 [3, 32] lxp39_11004 (((secsOf (bodyOf Try.f39)).filter Lam39.cut).getD 2 .skip) [(.flat (.int .i64 x_3)), (.flat (.bool x_32))] m k = P39_11004 x_3 x_32 m (fun x_2' m' => k .ret (only [2] [(.flat (.int .i64 x_2'))]) m') (fun m' => k .normal (only [] []) m') := by
  kernel_rfl

theorem pok39_11004 : PieceOK Try.prog E39 Lam39 (((secsOf (bodyOf Try.f39)).filter Lam39.cut).getD 2 .skip) := by
  refine ⟨fun σ => ∃ x_3 x_32, σ 3 = .flat (.int .i64 x_3) ∧ σ 32 = .flat (.bool x_32), [3, 32], lxp39_11004, fun σ m k => ?_⟩
  have e : Lam39.piece (((secsOf (bodyOf Try.f39)).filter Lam39.cut).getD 2 .skip) σ m k = LamP39_11004 σ m k := by kernel_rfl
  rw [e]
  constructor
  · intro h
    unfold LamP39_11004 at h
    obtain ⟨x_3, h0, h⟩ := kI_ok h
    obtain ⟨x_32, h1, h⟩ := kbool_ok h
    refine ⟨⟨x_3, x_32, h0, h1⟩, ?_⟩
    have ev : [3, 32].map σ = [(.flat (.int .i64 x_3)), (.flat (.bool x_32))] := by simp only [List.map_cons, List.map_nil, h0, h1]
    rw [ev, pc39_11004]
    exact h
  · rintro ⟨⟨x_3, x_32, h0, h1⟩, h⟩
    have ev : [3, 32].map σ = [(.flat (.int .i64 x_3)), (.flat (.bool x_32))] := by simp only [List.map_cons, List.map_nil, h0, h1]
    rw [ev, pc39_11004] at h
    unfold LamP39_11004
    try simp only [h0, h1, kI, kbool, kS, kptr, kaggN, kite, decide_true, eq_self]
    exact h

def lxp39_9004 : Ex → List Nat := fun e => match e with
  | .ret => [2]
  | .normal => []
  | _ => []

theorem pc39_9004 (x_3 : Int) (x_22 : Bool) (m : Mem) (k : KX) : once Try.prog E39 Lam39 [3, 22] lxp39_9004 (((secsOf (bodyOf Try.f39)).filter Lam39.cut).getD 1 .skip) [(.flat (.int .i64 x_3)), (.flat (.bool x_22))] m k = P39_9004 x_3 x_22 m (fun x_2' m' => k .ret (only [2] [(.flat (.int .i64 x_2'))]) m') (fun m' => k .normal (only [] []) m') := by
  kernel_rfl

theorem pok39_9004 : PieceOK Try.prog E39 Lam39 (((secsOf (bodyOf Try.f39)).filter Lam39.cut).getD 1 .skip) := by
  refine ⟨fun σ => ∃ x_3 x_22, σ 3 = .flat (.int .i64 x_3) ∧ σ 22 = .flat (.bool x_22), [3, 22], lxp39_9004, fun σ m k => ?_⟩
  have e : Lam39.piece (((secsOf (bodyOf Try.f39)).filter Lam39.cut).getD 1 .skip) σ m k = LamP39_9004 σ m k := by kernel_rfl
  rw [e]
  constructor
  · intro h
    unfold LamP39_9004 at h
    obtain ⟨x_3, h0, h⟩ := kI_ok h
    obtain ⟨x_22, h1, h⟩ := kbool_ok h
    refine ⟨⟨x_3, x_22, h0, h1⟩, ?_⟩
    have ev : [3, 22].map σ = [(.flat (.int .i64 x_3)), (.flat (.bool x_22))] := by simp only [List.map_cons, List.map_nil, h0, h1]
    rw [ev, pc39_9004]
    exact h
  · rintro ⟨⟨x_3, x_22, h0, h1⟩, h⟩
    have ev : [3, 22].map σ = [(.flat (.int .i64 x_3)), (.flat (.bool x_22))] := by simp only [List.map_cons, List.map_nil, h0, h1]
    rw [ev, pc39_9004] at h
    unfold LamP39_9004
    try simp only [h0, h1, kI, kbool, kS, kptr, kaggN, kite, decide_true, eq_self]
    exact h

def lxp39_5004 : Ex → List Nat := fun e => match e with
  | .ret => [2]
  | .normal => []
  | _ => []

theorem pc39_5004 (x_3 : Int) (x_9 : Bool) (m : Mem) (k : KX) : once Try.prog E39 Lam39 [3, 9] lxp39_5004 (((secsOf (bodyOf Try.f39)).filter Lam39.cut).getD 0 .skip) [(.flat (.int .i64 x_3)), (.flat (.bool x_9))] m k = P39_5004 x_3 x_9 m (fun x_2' m' => k .ret (only [2] [(.flat (.int .i64 x_2'))]) m') (fun m' => k .normal (only [] []) m') := by
  kernel_rfl

theorem pok39_5004 : PieceOK Try.prog E39 Lam39 (((secsOf (bodyOf Try.f39)).filter Lam39.cut).getD 0 .skip) := by
  refine ⟨fun σ => ∃ x_3 x_9, σ 3 = .flat (.int .i64 x_3) ∧ σ 9 = .flat (.bool x_9), [3, 9], lxp39_5004, fun σ m k => ?_⟩
  have e : Lam39.piece (((secsOf (bodyOf Try.f39)).filter Lam39.cut).getD 0 .skip) σ m k = LamP39_5004 σ m k := by kernel_rfl
  rw [e]
  constructor
  · intro h
    unfold LamP39_5004 at h
    obtain ⟨x_3, h0, h⟩ := kI_ok h
    obtain ⟨x_9, h1, h⟩ := kbool_ok h
    refine ⟨⟨x_3, x_9, h0, h1⟩, ?_⟩
    have ev : [3, 9].map σ = [(.flat (.int .i64 x_3)), (.flat (.bool x_9))] := by simp only [List.map_cons, List.map_nil, h0, h1]
    rw [ev, pc39_5004]
    exact h
  · rintro ⟨⟨x_3, x_9, h0, h1⟩, h⟩
    have ev : [3, 9].map σ = [(.flat (.int .i64 x_3)), (.flat (.bool x_9))] := by simp only [List.map_cons, List.map_nil, h0, h1]
    rw [ev, pc39_5004] at h
    unfold LamP39_5004
    try simp only [h0, h1, kI, kbool, kS, kptr, kaggN, kite, decide_true, eq_self]
    exact h

theorem eqn39 (x_0 : Int) (m : Mem) (k : KV) : bodyK Try.prog E39 Lam39 Try.f39 true [(.flat (.int .u32 x_0))] m k = F39 x_0 m (fun x_1000 m' => k (.flat (.int .i64 x_1000)) m') := by
  kernel_rfl

theorem fs39 (w0 : World) : FS Try.prog w0 39 G39 := by
  refine (fs_body (Γ := E39) (sound_env (l := []) w0 (by
    intro p hp
    cases hp)) (by kernel_rfl) Try.func39 (Λ := Lam39) (c := (bodyOf Try.f39)) (by kernel_rfl) Try.call39 (by kernel_rfl) (LS_of (bodyOf Try.f39) 0 (by kernel_rfl) (fun i hi => absurd hi (Nat.not_lt_zero i)) 7 (by kernel_rfl) (by
    intro i hi
    match i, hi with
    | 0, _ => exact pok39_5004
    | 1, _ => exact pok39_9004
    | 2, _ => exact pok39_11004
    | 3, _ => exact pok39_15004
    | 4, _ => exact pok39_17004
    | 5, _ => exact pok39_19004
    | 6, _ => exact pok39_21004
    | i + 7, hi => omega)) true (np := 1) (Nat.le_of_ble_eq_true (by kernel_rfl))).imp fun args => ?_
  by_cases hl : args.length = 1
  rotate_left
  · exact .inr fun m k hk => by
      unfold G39 at hk
      split at hk
      · exact hl rfl
      · exact hk
  obtain ⟨a0, rfl⟩ : ∃ a0, args = [a0] := len_list1 hl
  rcases kI_or .u32 a0 with ⟨x_0, rfl⟩ | h
  rotate_left
  · exact .inr fun m k hk => h _ (by simpa only [G39, kI, kbool, kS, kptr, kaggN, kite, decide_true, eq_self] using hk)
  exact .inl fun m k => propext ⟨fun h => ⟨rfl, by rw [eqn39]; simpa only [G39, kI, kbool, kS, kptr, kaggN, kite, decide_true, eq_self] using h⟩, fun h => by have h := h.2; rw [eqn39] at h; simpa only [G39, kI, kbool, kS, kptr, kaggN, kite, decide_true, eq_self] using h⟩

def P40_4004 (x_0 : Int) (x_3 : Int) (x_4 : Bool) (m : Mem) (kr : Int → Mem → Prop) (kn : Mem → Prop) : Prop :=
  kif x_4 (kr (IntKind.wrap .i64 (36 + (IntKind.wrap .i64 x_0))) m) (kif (x_3 == 16) (kif (x_3 == 16) (kr (IntKind.wrap .i64 ((IntKind.wrap .i64 (38 + (IntKind.wrap .i64 x_0))) - 16)) m) (kn  m)) (kif (x_3 == 17) (kr (IntKind.wrap .i64 ((IntKind.wrap .i64 (38 + (IntKind.wrap .i64 x_0))) - 16)) m) (kn  m)))

/-- pianola/decode.regimm -/
def F40 (x_0 : Int) (m : Mem) (k : Int → Mem → Prop) : Prop :=
  kif (x_0 == 0) (P40_4004 x_0 x_0 (x_0 == 0) m (fun x1 m2 => (Keeps m m2 ∧ k x1 m)) (fun m3 => (Keeps m m3 ∧ k 0 m))) (P40_4004 x_0 x_0 (x_0 == 1) m (fun x4 m5 => (Keeps m m5 ∧ k x4 m)) (fun m6 => (Keeps m m6 ∧ k 0 m)))

def G40 (args : List AV) (m : Mem) (k : KV) : Prop := match args with
  | [a0] => kI .u32 a0 fun x_0 => F40 x_0 m (fun x_1000 m' => k (.flat (.int .i64 x_1000)) m')
  | _ => False

def E40 : Env := envOf []

def LamP40_4004 (σ : Nat → AV) (m : Mem) (k : KX) : Prop := kI .u32 (σ 0) fun x_0 => kI .u32 (σ 3) fun x_3 => kbool (σ 4) fun x_4 => P40_4004 x_0 x_3 x_4 m (fun x_2' m' => k .ret (only [2] [(.flat (.int .i64 x_2'))]) m') (fun m' => k .normal (only [] []) m')

def Lam40 : LEnv := ⟨fun a σ m k => match firstReg a with
  | _ => bump False,
  fun id => match id with
  | _ => bump false,
  fun b => match keyC b with
  | some 4004 => true
  | _ => bump false,
  fun b σ m k => match keyC b with
  | some 4004 => LamP40_4004 σ m k
  | _ => bump False⟩

def lxp40_4004 : Ex → List Nat := fun e => match e with
  | .ret => [2]
  | .normal => []
  | _ => []

theorem pc40_4004 (x_0 : Int) (x_3 : Int) (x_4 : Bool) (m : Mem) (k : KX) : once Try.prog E40 Lam40 [0, 3, 4] lxp40_4004 (((secsOf (bodyOf Try.f40)).filter Lam40.cut).getD 0 .skip) [(.flat (.int .u32 x_0)), (.flat (.int .u32 x_3)), (.flat (.bool x_4))] m k = P40_4004 x_0 x_3 x_4 m (fun x_2' m' => k .ret (only [2] [(.flat (.int .i64 x_2'))]) m') (fun m' => k .normal (only [] []) m') := by
  kernel_rfl

theorem pok40_4004 : PieceOK Try.prog E40 Lam40 (((secsOf (bodyOf Try.f40)).filter Lam40.cut).getD 0 .skip) := by
  refine ⟨fun σ => ∃ x_0 x_3 x_4, σ 0 = .flat (.int .u32 x_0) ∧ σ 3 = .flat (.int .u32 x_3) ∧ σ 4 = .flat (.bool x_4), [0, 3, 4], lxp40_4004, fun σ m k => ?_⟩
  have e : Lam40.piece (((secsOf (bodyOf Try.f40)).filter Lam40.cut).getD 0 .skip) σ m k = LamP40_4004 σ m k := by kernel_rfl
  rw [e]
  constructor
  · intro h
    unfold LamP40_4004 at h
    obtain ⟨x_0, h0, h⟩ := kI_ok h
    obtain ⟨x_3, h1, h⟩ := kI_ok h
    obtain ⟨x_4, h2, h⟩ := kbool_ok h
    refine ⟨⟨x_0, x_3, x_4, h0, h1, h2⟩, ?_⟩
    have ev : [0, 3, 4].map σ = [(.flat (.int .u32 x_0)), (.flat (.int .u32 x_3)), (.flat (.bool x_4))] := by simp only [List.map_cons, List.map_nil, h0, h1, h2]
    rw [ev, pc40_4004]
    exact h
  · rintro ⟨⟨x_0, x_3, x_4, h0, h1, h2⟩, h⟩
    have ev : [0, 3, 4].map σ = [(.flat (.int .u32 x_0)), (.flat (.int .u32 x_3)), (.flat (.bool x_4))] := by simp only [List.map_cons, List.map_nil, h0, h1, h2]
    rw [ev, pc40_4004] at h
    unfold LamP40_4004
    try simp only [h0, h1, h2, kI, kbool, kS, kptr, kaggN, kite, decide_true, eq_self]
    exact h

theorem eqn40 (x_0 : Int) (m : Mem) (k : KV) : bodyK Try.prog E40 Lam40 Try.f40 true [(.flat (.int .u32 x_0))] m k = F40 x_0 m (fun x_1000 m' => k (.flat (.int .i64 x_1000)) m') := by
  kernel_rfl

theorem fs40 (w0 : World) : FS Try.prog w0 40 G40 := by
  refine (fs_body (Γ := E40) (sound_env (l := []) w0 (by
    intro p hp
    cases hp)) (by kernel_rfl) Try.func40 (Λ := Lam40) (c := (bodyOf Try.f40)) (by kernel_rfl) Try.call40 (by kernel_rfl) (LS_of (bodyOf Try.f40) 0 (by kernel_rfl) (fun i hi => absurd hi (Nat.not_lt_zero i)) 1 (by kernel_rfl) (by
    intro i hi
    match i, hi with
    | 0, _ => exact pok40_4004
    | i + 1, hi => omega)) true (np := 1) (Nat.le_of_ble_eq_true (by kernel_rfl))).imp fun args => ?_
  by_cases hl : args.length = 1
  rotate_left
  · exact .inr fun m k hk => by
      unfold G40 at hk
      split at hk
      · exact hl rfl
      · exact hk
  obtain ⟨a0, rfl⟩ : ∃ a0, args = [a0] := len_list1 hl
  rcases kI_or .u32 a0 with ⟨x_0, rfl⟩ | h
  rotate_left
  · exact .inr fun m k hk => h _ (by simpa only [G40, kI, kbool, kS, kptr, kaggN, kite, decide_true, eq_self] using hk)
  exact .inl fun m k => propext ⟨fun h => ⟨rfl, by rw [eqn40]; simpa only [G40, kI, kbool, kS, kptr, kaggN, kite, decide_true, eq_self] using h⟩, fun h => by have h := h.2; rw [eqn40] at h; simpa only [G40, kI, kbool, kS, kptr, kaggN, kite, decide_true, eq_self] using h⟩

/-- pianola/decode.table -/
def F44 (x_0 : Int) (m : Mem) (k : Int → Mem → Prop) : Prop :=
  kif (x_0 == 1) ((Keeps m m ∧ k 56 m)) (kif (x_0 == 2) ((Keeps m m ∧ k 57 m)) (kif (x_0 == 6) ((Keeps m m ∧ k 58 m)) (kif (x_0 == 8) ((Keeps m m ∧ k 59 m)) (kif (x_0 == 24) ((Keeps m m ∧ k 60 m)) (kif (x_0 == 32) ((Keeps m m ∧ k 61 m)) ((Keeps m m ∧ k 0 m)))))))

def G44 (args : List AV) (m : Mem) (k : KV) : Prop := match args with
  | [a0] => kI .u32 a0 fun x_0 => F44 x_0 m (fun x_1000 m' => k (.flat (.int .i64 x_1000)) m')
  | _ => False

def E44 : Env := envOf []

def Lam44 : LEnv := ⟨fun a σ m k => match firstReg a with
  | _ => bump False,
  fun id => match id with
  | _ => bump false,
  fun b => match keyC b with
  | _ => bump false,
  fun b σ m k => match keyC b with
  | _ => bump False⟩

theorem eqn44 (x_0 : Int) (m : Mem) (k : KV) : bodyK Try.prog E44 Lam44 Try.f44 true [(.flat (.int .u32 x_0))] m k = F44 x_0 m (fun x_1000 m' => k (.flat (.int .i64 x_1000)) m') := by
  kernel_rfl

theorem fs44 (w0 : World) : FS Try.prog w0 44 G44 := by
  refine (fs_body (Γ := E44) (sound_env (l := []) w0 (by
    intro p hp
    cases hp)) (by kernel_rfl) Try.func44 (Λ := Lam44) (c := (bodyOf Try.f44)) (by kernel_rfl) Try.call44 (by kernel_rfl) (LS_of (bodyOf Try.f44) 0 (by kernel_rfl) (fun i hi => absurd hi (Nat.not_lt_zero i)) 0 (by kernel_rfl) (fun i hi => absurd hi (Nat.not_lt_zero i))) true (np := 1) (Nat.le_of_ble_eq_true (by kernel_rfl))).imp fun args => ?_
  by_cases hl : args.length = 1
  rotate_left
  · exact .inr fun m k hk => by
      unfold G44 at hk
      split at hk
      · exact hl rfl
      · exact hk
  obtain ⟨a0, rfl⟩ : ∃ a0, args = [a0] := len_list1 hl
  rcases kI_or .u32 a0 with ⟨x_0, rfl⟩ | h
  rotate_left
  · exact .inr fun m k hk => h _ (by simpa only [G44, kI, kbool, kS, kptr, kaggN, kite, decide_true, eq_self] using hk)
  exact .inl fun m k => propext ⟨fun h => ⟨rfl, by rw [eqn44]; simpa only [G44, kI, kbool, kS, kptr, kaggN, kite, decide_true, eq_self] using h⟩, fun h => by have h := h.2; rw [eqn44] at h; simpa only [G44, kI, kbool, kS, kptr, kaggN, kite, decide_true, eq_self] using h⟩

/-- pianola/decode.cop0 -/
def F41 (x_0 : Int) (m : Mem) (k : Int → Mem → Prop) : Prop :=
  kif ((bits .and .u32 (x_0.fdiv 2097152) 31) == 0) ((Keeps m m ∧ k 54 m)) (kif ((bits .and .u32 (x_0.fdiv 2097152) 31) == 4) ((Keeps m m ∧ k 55 m)) (kif ((bits .and .u32 (x_0.fdiv 2097152) 31) == 16) (F44 (bits .and .u32 x_0 63) m fun x1 m2 => (Keeps m m2 ∧ k x1 m)) ((Keeps m m ∧ k 0 m))))

def G41 (args : List AV) (m : Mem) (k : KV) : Prop := match args with
  | [a0] => kI .u32 a0 fun x_0 => F41 x_0 m (fun x_1000 m' => k (.flat (.int .i64 x_1000)) m')
  | _ => False

def E41 : Env := envOf [(44, G44)]

def Lam41 : LEnv := ⟨fun a σ m k => match firstReg a with
  | _ => bump False,
  fun id => match id with
  | _ => bump false,
  fun b => match keyC b with
  | _ => bump false,
  fun b σ m k => match keyC b with
  | _ => bump False⟩

theorem eqn41 (x_0 : Int) (m : Mem) (k : KV) : bodyK Try.prog E41 Lam41 Try.f41 true [(.flat (.int .u32 x_0))] m k = F41 x_0 m (fun x_1000 m' => k (.flat (.int .i64 x_1000)) m') := by
  kernel_rfl

theorem fs41 (w0 : World) : FS Try.prog w0 41 G41 := by
  refine (fs_body (Γ := E41) (sound_env (l := [(44, G44)]) w0 (by
    intro p hp
    simp only [List.mem_cons, List.not_mem_nil, or_false] at hp
    rcases hp with rfl
    · exact fs44 w0)) (by kernel_rfl) Try.func41 (Λ := Lam41) (c := (bodyOf Try.f41)) (by kernel_rfl) Try.call41 (by kernel_rfl) (LS_of (bodyOf Try.f41) 0 (by kernel_rfl) (fun i hi => absurd hi (Nat.not_lt_zero i)) 0 (by kernel_rfl) (fun i hi => absurd hi (Nat.not_lt_zero i))) true (np := 1) (Nat.le_of_ble_eq_true (by kernel_rfl))).imp fun args => ?_
  by_cases hl : args.length = 1
  rotate_left
  · exact .inr fun m k hk => by
      unfold G41 at hk
      split at hk
      · exact hl rfl
      · exact hk
  obtain ⟨a0, rfl⟩ : ∃ a0, args = [a0] := len_list1 hl
  rcases kI_or .u32 a0 with ⟨x_0, rfl⟩ | h
  rotate_left
  · exact .inr fun m k hk => h _ (by simpa only [G41, kI, kbool, kS, kptr, kaggN, kite, decide_true, eq_self] using hk)
  exact .inl fun m k => propext ⟨fun h => ⟨rfl, by rw [eqn41]; simpa only [G41, kI, kbool, kS, kptr, kaggN, kite, decide_true, eq_self] using h⟩, fun h => by have h := h.2; rw [eqn41] at h; simpa only [G41, kI, kbool, kS, kptr, kaggN, kite, decide_true, eq_self] using h⟩

/-- pianola/decode.special2 -/
def F42 (x_0 : Int) (m : Mem) (k : Int → Mem → Prop) : Prop :=
  kif (x_0 == 2) ((Keeps m m ∧ k 63 m)) (kif (x_0 == 32) (kif (x_0 == 32) ((Keeps m m ∧ k (IntKind.wrap .i64 ((IntKind.wrap .i64 (64 + (IntKind.wrap .i64 x_0))) - 32)) m)) ((Keeps m m ∧ k 0 m))) (kif (x_0 == 33) ((Keeps m m ∧ k (IntKind.wrap .i64 ((IntKind.wrap .i64 (64 + (IntKind.wrap .i64 x_0))) - 32)) m)) ((Keeps m m ∧ k 0 m))))

def G42 (args : List AV) (m : Mem) (k : KV) : Prop := match args with
  | [a0] => kI .u32 a0 fun x_0 => F42 x_0 m (fun x_1000 m' => k (.flat (.int .i64 x_1000)) m')
  | _ => False

def E42 : Env := envOf []

def Lam42 : LEnv := ⟨fun a σ m k => match firstReg a with
  | _ => bump False,
  fun id => match id with
  | _ => bump false,
  fun b => match keyC b with
  | _ => bump false,
  fun b σ m k => match keyC b with
  | _ => bump False⟩

theorem eqn42 (x_0 : Int) (m : Mem) (k : KV) : bodyK Try.prog E42 Lam42 Try.f42 true [(.flat (.int .u32 x_0))] m k = F42 x_0 m (fun x_1000 m' => k (.flat (.int .i64 x_1000)) m') := by
  kernel_rfl

theorem fs42 (w0 : World) : FS Try.prog w0 42 G42 := by
  refine (fs_body (Γ := E42) (sound_env (l := []) w0 (by
    intro p hp
    cases hp)) (by kernel_rfl) Try.func42 (Λ := Lam42) (c := (bodyOf Try.f42)) (by kernel_rfl) Try.call42 (by kernel_rfl) (LS_of (bodyOf Try.f42) 0 (by kernel_rfl) (fun i hi => absurd hi (Nat.not_lt_zero i)) 0 (by kernel_rfl) (fun i hi => absurd hi (Nat.not_lt_zero i))) true (np := 1) (Nat.le_of_ble_eq_true (by kernel_rfl))).imp fun args => ?_
  by_cases hl : args.length = 1
  rotate_left
  · exact .inr fun m k hk => by
      unfold G42 at hk
      split at hk
      · exact hl rfl
      · exact hk
  obtain ⟨a0, rfl⟩ : ∃ a0, args = [a0] := len_list1 hl
  rcases kI_or .u32 a0 with ⟨x_0, rfl⟩ | h
  rotate_left
  · exact .inr fun m k hk => h _ (by simpa only [G42, kI, kbool, kS, kptr, kaggN, kite, decide_true, eq_self] using hk)
  exact .inl fun m k => propext ⟨fun h => ⟨rfl, by rw [eqn42]; simpa only [G42, kI, kbool, kS, kptr, kaggN, kite, decide_true, eq_self] using h⟩, fun h => by have h := h.2; rw [eqn42] at h; simpa only [G42, kI, kbool, kS, kptr, kaggN, kite, decide_true, eq_self] using h⟩

def P43_13004 (x_3 : Int) (x_49 : Bool) (m : Mem) (kr : Int → Mem → Prop) (kn : Mem → Prop) : Prop :=
  kif x_49 (kr (IntKind.wrap .i64 ((IntKind.wrap .i64 (71 + x_3)) - 40)) m) (kif (x_3 == 43) (kr 73 m) (kif (x_3 == 47) (kr 76 m) (kif (x_3 == 48) (kr 74 m) (kif (x_3 == 51) (kr 77 m) (kif (x_3 == 56) (kr 75 m) (kn  m))))))

def P43_11004 (x_3 : Int) (x_39 : Bool) (m : Mem) (kr : Int → Mem → Prop) (kn : Mem → Prop) : Prop :=
  kif x_39 (kr (IntKind.wrap .i64 ((IntKind.wrap .i64 (68 + x_3)) - 35)) m) (kif (x_3 == 40) (P43_13004 x_3 true m (fun x1 m2 => kr x1 m2) (fun m3 => kn  m3)) (P43_13004 x_3 (x_3 == 41) m (fun x4 m5 => kr x4 m5) (fun m6 => kn  m6)))

def P43_9004 (x_3 : Int) (x_29 : Bool) (m : Mem) (kr : Int → Mem → Prop) (kn : Mem → Prop) : Prop :=
  kif x_29 (kr (IntKind.wrap .i64 ((IntKind.wrap .i64 (66 + x_3)) - 32)) m) (kif (decide (x_3 ≥ 35)) (P43_11004 x_3 (decide (x_3 ≤ 37)) m (fun x7 m8 => kr x7 m8) (fun m9 => kn  m9)) (P43_11004 x_3 false m (fun x10 m11 => kr x10 m11) (fun m12 => kn  m12)))

def P43_5004 (x_3 : Int) (x_16 : Bool) (m : Mem) (kr : Int → Mem → Prop) (kn : Mem → Prop) : Prop :=
  kif x_16 (kr (IntKind.wrap .i64 ((IntKind.wrap .i64 (46 + x_3)) - 8)) m) (kif (x_3 == 17) (kr 62 m) (kif (x_3 == 32) (P43_9004 x_3 true m (fun x13 m14 => kr x13 m14) (fun m15 => kn  m15)) (P43_9004 x_3 (x_3 == 33) m (fun x16 m17 => kr x16 m17) (fun m18 => kn  m18))))

def P43_3004 (x_3 : Int) (x_6 : Bool) (m : Mem) (kr : Int → Mem → Prop) (kn : Mem → Prop) : Prop :=
  kif x_6 (kr (IntKind.wrap .i64 ((IntKind.wrap .i64 (40 + x_3)) - 2)) m) (kif (decide (x_3 ≥ 8)) (P43_5004 x_3 (decide (x_3 ≤ 15)) m (fun x19 m20 => kr x19 m20) (fun m21 => kn  m21)) (P43_5004 x_3 false m (fun x22 m23 => kr x22 m23) (fun m24 => kn  m24)))

/-- pianola/decode.major -/
def F43 (x_0 : Int) (m : Mem) (k : Int → Mem → Prop) : Prop :=
  kif (decide ((IntKind.wrap .i64 x_0) ≥ 2)) (P43_3004 (IntKind.wrap .i64 x_0) (decide ((IntKind.wrap .i64 x_0) ≤ 7)) m (fun x25 m26 => (Keeps m m26 ∧ k x25 m)) (fun m27 => (Keeps m m27 ∧ k 0 m))) (P43_3004 (IntKind.wrap .i64 x_0) false m (fun x28 m29 => (Keeps m m29 ∧ k x28 m)) (fun m30 => (Keeps m m30 ∧ k 0 m)))

def G43 (args : List AV) (m : Mem) (k : KV) : Prop := match args with
  | [a0] => kI .u32 a0 fun x_0 => F43 x_0 m (fun x_1000 m' => k (.flat (.int .i64 x_1000)) m')
  | _ => False

def E43 : Env := envOf []

def LamP43_3004 (σ : Nat → AV) (m : Mem) (k : KX) : Prop := kI .i64 (σ 3) fun x_3 => kbool (σ 6) fun x_6 => P43_3004 x_3 x_6 m (fun x_2' m' => k .ret (only [2] [(.flat (.int .i64 x_2'))]) m') (fun m' => k .normal (only [] []) m')

def LamP43_5004 (σ : Nat → AV) (m : Mem) (k : KX) : Prop := kI .i64 (σ 3) fun x_3 => kbool (σ 16) fun x_16 => P43_5004 x_3 x_16 m (fun x_2' m' => k .ret (only [2] [(.flat (.int .i64 x_2'))]) m') (fun m' => k .normal (only [] []) m')

def LamP43_9004 (σ : Nat → AV) (m : Mem) (k : KX) : Prop := kI .i64 (σ 3) fun x_3 => kbool (σ 29) fun x_29 => P43_9004 x_3 x_29 m (fun x_2' m' => k .ret (only [2] [(.flat (.int .i64 x_2'))]) m') (fun m' => k .normal (only [] []) m')

def LamP43_11004 (σ : Nat → AV) (m : Mem) (k : KX) : Prop := kI .i64 (σ 3) fun x_3 => kbool (σ 39) fun x_39 => P43_11004 x_3 x_39 m (fun x_2' m' => k .ret (only [2] [(.flat (.int .i64 x_2'))]) m') (fun m' => k .normal (only [] []) m')

def LamP43_13004 (σ : Nat → AV) (m : Mem) (k : KX) : Prop := kI .i64 (σ 3) fun x_3 => kbool (σ 49) fun x_49 => P43_13004 x_3 x_49 m (fun x_2' m' => k .ret (only [2] [(.flat (.int .i64 x_2'))]) m') (fun m' => k .normal (only [] []) m')

def Lam43 : LEnv := ⟨fun a σ m k => match firstReg a with
  | _ => bump False,
  fun id => match id with
  | _ => bump false,
  fun b => match keyC b with
  | some 3004 => true
  | some 5004 => true
  | some 9004 => true
  | some 11004 => true
  | some 13004 => true
  | _ => bump false,
  fun b σ m k => match keyC b with
  | some 3004 => LamP43_3004 σ m k
  | some 5004 => LamP43_5004 σ m k
  | some 9004 => LamP43_9004 σ m k
  | some 11004 => LamP43_11004 σ m k
  | some 13004 => LamP43_13004 σ m k
  | _ => bump False⟩

def lxp43_13004 : Ex → List Nat := fun e => match e with
  | .ret => [2]
  | .normal => []
  | _ => []

theorem pc43_13004 (x_3 : Int) (x_49 : Bool) (m : Mem) (k : KX) : once Try.prog E43 Lam43 [3, 49] lxp43_13004 (((secsOf (bodyOf Try.f43)).filter Lam43.cut).getD 4 .skip) [(.flat (.int .i64 x_3)), (.flat (.bool x_49))] m k = P43_13004 x_3 x_49 m (fun x_2' m' => k .ret (only [2] [(.flat (.int .i64 x_2'))]) m') (fun m' => k .normal (only [] []) m') := by
  kernel_rfl

theorem pok43_13004 : PieceOK Try.prog E43 Lam43 (((secsOf (bodyOf Try.f43)).filter Lam43.cut).getD 4 .skip) := by
  refine ⟨fun σ => ∃ x_3 x_49, σ 3 = .flat (.int .i64 x_3) ∧ σ 49 = .flat (.bool x_49), [3, 49], lxp43_13004, fun σ m k => ?_⟩
  have e : Lam43.piece (((secsOf (bodyOf Try.f43)).filter Lam43.cut).getD 4 .skip) σ m k = LamP43_13004 σ m k := by kernel_rfl
  rw [e]
  constructor
  · intro h
    unfold LamP43_13004 at h
    obtain ⟨x_3, h0, h⟩ := kI_ok h
    obtain ⟨x_49, h1, h⟩ := kbool_ok h
    refine ⟨⟨x_3, x_49, h0, h1⟩, ?_⟩
    have ev : [3, 49].map σ = [(.flat (.int .i64 x_3)), (.flat (.bool x_49))] := by simp only [List.map_cons, List.map_nil, h0, h1]
    rw [ev, pc43_13004]
    exact h
  · rintro ⟨⟨x_3, x_49, h0, h1⟩, h⟩
    have ev : [3, 49].map σ = [(.flat (.int .i64 x_3)), (.flat (.bool x_49))] := by simp only [List.map_cons, List.map_nil, h0, h1]
    rw [ev, pc43_13004] at h
    unfold LamP43_13004
    try simp only [h0, h1, kI, kbool, kS, kptr, kaggN, kite, decide_true, eq_self]
    exact h

def lxp43_11004 : Ex → List Nat := fun e => match e with
  | .ret => [2]
  | .normal => []
  | _ => []

theorem pc43_11004 (x_3 : Int) (x_39 : Bool) (m : Mem) (k : KX) : once Try.prog E43 Lam43 [3, 39] lxp43_11004 (((secsOf (bodyOf Try.f43)).filter Lam43.cut).getD 3 .skip) [(.flat (.int .i64 x_3)), (.flat (.bool x_39))] m k = P43_11004 x_3 x_39 m (fun x_2' m' => k .ret (only [2] [(.flat (.int .i64 x_2'))]) m') (fun m' => k .normal (only [] []) m') := by
  kernel_rfl

theorem pok43_11004 : PieceOK Try.prog E43 Lam43 (((secsOf (bodyOf Try.f43)).filter Lam43.cut).getD 3 .skip) := by
  refine ⟨fun σ => ∃ x_3 x_39, σ 3 = .flat (.int .i64 x_3) ∧ σ 39 = .flat (.bool x_39), [3, 39], lxp43_11004, fun σ m k => ?_⟩
  have e : Lam43.piece (((secsOf (bodyOf Try.f43)).filter Lam43.cut).getD 3 .skip) σ m k = LamP43_11004 σ m k := by kernel_rfl
  rw [e]
  constructor
  · intro h
    unfold LamP43_11004 at h
    obtain ⟨x_3, h0, h⟩ := kI_ok h
    obtain ⟨x_39, h1, h⟩ := kbool_ok h
    refine ⟨⟨x_3, x_39, h0, h1⟩, ?_⟩
    have ev : [3, 39].map σ = [(.flat (.int .i64 x_3)), (.flat (.bool x_39))] := by simp only [List.map_cons, List.map_nil, h0, h1]
    rw [ev, pc43_11004]
    exact h
  · rintro ⟨⟨x_3, x_39, h0, h1⟩, h⟩
    have ev : [3, 39].map σ = [(.flat (.int .i64 x_3)), (.flat (.bool x_39))] := by simp only [List.map_cons, List.map_nil, h0, h1]
    rw [ev, pc43_11004] at h
    unfold LamP43_11004
    try simp only [h0, h1, kI, kbool, kS, kptr, kaggN, kite, decide_true, eq_self]
    exact h

def lxp43_9004 : Ex → List Nat := fun e => match e with
  | .ret => [2]
  | .normal => []
  | _ => []

theorem pc43_9004 (x_3 : Int) (x_29 : Bool) (m : Mem) (k : KX) : once Try.prog E43 Lam43 [3, 29] lxp43_9004 (((secsOf (bodyOf Try.f43)).filter Lam43.cut).getD 2 .skip) [(.flat (.int .i64 x_3)), (.flat (.bool x_29))] m k = P43_9004 x_3 x_29 m (fun x_2' m' => k .ret (only [2] [(.flat (.int .i64 x_2'))]) m') (fun m' => k .normal (only [] []) m') := by
  kernel_rfl

theorem pok43_9004 : PieceOK Try.prog E43 Lam43 (((secsOf (bodyOf Try.f43)).filter Lam43.cut).getD 2 .skip) := by
  refine ⟨fun σ => ∃ x_3 x_29, σ 3 = .flat (.int .i64 x_3) ∧ σ 29 = .flat (.bool x_29), [3, 29], lxp43_9004, fun σ m k => ?_⟩
  have e : Lam43.piece (((secsOf (bodyOf Try.f43)).filter Lam43.cut).getD 2 .skip) σ m k = LamP43_9004 σ m k := by kernel_rfl
  rw [e]
  constructor
  · intro h
    unfold LamP43_9004 at h
    obtain ⟨x_3, h0, h⟩ := kI_ok h
    obtain ⟨x_29, h1, h⟩ := kbool_ok h
    refine ⟨⟨x_3, x_29, h0, h1⟩, ?_⟩
    have ev : [3, 29].map σ = [(.flat (.int .i64 x_3)), (.flat (.bool x_29))] := by simp only [List.map_cons, List.map_nil, h0, h1]
    rw [ev, pc43_9004]
    exact h
  · rintro ⟨⟨x_3, x_29, h0, h1⟩, h⟩
    have ev : [3, 29].map σ = [(.flat (.int .i64 x_3)), (.flat (.bool x_29))] := by simp only [List.map_cons, List.map_nil, h0, h1]
    rw [ev, pc43_9004] at h
    unfold LamP43_9004
    try simp only [h0, h1, kI, kbool, kS, kptr, kaggN, kite, decide_true, eq_self]
    exact h

def lxp43_5004 : Ex → List Nat := fun e => match e with
  | .ret => [2]
  | .normal => []
  | _ => []

theorem pc43_5004 (x_3 : Int) (x_16 : Bool) (m : Mem) (k : KX) : once Try.prog E43 Lam43 [3, 16] lxp43_5004 (((secsOf (bodyOf Try.f43)).filter Lam43.cut).getD 1 .skip) [(.flat (.int .i64 x_3)), (.flat (.bool x_16))] m k = P43_5004 x_3 x_16 m (fun x_2' m' => k .ret (only [2] [(.flat (.int .i64 x_2'))]) m') (fun m' => k .normal (only [] []) m') := by
  kernel_rfl

theorem pok43_5004 : PieceOK Try.prog E43 Lam43 (((secsOf (bodyOf Try.f43)).filter Lam43.cut).getD 1 .skip) := by
  refine ⟨fun σ => ∃ x_3 x_16, σ 3 = .flat (.int .i64 x_3) ∧ σ 16 = .flat (.bool x_16), [3, 16], lxp43_5004, fun σ m k => ?_⟩
  have e : Lam43.piece (((secsOf (bodyOf Try.f43)).filter Lam43.cut).getD 1 .skip) σ m k = LamP43_5004 σ m k := by kernel_rfl
  rw [e]
  constructor
  · intro h
    unfold LamP43_5004 at h
    obtain ⟨x_3, h0, h⟩ := kI_ok h
    obtain ⟨x_16, h1, h⟩ := kbool_ok h
    refine ⟨⟨x_3, x_16, h0, h1⟩, ?_⟩
    have ev : [3, 16].map σ = [(.flat (.int .i64 x_3)), (.flat (.bool x_16))] := by simp only [List.map_cons, List.map_nil, h0, h1]
    rw [ev, pc43_5004]
    exact h
  · rintro ⟨⟨x_3, x_16, h0, h1⟩, h⟩
    have ev : [3, 16].map σ = [(.flat (.int .i64 x_3)), (.flat (.bool x_16))] := by simp only [List.map_cons, List.map_nil, h0, h1]
    rw [ev, pc43_5004] at h
    unfold LamP43_5004
    try simp only [h0, h1, kI, kbool, kS, kptr, kaggN, kite, decide_true, eq_self]
    exact h

def lxp43_3004 : Ex → List Nat := fun e => match e with
  | .ret => [2]
  | .normal => []
  | _ => []

theorem pc43_3004 (x_3 : Int) (x_6 : Bool) (m : Mem) (k : KX) : once Try.prog E43 Lam43 [3, 6] lxp43_3004 (((secsOf (bodyOf Try.f43)).filter Lam43.cut).getD 0 .skip) [(.flat (.int .i64 x_3)), (.flat (.bool x_6))] m k = P43_3004 x_3 x_6 m (fun x_2' m' => k .ret (only [2] [(.flat (.int .i64 x_2'))]) m') (fun m' => k .normal (only [] []) m') := by
  kernel_rfl

theorem pok43_3004 : PieceOK Try.prog E43 Lam43 (((secsOf (bodyOf Try.f43)).filter Lam43.cut).getD 0 .skip) := by
  refine ⟨fun σ => ∃ x_3 x_6, σ 3 = .flat (.int .i64 x_3) ∧ σ 6 = .flat (.bool x_6), [3, 6], lxp43_3004, fun σ m k => ?_⟩
  have e : Lam43.piece (((secsOf (bodyOf Try.f43)).filter Lam43.cut).getD 0 .skip) σ m k = LamP43_3004 σ m k := by kernel_rfl
  rw [e]
  constructor
  · intro h
    unfold LamP43_3004 at h
    obtain ⟨x_3, h0, h⟩ := kI_ok h
    obtain ⟨x_6, h1, h⟩ := kbool_ok h
    refine ⟨⟨x_3, x_6, h0, h1⟩, ?_⟩
    have ev : [3, 6].map σ = [(.flat (.int .i64 x_3)), (.flat (.bool x_6))] := by simp only [List.map_cons, List.map_nil, h0, h1]
    rw [ev, pc43_3004]
    exact h
  · rintro ⟨⟨x_3, x_6, h0, h1⟩, h⟩
    have ev : [3, 6].map σ = [(.flat (.int .i64 x_3)), (.flat (.bool x_6))] := by simp only [List.map_cons, List.map_nil, h0, h1]
    rw [ev, pc43_3004] at h
    unfold LamP43_3004
    try simp only [h0, h1, kI, kbool, kS, kptr, kaggN, kite, decide_true, eq_self]
    exact h

theorem eqn43 (x_0 : Int) (m : Mem) (k : KV) : bodyK Try.prog E43 Lam43 Try.f43 true [(.flat (.int .u32 x_0))] m k = F43 x_0 m (fun x_1000 m' => k (.flat (.int .i64 x_1000)) m') := by
  kernel_rfl

theorem fs43 (w0 : World) : FS Try.prog w0 43 G43 := by
  refine (fs_body (Γ := E43) (sound_env (l := []) w0 (by
    intro p hp
    cases hp)) (by kernel_rfl) Try.func43 (Λ := Lam43) (c := (bodyOf Try.f43)) (by kernel_rfl) Try.call43 (by kernel_rfl) (LS_of (bodyOf Try.f43) 0 (by kernel_rfl) (fun i hi => absurd hi (Nat.not_lt_zero i)) 5 (by kernel_rfl) (by
    intro i hi
    match i, hi with
    | 0, _ => exact pok43_3004
    | 1, _ => exact pok43_5004
    | 2, _ => exact pok43_9004
    | 3, _ => exact pok43_11004
    | 4, _ => exact pok43_13004
    | i + 5, hi => omega)) true (np := 1) (Nat.le_of_ble_eq_true (by kernel_rfl))).imp fun args => ?_
  by_cases hl : args.length = 1
  rotate_left
  · exact .inr fun m k hk => by
      unfold G43 at hk
      split at hk
      · exact hl rfl
      · exact hk
  obtain ⟨a0, rfl⟩ : ∃ a0, args = [a0] := len_list1 hl
  rcases kI_or .u32 a0 with ⟨x_0, rfl⟩ | h
  rotate_left
  · exact .inr fun m k hk => h _ (by simpa only [G43, kI, kbool, kS, kptr, kaggN, kite, decide_true, eq_self] using hk)
  exact .inl fun m k => propext ⟨fun h => ⟨rfl, by rw [eqn43]; simpa only [G43, kI, kbool, kS, kptr, kaggN, kite, decide_true, eq_self] using h⟩, fun h => by have h := h.2; rw [eqn43] at h; simpa only [G43, kI, kbool, kS, kptr, kaggN, kite, decide_true, eq_self] using h⟩

/-- pianola/decode.kind -/
def F37 (x_0 : Int) (m : Mem) (k : Int → Mem → Prop) : Prop :=
  kif ((x_0.fdiv 67108864) == 0) (F39 (bits .and .u32 x_0 63) m fun x1 m2 => (Keeps m m2 ∧ k x1 m)) (kif ((x_0.fdiv 67108864) == 1) (F40 (bits .and .u32 (x_0.fdiv 65536) 31) m fun x3 m4 => (Keeps m m4 ∧ k x3 m)) (kif ((x_0.fdiv 67108864) == 16) (F41 x_0 m fun x5 m6 => (Keeps m m6 ∧ k x5 m)) (kif ((x_0.fdiv 67108864) == 28) (F42 (bits .and .u32 x_0 63) m fun x7 m8 => (Keeps m m8 ∧ k x7 m)) (F43 (x_0.fdiv 67108864) m fun x9 m10 => (Keeps m m10 ∧ k x9 m)))))

def G37 (args : List AV) (m : Mem) (k : KV) : Prop := match args with
  | [a0] => kI .u32 a0 fun x_0 => F37 x_0 m (fun x_1000 m' => k (.flat (.int .i64 x_1000)) m')
  | _ => False

def E37 : Env := envOf [(39, G39), (40, G40), (41, G41), (42, G42), (43, G43)]

def Lam37 : LEnv := ⟨fun a σ m k => match firstReg a with
  | _ => bump False,
  fun id => match id with
  | _ => bump false,
  fun b => match keyC b with
  | _ => bump false,
  fun b σ m k => match keyC b with
  | _ => bump False⟩

theorem eqn37 (x_0 : Int) (m : Mem) (k : KV) : bodyK Try.prog E37 Lam37 Try.f37 true [(.flat (.int .u32 x_0))] m k = F37 x_0 m (fun x_1000 m' => k (.flat (.int .i64 x_1000)) m') := by
  kernel_rfl

theorem fs37 (w0 : World) : FS Try.prog w0 37 G37 := by
  refine (fs_body (Γ := E37) (sound_env (l := [(39, G39), (40, G40), (41, G41), (42, G42), (43, G43)]) w0 (by
    intro p hp
    simp only [List.mem_cons, List.not_mem_nil, or_false] at hp
    rcases hp with rfl | rfl | rfl | rfl | rfl
    · exact fs39 w0
    · exact fs40 w0
    · exact fs41 w0
    · exact fs42 w0
    · exact fs43 w0)) (by kernel_rfl) Try.func37 (Λ := Lam37) (c := (bodyOf Try.f37)) (by kernel_rfl) Try.call37 (by kernel_rfl) (LS_of (bodyOf Try.f37) 0 (by kernel_rfl) (fun i hi => absurd hi (Nat.not_lt_zero i)) 0 (by kernel_rfl) (fun i hi => absurd hi (Nat.not_lt_zero i))) true (np := 1) (Nat.le_of_ble_eq_true (by kernel_rfl))).imp fun args => ?_
  by_cases hl : args.length = 1
  rotate_left
  · exact .inr fun m k hk => by
      unfold G37 at hk
      split at hk
      · exact hl rfl
      · exact hk
  obtain ⟨a0, rfl⟩ : ∃ a0, args = [a0] := len_list1 hl
  rcases kI_or .u32 a0 with ⟨x_0, rfl⟩ | h
  rotate_left
  · exact .inr fun m k hk => h _ (by simpa only [G37, kI, kbool, kS, kptr, kaggN, kite, decide_true, eq_self] using hk)
  exact .inl fun m k => propext ⟨fun h => ⟨rfl, by rw [eqn37]; simpa only [G37, kI, kbool, kS, kptr, kaggN, kite, decide_true, eq_self] using h⟩, fun h => by have h := h.2; rw [eqn37] at h; simpa only [G37, kI, kbool, kS, kptr, kaggN, kite, decide_true, eq_self] using h⟩

end Go.Proofs.Ytppikpjmlbaccaa.Am
