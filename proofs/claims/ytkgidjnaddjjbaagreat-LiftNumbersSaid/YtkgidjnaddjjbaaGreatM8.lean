/- What Go functions ask of what follows them, as plain functions over the abstract machine; the machine asks just that. Written by gen.py. -/
import Derived.Test.YtkgidjnaddjjbaaGreatProg
import Derived.Test.YtkgidjnaddjjbaaGreatAmL
import Derived.Test.YtkgidjnaddjjbaaGreatM7
namespace Go.Proofs.YtkgidjnaddjjbaaGreat.Am
set_option linter.unusedVariables false
set_option linter.unusedSimpArgs false
set_option maxRecDepth 100000

def E44 : Env := envOf [(45, G45)]

/-- pianola/ir.Run$1 -/
def F44 (c_0 : Nat → AV) (m : Mem) (k : Bool → Mem → Prop) : Prop :=
  newK m ⟨5, c_0, 66, false⟩ fun b2 m1 => ldG 5 m1 b2 0 fun c3 => F45 c3 m1 fun x4 m5 => (Keeps m m5 ∧ k (!x4) m)

def G44 (args : List AV) (m : Mem) (k : KV) : Prop := match args with
  | [a0] => kaggN 5 a0 fun c_0 => F44 c_0 m (fun x_1000 m' => k (.flat (.bool x_1000)) m')
  | _ => False

def Lam44 : LEnv := ⟨fun a σ m k => match firstReg a with
  | _ => bump False,
  fun id => match id with
  | _ => bump false,
  fun b => match keyC b with
  | _ => bump false,
  fun b σ m k => match keyC b with
  | _ => bump False⟩

theorem eqn44 (c_0 : Nat → AV) (m : Mem) (k : KV) : bodyK Tryz.prog E44 Lam44 Tryz.f44 true [(.agg 5 c_0)] m k = F44 c_0 m (fun x_1000 m' => k (.flat (.bool x_1000)) m') := by
  kernel_rfl

theorem fs44 (w0 : World) : FS Tryz.prog w0 44 G44 := by
  refine (fs_body (Γ := E44) (sound_env (l := [(45, G45)]) w0 (by
    intro p hp
    simp only [List.mem_cons, List.not_mem_nil, or_false] at hp
    rcases hp with rfl
    · exact fs45 w0)) (by kernel_rfl) Tryz.func44 (Λ := Lam44) (c := (bodyOf Tryz.f44)) (by kernel_rfl) Tryz.call44 (by kernel_rfl) (LS_of (bodyOf Tryz.f44) 0 (by kernel_rfl) (fun i hi => absurd hi (Nat.not_lt_zero i)) 0 (by kernel_rfl) (fun i hi => absurd hi (Nat.not_lt_zero i))) true (np := 1) (Nat.le_of_ble_eq_true (by kernel_rfl))).imp fun args => ?_
  by_cases hl : args.length = 1
  rotate_left
  · exact .inr fun m k hk => by
      unfold G44 at hk
      split at hk
      · exact hl rfl
      · exact hk
  obtain ⟨a0, rfl⟩ : ∃ a0, args = [a0] := len_list1 hl
  rcases kaggN_or 5 a0 with ⟨c_0, rfl⟩ | h
  rotate_left
  · exact .inr fun m k hk => h _ (by simpa only [G44, kI, kbool, kS, kptr, kaggN, kite, decide_true, eq_self] using hk)
  exact .inl fun m k => propext ⟨fun h => ⟨rfl, by rw [eqn44]; simpa only [G44, kI, kbool, kS, kptr, kaggN, kite, decide_true, eq_self] using h⟩, fun h => by have h := h.2; rw [eqn44] at h; simpa only [G44, kI, kbool, kS, kptr, kaggN, kite, decide_true, eq_self] using h⟩

def E84 : Env := envOf [(44, G44)]

def R84_2 (v_0 : AV) (v_1 : AV) (x_7 : Int) (x_8 : Int) (m : Mem) (kn : Int → Mem → Prop) (k0 : Mem → Prop) (kr : Int → Mem → Prop) : Prop :=
  kif (decide (x_8 < x_7)) (ksl v_0 fun b2 o3 l4 p5 => kif (decide (0 ≤ x_8) && decide (x_8 < l4)) (ldG 5 m b2 (o3 + (x_8).toNat * 5) fun c6 => kfunv v_1 fun f7 => E84 f7 [(.agg 5 c6)] m fun v8 m9 => kbool v8 fun x10 => kif x10 (kr x_8 m9) (kn (IntKind.wrap .i64 (x_8 + 1)) m9)) False) (k0  m)

def L84_2 (v_0 : AV) (v_1 : AV) (x_7 : Int) : Nat → Int → Mem → (Mem → Prop) → (Int → Mem → Prop) → Prop
  | 0, _,  _, _, _ => bump False
  | N + 1, x_8,  m, k0, kr => R84_2 v_0 v_1 x_7 x_8 m (fun x_8' m' => L84_2 v_0 v_1 x_7 N x_8' m' k0 kr) k0 kr

/-- slices.IndexFunc[[]pianola/ir.Op,pianola/ir.Op] -/
def F84 (v_0 : AV) (v_1 : AV) (m : Mem) (k : Int → Mem → Prop) : Prop :=
  klen v_0 fun x1 => ∃ N14, L84_2 v_0 v_1 x1 N14 0 m (fun m11 => k (-1) m11) (fun x12 m13 => k x12 m13)

def G84 (args : List AV) (m : Mem) (k : KV) : Prop := match args with
  | [a0, a1] => F84 a0 a1 m (fun x_1000 m' => k (.flat (.int .i64 x_1000)) m')
  | _ => False

def Lam84_2 (σ : Nat → AV) (m : Mem) (k : KX) : Prop := kI .i64 (σ 7) fun x_7 => kI .i64 (σ 8) fun x_8 => ∃ N, L84_2 (σ 0) (σ 1) x_7 N x_8 m (fun m' => k (.exit 0) (only [] []) m') (fun x_4' m' => k .ret (only [4] [(.flat (.int .i64 x_4'))]) m')

def Lam84 : LEnv := ⟨fun a σ m k => match firstReg a with
  | some 2 => Lam84_2 σ m k
  | _ => bump False,
  fun id => match id with
  | _ => bump false,
  fun b => match keyC b with
  | _ => bump false,
  fun b σ m k => match keyC b with
  | _ => bump False⟩

def lx84_2 : Ex → List Nat := fun e => match e with
  | .exit 0 => []
  | .ret => [4]
  | _ => []

theorem round84_2 (v_0 : AV) (v_1 : AV) (x_7 : Int) (x_8 : Int) (m : Mem) (G : List AV → Mem → Prop) (k : KX) : (wpA Tryz.prog E84 Lam84 ((loopsOf (bodyOf Tryz.f84)).getD 0 .skip) (only [0, 1, 7, 8] [v_0, v_1, (.flat (.int .i64 x_7)), (.flat (.int .i64 x_8))]) m fun e σ' m' => match e with
    | .normal => G ([0, 1, 7, 8].map σ') m'
    | .exit id => k (.exit id) (only (lx84_2 (.exit id)) ((lx84_2 (.exit id)).map σ')) m'
    | .ret => k .ret (only (lx84_2 .ret) ((lx84_2 .ret).map σ')) m') = R84_2 v_0 v_1 x_7 x_8 m (fun x_8' m' => G [v_0, v_1, (.flat (.int .i64 x_7)), (.flat (.int .i64 x_8'))] m') (fun m' => k (.exit 0) (only [] []) m') (fun x_4' m' => k .ret (only [4] [(.flat (.int .i64 x_4'))]) m') := by
  kernel_rfl

theorem loop84_2 (v_0 : AV) (v_1 : AV) (x_7 : Int) (k : KX) : ∀ (N : Nat) (x_8 : Int) (m : Mem), rounds Tryz.prog E84 Lam84 [0, 1, 7, 8] lx84_2 ((loopsOf (bodyOf Tryz.f84)).getD 0 .skip) N [v_0, v_1, (.flat (.int .i64 x_7)), (.flat (.int .i64 x_8))] m k = L84_2 v_0 v_1 x_7 N x_8 m (fun m' => k (.exit 0) (only [] []) m') (fun x_4' m' => k .ret (only [4] [(.flat (.int .i64 x_4'))]) m') := by
  intro N
  induction N with
  | zero => intros; rfl
  | succ N ih =>
    intro x_8 m
    refine (round84_2 v_0 v_1 x_7 x_8 m (fun vs m' => rounds Tryz.prog E84 Lam84 [0, 1, 7, 8] lx84_2 ((loopsOf (bodyOf Tryz.f84)).getD 0 .skip) N vs m' k) k).trans ?_
    simp only [ih]
    rfl

theorem lok84_2 : LoopOK Tryz.prog E84 Lam84 ((loopsOf (bodyOf Tryz.f84)).getD 0 .skip) := by
  refine ⟨fun σ => ∃ v_0 v_1 x_7 x_8, σ 0 = v_0 ∧ σ 1 = v_1 ∧ σ 7 = .flat (.int .i64 x_7) ∧ σ 8 = .flat (.int .i64 x_8), [0, 1, 7, 8], lx84_2, fun σ m k => ?_⟩
  have e : Lam84.loop ((loopsOf (bodyOf Tryz.f84)).getD 0 .skip) σ m k = Lam84_2 σ m k := by kernel_rfl
  rw [e]
  constructor
  · intro h
    unfold Lam84_2 at h
    obtain ⟨v_0, h0⟩ : ∃ v, σ 0 = v := ⟨_, rfl⟩
    obtain ⟨v_1, h1⟩ : ∃ v, σ 1 = v := ⟨_, rfl⟩
    obtain ⟨x_7, h2, h⟩ := kI_ok h
    obtain ⟨x_8, h3, h⟩ := kI_ok h
    obtain ⟨N, h⟩ := h
    refine ⟨⟨v_0, v_1, x_7, x_8, h0, h1, h2, h3⟩, N, ?_⟩
    have ev : [0, 1, 7, 8].map σ = [v_0, v_1, (.flat (.int .i64 x_7)), (.flat (.int .i64 x_8))] := by simp only [List.map_cons, List.map_nil, h0, h1, h2, h3]
    rw [ev, loop84_2]
    simp only [h0, h1] at h
    exact h
  · rintro ⟨⟨v_0, v_1, x_7, x_8, h0, h1, h2, h3⟩, N, h⟩
    have ev : [0, 1, 7, 8].map σ = [v_0, v_1, (.flat (.int .i64 x_7)), (.flat (.int .i64 x_8))] := by simp only [List.map_cons, List.map_nil, h0, h1, h2, h3]
    rw [ev, loop84_2] at h
    unfold Lam84_2
    try simp only [h0, h1, h2, h3, kI, kbool, kS, kptr, kaggN, kite, decide_true, eq_self]
    exact ⟨N, h⟩

theorem eqn84 (v_0 : AV) (v_1 : AV) (m : Mem) (k : KV) : bodyK Tryz.prog E84 Lam84 Tryz.f84 false [v_0, v_1] m k = F84 v_0 v_1 m (fun x_1000 m' => k (.flat (.int .i64 x_1000)) m') := by
  kernel_rfl

theorem fs84 (w0 : World) : FS Tryz.prog w0 84 G84 := by
  refine (fs_body (Γ := E84) (sound_env (l := [(44, G44)]) w0 (by
    intro p hp
    simp only [List.mem_cons, List.not_mem_nil, or_false] at hp
    rcases hp with rfl
    · exact fs44 w0)) (by kernel_rfl) Tryz.func84 (Λ := Lam84) (c := (bodyOf Tryz.f84)) (by kernel_rfl) Tryz.call84 (by kernel_rfl) (LS_of (bodyOf Tryz.f84) 1 (by kernel_rfl) (by
    intro i hi
    match i, hi with
    | 0, _ => exact lok84_2
    | i + 1, hi => omega) 0 (by kernel_rfl) (fun i hi => absurd hi (Nat.not_lt_zero i))) false (np := 2) (Nat.le_of_ble_eq_true (by kernel_rfl))).imp fun args => ?_
  by_cases hl : args.length = 2
  rotate_left
  · exact .inr fun m k hk => by
      unfold G84 at hk
      split at hk
      · exact hl rfl
      · exact hk
  obtain ⟨a0, a1, rfl⟩ : ∃ a0 a1, args = [a0, a1] := len_list2 hl

  exact .inl fun m k => propext ⟨fun h => ⟨rfl, by rw [eqn84]; simpa only [G84, kI, kbool, kS, kptr, kaggN, kite, decide_true, eq_self] using h⟩, fun h => by have h := h.2; rw [eqn84] at h; simpa only [G84, kI, kbool, kS, kptr, kaggN, kite, decide_true, eq_self] using h⟩

def E43 : Env := envOf [(84, G84)]

/-- slices.ContainsFunc[[]pianola/ir.Op,pianola/ir.Op] -/
def F43 (v_0 : AV) (v_1 : AV) (m : Mem) (k : Bool → Mem → Prop) : Prop :=
  F84 v_0 v_1 m fun x1 m2 => k (decide (x1 ≥ 0)) m2

def G43 (args : List AV) (m : Mem) (k : KV) : Prop := match args with
  | [a0, a1] => F43 a0 a1 m (fun x_1000 m' => k (.flat (.bool x_1000)) m')
  | _ => False

def Lam43 : LEnv := ⟨fun a σ m k => match firstReg a with
  | _ => bump False,
  fun id => match id with
  | _ => bump false,
  fun b => match keyC b with
  | _ => bump false,
  fun b σ m k => match keyC b with
  | _ => bump False⟩

theorem eqn43 (v_0 : AV) (v_1 : AV) (m : Mem) (k : KV) : bodyK Tryz.prog E43 Lam43 Tryz.f43 false [v_0, v_1] m k = F43 v_0 v_1 m (fun x_1000 m' => k (.flat (.bool x_1000)) m') := by
  kernel_rfl

theorem fs43 (w0 : World) : FS Tryz.prog w0 43 G43 := by
  refine (fs_body (Γ := E43) (sound_env (l := [(84, G84)]) w0 (by
    intro p hp
    simp only [List.mem_cons, List.not_mem_nil, or_false] at hp
    rcases hp with rfl
    · exact fs84 w0)) (by kernel_rfl) Tryz.func43 (Λ := Lam43) (c := (bodyOf Tryz.f43)) (by kernel_rfl) Tryz.call43 (by kernel_rfl) (LS_of (bodyOf Tryz.f43) 0 (by kernel_rfl) (fun i hi => absurd hi (Nat.not_lt_zero i)) 0 (by kernel_rfl) (fun i hi => absurd hi (Nat.not_lt_zero i))) false (np := 2) (Nat.le_of_ble_eq_true (by kernel_rfl))).imp fun args => ?_
  by_cases hl : args.length = 2
  rotate_left
  · exact .inr fun m k hk => by
      unfold G43 at hk
      split at hk
      · exact hl rfl
      · exact hk
  obtain ⟨a0, a1, rfl⟩ : ∃ a0 a1, args = [a0, a1] := len_list2 hl

  exact .inl fun m k => propext ⟨fun h => ⟨rfl, by rw [eqn43]; simpa only [G43, kI, kbool, kS, kptr, kaggN, kite, decide_true, eq_self] using h⟩, fun h => by have h := h.2; rw [eqn43] at h; simpa only [G43, kI, kbool, kS, kptr, kaggN, kite, decide_true, eq_self] using h⟩

def E85 : Env := envOf []

def P85_4102 (x_8 : Int) (m : Mem) (kr : Int → Int → Mem → Prop) : Prop :=
  kr (IntKind.wrap .u32 (x_8.fdiv 4294967296)) (IntKind.wrap .u32 x_8) m

/-- pianola/word.Mul -/
def F85 (x_0 : Int) (x_1 : Int) (x_2 : Bool) (m : Mem) (k : Int → Int → Mem → Prop) : Prop :=
  kif x_2 (P85_4102 (IntKind.wrap .u64 (IntKind.wrap .i64 ((IntKind.wrap .i64 (IntKind.wrap .i32 x_0)) * (IntKind.wrap .i64 (IntKind.wrap .i32 x_1))))) m (fun x1 x2 m3 => (Keeps m m3 ∧ k x1 x2 m))) (P85_4102 (IntKind.wrap .u64 ((IntKind.wrap .u64 x_0) * (IntKind.wrap .u64 x_1))) m (fun x4 x5 m6 => (Keeps m m6 ∧ k x4 x5 m)))

def G85 (args : List AV) (m : Mem) (k : KV) : Prop := match args with
  | [a0, a1, a2] => kI .u32 a0 fun x_0 => kI .u32 a1 fun x_1 => kbool a2 fun x_2 => F85 x_0 x_1 x_2 m (fun x_1000 x_1001 m' => k (.tup [(.flat (.int .u32 x_1000)), (.flat (.int .u32 x_1001))]) m')
  | _ => False

def LamP85_4102 (σ : Nat → AV) (m : Mem) (k : KX) : Prop := kI .u64 (σ 8) fun x_8 => P85_4102 x_8 m (fun x_6' x_7' m' => k .ret (only [6, 7] [(.flat (.int .u32 x_6')), (.flat (.int .u32 x_7'))]) m')

def Lam85 : LEnv := ⟨fun a σ m k => match firstReg a with
  | _ => bump False,
  fun id => match id with
  | _ => bump false,
  fun b => match keyC b with
  | some 4102 => true
  | _ => bump false,
  fun b σ m k => match keyC b with
  | some 4102 => LamP85_4102 σ m k
  | _ => bump False⟩

def lxp85_4102 : Ex → List Nat := fun e => match e with
  | .ret => [6, 7]
  | _ => []

theorem pc85_4102 (x_8 : Int) (m : Mem) (k : KX) : once Tryz.prog E85 Lam85 [8] lxp85_4102 (((secsOf (bodyOf Tryz.f85)).filter Lam85.cut).getD 0 .skip) [(.flat (.int .u64 x_8))] m k = P85_4102 x_8 m (fun x_6' x_7' m' => k .ret (only [6, 7] [(.flat (.int .u32 x_6')), (.flat (.int .u32 x_7'))]) m') := by
  kernel_rfl

theorem pok85_4102 : PieceOK Tryz.prog E85 Lam85 (((secsOf (bodyOf Tryz.f85)).filter Lam85.cut).getD 0 .skip) := by
  refine ⟨fun σ => ∃ x_8, σ 8 = .flat (.int .u64 x_8), [8], lxp85_4102, fun σ m k => ?_⟩
  have e : Lam85.piece (((secsOf (bodyOf Tryz.f85)).filter Lam85.cut).getD 0 .skip) σ m k = LamP85_4102 σ m k := by kernel_rfl
  rw [e]
  constructor
  · intro h
    unfold LamP85_4102 at h
    obtain ⟨x_8, h0, h⟩ := kI_ok h
    refine ⟨⟨x_8, h0⟩, ?_⟩
    have ev : [8].map σ = [(.flat (.int .u64 x_8))] := by simp only [List.map_cons, List.map_nil, h0]
    rw [ev, pc85_4102]
    exact h
  · rintro ⟨⟨x_8, h0⟩, h⟩
    have ev : [8].map σ = [(.flat (.int .u64 x_8))] := by simp only [List.map_cons, List.map_nil, h0]
    rw [ev, pc85_4102] at h
    unfold LamP85_4102
    try simp only [h0, kI, kbool, kS, kptr, kaggN, kite, decide_true, eq_self]
    exact h

theorem eqn85 (x_0 : Int) (x_1 : Int) (x_2 : Bool) (m : Mem) (k : KV) : bodyK Tryz.prog E85 Lam85 Tryz.f85 true [(.flat (.int .u32 x_0)), (.flat (.int .u32 x_1)), (.flat (.bool x_2))] m k = F85 x_0 x_1 x_2 m (fun x_1000 x_1001 m' => k (.tup [(.flat (.int .u32 x_1000)), (.flat (.int .u32 x_1001))]) m') := by
  kernel_rfl

theorem fs85 (w0 : World) : FS Tryz.prog w0 85 G85 := by
  refine (fs_body (Γ := E85) (sound_env (l := []) w0 (by
    intro p hp
    cases hp)) (by kernel_rfl) Tryz.func85 (Λ := Lam85) (c := (bodyOf Tryz.f85)) (by kernel_rfl) Tryz.call85 (by kernel_rfl) (LS_of (bodyOf Tryz.f85) 0 (by kernel_rfl) (fun i hi => absurd hi (Nat.not_lt_zero i)) 1 (by kernel_rfl) (by
    intro i hi
    match i, hi with
    | 0, _ => exact pok85_4102
    | i + 1, hi => omega)) true (np := 3) (Nat.le_of_ble_eq_true (by kernel_rfl))).imp fun args => ?_
  by_cases hl : args.length = 3
  rotate_left
  · exact .inr fun m k hk => by
      unfold G85 at hk
      split at hk
      · exact hl rfl
      · exact hk
  obtain ⟨a0, a1, a2, rfl⟩ : ∃ a0 a1 a2, args = [a0, a1, a2] := len_list3 hl
  rcases kI_or .u32 a0 with ⟨x_0, rfl⟩ | h
  rotate_left
  · exact .inr fun m k hk => h _ (by simpa only [G85, kI, kbool, kS, kptr, kaggN, kite, decide_true, eq_self] using hk)
  rcases kI_or .u32 a1 with ⟨x_1, rfl⟩ | h
  rotate_left
  · exact .inr fun m k hk => h _ (by simpa only [G85, kI, kbool, kS, kptr, kaggN, kite, decide_true, eq_self] using hk)
  rcases kbool_or a2 with ⟨x_2, rfl⟩ | h
  rotate_left
  · exact .inr fun m k hk => h _ (by simpa only [G85, kI, kbool, kS, kptr, kaggN, kite, decide_true, eq_self] using hk)
  exact .inl fun m k => propext ⟨fun h => ⟨rfl, by rw [eqn85]; simpa only [G85, kI, kbool, kS, kptr, kaggN, kite, decide_true, eq_self] using h⟩, fun h => by have h := h.2; rw [eqn85] at h; simpa only [G85, kI, kbool, kS, kptr, kaggN, kite, decide_true, eq_self] using h⟩

def E86 : Env := envOf []

/-- pianola/word.Div -/
def F86 (x_0 : Int) (x_1 : Int) (x_2 : Bool) (m : Mem) (k : Int → Int → Mem → Prop) : Prop :=
  kif (x_1 == 0) ((Keeps m m ∧ k 4294967295 x_0 m)) (kif (!x_2) (kif (decide (x_1 = 0)) False (kif (decide (x_1 = 0)) False ((Keeps m m ∧ k (IntKind.wrap .u32 (x_0.tdiv x_1)) (x_0.tmod x_1) m)))) (kif (decide (IntKind.wrap .i64 (IntKind.wrap .i32 x_1) = 0)) False (kif (decide (IntKind.wrap .i64 (IntKind.wrap .i32 x_1) = 0)) False ((Keeps m m ∧ k (IntKind.wrap .u32 (IntKind.wrap .i64 ((IntKind.wrap .i64 (IntKind.wrap .i32 x_0)).tdiv (IntKind.wrap .i64 (IntKind.wrap .i32 x_1))))) (IntKind.wrap .u32 ((IntKind.wrap .i64 (IntKind.wrap .i32 x_0)).tmod (IntKind.wrap .i64 (IntKind.wrap .i32 x_1)))) m)))))

def G86 (args : List AV) (m : Mem) (k : KV) : Prop := match args with
  | [a0, a1, a2] => kI .u32 a0 fun x_0 => kI .u32 a1 fun x_1 => kbool a2 fun x_2 => F86 x_0 x_1 x_2 m (fun x_1000 x_1001 m' => k (.tup [(.flat (.int .u32 x_1000)), (.flat (.int .u32 x_1001))]) m')
  | _ => False

def Lam86 : LEnv := ⟨fun a σ m k => match firstReg a with
  | _ => bump False,
  fun id => match id with
  | _ => bump false,
  fun b => match keyC b with
  | _ => bump false,
  fun b σ m k => match keyC b with
  | _ => bump False⟩

theorem eqn86 (x_0 : Int) (x_1 : Int) (x_2 : Bool) (m : Mem) (k : KV) : bodyK Tryz.prog E86 Lam86 Tryz.f86 true [(.flat (.int .u32 x_0)), (.flat (.int .u32 x_1)), (.flat (.bool x_2))] m k = F86 x_0 x_1 x_2 m (fun x_1000 x_1001 m' => k (.tup [(.flat (.int .u32 x_1000)), (.flat (.int .u32 x_1001))]) m') := by
  kernel_rfl

theorem fs86 (w0 : World) : FS Tryz.prog w0 86 G86 := by
  refine (fs_body (Γ := E86) (sound_env (l := []) w0 (by
    intro p hp
    cases hp)) (by kernel_rfl) Tryz.func86 (Λ := Lam86) (c := (bodyOf Tryz.f86)) (by kernel_rfl) Tryz.call86 (by kernel_rfl) (LS_of (bodyOf Tryz.f86) 0 (by kernel_rfl) (fun i hi => absurd hi (Nat.not_lt_zero i)) 0 (by kernel_rfl) (fun i hi => absurd hi (Nat.not_lt_zero i))) true (np := 3) (Nat.le_of_ble_eq_true (by kernel_rfl))).imp fun args => ?_
  by_cases hl : args.length = 3
  rotate_left
  · exact .inr fun m k hk => by
      unfold G86 at hk
      split at hk
      · exact hl rfl
      · exact hk
  obtain ⟨a0, a1, a2, rfl⟩ : ∃ a0 a1 a2, args = [a0, a1, a2] := len_list3 hl
  rcases kI_or .u32 a0 with ⟨x_0, rfl⟩ | h
  rotate_left
  · exact .inr fun m k hk => h _ (by simpa only [G86, kI, kbool, kS, kptr, kaggN, kite, decide_true, eq_self] using hk)
  rcases kI_or .u32 a1 with ⟨x_1, rfl⟩ | h
  rotate_left
  · exact .inr fun m k hk => h _ (by simpa only [G86, kI, kbool, kS, kptr, kaggN, kite, decide_true, eq_self] using hk)
  rcases kbool_or a2 with ⟨x_2, rfl⟩ | h
  rotate_left
  · exact .inr fun m k hk => h _ (by simpa only [G86, kI, kbool, kS, kptr, kaggN, kite, decide_true, eq_self] using hk)
  exact .inl fun m k => propext ⟨fun h => ⟨rfl, by rw [eqn86]; simpa only [G86, kI, kbool, kS, kptr, kaggN, kite, decide_true, eq_self] using h⟩, fun h => by have h := h.2; rw [eqn86] at h; simpa only [G86, kI, kbool, kS, kptr, kaggN, kite, decide_true, eq_self] using h⟩

def E105 : Env := envOf []

/-- pianola/ir.one -/
def F105 (x_0 : Bool) (m : Mem) (k : Int → Mem → Prop) : Prop :=
  kif x_0 ((Keeps m m ∧ k 1 m)) ((Keeps m m ∧ k 0 m))

def G105 (args : List AV) (m : Mem) (k : KV) : Prop := match args with
  | [a0] => kbool a0 fun x_0 => F105 x_0 m (fun x_1000 m' => k (.flat (.int .u32 x_1000)) m')
  | _ => False

def Lam105 : LEnv := ⟨fun a σ m k => match firstReg a with
  | _ => bump False,
  fun id => match id with
  | _ => bump false,
  fun b => match keyC b with
  | _ => bump false,
  fun b σ m k => match keyC b with
  | _ => bump False⟩

theorem eqn105 (x_0 : Bool) (m : Mem) (k : KV) : bodyK Tryz.prog E105 Lam105 Tryz.f105 true [(.flat (.bool x_0))] m k = F105 x_0 m (fun x_1000 m' => k (.flat (.int .u32 x_1000)) m') := by
  kernel_rfl

theorem fs105 (w0 : World) : FS Tryz.prog w0 105 G105 := by
  refine (fs_body (Γ := E105) (sound_env (l := []) w0 (by
    intro p hp
    cases hp)) (by kernel_rfl) Tryz.func105 (Λ := Lam105) (c := (bodyOf Tryz.f105)) (by kernel_rfl) Tryz.call105 (by kernel_rfl) (LS_of (bodyOf Tryz.f105) 0 (by kernel_rfl) (fun i hi => absurd hi (Nat.not_lt_zero i)) 0 (by kernel_rfl) (fun i hi => absurd hi (Nat.not_lt_zero i))) true (np := 1) (Nat.le_of_ble_eq_true (by kernel_rfl))).imp fun args => ?_
  by_cases hl : args.length = 1
  rotate_left
  · exact .inr fun m k hk => by
      unfold G105 at hk
      split at hk
      · exact hl rfl
      · exact hk
  obtain ⟨a0, rfl⟩ : ∃ a0, args = [a0] := len_list1 hl
  rcases kbool_or a0 with ⟨x_0, rfl⟩ | h
  rotate_left
  · exact .inr fun m k hk => h _ (by simpa only [G105, kI, kbool, kS, kptr, kaggN, kite, decide_true, eq_self] using hk)
  exact .inl fun m k => propext ⟨fun h => ⟨rfl, by rw [eqn105]; simpa only [G105, kI, kbool, kS, kptr, kaggN, kite, decide_true, eq_self] using h⟩, fun h => by have h := h.2; rw [eqn105] at h; simpa only [G105, kI, kbool, kS, kptr, kaggN, kite, decide_true, eq_self] using h⟩

def E106 : Env := envOf []

/-- pianola/word.Less -/
def F106 (x_0 : Int) (x_1 : Int) (x_2 : Bool) (m : Mem) (k : Bool → Mem → Prop) : Prop :=
  kif x_2 ((Keeps m m ∧ k (decide ((IntKind.wrap .i32 x_0) < (IntKind.wrap .i32 x_1))) m)) ((Keeps m m ∧ k (decide (x_0 < x_1)) m))

def G106 (args : List AV) (m : Mem) (k : KV) : Prop := match args with
  | [a0, a1, a2] => kI .u32 a0 fun x_0 => kI .u32 a1 fun x_1 => kbool a2 fun x_2 => F106 x_0 x_1 x_2 m (fun x_1000 m' => k (.flat (.bool x_1000)) m')
  | _ => False

def Lam106 : LEnv := ⟨fun a σ m k => match firstReg a with
  | _ => bump False,
  fun id => match id with
  | _ => bump false,
  fun b => match keyC b with
  | _ => bump false,
  fun b σ m k => match keyC b with
  | _ => bump False⟩

theorem eqn106 (x_0 : Int) (x_1 : Int) (x_2 : Bool) (m : Mem) (k : KV) : bodyK Tryz.prog E106 Lam106 Tryz.f106 true [(.flat (.int .u32 x_0)), (.flat (.int .u32 x_1)), (.flat (.bool x_2))] m k = F106 x_0 x_1 x_2 m (fun x_1000 m' => k (.flat (.bool x_1000)) m') := by
  kernel_rfl

theorem fs106 (w0 : World) : FS Tryz.prog w0 106 G106 := by
  refine (fs_body (Γ := E106) (sound_env (l := []) w0 (by
    intro p hp
    cases hp)) (by kernel_rfl) Tryz.func106 (Λ := Lam106) (c := (bodyOf Tryz.f106)) (by kernel_rfl) Tryz.call106 (by kernel_rfl) (LS_of (bodyOf Tryz.f106) 0 (by kernel_rfl) (fun i hi => absurd hi (Nat.not_lt_zero i)) 0 (by kernel_rfl) (fun i hi => absurd hi (Nat.not_lt_zero i))) true (np := 3) (Nat.le_of_ble_eq_true (by kernel_rfl))).imp fun args => ?_
  by_cases hl : args.length = 3
  rotate_left
  · exact .inr fun m k hk => by
      unfold G106 at hk
      split at hk
      · exact hl rfl
      · exact hk
  obtain ⟨a0, a1, a2, rfl⟩ : ∃ a0 a1 a2, args = [a0, a1, a2] := len_list3 hl
  rcases kI_or .u32 a0 with ⟨x_0, rfl⟩ | h
  rotate_left
  · exact .inr fun m k hk => h _ (by simpa only [G106, kI, kbool, kS, kptr, kaggN, kite, decide_true, eq_self] using hk)
  rcases kI_or .u32 a1 with ⟨x_1, rfl⟩ | h
  rotate_left
  · exact .inr fun m k hk => h _ (by simpa only [G106, kI, kbool, kS, kptr, kaggN, kite, decide_true, eq_self] using hk)
  rcases kbool_or a2 with ⟨x_2, rfl⟩ | h
  rotate_left
  · exact .inr fun m k hk => h _ (by simpa only [G106, kI, kbool, kS, kptr, kaggN, kite, decide_true, eq_self] using hk)
  exact .inl fun m k => propext ⟨fun h => ⟨rfl, by rw [eqn106]; simpa only [G106, kI, kbool, kS, kptr, kaggN, kite, decide_true, eq_self] using h⟩, fun h => by have h := h.2; rw [eqn106] at h; simpa only [G106, kI, kbool, kS, kptr, kaggN, kite, decide_true, eq_self] using h⟩

def E121 : Env := envOf []

def P121_7102 (x_0 : Int) (x_2 : Int) (m : Mem) (kr : Int → Mem → Prop) : Prop :=
  kif (decide (0 ≤ IntKind.wrap .u8 x_0) && decide (IntKind.wrap .u8 x_0 < Yb11.size)) (kr (IntKind.wrap .i64 (x_2 + (IntKind.wrap .i64 ((Yb11.data.getD (IntKind.wrap .u8 x_0).toNat 0).toNat)))) m) False

def P121_4103 (x_0 : Int) (x_2 : Int) (m : Mem) (kr : Int → Mem → Prop) : Prop :=
  kif (decide (x_0 ≥ 256)) (P121_7102 (x_0.fdiv 256) (IntKind.wrap .i64 (x_2 + 8)) m (fun x1 m2 => kr x1 m2)) (P121_7102 x_0 x_2 m (fun x3 m4 => kr x3 m4))

/-- math/bits.Len32 -/
def F121 (x_0 : Int) (m : Mem) (k : Int → Mem → Prop) : Prop :=
  kif (decide (x_0 ≥ 65536)) (P121_4103 (x_0.fdiv 65536) 16 m (fun x5 m6 => (Keeps m m6 ∧ k x5 m))) (P121_4103 x_0 0 m (fun x7 m8 => (Keeps m m8 ∧ k x7 m)))

def G121 (args : List AV) (m : Mem) (k : KV) : Prop := match args with
  | [a0] => kI .u32 a0 fun x_0 => F121 x_0 m (fun x_1000 m' => k (.flat (.int .i64 x_1000)) m')
  | _ => False

def LamP121_4103 (σ : Nat → AV) (m : Mem) (k : KX) : Prop := kI .u32 (σ 0) fun x_0 => kI .i64 (σ 2) fun x_2 => P121_4103 x_0 x_2 m (fun x_2' m' => k .ret (only [2] [(.flat (.int .i64 x_2'))]) m')

def LamP121_7102 (σ : Nat → AV) (m : Mem) (k : KX) : Prop := kI .u32 (σ 0) fun x_0 => kI .i64 (σ 2) fun x_2 => P121_7102 x_0 x_2 m (fun x_2' m' => k .ret (only [2] [(.flat (.int .i64 x_2'))]) m')

def Lam121 : LEnv := ⟨fun a σ m k => match firstReg a with
  | _ => bump False,
  fun id => match id with
  | _ => bump false,
  fun b => match keyC b with
  | some 4103 => true
  | some 7102 => true
  | _ => bump false,
  fun b σ m k => match keyC b with
  | some 4103 => LamP121_4103 σ m k
  | some 7102 => LamP121_7102 σ m k
  | _ => bump False⟩

def lxp121_7102 : Ex → List Nat := fun e => match e with
  | .ret => [2]
  | _ => []

theorem pc121_7102 (x_0 : Int) (x_2 : Int) (m : Mem) (k : KX) : once Tryz.prog E121 Lam121 [0, 2] lxp121_7102 (((secsOf (bodyOf Tryz.f121)).filter Lam121.cut).getD 1 .skip) [(.flat (.int .u32 x_0)), (.flat (.int .i64 x_2))] m k = P121_7102 x_0 x_2 m (fun x_2' m' => k .ret (only [2] [(.flat (.int .i64 x_2'))]) m') := by
  kernel_rfl

theorem pok121_7102 : PieceOK Tryz.prog E121 Lam121 (((secsOf (bodyOf Tryz.f121)).filter Lam121.cut).getD 1 .skip) := by
  refine ⟨fun σ => ∃ x_0 x_2, σ 0 = .flat (.int .u32 x_0) ∧ σ 2 = .flat (.int .i64 x_2), [0, 2], lxp121_7102, fun σ m k => ?_⟩
  have e : Lam121.piece (((secsOf (bodyOf Tryz.f121)).filter Lam121.cut).getD 1 .skip) σ m k = LamP121_7102 σ m k := by kernel_rfl
  rw [e]
  constructor
  · intro h
    unfold LamP121_7102 at h
    obtain ⟨x_0, h0, h⟩ := kI_ok h
    obtain ⟨x_2, h1, h⟩ := kI_ok h
    refine ⟨⟨x_0, x_2, h0, h1⟩, ?_⟩
    have ev : [0, 2].map σ = [(.flat (.int .u32 x_0)), (.flat (.int .i64 x_2))] := by simp only [List.map_cons, List.map_nil, h0, h1]
    rw [ev, pc121_7102]
    exact h
  · rintro ⟨⟨x_0, x_2, h0, h1⟩, h⟩
    have ev : [0, 2].map σ = [(.flat (.int .u32 x_0)), (.flat (.int .i64 x_2))] := by simp only [List.map_cons, List.map_nil, h0, h1]
    rw [ev, pc121_7102] at h
    unfold LamP121_7102
    try simp only [h0, h1, kI, kbool, kS, kptr, kaggN, kite, decide_true, eq_self]
    exact h

def lxp121_4103 : Ex → List Nat := fun e => match e with
  | .ret => [2]
  | _ => []

theorem pc121_4103 (x_0 : Int) (x_2 : Int) (m : Mem) (k : KX) : once Tryz.prog E121 Lam121 [0, 2] lxp121_4103 (((secsOf (bodyOf Tryz.f121)).filter Lam121.cut).getD 0 .skip) [(.flat (.int .u32 x_0)), (.flat (.int .i64 x_2))] m k = P121_4103 x_0 x_2 m (fun x_2' m' => k .ret (only [2] [(.flat (.int .i64 x_2'))]) m') := by
  kernel_rfl

theorem pok121_4103 : PieceOK Tryz.prog E121 Lam121 (((secsOf (bodyOf Tryz.f121)).filter Lam121.cut).getD 0 .skip) := by
  refine ⟨fun σ => ∃ x_0 x_2, σ 0 = .flat (.int .u32 x_0) ∧ σ 2 = .flat (.int .i64 x_2), [0, 2], lxp121_4103, fun σ m k => ?_⟩
  have e : Lam121.piece (((secsOf (bodyOf Tryz.f121)).filter Lam121.cut).getD 0 .skip) σ m k = LamP121_4103 σ m k := by kernel_rfl
  rw [e]
  constructor
  · intro h
    unfold LamP121_4103 at h
    obtain ⟨x_0, h0, h⟩ := kI_ok h
    obtain ⟨x_2, h1, h⟩ := kI_ok h
    refine ⟨⟨x_0, x_2, h0, h1⟩, ?_⟩
    have ev : [0, 2].map σ = [(.flat (.int .u32 x_0)), (.flat (.int .i64 x_2))] := by simp only [List.map_cons, List.map_nil, h0, h1]
    rw [ev, pc121_4103]
    exact h
  · rintro ⟨⟨x_0, x_2, h0, h1⟩, h⟩
    have ev : [0, 2].map σ = [(.flat (.int .u32 x_0)), (.flat (.int .i64 x_2))] := by simp only [List.map_cons, List.map_nil, h0, h1]
    rw [ev, pc121_4103] at h
    unfold LamP121_4103
    try simp only [h0, h1, kI, kbool, kS, kptr, kaggN, kite, decide_true, eq_self]
    exact h

theorem eqn121 (x_0 : Int) (m : Mem) (k : KV) : bodyK Tryz.prog E121 Lam121 Tryz.f121 true [(.flat (.int .u32 x_0))] m k = F121 x_0 m (fun x_1000 m' => k (.flat (.int .i64 x_1000)) m') := by
  kernel_rfl

theorem fs121 (w0 : World) : FS Tryz.prog w0 121 G121 := by
  refine (fs_body (Γ := E121) (sound_env (l := []) w0 (by
    intro p hp
    cases hp)) (by kernel_rfl) Tryz.func121 (Λ := Lam121) (c := (bodyOf Tryz.f121)) (by kernel_rfl) Tryz.call121 (by kernel_rfl) (LS_of (bodyOf Tryz.f121) 0 (by kernel_rfl) (fun i hi => absurd hi (Nat.not_lt_zero i)) 2 (by kernel_rfl) (by
    intro i hi
    match i, hi with
    | 0, _ => exact pok121_4103
    | 1, _ => exact pok121_7102
    | i + 2, hi => omega)) true (np := 1) (Nat.le_of_ble_eq_true (by kernel_rfl))).imp fun args => ?_
  by_cases hl : args.length = 1
  rotate_left
  · exact .inr fun m k hk => by
      unfold G121 at hk
      split at hk
      · exact hl rfl
      · exact hk
  obtain ⟨a0, rfl⟩ : ∃ a0, args = [a0] := len_list1 hl
  rcases kI_or .u32 a0 with ⟨x_0, rfl⟩ | h
  rotate_left
  · exact .inr fun m k hk => h _ (by simpa only [G121, kI, kbool, kS, kptr, kaggN, kite, decide_true, eq_self] using hk)
  exact .inl fun m k => propext ⟨fun h => ⟨rfl, by rw [eqn121]; simpa only [G121, kI, kbool, kS, kptr, kaggN, kite, decide_true, eq_self] using h⟩, fun h => by have h := h.2; rw [eqn121] at h; simpa only [G121, kI, kbool, kS, kptr, kaggN, kite, decide_true, eq_self] using h⟩

def E118 : Env := envOf [(121, G121)]

/-- math/bits.LeadingZeros32 -/
def F118 (x_0 : Int) (m : Mem) (k : Int → Mem → Prop) : Prop :=
  F121 x_0 m fun x1 m2 => (Keeps m m2 ∧ k (IntKind.wrap .i64 (32 - x1)) m)

def G118 (args : List AV) (m : Mem) (k : KV) : Prop := match args with
  | [a0] => kI .u32 a0 fun x_0 => F118 x_0 m (fun x_1000 m' => k (.flat (.int .i64 x_1000)) m')
  | _ => False

def Lam118 : LEnv := ⟨fun a σ m k => match firstReg a with
  | _ => bump False,
  fun id => match id with
  | _ => bump false,
  fun b => match keyC b with
  | _ => bump false,
  fun b σ m k => match keyC b with
  | _ => bump False⟩

theorem eqn118 (x_0 : Int) (m : Mem) (k : KV) : bodyK Tryz.prog E118 Lam118 Tryz.f118 true [(.flat (.int .u32 x_0))] m k = F118 x_0 m (fun x_1000 m' => k (.flat (.int .i64 x_1000)) m') := by
  kernel_rfl

theorem fs118 (w0 : World) : FS Tryz.prog w0 118 G118 := by
  refine (fs_body (Γ := E118) (sound_env (l := [(121, G121)]) w0 (by
    intro p hp
    simp only [List.mem_cons, List.not_mem_nil, or_false] at hp
    rcases hp with rfl
    · exact fs121 w0)) (by kernel_rfl) Tryz.func118 (Λ := Lam118) (c := (bodyOf Tryz.f118)) (by kernel_rfl) Tryz.call118 (by kernel_rfl) (LS_of (bodyOf Tryz.f118) 0 (by kernel_rfl) (fun i hi => absurd hi (Nat.not_lt_zero i)) 0 (by kernel_rfl) (fun i hi => absurd hi (Nat.not_lt_zero i))) true (np := 1) (Nat.le_of_ble_eq_true (by kernel_rfl))).imp fun args => ?_
  by_cases hl : args.length = 1
  rotate_left
  · exact .inr fun m k hk => by
      unfold G118 at hk
      split at hk
      · exact hl rfl
      · exact hk
  obtain ⟨a0, rfl⟩ : ∃ a0, args = [a0] := len_list1 hl
  rcases kI_or .u32 a0 with ⟨x_0, rfl⟩ | h
  rotate_left
  · exact .inr fun m k hk => h _ (by simpa only [G118, kI, kbool, kS, kptr, kaggN, kite, decide_true, eq_self] using hk)
  exact .inl fun m k => propext ⟨fun h => ⟨rfl, by rw [eqn118]; simpa only [G118, kI, kbool, kS, kptr, kaggN, kite, decide_true, eq_self] using h⟩, fun h => by have h := h.2; rw [eqn118] at h; simpa only [G118, kI, kbool, kS, kptr, kaggN, kite, decide_true, eq_self] using h⟩

def E107 : Env := envOf [(118, G118)]

/-- pianola/word.Clz -/
def F107 (x_0 : Int) (m : Mem) (k : Int → Mem → Prop) : Prop :=
  F118 x_0 m fun x1 m2 => (Keeps m m2 ∧ k x1 m)

def G107 (args : List AV) (m : Mem) (k : KV) : Prop := match args with
  | [a0] => kI .u32 a0 fun x_0 => F107 x_0 m (fun x_1000 m' => k (.flat (.int .i64 x_1000)) m')
  | _ => False

def Lam107 : LEnv := ⟨fun a σ m k => match firstReg a with
  | _ => bump False,
  fun id => match id with
  | _ => bump false,
  fun b => match keyC b with
  | _ => bump false,
  fun b σ m k => match keyC b with
  | _ => bump False⟩

theorem eqn107 (x_0 : Int) (m : Mem) (k : KV) : bodyK Tryz.prog E107 Lam107 Tryz.f107 true [(.flat (.int .u32 x_0))] m k = F107 x_0 m (fun x_1000 m' => k (.flat (.int .i64 x_1000)) m') := by
  kernel_rfl

theorem fs107 (w0 : World) : FS Tryz.prog w0 107 G107 := by
  refine (fs_body (Γ := E107) (sound_env (l := [(118, G118)]) w0 (by
    intro p hp
    simp only [List.mem_cons, List.not_mem_nil, or_false] at hp
    rcases hp with rfl
    · exact fs118 w0)) (by kernel_rfl) Tryz.func107 (Λ := Lam107) (c := (bodyOf Tryz.f107)) (by kernel_rfl) Tryz.call107 (by kernel_rfl) (LS_of (bodyOf Tryz.f107) 0 (by kernel_rfl) (fun i hi => absurd hi (Nat.not_lt_zero i)) 0 (by kernel_rfl) (fun i hi => absurd hi (Nat.not_lt_zero i))) true (np := 1) (Nat.le_of_ble_eq_true (by kernel_rfl))).imp fun args => ?_
  by_cases hl : args.length = 1
  rotate_left
  · exact .inr fun m k hk => by
      unfold G107 at hk
      split at hk
      · exact hl rfl
      · exact hk
  obtain ⟨a0, rfl⟩ : ∃ a0, args = [a0] := len_list1 hl
  rcases kI_or .u32 a0 with ⟨x_0, rfl⟩ | h
  rotate_left
  · exact .inr fun m k hk => h _ (by simpa only [G107, kI, kbool, kS, kptr, kaggN, kite, decide_true, eq_self] using hk)
  exact .inl fun m k => propext ⟨fun h => ⟨rfl, by rw [eqn107]; simpa only [G107, kI, kbool, kS, kptr, kaggN, kite, decide_true, eq_self] using h⟩, fun h => by have h := h.2; rw [eqn107] at h; simpa only [G107, kI, kbool, kS, kptr, kaggN, kite, decide_true, eq_self] using h⟩

def E108 : Env := envOf [(118, G118)]

/-- pianola/word.Clo -/
def F108 (x_0 : Int) (m : Mem) (k : Int → Mem → Prop) : Prop :=
  F118 (bits .xor .u32 4294967295 x_0) m fun x1 m2 => (Keeps m m2 ∧ k x1 m)

def G108 (args : List AV) (m : Mem) (k : KV) : Prop := match args with
  | [a0] => kI .u32 a0 fun x_0 => F108 x_0 m (fun x_1000 m' => k (.flat (.int .i64 x_1000)) m')
  | _ => False

def Lam108 : LEnv := ⟨fun a σ m k => match firstReg a with
  | _ => bump False,
  fun id => match id with
  | _ => bump false,
  fun b => match keyC b with
  | _ => bump false,
  fun b σ m k => match keyC b with
  | _ => bump False⟩

theorem eqn108 (x_0 : Int) (m : Mem) (k : KV) : bodyK Tryz.prog E108 Lam108 Tryz.f108 true [(.flat (.int .u32 x_0))] m k = F108 x_0 m (fun x_1000 m' => k (.flat (.int .i64 x_1000)) m') := by
  kernel_rfl

theorem fs108 (w0 : World) : FS Tryz.prog w0 108 G108 := by
  refine (fs_body (Γ := E108) (sound_env (l := [(118, G118)]) w0 (by
    intro p hp
    simp only [List.mem_cons, List.not_mem_nil, or_false] at hp
    rcases hp with rfl
    · exact fs118 w0)) (by kernel_rfl) Tryz.func108 (Λ := Lam108) (c := (bodyOf Tryz.f108)) (by kernel_rfl) Tryz.call108 (by kernel_rfl) (LS_of (bodyOf Tryz.f108) 0 (by kernel_rfl) (fun i hi => absurd hi (Nat.not_lt_zero i)) 0 (by kernel_rfl) (fun i hi => absurd hi (Nat.not_lt_zero i))) true (np := 1) (Nat.le_of_ble_eq_true (by kernel_rfl))).imp fun args => ?_
  by_cases hl : args.length = 1
  rotate_left
  · exact .inr fun m k hk => by
      unfold G108 at hk
      split at hk
      · exact hl rfl
      · exact hk
  obtain ⟨a0, rfl⟩ : ∃ a0, args = [a0] := len_list1 hl
  rcases kI_or .u32 a0 with ⟨x_0, rfl⟩ | h
  rotate_left
  · exact .inr fun m k hk => h _ (by simpa only [G108, kI, kbool, kS, kptr, kaggN, kite, decide_true, eq_self] using hk)
  exact .inl fun m k => propext ⟨fun h => ⟨rfl, by rw [eqn108]; simpa only [G108, kI, kbool, kS, kptr, kaggN, kite, decide_true, eq_self] using h⟩, fun h => by have h := h.2; rw [eqn108] at h; simpa only [G108, kI, kbool, kS, kptr, kaggN, kite, decide_true, eq_self] using h⟩

def E87 : Env := envOf [(89, G89), (105, G105), (106, G106), (107, G107), (108, G108)]

def P87_24004 (x_1 : Int) (x_2 : Int) (b_3 o_3 : Nat) (x_8 : Int) (x_63 : Bool) (m : Mem) (kr : Int → Mem → Prop) (kn : Mem → Prop) : Prop :=
  kif x_63 (ldI .i64 m b_3 (o_3 + 0) fun x7 => F106 x_1 x_2 (x7 == 12) m fun x8 m9 => F105 x8 m9 fun x10 m11 => kr x10 m11) (kif (x_8 == 14) (kr (IntKind.wrap .u32 (x_1 * x_2)) m) (kif (x_8 == 15) (F107 x_1 m fun x12 m13 => kr (IntKind.wrap .u32 x12) m13) (kif (x_8 == 16) (F108 x_1 m fun x14 m15 => kr (IntKind.wrap .u32 x14) m15) (kn  m))))

/-- pianola/ir.of -/
def F87 (c_0 : Nat → AV) (x_1 : Int) (x_2 : Int) (m : Mem) (k : Int → Mem → Prop) : Prop :=
  newK m ⟨5, c_0, 66, false⟩ fun b2 m1 => ldI .i64 m1 b2 0 fun x3 => kif (x3 == 1) (ldI .u32 m1 b2 4 fun x4 => (Keeps m m1 ∧ k x4 m)) (kif (x3 == 3) ((Keeps m m1 ∧ k (IntKind.wrap .u32 (x_1 + x_2)) m)) (kif (x3 == 4) ((Keeps m m1 ∧ k (IntKind.wrap .u32 (x_1 - x_2)) m)) (kif (x3 == 5) ((Keeps m m1 ∧ k (bits .and .u32 x_1 x_2) m)) (kif (x3 == 6) ((Keeps m m1 ∧ k (bits .or .u32 x_1 x_2) m)) (kif (x3 == 7) ((Keeps m m1 ∧ k (bits .xor .u32 x_1 x_2) m)) (kif (x3 == 8) ((Keeps m m1 ∧ k (bits .xor .u32 4294967295 (bits .or .u32 x_1 x_2)) m)) (kif (x3 == 9) (kif (decide (bits .and .u32 x_2 31 < 0)) False ((Keeps m m1 ∧ k (IntKind.wrap .u32 (x_1 * 2 ^ min (bits .and .u32 x_2 31).toNat 32)) m))) (kif (x3 == 10) (kif (decide (bits .and .u32 x_2 31 < 0)) False ((Keeps m m1 ∧ k (x_1.fdiv (2 ^ min (bits .and .u32 x_2 31).toNat 32)) m))) (kif (x3 == 11) (F89 x_1 (IntKind.wrap .i64 (bits .and .u32 x_2 31)) m1 fun x5 m6 => (Keeps m m6 ∧ k x5 m)) (kif (x3 == 12) (P87_24004 x_1 x_2 b2 0 x3 (x3 == 12) m1 (fun x16 m17 => (Keeps m m17 ∧ k x16 m)) (fun m18 => (Keeps m m18 ∧ k x_1 m))) (P87_24004 x_1 x_2 b2 0 x3 (x3 == 13) m1 (fun x19 m20 => (Keeps m m20 ∧ k x19 m)) (fun m21 => (Keeps m m21 ∧ k x_1 m)))))))))))))

def G87 (args : List AV) (m : Mem) (k : KV) : Prop := match args with
  | [a0, a1, a2] => kaggN 5 a0 fun c_0 => kI .u32 a1 fun x_1 => kI .u32 a2 fun x_2 => F87 c_0 x_1 x_2 m (fun x_1000 m' => k (.flat (.int .u32 x_1000)) m')
  | _ => False

def LamP87_24004 (σ : Nat → AV) (m : Mem) (k : KX) : Prop := kI .u32 (σ 1) fun x_1 => kI .u32 (σ 2) fun x_2 => kptr (σ 3) fun b_3 o_3 => kI .i64 (σ 8) fun x_8 => kbool (σ 63) fun x_63 => P87_24004 x_1 x_2 b_3 o_3 x_8 x_63 m (fun x_6' m' => k .ret (only [6] [(.flat (.int .u32 x_6'))]) m') (fun m' => k .normal (only [1] [(.flat (.int .u32 x_1))]) m')

def Lam87 : LEnv := ⟨fun a σ m k => match firstReg a with
  | _ => bump False,
  fun id => match id with
  | _ => bump false,
  fun b => match keyC b with
  | some 24004 => true
  | _ => bump false,
  fun b σ m k => match keyC b with
  | some 24004 => LamP87_24004 σ m k
  | _ => bump False⟩

def lxp87_24004 : Ex → List Nat := fun e => match e with
  | .ret => [6]
  | .normal => [1]
  | _ => []

theorem pc87_24004 (x_1 : Int) (x_2 : Int) (b_3 o_3 : Nat) (x_8 : Int) (x_63 : Bool) (m : Mem) (k : KX) : once Tryz.prog E87 Lam87 [1, 2, 3, 8, 63] lxp87_24004 (((secsOf (bodyOf Tryz.f87)).filter Lam87.cut).getD 0 .skip) [(.flat (.int .u32 x_1)), (.flat (.int .u32 x_2)), (.ptr b_3 o_3), (.flat (.int .i64 x_8)), (.flat (.bool x_63))] m k = P87_24004 x_1 x_2 b_3 o_3 x_8 x_63 m (fun x_6' m' => k .ret (only [6] [(.flat (.int .u32 x_6'))]) m') (fun m' => k .normal (only [1] [(.flat (.int .u32 x_1))]) m') := by
  kernel_rfl

theorem pok87_24004 : PieceOK Tryz.prog E87 Lam87 (((secsOf (bodyOf Tryz.f87)).filter Lam87.cut).getD 0 .skip) := by
  refine ⟨fun σ => ∃ x_1 x_2 b_3 o_3 x_8 x_63, σ 1 = .flat (.int .u32 x_1) ∧ σ 2 = .flat (.int .u32 x_2) ∧ σ 3 = .ptr b_3 o_3 ∧ σ 8 = .flat (.int .i64 x_8) ∧ σ 63 = .flat (.bool x_63), [1, 2, 3, 8, 63], lxp87_24004, fun σ m k => ?_⟩
  have e : Lam87.piece (((secsOf (bodyOf Tryz.f87)).filter Lam87.cut).getD 0 .skip) σ m k = LamP87_24004 σ m k := by kernel_rfl
  rw [e]
  constructor
  · intro h
    unfold LamP87_24004 at h
    obtain ⟨x_1, h0, h⟩ := kI_ok h
    obtain ⟨x_2, h1, h⟩ := kI_ok h
    obtain ⟨b_3, o_3, h2, h⟩ := kptr_ok h
    obtain ⟨x_8, h3, h⟩ := kI_ok h
    obtain ⟨x_63, h4, h⟩ := kbool_ok h
    refine ⟨⟨x_1, x_2, b_3, o_3, x_8, x_63, h0, h1, h2, h3, h4⟩, ?_⟩
    have ev : [1, 2, 3, 8, 63].map σ = [(.flat (.int .u32 x_1)), (.flat (.int .u32 x_2)), (.ptr b_3 o_3), (.flat (.int .i64 x_8)), (.flat (.bool x_63))] := by simp only [List.map_cons, List.map_nil, h0, h1, h2, h3, h4]
    rw [ev, pc87_24004]
    exact h
  · rintro ⟨⟨x_1, x_2, b_3, o_3, x_8, x_63, h0, h1, h2, h3, h4⟩, h⟩
    have ev : [1, 2, 3, 8, 63].map σ = [(.flat (.int .u32 x_1)), (.flat (.int .u32 x_2)), (.ptr b_3 o_3), (.flat (.int .i64 x_8)), (.flat (.bool x_63))] := by simp only [List.map_cons, List.map_nil, h0, h1, h2, h3, h4]
    rw [ev, pc87_24004] at h
    unfold LamP87_24004
    try simp only [h0, h1, h2, h3, h4, kI, kbool, kS, kptr, kaggN, kite, decide_true, eq_self]
    exact h

theorem eqn87 (c_0 : Nat → AV) (x_1 : Int) (x_2 : Int) (m : Mem) (k : KV) : bodyK Tryz.prog E87 Lam87 Tryz.f87 true [(.agg 5 c_0), (.flat (.int .u32 x_1)), (.flat (.int .u32 x_2))] m k = F87 c_0 x_1 x_2 m (fun x_1000 m' => k (.flat (.int .u32 x_1000)) m') := by
  kernel_rfl

theorem fs87 (w0 : World) : FS Tryz.prog w0 87 G87 := by
  refine (fs_body (Γ := E87) (sound_env (l := [(89, G89), (105, G105), (106, G106), (107, G107), (108, G108)]) w0 (by
    intro p hp
    simp only [List.mem_cons, List.not_mem_nil, or_false] at hp
    rcases hp with rfl | rfl | rfl | rfl | rfl
    · exact fs89 w0
    · exact fs105 w0
    · exact fs106 w0
    · exact fs107 w0
    · exact fs108 w0)) (by kernel_rfl) Tryz.func87 (Λ := Lam87) (c := (bodyOf Tryz.f87)) (by kernel_rfl) Tryz.call87 (by kernel_rfl) (LS_of (bodyOf Tryz.f87) 0 (by kernel_rfl) (fun i hi => absurd hi (Nat.not_lt_zero i)) 1 (by kernel_rfl) (by
    intro i hi
    match i, hi with
    | 0, _ => exact pok87_24004
    | i + 1, hi => omega)) true (np := 3) (Nat.le_of_ble_eq_true (by kernel_rfl))).imp fun args => ?_
  by_cases hl : args.length = 3
  rotate_left
  · exact .inr fun m k hk => by
      unfold G87 at hk
      split at hk
      · exact hl rfl
      · exact hk
  obtain ⟨a0, a1, a2, rfl⟩ : ∃ a0 a1 a2, args = [a0, a1, a2] := len_list3 hl
  rcases kaggN_or 5 a0 with ⟨c_0, rfl⟩ | h
  rotate_left
  · exact .inr fun m k hk => h _ (by simpa only [G87, kI, kbool, kS, kptr, kaggN, kite, decide_true, eq_self] using hk)
  rcases kI_or .u32 a1 with ⟨x_1, rfl⟩ | h
  rotate_left
  · exact .inr fun m k hk => h _ (by simpa only [G87, kI, kbool, kS, kptr, kaggN, kite, decide_true, eq_self] using hk)
  rcases kI_or .u32 a2 with ⟨x_2, rfl⟩ | h
  rotate_left
  · exact .inr fun m k hk => h _ (by simpa only [G87, kI, kbool, kS, kptr, kaggN, kite, decide_true, eq_self] using hk)
  exact .inl fun m k => propext ⟨fun h => ⟨rfl, by rw [eqn87]; simpa only [G87, kI, kbool, kS, kptr, kaggN, kite, decide_true, eq_self] using h⟩, fun h => by have h := h.2; rw [eqn87] at h; simpa only [G87, kI, kbool, kS, kptr, kaggN, kite, decide_true, eq_self] using h⟩

end Go.Proofs.YtkgidjnaddjjbaaGreat.Am
