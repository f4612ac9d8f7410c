/- What Go functions ask of what follows them, as plain functions over the abstract machine; the machine asks just that. Written by gen.py. -/
import Derived.Test.YtkgidjnaddjjbaaProg
import Derived.Test.YtkgidjnaddjjbaaAmL
import Derived.Test.YtkgidjnaddjjbaaM2
namespace Go.Proofs.Ytkgidjnaddjjbaa.Am
set_option linter.unusedVariables false
set_option linter.unusedSimpArgs false
set_option maxRecDepth 100000

def E7 : Env := envOf []

def R7_4 (v_0 : AV) (v_1 : AV) (x_5 : Int) (m : Mem) (kn : Int → Mem → Prop) (k0 : Mem → Prop) (kr : Bool → Mem → Prop) : Prop :=
  klen v_0 fun x3 => kif (decide (x_5 < x3)) (ksl v_0 fun b4 o5 l6 p7 => kif (decide (0 ≤ x_5) && decide (x_5 < l6)) (ldI .u32 m b4 (o5 + (x_5).toNat * 1) fun x8 => ksl v_1 fun b9 o10 l11 p12 => kif (decide (0 ≤ x_5) && decide (x_5 < l11)) (ldI .u32 m b9 (o10 + (x_5).toNat * 1) fun x13 => kif (x8 != x13) (kr false m) (kn (IntKind.wrap .i64 (x_5 + 1)) m)) False) False) (k0  m)

def L7_4 (v_0 : AV) (v_1 : AV) : Nat → Int → Mem → (Mem → Prop) → (Bool → Mem → Prop) → Prop
  | 0, _,  _, _, _ => bump False
  | N + 1, x_5,  m, k0, kr => R7_4 v_0 v_1 x_5 m (fun x_5' m' => L7_4 v_0 v_1 N x_5' m' k0 kr) k0 kr

/-- pianola/pianolabook.Same[uint32] -/
def F7 (v_0 : AV) (v_1 : AV) (m : Mem) (k : Bool → Mem → Prop) : Prop :=
  klen v_0 fun x1 => klen v_1 fun x2 => kif (x1 != x2) ((Keeps m m ∧ k false m)) (∃ N17, L7_4 v_0 v_1 N17 0 m (fun m14 => (Keeps m m14 ∧ k true m)) (fun x15 m16 => (Keeps m m16 ∧ k x15 m)))

def G7 (args : List AV) (m : Mem) (k : KV) : Prop := match args with
  | [a0, a1] => F7 a0 a1 m (fun x_1000 m' => k (.flat (.bool x_1000)) m')
  | _ => False

def Lam7_4 (σ : Nat → AV) (m : Mem) (k : KX) : Prop := kI .i64 (σ 5) fun x_5 => ∃ N, L7_4 (σ 0) (σ 1) N x_5 m (fun m' => k (.exit 0) (only [] []) m') (fun x_4' m' => k .ret (only [4] [(.flat (.bool x_4'))]) m')

def Lam7 : LEnv := ⟨fun a σ m k => match firstReg a with
  | some 4 => Lam7_4 σ m k
  | _ => bump False,
  fun id => match id with
  | _ => bump false,
  fun b => match keyC b with
  | _ => bump false,
  fun b σ m k => match keyC b with
  | _ => bump False⟩

def lx7_4 : Ex → List Nat := fun e => match e with
  | .exit 0 => []
  | .ret => [4]
  | _ => []

theorem round7_4 (v_0 : AV) (v_1 : AV) (x_5 : Int) (m : Mem) (G : List AV → Mem → Prop) (k : KX) : (wpA Try.prog E7 Lam7 ((loopsOf (bodyOf Try.f7)).getD 0 .skip) (only [0, 1, 5] [v_0, v_1, (.flat (.int .i64 x_5))]) m fun e σ' m' => match e with
    | .normal => G ([0, 1, 5].map σ') m'
    | .exit id => k (.exit id) (only (lx7_4 (.exit id)) ((lx7_4 (.exit id)).map σ')) m'
    | .ret => k .ret (only (lx7_4 .ret) ((lx7_4 .ret).map σ')) m') = R7_4 v_0 v_1 x_5 m (fun x_5' m' => G [v_0, v_1, (.flat (.int .i64 x_5'))] m') (fun m' => k (.exit 0) (only [] []) m') (fun x_4' m' => k .ret (only [4] [(.flat (.bool x_4'))]) m') := by
  kernel_rfl

theorem loop7_4 (v_0 : AV) (v_1 : AV) (k : KX) : ∀ (N : Nat) (x_5 : Int) (m : Mem), rounds Try.prog E7 Lam7 [0, 1, 5] lx7_4 ((loopsOf (bodyOf Try.f7)).getD 0 .skip) N [v_0, v_1, (.flat (.int .i64 x_5))] m k = L7_4 v_0 v_1 N x_5 m (fun m' => k (.exit 0) (only [] []) m') (fun x_4' m' => k .ret (only [4] [(.flat (.bool x_4'))]) m') := by
  intro N
  induction N with
  | zero => intros; rfl
  | succ N ih =>
    intro x_5 m
    refine (round7_4 v_0 v_1 x_5 m (fun vs m' => rounds Try.prog E7 Lam7 [0, 1, 5] lx7_4 ((loopsOf (bodyOf Try.f7)).getD 0 .skip) N vs m' k) k).trans ?_
    simp only [ih]
    rfl

theorem lok7_4 : LoopOK Try.prog E7 Lam7 ((loopsOf (bodyOf Try.f7)).getD 0 .skip) := by
  refine ⟨fun σ => ∃ v_0 v_1 x_5, σ 0 = v_0 ∧ σ 1 = v_1 ∧ σ 5 = .flat (.int .i64 x_5), [0, 1, 5], lx7_4, fun σ m k => ?_⟩
  have e : Lam7.loop ((loopsOf (bodyOf Try.f7)).getD 0 .skip) σ m k = Lam7_4 σ m k := by kernel_rfl
  rw [e]
  constructor
  · intro h
    unfold Lam7_4 at h
    obtain ⟨v_0, h0⟩ : ∃ v, σ 0 = v := ⟨_, rfl⟩
    obtain ⟨v_1, h1⟩ : ∃ v, σ 1 = v := ⟨_, rfl⟩
    obtain ⟨x_5, h2, h⟩ := kI_ok h
    obtain ⟨N, h⟩ := h
    refine ⟨⟨v_0, v_1, x_5, h0, h1, h2⟩, N, ?_⟩
    have ev : [0, 1, 5].map σ = [v_0, v_1, (.flat (.int .i64 x_5))] := by simp only [List.map_cons, List.map_nil, h0, h1, h2]
    rw [ev, loop7_4]
    simp only [h0, h1] at h
    exact h
  · rintro ⟨⟨v_0, v_1, x_5, h0, h1, h2⟩, N, h⟩
    have ev : [0, 1, 5].map σ = [v_0, v_1, (.flat (.int .i64 x_5))] := by simp only [List.map_cons, List.map_nil, h0, h1, h2]
    rw [ev, loop7_4] at h
    unfold Lam7_4
    try simp only [h0, h1, h2, kI, kbool, kS, kptr, kaggN, kite, decide_true, eq_self]
    exact ⟨N, h⟩

theorem eqn7 (v_0 : AV) (v_1 : AV) (m : Mem) (k : KV) : bodyK Try.prog E7 Lam7 Try.f7 true [v_0, v_1] m k = F7 v_0 v_1 m (fun x_1000 m' => k (.flat (.bool x_1000)) m') := by
  kernel_rfl

theorem fs7 (w0 : World) : FS Try.prog w0 7 G7 := by
  refine (fs_body (Γ := E7) (sound_env (l := []) w0 (by
    intro p hp
    cases hp)) (by kernel_rfl) Try.func7 (Λ := Lam7) (c := (bodyOf Try.f7)) (by kernel_rfl) Try.call7 (by kernel_rfl) (LS_of (bodyOf Try.f7) 1 (by kernel_rfl) (by
    intro i hi
    match i, hi with
    | 0, _ => exact lok7_4
    | i + 1, hi => omega) 0 (by kernel_rfl) (fun i hi => absurd hi (Nat.not_lt_zero i))) true (np := 2) (Nat.le_of_ble_eq_true (by kernel_rfl))).imp fun args => ?_
  by_cases hl : args.length = 2
  rotate_left
  · exact .inr fun m k hk => by
      unfold G7 at hk
      split at hk
      · exact hl rfl
      · exact hk
  obtain ⟨a0, a1, rfl⟩ : ∃ a0 a1, args = [a0, a1] := len_list2 hl

  exact .inl fun m k => propext ⟨fun h => ⟨rfl, by rw [eqn7]; simpa only [G7, kI, kbool, kS, kptr, kaggN, kite, decide_true, eq_self] using h⟩, fun h => by have h := h.2; rw [eqn7] at h; simpa only [G7, kI, kbool, kS, kptr, kaggN, kite, decide_true, eq_self] using h⟩

def E34 : Env := envOf []

def R34_2 (b_1 o_1 : Nat) (v_11 : AV) (x_12 : Int) (x_13 : Int) (m : Mem) (kn : Int → Mem → Prop) (k0 : Mem → Prop) (kr : Bool → Mem → Prop) : Prop :=
  kif (decide (x_13 < x_12)) (ksl v_11 fun b8 o9 l10 p11 => kif (decide (0 ≤ x_13) && decide (x_13 < l10)) (ldI .i64 m b8 (o9 + (x_13).toNat * 1) fun x12 => kif (decide (x12 < 0)) (kr false m) (kif (decide (x12 ≥ 40)) (kr false m) (kn (IntKind.wrap .i64 (x_13 + 1)) m))) False) (k0  m)

def L34_2 (b_1 o_1 : Nat) (v_11 : AV) (x_12 : Int) : Nat → Int → Mem → (Mem → Prop) → (Bool → Mem → Prop) → Prop
  | 0, _,  _, _, _ => bump False
  | N + 1, x_13,  m, k0, kr => R34_2 b_1 o_1 v_11 x_12 x_13 m (fun x_13' m' => L34_2 b_1 o_1 v_11 x_12 N x_13' m' k0 kr) k0 kr

/-- pianola/ir.Right -/
def F34 (c_0 : Nat → AV) (m : Mem) (k : Bool → Mem → Prop) : Prop :=
  newK m ⟨5, c_0, 41, false⟩ fun b2 m1 => ldI .i64 m1 b2 1 fun x3 => ldI .i64 m1 b2 2 fun x4 => ldI .i64 m1 b2 3 fun x5 => newK m1 ⟨3, upd (upd (upd (lget [(.flat (.int .i64 0)), (.flat (.int .i64 0)), (.flat (.int .i64 0))]) 0 (.flat (.int .i64 x3))) 1 (.flat (.int .i64 x4))) 2 (.flat (.int .i64 x5)), 3, false⟩ fun b7 m6 => ∃ N16, L34_2 b2 0 (.sl b7 0 3 (.ex 3)) 3 N16 0 m6 (fun m13 => ldI .i64 m13 b2 0 fun x17 => kif (decide (x17 ≥ 0)) (ldI .i64 m13 b2 0 fun x18 => (Keeps m m13 ∧ k (decide (x18 ≤ 22)) m)) ((Keeps m m13 ∧ k false m))) (fun x14 m15 => (Keeps m m15 ∧ k x14 m))

def G34 (args : List AV) (m : Mem) (k : KV) : Prop := match args with
  | [a0] => kaggN 5 a0 fun c_0 => F34 c_0 m (fun x_1000 m' => k (.flat (.bool x_1000)) m')
  | _ => False

def Lam34_2 (σ : Nat → AV) (m : Mem) (k : KX) : Prop := kptr (σ 1) fun b_1 o_1 => kI .i64 (σ 12) fun x_12 => kI .i64 (σ 13) fun x_13 => ∃ N, L34_2 b_1 o_1 (σ 11) x_12 N x_13 m (fun m' => k (.exit 0) (only [1] [(.ptr b_1 o_1)]) m') (fun x_2' m' => k .ret (only [2] [(.flat (.bool x_2'))]) m')

def Lam34 : LEnv := ⟨fun a σ m k => match firstReg a with
  | some 2 => Lam34_2 σ m k
  | _ => bump False,
  fun id => match id with
  | _ => bump false,
  fun b => match keyC b with
  | _ => bump false,
  fun b σ m k => match keyC b with
  | _ => bump False⟩

def lx34_2 : Ex → List Nat := fun e => match e with
  | .exit 0 => [1]
  | .ret => [2]
  | _ => []

theorem round34_2 (b_1 o_1 : Nat) (v_11 : AV) (x_12 : Int) (x_13 : Int) (m : Mem) (G : List AV → Mem → Prop) (k : KX) : (wpA Try.prog E34 Lam34 ((loopsOf (bodyOf Try.f34)).getD 0 .skip) (only [1, 11, 12, 13] [(.ptr b_1 o_1), v_11, (.flat (.int .i64 x_12)), (.flat (.int .i64 x_13))]) m fun e σ' m' => match e with
    | .normal => G ([1, 11, 12, 13].map σ') m'
    | .exit id => k (.exit id) (only (lx34_2 (.exit id)) ((lx34_2 (.exit id)).map σ')) m'
    | .ret => k .ret (only (lx34_2 .ret) ((lx34_2 .ret).map σ')) m') = R34_2 b_1 o_1 v_11 x_12 x_13 m (fun x_13' m' => G [(.ptr b_1 o_1), v_11, (.flat (.int .i64 x_12)), (.flat (.int .i64 x_13'))] m') (fun m' => k (.exit 0) (only [1] [(.ptr b_1 o_1)]) m') (fun x_2' m' => k .ret (only [2] [(.flat (.bool x_2'))]) m') := by
  kernel_rfl

theorem loop34_2 (b_1 o_1 : Nat) (v_11 : AV) (x_12 : Int) (k : KX) : ∀ (N : Nat) (x_13 : Int) (m : Mem), rounds Try.prog E34 Lam34 [1, 11, 12, 13] lx34_2 ((loopsOf (bodyOf Try.f34)).getD 0 .skip) N [(.ptr b_1 o_1), v_11, (.flat (.int .i64 x_12)), (.flat (.int .i64 x_13))] m k = L34_2 b_1 o_1 v_11 x_12 N x_13 m (fun m' => k (.exit 0) (only [1] [(.ptr b_1 o_1)]) m') (fun x_2' m' => k .ret (only [2] [(.flat (.bool x_2'))]) m') := by
  intro N
  induction N with
  | zero => intros; rfl
  | succ N ih =>
    intro x_13 m
    refine (round34_2 b_1 o_1 v_11 x_12 x_13 m (fun vs m' => rounds Try.prog E34 Lam34 [1, 11, 12, 13] lx34_2 ((loopsOf (bodyOf Try.f34)).getD 0 .skip) N vs m' k) k).trans ?_
    simp only [ih]
    rfl

theorem lok34_2 : LoopOK Try.prog E34 Lam34 ((loopsOf (bodyOf Try.f34)).getD 0 .skip) := by
  refine ⟨fun σ => ∃ b_1 o_1 v_11 x_12 x_13, σ 1 = .ptr b_1 o_1 ∧ σ 11 = v_11 ∧ σ 12 = .flat (.int .i64 x_12) ∧ σ 13 = .flat (.int .i64 x_13), [1, 11, 12, 13], lx34_2, fun σ m k => ?_⟩
  have e : Lam34.loop ((loopsOf (bodyOf Try.f34)).getD 0 .skip) σ m k = Lam34_2 σ m k := by kernel_rfl
  rw [e]
  constructor
  · intro h
    unfold Lam34_2 at h
    obtain ⟨b_1, o_1, h0, h⟩ := kptr_ok h
    obtain ⟨v_11, h1⟩ : ∃ v, σ 11 = v := ⟨_, rfl⟩
    obtain ⟨x_12, h2, h⟩ := kI_ok h
    obtain ⟨x_13, h3, h⟩ := kI_ok h
    obtain ⟨N, h⟩ := h
    refine ⟨⟨b_1, o_1, v_11, x_12, x_13, h0, h1, h2, h3⟩, N, ?_⟩
    have ev : [1, 11, 12, 13].map σ = [(.ptr b_1 o_1), v_11, (.flat (.int .i64 x_12)), (.flat (.int .i64 x_13))] := by simp only [List.map_cons, List.map_nil, h0, h1, h2, h3]
    rw [ev, loop34_2]
    simp only [h1] at h
    exact h
  · rintro ⟨⟨b_1, o_1, v_11, x_12, x_13, h0, h1, h2, h3⟩, N, h⟩
    have ev : [1, 11, 12, 13].map σ = [(.ptr b_1 o_1), v_11, (.flat (.int .i64 x_12)), (.flat (.int .i64 x_13))] := by simp only [List.map_cons, List.map_nil, h0, h1, h2, h3]
    rw [ev, loop34_2] at h
    unfold Lam34_2
    try simp only [h0, h1, h2, h3, kI, kbool, kS, kptr, kaggN, kite, decide_true, eq_self]
    exact ⟨N, h⟩

theorem eqn34 (c_0 : Nat → AV) (m : Mem) (k : KV) : bodyK Try.prog E34 Lam34 Try.f34 true [(.agg 5 c_0)] m k = F34 c_0 m (fun x_1000 m' => k (.flat (.bool x_1000)) m') := by
  kernel_rfl

theorem fs34 (w0 : World) : FS Try.prog w0 34 G34 := by
  refine (fs_body (Γ := E34) (sound_env (l := []) w0 (by
    intro p hp
    cases hp)) (by kernel_rfl) Try.func34 (Λ := Lam34) (c := (bodyOf Try.f34)) (by kernel_rfl) Try.call34 (by kernel_rfl) (LS_of (bodyOf Try.f34) 1 (by kernel_rfl) (by
    intro i hi
    match i, hi with
    | 0, _ => exact lok34_2
    | i + 1, hi => omega) 0 (by kernel_rfl) (fun i hi => absurd hi (Nat.not_lt_zero i))) true (np := 1) (Nat.le_of_ble_eq_true (by kernel_rfl))).imp fun args => ?_
  by_cases hl : args.length = 1
  rotate_left
  · exact .inr fun m k hk => by
      unfold G34 at hk
      split at hk
      · exact hl rfl
      · exact hk
  obtain ⟨a0, rfl⟩ : ∃ a0, args = [a0] := len_list1 hl
  rcases kaggN_or 5 a0 with ⟨c_0, rfl⟩ | h
  rotate_left
  · exact .inr fun m k hk => h _ (by simpa only [G34, kI, kbool, kS, kptr, kaggN, kite, decide_true, eq_self] using hk)
  exact .inl fun m k => propext ⟨fun h => ⟨rfl, by rw [eqn34]; simpa only [G34, kI, kbool, kS, kptr, kaggN, kite, decide_true, eq_self] using h⟩, fun h => by have h := h.2; rw [eqn34] at h; simpa only [G34, kI, kbool, kS, kptr, kaggN, kite, decide_true, eq_self] using h⟩

def E33 : Env := envOf [(34, G34)]

/-- pianola/ir.Run$1 -/
def F33 (c_0 : Nat → AV) (m : Mem) (k : Bool → Mem → Prop) : Prop :=
  newK m ⟨5, c_0, 41, false⟩ fun b2 m1 => ldG 5 m1 b2 0 fun c3 => F34 c3 m1 fun x4 m5 => (Keeps m m5 ∧ k (!x4) m)

def G33 (args : List AV) (m : Mem) (k : KV) : Prop := match args with
  | [a0] => kaggN 5 a0 fun c_0 => F33 c_0 m (fun x_1000 m' => k (.flat (.bool x_1000)) m')
  | _ => False

def Lam33 : LEnv := ⟨fun a σ m k => match firstReg a with
  | _ => bump False,
  fun id => match id with
  | _ => bump false,
  fun b => match keyC b with
  | _ => bump false,
  fun b σ m k => match keyC b with
  | _ => bump False⟩

theorem eqn33 (c_0 : Nat → AV) (m : Mem) (k : KV) : bodyK Try.prog E33 Lam33 Try.f33 true [(.agg 5 c_0)] m k = F33 c_0 m (fun x_1000 m' => k (.flat (.bool x_1000)) m') := by
  kernel_rfl

theorem fs33 (w0 : World) : FS Try.prog w0 33 G33 := by
  refine (fs_body (Γ := E33) (sound_env (l := [(34, G34)]) w0 (by
    intro p hp
    simp only [List.mem_cons, List.not_mem_nil, or_false] at hp
    rcases hp with rfl
    · exact fs34 w0)) (by kernel_rfl) Try.func33 (Λ := Lam33) (c := (bodyOf Try.f33)) (by kernel_rfl) Try.call33 (by kernel_rfl) (LS_of (bodyOf Try.f33) 0 (by kernel_rfl) (fun i hi => absurd hi (Nat.not_lt_zero i)) 0 (by kernel_rfl) (fun i hi => absurd hi (Nat.not_lt_zero i))) true (np := 1) (Nat.le_of_ble_eq_true (by kernel_rfl))).imp fun args => ?_
  by_cases hl : args.length = 1
  rotate_left
  · exact .inr fun m k hk => by
      unfold G33 at hk
      split at hk
      · exact hl rfl
      · exact hk
  obtain ⟨a0, rfl⟩ : ∃ a0, args = [a0] := len_list1 hl
  rcases kaggN_or 5 a0 with ⟨c_0, rfl⟩ | h
  rotate_left
  · exact .inr fun m k hk => h _ (by simpa only [G33, kI, kbool, kS, kptr, kaggN, kite, decide_true, eq_self] using hk)
  exact .inl fun m k => propext ⟨fun h => ⟨rfl, by rw [eqn33]; simpa only [G33, kI, kbool, kS, kptr, kaggN, kite, decide_true, eq_self] using h⟩, fun h => by have h := h.2; rw [eqn33] at h; simpa only [G33, kI, kbool, kS, kptr, kaggN, kite, decide_true, eq_self] using h⟩

def E43 : Env := envOf [(33, G33)]

def R43_2 (v_0 : AV) (v_1 : AV) (x_7 : Int) (x_8 : Int) (m : Mem) (kn : Int → Mem → Prop) (k0 : Mem → Prop) (kr : Int → Mem → Prop) : Prop :=
  kif (decide (x_8 < x_7)) (ksl v_0 fun b2 o3 l4 p5 => kif (decide (0 ≤ x_8) && decide (x_8 < l4)) (ldG 5 m b2 (o3 + (x_8).toNat * 5) fun c6 => kfunv v_1 fun f7 => E43 f7 [(.agg 5 c6)] m fun v8 m9 => kbool v8 fun x10 => kif x10 (kr x_8 m9) (kn (IntKind.wrap .i64 (x_8 + 1)) m9)) False) (k0  m)

def L43_2 (v_0 : AV) (v_1 : AV) (x_7 : Int) : Nat → Int → Mem → (Mem → Prop) → (Int → Mem → Prop) → Prop
  | 0, _,  _, _, _ => bump False
  | N + 1, x_8,  m, k0, kr => R43_2 v_0 v_1 x_7 x_8 m (fun x_8' m' => L43_2 v_0 v_1 x_7 N x_8' m' k0 kr) k0 kr

/-- slices.IndexFunc[[]pianola/ir.Op,pianola/ir.Op] -/
def F43 (v_0 : AV) (v_1 : AV) (m : Mem) (k : Int → Mem → Prop) : Prop :=
  klen v_0 fun x1 => ∃ N14, L43_2 v_0 v_1 x1 N14 0 m (fun m11 => k (-1) m11) (fun x12 m13 => k x12 m13)

def G43 (args : List AV) (m : Mem) (k : KV) : Prop := match args with
  | [a0, a1] => F43 a0 a1 m (fun x_1000 m' => k (.flat (.int .i64 x_1000)) m')
  | _ => False

def Lam43_2 (σ : Nat → AV) (m : Mem) (k : KX) : Prop := kI .i64 (σ 7) fun x_7 => kI .i64 (σ 8) fun x_8 => ∃ N, L43_2 (σ 0) (σ 1) x_7 N x_8 m (fun m' => k (.exit 0) (only [] []) m') (fun x_4' m' => k .ret (only [4] [(.flat (.int .i64 x_4'))]) m')

def Lam43 : LEnv := ⟨fun a σ m k => match firstReg a with
  | some 2 => Lam43_2 σ m k
  | _ => bump False,
  fun id => match id with
  | _ => bump false,
  fun b => match keyC b with
  | _ => bump false,
  fun b σ m k => match keyC b with
  | _ => bump False⟩

def lx43_2 : Ex → List Nat := fun e => match e with
  | .exit 0 => []
  | .ret => [4]
  | _ => []

theorem round43_2 (v_0 : AV) (v_1 : AV) (x_7 : Int) (x_8 : Int) (m : Mem) (G : List AV → Mem → Prop) (k : KX) : (wpA Try.prog E43 Lam43 ((loopsOf (bodyOf Try.f43)).getD 0 .skip) (only [0, 1, 7, 8] [v_0, v_1, (.flat (.int .i64 x_7)), (.flat (.int .i64 x_8))]) m fun e σ' m' => match e with
    | .normal => G ([0, 1, 7, 8].map σ') m'
    | .exit id => k (.exit id) (only (lx43_2 (.exit id)) ((lx43_2 (.exit id)).map σ')) m'
    | .ret => k .ret (only (lx43_2 .ret) ((lx43_2 .ret).map σ')) m') = R43_2 v_0 v_1 x_7 x_8 m (fun x_8' m' => G [v_0, v_1, (.flat (.int .i64 x_7)), (.flat (.int .i64 x_8'))] m') (fun m' => k (.exit 0) (only [] []) m') (fun x_4' m' => k .ret (only [4] [(.flat (.int .i64 x_4'))]) m') := by
  kernel_rfl

theorem loop43_2 (v_0 : AV) (v_1 : AV) (x_7 : Int) (k : KX) : ∀ (N : Nat) (x_8 : Int) (m : Mem), rounds Try.prog E43 Lam43 [0, 1, 7, 8] lx43_2 ((loopsOf (bodyOf Try.f43)).getD 0 .skip) N [v_0, v_1, (.flat (.int .i64 x_7)), (.flat (.int .i64 x_8))] m k = L43_2 v_0 v_1 x_7 N x_8 m (fun m' => k (.exit 0) (only [] []) m') (fun x_4' m' => k .ret (only [4] [(.flat (.int .i64 x_4'))]) m') := by
  intro N
  induction N with
  | zero => intros; rfl
  | succ N ih =>
    intro x_8 m
    refine (round43_2 v_0 v_1 x_7 x_8 m (fun vs m' => rounds Try.prog E43 Lam43 [0, 1, 7, 8] lx43_2 ((loopsOf (bodyOf Try.f43)).getD 0 .skip) N vs m' k) k).trans ?_
    simp only [ih]
    rfl

theorem lok43_2 : LoopOK Try.prog E43 Lam43 ((loopsOf (bodyOf Try.f43)).getD 0 .skip) := by
  refine ⟨fun σ => ∃ v_0 v_1 x_7 x_8, σ 0 = v_0 ∧ σ 1 = v_1 ∧ σ 7 = .flat (.int .i64 x_7) ∧ σ 8 = .flat (.int .i64 x_8), [0, 1, 7, 8], lx43_2, fun σ m k => ?_⟩
  have e : Lam43.loop ((loopsOf (bodyOf Try.f43)).getD 0 .skip) σ m k = Lam43_2 σ m k := by kernel_rfl
  rw [e]
  constructor
  · intro h
    unfold Lam43_2 at h
    obtain ⟨v_0, h0⟩ : ∃ v, σ 0 = v := ⟨_, rfl⟩
    obtain ⟨v_1, h1⟩ : ∃ v, σ 1 = v := ⟨_, rfl⟩
    obtain ⟨x_7, h2, h⟩ := kI_ok h
    obtain ⟨x_8, h3, h⟩ := kI_ok h
    obtain ⟨N, h⟩ := h
    refine ⟨⟨v_0, v_1, x_7, x_8, h0, h1, h2, h3⟩, N, ?_⟩
    have ev : [0, 1, 7, 8].map σ = [v_0, v_1, (.flat (.int .i64 x_7)), (.flat (.int .i64 x_8))] := by simp only [List.map_cons, List.map_nil, h0, h1, h2, h3]
    rw [ev, loop43_2]
    simp only [h0, h1] at h
    exact h
  · rintro ⟨⟨v_0, v_1, x_7, x_8, h0, h1, h2, h3⟩, N, h⟩
    have ev : [0, 1, 7, 8].map σ = [v_0, v_1, (.flat (.int .i64 x_7)), (.flat (.int .i64 x_8))] := by simp only [List.map_cons, List.map_nil, h0, h1, h2, h3]
    rw [ev, loop43_2] at h
    unfold Lam43_2
    try simp only [h0, h1, h2, h3, kI, kbool, kS, kptr, kaggN, kite, decide_true, eq_self]
    exact ⟨N, h⟩

theorem eqn43 (v_0 : AV) (v_1 : AV) (m : Mem) (k : KV) : bodyK Try.prog E43 Lam43 Try.f43 false [v_0, v_1] m k = F43 v_0 v_1 m (fun x_1000 m' => k (.flat (.int .i64 x_1000)) m') := by
  kernel_rfl

theorem fs43 (w0 : World) : FS Try.prog w0 43 G43 := by
  refine (fs_body (Γ := E43) (sound_env (l := [(33, G33)]) w0 (by
    intro p hp
    simp only [List.mem_cons, List.not_mem_nil, or_false] at hp
    rcases hp with rfl
    · exact fs33 w0)) (by kernel_rfl) Try.func43 (Λ := Lam43) (c := (bodyOf Try.f43)) (by kernel_rfl) Try.call43 (by kernel_rfl) (LS_of (bodyOf Try.f43) 1 (by kernel_rfl) (by
    intro i hi
    match i, hi with
    | 0, _ => exact lok43_2
    | i + 1, hi => omega) 0 (by kernel_rfl) (fun i hi => absurd hi (Nat.not_lt_zero i))) false (np := 2) (Nat.le_of_ble_eq_true (by kernel_rfl))).imp fun args => ?_
  by_cases hl : args.length = 2
  rotate_left
  · exact .inr fun m k hk => by
      unfold G43 at hk
      split at hk
      · exact hl rfl
      · exact hk
  obtain ⟨a0, a1, rfl⟩ : ∃ a0 a1, args = [a0, a1] := len_list2 hl

  exact .inl fun m k => propext ⟨fun h => ⟨rfl, by rw [eqn43]; simpa only [G43, kI, kbool, kS, kptr, kaggN, kite, decide_true, eq_self] using h⟩, fun h => by have h := h.2; rw [eqn43] at h; simpa only [G43, kI, kbool, kS, kptr, kaggN, kite, decide_true, eq_self] using h⟩

def E32 : Env := envOf [(43, G43)]

/-- slices.ContainsFunc[[]pianola/ir.Op,pianola/ir.Op] -/
def F32 (v_0 : AV) (v_1 : AV) (m : Mem) (k : Bool → Mem → Prop) : Prop :=
  F43 v_0 v_1 m fun x1 m2 => k (decide (x1 ≥ 0)) m2

def G32 (args : List AV) (m : Mem) (k : KV) : Prop := match args with
  | [a0, a1] => F32 a0 a1 m (fun x_1000 m' => k (.flat (.bool x_1000)) m')
  | _ => False

def Lam32 : LEnv := ⟨fun a σ m k => match firstReg a with
  | _ => bump False,
  fun id => match id with
  | _ => bump false,
  fun b => match keyC b with
  | _ => bump false,
  fun b σ m k => match keyC b with
  | _ => bump False⟩

theorem eqn32 (v_0 : AV) (v_1 : AV) (m : Mem) (k : KV) : bodyK Try.prog E32 Lam32 Try.f32 false [v_0, v_1] m k = F32 v_0 v_1 m (fun x_1000 m' => k (.flat (.bool x_1000)) m') := by
  kernel_rfl

theorem fs32 (w0 : World) : FS Try.prog w0 32 G32 := by
  refine (fs_body (Γ := E32) (sound_env (l := [(43, G43)]) w0 (by
    intro p hp
    simp only [List.mem_cons, List.not_mem_nil, or_false] at hp
    rcases hp with rfl
    · exact fs43 w0)) (by kernel_rfl) Try.func32 (Λ := Lam32) (c := (bodyOf Try.f32)) (by kernel_rfl) Try.call32 (by kernel_rfl) (LS_of (bodyOf Try.f32) 0 (by kernel_rfl) (fun i hi => absurd hi (Nat.not_lt_zero i)) 0 (by kernel_rfl) (fun i hi => absurd hi (Nat.not_lt_zero i))) false (np := 2) (Nat.le_of_ble_eq_true (by kernel_rfl))).imp fun args => ?_
  by_cases hl : args.length = 2
  rotate_left
  · exact .inr fun m k hk => by
      unfold G32 at hk
      split at hk
      · exact hl rfl
      · exact hk
  obtain ⟨a0, a1, rfl⟩ : ∃ a0 a1, args = [a0, a1] := len_list2 hl

  exact .inl fun m k => propext ⟨fun h => ⟨rfl, by rw [eqn32]; simpa only [G32, kI, kbool, kS, kptr, kaggN, kite, decide_true, eq_self] using h⟩, fun h => by have h := h.2; rw [eqn32] at h; simpa only [G32, kI, kbool, kS, kptr, kaggN, kite, decide_true, eq_self] using h⟩

def E44 : Env := envOf []

def P44_4102 (x_8 : Int) (m : Mem) (kr : Int → Int → Mem → Prop) : Prop :=
  kr (IntKind.wrap .u32 (x_8.fdiv 4294967296)) (IntKind.wrap .u32 x_8) m

/-- pianola/word.Mul -/
def F44 (x_0 : Int) (x_1 : Int) (x_2 : Bool) (m : Mem) (k : Int → Int → Mem → Prop) : Prop :=
  kif x_2 (P44_4102 (IntKind.wrap .u64 (IntKind.wrap .i64 ((IntKind.wrap .i64 (IntKind.wrap .i32 x_0)) * (IntKind.wrap .i64 (IntKind.wrap .i32 x_1))))) m (fun x1 x2 m3 => (Keeps m m3 ∧ k x1 x2 m))) (P44_4102 (IntKind.wrap .u64 ((IntKind.wrap .u64 x_0) * (IntKind.wrap .u64 x_1))) m (fun x4 x5 m6 => (Keeps m m6 ∧ k x4 x5 m)))

def G44 (args : List AV) (m : Mem) (k : KV) : Prop := match args with
  | [a0, a1, a2] => kI .u32 a0 fun x_0 => kI .u32 a1 fun x_1 => kbool a2 fun x_2 => F44 x_0 x_1 x_2 m (fun x_1000 x_1001 m' => k (.tup [(.flat (.int .u32 x_1000)), (.flat (.int .u32 x_1001))]) m')
  | _ => False

def LamP44_4102 (σ : Nat → AV) (m : Mem) (k : KX) : Prop := kI .u64 (σ 8) fun x_8 => P44_4102 x_8 m (fun x_6' x_7' m' => k .ret (only [6, 7] [(.flat (.int .u32 x_6')), (.flat (.int .u32 x_7'))]) m')

def Lam44 : LEnv := ⟨fun a σ m k => match firstReg a with
  | _ => bump False,
  fun id => match id with
  | _ => bump false,
  fun b => match keyC b with
  | some 4102 => true
  | _ => bump false,
  fun b σ m k => match keyC b with
  | some 4102 => LamP44_4102 σ m k
  | _ => bump False⟩

def lxp44_4102 : Ex → List Nat := fun e => match e with
  | .ret => [6, 7]
  | _ => []

theorem pc44_4102 (x_8 : Int) (m : Mem) (k : KX) : once Try.prog E44 Lam44 [8] lxp44_4102 (((secsOf (bodyOf Try.f44)).filter Lam44.cut).getD 0 .skip) [(.flat (.int .u64 x_8))] m k = P44_4102 x_8 m (fun x_6' x_7' m' => k .ret (only [6, 7] [(.flat (.int .u32 x_6')), (.flat (.int .u32 x_7'))]) m') := by
  kernel_rfl

theorem pok44_4102 : PieceOK Try.prog E44 Lam44 (((secsOf (bodyOf Try.f44)).filter Lam44.cut).getD 0 .skip) := by
  refine ⟨fun σ => ∃ x_8, σ 8 = .flat (.int .u64 x_8), [8], lxp44_4102, fun σ m k => ?_⟩
  have e : Lam44.piece (((secsOf (bodyOf Try.f44)).filter Lam44.cut).getD 0 .skip) σ m k = LamP44_4102 σ m k := by kernel_rfl
  rw [e]
  constructor
  · intro h
    unfold LamP44_4102 at h
    obtain ⟨x_8, h0, h⟩ := kI_ok h
    refine ⟨⟨x_8, h0⟩, ?_⟩
    have ev : [8].map σ = [(.flat (.int .u64 x_8))] := by simp only [List.map_cons, List.map_nil, h0]
    rw [ev, pc44_4102]
    exact h
  · rintro ⟨⟨x_8, h0⟩, h⟩
    have ev : [8].map σ = [(.flat (.int .u64 x_8))] := by simp only [List.map_cons, List.map_nil, h0]
    rw [ev, pc44_4102] at h
    unfold LamP44_4102
    try simp only [h0, kI, kbool, kS, kptr, kaggN, kite, decide_true, eq_self]
    exact h

theorem eqn44 (x_0 : Int) (x_1 : Int) (x_2 : Bool) (m : Mem) (k : KV) : bodyK Try.prog E44 Lam44 Try.f44 true [(.flat (.int .u32 x_0)), (.flat (.int .u32 x_1)), (.flat (.bool x_2))] m k = F44 x_0 x_1 x_2 m (fun x_1000 x_1001 m' => k (.tup [(.flat (.int .u32 x_1000)), (.flat (.int .u32 x_1001))]) m') := by
  kernel_rfl

theorem fs44 (w0 : World) : FS Try.prog w0 44 G44 := by
  refine (fs_body (Γ := E44) (sound_env (l := []) w0 (by
    intro p hp
    cases hp)) (by kernel_rfl) Try.func44 (Λ := Lam44) (c := (bodyOf Try.f44)) (by kernel_rfl) Try.call44 (by kernel_rfl) (LS_of (bodyOf Try.f44) 0 (by kernel_rfl) (fun i hi => absurd hi (Nat.not_lt_zero i)) 1 (by kernel_rfl) (by
    intro i hi
    match i, hi with
    | 0, _ => exact pok44_4102
    | i + 1, hi => omega)) true (np := 3) (Nat.le_of_ble_eq_true (by kernel_rfl))).imp fun args => ?_
  by_cases hl : args.length = 3
  rotate_left
  · exact .inr fun m k hk => by
      unfold G44 at hk
      split at hk
      · exact hl rfl
      · exact hk
  obtain ⟨a0, a1, a2, rfl⟩ : ∃ a0 a1 a2, args = [a0, a1, a2] := len_list3 hl
  rcases kI_or .u32 a0 with ⟨x_0, rfl⟩ | h
  rotate_left
  · exact .inr fun m k hk => h _ (by simpa only [G44, kI, kbool, kS, kptr, kaggN, kite, decide_true, eq_self] using hk)
  rcases kI_or .u32 a1 with ⟨x_1, rfl⟩ | h
  rotate_left
  · exact .inr fun m k hk => h _ (by simpa only [G44, kI, kbool, kS, kptr, kaggN, kite, decide_true, eq_self] using hk)
  rcases kbool_or a2 with ⟨x_2, rfl⟩ | h
  rotate_left
  · exact .inr fun m k hk => h _ (by simpa only [G44, kI, kbool, kS, kptr, kaggN, kite, decide_true, eq_self] using hk)
  exact .inl fun m k => propext ⟨fun h => ⟨rfl, by rw [eqn44]; simpa only [G44, kI, kbool, kS, kptr, kaggN, kite, decide_true, eq_self] using h⟩, fun h => by have h := h.2; rw [eqn44] at h; simpa only [G44, kI, kbool, kS, kptr, kaggN, kite, decide_true, eq_self] using h⟩

def E45 : Env := envOf []

/-- pianola/word.Div -/
def F45 (x_0 : Int) (x_1 : Int) (x_2 : Bool) (m : Mem) (k : Int → Int → Mem → Prop) : Prop :=
  kif (x_1 == 0) ((Keeps m m ∧ k 4294967295 x_0 m)) (kif (!x_2) (kif (decide (x_1 = 0)) False (kif (decide (x_1 = 0)) False ((Keeps m m ∧ k (IntKind.wrap .u32 (x_0.tdiv x_1)) (x_0.tmod x_1) m)))) (kif (decide (IntKind.wrap .i64 (IntKind.wrap .i32 x_1) = 0)) False (kif (decide (IntKind.wrap .i64 (IntKind.wrap .i32 x_1) = 0)) False ((Keeps m m ∧ k (IntKind.wrap .u32 (IntKind.wrap .i64 ((IntKind.wrap .i64 (IntKind.wrap .i32 x_0)).tdiv (IntKind.wrap .i64 (IntKind.wrap .i32 x_1))))) (IntKind.wrap .u32 ((IntKind.wrap .i64 (IntKind.wrap .i32 x_0)).tmod (IntKind.wrap .i64 (IntKind.wrap .i32 x_1)))) m)))))

def G45 (args : List AV) (m : Mem) (k : KV) : Prop := match args with
  | [a0, a1, a2] => kI .u32 a0 fun x_0 => kI .u32 a1 fun x_1 => kbool a2 fun x_2 => F45 x_0 x_1 x_2 m (fun x_1000 x_1001 m' => k (.tup [(.flat (.int .u32 x_1000)), (.flat (.int .u32 x_1001))]) m')
  | _ => False

def Lam45 : LEnv := ⟨fun a σ m k => match firstReg a with
  | _ => bump False,
  fun id => match id with
  | _ => bump false,
  fun b => match keyC b with
  | _ => bump false,
  fun b σ m k => match keyC b with
  | _ => bump False⟩

theorem eqn45 (x_0 : Int) (x_1 : Int) (x_2 : Bool) (m : Mem) (k : KV) : bodyK Try.prog E45 Lam45 Try.f45 true [(.flat (.int .u32 x_0)), (.flat (.int .u32 x_1)), (.flat (.bool x_2))] m k = F45 x_0 x_1 x_2 m (fun x_1000 x_1001 m' => k (.tup [(.flat (.int .u32 x_1000)), (.flat (.int .u32 x_1001))]) m') := by
  kernel_rfl

theorem fs45 (w0 : World) : FS Try.prog w0 45 G45 := by
  refine (fs_body (Γ := E45) (sound_env (l := []) w0 (by
    intro p hp
    cases hp)) (by kernel_rfl) Try.func45 (Λ := Lam45) (c := (bodyOf Try.f45)) (by kernel_rfl) Try.call45 (by kernel_rfl) (LS_of (bodyOf Try.f45) 0 (by kernel_rfl) (fun i hi => absurd hi (Nat.not_lt_zero i)) 0 (by kernel_rfl) (fun i hi => absurd hi (Nat.not_lt_zero i))) true (np := 3) (Nat.le_of_ble_eq_true (by kernel_rfl))).imp fun args => ?_
  by_cases hl : args.length = 3
  rotate_left
  · exact .inr fun m k hk => by
      unfold G45 at hk
      split at hk
      · exact hl rfl
      · exact hk
  obtain ⟨a0, a1, a2, rfl⟩ : ∃ a0 a1 a2, args = [a0, a1, a2] := len_list3 hl
  rcases kI_or .u32 a0 with ⟨x_0, rfl⟩ | h
  rotate_left
  · exact .inr fun m k hk => h _ (by simpa only [G45, kI, kbool, kS, kptr, kaggN, kite, decide_true, eq_self] using hk)
  rcases kI_or .u32 a1 with ⟨x_1, rfl⟩ | h
  rotate_left
  · exact .inr fun m k hk => h _ (by simpa only [G45, kI, kbool, kS, kptr, kaggN, kite, decide_true, eq_self] using hk)
  rcases kbool_or a2 with ⟨x_2, rfl⟩ | h
  rotate_left
  · exact .inr fun m k hk => h _ (by simpa only [G45, kI, kbool, kS, kptr, kaggN, kite, decide_true, eq_self] using hk)
  exact .inl fun m k => propext ⟨fun h => ⟨rfl, by rw [eqn45]; simpa only [G45, kI, kbool, kS, kptr, kaggN, kite, decide_true, eq_self] using h⟩, fun h => by have h := h.2; rw [eqn45] at h; simpa only [G45, kI, kbool, kS, kptr, kaggN, kite, decide_true, eq_self] using h⟩

def E51 : Env := envOf []

/-- pianola/ir.one -/
def F51 (x_0 : Bool) (m : Mem) (k : Int → Mem → Prop) : Prop :=
  kif x_0 ((Keeps m m ∧ k 1 m)) ((Keeps m m ∧ k 0 m))

def G51 (args : List AV) (m : Mem) (k : KV) : Prop := match args with
  | [a0] => kbool a0 fun x_0 => F51 x_0 m (fun x_1000 m' => k (.flat (.int .u32 x_1000)) m')
  | _ => False

def Lam51 : LEnv := ⟨fun a σ m k => match firstReg a with
  | _ => bump False,
  fun id => match id with
  | _ => bump false,
  fun b => match keyC b with
  | _ => bump false,
  fun b σ m k => match keyC b with
  | _ => bump False⟩

theorem eqn51 (x_0 : Bool) (m : Mem) (k : KV) : bodyK Try.prog E51 Lam51 Try.f51 true [(.flat (.bool x_0))] m k = F51 x_0 m (fun x_1000 m' => k (.flat (.int .u32 x_1000)) m') := by
  kernel_rfl

theorem fs51 (w0 : World) : FS Try.prog w0 51 G51 := by
  refine (fs_body (Γ := E51) (sound_env (l := []) w0 (by
    intro p hp
    cases hp)) (by kernel_rfl) Try.func51 (Λ := Lam51) (c := (bodyOf Try.f51)) (by kernel_rfl) Try.call51 (by kernel_rfl) (LS_of (bodyOf Try.f51) 0 (by kernel_rfl) (fun i hi => absurd hi (Nat.not_lt_zero i)) 0 (by kernel_rfl) (fun i hi => absurd hi (Nat.not_lt_zero i))) true (np := 1) (Nat.le_of_ble_eq_true (by kernel_rfl))).imp fun args => ?_
  by_cases hl : args.length = 1
  rotate_left
  · exact .inr fun m k hk => by
      unfold G51 at hk
      split at hk
      · exact hl rfl
      · exact hk
  obtain ⟨a0, rfl⟩ : ∃ a0, args = [a0] := len_list1 hl
  rcases kbool_or a0 with ⟨x_0, rfl⟩ | h
  rotate_left
  · exact .inr fun m k hk => h _ (by simpa only [G51, kI, kbool, kS, kptr, kaggN, kite, decide_true, eq_self] using hk)
  exact .inl fun m k => propext ⟨fun h => ⟨rfl, by rw [eqn51]; simpa only [G51, kI, kbool, kS, kptr, kaggN, kite, decide_true, eq_self] using h⟩, fun h => by have h := h.2; rw [eqn51] at h; simpa only [G51, kI, kbool, kS, kptr, kaggN, kite, decide_true, eq_self] using h⟩

def E52 : Env := envOf []

/-- pianola/word.Less -/
def F52 (x_0 : Int) (x_1 : Int) (x_2 : Bool) (m : Mem) (k : Bool → Mem → Prop) : Prop :=
  kif x_2 ((Keeps m m ∧ k (decide ((IntKind.wrap .i32 x_0) < (IntKind.wrap .i32 x_1))) m)) ((Keeps m m ∧ k (decide (x_0 < x_1)) m))

def G52 (args : List AV) (m : Mem) (k : KV) : Prop := match args with
  | [a0, a1, a2] => kI .u32 a0 fun x_0 => kI .u32 a1 fun x_1 => kbool a2 fun x_2 => F52 x_0 x_1 x_2 m (fun x_1000 m' => k (.flat (.bool x_1000)) m')
  | _ => False

def Lam52 : LEnv := ⟨fun a σ m k => match firstReg a with
  | _ => bump False,
  fun id => match id with
  | _ => bump false,
  fun b => match keyC b with
  | _ => bump false,
  fun b σ m k => match keyC b with
  | _ => bump False⟩

theorem eqn52 (x_0 : Int) (x_1 : Int) (x_2 : Bool) (m : Mem) (k : KV) : bodyK Try.prog E52 Lam52 Try.f52 true [(.flat (.int .u32 x_0)), (.flat (.int .u32 x_1)), (.flat (.bool x_2))] m k = F52 x_0 x_1 x_2 m (fun x_1000 m' => k (.flat (.bool x_1000)) m') := by
  kernel_rfl

theorem fs52 (w0 : World) : FS Try.prog w0 52 G52 := by
  refine (fs_body (Γ := E52) (sound_env (l := []) w0 (by
    intro p hp
    cases hp)) (by kernel_rfl) Try.func52 (Λ := Lam52) (c := (bodyOf Try.f52)) (by kernel_rfl) Try.call52 (by kernel_rfl) (LS_of (bodyOf Try.f52) 0 (by kernel_rfl) (fun i hi => absurd hi (Nat.not_lt_zero i)) 0 (by kernel_rfl) (fun i hi => absurd hi (Nat.not_lt_zero i))) true (np := 3) (Nat.le_of_ble_eq_true (by kernel_rfl))).imp fun args => ?_
  by_cases hl : args.length = 3
  rotate_left
  · exact .inr fun m k hk => by
      unfold G52 at hk
      split at hk
      · exact hl rfl
      · exact hk
  obtain ⟨a0, a1, a2, rfl⟩ : ∃ a0 a1 a2, args = [a0, a1, a2] := len_list3 hl
  rcases kI_or .u32 a0 with ⟨x_0, rfl⟩ | h
  rotate_left
  · exact .inr fun m k hk => h _ (by simpa only [G52, kI, kbool, kS, kptr, kaggN, kite, decide_true, eq_self] using hk)
  rcases kI_or .u32 a1 with ⟨x_1, rfl⟩ | h
  rotate_left
  · exact .inr fun m k hk => h _ (by simpa only [G52, kI, kbool, kS, kptr, kaggN, kite, decide_true, eq_self] using hk)
  rcases kbool_or a2 with ⟨x_2, rfl⟩ | h
  rotate_left
  · exact .inr fun m k hk => h _ (by simpa only [G52, kI, kbool, kS, kptr, kaggN, kite, decide_true, eq_self] using hk)
  exact .inl fun m k => propext ⟨fun h => ⟨rfl, by rw [eqn52]; simpa only [G52, kI, kbool, kS, kptr, kaggN, kite, decide_true, eq_self] using h⟩, fun h => by have h := h.2; rw [eqn52] at h; simpa only [G52, kI, kbool, kS, kptr, kaggN, kite, decide_true, eq_self] using h⟩

def E56 : Env := envOf []

def P56_7102 (x_0 : Int) (x_2 : Int) (m : Mem) (kr : Int → Mem → Prop) : Prop :=
  kif (decide (0 ≤ IntKind.wrap .u8 x_0) && decide (IntKind.wrap .u8 x_0 < Yb11.size)) (kr (IntKind.wrap .i64 (x_2 + (IntKind.wrap .i64 ((Yb11.data.getD (IntKind.wrap .u8 x_0).toNat 0).toNat)))) m) False

def P56_4103 (x_0 : Int) (x_2 : Int) (m : Mem) (kr : Int → Mem → Prop) : Prop :=
  kif (decide (x_0 ≥ 256)) (P56_7102 (x_0.fdiv 256) (IntKind.wrap .i64 (x_2 + 8)) m (fun x1 m2 => kr x1 m2)) (P56_7102 x_0 x_2 m (fun x3 m4 => kr x3 m4))

/-- math/bits.Len32 -/
def F56 (x_0 : Int) (m : Mem) (k : Int → Mem → Prop) : Prop :=
  kif (decide (x_0 ≥ 65536)) (P56_4103 (x_0.fdiv 65536) 16 m (fun x5 m6 => (Keeps m m6 ∧ k x5 m))) (P56_4103 x_0 0 m (fun x7 m8 => (Keeps m m8 ∧ k x7 m)))

def G56 (args : List AV) (m : Mem) (k : KV) : Prop := match args with
  | [a0] => kI .u32 a0 fun x_0 => F56 x_0 m (fun x_1000 m' => k (.flat (.int .i64 x_1000)) m')
  | _ => False

def LamP56_4103 (σ : Nat → AV) (m : Mem) (k : KX) : Prop := kI .u32 (σ 0) fun x_0 => kI .i64 (σ 2) fun x_2 => P56_4103 x_0 x_2 m (fun x_2' m' => k .ret (only [2] [(.flat (.int .i64 x_2'))]) m')

def LamP56_7102 (σ : Nat → AV) (m : Mem) (k : KX) : Prop := kI .u32 (σ 0) fun x_0 => kI .i64 (σ 2) fun x_2 => P56_7102 x_0 x_2 m (fun x_2' m' => k .ret (only [2] [(.flat (.int .i64 x_2'))]) m')

def Lam56 : LEnv := ⟨fun a σ m k => match firstReg a with
  | _ => bump False,
  fun id => match id with
  | _ => bump false,
  fun b => match keyC b with
  | some 4103 => true
  | some 7102 => true
  | _ => bump false,
  fun b σ m k => match keyC b with
  | some 4103 => LamP56_4103 σ m k
  | some 7102 => LamP56_7102 σ m k
  | _ => bump False⟩

def lxp56_7102 : Ex → List Nat := fun e => match e with
  | .ret => [2]
  | _ => []

theorem pc56_7102 (x_0 : Int) (x_2 : Int) (m : Mem) (k : KX) : once Try.prog E56 Lam56 [0, 2] lxp56_7102 (((secsOf (bodyOf Try.f56)).filter Lam56.cut).getD 1 .skip) [(.flat (.int .u32 x_0)), (.flat (.int .i64 x_2))] m k = P56_7102 x_0 x_2 m (fun x_2' m' => k .ret (only [2] [(.flat (.int .i64 x_2'))]) m') := by
  kernel_rfl

theorem pok56_7102 : PieceOK Try.prog E56 Lam56 (((secsOf (bodyOf Try.f56)).filter Lam56.cut).getD 1 .skip) := by
  refine ⟨fun σ => ∃ x_0 x_2, σ 0 = .flat (.int .u32 x_0) ∧ σ 2 = .flat (.int .i64 x_2), [0, 2], lxp56_7102, fun σ m k => ?_⟩
  have e : Lam56.piece (((secsOf (bodyOf Try.f56)).filter Lam56.cut).getD 1 .skip) σ m k = LamP56_7102 σ m k := by kernel_rfl
  rw [e]
  constructor
  · intro h
    unfold LamP56_7102 at h
    obtain ⟨x_0, h0, h⟩ := kI_ok h
    obtain ⟨x_2, h1, h⟩ := kI_ok h
    refine ⟨⟨x_0, x_2, h0, h1⟩, ?_⟩
    have ev : [0, 2].map σ = [(.flat (.int .u32 x_0)), (.flat (.int .i64 x_2))] := by simp only [List.map_cons, List.map_nil, h0, h1]
    rw [ev, pc56_7102]
    exact h
  · rintro ⟨⟨x_0, x_2, h0, h1⟩, h⟩
    have ev : [0, 2].map σ = [(.flat (.int .u32 x_0)), (.flat (.int .i64 x_2))] := by simp only [List.map_cons, List.map_nil, h0, h1]
    rw [ev, pc56_7102] at h
    unfold LamP56_7102
    try simp only [h0, h1, kI, kbool, kS, kptr, kaggN, kite, decide_true, eq_self]
    exact h

def lxp56_4103 : Ex → List Nat := fun e => match e with
  | .ret => [2]
  | _ => []

theorem pc56_4103 (x_0 : Int) (x_2 : Int) (m : Mem) (k : KX) : once Try.prog E56 Lam56 [0, 2] lxp56_4103 (((secsOf (bodyOf Try.f56)).filter Lam56.cut).getD 0 .skip) [(.flat (.int .u32 x_0)), (.flat (.int .i64 x_2))] m k = P56_4103 x_0 x_2 m (fun x_2' m' => k .ret (only [2] [(.flat (.int .i64 x_2'))]) m') := by
  kernel_rfl

theorem pok56_4103 : PieceOK Try.prog E56 Lam56 (((secsOf (bodyOf Try.f56)).filter Lam56.cut).getD 0 .skip) := by
  refine ⟨fun σ => ∃ x_0 x_2, σ 0 = .flat (.int .u32 x_0) ∧ σ 2 = .flat (.int .i64 x_2), [0, 2], lxp56_4103, fun σ m k => ?_⟩
  have e : Lam56.piece (((secsOf (bodyOf Try.f56)).filter Lam56.cut).getD 0 .skip) σ m k = LamP56_4103 σ m k := by kernel_rfl
  rw [e]
  constructor
  · intro h
    unfold LamP56_4103 at h
    obtain ⟨x_0, h0, h⟩ := kI_ok h
    obtain ⟨x_2, h1, h⟩ := kI_ok h
    refine ⟨⟨x_0, x_2, h0, h1⟩, ?_⟩
    have ev : [0, 2].map σ = [(.flat (.int .u32 x_0)), (.flat (.int .i64 x_2))] := by simp only [List.map_cons, List.map_nil, h0, h1]
    rw [ev, pc56_4103]
    exact h
  · rintro ⟨⟨x_0, x_2, h0, h1⟩, h⟩
    have ev : [0, 2].map σ = [(.flat (.int .u32 x_0)), (.flat (.int .i64 x_2))] := by simp only [List.map_cons, List.map_nil, h0, h1]
    rw [ev, pc56_4103] at h
    unfold LamP56_4103
    try simp only [h0, h1, kI, kbool, kS, kptr, kaggN, kite, decide_true, eq_self]
    exact h

theorem eqn56 (x_0 : Int) (m : Mem) (k : KV) : bodyK Try.prog E56 Lam56 Try.f56 true [(.flat (.int .u32 x_0))] m k = F56 x_0 m (fun x_1000 m' => k (.flat (.int .i64 x_1000)) m') := by
  kernel_rfl

theorem fs56 (w0 : World) : FS Try.prog w0 56 G56 := by
  refine (fs_body (Γ := E56) (sound_env (l := []) w0 (by
    intro p hp
    cases hp)) (by kernel_rfl) Try.func56 (Λ := Lam56) (c := (bodyOf Try.f56)) (by kernel_rfl) Try.call56 (by kernel_rfl) (LS_of (bodyOf Try.f56) 0 (by kernel_rfl) (fun i hi => absurd hi (Nat.not_lt_zero i)) 2 (by kernel_rfl) (by
    intro i hi
    match i, hi with
    | 0, _ => exact pok56_4103
    | 1, _ => exact pok56_7102
    | i + 2, hi => omega)) true (np := 1) (Nat.le_of_ble_eq_true (by kernel_rfl))).imp fun args => ?_
  by_cases hl : args.length = 1
  rotate_left
  · exact .inr fun m k hk => by
      unfold G56 at hk
      split at hk
      · exact hl rfl
      · exact hk
  obtain ⟨a0, rfl⟩ : ∃ a0, args = [a0] := len_list1 hl
  rcases kI_or .u32 a0 with ⟨x_0, rfl⟩ | h
  rotate_left
  · exact .inr fun m k hk => h _ (by simpa only [G56, kI, kbool, kS, kptr, kaggN, kite, decide_true, eq_self] using hk)
  exact .inl fun m k => propext ⟨fun h => ⟨rfl, by rw [eqn56]; simpa only [G56, kI, kbool, kS, kptr, kaggN, kite, decide_true, eq_self] using h⟩, fun h => by have h := h.2; rw [eqn56] at h; simpa only [G56, kI, kbool, kS, kptr, kaggN, kite, decide_true, eq_self] using h⟩

def E55 : Env := envOf [(56, G56)]

/-- math/bits.LeadingZeros32 -/
def F55 (x_0 : Int) (m : Mem) (k : Int → Mem → Prop) : Prop :=
  F56 x_0 m fun x1 m2 => (Keeps m m2 ∧ k (IntKind.wrap .i64 (32 - x1)) m)

def G55 (args : List AV) (m : Mem) (k : KV) : Prop := match args with
  | [a0] => kI .u32 a0 fun x_0 => F55 x_0 m (fun x_1000 m' => k (.flat (.int .i64 x_1000)) m')
  | _ => False

def Lam55 : LEnv := ⟨fun a σ m k => match firstReg a with
  | _ => bump False,
  fun id => match id with
  | _ => bump false,
  fun b => match keyC b with
  | _ => bump false,
  fun b σ m k => match keyC b with
  | _ => bump False⟩

theorem eqn55 (x_0 : Int) (m : Mem) (k : KV) : bodyK Try.prog E55 Lam55 Try.f55 true [(.flat (.int .u32 x_0))] m k = F55 x_0 m (fun x_1000 m' => k (.flat (.int .i64 x_1000)) m') := by
  kernel_rfl

theorem fs55 (w0 : World) : FS Try.prog w0 55 G55 := by
  refine (fs_body (Γ := E55) (sound_env (l := [(56, G56)]) w0 (by
    intro p hp
    simp only [List.mem_cons, List.not_mem_nil, or_false] at hp
    rcases hp with rfl
    · exact fs56 w0)) (by kernel_rfl) Try.func55 (Λ := Lam55) (c := (bodyOf Try.f55)) (by kernel_rfl) Try.call55 (by kernel_rfl) (LS_of (bodyOf Try.f55) 0 (by kernel_rfl) (fun i hi => absurd hi (Nat.not_lt_zero i)) 0 (by kernel_rfl) (fun i hi => absurd hi (Nat.not_lt_zero i))) true (np := 1) (Nat.le_of_ble_eq_true (by kernel_rfl))).imp fun args => ?_
  by_cases hl : args.length = 1
  rotate_left
  · exact .inr fun m k hk => by
      unfold G55 at hk
      split at hk
      · exact hl rfl
      · exact hk
  obtain ⟨a0, rfl⟩ : ∃ a0, args = [a0] := len_list1 hl
  rcases kI_or .u32 a0 with ⟨x_0, rfl⟩ | h
  rotate_left
  · exact .inr fun m k hk => h _ (by simpa only [G55, kI, kbool, kS, kptr, kaggN, kite, decide_true, eq_self] using hk)
  exact .inl fun m k => propext ⟨fun h => ⟨rfl, by rw [eqn55]; simpa only [G55, kI, kbool, kS, kptr, kaggN, kite, decide_true, eq_self] using h⟩, fun h => by have h := h.2; rw [eqn55] at h; simpa only [G55, kI, kbool, kS, kptr, kaggN, kite, decide_true, eq_self] using h⟩

def E53 : Env := envOf [(55, G55)]

/-- pianola/word.Clz -/
def F53 (x_0 : Int) (m : Mem) (k : Int → Mem → Prop) : Prop :=
  F55 x_0 m fun x1 m2 => (Keeps m m2 ∧ k x1 m)

def G53 (args : List AV) (m : Mem) (k : KV) : Prop := match args with
  | [a0] => kI .u32 a0 fun x_0 => F53 x_0 m (fun x_1000 m' => k (.flat (.int .i64 x_1000)) m')
  | _ => False

def Lam53 : LEnv := ⟨fun a σ m k => match firstReg a with
  | _ => bump False,
  fun id => match id with
  | _ => bump false,
  fun b => match keyC b with
  | _ => bump false,
  fun b σ m k => match keyC b with
  | _ => bump False⟩

theorem eqn53 (x_0 : Int) (m : Mem) (k : KV) : bodyK Try.prog E53 Lam53 Try.f53 true [(.flat (.int .u32 x_0))] m k = F53 x_0 m (fun x_1000 m' => k (.flat (.int .i64 x_1000)) m') := by
  kernel_rfl

theorem fs53 (w0 : World) : FS Try.prog w0 53 G53 := by
  refine (fs_body (Γ := E53) (sound_env (l := [(55, G55)]) w0 (by
    intro p hp
    simp only [List.mem_cons, List.not_mem_nil, or_false] at hp
    rcases hp with rfl
    · exact fs55 w0)) (by kernel_rfl) Try.func53 (Λ := Lam53) (c := (bodyOf Try.f53)) (by kernel_rfl) Try.call53 (by kernel_rfl) (LS_of (bodyOf Try.f53) 0 (by kernel_rfl) (fun i hi => absurd hi (Nat.not_lt_zero i)) 0 (by kernel_rfl) (fun i hi => absurd hi (Nat.not_lt_zero i))) true (np := 1) (Nat.le_of_ble_eq_true (by kernel_rfl))).imp fun args => ?_
  by_cases hl : args.length = 1
  rotate_left
  · exact .inr fun m k hk => by
      unfold G53 at hk
      split at hk
      · exact hl rfl
      · exact hk
  obtain ⟨a0, rfl⟩ : ∃ a0, args = [a0] := len_list1 hl
  rcases kI_or .u32 a0 with ⟨x_0, rfl⟩ | h
  rotate_left
  · exact .inr fun m k hk => h _ (by simpa only [G53, kI, kbool, kS, kptr, kaggN, kite, decide_true, eq_self] using hk)
  exact .inl fun m k => propext ⟨fun h => ⟨rfl, by rw [eqn53]; simpa only [G53, kI, kbool, kS, kptr, kaggN, kite, decide_true, eq_self] using h⟩, fun h => by have h := h.2; rw [eqn53] at h; simpa only [G53, kI, kbool, kS, kptr, kaggN, kite, decide_true, eq_self] using h⟩

end Go.Proofs.Ytkgidjnaddjjbaa.Am
