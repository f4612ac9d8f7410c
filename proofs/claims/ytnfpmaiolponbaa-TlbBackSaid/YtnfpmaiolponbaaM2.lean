/- What Go functions ask of what follows them, as plain functions over the abstract machine; the machine asks just that. Written by gen.py. -/
import Derived.Test.YtnfpmaiolponbaaProg
import Derived.Test.YtnfpmaiolponbaaAmL
import Derived.Test.YtnfpmaiolponbaaM1
namespace Go.Proofs.Ytnfpmaiolponbaa.Am
set_option linter.unusedVariables false
set_option linter.unusedSimpArgs false
set_option maxRecDepth 100000

/-- pianola/pianolalaw7.page -/
def F15 (x_0 : Int) (x_1 : Int) (m : Mem) (k : Int → Mem → Prop) : Prop :=
  kif ((x_0.tmod 4) == 3) ((Keeps m m ∧ k x_1 m)) ((Keeps m m ∧ k (bits .or .u32 (x_1.tmod 8192) (IntKind.wrap .u32 ((IntKind.wrap .u32 (bits .and .i64 x_0 1)) * 2147483648))) m))

def G15 (args : List AV) (m : Mem) (k : KV) : Prop := match args with
  | [a0, a1] => kI .i64 a0 fun x_0 => kI .u32 a1 fun x_1 => F15 x_0 x_1 m (fun x_1000 m' => k (.flat (.int .u32 x_1000)) m')
  | _ => False

def E15 : Env := envOf []

def Lam15 : LEnv := ⟨fun a σ m k => match firstReg a with
  | _ => bump False,
  fun id => match id with
  | _ => bump false,
  fun b => match keyC b with
  | _ => bump false,
  fun b σ m k => match keyC b with
  | _ => bump False⟩

theorem eqn15 (x_0 : Int) (x_1 : Int) (m : Mem) (k : KV) : bodyK Try.prog E15 Lam15 Try.f15 true [(.flat (.int .i64 x_0)), (.flat (.int .u32 x_1))] m k = F15 x_0 x_1 m (fun x_1000 m' => k (.flat (.int .u32 x_1000)) m') := by
  kernel_rfl

theorem fs15 (w0 : World) : FS Try.prog w0 15 G15 := by
  refine (fs_body (Γ := E15) (sound_env (l := []) w0 (by
    intro p hp
    cases hp)) (by kernel_rfl) Try.func15 (Λ := Lam15) (c := (bodyOf Try.f15)) (by kernel_rfl) Try.call15 (by kernel_rfl) (LS_of (bodyOf Try.f15) 0 (by kernel_rfl) (fun i hi => absurd hi (Nat.not_lt_zero i)) 0 (by kernel_rfl) (fun i hi => absurd hi (Nat.not_lt_zero i))) true (np := 2) (Nat.le_of_ble_eq_true (by kernel_rfl))).imp fun args => ?_
  by_cases hl : args.length = 2
  rotate_left
  · exact .inr fun m k hk => by
      unfold G15 at hk
      split at hk
      · exact hl rfl
      · exact hk
  obtain ⟨a0, a1, rfl⟩ : ∃ a0 a1, args = [a0, a1] := len_list2 hl
  rcases kI_or .i64 a0 with ⟨x_0, rfl⟩ | h
  rotate_left
  · exact .inr fun m k hk => h _ (by simpa only [G15, kI, kbool, kS, kptr, kaggN, kite, decide_true, eq_self] using hk)
  rcases kI_or .u32 a1 with ⟨x_1, rfl⟩ | h
  rotate_left
  · exact .inr fun m k hk => h _ (by simpa only [G15, kI, kbool, kS, kptr, kaggN, kite, decide_true, eq_self] using hk)
  exact .inl fun m k => propext ⟨fun h => ⟨rfl, by rw [eqn15]; simpa only [G15, kI, kbool, kS, kptr, kaggN, kite, decide_true, eq_self] using h⟩, fun h => by have h := h.2; rw [eqn15] at h; simpa only [G15, kI, kbool, kS, kptr, kaggN, kite, decide_true, eq_self] using h⟩

def R5_12 (v_1 : AV) (v_2 : AV) (b_7 o_7 : Nat) (b_8 o_8 : Nat) (x_9 : Int) (x_11 : Int) (m : Mem) (kn : Int → Mem → Prop) (k2 : Mem → Prop) (kr : Bool → Mem → Prop) : Prop :=
  klen v_2 fun x31 => kif (decide (x_11 < x31)) (kif (decide (x_11 < 6)) (ksl v_2 fun b32 o33 l34 p35 => kif (decide (0 ≤ x_11) && decide (x_11 < l34)) (ldI .u32 m b32 (o33 + (x_11).toNat * 1) fun x36 => F15 x_11 x36 m fun x37 m38 => F13 b_7 o_7 b_8 o_8 x37 m38 fun x39 m40 => kif (!x39) (kr false m40) (kn (IntKind.wrap .i64 (x_11 + 1)) m40)) False) (k2  m)) (k2  m)

def L5_12 (v_1 : AV) (v_2 : AV) (b_7 o_7 : Nat) (b_8 o_8 : Nat) (x_9 : Int) : Nat → Int → Mem → (Mem → Prop) → (Bool → Mem → Prop) → Prop
  | 0, _,  _, _, _ => bump False
  | N + 1, x_11,  m, k2, kr => R5_12 v_1 v_2 b_7 o_7 b_8 o_8 x_9 x_11 m (fun x_11' m' => L5_12 v_1 v_2 b_7 o_7 b_8 o_8 x_9 N x_11' m' k2 kr) k2 kr

def P5_9103 (v_1 : AV) (v_2 : AV) (b_7 o_7 : Nat) (b_8 o_8 : Nat) (x_9 : Int) (b_10 o_10 : Nat) (m : Mem) (kr : Bool → Mem → Prop) (kn : Mem → Prop) : Prop :=
  ldG 4 m b_10 o_10 fun c28 => F12 b_7 o_7 b_8 o_8 c28 m fun x29 m30 => kif (!x29) (kr false m30) (∃ N44, L5_12 v_1 v_2 b_7 o_7 b_8 o_8 x_9 N44 0 m30 (fun m41 => kn  m41) (fun x42 m43 => kr x42 m43))

def R5_4 (v_1 : AV) (v_2 : AV) (b_7 o_7 : Nat) (b_8 o_8 : Nat) (x_9 : Int) (m : Mem) (kn : Int → Mem → Prop) (k0 : Mem → Prop) (kr : Bool → Mem → Prop) : Prop :=
  klen v_1 fun x13 => kif (decide (x_9 < x13)) (kif (decide (x_9 < 40)) (ksl v_1 fun b14 o15 l16 p17 => kif (decide (0 ≤ x_9) && decide (x_9 < l16)) (ldG 4 m b14 (o15 + (x_9).toNat * 4) fun c18 => newK m ⟨4, lget [(.flat (.int .i64 0)), (.flat (.int .i64 0)), (.flat (.int .u32 0)), (.flat (.bool false))], 40, false⟩ fun b20 m19 => stG 4 m19 b20 0 c18 fun m21 => ldI .i64 m21 b20 1 fun x22 => kif ((x22.tmod 3) != 0) (ldI .i64 m21 b20 1 fun x23 => ldI .u32 m21 b20 2 fun x24 => F15 x23 x24 m21 fun x25 m26 => stC m26 b20 2 (.flat (.int .u32 x25)) fun m27 => P5_9103 v_1 v_2 b_7 o_7 b_8 o_8 x_9 b20 0 m27 (fun x45 m46 => kr x45 m46) (fun m47 => kn (IntKind.wrap .i64 (x_9 + 1)) m47)) (P5_9103 v_1 v_2 b_7 o_7 b_8 o_8 x_9 b20 0 m21 (fun x48 m49 => kr x48 m49) (fun m50 => kn (IntKind.wrap .i64 (x_9 + 1)) m50))) False) (k0  m)) (k0  m)

def L5_4 (v_1 : AV) (v_2 : AV) (b_7 o_7 : Nat) (b_8 o_8 : Nat) : Nat → Int → Mem → (Mem → Prop) → (Bool → Mem → Prop) → Prop
  | 0, _,  _, _, _ => bump False
  | N + 1, x_9,  m, k0, kr => R5_4 v_1 v_2 b_7 o_7 b_8 o_8 x_9 m (fun x_9' m' => L5_4 v_1 v_2 b_7 o_7 b_8 o_8 N x_9' m' k0 kr) k0 kr

/-- pianola/pianolalaw7.TlbPlays -/
def F5 (c_0 : Nat → AV) (v_1 : AV) (v_2 : AV) (m : Mem) (k : Bool → Mem → Prop) : Prop :=
  newK m ⟨11, c_0, 46, false⟩ fun b2 m1 => ldG 11 m1 b2 0 fun c3 => F14 c3 0 m1 fun c4 m5 => newK m5 ⟨73, Z73, 29, false⟩ fun b7 m6 => stG 73 m6 b7 0 c4 fun m8 => ldG 73 m8 b7 0 fun c9 => newK m8 ⟨73, Z73, 29, false⟩ fun b11 m10 => stG 73 m10 b11 0 c9 fun m12 => ∃ N54, L5_4 v_1 v_2 b7 0 b11 0 N54 0 m12 (fun m51 => F11  m51 fun x55 m56 => k x55 m56) (fun x52 m53 => k x52 m53)

def G5 (args : List AV) (m : Mem) (k : KV) : Prop := match args with
  | [a0, a1, a2] => kaggN 11 a0 fun c_0 => F5 c_0 a1 a2 m (fun x_1000 m' => k (.flat (.bool x_1000)) m')
  | _ => False

def E5 : Env := envOf [(11, G11), (12, G12), (13, G13), (14, G14), (15, G15)]

def Lam5_4 (σ : Nat → AV) (m : Mem) (k : KX) : Prop := kptr (σ 7) fun b_7 o_7 => kptr (σ 8) fun b_8 o_8 => kI .i64 (σ 9) fun x_9 => ∃ N, L5_4 (σ 1) (σ 2) b_7 o_7 b_8 o_8 N x_9 m (fun m' => k (.exit 0) (only [] []) m') (fun x_6' m' => k .ret (only [6] [(.flat (.bool x_6'))]) m')

def LamP5_9103 (σ : Nat → AV) (m : Mem) (k : KX) : Prop := kptr (σ 7) fun b_7 o_7 => kptr (σ 8) fun b_8 o_8 => kI .i64 (σ 9) fun x_9 => kptr (σ 10) fun b_10 o_10 => P5_9103 (σ 1) (σ 2) b_7 o_7 b_8 o_8 x_9 b_10 o_10 m (fun x_6' m' => k .ret (only [6] [(.flat (.bool x_6'))]) m') (fun m' => k .normal (only [1, 2, 7, 8, 9] [(σ 1), (σ 2), (.ptr b_7 o_7), (.ptr b_8 o_8), (.flat (.int .i64 x_9))]) m')

def Lam5_12 (σ : Nat → AV) (m : Mem) (k : KX) : Prop := kptr (σ 7) fun b_7 o_7 => kptr (σ 8) fun b_8 o_8 => kI .i64 (σ 9) fun x_9 => kI .i64 (σ 11) fun x_11 => ∃ N, L5_12 (σ 1) (σ 2) b_7 o_7 b_8 o_8 x_9 N x_11 m (fun m' => k (.exit 2) (only [1, 2, 7, 8, 9] [(σ 1), (σ 2), (.ptr b_7 o_7), (.ptr b_8 o_8), (.flat (.int .i64 x_9))]) m') (fun x_6' m' => k .ret (only [6] [(.flat (.bool x_6'))]) m')

def Lam5 : LEnv := ⟨fun a σ m k => match firstReg a with
  | some 4 => Lam5_4 σ m k
  | some 12 => Lam5_12 σ m k
  | _ => bump False,
  fun id => match id with
  | _ => bump false,
  fun b => match keyC b with
  | some 9103 => true
  | _ => bump false,
  fun b σ m k => match keyC b with
  | some 9103 => LamP5_9103 σ m k
  | _ => bump False⟩

def lx5_12 : Ex → List Nat := fun e => match e with
  | .exit 2 => [1, 2, 7, 8, 9]
  | .ret => [6]
  | _ => []

theorem round5_12 (v_1 : AV) (v_2 : AV) (b_7 o_7 : Nat) (b_8 o_8 : Nat) (x_9 : Int) (x_11 : Int) (m : Mem) (G : List AV → Mem → Prop) (k : KX) : (wpA Try.prog E5 Lam5 ((loopsOf (bodyOf Try.f5)).getD 1 .skip) (only [1, 2, 7, 8, 9, 11] [v_1, v_2, (.ptr b_7 o_7), (.ptr b_8 o_8), (.flat (.int .i64 x_9)), (.flat (.int .i64 x_11))]) m fun e σ' m' => match e with
    | .normal => G ([1, 2, 7, 8, 9, 11].map σ') m'
    | .exit id => k (.exit id) (only (lx5_12 (.exit id)) ((lx5_12 (.exit id)).map σ')) m'
    | .ret => k .ret (only (lx5_12 .ret) ((lx5_12 .ret).map σ')) m') = R5_12 v_1 v_2 b_7 o_7 b_8 o_8 x_9 x_11 m (fun x_11' m' => G [v_1, v_2, (.ptr b_7 o_7), (.ptr b_8 o_8), (.flat (.int .i64 x_9)), (.flat (.int .i64 x_11'))] m') (fun m' => k (.exit 2) (only [1, 2, 7, 8, 9] [v_1, v_2, (.ptr b_7 o_7), (.ptr b_8 o_8), (.flat (.int .i64 x_9))]) m') (fun x_6' m' => k .ret (only [6] [(.flat (.bool x_6'))]) m') := by
  kernel_rfl

theorem loop5_12 (v_1 : AV) (v_2 : AV) (b_7 o_7 : Nat) (b_8 o_8 : Nat) (x_9 : Int) (k : KX) : ∀ (N : Nat) (x_11 : Int) (m : Mem), rounds Try.prog E5 Lam5 [1, 2, 7, 8, 9, 11] lx5_12 ((loopsOf (bodyOf Try.f5)).getD 1 .skip) N [v_1, v_2, (.ptr b_7 o_7), (.ptr b_8 o_8), (.flat (.int .i64 x_9)), (.flat (.int .i64 x_11))] m k = L5_12 v_1 v_2 b_7 o_7 b_8 o_8 x_9 N x_11 m (fun m' => k (.exit 2) (only [1, 2, 7, 8, 9] [v_1, v_2, (.ptr b_7 o_7), (.ptr b_8 o_8), (.flat (.int .i64 x_9))]) m') (fun x_6' m' => k .ret (only [6] [(.flat (.bool x_6'))]) m') := by
  intro N
  induction N with
  | zero => intros; rfl
  | succ N ih =>
    intro x_11 m
    refine (round5_12 v_1 v_2 b_7 o_7 b_8 o_8 x_9 x_11 m (fun vs m' => rounds Try.prog E5 Lam5 [1, 2, 7, 8, 9, 11] lx5_12 ((loopsOf (bodyOf Try.f5)).getD 1 .skip) N vs m' k) k).trans ?_
    simp only [ih]
    rfl

theorem lok5_12 : LoopOK Try.prog E5 Lam5 ((loopsOf (bodyOf Try.f5)).getD 1 .skip) := by
  refine ⟨fun σ => ∃ v_1 v_2 b_7 o_7 b_8 o_8 x_9 x_11, σ 1 = v_1 ∧ σ 2 = v_2 ∧ σ 7 = .ptr b_7 o_7 ∧ σ 8 = .ptr b_8 o_8 ∧ σ 9 = .flat (.int .i64 x_9) ∧ σ 11 = .flat (.int .i64 x_11), [1, 2, 7, 8, 9, 11], lx5_12, fun σ m k => ?_⟩
  have e : Lam5.loop ((loopsOf (bodyOf Try.f5)).getD 1 .skip) σ m k = Lam5_12 σ m k := by kernel_rfl
  rw [e]
  constructor
  · intro h
    unfold Lam5_12 at h
    obtain ⟨v_1, h0⟩ : ∃ v, σ 1 = v := ⟨_, rfl⟩
    obtain ⟨v_2, h1⟩ : ∃ v, σ 2 = v := ⟨_, rfl⟩
    obtain ⟨b_7, o_7, h2, h⟩ := kptr_ok h
    obtain ⟨b_8, o_8, h3, h⟩ := kptr_ok h
    obtain ⟨x_9, h4, h⟩ := kI_ok h
    obtain ⟨x_11, h5, h⟩ := kI_ok h
    obtain ⟨N, h⟩ := h
    refine ⟨⟨v_1, v_2, b_7, o_7, b_8, o_8, x_9, x_11, h0, h1, h2, h3, h4, h5⟩, N, ?_⟩
    have ev : [1, 2, 7, 8, 9, 11].map σ = [v_1, v_2, (.ptr b_7 o_7), (.ptr b_8 o_8), (.flat (.int .i64 x_9)), (.flat (.int .i64 x_11))] := by simp only [List.map_cons, List.map_nil, h0, h1, h2, h3, h4, h5]
    rw [ev, loop5_12]
    simp only [h0, h1] at h
    exact h
  · rintro ⟨⟨v_1, v_2, b_7, o_7, b_8, o_8, x_9, x_11, h0, h1, h2, h3, h4, h5⟩, N, h⟩
    have ev : [1, 2, 7, 8, 9, 11].map σ = [v_1, v_2, (.ptr b_7 o_7), (.ptr b_8 o_8), (.flat (.int .i64 x_9)), (.flat (.int .i64 x_11))] := by simp only [List.map_cons, List.map_nil, h0, h1, h2, h3, h4, h5]
    rw [ev, loop5_12] at h
    unfold Lam5_12
    simp only [h0, h1, h2, h3, h4, h5, kI, kbool, kS, kptr, kaggN, kite, decide_true, eq_self]
    exact ⟨N, h⟩

def lxp5_9103 : Ex → List Nat := fun e => match e with
  | .ret => [6]
  | .normal => [1, 2, 7, 8, 9]
  | _ => []

theorem pc5_9103 (v_1 : AV) (v_2 : AV) (b_7 o_7 : Nat) (b_8 o_8 : Nat) (x_9 : Int) (b_10 o_10 : Nat) (m : Mem) (k : KX) : once Try.prog E5 Lam5 [1, 2, 7, 8, 9, 10] lxp5_9103 (((secsOf (bodyOf Try.f5)).filter Lam5.cut).getD 0 .skip) [v_1, v_2, (.ptr b_7 o_7), (.ptr b_8 o_8), (.flat (.int .i64 x_9)), (.ptr b_10 o_10)] m k = P5_9103 v_1 v_2 b_7 o_7 b_8 o_8 x_9 b_10 o_10 m (fun x_6' m' => k .ret (only [6] [(.flat (.bool x_6'))]) m') (fun m' => k .normal (only [1, 2, 7, 8, 9] [v_1, v_2, (.ptr b_7 o_7), (.ptr b_8 o_8), (.flat (.int .i64 x_9))]) m') := by
  kernel_rfl

theorem pok5_9103 : PieceOK Try.prog E5 Lam5 (((secsOf (bodyOf Try.f5)).filter Lam5.cut).getD 0 .skip) := by
  refine ⟨fun σ => ∃ v_1 v_2 b_7 o_7 b_8 o_8 x_9 b_10 o_10, σ 1 = v_1 ∧ σ 2 = v_2 ∧ σ 7 = .ptr b_7 o_7 ∧ σ 8 = .ptr b_8 o_8 ∧ σ 9 = .flat (.int .i64 x_9) ∧ σ 10 = .ptr b_10 o_10, [1, 2, 7, 8, 9, 10], lxp5_9103, fun σ m k => ?_⟩
  have e : Lam5.piece (((secsOf (bodyOf Try.f5)).filter Lam5.cut).getD 0 .skip) σ m k = LamP5_9103 σ m k := by kernel_rfl
  rw [e]
  constructor
  · intro h
    unfold LamP5_9103 at h
    obtain ⟨v_1, h0⟩ : ∃ v, σ 1 = v := ⟨_, rfl⟩
    obtain ⟨v_2, h1⟩ : ∃ v, σ 2 = v := ⟨_, rfl⟩
    obtain ⟨b_7, o_7, h2, h⟩ := kptr_ok h
    obtain ⟨b_8, o_8, h3, h⟩ := kptr_ok h
    obtain ⟨x_9, h4, h⟩ := kI_ok h
    obtain ⟨b_10, o_10, h5, h⟩ := kptr_ok h
    refine ⟨⟨v_1, v_2, b_7, o_7, b_8, o_8, x_9, b_10, o_10, h0, h1, h2, h3, h4, h5⟩, ?_⟩
    have ev : [1, 2, 7, 8, 9, 10].map σ = [v_1, v_2, (.ptr b_7 o_7), (.ptr b_8 o_8), (.flat (.int .i64 x_9)), (.ptr b_10 o_10)] := by simp only [List.map_cons, List.map_nil, h0, h1, h2, h3, h4, h5]
    rw [ev, pc5_9103]
    simp only [h0, h1] at h
    exact h
  · rintro ⟨⟨v_1, v_2, b_7, o_7, b_8, o_8, x_9, b_10, o_10, h0, h1, h2, h3, h4, h5⟩, h⟩
    have ev : [1, 2, 7, 8, 9, 10].map σ = [v_1, v_2, (.ptr b_7 o_7), (.ptr b_8 o_8), (.flat (.int .i64 x_9)), (.ptr b_10 o_10)] := by simp only [List.map_cons, List.map_nil, h0, h1, h2, h3, h4, h5]
    rw [ev, pc5_9103] at h
    unfold LamP5_9103
    simp only [h0, h1, h2, h3, h4, h5, kI, kbool, kS, kptr, kaggN, kite, decide_true, eq_self]
    exact h

def lx5_4 : Ex → List Nat := fun e => match e with
  | .exit 0 => []
  | .ret => [6]
  | _ => []

theorem round5_4 (v_1 : AV) (v_2 : AV) (b_7 o_7 : Nat) (b_8 o_8 : Nat) (x_9 : Int) (m : Mem) (G : List AV → Mem → Prop) (k : KX) : (wpA Try.prog E5 Lam5 ((loopsOf (bodyOf Try.f5)).getD 0 .skip) (only [1, 2, 7, 8, 9] [v_1, v_2, (.ptr b_7 o_7), (.ptr b_8 o_8), (.flat (.int .i64 x_9))]) m fun e σ' m' => match e with
    | .normal => G ([1, 2, 7, 8, 9].map σ') m'
    | .exit id => k (.exit id) (only (lx5_4 (.exit id)) ((lx5_4 (.exit id)).map σ')) m'
    | .ret => k .ret (only (lx5_4 .ret) ((lx5_4 .ret).map σ')) m') = R5_4 v_1 v_2 b_7 o_7 b_8 o_8 x_9 m (fun x_9' m' => G [v_1, v_2, (.ptr b_7 o_7), (.ptr b_8 o_8), (.flat (.int .i64 x_9'))] m') (fun m' => k (.exit 0) (only [] []) m') (fun x_6' m' => k .ret (only [6] [(.flat (.bool x_6'))]) m') := by
  kernel_rfl

theorem loop5_4 (v_1 : AV) (v_2 : AV) (b_7 o_7 : Nat) (b_8 o_8 : Nat) (k : KX) : ∀ (N : Nat) (x_9 : Int) (m : Mem), rounds Try.prog E5 Lam5 [1, 2, 7, 8, 9] lx5_4 ((loopsOf (bodyOf Try.f5)).getD 0 .skip) N [v_1, v_2, (.ptr b_7 o_7), (.ptr b_8 o_8), (.flat (.int .i64 x_9))] m k = L5_4 v_1 v_2 b_7 o_7 b_8 o_8 N x_9 m (fun m' => k (.exit 0) (only [] []) m') (fun x_6' m' => k .ret (only [6] [(.flat (.bool x_6'))]) m') := by
  intro N
  induction N with
  | zero => intros; rfl
  | succ N ih =>
    intro x_9 m
    refine (round5_4 v_1 v_2 b_7 o_7 b_8 o_8 x_9 m (fun vs m' => rounds Try.prog E5 Lam5 [1, 2, 7, 8, 9] lx5_4 ((loopsOf (bodyOf Try.f5)).getD 0 .skip) N vs m' k) k).trans ?_
    simp only [ih]
    rfl

theorem lok5_4 : LoopOK Try.prog E5 Lam5 ((loopsOf (bodyOf Try.f5)).getD 0 .skip) := by
  refine ⟨fun σ => ∃ v_1 v_2 b_7 o_7 b_8 o_8 x_9, σ 1 = v_1 ∧ σ 2 = v_2 ∧ σ 7 = .ptr b_7 o_7 ∧ σ 8 = .ptr b_8 o_8 ∧ σ 9 = .flat (.int .i64 x_9), [1, 2, 7, 8, 9], lx5_4, fun σ m k => ?_⟩
  have e : Lam5.loop ((loopsOf (bodyOf Try.f5)).getD 0 .skip) σ m k = Lam5_4 σ m k := by kernel_rfl
  rw [e]
  constructor
  · intro h
    unfold Lam5_4 at h
    obtain ⟨v_1, h0⟩ : ∃ v, σ 1 = v := ⟨_, rfl⟩
    obtain ⟨v_2, h1⟩ : ∃ v, σ 2 = v := ⟨_, rfl⟩
    obtain ⟨b_7, o_7, h2, h⟩ := kptr_ok h
    obtain ⟨b_8, o_8, h3, h⟩ := kptr_ok h
    obtain ⟨x_9, h4, h⟩ := kI_ok h
    obtain ⟨N, h⟩ := h
    refine ⟨⟨v_1, v_2, b_7, o_7, b_8, o_8, x_9, h0, h1, h2, h3, h4⟩, N, ?_⟩
    have ev : [1, 2, 7, 8, 9].map σ = [v_1, v_2, (.ptr b_7 o_7), (.ptr b_8 o_8), (.flat (.int .i64 x_9))] := by simp only [List.map_cons, List.map_nil, h0, h1, h2, h3, h4]
    rw [ev, loop5_4]
    simp only [h0, h1] at h
    exact h
  · rintro ⟨⟨v_1, v_2, b_7, o_7, b_8, o_8, x_9, h0, h1, h2, h3, h4⟩, N, h⟩
    have ev : [1, 2, 7, 8, 9].map σ = [v_1, v_2, (.ptr b_7 o_7), (.ptr b_8 o_8), (.flat (.int .i64 x_9))] := by simp only [List.map_cons, List.map_nil, h0, h1, h2, h3, h4]
    rw [ev, loop5_4] at h
    unfold Lam5_4
    simp only [h0, h1, h2, h3, h4, kI, kbool, kS, kptr, kaggN, kite, decide_true, eq_self]
    exact ⟨N, h⟩

theorem eqn5 (c_0 : Nat → AV) (v_1 : AV) (v_2 : AV) (m : Mem) (k : KV) : bodyK Try.prog E5 Lam5 Try.f5 false [(.agg 11 c_0), v_1, v_2] m k = F5 c_0 v_1 v_2 m (fun x_1000 m' => k (.flat (.bool x_1000)) m') := by
  kernel_rfl

theorem fs5 (w0 : World) : FS Try.prog w0 5 G5 := by
  refine (fs_body (Γ := E5) (sound_env (l := [(11, G11), (12, G12), (13, G13), (14, G14), (15, G15)]) w0 (by
    intro p hp
    simp only [List.mem_cons, List.not_mem_nil, or_false] at hp
    rcases hp with rfl | rfl | rfl | rfl | rfl
    · exact fs11 w0
    · exact fs12 w0
    · exact fs13 w0
    · exact fs14 w0
    · exact fs15 w0)) (by kernel_rfl) Try.func5 (Λ := Lam5) (c := (bodyOf Try.f5)) (by kernel_rfl) Try.call5 (by kernel_rfl) (LS_of (bodyOf Try.f5) 2 (by kernel_rfl) (by
    intro i hi
    match i, hi with
    | 0, _ => exact lok5_4
    | 1, _ => exact lok5_12
    | i + 2, hi => omega) 1 (by kernel_rfl) (by
    intro i hi
    match i, hi with
    | 0, _ => exact pok5_9103
    | i + 1, hi => omega)) false (np := 3) (Nat.le_of_ble_eq_true (by kernel_rfl))).imp fun args => ?_
  by_cases hl : args.length = 3
  rotate_left
  · exact .inr fun m k hk => by
      unfold G5 at hk
      split at hk
      · exact hl rfl
      · exact hk
  obtain ⟨a0, a1, a2, rfl⟩ : ∃ a0 a1 a2, args = [a0, a1, a2] := len_list3 hl
  rcases kaggN_or 11 a0 with ⟨c_0, rfl⟩ | h
  rotate_left
  · exact .inr fun m k hk => h _ (by simpa only [G5, kI, kbool, kS, kptr, kaggN, kite, decide_true, eq_self] using hk)
  exact .inl fun m k => propext ⟨fun h => ⟨rfl, by rw [eqn5]; simpa only [G5, kI, kbool, kS, kptr, kaggN, kite, decide_true, eq_self] using h⟩, fun h => by have h := h.2; rw [eqn5] at h; simpa only [G5, kI, kbool, kS, kptr, kaggN, kite, decide_true, eq_self] using h⟩

def R6_3 (x_0 : Int) (x_1 : Int) (x_2 : Int) (v_3 : AV) (b_9 o_9 : Nat) (x_10 : Int) (m : Mem) (kn : Int → Mem → Prop) (k0 : Mem → Prop) : Prop :=
  klen v_3 fun x6 => kif (decide (x_10 < x6)) (kif (decide (x_10 < 8)) (ksl v_3 fun b7 o8 l9 p10 => kif (decide (0 ≤ x_10) && decide (x_10 < l9)) (ldI .u32 m b7 (o8 + (x_10).toNat * 2 + 0) fun x11 => ksl v_3 fun b12 o13 l14 p15 => kif (decide (0 ≤ x_10) && decide (x_10 < l14)) (ldI .u32 m b12 (o13 + (x_10).toNat * 2 + 1) fun x16 => kif (decide (0 ≤ x_10) && decide (x_10 < 8)) (stG 2 m b_9 (o_9 + 55 + (x_10).toNat * 2) (upd (upd (lget [(.flat (.int .u32 0)), (.flat (.int .u32 0))]) 0 (.flat (.int .u32 (bits .and .u32 x11 4294966527)))) 1 (.flat (.int .u32 (bits .and .u32 x16 4294966279)))) fun m17 => kn (IntKind.wrap .i64 (x_10 + 1)) m17) False) False) False) (k0  m)) (k0  m)

def L6_3 (x_0 : Int) (x_1 : Int) (x_2 : Int) (v_3 : AV) (b_9 o_9 : Nat) : Nat → Int → Mem → (Mem → Prop) → Prop
  | 0, _,  _, _ => bump False
  | N + 1, x_10,  m, k0 => R6_3 x_0 x_1 x_2 v_3 b_9 o_9 x_10 m (fun x_10' m' => L6_3 x_0 x_1 x_2 v_3 b_9 o_9 N x_10' m' k0) k0

/-- pianola/pianolalaw7.TlbBack -/
def F6 (x_0 : Int) (x_1 : Int) (x_2 : Int) (v_3 : AV) (m : Mem) (k : Bool → Mem → Prop) : Prop :=
  F7  m fun c1 m2 => newK m2 ⟨73, Z73, 29, false⟩ fun b4 m3 => stG 73 m3 b4 0 c1 fun m5 => ∃ N19, L6_3 x_0 x_1 x_2 v_3 b4 0 N19 0 m5 (fun m18 => F8 b4 0 0 (IntKind.wrap .u32 (bits .and .i64 x_2 7)) m18 fun m20 => F8 b4 0 10 x_0 m20 fun m21 => F8 b4 0 2 x_1 m21 fun m22 => F16 b4 0 false m22 fun m23 => F10 b4 0 x_0 m23 fun x24 m25 => kif (decide (x24 < 0)) (k false m25) (F10 b4 0 x_0 m25 fun x26 m27 => kif (decide (x26 > (IntKind.wrap .i64 (IntKind.wrap .u32 (bits .and .i64 x_2 7))))) (k false m27) (F17 b4 0 m27 fun m28 => ldI .u32 m28 b4 39 fun x29 => kif (decide (x29 > (IntKind.wrap .u32 (bits .and .i64 x_2 7)))) (k false m28) (F8 b4 0 10 0 m28 fun m30 => F8 b4 0 2 0 m30 fun m31 => F8 b4 0 0 (IntKind.wrap .u32 (bits .and .i64 x_2 7)) m31 fun m32 => F18 b4 0 m32 fun m33 => ldI .u32 m33 b4 49 fun x34 => kif (x34 == (bits .and .u32 x_0 4294966527)) (ldI .u32 m33 b4 41 fun x35 => kif (x35 == (bits .and .u32 x_1 4294966279)) (F11  m33 fun x36 m37 => k x36 m37) (k false m33)) (k false m33)))))

def G6 (args : List AV) (m : Mem) (k : KV) : Prop := match args with
  | [a0, a1, a2, a3] => kI .u32 a0 fun x_0 => kI .u32 a1 fun x_1 => kI .i64 a2 fun x_2 => F6 x_0 x_1 x_2 a3 m (fun x_1000 m' => k (.flat (.bool x_1000)) m')
  | _ => False

def E6 : Env := envOf [(7, G7), (8, G8), (10, G10), (11, G11), (16, G16), (17, G17), (18, G18)]

def Lam6_3 (σ : Nat → AV) (m : Mem) (k : KX) : Prop := kI .u32 (σ 0) fun x_0 => kI .u32 (σ 1) fun x_1 => kI .i64 (σ 2) fun x_2 => kptr (σ 9) fun b_9 o_9 => kI .i64 (σ 10) fun x_10 => ∃ N, L6_3 x_0 x_1 x_2 (σ 3) b_9 o_9 N x_10 m (fun m' => k (.exit 0) (only [0, 1, 2, 9] [(.flat (.int .u32 x_0)), (.flat (.int .u32 x_1)), (.flat (.int .i64 x_2)), (.ptr b_9 o_9)]) m')

def Lam6 : LEnv := ⟨fun a σ m k => match firstReg a with
  | some 3 => Lam6_3 σ m k
  | _ => bump False,
  fun id => match id with
  | _ => bump false,
  fun b => match keyC b with
  | _ => bump false,
  fun b σ m k => match keyC b with
  | _ => bump False⟩

def lx6_3 : Ex → List Nat := fun e => match e with
  | .exit 0 => [0, 1, 2, 9]
  | _ => []

theorem round6_3 (x_0 : Int) (x_1 : Int) (x_2 : Int) (v_3 : AV) (b_9 o_9 : Nat) (x_10 : Int) (m : Mem) (G : List AV → Mem → Prop) (k : KX) : (wpA Try.prog E6 Lam6 ((loopsOf (bodyOf Try.f6)).getD 0 .skip) (only [0, 1, 2, 3, 9, 10] [(.flat (.int .u32 x_0)), (.flat (.int .u32 x_1)), (.flat (.int .i64 x_2)), v_3, (.ptr b_9 o_9), (.flat (.int .i64 x_10))]) m fun e σ' m' => match e with
    | .normal => G ([0, 1, 2, 3, 9, 10].map σ') m'
    | .exit id => k (.exit id) (only (lx6_3 (.exit id)) ((lx6_3 (.exit id)).map σ')) m'
    | .ret => k .ret (only (lx6_3 .ret) ((lx6_3 .ret).map σ')) m') = R6_3 x_0 x_1 x_2 v_3 b_9 o_9 x_10 m (fun x_10' m' => G [(.flat (.int .u32 x_0)), (.flat (.int .u32 x_1)), (.flat (.int .i64 x_2)), v_3, (.ptr b_9 o_9), (.flat (.int .i64 x_10'))] m') (fun m' => k (.exit 0) (only [0, 1, 2, 9] [(.flat (.int .u32 x_0)), (.flat (.int .u32 x_1)), (.flat (.int .i64 x_2)), (.ptr b_9 o_9)]) m') := by
  kernel_rfl

theorem loop6_3 (x_0 : Int) (x_1 : Int) (x_2 : Int) (v_3 : AV) (b_9 o_9 : Nat) (k : KX) : ∀ (N : Nat) (x_10 : Int) (m : Mem), rounds Try.prog E6 Lam6 [0, 1, 2, 3, 9, 10] lx6_3 ((loopsOf (bodyOf Try.f6)).getD 0 .skip) N [(.flat (.int .u32 x_0)), (.flat (.int .u32 x_1)), (.flat (.int .i64 x_2)), v_3, (.ptr b_9 o_9), (.flat (.int .i64 x_10))] m k = L6_3 x_0 x_1 x_2 v_3 b_9 o_9 N x_10 m (fun m' => k (.exit 0) (only [0, 1, 2, 9] [(.flat (.int .u32 x_0)), (.flat (.int .u32 x_1)), (.flat (.int .i64 x_2)), (.ptr b_9 o_9)]) m') := by
  intro N
  induction N with
  | zero => intros; rfl
  | succ N ih =>
    intro x_10 m
    refine (round6_3 x_0 x_1 x_2 v_3 b_9 o_9 x_10 m (fun vs m' => rounds Try.prog E6 Lam6 [0, 1, 2, 3, 9, 10] lx6_3 ((loopsOf (bodyOf Try.f6)).getD 0 .skip) N vs m' k) k).trans ?_
    simp only [ih]
    rfl

theorem lok6_3 : LoopOK Try.prog E6 Lam6 ((loopsOf (bodyOf Try.f6)).getD 0 .skip) := by
  refine ⟨fun σ => ∃ x_0 x_1 x_2 v_3 b_9 o_9 x_10, σ 0 = .flat (.int .u32 x_0) ∧ σ 1 = .flat (.int .u32 x_1) ∧ σ 2 = .flat (.int .i64 x_2) ∧ σ 3 = v_3 ∧ σ 9 = .ptr b_9 o_9 ∧ σ 10 = .flat (.int .i64 x_10), [0, 1, 2, 3, 9, 10], lx6_3, fun σ m k => ?_⟩
  have e : Lam6.loop ((loopsOf (bodyOf Try.f6)).getD 0 .skip) σ m k = Lam6_3 σ m k := by kernel_rfl
  rw [e]
  constructor
  · intro h
    unfold Lam6_3 at h
    obtain ⟨x_0, h0, h⟩ := kI_ok h
    obtain ⟨x_1, h1, h⟩ := kI_ok h
    obtain ⟨x_2, h2, h⟩ := kI_ok h
    obtain ⟨v_3, h3⟩ : ∃ v, σ 3 = v := ⟨_, rfl⟩
    obtain ⟨b_9, o_9, h4, h⟩ := kptr_ok h
    obtain ⟨x_10, h5, h⟩ := kI_ok h
    obtain ⟨N, h⟩ := h
    refine ⟨⟨x_0, x_1, x_2, v_3, b_9, o_9, x_10, h0, h1, h2, h3, h4, h5⟩, N, ?_⟩
    have ev : [0, 1, 2, 3, 9, 10].map σ = [(.flat (.int .u32 x_0)), (.flat (.int .u32 x_1)), (.flat (.int .i64 x_2)), v_3, (.ptr b_9 o_9), (.flat (.int .i64 x_10))] := by simp only [List.map_cons, List.map_nil, h0, h1, h2, h3, h4, h5]
    rw [ev, loop6_3]
    simp only [h3] at h
    exact h
  · rintro ⟨⟨x_0, x_1, x_2, v_3, b_9, o_9, x_10, h0, h1, h2, h3, h4, h5⟩, N, h⟩
    have ev : [0, 1, 2, 3, 9, 10].map σ = [(.flat (.int .u32 x_0)), (.flat (.int .u32 x_1)), (.flat (.int .i64 x_2)), v_3, (.ptr b_9 o_9), (.flat (.int .i64 x_10))] := by simp only [List.map_cons, List.map_nil, h0, h1, h2, h3, h4, h5]
    rw [ev, loop6_3] at h
    unfold Lam6_3
    simp only [h0, h1, h2, h3, h4, h5, kI, kbool, kS, kptr, kaggN, kite, decide_true, eq_self]
    exact ⟨N, h⟩

theorem eqn6 (x_0 : Int) (x_1 : Int) (x_2 : Int) (v_3 : AV) (m : Mem) (k : KV) : bodyK Try.prog E6 Lam6 Try.f6 false [(.flat (.int .u32 x_0)), (.flat (.int .u32 x_1)), (.flat (.int .i64 x_2)), v_3] m k = F6 x_0 x_1 x_2 v_3 m (fun x_1000 m' => k (.flat (.bool x_1000)) m') := by
  kernel_rfl

theorem fs6 (w0 : World) : FS Try.prog w0 6 G6 := by
  refine (fs_body (Γ := E6) (sound_env (l := [(7, G7), (8, G8), (10, G10), (11, G11), (16, G16), (17, G17), (18, G18)]) w0 (by
    intro p hp
    simp only [List.mem_cons, List.not_mem_nil, or_false] at hp
    rcases hp with rfl | rfl | rfl | rfl | rfl | rfl | rfl
    · exact fs7 w0
    · exact fs8 w0
    · exact fs10 w0
    · exact fs11 w0
    · exact fs16 w0
    · exact fs17 w0
    · exact fs18 w0)) (by kernel_rfl) Try.func6 (Λ := Lam6) (c := (bodyOf Try.f6)) (by kernel_rfl) Try.call6 (by kernel_rfl) (LS_of (bodyOf Try.f6) 1 (by kernel_rfl) (by
    intro i hi
    match i, hi with
    | 0, _ => exact lok6_3
    | i + 1, hi => omega) 0 (by kernel_rfl) (fun i hi => absurd hi (Nat.not_lt_zero i))) false (np := 4) (Nat.le_of_ble_eq_true (by kernel_rfl))).imp fun args => ?_
  by_cases hl : args.length = 4
  rotate_left
  · exact .inr fun m k hk => by
      unfold G6 at hk
      split at hk
      · exact hl rfl
      · exact hk
  obtain ⟨a0, a1, a2, a3, rfl⟩ : ∃ a0 a1 a2 a3, args = [a0, a1, a2, a3] := len_list4 hl
  rcases kI_or .u32 a0 with ⟨x_0, rfl⟩ | h
  rotate_left
  · exact .inr fun m k hk => h _ (by simpa only [G6, kI, kbool, kS, kptr, kaggN, kite, decide_true, eq_self] using hk)
  rcases kI_or .u32 a1 with ⟨x_1, rfl⟩ | h
  rotate_left
  · exact .inr fun m k hk => h _ (by simpa only [G6, kI, kbool, kS, kptr, kaggN, kite, decide_true, eq_self] using hk)
  rcases kI_or .i64 a2 with ⟨x_2, rfl⟩ | h
  rotate_left
  · exact .inr fun m k hk => h _ (by simpa only [G6, kI, kbool, kS, kptr, kaggN, kite, decide_true, eq_self] using hk)
  exact .inl fun m k => propext ⟨fun h => ⟨rfl, by rw [eqn6]; simpa only [G6, kI, kbool, kS, kptr, kaggN, kite, decide_true, eq_self] using h⟩, fun h => by have h := h.2; rw [eqn6] at h; simpa only [G6, kI, kbool, kS, kptr, kaggN, kite, decide_true, eq_self] using h⟩

end Go.Proofs.Ytnfpmaiolponbaa.Am
