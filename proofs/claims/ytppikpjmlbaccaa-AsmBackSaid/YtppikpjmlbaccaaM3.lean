/- What Go functions ask of what follows them, as plain functions over the abstract machine; the machine asks just that. Written by gen.py. -/
import Derived.Test.YtppikpjmlbaccaaProg
import Derived.Test.YtppikpjmlbaccaaAmL
import Derived.Test.YtppikpjmlbaccaaM2
namespace Go.Proofs.Ytppikpjmlbaccaa.Am
set_option linter.unusedVariables false
set_option linter.unusedSimpArgs false
set_option maxRecDepth 100000

/-- pianola/pianolakeep.only -/
def F28 (c_0 : Nat → AV) (x_1 : Int) (m : Mem) (k : (Nat → AV) → Mem → Prop) : Prop :=
  newK m ⟨6, c_0, 25, false⟩ fun b2 m1 => newK m1 ⟨6, Z6, 25, false⟩ fun b4 m3 => ldI .i64 m3 b2 0 fun x5 => newK m3 ⟨6, Z6, 25, false⟩ fun b7 m6 => stG 6 m6 b7 0 (upd (Z6) 0 (.flat (.int .i64 x5))) fun m8 => kif (x_1 == 0) (stC m8 b7 1 (.flat (.int .i64 1)) fun m9 => ldG 6 m9 b7 0 fun c16 => stG 6 m9 b4 0 c16 fun m17 => ldG 6 m17 b4 0 fun c28 => (Keeps m m17 ∧ InDomG 6 m c28 ∧ k c28 m)) (kif (x_1 == 1) (stC m8 b7 2 (.flat (.int .i64 1)) fun m10 => ldG 6 m10 b7 0 fun c18 => stG 6 m10 b4 0 c18 fun m19 => ldG 6 m19 b4 0 fun c29 => (Keeps m m19 ∧ InDomG 6 m c29 ∧ k c29 m)) (kif (x_1 == 2) (stC m8 b7 3 (.flat (.int .i64 1)) fun m11 => ldG 6 m11 b7 0 fun c20 => stG 6 m11 b4 0 c20 fun m21 => ldG 6 m21 b4 0 fun c30 => (Keeps m m21 ∧ InDomG 6 m c30 ∧ k c30 m)) (kif (x_1 == 3) (stC m8 b7 4 (.flat (.int .i64 1)) fun m12 => ldG 6 m12 b7 0 fun c22 => stG 6 m12 b4 0 c22 fun m23 => ldG 6 m23 b4 0 fun c31 => (Keeps m m23 ∧ InDomG 6 m c31 ∧ k c31 m)) (kif (x_1 == 4) (ldI .u32 m8 b2 5 fun x13 => stC m8 b7 5 (.flat (.int .u32 x13)) fun m14 => ldG 6 m14 b7 0 fun c24 => stG 6 m14 b4 0 c24 fun m25 => ldG 6 m25 b4 0 fun c32 => (Keeps m m25 ∧ InDomG 6 m c32 ∧ k c32 m)) (stC m8 b7 5 (.flat (.int .u32 1)) fun m15 => ldG 6 m15 b7 0 fun c26 => stG 6 m15 b4 0 c26 fun m27 => ldG 6 m27 b4 0 fun c33 => (Keeps m m27 ∧ InDomG 6 m c33 ∧ k c33 m))))))

def G28 (args : List AV) (m : Mem) (k : KV) : Prop := match args with
  | [a0, a1] => kaggN 6 a0 fun c_0 => kI .i64 a1 fun x_1 => F28 c_0 x_1 m (fun c_1000 m' => k (.agg 6 c_1000) m')
  | _ => False

def E28 : Env := envOf []

def Lam28 : LEnv := ⟨fun a σ m k => match firstReg a with
  | _ => bump False,
  fun id => match id with
  | _ => bump false,
  fun b => match keyC b with
  | _ => bump false,
  fun b σ m k => match keyC b with
  | _ => bump False⟩

theorem eqn28 (c_0 : Nat → AV) (x_1 : Int) (m : Mem) (k : KV) : bodyK Try.prog E28 Lam28 Try.f28 true [(.agg 6 c_0), (.flat (.int .i64 x_1))] m k = F28 c_0 x_1 m (fun c_1000 m' => k (.agg 6 c_1000) m') := by
  kernel_rfl

theorem fs28 (w0 : World) : FS Try.prog w0 28 G28 := by
  refine (fs_body (Γ := E28) (sound_env (l := []) w0 (by
    intro p hp
    cases hp)) (by kernel_rfl) Try.func28 (Λ := Lam28) (c := (bodyOf Try.f28)) (by kernel_rfl) Try.call28 (by kernel_rfl) (LS_of (bodyOf Try.f28) 0 (by kernel_rfl) (fun i hi => absurd hi (Nat.not_lt_zero i)) 0 (by kernel_rfl) (fun i hi => absurd hi (Nat.not_lt_zero i))) true (np := 2) (Nat.le_of_ble_eq_true (by kernel_rfl))).imp fun args => ?_
  by_cases hl : args.length = 2
  rotate_left
  · exact .inr fun m k hk => by
      unfold G28 at hk
      split at hk
      · exact hl rfl
      · exact hk
  obtain ⟨a0, a1, rfl⟩ : ∃ a0 a1, args = [a0, a1] := len_list2 hl
  rcases kaggN_or 6 a0 with ⟨c_0, rfl⟩ | h
  rotate_left
  · exact .inr fun m k hk => h _ (by simpa only [G28, kI, kbool, kS, kptr, kaggN, kite, decide_true, eq_self] using hk)
  rcases kI_or .i64 a1 with ⟨x_1, rfl⟩ | h
  rotate_left
  · exact .inr fun m k hk => h _ (by simpa only [G28, kI, kbool, kS, kptr, kaggN, kite, decide_true, eq_self] using hk)
  exact .inl fun m k => propext ⟨fun h => ⟨rfl, by rw [eqn28]; simpa only [G28, kI, kbool, kS, kptr, kaggN, kite, decide_true, eq_self] using h⟩, fun h => by have h := h.2; rw [eqn28] at h; simpa only [G28, kI, kbool, kS, kptr, kaggN, kite, decide_true, eq_self] using h⟩

def P20_18102 (b_4 o_4 : Nat) (b_5 o_5 : Nat) (x_6 : Int) (b_7 o_7 : Nat) (m : Mem) (kn : Mem → Prop) : Prop :=
  ldG 6 m b_5 o_5 fun c33 => F28 c33 x_6 m fun c34 m35 => F22 c34 m35 fun x36 m37 => kif (!x36) (ldG 6 m37 b_7 o_7 fun c38 => stG 6 m37 b_5 o_5 c38 fun m39 => kn  m39) (kn  m37)

def R20_3 (b_4 o_4 : Nat) (b_5 o_5 : Nat) (x_6 : Int) (m : Mem) (kn : Int → Mem → Prop) (k0 : Mem → Prop) : Prop :=
  kif (decide (x_6 < 6)) (ldG 6 m b_5 o_5 fun c22 => newK m ⟨6, Z6, 25, false⟩ fun b24 m23 => stG 6 m23 b24 0 c22 fun m25 => kif (x_6 == 0) (stC m25 b24 1 (.flat (.int .i64 0)) fun m26 => P20_18102 b_4 o_4 b_5 o_5 x_6 b24 0 m26 (fun m40 => kn (IntKind.wrap .i64 (x_6 + 1)) m40)) (kif (x_6 == 1) (stC m25 b24 2 (.flat (.int .i64 0)) fun m27 => P20_18102 b_4 o_4 b_5 o_5 x_6 b24 0 m27 (fun m41 => kn (IntKind.wrap .i64 (x_6 + 1)) m41)) (kif (x_6 == 2) (stC m25 b24 3 (.flat (.int .i64 0)) fun m28 => P20_18102 b_4 o_4 b_5 o_5 x_6 b24 0 m28 (fun m42 => kn (IntKind.wrap .i64 (x_6 + 1)) m42)) (kif (x_6 == 3) (stC m25 b24 4 (.flat (.int .i64 0)) fun m29 => P20_18102 b_4 o_4 b_5 o_5 x_6 b24 0 m29 (fun m43 => kn (IntKind.wrap .i64 (x_6 + 1)) m43)) (kif (x_6 == 4) (ldI .u32 m25 b24 5 fun x30 => stC m25 b24 5 (.flat (.int .u32 (bits .and .u32 x30 65535))) fun m31 => P20_18102 b_4 o_4 b_5 o_5 x_6 b24 0 m31 (fun m44 => kn (IntKind.wrap .i64 (x_6 + 1)) m44)) (stC m25 b24 5 (.flat (.int .u32 0)) fun m32 => P20_18102 b_4 o_4 b_5 o_5 x_6 b24 0 m32 (fun m45 => kn (IntKind.wrap .i64 (x_6 + 1)) m45))))))) (k0  m)

def L20_3 (b_4 o_4 : Nat) (b_5 o_5 : Nat) : Nat → Int → Mem → (Mem → Prop) → Prop
  | 0, _,  _, _ => bump False
  | N + 1, x_6,  m, k0 => R20_3 b_4 o_4 b_5 o_5 x_6 m (fun x_6' m' => L20_3 b_4 o_4 b_5 o_5 N x_6' m' k0) k0

/-- pianola/pianolakeep.Inst -/
def F20 (c_0 : Nat → AV) (x_1 : Int) (m : Mem) (k : (Nat → AV) → Mem → Prop) : Prop :=
  newK m ⟨7, c_0, 38, false⟩ fun b2 m1 => newK m1 ⟨6, Z6, 25, false⟩ fun b4 m3 => ∃ Fr5 : Nat → Prop, Fr5 b2 ∧ (ldI .i64 m3 b2 1 fun x6 => F27 x6 m3 fun x7 m8 => KeepsIn Fr5 m3 m8 ∧ (Fr5 b2 ∧ (ldI .i64 m8 b2 2 fun x9 => F27 x9 m8 fun x10 m11 => KeepsIn Fr5 m8 m11 ∧ (Fr5 b2 ∧ (ldI .i64 m11 b2 3 fun x12 => F27 x12 m11 fun x13 m14 => KeepsIn Fr5 m11 m14 ∧ (Fr5 b2 ∧ (ldI .i64 m14 b2 4 fun x15 => F13 x15 0 31 m14 fun x16 m17 => KeepsIn Fr5 m14 m17 ∧ (Fr5 b2 ∧ (ldI .u32 m17 b2 5 fun x18 => newK m17 ⟨6, Z6, 25, false⟩ fun b20 m19 => stG 6 m19 b20 0 (upd (upd (upd (upd (upd (upd (Z6) 0 (.flat (.int .i64 x_1))) 1 (.flat (.int .i64 x7))) 2 (.flat (.int .i64 x10))) 3 (.flat (.int .i64 x13))) 4 (.flat (.int .i64 x16))) 5 (.flat (.int .u32 (bits .and .u32 x18 67108863)))) fun m21 => ∃ N47, L20_3 b4 0 b20 0 N47 0 m21 (fun m46 => ldG 6 m46 b20 0 fun c48 => stG 6 m46 b4 0 c48 fun m49 => ldG 6 m49 b4 0 fun c50 => (Keeps m m49 ∧ InDomG 6 m c50 ∧ k c50 m)))))))))))

def G20 (args : List AV) (m : Mem) (k : KV) : Prop := match args with
  | [a0, a1] => kaggN 7 a0 fun c_0 => kI .i64 a1 fun x_1 => F20 c_0 x_1 m (fun c_1000 m' => k (.agg 6 c_1000) m')
  | _ => False

def E20 : Env := envOf [(13, G13), (22, G22), (27, G27), (28, G28)]

def Lam20_3 (σ : Nat → AV) (m : Mem) (k : KX) : Prop := kptr (σ 4) fun b_4 o_4 => kptr (σ 5) fun b_5 o_5 => kI .i64 (σ 6) fun x_6 => ∃ N, L20_3 b_4 o_4 b_5 o_5 N x_6 m (fun m' => k (.exit 0) (only [4, 5] [(.ptr b_4 o_4), (.ptr b_5 o_5)]) m')

def LamP20_18102 (σ : Nat → AV) (m : Mem) (k : KX) : Prop := kptr (σ 4) fun b_4 o_4 => kptr (σ 5) fun b_5 o_5 => kI .i64 (σ 6) fun x_6 => kptr (σ 7) fun b_7 o_7 => P20_18102 b_4 o_4 b_5 o_5 x_6 b_7 o_7 m (fun m' => k .normal (only [4, 5, 6] [(.ptr b_4 o_4), (.ptr b_5 o_5), (.flat (.int .i64 x_6))]) m')

def Lam20 : LEnv := ⟨fun a σ m k => match firstReg a with
  | some 3 => Lam20_3 σ m k
  | _ => bump False,
  fun id => match id with
  | 1 => true
  | _ => bump false,
  fun b => match keyC b with
  | some 18102 => true
  | _ => bump false,
  fun b σ m k => match keyC b with
  | some 18102 => LamP20_18102 σ m k
  | _ => bump False⟩

def lxp20_18102 : Ex → List Nat := fun e => match e with
  | .normal => [4, 5, 6]
  | _ => []

theorem pc20_18102 (b_4 o_4 : Nat) (b_5 o_5 : Nat) (x_6 : Int) (b_7 o_7 : Nat) (m : Mem) (k : KX) : once Try.prog E20 Lam20 [4, 5, 6, 7] lxp20_18102 (((secsOf (bodyOf Try.f20)).filter Lam20.cut).getD 0 .skip) [(.ptr b_4 o_4), (.ptr b_5 o_5), (.flat (.int .i64 x_6)), (.ptr b_7 o_7)] m k = P20_18102 b_4 o_4 b_5 o_5 x_6 b_7 o_7 m (fun m' => k .normal (only [4, 5, 6] [(.ptr b_4 o_4), (.ptr b_5 o_5), (.flat (.int .i64 x_6))]) m') := by
  kernel_rfl

theorem pok20_18102 : PieceOK Try.prog E20 Lam20 (((secsOf (bodyOf Try.f20)).filter Lam20.cut).getD 0 .skip) := by
  refine ⟨fun σ => ∃ b_4 o_4 b_5 o_5 x_6 b_7 o_7, σ 4 = .ptr b_4 o_4 ∧ σ 5 = .ptr b_5 o_5 ∧ σ 6 = .flat (.int .i64 x_6) ∧ σ 7 = .ptr b_7 o_7, [4, 5, 6, 7], lxp20_18102, fun σ m k => ?_⟩
  have e : Lam20.piece (((secsOf (bodyOf Try.f20)).filter Lam20.cut).getD 0 .skip) σ m k = LamP20_18102 σ m k := by kernel_rfl
  rw [e]
  constructor
  · intro h
    unfold LamP20_18102 at h
    obtain ⟨b_4, o_4, h0, h⟩ := kptr_ok h
    obtain ⟨b_5, o_5, h1, h⟩ := kptr_ok h
    obtain ⟨x_6, h2, h⟩ := kI_ok h
    obtain ⟨b_7, o_7, h3, h⟩ := kptr_ok h
    refine ⟨⟨b_4, o_4, b_5, o_5, x_6, b_7, o_7, h0, h1, h2, h3⟩, ?_⟩
    have ev : [4, 5, 6, 7].map σ = [(.ptr b_4 o_4), (.ptr b_5 o_5), (.flat (.int .i64 x_6)), (.ptr b_7 o_7)] := by simp only [List.map_cons, List.map_nil, h0, h1, h2, h3]
    rw [ev, pc20_18102]
    exact h
  · rintro ⟨⟨b_4, o_4, b_5, o_5, x_6, b_7, o_7, h0, h1, h2, h3⟩, h⟩
    have ev : [4, 5, 6, 7].map σ = [(.ptr b_4 o_4), (.ptr b_5 o_5), (.flat (.int .i64 x_6)), (.ptr b_7 o_7)] := by simp only [List.map_cons, List.map_nil, h0, h1, h2, h3]
    rw [ev, pc20_18102] at h
    unfold LamP20_18102
    try simp only [h0, h1, h2, h3, kI, kbool, kS, kptr, kaggN, kite, decide_true, eq_self]
    exact h

def lx20_3 : Ex → List Nat := fun e => match e with
  | .exit 0 => [4, 5]
  | _ => []

theorem round20_3 (b_4 o_4 : Nat) (b_5 o_5 : Nat) (x_6 : Int) (m : Mem) (G : List AV → Mem → Prop) (k : KX) : (wpA Try.prog E20 Lam20 ((loopsOf (bodyOf Try.f20)).getD 0 .skip) (only [4, 5, 6] [(.ptr b_4 o_4), (.ptr b_5 o_5), (.flat (.int .i64 x_6))]) m fun e σ' m' => match e with
    | .normal => G ([4, 5, 6].map σ') m'
    | .exit id => k (.exit id) (only (lx20_3 (.exit id)) ((lx20_3 (.exit id)).map σ')) m'
    | .ret => k .ret (only (lx20_3 .ret) ((lx20_3 .ret).map σ')) m') = R20_3 b_4 o_4 b_5 o_5 x_6 m (fun x_6' m' => G [(.ptr b_4 o_4), (.ptr b_5 o_5), (.flat (.int .i64 x_6'))] m') (fun m' => k (.exit 0) (only [4, 5] [(.ptr b_4 o_4), (.ptr b_5 o_5)]) m') := by
  kernel_rfl

theorem loop20_3 (b_4 o_4 : Nat) (b_5 o_5 : Nat) (k : KX) : ∀ (N : Nat) (x_6 : Int) (m : Mem), rounds Try.prog E20 Lam20 [4, 5, 6] lx20_3 ((loopsOf (bodyOf Try.f20)).getD 0 .skip) N [(.ptr b_4 o_4), (.ptr b_5 o_5), (.flat (.int .i64 x_6))] m k = L20_3 b_4 o_4 b_5 o_5 N x_6 m (fun m' => k (.exit 0) (only [4, 5] [(.ptr b_4 o_4), (.ptr b_5 o_5)]) m') := by
  intro N
  induction N with
  | zero => intros; rfl
  | succ N ih =>
    intro x_6 m
    refine (round20_3 b_4 o_4 b_5 o_5 x_6 m (fun vs m' => rounds Try.prog E20 Lam20 [4, 5, 6] lx20_3 ((loopsOf (bodyOf Try.f20)).getD 0 .skip) N vs m' k) k).trans ?_
    simp only [ih]
    rfl

theorem lok20_3 : LoopOK Try.prog E20 Lam20 ((loopsOf (bodyOf Try.f20)).getD 0 .skip) := by
  refine ⟨fun σ => ∃ b_4 o_4 b_5 o_5 x_6, σ 4 = .ptr b_4 o_4 ∧ σ 5 = .ptr b_5 o_5 ∧ σ 6 = .flat (.int .i64 x_6), [4, 5, 6], lx20_3, fun σ m k => ?_⟩
  have e : Lam20.loop ((loopsOf (bodyOf Try.f20)).getD 0 .skip) σ m k = Lam20_3 σ m k := by kernel_rfl
  rw [e]
  constructor
  · intro h
    unfold Lam20_3 at h
    obtain ⟨b_4, o_4, h0, h⟩ := kptr_ok h
    obtain ⟨b_5, o_5, h1, h⟩ := kptr_ok h
    obtain ⟨x_6, h2, h⟩ := kI_ok h
    obtain ⟨N, h⟩ := h
    refine ⟨⟨b_4, o_4, b_5, o_5, x_6, h0, h1, h2⟩, N, ?_⟩
    have ev : [4, 5, 6].map σ = [(.ptr b_4 o_4), (.ptr b_5 o_5), (.flat (.int .i64 x_6))] := by simp only [List.map_cons, List.map_nil, h0, h1, h2]
    rw [ev, loop20_3]
    exact h
  · rintro ⟨⟨b_4, o_4, b_5, o_5, x_6, h0, h1, h2⟩, N, h⟩
    have ev : [4, 5, 6].map σ = [(.ptr b_4 o_4), (.ptr b_5 o_5), (.flat (.int .i64 x_6))] := by simp only [List.map_cons, List.map_nil, h0, h1, h2]
    rw [ev, loop20_3] at h
    unfold Lam20_3
    try simp only [h0, h1, h2, kI, kbool, kS, kptr, kaggN, kite, decide_true, eq_self]
    exact ⟨N, h⟩

theorem eqn20 (c_0 : Nat → AV) (x_1 : Int) (m : Mem) (k : KV) : bodyK Try.prog E20 Lam20 Try.f20 true [(.agg 7 c_0), (.flat (.int .i64 x_1))] m k = F20 c_0 x_1 m (fun c_1000 m' => k (.agg 6 c_1000) m') := by
  kernel_rfl

theorem fs20 (w0 : World) : FS Try.prog w0 20 G20 := by
  refine (fs_body (Γ := E20) (sound_env (l := [(13, G13), (22, G22), (27, G27), (28, G28)]) w0 (by
    intro p hp
    simp only [List.mem_cons, List.not_mem_nil, or_false] at hp
    rcases hp with rfl | rfl | rfl | rfl
    · exact fs13 w0
    · exact fs22 w0
    · exact fs27 w0
    · exact fs28 w0)) (by kernel_rfl) Try.func20 (Λ := Lam20) (c := (bodyOf Try.f20)) (by kernel_rfl) Try.call20 (by kernel_rfl) (LS_of (bodyOf Try.f20) 1 (by kernel_rfl) (by
    intro i hi
    match i, hi with
    | 0, _ => exact lok20_3
    | i + 1, hi => omega) 1 (by kernel_rfl) (by
    intro i hi
    match i, hi with
    | 0, _ => exact pok20_18102
    | i + 1, hi => omega)) true (np := 2) (Nat.le_of_ble_eq_true (by kernel_rfl))).imp fun args => ?_
  by_cases hl : args.length = 2
  rotate_left
  · exact .inr fun m k hk => by
      unfold G20 at hk
      split at hk
      · exact hl rfl
      · exact hk
  obtain ⟨a0, a1, rfl⟩ : ∃ a0 a1, args = [a0, a1] := len_list2 hl
  rcases kaggN_or 7 a0 with ⟨c_0, rfl⟩ | h
  rotate_left
  · exact .inr fun m k hk => h _ (by simpa only [G20, kI, kbool, kS, kptr, kaggN, kite, decide_true, eq_self] using hk)
  rcases kI_or .i64 a1 with ⟨x_1, rfl⟩ | h
  rotate_left
  · exact .inr fun m k hk => h _ (by simpa only [G20, kI, kbool, kS, kptr, kaggN, kite, decide_true, eq_self] using hk)
  exact .inl fun m k => propext ⟨fun h => ⟨rfl, by rw [eqn20]; simpa only [G20, kI, kbool, kS, kptr, kaggN, kite, decide_true, eq_self] using h⟩, fun h => by have h := h.2; rw [eqn20] at h; simpa only [G20, kI, kbool, kS, kptr, kaggN, kite, decide_true, eq_self] using h⟩

/-- pianola/pianolakeep.Any -/
def F12 (c_0 : Nat → AV) (m : Mem) (k : (Nat → AV) → Mem → Prop) : Prop :=
  newK m ⟨7, c_0, 38, false⟩ fun b2 m1 => newK m1 ⟨6, Z6, 25, false⟩ fun b4 m3 => ∃ Fr5 : Nat → Prop, Fr5 b2 ∧ (ldG 7 m3 b2 0 fun c6 => Fr5 b2 ∧ (ldI .i64 m3 b2 0 fun x7 => F13 x7 0 1048576 m3 fun x8 m9 => KeepsIn Fr5 m3 m9 ∧ (F20 c6 (IntKind.wrap .i64 (1 + (x8.tmod 77))) m9 fun c10 m11 => KeepsIn Fr5 m9 m11 ∧ (stG 6 m11 b4 0 c10 fun m12 => ldG 6 m12 b4 0 fun c13 => (Keeps m m12 ∧ InDomG 6 m c13 ∧ k c13 m)))))

def G12 (args : List AV) (m : Mem) (k : KV) : Prop := match args with
  | [a0] => kaggN 7 a0 fun c_0 => F12 c_0 m (fun c_1000 m' => k (.agg 6 c_1000) m')
  | _ => False

def E12 : Env := envOf [(13, G13), (20, G20)]

def Lam12 : LEnv := ⟨fun a σ m k => match firstReg a with
  | _ => bump False,
  fun id => match id with
  | 1 => true
  | _ => bump false,
  fun b => match keyC b with
  | _ => bump false,
  fun b σ m k => match keyC b with
  | _ => bump False⟩

theorem eqn12 (c_0 : Nat → AV) (m : Mem) (k : KV) : bodyK Try.prog E12 Lam12 Try.f12 true [(.agg 7 c_0)] m k = F12 c_0 m (fun c_1000 m' => k (.agg 6 c_1000) m') := by
  kernel_rfl

theorem fs12 (w0 : World) : FS Try.prog w0 12 G12 := by
  refine (fs_body (Γ := E12) (sound_env (l := [(13, G13), (20, G20)]) w0 (by
    intro p hp
    simp only [List.mem_cons, List.not_mem_nil, or_false] at hp
    rcases hp with rfl | rfl
    · exact fs13 w0
    · exact fs20 w0)) (by kernel_rfl) Try.func12 (Λ := Lam12) (c := (bodyOf Try.f12)) (by kernel_rfl) Try.call12 (by kernel_rfl) (LS_of (bodyOf Try.f12) 0 (by kernel_rfl) (fun i hi => absurd hi (Nat.not_lt_zero i)) 0 (by kernel_rfl) (fun i hi => absurd hi (Nat.not_lt_zero i))) true (np := 1) (Nat.le_of_ble_eq_true (by kernel_rfl))).imp fun args => ?_
  by_cases hl : args.length = 1
  rotate_left
  · exact .inr fun m k hk => by
      unfold G12 at hk
      split at hk
      · exact hl rfl
      · exact hk
  obtain ⟨a0, rfl⟩ : ∃ a0, args = [a0] := len_list1 hl
  rcases kaggN_or 7 a0 with ⟨c_0, rfl⟩ | h
  rotate_left
  · exact .inr fun m k hk => h _ (by simpa only [G12, kI, kbool, kS, kptr, kaggN, kite, decide_true, eq_self] using hk)
  exact .inl fun m k => propext ⟨fun h => ⟨rfl, by rw [eqn12]; simpa only [G12, kI, kbool, kS, kptr, kaggN, kite, decide_true, eq_self] using h⟩, fun h => by have h := h.2; rw [eqn12] at h; simpa only [G12, kI, kbool, kS, kptr, kaggN, kite, decide_true, eq_self] using h⟩

def P4_10102 (v_1 : AV) (x_2 : Int) (x_3 : Int) (v_4 : AV) (v_11 : AV) (m : Mem) (kr : Bool → Mem → Prop) : Prop :=
  F6 v_11 m fun x20 m21 => kif x20 (F6 v_1 m21 fun x22 m23 => kif x22 (newK m23 ⟨0, lget [], 25, false⟩ fun b25 m24 => appS 6 48 25 (.sl b25 0 0 (.ex 0)) v_11 m24 fun v26 m27 => appS 6 48 25 v26 v_1 m27 fun v28 m29 => F6 v28 m29 fun x30 m31 => kif x30 (F13 x_2 1 3 m31 fun x32 m33 => F7 x32 (x_3.tmod 3200) v_4 m33 fun x34 m35 => kif x34 (F7 (x_2.tmod 70) x_3 v_4 m35 fun x36 m37 => kif x36 (F11  m37 fun x38 m39 => kr x38 m39) (kr false m37)) (kr false m35)) (kr false m31)) (kr false m23)) (kr false m21)

def P4_8103 (v_1 : AV) (x_2 : Int) (x_3 : Int) (v_4 : AV) (v_11 : AV) (m : Mem) (kr : Bool → Mem → Prop) : Prop :=
  klen v_4 fun x18 => kif (decide (x18 > 100)) (slS 1 v_4 none (some 100) fun v19 => P4_10102 v_1 x_2 x_3 v19 v_11 m (fun x40 m41 => kr x40 m41)) (P4_10102 v_1 x_2 x_3 v_4 v_11 m (fun x42 m43 => kr x42 m43))

def R4_3 (v_0 : AV) (v_1 : AV) (x_2 : Int) (x_3 : Int) (v_4 : AV) (v_11 : AV) (x_12 : Int) (m : Mem) (kn : AV → Int → Mem → Prop) (k0 : AV → Mem → Prop) : Prop :=
  klen v_0 fun x1 => kif (decide (x_12 < x1)) (kif (decide (x_12 < 30)) (ksl v_0 fun b2 o3 l4 p5 => kif (decide (0 ≤ x_12) && decide (x_12 < l4)) (ldG 7 m b2 (o3 + (x_12).toNat * 7) fun c6 => F12 c6 m fun c7 m8 => newK m8 ⟨6, splice (Z6) 0 6 c7, 25, false⟩ fun b10 m9 => appS 6 48 25 v_11 (.sl b10 0 1 (.ex 1)) m9 fun v11 m12 => kn v11 (IntKind.wrap .i64 (x_12 + 1)) m12) False) (k0 v_11 m)) (k0 v_11 m)

def L4_3 (v_0 : AV) (v_1 : AV) (x_2 : Int) (x_3 : Int) (v_4 : AV) : Nat → AV → Int → Mem → (AV → Mem → Prop) → Prop
  | 0, _, _,  _, _ => bump False
  | N + 1, v_11, x_12,  m, k0 => R4_3 v_0 v_1 x_2 x_3 v_4 v_11 x_12 m (fun v_11' x_12' m' => L4_3 v_0 v_1 x_2 x_3 v_4 N v_11' x_12' m' k0) k0

/-- pianola/pianolalaw26.AsmTells -/
def F4 (v_0 : AV) (v_1 : AV) (x_2 : Int) (x_3 : Int) (v_4 : AV) (m : Mem) (k : Bool → Mem → Prop) : Prop :=
  ∃ N15, L4_3 v_0 v_1 x_2 x_3 v_4 N15 (.flat (.slice none 0 0)) 0 m (fun v13 m14 => klen v_1 fun x16 => kif (decide (x16 > 5)) (slS 6 v_1 none (some 5) fun v17 => P4_8103 v17 x_2 x_3 v_4 v13 m14 (fun x44 m45 => k x44 m45)) (P4_8103 v_1 x_2 x_3 v_4 v13 m14 (fun x46 m47 => k x46 m47)))

def G4 (args : List AV) (m : Mem) (k : KV) : Prop := match args with
  | [a0, a1, a2, a3, a4] => kI .i64 a2 fun x_2 => kI .u32 a3 fun x_3 => F4 a0 a1 x_2 x_3 a4 m (fun x_1000 m' => k (.flat (.bool x_1000)) m')
  | _ => False

def E4 : Env := envOf [(6, G6), (7, G7), (11, G11), (12, G12), (13, G13)]

def Lam4_3 (σ : Nat → AV) (m : Mem) (k : KX) : Prop := kI .i64 (σ 2) fun x_2 => kI .u32 (σ 3) fun x_3 => kI .i64 (σ 12) fun x_12 => ∃ N, L4_3 (σ 0) (σ 1) x_2 x_3 (σ 4) N (σ 11) x_12 m (fun v_11' m' => k (.exit 0) (only [1, 2, 3, 4, 11] [(σ 1), (.flat (.int .i64 x_2)), (.flat (.int .u32 x_3)), (σ 4), v_11']) m')

def LamP4_8103 (σ : Nat → AV) (m : Mem) (k : KX) : Prop := kI .i64 (σ 2) fun x_2 => kI .u32 (σ 3) fun x_3 => P4_8103 (σ 1) x_2 x_3 (σ 4) (σ 11) m (fun x_10' m' => k .ret (only [10] [(.flat (.bool x_10'))]) m')

def LamP4_10102 (σ : Nat → AV) (m : Mem) (k : KX) : Prop := kI .i64 (σ 2) fun x_2 => kI .u32 (σ 3) fun x_3 => P4_10102 (σ 1) x_2 x_3 (σ 4) (σ 11) m (fun x_10' m' => k .ret (only [10] [(.flat (.bool x_10'))]) m')

def Lam4 : LEnv := ⟨fun a σ m k => match firstReg a with
  | some 3 => Lam4_3 σ m k
  | _ => bump False,
  fun id => match id with
  | _ => bump false,
  fun b => match keyC b with
  | some 8103 => true
  | some 10102 => true
  | _ => bump false,
  fun b σ m k => match keyC b with
  | some 8103 => LamP4_8103 σ m k
  | some 10102 => LamP4_10102 σ m k
  | _ => bump False⟩

def lxp4_10102 : Ex → List Nat := fun e => match e with
  | .ret => [10]
  | _ => []

theorem pc4_10102 (v_1 : AV) (x_2 : Int) (x_3 : Int) (v_4 : AV) (v_11 : AV) (m : Mem) (k : KX) : once Try.prog E4 Lam4 [1, 2, 3, 4, 11] lxp4_10102 (((secsOf (bodyOf Try.f4)).filter Lam4.cut).getD 1 .skip) [v_1, (.flat (.int .i64 x_2)), (.flat (.int .u32 x_3)), v_4, v_11] m k = P4_10102 v_1 x_2 x_3 v_4 v_11 m (fun x_10' m' => k .ret (only [10] [(.flat (.bool x_10'))]) m') := by
  kernel_rfl

theorem pok4_10102 : PieceOK Try.prog E4 Lam4 (((secsOf (bodyOf Try.f4)).filter Lam4.cut).getD 1 .skip) := by
  refine ⟨fun σ => ∃ v_1 x_2 x_3 v_4 v_11, σ 1 = v_1 ∧ σ 2 = .flat (.int .i64 x_2) ∧ σ 3 = .flat (.int .u32 x_3) ∧ σ 4 = v_4 ∧ σ 11 = v_11, [1, 2, 3, 4, 11], lxp4_10102, fun σ m k => ?_⟩
  have e : Lam4.piece (((secsOf (bodyOf Try.f4)).filter Lam4.cut).getD 1 .skip) σ m k = LamP4_10102 σ m k := by kernel_rfl
  rw [e]
  constructor
  · intro h
    unfold LamP4_10102 at h
    obtain ⟨v_1, h0⟩ : ∃ v, σ 1 = v := ⟨_, rfl⟩
    obtain ⟨x_2, h1, h⟩ := kI_ok h
    obtain ⟨x_3, h2, h⟩ := kI_ok h
    obtain ⟨v_4, h3⟩ : ∃ v, σ 4 = v := ⟨_, rfl⟩
    obtain ⟨v_11, h4⟩ : ∃ v, σ 11 = v := ⟨_, rfl⟩
    refine ⟨⟨v_1, x_2, x_3, v_4, v_11, h0, h1, h2, h3, h4⟩, ?_⟩
    have ev : [1, 2, 3, 4, 11].map σ = [v_1, (.flat (.int .i64 x_2)), (.flat (.int .u32 x_3)), v_4, v_11] := by simp only [List.map_cons, List.map_nil, h0, h1, h2, h3, h4]
    rw [ev, pc4_10102]
    simp only [h0, h3, h4] at h
    exact h
  · rintro ⟨⟨v_1, x_2, x_3, v_4, v_11, h0, h1, h2, h3, h4⟩, h⟩
    have ev : [1, 2, 3, 4, 11].map σ = [v_1, (.flat (.int .i64 x_2)), (.flat (.int .u32 x_3)), v_4, v_11] := by simp only [List.map_cons, List.map_nil, h0, h1, h2, h3, h4]
    rw [ev, pc4_10102] at h
    unfold LamP4_10102
    try simp only [h0, h1, h2, h3, h4, kI, kbool, kS, kptr, kaggN, kite, decide_true, eq_self]
    exact h

def lxp4_8103 : Ex → List Nat := fun e => match e with
  | .ret => [10]
  | _ => []

theorem pc4_8103 (v_1 : AV) (x_2 : Int) (x_3 : Int) (v_4 : AV) (v_11 : AV) (m : Mem) (k : KX) : once Try.prog E4 Lam4 [1, 2, 3, 4, 11] lxp4_8103 (((secsOf (bodyOf Try.f4)).filter Lam4.cut).getD 0 .skip) [v_1, (.flat (.int .i64 x_2)), (.flat (.int .u32 x_3)), v_4, v_11] m k = P4_8103 v_1 x_2 x_3 v_4 v_11 m (fun x_10' m' => k .ret (only [10] [(.flat (.bool x_10'))]) m') := by
  kernel_rfl

theorem pok4_8103 : PieceOK Try.prog E4 Lam4 (((secsOf (bodyOf Try.f4)).filter Lam4.cut).getD 0 .skip) := by
  refine ⟨fun σ => ∃ v_1 x_2 x_3 v_4 v_11, σ 1 = v_1 ∧ σ 2 = .flat (.int .i64 x_2) ∧ σ 3 = .flat (.int .u32 x_3) ∧ σ 4 = v_4 ∧ σ 11 = v_11, [1, 2, 3, 4, 11], lxp4_8103, fun σ m k => ?_⟩
  have e : Lam4.piece (((secsOf (bodyOf Try.f4)).filter Lam4.cut).getD 0 .skip) σ m k = LamP4_8103 σ m k := by kernel_rfl
  rw [e]
  constructor
  · intro h
    unfold LamP4_8103 at h
    obtain ⟨v_1, h0⟩ : ∃ v, σ 1 = v := ⟨_, rfl⟩
    obtain ⟨x_2, h1, h⟩ := kI_ok h
    obtain ⟨x_3, h2, h⟩ := kI_ok h
    obtain ⟨v_4, h3⟩ : ∃ v, σ 4 = v := ⟨_, rfl⟩
    obtain ⟨v_11, h4⟩ : ∃ v, σ 11 = v := ⟨_, rfl⟩
    refine ⟨⟨v_1, x_2, x_3, v_4, v_11, h0, h1, h2, h3, h4⟩, ?_⟩
    have ev : [1, 2, 3, 4, 11].map σ = [v_1, (.flat (.int .i64 x_2)), (.flat (.int .u32 x_3)), v_4, v_11] := by simp only [List.map_cons, List.map_nil, h0, h1, h2, h3, h4]
    rw [ev, pc4_8103]
    simp only [h0, h3, h4] at h
    exact h
  · rintro ⟨⟨v_1, x_2, x_3, v_4, v_11, h0, h1, h2, h3, h4⟩, h⟩
    have ev : [1, 2, 3, 4, 11].map σ = [v_1, (.flat (.int .i64 x_2)), (.flat (.int .u32 x_3)), v_4, v_11] := by simp only [List.map_cons, List.map_nil, h0, h1, h2, h3, h4]
    rw [ev, pc4_8103] at h
    unfold LamP4_8103
    try simp only [h0, h1, h2, h3, h4, kI, kbool, kS, kptr, kaggN, kite, decide_true, eq_self]
    exact h

def lx4_3 : Ex → List Nat := fun e => match e with
  | .exit 0 => [1, 2, 3, 4, 11]
  | _ => []

theorem round4_3 (v_0 : AV) (v_1 : AV) (x_2 : Int) (x_3 : Int) (v_4 : AV) (v_11 : AV) (x_12 : Int) (m : Mem) (G : List AV → Mem → Prop) (k : KX) : (wpA Try.prog E4 Lam4 ((loopsOf (bodyOf Try.f4)).getD 0 .skip) (only [0, 1, 2, 3, 4, 11, 12] [v_0, v_1, (.flat (.int .i64 x_2)), (.flat (.int .u32 x_3)), v_4, v_11, (.flat (.int .i64 x_12))]) m fun e σ' m' => match e with
    | .normal => G ([0, 1, 2, 3, 4, 11, 12].map σ') m'
    | .exit id => k (.exit id) (only (lx4_3 (.exit id)) ((lx4_3 (.exit id)).map σ')) m'
    | .ret => k .ret (only (lx4_3 .ret) ((lx4_3 .ret).map σ')) m') = R4_3 v_0 v_1 x_2 x_3 v_4 v_11 x_12 m (fun v_11' x_12' m' => G [v_0, v_1, (.flat (.int .i64 x_2)), (.flat (.int .u32 x_3)), v_4, v_11', (.flat (.int .i64 x_12'))] m') (fun v_11' m' => k (.exit 0) (only [1, 2, 3, 4, 11] [v_1, (.flat (.int .i64 x_2)), (.flat (.int .u32 x_3)), v_4, v_11']) m') := by
  kernel_rfl

theorem loop4_3 (v_0 : AV) (v_1 : AV) (x_2 : Int) (x_3 : Int) (v_4 : AV) (k : KX) : ∀ (N : Nat) (v_11 : AV) (x_12 : Int) (m : Mem), rounds Try.prog E4 Lam4 [0, 1, 2, 3, 4, 11, 12] lx4_3 ((loopsOf (bodyOf Try.f4)).getD 0 .skip) N [v_0, v_1, (.flat (.int .i64 x_2)), (.flat (.int .u32 x_3)), v_4, v_11, (.flat (.int .i64 x_12))] m k = L4_3 v_0 v_1 x_2 x_3 v_4 N v_11 x_12 m (fun v_11' m' => k (.exit 0) (only [1, 2, 3, 4, 11] [v_1, (.flat (.int .i64 x_2)), (.flat (.int .u32 x_3)), v_4, v_11']) m') := by
  intro N
  induction N with
  | zero => intros; rfl
  | succ N ih =>
    intro v_11 x_12 m
    refine (round4_3 v_0 v_1 x_2 x_3 v_4 v_11 x_12 m (fun vs m' => rounds Try.prog E4 Lam4 [0, 1, 2, 3, 4, 11, 12] lx4_3 ((loopsOf (bodyOf Try.f4)).getD 0 .skip) N vs m' k) k).trans ?_
    simp only [ih]
    rfl

theorem lok4_3 : LoopOK Try.prog E4 Lam4 ((loopsOf (bodyOf Try.f4)).getD 0 .skip) := by
  refine ⟨fun σ => ∃ v_0 v_1 x_2 x_3 v_4 v_11 x_12, σ 0 = v_0 ∧ σ 1 = v_1 ∧ σ 2 = .flat (.int .i64 x_2) ∧ σ 3 = .flat (.int .u32 x_3) ∧ σ 4 = v_4 ∧ σ 11 = v_11 ∧ σ 12 = .flat (.int .i64 x_12), [0, 1, 2, 3, 4, 11, 12], lx4_3, fun σ m k => ?_⟩
  have e : Lam4.loop ((loopsOf (bodyOf Try.f4)).getD 0 .skip) σ m k = Lam4_3 σ m k := by kernel_rfl
  rw [e]
  constructor
  · intro h
    unfold Lam4_3 at h
    obtain ⟨v_0, h0⟩ : ∃ v, σ 0 = v := ⟨_, rfl⟩
    obtain ⟨v_1, h1⟩ : ∃ v, σ 1 = v := ⟨_, rfl⟩
    obtain ⟨x_2, h2, h⟩ := kI_ok h
    obtain ⟨x_3, h3, h⟩ := kI_ok h
    obtain ⟨v_4, h4⟩ : ∃ v, σ 4 = v := ⟨_, rfl⟩
    obtain ⟨v_11, h5⟩ : ∃ v, σ 11 = v := ⟨_, rfl⟩
    obtain ⟨x_12, h6, h⟩ := kI_ok h
    obtain ⟨N, h⟩ := h
    refine ⟨⟨v_0, v_1, x_2, x_3, v_4, v_11, x_12, h0, h1, h2, h3, h4, h5, h6⟩, N, ?_⟩
    have ev : [0, 1, 2, 3, 4, 11, 12].map σ = [v_0, v_1, (.flat (.int .i64 x_2)), (.flat (.int .u32 x_3)), v_4, v_11, (.flat (.int .i64 x_12))] := by simp only [List.map_cons, List.map_nil, h0, h1, h2, h3, h4, h5, h6]
    rw [ev, loop4_3]
    simp only [h0, h1, h4, h5] at h
    exact h
  · rintro ⟨⟨v_0, v_1, x_2, x_3, v_4, v_11, x_12, h0, h1, h2, h3, h4, h5, h6⟩, N, h⟩
    have ev : [0, 1, 2, 3, 4, 11, 12].map σ = [v_0, v_1, (.flat (.int .i64 x_2)), (.flat (.int .u32 x_3)), v_4, v_11, (.flat (.int .i64 x_12))] := by simp only [List.map_cons, List.map_nil, h0, h1, h2, h3, h4, h5, h6]
    rw [ev, loop4_3] at h
    unfold Lam4_3
    try simp only [h0, h1, h2, h3, h4, h5, h6, kI, kbool, kS, kptr, kaggN, kite, decide_true, eq_self]
    exact ⟨N, h⟩

theorem eqn4 (v_0 : AV) (v_1 : AV) (x_2 : Int) (x_3 : Int) (v_4 : AV) (m : Mem) (k : KV) : bodyK Try.prog E4 Lam4 Try.f4 false [v_0, v_1, (.flat (.int .i64 x_2)), (.flat (.int .u32 x_3)), v_4] m k = F4 v_0 v_1 x_2 x_3 v_4 m (fun x_1000 m' => k (.flat (.bool x_1000)) m') := by
  kernel_rfl

theorem fs4 (w0 : World) : FS Try.prog w0 4 G4 := by
  refine (fs_body (Γ := E4) (sound_env (l := [(6, G6), (7, G7), (11, G11), (12, G12), (13, G13)]) w0 (by
    intro p hp
    simp only [List.mem_cons, List.not_mem_nil, or_false] at hp
    rcases hp with rfl | rfl | rfl | rfl | rfl
    · exact fs6 w0
    · exact fs7 w0
    · exact fs11 w0
    · exact fs12 w0
    · exact fs13 w0)) (by kernel_rfl) Try.func4 (Λ := Lam4) (c := (bodyOf Try.f4)) (by kernel_rfl) Try.call4 (by kernel_rfl) (LS_of (bodyOf Try.f4) 1 (by kernel_rfl) (by
    intro i hi
    match i, hi with
    | 0, _ => exact lok4_3
    | i + 1, hi => omega) 2 (by kernel_rfl) (by
    intro i hi
    match i, hi with
    | 0, _ => exact pok4_8103
    | 1, _ => exact pok4_10102
    | i + 2, hi => omega)) false (np := 5) (Nat.le_of_ble_eq_true (by kernel_rfl))).imp fun args => ?_
  by_cases hl : args.length = 5
  rotate_left
  · exact .inr fun m k hk => by
      unfold G4 at hk
      split at hk
      · exact hl rfl
      · exact hk
  obtain ⟨a0, a1, a2, a3, a4, rfl⟩ : ∃ a0 a1 a2 a3 a4, args = [a0, a1, a2, a3, a4] := len_list5 hl
  rcases kI_or .i64 a2 with ⟨x_2, rfl⟩ | h
  rotate_left
  · exact .inr fun m k hk => h _ (by simpa only [G4, kI, kbool, kS, kptr, kaggN, kite, decide_true, eq_self] using hk)
  rcases kI_or .u32 a3 with ⟨x_3, rfl⟩ | h
  rotate_left
  · exact .inr fun m k hk => h _ (by simpa only [G4, kI, kbool, kS, kptr, kaggN, kite, decide_true, eq_self] using hk)
  exact .inl fun m k => propext ⟨fun h => ⟨rfl, by rw [eqn4]; simpa only [G4, kI, kbool, kS, kptr, kaggN, kite, decide_true, eq_self] using h⟩, fun h => by have h := h.2; rw [eqn4] at h; simpa only [G4, kI, kbool, kS, kptr, kaggN, kite, decide_true, eq_self] using h⟩

def R16_4 (v_0 : AV) (v_1 : AV) (x_5 : Int) (m : Mem) (kn : Int → Mem → Prop) (k0 : Mem → Prop) (kr : Bool → Mem → Prop) : Prop :=
  klen v_0 fun x3 => kif (decide (x_5 < x3)) (ksl v_0 fun b4 o5 l6 p7 => kif (decide (0 ≤ x_5) && decide (x_5 < l6)) (ldI .u32 m b4 (o5 + (x_5).toNat * 1) fun x8 => ksl v_1 fun b9 o10 l11 p12 => kif (decide (0 ≤ x_5) && decide (x_5 < l11)) (ldI .u32 m b9 (o10 + (x_5).toNat * 1) fun x13 => kif (x8 != x13) (kr false m) (kn (IntKind.wrap .i64 (x_5 + 1)) m)) False) False) (k0  m)

def L16_4 (v_0 : AV) (v_1 : AV) : Nat → Int → Mem → (Mem → Prop) → (Bool → Mem → Prop) → Prop
  | 0, _,  _, _, _ => bump False
  | N + 1, x_5,  m, k0, kr => R16_4 v_0 v_1 x_5 m (fun x_5' m' => L16_4 v_0 v_1 N x_5' m' k0 kr) k0 kr

/-- pianola/pianolabook.Same[uint32] -/
def F16 (v_0 : AV) (v_1 : AV) (m : Mem) (k : Bool → Mem → Prop) : Prop :=
  klen v_0 fun x1 => klen v_1 fun x2 => kif (x1 != x2) ((Keeps m m ∧ k false m)) (∃ N17, L16_4 v_0 v_1 N17 0 m (fun m14 => (Keeps m m14 ∧ k true m)) (fun x15 m16 => (Keeps m m16 ∧ k x15 m)))

def G16 (args : List AV) (m : Mem) (k : KV) : Prop := match args with
  | [a0, a1] => F16 a0 a1 m (fun x_1000 m' => k (.flat (.bool x_1000)) m')
  | _ => False

def E16 : Env := envOf []

def Lam16_4 (σ : Nat → AV) (m : Mem) (k : KX) : Prop := kI .i64 (σ 5) fun x_5 => ∃ N, L16_4 (σ 0) (σ 1) N x_5 m (fun m' => k (.exit 0) (only [] []) m') (fun x_4' m' => k .ret (only [4] [(.flat (.bool x_4'))]) m')

def Lam16 : LEnv := ⟨fun a σ m k => match firstReg a with
  | some 4 => Lam16_4 σ m k
  | _ => bump False,
  fun id => match id with
  | _ => bump false,
  fun b => match keyC b with
  | _ => bump false,
  fun b σ m k => match keyC b with
  | _ => bump False⟩

def lx16_4 : Ex → List Nat := fun e => match e with
  | .exit 0 => []
  | .ret => [4]
  | _ => []

theorem round16_4 (v_0 : AV) (v_1 : AV) (x_5 : Int) (m : Mem) (G : List AV → Mem → Prop) (k : KX) : (wpA Try.prog E16 Lam16 ((loopsOf (bodyOf Try.f16)).getD 0 .skip) (only [0, 1, 5] [v_0, v_1, (.flat (.int .i64 x_5))]) m fun e σ' m' => match e with
    | .normal => G ([0, 1, 5].map σ') m'
    | .exit id => k (.exit id) (only (lx16_4 (.exit id)) ((lx16_4 (.exit id)).map σ')) m'
    | .ret => k .ret (only (lx16_4 .ret) ((lx16_4 .ret).map σ')) m') = R16_4 v_0 v_1 x_5 m (fun x_5' m' => G [v_0, v_1, (.flat (.int .i64 x_5'))] m') (fun m' => k (.exit 0) (only [] []) m') (fun x_4' m' => k .ret (only [4] [(.flat (.bool x_4'))]) m') := by
  kernel_rfl

theorem loop16_4 (v_0 : AV) (v_1 : AV) (k : KX) : ∀ (N : Nat) (x_5 : Int) (m : Mem), rounds Try.prog E16 Lam16 [0, 1, 5] lx16_4 ((loopsOf (bodyOf Try.f16)).getD 0 .skip) N [v_0, v_1, (.flat (.int .i64 x_5))] m k = L16_4 v_0 v_1 N x_5 m (fun m' => k (.exit 0) (only [] []) m') (fun x_4' m' => k .ret (only [4] [(.flat (.bool x_4'))]) m') := by
  intro N
  induction N with
  | zero => intros; rfl
  | succ N ih =>
    intro x_5 m
    refine (round16_4 v_0 v_1 x_5 m (fun vs m' => rounds Try.prog E16 Lam16 [0, 1, 5] lx16_4 ((loopsOf (bodyOf Try.f16)).getD 0 .skip) N vs m' k) k).trans ?_
    simp only [ih]
    rfl

theorem lok16_4 : LoopOK Try.prog E16 Lam16 ((loopsOf (bodyOf Try.f16)).getD 0 .skip) := by
  refine ⟨fun σ => ∃ v_0 v_1 x_5, σ 0 = v_0 ∧ σ 1 = v_1 ∧ σ 5 = .flat (.int .i64 x_5), [0, 1, 5], lx16_4, fun σ m k => ?_⟩
  have e : Lam16.loop ((loopsOf (bodyOf Try.f16)).getD 0 .skip) σ m k = Lam16_4 σ m k := by kernel_rfl
  rw [e]
  constructor
  · intro h
    unfold Lam16_4 at h
    obtain ⟨v_0, h0⟩ : ∃ v, σ 0 = v := ⟨_, rfl⟩
    obtain ⟨v_1, h1⟩ : ∃ v, σ 1 = v := ⟨_, rfl⟩
    obtain ⟨x_5, h2, h⟩ := kI_ok h
    obtain ⟨N, h⟩ := h
    refine ⟨⟨v_0, v_1, x_5, h0, h1, h2⟩, N, ?_⟩
    have ev : [0, 1, 5].map σ = [v_0, v_1, (.flat (.int .i64 x_5))] := by simp only [List.map_cons, List.map_nil, h0, h1, h2]
    rw [ev, loop16_4]
    simp only [h0, h1] at h
    exact h
  · rintro ⟨⟨v_0, v_1, x_5, h0, h1, h2⟩, N, h⟩
    have ev : [0, 1, 5].map σ = [v_0, v_1, (.flat (.int .i64 x_5))] := by simp only [List.map_cons, List.map_nil, h0, h1, h2]
    rw [ev, loop16_4] at h
    unfold Lam16_4
    try simp only [h0, h1, h2, kI, kbool, kS, kptr, kaggN, kite, decide_true, eq_self]
    exact ⟨N, h⟩

theorem eqn16 (v_0 : AV) (v_1 : AV) (m : Mem) (k : KV) : bodyK Try.prog E16 Lam16 Try.f16 true [v_0, v_1] m k = F16 v_0 v_1 m (fun x_1000 m' => k (.flat (.bool x_1000)) m') := by
  kernel_rfl

theorem fs16 (w0 : World) : FS Try.prog w0 16 G16 := by
  refine (fs_body (Γ := E16) (sound_env (l := []) w0 (by
    intro p hp
    cases hp)) (by kernel_rfl) Try.func16 (Λ := Lam16) (c := (bodyOf Try.f16)) (by kernel_rfl) Try.call16 (by kernel_rfl) (LS_of (bodyOf Try.f16) 1 (by kernel_rfl) (by
    intro i hi
    match i, hi with
    | 0, _ => exact lok16_4
    | i + 1, hi => omega) 0 (by kernel_rfl) (fun i hi => absurd hi (Nat.not_lt_zero i))) true (np := 2) (Nat.le_of_ble_eq_true (by kernel_rfl))).imp fun args => ?_
  by_cases hl : args.length = 2
  rotate_left
  · exact .inr fun m k hk => by
      unfold G16 at hk
      split at hk
      · exact hl rfl
      · exact hk
  obtain ⟨a0, a1, rfl⟩ : ∃ a0 a1, args = [a0, a1] := len_list2 hl

  exact .inl fun m k => propext ⟨fun h => ⟨rfl, by rw [eqn16]; simpa only [G16, kI, kbool, kS, kptr, kaggN, kite, decide_true, eq_self] using h⟩, fun h => by have h := h.2; rw [eqn16] at h; simpa only [G16, kI, kbool, kS, kptr, kaggN, kite, decide_true, eq_self] using h⟩

def R5_3 (v_0 : AV) (x_1 : Int) (v_5 : AV) (x_6 : Int) (m : Mem) (kn : AV → Int → Mem → Prop) (k0 : AV → Mem → Prop) : Prop :=
  klen v_0 fun x1 => kif (decide (x_6 < x1)) (kif (decide (x_6 < 40)) (ksl v_0 fun b2 o3 l4 p5 => kif (decide (0 ≤ x_6) && decide (x_6 < l4)) (ldG 7 m b2 (o3 + (x_6).toNat * 7) fun c6 => F12 c6 m fun c7 m8 => newK m8 ⟨6, splice (Z6) 0 6 c7, 25, false⟩ fun b10 m9 => appS 6 48 25 v_5 (.sl b10 0 1 (.ex 1)) m9 fun v11 m12 => kn v11 (IntKind.wrap .i64 (x_6 + 1)) m12) False) (k0 v_5 m)) (k0 v_5 m)

def L5_3 (v_0 : AV) (x_1 : Int) : Nat → AV → Int → Mem → (AV → Mem → Prop) → Prop
  | 0, _, _,  _, _ => bump False
  | N + 1, v_5, x_6,  m, k0 => R5_3 v_0 x_1 v_5 x_6 m (fun v_5' x_6' m' => L5_3 v_0 x_1 N v_5' x_6' m' k0) k0

/-- pianola/pianolalaw26.AsmBack -/
def F5 (v_0 : AV) (x_1 : Int) (m : Mem) (k : Bool → Mem → Prop) : Prop :=
  ∃ N15, L5_3 v_0 x_1 N15 (.flat (.slice none 0 0)) 0 m (fun v13 m14 => F14 v13 m14 fun v16 x17 m18 => F15 1 (bits .andNot .u32 (x_1.tmod 800) 3) v16 m18 fun v19 x20 m21 => kif (x17 != 0) (k false m21) (kif (x20 != 0) (k false m21) (klen v19 fun x22 => kif (x22 != 1024) (k false m21) (F10 v19 m21 fun v23 m24 => F10 v16 m24 fun v25 m26 => klen v23 fun x27 => kif (x27 != 256) (k false m26) (klen v25 fun x28 => klen v13 fun x29 => kif (x28 != x29) (k false m26) (klen v13 fun x30 => slS 1 v23 (some (IntKind.wrap .u32 ((bits .andNot .u32 (x_1.tmod 800) 3).tdiv 4))) (some (IntKind.wrap .i64 ((IntKind.wrap .i64 ((IntKind.wrap .i64 (bits .andNot .u32 (x_1.tmod 800) 3)).tdiv 4)) + x30))) fun v31 => F16 v31 v25 m26 fun x32 m33 => kif x32 (F11  m33 fun x34 m35 => k x34 m35) (k false m33)))))))

def G5 (args : List AV) (m : Mem) (k : KV) : Prop := match args with
  | [a0, a1] => kI .u32 a1 fun x_1 => F5 a0 x_1 m (fun x_1000 m' => k (.flat (.bool x_1000)) m')
  | _ => False

def E5 : Env := envOf [(10, G10), (11, G11), (12, G12), (14, G14), (15, G15), (16, G16)]

def Lam5_3 (σ : Nat → AV) (m : Mem) (k : KX) : Prop := kI .u32 (σ 1) fun x_1 => kI .i64 (σ 6) fun x_6 => ∃ N, L5_3 (σ 0) x_1 N (σ 5) x_6 m (fun v_5' m' => k (.exit 0) (only [1, 5] [(.flat (.int .u32 x_1)), v_5']) m')

def Lam5 : LEnv := ⟨fun a σ m k => match firstReg a with
  | some 3 => Lam5_3 σ m k
  | _ => bump False,
  fun id => match id with
  | _ => bump false,
  fun b => match keyC b with
  | _ => bump false,
  fun b σ m k => match keyC b with
  | _ => bump False⟩

def lx5_3 : Ex → List Nat := fun e => match e with
  | .exit 0 => [1, 5]
  | _ => []

theorem round5_3 (v_0 : AV) (x_1 : Int) (v_5 : AV) (x_6 : Int) (m : Mem) (G : List AV → Mem → Prop) (k : KX) : (wpA Try.prog E5 Lam5 ((loopsOf (bodyOf Try.f5)).getD 0 .skip) (only [0, 1, 5, 6] [v_0, (.flat (.int .u32 x_1)), v_5, (.flat (.int .i64 x_6))]) m fun e σ' m' => match e with
    | .normal => G ([0, 1, 5, 6].map σ') m'
    | .exit id => k (.exit id) (only (lx5_3 (.exit id)) ((lx5_3 (.exit id)).map σ')) m'
    | .ret => k .ret (only (lx5_3 .ret) ((lx5_3 .ret).map σ')) m') = R5_3 v_0 x_1 v_5 x_6 m (fun v_5' x_6' m' => G [v_0, (.flat (.int .u32 x_1)), v_5', (.flat (.int .i64 x_6'))] m') (fun v_5' m' => k (.exit 0) (only [1, 5] [(.flat (.int .u32 x_1)), v_5']) m') := by
  kernel_rfl

theorem loop5_3 (v_0 : AV) (x_1 : Int) (k : KX) : ∀ (N : Nat) (v_5 : AV) (x_6 : Int) (m : Mem), rounds Try.prog E5 Lam5 [0, 1, 5, 6] lx5_3 ((loopsOf (bodyOf Try.f5)).getD 0 .skip) N [v_0, (.flat (.int .u32 x_1)), v_5, (.flat (.int .i64 x_6))] m k = L5_3 v_0 x_1 N v_5 x_6 m (fun v_5' m' => k (.exit 0) (only [1, 5] [(.flat (.int .u32 x_1)), v_5']) m') := by
  intro N
  induction N with
  | zero => intros; rfl
  | succ N ih =>
    intro v_5 x_6 m
    refine (round5_3 v_0 x_1 v_5 x_6 m (fun vs m' => rounds Try.prog E5 Lam5 [0, 1, 5, 6] lx5_3 ((loopsOf (bodyOf Try.f5)).getD 0 .skip) N vs m' k) k).trans ?_
    simp only [ih]
    rfl

theorem lok5_3 : LoopOK Try.prog E5 Lam5 ((loopsOf (bodyOf Try.f5)).getD 0 .skip) := by
  refine ⟨fun σ => ∃ v_0 x_1 v_5 x_6, σ 0 = v_0 ∧ σ 1 = .flat (.int .u32 x_1) ∧ σ 5 = v_5 ∧ σ 6 = .flat (.int .i64 x_6), [0, 1, 5, 6], lx5_3, fun σ m k => ?_⟩
  have e : Lam5.loop ((loopsOf (bodyOf Try.f5)).getD 0 .skip) σ m k = Lam5_3 σ m k := by kernel_rfl
  rw [e]
  constructor
  · intro h
    unfold Lam5_3 at h
    obtain ⟨v_0, h0⟩ : ∃ v, σ 0 = v := ⟨_, rfl⟩
    obtain ⟨x_1, h1, h⟩ := kI_ok h
    obtain ⟨v_5, h2⟩ : ∃ v, σ 5 = v := ⟨_, rfl⟩
    obtain ⟨x_6, h3, h⟩ := kI_ok h
    obtain ⟨N, h⟩ := h
    refine ⟨⟨v_0, x_1, v_5, x_6, h0, h1, h2, h3⟩, N, ?_⟩
    have ev : [0, 1, 5, 6].map σ = [v_0, (.flat (.int .u32 x_1)), v_5, (.flat (.int .i64 x_6))] := by simp only [List.map_cons, List.map_nil, h0, h1, h2, h3]
    rw [ev, loop5_3]
    simp only [h0, h2] at h
    exact h
  · rintro ⟨⟨v_0, x_1, v_5, x_6, h0, h1, h2, h3⟩, N, h⟩
    have ev : [0, 1, 5, 6].map σ = [v_0, (.flat (.int .u32 x_1)), v_5, (.flat (.int .i64 x_6))] := by simp only [List.map_cons, List.map_nil, h0, h1, h2, h3]
    rw [ev, loop5_3] at h
    unfold Lam5_3
    try simp only [h0, h1, h2, h3, kI, kbool, kS, kptr, kaggN, kite, decide_true, eq_self]
    exact ⟨N, h⟩

theorem eqn5 (v_0 : AV) (x_1 : Int) (m : Mem) (k : KV) : bodyK Try.prog E5 Lam5 Try.f5 false [v_0, (.flat (.int .u32 x_1))] m k = F5 v_0 x_1 m (fun x_1000 m' => k (.flat (.bool x_1000)) m') := by
  kernel_rfl

theorem fs5 (w0 : World) : FS Try.prog w0 5 G5 := by
  refine (fs_body (Γ := E5) (sound_env (l := [(10, G10), (11, G11), (12, G12), (14, G14), (15, G15), (16, G16)]) w0 (by
    intro p hp
    simp only [List.mem_cons, List.not_mem_nil, or_false] at hp
    rcases hp with rfl | rfl | rfl | rfl | rfl | rfl
    · exact fs10 w0
    · exact fs11 w0
    · exact fs12 w0
    · exact fs14 w0
    · exact fs15 w0
    · exact fs16 w0)) (by kernel_rfl) Try.func5 (Λ := Lam5) (c := (bodyOf Try.f5)) (by kernel_rfl) Try.call5 (by kernel_rfl) (LS_of (bodyOf Try.f5) 1 (by kernel_rfl) (by
    intro i hi
    match i, hi with
    | 0, _ => exact lok5_3
    | i + 1, hi => omega) 0 (by kernel_rfl) (fun i hi => absurd hi (Nat.not_lt_zero i))) false (np := 2) (Nat.le_of_ble_eq_true (by kernel_rfl))).imp fun args => ?_
  by_cases hl : args.length = 2
  rotate_left
  · exact .inr fun m k hk => by
      unfold G5 at hk
      split at hk
      · exact hl rfl
      · exact hk
  obtain ⟨a0, a1, rfl⟩ : ∃ a0 a1, args = [a0, a1] := len_list2 hl
  rcases kI_or .u32 a1 with ⟨x_1, rfl⟩ | h
  rotate_left
  · exact .inr fun m k hk => h _ (by simpa only [G5, kI, kbool, kS, kptr, kaggN, kite, decide_true, eq_self] using hk)
  exact .inl fun m k => propext ⟨fun h => ⟨rfl, by rw [eqn5]; simpa only [G5, kI, kbool, kS, kptr, kaggN, kite, decide_true, eq_self] using h⟩, fun h => by have h := h.2; rw [eqn5] at h; simpa only [G5, kI, kbool, kS, kptr, kaggN, kite, decide_true, eq_self] using h⟩

end Go.Proofs.Ytppikpjmlbaccaa.Am
