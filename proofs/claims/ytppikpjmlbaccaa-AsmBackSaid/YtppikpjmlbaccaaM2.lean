/- What Go functions ask of what follows them, as plain functions over the abstract machine; the machine asks just that. Written by gen.py. -/
import Derived.Test.YtppikpjmlbaccaaProg
import Derived.Test.YtppikpjmlbaccaaAmL
import Derived.Test.YtppikpjmlbaccaaM1
namespace Go.Proofs.Ytppikpjmlbaccaa.Am
set_option linter.unusedVariables false
set_option linter.unusedSimpArgs false
set_option maxRecDepth 100000

def P25_5004 (x_3 : Int) (x_4 : Int) (x_5 : Int) (x_18 : Int) (x_19 : Bool) (m : Mem) (kr : Int → Mem → Prop) (kn : Mem → Prop) : Prop :=
  kif x_19 (kr x_3 m) (kif (x_18 == 1) (kr x_4 m) (kif (x_18 == 16) (kif (x_5 == 16) (kr (IntKind.wrap .i64 (64 + x_3)) m) (kr x_5 m)) (kn  m)))

/-- pianola/pianolaref3.sub -/
def F25 (x_0 : Int) (m : Mem) (k : Int → Mem → Prop) : Prop :=
  kif ((x_0.fdiv 67108864) == 0) (P25_5004 (IntKind.wrap .i64 (bits .and .u32 x_0 63)) (IntKind.wrap .i64 (bits .and .u32 (x_0.fdiv 65536) 31)) (IntKind.wrap .i64 (bits .and .u32 (x_0.fdiv 2097152) 31)) (x_0.fdiv 67108864) ((x_0.fdiv 67108864) == 0) m (fun x1 m2 => (Keeps m m2 ∧ k x1 m)) (fun m3 => (Keeps m m3 ∧ k 0 m))) (P25_5004 (IntKind.wrap .i64 (bits .and .u32 x_0 63)) (IntKind.wrap .i64 (bits .and .u32 (x_0.fdiv 65536) 31)) (IntKind.wrap .i64 (bits .and .u32 (x_0.fdiv 2097152) 31)) (x_0.fdiv 67108864) ((x_0.fdiv 67108864) == 28) m (fun x4 m5 => (Keeps m m5 ∧ k x4 m)) (fun m6 => (Keeps m m6 ∧ k 0 m)))

def G25 (args : List AV) (m : Mem) (k : KV) : Prop := match args with
  | [a0] => kI .u32 a0 fun x_0 => F25 x_0 m (fun x_1000 m' => k (.flat (.int .i64 x_1000)) m')
  | _ => False

def E25 : Env := envOf []

def LamP25_5004 (σ : Nat → AV) (m : Mem) (k : KX) : Prop := kI .i64 (σ 3) fun x_3 => kI .i64 (σ 4) fun x_4 => kI .i64 (σ 5) fun x_5 => kI .u32 (σ 18) fun x_18 => kbool (σ 19) fun x_19 => P25_5004 x_3 x_4 x_5 x_18 x_19 m (fun x_2' m' => k .ret (only [2] [(.flat (.int .i64 x_2'))]) m') (fun m' => k .normal (only [] []) m')

def Lam25 : LEnv := ⟨fun a σ m k => match firstReg a with
  | _ => bump False,
  fun id => match id with
  | _ => bump false,
  fun b => match keyC b with
  | some 5004 => true
  | _ => bump false,
  fun b σ m k => match keyC b with
  | some 5004 => LamP25_5004 σ m k
  | _ => bump False⟩

def lxp25_5004 : Ex → List Nat := fun e => match e with
  | .ret => [2]
  | .normal => []
  | _ => []

theorem pc25_5004 (x_3 : Int) (x_4 : Int) (x_5 : Int) (x_18 : Int) (x_19 : Bool) (m : Mem) (k : KX) : once Try.prog E25 Lam25 [3, 4, 5, 18, 19] lxp25_5004 (((secsOf (bodyOf Try.f25)).filter Lam25.cut).getD 0 .skip) [(.flat (.int .i64 x_3)), (.flat (.int .i64 x_4)), (.flat (.int .i64 x_5)), (.flat (.int .u32 x_18)), (.flat (.bool x_19))] m k = P25_5004 x_3 x_4 x_5 x_18 x_19 m (fun x_2' m' => k .ret (only [2] [(.flat (.int .i64 x_2'))]) m') (fun m' => k .normal (only [] []) m') := by
  kernel_rfl

theorem pok25_5004 : PieceOK Try.prog E25 Lam25 (((secsOf (bodyOf Try.f25)).filter Lam25.cut).getD 0 .skip) := by
  refine ⟨fun σ => ∃ x_3 x_4 x_5 x_18 x_19, σ 3 = .flat (.int .i64 x_3) ∧ σ 4 = .flat (.int .i64 x_4) ∧ σ 5 = .flat (.int .i64 x_5) ∧ σ 18 = .flat (.int .u32 x_18) ∧ σ 19 = .flat (.bool x_19), [3, 4, 5, 18, 19], lxp25_5004, fun σ m k => ?_⟩
  have e : Lam25.piece (((secsOf (bodyOf Try.f25)).filter Lam25.cut).getD 0 .skip) σ m k = LamP25_5004 σ m k := by kernel_rfl
  rw [e]
  constructor
  · intro h
    unfold LamP25_5004 at h
    obtain ⟨x_3, h0, h⟩ := kI_ok h
    obtain ⟨x_4, h1, h⟩ := kI_ok h
    obtain ⟨x_5, h2, h⟩ := kI_ok h
    obtain ⟨x_18, h3, h⟩ := kI_ok h
    obtain ⟨x_19, h4, h⟩ := kbool_ok h
    refine ⟨⟨x_3, x_4, x_5, x_18, x_19, h0, h1, h2, h3, h4⟩, ?_⟩
    have ev : [3, 4, 5, 18, 19].map σ = [(.flat (.int .i64 x_3)), (.flat (.int .i64 x_4)), (.flat (.int .i64 x_5)), (.flat (.int .u32 x_18)), (.flat (.bool x_19))] := by simp only [List.map_cons, List.map_nil, h0, h1, h2, h3, h4]
    rw [ev, pc25_5004]
    exact h
  · rintro ⟨⟨x_3, x_4, x_5, x_18, x_19, h0, h1, h2, h3, h4⟩, h⟩
    have ev : [3, 4, 5, 18, 19].map σ = [(.flat (.int .i64 x_3)), (.flat (.int .i64 x_4)), (.flat (.int .i64 x_5)), (.flat (.int .u32 x_18)), (.flat (.bool x_19))] := by simp only [List.map_cons, List.map_nil, h0, h1, h2, h3, h4]
    rw [ev, pc25_5004] at h
    unfold LamP25_5004
    try simp only [h0, h1, h2, h3, h4, kI, kbool, kS, kptr, kaggN, kite, decide_true, eq_self]
    exact h

theorem eqn25 (x_0 : Int) (m : Mem) (k : KV) : bodyK Try.prog E25 Lam25 Try.f25 true [(.flat (.int .u32 x_0))] m k = F25 x_0 m (fun x_1000 m' => k (.flat (.int .i64 x_1000)) m') := by
  kernel_rfl

theorem fs25 (w0 : World) : FS Try.prog w0 25 G25 := by
  refine (fs_body (Γ := E25) (sound_env (l := []) w0 (by
    intro p hp
    cases hp)) (by kernel_rfl) Try.func25 (Λ := Lam25) (c := (bodyOf Try.f25)) (by kernel_rfl) Try.call25 (by kernel_rfl) (LS_of (bodyOf Try.f25) 0 (by kernel_rfl) (fun i hi => absurd hi (Nat.not_lt_zero i)) 1 (by kernel_rfl) (by
    intro i hi
    match i, hi with
    | 0, _ => exact pok25_5004
    | i + 1, hi => omega)) true (np := 1) (Nat.le_of_ble_eq_true (by kernel_rfl))).imp fun args => ?_
  by_cases hl : args.length = 1
  rotate_left
  · exact .inr fun m k hk => by
      unfold G25 at hk
      split at hk
      · exact hl rfl
      · exact hk
  obtain ⟨a0, rfl⟩ : ∃ a0, args = [a0] := len_list1 hl
  rcases kI_or .u32 a0 with ⟨x_0, rfl⟩ | h
  rotate_left
  · exact .inr fun m k hk => h _ (by simpa only [G25, kI, kbool, kS, kptr, kaggN, kite, decide_true, eq_self] using hk)
  exact .inl fun m k => propext ⟨fun h => ⟨rfl, by rw [eqn25]; simpa only [G25, kI, kbool, kS, kptr, kaggN, kite, decide_true, eq_self] using h⟩, fun h => by have h := h.2; rw [eqn25] at h; simpa only [G25, kI, kbool, kS, kptr, kaggN, kite, decide_true, eq_self] using h⟩

def P18_18103 (x_0 : Int) (b_2 o_2 : Nat) (b_5 o_5 : Nat) (b_6 o_6 : Nat) (m : Mem) (kr : Mem → Prop) : Prop :=
  ldS m b_5 (o_5 + 3) fun x43 => F26 x43 106 m fun x44 m45 => kif x44 (stC m45 b_6 (o_6 + 5) (.flat (.int .u32 (bits .and .u32 x_0 67108863))) fun m46 => ldG 6 m46 b_6 o_6 fun c47 => stG 6 m46 b_2 o_2 c47 fun m48 => kr  m48) (ldG 6 m45 b_6 o_6 fun c49 => stG 6 m45 b_2 o_2 c49 fun m50 => kr  m50)

def P18_16103 (x_0 : Int) (b_2 o_2 : Nat) (b_5 o_5 : Nat) (b_6 o_6 : Nat) (m : Mem) (kr : Mem → Prop) : Prop :=
  ldS m b_5 (o_5 + 3) fun x39 => F26 x39 105 m fun x40 m41 => kif x40 (stC m41 b_6 (o_6 + 5) (.flat (.int .u32 (bits .and .u32 x_0 65535))) fun m42 => P18_18103 x_0 b_2 o_2 b_5 o_5 b_6 o_6 m42 (fun m51 => kr  m51)) (P18_18103 x_0 b_2 o_2 b_5 o_5 b_6 o_6 m41 (fun m52 => kr  m52))

def P18_14103 (x_0 : Int) (b_2 o_2 : Nat) (b_5 o_5 : Nat) (b_6 o_6 : Nat) (m : Mem) (kr : Mem → Prop) : Prop :=
  ldS m b_5 (o_5 + 3) fun x35 => F26 x35 104 m fun x36 m37 => kif x36 (stC m37 b_6 (o_6 + 4) (.flat (.int .i64 (IntKind.wrap .i64 (bits .and .u32 (x_0.fdiv 64) 31)))) fun m38 => P18_16103 x_0 b_2 o_2 b_5 o_5 b_6 o_6 m38 (fun m53 => kr  m53)) (P18_16103 x_0 b_2 o_2 b_5 o_5 b_6 o_6 m37 (fun m54 => kr  m54))

def P18_12103 (x_0 : Int) (b_2 o_2 : Nat) (b_5 o_5 : Nat) (b_6 o_6 : Nat) (m : Mem) (kr : Mem → Prop) : Prop :=
  ldS m b_5 (o_5 + 3) fun x31 => F26 x31 100 m fun x32 m33 => kif x32 (stC m33 b_6 (o_6 + 3) (.flat (.int .i64 (IntKind.wrap .i64 (bits .and .u32 (x_0.fdiv 2048) 31)))) fun m34 => P18_14103 x_0 b_2 o_2 b_5 o_5 b_6 o_6 m34 (fun m55 => kr  m55)) (P18_14103 x_0 b_2 o_2 b_5 o_5 b_6 o_6 m33 (fun m56 => kr  m56))

def P18_10103 (x_0 : Int) (b_2 o_2 : Nat) (b_5 o_5 : Nat) (b_6 o_6 : Nat) (m : Mem) (kr : Mem → Prop) : Prop :=
  ldS m b_5 (o_5 + 3) fun x27 => F26 x27 116 m fun x28 m29 => kif x28 (stC m29 b_6 (o_6 + 2) (.flat (.int .i64 (IntKind.wrap .i64 (bits .and .u32 (x_0.fdiv 65536) 31)))) fun m30 => P18_12103 x_0 b_2 o_2 b_5 o_5 b_6 o_6 m30 (fun m57 => kr  m57)) (P18_12103 x_0 b_2 o_2 b_5 o_5 b_6 o_6 m29 (fun m58 => kr  m58))

def R18_3 (x_0 : Int) (b_2 o_2 : Nat) (v_3 : AV) (x_4 : Int) (m : Mem) (kn : Int → Mem → Prop) (k0 : Mem → Prop) (kr : Mem → Prop) : Prop :=
  klen v_3 fun x5 => kif (decide (x_4 < x5)) (ksl v_3 fun b6 o7 l8 p9 => kif (decide (0 ≤ x_4) && decide (x_4 < l8)) (ldG 4 m b6 (o7 + (x_4).toNat * 4) fun c10 => newK m ⟨4, lget [(.flat (.int .i64 0)), (.flat (.int .i64 0)), (.flat (.int .i64 0)), (.flat (.string ⟨#[]⟩))], 56, false⟩ fun b12 m11 => stG 4 m11 b12 0 c10 fun m13 => ∃ Fr14 : Nat → Prop, Fr14 b12 ∧ (ldI .i64 m13 b12 0 fun x15 => kif (x15 != (IntKind.wrap .i64 (x_0.fdiv 67108864))) (kn (IntKind.wrap .i64 (x_4 + 1)) m13) (Fr14 b12 ∧ (ldI .i64 m13 b12 1 fun x16 => F25 x_0 m13 fun x17 m18 => KeepsIn Fr14 m13 m18 ∧ (kif (x16 != x17) (kn (IntKind.wrap .i64 (x_4 + 1)) m18) (ldI .i64 m18 b12 2 fun x19 => newK m18 ⟨6, Z6, 25, false⟩ fun b21 m20 => stG 6 m20 b21 0 (upd (Z6) 0 (.flat (.int .i64 x19))) fun m22 => ldS m22 b12 3 fun x23 => F26 x23 115 m22 fun x24 m25 => kif x24 (stC m25 b21 1 (.flat (.int .i64 (IntKind.wrap .i64 (bits .and .u32 (x_0.fdiv 2097152) 31)))) fun m26 => P18_10103 x_0 b_2 o_2 b12 0 b21 0 m26 (fun m59 => kr  m59)) (P18_10103 x_0 b_2 o_2 b12 0 b21 0 m25 (fun m60 => kr  m60)))))))) False) (k0  m)

def L18_3 (x_0 : Int) (b_2 o_2 : Nat) (v_3 : AV) : Nat → Int → Mem → (Mem → Prop) → (Mem → Prop) → Prop
  | 0, _,  _, _, _ => bump False
  | N + 1, x_4,  m, k0, kr => R18_3 x_0 b_2 o_2 v_3 x_4 m (fun x_4' m' => L18_3 x_0 b_2 o_2 v_3 N x_4' m' k0 kr) k0 kr

/-- pianola/pianolaref3.Of -/
def F18 (x_0 : Int) (m : Mem) (k : (Nat → AV) → Mem → Prop) : Prop :=
  newK m ⟨6, Z6, 25, false⟩ fun b2 m1 => F24 (IntKind.wrap .i64 (x_0.fdiv 67108864)) m1 fun v3 m4 => ∃ N63, L18_3 x_0 b2 0 v3 N63 0 m4 (fun m61 => stG 6 m61 b2 0 (Z6) fun m64 => ldG 6 m64 b2 0 fun c66 => (Keeps m m64 ∧ InDomG 6 m c66 ∧ k c66 m)) (fun m62 => ldG 6 m62 b2 0 fun c65 => (Keeps m m62 ∧ InDomG 6 m c65 ∧ k c65 m))

def G18 (args : List AV) (m : Mem) (k : KV) : Prop := match args with
  | [a0] => kI .u32 a0 fun x_0 => F18 x_0 m (fun c_1000 m' => k (.agg 6 c_1000) m')
  | _ => False

def E18 : Env := envOf [(24, G24), (25, G25), (26, G26)]

def Lam18_3 (σ : Nat → AV) (m : Mem) (k : KX) : Prop := kI .u32 (σ 0) fun x_0 => kptr (σ 2) fun b_2 o_2 => kI .i64 (σ 4) fun x_4 => ∃ N, L18_3 x_0 b_2 o_2 (σ 3) N x_4 m (fun m' => k (.exit 0) (only [2] [(.ptr b_2 o_2)]) m') (fun m' => k .ret (only [2] [(.ptr b_2 o_2)]) m')

def LamP18_10103 (σ : Nat → AV) (m : Mem) (k : KX) : Prop := kI .u32 (σ 0) fun x_0 => kptr (σ 2) fun b_2 o_2 => kptr (σ 5) fun b_5 o_5 => kptr (σ 6) fun b_6 o_6 => P18_10103 x_0 b_2 o_2 b_5 o_5 b_6 o_6 m (fun m' => k .ret (only [2] [(.ptr b_2 o_2)]) m')

def LamP18_12103 (σ : Nat → AV) (m : Mem) (k : KX) : Prop := kI .u32 (σ 0) fun x_0 => kptr (σ 2) fun b_2 o_2 => kptr (σ 5) fun b_5 o_5 => kptr (σ 6) fun b_6 o_6 => P18_12103 x_0 b_2 o_2 b_5 o_5 b_6 o_6 m (fun m' => k .ret (only [2] [(.ptr b_2 o_2)]) m')

def LamP18_14103 (σ : Nat → AV) (m : Mem) (k : KX) : Prop := kI .u32 (σ 0) fun x_0 => kptr (σ 2) fun b_2 o_2 => kptr (σ 5) fun b_5 o_5 => kptr (σ 6) fun b_6 o_6 => P18_14103 x_0 b_2 o_2 b_5 o_5 b_6 o_6 m (fun m' => k .ret (only [2] [(.ptr b_2 o_2)]) m')

def LamP18_16103 (σ : Nat → AV) (m : Mem) (k : KX) : Prop := kI .u32 (σ 0) fun x_0 => kptr (σ 2) fun b_2 o_2 => kptr (σ 5) fun b_5 o_5 => kptr (σ 6) fun b_6 o_6 => P18_16103 x_0 b_2 o_2 b_5 o_5 b_6 o_6 m (fun m' => k .ret (only [2] [(.ptr b_2 o_2)]) m')

def LamP18_18103 (σ : Nat → AV) (m : Mem) (k : KX) : Prop := kI .u32 (σ 0) fun x_0 => kptr (σ 2) fun b_2 o_2 => kptr (σ 5) fun b_5 o_5 => kptr (σ 6) fun b_6 o_6 => P18_18103 x_0 b_2 o_2 b_5 o_5 b_6 o_6 m (fun m' => k .ret (only [2] [(.ptr b_2 o_2)]) m')

def Lam18 : LEnv := ⟨fun a σ m k => match firstReg a with
  | some 3 => Lam18_3 σ m k
  | _ => bump False,
  fun id => match id with
  | 6 => true
  | _ => bump false,
  fun b => match keyC b with
  | some 10103 => true
  | some 12103 => true
  | some 14103 => true
  | some 16103 => true
  | some 18103 => true
  | _ => bump false,
  fun b σ m k => match keyC b with
  | some 10103 => LamP18_10103 σ m k
  | some 12103 => LamP18_12103 σ m k
  | some 14103 => LamP18_14103 σ m k
  | some 16103 => LamP18_16103 σ m k
  | some 18103 => LamP18_18103 σ m k
  | _ => bump False⟩

def lxp18_18103 : Ex → List Nat := fun e => match e with
  | .ret => [2]
  | _ => []

theorem pc18_18103 (x_0 : Int) (b_2 o_2 : Nat) (b_5 o_5 : Nat) (b_6 o_6 : Nat) (m : Mem) (k : KX) : once Try.prog E18 Lam18 [0, 2, 5, 6] lxp18_18103 (((secsOf (bodyOf Try.f18)).filter Lam18.cut).getD 4 .skip) [(.flat (.int .u32 x_0)), (.ptr b_2 o_2), (.ptr b_5 o_5), (.ptr b_6 o_6)] m k = P18_18103 x_0 b_2 o_2 b_5 o_5 b_6 o_6 m (fun m' => k .ret (only [2] [(.ptr b_2 o_2)]) m') := by
  kernel_rfl

theorem pok18_18103 : PieceOK Try.prog E18 Lam18 (((secsOf (bodyOf Try.f18)).filter Lam18.cut).getD 4 .skip) := by
  refine ⟨fun σ => ∃ x_0 b_2 o_2 b_5 o_5 b_6 o_6, σ 0 = .flat (.int .u32 x_0) ∧ σ 2 = .ptr b_2 o_2 ∧ σ 5 = .ptr b_5 o_5 ∧ σ 6 = .ptr b_6 o_6, [0, 2, 5, 6], lxp18_18103, fun σ m k => ?_⟩
  have e : Lam18.piece (((secsOf (bodyOf Try.f18)).filter Lam18.cut).getD 4 .skip) σ m k = LamP18_18103 σ m k := by kernel_rfl
  rw [e]
  constructor
  · intro h
    unfold LamP18_18103 at h
    obtain ⟨x_0, h0, h⟩ := kI_ok h
    obtain ⟨b_2, o_2, h1, h⟩ := kptr_ok h
    obtain ⟨b_5, o_5, h2, h⟩ := kptr_ok h
    obtain ⟨b_6, o_6, h3, h⟩ := kptr_ok h
    refine ⟨⟨x_0, b_2, o_2, b_5, o_5, b_6, o_6, h0, h1, h2, h3⟩, ?_⟩
    have ev : [0, 2, 5, 6].map σ = [(.flat (.int .u32 x_0)), (.ptr b_2 o_2), (.ptr b_5 o_5), (.ptr b_6 o_6)] := by simp only [List.map_cons, List.map_nil, h0, h1, h2, h3]
    rw [ev, pc18_18103]
    exact h
  · rintro ⟨⟨x_0, b_2, o_2, b_5, o_5, b_6, o_6, h0, h1, h2, h3⟩, h⟩
    have ev : [0, 2, 5, 6].map σ = [(.flat (.int .u32 x_0)), (.ptr b_2 o_2), (.ptr b_5 o_5), (.ptr b_6 o_6)] := by simp only [List.map_cons, List.map_nil, h0, h1, h2, h3]
    rw [ev, pc18_18103] at h
    unfold LamP18_18103
    try simp only [h0, h1, h2, h3, kI, kbool, kS, kptr, kaggN, kite, decide_true, eq_self]
    exact h

def lxp18_16103 : Ex → List Nat := fun e => match e with
  | .ret => [2]
  | _ => []

theorem pc18_16103 (x_0 : Int) (b_2 o_2 : Nat) (b_5 o_5 : Nat) (b_6 o_6 : Nat) (m : Mem) (k : KX) : once Try.prog E18 Lam18 [0, 2, 5, 6] lxp18_16103 (((secsOf (bodyOf Try.f18)).filter Lam18.cut).getD 3 .skip) [(.flat (.int .u32 x_0)), (.ptr b_2 o_2), (.ptr b_5 o_5), (.ptr b_6 o_6)] m k = P18_16103 x_0 b_2 o_2 b_5 o_5 b_6 o_6 m (fun m' => k .ret (only [2] [(.ptr b_2 o_2)]) m') := by
  kernel_rfl

theorem pok18_16103 : PieceOK Try.prog E18 Lam18 (((secsOf (bodyOf Try.f18)).filter Lam18.cut).getD 3 .skip) := by
  refine ⟨fun σ => ∃ x_0 b_2 o_2 b_5 o_5 b_6 o_6, σ 0 = .flat (.int .u32 x_0) ∧ σ 2 = .ptr b_2 o_2 ∧ σ 5 = .ptr b_5 o_5 ∧ σ 6 = .ptr b_6 o_6, [0, 2, 5, 6], lxp18_16103, fun σ m k => ?_⟩
  have e : Lam18.piece (((secsOf (bodyOf Try.f18)).filter Lam18.cut).getD 3 .skip) σ m k = LamP18_16103 σ m k := by kernel_rfl
  rw [e]
  constructor
  · intro h
    unfold LamP18_16103 at h
    obtain ⟨x_0, h0, h⟩ := kI_ok h
    obtain ⟨b_2, o_2, h1, h⟩ := kptr_ok h
    obtain ⟨b_5, o_5, h2, h⟩ := kptr_ok h
    obtain ⟨b_6, o_6, h3, h⟩ := kptr_ok h
    refine ⟨⟨x_0, b_2, o_2, b_5, o_5, b_6, o_6, h0, h1, h2, h3⟩, ?_⟩
    have ev : [0, 2, 5, 6].map σ = [(.flat (.int .u32 x_0)), (.ptr b_2 o_2), (.ptr b_5 o_5), (.ptr b_6 o_6)] := by simp only [List.map_cons, List.map_nil, h0, h1, h2, h3]
    rw [ev, pc18_16103]
    exact h
  · rintro ⟨⟨x_0, b_2, o_2, b_5, o_5, b_6, o_6, h0, h1, h2, h3⟩, h⟩
    have ev : [0, 2, 5, 6].map σ = [(.flat (.int .u32 x_0)), (.ptr b_2 o_2), (.ptr b_5 o_5), (.ptr b_6 o_6)] := by simp only [List.map_cons, List.map_nil, h0, h1, h2, h3]
    rw [ev, pc18_16103] at h
    unfold LamP18_16103
    try simp only [h0, h1, h2, h3, kI, kbool, kS, kptr, kaggN, kite, decide_true, eq_self]
    exact h

def lxp18_14103 : Ex → List Nat := fun e => match e with
  | .ret => [2]
  | _ => []

theorem pc18_14103 (x_0 : Int) (b_2 o_2 : Nat) (b_5 o_5 : Nat) (b_6 o_6 : Nat) (m : Mem) (k : KX) : once Try.prog E18 Lam18 [0, 2, 5, 6] lxp18_14103 (((secsOf (bodyOf Try.f18)).filter Lam18.cut).getD 2 .skip) [(.flat (.int .u32 x_0)), (.ptr b_2 o_2), (.ptr b_5 o_5), (.ptr b_6 o_6)] m k = P18_14103 x_0 b_2 o_2 b_5 o_5 b_6 o_6 m (fun m' => k .ret (only [2] [(.ptr b_2 o_2)]) m') := by
  kernel_rfl

theorem pok18_14103 : PieceOK Try.prog E18 Lam18 (((secsOf (bodyOf Try.f18)).filter Lam18.cut).getD 2 .skip) := by
  refine ⟨fun σ => ∃ x_0 b_2 o_2 b_5 o_5 b_6 o_6, σ 0 = .flat (.int .u32 x_0) ∧ σ 2 = .ptr b_2 o_2 ∧ σ 5 = .ptr b_5 o_5 ∧ σ 6 = .ptr b_6 o_6, [0, 2, 5, 6], lxp18_14103, fun σ m k => ?_⟩
  have e : Lam18.piece (((secsOf (bodyOf Try.f18)).filter Lam18.cut).getD 2 .skip) σ m k = LamP18_14103 σ m k := by kernel_rfl
  rw [e]
  constructor
  · intro h
    unfold LamP18_14103 at h
    obtain ⟨x_0, h0, h⟩ := kI_ok h
    obtain ⟨b_2, o_2, h1, h⟩ := kptr_ok h
    obtain ⟨b_5, o_5, h2, h⟩ := kptr_ok h
    obtain ⟨b_6, o_6, h3, h⟩ := kptr_ok h
    refine ⟨⟨x_0, b_2, o_2, b_5, o_5, b_6, o_6, h0, h1, h2, h3⟩, ?_⟩
    have ev : [0, 2, 5, 6].map σ = [(.flat (.int .u32 x_0)), (.ptr b_2 o_2), (.ptr b_5 o_5), (.ptr b_6 o_6)] := by simp only [List.map_cons, List.map_nil, h0, h1, h2, h3]
    rw [ev, pc18_14103]
    exact h
  · rintro ⟨⟨x_0, b_2, o_2, b_5, o_5, b_6, o_6, h0, h1, h2, h3⟩, h⟩
    have ev : [0, 2, 5, 6].map σ = [(.flat (.int .u32 x_0)), (.ptr b_2 o_2), (.ptr b_5 o_5), (.ptr b_6 o_6)] := by simp only [List.map_cons, List.map_nil, h0, h1, h2, h3]
    rw [ev, pc18_14103] at h
    unfold LamP18_14103
    try simp only [h0, h1, h2, h3, kI, kbool, kS, kptr, kaggN, kite, decide_true, eq_self]
    exact h

def lxp18_12103 : Ex → List Nat := fun e => match e with
  | .ret => [2]
  | _ => []

theorem pc18_12103 (x_0 : Int) (b_2 o_2 : Nat) (b_5 o_5 : Nat) (b_6 o_6 : Nat) (m : Mem) (k : KX) : once Try.prog E18 Lam18 [0, 2, 5, 6] lxp18_12103 (((secsOf (bodyOf Try.f18)).filter Lam18.cut).getD 1 .skip) [(.flat (.int .u32 x_0)), (.ptr b_2 o_2), (.ptr b_5 o_5), (.ptr b_6 o_6)] m k = P18_12103 x_0 b_2 o_2 b_5 o_5 b_6 o_6 m (fun m' => k .ret (only [2] [(.ptr b_2 o_2)]) m') := by
  kernel_rfl

theorem pok18_12103 : PieceOK Try.prog E18 Lam18 (((secsOf (bodyOf Try.f18)).filter Lam18.cut).getD 1 .skip) := by
  refine ⟨fun σ => ∃ x_0 b_2 o_2 b_5 o_5 b_6 o_6, σ 0 = .flat (.int .u32 x_0) ∧ σ 2 = .ptr b_2 o_2 ∧ σ 5 = .ptr b_5 o_5 ∧ σ 6 = .ptr b_6 o_6, [0, 2, 5, 6], lxp18_12103, fun σ m k => ?_⟩
  have e : Lam18.piece (((secsOf (bodyOf Try.f18)).filter Lam18.cut).getD 1 .skip) σ m k = LamP18_12103 σ m k := by kernel_rfl
  rw [e]
  constructor
  · intro h
    unfold LamP18_12103 at h
    obtain ⟨x_0, h0, h⟩ := kI_ok h
    obtain ⟨b_2, o_2, h1, h⟩ := kptr_ok h
    obtain ⟨b_5, o_5, h2, h⟩ := kptr_ok h
    obtain ⟨b_6, o_6, h3, h⟩ := kptr_ok h
    refine ⟨⟨x_0, b_2, o_2, b_5, o_5, b_6, o_6, h0, h1, h2, h3⟩, ?_⟩
    have ev : [0, 2, 5, 6].map σ = [(.flat (.int .u32 x_0)), (.ptr b_2 o_2), (.ptr b_5 o_5), (.ptr b_6 o_6)] := by simp only [List.map_cons, List.map_nil, h0, h1, h2, h3]
    rw [ev, pc18_12103]
    exact h
  · rintro ⟨⟨x_0, b_2, o_2, b_5, o_5, b_6, o_6, h0, h1, h2, h3⟩, h⟩
    have ev : [0, 2, 5, 6].map σ = [(.flat (.int .u32 x_0)), (.ptr b_2 o_2), (.ptr b_5 o_5), (.ptr b_6 o_6)] := by simp only [List.map_cons, List.map_nil, h0, h1, h2, h3]
    rw [ev, pc18_12103] at h
    unfold LamP18_12103
    try simp only [h0, h1, h2, h3, kI, kbool, kS, kptr, kaggN, kite, decide_true, eq_self]
    exact h

def lxp18_10103 : Ex → List Nat := fun e => match e with
  | .ret => [2]
  | _ => []

theorem pc18_10103 (x_0 : Int) (b_2 o_2 : Nat) (b_5 o_5 : Nat) (b_6 o_6 : Nat) (m : Mem) (k : KX) : once Try.prog E18 Lam18 [0, 2, 5, 6] lxp18_10103 (((secsOf (bodyOf Try.f18)).filter Lam18.cut).getD 0 .skip) [(.flat (.int .u32 x_0)), (.ptr b_2 o_2), (.ptr b_5 o_5), (.ptr b_6 o_6)] m k = P18_10103 x_0 b_2 o_2 b_5 o_5 b_6 o_6 m (fun m' => k .ret (only [2] [(.ptr b_2 o_2)]) m') := by
  kernel_rfl

theorem pok18_10103 : PieceOK Try.prog E18 Lam18 (((secsOf (bodyOf Try.f18)).filter Lam18.cut).getD 0 .skip) := by
  refine ⟨fun σ => ∃ x_0 b_2 o_2 b_5 o_5 b_6 o_6, σ 0 = .flat (.int .u32 x_0) ∧ σ 2 = .ptr b_2 o_2 ∧ σ 5 = .ptr b_5 o_5 ∧ σ 6 = .ptr b_6 o_6, [0, 2, 5, 6], lxp18_10103, fun σ m k => ?_⟩
  have e : Lam18.piece (((secsOf (bodyOf Try.f18)).filter Lam18.cut).getD 0 .skip) σ m k = LamP18_10103 σ m k := by kernel_rfl
  rw [e]
  constructor
  · intro h
    unfold LamP18_10103 at h
    obtain ⟨x_0, h0, h⟩ := kI_ok h
    obtain ⟨b_2, o_2, h1, h⟩ := kptr_ok h
    obtain ⟨b_5, o_5, h2, h⟩ := kptr_ok h
    obtain ⟨b_6, o_6, h3, h⟩ := kptr_ok h
    refine ⟨⟨x_0, b_2, o_2, b_5, o_5, b_6, o_6, h0, h1, h2, h3⟩, ?_⟩
    have ev : [0, 2, 5, 6].map σ = [(.flat (.int .u32 x_0)), (.ptr b_2 o_2), (.ptr b_5 o_5), (.ptr b_6 o_6)] := by simp only [List.map_cons, List.map_nil, h0, h1, h2, h3]
    rw [ev, pc18_10103]
    exact h
  · rintro ⟨⟨x_0, b_2, o_2, b_5, o_5, b_6, o_6, h0, h1, h2, h3⟩, h⟩
    have ev : [0, 2, 5, 6].map σ = [(.flat (.int .u32 x_0)), (.ptr b_2 o_2), (.ptr b_5 o_5), (.ptr b_6 o_6)] := by simp only [List.map_cons, List.map_nil, h0, h1, h2, h3]
    rw [ev, pc18_10103] at h
    unfold LamP18_10103
    try simp only [h0, h1, h2, h3, kI, kbool, kS, kptr, kaggN, kite, decide_true, eq_self]
    exact h

def lx18_3 : Ex → List Nat := fun e => match e with
  | .exit 0 => [2]
  | .ret => [2]
  | _ => []

theorem round18_3 (x_0 : Int) (b_2 o_2 : Nat) (v_3 : AV) (x_4 : Int) (m : Mem) (G : List AV → Mem → Prop) (k : KX) : (wpA Try.prog E18 Lam18 ((loopsOf (bodyOf Try.f18)).getD 0 .skip) (only [0, 2, 3, 4] [(.flat (.int .u32 x_0)), (.ptr b_2 o_2), v_3, (.flat (.int .i64 x_4))]) m fun e σ' m' => match e with
    | .normal => G ([0, 2, 3, 4].map σ') m'
    | .exit id => k (.exit id) (only (lx18_3 (.exit id)) ((lx18_3 (.exit id)).map σ')) m'
    | .ret => k .ret (only (lx18_3 .ret) ((lx18_3 .ret).map σ')) m') = R18_3 x_0 b_2 o_2 v_3 x_4 m (fun x_4' m' => G [(.flat (.int .u32 x_0)), (.ptr b_2 o_2), v_3, (.flat (.int .i64 x_4'))] m') (fun m' => k (.exit 0) (only [2] [(.ptr b_2 o_2)]) m') (fun m' => k .ret (only [2] [(.ptr b_2 o_2)]) m') := by
  kernel_rfl

theorem loop18_3 (x_0 : Int) (b_2 o_2 : Nat) (v_3 : AV) (k : KX) : ∀ (N : Nat) (x_4 : Int) (m : Mem), rounds Try.prog E18 Lam18 [0, 2, 3, 4] lx18_3 ((loopsOf (bodyOf Try.f18)).getD 0 .skip) N [(.flat (.int .u32 x_0)), (.ptr b_2 o_2), v_3, (.flat (.int .i64 x_4))] m k = L18_3 x_0 b_2 o_2 v_3 N x_4 m (fun m' => k (.exit 0) (only [2] [(.ptr b_2 o_2)]) m') (fun m' => k .ret (only [2] [(.ptr b_2 o_2)]) m') := by
  intro N
  induction N with
  | zero => intros; rfl
  | succ N ih =>
    intro x_4 m
    refine (round18_3 x_0 b_2 o_2 v_3 x_4 m (fun vs m' => rounds Try.prog E18 Lam18 [0, 2, 3, 4] lx18_3 ((loopsOf (bodyOf Try.f18)).getD 0 .skip) N vs m' k) k).trans ?_
    simp only [ih]
    rfl

theorem lok18_3 : LoopOK Try.prog E18 Lam18 ((loopsOf (bodyOf Try.f18)).getD 0 .skip) := by
  refine ⟨fun σ => ∃ x_0 b_2 o_2 v_3 x_4, σ 0 = .flat (.int .u32 x_0) ∧ σ 2 = .ptr b_2 o_2 ∧ σ 3 = v_3 ∧ σ 4 = .flat (.int .i64 x_4), [0, 2, 3, 4], lx18_3, fun σ m k => ?_⟩
  have e : Lam18.loop ((loopsOf (bodyOf Try.f18)).getD 0 .skip) σ m k = Lam18_3 σ m k := by kernel_rfl
  rw [e]
  constructor
  · intro h
    unfold Lam18_3 at h
    obtain ⟨x_0, h0, h⟩ := kI_ok h
    obtain ⟨b_2, o_2, h1, h⟩ := kptr_ok h
    obtain ⟨v_3, h2⟩ : ∃ v, σ 3 = v := ⟨_, rfl⟩
    obtain ⟨x_4, h3, h⟩ := kI_ok h
    obtain ⟨N, h⟩ := h
    refine ⟨⟨x_0, b_2, o_2, v_3, x_4, h0, h1, h2, h3⟩, N, ?_⟩
    have ev : [0, 2, 3, 4].map σ = [(.flat (.int .u32 x_0)), (.ptr b_2 o_2), v_3, (.flat (.int .i64 x_4))] := by simp only [List.map_cons, List.map_nil, h0, h1, h2, h3]
    rw [ev, loop18_3]
    simp only [h2] at h
    exact h
  · rintro ⟨⟨x_0, b_2, o_2, v_3, x_4, h0, h1, h2, h3⟩, N, h⟩
    have ev : [0, 2, 3, 4].map σ = [(.flat (.int .u32 x_0)), (.ptr b_2 o_2), v_3, (.flat (.int .i64 x_4))] := by simp only [List.map_cons, List.map_nil, h0, h1, h2, h3]
    rw [ev, loop18_3] at h
    unfold Lam18_3
    try simp only [h0, h1, h2, h3, kI, kbool, kS, kptr, kaggN, kite, decide_true, eq_self]
    exact ⟨N, h⟩

theorem eqn18 (x_0 : Int) (m : Mem) (k : KV) : bodyK Try.prog E18 Lam18 Try.f18 true [(.flat (.int .u32 x_0))] m k = F18 x_0 m (fun c_1000 m' => k (.agg 6 c_1000) m') := by
  kernel_rfl

theorem fs18 (w0 : World) : FS Try.prog w0 18 G18 := by
  refine (fs_body (Γ := E18) (sound_env (l := [(24, G24), (25, G25), (26, G26)]) w0 (by
    intro p hp
    simp only [List.mem_cons, List.not_mem_nil, or_false] at hp
    rcases hp with rfl | rfl | rfl
    · exact fs24 w0
    · exact fs25 w0
    · exact fs26 w0)) (by kernel_rfl) Try.func18 (Λ := Lam18) (c := (bodyOf Try.f18)) (by kernel_rfl) Try.call18 (by kernel_rfl) (LS_of (bodyOf Try.f18) 1 (by kernel_rfl) (by
    intro i hi
    match i, hi with
    | 0, _ => exact lok18_3
    | i + 1, hi => omega) 5 (by kernel_rfl) (by
    intro i hi
    match i, hi with
    | 0, _ => exact pok18_10103
    | 1, _ => exact pok18_12103
    | 2, _ => exact pok18_14103
    | 3, _ => exact pok18_16103
    | 4, _ => exact pok18_18103
    | i + 5, hi => omega)) true (np := 1) (Nat.le_of_ble_eq_true (by kernel_rfl))).imp fun args => ?_
  by_cases hl : args.length = 1
  rotate_left
  · exact .inr fun m k hk => by
      unfold G18 at hk
      split at hk
      · exact hl rfl
      · exact hk
  obtain ⟨a0, rfl⟩ : ∃ a0, args = [a0] := len_list1 hl
  rcases kI_or .u32 a0 with ⟨x_0, rfl⟩ | h
  rotate_left
  · exact .inr fun m k hk => h _ (by simpa only [G18, kI, kbool, kS, kptr, kaggN, kite, decide_true, eq_self] using hk)
  exact .inl fun m k => propext ⟨fun h => ⟨rfl, by rw [eqn18]; simpa only [G18, kI, kbool, kS, kptr, kaggN, kite, decide_true, eq_self] using h⟩, fun h => by have h := h.2; rw [eqn18] at h; simpa only [G18, kI, kbool, kS, kptr, kaggN, kite, decide_true, eq_self] using h⟩

def R6_16 (v_0 : AV) (v_9 : AV) (x_10 : Int) (m : Mem) (kn : Int → Mem → Prop) (k2 : Mem → Prop) (kr : Bool → Mem → Prop) : Prop :=
  klen v_0 fun x33 => kif (decide (x_10 < x33)) (∃ Fr34 : Nat → Prop, ksl v_9 fun b35 o36 l37 p38 => kif (decide (0 ≤ x_10) && decide (x_10 < l37)) (Fr34 b35 ∧ (ldI .u32 m b35 (o36 + (x_10).toNat * 1) fun x39 => F18 x39 m fun c40 m41 => KeepsIn Fr34 m m41 ∧ (ksl v_0 fun b42 o43 l44 p45 => kif (decide (0 ≤ x_10) && decide (x_10 < l44)) (Fr34 b42 ∧ (ldG 6 m41 b42 (o43 + (x_10).toNat * 6) fun c46 => geq K25 c40 c46 fun x47 => kif (!x47) (kr false m41) (kn (IntKind.wrap .i64 (x_10 + 1)) m41))) False))) False) (k2  m)

def L6_16 (v_0 : AV) (v_9 : AV) : Nat → Int → Mem → (Mem → Prop) → (Bool → Mem → Prop) → Prop
  | 0, _,  _, _, _ => bump False
  | N + 1, x_10,  m, k2, kr => R6_16 v_0 v_9 x_10 m (fun x_10' m' => L6_16 v_0 v_9 N x_10' m' k2 kr) k2 kr

def R6_4 (v_0 : AV) (v_3 : AV) (x_4 : Int) (v_5 : AV) (x_6 : Int) (m : Mem) (kn : AV → Int → Mem → Prop) (k0 : AV → Mem → Prop) (kr : Bool → Mem → Prop) : Prop :=
  klen v_0 fun x4 => kif (decide (x_6 < x4)) (ksl v_0 fun b5 o6 l7 p8 => kif (decide (0 ≤ x_6) && decide (x_6 < l7)) (ldG 6 m b5 (o6 + (x_6).toNat * 6) fun c9 => F17 c9 m fun x10 x11 m12 => kif (!x11) (kif (x_4 == 1) (klen v_3 fun x13 => kr (x13 == 0) m12) (kr false m12)) (newK m12 ⟨4, upd (upd (upd (upd (lget [(.flat (.int .u8 0)), (.flat (.int .u8 0)), (.flat (.int .u8 0)), (.flat (.int .u8 0))]) 0 (.flat (.int .u8 (IntKind.wrap .u8 (x10.fdiv 16777216))))) 1 (.flat (.int .u8 (IntKind.wrap .u8 (x10.fdiv 65536))))) 2 (.flat (.int .u8 (IntKind.wrap .u8 (x10.fdiv 256))))) 3 (.flat (.int .u8 (IntKind.wrap .u8 x10))), 5, false⟩ fun b15 m14 => appS 1 1 5 v_5 (.sl b15 0 4 (.ex 4)) m14 fun v16 m17 => kn v16 (IntKind.wrap .i64 (x_6 + 1)) m17)) False) (k0 v_5 m)

def L6_4 (v_0 : AV) (v_3 : AV) (x_4 : Int) : Nat → AV → Int → Mem → (AV → Mem → Prop) → (Bool → Mem → Prop) → Prop
  | 0, _, _,  _, _, _ => bump False
  | N + 1, v_5, x_6,  m, k0, kr => R6_4 v_0 v_3 x_4 v_5 x_6 m (fun v_5' x_6' m' => L6_4 v_0 v_3 x_4 N v_5' x_6' m' k0 kr) k0 kr

/-- pianola/pianolalaw26.bytes -/
def F6 (v_0 : AV) (m : Mem) (k : Bool → Mem → Prop) : Prop :=
  F14 v_0 m fun v1 x2 m3 => ∃ N22, L6_4 v_0 v1 x2 N22 (.flat (.slice none 0 0)) 0 m3 (fun v18 m19 => kif (x2 != 0) (k false m19) (kstr v1 m19 fun z23 => kstr v18 m19 fun z24 => kif (!(z23.toList == z24.toList)) (k false m19) (newK m19 ⟨3, upd (upd (upd (lget [(.flat (.int .u8 0)), (.flat (.int .u8 0)), (.flat (.int .u8 0))]) 0 (.flat (.int .u8 1))) 1 (.flat (.int .u8 2))) 2 (.flat (.int .u8 3)), 5, false⟩ fun b26 m25 => appS 1 1 5 v1 (.sl b26 0 3 (.ex 3)) m25 fun v27 m28 => F10 v27 m28 fun v29 m30 => klen v29 fun x31 => klen v_0 fun x32 => kif (x31 != x32) (k false m30) (∃ N51, L6_16 v_0 v29 N51 0 m30 (fun m48 => k true m48) (fun x49 m50 => k x49 m50))))) (fun x20 m21 => k x20 m21)

def G6 (args : List AV) (m : Mem) (k : KV) : Prop := match args with
  | [a0] => F6 a0 m (fun x_1000 m' => k (.flat (.bool x_1000)) m')
  | _ => False

def E6 : Env := envOf [(10, G10), (14, G14), (17, G17), (18, G18)]

def Lam6_4 (σ : Nat → AV) (m : Mem) (k : KX) : Prop := kI .i64 (σ 4) fun x_4 => kI .i64 (σ 6) fun x_6 => ∃ N, L6_4 (σ 0) (σ 3) x_4 N (σ 5) x_6 m (fun v_5' m' => k (.exit 0) (only [0, 3, 4, 5] [(σ 0), (σ 3), (.flat (.int .i64 x_4)), v_5']) m') (fun x_2' m' => k .ret (only [2] [(.flat (.bool x_2'))]) m')

def Lam6_16 (σ : Nat → AV) (m : Mem) (k : KX) : Prop := kI .i64 (σ 10) fun x_10 => ∃ N, L6_16 (σ 0) (σ 9) N x_10 m (fun m' => k (.exit 2) (only [] []) m') (fun x_2' m' => k .ret (only [2] [(.flat (.bool x_2'))]) m')

def Lam6 : LEnv := ⟨fun a σ m k => match firstReg a with
  | some 4 => Lam6_4 σ m k
  | some 16 => Lam6_16 σ m k
  | _ => bump False,
  fun id => match id with
  | 18 => true
  | _ => bump false,
  fun b => match keyC b with
  | _ => bump false,
  fun b σ m k => match keyC b with
  | _ => bump False⟩

def lx6_16 : Ex → List Nat := fun e => match e with
  | .exit 2 => []
  | .ret => [2]
  | _ => []

theorem round6_16 (v_0 : AV) (v_9 : AV) (x_10 : Int) (m : Mem) (G : List AV → Mem → Prop) (k : KX) : (wpA Try.prog E6 Lam6 ((loopsOf (bodyOf Try.f6)).getD 1 .skip) (only [0, 9, 10] [v_0, v_9, (.flat (.int .i64 x_10))]) m fun e σ' m' => match e with
    | .normal => G ([0, 9, 10].map σ') m'
    | .exit id => k (.exit id) (only (lx6_16 (.exit id)) ((lx6_16 (.exit id)).map σ')) m'
    | .ret => k .ret (only (lx6_16 .ret) ((lx6_16 .ret).map σ')) m') = R6_16 v_0 v_9 x_10 m (fun x_10' m' => G [v_0, v_9, (.flat (.int .i64 x_10'))] m') (fun m' => k (.exit 2) (only [] []) m') (fun x_2' m' => k .ret (only [2] [(.flat (.bool x_2'))]) m') := by
  kernel_rfl

theorem loop6_16 (v_0 : AV) (v_9 : AV) (k : KX) : ∀ (N : Nat) (x_10 : Int) (m : Mem), rounds Try.prog E6 Lam6 [0, 9, 10] lx6_16 ((loopsOf (bodyOf Try.f6)).getD 1 .skip) N [v_0, v_9, (.flat (.int .i64 x_10))] m k = L6_16 v_0 v_9 N x_10 m (fun m' => k (.exit 2) (only [] []) m') (fun x_2' m' => k .ret (only [2] [(.flat (.bool x_2'))]) m') := by
  intro N
  induction N with
  | zero => intros; rfl
  | succ N ih =>
    intro x_10 m
    refine (round6_16 v_0 v_9 x_10 m (fun vs m' => rounds Try.prog E6 Lam6 [0, 9, 10] lx6_16 ((loopsOf (bodyOf Try.f6)).getD 1 .skip) N vs m' k) k).trans ?_
    simp only [ih]
    rfl

theorem lok6_16 : LoopOK Try.prog E6 Lam6 ((loopsOf (bodyOf Try.f6)).getD 1 .skip) := by
  refine ⟨fun σ => ∃ v_0 v_9 x_10, σ 0 = v_0 ∧ σ 9 = v_9 ∧ σ 10 = .flat (.int .i64 x_10), [0, 9, 10], lx6_16, fun σ m k => ?_⟩
  have e : Lam6.loop ((loopsOf (bodyOf Try.f6)).getD 1 .skip) σ m k = Lam6_16 σ m k := by kernel_rfl
  rw [e]
  constructor
  · intro h
    unfold Lam6_16 at h
    obtain ⟨v_0, h0⟩ : ∃ v, σ 0 = v := ⟨_, rfl⟩
    obtain ⟨v_9, h1⟩ : ∃ v, σ 9 = v := ⟨_, rfl⟩
    obtain ⟨x_10, h2, h⟩ := kI_ok h
    obtain ⟨N, h⟩ := h
    refine ⟨⟨v_0, v_9, x_10, h0, h1, h2⟩, N, ?_⟩
    have ev : [0, 9, 10].map σ = [v_0, v_9, (.flat (.int .i64 x_10))] := by simp only [List.map_cons, List.map_nil, h0, h1, h2]
    rw [ev, loop6_16]
    simp only [h0, h1] at h
    exact h
  · rintro ⟨⟨v_0, v_9, x_10, h0, h1, h2⟩, N, h⟩
    have ev : [0, 9, 10].map σ = [v_0, v_9, (.flat (.int .i64 x_10))] := by simp only [List.map_cons, List.map_nil, h0, h1, h2]
    rw [ev, loop6_16] at h
    unfold Lam6_16
    try simp only [h0, h1, h2, kI, kbool, kS, kptr, kaggN, kite, decide_true, eq_self]
    exact ⟨N, h⟩

def lx6_4 : Ex → List Nat := fun e => match e with
  | .exit 0 => [0, 3, 4, 5]
  | .ret => [2]
  | _ => []

theorem round6_4 (v_0 : AV) (v_3 : AV) (x_4 : Int) (v_5 : AV) (x_6 : Int) (m : Mem) (G : List AV → Mem → Prop) (k : KX) : (wpA Try.prog E6 Lam6 ((loopsOf (bodyOf Try.f6)).getD 0 .skip) (only [0, 3, 4, 5, 6] [v_0, v_3, (.flat (.int .i64 x_4)), v_5, (.flat (.int .i64 x_6))]) m fun e σ' m' => match e with
    | .normal => G ([0, 3, 4, 5, 6].map σ') m'
    | .exit id => k (.exit id) (only (lx6_4 (.exit id)) ((lx6_4 (.exit id)).map σ')) m'
    | .ret => k .ret (only (lx6_4 .ret) ((lx6_4 .ret).map σ')) m') = R6_4 v_0 v_3 x_4 v_5 x_6 m (fun v_5' x_6' m' => G [v_0, v_3, (.flat (.int .i64 x_4)), v_5', (.flat (.int .i64 x_6'))] m') (fun v_5' m' => k (.exit 0) (only [0, 3, 4, 5] [v_0, v_3, (.flat (.int .i64 x_4)), v_5']) m') (fun x_2' m' => k .ret (only [2] [(.flat (.bool x_2'))]) m') := by
  kernel_rfl

theorem loop6_4 (v_0 : AV) (v_3 : AV) (x_4 : Int) (k : KX) : ∀ (N : Nat) (v_5 : AV) (x_6 : Int) (m : Mem), rounds Try.prog E6 Lam6 [0, 3, 4, 5, 6] lx6_4 ((loopsOf (bodyOf Try.f6)).getD 0 .skip) N [v_0, v_3, (.flat (.int .i64 x_4)), v_5, (.flat (.int .i64 x_6))] m k = L6_4 v_0 v_3 x_4 N v_5 x_6 m (fun v_5' m' => k (.exit 0) (only [0, 3, 4, 5] [v_0, v_3, (.flat (.int .i64 x_4)), v_5']) m') (fun x_2' m' => k .ret (only [2] [(.flat (.bool x_2'))]) m') := by
  intro N
  induction N with
  | zero => intros; rfl
  | succ N ih =>
    intro v_5 x_6 m
    refine (round6_4 v_0 v_3 x_4 v_5 x_6 m (fun vs m' => rounds Try.prog E6 Lam6 [0, 3, 4, 5, 6] lx6_4 ((loopsOf (bodyOf Try.f6)).getD 0 .skip) N vs m' k) k).trans ?_
    simp only [ih]
    rfl

theorem lok6_4 : LoopOK Try.prog E6 Lam6 ((loopsOf (bodyOf Try.f6)).getD 0 .skip) := by
  refine ⟨fun σ => ∃ v_0 v_3 x_4 v_5 x_6, σ 0 = v_0 ∧ σ 3 = v_3 ∧ σ 4 = .flat (.int .i64 x_4) ∧ σ 5 = v_5 ∧ σ 6 = .flat (.int .i64 x_6), [0, 3, 4, 5, 6], lx6_4, fun σ m k => ?_⟩
  have e : Lam6.loop ((loopsOf (bodyOf Try.f6)).getD 0 .skip) σ m k = Lam6_4 σ m k := by kernel_rfl
  rw [e]
  constructor
  · intro h
    unfold Lam6_4 at h
    obtain ⟨v_0, h0⟩ : ∃ v, σ 0 = v := ⟨_, rfl⟩
    obtain ⟨v_3, h1⟩ : ∃ v, σ 3 = v := ⟨_, rfl⟩
    obtain ⟨x_4, h2, h⟩ := kI_ok h
    obtain ⟨v_5, h3⟩ : ∃ v, σ 5 = v := ⟨_, rfl⟩
    obtain ⟨x_6, h4, h⟩ := kI_ok h
    obtain ⟨N, h⟩ := h
    refine ⟨⟨v_0, v_3, x_4, v_5, x_6, h0, h1, h2, h3, h4⟩, N, ?_⟩
    have ev : [0, 3, 4, 5, 6].map σ = [v_0, v_3, (.flat (.int .i64 x_4)), v_5, (.flat (.int .i64 x_6))] := by simp only [List.map_cons, List.map_nil, h0, h1, h2, h3, h4]
    rw [ev, loop6_4]
    simp only [h0, h1, h3] at h
    exact h
  · rintro ⟨⟨v_0, v_3, x_4, v_5, x_6, h0, h1, h2, h3, h4⟩, N, h⟩
    have ev : [0, 3, 4, 5, 6].map σ = [v_0, v_3, (.flat (.int .i64 x_4)), v_5, (.flat (.int .i64 x_6))] := by simp only [List.map_cons, List.map_nil, h0, h1, h2, h3, h4]
    rw [ev, loop6_4] at h
    unfold Lam6_4
    try simp only [h0, h1, h2, h3, h4, kI, kbool, kS, kptr, kaggN, kite, decide_true, eq_self]
    exact ⟨N, h⟩

theorem eqn6 (v_0 : AV) (m : Mem) (k : KV) : bodyK Try.prog E6 Lam6 Try.f6 false [v_0] m k = F6 v_0 m (fun x_1000 m' => k (.flat (.bool x_1000)) m') := by
  kernel_rfl

theorem fs6 (w0 : World) : FS Try.prog w0 6 G6 := by
  refine (fs_body (Γ := E6) (sound_env (l := [(10, G10), (14, G14), (17, G17), (18, G18)]) w0 (by
    intro p hp
    simp only [List.mem_cons, List.not_mem_nil, or_false] at hp
    rcases hp with rfl | rfl | rfl | rfl
    · exact fs10 w0
    · exact fs14 w0
    · exact fs17 w0
    · exact fs18 w0)) (by kernel_rfl) Try.func6 (Λ := Lam6) (c := (bodyOf Try.f6)) (by kernel_rfl) Try.call6 (by kernel_rfl) (LS_of (bodyOf Try.f6) 2 (by kernel_rfl) (by
    intro i hi
    match i, hi with
    | 0, _ => exact lok6_4
    | 1, _ => exact lok6_16
    | i + 2, hi => omega) 0 (by kernel_rfl) (fun i hi => absurd hi (Nat.not_lt_zero i))) false (np := 1) (Nat.le_of_ble_eq_true (by kernel_rfl))).imp fun args => ?_
  by_cases hl : args.length = 1
  rotate_left
  · exact .inr fun m k hk => by
      unfold G6 at hk
      split at hk
      · exact hl rfl
      · exact hk
  obtain ⟨a0, rfl⟩ : ∃ a0, args = [a0] := len_list1 hl

  exact .inl fun m k => propext ⟨fun h => ⟨rfl, by rw [eqn6]; simpa only [G6, kI, kbool, kS, kptr, kaggN, kite, decide_true, eq_self] using h⟩, fun h => by have h := h.2; rw [eqn6] at h; simpa only [G6, kI, kbool, kS, kptr, kaggN, kite, decide_true, eq_self] using h⟩

/-- pianola/asm.Image -/
def F15 (x_0 : Int) (x_1 : Int) (v_2 : AV) (m : Mem) (k : AV → Int → Mem → Prop) : Prop :=
  kif (decide (x_0 < 1)) (k (.flat (.slice none 0 0)) 1 m) (kif (decide (x_0 > 64)) (k (.flat (.slice none 0 0)) 1 m) (kif (decide ((IntKind.wrap .i64 x_1) > (IntKind.wrap .i64 (x_0 * 1024)))) (k (.flat (.slice none 0 0)) 1 m) (klen v_2 fun x1 => kif (decide (x1 > (IntKind.wrap .i64 ((IntKind.wrap .i64 (x_0 * 1024)) - (IntKind.wrap .i64 x_1))))) (k (.flat (.slice none 0 0)) 1 m) (mkS [(.flat (.int .u8 0))] 1 5 (IntKind.wrap .i64 (x_0 * 1024)) (IntKind.wrap .i64 (x_0 * 1024)) m fun b2 m3 => slS 1 (.sl b2 0 ((IntKind.wrap .i64 (x_0 * 1024)).toNat) (.ex ((IntKind.wrap .i64 (x_0 * 1024)).toNat))) (some x_1) none fun v4 => copS 1 v4 v_2 m3 fun v5 m6 => k (.sl b2 0 ((IntKind.wrap .i64 (x_0 * 1024)).toNat) (.ex ((IntKind.wrap .i64 (x_0 * 1024)).toNat))) 0 m6))))

def G15 (args : List AV) (m : Mem) (k : KV) : Prop := match args with
  | [a0, a1, a2] => kI .i64 a0 fun x_0 => kI .u32 a1 fun x_1 => F15 x_0 x_1 a2 m (fun v_1000 x_1001 m' => k (.tup [v_1000, (.flat (.int .i64 x_1001))]) m')
  | _ => False

def E15 : Env := envOf []

def Lam15 : LEnv := ⟨fun a σ m k => match firstReg a with
  | _ => bump False,
  fun id => match id with
  | _ => bump false,
  fun b => match keyC b with
  | _ => bump false,
  fun b σ m k => match keyC b with
  | _ => bump False⟩

theorem eqn15 (x_0 : Int) (x_1 : Int) (v_2 : AV) (m : Mem) (k : KV) : bodyK Try.prog E15 Lam15 Try.f15 false [(.flat (.int .i64 x_0)), (.flat (.int .u32 x_1)), v_2] m k = F15 x_0 x_1 v_2 m (fun v_1000 x_1001 m' => k (.tup [v_1000, (.flat (.int .i64 x_1001))]) m') := by
  kernel_rfl

theorem fs15 (w0 : World) : FS Try.prog w0 15 G15 := by
  refine (fs_body (Γ := E15) (sound_env (l := []) w0 (by
    intro p hp
    cases hp)) (by kernel_rfl) Try.func15 (Λ := Lam15) (c := (bodyOf Try.f15)) (by kernel_rfl) Try.call15 (by kernel_rfl) (LS_of (bodyOf Try.f15) 0 (by kernel_rfl) (fun i hi => absurd hi (Nat.not_lt_zero i)) 0 (by kernel_rfl) (fun i hi => absurd hi (Nat.not_lt_zero i))) false (np := 3) (Nat.le_of_ble_eq_true (by kernel_rfl))).imp fun args => ?_
  by_cases hl : args.length = 3
  rotate_left
  · exact .inr fun m k hk => by
      unfold G15 at hk
      split at hk
      · exact hl rfl
      · exact hk
  obtain ⟨a0, a1, a2, rfl⟩ : ∃ a0 a1 a2, args = [a0, a1, a2] := len_list3 hl
  rcases kI_or .i64 a0 with ⟨x_0, rfl⟩ | h
  rotate_left
  · exact .inr fun m k hk => h _ (by simpa only [G15, kI, kbool, kS, kptr, kaggN, kite, decide_true, eq_self] using hk)
  rcases kI_or .u32 a1 with ⟨x_1, rfl⟩ | h
  rotate_left
  · exact .inr fun m k hk => h _ (by simpa only [G15, kI, kbool, kS, kptr, kaggN, kite, decide_true, eq_self] using hk)
  exact .inl fun m k => propext ⟨fun h => ⟨rfl, by rw [eqn15]; simpa only [G15, kI, kbool, kS, kptr, kaggN, kite, decide_true, eq_self] using h⟩, fun h => by have h := h.2; rw [eqn15] at h; simpa only [G15, kI, kbool, kS, kptr, kaggN, kite, decide_true, eq_self] using h⟩

def R7_7 (x_1 : Int) (v_2 : AV) (v_7 : AV) (x_9 : Int) (m : Mem) (kn : Int → Mem → Prop) (k0 : Mem → Prop) (kr : Bool → Mem → Prop) : Prop :=
  klen v_7 fun x20 => kif (decide (x_9 < x20)) (kif (decide (x_9 < (IntKind.wrap .i64 x_1))) (ksl v_7 fun b21 o22 l23 p24 => kif (decide (0 ≤ x_9) && decide (x_9 < l23)) (ldI .u8 m b21 (o22 + (x_9).toNat * 1) fun x25 => kif (x25 != 0) (kr false m) (kn (IntKind.wrap .i64 (x_9 + 1)) m)) False) (klen v_2 fun x26 => kif (decide (x_9 ≥ (IntKind.wrap .i64 ((IntKind.wrap .i64 x_1) + x26)))) (ksl v_7 fun b27 o28 l29 p30 => kif (decide (0 ≤ x_9) && decide (x_9 < l29)) (ldI .u8 m b27 (o28 + (x_9).toNat * 1) fun x31 => kif (x31 != 0) (kr false m) (kn (IntKind.wrap .i64 (x_9 + 1)) m)) False) (kn (IntKind.wrap .i64 (x_9 + 1)) m))) (k0  m)

def L7_7 (x_1 : Int) (v_2 : AV) (v_7 : AV) : Nat → Int → Mem → (Mem → Prop) → (Bool → Mem → Prop) → Prop
  | 0, _,  _, _, _ => bump False
  | N + 1, x_9,  m, k0, kr => R7_7 x_1 v_2 v_7 x_9 m (fun x_9' m' => L7_7 x_1 v_2 v_7 N x_9' m' k0 kr) k0 kr

def P7_4103 (x_0 : Int) (x_1 : Int) (v_2 : AV) (v_7 : AV) (x_8 : Int) (m : Mem) (kr : Bool → Mem → Prop) : Prop :=
  kif (x_8 != 0) (kr false m) (klen v_7 fun x15 => kif (x15 != (IntKind.wrap .i64 (x_0 * 1024))) (kr false m) (klen v_2 fun x16 => slS 1 v_7 (some x_1) (some (IntKind.wrap .i64 ((IntKind.wrap .i64 x_1) + x16))) fun v17 => kstr v17 m fun z18 => kstr v_2 m fun z19 => kif (!(z18.toList == z19.toList)) (kr false m) (∃ N35, L7_7 x_1 v_2 v_7 N35 0 m (fun m32 => kr true m32) (fun x33 m34 => kr x33 m34))))

def P7_3004 (x_0 : Int) (x_1 : Int) (v_2 : AV) (v_7 : AV) (x_8 : Int) (x_34 : Bool) (m : Mem) (kr : Bool → Mem → Prop) (kn : Mem → Prop) : Prop :=
  kif x_34 (kif (x_8 == 1) (klen v_7 fun x5 => kr (x5 == 0) m) (kr false m)) (kn  m)

/-- pianola/pianolalaw26.image -/
def F7 (x_0 : Int) (x_1 : Int) (v_2 : AV) (m : Mem) (k : Bool → Mem → Prop) : Prop :=
  F15 x_0 x_1 v_2 m fun v1 x2 m3 => kif (decide (x_0 < 1)) (P7_3004 x_0 x_1 v_2 v1 x2 true m3 (fun x6 m7 => k x6 m7) (fun m8 => P7_4103 x_0 x_1 v_2 v1 x2 m8 (fun x36 m37 => k x36 m37))) (kif (decide (x_0 > 64)) (P7_3004 x_0 x_1 v_2 v1 x2 true m3 (fun x9 m10 => k x9 m10) (fun m11 => P7_4103 x_0 x_1 v_2 v1 x2 m11 (fun x38 m39 => k x38 m39))) (klen v_2 fun x4 => P7_3004 x_0 x_1 v_2 v1 x2 (decide ((IntKind.wrap .u64 ((IntKind.wrap .u64 x_1) + (IntKind.wrap .u64 x4))) > (IntKind.wrap .u64 ((IntKind.wrap .u64 x_0) * 1024)))) m3 (fun x12 m13 => k x12 m13) (fun m14 => P7_4103 x_0 x_1 v_2 v1 x2 m14 (fun x40 m41 => k x40 m41))))

def G7 (args : List AV) (m : Mem) (k : KV) : Prop := match args with
  | [a0, a1, a2] => kI .i64 a0 fun x_0 => kI .u32 a1 fun x_1 => F7 x_0 x_1 a2 m (fun x_1000 m' => k (.flat (.bool x_1000)) m')
  | _ => False

def E7 : Env := envOf [(15, G15)]

def LamP7_3004 (σ : Nat → AV) (m : Mem) (k : KX) : Prop := kI .i64 (σ 0) fun x_0 => kI .u32 (σ 1) fun x_1 => kI .i64 (σ 8) fun x_8 => kbool (σ 34) fun x_34 => P7_3004 x_0 x_1 (σ 2) (σ 7) x_8 x_34 m (fun x_6' m' => k .ret (only [6] [(.flat (.bool x_6'))]) m') (fun m' => k .normal (only [0, 1, 2, 7, 8] [(.flat (.int .i64 x_0)), (.flat (.int .u32 x_1)), (σ 2), (σ 7), (.flat (.int .i64 x_8))]) m')

def LamP7_4103 (σ : Nat → AV) (m : Mem) (k : KX) : Prop := kI .i64 (σ 0) fun x_0 => kI .u32 (σ 1) fun x_1 => kI .i64 (σ 8) fun x_8 => P7_4103 x_0 x_1 (σ 2) (σ 7) x_8 m (fun x_6' m' => k .ret (only [6] [(.flat (.bool x_6'))]) m')

def Lam7_7 (σ : Nat → AV) (m : Mem) (k : KX) : Prop := kI .u32 (σ 1) fun x_1 => kI .i64 (σ 9) fun x_9 => ∃ N, L7_7 x_1 (σ 2) (σ 7) N x_9 m (fun m' => k (.exit 0) (only [] []) m') (fun x_6' m' => k .ret (only [6] [(.flat (.bool x_6'))]) m')

def Lam7 : LEnv := ⟨fun a σ m k => match firstReg a with
  | some 7 => Lam7_7 σ m k
  | _ => bump False,
  fun id => match id with
  | _ => bump false,
  fun b => match keyC b with
  | some 3004 => true
  | some 4103 => true
  | _ => bump false,
  fun b σ m k => match keyC b with
  | some 3004 => LamP7_3004 σ m k
  | some 4103 => LamP7_4103 σ m k
  | _ => bump False⟩

def lx7_7 : Ex → List Nat := fun e => match e with
  | .exit 0 => []
  | .ret => [6]
  | _ => []

theorem round7_7 (x_1 : Int) (v_2 : AV) (v_7 : AV) (x_9 : Int) (m : Mem) (G : List AV → Mem → Prop) (k : KX) : (wpA Try.prog E7 Lam7 ((loopsOf (bodyOf Try.f7)).getD 0 .skip) (only [1, 2, 7, 9] [(.flat (.int .u32 x_1)), v_2, v_7, (.flat (.int .i64 x_9))]) m fun e σ' m' => match e with
    | .normal => G ([1, 2, 7, 9].map σ') m'
    | .exit id => k (.exit id) (only (lx7_7 (.exit id)) ((lx7_7 (.exit id)).map σ')) m'
    | .ret => k .ret (only (lx7_7 .ret) ((lx7_7 .ret).map σ')) m') = R7_7 x_1 v_2 v_7 x_9 m (fun x_9' m' => G [(.flat (.int .u32 x_1)), v_2, v_7, (.flat (.int .i64 x_9'))] m') (fun m' => k (.exit 0) (only [] []) m') (fun x_6' m' => k .ret (only [6] [(.flat (.bool x_6'))]) m') := by
  kernel_rfl

theorem loop7_7 (x_1 : Int) (v_2 : AV) (v_7 : AV) (k : KX) : ∀ (N : Nat) (x_9 : Int) (m : Mem), rounds Try.prog E7 Lam7 [1, 2, 7, 9] lx7_7 ((loopsOf (bodyOf Try.f7)).getD 0 .skip) N [(.flat (.int .u32 x_1)), v_2, v_7, (.flat (.int .i64 x_9))] m k = L7_7 x_1 v_2 v_7 N x_9 m (fun m' => k (.exit 0) (only [] []) m') (fun x_6' m' => k .ret (only [6] [(.flat (.bool x_6'))]) m') := by
  intro N
  induction N with
  | zero => intros; rfl
  | succ N ih =>
    intro x_9 m
    refine (round7_7 x_1 v_2 v_7 x_9 m (fun vs m' => rounds Try.prog E7 Lam7 [1, 2, 7, 9] lx7_7 ((loopsOf (bodyOf Try.f7)).getD 0 .skip) N vs m' k) k).trans ?_
    simp only [ih]
    rfl

theorem lok7_7 : LoopOK Try.prog E7 Lam7 ((loopsOf (bodyOf Try.f7)).getD 0 .skip) := by
  refine ⟨fun σ => ∃ x_1 v_2 v_7 x_9, σ 1 = .flat (.int .u32 x_1) ∧ σ 2 = v_2 ∧ σ 7 = v_7 ∧ σ 9 = .flat (.int .i64 x_9), [1, 2, 7, 9], lx7_7, fun σ m k => ?_⟩
  have e : Lam7.loop ((loopsOf (bodyOf Try.f7)).getD 0 .skip) σ m k = Lam7_7 σ m k := by kernel_rfl
  rw [e]
  constructor
  · intro h
    unfold Lam7_7 at h
    obtain ⟨x_1, h0, h⟩ := kI_ok h
    obtain ⟨v_2, h1⟩ : ∃ v, σ 2 = v := ⟨_, rfl⟩
    obtain ⟨v_7, h2⟩ : ∃ v, σ 7 = v := ⟨_, rfl⟩
    obtain ⟨x_9, h3, h⟩ := kI_ok h
    obtain ⟨N, h⟩ := h
    refine ⟨⟨x_1, v_2, v_7, x_9, h0, h1, h2, h3⟩, N, ?_⟩
    have ev : [1, 2, 7, 9].map σ = [(.flat (.int .u32 x_1)), v_2, v_7, (.flat (.int .i64 x_9))] := by simp only [List.map_cons, List.map_nil, h0, h1, h2, h3]
    rw [ev, loop7_7]
    simp only [h1, h2] at h
    exact h
  · rintro ⟨⟨x_1, v_2, v_7, x_9, h0, h1, h2, h3⟩, N, h⟩
    have ev : [1, 2, 7, 9].map σ = [(.flat (.int .u32 x_1)), v_2, v_7, (.flat (.int .i64 x_9))] := by simp only [List.map_cons, List.map_nil, h0, h1, h2, h3]
    rw [ev, loop7_7] at h
    unfold Lam7_7
    try simp only [h0, h1, h2, h3, kI, kbool, kS, kptr, kaggN, kite, decide_true, eq_self]
    exact ⟨N, h⟩

def lxp7_4103 : Ex → List Nat := fun e => match e with
  | .ret => [6]
  | _ => []

theorem pc7_4103 (x_0 : Int) (x_1 : Int) (v_2 : AV) (v_7 : AV) (x_8 : Int) (m : Mem) (k : KX) : once Try.prog E7 Lam7 [0, 1, 2, 7, 8] lxp7_4103 (((secsOf (bodyOf Try.f7)).filter Lam7.cut).getD 0 .skip) [(.flat (.int .i64 x_0)), (.flat (.int .u32 x_1)), v_2, v_7, (.flat (.int .i64 x_8))] m k = P7_4103 x_0 x_1 v_2 v_7 x_8 m (fun x_6' m' => k .ret (only [6] [(.flat (.bool x_6'))]) m') := by
  kernel_rfl

theorem pok7_4103 : PieceOK Try.prog E7 Lam7 (((secsOf (bodyOf Try.f7)).filter Lam7.cut).getD 0 .skip) := by
  refine ⟨fun σ => ∃ x_0 x_1 v_2 v_7 x_8, σ 0 = .flat (.int .i64 x_0) ∧ σ 1 = .flat (.int .u32 x_1) ∧ σ 2 = v_2 ∧ σ 7 = v_7 ∧ σ 8 = .flat (.int .i64 x_8), [0, 1, 2, 7, 8], lxp7_4103, fun σ m k => ?_⟩
  have e : Lam7.piece (((secsOf (bodyOf Try.f7)).filter Lam7.cut).getD 0 .skip) σ m k = LamP7_4103 σ m k := by kernel_rfl
  rw [e]
  constructor
  · intro h
    unfold LamP7_4103 at h
    obtain ⟨x_0, h0, h⟩ := kI_ok h
    obtain ⟨x_1, h1, h⟩ := kI_ok h
    obtain ⟨v_2, h2⟩ : ∃ v, σ 2 = v := ⟨_, rfl⟩
    obtain ⟨v_7, h3⟩ : ∃ v, σ 7 = v := ⟨_, rfl⟩
    obtain ⟨x_8, h4, h⟩ := kI_ok h
    refine ⟨⟨x_0, x_1, v_2, v_7, x_8, h0, h1, h2, h3, h4⟩, ?_⟩
    have ev : [0, 1, 2, 7, 8].map σ = [(.flat (.int .i64 x_0)), (.flat (.int .u32 x_1)), v_2, v_7, (.flat (.int .i64 x_8))] := by simp only [List.map_cons, List.map_nil, h0, h1, h2, h3, h4]
    rw [ev, pc7_4103]
    simp only [h2, h3] at h
    exact h
  · rintro ⟨⟨x_0, x_1, v_2, v_7, x_8, h0, h1, h2, h3, h4⟩, h⟩
    have ev : [0, 1, 2, 7, 8].map σ = [(.flat (.int .i64 x_0)), (.flat (.int .u32 x_1)), v_2, v_7, (.flat (.int .i64 x_8))] := by simp only [List.map_cons, List.map_nil, h0, h1, h2, h3, h4]
    rw [ev, pc7_4103] at h
    unfold LamP7_4103
    try simp only [h0, h1, h2, h3, h4, kI, kbool, kS, kptr, kaggN, kite, decide_true, eq_self]
    exact h

def lxp7_3004 : Ex → List Nat := fun e => match e with
  | .ret => [6]
  | .normal => [0, 1, 2, 7, 8]
  | _ => []

theorem pc7_3004 (x_0 : Int) (x_1 : Int) (v_2 : AV) (v_7 : AV) (x_8 : Int) (x_34 : Bool) (m : Mem) (k : KX) : once Try.prog E7 Lam7 [0, 1, 2, 7, 8, 34] lxp7_3004 (((secsOf (bodyOf Try.f7)).filter Lam7.cut).getD 1 .skip) [(.flat (.int .i64 x_0)), (.flat (.int .u32 x_1)), v_2, v_7, (.flat (.int .i64 x_8)), (.flat (.bool x_34))] m k = P7_3004 x_0 x_1 v_2 v_7 x_8 x_34 m (fun x_6' m' => k .ret (only [6] [(.flat (.bool x_6'))]) m') (fun m' => k .normal (only [0, 1, 2, 7, 8] [(.flat (.int .i64 x_0)), (.flat (.int .u32 x_1)), v_2, v_7, (.flat (.int .i64 x_8))]) m') := by
  kernel_rfl

theorem pok7_3004 : PieceOK Try.prog E7 Lam7 (((secsOf (bodyOf Try.f7)).filter Lam7.cut).getD 1 .skip) := by
  refine ⟨fun σ => ∃ x_0 x_1 v_2 v_7 x_8 x_34, σ 0 = .flat (.int .i64 x_0) ∧ σ 1 = .flat (.int .u32 x_1) ∧ σ 2 = v_2 ∧ σ 7 = v_7 ∧ σ 8 = .flat (.int .i64 x_8) ∧ σ 34 = .flat (.bool x_34), [0, 1, 2, 7, 8, 34], lxp7_3004, fun σ m k => ?_⟩
  have e : Lam7.piece (((secsOf (bodyOf Try.f7)).filter Lam7.cut).getD 1 .skip) σ m k = LamP7_3004 σ m k := by kernel_rfl
  rw [e]
  constructor
  · intro h
    unfold LamP7_3004 at h
    obtain ⟨x_0, h0, h⟩ := kI_ok h
    obtain ⟨x_1, h1, h⟩ := kI_ok h
    obtain ⟨v_2, h2⟩ : ∃ v, σ 2 = v := ⟨_, rfl⟩
    obtain ⟨v_7, h3⟩ : ∃ v, σ 7 = v := ⟨_, rfl⟩
    obtain ⟨x_8, h4, h⟩ := kI_ok h
    obtain ⟨x_34, h5, h⟩ := kbool_ok h
    refine ⟨⟨x_0, x_1, v_2, v_7, x_8, x_34, h0, h1, h2, h3, h4, h5⟩, ?_⟩
    have ev : [0, 1, 2, 7, 8, 34].map σ = [(.flat (.int .i64 x_0)), (.flat (.int .u32 x_1)), v_2, v_7, (.flat (.int .i64 x_8)), (.flat (.bool x_34))] := by simp only [List.map_cons, List.map_nil, h0, h1, h2, h3, h4, h5]
    rw [ev, pc7_3004]
    simp only [h2, h3] at h
    exact h
  · rintro ⟨⟨x_0, x_1, v_2, v_7, x_8, x_34, h0, h1, h2, h3, h4, h5⟩, h⟩
    have ev : [0, 1, 2, 7, 8, 34].map σ = [(.flat (.int .i64 x_0)), (.flat (.int .u32 x_1)), v_2, v_7, (.flat (.int .i64 x_8)), (.flat (.bool x_34))] := by simp only [List.map_cons, List.map_nil, h0, h1, h2, h3, h4, h5]
    rw [ev, pc7_3004] at h
    unfold LamP7_3004
    try simp only [h0, h1, h2, h3, h4, h5, kI, kbool, kS, kptr, kaggN, kite, decide_true, eq_self]
    exact h

theorem eqn7 (x_0 : Int) (x_1 : Int) (v_2 : AV) (m : Mem) (k : KV) : bodyK Try.prog E7 Lam7 Try.f7 false [(.flat (.int .i64 x_0)), (.flat (.int .u32 x_1)), v_2] m k = F7 x_0 x_1 v_2 m (fun x_1000 m' => k (.flat (.bool x_1000)) m') := by
  kernel_rfl

theorem fs7 (w0 : World) : FS Try.prog w0 7 G7 := by
  refine (fs_body (Γ := E7) (sound_env (l := [(15, G15)]) w0 (by
    intro p hp
    simp only [List.mem_cons, List.not_mem_nil, or_false] at hp
    rcases hp with rfl
    · exact fs15 w0)) (by kernel_rfl) Try.func7 (Λ := Lam7) (c := (bodyOf Try.f7)) (by kernel_rfl) Try.call7 (by kernel_rfl) (LS_of (bodyOf Try.f7) 1 (by kernel_rfl) (by
    intro i hi
    match i, hi with
    | 0, _ => exact lok7_7
    | i + 1, hi => omega) 2 (by kernel_rfl) (by
    intro i hi
    match i, hi with
    | 0, _ => exact pok7_4103
    | 1, _ => exact pok7_3004
    | i + 2, hi => omega)) false (np := 3) (Nat.le_of_ble_eq_true (by kernel_rfl))).imp fun args => ?_
  by_cases hl : args.length = 3
  rotate_left
  · exact .inr fun m k hk => by
      unfold G7 at hk
      split at hk
      · exact hl rfl
      · exact hk
  obtain ⟨a0, a1, a2, rfl⟩ : ∃ a0 a1 a2, args = [a0, a1, a2] := len_list3 hl
  rcases kI_or .i64 a0 with ⟨x_0, rfl⟩ | h
  rotate_left
  · exact .inr fun m k hk => h _ (by simpa only [G7, kI, kbool, kS, kptr, kaggN, kite, decide_true, eq_self] using hk)
  rcases kI_or .u32 a1 with ⟨x_1, rfl⟩ | h
  rotate_left
  · exact .inr fun m k hk => h _ (by simpa only [G7, kI, kbool, kS, kptr, kaggN, kite, decide_true, eq_self] using hk)
  exact .inl fun m k => propext ⟨fun h => ⟨rfl, by rw [eqn7]; simpa only [G7, kI, kbool, kS, kptr, kaggN, kite, decide_true, eq_self] using h⟩, fun h => by have h := h.2; rw [eqn7] at h; simpa only [G7, kI, kbool, kS, kptr, kaggN, kite, decide_true, eq_self] using h⟩

/-- pianola/pianolaref1.Sign -/
def F19 (x_0 : Int) (x_1 : Int) (m : Mem) (k : Int → Mem → Prop) : Prop :=
  kif (decide (x_1 < 1)) ((Keeps m m ∧ k 0 m)) (kif (decide (x_1 > 31)) ((Keeps m m ∧ k x_0 m)) (kif (decide (IntKind.wrap .u64 x_1 < 0)) False (kif (decide (IntKind.wrap .u64 (IntKind.wrap .i64 (x_1 - 1)) < 0)) False (kif (((bits .and .u32 x_0 (IntKind.wrap .u32 ((IntKind.wrap .u32 (1 * 2 ^ min (IntKind.wrap .u64 x_1).toNat 32)) - 1))).fdiv (2 ^ min (IntKind.wrap .u64 (IntKind.wrap .i64 (x_1 - 1))).toNat 32)) == 1) (kif (decide (IntKind.wrap .u64 x_1 < 0)) False ((Keeps m m ∧ k (IntKind.wrap .u32 ((bits .and .u32 x_0 (IntKind.wrap .u32 ((IntKind.wrap .u32 (1 * 2 ^ min (IntKind.wrap .u64 x_1).toNat 32)) - 1))) - (IntKind.wrap .u32 (1 * 2 ^ min (IntKind.wrap .u64 x_1).toNat 32)))) m))) ((Keeps m m ∧ k (bits .and .u32 x_0 (IntKind.wrap .u32 ((IntKind.wrap .u32 (1 * 2 ^ min (IntKind.wrap .u64 x_1).toNat 32)) - 1))) m))))))

def G19 (args : List AV) (m : Mem) (k : KV) : Prop := match args with
  | [a0, a1] => kI .u32 a0 fun x_0 => kI .i64 a1 fun x_1 => F19 x_0 x_1 m (fun x_1000 m' => k (.flat (.int .u32 x_1000)) m')
  | _ => False

def E19 : Env := envOf []

def Lam19 : LEnv := ⟨fun a σ m k => match firstReg a with
  | _ => bump False,
  fun id => match id with
  | _ => bump false,
  fun b => match keyC b with
  | _ => bump false,
  fun b σ m k => match keyC b with
  | _ => bump False⟩

theorem eqn19 (x_0 : Int) (x_1 : Int) (m : Mem) (k : KV) : bodyK Try.prog E19 Lam19 Try.f19 true [(.flat (.int .u32 x_0)), (.flat (.int .i64 x_1))] m k = F19 x_0 x_1 m (fun x_1000 m' => k (.flat (.int .u32 x_1000)) m') := by
  kernel_rfl

theorem fs19 (w0 : World) : FS Try.prog w0 19 G19 := by
  refine (fs_body (Γ := E19) (sound_env (l := []) w0 (by
    intro p hp
    cases hp)) (by kernel_rfl) Try.func19 (Λ := Lam19) (c := (bodyOf Try.f19)) (by kernel_rfl) Try.call19 (by kernel_rfl) (LS_of (bodyOf Try.f19) 0 (by kernel_rfl) (fun i hi => absurd hi (Nat.not_lt_zero i)) 0 (by kernel_rfl) (fun i hi => absurd hi (Nat.not_lt_zero i))) true (np := 2) (Nat.le_of_ble_eq_true (by kernel_rfl))).imp fun args => ?_
  by_cases hl : args.length = 2
  rotate_left
  · exact .inr fun m k hk => by
      unfold G19 at hk
      split at hk
      · exact hl rfl
      · exact hk
  obtain ⟨a0, a1, rfl⟩ : ∃ a0 a1, args = [a0, a1] := len_list2 hl
  rcases kI_or .u32 a0 with ⟨x_0, rfl⟩ | h
  rotate_left
  · exact .inr fun m k hk => h _ (by simpa only [G19, kI, kbool, kS, kptr, kaggN, kite, decide_true, eq_self] using hk)
  rcases kI_or .i64 a1 with ⟨x_1, rfl⟩ | h
  rotate_left
  · exact .inr fun m k hk => h _ (by simpa only [G19, kI, kbool, kS, kptr, kaggN, kite, decide_true, eq_self] using hk)
  exact .inl fun m k => propext ⟨fun h => ⟨rfl, by rw [eqn19]; simpa only [G19, kI, kbool, kS, kptr, kaggN, kite, decide_true, eq_self] using h⟩, fun h => by have h := h.2; rw [eqn19] at h; simpa only [G19, kI, kbool, kS, kptr, kaggN, kite, decide_true, eq_self] using h⟩

def P8_16004 (x_1 : Int) (b_3 o_3 : Nat) (x_24 : Bool) (m : Mem) (kr : Int → Mem → Prop) (kn : Mem → Prop) : Prop :=
  kif x_24 (ldI .u32 m b_3 (o_3 + 5) fun x5 => F19 x5 16 m fun x6 m7 => kr (IntKind.wrap .u32 ((IntKind.wrap .u32 (x_1 + 4)) + (IntKind.wrap .u32 (4 * x6)))) m7) (kn  m)

def P8_7004 (x_1 : Int) (x_2 : Int) (b_3 o_3 : Nat) (x_8 : Int) (x_20 : Bool) (m : Mem) (kr : Int → Mem → Prop) (kn : Mem → Prop) : Prop :=
  kif x_20 (kr x_2 m) (kif (x_8 == 42) (P8_16004 x_1 b_3 o_3 (x_8 == 42) m (fun x8 m9 => kr x8 m9) (fun m10 => kn  m10)) (kif (x_8 == 43) (P8_16004 x_1 b_3 o_3 (x_8 == 43) m (fun x11 m12 => kr x11 m12) (fun m13 => kn  m13)) (kif (x_8 == 36) (P8_16004 x_1 b_3 o_3 (x_8 == 36) m (fun x14 m15 => kr x14 m15) (fun m16 => kn  m16)) (kif (x_8 == 37) (P8_16004 x_1 b_3 o_3 (x_8 == 37) m (fun x17 m18 => kr x17 m18) (fun m19 => kn  m19)) (kif (x_8 == 38) (P8_16004 x_1 b_3 o_3 (x_8 == 38) m (fun x20 m21 => kr x20 m21) (fun m22 => kn  m22)) (kif (x_8 == 39) (P8_16004 x_1 b_3 o_3 (x_8 == 39) m (fun x23 m24 => kr x23 m24) (fun m25 => kn  m25)) (kif (x_8 == 44) (P8_16004 x_1 b_3 o_3 (x_8 == 44) m (fun x26 m27 => kr x26 m27) (fun m28 => kn  m28)) (P8_16004 x_1 b_3 o_3 (x_8 == 45) m (fun x29 m30 => kr x29 m30) (fun m31 => kn  m31)))))))))

def P8_4004 (x_1 : Int) (x_2 : Int) (b_3 o_3 : Nat) (x_8 : Int) (x_9 : Bool) (m : Mem) (kr : Int → Mem → Prop) (kn : Mem → Prop) : Prop :=
  kif x_9 (ldI .u32 m b_3 (o_3 + 5) fun x4 => kr (bits .or .u32 (bits .and .u32 (IntKind.wrap .u32 (x_1 + 4)) 4026531840) (IntKind.wrap .u32 ((bits .and .u32 x4 67108863) * 4))) m) (kif (x_8 == 7) (P8_7004 x_1 x_2 b_3 o_3 x_8 (x_8 == 7) m (fun x32 m33 => kr x32 m33) (fun m34 => kn  m34)) (P8_7004 x_1 x_2 b_3 o_3 x_8 (x_8 == 8) m (fun x35 m36 => kr x35 m36) (fun m37 => kn  m37)))

/-- pianola/pianolaref4.Target -/
def F8 (c_0 : Nat → AV) (x_1 : Int) (x_2 : Int) (m : Mem) (k : Int → Mem → Prop) : Prop :=
  newK m ⟨6, c_0, 25, false⟩ fun b2 m1 => ldI .i64 m1 b2 0 fun x3 => kif (x3 == 40) (P8_4004 x_1 x_2 b2 0 x3 (x3 == 40) m1 (fun x38 m39 => (Keeps m m39 ∧ k x38 m)) (fun m40 => (Keeps m m40 ∧ k (IntKind.wrap .u32 (x_1 + 4)) m))) (P8_4004 x_1 x_2 b2 0 x3 (x3 == 41) m1 (fun x41 m42 => (Keeps m m42 ∧ k x41 m)) (fun m43 => (Keeps m m43 ∧ k (IntKind.wrap .u32 (x_1 + 4)) m)))

def G8 (args : List AV) (m : Mem) (k : KV) : Prop := match args with
  | [a0, a1, a2] => kaggN 6 a0 fun c_0 => kI .u32 a1 fun x_1 => kI .u32 a2 fun x_2 => F8 c_0 x_1 x_2 m (fun x_1000 m' => k (.flat (.int .u32 x_1000)) m')
  | _ => False

def E8 : Env := envOf [(19, G19)]

def LamP8_4004 (σ : Nat → AV) (m : Mem) (k : KX) : Prop := kI .u32 (σ 1) fun x_1 => kI .u32 (σ 2) fun x_2 => kptr (σ 3) fun b_3 o_3 => kI .i64 (σ 8) fun x_8 => kbool (σ 9) fun x_9 => P8_4004 x_1 x_2 b_3 o_3 x_8 x_9 m (fun x_6' m' => k .ret (only [6] [(.flat (.int .u32 x_6'))]) m') (fun m' => k .normal (only [1] [(.flat (.int .u32 x_1))]) m')

def LamP8_7004 (σ : Nat → AV) (m : Mem) (k : KX) : Prop := kI .u32 (σ 1) fun x_1 => kI .u32 (σ 2) fun x_2 => kptr (σ 3) fun b_3 o_3 => kI .i64 (σ 8) fun x_8 => kbool (σ 20) fun x_20 => P8_7004 x_1 x_2 b_3 o_3 x_8 x_20 m (fun x_6' m' => k .ret (only [6] [(.flat (.int .u32 x_6'))]) m') (fun m' => k .normal (only [1] [(.flat (.int .u32 x_1))]) m')

def LamP8_16004 (σ : Nat → AV) (m : Mem) (k : KX) : Prop := kI .u32 (σ 1) fun x_1 => kptr (σ 3) fun b_3 o_3 => kbool (σ 24) fun x_24 => P8_16004 x_1 b_3 o_3 x_24 m (fun x_6' m' => k .ret (only [6] [(.flat (.int .u32 x_6'))]) m') (fun m' => k .normal (only [1] [(.flat (.int .u32 x_1))]) m')

def Lam8 : LEnv := ⟨fun a σ m k => match firstReg a with
  | _ => bump False,
  fun id => match id with
  | _ => bump false,
  fun b => match keyC b with
  | some 4004 => true
  | some 7004 => true
  | some 16004 => true
  | _ => bump false,
  fun b σ m k => match keyC b with
  | some 4004 => LamP8_4004 σ m k
  | some 7004 => LamP8_7004 σ m k
  | some 16004 => LamP8_16004 σ m k
  | _ => bump False⟩

def lxp8_16004 : Ex → List Nat := fun e => match e with
  | .ret => [6]
  | .normal => [1]
  | _ => []

theorem pc8_16004 (x_1 : Int) (b_3 o_3 : Nat) (x_24 : Bool) (m : Mem) (k : KX) : once Try.prog E8 Lam8 [1, 3, 24] lxp8_16004 (((secsOf (bodyOf Try.f8)).filter Lam8.cut).getD 2 .skip) [(.flat (.int .u32 x_1)), (.ptr b_3 o_3), (.flat (.bool x_24))] m k = P8_16004 x_1 b_3 o_3 x_24 m (fun x_6' m' => k .ret (only [6] [(.flat (.int .u32 x_6'))]) m') (fun m' => k .normal (only [1] [(.flat (.int .u32 x_1))]) m') := by
  kernel_rfl

theorem pok8_16004 : PieceOK Try.prog E8 Lam8 (((secsOf (bodyOf Try.f8)).filter Lam8.cut).getD 2 .skip) := by
  refine ⟨fun σ => ∃ x_1 b_3 o_3 x_24, σ 1 = .flat (.int .u32 x_1) ∧ σ 3 = .ptr b_3 o_3 ∧ σ 24 = .flat (.bool x_24), [1, 3, 24], lxp8_16004, fun σ m k => ?_⟩
  have e : Lam8.piece (((secsOf (bodyOf Try.f8)).filter Lam8.cut).getD 2 .skip) σ m k = LamP8_16004 σ m k := by kernel_rfl
  rw [e]
  constructor
  · intro h
    unfold LamP8_16004 at h
    obtain ⟨x_1, h0, h⟩ := kI_ok h
    obtain ⟨b_3, o_3, h1, h⟩ := kptr_ok h
    obtain ⟨x_24, h2, h⟩ := kbool_ok h
    refine ⟨⟨x_1, b_3, o_3, x_24, h0, h1, h2⟩, ?_⟩
    have ev : [1, 3, 24].map σ = [(.flat (.int .u32 x_1)), (.ptr b_3 o_3), (.flat (.bool x_24))] := by simp only [List.map_cons, List.map_nil, h0, h1, h2]
    rw [ev, pc8_16004]
    exact h
  · rintro ⟨⟨x_1, b_3, o_3, x_24, h0, h1, h2⟩, h⟩
    have ev : [1, 3, 24].map σ = [(.flat (.int .u32 x_1)), (.ptr b_3 o_3), (.flat (.bool x_24))] := by simp only [List.map_cons, List.map_nil, h0, h1, h2]
    rw [ev, pc8_16004] at h
    unfold LamP8_16004
    try simp only [h0, h1, h2, kI, kbool, kS, kptr, kaggN, kite, decide_true, eq_self]
    exact h

def lxp8_7004 : Ex → List Nat := fun e => match e with
  | .ret => [6]
  | .normal => [1]
  | _ => []

theorem pc8_7004 (x_1 : Int) (x_2 : Int) (b_3 o_3 : Nat) (x_8 : Int) (x_20 : Bool) (m : Mem) (k : KX) : once Try.prog E8 Lam8 [1, 2, 3, 8, 20] lxp8_7004 (((secsOf (bodyOf Try.f8)).filter Lam8.cut).getD 1 .skip) [(.flat (.int .u32 x_1)), (.flat (.int .u32 x_2)), (.ptr b_3 o_3), (.flat (.int .i64 x_8)), (.flat (.bool x_20))] m k = P8_7004 x_1 x_2 b_3 o_3 x_8 x_20 m (fun x_6' m' => k .ret (only [6] [(.flat (.int .u32 x_6'))]) m') (fun m' => k .normal (only [1] [(.flat (.int .u32 x_1))]) m') := by
  kernel_rfl

theorem pok8_7004 : PieceOK Try.prog E8 Lam8 (((secsOf (bodyOf Try.f8)).filter Lam8.cut).getD 1 .skip) := by
  refine ⟨fun σ => ∃ x_1 x_2 b_3 o_3 x_8 x_20, σ 1 = .flat (.int .u32 x_1) ∧ σ 2 = .flat (.int .u32 x_2) ∧ σ 3 = .ptr b_3 o_3 ∧ σ 8 = .flat (.int .i64 x_8) ∧ σ 20 = .flat (.bool x_20), [1, 2, 3, 8, 20], lxp8_7004, fun σ m k => ?_⟩
  have e : Lam8.piece (((secsOf (bodyOf Try.f8)).filter Lam8.cut).getD 1 .skip) σ m k = LamP8_7004 σ m k := by kernel_rfl
  rw [e]
  constructor
  · intro h
    unfold LamP8_7004 at h
    obtain ⟨x_1, h0, h⟩ := kI_ok h
    obtain ⟨x_2, h1, h⟩ := kI_ok h
    obtain ⟨b_3, o_3, h2, h⟩ := kptr_ok h
    obtain ⟨x_8, h3, h⟩ := kI_ok h
    obtain ⟨x_20, h4, h⟩ := kbool_ok h
    refine ⟨⟨x_1, x_2, b_3, o_3, x_8, x_20, h0, h1, h2, h3, h4⟩, ?_⟩
    have ev : [1, 2, 3, 8, 20].map σ = [(.flat (.int .u32 x_1)), (.flat (.int .u32 x_2)), (.ptr b_3 o_3), (.flat (.int .i64 x_8)), (.flat (.bool x_20))] := by simp only [List.map_cons, List.map_nil, h0, h1, h2, h3, h4]
    rw [ev, pc8_7004]
    exact h
  · rintro ⟨⟨x_1, x_2, b_3, o_3, x_8, x_20, h0, h1, h2, h3, h4⟩, h⟩
    have ev : [1, 2, 3, 8, 20].map σ = [(.flat (.int .u32 x_1)), (.flat (.int .u32 x_2)), (.ptr b_3 o_3), (.flat (.int .i64 x_8)), (.flat (.bool x_20))] := by simp only [List.map_cons, List.map_nil, h0, h1, h2, h3, h4]
    rw [ev, pc8_7004] at h
    unfold LamP8_7004
    try simp only [h0, h1, h2, h3, h4, kI, kbool, kS, kptr, kaggN, kite, decide_true, eq_self]
    exact h

def lxp8_4004 : Ex → List Nat := fun e => match e with
  | .ret => [6]
  | .normal => [1]
  | _ => []

theorem pc8_4004 (x_1 : Int) (x_2 : Int) (b_3 o_3 : Nat) (x_8 : Int) (x_9 : Bool) (m : Mem) (k : KX) : once Try.prog E8 Lam8 [1, 2, 3, 8, 9] lxp8_4004 (((secsOf (bodyOf Try.f8)).filter Lam8.cut).getD 0 .skip) [(.flat (.int .u32 x_1)), (.flat (.int .u32 x_2)), (.ptr b_3 o_3), (.flat (.int .i64 x_8)), (.flat (.bool x_9))] m k = P8_4004 x_1 x_2 b_3 o_3 x_8 x_9 m (fun x_6' m' => k .ret (only [6] [(.flat (.int .u32 x_6'))]) m') (fun m' => k .normal (only [1] [(.flat (.int .u32 x_1))]) m') := by
  kernel_rfl

theorem pok8_4004 : PieceOK Try.prog E8 Lam8 (((secsOf (bodyOf Try.f8)).filter Lam8.cut).getD 0 .skip) := by
  refine ⟨fun σ => ∃ x_1 x_2 b_3 o_3 x_8 x_9, σ 1 = .flat (.int .u32 x_1) ∧ σ 2 = .flat (.int .u32 x_2) ∧ σ 3 = .ptr b_3 o_3 ∧ σ 8 = .flat (.int .i64 x_8) ∧ σ 9 = .flat (.bool x_9), [1, 2, 3, 8, 9], lxp8_4004, fun σ m k => ?_⟩
  have e : Lam8.piece (((secsOf (bodyOf Try.f8)).filter Lam8.cut).getD 0 .skip) σ m k = LamP8_4004 σ m k := by kernel_rfl
  rw [e]
  constructor
  · intro h
    unfold LamP8_4004 at h
    obtain ⟨x_1, h0, h⟩ := kI_ok h
    obtain ⟨x_2, h1, h⟩ := kI_ok h
    obtain ⟨b_3, o_3, h2, h⟩ := kptr_ok h
    obtain ⟨x_8, h3, h⟩ := kI_ok h
    obtain ⟨x_9, h4, h⟩ := kbool_ok h
    refine ⟨⟨x_1, x_2, b_3, o_3, x_8, x_9, h0, h1, h2, h3, h4⟩, ?_⟩
    have ev : [1, 2, 3, 8, 9].map σ = [(.flat (.int .u32 x_1)), (.flat (.int .u32 x_2)), (.ptr b_3 o_3), (.flat (.int .i64 x_8)), (.flat (.bool x_9))] := by simp only [List.map_cons, List.map_nil, h0, h1, h2, h3, h4]
    rw [ev, pc8_4004]
    exact h
  · rintro ⟨⟨x_1, x_2, b_3, o_3, x_8, x_9, h0, h1, h2, h3, h4⟩, h⟩
    have ev : [1, 2, 3, 8, 9].map σ = [(.flat (.int .u32 x_1)), (.flat (.int .u32 x_2)), (.ptr b_3 o_3), (.flat (.int .i64 x_8)), (.flat (.bool x_9))] := by simp only [List.map_cons, List.map_nil, h0, h1, h2, h3, h4]
    rw [ev, pc8_4004] at h
    unfold LamP8_4004
    try simp only [h0, h1, h2, h3, h4, kI, kbool, kS, kptr, kaggN, kite, decide_true, eq_self]
    exact h

theorem eqn8 (c_0 : Nat → AV) (x_1 : Int) (x_2 : Int) (m : Mem) (k : KV) : bodyK Try.prog E8 Lam8 Try.f8 true [(.agg 6 c_0), (.flat (.int .u32 x_1)), (.flat (.int .u32 x_2))] m k = F8 c_0 x_1 x_2 m (fun x_1000 m' => k (.flat (.int .u32 x_1000)) m') := by
  kernel_rfl

theorem fs8 (w0 : World) : FS Try.prog w0 8 G8 := by
  refine (fs_body (Γ := E8) (sound_env (l := [(19, G19)]) w0 (by
    intro p hp
    simp only [List.mem_cons, List.not_mem_nil, or_false] at hp
    rcases hp with rfl
    · exact fs19 w0)) (by kernel_rfl) Try.func8 (Λ := Lam8) (c := (bodyOf Try.f8)) (by kernel_rfl) Try.call8 (by kernel_rfl) (LS_of (bodyOf Try.f8) 0 (by kernel_rfl) (fun i hi => absurd hi (Nat.not_lt_zero i)) 3 (by kernel_rfl) (by
    intro i hi
    match i, hi with
    | 0, _ => exact pok8_4004
    | 1, _ => exact pok8_7004
    | 2, _ => exact pok8_16004
    | i + 3, hi => omega)) true (np := 3) (Nat.le_of_ble_eq_true (by kernel_rfl))).imp fun args => ?_
  by_cases hl : args.length = 3
  rotate_left
  · exact .inr fun m k hk => by
      unfold G8 at hk
      split at hk
      · exact hl rfl
      · exact hk
  obtain ⟨a0, a1, a2, rfl⟩ : ∃ a0 a1 a2, args = [a0, a1, a2] := len_list3 hl
  rcases kaggN_or 6 a0 with ⟨c_0, rfl⟩ | h
  rotate_left
  · exact .inr fun m k hk => h _ (by simpa only [G8, kI, kbool, kS, kptr, kaggN, kite, decide_true, eq_self] using hk)
  rcases kI_or .u32 a1 with ⟨x_1, rfl⟩ | h
  rotate_left
  · exact .inr fun m k hk => h _ (by simpa only [G8, kI, kbool, kS, kptr, kaggN, kite, decide_true, eq_self] using hk)
  rcases kI_or .u32 a2 with ⟨x_2, rfl⟩ | h
  rotate_left
  · exact .inr fun m k hk => h _ (by simpa only [G8, kI, kbool, kS, kptr, kaggN, kite, decide_true, eq_self] using hk)
  exact .inl fun m k => propext ⟨fun h => ⟨rfl, by rw [eqn8]; simpa only [G8, kI, kbool, kS, kptr, kaggN, kite, decide_true, eq_self] using h⟩, fun h => by have h := h.2; rw [eqn8] at h; simpa only [G8, kI, kbool, kS, kptr, kaggN, kite, decide_true, eq_self] using h⟩

/-- pianola/asm.To -/
def F9 (x_0 : Int) (x_1 : Int) (m : Mem) (k : Int → Mem → Prop) : Prop :=
  (Keeps m m ∧ k (bits .and .u32 (IntKind.wrap .u32 (IntKind.wrap .i64 ((IntKind.wrap .i64 (x_1 - x_0)) - 1))) 65535) m)

def G9 (args : List AV) (m : Mem) (k : KV) : Prop := match args with
  | [a0, a1] => kI .i64 a0 fun x_0 => kI .i64 a1 fun x_1 => F9 x_0 x_1 m (fun x_1000 m' => k (.flat (.int .u32 x_1000)) m')
  | _ => False

def E9 : Env := envOf []

def Lam9 : LEnv := ⟨fun a σ m k => match firstReg a with
  | _ => bump False,
  fun id => match id with
  | _ => bump false,
  fun b => match keyC b with
  | _ => bump false,
  fun b σ m k => match keyC b with
  | _ => bump False⟩

theorem eqn9 (x_0 : Int) (x_1 : Int) (m : Mem) (k : KV) : bodyK Try.prog E9 Lam9 Try.f9 true [(.flat (.int .i64 x_0)), (.flat (.int .i64 x_1))] m k = F9 x_0 x_1 m (fun x_1000 m' => k (.flat (.int .u32 x_1000)) m') := by
  kernel_rfl

theorem fs9 (w0 : World) : FS Try.prog w0 9 G9 := by
  refine (fs_body (Γ := E9) (sound_env (l := []) w0 (by
    intro p hp
    cases hp)) (by kernel_rfl) Try.func9 (Λ := Lam9) (c := (bodyOf Try.f9)) (by kernel_rfl) Try.call9 (by kernel_rfl) (LS_of (bodyOf Try.f9) 0 (by kernel_rfl) (fun i hi => absurd hi (Nat.not_lt_zero i)) 0 (by kernel_rfl) (fun i hi => absurd hi (Nat.not_lt_zero i))) true (np := 2) (Nat.le_of_ble_eq_true (by kernel_rfl))).imp fun args => ?_
  by_cases hl : args.length = 2
  rotate_left
  · exact .inr fun m k hk => by
      unfold G9 at hk
      split at hk
      · exact hl rfl
      · exact hk
  obtain ⟨a0, a1, rfl⟩ : ∃ a0 a1, args = [a0, a1] := len_list2 hl
  rcases kI_or .i64 a0 with ⟨x_0, rfl⟩ | h
  rotate_left
  · exact .inr fun m k hk => h _ (by simpa only [G9, kI, kbool, kS, kptr, kaggN, kite, decide_true, eq_self] using hk)
  rcases kI_or .i64 a1 with ⟨x_1, rfl⟩ | h
  rotate_left
  · exact .inr fun m k hk => h _ (by simpa only [G9, kI, kbool, kS, kptr, kaggN, kite, decide_true, eq_self] using hk)
  exact .inl fun m k => propext ⟨fun h => ⟨rfl, by rw [eqn9]; simpa only [G9, kI, kbool, kS, kptr, kaggN, kite, decide_true, eq_self] using h⟩, fun h => by have h := h.2; rw [eqn9] at h; simpa only [G9, kI, kbool, kS, kptr, kaggN, kite, decide_true, eq_self] using h⟩

/-- pianola/pianolalaw26.known -/
def F11  (m : Mem) (k : Bool → Mem → Prop) : Prop :=
  newK m ⟨6, splice (Z6) 0 6 (Z6), 25, false⟩ fun b2 m1 => F14 (.sl b2 0 1 (.ex 1)) m1 fun v3 x4 m5 => newK m5 ⟨6, splice (Z6) 0 6 (upd (upd (upd (Z6) 0 (.flat (.int .i64 47))) 2 (.flat (.int .i64 1))) 5 (.flat (.int .u32 5))), 25, false⟩ fun b7 m6 => F14 (.sl b7 0 1 (.ex 1)) m6 fun v8 x9 m10 => kif (x4 == 1) (kif (x9 == 0) (kstr v8 m10 fun z11 => kif (z11.toList == Yb11.toList) (F9 5 5 m10 fun x12 m13 => kif (x12 == 65535) (F9 0 1 m13 fun x14 m15 => k (x14 == 0) m15) (k false m13)) (k false m10)) (k false m10)) (k false m10)

def G11 (args : List AV) (m : Mem) (k : KV) : Prop := match args with
  | [] => F11  m (fun x_1000 m' => k (.flat (.bool x_1000)) m')
  | _ => False

def E11 : Env := envOf [(9, G9), (14, G14)]

def Lam11 : LEnv := ⟨fun a σ m k => match firstReg a with
  | _ => bump False,
  fun id => match id with
  | _ => bump false,
  fun b => match keyC b with
  | _ => bump false,
  fun b σ m k => match keyC b with
  | _ => bump False⟩

theorem eqn11  (m : Mem) (k : KV) : bodyK Try.prog E11 Lam11 Try.f11 false [] m k = F11  m (fun x_1000 m' => k (.flat (.bool x_1000)) m') := by
  kernel_rfl

theorem fs11 (w0 : World) : FS Try.prog w0 11 G11 := by
  refine (fs_body (Γ := E11) (sound_env (l := [(9, G9), (14, G14)]) w0 (by
    intro p hp
    simp only [List.mem_cons, List.not_mem_nil, or_false] at hp
    rcases hp with rfl | rfl
    · exact fs9 w0
    · exact fs14 w0)) (by kernel_rfl) Try.func11 (Λ := Lam11) (c := (bodyOf Try.f11)) (by kernel_rfl) Try.call11 (by kernel_rfl) (LS_of (bodyOf Try.f11) 0 (by kernel_rfl) (fun i hi => absurd hi (Nat.not_lt_zero i)) 0 (by kernel_rfl) (fun i hi => absurd hi (Nat.not_lt_zero i))) false (np := 0) (Nat.le_of_ble_eq_true (by kernel_rfl))).imp fun args => ?_
  by_cases hl : args.length = 0
  rotate_left
  · exact .inr fun m k hk => by
      unfold G11 at hk
      split at hk
      · exact hl rfl
      · exact hk
  obtain rfl : args = [] := len_list0 hl

  exact .inl fun m k => propext ⟨fun h => ⟨rfl, by rw [eqn11]; simpa only [G11, kI, kbool, kS, kptr, kaggN, kite, decide_true, eq_self] using h⟩, fun h => by have h := h.2; rw [eqn11] at h; simpa only [G11, kI, kbool, kS, kptr, kaggN, kite, decide_true, eq_self] using h⟩

def R3_20 (x_6 : Int) (x_7 : Int) (m : Mem) (kn : Int → Mem → Prop) (k8 : Mem → Prop) (kr : Bool → Mem → Prop) : Prop :=
  kif (decide (x_7 < 20)) (F9 x_6 x_7 m fun x37 m38 => F8 (upd (upd (Z6) 0 (.flat (.int .i64 42))) 5 (.flat (.int .u32 x37))) (IntKind.wrap .u32 (IntKind.wrap .i64 (4 * x_6))) 0 m38 fun x39 m40 => kif (x39 != (IntKind.wrap .u32 (IntKind.wrap .i64 (4 * x_7)))) (kr false m40) (F9 x_6 x_7 m40 fun x41 m42 => kif (decide (x41 > 65535)) (kr false m42) (kn (IntKind.wrap .i64 (x_7 + 1)) m42))) (k8  m)

def L3_20 (x_6 : Int) : Nat → Int → Mem → (Mem → Prop) → (Bool → Mem → Prop) → Prop
  | 0, _,  _, _, _ => bump False
  | N + 1, x_7,  m, k8, kr => R3_20 x_6 x_7 m (fun x_7' m' => L3_20 x_6 N x_7' m' k8 kr) k8 kr

def R3_17  (x_6 : Int) (m : Mem) (kn : Int → Mem → Prop) (k6 : Mem → Prop) (kr : Bool → Mem → Prop) : Prop :=
  kif (decide (x_6 < 20)) (∃ N46, L3_20 x_6 N46 0 m (fun m43 => kn (IntKind.wrap .i64 (x_6 + 1)) m43) (fun x44 m45 => kr x44 m45)) (k6  m)

def L3_17  : Nat → Int → Mem → (Mem → Prop) → (Bool → Mem → Prop) → Prop
  | 0, _,  _, _, _ => bump False
  | N + 1, x_6,  m, k6, kr => R3_17  x_6 m (fun x_6' m' => L3_17  N x_6' m' k6 kr) k6 kr

def R3_10 (x_3 : Int) (v_18 : AV) (x_19 : Int) (x_20 : Int) (v_24 : AV) (x_25 : Int) (x_26 : Int) (m : Mem) (kn : Int → Mem → Prop) (k4 : Mem → Prop) (kr : Bool → Mem → Prop) : Prop :=
  kif (decide (x_26 < x_25)) (ksl v_24 fun b18 o19 l20 p21 => kif (decide (0 ≤ x_26) && decide (x_26 < l20)) (ldI .u32 m b18 (o19 + (x_26).toNat * 1) fun x22 => newK m ⟨2, upd (upd (lget [(.flat (.int .u8 0)), (.flat (.int .u8 0))]) 0 (.flat (.int .u8 1))) 1 (.flat (.int .u8 2)), 5, false⟩ fun b24 m23 => F7 x_3 x22 (.sl b24 0 2 (.ex 2)) m23 fun x25 m26 => kif (!x25) (kr false m26) (F7 x_3 x22 (.flat (.slice none 0 0)) m26 fun x27 m28 => kif (!x27) (kr false m28) (kn (IntKind.wrap .i64 (x_26 + 1)) m28))) False) (k4  m)

def L3_10 (x_3 : Int) (v_18 : AV) (x_19 : Int) (x_20 : Int) (v_24 : AV) (x_25 : Int) : Nat → Int → Mem → (Mem → Prop) → (Bool → Mem → Prop) → Prop
  | 0, _,  _, _, _ => bump False
  | N + 1, x_26,  m, k4, kr => R3_10 x_3 v_18 x_19 x_20 v_24 x_25 x_26 m (fun x_26' m' => L3_10 x_3 v_18 x_19 x_20 v_24 x_25 N x_26' m' k4 kr) k4 kr

def R3_7 (v_18 : AV) (x_19 : Int) (x_20 : Int) (m : Mem) (kn : Int → Mem → Prop) (k2 : Mem → Prop) (kr : Bool → Mem → Prop) : Prop :=
  kif (decide (x_20 < x_19)) (ksl v_18 fun b11 o12 l13 p14 => kif (decide (0 ≤ x_20) && decide (x_20 < l13)) (ldI .i64 m b11 (o12 + (x_20).toNat * 1) fun x15 => newK m ⟨5, upd (upd (upd (upd (upd (lget [(.flat (.int .u32 0)), (.flat (.int .u32 0)), (.flat (.int .u32 0)), (.flat (.int .u32 0)), (.flat (.int .u32 0))]) 0 (.flat (.int .u32 0))) 1 (.flat (.int .u32 1023))) 2 (.flat (.int .u32 1024))) 3 (.flat (.int .u32 2044))) 4 (.flat (.int .u32 4294967295)), 23, false⟩ fun b17 m16 => ∃ N32, L3_10 x15 v_18 x_19 x_20 (.sl b17 0 5 (.ex 5)) 5 N32 0 m16 (fun m29 => kn (IntKind.wrap .i64 (x_20 + 1)) m29) (fun x30 m31 => kr x30 m31)) False) (k2  m)

def L3_7 (v_18 : AV) (x_19 : Int) : Nat → Int → Mem → (Mem → Prop) → (Bool → Mem → Prop) → Prop
  | 0, _,  _, _, _ => bump False
  | N + 1, x_20,  m, k2, kr => R3_7 v_18 x_19 x_20 m (fun x_20' m' => L3_7 v_18 x_19 N x_20' m' k2 kr) k2 kr

def R3_2  (x_1 : Int) (m : Mem) (kn : Int → Mem → Prop) (k0 : Mem → Prop) (kr : Bool → Mem → Prop) : Prop :=
  kif (decide (x_1 < 79)) (newK m ⟨12, splice (splice (Z12) 0 6 (upd (Z6) 0 (.flat (.int .i64 x_1)))) 6 6 (upd (Z6) 0 (.flat (.int .i64 1))), 25, false⟩ fun b2 m1 => F6 (.sl b2 0 2 (.ex 2)) m1 fun x3 m4 => kif (!x3) (kr false m4) (kn (IntKind.wrap .i64 (x_1 + 1)) m4)) (k0  m)

def L3_2  : Nat → Int → Mem → (Mem → Prop) → (Bool → Mem → Prop) → Prop
  | 0, _,  _, _, _ => bump False
  | N + 1, x_1,  m, k0, kr => R3_2  x_1 m (fun x_1' m' => L3_2  N x_1' m' k0 kr) k0 kr

/-- pianola/pianolalaw26.AsmNumbers -/
def F3  (m : Mem) (k : Bool → Mem → Prop) : Prop :=
  ∃ N8, L3_2  N8 (-1) m (fun m5 => newK m5 ⟨6, upd (upd (upd (upd (upd (upd (Z6bb) 0 (.flat (.int .i64 (-1)))) 1 (.flat (.int .i64 0))) 2 (.flat (.int .i64 1))) 3 (.flat (.int .i64 2))) 4 (.flat (.int .i64 64))) 5 (.flat (.int .i64 65)), 3, false⟩ fun b10 m9 => ∃ N36, L3_7 (.sl b10 0 6 (.ex 6)) 6 N36 0 m9 (fun m33 => ∃ N50, L3_17  N50 0 m33 (fun m47 => newK m47 ⟨3, upd (upd (upd (lget [(.flat (.int .u8 0)), (.flat (.int .u8 0)), (.flat (.int .u8 0))]) 0 (.flat (.int .u8 1))) 1 (.flat (.int .u8 2))) 2 (.flat (.int .u8 3)), 5, false⟩ fun b52 m51 => F10 (.sl b52 0 3 (.ex 3)) m51 fun v53 m54 => klen v53 fun x55 => kif (x55 == 0) (F11  m54 fun x56 m57 => k x56 m57) (k false m54)) (fun x48 m49 => k x48 m49)) (fun x34 m35 => k x34 m35)) (fun x6 m7 => k x6 m7)

def G3 (args : List AV) (m : Mem) (k : KV) : Prop := match args with
  | [] => F3  m (fun x_1000 m' => k (.flat (.bool x_1000)) m')
  | _ => False

def E3 : Env := envOf [(6, G6), (7, G7), (8, G8), (9, G9), (10, G10), (11, G11)]

def Lam3_2 (σ : Nat → AV) (m : Mem) (k : KX) : Prop := kI .i64 (σ 1) fun x_1 => ∃ N, L3_2  N x_1 m (fun m' => k (.exit 0) (only [] []) m') (fun x_0' m' => k .ret (only [0] [(.flat (.bool x_0'))]) m')

def Lam3_7 (σ : Nat → AV) (m : Mem) (k : KX) : Prop := kI .i64 (σ 19) fun x_19 => kI .i64 (σ 20) fun x_20 => ∃ N, L3_7 (σ 18) x_19 N x_20 m (fun m' => k (.exit 2) (only [] []) m') (fun x_0' m' => k .ret (only [0] [(.flat (.bool x_0'))]) m')

def Lam3_10 (σ : Nat → AV) (m : Mem) (k : KX) : Prop := kI .i64 (σ 3) fun x_3 => kI .i64 (σ 19) fun x_19 => kI .i64 (σ 20) fun x_20 => kI .i64 (σ 25) fun x_25 => kI .i64 (σ 26) fun x_26 => ∃ N, L3_10 x_3 (σ 18) x_19 x_20 (σ 24) x_25 N x_26 m (fun m' => k (.exit 4) (only [18, 19, 20] [(σ 18), (.flat (.int .i64 x_19)), (.flat (.int .i64 x_20))]) m') (fun x_0' m' => k .ret (only [0] [(.flat (.bool x_0'))]) m')

def Lam3_17 (σ : Nat → AV) (m : Mem) (k : KX) : Prop := kI .i64 (σ 6) fun x_6 => ∃ N, L3_17  N x_6 m (fun m' => k (.exit 6) (only [] []) m') (fun x_0' m' => k .ret (only [0] [(.flat (.bool x_0'))]) m')

def Lam3_20 (σ : Nat → AV) (m : Mem) (k : KX) : Prop := kI .i64 (σ 6) fun x_6 => kI .i64 (σ 7) fun x_7 => ∃ N, L3_20 x_6 N x_7 m (fun m' => k (.exit 8) (only [6] [(.flat (.int .i64 x_6))]) m') (fun x_0' m' => k .ret (only [0] [(.flat (.bool x_0'))]) m')

def Lam3 : LEnv := ⟨fun a σ m k => match firstReg a with
  | some 2 => Lam3_2 σ m k
  | some 7 => Lam3_7 σ m k
  | some 10 => Lam3_10 σ m k
  | some 17 => Lam3_17 σ m k
  | some 20 => Lam3_20 σ m k
  | _ => bump False,
  fun id => match id with
  | _ => bump false,
  fun b => match keyC b with
  | _ => bump false,
  fun b σ m k => match keyC b with
  | _ => bump False⟩

def lx3_20 : Ex → List Nat := fun e => match e with
  | .exit 8 => [6]
  | .ret => [0]
  | _ => []

theorem round3_20 (x_6 : Int) (x_7 : Int) (m : Mem) (G : List AV → Mem → Prop) (k : KX) : (wpA Try.prog E3 Lam3 ((loopsOf (bodyOf Try.f3)).getD 4 .skip) (only [6, 7] [(.flat (.int .i64 x_6)), (.flat (.int .i64 x_7))]) m fun e σ' m' => match e with
    | .normal => G ([6, 7].map σ') m'
    | .exit id => k (.exit id) (only (lx3_20 (.exit id)) ((lx3_20 (.exit id)).map σ')) m'
    | .ret => k .ret (only (lx3_20 .ret) ((lx3_20 .ret).map σ')) m') = R3_20 x_6 x_7 m (fun x_7' m' => G [(.flat (.int .i64 x_6)), (.flat (.int .i64 x_7'))] m') (fun m' => k (.exit 8) (only [6] [(.flat (.int .i64 x_6))]) m') (fun x_0' m' => k .ret (only [0] [(.flat (.bool x_0'))]) m') := by
  kernel_rfl

theorem loop3_20 (x_6 : Int) (k : KX) : ∀ (N : Nat) (x_7 : Int) (m : Mem), rounds Try.prog E3 Lam3 [6, 7] lx3_20 ((loopsOf (bodyOf Try.f3)).getD 4 .skip) N [(.flat (.int .i64 x_6)), (.flat (.int .i64 x_7))] m k = L3_20 x_6 N x_7 m (fun m' => k (.exit 8) (only [6] [(.flat (.int .i64 x_6))]) m') (fun x_0' m' => k .ret (only [0] [(.flat (.bool x_0'))]) m') := by
  intro N
  induction N with
  | zero => intros; rfl
  | succ N ih =>
    intro x_7 m
    refine (round3_20 x_6 x_7 m (fun vs m' => rounds Try.prog E3 Lam3 [6, 7] lx3_20 ((loopsOf (bodyOf Try.f3)).getD 4 .skip) N vs m' k) k).trans ?_
    simp only [ih]
    rfl

theorem lok3_20 : LoopOK Try.prog E3 Lam3 ((loopsOf (bodyOf Try.f3)).getD 4 .skip) := by
  refine ⟨fun σ => ∃ x_6 x_7, σ 6 = .flat (.int .i64 x_6) ∧ σ 7 = .flat (.int .i64 x_7), [6, 7], lx3_20, fun σ m k => ?_⟩
  have e : Lam3.loop ((loopsOf (bodyOf Try.f3)).getD 4 .skip) σ m k = Lam3_20 σ m k := by kernel_rfl
  rw [e]
  constructor
  · intro h
    unfold Lam3_20 at h
    obtain ⟨x_6, h0, h⟩ := kI_ok h
    obtain ⟨x_7, h1, h⟩ := kI_ok h
    obtain ⟨N, h⟩ := h
    refine ⟨⟨x_6, x_7, h0, h1⟩, N, ?_⟩
    have ev : [6, 7].map σ = [(.flat (.int .i64 x_6)), (.flat (.int .i64 x_7))] := by simp only [List.map_cons, List.map_nil, h0, h1]
    rw [ev, loop3_20]
    exact h
  · rintro ⟨⟨x_6, x_7, h0, h1⟩, N, h⟩
    have ev : [6, 7].map σ = [(.flat (.int .i64 x_6)), (.flat (.int .i64 x_7))] := by simp only [List.map_cons, List.map_nil, h0, h1]
    rw [ev, loop3_20] at h
    unfold Lam3_20
    try simp only [h0, h1, kI, kbool, kS, kptr, kaggN, kite, decide_true, eq_self]
    exact ⟨N, h⟩

def lx3_17 : Ex → List Nat := fun e => match e with
  | .exit 6 => []
  | .ret => [0]
  | _ => []

theorem round3_17  (x_6 : Int) (m : Mem) (G : List AV → Mem → Prop) (k : KX) : (wpA Try.prog E3 Lam3 ((loopsOf (bodyOf Try.f3)).getD 3 .skip) (only [6] [(.flat (.int .i64 x_6))]) m fun e σ' m' => match e with
    | .normal => G ([6].map σ') m'
    | .exit id => k (.exit id) (only (lx3_17 (.exit id)) ((lx3_17 (.exit id)).map σ')) m'
    | .ret => k .ret (only (lx3_17 .ret) ((lx3_17 .ret).map σ')) m') = R3_17  x_6 m (fun x_6' m' => G [(.flat (.int .i64 x_6'))] m') (fun m' => k (.exit 6) (only [] []) m') (fun x_0' m' => k .ret (only [0] [(.flat (.bool x_0'))]) m') := by
  kernel_rfl

theorem loop3_17  (k : KX) : ∀ (N : Nat) (x_6 : Int) (m : Mem), rounds Try.prog E3 Lam3 [6] lx3_17 ((loopsOf (bodyOf Try.f3)).getD 3 .skip) N [(.flat (.int .i64 x_6))] m k = L3_17  N x_6 m (fun m' => k (.exit 6) (only [] []) m') (fun x_0' m' => k .ret (only [0] [(.flat (.bool x_0'))]) m') := by
  intro N
  induction N with
  | zero => intros; rfl
  | succ N ih =>
    intro x_6 m
    refine (round3_17  x_6 m (fun vs m' => rounds Try.prog E3 Lam3 [6] lx3_17 ((loopsOf (bodyOf Try.f3)).getD 3 .skip) N vs m' k) k).trans ?_
    simp only [ih]
    rfl

theorem lok3_17 : LoopOK Try.prog E3 Lam3 ((loopsOf (bodyOf Try.f3)).getD 3 .skip) := by
  refine ⟨fun σ => ∃ x_6, σ 6 = .flat (.int .i64 x_6), [6], lx3_17, fun σ m k => ?_⟩
  have e : Lam3.loop ((loopsOf (bodyOf Try.f3)).getD 3 .skip) σ m k = Lam3_17 σ m k := by kernel_rfl
  rw [e]
  constructor
  · intro h
    unfold Lam3_17 at h
    obtain ⟨x_6, h0, h⟩ := kI_ok h
    obtain ⟨N, h⟩ := h
    refine ⟨⟨x_6, h0⟩, N, ?_⟩
    have ev : [6].map σ = [(.flat (.int .i64 x_6))] := by simp only [List.map_cons, List.map_nil, h0]
    rw [ev, loop3_17]
    exact h
  · rintro ⟨⟨x_6, h0⟩, N, h⟩
    have ev : [6].map σ = [(.flat (.int .i64 x_6))] := by simp only [List.map_cons, List.map_nil, h0]
    rw [ev, loop3_17] at h
    unfold Lam3_17
    try simp only [h0, kI, kbool, kS, kptr, kaggN, kite, decide_true, eq_self]
    exact ⟨N, h⟩

def lx3_10 : Ex → List Nat := fun e => match e with
  | .exit 4 => [18, 19, 20]
  | .ret => [0]
  | _ => []

theorem round3_10 (x_3 : Int) (v_18 : AV) (x_19 : Int) (x_20 : Int) (v_24 : AV) (x_25 : Int) (x_26 : Int) (m : Mem) (G : List AV → Mem → Prop) (k : KX) : (wpA Try.prog E3 Lam3 ((loopsOf (bodyOf Try.f3)).getD 2 .skip) (only [3, 18, 19, 20, 24, 25, 26] [(.flat (.int .i64 x_3)), v_18, (.flat (.int .i64 x_19)), (.flat (.int .i64 x_20)), v_24, (.flat (.int .i64 x_25)), (.flat (.int .i64 x_26))]) m fun e σ' m' => match e with
    | .normal => G ([3, 18, 19, 20, 24, 25, 26].map σ') m'
    | .exit id => k (.exit id) (only (lx3_10 (.exit id)) ((lx3_10 (.exit id)).map σ')) m'
    | .ret => k .ret (only (lx3_10 .ret) ((lx3_10 .ret).map σ')) m') = R3_10 x_3 v_18 x_19 x_20 v_24 x_25 x_26 m (fun x_26' m' => G [(.flat (.int .i64 x_3)), v_18, (.flat (.int .i64 x_19)), (.flat (.int .i64 x_20)), v_24, (.flat (.int .i64 x_25)), (.flat (.int .i64 x_26'))] m') (fun m' => k (.exit 4) (only [18, 19, 20] [v_18, (.flat (.int .i64 x_19)), (.flat (.int .i64 x_20))]) m') (fun x_0' m' => k .ret (only [0] [(.flat (.bool x_0'))]) m') := by
  kernel_rfl

theorem loop3_10 (x_3 : Int) (v_18 : AV) (x_19 : Int) (x_20 : Int) (v_24 : AV) (x_25 : Int) (k : KX) : ∀ (N : Nat) (x_26 : Int) (m : Mem), rounds Try.prog E3 Lam3 [3, 18, 19, 20, 24, 25, 26] lx3_10 ((loopsOf (bodyOf Try.f3)).getD 2 .skip) N [(.flat (.int .i64 x_3)), v_18, (.flat (.int .i64 x_19)), (.flat (.int .i64 x_20)), v_24, (.flat (.int .i64 x_25)), (.flat (.int .i64 x_26))] m k = L3_10 x_3 v_18 x_19 x_20 v_24 x_25 N x_26 m (fun m' => k (.exit 4) (only [18, 19, 20] [v_18, (.flat (.int .i64 x_19)), (.flat (.int .i64 x_20))]) m') (fun x_0' m' => k .ret (only [0] [(.flat (.bool x_0'))]) m') := by
  intro N
  induction N with
  | zero => intros; rfl
  | succ N ih =>
    intro x_26 m
    refine (round3_10 x_3 v_18 x_19 x_20 v_24 x_25 x_26 m (fun vs m' => rounds Try.prog E3 Lam3 [3, 18, 19, 20, 24, 25, 26] lx3_10 ((loopsOf (bodyOf Try.f3)).getD 2 .skip) N vs m' k) k).trans ?_
    simp only [ih]
    rfl

theorem lok3_10 : LoopOK Try.prog E3 Lam3 ((loopsOf (bodyOf Try.f3)).getD 2 .skip) := by
  refine ⟨fun σ => ∃ x_3 v_18 x_19 x_20 v_24 x_25 x_26, σ 3 = .flat (.int .i64 x_3) ∧ σ 18 = v_18 ∧ σ 19 = .flat (.int .i64 x_19) ∧ σ 20 = .flat (.int .i64 x_20) ∧ σ 24 = v_24 ∧ σ 25 = .flat (.int .i64 x_25) ∧ σ 26 = .flat (.int .i64 x_26), [3, 18, 19, 20, 24, 25, 26], lx3_10, fun σ m k => ?_⟩
  have e : Lam3.loop ((loopsOf (bodyOf Try.f3)).getD 2 .skip) σ m k = Lam3_10 σ m k := by kernel_rfl
  rw [e]
  constructor
  · intro h
    unfold Lam3_10 at h
    obtain ⟨x_3, h0, h⟩ := kI_ok h
    obtain ⟨v_18, h1⟩ : ∃ v, σ 18 = v := ⟨_, rfl⟩
    obtain ⟨x_19, h2, h⟩ := kI_ok h
    obtain ⟨x_20, h3, h⟩ := kI_ok h
    obtain ⟨v_24, h4⟩ : ∃ v, σ 24 = v := ⟨_, rfl⟩
    obtain ⟨x_25, h5, h⟩ := kI_ok h
    obtain ⟨x_26, h6, h⟩ := kI_ok h
    obtain ⟨N, h⟩ := h
    refine ⟨⟨x_3, v_18, x_19, x_20, v_24, x_25, x_26, h0, h1, h2, h3, h4, h5, h6⟩, N, ?_⟩
    have ev : [3, 18, 19, 20, 24, 25, 26].map σ = [(.flat (.int .i64 x_3)), v_18, (.flat (.int .i64 x_19)), (.flat (.int .i64 x_20)), v_24, (.flat (.int .i64 x_25)), (.flat (.int .i64 x_26))] := by simp only [List.map_cons, List.map_nil, h0, h1, h2, h3, h4, h5, h6]
    rw [ev, loop3_10]
    simp only [h1, h4] at h
    exact h
  · rintro ⟨⟨x_3, v_18, x_19, x_20, v_24, x_25, x_26, h0, h1, h2, h3, h4, h5, h6⟩, N, h⟩
    have ev : [3, 18, 19, 20, 24, 25, 26].map σ = [(.flat (.int .i64 x_3)), v_18, (.flat (.int .i64 x_19)), (.flat (.int .i64 x_20)), v_24, (.flat (.int .i64 x_25)), (.flat (.int .i64 x_26))] := by simp only [List.map_cons, List.map_nil, h0, h1, h2, h3, h4, h5, h6]
    rw [ev, loop3_10] at h
    unfold Lam3_10
    try simp only [h0, h1, h2, h3, h4, h5, h6, kI, kbool, kS, kptr, kaggN, kite, decide_true, eq_self]
    exact ⟨N, h⟩

def lx3_7 : Ex → List Nat := fun e => match e with
  | .exit 2 => []
  | .ret => [0]
  | _ => []

theorem round3_7 (v_18 : AV) (x_19 : Int) (x_20 : Int) (m : Mem) (G : List AV → Mem → Prop) (k : KX) : (wpA Try.prog E3 Lam3 ((loopsOf (bodyOf Try.f3)).getD 1 .skip) (only [18, 19, 20] [v_18, (.flat (.int .i64 x_19)), (.flat (.int .i64 x_20))]) m fun e σ' m' => match e with
    | .normal => G ([18, 19, 20].map σ') m'
    | .exit id => k (.exit id) (only (lx3_7 (.exit id)) ((lx3_7 (.exit id)).map σ')) m'
    | .ret => k .ret (only (lx3_7 .ret) ((lx3_7 .ret).map σ')) m') = R3_7 v_18 x_19 x_20 m (fun x_20' m' => G [v_18, (.flat (.int .i64 x_19)), (.flat (.int .i64 x_20'))] m') (fun m' => k (.exit 2) (only [] []) m') (fun x_0' m' => k .ret (only [0] [(.flat (.bool x_0'))]) m') := by
  kernel_rfl

theorem loop3_7 (v_18 : AV) (x_19 : Int) (k : KX) : ∀ (N : Nat) (x_20 : Int) (m : Mem), rounds Try.prog E3 Lam3 [18, 19, 20] lx3_7 ((loopsOf (bodyOf Try.f3)).getD 1 .skip) N [v_18, (.flat (.int .i64 x_19)), (.flat (.int .i64 x_20))] m k = L3_7 v_18 x_19 N x_20 m (fun m' => k (.exit 2) (only [] []) m') (fun x_0' m' => k .ret (only [0] [(.flat (.bool x_0'))]) m') := by
  intro N
  induction N with
  | zero => intros; rfl
  | succ N ih =>
    intro x_20 m
    refine (round3_7 v_18 x_19 x_20 m (fun vs m' => rounds Try.prog E3 Lam3 [18, 19, 20] lx3_7 ((loopsOf (bodyOf Try.f3)).getD 1 .skip) N vs m' k) k).trans ?_
    simp only [ih]
    rfl

theorem lok3_7 : LoopOK Try.prog E3 Lam3 ((loopsOf (bodyOf Try.f3)).getD 1 .skip) := by
  refine ⟨fun σ => ∃ v_18 x_19 x_20, σ 18 = v_18 ∧ σ 19 = .flat (.int .i64 x_19) ∧ σ 20 = .flat (.int .i64 x_20), [18, 19, 20], lx3_7, fun σ m k => ?_⟩
  have e : Lam3.loop ((loopsOf (bodyOf Try.f3)).getD 1 .skip) σ m k = Lam3_7 σ m k := by kernel_rfl
  rw [e]
  constructor
  · intro h
    unfold Lam3_7 at h
    obtain ⟨v_18, h0⟩ : ∃ v, σ 18 = v := ⟨_, rfl⟩
    obtain ⟨x_19, h1, h⟩ := kI_ok h
    obtain ⟨x_20, h2, h⟩ := kI_ok h
    obtain ⟨N, h⟩ := h
    refine ⟨⟨v_18, x_19, x_20, h0, h1, h2⟩, N, ?_⟩
    have ev : [18, 19, 20].map σ = [v_18, (.flat (.int .i64 x_19)), (.flat (.int .i64 x_20))] := by simp only [List.map_cons, List.map_nil, h0, h1, h2]
    rw [ev, loop3_7]
    simp only [h0] at h
    exact h
  · rintro ⟨⟨v_18, x_19, x_20, h0, h1, h2⟩, N, h⟩
    have ev : [18, 19, 20].map σ = [v_18, (.flat (.int .i64 x_19)), (.flat (.int .i64 x_20))] := by simp only [List.map_cons, List.map_nil, h0, h1, h2]
    rw [ev, loop3_7] at h
    unfold Lam3_7
    try simp only [h0, h1, h2, kI, kbool, kS, kptr, kaggN, kite, decide_true, eq_self]
    exact ⟨N, h⟩

def lx3_2 : Ex → List Nat := fun e => match e with
  | .exit 0 => []
  | .ret => [0]
  | _ => []

theorem round3_2  (x_1 : Int) (m : Mem) (G : List AV → Mem → Prop) (k : KX) : (wpA Try.prog E3 Lam3 ((loopsOf (bodyOf Try.f3)).getD 0 .skip) (only [1] [(.flat (.int .i64 x_1))]) m fun e σ' m' => match e with
    | .normal => G ([1].map σ') m'
    | .exit id => k (.exit id) (only (lx3_2 (.exit id)) ((lx3_2 (.exit id)).map σ')) m'
    | .ret => k .ret (only (lx3_2 .ret) ((lx3_2 .ret).map σ')) m') = R3_2  x_1 m (fun x_1' m' => G [(.flat (.int .i64 x_1'))] m') (fun m' => k (.exit 0) (only [] []) m') (fun x_0' m' => k .ret (only [0] [(.flat (.bool x_0'))]) m') := by
  kernel_rfl

theorem loop3_2  (k : KX) : ∀ (N : Nat) (x_1 : Int) (m : Mem), rounds Try.prog E3 Lam3 [1] lx3_2 ((loopsOf (bodyOf Try.f3)).getD 0 .skip) N [(.flat (.int .i64 x_1))] m k = L3_2  N x_1 m (fun m' => k (.exit 0) (only [] []) m') (fun x_0' m' => k .ret (only [0] [(.flat (.bool x_0'))]) m') := by
  intro N
  induction N with
  | zero => intros; rfl
  | succ N ih =>
    intro x_1 m
    refine (round3_2  x_1 m (fun vs m' => rounds Try.prog E3 Lam3 [1] lx3_2 ((loopsOf (bodyOf Try.f3)).getD 0 .skip) N vs m' k) k).trans ?_
    simp only [ih]
    rfl

theorem lok3_2 : LoopOK Try.prog E3 Lam3 ((loopsOf (bodyOf Try.f3)).getD 0 .skip) := by
  refine ⟨fun σ => ∃ x_1, σ 1 = .flat (.int .i64 x_1), [1], lx3_2, fun σ m k => ?_⟩
  have e : Lam3.loop ((loopsOf (bodyOf Try.f3)).getD 0 .skip) σ m k = Lam3_2 σ m k := by kernel_rfl
  rw [e]
  constructor
  · intro h
    unfold Lam3_2 at h
    obtain ⟨x_1, h0, h⟩ := kI_ok h
    obtain ⟨N, h⟩ := h
    refine ⟨⟨x_1, h0⟩, N, ?_⟩
    have ev : [1].map σ = [(.flat (.int .i64 x_1))] := by simp only [List.map_cons, List.map_nil, h0]
    rw [ev, loop3_2]
    exact h
  · rintro ⟨⟨x_1, h0⟩, N, h⟩
    have ev : [1].map σ = [(.flat (.int .i64 x_1))] := by simp only [List.map_cons, List.map_nil, h0]
    rw [ev, loop3_2] at h
    unfold Lam3_2
    try simp only [h0, kI, kbool, kS, kptr, kaggN, kite, decide_true, eq_self]
    exact ⟨N, h⟩

theorem eqn3  (m : Mem) (k : KV) : bodyK Try.prog E3 Lam3 Try.f3 false [] m k = F3  m (fun x_1000 m' => k (.flat (.bool x_1000)) m') := by
  kernel_rfl

theorem fs3 (w0 : World) : FS Try.prog w0 3 G3 := by
  refine (fs_body (Γ := E3) (sound_env (l := [(6, G6), (7, G7), (8, G8), (9, G9), (10, G10), (11, G11)]) w0 (by
    intro p hp
    simp only [List.mem_cons, List.not_mem_nil, or_false] at hp
    rcases hp with rfl | rfl | rfl | rfl | rfl | rfl
    · exact fs6 w0
    · exact fs7 w0
    · exact fs8 w0
    · exact fs9 w0
    · exact fs10 w0
    · exact fs11 w0)) (by kernel_rfl) Try.func3 (Λ := Lam3) (c := (bodyOf Try.f3)) (by kernel_rfl) Try.call3 (by kernel_rfl) (LS_of (bodyOf Try.f3) 5 (by kernel_rfl) (by
    intro i hi
    match i, hi with
    | 0, _ => exact lok3_2
    | 1, _ => exact lok3_7
    | 2, _ => exact lok3_10
    | 3, _ => exact lok3_17
    | 4, _ => exact lok3_20
    | i + 5, hi => omega) 0 (by kernel_rfl) (fun i hi => absurd hi (Nat.not_lt_zero i))) false (np := 0) (Nat.le_of_ble_eq_true (by kernel_rfl))).imp fun args => ?_
  by_cases hl : args.length = 0
  rotate_left
  · exact .inr fun m k hk => by
      unfold G3 at hk
      split at hk
      · exact hl rfl
      · exact hk
  obtain rfl : args = [] := len_list0 hl

  exact .inl fun m k => propext ⟨fun h => ⟨rfl, by rw [eqn3]; simpa only [G3, kI, kbool, kS, kptr, kaggN, kite, decide_true, eq_self] using h⟩, fun h => by have h := h.2; rw [eqn3] at h; simpa only [G3, kI, kbool, kS, kptr, kaggN, kite, decide_true, eq_self] using h⟩

def P13_3102 (x_0 : Int) (x_1 : Int) (x_2 : Int) (m : Mem) (kr : Int → Mem → Prop) : Prop :=
  kif (decide (IntKind.wrap .i64 ((IntKind.wrap .i64 (x_2 - x_1)) + 1) = 0)) False (kif (decide ((x_0.tmod (IntKind.wrap .i64 ((IntKind.wrap .i64 (x_2 - x_1)) + 1))) < 0)) (kr (IntKind.wrap .i64 (x_1 + (IntKind.wrap .i64 ((IntKind.wrap .i64 ((IntKind.wrap .i64 ((x_0.tmod (IntKind.wrap .i64 ((IntKind.wrap .i64 (x_2 - x_1)) + 1))) + x_2)) - x_1)) + 1)))) m) (kr (IntKind.wrap .i64 (x_1 + (x_0.tmod (IntKind.wrap .i64 ((IntKind.wrap .i64 (x_2 - x_1)) + 1))))) m))

/-- pianola/pianolabook.Within -/
def F13 (x_0 : Int) (x_1 : Int) (x_2 : Int) (m : Mem) (k : Int → Mem → Prop) : Prop :=
  kif (decide (x_0 ≥ x_1)) (kif (decide (x_0 ≤ x_2)) ((Keeps m m ∧ k x_0 m)) (P13_3102 x_0 x_1 x_2 m (fun x1 m2 => (Keeps m m2 ∧ k x1 m)))) (P13_3102 x_0 x_1 x_2 m (fun x3 m4 => (Keeps m m4 ∧ k x3 m)))

def G13 (args : List AV) (m : Mem) (k : KV) : Prop := match args with
  | [a0, a1, a2] => kI .i64 a0 fun x_0 => kI .i64 a1 fun x_1 => kI .i64 a2 fun x_2 => F13 x_0 x_1 x_2 m (fun x_1000 m' => k (.flat (.int .i64 x_1000)) m')
  | _ => False

def E13 : Env := envOf []

def LamP13_3102 (σ : Nat → AV) (m : Mem) (k : KX) : Prop := kI .i64 (σ 0) fun x_0 => kI .i64 (σ 1) fun x_1 => kI .i64 (σ 2) fun x_2 => P13_3102 x_0 x_1 x_2 m (fun x_6' m' => k .ret (only [6] [(.flat (.int .i64 x_6'))]) m')

def Lam13 : LEnv := ⟨fun a σ m k => match firstReg a with
  | _ => bump False,
  fun id => match id with
  | _ => bump false,
  fun b => match keyC b with
  | some 3102 => true
  | _ => bump false,
  fun b σ m k => match keyC b with
  | some 3102 => LamP13_3102 σ m k
  | _ => bump False⟩

def lxp13_3102 : Ex → List Nat := fun e => match e with
  | .ret => [6]
  | _ => []

theorem pc13_3102 (x_0 : Int) (x_1 : Int) (x_2 : Int) (m : Mem) (k : KX) : once Try.prog E13 Lam13 [0, 1, 2] lxp13_3102 (((secsOf (bodyOf Try.f13)).filter Lam13.cut).getD 0 .skip) [(.flat (.int .i64 x_0)), (.flat (.int .i64 x_1)), (.flat (.int .i64 x_2))] m k = P13_3102 x_0 x_1 x_2 m (fun x_6' m' => k .ret (only [6] [(.flat (.int .i64 x_6'))]) m') := by
  kernel_rfl

theorem pok13_3102 : PieceOK Try.prog E13 Lam13 (((secsOf (bodyOf Try.f13)).filter Lam13.cut).getD 0 .skip) := by
  refine ⟨fun σ => ∃ x_0 x_1 x_2, σ 0 = .flat (.int .i64 x_0) ∧ σ 1 = .flat (.int .i64 x_1) ∧ σ 2 = .flat (.int .i64 x_2), [0, 1, 2], lxp13_3102, fun σ m k => ?_⟩
  have e : Lam13.piece (((secsOf (bodyOf Try.f13)).filter Lam13.cut).getD 0 .skip) σ m k = LamP13_3102 σ m k := by kernel_rfl
  rw [e]
  constructor
  · intro h
    unfold LamP13_3102 at h
    obtain ⟨x_0, h0, h⟩ := kI_ok h
    obtain ⟨x_1, h1, h⟩ := kI_ok h
    obtain ⟨x_2, h2, h⟩ := kI_ok h
    refine ⟨⟨x_0, x_1, x_2, h0, h1, h2⟩, ?_⟩
    have ev : [0, 1, 2].map σ = [(.flat (.int .i64 x_0)), (.flat (.int .i64 x_1)), (.flat (.int .i64 x_2))] := by simp only [List.map_cons, List.map_nil, h0, h1, h2]
    rw [ev, pc13_3102]
    exact h
  · rintro ⟨⟨x_0, x_1, x_2, h0, h1, h2⟩, h⟩
    have ev : [0, 1, 2].map σ = [(.flat (.int .i64 x_0)), (.flat (.int .i64 x_1)), (.flat (.int .i64 x_2))] := by simp only [List.map_cons, List.map_nil, h0, h1, h2]
    rw [ev, pc13_3102] at h
    unfold LamP13_3102
    try simp only [h0, h1, h2, kI, kbool, kS, kptr, kaggN, kite, decide_true, eq_self]
    exact h

theorem eqn13 (x_0 : Int) (x_1 : Int) (x_2 : Int) (m : Mem) (k : KV) : bodyK Try.prog E13 Lam13 Try.f13 true [(.flat (.int .i64 x_0)), (.flat (.int .i64 x_1)), (.flat (.int .i64 x_2))] m k = F13 x_0 x_1 x_2 m (fun x_1000 m' => k (.flat (.int .i64 x_1000)) m') := by
  kernel_rfl

theorem fs13 (w0 : World) : FS Try.prog w0 13 G13 := by
  refine (fs_body (Γ := E13) (sound_env (l := []) w0 (by
    intro p hp
    cases hp)) (by kernel_rfl) Try.func13 (Λ := Lam13) (c := (bodyOf Try.f13)) (by kernel_rfl) Try.call13 (by kernel_rfl) (LS_of (bodyOf Try.f13) 0 (by kernel_rfl) (fun i hi => absurd hi (Nat.not_lt_zero i)) 1 (by kernel_rfl) (by
    intro i hi
    match i, hi with
    | 0, _ => exact pok13_3102
    | i + 1, hi => omega)) true (np := 3) (Nat.le_of_ble_eq_true (by kernel_rfl))).imp fun args => ?_
  by_cases hl : args.length = 3
  rotate_left
  · exact .inr fun m k hk => by
      unfold G13 at hk
      split at hk
      · exact hl rfl
      · exact hk
  obtain ⟨a0, a1, a2, rfl⟩ : ∃ a0 a1 a2, args = [a0, a1, a2] := len_list3 hl
  rcases kI_or .i64 a0 with ⟨x_0, rfl⟩ | h
  rotate_left
  · exact .inr fun m k hk => h _ (by simpa only [G13, kI, kbool, kS, kptr, kaggN, kite, decide_true, eq_self] using hk)
  rcases kI_or .i64 a1 with ⟨x_1, rfl⟩ | h
  rotate_left
  · exact .inr fun m k hk => h _ (by simpa only [G13, kI, kbool, kS, kptr, kaggN, kite, decide_true, eq_self] using hk)
  rcases kI_or .i64 a2 with ⟨x_2, rfl⟩ | h
  rotate_left
  · exact .inr fun m k hk => h _ (by simpa only [G13, kI, kbool, kS, kptr, kaggN, kite, decide_true, eq_self] using hk)
  exact .inl fun m k => propext ⟨fun h => ⟨rfl, by rw [eqn13]; simpa only [G13, kI, kbool, kS, kptr, kaggN, kite, decide_true, eq_self] using h⟩, fun h => by have h := h.2; rw [eqn13] at h; simpa only [G13, kI, kbool, kS, kptr, kaggN, kite, decide_true, eq_self] using h⟩

/-- pianola/pianolakeep.near -/
def F27 (x_0 : Int) (m : Mem) (k : Int → Mem → Prop) : Prop :=
  F13 x_0 0 1048576 m fun x1 m2 => kif ((x1.tmod 8) == 7) ((Keeps m m2 ∧ k ((IntKind.wrap .i64 (x1.tdiv 8)).tmod 32) m)) ((Keeps m m2 ∧ k ((IntKind.wrap .i64 (x1.tdiv 8)).tmod 8) m))

def G27 (args : List AV) (m : Mem) (k : KV) : Prop := match args with
  | [a0] => kI .i64 a0 fun x_0 => F27 x_0 m (fun x_1000 m' => k (.flat (.int .i64 x_1000)) m')
  | _ => False

def E27 : Env := envOf [(13, G13)]

def Lam27 : LEnv := ⟨fun a σ m k => match firstReg a with
  | _ => bump False,
  fun id => match id with
  | _ => bump false,
  fun b => match keyC b with
  | _ => bump false,
  fun b σ m k => match keyC b with
  | _ => bump False⟩

theorem eqn27 (x_0 : Int) (m : Mem) (k : KV) : bodyK Try.prog E27 Lam27 Try.f27 true [(.flat (.int .i64 x_0))] m k = F27 x_0 m (fun x_1000 m' => k (.flat (.int .i64 x_1000)) m') := by
  kernel_rfl

theorem fs27 (w0 : World) : FS Try.prog w0 27 G27 := by
  refine (fs_body (Γ := E27) (sound_env (l := [(13, G13)]) w0 (by
    intro p hp
    simp only [List.mem_cons, List.not_mem_nil, or_false] at hp
    rcases hp with rfl
    · exact fs13 w0)) (by kernel_rfl) Try.func27 (Λ := Lam27) (c := (bodyOf Try.f27)) (by kernel_rfl) Try.call27 (by kernel_rfl) (LS_of (bodyOf Try.f27) 0 (by kernel_rfl) (fun i hi => absurd hi (Nat.not_lt_zero i)) 0 (by kernel_rfl) (fun i hi => absurd hi (Nat.not_lt_zero i))) true (np := 1) (Nat.le_of_ble_eq_true (by kernel_rfl))).imp fun args => ?_
  by_cases hl : args.length = 1
  rotate_left
  · exact .inr fun m k hk => by
      unfold G27 at hk
      split at hk
      · exact hl rfl
      · exact hk
  obtain ⟨a0, rfl⟩ : ∃ a0, args = [a0] := len_list1 hl
  rcases kI_or .i64 a0 with ⟨x_0, rfl⟩ | h
  rotate_left
  · exact .inr fun m k hk => h _ (by simpa only [G27, kI, kbool, kS, kptr, kaggN, kite, decide_true, eq_self] using hk)
  exact .inl fun m k => propext ⟨fun h => ⟨rfl, by rw [eqn27]; simpa only [G27, kI, kbool, kS, kptr, kaggN, kite, decide_true, eq_self] using h⟩, fun h => by have h := h.2; rw [eqn27] at h; simpa only [G27, kI, kbool, kS, kptr, kaggN, kite, decide_true, eq_self] using h⟩

end Go.Proofs.Ytppikpjmlbaccaa.Am
