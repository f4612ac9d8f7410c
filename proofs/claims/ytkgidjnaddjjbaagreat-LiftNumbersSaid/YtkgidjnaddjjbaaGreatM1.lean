/- What Go functions ask of what follows them, as plain functions over the abstract machine; the machine asks just that. Written by gen.py. -/
import Derived.Test.YtkgidjnaddjjbaaGreatProg
import Derived.Test.YtkgidjnaddjjbaaGreatAmL
import Derived.Test.YtkgidjnaddjjbaaGreatM0
namespace Go.Proofs.YtkgidjnaddjjbaaGreat.Am
set_option linter.unusedVariables false
set_option linter.unusedSimpArgs false
set_option maxRecDepth 100000

def E47 : Env := envOf []

/-- pianola/pianolaref2.New -/
def F47 (x_0 : Int) (m : Mem) (k : Nat → Nat → Mem → Prop) : Prop :=
  mkS [(.flat (.int .u8 0))] 1 5 (IntKind.wrap .i64 ((if 1 > (if 64 < x_0 then 64 else x_0) then 1 else (if 64 < x_0 then 64 else x_0)) * 1024)) (IntKind.wrap .i64 ((if 1 > (if 64 < x_0 then 64 else x_0) then 1 else (if 64 < x_0 then 64 else x_0)) * 1024)) m fun b1 m2 => mkS [(.flat (.bool false))] 1 4 (if 1 > (if 64 < x_0 then 64 else x_0) then 1 else (if 64 < x_0 then 64 else x_0)) (if 1 > (if 64 < x_0 then 64 else x_0) then 1 else (if 64 < x_0 then 64 else x_0)) m2 fun b3 m4 => mkS [(.flat (.bool false))] 1 4 (if 1 > (if 64 < x_0 then 64 else x_0) then 1 else (if 64 < x_0 then 64 else x_0)) (if 1 > (if 64 < x_0 then 64 else x_0) then 1 else (if 64 < x_0 then 64 else x_0)) m4 fun b5 m6 => newK m6 ⟨3, (upd (upd (upd (lget [(.flat (.slice none 0 0)), (.flat (.slice none 0 0)), (.flat (.slice none 0 0))]) 0 (.sl b1 0 ((IntKind.wrap .i64 ((if 1 > (if 64 < x_0 then 64 else x_0) then 1 else (if 64 < x_0 then 64 else x_0)) * 1024)).toNat) (.ex ((IntKind.wrap .i64 ((if 1 > (if 64 < x_0 then 64 else x_0) then 1 else (if 64 < x_0 then 64 else x_0)) * 1024)).toNat)))) 1 (.sl b3 0 ((if 1 > (if 64 < x_0 then 64 else x_0) then 1 else (if 64 < x_0 then 64 else x_0)).toNat) (.ex ((if 1 > (if 64 < x_0 then 64 else x_0) then 1 else (if 64 < x_0 then 64 else x_0)).toNat)))) 2 (.sl b5 0 ((if 1 > (if 64 < x_0 then 64 else x_0) then 1 else (if 64 < x_0 then 64 else x_0)).toNat) (.ex ((if 1 > (if 64 < x_0 then 64 else x_0) then 1 else (if 64 < x_0 then 64 else x_0)).toNat)))), 103, false⟩ fun b8 m7 => k b8 0 m7

def G47 (args : List AV) (m : Mem) (k : KV) : Prop := match args with
  | [a0] => kI .i64 a0 fun x_0 => F47 x_0 m (fun b_1000 o_1000 m' => k (.ptr b_1000 o_1000) m')
  | _ => False

def Lam47 : LEnv := ⟨fun a σ m k => match firstReg a with
  | _ => bump False,
  fun id => match id with
  | _ => bump false,
  fun b => match keyC b with
  | _ => bump false,
  fun b σ m k => match keyC b with
  | _ => bump False⟩

theorem eqn47 (x_0 : Int) (m : Mem) (k : KV) : bodyK Tryz.prog E47 Lam47 Tryz.f47 false [(.flat (.int .i64 x_0))] m k = F47 x_0 m (fun b_1000 o_1000 m' => k (.ptr b_1000 o_1000) m') := by
  kernel_rfl

theorem fs47 (w0 : World) : FS Tryz.prog w0 47 G47 := by
  refine (fs_body (Γ := E47) (sound_env (l := []) w0 (by
    intro p hp
    cases hp)) (by kernel_rfl) Tryz.func47 (Λ := Lam47) (c := (bodyOf Tryz.f47)) (by kernel_rfl) Tryz.call47 (by kernel_rfl) (LS_of (bodyOf Tryz.f47) 0 (by kernel_rfl) (fun i hi => absurd hi (Nat.not_lt_zero i)) 0 (by kernel_rfl) (fun i hi => absurd hi (Nat.not_lt_zero i))) false (np := 1) (Nat.le_of_ble_eq_true (by kernel_rfl))).imp fun args => ?_
  by_cases hl : args.length = 1
  rotate_left
  · exact .inr fun m k hk => by
      unfold G47 at hk
      split at hk
      · exact hl rfl
      · exact hk
  obtain ⟨a0, rfl⟩ : ∃ a0, args = [a0] := len_list1 hl
  rcases kI_or .i64 a0 with ⟨x_0, rfl⟩ | h
  rotate_left
  · exact .inr fun m k hk => h _ (by simpa only [G47, kI, kbool, kS, kptr, kaggN, kite, decide_true, eq_self] using hk)
  exact .inl fun m k => propext ⟨fun h => ⟨rfl, by rw [eqn47]; simpa only [G47, kI, kbool, kS, kptr, kaggN, kite, decide_true, eq_self] using h⟩, fun h => by have h := h.2; rw [eqn47] at h; simpa only [G47, kI, kbool, kS, kptr, kaggN, kite, decide_true, eq_self] using h⟩

def E24 : Env := envOf [(47, G47)]

/-- pianola/pianolaref15.New -/
def F24 (x_0 : Int) (v_1 : AV) (v_2 : AV) (m : Mem) (k : Nat → Nat → Mem → Prop) : Prop :=
  F47 x_0 m fun b1 o2 m3 => newK m3 ⟨25, (upd (Z25) 0 (.ptr b1 o2)), 100, false⟩ fun b5 m4 => ldA m4 b5 0 fun v6 => kptr v6 fun b7 o8 => ldA m4 b7 (o8 + 0) fun v9 => copS 1 v9 v_1 m4 fun v10 m11 => klen v_2 fun x12 => mkS [(.flat (.int .u8 0))] 1 5 (IntKind.wrap .i64 ((if 64 < (IntKind.wrap .i64 ((IntKind.wrap .i64 ((IntKind.wrap .i64 (x12 + 64)) - 1)).tdiv 64)) then 64 else (IntKind.wrap .i64 ((IntKind.wrap .i64 ((IntKind.wrap .i64 (x12 + 64)) - 1)).tdiv 64))) * 64)) (IntKind.wrap .i64 ((if 64 < (IntKind.wrap .i64 ((IntKind.wrap .i64 ((IntKind.wrap .i64 (x12 + 64)) - 1)).tdiv 64)) then 64 else (IntKind.wrap .i64 ((IntKind.wrap .i64 ((IntKind.wrap .i64 (x12 + 64)) - 1)).tdiv 64))) * 64)) m11 fun b13 m14 => stC m14 b5 22 (.sl b13 0 ((IntKind.wrap .i64 ((if 64 < (IntKind.wrap .i64 ((IntKind.wrap .i64 ((IntKind.wrap .i64 (x12 + 64)) - 1)).tdiv 64)) then 64 else (IntKind.wrap .i64 ((IntKind.wrap .i64 ((IntKind.wrap .i64 (x12 + 64)) - 1)).tdiv 64))) * 64)).toNat) (.ex ((IntKind.wrap .i64 ((if 64 < (IntKind.wrap .i64 ((IntKind.wrap .i64 ((IntKind.wrap .i64 (x12 + 64)) - 1)).tdiv 64)) then 64 else (IntKind.wrap .i64 ((IntKind.wrap .i64 ((IntKind.wrap .i64 (x12 + 64)) - 1)).tdiv 64))) * 64)).toNat))) fun m15 => ldA m15 b5 22 fun v16 => copS 1 v16 v_2 m15 fun v17 m18 => k b5 0 m18

def G24 (args : List AV) (m : Mem) (k : KV) : Prop := match args with
  | [a0, a1, a2] => kI .i64 a0 fun x_0 => F24 x_0 a1 a2 m (fun b_1000 o_1000 m' => k (.ptr b_1000 o_1000) m')
  | _ => False

def Lam24 : LEnv := ⟨fun a σ m k => match firstReg a with
  | _ => bump False,
  fun id => match id with
  | _ => bump false,
  fun b => match keyC b with
  | _ => bump false,
  fun b σ m k => match keyC b with
  | _ => bump False⟩

theorem eqn24 (x_0 : Int) (v_1 : AV) (v_2 : AV) (m : Mem) (k : KV) : bodyK Tryz.prog E24 Lam24 Tryz.f24 false [(.flat (.int .i64 x_0)), v_1, v_2] m k = F24 x_0 v_1 v_2 m (fun b_1000 o_1000 m' => k (.ptr b_1000 o_1000) m') := by
  kernel_rfl

theorem fs24 (w0 : World) : FS Tryz.prog w0 24 G24 := by
  refine (fs_body (Γ := E24) (sound_env (l := [(47, G47)]) w0 (by
    intro p hp
    simp only [List.mem_cons, List.not_mem_nil, or_false] at hp
    rcases hp with rfl
    · exact fs47 w0)) (by kernel_rfl) Tryz.func24 (Λ := Lam24) (c := (bodyOf Tryz.f24)) (by kernel_rfl) Tryz.call24 (by kernel_rfl) (LS_of (bodyOf Tryz.f24) 0 (by kernel_rfl) (fun i hi => absurd hi (Nat.not_lt_zero i)) 0 (by kernel_rfl) (fun i hi => absurd hi (Nat.not_lt_zero i))) false (np := 3) (Nat.le_of_ble_eq_true (by kernel_rfl))).imp fun args => ?_
  by_cases hl : args.length = 3
  rotate_left
  · exact .inr fun m k hk => by
      unfold G24 at hk
      split at hk
      · exact hl rfl
      · exact hk
  obtain ⟨a0, a1, a2, rfl⟩ : ∃ a0 a1 a2, args = [a0, a1, a2] := len_list3 hl
  rcases kI_or .i64 a0 with ⟨x_0, rfl⟩ | h
  rotate_left
  · exact .inr fun m k hk => h _ (by simpa only [G24, kI, kbool, kS, kptr, kaggN, kite, decide_true, eq_self] using hk)
  exact .inl fun m k => propext ⟨fun h => ⟨rfl, by rw [eqn24]; simpa only [G24, kI, kbool, kS, kptr, kaggN, kite, decide_true, eq_self] using h⟩, fun h => by have h := h.2; rw [eqn24] at h; simpa only [G24, kI, kbool, kS, kptr, kaggN, kite, decide_true, eq_self] using h⟩

def E11 : Env := envOf [(23, G23), (24, G24)]

/-- pianola/pianolaref17.New -/
def F11 (x_0 : Int) (v_1 : AV) (v_2 : AV) (m : Mem) (k : Nat → Nat → Mem → Prop) : Prop :=
  F23  m fun c1 m2 => F24 x_0 v_1 v_2 m2 fun b3 o4 m5 => newK m5 ⟨74, (upd (splice (Z74) 0 73 c1) 73 (.ptr b3 o4)), 45, false⟩ fun b7 m6 => k b7 0 m6

def G11 (args : List AV) (m : Mem) (k : KV) : Prop := match args with
  | [a0, a1, a2] => kI .i64 a0 fun x_0 => F11 x_0 a1 a2 m (fun b_1000 o_1000 m' => k (.ptr b_1000 o_1000) m')
  | _ => False

def Lam11 : LEnv := ⟨fun a σ m k => match firstReg a with
  | _ => bump False,
  fun id => match id with
  | _ => bump false,
  fun b => match keyC b with
  | _ => bump false,
  fun b σ m k => match keyC b with
  | _ => bump False⟩

theorem eqn11 (x_0 : Int) (v_1 : AV) (v_2 : AV) (m : Mem) (k : KV) : bodyK Tryz.prog E11 Lam11 Tryz.f11 false [(.flat (.int .i64 x_0)), v_1, v_2] m k = F11 x_0 v_1 v_2 m (fun b_1000 o_1000 m' => k (.ptr b_1000 o_1000) m') := by
  kernel_rfl

theorem fs11 (w0 : World) : FS Tryz.prog w0 11 G11 := by
  refine (fs_body (Γ := E11) (sound_env (l := [(23, G23), (24, G24)]) w0 (by
    intro p hp
    simp only [List.mem_cons, List.not_mem_nil, or_false] at hp
    rcases hp with rfl | rfl
    · exact fs23 w0
    · exact fs24 w0)) (by kernel_rfl) Tryz.func11 (Λ := Lam11) (c := (bodyOf Tryz.f11)) (by kernel_rfl) Tryz.call11 (by kernel_rfl) (LS_of (bodyOf Tryz.f11) 0 (by kernel_rfl) (fun i hi => absurd hi (Nat.not_lt_zero i)) 0 (by kernel_rfl) (fun i hi => absurd hi (Nat.not_lt_zero i))) false (np := 3) (Nat.le_of_ble_eq_true (by kernel_rfl))).imp fun args => ?_
  by_cases hl : args.length = 3
  rotate_left
  · exact .inr fun m k hk => by
      unfold G11 at hk
      split at hk
      · exact hl rfl
      · exact hk
  obtain ⟨a0, a1, a2, rfl⟩ : ∃ a0 a1 a2, args = [a0, a1, a2] := len_list3 hl
  rcases kI_or .i64 a0 with ⟨x_0, rfl⟩ | h
  rotate_left
  · exact .inr fun m k hk => h _ (by simpa only [G11, kI, kbool, kS, kptr, kaggN, kite, decide_true, eq_self] using hk)
  exact .inl fun m k => propext ⟨fun h => ⟨rfl, by rw [eqn11]; simpa only [G11, kI, kbool, kS, kptr, kaggN, kite, decide_true, eq_self] using h⟩, fun h => by have h := h.2; rw [eqn11] at h; simpa only [G11, kI, kbool, kS, kptr, kaggN, kite, decide_true, eq_self] using h⟩

def E25 : Env := envOf []

/-- pianola/pianolaref18.Right -/
def F25 (c_0 : Nat → AV) (m : Mem) (k : Bool → Mem → Prop) : Prop :=
  newK m ⟨5, c_0, 66, false⟩ fun b2 m1 => ldI .i64 m1 b2 0 fun x3 => kif (decide (x3 ≥ 0)) (ldI .i64 m1 b2 0 fun x4 => kif (decide (x4 ≤ 22)) (ldI .i64 m1 b2 1 fun x5 => kif (decide (x5 ≥ 0)) (ldI .i64 m1 b2 1 fun x6 => kif (decide (x6 < 40)) (ldI .i64 m1 b2 2 fun x7 => kif (decide (x7 ≥ 0)) (ldI .i64 m1 b2 2 fun x8 => kif (decide (x8 < 40)) (ldI .i64 m1 b2 3 fun x9 => kif (decide (x9 ≥ 0)) (ldI .i64 m1 b2 3 fun x10 => (Keeps m m1 ∧ k (decide (x10 < 40)) m)) ((Keeps m m1 ∧ k false m))) ((Keeps m m1 ∧ k false m))) ((Keeps m m1 ∧ k false m))) ((Keeps m m1 ∧ k false m))) ((Keeps m m1 ∧ k false m))) ((Keeps m m1 ∧ k false m))) ((Keeps m m1 ∧ k false m))

def G25 (args : List AV) (m : Mem) (k : KV) : Prop := match args with
  | [a0] => kaggN 5 a0 fun c_0 => F25 c_0 m (fun x_1000 m' => k (.flat (.bool x_1000)) m')
  | _ => False

def Lam25 : LEnv := ⟨fun a σ m k => match firstReg a with
  | _ => bump False,
  fun id => match id with
  | _ => bump false,
  fun b => match keyC b with
  | _ => bump false,
  fun b σ m k => match keyC b with
  | _ => bump False⟩

theorem eqn25 (c_0 : Nat → AV) (m : Mem) (k : KV) : bodyK Tryz.prog E25 Lam25 Tryz.f25 true [(.agg 5 c_0)] m k = F25 c_0 m (fun x_1000 m' => k (.flat (.bool x_1000)) m') := by
  kernel_rfl

theorem fs25 (w0 : World) : FS Tryz.prog w0 25 G25 := by
  refine (fs_body (Γ := E25) (sound_env (l := []) w0 (by
    intro p hp
    cases hp)) (by kernel_rfl) Tryz.func25 (Λ := Lam25) (c := (bodyOf Tryz.f25)) (by kernel_rfl) Tryz.call25 (by kernel_rfl) (LS_of (bodyOf Tryz.f25) 0 (by kernel_rfl) (fun i hi => absurd hi (Nat.not_lt_zero i)) 0 (by kernel_rfl) (fun i hi => absurd hi (Nat.not_lt_zero i))) true (np := 1) (Nat.le_of_ble_eq_true (by kernel_rfl))).imp fun args => ?_
  by_cases hl : args.length = 1
  rotate_left
  · exact .inr fun m k hk => by
      unfold G25 at hk
      split at hk
      · exact hl rfl
      · exact hk
  obtain ⟨a0, rfl⟩ : ∃ a0, args = [a0] := len_list1 hl
  rcases kaggN_or 5 a0 with ⟨c_0, rfl⟩ | h
  rotate_left
  · exact .inr fun m k hk => h _ (by simpa only [G25, kI, kbool, kS, kptr, kaggN, kite, decide_true, eq_self] using hk)
  exact .inl fun m k => propext ⟨fun h => ⟨rfl, by rw [eqn25]; simpa only [G25, kI, kbool, kS, kptr, kaggN, kite, decide_true, eq_self] using h⟩, fun h => by have h := h.2; rw [eqn25] at h; simpa only [G25, kI, kbool, kS, kptr, kaggN, kite, decide_true, eq_self] using h⟩

def E48 : Env := envOf []

def R48_2  (x_0 : Int) (x_5 : Int) (m : Mem) (kn : Int → Int → Mem → Prop) (k0 : Int → Mem → Prop) : Prop :=
  kif (decide (x_5 > 0)) (kn (bits .or .u32 (x_0.fdiv 2) (bits .and .u32 x_0 2147483648)) (IntKind.wrap .u64 (x_5 - 1)) m) (k0 x_0 m)

def L48_2  : Nat → Int → Int → Mem → (Int → Mem → Prop) → Prop
  | 0, _, _,  _, _ => bump False
  | N + 1, x_0, x_5,  m, k0 => R48_2  x_0 x_5 m (fun x_0' x_5' m' => L48_2  N x_0' x_5' m' k0) k0

/-- pianola/pianolaref1.Sar -/
def F48 (x_0 : Int) (x_1 : Int) (m : Mem) (k : Int → Mem → Prop) : Prop :=
  ∃ N3, L48_2  N3 x_0 (IntKind.wrap .u64 ((IntKind.wrap .i64 ((x_1.tmod 32) + 32)).tmod 32)) m (fun x1 m2 => (Keeps m m2 ∧ k x1 m))

def G48 (args : List AV) (m : Mem) (k : KV) : Prop := match args with
  | [a0, a1] => kI .u32 a0 fun x_0 => kI .i64 a1 fun x_1 => F48 x_0 x_1 m (fun x_1000 m' => k (.flat (.int .u32 x_1000)) m')
  | _ => False

def Lam48_2 (σ : Nat → AV) (m : Mem) (k : KX) : Prop := kI .u32 (σ 0) fun x_0 => kI .u64 (σ 5) fun x_5 => ∃ N, L48_2  N x_0 x_5 m (fun x_0' m' => k (.exit 0) (only [0] [(.flat (.int .u32 x_0'))]) m')

def Lam48 : LEnv := ⟨fun a σ m k => match firstReg a with
  | some 2 => Lam48_2 σ m k
  | _ => bump False,
  fun id => match id with
  | _ => bump false,
  fun b => match keyC b with
  | _ => bump false,
  fun b σ m k => match keyC b with
  | _ => bump False⟩

def lx48_2 : Ex → List Nat := fun e => match e with
  | .exit 0 => [0]
  | _ => []

theorem round48_2  (x_0 : Int) (x_5 : Int) (m : Mem) (G : List AV → Mem → Prop) (k : KX) : (wpA Tryz.prog E48 Lam48 ((loopsOf (bodyOf Tryz.f48)).getD 0 .skip) (only [0, 5] [(.flat (.int .u32 x_0)), (.flat (.int .u64 x_5))]) m fun e σ' m' => match e with
    | .normal => G ([0, 5].map σ') m'
    | .exit id => k (.exit id) (only (lx48_2 (.exit id)) ((lx48_2 (.exit id)).map σ')) m'
    | .ret => k .ret (only (lx48_2 .ret) ((lx48_2 .ret).map σ')) m') = R48_2  x_0 x_5 m (fun x_0' x_5' m' => G [(.flat (.int .u32 x_0')), (.flat (.int .u64 x_5'))] m') (fun x_0' m' => k (.exit 0) (only [0] [(.flat (.int .u32 x_0'))]) m') := by
  kernel_rfl

theorem loop48_2  (k : KX) : ∀ (N : Nat) (x_0 : Int) (x_5 : Int) (m : Mem), rounds Tryz.prog E48 Lam48 [0, 5] lx48_2 ((loopsOf (bodyOf Tryz.f48)).getD 0 .skip) N [(.flat (.int .u32 x_0)), (.flat (.int .u64 x_5))] m k = L48_2  N x_0 x_5 m (fun x_0' m' => k (.exit 0) (only [0] [(.flat (.int .u32 x_0'))]) m') := by
  intro N
  induction N with
  | zero => intros; rfl
  | succ N ih =>
    intro x_0 x_5 m
    refine (round48_2  x_0 x_5 m (fun vs m' => rounds Tryz.prog E48 Lam48 [0, 5] lx48_2 ((loopsOf (bodyOf Tryz.f48)).getD 0 .skip) N vs m' k) k).trans ?_
    simp only [ih]
    rfl

theorem lok48_2 : LoopOK Tryz.prog E48 Lam48 ((loopsOf (bodyOf Tryz.f48)).getD 0 .skip) := by
  refine ⟨fun σ => ∃ x_0 x_5, σ 0 = .flat (.int .u32 x_0) ∧ σ 5 = .flat (.int .u64 x_5), [0, 5], lx48_2, fun σ m k => ?_⟩
  have e : Lam48.loop ((loopsOf (bodyOf Tryz.f48)).getD 0 .skip) σ m k = Lam48_2 σ m k := by kernel_rfl
  rw [e]
  constructor
  · intro h
    unfold Lam48_2 at h
    obtain ⟨x_0, h0, h⟩ := kI_ok h
    obtain ⟨x_5, h1, h⟩ := kI_ok h
    obtain ⟨N, h⟩ := h
    refine ⟨⟨x_0, x_5, h0, h1⟩, N, ?_⟩
    have ev : [0, 5].map σ = [(.flat (.int .u32 x_0)), (.flat (.int .u64 x_5))] := by simp only [List.map_cons, List.map_nil, h0, h1]
    rw [ev, loop48_2]
    exact h
  · rintro ⟨⟨x_0, x_5, h0, h1⟩, N, h⟩
    have ev : [0, 5].map σ = [(.flat (.int .u32 x_0)), (.flat (.int .u64 x_5))] := by simp only [List.map_cons, List.map_nil, h0, h1]
    rw [ev, loop48_2] at h
    unfold Lam48_2
    try simp only [h0, h1, kI, kbool, kS, kptr, kaggN, kite, decide_true, eq_self]
    exact ⟨N, h⟩

theorem eqn48 (x_0 : Int) (x_1 : Int) (m : Mem) (k : KV) : bodyK Tryz.prog E48 Lam48 Tryz.f48 true [(.flat (.int .u32 x_0)), (.flat (.int .i64 x_1))] m k = F48 x_0 x_1 m (fun x_1000 m' => k (.flat (.int .u32 x_1000)) m') := by
  kernel_rfl

theorem fs48 (w0 : World) : FS Tryz.prog w0 48 G48 := by
  refine (fs_body (Γ := E48) (sound_env (l := []) w0 (by
    intro p hp
    cases hp)) (by kernel_rfl) Tryz.func48 (Λ := Lam48) (c := (bodyOf Tryz.f48)) (by kernel_rfl) Tryz.call48 (by kernel_rfl) (LS_of (bodyOf Tryz.f48) 1 (by kernel_rfl) (by
    intro i hi
    match i, hi with
    | 0, _ => exact lok48_2
    | i + 1, hi => omega) 0 (by kernel_rfl) (fun i hi => absurd hi (Nat.not_lt_zero i))) true (np := 2) (Nat.le_of_ble_eq_true (by kernel_rfl))).imp fun args => ?_
  by_cases hl : args.length = 2
  rotate_left
  · exact .inr fun m k hk => by
      unfold G48 at hk
      split at hk
      · exact hl rfl
      · exact hk
  obtain ⟨a0, a1, rfl⟩ : ∃ a0 a1, args = [a0, a1] := len_list2 hl
  rcases kI_or .u32 a0 with ⟨x_0, rfl⟩ | h
  rotate_left
  · exact .inr fun m k hk => h _ (by simpa only [G48, kI, kbool, kS, kptr, kaggN, kite, decide_true, eq_self] using hk)
  rcases kI_or .i64 a1 with ⟨x_1, rfl⟩ | h
  rotate_left
  · exact .inr fun m k hk => h _ (by simpa only [G48, kI, kbool, kS, kptr, kaggN, kite, decide_true, eq_self] using hk)
  exact .inl fun m k => propext ⟨fun h => ⟨rfl, by rw [eqn48]; simpa only [G48, kI, kbool, kS, kptr, kaggN, kite, decide_true, eq_self] using h⟩, fun h => by have h := h.2; rw [eqn48] at h; simpa only [G48, kI, kbool, kS, kptr, kaggN, kite, decide_true, eq_self] using h⟩

def E49 : Env := envOf []

/-- pianola/pianolaref18.bit -/
def F49 (x_0 : Bool) (m : Mem) (k : Int → Mem → Prop) : Prop :=
  kif x_0 ((Keeps m m ∧ k 1 m)) ((Keeps m m ∧ k 0 m))

def G49 (args : List AV) (m : Mem) (k : KV) : Prop := match args with
  | [a0] => kbool a0 fun x_0 => F49 x_0 m (fun x_1000 m' => k (.flat (.int .u32 x_1000)) m')
  | _ => False

def Lam49 : LEnv := ⟨fun a σ m k => match firstReg a with
  | _ => bump False,
  fun id => match id with
  | _ => bump false,
  fun b => match keyC b with
  | _ => bump false,
  fun b σ m k => match keyC b with
  | _ => bump False⟩

theorem eqn49 (x_0 : Bool) (m : Mem) (k : KV) : bodyK Tryz.prog E49 Lam49 Tryz.f49 true [(.flat (.bool x_0))] m k = F49 x_0 m (fun x_1000 m' => k (.flat (.int .u32 x_1000)) m') := by
  kernel_rfl

theorem fs49 (w0 : World) : FS Tryz.prog w0 49 G49 := by
  refine (fs_body (Γ := E49) (sound_env (l := []) w0 (by
    intro p hp
    cases hp)) (by kernel_rfl) Tryz.func49 (Λ := Lam49) (c := (bodyOf Tryz.f49)) (by kernel_rfl) Tryz.call49 (by kernel_rfl) (LS_of (bodyOf Tryz.f49) 0 (by kernel_rfl) (fun i hi => absurd hi (Nat.not_lt_zero i)) 0 (by kernel_rfl) (fun i hi => absurd hi (Nat.not_lt_zero i))) true (np := 1) (Nat.le_of_ble_eq_true (by kernel_rfl))).imp fun args => ?_
  by_cases hl : args.length = 1
  rotate_left
  · exact .inr fun m k hk => by
      unfold G49 at hk
      split at hk
      · exact hl rfl
      · exact hk
  obtain ⟨a0, rfl⟩ : ∃ a0, args = [a0] := len_list1 hl
  rcases kbool_or a0 with ⟨x_0, rfl⟩ | h
  rotate_left
  · exact .inr fun m k hk => h _ (by simpa only [G49, kI, kbool, kS, kptr, kaggN, kite, decide_true, eq_self] using hk)
  exact .inl fun m k => propext ⟨fun h => ⟨rfl, by rw [eqn49]; simpa only [G49, kI, kbool, kS, kptr, kaggN, kite, decide_true, eq_self] using h⟩, fun h => by have h := h.2; rw [eqn49] at h; simpa only [G49, kI, kbool, kS, kptr, kaggN, kite, decide_true, eq_self] using h⟩

def E88 : Env := envOf []

/-- pianola/pianolaref1.wide -/
def F88 (x_0 : Int) (x_1 : Bool) (m : Mem) (k : Int → Mem → Prop) : Prop :=
  kif x_1 (kif (decide (x_0 ≥ 2147483648)) ((Keeps m m ∧ k (IntKind.wrap .i64 ((IntKind.wrap .i64 x_0) - 4294967296)) m)) ((Keeps m m ∧ k (IntKind.wrap .i64 x_0) m))) ((Keeps m m ∧ k (IntKind.wrap .i64 x_0) m))

def G88 (args : List AV) (m : Mem) (k : KV) : Prop := match args with
  | [a0, a1] => kI .u32 a0 fun x_0 => kbool a1 fun x_1 => F88 x_0 x_1 m (fun x_1000 m' => k (.flat (.int .i64 x_1000)) m')
  | _ => False

def Lam88 : LEnv := ⟨fun a σ m k => match firstReg a with
  | _ => bump False,
  fun id => match id with
  | _ => bump false,
  fun b => match keyC b with
  | _ => bump false,
  fun b σ m k => match keyC b with
  | _ => bump False⟩

theorem eqn88 (x_0 : Int) (x_1 : Bool) (m : Mem) (k : KV) : bodyK Tryz.prog E88 Lam88 Tryz.f88 true [(.flat (.int .u32 x_0)), (.flat (.bool x_1))] m k = F88 x_0 x_1 m (fun x_1000 m' => k (.flat (.int .i64 x_1000)) m') := by
  kernel_rfl

theorem fs88 (w0 : World) : FS Tryz.prog w0 88 G88 := by
  refine (fs_body (Γ := E88) (sound_env (l := []) w0 (by
    intro p hp
    cases hp)) (by kernel_rfl) Tryz.func88 (Λ := Lam88) (c := (bodyOf Tryz.f88)) (by kernel_rfl) Tryz.call88 (by kernel_rfl) (LS_of (bodyOf Tryz.f88) 0 (by kernel_rfl) (fun i hi => absurd hi (Nat.not_lt_zero i)) 0 (by kernel_rfl) (fun i hi => absurd hi (Nat.not_lt_zero i))) true (np := 2) (Nat.le_of_ble_eq_true (by kernel_rfl))).imp fun args => ?_
  by_cases hl : args.length = 2
  rotate_left
  · exact .inr fun m k hk => by
      unfold G88 at hk
      split at hk
      · exact hl rfl
      · exact hk
  obtain ⟨a0, a1, rfl⟩ : ∃ a0 a1, args = [a0, a1] := len_list2 hl
  rcases kI_or .u32 a0 with ⟨x_0, rfl⟩ | h
  rotate_left
  · exact .inr fun m k hk => h _ (by simpa only [G88, kI, kbool, kS, kptr, kaggN, kite, decide_true, eq_self] using hk)
  rcases kbool_or a1 with ⟨x_1, rfl⟩ | h
  rotate_left
  · exact .inr fun m k hk => h _ (by simpa only [G88, kI, kbool, kS, kptr, kaggN, kite, decide_true, eq_self] using hk)
  exact .inl fun m k => propext ⟨fun h => ⟨rfl, by rw [eqn88]; simpa only [G88, kI, kbool, kS, kptr, kaggN, kite, decide_true, eq_self] using h⟩, fun h => by have h := h.2; rw [eqn88] at h; simpa only [G88, kI, kbool, kS, kptr, kaggN, kite, decide_true, eq_self] using h⟩

def E50 : Env := envOf [(88, G88)]

/-- pianola/pianolaref1.Less -/
def F50 (x_0 : Int) (x_1 : Int) (x_2 : Bool) (m : Mem) (k : Bool → Mem → Prop) : Prop :=
  F88 x_0 x_2 m fun x1 m2 => F88 x_1 x_2 m2 fun x3 m4 => (Keeps m m4 ∧ k (decide (x1 < x3)) m)

def G50 (args : List AV) (m : Mem) (k : KV) : Prop := match args with
  | [a0, a1, a2] => kI .u32 a0 fun x_0 => kI .u32 a1 fun x_1 => kbool a2 fun x_2 => F50 x_0 x_1 x_2 m (fun x_1000 m' => k (.flat (.bool x_1000)) m')
  | _ => False

def Lam50 : LEnv := ⟨fun a σ m k => match firstReg a with
  | _ => bump False,
  fun id => match id with
  | _ => bump false,
  fun b => match keyC b with
  | _ => bump false,
  fun b σ m k => match keyC b with
  | _ => bump False⟩

theorem eqn50 (x_0 : Int) (x_1 : Int) (x_2 : Bool) (m : Mem) (k : KV) : bodyK Tryz.prog E50 Lam50 Tryz.f50 true [(.flat (.int .u32 x_0)), (.flat (.int .u32 x_1)), (.flat (.bool x_2))] m k = F50 x_0 x_1 x_2 m (fun x_1000 m' => k (.flat (.bool x_1000)) m') := by
  kernel_rfl

theorem fs50 (w0 : World) : FS Tryz.prog w0 50 G50 := by
  refine (fs_body (Γ := E50) (sound_env (l := [(88, G88)]) w0 (by
    intro p hp
    simp only [List.mem_cons, List.not_mem_nil, or_false] at hp
    rcases hp with rfl
    · exact fs88 w0)) (by kernel_rfl) Tryz.func50 (Λ := Lam50) (c := (bodyOf Tryz.f50)) (by kernel_rfl) Tryz.call50 (by kernel_rfl) (LS_of (bodyOf Tryz.f50) 0 (by kernel_rfl) (fun i hi => absurd hi (Nat.not_lt_zero i)) 0 (by kernel_rfl) (fun i hi => absurd hi (Nat.not_lt_zero i))) true (np := 3) (Nat.le_of_ble_eq_true (by kernel_rfl))).imp fun args => ?_
  by_cases hl : args.length = 3
  rotate_left
  · exact .inr fun m k hk => by
      unfold G50 at hk
      split at hk
      · exact hl rfl
      · exact hk
  obtain ⟨a0, a1, a2, rfl⟩ : ∃ a0 a1 a2, args = [a0, a1, a2] := len_list3 hl
  rcases kI_or .u32 a0 with ⟨x_0, rfl⟩ | h
  rotate_left
  · exact .inr fun m k hk => h _ (by simpa only [G50, kI, kbool, kS, kptr, kaggN, kite, decide_true, eq_self] using hk)
  rcases kI_or .u32 a1 with ⟨x_1, rfl⟩ | h
  rotate_left
  · exact .inr fun m k hk => h _ (by simpa only [G50, kI, kbool, kS, kptr, kaggN, kite, decide_true, eq_self] using hk)
  rcases kbool_or a2 with ⟨x_2, rfl⟩ | h
  rotate_left
  · exact .inr fun m k hk => h _ (by simpa only [G50, kI, kbool, kS, kptr, kaggN, kite, decide_true, eq_self] using hk)
  exact .inl fun m k => propext ⟨fun h => ⟨rfl, by rw [eqn50]; simpa only [G50, kI, kbool, kS, kptr, kaggN, kite, decide_true, eq_self] using h⟩, fun h => by have h := h.2; rw [eqn50] at h; simpa only [G50, kI, kbool, kS, kptr, kaggN, kite, decide_true, eq_self] using h⟩

def E51 : Env := envOf []

def P51_7102 (x_8 : Int) (x_9 : Int) (m : Mem) (kr : Int → Int → Mem → Prop) : Prop :=
  kr x_9 (IntKind.wrap .u32 x_8) m

def P51_5103 (x_0 : Int) (x_1 : Int) (x_2 : Bool) (x_8 : Int) (x_9 : Int) (m : Mem) (kr : Int → Int → Mem → Prop) : Prop :=
  kif x_2 (kif (decide (x_1 ≥ 2147483648)) (P51_7102 x_8 (IntKind.wrap .u32 (x_9 - x_0)) m (fun x1 x2 m3 => kr x1 x2 m3)) (P51_7102 x_8 x_9 m (fun x4 x5 m6 => kr x4 x5 m6))) (P51_7102 x_8 x_9 m (fun x7 x8 m9 => kr x7 x8 m9))

/-- pianola/pianolaref1.Mul -/
def F51 (x_0 : Int) (x_1 : Int) (x_2 : Bool) (m : Mem) (k : Int → Int → Mem → Prop) : Prop :=
  kif x_2 (kif (decide (x_0 ≥ 2147483648)) (P51_5103 x_0 x_1 x_2 (IntKind.wrap .u64 ((IntKind.wrap .u64 x_0) * (IntKind.wrap .u64 x_1))) (IntKind.wrap .u32 ((IntKind.wrap .u32 ((IntKind.wrap .u64 ((IntKind.wrap .u64 x_0) * (IntKind.wrap .u64 x_1))).fdiv 4294967296)) - x_1)) m (fun x10 x11 m12 => (Keeps m m12 ∧ k x10 x11 m))) (P51_5103 x_0 x_1 x_2 (IntKind.wrap .u64 ((IntKind.wrap .u64 x_0) * (IntKind.wrap .u64 x_1))) (IntKind.wrap .u32 ((IntKind.wrap .u64 ((IntKind.wrap .u64 x_0) * (IntKind.wrap .u64 x_1))).fdiv 4294967296)) m (fun x13 x14 m15 => (Keeps m m15 ∧ k x13 x14 m)))) (P51_5103 x_0 x_1 x_2 (IntKind.wrap .u64 ((IntKind.wrap .u64 x_0) * (IntKind.wrap .u64 x_1))) (IntKind.wrap .u32 ((IntKind.wrap .u64 ((IntKind.wrap .u64 x_0) * (IntKind.wrap .u64 x_1))).fdiv 4294967296)) m (fun x16 x17 m18 => (Keeps m m18 ∧ k x16 x17 m)))

def G51 (args : List AV) (m : Mem) (k : KV) : Prop := match args with
  | [a0, a1, a2] => kI .u32 a0 fun x_0 => kI .u32 a1 fun x_1 => kbool a2 fun x_2 => F51 x_0 x_1 x_2 m (fun x_1000 x_1001 m' => k (.tup [(.flat (.int .u32 x_1000)), (.flat (.int .u32 x_1001))]) m')
  | _ => False

def LamP51_5103 (σ : Nat → AV) (m : Mem) (k : KX) : Prop := kI .u32 (σ 0) fun x_0 => kI .u32 (σ 1) fun x_1 => kbool (σ 2) fun x_2 => kI .u64 (σ 8) fun x_8 => kI .u32 (σ 9) fun x_9 => P51_5103 x_0 x_1 x_2 x_8 x_9 m (fun x_6' x_7' m' => k .ret (only [6, 7] [(.flat (.int .u32 x_6')), (.flat (.int .u32 x_7'))]) m')

def LamP51_7102 (σ : Nat → AV) (m : Mem) (k : KX) : Prop := kI .u64 (σ 8) fun x_8 => kI .u32 (σ 9) fun x_9 => P51_7102 x_8 x_9 m (fun x_6' x_7' m' => k .ret (only [6, 7] [(.flat (.int .u32 x_6')), (.flat (.int .u32 x_7'))]) m')

def Lam51 : LEnv := ⟨fun a σ m k => match firstReg a with
  | _ => bump False,
  fun id => match id with
  | _ => bump false,
  fun b => match keyC b with
  | some 5103 => true
  | some 7102 => true
  | _ => bump false,
  fun b σ m k => match keyC b with
  | some 5103 => LamP51_5103 σ m k
  | some 7102 => LamP51_7102 σ m k
  | _ => bump False⟩

def lxp51_7102 : Ex → List Nat := fun e => match e with
  | .ret => [6, 7]
  | _ => []

theorem pc51_7102 (x_8 : Int) (x_9 : Int) (m : Mem) (k : KX) : once Tryz.prog E51 Lam51 [8, 9] lxp51_7102 (((secsOf (bodyOf Tryz.f51)).filter Lam51.cut).getD 1 .skip) [(.flat (.int .u64 x_8)), (.flat (.int .u32 x_9))] m k = P51_7102 x_8 x_9 m (fun x_6' x_7' m' => k .ret (only [6, 7] [(.flat (.int .u32 x_6')), (.flat (.int .u32 x_7'))]) m') := by
  kernel_rfl

theorem pok51_7102 : PieceOK Tryz.prog E51 Lam51 (((secsOf (bodyOf Tryz.f51)).filter Lam51.cut).getD 1 .skip) := by
  refine ⟨fun σ => ∃ x_8 x_9, σ 8 = .flat (.int .u64 x_8) ∧ σ 9 = .flat (.int .u32 x_9), [8, 9], lxp51_7102, fun σ m k => ?_⟩
  have e : Lam51.piece (((secsOf (bodyOf Tryz.f51)).filter Lam51.cut).getD 1 .skip) σ m k = LamP51_7102 σ m k := by kernel_rfl
  rw [e]
  constructor
  · intro h
    unfold LamP51_7102 at h
    obtain ⟨x_8, h0, h⟩ := kI_ok h
    obtain ⟨x_9, h1, h⟩ := kI_ok h
    refine ⟨⟨x_8, x_9, h0, h1⟩, ?_⟩
    have ev : [8, 9].map σ = [(.flat (.int .u64 x_8)), (.flat (.int .u32 x_9))] := by simp only [List.map_cons, List.map_nil, h0, h1]
    rw [ev, pc51_7102]
    exact h
  · rintro ⟨⟨x_8, x_9, h0, h1⟩, h⟩
    have ev : [8, 9].map σ = [(.flat (.int .u64 x_8)), (.flat (.int .u32 x_9))] := by simp only [List.map_cons, List.map_nil, h0, h1]
    rw [ev, pc51_7102] at h
    unfold LamP51_7102
    try simp only [h0, h1, kI, kbool, kS, kptr, kaggN, kite, decide_true, eq_self]
    exact h

def lxp51_5103 : Ex → List Nat := fun e => match e with
  | .ret => [6, 7]
  | _ => []

theorem pc51_5103 (x_0 : Int) (x_1 : Int) (x_2 : Bool) (x_8 : Int) (x_9 : Int) (m : Mem) (k : KX) : once Tryz.prog E51 Lam51 [0, 1, 2, 8, 9] lxp51_5103 (((secsOf (bodyOf Tryz.f51)).filter Lam51.cut).getD 0 .skip) [(.flat (.int .u32 x_0)), (.flat (.int .u32 x_1)), (.flat (.bool x_2)), (.flat (.int .u64 x_8)), (.flat (.int .u32 x_9))] m k = P51_5103 x_0 x_1 x_2 x_8 x_9 m (fun x_6' x_7' m' => k .ret (only [6, 7] [(.flat (.int .u32 x_6')), (.flat (.int .u32 x_7'))]) m') := by
  kernel_rfl

theorem pok51_5103 : PieceOK Tryz.prog E51 Lam51 (((secsOf (bodyOf Tryz.f51)).filter Lam51.cut).getD 0 .skip) := by
  refine ⟨fun σ => ∃ x_0 x_1 x_2 x_8 x_9, σ 0 = .flat (.int .u32 x_0) ∧ σ 1 = .flat (.int .u32 x_1) ∧ σ 2 = .flat (.bool x_2) ∧ σ 8 = .flat (.int .u64 x_8) ∧ σ 9 = .flat (.int .u32 x_9), [0, 1, 2, 8, 9], lxp51_5103, fun σ m k => ?_⟩
  have e : Lam51.piece (((secsOf (bodyOf Tryz.f51)).filter Lam51.cut).getD 0 .skip) σ m k = LamP51_5103 σ m k := by kernel_rfl
  rw [e]
  constructor
  · intro h
    unfold LamP51_5103 at h
    obtain ⟨x_0, h0, h⟩ := kI_ok h
    obtain ⟨x_1, h1, h⟩ := kI_ok h
    obtain ⟨x_2, h2, h⟩ := kbool_ok h
    obtain ⟨x_8, h3, h⟩ := kI_ok h
    obtain ⟨x_9, h4, h⟩ := kI_ok h
    refine ⟨⟨x_0, x_1, x_2, x_8, x_9, h0, h1, h2, h3, h4⟩, ?_⟩
    have ev : [0, 1, 2, 8, 9].map σ = [(.flat (.int .u32 x_0)), (.flat (.int .u32 x_1)), (.flat (.bool x_2)), (.flat (.int .u64 x_8)), (.flat (.int .u32 x_9))] := by simp only [List.map_cons, List.map_nil, h0, h1, h2, h3, h4]
    rw [ev, pc51_5103]
    exact h
  · rintro ⟨⟨x_0, x_1, x_2, x_8, x_9, h0, h1, h2, h3, h4⟩, h⟩
    have ev : [0, 1, 2, 8, 9].map σ = [(.flat (.int .u32 x_0)), (.flat (.int .u32 x_1)), (.flat (.bool x_2)), (.flat (.int .u64 x_8)), (.flat (.int .u32 x_9))] := by simp only [List.map_cons, List.map_nil, h0, h1, h2, h3, h4]
    rw [ev, pc51_5103] at h
    unfold LamP51_5103
    try simp only [h0, h1, h2, h3, h4, kI, kbool, kS, kptr, kaggN, kite, decide_true, eq_self]
    exact h

theorem eqn51 (x_0 : Int) (x_1 : Int) (x_2 : Bool) (m : Mem) (k : KV) : bodyK Tryz.prog E51 Lam51 Tryz.f51 true [(.flat (.int .u32 x_0)), (.flat (.int .u32 x_1)), (.flat (.bool x_2))] m k = F51 x_0 x_1 x_2 m (fun x_1000 x_1001 m' => k (.tup [(.flat (.int .u32 x_1000)), (.flat (.int .u32 x_1001))]) m') := by
  kernel_rfl

theorem fs51 (w0 : World) : FS Tryz.prog w0 51 G51 := by
  refine (fs_body (Γ := E51) (sound_env (l := []) w0 (by
    intro p hp
    cases hp)) (by kernel_rfl) Tryz.func51 (Λ := Lam51) (c := (bodyOf Tryz.f51)) (by kernel_rfl) Tryz.call51 (by kernel_rfl) (LS_of (bodyOf Tryz.f51) 0 (by kernel_rfl) (fun i hi => absurd hi (Nat.not_lt_zero i)) 2 (by kernel_rfl) (by
    intro i hi
    match i, hi with
    | 0, _ => exact pok51_5103
    | 1, _ => exact pok51_7102
    | i + 2, hi => omega)) true (np := 3) (Nat.le_of_ble_eq_true (by kernel_rfl))).imp fun args => ?_
  by_cases hl : args.length = 3
  rotate_left
  · exact .inr fun m k hk => by
      unfold G51 at hk
      split at hk
      · exact hl rfl
      · exact hk
  obtain ⟨a0, a1, a2, rfl⟩ : ∃ a0 a1 a2, args = [a0, a1, a2] := len_list3 hl
  rcases kI_or .u32 a0 with ⟨x_0, rfl⟩ | h
  rotate_left
  · exact .inr fun m k hk => h _ (by simpa only [G51, kI, kbool, kS, kptr, kaggN, kite, decide_true, eq_self] using hk)
  rcases kI_or .u32 a1 with ⟨x_1, rfl⟩ | h
  rotate_left
  · exact .inr fun m k hk => h _ (by simpa only [G51, kI, kbool, kS, kptr, kaggN, kite, decide_true, eq_self] using hk)
  rcases kbool_or a2 with ⟨x_2, rfl⟩ | h
  rotate_left
  · exact .inr fun m k hk => h _ (by simpa only [G51, kI, kbool, kS, kptr, kaggN, kite, decide_true, eq_self] using hk)
  exact .inl fun m k => propext ⟨fun h => ⟨rfl, by rw [eqn51]; simpa only [G51, kI, kbool, kS, kptr, kaggN, kite, decide_true, eq_self] using h⟩, fun h => by have h := h.2; rw [eqn51] at h; simpa only [G51, kI, kbool, kS, kptr, kaggN, kite, decide_true, eq_self] using h⟩

def E52 : Env := envOf []

def R52_3 (x_0 : Int) (x_3 : Int) (x_4 : Int) (m : Mem) (kn : Int → Int → Mem → Prop) (k0 : Int → Mem → Prop) (kr : Int → Mem → Prop) : Prop :=
  kif (decide (x_4 ≥ 0)) (kif (decide (IntKind.wrap .u64 x_4 < 0)) False (kif ((bits .and .u32 (x_0.fdiv (2 ^ min (IntKind.wrap .u64 x_4).toNat 32)) 1) == 1) (kr x_3 m) (kn (IntKind.wrap .i64 (x_3 + 1)) (IntKind.wrap .i64 (x_4 - 1)) m))) (k0 x_3 m)

def L52_3 (x_0 : Int) : Nat → Int → Int → Mem → (Int → Mem → Prop) → (Int → Mem → Prop) → Prop
  | 0, _, _,  _, _, _ => bump False
  | N + 1, x_3, x_4,  m, k0, kr => R52_3 x_0 x_3 x_4 m (fun x_3' x_4' m' => L52_3 x_0 N x_3' x_4' m' k0 kr) k0 kr

/-- pianola/pianolaref1.Clz -/
def F52 (x_0 : Int) (m : Mem) (k : Int → Mem → Prop) : Prop :=
  ∃ N5, L52_3 x_0 N5 0 31 m (fun x1 m2 => (Keeps m m2 ∧ k x1 m)) (fun x3 m4 => (Keeps m m4 ∧ k x3 m))

def G52 (args : List AV) (m : Mem) (k : KV) : Prop := match args with
  | [a0] => kI .u32 a0 fun x_0 => F52 x_0 m (fun x_1000 m' => k (.flat (.int .i64 x_1000)) m')
  | _ => False

def Lam52_3 (σ : Nat → AV) (m : Mem) (k : KX) : Prop := kI .u32 (σ 0) fun x_0 => kI .i64 (σ 3) fun x_3 => kI .i64 (σ 4) fun x_4 => ∃ N, L52_3 x_0 N x_3 x_4 m (fun x_3' m' => k (.exit 0) (only [3] [(.flat (.int .i64 x_3'))]) m') (fun x_2' m' => k .ret (only [2] [(.flat (.int .i64 x_2'))]) m')

def Lam52 : LEnv := ⟨fun a σ m k => match firstReg a with
  | some 3 => Lam52_3 σ m k
  | _ => bump False,
  fun id => match id with
  | _ => bump false,
  fun b => match keyC b with
  | _ => bump false,
  fun b σ m k => match keyC b with
  | _ => bump False⟩

def lx52_3 : Ex → List Nat := fun e => match e with
  | .exit 0 => [3]
  | .ret => [2]
  | _ => []

theorem round52_3 (x_0 : Int) (x_3 : Int) (x_4 : Int) (m : Mem) (G : List AV → Mem → Prop) (k : KX) : (wpA Tryz.prog E52 Lam52 ((loopsOf (bodyOf Tryz.f52)).getD 0 .skip) (only [0, 3, 4] [(.flat (.int .u32 x_0)), (.flat (.int .i64 x_3)), (.flat (.int .i64 x_4))]) m fun e σ' m' => match e with
    | .normal => G ([0, 3, 4].map σ') m'
    | .exit id => k (.exit id) (only (lx52_3 (.exit id)) ((lx52_3 (.exit id)).map σ')) m'
    | .ret => k .ret (only (lx52_3 .ret) ((lx52_3 .ret).map σ')) m') = R52_3 x_0 x_3 x_4 m (fun x_3' x_4' m' => G [(.flat (.int .u32 x_0)), (.flat (.int .i64 x_3')), (.flat (.int .i64 x_4'))] m') (fun x_3' m' => k (.exit 0) (only [3] [(.flat (.int .i64 x_3'))]) m') (fun x_2' m' => k .ret (only [2] [(.flat (.int .i64 x_2'))]) m') := by
  kernel_rfl

theorem loop52_3 (x_0 : Int) (k : KX) : ∀ (N : Nat) (x_3 : Int) (x_4 : Int) (m : Mem), rounds Tryz.prog E52 Lam52 [0, 3, 4] lx52_3 ((loopsOf (bodyOf Tryz.f52)).getD 0 .skip) N [(.flat (.int .u32 x_0)), (.flat (.int .i64 x_3)), (.flat (.int .i64 x_4))] m k = L52_3 x_0 N x_3 x_4 m (fun x_3' m' => k (.exit 0) (only [3] [(.flat (.int .i64 x_3'))]) m') (fun x_2' m' => k .ret (only [2] [(.flat (.int .i64 x_2'))]) m') := by
  intro N
  induction N with
  | zero => intros; rfl
  | succ N ih =>
    intro x_3 x_4 m
    refine (round52_3 x_0 x_3 x_4 m (fun vs m' => rounds Tryz.prog E52 Lam52 [0, 3, 4] lx52_3 ((loopsOf (bodyOf Tryz.f52)).getD 0 .skip) N vs m' k) k).trans ?_
    simp only [ih]
    rfl

theorem lok52_3 : LoopOK Tryz.prog E52 Lam52 ((loopsOf (bodyOf Tryz.f52)).getD 0 .skip) := by
  refine ⟨fun σ => ∃ x_0 x_3 x_4, σ 0 = .flat (.int .u32 x_0) ∧ σ 3 = .flat (.int .i64 x_3) ∧ σ 4 = .flat (.int .i64 x_4), [0, 3, 4], lx52_3, fun σ m k => ?_⟩
  have e : Lam52.loop ((loopsOf (bodyOf Tryz.f52)).getD 0 .skip) σ m k = Lam52_3 σ m k := by kernel_rfl
  rw [e]
  constructor
  · intro h
    unfold Lam52_3 at h
    obtain ⟨x_0, h0, h⟩ := kI_ok h
    obtain ⟨x_3, h1, h⟩ := kI_ok h
    obtain ⟨x_4, h2, h⟩ := kI_ok h
    obtain ⟨N, h⟩ := h
    refine ⟨⟨x_0, x_3, x_4, h0, h1, h2⟩, N, ?_⟩
    have ev : [0, 3, 4].map σ = [(.flat (.int .u32 x_0)), (.flat (.int .i64 x_3)), (.flat (.int .i64 x_4))] := by simp only [List.map_cons, List.map_nil, h0, h1, h2]
    rw [ev, loop52_3]
    exact h
  · rintro ⟨⟨x_0, x_3, x_4, h0, h1, h2⟩, N, h⟩
    have ev : [0, 3, 4].map σ = [(.flat (.int .u32 x_0)), (.flat (.int .i64 x_3)), (.flat (.int .i64 x_4))] := by simp only [List.map_cons, List.map_nil, h0, h1, h2]
    rw [ev, loop52_3] at h
    unfold Lam52_3
    try simp only [h0, h1, h2, kI, kbool, kS, kptr, kaggN, kite, decide_true, eq_self]
    exact ⟨N, h⟩

theorem eqn52 (x_0 : Int) (m : Mem) (k : KV) : bodyK Tryz.prog E52 Lam52 Tryz.f52 true [(.flat (.int .u32 x_0))] m k = F52 x_0 m (fun x_1000 m' => k (.flat (.int .i64 x_1000)) m') := by
  kernel_rfl

theorem fs52 (w0 : World) : FS Tryz.prog w0 52 G52 := by
  refine (fs_body (Γ := E52) (sound_env (l := []) w0 (by
    intro p hp
    cases hp)) (by kernel_rfl) Tryz.func52 (Λ := Lam52) (c := (bodyOf Tryz.f52)) (by kernel_rfl) Tryz.call52 (by kernel_rfl) (LS_of (bodyOf Tryz.f52) 1 (by kernel_rfl) (by
    intro i hi
    match i, hi with
    | 0, _ => exact lok52_3
    | i + 1, hi => omega) 0 (by kernel_rfl) (fun i hi => absurd hi (Nat.not_lt_zero i))) true (np := 1) (Nat.le_of_ble_eq_true (by kernel_rfl))).imp fun args => ?_
  by_cases hl : args.length = 1
  rotate_left
  · exact .inr fun m k hk => by
      unfold G52 at hk
      split at hk
      · exact hl rfl
      · exact hk
  obtain ⟨a0, rfl⟩ : ∃ a0, args = [a0] := len_list1 hl
  rcases kI_or .u32 a0 with ⟨x_0, rfl⟩ | h
  rotate_left
  · exact .inr fun m k hk => h _ (by simpa only [G52, kI, kbool, kS, kptr, kaggN, kite, decide_true, eq_self] using hk)
  exact .inl fun m k => propext ⟨fun h => ⟨rfl, by rw [eqn52]; simpa only [G52, kI, kbool, kS, kptr, kaggN, kite, decide_true, eq_self] using h⟩, fun h => by have h := h.2; rw [eqn52] at h; simpa only [G52, kI, kbool, kS, kptr, kaggN, kite, decide_true, eq_self] using h⟩

def E53 : Env := envOf [(52, G52)]

/-- pianola/pianolaref1.Clo -/
def F53 (x_0 : Int) (m : Mem) (k : Int → Mem → Prop) : Prop :=
  F52 (bits .xor .u32 4294967295 x_0) m fun x1 m2 => (Keeps m m2 ∧ k x1 m)

def G53 (args : List AV) (m : Mem) (k : KV) : Prop := match args with
  | [a0] => kI .u32 a0 fun x_0 => F53 x_0 m (fun x_1000 m' => k (.flat (.int .i64 x_1000)) m')
  | _ => False

def Lam53 : LEnv := ⟨fun a σ m k => match firstReg a with
  | _ => bump False,
  fun id => match id with
  | _ => bump false,
  fun b => match keyC b with
  | _ => bump false,
  fun b σ m k => match keyC b with
  | _ => bump False⟩

theorem eqn53 (x_0 : Int) (m : Mem) (k : KV) : bodyK Tryz.prog E53 Lam53 Tryz.f53 true [(.flat (.int .u32 x_0))] m k = F53 x_0 m (fun x_1000 m' => k (.flat (.int .i64 x_1000)) m') := by
  kernel_rfl

theorem fs53 (w0 : World) : FS Tryz.prog w0 53 G53 := by
  refine (fs_body (Γ := E53) (sound_env (l := [(52, G52)]) w0 (by
    intro p hp
    simp only [List.mem_cons, List.not_mem_nil, or_false] at hp
    rcases hp with rfl
    · exact fs52 w0)) (by kernel_rfl) Tryz.func53 (Λ := Lam53) (c := (bodyOf Tryz.f53)) (by kernel_rfl) Tryz.call53 (by kernel_rfl) (LS_of (bodyOf Tryz.f53) 0 (by kernel_rfl) (fun i hi => absurd hi (Nat.not_lt_zero i)) 0 (by kernel_rfl) (fun i hi => absurd hi (Nat.not_lt_zero i))) true (np := 1) (Nat.le_of_ble_eq_true (by kernel_rfl))).imp fun args => ?_
  by_cases hl : args.length = 1
  rotate_left
  · exact .inr fun m k hk => by
      unfold G53 at hk
      split at hk
      · exact hl rfl
      · exact hk
  obtain ⟨a0, rfl⟩ : ∃ a0, args = [a0] := len_list1 hl
  rcases kI_or .u32 a0 with ⟨x_0, rfl⟩ | h
  rotate_left
  · exact .inr fun m k hk => h _ (by simpa only [G53, kI, kbool, kS, kptr, kaggN, kite, decide_true, eq_self] using hk)
  exact .inl fun m k => propext ⟨fun h => ⟨rfl, by rw [eqn53]; simpa only [G53, kI, kbool, kS, kptr, kaggN, kite, decide_true, eq_self] using h⟩, fun h => by have h := h.2; rw [eqn53] at h; simpa only [G53, kI, kbool, kS, kptr, kaggN, kite, decide_true, eq_self] using h⟩

def E54 : Env := envOf [(88, G88)]

/-- pianola/pianolaref1.Div -/
def F54 (x_0 : Int) (x_1 : Int) (x_2 : Bool) (m : Mem) (k : Int → Int → Mem → Prop) : Prop :=
  kif (x_1 == 0) ((Keeps m m ∧ k 4294967295 x_0 m)) (F88 x_0 x_2 m fun x1 m2 => F88 x_1 x_2 m2 fun x3 m4 => kif (decide (x3 = 0)) False (kif (decide (x3 = 0)) False ((Keeps m m4 ∧ k (IntKind.wrap .u32 (IntKind.wrap .i64 (x1.tdiv x3))) (IntKind.wrap .u32 (x1.tmod x3)) m))))

def G54 (args : List AV) (m : Mem) (k : KV) : Prop := match args with
  | [a0, a1, a2] => kI .u32 a0 fun x_0 => kI .u32 a1 fun x_1 => kbool a2 fun x_2 => F54 x_0 x_1 x_2 m (fun x_1000 x_1001 m' => k (.tup [(.flat (.int .u32 x_1000)), (.flat (.int .u32 x_1001))]) m')
  | _ => False

def Lam54 : LEnv := ⟨fun a σ m k => match firstReg a with
  | _ => bump False,
  fun id => match id with
  | _ => bump false,
  fun b => match keyC b with
  | _ => bump false,
  fun b σ m k => match keyC b with
  | _ => bump False⟩

theorem eqn54 (x_0 : Int) (x_1 : Int) (x_2 : Bool) (m : Mem) (k : KV) : bodyK Tryz.prog E54 Lam54 Tryz.f54 true [(.flat (.int .u32 x_0)), (.flat (.int .u32 x_1)), (.flat (.bool x_2))] m k = F54 x_0 x_1 x_2 m (fun x_1000 x_1001 m' => k (.tup [(.flat (.int .u32 x_1000)), (.flat (.int .u32 x_1001))]) m') := by
  kernel_rfl

theorem fs54 (w0 : World) : FS Tryz.prog w0 54 G54 := by
  refine (fs_body (Γ := E54) (sound_env (l := [(88, G88)]) w0 (by
    intro p hp
    simp only [List.mem_cons, List.not_mem_nil, or_false] at hp
    rcases hp with rfl
    · exact fs88 w0)) (by kernel_rfl) Tryz.func54 (Λ := Lam54) (c := (bodyOf Tryz.f54)) (by kernel_rfl) Tryz.call54 (by kernel_rfl) (LS_of (bodyOf Tryz.f54) 0 (by kernel_rfl) (fun i hi => absurd hi (Nat.not_lt_zero i)) 0 (by kernel_rfl) (fun i hi => absurd hi (Nat.not_lt_zero i))) true (np := 3) (Nat.le_of_ble_eq_true (by kernel_rfl))).imp fun args => ?_
  by_cases hl : args.length = 3
  rotate_left
  · exact .inr fun m k hk => by
      unfold G54 at hk
      split at hk
      · exact hl rfl
      · exact hk
  obtain ⟨a0, a1, a2, rfl⟩ : ∃ a0 a1 a2, args = [a0, a1, a2] := len_list3 hl
  rcases kI_or .u32 a0 with ⟨x_0, rfl⟩ | h
  rotate_left
  · exact .inr fun m k hk => h _ (by simpa only [G54, kI, kbool, kS, kptr, kaggN, kite, decide_true, eq_self] using hk)
  rcases kI_or .u32 a1 with ⟨x_1, rfl⟩ | h
  rotate_left
  · exact .inr fun m k hk => h _ (by simpa only [G54, kI, kbool, kS, kptr, kaggN, kite, decide_true, eq_self] using hk)
  rcases kbool_or a2 with ⟨x_2, rfl⟩ | h
  rotate_left
  · exact .inr fun m k hk => h _ (by simpa only [G54, kI, kbool, kS, kptr, kaggN, kite, decide_true, eq_self] using hk)
  exact .inl fun m k => propext ⟨fun h => ⟨rfl, by rw [eqn54]; simpa only [G54, kI, kbool, kS, kptr, kaggN, kite, decide_true, eq_self] using h⟩, fun h => by have h := h.2; rw [eqn54] at h; simpa only [G54, kI, kbool, kS, kptr, kaggN, kite, decide_true, eq_self] using h⟩

end Go.Proofs.YtkgidjnaddjjbaaGreat.Am
