/- What Go functions ask of what follows them, as plain functions over the abstract machine; the machine asks just that. Written by gen.py. -/
import Derived.Test.YtckhobljijpfpaaProg
import Derived.Test.YtckhobljijpfpaaAmL
import Derived.Test.YtckhobljijpfpaaM0
namespace Go.Proofs.Ytckhobljijpfpaa.Am
set_option linter.unusedVariables false
set_option linter.unusedSimpArgs false
set_option maxRecDepth 100000

def P11_10102 (v_0 : AV) (x_1 : Int) (x_6 : Int) (m : Mem) (kn : Mem → Prop) : Prop :=
  kptr v_0 fun b36 o37 => ldI .u32 m b36 (o37 + 39 + 13) fun x38 => kptr v_0 fun b39 o40 => stC m b39 (o40 + 39 + 13) (.flat (.int .u32 (bits .or .u32 (bits .andNot .u32 x38 124) (IntKind.wrap .u32 ((IntKind.wrap .u32 (bits .and .i64 x_1 31)) * 4))))) fun m41 => kptr v_0 fun b42 o43 => F19 b42 o43 x_6 m41 fun m44 => kptr v_0 fun b45 o46 => ldI .u32 m44 b45 (o46 + 39 + 12) fun x47 => kptr v_0 fun b48 o49 => stC m44 b48 (o49 + 39 + 12) (.flat (.int .u32 (bits .or .u32 x47 2))) fun m50 => kn  m50

def P11_8102 (v_0 : AV) (x_1 : Int) (x_2 : Bool) (x_6 : Int) (m : Mem) (kn : Int → Mem → Prop) : Prop :=
  kif x_2 (kn 2147483648 m) (kn x_6 m)

/-- pianola/cp0.Enter -/
def F11 (v_0 : AV) (x_1 : Int) (x_2 : Bool) (m : Mem) (k : Mem → Prop) : Prop :=
  knilP v_0 fun x1 => kif x1 (k  m) (kptr v_0 fun b2 o3 => ldI .u32 m b2 (o3 + 39 + 12) fun x4 => kif ((bits .and .u32 x4 2) == 0) (kptr v_0 fun b5 o6 => ldI .u32 m b5 (o6 + 34) fun x7 => kptr v_0 fun b8 o9 => stC m b8 (o9 + 39 + 14) (.flat (.int .u32 x7)) fun m10 => kptr v_0 fun b11 o12 => ldI .u32 m10 b11 (o12 + 39 + 13) fun x13 => kptr v_0 fun b14 o15 => stC m10 b14 (o15 + 39 + 13) (.flat (.int .u32 (bits .andNot .u32 x13 2147483648))) fun m16 => kptr v_0 fun b17 o18 => ldB m16 b17 (o18 + 36) fun x19 => kif x19 (kptr v_0 fun b20 o21 => ldI .u32 m16 b20 (o21 + 34) fun x22 => kptr v_0 fun b23 o24 => stC m16 b23 (o24 + 39 + 14) (.flat (.int .u32 (IntKind.wrap .u32 (x22 - 4)))) fun m25 => kptr v_0 fun b26 o27 => ldI .u32 m25 b26 (o27 + 39 + 13) fun x28 => kptr v_0 fun b29 o30 => stC m25 b29 (o30 + 39 + 13) (.flat (.int .u32 (bits .or .u32 x28 2147483648))) fun m31 => P11_8102 v_0 x_1 x_2 2147484032 m31 (fun x32 m33 => P11_10102 v_0 x_1 x32 m33 (fun m51 => k  m51))) (P11_8102 v_0 x_1 x_2 2147484032 m16 (fun x34 m35 => P11_10102 v_0 x_1 x34 m35 (fun m52 => k  m52)))) (P11_10102 v_0 x_1 2147484032 m (fun m53 => k  m53)))

def G11 (args : List AV) (m : Mem) (k : KV) : Prop := match args with
  | [a0, a1, a2] => kI .i64 a1 fun x_1 => kbool a2 fun x_2 => F11 a0 x_1 x_2 m (fun m' => k (.tup []) m')
  | _ => False

def E11 : Env := envOf [(19, G19)]

def LamP11_8102 (σ : Nat → AV) (m : Mem) (k : KX) : Prop := kI .i64 (σ 1) fun x_1 => kbool (σ 2) fun x_2 => kI .u32 (σ 6) fun x_6 => P11_8102 (σ 0) x_1 x_2 x_6 m (fun x_6' m' => k .normal (only [0, 1, 6] [(σ 0), (.flat (.int .i64 x_1)), (.flat (.int .u32 x_6'))]) m')

def LamP11_10102 (σ : Nat → AV) (m : Mem) (k : KX) : Prop := kI .i64 (σ 1) fun x_1 => kI .u32 (σ 6) fun x_6 => P11_10102 (σ 0) x_1 x_6 m (fun m' => k .normal (only [] []) m')

def Lam11 : LEnv := ⟨fun a σ m k => match firstReg a with
  | _ => bump False,
  fun id => match id with
  | _ => bump false,
  fun b => match keyC b with
  | some 8102 => true
  | some 10102 => true
  | _ => bump false,
  fun b σ m k => match keyC b with
  | some 8102 => LamP11_8102 σ m k
  | some 10102 => LamP11_10102 σ m k
  | _ => bump False⟩

def lxp11_10102 : Ex → List Nat := fun e => match e with
  | .normal => []
  | _ => []

theorem pc11_10102 (v_0 : AV) (x_1 : Int) (x_6 : Int) (m : Mem) (k : KX) : once Try.prog E11 Lam11 [0, 1, 6] lxp11_10102 (((secsOf (bodyOf Try.f11)).filter Lam11.cut).getD 0 .skip) [v_0, (.flat (.int .i64 x_1)), (.flat (.int .u32 x_6))] m k = P11_10102 v_0 x_1 x_6 m (fun m' => k .normal (only [] []) m') := by
  kernel_rfl

theorem pok11_10102 : PieceOK Try.prog E11 Lam11 (((secsOf (bodyOf Try.f11)).filter Lam11.cut).getD 0 .skip) := by
  refine ⟨fun σ => ∃ v_0 x_1 x_6, σ 0 = v_0 ∧ σ 1 = .flat (.int .i64 x_1) ∧ σ 6 = .flat (.int .u32 x_6), [0, 1, 6], lxp11_10102, fun σ m k => ?_⟩
  have e : Lam11.piece (((secsOf (bodyOf Try.f11)).filter Lam11.cut).getD 0 .skip) σ m k = LamP11_10102 σ m k := by kernel_rfl
  rw [e]
  constructor
  · intro h
    unfold LamP11_10102 at h
    obtain ⟨v_0, h0⟩ : ∃ v, σ 0 = v := ⟨_, rfl⟩
    obtain ⟨x_1, h1, h⟩ := kI_ok h
    obtain ⟨x_6, h2, h⟩ := kI_ok h
    refine ⟨⟨v_0, x_1, x_6, h0, h1, h2⟩, ?_⟩
    have ev : [0, 1, 6].map σ = [v_0, (.flat (.int .i64 x_1)), (.flat (.int .u32 x_6))] := by simp only [List.map_cons, List.map_nil, h0, h1, h2]
    rw [ev, pc11_10102]
    simp only [h0] at h
    exact h
  · rintro ⟨⟨v_0, x_1, x_6, h0, h1, h2⟩, h⟩
    have ev : [0, 1, 6].map σ = [v_0, (.flat (.int .i64 x_1)), (.flat (.int .u32 x_6))] := by simp only [List.map_cons, List.map_nil, h0, h1, h2]
    rw [ev, pc11_10102] at h
    unfold LamP11_10102
    simp only [h0, h1, h2, kI, kbool, kS, kptr, kaggN, kite, decide_true, eq_self]
    exact h

def lxp11_8102 : Ex → List Nat := fun e => match e with
  | .normal => [0, 1, 6]
  | _ => []

theorem pc11_8102 (v_0 : AV) (x_1 : Int) (x_2 : Bool) (x_6 : Int) (m : Mem) (k : KX) : once Try.prog E11 Lam11 [0, 1, 2, 6] lxp11_8102 (((secsOf (bodyOf Try.f11)).filter Lam11.cut).getD 1 .skip) [v_0, (.flat (.int .i64 x_1)), (.flat (.bool x_2)), (.flat (.int .u32 x_6))] m k = P11_8102 v_0 x_1 x_2 x_6 m (fun x_6' m' => k .normal (only [0, 1, 6] [v_0, (.flat (.int .i64 x_1)), (.flat (.int .u32 x_6'))]) m') := by
  kernel_rfl

theorem pok11_8102 : PieceOK Try.prog E11 Lam11 (((secsOf (bodyOf Try.f11)).filter Lam11.cut).getD 1 .skip) := by
  refine ⟨fun σ => ∃ v_0 x_1 x_2 x_6, σ 0 = v_0 ∧ σ 1 = .flat (.int .i64 x_1) ∧ σ 2 = .flat (.bool x_2) ∧ σ 6 = .flat (.int .u32 x_6), [0, 1, 2, 6], lxp11_8102, fun σ m k => ?_⟩
  have e : Lam11.piece (((secsOf (bodyOf Try.f11)).filter Lam11.cut).getD 1 .skip) σ m k = LamP11_8102 σ m k := by kernel_rfl
  rw [e]
  constructor
  · intro h
    unfold LamP11_8102 at h
    obtain ⟨v_0, h0⟩ : ∃ v, σ 0 = v := ⟨_, rfl⟩
    obtain ⟨x_1, h1, h⟩ := kI_ok h
    obtain ⟨x_2, h2, h⟩ := kbool_ok h
    obtain ⟨x_6, h3, h⟩ := kI_ok h
    refine ⟨⟨v_0, x_1, x_2, x_6, h0, h1, h2, h3⟩, ?_⟩
    have ev : [0, 1, 2, 6].map σ = [v_0, (.flat (.int .i64 x_1)), (.flat (.bool x_2)), (.flat (.int .u32 x_6))] := by simp only [List.map_cons, List.map_nil, h0, h1, h2, h3]
    rw [ev, pc11_8102]
    simp only [h0] at h
    exact h
  · rintro ⟨⟨v_0, x_1, x_2, x_6, h0, h1, h2, h3⟩, h⟩
    have ev : [0, 1, 2, 6].map σ = [v_0, (.flat (.int .i64 x_1)), (.flat (.bool x_2)), (.flat (.int .u32 x_6))] := by simp only [List.map_cons, List.map_nil, h0, h1, h2, h3]
    rw [ev, pc11_8102] at h
    unfold LamP11_8102
    simp only [h0, h1, h2, h3, kI, kbool, kS, kptr, kaggN, kite, decide_true, eq_self]
    exact h

theorem eqn11 (v_0 : AV) (x_1 : Int) (x_2 : Bool) (m : Mem) (k : KV) : bodyK Try.prog E11 Lam11 Try.f11 false [v_0, (.flat (.int .i64 x_1)), (.flat (.bool x_2))] m k = F11 v_0 x_1 x_2 m (fun m' => k (.tup []) m') := by
  kernel_rfl

theorem fs11 (w0 : World) : FS Try.prog w0 11 G11 := by
  refine (fs_body (Γ := E11) (sound_env (l := [(19, G19)]) w0 (by
    intro p hp
    simp only [List.mem_cons, List.not_mem_nil, or_false] at hp
    rcases hp with rfl
    · exact fs19 w0)) (by kernel_rfl) Try.func11 (Λ := Lam11) (c := (bodyOf Try.f11)) (by kernel_rfl) Try.call11 (by kernel_rfl) (LS_of (bodyOf Try.f11) 0 (by kernel_rfl) (fun i hi => absurd hi (Nat.not_lt_zero i)) 2 (by kernel_rfl) (by
    intro i hi
    match i, hi with
    | 0, _ => exact pok11_10102
    | 1, _ => exact pok11_8102
    | i + 2, hi => omega)) false (np := 3) (Nat.le_of_ble_eq_true (by kernel_rfl))).imp fun args => ?_
  by_cases hl : args.length = 3
  rotate_left
  · exact .inr fun m k hk => by
      unfold G11 at hk
      split at hk
      · exact hl rfl
      · exact hk
  obtain ⟨a0, a1, a2, rfl⟩ : ∃ a0 a1 a2, args = [a0, a1, a2] := len_list3 hl
  rcases kI_or .i64 a1 with ⟨x_1, rfl⟩ | h
  rotate_left
  · exact .inr fun m k hk => h _ (by simpa only [G11, kI, kbool, kS, kptr, kaggN, kite, decide_true, eq_self] using hk)
  rcases kbool_or a2 with ⟨x_2, rfl⟩ | h
  rotate_left
  · exact .inr fun m k hk => h _ (by simpa only [G11, kI, kbool, kS, kptr, kaggN, kite, decide_true, eq_self] using hk)
  exact .inl fun m k => propext ⟨fun h => ⟨rfl, by rw [eqn11]; simpa only [G11, kI, kbool, kS, kptr, kaggN, kite, decide_true, eq_self] using h⟩, fun h => by have h := h.2; rw [eqn11] at h; simpa only [G11, kI, kbool, kS, kptr, kaggN, kite, decide_true, eq_self] using h⟩

/-- pianola/cp0.Pending -/
def F20 (b_0 o_0 : Nat) (m : Mem) (k : Bool → Mem → Prop) : Prop :=
  ldI .u32 m b_0 (o_0 + 39 + 13) fun x1 => ldI .u32 m b_0 (o_0 + 39 + 12) fun x2 => (Keeps m m ∧ k ((bits .and .u32 (bits .and .u32 x1 65280) (bits .and .u32 x2 65280)) != 0) m)

def G20 (args : List AV) (m : Mem) (k : KV) : Prop := match args with
  | [a0] => kptr a0 fun b_0 o_0 => F20 b_0 o_0 m (fun x_1000 m' => k (.flat (.bool x_1000)) m')
  | _ => False

def E20 : Env := envOf []

def Lam20 : LEnv := ⟨fun a σ m k => match firstReg a with
  | _ => bump False,
  fun id => match id with
  | _ => bump false,
  fun b => match keyC b with
  | _ => bump false,
  fun b σ m k => match keyC b with
  | _ => bump False⟩

theorem eqn20 (b_0 o_0 : Nat) (m : Mem) (k : KV) : bodyK Try.prog E20 Lam20 Try.f20 true [(.ptr b_0 o_0)] m k = F20 b_0 o_0 m (fun x_1000 m' => k (.flat (.bool x_1000)) m') := by
  kernel_rfl

theorem fs20 (w0 : World) : FS Try.prog w0 20 G20 := by
  refine (fs_body (Γ := E20) (sound_env (l := []) w0 (by
    intro p hp
    cases hp)) (by kernel_rfl) Try.func20 (Λ := Lam20) (c := (bodyOf Try.f20)) (by kernel_rfl) Try.call20 (by kernel_rfl) (LS_of (bodyOf Try.f20) 0 (by kernel_rfl) (fun i hi => absurd hi (Nat.not_lt_zero i)) 0 (by kernel_rfl) (fun i hi => absurd hi (Nat.not_lt_zero i))) true (np := 1) (Nat.le_of_ble_eq_true (by kernel_rfl))).imp fun args => ?_
  by_cases hl : args.length = 1
  rotate_left
  · exact .inr fun m k hk => by
      unfold G20 at hk
      split at hk
      · exact hl rfl
      · exact hk
  obtain ⟨a0, rfl⟩ : ∃ a0, args = [a0] := len_list1 hl
  rcases kptr_or a0 with ⟨b_0, o_0, rfl⟩ | h
  rotate_left
  · exact .inr fun m k hk => h _ (by simpa only [G20, kI, kbool, kS, kptr, kaggN, kite, decide_true, eq_self] using hk)
  exact .inl fun m k => propext ⟨fun h => ⟨rfl, by rw [eqn20]; simpa only [G20, kI, kbool, kS, kptr, kaggN, kite, decide_true, eq_self] using h⟩, fun h => by have h := h.2; rw [eqn20] at h; simpa only [G20, kI, kbool, kS, kptr, kaggN, kite, decide_true, eq_self] using h⟩

/-- pianola/cp0.Taken -/
def F13 (b_0 o_0 : Nat) (m : Mem) (k : Bool → Mem → Prop) : Prop :=
  F20 b_0 o_0 m fun x1 m2 => kif x1 (ldI .u32 m2 b_0 (o_0 + 39 + 12) fun x3 => kif ((bits .and .u32 x3 1) != 0) (ldI .u32 m2 b_0 (o_0 + 39 + 12) fun x4 => (Keeps m m2 ∧ k ((bits .and .u32 x4 2) == 0) m)) ((Keeps m m2 ∧ k false m))) ((Keeps m m2 ∧ k false m))

def G13 (args : List AV) (m : Mem) (k : KV) : Prop := match args with
  | [a0] => kptr a0 fun b_0 o_0 => F13 b_0 o_0 m (fun x_1000 m' => k (.flat (.bool x_1000)) m')
  | _ => False

def E13 : Env := envOf [(20, G20)]

def Lam13 : LEnv := ⟨fun a σ m k => match firstReg a with
  | _ => bump False,
  fun id => match id with
  | _ => bump false,
  fun b => match keyC b with
  | _ => bump false,
  fun b σ m k => match keyC b with
  | _ => bump False⟩

theorem eqn13 (b_0 o_0 : Nat) (m : Mem) (k : KV) : bodyK Try.prog E13 Lam13 Try.f13 true [(.ptr b_0 o_0)] m k = F13 b_0 o_0 m (fun x_1000 m' => k (.flat (.bool x_1000)) m') := by
  kernel_rfl

theorem fs13 (w0 : World) : FS Try.prog w0 13 G13 := by
  refine (fs_body (Γ := E13) (sound_env (l := [(20, G20)]) w0 (by
    intro p hp
    simp only [List.mem_cons, List.not_mem_nil, or_false] at hp
    rcases hp with rfl
    · exact fs20 w0)) (by kernel_rfl) Try.func13 (Λ := Lam13) (c := (bodyOf Try.f13)) (by kernel_rfl) Try.call13 (by kernel_rfl) (LS_of (bodyOf Try.f13) 0 (by kernel_rfl) (fun i hi => absurd hi (Nat.not_lt_zero i)) 0 (by kernel_rfl) (fun i hi => absurd hi (Nat.not_lt_zero i))) true (np := 1) (Nat.le_of_ble_eq_true (by kernel_rfl))).imp fun args => ?_
  by_cases hl : args.length = 1
  rotate_left
  · exact .inr fun m k hk => by
      unfold G13 at hk
      split at hk
      · exact hl rfl
      · exact hk
  obtain ⟨a0, rfl⟩ : ∃ a0, args = [a0] := len_list1 hl
  rcases kptr_or a0 with ⟨b_0, o_0, rfl⟩ | h
  rotate_left
  · exact .inr fun m k hk => h _ (by simpa only [G13, kI, kbool, kS, kptr, kaggN, kite, decide_true, eq_self] using hk)
  exact .inl fun m k => propext ⟨fun h => ⟨rfl, by rw [eqn13]; simpa only [G13, kI, kbool, kS, kptr, kaggN, kite, decide_true, eq_self] using h⟩, fun h => by have h := h.2; rw [eqn13] at h; simpa only [G13, kI, kbool, kS, kptr, kaggN, kite, decide_true, eq_self] using h⟩

/-- pianola/cp0.Return -/
def F14 (b_0 o_0 : Nat) (m : Mem) (k : Mem → Prop) : Prop :=
  ldI .u32 m b_0 (o_0 + 39 + 14) fun x1 => F19 b_0 o_0 x1 m fun m2 => ldI .u32 m2 b_0 (o_0 + 39 + 12) fun x3 => stC m2 b_0 (o_0 + 39 + 12) (.flat (.int .u32 (bits .andNot .u32 x3 2))) fun m4 => stC m4 b_0 (o_0 + 37) (.flat (.bool false)) fun m5 => k  m5

def G14 (args : List AV) (m : Mem) (k : KV) : Prop := match args with
  | [a0] => kptr a0 fun b_0 o_0 => F14 b_0 o_0 m (fun m' => k (.tup []) m')
  | _ => False

def E14 : Env := envOf [(19, G19)]

def Lam14 : LEnv := ⟨fun a σ m k => match firstReg a with
  | _ => bump False,
  fun id => match id with
  | _ => bump false,
  fun b => match keyC b with
  | _ => bump false,
  fun b σ m k => match keyC b with
  | _ => bump False⟩

theorem eqn14 (b_0 o_0 : Nat) (m : Mem) (k : KV) : bodyK Try.prog E14 Lam14 Try.f14 false [(.ptr b_0 o_0)] m k = F14 b_0 o_0 m (fun m' => k (.tup []) m') := by
  kernel_rfl

theorem fs14 (w0 : World) : FS Try.prog w0 14 G14 := by
  refine (fs_body (Γ := E14) (sound_env (l := [(19, G19)]) w0 (by
    intro p hp
    simp only [List.mem_cons, List.not_mem_nil, or_false] at hp
    rcases hp with rfl
    · exact fs19 w0)) (by kernel_rfl) Try.func14 (Λ := Lam14) (c := (bodyOf Try.f14)) (by kernel_rfl) Try.call14 (by kernel_rfl) (LS_of (bodyOf Try.f14) 0 (by kernel_rfl) (fun i hi => absurd hi (Nat.not_lt_zero i)) 0 (by kernel_rfl) (fun i hi => absurd hi (Nat.not_lt_zero i))) false (np := 1) (Nat.le_of_ble_eq_true (by kernel_rfl))).imp fun args => ?_
  by_cases hl : args.length = 1
  rotate_left
  · exact .inr fun m k hk => by
      unfold G14 at hk
      split at hk
      · exact hl rfl
      · exact hk
  obtain ⟨a0, rfl⟩ : ∃ a0, args = [a0] := len_list1 hl
  rcases kptr_or a0 with ⟨b_0, o_0, rfl⟩ | h
  rotate_left
  · exact .inr fun m k hk => h _ (by simpa only [G14, kI, kbool, kS, kptr, kaggN, kite, decide_true, eq_self] using hk)
  exact .inl fun m k => propext ⟨fun h => ⟨rfl, by rw [eqn14]; simpa only [G14, kI, kbool, kS, kptr, kaggN, kite, decide_true, eq_self] using h⟩, fun h => by have h := h.2; rw [eqn14] at h; simpa only [G14, kI, kbool, kS, kptr, kaggN, kite, decide_true, eq_self] using h⟩

def P4_15102 (b_7 o_7 : Nat) (b_8 o_8 : Nat) (x_10 : Int) (m : Mem) (kr : Bool → Mem → Prop) : Prop :=
  ldI .u32 m b_7 (o_7 + 34) fun x45 => kif (x45 == x_10) (ldI .u32 m b_7 (o_7 + 35) fun x46 => kif (x46 == (IntKind.wrap .u32 (x_10 + 4))) (ldI .u32 m b_7 (o_7 + 39 + 12) fun x47 => ldI .u32 m b_8 (o_8 + 39 + 12) fun x48 => kif (x47 == x48) (ldB m b_7 (o_7 + 37) fun x49 => kif (!x49) (F9  m fun x50 m51 => kr x50 m51) (kr false m)) (kr false m)) (kr false m)) (kr false m)

/-- pianola/pianolalaw6.Cp0Returns -/
def F4 (c_0 : Nat → AV) (x_1 : Int) (x_2 : Bool) (m : Mem) (k : Bool → Mem → Prop) : Prop :=
  newK m ⟨11, c_0, 40, false⟩ fun b2 m1 => ldG 11 m1 b2 0 fun c3 => F10 c3 0 m1 fun c4 m5 => newK m5 ⟨73, Z73, 30, false⟩ fun b7 m6 => stG 73 m6 b7 0 c4 fun m8 => ldI .u32 m8 b7 51 fun x9 => stC m8 b7 51 (.flat (.int .u32 (bits .andNot .u32 x9 2))) fun m10 => ldG 73 m10 b7 0 fun c11 => newK m10 ⟨73, Z73, 30, false⟩ fun b13 m12 => stG 73 m12 b13 0 c11 fun m14 => F11 (.ptr b7 0) (bits .and .i64 x_1 31) x_2 m14 fun m15 => ldG 32 m15 b7 0 fun c16 => ldG 32 m15 b13 0 fun c17 => geq K24 c16 c17 fun x18 => kif (!x18) (k false m15) (ldI .i64 m15 b7 72 fun x19 => ldI .i64 m15 b13 72 fun x20 => kif (x19 != x20) (k false m15) (ldB m15 b7 36 fun x21 => kif x21 (k false m15) (ldI .u32 m15 b7 35 fun x22 => ldI .u32 m15 b7 34 fun x23 => kif (x22 != (IntKind.wrap .u32 (x23 + 4))) (k false m15) (ldI .u32 m15 b7 51 fun x24 => ldI .u32 m15 b13 51 fun x25 => kif (x24 != (bits .or .u32 x25 2)) (k false m15) (F12 (.ptr b7 0) m15 fun x26 m27 => kif x26 (k false m27) (F13 b7 0 m27 fun x28 m29 => kif x28 (k false m29) (ldI .u32 m29 b7 52 fun x30 => kif ((bits .and .u32 (x30.fdiv 4) 31) != (IntKind.wrap .u32 (bits .and .i64 x_1 31))) (k false m29) (ldG 73 m29 b7 0 fun c31 => newK m29 ⟨73, Z73, 30, false⟩ fun b33 m32 => stG 73 m32 b33 0 c31 fun m34 => F11 (.ptr b7 0) 1 true m34 fun m35 => ldI .u32 m35 b7 53 fun x36 => ldI .u32 m35 b33 53 fun x37 => kif (x36 != x37) (k false m35) (ldI .u32 m35 b7 34 fun x38 => kif (x38 != 2147484032) (k false m35) (ldI .u32 m35 b7 52 fun x39 => ldI .u32 m35 b33 52 fun x40 => kif ((x39.fdiv 2147483648) != (x40.fdiv 2147483648)) (k false m35) (F14 b7 0 m35 fun m41 => ldI .u32 m41 b13 34 fun x42 => ldB m41 b13 36 fun x43 => kif x43 (ldI .u32 m41 b13 34 fun x44 => P4_15102 b7 0 b13 0 (IntKind.wrap .u32 (x44 - 4)) m41 (fun x52 m53 => k x52 m53)) (P4_15102 b7 0 b13 0 x42 m41 (fun x54 m55 => k x54 m55)))))))))))))

def G4 (args : List AV) (m : Mem) (k : KV) : Prop := match args with
  | [a0, a1, a2] => kaggN 11 a0 fun c_0 => kI .i64 a1 fun x_1 => kbool a2 fun x_2 => F4 c_0 x_1 x_2 m (fun x_1000 m' => k (.flat (.bool x_1000)) m')
  | _ => False

def E4 : Env := envOf [(9, G9), (10, G10), (11, G11), (12, G12), (13, G13), (14, G14)]

def LamP4_15102 (σ : Nat → AV) (m : Mem) (k : KX) : Prop := kptr (σ 7) fun b_7 o_7 => kptr (σ 8) fun b_8 o_8 => kI .u32 (σ 10) fun x_10 => P4_15102 b_7 o_7 b_8 o_8 x_10 m (fun x_6' m' => k .ret (only [6] [(.flat (.bool x_6'))]) m')

def Lam4 : LEnv := ⟨fun a σ m k => match firstReg a with
  | _ => bump False,
  fun id => match id with
  | _ => bump false,
  fun b => match keyC b with
  | some 15102 => true
  | _ => bump false,
  fun b σ m k => match keyC b with
  | some 15102 => LamP4_15102 σ m k
  | _ => bump False⟩

def lxp4_15102 : Ex → List Nat := fun e => match e with
  | .ret => [6]
  | _ => []

theorem pc4_15102 (b_7 o_7 : Nat) (b_8 o_8 : Nat) (x_10 : Int) (m : Mem) (k : KX) : once Try.prog E4 Lam4 [7, 8, 10] lxp4_15102 (((secsOf (bodyOf Try.f4)).filter Lam4.cut).getD 0 .skip) [(.ptr b_7 o_7), (.ptr b_8 o_8), (.flat (.int .u32 x_10))] m k = P4_15102 b_7 o_7 b_8 o_8 x_10 m (fun x_6' m' => k .ret (only [6] [(.flat (.bool x_6'))]) m') := by
  kernel_rfl

theorem pok4_15102 : PieceOK Try.prog E4 Lam4 (((secsOf (bodyOf Try.f4)).filter Lam4.cut).getD 0 .skip) := by
  refine ⟨fun σ => ∃ b_7 o_7 b_8 o_8 x_10, σ 7 = .ptr b_7 o_7 ∧ σ 8 = .ptr b_8 o_8 ∧ σ 10 = .flat (.int .u32 x_10), [7, 8, 10], lxp4_15102, fun σ m k => ?_⟩
  have e : Lam4.piece (((secsOf (bodyOf Try.f4)).filter Lam4.cut).getD 0 .skip) σ m k = LamP4_15102 σ m k := by kernel_rfl
  rw [e]
  constructor
  · intro h
    unfold LamP4_15102 at h
    obtain ⟨b_7, o_7, h0, h⟩ := kptr_ok h
    obtain ⟨b_8, o_8, h1, h⟩ := kptr_ok h
    obtain ⟨x_10, h2, h⟩ := kI_ok h
    refine ⟨⟨b_7, o_7, b_8, o_8, x_10, h0, h1, h2⟩, ?_⟩
    have ev : [7, 8, 10].map σ = [(.ptr b_7 o_7), (.ptr b_8 o_8), (.flat (.int .u32 x_10))] := by simp only [List.map_cons, List.map_nil, h0, h1, h2]
    rw [ev, pc4_15102]
    exact h
  · rintro ⟨⟨b_7, o_7, b_8, o_8, x_10, h0, h1, h2⟩, h⟩
    have ev : [7, 8, 10].map σ = [(.ptr b_7 o_7), (.ptr b_8 o_8), (.flat (.int .u32 x_10))] := by simp only [List.map_cons, List.map_nil, h0, h1, h2]
    rw [ev, pc4_15102] at h
    unfold LamP4_15102
    simp only [h0, h1, h2, kI, kbool, kS, kptr, kaggN, kite, decide_true, eq_self]
    exact h

theorem eqn4 (c_0 : Nat → AV) (x_1 : Int) (x_2 : Bool) (m : Mem) (k : KV) : bodyK Try.prog E4 Lam4 Try.f4 false [(.agg 11 c_0), (.flat (.int .i64 x_1)), (.flat (.bool x_2))] m k = F4 c_0 x_1 x_2 m (fun x_1000 m' => k (.flat (.bool x_1000)) m') := by
  kernel_rfl

theorem fs4 (w0 : World) : FS Try.prog w0 4 G4 := by
  refine (fs_body (Γ := E4) (sound_env (l := [(9, G9), (10, G10), (11, G11), (12, G12), (13, G13), (14, G14)]) w0 (by
    intro p hp
    simp only [List.mem_cons, List.not_mem_nil, or_false] at hp
    rcases hp with rfl | rfl | rfl | rfl | rfl | rfl
    · exact fs9 w0
    · exact fs10 w0
    · exact fs11 w0
    · exact fs12 w0
    · exact fs13 w0
    · exact fs14 w0)) (by kernel_rfl) Try.func4 (Λ := Lam4) (c := (bodyOf Try.f4)) (by kernel_rfl) Try.call4 (by kernel_rfl) (LS_of (bodyOf Try.f4) 0 (by kernel_rfl) (fun i hi => absurd hi (Nat.not_lt_zero i)) 1 (by kernel_rfl) (by
    intro i hi
    match i, hi with
    | 0, _ => exact pok4_15102
    | i + 1, hi => omega)) false (np := 3) (Nat.le_of_ble_eq_true (by kernel_rfl))).imp fun args => ?_
  by_cases hl : args.length = 3
  rotate_left
  · exact .inr fun m k hk => by
      unfold G4 at hk
      split at hk
      · exact hl rfl
      · exact hk
  obtain ⟨a0, a1, a2, rfl⟩ : ∃ a0 a1 a2, args = [a0, a1, a2] := len_list3 hl
  rcases kaggN_or 11 a0 with ⟨c_0, rfl⟩ | h
  rotate_left
  · exact .inr fun m k hk => h _ (by simpa only [G4, kI, kbool, kS, kptr, kaggN, kite, decide_true, eq_self] using hk)
  rcases kI_or .i64 a1 with ⟨x_1, rfl⟩ | h
  rotate_left
  · exact .inr fun m k hk => h _ (by simpa only [G4, kI, kbool, kS, kptr, kaggN, kite, decide_true, eq_self] using hk)
  rcases kbool_or a2 with ⟨x_2, rfl⟩ | h
  rotate_left
  · exact .inr fun m k hk => h _ (by simpa only [G4, kI, kbool, kS, kptr, kaggN, kite, decide_true, eq_self] using hk)
  exact .inl fun m k => propext ⟨fun h => ⟨rfl, by rw [eqn4]; simpa only [G4, kI, kbool, kS, kptr, kaggN, kite, decide_true, eq_self] using h⟩, fun h => by have h := h.2; rw [eqn4] at h; simpa only [G4, kI, kbool, kS, kptr, kaggN, kite, decide_true, eq_self] using h⟩

def P21_12002 (b_0 o_0 : Nat) (m : Mem) (kn : Mem → Prop) : Prop :=
  ldI .u32 m b_0 (o_0 + 34) fun x17 => stC m b_0 (o_0 + 35) (.flat (.int .u32 (IntKind.wrap .u32 (x17 + 4)))) fun m18 => stC m18 b_0 (o_0 + 36) (.flat (.bool false)) fun m19 => kn  m19

def P21_7102 (b_0 o_0 : Nat) (x_1 : Int) (x_2 : Bool) (x_6 : Bool) (m : Mem) (kn : Mem → Prop) : Prop :=
  ldI .u32 m b_0 (o_0 + 39 + 13) fun x11 => stC m b_0 (o_0 + 39 + 13) (.flat (.int .u32 (bits .or .u32 (bits .andNot .u32 x11 124) (bits .and .u32 (IntKind.wrap .u32 ((IntKind.wrap .u32 x_1) * 4)) 124)))) fun m12 => ldI .u32 m12 b_0 (o_0 + 39 + 12) fun x13 => stC m12 b_0 (o_0 + 39 + 12) (.flat (.int .u32 (bits .or .u32 x13 2))) fun m14 => stC m14 b_0 (o_0 + 34) (.flat (.int .u32 2147484032)) fun m15 => kif x_2 (kif (!x_6) (stC m15 b_0 (o_0 + 34) (.flat (.int .u32 2147483648)) fun m16 => P21_12002 b_0 o_0 m16 (fun m20 => kn  m20)) (P21_12002 b_0 o_0 m15 (fun m21 => kn  m21))) (P21_12002 b_0 o_0 m15 (fun m22 => kn  m22))

/-- pianola/pianolaref6.Enter -/
def F21 (b_0 o_0 : Nat) (x_1 : Int) (x_2 : Bool) (m : Mem) (k : Mem → Prop) : Prop :=
  ldI .u32 m b_0 (o_0 + 39 + 12) fun x1 => kif (!((bits .and .u32 x1 2) != 0)) (ldI .u32 m b_0 (o_0 + 34) fun x2 => stC m b_0 (o_0 + 39 + 14) (.flat (.int .u32 x2)) fun m3 => ldI .u32 m3 b_0 (o_0 + 39 + 13) fun x4 => stC m3 b_0 (o_0 + 39 + 13) (.flat (.int .u32 (bits .andNot .u32 x4 2147483648))) fun m5 => ldB m5 b_0 (o_0 + 36) fun x6 => kif x6 (ldI .u32 m5 b_0 (o_0 + 34) fun x7 => stC m5 b_0 (o_0 + 39 + 14) (.flat (.int .u32 (IntKind.wrap .u32 (x7 - 4)))) fun m8 => ldI .u32 m8 b_0 (o_0 + 39 + 13) fun x9 => stC m8 b_0 (o_0 + 39 + 13) (.flat (.int .u32 (bits .or .u32 x9 2147483648))) fun m10 => P21_7102 b_0 o_0 x_1 x_2 ((bits .and .u32 x1 2) != 0) m10 (fun m23 => k  m23)) (P21_7102 b_0 o_0 x_1 x_2 ((bits .and .u32 x1 2) != 0) m5 (fun m24 => k  m24))) (P21_7102 b_0 o_0 x_1 x_2 ((bits .and .u32 x1 2) != 0) m (fun m25 => k  m25))

def G21 (args : List AV) (m : Mem) (k : KV) : Prop := match args with
  | [a0, a1, a2] => kptr a0 fun b_0 o_0 => kI .i64 a1 fun x_1 => kbool a2 fun x_2 => F21 b_0 o_0 x_1 x_2 m (fun m' => k (.tup []) m')
  | _ => False

def E21 : Env := envOf []

def LamP21_7102 (σ : Nat → AV) (m : Mem) (k : KX) : Prop := kptr (σ 0) fun b_0 o_0 => kI .i64 (σ 1) fun x_1 => kbool (σ 2) fun x_2 => kbool (σ 6) fun x_6 => P21_7102 b_0 o_0 x_1 x_2 x_6 m (fun m' => k .normal (only [] []) m')

def LamP21_12002 (σ : Nat → AV) (m : Mem) (k : KX) : Prop := kptr (σ 0) fun b_0 o_0 => P21_12002 b_0 o_0 m (fun m' => k .normal (only [] []) m')

def Lam21 : LEnv := ⟨fun a σ m k => match firstReg a with
  | _ => bump False,
  fun id => match id with
  | _ => bump false,
  fun b => match keyC b with
  | some 7102 => true
  | some 12002 => true
  | _ => bump false,
  fun b σ m k => match keyC b with
  | some 7102 => LamP21_7102 σ m k
  | some 12002 => LamP21_12002 σ m k
  | _ => bump False⟩

def lxp21_12002 : Ex → List Nat := fun e => match e with
  | .normal => []
  | _ => []

theorem pc21_12002 (b_0 o_0 : Nat) (m : Mem) (k : KX) : once Try.prog E21 Lam21 [0] lxp21_12002 (((secsOf (bodyOf Try.f21)).filter Lam21.cut).getD 1 .skip) [(.ptr b_0 o_0)] m k = P21_12002 b_0 o_0 m (fun m' => k .normal (only [] []) m') := by
  kernel_rfl

theorem pok21_12002 : PieceOK Try.prog E21 Lam21 (((secsOf (bodyOf Try.f21)).filter Lam21.cut).getD 1 .skip) := by
  refine ⟨fun σ => ∃ b_0 o_0, σ 0 = .ptr b_0 o_0, [0], lxp21_12002, fun σ m k => ?_⟩
  have e : Lam21.piece (((secsOf (bodyOf Try.f21)).filter Lam21.cut).getD 1 .skip) σ m k = LamP21_12002 σ m k := by kernel_rfl
  rw [e]
  constructor
  · intro h
    unfold LamP21_12002 at h
    obtain ⟨b_0, o_0, h0, h⟩ := kptr_ok h
    refine ⟨⟨b_0, o_0, h0⟩, ?_⟩
    have ev : [0].map σ = [(.ptr b_0 o_0)] := by simp only [List.map_cons, List.map_nil, h0]
    rw [ev, pc21_12002]
    exact h
  · rintro ⟨⟨b_0, o_0, h0⟩, h⟩
    have ev : [0].map σ = [(.ptr b_0 o_0)] := by simp only [List.map_cons, List.map_nil, h0]
    rw [ev, pc21_12002] at h
    unfold LamP21_12002
    simp only [h0, kI, kbool, kS, kptr, kaggN, kite, decide_true, eq_self]
    exact h

def lxp21_7102 : Ex → List Nat := fun e => match e with
  | .normal => []
  | _ => []

theorem pc21_7102 (b_0 o_0 : Nat) (x_1 : Int) (x_2 : Bool) (x_6 : Bool) (m : Mem) (k : KX) : once Try.prog E21 Lam21 [0, 1, 2, 6] lxp21_7102 (((secsOf (bodyOf Try.f21)).filter Lam21.cut).getD 0 .skip) [(.ptr b_0 o_0), (.flat (.int .i64 x_1)), (.flat (.bool x_2)), (.flat (.bool x_6))] m k = P21_7102 b_0 o_0 x_1 x_2 x_6 m (fun m' => k .normal (only [] []) m') := by
  kernel_rfl

theorem pok21_7102 : PieceOK Try.prog E21 Lam21 (((secsOf (bodyOf Try.f21)).filter Lam21.cut).getD 0 .skip) := by
  refine ⟨fun σ => ∃ b_0 o_0 x_1 x_2 x_6, σ 0 = .ptr b_0 o_0 ∧ σ 1 = .flat (.int .i64 x_1) ∧ σ 2 = .flat (.bool x_2) ∧ σ 6 = .flat (.bool x_6), [0, 1, 2, 6], lxp21_7102, fun σ m k => ?_⟩
  have e : Lam21.piece (((secsOf (bodyOf Try.f21)).filter Lam21.cut).getD 0 .skip) σ m k = LamP21_7102 σ m k := by kernel_rfl
  rw [e]
  constructor
  · intro h
    unfold LamP21_7102 at h
    obtain ⟨b_0, o_0, h0, h⟩ := kptr_ok h
    obtain ⟨x_1, h1, h⟩ := kI_ok h
    obtain ⟨x_2, h2, h⟩ := kbool_ok h
    obtain ⟨x_6, h3, h⟩ := kbool_ok h
    refine ⟨⟨b_0, o_0, x_1, x_2, x_6, h0, h1, h2, h3⟩, ?_⟩
    have ev : [0, 1, 2, 6].map σ = [(.ptr b_0 o_0), (.flat (.int .i64 x_1)), (.flat (.bool x_2)), (.flat (.bool x_6))] := by simp only [List.map_cons, List.map_nil, h0, h1, h2, h3]
    rw [ev, pc21_7102]
    exact h
  · rintro ⟨⟨b_0, o_0, x_1, x_2, x_6, h0, h1, h2, h3⟩, h⟩
    have ev : [0, 1, 2, 6].map σ = [(.ptr b_0 o_0), (.flat (.int .i64 x_1)), (.flat (.bool x_2)), (.flat (.bool x_6))] := by simp only [List.map_cons, List.map_nil, h0, h1, h2, h3]
    rw [ev, pc21_7102] at h
    unfold LamP21_7102
    simp only [h0, h1, h2, h3, kI, kbool, kS, kptr, kaggN, kite, decide_true, eq_self]
    exact h

theorem eqn21 (b_0 o_0 : Nat) (x_1 : Int) (x_2 : Bool) (m : Mem) (k : KV) : bodyK Try.prog E21 Lam21 Try.f21 false [(.ptr b_0 o_0), (.flat (.int .i64 x_1)), (.flat (.bool x_2))] m k = F21 b_0 o_0 x_1 x_2 m (fun m' => k (.tup []) m') := by
  kernel_rfl

theorem fs21 (w0 : World) : FS Try.prog w0 21 G21 := by
  refine (fs_body (Γ := E21) (sound_env (l := []) w0 (by
    intro p hp
    cases hp)) (by kernel_rfl) Try.func21 (Λ := Lam21) (c := (bodyOf Try.f21)) (by kernel_rfl) Try.call21 (by kernel_rfl) (LS_of (bodyOf Try.f21) 0 (by kernel_rfl) (fun i hi => absurd hi (Nat.not_lt_zero i)) 2 (by kernel_rfl) (by
    intro i hi
    match i, hi with
    | 0, _ => exact pok21_7102
    | 1, _ => exact pok21_12002
    | i + 2, hi => omega)) false (np := 3) (Nat.le_of_ble_eq_true (by kernel_rfl))).imp fun args => ?_
  by_cases hl : args.length = 3
  rotate_left
  · exact .inr fun m k hk => by
      unfold G21 at hk
      split at hk
      · exact hl rfl
      · exact hk
  obtain ⟨a0, a1, a2, rfl⟩ : ∃ a0 a1 a2, args = [a0, a1, a2] := len_list3 hl
  rcases kptr_or a0 with ⟨b_0, o_0, rfl⟩ | h
  rotate_left
  · exact .inr fun m k hk => h _ (by simpa only [G21, kI, kbool, kS, kptr, kaggN, kite, decide_true, eq_self] using hk)
  rcases kI_or .i64 a1 with ⟨x_1, rfl⟩ | h
  rotate_left
  · exact .inr fun m k hk => h _ (by simpa only [G21, kI, kbool, kS, kptr, kaggN, kite, decide_true, eq_self] using hk)
  rcases kbool_or a2 with ⟨x_2, rfl⟩ | h
  rotate_left
  · exact .inr fun m k hk => h _ (by simpa only [G21, kI, kbool, kS, kptr, kaggN, kite, decide_true, eq_self] using hk)
  exact .inl fun m k => propext ⟨fun h => ⟨rfl, by rw [eqn21]; simpa only [G21, kI, kbool, kS, kptr, kaggN, kite, decide_true, eq_self] using h⟩, fun h => by have h := h.2; rw [eqn21] at h; simpa only [G21, kI, kbool, kS, kptr, kaggN, kite, decide_true, eq_self] using h⟩

/-- pianola/cp0.Bad -/
def F22 (b_0 o_0 : Nat) (x_1 : Int) (x_2 : Bool) (m : Mem) (k : Mem → Prop) : Prop :=
  stC m b_0 (o_0 + 39 + 8) (.flat (.int .u32 x_1)) fun m1 => kif x_2 (ldI .u32 m1 b_0 (o_0 + 39 + 10) fun x2 => stC m1 b_0 (o_0 + 39 + 10) (.flat (.int .u32 (bits .or .u32 (bits .andNot .u32 x2 4294966272) (bits .and .u32 x_1 4294966272)))) fun m3 => k  m3) (k  m1)

def G22 (args : List AV) (m : Mem) (k : KV) : Prop := match args with
  | [a0, a1, a2] => kptr a0 fun b_0 o_0 => kI .u32 a1 fun x_1 => kbool a2 fun x_2 => F22 b_0 o_0 x_1 x_2 m (fun m' => k (.tup []) m')
  | _ => False

def E22 : Env := envOf []

def Lam22 : LEnv := ⟨fun a σ m k => match firstReg a with
  | _ => bump False,
  fun id => match id with
  | _ => bump false,
  fun b => match keyC b with
  | _ => bump false,
  fun b σ m k => match keyC b with
  | _ => bump False⟩

theorem eqn22 (b_0 o_0 : Nat) (x_1 : Int) (x_2 : Bool) (m : Mem) (k : KV) : bodyK Try.prog E22 Lam22 Try.f22 false [(.ptr b_0 o_0), (.flat (.int .u32 x_1)), (.flat (.bool x_2))] m k = F22 b_0 o_0 x_1 x_2 m (fun m' => k (.tup []) m') := by
  kernel_rfl

theorem fs22 (w0 : World) : FS Try.prog w0 22 G22 := by
  refine (fs_body (Γ := E22) (sound_env (l := []) w0 (by
    intro p hp
    cases hp)) (by kernel_rfl) Try.func22 (Λ := Lam22) (c := (bodyOf Try.f22)) (by kernel_rfl) Try.call22 (by kernel_rfl) (LS_of (bodyOf Try.f22) 0 (by kernel_rfl) (fun i hi => absurd hi (Nat.not_lt_zero i)) 0 (by kernel_rfl) (fun i hi => absurd hi (Nat.not_lt_zero i))) false (np := 3) (Nat.le_of_ble_eq_true (by kernel_rfl))).imp fun args => ?_
  by_cases hl : args.length = 3
  rotate_left
  · exact .inr fun m k hk => by
      unfold G22 at hk
      split at hk
      · exact hl rfl
      · exact hk
  obtain ⟨a0, a1, a2, rfl⟩ : ∃ a0 a1 a2, args = [a0, a1, a2] := len_list3 hl
  rcases kptr_or a0 with ⟨b_0, o_0, rfl⟩ | h
  rotate_left
  · exact .inr fun m k hk => h _ (by simpa only [G22, kI, kbool, kS, kptr, kaggN, kite, decide_true, eq_self] using hk)
  rcases kI_or .u32 a1 with ⟨x_1, rfl⟩ | h
  rotate_left
  · exact .inr fun m k hk => h _ (by simpa only [G22, kI, kbool, kS, kptr, kaggN, kite, decide_true, eq_self] using hk)
  rcases kbool_or a2 with ⟨x_2, rfl⟩ | h
  rotate_left
  · exact .inr fun m k hk => h _ (by simpa only [G22, kI, kbool, kS, kptr, kaggN, kite, decide_true, eq_self] using hk)
  exact .inl fun m k => propext ⟨fun h => ⟨rfl, by rw [eqn22]; simpa only [G22, kI, kbool, kS, kptr, kaggN, kite, decide_true, eq_self] using h⟩, fun h => by have h := h.2; rw [eqn22] at h; simpa only [G22, kI, kbool, kS, kptr, kaggN, kite, decide_true, eq_self] using h⟩

/-- pianola/pianolaref6.Bad -/
def F23 (b_0 o_0 : Nat) (x_1 : Int) (x_2 : Bool) (m : Mem) (k : Mem → Prop) : Prop :=
  stC m b_0 (o_0 + 39 + 8) (.flat (.int .u32 x_1)) fun m1 => kif x_2 (ldI .u32 m1 b_0 (o_0 + 39 + 10) fun x2 => stC m1 b_0 (o_0 + 39 + 10) (.flat (.int .u32 (bits .or .u32 (bits .and .u32 x2 1023) (bits .andNot .u32 x_1 1023)))) fun m3 => k  m3) (k  m1)

def G23 (args : List AV) (m : Mem) (k : KV) : Prop := match args with
  | [a0, a1, a2] => kptr a0 fun b_0 o_0 => kI .u32 a1 fun x_1 => kbool a2 fun x_2 => F23 b_0 o_0 x_1 x_2 m (fun m' => k (.tup []) m')
  | _ => False

def E23 : Env := envOf []

def Lam23 : LEnv := ⟨fun a σ m k => match firstReg a with
  | _ => bump False,
  fun id => match id with
  | _ => bump false,
  fun b => match keyC b with
  | _ => bump false,
  fun b σ m k => match keyC b with
  | _ => bump False⟩

theorem eqn23 (b_0 o_0 : Nat) (x_1 : Int) (x_2 : Bool) (m : Mem) (k : KV) : bodyK Try.prog E23 Lam23 Try.f23 false [(.ptr b_0 o_0), (.flat (.int .u32 x_1)), (.flat (.bool x_2))] m k = F23 b_0 o_0 x_1 x_2 m (fun m' => k (.tup []) m') := by
  kernel_rfl

theorem fs23 (w0 : World) : FS Try.prog w0 23 G23 := by
  refine (fs_body (Γ := E23) (sound_env (l := []) w0 (by
    intro p hp
    cases hp)) (by kernel_rfl) Try.func23 (Λ := Lam23) (c := (bodyOf Try.f23)) (by kernel_rfl) Try.call23 (by kernel_rfl) (LS_of (bodyOf Try.f23) 0 (by kernel_rfl) (fun i hi => absurd hi (Nat.not_lt_zero i)) 0 (by kernel_rfl) (fun i hi => absurd hi (Nat.not_lt_zero i))) false (np := 3) (Nat.le_of_ble_eq_true (by kernel_rfl))).imp fun args => ?_
  by_cases hl : args.length = 3
  rotate_left
  · exact .inr fun m k hk => by
      unfold G23 at hk
      split at hk
      · exact hl rfl
      · exact hk
  obtain ⟨a0, a1, a2, rfl⟩ : ∃ a0 a1 a2, args = [a0, a1, a2] := len_list3 hl
  rcases kptr_or a0 with ⟨b_0, o_0, rfl⟩ | h
  rotate_left
  · exact .inr fun m k hk => h _ (by simpa only [G23, kI, kbool, kS, kptr, kaggN, kite, decide_true, eq_self] using hk)
  rcases kI_or .u32 a1 with ⟨x_1, rfl⟩ | h
  rotate_left
  · exact .inr fun m k hk => h _ (by simpa only [G23, kI, kbool, kS, kptr, kaggN, kite, decide_true, eq_self] using hk)
  rcases kbool_or a2 with ⟨x_2, rfl⟩ | h
  rotate_left
  · exact .inr fun m k hk => h _ (by simpa only [G23, kI, kbool, kS, kptr, kaggN, kite, decide_true, eq_self] using hk)
  exact .inl fun m k => propext ⟨fun h => ⟨rfl, by rw [eqn23]; simpa only [G23, kI, kbool, kS, kptr, kaggN, kite, decide_true, eq_self] using h⟩, fun h => by have h := h.2; rw [eqn23] at h; simpa only [G23, kI, kbool, kS, kptr, kaggN, kite, decide_true, eq_self] using h⟩

/-- pianola/pianolaref6.Return -/
def F24 (b_0 o_0 : Nat) (m : Mem) (k : Mem → Prop) : Prop :=
  ldI .u32 m b_0 (o_0 + 39 + 14) fun x1 => stC m b_0 (o_0 + 34) (.flat (.int .u32 x1)) fun m2 => ldI .u32 m2 b_0 (o_0 + 34) fun x3 => stC m2 b_0 (o_0 + 35) (.flat (.int .u32 (IntKind.wrap .u32 (x3 + 4)))) fun m4 => stC m4 b_0 (o_0 + 36) (.flat (.bool false)) fun m5 => stC m5 b_0 (o_0 + 37) (.flat (.bool false)) fun m6 => ldI .u32 m6 b_0 (o_0 + 39 + 12) fun x7 => stC m6 b_0 (o_0 + 39 + 12) (.flat (.int .u32 (bits .andNot .u32 x7 2))) fun m8 => k  m8

def G24 (args : List AV) (m : Mem) (k : KV) : Prop := match args with
  | [a0] => kptr a0 fun b_0 o_0 => F24 b_0 o_0 m (fun m' => k (.tup []) m')
  | _ => False

def E24 : Env := envOf []

def Lam24 : LEnv := ⟨fun a σ m k => match firstReg a with
  | _ => bump False,
  fun id => match id with
  | _ => bump false,
  fun b => match keyC b with
  | _ => bump false,
  fun b σ m k => match keyC b with
  | _ => bump False⟩

theorem eqn24 (b_0 o_0 : Nat) (m : Mem) (k : KV) : bodyK Try.prog E24 Lam24 Try.f24 false [(.ptr b_0 o_0)] m k = F24 b_0 o_0 m (fun m' => k (.tup []) m') := by
  kernel_rfl

theorem fs24 (w0 : World) : FS Try.prog w0 24 G24 := by
  refine (fs_body (Γ := E24) (sound_env (l := []) w0 (by
    intro p hp
    cases hp)) (by kernel_rfl) Try.func24 (Λ := Lam24) (c := (bodyOf Try.f24)) (by kernel_rfl) Try.call24 (by kernel_rfl) (LS_of (bodyOf Try.f24) 0 (by kernel_rfl) (fun i hi => absurd hi (Nat.not_lt_zero i)) 0 (by kernel_rfl) (fun i hi => absurd hi (Nat.not_lt_zero i))) false (np := 1) (Nat.le_of_ble_eq_true (by kernel_rfl))).imp fun args => ?_
  by_cases hl : args.length = 1
  rotate_left
  · exact .inr fun m k hk => by
      unfold G24 at hk
      split at hk
      · exact hl rfl
      · exact hk
  obtain ⟨a0, rfl⟩ : ∃ a0, args = [a0] := len_list1 hl
  rcases kptr_or a0 with ⟨b_0, o_0, rfl⟩ | h
  rotate_left
  · exact .inr fun m k hk => h _ (by simpa only [G24, kI, kbool, kS, kptr, kaggN, kite, decide_true, eq_self] using hk)
  exact .inl fun m k => propext ⟨fun h => ⟨rfl, by rw [eqn24]; simpa only [G24, kI, kbool, kS, kptr, kaggN, kite, decide_true, eq_self] using h⟩, fun h => by have h := h.2; rw [eqn24] at h; simpa only [G24, kI, kbool, kS, kptr, kaggN, kite, decide_true, eq_self] using h⟩

/-- pianola/pianolaref6.Missing -/
def F33 (b_0 o_0 : Nat) (m : Mem) (k : Int → Mem → Prop) : Prop :=
  ldI .u32 m b_0 (o_0 + 39 + 11) fun x1 => ldI .u32 m b_0 (o_0 + 39 + 9) fun x2 => kif ((IntKind.wrap .i64 (IntKind.wrap .u32 (x1 - x2))) == 0) ((Keeps m m ∧ k 4294967296 m)) ((Keeps m m ∧ k (IntKind.wrap .i64 (IntKind.wrap .u32 (x1 - x2))) m))

def G33 (args : List AV) (m : Mem) (k : KV) : Prop := match args with
  | [a0] => kptr a0 fun b_0 o_0 => F33 b_0 o_0 m (fun x_1000 m' => k (.flat (.int .i64 x_1000)) m')
  | _ => False

def E33 : Env := envOf []

def Lam33 : LEnv := ⟨fun a σ m k => match firstReg a with
  | _ => bump False,
  fun id => match id with
  | _ => bump false,
  fun b => match keyC b with
  | _ => bump false,
  fun b σ m k => match keyC b with
  | _ => bump False⟩

theorem eqn33 (b_0 o_0 : Nat) (m : Mem) (k : KV) : bodyK Try.prog E33 Lam33 Try.f33 true [(.ptr b_0 o_0)] m k = F33 b_0 o_0 m (fun x_1000 m' => k (.flat (.int .i64 x_1000)) m') := by
  kernel_rfl

theorem fs33 (w0 : World) : FS Try.prog w0 33 G33 := by
  refine (fs_body (Γ := E33) (sound_env (l := []) w0 (by
    intro p hp
    cases hp)) (by kernel_rfl) Try.func33 (Λ := Lam33) (c := (bodyOf Try.f33)) (by kernel_rfl) Try.call33 (by kernel_rfl) (LS_of (bodyOf Try.f33) 0 (by kernel_rfl) (fun i hi => absurd hi (Nat.not_lt_zero i)) 0 (by kernel_rfl) (fun i hi => absurd hi (Nat.not_lt_zero i))) true (np := 1) (Nat.le_of_ble_eq_true (by kernel_rfl))).imp fun args => ?_
  by_cases hl : args.length = 1
  rotate_left
  · exact .inr fun m k hk => by
      unfold G33 at hk
      split at hk
      · exact hl rfl
      · exact hk
  obtain ⟨a0, rfl⟩ : ∃ a0, args = [a0] := len_list1 hl
  rcases kptr_or a0 with ⟨b_0, o_0, rfl⟩ | h
  rotate_left
  · exact .inr fun m k hk => h _ (by simpa only [G33, kI, kbool, kS, kptr, kaggN, kite, decide_true, eq_self] using hk)
  exact .inl fun m k => propext ⟨fun h => ⟨rfl, by rw [eqn33]; simpa only [G33, kI, kbool, kS, kptr, kaggN, kite, decide_true, eq_self] using h⟩, fun h => by have h := h.2; rw [eqn33] at h; simpa only [G33, kI, kbool, kS, kptr, kaggN, kite, decide_true, eq_self] using h⟩

/-- pianola/pianolaref6.Go -/
def F25 (b_0 o_0 : Nat) (x_1 : Int) (m : Mem) (k : Bool → Mem → Prop) : Prop :=
  kif (decide (x_1 < 1)) (k false m) (F33 b_0 o_0 m fun x1 m2 => ldI .i64 m2 b_0 (o_0 + 72) fun x3 => stC m2 b_0 (o_0 + 72) (.flat (.int .i64 (IntKind.wrap .i64 (x3 + x_1)))) fun m4 => ldI .u32 m4 b_0 (o_0 + 39 + 9) fun x5 => stC m4 b_0 (o_0 + 39 + 9) (.flat (.int .u32 (IntKind.wrap .u32 (x5 + (IntKind.wrap .u32 x_1))))) fun m6 => kif (decide (x1 ≤ x_1)) (ldI .u32 m6 b_0 (o_0 + 39 + 13) fun x7 => stC m6 b_0 (o_0 + 39 + 13) (.flat (.int .u32 (bits .or .u32 x7 32768))) fun m8 => k (decide (x1 ≤ x_1)) m8) (k (decide (x1 ≤ x_1)) m6))

def G25 (args : List AV) (m : Mem) (k : KV) : Prop := match args with
  | [a0, a1] => kptr a0 fun b_0 o_0 => kI .i64 a1 fun x_1 => F25 b_0 o_0 x_1 m (fun x_1000 m' => k (.flat (.bool x_1000)) m')
  | _ => False

def E25 : Env := envOf [(33, G33)]

def Lam25 : LEnv := ⟨fun a σ m k => match firstReg a with
  | _ => bump False,
  fun id => match id with
  | _ => bump false,
  fun b => match keyC b with
  | _ => bump false,
  fun b σ m k => match keyC b with
  | _ => bump False⟩

theorem eqn25 (b_0 o_0 : Nat) (x_1 : Int) (m : Mem) (k : KV) : bodyK Try.prog E25 Lam25 Try.f25 false [(.ptr b_0 o_0), (.flat (.int .i64 x_1))] m k = F25 b_0 o_0 x_1 m (fun x_1000 m' => k (.flat (.bool x_1000)) m') := by
  kernel_rfl

theorem fs25 (w0 : World) : FS Try.prog w0 25 G25 := by
  refine (fs_body (Γ := E25) (sound_env (l := [(33, G33)]) w0 (by
    intro p hp
    simp only [List.mem_cons, List.not_mem_nil, or_false] at hp
    rcases hp with rfl
    · exact fs33 w0)) (by kernel_rfl) Try.func25 (Λ := Lam25) (c := (bodyOf Try.f25)) (by kernel_rfl) Try.call25 (by kernel_rfl) (LS_of (bodyOf Try.f25) 0 (by kernel_rfl) (fun i hi => absurd hi (Nat.not_lt_zero i)) 0 (by kernel_rfl) (fun i hi => absurd hi (Nat.not_lt_zero i))) false (np := 2) (Nat.le_of_ble_eq_true (by kernel_rfl))).imp fun args => ?_
  by_cases hl : args.length = 2
  rotate_left
  · exact .inr fun m k hk => by
      unfold G25 at hk
      split at hk
      · exact hl rfl
      · exact hk
  obtain ⟨a0, a1, rfl⟩ : ∃ a0 a1, args = [a0, a1] := len_list2 hl
  rcases kptr_or a0 with ⟨b_0, o_0, rfl⟩ | h
  rotate_left
  · exact .inr fun m k hk => h _ (by simpa only [G25, kI, kbool, kS, kptr, kaggN, kite, decide_true, eq_self] using hk)
  rcases kI_or .i64 a1 with ⟨x_1, rfl⟩ | h
  rotate_left
  · exact .inr fun m k hk => h _ (by simpa only [G25, kI, kbool, kS, kptr, kaggN, kite, decide_true, eq_self] using hk)
  exact .inl fun m k => propext ⟨fun h => ⟨rfl, by rw [eqn25]; simpa only [G25, kI, kbool, kS, kptr, kaggN, kite, decide_true, eq_self] using h⟩, fun h => by have h := h.2; rw [eqn25] at h; simpa only [G25, kI, kbool, kS, kptr, kaggN, kite, decide_true, eq_self] using h⟩

/-- pianola/cp0.Line -/
def F26 (b_0 o_0 : Nat) (x_1 : Bool) (m : Mem) (k : Mem → Prop) : Prop :=
  ldI .u32 m b_0 (o_0 + 39 + 13) fun x1 => stC m b_0 (o_0 + 39 + 13) (.flat (.int .u32 (bits .andNot .u32 x1 1024))) fun m2 => kif x_1 (ldI .u32 m2 b_0 (o_0 + 39 + 13) fun x3 => stC m2 b_0 (o_0 + 39 + 13) (.flat (.int .u32 (bits .or .u32 x3 1024))) fun m4 => k  m4) (k  m2)

def G26 (args : List AV) (m : Mem) (k : KV) : Prop := match args with
  | [a0, a1] => kptr a0 fun b_0 o_0 => kbool a1 fun x_1 => F26 b_0 o_0 x_1 m (fun m' => k (.tup []) m')
  | _ => False

def E26 : Env := envOf []

def Lam26 : LEnv := ⟨fun a σ m k => match firstReg a with
  | _ => bump False,
  fun id => match id with
  | _ => bump false,
  fun b => match keyC b with
  | _ => bump false,
  fun b σ m k => match keyC b with
  | _ => bump False⟩

theorem eqn26 (b_0 o_0 : Nat) (x_1 : Bool) (m : Mem) (k : KV) : bodyK Try.prog E26 Lam26 Try.f26 false [(.ptr b_0 o_0), (.flat (.bool x_1))] m k = F26 b_0 o_0 x_1 m (fun m' => k (.tup []) m') := by
  kernel_rfl

theorem fs26 (w0 : World) : FS Try.prog w0 26 G26 := by
  refine (fs_body (Γ := E26) (sound_env (l := []) w0 (by
    intro p hp
    cases hp)) (by kernel_rfl) Try.func26 (Λ := Lam26) (c := (bodyOf Try.f26)) (by kernel_rfl) Try.call26 (by kernel_rfl) (LS_of (bodyOf Try.f26) 0 (by kernel_rfl) (fun i hi => absurd hi (Nat.not_lt_zero i)) 0 (by kernel_rfl) (fun i hi => absurd hi (Nat.not_lt_zero i))) false (np := 2) (Nat.le_of_ble_eq_true (by kernel_rfl))).imp fun args => ?_
  by_cases hl : args.length = 2
  rotate_left
  · exact .inr fun m k hk => by
      unfold G26 at hk
      split at hk
      · exact hl rfl
      · exact hk
  obtain ⟨a0, a1, rfl⟩ : ∃ a0 a1, args = [a0, a1] := len_list2 hl
  rcases kptr_or a0 with ⟨b_0, o_0, rfl⟩ | h
  rotate_left
  · exact .inr fun m k hk => h _ (by simpa only [G26, kI, kbool, kS, kptr, kaggN, kite, decide_true, eq_self] using hk)
  rcases kbool_or a1 with ⟨x_1, rfl⟩ | h
  rotate_left
  · exact .inr fun m k hk => h _ (by simpa only [G26, kI, kbool, kS, kptr, kaggN, kite, decide_true, eq_self] using hk)
  exact .inl fun m k => propext ⟨fun h => ⟨rfl, by rw [eqn26]; simpa only [G26, kI, kbool, kS, kptr, kaggN, kite, decide_true, eq_self] using h⟩, fun h => by have h := h.2; rw [eqn26] at h; simpa only [G26, kI, kbool, kS, kptr, kaggN, kite, decide_true, eq_self] using h⟩

end Go.Proofs.Ytckhobljijpfpaa.Am
