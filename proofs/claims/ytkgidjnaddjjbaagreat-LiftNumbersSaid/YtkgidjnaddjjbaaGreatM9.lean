/- What Go functions ask of what follows them, as plain functions over the abstract machine; the machine asks just that. Written by gen.py. -/
import Derived.Test.YtkgidjnaddjjbaaGreatProg
import Derived.Test.YtkgidjnaddjjbaaGreatAmL
import Derived.Test.YtkgidjnaddjjbaaGreatM8
namespace Go.Proofs.YtkgidjnaddjjbaaGreat.Am
set_option linter.unusedVariables false
set_option linter.unusedSimpArgs false
set_option maxRecDepth 100000

def E46 : Env := envOf [(85, G85), (86, G86), (87, G87)]

def P46_3004 (b_0 o_0 : Nat) (b_3 o_3 : Nat) (x_4 : Int) (x_5 : Int) (x_72 : Bool) (m : Mem) (kn : Mem → Prop) : Prop :=
  kif x_72 (kn  m) (∃ Fr19 : Nat → Prop, Fr19 b_3 ∧ (ldI .i64 m b_3 (o_3 + 1) fun x20 => Fr19 b_3 ∧ (ldG 5 m b_3 o_3 fun c21 => F87 c21 x_4 x_5 m fun x22 m23 => KeepsIn Fr19 m m23 ∧ (kif (decide (0 ≤ x20) && decide (x20 < 40)) (stC m23 b_0 (o_0 + (x20).toNat * 1) (.flat (.int .u32 x22)) fun m24 => kn  m24) False))))

def P46_7004 (b_0 o_0 : Nat) (b_3 o_3 : Nat) (x_4 : Int) (x_5 : Int) (x_6 : Int) (x_51 : Bool) (m : Mem) (kn : Mem → Prop) : Prop :=
  kif x_51 (F86 x_4 x_5 (x_6 == 19) m fun x13 x14 m15 => stC m15 b_0 (o_0 + 33) (.flat (.int .u32 x13)) fun m16 => stC m16 b_0 (o_0 + 32) (.flat (.int .u32 x14)) fun m17 => kn  m17) (kif (x_6 == 0) (P46_3004 b_0 o_0 b_3 o_3 x_4 x_5 true m (fun m25 => kn  m25)) (ldI .i64 m b_3 (o_3 + 1) fun x18 => kif (x18 == 0) (P46_3004 b_0 o_0 b_3 o_3 x_4 x_5 true m (fun m26 => kn  m26)) (kif (x_6 == 21) (P46_3004 b_0 o_0 b_3 o_3 x_4 x_5 (!((x_5 == 0) == (x_6 == 21))) m (fun m27 => kn  m27)) (kif (x_6 == 22) (P46_3004 b_0 o_0 b_3 o_3 x_4 x_5 (!((x_5 == 0) == (x_6 == 21))) m (fun m28 => kn  m28)) (P46_3004 b_0 o_0 b_3 o_3 x_4 x_5 false m (fun m29 => kn  m29))))))

def P46_5004 (b_0 o_0 : Nat) (b_3 o_3 : Nat) (x_4 : Int) (x_5 : Int) (x_6 : Int) (x_30 : Bool) (m : Mem) (kn : Mem → Prop) : Prop :=
  kif x_30 (F85 x_4 x_5 (x_6 == 17) m fun x8 x9 m10 => stC m10 b_0 (o_0 + 32) (.flat (.int .u32 x8)) fun m11 => stC m11 b_0 (o_0 + 33) (.flat (.int .u32 x9)) fun m12 => kn  m12) (kif (x_6 == 19) (P46_7004 b_0 o_0 b_3 o_3 x_4 x_5 x_6 true m (fun m30 => kn  m30)) (P46_7004 b_0 o_0 b_3 o_3 x_4 x_5 x_6 (x_6 == 20) m (fun m31 => kn  m31)))

/-- (*pianola/ir.Regs).do -/
def F46 (b_0 o_0 : Nat) (c_1 : Nat → AV) (m : Mem) (k : Mem → Prop) : Prop :=
  newK m ⟨5, c_1, 66, false⟩ fun b2 m1 => ldI .i64 m1 b2 2 fun x3 => kif (decide (0 ≤ x3) && decide (x3 < 40)) (ldI .u32 m1 b_0 (o_0 + (x3).toNat * 1) fun x4 => ldI .i64 m1 b2 3 fun x5 => kif (decide (0 ≤ x5) && decide (x5 < 40)) (ldI .u32 m1 b_0 (o_0 + (x5).toNat * 1) fun x6 => ldI .i64 m1 b2 0 fun x7 => kif (x7 == 17) (P46_5004 b_0 o_0 b2 0 x4 x6 x7 true m1 (fun m32 => k  m32)) (P46_5004 b_0 o_0 b2 0 x4 x6 x7 (x7 == 18) m1 (fun m33 => k  m33))) False) False

def G46 (args : List AV) (m : Mem) (k : KV) : Prop := match args with
  | [a0, a1] => kptr a0 fun b_0 o_0 => kaggN 5 a1 fun c_1 => F46 b_0 o_0 c_1 m (fun m' => k (.tup []) m')
  | _ => False

def LamP46_5004 (σ : Nat → AV) (m : Mem) (k : KX) : Prop := kptr (σ 0) fun b_0 o_0 => kptr (σ 3) fun b_3 o_3 => kI .u32 (σ 4) fun x_4 => kI .u32 (σ 5) fun x_5 => kI .i64 (σ 6) fun x_6 => kbool (σ 30) fun x_30 => P46_5004 b_0 o_0 b_3 o_3 x_4 x_5 x_6 x_30 m (fun m' => k .normal (only [] []) m')

def LamP46_7004 (σ : Nat → AV) (m : Mem) (k : KX) : Prop := kptr (σ 0) fun b_0 o_0 => kptr (σ 3) fun b_3 o_3 => kI .u32 (σ 4) fun x_4 => kI .u32 (σ 5) fun x_5 => kI .i64 (σ 6) fun x_6 => kbool (σ 51) fun x_51 => P46_7004 b_0 o_0 b_3 o_3 x_4 x_5 x_6 x_51 m (fun m' => k .normal (only [] []) m')

def LamP46_3004 (σ : Nat → AV) (m : Mem) (k : KX) : Prop := kptr (σ 0) fun b_0 o_0 => kptr (σ 3) fun b_3 o_3 => kI .u32 (σ 4) fun x_4 => kI .u32 (σ 5) fun x_5 => kbool (σ 72) fun x_72 => P46_3004 b_0 o_0 b_3 o_3 x_4 x_5 x_72 m (fun m' => k .normal (only [] []) m')

def Lam46 : LEnv := ⟨fun a σ m k => match firstReg a with
  | _ => bump False,
  fun id => match id with
  | 3 => true
  | _ => bump false,
  fun b => match keyC b with
  | some 5004 => true
  | some 7004 => true
  | some 3004 => true
  | _ => bump false,
  fun b σ m k => match keyC b with
  | some 5004 => LamP46_5004 σ m k
  | some 7004 => LamP46_7004 σ m k
  | some 3004 => LamP46_3004 σ m k
  | _ => bump False⟩

def lxp46_3004 : Ex → List Nat := fun e => match e with
  | .normal => []
  | _ => []

theorem pc46_3004 (b_0 o_0 : Nat) (b_3 o_3 : Nat) (x_4 : Int) (x_5 : Int) (x_72 : Bool) (m : Mem) (k : KX) : once Tryz.prog E46 Lam46 [0, 3, 4, 5, 72] lxp46_3004 (((secsOf (bodyOf Tryz.f46)).filter Lam46.cut).getD 2 .skip) [(.ptr b_0 o_0), (.ptr b_3 o_3), (.flat (.int .u32 x_4)), (.flat (.int .u32 x_5)), (.flat (.bool x_72))] m k = P46_3004 b_0 o_0 b_3 o_3 x_4 x_5 x_72 m (fun m' => k .normal (only [] []) m') := by
  kernel_rfl

theorem pok46_3004 : PieceOK Tryz.prog E46 Lam46 (((secsOf (bodyOf Tryz.f46)).filter Lam46.cut).getD 2 .skip) := by
  refine ⟨fun σ => ∃ b_0 o_0 b_3 o_3 x_4 x_5 x_72, σ 0 = .ptr b_0 o_0 ∧ σ 3 = .ptr b_3 o_3 ∧ σ 4 = .flat (.int .u32 x_4) ∧ σ 5 = .flat (.int .u32 x_5) ∧ σ 72 = .flat (.bool x_72), [0, 3, 4, 5, 72], lxp46_3004, fun σ m k => ?_⟩
  have e : Lam46.piece (((secsOf (bodyOf Tryz.f46)).filter Lam46.cut).getD 2 .skip) σ m k = LamP46_3004 σ m k := by kernel_rfl
  rw [e]
  constructor
  · intro h
    unfold LamP46_3004 at h
    obtain ⟨b_0, o_0, h0, h⟩ := kptr_ok h
    obtain ⟨b_3, o_3, h1, h⟩ := kptr_ok h
    obtain ⟨x_4, h2, h⟩ := kI_ok h
    obtain ⟨x_5, h3, h⟩ := kI_ok h
    obtain ⟨x_72, h4, h⟩ := kbool_ok h
    refine ⟨⟨b_0, o_0, b_3, o_3, x_4, x_5, x_72, h0, h1, h2, h3, h4⟩, ?_⟩
    have ev : [0, 3, 4, 5, 72].map σ = [(.ptr b_0 o_0), (.ptr b_3 o_3), (.flat (.int .u32 x_4)), (.flat (.int .u32 x_5)), (.flat (.bool x_72))] := by simp only [List.map_cons, List.map_nil, h0, h1, h2, h3, h4]
    rw [ev, pc46_3004]
    exact h
  · rintro ⟨⟨b_0, o_0, b_3, o_3, x_4, x_5, x_72, h0, h1, h2, h3, h4⟩, h⟩
    have ev : [0, 3, 4, 5, 72].map σ = [(.ptr b_0 o_0), (.ptr b_3 o_3), (.flat (.int .u32 x_4)), (.flat (.int .u32 x_5)), (.flat (.bool x_72))] := by simp only [List.map_cons, List.map_nil, h0, h1, h2, h3, h4]
    rw [ev, pc46_3004] at h
    unfold LamP46_3004
    try simp only [h0, h1, h2, h3, h4, kI, kbool, kS, kptr, kaggN, kite, decide_true, eq_self]
    exact h

def lxp46_7004 : Ex → List Nat := fun e => match e with
  | .normal => []
  | _ => []

theorem pc46_7004 (b_0 o_0 : Nat) (b_3 o_3 : Nat) (x_4 : Int) (x_5 : Int) (x_6 : Int) (x_51 : Bool) (m : Mem) (k : KX) : once Tryz.prog E46 Lam46 [0, 3, 4, 5, 6, 51] lxp46_7004 (((secsOf (bodyOf Tryz.f46)).filter Lam46.cut).getD 1 .skip) [(.ptr b_0 o_0), (.ptr b_3 o_3), (.flat (.int .u32 x_4)), (.flat (.int .u32 x_5)), (.flat (.int .i64 x_6)), (.flat (.bool x_51))] m k = P46_7004 b_0 o_0 b_3 o_3 x_4 x_5 x_6 x_51 m (fun m' => k .normal (only [] []) m') := by
  kernel_rfl

theorem pok46_7004 : PieceOK Tryz.prog E46 Lam46 (((secsOf (bodyOf Tryz.f46)).filter Lam46.cut).getD 1 .skip) := by
  refine ⟨fun σ => ∃ b_0 o_0 b_3 o_3 x_4 x_5 x_6 x_51, σ 0 = .ptr b_0 o_0 ∧ σ 3 = .ptr b_3 o_3 ∧ σ 4 = .flat (.int .u32 x_4) ∧ σ 5 = .flat (.int .u32 x_5) ∧ σ 6 = .flat (.int .i64 x_6) ∧ σ 51 = .flat (.bool x_51), [0, 3, 4, 5, 6, 51], lxp46_7004, fun σ m k => ?_⟩
  have e : Lam46.piece (((secsOf (bodyOf Tryz.f46)).filter Lam46.cut).getD 1 .skip) σ m k = LamP46_7004 σ m k := by kernel_rfl
  rw [e]
  constructor
  · intro h
    unfold LamP46_7004 at h
    obtain ⟨b_0, o_0, h0, h⟩ := kptr_ok h
    obtain ⟨b_3, o_3, h1, h⟩ := kptr_ok h
    obtain ⟨x_4, h2, h⟩ := kI_ok h
    obtain ⟨x_5, h3, h⟩ := kI_ok h
    obtain ⟨x_6, h4, h⟩ := kI_ok h
    obtain ⟨x_51, h5, h⟩ := kbool_ok h
    refine ⟨⟨b_0, o_0, b_3, o_3, x_4, x_5, x_6, x_51, h0, h1, h2, h3, h4, h5⟩, ?_⟩
    have ev : [0, 3, 4, 5, 6, 51].map σ = [(.ptr b_0 o_0), (.ptr b_3 o_3), (.flat (.int .u32 x_4)), (.flat (.int .u32 x_5)), (.flat (.int .i64 x_6)), (.flat (.bool x_51))] := by simp only [List.map_cons, List.map_nil, h0, h1, h2, h3, h4, h5]
    rw [ev, pc46_7004]
    exact h
  · rintro ⟨⟨b_0, o_0, b_3, o_3, x_4, x_5, x_6, x_51, h0, h1, h2, h3, h4, h5⟩, h⟩
    have ev : [0, 3, 4, 5, 6, 51].map σ = [(.ptr b_0 o_0), (.ptr b_3 o_3), (.flat (.int .u32 x_4)), (.flat (.int .u32 x_5)), (.flat (.int .i64 x_6)), (.flat (.bool x_51))] := by simp only [List.map_cons, List.map_nil, h0, h1, h2, h3, h4, h5]
    rw [ev, pc46_7004] at h
    unfold LamP46_7004
    try simp only [h0, h1, h2, h3, h4, h5, kI, kbool, kS, kptr, kaggN, kite, decide_true, eq_self]
    exact h

def lxp46_5004 : Ex → List Nat := fun e => match e with
  | .normal => []
  | _ => []

theorem pc46_5004 (b_0 o_0 : Nat) (b_3 o_3 : Nat) (x_4 : Int) (x_5 : Int) (x_6 : Int) (x_30 : Bool) (m : Mem) (k : KX) : once Tryz.prog E46 Lam46 [0, 3, 4, 5, 6, 30] lxp46_5004 (((secsOf (bodyOf Tryz.f46)).filter Lam46.cut).getD 0 .skip) [(.ptr b_0 o_0), (.ptr b_3 o_3), (.flat (.int .u32 x_4)), (.flat (.int .u32 x_5)), (.flat (.int .i64 x_6)), (.flat (.bool x_30))] m k = P46_5004 b_0 o_0 b_3 o_3 x_4 x_5 x_6 x_30 m (fun m' => k .normal (only [] []) m') := by
  kernel_rfl

theorem pok46_5004 : PieceOK Tryz.prog E46 Lam46 (((secsOf (bodyOf Tryz.f46)).filter Lam46.cut).getD 0 .skip) := by
  refine ⟨fun σ => ∃ b_0 o_0 b_3 o_3 x_4 x_5 x_6 x_30, σ 0 = .ptr b_0 o_0 ∧ σ 3 = .ptr b_3 o_3 ∧ σ 4 = .flat (.int .u32 x_4) ∧ σ 5 = .flat (.int .u32 x_5) ∧ σ 6 = .flat (.int .i64 x_6) ∧ σ 30 = .flat (.bool x_30), [0, 3, 4, 5, 6, 30], lxp46_5004, fun σ m k => ?_⟩
  have e : Lam46.piece (((secsOf (bodyOf Tryz.f46)).filter Lam46.cut).getD 0 .skip) σ m k = LamP46_5004 σ m k := by kernel_rfl
  rw [e]
  constructor
  · intro h
    unfold LamP46_5004 at h
    obtain ⟨b_0, o_0, h0, h⟩ := kptr_ok h
    obtain ⟨b_3, o_3, h1, h⟩ := kptr_ok h
    obtain ⟨x_4, h2, h⟩ := kI_ok h
    obtain ⟨x_5, h3, h⟩ := kI_ok h
    obtain ⟨x_6, h4, h⟩ := kI_ok h
    obtain ⟨x_30, h5, h⟩ := kbool_ok h
    refine ⟨⟨b_0, o_0, b_3, o_3, x_4, x_5, x_6, x_30, h0, h1, h2, h3, h4, h5⟩, ?_⟩
    have ev : [0, 3, 4, 5, 6, 30].map σ = [(.ptr b_0 o_0), (.ptr b_3 o_3), (.flat (.int .u32 x_4)), (.flat (.int .u32 x_5)), (.flat (.int .i64 x_6)), (.flat (.bool x_30))] := by simp only [List.map_cons, List.map_nil, h0, h1, h2, h3, h4, h5]
    rw [ev, pc46_5004]
    exact h
  · rintro ⟨⟨b_0, o_0, b_3, o_3, x_4, x_5, x_6, x_30, h0, h1, h2, h3, h4, h5⟩, h⟩
    have ev : [0, 3, 4, 5, 6, 30].map σ = [(.ptr b_0 o_0), (.ptr b_3 o_3), (.flat (.int .u32 x_4)), (.flat (.int .u32 x_5)), (.flat (.int .i64 x_6)), (.flat (.bool x_30))] := by simp only [List.map_cons, List.map_nil, h0, h1, h2, h3, h4, h5]
    rw [ev, pc46_5004] at h
    unfold LamP46_5004
    try simp only [h0, h1, h2, h3, h4, h5, kI, kbool, kS, kptr, kaggN, kite, decide_true, eq_self]
    exact h

theorem eqn46 (b_0 o_0 : Nat) (c_1 : Nat → AV) (m : Mem) (k : KV) : bodyK Tryz.prog E46 Lam46 Tryz.f46 false [(.ptr b_0 o_0), (.agg 5 c_1)] m k = F46 b_0 o_0 c_1 m (fun m' => k (.tup []) m') := by
  kernel_rfl

theorem fs46 (w0 : World) : FS Tryz.prog w0 46 G46 := by
  refine (fs_body (Γ := E46) (sound_env (l := [(85, G85), (86, G86), (87, G87)]) w0 (by
    intro p hp
    simp only [List.mem_cons, List.not_mem_nil, or_false] at hp
    rcases hp with rfl | rfl | rfl
    · exact fs85 w0
    · exact fs86 w0
    · exact fs87 w0)) (by kernel_rfl) Tryz.func46 (Λ := Lam46) (c := (bodyOf Tryz.f46)) (by kernel_rfl) Tryz.call46 (by kernel_rfl) (LS_of (bodyOf Tryz.f46) 0 (by kernel_rfl) (fun i hi => absurd hi (Nat.not_lt_zero i)) 3 (by kernel_rfl) (by
    intro i hi
    match i, hi with
    | 0, _ => exact pok46_5004
    | 1, _ => exact pok46_7004
    | 2, _ => exact pok46_3004
    | i + 3, hi => omega)) false (np := 2) (Nat.le_of_ble_eq_true (by kernel_rfl))).imp fun args => ?_
  by_cases hl : args.length = 2
  rotate_left
  · exact .inr fun m k hk => by
      unfold G46 at hk
      split at hk
      · exact hl rfl
      · exact hk
  obtain ⟨a0, a1, rfl⟩ : ∃ a0 a1, args = [a0, a1] := len_list2 hl
  rcases kptr_or a0 with ⟨b_0, o_0, rfl⟩ | h
  rotate_left
  · exact .inr fun m k hk => h _ (by simpa only [G46, kI, kbool, kS, kptr, kaggN, kite, decide_true, eq_self] using hk)
  rcases kaggN_or 5 a1 with ⟨c_1, rfl⟩ | h
  rotate_left
  · exact .inr fun m k hk => h _ (by simpa only [G46, kI, kbool, kS, kptr, kaggN, kite, decide_true, eq_self] using hk)
  exact .inl fun m k => propext ⟨fun h => ⟨rfl, by rw [eqn46]; simpa only [G46, kI, kbool, kS, kptr, kaggN, kite, decide_true, eq_self] using h⟩, fun h => by have h := h.2; rw [eqn46] at h; simpa only [G46, kI, kbool, kS, kptr, kaggN, kite, decide_true, eq_self] using h⟩

def E22 : Env := envOf [(43, G43), (46, G46)]

def R22_5 (b_0 o_0 : Nat) (v_16 : AV) (x_17 : Int) (x_18 : Int) (m : Mem) (kn : Int → Mem → Prop) (k0 : Mem → Prop) : Prop :=
  kif (decide (x_18 < x_17)) (ksl v_16 fun b5 o6 l7 p8 => kif (decide (0 ≤ x_18) && decide (x_18 < l7)) (ldG 5 m b5 (o6 + (x_18).toNat * 5) fun c9 => newK m ⟨5, lget [(.flat (.int .i64 0)), (.flat (.int .i64 0)), (.flat (.int .i64 0)), (.flat (.int .i64 0)), (.flat (.int .u32 0))], 66, false⟩ fun b11 m10 => stG 5 m10 b11 0 c9 fun m12 => ldG 5 m12 b11 0 fun c13 => F46 b_0 o_0 c13 m12 fun m14 => kn (IntKind.wrap .i64 (x_18 + 1)) m14) False) (k0  m)

def L22_5 (b_0 o_0 : Nat) (v_16 : AV) (x_17 : Int) : Nat → Int → Mem → (Mem → Prop) → Prop
  | 0, _,  _, _ => bump False
  | N + 1, x_18,  m, k0 => R22_5 b_0 o_0 v_16 x_17 x_18 m (fun x_18' m' => L22_5 b_0 o_0 v_16 x_17 N x_18' m' k0) k0

/-- pianola/ir.Run -/
def F22 (b_0 o_0 : Nat) (v_1 : AV) (m : Mem) (k : Bool → Mem → Prop) : Prop :=
  F43 v_1 (.flat (.func (.func 44) #[] #[])) m fun x1 m2 => kif x1 (k false m2) (stC m2 b_0 (o_0 + 0) (.flat (.int .u32 0)) fun m3 => klen v_1 fun x4 => ∃ N16, L22_5 b_0 o_0 v_1 x4 N16 0 m3 (fun m15 => k true m15))

def G22 (args : List AV) (m : Mem) (k : KV) : Prop := match args with
  | [a0, a1] => kptr a0 fun b_0 o_0 => F22 b_0 o_0 a1 m (fun x_1000 m' => k (.flat (.bool x_1000)) m')
  | _ => False

def Lam22_5 (σ : Nat → AV) (m : Mem) (k : KX) : Prop := kptr (σ 0) fun b_0 o_0 => kI .i64 (σ 17) fun x_17 => kI .i64 (σ 18) fun x_18 => ∃ N, L22_5 b_0 o_0 (σ 16) x_17 N x_18 m (fun m' => k (.exit 0) (only [] []) m')

def Lam22 : LEnv := ⟨fun a σ m k => match firstReg a with
  | some 5 => Lam22_5 σ m k
  | _ => bump False,
  fun id => match id with
  | _ => bump false,
  fun b => match keyC b with
  | _ => bump false,
  fun b σ m k => match keyC b with
  | _ => bump False⟩

def lx22_5 : Ex → List Nat := fun e => match e with
  | .exit 0 => []
  | _ => []

theorem round22_5 (b_0 o_0 : Nat) (v_16 : AV) (x_17 : Int) (x_18 : Int) (m : Mem) (G : List AV → Mem → Prop) (k : KX) : (wpA Tryz.prog E22 Lam22 ((loopsOf (bodyOf Tryz.f22)).getD 0 .skip) (only [0, 16, 17, 18] [(.ptr b_0 o_0), v_16, (.flat (.int .i64 x_17)), (.flat (.int .i64 x_18))]) m fun e σ' m' => match e with
    | .normal => G ([0, 16, 17, 18].map σ') m'
    | .exit id => k (.exit id) (only (lx22_5 (.exit id)) ((lx22_5 (.exit id)).map σ')) m'
    | .ret => k .ret (only (lx22_5 .ret) ((lx22_5 .ret).map σ')) m') = R22_5 b_0 o_0 v_16 x_17 x_18 m (fun x_18' m' => G [(.ptr b_0 o_0), v_16, (.flat (.int .i64 x_17)), (.flat (.int .i64 x_18'))] m') (fun m' => k (.exit 0) (only [] []) m') := by
  kernel_rfl

theorem loop22_5 (b_0 o_0 : Nat) (v_16 : AV) (x_17 : Int) (k : KX) : ∀ (N : Nat) (x_18 : Int) (m : Mem), rounds Tryz.prog E22 Lam22 [0, 16, 17, 18] lx22_5 ((loopsOf (bodyOf Tryz.f22)).getD 0 .skip) N [(.ptr b_0 o_0), v_16, (.flat (.int .i64 x_17)), (.flat (.int .i64 x_18))] m k = L22_5 b_0 o_0 v_16 x_17 N x_18 m (fun m' => k (.exit 0) (only [] []) m') := by
  intro N
  induction N with
  | zero => intros; rfl
  | succ N ih =>
    intro x_18 m
    refine (round22_5 b_0 o_0 v_16 x_17 x_18 m (fun vs m' => rounds Tryz.prog E22 Lam22 [0, 16, 17, 18] lx22_5 ((loopsOf (bodyOf Tryz.f22)).getD 0 .skip) N vs m' k) k).trans ?_
    simp only [ih]
    rfl

theorem lok22_5 : LoopOK Tryz.prog E22 Lam22 ((loopsOf (bodyOf Tryz.f22)).getD 0 .skip) := by
  refine ⟨fun σ => ∃ b_0 o_0 v_16 x_17 x_18, σ 0 = .ptr b_0 o_0 ∧ σ 16 = v_16 ∧ σ 17 = .flat (.int .i64 x_17) ∧ σ 18 = .flat (.int .i64 x_18), [0, 16, 17, 18], lx22_5, fun σ m k => ?_⟩
  have e : Lam22.loop ((loopsOf (bodyOf Tryz.f22)).getD 0 .skip) σ m k = Lam22_5 σ m k := by kernel_rfl
  rw [e]
  constructor
  · intro h
    unfold Lam22_5 at h
    obtain ⟨b_0, o_0, h0, h⟩ := kptr_ok h
    obtain ⟨v_16, h1⟩ : ∃ v, σ 16 = v := ⟨_, rfl⟩
    obtain ⟨x_17, h2, h⟩ := kI_ok h
    obtain ⟨x_18, h3, h⟩ := kI_ok h
    obtain ⟨N, h⟩ := h
    refine ⟨⟨b_0, o_0, v_16, x_17, x_18, h0, h1, h2, h3⟩, N, ?_⟩
    have ev : [0, 16, 17, 18].map σ = [(.ptr b_0 o_0), v_16, (.flat (.int .i64 x_17)), (.flat (.int .i64 x_18))] := by simp only [List.map_cons, List.map_nil, h0, h1, h2, h3]
    rw [ev, loop22_5]
    simp only [h1] at h
    exact h
  · rintro ⟨⟨b_0, o_0, v_16, x_17, x_18, h0, h1, h2, h3⟩, N, h⟩
    have ev : [0, 16, 17, 18].map σ = [(.ptr b_0 o_0), v_16, (.flat (.int .i64 x_17)), (.flat (.int .i64 x_18))] := by simp only [List.map_cons, List.map_nil, h0, h1, h2, h3]
    rw [ev, loop22_5] at h
    unfold Lam22_5
    try simp only [h0, h1, h2, h3, kI, kbool, kS, kptr, kaggN, kite, decide_true, eq_self]
    exact ⟨N, h⟩

theorem eqn22 (b_0 o_0 : Nat) (v_1 : AV) (m : Mem) (k : KV) : bodyK Tryz.prog E22 Lam22 Tryz.f22 false [(.ptr b_0 o_0), v_1] m k = F22 b_0 o_0 v_1 m (fun x_1000 m' => k (.flat (.bool x_1000)) m') := by
  kernel_rfl

theorem fs22 (w0 : World) : FS Tryz.prog w0 22 G22 := by
  refine (fs_body (Γ := E22) (sound_env (l := [(43, G43), (46, G46)]) w0 (by
    intro p hp
    simp only [List.mem_cons, List.not_mem_nil, or_false] at hp
    rcases hp with rfl | rfl
    · exact fs43 w0
    · exact fs46 w0)) (by kernel_rfl) Tryz.func22 (Λ := Lam22) (c := (bodyOf Tryz.f22)) (by kernel_rfl) Tryz.call22 (by kernel_rfl) (LS_of (bodyOf Tryz.f22) 1 (by kernel_rfl) (by
    intro i hi
    match i, hi with
    | 0, _ => exact lok22_5
    | i + 1, hi => omega) 0 (by kernel_rfl) (fun i hi => absurd hi (Nat.not_lt_zero i))) false (np := 2) (Nat.le_of_ble_eq_true (by kernel_rfl))).imp fun args => ?_
  by_cases hl : args.length = 2
  rotate_left
  · exact .inr fun m k hk => by
      unfold G22 at hk
      split at hk
      · exact hl rfl
      · exact hk
  obtain ⟨a0, a1, rfl⟩ : ∃ a0 a1, args = [a0, a1] := len_list2 hl
  rcases kptr_or a0 with ⟨b_0, o_0, rfl⟩ | h
  rotate_left
  · exact .inr fun m k hk => h _ (by simpa only [G22, kI, kbool, kS, kptr, kaggN, kite, decide_true, eq_self] using hk)
  exact .inl fun m k => propext ⟨fun h => ⟨rfl, by rw [eqn22]; simpa only [G22, kI, kbool, kS, kptr, kaggN, kite, decide_true, eq_self] using h⟩, fun h => by have h := h.2; rw [eqn22] at h; simpa only [G22, kI, kbool, kS, kptr, kaggN, kite, decide_true, eq_self] using h⟩

def E8 : Env := envOf [(13, G13), (21, G21), (22, G22)]

/-- pianola/pianolalaw19.known -/
def F8  (m : Mem) (k : Bool → Mem → Prop) : Prop :=
  F13 (upd (upd (upd (Z6) 0 (.flat (.int .i64 47))) 2 (.flat (.int .i64 1))) 5 (.flat (.int .u32 5))) m fun v1 m2 => newK m2 ⟨40, Z40, 57, false⟩ fun b4 m3 => F21 (upd (upd (Z6) 0 (.flat (.int .i64 47))) 2 (.flat (.int .i64 1))) m3 fun x5 m6 => kif x5 (F21 (upd (Z6) 0 (.flat (.int .i64 68))) m6 fun x7 m8 => kif (!x7) (klen v1 fun x9 => kif (decide (x9 > 0)) (F22 b4 0 v1 m8 fun x10 m11 => kif x10 (ldI .u32 m11 b4 1 fun x12 => k (x12 == 5) m11) (k false m11)) (k false m8)) (k false m8)) (k false m6)

def G8 (args : List AV) (m : Mem) (k : KV) : Prop := match args with
  | [] => F8  m (fun x_1000 m' => k (.flat (.bool x_1000)) m')
  | _ => False

def Lam8 : LEnv := ⟨fun a σ m k => match firstReg a with
  | _ => bump False,
  fun id => match id with
  | _ => bump false,
  fun b => match keyC b with
  | _ => bump false,
  fun b σ m k => match keyC b with
  | _ => bump False⟩

theorem eqn8  (m : Mem) (k : KV) : bodyK Tryz.prog E8 Lam8 Tryz.f8 false [] m k = F8  m (fun x_1000 m' => k (.flat (.bool x_1000)) m') := by
  kernel_rfl

theorem fs8 (w0 : World) : FS Tryz.prog w0 8 G8 := by
  refine (fs_body (Γ := E8) (sound_env (l := [(13, G13), (21, G21), (22, G22)]) w0 (by
    intro p hp
    simp only [List.mem_cons, List.not_mem_nil, or_false] at hp
    rcases hp with rfl | rfl | rfl
    · exact fs13 w0
    · exact fs21 w0
    · exact fs22 w0)) (by kernel_rfl) Tryz.func8 (Λ := Lam8) (c := (bodyOf Tryz.f8)) (by kernel_rfl) Tryz.call8 (by kernel_rfl) (LS_of (bodyOf Tryz.f8) 0 (by kernel_rfl) (fun i hi => absurd hi (Nat.not_lt_zero i)) 0 (by kernel_rfl) (fun i hi => absurd hi (Nat.not_lt_zero i))) false (np := 0) (Nat.le_of_ble_eq_true (by kernel_rfl))).imp fun args => ?_
  by_cases hl : args.length = 0
  rotate_left
  · exact .inr fun m k hk => by
      unfold G8 at hk
      split at hk
      · exact hl rfl
      · exact hk
  obtain rfl : args = [] := len_list0 hl

  exact .inl fun m k => propext ⟨fun h => ⟨rfl, by rw [eqn8]; simpa only [G8, kI, kbool, kS, kptr, kaggN, kite, decide_true, eq_self] using h⟩, fun h => by have h := h.2; rw [eqn8] at h; simpa only [G8, kI, kbool, kS, kptr, kaggN, kite, decide_true, eq_self] using h⟩

def E3 : Env := envOf [(6, G6), (7, G7), (8, G8)]

def P3_22102 (v_1 : AV) (x_3 : Int) (x_4 : Int) (x_5 : Int) (x_6 : Int) (b_7 o_7 : Nat) (m : Mem) (kr : Bool → Mem → Prop) (kn : Mem → Prop) : Prop :=
  ldG 6 m b_7 o_7 fun c21 => F7 c21 v_1 m fun x22 m23 => kif (!x22) (kr false m23) (kn  m23)

def R3_17 (v_1 : AV) (x_3 : Int) (x_4 : Int) (x_5 : Int) (x_6 : Int) (m : Mem) (kn : Int → Mem → Prop) (k8 : Mem → Prop) (kr : Bool → Mem → Prop) : Prop :=
  kif (decide (x_6 < 4)) (F6 (upd (upd (upd (upd (upd (Z7) 1 (.flat (.int .i64 (IntKind.wrap .i64 (x_4 * 8))))) 2 (.flat (.int .i64 (IntKind.wrap .i64 (x_5 * 8))))) 3 (.flat (.int .i64 (IntKind.wrap .i64 (x_6 * 8))))) 4 (.flat (.int .i64 (IntKind.wrap .i64 (x_4 * 6))))) 5 (.flat (.int .u32 (IntKind.wrap .u32 ((IntKind.wrap .u32 x_5) * 13107))))) (if 0 > x_3 then 0 else x_3) m fun c13 m14 => newK m14 ⟨6, Z6, 25, false⟩ fun b16 m15 => stG 6 m15 b16 0 c13 fun m17 => kif (decide (x_3 < 0)) (stG 6 m17 b16 0 (upd (Z6) 0 (.flat (.int .i64 x_3))) fun m18 => P3_22102 v_1 x_3 x_4 x_5 x_6 b16 0 m18 (fun x24 m25 => kr x24 m25) (fun m26 => kn (IntKind.wrap .i64 (x_6 + 1)) m26)) (kif (decide (x_3 ≥ 78)) (stG 6 m17 b16 0 (upd (Z6) 0 (.flat (.int .i64 x_3))) fun m19 => P3_22102 v_1 x_3 x_4 x_5 x_6 b16 0 m19 (fun x27 m28 => kr x27 m28) (fun m29 => kn (IntKind.wrap .i64 (x_6 + 1)) m29)) (kif (x_3 == 0) (stG 6 m17 b16 0 (upd (Z6) 0 (.flat (.int .i64 x_3))) fun m20 => P3_22102 v_1 x_3 x_4 x_5 x_6 b16 0 m20 (fun x30 m31 => kr x30 m31) (fun m32 => kn (IntKind.wrap .i64 (x_6 + 1)) m32)) (P3_22102 v_1 x_3 x_4 x_5 x_6 b16 0 m17 (fun x33 m34 => kr x33 m34) (fun m35 => kn (IntKind.wrap .i64 (x_6 + 1)) m35))))) (k8  m)

def L3_17 (v_1 : AV) (x_3 : Int) (x_4 : Int) (x_5 : Int) : Nat → Int → Mem → (Mem → Prop) → (Bool → Mem → Prop) → Prop
  | 0, _,  _, _, _ => bump False
  | N + 1, x_6,  m, k8, kr => R3_17 v_1 x_3 x_4 x_5 x_6 m (fun x_6' m' => L3_17 v_1 x_3 x_4 x_5 N x_6' m' k8 kr) k8 kr

def R3_14 (v_1 : AV) (x_3 : Int) (x_4 : Int) (x_5 : Int) (m : Mem) (kn : Int → Mem → Prop) (k6 : Mem → Prop) (kr : Bool → Mem → Prop) : Prop :=
  kif (decide (x_5 < 6)) (∃ N39, L3_17 v_1 x_3 x_4 x_5 N39 0 m (fun m36 => kn (IntKind.wrap .i64 (x_5 + 1)) m36) (fun x37 m38 => kr x37 m38)) (k6  m)

def L3_14 (v_1 : AV) (x_3 : Int) (x_4 : Int) : Nat → Int → Mem → (Mem → Prop) → (Bool → Mem → Prop) → Prop
  | 0, _,  _, _, _ => bump False
  | N + 1, x_5,  m, k6, kr => R3_14 v_1 x_3 x_4 x_5 m (fun x_5' m' => L3_14 v_1 x_3 x_4 N x_5' m' k6 kr) k6 kr

def R3_11 (v_1 : AV) (x_3 : Int) (x_4 : Int) (m : Mem) (kn : Int → Mem → Prop) (k4 : Mem → Prop) (kr : Bool → Mem → Prop) : Prop :=
  kif (decide (x_4 < 6)) (∃ N43, L3_14 v_1 x_3 x_4 N43 0 m (fun m40 => kn (IntKind.wrap .i64 (x_4 + 1)) m40) (fun x41 m42 => kr x41 m42)) (k4  m)

def L3_11 (v_1 : AV) (x_3 : Int) : Nat → Int → Mem → (Mem → Prop) → (Bool → Mem → Prop) → Prop
  | 0, _,  _, _, _ => bump False
  | N + 1, x_4,  m, k4, kr => R3_11 v_1 x_3 x_4 m (fun x_4' m' => L3_11 v_1 x_3 N x_4' m' k4 kr) k4 kr

def R3_8 (v_1 : AV) (x_3 : Int) (m : Mem) (kn : Int → Mem → Prop) (k2 : Mem → Prop) (kr : Bool → Mem → Prop) : Prop :=
  kif (decide (x_3 < 79)) (∃ N47, L3_11 v_1 x_3 N47 0 m (fun m44 => kn (IntKind.wrap .i64 (x_3 + 1)) m44) (fun x45 m46 => kr x45 m46)) (k2  m)

def L3_8 (v_1 : AV) : Nat → Int → Mem → (Mem → Prop) → (Bool → Mem → Prop) → Prop
  | 0, _,  _, _, _ => bump False
  | N + 1, x_3,  m, k2, kr => R3_8 v_1 x_3 m (fun x_3' m' => L3_8 v_1 N x_3' m' k2 kr) k2 kr

def R3_3 (v_1 : AV) (x_10 : Int) (x_11 : Int) (m : Mem) (kn : Int → Mem → Prop) (k0 : Mem → Prop) : Prop :=
  kif (decide (x_11 < x_10)) (newK m ⟨8, upd (upd (upd (upd (upd (upd (upd (upd (Z8) 0 (.flat (.int .u32 0))) 1 (.flat (.int .u32 1))) 2 (.flat (.int .u32 2147483648))) 3 (.flat (.int .u32 4294967295))) 4 (.flat (.int .u32 33))) 5 (.flat (.int .u32 2147483647))) 6 (.flat (.int .u32 32768))) 7 (.flat (.int .u32 5)), 23, false⟩ fun b4 m3 => kif (decide (0 ≤ x_11.tmod 8) && decide (x_11.tmod 8 < 8)) (ldI .u32 m3 b4 (0 + (x_11.tmod 8).toNat * 1) fun x5 => ksl v_1 fun b6 o7 l8 p9 => kif (decide (0 ≤ x_11) && decide (x_11 < l8)) (stC m3 b6 (o7 + (x_11).toNat * 1) (.flat (.int .u32 x5)) fun m10 => kn (IntKind.wrap .i64 (x_11 + 1)) m10) False) False) (k0  m)

def L3_3 (v_1 : AV) (x_10 : Int) : Nat → Int → Mem → (Mem → Prop) → Prop
  | 0, _,  _, _ => bump False
  | N + 1, x_11,  m, k0 => R3_3 v_1 x_10 x_11 m (fun x_11' m' => L3_3 v_1 x_10 N x_11' m' k0) k0

/-- pianola/pianolalaw19.LiftNumbers -/
def F3  (m : Mem) (k : Bool → Mem → Prop) : Prop :=
  mkS [(.flat (.int .u32 0))] 4 23 40 40 m fun b1 m2 => ∃ N12, L3_3 (.sl b1 0 40 (.ex 40)) 40 N12 0 m2 (fun m11 => ∃ N51, L3_8 (.sl b1 0 40 (.ex 40)) N51 (-1) m11 (fun m48 => F8  m48 fun x52 m53 => k x52 m53) (fun x49 m50 => k x49 m50))

def G3 (args : List AV) (m : Mem) (k : KV) : Prop := match args with
  | [] => F3  m (fun x_1000 m' => k (.flat (.bool x_1000)) m')
  | _ => False

def Lam3_3 (σ : Nat → AV) (m : Mem) (k : KX) : Prop := kI .i64 (σ 10) fun x_10 => kI .i64 (σ 11) fun x_11 => ∃ N, L3_3 (σ 1) x_10 N x_11 m (fun m' => k (.exit 0) (only [1] [(σ 1)]) m')

def Lam3_8 (σ : Nat → AV) (m : Mem) (k : KX) : Prop := kI .i64 (σ 3) fun x_3 => ∃ N, L3_8 (σ 1) N x_3 m (fun m' => k (.exit 2) (only [] []) m') (fun x_0' m' => k .ret (only [0] [(.flat (.bool x_0'))]) m')

def Lam3_11 (σ : Nat → AV) (m : Mem) (k : KX) : Prop := kI .i64 (σ 3) fun x_3 => kI .i64 (σ 4) fun x_4 => ∃ N, L3_11 (σ 1) x_3 N x_4 m (fun m' => k (.exit 4) (only [1, 3] [(σ 1), (.flat (.int .i64 x_3))]) m') (fun x_0' m' => k .ret (only [0] [(.flat (.bool x_0'))]) m')

def Lam3_14 (σ : Nat → AV) (m : Mem) (k : KX) : Prop := kI .i64 (σ 3) fun x_3 => kI .i64 (σ 4) fun x_4 => kI .i64 (σ 5) fun x_5 => ∃ N, L3_14 (σ 1) x_3 x_4 N x_5 m (fun m' => k (.exit 6) (only [1, 3, 4] [(σ 1), (.flat (.int .i64 x_3)), (.flat (.int .i64 x_4))]) m') (fun x_0' m' => k .ret (only [0] [(.flat (.bool x_0'))]) m')

def Lam3_17 (σ : Nat → AV) (m : Mem) (k : KX) : Prop := kI .i64 (σ 3) fun x_3 => kI .i64 (σ 4) fun x_4 => kI .i64 (σ 5) fun x_5 => kI .i64 (σ 6) fun x_6 => ∃ N, L3_17 (σ 1) x_3 x_4 x_5 N x_6 m (fun m' => k (.exit 8) (only [1, 3, 4, 5] [(σ 1), (.flat (.int .i64 x_3)), (.flat (.int .i64 x_4)), (.flat (.int .i64 x_5))]) m') (fun x_0' m' => k .ret (only [0] [(.flat (.bool x_0'))]) m')

def LamP3_22102 (σ : Nat → AV) (m : Mem) (k : KX) : Prop := kI .i64 (σ 3) fun x_3 => kI .i64 (σ 4) fun x_4 => kI .i64 (σ 5) fun x_5 => kI .i64 (σ 6) fun x_6 => kptr (σ 7) fun b_7 o_7 => P3_22102 (σ 1) x_3 x_4 x_5 x_6 b_7 o_7 m (fun x_0' m' => k .ret (only [0] [(.flat (.bool x_0'))]) m') (fun m' => k .normal (only [1, 3, 4, 5, 6] [(σ 1), (.flat (.int .i64 x_3)), (.flat (.int .i64 x_4)), (.flat (.int .i64 x_5)), (.flat (.int .i64 x_6))]) m')

def Lam3 : LEnv := ⟨fun a σ m k => match firstReg a with
  | some 3 => Lam3_3 σ m k
  | some 8 => Lam3_8 σ m k
  | some 11 => Lam3_11 σ m k
  | some 14 => Lam3_14 σ m k
  | some 17 => Lam3_17 σ m k
  | _ => bump False,
  fun id => match id with
  | _ => bump false,
  fun b => match keyC b with
  | some 22102 => true
  | _ => bump false,
  fun b σ m k => match keyC b with
  | some 22102 => LamP3_22102 σ m k
  | _ => bump False⟩

def lxp3_22102 : Ex → List Nat := fun e => match e with
  | .ret => [0]
  | .normal => [1, 3, 4, 5, 6]
  | _ => []

theorem pc3_22102 (v_1 : AV) (x_3 : Int) (x_4 : Int) (x_5 : Int) (x_6 : Int) (b_7 o_7 : Nat) (m : Mem) (k : KX) : once Tryz.prog E3 Lam3 [1, 3, 4, 5, 6, 7] lxp3_22102 (((secsOf (bodyOf Tryz.f3)).filter Lam3.cut).getD 0 .skip) [v_1, (.flat (.int .i64 x_3)), (.flat (.int .i64 x_4)), (.flat (.int .i64 x_5)), (.flat (.int .i64 x_6)), (.ptr b_7 o_7)] m k = P3_22102 v_1 x_3 x_4 x_5 x_6 b_7 o_7 m (fun x_0' m' => k .ret (only [0] [(.flat (.bool x_0'))]) m') (fun m' => k .normal (only [1, 3, 4, 5, 6] [v_1, (.flat (.int .i64 x_3)), (.flat (.int .i64 x_4)), (.flat (.int .i64 x_5)), (.flat (.int .i64 x_6))]) m') := by
  kernel_rfl

theorem pok3_22102 : PieceOK Tryz.prog E3 Lam3 (((secsOf (bodyOf Tryz.f3)).filter Lam3.cut).getD 0 .skip) := by
  refine ⟨fun σ => ∃ v_1 x_3 x_4 x_5 x_6 b_7 o_7, σ 1 = v_1 ∧ σ 3 = .flat (.int .i64 x_3) ∧ σ 4 = .flat (.int .i64 x_4) ∧ σ 5 = .flat (.int .i64 x_5) ∧ σ 6 = .flat (.int .i64 x_6) ∧ σ 7 = .ptr b_7 o_7, [1, 3, 4, 5, 6, 7], lxp3_22102, fun σ m k => ?_⟩
  have e : Lam3.piece (((secsOf (bodyOf Tryz.f3)).filter Lam3.cut).getD 0 .skip) σ m k = LamP3_22102 σ m k := by kernel_rfl
  rw [e]
  constructor
  · intro h
    unfold LamP3_22102 at h
    obtain ⟨v_1, h0⟩ : ∃ v, σ 1 = v := ⟨_, rfl⟩
    obtain ⟨x_3, h1, h⟩ := kI_ok h
    obtain ⟨x_4, h2, h⟩ := kI_ok h
    obtain ⟨x_5, h3, h⟩ := kI_ok h
    obtain ⟨x_6, h4, h⟩ := kI_ok h
    obtain ⟨b_7, o_7, h5, h⟩ := kptr_ok h
    refine ⟨⟨v_1, x_3, x_4, x_5, x_6, b_7, o_7, h0, h1, h2, h3, h4, h5⟩, ?_⟩
    have ev : [1, 3, 4, 5, 6, 7].map σ = [v_1, (.flat (.int .i64 x_3)), (.flat (.int .i64 x_4)), (.flat (.int .i64 x_5)), (.flat (.int .i64 x_6)), (.ptr b_7 o_7)] := by simp only [List.map_cons, List.map_nil, h0, h1, h2, h3, h4, h5]
    rw [ev, pc3_22102]
    simp only [h0] at h
    exact h
  · rintro ⟨⟨v_1, x_3, x_4, x_5, x_6, b_7, o_7, h0, h1, h2, h3, h4, h5⟩, h⟩
    have ev : [1, 3, 4, 5, 6, 7].map σ = [v_1, (.flat (.int .i64 x_3)), (.flat (.int .i64 x_4)), (.flat (.int .i64 x_5)), (.flat (.int .i64 x_6)), (.ptr b_7 o_7)] := by simp only [List.map_cons, List.map_nil, h0, h1, h2, h3, h4, h5]
    rw [ev, pc3_22102] at h
    unfold LamP3_22102
    try simp only [h0, h1, h2, h3, h4, h5, kI, kbool, kS, kptr, kaggN, kite, decide_true, eq_self]
    exact h

def lx3_17 : Ex → List Nat := fun e => match e with
  | .exit 8 => [1, 3, 4, 5]
  | .ret => [0]
  | _ => []

theorem round3_17 (v_1 : AV) (x_3 : Int) (x_4 : Int) (x_5 : Int) (x_6 : Int) (m : Mem) (G : List AV → Mem → Prop) (k : KX) : (wpA Tryz.prog E3 Lam3 ((loopsOf (bodyOf Tryz.f3)).getD 4 .skip) (only [1, 3, 4, 5, 6] [v_1, (.flat (.int .i64 x_3)), (.flat (.int .i64 x_4)), (.flat (.int .i64 x_5)), (.flat (.int .i64 x_6))]) m fun e σ' m' => match e with
    | .normal => G ([1, 3, 4, 5, 6].map σ') m'
    | .exit id => k (.exit id) (only (lx3_17 (.exit id)) ((lx3_17 (.exit id)).map σ')) m'
    | .ret => k .ret (only (lx3_17 .ret) ((lx3_17 .ret).map σ')) m') = R3_17 v_1 x_3 x_4 x_5 x_6 m (fun x_6' m' => G [v_1, (.flat (.int .i64 x_3)), (.flat (.int .i64 x_4)), (.flat (.int .i64 x_5)), (.flat (.int .i64 x_6'))] m') (fun m' => k (.exit 8) (only [1, 3, 4, 5] [v_1, (.flat (.int .i64 x_3)), (.flat (.int .i64 x_4)), (.flat (.int .i64 x_5))]) m') (fun x_0' m' => k .ret (only [0] [(.flat (.bool x_0'))]) m') := by
  kernel_rfl

theorem loop3_17 (v_1 : AV) (x_3 : Int) (x_4 : Int) (x_5 : Int) (k : KX) : ∀ (N : Nat) (x_6 : Int) (m : Mem), rounds Tryz.prog E3 Lam3 [1, 3, 4, 5, 6] lx3_17 ((loopsOf (bodyOf Tryz.f3)).getD 4 .skip) N [v_1, (.flat (.int .i64 x_3)), (.flat (.int .i64 x_4)), (.flat (.int .i64 x_5)), (.flat (.int .i64 x_6))] m k = L3_17 v_1 x_3 x_4 x_5 N x_6 m (fun m' => k (.exit 8) (only [1, 3, 4, 5] [v_1, (.flat (.int .i64 x_3)), (.flat (.int .i64 x_4)), (.flat (.int .i64 x_5))]) m') (fun x_0' m' => k .ret (only [0] [(.flat (.bool x_0'))]) m') := by
  intro N
  induction N with
  | zero => intros; rfl
  | succ N ih =>
    intro x_6 m
    refine (round3_17 v_1 x_3 x_4 x_5 x_6 m (fun vs m' => rounds Tryz.prog E3 Lam3 [1, 3, 4, 5, 6] lx3_17 ((loopsOf (bodyOf Tryz.f3)).getD 4 .skip) N vs m' k) k).trans ?_
    simp only [ih]
    rfl

theorem lok3_17 : LoopOK Tryz.prog E3 Lam3 ((loopsOf (bodyOf Tryz.f3)).getD 4 .skip) := by
  refine ⟨fun σ => ∃ v_1 x_3 x_4 x_5 x_6, σ 1 = v_1 ∧ σ 3 = .flat (.int .i64 x_3) ∧ σ 4 = .flat (.int .i64 x_4) ∧ σ 5 = .flat (.int .i64 x_5) ∧ σ 6 = .flat (.int .i64 x_6), [1, 3, 4, 5, 6], lx3_17, fun σ m k => ?_⟩
  have e : Lam3.loop ((loopsOf (bodyOf Tryz.f3)).getD 4 .skip) σ m k = Lam3_17 σ m k := by kernel_rfl
  rw [e]
  constructor
  · intro h
    unfold Lam3_17 at h
    obtain ⟨v_1, h0⟩ : ∃ v, σ 1 = v := ⟨_, rfl⟩
    obtain ⟨x_3, h1, h⟩ := kI_ok h
    obtain ⟨x_4, h2, h⟩ := kI_ok h
    obtain ⟨x_5, h3, h⟩ := kI_ok h
    obtain ⟨x_6, h4, h⟩ := kI_ok h
    obtain ⟨N, h⟩ := h
    refine ⟨⟨v_1, x_3, x_4, x_5, x_6, h0, h1, h2, h3, h4⟩, N, ?_⟩
    have ev : [1, 3, 4, 5, 6].map σ = [v_1, (.flat (.int .i64 x_3)), (.flat (.int .i64 x_4)), (.flat (.int .i64 x_5)), (.flat (.int .i64 x_6))] := by simp only [List.map_cons, List.map_nil, h0, h1, h2, h3, h4]
    rw [ev, loop3_17]
    simp only [h0] at h
    exact h
  · rintro ⟨⟨v_1, x_3, x_4, x_5, x_6, h0, h1, h2, h3, h4⟩, N, h⟩
    have ev : [1, 3, 4, 5, 6].map σ = [v_1, (.flat (.int .i64 x_3)), (.flat (.int .i64 x_4)), (.flat (.int .i64 x_5)), (.flat (.int .i64 x_6))] := by simp only [List.map_cons, List.map_nil, h0, h1, h2, h3, h4]
    rw [ev, loop3_17] at h
    unfold Lam3_17
    try simp only [h0, h1, h2, h3, h4, kI, kbool, kS, kptr, kaggN, kite, decide_true, eq_self]
    exact ⟨N, h⟩

def lx3_14 : Ex → List Nat := fun e => match e with
  | .exit 6 => [1, 3, 4]
  | .ret => [0]
  | _ => []

theorem round3_14 (v_1 : AV) (x_3 : Int) (x_4 : Int) (x_5 : Int) (m : Mem) (G : List AV → Mem → Prop) (k : KX) : (wpA Tryz.prog E3 Lam3 ((loopsOf (bodyOf Tryz.f3)).getD 3 .skip) (only [1, 3, 4, 5] [v_1, (.flat (.int .i64 x_3)), (.flat (.int .i64 x_4)), (.flat (.int .i64 x_5))]) m fun e σ' m' => match e with
    | .normal => G ([1, 3, 4, 5].map σ') m'
    | .exit id => k (.exit id) (only (lx3_14 (.exit id)) ((lx3_14 (.exit id)).map σ')) m'
    | .ret => k .ret (only (lx3_14 .ret) ((lx3_14 .ret).map σ')) m') = R3_14 v_1 x_3 x_4 x_5 m (fun x_5' m' => G [v_1, (.flat (.int .i64 x_3)), (.flat (.int .i64 x_4)), (.flat (.int .i64 x_5'))] m') (fun m' => k (.exit 6) (only [1, 3, 4] [v_1, (.flat (.int .i64 x_3)), (.flat (.int .i64 x_4))]) m') (fun x_0' m' => k .ret (only [0] [(.flat (.bool x_0'))]) m') := by
  kernel_rfl

theorem loop3_14 (v_1 : AV) (x_3 : Int) (x_4 : Int) (k : KX) : ∀ (N : Nat) (x_5 : Int) (m : Mem), rounds Tryz.prog E3 Lam3 [1, 3, 4, 5] lx3_14 ((loopsOf (bodyOf Tryz.f3)).getD 3 .skip) N [v_1, (.flat (.int .i64 x_3)), (.flat (.int .i64 x_4)), (.flat (.int .i64 x_5))] m k = L3_14 v_1 x_3 x_4 N x_5 m (fun m' => k (.exit 6) (only [1, 3, 4] [v_1, (.flat (.int .i64 x_3)), (.flat (.int .i64 x_4))]) m') (fun x_0' m' => k .ret (only [0] [(.flat (.bool x_0'))]) m') := by
  intro N
  induction N with
  | zero => intros; rfl
  | succ N ih =>
    intro x_5 m
    refine (round3_14 v_1 x_3 x_4 x_5 m (fun vs m' => rounds Tryz.prog E3 Lam3 [1, 3, 4, 5] lx3_14 ((loopsOf (bodyOf Tryz.f3)).getD 3 .skip) N vs m' k) k).trans ?_
    simp only [ih]
    rfl

theorem lok3_14 : LoopOK Tryz.prog E3 Lam3 ((loopsOf (bodyOf Tryz.f3)).getD 3 .skip) := by
  refine ⟨fun σ => ∃ v_1 x_3 x_4 x_5, σ 1 = v_1 ∧ σ 3 = .flat (.int .i64 x_3) ∧ σ 4 = .flat (.int .i64 x_4) ∧ σ 5 = .flat (.int .i64 x_5), [1, 3, 4, 5], lx3_14, fun σ m k => ?_⟩
  have e : Lam3.loop ((loopsOf (bodyOf Tryz.f3)).getD 3 .skip) σ m k = Lam3_14 σ m k := by kernel_rfl
  rw [e]
  constructor
  · intro h
    unfold Lam3_14 at h
    obtain ⟨v_1, h0⟩ : ∃ v, σ 1 = v := ⟨_, rfl⟩
    obtain ⟨x_3, h1, h⟩ := kI_ok h
    obtain ⟨x_4, h2, h⟩ := kI_ok h
    obtain ⟨x_5, h3, h⟩ := kI_ok h
    obtain ⟨N, h⟩ := h
    refine ⟨⟨v_1, x_3, x_4, x_5, h0, h1, h2, h3⟩, N, ?_⟩
    have ev : [1, 3, 4, 5].map σ = [v_1, (.flat (.int .i64 x_3)), (.flat (.int .i64 x_4)), (.flat (.int .i64 x_5))] := by simp only [List.map_cons, List.map_nil, h0, h1, h2, h3]
    rw [ev, loop3_14]
    simp only [h0] at h
    exact h
  · rintro ⟨⟨v_1, x_3, x_4, x_5, h0, h1, h2, h3⟩, N, h⟩
    have ev : [1, 3, 4, 5].map σ = [v_1, (.flat (.int .i64 x_3)), (.flat (.int .i64 x_4)), (.flat (.int .i64 x_5))] := by simp only [List.map_cons, List.map_nil, h0, h1, h2, h3]
    rw [ev, loop3_14] at h
    unfold Lam3_14
    try simp only [h0, h1, h2, h3, kI, kbool, kS, kptr, kaggN, kite, decide_true, eq_self]
    exact ⟨N, h⟩

def lx3_11 : Ex → List Nat := fun e => match e with
  | .exit 4 => [1, 3]
  | .ret => [0]
  | _ => []

theorem round3_11 (v_1 : AV) (x_3 : Int) (x_4 : Int) (m : Mem) (G : List AV → Mem → Prop) (k : KX) : (wpA Tryz.prog E3 Lam3 ((loopsOf (bodyOf Tryz.f3)).getD 2 .skip) (only [1, 3, 4] [v_1, (.flat (.int .i64 x_3)), (.flat (.int .i64 x_4))]) m fun e σ' m' => match e with
    | .normal => G ([1, 3, 4].map σ') m'
    | .exit id => k (.exit id) (only (lx3_11 (.exit id)) ((lx3_11 (.exit id)).map σ')) m'
    | .ret => k .ret (only (lx3_11 .ret) ((lx3_11 .ret).map σ')) m') = R3_11 v_1 x_3 x_4 m (fun x_4' m' => G [v_1, (.flat (.int .i64 x_3)), (.flat (.int .i64 x_4'))] m') (fun m' => k (.exit 4) (only [1, 3] [v_1, (.flat (.int .i64 x_3))]) m') (fun x_0' m' => k .ret (only [0] [(.flat (.bool x_0'))]) m') := by
  kernel_rfl

theorem loop3_11 (v_1 : AV) (x_3 : Int) (k : KX) : ∀ (N : Nat) (x_4 : Int) (m : Mem), rounds Tryz.prog E3 Lam3 [1, 3, 4] lx3_11 ((loopsOf (bodyOf Tryz.f3)).getD 2 .skip) N [v_1, (.flat (.int .i64 x_3)), (.flat (.int .i64 x_4))] m k = L3_11 v_1 x_3 N x_4 m (fun m' => k (.exit 4) (only [1, 3] [v_1, (.flat (.int .i64 x_3))]) m') (fun x_0' m' => k .ret (only [0] [(.flat (.bool x_0'))]) m') := by
  intro N
  induction N with
  | zero => intros; rfl
  | succ N ih =>
    intro x_4 m
    refine (round3_11 v_1 x_3 x_4 m (fun vs m' => rounds Tryz.prog E3 Lam3 [1, 3, 4] lx3_11 ((loopsOf (bodyOf Tryz.f3)).getD 2 .skip) N vs m' k) k).trans ?_
    simp only [ih]
    rfl

theorem lok3_11 : LoopOK Tryz.prog E3 Lam3 ((loopsOf (bodyOf Tryz.f3)).getD 2 .skip) := by
  refine ⟨fun σ => ∃ v_1 x_3 x_4, σ 1 = v_1 ∧ σ 3 = .flat (.int .i64 x_3) ∧ σ 4 = .flat (.int .i64 x_4), [1, 3, 4], lx3_11, fun σ m k => ?_⟩
  have e : Lam3.loop ((loopsOf (bodyOf Tryz.f3)).getD 2 .skip) σ m k = Lam3_11 σ m k := by kernel_rfl
  rw [e]
  constructor
  · intro h
    unfold Lam3_11 at h
    obtain ⟨v_1, h0⟩ : ∃ v, σ 1 = v := ⟨_, rfl⟩
    obtain ⟨x_3, h1, h⟩ := kI_ok h
    obtain ⟨x_4, h2, h⟩ := kI_ok h
    obtain ⟨N, h⟩ := h
    refine ⟨⟨v_1, x_3, x_4, h0, h1, h2⟩, N, ?_⟩
    have ev : [1, 3, 4].map σ = [v_1, (.flat (.int .i64 x_3)), (.flat (.int .i64 x_4))] := by simp only [List.map_cons, List.map_nil, h0, h1, h2]
    rw [ev, loop3_11]
    simp only [h0] at h
    exact h
  · rintro ⟨⟨v_1, x_3, x_4, h0, h1, h2⟩, N, h⟩
    have ev : [1, 3, 4].map σ = [v_1, (.flat (.int .i64 x_3)), (.flat (.int .i64 x_4))] := by simp only [List.map_cons, List.map_nil, h0, h1, h2]
    rw [ev, loop3_11] at h
    unfold Lam3_11
    try simp only [h0, h1, h2, kI, kbool, kS, kptr, kaggN, kite, decide_true, eq_self]
    exact ⟨N, h⟩

def lx3_8 : Ex → List Nat := fun e => match e with
  | .exit 2 => []
  | .ret => [0]
  | _ => []

theorem round3_8 (v_1 : AV) (x_3 : Int) (m : Mem) (G : List AV → Mem → Prop) (k : KX) : (wpA Tryz.prog E3 Lam3 ((loopsOf (bodyOf Tryz.f3)).getD 1 .skip) (only [1, 3] [v_1, (.flat (.int .i64 x_3))]) m fun e σ' m' => match e with
    | .normal => G ([1, 3].map σ') m'
    | .exit id => k (.exit id) (only (lx3_8 (.exit id)) ((lx3_8 (.exit id)).map σ')) m'
    | .ret => k .ret (only (lx3_8 .ret) ((lx3_8 .ret).map σ')) m') = R3_8 v_1 x_3 m (fun x_3' m' => G [v_1, (.flat (.int .i64 x_3'))] m') (fun m' => k (.exit 2) (only [] []) m') (fun x_0' m' => k .ret (only [0] [(.flat (.bool x_0'))]) m') := by
  kernel_rfl

theorem loop3_8 (v_1 : AV) (k : KX) : ∀ (N : Nat) (x_3 : Int) (m : Mem), rounds Tryz.prog E3 Lam3 [1, 3] lx3_8 ((loopsOf (bodyOf Tryz.f3)).getD 1 .skip) N [v_1, (.flat (.int .i64 x_3))] m k = L3_8 v_1 N x_3 m (fun m' => k (.exit 2) (only [] []) m') (fun x_0' m' => k .ret (only [0] [(.flat (.bool x_0'))]) m') := by
  intro N
  induction N with
  | zero => intros; rfl
  | succ N ih =>
    intro x_3 m
    refine (round3_8 v_1 x_3 m (fun vs m' => rounds Tryz.prog E3 Lam3 [1, 3] lx3_8 ((loopsOf (bodyOf Tryz.f3)).getD 1 .skip) N vs m' k) k).trans ?_
    simp only [ih]
    rfl

theorem lok3_8 : LoopOK Tryz.prog E3 Lam3 ((loopsOf (bodyOf Tryz.f3)).getD 1 .skip) := by
  refine ⟨fun σ => ∃ v_1 x_3, σ 1 = v_1 ∧ σ 3 = .flat (.int .i64 x_3), [1, 3], lx3_8, fun σ m k => ?_⟩
  have e : Lam3.loop ((loopsOf (bodyOf Tryz.f3)).getD 1 .skip) σ m k = Lam3_8 σ m k := by kernel_rfl
  rw [e]
  constructor
  · intro h
    unfold Lam3_8 at h
    obtain ⟨v_1, h0⟩ : ∃ v, σ 1 = v := ⟨_, rfl⟩
    obtain ⟨x_3, h1, h⟩ := kI_ok h
    obtain ⟨N, h⟩ := h
    refine ⟨⟨v_1, x_3, h0, h1⟩, N, ?_⟩
    have ev : [1, 3].map σ = [v_1, (.flat (.int .i64 x_3))] := by simp only [List.map_cons, List.map_nil, h0, h1]
    rw [ev, loop3_8]
    simp only [h0] at h
    exact h
  · rintro ⟨⟨v_1, x_3, h0, h1⟩, N, h⟩
    have ev : [1, 3].map σ = [v_1, (.flat (.int .i64 x_3))] := by simp only [List.map_cons, List.map_nil, h0, h1]
    rw [ev, loop3_8] at h
    unfold Lam3_8
    try simp only [h0, h1, kI, kbool, kS, kptr, kaggN, kite, decide_true, eq_self]
    exact ⟨N, h⟩

def lx3_3 : Ex → List Nat := fun e => match e with
  | .exit 0 => [1]
  | _ => []

theorem round3_3 (v_1 : AV) (x_10 : Int) (x_11 : Int) (m : Mem) (G : List AV → Mem → Prop) (k : KX) : (wpA Tryz.prog E3 Lam3 ((loopsOf (bodyOf Tryz.f3)).getD 0 .skip) (only [1, 10, 11] [v_1, (.flat (.int .i64 x_10)), (.flat (.int .i64 x_11))]) m fun e σ' m' => match e with
    | .normal => G ([1, 10, 11].map σ') m'
    | .exit id => k (.exit id) (only (lx3_3 (.exit id)) ((lx3_3 (.exit id)).map σ')) m'
    | .ret => k .ret (only (lx3_3 .ret) ((lx3_3 .ret).map σ')) m') = R3_3 v_1 x_10 x_11 m (fun x_11' m' => G [v_1, (.flat (.int .i64 x_10)), (.flat (.int .i64 x_11'))] m') (fun m' => k (.exit 0) (only [1] [v_1]) m') := by
  kernel_rfl

theorem loop3_3 (v_1 : AV) (x_10 : Int) (k : KX) : ∀ (N : Nat) (x_11 : Int) (m : Mem), rounds Tryz.prog E3 Lam3 [1, 10, 11] lx3_3 ((loopsOf (bodyOf Tryz.f3)).getD 0 .skip) N [v_1, (.flat (.int .i64 x_10)), (.flat (.int .i64 x_11))] m k = L3_3 v_1 x_10 N x_11 m (fun m' => k (.exit 0) (only [1] [v_1]) m') := by
  intro N
  induction N with
  | zero => intros; rfl
  | succ N ih =>
    intro x_11 m
    refine (round3_3 v_1 x_10 x_11 m (fun vs m' => rounds Tryz.prog E3 Lam3 [1, 10, 11] lx3_3 ((loopsOf (bodyOf Tryz.f3)).getD 0 .skip) N vs m' k) k).trans ?_
    simp only [ih]
    rfl

theorem lok3_3 : LoopOK Tryz.prog E3 Lam3 ((loopsOf (bodyOf Tryz.f3)).getD 0 .skip) := by
  refine ⟨fun σ => ∃ v_1 x_10 x_11, σ 1 = v_1 ∧ σ 10 = .flat (.int .i64 x_10) ∧ σ 11 = .flat (.int .i64 x_11), [1, 10, 11], lx3_3, fun σ m k => ?_⟩
  have e : Lam3.loop ((loopsOf (bodyOf Tryz.f3)).getD 0 .skip) σ m k = Lam3_3 σ m k := by kernel_rfl
  rw [e]
  constructor
  · intro h
    unfold Lam3_3 at h
    obtain ⟨v_1, h0⟩ : ∃ v, σ 1 = v := ⟨_, rfl⟩
    obtain ⟨x_10, h1, h⟩ := kI_ok h
    obtain ⟨x_11, h2, h⟩ := kI_ok h
    obtain ⟨N, h⟩ := h
    refine ⟨⟨v_1, x_10, x_11, h0, h1, h2⟩, N, ?_⟩
    have ev : [1, 10, 11].map σ = [v_1, (.flat (.int .i64 x_10)), (.flat (.int .i64 x_11))] := by simp only [List.map_cons, List.map_nil, h0, h1, h2]
    rw [ev, loop3_3]
    simp only [h0] at h
    exact h
  · rintro ⟨⟨v_1, x_10, x_11, h0, h1, h2⟩, N, h⟩
    have ev : [1, 10, 11].map σ = [v_1, (.flat (.int .i64 x_10)), (.flat (.int .i64 x_11))] := by simp only [List.map_cons, List.map_nil, h0, h1, h2]
    rw [ev, loop3_3] at h
    unfold Lam3_3
    try simp only [h0, h1, h2, kI, kbool, kS, kptr, kaggN, kite, decide_true, eq_self]
    exact ⟨N, h⟩

theorem eqn3  (m : Mem) (k : KV) : bodyK Tryz.prog E3 Lam3 Tryz.f3 false [] m k = F3  m (fun x_1000 m' => k (.flat (.bool x_1000)) m') := by
  kernel_rfl

theorem fs3 (w0 : World) : FS Tryz.prog w0 3 G3 := by
  refine (fs_body (Γ := E3) (sound_env (l := [(6, G6), (7, G7), (8, G8)]) w0 (by
    intro p hp
    simp only [List.mem_cons, List.not_mem_nil, or_false] at hp
    rcases hp with rfl | rfl | rfl
    · exact fs6 w0
    · exact fs7 w0
    · exact fs8 w0)) (by kernel_rfl) Tryz.func3 (Λ := Lam3) (c := (bodyOf Tryz.f3)) (by kernel_rfl) Tryz.call3 (by kernel_rfl) (LS_of (bodyOf Tryz.f3) 5 (by kernel_rfl) (by
    intro i hi
    match i, hi with
    | 0, _ => exact lok3_3
    | 1, _ => exact lok3_8
    | 2, _ => exact lok3_11
    | 3, _ => exact lok3_14
    | 4, _ => exact lok3_17
    | i + 5, hi => omega) 1 (by kernel_rfl) (by
    intro i hi
    match i, hi with
    | 0, _ => exact pok3_22102
    | i + 1, hi => omega)) false (np := 0) (Nat.le_of_ble_eq_true (by kernel_rfl))).imp fun args => ?_
  by_cases hl : args.length = 0
  rotate_left
  · exact .inr fun m k hk => by
      unfold G3 at hk
      split at hk
      · exact hl rfl
      · exact hk
  obtain rfl : args = [] := len_list0 hl

  exact .inl fun m k => propext ⟨fun h => ⟨rfl, by rw [eqn3]; simpa only [G3, kI, kbool, kS, kptr, kaggN, kite, decide_true, eq_self] using h⟩, fun h => by have h := h.2; rw [eqn3] at h; simpa only [G3, kI, kbool, kS, kptr, kaggN, kite, decide_true, eq_self] using h⟩

def E9 : Env := envOf [(6, G6), (17, G17)]

/-- pianola/pianolakeep.Plain -/
def F9 (c_0 : Nat → AV) (m : Mem) (k : (Nat → AV) → Mem → Prop) : Prop :=
  newK m ⟨7, c_0, 28, false⟩ fun b2 m1 => newK m1 ⟨6, Z6, 25, false⟩ fun b4 m3 => newK m3 ⟨37, upd (upd (upd (upd (upd (upd (upd (upd (upd (upd (upd (upd (upd (upd (upd (upd (upd (upd (upd (upd (upd (upd (upd (upd (upd (upd (upd (upd (upd (upd (upd (upd (upd (upd (upd (upd (upd (Z37) 0 (.flat (.int .i64 1))) 1 (.flat (.int .i64 2))) 2 (.flat (.int .i64 3))) 3 (.flat (.int .i64 4))) 4 (.flat (.int .i64 5))) 5 (.flat (.int .i64 6))) 6 (.flat (.int .i64 9))) 7 (.flat (.int .i64 10))) 8 (.flat (.int .i64 13))) 9 (.flat (.int .i64 14))) 10 (.flat (.int .i64 15))) 11 (.flat (.int .i64 16))) 12 (.flat (.int .i64 17))) 13 (.flat (.int .i64 18))) 14 (.flat (.int .i64 19))) 15 (.flat (.int .i64 20))) 16 (.flat (.int .i64 21))) 17 (.flat (.int .i64 23))) 18 (.flat (.int .i64 25))) 19 (.flat (.int .i64 26))) 20 (.flat (.int .i64 27))) 21 (.flat (.int .i64 28))) 22 (.flat (.int .i64 29))) 23 (.flat (.int .i64 30))) 24 (.flat (.int .i64 31))) 25 (.flat (.int .i64 47))) 26 (.flat (.int .i64 48))) 27 (.flat (.int .i64 49))) 28 (.flat (.int .i64 50))) 29 (.flat (.int .i64 51))) 30 (.flat (.int .i64 52))) 31 (.flat (.int .i64 53))) 32 (.flat (.int .i64 63))) 33 (.flat (.int .i64 64))) 34 (.flat (.int .i64 65))) 35 (.flat (.int .i64 76))) 36 (.flat (.int .i64 77)), 3, false⟩ fun b6 m5 => ∃ Fr7 : Nat → Prop, Fr7 b2 ∧ (ldG 7 m5 b2 0 fun c8 => Fr7 b2 ∧ (ldI .i64 m5 b2 0 fun x9 => F17 x9 0 1048576 m5 fun x10 m11 => KeepsIn Fr7 m5 m11 ∧ (kif (decide (0 ≤ x10.tmod 37) && decide (x10.tmod 37 < 37)) (Fr7 b6 ∧ (ldI .i64 m11 b6 (0 + (x10.tmod 37).toNat * 1) fun x12 => F6 c8 x12 m11 fun c13 m14 => KeepsIn Fr7 m11 m14 ∧ (stG 6 m14 b4 0 c13 fun m15 => ldG 6 m15 b4 0 fun c16 => (Keeps m m15 ∧ InDomG 6 m c16 ∧ k c16 m)))) False)))

def G9 (args : List AV) (m : Mem) (k : KV) : Prop := match args with
  | [a0] => kaggN 7 a0 fun c_0 => F9 c_0 m (fun c_1000 m' => k (.agg 6 c_1000) m')
  | _ => False

def Lam9 : LEnv := ⟨fun a σ m k => match firstReg a with
  | _ => bump False,
  fun id => match id with
  | 2 => true
  | _ => bump false,
  fun b => match keyC b with
  | _ => bump false,
  fun b σ m k => match keyC b with
  | _ => bump False⟩

theorem eqn9 (c_0 : Nat → AV) (m : Mem) (k : KV) : bodyK Tryz.prog E9 Lam9 Tryz.f9 true [(.agg 7 c_0)] m k = F9 c_0 m (fun c_1000 m' => k (.agg 6 c_1000) m') := by
  kernel_rfl

theorem fs9 (w0 : World) : FS Tryz.prog w0 9 G9 := by
  refine (fs_body (Γ := E9) (sound_env (l := [(6, G6), (17, G17)]) w0 (by
    intro p hp
    simp only [List.mem_cons, List.not_mem_nil, or_false] at hp
    rcases hp with rfl | rfl
    · exact fs6 w0
    · exact fs17 w0)) (by kernel_rfl) Tryz.func9 (Λ := Lam9) (c := (bodyOf Tryz.f9)) (by kernel_rfl) Tryz.call9 (by kernel_rfl) (LS_of (bodyOf Tryz.f9) 0 (by kernel_rfl) (fun i hi => absurd hi (Nat.not_lt_zero i)) 0 (by kernel_rfl) (fun i hi => absurd hi (Nat.not_lt_zero i))) true (np := 1) (Nat.le_of_ble_eq_true (by kernel_rfl))).imp fun args => ?_
  by_cases hl : args.length = 1
  rotate_left
  · exact .inr fun m k hk => by
      unfold G9 at hk
      split at hk
      · exact hl rfl
      · exact hk
  obtain ⟨a0, rfl⟩ : ∃ a0, args = [a0] := len_list1 hl
  rcases kaggN_or 7 a0 with ⟨c_0, rfl⟩ | h
  rotate_left
  · exact .inr fun m k hk => h _ (by simpa only [G9, kI, kbool, kS, kptr, kaggN, kite, decide_true, eq_self] using hk)
  exact .inl fun m k => propext ⟨fun h => ⟨rfl, by rw [eqn9]; simpa only [G9, kI, kbool, kS, kptr, kaggN, kite, decide_true, eq_self] using h⟩, fun h => by have h := h.2; rw [eqn9] at h; simpa only [G9, kI, kbool, kS, kptr, kaggN, kite, decide_true, eq_self] using h⟩

def E10 : Env := envOf [(6, G6), (17, G17)]

/-- pianola/pianolakeep.Any -/
def F10 (c_0 : Nat → AV) (m : Mem) (k : (Nat → AV) → Mem → Prop) : Prop :=
  newK m ⟨7, c_0, 28, false⟩ fun b2 m1 => newK m1 ⟨6, Z6, 25, false⟩ fun b4 m3 => ∃ Fr5 : Nat → Prop, Fr5 b2 ∧ (ldG 7 m3 b2 0 fun c6 => Fr5 b2 ∧ (ldI .i64 m3 b2 0 fun x7 => F17 x7 0 1048576 m3 fun x8 m9 => KeepsIn Fr5 m3 m9 ∧ (F6 c6 (IntKind.wrap .i64 (1 + (x8.tmod 77))) m9 fun c10 m11 => KeepsIn Fr5 m9 m11 ∧ (stG 6 m11 b4 0 c10 fun m12 => ldG 6 m12 b4 0 fun c13 => (Keeps m m12 ∧ InDomG 6 m c13 ∧ k c13 m)))))

def G10 (args : List AV) (m : Mem) (k : KV) : Prop := match args with
  | [a0] => kaggN 7 a0 fun c_0 => F10 c_0 m (fun c_1000 m' => k (.agg 6 c_1000) m')
  | _ => False

def Lam10 : LEnv := ⟨fun a σ m k => match firstReg a with
  | _ => bump False,
  fun id => match id with
  | 1 => true
  | _ => bump false,
  fun b => match keyC b with
  | _ => bump false,
  fun b σ m k => match keyC b with
  | _ => bump False⟩

theorem eqn10 (c_0 : Nat → AV) (m : Mem) (k : KV) : bodyK Tryz.prog E10 Lam10 Tryz.f10 true [(.agg 7 c_0)] m k = F10 c_0 m (fun c_1000 m' => k (.agg 6 c_1000) m') := by
  kernel_rfl

theorem fs10 (w0 : World) : FS Tryz.prog w0 10 G10 := by
  refine (fs_body (Γ := E10) (sound_env (l := [(6, G6), (17, G17)]) w0 (by
    intro p hp
    simp only [List.mem_cons, List.not_mem_nil, or_false] at hp
    rcases hp with rfl | rfl
    · exact fs6 w0
    · exact fs17 w0)) (by kernel_rfl) Tryz.func10 (Λ := Lam10) (c := (bodyOf Tryz.f10)) (by kernel_rfl) Tryz.call10 (by kernel_rfl) (LS_of (bodyOf Tryz.f10) 0 (by kernel_rfl) (fun i hi => absurd hi (Nat.not_lt_zero i)) 0 (by kernel_rfl) (fun i hi => absurd hi (Nat.not_lt_zero i))) true (np := 1) (Nat.le_of_ble_eq_true (by kernel_rfl))).imp fun args => ?_
  by_cases hl : args.length = 1
  rotate_left
  · exact .inr fun m k hk => by
      unfold G10 at hk
      split at hk
      · exact hl rfl
      · exact hk
  obtain ⟨a0, rfl⟩ : ∃ a0, args = [a0] := len_list1 hl
  rcases kaggN_or 7 a0 with ⟨c_0, rfl⟩ | h
  rotate_left
  · exact .inr fun m k hk => h _ (by simpa only [G10, kI, kbool, kS, kptr, kaggN, kite, decide_true, eq_self] using hk)
  exact .inl fun m k => propext ⟨fun h => ⟨rfl, by rw [eqn10]; simpa only [G10, kI, kbool, kS, kptr, kaggN, kite, decide_true, eq_self] using h⟩, fun h => by have h := h.2; rw [eqn10] at h; simpa only [G10, kI, kbool, kS, kptr, kaggN, kite, decide_true, eq_self] using h⟩

def E4 : Env := envOf [(7, G7), (8, G8), (9, G9), (10, G10)]

/-- pianola/pianolalaw19.LiftTells -/
def F4 (v_0 : AV) (c_1 : Nat → AV) (c_2 : Nat → AV) (m : Mem) (k : Bool → Mem → Prop) : Prop :=
  newK m ⟨7, c_1, 28, false⟩ fun b2 m1 => newK m1 ⟨6, c_2, 25, false⟩ fun b4 m3 => ldG 7 m3 b2 0 fun c5 => F9 c5 m3 fun c6 m7 => F7 c6 v_0 m7 fun x8 m9 => kif x8 (ldG 7 m9 b2 0 fun c10 => F10 c10 m9 fun c11 m12 => F7 c11 v_0 m12 fun x13 m14 => kif x13 (ldG 6 m14 b4 0 fun c15 => F7 c15 v_0 m14 fun x16 m17 => kif x16 (F8  m17 fun x18 m19 => k x18 m19) (k false m17)) (k false m14)) (k false m9)

def G4 (args : List AV) (m : Mem) (k : KV) : Prop := match args with
  | [a0, a1, a2] => kaggN 7 a1 fun c_1 => kaggN 6 a2 fun c_2 => F4 a0 c_1 c_2 m (fun x_1000 m' => k (.flat (.bool x_1000)) m')
  | _ => False

def Lam4 : LEnv := ⟨fun a σ m k => match firstReg a with
  | _ => bump False,
  fun id => match id with
  | _ => bump false,
  fun b => match keyC b with
  | _ => bump false,
  fun b σ m k => match keyC b with
  | _ => bump False⟩

theorem eqn4 (v_0 : AV) (c_1 : Nat → AV) (c_2 : Nat → AV) (m : Mem) (k : KV) : bodyK Tryz.prog E4 Lam4 Tryz.f4 false [v_0, (.agg 7 c_1), (.agg 6 c_2)] m k = F4 v_0 c_1 c_2 m (fun x_1000 m' => k (.flat (.bool x_1000)) m') := by
  kernel_rfl

theorem fs4 (w0 : World) : FS Tryz.prog w0 4 G4 := by
  refine (fs_body (Γ := E4) (sound_env (l := [(7, G7), (8, G8), (9, G9), (10, G10)]) w0 (by
    intro p hp
    simp only [List.mem_cons, List.not_mem_nil, or_false] at hp
    rcases hp with rfl | rfl | rfl | rfl
    · exact fs7 w0
    · exact fs8 w0
    · exact fs9 w0
    · exact fs10 w0)) (by kernel_rfl) Tryz.func4 (Λ := Lam4) (c := (bodyOf Tryz.f4)) (by kernel_rfl) Tryz.call4 (by kernel_rfl) (LS_of (bodyOf Tryz.f4) 0 (by kernel_rfl) (fun i hi => absurd hi (Nat.not_lt_zero i)) 0 (by kernel_rfl) (fun i hi => absurd hi (Nat.not_lt_zero i))) false (np := 3) (Nat.le_of_ble_eq_true (by kernel_rfl))).imp fun args => ?_
  by_cases hl : args.length = 3
  rotate_left
  · exact .inr fun m k hk => by
      unfold G4 at hk
      split at hk
      · exact hl rfl
      · exact hk
  obtain ⟨a0, a1, a2, rfl⟩ : ∃ a0 a1 a2, args = [a0, a1, a2] := len_list3 hl
  rcases kaggN_or 7 a1 with ⟨c_1, rfl⟩ | h
  rotate_left
  · exact .inr fun m k hk => h _ (by simpa only [G4, kI, kbool, kS, kptr, kaggN, kite, decide_true, eq_self] using hk)
  rcases kaggN_or 6 a2 with ⟨c_2, rfl⟩ | h
  rotate_left
  · exact .inr fun m k hk => h _ (by simpa only [G4, kI, kbool, kS, kptr, kaggN, kite, decide_true, eq_self] using hk)
  exact .inl fun m k => propext ⟨fun h => ⟨rfl, by rw [eqn4]; simpa only [G4, kI, kbool, kS, kptr, kaggN, kite, decide_true, eq_self] using h⟩, fun h => by have h := h.2; rw [eqn4] at h; simpa only [G4, kI, kbool, kS, kptr, kaggN, kite, decide_true, eq_self] using h⟩

def E15 : Env := envOf []

def R15_4 (v_0 : AV) (v_1 : AV) (x_5 : Int) (m : Mem) (kn : Int → Mem → Prop) (k0 : Mem → Prop) (kr : Bool → Mem → Prop) : Prop :=
  klen v_0 fun x3 => kif (decide (x_5 < x3)) (ksl v_0 fun b4 o5 l6 p7 => kif (decide (0 ≤ x_5) && decide (x_5 < l6)) (ldI .u32 m b4 (o5 + (x_5).toNat * 1) fun x8 => ksl v_1 fun b9 o10 l11 p12 => kif (decide (0 ≤ x_5) && decide (x_5 < l11)) (ldI .u32 m b9 (o10 + (x_5).toNat * 1) fun x13 => kif (x8 != x13) (kr false m) (kn (IntKind.wrap .i64 (x_5 + 1)) m)) False) False) (k0  m)

def L15_4 (v_0 : AV) (v_1 : AV) : Nat → Int → Mem → (Mem → Prop) → (Bool → Mem → Prop) → Prop
  | 0, _,  _, _, _ => bump False
  | N + 1, x_5,  m, k0, kr => R15_4 v_0 v_1 x_5 m (fun x_5' m' => L15_4 v_0 v_1 N x_5' m' k0 kr) k0 kr

/-- pianola/pianolabook.Same[uint32] -/
def F15 (v_0 : AV) (v_1 : AV) (m : Mem) (k : Bool → Mem → Prop) : Prop :=
  klen v_0 fun x1 => klen v_1 fun x2 => kif (x1 != x2) ((Keeps m m ∧ k false m)) (∃ N17, L15_4 v_0 v_1 N17 0 m (fun m14 => (Keeps m m14 ∧ k true m)) (fun x15 m16 => (Keeps m m16 ∧ k x15 m)))

def G15 (args : List AV) (m : Mem) (k : KV) : Prop := match args with
  | [a0, a1] => F15 a0 a1 m (fun x_1000 m' => k (.flat (.bool x_1000)) m')
  | _ => False

def Lam15_4 (σ : Nat → AV) (m : Mem) (k : KX) : Prop := kI .i64 (σ 5) fun x_5 => ∃ N, L15_4 (σ 0) (σ 1) N x_5 m (fun m' => k (.exit 0) (only [] []) m') (fun x_4' m' => k .ret (only [4] [(.flat (.bool x_4'))]) m')

def Lam15 : LEnv := ⟨fun a σ m k => match firstReg a with
  | some 4 => Lam15_4 σ m k
  | _ => bump False,
  fun id => match id with
  | _ => bump false,
  fun b => match keyC b with
  | _ => bump false,
  fun b σ m k => match keyC b with
  | _ => bump False⟩

def lx15_4 : Ex → List Nat := fun e => match e with
  | .exit 0 => []
  | .ret => [4]
  | _ => []

theorem round15_4 (v_0 : AV) (v_1 : AV) (x_5 : Int) (m : Mem) (G : List AV → Mem → Prop) (k : KX) : (wpA Tryz.prog E15 Lam15 ((loopsOf (bodyOf Tryz.f15)).getD 0 .skip) (only [0, 1, 5] [v_0, v_1, (.flat (.int .i64 x_5))]) m fun e σ' m' => match e with
    | .normal => G ([0, 1, 5].map σ') m'
    | .exit id => k (.exit id) (only (lx15_4 (.exit id)) ((lx15_4 (.exit id)).map σ')) m'
    | .ret => k .ret (only (lx15_4 .ret) ((lx15_4 .ret).map σ')) m') = R15_4 v_0 v_1 x_5 m (fun x_5' m' => G [v_0, v_1, (.flat (.int .i64 x_5'))] m') (fun m' => k (.exit 0) (only [] []) m') (fun x_4' m' => k .ret (only [4] [(.flat (.bool x_4'))]) m') := by
  kernel_rfl

theorem loop15_4 (v_0 : AV) (v_1 : AV) (k : KX) : ∀ (N : Nat) (x_5 : Int) (m : Mem), rounds Tryz.prog E15 Lam15 [0, 1, 5] lx15_4 ((loopsOf (bodyOf Tryz.f15)).getD 0 .skip) N [v_0, v_1, (.flat (.int .i64 x_5))] m k = L15_4 v_0 v_1 N x_5 m (fun m' => k (.exit 0) (only [] []) m') (fun x_4' m' => k .ret (only [4] [(.flat (.bool x_4'))]) m') := by
  intro N
  induction N with
  | zero => intros; rfl
  | succ N ih =>
    intro x_5 m
    refine (round15_4 v_0 v_1 x_5 m (fun vs m' => rounds Tryz.prog E15 Lam15 [0, 1, 5] lx15_4 ((loopsOf (bodyOf Tryz.f15)).getD 0 .skip) N vs m' k) k).trans ?_
    simp only [ih]
    rfl

theorem lok15_4 : LoopOK Tryz.prog E15 Lam15 ((loopsOf (bodyOf Tryz.f15)).getD 0 .skip) := by
  refine ⟨fun σ => ∃ v_0 v_1 x_5, σ 0 = v_0 ∧ σ 1 = v_1 ∧ σ 5 = .flat (.int .i64 x_5), [0, 1, 5], lx15_4, fun σ m k => ?_⟩
  have e : Lam15.loop ((loopsOf (bodyOf Tryz.f15)).getD 0 .skip) σ m k = Lam15_4 σ m k := by kernel_rfl
  rw [e]
  constructor
  · intro h
    unfold Lam15_4 at h
    obtain ⟨v_0, h0⟩ : ∃ v, σ 0 = v := ⟨_, rfl⟩
    obtain ⟨v_1, h1⟩ : ∃ v, σ 1 = v := ⟨_, rfl⟩
    obtain ⟨x_5, h2, h⟩ := kI_ok h
    obtain ⟨N, h⟩ := h
    refine ⟨⟨v_0, v_1, x_5, h0, h1, h2⟩, N, ?_⟩
    have ev : [0, 1, 5].map σ = [v_0, v_1, (.flat (.int .i64 x_5))] := by simp only [List.map_cons, List.map_nil, h0, h1, h2]
    rw [ev, loop15_4]
    simp only [h0, h1] at h
    exact h
  · rintro ⟨⟨v_0, v_1, x_5, h0, h1, h2⟩, N, h⟩
    have ev : [0, 1, 5].map σ = [v_0, v_1, (.flat (.int .i64 x_5))] := by simp only [List.map_cons, List.map_nil, h0, h1, h2]
    rw [ev, loop15_4] at h
    unfold Lam15_4
    try simp only [h0, h1, h2, kI, kbool, kS, kptr, kaggN, kite, decide_true, eq_self]
    exact ⟨N, h⟩

theorem eqn15 (v_0 : AV) (v_1 : AV) (m : Mem) (k : KV) : bodyK Tryz.prog E15 Lam15 Tryz.f15 true [v_0, v_1] m k = F15 v_0 v_1 m (fun x_1000 m' => k (.flat (.bool x_1000)) m') := by
  kernel_rfl

theorem fs15 (w0 : World) : FS Tryz.prog w0 15 G15 := by
  refine (fs_body (Γ := E15) (sound_env (l := []) w0 (by
    intro p hp
    cases hp)) (by kernel_rfl) Tryz.func15 (Λ := Lam15) (c := (bodyOf Tryz.f15)) (by kernel_rfl) Tryz.call15 (by kernel_rfl) (LS_of (bodyOf Tryz.f15) 1 (by kernel_rfl) (by
    intro i hi
    match i, hi with
    | 0, _ => exact lok15_4
    | i + 1, hi => omega) 0 (by kernel_rfl) (fun i hi => absurd hi (Nat.not_lt_zero i))) true (np := 2) (Nat.le_of_ble_eq_true (by kernel_rfl))).imp fun args => ?_
  by_cases hl : args.length = 2
  rotate_left
  · exact .inr fun m k hk => by
      unfold G15 at hk
      split at hk
      · exact hl rfl
      · exact hk
  obtain ⟨a0, a1, rfl⟩ : ∃ a0 a1, args = [a0, a1] := len_list2 hl

  exact .inl fun m k => propext ⟨fun h => ⟨rfl, by rw [eqn15]; simpa only [G15, kI, kbool, kS, kptr, kaggN, kite, decide_true, eq_self] using h⟩, fun h => by have h := h.2; rw [eqn15] at h; simpa only [G15, kI, kbool, kS, kptr, kaggN, kite, decide_true, eq_self] using h⟩

def E5 : Env := envOf [(8, G8), (9, G9), (11, G11), (12, G12), (13, G13), (14, G14), (15, G15)]

def R5_8 (v_1 : AV) (v_5 : AV) (b_6 o_6 : Nat) (x_8 : Int) (m : Mem) (kn : Int → Mem → Prop) (k2 : Mem → Prop) (kr : Bool → Mem → Prop) : Prop :=
  klen v_1 fun x25 => kif (decide (x_8 < x25)) (kif (decide (x_8 < 30)) (ksl v_1 fun b26 o27 l28 p29 => kif (decide (0 ≤ x_8) && decide (x_8 < l28)) (ldG 7 m b26 (o27 + (x_8).toNat * 7) fun c30 => F9 c30 m fun c31 m32 => newK m32 ⟨6, Z6, 25, false⟩ fun b34 m33 => stG 6 m33 b34 0 c31 fun m35 => ldG 6 m35 b34 0 fun c36 => F13 c36 m35 fun v37 m38 => F12 v_5 v37 m38 fun x39 m40 => kif (!x39) (kr false m40) (ldG 6 m40 b34 0 fun c41 => F14 b_6 o_6 c41 m40 fun x42 m43 => kn (IntKind.wrap .i64 (x_8 + 1)) m43)) False) (k2  m)) (k2  m)

def L5_8 (v_1 : AV) (v_5 : AV) (b_6 o_6 : Nat) : Nat → Int → Mem → (Mem → Prop) → (Bool → Mem → Prop) → Prop
  | 0, _,  _, _, _ => bump False
  | N + 1, x_8,  m, k2, kr => R5_8 v_1 v_5 b_6 o_6 x_8 m (fun x_8' m' => L5_8 v_1 v_5 b_6 o_6 N x_8' m' k2 kr) k2 kr

def R5_4 (v_0 : AV) (v_1 : AV) (v_5 : AV) (b_6 o_6 : Nat) (x_7 : Int) (m : Mem) (kn : Int → Mem → Prop) (k0 : Mem → Prop) : Prop :=
  kif (decide (x_7 < 32)) (klen v_0 fun x6 => kif (decide (x_7 < x6)) (ksl v_0 fun b7 o8 l9 p10 => kif (decide (0 ≤ x_7) && decide (x_7 < l9)) (ldI .u32 m b7 (o8 + (x_7).toNat * 1) fun x11 => ksl v_0 fun b12 o13 l14 p15 => kif (decide (0 ≤ x_7) && decide (x_7 < l14)) (ldI .u32 m b12 (o13 + (x_7).toNat * 1) fun x16 => ksl v_5 fun b17 o18 l19 p20 => kif (decide (0 ≤ x_7) && decide (x_7 < l19)) (stC m b17 (o18 + (x_7).toNat * 1) (.flat (.int .u32 x11)) fun m21 => kif (decide (0 ≤ x_7) && decide (x_7 < 32)) (stC m21 b_6 (o_6 + 0 + 0 + (x_7).toNat * 1) (.flat (.int .u32 x16)) fun m22 => kn (IntKind.wrap .i64 (x_7 + 1)) m22) False) False) False) False) (k0  m)) (k0  m)

def L5_4 (v_0 : AV) (v_1 : AV) (v_5 : AV) (b_6 o_6 : Nat) : Nat → Int → Mem → (Mem → Prop) → Prop
  | 0, _,  _, _ => bump False
  | N + 1, x_7,  m, k0 => R5_4 v_0 v_1 v_5 b_6 o_6 x_7 m (fun x_7' m' => L5_4 v_0 v_1 v_5 b_6 o_6 N x_7' m' k0) k0

/-- pianola/pianolalaw19.LiftRows -/
def F5 (v_0 : AV) (v_1 : AV) (m : Mem) (k : Bool → Mem → Prop) : Prop :=
  mkS [(.flat (.int .u32 0))] 4 23 40 40 m fun b1 m2 => F11 1 (.flat (.slice none 0 0)) (.flat (.slice none 0 0)) m2 fun b3 o4 m5 => ∃ N24, L5_4 v_0 v_1 (.sl b1 0 40 (.ex 40)) b3 o4 N24 1 m5 (fun m23 => ∃ N47, L5_8 v_1 (.sl b1 0 40 (.ex 40)) b3 o4 N47 0 m23 (fun m44 => slS 1 (.sl b1 0 40 (.ex 40)) none (some 32) fun v48 => slS 1 (.sl b3 (o4 + 0 + 0) 32 (.ex 32)) none none fun v49 => F15 v48 v49 m44 fun x50 m51 => kif x50 (ldI .u32 m51 b1 32 fun x52 => ldI .u32 m51 b3 (o4 + 0 + 32) fun x53 => kif (x52 == x53) (ldI .u32 m51 b1 33 fun x54 => ldI .u32 m51 b3 (o4 + 0 + 33) fun x55 => kif (x54 == x55) (F8  m51 fun x56 m57 => k x56 m57) (k false m51)) (k false m51)) (k false m51)) (fun x45 m46 => k x45 m46))

def G5 (args : List AV) (m : Mem) (k : KV) : Prop := match args with
  | [a0, a1] => F5 a0 a1 m (fun x_1000 m' => k (.flat (.bool x_1000)) m')
  | _ => False

def Lam5_4 (σ : Nat → AV) (m : Mem) (k : KX) : Prop := kptr (σ 6) fun b_6 o_6 => kI .i64 (σ 7) fun x_7 => ∃ N, L5_4 (σ 0) (σ 1) (σ 5) b_6 o_6 N x_7 m (fun m' => k (.exit 0) (only [1, 5, 6] [(σ 1), (σ 5), (.ptr b_6 o_6)]) m')

def Lam5_8 (σ : Nat → AV) (m : Mem) (k : KX) : Prop := kptr (σ 6) fun b_6 o_6 => kI .i64 (σ 8) fun x_8 => ∃ N, L5_8 (σ 1) (σ 5) b_6 o_6 N x_8 m (fun m' => k (.exit 2) (only [5, 6] [(σ 5), (.ptr b_6 o_6)]) m') (fun x_4' m' => k .ret (only [4] [(.flat (.bool x_4'))]) m')

def Lam5 : LEnv := ⟨fun a σ m k => match firstReg a with
  | some 4 => Lam5_4 σ m k
  | some 8 => Lam5_8 σ m k
  | _ => bump False,
  fun id => match id with
  | _ => bump false,
  fun b => match keyC b with
  | _ => bump false,
  fun b σ m k => match keyC b with
  | _ => bump False⟩

def lx5_8 : Ex → List Nat := fun e => match e with
  | .exit 2 => [5, 6]
  | .ret => [4]
  | _ => []

theorem round5_8 (v_1 : AV) (v_5 : AV) (b_6 o_6 : Nat) (x_8 : Int) (m : Mem) (G : List AV → Mem → Prop) (k : KX) : (wpA Tryz.prog E5 Lam5 ((loopsOf (bodyOf Tryz.f5)).getD 1 .skip) (only [1, 5, 6, 8] [v_1, v_5, (.ptr b_6 o_6), (.flat (.int .i64 x_8))]) m fun e σ' m' => match e with
    | .normal => G ([1, 5, 6, 8].map σ') m'
    | .exit id => k (.exit id) (only (lx5_8 (.exit id)) ((lx5_8 (.exit id)).map σ')) m'
    | .ret => k .ret (only (lx5_8 .ret) ((lx5_8 .ret).map σ')) m') = R5_8 v_1 v_5 b_6 o_6 x_8 m (fun x_8' m' => G [v_1, v_5, (.ptr b_6 o_6), (.flat (.int .i64 x_8'))] m') (fun m' => k (.exit 2) (only [5, 6] [v_5, (.ptr b_6 o_6)]) m') (fun x_4' m' => k .ret (only [4] [(.flat (.bool x_4'))]) m') := by
  kernel_rfl

theorem loop5_8 (v_1 : AV) (v_5 : AV) (b_6 o_6 : Nat) (k : KX) : ∀ (N : Nat) (x_8 : Int) (m : Mem), rounds Tryz.prog E5 Lam5 [1, 5, 6, 8] lx5_8 ((loopsOf (bodyOf Tryz.f5)).getD 1 .skip) N [v_1, v_5, (.ptr b_6 o_6), (.flat (.int .i64 x_8))] m k = L5_8 v_1 v_5 b_6 o_6 N x_8 m (fun m' => k (.exit 2) (only [5, 6] [v_5, (.ptr b_6 o_6)]) m') (fun x_4' m' => k .ret (only [4] [(.flat (.bool x_4'))]) m') := by
  intro N
  induction N with
  | zero => intros; rfl
  | succ N ih =>
    intro x_8 m
    refine (round5_8 v_1 v_5 b_6 o_6 x_8 m (fun vs m' => rounds Tryz.prog E5 Lam5 [1, 5, 6, 8] lx5_8 ((loopsOf (bodyOf Tryz.f5)).getD 1 .skip) N vs m' k) k).trans ?_
    simp only [ih]
    rfl

theorem lok5_8 : LoopOK Tryz.prog E5 Lam5 ((loopsOf (bodyOf Tryz.f5)).getD 1 .skip) := by
  refine ⟨fun σ => ∃ v_1 v_5 b_6 o_6 x_8, σ 1 = v_1 ∧ σ 5 = v_5 ∧ σ 6 = .ptr b_6 o_6 ∧ σ 8 = .flat (.int .i64 x_8), [1, 5, 6, 8], lx5_8, fun σ m k => ?_⟩
  have e : Lam5.loop ((loopsOf (bodyOf Tryz.f5)).getD 1 .skip) σ m k = Lam5_8 σ m k := by kernel_rfl
  rw [e]
  constructor
  · intro h
    unfold Lam5_8 at h
    obtain ⟨v_1, h0⟩ : ∃ v, σ 1 = v := ⟨_, rfl⟩
    obtain ⟨v_5, h1⟩ : ∃ v, σ 5 = v := ⟨_, rfl⟩
    obtain ⟨b_6, o_6, h2, h⟩ := kptr_ok h
    obtain ⟨x_8, h3, h⟩ := kI_ok h
    obtain ⟨N, h⟩ := h
    refine ⟨⟨v_1, v_5, b_6, o_6, x_8, h0, h1, h2, h3⟩, N, ?_⟩
    have ev : [1, 5, 6, 8].map σ = [v_1, v_5, (.ptr b_6 o_6), (.flat (.int .i64 x_8))] := by simp only [List.map_cons, List.map_nil, h0, h1, h2, h3]
    rw [ev, loop5_8]
    simp only [h0, h1] at h
    exact h
  · rintro ⟨⟨v_1, v_5, b_6, o_6, x_8, h0, h1, h2, h3⟩, N, h⟩
    have ev : [1, 5, 6, 8].map σ = [v_1, v_5, (.ptr b_6 o_6), (.flat (.int .i64 x_8))] := by simp only [List.map_cons, List.map_nil, h0, h1, h2, h3]
    rw [ev, loop5_8] at h
    unfold Lam5_8
    try simp only [h0, h1, h2, h3, kI, kbool, kS, kptr, kaggN, kite, decide_true, eq_self]
    exact ⟨N, h⟩

def lx5_4 : Ex → List Nat := fun e => match e with
  | .exit 0 => [1, 5, 6]
  | _ => []

theorem round5_4 (v_0 : AV) (v_1 : AV) (v_5 : AV) (b_6 o_6 : Nat) (x_7 : Int) (m : Mem) (G : List AV → Mem → Prop) (k : KX) : (wpA Tryz.prog E5 Lam5 ((loopsOf (bodyOf Tryz.f5)).getD 0 .skip) (only [0, 1, 5, 6, 7] [v_0, v_1, v_5, (.ptr b_6 o_6), (.flat (.int .i64 x_7))]) m fun e σ' m' => match e with
    | .normal => G ([0, 1, 5, 6, 7].map σ') m'
    | .exit id => k (.exit id) (only (lx5_4 (.exit id)) ((lx5_4 (.exit id)).map σ')) m'
    | .ret => k .ret (only (lx5_4 .ret) ((lx5_4 .ret).map σ')) m') = R5_4 v_0 v_1 v_5 b_6 o_6 x_7 m (fun x_7' m' => G [v_0, v_1, v_5, (.ptr b_6 o_6), (.flat (.int .i64 x_7'))] m') (fun m' => k (.exit 0) (only [1, 5, 6] [v_1, v_5, (.ptr b_6 o_6)]) m') := by
  kernel_rfl

theorem loop5_4 (v_0 : AV) (v_1 : AV) (v_5 : AV) (b_6 o_6 : Nat) (k : KX) : ∀ (N : Nat) (x_7 : Int) (m : Mem), rounds Tryz.prog E5 Lam5 [0, 1, 5, 6, 7] lx5_4 ((loopsOf (bodyOf Tryz.f5)).getD 0 .skip) N [v_0, v_1, v_5, (.ptr b_6 o_6), (.flat (.int .i64 x_7))] m k = L5_4 v_0 v_1 v_5 b_6 o_6 N x_7 m (fun m' => k (.exit 0) (only [1, 5, 6] [v_1, v_5, (.ptr b_6 o_6)]) m') := by
  intro N
  induction N with
  | zero => intros; rfl
  | succ N ih =>
    intro x_7 m
    refine (round5_4 v_0 v_1 v_5 b_6 o_6 x_7 m (fun vs m' => rounds Tryz.prog E5 Lam5 [0, 1, 5, 6, 7] lx5_4 ((loopsOf (bodyOf Tryz.f5)).getD 0 .skip) N vs m' k) k).trans ?_
    simp only [ih]
    rfl

theorem lok5_4 : LoopOK Tryz.prog E5 Lam5 ((loopsOf (bodyOf Tryz.f5)).getD 0 .skip) := by
  refine ⟨fun σ => ∃ v_0 v_1 v_5 b_6 o_6 x_7, σ 0 = v_0 ∧ σ 1 = v_1 ∧ σ 5 = v_5 ∧ σ 6 = .ptr b_6 o_6 ∧ σ 7 = .flat (.int .i64 x_7), [0, 1, 5, 6, 7], lx5_4, fun σ m k => ?_⟩
  have e : Lam5.loop ((loopsOf (bodyOf Tryz.f5)).getD 0 .skip) σ m k = Lam5_4 σ m k := by kernel_rfl
  rw [e]
  constructor
  · intro h
    unfold Lam5_4 at h
    obtain ⟨v_0, h0⟩ : ∃ v, σ 0 = v := ⟨_, rfl⟩
    obtain ⟨v_1, h1⟩ : ∃ v, σ 1 = v := ⟨_, rfl⟩
    obtain ⟨v_5, h2⟩ : ∃ v, σ 5 = v := ⟨_, rfl⟩
    obtain ⟨b_6, o_6, h3, h⟩ := kptr_ok h
    obtain ⟨x_7, h4, h⟩ := kI_ok h
    obtain ⟨N, h⟩ := h
    refine ⟨⟨v_0, v_1, v_5, b_6, o_6, x_7, h0, h1, h2, h3, h4⟩, N, ?_⟩
    have ev : [0, 1, 5, 6, 7].map σ = [v_0, v_1, v_5, (.ptr b_6 o_6), (.flat (.int .i64 x_7))] := by simp only [List.map_cons, List.map_nil, h0, h1, h2, h3, h4]
    rw [ev, loop5_4]
    simp only [h0, h1, h2] at h
    exact h
  · rintro ⟨⟨v_0, v_1, v_5, b_6, o_6, x_7, h0, h1, h2, h3, h4⟩, N, h⟩
    have ev : [0, 1, 5, 6, 7].map σ = [v_0, v_1, v_5, (.ptr b_6 o_6), (.flat (.int .i64 x_7))] := by simp only [List.map_cons, List.map_nil, h0, h1, h2, h3, h4]
    rw [ev, loop5_4] at h
    unfold Lam5_4
    try simp only [h0, h1, h2, h3, h4, kI, kbool, kS, kptr, kaggN, kite, decide_true, eq_self]
    exact ⟨N, h⟩

theorem eqn5 (v_0 : AV) (v_1 : AV) (m : Mem) (k : KV) : bodyK Tryz.prog E5 Lam5 Tryz.f5 false [v_0, v_1] m k = F5 v_0 v_1 m (fun x_1000 m' => k (.flat (.bool x_1000)) m') := by
  kernel_rfl

theorem fs5 (w0 : World) : FS Tryz.prog w0 5 G5 := by
  refine (fs_body (Γ := E5) (sound_env (l := [(8, G8), (9, G9), (11, G11), (12, G12), (13, G13), (14, G14), (15, G15)]) w0 (by
    intro p hp
    simp only [List.mem_cons, List.not_mem_nil, or_false] at hp
    rcases hp with rfl | rfl | rfl | rfl | rfl | rfl | rfl
    · exact fs8 w0
    · exact fs9 w0
    · exact fs11 w0
    · exact fs12 w0
    · exact fs13 w0
    · exact fs14 w0
    · exact fs15 w0)) (by kernel_rfl) Tryz.func5 (Λ := Lam5) (c := (bodyOf Tryz.f5)) (by kernel_rfl) Tryz.call5 (by kernel_rfl) (LS_of (bodyOf Tryz.f5) 2 (by kernel_rfl) (by
    intro i hi
    match i, hi with
    | 0, _ => exact lok5_4
    | 1, _ => exact lok5_8
    | i + 2, hi => omega) 0 (by kernel_rfl) (fun i hi => absurd hi (Nat.not_lt_zero i))) false (np := 2) (Nat.le_of_ble_eq_true (by kernel_rfl))).imp fun args => ?_
  by_cases hl : args.length = 2
  rotate_left
  · exact .inr fun m k hk => by
      unfold G5 at hk
      split at hk
      · exact hl rfl
      · exact hk
  obtain ⟨a0, a1, rfl⟩ : ∃ a0 a1, args = [a0, a1] := len_list2 hl

  exact .inl fun m k => propext ⟨fun h => ⟨rfl, by rw [eqn5]; simpa only [G5, kI, kbool, kS, kptr, kaggN, kite, decide_true, eq_self] using h⟩, fun h => by have h := h.2; rw [eqn5] at h; simpa only [G5, kI, kbool, kS, kptr, kaggN, kite, decide_true, eq_self] using h⟩

end Go.Proofs.YtkgidjnaddjjbaaGreat.Am
