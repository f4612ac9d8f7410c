/- What Go functions ask of what follows them, as plain functions over the abstract machine; the machine asks just that. Written by gen.py. -/
import Derived.Test.YtkgidjnaddjjbaaProg
import Derived.Test.YtkgidjnaddjjbaaAmL
import Derived.Test.YtkgidjnaddjjbaaM1
namespace Go.Proofs.Ytkgidjnaddjjbaa.Am
set_option linter.unusedVariables false
set_option linter.unusedSimpArgs false
set_option maxRecDepth 100000

def E5 : Env := envOf [(11, G11), (12, G12), (13, G13), (14, G14)]

def P5_20102 (b_1 o_1 : Nat) (x_3 : Int) (m : Mem) (kr : AV → Mem → Prop) : Prop :=
  ∃ Fr75 : Nat → Prop, F12 x_3 m fun x76 m77 => KeepsIn Fr75 m m77 ∧ (Fr75 b_1 ∧ (ldI .i64 m77 b_1 (o_1 + 3) fun x78 => Fr75 b_1 ∧ (ldI .i64 m77 b_1 (o_1 + 1) fun x79 => Fr75 b_1 ∧ (ldI .i64 m77 b_1 (o_1 + 2) fun x80 => newK m77 ⟨5, splice (lget [(.flat (.int .i64 0)), (.flat (.int .i64 0)), (.flat (.int .i64 0)), (.flat (.int .i64 0)), (.flat (.int .u32 0))]) 0 5 (upd (upd (upd (upd (lget [(.flat (.int .i64 0)), (.flat (.int .i64 0)), (.flat (.int .i64 0)), (.flat (.int .i64 0)), (.flat (.int .u32 0))]) 0 (.flat (.int .i64 x76))) 1 (.flat (.int .i64 x78))) 2 (.flat (.int .i64 x79))) 3 (.flat (.int .i64 x80))), 41, false⟩ fun b82 m81 => kr (.sl b82 0 1 (.ex 1)) m81))))

def P5_19004 (b_1 o_1 : Nat) (x_3 : Int) (x_88 : Bool) (m : Mem) (kr : AV → Mem → Prop) (kn : Mem → Prop) : Prop :=
  kif x_88 (∃ Fr44 : Nat → Prop, Fr44 b_1 ∧ (ldG 6 m b_1 o_1 fun c45 => F14 c45 m fun x46 m47 => KeepsIn Fr44 m m47 ∧ (F12 x_3 m47 fun x48 m49 => KeepsIn Fr44 m47 m49 ∧ (Fr44 b_1 ∧ (ldI .i64 m49 b_1 (o_1 + 2) fun x50 => Fr44 b_1 ∧ (ldI .i64 m49 b_1 (o_1 + 1) fun x51 => newK m49 ⟨10, splice (splice (Z10) 0 5 (upd (upd (upd (lget [(.flat (.int .i64 0)), (.flat (.int .i64 0)), (.flat (.int .i64 0)), (.flat (.int .i64 0)), (.flat (.int .u32 0))]) 0 (.flat (.int .i64 1))) 1 (.flat (.int .i64 34))) 4 (.flat (.int .u32 x46)))) 5 5 (upd (upd (upd (upd (lget [(.flat (.int .i64 0)), (.flat (.int .i64 0)), (.flat (.int .i64 0)), (.flat (.int .i64 0)), (.flat (.int .u32 0))]) 0 (.flat (.int .i64 x48))) 1 (.flat (.int .i64 x50))) 2 (.flat (.int .i64 x51))) 3 (.flat (.int .i64 34))), 41, false⟩ fun b53 m52 => kr (.sl b53 0 2 (.ex 2)) m52)))))) (kn  m)

def P5_3004 (b_1 o_1 : Nat) (x_3 : Int) (x_6 : Bool) (m : Mem) (kr : AV → Mem → Prop) (kn : Mem → Prop) : Prop :=
  kif x_6 (kr (.flat (.slice none 0 0)) m) (kif (x_3 == 53) (ldI .i64 m b_1 (o_1 + 2) fun x7 => ldI .u32 m b_1 (o_1 + 5) fun x8 => newK m ⟨5, splice (lget [(.flat (.int .i64 0)), (.flat (.int .i64 0)), (.flat (.int .i64 0)), (.flat (.int .i64 0)), (.flat (.int .u32 0))]) 0 5 (upd (upd (upd (lget [(.flat (.int .i64 0)), (.flat (.int .i64 0)), (.flat (.int .i64 0)), (.flat (.int .i64 0)), (.flat (.int .u32 0))]) 0 (.flat (.int .i64 1))) 1 (.flat (.int .i64 x7))) 4 (.flat (.int .u32 (IntKind.wrap .u32 (x8 * 65536))))), 41, false⟩ fun b10 m9 => kr (.sl b10 0 1 (.ex 1)) m9) (kif (x_3 == 14) (ldI .i64 m b_1 (o_1 + 3) fun x11 => newK m ⟨5, splice (lget [(.flat (.int .i64 0)), (.flat (.int .i64 0)), (.flat (.int .i64 0)), (.flat (.int .i64 0)), (.flat (.int .u32 0))]) 0 5 (upd (upd (upd (lget [(.flat (.int .i64 0)), (.flat (.int .i64 0)), (.flat (.int .i64 0)), (.flat (.int .i64 0)), (.flat (.int .u32 0))]) 0 (.flat (.int .i64 2))) 1 (.flat (.int .i64 x11))) 2 (.flat (.int .i64 32))), 41, false⟩ fun b13 m12 => kr (.sl b13 0 1 (.ex 1)) m12) (kif (x_3 == 16) (ldI .i64 m b_1 (o_1 + 3) fun x14 => newK m ⟨5, splice (lget [(.flat (.int .i64 0)), (.flat (.int .i64 0)), (.flat (.int .i64 0)), (.flat (.int .i64 0)), (.flat (.int .u32 0))]) 0 5 (upd (upd (upd (lget [(.flat (.int .i64 0)), (.flat (.int .i64 0)), (.flat (.int .i64 0)), (.flat (.int .i64 0)), (.flat (.int .u32 0))]) 0 (.flat (.int .i64 2))) 1 (.flat (.int .i64 x14))) 2 (.flat (.int .i64 33))), 41, false⟩ fun b16 m15 => kr (.sl b16 0 1 (.ex 1)) m15) (kif (x_3 == 15) (ldI .i64 m b_1 (o_1 + 1) fun x17 => newK m ⟨5, splice (lget [(.flat (.int .i64 0)), (.flat (.int .i64 0)), (.flat (.int .i64 0)), (.flat (.int .i64 0)), (.flat (.int .u32 0))]) 0 5 (upd (upd (upd (lget [(.flat (.int .i64 0)), (.flat (.int .i64 0)), (.flat (.int .i64 0)), (.flat (.int .i64 0)), (.flat (.int .u32 0))]) 0 (.flat (.int .i64 2))) 1 (.flat (.int .i64 32))) 2 (.flat (.int .i64 x17))), 41, false⟩ fun b19 m18 => kr (.sl b19 0 1 (.ex 1)) m18) (kif (x_3 == 17) (ldI .i64 m b_1 (o_1 + 1) fun x20 => newK m ⟨5, splice (lget [(.flat (.int .i64 0)), (.flat (.int .i64 0)), (.flat (.int .i64 0)), (.flat (.int .i64 0)), (.flat (.int .u32 0))]) 0 5 (upd (upd (upd (lget [(.flat (.int .i64 0)), (.flat (.int .i64 0)), (.flat (.int .i64 0)), (.flat (.int .i64 0)), (.flat (.int .u32 0))]) 0 (.flat (.int .i64 2))) 1 (.flat (.int .i64 33))) 2 (.flat (.int .i64 x20))), 41, false⟩ fun b22 m21 => kr (.sl b22 0 1 (.ex 1)) m21) (kif (decide (x_3 ≤ 3)) (∃ Fr23 : Nat → Prop, Fr23 b_1 ∧ (ldI .i64 m b_1 (o_1 + 4) fun x24 => F12 x_3 m fun x25 m26 => KeepsIn Fr23 m m26 ∧ (Fr23 b_1 ∧ (ldI .i64 m26 b_1 (o_1 + 3) fun x27 => Fr23 b_1 ∧ (ldI .i64 m26 b_1 (o_1 + 2) fun x28 => newK m26 ⟨10, splice (splice (Z10) 0 5 (upd (upd (upd (lget [(.flat (.int .i64 0)), (.flat (.int .i64 0)), (.flat (.int .i64 0)), (.flat (.int .i64 0)), (.flat (.int .u32 0))]) 0 (.flat (.int .i64 1))) 1 (.flat (.int .i64 34))) 4 (.flat (.int .u32 (IntKind.wrap .u32 x24))))) 5 5 (upd (upd (upd (upd (lget [(.flat (.int .i64 0)), (.flat (.int .i64 0)), (.flat (.int .i64 0)), (.flat (.int .i64 0)), (.flat (.int .u32 0))]) 0 (.flat (.int .i64 x25))) 1 (.flat (.int .i64 x27))) 2 (.flat (.int .i64 x28))) 3 (.flat (.int .i64 34))), 41, false⟩ fun b30 m29 => kr (.sl b30 0 2 (.ex 2)) m29))))) (kif (decide (x_3 ≤ 6)) (∃ Fr31 : Nat → Prop, F12 x_3 m fun x32 m33 => KeepsIn Fr31 m m33 ∧ (Fr31 b_1 ∧ (ldI .i64 m33 b_1 (o_1 + 3) fun x34 => Fr31 b_1 ∧ (ldI .i64 m33 b_1 (o_1 + 2) fun x35 => Fr31 b_1 ∧ (ldI .i64 m33 b_1 (o_1 + 1) fun x36 => newK m33 ⟨5, splice (lget [(.flat (.int .i64 0)), (.flat (.int .i64 0)), (.flat (.int .i64 0)), (.flat (.int .i64 0)), (.flat (.int .u32 0))]) 0 5 (upd (upd (upd (upd (lget [(.flat (.int .i64 0)), (.flat (.int .i64 0)), (.flat (.int .i64 0)), (.flat (.int .i64 0)), (.flat (.int .u32 0))]) 0 (.flat (.int .i64 x32))) 1 (.flat (.int .i64 x34))) 2 (.flat (.int .i64 x35))) 3 (.flat (.int .i64 x36))), 41, false⟩ fun b38 m37 => kr (.sl b38 0 1 (.ex 1)) m37))))) (∃ Fr39 : Nat → Prop, Fr39 b_1 ∧ (ldG 6 m b_1 o_1 fun c40 => F13 c40 m fun x41 m42 => KeepsIn Fr39 m m42 ∧ (Fr39 b_1 ∧ (ldI .i64 m42 b_1 (o_1 + 2) fun x43 => kif (x41 == x43) (kif (decide (x_3 ≥ 46)) (P5_19004 b_1 o_1 x_3 (decide (x_3 ≤ 52)) m42 (fun v54 m55 => kr v54 m55) (fun m56 => kn  m56)) (P5_19004 b_1 o_1 x_3 false m42 (fun v57 m58 => kr v57 m58) (fun m59 => kn  m59))) (P5_19004 b_1 o_1 x_3 false m42 (fun v60 m61 => kr v60 m61) (fun m62 => kn  m62)))))))))))))

/-- pianola/lift.Of -/
def F5 (c_0 : Nat → AV) (m : Mem) (k : AV → Mem → Prop) : Prop :=
  newK m ⟨6, c_0, 27, false⟩ fun b2 m1 => ldI .i64 m1 b2 0 fun x3 => ldG 6 m1 b2 0 fun c4 => F11 c4 m1 fun x5 m6 => kif (!x5) (P5_3004 b2 0 x3 true m6 (fun v63 m64 => k v63 m64) (fun m65 => P5_20102 b2 0 x3 m65 (fun v83 m84 => k v83 m84))) (kif (x3 == 13) (P5_3004 b2 0 x3 true m6 (fun v66 m67 => k v66 m67) (fun m68 => P5_20102 b2 0 x3 m68 (fun v85 m86 => k v85 m86))) (kif (x3 == 76) (P5_3004 b2 0 x3 true m6 (fun v69 m70 => k v69 m70) (fun m71 => P5_20102 b2 0 x3 m71 (fun v87 m88 => k v87 m88))) (P5_3004 b2 0 x3 (x3 == 77) m6 (fun v72 m73 => k v72 m73) (fun m74 => P5_20102 b2 0 x3 m74 (fun v89 m90 => k v89 m90)))))

def G5 (args : List AV) (m : Mem) (k : KV) : Prop := match args with
  | [a0] => kaggN 6 a0 fun c_0 => F5 c_0 m (fun v_1000 m' => k v_1000 m')
  | _ => False

def LamP5_3004 (σ : Nat → AV) (m : Mem) (k : KX) : Prop := kptr (σ 1) fun b_1 o_1 => kI .i64 (σ 3) fun x_3 => kbool (σ 6) fun x_6 => P5_3004 b_1 o_1 x_3 x_6 m (fun v_2' m' => k .ret (only [2] [v_2']) m') (fun m' => k .normal (only [1, 3] [(.ptr b_1 o_1), (.flat (.int .i64 x_3))]) m')

def LamP5_19004 (σ : Nat → AV) (m : Mem) (k : KX) : Prop := kptr (σ 1) fun b_1 o_1 => kI .i64 (σ 3) fun x_3 => kbool (σ 88) fun x_88 => P5_19004 b_1 o_1 x_3 x_88 m (fun v_2' m' => k .ret (only [2] [v_2']) m') (fun m' => k .normal (only [1, 3] [(.ptr b_1 o_1), (.flat (.int .i64 x_3))]) m')

def LamP5_20102 (σ : Nat → AV) (m : Mem) (k : KX) : Prop := kptr (σ 1) fun b_1 o_1 => kI .i64 (σ 3) fun x_3 => P5_20102 b_1 o_1 x_3 m (fun v_2' m' => k .ret (only [2] [v_2']) m')

def Lam5 : LEnv := ⟨fun a σ m k => match firstReg a with
  | _ => bump False,
  fun id => match id with
  | 15 => true
  | 17 => true
  | 18 => true
  | 19 => true
  | 20 => true
  | _ => bump false,
  fun b => match keyC b with
  | some 3004 => true
  | some 19004 => true
  | some 20102 => true
  | _ => bump false,
  fun b σ m k => match keyC b with
  | some 3004 => LamP5_3004 σ m k
  | some 19004 => LamP5_19004 σ m k
  | some 20102 => LamP5_20102 σ m k
  | _ => bump False⟩

def lxp5_20102 : Ex → List Nat := fun e => match e with
  | .ret => [2]
  | _ => []

theorem pc5_20102 (b_1 o_1 : Nat) (x_3 : Int) (m : Mem) (k : KX) : once Try.prog E5 Lam5 [1, 3] lxp5_20102 (((secsOf (bodyOf Try.f5)).filter Lam5.cut).getD 0 .skip) [(.ptr b_1 o_1), (.flat (.int .i64 x_3))] m k = P5_20102 b_1 o_1 x_3 m (fun v_2' m' => k .ret (only [2] [v_2']) m') := by
  kernel_rfl

theorem pok5_20102 : PieceOK Try.prog E5 Lam5 (((secsOf (bodyOf Try.f5)).filter Lam5.cut).getD 0 .skip) := by
  refine ⟨fun σ => ∃ b_1 o_1 x_3, σ 1 = .ptr b_1 o_1 ∧ σ 3 = .flat (.int .i64 x_3), [1, 3], lxp5_20102, fun σ m k => ?_⟩
  have e : Lam5.piece (((secsOf (bodyOf Try.f5)).filter Lam5.cut).getD 0 .skip) σ m k = LamP5_20102 σ m k := by kernel_rfl
  rw [e]
  constructor
  · intro h
    unfold LamP5_20102 at h
    obtain ⟨b_1, o_1, h0, h⟩ := kptr_ok h
    obtain ⟨x_3, h1, h⟩ := kI_ok h
    refine ⟨⟨b_1, o_1, x_3, h0, h1⟩, ?_⟩
    have ev : [1, 3].map σ = [(.ptr b_1 o_1), (.flat (.int .i64 x_3))] := by simp only [List.map_cons, List.map_nil, h0, h1]
    rw [ev, pc5_20102]
    exact h
  · rintro ⟨⟨b_1, o_1, x_3, h0, h1⟩, h⟩
    have ev : [1, 3].map σ = [(.ptr b_1 o_1), (.flat (.int .i64 x_3))] := by simp only [List.map_cons, List.map_nil, h0, h1]
    rw [ev, pc5_20102] at h
    unfold LamP5_20102
    try simp only [h0, h1, kI, kbool, kS, kptr, kaggN, kite, decide_true, eq_self]
    exact h

def lxp5_19004 : Ex → List Nat := fun e => match e with
  | .ret => [2]
  | .normal => [1, 3]
  | _ => []

theorem pc5_19004 (b_1 o_1 : Nat) (x_3 : Int) (x_88 : Bool) (m : Mem) (k : KX) : once Try.prog E5 Lam5 [1, 3, 88] lxp5_19004 (((secsOf (bodyOf Try.f5)).filter Lam5.cut).getD 2 .skip) [(.ptr b_1 o_1), (.flat (.int .i64 x_3)), (.flat (.bool x_88))] m k = P5_19004 b_1 o_1 x_3 x_88 m (fun v_2' m' => k .ret (only [2] [v_2']) m') (fun m' => k .normal (only [1, 3] [(.ptr b_1 o_1), (.flat (.int .i64 x_3))]) m') := by
  kernel_rfl

theorem pok5_19004 : PieceOK Try.prog E5 Lam5 (((secsOf (bodyOf Try.f5)).filter Lam5.cut).getD 2 .skip) := by
  refine ⟨fun σ => ∃ b_1 o_1 x_3 x_88, σ 1 = .ptr b_1 o_1 ∧ σ 3 = .flat (.int .i64 x_3) ∧ σ 88 = .flat (.bool x_88), [1, 3, 88], lxp5_19004, fun σ m k => ?_⟩
  have e : Lam5.piece (((secsOf (bodyOf Try.f5)).filter Lam5.cut).getD 2 .skip) σ m k = LamP5_19004 σ m k := by kernel_rfl
  rw [e]
  constructor
  · intro h
    unfold LamP5_19004 at h
    obtain ⟨b_1, o_1, h0, h⟩ := kptr_ok h
    obtain ⟨x_3, h1, h⟩ := kI_ok h
    obtain ⟨x_88, h2, h⟩ := kbool_ok h
    refine ⟨⟨b_1, o_1, x_3, x_88, h0, h1, h2⟩, ?_⟩
    have ev : [1, 3, 88].map σ = [(.ptr b_1 o_1), (.flat (.int .i64 x_3)), (.flat (.bool x_88))] := by simp only [List.map_cons, List.map_nil, h0, h1, h2]
    rw [ev, pc5_19004]
    exact h
  · rintro ⟨⟨b_1, o_1, x_3, x_88, h0, h1, h2⟩, h⟩
    have ev : [1, 3, 88].map σ = [(.ptr b_1 o_1), (.flat (.int .i64 x_3)), (.flat (.bool x_88))] := by simp only [List.map_cons, List.map_nil, h0, h1, h2]
    rw [ev, pc5_19004] at h
    unfold LamP5_19004
    try simp only [h0, h1, h2, kI, kbool, kS, kptr, kaggN, kite, decide_true, eq_self]
    exact h

def lxp5_3004 : Ex → List Nat := fun e => match e with
  | .ret => [2]
  | .normal => [1, 3]
  | _ => []

theorem pc5_3004 (b_1 o_1 : Nat) (x_3 : Int) (x_6 : Bool) (m : Mem) (k : KX) : once Try.prog E5 Lam5 [1, 3, 6] lxp5_3004 (((secsOf (bodyOf Try.f5)).filter Lam5.cut).getD 1 .skip) [(.ptr b_1 o_1), (.flat (.int .i64 x_3)), (.flat (.bool x_6))] m k = P5_3004 b_1 o_1 x_3 x_6 m (fun v_2' m' => k .ret (only [2] [v_2']) m') (fun m' => k .normal (only [1, 3] [(.ptr b_1 o_1), (.flat (.int .i64 x_3))]) m') := by
  kernel_rfl

theorem pok5_3004 : PieceOK Try.prog E5 Lam5 (((secsOf (bodyOf Try.f5)).filter Lam5.cut).getD 1 .skip) := by
  refine ⟨fun σ => ∃ b_1 o_1 x_3 x_6, σ 1 = .ptr b_1 o_1 ∧ σ 3 = .flat (.int .i64 x_3) ∧ σ 6 = .flat (.bool x_6), [1, 3, 6], lxp5_3004, fun σ m k => ?_⟩
  have e : Lam5.piece (((secsOf (bodyOf Try.f5)).filter Lam5.cut).getD 1 .skip) σ m k = LamP5_3004 σ m k := by kernel_rfl
  rw [e]
  constructor
  · intro h
    unfold LamP5_3004 at h
    obtain ⟨b_1, o_1, h0, h⟩ := kptr_ok h
    obtain ⟨x_3, h1, h⟩ := kI_ok h
    obtain ⟨x_6, h2, h⟩ := kbool_ok h
    refine ⟨⟨b_1, o_1, x_3, x_6, h0, h1, h2⟩, ?_⟩
    have ev : [1, 3, 6].map σ = [(.ptr b_1 o_1), (.flat (.int .i64 x_3)), (.flat (.bool x_6))] := by simp only [List.map_cons, List.map_nil, h0, h1, h2]
    rw [ev, pc5_3004]
    exact h
  · rintro ⟨⟨b_1, o_1, x_3, x_6, h0, h1, h2⟩, h⟩
    have ev : [1, 3, 6].map σ = [(.ptr b_1 o_1), (.flat (.int .i64 x_3)), (.flat (.bool x_6))] := by simp only [List.map_cons, List.map_nil, h0, h1, h2]
    rw [ev, pc5_3004] at h
    unfold LamP5_3004
    try simp only [h0, h1, h2, kI, kbool, kS, kptr, kaggN, kite, decide_true, eq_self]
    exact h

theorem eqn5 (c_0 : Nat → AV) (m : Mem) (k : KV) : bodyK Try.prog E5 Lam5 Try.f5 false [(.agg 6 c_0)] m k = F5 c_0 m (fun v_1000 m' => k v_1000 m') := by
  kernel_rfl

theorem fs5 (w0 : World) : FS Try.prog w0 5 G5 := by
  refine (fs_body (Γ := E5) (sound_env (l := [(11, G11), (12, G12), (13, G13), (14, G14)]) w0 (by
    intro p hp
    simp only [List.mem_cons, List.not_mem_nil, or_false] at hp
    rcases hp with rfl | rfl | rfl | rfl
    · exact fs11 w0
    · exact fs12 w0
    · exact fs13 w0
    · exact fs14 w0)) (by kernel_rfl) Try.func5 (Λ := Lam5) (c := (bodyOf Try.f5)) (by kernel_rfl) Try.call5 (by kernel_rfl) (LS_of (bodyOf Try.f5) 0 (by kernel_rfl) (fun i hi => absurd hi (Nat.not_lt_zero i)) 3 (by kernel_rfl) (by
    intro i hi
    match i, hi with
    | 0, _ => exact pok5_20102
    | 1, _ => exact pok5_3004
    | 2, _ => exact pok5_19004
    | i + 3, hi => omega)) false (np := 1) (Nat.le_of_ble_eq_true (by kernel_rfl))).imp fun args => ?_
  by_cases hl : args.length = 1
  rotate_left
  · exact .inr fun m k hk => by
      unfold G5 at hk
      split at hk
      · exact hl rfl
      · exact hk
  obtain ⟨a0, rfl⟩ : ∃ a0, args = [a0] := len_list1 hl
  rcases kaggN_or 6 a0 with ⟨c_0, rfl⟩ | h
  rotate_left
  · exact .inr fun m k hk => h _ (by simpa only [G5, kI, kbool, kS, kptr, kaggN, kite, decide_true, eq_self] using hk)
  exact .inl fun m k => propext ⟨fun h => ⟨rfl, by rw [eqn5]; simpa only [G5, kI, kbool, kS, kptr, kaggN, kite, decide_true, eq_self] using h⟩, fun h => by have h := h.2; rw [eqn5] at h; simpa only [G5, kI, kbool, kS, kptr, kaggN, kite, decide_true, eq_self] using h⟩

def E15 : Env := envOf []

/-- pianola/pianolaref18.Right -/
def F15 (c_0 : Nat → AV) (m : Mem) (k : Bool → Mem → Prop) : Prop :=
  newK m ⟨5, c_0, 41, false⟩ fun b2 m1 => ldI .i64 m1 b2 0 fun x3 => kif (decide (x3 ≥ 0)) (ldI .i64 m1 b2 0 fun x4 => kif (decide (x4 ≤ 22)) (ldI .i64 m1 b2 1 fun x5 => kif (decide (x5 ≥ 0)) (ldI .i64 m1 b2 1 fun x6 => kif (decide (x6 < 40)) (ldI .i64 m1 b2 2 fun x7 => kif (decide (x7 ≥ 0)) (ldI .i64 m1 b2 2 fun x8 => kif (decide (x8 < 40)) (ldI .i64 m1 b2 3 fun x9 => kif (decide (x9 ≥ 0)) (ldI .i64 m1 b2 3 fun x10 => (Keeps m m1 ∧ k (decide (x10 < 40)) m)) ((Keeps m m1 ∧ k false m))) ((Keeps m m1 ∧ k false m))) ((Keeps m m1 ∧ k false m))) ((Keeps m m1 ∧ k false m))) ((Keeps m m1 ∧ k false m))) ((Keeps m m1 ∧ k false m))) ((Keeps m m1 ∧ k false m))

def G15 (args : List AV) (m : Mem) (k : KV) : Prop := match args with
  | [a0] => kaggN 5 a0 fun c_0 => F15 c_0 m (fun x_1000 m' => k (.flat (.bool x_1000)) m')
  | _ => False

def Lam15 : LEnv := ⟨fun a σ m k => match firstReg a with
  | _ => bump False,
  fun id => match id with
  | _ => bump false,
  fun b => match keyC b with
  | _ => bump false,
  fun b σ m k => match keyC b with
  | _ => bump False⟩

theorem eqn15 (c_0 : Nat → AV) (m : Mem) (k : KV) : bodyK Try.prog E15 Lam15 Try.f15 true [(.agg 5 c_0)] m k = F15 c_0 m (fun x_1000 m' => k (.flat (.bool x_1000)) m') := by
  kernel_rfl

theorem fs15 (w0 : World) : FS Try.prog w0 15 G15 := by
  refine (fs_body (Γ := E15) (sound_env (l := []) w0 (by
    intro p hp
    cases hp)) (by kernel_rfl) Try.func15 (Λ := Lam15) (c := (bodyOf Try.f15)) (by kernel_rfl) Try.call15 (by kernel_rfl) (LS_of (bodyOf Try.f15) 0 (by kernel_rfl) (fun i hi => absurd hi (Nat.not_lt_zero i)) 0 (by kernel_rfl) (fun i hi => absurd hi (Nat.not_lt_zero i))) true (np := 1) (Nat.le_of_ble_eq_true (by kernel_rfl))).imp fun args => ?_
  by_cases hl : args.length = 1
  rotate_left
  · exact .inr fun m k hk => by
      unfold G15 at hk
      split at hk
      · exact hl rfl
      · exact hk
  obtain ⟨a0, rfl⟩ : ∃ a0, args = [a0] := len_list1 hl
  rcases kaggN_or 5 a0 with ⟨c_0, rfl⟩ | h
  rotate_left
  · exact .inr fun m k hk => h _ (by simpa only [G15, kI, kbool, kS, kptr, kaggN, kite, decide_true, eq_self] using hk)
  exact .inl fun m k => propext ⟨fun h => ⟨rfl, by rw [eqn15]; simpa only [G15, kI, kbool, kS, kptr, kaggN, kite, decide_true, eq_self] using h⟩, fun h => by have h := h.2; rw [eqn15] at h; simpa only [G15, kI, kbool, kS, kptr, kaggN, kite, decide_true, eq_self] using h⟩

def E25 : Env := envOf []

def R25_2  (x_0 : Int) (x_5 : Int) (m : Mem) (kn : Int → Int → Mem → Prop) (k0 : Int → Mem → Prop) : Prop :=
  kif (decide (x_5 > 0)) (kn (bits .or .u32 (x_0.fdiv 2) (bits .and .u32 x_0 2147483648)) (IntKind.wrap .u64 (x_5 - 1)) m) (k0 x_0 m)

def L25_2  : Nat → Int → Int → Mem → (Int → Mem → Prop) → Prop
  | 0, _, _,  _, _ => bump False
  | N + 1, x_0, x_5,  m, k0 => R25_2  x_0 x_5 m (fun x_0' x_5' m' => L25_2  N x_0' x_5' m' k0) k0

/-- pianola/pianolaref1.Sar -/
def F25 (x_0 : Int) (x_1 : Int) (m : Mem) (k : Int → Mem → Prop) : Prop :=
  ∃ N3, L25_2  N3 x_0 (IntKind.wrap .u64 ((IntKind.wrap .i64 ((x_1.tmod 32) + 32)).tmod 32)) m (fun x1 m2 => (Keeps m m2 ∧ k x1 m))

def G25 (args : List AV) (m : Mem) (k : KV) : Prop := match args with
  | [a0, a1] => kI .u32 a0 fun x_0 => kI .i64 a1 fun x_1 => F25 x_0 x_1 m (fun x_1000 m' => k (.flat (.int .u32 x_1000)) m')
  | _ => False

def Lam25_2 (σ : Nat → AV) (m : Mem) (k : KX) : Prop := kI .u32 (σ 0) fun x_0 => kI .u64 (σ 5) fun x_5 => ∃ N, L25_2  N x_0 x_5 m (fun x_0' m' => k (.exit 0) (only [0] [(.flat (.int .u32 x_0'))]) m')

def Lam25 : LEnv := ⟨fun a σ m k => match firstReg a with
  | some 2 => Lam25_2 σ m k
  | _ => bump False,
  fun id => match id with
  | _ => bump false,
  fun b => match keyC b with
  | _ => bump false,
  fun b σ m k => match keyC b with
  | _ => bump False⟩

def lx25_2 : Ex → List Nat := fun e => match e with
  | .exit 0 => [0]
  | _ => []

theorem round25_2  (x_0 : Int) (x_5 : Int) (m : Mem) (G : List AV → Mem → Prop) (k : KX) : (wpA Try.prog E25 Lam25 ((loopsOf (bodyOf Try.f25)).getD 0 .skip) (only [0, 5] [(.flat (.int .u32 x_0)), (.flat (.int .u64 x_5))]) m fun e σ' m' => match e with
    | .normal => G ([0, 5].map σ') m'
    | .exit id => k (.exit id) (only (lx25_2 (.exit id)) ((lx25_2 (.exit id)).map σ')) m'
    | .ret => k .ret (only (lx25_2 .ret) ((lx25_2 .ret).map σ')) m') = R25_2  x_0 x_5 m (fun x_0' x_5' m' => G [(.flat (.int .u32 x_0')), (.flat (.int .u64 x_5'))] m') (fun x_0' m' => k (.exit 0) (only [0] [(.flat (.int .u32 x_0'))]) m') := by
  kernel_rfl

theorem loop25_2  (k : KX) : ∀ (N : Nat) (x_0 : Int) (x_5 : Int) (m : Mem), rounds Try.prog E25 Lam25 [0, 5] lx25_2 ((loopsOf (bodyOf Try.f25)).getD 0 .skip) N [(.flat (.int .u32 x_0)), (.flat (.int .u64 x_5))] m k = L25_2  N x_0 x_5 m (fun x_0' m' => k (.exit 0) (only [0] [(.flat (.int .u32 x_0'))]) m') := by
  intro N
  induction N with
  | zero => intros; rfl
  | succ N ih =>
    intro x_0 x_5 m
    refine (round25_2  x_0 x_5 m (fun vs m' => rounds Try.prog E25 Lam25 [0, 5] lx25_2 ((loopsOf (bodyOf Try.f25)).getD 0 .skip) N vs m' k) k).trans ?_
    simp only [ih]
    rfl

theorem lok25_2 : LoopOK Try.prog E25 Lam25 ((loopsOf (bodyOf Try.f25)).getD 0 .skip) := by
  refine ⟨fun σ => ∃ x_0 x_5, σ 0 = .flat (.int .u32 x_0) ∧ σ 5 = .flat (.int .u64 x_5), [0, 5], lx25_2, fun σ m k => ?_⟩
  have e : Lam25.loop ((loopsOf (bodyOf Try.f25)).getD 0 .skip) σ m k = Lam25_2 σ m k := by kernel_rfl
  rw [e]
  constructor
  · intro h
    unfold Lam25_2 at h
    obtain ⟨x_0, h0, h⟩ := kI_ok h
    obtain ⟨x_5, h1, h⟩ := kI_ok h
    obtain ⟨N, h⟩ := h
    refine ⟨⟨x_0, x_5, h0, h1⟩, N, ?_⟩
    have ev : [0, 5].map σ = [(.flat (.int .u32 x_0)), (.flat (.int .u64 x_5))] := by simp only [List.map_cons, List.map_nil, h0, h1]
    rw [ev, loop25_2]
    exact h
  · rintro ⟨⟨x_0, x_5, h0, h1⟩, N, h⟩
    have ev : [0, 5].map σ = [(.flat (.int .u32 x_0)), (.flat (.int .u64 x_5))] := by simp only [List.map_cons, List.map_nil, h0, h1]
    rw [ev, loop25_2] at h
    unfold Lam25_2
    try simp only [h0, h1, kI, kbool, kS, kptr, kaggN, kite, decide_true, eq_self]
    exact ⟨N, h⟩

theorem eqn25 (x_0 : Int) (x_1 : Int) (m : Mem) (k : KV) : bodyK Try.prog E25 Lam25 Try.f25 true [(.flat (.int .u32 x_0)), (.flat (.int .i64 x_1))] m k = F25 x_0 x_1 m (fun x_1000 m' => k (.flat (.int .u32 x_1000)) m') := by
  kernel_rfl

theorem fs25 (w0 : World) : FS Try.prog w0 25 G25 := by
  refine (fs_body (Γ := E25) (sound_env (l := []) w0 (by
    intro p hp
    cases hp)) (by kernel_rfl) Try.func25 (Λ := Lam25) (c := (bodyOf Try.f25)) (by kernel_rfl) Try.call25 (by kernel_rfl) (LS_of (bodyOf Try.f25) 1 (by kernel_rfl) (by
    intro i hi
    match i, hi with
    | 0, _ => exact lok25_2
    | i + 1, hi => omega) 0 (by kernel_rfl) (fun i hi => absurd hi (Nat.not_lt_zero i))) true (np := 2) (Nat.le_of_ble_eq_true (by kernel_rfl))).imp fun args => ?_
  by_cases hl : args.length = 2
  rotate_left
  · exact .inr fun m k hk => by
      unfold G25 at hk
      split at hk
      · exact hl rfl
      · exact hk
  obtain ⟨a0, a1, rfl⟩ : ∃ a0 a1, args = [a0, a1] := len_list2 hl
  rcases kI_or .u32 a0 with ⟨x_0, rfl⟩ | h
  rotate_left
  · exact .inr fun m k hk => h _ (by simpa only [G25, kI, kbool, kS, kptr, kaggN, kite, decide_true, eq_self] using hk)
  rcases kI_or .i64 a1 with ⟨x_1, rfl⟩ | h
  rotate_left
  · exact .inr fun m k hk => h _ (by simpa only [G25, kI, kbool, kS, kptr, kaggN, kite, decide_true, eq_self] using hk)
  exact .inl fun m k => propext ⟨fun h => ⟨rfl, by rw [eqn25]; simpa only [G25, kI, kbool, kS, kptr, kaggN, kite, decide_true, eq_self] using h⟩, fun h => by have h := h.2; rw [eqn25] at h; simpa only [G25, kI, kbool, kS, kptr, kaggN, kite, decide_true, eq_self] using h⟩

def E26 : Env := envOf []

/-- pianola/pianolaref18.bit -/
def F26 (x_0 : Bool) (m : Mem) (k : Int → Mem → Prop) : Prop :=
  kif x_0 ((Keeps m m ∧ k 1 m)) ((Keeps m m ∧ k 0 m))

def G26 (args : List AV) (m : Mem) (k : KV) : Prop := match args with
  | [a0] => kbool a0 fun x_0 => F26 x_0 m (fun x_1000 m' => k (.flat (.int .u32 x_1000)) m')
  | _ => False

def Lam26 : LEnv := ⟨fun a σ m k => match firstReg a with
  | _ => bump False,
  fun id => match id with
  | _ => bump false,
  fun b => match keyC b with
  | _ => bump false,
  fun b σ m k => match keyC b with
  | _ => bump False⟩

theorem eqn26 (x_0 : Bool) (m : Mem) (k : KV) : bodyK Try.prog E26 Lam26 Try.f26 true [(.flat (.bool x_0))] m k = F26 x_0 m (fun x_1000 m' => k (.flat (.int .u32 x_1000)) m') := by
  kernel_rfl

theorem fs26 (w0 : World) : FS Try.prog w0 26 G26 := by
  refine (fs_body (Γ := E26) (sound_env (l := []) w0 (by
    intro p hp
    cases hp)) (by kernel_rfl) Try.func26 (Λ := Lam26) (c := (bodyOf Try.f26)) (by kernel_rfl) Try.call26 (by kernel_rfl) (LS_of (bodyOf Try.f26) 0 (by kernel_rfl) (fun i hi => absurd hi (Nat.not_lt_zero i)) 0 (by kernel_rfl) (fun i hi => absurd hi (Nat.not_lt_zero i))) true (np := 1) (Nat.le_of_ble_eq_true (by kernel_rfl))).imp fun args => ?_
  by_cases hl : args.length = 1
  rotate_left
  · exact .inr fun m k hk => by
      unfold G26 at hk
      split at hk
      · exact hl rfl
      · exact hk
  obtain ⟨a0, rfl⟩ : ∃ a0, args = [a0] := len_list1 hl
  rcases kbool_or a0 with ⟨x_0, rfl⟩ | h
  rotate_left
  · exact .inr fun m k hk => h _ (by simpa only [G26, kI, kbool, kS, kptr, kaggN, kite, decide_true, eq_self] using hk)
  exact .inl fun m k => propext ⟨fun h => ⟨rfl, by rw [eqn26]; simpa only [G26, kI, kbool, kS, kptr, kaggN, kite, decide_true, eq_self] using h⟩, fun h => by have h := h.2; rw [eqn26] at h; simpa only [G26, kI, kbool, kS, kptr, kaggN, kite, decide_true, eq_self] using h⟩

def E42 : Env := envOf []

/-- pianola/pianolaref1.wide -/
def F42 (x_0 : Int) (x_1 : Bool) (m : Mem) (k : Int → Mem → Prop) : Prop :=
  kif x_1 (kif (decide (x_0 ≥ 2147483648)) ((Keeps m m ∧ k (IntKind.wrap .i64 ((IntKind.wrap .i64 x_0) - 4294967296)) m)) ((Keeps m m ∧ k (IntKind.wrap .i64 x_0) m))) ((Keeps m m ∧ k (IntKind.wrap .i64 x_0) m))

def G42 (args : List AV) (m : Mem) (k : KV) : Prop := match args with
  | [a0, a1] => kI .u32 a0 fun x_0 => kbool a1 fun x_1 => F42 x_0 x_1 m (fun x_1000 m' => k (.flat (.int .i64 x_1000)) m')
  | _ => False

def Lam42 : LEnv := ⟨fun a σ m k => match firstReg a with
  | _ => bump False,
  fun id => match id with
  | _ => bump false,
  fun b => match keyC b with
  | _ => bump false,
  fun b σ m k => match keyC b with
  | _ => bump False⟩

theorem eqn42 (x_0 : Int) (x_1 : Bool) (m : Mem) (k : KV) : bodyK Try.prog E42 Lam42 Try.f42 true [(.flat (.int .u32 x_0)), (.flat (.bool x_1))] m k = F42 x_0 x_1 m (fun x_1000 m' => k (.flat (.int .i64 x_1000)) m') := by
  kernel_rfl

theorem fs42 (w0 : World) : FS Try.prog w0 42 G42 := by
  refine (fs_body (Γ := E42) (sound_env (l := []) w0 (by
    intro p hp
    cases hp)) (by kernel_rfl) Try.func42 (Λ := Lam42) (c := (bodyOf Try.f42)) (by kernel_rfl) Try.call42 (by kernel_rfl) (LS_of (bodyOf Try.f42) 0 (by kernel_rfl) (fun i hi => absurd hi (Nat.not_lt_zero i)) 0 (by kernel_rfl) (fun i hi => absurd hi (Nat.not_lt_zero i))) true (np := 2) (Nat.le_of_ble_eq_true (by kernel_rfl))).imp fun args => ?_
  by_cases hl : args.length = 2
  rotate_left
  · exact .inr fun m k hk => by
      unfold G42 at hk
      split at hk
      · exact hl rfl
      · exact hk
  obtain ⟨a0, a1, rfl⟩ : ∃ a0 a1, args = [a0, a1] := len_list2 hl
  rcases kI_or .u32 a0 with ⟨x_0, rfl⟩ | h
  rotate_left
  · exact .inr fun m k hk => h _ (by simpa only [G42, kI, kbool, kS, kptr, kaggN, kite, decide_true, eq_self] using hk)
  rcases kbool_or a1 with ⟨x_1, rfl⟩ | h
  rotate_left
  · exact .inr fun m k hk => h _ (by simpa only [G42, kI, kbool, kS, kptr, kaggN, kite, decide_true, eq_self] using hk)
  exact .inl fun m k => propext ⟨fun h => ⟨rfl, by rw [eqn42]; simpa only [G42, kI, kbool, kS, kptr, kaggN, kite, decide_true, eq_self] using h⟩, fun h => by have h := h.2; rw [eqn42] at h; simpa only [G42, kI, kbool, kS, kptr, kaggN, kite, decide_true, eq_self] using h⟩

def E27 : Env := envOf [(42, G42)]

/-- pianola/pianolaref1.Less -/
def F27 (x_0 : Int) (x_1 : Int) (x_2 : Bool) (m : Mem) (k : Bool → Mem → Prop) : Prop :=
  F42 x_0 x_2 m fun x1 m2 => F42 x_1 x_2 m2 fun x3 m4 => (Keeps m m4 ∧ k (decide (x1 < x3)) m)

def G27 (args : List AV) (m : Mem) (k : KV) : Prop := match args with
  | [a0, a1, a2] => kI .u32 a0 fun x_0 => kI .u32 a1 fun x_1 => kbool a2 fun x_2 => F27 x_0 x_1 x_2 m (fun x_1000 m' => k (.flat (.bool x_1000)) m')
  | _ => False

def Lam27 : LEnv := ⟨fun a σ m k => match firstReg a with
  | _ => bump False,
  fun id => match id with
  | _ => bump false,
  fun b => match keyC b with
  | _ => bump false,
  fun b σ m k => match keyC b with
  | _ => bump False⟩

theorem eqn27 (x_0 : Int) (x_1 : Int) (x_2 : Bool) (m : Mem) (k : KV) : bodyK Try.prog E27 Lam27 Try.f27 true [(.flat (.int .u32 x_0)), (.flat (.int .u32 x_1)), (.flat (.bool x_2))] m k = F27 x_0 x_1 x_2 m (fun x_1000 m' => k (.flat (.bool x_1000)) m') := by
  kernel_rfl

theorem fs27 (w0 : World) : FS Try.prog w0 27 G27 := by
  refine (fs_body (Γ := E27) (sound_env (l := [(42, G42)]) w0 (by
    intro p hp
    simp only [List.mem_cons, List.not_mem_nil, or_false] at hp
    rcases hp with rfl
    · exact fs42 w0)) (by kernel_rfl) Try.func27 (Λ := Lam27) (c := (bodyOf Try.f27)) (by kernel_rfl) Try.call27 (by kernel_rfl) (LS_of (bodyOf Try.f27) 0 (by kernel_rfl) (fun i hi => absurd hi (Nat.not_lt_zero i)) 0 (by kernel_rfl) (fun i hi => absurd hi (Nat.not_lt_zero i))) true (np := 3) (Nat.le_of_ble_eq_true (by kernel_rfl))).imp fun args => ?_
  by_cases hl : args.length = 3
  rotate_left
  · exact .inr fun m k hk => by
      unfold G27 at hk
      split at hk
      · exact hl rfl
      · exact hk
  obtain ⟨a0, a1, a2, rfl⟩ : ∃ a0 a1 a2, args = [a0, a1, a2] := len_list3 hl
  rcases kI_or .u32 a0 with ⟨x_0, rfl⟩ | h
  rotate_left
  · exact .inr fun m k hk => h _ (by simpa only [G27, kI, kbool, kS, kptr, kaggN, kite, decide_true, eq_self] using hk)
  rcases kI_or .u32 a1 with ⟨x_1, rfl⟩ | h
  rotate_left
  · exact .inr fun m k hk => h _ (by simpa only [G27, kI, kbool, kS, kptr, kaggN, kite, decide_true, eq_self] using hk)
  rcases kbool_or a2 with ⟨x_2, rfl⟩ | h
  rotate_left
  · exact .inr fun m k hk => h _ (by simpa only [G27, kI, kbool, kS, kptr, kaggN, kite, decide_true, eq_self] using hk)
  exact .inl fun m k => propext ⟨fun h => ⟨rfl, by rw [eqn27]; simpa only [G27, kI, kbool, kS, kptr, kaggN, kite, decide_true, eq_self] using h⟩, fun h => by have h := h.2; rw [eqn27] at h; simpa only [G27, kI, kbool, kS, kptr, kaggN, kite, decide_true, eq_self] using h⟩

def E28 : Env := envOf []

def P28_7102 (x_8 : Int) (x_9 : Int) (m : Mem) (kr : Int → Int → Mem → Prop) : Prop :=
  kr x_9 (IntKind.wrap .u32 x_8) m

def P28_5103 (x_0 : Int) (x_1 : Int) (x_2 : Bool) (x_8 : Int) (x_9 : Int) (m : Mem) (kr : Int → Int → Mem → Prop) : Prop :=
  kif x_2 (kif (decide (x_1 ≥ 2147483648)) (P28_7102 x_8 (IntKind.wrap .u32 (x_9 - x_0)) m (fun x1 x2 m3 => kr x1 x2 m3)) (P28_7102 x_8 x_9 m (fun x4 x5 m6 => kr x4 x5 m6))) (P28_7102 x_8 x_9 m (fun x7 x8 m9 => kr x7 x8 m9))

/-- pianola/pianolaref1.Mul -/
def F28 (x_0 : Int) (x_1 : Int) (x_2 : Bool) (m : Mem) (k : Int → Int → Mem → Prop) : Prop :=
  kif x_2 (kif (decide (x_0 ≥ 2147483648)) (P28_5103 x_0 x_1 x_2 (IntKind.wrap .u64 ((IntKind.wrap .u64 x_0) * (IntKind.wrap .u64 x_1))) (IntKind.wrap .u32 ((IntKind.wrap .u32 ((IntKind.wrap .u64 ((IntKind.wrap .u64 x_0) * (IntKind.wrap .u64 x_1))).fdiv 4294967296)) - x_1)) m (fun x10 x11 m12 => (Keeps m m12 ∧ k x10 x11 m))) (P28_5103 x_0 x_1 x_2 (IntKind.wrap .u64 ((IntKind.wrap .u64 x_0) * (IntKind.wrap .u64 x_1))) (IntKind.wrap .u32 ((IntKind.wrap .u64 ((IntKind.wrap .u64 x_0) * (IntKind.wrap .u64 x_1))).fdiv 4294967296)) m (fun x13 x14 m15 => (Keeps m m15 ∧ k x13 x14 m)))) (P28_5103 x_0 x_1 x_2 (IntKind.wrap .u64 ((IntKind.wrap .u64 x_0) * (IntKind.wrap .u64 x_1))) (IntKind.wrap .u32 ((IntKind.wrap .u64 ((IntKind.wrap .u64 x_0) * (IntKind.wrap .u64 x_1))).fdiv 4294967296)) m (fun x16 x17 m18 => (Keeps m m18 ∧ k x16 x17 m)))

def G28 (args : List AV) (m : Mem) (k : KV) : Prop := match args with
  | [a0, a1, a2] => kI .u32 a0 fun x_0 => kI .u32 a1 fun x_1 => kbool a2 fun x_2 => F28 x_0 x_1 x_2 m (fun x_1000 x_1001 m' => k (.tup [(.flat (.int .u32 x_1000)), (.flat (.int .u32 x_1001))]) m')
  | _ => False

def LamP28_5103 (σ : Nat → AV) (m : Mem) (k : KX) : Prop := kI .u32 (σ 0) fun x_0 => kI .u32 (σ 1) fun x_1 => kbool (σ 2) fun x_2 => kI .u64 (σ 8) fun x_8 => kI .u32 (σ 9) fun x_9 => P28_5103 x_0 x_1 x_2 x_8 x_9 m (fun x_6' x_7' m' => k .ret (only [6, 7] [(.flat (.int .u32 x_6')), (.flat (.int .u32 x_7'))]) m')

def LamP28_7102 (σ : Nat → AV) (m : Mem) (k : KX) : Prop := kI .u64 (σ 8) fun x_8 => kI .u32 (σ 9) fun x_9 => P28_7102 x_8 x_9 m (fun x_6' x_7' m' => k .ret (only [6, 7] [(.flat (.int .u32 x_6')), (.flat (.int .u32 x_7'))]) m')

def Lam28 : LEnv := ⟨fun a σ m k => match firstReg a with
  | _ => bump False,
  fun id => match id with
  | _ => bump false,
  fun b => match keyC b with
  | some 5103 => true
  | some 7102 => true
  | _ => bump false,
  fun b σ m k => match keyC b with
  | some 5103 => LamP28_5103 σ m k
  | some 7102 => LamP28_7102 σ m k
  | _ => bump False⟩

def lxp28_7102 : Ex → List Nat := fun e => match e with
  | .ret => [6, 7]
  | _ => []

theorem pc28_7102 (x_8 : Int) (x_9 : Int) (m : Mem) (k : KX) : once Try.prog E28 Lam28 [8, 9] lxp28_7102 (((secsOf (bodyOf Try.f28)).filter Lam28.cut).getD 1 .skip) [(.flat (.int .u64 x_8)), (.flat (.int .u32 x_9))] m k = P28_7102 x_8 x_9 m (fun x_6' x_7' m' => k .ret (only [6, 7] [(.flat (.int .u32 x_6')), (.flat (.int .u32 x_7'))]) m') := by
  kernel_rfl

theorem pok28_7102 : PieceOK Try.prog E28 Lam28 (((secsOf (bodyOf Try.f28)).filter Lam28.cut).getD 1 .skip) := by
  refine ⟨fun σ => ∃ x_8 x_9, σ 8 = .flat (.int .u64 x_8) ∧ σ 9 = .flat (.int .u32 x_9), [8, 9], lxp28_7102, fun σ m k => ?_⟩
  have e : Lam28.piece (((secsOf (bodyOf Try.f28)).filter Lam28.cut).getD 1 .skip) σ m k = LamP28_7102 σ m k := by kernel_rfl
  rw [e]
  constructor
  · intro h
    unfold LamP28_7102 at h
    obtain ⟨x_8, h0, h⟩ := kI_ok h
    obtain ⟨x_9, h1, h⟩ := kI_ok h
    refine ⟨⟨x_8, x_9, h0, h1⟩, ?_⟩
    have ev : [8, 9].map σ = [(.flat (.int .u64 x_8)), (.flat (.int .u32 x_9))] := by simp only [List.map_cons, List.map_nil, h0, h1]
    rw [ev, pc28_7102]
    exact h
  · rintro ⟨⟨x_8, x_9, h0, h1⟩, h⟩
    have ev : [8, 9].map σ = [(.flat (.int .u64 x_8)), (.flat (.int .u32 x_9))] := by simp only [List.map_cons, List.map_nil, h0, h1]
    rw [ev, pc28_7102] at h
    unfold LamP28_7102
    try simp only [h0, h1, kI, kbool, kS, kptr, kaggN, kite, decide_true, eq_self]
    exact h

def lxp28_5103 : Ex → List Nat := fun e => match e with
  | .ret => [6, 7]
  | _ => []

theorem pc28_5103 (x_0 : Int) (x_1 : Int) (x_2 : Bool) (x_8 : Int) (x_9 : Int) (m : Mem) (k : KX) : once Try.prog E28 Lam28 [0, 1, 2, 8, 9] lxp28_5103 (((secsOf (bodyOf Try.f28)).filter Lam28.cut).getD 0 .skip) [(.flat (.int .u32 x_0)), (.flat (.int .u32 x_1)), (.flat (.bool x_2)), (.flat (.int .u64 x_8)), (.flat (.int .u32 x_9))] m k = P28_5103 x_0 x_1 x_2 x_8 x_9 m (fun x_6' x_7' m' => k .ret (only [6, 7] [(.flat (.int .u32 x_6')), (.flat (.int .u32 x_7'))]) m') := by
  kernel_rfl

theorem pok28_5103 : PieceOK Try.prog E28 Lam28 (((secsOf (bodyOf Try.f28)).filter Lam28.cut).getD 0 .skip) := by
  refine ⟨fun σ => ∃ x_0 x_1 x_2 x_8 x_9, σ 0 = .flat (.int .u32 x_0) ∧ σ 1 = .flat (.int .u32 x_1) ∧ σ 2 = .flat (.bool x_2) ∧ σ 8 = .flat (.int .u64 x_8) ∧ σ 9 = .flat (.int .u32 x_9), [0, 1, 2, 8, 9], lxp28_5103, fun σ m k => ?_⟩
  have e : Lam28.piece (((secsOf (bodyOf Try.f28)).filter Lam28.cut).getD 0 .skip) σ m k = LamP28_5103 σ m k := by kernel_rfl
  rw [e]
  constructor
  · intro h
    unfold LamP28_5103 at h
    obtain ⟨x_0, h0, h⟩ := kI_ok h
    obtain ⟨x_1, h1, h⟩ := kI_ok h
    obtain ⟨x_2, h2, h⟩ := kbool_ok h
    obtain ⟨x_8, h3, h⟩ := kI_ok h
    obtain ⟨x_9, h4, h⟩ := kI_ok h
    refine ⟨⟨x_0, x_1, x_2, x_8, x_9, h0, h1, h2, h3, h4⟩, ?_⟩
    have ev : [0, 1, 2, 8, 9].map σ = [(.flat (.int .u32 x_0)), (.flat (.int .u32 x_1)), (.flat (.bool x_2)), (.flat (.int .u64 x_8)), (.flat (.int .u32 x_9))] := by simp only [List.map_cons, List.map_nil, h0, h1, h2, h3, h4]
    rw [ev, pc28_5103]
    exact h
  · rintro ⟨⟨x_0, x_1, x_2, x_8, x_9, h0, h1, h2, h3, h4⟩, h⟩
    have ev : [0, 1, 2, 8, 9].map σ = [(.flat (.int .u32 x_0)), (.flat (.int .u32 x_1)), (.flat (.bool x_2)), (.flat (.int .u64 x_8)), (.flat (.int .u32 x_9))] := by simp only [List.map_cons, List.map_nil, h0, h1, h2, h3, h4]
    rw [ev, pc28_5103] at h
    unfold LamP28_5103
    try simp only [h0, h1, h2, h3, h4, kI, kbool, kS, kptr, kaggN, kite, decide_true, eq_self]
    exact h

theorem eqn28 (x_0 : Int) (x_1 : Int) (x_2 : Bool) (m : Mem) (k : KV) : bodyK Try.prog E28 Lam28 Try.f28 true [(.flat (.int .u32 x_0)), (.flat (.int .u32 x_1)), (.flat (.bool x_2))] m k = F28 x_0 x_1 x_2 m (fun x_1000 x_1001 m' => k (.tup [(.flat (.int .u32 x_1000)), (.flat (.int .u32 x_1001))]) m') := by
  kernel_rfl

theorem fs28 (w0 : World) : FS Try.prog w0 28 G28 := by
  refine (fs_body (Γ := E28) (sound_env (l := []) w0 (by
    intro p hp
    cases hp)) (by kernel_rfl) Try.func28 (Λ := Lam28) (c := (bodyOf Try.f28)) (by kernel_rfl) Try.call28 (by kernel_rfl) (LS_of (bodyOf Try.f28) 0 (by kernel_rfl) (fun i hi => absurd hi (Nat.not_lt_zero i)) 2 (by kernel_rfl) (by
    intro i hi
    match i, hi with
    | 0, _ => exact pok28_5103
    | 1, _ => exact pok28_7102
    | i + 2, hi => omega)) true (np := 3) (Nat.le_of_ble_eq_true (by kernel_rfl))).imp fun args => ?_
  by_cases hl : args.length = 3
  rotate_left
  · exact .inr fun m k hk => by
      unfold G28 at hk
      split at hk
      · exact hl rfl
      · exact hk
  obtain ⟨a0, a1, a2, rfl⟩ : ∃ a0 a1 a2, args = [a0, a1, a2] := len_list3 hl
  rcases kI_or .u32 a0 with ⟨x_0, rfl⟩ | h
  rotate_left
  · exact .inr fun m k hk => h _ (by simpa only [G28, kI, kbool, kS, kptr, kaggN, kite, decide_true, eq_self] using hk)
  rcases kI_or .u32 a1 with ⟨x_1, rfl⟩ | h
  rotate_left
  · exact .inr fun m k hk => h _ (by simpa only [G28, kI, kbool, kS, kptr, kaggN, kite, decide_true, eq_self] using hk)
  rcases kbool_or a2 with ⟨x_2, rfl⟩ | h
  rotate_left
  · exact .inr fun m k hk => h _ (by simpa only [G28, kI, kbool, kS, kptr, kaggN, kite, decide_true, eq_self] using hk)
  exact .inl fun m k => propext ⟨fun h => ⟨rfl, by rw [eqn28]; simpa only [G28, kI, kbool, kS, kptr, kaggN, kite, decide_true, eq_self] using h⟩, fun h => by have h := h.2; rw [eqn28] at h; simpa only [G28, kI, kbool, kS, kptr, kaggN, kite, decide_true, eq_self] using h⟩

def E29 : Env := envOf []

def R29_3 (x_0 : Int) (x_3 : Int) (x_4 : Int) (m : Mem) (kn : Int → Int → Mem → Prop) (k0 : Int → Mem → Prop) (kr : Int → Mem → Prop) : Prop :=
  kif (decide (x_4 ≥ 0)) (kif (decide (IntKind.wrap .u64 x_4 < 0)) False (kif ((bits .and .u32 (x_0.fdiv (2 ^ min (IntKind.wrap .u64 x_4).toNat 32)) 1) == 1) (kr x_3 m) (kn (IntKind.wrap .i64 (x_3 + 1)) (IntKind.wrap .i64 (x_4 - 1)) m))) (k0 x_3 m)

def L29_3 (x_0 : Int) : Nat → Int → Int → Mem → (Int → Mem → Prop) → (Int → Mem → Prop) → Prop
  | 0, _, _,  _, _, _ => bump False
  | N + 1, x_3, x_4,  m, k0, kr => R29_3 x_0 x_3 x_4 m (fun x_3' x_4' m' => L29_3 x_0 N x_3' x_4' m' k0 kr) k0 kr

/-- pianola/pianolaref1.Clz -/
def F29 (x_0 : Int) (m : Mem) (k : Int → Mem → Prop) : Prop :=
  ∃ N5, L29_3 x_0 N5 0 31 m (fun x1 m2 => (Keeps m m2 ∧ k x1 m)) (fun x3 m4 => (Keeps m m4 ∧ k x3 m))

def G29 (args : List AV) (m : Mem) (k : KV) : Prop := match args with
  | [a0] => kI .u32 a0 fun x_0 => F29 x_0 m (fun x_1000 m' => k (.flat (.int .i64 x_1000)) m')
  | _ => False

def Lam29_3 (σ : Nat → AV) (m : Mem) (k : KX) : Prop := kI .u32 (σ 0) fun x_0 => kI .i64 (σ 3) fun x_3 => kI .i64 (σ 4) fun x_4 => ∃ N, L29_3 x_0 N x_3 x_4 m (fun x_3' m' => k (.exit 0) (only [3] [(.flat (.int .i64 x_3'))]) m') (fun x_2' m' => k .ret (only [2] [(.flat (.int .i64 x_2'))]) m')

def Lam29 : LEnv := ⟨fun a σ m k => match firstReg a with
  | some 3 => Lam29_3 σ m k
  | _ => bump False,
  fun id => match id with
  | _ => bump false,
  fun b => match keyC b with
  | _ => bump false,
  fun b σ m k => match keyC b with
  | _ => bump False⟩

def lx29_3 : Ex → List Nat := fun e => match e with
  | .exit 0 => [3]
  | .ret => [2]
  | _ => []

theorem round29_3 (x_0 : Int) (x_3 : Int) (x_4 : Int) (m : Mem) (G : List AV → Mem → Prop) (k : KX) : (wpA Try.prog E29 Lam29 ((loopsOf (bodyOf Try.f29)).getD 0 .skip) (only [0, 3, 4] [(.flat (.int .u32 x_0)), (.flat (.int .i64 x_3)), (.flat (.int .i64 x_4))]) m fun e σ' m' => match e with
    | .normal => G ([0, 3, 4].map σ') m'
    | .exit id => k (.exit id) (only (lx29_3 (.exit id)) ((lx29_3 (.exit id)).map σ')) m'
    | .ret => k .ret (only (lx29_3 .ret) ((lx29_3 .ret).map σ')) m') = R29_3 x_0 x_3 x_4 m (fun x_3' x_4' m' => G [(.flat (.int .u32 x_0)), (.flat (.int .i64 x_3')), (.flat (.int .i64 x_4'))] m') (fun x_3' m' => k (.exit 0) (only [3] [(.flat (.int .i64 x_3'))]) m') (fun x_2' m' => k .ret (only [2] [(.flat (.int .i64 x_2'))]) m') := by
  kernel_rfl

theorem loop29_3 (x_0 : Int) (k : KX) : ∀ (N : Nat) (x_3 : Int) (x_4 : Int) (m : Mem), rounds Try.prog E29 Lam29 [0, 3, 4] lx29_3 ((loopsOf (bodyOf Try.f29)).getD 0 .skip) N [(.flat (.int .u32 x_0)), (.flat (.int .i64 x_3)), (.flat (.int .i64 x_4))] m k = L29_3 x_0 N x_3 x_4 m (fun x_3' m' => k (.exit 0) (only [3] [(.flat (.int .i64 x_3'))]) m') (fun x_2' m' => k .ret (only [2] [(.flat (.int .i64 x_2'))]) m') := by
  intro N
  induction N with
  | zero => intros; rfl
  | succ N ih =>
    intro x_3 x_4 m
    refine (round29_3 x_0 x_3 x_4 m (fun vs m' => rounds Try.prog E29 Lam29 [0, 3, 4] lx29_3 ((loopsOf (bodyOf Try.f29)).getD 0 .skip) N vs m' k) k).trans ?_
    simp only [ih]
    rfl

theorem lok29_3 : LoopOK Try.prog E29 Lam29 ((loopsOf (bodyOf Try.f29)).getD 0 .skip) := by
  refine ⟨fun σ => ∃ x_0 x_3 x_4, σ 0 = .flat (.int .u32 x_0) ∧ σ 3 = .flat (.int .i64 x_3) ∧ σ 4 = .flat (.int .i64 x_4), [0, 3, 4], lx29_3, fun σ m k => ?_⟩
  have e : Lam29.loop ((loopsOf (bodyOf Try.f29)).getD 0 .skip) σ m k = Lam29_3 σ m k := by kernel_rfl
  rw [e]
  constructor
  · intro h
    unfold Lam29_3 at h
    obtain ⟨x_0, h0, h⟩ := kI_ok h
    obtain ⟨x_3, h1, h⟩ := kI_ok h
    obtain ⟨x_4, h2, h⟩ := kI_ok h
    obtain ⟨N, h⟩ := h
    refine ⟨⟨x_0, x_3, x_4, h0, h1, h2⟩, N, ?_⟩
    have ev : [0, 3, 4].map σ = [(.flat (.int .u32 x_0)), (.flat (.int .i64 x_3)), (.flat (.int .i64 x_4))] := by simp only [List.map_cons, List.map_nil, h0, h1, h2]
    rw [ev, loop29_3]
    exact h
  · rintro ⟨⟨x_0, x_3, x_4, h0, h1, h2⟩, N, h⟩
    have ev : [0, 3, 4].map σ = [(.flat (.int .u32 x_0)), (.flat (.int .i64 x_3)), (.flat (.int .i64 x_4))] := by simp only [List.map_cons, List.map_nil, h0, h1, h2]
    rw [ev, loop29_3] at h
    unfold Lam29_3
    try simp only [h0, h1, h2, kI, kbool, kS, kptr, kaggN, kite, decide_true, eq_self]
    exact ⟨N, h⟩

theorem eqn29 (x_0 : Int) (m : Mem) (k : KV) : bodyK Try.prog E29 Lam29 Try.f29 true [(.flat (.int .u32 x_0))] m k = F29 x_0 m (fun x_1000 m' => k (.flat (.int .i64 x_1000)) m') := by
  kernel_rfl

theorem fs29 (w0 : World) : FS Try.prog w0 29 G29 := by
  refine (fs_body (Γ := E29) (sound_env (l := []) w0 (by
    intro p hp
    cases hp)) (by kernel_rfl) Try.func29 (Λ := Lam29) (c := (bodyOf Try.f29)) (by kernel_rfl) Try.call29 (by kernel_rfl) (LS_of (bodyOf Try.f29) 1 (by kernel_rfl) (by
    intro i hi
    match i, hi with
    | 0, _ => exact lok29_3
    | i + 1, hi => omega) 0 (by kernel_rfl) (fun i hi => absurd hi (Nat.not_lt_zero i))) true (np := 1) (Nat.le_of_ble_eq_true (by kernel_rfl))).imp fun args => ?_
  by_cases hl : args.length = 1
  rotate_left
  · exact .inr fun m k hk => by
      unfold G29 at hk
      split at hk
      · exact hl rfl
      · exact hk
  obtain ⟨a0, rfl⟩ : ∃ a0, args = [a0] := len_list1 hl
  rcases kI_or .u32 a0 with ⟨x_0, rfl⟩ | h
  rotate_left
  · exact .inr fun m k hk => h _ (by simpa only [G29, kI, kbool, kS, kptr, kaggN, kite, decide_true, eq_self] using hk)
  exact .inl fun m k => propext ⟨fun h => ⟨rfl, by rw [eqn29]; simpa only [G29, kI, kbool, kS, kptr, kaggN, kite, decide_true, eq_self] using h⟩, fun h => by have h := h.2; rw [eqn29] at h; simpa only [G29, kI, kbool, kS, kptr, kaggN, kite, decide_true, eq_self] using h⟩

def E30 : Env := envOf [(29, G29)]

/-- pianola/pianolaref1.Clo -/
def F30 (x_0 : Int) (m : Mem) (k : Int → Mem → Prop) : Prop :=
  F29 (bits .xor .u32 4294967295 x_0) m fun x1 m2 => (Keeps m m2 ∧ k x1 m)

def G30 (args : List AV) (m : Mem) (k : KV) : Prop := match args with
  | [a0] => kI .u32 a0 fun x_0 => F30 x_0 m (fun x_1000 m' => k (.flat (.int .i64 x_1000)) m')
  | _ => False

def Lam30 : LEnv := ⟨fun a σ m k => match firstReg a with
  | _ => bump False,
  fun id => match id with
  | _ => bump false,
  fun b => match keyC b with
  | _ => bump false,
  fun b σ m k => match keyC b with
  | _ => bump False⟩

theorem eqn30 (x_0 : Int) (m : Mem) (k : KV) : bodyK Try.prog E30 Lam30 Try.f30 true [(.flat (.int .u32 x_0))] m k = F30 x_0 m (fun x_1000 m' => k (.flat (.int .i64 x_1000)) m') := by
  kernel_rfl

theorem fs30 (w0 : World) : FS Try.prog w0 30 G30 := by
  refine (fs_body (Γ := E30) (sound_env (l := [(29, G29)]) w0 (by
    intro p hp
    simp only [List.mem_cons, List.not_mem_nil, or_false] at hp
    rcases hp with rfl
    · exact fs29 w0)) (by kernel_rfl) Try.func30 (Λ := Lam30) (c := (bodyOf Try.f30)) (by kernel_rfl) Try.call30 (by kernel_rfl) (LS_of (bodyOf Try.f30) 0 (by kernel_rfl) (fun i hi => absurd hi (Nat.not_lt_zero i)) 0 (by kernel_rfl) (fun i hi => absurd hi (Nat.not_lt_zero i))) true (np := 1) (Nat.le_of_ble_eq_true (by kernel_rfl))).imp fun args => ?_
  by_cases hl : args.length = 1
  rotate_left
  · exact .inr fun m k hk => by
      unfold G30 at hk
      split at hk
      · exact hl rfl
      · exact hk
  obtain ⟨a0, rfl⟩ : ∃ a0, args = [a0] := len_list1 hl
  rcases kI_or .u32 a0 with ⟨x_0, rfl⟩ | h
  rotate_left
  · exact .inr fun m k hk => h _ (by simpa only [G30, kI, kbool, kS, kptr, kaggN, kite, decide_true, eq_self] using hk)
  exact .inl fun m k => propext ⟨fun h => ⟨rfl, by rw [eqn30]; simpa only [G30, kI, kbool, kS, kptr, kaggN, kite, decide_true, eq_self] using h⟩, fun h => by have h := h.2; rw [eqn30] at h; simpa only [G30, kI, kbool, kS, kptr, kaggN, kite, decide_true, eq_self] using h⟩

def E31 : Env := envOf [(42, G42)]

/-- pianola/pianolaref1.Div -/
def F31 (x_0 : Int) (x_1 : Int) (x_2 : Bool) (m : Mem) (k : Int → Int → Mem → Prop) : Prop :=
  kif (x_1 == 0) ((Keeps m m ∧ k 4294967295 x_0 m)) (F42 x_0 x_2 m fun x1 m2 => F42 x_1 x_2 m2 fun x3 m4 => kif (decide (x3 = 0)) False (kif (decide (x3 = 0)) False ((Keeps m m4 ∧ k (IntKind.wrap .u32 (IntKind.wrap .i64 (x1.tdiv x3))) (IntKind.wrap .u32 (x1.tmod x3)) m))))

def G31 (args : List AV) (m : Mem) (k : KV) : Prop := match args with
  | [a0, a1, a2] => kI .u32 a0 fun x_0 => kI .u32 a1 fun x_1 => kbool a2 fun x_2 => F31 x_0 x_1 x_2 m (fun x_1000 x_1001 m' => k (.tup [(.flat (.int .u32 x_1000)), (.flat (.int .u32 x_1001))]) m')
  | _ => False

def Lam31 : LEnv := ⟨fun a σ m k => match firstReg a with
  | _ => bump False,
  fun id => match id with
  | _ => bump false,
  fun b => match keyC b with
  | _ => bump false,
  fun b σ m k => match keyC b with
  | _ => bump False⟩

theorem eqn31 (x_0 : Int) (x_1 : Int) (x_2 : Bool) (m : Mem) (k : KV) : bodyK Try.prog E31 Lam31 Try.f31 true [(.flat (.int .u32 x_0)), (.flat (.int .u32 x_1)), (.flat (.bool x_2))] m k = F31 x_0 x_1 x_2 m (fun x_1000 x_1001 m' => k (.tup [(.flat (.int .u32 x_1000)), (.flat (.int .u32 x_1001))]) m') := by
  kernel_rfl

theorem fs31 (w0 : World) : FS Try.prog w0 31 G31 := by
  refine (fs_body (Γ := E31) (sound_env (l := [(42, G42)]) w0 (by
    intro p hp
    simp only [List.mem_cons, List.not_mem_nil, or_false] at hp
    rcases hp with rfl
    · exact fs42 w0)) (by kernel_rfl) Try.func31 (Λ := Lam31) (c := (bodyOf Try.f31)) (by kernel_rfl) Try.call31 (by kernel_rfl) (LS_of (bodyOf Try.f31) 0 (by kernel_rfl) (fun i hi => absurd hi (Nat.not_lt_zero i)) 0 (by kernel_rfl) (fun i hi => absurd hi (Nat.not_lt_zero i))) true (np := 3) (Nat.le_of_ble_eq_true (by kernel_rfl))).imp fun args => ?_
  by_cases hl : args.length = 3
  rotate_left
  · exact .inr fun m k hk => by
      unfold G31 at hk
      split at hk
      · exact hl rfl
      · exact hk
  obtain ⟨a0, a1, a2, rfl⟩ : ∃ a0 a1 a2, args = [a0, a1, a2] := len_list3 hl
  rcases kI_or .u32 a0 with ⟨x_0, rfl⟩ | h
  rotate_left
  · exact .inr fun m k hk => h _ (by simpa only [G31, kI, kbool, kS, kptr, kaggN, kite, decide_true, eq_self] using hk)
  rcases kI_or .u32 a1 with ⟨x_1, rfl⟩ | h
  rotate_left
  · exact .inr fun m k hk => h _ (by simpa only [G31, kI, kbool, kS, kptr, kaggN, kite, decide_true, eq_self] using hk)
  rcases kbool_or a2 with ⟨x_2, rfl⟩ | h
  rotate_left
  · exact .inr fun m k hk => h _ (by simpa only [G31, kI, kbool, kS, kptr, kaggN, kite, decide_true, eq_self] using hk)
  exact .inl fun m k => propext ⟨fun h => ⟨rfl, by rw [eqn31]; simpa only [G31, kI, kbool, kS, kptr, kaggN, kite, decide_true, eq_self] using h⟩, fun h => by have h := h.2; rw [eqn31] at h; simpa only [G31, kI, kbool, kS, kptr, kaggN, kite, decide_true, eq_self] using h⟩

def E16 : Env := envOf [(25, G25), (26, G26), (27, G27), (28, G28), (29, G29), (30, G30), (31, G31)]

def P16_46102 (v_0 : AV) (b_3 o_3 : Nat) (x_6 : Int) (m : Mem) (kn : Mem → Prop) : Prop :=
  ldI .i64 m b_3 (o_3 + 1) fun x84 => kif (decide (x84 > 0)) (ldI .i64 m b_3 (o_3 + 1) fun x85 => ksl v_0 fun b86 o87 l88 p89 => kif (decide (0 ≤ x85) && decide (x85 < l88)) (stC m b86 (o87 + (x85).toNat * 1) (.flat (.int .u32 x_6)) fun m90 => kn  m90) False) (kn  m)

def P16_44004 (v_0 : AV) (b_3 o_3 : Nat) (x_4 : Int) (x_5 : Int) (x_6 : Int) (x_138 : Bool) (m : Mem) (kr : Mem → Prop) (kn : Int → Mem → Prop) : Prop :=
  kif x_138 (ldI .i64 m b_3 (o_3 + 0) fun x59 => kif (!((x_5 == 0) == (x59 == 21))) (kr  m) (kn x_4 m)) (kn x_6 m)

def P16_41004 (v_0 : AV) (b_3 o_3 : Nat) (x_4 : Int) (x_5 : Int) (x_6 : Int) (x_18 : Int) (x_122 : Bool) (m : Mem) (kr : Mem → Prop) (kn : Int → Mem → Prop) : Prop :=
  kif x_122 (ldI .i64 m b_3 (o_3 + 0) fun x45 => F31 x_4 x_5 (x45 == 19) m fun x46 x47 m48 => ksl v_0 fun b49 o50 l51 p52 => kif (decide (0 ≤ (33 : Int)) && decide ((33 : Int) < l51)) (stC m48 b49 (o50 + 33) (.flat (.int .u32 x46)) fun m53 => ksl v_0 fun b54 o55 l56 p57 => kif (decide (0 ≤ (32 : Int)) && decide ((32 : Int) < l56)) (stC m53 b54 (o55 + 32) (.flat (.int .u32 x47)) fun m58 => kr  m58) False) False) (kif (x_18 == 21) (P16_44004 v_0 b_3 o_3 x_4 x_5 x_6 (x_18 == 21) m (fun m60 => kr  m60) (fun x61 m62 => kn x61 m62)) (P16_44004 v_0 b_3 o_3 x_4 x_5 x_6 (x_18 == 22) m (fun m63 => kr  m63) (fun x64 m65 => kn x64 m65)))

def P16_38004 (v_0 : AV) (b_3 o_3 : Nat) (x_4 : Int) (x_5 : Int) (x_6 : Int) (x_18 : Int) (x_106 : Bool) (m : Mem) (kr : Mem → Prop) (kn : Int → Mem → Prop) : Prop :=
  kif x_106 (ldI .i64 m b_3 (o_3 + 0) fun x31 => F28 x_4 x_5 (x31 == 17) m fun x32 x33 m34 => ksl v_0 fun b35 o36 l37 p38 => kif (decide (0 ≤ (32 : Int)) && decide ((32 : Int) < l37)) (stC m34 b35 (o36 + 32) (.flat (.int .u32 x32)) fun m39 => ksl v_0 fun b40 o41 l42 p43 => kif (decide (0 ≤ (33 : Int)) && decide ((33 : Int) < l42)) (stC m39 b40 (o41 + 33) (.flat (.int .u32 x33)) fun m44 => kr  m44) False) False) (kif (x_18 == 19) (P16_41004 v_0 b_3 o_3 x_4 x_5 x_6 x_18 (x_18 == 19) m (fun m66 => kr  m66) (fun x67 m68 => kn x67 m68)) (P16_41004 v_0 b_3 o_3 x_4 x_5 x_6 x_18 (x_18 == 20) m (fun m69 => kr  m69) (fun x70 m71 => kn x70 m71)))

def P16_29004 (v_0 : AV) (b_3 o_3 : Nat) (x_4 : Int) (x_5 : Int) (x_6 : Int) (x_18 : Int) (x_78 : Bool) (m : Mem) (kn : Int → Mem → Prop) (kr : Mem → Prop) : Prop :=
  kif x_78 (ldI .i64 m b_3 (o_3 + 0) fun x19 => F27 x_4 x_5 (x19 == 12) m fun x20 m21 => F26 x20 m21 fun x22 m23 => kn x22 m23) (kif (x_18 == 14) (F28 x_4 x_5 true m fun x24 x25 m26 => kn x25 m26) (kif (x_18 == 15) (F29 x_4 m fun x27 m28 => kn (IntKind.wrap .u32 x27) m28) (kif (x_18 == 16) (F30 x_4 m fun x29 m30 => kn (IntKind.wrap .u32 x29) m30) (kif (x_18 == 17) (P16_38004 v_0 b_3 o_3 x_4 x_5 x_6 x_18 (x_18 == 17) m (fun m72 => kr  m72) (fun x73 m74 => kn x73 m74)) (P16_38004 v_0 b_3 o_3 x_4 x_5 x_6 x_18 (x_18 == 18) m (fun m75 => kr  m75) (fun x76 m77 => kn x76 m77))))))

/-- pianola/pianolaref18.One -/
def F16 (v_0 : AV) (c_1 : Nat → AV) (m : Mem) (k : Mem → Prop) : Prop :=
  newK m ⟨5, c_1, 41, false⟩ fun b2 m1 => ldI .i64 m1 b2 2 fun x3 => ksl v_0 fun b4 o5 l6 p7 => kif (decide (0 ≤ x3) && decide (x3 < l6)) (ldI .u32 m1 b4 (o5 + (x3).toNat * 1) fun x8 => ldI .i64 m1 b2 3 fun x9 => ksl v_0 fun b10 o11 l12 p13 => kif (decide (0 ≤ x9) && decide (x9 < l12)) (ldI .u32 m1 b10 (o11 + (x9).toNat * 1) fun x14 => ldI .i64 m1 b2 0 fun x15 => kif (x15 == 0) (k  m1) (kif (x15 == 1) (ldI .u32 m1 b2 4 fun x16 => P16_46102 v_0 b2 0 x16 m1 (fun m91 => k  m91)) (kif (x15 == 2) (P16_46102 v_0 b2 0 x8 m1 (fun m92 => k  m92)) (kif (x15 == 3) (P16_46102 v_0 b2 0 (IntKind.wrap .u32 (x8 + x14)) m1 (fun m93 => k  m93)) (kif (x15 == 4) (P16_46102 v_0 b2 0 (IntKind.wrap .u32 (x8 - x14)) m1 (fun m94 => k  m94)) (kif (x15 == 5) (P16_46102 v_0 b2 0 (bits .and .u32 x8 x14) m1 (fun m95 => k  m95)) (kif (x15 == 6) (P16_46102 v_0 b2 0 (bits .or .u32 x8 x14) m1 (fun m96 => k  m96)) (kif (x15 == 7) (P16_46102 v_0 b2 0 (bits .xor .u32 x8 x14) m1 (fun m97 => k  m97)) (kif (x15 == 8) (P16_46102 v_0 b2 0 (bits .xor .u32 4294967295 (bits .or .u32 x8 x14)) m1 (fun m98 => k  m98)) (kif (x15 == 9) (kif (decide (x14.tmod 32 < 0)) False (P16_46102 v_0 b2 0 (IntKind.wrap .u32 (x8 * 2 ^ min (x14.tmod 32).toNat 32)) m1 (fun m99 => k  m99))) (kif (x15 == 10) (kif (decide (x14.tmod 32 < 0)) False (P16_46102 v_0 b2 0 (x8.fdiv (2 ^ min (x14.tmod 32).toNat 32)) m1 (fun m100 => k  m100))) (kif (x15 == 11) (F25 x8 (IntKind.wrap .i64 (x14.tmod 32)) m1 fun x17 m18 => P16_46102 v_0 b2 0 x17 m18 (fun m101 => k  m101)) (kif (x15 == 12) (P16_29004 v_0 b2 0 x8 x14 0 x15 (x15 == 12) m1 (fun x78 m79 => P16_46102 v_0 b2 0 x78 m79 (fun m102 => k  m102)) (fun m80 => k  m80)) (P16_29004 v_0 b2 0 x8 x14 0 x15 (x15 == 13) m1 (fun x81 m82 => P16_46102 v_0 b2 0 x81 m82 (fun m103 => k  m103)) (fun m83 => k  m83))))))))))))))) False) False

def G16 (args : List AV) (m : Mem) (k : KV) : Prop := match args with
  | [a0, a1] => kaggN 5 a1 fun c_1 => F16 a0 c_1 m (fun m' => k (.tup []) m')
  | _ => False

def LamP16_29004 (σ : Nat → AV) (m : Mem) (k : KX) : Prop := kptr (σ 3) fun b_3 o_3 => kI .u32 (σ 4) fun x_4 => kI .u32 (σ 5) fun x_5 => kI .u32 (σ 6) fun x_6 => kI .i64 (σ 18) fun x_18 => kbool (σ 78) fun x_78 => P16_29004 (σ 0) b_3 o_3 x_4 x_5 x_6 x_18 x_78 m (fun x_6' m' => k .normal (only [0, 3, 6] [(σ 0), (.ptr b_3 o_3), (.flat (.int .u32 x_6'))]) m') (fun m' => k .ret (only [] []) m')

def LamP16_38004 (σ : Nat → AV) (m : Mem) (k : KX) : Prop := kptr (σ 3) fun b_3 o_3 => kI .u32 (σ 4) fun x_4 => kI .u32 (σ 5) fun x_5 => kI .u32 (σ 6) fun x_6 => kI .i64 (σ 18) fun x_18 => kbool (σ 106) fun x_106 => P16_38004 (σ 0) b_3 o_3 x_4 x_5 x_6 x_18 x_106 m (fun m' => k .ret (only [] []) m') (fun x_6' m' => k .normal (only [0, 3, 6] [(σ 0), (.ptr b_3 o_3), (.flat (.int .u32 x_6'))]) m')

def LamP16_41004 (σ : Nat → AV) (m : Mem) (k : KX) : Prop := kptr (σ 3) fun b_3 o_3 => kI .u32 (σ 4) fun x_4 => kI .u32 (σ 5) fun x_5 => kI .u32 (σ 6) fun x_6 => kI .i64 (σ 18) fun x_18 => kbool (σ 122) fun x_122 => P16_41004 (σ 0) b_3 o_3 x_4 x_5 x_6 x_18 x_122 m (fun m' => k .ret (only [] []) m') (fun x_6' m' => k .normal (only [0, 3, 6] [(σ 0), (.ptr b_3 o_3), (.flat (.int .u32 x_6'))]) m')

def LamP16_44004 (σ : Nat → AV) (m : Mem) (k : KX) : Prop := kptr (σ 3) fun b_3 o_3 => kI .u32 (σ 4) fun x_4 => kI .u32 (σ 5) fun x_5 => kI .u32 (σ 6) fun x_6 => kbool (σ 138) fun x_138 => P16_44004 (σ 0) b_3 o_3 x_4 x_5 x_6 x_138 m (fun m' => k .ret (only [] []) m') (fun x_6' m' => k .normal (only [0, 3, 6] [(σ 0), (.ptr b_3 o_3), (.flat (.int .u32 x_6'))]) m')

def LamP16_46102 (σ : Nat → AV) (m : Mem) (k : KX) : Prop := kptr (σ 3) fun b_3 o_3 => kI .u32 (σ 6) fun x_6 => P16_46102 (σ 0) b_3 o_3 x_6 m (fun m' => k .normal (only [] []) m')

def Lam16 : LEnv := ⟨fun a σ m k => match firstReg a with
  | _ => bump False,
  fun id => match id with
  | _ => bump false,
  fun b => match keyC b with
  | some 29004 => true
  | some 38004 => true
  | some 41004 => true
  | some 44004 => true
  | some 46102 => true
  | _ => bump false,
  fun b σ m k => match keyC b with
  | some 29004 => LamP16_29004 σ m k
  | some 38004 => LamP16_38004 σ m k
  | some 41004 => LamP16_41004 σ m k
  | some 44004 => LamP16_44004 σ m k
  | some 46102 => LamP16_46102 σ m k
  | _ => bump False⟩

def lxp16_46102 : Ex → List Nat := fun e => match e with
  | .normal => []
  | _ => []

theorem pc16_46102 (v_0 : AV) (b_3 o_3 : Nat) (x_6 : Int) (m : Mem) (k : KX) : once Try.prog E16 Lam16 [0, 3, 6] lxp16_46102 (((secsOf (bodyOf Try.f16)).filter Lam16.cut).getD 0 .skip) [v_0, (.ptr b_3 o_3), (.flat (.int .u32 x_6))] m k = P16_46102 v_0 b_3 o_3 x_6 m (fun m' => k .normal (only [] []) m') := by
  kernel_rfl

theorem pok16_46102 : PieceOK Try.prog E16 Lam16 (((secsOf (bodyOf Try.f16)).filter Lam16.cut).getD 0 .skip) := by
  refine ⟨fun σ => ∃ v_0 b_3 o_3 x_6, σ 0 = v_0 ∧ σ 3 = .ptr b_3 o_3 ∧ σ 6 = .flat (.int .u32 x_6), [0, 3, 6], lxp16_46102, fun σ m k => ?_⟩
  have e : Lam16.piece (((secsOf (bodyOf Try.f16)).filter Lam16.cut).getD 0 .skip) σ m k = LamP16_46102 σ m k := by kernel_rfl
  rw [e]
  constructor
  · intro h
    unfold LamP16_46102 at h
    obtain ⟨v_0, h0⟩ : ∃ v, σ 0 = v := ⟨_, rfl⟩
    obtain ⟨b_3, o_3, h1, h⟩ := kptr_ok h
    obtain ⟨x_6, h2, h⟩ := kI_ok h
    refine ⟨⟨v_0, b_3, o_3, x_6, h0, h1, h2⟩, ?_⟩
    have ev : [0, 3, 6].map σ = [v_0, (.ptr b_3 o_3), (.flat (.int .u32 x_6))] := by simp only [List.map_cons, List.map_nil, h0, h1, h2]
    rw [ev, pc16_46102]
    simp only [h0] at h
    exact h
  · rintro ⟨⟨v_0, b_3, o_3, x_6, h0, h1, h2⟩, h⟩
    have ev : [0, 3, 6].map σ = [v_0, (.ptr b_3 o_3), (.flat (.int .u32 x_6))] := by simp only [List.map_cons, List.map_nil, h0, h1, h2]
    rw [ev, pc16_46102] at h
    unfold LamP16_46102
    try simp only [h0, h1, h2, kI, kbool, kS, kptr, kaggN, kite, decide_true, eq_self]
    exact h

def lxp16_44004 : Ex → List Nat := fun e => match e with
  | .ret => []
  | .normal => [0, 3, 6]
  | _ => []

theorem pc16_44004 (v_0 : AV) (b_3 o_3 : Nat) (x_4 : Int) (x_5 : Int) (x_6 : Int) (x_138 : Bool) (m : Mem) (k : KX) : once Try.prog E16 Lam16 [0, 3, 4, 5, 6, 138] lxp16_44004 (((secsOf (bodyOf Try.f16)).filter Lam16.cut).getD 4 .skip) [v_0, (.ptr b_3 o_3), (.flat (.int .u32 x_4)), (.flat (.int .u32 x_5)), (.flat (.int .u32 x_6)), (.flat (.bool x_138))] m k = P16_44004 v_0 b_3 o_3 x_4 x_5 x_6 x_138 m (fun m' => k .ret (only [] []) m') (fun x_6' m' => k .normal (only [0, 3, 6] [v_0, (.ptr b_3 o_3), (.flat (.int .u32 x_6'))]) m') := by
  kernel_rfl

theorem pok16_44004 : PieceOK Try.prog E16 Lam16 (((secsOf (bodyOf Try.f16)).filter Lam16.cut).getD 4 .skip) := by
  refine ⟨fun σ => ∃ v_0 b_3 o_3 x_4 x_5 x_6 x_138, σ 0 = v_0 ∧ σ 3 = .ptr b_3 o_3 ∧ σ 4 = .flat (.int .u32 x_4) ∧ σ 5 = .flat (.int .u32 x_5) ∧ σ 6 = .flat (.int .u32 x_6) ∧ σ 138 = .flat (.bool x_138), [0, 3, 4, 5, 6, 138], lxp16_44004, fun σ m k => ?_⟩
  have e : Lam16.piece (((secsOf (bodyOf Try.f16)).filter Lam16.cut).getD 4 .skip) σ m k = LamP16_44004 σ m k := by kernel_rfl
  rw [e]
  constructor
  · intro h
    unfold LamP16_44004 at h
    obtain ⟨v_0, h0⟩ : ∃ v, σ 0 = v := ⟨_, rfl⟩
    obtain ⟨b_3, o_3, h1, h⟩ := kptr_ok h
    obtain ⟨x_4, h2, h⟩ := kI_ok h
    obtain ⟨x_5, h3, h⟩ := kI_ok h
    obtain ⟨x_6, h4, h⟩ := kI_ok h
    obtain ⟨x_138, h5, h⟩ := kbool_ok h
    refine ⟨⟨v_0, b_3, o_3, x_4, x_5, x_6, x_138, h0, h1, h2, h3, h4, h5⟩, ?_⟩
    have ev : [0, 3, 4, 5, 6, 138].map σ = [v_0, (.ptr b_3 o_3), (.flat (.int .u32 x_4)), (.flat (.int .u32 x_5)), (.flat (.int .u32 x_6)), (.flat (.bool x_138))] := by simp only [List.map_cons, List.map_nil, h0, h1, h2, h3, h4, h5]
    rw [ev, pc16_44004]
    simp only [h0] at h
    exact h
  · rintro ⟨⟨v_0, b_3, o_3, x_4, x_5, x_6, x_138, h0, h1, h2, h3, h4, h5⟩, h⟩
    have ev : [0, 3, 4, 5, 6, 138].map σ = [v_0, (.ptr b_3 o_3), (.flat (.int .u32 x_4)), (.flat (.int .u32 x_5)), (.flat (.int .u32 x_6)), (.flat (.bool x_138))] := by simp only [List.map_cons, List.map_nil, h0, h1, h2, h3, h4, h5]
    rw [ev, pc16_44004] at h
    unfold LamP16_44004
    try simp only [h0, h1, h2, h3, h4, h5, kI, kbool, kS, kptr, kaggN, kite, decide_true, eq_self]
    exact h

def lxp16_41004 : Ex → List Nat := fun e => match e with
  | .ret => []
  | .normal => [0, 3, 6]
  | _ => []

theorem pc16_41004 (v_0 : AV) (b_3 o_3 : Nat) (x_4 : Int) (x_5 : Int) (x_6 : Int) (x_18 : Int) (x_122 : Bool) (m : Mem) (k : KX) : once Try.prog E16 Lam16 [0, 3, 4, 5, 6, 18, 122] lxp16_41004 (((secsOf (bodyOf Try.f16)).filter Lam16.cut).getD 3 .skip) [v_0, (.ptr b_3 o_3), (.flat (.int .u32 x_4)), (.flat (.int .u32 x_5)), (.flat (.int .u32 x_6)), (.flat (.int .i64 x_18)), (.flat (.bool x_122))] m k = P16_41004 v_0 b_3 o_3 x_4 x_5 x_6 x_18 x_122 m (fun m' => k .ret (only [] []) m') (fun x_6' m' => k .normal (only [0, 3, 6] [v_0, (.ptr b_3 o_3), (.flat (.int .u32 x_6'))]) m') := by
  kernel_rfl

theorem pok16_41004 : PieceOK Try.prog E16 Lam16 (((secsOf (bodyOf Try.f16)).filter Lam16.cut).getD 3 .skip) := by
  refine ⟨fun σ => ∃ v_0 b_3 o_3 x_4 x_5 x_6 x_18 x_122, σ 0 = v_0 ∧ σ 3 = .ptr b_3 o_3 ∧ σ 4 = .flat (.int .u32 x_4) ∧ σ 5 = .flat (.int .u32 x_5) ∧ σ 6 = .flat (.int .u32 x_6) ∧ σ 18 = .flat (.int .i64 x_18) ∧ σ 122 = .flat (.bool x_122), [0, 3, 4, 5, 6, 18, 122], lxp16_41004, fun σ m k => ?_⟩
  have e : Lam16.piece (((secsOf (bodyOf Try.f16)).filter Lam16.cut).getD 3 .skip) σ m k = LamP16_41004 σ m k := by kernel_rfl
  rw [e]
  constructor
  · intro h
    unfold LamP16_41004 at h
    obtain ⟨v_0, h0⟩ : ∃ v, σ 0 = v := ⟨_, rfl⟩
    obtain ⟨b_3, o_3, h1, h⟩ := kptr_ok h
    obtain ⟨x_4, h2, h⟩ := kI_ok h
    obtain ⟨x_5, h3, h⟩ := kI_ok h
    obtain ⟨x_6, h4, h⟩ := kI_ok h
    obtain ⟨x_18, h5, h⟩ := kI_ok h
    obtain ⟨x_122, h6, h⟩ := kbool_ok h
    refine ⟨⟨v_0, b_3, o_3, x_4, x_5, x_6, x_18, x_122, h0, h1, h2, h3, h4, h5, h6⟩, ?_⟩
    have ev : [0, 3, 4, 5, 6, 18, 122].map σ = [v_0, (.ptr b_3 o_3), (.flat (.int .u32 x_4)), (.flat (.int .u32 x_5)), (.flat (.int .u32 x_6)), (.flat (.int .i64 x_18)), (.flat (.bool x_122))] := by simp only [List.map_cons, List.map_nil, h0, h1, h2, h3, h4, h5, h6]
    rw [ev, pc16_41004]
    simp only [h0] at h
    exact h
  · rintro ⟨⟨v_0, b_3, o_3, x_4, x_5, x_6, x_18, x_122, h0, h1, h2, h3, h4, h5, h6⟩, h⟩
    have ev : [0, 3, 4, 5, 6, 18, 122].map σ = [v_0, (.ptr b_3 o_3), (.flat (.int .u32 x_4)), (.flat (.int .u32 x_5)), (.flat (.int .u32 x_6)), (.flat (.int .i64 x_18)), (.flat (.bool x_122))] := by simp only [List.map_cons, List.map_nil, h0, h1, h2, h3, h4, h5, h6]
    rw [ev, pc16_41004] at h
    unfold LamP16_41004
    try simp only [h0, h1, h2, h3, h4, h5, h6, kI, kbool, kS, kptr, kaggN, kite, decide_true, eq_self]
    exact h

def lxp16_38004 : Ex → List Nat := fun e => match e with
  | .ret => []
  | .normal => [0, 3, 6]
  | _ => []

theorem pc16_38004 (v_0 : AV) (b_3 o_3 : Nat) (x_4 : Int) (x_5 : Int) (x_6 : Int) (x_18 : Int) (x_106 : Bool) (m : Mem) (k : KX) : once Try.prog E16 Lam16 [0, 3, 4, 5, 6, 18, 106] lxp16_38004 (((secsOf (bodyOf Try.f16)).filter Lam16.cut).getD 2 .skip) [v_0, (.ptr b_3 o_3), (.flat (.int .u32 x_4)), (.flat (.int .u32 x_5)), (.flat (.int .u32 x_6)), (.flat (.int .i64 x_18)), (.flat (.bool x_106))] m k = P16_38004 v_0 b_3 o_3 x_4 x_5 x_6 x_18 x_106 m (fun m' => k .ret (only [] []) m') (fun x_6' m' => k .normal (only [0, 3, 6] [v_0, (.ptr b_3 o_3), (.flat (.int .u32 x_6'))]) m') := by
  kernel_rfl

theorem pok16_38004 : PieceOK Try.prog E16 Lam16 (((secsOf (bodyOf Try.f16)).filter Lam16.cut).getD 2 .skip) := by
  refine ⟨fun σ => ∃ v_0 b_3 o_3 x_4 x_5 x_6 x_18 x_106, σ 0 = v_0 ∧ σ 3 = .ptr b_3 o_3 ∧ σ 4 = .flat (.int .u32 x_4) ∧ σ 5 = .flat (.int .u32 x_5) ∧ σ 6 = .flat (.int .u32 x_6) ∧ σ 18 = .flat (.int .i64 x_18) ∧ σ 106 = .flat (.bool x_106), [0, 3, 4, 5, 6, 18, 106], lxp16_38004, fun σ m k => ?_⟩
  have e : Lam16.piece (((secsOf (bodyOf Try.f16)).filter Lam16.cut).getD 2 .skip) σ m k = LamP16_38004 σ m k := by kernel_rfl
  rw [e]
  constructor
  · intro h
    unfold LamP16_38004 at h
    obtain ⟨v_0, h0⟩ : ∃ v, σ 0 = v := ⟨_, rfl⟩
    obtain ⟨b_3, o_3, h1, h⟩ := kptr_ok h
    obtain ⟨x_4, h2, h⟩ := kI_ok h
    obtain ⟨x_5, h3, h⟩ := kI_ok h
    obtain ⟨x_6, h4, h⟩ := kI_ok h
    obtain ⟨x_18, h5, h⟩ := kI_ok h
    obtain ⟨x_106, h6, h⟩ := kbool_ok h
    refine ⟨⟨v_0, b_3, o_3, x_4, x_5, x_6, x_18, x_106, h0, h1, h2, h3, h4, h5, h6⟩, ?_⟩
    have ev : [0, 3, 4, 5, 6, 18, 106].map σ = [v_0, (.ptr b_3 o_3), (.flat (.int .u32 x_4)), (.flat (.int .u32 x_5)), (.flat (.int .u32 x_6)), (.flat (.int .i64 x_18)), (.flat (.bool x_106))] := by simp only [List.map_cons, List.map_nil, h0, h1, h2, h3, h4, h5, h6]
    rw [ev, pc16_38004]
    simp only [h0] at h
    exact h
  · rintro ⟨⟨v_0, b_3, o_3, x_4, x_5, x_6, x_18, x_106, h0, h1, h2, h3, h4, h5, h6⟩, h⟩
    have ev : [0, 3, 4, 5, 6, 18, 106].map σ = [v_0, (.ptr b_3 o_3), (.flat (.int .u32 x_4)), (.flat (.int .u32 x_5)), (.flat (.int .u32 x_6)), (.flat (.int .i64 x_18)), (.flat (.bool x_106))] := by simp only [List.map_cons, List.map_nil, h0, h1, h2, h3, h4, h5, h6]
    rw [ev, pc16_38004] at h
    unfold LamP16_38004
    try simp only [h0, h1, h2, h3, h4, h5, h6, kI, kbool, kS, kptr, kaggN, kite, decide_true, eq_self]
    exact h

def lxp16_29004 : Ex → List Nat := fun e => match e with
  | .normal => [0, 3, 6]
  | .ret => []
  | _ => []

theorem pc16_29004 (v_0 : AV) (b_3 o_3 : Nat) (x_4 : Int) (x_5 : Int) (x_6 : Int) (x_18 : Int) (x_78 : Bool) (m : Mem) (k : KX) : once Try.prog E16 Lam16 [0, 3, 4, 5, 6, 18, 78] lxp16_29004 (((secsOf (bodyOf Try.f16)).filter Lam16.cut).getD 1 .skip) [v_0, (.ptr b_3 o_3), (.flat (.int .u32 x_4)), (.flat (.int .u32 x_5)), (.flat (.int .u32 x_6)), (.flat (.int .i64 x_18)), (.flat (.bool x_78))] m k = P16_29004 v_0 b_3 o_3 x_4 x_5 x_6 x_18 x_78 m (fun x_6' m' => k .normal (only [0, 3, 6] [v_0, (.ptr b_3 o_3), (.flat (.int .u32 x_6'))]) m') (fun m' => k .ret (only [] []) m') := by
  kernel_rfl

theorem pok16_29004 : PieceOK Try.prog E16 Lam16 (((secsOf (bodyOf Try.f16)).filter Lam16.cut).getD 1 .skip) := by
  refine ⟨fun σ => ∃ v_0 b_3 o_3 x_4 x_5 x_6 x_18 x_78, σ 0 = v_0 ∧ σ 3 = .ptr b_3 o_3 ∧ σ 4 = .flat (.int .u32 x_4) ∧ σ 5 = .flat (.int .u32 x_5) ∧ σ 6 = .flat (.int .u32 x_6) ∧ σ 18 = .flat (.int .i64 x_18) ∧ σ 78 = .flat (.bool x_78), [0, 3, 4, 5, 6, 18, 78], lxp16_29004, fun σ m k => ?_⟩
  have e : Lam16.piece (((secsOf (bodyOf Try.f16)).filter Lam16.cut).getD 1 .skip) σ m k = LamP16_29004 σ m k := by kernel_rfl
  rw [e]
  constructor
  · intro h
    unfold LamP16_29004 at h
    obtain ⟨v_0, h0⟩ : ∃ v, σ 0 = v := ⟨_, rfl⟩
    obtain ⟨b_3, o_3, h1, h⟩ := kptr_ok h
    obtain ⟨x_4, h2, h⟩ := kI_ok h
    obtain ⟨x_5, h3, h⟩ := kI_ok h
    obtain ⟨x_6, h4, h⟩ := kI_ok h
    obtain ⟨x_18, h5, h⟩ := kI_ok h
    obtain ⟨x_78, h6, h⟩ := kbool_ok h
    refine ⟨⟨v_0, b_3, o_3, x_4, x_5, x_6, x_18, x_78, h0, h1, h2, h3, h4, h5, h6⟩, ?_⟩
    have ev : [0, 3, 4, 5, 6, 18, 78].map σ = [v_0, (.ptr b_3 o_3), (.flat (.int .u32 x_4)), (.flat (.int .u32 x_5)), (.flat (.int .u32 x_6)), (.flat (.int .i64 x_18)), (.flat (.bool x_78))] := by simp only [List.map_cons, List.map_nil, h0, h1, h2, h3, h4, h5, h6]
    rw [ev, pc16_29004]
    simp only [h0] at h
    exact h
  · rintro ⟨⟨v_0, b_3, o_3, x_4, x_5, x_6, x_18, x_78, h0, h1, h2, h3, h4, h5, h6⟩, h⟩
    have ev : [0, 3, 4, 5, 6, 18, 78].map σ = [v_0, (.ptr b_3 o_3), (.flat (.int .u32 x_4)), (.flat (.int .u32 x_5)), (.flat (.int .u32 x_6)), (.flat (.int .i64 x_18)), (.flat (.bool x_78))] := by simp only [List.map_cons, List.map_nil, h0, h1, h2, h3, h4, h5, h6]
    rw [ev, pc16_29004] at h
    unfold LamP16_29004
    try simp only [h0, h1, h2, h3, h4, h5, h6, kI, kbool, kS, kptr, kaggN, kite, decide_true, eq_self]
    exact h

theorem eqn16 (v_0 : AV) (c_1 : Nat → AV) (m : Mem) (k : KV) : bodyK Try.prog E16 Lam16 Try.f16 false [v_0, (.agg 5 c_1)] m k = F16 v_0 c_1 m (fun m' => k (.tup []) m') := by
  kernel_rfl

theorem fs16 (w0 : World) : FS Try.prog w0 16 G16 := by
  refine (fs_body (Γ := E16) (sound_env (l := [(25, G25), (26, G26), (27, G27), (28, G28), (29, G29), (30, G30), (31, G31)]) w0 (by
    intro p hp
    simp only [List.mem_cons, List.not_mem_nil, or_false] at hp
    rcases hp with rfl | rfl | rfl | rfl | rfl | rfl | rfl
    · exact fs25 w0
    · exact fs26 w0
    · exact fs27 w0
    · exact fs28 w0
    · exact fs29 w0
    · exact fs30 w0
    · exact fs31 w0)) (by kernel_rfl) Try.func16 (Λ := Lam16) (c := (bodyOf Try.f16)) (by kernel_rfl) Try.call16 (by kernel_rfl) (LS_of (bodyOf Try.f16) 0 (by kernel_rfl) (fun i hi => absurd hi (Nat.not_lt_zero i)) 5 (by kernel_rfl) (by
    intro i hi
    match i, hi with
    | 0, _ => exact pok16_46102
    | 1, _ => exact pok16_29004
    | 2, _ => exact pok16_38004
    | 3, _ => exact pok16_41004
    | 4, _ => exact pok16_44004
    | i + 5, hi => omega)) false (np := 2) (Nat.le_of_ble_eq_true (by kernel_rfl))).imp fun args => ?_
  by_cases hl : args.length = 2
  rotate_left
  · exact .inr fun m k hk => by
      unfold G16 at hk
      split at hk
      · exact hl rfl
      · exact hk
  obtain ⟨a0, a1, rfl⟩ : ∃ a0 a1, args = [a0, a1] := len_list2 hl
  rcases kaggN_or 5 a1 with ⟨c_1, rfl⟩ | h
  rotate_left
  · exact .inr fun m k hk => h _ (by simpa only [G16, kI, kbool, kS, kptr, kaggN, kite, decide_true, eq_self] using hk)
  exact .inl fun m k => propext ⟨fun h => ⟨rfl, by rw [eqn16]; simpa only [G16, kI, kbool, kS, kptr, kaggN, kite, decide_true, eq_self] using h⟩, fun h => by have h := h.2; rw [eqn16] at h; simpa only [G16, kI, kbool, kS, kptr, kaggN, kite, decide_true, eq_self] using h⟩

def E6 : Env := envOf [(15, G15), (16, G16)]

def R6_7 (v_0 : AV) (v_1 : AV) (x_6 : Int) (m : Mem) (kn : Int → Mem → Prop) (k2 : Mem → Prop) : Prop :=
  klen v_1 fun x13 => kif (decide (x_6 < x13)) (ksl v_1 fun b14 o15 l16 p17 => kif (decide (0 ≤ x_6) && decide (x_6 < l16)) (ldG 5 m b14 (o15 + (x_6).toNat * 5) fun c18 => F16 v_0 c18 m fun m19 => kn (IntKind.wrap .i64 (x_6 + 1)) m19) False) (k2  m)

def L6_7 (v_0 : AV) (v_1 : AV) : Nat → Int → Mem → (Mem → Prop) → Prop
  | 0, _,  _, _ => bump False
  | N + 1, x_6,  m, k2 => R6_7 v_0 v_1 x_6 m (fun x_6' m' => L6_7 v_0 v_1 N x_6' m' k2) k2

def R6_2 (v_0 : AV) (v_1 : AV) (x_5 : Int) (m : Mem) (kn : Int → Mem → Prop) (k0 : Mem → Prop) (kr : Bool → Mem → Prop) : Prop :=
  klen v_1 fun x1 => kif (decide (x_5 < x1)) (ksl v_1 fun b2 o3 l4 p5 => kif (decide (0 ≤ x_5) && decide (x_5 < l4)) (ldG 5 m b2 (o3 + (x_5).toNat * 5) fun c6 => F15 c6 m fun x7 m8 => kif (!x7) (kr false m8) (kn (IntKind.wrap .i64 (x_5 + 1)) m8)) False) (k0  m)

def L6_2 (v_0 : AV) (v_1 : AV) : Nat → Int → Mem → (Mem → Prop) → (Bool → Mem → Prop) → Prop
  | 0, _,  _, _, _ => bump False
  | N + 1, x_5,  m, k0, kr => R6_2 v_0 v_1 x_5 m (fun x_5' m' => L6_2 v_0 v_1 N x_5' m' k0 kr) k0 kr

/-- pianola/pianolaref18.Run -/
def F6 (v_0 : AV) (v_1 : AV) (m : Mem) (k : Bool → Mem → Prop) : Prop :=
  ∃ N12, L6_2 v_0 v_1 N12 0 m (fun m9 => ∃ N21, L6_7 v_0 v_1 N21 0 m9 (fun m20 => k true m20)) (fun x10 m11 => k x10 m11)

def G6 (args : List AV) (m : Mem) (k : KV) : Prop := match args with
  | [a0, a1] => F6 a0 a1 m (fun x_1000 m' => k (.flat (.bool x_1000)) m')
  | _ => False

def Lam6_2 (σ : Nat → AV) (m : Mem) (k : KX) : Prop := kI .i64 (σ 5) fun x_5 => ∃ N, L6_2 (σ 0) (σ 1) N x_5 m (fun m' => k (.exit 0) (only [0, 1] [(σ 0), (σ 1)]) m') (fun x_4' m' => k .ret (only [4] [(.flat (.bool x_4'))]) m')

def Lam6_7 (σ : Nat → AV) (m : Mem) (k : KX) : Prop := kI .i64 (σ 6) fun x_6 => ∃ N, L6_7 (σ 0) (σ 1) N x_6 m (fun m' => k (.exit 2) (only [] []) m')

def Lam6 : LEnv := ⟨fun a σ m k => match firstReg a with
  | some 2 => Lam6_2 σ m k
  | some 7 => Lam6_7 σ m k
  | _ => bump False,
  fun id => match id with
  | _ => bump false,
  fun b => match keyC b with
  | _ => bump false,
  fun b σ m k => match keyC b with
  | _ => bump False⟩

def lx6_7 : Ex → List Nat := fun e => match e with
  | .exit 2 => []
  | _ => []

theorem round6_7 (v_0 : AV) (v_1 : AV) (x_6 : Int) (m : Mem) (G : List AV → Mem → Prop) (k : KX) : (wpA Try.prog E6 Lam6 ((loopsOf (bodyOf Try.f6)).getD 1 .skip) (only [0, 1, 6] [v_0, v_1, (.flat (.int .i64 x_6))]) m fun e σ' m' => match e with
    | .normal => G ([0, 1, 6].map σ') m'
    | .exit id => k (.exit id) (only (lx6_7 (.exit id)) ((lx6_7 (.exit id)).map σ')) m'
    | .ret => k .ret (only (lx6_7 .ret) ((lx6_7 .ret).map σ')) m') = R6_7 v_0 v_1 x_6 m (fun x_6' m' => G [v_0, v_1, (.flat (.int .i64 x_6'))] m') (fun m' => k (.exit 2) (only [] []) m') := by
  kernel_rfl

theorem loop6_7 (v_0 : AV) (v_1 : AV) (k : KX) : ∀ (N : Nat) (x_6 : Int) (m : Mem), rounds Try.prog E6 Lam6 [0, 1, 6] lx6_7 ((loopsOf (bodyOf Try.f6)).getD 1 .skip) N [v_0, v_1, (.flat (.int .i64 x_6))] m k = L6_7 v_0 v_1 N x_6 m (fun m' => k (.exit 2) (only [] []) m') := by
  intro N
  induction N with
  | zero => intros; rfl
  | succ N ih =>
    intro x_6 m
    refine (round6_7 v_0 v_1 x_6 m (fun vs m' => rounds Try.prog E6 Lam6 [0, 1, 6] lx6_7 ((loopsOf (bodyOf Try.f6)).getD 1 .skip) N vs m' k) k).trans ?_
    simp only [ih]
    rfl

theorem lok6_7 : LoopOK Try.prog E6 Lam6 ((loopsOf (bodyOf Try.f6)).getD 1 .skip) := by
  refine ⟨fun σ => ∃ v_0 v_1 x_6, σ 0 = v_0 ∧ σ 1 = v_1 ∧ σ 6 = .flat (.int .i64 x_6), [0, 1, 6], lx6_7, fun σ m k => ?_⟩
  have e : Lam6.loop ((loopsOf (bodyOf Try.f6)).getD 1 .skip) σ m k = Lam6_7 σ m k := by kernel_rfl
  rw [e]
  constructor
  · intro h
    unfold Lam6_7 at h
    obtain ⟨v_0, h0⟩ : ∃ v, σ 0 = v := ⟨_, rfl⟩
    obtain ⟨v_1, h1⟩ : ∃ v, σ 1 = v := ⟨_, rfl⟩
    obtain ⟨x_6, h2, h⟩ := kI_ok h
    obtain ⟨N, h⟩ := h
    refine ⟨⟨v_0, v_1, x_6, h0, h1, h2⟩, N, ?_⟩
    have ev : [0, 1, 6].map σ = [v_0, v_1, (.flat (.int .i64 x_6))] := by simp only [List.map_cons, List.map_nil, h0, h1, h2]
    rw [ev, loop6_7]
    simp only [h0, h1] at h
    exact h
  · rintro ⟨⟨v_0, v_1, x_6, h0, h1, h2⟩, N, h⟩
    have ev : [0, 1, 6].map σ = [v_0, v_1, (.flat (.int .i64 x_6))] := by simp only [List.map_cons, List.map_nil, h0, h1, h2]
    rw [ev, loop6_7] at h
    unfold Lam6_7
    try simp only [h0, h1, h2, kI, kbool, kS, kptr, kaggN, kite, decide_true, eq_self]
    exact ⟨N, h⟩

def lx6_2 : Ex → List Nat := fun e => match e with
  | .exit 0 => [0, 1]
  | .ret => [4]
  | _ => []

theorem round6_2 (v_0 : AV) (v_1 : AV) (x_5 : Int) (m : Mem) (G : List AV → Mem → Prop) (k : KX) : (wpA Try.prog E6 Lam6 ((loopsOf (bodyOf Try.f6)).getD 0 .skip) (only [0, 1, 5] [v_0, v_1, (.flat (.int .i64 x_5))]) m fun e σ' m' => match e with
    | .normal => G ([0, 1, 5].map σ') m'
    | .exit id => k (.exit id) (only (lx6_2 (.exit id)) ((lx6_2 (.exit id)).map σ')) m'
    | .ret => k .ret (only (lx6_2 .ret) ((lx6_2 .ret).map σ')) m') = R6_2 v_0 v_1 x_5 m (fun x_5' m' => G [v_0, v_1, (.flat (.int .i64 x_5'))] m') (fun m' => k (.exit 0) (only [0, 1] [v_0, v_1]) m') (fun x_4' m' => k .ret (only [4] [(.flat (.bool x_4'))]) m') := by
  kernel_rfl

theorem loop6_2 (v_0 : AV) (v_1 : AV) (k : KX) : ∀ (N : Nat) (x_5 : Int) (m : Mem), rounds Try.prog E6 Lam6 [0, 1, 5] lx6_2 ((loopsOf (bodyOf Try.f6)).getD 0 .skip) N [v_0, v_1, (.flat (.int .i64 x_5))] m k = L6_2 v_0 v_1 N x_5 m (fun m' => k (.exit 0) (only [0, 1] [v_0, v_1]) m') (fun x_4' m' => k .ret (only [4] [(.flat (.bool x_4'))]) m') := by
  intro N
  induction N with
  | zero => intros; rfl
  | succ N ih =>
    intro x_5 m
    refine (round6_2 v_0 v_1 x_5 m (fun vs m' => rounds Try.prog E6 Lam6 [0, 1, 5] lx6_2 ((loopsOf (bodyOf Try.f6)).getD 0 .skip) N vs m' k) k).trans ?_
    simp only [ih]
    rfl

theorem lok6_2 : LoopOK Try.prog E6 Lam6 ((loopsOf (bodyOf Try.f6)).getD 0 .skip) := by
  refine ⟨fun σ => ∃ v_0 v_1 x_5, σ 0 = v_0 ∧ σ 1 = v_1 ∧ σ 5 = .flat (.int .i64 x_5), [0, 1, 5], lx6_2, fun σ m k => ?_⟩
  have e : Lam6.loop ((loopsOf (bodyOf Try.f6)).getD 0 .skip) σ m k = Lam6_2 σ m k := by kernel_rfl
  rw [e]
  constructor
  · intro h
    unfold Lam6_2 at h
    obtain ⟨v_0, h0⟩ : ∃ v, σ 0 = v := ⟨_, rfl⟩
    obtain ⟨v_1, h1⟩ : ∃ v, σ 1 = v := ⟨_, rfl⟩
    obtain ⟨x_5, h2, h⟩ := kI_ok h
    obtain ⟨N, h⟩ := h
    refine ⟨⟨v_0, v_1, x_5, h0, h1, h2⟩, N, ?_⟩
    have ev : [0, 1, 5].map σ = [v_0, v_1, (.flat (.int .i64 x_5))] := by simp only [List.map_cons, List.map_nil, h0, h1, h2]
    rw [ev, loop6_2]
    simp only [h0, h1] at h
    exact h
  · rintro ⟨⟨v_0, v_1, x_5, h0, h1, h2⟩, N, h⟩
    have ev : [0, 1, 5].map σ = [v_0, v_1, (.flat (.int .i64 x_5))] := by simp only [List.map_cons, List.map_nil, h0, h1, h2]
    rw [ev, loop6_2] at h
    unfold Lam6_2
    try simp only [h0, h1, h2, kI, kbool, kS, kptr, kaggN, kite, decide_true, eq_self]
    exact ⟨N, h⟩

theorem eqn6 (v_0 : AV) (v_1 : AV) (m : Mem) (k : KV) : bodyK Try.prog E6 Lam6 Try.f6 false [v_0, v_1] m k = F6 v_0 v_1 m (fun x_1000 m' => k (.flat (.bool x_1000)) m') := by
  kernel_rfl

theorem fs6 (w0 : World) : FS Try.prog w0 6 G6 := by
  refine (fs_body (Γ := E6) (sound_env (l := [(15, G15), (16, G16)]) w0 (by
    intro p hp
    simp only [List.mem_cons, List.not_mem_nil, or_false] at hp
    rcases hp with rfl | rfl
    · exact fs15 w0
    · exact fs16 w0)) (by kernel_rfl) Try.func6 (Λ := Lam6) (c := (bodyOf Try.f6)) (by kernel_rfl) Try.call6 (by kernel_rfl) (LS_of (bodyOf Try.f6) 2 (by kernel_rfl) (by
    intro i hi
    match i, hi with
    | 0, _ => exact lok6_2
    | 1, _ => exact lok6_7
    | i + 2, hi => omega) 0 (by kernel_rfl) (fun i hi => absurd hi (Nat.not_lt_zero i))) false (np := 2) (Nat.le_of_ble_eq_true (by kernel_rfl))).imp fun args => ?_
  by_cases hl : args.length = 2
  rotate_left
  · exact .inr fun m k hk => by
      unfold G6 at hk
      split at hk
      · exact hl rfl
      · exact hk
  obtain ⟨a0, a1, rfl⟩ : ∃ a0 a1, args = [a0, a1] := len_list2 hl

  exact .inl fun m k => propext ⟨fun h => ⟨rfl, by rw [eqn6]; simpa only [G6, kI, kbool, kS, kptr, kaggN, kite, decide_true, eq_self] using h⟩, fun h => by have h := h.2; rw [eqn6] at h; simpa only [G6, kI, kbool, kS, kptr, kaggN, kite, decide_true, eq_self] using h⟩

end Go.Proofs.Ytkgidjnaddjjbaa.Am
