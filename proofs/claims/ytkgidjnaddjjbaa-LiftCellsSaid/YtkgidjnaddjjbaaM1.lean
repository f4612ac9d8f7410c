/- What Go functions ask of what follows them, as plain functions over the abstract machine; the machine asks just that. Written by gen.py. -/
import Derived.Test.YtkgidjnaddjjbaaProg
import Derived.Test.YtkgidjnaddjjbaaAmL
import Derived.Test.YtkgidjnaddjjbaaM0
namespace Go.Proofs.Ytkgidjnaddjjbaa.Am
set_option linter.unusedVariables false
set_option linter.unusedSimpArgs false
set_option maxRecDepth 100000

def E50 : Env := envOf []

def P50_18004 (x_0 : Int) (x_103 : Bool) (m : Mem) (kr : Int → Mem → Prop) (kn : Mem → Prop) : Prop :=
  kif x_103 (kr 19 m) (kif (x_0 == 53) (kr 18 m) (kif (x_0 == 54) (kr 6 m) (kif (x_0 == 55) (kr 6 m) (kn  m))))

def P50_16004 (x_0 : Int) (x_96 : Bool) (m : Mem) (kr : Int → Mem → Prop) (kn : Mem → Prop) : Prop :=
  kif x_96 (kr 32 m) (kif (x_0 == 42) (P50_18004 x_0 true m (fun x1 m2 => kr x1 m2) (fun m3 => kn  m3)) (kif (x_0 == 43) (P50_18004 x_0 true m (fun x4 m5 => kr x4 m5) (fun m6 => kn  m6)) (kif (decide (x_0 ≥ 46)) (kif (decide (x_0 ≤ 52)) (P50_18004 x_0 true m (fun x7 m8 => kr x7 m8) (fun m9 => kn  m9)) (kif (decide (x_0 ≥ 66)) (P50_18004 x_0 (decide (x_0 ≤ 75)) m (fun x10 m11 => kr x10 m11) (fun m12 => kn  m12)) (P50_18004 x_0 false m (fun x13 m14 => kr x13 m14) (fun m15 => kn  m15)))) (kif (decide (x_0 ≥ 66)) (P50_18004 x_0 (decide (x_0 ≤ 75)) m (fun x16 m17 => kr x16 m17) (fun m18 => kn  m18)) (P50_18004 x_0 false m (fun x19 m20 => kr x19 m20) (fun m21 => kn  m21))))))

def P50_14004 (x_0 : Int) (x_81 : Bool) (m : Mem) (kr : Int → Mem → Prop) (kn : Mem → Prop) : Prop :=
  kif x_81 (kr 17 m) (kif (x_0 == 40) (P50_16004 x_0 true m (fun x22 m23 => kr x22 m23) (fun m24 => kn  m24)) (P50_16004 x_0 (x_0 == 41) m (fun x25 m26 => kr x25 m26) (fun m27 => kn  m27)))

def P50_12004 (x_0 : Int) (x_66 : Bool) (m : Mem) (kr : Int → Mem → Prop) (kn : Mem → Prop) : Prop :=
  kif x_66 (kr 3 m) (kif (decide (x_0 ≥ 36)) (kif (decide (x_0 ≤ 39)) (P50_14004 x_0 true m (fun x28 m29 => kr x28 m29) (fun m30 => kn  m30)) (kif (x_0 == 44) (P50_14004 x_0 true m (fun x31 m32 => kr x31 m32) (fun m33 => kn  m33)) (P50_14004 x_0 (x_0 == 45) m (fun x34 m35 => kr x34 m35) (fun m36 => kn  m36)))) (kif (x_0 == 44) (P50_14004 x_0 true m (fun x37 m38 => kr x37 m38) (fun m39 => kn  m39)) (P50_14004 x_0 (x_0 == 45) m (fun x40 m41 => kr x40 m41) (fun m42 => kn  m42))))

def P50_10004 (x_0 : Int) (x_59 : Bool) (m : Mem) (kr : Int → Mem → Prop) (kn : Mem → Prop) : Prop :=
  kif x_59 (kr 4 m) (kif (decide (x_0 ≥ 18)) (kif (decide (x_0 ≤ 21)) (P50_12004 x_0 true m (fun x43 m44 => kr x43 m44) (fun m45 => kn  m45)) (kif (decide (x_0 ≥ 32)) (P50_12004 x_0 (decide (x_0 ≤ 35)) m (fun x46 m47 => kr x46 m47) (fun m48 => kn  m48)) (P50_12004 x_0 false m (fun x49 m50 => kr x49 m50) (fun m51 => kn  m51)))) (kif (decide (x_0 ≥ 32)) (P50_12004 x_0 (decide (x_0 ≤ 35)) m (fun x52 m53 => kr x52 m53) (fun m54 => kn  m54)) (P50_12004 x_0 false m (fun x55 m56 => kr x55 m56) (fun m57 => kn  m57))))

def P50_8004 (x_0 : Int) (x_48 : Bool) (m : Mem) (kr : Int → Mem → Prop) (kn : Mem → Prop) : Prop :=
  kif x_48 (kr 5 m) (kif (x_0 == 14) (P50_10004 x_0 true m (fun x58 m59 => kr x58 m59) (fun m60 => kn  m60)) (P50_10004 x_0 (x_0 == 16) m (fun x61 m62 => kr x61 m62) (fun m63 => kn  m63)))

def P50_6004 (x_0 : Int) (x_37 : Bool) (m : Mem) (kr : Int → Mem → Prop) (kn : Mem → Prop) : Prop :=
  kif x_37 (kr 1 m) (kif (x_0 == 8) (P50_8004 x_0 true m (fun x64 m65 => kr x64 m65) (fun m66 => kn  m66)) (kif (x_0 == 64) (P50_8004 x_0 true m (fun x67 m68 => kr x67 m68) (fun m69 => kn  m69)) (P50_8004 x_0 (x_0 == 65) m (fun x70 m71 => kr x70 m71) (fun m72 => kn  m72))))

def P50_4004 (x_0 : Int) (x_10 : Bool) (m : Mem) (kr : Int → Mem → Prop) (kn : Mem → Prop) : Prop :=
  kif x_10 (kr 7 m) (kif (x_0 == 7) (P50_6004 x_0 true m (fun x73 m74 => kr x73 m74) (fun m75 => kn  m75)) (kif (x_0 == 15) (P50_6004 x_0 true m (fun x76 m77 => kr x76 m77) (fun m78 => kn  m78)) (P50_6004 x_0 (x_0 == 17) m (fun x79 m80 => kr x79 m80) (fun m81 => kn  m81))))

def P50_2004 (x_0 : Int) (x_3 : Bool) (m : Mem) (kr : Int → Mem → Prop) (kn : Mem → Prop) : Prop :=
  kif x_3 (kr 14 m) (kif (decide (x_0 ≥ 4)) (kif (decide (x_0 ≤ 6)) (P50_4004 x_0 true m (fun x82 m83 => kr x82 m83) (fun m84 => kn  m84)) (kif (x_0 == 9) (P50_4004 x_0 true m (fun x85 m86 => kr x85 m86) (fun m87 => kn  m87)) (kif (x_0 == 10) (P50_4004 x_0 true m (fun x88 m89 => kr x88 m89) (fun m90 => kn  m90)) (kif (decide (x_0 ≥ 22)) (kif (decide (x_0 ≤ 31)) (P50_4004 x_0 true m (fun x91 m92 => kr x91 m92) (fun m93 => kn  m93)) (P50_4004 x_0 (x_0 == 63) m (fun x94 m95 => kr x94 m95) (fun m96 => kn  m96))) (P50_4004 x_0 (x_0 == 63) m (fun x97 m98 => kr x97 m98) (fun m99 => kn  m99)))))) (kif (x_0 == 9) (P50_4004 x_0 true m (fun x100 m101 => kr x100 m101) (fun m102 => kn  m102)) (kif (x_0 == 10) (P50_4004 x_0 true m (fun x103 m104 => kr x103 m104) (fun m105 => kn  m105)) (kif (decide (x_0 ≥ 22)) (kif (decide (x_0 ≤ 31)) (P50_4004 x_0 true m (fun x106 m107 => kr x106 m107) (fun m108 => kn  m108)) (P50_4004 x_0 (x_0 == 63) m (fun x109 m110 => kr x109 m110) (fun m111 => kn  m111))) (P50_4004 x_0 (x_0 == 63) m (fun x112 m113 => kr x112 m113) (fun m114 => kn  m114))))))

/-- pianola/decode.fields -/
def F50 (x_0 : Int) (m : Mem) (k : Int → Mem → Prop) : Prop :=
  kif (decide (x_0 ≥ 1)) (P50_2004 x_0 (decide (x_0 ≤ 3)) m (fun x115 m116 => (Keeps m m116 ∧ k x115 m)) (fun m117 => (Keeps m m117 ∧ k 0 m))) (P50_2004 x_0 false m (fun x118 m119 => (Keeps m m119 ∧ k x118 m)) (fun m120 => (Keeps m m120 ∧ k 0 m)))

def G50 (args : List AV) (m : Mem) (k : KV) : Prop := match args with
  | [a0] => kI .i64 a0 fun x_0 => F50 x_0 m (fun x_1000 m' => k (.flat (.int .i64 x_1000)) m')
  | _ => False

def LamP50_2004 (σ : Nat → AV) (m : Mem) (k : KX) : Prop := kI .i64 (σ 0) fun x_0 => kbool (σ 3) fun x_3 => P50_2004 x_0 x_3 m (fun x_2' m' => k .ret (only [2] [(.flat (.int .i64 x_2'))]) m') (fun m' => k .normal (only [] []) m')

def LamP50_4004 (σ : Nat → AV) (m : Mem) (k : KX) : Prop := kI .i64 (σ 0) fun x_0 => kbool (σ 10) fun x_10 => P50_4004 x_0 x_10 m (fun x_2' m' => k .ret (only [2] [(.flat (.int .i64 x_2'))]) m') (fun m' => k .normal (only [] []) m')

def LamP50_6004 (σ : Nat → AV) (m : Mem) (k : KX) : Prop := kI .i64 (σ 0) fun x_0 => kbool (σ 37) fun x_37 => P50_6004 x_0 x_37 m (fun x_2' m' => k .ret (only [2] [(.flat (.int .i64 x_2'))]) m') (fun m' => k .normal (only [] []) m')

def LamP50_8004 (σ : Nat → AV) (m : Mem) (k : KX) : Prop := kI .i64 (σ 0) fun x_0 => kbool (σ 48) fun x_48 => P50_8004 x_0 x_48 m (fun x_2' m' => k .ret (only [2] [(.flat (.int .i64 x_2'))]) m') (fun m' => k .normal (only [] []) m')

def LamP50_10004 (σ : Nat → AV) (m : Mem) (k : KX) : Prop := kI .i64 (σ 0) fun x_0 => kbool (σ 59) fun x_59 => P50_10004 x_0 x_59 m (fun x_2' m' => k .ret (only [2] [(.flat (.int .i64 x_2'))]) m') (fun m' => k .normal (only [] []) m')

def LamP50_12004 (σ : Nat → AV) (m : Mem) (k : KX) : Prop := kI .i64 (σ 0) fun x_0 => kbool (σ 66) fun x_66 => P50_12004 x_0 x_66 m (fun x_2' m' => k .ret (only [2] [(.flat (.int .i64 x_2'))]) m') (fun m' => k .normal (only [] []) m')

def LamP50_14004 (σ : Nat → AV) (m : Mem) (k : KX) : Prop := kI .i64 (σ 0) fun x_0 => kbool (σ 81) fun x_81 => P50_14004 x_0 x_81 m (fun x_2' m' => k .ret (only [2] [(.flat (.int .i64 x_2'))]) m') (fun m' => k .normal (only [] []) m')

def LamP50_16004 (σ : Nat → AV) (m : Mem) (k : KX) : Prop := kI .i64 (σ 0) fun x_0 => kbool (σ 96) fun x_96 => P50_16004 x_0 x_96 m (fun x_2' m' => k .ret (only [2] [(.flat (.int .i64 x_2'))]) m') (fun m' => k .normal (only [] []) m')

def LamP50_18004 (σ : Nat → AV) (m : Mem) (k : KX) : Prop := kI .i64 (σ 0) fun x_0 => kbool (σ 103) fun x_103 => P50_18004 x_0 x_103 m (fun x_2' m' => k .ret (only [2] [(.flat (.int .i64 x_2'))]) m') (fun m' => k .normal (only [] []) m')

def Lam50 : LEnv := ⟨fun a σ m k => match firstReg a with
  | _ => bump False,
  fun id => match id with
  | _ => bump false,
  fun b => match keyC b with
  | some 2004 => true
  | some 4004 => true
  | some 6004 => true
  | some 8004 => true
  | some 10004 => true
  | some 12004 => true
  | some 14004 => true
  | some 16004 => true
  | some 18004 => true
  | _ => bump false,
  fun b σ m k => match keyC b with
  | some 2004 => LamP50_2004 σ m k
  | some 4004 => LamP50_4004 σ m k
  | some 6004 => LamP50_6004 σ m k
  | some 8004 => LamP50_8004 σ m k
  | some 10004 => LamP50_10004 σ m k
  | some 12004 => LamP50_12004 σ m k
  | some 14004 => LamP50_14004 σ m k
  | some 16004 => LamP50_16004 σ m k
  | some 18004 => LamP50_18004 σ m k
  | _ => bump False⟩

def lxp50_18004 : Ex → List Nat := fun e => match e with
  | .ret => [2]
  | .normal => []
  | _ => []

theorem pc50_18004 (x_0 : Int) (x_103 : Bool) (m : Mem) (k : KX) : once Try.prog E50 Lam50 [0, 103] lxp50_18004 (((secsOf (bodyOf Try.f50)).filter Lam50.cut).getD 8 .skip) [(.flat (.int .i64 x_0)), (.flat (.bool x_103))] m k = P50_18004 x_0 x_103 m (fun x_2' m' => k .ret (only [2] [(.flat (.int .i64 x_2'))]) m') (fun m' => k .normal (only [] []) m') := by
  kernel_rfl

theorem pok50_18004 : PieceOK Try.prog E50 Lam50 (((secsOf (bodyOf Try.f50)).filter Lam50.cut).getD 8 .skip) := by
  refine ⟨fun σ => ∃ x_0 x_103, σ 0 = .flat (.int .i64 x_0) ∧ σ 103 = .flat (.bool x_103), [0, 103], lxp50_18004, fun σ m k => ?_⟩
  have e : Lam50.piece (((secsOf (bodyOf Try.f50)).filter Lam50.cut).getD 8 .skip) σ m k = LamP50_18004 σ m k := by kernel_rfl
  rw [e]
  constructor
  · intro h
    unfold LamP50_18004 at h
    obtain ⟨x_0, h0, h⟩ := kI_ok h
    obtain ⟨x_103, h1, h⟩ := kbool_ok h
    refine ⟨⟨x_0, x_103, h0, h1⟩, ?_⟩
    have ev : [0, 103].map σ = [(.flat (.int .i64 x_0)), (.flat (.bool x_103))] := by simp only [List.map_cons, List.map_nil, h0, h1]
    rw [ev, pc50_18004]
    exact h
  · rintro ⟨⟨x_0, x_103, h0, h1⟩, h⟩
    have ev : [0, 103].map σ = [(.flat (.int .i64 x_0)), (.flat (.bool x_103))] := by simp only [List.map_cons, List.map_nil, h0, h1]
    rw [ev, pc50_18004] at h
    unfold LamP50_18004
    try simp only [h0, h1, kI, kbool, kS, kptr, kaggN, kite, decide_true, eq_self]
    exact h

def lxp50_16004 : Ex → List Nat := fun e => match e with
  | .ret => [2]
  | .normal => []
  | _ => []

theorem pc50_16004 (x_0 : Int) (x_96 : Bool) (m : Mem) (k : KX) : once Try.prog E50 Lam50 [0, 96] lxp50_16004 (((secsOf (bodyOf Try.f50)).filter Lam50.cut).getD 7 .skip) [(.flat (.int .i64 x_0)), (.flat (.bool x_96))] m k = P50_16004 x_0 x_96 m (fun x_2' m' => k .ret (only [2] [(.flat (.int .i64 x_2'))]) m') (fun m' => k .normal (only [] []) m') := by
  kernel_rfl

theorem pok50_16004 : PieceOK Try.prog E50 Lam50 (((secsOf (bodyOf Try.f50)).filter Lam50.cut).getD 7 .skip) := by
  refine ⟨fun σ => ∃ x_0 x_96, σ 0 = .flat (.int .i64 x_0) ∧ σ 96 = .flat (.bool x_96), [0, 96], lxp50_16004, fun σ m k => ?_⟩
  have e : Lam50.piece (((secsOf (bodyOf Try.f50)).filter Lam50.cut).getD 7 .skip) σ m k = LamP50_16004 σ m k := by kernel_rfl
  rw [e]
  constructor
  · intro h
    unfold LamP50_16004 at h
    obtain ⟨x_0, h0, h⟩ := kI_ok h
    obtain ⟨x_96, h1, h⟩ := kbool_ok h
    refine ⟨⟨x_0, x_96, h0, h1⟩, ?_⟩
    have ev : [0, 96].map σ = [(.flat (.int .i64 x_0)), (.flat (.bool x_96))] := by simp only [List.map_cons, List.map_nil, h0, h1]
    rw [ev, pc50_16004]
    exact h
  · rintro ⟨⟨x_0, x_96, h0, h1⟩, h⟩
    have ev : [0, 96].map σ = [(.flat (.int .i64 x_0)), (.flat (.bool x_96))] := by simp only [List.map_cons, List.map_nil, h0, h1]
    rw [ev, pc50_16004] at h
    unfold LamP50_16004
    try simp only [h0, h1, kI, kbool, kS, kptr, kaggN, kite, decide_true, eq_self]
    exact h

def lxp50_14004 : Ex → List Nat := fun e => match e with
  | .ret => [2]
  | .normal => []
  | _ => []

theorem pc50_14004 (x_0 : Int) (x_81 : Bool) (m : Mem) (k : KX) : once Try.prog E50 Lam50 [0, 81] lxp50_14004 (((secsOf (bodyOf Try.f50)).filter Lam50.cut).getD 6 .skip) [(.flat (.int .i64 x_0)), (.flat (.bool x_81))] m k = P50_14004 x_0 x_81 m (fun x_2' m' => k .ret (only [2] [(.flat (.int .i64 x_2'))]) m') (fun m' => k .normal (only [] []) m') := by
  kernel_rfl

theorem pok50_14004 : PieceOK Try.prog E50 Lam50 (((secsOf (bodyOf Try.f50)).filter Lam50.cut).getD 6 .skip) := by
  refine ⟨fun σ => ∃ x_0 x_81, σ 0 = .flat (.int .i64 x_0) ∧ σ 81 = .flat (.bool x_81), [0, 81], lxp50_14004, fun σ m k => ?_⟩
  have e : Lam50.piece (((secsOf (bodyOf Try.f50)).filter Lam50.cut).getD 6 .skip) σ m k = LamP50_14004 σ m k := by kernel_rfl
  rw [e]
  constructor
  · intro h
    unfold LamP50_14004 at h
    obtain ⟨x_0, h0, h⟩ := kI_ok h
    obtain ⟨x_81, h1, h⟩ := kbool_ok h
    refine ⟨⟨x_0, x_81, h0, h1⟩, ?_⟩
    have ev : [0, 81].map σ = [(.flat (.int .i64 x_0)), (.flat (.bool x_81))] := by simp only [List.map_cons, List.map_nil, h0, h1]
    rw [ev, pc50_14004]
    exact h
  · rintro ⟨⟨x_0, x_81, h0, h1⟩, h⟩
    have ev : [0, 81].map σ = [(.flat (.int .i64 x_0)), (.flat (.bool x_81))] := by simp only [List.map_cons, List.map_nil, h0, h1]
    rw [ev, pc50_14004] at h
    unfold LamP50_14004
    try simp only [h0, h1, kI, kbool, kS, kptr, kaggN, kite, decide_true, eq_self]
    exact h

def lxp50_12004 : Ex → List Nat := fun e => match e with
  | .ret => [2]
  | .normal => []
  | _ => []

theorem pc50_12004 (x_0 : Int) (x_66 : Bool) (m : Mem) (k : KX) : once Try.prog E50 Lam50 [0, 66] lxp50_12004 (((secsOf (bodyOf Try.f50)).filter Lam50.cut).getD 5 .skip) [(.flat (.int .i64 x_0)), (.flat (.bool x_66))] m k = P50_12004 x_0 x_66 m (fun x_2' m' => k .ret (only [2] [(.flat (.int .i64 x_2'))]) m') (fun m' => k .normal (only [] []) m') := by
  kernel_rfl

theorem pok50_12004 : PieceOK Try.prog E50 Lam50 (((secsOf (bodyOf Try.f50)).filter Lam50.cut).getD 5 .skip) := by
  refine ⟨fun σ => ∃ x_0 x_66, σ 0 = .flat (.int .i64 x_0) ∧ σ 66 = .flat (.bool x_66), [0, 66], lxp50_12004, fun σ m k => ?_⟩
  have e : Lam50.piece (((secsOf (bodyOf Try.f50)).filter Lam50.cut).getD 5 .skip) σ m k = LamP50_12004 σ m k := by kernel_rfl
  rw [e]
  constructor
  · intro h
    unfold LamP50_12004 at h
    obtain ⟨x_0, h0, h⟩ := kI_ok h
    obtain ⟨x_66, h1, h⟩ := kbool_ok h
    refine ⟨⟨x_0, x_66, h0, h1⟩, ?_⟩
    have ev : [0, 66].map σ = [(.flat (.int .i64 x_0)), (.flat (.bool x_66))] := by simp only [List.map_cons, List.map_nil, h0, h1]
    rw [ev, pc50_12004]
    exact h
  · rintro ⟨⟨x_0, x_66, h0, h1⟩, h⟩
    have ev : [0, 66].map σ = [(.flat (.int .i64 x_0)), (.flat (.bool x_66))] := by simp only [List.map_cons, List.map_nil, h0, h1]
    rw [ev, pc50_12004] at h
    unfold LamP50_12004
    try simp only [h0, h1, kI, kbool, kS, kptr, kaggN, kite, decide_true, eq_self]
    exact h

def lxp50_10004 : Ex → List Nat := fun e => match e with
  | .ret => [2]
  | .normal => []
  | _ => []

theorem pc50_10004 (x_0 : Int) (x_59 : Bool) (m : Mem) (k : KX) : once Try.prog E50 Lam50 [0, 59] lxp50_10004 (((secsOf (bodyOf Try.f50)).filter Lam50.cut).getD 4 .skip) [(.flat (.int .i64 x_0)), (.flat (.bool x_59))] m k = P50_10004 x_0 x_59 m (fun x_2' m' => k .ret (only [2] [(.flat (.int .i64 x_2'))]) m') (fun m' => k .normal (only [] []) m') := by
  kernel_rfl

theorem pok50_10004 : PieceOK Try.prog E50 Lam50 (((secsOf (bodyOf Try.f50)).filter Lam50.cut).getD 4 .skip) := by
  refine ⟨fun σ => ∃ x_0 x_59, σ 0 = .flat (.int .i64 x_0) ∧ σ 59 = .flat (.bool x_59), [0, 59], lxp50_10004, fun σ m k => ?_⟩
  have e : Lam50.piece (((secsOf (bodyOf Try.f50)).filter Lam50.cut).getD 4 .skip) σ m k = LamP50_10004 σ m k := by kernel_rfl
  rw [e]
  constructor
  · intro h
    unfold LamP50_10004 at h
    obtain ⟨x_0, h0, h⟩ := kI_ok h
    obtain ⟨x_59, h1, h⟩ := kbool_ok h
    refine ⟨⟨x_0, x_59, h0, h1⟩, ?_⟩
    have ev : [0, 59].map σ = [(.flat (.int .i64 x_0)), (.flat (.bool x_59))] := by simp only [List.map_cons, List.map_nil, h0, h1]
    rw [ev, pc50_10004]
    exact h
  · rintro ⟨⟨x_0, x_59, h0, h1⟩, h⟩
    have ev : [0, 59].map σ = [(.flat (.int .i64 x_0)), (.flat (.bool x_59))] := by simp only [List.map_cons, List.map_nil, h0, h1]
    rw [ev, pc50_10004] at h
    unfold LamP50_10004
    try simp only [h0, h1, kI, kbool, kS, kptr, kaggN, kite, decide_true, eq_self]
    exact h

def lxp50_8004 : Ex → List Nat := fun e => match e with
  | .ret => [2]
  | .normal => []
  | _ => []

theorem pc50_8004 (x_0 : Int) (x_48 : Bool) (m : Mem) (k : KX) : once Try.prog E50 Lam50 [0, 48] lxp50_8004 (((secsOf (bodyOf Try.f50)).filter Lam50.cut).getD 3 .skip) [(.flat (.int .i64 x_0)), (.flat (.bool x_48))] m k = P50_8004 x_0 x_48 m (fun x_2' m' => k .ret (only [2] [(.flat (.int .i64 x_2'))]) m') (fun m' => k .normal (only [] []) m') := by
  kernel_rfl

theorem pok50_8004 : PieceOK Try.prog E50 Lam50 (((secsOf (bodyOf Try.f50)).filter Lam50.cut).getD 3 .skip) := by
  refine ⟨fun σ => ∃ x_0 x_48, σ 0 = .flat (.int .i64 x_0) ∧ σ 48 = .flat (.bool x_48), [0, 48], lxp50_8004, fun σ m k => ?_⟩
  have e : Lam50.piece (((secsOf (bodyOf Try.f50)).filter Lam50.cut).getD 3 .skip) σ m k = LamP50_8004 σ m k := by kernel_rfl
  rw [e]
  constructor
  · intro h
    unfold LamP50_8004 at h
    obtain ⟨x_0, h0, h⟩ := kI_ok h
    obtain ⟨x_48, h1, h⟩ := kbool_ok h
    refine ⟨⟨x_0, x_48, h0, h1⟩, ?_⟩
    have ev : [0, 48].map σ = [(.flat (.int .i64 x_0)), (.flat (.bool x_48))] := by simp only [List.map_cons, List.map_nil, h0, h1]
    rw [ev, pc50_8004]
    exact h
  · rintro ⟨⟨x_0, x_48, h0, h1⟩, h⟩
    have ev : [0, 48].map σ = [(.flat (.int .i64 x_0)), (.flat (.bool x_48))] := by simp only [List.map_cons, List.map_nil, h0, h1]
    rw [ev, pc50_8004] at h
    unfold LamP50_8004
    try simp only [h0, h1, kI, kbool, kS, kptr, kaggN, kite, decide_true, eq_self]
    exact h

def lxp50_6004 : Ex → List Nat := fun e => match e with
  | .ret => [2]
  | .normal => []
  | _ => []

theorem pc50_6004 (x_0 : Int) (x_37 : Bool) (m : Mem) (k : KX) : once Try.prog E50 Lam50 [0, 37] lxp50_6004 (((secsOf (bodyOf Try.f50)).filter Lam50.cut).getD 2 .skip) [(.flat (.int .i64 x_0)), (.flat (.bool x_37))] m k = P50_6004 x_0 x_37 m (fun x_2' m' => k .ret (only [2] [(.flat (.int .i64 x_2'))]) m') (fun m' => k .normal (only [] []) m') := by
  kernel_rfl

theorem pok50_6004 : PieceOK Try.prog E50 Lam50 (((secsOf (bodyOf Try.f50)).filter Lam50.cut).getD 2 .skip) := by
  refine ⟨fun σ => ∃ x_0 x_37, σ 0 = .flat (.int .i64 x_0) ∧ σ 37 = .flat (.bool x_37), [0, 37], lxp50_6004, fun σ m k => ?_⟩
  have e : Lam50.piece (((secsOf (bodyOf Try.f50)).filter Lam50.cut).getD 2 .skip) σ m k = LamP50_6004 σ m k := by kernel_rfl
  rw [e]
  constructor
  · intro h
    unfold LamP50_6004 at h
    obtain ⟨x_0, h0, h⟩ := kI_ok h
    obtain ⟨x_37, h1, h⟩ := kbool_ok h
    refine ⟨⟨x_0, x_37, h0, h1⟩, ?_⟩
    have ev : [0, 37].map σ = [(.flat (.int .i64 x_0)), (.flat (.bool x_37))] := by simp only [List.map_cons, List.map_nil, h0, h1]
    rw [ev, pc50_6004]
    exact h
  · rintro ⟨⟨x_0, x_37, h0, h1⟩, h⟩
    have ev : [0, 37].map σ = [(.flat (.int .i64 x_0)), (.flat (.bool x_37))] := by simp only [List.map_cons, List.map_nil, h0, h1]
    rw [ev, pc50_6004] at h
    unfold LamP50_6004
    try simp only [h0, h1, kI, kbool, kS, kptr, kaggN, kite, decide_true, eq_self]
    exact h

def lxp50_4004 : Ex → List Nat := fun e => match e with
  | .ret => [2]
  | .normal => []
  | _ => []

theorem pc50_4004 (x_0 : Int) (x_10 : Bool) (m : Mem) (k : KX) : once Try.prog E50 Lam50 [0, 10] lxp50_4004 (((secsOf (bodyOf Try.f50)).filter Lam50.cut).getD 1 .skip) [(.flat (.int .i64 x_0)), (.flat (.bool x_10))] m k = P50_4004 x_0 x_10 m (fun x_2' m' => k .ret (only [2] [(.flat (.int .i64 x_2'))]) m') (fun m' => k .normal (only [] []) m') := by
  kernel_rfl

theorem pok50_4004 : PieceOK Try.prog E50 Lam50 (((secsOf (bodyOf Try.f50)).filter Lam50.cut).getD 1 .skip) := by
  refine ⟨fun σ => ∃ x_0 x_10, σ 0 = .flat (.int .i64 x_0) ∧ σ 10 = .flat (.bool x_10), [0, 10], lxp50_4004, fun σ m k => ?_⟩
  have e : Lam50.piece (((secsOf (bodyOf Try.f50)).filter Lam50.cut).getD 1 .skip) σ m k = LamP50_4004 σ m k := by kernel_rfl
  rw [e]
  constructor
  · intro h
    unfold LamP50_4004 at h
    obtain ⟨x_0, h0, h⟩ := kI_ok h
    obtain ⟨x_10, h1, h⟩ := kbool_ok h
    refine ⟨⟨x_0, x_10, h0, h1⟩, ?_⟩
    have ev : [0, 10].map σ = [(.flat (.int .i64 x_0)), (.flat (.bool x_10))] := by simp only [List.map_cons, List.map_nil, h0, h1]
    rw [ev, pc50_4004]
    exact h
  · rintro ⟨⟨x_0, x_10, h0, h1⟩, h⟩
    have ev : [0, 10].map σ = [(.flat (.int .i64 x_0)), (.flat (.bool x_10))] := by simp only [List.map_cons, List.map_nil, h0, h1]
    rw [ev, pc50_4004] at h
    unfold LamP50_4004
    try simp only [h0, h1, kI, kbool, kS, kptr, kaggN, kite, decide_true, eq_self]
    exact h

def lxp50_2004 : Ex → List Nat := fun e => match e with
  | .ret => [2]
  | .normal => []
  | _ => []

theorem pc50_2004 (x_0 : Int) (x_3 : Bool) (m : Mem) (k : KX) : once Try.prog E50 Lam50 [0, 3] lxp50_2004 (((secsOf (bodyOf Try.f50)).filter Lam50.cut).getD 0 .skip) [(.flat (.int .i64 x_0)), (.flat (.bool x_3))] m k = P50_2004 x_0 x_3 m (fun x_2' m' => k .ret (only [2] [(.flat (.int .i64 x_2'))]) m') (fun m' => k .normal (only [] []) m') := by
  kernel_rfl

theorem pok50_2004 : PieceOK Try.prog E50 Lam50 (((secsOf (bodyOf Try.f50)).filter Lam50.cut).getD 0 .skip) := by
  refine ⟨fun σ => ∃ x_0 x_3, σ 0 = .flat (.int .i64 x_0) ∧ σ 3 = .flat (.bool x_3), [0, 3], lxp50_2004, fun σ m k => ?_⟩
  have e : Lam50.piece (((secsOf (bodyOf Try.f50)).filter Lam50.cut).getD 0 .skip) σ m k = LamP50_2004 σ m k := by kernel_rfl
  rw [e]
  constructor
  · intro h
    unfold LamP50_2004 at h
    obtain ⟨x_0, h0, h⟩ := kI_ok h
    obtain ⟨x_3, h1, h⟩ := kbool_ok h
    refine ⟨⟨x_0, x_3, h0, h1⟩, ?_⟩
    have ev : [0, 3].map σ = [(.flat (.int .i64 x_0)), (.flat (.bool x_3))] := by simp only [List.map_cons, List.map_nil, h0, h1]
    rw [ev, pc50_2004]
    exact h
  · rintro ⟨⟨x_0, x_3, h0, h1⟩, h⟩
    have ev : [0, 3].map σ = [(.flat (.int .i64 x_0)), (.flat (.bool x_3))] := by simp only [List.map_cons, List.map_nil, h0, h1]
    rw [ev, pc50_2004] at h
    unfold LamP50_2004
    try simp only [h0, h1, kI, kbool, kS, kptr, kaggN, kite, decide_true, eq_self]
    exact h

theorem eqn50 (x_0 : Int) (m : Mem) (k : KV) : bodyK Try.prog E50 Lam50 Try.f50 true [(.flat (.int .i64 x_0))] m k = F50 x_0 m (fun x_1000 m' => k (.flat (.int .i64 x_1000)) m') := by
  kernel_rfl

theorem fs50 (w0 : World) : FS Try.prog w0 50 G50 := by
  refine (fs_body (Γ := E50) (sound_env (l := []) w0 (by
    intro p hp
    cases hp)) (by kernel_rfl) Try.func50 (Λ := Lam50) (c := (bodyOf Try.f50)) (by kernel_rfl) Try.call50 (by kernel_rfl) (LS_of (bodyOf Try.f50) 0 (by kernel_rfl) (fun i hi => absurd hi (Nat.not_lt_zero i)) 9 (by kernel_rfl) (by
    intro i hi
    match i, hi with
    | 0, _ => exact pok50_2004
    | 1, _ => exact pok50_4004
    | 2, _ => exact pok50_6004
    | 3, _ => exact pok50_8004
    | 4, _ => exact pok50_10004
    | 5, _ => exact pok50_12004
    | 6, _ => exact pok50_14004
    | 7, _ => exact pok50_16004
    | 8, _ => exact pok50_18004
    | i + 9, hi => omega)) true (np := 1) (Nat.le_of_ble_eq_true (by kernel_rfl))).imp fun args => ?_
  by_cases hl : args.length = 1
  rotate_left
  · exact .inr fun m k hk => by
      unfold G50 at hk
      split at hk
      · exact hl rfl
      · exact hk
  obtain ⟨a0, rfl⟩ : ∃ a0, args = [a0] := len_list1 hl
  rcases kI_or .i64 a0 with ⟨x_0, rfl⟩ | h
  rotate_left
  · exact .inr fun m k hk => h _ (by simpa only [G50, kI, kbool, kS, kptr, kaggN, kite, decide_true, eq_self] using hk)
  exact .inl fun m k => propext ⟨fun h => ⟨rfl, by rw [eqn50]; simpa only [G50, kI, kbool, kS, kptr, kaggN, kite, decide_true, eq_self] using h⟩, fun h => by have h := h.2; rw [eqn50] at h; simpa only [G50, kI, kbool, kS, kptr, kaggN, kite, decide_true, eq_self] using h⟩

def E39 : Env := envOf [(50, G50)]

def P39_11105 (x_1 : Int) (b_4 o_4 : Nat) (b_5 o_5 : Nat) (x_6 : Int) (m : Mem) (kr : Mem → Prop) : Prop :=
  kif ((bits .and .i64 x_6 16) != 0) (stC m b_5 (o_5 + 5) (.flat (.int .u32 (bits .and .u32 x_1 65535))) fun m12 => ldG 6 m12 b_5 o_5 fun c14 => stG 6 m12 b_4 o_4 c14 fun m15 => kr  m15) (kif ((bits .and .i64 x_6 32) != 0) (stC m b_5 (o_5 + 5) (.flat (.int .u32 (bits .and .u32 x_1 67108863))) fun m13 => ldG 6 m13 b_5 o_5 fun c16 => stG 6 m13 b_4 o_4 c16 fun m17 => kr  m17) (ldG 6 m b_5 o_5 fun c18 => stG 6 m b_4 o_4 c18 fun m19 => kr  m19))

def P39_9103 (x_1 : Int) (b_4 o_4 : Nat) (b_5 o_5 : Nat) (x_6 : Int) (m : Mem) (kr : Mem → Prop) : Prop :=
  kif ((bits .and .i64 x_6 8) != 0) (stC m b_5 (o_5 + 4) (.flat (.int .i64 (IntKind.wrap .i64 (bits .and .u32 (x_1.fdiv 64) 31)))) fun m11 => P39_11105 x_1 b_4 o_4 b_5 o_5 x_6 m11 (fun m20 => kr  m20)) (P39_11105 x_1 b_4 o_4 b_5 o_5 x_6 m (fun m21 => kr  m21))

def P39_7103 (x_1 : Int) (b_4 o_4 : Nat) (b_5 o_5 : Nat) (x_6 : Int) (m : Mem) (kr : Mem → Prop) : Prop :=
  kif ((bits .and .i64 x_6 4) != 0) (stC m b_5 (o_5 + 3) (.flat (.int .i64 (IntKind.wrap .i64 (bits .and .u32 (x_1.fdiv 2048) 31)))) fun m10 => P39_9103 x_1 b_4 o_4 b_5 o_5 x_6 m10 (fun m22 => kr  m22)) (P39_9103 x_1 b_4 o_4 b_5 o_5 x_6 m (fun m23 => kr  m23))

def P39_5103 (x_1 : Int) (b_4 o_4 : Nat) (b_5 o_5 : Nat) (x_6 : Int) (m : Mem) (kr : Mem → Prop) : Prop :=
  kif ((bits .and .i64 x_6 2) != 0) (stC m b_5 (o_5 + 2) (.flat (.int .i64 (IntKind.wrap .i64 (bits .and .u32 (x_1.fdiv 65536) 31)))) fun m9 => P39_7103 x_1 b_4 o_4 b_5 o_5 x_6 m9 (fun m24 => kr  m24)) (P39_7103 x_1 b_4 o_4 b_5 o_5 x_6 m (fun m25 => kr  m25))

/-- pianola/decode.with -/
def F39 (x_0 : Int) (x_1 : Int) (m : Mem) (k : (Nat → AV) → Mem → Prop) : Prop :=
  newK m ⟨6, Z6, 27, false⟩ fun b2 m1 => newK m1 ⟨6, Z6, 27, false⟩ fun b4 m3 => stG 6 m3 b4 0 (upd (Z6) 0 (.flat (.int .i64 x_0))) fun m5 => F50 x_0 m5 fun x6 m7 => kif ((bits .and .i64 x6 1) != 0) (stC m7 b4 1 (.flat (.int .i64 (IntKind.wrap .i64 (bits .and .u32 (x_1.fdiv 2097152) 31)))) fun m8 => P39_5103 x_1 b2 0 b4 0 x6 m8 (fun m26 => ldG 6 m26 b2 0 fun c28 => (Keeps m m26 ∧ InDomG 6 m c28 ∧ k c28 m))) (P39_5103 x_1 b2 0 b4 0 x6 m7 (fun m27 => ldG 6 m27 b2 0 fun c29 => (Keeps m m27 ∧ InDomG 6 m c29 ∧ k c29 m)))

def G39 (args : List AV) (m : Mem) (k : KV) : Prop := match args with
  | [a0, a1] => kI .i64 a0 fun x_0 => kI .u32 a1 fun x_1 => F39 x_0 x_1 m (fun c_1000 m' => k (.agg 6 c_1000) m')
  | _ => False

def LamP39_5103 (σ : Nat → AV) (m : Mem) (k : KX) : Prop := kI .u32 (σ 1) fun x_1 => kptr (σ 4) fun b_4 o_4 => kptr (σ 5) fun b_5 o_5 => kI .i64 (σ 6) fun x_6 => P39_5103 x_1 b_4 o_4 b_5 o_5 x_6 m (fun m' => k .ret (only [4] [(.ptr b_4 o_4)]) m')

def LamP39_7103 (σ : Nat → AV) (m : Mem) (k : KX) : Prop := kI .u32 (σ 1) fun x_1 => kptr (σ 4) fun b_4 o_4 => kptr (σ 5) fun b_5 o_5 => kI .i64 (σ 6) fun x_6 => P39_7103 x_1 b_4 o_4 b_5 o_5 x_6 m (fun m' => k .ret (only [4] [(.ptr b_4 o_4)]) m')

def LamP39_9103 (σ : Nat → AV) (m : Mem) (k : KX) : Prop := kI .u32 (σ 1) fun x_1 => kptr (σ 4) fun b_4 o_4 => kptr (σ 5) fun b_5 o_5 => kI .i64 (σ 6) fun x_6 => P39_9103 x_1 b_4 o_4 b_5 o_5 x_6 m (fun m' => k .ret (only [4] [(.ptr b_4 o_4)]) m')

def LamP39_11105 (σ : Nat → AV) (m : Mem) (k : KX) : Prop := kI .u32 (σ 1) fun x_1 => kptr (σ 4) fun b_4 o_4 => kptr (σ 5) fun b_5 o_5 => kI .i64 (σ 6) fun x_6 => P39_11105 x_1 b_4 o_4 b_5 o_5 x_6 m (fun m' => k .ret (only [4] [(.ptr b_4 o_4)]) m')

def Lam39 : LEnv := ⟨fun a σ m k => match firstReg a with
  | _ => bump False,
  fun id => match id with
  | _ => bump false,
  fun b => match keyC b with
  | some 5103 => true
  | some 7103 => true
  | some 9103 => true
  | some 11105 => true
  | _ => bump false,
  fun b σ m k => match keyC b with
  | some 5103 => LamP39_5103 σ m k
  | some 7103 => LamP39_7103 σ m k
  | some 9103 => LamP39_9103 σ m k
  | some 11105 => LamP39_11105 σ m k
  | _ => bump False⟩

def lxp39_11105 : Ex → List Nat := fun e => match e with
  | .ret => [4]
  | _ => []

theorem pc39_11105 (x_1 : Int) (b_4 o_4 : Nat) (b_5 o_5 : Nat) (x_6 : Int) (m : Mem) (k : KX) : once Try.prog E39 Lam39 [1, 4, 5, 6] lxp39_11105 (((secsOf (bodyOf Try.f39)).filter Lam39.cut).getD 3 .skip) [(.flat (.int .u32 x_1)), (.ptr b_4 o_4), (.ptr b_5 o_5), (.flat (.int .i64 x_6))] m k = P39_11105 x_1 b_4 o_4 b_5 o_5 x_6 m (fun m' => k .ret (only [4] [(.ptr b_4 o_4)]) m') := by
  kernel_rfl

theorem pok39_11105 : PieceOK Try.prog E39 Lam39 (((secsOf (bodyOf Try.f39)).filter Lam39.cut).getD 3 .skip) := by
  refine ⟨fun σ => ∃ x_1 b_4 o_4 b_5 o_5 x_6, σ 1 = .flat (.int .u32 x_1) ∧ σ 4 = .ptr b_4 o_4 ∧ σ 5 = .ptr b_5 o_5 ∧ σ 6 = .flat (.int .i64 x_6), [1, 4, 5, 6], lxp39_11105, fun σ m k => ?_⟩
  have e : Lam39.piece (((secsOf (bodyOf Try.f39)).filter Lam39.cut).getD 3 .skip) σ m k = LamP39_11105 σ m k := by kernel_rfl
  rw [e]
  constructor
  · intro h
    unfold LamP39_11105 at h
    obtain ⟨x_1, h0, h⟩ := kI_ok h
    obtain ⟨b_4, o_4, h1, h⟩ := kptr_ok h
    obtain ⟨b_5, o_5, h2, h⟩ := kptr_ok h
    obtain ⟨x_6, h3, h⟩ := kI_ok h
    refine ⟨⟨x_1, b_4, o_4, b_5, o_5, x_6, h0, h1, h2, h3⟩, ?_⟩
    have ev : [1, 4, 5, 6].map σ = [(.flat (.int .u32 x_1)), (.ptr b_4 o_4), (.ptr b_5 o_5), (.flat (.int .i64 x_6))] := by simp only [List.map_cons, List.map_nil, h0, h1, h2, h3]
    rw [ev, pc39_11105]
    exact h
  · rintro ⟨⟨x_1, b_4, o_4, b_5, o_5, x_6, h0, h1, h2, h3⟩, h⟩
    have ev : [1, 4, 5, 6].map σ = [(.flat (.int .u32 x_1)), (.ptr b_4 o_4), (.ptr b_5 o_5), (.flat (.int .i64 x_6))] := by simp only [List.map_cons, List.map_nil, h0, h1, h2, h3]
    rw [ev, pc39_11105] at h
    unfold LamP39_11105
    try simp only [h0, h1, h2, h3, kI, kbool, kS, kptr, kaggN, kite, decide_true, eq_self]
    exact h

def lxp39_9103 : Ex → List Nat := fun e => match e with
  | .ret => [4]
  | _ => []

theorem pc39_9103 (x_1 : Int) (b_4 o_4 : Nat) (b_5 o_5 : Nat) (x_6 : Int) (m : Mem) (k : KX) : once Try.prog E39 Lam39 [1, 4, 5, 6] lxp39_9103 (((secsOf (bodyOf Try.f39)).filter Lam39.cut).getD 2 .skip) [(.flat (.int .u32 x_1)), (.ptr b_4 o_4), (.ptr b_5 o_5), (.flat (.int .i64 x_6))] m k = P39_9103 x_1 b_4 o_4 b_5 o_5 x_6 m (fun m' => k .ret (only [4] [(.ptr b_4 o_4)]) m') := by
  kernel_rfl

theorem pok39_9103 : PieceOK Try.prog E39 Lam39 (((secsOf (bodyOf Try.f39)).filter Lam39.cut).getD 2 .skip) := by
  refine ⟨fun σ => ∃ x_1 b_4 o_4 b_5 o_5 x_6, σ 1 = .flat (.int .u32 x_1) ∧ σ 4 = .ptr b_4 o_4 ∧ σ 5 = .ptr b_5 o_5 ∧ σ 6 = .flat (.int .i64 x_6), [1, 4, 5, 6], lxp39_9103, fun σ m k => ?_⟩
  have e : Lam39.piece (((secsOf (bodyOf Try.f39)).filter Lam39.cut).getD 2 .skip) σ m k = LamP39_9103 σ m k := by kernel_rfl
  rw [e]
  constructor
  · intro h
    unfold LamP39_9103 at h
    obtain ⟨x_1, h0, h⟩ := kI_ok h
    obtain ⟨b_4, o_4, h1, h⟩ := kptr_ok h
    obtain ⟨b_5, o_5, h2, h⟩ := kptr_ok h
    obtain ⟨x_6, h3, h⟩ := kI_ok h
    refine ⟨⟨x_1, b_4, o_4, b_5, o_5, x_6, h0, h1, h2, h3⟩, ?_⟩
    have ev : [1, 4, 5, 6].map σ = [(.flat (.int .u32 x_1)), (.ptr b_4 o_4), (.ptr b_5 o_5), (.flat (.int .i64 x_6))] := by simp only [List.map_cons, List.map_nil, h0, h1, h2, h3]
    rw [ev, pc39_9103]
    exact h
  · rintro ⟨⟨x_1, b_4, o_4, b_5, o_5, x_6, h0, h1, h2, h3⟩, h⟩
    have ev : [1, 4, 5, 6].map σ = [(.flat (.int .u32 x_1)), (.ptr b_4 o_4), (.ptr b_5 o_5), (.flat (.int .i64 x_6))] := by simp only [List.map_cons, List.map_nil, h0, h1, h2, h3]
    rw [ev, pc39_9103] at h
    unfold LamP39_9103
    try simp only [h0, h1, h2, h3, kI, kbool, kS, kptr, kaggN, kite, decide_true, eq_self]
    exact h

def lxp39_7103 : Ex → List Nat := fun e => match e with
  | .ret => [4]
  | _ => []

theorem pc39_7103 (x_1 : Int) (b_4 o_4 : Nat) (b_5 o_5 : Nat) (x_6 : Int) (m : Mem) (k : KX) : once Try.prog E39 Lam39 [1, 4, 5, 6] lxp39_7103 (((secsOf (bodyOf Try.f39)).filter Lam39.cut).getD 1 .skip) [(.flat (.int .u32 x_1)), (.ptr b_4 o_4), (.ptr b_5 o_5), (.flat (.int .i64 x_6))] m k = P39_7103 x_1 b_4 o_4 b_5 o_5 x_6 m (fun m' => k .ret (only [4] [(.ptr b_4 o_4)]) m') := by
  kernel_rfl

theorem pok39_7103 : PieceOK Try.prog E39 Lam39 (((secsOf (bodyOf Try.f39)).filter Lam39.cut).getD 1 .skip) := by
  refine ⟨fun σ => ∃ x_1 b_4 o_4 b_5 o_5 x_6, σ 1 = .flat (.int .u32 x_1) ∧ σ 4 = .ptr b_4 o_4 ∧ σ 5 = .ptr b_5 o_5 ∧ σ 6 = .flat (.int .i64 x_6), [1, 4, 5, 6], lxp39_7103, fun σ m k => ?_⟩
  have e : Lam39.piece (((secsOf (bodyOf Try.f39)).filter Lam39.cut).getD 1 .skip) σ m k = LamP39_7103 σ m k := by kernel_rfl
  rw [e]
  constructor
  · intro h
    unfold LamP39_7103 at h
    obtain ⟨x_1, h0, h⟩ := kI_ok h
    obtain ⟨b_4, o_4, h1, h⟩ := kptr_ok h
    obtain ⟨b_5, o_5, h2, h⟩ := kptr_ok h
    obtain ⟨x_6, h3, h⟩ := kI_ok h
    refine ⟨⟨x_1, b_4, o_4, b_5, o_5, x_6, h0, h1, h2, h3⟩, ?_⟩
    have ev : [1, 4, 5, 6].map σ = [(.flat (.int .u32 x_1)), (.ptr b_4 o_4), (.ptr b_5 o_5), (.flat (.int .i64 x_6))] := by simp only [List.map_cons, List.map_nil, h0, h1, h2, h3]
    rw [ev, pc39_7103]
    exact h
  · rintro ⟨⟨x_1, b_4, o_4, b_5, o_5, x_6, h0, h1, h2, h3⟩, h⟩
    have ev : [1, 4, 5, 6].map σ = [(.flat (.int .u32 x_1)), (.ptr b_4 o_4), (.ptr b_5 o_5), (.flat (.int .i64 x_6))] := by simp only [List.map_cons, List.map_nil, h0, h1, h2, h3]
    rw [ev, pc39_7103] at h
    unfold LamP39_7103
    try simp only [h0, h1, h2, h3, kI, kbool, kS, kptr, kaggN, kite, decide_true, eq_self]
    exact h

def lxp39_5103 : Ex → List Nat := fun e => match e with
  | .ret => [4]
  | _ => []

theorem pc39_5103 (x_1 : Int) (b_4 o_4 : Nat) (b_5 o_5 : Nat) (x_6 : Int) (m : Mem) (k : KX) : once Try.prog E39 Lam39 [1, 4, 5, 6] lxp39_5103 (((secsOf (bodyOf Try.f39)).filter Lam39.cut).getD 0 .skip) [(.flat (.int .u32 x_1)), (.ptr b_4 o_4), (.ptr b_5 o_5), (.flat (.int .i64 x_6))] m k = P39_5103 x_1 b_4 o_4 b_5 o_5 x_6 m (fun m' => k .ret (only [4] [(.ptr b_4 o_4)]) m') := by
  kernel_rfl

theorem pok39_5103 : PieceOK Try.prog E39 Lam39 (((secsOf (bodyOf Try.f39)).filter Lam39.cut).getD 0 .skip) := by
  refine ⟨fun σ => ∃ x_1 b_4 o_4 b_5 o_5 x_6, σ 1 = .flat (.int .u32 x_1) ∧ σ 4 = .ptr b_4 o_4 ∧ σ 5 = .ptr b_5 o_5 ∧ σ 6 = .flat (.int .i64 x_6), [1, 4, 5, 6], lxp39_5103, fun σ m k => ?_⟩
  have e : Lam39.piece (((secsOf (bodyOf Try.f39)).filter Lam39.cut).getD 0 .skip) σ m k = LamP39_5103 σ m k := by kernel_rfl
  rw [e]
  constructor
  · intro h
    unfold LamP39_5103 at h
    obtain ⟨x_1, h0, h⟩ := kI_ok h
    obtain ⟨b_4, o_4, h1, h⟩ := kptr_ok h
    obtain ⟨b_5, o_5, h2, h⟩ := kptr_ok h
    obtain ⟨x_6, h3, h⟩ := kI_ok h
    refine ⟨⟨x_1, b_4, o_4, b_5, o_5, x_6, h0, h1, h2, h3⟩, ?_⟩
    have ev : [1, 4, 5, 6].map σ = [(.flat (.int .u32 x_1)), (.ptr b_4 o_4), (.ptr b_5 o_5), (.flat (.int .i64 x_6))] := by simp only [List.map_cons, List.map_nil, h0, h1, h2, h3]
    rw [ev, pc39_5103]
    exact h
  · rintro ⟨⟨x_1, b_4, o_4, b_5, o_5, x_6, h0, h1, h2, h3⟩, h⟩
    have ev : [1, 4, 5, 6].map σ = [(.flat (.int .u32 x_1)), (.ptr b_4 o_4), (.ptr b_5 o_5), (.flat (.int .i64 x_6))] := by simp only [List.map_cons, List.map_nil, h0, h1, h2, h3]
    rw [ev, pc39_5103] at h
    unfold LamP39_5103
    try simp only [h0, h1, h2, h3, kI, kbool, kS, kptr, kaggN, kite, decide_true, eq_self]
    exact h

theorem eqn39 (x_0 : Int) (x_1 : Int) (m : Mem) (k : KV) : bodyK Try.prog E39 Lam39 Try.f39 true [(.flat (.int .i64 x_0)), (.flat (.int .u32 x_1))] m k = F39 x_0 x_1 m (fun c_1000 m' => k (.agg 6 c_1000) m') := by
  kernel_rfl

theorem fs39 (w0 : World) : FS Try.prog w0 39 G39 := by
  refine (fs_body (Γ := E39) (sound_env (l := [(50, G50)]) w0 (by
    intro p hp
    simp only [List.mem_cons, List.not_mem_nil, or_false] at hp
    rcases hp with rfl
    · exact fs50 w0)) (by kernel_rfl) Try.func39 (Λ := Lam39) (c := (bodyOf Try.f39)) (by kernel_rfl) Try.call39 (by kernel_rfl) (LS_of (bodyOf Try.f39) 0 (by kernel_rfl) (fun i hi => absurd hi (Nat.not_lt_zero i)) 4 (by kernel_rfl) (by
    intro i hi
    match i, hi with
    | 0, _ => exact pok39_5103
    | 1, _ => exact pok39_7103
    | 2, _ => exact pok39_9103
    | 3, _ => exact pok39_11105
    | i + 4, hi => omega)) true (np := 2) (Nat.le_of_ble_eq_true (by kernel_rfl))).imp fun args => ?_
  by_cases hl : args.length = 2
  rotate_left
  · exact .inr fun m k hk => by
      unfold G39 at hk
      split at hk
      · exact hl rfl
      · exact hk
  obtain ⟨a0, a1, rfl⟩ : ∃ a0 a1, args = [a0, a1] := len_list2 hl
  rcases kI_or .i64 a0 with ⟨x_0, rfl⟩ | h
  rotate_left
  · exact .inr fun m k hk => h _ (by simpa only [G39, kI, kbool, kS, kptr, kaggN, kite, decide_true, eq_self] using hk)
  rcases kI_or .u32 a1 with ⟨x_1, rfl⟩ | h
  rotate_left
  · exact .inr fun m k hk => h _ (by simpa only [G39, kI, kbool, kS, kptr, kaggN, kite, decide_true, eq_self] using hk)
  exact .inl fun m k => propext ⟨fun h => ⟨rfl, by rw [eqn39]; simpa only [G39, kI, kbool, kS, kptr, kaggN, kite, decide_true, eq_self] using h⟩, fun h => by have h := h.2; rw [eqn39] at h; simpa only [G39, kI, kbool, kS, kptr, kaggN, kite, decide_true, eq_self] using h⟩

def E40 : Env := envOf []

/-- pianola/decode.put -/
def F40 (c_0 : Nat → AV) (m : Mem) (k : Int → Mem → Prop) : Prop :=
  newK m ⟨6, c_0, 27, false⟩ fun b2 m1 => ldI .i64 m1 b2 1 fun x3 => ldI .i64 m1 b2 2 fun x4 => ldI .i64 m1 b2 3 fun x5 => ldI .i64 m1 b2 4 fun x6 => ldI .u32 m1 b2 5 fun x7 => (Keeps m m1 ∧ k (bits .or .u32 (bits .or .u32 (bits .or .u32 (bits .or .u32 (IntKind.wrap .u32 ((IntKind.wrap .u32 x3) * 2097152)) (IntKind.wrap .u32 ((IntKind.wrap .u32 x4) * 65536))) (IntKind.wrap .u32 ((IntKind.wrap .u32 x5) * 2048))) (IntKind.wrap .u32 ((IntKind.wrap .u32 x6) * 64))) x7) m)

def G40 (args : List AV) (m : Mem) (k : KV) : Prop := match args with
  | [a0] => kaggN 6 a0 fun c_0 => F40 c_0 m (fun x_1000 m' => k (.flat (.int .u32 x_1000)) m')
  | _ => False

def Lam40 : LEnv := ⟨fun a σ m k => match firstReg a with
  | _ => bump False,
  fun id => match id with
  | _ => bump false,
  fun b => match keyC b with
  | _ => bump false,
  fun b σ m k => match keyC b with
  | _ => bump False⟩

theorem eqn40 (c_0 : Nat → AV) (m : Mem) (k : KV) : bodyK Try.prog E40 Lam40 Try.f40 true [(.agg 6 c_0)] m k = F40 c_0 m (fun x_1000 m' => k (.flat (.int .u32 x_1000)) m') := by
  kernel_rfl

theorem fs40 (w0 : World) : FS Try.prog w0 40 G40 := by
  refine (fs_body (Γ := E40) (sound_env (l := []) w0 (by
    intro p hp
    cases hp)) (by kernel_rfl) Try.func40 (Λ := Lam40) (c := (bodyOf Try.f40)) (by kernel_rfl) Try.call40 (by kernel_rfl) (LS_of (bodyOf Try.f40) 0 (by kernel_rfl) (fun i hi => absurd hi (Nat.not_lt_zero i)) 0 (by kernel_rfl) (fun i hi => absurd hi (Nat.not_lt_zero i))) true (np := 1) (Nat.le_of_ble_eq_true (by kernel_rfl))).imp fun args => ?_
  by_cases hl : args.length = 1
  rotate_left
  · exact .inr fun m k hk => by
      unfold G40 at hk
      split at hk
      · exact hl rfl
      · exact hk
  obtain ⟨a0, rfl⟩ : ∃ a0, args = [a0] := len_list1 hl
  rcases kaggN_or 6 a0 with ⟨c_0, rfl⟩ | h
  rotate_left
  · exact .inr fun m k hk => h _ (by simpa only [G40, kI, kbool, kS, kptr, kaggN, kite, decide_true, eq_self] using hk)
  exact .inl fun m k => propext ⟨fun h => ⟨rfl, by rw [eqn40]; simpa only [G40, kI, kbool, kS, kptr, kaggN, kite, decide_true, eq_self] using h⟩, fun h => by have h := h.2; rw [eqn40] at h; simpa only [G40, kI, kbool, kS, kptr, kaggN, kite, decide_true, eq_self] using h⟩

def E21 : Env := envOf [(39, G39), (40, G40)]

def R21_2 (b_1 o_1 : Nat) (v_13 : AV) (x_14 : Int) (x_15 : Int) (m : Mem) (kn : Int → Mem → Prop) (k0 : Mem → Prop) (kr : Bool → Mem → Prop) : Prop :=
  kif (decide (x_15 < x_14)) (ksl v_13 fun b9 o10 l11 p12 => kif (decide (0 ≤ x_15) && decide (x_15 < l11)) (ldI .i64 m b9 (o10 + (x_15).toNat * 1) fun x13 => kif (decide (x13 < 0)) (kr false m) (kif (decide (x13 > 31)) (kr false m) (kn (IntKind.wrap .i64 (x_15 + 1)) m))) False) (k0  m)

def L21_2 (b_1 o_1 : Nat) (v_13 : AV) (x_14 : Int) : Nat → Int → Mem → (Mem → Prop) → (Bool → Mem → Prop) → Prop
  | 0, _,  _, _, _ => bump False
  | N + 1, x_15,  m, k0, kr => R21_2 b_1 o_1 v_13 x_14 x_15 m (fun x_15' m' => L21_2 b_1 o_1 v_13 x_14 N x_15' m' k0 kr) k0 kr

/-- pianola/decode.Right -/
def F21 (c_0 : Nat → AV) (m : Mem) (k : Bool → Mem → Prop) : Prop :=
  newK m ⟨6, c_0, 27, false⟩ fun b2 m1 => ldI .i64 m1 b2 1 fun x3 => ldI .i64 m1 b2 2 fun x4 => ldI .i64 m1 b2 3 fun x5 => ldI .i64 m1 b2 4 fun x6 => newK m1 ⟨4, upd (upd (upd (upd (lget [(.flat (.int .i64 0)), (.flat (.int .i64 0)), (.flat (.int .i64 0)), (.flat (.int .i64 0))]) 0 (.flat (.int .i64 x3))) 1 (.flat (.int .i64 x4))) 2 (.flat (.int .i64 x5))) 3 (.flat (.int .i64 x6)), 3, false⟩ fun b8 m7 => ∃ N17, L21_2 b2 0 (.sl b8 0 4 (.ex 4)) 4 N17 0 m7 (fun m14 => ∃ Fr18 : Nat → Prop, Fr18 b2 ∧ (ldI .i64 m14 b2 0 fun x19 => kif (decide (x19 > 0)) (Fr18 b2 ∧ (ldI .i64 m14 b2 0 fun x20 => kif (decide (x20 < 78)) (Fr18 b2 ∧ (ldI .u32 m14 b2 5 fun x21 => kif (decide (x21 ≤ 67108863)) (Fr18 b2 ∧ (ldI .i64 m14 b2 0 fun x22 => Fr18 b2 ∧ (ldG 6 m14 b2 0 fun c23 => F40 c23 m14 fun x24 m25 => KeepsIn Fr18 m14 m25 ∧ (F39 x22 x24 m25 fun c26 m27 => KeepsIn Fr18 m25 m27 ∧ (Fr18 b2 ∧ (ldG 6 m27 b2 0 fun c28 => geq K27 c26 c28 fun x29 => (Keeps m m27 ∧ k x29 m))))))) ((Keeps m m14 ∧ k false m)))) ((Keeps m m14 ∧ k false m)))) ((Keeps m m14 ∧ k false m)))) (fun x15 m16 => (Keeps m m16 ∧ k x15 m))

def G21 (args : List AV) (m : Mem) (k : KV) : Prop := match args with
  | [a0] => kaggN 6 a0 fun c_0 => F21 c_0 m (fun x_1000 m' => k (.flat (.bool x_1000)) m')
  | _ => False

def Lam21_2 (σ : Nat → AV) (m : Mem) (k : KX) : Prop := kptr (σ 1) fun b_1 o_1 => kI .i64 (σ 14) fun x_14 => kI .i64 (σ 15) fun x_15 => ∃ N, L21_2 b_1 o_1 (σ 13) x_14 N x_15 m (fun m' => k (.exit 0) (only [1] [(.ptr b_1 o_1)]) m') (fun x_2' m' => k .ret (only [2] [(.flat (.bool x_2'))]) m')

def Lam21 : LEnv := ⟨fun a σ m k => match firstReg a with
  | some 2 => Lam21_2 σ m k
  | _ => bump False,
  fun id => match id with
  | 7 => true
  | _ => bump false,
  fun b => match keyC b with
  | _ => bump false,
  fun b σ m k => match keyC b with
  | _ => bump False⟩

def lx21_2 : Ex → List Nat := fun e => match e with
  | .exit 0 => [1]
  | .ret => [2]
  | _ => []

theorem round21_2 (b_1 o_1 : Nat) (v_13 : AV) (x_14 : Int) (x_15 : Int) (m : Mem) (G : List AV → Mem → Prop) (k : KX) : (wpA Try.prog E21 Lam21 ((loopsOf (bodyOf Try.f21)).getD 0 .skip) (only [1, 13, 14, 15] [(.ptr b_1 o_1), v_13, (.flat (.int .i64 x_14)), (.flat (.int .i64 x_15))]) m fun e σ' m' => match e with
    | .normal => G ([1, 13, 14, 15].map σ') m'
    | .exit id => k (.exit id) (only (lx21_2 (.exit id)) ((lx21_2 (.exit id)).map σ')) m'
    | .ret => k .ret (only (lx21_2 .ret) ((lx21_2 .ret).map σ')) m') = R21_2 b_1 o_1 v_13 x_14 x_15 m (fun x_15' m' => G [(.ptr b_1 o_1), v_13, (.flat (.int .i64 x_14)), (.flat (.int .i64 x_15'))] m') (fun m' => k (.exit 0) (only [1] [(.ptr b_1 o_1)]) m') (fun x_2' m' => k .ret (only [2] [(.flat (.bool x_2'))]) m') := by
  kernel_rfl

theorem loop21_2 (b_1 o_1 : Nat) (v_13 : AV) (x_14 : Int) (k : KX) : ∀ (N : Nat) (x_15 : Int) (m : Mem), rounds Try.prog E21 Lam21 [1, 13, 14, 15] lx21_2 ((loopsOf (bodyOf Try.f21)).getD 0 .skip) N [(.ptr b_1 o_1), v_13, (.flat (.int .i64 x_14)), (.flat (.int .i64 x_15))] m k = L21_2 b_1 o_1 v_13 x_14 N x_15 m (fun m' => k (.exit 0) (only [1] [(.ptr b_1 o_1)]) m') (fun x_2' m' => k .ret (only [2] [(.flat (.bool x_2'))]) m') := by
  intro N
  induction N with
  | zero => intros; rfl
  | succ N ih =>
    intro x_15 m
    refine (round21_2 b_1 o_1 v_13 x_14 x_15 m (fun vs m' => rounds Try.prog E21 Lam21 [1, 13, 14, 15] lx21_2 ((loopsOf (bodyOf Try.f21)).getD 0 .skip) N vs m' k) k).trans ?_
    simp only [ih]
    rfl

theorem lok21_2 : LoopOK Try.prog E21 Lam21 ((loopsOf (bodyOf Try.f21)).getD 0 .skip) := by
  refine ⟨fun σ => ∃ b_1 o_1 v_13 x_14 x_15, σ 1 = .ptr b_1 o_1 ∧ σ 13 = v_13 ∧ σ 14 = .flat (.int .i64 x_14) ∧ σ 15 = .flat (.int .i64 x_15), [1, 13, 14, 15], lx21_2, fun σ m k => ?_⟩
  have e : Lam21.loop ((loopsOf (bodyOf Try.f21)).getD 0 .skip) σ m k = Lam21_2 σ m k := by kernel_rfl
  rw [e]
  constructor
  · intro h
    unfold Lam21_2 at h
    obtain ⟨b_1, o_1, h0, h⟩ := kptr_ok h
    obtain ⟨v_13, h1⟩ : ∃ v, σ 13 = v := ⟨_, rfl⟩
    obtain ⟨x_14, h2, h⟩ := kI_ok h
    obtain ⟨x_15, h3, h⟩ := kI_ok h
    obtain ⟨N, h⟩ := h
    refine ⟨⟨b_1, o_1, v_13, x_14, x_15, h0, h1, h2, h3⟩, N, ?_⟩
    have ev : [1, 13, 14, 15].map σ = [(.ptr b_1 o_1), v_13, (.flat (.int .i64 x_14)), (.flat (.int .i64 x_15))] := by simp only [List.map_cons, List.map_nil, h0, h1, h2, h3]
    rw [ev, loop21_2]
    simp only [h1] at h
    exact h
  · rintro ⟨⟨b_1, o_1, v_13, x_14, x_15, h0, h1, h2, h3⟩, N, h⟩
    have ev : [1, 13, 14, 15].map σ = [(.ptr b_1 o_1), v_13, (.flat (.int .i64 x_14)), (.flat (.int .i64 x_15))] := by simp only [List.map_cons, List.map_nil, h0, h1, h2, h3]
    rw [ev, loop21_2] at h
    unfold Lam21_2
    try simp only [h0, h1, h2, h3, kI, kbool, kS, kptr, kaggN, kite, decide_true, eq_self]
    exact ⟨N, h⟩

theorem eqn21 (c_0 : Nat → AV) (m : Mem) (k : KV) : bodyK Try.prog E21 Lam21 Try.f21 true [(.agg 6 c_0)] m k = F21 c_0 m (fun x_1000 m' => k (.flat (.bool x_1000)) m') := by
  kernel_rfl

theorem fs21 (w0 : World) : FS Try.prog w0 21 G21 := by
  refine (fs_body (Γ := E21) (sound_env (l := [(39, G39), (40, G40)]) w0 (by
    intro p hp
    simp only [List.mem_cons, List.not_mem_nil, or_false] at hp
    rcases hp with rfl | rfl
    · exact fs39 w0
    · exact fs40 w0)) (by kernel_rfl) Try.func21 (Λ := Lam21) (c := (bodyOf Try.f21)) (by kernel_rfl) Try.call21 (by kernel_rfl) (LS_of (bodyOf Try.f21) 1 (by kernel_rfl) (by
    intro i hi
    match i, hi with
    | 0, _ => exact lok21_2
    | i + 1, hi => omega) 0 (by kernel_rfl) (fun i hi => absurd hi (Nat.not_lt_zero i))) true (np := 1) (Nat.le_of_ble_eq_true (by kernel_rfl))).imp fun args => ?_
  by_cases hl : args.length = 1
  rotate_left
  · exact .inr fun m k hk => by
      unfold G21 at hk
      split at hk
      · exact hl rfl
      · exact hk
  obtain ⟨a0, rfl⟩ : ∃ a0, args = [a0] := len_list1 hl
  rcases kaggN_or 6 a0 with ⟨c_0, rfl⟩ | h
  rotate_left
  · exact .inr fun m k hk => h _ (by simpa only [G21, kI, kbool, kS, kptr, kaggN, kite, decide_true, eq_self] using hk)
  exact .inl fun m k => propext ⟨fun h => ⟨rfl, by rw [eqn21]; simpa only [G21, kI, kbool, kS, kptr, kaggN, kite, decide_true, eq_self] using h⟩, fun h => by have h := h.2; rw [eqn21] at h; simpa only [G21, kI, kbool, kS, kptr, kaggN, kite, decide_true, eq_self] using h⟩

def E22 : Env := envOf []

def P22_9004 (x_3 : Int) (x_55 : Bool) (m : Mem) (kr : Int → Mem → Prop) (kn : Mem → Prop) : Prop :=
  kif x_55 (kr 5 m) (kif (x_3 == 22) (kr 2 m) (kif (x_3 == 24) (kr 2 m) (kif (x_3 == 46) (kr 2 m) (kif (decide (x_3 ≥ 32)) (kif (decide (x_3 ≤ 35)) (kr 2 m) (kn  m)) (kn  m)))))

def P22_7004 (x_3 : Int) (x_44 : Bool) (m : Mem) (kr : Int → Mem → Prop) (kn : Mem → Prop) : Prop :=
  kif x_44 (kr 4 m) (kif (decide (x_3 ≥ 71)) (kif (decide (x_3 ≤ 73)) (P22_9004 x_3 true m (fun x4 m5 => kr x4 m5) (fun m6 => kn  m6)) (P22_9004 x_3 (x_3 == 75) m (fun x7 m8 => kr x7 m8) (fun m9 => kn  m9))) (P22_9004 x_3 (x_3 == 75) m (fun x10 m11 => kr x10 m11) (fun m12 => kn  m12)))

def P22_5004 (x_3 : Int) (x_29 : Bool) (m : Mem) (kr : Int → Mem → Prop) (kn : Mem → Prop) : Prop :=
  kif x_29 (kr 3 m) (kif (decide (x_3 ≥ 66)) (kif (decide (x_3 ≤ 70)) (P22_7004 x_3 true m (fun x13 m14 => kr x13 m14) (fun m15 => kn  m15)) (P22_7004 x_3 (x_3 == 74) m (fun x16 m17 => kr x16 m17) (fun m18 => kn  m18))) (P22_7004 x_3 (x_3 == 74) m (fun x19 m20 => kr x19 m20) (fun m21 => kn  m21)))

def P22_3004 (x_3 : Int) (x_6 : Bool) (m : Mem) (kr : Int → Mem → Prop) (kn : Mem → Prop) : Prop :=
  kif x_6 (kr 6 m) (kif (x_3 == 7) (P22_5004 x_3 true m (fun x22 m23 => kr x22 m23) (fun m24 => kn  m24)) (kif (x_3 == 8) (P22_5004 x_3 true m (fun x25 m26 => kr x25 m26) (fun m27 => kn  m27)) (kif (decide (x_3 ≥ 36)) (P22_5004 x_3 (decide (x_3 ≤ 45)) m (fun x28 m29 => kr x28 m29) (fun m30 => kn  m30)) (P22_5004 x_3 false m (fun x31 m32 => kr x31 m32) (fun m33 => kn  m33)))))

/-- pianola/decode.Class -/
def F22 (c_0 : Nat → AV) (m : Mem) (k : Int → Mem → Prop) : Prop :=
  newK m ⟨6, c_0, 27, false⟩ fun b2 m1 => ldI .i64 m1 b2 0 fun x3 => kif (decide (x3 ≤ 0)) (P22_3004 x3 true m1 (fun x34 m35 => (Keeps m m35 ∧ k x34 m)) (fun m36 => (Keeps m m36 ∧ k 1 m))) (kif (decide (x3 ≥ 78)) (P22_3004 x3 true m1 (fun x37 m38 => (Keeps m m38 ∧ k x37 m)) (fun m39 => (Keeps m m39 ∧ k 1 m))) (kif (x3 == 11) (P22_3004 x3 true m1 (fun x40 m41 => (Keeps m m41 ∧ k x40 m)) (fun m42 => (Keeps m m42 ∧ k 1 m))) (kif (x3 == 12) (P22_3004 x3 true m1 (fun x43 m44 => (Keeps m m44 ∧ k x43 m)) (fun m45 => (Keeps m m45 ∧ k 1 m))) (kif (decide (x3 ≥ 54)) (P22_3004 x3 (decide (x3 ≤ 62)) m1 (fun x46 m47 => (Keeps m m47 ∧ k x46 m)) (fun m48 => (Keeps m m48 ∧ k 1 m))) (P22_3004 x3 false m1 (fun x49 m50 => (Keeps m m50 ∧ k x49 m)) (fun m51 => (Keeps m m51 ∧ k 1 m)))))))

def G22 (args : List AV) (m : Mem) (k : KV) : Prop := match args with
  | [a0] => kaggN 6 a0 fun c_0 => F22 c_0 m (fun x_1000 m' => k (.flat (.int .i64 x_1000)) m')
  | _ => False

def LamP22_3004 (σ : Nat → AV) (m : Mem) (k : KX) : Prop := kI .i64 (σ 3) fun x_3 => kbool (σ 6) fun x_6 => P22_3004 x_3 x_6 m (fun x_2' m' => k .ret (only [2] [(.flat (.int .i64 x_2'))]) m') (fun m' => k .normal (only [] []) m')

def LamP22_5004 (σ : Nat → AV) (m : Mem) (k : KX) : Prop := kI .i64 (σ 3) fun x_3 => kbool (σ 29) fun x_29 => P22_5004 x_3 x_29 m (fun x_2' m' => k .ret (only [2] [(.flat (.int .i64 x_2'))]) m') (fun m' => k .normal (only [] []) m')

def LamP22_7004 (σ : Nat → AV) (m : Mem) (k : KX) : Prop := kI .i64 (σ 3) fun x_3 => kbool (σ 44) fun x_44 => P22_7004 x_3 x_44 m (fun x_2' m' => k .ret (only [2] [(.flat (.int .i64 x_2'))]) m') (fun m' => k .normal (only [] []) m')

def LamP22_9004 (σ : Nat → AV) (m : Mem) (k : KX) : Prop := kI .i64 (σ 3) fun x_3 => kbool (σ 55) fun x_55 => P22_9004 x_3 x_55 m (fun x_2' m' => k .ret (only [2] [(.flat (.int .i64 x_2'))]) m') (fun m' => k .normal (only [] []) m')

def Lam22 : LEnv := ⟨fun a σ m k => match firstReg a with
  | _ => bump False,
  fun id => match id with
  | _ => bump false,
  fun b => match keyC b with
  | some 3004 => true
  | some 5004 => true
  | some 7004 => true
  | some 9004 => true
  | _ => bump false,
  fun b σ m k => match keyC b with
  | some 3004 => LamP22_3004 σ m k
  | some 5004 => LamP22_5004 σ m k
  | some 7004 => LamP22_7004 σ m k
  | some 9004 => LamP22_9004 σ m k
  | _ => bump False⟩

def lxp22_9004 : Ex → List Nat := fun e => match e with
  | .ret => [2]
  | .normal => []
  | _ => []

theorem pc22_9004 (x_3 : Int) (x_55 : Bool) (m : Mem) (k : KX) : once Try.prog E22 Lam22 [3, 55] lxp22_9004 (((secsOf (bodyOf Try.f22)).filter Lam22.cut).getD 3 .skip) [(.flat (.int .i64 x_3)), (.flat (.bool x_55))] m k = P22_9004 x_3 x_55 m (fun x_2' m' => k .ret (only [2] [(.flat (.int .i64 x_2'))]) m') (fun m' => k .normal (only [] []) m') := by
  kernel_rfl

theorem pok22_9004 : PieceOK Try.prog E22 Lam22 (((secsOf (bodyOf Try.f22)).filter Lam22.cut).getD 3 .skip) := by
  refine ⟨fun σ => ∃ x_3 x_55, σ 3 = .flat (.int .i64 x_3) ∧ σ 55 = .flat (.bool x_55), [3, 55], lxp22_9004, fun σ m k => ?_⟩
  have e : Lam22.piece (((secsOf (bodyOf Try.f22)).filter Lam22.cut).getD 3 .skip) σ m k = LamP22_9004 σ m k := by kernel_rfl
  rw [e]
  constructor
  · intro h
    unfold LamP22_9004 at h
    obtain ⟨x_3, h0, h⟩ := kI_ok h
    obtain ⟨x_55, h1, h⟩ := kbool_ok h
    refine ⟨⟨x_3, x_55, h0, h1⟩, ?_⟩
    have ev : [3, 55].map σ = [(.flat (.int .i64 x_3)), (.flat (.bool x_55))] := by simp only [List.map_cons, List.map_nil, h0, h1]
    rw [ev, pc22_9004]
    exact h
  · rintro ⟨⟨x_3, x_55, h0, h1⟩, h⟩
    have ev : [3, 55].map σ = [(.flat (.int .i64 x_3)), (.flat (.bool x_55))] := by simp only [List.map_cons, List.map_nil, h0, h1]
    rw [ev, pc22_9004] at h
    unfold LamP22_9004
    try simp only [h0, h1, kI, kbool, kS, kptr, kaggN, kite, decide_true, eq_self]
    exact h

def lxp22_7004 : Ex → List Nat := fun e => match e with
  | .ret => [2]
  | .normal => []
  | _ => []

theorem pc22_7004 (x_3 : Int) (x_44 : Bool) (m : Mem) (k : KX) : once Try.prog E22 Lam22 [3, 44] lxp22_7004 (((secsOf (bodyOf Try.f22)).filter Lam22.cut).getD 2 .skip) [(.flat (.int .i64 x_3)), (.flat (.bool x_44))] m k = P22_7004 x_3 x_44 m (fun x_2' m' => k .ret (only [2] [(.flat (.int .i64 x_2'))]) m') (fun m' => k .normal (only [] []) m') := by
  kernel_rfl

theorem pok22_7004 : PieceOK Try.prog E22 Lam22 (((secsOf (bodyOf Try.f22)).filter Lam22.cut).getD 2 .skip) := by
  refine ⟨fun σ => ∃ x_3 x_44, σ 3 = .flat (.int .i64 x_3) ∧ σ 44 = .flat (.bool x_44), [3, 44], lxp22_7004, fun σ m k => ?_⟩
  have e : Lam22.piece (((secsOf (bodyOf Try.f22)).filter Lam22.cut).getD 2 .skip) σ m k = LamP22_7004 σ m k := by kernel_rfl
  rw [e]
  constructor
  · intro h
    unfold LamP22_7004 at h
    obtain ⟨x_3, h0, h⟩ := kI_ok h
    obtain ⟨x_44, h1, h⟩ := kbool_ok h
    refine ⟨⟨x_3, x_44, h0, h1⟩, ?_⟩
    have ev : [3, 44].map σ = [(.flat (.int .i64 x_3)), (.flat (.bool x_44))] := by simp only [List.map_cons, List.map_nil, h0, h1]
    rw [ev, pc22_7004]
    exact h
  · rintro ⟨⟨x_3, x_44, h0, h1⟩, h⟩
    have ev : [3, 44].map σ = [(.flat (.int .i64 x_3)), (.flat (.bool x_44))] := by simp only [List.map_cons, List.map_nil, h0, h1]
    rw [ev, pc22_7004] at h
    unfold LamP22_7004
    try simp only [h0, h1, kI, kbool, kS, kptr, kaggN, kite, decide_true, eq_self]
    exact h

def lxp22_5004 : Ex → List Nat := fun e => match e with
  | .ret => [2]
  | .normal => []
  | _ => []

theorem pc22_5004 (x_3 : Int) (x_29 : Bool) (m : Mem) (k : KX) : once Try.prog E22 Lam22 [3, 29] lxp22_5004 (((secsOf (bodyOf Try.f22)).filter Lam22.cut).getD 1 .skip) [(.flat (.int .i64 x_3)), (.flat (.bool x_29))] m k = P22_5004 x_3 x_29 m (fun x_2' m' => k .ret (only [2] [(.flat (.int .i64 x_2'))]) m') (fun m' => k .normal (only [] []) m') := by
  kernel_rfl

theorem pok22_5004 : PieceOK Try.prog E22 Lam22 (((secsOf (bodyOf Try.f22)).filter Lam22.cut).getD 1 .skip) := by
  refine ⟨fun σ => ∃ x_3 x_29, σ 3 = .flat (.int .i64 x_3) ∧ σ 29 = .flat (.bool x_29), [3, 29], lxp22_5004, fun σ m k => ?_⟩
  have e : Lam22.piece (((secsOf (bodyOf Try.f22)).filter Lam22.cut).getD 1 .skip) σ m k = LamP22_5004 σ m k := by kernel_rfl
  rw [e]
  constructor
  · intro h
    unfold LamP22_5004 at h
    obtain ⟨x_3, h0, h⟩ := kI_ok h
    obtain ⟨x_29, h1, h⟩ := kbool_ok h
    refine ⟨⟨x_3, x_29, h0, h1⟩, ?_⟩
    have ev : [3, 29].map σ = [(.flat (.int .i64 x_3)), (.flat (.bool x_29))] := by simp only [List.map_cons, List.map_nil, h0, h1]
    rw [ev, pc22_5004]
    exact h
  · rintro ⟨⟨x_3, x_29, h0, h1⟩, h⟩
    have ev : [3, 29].map σ = [(.flat (.int .i64 x_3)), (.flat (.bool x_29))] := by simp only [List.map_cons, List.map_nil, h0, h1]
    rw [ev, pc22_5004] at h
    unfold LamP22_5004
    try simp only [h0, h1, kI, kbool, kS, kptr, kaggN, kite, decide_true, eq_self]
    exact h

def lxp22_3004 : Ex → List Nat := fun e => match e with
  | .ret => [2]
  | .normal => []
  | _ => []

theorem pc22_3004 (x_3 : Int) (x_6 : Bool) (m : Mem) (k : KX) : once Try.prog E22 Lam22 [3, 6] lxp22_3004 (((secsOf (bodyOf Try.f22)).filter Lam22.cut).getD 0 .skip) [(.flat (.int .i64 x_3)), (.flat (.bool x_6))] m k = P22_3004 x_3 x_6 m (fun x_2' m' => k .ret (only [2] [(.flat (.int .i64 x_2'))]) m') (fun m' => k .normal (only [] []) m') := by
  kernel_rfl

theorem pok22_3004 : PieceOK Try.prog E22 Lam22 (((secsOf (bodyOf Try.f22)).filter Lam22.cut).getD 0 .skip) := by
  refine ⟨fun σ => ∃ x_3 x_6, σ 3 = .flat (.int .i64 x_3) ∧ σ 6 = .flat (.bool x_6), [3, 6], lxp22_3004, fun σ m k => ?_⟩
  have e : Lam22.piece (((secsOf (bodyOf Try.f22)).filter Lam22.cut).getD 0 .skip) σ m k = LamP22_3004 σ m k := by kernel_rfl
  rw [e]
  constructor
  · intro h
    unfold LamP22_3004 at h
    obtain ⟨x_3, h0, h⟩ := kI_ok h
    obtain ⟨x_6, h1, h⟩ := kbool_ok h
    refine ⟨⟨x_3, x_6, h0, h1⟩, ?_⟩
    have ev : [3, 6].map σ = [(.flat (.int .i64 x_3)), (.flat (.bool x_6))] := by simp only [List.map_cons, List.map_nil, h0, h1]
    rw [ev, pc22_3004]
    exact h
  · rintro ⟨⟨x_3, x_6, h0, h1⟩, h⟩
    have ev : [3, 6].map σ = [(.flat (.int .i64 x_3)), (.flat (.bool x_6))] := by simp only [List.map_cons, List.map_nil, h0, h1]
    rw [ev, pc22_3004] at h
    unfold LamP22_3004
    try simp only [h0, h1, kI, kbool, kS, kptr, kaggN, kite, decide_true, eq_self]
    exact h

theorem eqn22 (c_0 : Nat → AV) (m : Mem) (k : KV) : bodyK Try.prog E22 Lam22 Try.f22 true [(.agg 6 c_0)] m k = F22 c_0 m (fun x_1000 m' => k (.flat (.int .i64 x_1000)) m') := by
  kernel_rfl

theorem fs22 (w0 : World) : FS Try.prog w0 22 G22 := by
  refine (fs_body (Γ := E22) (sound_env (l := []) w0 (by
    intro p hp
    cases hp)) (by kernel_rfl) Try.func22 (Λ := Lam22) (c := (bodyOf Try.f22)) (by kernel_rfl) Try.call22 (by kernel_rfl) (LS_of (bodyOf Try.f22) 0 (by kernel_rfl) (fun i hi => absurd hi (Nat.not_lt_zero i)) 4 (by kernel_rfl) (by
    intro i hi
    match i, hi with
    | 0, _ => exact pok22_3004
    | 1, _ => exact pok22_5004
    | 2, _ => exact pok22_7004
    | 3, _ => exact pok22_9004
    | i + 4, hi => omega)) true (np := 1) (Nat.le_of_ble_eq_true (by kernel_rfl))).imp fun args => ?_
  by_cases hl : args.length = 1
  rotate_left
  · exact .inr fun m k hk => by
      unfold G22 at hk
      split at hk
      · exact hl rfl
      · exact hk
  obtain ⟨a0, rfl⟩ : ∃ a0, args = [a0] := len_list1 hl
  rcases kaggN_or 6 a0 with ⟨c_0, rfl⟩ | h
  rotate_left
  · exact .inr fun m k hk => h _ (by simpa only [G22, kI, kbool, kS, kptr, kaggN, kite, decide_true, eq_self] using hk)
  exact .inl fun m k => propext ⟨fun h => ⟨rfl, by rw [eqn22]; simpa only [G22, kI, kbool, kS, kptr, kaggN, kite, decide_true, eq_self] using h⟩, fun h => by have h := h.2; rw [eqn22] at h; simpa only [G22, kI, kbool, kS, kptr, kaggN, kite, decide_true, eq_self] using h⟩

def E11 : Env := envOf [(21, G21), (22, G22)]

/-- pianola/lift.Is -/
def F11 (c_0 : Nat → AV) (m : Mem) (k : Bool → Mem → Prop) : Prop :=
  newK m ⟨6, c_0, 27, false⟩ fun b2 m1 => ldG 6 m1 b2 0 fun c3 => F21 c3 m1 fun x4 m5 => kif x4 (ldG 6 m5 b2 0 fun c6 => F22 c6 m5 fun x7 m8 => (Keeps m m8 ∧ k (x7 == 1) m)) ((Keeps m m5 ∧ k false m))

def G11 (args : List AV) (m : Mem) (k : KV) : Prop := match args with
  | [a0] => kaggN 6 a0 fun c_0 => F11 c_0 m (fun x_1000 m' => k (.flat (.bool x_1000)) m')
  | _ => False

def Lam11 : LEnv := ⟨fun a σ m k => match firstReg a with
  | _ => bump False,
  fun id => match id with
  | _ => bump false,
  fun b => match keyC b with
  | _ => bump false,
  fun b σ m k => match keyC b with
  | _ => bump False⟩

theorem eqn11 (c_0 : Nat → AV) (m : Mem) (k : KV) : bodyK Try.prog E11 Lam11 Try.f11 true [(.agg 6 c_0)] m k = F11 c_0 m (fun x_1000 m' => k (.flat (.bool x_1000)) m') := by
  kernel_rfl

theorem fs11 (w0 : World) : FS Try.prog w0 11 G11 := by
  refine (fs_body (Γ := E11) (sound_env (l := [(21, G21), (22, G22)]) w0 (by
    intro p hp
    simp only [List.mem_cons, List.not_mem_nil, or_false] at hp
    rcases hp with rfl | rfl
    · exact fs21 w0
    · exact fs22 w0)) (by kernel_rfl) Try.func11 (Λ := Lam11) (c := (bodyOf Try.f11)) (by kernel_rfl) Try.call11 (by kernel_rfl) (LS_of (bodyOf Try.f11) 0 (by kernel_rfl) (fun i hi => absurd hi (Nat.not_lt_zero i)) 0 (by kernel_rfl) (fun i hi => absurd hi (Nat.not_lt_zero i))) true (np := 1) (Nat.le_of_ble_eq_true (by kernel_rfl))).imp fun args => ?_
  by_cases hl : args.length = 1
  rotate_left
  · exact .inr fun m k hk => by
      unfold G11 at hk
      split at hk
      · exact hl rfl
      · exact hk
  obtain ⟨a0, rfl⟩ : ∃ a0, args = [a0] := len_list1 hl
  rcases kaggN_or 6 a0 with ⟨c_0, rfl⟩ | h
  rotate_left
  · exact .inr fun m k hk => h _ (by simpa only [G11, kI, kbool, kS, kptr, kaggN, kite, decide_true, eq_self] using hk)
  exact .inl fun m k => propext ⟨fun h => ⟨rfl, by rw [eqn11]; simpa only [G11, kI, kbool, kS, kptr, kaggN, kite, decide_true, eq_self] using h⟩, fun h => by have h := h.2; rw [eqn11] at h; simpa only [G11, kI, kbool, kS, kptr, kaggN, kite, decide_true, eq_self] using h⟩

def E12 : Env := envOf []

def P12_32004 (x_3 : Int) (x_32 : Bool) (m : Mem) (kr : Int → Mem → Prop) (kn : Mem → Prop) : Prop :=
  kif x_32 (kr 13 m) (kif (x_3 == 63) (kr 14 m) (kif (x_3 == 64) (kr 15 m) (kif (x_3 == 65) (kr 16 m) (kif (x_3 == 18) (kr 17 m) (kif (x_3 == 19) (kr 18 m) (kif (x_3 == 20) (kr 19 m) (kif (x_3 == 21) (kr 20 m) (kif (x_3 == 9) (kr 21 m) (kif (x_3 == 10) (kr 22 m) (kn  m))))))))))

def P12_29004 (x_3 : Int) (x_29 : Bool) (m : Mem) (kr : Int → Mem → Prop) (kn : Mem → Prop) : Prop :=
  kif x_29 (kr 12 m) (kif (x_3 == 31) (P12_32004 x_3 (x_3 == 31) m (fun x1 m2 => kr x1 m2) (fun m3 => kn  m3)) (P12_32004 x_3 (x_3 == 49) m (fun x4 m5 => kr x4 m5) (fun m6 => kn  m6)))

def P12_24004 (x_3 : Int) (x_24 : Bool) (m : Mem) (kr : Int → Mem → Prop) (kn : Mem → Prop) : Prop :=
  kif x_24 (kr 7 m) (kif (x_3 == 29) (kr 8 m) (kif (x_3 == 30) (P12_29004 x_3 (x_3 == 30) m (fun x7 m8 => kr x7 m8) (fun m9 => kn  m9)) (P12_29004 x_3 (x_3 == 48) m (fun x10 m11 => kr x10 m11) (fun m12 => kn  m12))))

def P12_21004 (x_3 : Int) (x_21 : Bool) (m : Mem) (kr : Int → Mem → Prop) (kn : Mem → Prop) : Prop :=
  kif x_21 (kr 6 m) (kif (x_3 == 28) (P12_24004 x_3 (x_3 == 28) m (fun x13 m14 => kr x13 m14) (fun m15 => kn  m15)) (P12_24004 x_3 (x_3 == 52) m (fun x16 m17 => kr x16 m17) (fun m18 => kn  m18)))

def P12_18004 (x_3 : Int) (x_18 : Bool) (m : Mem) (kr : Int → Mem → Prop) (kn : Mem → Prop) : Prop :=
  kif x_18 (kr 5 m) (kif (x_3 == 27) (P12_21004 x_3 (x_3 == 27) m (fun x19 m20 => kr x19 m20) (fun m21 => kn  m21)) (P12_21004 x_3 (x_3 == 51) m (fun x22 m23 => kr x22 m23) (fun m24 => kn  m24)))

def P12_13004 (x_3 : Int) (x_13 : Bool) (m : Mem) (kr : Int → Mem → Prop) (kn : Mem → Prop) : Prop :=
  kif x_13 (kr 3 m) (kif (x_3 == 25) (kr 4 m) (kif (x_3 == 26) (P12_18004 x_3 (x_3 == 26) m (fun x25 m26 => kr x25 m26) (fun m27 => kn  m27)) (P12_18004 x_3 (x_3 == 50) m (fun x28 m29 => kr x28 m29) (fun m30 => kn  m30))))

def P12_10004 (x_3 : Int) (x_10 : Bool) (m : Mem) (kr : Int → Mem → Prop) (kn : Mem → Prop) : Prop :=
  kif x_10 (kr 11 m) (kif (x_3 == 23) (P12_13004 x_3 (x_3 == 23) m (fun x31 m32 => kr x31 m32) (fun m33 => kn  m33)) (P12_13004 x_3 (x_3 == 47) m (fun x34 m35 => kr x34 m35) (fun m36 => kn  m36)))

def P12_7004 (x_3 : Int) (x_7 : Bool) (m : Mem) (kr : Int → Mem → Prop) (kn : Mem → Prop) : Prop :=
  kif x_7 (kr 10 m) (kif (x_3 == 3) (P12_10004 x_3 (x_3 == 3) m (fun x37 m38 => kr x37 m38) (fun m39 => kn  m39)) (P12_10004 x_3 (x_3 == 6) m (fun x40 m41 => kr x40 m41) (fun m42 => kn  m42)))

def P12_4004 (x_3 : Int) (x_4 : Bool) (m : Mem) (kr : Int → Mem → Prop) (kn : Mem → Prop) : Prop :=
  kif x_4 (kr 9 m) (kif (x_3 == 2) (P12_7004 x_3 (x_3 == 2) m (fun x43 m44 => kr x43 m44) (fun m45 => kn  m45)) (P12_7004 x_3 (x_3 == 5) m (fun x46 m47 => kr x46 m47) (fun m48 => kn  m48)))

/-- pianola/lift.kind -/
def F12 (x_0 : Int) (m : Mem) (k : Int → Mem → Prop) : Prop :=
  kif (x_0 == 1) (P12_4004 x_0 (x_0 == 1) m (fun x49 m50 => (Keeps m m50 ∧ k x49 m)) (fun m51 => (Keeps m m51 ∧ k 0 m))) (P12_4004 x_0 (x_0 == 4) m (fun x52 m53 => (Keeps m m53 ∧ k x52 m)) (fun m54 => (Keeps m m54 ∧ k 0 m)))

def G12 (args : List AV) (m : Mem) (k : KV) : Prop := match args with
  | [a0] => kI .i64 a0 fun x_0 => F12 x_0 m (fun x_1000 m' => k (.flat (.int .i64 x_1000)) m')
  | _ => False

def LamP12_4004 (σ : Nat → AV) (m : Mem) (k : KX) : Prop := kI .i64 (σ 3) fun x_3 => kbool (σ 4) fun x_4 => P12_4004 x_3 x_4 m (fun x_2' m' => k .ret (only [2] [(.flat (.int .i64 x_2'))]) m') (fun m' => k .normal (only [] []) m')

def LamP12_7004 (σ : Nat → AV) (m : Mem) (k : KX) : Prop := kI .i64 (σ 3) fun x_3 => kbool (σ 7) fun x_7 => P12_7004 x_3 x_7 m (fun x_2' m' => k .ret (only [2] [(.flat (.int .i64 x_2'))]) m') (fun m' => k .normal (only [] []) m')

def LamP12_10004 (σ : Nat → AV) (m : Mem) (k : KX) : Prop := kI .i64 (σ 3) fun x_3 => kbool (σ 10) fun x_10 => P12_10004 x_3 x_10 m (fun x_2' m' => k .ret (only [2] [(.flat (.int .i64 x_2'))]) m') (fun m' => k .normal (only [] []) m')

def LamP12_13004 (σ : Nat → AV) (m : Mem) (k : KX) : Prop := kI .i64 (σ 3) fun x_3 => kbool (σ 13) fun x_13 => P12_13004 x_3 x_13 m (fun x_2' m' => k .ret (only [2] [(.flat (.int .i64 x_2'))]) m') (fun m' => k .normal (only [] []) m')

def LamP12_18004 (σ : Nat → AV) (m : Mem) (k : KX) : Prop := kI .i64 (σ 3) fun x_3 => kbool (σ 18) fun x_18 => P12_18004 x_3 x_18 m (fun x_2' m' => k .ret (only [2] [(.flat (.int .i64 x_2'))]) m') (fun m' => k .normal (only [] []) m')

def LamP12_21004 (σ : Nat → AV) (m : Mem) (k : KX) : Prop := kI .i64 (σ 3) fun x_3 => kbool (σ 21) fun x_21 => P12_21004 x_3 x_21 m (fun x_2' m' => k .ret (only [2] [(.flat (.int .i64 x_2'))]) m') (fun m' => k .normal (only [] []) m')

def LamP12_24004 (σ : Nat → AV) (m : Mem) (k : KX) : Prop := kI .i64 (σ 3) fun x_3 => kbool (σ 24) fun x_24 => P12_24004 x_3 x_24 m (fun x_2' m' => k .ret (only [2] [(.flat (.int .i64 x_2'))]) m') (fun m' => k .normal (only [] []) m')

def LamP12_29004 (σ : Nat → AV) (m : Mem) (k : KX) : Prop := kI .i64 (σ 3) fun x_3 => kbool (σ 29) fun x_29 => P12_29004 x_3 x_29 m (fun x_2' m' => k .ret (only [2] [(.flat (.int .i64 x_2'))]) m') (fun m' => k .normal (only [] []) m')

def LamP12_32004 (σ : Nat → AV) (m : Mem) (k : KX) : Prop := kI .i64 (σ 3) fun x_3 => kbool (σ 32) fun x_32 => P12_32004 x_3 x_32 m (fun x_2' m' => k .ret (only [2] [(.flat (.int .i64 x_2'))]) m') (fun m' => k .normal (only [] []) m')

def Lam12 : LEnv := ⟨fun a σ m k => match firstReg a with
  | _ => bump False,
  fun id => match id with
  | _ => bump false,
  fun b => match keyC b with
  | some 4004 => true
  | some 7004 => true
  | some 10004 => true
  | some 13004 => true
  | some 18004 => true
  | some 21004 => true
  | some 24004 => true
  | some 29004 => true
  | some 32004 => true
  | _ => bump false,
  fun b σ m k => match keyC b with
  | some 4004 => LamP12_4004 σ m k
  | some 7004 => LamP12_7004 σ m k
  | some 10004 => LamP12_10004 σ m k
  | some 13004 => LamP12_13004 σ m k
  | some 18004 => LamP12_18004 σ m k
  | some 21004 => LamP12_21004 σ m k
  | some 24004 => LamP12_24004 σ m k
  | some 29004 => LamP12_29004 σ m k
  | some 32004 => LamP12_32004 σ m k
  | _ => bump False⟩

def lxp12_32004 : Ex → List Nat := fun e => match e with
  | .ret => [2]
  | .normal => []
  | _ => []

theorem pc12_32004 (x_3 : Int) (x_32 : Bool) (m : Mem) (k : KX) : once Try.prog E12 Lam12 [3, 32] lxp12_32004 (((secsOf (bodyOf Try.f12)).filter Lam12.cut).getD 8 .skip) [(.flat (.int .i64 x_3)), (.flat (.bool x_32))] m k = P12_32004 x_3 x_32 m (fun x_2' m' => k .ret (only [2] [(.flat (.int .i64 x_2'))]) m') (fun m' => k .normal (only [] []) m') := by
  kernel_rfl

theorem pok12_32004 : PieceOK Try.prog E12 Lam12 (((secsOf (bodyOf Try.f12)).filter Lam12.cut).getD 8 .skip) := by
  refine ⟨fun σ => ∃ x_3 x_32, σ 3 = .flat (.int .i64 x_3) ∧ σ 32 = .flat (.bool x_32), [3, 32], lxp12_32004, fun σ m k => ?_⟩
  have e : Lam12.piece (((secsOf (bodyOf Try.f12)).filter Lam12.cut).getD 8 .skip) σ m k = LamP12_32004 σ m k := by kernel_rfl
  rw [e]
  constructor
  · intro h
    unfold LamP12_32004 at h
    obtain ⟨x_3, h0, h⟩ := kI_ok h
    obtain ⟨x_32, h1, h⟩ := kbool_ok h
    refine ⟨⟨x_3, x_32, h0, h1⟩, ?_⟩
    have ev : [3, 32].map σ = [(.flat (.int .i64 x_3)), (.flat (.bool x_32))] := by simp only [List.map_cons, List.map_nil, h0, h1]
    rw [ev, pc12_32004]
    exact h
  · rintro ⟨⟨x_3, x_32, h0, h1⟩, h⟩
    have ev : [3, 32].map σ = [(.flat (.int .i64 x_3)), (.flat (.bool x_32))] := by simp only [List.map_cons, List.map_nil, h0, h1]
    rw [ev, pc12_32004] at h
    unfold LamP12_32004
    try simp only [h0, h1, kI, kbool, kS, kptr, kaggN, kite, decide_true, eq_self]
    exact h

def lxp12_29004 : Ex → List Nat := fun e => match e with
  | .ret => [2]
  | .normal => []
  | _ => []

theorem pc12_29004 (x_3 : Int) (x_29 : Bool) (m : Mem) (k : KX) : once Try.prog E12 Lam12 [3, 29] lxp12_29004 (((secsOf (bodyOf Try.f12)).filter Lam12.cut).getD 7 .skip) [(.flat (.int .i64 x_3)), (.flat (.bool x_29))] m k = P12_29004 x_3 x_29 m (fun x_2' m' => k .ret (only [2] [(.flat (.int .i64 x_2'))]) m') (fun m' => k .normal (only [] []) m') := by
  kernel_rfl

theorem pok12_29004 : PieceOK Try.prog E12 Lam12 (((secsOf (bodyOf Try.f12)).filter Lam12.cut).getD 7 .skip) := by
  refine ⟨fun σ => ∃ x_3 x_29, σ 3 = .flat (.int .i64 x_3) ∧ σ 29 = .flat (.bool x_29), [3, 29], lxp12_29004, fun σ m k => ?_⟩
  have e : Lam12.piece (((secsOf (bodyOf Try.f12)).filter Lam12.cut).getD 7 .skip) σ m k = LamP12_29004 σ m k := by kernel_rfl
  rw [e]
  constructor
  · intro h
    unfold LamP12_29004 at h
    obtain ⟨x_3, h0, h⟩ := kI_ok h
    obtain ⟨x_29, h1, h⟩ := kbool_ok h
    refine ⟨⟨x_3, x_29, h0, h1⟩, ?_⟩
    have ev : [3, 29].map σ = [(.flat (.int .i64 x_3)), (.flat (.bool x_29))] := by simp only [List.map_cons, List.map_nil, h0, h1]
    rw [ev, pc12_29004]
    exact h
  · rintro ⟨⟨x_3, x_29, h0, h1⟩, h⟩
    have ev : [3, 29].map σ = [(.flat (.int .i64 x_3)), (.flat (.bool x_29))] := by simp only [List.map_cons, List.map_nil, h0, h1]
    rw [ev, pc12_29004] at h
    unfold LamP12_29004
    try simp only [h0, h1, kI, kbool, kS, kptr, kaggN, kite, decide_true, eq_self]
    exact h

def lxp12_24004 : Ex → List Nat := fun e => match e with
  | .ret => [2]
  | .normal => []
  | _ => []

theorem pc12_24004 (x_3 : Int) (x_24 : Bool) (m : Mem) (k : KX) : once Try.prog E12 Lam12 [3, 24] lxp12_24004 (((secsOf (bodyOf Try.f12)).filter Lam12.cut).getD 6 .skip) [(.flat (.int .i64 x_3)), (.flat (.bool x_24))] m k = P12_24004 x_3 x_24 m (fun x_2' m' => k .ret (only [2] [(.flat (.int .i64 x_2'))]) m') (fun m' => k .normal (only [] []) m') := by
  kernel_rfl

theorem pok12_24004 : PieceOK Try.prog E12 Lam12 (((secsOf (bodyOf Try.f12)).filter Lam12.cut).getD 6 .skip) := by
  refine ⟨fun σ => ∃ x_3 x_24, σ 3 = .flat (.int .i64 x_3) ∧ σ 24 = .flat (.bool x_24), [3, 24], lxp12_24004, fun σ m k => ?_⟩
  have e : Lam12.piece (((secsOf (bodyOf Try.f12)).filter Lam12.cut).getD 6 .skip) σ m k = LamP12_24004 σ m k := by kernel_rfl
  rw [e]
  constructor
  · intro h
    unfold LamP12_24004 at h
    obtain ⟨x_3, h0, h⟩ := kI_ok h
    obtain ⟨x_24, h1, h⟩ := kbool_ok h
    refine ⟨⟨x_3, x_24, h0, h1⟩, ?_⟩
    have ev : [3, 24].map σ = [(.flat (.int .i64 x_3)), (.flat (.bool x_24))] := by simp only [List.map_cons, List.map_nil, h0, h1]
    rw [ev, pc12_24004]
    exact h
  · rintro ⟨⟨x_3, x_24, h0, h1⟩, h⟩
    have ev : [3, 24].map σ = [(.flat (.int .i64 x_3)), (.flat (.bool x_24))] := by simp only [List.map_cons, List.map_nil, h0, h1]
    rw [ev, pc12_24004] at h
    unfold LamP12_24004
    try simp only [h0, h1, kI, kbool, kS, kptr, kaggN, kite, decide_true, eq_self]
    exact h

def lxp12_21004 : Ex → List Nat := fun e => match e with
  | .ret => [2]
  | .normal => []
  | _ => []

theorem pc12_21004 (x_3 : Int) (x_21 : Bool) (m : Mem) (k : KX) : once Try.prog E12 Lam12 [3, 21] lxp12_21004 (((secsOf (bodyOf Try.f12)).filter Lam12.cut).getD 5 .skip) [(.flat (.int .i64 x_3)), (.flat (.bool x_21))] m k = P12_21004 x_3 x_21 m (fun x_2' m' => k .ret (only [2] [(.flat (.int .i64 x_2'))]) m') (fun m' => k .normal (only [] []) m') := by
  kernel_rfl

theorem pok12_21004 : PieceOK Try.prog E12 Lam12 (((secsOf (bodyOf Try.f12)).filter Lam12.cut).getD 5 .skip) := by
  refine ⟨fun σ => ∃ x_3 x_21, σ 3 = .flat (.int .i64 x_3) ∧ σ 21 = .flat (.bool x_21), [3, 21], lxp12_21004, fun σ m k => ?_⟩
  have e : Lam12.piece (((secsOf (bodyOf Try.f12)).filter Lam12.cut).getD 5 .skip) σ m k = LamP12_21004 σ m k := by kernel_rfl
  rw [e]
  constructor
  · intro h
    unfold LamP12_21004 at h
    obtain ⟨x_3, h0, h⟩ := kI_ok h
    obtain ⟨x_21, h1, h⟩ := kbool_ok h
    refine ⟨⟨x_3, x_21, h0, h1⟩, ?_⟩
    have ev : [3, 21].map σ = [(.flat (.int .i64 x_3)), (.flat (.bool x_21))] := by simp only [List.map_cons, List.map_nil, h0, h1]
    rw [ev, pc12_21004]
    exact h
  · rintro ⟨⟨x_3, x_21, h0, h1⟩, h⟩
    have ev : [3, 21].map σ = [(.flat (.int .i64 x_3)), (.flat (.bool x_21))] := by simp only [List.map_cons, List.map_nil, h0, h1]
    rw [ev, pc12_21004] at h
    unfold LamP12_21004
    try simp only [h0, h1, kI, kbool, kS, kptr, kaggN, kite, decide_true, eq_self]
    exact h

def lxp12_18004 : Ex → List Nat := fun e => match e with
  | .ret => [2]
  | .normal => []
  | _ => []

theorem pc12_18004 (x_3 : Int) (x_18 : Bool) (m : Mem) (k : KX) : once Try.prog E12 Lam12 [3, 18] lxp12_18004 (((secsOf (bodyOf Try.f12)).filter Lam12.cut).getD 4 .skip) [(.flat (.int .i64 x_3)), (.flat (.bool x_18))] m k = P12_18004 x_3 x_18 m (fun x_2' m' => k .ret (only [2] [(.flat (.int .i64 x_2'))]) m') (fun m' => k .normal (only [] []) m') := by
  kernel_rfl

theorem pok12_18004 : PieceOK Try.prog E12 Lam12 (((secsOf (bodyOf Try.f12)).filter Lam12.cut).getD 4 .skip) := by
  refine ⟨fun σ => ∃ x_3 x_18, σ 3 = .flat (.int .i64 x_3) ∧ σ 18 = .flat (.bool x_18), [3, 18], lxp12_18004, fun σ m k => ?_⟩
  have e : Lam12.piece (((secsOf (bodyOf Try.f12)).filter Lam12.cut).getD 4 .skip) σ m k = LamP12_18004 σ m k := by kernel_rfl
  rw [e]
  constructor
  · intro h
    unfold LamP12_18004 at h
    obtain ⟨x_3, h0, h⟩ := kI_ok h
    obtain ⟨x_18, h1, h⟩ := kbool_ok h
    refine ⟨⟨x_3, x_18, h0, h1⟩, ?_⟩
    have ev : [3, 18].map σ = [(.flat (.int .i64 x_3)), (.flat (.bool x_18))] := by simp only [List.map_cons, List.map_nil, h0, h1]
    rw [ev, pc12_18004]
    exact h
  · rintro ⟨⟨x_3, x_18, h0, h1⟩, h⟩
    have ev : [3, 18].map σ = [(.flat (.int .i64 x_3)), (.flat (.bool x_18))] := by simp only [List.map_cons, List.map_nil, h0, h1]
    rw [ev, pc12_18004] at h
    unfold LamP12_18004
    try simp only [h0, h1, kI, kbool, kS, kptr, kaggN, kite, decide_true, eq_self]
    exact h

def lxp12_13004 : Ex → List Nat := fun e => match e with
  | .ret => [2]
  | .normal => []
  | _ => []

theorem pc12_13004 (x_3 : Int) (x_13 : Bool) (m : Mem) (k : KX) : once Try.prog E12 Lam12 [3, 13] lxp12_13004 (((secsOf (bodyOf Try.f12)).filter Lam12.cut).getD 3 .skip) [(.flat (.int .i64 x_3)), (.flat (.bool x_13))] m k = P12_13004 x_3 x_13 m (fun x_2' m' => k .ret (only [2] [(.flat (.int .i64 x_2'))]) m') (fun m' => k .normal (only [] []) m') := by
  kernel_rfl

theorem pok12_13004 : PieceOK Try.prog E12 Lam12 (((secsOf (bodyOf Try.f12)).filter Lam12.cut).getD 3 .skip) := by
  refine ⟨fun σ => ∃ x_3 x_13, σ 3 = .flat (.int .i64 x_3) ∧ σ 13 = .flat (.bool x_13), [3, 13], lxp12_13004, fun σ m k => ?_⟩
  have e : Lam12.piece (((secsOf (bodyOf Try.f12)).filter Lam12.cut).getD 3 .skip) σ m k = LamP12_13004 σ m k := by kernel_rfl
  rw [e]
  constructor
  · intro h
    unfold LamP12_13004 at h
    obtain ⟨x_3, h0, h⟩ := kI_ok h
    obtain ⟨x_13, h1, h⟩ := kbool_ok h
    refine ⟨⟨x_3, x_13, h0, h1⟩, ?_⟩
    have ev : [3, 13].map σ = [(.flat (.int .i64 x_3)), (.flat (.bool x_13))] := by simp only [List.map_cons, List.map_nil, h0, h1]
    rw [ev, pc12_13004]
    exact h
  · rintro ⟨⟨x_3, x_13, h0, h1⟩, h⟩
    have ev : [3, 13].map σ = [(.flat (.int .i64 x_3)), (.flat (.bool x_13))] := by simp only [List.map_cons, List.map_nil, h0, h1]
    rw [ev, pc12_13004] at h
    unfold LamP12_13004
    try simp only [h0, h1, kI, kbool, kS, kptr, kaggN, kite, decide_true, eq_self]
    exact h

def lxp12_10004 : Ex → List Nat := fun e => match e with
  | .ret => [2]
  | .normal => []
  | _ => []

theorem pc12_10004 (x_3 : Int) (x_10 : Bool) (m : Mem) (k : KX) : once Try.prog E12 Lam12 [3, 10] lxp12_10004 (((secsOf (bodyOf Try.f12)).filter Lam12.cut).getD 2 .skip) [(.flat (.int .i64 x_3)), (.flat (.bool x_10))] m k = P12_10004 x_3 x_10 m (fun x_2' m' => k .ret (only [2] [(.flat (.int .i64 x_2'))]) m') (fun m' => k .normal (only [] []) m') := by
  kernel_rfl

theorem pok12_10004 : PieceOK Try.prog E12 Lam12 (((secsOf (bodyOf Try.f12)).filter Lam12.cut).getD 2 .skip) := by
  refine ⟨fun σ => ∃ x_3 x_10, σ 3 = .flat (.int .i64 x_3) ∧ σ 10 = .flat (.bool x_10), [3, 10], lxp12_10004, fun σ m k => ?_⟩
  have e : Lam12.piece (((secsOf (bodyOf Try.f12)).filter Lam12.cut).getD 2 .skip) σ m k = LamP12_10004 σ m k := by kernel_rfl
  rw [e]
  constructor
  · intro h
    unfold LamP12_10004 at h
    obtain ⟨x_3, h0, h⟩ := kI_ok h
    obtain ⟨x_10, h1, h⟩ := kbool_ok h
    refine ⟨⟨x_3, x_10, h0, h1⟩, ?_⟩
    have ev : [3, 10].map σ = [(.flat (.int .i64 x_3)), (.flat (.bool x_10))] := by simp only [List.map_cons, List.map_nil, h0, h1]
    rw [ev, pc12_10004]
    exact h
  · rintro ⟨⟨x_3, x_10, h0, h1⟩, h⟩
    have ev : [3, 10].map σ = [(.flat (.int .i64 x_3)), (.flat (.bool x_10))] := by simp only [List.map_cons, List.map_nil, h0, h1]
    rw [ev, pc12_10004] at h
    unfold LamP12_10004
    try simp only [h0, h1, kI, kbool, kS, kptr, kaggN, kite, decide_true, eq_self]
    exact h

def lxp12_7004 : Ex → List Nat := fun e => match e with
  | .ret => [2]
  | .normal => []
  | _ => []

theorem pc12_7004 (x_3 : Int) (x_7 : Bool) (m : Mem) (k : KX) : once Try.prog E12 Lam12 [3, 7] lxp12_7004 (((secsOf (bodyOf Try.f12)).filter Lam12.cut).getD 1 .skip) [(.flat (.int .i64 x_3)), (.flat (.bool x_7))] m k = P12_7004 x_3 x_7 m (fun x_2' m' => k .ret (only [2] [(.flat (.int .i64 x_2'))]) m') (fun m' => k .normal (only [] []) m') := by
  kernel_rfl

theorem pok12_7004 : PieceOK Try.prog E12 Lam12 (((secsOf (bodyOf Try.f12)).filter Lam12.cut).getD 1 .skip) := by
  refine ⟨fun σ => ∃ x_3 x_7, σ 3 = .flat (.int .i64 x_3) ∧ σ 7 = .flat (.bool x_7), [3, 7], lxp12_7004, fun σ m k => ?_⟩
  have e : Lam12.piece (((secsOf (bodyOf Try.f12)).filter Lam12.cut).getD 1 .skip) σ m k = LamP12_7004 σ m k := by kernel_rfl
  rw [e]
  constructor
  · intro h
    unfold LamP12_7004 at h
    obtain ⟨x_3, h0, h⟩ := kI_ok h
    obtain ⟨x_7, h1, h⟩ := kbool_ok h
    refine ⟨⟨x_3, x_7, h0, h1⟩, ?_⟩
    have ev : [3, 7].map σ = [(.flat (.int .i64 x_3)), (.flat (.bool x_7))] := by simp only [List.map_cons, List.map_nil, h0, h1]
    rw [ev, pc12_7004]
    exact h
  · rintro ⟨⟨x_3, x_7, h0, h1⟩, h⟩
    have ev : [3, 7].map σ = [(.flat (.int .i64 x_3)), (.flat (.bool x_7))] := by simp only [List.map_cons, List.map_nil, h0, h1]
    rw [ev, pc12_7004] at h
    unfold LamP12_7004
    try simp only [h0, h1, kI, kbool, kS, kptr, kaggN, kite, decide_true, eq_self]
    exact h

def lxp12_4004 : Ex → List Nat := fun e => match e with
  | .ret => [2]
  | .normal => []
  | _ => []

theorem pc12_4004 (x_3 : Int) (x_4 : Bool) (m : Mem) (k : KX) : once Try.prog E12 Lam12 [3, 4] lxp12_4004 (((secsOf (bodyOf Try.f12)).filter Lam12.cut).getD 0 .skip) [(.flat (.int .i64 x_3)), (.flat (.bool x_4))] m k = P12_4004 x_3 x_4 m (fun x_2' m' => k .ret (only [2] [(.flat (.int .i64 x_2'))]) m') (fun m' => k .normal (only [] []) m') := by
  kernel_rfl

theorem pok12_4004 : PieceOK Try.prog E12 Lam12 (((secsOf (bodyOf Try.f12)).filter Lam12.cut).getD 0 .skip) := by
  refine ⟨fun σ => ∃ x_3 x_4, σ 3 = .flat (.int .i64 x_3) ∧ σ 4 = .flat (.bool x_4), [3, 4], lxp12_4004, fun σ m k => ?_⟩
  have e : Lam12.piece (((secsOf (bodyOf Try.f12)).filter Lam12.cut).getD 0 .skip) σ m k = LamP12_4004 σ m k := by kernel_rfl
  rw [e]
  constructor
  · intro h
    unfold LamP12_4004 at h
    obtain ⟨x_3, h0, h⟩ := kI_ok h
    obtain ⟨x_4, h1, h⟩ := kbool_ok h
    refine ⟨⟨x_3, x_4, h0, h1⟩, ?_⟩
    have ev : [3, 4].map σ = [(.flat (.int .i64 x_3)), (.flat (.bool x_4))] := by simp only [List.map_cons, List.map_nil, h0, h1]
    rw [ev, pc12_4004]
    exact h
  · rintro ⟨⟨x_3, x_4, h0, h1⟩, h⟩
    have ev : [3, 4].map σ = [(.flat (.int .i64 x_3)), (.flat (.bool x_4))] := by simp only [List.map_cons, List.map_nil, h0, h1]
    rw [ev, pc12_4004] at h
    unfold LamP12_4004
    try simp only [h0, h1, kI, kbool, kS, kptr, kaggN, kite, decide_true, eq_self]
    exact h

theorem eqn12 (x_0 : Int) (m : Mem) (k : KV) : bodyK Try.prog E12 Lam12 Try.f12 true [(.flat (.int .i64 x_0))] m k = F12 x_0 m (fun x_1000 m' => k (.flat (.int .i64 x_1000)) m') := by
  kernel_rfl

theorem fs12 (w0 : World) : FS Try.prog w0 12 G12 := by
  refine (fs_body (Γ := E12) (sound_env (l := []) w0 (by
    intro p hp
    cases hp)) (by kernel_rfl) Try.func12 (Λ := Lam12) (c := (bodyOf Try.f12)) (by kernel_rfl) Try.call12 (by kernel_rfl) (LS_of (bodyOf Try.f12) 0 (by kernel_rfl) (fun i hi => absurd hi (Nat.not_lt_zero i)) 9 (by kernel_rfl) (by
    intro i hi
    match i, hi with
    | 0, _ => exact pok12_4004
    | 1, _ => exact pok12_7004
    | 2, _ => exact pok12_10004
    | 3, _ => exact pok12_13004
    | 4, _ => exact pok12_18004
    | 5, _ => exact pok12_21004
    | 6, _ => exact pok12_24004
    | 7, _ => exact pok12_29004
    | 8, _ => exact pok12_32004
    | i + 9, hi => omega)) true (np := 1) (Nat.le_of_ble_eq_true (by kernel_rfl))).imp fun args => ?_
  by_cases hl : args.length = 1
  rotate_left
  · exact .inr fun m k hk => by
      unfold G12 at hk
      split at hk
      · exact hl rfl
      · exact hk
  obtain ⟨a0, rfl⟩ : ∃ a0, args = [a0] := len_list1 hl
  rcases kI_or .i64 a0 with ⟨x_0, rfl⟩ | h
  rotate_left
  · exact .inr fun m k hk => h _ (by simpa only [G12, kI, kbool, kS, kptr, kaggN, kite, decide_true, eq_self] using hk)
  exact .inl fun m k => propext ⟨fun h => ⟨rfl, by rw [eqn12]; simpa only [G12, kI, kbool, kS, kptr, kaggN, kite, decide_true, eq_self] using h⟩, fun h => by have h := h.2; rw [eqn12] at h; simpa only [G12, kI, kbool, kS, kptr, kaggN, kite, decide_true, eq_self] using h⟩

def E23 : Env := envOf []

/-- pianola/alu.Is -/
def F23 (x_0 : Int) (m : Mem) (k : Bool → Mem → Prop) : Prop :=
  kif (decide (x_0 ≥ 1)) (kif (decide (x_0 ≤ 6)) ((Keeps m m ∧ k true m)) (kif (decide (x_0 ≥ 22)) (kif (decide (x_0 ≤ 31)) ((Keeps m m ∧ k true m)) (kif (decide (x_0 ≥ 46)) (kif (decide (x_0 ≤ 53)) ((Keeps m m ∧ k true m)) (kif (decide (x_0 ≥ 63)) ((Keeps m m ∧ k (decide (x_0 ≤ 65)) m)) ((Keeps m m ∧ k false m)))) (kif (decide (x_0 ≥ 63)) ((Keeps m m ∧ k (decide (x_0 ≤ 65)) m)) ((Keeps m m ∧ k false m))))) (kif (decide (x_0 ≥ 46)) (kif (decide (x_0 ≤ 53)) ((Keeps m m ∧ k true m)) (kif (decide (x_0 ≥ 63)) ((Keeps m m ∧ k (decide (x_0 ≤ 65)) m)) ((Keeps m m ∧ k false m)))) (kif (decide (x_0 ≥ 63)) ((Keeps m m ∧ k (decide (x_0 ≤ 65)) m)) ((Keeps m m ∧ k false m)))))) (kif (decide (x_0 ≥ 22)) (kif (decide (x_0 ≤ 31)) ((Keeps m m ∧ k true m)) (kif (decide (x_0 ≥ 46)) (kif (decide (x_0 ≤ 53)) ((Keeps m m ∧ k true m)) (kif (decide (x_0 ≥ 63)) ((Keeps m m ∧ k (decide (x_0 ≤ 65)) m)) ((Keeps m m ∧ k false m)))) (kif (decide (x_0 ≥ 63)) ((Keeps m m ∧ k (decide (x_0 ≤ 65)) m)) ((Keeps m m ∧ k false m))))) (kif (decide (x_0 ≥ 46)) (kif (decide (x_0 ≤ 53)) ((Keeps m m ∧ k true m)) (kif (decide (x_0 ≥ 63)) ((Keeps m m ∧ k (decide (x_0 ≤ 65)) m)) ((Keeps m m ∧ k false m)))) (kif (decide (x_0 ≥ 63)) ((Keeps m m ∧ k (decide (x_0 ≤ 65)) m)) ((Keeps m m ∧ k false m)))))

def G23 (args : List AV) (m : Mem) (k : KV) : Prop := match args with
  | [a0] => kI .i64 a0 fun x_0 => F23 x_0 m (fun x_1000 m' => k (.flat (.bool x_1000)) m')
  | _ => False

def Lam23 : LEnv := ⟨fun a σ m k => match firstReg a with
  | _ => bump False,
  fun id => match id with
  | _ => bump false,
  fun b => match keyC b with
  | _ => bump false,
  fun b σ m k => match keyC b with
  | _ => bump False⟩

theorem eqn23 (x_0 : Int) (m : Mem) (k : KV) : bodyK Try.prog E23 Lam23 Try.f23 true [(.flat (.int .i64 x_0))] m k = F23 x_0 m (fun x_1000 m' => k (.flat (.bool x_1000)) m') := by
  kernel_rfl

theorem fs23 (w0 : World) : FS Try.prog w0 23 G23 := by
  refine (fs_body (Γ := E23) (sound_env (l := []) w0 (by
    intro p hp
    cases hp)) (by kernel_rfl) Try.func23 (Λ := Lam23) (c := (bodyOf Try.f23)) (by kernel_rfl) Try.call23 (by kernel_rfl) (LS_of (bodyOf Try.f23) 0 (by kernel_rfl) (fun i hi => absurd hi (Nat.not_lt_zero i)) 0 (by kernel_rfl) (fun i hi => absurd hi (Nat.not_lt_zero i))) true (np := 1) (Nat.le_of_ble_eq_true (by kernel_rfl))).imp fun args => ?_
  by_cases hl : args.length = 1
  rotate_left
  · exact .inr fun m k hk => by
      unfold G23 at hk
      split at hk
      · exact hl rfl
      · exact hk
  obtain ⟨a0, rfl⟩ : ∃ a0, args = [a0] := len_list1 hl
  rcases kI_or .i64 a0 with ⟨x_0, rfl⟩ | h
  rotate_left
  · exact .inr fun m k hk => h _ (by simpa only [G23, kI, kbool, kS, kptr, kaggN, kite, decide_true, eq_self] using hk)
  exact .inl fun m k => propext ⟨fun h => ⟨rfl, by rw [eqn23]; simpa only [G23, kI, kbool, kS, kptr, kaggN, kite, decide_true, eq_self] using h⟩, fun h => by have h := h.2; rw [eqn23] at h; simpa only [G23, kI, kbool, kS, kptr, kaggN, kite, decide_true, eq_self] using h⟩

def E13 : Env := envOf [(23, G23)]

/-- pianola/alu.Into -/
def F13 (c_0 : Nat → AV) (m : Mem) (k : Int → Mem → Prop) : Prop :=
  newK m ⟨6, c_0, 27, false⟩ fun b2 m1 => ldI .i64 m1 b2 0 fun x3 => F23 x3 m1 fun x4 m5 => kif (!x4) ((Keeps m m5 ∧ k 0 m)) (ldI .i64 m5 b2 0 fun x6 => kif (decide (x6 ≥ 46)) (ldI .i64 m5 b2 0 fun x7 => kif (decide (x7 ≤ 53)) (ldI .i64 m5 b2 2 fun x8 => (Keeps m m5 ∧ k x8 m)) (ldI .i64 m5 b2 3 fun x9 => (Keeps m m5 ∧ k x9 m))) (ldI .i64 m5 b2 3 fun x10 => (Keeps m m5 ∧ k x10 m)))

def G13 (args : List AV) (m : Mem) (k : KV) : Prop := match args with
  | [a0] => kaggN 6 a0 fun c_0 => F13 c_0 m (fun x_1000 m' => k (.flat (.int .i64 x_1000)) m')
  | _ => False

def Lam13 : LEnv := ⟨fun a σ m k => match firstReg a with
  | _ => bump False,
  fun id => match id with
  | _ => bump false,
  fun b => match keyC b with
  | _ => bump false,
  fun b σ m k => match keyC b with
  | _ => bump False⟩

theorem eqn13 (c_0 : Nat → AV) (m : Mem) (k : KV) : bodyK Try.prog E13 Lam13 Try.f13 true [(.agg 6 c_0)] m k = F13 c_0 m (fun x_1000 m' => k (.flat (.int .i64 x_1000)) m') := by
  kernel_rfl

theorem fs13 (w0 : World) : FS Try.prog w0 13 G13 := by
  refine (fs_body (Γ := E13) (sound_env (l := [(23, G23)]) w0 (by
    intro p hp
    simp only [List.mem_cons, List.not_mem_nil, or_false] at hp
    rcases hp with rfl
    · exact fs23 w0)) (by kernel_rfl) Try.func13 (Λ := Lam13) (c := (bodyOf Try.f13)) (by kernel_rfl) Try.call13 (by kernel_rfl) (LS_of (bodyOf Try.f13) 0 (by kernel_rfl) (fun i hi => absurd hi (Nat.not_lt_zero i)) 0 (by kernel_rfl) (fun i hi => absurd hi (Nat.not_lt_zero i))) true (np := 1) (Nat.le_of_ble_eq_true (by kernel_rfl))).imp fun args => ?_
  by_cases hl : args.length = 1
  rotate_left
  · exact .inr fun m k hk => by
      unfold G13 at hk
      split at hk
      · exact hl rfl
      · exact hk
  obtain ⟨a0, rfl⟩ : ∃ a0, args = [a0] := len_list1 hl
  rcases kaggN_or 6 a0 with ⟨c_0, rfl⟩ | h
  rotate_left
  · exact .inr fun m k hk => h _ (by simpa only [G13, kI, kbool, kS, kptr, kaggN, kite, decide_true, eq_self] using hk)
  exact .inl fun m k => propext ⟨fun h => ⟨rfl, by rw [eqn13]; simpa only [G13, kI, kbool, kS, kptr, kaggN, kite, decide_true, eq_self] using h⟩, fun h => by have h := h.2; rw [eqn13] at h; simpa only [G13, kI, kbool, kS, kptr, kaggN, kite, decide_true, eq_self] using h⟩

def E41 : Env := envOf []

/-- pianola/word.Sar -/
def F41 (x_0 : Int) (x_1 : Int) (m : Mem) (k : Int → Mem → Prop) : Prop :=
  kif (decide (bits .and .i64 x_1 31 < 0)) False ((Keeps m m ∧ k (IntKind.wrap .u32 ((IntKind.wrap .i32 x_0).fdiv (2 ^ min (bits .and .i64 x_1 31).toNat 32))) m))

def G41 (args : List AV) (m : Mem) (k : KV) : Prop := match args with
  | [a0, a1] => kI .u32 a0 fun x_0 => kI .i64 a1 fun x_1 => F41 x_0 x_1 m (fun x_1000 m' => k (.flat (.int .u32 x_1000)) m')
  | _ => False

def Lam41 : LEnv := ⟨fun a σ m k => match firstReg a with
  | _ => bump False,
  fun id => match id with
  | _ => bump false,
  fun b => match keyC b with
  | _ => bump false,
  fun b σ m k => match keyC b with
  | _ => bump False⟩

theorem eqn41 (x_0 : Int) (x_1 : Int) (m : Mem) (k : KV) : bodyK Try.prog E41 Lam41 Try.f41 true [(.flat (.int .u32 x_0)), (.flat (.int .i64 x_1))] m k = F41 x_0 x_1 m (fun x_1000 m' => k (.flat (.int .u32 x_1000)) m') := by
  kernel_rfl

theorem fs41 (w0 : World) : FS Try.prog w0 41 G41 := by
  refine (fs_body (Γ := E41) (sound_env (l := []) w0 (by
    intro p hp
    cases hp)) (by kernel_rfl) Try.func41 (Λ := Lam41) (c := (bodyOf Try.f41)) (by kernel_rfl) Try.call41 (by kernel_rfl) (LS_of (bodyOf Try.f41) 0 (by kernel_rfl) (fun i hi => absurd hi (Nat.not_lt_zero i)) 0 (by kernel_rfl) (fun i hi => absurd hi (Nat.not_lt_zero i))) true (np := 2) (Nat.le_of_ble_eq_true (by kernel_rfl))).imp fun args => ?_
  by_cases hl : args.length = 2
  rotate_left
  · exact .inr fun m k hk => by
      unfold G41 at hk
      split at hk
      · exact hl rfl
      · exact hk
  obtain ⟨a0, a1, rfl⟩ : ∃ a0 a1, args = [a0, a1] := len_list2 hl
  rcases kI_or .u32 a0 with ⟨x_0, rfl⟩ | h
  rotate_left
  · exact .inr fun m k hk => h _ (by simpa only [G41, kI, kbool, kS, kptr, kaggN, kite, decide_true, eq_self] using hk)
  rcases kI_or .i64 a1 with ⟨x_1, rfl⟩ | h
  rotate_left
  · exact .inr fun m k hk => h _ (by simpa only [G41, kI, kbool, kS, kptr, kaggN, kite, decide_true, eq_self] using hk)
  exact .inl fun m k => propext ⟨fun h => ⟨rfl, by rw [eqn41]; simpa only [G41, kI, kbool, kS, kptr, kaggN, kite, decide_true, eq_self] using h⟩, fun h => by have h := h.2; rw [eqn41] at h; simpa only [G41, kI, kbool, kS, kptr, kaggN, kite, decide_true, eq_self] using h⟩

def E24 : Env := envOf [(41, G41)]

/-- pianola/word.Sign -/
def F24 (x_0 : Int) (x_1 : Int) (m : Mem) (k : Int → Mem → Prop) : Prop :=
  kif (decide (x_1 < 1)) ((Keeps m m ∧ k 0 m)) (kif (decide (x_1 > 31)) ((Keeps m m ∧ k x_0 m)) (kif (decide (IntKind.wrap .i64 (32 - x_1) < 0)) False (F41 (IntKind.wrap .u32 (x_0 * 2 ^ min (IntKind.wrap .i64 (32 - x_1)).toNat 32)) (IntKind.wrap .i64 (32 - x_1)) m fun x1 m2 => (Keeps m m2 ∧ k x1 m))))

def G24 (args : List AV) (m : Mem) (k : KV) : Prop := match args with
  | [a0, a1] => kI .u32 a0 fun x_0 => kI .i64 a1 fun x_1 => F24 x_0 x_1 m (fun x_1000 m' => k (.flat (.int .u32 x_1000)) m')
  | _ => False

def Lam24 : LEnv := ⟨fun a σ m k => match firstReg a with
  | _ => bump False,
  fun id => match id with
  | _ => bump false,
  fun b => match keyC b with
  | _ => bump false,
  fun b σ m k => match keyC b with
  | _ => bump False⟩

theorem eqn24 (x_0 : Int) (x_1 : Int) (m : Mem) (k : KV) : bodyK Try.prog E24 Lam24 Try.f24 true [(.flat (.int .u32 x_0)), (.flat (.int .i64 x_1))] m k = F24 x_0 x_1 m (fun x_1000 m' => k (.flat (.int .u32 x_1000)) m') := by
  kernel_rfl

theorem fs24 (w0 : World) : FS Try.prog w0 24 G24 := by
  refine (fs_body (Γ := E24) (sound_env (l := [(41, G41)]) w0 (by
    intro p hp
    simp only [List.mem_cons, List.not_mem_nil, or_false] at hp
    rcases hp with rfl
    · exact fs41 w0)) (by kernel_rfl) Try.func24 (Λ := Lam24) (c := (bodyOf Try.f24)) (by kernel_rfl) Try.call24 (by kernel_rfl) (LS_of (bodyOf Try.f24) 0 (by kernel_rfl) (fun i hi => absurd hi (Nat.not_lt_zero i)) 0 (by kernel_rfl) (fun i hi => absurd hi (Nat.not_lt_zero i))) true (np := 2) (Nat.le_of_ble_eq_true (by kernel_rfl))).imp fun args => ?_
  by_cases hl : args.length = 2
  rotate_left
  · exact .inr fun m k hk => by
      unfold G24 at hk
      split at hk
      · exact hl rfl
      · exact hk
  obtain ⟨a0, a1, rfl⟩ : ∃ a0 a1, args = [a0, a1] := len_list2 hl
  rcases kI_or .u32 a0 with ⟨x_0, rfl⟩ | h
  rotate_left
  · exact .inr fun m k hk => h _ (by simpa only [G24, kI, kbool, kS, kptr, kaggN, kite, decide_true, eq_self] using hk)
  rcases kI_or .i64 a1 with ⟨x_1, rfl⟩ | h
  rotate_left
  · exact .inr fun m k hk => h _ (by simpa only [G24, kI, kbool, kS, kptr, kaggN, kite, decide_true, eq_self] using hk)
  exact .inl fun m k => propext ⟨fun h => ⟨rfl, by rw [eqn24]; simpa only [G24, kI, kbool, kS, kptr, kaggN, kite, decide_true, eq_self] using h⟩, fun h => by have h := h.2; rw [eqn24] at h; simpa only [G24, kI, kbool, kS, kptr, kaggN, kite, decide_true, eq_self] using h⟩

def E14 : Env := envOf [(24, G24)]

/-- pianola/lift.imm -/
def F14 (c_0 : Nat → AV) (m : Mem) (k : Int → Mem → Prop) : Prop :=
  newK m ⟨6, c_0, 27, false⟩ fun b2 m1 => ldI .i64 m1 b2 0 fun x3 => kif (x3 == 50) (ldI .u32 m1 b2 5 fun x6 => (Keeps m m1 ∧ k x6 m)) (ldI .i64 m1 b2 0 fun x4 => kif (x4 == 51) (ldI .u32 m1 b2 5 fun x7 => (Keeps m m1 ∧ k x7 m)) (ldI .i64 m1 b2 0 fun x5 => kif (x5 == 52) (ldI .u32 m1 b2 5 fun x8 => (Keeps m m1 ∧ k x8 m)) (ldI .u32 m1 b2 5 fun x9 => F24 x9 16 m1 fun x10 m11 => (Keeps m m11 ∧ k x10 m))))

def G14 (args : List AV) (m : Mem) (k : KV) : Prop := match args with
  | [a0] => kaggN 6 a0 fun c_0 => F14 c_0 m (fun x_1000 m' => k (.flat (.int .u32 x_1000)) m')
  | _ => False

def Lam14 : LEnv := ⟨fun a σ m k => match firstReg a with
  | _ => bump False,
  fun id => match id with
  | _ => bump false,
  fun b => match keyC b with
  | _ => bump false,
  fun b σ m k => match keyC b with
  | _ => bump False⟩

theorem eqn14 (c_0 : Nat → AV) (m : Mem) (k : KV) : bodyK Try.prog E14 Lam14 Try.f14 true [(.agg 6 c_0)] m k = F14 c_0 m (fun x_1000 m' => k (.flat (.int .u32 x_1000)) m') := by
  kernel_rfl

theorem fs14 (w0 : World) : FS Try.prog w0 14 G14 := by
  refine (fs_body (Γ := E14) (sound_env (l := [(24, G24)]) w0 (by
    intro p hp
    simp only [List.mem_cons, List.not_mem_nil, or_false] at hp
    rcases hp with rfl
    · exact fs24 w0)) (by kernel_rfl) Try.func14 (Λ := Lam14) (c := (bodyOf Try.f14)) (by kernel_rfl) Try.call14 (by kernel_rfl) (LS_of (bodyOf Try.f14) 0 (by kernel_rfl) (fun i hi => absurd hi (Nat.not_lt_zero i)) 0 (by kernel_rfl) (fun i hi => absurd hi (Nat.not_lt_zero i))) true (np := 1) (Nat.le_of_ble_eq_true (by kernel_rfl))).imp fun args => ?_
  by_cases hl : args.length = 1
  rotate_left
  · exact .inr fun m k hk => by
      unfold G14 at hk
      split at hk
      · exact hl rfl
      · exact hk
  obtain ⟨a0, rfl⟩ : ∃ a0, args = [a0] := len_list1 hl
  rcases kaggN_or 6 a0 with ⟨c_0, rfl⟩ | h
  rotate_left
  · exact .inr fun m k hk => h _ (by simpa only [G14, kI, kbool, kS, kptr, kaggN, kite, decide_true, eq_self] using hk)
  exact .inl fun m k => propext ⟨fun h => ⟨rfl, by rw [eqn14]; simpa only [G14, kI, kbool, kS, kptr, kaggN, kite, decide_true, eq_self] using h⟩, fun h => by have h := h.2; rw [eqn14] at h; simpa only [G14, kI, kbool, kS, kptr, kaggN, kite, decide_true, eq_self] using h⟩

end Go.Proofs.Ytkgidjnaddjjbaa.Am
