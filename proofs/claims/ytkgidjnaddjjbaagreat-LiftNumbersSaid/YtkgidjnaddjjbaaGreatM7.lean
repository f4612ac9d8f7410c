/- What Go functions ask of what follows them, as plain functions over the abstract machine; the machine asks just that. Written by gen.py. -/
import Derived.Test.YtkgidjnaddjjbaaGreatProg
import Derived.Test.YtkgidjnaddjjbaaGreatAmL
import Derived.Test.YtkgidjnaddjjbaaGreatM6
namespace Go.Proofs.YtkgidjnaddjjbaaGreat.Am
set_option linter.unusedVariables false
set_option linter.unusedSimpArgs false
set_option maxRecDepth 100000

def E73 : Env := envOf [(50, G50), (51, G51), (52, G52), (53, G53), (62, G62), (101, G101), (102, G102)]

def P73_34004 (x_1 : Int) (x_2 : Int) (b_3 o_3 : Nat) (x_8 : Int) (x_9 : Int) (x_19 : Int) (x_92 : Bool) (m : Mem) (kr : Int → Bool → Mem → Prop) (kn : Mem → Prop) : Prop :=
  kif x_92 (ldI .i64 m b_3 (o_3 + 0) fun x20 => F50 x_1 x_8 (x20 == 48) m fun x21 m22 => F102 x21 m22 fun x23 m24 => kr x23 true m24) (kif (x_19 == 50) (kr (bits .and .u32 x_1 x_9) true m) (kif (x_19 == 51) (kr (bits .or .u32 x_1 x_9) true m) (kif (x_19 == 52) (kr (bits .xor .u32 x_1 x_9) true m) (kif (x_19 == 53) (kr (IntKind.wrap .u32 (x_9 * 65536)) true m) (kif (x_19 == 63) (F51 x_1 x_2 true m fun x25 x26 m27 => kr x26 true m27) (kif (x_19 == 64) (F52 x_1 m fun x28 m29 => kr (IntKind.wrap .u32 x28) true m29) (kif (x_19 == 65) (F53 x_1 m fun x30 m31 => kr (IntKind.wrap .u32 x30) true m31) (kn  m))))))))

def P73_31004 (x_1 : Int) (x_2 : Int) (b_3 o_3 : Nat) (x_8 : Int) (x_9 : Int) (x_19 : Int) (x_86 : Bool) (m : Mem) (kr : Int → Bool → Mem → Prop) (kn : Mem → Prop) : Prop :=
  kif x_86 (kr (IntKind.wrap .u32 (x_1 + x_8)) true m) (kif (x_19 == 48) (P73_34004 x_1 x_2 b_3 o_3 x_8 x_9 x_19 (x_19 == 48) m (fun x32 x33 m34 => kr x32 x33 m34) (fun m35 => kn  m35)) (P73_34004 x_1 x_2 b_3 o_3 x_8 x_9 x_19 (x_19 == 49) m (fun x36 x37 m38 => kr x36 x37 m38) (fun m39 => kn  m39)))

def P73_28004 (x_1 : Int) (x_2 : Int) (b_3 o_3 : Nat) (x_8 : Int) (x_9 : Int) (x_19 : Int) (x_76 : Bool) (m : Mem) (kr : Int → Bool → Mem → Prop) (kn : Mem → Prop) : Prop :=
  kif x_76 (ldI .i64 m b_3 (o_3 + 0) fun x15 => F50 x_1 x_2 (x15 == 30) m fun x16 m17 => F102 x16 m17 fun x18 m19 => kr x18 true m19) (kif (x_19 == 46) (P73_31004 x_1 x_2 b_3 o_3 x_8 x_9 x_19 (x_19 == 46) m (fun x40 x41 m42 => kr x40 x41 m42) (fun m43 => kn  m43)) (P73_31004 x_1 x_2 b_3 o_3 x_8 x_9 x_19 (x_19 == 47) m (fun x44 x45 m46 => kr x44 x45 m46) (fun m47 => kn  m47)))

def P73_17004 (x_1 : Int) (x_2 : Int) (b_3 o_3 : Nat) (x_8 : Int) (x_9 : Int) (x_19 : Int) (x_49 : Bool) (m : Mem) (kr : Int → Bool → Mem → Prop) (kn : Mem → Prop) : Prop :=
  kif x_49 (kr (IntKind.wrap .u32 (x_1 - x_2)) true m) (kif (x_19 == 26) (kr (bits .and .u32 x_1 x_2) true m) (kif (x_19 == 27) (kr (bits .or .u32 x_1 x_2) true m) (kif (x_19 == 28) (kr (bits .xor .u32 x_1 x_2) true m) (kif (x_19 == 29) (kr (bits .xor .u32 4294967295 (bits .or .u32 x_1 x_2)) true m) (kif (x_19 == 30) (P73_28004 x_1 x_2 b_3 o_3 x_8 x_9 x_19 (x_19 == 30) m (fun x48 x49 m50 => kr x48 x49 m50) (fun m51 => kn  m51)) (P73_28004 x_1 x_2 b_3 o_3 x_8 x_9 x_19 (x_19 == 31) m (fun x52 x53 m54 => kr x52 x53 m54) (fun m55 => kn  m55)))))))

def P73_14004 (x_1 : Int) (x_2 : Int) (b_3 o_3 : Nat) (x_8 : Int) (x_9 : Int) (x_19 : Int) (x_43 : Bool) (m : Mem) (kr : Int → Bool → Mem → Prop) (kn : Mem → Prop) : Prop :=
  kif x_43 (kr (IntKind.wrap .u32 (x_1 + x_2)) true m) (kif (x_19 == 24) (P73_17004 x_1 x_2 b_3 o_3 x_8 x_9 x_19 (x_19 == 24) m (fun x56 x57 m58 => kr x56 x57 m58) (fun m59 => kn  m59)) (P73_17004 x_1 x_2 b_3 o_3 x_8 x_9 x_19 (x_19 == 25) m (fun x60 x61 m62 => kr x60 x61 m62) (fun m63 => kn  m63)))

def P73_11004 (x_1 : Int) (x_2 : Int) (b_3 o_3 : Nat) (x_8 : Int) (x_9 : Int) (x_19 : Int) (x_31 : Bool) (m : Mem) (kr : Int → Bool → Mem → Prop) (kn : Mem → Prop) : Prop :=
  kif x_31 (ldI .i64 m b_3 (o_3 + 0) fun x12 => F101 (IntKind.wrap .i64 (x12 - 4)) x_2 (IntKind.wrap .i64 (x_1.tmod 32)) m fun x13 m14 => kr x13 true m14) (kif (x_19 == 22) (P73_14004 x_1 x_2 b_3 o_3 x_8 x_9 x_19 (x_19 == 22) m (fun x64 x65 m66 => kr x64 x65 m66) (fun m67 => kn  m67)) (P73_14004 x_1 x_2 b_3 o_3 x_8 x_9 x_19 (x_19 == 23) m (fun x68 x69 m70 => kr x68 x69 m70) (fun m71 => kn  m71)))

def P73_7004 (x_1 : Int) (x_2 : Int) (b_3 o_3 : Nat) (x_8 : Int) (x_9 : Int) (x_19 : Int) (x_20 : Bool) (m : Mem) (kr : Int → Bool → Mem → Prop) (kn : Mem → Prop) : Prop :=
  kif x_20 (ldI .i64 m b_3 (o_3 + 0) fun x8 => ldI .i64 m b_3 (o_3 + 4) fun x9 => F101 (IntKind.wrap .i64 (x8 - 1)) x_2 x9 m fun x10 m11 => kr x10 true m11) (kif (x_19 == 4) (P73_11004 x_1 x_2 b_3 o_3 x_8 x_9 x_19 (x_19 == 4) m (fun x72 x73 m74 => kr x72 x73 m74) (fun m75 => kn  m75)) (kif (x_19 == 5) (P73_11004 x_1 x_2 b_3 o_3 x_8 x_9 x_19 (x_19 == 5) m (fun x76 x77 m78 => kr x76 x77 m78) (fun m79 => kn  m79)) (P73_11004 x_1 x_2 b_3 o_3 x_8 x_9 x_19 (x_19 == 6) m (fun x80 x81 m82 => kr x80 x81 m82) (fun m83 => kn  m83))))

/-- pianola/pianolaref4.Do -/
def F73 (c_0 : Nat → AV) (x_1 : Int) (x_2 : Int) (m : Mem) (k : Int → Bool → Mem → Prop) : Prop :=
  newK m ⟨6, c_0, 25, false⟩ fun b2 m1 => ldI .u32 m1 b2 5 fun x3 => F62 x3 16 m1 fun x4 m5 => ldI .u32 m5 b2 5 fun x6 => ldI .i64 m5 b2 0 fun x7 => kif (x7 == 1) (P73_7004 x_1 x_2 b2 0 x4 (bits .and .u32 x6 65535) x7 (x7 == 1) m5 (fun x84 x85 m86 => (Keeps m m86 ∧ k x84 x85 m)) (fun m87 => (Keeps m m87 ∧ k 0 false m))) (kif (x7 == 2) (P73_7004 x_1 x_2 b2 0 x4 (bits .and .u32 x6 65535) x7 (x7 == 2) m5 (fun x88 x89 m90 => (Keeps m m90 ∧ k x88 x89 m)) (fun m91 => (Keeps m m91 ∧ k 0 false m))) (P73_7004 x_1 x_2 b2 0 x4 (bits .and .u32 x6 65535) x7 (x7 == 3) m5 (fun x92 x93 m94 => (Keeps m m94 ∧ k x92 x93 m)) (fun m95 => (Keeps m m95 ∧ k 0 false m))))

def G73 (args : List AV) (m : Mem) (k : KV) : Prop := match args with
  | [a0, a1, a2] => kaggN 6 a0 fun c_0 => kI .u32 a1 fun x_1 => kI .u32 a2 fun x_2 => F73 c_0 x_1 x_2 m (fun x_1000 x_1001 m' => k (.tup [(.flat (.int .u32 x_1000)), (.flat (.bool x_1001))]) m')
  | _ => False

def LamP73_7004 (σ : Nat → AV) (m : Mem) (k : KX) : Prop := kI .u32 (σ 1) fun x_1 => kI .u32 (σ 2) fun x_2 => kptr (σ 3) fun b_3 o_3 => kI .u32 (σ 8) fun x_8 => kI .u32 (σ 9) fun x_9 => kI .i64 (σ 19) fun x_19 => kbool (σ 20) fun x_20 => P73_7004 x_1 x_2 b_3 o_3 x_8 x_9 x_19 x_20 m (fun x_6' x_7' m' => k .ret (only [6, 7] [(.flat (.int .u32 x_6')), (.flat (.bool x_7'))]) m') (fun m' => k .normal (only [] []) m')

def LamP73_11004 (σ : Nat → AV) (m : Mem) (k : KX) : Prop := kI .u32 (σ 1) fun x_1 => kI .u32 (σ 2) fun x_2 => kptr (σ 3) fun b_3 o_3 => kI .u32 (σ 8) fun x_8 => kI .u32 (σ 9) fun x_9 => kI .i64 (σ 19) fun x_19 => kbool (σ 31) fun x_31 => P73_11004 x_1 x_2 b_3 o_3 x_8 x_9 x_19 x_31 m (fun x_6' x_7' m' => k .ret (only [6, 7] [(.flat (.int .u32 x_6')), (.flat (.bool x_7'))]) m') (fun m' => k .normal (only [] []) m')

def LamP73_14004 (σ : Nat → AV) (m : Mem) (k : KX) : Prop := kI .u32 (σ 1) fun x_1 => kI .u32 (σ 2) fun x_2 => kptr (σ 3) fun b_3 o_3 => kI .u32 (σ 8) fun x_8 => kI .u32 (σ 9) fun x_9 => kI .i64 (σ 19) fun x_19 => kbool (σ 43) fun x_43 => P73_14004 x_1 x_2 b_3 o_3 x_8 x_9 x_19 x_43 m (fun x_6' x_7' m' => k .ret (only [6, 7] [(.flat (.int .u32 x_6')), (.flat (.bool x_7'))]) m') (fun m' => k .normal (only [] []) m')

def LamP73_17004 (σ : Nat → AV) (m : Mem) (k : KX) : Prop := kI .u32 (σ 1) fun x_1 => kI .u32 (σ 2) fun x_2 => kptr (σ 3) fun b_3 o_3 => kI .u32 (σ 8) fun x_8 => kI .u32 (σ 9) fun x_9 => kI .i64 (σ 19) fun x_19 => kbool (σ 49) fun x_49 => P73_17004 x_1 x_2 b_3 o_3 x_8 x_9 x_19 x_49 m (fun x_6' x_7' m' => k .ret (only [6, 7] [(.flat (.int .u32 x_6')), (.flat (.bool x_7'))]) m') (fun m' => k .normal (only [] []) m')

def LamP73_28004 (σ : Nat → AV) (m : Mem) (k : KX) : Prop := kI .u32 (σ 1) fun x_1 => kI .u32 (σ 2) fun x_2 => kptr (σ 3) fun b_3 o_3 => kI .u32 (σ 8) fun x_8 => kI .u32 (σ 9) fun x_9 => kI .i64 (σ 19) fun x_19 => kbool (σ 76) fun x_76 => P73_28004 x_1 x_2 b_3 o_3 x_8 x_9 x_19 x_76 m (fun x_6' x_7' m' => k .ret (only [6, 7] [(.flat (.int .u32 x_6')), (.flat (.bool x_7'))]) m') (fun m' => k .normal (only [] []) m')

def LamP73_31004 (σ : Nat → AV) (m : Mem) (k : KX) : Prop := kI .u32 (σ 1) fun x_1 => kI .u32 (σ 2) fun x_2 => kptr (σ 3) fun b_3 o_3 => kI .u32 (σ 8) fun x_8 => kI .u32 (σ 9) fun x_9 => kI .i64 (σ 19) fun x_19 => kbool (σ 86) fun x_86 => P73_31004 x_1 x_2 b_3 o_3 x_8 x_9 x_19 x_86 m (fun x_6' x_7' m' => k .ret (only [6, 7] [(.flat (.int .u32 x_6')), (.flat (.bool x_7'))]) m') (fun m' => k .normal (only [] []) m')

def LamP73_34004 (σ : Nat → AV) (m : Mem) (k : KX) : Prop := kI .u32 (σ 1) fun x_1 => kI .u32 (σ 2) fun x_2 => kptr (σ 3) fun b_3 o_3 => kI .u32 (σ 8) fun x_8 => kI .u32 (σ 9) fun x_9 => kI .i64 (σ 19) fun x_19 => kbool (σ 92) fun x_92 => P73_34004 x_1 x_2 b_3 o_3 x_8 x_9 x_19 x_92 m (fun x_6' x_7' m' => k .ret (only [6, 7] [(.flat (.int .u32 x_6')), (.flat (.bool x_7'))]) m') (fun m' => k .normal (only [] []) m')

def Lam73 : LEnv := ⟨fun a σ m k => match firstReg a with
  | _ => bump False,
  fun id => match id with
  | _ => bump false,
  fun b => match keyC b with
  | some 7004 => true
  | some 11004 => true
  | some 14004 => true
  | some 17004 => true
  | some 28004 => true
  | some 31004 => true
  | some 34004 => true
  | _ => bump false,
  fun b σ m k => match keyC b with
  | some 7004 => LamP73_7004 σ m k
  | some 11004 => LamP73_11004 σ m k
  | some 14004 => LamP73_14004 σ m k
  | some 17004 => LamP73_17004 σ m k
  | some 28004 => LamP73_28004 σ m k
  | some 31004 => LamP73_31004 σ m k
  | some 34004 => LamP73_34004 σ m k
  | _ => bump False⟩

def lxp73_34004 : Ex → List Nat := fun e => match e with
  | .ret => [6, 7]
  | .normal => []
  | _ => []

theorem pc73_34004 (x_1 : Int) (x_2 : Int) (b_3 o_3 : Nat) (x_8 : Int) (x_9 : Int) (x_19 : Int) (x_92 : Bool) (m : Mem) (k : KX) : once Tryz.prog E73 Lam73 [1, 2, 3, 8, 9, 19, 92] lxp73_34004 (((secsOf (bodyOf Tryz.f73)).filter Lam73.cut).getD 6 .skip) [(.flat (.int .u32 x_1)), (.flat (.int .u32 x_2)), (.ptr b_3 o_3), (.flat (.int .u32 x_8)), (.flat (.int .u32 x_9)), (.flat (.int .i64 x_19)), (.flat (.bool x_92))] m k = P73_34004 x_1 x_2 b_3 o_3 x_8 x_9 x_19 x_92 m (fun x_6' x_7' m' => k .ret (only [6, 7] [(.flat (.int .u32 x_6')), (.flat (.bool x_7'))]) m') (fun m' => k .normal (only [] []) m') := by
  kernel_rfl

theorem pok73_34004 : PieceOK Tryz.prog E73 Lam73 (((secsOf (bodyOf Tryz.f73)).filter Lam73.cut).getD 6 .skip) := by
  refine ⟨fun σ => ∃ x_1 x_2 b_3 o_3 x_8 x_9 x_19 x_92, σ 1 = .flat (.int .u32 x_1) ∧ σ 2 = .flat (.int .u32 x_2) ∧ σ 3 = .ptr b_3 o_3 ∧ σ 8 = .flat (.int .u32 x_8) ∧ σ 9 = .flat (.int .u32 x_9) ∧ σ 19 = .flat (.int .i64 x_19) ∧ σ 92 = .flat (.bool x_92), [1, 2, 3, 8, 9, 19, 92], lxp73_34004, fun σ m k => ?_⟩
  have e : Lam73.piece (((secsOf (bodyOf Tryz.f73)).filter Lam73.cut).getD 6 .skip) σ m k = LamP73_34004 σ m k := by kernel_rfl
  rw [e]
  constructor
  · intro h
    unfold LamP73_34004 at h
    obtain ⟨x_1, h0, h⟩ := kI_ok h
    obtain ⟨x_2, h1, h⟩ := kI_ok h
    obtain ⟨b_3, o_3, h2, h⟩ := kptr_ok h
    obtain ⟨x_8, h3, h⟩ := kI_ok h
    obtain ⟨x_9, h4, h⟩ := kI_ok h
    obtain ⟨x_19, h5, h⟩ := kI_ok h
    obtain ⟨x_92, h6, h⟩ := kbool_ok h
    refine ⟨⟨x_1, x_2, b_3, o_3, x_8, x_9, x_19, x_92, h0, h1, h2, h3, h4, h5, h6⟩, ?_⟩
    have ev : [1, 2, 3, 8, 9, 19, 92].map σ = [(.flat (.int .u32 x_1)), (.flat (.int .u32 x_2)), (.ptr b_3 o_3), (.flat (.int .u32 x_8)), (.flat (.int .u32 x_9)), (.flat (.int .i64 x_19)), (.flat (.bool x_92))] := by simp only [List.map_cons, List.map_nil, h0, h1, h2, h3, h4, h5, h6]
    rw [ev, pc73_34004]
    exact h
  · rintro ⟨⟨x_1, x_2, b_3, o_3, x_8, x_9, x_19, x_92, h0, h1, h2, h3, h4, h5, h6⟩, h⟩
    have ev : [1, 2, 3, 8, 9, 19, 92].map σ = [(.flat (.int .u32 x_1)), (.flat (.int .u32 x_2)), (.ptr b_3 o_3), (.flat (.int .u32 x_8)), (.flat (.int .u32 x_9)), (.flat (.int .i64 x_19)), (.flat (.bool x_92))] := by simp only [List.map_cons, List.map_nil, h0, h1, h2, h3, h4, h5, h6]
    rw [ev, pc73_34004] at h
    unfold LamP73_34004
    try simp only [h0, h1, h2, h3, h4, h5, h6, kI, kbool, kS, kptr, kaggN, kite, decide_true, eq_self]
    exact h

def lxp73_31004 : Ex → List Nat := fun e => match e with
  | .ret => [6, 7]
  | .normal => []
  | _ => []

theorem pc73_31004 (x_1 : Int) (x_2 : Int) (b_3 o_3 : Nat) (x_8 : Int) (x_9 : Int) (x_19 : Int) (x_86 : Bool) (m : Mem) (k : KX) : once Tryz.prog E73 Lam73 [1, 2, 3, 8, 9, 19, 86] lxp73_31004 (((secsOf (bodyOf Tryz.f73)).filter Lam73.cut).getD 5 .skip) [(.flat (.int .u32 x_1)), (.flat (.int .u32 x_2)), (.ptr b_3 o_3), (.flat (.int .u32 x_8)), (.flat (.int .u32 x_9)), (.flat (.int .i64 x_19)), (.flat (.bool x_86))] m k = P73_31004 x_1 x_2 b_3 o_3 x_8 x_9 x_19 x_86 m (fun x_6' x_7' m' => k .ret (only [6, 7] [(.flat (.int .u32 x_6')), (.flat (.bool x_7'))]) m') (fun m' => k .normal (only [] []) m') := by
  kernel_rfl

theorem pok73_31004 : PieceOK Tryz.prog E73 Lam73 (((secsOf (bodyOf Tryz.f73)).filter Lam73.cut).getD 5 .skip) := by
  refine ⟨fun σ => ∃ x_1 x_2 b_3 o_3 x_8 x_9 x_19 x_86, σ 1 = .flat (.int .u32 x_1) ∧ σ 2 = .flat (.int .u32 x_2) ∧ σ 3 = .ptr b_3 o_3 ∧ σ 8 = .flat (.int .u32 x_8) ∧ σ 9 = .flat (.int .u32 x_9) ∧ σ 19 = .flat (.int .i64 x_19) ∧ σ 86 = .flat (.bool x_86), [1, 2, 3, 8, 9, 19, 86], lxp73_31004, fun σ m k => ?_⟩
  have e : Lam73.piece (((secsOf (bodyOf Tryz.f73)).filter Lam73.cut).getD 5 .skip) σ m k = LamP73_31004 σ m k := by kernel_rfl
  rw [e]
  constructor
  · intro h
    unfold LamP73_31004 at h
    obtain ⟨x_1, h0, h⟩ := kI_ok h
    obtain ⟨x_2, h1, h⟩ := kI_ok h
    obtain ⟨b_3, o_3, h2, h⟩ := kptr_ok h
    obtain ⟨x_8, h3, h⟩ := kI_ok h
    obtain ⟨x_9, h4, h⟩ := kI_ok h
    obtain ⟨x_19, h5, h⟩ := kI_ok h
    obtain ⟨x_86, h6, h⟩ := kbool_ok h
    refine ⟨⟨x_1, x_2, b_3, o_3, x_8, x_9, x_19, x_86, h0, h1, h2, h3, h4, h5, h6⟩, ?_⟩
    have ev : [1, 2, 3, 8, 9, 19, 86].map σ = [(.flat (.int .u32 x_1)), (.flat (.int .u32 x_2)), (.ptr b_3 o_3), (.flat (.int .u32 x_8)), (.flat (.int .u32 x_9)), (.flat (.int .i64 x_19)), (.flat (.bool x_86))] := by simp only [List.map_cons, List.map_nil, h0, h1, h2, h3, h4, h5, h6]
    rw [ev, pc73_31004]
    exact h
  · rintro ⟨⟨x_1, x_2, b_3, o_3, x_8, x_9, x_19, x_86, h0, h1, h2, h3, h4, h5, h6⟩, h⟩
    have ev : [1, 2, 3, 8, 9, 19, 86].map σ = [(.flat (.int .u32 x_1)), (.flat (.int .u32 x_2)), (.ptr b_3 o_3), (.flat (.int .u32 x_8)), (.flat (.int .u32 x_9)), (.flat (.int .i64 x_19)), (.flat (.bool x_86))] := by simp only [List.map_cons, List.map_nil, h0, h1, h2, h3, h4, h5, h6]
    rw [ev, pc73_31004] at h
    unfold LamP73_31004
    try simp only [h0, h1, h2, h3, h4, h5, h6, kI, kbool, kS, kptr, kaggN, kite, decide_true, eq_self]
    exact h

def lxp73_28004 : Ex → List Nat := fun e => match e with
  | .ret => [6, 7]
  | .normal => []
  | _ => []

theorem pc73_28004 (x_1 : Int) (x_2 : Int) (b_3 o_3 : Nat) (x_8 : Int) (x_9 : Int) (x_19 : Int) (x_76 : Bool) (m : Mem) (k : KX) : once Tryz.prog E73 Lam73 [1, 2, 3, 8, 9, 19, 76] lxp73_28004 (((secsOf (bodyOf Tryz.f73)).filter Lam73.cut).getD 4 .skip) [(.flat (.int .u32 x_1)), (.flat (.int .u32 x_2)), (.ptr b_3 o_3), (.flat (.int .u32 x_8)), (.flat (.int .u32 x_9)), (.flat (.int .i64 x_19)), (.flat (.bool x_76))] m k = P73_28004 x_1 x_2 b_3 o_3 x_8 x_9 x_19 x_76 m (fun x_6' x_7' m' => k .ret (only [6, 7] [(.flat (.int .u32 x_6')), (.flat (.bool x_7'))]) m') (fun m' => k .normal (only [] []) m') := by
  kernel_rfl

theorem pok73_28004 : PieceOK Tryz.prog E73 Lam73 (((secsOf (bodyOf Tryz.f73)).filter Lam73.cut).getD 4 .skip) := by
  refine ⟨fun σ => ∃ x_1 x_2 b_3 o_3 x_8 x_9 x_19 x_76, σ 1 = .flat (.int .u32 x_1) ∧ σ 2 = .flat (.int .u32 x_2) ∧ σ 3 = .ptr b_3 o_3 ∧ σ 8 = .flat (.int .u32 x_8) ∧ σ 9 = .flat (.int .u32 x_9) ∧ σ 19 = .flat (.int .i64 x_19) ∧ σ 76 = .flat (.bool x_76), [1, 2, 3, 8, 9, 19, 76], lxp73_28004, fun σ m k => ?_⟩
  have e : Lam73.piece (((secsOf (bodyOf Tryz.f73)).filter Lam73.cut).getD 4 .skip) σ m k = LamP73_28004 σ m k := by kernel_rfl
  rw [e]
  constructor
  · intro h
    unfold LamP73_28004 at h
    obtain ⟨x_1, h0, h⟩ := kI_ok h
    obtain ⟨x_2, h1, h⟩ := kI_ok h
    obtain ⟨b_3, o_3, h2, h⟩ := kptr_ok h
    obtain ⟨x_8, h3, h⟩ := kI_ok h
    obtain ⟨x_9, h4, h⟩ := kI_ok h
    obtain ⟨x_19, h5, h⟩ := kI_ok h
    obtain ⟨x_76, h6, h⟩ := kbool_ok h
    refine ⟨⟨x_1, x_2, b_3, o_3, x_8, x_9, x_19, x_76, h0, h1, h2, h3, h4, h5, h6⟩, ?_⟩
    have ev : [1, 2, 3, 8, 9, 19, 76].map σ = [(.flat (.int .u32 x_1)), (.flat (.int .u32 x_2)), (.ptr b_3 o_3), (.flat (.int .u32 x_8)), (.flat (.int .u32 x_9)), (.flat (.int .i64 x_19)), (.flat (.bool x_76))] := by simp only [List.map_cons, List.map_nil, h0, h1, h2, h3, h4, h5, h6]
    rw [ev, pc73_28004]
    exact h
  · rintro ⟨⟨x_1, x_2, b_3, o_3, x_8, x_9, x_19, x_76, h0, h1, h2, h3, h4, h5, h6⟩, h⟩
    have ev : [1, 2, 3, 8, 9, 19, 76].map σ = [(.flat (.int .u32 x_1)), (.flat (.int .u32 x_2)), (.ptr b_3 o_3), (.flat (.int .u32 x_8)), (.flat (.int .u32 x_9)), (.flat (.int .i64 x_19)), (.flat (.bool x_76))] := by simp only [List.map_cons, List.map_nil, h0, h1, h2, h3, h4, h5, h6]
    rw [ev, pc73_28004] at h
    unfold LamP73_28004
    try simp only [h0, h1, h2, h3, h4, h5, h6, kI, kbool, kS, kptr, kaggN, kite, decide_true, eq_self]
    exact h

def lxp73_17004 : Ex → List Nat := fun e => match e with
  | .ret => [6, 7]
  | .normal => []
  | _ => []

theorem pc73_17004 (x_1 : Int) (x_2 : Int) (b_3 o_3 : Nat) (x_8 : Int) (x_9 : Int) (x_19 : Int) (x_49 : Bool) (m : Mem) (k : KX) : once Tryz.prog E73 Lam73 [1, 2, 3, 8, 9, 19, 49] lxp73_17004 (((secsOf (bodyOf Tryz.f73)).filter Lam73.cut).getD 3 .skip) [(.flat (.int .u32 x_1)), (.flat (.int .u32 x_2)), (.ptr b_3 o_3), (.flat (.int .u32 x_8)), (.flat (.int .u32 x_9)), (.flat (.int .i64 x_19)), (.flat (.bool x_49))] m k = P73_17004 x_1 x_2 b_3 o_3 x_8 x_9 x_19 x_49 m (fun x_6' x_7' m' => k .ret (only [6, 7] [(.flat (.int .u32 x_6')), (.flat (.bool x_7'))]) m') (fun m' => k .normal (only [] []) m') := by
  kernel_rfl

theorem pok73_17004 : PieceOK Tryz.prog E73 Lam73 (((secsOf (bodyOf Tryz.f73)).filter Lam73.cut).getD 3 .skip) := by
  refine ⟨fun σ => ∃ x_1 x_2 b_3 o_3 x_8 x_9 x_19 x_49, σ 1 = .flat (.int .u32 x_1) ∧ σ 2 = .flat (.int .u32 x_2) ∧ σ 3 = .ptr b_3 o_3 ∧ σ 8 = .flat (.int .u32 x_8) ∧ σ 9 = .flat (.int .u32 x_9) ∧ σ 19 = .flat (.int .i64 x_19) ∧ σ 49 = .flat (.bool x_49), [1, 2, 3, 8, 9, 19, 49], lxp73_17004, fun σ m k => ?_⟩
  have e : Lam73.piece (((secsOf (bodyOf Tryz.f73)).filter Lam73.cut).getD 3 .skip) σ m k = LamP73_17004 σ m k := by kernel_rfl
  rw [e]
  constructor
  · intro h
    unfold LamP73_17004 at h
    obtain ⟨x_1, h0, h⟩ := kI_ok h
    obtain ⟨x_2, h1, h⟩ := kI_ok h
    obtain ⟨b_3, o_3, h2, h⟩ := kptr_ok h
    obtain ⟨x_8, h3, h⟩ := kI_ok h
    obtain ⟨x_9, h4, h⟩ := kI_ok h
    obtain ⟨x_19, h5, h⟩ := kI_ok h
    obtain ⟨x_49, h6, h⟩ := kbool_ok h
    refine ⟨⟨x_1, x_2, b_3, o_3, x_8, x_9, x_19, x_49, h0, h1, h2, h3, h4, h5, h6⟩, ?_⟩
    have ev : [1, 2, 3, 8, 9, 19, 49].map σ = [(.flat (.int .u32 x_1)), (.flat (.int .u32 x_2)), (.ptr b_3 o_3), (.flat (.int .u32 x_8)), (.flat (.int .u32 x_9)), (.flat (.int .i64 x_19)), (.flat (.bool x_49))] := by simp only [List.map_cons, List.map_nil, h0, h1, h2, h3, h4, h5, h6]
    rw [ev, pc73_17004]
    exact h
  · rintro ⟨⟨x_1, x_2, b_3, o_3, x_8, x_9, x_19, x_49, h0, h1, h2, h3, h4, h5, h6⟩, h⟩
    have ev : [1, 2, 3, 8, 9, 19, 49].map σ = [(.flat (.int .u32 x_1)), (.flat (.int .u32 x_2)), (.ptr b_3 o_3), (.flat (.int .u32 x_8)), (.flat (.int .u32 x_9)), (.flat (.int .i64 x_19)), (.flat (.bool x_49))] := by simp only [List.map_cons, List.map_nil, h0, h1, h2, h3, h4, h5, h6]
    rw [ev, pc73_17004] at h
    unfold LamP73_17004
    try simp only [h0, h1, h2, h3, h4, h5, h6, kI, kbool, kS, kptr, kaggN, kite, decide_true, eq_self]
    exact h

def lxp73_14004 : Ex → List Nat := fun e => match e with
  | .ret => [6, 7]
  | .normal => []
  | _ => []

theorem pc73_14004 (x_1 : Int) (x_2 : Int) (b_3 o_3 : Nat) (x_8 : Int) (x_9 : Int) (x_19 : Int) (x_43 : Bool) (m : Mem) (k : KX) : once Tryz.prog E73 Lam73 [1, 2, 3, 8, 9, 19, 43] lxp73_14004 (((secsOf (bodyOf Tryz.f73)).filter Lam73.cut).getD 2 .skip) [(.flat (.int .u32 x_1)), (.flat (.int .u32 x_2)), (.ptr b_3 o_3), (.flat (.int .u32 x_8)), (.flat (.int .u32 x_9)), (.flat (.int .i64 x_19)), (.flat (.bool x_43))] m k = P73_14004 x_1 x_2 b_3 o_3 x_8 x_9 x_19 x_43 m (fun x_6' x_7' m' => k .ret (only [6, 7] [(.flat (.int .u32 x_6')), (.flat (.bool x_7'))]) m') (fun m' => k .normal (only [] []) m') := by
  kernel_rfl

theorem pok73_14004 : PieceOK Tryz.prog E73 Lam73 (((secsOf (bodyOf Tryz.f73)).filter Lam73.cut).getD 2 .skip) := by
  refine ⟨fun σ => ∃ x_1 x_2 b_3 o_3 x_8 x_9 x_19 x_43, σ 1 = .flat (.int .u32 x_1) ∧ σ 2 = .flat (.int .u32 x_2) ∧ σ 3 = .ptr b_3 o_3 ∧ σ 8 = .flat (.int .u32 x_8) ∧ σ 9 = .flat (.int .u32 x_9) ∧ σ 19 = .flat (.int .i64 x_19) ∧ σ 43 = .flat (.bool x_43), [1, 2, 3, 8, 9, 19, 43], lxp73_14004, fun σ m k => ?_⟩
  have e : Lam73.piece (((secsOf (bodyOf Tryz.f73)).filter Lam73.cut).getD 2 .skip) σ m k = LamP73_14004 σ m k := by kernel_rfl
  rw [e]
  constructor
  · intro h
    unfold LamP73_14004 at h
    obtain ⟨x_1, h0, h⟩ := kI_ok h
    obtain ⟨x_2, h1, h⟩ := kI_ok h
    obtain ⟨b_3, o_3, h2, h⟩ := kptr_ok h
    obtain ⟨x_8, h3, h⟩ := kI_ok h
    obtain ⟨x_9, h4, h⟩ := kI_ok h
    obtain ⟨x_19, h5, h⟩ := kI_ok h
    obtain ⟨x_43, h6, h⟩ := kbool_ok h
    refine ⟨⟨x_1, x_2, b_3, o_3, x_8, x_9, x_19, x_43, h0, h1, h2, h3, h4, h5, h6⟩, ?_⟩
    have ev : [1, 2, 3, 8, 9, 19, 43].map σ = [(.flat (.int .u32 x_1)), (.flat (.int .u32 x_2)), (.ptr b_3 o_3), (.flat (.int .u32 x_8)), (.flat (.int .u32 x_9)), (.flat (.int .i64 x_19)), (.flat (.bool x_43))] := by simp only [List.map_cons, List.map_nil, h0, h1, h2, h3, h4, h5, h6]
    rw [ev, pc73_14004]
    exact h
  · rintro ⟨⟨x_1, x_2, b_3, o_3, x_8, x_9, x_19, x_43, h0, h1, h2, h3, h4, h5, h6⟩, h⟩
    have ev : [1, 2, 3, 8, 9, 19, 43].map σ = [(.flat (.int .u32 x_1)), (.flat (.int .u32 x_2)), (.ptr b_3 o_3), (.flat (.int .u32 x_8)), (.flat (.int .u32 x_9)), (.flat (.int .i64 x_19)), (.flat (.bool x_43))] := by simp only [List.map_cons, List.map_nil, h0, h1, h2, h3, h4, h5, h6]
    rw [ev, pc73_14004] at h
    unfold LamP73_14004
    try simp only [h0, h1, h2, h3, h4, h5, h6, kI, kbool, kS, kptr, kaggN, kite, decide_true, eq_self]
    exact h

def lxp73_11004 : Ex → List Nat := fun e => match e with
  | .ret => [6, 7]
  | .normal => []
  | _ => []

theorem pc73_11004 (x_1 : Int) (x_2 : Int) (b_3 o_3 : Nat) (x_8 : Int) (x_9 : Int) (x_19 : Int) (x_31 : Bool) (m : Mem) (k : KX) : once Tryz.prog E73 Lam73 [1, 2, 3, 8, 9, 19, 31] lxp73_11004 (((secsOf (bodyOf Tryz.f73)).filter Lam73.cut).getD 1 .skip) [(.flat (.int .u32 x_1)), (.flat (.int .u32 x_2)), (.ptr b_3 o_3), (.flat (.int .u32 x_8)), (.flat (.int .u32 x_9)), (.flat (.int .i64 x_19)), (.flat (.bool x_31))] m k = P73_11004 x_1 x_2 b_3 o_3 x_8 x_9 x_19 x_31 m (fun x_6' x_7' m' => k .ret (only [6, 7] [(.flat (.int .u32 x_6')), (.flat (.bool x_7'))]) m') (fun m' => k .normal (only [] []) m') := by
  kernel_rfl

theorem pok73_11004 : PieceOK Tryz.prog E73 Lam73 (((secsOf (bodyOf Tryz.f73)).filter Lam73.cut).getD 1 .skip) := by
  refine ⟨fun σ => ∃ x_1 x_2 b_3 o_3 x_8 x_9 x_19 x_31, σ 1 = .flat (.int .u32 x_1) ∧ σ 2 = .flat (.int .u32 x_2) ∧ σ 3 = .ptr b_3 o_3 ∧ σ 8 = .flat (.int .u32 x_8) ∧ σ 9 = .flat (.int .u32 x_9) ∧ σ 19 = .flat (.int .i64 x_19) ∧ σ 31 = .flat (.bool x_31), [1, 2, 3, 8, 9, 19, 31], lxp73_11004, fun σ m k => ?_⟩
  have e : Lam73.piece (((secsOf (bodyOf Tryz.f73)).filter Lam73.cut).getD 1 .skip) σ m k = LamP73_11004 σ m k := by kernel_rfl
  rw [e]
  constructor
  · intro h
    unfold LamP73_11004 at h
    obtain ⟨x_1, h0, h⟩ := kI_ok h
    obtain ⟨x_2, h1, h⟩ := kI_ok h
    obtain ⟨b_3, o_3, h2, h⟩ := kptr_ok h
    obtain ⟨x_8, h3, h⟩ := kI_ok h
    obtain ⟨x_9, h4, h⟩ := kI_ok h
    obtain ⟨x_19, h5, h⟩ := kI_ok h
    obtain ⟨x_31, h6, h⟩ := kbool_ok h
    refine ⟨⟨x_1, x_2, b_3, o_3, x_8, x_9, x_19, x_31, h0, h1, h2, h3, h4, h5, h6⟩, ?_⟩
    have ev : [1, 2, 3, 8, 9, 19, 31].map σ = [(.flat (.int .u32 x_1)), (.flat (.int .u32 x_2)), (.ptr b_3 o_3), (.flat (.int .u32 x_8)), (.flat (.int .u32 x_9)), (.flat (.int .i64 x_19)), (.flat (.bool x_31))] := by simp only [List.map_cons, List.map_nil, h0, h1, h2, h3, h4, h5, h6]
    rw [ev, pc73_11004]
    exact h
  · rintro ⟨⟨x_1, x_2, b_3, o_3, x_8, x_9, x_19, x_31, h0, h1, h2, h3, h4, h5, h6⟩, h⟩
    have ev : [1, 2, 3, 8, 9, 19, 31].map σ = [(.flat (.int .u32 x_1)), (.flat (.int .u32 x_2)), (.ptr b_3 o_3), (.flat (.int .u32 x_8)), (.flat (.int .u32 x_9)), (.flat (.int .i64 x_19)), (.flat (.bool x_31))] := by simp only [List.map_cons, List.map_nil, h0, h1, h2, h3, h4, h5, h6]
    rw [ev, pc73_11004] at h
    unfold LamP73_11004
    try simp only [h0, h1, h2, h3, h4, h5, h6, kI, kbool, kS, kptr, kaggN, kite, decide_true, eq_self]
    exact h

def lxp73_7004 : Ex → List Nat := fun e => match e with
  | .ret => [6, 7]
  | .normal => []
  | _ => []

theorem pc73_7004 (x_1 : Int) (x_2 : Int) (b_3 o_3 : Nat) (x_8 : Int) (x_9 : Int) (x_19 : Int) (x_20 : Bool) (m : Mem) (k : KX) : once Tryz.prog E73 Lam73 [1, 2, 3, 8, 9, 19, 20] lxp73_7004 (((secsOf (bodyOf Tryz.f73)).filter Lam73.cut).getD 0 .skip) [(.flat (.int .u32 x_1)), (.flat (.int .u32 x_2)), (.ptr b_3 o_3), (.flat (.int .u32 x_8)), (.flat (.int .u32 x_9)), (.flat (.int .i64 x_19)), (.flat (.bool x_20))] m k = P73_7004 x_1 x_2 b_3 o_3 x_8 x_9 x_19 x_20 m (fun x_6' x_7' m' => k .ret (only [6, 7] [(.flat (.int .u32 x_6')), (.flat (.bool x_7'))]) m') (fun m' => k .normal (only [] []) m') := by
  kernel_rfl

theorem pok73_7004 : PieceOK Tryz.prog E73 Lam73 (((secsOf (bodyOf Tryz.f73)).filter Lam73.cut).getD 0 .skip) := by
  refine ⟨fun σ => ∃ x_1 x_2 b_3 o_3 x_8 x_9 x_19 x_20, σ 1 = .flat (.int .u32 x_1) ∧ σ 2 = .flat (.int .u32 x_2) ∧ σ 3 = .ptr b_3 o_3 ∧ σ 8 = .flat (.int .u32 x_8) ∧ σ 9 = .flat (.int .u32 x_9) ∧ σ 19 = .flat (.int .i64 x_19) ∧ σ 20 = .flat (.bool x_20), [1, 2, 3, 8, 9, 19, 20], lxp73_7004, fun σ m k => ?_⟩
  have e : Lam73.piece (((secsOf (bodyOf Tryz.f73)).filter Lam73.cut).getD 0 .skip) σ m k = LamP73_7004 σ m k := by kernel_rfl
  rw [e]
  constructor
  · intro h
    unfold LamP73_7004 at h
    obtain ⟨x_1, h0, h⟩ := kI_ok h
    obtain ⟨x_2, h1, h⟩ := kI_ok h
    obtain ⟨b_3, o_3, h2, h⟩ := kptr_ok h
    obtain ⟨x_8, h3, h⟩ := kI_ok h
    obtain ⟨x_9, h4, h⟩ := kI_ok h
    obtain ⟨x_19, h5, h⟩ := kI_ok h
    obtain ⟨x_20, h6, h⟩ := kbool_ok h
    refine ⟨⟨x_1, x_2, b_3, o_3, x_8, x_9, x_19, x_20, h0, h1, h2, h3, h4, h5, h6⟩, ?_⟩
    have ev : [1, 2, 3, 8, 9, 19, 20].map σ = [(.flat (.int .u32 x_1)), (.flat (.int .u32 x_2)), (.ptr b_3 o_3), (.flat (.int .u32 x_8)), (.flat (.int .u32 x_9)), (.flat (.int .i64 x_19)), (.flat (.bool x_20))] := by simp only [List.map_cons, List.map_nil, h0, h1, h2, h3, h4, h5, h6]
    rw [ev, pc73_7004]
    exact h
  · rintro ⟨⟨x_1, x_2, b_3, o_3, x_8, x_9, x_19, x_20, h0, h1, h2, h3, h4, h5, h6⟩, h⟩
    have ev : [1, 2, 3, 8, 9, 19, 20].map σ = [(.flat (.int .u32 x_1)), (.flat (.int .u32 x_2)), (.ptr b_3 o_3), (.flat (.int .u32 x_8)), (.flat (.int .u32 x_9)), (.flat (.int .i64 x_19)), (.flat (.bool x_20))] := by simp only [List.map_cons, List.map_nil, h0, h1, h2, h3, h4, h5, h6]
    rw [ev, pc73_7004] at h
    unfold LamP73_7004
    try simp only [h0, h1, h2, h3, h4, h5, h6, kI, kbool, kS, kptr, kaggN, kite, decide_true, eq_self]
    exact h

theorem eqn73 (c_0 : Nat → AV) (x_1 : Int) (x_2 : Int) (m : Mem) (k : KV) : bodyK Tryz.prog E73 Lam73 Tryz.f73 true [(.agg 6 c_0), (.flat (.int .u32 x_1)), (.flat (.int .u32 x_2))] m k = F73 c_0 x_1 x_2 m (fun x_1000 x_1001 m' => k (.tup [(.flat (.int .u32 x_1000)), (.flat (.bool x_1001))]) m') := by
  kernel_rfl

theorem fs73 (w0 : World) : FS Tryz.prog w0 73 G73 := by
  refine (fs_body (Γ := E73) (sound_env (l := [(50, G50), (51, G51), (52, G52), (53, G53), (62, G62), (101, G101), (102, G102)]) w0 (by
    intro p hp
    simp only [List.mem_cons, List.not_mem_nil, or_false] at hp
    rcases hp with rfl | rfl | rfl | rfl | rfl | rfl | rfl
    · exact fs50 w0
    · exact fs51 w0
    · exact fs52 w0
    · exact fs53 w0
    · exact fs62 w0
    · exact fs101 w0
    · exact fs102 w0)) (by kernel_rfl) Tryz.func73 (Λ := Lam73) (c := (bodyOf Tryz.f73)) (by kernel_rfl) Tryz.call73 (by kernel_rfl) (LS_of (bodyOf Tryz.f73) 0 (by kernel_rfl) (fun i hi => absurd hi (Nat.not_lt_zero i)) 7 (by kernel_rfl) (by
    intro i hi
    match i, hi with
    | 0, _ => exact pok73_7004
    | 1, _ => exact pok73_11004
    | 2, _ => exact pok73_14004
    | 3, _ => exact pok73_17004
    | 4, _ => exact pok73_28004
    | 5, _ => exact pok73_31004
    | 6, _ => exact pok73_34004
    | i + 7, hi => omega)) true (np := 3) (Nat.le_of_ble_eq_true (by kernel_rfl))).imp fun args => ?_
  by_cases hl : args.length = 3
  rotate_left
  · exact .inr fun m k hk => by
      unfold G73 at hk
      split at hk
      · exact hl rfl
      · exact hk
  obtain ⟨a0, a1, a2, rfl⟩ : ∃ a0 a1 a2, args = [a0, a1, a2] := len_list3 hl
  rcases kaggN_or 6 a0 with ⟨c_0, rfl⟩ | h
  rotate_left
  · exact .inr fun m k hk => h _ (by simpa only [G73, kI, kbool, kS, kptr, kaggN, kite, decide_true, eq_self] using hk)
  rcases kI_or .u32 a1 with ⟨x_1, rfl⟩ | h
  rotate_left
  · exact .inr fun m k hk => h _ (by simpa only [G73, kI, kbool, kS, kptr, kaggN, kite, decide_true, eq_self] using hk)
  rcases kI_or .u32 a2 with ⟨x_2, rfl⟩ | h
  rotate_left
  · exact .inr fun m k hk => h _ (by simpa only [G73, kI, kbool, kS, kptr, kaggN, kite, decide_true, eq_self] using hk)
  exact .inl fun m k => propext ⟨fun h => ⟨rfl, by rw [eqn73]; simpa only [G73, kI, kbool, kS, kptr, kaggN, kite, decide_true, eq_self] using h⟩, fun h => by have h := h.2; rw [eqn73] at h; simpa only [G73, kI, kbool, kS, kptr, kaggN, kite, decide_true, eq_self] using h⟩

def E103 : Env := envOf []

/-- pianola/pianolaref4.Is -/
def F103 (x_0 : Int) (m : Mem) (k : Bool → Mem → Prop) : Prop :=
  kif (decide (x_0 ≥ 1)) (kif (decide (x_0 ≤ 6)) ((Keeps m m ∧ k true m)) (kif (decide (x_0 ≥ 22)) (kif (decide (x_0 ≤ 31)) ((Keeps m m ∧ k true m)) (kif (decide (x_0 ≥ 46)) (kif (decide (x_0 ≤ 53)) ((Keeps m m ∧ k true m)) (kif (x_0 == 63) ((Keeps m m ∧ k true m)) (kif (x_0 == 64) ((Keeps m m ∧ k true m)) ((Keeps m m ∧ k (x_0 == 65) m))))) (kif (x_0 == 63) ((Keeps m m ∧ k true m)) (kif (x_0 == 64) ((Keeps m m ∧ k true m)) ((Keeps m m ∧ k (x_0 == 65) m)))))) (kif (decide (x_0 ≥ 46)) (kif (decide (x_0 ≤ 53)) ((Keeps m m ∧ k true m)) (kif (x_0 == 63) ((Keeps m m ∧ k true m)) (kif (x_0 == 64) ((Keeps m m ∧ k true m)) ((Keeps m m ∧ k (x_0 == 65) m))))) (kif (x_0 == 63) ((Keeps m m ∧ k true m)) (kif (x_0 == 64) ((Keeps m m ∧ k true m)) ((Keeps m m ∧ k (x_0 == 65) m))))))) (kif (decide (x_0 ≥ 22)) (kif (decide (x_0 ≤ 31)) ((Keeps m m ∧ k true m)) (kif (decide (x_0 ≥ 46)) (kif (decide (x_0 ≤ 53)) ((Keeps m m ∧ k true m)) (kif (x_0 == 63) ((Keeps m m ∧ k true m)) (kif (x_0 == 64) ((Keeps m m ∧ k true m)) ((Keeps m m ∧ k (x_0 == 65) m))))) (kif (x_0 == 63) ((Keeps m m ∧ k true m)) (kif (x_0 == 64) ((Keeps m m ∧ k true m)) ((Keeps m m ∧ k (x_0 == 65) m)))))) (kif (decide (x_0 ≥ 46)) (kif (decide (x_0 ≤ 53)) ((Keeps m m ∧ k true m)) (kif (x_0 == 63) ((Keeps m m ∧ k true m)) (kif (x_0 == 64) ((Keeps m m ∧ k true m)) ((Keeps m m ∧ k (x_0 == 65) m))))) (kif (x_0 == 63) ((Keeps m m ∧ k true m)) (kif (x_0 == 64) ((Keeps m m ∧ k true m)) ((Keeps m m ∧ k (x_0 == 65) m))))))

def G103 (args : List AV) (m : Mem) (k : KV) : Prop := match args with
  | [a0] => kI .i64 a0 fun x_0 => F103 x_0 m (fun x_1000 m' => k (.flat (.bool x_1000)) m')
  | _ => False

def Lam103 : LEnv := ⟨fun a σ m k => match firstReg a with
  | _ => bump False,
  fun id => match id with
  | _ => bump false,
  fun b => match keyC b with
  | _ => bump false,
  fun b σ m k => match keyC b with
  | _ => bump False⟩

theorem eqn103 (x_0 : Int) (m : Mem) (k : KV) : bodyK Tryz.prog E103 Lam103 Tryz.f103 true [(.flat (.int .i64 x_0))] m k = F103 x_0 m (fun x_1000 m' => k (.flat (.bool x_1000)) m') := by
  kernel_rfl

theorem fs103 (w0 : World) : FS Tryz.prog w0 103 G103 := by
  refine (fs_body (Γ := E103) (sound_env (l := []) w0 (by
    intro p hp
    cases hp)) (by kernel_rfl) Tryz.func103 (Λ := Lam103) (c := (bodyOf Tryz.f103)) (by kernel_rfl) Tryz.call103 (by kernel_rfl) (LS_of (bodyOf Tryz.f103) 0 (by kernel_rfl) (fun i hi => absurd hi (Nat.not_lt_zero i)) 0 (by kernel_rfl) (fun i hi => absurd hi (Nat.not_lt_zero i))) true (np := 1) (Nat.le_of_ble_eq_true (by kernel_rfl))).imp fun args => ?_
  by_cases hl : args.length = 1
  rotate_left
  · exact .inr fun m k hk => by
      unfold G103 at hk
      split at hk
      · exact hl rfl
      · exact hk
  obtain ⟨a0, rfl⟩ : ∃ a0, args = [a0] := len_list1 hl
  rcases kI_or .i64 a0 with ⟨x_0, rfl⟩ | h
  rotate_left
  · exact .inr fun m k hk => h _ (by simpa only [G103, kI, kbool, kS, kptr, kaggN, kite, decide_true, eq_self] using hk)
  exact .inl fun m k => propext ⟨fun h => ⟨rfl, by rw [eqn103]; simpa only [G103, kI, kbool, kS, kptr, kaggN, kite, decide_true, eq_self] using h⟩, fun h => by have h := h.2; rw [eqn103] at h; simpa only [G103, kI, kbool, kS, kptr, kaggN, kite, decide_true, eq_self] using h⟩

def E74 : Env := envOf [(103, G103)]

/-- pianola/pianolaref4.Into -/
def F74 (c_0 : Nat → AV) (m : Mem) (k : Int → Mem → Prop) : Prop :=
  newK m ⟨6, c_0, 25, false⟩ fun b2 m1 => ldI .i64 m1 b2 0 fun x3 => F103 x3 m1 fun x4 m5 => kif (!x4) ((Keeps m m5 ∧ k 0 m)) (ldI .i64 m5 b2 0 fun x6 => kif (decide (x6 ≥ 46)) (ldI .i64 m5 b2 0 fun x7 => kif (decide (x7 ≤ 53)) (ldI .i64 m5 b2 2 fun x8 => (Keeps m m5 ∧ k x8 m)) (ldI .i64 m5 b2 3 fun x9 => (Keeps m m5 ∧ k x9 m))) (ldI .i64 m5 b2 3 fun x10 => (Keeps m m5 ∧ k x10 m)))

def G74 (args : List AV) (m : Mem) (k : KV) : Prop := match args with
  | [a0] => kaggN 6 a0 fun c_0 => F74 c_0 m (fun x_1000 m' => k (.flat (.int .i64 x_1000)) m')
  | _ => False

def Lam74 : LEnv := ⟨fun a σ m k => match firstReg a with
  | _ => bump False,
  fun id => match id with
  | _ => bump false,
  fun b => match keyC b with
  | _ => bump false,
  fun b σ m k => match keyC b with
  | _ => bump False⟩

theorem eqn74 (c_0 : Nat → AV) (m : Mem) (k : KV) : bodyK Tryz.prog E74 Lam74 Tryz.f74 true [(.agg 6 c_0)] m k = F74 c_0 m (fun x_1000 m' => k (.flat (.int .i64 x_1000)) m') := by
  kernel_rfl

theorem fs74 (w0 : World) : FS Tryz.prog w0 74 G74 := by
  refine (fs_body (Γ := E74) (sound_env (l := [(103, G103)]) w0 (by
    intro p hp
    simp only [List.mem_cons, List.not_mem_nil, or_false] at hp
    rcases hp with rfl
    · exact fs103 w0)) (by kernel_rfl) Tryz.func74 (Λ := Lam74) (c := (bodyOf Tryz.f74)) (by kernel_rfl) Tryz.call74 (by kernel_rfl) (LS_of (bodyOf Tryz.f74) 0 (by kernel_rfl) (fun i hi => absurd hi (Nat.not_lt_zero i)) 0 (by kernel_rfl) (fun i hi => absurd hi (Nat.not_lt_zero i))) true (np := 1) (Nat.le_of_ble_eq_true (by kernel_rfl))).imp fun args => ?_
  by_cases hl : args.length = 1
  rotate_left
  · exact .inr fun m k hk => by
      unfold G74 at hk
      split at hk
      · exact hl rfl
      · exact hk
  obtain ⟨a0, rfl⟩ : ∃ a0, args = [a0] := len_list1 hl
  rcases kaggN_or 6 a0 with ⟨c_0, rfl⟩ | h
  rotate_left
  · exact .inr fun m k hk => h _ (by simpa only [G74, kI, kbool, kS, kptr, kaggN, kite, decide_true, eq_self] using hk)
  exact .inl fun m k => propext ⟨fun h => ⟨rfl, by rw [eqn74]; simpa only [G74, kI, kbool, kS, kptr, kaggN, kite, decide_true, eq_self] using h⟩, fun h => by have h := h.2; rw [eqn74] at h; simpa only [G74, kI, kbool, kS, kptr, kaggN, kite, decide_true, eq_self] using h⟩

def E75 : Env := envOf [(51, G51), (54, G54)]

def P75_14102 (x_3 : Int) (x_4 : Int) (m : Mem) (kr : Int → Int → Bool → Mem → Prop) : Prop :=
  kr x_3 x_4 false m

def P75_8004 (x_1 : Int) (x_2 : Int) (x_3 : Int) (x_4 : Int) (b_5 o_5 : Nat) (x_18 : Int) (x_33 : Bool) (m : Mem) (kr : Int → Int → Bool → Mem → Prop) (kn : Mem → Prop) : Prop :=
  kif x_33 (ldI .i64 m b_5 (o_5 + 0) fun x8 => F54 x_1 x_2 (x8 == 20) m fun x9 x10 m11 => kr x10 x9 true m11) (kif (x_18 == 15) (kr x_1 x_4 true m) (kif (x_18 == 17) (kr x_3 x_1 true m) (kn  m)))

def P75_4004 (x_1 : Int) (x_2 : Int) (x_3 : Int) (x_4 : Int) (b_5 o_5 : Nat) (x_18 : Int) (x_19 : Bool) (m : Mem) (kr : Int → Int → Bool → Mem → Prop) (kn : Mem → Prop) : Prop :=
  kif x_19 (ldI .i64 m b_5 (o_5 + 0) fun x4 => F51 x_1 x_2 (x4 == 18) m fun x5 x6 m7 => kr x5 x6 true m7) (kif (x_18 == 20) (P75_8004 x_1 x_2 x_3 x_4 b_5 o_5 x_18 (x_18 == 20) m (fun x12 x13 x14 m15 => kr x12 x13 x14 m15) (fun m16 => kn  m16)) (P75_8004 x_1 x_2 x_3 x_4 b_5 o_5 x_18 (x_18 == 21) m (fun x17 x18 x19 m20 => kr x17 x18 x19 m20) (fun m21 => kn  m21)))

/-- pianola/pianolaref4.Halves -/
def F75 (c_0 : Nat → AV) (x_1 : Int) (x_2 : Int) (x_3 : Int) (x_4 : Int) (m : Mem) (k : Int → Int → Bool → Mem → Prop) : Prop :=
  newK m ⟨6, c_0, 25, false⟩ fun b2 m1 => ldI .i64 m1 b2 0 fun x3 => kif (x3 == 18) (P75_4004 x_1 x_2 x_3 x_4 b2 0 x3 (x3 == 18) m1 (fun x22 x23 x24 m25 => (Keeps m m25 ∧ k x22 x23 x24 m)) (fun m26 => P75_14102 x_3 x_4 m26 (fun x32 x33 x34 m35 => (Keeps m m35 ∧ k x32 x33 x34 m)))) (P75_4004 x_1 x_2 x_3 x_4 b2 0 x3 (x3 == 19) m1 (fun x27 x28 x29 m30 => (Keeps m m30 ∧ k x27 x28 x29 m)) (fun m31 => P75_14102 x_3 x_4 m31 (fun x36 x37 x38 m39 => (Keeps m m39 ∧ k x36 x37 x38 m))))

def G75 (args : List AV) (m : Mem) (k : KV) : Prop := match args with
  | [a0, a1, a2, a3, a4] => kaggN 6 a0 fun c_0 => kI .u32 a1 fun x_1 => kI .u32 a2 fun x_2 => kI .u32 a3 fun x_3 => kI .u32 a4 fun x_4 => F75 c_0 x_1 x_2 x_3 x_4 m (fun x_1000 x_1001 x_1002 m' => k (.tup [(.flat (.int .u32 x_1000)), (.flat (.int .u32 x_1001)), (.flat (.bool x_1002))]) m')
  | _ => False

def LamP75_4004 (σ : Nat → AV) (m : Mem) (k : KX) : Prop := kI .u32 (σ 1) fun x_1 => kI .u32 (σ 2) fun x_2 => kI .u32 (σ 3) fun x_3 => kI .u32 (σ 4) fun x_4 => kptr (σ 5) fun b_5 o_5 => kI .i64 (σ 18) fun x_18 => kbool (σ 19) fun x_19 => P75_4004 x_1 x_2 x_3 x_4 b_5 o_5 x_18 x_19 m (fun x_10' x_11' x_12' m' => k .ret (only [10, 11, 12] [(.flat (.int .u32 x_10')), (.flat (.int .u32 x_11')), (.flat (.bool x_12'))]) m') (fun m' => k .normal (only [3, 4] [(.flat (.int .u32 x_3)), (.flat (.int .u32 x_4))]) m')

def LamP75_8004 (σ : Nat → AV) (m : Mem) (k : KX) : Prop := kI .u32 (σ 1) fun x_1 => kI .u32 (σ 2) fun x_2 => kI .u32 (σ 3) fun x_3 => kI .u32 (σ 4) fun x_4 => kptr (σ 5) fun b_5 o_5 => kI .i64 (σ 18) fun x_18 => kbool (σ 33) fun x_33 => P75_8004 x_1 x_2 x_3 x_4 b_5 o_5 x_18 x_33 m (fun x_10' x_11' x_12' m' => k .ret (only [10, 11, 12] [(.flat (.int .u32 x_10')), (.flat (.int .u32 x_11')), (.flat (.bool x_12'))]) m') (fun m' => k .normal (only [3, 4] [(.flat (.int .u32 x_3)), (.flat (.int .u32 x_4))]) m')

def LamP75_14102 (σ : Nat → AV) (m : Mem) (k : KX) : Prop := kI .u32 (σ 3) fun x_3 => kI .u32 (σ 4) fun x_4 => P75_14102 x_3 x_4 m (fun x_10' x_11' x_12' m' => k .ret (only [10, 11, 12] [(.flat (.int .u32 x_10')), (.flat (.int .u32 x_11')), (.flat (.bool x_12'))]) m')

def Lam75 : LEnv := ⟨fun a σ m k => match firstReg a with
  | _ => bump False,
  fun id => match id with
  | _ => bump false,
  fun b => match keyC b with
  | some 4004 => true
  | some 8004 => true
  | some 14102 => true
  | _ => bump false,
  fun b σ m k => match keyC b with
  | some 4004 => LamP75_4004 σ m k
  | some 8004 => LamP75_8004 σ m k
  | some 14102 => LamP75_14102 σ m k
  | _ => bump False⟩

def lxp75_14102 : Ex → List Nat := fun e => match e with
  | .ret => [10, 11, 12]
  | _ => []

theorem pc75_14102 (x_3 : Int) (x_4 : Int) (m : Mem) (k : KX) : once Tryz.prog E75 Lam75 [3, 4] lxp75_14102 (((secsOf (bodyOf Tryz.f75)).filter Lam75.cut).getD 0 .skip) [(.flat (.int .u32 x_3)), (.flat (.int .u32 x_4))] m k = P75_14102 x_3 x_4 m (fun x_10' x_11' x_12' m' => k .ret (only [10, 11, 12] [(.flat (.int .u32 x_10')), (.flat (.int .u32 x_11')), (.flat (.bool x_12'))]) m') := by
  kernel_rfl

theorem pok75_14102 : PieceOK Tryz.prog E75 Lam75 (((secsOf (bodyOf Tryz.f75)).filter Lam75.cut).getD 0 .skip) := by
  refine ⟨fun σ => ∃ x_3 x_4, σ 3 = .flat (.int .u32 x_3) ∧ σ 4 = .flat (.int .u32 x_4), [3, 4], lxp75_14102, fun σ m k => ?_⟩
  have e : Lam75.piece (((secsOf (bodyOf Tryz.f75)).filter Lam75.cut).getD 0 .skip) σ m k = LamP75_14102 σ m k := by kernel_rfl
  rw [e]
  constructor
  · intro h
    unfold LamP75_14102 at h
    obtain ⟨x_3, h0, h⟩ := kI_ok h
    obtain ⟨x_4, h1, h⟩ := kI_ok h
    refine ⟨⟨x_3, x_4, h0, h1⟩, ?_⟩
    have ev : [3, 4].map σ = [(.flat (.int .u32 x_3)), (.flat (.int .u32 x_4))] := by simp only [List.map_cons, List.map_nil, h0, h1]
    rw [ev, pc75_14102]
    exact h
  · rintro ⟨⟨x_3, x_4, h0, h1⟩, h⟩
    have ev : [3, 4].map σ = [(.flat (.int .u32 x_3)), (.flat (.int .u32 x_4))] := by simp only [List.map_cons, List.map_nil, h0, h1]
    rw [ev, pc75_14102] at h
    unfold LamP75_14102
    try simp only [h0, h1, kI, kbool, kS, kptr, kaggN, kite, decide_true, eq_self]
    exact h

def lxp75_8004 : Ex → List Nat := fun e => match e with
  | .ret => [10, 11, 12]
  | .normal => [3, 4]
  | _ => []

theorem pc75_8004 (x_1 : Int) (x_2 : Int) (x_3 : Int) (x_4 : Int) (b_5 o_5 : Nat) (x_18 : Int) (x_33 : Bool) (m : Mem) (k : KX) : once Tryz.prog E75 Lam75 [1, 2, 3, 4, 5, 18, 33] lxp75_8004 (((secsOf (bodyOf Tryz.f75)).filter Lam75.cut).getD 2 .skip) [(.flat (.int .u32 x_1)), (.flat (.int .u32 x_2)), (.flat (.int .u32 x_3)), (.flat (.int .u32 x_4)), (.ptr b_5 o_5), (.flat (.int .i64 x_18)), (.flat (.bool x_33))] m k = P75_8004 x_1 x_2 x_3 x_4 b_5 o_5 x_18 x_33 m (fun x_10' x_11' x_12' m' => k .ret (only [10, 11, 12] [(.flat (.int .u32 x_10')), (.flat (.int .u32 x_11')), (.flat (.bool x_12'))]) m') (fun m' => k .normal (only [3, 4] [(.flat (.int .u32 x_3)), (.flat (.int .u32 x_4))]) m') := by
  kernel_rfl

theorem pok75_8004 : PieceOK Tryz.prog E75 Lam75 (((secsOf (bodyOf Tryz.f75)).filter Lam75.cut).getD 2 .skip) := by
  refine ⟨fun σ => ∃ x_1 x_2 x_3 x_4 b_5 o_5 x_18 x_33, σ 1 = .flat (.int .u32 x_1) ∧ σ 2 = .flat (.int .u32 x_2) ∧ σ 3 = .flat (.int .u32 x_3) ∧ σ 4 = .flat (.int .u32 x_4) ∧ σ 5 = .ptr b_5 o_5 ∧ σ 18 = .flat (.int .i64 x_18) ∧ σ 33 = .flat (.bool x_33), [1, 2, 3, 4, 5, 18, 33], lxp75_8004, fun σ m k => ?_⟩
  have e : Lam75.piece (((secsOf (bodyOf Tryz.f75)).filter Lam75.cut).getD 2 .skip) σ m k = LamP75_8004 σ m k := by kernel_rfl
  rw [e]
  constructor
  · intro h
    unfold LamP75_8004 at h
    obtain ⟨x_1, h0, h⟩ := kI_ok h
    obtain ⟨x_2, h1, h⟩ := kI_ok h
    obtain ⟨x_3, h2, h⟩ := kI_ok h
    obtain ⟨x_4, h3, h⟩ := kI_ok h
    obtain ⟨b_5, o_5, h4, h⟩ := kptr_ok h
    obtain ⟨x_18, h5, h⟩ := kI_ok h
    obtain ⟨x_33, h6, h⟩ := kbool_ok h
    refine ⟨⟨x_1, x_2, x_3, x_4, b_5, o_5, x_18, x_33, h0, h1, h2, h3, h4, h5, h6⟩, ?_⟩
    have ev : [1, 2, 3, 4, 5, 18, 33].map σ = [(.flat (.int .u32 x_1)), (.flat (.int .u32 x_2)), (.flat (.int .u32 x_3)), (.flat (.int .u32 x_4)), (.ptr b_5 o_5), (.flat (.int .i64 x_18)), (.flat (.bool x_33))] := by simp only [List.map_cons, List.map_nil, h0, h1, h2, h3, h4, h5, h6]
    rw [ev, pc75_8004]
    exact h
  · rintro ⟨⟨x_1, x_2, x_3, x_4, b_5, o_5, x_18, x_33, h0, h1, h2, h3, h4, h5, h6⟩, h⟩
    have ev : [1, 2, 3, 4, 5, 18, 33].map σ = [(.flat (.int .u32 x_1)), (.flat (.int .u32 x_2)), (.flat (.int .u32 x_3)), (.flat (.int .u32 x_4)), (.ptr b_5 o_5), (.flat (.int .i64 x_18)), (.flat (.bool x_33))] := by simp only [List.map_cons, List.map_nil, h0, h1, h2, h3, h4, h5, h6]
    rw [ev, pc75_8004] at h
    unfold LamP75_8004
    try simp only [h0, h1, h2, h3, h4, h5, h6, kI, kbool, kS, kptr, kaggN, kite, decide_true, eq_self]
    exact h

def lxp75_4004 : Ex → List Nat := fun e => match e with
  | .ret => [10, 11, 12]
  | .normal => [3, 4]
  | _ => []

theorem pc75_4004 (x_1 : Int) (x_2 : Int) (x_3 : Int) (x_4 : Int) (b_5 o_5 : Nat) (x_18 : Int) (x_19 : Bool) (m : Mem) (k : KX) : once Tryz.prog E75 Lam75 [1, 2, 3, 4, 5, 18, 19] lxp75_4004 (((secsOf (bodyOf Tryz.f75)).filter Lam75.cut).getD 1 .skip) [(.flat (.int .u32 x_1)), (.flat (.int .u32 x_2)), (.flat (.int .u32 x_3)), (.flat (.int .u32 x_4)), (.ptr b_5 o_5), (.flat (.int .i64 x_18)), (.flat (.bool x_19))] m k = P75_4004 x_1 x_2 x_3 x_4 b_5 o_5 x_18 x_19 m (fun x_10' x_11' x_12' m' => k .ret (only [10, 11, 12] [(.flat (.int .u32 x_10')), (.flat (.int .u32 x_11')), (.flat (.bool x_12'))]) m') (fun m' => k .normal (only [3, 4] [(.flat (.int .u32 x_3)), (.flat (.int .u32 x_4))]) m') := by
  kernel_rfl

theorem pok75_4004 : PieceOK Tryz.prog E75 Lam75 (((secsOf (bodyOf Tryz.f75)).filter Lam75.cut).getD 1 .skip) := by
  refine ⟨fun σ => ∃ x_1 x_2 x_3 x_4 b_5 o_5 x_18 x_19, σ 1 = .flat (.int .u32 x_1) ∧ σ 2 = .flat (.int .u32 x_2) ∧ σ 3 = .flat (.int .u32 x_3) ∧ σ 4 = .flat (.int .u32 x_4) ∧ σ 5 = .ptr b_5 o_5 ∧ σ 18 = .flat (.int .i64 x_18) ∧ σ 19 = .flat (.bool x_19), [1, 2, 3, 4, 5, 18, 19], lxp75_4004, fun σ m k => ?_⟩
  have e : Lam75.piece (((secsOf (bodyOf Tryz.f75)).filter Lam75.cut).getD 1 .skip) σ m k = LamP75_4004 σ m k := by kernel_rfl
  rw [e]
  constructor
  · intro h
    unfold LamP75_4004 at h
    obtain ⟨x_1, h0, h⟩ := kI_ok h
    obtain ⟨x_2, h1, h⟩ := kI_ok h
    obtain ⟨x_3, h2, h⟩ := kI_ok h
    obtain ⟨x_4, h3, h⟩ := kI_ok h
    obtain ⟨b_5, o_5, h4, h⟩ := kptr_ok h
    obtain ⟨x_18, h5, h⟩ := kI_ok h
    obtain ⟨x_19, h6, h⟩ := kbool_ok h
    refine ⟨⟨x_1, x_2, x_3, x_4, b_5, o_5, x_18, x_19, h0, h1, h2, h3, h4, h5, h6⟩, ?_⟩
    have ev : [1, 2, 3, 4, 5, 18, 19].map σ = [(.flat (.int .u32 x_1)), (.flat (.int .u32 x_2)), (.flat (.int .u32 x_3)), (.flat (.int .u32 x_4)), (.ptr b_5 o_5), (.flat (.int .i64 x_18)), (.flat (.bool x_19))] := by simp only [List.map_cons, List.map_nil, h0, h1, h2, h3, h4, h5, h6]
    rw [ev, pc75_4004]
    exact h
  · rintro ⟨⟨x_1, x_2, x_3, x_4, b_5, o_5, x_18, x_19, h0, h1, h2, h3, h4, h5, h6⟩, h⟩
    have ev : [1, 2, 3, 4, 5, 18, 19].map σ = [(.flat (.int .u32 x_1)), (.flat (.int .u32 x_2)), (.flat (.int .u32 x_3)), (.flat (.int .u32 x_4)), (.ptr b_5 o_5), (.flat (.int .i64 x_18)), (.flat (.bool x_19))] := by simp only [List.map_cons, List.map_nil, h0, h1, h2, h3, h4, h5, h6]
    rw [ev, pc75_4004] at h
    unfold LamP75_4004
    try simp only [h0, h1, h2, h3, h4, h5, h6, kI, kbool, kS, kptr, kaggN, kite, decide_true, eq_self]
    exact h

theorem eqn75 (c_0 : Nat → AV) (x_1 : Int) (x_2 : Int) (x_3 : Int) (x_4 : Int) (m : Mem) (k : KV) : bodyK Tryz.prog E75 Lam75 Tryz.f75 true [(.agg 6 c_0), (.flat (.int .u32 x_1)), (.flat (.int .u32 x_2)), (.flat (.int .u32 x_3)), (.flat (.int .u32 x_4))] m k = F75 c_0 x_1 x_2 x_3 x_4 m (fun x_1000 x_1001 x_1002 m' => k (.tup [(.flat (.int .u32 x_1000)), (.flat (.int .u32 x_1001)), (.flat (.bool x_1002))]) m') := by
  kernel_rfl

theorem fs75 (w0 : World) : FS Tryz.prog w0 75 G75 := by
  refine (fs_body (Γ := E75) (sound_env (l := [(51, G51), (54, G54)]) w0 (by
    intro p hp
    simp only [List.mem_cons, List.not_mem_nil, or_false] at hp
    rcases hp with rfl | rfl
    · exact fs51 w0
    · exact fs54 w0)) (by kernel_rfl) Tryz.func75 (Λ := Lam75) (c := (bodyOf Tryz.f75)) (by kernel_rfl) Tryz.call75 (by kernel_rfl) (LS_of (bodyOf Tryz.f75) 0 (by kernel_rfl) (fun i hi => absurd hi (Nat.not_lt_zero i)) 3 (by kernel_rfl) (by
    intro i hi
    match i, hi with
    | 0, _ => exact pok75_14102
    | 1, _ => exact pok75_4004
    | 2, _ => exact pok75_8004
    | i + 3, hi => omega)) true (np := 5) (Nat.le_of_ble_eq_true (by kernel_rfl))).imp fun args => ?_
  by_cases hl : args.length = 5
  rotate_left
  · exact .inr fun m k hk => by
      unfold G75 at hk
      split at hk
      · exact hl rfl
      · exact hk
  obtain ⟨a0, a1, a2, a3, a4, rfl⟩ : ∃ a0 a1 a2 a3 a4, args = [a0, a1, a2, a3, a4] := len_list5 hl
  rcases kaggN_or 6 a0 with ⟨c_0, rfl⟩ | h
  rotate_left
  · exact .inr fun m k hk => h _ (by simpa only [G75, kI, kbool, kS, kptr, kaggN, kite, decide_true, eq_self] using hk)
  rcases kI_or .u32 a1 with ⟨x_1, rfl⟩ | h
  rotate_left
  · exact .inr fun m k hk => h _ (by simpa only [G75, kI, kbool, kS, kptr, kaggN, kite, decide_true, eq_self] using hk)
  rcases kI_or .u32 a2 with ⟨x_2, rfl⟩ | h
  rotate_left
  · exact .inr fun m k hk => h _ (by simpa only [G75, kI, kbool, kS, kptr, kaggN, kite, decide_true, eq_self] using hk)
  rcases kI_or .u32 a3 with ⟨x_3, rfl⟩ | h
  rotate_left
  · exact .inr fun m k hk => h _ (by simpa only [G75, kI, kbool, kS, kptr, kaggN, kite, decide_true, eq_self] using hk)
  rcases kI_or .u32 a4 with ⟨x_4, rfl⟩ | h
  rotate_left
  · exact .inr fun m k hk => h _ (by simpa only [G75, kI, kbool, kS, kptr, kaggN, kite, decide_true, eq_self] using hk)
  exact .inl fun m k => propext ⟨fun h => ⟨rfl, by rw [eqn75]; simpa only [G75, kI, kbool, kS, kptr, kaggN, kite, decide_true, eq_self] using h⟩, fun h => by have h := h.2; rw [eqn75] at h; simpa only [G75, kI, kbool, kS, kptr, kaggN, kite, decide_true, eq_self] using h⟩

def E36 : Env := envOf [(64, G64), (73, G73), (74, G74), (75, G75)]

def P36_8004 (b_0 o_0 : Nat) (x_2 : Int) (x_3 : Int) (b_5 o_5 : Nat) (x_50 : Int) (x_51 : Bool) (m : Mem) (kn : Mem → Prop) : Prop :=
  kif x_51 (ldI .i64 m b_5 (o_5 + 0) fun x21 => kif ((x_3 == 0) == (x21 == 9)) (ldI .i64 m b_5 (o_5 + 3) fun x22 => F64 b_0 o_0 x22 x_2 m fun m23 => kn  m23) (kn  m)) (kif (x_50 == 14) (ldI .i64 m b_5 (o_5 + 3) fun x24 => ldI .u32 m b_0 (o_0 + 0 + 32) fun x25 => F64 b_0 o_0 x24 x25 m fun m26 => kn  m26) (kif (x_50 == 16) (ldI .i64 m b_5 (o_5 + 3) fun x27 => ldI .u32 m b_0 (o_0 + 0 + 33) fun x28 => F64 b_0 o_0 x27 x28 m fun m29 => kn  m29) (kn  m)))

def P36_4102 (b_0 o_0 : Nat) (x_2 : Int) (x_3 : Int) (b_5 o_5 : Nat) (m : Mem) (kn : Mem → Prop) : Prop :=
  ldG 6 m b_5 o_5 fun c11 => ldI .u32 m b_0 (o_0 + 0 + 32) fun x12 => ldI .u32 m b_0 (o_0 + 0 + 33) fun x13 => F75 c11 x_2 x_3 x12 x13 m fun x14 x15 x16 m17 => stC m17 b_0 (o_0 + 0 + 32) (.flat (.int .u32 x14)) fun m18 => stC m18 b_0 (o_0 + 0 + 33) (.flat (.int .u32 x15)) fun m19 => ldI .i64 m19 b_5 (o_5 + 0) fun x20 => kif (x20 == 9) (P36_8004 b_0 o_0 x_2 x_3 b_5 o_5 x20 (x20 == 9) m19 (fun m30 => kn  m30)) (P36_8004 b_0 o_0 x_2 x_3 b_5 o_5 x20 (x20 == 10) m19 (fun m31 => kn  m31))

/-- (*pianola/pianolaref17.Machine).plain -/
def F36 (b_0 o_0 : Nat) (c_1 : Nat → AV) (x_2 : Int) (x_3 : Int) (m : Mem) (k : Mem → Prop) : Prop :=
  newK m ⟨6, c_1, 25, false⟩ fun b2 m1 => ldG 6 m1 b2 0 fun c3 => F73 c3 x_2 x_3 m1 fun x4 x5 m6 => kif x5 (ldG 6 m6 b2 0 fun c7 => F74 c7 m6 fun x8 m9 => F64 b_0 o_0 x8 x4 m9 fun m10 => P36_4102 b_0 o_0 x_2 x_3 b2 0 m10 (fun m32 => k  m32)) (P36_4102 b_0 o_0 x_2 x_3 b2 0 m6 (fun m33 => k  m33))

def G36 (args : List AV) (m : Mem) (k : KV) : Prop := match args with
  | [a0, a1, a2, a3] => kptr a0 fun b_0 o_0 => kaggN 6 a1 fun c_1 => kI .u32 a2 fun x_2 => kI .u32 a3 fun x_3 => F36 b_0 o_0 c_1 x_2 x_3 m (fun m' => k (.tup []) m')
  | _ => False

def LamP36_4102 (σ : Nat → AV) (m : Mem) (k : KX) : Prop := kptr (σ 0) fun b_0 o_0 => kI .u32 (σ 2) fun x_2 => kI .u32 (σ 3) fun x_3 => kptr (σ 5) fun b_5 o_5 => P36_4102 b_0 o_0 x_2 x_3 b_5 o_5 m (fun m' => k .normal (only [] []) m')

def LamP36_8004 (σ : Nat → AV) (m : Mem) (k : KX) : Prop := kptr (σ 0) fun b_0 o_0 => kI .u32 (σ 2) fun x_2 => kI .u32 (σ 3) fun x_3 => kptr (σ 5) fun b_5 o_5 => kI .i64 (σ 50) fun x_50 => kbool (σ 51) fun x_51 => P36_8004 b_0 o_0 x_2 x_3 b_5 o_5 x_50 x_51 m (fun m' => k .normal (only [] []) m')

def Lam36 : LEnv := ⟨fun a σ m k => match firstReg a with
  | _ => bump False,
  fun id => match id with
  | _ => bump false,
  fun b => match keyC b with
  | some 4102 => true
  | some 8004 => true
  | _ => bump false,
  fun b σ m k => match keyC b with
  | some 4102 => LamP36_4102 σ m k
  | some 8004 => LamP36_8004 σ m k
  | _ => bump False⟩

def lxp36_8004 : Ex → List Nat := fun e => match e with
  | .normal => []
  | _ => []

theorem pc36_8004 (b_0 o_0 : Nat) (x_2 : Int) (x_3 : Int) (b_5 o_5 : Nat) (x_50 : Int) (x_51 : Bool) (m : Mem) (k : KX) : once Tryz.prog E36 Lam36 [0, 2, 3, 5, 50, 51] lxp36_8004 (((secsOf (bodyOf Tryz.f36)).filter Lam36.cut).getD 1 .skip) [(.ptr b_0 o_0), (.flat (.int .u32 x_2)), (.flat (.int .u32 x_3)), (.ptr b_5 o_5), (.flat (.int .i64 x_50)), (.flat (.bool x_51))] m k = P36_8004 b_0 o_0 x_2 x_3 b_5 o_5 x_50 x_51 m (fun m' => k .normal (only [] []) m') := by
  kernel_rfl

theorem pok36_8004 : PieceOK Tryz.prog E36 Lam36 (((secsOf (bodyOf Tryz.f36)).filter Lam36.cut).getD 1 .skip) := by
  refine ⟨fun σ => ∃ b_0 o_0 x_2 x_3 b_5 o_5 x_50 x_51, σ 0 = .ptr b_0 o_0 ∧ σ 2 = .flat (.int .u32 x_2) ∧ σ 3 = .flat (.int .u32 x_3) ∧ σ 5 = .ptr b_5 o_5 ∧ σ 50 = .flat (.int .i64 x_50) ∧ σ 51 = .flat (.bool x_51), [0, 2, 3, 5, 50, 51], lxp36_8004, fun σ m k => ?_⟩
  have e : Lam36.piece (((secsOf (bodyOf Tryz.f36)).filter Lam36.cut).getD 1 .skip) σ m k = LamP36_8004 σ m k := by kernel_rfl
  rw [e]
  constructor
  · intro h
    unfold LamP36_8004 at h
    obtain ⟨b_0, o_0, h0, h⟩ := kptr_ok h
    obtain ⟨x_2, h1, h⟩ := kI_ok h
    obtain ⟨x_3, h2, h⟩ := kI_ok h
    obtain ⟨b_5, o_5, h3, h⟩ := kptr_ok h
    obtain ⟨x_50, h4, h⟩ := kI_ok h
    obtain ⟨x_51, h5, h⟩ := kbool_ok h
    refine ⟨⟨b_0, o_0, x_2, x_3, b_5, o_5, x_50, x_51, h0, h1, h2, h3, h4, h5⟩, ?_⟩
    have ev : [0, 2, 3, 5, 50, 51].map σ = [(.ptr b_0 o_0), (.flat (.int .u32 x_2)), (.flat (.int .u32 x_3)), (.ptr b_5 o_5), (.flat (.int .i64 x_50)), (.flat (.bool x_51))] := by simp only [List.map_cons, List.map_nil, h0, h1, h2, h3, h4, h5]
    rw [ev, pc36_8004]
    exact h
  · rintro ⟨⟨b_0, o_0, x_2, x_3, b_5, o_5, x_50, x_51, h0, h1, h2, h3, h4, h5⟩, h⟩
    have ev : [0, 2, 3, 5, 50, 51].map σ = [(.ptr b_0 o_0), (.flat (.int .u32 x_2)), (.flat (.int .u32 x_3)), (.ptr b_5 o_5), (.flat (.int .i64 x_50)), (.flat (.bool x_51))] := by simp only [List.map_cons, List.map_nil, h0, h1, h2, h3, h4, h5]
    rw [ev, pc36_8004] at h
    unfold LamP36_8004
    try simp only [h0, h1, h2, h3, h4, h5, kI, kbool, kS, kptr, kaggN, kite, decide_true, eq_self]
    exact h

def lxp36_4102 : Ex → List Nat := fun e => match e with
  | .normal => []
  | _ => []

theorem pc36_4102 (b_0 o_0 : Nat) (x_2 : Int) (x_3 : Int) (b_5 o_5 : Nat) (m : Mem) (k : KX) : once Tryz.prog E36 Lam36 [0, 2, 3, 5] lxp36_4102 (((secsOf (bodyOf Tryz.f36)).filter Lam36.cut).getD 0 .skip) [(.ptr b_0 o_0), (.flat (.int .u32 x_2)), (.flat (.int .u32 x_3)), (.ptr b_5 o_5)] m k = P36_4102 b_0 o_0 x_2 x_3 b_5 o_5 m (fun m' => k .normal (only [] []) m') := by
  kernel_rfl

theorem pok36_4102 : PieceOK Tryz.prog E36 Lam36 (((secsOf (bodyOf Tryz.f36)).filter Lam36.cut).getD 0 .skip) := by
  refine ⟨fun σ => ∃ b_0 o_0 x_2 x_3 b_5 o_5, σ 0 = .ptr b_0 o_0 ∧ σ 2 = .flat (.int .u32 x_2) ∧ σ 3 = .flat (.int .u32 x_3) ∧ σ 5 = .ptr b_5 o_5, [0, 2, 3, 5], lxp36_4102, fun σ m k => ?_⟩
  have e : Lam36.piece (((secsOf (bodyOf Tryz.f36)).filter Lam36.cut).getD 0 .skip) σ m k = LamP36_4102 σ m k := by kernel_rfl
  rw [e]
  constructor
  · intro h
    unfold LamP36_4102 at h
    obtain ⟨b_0, o_0, h0, h⟩ := kptr_ok h
    obtain ⟨x_2, h1, h⟩ := kI_ok h
    obtain ⟨x_3, h2, h⟩ := kI_ok h
    obtain ⟨b_5, o_5, h3, h⟩ := kptr_ok h
    refine ⟨⟨b_0, o_0, x_2, x_3, b_5, o_5, h0, h1, h2, h3⟩, ?_⟩
    have ev : [0, 2, 3, 5].map σ = [(.ptr b_0 o_0), (.flat (.int .u32 x_2)), (.flat (.int .u32 x_3)), (.ptr b_5 o_5)] := by simp only [List.map_cons, List.map_nil, h0, h1, h2, h3]
    rw [ev, pc36_4102]
    exact h
  · rintro ⟨⟨b_0, o_0, x_2, x_3, b_5, o_5, h0, h1, h2, h3⟩, h⟩
    have ev : [0, 2, 3, 5].map σ = [(.ptr b_0 o_0), (.flat (.int .u32 x_2)), (.flat (.int .u32 x_3)), (.ptr b_5 o_5)] := by simp only [List.map_cons, List.map_nil, h0, h1, h2, h3]
    rw [ev, pc36_4102] at h
    unfold LamP36_4102
    try simp only [h0, h1, h2, h3, kI, kbool, kS, kptr, kaggN, kite, decide_true, eq_self]
    exact h

theorem eqn36 (b_0 o_0 : Nat) (c_1 : Nat → AV) (x_2 : Int) (x_3 : Int) (m : Mem) (k : KV) : bodyK Tryz.prog E36 Lam36 Tryz.f36 false [(.ptr b_0 o_0), (.agg 6 c_1), (.flat (.int .u32 x_2)), (.flat (.int .u32 x_3))] m k = F36 b_0 o_0 c_1 x_2 x_3 m (fun m' => k (.tup []) m') := by
  kernel_rfl

theorem fs36 (w0 : World) : FS Tryz.prog w0 36 G36 := by
  refine (fs_body (Γ := E36) (sound_env (l := [(64, G64), (73, G73), (74, G74), (75, G75)]) w0 (by
    intro p hp
    simp only [List.mem_cons, List.not_mem_nil, or_false] at hp
    rcases hp with rfl | rfl | rfl | rfl
    · exact fs64 w0
    · exact fs73 w0
    · exact fs74 w0
    · exact fs75 w0)) (by kernel_rfl) Tryz.func36 (Λ := Lam36) (c := (bodyOf Tryz.f36)) (by kernel_rfl) Tryz.call36 (by kernel_rfl) (LS_of (bodyOf Tryz.f36) 0 (by kernel_rfl) (fun i hi => absurd hi (Nat.not_lt_zero i)) 2 (by kernel_rfl) (by
    intro i hi
    match i, hi with
    | 0, _ => exact pok36_4102
    | 1, _ => exact pok36_8004
    | i + 2, hi => omega)) false (np := 4) (Nat.le_of_ble_eq_true (by kernel_rfl))).imp fun args => ?_
  by_cases hl : args.length = 4
  rotate_left
  · exact .inr fun m k hk => by
      unfold G36 at hk
      split at hk
      · exact hl rfl
      · exact hk
  obtain ⟨a0, a1, a2, a3, rfl⟩ : ∃ a0 a1 a2 a3, args = [a0, a1, a2, a3] := len_list4 hl
  rcases kptr_or a0 with ⟨b_0, o_0, rfl⟩ | h
  rotate_left
  · exact .inr fun m k hk => h _ (by simpa only [G36, kI, kbool, kS, kptr, kaggN, kite, decide_true, eq_self] using hk)
  rcases kaggN_or 6 a1 with ⟨c_1, rfl⟩ | h
  rotate_left
  · exact .inr fun m k hk => h _ (by simpa only [G36, kI, kbool, kS, kptr, kaggN, kite, decide_true, eq_self] using hk)
  rcases kI_or .u32 a2 with ⟨x_2, rfl⟩ | h
  rotate_left
  · exact .inr fun m k hk => h _ (by simpa only [G36, kI, kbool, kS, kptr, kaggN, kite, decide_true, eq_self] using hk)
  rcases kI_or .u32 a3 with ⟨x_3, rfl⟩ | h
  rotate_left
  · exact .inr fun m k hk => h _ (by simpa only [G36, kI, kbool, kS, kptr, kaggN, kite, decide_true, eq_self] using hk)
  exact .inl fun m k => propext ⟨fun h => ⟨rfl, by rw [eqn36]; simpa only [G36, kI, kbool, kS, kptr, kaggN, kite, decide_true, eq_self] using h⟩, fun h => by have h := h.2; rw [eqn36] at h; simpa only [G36, kI, kbool, kS, kptr, kaggN, kite, decide_true, eq_self] using h⟩

def E76 : Env := envOf []

def P76_17004 (x_1 : Int) (x_7 : Bool) (x_11 : Int) (x_31 : Bool) (m : Mem) (kr : Bool → Mem → Prop) (kn : Mem → Prop) : Prop :=
  kif x_31 (kr (!x_7) m) (kif (x_11 == 44) (kif x_7 (kr true m) (kr (x_1 == 0) m)) (kif (x_11 == 45) (kif (!x_7) (kr (x_1 != 0) m) (kr false m)) (kn  m)))

def P76_14004 (x_1 : Int) (x_7 : Bool) (x_11 : Int) (x_27 : Bool) (m : Mem) (kr : Bool → Mem → Prop) (kn : Mem → Prop) : Prop :=
  kif x_27 (kr x_7 m) (kif (x_11 == 37) (P76_17004 x_1 x_7 x_11 (x_11 == 37) m (fun x4 m5 => kr x4 m5) (fun m6 => kn  m6)) (P76_17004 x_1 x_7 x_11 (x_11 == 39) m (fun x7 m8 => kr x7 m8) (fun m9 => kn  m9)))

def P76_7004 (x_1 : Int) (x_2 : Int) (x_7 : Bool) (x_11 : Int) (x_12 : Bool) (m : Mem) (kr : Bool → Mem → Prop) (kn : Mem → Prop) : Prop :=
  kif x_12 (kr true m) (kif (x_11 == 42) (kr (x_1 == x_2) m) (kif (x_11 == 43) (kr (x_1 != x_2) m) (kif (x_11 == 36) (P76_14004 x_1 x_7 x_11 (x_11 == 36) m (fun x10 m11 => kr x10 m11) (fun m12 => kn  m12)) (P76_14004 x_1 x_7 x_11 (x_11 == 38) m (fun x13 m14 => kr x13 m14) (fun m15 => kn  m15)))))

/-- pianola/pianolaref4.Taken -/
def F76 (c_0 : Nat → AV) (x_1 : Int) (x_2 : Int) (m : Mem) (k : Bool → Mem → Prop) : Prop :=
  newK m ⟨6, c_0, 25, false⟩ fun b2 m1 => ldI .i64 m1 b2 0 fun x3 => kif (x3 == 40) (P76_7004 x_1 x_2 (decide (x_1 ≥ 2147483648)) x3 (x3 == 40) m1 (fun x16 m17 => (Keeps m m17 ∧ k x16 m)) (fun m18 => (Keeps m m18 ∧ k false m))) (kif (x3 == 41) (P76_7004 x_1 x_2 (decide (x_1 ≥ 2147483648)) x3 (x3 == 41) m1 (fun x19 m20 => (Keeps m m20 ∧ k x19 m)) (fun m21 => (Keeps m m21 ∧ k false m))) (kif (x3 == 7) (P76_7004 x_1 x_2 (decide (x_1 ≥ 2147483648)) x3 (x3 == 7) m1 (fun x22 m23 => (Keeps m m23 ∧ k x22 m)) (fun m24 => (Keeps m m24 ∧ k false m))) (P76_7004 x_1 x_2 (decide (x_1 ≥ 2147483648)) x3 (x3 == 8) m1 (fun x25 m26 => (Keeps m m26 ∧ k x25 m)) (fun m27 => (Keeps m m27 ∧ k false m)))))

def G76 (args : List AV) (m : Mem) (k : KV) : Prop := match args with
  | [a0, a1, a2] => kaggN 6 a0 fun c_0 => kI .u32 a1 fun x_1 => kI .u32 a2 fun x_2 => F76 c_0 x_1 x_2 m (fun x_1000 m' => k (.flat (.bool x_1000)) m')
  | _ => False

def LamP76_7004 (σ : Nat → AV) (m : Mem) (k : KX) : Prop := kI .u32 (σ 1) fun x_1 => kI .u32 (σ 2) fun x_2 => kbool (σ 7) fun x_7 => kI .i64 (σ 11) fun x_11 => kbool (σ 12) fun x_12 => P76_7004 x_1 x_2 x_7 x_11 x_12 m (fun x_6' m' => k .ret (only [6] [(.flat (.bool x_6'))]) m') (fun m' => k .normal (only [] []) m')

def LamP76_14004 (σ : Nat → AV) (m : Mem) (k : KX) : Prop := kI .u32 (σ 1) fun x_1 => kbool (σ 7) fun x_7 => kI .i64 (σ 11) fun x_11 => kbool (σ 27) fun x_27 => P76_14004 x_1 x_7 x_11 x_27 m (fun x_6' m' => k .ret (only [6] [(.flat (.bool x_6'))]) m') (fun m' => k .normal (only [] []) m')

def LamP76_17004 (σ : Nat → AV) (m : Mem) (k : KX) : Prop := kI .u32 (σ 1) fun x_1 => kbool (σ 7) fun x_7 => kI .i64 (σ 11) fun x_11 => kbool (σ 31) fun x_31 => P76_17004 x_1 x_7 x_11 x_31 m (fun x_6' m' => k .ret (only [6] [(.flat (.bool x_6'))]) m') (fun m' => k .normal (only [] []) m')

def Lam76 : LEnv := ⟨fun a σ m k => match firstReg a with
  | _ => bump False,
  fun id => match id with
  | _ => bump false,
  fun b => match keyC b with
  | some 7004 => true
  | some 14004 => true
  | some 17004 => true
  | _ => bump false,
  fun b σ m k => match keyC b with
  | some 7004 => LamP76_7004 σ m k
  | some 14004 => LamP76_14004 σ m k
  | some 17004 => LamP76_17004 σ m k
  | _ => bump False⟩

def lxp76_17004 : Ex → List Nat := fun e => match e with
  | .ret => [6]
  | .normal => []
  | _ => []

theorem pc76_17004 (x_1 : Int) (x_7 : Bool) (x_11 : Int) (x_31 : Bool) (m : Mem) (k : KX) : once Tryz.prog E76 Lam76 [1, 7, 11, 31] lxp76_17004 (((secsOf (bodyOf Tryz.f76)).filter Lam76.cut).getD 2 .skip) [(.flat (.int .u32 x_1)), (.flat (.bool x_7)), (.flat (.int .i64 x_11)), (.flat (.bool x_31))] m k = P76_17004 x_1 x_7 x_11 x_31 m (fun x_6' m' => k .ret (only [6] [(.flat (.bool x_6'))]) m') (fun m' => k .normal (only [] []) m') := by
  kernel_rfl

theorem pok76_17004 : PieceOK Tryz.prog E76 Lam76 (((secsOf (bodyOf Tryz.f76)).filter Lam76.cut).getD 2 .skip) := by
  refine ⟨fun σ => ∃ x_1 x_7 x_11 x_31, σ 1 = .flat (.int .u32 x_1) ∧ σ 7 = .flat (.bool x_7) ∧ σ 11 = .flat (.int .i64 x_11) ∧ σ 31 = .flat (.bool x_31), [1, 7, 11, 31], lxp76_17004, fun σ m k => ?_⟩
  have e : Lam76.piece (((secsOf (bodyOf Tryz.f76)).filter Lam76.cut).getD 2 .skip) σ m k = LamP76_17004 σ m k := by kernel_rfl
  rw [e]
  constructor
  · intro h
    unfold LamP76_17004 at h
    obtain ⟨x_1, h0, h⟩ := kI_ok h
    obtain ⟨x_7, h1, h⟩ := kbool_ok h
    obtain ⟨x_11, h2, h⟩ := kI_ok h
    obtain ⟨x_31, h3, h⟩ := kbool_ok h
    refine ⟨⟨x_1, x_7, x_11, x_31, h0, h1, h2, h3⟩, ?_⟩
    have ev : [1, 7, 11, 31].map σ = [(.flat (.int .u32 x_1)), (.flat (.bool x_7)), (.flat (.int .i64 x_11)), (.flat (.bool x_31))] := by simp only [List.map_cons, List.map_nil, h0, h1, h2, h3]
    rw [ev, pc76_17004]
    exact h
  · rintro ⟨⟨x_1, x_7, x_11, x_31, h0, h1, h2, h3⟩, h⟩
    have ev : [1, 7, 11, 31].map σ = [(.flat (.int .u32 x_1)), (.flat (.bool x_7)), (.flat (.int .i64 x_11)), (.flat (.bool x_31))] := by simp only [List.map_cons, List.map_nil, h0, h1, h2, h3]
    rw [ev, pc76_17004] at h
    unfold LamP76_17004
    try simp only [h0, h1, h2, h3, kI, kbool, kS, kptr, kaggN, kite, decide_true, eq_self]
    exact h

def lxp76_14004 : Ex → List Nat := fun e => match e with
  | .ret => [6]
  | .normal => []
  | _ => []

theorem pc76_14004 (x_1 : Int) (x_7 : Bool) (x_11 : Int) (x_27 : Bool) (m : Mem) (k : KX) : once Tryz.prog E76 Lam76 [1, 7, 11, 27] lxp76_14004 (((secsOf (bodyOf Tryz.f76)).filter Lam76.cut).getD 1 .skip) [(.flat (.int .u32 x_1)), (.flat (.bool x_7)), (.flat (.int .i64 x_11)), (.flat (.bool x_27))] m k = P76_14004 x_1 x_7 x_11 x_27 m (fun x_6' m' => k .ret (only [6] [(.flat (.bool x_6'))]) m') (fun m' => k .normal (only [] []) m') := by
  kernel_rfl

theorem pok76_14004 : PieceOK Tryz.prog E76 Lam76 (((secsOf (bodyOf Tryz.f76)).filter Lam76.cut).getD 1 .skip) := by
  refine ⟨fun σ => ∃ x_1 x_7 x_11 x_27, σ 1 = .flat (.int .u32 x_1) ∧ σ 7 = .flat (.bool x_7) ∧ σ 11 = .flat (.int .i64 x_11) ∧ σ 27 = .flat (.bool x_27), [1, 7, 11, 27], lxp76_14004, fun σ m k => ?_⟩
  have e : Lam76.piece (((secsOf (bodyOf Tryz.f76)).filter Lam76.cut).getD 1 .skip) σ m k = LamP76_14004 σ m k := by kernel_rfl
  rw [e]
  constructor
  · intro h
    unfold LamP76_14004 at h
    obtain ⟨x_1, h0, h⟩ := kI_ok h
    obtain ⟨x_7, h1, h⟩ := kbool_ok h
    obtain ⟨x_11, h2, h⟩ := kI_ok h
    obtain ⟨x_27, h3, h⟩ := kbool_ok h
    refine ⟨⟨x_1, x_7, x_11, x_27, h0, h1, h2, h3⟩, ?_⟩
    have ev : [1, 7, 11, 27].map σ = [(.flat (.int .u32 x_1)), (.flat (.bool x_7)), (.flat (.int .i64 x_11)), (.flat (.bool x_27))] := by simp only [List.map_cons, List.map_nil, h0, h1, h2, h3]
    rw [ev, pc76_14004]
    exact h
  · rintro ⟨⟨x_1, x_7, x_11, x_27, h0, h1, h2, h3⟩, h⟩
    have ev : [1, 7, 11, 27].map σ = [(.flat (.int .u32 x_1)), (.flat (.bool x_7)), (.flat (.int .i64 x_11)), (.flat (.bool x_27))] := by simp only [List.map_cons, List.map_nil, h0, h1, h2, h3]
    rw [ev, pc76_14004] at h
    unfold LamP76_14004
    try simp only [h0, h1, h2, h3, kI, kbool, kS, kptr, kaggN, kite, decide_true, eq_self]
    exact h

def lxp76_7004 : Ex → List Nat := fun e => match e with
  | .ret => [6]
  | .normal => []
  | _ => []

theorem pc76_7004 (x_1 : Int) (x_2 : Int) (x_7 : Bool) (x_11 : Int) (x_12 : Bool) (m : Mem) (k : KX) : once Tryz.prog E76 Lam76 [1, 2, 7, 11, 12] lxp76_7004 (((secsOf (bodyOf Tryz.f76)).filter Lam76.cut).getD 0 .skip) [(.flat (.int .u32 x_1)), (.flat (.int .u32 x_2)), (.flat (.bool x_7)), (.flat (.int .i64 x_11)), (.flat (.bool x_12))] m k = P76_7004 x_1 x_2 x_7 x_11 x_12 m (fun x_6' m' => k .ret (only [6] [(.flat (.bool x_6'))]) m') (fun m' => k .normal (only [] []) m') := by
  kernel_rfl

theorem pok76_7004 : PieceOK Tryz.prog E76 Lam76 (((secsOf (bodyOf Tryz.f76)).filter Lam76.cut).getD 0 .skip) := by
  refine ⟨fun σ => ∃ x_1 x_2 x_7 x_11 x_12, σ 1 = .flat (.int .u32 x_1) ∧ σ 2 = .flat (.int .u32 x_2) ∧ σ 7 = .flat (.bool x_7) ∧ σ 11 = .flat (.int .i64 x_11) ∧ σ 12 = .flat (.bool x_12), [1, 2, 7, 11, 12], lxp76_7004, fun σ m k => ?_⟩
  have e : Lam76.piece (((secsOf (bodyOf Tryz.f76)).filter Lam76.cut).getD 0 .skip) σ m k = LamP76_7004 σ m k := by kernel_rfl
  rw [e]
  constructor
  · intro h
    unfold LamP76_7004 at h
    obtain ⟨x_1, h0, h⟩ := kI_ok h
    obtain ⟨x_2, h1, h⟩ := kI_ok h
    obtain ⟨x_7, h2, h⟩ := kbool_ok h
    obtain ⟨x_11, h3, h⟩ := kI_ok h
    obtain ⟨x_12, h4, h⟩ := kbool_ok h
    refine ⟨⟨x_1, x_2, x_7, x_11, x_12, h0, h1, h2, h3, h4⟩, ?_⟩
    have ev : [1, 2, 7, 11, 12].map σ = [(.flat (.int .u32 x_1)), (.flat (.int .u32 x_2)), (.flat (.bool x_7)), (.flat (.int .i64 x_11)), (.flat (.bool x_12))] := by simp only [List.map_cons, List.map_nil, h0, h1, h2, h3, h4]
    rw [ev, pc76_7004]
    exact h
  · rintro ⟨⟨x_1, x_2, x_7, x_11, x_12, h0, h1, h2, h3, h4⟩, h⟩
    have ev : [1, 2, 7, 11, 12].map σ = [(.flat (.int .u32 x_1)), (.flat (.int .u32 x_2)), (.flat (.bool x_7)), (.flat (.int .i64 x_11)), (.flat (.bool x_12))] := by simp only [List.map_cons, List.map_nil, h0, h1, h2, h3, h4]
    rw [ev, pc76_7004] at h
    unfold LamP76_7004
    try simp only [h0, h1, h2, h3, h4, kI, kbool, kS, kptr, kaggN, kite, decide_true, eq_self]
    exact h

theorem eqn76 (c_0 : Nat → AV) (x_1 : Int) (x_2 : Int) (m : Mem) (k : KV) : bodyK Tryz.prog E76 Lam76 Tryz.f76 true [(.agg 6 c_0), (.flat (.int .u32 x_1)), (.flat (.int .u32 x_2))] m k = F76 c_0 x_1 x_2 m (fun x_1000 m' => k (.flat (.bool x_1000)) m') := by
  kernel_rfl

theorem fs76 (w0 : World) : FS Tryz.prog w0 76 G76 := by
  refine (fs_body (Γ := E76) (sound_env (l := []) w0 (by
    intro p hp
    cases hp)) (by kernel_rfl) Tryz.func76 (Λ := Lam76) (c := (bodyOf Tryz.f76)) (by kernel_rfl) Tryz.call76 (by kernel_rfl) (LS_of (bodyOf Tryz.f76) 0 (by kernel_rfl) (fun i hi => absurd hi (Nat.not_lt_zero i)) 3 (by kernel_rfl) (by
    intro i hi
    match i, hi with
    | 0, _ => exact pok76_7004
    | 1, _ => exact pok76_14004
    | 2, _ => exact pok76_17004
    | i + 3, hi => omega)) true (np := 3) (Nat.le_of_ble_eq_true (by kernel_rfl))).imp fun args => ?_
  by_cases hl : args.length = 3
  rotate_left
  · exact .inr fun m k hk => by
      unfold G76 at hk
      split at hk
      · exact hl rfl
      · exact hk
  obtain ⟨a0, a1, a2, rfl⟩ : ∃ a0 a1 a2, args = [a0, a1, a2] := len_list3 hl
  rcases kaggN_or 6 a0 with ⟨c_0, rfl⟩ | h
  rotate_left
  · exact .inr fun m k hk => h _ (by simpa only [G76, kI, kbool, kS, kptr, kaggN, kite, decide_true, eq_self] using hk)
  rcases kI_or .u32 a1 with ⟨x_1, rfl⟩ | h
  rotate_left
  · exact .inr fun m k hk => h _ (by simpa only [G76, kI, kbool, kS, kptr, kaggN, kite, decide_true, eq_self] using hk)
  rcases kI_or .u32 a2 with ⟨x_2, rfl⟩ | h
  rotate_left
  · exact .inr fun m k hk => h _ (by simpa only [G76, kI, kbool, kS, kptr, kaggN, kite, decide_true, eq_self] using hk)
  exact .inl fun m k => propext ⟨fun h => ⟨rfl, by rw [eqn76]; simpa only [G76, kI, kbool, kS, kptr, kaggN, kite, decide_true, eq_self] using h⟩, fun h => by have h := h.2; rw [eqn76] at h; simpa only [G76, kI, kbool, kS, kptr, kaggN, kite, decide_true, eq_self] using h⟩

def E77 : Env := envOf [(62, G62)]

def P77_16004 (x_1 : Int) (b_3 o_3 : Nat) (x_24 : Bool) (m : Mem) (kr : Int → Mem → Prop) (kn : Mem → Prop) : Prop :=
  kif x_24 (ldI .u32 m b_3 (o_3 + 5) fun x5 => F62 x5 16 m fun x6 m7 => kr (IntKind.wrap .u32 ((IntKind.wrap .u32 (x_1 + 4)) + (IntKind.wrap .u32 (4 * x6)))) m7) (kn  m)

def P77_7004 (x_1 : Int) (x_2 : Int) (b_3 o_3 : Nat) (x_8 : Int) (x_20 : Bool) (m : Mem) (kr : Int → Mem → Prop) (kn : Mem → Prop) : Prop :=
  kif x_20 (kr x_2 m) (kif (x_8 == 42) (P77_16004 x_1 b_3 o_3 (x_8 == 42) m (fun x8 m9 => kr x8 m9) (fun m10 => kn  m10)) (kif (x_8 == 43) (P77_16004 x_1 b_3 o_3 (x_8 == 43) m (fun x11 m12 => kr x11 m12) (fun m13 => kn  m13)) (kif (x_8 == 36) (P77_16004 x_1 b_3 o_3 (x_8 == 36) m (fun x14 m15 => kr x14 m15) (fun m16 => kn  m16)) (kif (x_8 == 37) (P77_16004 x_1 b_3 o_3 (x_8 == 37) m (fun x17 m18 => kr x17 m18) (fun m19 => kn  m19)) (kif (x_8 == 38) (P77_16004 x_1 b_3 o_3 (x_8 == 38) m (fun x20 m21 => kr x20 m21) (fun m22 => kn  m22)) (kif (x_8 == 39) (P77_16004 x_1 b_3 o_3 (x_8 == 39) m (fun x23 m24 => kr x23 m24) (fun m25 => kn  m25)) (kif (x_8 == 44) (P77_16004 x_1 b_3 o_3 (x_8 == 44) m (fun x26 m27 => kr x26 m27) (fun m28 => kn  m28)) (P77_16004 x_1 b_3 o_3 (x_8 == 45) m (fun x29 m30 => kr x29 m30) (fun m31 => kn  m31)))))))))

def P77_4004 (x_1 : Int) (x_2 : Int) (b_3 o_3 : Nat) (x_8 : Int) (x_9 : Bool) (m : Mem) (kr : Int → Mem → Prop) (kn : Mem → Prop) : Prop :=
  kif x_9 (ldI .u32 m b_3 (o_3 + 5) fun x4 => kr (bits .or .u32 (bits .and .u32 (IntKind.wrap .u32 (x_1 + 4)) 4026531840) (IntKind.wrap .u32 ((bits .and .u32 x4 67108863) * 4))) m) (kif (x_8 == 7) (P77_7004 x_1 x_2 b_3 o_3 x_8 (x_8 == 7) m (fun x32 m33 => kr x32 m33) (fun m34 => kn  m34)) (P77_7004 x_1 x_2 b_3 o_3 x_8 (x_8 == 8) m (fun x35 m36 => kr x35 m36) (fun m37 => kn  m37)))

/-- pianola/pianolaref4.Target -/
def F77 (c_0 : Nat → AV) (x_1 : Int) (x_2 : Int) (m : Mem) (k : Int → Mem → Prop) : Prop :=
  newK m ⟨6, c_0, 25, false⟩ fun b2 m1 => ldI .i64 m1 b2 0 fun x3 => kif (x3 == 40) (P77_4004 x_1 x_2 b2 0 x3 (x3 == 40) m1 (fun x38 m39 => (Keeps m m39 ∧ k x38 m)) (fun m40 => (Keeps m m40 ∧ k (IntKind.wrap .u32 (x_1 + 4)) m))) (P77_4004 x_1 x_2 b2 0 x3 (x3 == 41) m1 (fun x41 m42 => (Keeps m m42 ∧ k x41 m)) (fun m43 => (Keeps m m43 ∧ k (IntKind.wrap .u32 (x_1 + 4)) m)))

def G77 (args : List AV) (m : Mem) (k : KV) : Prop := match args with
  | [a0, a1, a2] => kaggN 6 a0 fun c_0 => kI .u32 a1 fun x_1 => kI .u32 a2 fun x_2 => F77 c_0 x_1 x_2 m (fun x_1000 m' => k (.flat (.int .u32 x_1000)) m')
  | _ => False

def LamP77_4004 (σ : Nat → AV) (m : Mem) (k : KX) : Prop := kI .u32 (σ 1) fun x_1 => kI .u32 (σ 2) fun x_2 => kptr (σ 3) fun b_3 o_3 => kI .i64 (σ 8) fun x_8 => kbool (σ 9) fun x_9 => P77_4004 x_1 x_2 b_3 o_3 x_8 x_9 m (fun x_6' m' => k .ret (only [6] [(.flat (.int .u32 x_6'))]) m') (fun m' => k .normal (only [1] [(.flat (.int .u32 x_1))]) m')

def LamP77_7004 (σ : Nat → AV) (m : Mem) (k : KX) : Prop := kI .u32 (σ 1) fun x_1 => kI .u32 (σ 2) fun x_2 => kptr (σ 3) fun b_3 o_3 => kI .i64 (σ 8) fun x_8 => kbool (σ 20) fun x_20 => P77_7004 x_1 x_2 b_3 o_3 x_8 x_20 m (fun x_6' m' => k .ret (only [6] [(.flat (.int .u32 x_6'))]) m') (fun m' => k .normal (only [1] [(.flat (.int .u32 x_1))]) m')

def LamP77_16004 (σ : Nat → AV) (m : Mem) (k : KX) : Prop := kI .u32 (σ 1) fun x_1 => kptr (σ 3) fun b_3 o_3 => kbool (σ 24) fun x_24 => P77_16004 x_1 b_3 o_3 x_24 m (fun x_6' m' => k .ret (only [6] [(.flat (.int .u32 x_6'))]) m') (fun m' => k .normal (only [1] [(.flat (.int .u32 x_1))]) m')

def Lam77 : LEnv := ⟨fun a σ m k => match firstReg a with
  | _ => bump False,
  fun id => match id with
  | _ => bump false,
  fun b => match keyC b with
  | some 4004 => true
  | some 7004 => true
  | some 16004 => true
  | _ => bump false,
  fun b σ m k => match keyC b with
  | some 4004 => LamP77_4004 σ m k
  | some 7004 => LamP77_7004 σ m k
  | some 16004 => LamP77_16004 σ m k
  | _ => bump False⟩

def lxp77_16004 : Ex → List Nat := fun e => match e with
  | .ret => [6]
  | .normal => [1]
  | _ => []

theorem pc77_16004 (x_1 : Int) (b_3 o_3 : Nat) (x_24 : Bool) (m : Mem) (k : KX) : once Tryz.prog E77 Lam77 [1, 3, 24] lxp77_16004 (((secsOf (bodyOf Tryz.f77)).filter Lam77.cut).getD 2 .skip) [(.flat (.int .u32 x_1)), (.ptr b_3 o_3), (.flat (.bool x_24))] m k = P77_16004 x_1 b_3 o_3 x_24 m (fun x_6' m' => k .ret (only [6] [(.flat (.int .u32 x_6'))]) m') (fun m' => k .normal (only [1] [(.flat (.int .u32 x_1))]) m') := by
  kernel_rfl

theorem pok77_16004 : PieceOK Tryz.prog E77 Lam77 (((secsOf (bodyOf Tryz.f77)).filter Lam77.cut).getD 2 .skip) := by
  refine ⟨fun σ => ∃ x_1 b_3 o_3 x_24, σ 1 = .flat (.int .u32 x_1) ∧ σ 3 = .ptr b_3 o_3 ∧ σ 24 = .flat (.bool x_24), [1, 3, 24], lxp77_16004, fun σ m k => ?_⟩
  have e : Lam77.piece (((secsOf (bodyOf Tryz.f77)).filter Lam77.cut).getD 2 .skip) σ m k = LamP77_16004 σ m k := by kernel_rfl
  rw [e]
  constructor
  · intro h
    unfold LamP77_16004 at h
    obtain ⟨x_1, h0, h⟩ := kI_ok h
    obtain ⟨b_3, o_3, h1, h⟩ := kptr_ok h
    obtain ⟨x_24, h2, h⟩ := kbool_ok h
    refine ⟨⟨x_1, b_3, o_3, x_24, h0, h1, h2⟩, ?_⟩
    have ev : [1, 3, 24].map σ = [(.flat (.int .u32 x_1)), (.ptr b_3 o_3), (.flat (.bool x_24))] := by simp only [List.map_cons, List.map_nil, h0, h1, h2]
    rw [ev, pc77_16004]
    exact h
  · rintro ⟨⟨x_1, b_3, o_3, x_24, h0, h1, h2⟩, h⟩
    have ev : [1, 3, 24].map σ = [(.flat (.int .u32 x_1)), (.ptr b_3 o_3), (.flat (.bool x_24))] := by simp only [List.map_cons, List.map_nil, h0, h1, h2]
    rw [ev, pc77_16004] at h
    unfold LamP77_16004
    try simp only [h0, h1, h2, kI, kbool, kS, kptr, kaggN, kite, decide_true, eq_self]
    exact h

def lxp77_7004 : Ex → List Nat := fun e => match e with
  | .ret => [6]
  | .normal => [1]
  | _ => []

theorem pc77_7004 (x_1 : Int) (x_2 : Int) (b_3 o_3 : Nat) (x_8 : Int) (x_20 : Bool) (m : Mem) (k : KX) : once Tryz.prog E77 Lam77 [1, 2, 3, 8, 20] lxp77_7004 (((secsOf (bodyOf Tryz.f77)).filter Lam77.cut).getD 1 .skip) [(.flat (.int .u32 x_1)), (.flat (.int .u32 x_2)), (.ptr b_3 o_3), (.flat (.int .i64 x_8)), (.flat (.bool x_20))] m k = P77_7004 x_1 x_2 b_3 o_3 x_8 x_20 m (fun x_6' m' => k .ret (only [6] [(.flat (.int .u32 x_6'))]) m') (fun m' => k .normal (only [1] [(.flat (.int .u32 x_1))]) m') := by
  kernel_rfl

theorem pok77_7004 : PieceOK Tryz.prog E77 Lam77 (((secsOf (bodyOf Tryz.f77)).filter Lam77.cut).getD 1 .skip) := by
  refine ⟨fun σ => ∃ x_1 x_2 b_3 o_3 x_8 x_20, σ 1 = .flat (.int .u32 x_1) ∧ σ 2 = .flat (.int .u32 x_2) ∧ σ 3 = .ptr b_3 o_3 ∧ σ 8 = .flat (.int .i64 x_8) ∧ σ 20 = .flat (.bool x_20), [1, 2, 3, 8, 20], lxp77_7004, fun σ m k => ?_⟩
  have e : Lam77.piece (((secsOf (bodyOf Tryz.f77)).filter Lam77.cut).getD 1 .skip) σ m k = LamP77_7004 σ m k := by kernel_rfl
  rw [e]
  constructor
  · intro h
    unfold LamP77_7004 at h
    obtain ⟨x_1, h0, h⟩ := kI_ok h
    obtain ⟨x_2, h1, h⟩ := kI_ok h
    obtain ⟨b_3, o_3, h2, h⟩ := kptr_ok h
    obtain ⟨x_8, h3, h⟩ := kI_ok h
    obtain ⟨x_20, h4, h⟩ := kbool_ok h
    refine ⟨⟨x_1, x_2, b_3, o_3, x_8, x_20, h0, h1, h2, h3, h4⟩, ?_⟩
    have ev : [1, 2, 3, 8, 20].map σ = [(.flat (.int .u32 x_1)), (.flat (.int .u32 x_2)), (.ptr b_3 o_3), (.flat (.int .i64 x_8)), (.flat (.bool x_20))] := by simp only [List.map_cons, List.map_nil, h0, h1, h2, h3, h4]
    rw [ev, pc77_7004]
    exact h
  · rintro ⟨⟨x_1, x_2, b_3, o_3, x_8, x_20, h0, h1, h2, h3, h4⟩, h⟩
    have ev : [1, 2, 3, 8, 20].map σ = [(.flat (.int .u32 x_1)), (.flat (.int .u32 x_2)), (.ptr b_3 o_3), (.flat (.int .i64 x_8)), (.flat (.bool x_20))] := by simp only [List.map_cons, List.map_nil, h0, h1, h2, h3, h4]
    rw [ev, pc77_7004] at h
    unfold LamP77_7004
    try simp only [h0, h1, h2, h3, h4, kI, kbool, kS, kptr, kaggN, kite, decide_true, eq_self]
    exact h

def lxp77_4004 : Ex → List Nat := fun e => match e with
  | .ret => [6]
  | .normal => [1]
  | _ => []

theorem pc77_4004 (x_1 : Int) (x_2 : Int) (b_3 o_3 : Nat) (x_8 : Int) (x_9 : Bool) (m : Mem) (k : KX) : once Tryz.prog E77 Lam77 [1, 2, 3, 8, 9] lxp77_4004 (((secsOf (bodyOf Tryz.f77)).filter Lam77.cut).getD 0 .skip) [(.flat (.int .u32 x_1)), (.flat (.int .u32 x_2)), (.ptr b_3 o_3), (.flat (.int .i64 x_8)), (.flat (.bool x_9))] m k = P77_4004 x_1 x_2 b_3 o_3 x_8 x_9 m (fun x_6' m' => k .ret (only [6] [(.flat (.int .u32 x_6'))]) m') (fun m' => k .normal (only [1] [(.flat (.int .u32 x_1))]) m') := by
  kernel_rfl

theorem pok77_4004 : PieceOK Tryz.prog E77 Lam77 (((secsOf (bodyOf Tryz.f77)).filter Lam77.cut).getD 0 .skip) := by
  refine ⟨fun σ => ∃ x_1 x_2 b_3 o_3 x_8 x_9, σ 1 = .flat (.int .u32 x_1) ∧ σ 2 = .flat (.int .u32 x_2) ∧ σ 3 = .ptr b_3 o_3 ∧ σ 8 = .flat (.int .i64 x_8) ∧ σ 9 = .flat (.bool x_9), [1, 2, 3, 8, 9], lxp77_4004, fun σ m k => ?_⟩
  have e : Lam77.piece (((secsOf (bodyOf Tryz.f77)).filter Lam77.cut).getD 0 .skip) σ m k = LamP77_4004 σ m k := by kernel_rfl
  rw [e]
  constructor
  · intro h
    unfold LamP77_4004 at h
    obtain ⟨x_1, h0, h⟩ := kI_ok h
    obtain ⟨x_2, h1, h⟩ := kI_ok h
    obtain ⟨b_3, o_3, h2, h⟩ := kptr_ok h
    obtain ⟨x_8, h3, h⟩ := kI_ok h
    obtain ⟨x_9, h4, h⟩ := kbool_ok h
    refine ⟨⟨x_1, x_2, b_3, o_3, x_8, x_9, h0, h1, h2, h3, h4⟩, ?_⟩
    have ev : [1, 2, 3, 8, 9].map σ = [(.flat (.int .u32 x_1)), (.flat (.int .u32 x_2)), (.ptr b_3 o_3), (.flat (.int .i64 x_8)), (.flat (.bool x_9))] := by simp only [List.map_cons, List.map_nil, h0, h1, h2, h3, h4]
    rw [ev, pc77_4004]
    exact h
  · rintro ⟨⟨x_1, x_2, b_3, o_3, x_8, x_9, h0, h1, h2, h3, h4⟩, h⟩
    have ev : [1, 2, 3, 8, 9].map σ = [(.flat (.int .u32 x_1)), (.flat (.int .u32 x_2)), (.ptr b_3 o_3), (.flat (.int .i64 x_8)), (.flat (.bool x_9))] := by simp only [List.map_cons, List.map_nil, h0, h1, h2, h3, h4]
    rw [ev, pc77_4004] at h
    unfold LamP77_4004
    try simp only [h0, h1, h2, h3, h4, kI, kbool, kS, kptr, kaggN, kite, decide_true, eq_self]
    exact h

theorem eqn77 (c_0 : Nat → AV) (x_1 : Int) (x_2 : Int) (m : Mem) (k : KV) : bodyK Tryz.prog E77 Lam77 Tryz.f77 true [(.agg 6 c_0), (.flat (.int .u32 x_1)), (.flat (.int .u32 x_2))] m k = F77 c_0 x_1 x_2 m (fun x_1000 m' => k (.flat (.int .u32 x_1000)) m') := by
  kernel_rfl

theorem fs77 (w0 : World) : FS Tryz.prog w0 77 G77 := by
  refine (fs_body (Γ := E77) (sound_env (l := [(62, G62)]) w0 (by
    intro p hp
    simp only [List.mem_cons, List.not_mem_nil, or_false] at hp
    rcases hp with rfl
    · exact fs62 w0)) (by kernel_rfl) Tryz.func77 (Λ := Lam77) (c := (bodyOf Tryz.f77)) (by kernel_rfl) Tryz.call77 (by kernel_rfl) (LS_of (bodyOf Tryz.f77) 0 (by kernel_rfl) (fun i hi => absurd hi (Nat.not_lt_zero i)) 3 (by kernel_rfl) (by
    intro i hi
    match i, hi with
    | 0, _ => exact pok77_4004
    | 1, _ => exact pok77_7004
    | 2, _ => exact pok77_16004
    | i + 3, hi => omega)) true (np := 3) (Nat.le_of_ble_eq_true (by kernel_rfl))).imp fun args => ?_
  by_cases hl : args.length = 3
  rotate_left
  · exact .inr fun m k hk => by
      unfold G77 at hk
      split at hk
      · exact hl rfl
      · exact hk
  obtain ⟨a0, a1, a2, rfl⟩ : ∃ a0 a1 a2, args = [a0, a1, a2] := len_list3 hl
  rcases kaggN_or 6 a0 with ⟨c_0, rfl⟩ | h
  rotate_left
  · exact .inr fun m k hk => h _ (by simpa only [G77, kI, kbool, kS, kptr, kaggN, kite, decide_true, eq_self] using hk)
  rcases kI_or .u32 a1 with ⟨x_1, rfl⟩ | h
  rotate_left
  · exact .inr fun m k hk => h _ (by simpa only [G77, kI, kbool, kS, kptr, kaggN, kite, decide_true, eq_self] using hk)
  rcases kI_or .u32 a2 with ⟨x_2, rfl⟩ | h
  rotate_left
  · exact .inr fun m k hk => h _ (by simpa only [G77, kI, kbool, kS, kptr, kaggN, kite, decide_true, eq_self] using hk)
  exact .inl fun m k => propext ⟨fun h => ⟨rfl, by rw [eqn77]; simpa only [G77, kI, kbool, kS, kptr, kaggN, kite, decide_true, eq_self] using h⟩, fun h => by have h := h.2; rw [eqn77] at h; simpa only [G77, kI, kbool, kS, kptr, kaggN, kite, decide_true, eq_self] using h⟩

def E78 : Env := envOf []

def P78_5004 (b_1 o_1 : Nat) (x_5 : Int) (x_6 : Bool) (m : Mem) (kr : Int → Bool → Mem → Prop) (kn : Mem → Prop) : Prop :=
  kif x_6 (kr 31 true m) (kif (x_5 == 8) (ldI .i64 m b_1 (o_1 + 3) fun x4 => kr x4 true m) (kn  m))

/-- pianola/pianolaref4.Links -/
def F78 (c_0 : Nat → AV) (m : Mem) (k : Int → Bool → Mem → Prop) : Prop :=
  newK m ⟨6, c_0, 25, false⟩ fun b2 m1 => ldI .i64 m1 b2 0 fun x3 => kif (x3 == 41) (P78_5004 b2 0 x3 (x3 == 41) m1 (fun x5 x6 m7 => (Keeps m m7 ∧ k x5 x6 m)) (fun m8 => (Keeps m m8 ∧ k 0 false m))) (kif (x3 == 38) (P78_5004 b2 0 x3 (x3 == 38) m1 (fun x9 x10 m11 => (Keeps m m11 ∧ k x9 x10 m)) (fun m12 => (Keeps m m12 ∧ k 0 false m))) (P78_5004 b2 0 x3 (x3 == 39) m1 (fun x13 x14 m15 => (Keeps m m15 ∧ k x13 x14 m)) (fun m16 => (Keeps m m16 ∧ k 0 false m))))

def G78 (args : List AV) (m : Mem) (k : KV) : Prop := match args with
  | [a0] => kaggN 6 a0 fun c_0 => F78 c_0 m (fun x_1000 x_1001 m' => k (.tup [(.flat (.int .i64 x_1000)), (.flat (.bool x_1001))]) m')
  | _ => False

def LamP78_5004 (σ : Nat → AV) (m : Mem) (k : KX) : Prop := kptr (σ 1) fun b_1 o_1 => kI .i64 (σ 5) fun x_5 => kbool (σ 6) fun x_6 => P78_5004 b_1 o_1 x_5 x_6 m (fun x_2' x_3' m' => k .ret (only [2, 3] [(.flat (.int .i64 x_2')), (.flat (.bool x_3'))]) m') (fun m' => k .normal (only [] []) m')

def Lam78 : LEnv := ⟨fun a σ m k => match firstReg a with
  | _ => bump False,
  fun id => match id with
  | _ => bump false,
  fun b => match keyC b with
  | some 5004 => true
  | _ => bump false,
  fun b σ m k => match keyC b with
  | some 5004 => LamP78_5004 σ m k
  | _ => bump False⟩

def lxp78_5004 : Ex → List Nat := fun e => match e with
  | .ret => [2, 3]
  | .normal => []
  | _ => []

theorem pc78_5004 (b_1 o_1 : Nat) (x_5 : Int) (x_6 : Bool) (m : Mem) (k : KX) : once Tryz.prog E78 Lam78 [1, 5, 6] lxp78_5004 (((secsOf (bodyOf Tryz.f78)).filter Lam78.cut).getD 0 .skip) [(.ptr b_1 o_1), (.flat (.int .i64 x_5)), (.flat (.bool x_6))] m k = P78_5004 b_1 o_1 x_5 x_6 m (fun x_2' x_3' m' => k .ret (only [2, 3] [(.flat (.int .i64 x_2')), (.flat (.bool x_3'))]) m') (fun m' => k .normal (only [] []) m') := by
  kernel_rfl

theorem pok78_5004 : PieceOK Tryz.prog E78 Lam78 (((secsOf (bodyOf Tryz.f78)).filter Lam78.cut).getD 0 .skip) := by
  refine ⟨fun σ => ∃ b_1 o_1 x_5 x_6, σ 1 = .ptr b_1 o_1 ∧ σ 5 = .flat (.int .i64 x_5) ∧ σ 6 = .flat (.bool x_6), [1, 5, 6], lxp78_5004, fun σ m k => ?_⟩
  have e : Lam78.piece (((secsOf (bodyOf Tryz.f78)).filter Lam78.cut).getD 0 .skip) σ m k = LamP78_5004 σ m k := by kernel_rfl
  rw [e]
  constructor
  · intro h
    unfold LamP78_5004 at h
    obtain ⟨b_1, o_1, h0, h⟩ := kptr_ok h
    obtain ⟨x_5, h1, h⟩ := kI_ok h
    obtain ⟨x_6, h2, h⟩ := kbool_ok h
    refine ⟨⟨b_1, o_1, x_5, x_6, h0, h1, h2⟩, ?_⟩
    have ev : [1, 5, 6].map σ = [(.ptr b_1 o_1), (.flat (.int .i64 x_5)), (.flat (.bool x_6))] := by simp only [List.map_cons, List.map_nil, h0, h1, h2]
    rw [ev, pc78_5004]
    exact h
  · rintro ⟨⟨b_1, o_1, x_5, x_6, h0, h1, h2⟩, h⟩
    have ev : [1, 5, 6].map σ = [(.ptr b_1 o_1), (.flat (.int .i64 x_5)), (.flat (.bool x_6))] := by simp only [List.map_cons, List.map_nil, h0, h1, h2]
    rw [ev, pc78_5004] at h
    unfold LamP78_5004
    try simp only [h0, h1, h2, kI, kbool, kS, kptr, kaggN, kite, decide_true, eq_self]
    exact h

theorem eqn78 (c_0 : Nat → AV) (m : Mem) (k : KV) : bodyK Tryz.prog E78 Lam78 Tryz.f78 true [(.agg 6 c_0)] m k = F78 c_0 m (fun x_1000 x_1001 m' => k (.tup [(.flat (.int .i64 x_1000)), (.flat (.bool x_1001))]) m') := by
  kernel_rfl

theorem fs78 (w0 : World) : FS Tryz.prog w0 78 G78 := by
  refine (fs_body (Γ := E78) (sound_env (l := []) w0 (by
    intro p hp
    cases hp)) (by kernel_rfl) Tryz.func78 (Λ := Lam78) (c := (bodyOf Tryz.f78)) (by kernel_rfl) Tryz.call78 (by kernel_rfl) (LS_of (bodyOf Tryz.f78) 0 (by kernel_rfl) (fun i hi => absurd hi (Nat.not_lt_zero i)) 1 (by kernel_rfl) (by
    intro i hi
    match i, hi with
    | 0, _ => exact pok78_5004
    | i + 1, hi => omega)) true (np := 1) (Nat.le_of_ble_eq_true (by kernel_rfl))).imp fun args => ?_
  by_cases hl : args.length = 1
  rotate_left
  · exact .inr fun m k hk => by
      unfold G78 at hk
      split at hk
      · exact hl rfl
      · exact hk
  obtain ⟨a0, rfl⟩ : ∃ a0, args = [a0] := len_list1 hl
  rcases kaggN_or 6 a0 with ⟨c_0, rfl⟩ | h
  rotate_left
  · exact .inr fun m k hk => h _ (by simpa only [G78, kI, kbool, kS, kptr, kaggN, kite, decide_true, eq_self] using hk)
  exact .inl fun m k => propext ⟨fun h => ⟨rfl, by rw [eqn78]; simpa only [G78, kI, kbool, kS, kptr, kaggN, kite, decide_true, eq_self] using h⟩, fun h => by have h := h.2; rw [eqn78] at h; simpa only [G78, kI, kbool, kS, kptr, kaggN, kite, decide_true, eq_self] using h⟩

def E37 : Env := envOf [(20, G20), (64, G64), (76, G76), (77, G77), (78, G78)]

def P37_7102 (b_0 o_0 : Nat) (b_5 o_5 : Nat) (x_8 : Int) (m : Mem) (kn : Mem → Prop) : Prop :=
  ldG 6 m b_5 o_5 fun c19 => F78 c19 m fun x20 x21 m22 => kif x21 (F64 b_0 o_0 x20 (IntKind.wrap .u32 (x_8 + 8)) m22 fun m23 => kn  m23) (kn  m22)

/-- (*pianola/pianolaref17.Machine).on -/
def F37 (b_0 o_0 : Nat) (c_1 : Nat → AV) (x_2 : Int) (x_3 : Int) (m : Mem) (k : Mem → Prop) : Prop :=
  newK m ⟨6, c_1, 25, false⟩ fun b2 m1 => ldI .u32 m1 b_0 (o_0 + 0 + 34) fun x3 => ldI .u32 m1 b_0 (o_0 + 0 + 35) fun x4 => stC m1 b_0 (o_0 + 0 + 34) (.flat (.int .u32 x4)) fun m5 => ldI .u32 m5 b_0 (o_0 + 0 + 34) fun x6 => stC m5 b_0 (o_0 + 0 + 35) (.flat (.int .u32 (IntKind.wrap .u32 (x6 + 4)))) fun m7 => ldG 6 m7 b2 0 fun c8 => F20 c8 m7 fun x9 m10 => stC m10 b_0 (o_0 + 0 + 36) (.flat (.bool (x9 == 3))) fun m11 => ldG 6 m11 b2 0 fun c12 => F76 c12 x_2 x_3 m11 fun x13 m14 => kif x13 (ldG 6 m14 b2 0 fun c15 => F77 c15 x3 x_2 m14 fun x16 m17 => stC m17 b_0 (o_0 + 0 + 35) (.flat (.int .u32 x16)) fun m18 => P37_7102 b_0 o_0 b2 0 x3 m18 (fun m24 => k  m24)) (P37_7102 b_0 o_0 b2 0 x3 m14 (fun m25 => k  m25))

def G37 (args : List AV) (m : Mem) (k : KV) : Prop := match args with
  | [a0, a1, a2, a3] => kptr a0 fun b_0 o_0 => kaggN 6 a1 fun c_1 => kI .u32 a2 fun x_2 => kI .u32 a3 fun x_3 => F37 b_0 o_0 c_1 x_2 x_3 m (fun m' => k (.tup []) m')
  | _ => False

def LamP37_7102 (σ : Nat → AV) (m : Mem) (k : KX) : Prop := kptr (σ 0) fun b_0 o_0 => kptr (σ 5) fun b_5 o_5 => kI .u32 (σ 8) fun x_8 => P37_7102 b_0 o_0 b_5 o_5 x_8 m (fun m' => k .normal (only [] []) m')

def Lam37 : LEnv := ⟨fun a σ m k => match firstReg a with
  | _ => bump False,
  fun id => match id with
  | _ => bump false,
  fun b => match keyC b with
  | some 7102 => true
  | _ => bump false,
  fun b σ m k => match keyC b with
  | some 7102 => LamP37_7102 σ m k
  | _ => bump False⟩

def lxp37_7102 : Ex → List Nat := fun e => match e with
  | .normal => []
  | _ => []

theorem pc37_7102 (b_0 o_0 : Nat) (b_5 o_5 : Nat) (x_8 : Int) (m : Mem) (k : KX) : once Tryz.prog E37 Lam37 [0, 5, 8] lxp37_7102 (((secsOf (bodyOf Tryz.f37)).filter Lam37.cut).getD 0 .skip) [(.ptr b_0 o_0), (.ptr b_5 o_5), (.flat (.int .u32 x_8))] m k = P37_7102 b_0 o_0 b_5 o_5 x_8 m (fun m' => k .normal (only [] []) m') := by
  kernel_rfl

theorem pok37_7102 : PieceOK Tryz.prog E37 Lam37 (((secsOf (bodyOf Tryz.f37)).filter Lam37.cut).getD 0 .skip) := by
  refine ⟨fun σ => ∃ b_0 o_0 b_5 o_5 x_8, σ 0 = .ptr b_0 o_0 ∧ σ 5 = .ptr b_5 o_5 ∧ σ 8 = .flat (.int .u32 x_8), [0, 5, 8], lxp37_7102, fun σ m k => ?_⟩
  have e : Lam37.piece (((secsOf (bodyOf Tryz.f37)).filter Lam37.cut).getD 0 .skip) σ m k = LamP37_7102 σ m k := by kernel_rfl
  rw [e]
  constructor
  · intro h
    unfold LamP37_7102 at h
    obtain ⟨b_0, o_0, h0, h⟩ := kptr_ok h
    obtain ⟨b_5, o_5, h1, h⟩ := kptr_ok h
    obtain ⟨x_8, h2, h⟩ := kI_ok h
    refine ⟨⟨b_0, o_0, b_5, o_5, x_8, h0, h1, h2⟩, ?_⟩
    have ev : [0, 5, 8].map σ = [(.ptr b_0 o_0), (.ptr b_5 o_5), (.flat (.int .u32 x_8))] := by simp only [List.map_cons, List.map_nil, h0, h1, h2]
    rw [ev, pc37_7102]
    exact h
  · rintro ⟨⟨b_0, o_0, b_5, o_5, x_8, h0, h1, h2⟩, h⟩
    have ev : [0, 5, 8].map σ = [(.ptr b_0 o_0), (.ptr b_5 o_5), (.flat (.int .u32 x_8))] := by simp only [List.map_cons, List.map_nil, h0, h1, h2]
    rw [ev, pc37_7102] at h
    unfold LamP37_7102
    try simp only [h0, h1, h2, kI, kbool, kS, kptr, kaggN, kite, decide_true, eq_self]
    exact h

theorem eqn37 (b_0 o_0 : Nat) (c_1 : Nat → AV) (x_2 : Int) (x_3 : Int) (m : Mem) (k : KV) : bodyK Tryz.prog E37 Lam37 Tryz.f37 false [(.ptr b_0 o_0), (.agg 6 c_1), (.flat (.int .u32 x_2)), (.flat (.int .u32 x_3))] m k = F37 b_0 o_0 c_1 x_2 x_3 m (fun m' => k (.tup []) m') := by
  kernel_rfl

theorem fs37 (w0 : World) : FS Tryz.prog w0 37 G37 := by
  refine (fs_body (Γ := E37) (sound_env (l := [(20, G20), (64, G64), (76, G76), (77, G77), (78, G78)]) w0 (by
    intro p hp
    simp only [List.mem_cons, List.not_mem_nil, or_false] at hp
    rcases hp with rfl | rfl | rfl | rfl | rfl
    · exact fs20 w0
    · exact fs64 w0
    · exact fs76 w0
    · exact fs77 w0
    · exact fs78 w0)) (by kernel_rfl) Tryz.func37 (Λ := Lam37) (c := (bodyOf Tryz.f37)) (by kernel_rfl) Tryz.call37 (by kernel_rfl) (LS_of (bodyOf Tryz.f37) 0 (by kernel_rfl) (fun i hi => absurd hi (Nat.not_lt_zero i)) 1 (by kernel_rfl) (by
    intro i hi
    match i, hi with
    | 0, _ => exact pok37_7102
    | i + 1, hi => omega)) false (np := 4) (Nat.le_of_ble_eq_true (by kernel_rfl))).imp fun args => ?_
  by_cases hl : args.length = 4
  rotate_left
  · exact .inr fun m k hk => by
      unfold G37 at hk
      split at hk
      · exact hl rfl
      · exact hk
  obtain ⟨a0, a1, a2, a3, rfl⟩ : ∃ a0 a1 a2 a3, args = [a0, a1, a2, a3] := len_list4 hl
  rcases kptr_or a0 with ⟨b_0, o_0, rfl⟩ | h
  rotate_left
  · exact .inr fun m k hk => h _ (by simpa only [G37, kI, kbool, kS, kptr, kaggN, kite, decide_true, eq_self] using hk)
  rcases kaggN_or 6 a1 with ⟨c_1, rfl⟩ | h
  rotate_left
  · exact .inr fun m k hk => h _ (by simpa only [G37, kI, kbool, kS, kptr, kaggN, kite, decide_true, eq_self] using hk)
  rcases kI_or .u32 a2 with ⟨x_2, rfl⟩ | h
  rotate_left
  · exact .inr fun m k hk => h _ (by simpa only [G37, kI, kbool, kS, kptr, kaggN, kite, decide_true, eq_self] using hk)
  rcases kI_or .u32 a3 with ⟨x_3, rfl⟩ | h
  rotate_left
  · exact .inr fun m k hk => h _ (by simpa only [G37, kI, kbool, kS, kptr, kaggN, kite, decide_true, eq_self] using hk)
  exact .inl fun m k => propext ⟨fun h => ⟨rfl, by rw [eqn37]; simpa only [G37, kI, kbool, kS, kptr, kaggN, kite, decide_true, eq_self] using h⟩, fun h => by have h := h.2; rw [eqn37] at h; simpa only [G37, kI, kbool, kS, kptr, kaggN, kite, decide_true, eq_self] using h⟩

def E14 : Env := envOf [(20, G20), (30, G30), (31, G31), (32, G32), (33, G33), (34, G34), (35, G35), (36, G36), (37, G37)]

def P14_20102 (b_0 o_0 : Nat) (b_3 o_3 : Nat) (x_5 : Int) (x_6 : Int) (m : Mem) (kr : Int → Mem → Prop) : Prop :=
  ldG 6 m b_3 o_3 fun c28 => F37 b_0 o_0 c28 x_5 x_6 m fun m29 => F35 b_0 (o_0 + 0) 1 m29 fun x30 m31 => kr (-1) m31

/-- (*pianola/pianolaref17.Machine).Exec -/
def F14 (b_0 o_0 : Nat) (c_1 : Nat → AV) (m : Mem) (k : Int → Mem → Prop) : Prop :=
  newK m ⟨6, c_1, 25, false⟩ fun b2 m1 => ldI .i64 m1 b2 1 fun x3 => kif (decide (0 ≤ bits .and .i64 x3 31) && decide (bits .and .i64 x3 31 < 32)) (ldI .u32 m1 b_0 (o_0 + 0 + 0 + (bits .and .i64 x3 31).toNat * 1) fun x4 => ldI .i64 m1 b2 2 fun x5 => kif (decide (0 ≤ bits .and .i64 x5 31) && decide (bits .and .i64 x5 31 < 32)) (ldI .u32 m1 b_0 (o_0 + 0 + 0 + (bits .and .i64 x5 31).toNat * 1) fun x6 => ldG 6 m1 b2 0 fun c7 => F30 b_0 o_0 c7 x4 x6 m1 fun x8 m9 => kif (decide (x8 ≥ 0)) (F31 b_0 o_0 x8 false m9 fun x10 m11 => k x10 m11) (ldG 6 m9 b2 0 fun c12 => F20 c12 m9 fun x13 m14 => kif (x13 == 4) (ldG 6 m14 b2 0 fun c15 => F32 b_0 o_0 c15 x4 m14 fun x16 m17 => kif (decide (x16 ≥ 0)) (k x16 m17) (P14_20102 b_0 o_0 b2 0 x4 x6 m17 (fun x32 m33 => k x32 m33))) (kif (x13 == 5) (ldG 6 m14 b2 0 fun c18 => F33 b_0 o_0 c18 x4 x6 m14 fun x19 m20 => kif (decide (x19 ≥ 0)) (k x19 m20) (P14_20102 b_0 o_0 b2 0 x4 x6 m20 (fun x34 m35 => k x34 m35))) (kif (x13 == 6) (ldG 6 m14 b2 0 fun c21 => F34 b_0 o_0 c21 x6 m14 fun m22 => ldI .i64 m22 b2 0 fun x23 => kif (x23 == 60) (F35 b_0 (o_0 + 0) 1 m22 fun x24 m25 => k (-1) m25) (P14_20102 b_0 o_0 b2 0 x4 x6 m22 (fun x36 m37 => k x36 m37))) (ldG 6 m14 b2 0 fun c26 => F36 b_0 o_0 c26 x4 x6 m14 fun m27 => P14_20102 b_0 o_0 b2 0 x4 x6 m27 (fun x38 m39 => k x38 m39)))))) False) False

def G14 (args : List AV) (m : Mem) (k : KV) : Prop := match args with
  | [a0, a1] => kptr a0 fun b_0 o_0 => kaggN 6 a1 fun c_1 => F14 b_0 o_0 c_1 m (fun x_1000 m' => k (.flat (.int .i64 x_1000)) m')
  | _ => False

def LamP14_20102 (σ : Nat → AV) (m : Mem) (k : KX) : Prop := kptr (σ 0) fun b_0 o_0 => kptr (σ 3) fun b_3 o_3 => kI .u32 (σ 5) fun x_5 => kI .u32 (σ 6) fun x_6 => P14_20102 b_0 o_0 b_3 o_3 x_5 x_6 m (fun x_4' m' => k .ret (only [4] [(.flat (.int .i64 x_4'))]) m')

def Lam14 : LEnv := ⟨fun a σ m k => match firstReg a with
  | _ => bump False,
  fun id => match id with
  | _ => bump false,
  fun b => match keyC b with
  | some 20102 => true
  | _ => bump false,
  fun b σ m k => match keyC b with
  | some 20102 => LamP14_20102 σ m k
  | _ => bump False⟩

def lxp14_20102 : Ex → List Nat := fun e => match e with
  | .ret => [4]
  | _ => []

theorem pc14_20102 (b_0 o_0 : Nat) (b_3 o_3 : Nat) (x_5 : Int) (x_6 : Int) (m : Mem) (k : KX) : once Tryz.prog E14 Lam14 [0, 3, 5, 6] lxp14_20102 (((secsOf (bodyOf Tryz.f14)).filter Lam14.cut).getD 0 .skip) [(.ptr b_0 o_0), (.ptr b_3 o_3), (.flat (.int .u32 x_5)), (.flat (.int .u32 x_6))] m k = P14_20102 b_0 o_0 b_3 o_3 x_5 x_6 m (fun x_4' m' => k .ret (only [4] [(.flat (.int .i64 x_4'))]) m') := by
  kernel_rfl

theorem pok14_20102 : PieceOK Tryz.prog E14 Lam14 (((secsOf (bodyOf Tryz.f14)).filter Lam14.cut).getD 0 .skip) := by
  refine ⟨fun σ => ∃ b_0 o_0 b_3 o_3 x_5 x_6, σ 0 = .ptr b_0 o_0 ∧ σ 3 = .ptr b_3 o_3 ∧ σ 5 = .flat (.int .u32 x_5) ∧ σ 6 = .flat (.int .u32 x_6), [0, 3, 5, 6], lxp14_20102, fun σ m k => ?_⟩
  have e : Lam14.piece (((secsOf (bodyOf Tryz.f14)).filter Lam14.cut).getD 0 .skip) σ m k = LamP14_20102 σ m k := by kernel_rfl
  rw [e]
  constructor
  · intro h
    unfold LamP14_20102 at h
    obtain ⟨b_0, o_0, h0, h⟩ := kptr_ok h
    obtain ⟨b_3, o_3, h1, h⟩ := kptr_ok h
    obtain ⟨x_5, h2, h⟩ := kI_ok h
    obtain ⟨x_6, h3, h⟩ := kI_ok h
    refine ⟨⟨b_0, o_0, b_3, o_3, x_5, x_6, h0, h1, h2, h3⟩, ?_⟩
    have ev : [0, 3, 5, 6].map σ = [(.ptr b_0 o_0), (.ptr b_3 o_3), (.flat (.int .u32 x_5)), (.flat (.int .u32 x_6))] := by simp only [List.map_cons, List.map_nil, h0, h1, h2, h3]
    rw [ev, pc14_20102]
    exact h
  · rintro ⟨⟨b_0, o_0, b_3, o_3, x_5, x_6, h0, h1, h2, h3⟩, h⟩
    have ev : [0, 3, 5, 6].map σ = [(.ptr b_0 o_0), (.ptr b_3 o_3), (.flat (.int .u32 x_5)), (.flat (.int .u32 x_6))] := by simp only [List.map_cons, List.map_nil, h0, h1, h2, h3]
    rw [ev, pc14_20102] at h
    unfold LamP14_20102
    try simp only [h0, h1, h2, h3, kI, kbool, kS, kptr, kaggN, kite, decide_true, eq_self]
    exact h

theorem eqn14 (b_0 o_0 : Nat) (c_1 : Nat → AV) (m : Mem) (k : KV) : bodyK Tryz.prog E14 Lam14 Tryz.f14 false [(.ptr b_0 o_0), (.agg 6 c_1)] m k = F14 b_0 o_0 c_1 m (fun x_1000 m' => k (.flat (.int .i64 x_1000)) m') := by
  kernel_rfl

theorem fs14 (w0 : World) : FS Tryz.prog w0 14 G14 := by
  refine (fs_body (Γ := E14) (sound_env (l := [(20, G20), (30, G30), (31, G31), (32, G32), (33, G33), (34, G34), (35, G35), (36, G36), (37, G37)]) w0 (by
    intro p hp
    simp only [List.mem_cons, List.not_mem_nil, or_false] at hp
    rcases hp with rfl | rfl | rfl | rfl | rfl | rfl | rfl | rfl | rfl
    · exact fs20 w0
    · exact fs30 w0
    · exact fs31 w0
    · exact fs32 w0
    · exact fs33 w0
    · exact fs34 w0
    · exact fs35 w0
    · exact fs36 w0
    · exact fs37 w0)) (by kernel_rfl) Tryz.func14 (Λ := Lam14) (c := (bodyOf Tryz.f14)) (by kernel_rfl) Tryz.call14 (by kernel_rfl) (LS_of (bodyOf Tryz.f14) 0 (by kernel_rfl) (fun i hi => absurd hi (Nat.not_lt_zero i)) 1 (by kernel_rfl) (by
    intro i hi
    match i, hi with
    | 0, _ => exact pok14_20102
    | i + 1, hi => omega)) false (np := 2) (Nat.le_of_ble_eq_true (by kernel_rfl))).imp fun args => ?_
  by_cases hl : args.length = 2
  rotate_left
  · exact .inr fun m k hk => by
      unfold G14 at hk
      split at hk
      · exact hl rfl
      · exact hk
  obtain ⟨a0, a1, rfl⟩ : ∃ a0 a1, args = [a0, a1] := len_list2 hl
  rcases kptr_or a0 with ⟨b_0, o_0, rfl⟩ | h
  rotate_left
  · exact .inr fun m k hk => h _ (by simpa only [G14, kI, kbool, kS, kptr, kaggN, kite, decide_true, eq_self] using hk)
  rcases kaggN_or 6 a1 with ⟨c_1, rfl⟩ | h
  rotate_left
  · exact .inr fun m k hk => h _ (by simpa only [G14, kI, kbool, kS, kptr, kaggN, kite, decide_true, eq_self] using hk)
  exact .inl fun m k => propext ⟨fun h => ⟨rfl, by rw [eqn14]; simpa only [G14, kI, kbool, kS, kptr, kaggN, kite, decide_true, eq_self] using h⟩, fun h => by have h := h.2; rw [eqn14] at h; simpa only [G14, kI, kbool, kS, kptr, kaggN, kite, decide_true, eq_self] using h⟩

def E7 : Env := envOf [(11, G11), (12, G12), (13, G13), (14, G14), (18, G18), (20, G20), (21, G21)]

def R7_20 (v_7 : AV) (b_8 o_8 : Nat) (x_10 : Int) (m : Mem) (kn : Int → Mem → Prop) (k2 : Mem → Prop) (kr : Bool → Mem → Prop) : Prop :=
  kif (decide (x_10 < 32)) (ksl v_7 fun b51 o52 l53 p54 => kif (decide (0 ≤ x_10) && decide (x_10 < l53)) (ldI .u32 m b51 (o52 + (x_10).toNat * 1) fun x55 => kif (decide (0 ≤ x_10) && decide (x_10 < 32)) (ldI .u32 m b_8 (o_8 + 0 + 0 + (x_10).toNat * 1) fun x56 => kif (x55 != x56) (kr false m) (kn (IntKind.wrap .i64 (x_10 + 1)) m)) False) False) (k2  m)

def L7_20 (v_7 : AV) (b_8 o_8 : Nat) : Nat → Int → Mem → (Mem → Prop) → (Bool → Mem → Prop) → Prop
  | 0, _,  _, _, _ => bump False
  | N + 1, x_10,  m, k2, kr => R7_20 v_7 b_8 o_8 x_10 m (fun x_10' m' => L7_20 v_7 b_8 o_8 N x_10' m' k2 kr) k2 kr

def R7_10 (v_1 : AV) (b_2 o_2 : Nat) (v_6 : AV) (v_7 : AV) (b_8 o_8 : Nat) (x_9 : Int) (m : Mem) (kn : Int → Mem → Prop) (k0 : Mem → Prop) : Prop :=
  kif (decide (x_9 < 40)) (klen v_1 fun x23 => kif (decide (x_9 < x23)) (ksl v_1 fun b24 o25 l26 p27 => kif (decide (0 ≤ x_9) && decide (x_9 < l26)) (ldI .u32 m b24 (o25 + (x_9).toNat * 1) fun x28 => ksl v_7 fun b29 o30 l31 p32 => kif (decide (0 ≤ x_9) && decide (x_9 < l31)) (stC m b29 (o30 + (x_9).toNat * 1) (.flat (.int .u32 x28)) fun m33 => kif (decide (x_9 < 32)) (ksl v_1 fun b34 o35 l36 p37 => kif (decide (0 ≤ x_9) && decide (x_9 < l36)) (ldI .u32 m33 b34 (o35 + (x_9).toNat * 1) fun x38 => kif (decide (0 ≤ x_9) && decide (x_9 < 32)) (stC m33 b_8 (o_8 + 0 + 0 + (x_9).toNat * 1) (.flat (.int .u32 x38)) fun m39 => kn (IntKind.wrap .i64 (x_9 + 1)) m39) False) False) (kn (IntKind.wrap .i64 (x_9 + 1)) m33)) False) False) (k0  m)) (k0  m)

def L7_10 (v_1 : AV) (b_2 o_2 : Nat) (v_6 : AV) (v_7 : AV) (b_8 o_8 : Nat) : Nat → Int → Mem → (Mem → Prop) → Prop
  | 0, _,  _, _ => bump False
  | N + 1, x_9,  m, k0 => R7_10 v_1 b_2 o_2 v_6 v_7 b_8 o_8 x_9 m (fun x_9' m' => L7_10 v_1 b_2 o_2 v_6 v_7 b_8 o_8 N x_9' m' k0) k0

def P7_5103 (v_1 : AV) (b_2 o_2 : Nat) (x_5 : Bool) (v_6 : AV) (m : Mem) (kr : Bool → Mem → Prop) : Prop :=
  kif (!x_5) (kr true m) (mkS [(.flat (.int .u32 0))] 4 23 40 40 m fun b18 m19 => F11 1 (.flat (.slice none 0 0)) (.flat (.slice none 0 0)) m19 fun b20 o21 m22 => ∃ N41, L7_10 v_1 b_2 o_2 v_6 (.sl b18 0 40 (.ex 40)) b20 o21 N41 1 m22 (fun m40 => ldI .u32 m40 b18 32 fun x42 => ldI .u32 m40 b18 33 fun x43 => stC m40 b20 (o21 + 0 + 32) (.flat (.int .u32 x42)) fun m44 => stC m44 b20 (o21 + 0 + 33) (.flat (.int .u32 x43)) fun m45 => F12 (.sl b18 0 40 (.ex 40)) v_6 m45 fun x46 m47 => kif (!x46) (kr false m47) (ldG 6 m47 b_2 o_2 fun c48 => F14 b20 o21 c48 m47 fun x49 m50 => ∃ N60, L7_20 (.sl b18 0 40 (.ex 40)) b20 o21 N60 0 m50 (fun m57 => ldI .u32 m57 b18 32 fun x61 => ldI .u32 m57 b20 (o21 + 0 + 32) fun x62 => kif (x61 == x62) (ldI .u32 m57 b18 33 fun x63 => ldI .u32 m57 b20 (o21 + 0 + 33) fun x64 => kr (x63 == x64) m57) (kr false m57)) (fun x58 m59 => kr x58 m59))))

def P7_2102 (v_1 : AV) (b_2 o_2 : Nat) (x_5 : Bool) (m : Mem) (kr : Bool → Mem → Prop) : Prop :=
  ldG 6 m b_2 o_2 fun c9 => F13 c9 m fun v10 m11 => ldG 6 m11 b_2 o_2 fun c12 => F21 c12 m11 fun x13 m14 => kif (!(x13 == x_5)) (kr false m14) (kif (!x_5) (klen v10 fun x15 => kif (x15 != 0) (kr false m14) (klen v10 fun x16 => kif (decide (x16 > 8)) (kr false m14) (P7_5103 v_1 b_2 o_2 x_5 v10 m14 (fun x65 m66 => kr x65 m66)))) (klen v10 fun x17 => kif (decide (x17 > 8)) (kr false m14) (P7_5103 v_1 b_2 o_2 x_5 v10 m14 (fun x67 m68 => kr x67 m68))))

/-- pianola/pianolalaw19.same -/
def F7 (c_0 : Nat → AV) (v_1 : AV) (m : Mem) (k : Bool → Mem → Prop) : Prop :=
  newK m ⟨6, c_0, 25, false⟩ fun b2 m1 => ldG 6 m1 b2 0 fun c3 => F18 c3 m1 fun x4 m5 => kif x4 (ldG 6 m5 b2 0 fun c6 => F20 c6 m5 fun x7 m8 => P7_2102 v_1 b2 0 (x7 == 1) m8 (fun x69 m70 => k x69 m70)) (P7_2102 v_1 b2 0 false m5 (fun x71 m72 => k x71 m72))

def G7 (args : List AV) (m : Mem) (k : KV) : Prop := match args with
  | [a0, a1] => kaggN 6 a0 fun c_0 => F7 c_0 a1 m (fun x_1000 m' => k (.flat (.bool x_1000)) m')
  | _ => False

def LamP7_2102 (σ : Nat → AV) (m : Mem) (k : KX) : Prop := kptr (σ 2) fun b_2 o_2 => kbool (σ 5) fun x_5 => P7_2102 (σ 1) b_2 o_2 x_5 m (fun x_4' m' => k .ret (only [4] [(.flat (.bool x_4'))]) m')

def LamP7_5103 (σ : Nat → AV) (m : Mem) (k : KX) : Prop := kptr (σ 2) fun b_2 o_2 => kbool (σ 5) fun x_5 => P7_5103 (σ 1) b_2 o_2 x_5 (σ 6) m (fun x_4' m' => k .ret (only [4] [(.flat (.bool x_4'))]) m')

def Lam7_10 (σ : Nat → AV) (m : Mem) (k : KX) : Prop := kptr (σ 2) fun b_2 o_2 => kptr (σ 8) fun b_8 o_8 => kI .i64 (σ 9) fun x_9 => ∃ N, L7_10 (σ 1) b_2 o_2 (σ 6) (σ 7) b_8 o_8 N x_9 m (fun m' => k (.exit 0) (only [2, 6, 7, 8] [(.ptr b_2 o_2), (σ 6), (σ 7), (.ptr b_8 o_8)]) m')

def Lam7_20 (σ : Nat → AV) (m : Mem) (k : KX) : Prop := kptr (σ 8) fun b_8 o_8 => kI .i64 (σ 10) fun x_10 => ∃ N, L7_20 (σ 7) b_8 o_8 N x_10 m (fun m' => k (.exit 2) (only [7, 8] [(σ 7), (.ptr b_8 o_8)]) m') (fun x_4' m' => k .ret (only [4] [(.flat (.bool x_4'))]) m')

def Lam7 : LEnv := ⟨fun a σ m k => match firstReg a with
  | some 10 => Lam7_10 σ m k
  | some 20 => Lam7_20 σ m k
  | _ => bump False,
  fun id => match id with
  | _ => bump false,
  fun b => match keyC b with
  | some 2102 => true
  | some 5103 => true
  | _ => bump false,
  fun b σ m k => match keyC b with
  | some 2102 => LamP7_2102 σ m k
  | some 5103 => LamP7_5103 σ m k
  | _ => bump False⟩

def lx7_20 : Ex → List Nat := fun e => match e with
  | .exit 2 => [7, 8]
  | .ret => [4]
  | _ => []

theorem round7_20 (v_7 : AV) (b_8 o_8 : Nat) (x_10 : Int) (m : Mem) (G : List AV → Mem → Prop) (k : KX) : (wpA Tryz.prog E7 Lam7 ((loopsOf (bodyOf Tryz.f7)).getD 1 .skip) (only [7, 8, 10] [v_7, (.ptr b_8 o_8), (.flat (.int .i64 x_10))]) m fun e σ' m' => match e with
    | .normal => G ([7, 8, 10].map σ') m'
    | .exit id => k (.exit id) (only (lx7_20 (.exit id)) ((lx7_20 (.exit id)).map σ')) m'
    | .ret => k .ret (only (lx7_20 .ret) ((lx7_20 .ret).map σ')) m') = R7_20 v_7 b_8 o_8 x_10 m (fun x_10' m' => G [v_7, (.ptr b_8 o_8), (.flat (.int .i64 x_10'))] m') (fun m' => k (.exit 2) (only [7, 8] [v_7, (.ptr b_8 o_8)]) m') (fun x_4' m' => k .ret (only [4] [(.flat (.bool x_4'))]) m') := by
  kernel_rfl

theorem loop7_20 (v_7 : AV) (b_8 o_8 : Nat) (k : KX) : ∀ (N : Nat) (x_10 : Int) (m : Mem), rounds Tryz.prog E7 Lam7 [7, 8, 10] lx7_20 ((loopsOf (bodyOf Tryz.f7)).getD 1 .skip) N [v_7, (.ptr b_8 o_8), (.flat (.int .i64 x_10))] m k = L7_20 v_7 b_8 o_8 N x_10 m (fun m' => k (.exit 2) (only [7, 8] [v_7, (.ptr b_8 o_8)]) m') (fun x_4' m' => k .ret (only [4] [(.flat (.bool x_4'))]) m') := by
  intro N
  induction N with
  | zero => intros; rfl
  | succ N ih =>
    intro x_10 m
    refine (round7_20 v_7 b_8 o_8 x_10 m (fun vs m' => rounds Tryz.prog E7 Lam7 [7, 8, 10] lx7_20 ((loopsOf (bodyOf Tryz.f7)).getD 1 .skip) N vs m' k) k).trans ?_
    simp only [ih]
    rfl

theorem lok7_20 : LoopOK Tryz.prog E7 Lam7 ((loopsOf (bodyOf Tryz.f7)).getD 1 .skip) := by
  refine ⟨fun σ => ∃ v_7 b_8 o_8 x_10, σ 7 = v_7 ∧ σ 8 = .ptr b_8 o_8 ∧ σ 10 = .flat (.int .i64 x_10), [7, 8, 10], lx7_20, fun σ m k => ?_⟩
  have e : Lam7.loop ((loopsOf (bodyOf Tryz.f7)).getD 1 .skip) σ m k = Lam7_20 σ m k := by kernel_rfl
  rw [e]
  constructor
  · intro h
    unfold Lam7_20 at h
    obtain ⟨v_7, h0⟩ : ∃ v, σ 7 = v := ⟨_, rfl⟩
    obtain ⟨b_8, o_8, h1, h⟩ := kptr_ok h
    obtain ⟨x_10, h2, h⟩ := kI_ok h
    obtain ⟨N, h⟩ := h
    refine ⟨⟨v_7, b_8, o_8, x_10, h0, h1, h2⟩, N, ?_⟩
    have ev : [7, 8, 10].map σ = [v_7, (.ptr b_8 o_8), (.flat (.int .i64 x_10))] := by simp only [List.map_cons, List.map_nil, h0, h1, h2]
    rw [ev, loop7_20]
    simp only [h0] at h
    exact h
  · rintro ⟨⟨v_7, b_8, o_8, x_10, h0, h1, h2⟩, N, h⟩
    have ev : [7, 8, 10].map σ = [v_7, (.ptr b_8 o_8), (.flat (.int .i64 x_10))] := by simp only [List.map_cons, List.map_nil, h0, h1, h2]
    rw [ev, loop7_20] at h
    unfold Lam7_20
    try simp only [h0, h1, h2, kI, kbool, kS, kptr, kaggN, kite, decide_true, eq_self]
    exact ⟨N, h⟩

def lx7_10 : Ex → List Nat := fun e => match e with
  | .exit 0 => [2, 6, 7, 8]
  | _ => []

theorem round7_10 (v_1 : AV) (b_2 o_2 : Nat) (v_6 : AV) (v_7 : AV) (b_8 o_8 : Nat) (x_9 : Int) (m : Mem) (G : List AV → Mem → Prop) (k : KX) : (wpA Tryz.prog E7 Lam7 ((loopsOf (bodyOf Tryz.f7)).getD 0 .skip) (only [1, 2, 6, 7, 8, 9] [v_1, (.ptr b_2 o_2), v_6, v_7, (.ptr b_8 o_8), (.flat (.int .i64 x_9))]) m fun e σ' m' => match e with
    | .normal => G ([1, 2, 6, 7, 8, 9].map σ') m'
    | .exit id => k (.exit id) (only (lx7_10 (.exit id)) ((lx7_10 (.exit id)).map σ')) m'
    | .ret => k .ret (only (lx7_10 .ret) ((lx7_10 .ret).map σ')) m') = R7_10 v_1 b_2 o_2 v_6 v_7 b_8 o_8 x_9 m (fun x_9' m' => G [v_1, (.ptr b_2 o_2), v_6, v_7, (.ptr b_8 o_8), (.flat (.int .i64 x_9'))] m') (fun m' => k (.exit 0) (only [2, 6, 7, 8] [(.ptr b_2 o_2), v_6, v_7, (.ptr b_8 o_8)]) m') := by
  kernel_rfl

theorem loop7_10 (v_1 : AV) (b_2 o_2 : Nat) (v_6 : AV) (v_7 : AV) (b_8 o_8 : Nat) (k : KX) : ∀ (N : Nat) (x_9 : Int) (m : Mem), rounds Tryz.prog E7 Lam7 [1, 2, 6, 7, 8, 9] lx7_10 ((loopsOf (bodyOf Tryz.f7)).getD 0 .skip) N [v_1, (.ptr b_2 o_2), v_6, v_7, (.ptr b_8 o_8), (.flat (.int .i64 x_9))] m k = L7_10 v_1 b_2 o_2 v_6 v_7 b_8 o_8 N x_9 m (fun m' => k (.exit 0) (only [2, 6, 7, 8] [(.ptr b_2 o_2), v_6, v_7, (.ptr b_8 o_8)]) m') := by
  intro N
  induction N with
  | zero => intros; rfl
  | succ N ih =>
    intro x_9 m
    refine (round7_10 v_1 b_2 o_2 v_6 v_7 b_8 o_8 x_9 m (fun vs m' => rounds Tryz.prog E7 Lam7 [1, 2, 6, 7, 8, 9] lx7_10 ((loopsOf (bodyOf Tryz.f7)).getD 0 .skip) N vs m' k) k).trans ?_
    simp only [ih]
    rfl

theorem lok7_10 : LoopOK Tryz.prog E7 Lam7 ((loopsOf (bodyOf Tryz.f7)).getD 0 .skip) := by
  refine ⟨fun σ => ∃ v_1 b_2 o_2 v_6 v_7 b_8 o_8 x_9, σ 1 = v_1 ∧ σ 2 = .ptr b_2 o_2 ∧ σ 6 = v_6 ∧ σ 7 = v_7 ∧ σ 8 = .ptr b_8 o_8 ∧ σ 9 = .flat (.int .i64 x_9), [1, 2, 6, 7, 8, 9], lx7_10, fun σ m k => ?_⟩
  have e : Lam7.loop ((loopsOf (bodyOf Tryz.f7)).getD 0 .skip) σ m k = Lam7_10 σ m k := by kernel_rfl
  rw [e]
  constructor
  · intro h
    unfold Lam7_10 at h
    obtain ⟨v_1, h0⟩ : ∃ v, σ 1 = v := ⟨_, rfl⟩
    obtain ⟨b_2, o_2, h1, h⟩ := kptr_ok h
    obtain ⟨v_6, h2⟩ : ∃ v, σ 6 = v := ⟨_, rfl⟩
    obtain ⟨v_7, h3⟩ : ∃ v, σ 7 = v := ⟨_, rfl⟩
    obtain ⟨b_8, o_8, h4, h⟩ := kptr_ok h
    obtain ⟨x_9, h5, h⟩ := kI_ok h
    obtain ⟨N, h⟩ := h
    refine ⟨⟨v_1, b_2, o_2, v_6, v_7, b_8, o_8, x_9, h0, h1, h2, h3, h4, h5⟩, N, ?_⟩
    have ev : [1, 2, 6, 7, 8, 9].map σ = [v_1, (.ptr b_2 o_2), v_6, v_7, (.ptr b_8 o_8), (.flat (.int .i64 x_9))] := by simp only [List.map_cons, List.map_nil, h0, h1, h2, h3, h4, h5]
    rw [ev, loop7_10]
    simp only [h0, h2, h3] at h
    exact h
  · rintro ⟨⟨v_1, b_2, o_2, v_6, v_7, b_8, o_8, x_9, h0, h1, h2, h3, h4, h5⟩, N, h⟩
    have ev : [1, 2, 6, 7, 8, 9].map σ = [v_1, (.ptr b_2 o_2), v_6, v_7, (.ptr b_8 o_8), (.flat (.int .i64 x_9))] := by simp only [List.map_cons, List.map_nil, h0, h1, h2, h3, h4, h5]
    rw [ev, loop7_10] at h
    unfold Lam7_10
    try simp only [h0, h1, h2, h3, h4, h5, kI, kbool, kS, kptr, kaggN, kite, decide_true, eq_self]
    exact ⟨N, h⟩

def lxp7_5103 : Ex → List Nat := fun e => match e with
  | .ret => [4]
  | _ => []

theorem pc7_5103 (v_1 : AV) (b_2 o_2 : Nat) (x_5 : Bool) (v_6 : AV) (m : Mem) (k : KX) : once Tryz.prog E7 Lam7 [1, 2, 5, 6] lxp7_5103 (((secsOf (bodyOf Tryz.f7)).filter Lam7.cut).getD 1 .skip) [v_1, (.ptr b_2 o_2), (.flat (.bool x_5)), v_6] m k = P7_5103 v_1 b_2 o_2 x_5 v_6 m (fun x_4' m' => k .ret (only [4] [(.flat (.bool x_4'))]) m') := by
  kernel_rfl

theorem pok7_5103 : PieceOK Tryz.prog E7 Lam7 (((secsOf (bodyOf Tryz.f7)).filter Lam7.cut).getD 1 .skip) := by
  refine ⟨fun σ => ∃ v_1 b_2 o_2 x_5 v_6, σ 1 = v_1 ∧ σ 2 = .ptr b_2 o_2 ∧ σ 5 = .flat (.bool x_5) ∧ σ 6 = v_6, [1, 2, 5, 6], lxp7_5103, fun σ m k => ?_⟩
  have e : Lam7.piece (((secsOf (bodyOf Tryz.f7)).filter Lam7.cut).getD 1 .skip) σ m k = LamP7_5103 σ m k := by kernel_rfl
  rw [e]
  constructor
  · intro h
    unfold LamP7_5103 at h
    obtain ⟨v_1, h0⟩ : ∃ v, σ 1 = v := ⟨_, rfl⟩
    obtain ⟨b_2, o_2, h1, h⟩ := kptr_ok h
    obtain ⟨x_5, h2, h⟩ := kbool_ok h
    obtain ⟨v_6, h3⟩ : ∃ v, σ 6 = v := ⟨_, rfl⟩
    refine ⟨⟨v_1, b_2, o_2, x_5, v_6, h0, h1, h2, h3⟩, ?_⟩
    have ev : [1, 2, 5, 6].map σ = [v_1, (.ptr b_2 o_2), (.flat (.bool x_5)), v_6] := by simp only [List.map_cons, List.map_nil, h0, h1, h2, h3]
    rw [ev, pc7_5103]
    simp only [h0, h3] at h
    exact h
  · rintro ⟨⟨v_1, b_2, o_2, x_5, v_6, h0, h1, h2, h3⟩, h⟩
    have ev : [1, 2, 5, 6].map σ = [v_1, (.ptr b_2 o_2), (.flat (.bool x_5)), v_6] := by simp only [List.map_cons, List.map_nil, h0, h1, h2, h3]
    rw [ev, pc7_5103] at h
    unfold LamP7_5103
    try simp only [h0, h1, h2, h3, kI, kbool, kS, kptr, kaggN, kite, decide_true, eq_self]
    exact h

def lxp7_2102 : Ex → List Nat := fun e => match e with
  | .ret => [4]
  | _ => []

theorem pc7_2102 (v_1 : AV) (b_2 o_2 : Nat) (x_5 : Bool) (m : Mem) (k : KX) : once Tryz.prog E7 Lam7 [1, 2, 5] lxp7_2102 (((secsOf (bodyOf Tryz.f7)).filter Lam7.cut).getD 0 .skip) [v_1, (.ptr b_2 o_2), (.flat (.bool x_5))] m k = P7_2102 v_1 b_2 o_2 x_5 m (fun x_4' m' => k .ret (only [4] [(.flat (.bool x_4'))]) m') := by
  kernel_rfl

theorem pok7_2102 : PieceOK Tryz.prog E7 Lam7 (((secsOf (bodyOf Tryz.f7)).filter Lam7.cut).getD 0 .skip) := by
  refine ⟨fun σ => ∃ v_1 b_2 o_2 x_5, σ 1 = v_1 ∧ σ 2 = .ptr b_2 o_2 ∧ σ 5 = .flat (.bool x_5), [1, 2, 5], lxp7_2102, fun σ m k => ?_⟩
  have e : Lam7.piece (((secsOf (bodyOf Tryz.f7)).filter Lam7.cut).getD 0 .skip) σ m k = LamP7_2102 σ m k := by kernel_rfl
  rw [e]
  constructor
  · intro h
    unfold LamP7_2102 at h
    obtain ⟨v_1, h0⟩ : ∃ v, σ 1 = v := ⟨_, rfl⟩
    obtain ⟨b_2, o_2, h1, h⟩ := kptr_ok h
    obtain ⟨x_5, h2, h⟩ := kbool_ok h
    refine ⟨⟨v_1, b_2, o_2, x_5, h0, h1, h2⟩, ?_⟩
    have ev : [1, 2, 5].map σ = [v_1, (.ptr b_2 o_2), (.flat (.bool x_5))] := by simp only [List.map_cons, List.map_nil, h0, h1, h2]
    rw [ev, pc7_2102]
    simp only [h0] at h
    exact h
  · rintro ⟨⟨v_1, b_2, o_2, x_5, h0, h1, h2⟩, h⟩
    have ev : [1, 2, 5].map σ = [v_1, (.ptr b_2 o_2), (.flat (.bool x_5))] := by simp only [List.map_cons, List.map_nil, h0, h1, h2]
    rw [ev, pc7_2102] at h
    unfold LamP7_2102
    try simp only [h0, h1, h2, kI, kbool, kS, kptr, kaggN, kite, decide_true, eq_self]
    exact h

theorem eqn7 (c_0 : Nat → AV) (v_1 : AV) (m : Mem) (k : KV) : bodyK Tryz.prog E7 Lam7 Tryz.f7 false [(.agg 6 c_0), v_1] m k = F7 c_0 v_1 m (fun x_1000 m' => k (.flat (.bool x_1000)) m') := by
  kernel_rfl

theorem fs7 (w0 : World) : FS Tryz.prog w0 7 G7 := by
  refine (fs_body (Γ := E7) (sound_env (l := [(11, G11), (12, G12), (13, G13), (14, G14), (18, G18), (20, G20), (21, G21)]) w0 (by
    intro p hp
    simp only [List.mem_cons, List.not_mem_nil, or_false] at hp
    rcases hp with rfl | rfl | rfl | rfl | rfl | rfl | rfl
    · exact fs11 w0
    · exact fs12 w0
    · exact fs13 w0
    · exact fs14 w0
    · exact fs18 w0
    · exact fs20 w0
    · exact fs21 w0)) (by kernel_rfl) Tryz.func7 (Λ := Lam7) (c := (bodyOf Tryz.f7)) (by kernel_rfl) Tryz.call7 (by kernel_rfl) (LS_of (bodyOf Tryz.f7) 2 (by kernel_rfl) (by
    intro i hi
    match i, hi with
    | 0, _ => exact lok7_10
    | 1, _ => exact lok7_20
    | i + 2, hi => omega) 2 (by kernel_rfl) (by
    intro i hi
    match i, hi with
    | 0, _ => exact pok7_2102
    | 1, _ => exact pok7_5103
    | i + 2, hi => omega)) false (np := 2) (Nat.le_of_ble_eq_true (by kernel_rfl))).imp fun args => ?_
  by_cases hl : args.length = 2
  rotate_left
  · exact .inr fun m k hk => by
      unfold G7 at hk
      split at hk
      · exact hl rfl
      · exact hk
  obtain ⟨a0, a1, rfl⟩ : ∃ a0 a1, args = [a0, a1] := len_list2 hl
  rcases kaggN_or 6 a0 with ⟨c_0, rfl⟩ | h
  rotate_left
  · exact .inr fun m k hk => h _ (by simpa only [G7, kI, kbool, kS, kptr, kaggN, kite, decide_true, eq_self] using hk)
  exact .inl fun m k => propext ⟨fun h => ⟨rfl, by rw [eqn7]; simpa only [G7, kI, kbool, kS, kptr, kaggN, kite, decide_true, eq_self] using h⟩, fun h => by have h := h.2; rw [eqn7] at h; simpa only [G7, kI, kbool, kS, kptr, kaggN, kite, decide_true, eq_self] using h⟩

def E45 : Env := envOf []

def R45_2 (b_1 o_1 : Nat) (v_11 : AV) (x_12 : Int) (x_13 : Int) (m : Mem) (kn : Int → Mem → Prop) (k0 : Mem → Prop) (kr : Bool → Mem → Prop) : Prop :=
  kif (decide (x_13 < x_12)) (ksl v_11 fun b8 o9 l10 p11 => kif (decide (0 ≤ x_13) && decide (x_13 < l10)) (ldI .i64 m b8 (o9 + (x_13).toNat * 1) fun x12 => kif (decide (x12 < 0)) (kr false m) (kif (decide (x12 ≥ 40)) (kr false m) (kn (IntKind.wrap .i64 (x_13 + 1)) m))) False) (k0  m)

def L45_2 (b_1 o_1 : Nat) (v_11 : AV) (x_12 : Int) : Nat → Int → Mem → (Mem → Prop) → (Bool → Mem → Prop) → Prop
  | 0, _,  _, _, _ => bump False
  | N + 1, x_13,  m, k0, kr => R45_2 b_1 o_1 v_11 x_12 x_13 m (fun x_13' m' => L45_2 b_1 o_1 v_11 x_12 N x_13' m' k0 kr) k0 kr

/-- pianola/ir.Right -/
def F45 (c_0 : Nat → AV) (m : Mem) (k : Bool → Mem → Prop) : Prop :=
  newK m ⟨5, c_0, 66, false⟩ fun b2 m1 => ldI .i64 m1 b2 1 fun x3 => ldI .i64 m1 b2 2 fun x4 => ldI .i64 m1 b2 3 fun x5 => newK m1 ⟨3, upd (upd (upd (lget [(.flat (.int .i64 0)), (.flat (.int .i64 0)), (.flat (.int .i64 0))]) 0 (.flat (.int .i64 x3))) 1 (.flat (.int .i64 x4))) 2 (.flat (.int .i64 x5)), 3, false⟩ fun b7 m6 => ∃ N16, L45_2 b2 0 (.sl b7 0 3 (.ex 3)) 3 N16 0 m6 (fun m13 => ldI .i64 m13 b2 0 fun x17 => kif (decide (x17 ≥ 0)) (ldI .i64 m13 b2 0 fun x18 => (Keeps m m13 ∧ k (decide (x18 ≤ 22)) m)) ((Keeps m m13 ∧ k false m))) (fun x14 m15 => (Keeps m m15 ∧ k x14 m))

def G45 (args : List AV) (m : Mem) (k : KV) : Prop := match args with
  | [a0] => kaggN 5 a0 fun c_0 => F45 c_0 m (fun x_1000 m' => k (.flat (.bool x_1000)) m')
  | _ => False

def Lam45_2 (σ : Nat → AV) (m : Mem) (k : KX) : Prop := kptr (σ 1) fun b_1 o_1 => kI .i64 (σ 12) fun x_12 => kI .i64 (σ 13) fun x_13 => ∃ N, L45_2 b_1 o_1 (σ 11) x_12 N x_13 m (fun m' => k (.exit 0) (only [1] [(.ptr b_1 o_1)]) m') (fun x_2' m' => k .ret (only [2] [(.flat (.bool x_2'))]) m')

def Lam45 : LEnv := ⟨fun a σ m k => match firstReg a with
  | some 2 => Lam45_2 σ m k
  | _ => bump False,
  fun id => match id with
  | _ => bump false,
  fun b => match keyC b with
  | _ => bump false,
  fun b σ m k => match keyC b with
  | _ => bump False⟩

def lx45_2 : Ex → List Nat := fun e => match e with
  | .exit 0 => [1]
  | .ret => [2]
  | _ => []

theorem round45_2 (b_1 o_1 : Nat) (v_11 : AV) (x_12 : Int) (x_13 : Int) (m : Mem) (G : List AV → Mem → Prop) (k : KX) : (wpA Tryz.prog E45 Lam45 ((loopsOf (bodyOf Tryz.f45)).getD 0 .skip) (only [1, 11, 12, 13] [(.ptr b_1 o_1), v_11, (.flat (.int .i64 x_12)), (.flat (.int .i64 x_13))]) m fun e σ' m' => match e with
    | .normal => G ([1, 11, 12, 13].map σ') m'
    | .exit id => k (.exit id) (only (lx45_2 (.exit id)) ((lx45_2 (.exit id)).map σ')) m'
    | .ret => k .ret (only (lx45_2 .ret) ((lx45_2 .ret).map σ')) m') = R45_2 b_1 o_1 v_11 x_12 x_13 m (fun x_13' m' => G [(.ptr b_1 o_1), v_11, (.flat (.int .i64 x_12)), (.flat (.int .i64 x_13'))] m') (fun m' => k (.exit 0) (only [1] [(.ptr b_1 o_1)]) m') (fun x_2' m' => k .ret (only [2] [(.flat (.bool x_2'))]) m') := by
  kernel_rfl

theorem loop45_2 (b_1 o_1 : Nat) (v_11 : AV) (x_12 : Int) (k : KX) : ∀ (N : Nat) (x_13 : Int) (m : Mem), rounds Tryz.prog E45 Lam45 [1, 11, 12, 13] lx45_2 ((loopsOf (bodyOf Tryz.f45)).getD 0 .skip) N [(.ptr b_1 o_1), v_11, (.flat (.int .i64 x_12)), (.flat (.int .i64 x_13))] m k = L45_2 b_1 o_1 v_11 x_12 N x_13 m (fun m' => k (.exit 0) (only [1] [(.ptr b_1 o_1)]) m') (fun x_2' m' => k .ret (only [2] [(.flat (.bool x_2'))]) m') := by
  intro N
  induction N with
  | zero => intros; rfl
  | succ N ih =>
    intro x_13 m
    refine (round45_2 b_1 o_1 v_11 x_12 x_13 m (fun vs m' => rounds Tryz.prog E45 Lam45 [1, 11, 12, 13] lx45_2 ((loopsOf (bodyOf Tryz.f45)).getD 0 .skip) N vs m' k) k).trans ?_
    simp only [ih]
    rfl

theorem lok45_2 : LoopOK Tryz.prog E45 Lam45 ((loopsOf (bodyOf Tryz.f45)).getD 0 .skip) := by
  refine ⟨fun σ => ∃ b_1 o_1 v_11 x_12 x_13, σ 1 = .ptr b_1 o_1 ∧ σ 11 = v_11 ∧ σ 12 = .flat (.int .i64 x_12) ∧ σ 13 = .flat (.int .i64 x_13), [1, 11, 12, 13], lx45_2, fun σ m k => ?_⟩
  have e : Lam45.loop ((loopsOf (bodyOf Tryz.f45)).getD 0 .skip) σ m k = Lam45_2 σ m k := by kernel_rfl
  rw [e]
  constructor
  · intro h
    unfold Lam45_2 at h
    obtain ⟨b_1, o_1, h0, h⟩ := kptr_ok h
    obtain ⟨v_11, h1⟩ : ∃ v, σ 11 = v := ⟨_, rfl⟩
    obtain ⟨x_12, h2, h⟩ := kI_ok h
    obtain ⟨x_13, h3, h⟩ := kI_ok h
    obtain ⟨N, h⟩ := h
    refine ⟨⟨b_1, o_1, v_11, x_12, x_13, h0, h1, h2, h3⟩, N, ?_⟩
    have ev : [1, 11, 12, 13].map σ = [(.ptr b_1 o_1), v_11, (.flat (.int .i64 x_12)), (.flat (.int .i64 x_13))] := by simp only [List.map_cons, List.map_nil, h0, h1, h2, h3]
    rw [ev, loop45_2]
    simp only [h1] at h
    exact h
  · rintro ⟨⟨b_1, o_1, v_11, x_12, x_13, h0, h1, h2, h3⟩, N, h⟩
    have ev : [1, 11, 12, 13].map σ = [(.ptr b_1 o_1), v_11, (.flat (.int .i64 x_12)), (.flat (.int .i64 x_13))] := by simp only [List.map_cons, List.map_nil, h0, h1, h2, h3]
    rw [ev, loop45_2] at h
    unfold Lam45_2
    try simp only [h0, h1, h2, h3, kI, kbool, kS, kptr, kaggN, kite, decide_true, eq_self]
    exact ⟨N, h⟩

theorem eqn45 (c_0 : Nat → AV) (m : Mem) (k : KV) : bodyK Tryz.prog E45 Lam45 Tryz.f45 true [(.agg 5 c_0)] m k = F45 c_0 m (fun x_1000 m' => k (.flat (.bool x_1000)) m') := by
  kernel_rfl

theorem fs45 (w0 : World) : FS Tryz.prog w0 45 G45 := by
  refine (fs_body (Γ := E45) (sound_env (l := []) w0 (by
    intro p hp
    cases hp)) (by kernel_rfl) Tryz.func45 (Λ := Lam45) (c := (bodyOf Tryz.f45)) (by kernel_rfl) Tryz.call45 (by kernel_rfl) (LS_of (bodyOf Tryz.f45) 1 (by kernel_rfl) (by
    intro i hi
    match i, hi with
    | 0, _ => exact lok45_2
    | i + 1, hi => omega) 0 (by kernel_rfl) (fun i hi => absurd hi (Nat.not_lt_zero i))) true (np := 1) (Nat.le_of_ble_eq_true (by kernel_rfl))).imp fun args => ?_
  by_cases hl : args.length = 1
  rotate_left
  · exact .inr fun m k hk => by
      unfold G45 at hk
      split at hk
      · exact hl rfl
      · exact hk
  obtain ⟨a0, rfl⟩ : ∃ a0, args = [a0] := len_list1 hl
  rcases kaggN_or 5 a0 with ⟨c_0, rfl⟩ | h
  rotate_left
  · exact .inr fun m k hk => h _ (by simpa only [G45, kI, kbool, kS, kptr, kaggN, kite, decide_true, eq_self] using hk)
  exact .inl fun m k => propext ⟨fun h => ⟨rfl, by rw [eqn45]; simpa only [G45, kI, kbool, kS, kptr, kaggN, kite, decide_true, eq_self] using h⟩, fun h => by have h := h.2; rw [eqn45] at h; simpa only [G45, kI, kbool, kS, kptr, kaggN, kite, decide_true, eq_self] using h⟩

end Go.Proofs.YtkgidjnaddjjbaaGreat.Am
