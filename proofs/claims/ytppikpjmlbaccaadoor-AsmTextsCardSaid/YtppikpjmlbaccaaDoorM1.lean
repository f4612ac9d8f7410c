/- What Go functions ask of what follows them, as plain functions over the abstract machine; the machine asks just that. Written by gen.py. -/
import Derived.Test.YtppikpjmlbaccaaDoorProg
import Derived.Test.YtppikpjmlbaccaaDoorAmMa
import Derived.Test.YtppikpjmlbaccaaDoorM0
namespace Go.Proofs.YtppikpjmlbaccaaDoor.Am
set_option linter.unusedVariables false
set_option linter.unusedSimpArgs false
set_option linter.constructorNameAsVariable false
set_option maxRecDepth 100000

def E5 : Env := ext E4 4 G4

theorem S5 (w0 : World) (hW : TabH w0) : SP w0 E5 := sg (S4 w0 hW) Tryd.func4 Tryd.call4 (Λ := Lam4) 0 trivial 0 trivial (by kernel_rfl) true (fun _ _ _ => by kernel_rfl)

def R5_3 (v_19 : AV) (x_20 : Int) (v_3 : AV) (x_21 : Int) (m : Mem) (kn : AV → Int → Mem → Prop) (k0 : AV → Mem → Prop) : Prop :=
  kif (decide (x_21 < x_20)) (ksl v_19 fun b11 o12 l13 p14 => kif (decide (0 ≤ x_21) && decide (x_21 < l13)) (ldI .i64 m b11 (o12 + (x_21).toNat * 1) fun x15 => F9 x15 m fun x16 m17 => newK m17 ⟨1, upd (lget [(.flat (.string ⟨#[]⟩))]) 0 (.flat (.string x16)), 9, false⟩ fun b19 m18 => appS 1 16 9 v_3 (.sl b19 0 1 (.ex 1)) m18 fun v20 m21 => kn v20 (IntKind.wrap .i64 (x_21 + 1)) m21) False) (k0 v_3 m)

def L5_3 (v_19 : AV) (x_20 : Int) : Nat → AV → Int → Mem → (AV → Mem → Prop) → Prop
  | 0, _, _,  _, _ => bump False
  | N + 1, v_3, x_21,  m, k0 => R5_3 v_19 x_20 v_3 x_21 m (fun v_3' x_21' m' => L5_3 v_19 x_20 N v_3' x_21' m' k0) k0

/-- pianola/asm.Text -/
def F5 (c_0 : Nat → AV) (m : Mem) (k : ByteArray → Mem → Prop) : Prop :=
  newK m ⟨6, c_0, 26, false⟩ fun b2 m1 => ldI .i64 m1 b2 0 fun x3 => ldI .i64 m1 b2 1 fun x4 => ldI .i64 m1 b2 2 fun x5 => ldI .i64 m1 b2 3 fun x6 => ldI .i64 m1 b2 4 fun x7 => ldI .u32 m1 b2 5 fun x8 => newK m1 ⟨6, upd (upd (upd (upd (upd (upd (Z6b) 0 (.flat (.int .i64 x3))) 1 (.flat (.int .i64 x4))) 2 (.flat (.int .i64 x5))) 3 (.flat (.int .i64 x6))) 4 (.flat (.int .i64 x7))) 5 (.flat (.int .i64 (IntKind.wrap .i64 x8))), 3, false⟩ fun b10 m9 => ∃ N24, L5_3 (.sl b10 0 6 (.ex 6)) 6 N24 (.flat (.slice none 0 0)) 0 m9 (fun v22 m23 => F10 v22 Yb11 m23 fun x25 m26 => k x25 m26)

def G5 := Gs [.g 6] [.s] F5

def D5_3 : LpD := ⟨[19, 20], [.a, .i .i64], [3, 21], [.a, .i .i64], [⟨.exit 0, [3], [.a], []⟩], R5_3, L5_3⟩

def Lam5 : LEnv := lamOf [(3, lpK D5_3)] [] [] []

theorem lok5_3 : LoopOK Tryd.prog E5 Lam5 (nthL (bodyOf Tryd.f5) 0) := lp_ok D5_3 (fun _ _ _ => by kernel_rfl) (by kernel_rfl) (fun _ _ _ _ _ _ _ => by kernel_rfl) (fun _ _ _ _ _ _ _ _ => by kernel_rfl) (fun _ _ _ _ _ _ _ => by kernel_rfl)

def E29 : Env := ext E5 5 G5

theorem S29 (w0 : World) (hW : TabH w0) : SP w0 E29 := sg (S5 w0 hW) Tryd.func5 Tryd.call5 (Λ := Lam5) 1 ⟨lok5_3, trivial⟩ 0 trivial (by kernel_rfl) false (fun _ _ _ => by kernel_rfl)

/-- pianola/decode.put -/
def F29 (c_0 : Nat → AV) (m : Mem) (k : Int → Mem → Prop) : Prop :=
  newK m ⟨6, c_0, 26, false⟩ fun b2 m1 => ldI .i64 m1 b2 1 fun x3 => ldI .i64 m1 b2 2 fun x4 => ldI .i64 m1 b2 3 fun x5 => ldI .i64 m1 b2 4 fun x6 => ldI .u32 m1 b2 5 fun x7 => (Keeps m m1 ∧ k (bits .or .u32 (bits .or .u32 (bits .or .u32 (bits .or .u32 (IntKind.wrap .u32 ((IntKind.wrap .u32 x3) * 2097152)) (IntKind.wrap .u32 ((IntKind.wrap .u32 x4) * 65536))) (IntKind.wrap .u32 ((IntKind.wrap .u32 x5) * 2048))) (IntKind.wrap .u32 ((IntKind.wrap .u32 x6) * 64))) x7) m)

def G29 := Gs [.g 6] [.i .u32] F29

def E46 : Env := ext E29 29 G29

theorem S46 (w0 : World) (hW : TabH w0) : SP w0 E46 := sg0 (S29 w0 hW) Tryd.func29 Tryd.call29 (by kernel_rfl) true (fun _ _ _ => by kernel_rfl)

def P46_18004 (x_0 : Int) (x_103 : Bool) (m : Mem) (kr : Int → Mem → Prop) (kn : Mem → Prop) : Prop :=
  kif x_103 (kr 19 m) (kif (x_0 == 53) (kr 18 m) (kif (x_0 == 54) (kr 6 m) (kif (x_0 == 55) (kr 6 m) (kn  m))))

def P46_16004 (x_0 : Int) (x_96 : Bool) (m : Mem) (kr : Int → Mem → Prop) (kn : Mem → Prop) : Prop :=
  kif x_96 (kr 32 m) (kif (x_0 == 42) (P46_18004 x_0 true m (fun x1 m2 => kr x1 m2) (fun m3 => kn  m3)) (kif (x_0 == 43) (P46_18004 x_0 true m (fun x4 m5 => kr x4 m5) (fun m6 => kn  m6)) (kif (decide (x_0 ≥ 46)) (kif (decide (x_0 ≤ 52)) (P46_18004 x_0 true m (fun x7 m8 => kr x7 m8) (fun m9 => kn  m9)) (kif (decide (x_0 ≥ 66)) (P46_18004 x_0 (decide (x_0 ≤ 75)) m (fun x10 m11 => kr x10 m11) (fun m12 => kn  m12)) (P46_18004 x_0 false m (fun x13 m14 => kr x13 m14) (fun m15 => kn  m15)))) (kif (decide (x_0 ≥ 66)) (P46_18004 x_0 (decide (x_0 ≤ 75)) m (fun x16 m17 => kr x16 m17) (fun m18 => kn  m18)) (P46_18004 x_0 false m (fun x19 m20 => kr x19 m20) (fun m21 => kn  m21))))))

def P46_14004 (x_0 : Int) (x_81 : Bool) (m : Mem) (kr : Int → Mem → Prop) (kn : Mem → Prop) : Prop :=
  kif x_81 (kr 17 m) (kif (x_0 == 40) (P46_16004 x_0 true m (fun x22 m23 => kr x22 m23) (fun m24 => kn  m24)) (P46_16004 x_0 (x_0 == 41) m (fun x25 m26 => kr x25 m26) (fun m27 => kn  m27)))

def P46_12004 (x_0 : Int) (x_66 : Bool) (m : Mem) (kr : Int → Mem → Prop) (kn : Mem → Prop) : Prop :=
  kif x_66 (kr 3 m) (kif (decide (x_0 ≥ 36)) (kif (decide (x_0 ≤ 39)) (P46_14004 x_0 true m (fun x28 m29 => kr x28 m29) (fun m30 => kn  m30)) (kif (x_0 == 44) (P46_14004 x_0 true m (fun x31 m32 => kr x31 m32) (fun m33 => kn  m33)) (P46_14004 x_0 (x_0 == 45) m (fun x34 m35 => kr x34 m35) (fun m36 => kn  m36)))) (kif (x_0 == 44) (P46_14004 x_0 true m (fun x37 m38 => kr x37 m38) (fun m39 => kn  m39)) (P46_14004 x_0 (x_0 == 45) m (fun x40 m41 => kr x40 m41) (fun m42 => kn  m42))))

def P46_10004 (x_0 : Int) (x_59 : Bool) (m : Mem) (kr : Int → Mem → Prop) (kn : Mem → Prop) : Prop :=
  kif x_59 (kr 4 m) (kif (decide (x_0 ≥ 18)) (kif (decide (x_0 ≤ 21)) (P46_12004 x_0 true m (fun x43 m44 => kr x43 m44) (fun m45 => kn  m45)) (kif (decide (x_0 ≥ 32)) (P46_12004 x_0 (decide (x_0 ≤ 35)) m (fun x46 m47 => kr x46 m47) (fun m48 => kn  m48)) (P46_12004 x_0 false m (fun x49 m50 => kr x49 m50) (fun m51 => kn  m51)))) (kif (decide (x_0 ≥ 32)) (P46_12004 x_0 (decide (x_0 ≤ 35)) m (fun x52 m53 => kr x52 m53) (fun m54 => kn  m54)) (P46_12004 x_0 false m (fun x55 m56 => kr x55 m56) (fun m57 => kn  m57))))

def P46_8004 (x_0 : Int) (x_48 : Bool) (m : Mem) (kr : Int → Mem → Prop) (kn : Mem → Prop) : Prop :=
  kif x_48 (kr 5 m) (kif (x_0 == 14) (P46_10004 x_0 true m (fun x58 m59 => kr x58 m59) (fun m60 => kn  m60)) (P46_10004 x_0 (x_0 == 16) m (fun x61 m62 => kr x61 m62) (fun m63 => kn  m63)))

def P46_6004 (x_0 : Int) (x_37 : Bool) (m : Mem) (kr : Int → Mem → Prop) (kn : Mem → Prop) : Prop :=
  kif x_37 (kr 1 m) (kif (x_0 == 8) (P46_8004 x_0 true m (fun x64 m65 => kr x64 m65) (fun m66 => kn  m66)) (kif (x_0 == 64) (P46_8004 x_0 true m (fun x67 m68 => kr x67 m68) (fun m69 => kn  m69)) (P46_8004 x_0 (x_0 == 65) m (fun x70 m71 => kr x70 m71) (fun m72 => kn  m72))))

def P46_4004 (x_0 : Int) (x_10 : Bool) (m : Mem) (kr : Int → Mem → Prop) (kn : Mem → Prop) : Prop :=
  kif x_10 (kr 7 m) (kif (x_0 == 7) (P46_6004 x_0 true m (fun x73 m74 => kr x73 m74) (fun m75 => kn  m75)) (kif (x_0 == 15) (P46_6004 x_0 true m (fun x76 m77 => kr x76 m77) (fun m78 => kn  m78)) (P46_6004 x_0 (x_0 == 17) m (fun x79 m80 => kr x79 m80) (fun m81 => kn  m81))))

def P46_2004 (x_0 : Int) (x_3 : Bool) (m : Mem) (kr : Int → Mem → Prop) (kn : Mem → Prop) : Prop :=
  kif x_3 (kr 14 m) (kif (decide (x_0 ≥ 4)) (kif (decide (x_0 ≤ 6)) (P46_4004 x_0 true m (fun x82 m83 => kr x82 m83) (fun m84 => kn  m84)) (kif (x_0 == 9) (P46_4004 x_0 true m (fun x85 m86 => kr x85 m86) (fun m87 => kn  m87)) (kif (x_0 == 10) (P46_4004 x_0 true m (fun x88 m89 => kr x88 m89) (fun m90 => kn  m90)) (kif (decide (x_0 ≥ 22)) (kif (decide (x_0 ≤ 31)) (P46_4004 x_0 true m (fun x91 m92 => kr x91 m92) (fun m93 => kn  m93)) (P46_4004 x_0 (x_0 == 63) m (fun x94 m95 => kr x94 m95) (fun m96 => kn  m96))) (P46_4004 x_0 (x_0 == 63) m (fun x97 m98 => kr x97 m98) (fun m99 => kn  m99)))))) (kif (x_0 == 9) (P46_4004 x_0 true m (fun x100 m101 => kr x100 m101) (fun m102 => kn  m102)) (kif (x_0 == 10) (P46_4004 x_0 true m (fun x103 m104 => kr x103 m104) (fun m105 => kn  m105)) (kif (decide (x_0 ≥ 22)) (kif (decide (x_0 ≤ 31)) (P46_4004 x_0 true m (fun x106 m107 => kr x106 m107) (fun m108 => kn  m108)) (P46_4004 x_0 (x_0 == 63) m (fun x109 m110 => kr x109 m110) (fun m111 => kn  m111))) (P46_4004 x_0 (x_0 == 63) m (fun x112 m113 => kr x112 m113) (fun m114 => kn  m114))))))

/-- pianola/decode.fields -/
def F46 (x_0 : Int) (m : Mem) (k : Int → Mem → Prop) : Prop :=
  kif (decide (x_0 ≥ 1)) (P46_2004 x_0 (decide (x_0 ≤ 3)) m (fun x115 m116 => (Keeps m m116 ∧ k x115 m)) (fun m117 => (Keeps m m117 ∧ k 0 m))) (P46_2004 x_0 false m (fun x118 m119 => (Keeps m m119 ∧ k x118 m)) (fun m120 => (Keeps m m120 ∧ k 0 m)))

def G46 := Gs [.i .i64] [.i .i64] F46

def D46_2004 : PcD := ⟨[0, 3], [.i .i64, .b], [⟨.ret, [2], [.i .i64], []⟩, ⟨.normal, [], [], []⟩], P46_2004⟩

def D46_4004 : PcD := ⟨[0, 10], [.i .i64, .b], [⟨.ret, [2], [.i .i64], []⟩, ⟨.normal, [], [], []⟩], P46_4004⟩

def D46_6004 : PcD := ⟨[0, 37], [.i .i64, .b], [⟨.ret, [2], [.i .i64], []⟩, ⟨.normal, [], [], []⟩], P46_6004⟩

def D46_8004 : PcD := ⟨[0, 48], [.i .i64, .b], [⟨.ret, [2], [.i .i64], []⟩, ⟨.normal, [], [], []⟩], P46_8004⟩

def D46_10004 : PcD := ⟨[0, 59], [.i .i64, .b], [⟨.ret, [2], [.i .i64], []⟩, ⟨.normal, [], [], []⟩], P46_10004⟩

def D46_12004 : PcD := ⟨[0, 66], [.i .i64, .b], [⟨.ret, [2], [.i .i64], []⟩, ⟨.normal, [], [], []⟩], P46_12004⟩

def D46_14004 : PcD := ⟨[0, 81], [.i .i64, .b], [⟨.ret, [2], [.i .i64], []⟩, ⟨.normal, [], [], []⟩], P46_14004⟩

def D46_16004 : PcD := ⟨[0, 96], [.i .i64, .b], [⟨.ret, [2], [.i .i64], []⟩, ⟨.normal, [], [], []⟩], P46_16004⟩

def D46_18004 : PcD := ⟨[0, 103], [.i .i64, .b], [⟨.ret, [2], [.i .i64], []⟩, ⟨.normal, [], [], []⟩], P46_18004⟩

def Lam46 : LEnv := lamOf [] [] [2004, 4004, 6004, 8004, 10004, 12004, 14004, 16004, 18004] [(2004, pcK D46_2004), (4004, pcK D46_4004), (6004, pcK D46_6004), (8004, pcK D46_8004), (10004, pcK D46_10004), (12004, pcK D46_12004), (14004, pcK D46_14004), (16004, pcK D46_16004), (18004, pcK D46_18004)]

theorem pok46_18004 : PieceOK Tryd.prog E46 Lam46 (nthP Lam46 (bodyOf Tryd.f46) 8) := pc_ok D46_18004 (fun _ _ _ => by kernel_rfl) (by kernel_rfl) (fun _ _ _ _ => by kernel_rfl)

theorem pok46_16004 : PieceOK Tryd.prog E46 Lam46 (nthP Lam46 (bodyOf Tryd.f46) 7) := pc_ok D46_16004 (fun _ _ _ => by kernel_rfl) (by kernel_rfl) (fun _ _ _ _ => by kernel_rfl)

theorem pok46_14004 : PieceOK Tryd.prog E46 Lam46 (nthP Lam46 (bodyOf Tryd.f46) 6) := pc_ok D46_14004 (fun _ _ _ => by kernel_rfl) (by kernel_rfl) (fun _ _ _ _ => by kernel_rfl)

theorem pok46_12004 : PieceOK Tryd.prog E46 Lam46 (nthP Lam46 (bodyOf Tryd.f46) 5) := pc_ok D46_12004 (fun _ _ _ => by kernel_rfl) (by kernel_rfl) (fun _ _ _ _ => by kernel_rfl)

theorem pok46_10004 : PieceOK Tryd.prog E46 Lam46 (nthP Lam46 (bodyOf Tryd.f46) 4) := pc_ok D46_10004 (fun _ _ _ => by kernel_rfl) (by kernel_rfl) (fun _ _ _ _ => by kernel_rfl)

theorem pok46_8004 : PieceOK Tryd.prog E46 Lam46 (nthP Lam46 (bodyOf Tryd.f46) 3) := pc_ok D46_8004 (fun _ _ _ => by kernel_rfl) (by kernel_rfl) (fun _ _ _ _ => by kernel_rfl)

theorem pok46_6004 : PieceOK Tryd.prog E46 Lam46 (nthP Lam46 (bodyOf Tryd.f46) 2) := pc_ok D46_6004 (fun _ _ _ => by kernel_rfl) (by kernel_rfl) (fun _ _ _ _ => by kernel_rfl)

theorem pok46_4004 : PieceOK Tryd.prog E46 Lam46 (nthP Lam46 (bodyOf Tryd.f46) 1) := pc_ok D46_4004 (fun _ _ _ => by kernel_rfl) (by kernel_rfl) (fun _ _ _ _ => by kernel_rfl)

theorem pok46_2004 : PieceOK Tryd.prog E46 Lam46 (nthP Lam46 (bodyOf Tryd.f46) 0) := pc_ok D46_2004 (fun _ _ _ => by kernel_rfl) (by kernel_rfl) (fun _ _ _ _ => by kernel_rfl)

def E39 : Env := ext E46 46 G46

theorem S39 (w0 : World) (hW : TabH w0) : SP w0 E39 := sg (S46 w0 hW) Tryd.func46 Tryd.call46 (Λ := Lam46) 0 trivial 9 ⟨pok46_2004, pok46_4004, pok46_6004, pok46_8004, pok46_10004, pok46_12004, pok46_14004, pok46_16004, pok46_18004, trivial⟩ (by kernel_rfl) true (fun _ _ _ => by kernel_rfl)

def P39_11105 (x_1 : Int) (b_4 o_4 : Nat) (b_5 o_5 : Nat) (x_6 : Int) (m : Mem) (kr : Mem → Prop) : Prop :=
  kif ((bits .and .i64 x_6 16) != 0) (stC m b_5 (o_5 + 5) (.flat (.int .u32 (bits .and .u32 x_1 65535))) fun m12 => ldG 6 m12 b_5 o_5 fun c14 => stG 6 m12 b_4 o_4 c14 fun m15 => kr  m15) (kif ((bits .and .i64 x_6 32) != 0) (stC m b_5 (o_5 + 5) (.flat (.int .u32 (bits .and .u32 x_1 67108863))) fun m13 => ldG 6 m13 b_5 o_5 fun c16 => stG 6 m13 b_4 o_4 c16 fun m17 => kr  m17) (ldG 6 m b_5 o_5 fun c18 => stG 6 m b_4 o_4 c18 fun m19 => kr  m19))

def P39_9103 (x_1 : Int) (b_4 o_4 : Nat) (b_5 o_5 : Nat) (x_6 : Int) (m : Mem) (kr : Mem → Prop) : Prop :=
  kif ((bits .and .i64 x_6 8) != 0) (stC m b_5 (o_5 + 4) (.flat (.int .i64 (IntKind.wrap .i64 (bits .and .u32 (x_1.fdiv 64) 31)))) fun m11 => P39_11105 x_1 b_4 o_4 b_5 o_5 x_6 m11 (fun m20 => kr  m20)) (P39_11105 x_1 b_4 o_4 b_5 o_5 x_6 m (fun m21 => kr  m21))

def P39_7103 (x_1 : Int) (b_4 o_4 : Nat) (b_5 o_5 : Nat) (x_6 : Int) (m : Mem) (kr : Mem → Prop) : Prop :=
  kif ((bits .and .i64 x_6 4) != 0) (stC m b_5 (o_5 + 3) (.flat (.int .i64 (IntKind.wrap .i64 (bits .and .u32 (x_1.fdiv 2048) 31)))) fun m10 => P39_9103 x_1 b_4 o_4 b_5 o_5 x_6 m10 (fun m22 => kr  m22)) (P39_9103 x_1 b_4 o_4 b_5 o_5 x_6 m (fun m23 => kr  m23))

def P39_5103 (x_1 : Int) (b_4 o_4 : Nat) (b_5 o_5 : Nat) (x_6 : Int) (m : Mem) (kr : Mem → Prop) : Prop :=
  kif ((bits .and .i64 x_6 2) != 0) (stC m b_5 (o_5 + 2) (.flat (.int .i64 (IntKind.wrap .i64 (bits .and .u32 (x_1.fdiv 65536) 31)))) fun m9 => P39_7103 x_1 b_4 o_4 b_5 o_5 x_6 m9 (fun m24 => kr  m24)) (P39_7103 x_1 b_4 o_4 b_5 o_5 x_6 m (fun m25 => kr  m25))

/-- pianola/decode.with -/
def F39 (x_0 : Int) (x_1 : Int) (m : Mem) (k : (Nat → AV) → Mem → Prop) : Prop :=
  newK m ⟨6, Z6, 26, false⟩ fun b2 m1 => newK m1 ⟨6, Z6, 26, false⟩ fun b4 m3 => stG 6 m3 b4 0 (upd (Z6) 0 (.flat (.int .i64 x_0))) fun m5 => F46 x_0 m5 fun x6 m7 => kif ((bits .and .i64 x6 1) != 0) (stC m7 b4 1 (.flat (.int .i64 (IntKind.wrap .i64 (bits .and .u32 (x_1.fdiv 2097152) 31)))) fun m8 => P39_5103 x_1 b2 0 b4 0 x6 m8 (fun m26 => ldG 6 m26 b2 0 fun c28 => (Keeps m m26 ∧ InDomG 6 m c28 ∧ k c28 m))) (P39_5103 x_1 b2 0 b4 0 x6 m7 (fun m27 => ldG 6 m27 b2 0 fun c29 => (Keeps m m27 ∧ InDomG 6 m c29 ∧ k c29 m)))

def G39 := Gs [.i .i64, .i .u32] [.g 6] F39

def D39_5103 : PcD := ⟨[1, 4, 5, 6], [.i .u32, .p, .p, .i .i64], [⟨.ret, [], [], [4]⟩], P39_5103⟩

def D39_7103 : PcD := ⟨[1, 4, 5, 6], [.i .u32, .p, .p, .i .i64], [⟨.ret, [], [], [4]⟩], P39_7103⟩

def D39_9103 : PcD := ⟨[1, 4, 5, 6], [.i .u32, .p, .p, .i .i64], [⟨.ret, [], [], [4]⟩], P39_9103⟩

def D39_11105 : PcD := ⟨[1, 4, 5, 6], [.i .u32, .p, .p, .i .i64], [⟨.ret, [], [], [4]⟩], P39_11105⟩

def Lam39 : LEnv := lamOf [] [] [5103, 7103, 9103, 11105] [(5103, pcK D39_5103), (7103, pcK D39_7103), (9103, pcK D39_9103), (11105, pcK D39_11105)]

theorem pok39_11105 : PieceOK Tryd.prog E39 Lam39 (nthP Lam39 (bodyOf Tryd.f39) 3) := pc_ok D39_11105 (fun _ _ _ => by kernel_rfl) (by kernel_rfl) (fun _ _ _ _ _ _ _ _ => by kernel_rfl)

theorem pok39_9103 : PieceOK Tryd.prog E39 Lam39 (nthP Lam39 (bodyOf Tryd.f39) 2) := pc_ok D39_9103 (fun _ _ _ => by kernel_rfl) (by kernel_rfl) (fun _ _ _ _ _ _ _ _ => by kernel_rfl)

theorem pok39_7103 : PieceOK Tryd.prog E39 Lam39 (nthP Lam39 (bodyOf Tryd.f39) 1) := pc_ok D39_7103 (fun _ _ _ => by kernel_rfl) (by kernel_rfl) (fun _ _ _ _ _ _ _ _ => by kernel_rfl)

theorem pok39_5103 : PieceOK Tryd.prog E39 Lam39 (nthP Lam39 (bodyOf Tryd.f39) 0) := pc_ok D39_5103 (fun _ _ _ => by kernel_rfl) (by kernel_rfl) (fun _ _ _ _ _ _ _ _ => by kernel_rfl)

def E27 : Env := ext E39 39 G39

theorem S27 (w0 : World) (hW : TabH w0) : SP w0 E27 := sg (S39 w0 hW) Tryd.func39 Tryd.call39 (Λ := Lam39) 0 trivial 4 ⟨pok39_5103, pok39_7103, pok39_9103, pok39_11105, trivial⟩ (by kernel_rfl) true (fun _ _ _ _ => by kernel_rfl)

def R27_2 (b_1 o_1 : Nat) (v_13 : AV) (x_14 : Int) (x_15 : Int) (m : Mem) (kn : Int → Mem → Prop) (k0 : Mem → Prop) (kr : Bool → Mem → Prop) : Prop :=
  kif (decide (x_15 < x_14)) (ksl v_13 fun b9 o10 l11 p12 => kif (decide (0 ≤ x_15) && decide (x_15 < l11)) (ldI .i64 m b9 (o10 + (x_15).toNat * 1) fun x13 => kif (decide (x13 < 0)) (kr false m) (kif (decide (x13 > 31)) (kr false m) (kn (IntKind.wrap .i64 (x_15 + 1)) m))) False) (k0  m)

def L27_2 (b_1 o_1 : Nat) (v_13 : AV) (x_14 : Int) : Nat → Int → Mem → (Mem → Prop) → (Bool → Mem → Prop) → Prop
  | 0, _,  _, _, _ => bump False
  | N + 1, x_15,  m, k0, kr => R27_2 b_1 o_1 v_13 x_14 x_15 m (fun x_15' m' => L27_2 b_1 o_1 v_13 x_14 N x_15' m' k0 kr) k0 kr

/-- pianola/decode.Right -/
def F27 (c_0 : Nat → AV) (m : Mem) (k : Bool → Mem → Prop) : Prop :=
  newK m ⟨6, c_0, 26, false⟩ fun b2 m1 => ldI .i64 m1 b2 1 fun x3 => ldI .i64 m1 b2 2 fun x4 => ldI .i64 m1 b2 3 fun x5 => ldI .i64 m1 b2 4 fun x6 => newK m1 ⟨4, upd (upd (upd (upd (lget [(.flat (.int .i64 0)), (.flat (.int .i64 0)), (.flat (.int .i64 0)), (.flat (.int .i64 0))]) 0 (.flat (.int .i64 x3))) 1 (.flat (.int .i64 x4))) 2 (.flat (.int .i64 x5))) 3 (.flat (.int .i64 x6)), 3, false⟩ fun b8 m7 => ∃ N17, L27_2 b2 0 (.sl b8 0 4 (.ex 4)) 4 N17 0 m7 (fun m14 => ∃ Fr18 : Nat → Prop, Fr18 b2 ∧ (ldI .i64 m14 b2 0 fun x19 => kif (decide (x19 > 0)) (Fr18 b2 ∧ (ldI .i64 m14 b2 0 fun x20 => kif (decide (x20 < 78)) (Fr18 b2 ∧ (ldI .u32 m14 b2 5 fun x21 => kif (decide (x21 ≤ 67108863)) (Fr18 b2 ∧ (ldI .i64 m14 b2 0 fun x22 => Fr18 b2 ∧ (ldG 6 m14 b2 0 fun c23 => F29 c23 m14 fun x24 m25 => KeepsIn Fr18 m14 m25 ∧ (F39 x22 x24 m25 fun c26 m27 => KeepsIn Fr18 m25 m27 ∧ (Fr18 b2 ∧ (ldG 6 m27 b2 0 fun c28 => geq K26 c26 c28 fun x29 => (Keeps m m27 ∧ k x29 m))))))) ((Keeps m m14 ∧ k false m)))) ((Keeps m m14 ∧ k false m)))) ((Keeps m m14 ∧ k false m)))) (fun x15 m16 => (Keeps m m16 ∧ k x15 m))

def G27 := Gs [.g 6] [.b] F27

def D27_2 : LpD := ⟨[1, 13, 14], [.p, .a, .i .i64], [15], [.i .i64], [⟨.exit 0, [], [], [1]⟩, ⟨.ret, [2], [.b], []⟩], R27_2, L27_2⟩

def Lam27 : LEnv := lamOf [(2, lpK D27_2)] [7] [] []

theorem lok27_2 : LoopOK Tryd.prog E27 Lam27 (nthL (bodyOf Tryd.f27) 0) := lp_ok D27_2 (fun _ _ _ => by kernel_rfl) (by kernel_rfl) (fun _ _ _ _ _ _ _ _ => by kernel_rfl) (fun _ _ _ _ _ _ _ _ _ => by kernel_rfl) (fun _ _ _ _ _ _ _ _ => by kernel_rfl)

def E47 : Env := ext E27 27 G27

theorem S47 (w0 : World) (hW : TabH w0) : SP w0 E47 := sg (S27 w0 hW) Tryd.func27 Tryd.call27 (Λ := Lam27) 1 ⟨lok27_2, trivial⟩ 0 trivial (by kernel_rfl) true (fun _ _ _ => by kernel_rfl)

def P47_21004 (x_3 : Int) (x_75 : Bool) (m : Mem) (kr : Int → Mem → Prop) (kn : Mem → Prop) : Prop :=
  kif x_75 (kr (IntKind.wrap .i64 ((IntKind.wrap .i64 (30 + x_3)) - 42)) m) (kif (decide (x_3 ≥ 48)) (kif (decide (x_3 ≤ 54)) (kif ((x_3.tmod 2) == 0) (kr (IntKind.wrap .i64 (32 + (IntKind.wrap .i64 ((IntKind.wrap .i64 (x_3 - 48)).tdiv 2)))) m) (kn  m)) (kn  m)) (kn  m))

def P47_19004 (x_3 : Int) (x_65 : Bool) (m : Mem) (kr : Int → Mem → Prop) (kn : Mem → Prop) : Prop :=
  kif x_65 (kr (IntKind.wrap .i64 ((IntKind.wrap .i64 (22 + x_3)) - 32)) m) (kif (x_3 == 42) (P47_21004 x_3 true m (fun x1 m2 => kr x1 m2) (fun m3 => kn  m3)) (P47_21004 x_3 (x_3 == 43) m (fun x4 m5 => kr x4 m5) (fun m6 => kn  m6)))

def P47_17004 (x_3 : Int) (x_55 : Bool) (m : Mem) (kr : Int → Mem → Prop) (kn : Mem → Prop) : Prop :=
  kif x_55 (kr (IntKind.wrap .i64 ((IntKind.wrap .i64 (18 + x_3)) - 24)) m) (kif (decide (x_3 ≥ 32)) (P47_19004 x_3 (decide (x_3 ≤ 39)) m (fun x7 m8 => kr x7 m8) (fun m9 => kn  m9)) (P47_19004 x_3 false m (fun x10 m11 => kr x10 m11) (fun m12 => kn  m12)))

def P47_15004 (x_3 : Int) (x_45 : Bool) (m : Mem) (kr : Int → Mem → Prop) (kn : Mem → Prop) : Prop :=
  kif x_45 (kr (IntKind.wrap .i64 ((IntKind.wrap .i64 (14 + x_3)) - 16)) m) (kif (decide (x_3 ≥ 24)) (P47_17004 x_3 (decide (x_3 ≤ 27)) m (fun x13 m14 => kr x13 m14) (fun m15 => kn  m15)) (P47_17004 x_3 false m (fun x16 m17 => kr x16 m17) (fun m18 => kn  m18)))

def P47_11004 (x_3 : Int) (x_32 : Bool) (m : Mem) (kr : Int → Mem → Prop) (kn : Mem → Prop) : Prop :=
  kif x_32 (kr (IntKind.wrap .i64 ((IntKind.wrap .i64 (7 + x_3)) - 8)) m) (kif (x_3 == 15) (kr 13 m) (kif (decide (x_3 ≥ 16)) (P47_15004 x_3 (decide (x_3 ≤ 19)) m (fun x19 m20 => kr x19 m20) (fun m21 => kn  m21)) (P47_15004 x_3 false m (fun x22 m23 => kr x22 m23) (fun m24 => kn  m24))))

def P47_9004 (x_3 : Int) (x_22 : Bool) (m : Mem) (kr : Int → Mem → Prop) (kn : Mem → Prop) : Prop :=
  kif x_22 (kr (IntKind.wrap .i64 ((IntKind.wrap .i64 (5 + x_3)) - 6)) m) (kif (decide (x_3 ≥ 8)) (P47_11004 x_3 (decide (x_3 ≤ 13)) m (fun x25 m26 => kr x25 m26) (fun m27 => kn  m27)) (P47_11004 x_3 false m (fun x28 m29 => kr x28 m29) (fun m30 => kn  m30)))

def P47_5004 (x_3 : Int) (x_9 : Bool) (m : Mem) (kr : Int → Mem → Prop) (kn : Mem → Prop) : Prop :=
  kif x_9 (kr (IntKind.wrap .i64 ((IntKind.wrap .i64 (2 + x_3)) - 2)) m) (kif (x_3 == 4) (kr 4 m) (kif (x_3 == 6) (P47_9004 x_3 true m (fun x31 m32 => kr x31 m32) (fun m33 => kn  m33)) (P47_9004 x_3 (x_3 == 7) m (fun x34 m35 => kr x34 m35) (fun m36 => kn  m36))))

/-- pianola/decode.special -/
def F47 (x_0 : Int) (m : Mem) (k : Int → Mem → Prop) : Prop :=
  kif ((IntKind.wrap .i64 x_0) == 0) ((Keeps m m ∧ k 1 m)) (kif ((IntKind.wrap .i64 x_0) == 2) (P47_5004 (IntKind.wrap .i64 x_0) true m (fun x37 m38 => (Keeps m m38 ∧ k x37 m)) (fun m39 => (Keeps m m39 ∧ k 0 m))) (P47_5004 (IntKind.wrap .i64 x_0) ((IntKind.wrap .i64 x_0) == 3) m (fun x40 m41 => (Keeps m m41 ∧ k x40 m)) (fun m42 => (Keeps m m42 ∧ k 0 m))))

def G47 := Gs [.i .u32] [.i .i64] F47

def D47_5004 : PcD := ⟨[3, 9], [.i .i64, .b], [⟨.ret, [2], [.i .i64], []⟩, ⟨.normal, [], [], []⟩], P47_5004⟩

def D47_9004 : PcD := ⟨[3, 22], [.i .i64, .b], [⟨.ret, [2], [.i .i64], []⟩, ⟨.normal, [], [], []⟩], P47_9004⟩

def D47_11004 : PcD := ⟨[3, 32], [.i .i64, .b], [⟨.ret, [2], [.i .i64], []⟩, ⟨.normal, [], [], []⟩], P47_11004⟩

def D47_15004 : PcD := ⟨[3, 45], [.i .i64, .b], [⟨.ret, [2], [.i .i64], []⟩, ⟨.normal, [], [], []⟩], P47_15004⟩

def D47_17004 : PcD := ⟨[3, 55], [.i .i64, .b], [⟨.ret, [2], [.i .i64], []⟩, ⟨.normal, [], [], []⟩], P47_17004⟩

def D47_19004 : PcD := ⟨[3, 65], [.i .i64, .b], [⟨.ret, [2], [.i .i64], []⟩, ⟨.normal, [], [], []⟩], P47_19004⟩

def D47_21004 : PcD := ⟨[3, 75], [.i .i64, .b], [⟨.ret, [2], [.i .i64], []⟩, ⟨.normal, [], [], []⟩], P47_21004⟩

def Lam47 : LEnv := lamOf [] [] [5004, 9004, 11004, 15004, 17004, 19004, 21004] [(5004, pcK D47_5004), (9004, pcK D47_9004), (11004, pcK D47_11004), (15004, pcK D47_15004), (17004, pcK D47_17004), (19004, pcK D47_19004), (21004, pcK D47_21004)]

theorem pok47_21004 : PieceOK Tryd.prog E47 Lam47 (nthP Lam47 (bodyOf Tryd.f47) 6) := pc_ok D47_21004 (fun _ _ _ => by kernel_rfl) (by kernel_rfl) (fun _ _ _ _ => by kernel_rfl)

theorem pok47_19004 : PieceOK Tryd.prog E47 Lam47 (nthP Lam47 (bodyOf Tryd.f47) 5) := pc_ok D47_19004 (fun _ _ _ => by kernel_rfl) (by kernel_rfl) (fun _ _ _ _ => by kernel_rfl)

theorem pok47_17004 : PieceOK Tryd.prog E47 Lam47 (nthP Lam47 (bodyOf Tryd.f47) 4) := pc_ok D47_17004 (fun _ _ _ => by kernel_rfl) (by kernel_rfl) (fun _ _ _ _ => by kernel_rfl)

theorem pok47_15004 : PieceOK Tryd.prog E47 Lam47 (nthP Lam47 (bodyOf Tryd.f47) 3) := pc_ok D47_15004 (fun _ _ _ => by kernel_rfl) (by kernel_rfl) (fun _ _ _ _ => by kernel_rfl)

theorem pok47_11004 : PieceOK Tryd.prog E47 Lam47 (nthP Lam47 (bodyOf Tryd.f47) 2) := pc_ok D47_11004 (fun _ _ _ => by kernel_rfl) (by kernel_rfl) (fun _ _ _ _ => by kernel_rfl)

theorem pok47_9004 : PieceOK Tryd.prog E47 Lam47 (nthP Lam47 (bodyOf Tryd.f47) 1) := pc_ok D47_9004 (fun _ _ _ => by kernel_rfl) (by kernel_rfl) (fun _ _ _ _ => by kernel_rfl)

theorem pok47_5004 : PieceOK Tryd.prog E47 Lam47 (nthP Lam47 (bodyOf Tryd.f47) 0) := pc_ok D47_5004 (fun _ _ _ => by kernel_rfl) (by kernel_rfl) (fun _ _ _ _ => by kernel_rfl)

def E48 : Env := ext E47 47 G47

theorem S48 (w0 : World) (hW : TabH w0) : SP w0 E48 := sg (S47 w0 hW) Tryd.func47 Tryd.call47 (Λ := Lam47) 0 trivial 7 ⟨pok47_5004, pok47_9004, pok47_11004, pok47_15004, pok47_17004, pok47_19004, pok47_21004, trivial⟩ (by kernel_rfl) true (fun _ _ _ => by kernel_rfl)

def P48_4004 (x_0 : Int) (x_3 : Int) (x_4 : Bool) (m : Mem) (kr : Int → Mem → Prop) (kn : Mem → Prop) : Prop :=
  kif x_4 (kr (IntKind.wrap .i64 (36 + (IntKind.wrap .i64 x_0))) m) (kif (x_3 == 16) (kif (x_3 == 16) (kr (IntKind.wrap .i64 ((IntKind.wrap .i64 (38 + (IntKind.wrap .i64 x_0))) - 16)) m) (kn  m)) (kif (x_3 == 17) (kr (IntKind.wrap .i64 ((IntKind.wrap .i64 (38 + (IntKind.wrap .i64 x_0))) - 16)) m) (kn  m)))

/-- pianola/decode.regimm -/
def F48 (x_0 : Int) (m : Mem) (k : Int → Mem → Prop) : Prop :=
  kif (x_0 == 0) (P48_4004 x_0 x_0 (x_0 == 0) m (fun x1 m2 => (Keeps m m2 ∧ k x1 m)) (fun m3 => (Keeps m m3 ∧ k 0 m))) (P48_4004 x_0 x_0 (x_0 == 1) m (fun x4 m5 => (Keeps m m5 ∧ k x4 m)) (fun m6 => (Keeps m m6 ∧ k 0 m)))

def G48 := Gs [.i .u32] [.i .i64] F48

def D48_4004 : PcD := ⟨[0, 3, 4], [.i .u32, .i .u32, .b], [⟨.ret, [2], [.i .i64], []⟩, ⟨.normal, [], [], []⟩], P48_4004⟩

def Lam48 : LEnv := lamOf [] [] [4004] [(4004, pcK D48_4004)]

theorem pok48_4004 : PieceOK Tryd.prog E48 Lam48 (nthP Lam48 (bodyOf Tryd.f48) 0) := pc_ok D48_4004 (fun _ _ _ => by kernel_rfl) (by kernel_rfl) (fun _ _ _ _ _ => by kernel_rfl)

def E54 : Env := ext E48 48 G48

theorem S54 (w0 : World) (hW : TabH w0) : SP w0 E54 := sg (S48 w0 hW) Tryd.func48 Tryd.call48 (Λ := Lam48) 0 trivial 1 ⟨pok48_4004, trivial⟩ (by kernel_rfl) true (fun _ _ _ => by kernel_rfl)

/-- pianola/decode.table -/
def F54 (x_0 : Int) (m : Mem) (k : Int → Mem → Prop) : Prop :=
  kif (x_0 == 1) ((Keeps m m ∧ k 56 m)) (kif (x_0 == 2) ((Keeps m m ∧ k 57 m)) (kif (x_0 == 6) ((Keeps m m ∧ k 58 m)) (kif (x_0 == 8) ((Keeps m m ∧ k 59 m)) (kif (x_0 == 24) ((Keeps m m ∧ k 60 m)) (kif (x_0 == 32) ((Keeps m m ∧ k 61 m)) ((Keeps m m ∧ k 0 m)))))))

def G54 := Gs [.i .u32] [.i .i64] F54

def E49 : Env := ext E54 54 G54

theorem S49 (w0 : World) (hW : TabH w0) : SP w0 E49 := sg0 (S54 w0 hW) Tryd.func54 Tryd.call54 (by kernel_rfl) true (fun _ _ _ => by kernel_rfl)

/-- pianola/decode.cop0 -/
def F49 (x_0 : Int) (m : Mem) (k : Int → Mem → Prop) : Prop :=
  kif ((bits .and .u32 (x_0.fdiv 2097152) 31) == 0) ((Keeps m m ∧ k 54 m)) (kif ((bits .and .u32 (x_0.fdiv 2097152) 31) == 4) ((Keeps m m ∧ k 55 m)) (kif ((bits .and .u32 (x_0.fdiv 2097152) 31) == 16) (F54 (bits .and .u32 x_0 63) m fun x1 m2 => (Keeps m m2 ∧ k x1 m)) ((Keeps m m ∧ k 0 m))))

def G49 := Gs [.i .u32] [.i .i64] F49

def E50 : Env := ext E49 49 G49

theorem S50 (w0 : World) (hW : TabH w0) : SP w0 E50 := sg0 (S49 w0 hW) Tryd.func49 Tryd.call49 (by kernel_rfl) true (fun _ _ _ => by kernel_rfl)

/-- pianola/decode.special2 -/
def F50 (x_0 : Int) (m : Mem) (k : Int → Mem → Prop) : Prop :=
  kif (x_0 == 2) ((Keeps m m ∧ k 63 m)) (kif (x_0 == 32) (kif (x_0 == 32) ((Keeps m m ∧ k (IntKind.wrap .i64 ((IntKind.wrap .i64 (64 + (IntKind.wrap .i64 x_0))) - 32)) m)) ((Keeps m m ∧ k 0 m))) (kif (x_0 == 33) ((Keeps m m ∧ k (IntKind.wrap .i64 ((IntKind.wrap .i64 (64 + (IntKind.wrap .i64 x_0))) - 32)) m)) ((Keeps m m ∧ k 0 m))))

def G50 := Gs [.i .u32] [.i .i64] F50

def E51 : Env := ext E50 50 G50

theorem S51 (w0 : World) (hW : TabH w0) : SP w0 E51 := sg0 (S50 w0 hW) Tryd.func50 Tryd.call50 (by kernel_rfl) true (fun _ _ _ => by kernel_rfl)

def P51_13004 (x_3 : Int) (x_49 : Bool) (m : Mem) (kr : Int → Mem → Prop) (kn : Mem → Prop) : Prop :=
  kif x_49 (kr (IntKind.wrap .i64 ((IntKind.wrap .i64 (71 + x_3)) - 40)) m) (kif (x_3 == 43) (kr 73 m) (kif (x_3 == 47) (kr 76 m) (kif (x_3 == 48) (kr 74 m) (kif (x_3 == 51) (kr 77 m) (kif (x_3 == 56) (kr 75 m) (kn  m))))))

def P51_11004 (x_3 : Int) (x_39 : Bool) (m : Mem) (kr : Int → Mem → Prop) (kn : Mem → Prop) : Prop :=
  kif x_39 (kr (IntKind.wrap .i64 ((IntKind.wrap .i64 (68 + x_3)) - 35)) m) (kif (x_3 == 40) (P51_13004 x_3 true m (fun x1 m2 => kr x1 m2) (fun m3 => kn  m3)) (P51_13004 x_3 (x_3 == 41) m (fun x4 m5 => kr x4 m5) (fun m6 => kn  m6)))

def P51_9004 (x_3 : Int) (x_29 : Bool) (m : Mem) (kr : Int → Mem → Prop) (kn : Mem → Prop) : Prop :=
  kif x_29 (kr (IntKind.wrap .i64 ((IntKind.wrap .i64 (66 + x_3)) - 32)) m) (kif (decide (x_3 ≥ 35)) (P51_11004 x_3 (decide (x_3 ≤ 37)) m (fun x7 m8 => kr x7 m8) (fun m9 => kn  m9)) (P51_11004 x_3 false m (fun x10 m11 => kr x10 m11) (fun m12 => kn  m12)))

def P51_5004 (x_3 : Int) (x_16 : Bool) (m : Mem) (kr : Int → Mem → Prop) (kn : Mem → Prop) : Prop :=
  kif x_16 (kr (IntKind.wrap .i64 ((IntKind.wrap .i64 (46 + x_3)) - 8)) m) (kif (x_3 == 17) (kr 62 m) (kif (x_3 == 32) (P51_9004 x_3 true m (fun x13 m14 => kr x13 m14) (fun m15 => kn  m15)) (P51_9004 x_3 (x_3 == 33) m (fun x16 m17 => kr x16 m17) (fun m18 => kn  m18))))

def P51_3004 (x_3 : Int) (x_6 : Bool) (m : Mem) (kr : Int → Mem → Prop) (kn : Mem → Prop) : Prop :=
  kif x_6 (kr (IntKind.wrap .i64 ((IntKind.wrap .i64 (40 + x_3)) - 2)) m) (kif (decide (x_3 ≥ 8)) (P51_5004 x_3 (decide (x_3 ≤ 15)) m (fun x19 m20 => kr x19 m20) (fun m21 => kn  m21)) (P51_5004 x_3 false m (fun x22 m23 => kr x22 m23) (fun m24 => kn  m24)))

/-- pianola/decode.major -/
def F51 (x_0 : Int) (m : Mem) (k : Int → Mem → Prop) : Prop :=
  kif (decide ((IntKind.wrap .i64 x_0) ≥ 2)) (P51_3004 (IntKind.wrap .i64 x_0) (decide ((IntKind.wrap .i64 x_0) ≤ 7)) m (fun x25 m26 => (Keeps m m26 ∧ k x25 m)) (fun m27 => (Keeps m m27 ∧ k 0 m))) (P51_3004 (IntKind.wrap .i64 x_0) false m (fun x28 m29 => (Keeps m m29 ∧ k x28 m)) (fun m30 => (Keeps m m30 ∧ k 0 m)))

def G51 := Gs [.i .u32] [.i .i64] F51

def D51_3004 : PcD := ⟨[3, 6], [.i .i64, .b], [⟨.ret, [2], [.i .i64], []⟩, ⟨.normal, [], [], []⟩], P51_3004⟩

def D51_5004 : PcD := ⟨[3, 16], [.i .i64, .b], [⟨.ret, [2], [.i .i64], []⟩, ⟨.normal, [], [], []⟩], P51_5004⟩

def D51_9004 : PcD := ⟨[3, 29], [.i .i64, .b], [⟨.ret, [2], [.i .i64], []⟩, ⟨.normal, [], [], []⟩], P51_9004⟩

def D51_11004 : PcD := ⟨[3, 39], [.i .i64, .b], [⟨.ret, [2], [.i .i64], []⟩, ⟨.normal, [], [], []⟩], P51_11004⟩

def D51_13004 : PcD := ⟨[3, 49], [.i .i64, .b], [⟨.ret, [2], [.i .i64], []⟩, ⟨.normal, [], [], []⟩], P51_13004⟩

def Lam51 : LEnv := lamOf [] [] [3004, 5004, 9004, 11004, 13004] [(3004, pcK D51_3004), (5004, pcK D51_5004), (9004, pcK D51_9004), (11004, pcK D51_11004), (13004, pcK D51_13004)]

theorem pok51_13004 : PieceOK Tryd.prog E51 Lam51 (nthP Lam51 (bodyOf Tryd.f51) 4) := pc_ok D51_13004 (fun _ _ _ => by kernel_rfl) (by kernel_rfl) (fun _ _ _ _ => by kernel_rfl)

theorem pok51_11004 : PieceOK Tryd.prog E51 Lam51 (nthP Lam51 (bodyOf Tryd.f51) 3) := pc_ok D51_11004 (fun _ _ _ => by kernel_rfl) (by kernel_rfl) (fun _ _ _ _ => by kernel_rfl)

theorem pok51_9004 : PieceOK Tryd.prog E51 Lam51 (nthP Lam51 (bodyOf Tryd.f51) 2) := pc_ok D51_9004 (fun _ _ _ => by kernel_rfl) (by kernel_rfl) (fun _ _ _ _ => by kernel_rfl)

theorem pok51_5004 : PieceOK Tryd.prog E51 Lam51 (nthP Lam51 (bodyOf Tryd.f51) 1) := pc_ok D51_5004 (fun _ _ _ => by kernel_rfl) (by kernel_rfl) (fun _ _ _ _ => by kernel_rfl)

theorem pok51_3004 : PieceOK Tryd.prog E51 Lam51 (nthP Lam51 (bodyOf Tryd.f51) 0) := pc_ok D51_3004 (fun _ _ _ => by kernel_rfl) (by kernel_rfl) (fun _ _ _ _ => by kernel_rfl)

def E40 : Env := ext E51 51 G51

theorem S40 (w0 : World) (hW : TabH w0) : SP w0 E40 := sg (S51 w0 hW) Tryd.func51 Tryd.call51 (Λ := Lam51) 0 trivial 5 ⟨pok51_3004, pok51_5004, pok51_9004, pok51_11004, pok51_13004, trivial⟩ (by kernel_rfl) true (fun _ _ _ => by kernel_rfl)

/-- pianola/decode.kind -/
def F40 (x_0 : Int) (m : Mem) (k : Int → Mem → Prop) : Prop :=
  kif ((x_0.fdiv 67108864) == 0) (F47 (bits .and .u32 x_0 63) m fun x1 m2 => (Keeps m m2 ∧ k x1 m)) (kif ((x_0.fdiv 67108864) == 1) (F48 (bits .and .u32 (x_0.fdiv 65536) 31) m fun x3 m4 => (Keeps m m4 ∧ k x3 m)) (kif ((x_0.fdiv 67108864) == 16) (F49 x_0 m fun x5 m6 => (Keeps m m6 ∧ k x5 m)) (kif ((x_0.fdiv 67108864) == 28) (F50 (bits .and .u32 x_0 63) m fun x7 m8 => (Keeps m m8 ∧ k x7 m)) (F51 (x_0.fdiv 67108864) m fun x9 m10 => (Keeps m m10 ∧ k x9 m)))))

def G40 := Gs [.i .u32] [.i .i64] F40

end Go.Proofs.YtppikpjmlbaccaaDoor.Am
