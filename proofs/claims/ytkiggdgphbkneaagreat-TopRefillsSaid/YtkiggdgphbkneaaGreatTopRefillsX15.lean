/- What Go functions ask of what follows them, as plain functions over the abstract machine; the machine asks just that. Written by gen.py. What Go functions ask of what follows them, as plain functions over the abstract machine; the machine asks just that. Writt -/
import Derived.Test.YtkiggdgphbkneaaGreatTopRefillsX14
namespace Go.Proofs.YtkiggdgphbkneaaGreat.Am
set_option linter.unusedVariables false
set_option linter.unusedSimpArgs false
set_option linter.constructorNameAsVariable false
set_option maxRecDepth 100000
def E65 : Env := ext E87 87 G87
theorem S65 (w0 : World) : SP w0 E65 := sg0 (S87 w0) Tryz.func87 Tryz.call87 (by kernel_rfl) false (fun _ _ _ _ _ => by kernel_rfl)
def F65 (b_0 o_0 : Nat) (c_1 : Nat → AV) (m : Mem) (k : (Nat → AV) → Bool → Mem → Prop) : Prop :=
 newK m ⟨3, c_1, 125, false⟩ fun b2 m1 => newK m1 ⟨4, lget [(.flat (.int .u32 0)), (.flat (.slice none 0 0)), (.flat (.slice none 0 0)), (.flat (.slice none 0 0))], 85, false⟩ fun b4 m3 => ldA m3 b_0 (o_0 + 2) fun v5 => ldG 3 m3 b2 0 fun c6 => mget K125 3 v5 c6 4 (lget [(.flat (.int .u32 0)), (.flat (.slice none 0 0)), (.flat (.slice none 0 0)), (.flat (.slice none 0 0))]) m3 fun c7 x8 => newK m3 ⟨4, lget [(.flat (.int .u32 0)), (.flat (.slice none 0 0)), (.flat (.slice none 0 0)), (.flat (.slice none 0 0))], 85, false⟩ fun b10 m9 => stG 4 m9 b10 0 c7 fun m11 => kif x8 (ldG 3 m11 b2 0 fun c12 => F87 b_0 o_0 c12 m11 fun m13 => ldA m13 b_0 (o_0 + 1) fun v14 => ldG 3 m13 b2 0 fun c15 => newK m13 ⟨3, splice (lget [(.flat (.int .u32 0)), (.flat (.int .i64 0)), (.flat (.int .i64 0))]) 0 3 c15, 125, false⟩ fun b17 m16 => appS 3 24 125 v14 (.sl b17 0 1 (.ex 1)) m16 fun v18 m19 => stV m19 b_0 (o_0 + 1) v18 fun m20 => ldG 4 m20 b10 0 fun c21 => stG 4 m20 b4 0 c21 fun m22 => ldG 4 m22 b4 0 fun c25 => k c25 x8 m22) (ldG 4 m11 b10 0 fun c23 => stG 4 m11 b4 0 c23 fun m24 => ldG 4 m24 b4 0 fun c26 => k c26 x8 m24)
def G65 := Gs [.p, .g 3] [.g 4, .b] F65
def E45 : Env := ext E65 65 G65
theorem S45 (w0 : World) : SP w0 E45 := sg0 (S65 w0) Tryz.func65 Tryz.call65 (by kernel_rfl) false (fun _ _ _ _ _ => by kernel_rfl)
def F45 (b_0 o_0 : Nat) (x_1 : Int) (x_2 : Int) (m : Mem) (k : Bool → Mem → Prop) : Prop :=
 kif (decide (x_2 ≥ 0)) (ldA m b_0 (o_0 + 0) fun v1 => klen v1 fun x2 => kif (decide ((IntKind.wrap .i64 x_1) ≤ x2)) (ldA m b_0 (o_0 + 0) fun v3 => klen v3 fun x4 => (Keeps m m ∧ k (decide (x_2 ≤ (IntKind.wrap .i64 (x4 - (IntKind.wrap .i64 x_1))))) m)) ((Keeps m m ∧ k false m))) ((Keeps m m ∧ k false m))
def G45 := Gs [.p, .i .u32, .i .i64] [.b] F45
def E47 : Env := ext E45 45 G45
theorem S47 (w0 : World) : SP w0 E47 := sg0 (S45 w0) Tryz.func45 Tryz.call45 (by kernel_rfl) true (fun _ _ _ _ _ _ => by kernel_rfl)
def F47 (b_0 o_0 : Nat) (x_1 : Int) (x_2 : Int) (m : Mem) (k : Bool → Mem → Prop) : Prop :=
 kif (x_2 == 1) (kif (decide (IntKind.wrap .u32 x_2 = 0)) False (kif ((x_1.tmod (IntKind.wrap .u32 x_2)) == 0) (F45 b_0 o_0 x_1 x_2 m fun x1 m2 => (Keeps m m2 ∧ k x1 m)) ((Keeps m m ∧ k false m)))) (kif (x_2 == 2) (kif (decide (IntKind.wrap .u32 x_2 = 0)) False (kif ((x_1.tmod (IntKind.wrap .u32 x_2)) == 0) (F45 b_0 o_0 x_1 x_2 m fun x3 m4 => (Keeps m m4 ∧ k x3 m)) ((Keeps m m ∧ k false m)))) (kif (x_2 == 4) (kif (decide (IntKind.wrap .u32 x_2 = 0)) False (kif ((x_1.tmod (IntKind.wrap .u32 x_2)) == 0) (F45 b_0 o_0 x_1 x_2 m fun x5 m6 => (Keeps m m6 ∧ k x5 m)) ((Keeps m m ∧ k false m)))) ((Keeps m m ∧ k false m))))
def G47 := Gs [.p, .i .u32, .i .i64] [.b] F47
def E32 : Env := ext E47 47 G47
theorem S32 (w0 : World) : SP w0 E32 := sg0 (S47 w0) Tryz.func47 Tryz.call47 (by kernel_rfl) true (fun _ _ _ _ _ _ => by kernel_rfl)
def R32_5 (v_25 : AV) (x_26 : Int) (x_8 : Int) (x_27 : Int) (m : Mem) (kn : Int → Int → Mem → Prop) (k0 : Int → Mem → Prop) : Prop :=
 kif (decide (x_27 < x_26)) (ksl v_25 fun b6 o7 l8 p9 => kif (decide (0 ≤ x_27) && decide (x_27 < l8)) (ldI .u8 m b6 (o7 + (x_27).toNat * 1) fun x10 => kn (bits .or .u32 (IntKind.wrap .u32 (x_8 * 256)) (IntKind.wrap .u32 x10)) (IntKind.wrap .i64 (x_27 + 1)) m) False) (k0 x_8 m)
def L32_5 (v_25 : AV) (x_26 : Int) : Nat → Int → Int → Mem → (Int → Mem → Prop) → Prop
 | 0, _, _,  _, _ => bump False
 | N + 1, x_8, x_27,  m, k0 => R32_5 v_25 x_26 x_8 x_27 m (fun x_8' x_27' m' => L32_5 v_25 x_26 N x_8' x_27' m' k0) k0
def F32 (b_0 o_0 : Nat) (x_1 : Int) (x_2 : Int) (m : Mem) (k : Int → Bool → Mem → Prop) : Prop :=
 F47 b_0 o_0 x_1 x_2 m fun x1 m2 => kif (!x1) ((Keeps m m2 ∧ k 0 false m)) (ldA m2 b_0 (o_0 + 0) fun v3 => slS 1 v3 (some x_1) (some (IntKind.wrap .i64 ((IntKind.wrap .i64 x_1) + x_2))) fun v4 => klen v4 fun x5 => ∃ N13, L32_5 v4 x5 N13 0 0 m2 (fun x11 m12 => (Keeps m m12 ∧ k x11 true m)))
def G32 := Gs [.p, .i .u32, .i .i64] [.i .u32, .b] F32
def D32_5 : LpD := ⟨[25, 26], [.a, .i .i64], [8, 27], [.i .u32, .i .i64], [⟨.exit 0, [8], [.i .u32], []⟩], R32_5, L32_5⟩
def Lam32 : LEnv := lamOf [(5, lpK D32_5)] [] [] []
theorem lok32_5 : LoopOK Tryz.prog E32 Lam32 (nthL (bodyOf Tryz.f32) 0) := lp_ok D32_5 (fun _ _ _ => by kernel_rfl) (by kernel_rfl) (fun _ _ _ _ _ _ _ => by kernel_rfl) (fun _ _ _ _ _ _ _ _ => by kernel_rfl) (fun _ _ _ _ _ _ _ => by kernel_rfl)
def E66 : Env := ext E32 32 G32
theorem S66 (w0 : World) : SP w0 E66 := sg (S32 w0) Tryz.func32 Tryz.call32 (Λ := Lam32) 1 ⟨lok32_5, trivial⟩ 0 trivial (by kernel_rfl) true (fun _ _ _ _ _ _ => by kernel_rfl)
def R66_4 (b_1 o_1 : Nat) (b_2 o_2 : Nat) (v_12 : AV) (x_13 : Int) (x_14 : Int) (m : Mem) (kn : Int → Mem → Prop) (k0 : Mem → Prop) (kr : Bool → Mem → Prop) : Prop :=
 kif (decide (x_14 < x_13)) (ksl v_12 fun b5 o6 l7 p8 => kif (decide (0 ≤ x_14) && decide (x_14 < l7)) (ldI .u32 m b5 (o6 + (x_14).toNat * 1) fun x9 => ldI .u32 m b_2 (o_2 + 0) fun x10 => F32 b_1 o_1 (IntKind.wrap .u32 (x10 + (IntKind.wrap .u32 (IntKind.wrap .i64 (4 * x_14))))) 4 m fun x11 x12 m13 => kif (!x12) (kr false m13) (kif (x11 != x9) (kr false m13) (kn (IntKind.wrap .i64 (x_14 + 1)) m13))) False) (k0  m)
def L66_4 (b_1 o_1 : Nat) (b_2 o_2 : Nat) (v_12 : AV) (x_13 : Int) : Nat → Int → Mem → (Mem → Prop) → (Bool → Mem → Prop) → Prop
 | 0, _,  _, _, _ => bump False
 | N + 1, x_14,  m, k0, kr => R66_4 b_1 o_1 b_2 o_2 v_12 x_13 x_14 m (fun x_14' m' => L66_4 b_1 o_1 b_2 o_2 v_12 x_13 N x_14' m' k0 kr) k0 kr
def F66 (c_0 : Nat → AV) (b_1 o_1 : Nat) (m : Mem) (k : Bool → Mem → Prop) : Prop :=
 newK m ⟨4, c_0, 85, false⟩ fun b2 m1 => ldA m1 b2 1 fun v3 => klen v3 fun x4 => ∃ N17, L66_4 b_1 o_1 b2 0 v3 x4 N17 0 m1 (fun m14 => (Keeps m m14 ∧ k true m)) (fun x15 m16 => (Keeps m m16 ∧ k x15 m))
def G66 := Gs [.g 4, .p] [.b] F66
def D66_4 : LpD := ⟨[1, 2, 12, 13], [.p, .p, .a, .i .i64], [14], [.i .i64], [⟨.exit 0, [], [], []⟩, ⟨.ret, [4], [.b], []⟩], R66_4, L66_4⟩
def Lam66 : LEnv := lamOf [(4, lpK D66_4)] [] [] []
theorem lok66_4 : LoopOK Tryz.prog E66 Lam66 (nthL (bodyOf Tryz.f66) 0) := lp_ok D66_4 (fun _ _ _ => by kernel_rfl) (by kernel_rfl) (fun _ _ _ _ _ _ _ _ _ _ => by kernel_rfl) (fun _ _ _ _ _ _ _ _ _ _ _ => by kernel_rfl) (fun _ _ _ _ _ _ _ _ _ _ => by kernel_rfl)
def E67 : Env := ext E66 66 G66
theorem S67 (w0 : World) : SP w0 E67 := sg (S66 w0) Tryz.func66 Tryz.call66 (Λ := Lam66) 1 ⟨lok66_4, trivial⟩ 0 trivial (by kernel_rfl) true (fun _ _ _ _ _ => by kernel_rfl)
def F67 (c_0 : Nat → AV) (m : Mem) (k : Int → Mem → Prop) : Prop :=
 newK m ⟨4, c_0, 85, false⟩ fun b2 m1 => ldI .u32 m1 b2 0 fun x3 => (Keeps m m1 ∧ k (IntKind.wrap .i64 (IntKind.wrap .u32 (x3.tdiv 1024))) m)
def G67 := Gs [.g 4] [.i .i64] F67
def E156 : Env := ext E67 67 G67
theorem S156 (w0 : World) : SP w0 E156 := sg0 (S67 w0) Tryz.func67 Tryz.call67 (by kernel_rfl) true (fun _ _ _ => by kernel_rfl)
def P156_18004 (x_0 : Int) (x_103 : Bool) (m : Mem) (kr : Int → Mem → Prop) (kn : Mem → Prop) : Prop :=
 kif x_103 (kr 19 m) (kif (x_0 == 53) (kr 18 m) (kif (x_0 == 54) (kr 6 m) (kif (x_0 == 55) (kr 6 m) (kn  m))))
def P156_16004 (x_0 : Int) (x_96 : Bool) (m : Mem) (kr : Int → Mem → Prop) (kn : Mem → Prop) : Prop :=
 kif x_96 (kr 32 m) (kif (x_0 == 42) (P156_18004 x_0 true m (fun x1 m2 => kr x1 m2) (fun m3 => kn  m3)) (kif (x_0 == 43) (P156_18004 x_0 true m (fun x4 m5 => kr x4 m5) (fun m6 => kn  m6)) (kif (decide (x_0 ≥ 46)) (kif (decide (x_0 ≤ 52)) (P156_18004 x_0 true m (fun x7 m8 => kr x7 m8) (fun m9 => kn  m9)) (kif (decide (x_0 ≥ 66)) (P156_18004 x_0 (decide (x_0 ≤ 75)) m (fun x10 m11 => kr x10 m11) (fun m12 => kn  m12)) (P156_18004 x_0 false m (fun x13 m14 => kr x13 m14) (fun m15 => kn  m15)))) (kif (decide (x_0 ≥ 66)) (P156_18004 x_0 (decide (x_0 ≤ 75)) m (fun x16 m17 => kr x16 m17) (fun m18 => kn  m18)) (P156_18004 x_0 false m (fun x19 m20 => kr x19 m20) (fun m21 => kn  m21))))))
def P156_14004 (x_0 : Int) (x_81 : Bool) (m : Mem) (kr : Int → Mem → Prop) (kn : Mem → Prop) : Prop :=
 kif x_81 (kr 17 m) (kif (x_0 == 40) (P156_16004 x_0 true m (fun x22 m23 => kr x22 m23) (fun m24 => kn  m24)) (P156_16004 x_0 (x_0 == 41) m (fun x25 m26 => kr x25 m26) (fun m27 => kn  m27)))
def P156_12004 (x_0 : Int) (x_66 : Bool) (m : Mem) (kr : Int → Mem → Prop) (kn : Mem → Prop) : Prop :=
 kif x_66 (kr 3 m) (kif (decide (x_0 ≥ 36)) (kif (decide (x_0 ≤ 39)) (P156_14004 x_0 true m (fun x28 m29 => kr x28 m29) (fun m30 => kn  m30)) (kif (x_0 == 44) (P156_14004 x_0 true m (fun x31 m32 => kr x31 m32) (fun m33 => kn  m33)) (P156_14004 x_0 (x_0 == 45) m (fun x34 m35 => kr x34 m35) (fun m36 => kn  m36)))) (kif (x_0 == 44) (P156_14004 x_0 true m (fun x37 m38 => kr x37 m38) (fun m39 => kn  m39)) (P156_14004 x_0 (x_0 == 45) m (fun x40 m41 => kr x40 m41) (fun m42 => kn  m42))))
def P156_10004 (x_0 : Int) (x_59 : Bool) (m : Mem) (kr : Int → Mem → Prop) (kn : Mem → Prop) : Prop :=
 kif x_59 (kr 4 m) (kif (decide (x_0 ≥ 18)) (kif (decide (x_0 ≤ 21)) (P156_12004 x_0 true m (fun x43 m44 => kr x43 m44) (fun m45 => kn  m45)) (kif (decide (x_0 ≥ 32)) (P156_12004 x_0 (decide (x_0 ≤ 35)) m (fun x46 m47 => kr x46 m47) (fun m48 => kn  m48)) (P156_12004 x_0 false m (fun x49 m50 => kr x49 m50) (fun m51 => kn  m51)))) (kif (decide (x_0 ≥ 32)) (P156_12004 x_0 (decide (x_0 ≤ 35)) m (fun x52 m53 => kr x52 m53) (fun m54 => kn  m54)) (P156_12004 x_0 false m (fun x55 m56 => kr x55 m56) (fun m57 => kn  m57))))
def P156_8004 (x_0 : Int) (x_48 : Bool) (m : Mem) (kr : Int → Mem → Prop) (kn : Mem → Prop) : Prop :=
 kif x_48 (kr 5 m) (kif (x_0 == 14) (P156_10004 x_0 true m (fun x58 m59 => kr x58 m59) (fun m60 => kn  m60)) (P156_10004 x_0 (x_0 == 16) m (fun x61 m62 => kr x61 m62) (fun m63 => kn  m63)))
def P156_6004 (x_0 : Int) (x_37 : Bool) (m : Mem) (kr : Int → Mem → Prop) (kn : Mem → Prop) : Prop :=
 kif x_37 (kr 1 m) (kif (x_0 == 8) (P156_8004 x_0 true m (fun x64 m65 => kr x64 m65) (fun m66 => kn  m66)) (kif (x_0 == 64) (P156_8004 x_0 true m (fun x67 m68 => kr x67 m68) (fun m69 => kn  m69)) (P156_8004 x_0 (x_0 == 65) m (fun x70 m71 => kr x70 m71) (fun m72 => kn  m72))))
def P156_4004 (x_0 : Int) (x_10 : Bool) (m : Mem) (kr : Int → Mem → Prop) (kn : Mem → Prop) : Prop :=
 kif x_10 (kr 7 m) (kif (x_0 == 7) (P156_6004 x_0 true m (fun x73 m74 => kr x73 m74) (fun m75 => kn  m75)) (kif (x_0 == 15) (P156_6004 x_0 true m (fun x76 m77 => kr x76 m77) (fun m78 => kn  m78)) (P156_6004 x_0 (x_0 == 17) m (fun x79 m80 => kr x79 m80) (fun m81 => kn  m81))))
def P156_2004 (x_0 : Int) (x_3 : Bool) (m : Mem) (kr : Int → Mem → Prop) (kn : Mem → Prop) : Prop :=
 kif x_3 (kr 14 m) (kif (decide (x_0 ≥ 4)) (kif (decide (x_0 ≤ 6)) (P156_4004 x_0 true m (fun x82 m83 => kr x82 m83) (fun m84 => kn  m84)) (kif (x_0 == 9) (P156_4004 x_0 true m (fun x85 m86 => kr x85 m86) (fun m87 => kn  m87)) (kif (x_0 == 10) (P156_4004 x_0 true m (fun x88 m89 => kr x88 m89) (fun m90 => kn  m90)) (kif (decide (x_0 ≥ 22)) (kif (decide (x_0 ≤ 31)) (P156_4004 x_0 true m (fun x91 m92 => kr x91 m92) (fun m93 => kn  m93)) (P156_4004 x_0 (x_0 == 63) m (fun x94 m95 => kr x94 m95) (fun m96 => kn  m96))) (P156_4004 x_0 (x_0 == 63) m (fun x97 m98 => kr x97 m98) (fun m99 => kn  m99)))))) (kif (x_0 == 9) (P156_4004 x_0 true m (fun x100 m101 => kr x100 m101) (fun m102 => kn  m102)) (kif (x_0 == 10) (P156_4004 x_0 true m (fun x103 m104 => kr x103 m104) (fun m105 => kn  m105)) (kif (decide (x_0 ≥ 22)) (kif (decide (x_0 ≤ 31)) (P156_4004 x_0 true m (fun x106 m107 => kr x106 m107) (fun m108 => kn  m108)) (P156_4004 x_0 (x_0 == 63) m (fun x109 m110 => kr x109 m110) (fun m111 => kn  m111))) (P156_4004 x_0 (x_0 == 63) m (fun x112 m113 => kr x112 m113) (fun m114 => kn  m114))))))
def F156 (x_0 : Int) (m : Mem) (k : Int → Mem → Prop) : Prop :=
 kif (decide (x_0 ≥ 1)) (P156_2004 x_0 (decide (x_0 ≤ 3)) m (fun x115 m116 => (Keeps m m116 ∧ k x115 m)) (fun m117 => (Keeps m m117 ∧ k 0 m))) (P156_2004 x_0 false m (fun x118 m119 => (Keeps m m119 ∧ k x118 m)) (fun m120 => (Keeps m m120 ∧ k 0 m)))
def G156 := Gs [.i .i64] [.i .i64] F156
def D156_2004 : PcD := ⟨[0, 3], [.i .i64, .b], [⟨.ret, [2], [.i .i64], []⟩, ⟨.normal, [], [], []⟩], P156_2004⟩
def D156_4004 : PcD := ⟨[0, 10], [.i .i64, .b], [⟨.ret, [2], [.i .i64], []⟩, ⟨.normal, [], [], []⟩], P156_4004⟩
def D156_6004 : PcD := ⟨[0, 37], [.i .i64, .b], [⟨.ret, [2], [.i .i64], []⟩, ⟨.normal, [], [], []⟩], P156_6004⟩
def D156_8004 : PcD := ⟨[0, 48], [.i .i64, .b], [⟨.ret, [2], [.i .i64], []⟩, ⟨.normal, [], [], []⟩], P156_8004⟩
def D156_10004 : PcD := ⟨[0, 59], [.i .i64, .b], [⟨.ret, [2], [.i .i64], []⟩, ⟨.normal, [], [], []⟩], P156_10004⟩
def D156_12004 : PcD := ⟨[0, 66], [.i .i64, .b], [⟨.ret, [2], [.i .i64], []⟩, ⟨.normal, [], [], []⟩], P156_12004⟩
def D156_14004 : PcD := ⟨[0, 81], [.i .i64, .b], [⟨.ret, [2], [.i .i64], []⟩, ⟨.normal, [], [], []⟩], P156_14004⟩
def D156_16004 : PcD := ⟨[0, 96], [.i .i64, .b], [⟨.ret, [2], [.i .i64], []⟩, ⟨.normal, [], [], []⟩], P156_16004⟩
def D156_18004 : PcD := ⟨[0, 103], [.i .i64, .b], [⟨.ret, [2], [.i .i64], []⟩, ⟨.normal, [], [], []⟩], P156_18004⟩
def Lam156 : LEnv := lamOf [] [] [2004, 4004, 6004, 8004, 10004, 12004, 14004, 16004, 18004] [(2004, pcK D156_2004), (4004, pcK D156_4004), (6004, pcK D156_6004), (8004, pcK D156_8004), (10004, pcK D156_10004), (12004, pcK D156_12004), (14004, pcK D156_14004), (16004, pcK D156_16004), (18004, pcK D156_18004)]
theorem pok156_18004 : PieceOK Tryz.prog E156 Lam156 (nthP Lam156 (bodyOf Tryz.f156) 8) := pc_ok D156_18004 (fun _ _ _ => by kernel_rfl) (by kernel_rfl) (fun _ _ _ _ => by kernel_rfl)
theorem pok156_16004 : PieceOK Tryz.prog E156 Lam156 (nthP Lam156 (bodyOf Tryz.f156) 7) := pc_ok D156_16004 (fun _ _ _ => by kernel_rfl) (by kernel_rfl) (fun _ _ _ _ => by kernel_rfl)
theorem pok156_14004 : PieceOK Tryz.prog E156 Lam156 (nthP Lam156 (bodyOf Tryz.f156) 6) := pc_ok D156_14004 (fun _ _ _ => by kernel_rfl) (by kernel_rfl) (fun _ _ _ _ => by kernel_rfl)
theorem pok156_12004 : PieceOK Tryz.prog E156 Lam156 (nthP Lam156 (bodyOf Tryz.f156) 5) := pc_ok D156_12004 (fun _ _ _ => by kernel_rfl) (by kernel_rfl) (fun _ _ _ _ => by kernel_rfl)
theorem pok156_10004 : PieceOK Tryz.prog E156 Lam156 (nthP Lam156 (bodyOf Tryz.f156) 4) := pc_ok D156_10004 (fun _ _ _ => by kernel_rfl) (by kernel_rfl) (fun _ _ _ _ => by kernel_rfl)
theorem pok156_8004 : PieceOK Tryz.prog E156 Lam156 (nthP Lam156 (bodyOf Tryz.f156) 3) := pc_ok D156_8004 (fun _ _ _ => by kernel_rfl) (by kernel_rfl) (fun _ _ _ _ => by kernel_rfl)
theorem pok156_6004 : PieceOK Tryz.prog E156 Lam156 (nthP Lam156 (bodyOf Tryz.f156) 2) := pc_ok D156_6004 (fun _ _ _ => by kernel_rfl) (by kernel_rfl) (fun _ _ _ _ => by kernel_rfl)
theorem pok156_4004 : PieceOK Tryz.prog E156 Lam156 (nthP Lam156 (bodyOf Tryz.f156) 1) := pc_ok D156_4004 (fun _ _ _ => by kernel_rfl) (by kernel_rfl) (fun _ _ _ _ => by kernel_rfl)
theorem pok156_2004 : PieceOK Tryz.prog E156 Lam156 (nthP Lam156 (bodyOf Tryz.f156) 0) := pc_ok D156_2004 (fun _ _ _ => by kernel_rfl) (by kernel_rfl) (fun _ _ _ _ => by kernel_rfl)
def E122 : Env := ext E156 156 G156
theorem S122 (w0 : World) : SP w0 E122 := sg (S156 w0) Tryz.func156 Tryz.call156 (Λ := Lam156) 0 trivial 9 ⟨pok156_2004, pok156_4004, pok156_6004, pok156_8004, pok156_10004, pok156_12004, pok156_14004, pok156_16004, pok156_18004, trivial⟩ (by kernel_rfl) true (fun _ _ _ => by kernel_rfl)
def P122_11105 (x_1 : Int) (b_4 o_4 : Nat) (b_5 o_5 : Nat) (x_6 : Int) (m : Mem) (kr : Mem → Prop) : Prop :=
 kif ((bits .and .i64 x_6 16) != 0) (stC m b_5 (o_5 + 5) (.flat (.int .u32 (bits .and .u32 x_1 65535))) fun m12 => ldG 6 m12 b_5 o_5 fun c14 => stG 6 m12 b_4 o_4 c14 fun m15 => kr  m15) (kif ((bits .and .i64 x_6 32) != 0) (stC m b_5 (o_5 + 5) (.flat (.int .u32 (bits .and .u32 x_1 67108863))) fun m13 => ldG 6 m13 b_5 o_5 fun c16 => stG 6 m13 b_4 o_4 c16 fun m17 => kr  m17) (ldG 6 m b_5 o_5 fun c18 => stG 6 m b_4 o_4 c18 fun m19 => kr  m19))
def P122_9103 (x_1 : Int) (b_4 o_4 : Nat) (b_5 o_5 : Nat) (x_6 : Int) (m : Mem) (kr : Mem → Prop) : Prop :=
 kif ((bits .and .i64 x_6 8) != 0) (stC m b_5 (o_5 + 4) (.flat (.int .i64 (IntKind.wrap .i64 (bits .and .u32 (x_1.fdiv 64) 31)))) fun m11 => P122_11105 x_1 b_4 o_4 b_5 o_5 x_6 m11 (fun m20 => kr  m20)) (P122_11105 x_1 b_4 o_4 b_5 o_5 x_6 m (fun m21 => kr  m21))
def P122_7103 (x_1 : Int) (b_4 o_4 : Nat) (b_5 o_5 : Nat) (x_6 : Int) (m : Mem) (kr : Mem → Prop) : Prop :=
 kif ((bits .and .i64 x_6 4) != 0) (stC m b_5 (o_5 + 3) (.flat (.int .i64 (IntKind.wrap .i64 (bits .and .u32 (x_1.fdiv 2048) 31)))) fun m10 => P122_9103 x_1 b_4 o_4 b_5 o_5 x_6 m10 (fun m22 => kr  m22)) (P122_9103 x_1 b_4 o_4 b_5 o_5 x_6 m (fun m23 => kr  m23))
def P122_5103 (x_1 : Int) (b_4 o_4 : Nat) (b_5 o_5 : Nat) (x_6 : Int) (m : Mem) (kr : Mem → Prop) : Prop :=
 kif ((bits .and .i64 x_6 2) != 0) (stC m b_5 (o_5 + 2) (.flat (.int .i64 (IntKind.wrap .i64 (bits .and .u32 (x_1.fdiv 65536) 31)))) fun m9 => P122_7103 x_1 b_4 o_4 b_5 o_5 x_6 m9 (fun m24 => kr  m24)) (P122_7103 x_1 b_4 o_4 b_5 o_5 x_6 m (fun m25 => kr  m25))
def F122 (x_0 : Int) (x_1 : Int) (m : Mem) (k : (Nat → AV) → Mem → Prop) : Prop :=
 newK m ⟨6, Z6, 32, false⟩ fun b2 m1 => newK m1 ⟨6, Z6, 32, false⟩ fun b4 m3 => stG 6 m3 b4 0 (upd (Z6) 0 (.flat (.int .i64 x_0))) fun m5 => F156 x_0 m5 fun x6 m7 => kif ((bits .and .i64 x6 1) != 0) (stC m7 b4 1 (.flat (.int .i64 (IntKind.wrap .i64 (bits .and .u32 (x_1.fdiv 2097152) 31)))) fun m8 => P122_5103 x_1 b2 0 b4 0 x6 m8 (fun m26 => ldG 6 m26 b2 0 fun c28 => (Keeps m m26 ∧ InDomG 6 m c28 ∧ k c28 m))) (P122_5103 x_1 b2 0 b4 0 x6 m7 (fun m27 => ldG 6 m27 b2 0 fun c29 => (Keeps m m27 ∧ InDomG 6 m c29 ∧ k c29 m)))
def G122 := Gs [.i .i64, .i .u32] [.g 6] F122
def D122_5103 : PcD := ⟨[1, 4, 5, 6], [.i .u32, .p, .p, .i .i64], [⟨.ret, [], [], [4]⟩], P122_5103⟩
def D122_7103 : PcD := ⟨[1, 4, 5, 6], [.i .u32, .p, .p, .i .i64], [⟨.ret, [], [], [4]⟩], P122_7103⟩
def D122_9103 : PcD := ⟨[1, 4, 5, 6], [.i .u32, .p, .p, .i .i64], [⟨.ret, [], [], [4]⟩], P122_9103⟩
def D122_11105 : PcD := ⟨[1, 4, 5, 6], [.i .u32, .p, .p, .i .i64], [⟨.ret, [], [], [4]⟩], P122_11105⟩
def Lam122 : LEnv := lamOf [] [] [5103, 7103, 9103, 11105] [(5103, pcK D122_5103), (7103, pcK D122_7103), (9103, pcK D122_9103), (11105, pcK D122_11105)]
theorem pok122_11105 : PieceOK Tryz.prog E122 Lam122 (nthP Lam122 (bodyOf Tryz.f122) 3) := pc_ok D122_11105 (fun _ _ _ => by kernel_rfl) (by kernel_rfl) (fun _ _ _ _ _ _ _ _ => by kernel_rfl)
theorem pok122_9103 : PieceOK Tryz.prog E122 Lam122 (nthP Lam122 (bodyOf Tryz.f122) 2) := pc_ok D122_9103 (fun _ _ _ => by kernel_rfl) (by kernel_rfl) (fun _ _ _ _ _ _ _ _ => by kernel_rfl)
theorem pok122_7103 : PieceOK Tryz.prog E122 Lam122 (nthP Lam122 (bodyOf Tryz.f122) 1) := pc_ok D122_7103 (fun _ _ _ => by kernel_rfl) (by kernel_rfl) (fun _ _ _ _ _ _ _ _ => by kernel_rfl)
theorem pok122_5103 : PieceOK Tryz.prog E122 Lam122 (nthP Lam122 (bodyOf Tryz.f122) 0) := pc_ok D122_5103 (fun _ _ _ => by kernel_rfl) (by kernel_rfl) (fun _ _ _ _ _ _ _ _ => by kernel_rfl)
def E157 : Env := ext E122 122 G122
theorem S157 (w0 : World) : SP w0 E157 := sg (S122 w0) Tryz.func122 Tryz.call122 (Λ := Lam122) 0 trivial 4 ⟨pok122_5103, pok122_7103, pok122_9103, pok122_11105, trivial⟩ (by kernel_rfl) true (fun _ _ _ _ => by kernel_rfl)
def P157_21004 (x_3 : Int) (x_75 : Bool) (m : Mem) (kr : Int → Mem → Prop) (kn : Mem → Prop) : Prop :=
 kif x_75 (kr (IntKind.wrap .i64 ((IntKind.wrap .i64 (30 + x_3)) - 42)) m) (kif (decide (x_3 ≥ 48)) (kif (decide (x_3 ≤ 54)) (kif ((x_3.tmod 2) == 0) (kr (IntKind.wrap .i64 (32 + (IntKind.wrap .i64 ((IntKind.wrap .i64 (x_3 - 48)).tdiv 2)))) m) (kn  m)) (kn  m)) (kn  m))
def P157_19004 (x_3 : Int) (x_65 : Bool) (m : Mem) (kr : Int → Mem → Prop) (kn : Mem → Prop) : Prop :=
 kif x_65 (kr (IntKind.wrap .i64 ((IntKind.wrap .i64 (22 + x_3)) - 32)) m) (kif (x_3 == 42) (P157_21004 x_3 true m (fun x1 m2 => kr x1 m2) (fun m3 => kn  m3)) (P157_21004 x_3 (x_3 == 43) m (fun x4 m5 => kr x4 m5) (fun m6 => kn  m6)))
def P157_17004 (x_3 : Int) (x_55 : Bool) (m : Mem) (kr : Int → Mem → Prop) (kn : Mem → Prop) : Prop :=
 kif x_55 (kr (IntKind.wrap .i64 ((IntKind.wrap .i64 (18 + x_3)) - 24)) m) (kif (decide (x_3 ≥ 32)) (P157_19004 x_3 (decide (x_3 ≤ 39)) m (fun x7 m8 => kr x7 m8) (fun m9 => kn  m9)) (P157_19004 x_3 false m (fun x10 m11 => kr x10 m11) (fun m12 => kn  m12)))
def P157_15004 (x_3 : Int) (x_45 : Bool) (m : Mem) (kr : Int → Mem → Prop) (kn : Mem → Prop) : Prop :=
 kif x_45 (kr (IntKind.wrap .i64 ((IntKind.wrap .i64 (14 + x_3)) - 16)) m) (kif (decide (x_3 ≥ 24)) (P157_17004 x_3 (decide (x_3 ≤ 27)) m (fun x13 m14 => kr x13 m14) (fun m15 => kn  m15)) (P157_17004 x_3 false m (fun x16 m17 => kr x16 m17) (fun m18 => kn  m18)))
def P157_11004 (x_3 : Int) (x_32 : Bool) (m : Mem) (kr : Int → Mem → Prop) (kn : Mem → Prop) : Prop :=
 kif x_32 (kr (IntKind.wrap .i64 ((IntKind.wrap .i64 (7 + x_3)) - 8)) m) (kif (x_3 == 15) (kr 13 m) (kif (decide (x_3 ≥ 16)) (P157_15004 x_3 (decide (x_3 ≤ 19)) m (fun x19 m20 => kr x19 m20) (fun m21 => kn  m21)) (P157_15004 x_3 false m (fun x22 m23 => kr x22 m23) (fun m24 => kn  m24))))
def P157_9004 (x_3 : Int) (x_22 : Bool) (m : Mem) (kr : Int → Mem → Prop) (kn : Mem → Prop) : Prop :=
 kif x_22 (kr (IntKind.wrap .i64 ((IntKind.wrap .i64 (5 + x_3)) - 6)) m) (kif (decide (x_3 ≥ 8)) (P157_11004 x_3 (decide (x_3 ≤ 13)) m (fun x25 m26 => kr x25 m26) (fun m27 => kn  m27)) (P157_11004 x_3 false m (fun x28 m29 => kr x28 m29) (fun m30 => kn  m30)))
def P157_5004 (x_3 : Int) (x_9 : Bool) (m : Mem) (kr : Int → Mem → Prop) (kn : Mem → Prop) : Prop :=
 kif x_9 (kr (IntKind.wrap .i64 ((IntKind.wrap .i64 (2 + x_3)) - 2)) m) (kif (x_3 == 4) (kr 4 m) (kif (x_3 == 6) (P157_9004 x_3 true m (fun x31 m32 => kr x31 m32) (fun m33 => kn  m33)) (P157_9004 x_3 (x_3 == 7) m (fun x34 m35 => kr x34 m35) (fun m36 => kn  m36))))
def F157 (x_0 : Int) (m : Mem) (k : Int → Mem → Prop) : Prop :=
 kif ((IntKind.wrap .i64 x_0) == 0) ((Keeps m m ∧ k 1 m)) (kif ((IntKind.wrap .i64 x_0) == 2) (P157_5004 (IntKind.wrap .i64 x_0) true m (fun x37 m38 => (Keeps m m38 ∧ k x37 m)) (fun m39 => (Keeps m m39 ∧ k 0 m))) (P157_5004 (IntKind.wrap .i64 x_0) ((IntKind.wrap .i64 x_0) == 3) m (fun x40 m41 => (Keeps m m41 ∧ k x40 m)) (fun m42 => (Keeps m m42 ∧ k 0 m))))
def G157 := Gs [.i .u32] [.i .i64] F157
def D157_5004 : PcD := ⟨[3, 9], [.i .i64, .b], [⟨.ret, [2], [.i .i64], []⟩, ⟨.normal, [], [], []⟩], P157_5004⟩
def D157_9004 : PcD := ⟨[3, 22], [.i .i64, .b], [⟨.ret, [2], [.i .i64], []⟩, ⟨.normal, [], [], []⟩], P157_9004⟩
def D157_11004 : PcD := ⟨[3, 32], [.i .i64, .b], [⟨.ret, [2], [.i .i64], []⟩, ⟨.normal, [], [], []⟩], P157_11004⟩
def D157_15004 : PcD := ⟨[3, 45], [.i .i64, .b], [⟨.ret, [2], [.i .i64], []⟩, ⟨.normal, [], [], []⟩], P157_15004⟩
def D157_17004 : PcD := ⟨[3, 55], [.i .i64, .b], [⟨.ret, [2], [.i .i64], []⟩, ⟨.normal, [], [], []⟩], P157_17004⟩
def D157_19004 : PcD := ⟨[3, 65], [.i .i64, .b], [⟨.ret, [2], [.i .i64], []⟩, ⟨.normal, [], [], []⟩], P157_19004⟩
def D157_21004 : PcD := ⟨[3, 75], [.i .i64, .b], [⟨.ret, [2], [.i .i64], []⟩, ⟨.normal, [], [], []⟩], P157_21004⟩
def Lam157 : LEnv := lamOf [] [] [5004, 9004, 11004, 15004, 17004, 19004, 21004] [(5004, pcK D157_5004), (9004, pcK D157_9004), (11004, pcK D157_11004), (15004, pcK D157_15004), (17004, pcK D157_17004), (19004, pcK D157_19004), (21004, pcK D157_21004)]
theorem pok157_21004 : PieceOK Tryz.prog E157 Lam157 (nthP Lam157 (bodyOf Tryz.f157) 6) := pc_ok D157_21004 (fun _ _ _ => by kernel_rfl) (by kernel_rfl) (fun _ _ _ _ => by kernel_rfl)
theorem pok157_19004 : PieceOK Tryz.prog E157 Lam157 (nthP Lam157 (bodyOf Tryz.f157) 5) := pc_ok D157_19004 (fun _ _ _ => by kernel_rfl) (by kernel_rfl) (fun _ _ _ _ => by kernel_rfl)
theorem pok157_17004 : PieceOK Tryz.prog E157 Lam157 (nthP Lam157 (bodyOf Tryz.f157) 4) := pc_ok D157_17004 (fun _ _ _ => by kernel_rfl) (by kernel_rfl) (fun _ _ _ _ => by kernel_rfl)
theorem pok157_15004 : PieceOK Tryz.prog E157 Lam157 (nthP Lam157 (bodyOf Tryz.f157) 3) := pc_ok D157_15004 (fun _ _ _ => by kernel_rfl) (by kernel_rfl) (fun _ _ _ _ => by kernel_rfl)
theorem pok157_11004 : PieceOK Tryz.prog E157 Lam157 (nthP Lam157 (bodyOf Tryz.f157) 2) := pc_ok D157_11004 (fun _ _ _ => by kernel_rfl) (by kernel_rfl) (fun _ _ _ _ => by kernel_rfl)
theorem pok157_9004 : PieceOK Tryz.prog E157 Lam157 (nthP Lam157 (bodyOf Tryz.f157) 1) := pc_ok D157_9004 (fun _ _ _ => by kernel_rfl) (by kernel_rfl) (fun _ _ _ _ => by kernel_rfl)
theorem pok157_5004 : PieceOK Tryz.prog E157 Lam157 (nthP Lam157 (bodyOf Tryz.f157) 0) := pc_ok D157_5004 (fun _ _ _ => by kernel_rfl) (by kernel_rfl) (fun _ _ _ _ => by kernel_rfl)
def E158 : Env := ext E157 157 G157
theorem S158 (w0 : World) : SP w0 E158 := sg (S157 w0) Tryz.func157 Tryz.call157 (Λ := Lam157) 0 trivial 7 ⟨pok157_5004, pok157_9004, pok157_11004, pok157_15004, pok157_17004, pok157_19004, pok157_21004, trivial⟩ (by kernel_rfl) true (fun _ _ _ => by kernel_rfl)
def P158_4004 (x_0 : Int) (x_3 : Int) (x_4 : Bool) (m : Mem) (kr : Int → Mem → Prop) (kn : Mem → Prop) : Prop :=
 kif x_4 (kr (IntKind.wrap .i64 (36 + (IntKind.wrap .i64 x_0))) m) (kif (x_3 == 16) (kif (x_3 == 16) (kr (IntKind.wrap .i64 ((IntKind.wrap .i64 (38 + (IntKind.wrap .i64 x_0))) - 16)) m) (kn  m)) (kif (x_3 == 17) (kr (IntKind.wrap .i64 ((IntKind.wrap .i64 (38 + (IntKind.wrap .i64 x_0))) - 16)) m) (kn  m)))
def F158 (x_0 : Int) (m : Mem) (k : Int → Mem → Prop) : Prop :=
 kif (x_0 == 0) (P158_4004 x_0 x_0 (x_0 == 0) m (fun x1 m2 => (Keeps m m2 ∧ k x1 m)) (fun m3 => (Keeps m m3 ∧ k 0 m))) (P158_4004 x_0 x_0 (x_0 == 1) m (fun x4 m5 => (Keeps m m5 ∧ k x4 m)) (fun m6 => (Keeps m m6 ∧ k 0 m)))
def G158 := Gs [.i .u32] [.i .i64] F158
def D158_4004 : PcD := ⟨[0, 3, 4], [.i .u32, .i .u32, .b], [⟨.ret, [2], [.i .i64], []⟩, ⟨.normal, [], [], []⟩], P158_4004⟩
def Lam158 : LEnv := lamOf [] [] [4004] [(4004, pcK D158_4004)]
theorem pok158_4004 : PieceOK Tryz.prog E158 Lam158 (nthP Lam158 (bodyOf Tryz.f158) 0) := pc_ok D158_4004 (fun _ _ _ => by kernel_rfl) (by kernel_rfl) (fun _ _ _ _ _ => by kernel_rfl)
def E196 : Env := ext E158 158 G158
theorem S196 (w0 : World) : SP w0 E196 := sg (S158 w0) Tryz.func158 Tryz.call158 (Λ := Lam158) 0 trivial 1 ⟨pok158_4004, trivial⟩ (by kernel_rfl) true (fun _ _ _ => by kernel_rfl)
def F196 (x_0 : Int) (m : Mem) (k : Int → Mem → Prop) : Prop :=
 kif (x_0 == 1) ((Keeps m m ∧ k 56 m)) (kif (x_0 == 2) ((Keeps m m ∧ k 57 m)) (kif (x_0 == 6) ((Keeps m m ∧ k 58 m)) (kif (x_0 == 8) ((Keeps m m ∧ k 59 m)) (kif (x_0 == 24) ((Keeps m m ∧ k 60 m)) (kif (x_0 == 32) ((Keeps m m ∧ k 61 m)) ((Keeps m m ∧ k 0 m)))))))
def G196 := Gs [.i .u32] [.i .i64] F196
def E159 : Env := ext E196 196 G196
theorem S159 (w0 : World) : SP w0 E159 := sg0 (S196 w0) Tryz.func196 Tryz.call196 (by kernel_rfl) true (fun _ _ _ => by kernel_rfl)
def F159 (x_0 : Int) (m : Mem) (k : Int → Mem → Prop) : Prop :=
 kif ((bits .and .u32 (x_0.fdiv 2097152) 31) == 0) ((Keeps m m ∧ k 54 m)) (kif ((bits .and .u32 (x_0.fdiv 2097152) 31) == 4) ((Keeps m m ∧ k 55 m)) (kif ((bits .and .u32 (x_0.fdiv 2097152) 31) == 16) (F196 (bits .and .u32 x_0 63) m fun x1 m2 => (Keeps m m2 ∧ k x1 m)) ((Keeps m m ∧ k 0 m))))
def G159 := Gs [.i .u32] [.i .i64] F159
def E160 : Env := ext E159 159 G159
theorem S160 (w0 : World) : SP w0 E160 := sg0 (S159 w0) Tryz.func159 Tryz.call159 (by kernel_rfl) true (fun _ _ _ => by kernel_rfl)
def F160 (x_0 : Int) (m : Mem) (k : Int → Mem → Prop) : Prop :=
 kif (x_0 == 2) ((Keeps m m ∧ k 63 m)) (kif (x_0 == 32) (kif (x_0 == 32) ((Keeps m m ∧ k (IntKind.wrap .i64 ((IntKind.wrap .i64 (64 + (IntKind.wrap .i64 x_0))) - 32)) m)) ((Keeps m m ∧ k 0 m))) (kif (x_0 == 33) ((Keeps m m ∧ k (IntKind.wrap .i64 ((IntKind.wrap .i64 (64 + (IntKind.wrap .i64 x_0))) - 32)) m)) ((Keeps m m ∧ k 0 m))))
def G160 := Gs [.i .u32] [.i .i64] F160
def E161 : Env := ext E160 160 G160
theorem S161 (w0 : World) : SP w0 E161 := sg0 (S160 w0) Tryz.func160 Tryz.call160 (by kernel_rfl) true (fun _ _ _ => by kernel_rfl)
def P161_13004 (x_3 : Int) (x_49 : Bool) (m : Mem) (kr : Int → Mem → Prop) (kn : Mem → Prop) : Prop :=
 kif x_49 (kr (IntKind.wrap .i64 ((IntKind.wrap .i64 (71 + x_3)) - 40)) m) (kif (x_3 == 43) (kr 73 m) (kif (x_3 == 47) (kr 76 m) (kif (x_3 == 48) (kr 74 m) (kif (x_3 == 51) (kr 77 m) (kif (x_3 == 56) (kr 75 m) (kn  m))))))
def P161_11004 (x_3 : Int) (x_39 : Bool) (m : Mem) (kr : Int → Mem → Prop) (kn : Mem → Prop) : Prop :=
 kif x_39 (kr (IntKind.wrap .i64 ((IntKind.wrap .i64 (68 + x_3)) - 35)) m) (kif (x_3 == 40) (P161_13004 x_3 true m (fun x1 m2 => kr x1 m2) (fun m3 => kn  m3)) (P161_13004 x_3 (x_3 == 41) m (fun x4 m5 => kr x4 m5) (fun m6 => kn  m6)))
def P161_9004 (x_3 : Int) (x_29 : Bool) (m : Mem) (kr : Int → Mem → Prop) (kn : Mem → Prop) : Prop :=
 kif x_29 (kr (IntKind.wrap .i64 ((IntKind.wrap .i64 (66 + x_3)) - 32)) m) (kif (decide (x_3 ≥ 35)) (P161_11004 x_3 (decide (x_3 ≤ 37)) m (fun x7 m8 => kr x7 m8) (fun m9 => kn  m9)) (P161_11004 x_3 false m (fun x10 m11 => kr x10 m11) (fun m12 => kn  m12)))
def P161_5004 (x_3 : Int) (x_16 : Bool) (m : Mem) (kr : Int → Mem → Prop) (kn : Mem → Prop) : Prop :=
 kif x_16 (kr (IntKind.wrap .i64 ((IntKind.wrap .i64 (46 + x_3)) - 8)) m) (kif (x_3 == 17) (kr 62 m) (kif (x_3 == 32) (P161_9004 x_3 true m (fun x13 m14 => kr x13 m14) (fun m15 => kn  m15)) (P161_9004 x_3 (x_3 == 33) m (fun x16 m17 => kr x16 m17) (fun m18 => kn  m18))))
def P161_3004 (x_3 : Int) (x_6 : Bool) (m : Mem) (kr : Int → Mem → Prop) (kn : Mem → Prop) : Prop :=
 kif x_6 (kr (IntKind.wrap .i64 ((IntKind.wrap .i64 (40 + x_3)) - 2)) m) (kif (decide (x_3 ≥ 8)) (P161_5004 x_3 (decide (x_3 ≤ 15)) m (fun x19 m20 => kr x19 m20) (fun m21 => kn  m21)) (P161_5004 x_3 false m (fun x22 m23 => kr x22 m23) (fun m24 => kn  m24)))
def F161 (x_0 : Int) (m : Mem) (k : Int → Mem → Prop) : Prop :=
 kif (decide ((IntKind.wrap .i64 x_0) ≥ 2)) (P161_3004 (IntKind.wrap .i64 x_0) (decide ((IntKind.wrap .i64 x_0) ≤ 7)) m (fun x25 m26 => (Keeps m m26 ∧ k x25 m)) (fun m27 => (Keeps m m27 ∧ k 0 m))) (P161_3004 (IntKind.wrap .i64 x_0) false m (fun x28 m29 => (Keeps m m29 ∧ k x28 m)) (fun m30 => (Keeps m m30 ∧ k 0 m)))
def G161 := Gs [.i .u32] [.i .i64] F161
def D161_3004 : PcD := ⟨[3, 6], [.i .i64, .b], [⟨.ret, [2], [.i .i64], []⟩, ⟨.normal, [], [], []⟩], P161_3004⟩
def D161_5004 : PcD := ⟨[3, 16], [.i .i64, .b], [⟨.ret, [2], [.i .i64], []⟩, ⟨.normal, [], [], []⟩], P161_5004⟩
def D161_9004 : PcD := ⟨[3, 29], [.i .i64, .b], [⟨.ret, [2], [.i .i64], []⟩, ⟨.normal, [], [], []⟩], P161_9004⟩
def D161_11004 : PcD := ⟨[3, 39], [.i .i64, .b], [⟨.ret, [2], [.i .i64], []⟩, ⟨.normal, [], [], []⟩], P161_11004⟩
def D161_13004 : PcD := ⟨[3, 49], [.i .i64, .b], [⟨.ret, [2], [.i .i64], []⟩, ⟨.normal, [], [], []⟩], P161_13004⟩
def Lam161 : LEnv := lamOf [] [] [3004, 5004, 9004, 11004, 13004] [(3004, pcK D161_3004), (5004, pcK D161_5004), (9004, pcK D161_9004), (11004, pcK D161_11004), (13004, pcK D161_13004)]
theorem pok161_13004 : PieceOK Tryz.prog E161 Lam161 (nthP Lam161 (bodyOf Tryz.f161) 4) := pc_ok D161_13004 (fun _ _ _ => by kernel_rfl) (by kernel_rfl) (fun _ _ _ _ => by kernel_rfl)
theorem pok161_11004 : PieceOK Tryz.prog E161 Lam161 (nthP Lam161 (bodyOf Tryz.f161) 3) := pc_ok D161_11004 (fun _ _ _ => by kernel_rfl) (by kernel_rfl) (fun _ _ _ _ => by kernel_rfl)
theorem pok161_9004 : PieceOK Tryz.prog E161 Lam161 (nthP Lam161 (bodyOf Tryz.f161) 2) := pc_ok D161_9004 (fun _ _ _ => by kernel_rfl) (by kernel_rfl) (fun _ _ _ _ => by kernel_rfl)
theorem pok161_5004 : PieceOK Tryz.prog E161 Lam161 (nthP Lam161 (bodyOf Tryz.f161) 1) := pc_ok D161_5004 (fun _ _ _ => by kernel_rfl) (by kernel_rfl) (fun _ _ _ _ => by kernel_rfl)
theorem pok161_3004 : PieceOK Tryz.prog E161 Lam161 (nthP Lam161 (bodyOf Tryz.f161) 0) := pc_ok D161_3004 (fun _ _ _ => by kernel_rfl) (by kernel_rfl) (fun _ _ _ _ => by kernel_rfl)
def E123 : Env := ext E161 161 G161
theorem S123 (w0 : World) : SP w0 E123 := sg (S161 w0) Tryz.func161 Tryz.call161 (Λ := Lam161) 0 trivial 5 ⟨pok161_3004, pok161_5004, pok161_9004, pok161_11004, pok161_13004, trivial⟩ (by kernel_rfl) true (fun _ _ _ => by kernel_rfl)
def F123 (x_0 : Int) (m : Mem) (k : Int → Mem → Prop) : Prop :=
 kif ((x_0.fdiv 67108864) == 0) (F157 (bits .and .u32 x_0 63) m fun x1 m2 => (Keeps m m2 ∧ k x1 m)) (kif ((x_0.fdiv 67108864) == 1) (F158 (bits .and .u32 (x_0.fdiv 65536) 31) m fun x3 m4 => (Keeps m m4 ∧ k x3 m)) (kif ((x_0.fdiv 67108864) == 16) (F159 x_0 m fun x5 m6 => (Keeps m m6 ∧ k x5 m)) (kif ((x_0.fdiv 67108864) == 28) (F160 (bits .and .u32 x_0 63) m fun x7 m8 => (Keeps m m8 ∧ k x7 m)) (F161 (x_0.fdiv 67108864) m fun x9 m10 => (Keeps m m10 ∧ k x9 m)))))
def G123 := Gs [.i .u32] [.i .i64] F123
def E93 : Env := ext E123 123 G123
theorem S93 (w0 : World) : SP w0 E93 := sg0 (S123 w0) Tryz.func123 Tryz.call123 (by kernel_rfl) true (fun _ _ _ => by kernel_rfl)
def F93 (x_0 : Int) (m : Mem) (k : (Nat → AV) → Mem → Prop) : Prop :=
 newK m ⟨6, Z6, 32, false⟩ fun b2 m1 => F123 x_0 m1 fun x3 m4 => F122 x3 x_0 m4 fun c5 m6 => stG 6 m6 b2 0 c5 fun m7 => ldG 6 m7 b2 0 fun c8 => (Keeps m m7 ∧ InDomG 6 m c8 ∧ k c8 m)
def G93 := Gs [.i .u32] [.g 6] F93
def E94 : Env := ext E93 93 G93
theorem S94 (w0 : World) : SP w0 E94 := sg0 (S93 w0) Tryz.func93 Tryz.call93 (by kernel_rfl) true (fun _ _ _ => by kernel_rfl)
def P94_9004 (x_3 : Int) (x_55 : Bool) (m : Mem) (kr : Int → Mem → Prop) (kn : Mem → Prop) : Prop :=
 kif x_55 (kr 5 m) (kif (x_3 == 22) (kr 2 m) (kif (x_3 == 24) (kr 2 m) (kif (x_3 == 46) (kr 2 m) (kif (decide (x_3 ≥ 32)) (kif (decide (x_3 ≤ 35)) (kr 2 m) (kn  m)) (kn  m)))))
def P94_7004 (x_3 : Int) (x_44 : Bool) (m : Mem) (kr : Int → Mem → Prop) (kn : Mem → Prop) : Prop :=
 kif x_44 (kr 4 m) (kif (decide (x_3 ≥ 71)) (kif (decide (x_3 ≤ 73)) (P94_9004 x_3 true m (fun x4 m5 => kr x4 m5) (fun m6 => kn  m6)) (P94_9004 x_3 (x_3 == 75) m (fun x7 m8 => kr x7 m8) (fun m9 => kn  m9))) (P94_9004 x_3 (x_3 == 75) m (fun x10 m11 => kr x10 m11) (fun m12 => kn  m12)))
def P94_5004 (x_3 : Int) (x_29 : Bool) (m : Mem) (kr : Int → Mem → Prop) (kn : Mem → Prop) : Prop :=
 kif x_29 (kr 3 m) (kif (decide (x_3 ≥ 66)) (kif (decide (x_3 ≤ 70)) (P94_7004 x_3 true m (fun x13 m14 => kr x13 m14) (fun m15 => kn  m15)) (P94_7004 x_3 (x_3 == 74) m (fun x16 m17 => kr x16 m17) (fun m18 => kn  m18))) (P94_7004 x_3 (x_3 == 74) m (fun x19 m20 => kr x19 m20) (fun m21 => kn  m21)))
def P94_3004 (x_3 : Int) (x_6 : Bool) (m : Mem) (kr : Int → Mem → Prop) (kn : Mem → Prop) : Prop :=
 kif x_6 (kr 6 m) (kif (x_3 == 7) (P94_5004 x_3 true m (fun x22 m23 => kr x22 m23) (fun m24 => kn  m24)) (kif (x_3 == 8) (P94_5004 x_3 true m (fun x25 m26 => kr x25 m26) (fun m27 => kn  m27)) (kif (decide (x_3 ≥ 36)) (P94_5004 x_3 (decide (x_3 ≤ 45)) m (fun x28 m29 => kr x28 m29) (fun m30 => kn  m30)) (P94_5004 x_3 false m (fun x31 m32 => kr x31 m32) (fun m33 => kn  m33)))))
def F94 (c_0 : Nat → AV) (m : Mem) (k : Int → Mem → Prop) : Prop :=
 newK m ⟨6, c_0, 32, false⟩ fun b2 m1 => ldI .i64 m1 b2 0 fun x3 => kif (decide (x3 ≤ 0)) (P94_3004 x3 true m1 (fun x34 m35 => (Keeps m m35 ∧ k x34 m)) (fun m36 => (Keeps m m36 ∧ k 1 m))) (kif (decide (x3 ≥ 78)) (P94_3004 x3 true m1 (fun x37 m38 => (Keeps m m38 ∧ k x37 m)) (fun m39 => (Keeps m m39 ∧ k 1 m))) (kif (x3 == 11) (P94_3004 x3 true m1 (fun x40 m41 => (Keeps m m41 ∧ k x40 m)) (fun m42 => (Keeps m m42 ∧ k 1 m))) (kif (x3 == 12) (P94_3004 x3 true m1 (fun x43 m44 => (Keeps m m44 ∧ k x43 m)) (fun m45 => (Keeps m m45 ∧ k 1 m))) (kif (decide (x3 ≥ 54)) (P94_3004 x3 (decide (x3 ≤ 62)) m1 (fun x46 m47 => (Keeps m m47 ∧ k x46 m)) (fun m48 => (Keeps m m48 ∧ k 1 m))) (P94_3004 x3 false m1 (fun x49 m50 => (Keeps m m50 ∧ k x49 m)) (fun m51 => (Keeps m m51 ∧ k 1 m)))))))
def G94 := Gs [.g 6] [.i .i64] F94
def D94_3004 : PcD := ⟨[3, 6], [.i .i64, .b], [⟨.ret, [2], [.i .i64], []⟩, ⟨.normal, [], [], []⟩], P94_3004⟩
def D94_5004 : PcD := ⟨[3, 29], [.i .i64, .b], [⟨.ret, [2], [.i .i64], []⟩, ⟨.normal, [], [], []⟩], P94_5004⟩
def D94_7004 : PcD := ⟨[3, 44], [.i .i64, .b], [⟨.ret, [2], [.i .i64], []⟩, ⟨.normal, [], [], []⟩], P94_7004⟩
def D94_9004 : PcD := ⟨[3, 55], [.i .i64, .b], [⟨.ret, [2], [.i .i64], []⟩, ⟨.normal, [], [], []⟩], P94_9004⟩
def Lam94 : LEnv := lamOf [] [] [3004, 5004, 7004, 9004] [(3004, pcK D94_3004), (5004, pcK D94_5004), (7004, pcK D94_7004), (9004, pcK D94_9004)]
theorem pok94_9004 : PieceOK Tryz.prog E94 Lam94 (nthP Lam94 (bodyOf Tryz.f94) 3) := pc_ok D94_9004 (fun _ _ _ => by kernel_rfl) (by kernel_rfl) (fun _ _ _ _ => by kernel_rfl)
theorem pok94_7004 : PieceOK Tryz.prog E94 Lam94 (nthP Lam94 (bodyOf Tryz.f94) 2) := pc_ok D94_7004 (fun _ _ _ => by kernel_rfl) (by kernel_rfl) (fun _ _ _ _ => by kernel_rfl)
theorem pok94_5004 : PieceOK Tryz.prog E94 Lam94 (nthP Lam94 (bodyOf Tryz.f94) 1) := pc_ok D94_5004 (fun _ _ _ => by kernel_rfl) (by kernel_rfl) (fun _ _ _ _ => by kernel_rfl)
theorem pok94_3004 : PieceOK Tryz.prog E94 Lam94 (nthP Lam94 (bodyOf Tryz.f94) 0) := pc_ok D94_3004 (fun _ _ _ => by kernel_rfl) (by kernel_rfl) (fun _ _ _ _ => by kernel_rfl)
def E169 : Env := ext E94 94 G94
theorem S169 (w0 : World) : SP w0 E169 := sg (S94 w0) Tryz.func94 Tryz.call94 (Λ := Lam94) 0 trivial 4 ⟨pok94_3004, pok94_5004, pok94_7004, pok94_9004, trivial⟩ (by kernel_rfl) true (fun _ _ _ => by kernel_rfl)
def R169_2 (b_1 o_1 : Nat) (v_11 : AV) (x_12 : Int) (x_13 : Int) (m : Mem) (kn : Int → Mem → Prop) (k0 : Mem → Prop) (kr : Bool → Mem → Prop) : Prop :=
 kif (decide (x_13 < x_12)) (ksl v_11 fun b8 o9 l10 p11 => kif (decide (0 ≤ x_13) && decide (x_13 < l10)) (ldI .i64 m b8 (o9 + (x_13).toNat * 1) fun x12 => kif (decide (x12 < 0)) (kr false m) (kif (decide (x12 ≥ 40)) (kr false m) (kn (IntKind.wrap .i64 (x_13 + 1)) m))) False) (k0  m)
def L169_2 (b_1 o_1 : Nat) (v_11 : AV) (x_12 : Int) : Nat → Int → Mem → (Mem → Prop) → (Bool → Mem → Prop) → Prop
 | 0, _,  _, _, _ => bump False
 | N + 1, x_13,  m, k0, kr => R169_2 b_1 o_1 v_11 x_12 x_13 m (fun x_13' m' => L169_2 b_1 o_1 v_11 x_12 N x_13' m' k0 kr) k0 kr
def F169 (c_0 : Nat → AV) (m : Mem) (k : Bool → Mem → Prop) : Prop :=
 newK m ⟨5, c_0, 224, false⟩ fun b2 m1 => ldI .i64 m1 b2 1 fun x3 => ldI .i64 m1 b2 2 fun x4 => ldI .i64 m1 b2 3 fun x5 => newK m1 ⟨3, upd (upd (upd (lget [(.flat (.int .i64 0)), (.flat (.int .i64 0)), (.flat (.int .i64 0))]) 0 (.flat (.int .i64 x3))) 1 (.flat (.int .i64 x4))) 2 (.flat (.int .i64 x5)), 3, false⟩ fun b7 m6 => ∃ N16, L169_2 b2 0 (.sl b7 0 3 (.ex 3)) 3 N16 0 m6 (fun m13 => ldI .i64 m13 b2 0 fun x17 => kif (decide (x17 ≥ 0)) (ldI .i64 m13 b2 0 fun x18 => (Keeps m m13 ∧ k (decide (x18 ≤ 22)) m)) ((Keeps m m13 ∧ k false m))) (fun x14 m15 => (Keeps m m15 ∧ k x14 m))
def G169 := Gs [.g 5] [.b] F169
def D169_2 : LpD := ⟨[1, 11, 12], [.p, .a, .i .i64], [13], [.i .i64], [⟨.exit 0, [], [], [1]⟩, ⟨.ret, [2], [.b], []⟩], R169_2, L169_2⟩
def Lam169 : LEnv := lamOf [(2, lpK D169_2)] [] [] []
theorem lok169_2 : LoopOK Tryz.prog E169 Lam169 (nthL (bodyOf Tryz.f169) 0) := lp_ok D169_2 (fun _ _ _ => by kernel_rfl) (by kernel_rfl) (fun _ _ _ _ _ _ _ _ => by kernel_rfl) (fun _ _ _ _ _ _ _ _ _ => by kernel_rfl) (fun _ _ _ _ _ _ _ _ => by kernel_rfl)
def E197 : Env := ext E169 169 G169
theorem S197 (w0 : World) : SP w0 E197 := sg (S169 w0) Tryz.func169 Tryz.call169 (Λ := Lam169) 1 ⟨lok169_2, trivial⟩ 0 trivial (by kernel_rfl) true (fun _ _ _ => by kernel_rfl)
def R197_2 (v_5 : AV) (x_6 : Int) (x_7 : Int) (m : Mem) (kn : Int → Mem → Prop) (k0 : Mem → Prop) (kr : Bool → Mem → Prop) : Prop :=
 kif (decide (x_7 < x_6)) (ksl v_5 fun b2 o3 l4 p5 => kif (decide (0 ≤ x_7) && decide (x_7 < l4)) (ldG 5 m b2 (o3 + (x_7).toNat * 5) fun c6 => newK m ⟨5, lget [(.flat (.int .i64 0)), (.flat (.int .i64 0)), (.flat (.int .i64 0)), (.flat (.int .i64 0)), (.flat (.int .u32 0))], 224, false⟩ fun b8 m7 => stG 5 m7 b8 0 c6 fun m9 => ldG 5 m9 b8 0 fun c10 => F169 c10 m9 fun x11 m12 => kif (!x11) (kr false m12) (kn (IntKind.wrap .i64 (x_7 + 1)) m12)) False) (k0  m)
def L197_2 (v_5 : AV) (x_6 : Int) : Nat → Int → Mem → (Mem → Prop) → (Bool → Mem → Prop) → Prop
 | 0, _,  _, _, _ => bump False
 | N + 1, x_7,  m, k0, kr => R197_2 v_5 x_6 x_7 m (fun x_7' m' => L197_2 v_5 x_6 N x_7' m' k0 kr) k0 kr
def F197 (v_0 : AV) (m : Mem) (k : Bool → Mem → Prop) : Prop :=
 klen v_0 fun x1 => ∃ N16, L197_2 v_0 x1 N16 0 m (fun m13 => (Keeps m m13 ∧ k true m)) (fun x14 m15 => (Keeps m m15 ∧ k x14 m))
def G197 := Gs [.a] [.b] F197
def D197_2 : LpD := ⟨[5, 6], [.a, .i .i64], [7], [.i .i64], [⟨.exit 0, [], [], []⟩, ⟨.ret, [2], [.b], []⟩], R197_2, L197_2⟩
def Lam197 : LEnv := lamOf [(2, lpK D197_2)] [] [] []
theorem lok197_2 : LoopOK Tryz.prog E197 Lam197 (nthL (bodyOf Tryz.f197) 0) := lp_ok D197_2 (fun _ _ _ => by kernel_rfl) (by kernel_rfl) (fun _ _ _ _ _ _ => by kernel_rfl) (fun _ _ _ _ _ _ _ => by kernel_rfl) (fun _ _ _ _ _ _ => by kernel_rfl)
def E198 : Env := ext E197 197 G197
theorem S198 (w0 : World) : SP w0 E198 := sg (S197 w0) Tryz.func197 Tryz.call197 (Λ := Lam197) 1 ⟨lok197_2, trivial⟩ 0 trivial (by kernel_rfl) true (fun _ _ _ => by kernel_rfl)
def P198_5004 (b_1 o_1 : Nat) (x_14 : Bool) (m : Mem) (kr : AV → Mem → Prop) (kn : Mem → Prop) : Prop :=
 kif x_14 (newK m ⟨2, upd (upd (lget [(.flat (.int .i64 0)), (.flat (.int .i64 0))]) 0 (.flat (.int .i64 32))) 1 (.flat (.int .i64 33)), 3, false⟩ fun b8 m7 => kr (.sl b8 0 2 (.ex 2)) m7) (ldI .i64 m b_1 (o_1 + 1) fun x9 => kif (x9 == 0) (kr (.flat (.slice none 0 0)) m) (kn  m))
def P198_3004 (b_1 o_1 : Nat) (x_3 : Int) (x_6 : Bool) (m : Mem) (kr : AV → Mem → Prop) (kn : Mem → Prop) : Prop :=
 kif x_6 (kr (.flat (.slice none 0 0)) m) (kif (decide (x_3 ≥ 17)) (P198_5004 b_1 o_1 (decide (x_3 ≤ 20)) m (fun v10 m11 => kr v10 m11) (fun m12 => kn  m12)) (P198_5004 b_1 o_1 false m (fun v13 m14 => kr v13 m14) (fun m15 => kn  m15)))
def F198 (c_0 : Nat → AV) (m : Mem) (k : AV → Mem → Prop) : Prop :=
 newK m ⟨5, c_0, 224, false⟩ fun b2 m1 => ldI .i64 m1 b2 0 fun x3 => ldG 5 m1 b2 0 fun c4 => F169 c4 m1 fun x5 m6 => kif (!x5) (P198_3004 b2 0 x3 true m6 (fun v16 m17 => k v16 m17) (fun m18 => ldI .i64 m18 b2 1 fun x22 => newK m18 ⟨1, upd (lget [(.flat (.int .i64 0))]) 0 (.flat (.int .i64 x22)), 3, false⟩ fun b24 m23 => k (.sl b24 0 1 (.ex 1)) m23)) (P198_3004 b2 0 x3 (x3 == 0) m6 (fun v19 m20 => k v19 m20) (fun m21 => ldI .i64 m21 b2 1 fun x25 => newK m21 ⟨1, upd (lget [(.flat (.int .i64 0))]) 0 (.flat (.int .i64 x25)), 3, false⟩ fun b27 m26 => k (.sl b27 0 1 (.ex 1)) m26))
def G198 := Gs [.g 5] [.a] F198
def D198_3004 : PcD := ⟨[1, 3, 6], [.p, .i .i64, .b], [⟨.ret, [2], [.a], []⟩, ⟨.normal, [], [], [1]⟩], P198_3004⟩
def D198_5004 : PcD := ⟨[1, 14], [.p, .b], [⟨.ret, [2], [.a], []⟩, ⟨.normal, [], [], [1]⟩], P198_5004⟩
def Lam198 : LEnv := lamOf [] [] [3004, 5004] [(3004, pcK D198_3004), (5004, pcK D198_5004)]
theorem pok198_5004 : PieceOK Tryz.prog E198 Lam198 (nthP Lam198 (bodyOf Tryz.f198) 1) := pc_ok D198_5004 (fun _ _ _ => by kernel_rfl) (by kernel_rfl) (fun _ _ _ _ _ => by kernel_rfl)
theorem pok198_3004 : PieceOK Tryz.prog E198 Lam198 (nthP Lam198 (bodyOf Tryz.f198) 0) := pc_ok D198_3004 (fun _ _ _ => by kernel_rfl) (by kernel_rfl) (fun _ _ _ _ _ _ => by kernel_rfl)
def E168 : Env := ext E198 198 G198
theorem S168 (w0 : World) : SP w0 E168 := sg (S198 w0) Tryz.func198 Tryz.call198 (Λ := Lam198) 0 trivial 2 ⟨pok198_3004, pok198_5004, trivial⟩ (by kernel_rfl) false (fun _ _ _ => by kernel_rfl)
def F168 (c_0 : Nat → AV) (m : Mem) (k : Bool → Mem → Prop) : Prop :=
 newK m ⟨5, c_0, 224, false⟩ fun b2 m1 => ldG 5 m1 b2 0 fun c3 => F169 c3 m1 fun x4 m5 => (Keeps m m5 ∧ k (!x4) m)
def G168 := Gs [.g 5] [.b] F168
def E200 : Env := ext E168 168 G168
theorem S200 (w0 : World) : SP w0 E200 := sg0 (S168 w0) Tryz.func168 Tryz.call168 (by kernel_rfl) true (fun _ _ _ => by kernel_rfl)
def F200 (x_0 : Int) (v_1 : AV) (m : Mem) (k : Bool → Mem → Prop) : Prop :=
 kptr v_1 fun b1 o2 => kif (decide (0 ≤ x_0) && decide (x_0 < 40)) (ldB m b1 (o2 + (x_0).toNat * 1) fun x3 => (Keeps m m ∧ k x3 m)) False
def G200 := Gs [.i .i64, .a] [.b] F200
def E220 : Env := ext E200 200 G200
theorem S220 (w0 : World) : SP w0 E220 := sg0 (S200 w0) Tryz.func200 Tryz.call200 (by kernel_rfl) true (fun _ _ _ _ => by kernel_rfl)
def R220_2 (v_0 : AV) (v_1 : AV) (x_7 : Int) (x_8 : Int) (m : Mem) (kn : Int → Mem → Prop) (k0 : Mem → Prop) (kr : Int → Mem → Prop) : Prop :=
 kif (decide (x_8 < x_7)) (ksl v_0 fun b2 o3 l4 p5 => kif (decide (0 ≤ x_8) && decide (x_8 < l4)) (ldI .i64 m b2 (o3 + (x_8).toNat * 1) fun x6 => kfunv v_1 fun f7 l10 => E220 f7 ([(.flat (.int .i64 x6))] ++ l10) m fun v8 m9 => kbool v8 fun x11 => kif x11 (kr x_8 m9) (kn (IntKind.wrap .i64 (x_8 + 1)) m9)) False) (k0  m)
def L220_2 (v_0 : AV) (v_1 : AV) (x_7 : Int) : Nat → Int → Mem → (Mem → Prop) → (Int → Mem → Prop) → Prop
 | 0, _,  _, _, _ => bump False
 | N + 1, x_8,  m, k0, kr => R220_2 v_0 v_1 x_7 x_8 m (fun x_8' m' => L220_2 v_0 v_1 x_7 N x_8' m' k0 kr) k0 kr
def F220 (v_0 : AV) (v_1 : AV) (m : Mem) (k : Int → Mem → Prop) : Prop :=
 klen v_0 fun x1 => ∃ N15, L220_2 v_0 v_1 x1 N15 0 m (fun m12 => k (-1) m12) (fun x13 m14 => k x13 m14)
def G220 := Gs [.a, .a] [.i .i64] F220
def D220_2 : LpD := ⟨[0, 1, 7], [.a, .a, .i .i64], [8], [.i .i64], [⟨.exit 0, [], [], []⟩, ⟨.ret, [4], [.i .i64], []⟩], R220_2, L220_2⟩
def Lam220 : LEnv := lamOf [(2, lpK D220_2)] [] [] []
theorem lok220_2 : LoopOK Tryz.prog E220 Lam220 (nthL (bodyOf Tryz.f220) 0) := lp_ok D220_2 (fun _ _ _ => by kernel_rfl) (by kernel_rfl) (fun _ _ _ _ _ _ _ => by kernel_rfl) (fun _ _ _ _ _ _ _ _ => by kernel_rfl) (fun _ _ _ _ _ _ _ => by kernel_rfl)
def E199 : Env := ext E220 220 G220
theorem S199 (w0 : World) : SP w0 E199 := sg (S220 w0) Tryz.func220 Tryz.call220 (Λ := Lam220) 1 ⟨lok220_2, trivial⟩ 0 trivial (by kernel_rfl) false (fun _ _ _ _ => by kernel_rfl)
def F199 (v_0 : AV) (v_1 : AV) (m : Mem) (k : Bool → Mem → Prop) : Prop :=
 F220 v_0 v_1 m fun x1 m2 => k (decide (x1 ≥ 0)) m2
def G199 := Gs [.a, .a] [.b] F199
def E201 : Env := ext E199 199 G199
theorem S201 (w0 : World) : SP w0 E201 := sg0 (S199 w0) Tryz.func199 Tryz.call199 (by kernel_rfl) false (fun _ _ _ _ => by kernel_rfl)
def F201 (c_0 : Nat → AV) (m : Mem) (k : Bool → Mem → Prop) : Prop :=
 newK m ⟨5, c_0, 224, false⟩ fun b2 m1 => ldI .i64 m1 b2 0 fun x3 => kif (x3 != 21) (ldI .i64 m1 b2 0 fun x4 => (Keeps m m1 ∧ k (x4 != 22) m)) ((Keeps m m1 ∧ k false m))
def G201 := Gs [.g 5] [.b] F201
def E259 : Env := ext E201 201 G201
theorem S259 (w0 : World) : SP w0 E259 := sg0 (S201 w0) Tryz.func201 Tryz.call201 (by kernel_rfl) true (fun _ _ _ => by kernel_rfl)
def F259 (x_0 : Int) (m : Mem) (k : Bool → Mem → Prop) : Prop :=
 (Keeps m m ∧ k (x_0 != x_0) m)
def G259 := Gs [.i .i64] [.b] F259
def E246 : Env := ext E259 259 G259
theorem S246 (w0 : World) : SP w0 E246 := sg0 (S259 w0) Tryz.func259 Tryz.call259 (by kernel_rfl) true (fun _ _ _ => by kernel_rfl)
def F246 (x_0 : Int) (x_1 : Int) (m : Mem) (k : Bool → Mem → Prop) : Prop :=
 F259 x_0 m fun x1 m2 => kif x1 (F259 x_1 m2 fun x3 m4 => kif (!x3) ((Keeps m m4 ∧ k true m)) ((Keeps m m4 ∧ k (decide (x_0 < x_1)) m))) ((Keeps m m2 ∧ k (decide (x_0 < x_1)) m))
def G246 := Gs [.i .i64, .i .i64] [.b] F246
def E240 : Env := ext E246 246 G246
theorem S240 (w0 : World) : SP w0 E240 := sg0 (S246 w0) Tryz.func246 Tryz.call246 (by kernel_rfl) true (fun _ _ _ _ => by kernel_rfl)
def R240_4 (v_0 : AV) (x_1 : Int) (x_2 : Int) (x_6 : Int) (x_7 : Int) (m : Mem) (kn : Int → Mem → Prop) (k2 : Mem → Prop) : Prop :=
 kif (decide (x_7 > x_1)) (ksl v_0 fun b1 o2 l3 p4 => kif (decide (0 ≤ x_7) && decide (x_7 < l3)) (ldI .i64 m b1 (o2 + (x_7).toNat * 1) fun x5 => ksl v_0 fun b6 o7 l8 p9 => kif (decide (0 ≤ IntKind.wrap .i64 (x_7 - 1)) && decide (IntKind.wrap .i64 (x_7 - 1) < l8)) (ldI .i64 m b6 (o7 + (IntKind.wrap .i64 (x_7 - 1)).toNat * 1) fun x10 => F246 x5 x10 m fun x11 m12 => kif x11 (ksl v_0 fun b13 o14 l15 p16 => kif (decide (0 ≤ IntKind.wrap .i64 (x_7 - 1)) && decide (IntKind.wrap .i64 (x_7 - 1) < l15)) (ldI .i64 m12 b13 (o14 + (IntKind.wrap .i64 (x_7 - 1)).toNat * 1) fun x17 => ksl v_0 fun b18 o19 l20 p21 => kif (decide (0 ≤ x_7) && decide (x_7 < l20)) (ldI .i64 m12 b18 (o19 + (x_7).toNat * 1) fun x22 => ksl v_0 fun b23 o24 l25 p26 => kif (decide (0 ≤ x_7) && decide (x_7 < l25)) (stC m12 b23 (o24 + (x_7).toNat * 1) (.flat (.int .i64 x17)) fun m27 => ksl v_0 fun b28 o29 l30 p31 => kif (decide (0 ≤ IntKind.wrap .i64 (x_7 - 1)) && decide (IntKind.wrap .i64 (x_7 - 1) < l30)) (stC m27 b28 (o29 + (IntKind.wrap .i64 (x_7 - 1)).toNat * 1) (.flat (.int .i64 x22)) fun m32 => kn (IntKind.wrap .i64 (x_7 - 1)) m32) False) False) False) False) (k2  m12)) False) False) (k2  m)
def L240_4 (v_0 : AV) (x_1 : Int) (x_2 : Int) (x_6 : Int) : Nat → Int → Mem → (Mem → Prop) → Prop
 | 0, _,  _, _ => bump False
 | N + 1, x_7,  m, k2 => R240_4 v_0 x_1 x_2 x_6 x_7 m (fun x_7' m' => L240_4 v_0 x_1 x_2 x_6 N x_7' m' k2) k2
def R240_1 (v_0 : AV) (x_1 : Int) (x_2 : Int) (x_6 : Int) (m : Mem) (kn : Int → Mem → Prop) (k0 : Mem → Prop) : Prop :=
 kif (decide (x_6 < x_2)) (∃ N34, L240_4 v_0 x_1 x_2 x_6 N34 x_6 m (fun m33 => kn (IntKind.wrap .i64 (x_6 + 1)) m33)) (k0  m)
def L240_1 (v_0 : AV) (x_1 : Int) (x_2 : Int) : Nat → Int → Mem → (Mem → Prop) → Prop
 | 0, _,  _, _ => bump False
 | N + 1, x_6,  m, k0 => R240_1 v_0 x_1 x_2 x_6 m (fun x_6' m' => L240_1 v_0 x_1 x_2 N x_6' m' k0) k0
def F240 (v_0 : AV) (x_1 : Int) (x_2 : Int) (m : Mem) (k : Mem → Prop) : Prop :=
 ∃ N36, L240_1 v_0 x_1 x_2 N36 (IntKind.wrap .i64 (x_1 + 1)) m (fun m35 => k  m35)
def G240 := Gs [.a, .i .i64, .i .i64] [] F240
def D240_1 : LpD := ⟨[0, 1, 2], [.a, .i .i64, .i .i64], [6], [.i .i64], [⟨.exit 0, [], [], []⟩], R240_1, L240_1⟩
def D240_4 : LpD := ⟨[0, 1, 2, 6], [.a, .i .i64, .i .i64, .i .i64], [7], [.i .i64], [⟨.exit 2, [], [], [0, 1, 2, 6]⟩], R240_4, L240_4⟩
def Lam240 : LEnv := lamOf [(1, lpK D240_1), (4, lpK D240_4)] [] [] []
theorem lok240_4 : LoopOK Tryz.prog E240 Lam240 (nthL (bodyOf Tryz.f240) 1) := lp_ok D240_4 (fun _ _ _ => by kernel_rfl) (by kernel_rfl) (fun _ _ _ _ _ _ _ _ => by kernel_rfl) (fun _ _ _ _ _ _ _ _ _ => by kernel_rfl) (fun _ _ _ _ _ _ _ _ => by kernel_rfl)
theorem lok240_1 : LoopOK Tryz.prog E240 Lam240 (nthL (bodyOf Tryz.f240) 0) := lp_ok D240_1 (fun _ _ _ => by kernel_rfl) (by kernel_rfl) (fun _ _ _ _ _ _ _ => by kernel_rfl) (fun _ _ _ _ _ _ _ _ => by kernel_rfl) (fun _ _ _ _ _ _ _ => by kernel_rfl)
def E234 : Env := ext E240 240 G240
theorem S234 (w0 : World) : SP w0 E234 := sg (S240 w0) Tryz.func240 Tryz.call240 (Λ := Lam240) 2 ⟨lok240_1, lok240_4, trivial⟩ 0 trivial (by kernel_rfl) false (fun _ _ _ _ _ => by kernel_rfl)
def R234_2 (v_0 : AV) (x_1 : Int) (x_2 : Int) (x_3 : Int) (x_8 : Bool) (x_9 : Bool) (m : Mem) (kn : Int → Int → Int → Bool → Bool → Mem → Prop) (kr : Mem → Prop) : Prop :=
 kif (decide ((IntKind.wrap .i64 (x_2 - x_1)) ≤ 12)) (F240 v_0 x_1 x_2 m fun m1 => kr  m1) (kif (x_3 == 0) (bump False) (kif (!x_8) (bump False) (bump False)))
def L234_2 (v_0 : AV) : Nat → Int → Int → Int → Bool → Bool → Mem → (Mem → Prop) → Prop
 | 0, _, _, _, _, _,  _, _ => bump False
 | N + 1, x_1, x_2, x_3, x_8, x_9,  m, kr => R234_2 v_0 x_1 x_2 x_3 x_8 x_9 m (fun x_1' x_2' x_3' x_8' x_9' m' => L234_2 v_0 N x_1' x_2' x_3' x_8' x_9' m' kr) kr
def F234 (v_0 : AV) (x_1 : Int) (x_2 : Int) (x_3 : Int) (m : Mem) (k : Mem → Prop) : Prop :=
 ∃ N3, L234_2 v_0 N3 x_1 x_2 x_3 true true m (fun m2 => k  m2)
def G234 := Gs [.a, .i .i64, .i .i64, .i .i64] [] F234
def D234_2 : LpD := ⟨[0], [.a], [1, 2, 3, 8, 9], [.i .i64, .i .i64, .i .i64, .b, .b], [⟨.ret, [], [], []⟩], R234_2, L234_2⟩
def Lam234 : LEnv := lamOf [(2, lpK D234_2)] [] [] []
theorem lok234_2 : LoopOK Tryz.prog E234 Lam234 (nthL (bodyOf Tryz.f234) 0) := lp_ok D234_2 (fun _ _ _ => by kernel_rfl) (by kernel_rfl) (fun _ _ _ _ _ _ _ _ _ => by kernel_rfl) (fun _ _ _ _ _ _ _ _ _ _ => by kernel_rfl) (fun _ _ _ _ _ _ _ _ _ => by kernel_rfl)
def E239 : Env := ext E234 234 G234
theorem S239 (w0 : World) : SP w0 E239 := sg (S234 w0) Tryz.func234 Tryz.call234 (Λ := Lam234) 1 ⟨lok234_2, trivial⟩ 0 trivial (by kernel_rfl) false (fun _ _ _ _ _ _ => by kernel_rfl)
def P239_7102 (x_0 : Int) (x_2 : Int) (m : Mem) (kr : Int → Mem → Prop) : Prop :=
 kif (decide (0 ≤ IntKind.wrap .u8 x_0) && decide (IntKind.wrap .u8 x_0 < Yb11.size)) (kr (IntKind.wrap .i64 (x_2 + (IntKind.wrap .i64 ((Yb11.data.getD (IntKind.wrap .u8 x_0).toNat 0).toNat)))) m) False
def P239_4103 (x_0 : Int) (x_2 : Int) (m : Mem) (kr : Int → Mem → Prop) : Prop :=
 kif (decide (x_0 ≥ 256)) (P239_7102 (x_0.fdiv 256) (IntKind.wrap .i64 (x_2 + 8)) m (fun x1 m2 => kr x1 m2)) (P239_7102 x_0 x_2 m (fun x3 m4 => kr x3 m4))
def F239 (x_0 : Int) (m : Mem) (k : Int → Mem → Prop) : Prop :=
 kif (decide (x_0 ≥ 65536)) (P239_4103 (x_0.fdiv 65536) 16 m (fun x5 m6 => (Keeps m m6 ∧ k x5 m))) (P239_4103 x_0 0 m (fun x7 m8 => (Keeps m m8 ∧ k x7 m)))
def G239 := Gs [.i .u32] [.i .i64] F239
def D239_4103 : PcD := ⟨[0, 2], [.i .u32, .i .i64], [⟨.ret, [2], [.i .i64], []⟩], P239_4103⟩
def D239_7102 : PcD := ⟨[0, 2], [.i .u32, .i .i64], [⟨.ret, [2], [.i .i64], []⟩], P239_7102⟩
def Lam239 : LEnv := lamOf [] [] [4103, 7102] [(4103, pcK D239_4103), (7102, pcK D239_7102)]
theorem pok239_7102 : PieceOK Tryz.prog E239 Lam239 (nthP Lam239 (bodyOf Tryz.f239) 1) := pc_ok D239_7102 (fun _ _ _ => by kernel_rfl) (by kernel_rfl) (fun _ _ _ _ => by kernel_rfl)
theorem pok239_4103 : PieceOK Tryz.prog E239 Lam239 (nthP Lam239 (bodyOf Tryz.f239) 0) := pc_ok D239_4103 (fun _ _ _ => by kernel_rfl) (by kernel_rfl) (fun _ _ _ _ => by kernel_rfl)
def E249 : Env := ext E239 239 G239
theorem S249 (w0 : World) : SP w0 E249 := sg (S239 w0) Tryz.func239 Tryz.call239 (Λ := Lam239) 0 trivial 2 ⟨pok239_4103, pok239_7102, trivial⟩ (by kernel_rfl) true (fun _ _ _ => by kernel_rfl)
def P249_10102 (x_0 : Int) (x_2 : Int) (m : Mem) (kr : Int → Mem → Prop) : Prop :=
 kif (decide (0 ≤ IntKind.wrap .u8 x_0) && decide (IntKind.wrap .u8 x_0 < Yb11.size)) (kr (IntKind.wrap .i64 (x_2 + (IntKind.wrap .i64 ((Yb11.data.getD (IntKind.wrap .u8 x_0).toNat 0).toNat)))) m) False
def P249_7103 (x_0 : Int) (x_2 : Int) (m : Mem) (kr : Int → Mem → Prop) : Prop :=
 kif (decide (x_0 ≥ 256)) (P249_10102 (x_0.fdiv 256) (IntKind.wrap .i64 (x_2 + 8)) m (fun x1 m2 => kr x1 m2)) (P249_10102 x_0 x_2 m (fun x3 m4 => kr x3 m4))
def P249_4103 (x_0 : Int) (x_2 : Int) (m : Mem) (kr : Int → Mem → Prop) : Prop :=
 kif (decide (x_0 ≥ 65536)) (P249_7103 (x_0.fdiv 65536) (IntKind.wrap .i64 (x_2 + 16)) m (fun x5 m6 => kr x5 m6)) (P249_7103 x_0 x_2 m (fun x7 m8 => kr x7 m8))
def F249 (x_0 : Int) (m : Mem) (k : Int → Mem → Prop) : Prop :=
 kif (decide (x_0 ≥ 4294967296)) (P249_4103 (x_0.fdiv 4294967296) 32 m (fun x9 m10 => (Keeps m m10 ∧ k x9 m))) (P249_4103 x_0 0 m (fun x11 m12 => (Keeps m m12 ∧ k x11 m)))
def G249 := Gs [.i .u64] [.i .i64] F249
def D249_4103 : PcD := ⟨[0, 2], [.i .u64, .i .i64], [⟨.ret, [2], [.i .i64], []⟩], P249_4103⟩
def D249_7103 : PcD := ⟨[0, 2], [.i .u64, .i .i64], [⟨.ret, [2], [.i .i64], []⟩], P249_7103⟩
def D249_10102 : PcD := ⟨[0, 2], [.i .u64, .i .i64], [⟨.ret, [2], [.i .i64], []⟩], P249_10102⟩
def Lam249 : LEnv := lamOf [] [] [4103, 7103, 10102] [(4103, pcK D249_4103), (7103, pcK D249_7103), (10102, pcK D249_10102)]
theorem pok249_10102 : PieceOK Tryz.prog E249 Lam249 (nthP Lam249 (bodyOf Tryz.f249) 2) := pc_ok D249_10102 (fun _ _ _ => by kernel_rfl) (by kernel_rfl) (fun _ _ _ _ => by kernel_rfl)
theorem pok249_7103 : PieceOK Tryz.prog E249 Lam249 (nthP Lam249 (bodyOf Tryz.f249) 1) := pc_ok D249_7103 (fun _ _ _ => by kernel_rfl) (by kernel_rfl) (fun _ _ _ _ => by kernel_rfl)
theorem pok249_4103 : PieceOK Tryz.prog E249 Lam249 (nthP Lam249 (bodyOf Tryz.f249) 0) := pc_ok D249_4103 (fun _ _ _ => by kernel_rfl) (by kernel_rfl) (fun _ _ _ _ => by kernel_rfl)
def E235 : Env := ext E249 249 G249
theorem S235 (w0 : World) : SP w0 E235 := sg (S249 w0) Tryz.func249 Tryz.call249 (Λ := Lam249) 0 trivial 3 ⟨pok249_4103, pok249_7103, pok249_10102, trivial⟩ (by kernel_rfl) true (fun _ _ _ => by kernel_rfl)
def F235 (x_0 : Int) (m : Mem) (k : Int → Mem → Prop) : Prop :=
 F249 x_0 m fun x1 m2 => (Keeps m m2 ∧ k x1 m)
def G235 := Gs [.i .u64] [.i .i64] F235
def E221 : Env := ext E235 235 G235
theorem S221 (w0 : World) : SP w0 E221 := sg0 (S235 w0) Tryz.func235 Tryz.call235 (by kernel_rfl) true (fun _ _ _ => by kernel_rfl)
def F221 (v_0 : AV) (m : Mem) (k : Mem → Prop) : Prop :=
 klen v_0 fun x1 => F235 (IntKind.wrap .u64 x1) m fun x2 m3 => F234 v_0 0 x1 x2 m3 fun m4 => k  m4
def G221 := Gs [.a] [] F221
def E222 : Env := ext E221 221 G221
theorem S222 (w0 : World) : SP w0 E222 := sg0 (S221 w0) Tryz.func221 Tryz.call221 (by kernel_rfl) false (fun _ _ _ => by kernel_rfl)
def R222_9 (v_0 : AV) (v_4 : AV) (x_3 : Int) (x_5 : Int) (m : Mem) (kn : Int → Int → Mem → Prop) (k2 : Int → Mem → Prop) : Prop :=
 klen v_4 fun x14 => kif (decide (x_5 < x14)) (ksl v_4 fun b15 o16 l17 p18 => kif (decide (0 ≤ x_5) && decide (x_5 < l17)) (ldI .i64 m b15 (o16 + (x_5).toNat * 1) fun x19 => ksl v_4 fun b20 o21 l22 p23 => kif (decide (0 ≤ IntKind.wrap .i64 (x_5 - 1)) && decide (IntKind.wrap .i64 (x_5 - 1) < l22)) (ldI .i64 m b20 (o21 + (IntKind.wrap .i64 (x_5 - 1)).toNat * 1) fun x24 => kif (x19 != x24) (ksl v_4 fun b25 o26 l27 p28 => kif (decide (0 ≤ x_5) && decide (x_5 < l27)) (ldI .i64 m b25 (o26 + (x_5).toNat * 1) fun x29 => ksl v_0 fun b30 o31 l32 p33 => kif (decide (0 ≤ x_3) && decide (x_3 < l32)) (stC m b30 (o31 + (x_3).toNat * 1) (.flat (.int .i64 x29)) fun m34 => kn (IntKind.wrap .i64 (x_3 + 1)) (IntKind.wrap .i64 (x_5 + 1)) m34) False) False) (kn x_3 (IntKind.wrap .i64 (x_5 + 1)) m)) False) False) (k2 x_3 m)
def L222_9 (v_0 : AV) (v_4 : AV) : Nat → Int → Int → Mem → (Int → Mem → Prop) → Prop
 | 0, _, _,  _, _ => bump False
 | N + 1, x_3, x_5,  m, k2 => R222_9 v_0 v_4 x_3 x_5 m (fun x_3' x_5' m' => L222_9 v_0 v_4 N x_3' x_5' m' k2) k2
def R222_4 (v_0 : AV) (x_3 : Int) (m : Mem) (kn : Int → Mem → Prop) (k0 : Mem → Prop) (kr : AV → Mem → Prop) : Prop :=
 klen v_0 fun x2 => kif (decide (x_3 < x2)) (ksl v_0 fun b3 o4 l5 p6 => kif (decide (0 ≤ x_3) && decide (x_3 < l5)) (ldI .i64 m b3 (o4 + (x_3).toNat * 1) fun x7 => ksl v_0 fun b8 o9 l10 p11 => kif (decide (0 ≤ IntKind.wrap .i64 (x_3 - 1)) && decide (IntKind.wrap .i64 (x_3 - 1) < l10)) (ldI .i64 m b8 (o9 + (IntKind.wrap .i64 (x_3 - 1)).toNat * 1) fun x12 => kif (x7 == x12) (slS 1 v_0 (some x_3) none fun v13 => ∃ N37, L222_9 v_0 v13 N37 x_3 1 m (fun x35 m36 => slS 1 v_0 (some x35) none fun v38 => clrS [(.flat (.int .i64 0))] v38 m36 fun m39 => slS 1 v_0 none (some x35) fun v40 => kr v40 m39)) (kn (IntKind.wrap .i64 (x_3 + 1)) m)) False) False) (k0  m)
def L222_4 (v_0 : AV) : Nat → Int → Mem → (Mem → Prop) → (AV → Mem → Prop) → Prop
 | 0, _,  _, _, _ => bump False
 | N + 1, x_3,  m, k0, kr => R222_4 v_0 x_3 m (fun x_3' m' => L222_4 v_0 N x_3' m' k0 kr) k0 kr
def F222 (v_0 : AV) (m : Mem) (k : AV → Mem → Prop) : Prop :=
 klen v_0 fun x1 => kif (decide (x1 < 2)) (k v_0 m) (∃ N44, L222_4 v_0 N44 1 m (fun m41 => k v_0 m41) (fun v42 m43 => k v42 m43))
def G222 := Gs [.a] [.a] F222
def D222_4 : LpD := ⟨[0], [.a], [3], [.i .i64], [⟨.exit 0, [], [], [0]⟩, ⟨.ret, [2], [.a], []⟩], R222_4, L222_4⟩
def D222_9 : LpD := ⟨[0, 4], [.a, .a], [3, 5], [.i .i64, .i .i64], [⟨.exit 2, [3], [.i .i64], [0]⟩], R222_9, L222_9⟩
def Lam222 : LEnv := lamOf [(4, lpK D222_4), (9, lpK D222_9)] [] [] []
theorem lok222_9 : LoopOK Tryz.prog E222 Lam222 (nthL (bodyOf Tryz.f222) 1) := lp_ok D222_9 (fun _ _ _ => by kernel_rfl) (by kernel_rfl) (fun _ _ _ _ _ _ _ => by kernel_rfl) (fun _ _ _ _ _ _ _ _ => by kernel_rfl) (fun _ _ _ _ _ _ _ => by kernel_rfl)
theorem lok222_4 : LoopOK Tryz.prog E222 Lam222 (nthL (bodyOf Tryz.f222) 0) := lp_ok D222_4 (fun _ _ _ => by kernel_rfl) (by kernel_rfl) (fun _ _ _ _ _ => by kernel_rfl) (fun _ _ _ _ _ _ => by kernel_rfl) (fun _ _ _ _ _ => by kernel_rfl)
def E202 : Env := ext E222 222 G222
theorem S202 (w0 : World) : SP w0 E202 := sg (S222 w0) Tryz.func222 Tryz.call222 (Λ := Lam222) 2 ⟨lok222_4, lok222_9, trivial⟩ 0 trivial (by kernel_rfl) false (fun _ _ _ => by kernel_rfl)
def P202_9102 (v_3 : AV) (m : Mem) (kr : AV → Mem → Prop) : Prop :=
 F221 v_3 m fun m35 => F222 v_3 m35 fun v36 m37 => kr v36 m37
def P202_8004 (b_1 o_1 : Nat) (x_38 : Bool) (m : Mem) (kn : AV → Mem → Prop) : Prop :=
 kif x_38 (ldI .i64 m b_1 (o_1 + 2) fun x10 => ldI .i64 m b_1 (o_1 + 3) fun x11 => ldI .i64 m b_1 (o_1 + 1) fun x12 => newK m ⟨3, upd (upd (upd (lget [(.flat (.int .i64 0)), (.flat (.int .i64 0)), (.flat (.int .i64 0))]) 0 (.flat (.int .i64 x10))) 1 (.flat (.int .i64 x11))) 2 (.flat (.int .i64 x12)), 3, false⟩ fun b14 m13 => kn (.sl b14 0 3 (.ex 3)) m13) (ldI .i64 m b_1 (o_1 + 2) fun x15 => ldI .i64 m b_1 (o_1 + 3) fun x16 => newK m ⟨2, upd (upd (lget [(.flat (.int .i64 0)), (.flat (.int .i64 0))]) 0 (.flat (.int .i64 x15))) 1 (.flat (.int .i64 x16)), 3, false⟩ fun b18 m17 => kn (.sl b18 0 2 (.ex 2)) m17)
def P202_6004 (b_1 o_1 : Nat) (x_4 : Int) (x_24 : Bool) (m : Mem) (kn : AV → Mem → Prop) : Prop :=
 kif x_24 (ldI .i64 m b_1 (o_1 + 2) fun x7 => newK m ⟨1, upd (lget [(.flat (.int .i64 0))]) 0 (.flat (.int .i64 x7)), 3, false⟩ fun b9 m8 => kn (.sl b9 0 1 (.ex 1)) m8) (kif (x_4 == 21) (P202_8004 b_1 o_1 true m (fun v19 m20 => kn v19 m20)) (P202_8004 b_1 o_1 (x_4 == 22) m (fun v21 m22 => kn v21 m22)))
def P202_5004 (b_1 o_1 : Nat) (v_3 : AV) (x_4 : Int) (x_12 : Bool) (m : Mem) (kn : AV → Mem → Prop) : Prop :=
 kif x_12 (kn v_3 m) (kif (x_4 == 2) (P202_6004 b_1 o_1 x_4 true m (fun v23 m24 => kn v23 m24)) (kif (x_4 == 15) (P202_6004 b_1 o_1 x_4 true m (fun v25 m26 => kn v25 m26)) (P202_6004 b_1 o_1 x_4 (x_4 == 16) m (fun v27 m28 => kn v27 m28))))
def F202 (c_0 : Nat → AV) (m : Mem) (k : AV → Mem → Prop) : Prop :=
 newK m ⟨5, c_0, 224, false⟩ fun b2 m1 => ldI .i64 m1 b2 0 fun x3 => ldG 5 m1 b2 0 fun c4 => F169 c4 m1 fun x5 m6 => kif (!x5) (P202_5004 b2 0 (.flat (.slice none 0 0)) x3 true m6 (fun v29 m30 => P202_9102 v29 m30 (fun v38 m39 => k v38 m39))) (kif (x3 == 0) (P202_5004 b2 0 (.flat (.slice none 0 0)) x3 true m6 (fun v31 m32 => P202_9102 v31 m32 (fun v40 m41 => k v40 m41))) (P202_5004 b2 0 (.flat (.slice none 0 0)) x3 (x3 == 1) m6 (fun v33 m34 => P202_9102 v33 m34 (fun v42 m43 => k v42 m43))))
def G202 := Gs [.g 5] [.a] F202
def D202_5004 : PcD := ⟨[1, 3, 4, 12], [.p, .a, .i .i64, .b], [⟨.normal, [3], [.a], []⟩], P202_5004⟩
def D202_6004 : PcD := ⟨[1, 4, 24], [.p, .i .i64, .b], [⟨.normal, [3], [.a], []⟩], P202_6004⟩
def D202_8004 : PcD := ⟨[1, 38], [.p, .b], [⟨.normal, [3], [.a], []⟩], P202_8004⟩
def D202_9102 : PcD := ⟨[3], [.a], [⟨.ret, [2], [.a], []⟩], P202_9102⟩
def Lam202 : LEnv := lamOf [] [] [5004, 6004, 8004, 9102] [(5004, pcK D202_5004), (6004, pcK D202_6004), (8004, pcK D202_8004), (9102, pcK D202_9102)]
theorem pok202_9102 : PieceOK Tryz.prog E202 Lam202 (nthP Lam202 (bodyOf Tryz.f202) 0) := pc_ok D202_9102 (fun _ _ _ => by kernel_rfl) (by kernel_rfl) (fun _ _ _ => by kernel_rfl)
theorem pok202_8004 : PieceOK Tryz.prog E202 Lam202 (nthP Lam202 (bodyOf Tryz.f202) 3) := pc_ok D202_8004 (fun _ _ _ => by kernel_rfl) (by kernel_rfl) (fun _ _ _ _ _ => by kernel_rfl)
theorem pok202_6004 : PieceOK Tryz.prog E202 Lam202 (nthP Lam202 (bodyOf Tryz.f202) 2) := pc_ok D202_6004 (fun _ _ _ => by kernel_rfl) (by kernel_rfl) (fun _ _ _ _ _ _ => by kernel_rfl)
theorem pok202_5004 : PieceOK Tryz.prog E202 Lam202 (nthP Lam202 (bodyOf Tryz.f202) 1) := pc_ok D202_5004 (fun _ _ _ => by kernel_rfl) (by kernel_rfl) (fun _ _ _ _ _ _ _ => by kernel_rfl)
def E203 : Env := ext E202 202 G202
theorem S203 (w0 : World) : SP w0 E203 := sg (S202 w0) Tryz.func202 Tryz.call202 (Λ := Lam202) 0 trivial 4 ⟨pok202_9102, pok202_5004, pok202_6004, pok202_8004, trivial⟩ (by kernel_rfl) false (fun _ _ _ => by kernel_rfl)
def R203_1 (v_0 : AV) (x_2 : Int) (x_3 : Int) (m : Mem) (kn : Int → Int → Mem → Prop) (k0 : Mem → Prop) : Prop :=
 kif (decide (x_2 < x_3)) (ksl v_0 fun b2 o3 l4 p5 => kif (decide (0 ≤ x_3) && decide (x_3 < l4)) (ldG 5 m b2 (o3 + (x_3).toNat * 5) fun c6 => ksl v_0 fun b7 o8 l9 p10 => kif (decide (0 ≤ x_2) && decide (x_2 < l9)) (ldG 5 m b7 (o8 + (x_2).toNat * 5) fun c11 => ksl v_0 fun b12 o13 l14 p15 => kif (decide (0 ≤ x_2) && decide (x_2 < l14)) (stG 5 m b12 (o13 + (x_2).toNat * 5) c6 fun m16 => ksl v_0 fun b17 o18 l19 p20 => kif (decide (0 ≤ x_3) && decide (x_3 < l19)) (stG 5 m16 b17 (o18 + (x_3).toNat * 5) c11 fun m21 => kn (IntKind.wrap .i64 (x_2 + 1)) (IntKind.wrap .i64 (x_3 - 1)) m21) False) False) False) False) (k0  m)
def L203_1 (v_0 : AV) : Nat → Int → Int → Mem → (Mem → Prop) → Prop
 | 0, _, _,  _, _ => bump False
 | N + 1, x_2, x_3,  m, k0 => R203_1 v_0 x_2 x_3 m (fun x_2' x_3' m' => L203_1 v_0 N x_2' x_3' m' k0) k0
def F203 (v_0 : AV) (m : Mem) (k : Mem → Prop) : Prop :=
 klen v_0 fun x1 => ∃ N23, L203_1 v_0 N23 0 (IntKind.wrap .i64 (x1 - 1)) m (fun m22 => k  m22)
def G203 := Gs [.a] [] F203
def D203_1 : LpD := ⟨[0], [.a], [2, 3], [.i .i64, .i .i64], [⟨.exit 0, [], [], []⟩], R203_1, L203_1⟩
def Lam203 : LEnv := lamOf [(1, lpK D203_1)] [] [] []
theorem lok203_1 : LoopOK Tryz.prog E203 Lam203 (nthL (bodyOf Tryz.f203) 0) := lp_ok D203_1 (fun _ _ _ => by kernel_rfl) (by kernel_rfl) (fun _ _ _ _ _ _ => by kernel_rfl) (fun _ _ _ _ _ _ _ => by kernel_rfl) (fun _ _ _ _ _ _ => by kernel_rfl)
def E162 : Env := ext E203 203 G203
theorem S162 (w0 : World) : SP w0 E162 := sg (S203 w0) Tryz.func203 Tryz.call203 (Λ := Lam203) 1 ⟨lok203_1, trivial⟩ 0 trivial (by kernel_rfl) false (fun _ _ _ => by kernel_rfl)
def R162_22 (v_0 : AV) (b_3 o_3 : Nat) (v_5 : AV) (x_6 : Int) (b_7 o_7 : Nat) (v_57 : AV) (x_58 : Int) (x_59 : Int) (m : Mem) (kn : Int → Mem → Prop) (k6 : Mem → Prop) : Prop :=
 kif (decide (x_59 < x_58)) (ksl v_57 fun b40 o41 l42 p43 => kif (decide (0 ≤ x_59) && decide (x_59 < l42)) (ldI .i64 m b40 (o41 + (x_59).toNat * 1) fun x44 => kif (decide (0 ≤ x44) && decide (x44 < 40)) (stC m b_3 (o_3 + (x44).toNat * 1) (.flat (.bool true)) fun m45 => kn (IntKind.wrap .i64 (x_59 + 1)) m45) False) False) (k6  m)
def L162_22 (v_0 : AV) (b_3 o_3 : Nat) (v_5 : AV) (x_6 : Int) (b_7 o_7 : Nat) (v_57 : AV) (x_58 : Int) : Nat → Int → Mem → (Mem → Prop) → Prop
 | 0, _,  _, _ => bump False
 | N + 1, x_59,  m, k6 => R162_22 v_0 b_3 o_3 v_5 x_6 b_7 o_7 v_57 x_58 x_59 m (fun x_59' m' => L162_22 v_0 b_3 o_3 v_5 x_6 b_7 o_7 v_57 x_58 N x_59' m' k6) k6
def R162_17 (v_0 : AV) (b_3 o_3 : Nat) (v_5 : AV) (x_6 : Int) (b_7 o_7 : Nat) (v_39 : AV) (x_40 : Int) (x_41 : Int) (m : Mem) (kn : Int → Mem → Prop) (k4 : Mem → Prop) : Prop :=
 kif (decide (x_41 < x_40)) (ksl v_39 fun b23 o24 l25 p26 => kif (decide (0 ≤ x_41) && decide (x_41 < l25)) (ldI .i64 m b23 (o24 + (x_41).toNat * 1) fun x27 => kif (decide (0 ≤ x27) && decide (x27 < 40)) (ldB m b_3 (o_3 + (x27).toNat * 1) fun x28 => kif x28 (ldG 5 m b_7 o_7 fun c29 => F201 c29 m fun x30 m31 => kif (decide (0 ≤ x27) && decide (x27 < 40)) (stC m31 b_3 (o_3 + (x27).toNat * 1) (.flat (.bool (!x30))) fun m32 => kn (IntKind.wrap .i64 (x_41 + 1)) m32) False) (kif (decide (0 ≤ x27) && decide (x27 < 40)) (stC m b_3 (o_3 + (x27).toNat * 1) (.flat (.bool false)) fun m33 => kn (IntKind.wrap .i64 (x_41 + 1)) m33) False)) False) False) (k4  m)
def L162_17 (v_0 : AV) (b_3 o_3 : Nat) (v_5 : AV) (x_6 : Int) (b_7 o_7 : Nat) (v_39 : AV) (x_40 : Int) : Nat → Int → Mem → (Mem → Prop) → Prop
 | 0, _,  _, _ => bump False
 | N + 1, x_41,  m, k4 => R162_17 v_0 b_3 o_3 v_5 x_6 b_7 o_7 v_39 x_40 x_41 m (fun x_41' m' => L162_17 v_0 b_3 o_3 v_5 x_6 b_7 o_7 v_39 x_40 N x_41' m' k4) k4
def R162_11 (v_0 : AV) (b_3 o_3 : Nat) (v_5 : AV) (x_6 : Int) (m : Mem) (kn : AV → Int → Mem → Prop) (k2 : AV → Mem → Prop) : Prop :=
 kif (decide (x_6 ≥ 0)) (ksl v_0 fun b9 o10 l11 p12 => kif (decide (0 ≤ x_6) && decide (x_6 < l11)) (ldG 5 m b9 (o10 + (x_6).toNat * 5) fun c13 => newK m ⟨5, lget [(.flat (.int .i64 0)), (.flat (.int .i64 0)), (.flat (.int .i64 0)), (.flat (.int .i64 0)), (.flat (.int .u32 0))], 224, false⟩ fun b15 m14 => stG 5 m14 b15 0 c13 fun m16 => ldG 5 m16 b15 0 fun c17 => F198 c17 m16 fun v18 m19 => F199 v18 (.clo 200 [(.ptr b_3 o_3)]) m19 fun x20 m21 => kif (!x20) (kn v_5 (IntKind.wrap .i64 (x_6 - 1)) m21) (klen v18 fun x22 => ∃ N35, L162_17 v_0 b_3 o_3 v_5 x_6 b15 0 v18 x22 N35 0 m21 (fun m34 => ldG 5 m34 b15 0 fun c36 => F202 c36 m34 fun v37 m38 => klen v37 fun x39 => ∃ N47, L162_22 v_0 b_3 o_3 v_5 x_6 b15 0 v37 x39 N47 0 m38 (fun m46 => ldG 5 m46 b15 0 fun c48 => newK m46 ⟨5, splice (lget [(.flat (.int .i64 0)), (.flat (.int .i64 0)), (.flat (.int .i64 0)), (.flat (.int .i64 0)), (.flat (.int .u32 0))]) 0 5 c48, 224, false⟩ fun b50 m49 => appS 5 40 224 v_5 (.sl b50 0 1 (.ex 1)) m49 fun v51 m52 => kn v51 (IntKind.wrap .i64 (x_6 - 1)) m52)))) False) (k2 v_5 m)
def L162_11 (v_0 : AV) (b_3 o_3 : Nat) : Nat → AV → Int → Mem → (AV → Mem → Prop) → Prop
 | 0, _, _,  _, _ => bump False
 | N + 1, v_5, x_6,  m, k2 => R162_11 v_0 b_3 o_3 v_5 x_6 m (fun v_5' x_6' m' => L162_11 v_0 b_3 o_3 N v_5' x_6' m' k2) k2
def R162_5 (v_0 : AV) (b_3 o_3 : Nat) (x_16 : Int) (m : Mem) (kn : Int → Mem → Prop) (k0 : Mem → Prop) : Prop :=
 kif (decide (x_16 < 34)) (kif (decide (0 ≤ x_16) && decide (x_16 < 40)) (stC m b_3 (o_3 + (x_16).toNat * 1) (.flat (.bool true)) fun m5 => kn (IntKind.wrap .i64 (x_16 + 1)) m5) False) (k0  m)
def L162_5 (v_0 : AV) (b_3 o_3 : Nat) : Nat → Int → Mem → (Mem → Prop) → Prop
 | 0, _,  _, _ => bump False
 | N + 1, x_16,  m, k0 => R162_5 v_0 b_3 o_3 x_16 m (fun x_16' m' => L162_5 v_0 b_3 o_3 N x_16' m' k0) k0
def F162 (v_0 : AV) (m : Mem) (k : AV → Mem → Prop) : Prop :=
 F197 v_0 m fun x1 m2 => kif (!x1) (k (.flat (.slice none 0 0)) m2) (newK m2 ⟨40, Z40, 241, false⟩ fun b4 m3 => ∃ N7, L162_5 v_0 b4 0 N7 0 m3 (fun m6 => klen v_0 fun x8 => ∃ N55, L162_11 v_0 b4 0 N55 (.flat (.slice none 0 0)) (IntKind.wrap .i64 (x8 - 1)) m6 (fun v53 m54 => F203 v53 m54 fun m56 => k v53 m56)))
def G162 := Gs [.a] [.a] F162
def D162_5 : LpD := ⟨[0, 3], [.a, .p], [16], [.i .i64], [⟨.exit 0, [], [], [0, 3]⟩], R162_5, L162_5⟩
def D162_11 : LpD := ⟨[0, 3], [.a, .p], [5, 6], [.a, .i .i64], [⟨.exit 2, [5], [.a], []⟩], R162_11, L162_11⟩
def D162_17 : LpD := ⟨[0, 3, 5, 6, 7, 39, 40], [.a, .p, .a, .i .i64, .p, .a, .i .i64], [41], [.i .i64], [⟨.exit 4, [], [], [0, 3, 5, 6, 7]⟩], R162_17, L162_17⟩
def D162_22 : LpD := ⟨[0, 3, 5, 6, 7, 57, 58], [.a, .p, .a, .i .i64, .p, .a, .i .i64], [59], [.i .i64], [⟨.exit 6, [], [], [0, 3, 5, 6, 7]⟩], R162_22, L162_22⟩
def Lam162 : LEnv := lamOf [(5, lpK D162_5), (11, lpK D162_11), (17, lpK D162_17), (22, lpK D162_22)] [] [] []
theorem lok162_22 : LoopOK Tryz.prog E162 Lam162 (nthL (bodyOf Tryz.f162) 3) := lp_ok D162_22 (fun _ _ _ => by kernel_rfl) (by kernel_rfl) (fun _ _ _ _ _ _ _ _ _ _ _ _ _ => by kernel_rfl) (fun _ _ _ _ _ _ _ _ _ _ _ _ _ _ => by kernel_rfl) (fun _ _ _ _ _ _ _ _ _ _ _ _ _ => by kernel_rfl)
theorem lok162_17 : LoopOK Tryz.prog E162 Lam162 (nthL (bodyOf Tryz.f162) 2) := lp_ok D162_17 (fun _ _ _ => by kernel_rfl) (by kernel_rfl) (fun _ _ _ _ _ _ _ _ _ _ _ _ _ => by kernel_rfl) (fun _ _ _ _ _ _ _ _ _ _ _ _ _ _ => by kernel_rfl) (fun _ _ _ _ _ _ _ _ _ _ _ _ _ => by kernel_rfl)
theorem lok162_11 : LoopOK Tryz.prog E162 Lam162 (nthL (bodyOf Tryz.f162) 1) := lp_ok D162_11 (fun _ _ _ => by kernel_rfl) (by kernel_rfl) (fun _ _ _ _ _ _ _ _ => by kernel_rfl) (fun _ _ _ _ _ _ _ _ _ => by kernel_rfl) (fun _ _ _ _ _ _ _ _ => by kernel_rfl)
theorem lok162_5 : LoopOK Tryz.prog E162 Lam162 (nthL (bodyOf Tryz.f162) 0) := lp_ok D162_5 (fun _ _ _ => by kernel_rfl) (by kernel_rfl) (fun _ _ _ _ _ _ _ => by kernel_rfl) (fun _ _ _ _ _ _ _ _ => by kernel_rfl) (fun _ _ _ _ _ _ _ => by kernel_rfl)
def E206 : Env := ext E162 162 G162
theorem S206 (w0 : World) : SP w0 E206 := sg (S162 w0) Tryz.func162 Tryz.call162 (Λ := Lam162) 4 ⟨lok162_5, lok162_11, lok162_17, lok162_22, trivial⟩ 0 trivial (by kernel_rfl) false (fun _ _ _ => by kernel_rfl)
def R206_2 (v_0 : AV) (v_1 : AV) (x_7 : Int) (x_8 : Int) (m : Mem) (kn : Int → Mem → Prop) (k0 : Mem → Prop) (kr : Int → Mem → Prop) : Prop :=
 kif (decide (x_8 < x_7)) (ksl v_0 fun b2 o3 l4 p5 => kif (decide (0 ≤ x_8) && decide (x_8 < l4)) (ldG 5 m b2 (o3 + (x_8).toNat * 5) fun c6 => kfunv v_1 fun f7 l10 => E206 f7 ([(.agg 5 c6)] ++ l10) m fun v8 m9 => kbool v8 fun x11 => kif x11 (kr x_8 m9) (kn (IntKind.wrap .i64 (x_8 + 1)) m9)) False) (k0  m)
def L206_2 (v_0 : AV) (v_1 : AV) (x_7 : Int) : Nat → Int → Mem → (Mem → Prop) → (Int → Mem → Prop) → Prop
 | 0, _,  _, _, _ => bump False
 | N + 1, x_8,  m, k0, kr => R206_2 v_0 v_1 x_7 x_8 m (fun x_8' m' => L206_2 v_0 v_1 x_7 N x_8' m' k0 kr) k0 kr
def F206 (v_0 : AV) (v_1 : AV) (m : Mem) (k : Int → Mem → Prop) : Prop :=
 klen v_0 fun x1 => ∃ N15, L206_2 v_0 v_1 x1 N15 0 m (fun m12 => k (-1) m12) (fun x13 m14 => k x13 m14)
def G206 := Gs [.a, .a] [.i .i64] F206
def D206_2 : LpD := ⟨[0, 1, 7], [.a, .a, .i .i64], [8], [.i .i64], [⟨.exit 0, [], [], []⟩, ⟨.ret, [4], [.i .i64], []⟩], R206_2, L206_2⟩
def Lam206 : LEnv := lamOf [(2, lpK D206_2)] [] [] []
theorem lok206_2 : LoopOK Tryz.prog E206 Lam206 (nthL (bodyOf Tryz.f206) 0) := lp_ok D206_2 (fun _ _ _ => by kernel_rfl) (by kernel_rfl) (fun _ _ _ _ _ _ _ => by kernel_rfl) (fun _ _ _ _ _ _ _ _ => by kernel_rfl) (fun _ _ _ _ _ _ _ => by kernel_rfl)
def E167 : Env := ext E206 206 G206
theorem S167 (w0 : World) : SP w0 E167 := sg (S206 w0) Tryz.func206 Tryz.call206 (Λ := Lam206) 1 ⟨lok206_2, trivial⟩ 0 trivial (by kernel_rfl) false (fun _ _ _ _ => by kernel_rfl)
def F167 (v_0 : AV) (v_1 : AV) (m : Mem) (k : Bool → Mem → Prop) : Prop :=
 F206 v_0 v_1 m fun x1 m2 => k (decide (x1 ≥ 0)) m2
def G167 := Gs [.a, .a] [.b] F167
def E194 : Env := ext E167 167 G167
theorem S194 (w0 : World) : SP w0 E194 := sg0 (S167 w0) Tryz.func167 Tryz.call167 (by kernel_rfl) false (fun _ _ _ _ => by kernel_rfl)
def P194_4102 (x_8 : Int) (m : Mem) (kr : Int → Int → Mem → Prop) : Prop :=
 kr (IntKind.wrap .u32 (x_8.fdiv 4294967296)) (IntKind.wrap .u32 x_8) m
def F194 (x_0 : Int) (x_1 : Int) (x_2 : Bool) (m : Mem) (k : Int → Int → Mem → Prop) : Prop :=
 kif x_2 (P194_4102 (IntKind.wrap .u64 (IntKind.wrap .i64 ((IntKind.wrap .i64 (IntKind.wrap .i32 x_0)) * (IntKind.wrap .i64 (IntKind.wrap .i32 x_1))))) m (fun x1 x2 m3 => (Keeps m m3 ∧ k x1 x2 m))) (P194_4102 (IntKind.wrap .u64 ((IntKind.wrap .u64 x_0) * (IntKind.wrap .u64 x_1))) m (fun x4 x5 m6 => (Keeps m m6 ∧ k x4 x5 m)))
def G194 := Gs [.i .u32, .i .u32, .b] [.i .u32, .i .u32] F194
def D194_4102 : PcD := ⟨[8], [.i .u64], [⟨.ret, [6, 7], [.i .u32, .i .u32], []⟩], P194_4102⟩
def Lam194 : LEnv := lamOf [] [] [4102] [(4102, pcK D194_4102)]
theorem pok194_4102 : PieceOK Tryz.prog E194 Lam194 (nthP Lam194 (bodyOf Tryz.f194) 0) := pc_ok D194_4102 (fun _ _ _ => by kernel_rfl) (by kernel_rfl) (fun _ _ _ => by kernel_rfl)
def E195 : Env := ext E194 194 G194
theorem S195 (w0 : World) : SP w0 E195 := sg (S194 w0) Tryz.func194 Tryz.call194 (Λ := Lam194) 0 trivial 1 ⟨pok194_4102, trivial⟩ (by kernel_rfl) true (fun _ _ _ _ _ => by kernel_rfl)
def F195 (x_0 : Int) (x_1 : Int) (x_2 : Bool) (m : Mem) (k : Int → Int → Mem → Prop) : Prop :=
 kif (x_1 == 0) ((Keeps m m ∧ k 4294967295 x_0 m)) (kif (!x_2) (kif (decide (x_1 = 0)) False (kif (decide (x_1 = 0)) False ((Keeps m m ∧ k (IntKind.wrap .u32 (x_0.tdiv x_1)) (x_0.tmod x_1) m)))) (kif (decide (IntKind.wrap .i64 (IntKind.wrap .i32 x_1) = 0)) False (kif (decide (IntKind.wrap .i64 (IntKind.wrap .i32 x_1) = 0)) False ((Keeps m m ∧ k (IntKind.wrap .u32 (IntKind.wrap .i64 ((IntKind.wrap .i64 (IntKind.wrap .i32 x_0)).tdiv (IntKind.wrap .i64 (IntKind.wrap .i32 x_1))))) (IntKind.wrap .u32 ((IntKind.wrap .i64 (IntKind.wrap .i32 x_0)).tmod (IntKind.wrap .i64 (IntKind.wrap .i32 x_1)))) m)))))
def G195 := Gs [.i .u32, .i .u32, .b] [.i .u32, .i .u32] F195
def E186 : Env := ext E195 195 G195
theorem S186 (w0 : World) : SP w0 E186 := sg0 (S195 w0) Tryz.func195 Tryz.call195 (by kernel_rfl) true (fun _ _ _ _ _ => by kernel_rfl)
def F186 (x_0 : Int) (x_1 : Int) (x_2 : Bool) (m : Mem) (k : Bool → Mem → Prop) : Prop :=
 kif x_2 ((Keeps m m ∧ k (decide ((IntKind.wrap .i32 x_0) < (IntKind.wrap .i32 x_1))) m)) ((Keeps m m ∧ k (decide (x_0 < x_1)) m))
def G186 := Gs [.i .u32, .i .u32, .b] [.b] F186
def E187 : Env := ext E186 186 G186
theorem S187 (w0 : World) : SP w0 E187 := sg0 (S186 w0) Tryz.func186 Tryz.call186 (by kernel_rfl) true (fun _ _ _ _ _ => by kernel_rfl)
def F187 (x_0 : Int) (x_1 : Int) (m : Mem) (k : Int → Mem → Prop) : Prop :=
 kif (decide (bits .and .i64 x_1 31 < 0)) False ((Keeps m m ∧ k (IntKind.wrap .u32 ((IntKind.wrap .i32 x_0).fdiv (2 ^ min (bits .and .i64 x_1 31).toNat 32))) m))
def G187 := Gs [.i .u32, .i .i64] [.i .u32] F187
def E233 : Env := ext E187 187 G187
theorem S233 (w0 : World) : SP w0 E233 := sg0 (S187 w0) Tryz.func187 Tryz.call187 (by kernel_rfl) true (fun _ _ _ _ => by kernel_rfl)
def F233 (x_0 : Int) (m : Mem) (k : Int → Mem → Prop) : Prop :=
 F239 x_0 m fun x1 m2 => (Keeps m m2 ∧ k (IntKind.wrap .i64 (32 - x1)) m)
def G233 := Gs [.i .u32] [.i .i64] F233
def E218 : Env := ext E233 233 G233
theorem S218 (w0 : World) : SP w0 E218 := sg0 (S233 w0) Tryz.func233 Tryz.call233 (by kernel_rfl) true (fun _ _ _ => by kernel_rfl)
def F218 (x_0 : Int) (m : Mem) (k : Int → Mem → Prop) : Prop :=
 F233 x_0 m fun x1 m2 => (Keeps m m2 ∧ k x1 m)
def G218 := Gs [.i .u32] [.i .i64] F218
def E219 : Env := ext E218 218 G218
theorem S219 (w0 : World) : SP w0 E219 := sg0 (S218 w0) Tryz.func218 Tryz.call218 (by kernel_rfl) true (fun _ _ _ => by kernel_rfl)
def F219 (x_0 : Int) (m : Mem) (k : Int → Mem → Prop) : Prop :=
 F233 (bits .xor .u32 4294967295 x_0) m fun x1 m2 => (Keeps m m2 ∧ k x1 m)
def G219 := Gs [.i .u32] [.i .i64] F219
def E224 : Env := ext E219 219 G219
theorem S224 (w0 : World) : SP w0 E224 := sg0 (S219 w0) Tryz.func219 Tryz.call219 (by kernel_rfl) true (fun _ _ _ => by kernel_rfl)
def F224 (x_0 : Bool) (m : Mem) (k : Int → Mem → Prop) : Prop :=
 kif x_0 ((Keeps m m ∧ k 1 m)) ((Keeps m m ∧ k 0 m))
def G224 := Gs [.b] [.i .u32] F224
def E207 : Env := ext E224 224 G224
theorem S207 (w0 : World) : SP w0 E207 := sg0 (S224 w0) Tryz.func224 Tryz.call224 (by kernel_rfl) true (fun _ _ _ => by kernel_rfl)
def P207_24004 (x_1 : Int) (x_2 : Int) (b_3 o_3 : Nat) (x_8 : Int) (x_63 : Bool) (m : Mem) (kr : Int → Mem → Prop) (kn : Mem → Prop) : Prop :=
 kif x_63 (ldI .i64 m b_3 (o_3 + 0) fun x7 => F186 x_1 x_2 (x7 == 12) m fun x8 m9 => F224 x8 m9 fun x10 m11 => kr x10 m11) (kif (x_8 == 14) (kr (IntKind.wrap .u32 (x_1 * x_2)) m) (kif (x_8 == 15) (F218 x_1 m fun x12 m13 => kr (IntKind.wrap .u32 x12) m13) (kif (x_8 == 16) (F219 x_1 m fun x14 m15 => kr (IntKind.wrap .u32 x14) m15) (kn  m))))
def F207 (c_0 : Nat → AV) (x_1 : Int) (x_2 : Int) (m : Mem) (k : Int → Mem → Prop) : Prop :=
 newK m ⟨5, c_0, 224, false⟩ fun b2 m1 => ldI .i64 m1 b2 0 fun x3 => kif (x3 == 1) (ldI .u32 m1 b2 4 fun x4 => (Keeps m m1 ∧ k x4 m)) (kif (x3 == 3) ((Keeps m m1 ∧ k (IntKind.wrap .u32 (x_1 + x_2)) m)) (kif (x3 == 4) ((Keeps m m1 ∧ k (IntKind.wrap .u32 (x_1 - x_2)) m)) (kif (x3 == 5) ((Keeps m m1 ∧ k (bits .and .u32 x_1 x_2) m)) (kif (x3 == 6) ((Keeps m m1 ∧ k (bits .or .u32 x_1 x_2) m)) (kif (x3 == 7) ((Keeps m m1 ∧ k (bits .xor .u32 x_1 x_2) m)) (kif (x3 == 8) ((Keeps m m1 ∧ k (bits .xor .u32 4294967295 (bits .or .u32 x_1 x_2)) m)) (kif (x3 == 9) (kif (decide (bits .and .u32 x_2 31 < 0)) False ((Keeps m m1 ∧ k (IntKind.wrap .u32 (x_1 * 2 ^ min (bits .and .u32 x_2 31).toNat 32)) m))) (kif (x3 == 10) (kif (decide (bits .and .u32 x_2 31 < 0)) False ((Keeps m m1 ∧ k (x_1.fdiv (2 ^ min (bits .and .u32 x_2 31).toNat 32)) m))) (kif (x3 == 11) (F187 x_1 (IntKind.wrap .i64 (bits .and .u32 x_2 31)) m1 fun x5 m6 => (Keeps m m6 ∧ k x5 m)) (kif (x3 == 12) (P207_24004 x_1 x_2 b2 0 x3 (x3 == 12) m1 (fun x16 m17 => (Keeps m m17 ∧ k x16 m)) (fun m18 => (Keeps m m18 ∧ k x_1 m))) (P207_24004 x_1 x_2 b2 0 x3 (x3 == 13) m1 (fun x19 m20 => (Keeps m m20 ∧ k x19 m)) (fun m21 => (Keeps m m21 ∧ k x_1 m)))))))))))))
def G207 := Gs [.g 5, .i .u32, .i .u32] [.i .u32] F207
def D207_24004 : PcD := ⟨[1, 2, 3, 8, 63], [.i .u32, .i .u32, .p, .i .i64, .b], [⟨.ret, [6], [.i .u32], []⟩, ⟨.normal, [], [], [1]⟩], P207_24004⟩
def Lam207 : LEnv := lamOf [] [] [24004] [(24004, pcK D207_24004)]
theorem pok207_24004 : PieceOK Tryz.prog E207 Lam207 (nthP Lam207 (bodyOf Tryz.f207) 0) := pc_ok D207_24004 (fun _ _ _ => by kernel_rfl) (by kernel_rfl) (fun _ _ _ _ _ _ _ _ => by kernel_rfl)
end Go.Proofs.YtkiggdgphbkneaaGreat.Am
