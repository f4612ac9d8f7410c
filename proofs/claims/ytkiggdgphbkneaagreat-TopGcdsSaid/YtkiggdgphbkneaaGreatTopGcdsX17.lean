/- What Go functions ask of what follows them, as plain functions over the abstract machine; the machine asks just that. Written by gen.py. What Go functions ask of what follows them, as plain functions over the abstract machine; the machine asks just that. Written by gen.py. -/
import Derived.Test.YtkiggdgphbkneaaGreatTopGcdsX16
namespace Go.Proofs.YtkiggdgphbkneaaGreat.Am
set_option linter.unusedVariables false
set_option linter.unusedSimpArgs false
set_option linter.constructorNameAsVariable false
set_option maxRecDepth 100000
def E98 : Env := ext E76 76 G76
theorem S98 (w0 : World) : Sound Tryz.prog w0 E98 := snd_ext (S76 w0) (fs76 w0)
def F98 (b_0 o_0 : Nat) (v_1 : AV) (m : Mem) (k : Mem → Prop) : Prop :=
 newK m ⟨40, Z40b, 192, false⟩ fun b2 m1 => slS 1 (.sl b2 0 40 (.ex 40)) none none fun v3 => slS 1 (.sl b_0 (o_0 + 0 + 0) 32 (.ex 32)) none none fun v4 => copS 1 v3 v4 m1 fun v5 m6 => ldI .u32 m6 b_0 (o_0 + 0 + 32) fun x7 => ldI .u32 m6 b_0 (o_0 + 0 + 33) fun x8 => stC m6 b2 32 (.flat (.int .u32 x7)) fun m9 => stC m9 b2 33 (.flat (.int .u32 x8)) fun m10 => F127 b2 0 v_1 m10 fun x11 m12 => slS 1 (.sl b_0 (o_0 + 0 + 0) 32 (.ex 32)) none none fun v13 => slS 1 (.sl b2 0 40 (.ex 40)) none none fun v14 => copS 1 v13 v14 m12 fun v15 m16 => ldI .u32 m16 b2 32 fun x17 => ldI .u32 m16 b2 33 fun x18 => stC m16 b_0 (o_0 + 0 + 32) (.flat (.int .u32 x17)) fun m19 => stC m19 b_0 (o_0 + 0 + 33) (.flat (.int .u32 x18)) fun m20 => F77 b_0 (o_0 + 0) 1 m20 fun x21 m22 => ldI .u32 m22 b_0 (o_0 + 0 + 35) fun x23 => stC m22 b_0 (o_0 + 0 + 34) (.flat (.int .u32 x23)) fun m24 => ldI .u32 m24 b_0 (o_0 + 0 + 35) fun x25 => stC m24 b_0 (o_0 + 0 + 35) (.flat (.int .u32 (IntKind.wrap .u32 (x25 + 4)))) fun m26 => stC m26 b_0 (o_0 + 0 + 36) (.flat (.bool false)) fun m27 => ldA m27 b_0 (o_0 + 73) fun v28 => kptr v28 fun b29 o30 => F60 b29 o30 m27 fun x31 m32 => F59 b_0 (o_0 + 0) x31 m32 fun m33 => k  m33
def G98 := Gs [.p, .a] [] F98
theorem fs98 (w0 : World) : FS Tryz.prog w0 98 G98 := fs_sig (S98 w0) Tryz.func98 Tryz.call98 (Λ := lam0) 0 trivial 0 trivial (by kernel_rfl) false (fun _ _ _ _ _ => by kernel_rfl)
def E71 : Env := ext E98 98 G98
theorem S71 (w0 : World) : Sound Tryz.prog w0 E71 := snd_ext (S98 w0) (fs98 w0)
def F71 (b_0 o_0 : Nat) (c_1 : Nat → AV) (v_2 : AV) (m : Mem) (k : Bool → Mem → Prop) : Prop :=
 newK m ⟨6, c_1, 32, false⟩ fun b2 m1 => ldG 6 m1 b2 0 fun c3 => F97 c3 m1 fun x4 m5 => kif x4 (F98 b_0 o_0 v_2 m5 fun m6 => k true m6) (ldA m5 b_0 (o_0 + 73) fun v7 => ldG 6 m5 b2 0 fun c8 => kptr v7 fun b9 o10 => F76 b_0 (o_0 + 0) b9 o10 c8 m5 fun x11 m12 => F39 b_0 o_0 m12 fun m13 => kif (x11 == (-1)) (ldG 6 m13 b2 0 fun c14 => F94 c14 m13 fun x15 m16 => k (x15 != 6) m16) (k false m13))
def G71 := Gs [.p, .g 6, .a] [.b] F71
theorem fs71 (w0 : World) : FS Tryz.prog w0 71 G71 := fs_sig (S71 w0) Tryz.func71 Tryz.call71 (Λ := lam0) 0 trivial 0 trivial (by kernel_rfl) false (fun _ _ _ _ _ _ => by kernel_rfl)
def E42 : Env := ext E71 71 G71
theorem S42 (w0 : World) : Sound Tryz.prog w0 E42 := snd_ext (S71 w0) (fs71 w0)
def P42_9103 (b_0 o_0 : Nat) (x_2 : Int) (b_4 o_4 : Nat) (x_7 : Int) (x_8 : Int) (x_9 : Int) (b_10 o_10 : Nat) (x_11 : Int) (v_21 : AV) (x_22 : Int) (x_23 : Int) (m : Mem) (k0 : Int → Mem → Prop) (kn : Int → Mem → Prop) : Prop :=
 ∃ Fr17 : Nat → Prop, Fr17 b_0 ∧ (ldA m b_0 (o_0 + 73) fun v18 => kptr v18 fun b19 o20 => F30 b19 o20 m fun v21 m22 => KeepsIn Fr17 m m22 ∧ (Fr17 b_4 ∧ (ldI .u32 m22 b_4 (o_4 + 0) fun x23 => kptr v21 fun b24 o25 => F32 b24 o25 (IntKind.wrap .u32 (x23 + x_11)) 4 m22 fun x26 x27 m28 => KeepsIn Fr17 m22 m28 ∧ (kif (!x27) (k0 x_8 m28) (ldA m28 b_4 (o_4 + 1) fun v29 => ksl v29 fun b30 o31 l32 p33 => kif (decide (0 ≤ x_9) && decide (x_9 < l32)) (ldI .u32 m28 b30 (o31 + (x_9).toNat * 1) fun x34 => kif (x26 != x34) (k0 x_8 m28) (ldG 6 m28 b_10 o_10 fun c35 => ldA m28 b_4 (o_4 + 3) fun v36 => ksl v36 fun b37 o38 l39 p40 => kif (decide (0 ≤ x_9) && decide (x_9 < l39)) (ldA m28 b37 (o38 + (x_9).toNat * 1) fun v41 => F71 b_0 o_0 c35 v41 m28 fun x42 m43 => kif (!x42) (k0 (IntKind.wrap .i64 (x_8 + 1)) m43) (kn (IntKind.wrap .i64 (x_8 + 1)) m43)) False)) False)))))
def R42_4 (b_0 o_0 : Nat) (x_2 : Int) (b_4 o_4 : Nat) (x_7 : Int) (v_21 : AV) (x_22 : Int) (x_8 : Int) (x_23 : Int) (m : Mem) (kn : Int → Int → Mem → Prop) (k0 : Int → Mem → Prop) : Prop :=
 kif (decide (x_23 < x_22)) (ksl v_21 fun b6 o7 l8 p9 => kif (decide (0 ≤ x_23) && decide (x_23 < l8)) (ldG 6 m b6 (o7 + (x_23).toNat * 6) fun c10 => newK m ⟨6, Z6, 32, false⟩ fun b12 m11 => stG 6 m11 b12 0 c10 fun m13 => kif (decide (x_8 ≥ x_2)) (k0 x_8 m13) (ldI .u32 m13 b_0 (o_0 + 0 + 34) fun x14 => kif (x14 != (IntKind.wrap .u32 (x_7 + (IntKind.wrap .u32 (IntKind.wrap .i64 (4 * x_23)))))) (k0 x_8 m13) (kif (decide (x_23 > 0)) (F40 b_0 o_0 m13 fun x15 m16 => kif x15 (k0 x_8 m16) (P42_9103 b_0 o_0 x_2 b_4 o_4 x_7 x_8 x_23 b12 0 (IntKind.wrap .u32 (IntKind.wrap .i64 (4 * x_23))) v_21 x_22 x_23 m16 (fun x44 m45 => k0 x44 m45) (fun x46 m47 => kn x46 (IntKind.wrap .i64 (x_23 + 1)) m47))) (P42_9103 b_0 o_0 x_2 b_4 o_4 x_7 x_8 x_23 b12 0 (IntKind.wrap .u32 (IntKind.wrap .i64 (4 * x_23))) v_21 x_22 x_23 m13 (fun x48 m49 => k0 x48 m49) (fun x50 m51 => kn x50 (IntKind.wrap .i64 (x_23 + 1)) m51))))) False) (k0 x_8 m)
def L42_4 (b_0 o_0 : Nat) (x_2 : Int) (b_4 o_4 : Nat) (x_7 : Int) (v_21 : AV) (x_22 : Int) : Nat → Int → Int → Mem → (Int → Mem → Prop) → Prop
 | 0, _, _,  _, _ => bump False
 | N + 1, x_8, x_23,  m, k0 => R42_4 b_0 o_0 x_2 b_4 o_4 x_7 v_21 x_22 x_8 x_23 m (fun x_8' x_23' m' => L42_4 b_0 o_0 x_2 b_4 o_4 x_7 v_21 x_22 N x_8' x_23' m' k0) k0
def F42 (b_0 o_0 : Nat) (c_1 : Nat → AV) (x_2 : Int) (m : Mem) (k : Int → Mem → Prop) : Prop :=
 newK m ⟨4, c_1, 85, false⟩ fun b2 m1 => ldI .u32 m1 b_0 (o_0 + 0 + 34) fun x3 => ldA m1 b2 2 fun v4 => klen v4 fun x5 => ∃ N54, L42_4 b_0 o_0 x_2 b2 0 x3 v4 x5 N54 0 0 m1 (fun x52 m53 => k x52 m53)
def G42 := Gs [.p, .g 4, .i .i64] [.i .i64] F42
def D42_4 : LpD := ⟨[0, 2, 4, 7, 21, 22], [.p, .i .i64, .p, .i .u32, .a, .i .i64], [8, 23], [.i .i64, .i .i64], [⟨.exit 0, [8], [.i .i64], []⟩], R42_4, L42_4⟩
def D42_9103 : PcD := ⟨[0, 2, 4, 7, 8, 9, 10, 11, 21, 22, 23], [.p, .i .i64, .p, .i .u32, .i .i64, .i .i64, .p, .i .u32, .a, .i .i64, .i .i64], [⟨.exit 0, [8], [.i .i64], []⟩, ⟨.normal, [8], [.i .i64], [0, 2, 4, 7, 21, 22, 23]⟩], P42_9103⟩
def Lam42 : LEnv := lamOf [(4, lpK D42_4)] [9] [9103] [(9103, pcK D42_9103)]
theorem pok42_9103 : PieceOK Tryz.prog E42 Lam42 (nthP Lam42 (bodyOf Tryz.f42) 0) := pc_ok D42_9103 (fun _ _ _ => by kernel_rfl) (by kernel_rfl) (fun _ _ _ _ _ _ _ _ _ _ _ _ _ _ _ _ => by kernel_rfl)
theorem lok42_4 : LoopOK Tryz.prog E42 Lam42 (nthL (bodyOf Tryz.f42) 0) := lp_ok D42_4 (fun _ _ _ => by kernel_rfl) (by kernel_rfl) (fun _ _ _ _ _ _ _ _ _ _ _ _ _ => by kernel_rfl) (fun _ _ _ _ _ _ _ _ _ _ _ _ _ _ => by kernel_rfl) (fun _ _ _ _ _ _ _ _ _ _ _ _ _ => by kernel_rfl)
theorem fs42 (w0 : World) : FS Tryz.prog w0 42 G42 := fs_sig (S42 w0) Tryz.func42 Tryz.call42 (Λ := Lam42) 1 ⟨lok42_4, trivial⟩ 1 ⟨pok42_9103, trivial⟩ (by kernel_rfl) false (fun _ _ _ _ _ _ => by kernel_rfl)
def E99 : Env := ext E42 42 G42
theorem S99 (w0 : World) : Sound Tryz.prog w0 E99 := snd_ext (S42 w0) (fs42 w0)
def F99 (b_0 o_0 : Nat) (x_1 : Int) (m : Mem) (k : (Nat → AV) → Bool → Mem → Prop) : Prop :=
 newK m ⟨3, lget [(.flat (.int .i64 0)), (.flat (.int .i64 0)), (.flat (.int .i64 0))], 158, false⟩ fun b2 m1 => F89 b_0 o_0 m1 fun x3 x4 m5 => kif (!x4) (stG 3 m5 b2 0 (lget [(.flat (.int .i64 0)), (.flat (.int .i64 0)), (.flat (.int .i64 0))]) fun m6 => ldG 3 m6 b2 0 fun c18 => k c18 false m6) (kif (decide (x3 > x_1)) (stG 3 m5 b2 0 (lget [(.flat (.int .i64 0)), (.flat (.int .i64 0)), (.flat (.int .i64 0))]) fun m7 => ldG 3 m7 b2 0 fun c19 => k c19 false m7) (ldA m5 b_0 (o_0 + 0) fun v8 => ksl v8 fun b9 o10 l11 p12 => kif (decide (0 ≤ (0 : Int)) && decide ((0 : Int) < l11)) (ldG 3 m5 b9 (o10 + 0) fun c13 => newK m5 ⟨3, lget [(.flat (.int .i64 0)), (.flat (.int .i64 0)), (.flat (.int .i64 0))], 158, false⟩ fun b15 m14 => stG 3 m14 b15 0 c13 fun m16 => ldA m16 b_0 (o_0 + 0) fun v17 => bump False) False))
def G99 := Gs [.p, .i .i64] [.g 3, .b] F99
theorem fs99 (w0 : World) : FS Tryz.prog w0 99 G99 := fs_sig (S99 w0) Tryz.func99 Tryz.call99 (Λ := lam0) 0 trivial 0 trivial (by kernel_rfl) false (fun _ _ _ _ _ => by kernel_rfl)
def E100 : Env := ext E99 99 G99
theorem S100 (w0 : World) : Sound Tryz.prog w0 E100 := snd_ext (S99 w0) (fs99 w0)
def F100 (b_0 o_0 : Nat) (c_1 : Nat → AV) (m : Mem) (k : Mem → Prop) : Prop :=
 newK m ⟨3, c_1, 158, false⟩ fun b2 m1 => ldI .i64 m1 b2 1 fun x3 => kif (x3 == 1) (ldA m1 b_0 (o_0 + 3) fun v4 => ldI .i64 m1 b2 0 fun x5 => bump False) (kif (x3 == 2) (ldA m1 b_0 (o_0 + 4) fun v6 => ldI .i64 m1 b2 0 fun x7 => bump False) (kif (x3 == 3) (ldA m1 b_0 (o_0 + 5) fun v8 => ldI .i64 m1 b2 0 fun x9 => bump False) (kif (x3 == 4) (ldA m1 b_0 (o_0 + 6) fun v10 => ldI .i64 m1 b2 0 fun x11 => bump False) (kif (x3 == 5) (ldA m1 b_0 (o_0 + 7) fun v12 => ldI .i64 m1 b2 0 fun x13 => bump False) (k  m1)))))
def G100 := Gs [.p, .g 3] [] F100
theorem fs100 (w0 : World) : FS Tryz.prog w0 100 G100 := fs_sig (S100 w0) Tryz.func100 Tryz.call100 (Λ := lam0) 0 trivial 0 trivial (by kernel_rfl) false (fun _ _ _ _ _ => by kernel_rfl)
def E72 : Env := ext E100 100 G100
theorem S72 (w0 : World) : Sound Tryz.prog w0 E72 := snd_ext (S100 w0) (fs100 w0)
def R72_2 (b_0 o_0 : Nat) (x_1 : Int) (x_5 : Int) (m : Mem) (kn : Int → Mem → Prop) (k0 : Int → Mem → Prop) : Prop :=
 kif (decide (x_5 < 256)) (ldA m b_0 (o_0 + 1) fun v1 => kptr v1 fun b2 o3 => F99 b2 o3 x_1 m fun c4 x5 m6 => newK m6 ⟨3, lget [(.flat (.int .i64 0)), (.flat (.int .i64 0)), (.flat (.int .i64 0))], 158, false⟩ fun b8 m7 => stG 3 m7 b8 0 c4 fun m9 => kif (!x5) (k0 x_5 m9) (ldG 3 m9 b8 0 fun c10 => F100 b_0 o_0 c10 m9 fun m11 => kn (IntKind.wrap .i64 (x_5 + 1)) m11)) (k0 x_5 m)
def L72_2 (b_0 o_0 : Nat) (x_1 : Int) : Nat → Int → Mem → (Int → Mem → Prop) → Prop
 | 0, _,  _, _ => bump False
 | N + 1, x_5,  m, k0 => R72_2 b_0 o_0 x_1 x_5 m (fun x_5' m' => L72_2 b_0 o_0 x_1 N x_5' m' k0) k0
def F72 (b_0 o_0 : Nat) (x_1 : Int) (m : Mem) (k : Int → Mem → Prop) : Prop :=
 ∃ N14, L72_2 b_0 o_0 x_1 N14 0 m (fun x12 m13 => F101 b_0 o_0 m13 fun m15 => k x12 m15)
def G72 := Gs [.p, .i .i64] [.i .i64] F72
def D72_2 : LpD := ⟨[0, 1], [.p, .i .i64], [5], [.i .i64], [⟨.exit 0, [5], [.i .i64], [0]⟩], R72_2, L72_2⟩
def Lam72 : LEnv := lamOf [(2, lpK D72_2)] [] [] []
theorem lok72_2 : LoopOK Tryz.prog E72 Lam72 (nthL (bodyOf Tryz.f72) 0) := lp_ok D72_2 (fun _ _ _ => by kernel_rfl) (by kernel_rfl) (fun _ _ _ _ _ _ _ => by kernel_rfl) (fun _ _ _ _ _ _ _ _ => by kernel_rfl) (fun _ _ _ _ _ _ _ => by kernel_rfl)
theorem fs72 (w0 : World) : FS Tryz.prog w0 72 G72 := fs_sig (S72 w0) Tryz.func72 Tryz.call72 (Λ := Lam72) 1 ⟨lok72_2, trivial⟩ 0 trivial (by kernel_rfl) false (fun _ _ _ _ _ => by kernel_rfl)
def E75 : Env := ext E72 72 G72
theorem S75 (w0 : World) : Sound Tryz.prog w0 E75 := snd_ext (S72 w0) (fs72 w0)
def F75 (b_0 o_0 : Nat) (b_1 o_1 : Nat) (m : Mem) (k : (Nat → AV) → Int → Bool → Mem → Prop) : Prop :=
 newK m ⟨6, Z6, 32, false⟩ fun b2 m1 => ldI .u32 m1 b_0 (o_0 + 34) fun x3 => F62 b_0 o_0 x3 4 false m1 fun x4 x5 x6 m7 => kif (x5 != (-1)) (ldI .u32 m7 b_0 (o_0 + 34) fun x8 => F103 b_0 o_0 x8 x5 m7 fun m9 => stG 6 m9 b2 0 (Z6) fun m10 => ldG 6 m10 b2 0 fun c19 => k c19 x5 x6 m10) (ldI .i64 m7 b_0 (o_0 + 72) fun x11 => F104 b_1 o_1 x4 4 x11 m7 fun x12 x13 m14 => kif (!x13) (stG 6 m14 b2 0 (Z6) fun m15 => ldG 6 m15 b2 0 fun c20 => k c20 6 false m15) (F93 x12 m14 fun c16 m17 => stG 6 m17 b2 0 c16 fun m18 => ldG 6 m18 b2 0 fun c21 => k c21 (-1) false m18))
def G75 := Gs [.p, .p] [.g 6, .i .i64, .b] F75
theorem fs75 (w0 : World) : FS Tryz.prog w0 75 G75 := fs_sig (S75 w0) Tryz.func75 Tryz.call75 (Λ := lam0) 0 trivial 0 trivial (by kernel_rfl) false (fun _ _ _ _ _ _ => by kernel_rfl)
def E43 : Env := ext E75 75 G75
theorem S43 (w0 : World) : Sound Tryz.prog w0 E43 := snd_ext (S75 w0) (fs75 w0)
def P43_7102 (b_0 o_0 : Nat) (b_1 o_1 : Nat) (m : Mem) (kr : Int → Mem → Prop) : Prop :=
 stC m b_0 (o_0 + 71) (.flat (.bool false)) fun m10 => F61 b_0 o_0 m10 fun x11 m12 => kif x11 (F74 b_0 o_0 b_1 o_1 0 false m12 fun x13 m14 => kr x13 m14) (F75 b_0 o_0 b_1 o_1 m12 fun c15 x16 x17 m18 => newK m18 ⟨6, Z6, 32, false⟩ fun b20 m19 => stG 6 m19 b20 0 c15 fun m21 => kif (x16 != (-1)) (F74 b_0 o_0 b_1 o_1 x16 x17 m21 fun x22 m23 => kr x22 m23) (ldG 6 m21 b20 0 fun c24 => F76 b_0 o_0 b_1 o_1 c24 m21 fun x25 m26 => kr x25 m26))
def F43 (b_0 o_0 : Nat) (b_1 o_1 : Nat) (m : Mem) (k : Int → Mem → Prop) : Prop :=
 ldI .i64 m b_0 (o_0 + 72) fun x1 => F72 b_1 o_1 x1 m fun x2 m3 => F60 b_1 o_1 m3 fun x4 m5 => F59 b_0 o_0 x4 m5 fun m6 => ldB m6 b_0 (o_0 + 71) fun x7 => kif x7 (F73 b_0 o_0 m6 fun x8 m9 => kif (!x8) (k (-2) m9) (P43_7102 b_0 o_0 b_1 o_1 m9 (fun x27 m28 => k x27 m28))) (P43_7102 b_0 o_0 b_1 o_1 m6 (fun x29 m30 => k x29 m30))
def G43 := Gs [.p, .p] [.i .i64] F43
def D43_7102 : PcD := ⟨[0, 1], [.p, .p], [⟨.ret, [4], [.i .i64], []⟩], P43_7102⟩
def Lam43 : LEnv := lamOf [] [] [7102] [(7102, pcK D43_7102)]
theorem pok43_7102 : PieceOK Tryz.prog E43 Lam43 (nthP Lam43 (bodyOf Tryz.f43) 0) := pc_ok D43_7102 (fun _ _ _ => by kernel_rfl) (by kernel_rfl) (fun _ _ _ _ _ _ => by kernel_rfl)
theorem fs43 (w0 : World) : FS Tryz.prog w0 43 G43 := fs_sig (S43 w0) Tryz.func43 Tryz.call43 (Λ := Lam43) 0 trivial 1 ⟨pok43_7102, trivial⟩ (by kernel_rfl) false (fun _ _ _ _ _ _ => by kernel_rfl)
def E44 : Env := ext E43 43 G43
theorem S44 (w0 : World) : Sound Tryz.prog w0 E44 := snd_ext (S43 w0) (fs43 w0)
def P44_15102 (b_0 o_0 : Nat) (x_11 : Int) (m : Mem) (kr : Int → Bool → Mem → Prop) : Prop :=
 F77 b_0 o_0 x_11 m fun x12 m13 => kr x_11 true m13
def P44_14002 (b_0 o_0 : Nat) (x_11 : Int) (x_12 : Int) (m : Mem) (kn : Int → Mem → Prop) : Prop :=
 kn (if x_12 < x_11 then x_12 else x_11) m
def P44_10103 (b_0 o_0 : Nat) (x_10 : Bool) (x_11 : Int) (m : Mem) (kr : Int → Bool → Mem → Prop) : Prop :=
 kif x_10 (ldI .u32 m b_0 (o_0 + 39 + 11) fun x6 => ldI .u32 m b_0 (o_0 + 39 + 9) fun x7 => kif ((IntKind.wrap .i64 (IntKind.wrap .u32 (x6 - x7))) == 0) (P44_14002 b_0 o_0 x_11 4294967296 m (fun x8 m9 => P44_15102 b_0 o_0 x8 m9 (fun x14 x15 m16 => kr x14 x15 m16))) (P44_14002 b_0 o_0 x_11 (IntKind.wrap .i64 (IntKind.wrap .u32 (x6 - x7))) m (fun x10 m11 => P44_15102 b_0 o_0 x10 m11 (fun x17 x18 m19 => kr x17 x18 m19)))) (P44_15102 b_0 o_0 x_11 m (fun x20 x21 m22 => kr x20 x21 m22))
def P44_7102 (b_0 o_0 : Nat) (x_2 : Int) (x_8 : Int) (x_9 : Bool) (x_10 : Bool) (m : Mem) (kr : Int → Bool → Mem → Prop) : Prop :=
 kif x_9 (ldI .i64 m b_0 (o_0 + 72) fun x5 => P44_10103 b_0 o_0 x_10 (if (if (IntKind.wrap .i64 (x_8 - x5)) > 1 then (IntKind.wrap .i64 (x_8 - x5)) else 1) < x_2 then (if (IntKind.wrap .i64 (x_8 - x5)) > 1 then (IntKind.wrap .i64 (x_8 - x5)) else 1) else x_2) m (fun x23 x24 m25 => kr x23 x24 m25)) (P44_10103 b_0 o_0 x_10 x_2 m (fun x26 x27 m28 => kr x26 x27 m28))
def F44 (b_0 o_0 : Nat) (b_1 o_1 : Nat) (x_2 : Int) (m : Mem) (k : Int → Bool → Mem → Prop) : Prop :=
 F58 b_1 o_1 m fun x1 x2 m3 => ldI .u32 m3 b_0 (o_0 + 39 + 12) fun x4 => kif (!x2) (kif (!((bits .and .u32 x4 32768) != 0)) (k 0 false m3) (P44_7102 b_0 o_0 x_2 x1 x2 ((bits .and .u32 x4 32768) != 0) m3 (fun x29 x30 m31 => k x29 x30 m31))) (P44_7102 b_0 o_0 x_2 x1 x2 ((bits .and .u32 x4 32768) != 0) m3 (fun x32 x33 m34 => k x32 x33 m34))
def G44 := Gs [.p, .p, .i .i64] [.i .i64, .b] F44
def D44_7102 : PcD := ⟨[0, 2, 8, 9, 10], [.p, .i .i64, .i .i64, .b, .b], [⟨.ret, [6, 7], [.i .i64, .b], []⟩], P44_7102⟩
def D44_10103 : PcD := ⟨[0, 10, 11], [.p, .b, .i .i64], [⟨.ret, [6, 7], [.i .i64, .b], []⟩], P44_10103⟩
def D44_14002 : PcD := ⟨[0, 11, 12], [.p, .i .i64, .i .i64], [⟨.normal, [11], [.i .i64], [0]⟩], P44_14002⟩
def D44_15102 : PcD := ⟨[0, 11], [.p, .i .i64], [⟨.ret, [6, 7], [.i .i64, .b], []⟩], P44_15102⟩
def Lam44 : LEnv := lamOf [] [] [7102, 10103, 14002, 15102] [(7102, pcK D44_7102), (10103, pcK D44_10103), (14002, pcK D44_14002), (15102, pcK D44_15102)]
theorem pok44_15102 : PieceOK Tryz.prog E44 Lam44 (nthP Lam44 (bodyOf Tryz.f44) 2) := pc_ok D44_15102 (fun _ _ _ => by kernel_rfl) (by kernel_rfl) (fun _ _ _ _ _ => by kernel_rfl)
theorem pok44_14002 : PieceOK Tryz.prog E44 Lam44 (nthP Lam44 (bodyOf Tryz.f44) 3) := pc_ok D44_14002 (fun _ _ _ => by kernel_rfl) (by kernel_rfl) (fun _ _ _ _ _ _ => by kernel_rfl)
theorem pok44_10103 : PieceOK Tryz.prog E44 Lam44 (nthP Lam44 (bodyOf Tryz.f44) 1) := pc_ok D44_10103 (fun _ _ _ => by kernel_rfl) (by kernel_rfl) (fun _ _ _ _ _ _ => by kernel_rfl)
theorem pok44_7102 : PieceOK Tryz.prog E44 Lam44 (nthP Lam44 (bodyOf Tryz.f44) 0) := pc_ok D44_7102 (fun _ _ _ => by kernel_rfl) (by kernel_rfl) (fun _ _ _ _ _ _ _ _ => by kernel_rfl)
theorem fs44 (w0 : World) : FS Tryz.prog w0 44 G44 := fs_sig (S44 w0) Tryz.func44 Tryz.call44 (Λ := Lam44) 0 trivial 4 ⟨pok44_7102, pok44_10103, pok44_15102, pok44_14002, trivial⟩ (by kernel_rfl) false (fun _ _ _ _ _ _ _ => by kernel_rfl)
def E25 : Env := ext E44 44 G44
theorem S25 (w0 : World) : Sound Tryz.prog w0 E25 := snd_ext (S44 w0) (fs44 w0)
def P25_9102 (b_0 o_0 : Nat) (x_1 : Int) (x_6 : Int) (m : Mem) (k1 : Int → Mem → Prop) (kr : Int → Int → Mem → Prop) (kn : Int → Mem → Prop) : Prop :=
 ldA m b_0 (o_0 + 73) fun v22 => kptr v22 fun b23 o24 => F43 b_0 (o_0 + 0) b23 o24 m fun x25 m26 => F39 b_0 o_0 m26 fun m27 => kif (x25 != (-2)) (k1 (IntKind.wrap .i64 (x_6 + 1)) m27) (ldA m27 b_0 (o_0 + 73) fun v28 => kptr v28 fun b29 o30 => F44 b_0 (o_0 + 0) b29 o30 (IntKind.wrap .i64 (x_1 - x_6)) m27 fun x31 x32 m33 => kif (!x32) (kr 2 x_6 m33) (kn (IntKind.wrap .i64 (x_6 + x31)) m33))
def P25_6004 (b_0 o_0 : Nat) (x_1 : Int) (x_6 : Int) (x_29 : Bool) (m : Mem) (k1 : Int → Mem → Prop) (kn : Int → Mem → Prop) : Prop :=
 kif x_29 (F41 b_0 o_0 m fun c5 x6 m7 => newK m7 ⟨4, lget [(.flat (.int .u32 0)), (.flat (.slice none 0 0)), (.flat (.slice none 0 0)), (.flat (.slice none 0 0))], 85, false⟩ fun b9 m8 => stG 4 m8 b9 0 c5 fun m10 => kif x6 (ldG 4 m10 b9 0 fun c11 => F42 b_0 o_0 c11 (IntKind.wrap .i64 (x_1 - x_6)) m10 fun x12 m13 => k1 (IntKind.wrap .i64 (x_6 + x12)) m13) (kn x_6 m10)) (kn x_6 m)
def R25_3 (b_0 o_0 : Nat) (x_1 : Int) (x_6 : Int) (m : Mem) (kn : Int → Mem → Prop) (k0 : Int → Mem → Prop) (kr : Int → Int → Mem → Prop) : Prop :=
 kif (decide (x_6 < x_1)) (F39 b_0 o_0 m fun m1 => ldB m1 b_0 (o_0 + 0 + 36) fun x2 => kif (!x2) (F40 b_0 o_0 m1 fun x3 m4 => P25_6004 b_0 o_0 x_1 x_6 (!x3) m4 (fun x14 m15 => kn x14 m15) (fun x16 m17 => P25_9102 b_0 o_0 x_1 x16 m17 (fun x34 m35 => kn x34 m35) (fun x36 x37 m38 => kr x36 x37 m38) (fun x39 m40 => kn x39 m40))) (P25_6004 b_0 o_0 x_1 x_6 false m1 (fun x18 m19 => kn x18 m19) (fun x20 m21 => P25_9102 b_0 o_0 x_1 x20 m21 (fun x41 m42 => kn x41 m42) (fun x43 x44 m45 => kr x43 x44 m45) (fun x46 m47 => kn x46 m47)))) (k0 x_6 m)
def L25_3 (b_0 o_0 : Nat) (x_1 : Int) : Nat → Int → Mem → (Int → Mem → Prop) → (Int → Int → Mem → Prop) → Prop
 | 0, _,  _, _, _ => bump False
 | N + 1, x_6,  m, k0, kr => R25_3 b_0 o_0 x_1 x_6 m (fun x_6' m' => L25_3 b_0 o_0 x_1 N x_6' m' k0 kr) k0 kr
def F25 (b_0 o_0 : Nat) (x_1 : Int) (m : Mem) (k : Int → Int → Mem → Prop) : Prop :=
 ∃ N53, L25_3 b_0 o_0 (if 1099511627776 < x_1 then 1099511627776 else x_1) N53 0 m (fun x48 m49 => k 1 x48 m49) (fun x50 x51 m52 => k x50 x51 m52)
def G25 := Gs [.p, .i .i64] [.i .i64, .i .i64] F25
def D25_3 : LpD := ⟨[0, 1], [.p, .i .i64], [6], [.i .i64], [⟨.exit 0, [6], [.i .i64], []⟩, ⟨.ret, [4, 5], [.i .i64, .i .i64], []⟩], R25_3, L25_3⟩
def D25_6004 : PcD := ⟨[0, 1, 6, 29], [.p, .i .i64, .i .i64, .b], [⟨.exit 1, [6], [.i .i64], [0, 1]⟩, ⟨.normal, [6], [.i .i64], [0, 1]⟩], P25_6004⟩
def D25_9102 : PcD := ⟨[0, 1, 6], [.p, .i .i64, .i .i64], [⟨.exit 1, [6], [.i .i64], [0, 1]⟩, ⟨.ret, [4, 5], [.i .i64, .i .i64], []⟩, ⟨.normal, [6], [.i .i64], [0, 1]⟩], P25_9102⟩
def Lam25 : LEnv := lamOf [(3, lpK D25_3)] [] [6004, 9102] [(6004, pcK D25_6004), (9102, pcK D25_9102)]
theorem pok25_9102 : PieceOK Tryz.prog E25 Lam25 (nthP Lam25 (bodyOf Tryz.f25) 0) := pc_ok D25_9102 (fun _ _ _ => by kernel_rfl) (by kernel_rfl) (fun _ _ _ _ _ _ => by kernel_rfl)
theorem pok25_6004 : PieceOK Tryz.prog E25 Lam25 (nthP Lam25 (bodyOf Tryz.f25) 1) := pc_ok D25_6004 (fun _ _ _ => by kernel_rfl) (by kernel_rfl) (fun _ _ _ _ _ _ _ => by kernel_rfl)
theorem lok25_3 : LoopOK Tryz.prog E25 Lam25 (nthL (bodyOf Tryz.f25) 0) := lp_ok D25_3 (fun _ _ _ => by kernel_rfl) (by kernel_rfl) (fun _ _ _ _ _ _ _ => by kernel_rfl) (fun _ _ _ _ _ _ _ _ => by kernel_rfl) (fun _ _ _ _ _ _ _ => by kernel_rfl)
theorem fs25 (w0 : World) : FS Tryz.prog w0 25 G25 := fs_sig (S25 w0) Tryz.func25 Tryz.call25 (Λ := Lam25) 1 ⟨lok25_3, trivial⟩ 2 ⟨pok25_9102, pok25_6004, trivial⟩ (by kernel_rfl) false (fun _ _ _ _ _ => by kernel_rfl)
def E27 : Env := ext E25 25 G25
theorem S27 (w0 : World) : Sound Tryz.prog w0 E27 := snd_ext (S25 w0) (fs25 w0)
def F27  (m : Mem) (k : Bool → Mem → Prop) : Prop :=
 F21 47 1 0 5 m fun c1 m2 => newK m2 ⟨6, splice (Z6) 0 6 c1, 32, false⟩ fun b4 m3 => F16 (.sl b4 0 1 (.ex 1)) m3 fun v5 m6 => F23 v5 (.flat (.slice none 0 0)) 4 m6 fun v7 m8 => knilP v7 fun x9 => kif x9 (k false m8) (kptr v7 fun b10 o11 => F25 b10 o11 3 m8 fun x12 x13 m14 => kif (x12 == 1) (kif (x13 == 3) (kptr v7 fun b15 o16 => F26 b15 o16 m14 fun c17 m18 => kI .u32 ((sub c17 0 32) 1) fun x19 => k (x19 == 5) m18) (k false m14)) (k false m14))
def G27 := Gs [] [.b] F27
theorem fs27 (w0 : World) : FS Tryz.prog w0 27 G27 := fs_sig (S27 w0) Tryz.func27 Tryz.call27 (Λ := lam0) 0 trivial 0 trivial (by kernel_rfl) false (fun _ _ => by kernel_rfl)
def E28 : Env := ext E27 27 G27
theorem S28 (w0 : World) : Sound Tryz.prog w0 E28 := snd_ext (S27 w0) (fs27 w0)
def F28 (x_0 : Int) (x_1 : Int) (x_2 : Int) (x_3 : Int) (m : Mem) (k : (Nat → AV) → Mem → Prop) : Prop :=
 newK m ⟨6, Z6, 32, false⟩ fun b2 m1 => stG 6 m1 b2 0 (upd (upd (upd (upd (Z6) 0 (.flat (.int .i64 x_0))) 3 (.flat (.int .i64 x_1))) 1 (.flat (.int .i64 x_2))) 2 (.flat (.int .i64 x_3))) fun m3 => ldG 6 m3 b2 0 fun c4 => (Keeps m m3 ∧ InDomG 6 m c4 ∧ k c4 m)
def G28 := Gs [.i .i64, .i .i64, .i .i64, .i .i64] [.g 6] F28
theorem fs28 (w0 : World) : FS Tryz.prog w0 28 G28 := fs_sig (S28 w0) Tryz.func28 Tryz.call28 (Λ := lam0) 0 trivial 0 trivial (by kernel_rfl) true (fun _ _ _ _ _ _ => by kernel_rfl)
end Go.Proofs.YtkiggdgphbkneaaGreat.Am
namespace Go.Proofs.YtkiggdgphbkneaaGreat.Am
set_option linter.unusedVariables false
set_option linter.unusedSimpArgs false
set_option linter.constructorNameAsVariable false
set_option maxRecDepth 100000
def E24 : Env := ext E28 28 G28
theorem S24 (w0 : World) : Sound Tryz.prog w0 E24 := snd_ext (S28 w0) (fs28 w0)
def F24 (b_0 o_0 : Nat) (x_1 : Int) (m : Mem) (k : Mem → Prop) : Prop :=
 stC m b_0 (o_0 + 75) (.flat (.int .i64 (if (if 32 < x_1 then 32 else x_1) > 1 then (if 32 < x_1 then 32 else x_1) else 1))) fun m1 => k  m1
def G24 := Gs [.p, .i .i64] [] F24
theorem fs24 (w0 : World) : FS Tryz.prog w0 24 G24 := fs_sig (S24 w0) Tryz.func24 Tryz.call24 (Λ := lam0) 0 trivial 0 trivial (by kernel_rfl) false (fun _ _ _ _ _ => by kernel_rfl)
def E80 : Env := ext E24 24 G24
theorem S80 (w0 : World) : Sound Tryz.prog w0 E80 := snd_ext (S24 w0) (fs24 w0)
def F80 (b_0 o_0 : Nat) (m : Mem) (k : Mem → Prop) : Prop :=
 stC m b_0 (o_0 + 1) (.flat (.slice none 0 0)) fun m1 => ldA m1 b_0 (o_0 + 2) fun v2 => mclear v2 m1 fun m3 => k  m3
def G80 := Gs [.p] [] F80
theorem fs80 (w0 : World) : FS Tryz.prog w0 80 G80 := fs_sig (S80 w0) Tryz.func80 Tryz.call80 (Λ := lam0) 0 trivial 0 trivial (by kernel_rfl) false (fun _ _ _ _ => by kernel_rfl)
def E52 : Env := ext E80 80 G80
theorem S52 (w0 : World) : Sound Tryz.prog w0 E52 := snd_ext (S80 w0) (fs80 w0)
def F52 (b_0 o_0 : Nat) (m : Mem) (k : Mem → Prop) : Prop :=
 ldA m b_0 (o_0 + 74) fun v1 => kptr v1 fun b2 o3 => F80 b2 o3 m fun m4 => k  m4
def G52 := Gs [.p] [] F52
theorem fs52 (w0 : World) : FS Tryz.prog w0 52 G52 := fs_sig (S52 w0) Tryz.func52 Tryz.call52 (Λ := lam0) 0 trivial 0 trivial (by kernel_rfl) false (fun _ _ _ _ => by kernel_rfl)
def E36 : Env := ext E52 52 G52
theorem S36 (w0 : World) : Sound Tryz.prog w0 E36 := snd_ext (S52 w0) (fs52 w0)
def R36_1 (b_0 o_0 : Nat) (x_3 : Int) (x_1 : Int) (m : Mem) (kn : Int → Mem → Prop) (k0 : Mem → Prop) : Prop :=
 kif (decide (x_1 > 0)) (F25 b_0 o_0 (if (if 1 > x_3 then 1 else x_3) < x_1 then (if 1 > x_3 then 1 else x_3) else x_1) m fun x2 x3 m4 => F52 b_0 o_0 m4 fun m5 => kn (IntKind.wrap .i64 (x_1 - (if (if 1 > x_3 then 1 else x_3) < x_1 then (if 1 > x_3 then 1 else x_3) else x_1))) m5) (k0  m)
def L36_1 (b_0 o_0 : Nat) (x_3 : Int) : Nat → Int → Mem → (Mem → Prop) → Prop
 | 0, _,  _, _ => bump False
 | N + 1, x_1,  m, k0 => R36_1 b_0 o_0 x_3 x_1 m (fun x_1' m' => L36_1 b_0 o_0 x_3 N x_1' m' k0) k0
def F36 (b_0 o_0 : Nat) (x_1 : Int) (x_2 : Int) (x_3 : Int) (m : Mem) (k : Mem → Prop) : Prop :=
 F24 b_0 o_0 x_2 m fun m1 => ∃ N7, L36_1 b_0 o_0 x_3 N7 x_1 m1 (fun m6 => k  m6)
def G36 := Gs [.p, .i .i64, .i .i64, .i .i64] [] F36
def D36_1 : LpD := ⟨[0, 3], [.p, .i .i64], [1], [.i .i64], [⟨.exit 0, [], [], []⟩], R36_1, L36_1⟩
def Lam36 : LEnv := lamOf [(1, lpK D36_1)] [] [] []
theorem lok36_1 : LoopOK Tryz.prog E36 Lam36 (nthL (bodyOf Tryz.f36) 0) := lp_ok D36_1 (fun _ _ _ => by kernel_rfl) (by kernel_rfl) (fun _ _ _ _ _ _ _ => by kernel_rfl) (fun _ _ _ _ _ _ _ _ => by kernel_rfl) (fun _ _ _ _ _ _ _ => by kernel_rfl)
theorem fs36 (w0 : World) : FS Tryz.prog w0 36 G36 := fs_sig (S36 w0) Tryz.func36 Tryz.call36 (Λ := Lam36) 1 ⟨lok36_1, trivial⟩ 0 trivial (by kernel_rfl) false (fun _ _ _ _ _ _ _ => by kernel_rfl)
def E12 : Env := ext E36 36 G36
theorem S12 (w0 : World) : Sound Tryz.prog w0 E12 := snd_ext (S36 w0) (fs36 w0)
def R12_7 (v_12 : AV) (x_9 : Int) (x_10 : Int) (m : Mem) (kn : Int → Int → Mem → Prop) (k0 : Int → Mem → Prop) : Prop :=
 kif (x_10 != 0) (kif (decide (x_10 = 0)) False (kn x_10 (x_9.tmod x_10) m)) (k0 x_9 m)
def L12_7 (v_12 : AV) : Nat → Int → Int → Mem → (Int → Mem → Prop) → Prop
 | 0, _, _,  _, _ => bump False
 | N + 1, x_9, x_10,  m, k0 => R12_7 v_12 x_9 x_10 m (fun x_9' x_10' m' => L12_7 v_12 N x_9' x_10' m' k0) k0
def F12 (x_0 : Int) (x_1 : Int) (x_2 : Int) (x_3 : Int) (m : Mem) (k : Bool → Mem → Prop) : Prop :=
 F18 1 (IntKind.wrap .u32 ((x_0.tmod 100000) + 1)) m fun v1 m2 => F18 2 (IntKind.wrap .u32 ((x_1.tmod 100000) + 1)) m2 fun v3 m4 => F28 23 1 2 0 m4 fun c5 m6 => newK m6 ⟨18, splice (splice (splice (Z18) 0 6 (upd (upd (upd (Z6) 0 (.flat (.int .i64 21))) 1 (.flat (.int .i64 1))) 2 (.flat (.int .i64 2)))) 6 6 c5) 12 6 (upd (upd (Z6) 0 (.flat (.int .i64 14))) 3 (.flat (.int .i64 2))), 32, false⟩ fun b8 m7 => F22 43 2 0 3 m7 fun v9 m10 => F19  m10 fun v11 m12 => kif (AV.one v1) (kif (AV.one v3) (kif (AV.one v9) (kif (AV.one v11) (newK m12 ⟨5, upd (upd (upd (upd (upd (lget [(.flat (.slice none 0 0)), (.flat (.slice none 0 0)), (.flat (.slice none 0 0)), (.flat (.slice none 0 0)), (.flat (.slice none 0 0))]) 0 v1) 1 v3) 2 (.sl b8 0 3 (.ex 3))) 3 v9) 4 v11, 26, false⟩ fun b14 m13 => F17 (.sl b14 0 5 (.ex 5)) m13 fun v15 m16 => F16 v15 m16 fun v17 m18 => F23 v17 (.flat (.slice none 0 0)) 3 m18 fun v19 m20 => knilP v19 fun x21 => kif x21 (k false m20) (kptr v19 fun b22 o23 => F36 b22 o23 400 x_2 (x_3.tmod 40) m20 fun m24 => ∃ N27, L12_7 v19 N27 (IntKind.wrap .u32 ((x_0.tmod 100000) + 1)) (IntKind.wrap .u32 ((x_1.tmod 100000) + 1)) m24 (fun x25 m26 => kptr v19 fun b28 o29 => F26 b28 o29 m26 fun c30 m31 => kI .u32 ((sub c30 0 32) 1) fun x32 => kif (x32 == x25) (kptr v19 fun b33 o34 => F26 b33 o34 m31 fun c35 m36 => kI .u32 ((sub c35 0 32) 2) fun x37 => kif (x37 == 0) (F27  m36 fun x38 m39 => k x38 m39) (k false m36)) (k false m31)))) False) False) False) False
def G12 := Gs [.i .u32, .i .u32, .i .i64, .i .i64] [.b] F12
def D12_7 : LpD := ⟨[12], [.a], [9, 10], [.i .u32, .i .u32], [⟨.exit 0, [9], [.i .u32], [12]⟩], R12_7, L12_7⟩
def Lam12 : LEnv := lamOf [(7, lpK D12_7)] [] [] []
theorem lok12_7 : LoopOK Tryz.prog E12 Lam12 (nthL (bodyOf Tryz.f12) 0) := lp_ok D12_7 (fun _ _ _ => by kernel_rfl) (by kernel_rfl) (fun _ _ _ _ _ _ => by kernel_rfl) (fun _ _ _ _ _ _ _ => by kernel_rfl) (fun _ _ _ _ _ _ => by kernel_rfl)
theorem fs12 (w0 : World) : FS Tryz.prog w0 12 G12 := fs_sig (S12 w0) Tryz.func12 Tryz.call12 (Λ := Lam12) 1 ⟨lok12_7, trivial⟩ 0 trivial (by kernel_rfl) false (fun _ _ _ _ _ _ => by kernel_rfl)
end Go.Proofs.YtkiggdgphbkneaaGreat.Am
