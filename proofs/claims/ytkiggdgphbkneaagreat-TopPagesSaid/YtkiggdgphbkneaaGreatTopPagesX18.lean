/- What Go functions ask of what follows them, as plain functions over the abstract machine; the machine asks just that. Written by gen.py. What Go functions ask of what follows them, as plain functions over the abstract machine; the machine asks just that. Written by gen.py. -/
import Derived.Test.YtkiggdgphbkneaaGreatTopPagesX17
namespace Go.Proofs.YtkiggdgphbkneaaGreat.Am
set_option linter.unusedVariables false
set_option linter.unusedSimpArgs false
set_option linter.constructorNameAsVariable false
set_option maxRecDepth 100000
def E76 : Env := ext E111 111 G111
theorem S76 (w0 : World) : SP w0 E76 := sg (S111 w0) Tryz.func111 Tryz.call111 (Λ := Lam111) 0 trivial 1 ⟨pok111_6102, trivial⟩ (by kernel_rfl) false (fun _ _ _ _ _ _ _ => by kernel_rfl)
def P76_22102 (b_0 o_0 : Nat) (b_1 o_1 : Nat) (m : Mem) (kr : Int → Mem → Prop) : Prop :=
 F60 b_1 o_1 m fun x36 m37 => F59 b_0 o_0 x36 m37 fun m38 => kr (-1) m38
def P76_17103 (b_0 o_0 : Nat) (b_1 o_1 : Nat) (b_5 o_5 : Nat) (x_7 : Int) (x_8 : Bool) (x_9 : Int) (x_10 : Int) (m : Mem) (kr : Int → Mem → Prop) : Prop :=
 kif (x_7 != (-1)) (F74 b_0 o_0 b_1 o_1 x_7 x_8 m fun x29 m30 => kr x29 m30) (F77 b_0 o_0 1 m fun x31 m32 => ldI .i64 m32 b_5 (o_5 + 0) fun x33 => kif (x33 != 60) (ldG 6 m32 b_5 o_5 fun c34 => F111 b_0 o_0 c34 x_9 x_10 m32 fun m35 => P76_22102 b_0 o_0 b_1 o_1 m35 (fun x39 m40 => kr x39 m40)) (P76_22102 b_0 o_0 b_1 o_1 m32 (fun x41 m42 => kr x41 m42)))
def F76 (b_0 o_0 : Nat) (b_1 o_1 : Nat) (c_2 : Nat → AV) (m : Mem) (k : Int → Mem → Prop) : Prop :=
 newK m ⟨6, c_2, 32, false⟩ fun b2 m1 => ldG 6 m1 b2 0 fun c3 => F105 b_0 o_0 c3 m1 fun x4 m5 => kif (x4 != (-1)) (F74 b_0 o_0 b_1 o_1 x4 false m5 fun x6 m7 => k x6 m7) (ldI .i64 m5 b2 1 fun x8 => kif (decide (0 ≤ x8) && decide (x8 < 32)) (ldI .u32 m5 b_0 (o_0 + 0 + (x8).toNat * 1) fun x9 => ldI .i64 m5 b2 2 fun x10 => kif (decide (0 ≤ x10) && decide (x10 < 32)) (ldI .u32 m5 b_0 (o_0 + 0 + (x10).toNat * 1) fun x11 => ldG 6 m5 b2 0 fun c12 => F94 c12 m5 fun x13 m14 => kif (x13 == 4) (ldG 6 m14 b2 0 fun c15 => F106 b_0 o_0 b_1 o_1 c15 m14 fun x16 x17 m18 => P76_17103 b_0 o_0 b_1 o_1 b2 0 x16 x17 x9 x11 m18 (fun x43 m44 => k x43 m44)) (kif (x13 == 5) (ldG 6 m14 b2 0 fun c19 => F107 b_0 o_0 b_1 o_1 c19 m14 fun x20 x21 m22 => P76_17103 b_0 o_0 b_1 o_1 b2 0 x20 x21 x9 x11 m22 (fun x45 m46 => k x45 m46)) (kif (x13 == 6) (ldI .i64 m14 b2 0 fun x23 => kif (x23 == 60) (F108 b_0 o_0 m14 fun m24 => P76_17103 b_0 o_0 b_1 o_1 b2 0 x4 false x9 x11 m24 (fun x47 m48 => k x47 m48)) (ldG 6 m14 b2 0 fun c25 => F109 b_0 o_0 c25 m14 fun m26 => P76_17103 b_0 o_0 b_1 o_1 b2 0 x4 false x9 x11 m26 (fun x49 m50 => k x49 m50))) (ldG 6 m14 b2 0 fun c27 => F110 b_0 o_0 c27 m14 fun m28 => P76_17103 b_0 o_0 b_1 o_1 b2 0 x4 false x9 x11 m28 (fun x51 m52 => k x51 m52))))) False) False)
def G76 := Gs [.p, .p, .g 6] [.i .i64] F76
def D76_17103 : PcD := ⟨[0, 1, 5, 7, 8, 9, 10], [.p, .p, .p, .i .i64, .b, .i .u32, .i .u32], [⟨.ret, [6], [.i .i64], []⟩], P76_17103⟩
def D76_22102 : PcD := ⟨[0, 1], [.p, .p], [⟨.ret, [6], [.i .i64], []⟩], P76_22102⟩
def Lam76 : LEnv := lamOf [] [] [17103, 22102] [(17103, pcK D76_17103), (22102, pcK D76_22102)]
theorem pok76_22102 : PieceOK Tryz.prog E76 Lam76 (nthP Lam76 (bodyOf Tryz.f76) 1) := pc_ok D76_22102 (fun _ _ _ => by kernel_rfl) (by kernel_rfl) (fun _ _ _ _ _ _ => by kernel_rfl)
theorem pok76_17103 : PieceOK Tryz.prog E76 Lam76 (nthP Lam76 (bodyOf Tryz.f76) 0) := pc_ok D76_17103 (fun _ _ _ => by kernel_rfl) (by kernel_rfl) (fun _ _ _ _ _ _ _ _ _ _ _ _ => by kernel_rfl)
def E98 : Env := ext E76 76 G76
theorem S98 (w0 : World) : SP w0 E98 := sg (S76 w0) Tryz.func76 Tryz.call76 (Λ := Lam76) 0 trivial 2 ⟨pok76_17103, pok76_22102, trivial⟩ (by kernel_rfl) false (fun _ _ _ _ _ _ _ => by kernel_rfl)
def F98 (b_0 o_0 : Nat) (v_1 : AV) (m : Mem) (k : Mem → Prop) : Prop :=
 newK m ⟨40, Z40b, 192, false⟩ fun b2 m1 => slS 1 (.sl b2 0 40 (.ex 40)) none none fun v3 => slS 1 (.sl b_0 (o_0 + 0 + 0) 32 (.ex 32)) none none fun v4 => copS 1 v3 v4 m1 fun v5 m6 => ldI .u32 m6 b_0 (o_0 + 0 + 32) fun x7 => ldI .u32 m6 b_0 (o_0 + 0 + 33) fun x8 => stC m6 b2 32 (.flat (.int .u32 x7)) fun m9 => stC m9 b2 33 (.flat (.int .u32 x8)) fun m10 => F127 b2 0 v_1 m10 fun x11 m12 => slS 1 (.sl b_0 (o_0 + 0 + 0) 32 (.ex 32)) none none fun v13 => slS 1 (.sl b2 0 40 (.ex 40)) none none fun v14 => copS 1 v13 v14 m12 fun v15 m16 => ldI .u32 m16 b2 32 fun x17 => ldI .u32 m16 b2 33 fun x18 => stC m16 b_0 (o_0 + 0 + 32) (.flat (.int .u32 x17)) fun m19 => stC m19 b_0 (o_0 + 0 + 33) (.flat (.int .u32 x18)) fun m20 => F77 b_0 (o_0 + 0) 1 m20 fun x21 m22 => ldI .u32 m22 b_0 (o_0 + 0 + 35) fun x23 => stC m22 b_0 (o_0 + 0 + 34) (.flat (.int .u32 x23)) fun m24 => ldI .u32 m24 b_0 (o_0 + 0 + 35) fun x25 => stC m24 b_0 (o_0 + 0 + 35) (.flat (.int .u32 (IntKind.wrap .u32 (x25 + 4)))) fun m26 => stC m26 b_0 (o_0 + 0 + 36) (.flat (.bool false)) fun m27 => ldA m27 b_0 (o_0 + 73) fun v28 => kptr v28 fun b29 o30 => F60 b29 o30 m27 fun x31 m32 => F59 b_0 (o_0 + 0) x31 m32 fun m33 => k  m33
def G98 := Gs [.p, .a] [] F98
def E71 : Env := ext E98 98 G98
theorem S71 (w0 : World) : SP w0 E71 := sg0 (S98 w0) Tryz.func98 Tryz.call98 (by kernel_rfl) false (fun _ _ _ _ _ => by kernel_rfl)
def F71 (b_0 o_0 : Nat) (c_1 : Nat → AV) (v_2 : AV) (m : Mem) (k : Bool → Mem → Prop) : Prop :=
 newK m ⟨6, c_1, 32, false⟩ fun b2 m1 => ldG 6 m1 b2 0 fun c3 => F97 c3 m1 fun x4 m5 => kif x4 (F98 b_0 o_0 v_2 m5 fun m6 => k true m6) (ldA m5 b_0 (o_0 + 73) fun v7 => ldG 6 m5 b2 0 fun c8 => kptr v7 fun b9 o10 => F76 b_0 (o_0 + 0) b9 o10 c8 m5 fun x11 m12 => F39 b_0 o_0 m12 fun m13 => kif (x11 == (-1)) (ldG 6 m13 b2 0 fun c14 => F94 c14 m13 fun x15 m16 => k (x15 != 6) m16) (k false m13))
def G71 := Gs [.p, .g 6, .a] [.b] F71
def E42 : Env := ext E71 71 G71
theorem S42 (w0 : World) : SP w0 E42 := sg0 (S71 w0) Tryz.func71 Tryz.call71 (by kernel_rfl) false (fun _ _ _ _ _ _ => by kernel_rfl)
def P42_9103 (b_0 o_0 : Nat) (x_2 : Int) (b_4 o_4 : Nat) (x_7 : Int) (x_8 : Int) (x_9 : Int) (b_10 o_10 : Nat) (x_11 : Int) (v_21 : AV) (x_22 : Int) (x_23 : Int) (m : Mem) (k0 : Int → Mem → Prop) (kn : Int → Mem → Prop) : Prop :=
 ∃ Fr17 : Nat → Prop, Fr17 b_0 ∧ (ldA m b_0 (o_0 + 73) fun v18 => kptr v18 fun b19 o20 => F30 b19 o20 m fun v21 m22 => KeepsIn Fr17 m m22 ∧ (Fr17 b_4 ∧ (ldI .u32 m22 b_4 (o_4 + 0) fun x23 => kptr v21 fun b24 o25 => F32 b24 o25 (IntKind.wrap .u32 (x23 + x_11)) 4 m22 fun x26 x27 m28 => KeepsIn Fr17 m22 m28 ∧ (kif (!x27) (k0 x_8 m28) (ldA m28 b_4 (o_4 + 1) fun v29 => ksl v29 fun b30 o31 l32 p33 => kif (decide (0 ≤ x_9) && decide (x_9 < l32)) (ldI .u32 m28 b30 (o31 + (x_9).toNat * 1) fun x34 => kif (x26 != x34) (k0 x_8 m28) (ldG 6 m28 b_10 o_10 fun c35 => ldA m28 b_4 (o_4 + 3) fun v36 => ksl v36 fun b37 o38 l39 p40 => kif (decide (0 ≤ x_9) && decide (x_9 < l39)) (ldA m28 b37 (o38 + (x_9).toNat * 1) fun v41 => F71 b_0 o_0 c35 v41 m28 fun x42 m43 => kif (!x42) (k0 (IntKind.wrap .i64 (x_8 + 1)) m43) (kn (IntKind.wrap .i64 (x_8 + 1)) m43)) False)) False)))))
def R42_4 (b_0 o_0 : Nat) (x_2 : Int) (b_4 o_4 : Nat) (x_7 : Int) (v_21 : AV) (x_22 : Int) (x_8 : Int) (x_23 : Int) (m : Mem) (kn : Int → Int → Mem → Prop) (k0 : Int → Mem → Prop) : Prop :=
 kif (decide (x_23 < x_22)) (ksl v_21 fun b6 o7 l8 p9 => kif (decide (0 ≤ x_23) && decide (x_23 < l8)) (ldG 6 m b6 (o7 + (x_23).toNat * 6) fun c10 => newK m ⟨6, Z6, 32, false⟩ fun b12 m11 => stG 6 m11 b12 0 c10 fun m13 => kif (decide (x_8 ≥ x_2)) (k0 x_8 m13) (ldI .u32 m13 b_0 (o_0 + 0 + 34) fun x14 => kif (x14 != (IntKind.wrap .u32 (x_7 + (IntKind.wrap .u32 (IntKind.wrap .i64 (4 * x_23)))))) (k0 x_8 m13) (kif (decide (x_23 > 0)) (F40 b_0 o_0 m13 fun x15 m16 => kif x15 (k0 x_8 m16) (P42_9103 b_0 o_0 x_2 b_4 o_4 x_7 x_8 x_23 b12 0 (IntKind.wrap .u32 (IntKind.wrap .i64 (4 * x_23))) v_21 x_22 x_23 m16 (fun x44 m45 => k0 x44 m45) (fun x46 m47 => kn x46 (IntKind.wrap .i64 (x_23 + 1)) m47))) (P42_9103 b_0 o_0 x_2 b_4 o_4 x_7 x_8 x_23 b12 0 (IntKind.wrap .u32 (IntKind.wrap .i64 (4 * x_23))) v_21 x_22 x_23 m13 (fun x48 m49 => k0 x48 m49) (fun x50 m51 => kn x50 (IntKind.wrap .i64 (x_23 + 1)) m51))))) False) (k0 x_8 m)
def L42_4 (b_0 o_0 : Nat) (x_2 : Int) (b_4 o_4 : Nat) (x_7 : Int) (v_21 : AV) (x_22 : Int) : Nat → Int → Int → Mem → (Int → Mem → Prop) → Prop
 | 0, _, _,  _, _ => bump False
 | N + 1, x_8, x_23,  m, k0 => R42_4 b_0 o_0 x_2 b_4 o_4 x_7 v_21 x_22 x_8 x_23 m (fun x_8' x_23' m' => L42_4 b_0 o_0 x_2 b_4 o_4 x_7 v_21 x_22 N x_8' x_23' m' k0) k0
def F42 (b_0 o_0 : Nat) (c_1 : Nat → AV) (x_2 : Int) (m : Mem) (k : Int → Mem → Prop) : Prop :=
 newK m ⟨4, c_1, 85, false⟩ fun b2 m1 => ldI .u32 m1 b_0 (o_0 + 0 + 34) fun x3 => ldA m1 b2 2 fun v4 => klen v4 fun x5 => ∃ N54, L42_4 b_0 o_0 x_2 b2 0 x3 v4 x5 N54 0 0 m1 (fun x52 m53 => k x52 m53)
def G42 := Gs [.p, .g 4, .i .i64] [.i .i64] F42
def D42_4 : LpD := ⟨[0, 2, 4, 7, 21, 22], [.p, .i .i64, .p, .i .u32, .a, .i .i64], [8, 23], [.i .i64, .i .i64], [⟨.exit 0, [8], [.i .i64], []⟩], R42_4, L42_4⟩
def D42_9103 : PcD := ⟨[0, 2, 4, 7, 8, 9, 10, 11, 21, 22, 23], [.p, .i .i64, .p, .i .u32, .i .i64, .i .i64, .p, .i .u32, .a, .i .i64, .i .i64], [⟨.exit 0, [8], [.i .i64], []⟩, ⟨.normal, [8], [.i .i64], [0, 2, 4, 7, 21, 22, 23]⟩], P42_9103⟩
def Lam42 : LEnv := lamOf [(4, lpK D42_4)] [9] [9103] [(9103, pcK D42_9103)]
theorem pok42_9103 : PieceOK Tryz.prog E42 Lam42 (nthP Lam42 (bodyOf Tryz.f42) 0) := pc_ok D42_9103 (fun _ _ _ => by kernel_rfl) (by kernel_rfl) (fun _ _ _ _ _ _ _ _ _ _ _ _ _ _ _ _ => by kernel_rfl)
theorem lok42_4 : LoopOK Tryz.prog E42 Lam42 (nthL (bodyOf Tryz.f42) 0) := lp_ok D42_4 (fun _ _ _ => by kernel_rfl) (by kernel_rfl) (fun _ _ _ _ _ _ _ _ _ _ _ _ _ => by kernel_rfl) (fun _ _ _ _ _ _ _ _ _ _ _ _ _ _ => by kernel_rfl) (fun _ _ _ _ _ _ _ _ _ _ _ _ _ => by kernel_rfl)
def E99 : Env := ext E42 42 G42
theorem S99 (w0 : World) : SP w0 E99 := sg (S42 w0) Tryz.func42 Tryz.call42 (Λ := Lam42) 1 ⟨lok42_4, trivial⟩ 1 ⟨pok42_9103, trivial⟩ (by kernel_rfl) false (fun _ _ _ _ _ _ => by kernel_rfl)
def F99 (b_0 o_0 : Nat) (x_1 : Int) (m : Mem) (k : (Nat → AV) → Bool → Mem → Prop) : Prop :=
 newK m ⟨3, lget [(.flat (.int .i64 0)), (.flat (.int .i64 0)), (.flat (.int .i64 0))], 158, false⟩ fun b2 m1 => F89 b_0 o_0 m1 fun x3 x4 m5 => kif (!x4) (stG 3 m5 b2 0 (lget [(.flat (.int .i64 0)), (.flat (.int .i64 0)), (.flat (.int .i64 0))]) fun m6 => ldG 3 m6 b2 0 fun c18 => k c18 false m6) (kif (decide (x3 > x_1)) (stG 3 m5 b2 0 (lget [(.flat (.int .i64 0)), (.flat (.int .i64 0)), (.flat (.int .i64 0))]) fun m7 => ldG 3 m7 b2 0 fun c19 => k c19 false m7) (ldA m5 b_0 (o_0 + 0) fun v8 => ksl v8 fun b9 o10 l11 p12 => kif (decide (0 ≤ (0 : Int)) && decide ((0 : Int) < l11)) (ldG 3 m5 b9 (o10 + 0) fun c13 => newK m5 ⟨3, lget [(.flat (.int .i64 0)), (.flat (.int .i64 0)), (.flat (.int .i64 0))], 158, false⟩ fun b15 m14 => stG 3 m14 b15 0 c13 fun m16 => ldA m16 b_0 (o_0 + 0) fun v17 => bump False) False))
def G99 := Gs [.p, .i .i64] [.g 3, .b] F99
def E100 : Env := ext E99 99 G99
theorem S100 (w0 : World) : SP w0 E100 := sg0 (S99 w0) Tryz.func99 Tryz.call99 (by kernel_rfl) false (fun _ _ _ _ _ => by kernel_rfl)
def F100 (b_0 o_0 : Nat) (c_1 : Nat → AV) (m : Mem) (k : Mem → Prop) : Prop :=
 newK m ⟨3, c_1, 158, false⟩ fun b2 m1 => ldI .i64 m1 b2 1 fun x3 => kif (x3 == 1) (ldA m1 b_0 (o_0 + 3) fun v4 => ldI .i64 m1 b2 0 fun x5 => bump False) (kif (x3 == 2) (ldA m1 b_0 (o_0 + 4) fun v6 => ldI .i64 m1 b2 0 fun x7 => bump False) (kif (x3 == 3) (ldA m1 b_0 (o_0 + 5) fun v8 => ldI .i64 m1 b2 0 fun x9 => bump False) (kif (x3 == 4) (ldA m1 b_0 (o_0 + 6) fun v10 => ldI .i64 m1 b2 0 fun x11 => bump False) (kif (x3 == 5) (ldA m1 b_0 (o_0 + 7) fun v12 => ldI .i64 m1 b2 0 fun x13 => bump False) (k  m1)))))
def G100 := Gs [.p, .g 3] [] F100
def E72 : Env := ext E100 100 G100
theorem S72 (w0 : World) : SP w0 E72 := sg0 (S100 w0) Tryz.func100 Tryz.call100 (by kernel_rfl) false (fun _ _ _ _ _ => by kernel_rfl)
def R72_2 (b_0 o_0 : Nat) (x_1 : Int) (x_5 : Int) (m : Mem) (kn : Int → Mem → Prop) (k0 : Int → Mem → Prop) : Prop :=
 kif (decide (x_5 < 256)) (ldA m b_0 (o_0 + 1) fun v1 => kptr v1 fun b2 o3 => F99 b2 o3 x_1 m fun c4 x5 m6 => newK m6 ⟨3, lget [(.flat (.int .i64 0)), (.flat (.int .i64 0)), (.flat (.int .i64 0))], 158, false⟩ fun b8 m7 => stG 3 m7 b8 0 c4 fun m9 => kif (!x5) (k0 x_5 m9) (ldG 3 m9 b8 0 fun c10 => F100 b_0 o_0 c10 m9 fun m11 => kn (IntKind.wrap .i64 (x_5 + 1)) m11)) (k0 x_5 m)
def L72_2 (b_0 o_0 : Nat) (x_1 : Int) : Nat → Int → Mem → (Int → Mem → Prop) → Prop
 | 0, _,  _, _ => bump False
 | N + 1, x_5,  m, k0 => R72_2 b_0 o_0 x_1 x_5 m (fun x_5' m' => L72_2 b_0 o_0 x_1 N x_5' m' k0) k0
def F72 (b_0 o_0 : Nat) (x_1 : Int) (m : Mem) (k : Int → Mem → Prop) : Prop :=
 ∃ N14, L72_2 b_0 o_0 x_1 N14 0 m (fun x12 m13 => F101 b_0 o_0 m13 fun m15 => k x12 m15)
def G72 := Gs [.p, .i .i64] [.i .i64] F72
def D72_2 : LpD := ⟨[0, 1], [.p, .i .i64], [5], [.i .i64], [⟨.exit 0, [5], [.i .i64], [0]⟩], R72_2, L72_2⟩
def Lam72 : LEnv := lamOf [(2, lpK D72_2)] [] [] []
theorem lok72_2 : LoopOK Tryz.prog E72 Lam72 (nthL (bodyOf Tryz.f72) 0) := lp_ok D72_2 (fun _ _ _ => by kernel_rfl) (by kernel_rfl) (fun _ _ _ _ _ _ _ => by kernel_rfl) (fun _ _ _ _ _ _ _ _ => by kernel_rfl) (fun _ _ _ _ _ _ _ => by kernel_rfl)
def E75 : Env := ext E72 72 G72
theorem S75 (w0 : World) : SP w0 E75 := sg (S72 w0) Tryz.func72 Tryz.call72 (Λ := Lam72) 1 ⟨lok72_2, trivial⟩ 0 trivial (by kernel_rfl) false (fun _ _ _ _ _ => by kernel_rfl)
def F75 (b_0 o_0 : Nat) (b_1 o_1 : Nat) (m : Mem) (k : (Nat → AV) → Int → Bool → Mem → Prop) : Prop :=
 newK m ⟨6, Z6, 32, false⟩ fun b2 m1 => ldI .u32 m1 b_0 (o_0 + 34) fun x3 => F62 b_0 o_0 x3 4 false m1 fun x4 x5 x6 m7 => kif (x5 != (-1)) (ldI .u32 m7 b_0 (o_0 + 34) fun x8 => F103 b_0 o_0 x8 x5 m7 fun m9 => stG 6 m9 b2 0 (Z6) fun m10 => ldG 6 m10 b2 0 fun c19 => k c19 x5 x6 m10) (ldI .i64 m7 b_0 (o_0 + 72) fun x11 => F104 b_1 o_1 x4 4 x11 m7 fun x12 x13 m14 => kif (!x13) (stG 6 m14 b2 0 (Z6) fun m15 => ldG 6 m15 b2 0 fun c20 => k c20 6 false m15) (F93 x12 m14 fun c16 m17 => stG 6 m17 b2 0 c16 fun m18 => ldG 6 m18 b2 0 fun c21 => k c21 (-1) false m18))
def G75 := Gs [.p, .p] [.g 6, .i .i64, .b] F75
def E43 : Env := ext E75 75 G75
theorem S43 (w0 : World) : SP w0 E43 := sg0 (S75 w0) Tryz.func75 Tryz.call75 (by kernel_rfl) false (fun _ _ _ _ _ _ => by kernel_rfl)
def P43_7102 (b_0 o_0 : Nat) (b_1 o_1 : Nat) (m : Mem) (kr : Int → Mem → Prop) : Prop :=
 stC m b_0 (o_0 + 71) (.flat (.bool false)) fun m10 => F61 b_0 o_0 m10 fun x11 m12 => kif x11 (F74 b_0 o_0 b_1 o_1 0 false m12 fun x13 m14 => kr x13 m14) (F75 b_0 o_0 b_1 o_1 m12 fun c15 x16 x17 m18 => newK m18 ⟨6, Z6, 32, false⟩ fun b20 m19 => stG 6 m19 b20 0 c15 fun m21 => kif (x16 != (-1)) (F74 b_0 o_0 b_1 o_1 x16 x17 m21 fun x22 m23 => kr x22 m23) (ldG 6 m21 b20 0 fun c24 => F76 b_0 o_0 b_1 o_1 c24 m21 fun x25 m26 => kr x25 m26))
def F43 (b_0 o_0 : Nat) (b_1 o_1 : Nat) (m : Mem) (k : Int → Mem → Prop) : Prop :=
 ldI .i64 m b_0 (o_0 + 72) fun x1 => F72 b_1 o_1 x1 m fun x2 m3 => F60 b_1 o_1 m3 fun x4 m5 => F59 b_0 o_0 x4 m5 fun m6 => ldB m6 b_0 (o_0 + 71) fun x7 => kif x7 (F73 b_0 o_0 m6 fun x8 m9 => kif (!x8) (k (-2) m9) (P43_7102 b_0 o_0 b_1 o_1 m9 (fun x27 m28 => k x27 m28))) (P43_7102 b_0 o_0 b_1 o_1 m6 (fun x29 m30 => k x29 m30))
def G43 := Gs [.p, .p] [.i .i64] F43
def D43_7102 : PcD := ⟨[0, 1], [.p, .p], [⟨.ret, [4], [.i .i64], []⟩], P43_7102⟩
def Lam43 : LEnv := lamOf [] [] [7102] [(7102, pcK D43_7102)]
theorem pok43_7102 : PieceOK Tryz.prog E43 Lam43 (nthP Lam43 (bodyOf Tryz.f43) 0) := pc_ok D43_7102 (fun _ _ _ => by kernel_rfl) (by kernel_rfl) (fun _ _ _ _ _ _ => by kernel_rfl)
def E44 : Env := ext E43 43 G43
theorem S44 (w0 : World) : SP w0 E44 := sg (S43 w0) Tryz.func43 Tryz.call43 (Λ := Lam43) 0 trivial 1 ⟨pok43_7102, trivial⟩ (by kernel_rfl) false (fun _ _ _ _ _ _ => by kernel_rfl)
def P44_15102 (b_0 o_0 : Nat) (x_11 : Int) (m : Mem) (kr : Int → Bool → Mem → Prop) : Prop :=
 F77 b_0 o_0 x_11 m fun x12 m13 => kr x_11 true m13
def P44_14002 (b_0 o_0 : Nat) (x_11 : Int) (x_12 : Int) (m : Mem) (kn : Int → Mem → Prop) : Prop :=
 kn (if x_12 < x_11 then x_12 else x_11) m
def P44_10103 (b_0 o_0 : Nat) (x_10 : Bool) (x_11 : Int) (m : Mem) (kr : Int → Bool → Mem → Prop) : Prop :=
 kif x_10 (ldI .u32 m b_0 (o_0 + 39 + 11) fun x6 => ldI .u32 m b_0 (o_0 + 39 + 9) fun x7 => kif ((IntKind.wrap .i64 (IntKind.wrap .u32 (x6 - x7))) == 0) (P44_14002 b_0 o_0 x_11 4294967296 m (fun x8 m9 => P44_15102 b_0 o_0 x8 m9 (fun x14 x15 m16 => kr x14 x15 m16))) (P44_14002 b_0 o_0 x_11 (IntKind.wrap .i64 (IntKind.wrap .u32 (x6 - x7))) m (fun x10 m11 => P44_15102 b_0 o_0 x10 m11 (fun x17 x18 m19 => kr x17 x18 m19)))) (P44_15102 b_0 o_0 x_11 m (fun x20 x21 m22 => kr x20 x21 m22))
def P44_7102 (b_0 o_0 : Nat) (x_2 : Int) (x_8 : Int) (x_9 : Bool) (x_10 : Bool) (m : Mem) (kr : Int → Bool → Mem → Prop) : Prop :=
 kif x_9 (ldI .i64 m b_0 (o_0 + 72) fun x5 => P44_10103 b_0 o_0 x_10 (if (if (IntKind.wrap .i64 (x_8 - x5)) > 1 then (IntKind.wrap .i64 (x_8 - x5)) else 1) < x_2 then (if (IntKind.wrap .i64 (x_8 - x5)) > 1 then (IntKind.wrap .i64 (x_8 - x5)) else 1) else x_2) m (fun x23 x24 m25 => kr x23 x24 m25)) (P44_10103 b_0 o_0 x_10 x_2 m (fun x26 x27 m28 => kr x26 x27 m28))
def F44 (b_0 o_0 : Nat) (b_1 o_1 : Nat) (x_2 : Int) (m : Mem) (k : Int → Bool → Mem → Prop) : Prop :=
 F58 b_1 o_1 m fun x1 x2 m3 => ldI .u32 m3 b_0 (o_0 + 39 + 12) fun x4 => kif (!x2) (kif (!((bits .and .u32 x4 32768) != 0)) (k 0 false m3) (P44_7102 b_0 o_0 x_2 x1 x2 ((bits .and .u32 x4 32768) != 0) m3 (fun x29 x30 m31 => k x29 x30 m31))) (P44_7102 b_0 o_0 x_2 x1 x2 ((bits .and .u32 x4 32768) != 0) m3 (fun x32 x33 m34 => k x32 x33 m34))
def G44 := Gs [.p, .p, .i .i64] [.i .i64, .b] F44
def D44_7102 : PcD := ⟨[0, 2, 8, 9, 10], [.p, .i .i64, .i .i64, .b, .b], [⟨.ret, [6, 7], [.i .i64, .b], []⟩], P44_7102⟩
def D44_10103 : PcD := ⟨[0, 10, 11], [.p, .b, .i .i64], [⟨.ret, [6, 7], [.i .i64, .b], []⟩], P44_10103⟩
def D44_14002 : PcD := ⟨[0, 11, 12], [.p, .i .i64, .i .i64], [⟨.normal, [11], [.i .i64], [0]⟩], P44_14002⟩
def D44_15102 : PcD := ⟨[0, 11], [.p, .i .i64], [⟨.ret, [6, 7], [.i .i64, .b], []⟩], P44_15102⟩
def Lam44 : LEnv := lamOf [] [] [7102, 10103, 14002, 15102] [(7102, pcK D44_7102), (10103, pcK D44_10103), (14002, pcK D44_14002), (15102, pcK D44_15102)]
theorem pok44_15102 : PieceOK Tryz.prog E44 Lam44 (nthP Lam44 (bodyOf Tryz.f44) 2) := pc_ok D44_15102 (fun _ _ _ => by kernel_rfl) (by kernel_rfl) (fun _ _ _ _ _ => by kernel_rfl)
theorem pok44_14002 : PieceOK Tryz.prog E44 Lam44 (nthP Lam44 (bodyOf Tryz.f44) 3) := pc_ok D44_14002 (fun _ _ _ => by kernel_rfl) (by kernel_rfl) (fun _ _ _ _ _ _ => by kernel_rfl)
theorem pok44_10103 : PieceOK Tryz.prog E44 Lam44 (nthP Lam44 (bodyOf Tryz.f44) 1) := pc_ok D44_10103 (fun _ _ _ => by kernel_rfl) (by kernel_rfl) (fun _ _ _ _ _ _ => by kernel_rfl)
theorem pok44_7102 : PieceOK Tryz.prog E44 Lam44 (nthP Lam44 (bodyOf Tryz.f44) 0) := pc_ok D44_7102 (fun _ _ _ => by kernel_rfl) (by kernel_rfl) (fun _ _ _ _ _ _ _ _ => by kernel_rfl)
def E25 : Env := ext E44 44 G44
theorem S25 (w0 : World) : SP w0 E25 := sg (S44 w0) Tryz.func44 Tryz.call44 (Λ := Lam44) 0 trivial 4 ⟨pok44_7102, pok44_10103, pok44_15102, pok44_14002, trivial⟩ (by kernel_rfl) false (fun _ _ _ _ _ _ _ => by kernel_rfl)
def P25_9102 (b_0 o_0 : Nat) (x_1 : Int) (x_6 : Int) (m : Mem) (k1 : Int → Mem → Prop) (kr : Int → Int → Mem → Prop) (kn : Int → Mem → Prop) : Prop :=
 ldA m b_0 (o_0 + 73) fun v22 => kptr v22 fun b23 o24 => F43 b_0 (o_0 + 0) b23 o24 m fun x25 m26 => F39 b_0 o_0 m26 fun m27 => kif (x25 != (-2)) (k1 (IntKind.wrap .i64 (x_6 + 1)) m27) (ldA m27 b_0 (o_0 + 73) fun v28 => kptr v28 fun b29 o30 => F44 b_0 (o_0 + 0) b29 o30 (IntKind.wrap .i64 (x_1 - x_6)) m27 fun x31 x32 m33 => kif (!x32) (kr 2 x_6 m33) (kn (IntKind.wrap .i64 (x_6 + x31)) m33))
def P25_6004 (b_0 o_0 : Nat) (x_1 : Int) (x_6 : Int) (x_29 : Bool) (m : Mem) (k1 : Int → Mem → Prop) (kn : Int → Mem → Prop) : Prop :=
 kif x_29 (F41 b_0 o_0 m fun c5 x6 m7 => newK m7 ⟨4, lget [(.flat (.int .u32 0)), (.flat (.slice none 0 0)), (.flat (.slice none 0 0)), (.flat (.slice none 0 0))], 85, false⟩ fun b9 m8 => stG 4 m8 b9 0 c5 fun m10 => kif x6 (ldG 4 m10 b9 0 fun c11 => F42 b_0 o_0 c11 (IntKind.wrap .i64 (x_1 - x_6)) m10 fun x12 m13 => k1 (IntKind.wrap .i64 (x_6 + x12)) m13) (kn x_6 m10)) (kn x_6 m)
def R25_3 (b_0 o_0 : Nat) (x_1 : Int) (x_6 : Int) (m : Mem) (kn : Int → Mem → Prop) (k0 : Int → Mem → Prop) (kr : Int → Int → Mem → Prop) : Prop :=
 kif (decide (x_6 < x_1)) (F39 b_0 o_0 m fun m1 => ldB m1 b_0 (o_0 + 0 + 36) fun x2 => kif (!x2) (F40 b_0 o_0 m1 fun x3 m4 => P25_6004 b_0 o_0 x_1 x_6 (!x3) m4 (fun x14 m15 => kn x14 m15) (fun x16 m17 => P25_9102 b_0 o_0 x_1 x16 m17 (fun x34 m35 => kn x34 m35) (fun x36 x37 m38 => kr x36 x37 m38) (fun x39 m40 => kn x39 m40))) (P25_6004 b_0 o_0 x_1 x_6 false m1 (fun x18 m19 => kn x18 m19) (fun x20 m21 => P25_9102 b_0 o_0 x_1 x20 m21 (fun x41 m42 => kn x41 m42) (fun x43 x44 m45 => kr x43 x44 m45) (fun x46 m47 => kn x46 m47)))) (k0 x_6 m)
def L25_3 (b_0 o_0 : Nat) (x_1 : Int) : Nat → Int → Mem → (Int → Mem → Prop) → (Int → Int → Mem → Prop) → Prop
 | 0, _,  _, _, _ => bump False
 | N + 1, x_6,  m, k0, kr => R25_3 b_0 o_0 x_1 x_6 m (fun x_6' m' => L25_3 b_0 o_0 x_1 N x_6' m' k0 kr) k0 kr
def F25 (b_0 o_0 : Nat) (x_1 : Int) (m : Mem) (k : Int → Int → Mem → Prop) : Prop :=
 ∃ N53, L25_3 b_0 o_0 (if 1099511627776 < x_1 then 1099511627776 else x_1) N53 0 m (fun x48 m49 => k 1 x48 m49) (fun x50 x51 m52 => k x50 x51 m52)
def G25 := Gs [.p, .i .i64] [.i .i64, .i .i64] F25
def D25_3 : LpD := ⟨[0, 1], [.p, .i .i64], [6], [.i .i64], [⟨.exit 0, [6], [.i .i64], []⟩, ⟨.ret, [4, 5], [.i .i64, .i .i64], []⟩], R25_3, L25_3⟩
def D25_6004 : PcD := ⟨[0, 1, 6, 29], [.p, .i .i64, .i .i64, .b], [⟨.exit 1, [6], [.i .i64], [0, 1]⟩, ⟨.normal, [6], [.i .i64], [0, 1]⟩], P25_6004⟩
def D25_9102 : PcD := ⟨[0, 1, 6], [.p, .i .i64, .i .i64], [⟨.exit 1, [6], [.i .i64], [0, 1]⟩, ⟨.ret, [4, 5], [.i .i64, .i .i64], []⟩, ⟨.normal, [6], [.i .i64], [0, 1]⟩], P25_9102⟩
def Lam25 : LEnv := lamOf [(3, lpK D25_3)] [] [6004, 9102] [(6004, pcK D25_6004), (9102, pcK D25_9102)]
theorem pok25_9102 : PieceOK Tryz.prog E25 Lam25 (nthP Lam25 (bodyOf Tryz.f25) 0) := pc_ok D25_9102 (fun _ _ _ => by kernel_rfl) (by kernel_rfl) (fun _ _ _ _ _ _ => by kernel_rfl)
theorem pok25_6004 : PieceOK Tryz.prog E25 Lam25 (nthP Lam25 (bodyOf Tryz.f25) 1) := pc_ok D25_6004 (fun _ _ _ => by kernel_rfl) (by kernel_rfl) (fun _ _ _ _ _ _ _ => by kernel_rfl)
theorem lok25_3 : LoopOK Tryz.prog E25 Lam25 (nthL (bodyOf Tryz.f25) 0) := lp_ok D25_3 (fun _ _ _ => by kernel_rfl) (by kernel_rfl) (fun _ _ _ _ _ _ _ => by kernel_rfl) (fun _ _ _ _ _ _ _ _ => by kernel_rfl) (fun _ _ _ _ _ _ _ => by kernel_rfl)
def E26 : Env := ext E25 25 G25
theorem S26 (w0 : World) : SP w0 E26 := sg (S25 w0) Tryz.func25 Tryz.call25 (Λ := Lam25) 1 ⟨lok25_3, trivial⟩ 2 ⟨pok25_9102, pok25_6004, trivial⟩ (by kernel_rfl) false (fun _ _ _ _ _ => by kernel_rfl)
def F26 (b_0 o_0 : Nat) (m : Mem) (k : (Nat → AV) → Mem → Prop) : Prop :=
 newK m ⟨73, Z73, 46, false⟩ fun b2 m1 => ldG 73 m1 b_0 (o_0 + 0) fun c3 => stG 73 m1 b2 0 c3 fun m4 => ldG 73 m4 b2 0 fun c5 => (Keeps m m4 ∧ InDomG 73 m c5 ∧ k c5 m)
def G26 := Gs [.p] [.g 73] F26
def E27 : Env := ext E26 26 G26
theorem S27 (w0 : World) : SP w0 E27 := sg0 (S26 w0) Tryz.func26 Tryz.call26 (by kernel_rfl) true (fun _ _ _ _ => by kernel_rfl)
def F27  (m : Mem) (k : Bool → Mem → Prop) : Prop :=
 F21 47 1 0 5 m fun c1 m2 => newK m2 ⟨6, splice (Z6) 0 6 c1, 32, false⟩ fun b4 m3 => F16 (.sl b4 0 1 (.ex 1)) m3 fun v5 m6 => F23 v5 (.flat (.slice none 0 0)) 4 m6 fun v7 m8 => knilP v7 fun x9 => kif x9 (k false m8) (kptr v7 fun b10 o11 => F25 b10 o11 3 m8 fun x12 x13 m14 => kif (x12 == 1) (kif (x13 == 3) (kptr v7 fun b15 o16 => F26 b15 o16 m14 fun c17 m18 => kI .u32 ((sub c17 0 32) 1) fun x19 => k (x19 == 5) m18) (k false m14)) (k false m14))
def G27 := Gs [] [.b] F27
def E28 : Env := ext E27 27 G27
theorem S28 (w0 : World) : SP w0 E28 := sg0 (S27 w0) Tryz.func27 Tryz.call27 (by kernel_rfl) false (fun _ _ => by kernel_rfl)
def F28 (x_0 : Int) (x_1 : Int) (x_2 : Int) (x_3 : Int) (m : Mem) (k : (Nat → AV) → Mem → Prop) : Prop :=
 newK m ⟨6, Z6, 32, false⟩ fun b2 m1 => stG 6 m1 b2 0 (upd (upd (upd (upd (Z6) 0 (.flat (.int .i64 x_0))) 3 (.flat (.int .i64 x_1))) 1 (.flat (.int .i64 x_2))) 2 (.flat (.int .i64 x_3))) fun m3 => ldG 6 m3 b2 0 fun c4 => (Keeps m m3 ∧ InDomG 6 m c4 ∧ k c4 m)
def G28 := Gs [.i .i64, .i .i64, .i .i64, .i .i64] [.g 6] F28
def E5 : Env := ext E28 28 G28
theorem S5 (w0 : World) : SP w0 E5 := sg0 (S28 w0) Tryz.func28 Tryz.call28 (by kernel_rfl) true (fun _ _ _ _ _ _ => by kernel_rfl)
def R5_11 (x_0 : Int) (x_1 : Int) (x_2 : Int) (v_9 : AV) (v_11 : AV) (v_60 : AV) (x_61 : Int) (x_62 : Int) (m : Mem) (kn : Int → Mem → Prop) (k2 : Mem → Prop) : Prop :=
 kif (decide (x_62 < x_61)) (ksl v_60 fun b39 o40 l41 p42 => kif (decide (0 ≤ x_62) && decide (x_62 < l41)) (ldI .u32 m b39 (o40 + (x_62).toNat * 1) fun x43 => kptr v_11 fun b44 o45 => F29 b44 o45 m fun v46 m47 => kptr v46 fun b48 o49 => F30 b48 o49 m47 fun v50 m51 => F21 47 5 0 x43 m51 fun c52 m53 => newK m53 ⟨18, splice (splice (splice (Z18) 0 6 c52) 6 6 (upd (upd (Z6) 0 (.flat (.int .i64 7))) 1 (.flat (.int .i64 31)))) 12 6 (upd (Z6) 0 (.flat (.int .i64 1))), 32, false⟩ fun b55 m54 => F16 (.sl b55 0 3 (.ex 3)) m54 fun v56 m57 => kptr v50 fun b58 o59 => F31 b58 o59 (IntKind.wrap .u32 (IntKind.wrap .i64 (2048 + (IntKind.wrap .i64 (x_62 * 1024))))) v56 m57 fun x60 m61 => kn (IntKind.wrap .i64 (x_62 + 1)) m61) False) (k2  m)
def L5_11 (x_0 : Int) (x_1 : Int) (x_2 : Int) (v_9 : AV) (v_11 : AV) (v_60 : AV) (x_61 : Int) : Nat → Int → Mem → (Mem → Prop) → Prop
 | 0, _,  _, _ => bump False
 | N + 1, x_62,  m, k2 => R5_11 x_0 x_1 x_2 v_9 v_11 v_60 x_61 x_62 m (fun x_62' m' => L5_11 x_0 x_1 x_2 v_9 v_11 v_60 x_61 N x_62' m' k2) k2
def R5_3 (x_0 : Int) (x_1 : Int) (x_2 : Int) (x_3 : Int) (v_9 : AV) (x_10 : Int) (m : Mem) (kn : AV → Int → Mem → Prop) (k0 : AV → Mem → Prop) : Prop :=
 kif (decide (x_10 < 2)) (F18 2 (bits .or .u32 (bits .or .u32 (IntKind.wrap .u32 (IntKind.wrap .i64 (2048 + (IntKind.wrap .i64 (x_10 * 1024))))) 1) 4) m fun v9 m10 => F21 68 (IntKind.wrap .i64 (10 + x_10)) 1 4 m10 fun c11 m12 => F28 23 (IntKind.wrap .i64 (12 + x_10)) 5 0 m12 fun c13 m14 => newK m14 ⟨36, splice (splice (splice (splice (splice (splice (Z36) 0 6 (upd (upd (upd (Z6) 0 (.flat (.int .i64 55))) 2 (.flat (.int .i64 2))) 3 (.flat (.int .i64 2)))) 6 6 (upd (Z6) 0 (.flat (.int .i64 57)))) 12 6 c11) 18 6 (upd (upd (upd (Z6) 0 (.flat (.int .i64 8))) 3 (.flat (.int .i64 31))) 1 (.flat (.int .i64 1)))) 24 6 (upd (Z6) 0 (.flat (.int .i64 1)))) 30 6 c13, 32, false⟩ fun b16 m15 => kif (AV.one v_9) (kif (AV.one v9) (newK m15 ⟨3, upd (upd (upd (lget [(.flat (.slice none 0 0)), (.flat (.slice none 0 0)), (.flat (.slice none 0 0))]) 0 v_9) 1 v9) 2 (.sl b16 0 6 (.ex 6)), 26, false⟩ fun b18 m17 => F17 (.sl b18 0 3 (.ex 3)) m17 fun v19 m20 => kn v19 (IntKind.wrap .i64 (x_10 + 1)) m20) False) False) (k0 v_9 m)
def L5_3 (x_0 : Int) (x_1 : Int) (x_2 : Int) (x_3 : Int) : Nat → AV → Int → Mem → (AV → Mem → Prop) → Prop
 | 0, _, _,  _, _ => bump False
 | N + 1, v_9, x_10,  m, k0 => R5_3 x_0 x_1 x_2 x_3 v_9 x_10 m (fun v_9' x_10' m' => L5_3 x_0 x_1 x_2 x_3 N v_9' x_10' m' k0) k0
def F5 (x_0 : Int) (x_1 : Int) (x_2 : Int) (x_3 : Int) (m : Mem) (k : Bool → Mem → Prop) : Prop :=
 F18 1 16384 m fun v1 m2 => newK m2 ⟨6, splice (Z6) 0 6 (upd (upd (upd (Z6) 0 (.flat (.int .i64 55))) 2 (.flat (.int .i64 1))) 3 (.flat (.int .i64 10))), 32, false⟩ fun b4 m3 => kif (AV.one v1) (newK m3 ⟨2, upd (upd (lget [(.flat (.slice none 0 0)), (.flat (.slice none 0 0))]) 0 v1) 1 (.sl b4 0 1 (.ex 1)), 26, false⟩ fun b6 m5 => F17 (.sl b6 0 2 (.ex 2)) m5 fun v7 m8 => ∃ N23, L5_3 x_0 x_1 x_2 x_3 N23 v7 0 m8 (fun v21 m22 => F19  m22 fun v24 m25 => kif (AV.one v21) (kif (AV.one v24) (newK m25 ⟨2, upd (upd (lget [(.flat (.slice none 0 0)), (.flat (.slice none 0 0))]) 0 v21) 1 v24, 26, false⟩ fun b27 m26 => F17 (.sl b27 0 2 (.ex 2)) m26 fun v28 m29 => F16 v28 m29 fun v30 m31 => F15 x_3 1 6 m31 fun x32 m33 => F23 v30 (.flat (.slice none 0 0)) x32 m33 fun v34 m35 => knilP v34 fun x36 => kif x36 (k false m35) (newK m35 ⟨2, upd (upd (lget [(.flat (.int .u32 0)), (.flat (.int .u32 0))]) 0 (.flat (.int .u32 (bits .and .u32 x_0 32767)))) 1 (.flat (.int .u32 (bits .and .u32 x_1 32767))), 22, false⟩ fun b38 m37 => ∃ N63, L5_11 x_0 x_1 x_2 v28 v34 (.sl b38 0 2 (.ex 2)) 2 N63 0 m37 (fun m62 => kptr v34 fun b64 o65 => F24 b64 o65 x_2 m62 fun m66 => klen v28 fun x67 => kptr v34 fun b68 o69 => F25 b68 o69 (IntKind.wrap .i64 (x67 + 12)) m66 fun x70 x71 m72 => kptr v34 fun b73 o74 => F26 b73 o74 m72 fun c75 m76 => newK m76 ⟨73, Z73, 46, false⟩ fun b78 m77 => stG 73 m77 b78 0 c75 fun m79 => ldI .u32 m79 b78 12 fun x80 => kif (x80 == (bits .and .u32 x_0 32767)) (ldI .u32 m79 b78 13 fun x81 => kif (x81 == (bits .and .u32 x_1 32767)) (ldI .u32 m79 b78 10 fun x82 => kif (x82 == 65011720) (ldI .u32 m79 b78 11 fun x83 => kif (x83 == 65011720) (F27  m79 fun x84 m85 => k x84 m85) (k false m79)) (k false m79)) (k false m79)) (k false m79)))) False) False)) False
def G5 := Gs [.i .u32, .i .u32, .i .i64, .i .i64] [.b] F5
def D5_3 : LpD := ⟨[0, 1, 2, 3], [.i .u32, .i .u32, .i .i64, .i .i64], [9, 10], [.a, .i .i64], [⟨.exit 0, [9], [.a], [0, 1, 2, 3]⟩], R5_3, L5_3⟩
def D5_11 : LpD := ⟨[0, 1, 2, 9, 11, 60, 61], [.i .u32, .i .u32, .i .i64, .a, .a, .a, .i .i64], [62], [.i .i64], [⟨.exit 2, [], [], [0, 1, 2, 9, 11]⟩], R5_11, L5_11⟩
def Lam5 : LEnv := lamOf [(3, lpK D5_3), (11, lpK D5_11)] [] [] []
theorem lok5_11 : LoopOK Tryz.prog E5 Lam5 (nthL (bodyOf Tryz.f5) 1) := lp_ok D5_11 (fun _ _ _ => by kernel_rfl) (by kernel_rfl) (fun _ _ _ _ _ _ _ _ _ _ _ => by kernel_rfl) (fun _ _ _ _ _ _ _ _ _ _ _ _ => by kernel_rfl) (fun _ _ _ _ _ _ _ _ _ _ _ => by kernel_rfl)
theorem lok5_3 : LoopOK Tryz.prog E5 Lam5 (nthL (bodyOf Tryz.f5) 0) := lp_ok D5_3 (fun _ _ _ => by kernel_rfl) (by kernel_rfl) (fun _ _ _ _ _ _ _ _ _ => by kernel_rfl) (fun _ _ _ _ _ _ _ _ _ _ => by kernel_rfl) (fun _ _ _ _ _ _ _ _ _ => by kernel_rfl)
theorem fs5 (w0 : World) : FS Tryz.prog w0 5 G5 := fs_sig (S5 w0) Tryz.func5 Tryz.call5 (Λ := Lam5) 2 ⟨lok5_3, lok5_11, trivial⟩ 0 trivial (by kernel_rfl) false (fun _ _ _ _ _ _ => by kernel_rfl)
end Go.Proofs.YtkiggdgphbkneaaGreat.Am
