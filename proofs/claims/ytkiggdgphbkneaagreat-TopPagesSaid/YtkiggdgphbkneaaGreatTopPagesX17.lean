/- What Go functions ask of what follows them, as plain functions over the abstract machine; the machine asks just that. Written by gen.py. What Go functions ask of what follows them, as plain functions over the abstract machine; the machine asks just that. Written by gen.py. What Go functions ask of what follows them, as plain functions over the abstract machine; the machine asks just that. Written by gen.py. What Go functions ask of what follows them, as plain functions over the abstract machine; the machine asks just that. Written by gen.py. -/
import Derived.Test.YtkiggdgphbkneaaGreatTopPagesX16
namespace Go.Proofs.YtkiggdgphbkneaaGreat.Am
set_option linter.unusedVariables false
set_option linter.unusedSimpArgs false
set_option linter.constructorNameAsVariable false
set_option maxRecDepth 100000
def E68 : Env := ext E95 95 G95
theorem S68 (w0 : World) : SP w0 E68 := sg (S95 w0) Tryz.func95 Tryz.call95 (Λ := Lam95) 0 trivial 0 trivial (by kernel_rfl) false (fun _ _ _ _ _ _ => by kernel_rfl)
def P68_15102 (b_0 o_0 : Nat) (x_1 : Int) (b_6 o_6 : Nat) (b_8 o_8 : Nat) (x_9 : Bool) (x_12 : Int) (b_14 o_14 : Nat) (x_15 : Int) (x_35 : Int) (x_36 : Int) (m : Mem) (k0 : Mem → Prop) (kn : Bool → Mem → Prop) : Prop :=
 ldG 6 m b_14 o_14 fun c21 => F95 b_8 o_8 x_12 c21 m fun m22 => kif x_9 (k0  m22) (kif (x_15 == 6) (k0  m22) (kn (x_15 == 3) m22))
def P68_11102 (b_0 o_0 : Nat) (x_1 : Int) (b_6 o_6 : Nat) (b_8 o_8 : Nat) (x_9 : Bool) (x_11 : Int) (x_35 : Int) (x_36 : Int) (m : Mem) (k0 : Mem → Prop) (kn : Bool → Mem → Prop) : Prop :=
 F32 b_0 o_0 x_11 4 m fun x10 x11 m12 => F93 x10 m12 fun c13 m14 => newK m14 ⟨6, Z6, 32, false⟩ fun b16 m15 => stG 6 m15 b16 0 c13 fun m17 => ldG 6 m17 b16 0 fun c18 => F94 c18 m17 fun x19 m20 => kif x_9 (kif (x19 == 3) (k0  m20) (kif (x19 == 6) (k0  m20) (P68_15102 b_0 o_0 x_1 b_6 o_6 b_8 o_8 x_9 x10 b16 0 x19 x_35 x_36 m20 (fun m23 => k0  m23) (fun x24 m25 => kn x24 m25)))) (P68_15102 b_0 o_0 x_1 b_6 o_6 b_8 o_8 x_9 x10 b16 0 x19 x_35 x_36 m20 (fun m26 => k0  m26) (fun x27 m28 => kn x27 m28))
def R68_7 (b_0 o_0 : Nat) (x_1 : Int) (b_6 o_6 : Nat) (b_8 o_8 : Nat) (x_35 : Int) (x_9 : Bool) (x_36 : Int) (m : Mem) (kn : Bool → Int → Mem → Prop) (k0 : Mem → Prop) : Prop :=
 kif (decide (x_36 < x_35)) (kif (decide (x_36 > 0)) (kif (((IntKind.wrap .u32 (x_1 + (IntKind.wrap .u32 (IntKind.wrap .i64 (4 * x_36))))).tmod 1024) == 0) (k0  m) (P68_11102 b_0 o_0 x_1 b_6 o_6 b_8 o_8 x_9 (IntKind.wrap .u32 (x_1 + (IntKind.wrap .u32 (IntKind.wrap .i64 (4 * x_36))))) x_35 x_36 m (fun m29 => k0  m29) (fun x30 m31 => kn x30 (IntKind.wrap .i64 (x_36 + 1)) m31))) (P68_11102 b_0 o_0 x_1 b_6 o_6 b_8 o_8 x_9 (IntKind.wrap .u32 (x_1 + (IntKind.wrap .u32 (IntKind.wrap .i64 (4 * x_36))))) x_35 x_36 m (fun m32 => k0  m32) (fun x33 m34 => kn x33 (IntKind.wrap .i64 (x_36 + 1)) m34))) (k0  m)
def L68_7 (b_0 o_0 : Nat) (x_1 : Int) (b_6 o_6 : Nat) (b_8 o_8 : Nat) (x_35 : Int) : Nat → Bool → Int → Mem → (Mem → Prop) → Prop
 | 0, _, _,  _, _ => bump False
 | N + 1, x_9, x_36,  m, k0 => R68_7 b_0 o_0 x_1 b_6 o_6 b_8 o_8 x_35 x_9 x_36 m (fun x_9' x_36' m' => L68_7 b_0 o_0 x_1 b_6 o_6 b_8 o_8 x_35 N x_9' x_36' m' k0) k0
def F68 (b_0 o_0 : Nat) (x_1 : Int) (x_2 : Int) (m : Mem) (k : (Nat → AV) → Bool → Mem → Prop) : Prop :=
 newK m ⟨4, lget [(.flat (.int .u32 0)), (.flat (.slice none 0 0)), (.flat (.slice none 0 0)), (.flat (.slice none 0 0))], 85, false⟩ fun b2 m1 => kif ((x_1.tmod 4) != 0) (stG 4 m1 b2 0 (lget [(.flat (.int .u32 0)), (.flat (.slice none 0 0)), (.flat (.slice none 0 0)), (.flat (.slice none 0 0))]) fun m5 => ldG 4 m5 b2 0 fun c39 => k c39 false m5) (F63 b_0 o_0 m1 fun x3 m4 => kif (decide (x_1 ≥ x3)) (stG 4 m4 b2 0 (lget [(.flat (.int .u32 0)), (.flat (.slice none 0 0)), (.flat (.slice none 0 0)), (.flat (.slice none 0 0))]) fun m6 => ldG 4 m6 b2 0 fun c40 => k c40 false m6) (newK m4 ⟨4, lget [(.flat (.int .u32 0)), (.flat (.slice none 0 0)), (.flat (.slice none 0 0)), (.flat (.slice none 0 0))], 85, false⟩ fun b8 m7 => stG 4 m7 b8 0 (upd (lget [(.flat (.int .u32 0)), (.flat (.slice none 0 0)), (.flat (.slice none 0 0)), (.flat (.slice none 0 0))]) 0 (.flat (.int .u32 x_1))) fun m9 => ∃ N36, L68_7 b_0 o_0 x_1 b2 0 b8 0 (if (if 32 < x_2 then 32 else x_2) > 1 then (if 32 < x_2 then 32 else x_2) else 1) N36 false 0 m9 (fun m35 => ldG 4 m35 b8 0 fun c37 => stG 4 m35 b2 0 c37 fun m38 => ldG 4 m38 b2 0 fun c41 => k c41 true m38)))
def G68 := Gs [.p, .i .u32, .i .i64] [.g 4, .b] F68
def D68_7 : LpD := ⟨[0, 1, 6, 8, 35], [.p, .i .u32, .p, .p, .i .i64], [9, 36], [.b, .i .i64], [⟨.exit 0, [], [], [6, 8]⟩], R68_7, L68_7⟩
def D68_11102 : PcD := ⟨[0, 1, 6, 8, 9, 11, 35, 36], [.p, .i .u32, .p, .p, .b, .i .u32, .i .i64, .i .i64], [⟨.exit 0, [], [], [6, 8]⟩, ⟨.normal, [9], [.b], [0, 1, 6, 8, 35, 36]⟩], P68_11102⟩
def D68_15102 : PcD := ⟨[0, 1, 6, 8, 9, 12, 14, 15, 35, 36], [.p, .i .u32, .p, .p, .b, .i .u32, .p, .i .i64, .i .i64, .i .i64], [⟨.exit 0, [], [], [6, 8]⟩, ⟨.normal, [9], [.b], [0, 1, 6, 8, 35, 36]⟩], P68_15102⟩
def Lam68 : LEnv := lamOf [(7, lpK D68_7)] [] [11102, 15102] [(11102, pcK D68_11102), (15102, pcK D68_15102)]
theorem pok68_15102 : PieceOK Tryz.prog E68 Lam68 (nthP Lam68 (bodyOf Tryz.f68) 1) := pc_ok D68_15102 (fun _ _ _ => by kernel_rfl) (by kernel_rfl) (fun _ _ _ _ _ _ _ _ _ _ _ _ _ _ _ _ => by kernel_rfl)
theorem pok68_11102 : PieceOK Tryz.prog E68 Lam68 (nthP Lam68 (bodyOf Tryz.f68) 0) := pc_ok D68_11102 (fun _ _ _ => by kernel_rfl) (by kernel_rfl) (fun _ _ _ _ _ _ _ _ _ _ _ _ _ => by kernel_rfl)
theorem lok68_7 : LoopOK Tryz.prog E68 Lam68 (nthL (bodyOf Tryz.f68) 0) := lp_ok D68_7 (fun _ _ _ => by kernel_rfl) (by kernel_rfl) (fun _ _ _ _ _ _ _ _ _ _ _ _ _ => by kernel_rfl) (fun _ _ _ _ _ _ _ _ _ _ _ _ _ _ => by kernel_rfl) (fun _ _ _ _ _ _ _ _ _ _ _ _ _ => by kernel_rfl)
def E96 : Env := ext E68 68 G68
theorem S96 (w0 : World) : SP w0 E96 := sg (S68 w0) Tryz.func68 Tryz.call68 (Λ := Lam68) 1 ⟨lok68_7, trivial⟩ 2 ⟨pok68_11102, pok68_15102, trivial⟩ (by kernel_rfl) false (fun _ _ _ _ _ _ => by kernel_rfl)
def F96 (b_0 o_0 : Nat) (m : Mem) (k : Bool → Mem → Prop) : Prop :=
 ldA m b_0 (o_0 + 1) fun v1 => klen v1 fun x2 => kif (x2 == 0) (k false m) (ldA m b_0 (o_0 + 2) fun v3 => ldA m b_0 (o_0 + 1) fun v4 => ksl v4 fun b5 o6 l7 p8 => kif (decide (0 ≤ (0 : Int)) && decide ((0 : Int) < l7)) (ldG 3 m b5 (o6 + 0) fun c9 => mdel K125 3 v3 c9 m fun m10 => ldA m10 b_0 (o_0 + 1) fun v11 => F120 v11 0 1 m10 fun v12 m13 => stV m13 b_0 (o_0 + 1) v12 fun m14 => k true m14) False)
def G96 := Gs [.p] [.b] F96
def E69 : Env := ext E96 96 G96
theorem S69 (w0 : World) : SP w0 E69 := sg0 (S96 w0) Tryz.func96 Tryz.call96 (by kernel_rfl) false (fun _ _ _ _ => by kernel_rfl)
def P69_4102 (b_0 o_0 : Nat) (b_4 o_4 : Nat) (b_5 o_5 : Nat) (m : Mem) (kn : Mem → Prop) : Prop :=
 ldG 3 m b_4 o_4 fun c19 => F87 b_0 o_0 c19 m fun m20 => ldA m20 b_0 (o_0 + 1) fun v21 => ldG 3 m20 b_4 o_4 fun c22 => newK m20 ⟨3, splice (lget [(.flat (.int .u32 0)), (.flat (.int .i64 0)), (.flat (.int .i64 0))]) 0 3 c22, 125, false⟩ fun b24 m23 => appS 3 24 125 v21 (.sl b24 0 1 (.ex 1)) m23 fun v25 m26 => stV m26 b_0 (o_0 + 1) v25 fun m27 => ldA m27 b_0 (o_0 + 2) fun v28 => ldG 3 m27 b_4 o_4 fun c29 => ldG 4 m27 b_5 o_5 fun c30 => mput K125 3 v28 c29 4 c30 m27 fun m31 => kn  m31
def P69_3004 (b_0 o_0 : Nat) (b_4 o_4 : Nat) (b_5 o_5 : Nat) (x_30 : Bool) (m : Mem) (kn : Mem → Prop) : Prop :=
 kif x_30 (F96 b_0 o_0 m fun x15 m16 => kn  m16) (kn  m)
def F69 (b_0 o_0 : Nat) (c_1 : Nat → AV) (c_2 : Nat → AV) (m : Mem) (k : Mem → Prop) : Prop :=
 newK m ⟨3, c_1, 125, false⟩ fun b2 m1 => newK m1 ⟨4, c_2, 85, false⟩ fun b4 m3 => ldA m3 b_0 (o_0 + 2) fun v5 => ldG 3 m3 b2 0 fun c6 => mget K125 3 v5 c6 4 (lget [(.flat (.int .u32 0)), (.flat (.slice none 0 0)), (.flat (.slice none 0 0)), (.flat (.slice none 0 0))]) m3 fun c7 x8 => newK m3 ⟨4, lget [(.flat (.int .u32 0)), (.flat (.slice none 0 0)), (.flat (.slice none 0 0)), (.flat (.slice none 0 0))], 85, false⟩ fun b10 m9 => stG 4 m9 b10 0 c7 fun m11 => kif (!x8) (ldA m11 b_0 (o_0 + 1) fun v12 => klen v12 fun x13 => ldI .i64 m11 b_0 (o_0 + 0) fun x14 => P69_3004 b_0 o_0 b2 0 b4 0 (decide (x13 ≥ x14)) m11 (fun m17 => P69_4102 b_0 o_0 b2 0 b4 0 m17 (fun m32 => k  m32))) (P69_3004 b_0 o_0 b2 0 b4 0 false m11 (fun m18 => P69_4102 b_0 o_0 b2 0 b4 0 m18 (fun m33 => k  m33)))
def G69 := Gs [.p, .g 3, .g 4] [] F69
def D69_3004 : PcD := ⟨[0, 4, 5, 30], [.p, .p, .p, .b], [⟨.normal, [], [], [0, 4, 5]⟩], P69_3004⟩
def D69_4102 : PcD := ⟨[0, 4, 5], [.p, .p, .p], [⟨.normal, [], [], []⟩], P69_4102⟩
def Lam69 : LEnv := lamOf [] [] [3004, 4102] [(3004, pcK D69_3004), (4102, pcK D69_4102)]
theorem pok69_4102 : PieceOK Tryz.prog E69 Lam69 (nthP Lam69 (bodyOf Tryz.f69) 0) := pc_ok D69_4102 (fun _ _ _ => by kernel_rfl) (by kernel_rfl) (fun _ _ _ _ _ _ _ _ => by kernel_rfl)
theorem pok69_3004 : PieceOK Tryz.prog E69 Lam69 (nthP Lam69 (bodyOf Tryz.f69) 1) := pc_ok D69_3004 (fun _ _ _ => by kernel_rfl) (by kernel_rfl) (fun _ _ _ _ _ _ _ _ _ => by kernel_rfl)
def E88 : Env := ext E69 69 G69
theorem S88 (w0 : World) : SP w0 E88 := sg (S69 w0) Tryz.func69 Tryz.call69 (Λ := Lam69) 0 trivial 2 ⟨pok69_4102, pok69_3004, trivial⟩ (by kernel_rfl) false (fun _ _ _ _ _ _ => by kernel_rfl)
def F88 (b_0 o_0 : Nat) (x_1 : Int) (m : Mem) (k : Bool → Mem → Prop) : Prop :=
 kif (decide (x_1 ≥ 0)) (ldA m b_0 (o_0 + 1) fun v1 => klen v1 fun x2 => (Keeps m m ∧ k (decide (x_1 < x2)) m)) ((Keeps m m ∧ k false m))
def G88 := Gs [.p, .i .i64] [.b] F88
def E70 : Env := ext E88 88 G88
theorem S70 (w0 : World) : SP w0 E70 := sg0 (S88 w0) Tryz.func88 Tryz.call88 (by kernel_rfl) true (fun _ _ _ _ _ => by kernel_rfl)
def F70 (b_0 o_0 : Nat) (x_1 : Int) (m : Mem) (k : Mem → Prop) : Prop :=
 F88 b_0 o_0 x_1 m fun x1 m2 => kif x1 (ldA m2 b_0 (o_0 + 1) fun v3 => ksl v3 fun b4 o5 l6 p7 => kif (decide (0 ≤ x_1) && decide (x_1 < l6)) (stC m2 b4 (o5 + (x_1).toNat * 1) (.flat (.bool true)) fun m8 => k  m8) False) (k  m2)
def G70 := Gs [.p, .i .i64] [] F70
def E41 : Env := ext E70 70 G70
theorem S41 (w0 : World) : SP w0 E41 := sg0 (S70 w0) Tryz.func70 Tryz.call70 (by kernel_rfl) false (fun _ _ _ _ _ => by kernel_rfl)
def P41_13102 (b_0 o_0 : Nat) (b_2 o_2 : Nat) (b_8 o_8 : Nat) (m : Mem) (kr : Bool → Mem → Prop) : Prop :=
 ∃ Fr78 : Nat → Prop, Fr78 b_0 ∧ (ldA m b_0 (o_0 + 73) fun v79 => kptr v79 fun b80 o81 => F30 b80 o81 m fun v82 m83 => KeepsIn Fr78 m m83 ∧ (Fr78 b_8 ∧ (ldG 4 m83 b_8 o_8 fun c84 => F67 c84 m83 fun x85 m86 => KeepsIn Fr78 m83 m86 ∧ (kptr v82 fun b87 o88 => F70 b87 o88 x85 m86 fun m89 => KeepsIn Fr78 m86 m89 ∧ (ldI .i64 m89 b_0 (o_0 + 77) fun x90 => stC m89 b_0 (o_0 + 77) (.flat (.int .i64 (IntKind.wrap .i64 (x90 + 1)))) fun m91 => ldG 4 m91 b_8 o_8 fun c92 => stG 4 m91 b_2 o_2 c92 fun m93 => kr true m93)))))
def P41_9103 (b_0 o_0 : Nat) (b_2 o_2 : Nat) (x_4 : Int) (b_7 o_7 : Nat) (b_8 o_8 : Nat) (x_9 : Bool) (m : Mem) (kr : Bool → Mem → Prop) : Prop :=
 kif (!x_9) (∃ Fr57 : Nat → Prop, Fr57 b_0 ∧ (ldA m b_0 (o_0 + 73) fun v58 => kptr v58 fun b59 o60 => F30 b59 o60 m fun v61 m62 => KeepsIn Fr57 m m62 ∧ (Fr57 b_0 ∧ (ldI .i64 m62 b_0 (o_0 + 75) fun x63 => kptr v61 fun b64 o65 => F68 b64 o65 x_4 x63 m62 fun c66 x67 m68 => KeepsIn Fr57 m62 m68 ∧ (stG 4 m68 b_8 o_8 c66 fun m69 => ldA m69 b_0 (o_0 + 74) fun v70 => ldG 3 m69 b_7 o_7 fun c71 => ldG 4 m69 b_8 o_8 fun c72 => kptr v70 fun b73 o74 => F69 b73 o74 c71 c72 m69 fun m75 => ldI .i64 m75 b_0 (o_0 + 76) fun x76 => stC m75 b_0 (o_0 + 76) (.flat (.int .i64 (IntKind.wrap .i64 (x76 + 1)))) fun m77 => P41_13102 b_0 o_0 b_2 o_2 b_8 o_8 m77 (fun x94 m95 => kr x94 m95)))))) (P41_13102 b_0 o_0 b_2 o_2 b_8 o_8 m (fun x96 m97 => kr x96 m97))
def P41_7004 (b_0 o_0 : Nat) (b_2 o_2 : Nat) (x_4 : Int) (b_7 o_7 : Nat) (b_8 o_8 : Nat) (x_9 : Bool) (x_65 : Bool) (m : Mem) (kn : Bool → Mem → Prop) : Prop :=
 kif x_65 (∃ Fr48 : Nat → Prop, Fr48 b_0 ∧ (ldA m b_0 (o_0 + 74) fun v49 => Fr48 b_8 ∧ (ldG 4 m b_8 o_8 fun c50 => F67 c50 m fun x51 m52 => KeepsIn Fr48 m m52 ∧ (bump False)))) (kn x_9 m)
def F41 (b_0 o_0 : Nat) (m : Mem) (k : (Nat → AV) → Bool → Mem → Prop) : Prop :=
 newK m ⟨4, lget [(.flat (.int .u32 0)), (.flat (.slice none 0 0)), (.flat (.slice none 0 0)), (.flat (.slice none 0 0))], 85, false⟩ fun b2 m1 => ldI .u32 m1 b_0 (o_0 + 0 + 34) fun x3 => F62 b_0 (o_0 + 0) x3 4 false m1 fun x4 x5 x6 m7 => kif (x5 != (-1)) (stG 4 m7 b2 0 (lget [(.flat (.int .u32 0)), (.flat (.slice none 0 0)), (.flat (.slice none 0 0)), (.flat (.slice none 0 0))]) fun m17 => ldG 4 m17 b2 0 fun c102 => k c102 false m17) (ldA m7 b_0 (o_0 + 73) fun v8 => kptr v8 fun b9 o10 => F30 b9 o10 m7 fun v11 m12 => kptr v11 fun b13 o14 => F63 b13 o14 m12 fun x15 m16 => kif (decide (x4 ≥ x15)) (stG 4 m16 b2 0 (lget [(.flat (.int .u32 0)), (.flat (.slice none 0 0)), (.flat (.slice none 0 0)), (.flat (.slice none 0 0))]) fun m18 => ldG 4 m18 b2 0 fun c103 => k c103 false m18) (∃ Fr19 : Nat → Prop, F64 b_0 (o_0 + 0) m16 fun x20 m21 => KeepsIn Fr19 m16 m21 ∧ (Fr19 b_0 ∧ (ldI .i64 m21 b_0 (o_0 + 75) fun x22 => newK m21 ⟨3, lget [(.flat (.int .u32 0)), (.flat (.int .i64 0)), (.flat (.int .i64 0))], 125, false⟩ fun b24 m23 => stG 3 m23 b24 0 (upd (upd (upd (lget [(.flat (.int .u32 0)), (.flat (.int .i64 0)), (.flat (.int .i64 0))]) 0 (.flat (.int .u32 x4))) 1 (.flat (.int .i64 x20))) 2 (.flat (.int .i64 x22))) fun m25 => ∃ Fr26 : Nat → Prop, Fr26 b_0 ∧ (ldA m25 b_0 (o_0 + 74) fun v27 => Fr26 b24 ∧ (ldG 3 m25 b24 0 fun c28 => kptr v27 fun b29 o30 => F65 b29 o30 c28 m25 fun c31 x32 m33 => KeepsIn Fr26 m25 m33 ∧ (newK m33 ⟨4, lget [(.flat (.int .u32 0)), (.flat (.slice none 0 0)), (.flat (.slice none 0 0)), (.flat (.slice none 0 0))], 85, false⟩ fun b35 m34 => stG 4 m34 b35 0 c31 fun m36 => ∃ Fr37 : Nat → Prop, kif x32 (Fr37 b35 ∧ (ldG 4 m36 b35 0 fun c38 => Fr37 b_0 ∧ (ldA m36 b_0 (o_0 + 73) fun v39 => kptr v39 fun b40 o41 => F30 b40 o41 m36 fun v42 m43 => KeepsIn Fr37 m36 m43 ∧ (kptr v42 fun b44 o45 => F66 c38 b44 o45 m43 fun x46 m47 => KeepsIn Fr37 m43 m47 ∧ (P41_7004 b_0 o_0 b2 0 x4 b24 0 b35 0 x32 (!x46) m47 (fun x53 m54 => P41_9103 b_0 o_0 b2 0 x4 b24 0 b35 0 x53 m54 (fun x98 m99 => ldG 4 m99 b2 0 fun c104 => k c104 x98 m99))))))) (P41_7004 b_0 o_0 b2 0 x4 b24 0 b35 0 x32 false m36 (fun x55 m56 => P41_9103 b_0 o_0 b2 0 x4 b24 0 b35 0 x55 m56 (fun x100 m101 => ldG 4 m101 b2 0 fun c105 => k c105 x100 m101))))))))))
def G41 := Gs [.p] [.g 4, .b] F41
def D41_7004 : PcD := ⟨[0, 2, 4, 7, 8, 9, 65], [.p, .p, .i .u32, .p, .p, .b, .b], [⟨.normal, [9], [.b], [0, 2, 4, 7, 8]⟩], P41_7004⟩
def D41_9103 : PcD := ⟨[0, 2, 4, 7, 8, 9], [.p, .p, .i .u32, .p, .p, .b], [⟨.ret, [3], [.b], [2]⟩], P41_9103⟩
def D41_13102 : PcD := ⟨[0, 2, 8], [.p, .p, .p], [⟨.ret, [3], [.b], [2]⟩], P41_13102⟩
def Lam41 : LEnv := lamOf [] [4, 5, 6, 7, 10, 13] [7004, 9103, 13102] [(7004, pcK D41_7004), (9103, pcK D41_9103), (13102, pcK D41_13102)]
theorem pok41_13102 : PieceOK Tryz.prog E41 Lam41 (nthP Lam41 (bodyOf Tryz.f41) 2) := pc_ok D41_13102 (fun _ _ _ => by kernel_rfl) (by kernel_rfl) (fun _ _ _ _ _ _ _ _ => by kernel_rfl)
theorem pok41_9103 : PieceOK Tryz.prog E41 Lam41 (nthP Lam41 (bodyOf Tryz.f41) 0) := pc_ok D41_9103 (fun _ _ _ => by kernel_rfl) (by kernel_rfl) (fun _ _ _ _ _ _ _ _ _ _ _ _ => by kernel_rfl)
theorem pok41_7004 : PieceOK Tryz.prog E41 Lam41 (nthP Lam41 (bodyOf Tryz.f41) 1) := pc_ok D41_7004 (fun _ _ _ => by kernel_rfl) (by kernel_rfl) (fun _ _ _ _ _ _ _ _ _ _ _ _ _ => by kernel_rfl)
def E77 : Env := ext E41 41 G41
theorem S77 (w0 : World) : SP w0 E77 := sg (S41 w0) Tryz.func41 Tryz.call41 (Λ := Lam41) 0 trivial 3 ⟨pok41_9103, pok41_7004, pok41_13102, trivial⟩ (by kernel_rfl) false (fun _ _ _ _ => by kernel_rfl)
def P77_6102 (b_0 o_0 : Nat) (x_1 : Int) (x_5 : Int) (m : Mem) (kr : Bool → Mem → Prop) : Prop :=
 ldI .i64 m b_0 (o_0 + 72) fun x3 => stC m b_0 (o_0 + 72) (.flat (.int .i64 (IntKind.wrap .i64 (x3 + x_1)))) fun m4 => ldI .u32 m4 b_0 (o_0 + 39 + 9) fun x5 => stC m4 b_0 (o_0 + 39 + 9) (.flat (.int .u32 (IntKind.wrap .u32 (x5 + (IntKind.wrap .u32 x_1))))) fun m6 => kif (decide (x_1 < x_5)) (kr false m6) (ldI .u32 m6 b_0 (o_0 + 39 + 13) fun x7 => stC m6 b_0 (o_0 + 39 + 13) (.flat (.int .u32 (bits .or .u32 x7 32768))) fun m8 => kr true m8)
def F77 (b_0 o_0 : Nat) (x_1 : Int) (m : Mem) (k : Bool → Mem → Prop) : Prop :=
 kif (decide (x_1 < 1)) (k false m) (ldI .u32 m b_0 (o_0 + 39 + 11) fun x1 => ldI .u32 m b_0 (o_0 + 39 + 9) fun x2 => kif ((IntKind.wrap .i64 (IntKind.wrap .u32 (x1 - x2))) == 0) (P77_6102 b_0 o_0 x_1 4294967296 m (fun x9 m10 => k x9 m10)) (P77_6102 b_0 o_0 x_1 (IntKind.wrap .i64 (IntKind.wrap .u32 (x1 - x2))) m (fun x11 m12 => k x11 m12)))
def G77 := Gs [.p, .i .i64] [.b] F77
def D77_6102 : PcD := ⟨[0, 1, 5], [.p, .i .i64, .i .i64], [⟨.ret, [4], [.b], []⟩], P77_6102⟩
def Lam77 : LEnv := lamOf [] [] [6102] [(6102, pcK D77_6102)]
theorem pok77_6102 : PieceOK Tryz.prog E77 Lam77 (nthP Lam77 (bodyOf Tryz.f77) 0) := pc_ok D77_6102 (fun _ _ _ => by kernel_rfl) (by kernel_rfl) (fun _ _ _ _ _ _ => by kernel_rfl)
def E135 : Env := ext E77 77 G77
theorem S135 (w0 : World) : SP w0 E135 := sg (S77 w0) Tryz.func77 Tryz.call77 (Λ := Lam77) 0 trivial 1 ⟨pok77_6102, trivial⟩ (by kernel_rfl) false (fun _ _ _ _ _ => by kernel_rfl)
def F135 (b_0 o_0 : Nat) (x_1 : Int) (m : Mem) (k : Mem → Prop) : Prop :=
 stC m b_0 (o_0 + 34) (.flat (.int .u32 x_1)) fun m1 => stC m1 b_0 (o_0 + 35) (.flat (.int .u32 (IntKind.wrap .u32 (x_1 + 4)))) fun m2 => stC m2 b_0 (o_0 + 36) (.flat (.bool false)) fun m3 => k  m3
def G135 := Gs [.p, .i .u32] [] F135
def E102 : Env := ext E135 135 G135
theorem S102 (w0 : World) : SP w0 E102 := sg0 (S135 w0) Tryz.func135 Tryz.call135 (by kernel_rfl) false (fun _ _ _ _ _ => by kernel_rfl)
def P102_10102 (b_0 o_0 : Nat) (x_1 : Int) (x_6 : Int) (m : Mem) (kn : Mem → Prop) : Prop :=
 ldI .u32 m b_0 (o_0 + 39 + 13) fun x15 => stC m b_0 (o_0 + 39 + 13) (.flat (.int .u32 (bits .or .u32 (bits .andNot .u32 x15 124) (IntKind.wrap .u32 ((IntKind.wrap .u32 (bits .and .i64 x_1 31)) * 4))))) fun m16 => F135 b_0 o_0 x_6 m16 fun m17 => ldI .u32 m17 b_0 (o_0 + 39 + 12) fun x18 => stC m17 b_0 (o_0 + 39 + 12) (.flat (.int .u32 (bits .or .u32 x18 2))) fun m19 => kn  m19
def P102_8102 (b_0 o_0 : Nat) (x_1 : Int) (x_2 : Bool) (x_6 : Int) (m : Mem) (kn : Int → Mem → Prop) : Prop :=
 kif x_2 (kn 2147483648 m) (kn x_6 m)
def F102 (b_0 o_0 : Nat) (x_1 : Int) (x_2 : Bool) (m : Mem) (k : Mem → Prop) : Prop :=
 ldI .u32 m b_0 (o_0 + 39 + 12) fun x1 => kif ((bits .and .u32 x1 2) == 0) (ldI .u32 m b_0 (o_0 + 34) fun x2 => stC m b_0 (o_0 + 39 + 14) (.flat (.int .u32 x2)) fun m3 => ldI .u32 m3 b_0 (o_0 + 39 + 13) fun x4 => stC m3 b_0 (o_0 + 39 + 13) (.flat (.int .u32 (bits .andNot .u32 x4 2147483648))) fun m5 => ldB m5 b_0 (o_0 + 36) fun x6 => kif x6 (ldI .u32 m5 b_0 (o_0 + 34) fun x7 => stC m5 b_0 (o_0 + 39 + 14) (.flat (.int .u32 (IntKind.wrap .u32 (x7 - 4)))) fun m8 => ldI .u32 m8 b_0 (o_0 + 39 + 13) fun x9 => stC m8 b_0 (o_0 + 39 + 13) (.flat (.int .u32 (bits .or .u32 x9 2147483648))) fun m10 => P102_8102 b_0 o_0 x_1 x_2 2147484032 m10 (fun x11 m12 => P102_10102 b_0 o_0 x_1 x11 m12 (fun m20 => k  m20))) (P102_8102 b_0 o_0 x_1 x_2 2147484032 m5 (fun x13 m14 => P102_10102 b_0 o_0 x_1 x13 m14 (fun m21 => k  m21)))) (P102_10102 b_0 o_0 x_1 2147484032 m (fun m22 => k  m22))
def G102 := Gs [.p, .i .i64, .b] [] F102
def D102_8102 : PcD := ⟨[0, 1, 2, 6], [.p, .i .i64, .b, .i .u32], [⟨.normal, [6], [.i .u32], [0, 1]⟩], P102_8102⟩
def D102_10102 : PcD := ⟨[0, 1, 6], [.p, .i .i64, .i .u32], [⟨.normal, [], [], []⟩], P102_10102⟩
def Lam102 : LEnv := lamOf [] [] [8102, 10102] [(8102, pcK D102_8102), (10102, pcK D102_10102)]
theorem pok102_10102 : PieceOK Tryz.prog E102 Lam102 (nthP Lam102 (bodyOf Tryz.f102) 0) := pc_ok D102_10102 (fun _ _ _ => by kernel_rfl) (by kernel_rfl) (fun _ _ _ _ _ _ => by kernel_rfl)
theorem pok102_8102 : PieceOK Tryz.prog E102 Lam102 (nthP Lam102 (bodyOf Tryz.f102) 1) := pc_ok D102_8102 (fun _ _ _ => by kernel_rfl) (by kernel_rfl) (fun _ _ _ _ _ _ _ => by kernel_rfl)
def E74 : Env := ext E102 102 G102
theorem S74 (w0 : World) : SP w0 E74 := sg (S102 w0) Tryz.func102 Tryz.call102 (Λ := Lam102) 0 trivial 2 ⟨pok102_10102, pok102_8102, trivial⟩ (by kernel_rfl) false (fun _ _ _ _ _ _ => by kernel_rfl)
def F74 (b_0 o_0 : Nat) (b_1 o_1 : Nat) (x_2 : Int) (x_3 : Bool) (m : Mem) (k : Int → Mem → Prop) : Prop :=
 F102 b_0 o_0 x_2 x_3 m fun m1 => F77 b_0 o_0 1 m1 fun x2 m3 => F60 b_1 o_1 m3 fun x4 m5 => F59 b_0 o_0 x4 m5 fun m6 => k x_2 m6
def G74 := Gs [.p, .p, .i .i64, .b] [.i .i64] F74
def E185 : Env := ext E74 74 G74
theorem S185 (w0 : World) : SP w0 E185 := sg0 (S74 w0) Tryz.func74 Tryz.call74 (by kernel_rfl) false (fun _ _ _ _ _ _ _ _ => by kernel_rfl)
def P185_4102 (x_7 : Int) (m : Mem) (kr : Bool → Mem → Prop) : Prop :=
 kr (x_7 != (IntKind.wrap .i64 (IntKind.wrap .i32 x_7))) m
def F185 (x_0 : Int) (x_1 : Int) (x_2 : Bool) (m : Mem) (k : Bool → Mem → Prop) : Prop :=
 kif x_2 (P185_4102 (IntKind.wrap .i64 ((IntKind.wrap .i64 (IntKind.wrap .i32 x_0)) - (IntKind.wrap .i64 (IntKind.wrap .i32 x_1)))) m (fun x1 m2 => (Keeps m m2 ∧ k x1 m))) (P185_4102 (IntKind.wrap .i64 ((IntKind.wrap .i64 (IntKind.wrap .i32 x_0)) + (IntKind.wrap .i64 (IntKind.wrap .i32 x_1)))) m (fun x3 m4 => (Keeps m m4 ∧ k x3 m)))
def G185 := Gs [.i .u32, .i .u32, .b] [.b] F185
def D185_4102 : PcD := ⟨[7], [.i .i64], [⟨.ret, [6], [.b], []⟩], P185_4102⟩
def Lam185 : LEnv := lamOf [] [] [4102] [(4102, pcK D185_4102)]
theorem pok185_4102 : PieceOK Tryz.prog E185 Lam185 (nthP Lam185 (bodyOf Tryz.f185) 0) := pc_ok D185_4102 (fun _ _ _ => by kernel_rfl) (by kernel_rfl) (fun _ _ _ => by kernel_rfl)
def E139 : Env := ext E185 185 G185
theorem S139 (w0 : World) : SP w0 E139 := sg (S185 w0) Tryz.func185 Tryz.call185 (Λ := Lam185) 0 trivial 1 ⟨pok185_4102, trivial⟩ (by kernel_rfl) true (fun _ _ _ _ _ => by kernel_rfl)
def P139_4004 (x_1 : Int) (x_2 : Int) (b_3 o_3 : Nat) (x_8 : Int) (x_9 : Bool) (m : Mem) (kr : Bool → Mem → Prop) (kn : Mem → Prop) : Prop :=
 kif x_9 (ldI .i64 m b_3 (o_3 + 0) fun x4 => F185 x_1 x_2 (x4 == 24) m fun x5 m6 => kr x5 m6) (kif (x_8 == 46) (ldI .u32 m b_3 (o_3 + 5) fun x7 => F140 x7 16 m fun x8 m9 => F185 x_1 x8 false m9 fun x10 m11 => kr x10 m11) (kif (x_8 == 32) (F186 x_1 x_2 true m fun x12 m13 => kr (!x12) m13) (kif (x_8 == 33) (F186 x_1 x_2 true m fun x14 m15 => kr x14 m15) (kif (x_8 == 34) (kr (x_1 == x_2) m) (kif (x_8 == 35) (kr (x_1 != x_2) m) (kn  m))))))
def F139 (c_0 : Nat → AV) (x_1 : Int) (x_2 : Int) (m : Mem) (k : Bool → Mem → Prop) : Prop :=
 newK m ⟨6, c_0, 32, false⟩ fun b2 m1 => ldI .i64 m1 b2 0 fun x3 => kif (x3 == 22) (P139_4004 x_1 x_2 b2 0 x3 (x3 == 22) m1 (fun x16 m17 => (Keeps m m17 ∧ k x16 m)) (fun m18 => (Keeps m m18 ∧ k false m))) (P139_4004 x_1 x_2 b2 0 x3 (x3 == 24) m1 (fun x19 m20 => (Keeps m m20 ∧ k x19 m)) (fun m21 => (Keeps m m21 ∧ k false m)))
def G139 := Gs [.g 6, .i .u32, .i .u32] [.b] F139
def D139_4004 : PcD := ⟨[1, 2, 3, 8, 9], [.i .u32, .i .u32, .p, .i .i64, .b], [⟨.ret, [6], [.b], []⟩, ⟨.normal, [], [], []⟩], P139_4004⟩
def Lam139 : LEnv := lamOf [] [] [4004] [(4004, pcK D139_4004)]
theorem pok139_4004 : PieceOK Tryz.prog E139 Lam139 (nthP Lam139 (bodyOf Tryz.f139) 0) := pc_ok D139_4004 (fun _ _ _ => by kernel_rfl) (by kernel_rfl) (fun _ _ _ _ _ _ _ _ => by kernel_rfl)
def E105 : Env := ext E139 139 G139
theorem S105 (w0 : World) : SP w0 E105 := sg (S139 w0) Tryz.func139 Tryz.call139 (Λ := Lam139) 0 trivial 1 ⟨pok139_4004, trivial⟩ (by kernel_rfl) true (fun _ _ _ _ _ => by kernel_rfl)
def P105_6004 (b_0 o_0 : Nat) (b_3 o_3 : Nat) (x_6 : Int) (x_28 : Bool) (m : Mem) (kr : Int → Mem → Prop) (kn : Mem → Prop) : Prop :=
 kif x_28 (kr 11 m) (kif (x_6 == 62) (kr 11 m) (ldG 6 m b_3 o_3 fun c10 => F126 c10 m fun x11 m12 => kif (!x11) (kr 10 m12) (kif (x_6 == 11) (kr 8 m12) (kif (x_6 == 12) (kr 9 m12) (ldG 6 m12 b_3 o_3 fun c13 => ldI .i64 m12 b_3 (o_3 + 1) fun x14 => kif (decide (0 ≤ x14) && decide (x14 < 32)) (ldI .u32 m12 b_0 (o_0 + 0 + (x14).toNat * 1) fun x15 => ldI .i64 m12 b_3 (o_3 + 2) fun x16 => kif (decide (0 ≤ x16) && decide (x16 < 32)) (ldI .u32 m12 b_0 (o_0 + 0 + (x16).toNat * 1) fun x17 => F139 c13 x15 x17 m12 fun x18 m19 => kif (!x18) (kr (-1) m19) (kif (decide (x_6 ≥ 32)) (kif (decide (x_6 ≤ 35)) (kr 13 m19) (kn  m19)) (kn  m19))) False) False)))))
def P105_4004 (b_0 o_0 : Nat) (b_3 o_3 : Nat) (x_6 : Int) (x_11 : Bool) (m : Mem) (kr : Int → Mem → Prop) (kn : Mem → Prop) : Prop :=
 kif x_11 (kr 10 m) (F91 b_0 o_0 m fun x8 m9 => kif x8 (kif (decide (x_6 ≥ 54)) (P105_6004 b_0 o_0 b_3 o_3 x_6 (decide (x_6 ≤ 61)) m9 (fun x20 m21 => kr x20 m21) (fun m22 => kn  m22)) (P105_6004 b_0 o_0 b_3 o_3 x_6 false m9 (fun x23 m24 => kr x23 m24) (fun m25 => kn  m25))) (P105_6004 b_0 o_0 b_3 o_3 x_6 false m9 (fun x26 m27 => kr x26 m27) (fun m28 => kn  m28)))
def F105 (b_0 o_0 : Nat) (c_1 : Nat → AV) (m : Mem) (k : Int → Mem → Prop) : Prop :=
 newK m ⟨6, c_1, 32, false⟩ fun b2 m1 => ldG 6 m1 b2 0 fun c3 => F94 c3 m1 fun x4 m5 => ldI .i64 m5 b2 0 fun x6 => ldB m5 b_0 (o_0 + 36) fun x7 => kif x7 (kif (x4 == 3) (P105_4004 b_0 o_0 b2 0 x6 true m5 (fun x29 m30 => (Keeps m m30 ∧ k x29 m)) (fun m31 => (Keeps m m31 ∧ k 12 m))) (kif (x6 == 60) (P105_4004 b_0 o_0 b2 0 x6 true m5 (fun x32 m33 => (Keeps m m33 ∧ k x32 m)) (fun m34 => (Keeps m m34 ∧ k 12 m))) (P105_4004 b_0 o_0 b2 0 x6 (x6 == 61) m5 (fun x35 m36 => (Keeps m m36 ∧ k x35 m)) (fun m37 => (Keeps m m37 ∧ k 12 m))))) (P105_4004 b_0 o_0 b2 0 x6 false m5 (fun x38 m39 => (Keeps m m39 ∧ k x38 m)) (fun m40 => (Keeps m m40 ∧ k 12 m)))
def G105 := Gs [.p, .g 6] [.i .i64] F105
def D105_4004 : PcD := ⟨[0, 3, 6, 11], [.p, .p, .i .i64, .b], [⟨.ret, [4], [.i .i64], []⟩, ⟨.normal, [], [], []⟩], P105_4004⟩
def D105_6004 : PcD := ⟨[0, 3, 6, 28], [.p, .p, .i .i64, .b], [⟨.ret, [4], [.i .i64], []⟩, ⟨.normal, [], [], []⟩], P105_6004⟩
def Lam105 : LEnv := lamOf [] [] [4004, 6004] [(4004, pcK D105_4004), (6004, pcK D105_6004)]
theorem pok105_6004 : PieceOK Tryz.prog E105 Lam105 (nthP Lam105 (bodyOf Tryz.f105) 1) := pc_ok D105_6004 (fun _ _ _ => by kernel_rfl) (by kernel_rfl) (fun _ _ _ _ _ _ _ _ => by kernel_rfl)
theorem pok105_4004 : PieceOK Tryz.prog E105 Lam105 (nthP Lam105 (bodyOf Tryz.f105) 0) := pc_ok D105_4004 (fun _ _ _ => by kernel_rfl) (by kernel_rfl) (fun _ _ _ _ _ _ _ _ => by kernel_rfl)
def E136 : Env := ext E105 105 G105
theorem S136 (w0 : World) : SP w0 E136 := sg (S105 w0) Tryz.func105 Tryz.call105 (Λ := Lam105) 0 trivial 2 ⟨pok105_4004, pok105_6004, trivial⟩ (by kernel_rfl) true (fun _ _ _ _ _ => by kernel_rfl)
def F136 (b_0 o_0 : Nat) (x_1 : Int) (x_2 : Bool) (m : Mem) (k : Mem → Prop) : Prop :=
 stC m b_0 (o_0 + 39 + 8) (.flat (.int .u32 x_1)) fun m1 => kif x_2 (ldI .u32 m1 b_0 (o_0 + 39 + 10) fun x2 => stC m1 b_0 (o_0 + 39 + 10) (.flat (.int .u32 (bits .or .u32 (bits .andNot .u32 x2 4294966272) (bits .and .u32 x_1 4294966272)))) fun m3 => k  m3) (k  m1)
def G136 := Gs [.p, .i .u32, .b] [] F136
def E103 : Env := ext E136 136 G136
theorem S103 (w0 : World) : SP w0 E103 := sg0 (S136 w0) Tryz.func136 Tryz.call136 (by kernel_rfl) false (fun _ _ _ _ _ _ => by kernel_rfl)
def F103 (b_0 o_0 : Nat) (x_1 : Int) (x_2 : Int) (m : Mem) (k : Mem → Prop) : Prop :=
 kif (x_2 != 4) (F136 b_0 o_0 x_1 (x_2 != 5) m fun m1 => k  m1) (F136 b_0 o_0 x_1 false m fun m2 => k  m2)
def G103 := Gs [.p, .i .u32, .i .i64] [] F103
def E133 : Env := ext E103 103 G103
theorem S133 (w0 : World) : SP w0 E133 := sg0 (S103 w0) Tryz.func103 Tryz.call103 (by kernel_rfl) false (fun _ _ _ _ _ _ => by kernel_rfl)
def F133 (b_0 o_0 : Nat) (x_1 : Int) (x_2 : Bool) (m : Mem) (k : Mem → Prop) : Prop :=
 kif (decide (x_1 < 1)) (k  m) (kif (decide (x_1 > 5)) (k  m) (ldI .u32 m b_0 (o_0 + 0) fun x1 => kif (decide (x_1 < 0)) False (stC m b_0 (o_0 + 0) (.flat (.int .u32 (bits .andNot .u32 x1 (IntKind.wrap .u32 (1 * 2 ^ min (x_1).toNat 32))))) fun m2 => kif x_2 (ldI .u32 m2 b_0 (o_0 + 0) fun x3 => kif (decide (x_1 < 0)) False (stC m2 b_0 (o_0 + 0) (.flat (.int .u32 (bits .or .u32 x3 (IntKind.wrap .u32 (1 * 2 ^ min (x_1).toNat 32))))) fun m4 => k  m4)) (k  m2))))
def G133 := Gs [.p, .i .i64, .b] [] F133
def E176 : Env := ext E133 133 G133
theorem S176 (w0 : World) : SP w0 E176 := sg0 (S133 w0) Tryz.func133 Tryz.call133 (by kernel_rfl) false (fun _ _ _ _ _ _ => by kernel_rfl)
def F176 (b_0 o_0 : Nat) (m : Mem) (k : Bool → Mem → Prop) : Prop :=
 ldI .u32 m b_0 (o_0 + 4) fun x1 => (Keeps m m ∧ k (x1 != 0) m)
def G176 := Gs [.p] [.b] F176
def E177 : Env := ext E176 176 G176
theorem S177 (w0 : World) : SP w0 E177 := sg0 (S176 w0) Tryz.func176 Tryz.call176 (by kernel_rfl) true (fun _ _ _ _ => by kernel_rfl)
def F177 (b_0 o_0 : Nat) (m : Mem) (k : Bool → Mem → Prop) : Prop :=
 ldI .u32 m b_0 (o_0 + 5) fun x1 => kif ((bits .and .u32 x1 1) != 0) (ldA m b_0 (o_0 + 2) fun v2 => False) (ldI .u32 m b_0 (o_0 + 5) fun x3 => kif ((bits .and .u32 x3 2) != 0) (ldA m b_0 (o_0 + 3) fun v4 => False) ((Keeps m m ∧ k false m)))
def G177 := Gs [.p] [.b] F177
def E178 : Env := ext E177 177 G177
theorem S178 (w0 : World) : SP w0 E178 := sg0 (S177 w0) Tryz.func177 Tryz.call177 (by kernel_rfl) true (fun _ _ _ _ => by kernel_rfl)
def F178 (b_0 o_0 : Nat) (m : Mem) (k : Bool → Mem → Prop) : Prop :=
 ldI .u32 m b_0 (o_0 + 6) fun x1 => (Keeps m m ∧ k ((bits .and .u32 x1 6) != 0) m)
def G178 := Gs [.p] [.b] F178
def E179 : Env := ext E178 178 G178
theorem S179 (w0 : World) : SP w0 E179 := sg0 (S178 w0) Tryz.func178 Tryz.call178 (by kernel_rfl) true (fun _ _ _ _ => by kernel_rfl)
def F179 (b_0 o_0 : Nat) (m : Mem) (k : Bool → Mem → Prop) : Prop :=
 ldI .u32 m b_0 (o_0 + 7) fun x1 => (Keeps m m ∧ k ((bits .and .u32 x1 6) != 0) m)
def G179 := Gs [.p] [.b] F179
def E134 : Env := ext E179 179 G179
theorem S134 (w0 : World) : SP w0 E134 := sg0 (S179 w0) Tryz.func179 Tryz.call179 (by kernel_rfl) true (fun _ _ _ _ => by kernel_rfl)
def F134 (b_0 o_0 : Nat) (x_1 : Int) (m : Mem) (k : Bool → Mem → Prop) : Prop :=
 kif (x_1 == 1) (ldA m b_0 (o_0 + 3) fun v1 => kptr v1 fun b2 o3 => F176 b2 o3 m fun x4 m5 => (Keeps m m5 ∧ k x4 m)) (kif (x_1 == 2) (ldA m b_0 (o_0 + 4) fun v6 => kptr v6 fun b7 o8 => F176 b7 o8 m fun x9 m10 => (Keeps m m10 ∧ k x9 m)) (kif (x_1 == 3) (ldA m b_0 (o_0 + 5) fun v11 => kptr v11 fun b12 o13 => F177 b12 o13 m fun x14 m15 => (Keeps m m15 ∧ k x14 m)) (kif (x_1 == 4) (ldA m b_0 (o_0 + 6) fun v16 => kptr v16 fun b17 o18 => F178 b17 o18 m fun x19 m20 => (Keeps m m20 ∧ k x19 m)) (ldA m b_0 (o_0 + 7) fun v21 => kptr v21 fun b22 o23 => F179 b22 o23 m fun x24 m25 => (Keeps m m25 ∧ k x24 m)))))
def G134 := Gs [.p, .i .i64] [.b] F134
def E101 : Env := ext E134 134 G134
theorem S101 (w0 : World) : SP w0 E101 := sg0 (S134 w0) Tryz.func134 Tryz.call134 (by kernel_rfl) true (fun _ _ _ _ _ => by kernel_rfl)
def R101_1 (b_0 o_0 : Nat) (x_2 : Int) (m : Mem) (kn : Int → Mem → Prop) (k0 : Mem → Prop) : Prop :=
 kif (decide (x_2 ≤ 5)) (∃ Fr1 : Nat → Prop, Fr1 b_0 ∧ (ldA m b_0 (o_0 + 2) fun v2 => F134 b_0 o_0 x_2 m fun x3 m4 => KeepsIn Fr1 m m4 ∧ (kptr v2 fun b5 o6 => F133 b5 o6 x_2 x3 m4 fun m7 => KeepsIn Fr1 m4 m7 ∧ (kn (IntKind.wrap .i64 (x_2 + 1)) m7)))) (k0  m)
def L101_1 (b_0 o_0 : Nat) : Nat → Int → Mem → (Mem → Prop) → Prop
 | 0, _,  _, _ => bump False
 | N + 1, x_2,  m, k0 => R101_1 b_0 o_0 x_2 m (fun x_2' m' => L101_1 b_0 o_0 N x_2' m' k0) k0
def F101 (b_0 o_0 : Nat) (m : Mem) (k : Mem → Prop) : Prop :=
 ∃ N9, L101_1 b_0 o_0 N9 1 m (fun m8 => k  m8)
def G101 := Gs [.p] [] F101
def D101_1 : LpD := ⟨[0], [.p], [2], [.i .i64], [⟨.exit 0, [], [], []⟩], R101_1, L101_1⟩
def Lam101 : LEnv := lamOf [(1, lpK D101_1)] [3] [] []
theorem lok101_1 : LoopOK Tryz.prog E101 Lam101 (nthL (bodyOf Tryz.f101) 0) := lp_ok D101_1 (fun _ _ _ => by kernel_rfl) (by kernel_rfl) (fun _ _ _ _ _ _ => by kernel_rfl) (fun _ _ _ _ _ _ _ => by kernel_rfl) (fun _ _ _ _ _ _ => by kernel_rfl)
def E137 : Env := ext E101 101 G101
theorem S137 (w0 : World) : SP w0 E137 := sg (S101 w0) Tryz.func101 Tryz.call101 (Λ := Lam101) 1 ⟨lok101_1, trivial⟩ 0 trivial (by kernel_rfl) false (fun _ _ _ _ => by kernel_rfl)
def F137 (x_0 : Int) (x_1 : Int) (m : Mem) (k : Int → Int → Bool → Mem → Prop) : Prop :=
 kif (x_1 != 4) ((Keeps m m ∧ k 0 0 false m)) (kif (decide (x_0 < 520093696)) ((Keeps m m ∧ k 0 0 false m)) (kif ((x_0.tmod 4) != 0) ((Keeps m m ∧ k 0 0 false m)) ((Keeps m m ∧ k (IntKind.wrap .i64 (IntKind.wrap .u32 ((IntKind.wrap .u32 (x_0 - 520093696)).tdiv 64))) ((IntKind.wrap .u32 (x_0 - 520093696)).tmod 64) (decide ((IntKind.wrap .u32 ((IntKind.wrap .u32 (x_0 - 520093696)).tdiv 64)) ≤ 5)) m))))
def G137 := Gs [.i .u32, .i .i64] [.i .i64, .i .u32, .b] F137
def E104 : Env := ext E137 137 G137
theorem S104 (w0 : World) : SP w0 E104 := sg0 (S137 w0) Tryz.func137 Tryz.call137 (by kernel_rfl) true (fun _ _ _ _ => by kernel_rfl)
def F104 (b_0 o_0 : Nat) (x_1 : Int) (x_2 : Int) (x_3 : Int) (m : Mem) (k : Int → Bool → Mem → Prop) : Prop :=
 ldA m b_0 (o_0 + 0) fun v1 => kptr v1 fun b2 o3 => F63 b2 o3 m fun x4 m5 => kif (decide (x_1 < x4)) (ldA m5 b_0 (o_0 + 0) fun v6 => kptr v6 fun b7 o8 => F32 b7 o8 x_1 x_2 m5 fun x9 x10 m11 => k x9 x10 m11) (F137 x_1 x_2 m5 fun x12 x13 x14 m15 => kif (!x14) (k 0 false m15) (bump False))
def G104 := Gs [.p, .i .u32, .i .i64, .i .i64] [.i .u32, .b] F104
def E141 : Env := ext E104 104 G104
theorem S141 (w0 : World) : SP w0 E141 := sg0 (S104 w0) Tryz.func104 Tryz.call104 (by kernel_rfl) false (fun _ _ _ _ _ _ _ => by kernel_rfl)
def P141_5004 (x_3 : Int) (x_4 : Bool) (m : Mem) (kr : Int → Mem → Prop) (kn : Mem → Prop) : Prop :=
 kif x_4 (kr 1 m) (kif (x_3 == 67) (kif (x_3 == 67) (kr 2 m) (kn  m)) (kif (x_3 == 70) (kif (x_3 == 70) (kr 2 m) (kn  m)) (kif (x_3 == 72) (kr 2 m) (kn  m))))
def F141 (x_0 : Int) (m : Mem) (k : Int → Mem → Prop) : Prop :=
 kif (x_0 == 66) (P141_5004 x_0 (x_0 == 66) m (fun x1 m2 => (Keeps m m2 ∧ k x1 m)) (fun m3 => (Keeps m m3 ∧ k 4 m))) (kif (x_0 == 69) (P141_5004 x_0 (x_0 == 69) m (fun x4 m5 => (Keeps m m5 ∧ k x4 m)) (fun m6 => (Keeps m m6 ∧ k 4 m))) (P141_5004 x_0 (x_0 == 71) m (fun x7 m8 => (Keeps m m8 ∧ k x7 m)) (fun m9 => (Keeps m m9 ∧ k 4 m))))
def G141 := Gs [.i .i64] [.i .i64] F141
def D141_5004 : PcD := ⟨[3, 4], [.i .i64, .b], [⟨.ret, [2], [.i .i64], []⟩, ⟨.normal, [], [], []⟩], P141_5004⟩
def Lam141 : LEnv := lamOf [] [] [5004] [(5004, pcK D141_5004)]
theorem pok141_5004 : PieceOK Tryz.prog E141 Lam141 (nthP Lam141 (bodyOf Tryz.f141) 0) := pc_ok D141_5004 (fun _ _ _ => by kernel_rfl) (by kernel_rfl) (fun _ _ _ _ => by kernel_rfl)
def E142 : Env := ext E141 141 G141
theorem S142 (w0 : World) : SP w0 E142 := sg (S141 w0) Tryz.func141 Tryz.call141 (Λ := Lam141) 0 trivial 1 ⟨pok141_5004, trivial⟩ (by kernel_rfl) true (fun _ _ _ => by kernel_rfl)
def F142 (b_0 o_0 : Nat) (x_1 : Int) (x_2 : Int) (m : Mem) (k : Mem → Prop) : Prop :=
 kif (x_1 != 0) (kif (decide (0 ≤ x_1) && decide (x_1 < 32)) (stC m b_0 (o_0 + 0 + (x_1).toNat * 1) (.flat (.int .u32 x_2)) fun m1 => k  m1) False) (k  m)
def G142 := Gs [.p, .i .i64, .i .u32] [] F142
def E106 : Env := ext E142 142 G142
theorem S106 (w0 : World) : SP w0 E106 := sg0 (S142 w0) Tryz.func142 Tryz.call142 (by kernel_rfl) false (fun _ _ _ _ _ _ => by kernel_rfl)
def P106_14102 (b_0 o_0 : Nat) (b_5 o_5 : Nat) (x_13 : Int) (m : Mem) (kr : Int → Bool → Mem → Prop) : Prop :=
 ldI .i64 m b_5 (o_5 + 2) fun x32 => F142 b_0 o_0 x32 x_13 m fun m33 => kr (-1) false m33
def P106_12103 (b_0 o_0 : Nat) (b_5 o_5 : Nat) (x_10 : Int) (x_13 : Int) (m : Mem) (kr : Int → Bool → Mem → Prop) : Prop :=
 ldI .i64 m b_5 (o_5 + 0) fun x29 => kif (x29 == 74) (stC m b_0 (o_0 + 37) (.flat (.bool true)) fun m30 => stC m30 b_0 (o_0 + 38) (.flat (.int .u32 x_10)) fun m31 => P106_14102 b_0 o_0 b_5 o_5 x_13 m31 (fun x34 x35 m36 => kr x34 x35 m36)) (P106_14102 b_0 o_0 b_5 o_5 x_13 m (fun x37 x38 m39 => kr x37 x38 m39))
def P106_11004 (b_0 o_0 : Nat) (b_5 o_5 : Nat) (x_9 : Int) (x_10 : Int) (x_13 : Int) (x_65 : Bool) (m : Mem) (kn : Int → Mem → Prop) : Prop :=
 kif x_65 (F140 x_13 (IntKind.wrap .i64 (8 * x_9)) m fun x23 m24 => kn x23 m24) (kn x_13 m)
def F106 (b_0 o_0 : Nat) (b_1 o_1 : Nat) (c_2 : Nat → AV) (m : Mem) (k : Int → Bool → Mem → Prop) : Prop :=
 newK m ⟨6, c_2, 32, false⟩ fun b2 m1 => ∃ Fr3 : Nat → Prop, Fr3 b2 ∧ (ldI .i64 m1 b2 1 fun x4 => kif (decide (0 ≤ x4) && decide (x4 < 32)) (Fr3 b_0 ∧ (ldI .u32 m1 b_0 (o_0 + 0 + (x4).toNat * 1) fun x5 => Fr3 b2 ∧ (ldI .u32 m1 b2 5 fun x6 => F140 x6 16 m1 fun x7 m8 => KeepsIn Fr3 m1 m8 ∧ (ldI .i64 m8 b2 0 fun x9 => F141 x9 m8 fun x10 m11 => F62 b_0 o_0 (IntKind.wrap .u32 (x5 + x7)) x10 false m11 fun x12 x13 x14 m15 => kif (x13 != (-1)) (F103 b_0 o_0 (IntKind.wrap .u32 (x5 + x7)) x13 m15 fun m16 => k x13 x14 m16) (ldI .i64 m15 b_0 (o_0 + 72) fun x17 => F104 b_1 o_1 x12 x10 x17 m15 fun x18 x19 m20 => kif (!x19) (k 7 false m20) (ldI .i64 m20 b2 0 fun x21 => kif (x21 == 66) (P106_11004 b_0 o_0 b2 0 x10 x12 x18 true m20 (fun x25 m26 => P106_12103 b_0 o_0 b2 0 x12 x25 m26 (fun x40 x41 m42 => k x40 x41 m42))) (ldI .i64 m20 b2 0 fun x22 => P106_11004 b_0 o_0 b2 0 x10 x12 x18 (x22 == 67) m20 (fun x27 m28 => P106_12103 b_0 o_0 b2 0 x12 x27 m28 (fun x43 x44 m45 => k x43 x44 m45))))))))) False)
def G106 := Gs [.p, .p, .g 6] [.i .i64, .b] F106
def D106_11004 : PcD := ⟨[0, 5, 9, 10, 13, 65], [.p, .p, .i .i64, .i .u32, .i .u32, .b], [⟨.normal, [13], [.i .u32], [0, 5, 10]⟩], P106_11004⟩
def D106_12103 : PcD := ⟨[0, 5, 10, 13], [.p, .p, .i .u32, .i .u32], [⟨.ret, [6, 7], [.i .i64, .b], []⟩], P106_12103⟩
def D106_14102 : PcD := ⟨[0, 5, 13], [.p, .p, .i .u32], [⟨.ret, [6, 7], [.i .i64, .b], []⟩], P106_14102⟩
def Lam106 : LEnv := lamOf [] [1] [11004, 12103, 14102] [(11004, pcK D106_11004), (12103, pcK D106_12103), (14102, pcK D106_14102)]
theorem pok106_14102 : PieceOK Tryz.prog E106 Lam106 (nthP Lam106 (bodyOf Tryz.f106) 2) := pc_ok D106_14102 (fun _ _ _ => by kernel_rfl) (by kernel_rfl) (fun _ _ _ _ _ _ _ => by kernel_rfl)
theorem pok106_12103 : PieceOK Tryz.prog E106 Lam106 (nthP Lam106 (bodyOf Tryz.f106) 0) := pc_ok D106_12103 (fun _ _ _ => by kernel_rfl) (by kernel_rfl) (fun _ _ _ _ _ _ _ _ => by kernel_rfl)
theorem pok106_11004 : PieceOK Tryz.prog E106 Lam106 (nthP Lam106 (bodyOf Tryz.f106) 1) := pc_ok D106_11004 (fun _ _ _ => by kernel_rfl) (by kernel_rfl) (fun _ _ _ _ _ _ _ _ _ _ => by kernel_rfl)
def E35 : Env := ext E106 106 G106
theorem S35 (w0 : World) : SP w0 E35 := sg (S106 w0) Tryz.func106 Tryz.call106 (Λ := Lam106) 0 trivial 3 ⟨pok106_12103, pok106_11004, pok106_14102, trivial⟩ (by kernel_rfl) false (fun _ _ _ _ _ _ _ => by kernel_rfl)
def R35_4 (b_0 o_0 : Nat) (x_1 : Int) (x_2 : Int) (x_3 : Int) (x_15 : Int) (x_16 : Int) (m : Mem) (kn : Int → Mem → Prop) (k0 : Mem → Prop) : Prop :=
 kif (decide (x_16 < x_15)) (ldA m b_0 (o_0 + 0) fun v3 => kif (decide (IntKind.wrap .i64 (8 * x_16) < 0)) False (ksl v3 fun b4 o5 l6 p7 => kif (decide (0 ≤ IntKind.wrap .i64 ((IntKind.wrap .i64 ((IntKind.wrap .i64 ((IntKind.wrap .i64 x_1) + x_2)) - 1)) - x_16)) && decide (IntKind.wrap .i64 ((IntKind.wrap .i64 ((IntKind.wrap .i64 ((IntKind.wrap .i64 x_1) + x_2)) - 1)) - x_16) < l6)) (stC m b4 (o5 + (IntKind.wrap .i64 ((IntKind.wrap .i64 ((IntKind.wrap .i64 ((IntKind.wrap .i64 x_1) + x_2)) - 1)) - x_16)).toNat * 1) (.flat (.int .u8 (IntKind.wrap .u8 (x_3.fdiv (2 ^ min (IntKind.wrap .i64 (8 * x_16)).toNat 32))))) fun m8 => kn (IntKind.wrap .i64 (x_16 + 1)) m8) False)) (k0  m)
def L35_4 (b_0 o_0 : Nat) (x_1 : Int) (x_2 : Int) (x_3 : Int) (x_15 : Int) : Nat → Int → Mem → (Mem → Prop) → Prop
 | 0, _,  _, _ => bump False
 | N + 1, x_16,  m, k0 => R35_4 b_0 o_0 x_1 x_2 x_3 x_15 x_16 m (fun x_16' m' => L35_4 b_0 o_0 x_1 x_2 x_3 x_15 N x_16' m' k0) k0
def F35 (b_0 o_0 : Nat) (x_1 : Int) (x_2 : Int) (x_3 : Int) (m : Mem) (k : Bool → Mem → Prop) : Prop :=
 F47 b_0 o_0 x_1 x_2 m fun x1 m2 => kif (!x1) (k false m2) (∃ N10, L35_4 b_0 o_0 x_1 x_2 x_3 x_2 N10 0 m2 (fun m9 => F46 b_0 o_0 x_1 x_2 m9 fun m11 => k true m11))
def G35 := Gs [.p, .i .u32, .i .i64, .i .u32] [.b] F35
def D35_4 : LpD := ⟨[0, 1, 2, 3, 15], [.p, .i .u32, .i .i64, .i .u32, .i .i64], [16], [.i .i64], [⟨.exit 0, [], [], [0, 1, 2]⟩], R35_4, L35_4⟩
def Lam35 : LEnv := lamOf [(4, lpK D35_4)] [] [] []
theorem lok35_4 : LoopOK Tryz.prog E35 Lam35 (nthL (bodyOf Tryz.f35) 0) := lp_ok D35_4 (fun _ _ _ => by kernel_rfl) (by kernel_rfl) (fun _ _ _ _ _ _ _ _ _ _ => by kernel_rfl) (fun _ _ _ _ _ _ _ _ _ _ _ => by kernel_rfl) (fun _ _ _ _ _ _ _ _ _ _ => by kernel_rfl)
def E143 : Env := ext E35 35 G35
theorem S143 (w0 : World) : SP w0 E143 := sg (S35 w0) Tryz.func35 Tryz.call35 (Λ := Lam35) 1 ⟨lok35_4, trivial⟩ 0 trivial (by kernel_rfl) false (fun _ _ _ _ _ _ _ => by kernel_rfl)
def F143 (b_0 o_0 : Nat) (x_1 : Int) (x_2 : Int) (x_3 : Int) (x_4 : Int) (m : Mem) (k : Bool → Mem → Prop) : Prop :=
 ldA m b_0 (o_0 + 0) fun v1 => kptr v1 fun b2 o3 => F63 b2 o3 m fun x4 m5 => kif (decide (x_1 < x4)) (ldA m5 b_0 (o_0 + 0) fun v6 => kptr v6 fun b7 o8 => F35 b7 o8 x_1 x_2 x_3 m5 fun x9 m10 => k x9 m10) (F137 x_1 x_2 m5 fun x11 x12 x13 m14 => kif (!x13) (k false m14) (bump False))
def G143 := Gs [.p, .i .u32, .i .i64, .i .u32, .i .i64] [.b] F143
def E144 : Env := ext E143 143 G143
theorem S144 (w0 : World) : SP w0 E144 := sg0 (S143 w0) Tryz.func143 Tryz.call143 (by kernel_rfl) false (fun _ _ _ _ _ _ _ _ => by kernel_rfl)
def F144 (b_0 o_0 : Nat) (x_1 : Int) (x_2 : Int) (m : Mem) (k : Bool → Mem → Prop) : Prop :=
 ldI .u32 m b_0 (o_0 + 38) fun x1 => kif (decide ((IntKind.wrap .i64 ((IntKind.wrap .i64 x_1) + x_2)) > (IntKind.wrap .i64 x1))) (ldI .u32 m b_0 (o_0 + 38) fun x2 => (Keeps m m ∧ k (decide ((IntKind.wrap .i64 x_1) < (IntKind.wrap .i64 ((IntKind.wrap .i64 x2) + 4)))) m)) ((Keeps m m ∧ k false m))
def G144 := Gs [.p, .i .u32, .i .i64] [.b] F144
def E107 : Env := ext E144 144 G144
theorem S107 (w0 : World) : SP w0 E107 := sg0 (S144 w0) Tryz.func144 Tryz.call144 (by kernel_rfl) true (fun _ _ _ _ _ _ => by kernel_rfl)
def P107_16103 (b_0 o_0 : Nat) (b_5 o_5 : Nat) (x_9 : Int) (x_10 : Int) (m : Mem) (kr : Int → Bool → Mem → Prop) : Prop :=
 ldI .i64 m b_5 (o_5 + 0) fun x39 => kif (x39 == 75) (stC m b_0 (o_0 + 37) (.flat (.bool false)) fun m42 => kr (-1) false m42) (F144 b_0 o_0 x_10 x_9 m fun x40 m41 => kif x40 (stC m41 b_0 (o_0 + 37) (.flat (.bool false)) fun m43 => kr (-1) false m43) (kr (-1) false m41))
def P107_12103 (b_0 o_0 : Nat) (b_1 o_1 : Nat) (b_5 o_5 : Nat) (x_9 : Int) (x_10 : Int) (m : Mem) (kr : Int → Bool → Mem → Prop) : Prop :=
 ldI .i64 m b_5 (o_5 + 2) fun x31 => kif (decide (0 ≤ x31) && decide (x31 < 32)) (ldI .u32 m b_0 (o_0 + 0 + (x31).toNat * 1) fun x32 => ldI .i64 m b_0 (o_0 + 72) fun x33 => F143 b_1 o_1 x_10 x_9 x32 x33 m fun x34 m35 => kif (!x34) (kr 7 false m35) (ldI .i64 m35 b_5 (o_5 + 0) fun x36 => kif (x36 == 75) (ldI .i64 m35 b_5 (o_5 + 2) fun x37 => F142 b_0 o_0 x37 1 m35 fun m38 => P107_16103 b_0 o_0 b_5 o_5 x_9 x_10 m38 (fun x44 x45 m46 => kr x44 x45 m46)) (P107_16103 b_0 o_0 b_5 o_5 x_9 x_10 m35 (fun x47 x48 m49 => kr x47 x48 m49)))) False
def P107_9004 (b_0 o_0 : Nat) (b_1 o_1 : Nat) (b_5 o_5 : Nat) (x_9 : Int) (x_10 : Int) (x_62 : Bool) (m : Mem) (kr : Int → Bool → Mem → Prop) (kn : Mem → Prop) : Prop :=
 kif x_62 (ldI .i64 m b_5 (o_5 + 2) fun x20 => F142 b_0 o_0 x20 0 m fun m21 => stC m21 b_0 (o_0 + 37) (.flat (.bool false)) fun m22 => kr (-1) false m22) (kn  m)
def P107_8103 (b_0 o_0 : Nat) (b_1 o_1 : Nat) (b_5 o_5 : Nat) (x_9 : Int) (x_10 : Int) (x_13 : Bool) (m : Mem) (kr : Int → Bool → Mem → Prop) : Prop :=
 ldI .i64 m b_5 (o_5 + 0) fun x19 => kif (x19 == 75) (P107_9004 b_0 o_0 b_1 o_1 b_5 o_5 x_9 x_10 (!x_13) m (fun x23 x24 m25 => kr x23 x24 m25) (fun m26 => P107_12103 b_0 o_0 b_1 o_1 b_5 o_5 x_9 x_10 m26 (fun x50 x51 m52 => kr x50 x51 m52))) (P107_9004 b_0 o_0 b_1 o_1 b_5 o_5 x_9 x_10 false m (fun x27 x28 m29 => kr x27 x28 m29) (fun m30 => P107_12103 b_0 o_0 b_1 o_1 b_5 o_5 x_9 x_10 m30 (fun x53 x54 m55 => kr x53 x54 m55)))
def F107 (b_0 o_0 : Nat) (b_1 o_1 : Nat) (c_2 : Nat → AV) (m : Mem) (k : Int → Bool → Mem → Prop) : Prop :=
 newK m ⟨6, c_2, 32, false⟩ fun b2 m1 => ∃ Fr3 : Nat → Prop, Fr3 b2 ∧ (ldI .i64 m1 b2 1 fun x4 => kif (decide (0 ≤ x4) && decide (x4 < 32)) (Fr3 b_0 ∧ (ldI .u32 m1 b_0 (o_0 + 0 + (x4).toNat * 1) fun x5 => Fr3 b2 ∧ (ldI .u32 m1 b2 5 fun x6 => F140 x6 16 m1 fun x7 m8 => KeepsIn Fr3 m1 m8 ∧ (ldI .i64 m8 b2 0 fun x9 => F141 x9 m8 fun x10 m11 => F62 b_0 o_0 (IntKind.wrap .u32 (x5 + x7)) x10 true m11 fun x12 x13 x14 m15 => kif (x13 != (-1)) (F103 b_0 o_0 (IntKind.wrap .u32 (x5 + x7)) x13 m15 fun m16 => k x13 x14 m16) (ldB m15 b_0 (o_0 + 37) fun x17 => kif x17 (ldI .u32 m15 b_0 (o_0 + 38) fun x18 => P107_8103 b_0 o_0 b_1 o_1 b2 0 x10 x12 (x18 == x12) m15 (fun x56 x57 m58 => k x56 x57 m58)) (P107_8103 b_0 o_0 b_1 o_1 b2 0 x10 x12 false m15 (fun x59 x60 m61 => k x59 x60 m61))))))) False)
def G107 := Gs [.p, .p, .g 6] [.i .i64, .b] F107
def D107_8103 : PcD := ⟨[0, 1, 5, 9, 10, 13], [.p, .p, .p, .i .i64, .i .u32, .b], [⟨.ret, [6, 7], [.i .i64, .b], []⟩], P107_8103⟩
def D107_9004 : PcD := ⟨[0, 1, 5, 9, 10, 62], [.p, .p, .p, .i .i64, .i .u32, .b], [⟨.ret, [6, 7], [.i .i64, .b], []⟩, ⟨.normal, [], [], [0, 1, 5, 9, 10]⟩], P107_9004⟩
def D107_12103 : PcD := ⟨[0, 1, 5, 9, 10], [.p, .p, .p, .i .i64, .i .u32], [⟨.ret, [6, 7], [.i .i64, .b], []⟩], P107_12103⟩
def D107_16103 : PcD := ⟨[0, 5, 9, 10], [.p, .p, .i .i64, .i .u32], [⟨.ret, [6, 7], [.i .i64, .b], []⟩], P107_16103⟩
def Lam107 : LEnv := lamOf [] [1] [8103, 9004, 12103, 16103] [(8103, pcK D107_8103), (9004, pcK D107_9004), (12103, pcK D107_12103), (16103, pcK D107_16103)]
theorem pok107_16103 : PieceOK Tryz.prog E107 Lam107 (nthP Lam107 (bodyOf Tryz.f107) 3) := pc_ok D107_16103 (fun _ _ _ => by kernel_rfl) (by kernel_rfl) (fun _ _ _ _ _ _ _ _ => by kernel_rfl)
theorem pok107_12103 : PieceOK Tryz.prog E107 Lam107 (nthP Lam107 (bodyOf Tryz.f107) 1) := pc_ok D107_12103 (fun _ _ _ => by kernel_rfl) (by kernel_rfl) (fun _ _ _ _ _ _ _ _ _ _ => by kernel_rfl)
theorem pok107_9004 : PieceOK Tryz.prog E107 Lam107 (nthP Lam107 (bodyOf Tryz.f107) 2) := pc_ok D107_9004 (fun _ _ _ => by kernel_rfl) (by kernel_rfl) (fun _ _ _ _ _ _ _ _ _ _ _ => by kernel_rfl)
theorem pok107_8103 : PieceOK Tryz.prog E107 Lam107 (nthP Lam107 (bodyOf Tryz.f107) 0) := pc_ok D107_8103 (fun _ _ _ => by kernel_rfl) (by kernel_rfl) (fun _ _ _ _ _ _ _ _ _ _ _ => by kernel_rfl)
def E108 : Env := ext E107 107 G107
theorem S108 (w0 : World) : SP w0 E108 := sg (S107 w0) Tryz.func107 Tryz.call107 (Λ := Lam107) 0 trivial 4 ⟨pok107_8103, pok107_12103, pok107_9004, pok107_16103, trivial⟩ (by kernel_rfl) false (fun _ _ _ _ _ _ _ => by kernel_rfl)
def F108 (b_0 o_0 : Nat) (m : Mem) (k : Mem → Prop) : Prop :=
 ldI .u32 m b_0 (o_0 + 39 + 14) fun x1 => F135 b_0 o_0 x1 m fun m2 => ldI .u32 m2 b_0 (o_0 + 39 + 12) fun x3 => stC m2 b_0 (o_0 + 39 + 12) (.flat (.int .u32 (bits .andNot .u32 x3 2))) fun m4 => stC m4 b_0 (o_0 + 37) (.flat (.bool false)) fun m5 => k  m5
def G108 := Gs [.p] [] F108
def E189 : Env := ext E108 108 G108
theorem S189 (w0 : World) : SP w0 E189 := sg0 (S108 w0) Tryz.func108 Tryz.call108 (by kernel_rfl) false (fun _ _ _ _ => by kernel_rfl)
def F189 (x_0 : Int) (m : Mem) (k : Bool → Mem → Prop) : Prop :=
 kif (x_0 == 0) (kif (x_0 == 0) ((Keeps m m ∧ k true m)) ((Keeps m m ∧ k false m))) (kif (x_0 == 1) (kif (x_0 == 1) ((Keeps m m ∧ k true m)) ((Keeps m m ∧ k false m))) (kif (x_0 == 2) (kif (x_0 == 2) ((Keeps m m ∧ k true m)) ((Keeps m m ∧ k false m))) (kif (x_0 == 8) (kif (x_0 == 8) ((Keeps m m ∧ k true m)) ((Keeps m m ∧ k false m))) (kif (x_0 == 9) (kif (x_0 == 9) ((Keeps m m ∧ k true m)) ((Keeps m m ∧ k false m))) (kif (x_0 == 10) (kif (x_0 == 10) ((Keeps m m ∧ k true m)) ((Keeps m m ∧ k false m))) (kif (x_0 == 11) (kif (x_0 == 11) ((Keeps m m ∧ k true m)) ((Keeps m m ∧ k false m))) (kif (x_0 == 12) (kif (x_0 == 12) ((Keeps m m ∧ k true m)) ((Keeps m m ∧ k false m))) (kif (x_0 == 13) (kif (x_0 == 13) ((Keeps m m ∧ k true m)) ((Keeps m m ∧ k false m))) (kif (x_0 == 14) (kif (x_0 == 14) ((Keeps m m ∧ k true m)) ((Keeps m m ∧ k false m))) (kif (x_0 == 15) ((Keeps m m ∧ k true m)) ((Keeps m m ∧ k false m))))))))))))
def G189 := Gs [.i .i64] [.b] F189
def E145 : Env := ext E189 189 G189
theorem S145 (w0 : World) : SP w0 E145 := sg0 (S189 w0) Tryz.func189 Tryz.call189 (by kernel_rfl) true (fun _ _ _ => by kernel_rfl)
def F145 (b_0 o_0 : Nat) (x_1 : Int) (m : Mem) (k : Int → Mem → Prop) : Prop :=
 F189 x_1 m fun x1 m2 => kif (!x1) ((Keeps m m2 ∧ k 0 m)) (kif (x_1 == 1) (ldI .u32 m2 b_0 (o_0 + 39 + 9) fun x3 => (Keeps m m2 ∧ k (x3.tmod 8) m)) (kif (decide (0 ≤ x_1) && decide (x_1 < 16)) (ldI .u32 m2 b_0 (o_0 + 39 + (x_1).toNat * 1) fun x4 => (Keeps m m2 ∧ k x4 m)) False))
def G145 := Gs [.p, .i .i64] [.i .u32] F145
def E146 : Env := ext E145 145 G145
theorem S146 (w0 : World) : SP w0 E146 := sg0 (S145 w0) Tryz.func145 Tryz.call145 (by kernel_rfl) true (fun _ _ _ _ _ => by kernel_rfl)
def P146_10004 (b_0 o_0 : Nat) (x_1 : Int) (x_2 : Int) (x_8 : Int) (x_36 : Bool) (m : Mem) (kn : Mem → Prop) : Prop :=
 kif x_36 (kif (decide (0 ≤ x_1) && decide (x_1 < 16)) (stC m b_0 (o_0 + 39 + (x_1).toNat * 1) (.flat (.int .u32 x_2)) fun m4 => kn  m4) False) (kif (x_8 == 11) (kif (decide (0 ≤ x_1) && decide (x_1 < 16)) (stC m b_0 (o_0 + 39 + (x_1).toNat * 1) (.flat (.int .u32 x_2)) fun m5 => ldI .u32 m5 b_0 (o_0 + 39 + 13) fun x6 => stC m5 b_0 (o_0 + 39 + 13) (.flat (.int .u32 (bits .andNot .u32 x6 32768))) fun m7 => kn  m7) False) (kif (x_8 == 12) (kif (decide (0 ≤ x_1) && decide (x_1 < 16)) (stC m b_0 (o_0 + 39 + (x_1).toNat * 1) (.flat (.int .u32 (bits .and .u32 x_2 65299))) fun m8 => kn  m8) False) (kif (x_8 == 13) (kif (decide (0 ≤ x_1) && decide (x_1 < 16)) (ldI .u32 m b_0 (o_0 + 39 + (x_1).toNat * 1) fun x9 => kif (decide (0 ≤ x_1) && decide (x_1 < 16)) (stC m b_0 (o_0 + 39 + (x_1).toNat * 1) (.flat (.int .u32 (bits .or .u32 (bits .andNot .u32 x9 768) (bits .and .u32 x_2 768)))) fun m10 => kn  m10) False) False) (kn  m))))
def F146 (b_0 o_0 : Nat) (x_1 : Int) (x_2 : Int) (m : Mem) (k : Mem → Prop) : Prop :=
 kif (x_1 == 0) (kif (decide (0 ≤ x_1) && decide (x_1 < 16)) (stC m b_0 (o_0 + 39 + (x_1).toNat * 1) (.flat (.int .u32 (bits .and .u32 x_2 7))) fun m1 => k  m1) False) (kif (x_1 == 2) (kif (decide (0 ≤ x_1) && decide (x_1 < 16)) (stC m b_0 (o_0 + 39 + (x_1).toNat * 1) (.flat (.int .u32 (bits .and .u32 x_2 4294966279))) fun m2 => k  m2) False) (kif (x_1 == 10) (kif (decide (0 ≤ x_1) && decide (x_1 < 16)) (stC m b_0 (o_0 + 39 + (x_1).toNat * 1) (.flat (.int .u32 (bits .and .u32 x_2 4294966527))) fun m3 => k  m3) False) (kif (x_1 == 9) (P146_10004 b_0 o_0 x_1 x_2 x_1 (x_1 == 9) m (fun m11 => k  m11)) (P146_10004 b_0 o_0 x_1 x_2 x_1 (x_1 == 14) m (fun m12 => k  m12)))))
def G146 := Gs [.p, .i .i64, .i .u32] [] F146
def D146_10004 : PcD := ⟨[0, 1, 2, 8, 36], [.p, .i .i64, .i .u32, .i .i64, .b], [⟨.normal, [], [], []⟩], P146_10004⟩
def Lam146 : LEnv := lamOf [] [] [10004] [(10004, pcK D146_10004)]
theorem pok146_10004 : PieceOK Tryz.prog E146 Lam146 (nthP Lam146 (bodyOf Tryz.f146) 0) := pc_ok D146_10004 (fun _ _ _ => by kernel_rfl) (by kernel_rfl) (fun _ _ _ _ _ _ _ _ => by kernel_rfl)
def E148 : Env := ext E146 146 G146
theorem S148 (w0 : World) : SP w0 E148 := sg (S146 w0) Tryz.func146 Tryz.call146 (Λ := Lam146) 0 trivial 1 ⟨pok146_10004, trivial⟩ (by kernel_rfl) false (fun _ _ _ _ _ _ => by kernel_rfl)
def P148_4002 (b_0 o_0 : Nat) (x_4 : Int) (m : Mem) (kn : Mem → Prop) : Prop :=
 ldI .u32 m b_0 (o_0 + 39 + 10) fun x4 => ldI .u32 m b_0 (o_0 + 39 + 2) fun x5 => kif (decide (0 ≤ x_4) && decide (x_4 < 8)) (stG 2 m b_0 (o_0 + 55 + (x_4).toNat * 2) (upd (upd (lget [(.flat (.int .u32 0)), (.flat (.int .u32 0))]) 0 (.flat (.int .u32 x4))) 1 (.flat (.int .u32 x5))) fun m6 => kn  m6) False
def F148 (b_0 o_0 : Nat) (x_1 : Bool) (m : Mem) (k : Mem → Prop) : Prop :=
 ldI .u32 m b_0 (o_0 + 39 + 0) fun x1 => kif x_1 (F145 b_0 o_0 1 m fun x2 m3 => P148_4002 b_0 o_0 x2 m3 (fun m7 => k  m7)) (P148_4002 b_0 o_0 (bits .and .u32 x1 7) m (fun m8 => k  m8))
def G148 := Gs [.p, .b] [] F148
def D148_4002 : PcD := ⟨[0, 4], [.p, .i .u32], [⟨.normal, [], [], []⟩], P148_4002⟩
def Lam148 : LEnv := lamOf [] [] [4002] [(4002, pcK D148_4002)]
theorem pok148_4002 : PieceOK Tryz.prog E148 Lam148 (nthP Lam148 (bodyOf Tryz.f148) 0) := pc_ok D148_4002 (fun _ _ _ => by kernel_rfl) (by kernel_rfl) (fun _ _ _ _ _ => by kernel_rfl)
def E109 : Env := ext E148 148 G148
theorem S109 (w0 : World) : SP w0 E109 := sg (S148 w0) Tryz.func148 Tryz.call148 (Λ := Lam148) 0 trivial 1 ⟨pok148_4002, trivial⟩ (by kernel_rfl) false (fun _ _ _ _ _ => by kernel_rfl)
def P109_10004 (b_0 o_0 : Nat) (b_3 o_3 : Nat) (x_5 : Int) (x_33 : Bool) (m : Mem) (kn : Mem → Prop) : Prop :=
 kif x_33 (ldI .i64 m b_3 (o_3 + 0) fun x14 => F148 b_0 o_0 (x14 == 58) m fun m15 => kn  m15) (kif (x_5 == 59) (bump False) (kif (x_5 == 61) (stC m b_0 (o_0 + 71) (.flat (.bool true)) fun m16 => kn  m16) (kn  m)))
def F109 (b_0 o_0 : Nat) (c_1 : Nat → AV) (m : Mem) (k : Mem → Prop) : Prop :=
 newK m ⟨6, c_1, 32, false⟩ fun b2 m1 => ldI .i64 m1 b2 0 fun x3 => kif (x3 == 54) (∃ Fr4 : Nat → Prop, Fr4 b2 ∧ (ldI .i64 m1 b2 2 fun x5 => Fr4 b2 ∧ (ldI .i64 m1 b2 3 fun x6 => F145 b_0 o_0 x6 m1 fun x7 m8 => KeepsIn Fr4 m1 m8 ∧ (F142 b_0 o_0 x5 x7 m8 fun m9 => KeepsIn Fr4 m8 m9 ∧ (k  m9))))) (kif (x3 == 55) (ldI .i64 m1 b2 3 fun x10 => ldI .i64 m1 b2 2 fun x11 => kif (decide (0 ≤ x11) && decide (x11 < 32)) (ldI .u32 m1 b_0 (o_0 + 0 + (x11).toNat * 1) fun x12 => F146 b_0 o_0 x10 x12 m1 fun m13 => k  m13) False) (kif (x3 == 56) (bump False) (kif (x3 == 57) (P109_10004 b_0 o_0 b2 0 x3 (x3 == 57) m1 (fun m17 => k  m17)) (P109_10004 b_0 o_0 b2 0 x3 (x3 == 58) m1 (fun m18 => k  m18)))))
def G109 := Gs [.p, .g 6] [] F109
def D109_10004 : PcD := ⟨[0, 3, 5, 33], [.p, .p, .i .i64, .b], [⟨.normal, [], [], []⟩], P109_10004⟩
def Lam109 : LEnv := lamOf [] [3] [10004] [(10004, pcK D109_10004)]
theorem pok109_10004 : PieceOK Tryz.prog E109 Lam109 (nthP Lam109 (bodyOf Tryz.f109) 0) := pc_ok D109_10004 (fun _ _ _ => by kernel_rfl) (by kernel_rfl) (fun _ _ _ _ _ _ _ _ => by kernel_rfl)
def E191 : Env := ext E109 109 G109
theorem S191 (w0 : World) : SP w0 E191 := sg (S109 w0) Tryz.func109 Tryz.call109 (Λ := Lam109) 0 trivial 1 ⟨pok109_10004, trivial⟩ (by kernel_rfl) false (fun _ _ _ _ _ => by kernel_rfl)
def P191_8102 (x_1 : Int) (x_2 : Int) (m : Mem) (kr : Int → Mem → Prop) : Prop :=
 F187 x_1 x_2 m fun x7 m8 => kr x7 m8
def P191_4004 (x_1 : Int) (x_2 : Int) (x_7 : Int) (x_8 : Bool) (m : Mem) (kr : Int → Mem → Prop) (kn : Mem → Prop) : Prop :=
 kif x_8 (kif (decide (x_2 < 0)) False (kr (IntKind.wrap .u32 (x_1 * 2 ^ min (x_2).toNat 32)) m)) (kif (x_7 == 2) (kif (x_7 == 2) (kif (decide (x_2 < 0)) False (kr (x_1.fdiv (2 ^ min (x_2).toNat 32)) m)) (kn  m)) (kif (x_7 == 5) (kif (decide (x_2 < 0)) False (kr (x_1.fdiv (2 ^ min (x_2).toNat 32)) m)) (kn  m)))
def F191 (x_0 : Int) (x_1 : Int) (x_2 : Int) (m : Mem) (k : Int → Mem → Prop) : Prop :=
 kif (x_0 == 1) (P191_4004 x_1 x_2 x_0 (x_0 == 1) m (fun x1 m2 => (Keeps m m2 ∧ k x1 m)) (fun m3 => P191_8102 x_1 x_2 m3 (fun x9 m10 => (Keeps m m10 ∧ k x9 m)))) (P191_4004 x_1 x_2 x_0 (x_0 == 4) m (fun x4 m5 => (Keeps m m5 ∧ k x4 m)) (fun m6 => P191_8102 x_1 x_2 m6 (fun x11 m12 => (Keeps m m12 ∧ k x11 m))))
def G191 := Gs [.i .i64, .i .u32, .i .i64] [.i .u32] F191
def D191_4004 : PcD := ⟨[1, 2, 7, 8], [.i .u32, .i .i64, .i .i64, .b], [⟨.ret, [6], [.i .u32], []⟩, ⟨.normal, [], [], [1, 2]⟩], P191_4004⟩
def D191_8102 : PcD := ⟨[1, 2], [.i .u32, .i .i64], [⟨.ret, [6], [.i .u32], []⟩], P191_8102⟩
def Lam191 : LEnv := lamOf [] [] [4004, 8102] [(4004, pcK D191_4004), (8102, pcK D191_8102)]
theorem pok191_8102 : PieceOK Tryz.prog E191 Lam191 (nthP Lam191 (bodyOf Tryz.f191) 0) := pc_ok D191_8102 (fun _ _ _ => by kernel_rfl) (by kernel_rfl) (fun _ _ _ _ => by kernel_rfl)
theorem pok191_4004 : PieceOK Tryz.prog E191 Lam191 (nthP Lam191 (bodyOf Tryz.f191) 1) := pc_ok D191_4004 (fun _ _ _ => by kernel_rfl) (by kernel_rfl) (fun _ _ _ _ _ _ => by kernel_rfl)
def E217 : Env := ext E191 191 G191
theorem S217 (w0 : World) : SP w0 E217 := sg (S191 w0) Tryz.func191 Tryz.call191 (Λ := Lam191) 0 trivial 2 ⟨pok191_8102, pok191_4004, trivial⟩ (by kernel_rfl) true (fun _ _ _ _ _ => by kernel_rfl)
def F217 (x_0 : Bool) (m : Mem) (k : Int → Mem → Prop) : Prop :=
 kif x_0 ((Keeps m m ∧ k 1 m)) ((Keeps m m ∧ k 0 m))
def G217 := Gs [.b] [.i .u32] F217
def E192 : Env := ext E217 217 G217
theorem S192 (w0 : World) : SP w0 E192 := sg0 (S217 w0) Tryz.func217 Tryz.call217 (by kernel_rfl) true (fun _ _ _ => by kernel_rfl)
def P192_8004 (x_1 : Int) (b_2 o_2 : Nat) (x_5 : Int) (x_6 : Int) (x_14 : Int) (x_21 : Bool) (m : Mem) (kr : Int → Mem → Prop) (kn : Mem → Prop) : Prop :=
 kif x_21 (ldI .i64 m b_2 (o_2 + 0) fun x9 => F186 x_1 x_6 (x9 == 48) m fun x10 m11 => F217 x10 m11 fun x12 m13 => kr x12 m13) (kif (x_14 == 50) (kr (bits .and .u32 x_1 x_5) m) (kif (x_14 == 51) (kr (bits .or .u32 x_1 x_5) m) (kif (x_14 == 52) (kr (bits .xor .u32 x_1 x_5) m) (kn  m))))
def P192_5004 (x_1 : Int) (b_2 o_2 : Nat) (x_5 : Int) (x_6 : Int) (x_14 : Int) (x_15 : Bool) (m : Mem) (kr : Int → Mem → Prop) (kn : Mem → Prop) : Prop :=
 kif x_15 (kr (IntKind.wrap .u32 (x_1 + x_6)) m) (kif (x_14 == 48) (P192_8004 x_1 b_2 o_2 x_5 x_6 x_14 (x_14 == 48) m (fun x14 m15 => kr x14 m15) (fun m16 => kn  m16)) (P192_8004 x_1 b_2 o_2 x_5 x_6 x_14 (x_14 == 49) m (fun x17 m18 => kr x17 m18) (fun m19 => kn  m19)))
def F192 (c_0 : Nat → AV) (x_1 : Int) (m : Mem) (k : Int → Mem → Prop) : Prop :=
 newK m ⟨6, c_0, 32, false⟩ fun b2 m1 => ∃ Fr3 : Nat → Prop, Fr3 b2 ∧ (ldI .u32 m1 b2 5 fun x4 => Fr3 b2 ∧ (ldI .u32 m1 b2 5 fun x5 => F140 x5 16 m1 fun x6 m7 => KeepsIn Fr3 m1 m7 ∧ (ldI .i64 m7 b2 0 fun x8 => kif (x8 == 46) (P192_5004 x_1 b2 0 (bits .and .u32 x4 65535) x6 x8 (x8 == 46) m7 (fun x20 m21 => (Keeps m m21 ∧ k x20 m)) (fun m22 => (Keeps m m22 ∧ k (IntKind.wrap .u32 ((bits .and .u32 x4 65535) * 65536)) m))) (P192_5004 x_1 b2 0 (bits .and .u32 x4 65535) x6 x8 (x8 == 47) m7 (fun x23 m24 => (Keeps m m24 ∧ k x23 m)) (fun m25 => (Keeps m m25 ∧ k (IntKind.wrap .u32 ((bits .and .u32 x4 65535) * 65536)) m))))))
def G192 := Gs [.g 6, .i .u32] [.i .u32] F192
def D192_5004 : PcD := ⟨[1, 2, 5, 6, 14, 15], [.i .u32, .p, .i .u32, .i .u32, .i .i64, .b], [⟨.ret, [4], [.i .u32], []⟩, ⟨.normal, [], [], [5]⟩], P192_5004⟩
def D192_8004 : PcD := ⟨[1, 2, 5, 6, 14, 21], [.i .u32, .p, .i .u32, .i .u32, .i .i64, .b], [⟨.ret, [4], [.i .u32], []⟩, ⟨.normal, [], [], [5]⟩], P192_8004⟩
def Lam192 : LEnv := lamOf [] [1] [5004, 8004] [(5004, pcK D192_5004), (8004, pcK D192_8004)]
theorem pok192_8004 : PieceOK Tryz.prog E192 Lam192 (nthP Lam192 (bodyOf Tryz.f192) 1) := pc_ok D192_8004 (fun _ _ _ => by kernel_rfl) (by kernel_rfl) (fun _ _ _ _ _ _ _ _ _ => by kernel_rfl)
theorem pok192_5004 : PieceOK Tryz.prog E192 Lam192 (nthP Lam192 (bodyOf Tryz.f192) 0) := pc_ok D192_5004 (fun _ _ _ => by kernel_rfl) (by kernel_rfl) (fun _ _ _ _ _ _ _ _ _ => by kernel_rfl)
def E193 : Env := ext E192 192 G192
theorem S193 (w0 : World) : SP w0 E193 := sg (S192 w0) Tryz.func192 Tryz.call192 (Λ := Lam192) 0 trivial 2 ⟨pok192_5004, pok192_8004, trivial⟩ (by kernel_rfl) true (fun _ _ _ _ => by kernel_rfl)
def P193_23102 (x_1 : Int) (x_2 : Int) (m : Mem) (kr : Int → Mem → Prop) : Prop :=
 F194 x_1 x_2 true m fun x27 x28 m29 => kr x28 m29
def P193_18004 (x_0 : Int) (x_1 : Int) (x_2 : Int) (x_9 : Int) (x_43 : Bool) (m : Mem) (kr : Int → Mem → Prop) (kn : Mem → Prop) : Prop :=
 kif x_43 (F186 x_1 x_2 (x_0 == 30) m fun x1 m2 => F217 x1 m2 fun x3 m4 => kr x3 m4) (kif (x_9 == 64) (F218 x_1 m fun x5 m6 => kr (IntKind.wrap .u32 x5) m6) (kif (x_9 == 65) (F219 x_1 m fun x7 m8 => kr (IntKind.wrap .u32 x7) m8) (kn  m)))
def P193_7004 (x_0 : Int) (x_1 : Int) (x_2 : Int) (x_9 : Int) (x_16 : Bool) (m : Mem) (kr : Int → Mem → Prop) (kn : Mem → Prop) : Prop :=
 kif x_16 (kr (IntKind.wrap .u32 (x_1 - x_2)) m) (kif (x_9 == 26) (kr (bits .and .u32 x_1 x_2) m) (kif (x_9 == 27) (kr (bits .or .u32 x_1 x_2) m) (kif (x_9 == 28) (kr (bits .xor .u32 x_1 x_2) m) (kif (x_9 == 29) (kr (bits .xor .u32 4294967295 (bits .or .u32 x_1 x_2)) m) (kif (x_9 == 30) (P193_18004 x_0 x_1 x_2 x_9 (x_9 == 30) m (fun x9 m10 => kr x9 m10) (fun m11 => kn  m11)) (P193_18004 x_0 x_1 x_2 x_9 (x_9 == 31) m (fun x12 m13 => kr x12 m13) (fun m14 => kn  m14)))))))
def P193_4004 (x_0 : Int) (x_1 : Int) (x_2 : Int) (x_9 : Int) (x_10 : Bool) (m : Mem) (kr : Int → Mem → Prop) (kn : Mem → Prop) : Prop :=
 kif x_10 (kr (IntKind.wrap .u32 (x_1 + x_2)) m) (kif (x_9 == 24) (P193_7004 x_0 x_1 x_2 x_9 (x_9 == 24) m (fun x15 m16 => kr x15 m16) (fun m17 => kn  m17)) (P193_7004 x_0 x_1 x_2 x_9 (x_9 == 25) m (fun x18 m19 => kr x18 m19) (fun m20 => kn  m20)))
def F193 (x_0 : Int) (x_1 : Int) (x_2 : Int) (m : Mem) (k : Int → Mem → Prop) : Prop :=
 kif (x_0 == 22) (P193_4004 x_0 x_1 x_2 x_0 (x_0 == 22) m (fun x21 m22 => (Keeps m m22 ∧ k x21 m)) (fun m23 => P193_23102 x_1 x_2 m23 (fun x30 m31 => (Keeps m m31 ∧ k x30 m)))) (P193_4004 x_0 x_1 x_2 x_0 (x_0 == 23) m (fun x24 m25 => (Keeps m m25 ∧ k x24 m)) (fun m26 => P193_23102 x_1 x_2 m26 (fun x32 m33 => (Keeps m m33 ∧ k x32 m))))
def G193 := Gs [.i .i64, .i .u32, .i .u32] [.i .u32] F193
def D193_4004 : PcD := ⟨[0, 1, 2, 9, 10], [.i .i64, .i .u32, .i .u32, .i .i64, .b], [⟨.ret, [6], [.i .u32], []⟩, ⟨.normal, [], [], [1, 2]⟩], P193_4004⟩
def D193_7004 : PcD := ⟨[0, 1, 2, 9, 16], [.i .i64, .i .u32, .i .u32, .i .i64, .b], [⟨.ret, [6], [.i .u32], []⟩, ⟨.normal, [], [], [1, 2]⟩], P193_7004⟩
def D193_18004 : PcD := ⟨[0, 1, 2, 9, 43], [.i .i64, .i .u32, .i .u32, .i .i64, .b], [⟨.ret, [6], [.i .u32], []⟩, ⟨.normal, [], [], [1, 2]⟩], P193_18004⟩
def D193_23102 : PcD := ⟨[1, 2], [.i .u32, .i .u32], [⟨.ret, [6], [.i .u32], []⟩], P193_23102⟩
def Lam193 : LEnv := lamOf [] [] [4004, 7004, 18004, 23102] [(4004, pcK D193_4004), (7004, pcK D193_7004), (18004, pcK D193_18004), (23102, pcK D193_23102)]
theorem pok193_23102 : PieceOK Tryz.prog E193 Lam193 (nthP Lam193 (bodyOf Tryz.f193) 0) := pc_ok D193_23102 (fun _ _ _ => by kernel_rfl) (by kernel_rfl) (fun _ _ _ _ => by kernel_rfl)
theorem pok193_18004 : PieceOK Tryz.prog E193 Lam193 (nthP Lam193 (bodyOf Tryz.f193) 3) := pc_ok D193_18004 (fun _ _ _ => by kernel_rfl) (by kernel_rfl) (fun _ _ _ _ _ _ _ => by kernel_rfl)
theorem pok193_7004 : PieceOK Tryz.prog E193 Lam193 (nthP Lam193 (bodyOf Tryz.f193) 2) := pc_ok D193_7004 (fun _ _ _ => by kernel_rfl) (by kernel_rfl) (fun _ _ _ _ _ _ _ => by kernel_rfl)
theorem pok193_4004 : PieceOK Tryz.prog E193 Lam193 (nthP Lam193 (bodyOf Tryz.f193) 1) := pc_ok D193_4004 (fun _ _ _ => by kernel_rfl) (by kernel_rfl) (fun _ _ _ _ _ _ _ => by kernel_rfl)
def E150 : Env := ext E193 193 G193
theorem S150 (w0 : World) : SP w0 E150 := sg (S193 w0) Tryz.func193 Tryz.call193 (Λ := Lam193) 0 trivial 4 ⟨pok193_23102, pok193_4004, pok193_7004, pok193_18004, trivial⟩ (by kernel_rfl) true (fun _ _ _ _ _ => by kernel_rfl)
def P150_10102 (x_1 : Int) (x_2 : Int) (b_3 o_3 : Nat) (m : Mem) (kr : Int → Bool → Mem → Prop) : Prop :=
 ldI .i64 m b_3 (o_3 + 0) fun x22 => F193 x22 x_1 x_2 m fun x23 m24 => kr x23 true m24
def P150_9004 (x_1 : Int) (x_2 : Int) (b_3 o_3 : Nat) (x_33 : Bool) (m : Mem) (kr : Int → Bool → Mem → Prop) (kn : Mem → Prop) : Prop :=
 kif x_33 (ldG 6 m b_3 o_3 fun c11 => F192 c11 x_1 m fun x12 m13 => kr x12 true m13) (kn  m)
def F150 (c_0 : Nat → AV) (x_1 : Int) (x_2 : Int) (m : Mem) (k : Int → Bool → Mem → Prop) : Prop :=
 newK m ⟨6, c_0, 32, false⟩ fun b2 m1 => ldI .i64 m1 b2 0 fun x3 => F190 x3 m1 fun x4 m5 => kif (!x4) ((Keeps m m5 ∧ k 0 false m)) (kif (decide (x3 ≤ 3)) (ldI .i64 m5 b2 4 fun x6 => F191 x3 x_2 (bits .and .i64 x6 31) m5 fun x7 m8 => (Keeps m m8 ∧ k x7 true m)) (kif (decide (x3 ≤ 6)) (F191 x3 x_2 (IntKind.wrap .i64 (bits .and .u32 x_1 31)) m5 fun x9 m10 => (Keeps m m10 ∧ k x9 true m)) (kif (decide (x3 ≥ 46)) (P150_9004 x_1 x_2 b2 0 (decide (x3 ≤ 53)) m5 (fun x14 x15 m16 => (Keeps m m16 ∧ k x14 x15 m)) (fun m17 => P150_10102 x_1 x_2 b2 0 m17 (fun x25 x26 m27 => (Keeps m m27 ∧ k x25 x26 m)))) (P150_9004 x_1 x_2 b2 0 false m5 (fun x18 x19 m20 => (Keeps m m20 ∧ k x18 x19 m)) (fun m21 => P150_10102 x_1 x_2 b2 0 m21 (fun x28 x29 m30 => (Keeps m m30 ∧ k x28 x29 m)))))))
def G150 := Gs [.g 6, .i .u32, .i .u32] [.i .u32, .b] F150
def D150_9004 : PcD := ⟨[1, 2, 3, 33], [.i .u32, .i .u32, .p, .b], [⟨.ret, [6, 7], [.i .u32, .b], []⟩, ⟨.normal, [], [], [1, 2, 3]⟩], P150_9004⟩
def D150_10102 : PcD := ⟨[1, 2, 3], [.i .u32, .i .u32, .p], [⟨.ret, [6, 7], [.i .u32, .b], []⟩], P150_10102⟩
def Lam150 : LEnv := lamOf [] [] [9004, 10102] [(9004, pcK D150_9004), (10102, pcK D150_10102)]
theorem pok150_10102 : PieceOK Tryz.prog E150 Lam150 (nthP Lam150 (bodyOf Tryz.f150) 0) := pc_ok D150_10102 (fun _ _ _ => by kernel_rfl) (by kernel_rfl) (fun _ _ _ _ _ _ => by kernel_rfl)
theorem pok150_9004 : PieceOK Tryz.prog E150 Lam150 (nthP Lam150 (bodyOf Tryz.f150) 1) := pc_ok D150_9004 (fun _ _ _ => by kernel_rfl) (by kernel_rfl) (fun _ _ _ _ _ _ _ => by kernel_rfl)
def E152 : Env := ext E150 150 G150
theorem S152 (w0 : World) : SP w0 E152 := sg (S150 w0) Tryz.func150 Tryz.call150 (Λ := Lam150) 0 trivial 2 ⟨pok150_10102, pok150_9004, trivial⟩ (by kernel_rfl) true (fun _ _ _ _ _ => by kernel_rfl)
def P152_13102 (x_3 : Int) (x_4 : Int) (m : Mem) (kr : Int → Int → Bool → Mem → Prop) : Prop :=
 kr x_3 x_4 true m
def P152_8004 (x_1 : Int) (x_2 : Int) (x_3 : Int) (x_4 : Int) (b_5 o_5 : Nat) (x_14 : Int) (x_29 : Bool) (m : Mem) (kn : Int → Int → Mem → Prop) (kr : Int → Int → Bool → Mem → Prop) : Prop :=
 kif x_29 (ldI .i64 m b_5 (o_5 + 0) fun x8 => F195 x_1 x_2 (x8 == 20) m fun x9 x10 m11 => kn x10 x9 m11) (kif (x_14 == 15) (kn x_1 x_4 m) (kif (x_14 == 17) (kn x_3 x_1 m) (kr x_3 x_4 false m)))
def P152_5004 (x_1 : Int) (x_2 : Int) (x_3 : Int) (x_4 : Int) (b_5 o_5 : Nat) (x_14 : Int) (x_17 : Bool) (m : Mem) (kn : Int → Int → Mem → Prop) (kr : Int → Int → Bool → Mem → Prop) : Prop :=
 kif x_17 (ldI .i64 m b_5 (o_5 + 0) fun x4 => F194 x_1 x_2 (x4 == 18) m fun x5 x6 m7 => kn x5 x6 m7) (kif (x_14 == 20) (P152_8004 x_1 x_2 x_3 x_4 b_5 o_5 x_14 (x_14 == 20) m (fun x12 x13 m14 => kn x12 x13 m14) (fun x15 x16 x17 m18 => kr x15 x16 x17 m18)) (P152_8004 x_1 x_2 x_3 x_4 b_5 o_5 x_14 (x_14 == 21) m (fun x19 x20 m21 => kn x19 x20 m21) (fun x22 x23 x24 m25 => kr x22 x23 x24 m25)))
def F152 (c_0 : Nat → AV) (x_1 : Int) (x_2 : Int) (x_3 : Int) (x_4 : Int) (m : Mem) (k : Int → Int → Bool → Mem → Prop) : Prop :=
 newK m ⟨6, c_0, 32, false⟩ fun b2 m1 => ldI .i64 m1 b2 0 fun x3 => kif (x3 == 18) (P152_5004 x_1 x_2 x_3 x_4 b2 0 x3 (x3 == 18) m1 (fun x26 x27 m28 => P152_13102 x26 x27 m28 (fun x40 x41 x42 m43 => (Keeps m m43 ∧ k x40 x41 x42 m))) (fun x29 x30 x31 m32 => (Keeps m m32 ∧ k x29 x30 x31 m))) (P152_5004 x_1 x_2 x_3 x_4 b2 0 x3 (x3 == 19) m1 (fun x33 x34 m35 => P152_13102 x33 x34 m35 (fun x44 x45 x46 m47 => (Keeps m m47 ∧ k x44 x45 x46 m))) (fun x36 x37 x38 m39 => (Keeps m m39 ∧ k x36 x37 x38 m)))
def G152 := Gs [.g 6, .i .u32, .i .u32, .i .u32, .i .u32] [.i .u32, .i .u32, .b] F152
def D152_5004 : PcD := ⟨[1, 2, 3, 4, 5, 14, 17], [.i .u32, .i .u32, .i .u32, .i .u32, .p, .i .i64, .b], [⟨.normal, [3, 4], [.i .u32, .i .u32], []⟩, ⟨.ret, [10, 11, 12], [.i .u32, .i .u32, .b], []⟩], P152_5004⟩
def D152_8004 : PcD := ⟨[1, 2, 3, 4, 5, 14, 29], [.i .u32, .i .u32, .i .u32, .i .u32, .p, .i .i64, .b], [⟨.normal, [3, 4], [.i .u32, .i .u32], []⟩, ⟨.ret, [10, 11, 12], [.i .u32, .i .u32, .b], []⟩], P152_8004⟩
def D152_13102 : PcD := ⟨[3, 4], [.i .u32, .i .u32], [⟨.ret, [10, 11, 12], [.i .u32, .i .u32, .b], []⟩], P152_13102⟩
def Lam152 : LEnv := lamOf [] [] [5004, 8004, 13102] [(5004, pcK D152_5004), (8004, pcK D152_8004), (13102, pcK D152_13102)]
theorem pok152_13102 : PieceOK Tryz.prog E152 Lam152 (nthP Lam152 (bodyOf Tryz.f152) 0) := pc_ok D152_13102 (fun _ _ _ => by kernel_rfl) (by kernel_rfl) (fun _ _ _ _ => by kernel_rfl)
theorem pok152_8004 : PieceOK Tryz.prog E152 Lam152 (nthP Lam152 (bodyOf Tryz.f152) 2) := pc_ok D152_8004 (fun _ _ _ => by kernel_rfl) (by kernel_rfl) (fun _ _ _ _ _ _ _ _ _ _ => by kernel_rfl)
theorem pok152_5004 : PieceOK Tryz.prog E152 Lam152 (nthP Lam152 (bodyOf Tryz.f152) 1) := pc_ok D152_5004 (fun _ _ _ => by kernel_rfl) (by kernel_rfl) (fun _ _ _ _ _ _ _ _ _ _ => by kernel_rfl)
def E110 : Env := ext E152 152 G152
theorem S110 (w0 : World) : SP w0 E110 := sg (S152 w0) Tryz.func152 Tryz.call152 (Λ := Lam152) 0 trivial 3 ⟨pok152_13102, pok152_5004, pok152_8004, trivial⟩ (by kernel_rfl) true (fun _ _ _ _ _ _ _ => by kernel_rfl)
def P110_14002 (b_0 o_0 : Nat) (b_3 o_3 : Nat) (x_4 : Int) (x_5 : Int) (m : Mem) (kn : Mem → Prop) : Prop :=
 ldG 6 m b_3 o_3 fun c27 => ldI .u32 m b_0 (o_0 + 32) fun x28 => ldI .u32 m b_0 (o_0 + 33) fun x29 => F152 c27 x_4 x_5 x28 x29 m fun x30 x31 x32 m33 => stC m33 b_0 (o_0 + 32) (.flat (.int .u32 x30)) fun m34 => stC m34 b_0 (o_0 + 33) (.flat (.int .u32 x31)) fun m35 => kn  m35
def P110_8004 (b_0 o_0 : Nat) (b_3 o_3 : Nat) (x_4 : Int) (x_5 : Int) (x_36 : Int) (x_37 : Bool) (m : Mem) (kn : Mem → Prop) : Prop :=
 kif x_37 (ldI .i64 m b_3 (o_3 + 0) fun x16 => kif ((x_5 == 0) == (x16 == 9)) (ldI .i64 m b_3 (o_3 + 3) fun x17 => F142 b_0 o_0 x17 x_4 m fun m18 => kn  m18) (kn  m)) (kif (x_36 == 14) (ldI .i64 m b_3 (o_3 + 3) fun x19 => ldI .u32 m b_0 (o_0 + 32) fun x20 => F142 b_0 o_0 x19 x20 m fun m21 => kn  m21) (kif (x_36 == 16) (ldI .i64 m b_3 (o_3 + 3) fun x22 => ldI .u32 m b_0 (o_0 + 33) fun x23 => F142 b_0 o_0 x22 x23 m fun m24 => kn  m24) (kn  m)))
def P110_5103 (b_0 o_0 : Nat) (b_3 o_3 : Nat) (x_4 : Int) (x_5 : Int) (m : Mem) (kn : Mem → Prop) : Prop :=
 ldI .i64 m b_3 (o_3 + 0) fun x15 => kif (x15 == 9) (P110_8004 b_0 o_0 b_3 o_3 x_4 x_5 x15 (x15 == 9) m (fun m25 => P110_14002 b_0 o_0 b_3 o_3 x_4 x_5 m25 (fun m36 => kn  m36))) (P110_8004 b_0 o_0 b_3 o_3 x_4 x_5 x15 (x15 == 10) m (fun m26 => P110_14002 b_0 o_0 b_3 o_3 x_4 x_5 m26 (fun m37 => kn  m37)))
def F110 (b_0 o_0 : Nat) (c_1 : Nat → AV) (m : Mem) (k : Mem → Prop) : Prop :=
 newK m ⟨6, c_1, 32, false⟩ fun b2 m1 => ldI .i64 m1 b2 1 fun x3 => kif (decide (0 ≤ x3) && decide (x3 < 32)) (ldI .u32 m1 b_0 (o_0 + 0 + (x3).toNat * 1) fun x4 => ldI .i64 m1 b2 2 fun x5 => kif (decide (0 ≤ x5) && decide (x5 < 32)) (ldI .u32 m1 b_0 (o_0 + 0 + (x5).toNat * 1) fun x6 => ldG 6 m1 b2 0 fun c7 => F150 c7 x4 x6 m1 fun x8 x9 m10 => kif x9 (ldG 6 m10 b2 0 fun c11 => F151 c11 m10 fun x12 m13 => F142 b_0 o_0 x12 x8 m13 fun m14 => P110_5103 b_0 o_0 b2 0 x4 x6 m14 (fun m38 => k  m38)) (P110_5103 b_0 o_0 b2 0 x4 x6 m10 (fun m39 => k  m39))) False) False
def G110 := Gs [.p, .g 6] [] F110
def D110_5103 : PcD := ⟨[0, 3, 4, 5], [.p, .p, .i .u32, .i .u32], [⟨.normal, [], [], []⟩], P110_5103⟩
def D110_8004 : PcD := ⟨[0, 3, 4, 5, 36, 37], [.p, .p, .i .u32, .i .u32, .i .i64, .b], [⟨.normal, [], [], [0, 3, 4, 5]⟩], P110_8004⟩
def D110_14002 : PcD := ⟨[0, 3, 4, 5], [.p, .p, .i .u32, .i .u32], [⟨.normal, [], [], []⟩], P110_14002⟩
def Lam110 : LEnv := lamOf [] [] [5103, 8004, 14002] [(5103, pcK D110_5103), (8004, pcK D110_8004), (14002, pcK D110_14002)]
theorem pok110_14002 : PieceOK Tryz.prog E110 Lam110 (nthP Lam110 (bodyOf Tryz.f110) 1) := pc_ok D110_14002 (fun _ _ _ => by kernel_rfl) (by kernel_rfl) (fun _ _ _ _ _ _ _ _ => by kernel_rfl)
theorem pok110_8004 : PieceOK Tryz.prog E110 Lam110 (nthP Lam110 (bodyOf Tryz.f110) 2) := pc_ok D110_8004 (fun _ _ _ => by kernel_rfl) (by kernel_rfl) (fun _ _ _ _ _ _ _ _ _ _ => by kernel_rfl)
theorem pok110_5103 : PieceOK Tryz.prog E110 Lam110 (nthP Lam110 (bodyOf Tryz.f110) 0) := pc_ok D110_5103 (fun _ _ _ => by kernel_rfl) (by kernel_rfl) (fun _ _ _ _ _ _ _ _ => by kernel_rfl)
def E153 : Env := ext E110 110 G110
theorem S153 (w0 : World) : SP w0 E153 := sg (S110 w0) Tryz.func110 Tryz.call110 (Λ := Lam110) 0 trivial 3 ⟨pok110_5103, pok110_14002, pok110_8004, trivial⟩ (by kernel_rfl) false (fun _ _ _ _ _ => by kernel_rfl)
def P153_17004 (x_7 : Int) (x_11 : Int) (x_32 : Bool) (m : Mem) (kr : Bool → Mem → Prop) (kn : Mem → Prop) : Prop :=
 kif x_32 (kr (decide (x_7 ≥ 0)) m) (kif (x_11 == 44) (kr (decide (x_7 ≤ 0)) m) (kif (x_11 == 45) (kr (decide (x_7 > 0)) m) (kn  m)))
def P153_14004 (x_7 : Int) (x_11 : Int) (x_27 : Bool) (m : Mem) (kr : Bool → Mem → Prop) (kn : Mem → Prop) : Prop :=
 kif x_27 (kr (decide (x_7 < 0)) m) (kif (x_11 == 37) (P153_17004 x_7 x_11 (x_11 == 37) m (fun x4 m5 => kr x4 m5) (fun m6 => kn  m6)) (P153_17004 x_7 x_11 (x_11 == 39) m (fun x7 m8 => kr x7 m8) (fun m9 => kn  m9)))
def P153_7004 (x_1 : Int) (x_2 : Int) (x_7 : Int) (x_11 : Int) (x_12 : Bool) (m : Mem) (kr : Bool → Mem → Prop) (kn : Mem → Prop) : Prop :=
 kif x_12 (kr true m) (kif (x_11 == 42) (kr (x_1 == x_2) m) (kif (x_11 == 43) (kr (x_1 != x_2) m) (kif (x_11 == 36) (P153_14004 x_7 x_11 (x_11 == 36) m (fun x10 m11 => kr x10 m11) (fun m12 => kn  m12)) (P153_14004 x_7 x_11 (x_11 == 38) m (fun x13 m14 => kr x13 m14) (fun m15 => kn  m15)))))
def F153 (c_0 : Nat → AV) (x_1 : Int) (x_2 : Int) (m : Mem) (k : Bool → Mem → Prop) : Prop :=
 newK m ⟨6, c_0, 32, false⟩ fun b2 m1 => ldI .i64 m1 b2 0 fun x3 => kif (x3 == 40) (P153_7004 x_1 x_2 (IntKind.wrap .i32 x_1) x3 (x3 == 40) m1 (fun x16 m17 => (Keeps m m17 ∧ k x16 m)) (fun m18 => (Keeps m m18 ∧ k false m))) (kif (x3 == 41) (P153_7004 x_1 x_2 (IntKind.wrap .i32 x_1) x3 (x3 == 41) m1 (fun x19 m20 => (Keeps m m20 ∧ k x19 m)) (fun m21 => (Keeps m m21 ∧ k false m))) (kif (x3 == 7) (P153_7004 x_1 x_2 (IntKind.wrap .i32 x_1) x3 (x3 == 7) m1 (fun x22 m23 => (Keeps m m23 ∧ k x22 m)) (fun m24 => (Keeps m m24 ∧ k false m))) (P153_7004 x_1 x_2 (IntKind.wrap .i32 x_1) x3 (x3 == 8) m1 (fun x25 m26 => (Keeps m m26 ∧ k x25 m)) (fun m27 => (Keeps m m27 ∧ k false m)))))
def G153 := Gs [.g 6, .i .u32, .i .u32] [.b] F153
def D153_7004 : PcD := ⟨[1, 2, 7, 11, 12], [.i .u32, .i .u32, .i .i32, .i .i64, .b], [⟨.ret, [6], [.b], []⟩, ⟨.normal, [], [], []⟩], P153_7004⟩
def D153_14004 : PcD := ⟨[7, 11, 27], [.i .i32, .i .i64, .b], [⟨.ret, [6], [.b], []⟩, ⟨.normal, [], [], []⟩], P153_14004⟩
def D153_17004 : PcD := ⟨[7, 11, 32], [.i .i32, .i .i64, .b], [⟨.ret, [6], [.b], []⟩, ⟨.normal, [], [], []⟩], P153_17004⟩
def Lam153 : LEnv := lamOf [] [] [7004, 14004, 17004] [(7004, pcK D153_7004), (14004, pcK D153_14004), (17004, pcK D153_17004)]
theorem pok153_17004 : PieceOK Tryz.prog E153 Lam153 (nthP Lam153 (bodyOf Tryz.f153) 2) := pc_ok D153_17004 (fun _ _ _ => by kernel_rfl) (by kernel_rfl) (fun _ _ _ _ _ => by kernel_rfl)
theorem pok153_14004 : PieceOK Tryz.prog E153 Lam153 (nthP Lam153 (bodyOf Tryz.f153) 1) := pc_ok D153_14004 (fun _ _ _ => by kernel_rfl) (by kernel_rfl) (fun _ _ _ _ _ => by kernel_rfl)
theorem pok153_7004 : PieceOK Tryz.prog E153 Lam153 (nthP Lam153 (bodyOf Tryz.f153) 0) := pc_ok D153_7004 (fun _ _ _ => by kernel_rfl) (by kernel_rfl) (fun _ _ _ _ _ _ _ => by kernel_rfl)
def E154 : Env := ext E153 153 G153
theorem S154 (w0 : World) : SP w0 E154 := sg (S153 w0) Tryz.func153 Tryz.call153 (Λ := Lam153) 0 trivial 3 ⟨pok153_7004, pok153_14004, pok153_17004, trivial⟩ (by kernel_rfl) true (fun _ _ _ _ _ => by kernel_rfl)
def P154_8102 (b_3 o_3 : Nat) (x_7 : Int) (m : Mem) (kr : Int → Mem → Prop) : Prop :=
 ldI .u32 m b_3 (o_3 + 5) fun x17 => F140 x17 16 m fun x18 m19 => kr (IntKind.wrap .u32 (x_7 + (IntKind.wrap .u32 (x18 * 4)))) m19
def P154_5004 (x_2 : Int) (b_3 o_3 : Nat) (x_7 : Int) (x_15 : Bool) (m : Mem) (kr : Int → Mem → Prop) (kn : Mem → Prop) : Prop :=
 kif x_15 (ldI .u32 m b_3 (o_3 + 5) fun x8 => kr (bits .or .u32 (bits .and .u32 x_7 4026531840) (IntKind.wrap .u32 ((bits .and .u32 x8 67108863) * 4))) m) (ldI .i64 m b_3 (o_3 + 0) fun x9 => kif (x9 == 7) (kr x_2 m) (ldI .i64 m b_3 (o_3 + 0) fun x10 => kif (x10 == 8) (kr x_2 m) (kn  m)))
def F154 (c_0 : Nat → AV) (x_1 : Int) (x_2 : Int) (m : Mem) (k : Int → Mem → Prop) : Prop :=
 newK m ⟨6, c_0, 32, false⟩ fun b2 m1 => ldG 6 m1 b2 0 fun c3 => F94 c3 m1 fun x4 m5 => kif (x4 != 3) ((Keeps m m5 ∧ k (IntKind.wrap .u32 (x_1 + 4)) m)) (ldI .i64 m5 b2 0 fun x6 => kif (x6 == 40) (P154_5004 x_2 b2 0 (IntKind.wrap .u32 (x_1 + 4)) true m5 (fun x11 m12 => (Keeps m m12 ∧ k x11 m)) (fun m13 => P154_8102 b2 0 (IntKind.wrap .u32 (x_1 + 4)) m13 (fun x20 m21 => (Keeps m m21 ∧ k x20 m)))) (ldI .i64 m5 b2 0 fun x7 => P154_5004 x_2 b2 0 (IntKind.wrap .u32 (x_1 + 4)) (x7 == 41) m5 (fun x14 m15 => (Keeps m m15 ∧ k x14 m)) (fun m16 => P154_8102 b2 0 (IntKind.wrap .u32 (x_1 + 4)) m16 (fun x22 m23 => (Keeps m m23 ∧ k x22 m)))))
def G154 := Gs [.g 6, .i .u32, .i .u32] [.i .u32] F154
def D154_5004 : PcD := ⟨[2, 3, 7, 15], [.i .u32, .p, .i .u32, .b], [⟨.ret, [6], [.i .u32], []⟩, ⟨.normal, [], [], [3, 7]⟩], P154_5004⟩
def D154_8102 : PcD := ⟨[3, 7], [.p, .i .u32], [⟨.ret, [6], [.i .u32], []⟩], P154_8102⟩
def Lam154 : LEnv := lamOf [] [] [5004, 8102] [(5004, pcK D154_5004), (8102, pcK D154_8102)]
theorem pok154_8102 : PieceOK Tryz.prog E154 Lam154 (nthP Lam154 (bodyOf Tryz.f154) 0) := pc_ok D154_8102 (fun _ _ _ => by kernel_rfl) (by kernel_rfl) (fun _ _ _ _ _ => by kernel_rfl)
theorem pok154_5004 : PieceOK Tryz.prog E154 Lam154 (nthP Lam154 (bodyOf Tryz.f154) 1) := pc_ok D154_5004 (fun _ _ _ => by kernel_rfl) (by kernel_rfl) (fun _ _ _ _ _ _ _ => by kernel_rfl)
def E155 : Env := ext E154 154 G154
theorem S155 (w0 : World) : SP w0 E155 := sg (S154 w0) Tryz.func154 Tryz.call154 (Λ := Lam154) 0 trivial 2 ⟨pok154_8102, pok154_5004, trivial⟩ (by kernel_rfl) true (fun _ _ _ _ _ => by kernel_rfl)
def P155_5004 (b_1 o_1 : Nat) (x_5 : Int) (x_6 : Bool) (m : Mem) (kr : Int → Bool → Mem → Prop) (kn : Mem → Prop) : Prop :=
 kif x_6 (kr 31 true m) (kif (x_5 == 8) (ldI .i64 m b_1 (o_1 + 3) fun x4 => kr x4 true m) (kn  m))
def F155 (c_0 : Nat → AV) (m : Mem) (k : Int → Bool → Mem → Prop) : Prop :=
 newK m ⟨6, c_0, 32, false⟩ fun b2 m1 => ldI .i64 m1 b2 0 fun x3 => kif (x3 == 41) (P155_5004 b2 0 x3 (x3 == 41) m1 (fun x5 x6 m7 => (Keeps m m7 ∧ k x5 x6 m)) (fun m8 => (Keeps m m8 ∧ k 0 false m))) (kif (x3 == 38) (P155_5004 b2 0 x3 (x3 == 38) m1 (fun x9 x10 m11 => (Keeps m m11 ∧ k x9 x10 m)) (fun m12 => (Keeps m m12 ∧ k 0 false m))) (P155_5004 b2 0 x3 (x3 == 39) m1 (fun x13 x14 m15 => (Keeps m m15 ∧ k x13 x14 m)) (fun m16 => (Keeps m m16 ∧ k 0 false m))))
def G155 := Gs [.g 6] [.i .i64, .b] F155
def D155_5004 : PcD := ⟨[1, 5, 6], [.p, .i .i64, .b], [⟨.ret, [2, 3], [.i .i64, .b], []⟩, ⟨.normal, [], [], []⟩], P155_5004⟩
def Lam155 : LEnv := lamOf [] [] [5004] [(5004, pcK D155_5004)]
theorem pok155_5004 : PieceOK Tryz.prog E155 Lam155 (nthP Lam155 (bodyOf Tryz.f155) 0) := pc_ok D155_5004 (fun _ _ _ => by kernel_rfl) (by kernel_rfl) (fun _ _ _ _ _ _ => by kernel_rfl)
def E111 : Env := ext E155 155 G155
theorem S111 (w0 : World) : SP w0 E111 := sg (S155 w0) Tryz.func155 Tryz.call155 (Λ := Lam155) 0 trivial 1 ⟨pok155_5004, trivial⟩ (by kernel_rfl) true (fun _ _ _ => by kernel_rfl)
def P111_6102 (b_0 o_0 : Nat) (b_5 o_5 : Nat) (x_8 : Int) (m : Mem) (kn : Mem → Prop) : Prop :=
 ldG 6 m b_5 o_5 fun c15 => F94 c15 m fun x16 m17 => stC m17 b_0 (o_0 + 36) (.flat (.bool (x16 == 3))) fun m18 => ldG 6 m18 b_5 o_5 fun c19 => F155 c19 m18 fun x20 x21 m22 => kif x21 (F142 b_0 o_0 x20 (IntKind.wrap .u32 (x_8 + 8)) m22 fun m23 => kn  m23) (kn  m22)
def F111 (b_0 o_0 : Nat) (c_1 : Nat → AV) (x_2 : Int) (x_3 : Int) (m : Mem) (k : Mem → Prop) : Prop :=
 newK m ⟨6, c_1, 32, false⟩ fun b2 m1 => ldI .u32 m1 b_0 (o_0 + 34) fun x3 => ldI .u32 m1 b_0 (o_0 + 35) fun x4 => stC m1 b_0 (o_0 + 34) (.flat (.int .u32 x4)) fun m5 => ldI .u32 m5 b_0 (o_0 + 34) fun x6 => stC m5 b_0 (o_0 + 35) (.flat (.int .u32 (IntKind.wrap .u32 (x6 + 4)))) fun m7 => ldG 6 m7 b2 0 fun c8 => F153 c8 x_2 x_3 m7 fun x9 m10 => kif x9 (ldG 6 m10 b2 0 fun c11 => F154 c11 x3 x_2 m10 fun x12 m13 => stC m13 b_0 (o_0 + 35) (.flat (.int .u32 x12)) fun m14 => P111_6102 b_0 o_0 b2 0 x3 m14 (fun m24 => k  m24)) (P111_6102 b_0 o_0 b2 0 x3 m10 (fun m25 => k  m25))
def G111 := Gs [.p, .g 6, .i .u32, .i .u32] [] F111
def D111_6102 : PcD := ⟨[0, 5, 8], [.p, .p, .i .u32], [⟨.normal, [], [], []⟩], P111_6102⟩
def Lam111 : LEnv := lamOf [] [] [6102] [(6102, pcK D111_6102)]
theorem pok111_6102 : PieceOK Tryz.prog E111 Lam111 (nthP Lam111 (bodyOf Tryz.f111) 0) := pc_ok D111_6102 (fun _ _ _ => by kernel_rfl) (by kernel_rfl) (fun _ _ _ _ _ _ _ => by kernel_rfl)
end Go.Proofs.YtkiggdgphbkneaaGreat.Am
