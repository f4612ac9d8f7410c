/- What Go functions ask of what follows them, as plain functions over the abstract machine; the machine asks just that. Written by gen.py. What Go functions ask of what follows them, as plain functions over the abstract machine; the machine asks just that. Writt -/
import Derived.Test.YtkiggdgphbkneaaGreatTopRefillsX15
namespace Go.Proofs.YtkiggdgphbkneaaGreat.Am
set_option linter.unusedVariables false
set_option linter.unusedSimpArgs false
set_option linter.constructorNameAsVariable false
set_option maxRecDepth 100000
def E170 : Env := ext E207 207 G207
theorem S170 (w0 : World) : SP w0 E170 := sg (S207 w0) Tryz.func207 Tryz.call207 (Λ := Lam207) 0 trivial 1 ⟨pok207_24004, trivial⟩ (by kernel_rfl) true (fun _ _ _ _ _ => by kernel_rfl)
def P170_3004 (b_0 o_0 : Nat) (b_3 o_3 : Nat) (x_4 : Int) (x_5 : Int) (x_72 : Bool) (m : Mem) (kn : Mem → Prop) : Prop :=
 kif x_72 (kn  m) (∃ Fr19 : Nat → Prop, Fr19 b_3 ∧ (ldI .i64 m b_3 (o_3 + 1) fun x20 => Fr19 b_3 ∧ (ldG 5 m b_3 o_3 fun c21 => F207 c21 x_4 x_5 m fun x22 m23 => KeepsIn Fr19 m m23 ∧ (kif (decide (0 ≤ x20) && decide (x20 < 40)) (stC m23 b_0 (o_0 + (x20).toNat * 1) (.flat (.int .u32 x22)) fun m24 => kn  m24) False))))
def P170_7004 (b_0 o_0 : Nat) (b_3 o_3 : Nat) (x_4 : Int) (x_5 : Int) (x_6 : Int) (x_51 : Bool) (m : Mem) (kn : Mem → Prop) : Prop :=
 kif x_51 (F195 x_4 x_5 (x_6 == 19) m fun x13 x14 m15 => stC m15 b_0 (o_0 + 33) (.flat (.int .u32 x13)) fun m16 => stC m16 b_0 (o_0 + 32) (.flat (.int .u32 x14)) fun m17 => kn  m17) (kif (x_6 == 0) (P170_3004 b_0 o_0 b_3 o_3 x_4 x_5 true m (fun m25 => kn  m25)) (ldI .i64 m b_3 (o_3 + 1) fun x18 => kif (x18 == 0) (P170_3004 b_0 o_0 b_3 o_3 x_4 x_5 true m (fun m26 => kn  m26)) (kif (x_6 == 21) (P170_3004 b_0 o_0 b_3 o_3 x_4 x_5 (!((x_5 == 0) == (x_6 == 21))) m (fun m27 => kn  m27)) (kif (x_6 == 22) (P170_3004 b_0 o_0 b_3 o_3 x_4 x_5 (!((x_5 == 0) == (x_6 == 21))) m (fun m28 => kn  m28)) (P170_3004 b_0 o_0 b_3 o_3 x_4 x_5 false m (fun m29 => kn  m29))))))
def P170_5004 (b_0 o_0 : Nat) (b_3 o_3 : Nat) (x_4 : Int) (x_5 : Int) (x_6 : Int) (x_30 : Bool) (m : Mem) (kn : Mem → Prop) : Prop :=
 kif x_30 (F194 x_4 x_5 (x_6 == 17) m fun x8 x9 m10 => stC m10 b_0 (o_0 + 32) (.flat (.int .u32 x8)) fun m11 => stC m11 b_0 (o_0 + 33) (.flat (.int .u32 x9)) fun m12 => kn  m12) (kif (x_6 == 19) (P170_7004 b_0 o_0 b_3 o_3 x_4 x_5 x_6 true m (fun m30 => kn  m30)) (P170_7004 b_0 o_0 b_3 o_3 x_4 x_5 x_6 (x_6 == 20) m (fun m31 => kn  m31)))
def F170 (b_0 o_0 : Nat) (c_1 : Nat → AV) (m : Mem) (k : Mem → Prop) : Prop :=
 newK m ⟨5, c_1, 224, false⟩ fun b2 m1 => ldI .i64 m1 b2 2 fun x3 => kif (decide (0 ≤ x3) && decide (x3 < 40)) (ldI .u32 m1 b_0 (o_0 + (x3).toNat * 1) fun x4 => ldI .i64 m1 b2 3 fun x5 => kif (decide (0 ≤ x5) && decide (x5 < 40)) (ldI .u32 m1 b_0 (o_0 + (x5).toNat * 1) fun x6 => ldI .i64 m1 b2 0 fun x7 => kif (x7 == 17) (P170_5004 b_0 o_0 b2 0 x4 x6 x7 true m1 (fun m32 => k  m32)) (P170_5004 b_0 o_0 b2 0 x4 x6 x7 (x7 == 18) m1 (fun m33 => k  m33))) False) False
def G170 := Gs [.p, .g 5] [] F170
def D170_5004 : PcD := ⟨[0, 3, 4, 5, 6, 30], [.p, .p, .i .u32, .i .u32, .i .i64, .b], [⟨.normal, [], [], []⟩], P170_5004⟩
def D170_7004 : PcD := ⟨[0, 3, 4, 5, 6, 51], [.p, .p, .i .u32, .i .u32, .i .i64, .b], [⟨.normal, [], [], []⟩], P170_7004⟩
def D170_3004 : PcD := ⟨[0, 3, 4, 5, 72], [.p, .p, .i .u32, .i .u32, .b], [⟨.normal, [], [], []⟩], P170_3004⟩
def Lam170 : LEnv := lamOf [] [3] [5004, 7004, 3004] [(5004, pcK D170_5004), (7004, pcK D170_7004), (3004, pcK D170_3004)]
theorem pok170_3004 : PieceOK Tryz.prog E170 Lam170 (nthP Lam170 (bodyOf Tryz.f170) 2) := pc_ok D170_3004 (fun _ _ _ => by kernel_rfl) (by kernel_rfl) (fun _ _ _ _ _ _ _ _ _ => by kernel_rfl)
theorem pok170_7004 : PieceOK Tryz.prog E170 Lam170 (nthP Lam170 (bodyOf Tryz.f170) 1) := pc_ok D170_7004 (fun _ _ _ => by kernel_rfl) (by kernel_rfl) (fun _ _ _ _ _ _ _ _ _ _ => by kernel_rfl)
theorem pok170_5004 : PieceOK Tryz.prog E170 Lam170 (nthP Lam170 (bodyOf Tryz.f170) 0) := pc_ok D170_5004 (fun _ _ _ => by kernel_rfl) (by kernel_rfl) (fun _ _ _ _ _ _ _ _ _ _ => by kernel_rfl)
def E127 : Env := ext E170 170 G170
theorem S127 (w0 : World) : SP w0 E127 := sg (S170 w0) Tryz.func170 Tryz.call170 (Λ := Lam170) 0 trivial 3 ⟨pok170_5004, pok170_7004, pok170_3004, trivial⟩ (by kernel_rfl) false (fun _ _ _ _ _ => by kernel_rfl)
def R127_5 (b_0 o_0 : Nat) (v_16 : AV) (x_17 : Int) (x_18 : Int) (m : Mem) (kn : Int → Mem → Prop) (k0 : Mem → Prop) : Prop :=
 kif (decide (x_18 < x_17)) (ksl v_16 fun b5 o6 l7 p8 => kif (decide (0 ≤ x_18) && decide (x_18 < l7)) (ldG 5 m b5 (o6 + (x_18).toNat * 5) fun c9 => newK m ⟨5, lget [(.flat (.int .i64 0)), (.flat (.int .i64 0)), (.flat (.int .i64 0)), (.flat (.int .i64 0)), (.flat (.int .u32 0))], 224, false⟩ fun b11 m10 => stG 5 m10 b11 0 c9 fun m12 => ldG 5 m12 b11 0 fun c13 => F170 b_0 o_0 c13 m12 fun m14 => kn (IntKind.wrap .i64 (x_18 + 1)) m14) False) (k0  m)
def L127_5 (b_0 o_0 : Nat) (v_16 : AV) (x_17 : Int) : Nat → Int → Mem → (Mem → Prop) → Prop
 | 0, _,  _, _ => bump False
 | N + 1, x_18,  m, k0 => R127_5 b_0 o_0 v_16 x_17 x_18 m (fun x_18' m' => L127_5 b_0 o_0 v_16 x_17 N x_18' m' k0) k0
def F127 (b_0 o_0 : Nat) (v_1 : AV) (m : Mem) (k : Bool → Mem → Prop) : Prop :=
 F167 v_1 (.flat (.func (.func 168) #[] #[])) m fun x1 m2 => kif x1 (k false m2) (stC m2 b_0 (o_0 + 0) (.flat (.int .u32 0)) fun m3 => klen v_1 fun x4 => ∃ N16, L127_5 b_0 o_0 v_1 x4 N16 0 m3 (fun m15 => k true m15))
def G127 := Gs [.p, .a] [.b] F127
def D127_5 : LpD := ⟨[0, 16, 17], [.p, .a, .i .i64], [18], [.i .i64], [⟨.exit 0, [], [], []⟩], R127_5, L127_5⟩
def Lam127 : LEnv := lamOf [(5, lpK D127_5)] [] [] []
theorem lok127_5 : LoopOK Tryz.prog E127 Lam127 (nthL (bodyOf Tryz.f127) 0) := lp_ok D127_5 (fun _ _ _ => by kernel_rfl) (by kernel_rfl) (fun _ _ _ _ _ _ _ _ => by kernel_rfl) (fun _ _ _ _ _ _ _ _ _ => by kernel_rfl) (fun _ _ _ _ _ _ _ _ => by kernel_rfl)
def E223 : Env := ext E127 127 G127
theorem S223 (w0 : World) : SP w0 E223 := sg (S127 w0) Tryz.func127 Tryz.call127 (Λ := Lam127) 1 ⟨lok127_5, trivial⟩ 0 trivial (by kernel_rfl) false (fun _ _ _ _ _ => by kernel_rfl)
def R223_2 (b_0 o_0 : Nat) (v_7 : AV) (x_8 : Int) (x_9 : Int) (m : Mem) (kn : Int → Mem → Prop) (k0 : Mem → Prop) (kr : Bool → Mem → Prop) : Prop :=
 kif (decide (x_9 < x_8)) (ksl v_7 fun b2 o3 l4 p5 => kif (decide (0 ≤ x_9) && decide (x_9 < l4)) (ldI .i64 m b2 (o3 + (x_9).toNat * 1) fun x6 => kif (decide (0 ≤ x6) && decide (x6 < 40)) (ldB m b_0 (o_0 + 0 + (x6).toNat * 1) fun x7 => kif (!x7) (kr false m) (kn (IntKind.wrap .i64 (x_9 + 1)) m)) False) False) (k0  m)
def L223_2 (b_0 o_0 : Nat) (v_7 : AV) (x_8 : Int) : Nat → Int → Mem → (Mem → Prop) → (Bool → Mem → Prop) → Prop
 | 0, _,  _, _, _ => bump False
 | N + 1, x_9,  m, k0, kr => R223_2 b_0 o_0 v_7 x_8 x_9 m (fun x_9' m' => L223_2 b_0 o_0 v_7 x_8 N x_9' m' k0 kr) k0 kr
def F223 (b_0 o_0 : Nat) (v_1 : AV) (m : Mem) (k : Bool → Mem → Prop) : Prop :=
 klen v_1 fun x1 => ∃ N11, L223_2 b_0 o_0 v_1 x1 N11 0 m (fun m8 => (Keeps m m8 ∧ k true m)) (fun x9 m10 => (Keeps m m10 ∧ k x9 m))
def G223 := Gs [.p, .a] [.b] F223
def D223_2 : LpD := ⟨[0, 7, 8], [.p, .a, .i .i64], [9], [.i .i64], [⟨.exit 0, [], [], []⟩, ⟨.ret, [4], [.b], []⟩], R223_2, L223_2⟩
def Lam223 : LEnv := lamOf [(2, lpK D223_2)] [] [] []
theorem lok223_2 : LoopOK Tryz.prog E223 Lam223 (nthL (bodyOf Tryz.f223) 0) := lp_ok D223_2 (fun _ _ _ => by kernel_rfl) (by kernel_rfl) (fun _ _ _ _ _ _ _ _ => by kernel_rfl) (fun _ _ _ _ _ _ _ _ _ => by kernel_rfl) (fun _ _ _ _ _ _ _ _ => by kernel_rfl)
def E204 : Env := ext E223 223 G223
theorem S204 (w0 : World) : SP w0 E204 := sg (S223 w0) Tryz.func223 Tryz.call223 (Λ := Lam223) 1 ⟨lok223_2, trivial⟩ 0 trivial (by kernel_rfl) true (fun _ _ _ _ _ => by kernel_rfl)
def P204_6102 (b_0 o_0 : Nat) (b_3 o_3 : Nat) (b_4 o_4 : Nat) (m : Mem) (kr : Bool → Mem → Prop) : Prop :=
 ldG 40 m b_0 (o_0 + 40) fun c41 => newK m ⟨40, Z40b, 192, false⟩ fun b43 m42 => stG 40 m42 b43 0 c41 fun m44 => ldG 5 m44 b_3 o_3 fun c45 => newK m44 ⟨5, splice (lget [(.flat (.int .i64 0)), (.flat (.int .i64 0)), (.flat (.int .i64 0)), (.flat (.int .i64 0)), (.flat (.int .u32 0))]) 0 5 c45, 224, false⟩ fun b47 m46 => F127 b43 0 (.sl b47 0 1 (.ex 1)) m46 fun x48 m49 => ldI .i64 m49 b_3 (o_3 + 1) fun x50 => ldI .i64 m49 b_3 (o_3 + 1) fun x51 => kif (decide (0 ≤ x51) && decide (x51 < 40)) (ldI .u32 m49 b43 (0 + (x51).toNat * 1) fun x52 => stG 5 m49 b_4 o_4 (upd (upd (upd (lget [(.flat (.int .i64 0)), (.flat (.int .i64 0)), (.flat (.int .i64 0)), (.flat (.int .i64 0)), (.flat (.int .u32 0))]) 0 (.flat (.int .i64 1))) 1 (.flat (.int .i64 x50))) 4 (.flat (.int .u32 x52))) fun m53 => kr true m53) False
def P204_3004 (b_0 o_0 : Nat) (b_3 o_3 : Nat) (b_4 o_4 : Nat) (v_6 : AV) (x_10 : Bool) (m : Mem) (kr : Bool → Mem → Prop) (kn : Mem → Prop) : Prop :=
 kif x_10 (∃ Fr13 : Nat → Prop, Fr13 b_3 ∧ (ldI .i64 m b_3 (o_3 + 1) fun x14 => Fr13 b_3 ∧ (ldI .i64 m b_3 (o_3 + 2) fun x15 => Fr13 b_3 ∧ (ldI .i64 m b_3 (o_3 + 3) fun x16 => kif (decide (0 ≤ x16) && decide (x16 < 40)) (Fr13 b_0 ∧ (ldI .u32 m b_0 (o_0 + 40 + (x16).toNat * 1) fun x17 => Fr13 b_3 ∧ (ldI .i64 m b_3 (o_3 + 0) fun x18 => stG 5 m b_4 o_4 (upd (upd (upd (lget [(.flat (.int .i64 0)), (.flat (.int .i64 0)), (.flat (.int .i64 0)), (.flat (.int .i64 0)), (.flat (.int .u32 0))]) 0 (.flat (.int .i64 2))) 1 (.flat (.int .i64 x14))) 2 (.flat (.int .i64 x15))) fun m19 => KeepsIn Fr13 m m19 ∧ (kr ((x17 == 0) == (x18 == 21)) m19)))) False)))) (ldG 5 m b_3 o_3 fun c20 => F201 c20 m fun x21 m22 => kif (!x21) (ldG 5 m22 b_3 o_3 fun c29 => stG 5 m22 b_4 o_4 c29 fun m30 => kr true m30) (klen v_6 fun x23 => kif (x23 != 1) (ldG 5 m22 b_3 o_3 fun c31 => stG 5 m22 b_4 o_4 c31 fun m32 => kr true m32) (ldG 5 m22 b_3 o_3 fun c24 => F202 c24 m22 fun v25 m26 => F223 b_0 o_0 v25 m26 fun x27 m28 => kif (!x27) (ldG 5 m28 b_3 o_3 fun c33 => stG 5 m28 b_4 o_4 c33 fun m34 => kr true m34) (kn  m28))))
def F204 (b_0 o_0 : Nat) (c_1 : Nat → AV) (m : Mem) (k : (Nat → AV) → Bool → Mem → Prop) : Prop :=
 newK m ⟨5, c_1, 224, false⟩ fun b2 m1 => newK m1 ⟨5, lget [(.flat (.int .i64 0)), (.flat (.int .i64 0)), (.flat (.int .i64 0)), (.flat (.int .i64 0)), (.flat (.int .u32 0))], 224, false⟩ fun b4 m3 => ldG 5 m3 b2 0 fun c5 => F198 c5 m3 fun v6 m7 => ldG 5 m7 b2 0 fun c8 => F201 c8 m7 fun x9 m10 => kif (!x9) (ldI .i64 m10 b2 3 fun x11 => kif (decide (0 ≤ x11) && decide (x11 < 40)) (ldB m10 b_0 (o_0 + 0 + (x11).toNat * 1) fun x12 => P204_3004 b_0 o_0 b2 0 b4 0 v6 x12 m10 (fun x35 m36 => ldG 5 m36 b4 0 fun c58 => k c58 x35 m36) (fun m37 => P204_6102 b_0 o_0 b2 0 b4 0 m37 (fun x54 m55 => ldG 5 m55 b4 0 fun c60 => k c60 x54 m55))) False) (P204_3004 b_0 o_0 b2 0 b4 0 v6 false m10 (fun x38 m39 => ldG 5 m39 b4 0 fun c59 => k c59 x38 m39) (fun m40 => P204_6102 b_0 o_0 b2 0 b4 0 m40 (fun x56 m57 => ldG 5 m57 b4 0 fun c61 => k c61 x56 m57)))
def G204 := Gs [.p, .g 5] [.g 5, .b] F204
def D204_3004 : PcD := ⟨[0, 3, 4, 6, 10], [.p, .p, .p, .a, .b], [⟨.ret, [5], [.b], [4]⟩, ⟨.normal, [], [], [0, 3, 4]⟩], P204_3004⟩
def D204_6102 : PcD := ⟨[0, 3, 4], [.p, .p, .p], [⟨.ret, [5], [.b], [4]⟩], P204_6102⟩
def Lam204 : LEnv := lamOf [] [3] [3004, 6102] [(3004, pcK D204_3004), (6102, pcK D204_6102)]
theorem pok204_6102 : PieceOK Tryz.prog E204 Lam204 (nthP Lam204 (bodyOf Tryz.f204) 0) := pc_ok D204_6102 (fun _ _ _ => by kernel_rfl) (by kernel_rfl) (fun _ _ _ _ _ _ _ _ => by kernel_rfl)
theorem pok204_3004 : PieceOK Tryz.prog E204 Lam204 (nthP Lam204 (bodyOf Tryz.f204) 1) := pc_ok D204_3004 (fun _ _ _ => by kernel_rfl) (by kernel_rfl) (fun _ _ _ _ _ _ _ _ _ _ => by kernel_rfl)
def E205 : Env := ext E204 204 G204
theorem S205 (w0 : World) : SP w0 E205 := sg (S204 w0) Tryz.func204 Tryz.call204 (Λ := Lam204) 0 trivial 2 ⟨pok204_6102, pok204_3004, trivial⟩ (by kernel_rfl) false (fun _ _ _ _ _ => by kernel_rfl)
def R205_5 (b_0 o_0 : Nat) (x_4 : Bool) (v_19 : AV) (x_20 : Int) (x_21 : Int) (m : Mem) (kn : Int → Mem → Prop) (k0 : Mem → Prop) : Prop :=
 kif (decide (x_21 < x_20)) (ksl v_19 fun b17 o18 l19 p20 => kif (decide (0 ≤ x_21) && decide (x_21 < l19)) (ldI .i64 m b17 (o18 + (x_21).toNat * 1) fun x21 => kif (decide (0 ≤ x21) && decide (x21 < 40)) (stC m b_0 (o_0 + 0 + (x21).toNat * 1) (.flat (.bool x_4)) fun m22 => kn (IntKind.wrap .i64 (x_21 + 1)) m22) False) False) (k0  m)
def L205_5 (b_0 o_0 : Nat) (x_4 : Bool) (v_19 : AV) (x_20 : Int) : Nat → Int → Mem → (Mem → Prop) → Prop
 | 0, _,  _, _ => bump False
 | N + 1, x_21,  m, k0 => R205_5 b_0 o_0 x_4 v_19 x_20 x_21 m (fun x_21' m' => L205_5 b_0 o_0 x_4 v_19 x_20 N x_21' m' k0) k0
def P205_4102 (b_0 o_0 : Nat) (b_3 o_3 : Nat) (x_4 : Bool) (m : Mem) (kn : Mem → Prop) : Prop :=
 ldG 5 m b_3 o_3 fun c13 => F198 c13 m fun v14 m15 => klen v14 fun x16 => ∃ N24, L205_5 b_0 o_0 x_4 v14 x16 N24 0 m15 (fun m23 => kn  m23)
def F205 (b_0 o_0 : Nat) (c_1 : Nat → AV) (m : Mem) (k : Mem → Prop) : Prop :=
 newK m ⟨5, c_1, 224, false⟩ fun b2 m1 => ldG 5 m1 b2 0 fun c3 => F202 c3 m1 fun v4 m5 => F223 b_0 o_0 v4 m5 fun x6 m7 => kif x6 (ldG 5 m7 b2 0 fun c8 => newK m7 ⟨5, splice (lget [(.flat (.int .i64 0)), (.flat (.int .i64 0)), (.flat (.int .i64 0)), (.flat (.int .i64 0)), (.flat (.int .u32 0))]) 0 5 c8, 224, false⟩ fun b10 m9 => F127 b_0 (o_0 + 40) (.sl b10 0 1 (.ex 1)) m9 fun x11 m12 => P205_4102 b_0 o_0 b2 0 x6 m12 (fun m25 => k  m25)) (P205_4102 b_0 o_0 b2 0 x6 m7 (fun m26 => k  m26))
def G205 := Gs [.p, .g 5] [] F205
def D205_4102 : PcD := ⟨[0, 3, 4], [.p, .p, .b], [⟨.normal, [], [], []⟩], P205_4102⟩
def D205_5 : LpD := ⟨[0, 4, 19, 20], [.p, .b, .a, .i .i64], [21], [.i .i64], [⟨.exit 0, [], [], []⟩], R205_5, L205_5⟩
def Lam205 : LEnv := lamOf [(5, lpK D205_5)] [] [4102] [(4102, pcK D205_4102)]
theorem lok205_5 : LoopOK Tryz.prog E205 Lam205 (nthL (bodyOf Tryz.f205) 0) := lp_ok D205_5 (fun _ _ _ => by kernel_rfl) (by kernel_rfl) (fun _ _ _ _ _ _ _ _ _ => by kernel_rfl) (fun _ _ _ _ _ _ _ _ _ _ => by kernel_rfl) (fun _ _ _ _ _ _ _ _ _ => by kernel_rfl)
theorem pok205_4102 : PieceOK Tryz.prog E205 Lam205 (nthP Lam205 (bodyOf Tryz.f205) 0) := pc_ok D205_4102 (fun _ _ _ => by kernel_rfl) (by kernel_rfl) (fun _ _ _ _ _ _ _ => by kernel_rfl)
def E163 : Env := ext E205 205 G205
theorem S163 (w0 : World) : SP w0 E163 := sg (S205 w0) Tryz.func205 Tryz.call205 (Λ := Lam205) 1 ⟨lok205_5, trivial⟩ 1 ⟨pok205_4102, trivial⟩ (by kernel_rfl) false (fun _ _ _ _ _ => by kernel_rfl)
def R163_7 (b_3 o_3 : Nat) (v_18 : AV) (x_19 : Int) (v_4 : AV) (x_20 : Int) (m : Mem) (kn : AV → Int → Mem → Prop) (k0 : AV → Mem → Prop) : Prop :=
 kif (decide (x_20 < x_19)) (ksl v_18 fun b7 o8 l9 p10 => kif (decide (0 ≤ x_20) && decide (x_20 < l9)) (ldG 5 m b7 (o8 + (x_20).toNat * 5) fun c11 => newK m ⟨5, lget [(.flat (.int .i64 0)), (.flat (.int .i64 0)), (.flat (.int .i64 0)), (.flat (.int .i64 0)), (.flat (.int .u32 0))], 224, false⟩ fun b13 m12 => stG 5 m12 b13 0 c11 fun m14 => ldG 5 m14 b13 0 fun c15 => F204 b_3 o_3 c15 m14 fun c16 x17 m18 => newK m18 ⟨5, lget [(.flat (.int .i64 0)), (.flat (.int .i64 0)), (.flat (.int .i64 0)), (.flat (.int .i64 0)), (.flat (.int .u32 0))], 224, false⟩ fun b20 m19 => stG 5 m19 b20 0 c16 fun m21 => kif x17 (ldG 5 m21 b20 0 fun c22 => newK m21 ⟨5, splice (lget [(.flat (.int .i64 0)), (.flat (.int .i64 0)), (.flat (.int .i64 0)), (.flat (.int .i64 0)), (.flat (.int .u32 0))]) 0 5 c22, 224, false⟩ fun b24 m23 => appS 5 40 224 v_4 (.sl b24 0 1 (.ex 1)) m23 fun v25 m26 => ldG 5 m26 b20 0 fun c27 => F205 b_3 o_3 c27 m26 fun m28 => kn v25 (IntKind.wrap .i64 (x_20 + 1)) m28) (kn v_4 (IntKind.wrap .i64 (x_20 + 1)) m21)) False) (k0 v_4 m)
def L163_7 (b_3 o_3 : Nat) (v_18 : AV) (x_19 : Int) : Nat → AV → Int → Mem → (AV → Mem → Prop) → Prop
 | 0, _, _,  _, _ => bump False
 | N + 1, v_4, x_20,  m, k0 => R163_7 b_3 o_3 v_18 x_19 v_4 x_20 m (fun v_4' x_20' m' => L163_7 b_3 o_3 v_18 x_19 N v_4' x_20' m' k0) k0
def F163 (v_0 : AV) (m : Mem) (k : AV → Mem → Prop) : Prop :=
 F197 v_0 m fun x1 m2 => kif (!x1) (k (.flat (.slice none 0 0)) m2) (newK m2 ⟨80, (Z80), 246, false⟩ fun b4 m3 => stC m3 b4 0 (.flat (.bool true)) fun m5 => klen v_0 fun x6 => ∃ N31, L163_7 b4 0 v_0 x6 N31 (.flat (.slice none 0 0)) 0 m5 (fun v29 m30 => k v29 m30))
def G163 := Gs [.a] [.a] F163
def D163_7 : LpD := ⟨[3, 18, 19], [.p, .a, .i .i64], [4, 20], [.a, .i .i64], [⟨.exit 0, [4], [.a], []⟩], R163_7, L163_7⟩
def Lam163 : LEnv := lamOf [(7, lpK D163_7)] [] [] []
theorem lok163_7 : LoopOK Tryz.prog E163 Lam163 (nthL (bodyOf Tryz.f163) 0) := lp_ok D163_7 (fun _ _ _ => by kernel_rfl) (by kernel_rfl) (fun _ _ _ _ _ _ _ _ _ => by kernel_rfl) (fun _ _ _ _ _ _ _ _ _ _ => by kernel_rfl) (fun _ _ _ _ _ _ _ _ _ => by kernel_rfl)
def E124 : Env := ext E163 163 G163
theorem S124 (w0 : World) : SP w0 E124 := sg (S163 w0) Tryz.func163 Tryz.call163 (Λ := Lam163) 1 ⟨lok163_7, trivial⟩ 0 trivial (by kernel_rfl) false (fun _ _ _ => by kernel_rfl)
def F124 (v_0 : AV) (m : Mem) (k : AV → Mem → Prop) : Prop :=
 F163 v_0 m fun v1 m2 => F162 v1 m2 fun v3 m4 => k v3 m4
def G124 := Gs [.a] [.a] F124
def E166 : Env := ext E124 124 G124
theorem S166 (w0 : World) : SP w0 E166 := sg0 (S124 w0) Tryz.func124 Tryz.call124 (by kernel_rfl) false (fun _ _ _ => by kernel_rfl)
def F166 (c_0 : Nat → AV) (m : Mem) (k : Int → Mem → Prop) : Prop :=
 newK m ⟨6, c_0, 32, false⟩ fun b2 m1 => ldI .i64 m1 b2 1 fun x3 => ldI .i64 m1 b2 2 fun x4 => ldI .i64 m1 b2 3 fun x5 => ldI .i64 m1 b2 4 fun x6 => ldI .u32 m1 b2 5 fun x7 => (Keeps m m1 ∧ k (bits .or .u32 (bits .or .u32 (bits .or .u32 (bits .or .u32 (IntKind.wrap .u32 ((IntKind.wrap .u32 x3) * 2097152)) (IntKind.wrap .u32 ((IntKind.wrap .u32 x4) * 65536))) (IntKind.wrap .u32 ((IntKind.wrap .u32 x5) * 2048))) (IntKind.wrap .u32 ((IntKind.wrap .u32 x6) * 64))) x7) m)
def G166 := Gs [.g 6] [.i .u32] F166
def E126 : Env := ext E166 166 G166
theorem S126 (w0 : World) : SP w0 E126 := sg0 (S166 w0) Tryz.func166 Tryz.call166 (by kernel_rfl) true (fun _ _ _ => by kernel_rfl)
def R126_2 (b_1 o_1 : Nat) (v_13 : AV) (x_14 : Int) (x_15 : Int) (m : Mem) (kn : Int → Mem → Prop) (k0 : Mem → Prop) (kr : Bool → Mem → Prop) : Prop :=
 kif (decide (x_15 < x_14)) (ksl v_13 fun b9 o10 l11 p12 => kif (decide (0 ≤ x_15) && decide (x_15 < l11)) (ldI .i64 m b9 (o10 + (x_15).toNat * 1) fun x13 => kif (decide (x13 < 0)) (kr false m) (kif (decide (x13 > 31)) (kr false m) (kn (IntKind.wrap .i64 (x_15 + 1)) m))) False) (k0  m)
def L126_2 (b_1 o_1 : Nat) (v_13 : AV) (x_14 : Int) : Nat → Int → Mem → (Mem → Prop) → (Bool → Mem → Prop) → Prop
 | 0, _,  _, _, _ => bump False
 | N + 1, x_15,  m, k0, kr => R126_2 b_1 o_1 v_13 x_14 x_15 m (fun x_15' m' => L126_2 b_1 o_1 v_13 x_14 N x_15' m' k0 kr) k0 kr
def F126 (c_0 : Nat → AV) (m : Mem) (k : Bool → Mem → Prop) : Prop :=
 newK m ⟨6, c_0, 32, false⟩ fun b2 m1 => ldI .i64 m1 b2 1 fun x3 => ldI .i64 m1 b2 2 fun x4 => ldI .i64 m1 b2 3 fun x5 => ldI .i64 m1 b2 4 fun x6 => newK m1 ⟨4, upd (upd (upd (upd (lget [(.flat (.int .i64 0)), (.flat (.int .i64 0)), (.flat (.int .i64 0)), (.flat (.int .i64 0))]) 0 (.flat (.int .i64 x3))) 1 (.flat (.int .i64 x4))) 2 (.flat (.int .i64 x5))) 3 (.flat (.int .i64 x6)), 3, false⟩ fun b8 m7 => ∃ N17, L126_2 b2 0 (.sl b8 0 4 (.ex 4)) 4 N17 0 m7 (fun m14 => ∃ Fr18 : Nat → Prop, Fr18 b2 ∧ (ldI .i64 m14 b2 0 fun x19 => kif (decide (x19 > 0)) (Fr18 b2 ∧ (ldI .i64 m14 b2 0 fun x20 => kif (decide (x20 < 78)) (Fr18 b2 ∧ (ldI .u32 m14 b2 5 fun x21 => kif (decide (x21 ≤ 67108863)) (Fr18 b2 ∧ (ldI .i64 m14 b2 0 fun x22 => Fr18 b2 ∧ (ldG 6 m14 b2 0 fun c23 => F166 c23 m14 fun x24 m25 => KeepsIn Fr18 m14 m25 ∧ (F122 x22 x24 m25 fun c26 m27 => KeepsIn Fr18 m25 m27 ∧ (Fr18 b2 ∧ (ldG 6 m27 b2 0 fun c28 => geq K32 c26 c28 fun x29 => (Keeps m m27 ∧ k x29 m))))))) ((Keeps m m14 ∧ k false m)))) ((Keeps m m14 ∧ k false m)))) ((Keeps m m14 ∧ k false m)))) (fun x15 m16 => (Keeps m m16 ∧ k x15 m))
def G126 := Gs [.g 6] [.b] F126
def D126_2 : LpD := ⟨[1, 13, 14], [.p, .a, .i .i64], [15], [.i .i64], [⟨.exit 0, [], [], [1]⟩, ⟨.ret, [2], [.b], []⟩], R126_2, L126_2⟩
def Lam126 : LEnv := lamOf [(2, lpK D126_2)] [7] [] []
theorem lok126_2 : LoopOK Tryz.prog E126 Lam126 (nthL (bodyOf Tryz.f126) 0) := lp_ok D126_2 (fun _ _ _ => by kernel_rfl) (by kernel_rfl) (fun _ _ _ _ _ _ _ _ => by kernel_rfl) (fun _ _ _ _ _ _ _ _ _ => by kernel_rfl) (fun _ _ _ _ _ _ _ _ => by kernel_rfl)
def E97 : Env := ext E126 126 G126
theorem S97 (w0 : World) : SP w0 E97 := sg (S126 w0) Tryz.func126 Tryz.call126 (Λ := Lam126) 1 ⟨lok126_2, trivial⟩ 0 trivial (by kernel_rfl) true (fun _ _ _ => by kernel_rfl)
def F97 (c_0 : Nat → AV) (m : Mem) (k : Bool → Mem → Prop) : Prop :=
 newK m ⟨6, c_0, 32, false⟩ fun b2 m1 => ldG 6 m1 b2 0 fun c3 => F126 c3 m1 fun x4 m5 => kif x4 (ldG 6 m5 b2 0 fun c6 => F94 c6 m5 fun x7 m8 => (Keeps m m8 ∧ k (x7 == 1) m)) ((Keeps m m5 ∧ k false m))
def G97 := Gs [.g 6] [.b] F97
def E190 : Env := ext E97 97 G97
theorem S190 (w0 : World) : SP w0 E190 := sg0 (S97 w0) Tryz.func97 Tryz.call97 (by kernel_rfl) true (fun _ _ _ => by kernel_rfl)
def F190 (x_0 : Int) (m : Mem) (k : Bool → Mem → Prop) : Prop :=
 kif (decide (x_0 ≥ 1)) (kif (decide (x_0 ≤ 6)) ((Keeps m m ∧ k true m)) (kif (decide (x_0 ≥ 22)) (kif (decide (x_0 ≤ 31)) ((Keeps m m ∧ k true m)) (kif (decide (x_0 ≥ 46)) (kif (decide (x_0 ≤ 53)) ((Keeps m m ∧ k true m)) (kif (decide (x_0 ≥ 63)) ((Keeps m m ∧ k (decide (x_0 ≤ 65)) m)) ((Keeps m m ∧ k false m)))) (kif (decide (x_0 ≥ 63)) ((Keeps m m ∧ k (decide (x_0 ≤ 65)) m)) ((Keeps m m ∧ k false m))))) (kif (decide (x_0 ≥ 46)) (kif (decide (x_0 ≤ 53)) ((Keeps m m ∧ k true m)) (kif (decide (x_0 ≥ 63)) ((Keeps m m ∧ k (decide (x_0 ≤ 65)) m)) ((Keeps m m ∧ k false m)))) (kif (decide (x_0 ≥ 63)) ((Keeps m m ∧ k (decide (x_0 ≤ 65)) m)) ((Keeps m m ∧ k false m)))))) (kif (decide (x_0 ≥ 22)) (kif (decide (x_0 ≤ 31)) ((Keeps m m ∧ k true m)) (kif (decide (x_0 ≥ 46)) (kif (decide (x_0 ≤ 53)) ((Keeps m m ∧ k true m)) (kif (decide (x_0 ≥ 63)) ((Keeps m m ∧ k (decide (x_0 ≤ 65)) m)) ((Keeps m m ∧ k false m)))) (kif (decide (x_0 ≥ 63)) ((Keeps m m ∧ k (decide (x_0 ≤ 65)) m)) ((Keeps m m ∧ k false m))))) (kif (decide (x_0 ≥ 46)) (kif (decide (x_0 ≤ 53)) ((Keeps m m ∧ k true m)) (kif (decide (x_0 ≥ 63)) ((Keeps m m ∧ k (decide (x_0 ≤ 65)) m)) ((Keeps m m ∧ k false m)))) (kif (decide (x_0 ≥ 63)) ((Keeps m m ∧ k (decide (x_0 ≤ 65)) m)) ((Keeps m m ∧ k false m)))))
def G190 := Gs [.i .i64] [.b] F190
def E151 : Env := ext E190 190 G190
theorem S151 (w0 : World) : SP w0 E151 := sg0 (S190 w0) Tryz.func190 Tryz.call190 (by kernel_rfl) true (fun _ _ _ => by kernel_rfl)
def F151 (c_0 : Nat → AV) (m : Mem) (k : Int → Mem → Prop) : Prop :=
 newK m ⟨6, c_0, 32, false⟩ fun b2 m1 => ldI .i64 m1 b2 0 fun x3 => F190 x3 m1 fun x4 m5 => kif (!x4) ((Keeps m m5 ∧ k 0 m)) (ldI .i64 m5 b2 0 fun x6 => kif (decide (x6 ≥ 46)) (ldI .i64 m5 b2 0 fun x7 => kif (decide (x7 ≤ 53)) (ldI .i64 m5 b2 2 fun x8 => (Keeps m m5 ∧ k x8 m)) (ldI .i64 m5 b2 3 fun x9 => (Keeps m m5 ∧ k x9 m))) (ldI .i64 m5 b2 3 fun x10 => (Keeps m m5 ∧ k x10 m)))
def G151 := Gs [.g 6] [.i .i64] F151
def E164 : Env := ext E151 151 G151
theorem S164 (w0 : World) : SP w0 E164 := sg0 (S151 w0) Tryz.func151 Tryz.call151 (by kernel_rfl) true (fun _ _ _ => by kernel_rfl)
def P164_32004 (x_3 : Int) (x_32 : Bool) (m : Mem) (kr : Int → Mem → Prop) (kn : Mem → Prop) : Prop :=
 kif x_32 (kr 13 m) (kif (x_3 == 63) (kr 14 m) (kif (x_3 == 64) (kr 15 m) (kif (x_3 == 65) (kr 16 m) (kif (x_3 == 18) (kr 17 m) (kif (x_3 == 19) (kr 18 m) (kif (x_3 == 20) (kr 19 m) (kif (x_3 == 21) (kr 20 m) (kif (x_3 == 9) (kr 21 m) (kif (x_3 == 10) (kr 22 m) (kn  m))))))))))
def P164_29004 (x_3 : Int) (x_29 : Bool) (m : Mem) (kr : Int → Mem → Prop) (kn : Mem → Prop) : Prop :=
 kif x_29 (kr 12 m) (kif (x_3 == 31) (P164_32004 x_3 (x_3 == 31) m (fun x1 m2 => kr x1 m2) (fun m3 => kn  m3)) (P164_32004 x_3 (x_3 == 49) m (fun x4 m5 => kr x4 m5) (fun m6 => kn  m6)))
def P164_24004 (x_3 : Int) (x_24 : Bool) (m : Mem) (kr : Int → Mem → Prop) (kn : Mem → Prop) : Prop :=
 kif x_24 (kr 7 m) (kif (x_3 == 29) (kr 8 m) (kif (x_3 == 30) (P164_29004 x_3 (x_3 == 30) m (fun x7 m8 => kr x7 m8) (fun m9 => kn  m9)) (P164_29004 x_3 (x_3 == 48) m (fun x10 m11 => kr x10 m11) (fun m12 => kn  m12))))
def P164_21004 (x_3 : Int) (x_21 : Bool) (m : Mem) (kr : Int → Mem → Prop) (kn : Mem → Prop) : Prop :=
 kif x_21 (kr 6 m) (kif (x_3 == 28) (P164_24004 x_3 (x_3 == 28) m (fun x13 m14 => kr x13 m14) (fun m15 => kn  m15)) (P164_24004 x_3 (x_3 == 52) m (fun x16 m17 => kr x16 m17) (fun m18 => kn  m18)))
def P164_18004 (x_3 : Int) (x_18 : Bool) (m : Mem) (kr : Int → Mem → Prop) (kn : Mem → Prop) : Prop :=
 kif x_18 (kr 5 m) (kif (x_3 == 27) (P164_21004 x_3 (x_3 == 27) m (fun x19 m20 => kr x19 m20) (fun m21 => kn  m21)) (P164_21004 x_3 (x_3 == 51) m (fun x22 m23 => kr x22 m23) (fun m24 => kn  m24)))
def P164_13004 (x_3 : Int) (x_13 : Bool) (m : Mem) (kr : Int → Mem → Prop) (kn : Mem → Prop) : Prop :=
 kif x_13 (kr 3 m) (kif (x_3 == 25) (kr 4 m) (kif (x_3 == 26) (P164_18004 x_3 (x_3 == 26) m (fun x25 m26 => kr x25 m26) (fun m27 => kn  m27)) (P164_18004 x_3 (x_3 == 50) m (fun x28 m29 => kr x28 m29) (fun m30 => kn  m30))))
def P164_10004 (x_3 : Int) (x_10 : Bool) (m : Mem) (kr : Int → Mem → Prop) (kn : Mem → Prop) : Prop :=
 kif x_10 (kr 11 m) (kif (x_3 == 23) (P164_13004 x_3 (x_3 == 23) m (fun x31 m32 => kr x31 m32) (fun m33 => kn  m33)) (P164_13004 x_3 (x_3 == 47) m (fun x34 m35 => kr x34 m35) (fun m36 => kn  m36)))
def P164_7004 (x_3 : Int) (x_7 : Bool) (m : Mem) (kr : Int → Mem → Prop) (kn : Mem → Prop) : Prop :=
 kif x_7 (kr 10 m) (kif (x_3 == 3) (P164_10004 x_3 (x_3 == 3) m (fun x37 m38 => kr x37 m38) (fun m39 => kn  m39)) (P164_10004 x_3 (x_3 == 6) m (fun x40 m41 => kr x40 m41) (fun m42 => kn  m42)))
def P164_4004 (x_3 : Int) (x_4 : Bool) (m : Mem) (kr : Int → Mem → Prop) (kn : Mem → Prop) : Prop :=
 kif x_4 (kr 9 m) (kif (x_3 == 2) (P164_7004 x_3 (x_3 == 2) m (fun x43 m44 => kr x43 m44) (fun m45 => kn  m45)) (P164_7004 x_3 (x_3 == 5) m (fun x46 m47 => kr x46 m47) (fun m48 => kn  m48)))
def F164 (x_0 : Int) (m : Mem) (k : Int → Mem → Prop) : Prop :=
 kif (x_0 == 1) (P164_4004 x_0 (x_0 == 1) m (fun x49 m50 => (Keeps m m50 ∧ k x49 m)) (fun m51 => (Keeps m m51 ∧ k 0 m))) (P164_4004 x_0 (x_0 == 4) m (fun x52 m53 => (Keeps m m53 ∧ k x52 m)) (fun m54 => (Keeps m m54 ∧ k 0 m)))
def G164 := Gs [.i .i64] [.i .i64] F164
def D164_4004 : PcD := ⟨[3, 4], [.i .i64, .b], [⟨.ret, [2], [.i .i64], []⟩, ⟨.normal, [], [], []⟩], P164_4004⟩
def D164_7004 : PcD := ⟨[3, 7], [.i .i64, .b], [⟨.ret, [2], [.i .i64], []⟩, ⟨.normal, [], [], []⟩], P164_7004⟩
def D164_10004 : PcD := ⟨[3, 10], [.i .i64, .b], [⟨.ret, [2], [.i .i64], []⟩, ⟨.normal, [], [], []⟩], P164_10004⟩
def D164_13004 : PcD := ⟨[3, 13], [.i .i64, .b], [⟨.ret, [2], [.i .i64], []⟩, ⟨.normal, [], [], []⟩], P164_13004⟩
def D164_18004 : PcD := ⟨[3, 18], [.i .i64, .b], [⟨.ret, [2], [.i .i64], []⟩, ⟨.normal, [], [], []⟩], P164_18004⟩
def D164_21004 : PcD := ⟨[3, 21], [.i .i64, .b], [⟨.ret, [2], [.i .i64], []⟩, ⟨.normal, [], [], []⟩], P164_21004⟩
def D164_24004 : PcD := ⟨[3, 24], [.i .i64, .b], [⟨.ret, [2], [.i .i64], []⟩, ⟨.normal, [], [], []⟩], P164_24004⟩
def D164_29004 : PcD := ⟨[3, 29], [.i .i64, .b], [⟨.ret, [2], [.i .i64], []⟩, ⟨.normal, [], [], []⟩], P164_29004⟩
def D164_32004 : PcD := ⟨[3, 32], [.i .i64, .b], [⟨.ret, [2], [.i .i64], []⟩, ⟨.normal, [], [], []⟩], P164_32004⟩
def Lam164 : LEnv := lamOf [] [] [4004, 7004, 10004, 13004, 18004, 21004, 24004, 29004, 32004] [(4004, pcK D164_4004), (7004, pcK D164_7004), (10004, pcK D164_10004), (13004, pcK D164_13004), (18004, pcK D164_18004), (21004, pcK D164_21004), (24004, pcK D164_24004), (29004, pcK D164_29004), (32004, pcK D164_32004)]
theorem pok164_32004 : PieceOK Tryz.prog E164 Lam164 (nthP Lam164 (bodyOf Tryz.f164) 8) := pc_ok D164_32004 (fun _ _ _ => by kernel_rfl) (by kernel_rfl) (fun _ _ _ _ => by kernel_rfl)
theorem pok164_29004 : PieceOK Tryz.prog E164 Lam164 (nthP Lam164 (bodyOf Tryz.f164) 7) := pc_ok D164_29004 (fun _ _ _ => by kernel_rfl) (by kernel_rfl) (fun _ _ _ _ => by kernel_rfl)
theorem pok164_24004 : PieceOK Tryz.prog E164 Lam164 (nthP Lam164 (bodyOf Tryz.f164) 6) := pc_ok D164_24004 (fun _ _ _ => by kernel_rfl) (by kernel_rfl) (fun _ _ _ _ => by kernel_rfl)
theorem pok164_21004 : PieceOK Tryz.prog E164 Lam164 (nthP Lam164 (bodyOf Tryz.f164) 5) := pc_ok D164_21004 (fun _ _ _ => by kernel_rfl) (by kernel_rfl) (fun _ _ _ _ => by kernel_rfl)
theorem pok164_18004 : PieceOK Tryz.prog E164 Lam164 (nthP Lam164 (bodyOf Tryz.f164) 4) := pc_ok D164_18004 (fun _ _ _ => by kernel_rfl) (by kernel_rfl) (fun _ _ _ _ => by kernel_rfl)
theorem pok164_13004 : PieceOK Tryz.prog E164 Lam164 (nthP Lam164 (bodyOf Tryz.f164) 3) := pc_ok D164_13004 (fun _ _ _ => by kernel_rfl) (by kernel_rfl) (fun _ _ _ _ => by kernel_rfl)
theorem pok164_10004 : PieceOK Tryz.prog E164 Lam164 (nthP Lam164 (bodyOf Tryz.f164) 2) := pc_ok D164_10004 (fun _ _ _ => by kernel_rfl) (by kernel_rfl) (fun _ _ _ _ => by kernel_rfl)
theorem pok164_7004 : PieceOK Tryz.prog E164 Lam164 (nthP Lam164 (bodyOf Tryz.f164) 1) := pc_ok D164_7004 (fun _ _ _ => by kernel_rfl) (by kernel_rfl) (fun _ _ _ _ => by kernel_rfl)
theorem pok164_4004 : PieceOK Tryz.prog E164 Lam164 (nthP Lam164 (bodyOf Tryz.f164) 0) := pc_ok D164_4004 (fun _ _ _ => by kernel_rfl) (by kernel_rfl) (fun _ _ _ _ => by kernel_rfl)
def E140 : Env := ext E164 164 G164
theorem S140 (w0 : World) : SP w0 E140 := sg (S164 w0) Tryz.func164 Tryz.call164 (Λ := Lam164) 0 trivial 9 ⟨pok164_4004, pok164_7004, pok164_10004, pok164_13004, pok164_18004, pok164_21004, pok164_24004, pok164_29004, pok164_32004, trivial⟩ (by kernel_rfl) true (fun _ _ _ => by kernel_rfl)
def F140 (x_0 : Int) (x_1 : Int) (m : Mem) (k : Int → Mem → Prop) : Prop :=
 kif (decide (x_1 < 1)) ((Keeps m m ∧ k 0 m)) (kif (decide (x_1 > 31)) ((Keeps m m ∧ k x_0 m)) (kif (decide (IntKind.wrap .i64 (32 - x_1) < 0)) False (F187 (IntKind.wrap .u32 (x_0 * 2 ^ min (IntKind.wrap .i64 (32 - x_1)).toNat 32)) (IntKind.wrap .i64 (32 - x_1)) m fun x1 m2 => (Keeps m m2 ∧ k x1 m))))
def G140 := Gs [.i .u32, .i .i64] [.i .u32] F140
def E165 : Env := ext E140 140 G140
theorem S165 (w0 : World) : SP w0 E165 := sg0 (S140 w0) Tryz.func140 Tryz.call140 (by kernel_rfl) true (fun _ _ _ _ => by kernel_rfl)
def F165 (c_0 : Nat → AV) (m : Mem) (k : Int → Mem → Prop) : Prop :=
 newK m ⟨6, c_0, 32, false⟩ fun b2 m1 => ldI .i64 m1 b2 0 fun x3 => kif (x3 == 50) (ldI .u32 m1 b2 5 fun x6 => (Keeps m m1 ∧ k x6 m)) (ldI .i64 m1 b2 0 fun x4 => kif (x4 == 51) (ldI .u32 m1 b2 5 fun x7 => (Keeps m m1 ∧ k x7 m)) (ldI .i64 m1 b2 0 fun x5 => kif (x5 == 52) (ldI .u32 m1 b2 5 fun x8 => (Keeps m m1 ∧ k x8 m)) (ldI .u32 m1 b2 5 fun x9 => F140 x9 16 m1 fun x10 m11 => (Keeps m m11 ∧ k x10 m))))
def G165 := Gs [.g 6] [.i .u32] F165
def E125 : Env := ext E165 165 G165
theorem S125 (w0 : World) : SP w0 E125 := sg0 (S165 w0) Tryz.func165 Tryz.call165 (by kernel_rfl) true (fun _ _ _ => by kernel_rfl)
def P125_20102 (b_1 o_1 : Nat) (x_3 : Int) (m : Mem) (kr : AV → Mem → Prop) : Prop :=
 ∃ Fr75 : Nat → Prop, F164 x_3 m fun x76 m77 => KeepsIn Fr75 m m77 ∧ (Fr75 b_1 ∧ (ldI .i64 m77 b_1 (o_1 + 3) fun x78 => Fr75 b_1 ∧ (ldI .i64 m77 b_1 (o_1 + 1) fun x79 => Fr75 b_1 ∧ (ldI .i64 m77 b_1 (o_1 + 2) fun x80 => newK m77 ⟨5, splice (lget [(.flat (.int .i64 0)), (.flat (.int .i64 0)), (.flat (.int .i64 0)), (.flat (.int .i64 0)), (.flat (.int .u32 0))]) 0 5 (upd (upd (upd (upd (lget [(.flat (.int .i64 0)), (.flat (.int .i64 0)), (.flat (.int .i64 0)), (.flat (.int .i64 0)), (.flat (.int .u32 0))]) 0 (.flat (.int .i64 x76))) 1 (.flat (.int .i64 x78))) 2 (.flat (.int .i64 x79))) 3 (.flat (.int .i64 x80))), 224, false⟩ fun b82 m81 => kr (.sl b82 0 1 (.ex 1)) m81))))
def P125_19004 (b_1 o_1 : Nat) (x_3 : Int) (x_88 : Bool) (m : Mem) (kr : AV → Mem → Prop) (kn : Mem → Prop) : Prop :=
 kif x_88 (∃ Fr44 : Nat → Prop, Fr44 b_1 ∧ (ldG 6 m b_1 o_1 fun c45 => F165 c45 m fun x46 m47 => KeepsIn Fr44 m m47 ∧ (F164 x_3 m47 fun x48 m49 => KeepsIn Fr44 m47 m49 ∧ (Fr44 b_1 ∧ (ldI .i64 m49 b_1 (o_1 + 2) fun x50 => Fr44 b_1 ∧ (ldI .i64 m49 b_1 (o_1 + 1) fun x51 => newK m49 ⟨10, splice (splice (Z10) 0 5 (upd (upd (upd (lget [(.flat (.int .i64 0)), (.flat (.int .i64 0)), (.flat (.int .i64 0)), (.flat (.int .i64 0)), (.flat (.int .u32 0))]) 0 (.flat (.int .i64 1))) 1 (.flat (.int .i64 34))) 4 (.flat (.int .u32 x46)))) 5 5 (upd (upd (upd (upd (lget [(.flat (.int .i64 0)), (.flat (.int .i64 0)), (.flat (.int .i64 0)), (.flat (.int .i64 0)), (.flat (.int .u32 0))]) 0 (.flat (.int .i64 x48))) 1 (.flat (.int .i64 x50))) 2 (.flat (.int .i64 x51))) 3 (.flat (.int .i64 34))), 224, false⟩ fun b53 m52 => kr (.sl b53 0 2 (.ex 2)) m52)))))) (kn  m)
def P125_3004 (b_1 o_1 : Nat) (x_3 : Int) (x_6 : Bool) (m : Mem) (kr : AV → Mem → Prop) (kn : Mem → Prop) : Prop :=
 kif x_6 (kr (.flat (.slice none 0 0)) m) (kif (x_3 == 53) (ldI .i64 m b_1 (o_1 + 2) fun x7 => ldI .u32 m b_1 (o_1 + 5) fun x8 => newK m ⟨5, splice (lget [(.flat (.int .i64 0)), (.flat (.int .i64 0)), (.flat (.int .i64 0)), (.flat (.int .i64 0)), (.flat (.int .u32 0))]) 0 5 (upd (upd (upd (lget [(.flat (.int .i64 0)), (.flat (.int .i64 0)), (.flat (.int .i64 0)), (.flat (.int .i64 0)), (.flat (.int .u32 0))]) 0 (.flat (.int .i64 1))) 1 (.flat (.int .i64 x7))) 4 (.flat (.int .u32 (IntKind.wrap .u32 (x8 * 65536))))), 224, false⟩ fun b10 m9 => kr (.sl b10 0 1 (.ex 1)) m9) (kif (x_3 == 14) (ldI .i64 m b_1 (o_1 + 3) fun x11 => newK m ⟨5, splice (lget [(.flat (.int .i64 0)), (.flat (.int .i64 0)), (.flat (.int .i64 0)), (.flat (.int .i64 0)), (.flat (.int .u32 0))]) 0 5 (upd (upd (upd (lget [(.flat (.int .i64 0)), (.flat (.int .i64 0)), (.flat (.int .i64 0)), (.flat (.int .i64 0)), (.flat (.int .u32 0))]) 0 (.flat (.int .i64 2))) 1 (.flat (.int .i64 x11))) 2 (.flat (.int .i64 32))), 224, false⟩ fun b13 m12 => kr (.sl b13 0 1 (.ex 1)) m12) (kif (x_3 == 16) (ldI .i64 m b_1 (o_1 + 3) fun x14 => newK m ⟨5, splice (lget [(.flat (.int .i64 0)), (.flat (.int .i64 0)), (.flat (.int .i64 0)), (.flat (.int .i64 0)), (.flat (.int .u32 0))]) 0 5 (upd (upd (upd (lget [(.flat (.int .i64 0)), (.flat (.int .i64 0)), (.flat (.int .i64 0)), (.flat (.int .i64 0)), (.flat (.int .u32 0))]) 0 (.flat (.int .i64 2))) 1 (.flat (.int .i64 x14))) 2 (.flat (.int .i64 33))), 224, false⟩ fun b16 m15 => kr (.sl b16 0 1 (.ex 1)) m15) (kif (x_3 == 15) (ldI .i64 m b_1 (o_1 + 1) fun x17 => newK m ⟨5, splice (lget [(.flat (.int .i64 0)), (.flat (.int .i64 0)), (.flat (.int .i64 0)), (.flat (.int .i64 0)), (.flat (.int .u32 0))]) 0 5 (upd (upd (upd (lget [(.flat (.int .i64 0)), (.flat (.int .i64 0)), (.flat (.int .i64 0)), (.flat (.int .i64 0)), (.flat (.int .u32 0))]) 0 (.flat (.int .i64 2))) 1 (.flat (.int .i64 32))) 2 (.flat (.int .i64 x17))), 224, false⟩ fun b19 m18 => kr (.sl b19 0 1 (.ex 1)) m18) (kif (x_3 == 17) (ldI .i64 m b_1 (o_1 + 1) fun x20 => newK m ⟨5, splice (lget [(.flat (.int .i64 0)), (.flat (.int .i64 0)), (.flat (.int .i64 0)), (.flat (.int .i64 0)), (.flat (.int .u32 0))]) 0 5 (upd (upd (upd (lget [(.flat (.int .i64 0)), (.flat (.int .i64 0)), (.flat (.int .i64 0)), (.flat (.int .i64 0)), (.flat (.int .u32 0))]) 0 (.flat (.int .i64 2))) 1 (.flat (.int .i64 33))) 2 (.flat (.int .i64 x20))), 224, false⟩ fun b22 m21 => kr (.sl b22 0 1 (.ex 1)) m21) (kif (decide (x_3 ≤ 3)) (∃ Fr23 : Nat → Prop, Fr23 b_1 ∧ (ldI .i64 m b_1 (o_1 + 4) fun x24 => F164 x_3 m fun x25 m26 => KeepsIn Fr23 m m26 ∧ (Fr23 b_1 ∧ (ldI .i64 m26 b_1 (o_1 + 3) fun x27 => Fr23 b_1 ∧ (ldI .i64 m26 b_1 (o_1 + 2) fun x28 => newK m26 ⟨10, splice (splice (Z10) 0 5 (upd (upd (upd (lget [(.flat (.int .i64 0)), (.flat (.int .i64 0)), (.flat (.int .i64 0)), (.flat (.int .i64 0)), (.flat (.int .u32 0))]) 0 (.flat (.int .i64 1))) 1 (.flat (.int .i64 34))) 4 (.flat (.int .u32 (IntKind.wrap .u32 x24))))) 5 5 (upd (upd (upd (upd (lget [(.flat (.int .i64 0)), (.flat (.int .i64 0)), (.flat (.int .i64 0)), (.flat (.int .i64 0)), (.flat (.int .u32 0))]) 0 (.flat (.int .i64 x25))) 1 (.flat (.int .i64 x27))) 2 (.flat (.int .i64 x28))) 3 (.flat (.int .i64 34))), 224, false⟩ fun b30 m29 => kr (.sl b30 0 2 (.ex 2)) m29))))) (kif (decide (x_3 ≤ 6)) (∃ Fr31 : Nat → Prop, F164 x_3 m fun x32 m33 => KeepsIn Fr31 m m33 ∧ (Fr31 b_1 ∧ (ldI .i64 m33 b_1 (o_1 + 3) fun x34 => Fr31 b_1 ∧ (ldI .i64 m33 b_1 (o_1 + 2) fun x35 => Fr31 b_1 ∧ (ldI .i64 m33 b_1 (o_1 + 1) fun x36 => newK m33 ⟨5, splice (lget [(.flat (.int .i64 0)), (.flat (.int .i64 0)), (.flat (.int .i64 0)), (.flat (.int .i64 0)), (.flat (.int .u32 0))]) 0 5 (upd (upd (upd (upd (lget [(.flat (.int .i64 0)), (.flat (.int .i64 0)), (.flat (.int .i64 0)), (.flat (.int .i64 0)), (.flat (.int .u32 0))]) 0 (.flat (.int .i64 x32))) 1 (.flat (.int .i64 x34))) 2 (.flat (.int .i64 x35))) 3 (.flat (.int .i64 x36))), 224, false⟩ fun b38 m37 => kr (.sl b38 0 1 (.ex 1)) m37))))) (∃ Fr39 : Nat → Prop, Fr39 b_1 ∧ (ldG 6 m b_1 o_1 fun c40 => F151 c40 m fun x41 m42 => KeepsIn Fr39 m m42 ∧ (Fr39 b_1 ∧ (ldI .i64 m42 b_1 (o_1 + 2) fun x43 => kif (x41 == x43) (kif (decide (x_3 ≥ 46)) (P125_19004 b_1 o_1 x_3 (decide (x_3 ≤ 52)) m42 (fun v54 m55 => kr v54 m55) (fun m56 => kn  m56)) (P125_19004 b_1 o_1 x_3 false m42 (fun v57 m58 => kr v57 m58) (fun m59 => kn  m59))) (P125_19004 b_1 o_1 x_3 false m42 (fun v60 m61 => kr v60 m61) (fun m62 => kn  m62)))))))))))))
def F125 (c_0 : Nat → AV) (m : Mem) (k : AV → Mem → Prop) : Prop :=
 newK m ⟨6, c_0, 32, false⟩ fun b2 m1 => ldI .i64 m1 b2 0 fun x3 => ldG 6 m1 b2 0 fun c4 => F97 c4 m1 fun x5 m6 => kif (!x5) (P125_3004 b2 0 x3 true m6 (fun v63 m64 => k v63 m64) (fun m65 => P125_20102 b2 0 x3 m65 (fun v83 m84 => k v83 m84))) (kif (x3 == 13) (P125_3004 b2 0 x3 true m6 (fun v66 m67 => k v66 m67) (fun m68 => P125_20102 b2 0 x3 m68 (fun v85 m86 => k v85 m86))) (kif (x3 == 76) (P125_3004 b2 0 x3 true m6 (fun v69 m70 => k v69 m70) (fun m71 => P125_20102 b2 0 x3 m71 (fun v87 m88 => k v87 m88))) (P125_3004 b2 0 x3 (x3 == 77) m6 (fun v72 m73 => k v72 m73) (fun m74 => P125_20102 b2 0 x3 m74 (fun v89 m90 => k v89 m90)))))
def G125 := Gs [.g 6] [.a] F125
def D125_3004 : PcD := ⟨[1, 3, 6], [.p, .i .i64, .b], [⟨.ret, [2], [.a], []⟩, ⟨.normal, [], [], [1, 3]⟩], P125_3004⟩
def D125_19004 : PcD := ⟨[1, 3, 88], [.p, .i .i64, .b], [⟨.ret, [2], [.a], []⟩, ⟨.normal, [], [], [1, 3]⟩], P125_19004⟩
def D125_20102 : PcD := ⟨[1, 3], [.p, .i .i64], [⟨.ret, [2], [.a], []⟩], P125_20102⟩
def Lam125 : LEnv := lamOf [] [15, 17, 18, 19, 20] [3004, 19004, 20102] [(3004, pcK D125_3004), (19004, pcK D125_19004), (20102, pcK D125_20102)]
theorem pok125_20102 : PieceOK Tryz.prog E125 Lam125 (nthP Lam125 (bodyOf Tryz.f125) 0) := pc_ok D125_20102 (fun _ _ _ => by kernel_rfl) (by kernel_rfl) (fun _ _ _ _ _ => by kernel_rfl)
theorem pok125_19004 : PieceOK Tryz.prog E125 Lam125 (nthP Lam125 (bodyOf Tryz.f125) 2) := pc_ok D125_19004 (fun _ _ _ => by kernel_rfl) (by kernel_rfl) (fun _ _ _ _ _ _ => by kernel_rfl)
theorem pok125_3004 : PieceOK Tryz.prog E125 Lam125 (nthP Lam125 (bodyOf Tryz.f125) 1) := pc_ok D125_3004 (fun _ _ _ => by kernel_rfl) (by kernel_rfl) (fun _ _ _ _ _ _ => by kernel_rfl)
def E95 : Env := ext E125 125 G125
theorem S95 (w0 : World) : SP w0 E95 := sg (S125 w0) Tryz.func125 Tryz.call125 (Λ := Lam125) 0 trivial 3 ⟨pok125_20102, pok125_3004, pok125_19004, trivial⟩ (by kernel_rfl) false (fun _ _ _ => by kernel_rfl)
def F95 (b_0 o_0 : Nat) (x_1 : Int) (c_2 : Nat → AV) (m : Mem) (k : Mem → Prop) : Prop :=
 newK m ⟨6, c_2, 32, false⟩ fun b2 m1 => ∃ Fr3 : Nat → Prop, Fr3 b_0 ∧ (ldA m1 b_0 (o_0 + 1) fun v4 => newK m1 ⟨1, upd (lget [(.flat (.int .u32 0))]) 0 (.flat (.int .u32 x_1)), 22, false⟩ fun b6 m5 => appS 1 4 22 v4 (.sl b6 0 1 (.ex 1)) m5 fun v7 m8 => KeepsIn Fr3 m5 m8 ∧ (Fr3 b_0 ∧ (ldA m8 b_0 (o_0 + 2) fun v9 => Fr3 b2 ∧ (ldG 6 m8 b2 0 fun c10 => newK m8 ⟨6, splice (Z6) 0 6 c10, 32, false⟩ fun b12 m11 => appS 6 48 32 v9 (.sl b12 0 1 (.ex 1)) m11 fun v13 m14 => KeepsIn Fr3 m11 m14 ∧ (stV m14 b_0 (o_0 + 1) v7 fun m15 => stV m15 b_0 (o_0 + 2) v13 fun m16 => ∃ Fr17 : Nat → Prop, Fr17 b_0 ∧ (ldA m16 b_0 (o_0 + 3) fun v18 => Fr17 b2 ∧ (ldG 6 m16 b2 0 fun c19 => F125 c19 m16 fun v20 m21 => KeepsIn Fr17 m16 m21 ∧ (F124 v20 m21 fun v22 m23 => KeepsIn Fr17 m21 m23 ∧ (kif (AV.one v22) (newK m23 ⟨1, upd (lget [(.flat (.slice none 0 0))]) 0 v22, 132, false⟩ fun b25 m24 => appS 1 24 132 v18 (.sl b25 0 1 (.ex 1)) m24 fun v26 m27 => KeepsIn Fr17 m24 m27 ∧ (stV m27 b_0 (o_0 + 3) v26 fun m28 => k  m28)) False)))))))))
def G95 := Gs [.p, .i .u32, .g 6] [] F95
def Lam95 : LEnv := lamOf [] [1, 2] [] []
def E68 : Env := ext E95 95 G95
theorem S68 (w0 : World) : SP w0 E68 := sg (S95 w0) Tryz.func95 Tryz.call95 (Λ := Lam95) 0 trivial 0 trivial (by kernel_rfl) false (fun _ _ _ _ _ _ => by kernel_rfl)
def P68_15102 (b_0 o_0 : Nat) (x_1 : Int) (b_6 o_6 : Nat) (b_8 o_8 : Nat) (x_9 : Bool) (x_12 : Int) (b_14 o_14 : Nat) (x_15 : Int) (x_35 : Int) (x_36 : Int) (m : Mem) (k0 : Mem → Prop) (kn : Bool → Mem → Prop) : Prop :=
 ldG 6 m b_14 o_14 fun c21 => F95 b_8 o_8 x_12 c21 m fun m22 => kif x_9 (k0  m22) (kif (x_15 == 6) (k0  m22) (kn (x_15 == 3) m22))
def P68_11102 (b_0 o_0 : Nat) (x_1 : Int) (b_6 o_6 : Nat) (b_8 o_8 : Nat) (x_9 : Bool) (x_11 : Int) (x_35 : Int) (x_36 : Int) (m : Mem) (k0 : Mem → Prop) (kn : Bool → Mem → Prop) : Prop :=
 F32 b_0 o_0 x_11 4 m fun x10 x11 m12 => F93 x10 m12 fun c13 m14 => newK m14 ⟨6, Z6, 32, false⟩ fun b16 m15 => stG 6 m15 b16 0 c13 fun m17 => ldG 6 m17 b16 0 fun c18 => F94 c18 m17 fun x19 m20 => kif x_9 (kif (x19 == 3) (k0  m20) (kif (x19 == 6) (k0  m20) (P68_15102 b_0 o_0 x_1 b_6 o_6 b_8 o_8 x_9 x10 b16 0 x19 x_35 x_36 m20 (fun m23 => k0  m23) (fun x24 m25 => kn x24 m25)))) (P68_15102 b_0 o_0 x_1 b_6 o_6 b_8 o_8 x_9 x10 b16 0 x19 x_35 x_36 m20 (fun m26 => k0  m26) (fun x27 m28 => kn x27 m28))
def R68_7 (b_0 o_0 : Nat) (x_1 : Int) (b_6 o_6 : Nat) (b_8 o_8 : Nat) (x_35 : Int) (x_9 : Bool) (x_36 : Int) (m : Mem) (kn : Bool → Int → Mem → Prop) (k0 : Mem → Prop) : Prop :=
 kif (decide (x_36 < x_35)) (kif (decide (x_36 > 0)) (kif (((IntKind.wrap .u32 (x_1 + (IntKind.wrap .u32 (IntKind.wrap .i64 (4 * x_36))))).tmod 1024) == 0) (k0  m) (P68_11102 b_0 o_0 x_1 b_6 o_6 b_8 o_8 x_9 (IntKind.wrap .u32 (x_1 + (IntKind.wrap .u32 (IntKind.wrap .i64 (4 * x_36))))) x_35 x_36 m (fun m29 => k0  m29) (fun x30 m31 => kn x30 (IntKind.wrap .i64 (x_36 + 1)) m31))) (P68_11102 b_0 o_0 x_1 b_6 o_6 b_8 o_8 x_9 (IntKind.wrap .u32 (x_1 + (IntKind.wrap .u32 (IntKind.wrap .i64 (4 * x_36))))) x_35 x_36 m (fun m32 => k0  m32) (fun x33 m34 => kn x33 (IntKind.wrap .i64 (x_36 + 1)) m34))) (k0  m)
def L68_7 (b_0 o_0 : Nat) (x_1 : Int) (b_6 o_6 : Nat) (b_8 o_8 : Nat) (x_35 : Int) : Nat → Bool → Int → Mem → (Mem → Prop) → Prop
 | 0, _, _,  _, _ => bump False
 | N + 1, x_9, x_36,  m, k0 => R68_7 b_0 o_0 x_1 b_6 o_6 b_8 o_8 x_35 x_9 x_36 m (fun x_9' x_36' m' => L68_7 b_0 o_0 x_1 b_6 o_6 b_8 o_8 x_35 N x_9' x_36' m' k0) k0
def F68 (b_0 o_0 : Nat) (x_1 : Int) (x_2 : Int) (m : Mem) (k : (Nat → AV) → Bool → Mem → Prop) : Prop :=
 newK m ⟨4, lget [(.flat (.int .u32 0)), (.flat (.slice none 0 0)), (.flat (.slice none 0 0)), (.flat (.slice none 0 0))], 85, false⟩ fun b2 m1 => kif ((x_1.tmod 4) != 0) (stG 4 m1 b2 0 (lget [(.flat (.int .u32 0)), (.flat (.slice none 0 0)), (.flat (.slice none 0 0)), (.flat (.slice none 0 0))]) fun m5 => ldG 4 m5 b2 0 fun c39 => k c39 false m5) (F63 b_0 o_0 m1 fun x3 m4 => kif (decide (x_1 ≥ x3)) (stG 4 m4 b2 0 (lget [(.flat (.int .u32 0)), (.flat (.slice none 0 0)), (.flat (.slice none 0 0)), (.flat (.slice none 0 0))]) fun m6 => ldG 4 m6 b2 0 fun c40 => k c40 false m6) (newK m4 ⟨4, lget [(.flat (.int .u32 0)), (.flat (.slice none 0 0)), (.flat (.slice none 0 0)), (.flat (.slice none 0 0))], 85, false⟩ fun b8 m7 => stG 4 m7 b8 0 (upd (lget [(.flat (.int .u32 0)), (.flat (.slice none 0 0)), (.flat (.slice none 0 0)), (.flat (.slice none 0 0))]) 0 (.flat (.int .u32 x_1))) fun m9 => ∃ N36, L68_7 b_0 o_0 x_1 b2 0 b8 0 (if (if 32 < x_2 then 32 else x_2) > 1 then (if 32 < x_2 then 32 else x_2) else 1) N36 false 0 m9 (fun m35 => ldG 4 m35 b8 0 fun c37 => stG 4 m35 b2 0 c37 fun m38 => ldG 4 m38 b2 0 fun c41 => k c41 true m38)))
def G68 := Gs [.p, .i .u32, .i .i64] [.g 4, .b] F68
def D68_7 : LpD := ⟨[0, 1, 6, 8, 35], [.p, .i .u32, .p, .p, .i .i64], [9, 36], [.b, .i .i64], [⟨.exit 0, [], [], [6, 8]⟩], R68_7, L68_7⟩
def D68_11102 : PcD := ⟨[0, 1, 6, 8, 9, 11, 35, 36], [.p, .i .u32, .p, .p, .b, .i .u32, .i .i64, .i .i64], [⟨.exit 0, [], [], [6, 8]⟩, ⟨.normal, [9], [.b], [0, 1, 6, 8, 35, 36]⟩], P68_11102⟩
def D68_15102 : PcD := ⟨[0, 1, 6, 8, 9, 12, 14, 15, 35, 36], [.p, .i .u32, .p, .p, .b, .i .u32, .p, .i .i64, .i .i64, .i .i64], [⟨.exit 0, [], [], [6, 8]⟩, ⟨.normal, [9], [.b], [0, 1, 6, 8, 35, 36]⟩], P68_15102⟩
def Lam68 : LEnv := lamOf [(7, lpK D68_7)] [] [11102, 15102] [(11102, pcK D68_11102), (15102, pcK D68_15102)]
theorem pok68_15102 : PieceOK Tryz.prog E68 Lam68 (nthP Lam68 (bodyOf Tryz.f68) 1) := pc_ok D68_15102 (fun _ _ _ => by kernel_rfl) (by kernel_rfl) (fun _ _ _ _ _ _ _ _ _ _ _ _ _ _ _ _ => by kernel_rfl)
theorem pok68_11102 : PieceOK Tryz.prog E68 Lam68 (nthP Lam68 (bodyOf Tryz.f68) 0) := pc_ok D68_11102 (fun _ _ _ => by kernel_rfl) (by kernel_rfl) (fun _ _ _ _ _ _ _ _ _ _ _ _ _ => by kernel_rfl)
theorem lok68_7 : LoopOK Tryz.prog E68 Lam68 (nthL (bodyOf Tryz.f68) 0) := lp_ok D68_7 (fun _ _ _ => by kernel_rfl) (by kernel_rfl) (fun _ _ _ _ _ _ _ _ _ _ _ _ _ => by kernel_rfl) (fun _ _ _ _ _ _ _ _ _ _ _ _ _ _ => by kernel_rfl) (fun _ _ _ _ _ _ _ _ _ _ _ _ _ => by kernel_rfl)
def E96 : Env := ext E68 68 G68
theorem S96 (w0 : World) : SP w0 E96 := sg (S68 w0) Tryz.func68 Tryz.call68 (Λ := Lam68) 1 ⟨lok68_7, trivial⟩ 2 ⟨pok68_11102, pok68_15102, trivial⟩ (by kernel_rfl) false (fun _ _ _ _ _ _ => by kernel_rfl)
def F96 (b_0 o_0 : Nat) (m : Mem) (k : Bool → Mem → Prop) : Prop :=
 ldA m b_0 (o_0 + 1) fun v1 => klen v1 fun x2 => kif (x2 == 0) (k false m) (ldA m b_0 (o_0 + 2) fun v3 => ldA m b_0 (o_0 + 1) fun v4 => ksl v4 fun b5 o6 l7 p8 => kif (decide (0 ≤ (0 : Int)) && decide ((0 : Int) < l7)) (ldG 3 m b5 (o6 + 0) fun c9 => mdel K125 3 v3 c9 m fun m10 => ldA m10 b_0 (o_0 + 1) fun v11 => F120 v11 0 1 m10 fun v12 m13 => stV m13 b_0 (o_0 + 1) v12 fun m14 => k true m14) False)
def G96 := Gs [.p] [.b] F96
def E69 : Env := ext E96 96 G96
theorem S69 (w0 : World) : SP w0 E69 := sg0 (S96 w0) Tryz.func96 Tryz.call96 (by kernel_rfl) false (fun _ _ _ _ => by kernel_rfl)
def P69_4102 (b_0 o_0 : Nat) (b_4 o_4 : Nat) (b_5 o_5 : Nat) (m : Mem) (kn : Mem → Prop) : Prop :=
 ldG 3 m b_4 o_4 fun c19 => F87 b_0 o_0 c19 m fun m20 => ldA m20 b_0 (o_0 + 1) fun v21 => ldG 3 m20 b_4 o_4 fun c22 => newK m20 ⟨3, splice (lget [(.flat (.int .u32 0)), (.flat (.int .i64 0)), (.flat (.int .i64 0))]) 0 3 c22, 125, false⟩ fun b24 m23 => appS 3 24 125 v21 (.sl b24 0 1 (.ex 1)) m23 fun v25 m26 => stV m26 b_0 (o_0 + 1) v25 fun m27 => ldA m27 b_0 (o_0 + 2) fun v28 => ldG 3 m27 b_4 o_4 fun c29 => ldG 4 m27 b_5 o_5 fun c30 => mput K125 3 v28 c29 4 c30 m27 fun m31 => kn  m31
def P69_3004 (b_0 o_0 : Nat) (b_4 o_4 : Nat) (b_5 o_5 : Nat) (x_30 : Bool) (m : Mem) (kn : Mem → Prop) : Prop :=
 kif x_30 (F96 b_0 o_0 m fun x15 m16 => kn  m16) (kn  m)
def F69 (b_0 o_0 : Nat) (c_1 : Nat → AV) (c_2 : Nat → AV) (m : Mem) (k : Mem → Prop) : Prop :=
 newK m ⟨3, c_1, 125, false⟩ fun b2 m1 => newK m1 ⟨4, c_2, 85, false⟩ fun b4 m3 => ldA m3 b_0 (o_0 + 2) fun v5 => ldG 3 m3 b2 0 fun c6 => mget K125 3 v5 c6 4 (lget [(.flat (.int .u32 0)), (.flat (.slice none 0 0)), (.flat (.slice none 0 0)), (.flat (.slice none 0 0))]) m3 fun c7 x8 => newK m3 ⟨4, lget [(.flat (.int .u32 0)), (.flat (.slice none 0 0)), (.flat (.slice none 0 0)), (.flat (.slice none 0 0))], 85, false⟩ fun b10 m9 => stG 4 m9 b10 0 c7 fun m11 => kif (!x8) (ldA m11 b_0 (o_0 + 1) fun v12 => klen v12 fun x13 => ldI .i64 m11 b_0 (o_0 + 0) fun x14 => P69_3004 b_0 o_0 b2 0 b4 0 (decide (x13 ≥ x14)) m11 (fun m17 => P69_4102 b_0 o_0 b2 0 b4 0 m17 (fun m32 => k  m32))) (P69_3004 b_0 o_0 b2 0 b4 0 false m11 (fun m18 => P69_4102 b_0 o_0 b2 0 b4 0 m18 (fun m33 => k  m33)))
def G69 := Gs [.p, .g 3, .g 4] [] F69
def D69_3004 : PcD := ⟨[0, 4, 5, 30], [.p, .p, .p, .b], [⟨.normal, [], [], [0, 4, 5]⟩], P69_3004⟩
def D69_4102 : PcD := ⟨[0, 4, 5], [.p, .p, .p], [⟨.normal, [], [], []⟩], P69_4102⟩
def Lam69 : LEnv := lamOf [] [] [3004, 4102] [(3004, pcK D69_3004), (4102, pcK D69_4102)]
theorem pok69_4102 : PieceOK Tryz.prog E69 Lam69 (nthP Lam69 (bodyOf Tryz.f69) 0) := pc_ok D69_4102 (fun _ _ _ => by kernel_rfl) (by kernel_rfl) (fun _ _ _ _ _ _ _ _ => by kernel_rfl)
theorem pok69_3004 : PieceOK Tryz.prog E69 Lam69 (nthP Lam69 (bodyOf Tryz.f69) 1) := pc_ok D69_3004 (fun _ _ _ => by kernel_rfl) (by kernel_rfl) (fun _ _ _ _ _ _ _ _ _ => by kernel_rfl)
def E88 : Env := ext E69 69 G69
theorem S88 (w0 : World) : SP w0 E88 := sg (S69 w0) Tryz.func69 Tryz.call69 (Λ := Lam69) 0 trivial 2 ⟨pok69_4102, pok69_3004, trivial⟩ (by kernel_rfl) false (fun _ _ _ _ _ _ => by kernel_rfl)
def F88 (b_0 o_0 : Nat) (x_1 : Int) (m : Mem) (k : Bool → Mem → Prop) : Prop :=
 kif (decide (x_1 ≥ 0)) (ldA m b_0 (o_0 + 1) fun v1 => klen v1 fun x2 => (Keeps m m ∧ k (decide (x_1 < x2)) m)) ((Keeps m m ∧ k false m))
def G88 := Gs [.p, .i .i64] [.b] F88
def E70 : Env := ext E88 88 G88
theorem S70 (w0 : World) : SP w0 E70 := sg0 (S88 w0) Tryz.func88 Tryz.call88 (by kernel_rfl) true (fun _ _ _ _ _ => by kernel_rfl)
def F70 (b_0 o_0 : Nat) (x_1 : Int) (m : Mem) (k : Mem → Prop) : Prop :=
 F88 b_0 o_0 x_1 m fun x1 m2 => kif x1 (ldA m2 b_0 (o_0 + 1) fun v3 => ksl v3 fun b4 o5 l6 p7 => kif (decide (0 ≤ x_1) && decide (x_1 < l6)) (stC m2 b4 (o5 + (x_1).toNat * 1) (.flat (.bool true)) fun m8 => k  m8) False) (k  m2)
def G70 := Gs [.p, .i .i64] [] F70
def E41 : Env := ext E70 70 G70
theorem S41 (w0 : World) : SP w0 E41 := sg0 (S70 w0) Tryz.func70 Tryz.call70 (by kernel_rfl) false (fun _ _ _ _ _ => by kernel_rfl)
def P41_13102 (b_0 o_0 : Nat) (b_2 o_2 : Nat) (b_8 o_8 : Nat) (m : Mem) (kr : Bool → Mem → Prop) : Prop :=
 ∃ Fr78 : Nat → Prop, Fr78 b_0 ∧ (ldA m b_0 (o_0 + 73) fun v79 => kptr v79 fun b80 o81 => F30 b80 o81 m fun v82 m83 => KeepsIn Fr78 m m83 ∧ (Fr78 b_8 ∧ (ldG 4 m83 b_8 o_8 fun c84 => F67 c84 m83 fun x85 m86 => KeepsIn Fr78 m83 m86 ∧ (kptr v82 fun b87 o88 => F70 b87 o88 x85 m86 fun m89 => KeepsIn Fr78 m86 m89 ∧ (ldI .i64 m89 b_0 (o_0 + 77) fun x90 => stC m89 b_0 (o_0 + 77) (.flat (.int .i64 (IntKind.wrap .i64 (x90 + 1)))) fun m91 => ldG 4 m91 b_8 o_8 fun c92 => stG 4 m91 b_2 o_2 c92 fun m93 => kr true m93)))))
def P41_9103 (b_0 o_0 : Nat) (b_2 o_2 : Nat) (x_4 : Int) (b_7 o_7 : Nat) (b_8 o_8 : Nat) (x_9 : Bool) (m : Mem) (kr : Bool → Mem → Prop) : Prop :=
 kif (!x_9) (∃ Fr57 : Nat → Prop, Fr57 b_0 ∧ (ldA m b_0 (o_0 + 73) fun v58 => kptr v58 fun b59 o60 => F30 b59 o60 m fun v61 m62 => KeepsIn Fr57 m m62 ∧ (Fr57 b_0 ∧ (ldI .i64 m62 b_0 (o_0 + 75) fun x63 => kptr v61 fun b64 o65 => F68 b64 o65 x_4 x63 m62 fun c66 x67 m68 => KeepsIn Fr57 m62 m68 ∧ (stG 4 m68 b_8 o_8 c66 fun m69 => ldA m69 b_0 (o_0 + 74) fun v70 => ldG 3 m69 b_7 o_7 fun c71 => ldG 4 m69 b_8 o_8 fun c72 => kptr v70 fun b73 o74 => F69 b73 o74 c71 c72 m69 fun m75 => ldI .i64 m75 b_0 (o_0 + 76) fun x76 => stC m75 b_0 (o_0 + 76) (.flat (.int .i64 (IntKind.wrap .i64 (x76 + 1)))) fun m77 => P41_13102 b_0 o_0 b_2 o_2 b_8 o_8 m77 (fun x94 m95 => kr x94 m95)))))) (P41_13102 b_0 o_0 b_2 o_2 b_8 o_8 m (fun x96 m97 => kr x96 m97))
def P41_7004 (b_0 o_0 : Nat) (b_2 o_2 : Nat) (x_4 : Int) (b_7 o_7 : Nat) (b_8 o_8 : Nat) (x_9 : Bool) (x_65 : Bool) (m : Mem) (kn : Bool → Mem → Prop) : Prop :=
 kif x_65 (∃ Fr48 : Nat → Prop, Fr48 b_0 ∧ (ldA m b_0 (o_0 + 74) fun v49 => Fr48 b_8 ∧ (ldG 4 m b_8 o_8 fun c50 => F67 c50 m fun x51 m52 => KeepsIn Fr48 m m52 ∧ (bump False)))) (kn x_9 m)
def F41 (b_0 o_0 : Nat) (m : Mem) (k : (Nat → AV) → Bool → Mem → Prop) : Prop :=
 newK m ⟨4, lget [(.flat (.int .u32 0)), (.flat (.slice none 0 0)), (.flat (.slice none 0 0)), (.flat (.slice none 0 0))], 85, false⟩ fun b2 m1 => ldI .u32 m1 b_0 (o_0 + 0 + 34) fun x3 => F62 b_0 (o_0 + 0) x3 4 false m1 fun x4 x5 x6 m7 => kif (x5 != (-1)) (stG 4 m7 b2 0 (lget [(.flat (.int .u32 0)), (.flat (.slice none 0 0)), (.flat (.slice none 0 0)), (.flat (.slice none 0 0))]) fun m17 => ldG 4 m17 b2 0 fun c102 => k c102 false m17) (ldA m7 b_0 (o_0 + 73) fun v8 => kptr v8 fun b9 o10 => F30 b9 o10 m7 fun v11 m12 => kptr v11 fun b13 o14 => F63 b13 o14 m12 fun x15 m16 => kif (decide (x4 ≥ x15)) (stG 4 m16 b2 0 (lget [(.flat (.int .u32 0)), (.flat (.slice none 0 0)), (.flat (.slice none 0 0)), (.flat (.slice none 0 0))]) fun m18 => ldG 4 m18 b2 0 fun c103 => k c103 false m18) (∃ Fr19 : Nat → Prop, F64 b_0 (o_0 + 0) m16 fun x20 m21 => KeepsIn Fr19 m16 m21 ∧ (Fr19 b_0 ∧ (ldI .i64 m21 b_0 (o_0 + 75) fun x22 => newK m21 ⟨3, lget [(.flat (.int .u32 0)), (.flat (.int .i64 0)), (.flat (.int .i64 0))], 125, false⟩ fun b24 m23 => stG 3 m23 b24 0 (upd (upd (upd (lget [(.flat (.int .u32 0)), (.flat (.int .i64 0)), (.flat (.int .i64 0))]) 0 (.flat (.int .u32 x4))) 1 (.flat (.int .i64 x20))) 2 (.flat (.int .i64 x22))) fun m25 => ∃ Fr26 : Nat → Prop, Fr26 b_0 ∧ (ldA m25 b_0 (o_0 + 74) fun v27 => Fr26 b24 ∧ (ldG 3 m25 b24 0 fun c28 => kptr v27 fun b29 o30 => F65 b29 o30 c28 m25 fun c31 x32 m33 => KeepsIn Fr26 m25 m33 ∧ (newK m33 ⟨4, lget [(.flat (.int .u32 0)), (.flat (.slice none 0 0)), (.flat (.slice none 0 0)), (.flat (.slice none 0 0))], 85, false⟩ fun b35 m34 => stG 4 m34 b35 0 c31 fun m36 => ∃ Fr37 : Nat → Prop, kif x32 (Fr37 b35 ∧ (ldG 4 m36 b35 0 fun c38 => Fr37 b_0 ∧ (ldA m36 b_0 (o_0 + 73) fun v39 => kptr v39 fun b40 o41 => F30 b40 o41 m36 fun v42 m43 => KeepsIn Fr37 m36 m43 ∧ (kptr v42 fun b44 o45 => F66 c38 b44 o45 m43 fun x46 m47 => KeepsIn Fr37 m43 m47 ∧ (P41_7004 b_0 o_0 b2 0 x4 b24 0 b35 0 x32 (!x46) m47 (fun x53 m54 => P41_9103 b_0 o_0 b2 0 x4 b24 0 b35 0 x53 m54 (fun x98 m99 => ldG 4 m99 b2 0 fun c104 => k c104 x98 m99))))))) (P41_7004 b_0 o_0 b2 0 x4 b24 0 b35 0 x32 false m36 (fun x55 m56 => P41_9103 b_0 o_0 b2 0 x4 b24 0 b35 0 x55 m56 (fun x100 m101 => ldG 4 m101 b2 0 fun c105 => k c105 x100 m101))))))))))
def G41 := Gs [.p] [.g 4, .b] F41
def D41_7004 : PcD := ⟨[0, 2, 4, 7, 8, 9, 65], [.p, .p, .i .u32, .p, .p, .b, .b], [⟨.normal, [9], [.b], [0, 2, 4, 7, 8]⟩], P41_7004⟩
def D41_9103 : PcD := ⟨[0, 2, 4, 7, 8, 9], [.p, .p, .i .u32, .p, .p, .b], [⟨.ret, [3], [.b], [2]⟩], P41_9103⟩
def D41_13102 : PcD := ⟨[0, 2, 8], [.p, .p, .p], [⟨.ret, [3], [.b], [2]⟩], P41_13102⟩
def Lam41 : LEnv := lamOf [] [4, 5, 6, 7, 10, 13] [7004, 9103, 13102] [(7004, pcK D41_7004), (9103, pcK D41_9103), (13102, pcK D41_13102)]
theorem pok41_13102 : PieceOK Tryz.prog E41 Lam41 (nthP Lam41 (bodyOf Tryz.f41) 2) := pc_ok D41_13102 (fun _ _ _ => by kernel_rfl) (by kernel_rfl) (fun _ _ _ _ _ _ _ _ => by kernel_rfl)
theorem pok41_9103 : PieceOK Tryz.prog E41 Lam41 (nthP Lam41 (bodyOf Tryz.f41) 0) := pc_ok D41_9103 (fun _ _ _ => by kernel_rfl) (by kernel_rfl) (fun _ _ _ _ _ _ _ _ _ _ _ _ => by kernel_rfl)
theorem pok41_7004 : PieceOK Tryz.prog E41 Lam41 (nthP Lam41 (bodyOf Tryz.f41) 1) := pc_ok D41_7004 (fun _ _ _ => by kernel_rfl) (by kernel_rfl) (fun _ _ _ _ _ _ _ _ _ _ _ _ _ => by kernel_rfl)
def E77 : Env := ext E41 41 G41
theorem S77 (w0 : World) : SP w0 E77 := sg (S41 w0) Tryz.func41 Tryz.call41 (Λ := Lam41) 0 trivial 3 ⟨pok41_9103, pok41_7004, pok41_13102, trivial⟩ (by kernel_rfl) false (fun _ _ _ _ => by kernel_rfl)
def P77_6102 (b_0 o_0 : Nat) (x_1 : Int) (x_5 : Int) (m : Mem) (kr : Bool → Mem → Prop) : Prop :=
 ldI .i64 m b_0 (o_0 + 72) fun x3 => stC m b_0 (o_0 + 72) (.flat (.int .i64 (IntKind.wrap .i64 (x3 + x_1)))) fun m4 => ldI .u32 m4 b_0 (o_0 + 39 + 9) fun x5 => stC m4 b_0 (o_0 + 39 + 9) (.flat (.int .u32 (IntKind.wrap .u32 (x5 + (IntKind.wrap .u32 x_1))))) fun m6 => kif (decide (x_1 < x_5)) (kr false m6) (ldI .u32 m6 b_0 (o_0 + 39 + 13) fun x7 => stC m6 b_0 (o_0 + 39 + 13) (.flat (.int .u32 (bits .or .u32 x7 32768))) fun m8 => kr true m8)
def F77 (b_0 o_0 : Nat) (x_1 : Int) (m : Mem) (k : Bool → Mem → Prop) : Prop :=
 kif (decide (x_1 < 1)) (k false m) (ldI .u32 m b_0 (o_0 + 39 + 11) fun x1 => ldI .u32 m b_0 (o_0 + 39 + 9) fun x2 => kif ((IntKind.wrap .i64 (IntKind.wrap .u32 (x1 - x2))) == 0) (P77_6102 b_0 o_0 x_1 4294967296 m (fun x9 m10 => k x9 m10)) (P77_6102 b_0 o_0 x_1 (IntKind.wrap .i64 (IntKind.wrap .u32 (x1 - x2))) m (fun x11 m12 => k x11 m12)))
def G77 := Gs [.p, .i .i64] [.b] F77
def D77_6102 : PcD := ⟨[0, 1, 5], [.p, .i .i64, .i .i64], [⟨.ret, [4], [.b], []⟩], P77_6102⟩
def Lam77 : LEnv := lamOf [] [] [6102] [(6102, pcK D77_6102)]
theorem pok77_6102 : PieceOK Tryz.prog E77 Lam77 (nthP Lam77 (bodyOf Tryz.f77) 0) := pc_ok D77_6102 (fun _ _ _ => by kernel_rfl) (by kernel_rfl) (fun _ _ _ _ _ _ => by kernel_rfl)
def E135 : Env := ext E77 77 G77
theorem S135 (w0 : World) : SP w0 E135 := sg (S77 w0) Tryz.func77 Tryz.call77 (Λ := Lam77) 0 trivial 1 ⟨pok77_6102, trivial⟩ (by kernel_rfl) false (fun _ _ _ _ _ => by kernel_rfl)
def F135 (b_0 o_0 : Nat) (x_1 : Int) (m : Mem) (k : Mem → Prop) : Prop :=
 stC m b_0 (o_0 + 34) (.flat (.int .u32 x_1)) fun m1 => stC m1 b_0 (o_0 + 35) (.flat (.int .u32 (IntKind.wrap .u32 (x_1 + 4)))) fun m2 => stC m2 b_0 (o_0 + 36) (.flat (.bool false)) fun m3 => k  m3
def G135 := Gs [.p, .i .u32] [] F135
def E102 : Env := ext E135 135 G135
theorem S102 (w0 : World) : SP w0 E102 := sg0 (S135 w0) Tryz.func135 Tryz.call135 (by kernel_rfl) false (fun _ _ _ _ _ => by kernel_rfl)
def P102_10102 (b_0 o_0 : Nat) (x_1 : Int) (x_6 : Int) (m : Mem) (kn : Mem → Prop) : Prop :=
 ldI .u32 m b_0 (o_0 + 39 + 13) fun x15 => stC m b_0 (o_0 + 39 + 13) (.flat (.int .u32 (bits .or .u32 (bits .andNot .u32 x15 124) (IntKind.wrap .u32 ((IntKind.wrap .u32 (bits .and .i64 x_1 31)) * 4))))) fun m16 => F135 b_0 o_0 x_6 m16 fun m17 => ldI .u32 m17 b_0 (o_0 + 39 + 12) fun x18 => stC m17 b_0 (o_0 + 39 + 12) (.flat (.int .u32 (bits .or .u32 x18 2))) fun m19 => kn  m19
def P102_8102 (b_0 o_0 : Nat) (x_1 : Int) (x_2 : Bool) (x_6 : Int) (m : Mem) (kn : Int → Mem → Prop) : Prop :=
 kif x_2 (kn 2147483648 m) (kn x_6 m)
def F102 (b_0 o_0 : Nat) (x_1 : Int) (x_2 : Bool) (m : Mem) (k : Mem → Prop) : Prop :=
 ldI .u32 m b_0 (o_0 + 39 + 12) fun x1 => kif ((bits .and .u32 x1 2) == 0) (ldI .u32 m b_0 (o_0 + 34) fun x2 => stC m b_0 (o_0 + 39 + 14) (.flat (.int .u32 x2)) fun m3 => ldI .u32 m3 b_0 (o_0 + 39 + 13) fun x4 => stC m3 b_0 (o_0 + 39 + 13) (.flat (.int .u32 (bits .andNot .u32 x4 2147483648))) fun m5 => ldB m5 b_0 (o_0 + 36) fun x6 => kif x6 (ldI .u32 m5 b_0 (o_0 + 34) fun x7 => stC m5 b_0 (o_0 + 39 + 14) (.flat (.int .u32 (IntKind.wrap .u32 (x7 - 4)))) fun m8 => ldI .u32 m8 b_0 (o_0 + 39 + 13) fun x9 => stC m8 b_0 (o_0 + 39 + 13) (.flat (.int .u32 (bits .or .u32 x9 2147483648))) fun m10 => P102_8102 b_0 o_0 x_1 x_2 2147484032 m10 (fun x11 m12 => P102_10102 b_0 o_0 x_1 x11 m12 (fun m20 => k  m20))) (P102_8102 b_0 o_0 x_1 x_2 2147484032 m5 (fun x13 m14 => P102_10102 b_0 o_0 x_1 x13 m14 (fun m21 => k  m21)))) (P102_10102 b_0 o_0 x_1 2147484032 m (fun m22 => k  m22))
def G102 := Gs [.p, .i .i64, .b] [] F102
def D102_8102 : PcD := ⟨[0, 1, 2, 6], [.p, .i .i64, .b, .i .u32], [⟨.normal, [6], [.i .u32], [0, 1]⟩], P102_8102⟩
def D102_10102 : PcD := ⟨[0, 1, 6], [.p, .i .i64, .i .u32], [⟨.normal, [], [], []⟩], P102_10102⟩
def Lam102 : LEnv := lamOf [] [] [8102, 10102] [(8102, pcK D102_8102), (10102, pcK D102_10102)]
theorem pok102_10102 : PieceOK Tryz.prog E102 Lam102 (nthP Lam102 (bodyOf Tryz.f102) 0) := pc_ok D102_10102 (fun _ _ _ => by kernel_rfl) (by kernel_rfl) (fun _ _ _ _ _ _ => by kernel_rfl)
theorem pok102_8102 : PieceOK Tryz.prog E102 Lam102 (nthP Lam102 (bodyOf Tryz.f102) 1) := pc_ok D102_8102 (fun _ _ _ => by kernel_rfl) (by kernel_rfl) (fun _ _ _ _ _ _ _ => by kernel_rfl)
def E74 : Env := ext E102 102 G102
theorem S74 (w0 : World) : SP w0 E74 := sg (S102 w0) Tryz.func102 Tryz.call102 (Λ := Lam102) 0 trivial 2 ⟨pok102_10102, pok102_8102, trivial⟩ (by kernel_rfl) false (fun _ _ _ _ _ _ => by kernel_rfl)
def F74 (b_0 o_0 : Nat) (b_1 o_1 : Nat) (x_2 : Int) (x_3 : Bool) (m : Mem) (k : Int → Mem → Prop) : Prop :=
 F102 b_0 o_0 x_2 x_3 m fun m1 => F77 b_0 o_0 1 m1 fun x2 m3 => F60 b_1 o_1 m3 fun x4 m5 => F59 b_0 o_0 x4 m5 fun m6 => k x_2 m6
def G74 := Gs [.p, .p, .i .i64, .b] [.i .i64] F74
def E185 : Env := ext E74 74 G74
theorem S185 (w0 : World) : SP w0 E185 := sg0 (S74 w0) Tryz.func74 Tryz.call74 (by kernel_rfl) false (fun _ _ _ _ _ _ _ _ => by kernel_rfl)
def P185_4102 (x_7 : Int) (m : Mem) (kr : Bool → Mem → Prop) : Prop :=
 kr (x_7 != (IntKind.wrap .i64 (IntKind.wrap .i32 x_7))) m
def F185 (x_0 : Int) (x_1 : Int) (x_2 : Bool) (m : Mem) (k : Bool → Mem → Prop) : Prop :=
 kif x_2 (P185_4102 (IntKind.wrap .i64 ((IntKind.wrap .i64 (IntKind.wrap .i32 x_0)) - (IntKind.wrap .i64 (IntKind.wrap .i32 x_1)))) m (fun x1 m2 => (Keeps m m2 ∧ k x1 m))) (P185_4102 (IntKind.wrap .i64 ((IntKind.wrap .i64 (IntKind.wrap .i32 x_0)) + (IntKind.wrap .i64 (IntKind.wrap .i32 x_1)))) m (fun x3 m4 => (Keeps m m4 ∧ k x3 m)))
def G185 := Gs [.i .u32, .i .u32, .b] [.b] F185
def D185_4102 : PcD := ⟨[7], [.i .i64], [⟨.ret, [6], [.b], []⟩], P185_4102⟩
def Lam185 : LEnv := lamOf [] [] [4102] [(4102, pcK D185_4102)]
theorem pok185_4102 : PieceOK Tryz.prog E185 Lam185 (nthP Lam185 (bodyOf Tryz.f185) 0) := pc_ok D185_4102 (fun _ _ _ => by kernel_rfl) (by kernel_rfl) (fun _ _ _ => by kernel_rfl)
def E139 : Env := ext E185 185 G185
theorem S139 (w0 : World) : SP w0 E139 := sg (S185 w0) Tryz.func185 Tryz.call185 (Λ := Lam185) 0 trivial 1 ⟨pok185_4102, trivial⟩ (by kernel_rfl) true (fun _ _ _ _ _ => by kernel_rfl)
def P139_4004 (x_1 : Int) (x_2 : Int) (b_3 o_3 : Nat) (x_8 : Int) (x_9 : Bool) (m : Mem) (kr : Bool → Mem → Prop) (kn : Mem → Prop) : Prop :=
 kif x_9 (ldI .i64 m b_3 (o_3 + 0) fun x4 => F185 x_1 x_2 (x4 == 24) m fun x5 m6 => kr x5 m6) (kif (x_8 == 46) (ldI .u32 m b_3 (o_3 + 5) fun x7 => F140 x7 16 m fun x8 m9 => F185 x_1 x8 false m9 fun x10 m11 => kr x10 m11) (kif (x_8 == 32) (F186 x_1 x_2 true m fun x12 m13 => kr (!x12) m13) (kif (x_8 == 33) (F186 x_1 x_2 true m fun x14 m15 => kr x14 m15) (kif (x_8 == 34) (kr (x_1 == x_2) m) (kif (x_8 == 35) (kr (x_1 != x_2) m) (kn  m))))))
def F139 (c_0 : Nat → AV) (x_1 : Int) (x_2 : Int) (m : Mem) (k : Bool → Mem → Prop) : Prop :=
 newK m ⟨6, c_0, 32, false⟩ fun b2 m1 => ldI .i64 m1 b2 0 fun x3 => kif (x3 == 22) (P139_4004 x_1 x_2 b2 0 x3 (x3 == 22) m1 (fun x16 m17 => (Keeps m m17 ∧ k x16 m)) (fun m18 => (Keeps m m18 ∧ k false m))) (P139_4004 x_1 x_2 b2 0 x3 (x3 == 24) m1 (fun x19 m20 => (Keeps m m20 ∧ k x19 m)) (fun m21 => (Keeps m m21 ∧ k false m)))
def G139 := Gs [.g 6, .i .u32, .i .u32] [.b] F139
def D139_4004 : PcD := ⟨[1, 2, 3, 8, 9], [.i .u32, .i .u32, .p, .i .i64, .b], [⟨.ret, [6], [.b], []⟩, ⟨.normal, [], [], []⟩], P139_4004⟩
def Lam139 : LEnv := lamOf [] [] [4004] [(4004, pcK D139_4004)]
theorem pok139_4004 : PieceOK Tryz.prog E139 Lam139 (nthP Lam139 (bodyOf Tryz.f139) 0) := pc_ok D139_4004 (fun _ _ _ => by kernel_rfl) (by kernel_rfl) (fun _ _ _ _ _ _ _ _ => by kernel_rfl)
def E105 : Env := ext E139 139 G139
theorem S105 (w0 : World) : SP w0 E105 := sg (S139 w0) Tryz.func139 Tryz.call139 (Λ := Lam139) 0 trivial 1 ⟨pok139_4004, trivial⟩ (by kernel_rfl) true (fun _ _ _ _ _ => by kernel_rfl)
def P105_6004 (b_0 o_0 : Nat) (b_3 o_3 : Nat) (x_6 : Int) (x_28 : Bool) (m : Mem) (kr : Int → Mem → Prop) (kn : Mem → Prop) : Prop :=
 kif x_28 (kr 11 m) (kif (x_6 == 62) (kr 11 m) (ldG 6 m b_3 o_3 fun c10 => F126 c10 m fun x11 m12 => kif (!x11) (kr 10 m12) (kif (x_6 == 11) (kr 8 m12) (kif (x_6 == 12) (kr 9 m12) (ldG 6 m12 b_3 o_3 fun c13 => ldI .i64 m12 b_3 (o_3 + 1) fun x14 => kif (decide (0 ≤ x14) && decide (x14 < 32)) (ldI .u32 m12 b_0 (o_0 + 0 + (x14).toNat * 1) fun x15 => ldI .i64 m12 b_3 (o_3 + 2) fun x16 => kif (decide (0 ≤ x16) && decide (x16 < 32)) (ldI .u32 m12 b_0 (o_0 + 0 + (x16).toNat * 1) fun x17 => F139 c13 x15 x17 m12 fun x18 m19 => kif (!x18) (kr (-1) m19) (kif (decide (x_6 ≥ 32)) (kif (decide (x_6 ≤ 35)) (kr 13 m19) (kn  m19)) (kn  m19))) False) False)))))
def P105_4004 (b_0 o_0 : Nat) (b_3 o_3 : Nat) (x_6 : Int) (x_11 : Bool) (m : Mem) (kr : Int → Mem → Prop) (kn : Mem → Prop) : Prop :=
 kif x_11 (kr 10 m) (F91 b_0 o_0 m fun x8 m9 => kif x8 (kif (decide (x_6 ≥ 54)) (P105_6004 b_0 o_0 b_3 o_3 x_6 (decide (x_6 ≤ 61)) m9 (fun x20 m21 => kr x20 m21) (fun m22 => kn  m22)) (P105_6004 b_0 o_0 b_3 o_3 x_6 false m9 (fun x23 m24 => kr x23 m24) (fun m25 => kn  m25))) (P105_6004 b_0 o_0 b_3 o_3 x_6 false m9 (fun x26 m27 => kr x26 m27) (fun m28 => kn  m28)))
def F105 (b_0 o_0 : Nat) (c_1 : Nat → AV) (m : Mem) (k : Int → Mem → Prop) : Prop :=
 newK m ⟨6, c_1, 32, false⟩ fun b2 m1 => ldG 6 m1 b2 0 fun c3 => F94 c3 m1 fun x4 m5 => ldI .i64 m5 b2 0 fun x6 => ldB m5 b_0 (o_0 + 36) fun x7 => kif x7 (kif (x4 == 3) (P105_4004 b_0 o_0 b2 0 x6 true m5 (fun x29 m30 => (Keeps m m30 ∧ k x29 m)) (fun m31 => (Keeps m m31 ∧ k 12 m))) (kif (x6 == 60) (P105_4004 b_0 o_0 b2 0 x6 true m5 (fun x32 m33 => (Keeps m m33 ∧ k x32 m)) (fun m34 => (Keeps m m34 ∧ k 12 m))) (P105_4004 b_0 o_0 b2 0 x6 (x6 == 61) m5 (fun x35 m36 => (Keeps m m36 ∧ k x35 m)) (fun m37 => (Keeps m m37 ∧ k 12 m))))) (P105_4004 b_0 o_0 b2 0 x6 false m5 (fun x38 m39 => (Keeps m m39 ∧ k x38 m)) (fun m40 => (Keeps m m40 ∧ k 12 m)))
def G105 := Gs [.p, .g 6] [.i .i64] F105
def D105_4004 : PcD := ⟨[0, 3, 6, 11], [.p, .p, .i .i64, .b], [⟨.ret, [4], [.i .i64], []⟩, ⟨.normal, [], [], []⟩], P105_4004⟩
def D105_6004 : PcD := ⟨[0, 3, 6, 28], [.p, .p, .i .i64, .b], [⟨.ret, [4], [.i .i64], []⟩, ⟨.normal, [], [], []⟩], P105_6004⟩
def Lam105 : LEnv := lamOf [] [] [4004, 6004] [(4004, pcK D105_4004), (6004, pcK D105_6004)]
theorem pok105_6004 : PieceOK Tryz.prog E105 Lam105 (nthP Lam105 (bodyOf Tryz.f105) 1) := pc_ok D105_6004 (fun _ _ _ => by kernel_rfl) (by kernel_rfl) (fun _ _ _ _ _ _ _ _ => by kernel_rfl)
theorem pok105_4004 : PieceOK Tryz.prog E105 Lam105 (nthP Lam105 (bodyOf Tryz.f105) 0) := pc_ok D105_4004 (fun _ _ _ => by kernel_rfl) (by kernel_rfl) (fun _ _ _ _ _ _ _ _ => by kernel_rfl)
def E136 : Env := ext E105 105 G105
theorem S136 (w0 : World) : SP w0 E136 := sg (S105 w0) Tryz.func105 Tryz.call105 (Λ := Lam105) 0 trivial 2 ⟨pok105_4004, pok105_6004, trivial⟩ (by kernel_rfl) true (fun _ _ _ _ _ => by kernel_rfl)
def F136 (b_0 o_0 : Nat) (x_1 : Int) (x_2 : Bool) (m : Mem) (k : Mem → Prop) : Prop :=
 stC m b_0 (o_0 + 39 + 8) (.flat (.int .u32 x_1)) fun m1 => kif x_2 (ldI .u32 m1 b_0 (o_0 + 39 + 10) fun x2 => stC m1 b_0 (o_0 + 39 + 10) (.flat (.int .u32 (bits .or .u32 (bits .andNot .u32 x2 4294966272) (bits .and .u32 x_1 4294966272)))) fun m3 => k  m3) (k  m1)
def G136 := Gs [.p, .i .u32, .b] [] F136
def E103 : Env := ext E136 136 G136
theorem S103 (w0 : World) : SP w0 E103 := sg0 (S136 w0) Tryz.func136 Tryz.call136 (by kernel_rfl) false (fun _ _ _ _ _ _ => by kernel_rfl)
def F103 (b_0 o_0 : Nat) (x_1 : Int) (x_2 : Int) (m : Mem) (k : Mem → Prop) : Prop :=
 kif (x_2 != 4) (F136 b_0 o_0 x_1 (x_2 != 5) m fun m1 => k  m1) (F136 b_0 o_0 x_1 false m fun m2 => k  m2)
def G103 := Gs [.p, .i .u32, .i .i64] [] F103
def E133 : Env := ext E103 103 G103
theorem S133 (w0 : World) : SP w0 E133 := sg0 (S103 w0) Tryz.func103 Tryz.call103 (by kernel_rfl) false (fun _ _ _ _ _ _ => by kernel_rfl)
def F133 (b_0 o_0 : Nat) (x_1 : Int) (x_2 : Bool) (m : Mem) (k : Mem → Prop) : Prop :=
 kif (decide (x_1 < 1)) (k  m) (kif (decide (x_1 > 5)) (k  m) (ldI .u32 m b_0 (o_0 + 0) fun x1 => kif (decide (x_1 < 0)) False (stC m b_0 (o_0 + 0) (.flat (.int .u32 (bits .andNot .u32 x1 (IntKind.wrap .u32 (1 * 2 ^ min (x_1).toNat 32))))) fun m2 => kif x_2 (ldI .u32 m2 b_0 (o_0 + 0) fun x3 => kif (decide (x_1 < 0)) False (stC m2 b_0 (o_0 + 0) (.flat (.int .u32 (bits .or .u32 x3 (IntKind.wrap .u32 (1 * 2 ^ min (x_1).toNat 32))))) fun m4 => k  m4)) (k  m2))))
def G133 := Gs [.p, .i .i64, .b] [] F133
def E176 : Env := ext E133 133 G133
theorem S176 (w0 : World) : SP w0 E176 := sg0 (S133 w0) Tryz.func133 Tryz.call133 (by kernel_rfl) false (fun _ _ _ _ _ _ => by kernel_rfl)
def F176 (b_0 o_0 : Nat) (m : Mem) (k : Bool → Mem → Prop) : Prop :=
 ldI .u32 m b_0 (o_0 + 4) fun x1 => (Keeps m m ∧ k (x1 != 0) m)
def G176 := Gs [.p] [.b] F176
def E177 : Env := ext E176 176 G176
theorem S177 (w0 : World) : SP w0 E177 := sg0 (S176 w0) Tryz.func176 Tryz.call176 (by kernel_rfl) true (fun _ _ _ _ => by kernel_rfl)
def F177 (b_0 o_0 : Nat) (m : Mem) (k : Bool → Mem → Prop) : Prop :=
 ldI .u32 m b_0 (o_0 + 5) fun x1 => kif ((bits .and .u32 x1 1) != 0) (ldA m b_0 (o_0 + 2) fun v2 => False) (ldI .u32 m b_0 (o_0 + 5) fun x3 => kif ((bits .and .u32 x3 2) != 0) (ldA m b_0 (o_0 + 3) fun v4 => False) ((Keeps m m ∧ k false m)))
def G177 := Gs [.p] [.b] F177
def E178 : Env := ext E177 177 G177
theorem S178 (w0 : World) : SP w0 E178 := sg0 (S177 w0) Tryz.func177 Tryz.call177 (by kernel_rfl) true (fun _ _ _ _ => by kernel_rfl)
def F178 (b_0 o_0 : Nat) (m : Mem) (k : Bool → Mem → Prop) : Prop :=
 ldI .u32 m b_0 (o_0 + 6) fun x1 => (Keeps m m ∧ k ((bits .and .u32 x1 6) != 0) m)
def G178 := Gs [.p] [.b] F178
def E179 : Env := ext E178 178 G178
theorem S179 (w0 : World) : SP w0 E179 := sg0 (S178 w0) Tryz.func178 Tryz.call178 (by kernel_rfl) true (fun _ _ _ _ => by kernel_rfl)
def F179 (b_0 o_0 : Nat) (m : Mem) (k : Bool → Mem → Prop) : Prop :=
 ldI .u32 m b_0 (o_0 + 7) fun x1 => (Keeps m m ∧ k ((bits .and .u32 x1 6) != 0) m)
def G179 := Gs [.p] [.b] F179
def E134 : Env := ext E179 179 G179
theorem S134 (w0 : World) : SP w0 E134 := sg0 (S179 w0) Tryz.func179 Tryz.call179 (by kernel_rfl) true (fun _ _ _ _ => by kernel_rfl)
def F134 (b_0 o_0 : Nat) (x_1 : Int) (m : Mem) (k : Bool → Mem → Prop) : Prop :=
 kif (x_1 == 1) (ldA m b_0 (o_0 + 3) fun v1 => kptr v1 fun b2 o3 => F176 b2 o3 m fun x4 m5 => (Keeps m m5 ∧ k x4 m)) (kif (x_1 == 2) (ldA m b_0 (o_0 + 4) fun v6 => kptr v6 fun b7 o8 => F176 b7 o8 m fun x9 m10 => (Keeps m m10 ∧ k x9 m)) (kif (x_1 == 3) (ldA m b_0 (o_0 + 5) fun v11 => kptr v11 fun b12 o13 => F177 b12 o13 m fun x14 m15 => (Keeps m m15 ∧ k x14 m)) (kif (x_1 == 4) (ldA m b_0 (o_0 + 6) fun v16 => kptr v16 fun b17 o18 => F178 b17 o18 m fun x19 m20 => (Keeps m m20 ∧ k x19 m)) (ldA m b_0 (o_0 + 7) fun v21 => kptr v21 fun b22 o23 => F179 b22 o23 m fun x24 m25 => (Keeps m m25 ∧ k x24 m)))))
def G134 := Gs [.p, .i .i64] [.b] F134
def E101 : Env := ext E134 134 G134
theorem S101 (w0 : World) : SP w0 E101 := sg0 (S134 w0) Tryz.func134 Tryz.call134 (by kernel_rfl) true (fun _ _ _ _ _ => by kernel_rfl)
def R101_1 (b_0 o_0 : Nat) (x_2 : Int) (m : Mem) (kn : Int → Mem → Prop) (k0 : Mem → Prop) : Prop :=
 kif (decide (x_2 ≤ 5)) (∃ Fr1 : Nat → Prop, Fr1 b_0 ∧ (ldA m b_0 (o_0 + 2) fun v2 => F134 b_0 o_0 x_2 m fun x3 m4 => KeepsIn Fr1 m m4 ∧ (kptr v2 fun b5 o6 => F133 b5 o6 x_2 x3 m4 fun m7 => KeepsIn Fr1 m4 m7 ∧ (kn (IntKind.wrap .i64 (x_2 + 1)) m7)))) (k0  m)
def L101_1 (b_0 o_0 : Nat) : Nat → Int → Mem → (Mem → Prop) → Prop
 | 0, _,  _, _ => bump False
 | N + 1, x_2,  m, k0 => R101_1 b_0 o_0 x_2 m (fun x_2' m' => L101_1 b_0 o_0 N x_2' m' k0) k0
def F101 (b_0 o_0 : Nat) (m : Mem) (k : Mem → Prop) : Prop :=
 ∃ N9, L101_1 b_0 o_0 N9 1 m (fun m8 => k  m8)
def G101 := Gs [.p] [] F101
def D101_1 : LpD := ⟨[0], [.p], [2], [.i .i64], [⟨.exit 0, [], [], []⟩], R101_1, L101_1⟩
def Lam101 : LEnv := lamOf [(1, lpK D101_1)] [3] [] []
theorem lok101_1 : LoopOK Tryz.prog E101 Lam101 (nthL (bodyOf Tryz.f101) 0) := lp_ok D101_1 (fun _ _ _ => by kernel_rfl) (by kernel_rfl) (fun _ _ _ _ _ _ => by kernel_rfl) (fun _ _ _ _ _ _ _ => by kernel_rfl) (fun _ _ _ _ _ _ => by kernel_rfl)
def E137 : Env := ext E101 101 G101
theorem S137 (w0 : World) : SP w0 E137 := sg (S101 w0) Tryz.func101 Tryz.call101 (Λ := Lam101) 1 ⟨lok101_1, trivial⟩ 0 trivial (by kernel_rfl) false (fun _ _ _ _ => by kernel_rfl)
def F137 (x_0 : Int) (x_1 : Int) (m : Mem) (k : Int → Int → Bool → Mem → Prop) : Prop :=
 kif (x_1 != 4) ((Keeps m m ∧ k 0 0 false m)) (kif (decide (x_0 < 520093696)) ((Keeps m m ∧ k 0 0 false m)) (kif ((x_0.tmod 4) != 0) ((Keeps m m ∧ k 0 0 false m)) ((Keeps m m ∧ k (IntKind.wrap .i64 (IntKind.wrap .u32 ((IntKind.wrap .u32 (x_0 - 520093696)).tdiv 64))) ((IntKind.wrap .u32 (x_0 - 520093696)).tmod 64) (decide ((IntKind.wrap .u32 ((IntKind.wrap .u32 (x_0 - 520093696)).tdiv 64)) ≤ 5)) m))))
def G137 := Gs [.i .u32, .i .i64] [.i .i64, .i .u32, .b] F137
def E104 : Env := ext E137 137 G137
theorem S104 (w0 : World) : SP w0 E104 := sg0 (S137 w0) Tryz.func137 Tryz.call137 (by kernel_rfl) true (fun _ _ _ _ => by kernel_rfl)
def F104 (b_0 o_0 : Nat) (x_1 : Int) (x_2 : Int) (x_3 : Int) (m : Mem) (k : Int → Bool → Mem → Prop) : Prop :=
 ldA m b_0 (o_0 + 0) fun v1 => kptr v1 fun b2 o3 => F63 b2 o3 m fun x4 m5 => kif (decide (x_1 < x4)) (ldA m5 b_0 (o_0 + 0) fun v6 => kptr v6 fun b7 o8 => F32 b7 o8 x_1 x_2 m5 fun x9 x10 m11 => k x9 x10 m11) (F137 x_1 x_2 m5 fun x12 x13 x14 m15 => kif (!x14) (k 0 false m15) (bump False))
def G104 := Gs [.p, .i .u32, .i .i64, .i .i64] [.i .u32, .b] F104
def E141 : Env := ext E104 104 G104
theorem S141 (w0 : World) : SP w0 E141 := sg0 (S104 w0) Tryz.func104 Tryz.call104 (by kernel_rfl) false (fun _ _ _ _ _ _ _ => by kernel_rfl)
def P141_5004 (x_3 : Int) (x_4 : Bool) (m : Mem) (kr : Int → Mem → Prop) (kn : Mem → Prop) : Prop :=
 kif x_4 (kr 1 m) (kif (x_3 == 67) (kif (x_3 == 67) (kr 2 m) (kn  m)) (kif (x_3 == 70) (kif (x_3 == 70) (kr 2 m) (kn  m)) (kif (x_3 == 72) (kr 2 m) (kn  m))))
def F141 (x_0 : Int) (m : Mem) (k : Int → Mem → Prop) : Prop :=
 kif (x_0 == 66) (P141_5004 x_0 (x_0 == 66) m (fun x1 m2 => (Keeps m m2 ∧ k x1 m)) (fun m3 => (Keeps m m3 ∧ k 4 m))) (kif (x_0 == 69) (P141_5004 x_0 (x_0 == 69) m (fun x4 m5 => (Keeps m m5 ∧ k x4 m)) (fun m6 => (Keeps m m6 ∧ k 4 m))) (P141_5004 x_0 (x_0 == 71) m (fun x7 m8 => (Keeps m m8 ∧ k x7 m)) (fun m9 => (Keeps m m9 ∧ k 4 m))))
def G141 := Gs [.i .i64] [.i .i64] F141
def D141_5004 : PcD := ⟨[3, 4], [.i .i64, .b], [⟨.ret, [2], [.i .i64], []⟩, ⟨.normal, [], [], []⟩], P141_5004⟩
def Lam141 : LEnv := lamOf [] [] [5004] [(5004, pcK D141_5004)]
theorem pok141_5004 : PieceOK Tryz.prog E141 Lam141 (nthP Lam141 (bodyOf Tryz.f141) 0) := pc_ok D141_5004 (fun _ _ _ => by kernel_rfl) (by kernel_rfl) (fun _ _ _ _ => by kernel_rfl)
def E142 : Env := ext E141 141 G141
theorem S142 (w0 : World) : SP w0 E142 := sg (S141 w0) Tryz.func141 Tryz.call141 (Λ := Lam141) 0 trivial 1 ⟨pok141_5004, trivial⟩ (by kernel_rfl) true (fun _ _ _ => by kernel_rfl)
def F142 (b_0 o_0 : Nat) (x_1 : Int) (x_2 : Int) (m : Mem) (k : Mem → Prop) : Prop :=
 kif (x_1 != 0) (kif (decide (0 ≤ x_1) && decide (x_1 < 32)) (stC m b_0 (o_0 + 0 + (x_1).toNat * 1) (.flat (.int .u32 x_2)) fun m1 => k  m1) False) (k  m)
def G142 := Gs [.p, .i .i64, .i .u32] [] F142
def E106 : Env := ext E142 142 G142
theorem S106 (w0 : World) : SP w0 E106 := sg0 (S142 w0) Tryz.func142 Tryz.call142 (by kernel_rfl) false (fun _ _ _ _ _ _ => by kernel_rfl)
def P106_14102 (b_0 o_0 : Nat) (b_5 o_5 : Nat) (x_13 : Int) (m : Mem) (kr : Int → Bool → Mem → Prop) : Prop :=
 ldI .i64 m b_5 (o_5 + 2) fun x32 => F142 b_0 o_0 x32 x_13 m fun m33 => kr (-1) false m33
def P106_12103 (b_0 o_0 : Nat) (b_5 o_5 : Nat) (x_10 : Int) (x_13 : Int) (m : Mem) (kr : Int → Bool → Mem → Prop) : Prop :=
 ldI .i64 m b_5 (o_5 + 0) fun x29 => kif (x29 == 74) (stC m b_0 (o_0 + 37) (.flat (.bool true)) fun m30 => stC m30 b_0 (o_0 + 38) (.flat (.int .u32 x_10)) fun m31 => P106_14102 b_0 o_0 b_5 o_5 x_13 m31 (fun x34 x35 m36 => kr x34 x35 m36)) (P106_14102 b_0 o_0 b_5 o_5 x_13 m (fun x37 x38 m39 => kr x37 x38 m39))
def P106_11004 (b_0 o_0 : Nat) (b_5 o_5 : Nat) (x_9 : Int) (x_10 : Int) (x_13 : Int) (x_65 : Bool) (m : Mem) (kn : Int → Mem → Prop) : Prop :=
 kif x_65 (F140 x_13 (IntKind.wrap .i64 (8 * x_9)) m fun x23 m24 => kn x23 m24) (kn x_13 m)
def F106 (b_0 o_0 : Nat) (b_1 o_1 : Nat) (c_2 : Nat → AV) (m : Mem) (k : Int → Bool → Mem → Prop) : Prop :=
 newK m ⟨6, c_2, 32, false⟩ fun b2 m1 => ∃ Fr3 : Nat → Prop, Fr3 b2 ∧ (ldI .i64 m1 b2 1 fun x4 => kif (decide (0 ≤ x4) && decide (x4 < 32)) (Fr3 b_0 ∧ (ldI .u32 m1 b_0 (o_0 + 0 + (x4).toNat * 1) fun x5 => Fr3 b2 ∧ (ldI .u32 m1 b2 5 fun x6 => F140 x6 16 m1 fun x7 m8 => KeepsIn Fr3 m1 m8 ∧ (ldI .i64 m8 b2 0 fun x9 => F141 x9 m8 fun x10 m11 => F62 b_0 o_0 (IntKind.wrap .u32 (x5 + x7)) x10 false m11 fun x12 x13 x14 m15 => kif (x13 != (-1)) (F103 b_0 o_0 (IntKind.wrap .u32 (x5 + x7)) x13 m15 fun m16 => k x13 x14 m16) (ldI .i64 m15 b_0 (o_0 + 72) fun x17 => F104 b_1 o_1 x12 x10 x17 m15 fun x18 x19 m20 => kif (!x19) (k 7 false m20) (ldI .i64 m20 b2 0 fun x21 => kif (x21 == 66) (P106_11004 b_0 o_0 b2 0 x10 x12 x18 true m20 (fun x25 m26 => P106_12103 b_0 o_0 b2 0 x12 x25 m26 (fun x40 x41 m42 => k x40 x41 m42))) (ldI .i64 m20 b2 0 fun x22 => P106_11004 b_0 o_0 b2 0 x10 x12 x18 (x22 == 67) m20 (fun x27 m28 => P106_12103 b_0 o_0 b2 0 x12 x27 m28 (fun x43 x44 m45 => k x43 x44 m45))))))))) False)
def G106 := Gs [.p, .p, .g 6] [.i .i64, .b] F106
def D106_11004 : PcD := ⟨[0, 5, 9, 10, 13, 65], [.p, .p, .i .i64, .i .u32, .i .u32, .b], [⟨.normal, [13], [.i .u32], [0, 5, 10]⟩], P106_11004⟩
def D106_12103 : PcD := ⟨[0, 5, 10, 13], [.p, .p, .i .u32, .i .u32], [⟨.ret, [6, 7], [.i .i64, .b], []⟩], P106_12103⟩
def D106_14102 : PcD := ⟨[0, 5, 13], [.p, .p, .i .u32], [⟨.ret, [6, 7], [.i .i64, .b], []⟩], P106_14102⟩
def Lam106 : LEnv := lamOf [] [1] [11004, 12103, 14102] [(11004, pcK D106_11004), (12103, pcK D106_12103), (14102, pcK D106_14102)]
theorem pok106_14102 : PieceOK Tryz.prog E106 Lam106 (nthP Lam106 (bodyOf Tryz.f106) 2) := pc_ok D106_14102 (fun _ _ _ => by kernel_rfl) (by kernel_rfl) (fun _ _ _ _ _ _ _ => by kernel_rfl)
theorem pok106_12103 : PieceOK Tryz.prog E106 Lam106 (nthP Lam106 (bodyOf Tryz.f106) 0) := pc_ok D106_12103 (fun _ _ _ => by kernel_rfl) (by kernel_rfl) (fun _ _ _ _ _ _ _ _ => by kernel_rfl)
theorem pok106_11004 : PieceOK Tryz.prog E106 Lam106 (nthP Lam106 (bodyOf Tryz.f106) 1) := pc_ok D106_11004 (fun _ _ _ => by kernel_rfl) (by kernel_rfl) (fun _ _ _ _ _ _ _ _ _ _ => by kernel_rfl)
def E46 : Env := ext E106 106 G106
theorem S46 (w0 : World) : SP w0 E46 := sg (S106 w0) Tryz.func106 Tryz.call106 (Λ := Lam106) 0 trivial 3 ⟨pok106_12103, pok106_11004, pok106_14102, trivial⟩ (by kernel_rfl) false (fun _ _ _ _ _ _ _ => by kernel_rfl)
def R46_2 (b_0 o_0 : Nat) (x_1 : Int) (x_2 : Int) (x_6 : Int) (m : Mem) (kn : Int → Mem → Prop) (k0 : Mem → Prop) : Prop :=
 kif (decide (x_6 ≤ (IntKind.wrap .i64 ((IntKind.wrap .i64 ((IntKind.wrap .i64 ((IntKind.wrap .i64 x_1) + x_2)) - 1)).tdiv 1024)))) (ldA m b_0 (o_0 + 2) fun v1 => ldA m b_0 (o_0 + 2) fun v2 => ksl v2 fun b3 o4 l5 p6 => kif (decide (0 ≤ x_6) && decide (x_6 < l5)) (ldB m b3 (o4 + (x_6).toNat * 1) fun x7 => kif x7 (ksl v1 fun b8 o9 l10 p11 => kif (decide (0 ≤ x_6) && decide (x_6 < l10)) (stC m b8 (o9 + (x_6).toNat * 1) (.flat (.bool true)) fun m12 => kn (IntKind.wrap .i64 (x_6 + 1)) m12) False) (ldA m b_0 (o_0 + 1) fun v13 => ksl v13 fun b14 o15 l16 p17 => kif (decide (0 ≤ x_6) && decide (x_6 < l16)) (ldB m b14 (o15 + (x_6).toNat * 1) fun x18 => ksl v1 fun b19 o20 l21 p22 => kif (decide (0 ≤ x_6) && decide (x_6 < l21)) (stC m b19 (o20 + (x_6).toNat * 1) (.flat (.bool x18)) fun m23 => kn (IntKind.wrap .i64 (x_6 + 1)) m23) False) False)) False) (k0  m)
def L46_2 (b_0 o_0 : Nat) (x_1 : Int) (x_2 : Int) : Nat → Int → Mem → (Mem → Prop) → Prop
 | 0, _,  _, _ => bump False
 | N + 1, x_6,  m, k0 => R46_2 b_0 o_0 x_1 x_2 x_6 m (fun x_6' m' => L46_2 b_0 o_0 x_1 x_2 N x_6' m' k0) k0
def F46 (b_0 o_0 : Nat) (x_1 : Int) (x_2 : Int) (m : Mem) (k : Mem → Prop) : Prop :=
 kif (decide (x_2 < 1)) (k  m) (∃ N25, L46_2 b_0 o_0 x_1 x_2 N25 (IntKind.wrap .i64 ((IntKind.wrap .i64 x_1).tdiv 1024)) m (fun m24 => k  m24))
def G46 := Gs [.p, .i .u32, .i .i64] [] F46
def D46_2 : LpD := ⟨[0, 1, 2], [.p, .i .u32, .i .i64], [6], [.i .i64], [⟨.exit 0, [], [], []⟩], R46_2, L46_2⟩
def Lam46 : LEnv := lamOf [(2, lpK D46_2)] [] [] []
theorem lok46_2 : LoopOK Tryz.prog E46 Lam46 (nthL (bodyOf Tryz.f46) 0) := lp_ok D46_2 (fun _ _ _ => by kernel_rfl) (by kernel_rfl) (fun _ _ _ _ _ _ _ _ => by kernel_rfl) (fun _ _ _ _ _ _ _ _ _ => by kernel_rfl) (fun _ _ _ _ _ _ _ _ => by kernel_rfl)
def E35 : Env := ext E46 46 G46
theorem S35 (w0 : World) : SP w0 E35 := sg (S46 w0) Tryz.func46 Tryz.call46 (Λ := Lam46) 1 ⟨lok46_2, trivial⟩ 0 trivial (by kernel_rfl) false (fun _ _ _ _ _ _ => by kernel_rfl)
def R35_4 (b_0 o_0 : Nat) (x_1 : Int) (x_2 : Int) (x_3 : Int) (x_15 : Int) (x_16 : Int) (m : Mem) (kn : Int → Mem → Prop) (k0 : Mem → Prop) : Prop :=
 kif (decide (x_16 < x_15)) (ldA m b_0 (o_0 + 0) fun v3 => kif (decide (IntKind.wrap .i64 (8 * x_16) < 0)) False (ksl v3 fun b4 o5 l6 p7 => kif (decide (0 ≤ IntKind.wrap .i64 ((IntKind.wrap .i64 ((IntKind.wrap .i64 ((IntKind.wrap .i64 x_1) + x_2)) - 1)) - x_16)) && decide (IntKind.wrap .i64 ((IntKind.wrap .i64 ((IntKind.wrap .i64 ((IntKind.wrap .i64 x_1) + x_2)) - 1)) - x_16) < l6)) (stC m b4 (o5 + (IntKind.wrap .i64 ((IntKind.wrap .i64 ((IntKind.wrap .i64 ((IntKind.wrap .i64 x_1) + x_2)) - 1)) - x_16)).toNat * 1) (.flat (.int .u8 (IntKind.wrap .u8 (x_3.fdiv (2 ^ min (IntKind.wrap .i64 (8 * x_16)).toNat 32))))) fun m8 => kn (IntKind.wrap .i64 (x_16 + 1)) m8) False)) (k0  m)
def L35_4 (b_0 o_0 : Nat) (x_1 : Int) (x_2 : Int) (x_3 : Int) (x_15 : Int) : Nat → Int → Mem → (Mem → Prop) → Prop
 | 0, _,  _, _ => bump False
 | N + 1, x_16,  m, k0 => R35_4 b_0 o_0 x_1 x_2 x_3 x_15 x_16 m (fun x_16' m' => L35_4 b_0 o_0 x_1 x_2 x_3 x_15 N x_16' m' k0) k0
def F35 (b_0 o_0 : Nat) (x_1 : Int) (x_2 : Int) (x_3 : Int) (m : Mem) (k : Bool → Mem → Prop) : Prop :=
 F47 b_0 o_0 x_1 x_2 m fun x1 m2 => kif (!x1) (k false m2) (∃ N10, L35_4 b_0 o_0 x_1 x_2 x_3 x_2 N10 0 m2 (fun m9 => F46 b_0 o_0 x_1 x_2 m9 fun m11 => k true m11))
def G35 := Gs [.p, .i .u32, .i .i64, .i .u32] [.b] F35
def D35_4 : LpD := ⟨[0, 1, 2, 3, 15], [.p, .i .u32, .i .i64, .i .u32, .i .i64], [16], [.i .i64], [⟨.exit 0, [], [], [0, 1, 2]⟩], R35_4, L35_4⟩
def Lam35 : LEnv := lamOf [(4, lpK D35_4)] [] [] []
theorem lok35_4 : LoopOK Tryz.prog E35 Lam35 (nthL (bodyOf Tryz.f35) 0) := lp_ok D35_4 (fun _ _ _ => by kernel_rfl) (by kernel_rfl) (fun _ _ _ _ _ _ _ _ _ _ => by kernel_rfl) (fun _ _ _ _ _ _ _ _ _ _ _ => by kernel_rfl) (fun _ _ _ _ _ _ _ _ _ _ => by kernel_rfl)
def E143 : Env := ext E35 35 G35
theorem S143 (w0 : World) : SP w0 E143 := sg (S35 w0) Tryz.func35 Tryz.call35 (Λ := Lam35) 1 ⟨lok35_4, trivial⟩ 0 trivial (by kernel_rfl) false (fun _ _ _ _ _ _ _ => by kernel_rfl)
def F143 (b_0 o_0 : Nat) (x_1 : Int) (x_2 : Int) (x_3 : Int) (x_4 : Int) (m : Mem) (k : Bool → Mem → Prop) : Prop :=
 ldA m b_0 (o_0 + 0) fun v1 => kptr v1 fun b2 o3 => F63 b2 o3 m fun x4 m5 => kif (decide (x_1 < x4)) (ldA m5 b_0 (o_0 + 0) fun v6 => kptr v6 fun b7 o8 => F35 b7 o8 x_1 x_2 x_3 m5 fun x9 m10 => k x9 m10) (F137 x_1 x_2 m5 fun x11 x12 x13 m14 => kif (!x13) (k false m14) (bump False))
def G143 := Gs [.p, .i .u32, .i .i64, .i .u32, .i .i64] [.b] F143
def E144 : Env := ext E143 143 G143
theorem S144 (w0 : World) : SP w0 E144 := sg0 (S143 w0) Tryz.func143 Tryz.call143 (by kernel_rfl) false (fun _ _ _ _ _ _ _ _ => by kernel_rfl)
def F144 (b_0 o_0 : Nat) (x_1 : Int) (x_2 : Int) (m : Mem) (k : Bool → Mem → Prop) : Prop :=
 ldI .u32 m b_0 (o_0 + 38) fun x1 => kif (decide ((IntKind.wrap .i64 ((IntKind.wrap .i64 x_1) + x_2)) > (IntKind.wrap .i64 x1))) (ldI .u32 m b_0 (o_0 + 38) fun x2 => (Keeps m m ∧ k (decide ((IntKind.wrap .i64 x_1) < (IntKind.wrap .i64 ((IntKind.wrap .i64 x2) + 4)))) m)) ((Keeps m m ∧ k false m))
def G144 := Gs [.p, .i .u32, .i .i64] [.b] F144
end Go.Proofs.YtkiggdgphbkneaaGreat.Am
