/- What Go functions ask of what follows them, as plain functions over the abstract machine; the machine asks just that. Written by gen.py. -/
import Derived.Test.YtppikpjmlbaccaaDoorProg
import Derived.Test.YtppikpjmlbaccaaDoorAmMa
import Derived.Test.YtppikpjmlbaccaaDoorM1
namespace Go.Proofs.YtppikpjmlbaccaaDoor.Am
set_option linter.unusedVariables false
set_option linter.unusedSimpArgs false
set_option linter.constructorNameAsVariable false
set_option maxRecDepth 100000

def E28 : Env := ext E40 40 G40

theorem S28 (w0 : World) (hW : TabH w0) : SP w0 E28 := sg0 (S40 w0 hW) Tryd.func40 Tryd.call40 (by kernel_rfl) true (fun _ _ _ => by kernel_rfl)

def R28_6 (x_0 : Int) (x_7 : Int) (v_26 : AV) (x_27 : Int) (x_3 : Int) (x_28 : Int) (m : Mem) (kn : Int → Int → Mem → Prop) (k2 : Int → Mem → Prop) (k0 : Int → Mem → Prop) : Prop :=
  kif (decide (x_28 < x_27)) (ksl v_26 fun b3 o4 l5 p6 => kif (decide (0 ≤ x_28) && decide (x_28 < l5)) (ldI .u32 m b3 (o4 + (x_28).toNat * 1) fun x7 => F40 x7 m fun x8 m9 => kif (x8 == x_0) (k0 x7 m9) (kn x_3 (IntKind.wrap .i64 (x_28 + 1)) m9)) False) (k2 x_3 m)

def L28_6 (x_0 : Int) (x_7 : Int) (v_26 : AV) (x_27 : Int) : Nat → Int → Int → Mem → (Int → Mem → Prop) → (Int → Mem → Prop) → Prop
  | 0, _, _,  _, _, _ => bump False
  | N + 1, x_3, x_28,  m, k2, k0 => R28_6 x_0 x_7 v_26 x_27 x_3 x_28 m (fun x_3' x_28' m' => L28_6 x_0 x_7 v_26 x_27 N x_3' x_28' m' k2 k0) k2 k0

def R28_3 (x_0 : Int) (x_3 : Int) (x_7 : Int) (m : Mem) (kn : Int → Int → Mem → Prop) (k0 : Int → Mem → Prop) : Prop :=
  kif (decide (x_7 < 64)) (newK m ⟨6, upd (upd (upd (upd (upd (upd (Z6bb) 0 (.flat (.int .u32 (IntKind.wrap .u32 (x_7 * 67108864))))) 1 (.flat (.int .u32 (bits .or .u32 0 x_7)))) 2 (.flat (.int .u32 (bits .or .u32 67108864 (IntKind.wrap .u32 ((bits .and .u32 x_7 31) * 65536)))))) 3 (.flat (.int .u32 (bits .or .u32 1073741824 (IntKind.wrap .u32 ((bits .and .u32 x_7 31) * 2097152)))))) 4 (.flat (.int .u32 (bits .or .u32 1107296256 x_7)))) 5 (.flat (.int .u32 (bits .or .u32 1879048192 x_7))), 22, false⟩ fun b2 m1 => ∃ N14, L28_6 x_0 x_7 (.sl b2 0 6 (.ex 6)) 6 N14 x_3 0 m1 (fun x10 m11 => kn x10 (IntKind.wrap .u32 (x_7 + 1)) m11) (fun x12 m13 => k0 x12 m13)) (k0 x_3 m)

def L28_3 (x_0 : Int) : Nat → Int → Int → Mem → (Int → Mem → Prop) → Prop
  | 0, _, _,  _, _ => bump False
  | N + 1, x_3, x_7,  m, k0 => R28_3 x_0 x_3 x_7 m (fun x_3' x_7' m' => L28_3 x_0 N x_3' x_7' m' k0) k0

/-- pianola/decode.head -/
def F28 (x_0 : Int) (m : Mem) (k : Int → Mem → Prop) : Prop :=
  ∃ N17, L28_3 x_0 N17 0 0 m (fun x15 m16 => (Keeps m m16 ∧ k x15 m))

def G28 := Gs [.i .i64] [.i .u32] F28

def D28_3 : LpD := ⟨[0], [.i .i64], [3, 7], [.i .u32, .i .u32], [⟨.exit 0, [3], [.i .u32], []⟩], R28_3, L28_3⟩

def D28_6 : LpD := ⟨[0, 7, 26, 27], [.i .i64, .i .u32, .a, .i .i64], [3, 28], [.i .u32, .i .i64], [⟨.exit 2, [3], [.i .u32], [0, 7]⟩, ⟨.exit 0, [3], [.i .u32], []⟩], R28_6, L28_6⟩

def Lam28 : LEnv := lamOf [(3, lpK D28_3), (6, lpK D28_6)] [] [] []

theorem lok28_6 : LoopOK Tryd.prog E28 Lam28 (nthL (bodyOf Tryd.f28) 1) := lp_ok D28_6 (fun _ _ _ => by kernel_rfl) (by kernel_rfl) (fun _ _ _ _ _ _ _ _ _ => by kernel_rfl) (fun _ _ _ _ _ _ _ _ _ _ => by kernel_rfl) (fun _ _ _ _ _ _ _ _ _ => by kernel_rfl)

theorem lok28_3 : LoopOK Tryd.prog E28 Lam28 (nthL (bodyOf Tryd.f28) 0) := lp_ok D28_3 (fun _ _ _ => by kernel_rfl) (by kernel_rfl) (fun _ _ _ _ _ _ => by kernel_rfl) (fun _ _ _ _ _ _ _ => by kernel_rfl) (fun _ _ _ _ _ _ => by kernel_rfl)

def E20 : Env := ext E28 28 G28

theorem S20 (w0 : World) (hW : TabH w0) : SP w0 E20 := sg (S28 w0 hW) Tryd.func28 Tryd.call28 (Λ := Lam28) 2 ⟨lok28_3, lok28_6, trivial⟩ 0 trivial (by kernel_rfl) true (fun _ _ _ => by kernel_rfl)

/-- pianola/decode.Word -/
def F20 (c_0 : Nat → AV) (m : Mem) (k : Int → Bool → Mem → Prop) : Prop :=
  newK m ⟨6, c_0, 26, false⟩ fun b2 m1 => ldG 6 m1 b2 0 fun c3 => F27 c3 m1 fun x4 m5 => kif (!x4) ((Keeps m m5 ∧ k 0 false m)) (∃ Fr6 : Nat → Prop, Fr6 b2 ∧ (ldI .i64 m5 b2 0 fun x7 => F28 x7 m5 fun x8 m9 => KeepsIn Fr6 m5 m9 ∧ (Fr6 b2 ∧ (ldG 6 m9 b2 0 fun c10 => F29 c10 m9 fun x11 m12 => KeepsIn Fr6 m9 m12 ∧ ((Keeps m m12 ∧ k (bits .or .u32 x8 x11) true m))))))

def G20 := Gs [.g 6] [.i .u32, .b] F20

def Lam20 : LEnv := lamOf [] [3] [] []

def E11 : Env := ext E20 20 G20

theorem S11 (w0 : World) (hW : TabH w0) : SP w0 E11 := sg (S20 w0 hW) Tryd.func20 Tryd.call20 (Λ := Lam20) 0 trivial 0 trivial (by kernel_rfl) true (fun _ _ _ => by kernel_rfl)

def R11_3 (v_9 : AV) (x_10 : Int) (v_4 : AV) (x_11 : Int) (m : Mem) (kn : AV → Int → Mem → Prop) (k0 : AV → Mem → Prop) (kr : AV → Int → Mem → Prop) : Prop :=
  kif (decide (x_11 < x_10)) (ksl v_9 fun b2 o3 l4 p5 => kif (decide (0 ≤ x_11) && decide (x_11 < l4)) (ldG 6 m b2 (o3 + (x_11).toNat * 6) fun c6 => newK m ⟨6, Z6, 26, false⟩ fun b8 m7 => stG 6 m7 b8 0 c6 fun m9 => ldG 6 m9 b8 0 fun c10 => F20 c10 m9 fun x11 x12 m13 => kif (!x12) (kr (.flat (.slice none 0 0)) 1 m13) (newK m13 ⟨4, upd (upd (upd (upd (lget [(.flat (.int .u8 0)), (.flat (.int .u8 0)), (.flat (.int .u8 0)), (.flat (.int .u8 0))]) 0 (.flat (.int .u8 (IntKind.wrap .u8 (x11.fdiv 16777216))))) 1 (.flat (.int .u8 (IntKind.wrap .u8 (x11.fdiv 65536))))) 2 (.flat (.int .u8 (IntKind.wrap .u8 (x11.fdiv 256))))) 3 (.flat (.int .u8 (IntKind.wrap .u8 x11))), 5, false⟩ fun b15 m14 => appS 1 1 5 v_4 (.sl b15 0 4 (.ex 4)) m14 fun v16 m17 => kn v16 (IntKind.wrap .i64 (x_11 + 1)) m17)) False) (k0 v_4 m)

def L11_3 (v_9 : AV) (x_10 : Int) : Nat → AV → Int → Mem → (AV → Mem → Prop) → (AV → Int → Mem → Prop) → Prop
  | 0, _, _,  _, _, _ => bump False
  | N + 1, v_4, x_11,  m, k0, kr => R11_3 v_9 x_10 v_4 x_11 m (fun v_4' x_11' m' => L11_3 v_9 x_10 N v_4' x_11' m' k0 kr) k0 kr

/-- pianola/asm.Bytes -/
def F11 (v_0 : AV) (m : Mem) (k : AV → Int → Mem → Prop) : Prop :=
  klen v_0 fun x1 => ∃ N23, L11_3 v_0 x1 N23 (.flat (.slice none 0 0)) 0 m (fun v18 m19 => knt v18 (k v18 0 m19)) (fun v20 x21 m22 => knt v20 (k v20 x21 m22))

def G11 := Gs [.a] [.a, .i .i64] F11

def D11_3 : LpD := ⟨[9, 10], [.a, .i .i64], [4, 11], [.a, .i .i64], [⟨.exit 0, [4], [.a], []⟩, ⟨.ret, [2, 3], [.a, .i .i64], []⟩], R11_3, L11_3⟩

def Lam11 : LEnv := lamOf [(3, lpK D11_3)] [] [] []

theorem lok11_3 : LoopOK Tryd.prog E11 Lam11 (nthL (bodyOf Tryd.f11) 0) := lp_ok D11_3 (fun _ _ _ => by kernel_rfl) (by kernel_rfl) (fun _ _ _ _ _ _ _ => by kernel_rfl) (fun _ _ _ _ _ _ _ _ => by kernel_rfl) (fun _ _ _ _ _ _ _ => by kernel_rfl)

def E12 : Env := ext E11 11 G11

theorem S12 (w0 : World) (hW : TabH w0) : SP w0 E12 := sg (S11 w0 hW) Tryd.func11 Tryd.call11 (Λ := Lam11) 1 ⟨lok11_3, trivial⟩ 0 trivial (by kernel_rfl) false (fun _ _ _ => by kernel_rfl)

/-- pianola/asm.To -/
def F12 (x_0 : Int) (x_1 : Int) (m : Mem) (k : Int → Mem → Prop) : Prop :=
  (Keeps m m ∧ k (bits .and .u32 (IntKind.wrap .u32 (IntKind.wrap .i64 ((IntKind.wrap .i64 (x_1 - x_0)) - 1))) 65535) m)

def G12 := Gs [.i .i64, .i .i64] [.i .u32] F12

def E6 : Env := ext E12 12 G12

theorem S6 (w0 : World) (hW : TabH w0) : SP w0 E6 := sg0 (S12 w0 hW) Tryd.func12 Tryd.call12 (by kernel_rfl) true (fun _ _ _ _ => by kernel_rfl)

/-- pianola/pianolalaw26.known -/
def F6  (m : Mem) (k : Bool → Mem → Prop) : Prop :=
  newK m ⟨6, splice (Z6) 0 6 (Z6), 26, false⟩ fun b2 m1 => F11 (.sl b2 0 1 (.ex 1)) m1 fun v3 x4 m5 => newK m5 ⟨6, splice (Z6) 0 6 (upd (upd (upd (Z6) 0 (.flat (.int .i64 47))) 2 (.flat (.int .i64 1))) 5 (.flat (.int .u32 5))), 26, false⟩ fun b7 m6 => F11 (.sl b7 0 1 (.ex 1)) m6 fun v8 x9 m10 => kif (x4 == 1) (kif (x9 == 0) (kstr v8 m10 fun z11 => kif (z11.toList == Yb12.toList) (F12 5 5 m10 fun x12 m13 => kif (x12 == 65535) (F12 0 1 m13 fun x14 m15 => k (x14 == 0) m15) (k false m13)) (k false m10)) (k false m10)) (k false m10)

def G6 := Gs [] [.b] F6

def E3 : Env := ext E6 6 G6

theorem S3 (w0 : World) (hW : TabH w0) : SP w0 E3 := sg0 (S6 w0 hW) Tryd.func6 Tryd.call6 (by kernel_rfl) false (fun _ _ => by kernel_rfl)

/-- pianola/pianolalaw26.AsmTexts -/
def F3 (c_0 : Nat → AV) (c_1 : Nat → AV) (m : Mem) (k : Bool → Mem → Prop) : Prop :=
  newK m ⟨7, c_0, 24, false⟩ fun b2 m1 => newK m1 ⟨7, c_1, 24, false⟩ fun b4 m3 => ∃ Fr5 : Nat → Prop, Fr5 b2 ∧ (ldG 7 m3 b2 0 fun c6 => F4 c6 m3 fun c7 m8 => KeepsIn Fr5 m3 m8 ∧ (Fr5 b4 ∧ (ldG 7 m8 b4 0 fun c9 => F4 c9 m8 fun c10 m11 => KeepsIn Fr5 m8 m11 ∧ (newK m11 ⟨6, Z6, 26, false⟩ fun b13 m12 => newK m12 ⟨6, Z6, 26, false⟩ fun b15 m14 => stG 6 m14 b13 0 c7 fun m16 => stG 6 m16 b15 0 c10 fun m17 => ∃ Fr18 : Nat → Prop, Fr18 b13 ∧ (ldG 6 m17 b13 0 fun c19 => F5 c19 m17 fun x20 m21 => KeepsIn Fr18 m17 m21 ∧ (kif (decide (((x20.size : Nat) : Int) > 0)) (Fr18 b13 ∧ (ldG 6 m21 b13 0 fun c22 => F5 c22 m21 fun x23 m24 => KeepsIn Fr18 m21 m24 ∧ (Fr18 b15 ∧ (ldG 6 m24 b15 0 fun c25 => F5 c25 m24 fun x26 m27 => KeepsIn Fr18 m24 m27 ∧ (Fr18 b13 ∧ (ldG 6 m27 b13 0 fun c28 => Fr18 b15 ∧ (ldG 6 m27 b15 0 fun c29 => geq K26 c28 c29 fun x30 => kif ((x23.toList == x26.toList) == x30) (F5 (Z6) m27 fun x31 m32 => KeepsIn Fr18 m27 m32 ∧ (kif (decide (((x31.size : Nat) : Int) > 0)) (F6  m32 fun x33 m34 => KeepsIn Fr18 m32 m34 ∧ (k x33 m34)) (k false m32))) (k false m27)))))))) (k false m21)))))))

def G3 := Gs [.g 7, .g 7] [.b] F3

def Lam3 : LEnv := lamOf [] [1, 2] [] []

theorem fs3 (w0 : World) (hW : TabH w0) : FS Tryd.prog w0 3 G3 := fs_sig (S3 w0 hW) Tryd.func3 Tryd.call3 (Λ := Lam3) 0 trivial 0 trivial (by kernel_rfl) false (fun _ _ _ _ => by kernel_rfl)

end Go.Proofs.YtppikpjmlbaccaaDoor.Am
