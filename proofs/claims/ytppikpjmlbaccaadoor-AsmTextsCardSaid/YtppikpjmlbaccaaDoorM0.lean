/- What Go functions ask of what follows them, as plain functions over the abstract machine; the machine asks just that. Written by gen.py. -/
import Derived.Test.YtppikpjmlbaccaaDoorProg
import Derived.Test.YtppikpjmlbaccaaDoorAmMa
import Derived.Test.YtppikpjmlbaccaaDoorAmT
namespace Go.Proofs.YtppikpjmlbaccaaDoor.Am
set_option linter.unusedVariables false
set_option linter.unusedSimpArgs false
set_option linter.constructorNameAsVariable false
set_option maxRecDepth 100000

def Yb0 : ByteArray := ⟨#[116, 100, 104]⟩

def Yb1 : ByteArray := ⟨#[115, 116, 100]⟩

def Yb2 : ByteArray := ⟨#[115]⟩

def Yb3 : ByteArray := ⟨#[115, 100]⟩

def Yb4 : ByteArray := ⟨#[100]⟩

def Yb5 : ByteArray := ⟨#[115, 116]⟩

def Yb6 : ByteArray := ⟨#[106]⟩

def Yb7 : ByteArray := ⟨#[115, 116, 105]⟩

def Yb8 : ByteArray := ⟨#[115, 105]⟩

def Yb9 : ByteArray := ⟨#[116, 105]⟩

def Yb10 : ByteArray := ⟨#[116, 100]⟩

def Yb11 : ByteArray := ⟨#[32]⟩

def Yb12 : ByteArray := ⟨#[36, 1, 0, 5]⟩

abbrev zi : AV := (.flat (.int .i64 0))
abbrev zu : AV := (.flat (.int .u32 0))
abbrev zb : AV := (.flat (.bool false))
abbrev zs : AV := (.flat (.string ⟨#[]⟩))
abbrev zp : AV := (.flat (.pointer none))
abbrev zc : AV := (.flat (.int .u8 0))

def Z140 : Nat → AV := lget [zi, zi, zi, zs, zi, zi, zi, zs, zi, zi, zi, zs, zi, zi, zi, zs, zi, zi, zi, zs, zi, zi, zi, zs, zi, zi, zi, zs, zi, zi, zi, zs, zi, zi, zi, zs, zi, zi, zi, zs, zi, zi, zi, zs, zi, zi, zi, zs, zi, zi, zi, zs, zi, zi, zi, zs, zi, zi, zi, zs, zi, zi, zi, zs, zi, zi, zi, zs, zi, zi, zi, zs, zi, zi, zi, zs, zi, zi, zi, zs, zi, zi, zi, zs, zi, zi, zi, zs, zi, zi, zi, zs, zi, zi, zi, zs, zi, zi, zi, zs, zi, zi, zi, zs, zi, zi, zi, zs, zi, zi, zi, zs, zi, zi, zi, zs, zi, zi, zi, zs, zi, zi, zi, zs, zi, zi, zi, zs, zi, zi, zi, zs, zi, zi, zi, zs, zi, zi, zi, zs]

def Z108 : Nat → AV := lget [zi, zi, zi, zs, zi, zi, zi, zs, zi, zi, zi, zs, zi, zi, zi, zs, zi, zi, zi, zs, zi, zi, zi, zs, zi, zi, zi, zs, zi, zi, zi, zs, zi, zi, zi, zs, zi, zi, zi, zs, zi, zi, zi, zs, zi, zi, zi, zs, zi, zi, zi, zs, zi, zi, zi, zs, zi, zi, zi, zs, zi, zi, zi, zs, zi, zi, zi, zs, zi, zi, zi, zs, zi, zi, zi, zs, zi, zi, zi, zs, zi, zi, zi, zs, zi, zi, zi, zs, zi, zi, zi, zs, zi, zi, zi, zs, zi, zi, zi, zs, zi, zi, zi, zs, zi, zi, zi, zs]

def Z60 : Nat → AV := lget [zi, zi, zi, zs, zi, zi, zi, zs, zi, zi, zi, zs, zi, zi, zi, zs, zi, zi, zi, zs, zi, zi, zi, zs, zi, zi, zi, zs, zi, zi, zi, zs, zi, zi, zi, zs, zi, zi, zi, zs, zi, zi, zi, zs, zi, zi, zi, zs, zi, zi, zi, zs, zi, zi, zi, zs, zi, zi, zi, zs]

def Z6 : Nat → AV := lget [(.flat (.int .i64 0)), (.flat (.int .i64 0)), (.flat (.int .i64 0)), (.flat (.int .i64 0)), (.flat (.int .i64 0)), (.flat (.int .u32 0))]

def Z6b : Nat → AV := lget [(.flat (.int .i64 0)), (.flat (.int .i64 0)), (.flat (.int .i64 0)), (.flat (.int .i64 0)), (.flat (.int .i64 0)), (.flat (.int .i64 0))]

def Z6bb : Nat → AV := lget [(.flat (.int .u32 0)), (.flat (.int .u32 0)), (.flat (.int .u32 0)), (.flat (.int .u32 0)), (.flat (.int .u32 0)), (.flat (.int .u32 0))]

def K26 : List (Nat × LK) := [(0, (.i .i64)), (1, (.i .i64)), (2, (.i .i64)), (3, (.i .i64)), (4, (.i .i64)), (5, (.i .u32))]

abbrev SP := Sound Tryd.prog

def E8 : Env := envH

theorem S8 (w0 : World) (hW : TabH w0) : SP w0 E8 := sndH w0 hW

def P8_3102 (x_0 : Int) (x_1 : Int) (x_2 : Int) (m : Mem) (kr : Int → Mem → Prop) : Prop :=
  kif (decide (IntKind.wrap .i64 ((IntKind.wrap .i64 (x_2 - x_1)) + 1) = 0)) False (kif (decide ((x_0.tmod (IntKind.wrap .i64 ((IntKind.wrap .i64 (x_2 - x_1)) + 1))) < 0)) (kr (IntKind.wrap .i64 (x_1 + (IntKind.wrap .i64 ((IntKind.wrap .i64 ((IntKind.wrap .i64 ((x_0.tmod (IntKind.wrap .i64 ((IntKind.wrap .i64 (x_2 - x_1)) + 1))) + x_2)) - x_1)) + 1)))) m) (kr (IntKind.wrap .i64 (x_1 + (x_0.tmod (IntKind.wrap .i64 ((IntKind.wrap .i64 (x_2 - x_1)) + 1))))) m))

/-- pianola/pianolabook.Within -/
def F8 (x_0 : Int) (x_1 : Int) (x_2 : Int) (m : Mem) (k : Int → Mem → Prop) : Prop :=
  kif (decide (x_0 ≥ x_1)) (kif (decide (x_0 ≤ x_2)) ((Keeps m m ∧ k x_0 m)) (P8_3102 x_0 x_1 x_2 m (fun x1 m2 => (Keeps m m2 ∧ k x1 m)))) (P8_3102 x_0 x_1 x_2 m (fun x3 m4 => (Keeps m m4 ∧ k x3 m)))

def G8 := Gs [.i .i64, .i .i64, .i .i64] [.i .i64] F8

def D8_3102 : PcD := ⟨[0, 1, 2], [.i .i64, .i .i64, .i .i64], [⟨.ret, [6], [.i .i64], []⟩], P8_3102⟩

def Lam8 : LEnv := lamOf [] [] [3102] [(3102, pcK D8_3102)]

theorem pok8_3102 : PieceOK Tryd.prog E8 Lam8 (nthP Lam8 (bodyOf Tryd.f8) 0) := pc_ok D8_3102 (fun _ _ _ => by kernel_rfl) (by kernel_rfl) (fun _ _ _ _ _ => by kernel_rfl)

def E13 : Env := ext E8 8 G8

theorem S13 (w0 : World) (hW : TabH w0) : SP w0 E13 := sg (S8 w0 hW) Tryd.func8 Tryd.call8 (Λ := Lam8) 0 trivial 1 ⟨pok8_3102, trivial⟩ (by kernel_rfl) true (fun _ _ _ _ _ => by kernel_rfl)

/-- pianola/pianolakeep.near -/
def F13 (x_0 : Int) (m : Mem) (k : Int → Mem → Prop) : Prop :=
  F8 x_0 0 1048576 m fun x1 m2 => kif ((x1.tmod 8) == 7) ((Keeps m m2 ∧ k ((IntKind.wrap .i64 (x1.tdiv 8)).tmod 32) m)) ((Keeps m m2 ∧ k ((IntKind.wrap .i64 (x1.tdiv 8)).tmod 8) m))

def G13 := Gs [.i .i64] [.i .i64] F13

def E30 : Env := ext E13 13 G13

theorem S30 (w0 : World) (hW : TabH w0) : SP w0 E30 := sg0 (S13 w0 hW) Tryd.func13 Tryd.call13 (by kernel_rfl) true (fun _ _ _ => by kernel_rfl)

/-- pianola/pianolaref3.special -/
def F30  (m : Mem) (k : AV → Mem → Prop) : Prop :=
  newK m ⟨140, splice (splice (splice (splice (splice (splice (splice (splice (splice (splice (splice (splice (splice (splice (splice (splice (splice (splice (splice (splice (splice (splice (splice (splice (splice (splice (splice (splice (splice (splice (splice (splice (splice (splice (splice (Z140) 0 4 (upd (upd (upd (upd (lget [(.flat (.int .i64 0)), (.flat (.int .i64 0)), (.flat (.int .i64 0)), (.flat (.string ⟨#[]⟩))]) 0 (.flat (.int .i64 0))) 1 (.flat (.int .i64 0))) 2 (.flat (.int .i64 1))) 3 (.flat (.string Yb0)))) 4 4 (upd (upd (upd (upd (lget [(.flat (.int .i64 0)), (.flat (.int .i64 0)), (.flat (.int .i64 0)), (.flat (.string ⟨#[]⟩))]) 0 (.flat (.int .i64 0))) 1 (.flat (.int .i64 2))) 2 (.flat (.int .i64 2))) 3 (.flat (.string Yb0)))) 8 4 (upd (upd (upd (upd (lget [(.flat (.int .i64 0)), (.flat (.int .i64 0)), (.flat (.int .i64 0)), (.flat (.string ⟨#[]⟩))]) 0 (.flat (.int .i64 0))) 1 (.flat (.int .i64 3))) 2 (.flat (.int .i64 3))) 3 (.flat (.string Yb0)))) 12 4 (upd (upd (upd (upd (lget [(.flat (.int .i64 0)), (.flat (.int .i64 0)), (.flat (.int .i64 0)), (.flat (.string ⟨#[]⟩))]) 0 (.flat (.int .i64 0))) 1 (.flat (.int .i64 4))) 2 (.flat (.int .i64 4))) 3 (.flat (.string Yb1)))) 16 4 (upd (upd (upd (upd (lget [(.flat (.int .i64 0)), (.flat (.int .i64 0)), (.flat (.int .i64 0)), (.flat (.string ⟨#[]⟩))]) 0 (.flat (.int .i64 0))) 1 (.flat (.int .i64 6))) 2 (.flat (.int .i64 5))) 3 (.flat (.string Yb1)))) 20 4 (upd (upd (upd (upd (lget [(.flat (.int .i64 0)), (.flat (.int .i64 0)), (.flat (.int .i64 0)), (.flat (.string ⟨#[]⟩))]) 0 (.flat (.int .i64 0))) 1 (.flat (.int .i64 7))) 2 (.flat (.int .i64 6))) 3 (.flat (.string Yb1)))) 24 4 (upd (upd (upd (upd (lget [(.flat (.int .i64 0)), (.flat (.int .i64 0)), (.flat (.int .i64 0)), (.flat (.string ⟨#[]⟩))]) 0 (.flat (.int .i64 0))) 1 (.flat (.int .i64 8))) 2 (.flat (.int .i64 7))) 3 (.flat (.string Yb2)))) 28 4 (upd (upd (upd (upd (lget [(.flat (.int .i64 0)), (.flat (.int .i64 0)), (.flat (.int .i64 0)), (.flat (.string ⟨#[]⟩))]) 0 (.flat (.int .i64 0))) 1 (.flat (.int .i64 9))) 2 (.flat (.int .i64 8))) 3 (.flat (.string Yb3)))) 32 4 (upd (upd (upd (upd (lget [(.flat (.int .i64 0)), (.flat (.int .i64 0)), (.flat (.int .i64 0)), (.flat (.string ⟨#[]⟩))]) 0 (.flat (.int .i64 0))) 1 (.flat (.int .i64 10))) 2 (.flat (.int .i64 9))) 3 (.flat (.string Yb1)))) 36 4 (upd (upd (upd (upd (lget [(.flat (.int .i64 0)), (.flat (.int .i64 0)), (.flat (.int .i64 0)), (.flat (.string ⟨#[]⟩))]) 0 (.flat (.int .i64 0))) 1 (.flat (.int .i64 11))) 2 (.flat (.int .i64 10))) 3 (.flat (.string Yb1)))) 40 4 (upd (upd (upd (upd (lget [(.flat (.int .i64 0)), (.flat (.int .i64 0)), (.flat (.int .i64 0)), (.flat (.string ⟨#[]⟩))]) 0 (.flat (.int .i64 0))) 1 (.flat (.int .i64 12))) 2 (.flat (.int .i64 11))) 3 (.flat (.string (⟨#[]⟩ : ByteArray))))) 44 4 (upd (upd (upd (upd (lget [(.flat (.int .i64 0)), (.flat (.int .i64 0)), (.flat (.int .i64 0)), (.flat (.string ⟨#[]⟩))]) 0 (.flat (.int .i64 0))) 1 (.flat (.int .i64 13))) 2 (.flat (.int .i64 12))) 3 (.flat (.string (⟨#[]⟩ : ByteArray))))) 48 4 (upd (upd (upd (upd (lget [(.flat (.int .i64 0)), (.flat (.int .i64 0)), (.flat (.int .i64 0)), (.flat (.string ⟨#[]⟩))]) 0 (.flat (.int .i64 0))) 1 (.flat (.int .i64 15))) 2 (.flat (.int .i64 13))) 3 (.flat (.string (⟨#[]⟩ : ByteArray))))) 52 4 (upd (upd (upd (upd (lget [(.flat (.int .i64 0)), (.flat (.int .i64 0)), (.flat (.int .i64 0)), (.flat (.string ⟨#[]⟩))]) 0 (.flat (.int .i64 0))) 1 (.flat (.int .i64 16))) 2 (.flat (.int .i64 14))) 3 (.flat (.string Yb4)))) 56 4 (upd (upd (upd (upd (lget [(.flat (.int .i64 0)), (.flat (.int .i64 0)), (.flat (.int .i64 0)), (.flat (.string ⟨#[]⟩))]) 0 (.flat (.int .i64 0))) 1 (.flat (.int .i64 17))) 2 (.flat (.int .i64 15))) 3 (.flat (.string Yb2)))) 60 4 (upd (upd (upd (upd (lget [(.flat (.int .i64 0)), (.flat (.int .i64 0)), (.flat (.int .i64 0)), (.flat (.string ⟨#[]⟩))]) 0 (.flat (.int .i64 0))) 1 (.flat (.int .i64 18))) 2 (.flat (.int .i64 16))) 3 (.flat (.string Yb4)))) 64 4 (upd (upd (upd (upd (lget [(.flat (.int .i64 0)), (.flat (.int .i64 0)), (.flat (.int .i64 0)), (.flat (.string ⟨#[]⟩))]) 0 (.flat (.int .i64 0))) 1 (.flat (.int .i64 19))) 2 (.flat (.int .i64 17))) 3 (.flat (.string Yb2)))) 68 4 (upd (upd (upd (upd (lget [(.flat (.int .i64 0)), (.flat (.int .i64 0)), (.flat (.int .i64 0)), (.flat (.string ⟨#[]⟩))]) 0 (.flat (.int .i64 0))) 1 (.flat (.int .i64 24))) 2 (.flat (.int .i64 18))) 3 (.flat (.string Yb5)))) 72 4 (upd (upd (upd (upd (lget [(.flat (.int .i64 0)), (.flat (.int .i64 0)), (.flat (.int .i64 0)), (.flat (.string ⟨#[]⟩))]) 0 (.flat (.int .i64 0))) 1 (.flat (.int .i64 25))) 2 (.flat (.int .i64 19))) 3 (.flat (.string Yb5)))) 76 4 (upd (upd (upd (upd (lget [(.flat (.int .i64 0)), (.flat (.int .i64 0)), (.flat (.int .i64 0)), (.flat (.string ⟨#[]⟩))]) 0 (.flat (.int .i64 0))) 1 (.flat (.int .i64 26))) 2 (.flat (.int .i64 20))) 3 (.flat (.string Yb5)))) 80 4 (upd (upd (upd (upd (lget [(.flat (.int .i64 0)), (.flat (.int .i64 0)), (.flat (.int .i64 0)), (.flat (.string ⟨#[]⟩))]) 0 (.flat (.int .i64 0))) 1 (.flat (.int .i64 27))) 2 (.flat (.int .i64 21))) 3 (.flat (.string Yb5)))) 84 4 (upd (upd (upd (upd (lget [(.flat (.int .i64 0)), (.flat (.int .i64 0)), (.flat (.int .i64 0)), (.flat (.string ⟨#[]⟩))]) 0 (.flat (.int .i64 0))) 1 (.flat (.int .i64 32))) 2 (.flat (.int .i64 22))) 3 (.flat (.string Yb1)))) 88 4 (upd (upd (upd (upd (lget [(.flat (.int .i64 0)), (.flat (.int .i64 0)), (.flat (.int .i64 0)), (.flat (.string ⟨#[]⟩))]) 0 (.flat (.int .i64 0))) 1 (.flat (.int .i64 33))) 2 (.flat (.int .i64 23))) 3 (.flat (.string Yb1)))) 92 4 (upd (upd (upd (upd (lget [(.flat (.int .i64 0)), (.flat (.int .i64 0)), (.flat (.int .i64 0)), (.flat (.string ⟨#[]⟩))]) 0 (.flat (.int .i64 0))) 1 (.flat (.int .i64 34))) 2 (.flat (.int .i64 24))) 3 (.flat (.string Yb1)))) 96 4 (upd (upd (upd (upd (lget [(.flat (.int .i64 0)), (.flat (.int .i64 0)), (.flat (.int .i64 0)), (.flat (.string ⟨#[]⟩))]) 0 (.flat (.int .i64 0))) 1 (.flat (.int .i64 35))) 2 (.flat (.int .i64 25))) 3 (.flat (.string Yb1)))) 100 4 (upd (upd (upd (upd (lget [(.flat (.int .i64 0)), (.flat (.int .i64 0)), (.flat (.int .i64 0)), (.flat (.string ⟨#[]⟩))]) 0 (.flat (.int .i64 0))) 1 (.flat (.int .i64 36))) 2 (.flat (.int .i64 26))) 3 (.flat (.string Yb1)))) 104 4 (upd (upd (upd (upd (lget [(.flat (.int .i64 0)), (.flat (.int .i64 0)), (.flat (.int .i64 0)), (.flat (.string ⟨#[]⟩))]) 0 (.flat (.int .i64 0))) 1 (.flat (.int .i64 37))) 2 (.flat (.int .i64 27))) 3 (.flat (.string Yb1)))) 108 4 (upd (upd (upd (upd (lget [(.flat (.int .i64 0)), (.flat (.int .i64 0)), (.flat (.int .i64 0)), (.flat (.string ⟨#[]⟩))]) 0 (.flat (.int .i64 0))) 1 (.flat (.int .i64 38))) 2 (.flat (.int .i64 28))) 3 (.flat (.string Yb1)))) 112 4 (upd (upd (upd (upd (lget [(.flat (.int .i64 0)), (.flat (.int .i64 0)), (.flat (.int .i64 0)), (.flat (.string ⟨#[]⟩))]) 0 (.flat (.int .i64 0))) 1 (.flat (.int .i64 39))) 2 (.flat (.int .i64 29))) 3 (.flat (.string Yb1)))) 116 4 (upd (upd (upd (upd (lget [(.flat (.int .i64 0)), (.flat (.int .i64 0)), (.flat (.int .i64 0)), (.flat (.string ⟨#[]⟩))]) 0 (.flat (.int .i64 0))) 1 (.flat (.int .i64 42))) 2 (.flat (.int .i64 30))) 3 (.flat (.string Yb1)))) 120 4 (upd (upd (upd (upd (lget [(.flat (.int .i64 0)), (.flat (.int .i64 0)), (.flat (.int .i64 0)), (.flat (.string ⟨#[]⟩))]) 0 (.flat (.int .i64 0))) 1 (.flat (.int .i64 43))) 2 (.flat (.int .i64 31))) 3 (.flat (.string Yb1)))) 124 4 (upd (upd (upd (upd (lget [(.flat (.int .i64 0)), (.flat (.int .i64 0)), (.flat (.int .i64 0)), (.flat (.string ⟨#[]⟩))]) 0 (.flat (.int .i64 0))) 1 (.flat (.int .i64 48))) 2 (.flat (.int .i64 32))) 3 (.flat (.string Yb5)))) 128 4 (upd (upd (upd (upd (lget [(.flat (.int .i64 0)), (.flat (.int .i64 0)), (.flat (.int .i64 0)), (.flat (.string ⟨#[]⟩))]) 0 (.flat (.int .i64 0))) 1 (.flat (.int .i64 50))) 2 (.flat (.int .i64 33))) 3 (.flat (.string Yb5)))) 132 4 (upd (upd (upd (upd (lget [(.flat (.int .i64 0)), (.flat (.int .i64 0)), (.flat (.int .i64 0)), (.flat (.string ⟨#[]⟩))]) 0 (.flat (.int .i64 0))) 1 (.flat (.int .i64 52))) 2 (.flat (.int .i64 34))) 3 (.flat (.string Yb5)))) 136 4 (upd (upd (upd (upd (lget [(.flat (.int .i64 0)), (.flat (.int .i64 0)), (.flat (.int .i64 0)), (.flat (.string ⟨#[]⟩))]) 0 (.flat (.int .i64 0))) 1 (.flat (.int .i64 54))) 2 (.flat (.int .i64 35))) 3 (.flat (.string Yb5))), 59, false⟩ fun b2 m1 => k (.sl b2 0 35 (.ex 35)) m1

def G30 := Gs [] [.a] F30

def E31 : Env := ext E30 30 G30

theorem S31 (w0 : World) (hW : TabH w0) : SP w0 E31 := sg0 (S30 w0 hW) Tryd.func30 Tryd.call30 (by kernel_rfl) false (fun _ _ => by kernel_rfl)

/-- pianola/pianolaref3.plain -/
def F31  (m : Mem) (k : AV → Mem → Prop) : Prop :=
  newK m ⟨108, splice (splice (splice (splice (splice (splice (splice (splice (splice (splice (splice (splice (splice (splice (splice (splice (splice (splice (splice (splice (splice (splice (splice (splice (splice (splice (splice (Z108) 0 4 (upd (upd (upd (upd (lget [(.flat (.int .i64 0)), (.flat (.int .i64 0)), (.flat (.int .i64 0)), (.flat (.string ⟨#[]⟩))]) 0 (.flat (.int .i64 2))) 1 (.flat (.int .i64 0))) 2 (.flat (.int .i64 40))) 3 (.flat (.string Yb6)))) 4 4 (upd (upd (upd (upd (lget [(.flat (.int .i64 0)), (.flat (.int .i64 0)), (.flat (.int .i64 0)), (.flat (.string ⟨#[]⟩))]) 0 (.flat (.int .i64 3))) 1 (.flat (.int .i64 0))) 2 (.flat (.int .i64 41))) 3 (.flat (.string Yb6)))) 8 4 (upd (upd (upd (upd (lget [(.flat (.int .i64 0)), (.flat (.int .i64 0)), (.flat (.int .i64 0)), (.flat (.string ⟨#[]⟩))]) 0 (.flat (.int .i64 4))) 1 (.flat (.int .i64 0))) 2 (.flat (.int .i64 42))) 3 (.flat (.string Yb7)))) 12 4 (upd (upd (upd (upd (lget [(.flat (.int .i64 0)), (.flat (.int .i64 0)), (.flat (.int .i64 0)), (.flat (.string ⟨#[]⟩))]) 0 (.flat (.int .i64 5))) 1 (.flat (.int .i64 0))) 2 (.flat (.int .i64 43))) 3 (.flat (.string Yb7)))) 16 4 (upd (upd (upd (upd (lget [(.flat (.int .i64 0)), (.flat (.int .i64 0)), (.flat (.int .i64 0)), (.flat (.string ⟨#[]⟩))]) 0 (.flat (.int .i64 6))) 1 (.flat (.int .i64 0))) 2 (.flat (.int .i64 44))) 3 (.flat (.string Yb8)))) 20 4 (upd (upd (upd (upd (lget [(.flat (.int .i64 0)), (.flat (.int .i64 0)), (.flat (.int .i64 0)), (.flat (.string ⟨#[]⟩))]) 0 (.flat (.int .i64 7))) 1 (.flat (.int .i64 0))) 2 (.flat (.int .i64 45))) 3 (.flat (.string Yb8)))) 24 4 (upd (upd (upd (upd (lget [(.flat (.int .i64 0)), (.flat (.int .i64 0)), (.flat (.int .i64 0)), (.flat (.string ⟨#[]⟩))]) 0 (.flat (.int .i64 8))) 1 (.flat (.int .i64 0))) 2 (.flat (.int .i64 46))) 3 (.flat (.string Yb7)))) 28 4 (upd (upd (upd (upd (lget [(.flat (.int .i64 0)), (.flat (.int .i64 0)), (.flat (.int .i64 0)), (.flat (.string ⟨#[]⟩))]) 0 (.flat (.int .i64 9))) 1 (.flat (.int .i64 0))) 2 (.flat (.int .i64 47))) 3 (.flat (.string Yb7)))) 32 4 (upd (upd (upd (upd (lget [(.flat (.int .i64 0)), (.flat (.int .i64 0)), (.flat (.int .i64 0)), (.flat (.string ⟨#[]⟩))]) 0 (.flat (.int .i64 10))) 1 (.flat (.int .i64 0))) 2 (.flat (.int .i64 48))) 3 (.flat (.string Yb7)))) 36 4 (upd (upd (upd (upd (lget [(.flat (.int .i64 0)), (.flat (.int .i64 0)), (.flat (.int .i64 0)), (.flat (.string ⟨#[]⟩))]) 0 (.flat (.int .i64 11))) 1 (.flat (.int .i64 0))) 2 (.flat (.int .i64 49))) 3 (.flat (.string Yb7)))) 40 4 (upd (upd (upd (upd (lget [(.flat (.int .i64 0)), (.flat (.int .i64 0)), (.flat (.int .i64 0)), (.flat (.string ⟨#[]⟩))]) 0 (.flat (.int .i64 12))) 1 (.flat (.int .i64 0))) 2 (.flat (.int .i64 50))) 3 (.flat (.string Yb7)))) 44 4 (upd (upd (upd (upd (lget [(.flat (.int .i64 0)), (.flat (.int .i64 0)), (.flat (.int .i64 0)), (.flat (.string ⟨#[]⟩))]) 0 (.flat (.int .i64 13))) 1 (.flat (.int .i64 0))) 2 (.flat (.int .i64 51))) 3 (.flat (.string Yb7)))) 48 4 (upd (upd (upd (upd (lget [(.flat (.int .i64 0)), (.flat (.int .i64 0)), (.flat (.int .i64 0)), (.flat (.string ⟨#[]⟩))]) 0 (.flat (.int .i64 14))) 1 (.flat (.int .i64 0))) 2 (.flat (.int .i64 52))) 3 (.flat (.string Yb7)))) 52 4 (upd (upd (upd (upd (lget [(.flat (.int .i64 0)), (.flat (.int .i64 0)), (.flat (.int .i64 0)), (.flat (.string ⟨#[]⟩))]) 0 (.flat (.int .i64 15))) 1 (.flat (.int .i64 0))) 2 (.flat (.int .i64 53))) 3 (.flat (.string Yb9)))) 56 4 (upd (upd (upd (upd (lget [(.flat (.int .i64 0)), (.flat (.int .i64 0)), (.flat (.int .i64 0)), (.flat (.string ⟨#[]⟩))]) 0 (.flat (.int .i64 17))) 1 (.flat (.int .i64 0))) 2 (.flat (.int .i64 62))) 3 (.flat (.string (⟨#[]⟩ : ByteArray))))) 60 4 (upd (upd (upd (upd (lget [(.flat (.int .i64 0)), (.flat (.int .i64 0)), (.flat (.int .i64 0)), (.flat (.string ⟨#[]⟩))]) 0 (.flat (.int .i64 32))) 1 (.flat (.int .i64 0))) 2 (.flat (.int .i64 66))) 3 (.flat (.string Yb7)))) 64 4 (upd (upd (upd (upd (lget [(.flat (.int .i64 0)), (.flat (.int .i64 0)), (.flat (.int .i64 0)), (.flat (.string ⟨#[]⟩))]) 0 (.flat (.int .i64 33))) 1 (.flat (.int .i64 0))) 2 (.flat (.int .i64 67))) 3 (.flat (.string Yb7)))) 68 4 (upd (upd (upd (upd (lget [(.flat (.int .i64 0)), (.flat (.int .i64 0)), (.flat (.int .i64 0)), (.flat (.string ⟨#[]⟩))]) 0 (.flat (.int .i64 35))) 1 (.flat (.int .i64 0))) 2 (.flat (.int .i64 68))) 3 (.flat (.string Yb7)))) 72 4 (upd (upd (upd (upd (lget [(.flat (.int .i64 0)), (.flat (.int .i64 0)), (.flat (.int .i64 0)), (.flat (.string ⟨#[]⟩))]) 0 (.flat (.int .i64 36))) 1 (.flat (.int .i64 0))) 2 (.flat (.int .i64 69))) 3 (.flat (.string Yb7)))) 76 4 (upd (upd (upd (upd (lget [(.flat (.int .i64 0)), (.flat (.int .i64 0)), (.flat (.int .i64 0)), (.flat (.string ⟨#[]⟩))]) 0 (.flat (.int .i64 37))) 1 (.flat (.int .i64 0))) 2 (.flat (.int .i64 70))) 3 (.flat (.string Yb7)))) 80 4 (upd (upd (upd (upd (lget [(.flat (.int .i64 0)), (.flat (.int .i64 0)), (.flat (.int .i64 0)), (.flat (.string ⟨#[]⟩))]) 0 (.flat (.int .i64 40))) 1 (.flat (.int .i64 0))) 2 (.flat (.int .i64 71))) 3 (.flat (.string Yb7)))) 84 4 (upd (upd (upd (upd (lget [(.flat (.int .i64 0)), (.flat (.int .i64 0)), (.flat (.int .i64 0)), (.flat (.string ⟨#[]⟩))]) 0 (.flat (.int .i64 41))) 1 (.flat (.int .i64 0))) 2 (.flat (.int .i64 72))) 3 (.flat (.string Yb7)))) 88 4 (upd (upd (upd (upd (lget [(.flat (.int .i64 0)), (.flat (.int .i64 0)), (.flat (.int .i64 0)), (.flat (.string ⟨#[]⟩))]) 0 (.flat (.int .i64 43))) 1 (.flat (.int .i64 0))) 2 (.flat (.int .i64 73))) 3 (.flat (.string Yb7)))) 92 4 (upd (upd (upd (upd (lget [(.flat (.int .i64 0)), (.flat (.int .i64 0)), (.flat (.int .i64 0)), (.flat (.string ⟨#[]⟩))]) 0 (.flat (.int .i64 47))) 1 (.flat (.int .i64 0))) 2 (.flat (.int .i64 76))) 3 (.flat (.string (⟨#[]⟩ : ByteArray))))) 96 4 (upd (upd (upd (upd (lget [(.flat (.int .i64 0)), (.flat (.int .i64 0)), (.flat (.int .i64 0)), (.flat (.string ⟨#[]⟩))]) 0 (.flat (.int .i64 48))) 1 (.flat (.int .i64 0))) 2 (.flat (.int .i64 74))) 3 (.flat (.string Yb7)))) 100 4 (upd (upd (upd (upd (lget [(.flat (.int .i64 0)), (.flat (.int .i64 0)), (.flat (.int .i64 0)), (.flat (.string ⟨#[]⟩))]) 0 (.flat (.int .i64 51))) 1 (.flat (.int .i64 0))) 2 (.flat (.int .i64 77))) 3 (.flat (.string (⟨#[]⟩ : ByteArray))))) 104 4 (upd (upd (upd (upd (lget [(.flat (.int .i64 0)), (.flat (.int .i64 0)), (.flat (.int .i64 0)), (.flat (.string ⟨#[]⟩))]) 0 (.flat (.int .i64 56))) 1 (.flat (.int .i64 0))) 2 (.flat (.int .i64 75))) 3 (.flat (.string Yb7))), 59, false⟩ fun b2 m1 => k (.sl b2 0 27 (.ex 27)) m1

def G31 := Gs [] [.a] F31

def E32 : Env := ext E31 31 G31

theorem S32 (w0 : World) (hW : TabH w0) : SP w0 E32 := sg0 (S31 w0 hW) Tryd.func31 Tryd.call31 (by kernel_rfl) false (fun _ _ => by kernel_rfl)

/-- pianola/pianolaref3.others -/
def F32  (m : Mem) (k : AV → Mem → Prop) : Prop :=
  newK m ⟨60, splice (splice (splice (splice (splice (splice (splice (splice (splice (splice (splice (splice (splice (splice (splice (Z60) 0 4 (upd (upd (upd (upd (lget [(.flat (.int .i64 0)), (.flat (.int .i64 0)), (.flat (.int .i64 0)), (.flat (.string ⟨#[]⟩))]) 0 (.flat (.int .i64 1))) 1 (.flat (.int .i64 0))) 2 (.flat (.int .i64 36))) 3 (.flat (.string Yb8)))) 4 4 (upd (upd (upd (upd (lget [(.flat (.int .i64 0)), (.flat (.int .i64 0)), (.flat (.int .i64 0)), (.flat (.string ⟨#[]⟩))]) 0 (.flat (.int .i64 1))) 1 (.flat (.int .i64 1))) 2 (.flat (.int .i64 37))) 3 (.flat (.string Yb8)))) 8 4 (upd (upd (upd (upd (lget [(.flat (.int .i64 0)), (.flat (.int .i64 0)), (.flat (.int .i64 0)), (.flat (.string ⟨#[]⟩))]) 0 (.flat (.int .i64 1))) 1 (.flat (.int .i64 16))) 2 (.flat (.int .i64 38))) 3 (.flat (.string Yb8)))) 12 4 (upd (upd (upd (upd (lget [(.flat (.int .i64 0)), (.flat (.int .i64 0)), (.flat (.int .i64 0)), (.flat (.string ⟨#[]⟩))]) 0 (.flat (.int .i64 1))) 1 (.flat (.int .i64 17))) 2 (.flat (.int .i64 39))) 3 (.flat (.string Yb8)))) 16 4 (upd (upd (upd (upd (lget [(.flat (.int .i64 0)), (.flat (.int .i64 0)), (.flat (.int .i64 0)), (.flat (.string ⟨#[]⟩))]) 0 (.flat (.int .i64 16))) 1 (.flat (.int .i64 0))) 2 (.flat (.int .i64 54))) 3 (.flat (.string Yb10)))) 20 4 (upd (upd (upd (upd (lget [(.flat (.int .i64 0)), (.flat (.int .i64 0)), (.flat (.int .i64 0)), (.flat (.string ⟨#[]⟩))]) 0 (.flat (.int .i64 16))) 1 (.flat (.int .i64 4))) 2 (.flat (.int .i64 55))) 3 (.flat (.string Yb10)))) 24 4 (upd (upd (upd (upd (lget [(.flat (.int .i64 0)), (.flat (.int .i64 0)), (.flat (.int .i64 0)), (.flat (.string ⟨#[]⟩))]) 0 (.flat (.int .i64 16))) 1 (.flat (.int .i64 65))) 2 (.flat (.int .i64 56))) 3 (.flat (.string (⟨#[]⟩ : ByteArray))))) 28 4 (upd (upd (upd (upd (lget [(.flat (.int .i64 0)), (.flat (.int .i64 0)), (.flat (.int .i64 0)), (.flat (.string ⟨#[]⟩))]) 0 (.flat (.int .i64 16))) 1 (.flat (.int .i64 66))) 2 (.flat (.int .i64 57))) 3 (.flat (.string (⟨#[]⟩ : ByteArray))))) 32 4 (upd (upd (upd (upd (lget [(.flat (.int .i64 0)), (.flat (.int .i64 0)), (.flat (.int .i64 0)), (.flat (.string ⟨#[]⟩))]) 0 (.flat (.int .i64 16))) 1 (.flat (.int .i64 70))) 2 (.flat (.int .i64 58))) 3 (.flat (.string (⟨#[]⟩ : ByteArray))))) 36 4 (upd (upd (upd (upd (lget [(.flat (.int .i64 0)), (.flat (.int .i64 0)), (.flat (.int .i64 0)), (.flat (.string ⟨#[]⟩))]) 0 (.flat (.int .i64 16))) 1 (.flat (.int .i64 72))) 2 (.flat (.int .i64 59))) 3 (.flat (.string (⟨#[]⟩ : ByteArray))))) 40 4 (upd (upd (upd (upd (lget [(.flat (.int .i64 0)), (.flat (.int .i64 0)), (.flat (.int .i64 0)), (.flat (.string ⟨#[]⟩))]) 0 (.flat (.int .i64 16))) 1 (.flat (.int .i64 88))) 2 (.flat (.int .i64 60))) 3 (.flat (.string (⟨#[]⟩ : ByteArray))))) 44 4 (upd (upd (upd (upd (lget [(.flat (.int .i64 0)), (.flat (.int .i64 0)), (.flat (.int .i64 0)), (.flat (.string ⟨#[]⟩))]) 0 (.flat (.int .i64 16))) 1 (.flat (.int .i64 96))) 2 (.flat (.int .i64 61))) 3 (.flat (.string (⟨#[]⟩ : ByteArray))))) 48 4 (upd (upd (upd (upd (lget [(.flat (.int .i64 0)), (.flat (.int .i64 0)), (.flat (.int .i64 0)), (.flat (.string ⟨#[]⟩))]) 0 (.flat (.int .i64 28))) 1 (.flat (.int .i64 2))) 2 (.flat (.int .i64 63))) 3 (.flat (.string Yb1)))) 52 4 (upd (upd (upd (upd (lget [(.flat (.int .i64 0)), (.flat (.int .i64 0)), (.flat (.int .i64 0)), (.flat (.string ⟨#[]⟩))]) 0 (.flat (.int .i64 28))) 1 (.flat (.int .i64 32))) 2 (.flat (.int .i64 64))) 3 (.flat (.string Yb3)))) 56 4 (upd (upd (upd (upd (lget [(.flat (.int .i64 0)), (.flat (.int .i64 0)), (.flat (.int .i64 0)), (.flat (.string ⟨#[]⟩))]) 0 (.flat (.int .i64 28))) 1 (.flat (.int .i64 33))) 2 (.flat (.int .i64 65))) 3 (.flat (.string Yb3))), 59, false⟩ fun b2 m1 => k (.sl b2 0 15 (.ex 15)) m1

def G32 := Gs [] [.a] F32

def E21 : Env := ext E32 32 G32

theorem S21 (w0 : World) (hW : TabH w0) : SP w0 E21 := sg0 (S32 w0 hW) Tryd.func32 Tryd.call32 (by kernel_rfl) false (fun _ _ => by kernel_rfl)

def R21_10 (x_0 : Int) (b_2 o_2 : Nat) (x_4 : Int) (v_5 : AV) (x_6 : Int) (m : Mem) (kn : Int → Mem → Prop) (k2 : Mem → Prop) (kr : Bool → Mem → Prop) : Prop :=
  klen v_5 fun x9 => kif (decide (x_6 < x9)) (ksl v_5 fun b10 o11 l12 p13 => kif (decide (0 ≤ x_6) && decide (x_6 < l12)) (ldI .i64 m b10 (o11 + (x_6).toNat * 4 + 2) fun x14 => kif (x14 == x_0) (ksl v_5 fun b15 o16 l17 p18 => kif (decide (0 ≤ x_6) && decide (x_6 < l17)) (ldG 4 m b15 (o16 + (x_6).toNat * 4) fun c19 => stG 4 m b_2 o_2 c19 fun m20 => kr true m20) False) (kn (IntKind.wrap .i64 (x_6 + 1)) m)) False) (k2  m)

def L21_10 (x_0 : Int) (b_2 o_2 : Nat) (x_4 : Int) (v_5 : AV) : Nat → Int → Mem → (Mem → Prop) → (Bool → Mem → Prop) → Prop
  | 0, _,  _, _, _ => bump False
  | N + 1, x_6,  m, k2, kr => R21_10 x_0 b_2 o_2 x_4 v_5 x_6 m (fun x_6' m' => L21_10 x_0 b_2 o_2 x_4 v_5 N x_6' m' k2 kr) k2 kr

def P21_9102 (x_0 : Int) (b_2 o_2 : Nat) (x_4 : Int) (v_5 : AV) (m : Mem) (kn : Mem → Prop) (kr : Bool → Mem → Prop) : Prop :=
  ∃ N24, L21_10 x_0 b_2 o_2 x_4 v_5 N24 0 m (fun m21 => kn  m21) (fun x22 m23 => kr x22 m23)

def R21_2 (x_0 : Int) (b_2 o_2 : Nat) (x_4 : Int) (m : Mem) (kn : Int → Mem → Prop) (k0 : Mem → Prop) (kr : Bool → Mem → Prop) : Prop :=
  kif (decide (x_4 < 3)) (F30  m fun v3 m4 => kif (x_4 == 1) (F31  m4 fun v5 m6 => P21_9102 x_0 b_2 o_2 x_4 v5 m6 (fun m25 => kn (IntKind.wrap .i64 (x_4 + 1)) m25) (fun x26 m27 => kr x26 m27)) (kif (x_4 == 2) (F32  m4 fun v7 m8 => P21_9102 x_0 b_2 o_2 x_4 v7 m8 (fun m28 => kn (IntKind.wrap .i64 (x_4 + 1)) m28) (fun x29 m30 => kr x29 m30)) (P21_9102 x_0 b_2 o_2 x_4 v3 m4 (fun m31 => kn (IntKind.wrap .i64 (x_4 + 1)) m31) (fun x32 m33 => kr x32 m33)))) (k0  m)

def L21_2 (x_0 : Int) (b_2 o_2 : Nat) : Nat → Int → Mem → (Mem → Prop) → (Bool → Mem → Prop) → Prop
  | 0, _,  _, _, _ => bump False
  | N + 1, x_4,  m, k0, kr => R21_2 x_0 b_2 o_2 x_4 m (fun x_4' m' => L21_2 x_0 b_2 o_2 N x_4' m' k0 kr) k0 kr

/-- pianola/pianolaref3.find -/
def F21 (x_0 : Int) (m : Mem) (k : (Nat → AV) → Bool → Mem → Prop) : Prop :=
  newK m ⟨4, lget [(.flat (.int .i64 0)), (.flat (.int .i64 0)), (.flat (.int .i64 0)), (.flat (.string ⟨#[]⟩))], 59, false⟩ fun b2 m1 => ∃ N37, L21_2 x_0 b2 0 N37 0 m1 (fun m34 => stG 4 m34 b2 0 (lget [(.flat (.int .i64 0)), (.flat (.int .i64 0)), (.flat (.int .i64 0)), (.flat (.string ⟨#[]⟩))]) fun m38 => ldG 4 m38 b2 0 fun c40 => (Keeps m m38 ∧ (InDomG 4 m c40 ∧ True) ∧ k c40 false m)) (fun x35 m36 => ldG 4 m36 b2 0 fun c39 => (Keeps m m36 ∧ (InDomG 4 m c39 ∧ True) ∧ k c39 x35 m))

def G21 := Gs [.i .i64] [.g 4, .b] F21

def D21_2 : LpD := ⟨[0, 2], [.i .i64, .p], [4], [.i .i64], [⟨.exit 0, [], [], [2]⟩, ⟨.ret, [3], [.b], [2]⟩], R21_2, L21_2⟩

def D21_9102 : PcD := ⟨[0, 2, 4, 5], [.i .i64, .p, .i .i64, .a], [⟨.normal, [], [], [0, 2, 4]⟩, ⟨.ret, [3], [.b], [2]⟩], P21_9102⟩

def D21_10 : LpD := ⟨[0, 2, 4, 5], [.i .i64, .p, .i .i64, .a], [6], [.i .i64], [⟨.exit 2, [], [], [0, 2, 4]⟩, ⟨.ret, [3], [.b], [2]⟩], R21_10, L21_10⟩

def Lam21 : LEnv := lamOf [(2, lpK D21_2), (10, lpK D21_10)] [] [9102] [(9102, pcK D21_9102)]

theorem lok21_10 : LoopOK Tryd.prog E21 Lam21 (nthL (bodyOf Tryd.f21) 1) := lp_ok D21_10 (fun _ _ _ => by kernel_rfl) (by kernel_rfl) (fun _ _ _ _ _ _ _ _ _ => by kernel_rfl) (fun _ _ _ _ _ _ _ _ _ _ => by kernel_rfl) (fun _ _ _ _ _ _ _ _ _ => by kernel_rfl)

theorem pok21_9102 : PieceOK Tryd.prog E21 Lam21 (nthP Lam21 (bodyOf Tryd.f21) 0) := pc_ok D21_9102 (fun _ _ _ => by kernel_rfl) (by kernel_rfl) (fun _ _ _ _ _ _ _ => by kernel_rfl)

theorem lok21_2 : LoopOK Tryd.prog E21 Lam21 (nthL (bodyOf Tryd.f21) 0) := lp_ok D21_2 (fun _ _ _ => by kernel_rfl) (by kernel_rfl) (fun _ _ _ _ _ _ _ => by kernel_rfl) (fun _ _ _ _ _ _ _ _ => by kernel_rfl) (fun _ _ _ _ _ _ _ => by kernel_rfl)

def E22 : Env := ext E21 21 G21

theorem S22 (w0 : World) (hW : TabH w0) : SP w0 E22 := sg (S21 w0 hW) Tryd.func21 Tryd.call21 (Λ := Lam21) 2 ⟨lok21_2, lok21_10, trivial⟩ 1 ⟨pok21_9102, trivial⟩ (by kernel_rfl) true (fun _ _ _ => by kernel_rfl)

def R22_2 (x_0 : ByteArray) (x_1 : Int) (x_5 : Int) (m : Mem) (kn : Int → Mem → Prop) (k0 : Mem → Prop) (kr : Bool → Mem → Prop) : Prop :=
  kif (decide (x_5 < ((x_0.size : Nat) : Int))) (kif (decide (0 ≤ x_5) && decide (x_5 < x_0.size)) (kif (((x_0.data.getD (x_5).toNat 0).toNat) == x_1) (kr true m) (kn (IntKind.wrap .i64 (x_5 + 1)) m)) False) (k0  m)

def L22_2 (x_0 : ByteArray) (x_1 : Int) : Nat → Int → Mem → (Mem → Prop) → (Bool → Mem → Prop) → Prop
  | 0, _,  _, _, _ => bump False
  | N + 1, x_5,  m, k0, kr => R22_2 x_0 x_1 x_5 m (fun x_5' m' => L22_2 x_0 x_1 N x_5' m' k0 kr) k0 kr

/-- pianola/pianolaref3.has -/
def F22 (x_0 : ByteArray) (x_1 : Int) (m : Mem) (k : Bool → Mem → Prop) : Prop :=
  ∃ N4, L22_2 x_0 x_1 N4 0 m (fun m1 => (Keeps m m1 ∧ k false m)) (fun x2 m3 => (Keeps m m3 ∧ k x2 m))

def G22 := Gs [.s, .i .u8] [.b] F22

def D22_2 : LpD := ⟨[0, 1], [.s, .i .u8], [5], [.i .i64], [⟨.exit 0, [], [], []⟩, ⟨.ret, [4], [.b], []⟩], R22_2, L22_2⟩

def Lam22 : LEnv := lamOf [(2, lpK D22_2)] [] [] []

theorem lok22_2 : LoopOK Tryd.prog E22 Lam22 (nthL (bodyOf Tryd.f22) 0) := lp_ok D22_2 (fun _ _ _ => by kernel_rfl) (by kernel_rfl) (fun _ _ _ _ _ _ => by kernel_rfl) (fun _ _ _ _ _ _ _ => by kernel_rfl) (fun _ _ _ _ _ _ => by kernel_rfl)

def E23 : Env := ext E22 22 G22

theorem S23 (w0 : World) (hW : TabH w0) : SP w0 E23 := sg (S22 w0 hW) Tryd.func22 Tryd.call22 (Λ := Lam22) 1 ⟨lok22_2, trivial⟩ 0 trivial (by kernel_rfl) true (fun _ _ _ _ => by kernel_rfl)

/-- pianola/pianolaref3.small -/
def F23 (x_0 : Int) (x_1 : Bool) (m : Mem) (k : Bool → Mem → Prop) : Prop :=
  kif (x_0 == 0) ((Keeps m m ∧ k true m)) (kif x_1 (kif (decide (x_0 > 0)) ((Keeps m m ∧ k (decide (x_0 < 32)) m)) ((Keeps m m ∧ k false m))) ((Keeps m m ∧ k false m)))

def G23 := Gs [.i .i64, .b] [.b] F23

def E14 : Env := ext E23 23 G23

theorem S14 (w0 : World) (hW : TabH w0) : SP w0 E14 := sg0 (S23 w0 hW) Tryd.func23 Tryd.call23 (by kernel_rfl) true (fun _ _ _ _ => by kernel_rfl)

def P14_10102 (b_1 o_1 : Nat) (x_5 : ByteArray) (x_6 : Int) (m : Mem) (kr : Bool → Mem → Prop) : Prop :=
  ∃ Fr15 : Nat → Prop, Fr15 b_1 ∧ (ldI .i64 m b_1 (o_1 + 1) fun x16 => F22 x_5 115 m fun x17 m18 => KeepsIn Fr15 m m18 ∧ (F23 x16 x17 m18 fun x19 m20 => KeepsIn Fr15 m18 m20 ∧ (kif x19 (Fr15 b_1 ∧ (ldI .i64 m20 b_1 (o_1 + 2) fun x21 => F22 x_5 116 m20 fun x22 m23 => KeepsIn Fr15 m20 m23 ∧ (F23 x21 x22 m23 fun x24 m25 => KeepsIn Fr15 m23 m25 ∧ (kif x24 (Fr15 b_1 ∧ (ldI .i64 m25 b_1 (o_1 + 3) fun x26 => F22 x_5 100 m25 fun x27 m28 => KeepsIn Fr15 m25 m28 ∧ (F23 x26 x27 m28 fun x29 m30 => KeepsIn Fr15 m28 m30 ∧ (kif x29 (Fr15 b_1 ∧ (ldI .i64 m30 b_1 (o_1 + 4) fun x31 => F22 x_5 104 m30 fun x32 m33 => KeepsIn Fr15 m30 m33 ∧ (F23 x31 x32 m33 fun x34 m35 => KeepsIn Fr15 m33 m35 ∧ (kif x34 (Fr15 b_1 ∧ (ldI .u32 m35 b_1 (o_1 + 5) fun x36 => kr (decide (x36 ≤ x_6)) m35)) (kr false m35))))) (kr false m30))))) (kr false m25))))) (kr false m20))))

/-- pianola/pianolaref3.Right -/
def F14 (c_0 : Nat → AV) (m : Mem) (k : Bool → Mem → Prop) : Prop :=
  newK m ⟨6, c_0, 26, false⟩ fun b2 m1 => ldI .i64 m1 b2 0 fun x3 => F21 x3 m1 fun c4 x5 m6 => newK m6 ⟨4, lget [(.flat (.int .i64 0)), (.flat (.int .i64 0)), (.flat (.int .i64 0)), (.flat (.string ⟨#[]⟩))], 59, false⟩ fun b8 m7 => stG 4 m7 b8 0 c4 fun m9 => kif (!x5) ((Keeps m m9 ∧ k false m)) (ldS m9 b8 3 fun x10 => F22 x10 105 m9 fun x11 m12 => kif x11 (P14_10102 b2 0 x10 65535 m12 (fun x37 m38 => (Keeps m m38 ∧ k x37 m))) (F22 x10 106 m12 fun x13 m14 => kif x13 (P14_10102 b2 0 x10 67108863 m14 (fun x39 m40 => (Keeps m m40 ∧ k x39 m))) (P14_10102 b2 0 x10 0 m14 (fun x41 m42 => (Keeps m m42 ∧ k x41 m)))))

def G14 := Gs [.g 6] [.b] F14

def D14_10102 : PcD := ⟨[1, 5, 6], [.p, .s, .i .u32], [⟨.ret, [2], [.b], []⟩], P14_10102⟩

def Lam14 : LEnv := lamOf [] [10] [10102] [(10102, pcK D14_10102)]

theorem pok14_10102 : PieceOK Tryd.prog E14 Lam14 (nthP Lam14 (bodyOf Tryd.f14) 0) := pc_ok D14_10102 (fun _ _ _ => by kernel_rfl) (by kernel_rfl) (fun _ _ _ _ _ _ => by kernel_rfl)

def E15 : Env := ext E14 14 G14

theorem S15 (w0 : World) (hW : TabH w0) : SP w0 E15 := sg (S14 w0 hW) Tryd.func14 Tryd.call14 (Λ := Lam14) 0 trivial 1 ⟨pok14_10102, trivial⟩ (by kernel_rfl) true (fun _ _ _ => by kernel_rfl)

/-- pianola/pianolakeep.only -/
def F15 (c_0 : Nat → AV) (x_1 : Int) (m : Mem) (k : (Nat → AV) → Mem → Prop) : Prop :=
  newK m ⟨6, c_0, 26, false⟩ fun b2 m1 => newK m1 ⟨6, Z6, 26, false⟩ fun b4 m3 => ldI .i64 m3 b2 0 fun x5 => newK m3 ⟨6, Z6, 26, false⟩ fun b7 m6 => stG 6 m6 b7 0 (upd (Z6) 0 (.flat (.int .i64 x5))) fun m8 => kif (x_1 == 0) (stC m8 b7 1 (.flat (.int .i64 1)) fun m9 => ldG 6 m9 b7 0 fun c16 => stG 6 m9 b4 0 c16 fun m17 => ldG 6 m17 b4 0 fun c28 => (Keeps m m17 ∧ InDomG 6 m c28 ∧ k c28 m)) (kif (x_1 == 1) (stC m8 b7 2 (.flat (.int .i64 1)) fun m10 => ldG 6 m10 b7 0 fun c18 => stG 6 m10 b4 0 c18 fun m19 => ldG 6 m19 b4 0 fun c29 => (Keeps m m19 ∧ InDomG 6 m c29 ∧ k c29 m)) (kif (x_1 == 2) (stC m8 b7 3 (.flat (.int .i64 1)) fun m11 => ldG 6 m11 b7 0 fun c20 => stG 6 m11 b4 0 c20 fun m21 => ldG 6 m21 b4 0 fun c30 => (Keeps m m21 ∧ InDomG 6 m c30 ∧ k c30 m)) (kif (x_1 == 3) (stC m8 b7 4 (.flat (.int .i64 1)) fun m12 => ldG 6 m12 b7 0 fun c22 => stG 6 m12 b4 0 c22 fun m23 => ldG 6 m23 b4 0 fun c31 => (Keeps m m23 ∧ InDomG 6 m c31 ∧ k c31 m)) (kif (x_1 == 4) (ldI .u32 m8 b2 5 fun x13 => stC m8 b7 5 (.flat (.int .u32 x13)) fun m14 => ldG 6 m14 b7 0 fun c24 => stG 6 m14 b4 0 c24 fun m25 => ldG 6 m25 b4 0 fun c32 => (Keeps m m25 ∧ InDomG 6 m c32 ∧ k c32 m)) (stC m8 b7 5 (.flat (.int .u32 1)) fun m15 => ldG 6 m15 b7 0 fun c26 => stG 6 m15 b4 0 c26 fun m27 => ldG 6 m27 b4 0 fun c33 => (Keeps m m27 ∧ InDomG 6 m c33 ∧ k c33 m))))))

def G15 := Gs [.g 6, .i .i64] [.g 6] F15

def E7 : Env := ext E15 15 G15

theorem S7 (w0 : World) (hW : TabH w0) : SP w0 E7 := sg0 (S15 w0 hW) Tryd.func15 Tryd.call15 (by kernel_rfl) true (fun _ _ _ _ => by kernel_rfl)

def P7_18102 (b_4 o_4 : Nat) (b_5 o_5 : Nat) (x_6 : Int) (b_7 o_7 : Nat) (m : Mem) (kn : Mem → Prop) : Prop :=
  ldG 6 m b_5 o_5 fun c33 => F15 c33 x_6 m fun c34 m35 => F14 c34 m35 fun x36 m37 => kif (!x36) (ldG 6 m37 b_7 o_7 fun c38 => stG 6 m37 b_5 o_5 c38 fun m39 => kn  m39) (kn  m37)

def R7_3 (b_4 o_4 : Nat) (b_5 o_5 : Nat) (x_6 : Int) (m : Mem) (kn : Int → Mem → Prop) (k0 : Mem → Prop) : Prop :=
  kif (decide (x_6 < 6)) (ldG 6 m b_5 o_5 fun c22 => newK m ⟨6, Z6, 26, false⟩ fun b24 m23 => stG 6 m23 b24 0 c22 fun m25 => kif (x_6 == 0) (stC m25 b24 1 (.flat (.int .i64 0)) fun m26 => P7_18102 b_4 o_4 b_5 o_5 x_6 b24 0 m26 (fun m40 => kn (IntKind.wrap .i64 (x_6 + 1)) m40)) (kif (x_6 == 1) (stC m25 b24 2 (.flat (.int .i64 0)) fun m27 => P7_18102 b_4 o_4 b_5 o_5 x_6 b24 0 m27 (fun m41 => kn (IntKind.wrap .i64 (x_6 + 1)) m41)) (kif (x_6 == 2) (stC m25 b24 3 (.flat (.int .i64 0)) fun m28 => P7_18102 b_4 o_4 b_5 o_5 x_6 b24 0 m28 (fun m42 => kn (IntKind.wrap .i64 (x_6 + 1)) m42)) (kif (x_6 == 3) (stC m25 b24 4 (.flat (.int .i64 0)) fun m29 => P7_18102 b_4 o_4 b_5 o_5 x_6 b24 0 m29 (fun m43 => kn (IntKind.wrap .i64 (x_6 + 1)) m43)) (kif (x_6 == 4) (ldI .u32 m25 b24 5 fun x30 => stC m25 b24 5 (.flat (.int .u32 (bits .and .u32 x30 65535))) fun m31 => P7_18102 b_4 o_4 b_5 o_5 x_6 b24 0 m31 (fun m44 => kn (IntKind.wrap .i64 (x_6 + 1)) m44)) (stC m25 b24 5 (.flat (.int .u32 0)) fun m32 => P7_18102 b_4 o_4 b_5 o_5 x_6 b24 0 m32 (fun m45 => kn (IntKind.wrap .i64 (x_6 + 1)) m45))))))) (k0  m)

def L7_3 (b_4 o_4 : Nat) (b_5 o_5 : Nat) : Nat → Int → Mem → (Mem → Prop) → Prop
  | 0, _,  _, _ => bump False
  | N + 1, x_6,  m, k0 => R7_3 b_4 o_4 b_5 o_5 x_6 m (fun x_6' m' => L7_3 b_4 o_4 b_5 o_5 N x_6' m' k0) k0

/-- pianola/pianolakeep.Inst -/
def F7 (c_0 : Nat → AV) (x_1 : Int) (m : Mem) (k : (Nat → AV) → Mem → Prop) : Prop :=
  newK m ⟨7, c_0, 24, false⟩ fun b2 m1 => newK m1 ⟨6, Z6, 26, false⟩ fun b4 m3 => ∃ Fr5 : Nat → Prop, Fr5 b2 ∧ (ldI .i64 m3 b2 1 fun x6 => F13 x6 m3 fun x7 m8 => KeepsIn Fr5 m3 m8 ∧ (Fr5 b2 ∧ (ldI .i64 m8 b2 2 fun x9 => F13 x9 m8 fun x10 m11 => KeepsIn Fr5 m8 m11 ∧ (Fr5 b2 ∧ (ldI .i64 m11 b2 3 fun x12 => F13 x12 m11 fun x13 m14 => KeepsIn Fr5 m11 m14 ∧ (Fr5 b2 ∧ (ldI .i64 m14 b2 4 fun x15 => F8 x15 0 31 m14 fun x16 m17 => KeepsIn Fr5 m14 m17 ∧ (Fr5 b2 ∧ (ldI .u32 m17 b2 5 fun x18 => newK m17 ⟨6, Z6, 26, false⟩ fun b20 m19 => stG 6 m19 b20 0 (upd (upd (upd (upd (upd (upd (Z6) 0 (.flat (.int .i64 x_1))) 1 (.flat (.int .i64 x7))) 2 (.flat (.int .i64 x10))) 3 (.flat (.int .i64 x13))) 4 (.flat (.int .i64 x16))) 5 (.flat (.int .u32 (bits .and .u32 x18 67108863)))) fun m21 => ∃ N47, L7_3 b4 0 b20 0 N47 0 m21 (fun m46 => ldG 6 m46 b20 0 fun c48 => stG 6 m46 b4 0 c48 fun m49 => ldG 6 m49 b4 0 fun c50 => (Keeps m m49 ∧ InDomG 6 m c50 ∧ k c50 m)))))))))))

def G7 := Gs [.g 7, .i .i64] [.g 6] F7

def D7_3 : LpD := ⟨[4, 5], [.p, .p], [6], [.i .i64], [⟨.exit 0, [], [], [4, 5]⟩], R7_3, L7_3⟩

def D7_18102 : PcD := ⟨[4, 5, 6, 7], [.p, .p, .i .i64, .p], [⟨.normal, [], [], [4, 5, 6]⟩], P7_18102⟩

def Lam7 : LEnv := lamOf [(3, lpK D7_3)] [1] [18102] [(18102, pcK D7_18102)]

theorem pok7_18102 : PieceOK Tryd.prog E7 Lam7 (nthP Lam7 (bodyOf Tryd.f7) 0) := pc_ok D7_18102 (fun _ _ _ => by kernel_rfl) (by kernel_rfl) (fun _ _ _ _ _ _ _ _ _ => by kernel_rfl)

theorem lok7_3 : LoopOK Tryd.prog E7 Lam7 (nthL (bodyOf Tryd.f7) 0) := lp_ok D7_3 (fun _ _ _ => by kernel_rfl) (by kernel_rfl) (fun _ _ _ _ _ _ _ _ => by kernel_rfl) (fun _ _ _ _ _ _ _ _ _ => by kernel_rfl) (fun _ _ _ _ _ _ _ _ => by kernel_rfl)

def E4 : Env := ext E7 7 G7

theorem S4 (w0 : World) (hW : TabH w0) : SP w0 E4 := sg (S7 w0 hW) Tryd.func7 Tryd.call7 (Λ := Lam7) 1 ⟨lok7_3, trivial⟩ 1 ⟨pok7_18102, trivial⟩ (by kernel_rfl) true (fun _ _ _ _ => by kernel_rfl)

/-- pianola/pianolakeep.Any -/
def F4 (c_0 : Nat → AV) (m : Mem) (k : (Nat → AV) → Mem → Prop) : Prop :=
  newK m ⟨7, c_0, 24, false⟩ fun b2 m1 => newK m1 ⟨6, Z6, 26, false⟩ fun b4 m3 => ∃ Fr5 : Nat → Prop, Fr5 b2 ∧ (ldG 7 m3 b2 0 fun c6 => Fr5 b2 ∧ (ldI .i64 m3 b2 0 fun x7 => F8 x7 0 1048576 m3 fun x8 m9 => KeepsIn Fr5 m3 m9 ∧ (F7 c6 (IntKind.wrap .i64 (1 + (x8.tmod 77))) m9 fun c10 m11 => KeepsIn Fr5 m9 m11 ∧ (stG 6 m11 b4 0 c10 fun m12 => ldG 6 m12 b4 0 fun c13 => (Keeps m m12 ∧ InDomG 6 m c13 ∧ k c13 m)))))

def G4 := Gs [.g 7] [.g 6] F4

def Lam4 : LEnv := lamOf [] [1] [] []

end Go.Proofs.YtppikpjmlbaccaaDoor.Am
