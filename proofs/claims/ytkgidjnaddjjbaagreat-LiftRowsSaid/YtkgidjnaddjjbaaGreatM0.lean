/- What Go functions ask of what follows them, as plain functions over the abstract machine; the machine asks just that. Written by gen.py. -/
import Derived.Test.YtkgidjnaddjjbaaGreatProg
import Derived.Test.YtkgidjnaddjjbaaGreatAmL
namespace Go.Proofs.YtkgidjnaddjjbaaGreat.Am
set_option linter.unusedVariables false
set_option linter.unusedSimpArgs false
set_option maxRecDepth 100000

def Yb0 : ByteArray := ⟨#[116, 100, 104]⟩

def Yb1 : ByteArray := ⟨#[115, 116, 100]⟩

def Yb2 : ByteArray := ⟨#[115]⟩

def Yb3 : ByteArray := ⟨#[115, 100]⟩

def Yb4 : ByteArray := ⟨#[100]⟩

def Yb5 : ByteArray := ⟨#[115, 116]⟩

def Yb6 : ByteArray := ⟨#[106]⟩

def Yb7 : ByteArray := ⟨#[115, 116, 105]⟩

def Yb8 : ByteArray := ⟨#[115, 105]⟩

def Yb9 : ByteArray := ⟨#[116, 105]⟩

def Yb10 : ByteArray := ⟨#[116, 100]⟩

def Yb11 : ByteArray := ⟨#[0, 1, 2, 2, 3, 3, 3, 3, 4, 4, 4, 4, 4, 4, 4, 4, 5, 5, 5, 5, 5, 5, 5, 5, 5, 5, 5, 5, 5, 5, 5, 5, 6, 6, 6, 6, 6, 6, 6, 6, 6, 6, 6, 6, 6, 6, 6, 6, 6, 6, 6, 6, 6, 6, 6, 6, 6, 6, 6, 6, 6, 6, 6, 6, 7, 7, 7, 7, 7, 7, 7, 7, 7, 7, 7, 7, 7, 7, 7, 7, 7, 7, 7, 7, 7, 7, 7, 7, 7, 7, 7, 7, 7, 7, 7, 7, 7, 7, 7, 7, 7, 7, 7, 7, 7, 7, 7, 7, 7, 7, 7, 7, 7, 7, 7, 7, 7, 7, 7, 7, 7, 7, 7, 7, 7, 7, 7, 7, 8, 8, 8, 8, 8, 8, 8, 8, 8, 8, 8, 8, 8, 8, 8, 8, 8, 8, 8, 8, 8, 8, 8, 8, 8, 8, 8, 8, 8, 8, 8, 8, 8, 8, 8, 8, 8, 8, 8, 8, 8, 8, 8, 8, 8, 8, 8, 8, 8, 8, 8, 8, 8, 8, 8, 8, 8, 8, 8, 8, 8, 8, 8, 8, 8, 8, 8, 8, 8, 8, 8, 8, 8, 8, 8, 8, 8, 8, 8, 8, 8, 8, 8, 8, 8, 8, 8, 8, 8, 8, 8, 8, 8, 8, 8, 8, 8, 8, 8, 8, 8, 8, 8, 8, 8, 8, 8, 8, 8, 8, 8, 8, 8, 8, 8, 8, 8, 8, 8, 8, 8, 8, 8, 8, 8, 8, 8, 8]⟩

def Z140 : Nat → AV := lget [(.flat (.int .i64 0)), (.flat (.int .i64 0)), (.flat (.int .i64 0)), (.flat (.string ⟨#[]⟩)), (.flat (.int .i64 0)), (.flat (.int .i64 0)), (.flat (.int .i64 0)), (.flat (.string ⟨#[]⟩)), (.flat (.int .i64 0)), (.flat (.int .i64 0)), (.flat (.int .i64 0)), (.flat (.string ⟨#[]⟩)), (.flat (.int .i64 0)), (.flat (.int .i64 0)), (.flat (.int .i64 0)), (.flat (.string ⟨#[]⟩)), (.flat (.int .i64 0)), (.flat (.int .i64 0)), (.flat (.int .i64 0)), (.flat (.string ⟨#[]⟩)), (.flat (.int .i64 0)), (.flat (.int .i64 0)), (.flat (.int .i64 0)), (.flat (.string ⟨#[]⟩)), (.flat (.int .i64 0)), (.flat (.int .i64 0)), (.flat (.int .i64 0)), (.flat (.string ⟨#[]⟩)), (.flat (.int .i64 0)), (.flat (.int .i64 0)), (.flat (.int .i64 0)), (.flat (.string ⟨#[]⟩)), (.flat (.int .i64 0)), (.flat (.int .i64 0)), (.flat (.int .i64 0)), (.flat (.string ⟨#[]⟩)), (.flat (.int .i64 0)), (.flat (.int .i64 0)), (.flat (.int .i64 0)), (.flat (.string ⟨#[]⟩)), (.flat (.int .i64 0)), (.flat (.int .i64 0)), (.flat (.int .i64 0)), (.flat (.string ⟨#[]⟩)), (.flat (.int .i64 0)), (.flat (.int .i64 0)), (.flat (.int .i64 0)), (.flat (.string ⟨#[]⟩)), (.flat (.int .i64 0)), (.flat (.int .i64 0)), (.flat (.int .i64 0)), (.flat (.string ⟨#[]⟩)), (.flat (.int .i64 0)), (.flat (.int .i64 0)), (.flat (.int .i64 0)), (.flat (.string ⟨#[]⟩)), (.flat (.int .i64 0)), (.flat (.int .i64 0)), (.flat (.int .i64 0)), (.flat (.string ⟨#[]⟩)), (.flat (.int .i64 0)), (.flat (.int .i64 0)), (.flat (.int .i64 0)), (.flat (.string ⟨#[]⟩)), (.flat (.int .i64 0)), (.flat (.int .i64 0)), (.flat (.int .i64 0)), (.flat (.string ⟨#[]⟩)), (.flat (.int .i64 0)), (.flat (.int .i64 0)), (.flat (.int .i64 0)), (.flat (.string ⟨#[]⟩)), (.flat (.int .i64 0)), (.flat (.int .i64 0)), (.flat (.int .i64 0)), (.flat (.string ⟨#[]⟩)), (.flat (.int .i64 0)), (.flat (.int .i64 0)), (.flat (.int .i64 0)), (.flat (.string ⟨#[]⟩)), (.flat (.int .i64 0)), (.flat (.int .i64 0)), (.flat (.int .i64 0)), (.flat (.string ⟨#[]⟩)), (.flat (.int .i64 0)), (.flat (.int .i64 0)), (.flat (.int .i64 0)), (.flat (.string ⟨#[]⟩)), (.flat (.int .i64 0)), (.flat (.int .i64 0)), (.flat (.int .i64 0)), (.flat (.string ⟨#[]⟩)), (.flat (.int .i64 0)), (.flat (.int .i64 0)), (.flat (.int .i64 0)), (.flat (.string ⟨#[]⟩)), (.flat (.int .i64 0)), (.flat (.int .i64 0)), (.flat (.int .i64 0)), (.flat (.string ⟨#[]⟩)), (.flat (.int .i64 0)), (.flat (.int .i64 0)), (.flat (.int .i64 0)), (.flat (.string ⟨#[]⟩)), (.flat (.int .i64 0)), (.flat (.int .i64 0)), (.flat (.int .i64 0)), (.flat (.string ⟨#[]⟩)), (.flat (.int .i64 0)), (.flat (.int .i64 0)), (.flat (.int .i64 0)), (.flat (.string ⟨#[]⟩)), (.flat (.int .i64 0)), (.flat (.int .i64 0)), (.flat (.int .i64 0)), (.flat (.string ⟨#[]⟩)), (.flat (.int .i64 0)), (.flat (.int .i64 0)), (.flat (.int .i64 0)), (.flat (.string ⟨#[]⟩)), (.flat (.int .i64 0)), (.flat (.int .i64 0)), (.flat (.int .i64 0)), (.flat (.string ⟨#[]⟩)), (.flat (.int .i64 0)), (.flat (.int .i64 0)), (.flat (.int .i64 0)), (.flat (.string ⟨#[]⟩)), (.flat (.int .i64 0)), (.flat (.int .i64 0)), (.flat (.int .i64 0)), (.flat (.string ⟨#[]⟩)), (.flat (.int .i64 0)), (.flat (.int .i64 0)), (.flat (.int .i64 0)), (.flat (.string ⟨#[]⟩)), (.flat (.int .i64 0)), (.flat (.int .i64 0)), (.flat (.int .i64 0)), (.flat (.string ⟨#[]⟩))]

def Z108 : Nat → AV := lget [(.flat (.int .i64 0)), (.flat (.int .i64 0)), (.flat (.int .i64 0)), (.flat (.string ⟨#[]⟩)), (.flat (.int .i64 0)), (.flat (.int .i64 0)), (.flat (.int .i64 0)), (.flat (.string ⟨#[]⟩)), (.flat (.int .i64 0)), (.flat (.int .i64 0)), (.flat (.int .i64 0)), (.flat (.string ⟨#[]⟩)), (.flat (.int .i64 0)), (.flat (.int .i64 0)), (.flat (.int .i64 0)), (.flat (.string ⟨#[]⟩)), (.flat (.int .i64 0)), (.flat (.int .i64 0)), (.flat (.int .i64 0)), (.flat (.string ⟨#[]⟩)), (.flat (.int .i64 0)), (.flat (.int .i64 0)), (.flat (.int .i64 0)), (.flat (.string ⟨#[]⟩)), (.flat (.int .i64 0)), (.flat (.int .i64 0)), (.flat (.int .i64 0)), (.flat (.string ⟨#[]⟩)), (.flat (.int .i64 0)), (.flat (.int .i64 0)), (.flat (.int .i64 0)), (.flat (.string ⟨#[]⟩)), (.flat (.int .i64 0)), (.flat (.int .i64 0)), (.flat (.int .i64 0)), (.flat (.string ⟨#[]⟩)), (.flat (.int .i64 0)), (.flat (.int .i64 0)), (.flat (.int .i64 0)), (.flat (.string ⟨#[]⟩)), (.flat (.int .i64 0)), (.flat (.int .i64 0)), (.flat (.int .i64 0)), (.flat (.string ⟨#[]⟩)), (.flat (.int .i64 0)), (.flat (.int .i64 0)), (.flat (.int .i64 0)), (.flat (.string ⟨#[]⟩)), (.flat (.int .i64 0)), (.flat (.int .i64 0)), (.flat (.int .i64 0)), (.flat (.string ⟨#[]⟩)), (.flat (.int .i64 0)), (.flat (.int .i64 0)), (.flat (.int .i64 0)), (.flat (.string ⟨#[]⟩)), (.flat (.int .i64 0)), (.flat (.int .i64 0)), (.flat (.int .i64 0)), (.flat (.string ⟨#[]⟩)), (.flat (.int .i64 0)), (.flat (.int .i64 0)), (.flat (.int .i64 0)), (.flat (.string ⟨#[]⟩)), (.flat (.int .i64 0)), (.flat (.int .i64 0)), (.flat (.int .i64 0)), (.flat (.string ⟨#[]⟩)), (.flat (.int .i64 0)), (.flat (.int .i64 0)), (.flat (.int .i64 0)), (.flat (.string ⟨#[]⟩)), (.flat (.int .i64 0)), (.flat (.int .i64 0)), (.flat (.int .i64 0)), (.flat (.string ⟨#[]⟩)), (.flat (.int .i64 0)), (.flat (.int .i64 0)), (.flat (.int .i64 0)), (.flat (.string ⟨#[]⟩)), (.flat (.int .i64 0)), (.flat (.int .i64 0)), (.flat (.int .i64 0)), (.flat (.string ⟨#[]⟩)), (.flat (.int .i64 0)), (.flat (.int .i64 0)), (.flat (.int .i64 0)), (.flat (.string ⟨#[]⟩)), (.flat (.int .i64 0)), (.flat (.int .i64 0)), (.flat (.int .i64 0)), (.flat (.string ⟨#[]⟩)), (.flat (.int .i64 0)), (.flat (.int .i64 0)), (.flat (.int .i64 0)), (.flat (.string ⟨#[]⟩)), (.flat (.int .i64 0)), (.flat (.int .i64 0)), (.flat (.int .i64 0)), (.flat (.string ⟨#[]⟩)), (.flat (.int .i64 0)), (.flat (.int .i64 0)), (.flat (.int .i64 0)), (.flat (.string ⟨#[]⟩)), (.flat (.int .i64 0)), (.flat (.int .i64 0)), (.flat (.int .i64 0)), (.flat (.string ⟨#[]⟩))]

def Z60 : Nat → AV := lget [(.flat (.int .i64 0)), (.flat (.int .i64 0)), (.flat (.int .i64 0)), (.flat (.string ⟨#[]⟩)), (.flat (.int .i64 0)), (.flat (.int .i64 0)), (.flat (.int .i64 0)), (.flat (.string ⟨#[]⟩)), (.flat (.int .i64 0)), (.flat (.int .i64 0)), (.flat (.int .i64 0)), (.flat (.string ⟨#[]⟩)), (.flat (.int .i64 0)), (.flat (.int .i64 0)), (.flat (.int .i64 0)), (.flat (.string ⟨#[]⟩)), (.flat (.int .i64 0)), (.flat (.int .i64 0)), (.flat (.int .i64 0)), (.flat (.string ⟨#[]⟩)), (.flat (.int .i64 0)), (.flat (.int .i64 0)), (.flat (.int .i64 0)), (.flat (.string ⟨#[]⟩)), (.flat (.int .i64 0)), (.flat (.int .i64 0)), (.flat (.int .i64 0)), (.flat (.string ⟨#[]⟩)), (.flat (.int .i64 0)), (.flat (.int .i64 0)), (.flat (.int .i64 0)), (.flat (.string ⟨#[]⟩)), (.flat (.int .i64 0)), (.flat (.int .i64 0)), (.flat (.int .i64 0)), (.flat (.string ⟨#[]⟩)), (.flat (.int .i64 0)), (.flat (.int .i64 0)), (.flat (.int .i64 0)), (.flat (.string ⟨#[]⟩)), (.flat (.int .i64 0)), (.flat (.int .i64 0)), (.flat (.int .i64 0)), (.flat (.string ⟨#[]⟩)), (.flat (.int .i64 0)), (.flat (.int .i64 0)), (.flat (.int .i64 0)), (.flat (.string ⟨#[]⟩)), (.flat (.int .i64 0)), (.flat (.int .i64 0)), (.flat (.int .i64 0)), (.flat (.string ⟨#[]⟩)), (.flat (.int .i64 0)), (.flat (.int .i64 0)), (.flat (.int .i64 0)), (.flat (.string ⟨#[]⟩)), (.flat (.int .i64 0)), (.flat (.int .i64 0)), (.flat (.int .i64 0)), (.flat (.string ⟨#[]⟩))]

def Z6 : Nat → AV := lget [(.flat (.int .i64 0)), (.flat (.int .i64 0)), (.flat (.int .i64 0)), (.flat (.int .i64 0)), (.flat (.int .i64 0)), (.flat (.int .u32 0))]

def Z73 : Nat → AV := lget [(.flat (.int .u32 0)), (.flat (.int .u32 0)), (.flat (.int .u32 0)), (.flat (.int .u32 0)), (.flat (.int .u32 0)), (.flat (.int .u32 0)), (.flat (.int .u32 0)), (.flat (.int .u32 0)), (.flat (.int .u32 0)), (.flat (.int .u32 0)), (.flat (.int .u32 0)), (.flat (.int .u32 0)), (.flat (.int .u32 0)), (.flat (.int .u32 0)), (.flat (.int .u32 0)), (.flat (.int .u32 0)), (.flat (.int .u32 0)), (.flat (.int .u32 0)), (.flat (.int .u32 0)), (.flat (.int .u32 0)), (.flat (.int .u32 0)), (.flat (.int .u32 0)), (.flat (.int .u32 0)), (.flat (.int .u32 0)), (.flat (.int .u32 0)), (.flat (.int .u32 0)), (.flat (.int .u32 0)), (.flat (.int .u32 0)), (.flat (.int .u32 0)), (.flat (.int .u32 0)), (.flat (.int .u32 0)), (.flat (.int .u32 0)), (.flat (.int .u32 0)), (.flat (.int .u32 0)), (.flat (.int .u32 0)), (.flat (.int .u32 0)), (.flat (.bool false)), (.flat (.bool false)), (.flat (.int .u32 0)), (.flat (.int .u32 0)), (.flat (.int .u32 0)), (.flat (.int .u32 0)), (.flat (.int .u32 0)), (.flat (.int .u32 0)), (.flat (.int .u32 0)), (.flat (.int .u32 0)), (.flat (.int .u32 0)), (.flat (.int .u32 0)), (.flat (.int .u32 0)), (.flat (.int .u32 0)), (.flat (.int .u32 0)), (.flat (.int .u32 0)), (.flat (.int .u32 0)), (.flat (.int .u32 0)), (.flat (.int .u32 0)), (.flat (.int .u32 0)), (.flat (.int .u32 0)), (.flat (.int .u32 0)), (.flat (.int .u32 0)), (.flat (.int .u32 0)), (.flat (.int .u32 0)), (.flat (.int .u32 0)), (.flat (.int .u32 0)), (.flat (.int .u32 0)), (.flat (.int .u32 0)), (.flat (.int .u32 0)), (.flat (.int .u32 0)), (.flat (.int .u32 0)), (.flat (.int .u32 0)), (.flat (.int .u32 0)), (.flat (.int .u32 0)), (.flat (.bool false)), (.flat (.int .i64 0))]

def Z25 : Nat → AV := lget [(.flat (.pointer none)), (.flat (.slice none 0 0)), (.flat (.int .i64 0)), (.flat (.int .u32 0)), (.flat (.int .u32 0)), (.flat (.int .u32 0)), (.flat (.int .u32 0)), (.flat (.int .u32 0)), (.flat (.int .u32 0)), (.flat (.slice none 0 0)), (.flat (.slice none 0 0)), (.flat (.bool false)), (.flat (.int .u32 0)), (.flat (.slice none 0 0)), (.flat (.int .u32 0)), (.flat (.int .u32 0)), (.flat (.int .u32 0)), (.flat (.int .u32 0)), (.flat (.int .u32 0)), (.flat (.int .u32 0)), (.flat (.int .u32 0)), (.flat (.int .u32 0)), (.flat (.slice none 0 0)), (.flat (.int .u32 0)), (.flat (.int .u32 0))]

def Z74 : Nat → AV := lget [(.flat (.int .u32 0)), (.flat (.int .u32 0)), (.flat (.int .u32 0)), (.flat (.int .u32 0)), (.flat (.int .u32 0)), (.flat (.int .u32 0)), (.flat (.int .u32 0)), (.flat (.int .u32 0)), (.flat (.int .u32 0)), (.flat (.int .u32 0)), (.flat (.int .u32 0)), (.flat (.int .u32 0)), (.flat (.int .u32 0)), (.flat (.int .u32 0)), (.flat (.int .u32 0)), (.flat (.int .u32 0)), (.flat (.int .u32 0)), (.flat (.int .u32 0)), (.flat (.int .u32 0)), (.flat (.int .u32 0)), (.flat (.int .u32 0)), (.flat (.int .u32 0)), (.flat (.int .u32 0)), (.flat (.int .u32 0)), (.flat (.int .u32 0)), (.flat (.int .u32 0)), (.flat (.int .u32 0)), (.flat (.int .u32 0)), (.flat (.int .u32 0)), (.flat (.int .u32 0)), (.flat (.int .u32 0)), (.flat (.int .u32 0)), (.flat (.int .u32 0)), (.flat (.int .u32 0)), (.flat (.int .u32 0)), (.flat (.int .u32 0)), (.flat (.bool false)), (.flat (.bool false)), (.flat (.int .u32 0)), (.flat (.int .u32 0)), (.flat (.int .u32 0)), (.flat (.int .u32 0)), (.flat (.int .u32 0)), (.flat (.int .u32 0)), (.flat (.int .u32 0)), (.flat (.int .u32 0)), (.flat (.int .u32 0)), (.flat (.int .u32 0)), (.flat (.int .u32 0)), (.flat (.int .u32 0)), (.flat (.int .u32 0)), (.flat (.int .u32 0)), (.flat (.int .u32 0)), (.flat (.int .u32 0)), (.flat (.int .u32 0)), (.flat (.int .u32 0)), (.flat (.int .u32 0)), (.flat (.int .u32 0)), (.flat (.int .u32 0)), (.flat (.int .u32 0)), (.flat (.int .u32 0)), (.flat (.int .u32 0)), (.flat (.int .u32 0)), (.flat (.int .u32 0)), (.flat (.int .u32 0)), (.flat (.int .u32 0)), (.flat (.int .u32 0)), (.flat (.int .u32 0)), (.flat (.int .u32 0)), (.flat (.int .u32 0)), (.flat (.int .u32 0)), (.flat (.bool false)), (.flat (.int .i64 0)), (.flat (.pointer none))]

def Z10 : Nat → AV := lget [(.flat (.int .i64 0)), (.flat (.int .i64 0)), (.flat (.int .i64 0)), (.flat (.int .i64 0)), (.flat (.int .u32 0)), (.flat (.int .i64 0)), (.flat (.int .i64 0)), (.flat (.int .i64 0)), (.flat (.int .i64 0)), (.flat (.int .u32 0))]

def Z40 : Nat → AV := lget [(.flat (.int .u32 0)), (.flat (.int .u32 0)), (.flat (.int .u32 0)), (.flat (.int .u32 0)), (.flat (.int .u32 0)), (.flat (.int .u32 0)), (.flat (.int .u32 0)), (.flat (.int .u32 0)), (.flat (.int .u32 0)), (.flat (.int .u32 0)), (.flat (.int .u32 0)), (.flat (.int .u32 0)), (.flat (.int .u32 0)), (.flat (.int .u32 0)), (.flat (.int .u32 0)), (.flat (.int .u32 0)), (.flat (.int .u32 0)), (.flat (.int .u32 0)), (.flat (.int .u32 0)), (.flat (.int .u32 0)), (.flat (.int .u32 0)), (.flat (.int .u32 0)), (.flat (.int .u32 0)), (.flat (.int .u32 0)), (.flat (.int .u32 0)), (.flat (.int .u32 0)), (.flat (.int .u32 0)), (.flat (.int .u32 0)), (.flat (.int .u32 0)), (.flat (.int .u32 0)), (.flat (.int .u32 0)), (.flat (.int .u32 0)), (.flat (.int .u32 0)), (.flat (.int .u32 0)), (.flat (.int .u32 0)), (.flat (.int .u32 0)), (.flat (.int .u32 0)), (.flat (.int .u32 0)), (.flat (.int .u32 0)), (.flat (.int .u32 0))]

def Z8 : Nat → AV := lget [(.flat (.int .u32 0)), (.flat (.int .u32 0)), (.flat (.int .u32 0)), (.flat (.int .u32 0)), (.flat (.int .u32 0)), (.flat (.int .u32 0)), (.flat (.int .u32 0)), (.flat (.int .u32 0))]

def Z7 : Nat → AV := lget [(.flat (.int .i64 0)), (.flat (.int .i64 0)), (.flat (.int .i64 0)), (.flat (.int .i64 0)), (.flat (.int .i64 0)), (.flat (.int .u32 0)), (.flat (.int .u32 0))]

def Z37 : Nat → AV := lget [(.flat (.int .i64 0)), (.flat (.int .i64 0)), (.flat (.int .i64 0)), (.flat (.int .i64 0)), (.flat (.int .i64 0)), (.flat (.int .i64 0)), (.flat (.int .i64 0)), (.flat (.int .i64 0)), (.flat (.int .i64 0)), (.flat (.int .i64 0)), (.flat (.int .i64 0)), (.flat (.int .i64 0)), (.flat (.int .i64 0)), (.flat (.int .i64 0)), (.flat (.int .i64 0)), (.flat (.int .i64 0)), (.flat (.int .i64 0)), (.flat (.int .i64 0)), (.flat (.int .i64 0)), (.flat (.int .i64 0)), (.flat (.int .i64 0)), (.flat (.int .i64 0)), (.flat (.int .i64 0)), (.flat (.int .i64 0)), (.flat (.int .i64 0)), (.flat (.int .i64 0)), (.flat (.int .i64 0)), (.flat (.int .i64 0)), (.flat (.int .i64 0)), (.flat (.int .i64 0)), (.flat (.int .i64 0)), (.flat (.int .i64 0)), (.flat (.int .i64 0)), (.flat (.int .i64 0)), (.flat (.int .i64 0)), (.flat (.int .i64 0)), (.flat (.int .i64 0))]

def K25 : List (Nat × LK) := [(0, (.i .i64)), (1, (.i .i64)), (2, (.i .i64)), (3, (.i .i64)), (4, (.i .i64)), (5, (.i .u32))]

def E17 : Env := envOf []

def P17_3102 (x_0 : Int) (x_1 : Int) (x_2 : Int) (m : Mem) (kr : Int → Mem → Prop) : Prop :=
  kif (decide (IntKind.wrap .i64 ((IntKind.wrap .i64 (x_2 - x_1)) + 1) = 0)) False (kif (decide ((x_0.tmod (IntKind.wrap .i64 ((IntKind.wrap .i64 (x_2 - x_1)) + 1))) < 0)) (kr (IntKind.wrap .i64 (x_1 + (IntKind.wrap .i64 ((IntKind.wrap .i64 ((IntKind.wrap .i64 ((x_0.tmod (IntKind.wrap .i64 ((IntKind.wrap .i64 (x_2 - x_1)) + 1))) + x_2)) - x_1)) + 1)))) m) (kr (IntKind.wrap .i64 (x_1 + (x_0.tmod (IntKind.wrap .i64 ((IntKind.wrap .i64 (x_2 - x_1)) + 1))))) m))

/-- pianola/pianolabook.Within -/
def F17 (x_0 : Int) (x_1 : Int) (x_2 : Int) (m : Mem) (k : Int → Mem → Prop) : Prop :=
  kif (decide (x_0 ≥ x_1)) (kif (decide (x_0 ≤ x_2)) ((Keeps m m ∧ k x_0 m)) (P17_3102 x_0 x_1 x_2 m (fun x1 m2 => (Keeps m m2 ∧ k x1 m)))) (P17_3102 x_0 x_1 x_2 m (fun x3 m4 => (Keeps m m4 ∧ k x3 m)))

def G17 (args : List AV) (m : Mem) (k : KV) : Prop := match args with
  | [a0, a1, a2] => kI .i64 a0 fun x_0 => kI .i64 a1 fun x_1 => kI .i64 a2 fun x_2 => F17 x_0 x_1 x_2 m (fun x_1000 m' => k (.flat (.int .i64 x_1000)) m')
  | _ => False

def LamP17_3102 (σ : Nat → AV) (m : Mem) (k : KX) : Prop := kI .i64 (σ 0) fun x_0 => kI .i64 (σ 1) fun x_1 => kI .i64 (σ 2) fun x_2 => P17_3102 x_0 x_1 x_2 m (fun x_6' m' => k .ret (only [6] [(.flat (.int .i64 x_6'))]) m')

def Lam17 : LEnv := ⟨fun a σ m k => match firstReg a with
  | _ => bump False,
  fun id => match id with
  | _ => bump false,
  fun b => match keyC b with
  | some 3102 => true
  | _ => bump false,
  fun b σ m k => match keyC b with
  | some 3102 => LamP17_3102 σ m k
  | _ => bump False⟩

def lxp17_3102 : Ex → List Nat := fun e => match e with
  | .ret => [6]
  | _ => []

theorem pc17_3102 (x_0 : Int) (x_1 : Int) (x_2 : Int) (m : Mem) (k : KX) : once Tryz.prog E17 Lam17 [0, 1, 2] lxp17_3102 (((secsOf (bodyOf Tryz.f17)).filter Lam17.cut).getD 0 .skip) [(.flat (.int .i64 x_0)), (.flat (.int .i64 x_1)), (.flat (.int .i64 x_2))] m k = P17_3102 x_0 x_1 x_2 m (fun x_6' m' => k .ret (only [6] [(.flat (.int .i64 x_6'))]) m') := by
  kernel_rfl

theorem pok17_3102 : PieceOK Tryz.prog E17 Lam17 (((secsOf (bodyOf Tryz.f17)).filter Lam17.cut).getD 0 .skip) := by
  refine ⟨fun σ => ∃ x_0 x_1 x_2, σ 0 = .flat (.int .i64 x_0) ∧ σ 1 = .flat (.int .i64 x_1) ∧ σ 2 = .flat (.int .i64 x_2), [0, 1, 2], lxp17_3102, fun σ m k => ?_⟩
  have e : Lam17.piece (((secsOf (bodyOf Tryz.f17)).filter Lam17.cut).getD 0 .skip) σ m k = LamP17_3102 σ m k := by kernel_rfl
  rw [e]
  constructor
  · intro h
    unfold LamP17_3102 at h
    obtain ⟨x_0, h0, h⟩ := kI_ok h
    obtain ⟨x_1, h1, h⟩ := kI_ok h
    obtain ⟨x_2, h2, h⟩ := kI_ok h
    refine ⟨⟨x_0, x_1, x_2, h0, h1, h2⟩, ?_⟩
    have ev : [0, 1, 2].map σ = [(.flat (.int .i64 x_0)), (.flat (.int .i64 x_1)), (.flat (.int .i64 x_2))] := by simp only [List.map_cons, List.map_nil, h0, h1, h2]
    rw [ev, pc17_3102]
    exact h
  · rintro ⟨⟨x_0, x_1, x_2, h0, h1, h2⟩, h⟩
    have ev : [0, 1, 2].map σ = [(.flat (.int .i64 x_0)), (.flat (.int .i64 x_1)), (.flat (.int .i64 x_2))] := by simp only [List.map_cons, List.map_nil, h0, h1, h2]
    rw [ev, pc17_3102] at h
    unfold LamP17_3102
    try simp only [h0, h1, h2, kI, kbool, kS, kptr, kaggN, kite, decide_true, eq_self]
    exact h

theorem eqn17 (x_0 : Int) (x_1 : Int) (x_2 : Int) (m : Mem) (k : KV) : bodyK Tryz.prog E17 Lam17 Tryz.f17 true [(.flat (.int .i64 x_0)), (.flat (.int .i64 x_1)), (.flat (.int .i64 x_2))] m k = F17 x_0 x_1 x_2 m (fun x_1000 m' => k (.flat (.int .i64 x_1000)) m') := by
  kernel_rfl

theorem fs17 (w0 : World) : FS Tryz.prog w0 17 G17 := by
  refine (fs_body (Γ := E17) (sound_env (l := []) w0 (by
    intro p hp
    cases hp)) (by kernel_rfl) Tryz.func17 (Λ := Lam17) (c := (bodyOf Tryz.f17)) (by kernel_rfl) Tryz.call17 (by kernel_rfl) (LS_of (bodyOf Tryz.f17) 0 (by kernel_rfl) (fun i hi => absurd hi (Nat.not_lt_zero i)) 1 (by kernel_rfl) (by
    intro i hi
    match i, hi with
    | 0, _ => exact pok17_3102
    | i + 1, hi => omega)) true (np := 3) (Nat.le_of_ble_eq_true (by kernel_rfl))).imp fun args => ?_
  by_cases hl : args.length = 3
  rotate_left
  · exact .inr fun m k hk => by
      unfold G17 at hk
      split at hk
      · exact hl rfl
      · exact hk
  obtain ⟨a0, a1, a2, rfl⟩ : ∃ a0 a1 a2, args = [a0, a1, a2] := len_list3 hl
  rcases kI_or .i64 a0 with ⟨x_0, rfl⟩ | h
  rotate_left
  · exact .inr fun m k hk => h _ (by simpa only [G17, kI, kbool, kS, kptr, kaggN, kite, decide_true, eq_self] using hk)
  rcases kI_or .i64 a1 with ⟨x_1, rfl⟩ | h
  rotate_left
  · exact .inr fun m k hk => h _ (by simpa only [G17, kI, kbool, kS, kptr, kaggN, kite, decide_true, eq_self] using hk)
  rcases kI_or .i64 a2 with ⟨x_2, rfl⟩ | h
  rotate_left
  · exact .inr fun m k hk => h _ (by simpa only [G17, kI, kbool, kS, kptr, kaggN, kite, decide_true, eq_self] using hk)
  exact .inl fun m k => propext ⟨fun h => ⟨rfl, by rw [eqn17]; simpa only [G17, kI, kbool, kS, kptr, kaggN, kite, decide_true, eq_self] using h⟩, fun h => by have h := h.2; rw [eqn17] at h; simpa only [G17, kI, kbool, kS, kptr, kaggN, kite, decide_true, eq_self] using h⟩

def E16 : Env := envOf [(17, G17)]

/-- pianola/pianolakeep.near -/
def F16 (x_0 : Int) (m : Mem) (k : Int → Mem → Prop) : Prop :=
  F17 x_0 0 1048576 m fun x1 m2 => kif ((x1.tmod 8) == 7) ((Keeps m m2 ∧ k ((IntKind.wrap .i64 (x1.tdiv 8)).tmod 32) m)) ((Keeps m m2 ∧ k ((IntKind.wrap .i64 (x1.tdiv 8)).tmod 8) m))

def G16 (args : List AV) (m : Mem) (k : KV) : Prop := match args with
  | [a0] => kI .i64 a0 fun x_0 => F16 x_0 m (fun x_1000 m' => k (.flat (.int .i64 x_1000)) m')
  | _ => False

def Lam16 : LEnv := ⟨fun a σ m k => match firstReg a with
  | _ => bump False,
  fun id => match id with
  | _ => bump false,
  fun b => match keyC b with
  | _ => bump false,
  fun b σ m k => match keyC b with
  | _ => bump False⟩

theorem eqn16 (x_0 : Int) (m : Mem) (k : KV) : bodyK Tryz.prog E16 Lam16 Tryz.f16 true [(.flat (.int .i64 x_0))] m k = F16 x_0 m (fun x_1000 m' => k (.flat (.int .i64 x_1000)) m') := by
  kernel_rfl

theorem fs16 (w0 : World) : FS Tryz.prog w0 16 G16 := by
  refine (fs_body (Γ := E16) (sound_env (l := [(17, G17)]) w0 (by
    intro p hp
    simp only [List.mem_cons, List.not_mem_nil, or_false] at hp
    rcases hp with rfl
    · exact fs17 w0)) (by kernel_rfl) Tryz.func16 (Λ := Lam16) (c := (bodyOf Tryz.f16)) (by kernel_rfl) Tryz.call16 (by kernel_rfl) (LS_of (bodyOf Tryz.f16) 0 (by kernel_rfl) (fun i hi => absurd hi (Nat.not_lt_zero i)) 0 (by kernel_rfl) (fun i hi => absurd hi (Nat.not_lt_zero i))) true (np := 1) (Nat.le_of_ble_eq_true (by kernel_rfl))).imp fun args => ?_
  by_cases hl : args.length = 1
  rotate_left
  · exact .inr fun m k hk => by
      unfold G16 at hk
      split at hk
      · exact hl rfl
      · exact hk
  obtain ⟨a0, rfl⟩ : ∃ a0, args = [a0] := len_list1 hl
  rcases kI_or .i64 a0 with ⟨x_0, rfl⟩ | h
  rotate_left
  · exact .inr fun m k hk => h _ (by simpa only [G16, kI, kbool, kS, kptr, kaggN, kite, decide_true, eq_self] using hk)
  exact .inl fun m k => propext ⟨fun h => ⟨rfl, by rw [eqn16]; simpa only [G16, kI, kbool, kS, kptr, kaggN, kite, decide_true, eq_self] using h⟩, fun h => by have h := h.2; rw [eqn16] at h; simpa only [G16, kI, kbool, kS, kptr, kaggN, kite, decide_true, eq_self] using h⟩

def E79 : Env := envOf []

/-- pianola/pianolaref3.special -/
def F79  (m : Mem) (k : AV → Mem → Prop) : Prop :=
  newK m ⟨140, splice (splice (splice (splice (splice (splice (splice (splice (splice (splice (splice (splice (splice (splice (splice (splice (splice (splice (splice (splice (splice (splice (splice (splice (splice (splice (splice (splice (splice (splice (splice (splice (splice (splice (splice (Z140) 0 4 (upd (upd (upd (upd (lget [(.flat (.int .i64 0)), (.flat (.int .i64 0)), (.flat (.int .i64 0)), (.flat (.string ⟨#[]⟩))]) 0 (.flat (.int .i64 0))) 1 (.flat (.int .i64 0))) 2 (.flat (.int .i64 1))) 3 (.flat (.string Yb0)))) 4 4 (upd (upd (upd (upd (lget [(.flat (.int .i64 0)), (.flat (.int .i64 0)), (.flat (.int .i64 0)), (.flat (.string ⟨#[]⟩))]) 0 (.flat (.int .i64 0))) 1 (.flat (.int .i64 2))) 2 (.flat (.int .i64 2))) 3 (.flat (.string Yb0)))) 8 4 (upd (upd (upd (upd (lget [(.flat (.int .i64 0)), (.flat (.int .i64 0)), (.flat (.int .i64 0)), (.flat (.string ⟨#[]⟩))]) 0 (.flat (.int .i64 0))) 1 (.flat (.int .i64 3))) 2 (.flat (.int .i64 3))) 3 (.flat (.string Yb0)))) 12 4 (upd (upd (upd (upd (lget [(.flat (.int .i64 0)), (.flat (.int .i64 0)), (.flat (.int .i64 0)), (.flat (.string ⟨#[]⟩))]) 0 (.flat (.int .i64 0))) 1 (.flat (.int .i64 4))) 2 (.flat (.int .i64 4))) 3 (.flat (.string Yb1)))) 16 4 (upd (upd (upd (upd (lget [(.flat (.int .i64 0)), (.flat (.int .i64 0)), (.flat (.int .i64 0)), (.flat (.string ⟨#[]⟩))]) 0 (.flat (.int .i64 0))) 1 (.flat (.int .i64 6))) 2 (.flat (.int .i64 5))) 3 (.flat (.string Yb1)))) 20 4 (upd (upd (upd (upd (lget [(.flat (.int .i64 0)), (.flat (.int .i64 0)), (.flat (.int .i64 0)), (.flat (.string ⟨#[]⟩))]) 0 (.flat (.int .i64 0))) 1 (.flat (.int .i64 7))) 2 (.flat (.int .i64 6))) 3 (.flat (.string Yb1)))) 24 4 (upd (upd (upd (upd (lget [(.flat (.int .i64 0)), (.flat (.int .i64 0)), (.flat (.int .i64 0)), (.flat (.string ⟨#[]⟩))]) 0 (.flat (.int .i64 0))) 1 (.flat (.int .i64 8))) 2 (.flat (.int .i64 7))) 3 (.flat (.string Yb2)))) 28 4 (upd (upd (upd (upd (lget [(.flat (.int .i64 0)), (.flat (.int .i64 0)), (.flat (.int .i64 0)), (.flat (.string ⟨#[]⟩))]) 0 (.flat (.int .i64 0))) 1 (.flat (.int .i64 9))) 2 (.flat (.int .i64 8))) 3 (.flat (.string Yb3)))) 32 4 (upd (upd (upd (upd (lget [(.flat (.int .i64 0)), (.flat (.int .i64 0)), (.flat (.int .i64 0)), (.flat (.string ⟨#[]⟩))]) 0 (.flat (.int .i64 0))) 1 (.flat (.int .i64 10))) 2 (.flat (.int .i64 9))) 3 (.flat (.string Yb1)))) 36 4 (upd (upd (upd (upd (lget [(.flat (.int .i64 0)), (.flat (.int .i64 0)), (.flat (.int .i64 0)), (.flat (.string ⟨#[]⟩))]) 0 (.flat (.int .i64 0))) 1 (.flat (.int .i64 11))) 2 (.flat (.int .i64 10))) 3 (.flat (.string Yb1)))) 40 4 (upd (upd (upd (upd (lget [(.flat (.int .i64 0)), (.flat (.int .i64 0)), (.flat (.int .i64 0)), (.flat (.string ⟨#[]⟩))]) 0 (.flat (.int .i64 0))) 1 (.flat (.int .i64 12))) 2 (.flat (.int .i64 11))) 3 (.flat (.string (⟨#[]⟩ : ByteArray))))) 44 4 (upd (upd (upd (upd (lget [(.flat (.int .i64 0)), (.flat (.int .i64 0)), (.flat (.int .i64 0)), (.flat (.string ⟨#[]⟩))]) 0 (.flat (.int .i64 0))) 1 (.flat (.int .i64 13))) 2 (.flat (.int .i64 12))) 3 (.flat (.string (⟨#[]⟩ : ByteArray))))) 48 4 (upd (upd (upd (upd (lget [(.flat (.int .i64 0)), (.flat (.int .i64 0)), (.flat (.int .i64 0)), (.flat (.string ⟨#[]⟩))]) 0 (.flat (.int .i64 0))) 1 (.flat (.int .i64 15))) 2 (.flat (.int .i64 13))) 3 (.flat (.string (⟨#[]⟩ : ByteArray))))) 52 4 (upd (upd (upd (upd (lget [(.flat (.int .i64 0)), (.flat (.int .i64 0)), (.flat (.int .i64 0)), (.flat (.string ⟨#[]⟩))]) 0 (.flat (.int .i64 0))) 1 (.flat (.int .i64 16))) 2 (.flat (.int .i64 14))) 3 (.flat (.string Yb4)))) 56 4 (upd (upd (upd (upd (lget [(.flat (.int .i64 0)), (.flat (.int .i64 0)), (.flat (.int .i64 0)), (.flat (.string ⟨#[]⟩))]) 0 (.flat (.int .i64 0))) 1 (.flat (.int .i64 17))) 2 (.flat (.int .i64 15))) 3 (.flat (.string Yb2)))) 60 4 (upd (upd (upd (upd (lget [(.flat (.int .i64 0)), (.flat (.int .i64 0)), (.flat (.int .i64 0)), (.flat (.string ⟨#[]⟩))]) 0 (.flat (.int .i64 0))) 1 (.flat (.int .i64 18))) 2 (.flat (.int .i64 16))) 3 (.flat (.string Yb4)))) 64 4 (upd (upd (upd (upd (lget [(.flat (.int .i64 0)), (.flat (.int .i64 0)), (.flat (.int .i64 0)), (.flat (.string ⟨#[]⟩))]) 0 (.flat (.int .i64 0))) 1 (.flat (.int .i64 19))) 2 (.flat (.int .i64 17))) 3 (.flat (.string Yb2)))) 68 4 (upd (upd (upd (upd (lget [(.flat (.int .i64 0)), (.flat (.int .i64 0)), (.flat (.int .i64 0)), (.flat (.string ⟨#[]⟩))]) 0 (.flat (.int .i64 0))) 1 (.flat (.int .i64 24))) 2 (.flat (.int .i64 18))) 3 (.flat (.string Yb5)))) 72 4 (upd (upd (upd (upd (lget [(.flat (.int .i64 0)), (.flat (.int .i64 0)), (.flat (.int .i64 0)), (.flat (.string ⟨#[]⟩))]) 0 (.flat (.int .i64 0))) 1 (.flat (.int .i64 25))) 2 (.flat (.int .i64 19))) 3 (.flat (.string Yb5)))) 76 4 (upd (upd (upd (upd (lget [(.flat (.int .i64 0)), (.flat (.int .i64 0)), (.flat (.int .i64 0)), (.flat (.string ⟨#[]⟩))]) 0 (.flat (.int .i64 0))) 1 (.flat (.int .i64 26))) 2 (.flat (.int .i64 20))) 3 (.flat (.string Yb5)))) 80 4 (upd (upd (upd (upd (lget [(.flat (.int .i64 0)), (.flat (.int .i64 0)), (.flat (.int .i64 0)), (.flat (.string ⟨#[]⟩))]) 0 (.flat (.int .i64 0))) 1 (.flat (.int .i64 27))) 2 (.flat (.int .i64 21))) 3 (.flat (.string Yb5)))) 84 4 (upd (upd (upd (upd (lget [(.flat (.int .i64 0)), (.flat (.int .i64 0)), (.flat (.int .i64 0)), (.flat (.string ⟨#[]⟩))]) 0 (.flat (.int .i64 0))) 1 (.flat (.int .i64 32))) 2 (.flat (.int .i64 22))) 3 (.flat (.string Yb1)))) 88 4 (upd (upd (upd (upd (lget [(.flat (.int .i64 0)), (.flat (.int .i64 0)), (.flat (.int .i64 0)), (.flat (.string ⟨#[]⟩))]) 0 (.flat (.int .i64 0))) 1 (.flat (.int .i64 33))) 2 (.flat (.int .i64 23))) 3 (.flat (.string Yb1)))) 92 4 (upd (upd (upd (upd (lget [(.flat (.int .i64 0)), (.flat (.int .i64 0)), (.flat (.int .i64 0)), (.flat (.string ⟨#[]⟩))]) 0 (.flat (.int .i64 0))) 1 (.flat (.int .i64 34))) 2 (.flat (.int .i64 24))) 3 (.flat (.string Yb1)))) 96 4 (upd (upd (upd (upd (lget [(.flat (.int .i64 0)), (.flat (.int .i64 0)), (.flat (.int .i64 0)), (.flat (.string ⟨#[]⟩))]) 0 (.flat (.int .i64 0))) 1 (.flat (.int .i64 35))) 2 (.flat (.int .i64 25))) 3 (.flat (.string Yb1)))) 100 4 (upd (upd (upd (upd (lget [(.flat (.int .i64 0)), (.flat (.int .i64 0)), (.flat (.int .i64 0)), (.flat (.string ⟨#[]⟩))]) 0 (.flat (.int .i64 0))) 1 (.flat (.int .i64 36))) 2 (.flat (.int .i64 26))) 3 (.flat (.string Yb1)))) 104 4 (upd (upd (upd (upd (lget [(.flat (.int .i64 0)), (.flat (.int .i64 0)), (.flat (.int .i64 0)), (.flat (.string ⟨#[]⟩))]) 0 (.flat (.int .i64 0))) 1 (.flat (.int .i64 37))) 2 (.flat (.int .i64 27))) 3 (.flat (.string Yb1)))) 108 4 (upd (upd (upd (upd (lget [(.flat (.int .i64 0)), (.flat (.int .i64 0)), (.flat (.int .i64 0)), (.flat (.string ⟨#[]⟩))]) 0 (.flat (.int .i64 0))) 1 (.flat (.int .i64 38))) 2 (.flat (.int .i64 28))) 3 (.flat (.string Yb1)))) 112 4 (upd (upd (upd (upd (lget [(.flat (.int .i64 0)), (.flat (.int .i64 0)), (.flat (.int .i64 0)), (.flat (.string ⟨#[]⟩))]) 0 (.flat (.int .i64 0))) 1 (.flat (.int .i64 39))) 2 (.flat (.int .i64 29))) 3 (.flat (.string Yb1)))) 116 4 (upd (upd (upd (upd (lget [(.flat (.int .i64 0)), (.flat (.int .i64 0)), (.flat (.int .i64 0)), (.flat (.string ⟨#[]⟩))]) 0 (.flat (.int .i64 0))) 1 (.flat (.int .i64 42))) 2 (.flat (.int .i64 30))) 3 (.flat (.string Yb1)))) 120 4 (upd (upd (upd (upd (lget [(.flat (.int .i64 0)), (.flat (.int .i64 0)), (.flat (.int .i64 0)), (.flat (.string ⟨#[]⟩))]) 0 (.flat (.int .i64 0))) 1 (.flat (.int .i64 43))) 2 (.flat (.int .i64 31))) 3 (.flat (.string Yb1)))) 124 4 (upd (upd (upd (upd (lget [(.flat (.int .i64 0)), (.flat (.int .i64 0)), (.flat (.int .i64 0)), (.flat (.string ⟨#[]⟩))]) 0 (.flat (.int .i64 0))) 1 (.flat (.int .i64 48))) 2 (.flat (.int .i64 32))) 3 (.flat (.string Yb5)))) 128 4 (upd (upd (upd (upd (lget [(.flat (.int .i64 0)), (.flat (.int .i64 0)), (.flat (.int .i64 0)), (.flat (.string ⟨#[]⟩))]) 0 (.flat (.int .i64 0))) 1 (.flat (.int .i64 50))) 2 (.flat (.int .i64 33))) 3 (.flat (.string Yb5)))) 132 4 (upd (upd (upd (upd (lget [(.flat (.int .i64 0)), (.flat (.int .i64 0)), (.flat (.int .i64 0)), (.flat (.string ⟨#[]⟩))]) 0 (.flat (.int .i64 0))) 1 (.flat (.int .i64 52))) 2 (.flat (.int .i64 34))) 3 (.flat (.string Yb5)))) 136 4 (upd (upd (upd (upd (lget [(.flat (.int .i64 0)), (.flat (.int .i64 0)), (.flat (.int .i64 0)), (.flat (.string ⟨#[]⟩))]) 0 (.flat (.int .i64 0))) 1 (.flat (.int .i64 54))) 2 (.flat (.int .i64 35))) 3 (.flat (.string Yb5))), 78, false⟩ fun b2 m1 => k (.sl b2 0 35 (.ex 35)) m1

def G79 (args : List AV) (m : Mem) (k : KV) : Prop := match args with
  | [] => F79  m (fun v_1000 m' => k v_1000 m')
  | _ => False

def Lam79 : LEnv := ⟨fun a σ m k => match firstReg a with
  | _ => bump False,
  fun id => match id with
  | _ => bump false,
  fun b => match keyC b with
  | _ => bump false,
  fun b σ m k => match keyC b with
  | _ => bump False⟩

theorem eqn79  (m : Mem) (k : KV) : bodyK Tryz.prog E79 Lam79 Tryz.f79 false [] m k = F79  m (fun v_1000 m' => k v_1000 m') := by
  kernel_rfl

theorem fs79 (w0 : World) : FS Tryz.prog w0 79 G79 := by
  refine (fs_body (Γ := E79) (sound_env (l := []) w0 (by
    intro p hp
    cases hp)) (by kernel_rfl) Tryz.func79 (Λ := Lam79) (c := (bodyOf Tryz.f79)) (by kernel_rfl) Tryz.call79 (by kernel_rfl) (LS_of (bodyOf Tryz.f79) 0 (by kernel_rfl) (fun i hi => absurd hi (Nat.not_lt_zero i)) 0 (by kernel_rfl) (fun i hi => absurd hi (Nat.not_lt_zero i))) false (np := 0) (Nat.le_of_ble_eq_true (by kernel_rfl))).imp fun args => ?_
  by_cases hl : args.length = 0
  rotate_left
  · exact .inr fun m k hk => by
      unfold G79 at hk
      split at hk
      · exact hl rfl
      · exact hk
  obtain rfl : args = [] := len_list0 hl

  exact .inl fun m k => propext ⟨fun h => ⟨rfl, by rw [eqn79]; simpa only [G79, kI, kbool, kS, kptr, kaggN, kite, decide_true, eq_self] using h⟩, fun h => by have h := h.2; rw [eqn79] at h; simpa only [G79, kI, kbool, kS, kptr, kaggN, kite, decide_true, eq_self] using h⟩

def E80 : Env := envOf []

/-- pianola/pianolaref3.plain -/
def F80  (m : Mem) (k : AV → Mem → Prop) : Prop :=
  newK m ⟨108, splice (splice (splice (splice (splice (splice (splice (splice (splice (splice (splice (splice (splice (splice (splice (splice (splice (splice (splice (splice (splice (splice (splice (splice (splice (splice (splice (Z108) 0 4 (upd (upd (upd (upd (lget [(.flat (.int .i64 0)), (.flat (.int .i64 0)), (.flat (.int .i64 0)), (.flat (.string ⟨#[]⟩))]) 0 (.flat (.int .i64 2))) 1 (.flat (.int .i64 0))) 2 (.flat (.int .i64 40))) 3 (.flat (.string Yb6)))) 4 4 (upd (upd (upd (upd (lget [(.flat (.int .i64 0)), (.flat (.int .i64 0)), (.flat (.int .i64 0)), (.flat (.string ⟨#[]⟩))]) 0 (.flat (.int .i64 3))) 1 (.flat (.int .i64 0))) 2 (.flat (.int .i64 41))) 3 (.flat (.string Yb6)))) 8 4 (upd (upd (upd (upd (lget [(.flat (.int .i64 0)), (.flat (.int .i64 0)), (.flat (.int .i64 0)), (.flat (.string ⟨#[]⟩))]) 0 (.flat (.int .i64 4))) 1 (.flat (.int .i64 0))) 2 (.flat (.int .i64 42))) 3 (.flat (.string Yb7)))) 12 4 (upd (upd (upd (upd (lget [(.flat (.int .i64 0)), (.flat (.int .i64 0)), (.flat (.int .i64 0)), (.flat (.string ⟨#[]⟩))]) 0 (.flat (.int .i64 5))) 1 (.flat (.int .i64 0))) 2 (.flat (.int .i64 43))) 3 (.flat (.string Yb7)))) 16 4 (upd (upd (upd (upd (lget [(.flat (.int .i64 0)), (.flat (.int .i64 0)), (.flat (.int .i64 0)), (.flat (.string ⟨#[]⟩))]) 0 (.flat (.int .i64 6))) 1 (.flat (.int .i64 0))) 2 (.flat (.int .i64 44))) 3 (.flat (.string Yb8)))) 20 4 (upd (upd (upd (upd (lget [(.flat (.int .i64 0)), (.flat (.int .i64 0)), (.flat (.int .i64 0)), (.flat (.string ⟨#[]⟩))]) 0 (.flat (.int .i64 7))) 1 (.flat (.int .i64 0))) 2 (.flat (.int .i64 45))) 3 (.flat (.string Yb8)))) 24 4 (upd (upd (upd (upd (lget [(.flat (.int .i64 0)), (.flat (.int .i64 0)), (.flat (.int .i64 0)), (.flat (.string ⟨#[]⟩))]) 0 (.flat (.int .i64 8))) 1 (.flat (.int .i64 0))) 2 (.flat (.int .i64 46))) 3 (.flat (.string Yb7)))) 28 4 (upd (upd (upd (upd (lget [(.flat (.int .i64 0)), (.flat (.int .i64 0)), (.flat (.int .i64 0)), (.flat (.string ⟨#[]⟩))]) 0 (.flat (.int .i64 9))) 1 (.flat (.int .i64 0))) 2 (.flat (.int .i64 47))) 3 (.flat (.string Yb7)))) 32 4 (upd (upd (upd (upd (lget [(.flat (.int .i64 0)), (.flat (.int .i64 0)), (.flat (.int .i64 0)), (.flat (.string ⟨#[]⟩))]) 0 (.flat (.int .i64 10))) 1 (.flat (.int .i64 0))) 2 (.flat (.int .i64 48))) 3 (.flat (.string Yb7)))) 36 4 (upd (upd (upd (upd (lget [(.flat (.int .i64 0)), (.flat (.int .i64 0)), (.flat (.int .i64 0)), (.flat (.string ⟨#[]⟩))]) 0 (.flat (.int .i64 11))) 1 (.flat (.int .i64 0))) 2 (.flat (.int .i64 49))) 3 (.flat (.string Yb7)))) 40 4 (upd (upd (upd (upd (lget [(.flat (.int .i64 0)), (.flat (.int .i64 0)), (.flat (.int .i64 0)), (.flat (.string ⟨#[]⟩))]) 0 (.flat (.int .i64 12))) 1 (.flat (.int .i64 0))) 2 (.flat (.int .i64 50))) 3 (.flat (.string Yb7)))) 44 4 (upd (upd (upd (upd (lget [(.flat (.int .i64 0)), (.flat (.int .i64 0)), (.flat (.int .i64 0)), (.flat (.string ⟨#[]⟩))]) 0 (.flat (.int .i64 13))) 1 (.flat (.int .i64 0))) 2 (.flat (.int .i64 51))) 3 (.flat (.string Yb7)))) 48 4 (upd (upd (upd (upd (lget [(.flat (.int .i64 0)), (.flat (.int .i64 0)), (.flat (.int .i64 0)), (.flat (.string ⟨#[]⟩))]) 0 (.flat (.int .i64 14))) 1 (.flat (.int .i64 0))) 2 (.flat (.int .i64 52))) 3 (.flat (.string Yb7)))) 52 4 (upd (upd (upd (upd (lget [(.flat (.int .i64 0)), (.flat (.int .i64 0)), (.flat (.int .i64 0)), (.flat (.string ⟨#[]⟩))]) 0 (.flat (.int .i64 15))) 1 (.flat (.int .i64 0))) 2 (.flat (.int .i64 53))) 3 (.flat (.string Yb9)))) 56 4 (upd (upd (upd (upd (lget [(.flat (.int .i64 0)), (.flat (.int .i64 0)), (.flat (.int .i64 0)), (.flat (.string ⟨#[]⟩))]) 0 (.flat (.int .i64 17))) 1 (.flat (.int .i64 0))) 2 (.flat (.int .i64 62))) 3 (.flat (.string (⟨#[]⟩ : ByteArray))))) 60 4 (upd (upd (upd (upd (lget [(.flat (.int .i64 0)), (.flat (.int .i64 0)), (.flat (.int .i64 0)), (.flat (.string ⟨#[]⟩))]) 0 (.flat (.int .i64 32))) 1 (.flat (.int .i64 0))) 2 (.flat (.int .i64 66))) 3 (.flat (.string Yb7)))) 64 4 (upd (upd (upd (upd (lget [(.flat (.int .i64 0)), (.flat (.int .i64 0)), (.flat (.int .i64 0)), (.flat (.string ⟨#[]⟩))]) 0 (.flat (.int .i64 33))) 1 (.flat (.int .i64 0))) 2 (.flat (.int .i64 67))) 3 (.flat (.string Yb7)))) 68 4 (upd (upd (upd (upd (lget [(.flat (.int .i64 0)), (.flat (.int .i64 0)), (.flat (.int .i64 0)), (.flat (.string ⟨#[]⟩))]) 0 (.flat (.int .i64 35))) 1 (.flat (.int .i64 0))) 2 (.flat (.int .i64 68))) 3 (.flat (.string Yb7)))) 72 4 (upd (upd (upd (upd (lget [(.flat (.int .i64 0)), (.flat (.int .i64 0)), (.flat (.int .i64 0)), (.flat (.string ⟨#[]⟩))]) 0 (.flat (.int .i64 36))) 1 (.flat (.int .i64 0))) 2 (.flat (.int .i64 69))) 3 (.flat (.string Yb7)))) 76 4 (upd (upd (upd (upd (lget [(.flat (.int .i64 0)), (.flat (.int .i64 0)), (.flat (.int .i64 0)), (.flat (.string ⟨#[]⟩))]) 0 (.flat (.int .i64 37))) 1 (.flat (.int .i64 0))) 2 (.flat (.int .i64 70))) 3 (.flat (.string Yb7)))) 80 4 (upd (upd (upd (upd (lget [(.flat (.int .i64 0)), (.flat (.int .i64 0)), (.flat (.int .i64 0)), (.flat (.string ⟨#[]⟩))]) 0 (.flat (.int .i64 40))) 1 (.flat (.int .i64 0))) 2 (.flat (.int .i64 71))) 3 (.flat (.string Yb7)))) 84 4 (upd (upd (upd (upd (lget [(.flat (.int .i64 0)), (.flat (.int .i64 0)), (.flat (.int .i64 0)), (.flat (.string ⟨#[]⟩))]) 0 (.flat (.int .i64 41))) 1 (.flat (.int .i64 0))) 2 (.flat (.int .i64 72))) 3 (.flat (.string Yb7)))) 88 4 (upd (upd (upd (upd (lget [(.flat (.int .i64 0)), (.flat (.int .i64 0)), (.flat (.int .i64 0)), (.flat (.string ⟨#[]⟩))]) 0 (.flat (.int .i64 43))) 1 (.flat (.int .i64 0))) 2 (.flat (.int .i64 73))) 3 (.flat (.string Yb7)))) 92 4 (upd (upd (upd (upd (lget [(.flat (.int .i64 0)), (.flat (.int .i64 0)), (.flat (.int .i64 0)), (.flat (.string ⟨#[]⟩))]) 0 (.flat (.int .i64 47))) 1 (.flat (.int .i64 0))) 2 (.flat (.int .i64 76))) 3 (.flat (.string (⟨#[]⟩ : ByteArray))))) 96 4 (upd (upd (upd (upd (lget [(.flat (.int .i64 0)), (.flat (.int .i64 0)), (.flat (.int .i64 0)), (.flat (.string ⟨#[]⟩))]) 0 (.flat (.int .i64 48))) 1 (.flat (.int .i64 0))) 2 (.flat (.int .i64 74))) 3 (.flat (.string Yb7)))) 100 4 (upd (upd (upd (upd (lget [(.flat (.int .i64 0)), (.flat (.int .i64 0)), (.flat (.int .i64 0)), (.flat (.string ⟨#[]⟩))]) 0 (.flat (.int .i64 51))) 1 (.flat (.int .i64 0))) 2 (.flat (.int .i64 77))) 3 (.flat (.string (⟨#[]⟩ : ByteArray))))) 104 4 (upd (upd (upd (upd (lget [(.flat (.int .i64 0)), (.flat (.int .i64 0)), (.flat (.int .i64 0)), (.flat (.string ⟨#[]⟩))]) 0 (.flat (.int .i64 56))) 1 (.flat (.int .i64 0))) 2 (.flat (.int .i64 75))) 3 (.flat (.string Yb7))), 78, false⟩ fun b2 m1 => k (.sl b2 0 27 (.ex 27)) m1

def G80 (args : List AV) (m : Mem) (k : KV) : Prop := match args with
  | [] => F80  m (fun v_1000 m' => k v_1000 m')
  | _ => False

def Lam80 : LEnv := ⟨fun a σ m k => match firstReg a with
  | _ => bump False,
  fun id => match id with
  | _ => bump false,
  fun b => match keyC b with
  | _ => bump false,
  fun b σ m k => match keyC b with
  | _ => bump False⟩

theorem eqn80  (m : Mem) (k : KV) : bodyK Tryz.prog E80 Lam80 Tryz.f80 false [] m k = F80  m (fun v_1000 m' => k v_1000 m') := by
  kernel_rfl

theorem fs80 (w0 : World) : FS Tryz.prog w0 80 G80 := by
  refine (fs_body (Γ := E80) (sound_env (l := []) w0 (by
    intro p hp
    cases hp)) (by kernel_rfl) Tryz.func80 (Λ := Lam80) (c := (bodyOf Tryz.f80)) (by kernel_rfl) Tryz.call80 (by kernel_rfl) (LS_of (bodyOf Tryz.f80) 0 (by kernel_rfl) (fun i hi => absurd hi (Nat.not_lt_zero i)) 0 (by kernel_rfl) (fun i hi => absurd hi (Nat.not_lt_zero i))) false (np := 0) (Nat.le_of_ble_eq_true (by kernel_rfl))).imp fun args => ?_
  by_cases hl : args.length = 0
  rotate_left
  · exact .inr fun m k hk => by
      unfold G80 at hk
      split at hk
      · exact hl rfl
      · exact hk
  obtain rfl : args = [] := len_list0 hl

  exact .inl fun m k => propext ⟨fun h => ⟨rfl, by rw [eqn80]; simpa only [G80, kI, kbool, kS, kptr, kaggN, kite, decide_true, eq_self] using h⟩, fun h => by have h := h.2; rw [eqn80] at h; simpa only [G80, kI, kbool, kS, kptr, kaggN, kite, decide_true, eq_self] using h⟩

def E81 : Env := envOf []

/-- pianola/pianolaref3.others -/
def F81  (m : Mem) (k : AV → Mem → Prop) : Prop :=
  newK m ⟨60, splice (splice (splice (splice (splice (splice (splice (splice (splice (splice (splice (splice (splice (splice (splice (Z60) 0 4 (upd (upd (upd (upd (lget [(.flat (.int .i64 0)), (.flat (.int .i64 0)), (.flat (.int .i64 0)), (.flat (.string ⟨#[]⟩))]) 0 (.flat (.int .i64 1))) 1 (.flat (.int .i64 0))) 2 (.flat (.int .i64 36))) 3 (.flat (.string Yb8)))) 4 4 (upd (upd (upd (upd (lget [(.flat (.int .i64 0)), (.flat (.int .i64 0)), (.flat (.int .i64 0)), (.flat (.string ⟨#[]⟩))]) 0 (.flat (.int .i64 1))) 1 (.flat (.int .i64 1))) 2 (.flat (.int .i64 37))) 3 (.flat (.string Yb8)))) 8 4 (upd (upd (upd (upd (lget [(.flat (.int .i64 0)), (.flat (.int .i64 0)), (.flat (.int .i64 0)), (.flat (.string ⟨#[]⟩))]) 0 (.flat (.int .i64 1))) 1 (.flat (.int .i64 16))) 2 (.flat (.int .i64 38))) 3 (.flat (.string Yb8)))) 12 4 (upd (upd (upd (upd (lget [(.flat (.int .i64 0)), (.flat (.int .i64 0)), (.flat (.int .i64 0)), (.flat (.string ⟨#[]⟩))]) 0 (.flat (.int .i64 1))) 1 (.flat (.int .i64 17))) 2 (.flat (.int .i64 39))) 3 (.flat (.string Yb8)))) 16 4 (upd (upd (upd (upd (lget [(.flat (.int .i64 0)), (.flat (.int .i64 0)), (.flat (.int .i64 0)), (.flat (.string ⟨#[]⟩))]) 0 (.flat (.int .i64 16))) 1 (.flat (.int .i64 0))) 2 (.flat (.int .i64 54))) 3 (.flat (.string Yb10)))) 20 4 (upd (upd (upd (upd (lget [(.flat (.int .i64 0)), (.flat (.int .i64 0)), (.flat (.int .i64 0)), (.flat (.string ⟨#[]⟩))]) 0 (.flat (.int .i64 16))) 1 (.flat (.int .i64 4))) 2 (.flat (.int .i64 55))) 3 (.flat (.string Yb10)))) 24 4 (upd (upd (upd (upd (lget [(.flat (.int .i64 0)), (.flat (.int .i64 0)), (.flat (.int .i64 0)), (.flat (.string ⟨#[]⟩))]) 0 (.flat (.int .i64 16))) 1 (.flat (.int .i64 65))) 2 (.flat (.int .i64 56))) 3 (.flat (.string (⟨#[]⟩ : ByteArray))))) 28 4 (upd (upd (upd (upd (lget [(.flat (.int .i64 0)), (.flat (.int .i64 0)), (.flat (.int .i64 0)), (.flat (.string ⟨#[]⟩))]) 0 (.flat (.int .i64 16))) 1 (.flat (.int .i64 66))) 2 (.flat (.int .i64 57))) 3 (.flat (.string (⟨#[]⟩ : ByteArray))))) 32 4 (upd (upd (upd (upd (lget [(.flat (.int .i64 0)), (.flat (.int .i64 0)), (.flat (.int .i64 0)), (.flat (.string ⟨#[]⟩))]) 0 (.flat (.int .i64 16))) 1 (.flat (.int .i64 70))) 2 (.flat (.int .i64 58))) 3 (.flat (.string (⟨#[]⟩ : ByteArray))))) 36 4 (upd (upd (upd (upd (lget [(.flat (.int .i64 0)), (.flat (.int .i64 0)), (.flat (.int .i64 0)), (.flat (.string ⟨#[]⟩))]) 0 (.flat (.int .i64 16))) 1 (.flat (.int .i64 72))) 2 (.flat (.int .i64 59))) 3 (.flat (.string (⟨#[]⟩ : ByteArray))))) 40 4 (upd (upd (upd (upd (lget [(.flat (.int .i64 0)), (.flat (.int .i64 0)), (.flat (.int .i64 0)), (.flat (.string ⟨#[]⟩))]) 0 (.flat (.int .i64 16))) 1 (.flat (.int .i64 88))) 2 (.flat (.int .i64 60))) 3 (.flat (.string (⟨#[]⟩ : ByteArray))))) 44 4 (upd (upd (upd (upd (lget [(.flat (.int .i64 0)), (.flat (.int .i64 0)), (.flat (.int .i64 0)), (.flat (.string ⟨#[]⟩))]) 0 (.flat (.int .i64 16))) 1 (.flat (.int .i64 96))) 2 (.flat (.int .i64 61))) 3 (.flat (.string (⟨#[]⟩ : ByteArray))))) 48 4 (upd (upd (upd (upd (lget [(.flat (.int .i64 0)), (.flat (.int .i64 0)), (.flat (.int .i64 0)), (.flat (.string ⟨#[]⟩))]) 0 (.flat (.int .i64 28))) 1 (.flat (.int .i64 2))) 2 (.flat (.int .i64 63))) 3 (.flat (.string Yb1)))) 52 4 (upd (upd (upd (upd (lget [(.flat (.int .i64 0)), (.flat (.int .i64 0)), (.flat (.int .i64 0)), (.flat (.string ⟨#[]⟩))]) 0 (.flat (.int .i64 28))) 1 (.flat (.int .i64 32))) 2 (.flat (.int .i64 64))) 3 (.flat (.string Yb3)))) 56 4 (upd (upd (upd (upd (lget [(.flat (.int .i64 0)), (.flat (.int .i64 0)), (.flat (.int .i64 0)), (.flat (.string ⟨#[]⟩))]) 0 (.flat (.int .i64 28))) 1 (.flat (.int .i64 33))) 2 (.flat (.int .i64 65))) 3 (.flat (.string Yb3))), 78, false⟩ fun b2 m1 => k (.sl b2 0 15 (.ex 15)) m1

def G81 (args : List AV) (m : Mem) (k : KV) : Prop := match args with
  | [] => F81  m (fun v_1000 m' => k v_1000 m')
  | _ => False

def Lam81 : LEnv := ⟨fun a σ m k => match firstReg a with
  | _ => bump False,
  fun id => match id with
  | _ => bump false,
  fun b => match keyC b with
  | _ => bump false,
  fun b σ m k => match keyC b with
  | _ => bump False⟩

theorem eqn81  (m : Mem) (k : KV) : bodyK Tryz.prog E81 Lam81 Tryz.f81 false [] m k = F81  m (fun v_1000 m' => k v_1000 m') := by
  kernel_rfl

theorem fs81 (w0 : World) : FS Tryz.prog w0 81 G81 := by
  refine (fs_body (Γ := E81) (sound_env (l := []) w0 (by
    intro p hp
    cases hp)) (by kernel_rfl) Tryz.func81 (Λ := Lam81) (c := (bodyOf Tryz.f81)) (by kernel_rfl) Tryz.call81 (by kernel_rfl) (LS_of (bodyOf Tryz.f81) 0 (by kernel_rfl) (fun i hi => absurd hi (Nat.not_lt_zero i)) 0 (by kernel_rfl) (fun i hi => absurd hi (Nat.not_lt_zero i))) false (np := 0) (Nat.le_of_ble_eq_true (by kernel_rfl))).imp fun args => ?_
  by_cases hl : args.length = 0
  rotate_left
  · exact .inr fun m k hk => by
      unfold G81 at hk
      split at hk
      · exact hl rfl
      · exact hk
  obtain rfl : args = [] := len_list0 hl

  exact .inl fun m k => propext ⟨fun h => ⟨rfl, by rw [eqn81]; simpa only [G81, kI, kbool, kS, kptr, kaggN, kite, decide_true, eq_self] using h⟩, fun h => by have h := h.2; rw [eqn81] at h; simpa only [G81, kI, kbool, kS, kptr, kaggN, kite, decide_true, eq_self] using h⟩

def E38 : Env := envOf [(79, G79), (80, G80), (81, G81)]

def R38_10 (x_0 : Int) (b_2 o_2 : Nat) (x_4 : Int) (v_5 : AV) (x_6 : Int) (m : Mem) (kn : Int → Mem → Prop) (k2 : Mem → Prop) (kr : Bool → Mem → Prop) : Prop :=
  klen v_5 fun x9 => kif (decide (x_6 < x9)) (ksl v_5 fun b10 o11 l12 p13 => kif (decide (0 ≤ x_6) && decide (x_6 < l12)) (ldI .i64 m b10 (o11 + (x_6).toNat * 4 + 2) fun x14 => kif (x14 == x_0) (ksl v_5 fun b15 o16 l17 p18 => kif (decide (0 ≤ x_6) && decide (x_6 < l17)) (ldG 4 m b15 (o16 + (x_6).toNat * 4) fun c19 => stG 4 m b_2 o_2 c19 fun m20 => kr true m20) False) (kn (IntKind.wrap .i64 (x_6 + 1)) m)) False) (k2  m)

def L38_10 (x_0 : Int) (b_2 o_2 : Nat) (x_4 : Int) (v_5 : AV) : Nat → Int → Mem → (Mem → Prop) → (Bool → Mem → Prop) → Prop
  | 0, _,  _, _, _ => bump False
  | N + 1, x_6,  m, k2, kr => R38_10 x_0 b_2 o_2 x_4 v_5 x_6 m (fun x_6' m' => L38_10 x_0 b_2 o_2 x_4 v_5 N x_6' m' k2 kr) k2 kr

def P38_9102 (x_0 : Int) (b_2 o_2 : Nat) (x_4 : Int) (v_5 : AV) (m : Mem) (kn : Mem → Prop) (kr : Bool → Mem → Prop) : Prop :=
  ∃ N24, L38_10 x_0 b_2 o_2 x_4 v_5 N24 0 m (fun m21 => kn  m21) (fun x22 m23 => kr x22 m23)

def R38_2 (x_0 : Int) (b_2 o_2 : Nat) (x_4 : Int) (m : Mem) (kn : Int → Mem → Prop) (k0 : Mem → Prop) (kr : Bool → Mem → Prop) : Prop :=
  kif (decide (x_4 < 3)) (F79  m fun v3 m4 => kif (x_4 == 1) (F80  m4 fun v5 m6 => P38_9102 x_0 b_2 o_2 x_4 v5 m6 (fun m25 => kn (IntKind.wrap .i64 (x_4 + 1)) m25) (fun x26 m27 => kr x26 m27)) (kif (x_4 == 2) (F81  m4 fun v7 m8 => P38_9102 x_0 b_2 o_2 x_4 v7 m8 (fun m28 => kn (IntKind.wrap .i64 (x_4 + 1)) m28) (fun x29 m30 => kr x29 m30)) (P38_9102 x_0 b_2 o_2 x_4 v3 m4 (fun m31 => kn (IntKind.wrap .i64 (x_4 + 1)) m31) (fun x32 m33 => kr x32 m33)))) (k0  m)

def L38_2 (x_0 : Int) (b_2 o_2 : Nat) : Nat → Int → Mem → (Mem → Prop) → (Bool → Mem → Prop) → Prop
  | 0, _,  _, _, _ => bump False
  | N + 1, x_4,  m, k0, kr => R38_2 x_0 b_2 o_2 x_4 m (fun x_4' m' => L38_2 x_0 b_2 o_2 N x_4' m' k0 kr) k0 kr

/-- pianola/pianolaref3.find -/
def F38 (x_0 : Int) (m : Mem) (k : (Nat → AV) → Bool → Mem → Prop) : Prop :=
  newK m ⟨4, lget [(.flat (.int .i64 0)), (.flat (.int .i64 0)), (.flat (.int .i64 0)), (.flat (.string ⟨#[]⟩))], 78, false⟩ fun b2 m1 => ∃ N37, L38_2 x_0 b2 0 N37 0 m1 (fun m34 => stG 4 m34 b2 0 (lget [(.flat (.int .i64 0)), (.flat (.int .i64 0)), (.flat (.int .i64 0)), (.flat (.string ⟨#[]⟩))]) fun m38 => ldG 4 m38 b2 0 fun c40 => (Keeps m m38 ∧ (InDomG 4 m c40 ∧ True) ∧ k c40 false m)) (fun x35 m36 => ldG 4 m36 b2 0 fun c39 => (Keeps m m36 ∧ (InDomG 4 m c39 ∧ True) ∧ k c39 x35 m))

def G38 (args : List AV) (m : Mem) (k : KV) : Prop := match args with
  | [a0] => kI .i64 a0 fun x_0 => F38 x_0 m (fun c_1000 x_1001 m' => k (.tup [(.agg 4 c_1000), (.flat (.bool x_1001))]) m')
  | _ => False

def Lam38_2 (σ : Nat → AV) (m : Mem) (k : KX) : Prop := kI .i64 (σ 0) fun x_0 => kptr (σ 2) fun b_2 o_2 => kI .i64 (σ 4) fun x_4 => ∃ N, L38_2 x_0 b_2 o_2 N x_4 m (fun m' => k (.exit 0) (only [2] [(.ptr b_2 o_2)]) m') (fun x_3' m' => k .ret (only [2, 3] [(.ptr b_2 o_2), (.flat (.bool x_3'))]) m')

def LamP38_9102 (σ : Nat → AV) (m : Mem) (k : KX) : Prop := kI .i64 (σ 0) fun x_0 => kptr (σ 2) fun b_2 o_2 => kI .i64 (σ 4) fun x_4 => P38_9102 x_0 b_2 o_2 x_4 (σ 5) m (fun m' => k .normal (only [0, 2, 4] [(.flat (.int .i64 x_0)), (.ptr b_2 o_2), (.flat (.int .i64 x_4))]) m') (fun x_3' m' => k .ret (only [2, 3] [(.ptr b_2 o_2), (.flat (.bool x_3'))]) m')

def Lam38_10 (σ : Nat → AV) (m : Mem) (k : KX) : Prop := kI .i64 (σ 0) fun x_0 => kptr (σ 2) fun b_2 o_2 => kI .i64 (σ 4) fun x_4 => kI .i64 (σ 6) fun x_6 => ∃ N, L38_10 x_0 b_2 o_2 x_4 (σ 5) N x_6 m (fun m' => k (.exit 2) (only [0, 2, 4] [(.flat (.int .i64 x_0)), (.ptr b_2 o_2), (.flat (.int .i64 x_4))]) m') (fun x_3' m' => k .ret (only [2, 3] [(.ptr b_2 o_2), (.flat (.bool x_3'))]) m')

def Lam38 : LEnv := ⟨fun a σ m k => match firstReg a with
  | some 2 => Lam38_2 σ m k
  | some 10 => Lam38_10 σ m k
  | _ => bump False,
  fun id => match id with
  | _ => bump false,
  fun b => match keyC b with
  | some 9102 => true
  | _ => bump false,
  fun b σ m k => match keyC b with
  | some 9102 => LamP38_9102 σ m k
  | _ => bump False⟩

def lx38_10 : Ex → List Nat := fun e => match e with
  | .exit 2 => [0, 2, 4]
  | .ret => [2, 3]
  | _ => []

theorem round38_10 (x_0 : Int) (b_2 o_2 : Nat) (x_4 : Int) (v_5 : AV) (x_6 : Int) (m : Mem) (G : List AV → Mem → Prop) (k : KX) : (wpA Tryz.prog E38 Lam38 ((loopsOf (bodyOf Tryz.f38)).getD 1 .skip) (only [0, 2, 4, 5, 6] [(.flat (.int .i64 x_0)), (.ptr b_2 o_2), (.flat (.int .i64 x_4)), v_5, (.flat (.int .i64 x_6))]) m fun e σ' m' => match e with
    | .normal => G ([0, 2, 4, 5, 6].map σ') m'
    | .exit id => k (.exit id) (only (lx38_10 (.exit id)) ((lx38_10 (.exit id)).map σ')) m'
    | .ret => k .ret (only (lx38_10 .ret) ((lx38_10 .ret).map σ')) m') = R38_10 x_0 b_2 o_2 x_4 v_5 x_6 m (fun x_6' m' => G [(.flat (.int .i64 x_0)), (.ptr b_2 o_2), (.flat (.int .i64 x_4)), v_5, (.flat (.int .i64 x_6'))] m') (fun m' => k (.exit 2) (only [0, 2, 4] [(.flat (.int .i64 x_0)), (.ptr b_2 o_2), (.flat (.int .i64 x_4))]) m') (fun x_3' m' => k .ret (only [2, 3] [(.ptr b_2 o_2), (.flat (.bool x_3'))]) m') := by
  kernel_rfl

theorem loop38_10 (x_0 : Int) (b_2 o_2 : Nat) (x_4 : Int) (v_5 : AV) (k : KX) : ∀ (N : Nat) (x_6 : Int) (m : Mem), rounds Tryz.prog E38 Lam38 [0, 2, 4, 5, 6] lx38_10 ((loopsOf (bodyOf Tryz.f38)).getD 1 .skip) N [(.flat (.int .i64 x_0)), (.ptr b_2 o_2), (.flat (.int .i64 x_4)), v_5, (.flat (.int .i64 x_6))] m k = L38_10 x_0 b_2 o_2 x_4 v_5 N x_6 m (fun m' => k (.exit 2) (only [0, 2, 4] [(.flat (.int .i64 x_0)), (.ptr b_2 o_2), (.flat (.int .i64 x_4))]) m') (fun x_3' m' => k .ret (only [2, 3] [(.ptr b_2 o_2), (.flat (.bool x_3'))]) m') := by
  intro N
  induction N with
  | zero => intros; rfl
  | succ N ih =>
    intro x_6 m
    refine (round38_10 x_0 b_2 o_2 x_4 v_5 x_6 m (fun vs m' => rounds Tryz.prog E38 Lam38 [0, 2, 4, 5, 6] lx38_10 ((loopsOf (bodyOf Tryz.f38)).getD 1 .skip) N vs m' k) k).trans ?_
    simp only [ih]
    rfl

theorem lok38_10 : LoopOK Tryz.prog E38 Lam38 ((loopsOf (bodyOf Tryz.f38)).getD 1 .skip) := by
  refine ⟨fun σ => ∃ x_0 b_2 o_2 x_4 v_5 x_6, σ 0 = .flat (.int .i64 x_0) ∧ σ 2 = .ptr b_2 o_2 ∧ σ 4 = .flat (.int .i64 x_4) ∧ σ 5 = v_5 ∧ σ 6 = .flat (.int .i64 x_6), [0, 2, 4, 5, 6], lx38_10, fun σ m k => ?_⟩
  have e : Lam38.loop ((loopsOf (bodyOf Tryz.f38)).getD 1 .skip) σ m k = Lam38_10 σ m k := by kernel_rfl
  rw [e]
  constructor
  · intro h
    unfold Lam38_10 at h
    obtain ⟨x_0, h0, h⟩ := kI_ok h
    obtain ⟨b_2, o_2, h1, h⟩ := kptr_ok h
    obtain ⟨x_4, h2, h⟩ := kI_ok h
    obtain ⟨v_5, h3⟩ : ∃ v, σ 5 = v := ⟨_, rfl⟩
    obtain ⟨x_6, h4, h⟩ := kI_ok h
    obtain ⟨N, h⟩ := h
    refine ⟨⟨x_0, b_2, o_2, x_4, v_5, x_6, h0, h1, h2, h3, h4⟩, N, ?_⟩
    have ev : [0, 2, 4, 5, 6].map σ = [(.flat (.int .i64 x_0)), (.ptr b_2 o_2), (.flat (.int .i64 x_4)), v_5, (.flat (.int .i64 x_6))] := by simp only [List.map_cons, List.map_nil, h0, h1, h2, h3, h4]
    rw [ev, loop38_10]
    simp only [h3] at h
    exact h
  · rintro ⟨⟨x_0, b_2, o_2, x_4, v_5, x_6, h0, h1, h2, h3, h4⟩, N, h⟩
    have ev : [0, 2, 4, 5, 6].map σ = [(.flat (.int .i64 x_0)), (.ptr b_2 o_2), (.flat (.int .i64 x_4)), v_5, (.flat (.int .i64 x_6))] := by simp only [List.map_cons, List.map_nil, h0, h1, h2, h3, h4]
    rw [ev, loop38_10] at h
    unfold Lam38_10
    try simp only [h0, h1, h2, h3, h4, kI, kbool, kS, kptr, kaggN, kite, decide_true, eq_self]
    exact ⟨N, h⟩

def lxp38_9102 : Ex → List Nat := fun e => match e with
  | .normal => [0, 2, 4]
  | .ret => [2, 3]
  | _ => []

theorem pc38_9102 (x_0 : Int) (b_2 o_2 : Nat) (x_4 : Int) (v_5 : AV) (m : Mem) (k : KX) : once Tryz.prog E38 Lam38 [0, 2, 4, 5] lxp38_9102 (((secsOf (bodyOf Tryz.f38)).filter Lam38.cut).getD 0 .skip) [(.flat (.int .i64 x_0)), (.ptr b_2 o_2), (.flat (.int .i64 x_4)), v_5] m k = P38_9102 x_0 b_2 o_2 x_4 v_5 m (fun m' => k .normal (only [0, 2, 4] [(.flat (.int .i64 x_0)), (.ptr b_2 o_2), (.flat (.int .i64 x_4))]) m') (fun x_3' m' => k .ret (only [2, 3] [(.ptr b_2 o_2), (.flat (.bool x_3'))]) m') := by
  kernel_rfl

theorem pok38_9102 : PieceOK Tryz.prog E38 Lam38 (((secsOf (bodyOf Tryz.f38)).filter Lam38.cut).getD 0 .skip) := by
  refine ⟨fun σ => ∃ x_0 b_2 o_2 x_4 v_5, σ 0 = .flat (.int .i64 x_0) ∧ σ 2 = .ptr b_2 o_2 ∧ σ 4 = .flat (.int .i64 x_4) ∧ σ 5 = v_5, [0, 2, 4, 5], lxp38_9102, fun σ m k => ?_⟩
  have e : Lam38.piece (((secsOf (bodyOf Tryz.f38)).filter Lam38.cut).getD 0 .skip) σ m k = LamP38_9102 σ m k := by kernel_rfl
  rw [e]
  constructor
  · intro h
    unfold LamP38_9102 at h
    obtain ⟨x_0, h0, h⟩ := kI_ok h
    obtain ⟨b_2, o_2, h1, h⟩ := kptr_ok h
    obtain ⟨x_4, h2, h⟩ := kI_ok h
    obtain ⟨v_5, h3⟩ : ∃ v, σ 5 = v := ⟨_, rfl⟩
    refine ⟨⟨x_0, b_2, o_2, x_4, v_5, h0, h1, h2, h3⟩, ?_⟩
    have ev : [0, 2, 4, 5].map σ = [(.flat (.int .i64 x_0)), (.ptr b_2 o_2), (.flat (.int .i64 x_4)), v_5] := by simp only [List.map_cons, List.map_nil, h0, h1, h2, h3]
    rw [ev, pc38_9102]
    simp only [h3] at h
    exact h
  · rintro ⟨⟨x_0, b_2, o_2, x_4, v_5, h0, h1, h2, h3⟩, h⟩
    have ev : [0, 2, 4, 5].map σ = [(.flat (.int .i64 x_0)), (.ptr b_2 o_2), (.flat (.int .i64 x_4)), v_5] := by simp only [List.map_cons, List.map_nil, h0, h1, h2, h3]
    rw [ev, pc38_9102] at h
    unfold LamP38_9102
    try simp only [h0, h1, h2, h3, kI, kbool, kS, kptr, kaggN, kite, decide_true, eq_self]
    exact h

def lx38_2 : Ex → List Nat := fun e => match e with
  | .exit 0 => [2]
  | .ret => [2, 3]
  | _ => []

theorem round38_2 (x_0 : Int) (b_2 o_2 : Nat) (x_4 : Int) (m : Mem) (G : List AV → Mem → Prop) (k : KX) : (wpA Tryz.prog E38 Lam38 ((loopsOf (bodyOf Tryz.f38)).getD 0 .skip) (only [0, 2, 4] [(.flat (.int .i64 x_0)), (.ptr b_2 o_2), (.flat (.int .i64 x_4))]) m fun e σ' m' => match e with
    | .normal => G ([0, 2, 4].map σ') m'
    | .exit id => k (.exit id) (only (lx38_2 (.exit id)) ((lx38_2 (.exit id)).map σ')) m'
    | .ret => k .ret (only (lx38_2 .ret) ((lx38_2 .ret).map σ')) m') = R38_2 x_0 b_2 o_2 x_4 m (fun x_4' m' => G [(.flat (.int .i64 x_0)), (.ptr b_2 o_2), (.flat (.int .i64 x_4'))] m') (fun m' => k (.exit 0) (only [2] [(.ptr b_2 o_2)]) m') (fun x_3' m' => k .ret (only [2, 3] [(.ptr b_2 o_2), (.flat (.bool x_3'))]) m') := by
  kernel_rfl

theorem loop38_2 (x_0 : Int) (b_2 o_2 : Nat) (k : KX) : ∀ (N : Nat) (x_4 : Int) (m : Mem), rounds Tryz.prog E38 Lam38 [0, 2, 4] lx38_2 ((loopsOf (bodyOf Tryz.f38)).getD 0 .skip) N [(.flat (.int .i64 x_0)), (.ptr b_2 o_2), (.flat (.int .i64 x_4))] m k = L38_2 x_0 b_2 o_2 N x_4 m (fun m' => k (.exit 0) (only [2] [(.ptr b_2 o_2)]) m') (fun x_3' m' => k .ret (only [2, 3] [(.ptr b_2 o_2), (.flat (.bool x_3'))]) m') := by
  intro N
  induction N with
  | zero => intros; rfl
  | succ N ih =>
    intro x_4 m
    refine (round38_2 x_0 b_2 o_2 x_4 m (fun vs m' => rounds Tryz.prog E38 Lam38 [0, 2, 4] lx38_2 ((loopsOf (bodyOf Tryz.f38)).getD 0 .skip) N vs m' k) k).trans ?_
    simp only [ih]
    rfl

theorem lok38_2 : LoopOK Tryz.prog E38 Lam38 ((loopsOf (bodyOf Tryz.f38)).getD 0 .skip) := by
  refine ⟨fun σ => ∃ x_0 b_2 o_2 x_4, σ 0 = .flat (.int .i64 x_0) ∧ σ 2 = .ptr b_2 o_2 ∧ σ 4 = .flat (.int .i64 x_4), [0, 2, 4], lx38_2, fun σ m k => ?_⟩
  have e : Lam38.loop ((loopsOf (bodyOf Tryz.f38)).getD 0 .skip) σ m k = Lam38_2 σ m k := by kernel_rfl
  rw [e]
  constructor
  · intro h
    unfold Lam38_2 at h
    obtain ⟨x_0, h0, h⟩ := kI_ok h
    obtain ⟨b_2, o_2, h1, h⟩ := kptr_ok h
    obtain ⟨x_4, h2, h⟩ := kI_ok h
    obtain ⟨N, h⟩ := h
    refine ⟨⟨x_0, b_2, o_2, x_4, h0, h1, h2⟩, N, ?_⟩
    have ev : [0, 2, 4].map σ = [(.flat (.int .i64 x_0)), (.ptr b_2 o_2), (.flat (.int .i64 x_4))] := by simp only [List.map_cons, List.map_nil, h0, h1, h2]
    rw [ev, loop38_2]
    exact h
  · rintro ⟨⟨x_0, b_2, o_2, x_4, h0, h1, h2⟩, N, h⟩
    have ev : [0, 2, 4].map σ = [(.flat (.int .i64 x_0)), (.ptr b_2 o_2), (.flat (.int .i64 x_4))] := by simp only [List.map_cons, List.map_nil, h0, h1, h2]
    rw [ev, loop38_2] at h
    unfold Lam38_2
    try simp only [h0, h1, h2, kI, kbool, kS, kptr, kaggN, kite, decide_true, eq_self]
    exact ⟨N, h⟩

theorem eqn38 (x_0 : Int) (m : Mem) (k : KV) : bodyK Tryz.prog E38 Lam38 Tryz.f38 true [(.flat (.int .i64 x_0))] m k = F38 x_0 m (fun c_1000 x_1001 m' => k (.tup [(.agg 4 c_1000), (.flat (.bool x_1001))]) m') := by
  kernel_rfl

theorem fs38 (w0 : World) : FS Tryz.prog w0 38 G38 := by
  refine (fs_body (Γ := E38) (sound_env (l := [(79, G79), (80, G80), (81, G81)]) w0 (by
    intro p hp
    simp only [List.mem_cons, List.not_mem_nil, or_false] at hp
    rcases hp with rfl | rfl | rfl
    · exact fs79 w0
    · exact fs80 w0
    · exact fs81 w0)) (by kernel_rfl) Tryz.func38 (Λ := Lam38) (c := (bodyOf Tryz.f38)) (by kernel_rfl) Tryz.call38 (by kernel_rfl) (LS_of (bodyOf Tryz.f38) 2 (by kernel_rfl) (by
    intro i hi
    match i, hi with
    | 0, _ => exact lok38_2
    | 1, _ => exact lok38_10
    | i + 2, hi => omega) 1 (by kernel_rfl) (by
    intro i hi
    match i, hi with
    | 0, _ => exact pok38_9102
    | i + 1, hi => omega)) true (np := 1) (Nat.le_of_ble_eq_true (by kernel_rfl))).imp fun args => ?_
  by_cases hl : args.length = 1
  rotate_left
  · exact .inr fun m k hk => by
      unfold G38 at hk
      split at hk
      · exact hl rfl
      · exact hk
  obtain ⟨a0, rfl⟩ : ∃ a0, args = [a0] := len_list1 hl
  rcases kI_or .i64 a0 with ⟨x_0, rfl⟩ | h
  rotate_left
  · exact .inr fun m k hk => h _ (by simpa only [G38, kI, kbool, kS, kptr, kaggN, kite, decide_true, eq_self] using hk)
  exact .inl fun m k => propext ⟨fun h => ⟨rfl, by rw [eqn38]; simpa only [G38, kI, kbool, kS, kptr, kaggN, kite, decide_true, eq_self] using h⟩, fun h => by have h := h.2; rw [eqn38] at h; simpa only [G38, kI, kbool, kS, kptr, kaggN, kite, decide_true, eq_self] using h⟩

def E39 : Env := envOf []

def R39_2 (x_0 : ByteArray) (x_1 : Int) (x_5 : Int) (m : Mem) (kn : Int → Mem → Prop) (k0 : Mem → Prop) (kr : Bool → Mem → Prop) : Prop :=
  kif (decide (x_5 < (↑(x_0.size)))) (kif (decide (0 ≤ x_5) && decide (x_5 < x_0.size)) (kif (((x_0.data.getD (x_5).toNat 0).toNat) == x_1) (kr true m) (kn (IntKind.wrap .i64 (x_5 + 1)) m)) False) (k0  m)

def L39_2 (x_0 : ByteArray) (x_1 : Int) : Nat → Int → Mem → (Mem → Prop) → (Bool → Mem → Prop) → Prop
  | 0, _,  _, _, _ => bump False
  | N + 1, x_5,  m, k0, kr => R39_2 x_0 x_1 x_5 m (fun x_5' m' => L39_2 x_0 x_1 N x_5' m' k0 kr) k0 kr

/-- pianola/pianolaref3.has -/
def F39 (x_0 : ByteArray) (x_1 : Int) (m : Mem) (k : Bool → Mem → Prop) : Prop :=
  ∃ N4, L39_2 x_0 x_1 N4 0 m (fun m1 => (Keeps m m1 ∧ k false m)) (fun x2 m3 => (Keeps m m3 ∧ k x2 m))

def G39 (args : List AV) (m : Mem) (k : KV) : Prop := match args with
  | [a0, a1] => kS a0 fun x_0 => kI .u8 a1 fun x_1 => F39 x_0 x_1 m (fun x_1000 m' => k (.flat (.bool x_1000)) m')
  | _ => False

def Lam39_2 (σ : Nat → AV) (m : Mem) (k : KX) : Prop := kS (σ 0) fun x_0 => kI .u8 (σ 1) fun x_1 => kI .i64 (σ 5) fun x_5 => ∃ N, L39_2 x_0 x_1 N x_5 m (fun m' => k (.exit 0) (only [] []) m') (fun x_4' m' => k .ret (only [4] [(.flat (.bool x_4'))]) m')

def Lam39 : LEnv := ⟨fun a σ m k => match firstReg a with
  | some 2 => Lam39_2 σ m k
  | _ => bump False,
  fun id => match id with
  | _ => bump false,
  fun b => match keyC b with
  | _ => bump false,
  fun b σ m k => match keyC b with
  | _ => bump False⟩

def lx39_2 : Ex → List Nat := fun e => match e with
  | .exit 0 => []
  | .ret => [4]
  | _ => []

theorem round39_2 (x_0 : ByteArray) (x_1 : Int) (x_5 : Int) (m : Mem) (G : List AV → Mem → Prop) (k : KX) : (wpA Tryz.prog E39 Lam39 ((loopsOf (bodyOf Tryz.f39)).getD 0 .skip) (only [0, 1, 5] [(.flat (.string x_0)), (.flat (.int .u8 x_1)), (.flat (.int .i64 x_5))]) m fun e σ' m' => match e with
    | .normal => G ([0, 1, 5].map σ') m'
    | .exit id => k (.exit id) (only (lx39_2 (.exit id)) ((lx39_2 (.exit id)).map σ')) m'
    | .ret => k .ret (only (lx39_2 .ret) ((lx39_2 .ret).map σ')) m') = R39_2 x_0 x_1 x_5 m (fun x_5' m' => G [(.flat (.string x_0)), (.flat (.int .u8 x_1)), (.flat (.int .i64 x_5'))] m') (fun m' => k (.exit 0) (only [] []) m') (fun x_4' m' => k .ret (only [4] [(.flat (.bool x_4'))]) m') := by
  kernel_rfl

theorem loop39_2 (x_0 : ByteArray) (x_1 : Int) (k : KX) : ∀ (N : Nat) (x_5 : Int) (m : Mem), rounds Tryz.prog E39 Lam39 [0, 1, 5] lx39_2 ((loopsOf (bodyOf Tryz.f39)).getD 0 .skip) N [(.flat (.string x_0)), (.flat (.int .u8 x_1)), (.flat (.int .i64 x_5))] m k = L39_2 x_0 x_1 N x_5 m (fun m' => k (.exit 0) (only [] []) m') (fun x_4' m' => k .ret (only [4] [(.flat (.bool x_4'))]) m') := by
  intro N
  induction N with
  | zero => intros; rfl
  | succ N ih =>
    intro x_5 m
    refine (round39_2 x_0 x_1 x_5 m (fun vs m' => rounds Tryz.prog E39 Lam39 [0, 1, 5] lx39_2 ((loopsOf (bodyOf Tryz.f39)).getD 0 .skip) N vs m' k) k).trans ?_
    simp only [ih]
    rfl

theorem lok39_2 : LoopOK Tryz.prog E39 Lam39 ((loopsOf (bodyOf Tryz.f39)).getD 0 .skip) := by
  refine ⟨fun σ => ∃ x_0 x_1 x_5, σ 0 = .flat (.string x_0) ∧ σ 1 = .flat (.int .u8 x_1) ∧ σ 5 = .flat (.int .i64 x_5), [0, 1, 5], lx39_2, fun σ m k => ?_⟩
  have e : Lam39.loop ((loopsOf (bodyOf Tryz.f39)).getD 0 .skip) σ m k = Lam39_2 σ m k := by kernel_rfl
  rw [e]
  constructor
  · intro h
    unfold Lam39_2 at h
    obtain ⟨x_0, h0, h⟩ := kS_ok h
    obtain ⟨x_1, h1, h⟩ := kI_ok h
    obtain ⟨x_5, h2, h⟩ := kI_ok h
    obtain ⟨N, h⟩ := h
    refine ⟨⟨x_0, x_1, x_5, h0, h1, h2⟩, N, ?_⟩
    have ev : [0, 1, 5].map σ = [(.flat (.string x_0)), (.flat (.int .u8 x_1)), (.flat (.int .i64 x_5))] := by simp only [List.map_cons, List.map_nil, h0, h1, h2]
    rw [ev, loop39_2]
    exact h
  · rintro ⟨⟨x_0, x_1, x_5, h0, h1, h2⟩, N, h⟩
    have ev : [0, 1, 5].map σ = [(.flat (.string x_0)), (.flat (.int .u8 x_1)), (.flat (.int .i64 x_5))] := by simp only [List.map_cons, List.map_nil, h0, h1, h2]
    rw [ev, loop39_2] at h
    unfold Lam39_2
    try simp only [h0, h1, h2, kI, kbool, kS, kptr, kaggN, kite, decide_true, eq_self]
    exact ⟨N, h⟩

theorem eqn39 (x_0 : ByteArray) (x_1 : Int) (m : Mem) (k : KV) : bodyK Tryz.prog E39 Lam39 Tryz.f39 true [(.flat (.string x_0)), (.flat (.int .u8 x_1))] m k = F39 x_0 x_1 m (fun x_1000 m' => k (.flat (.bool x_1000)) m') := by
  kernel_rfl

theorem fs39 (w0 : World) : FS Tryz.prog w0 39 G39 := by
  refine (fs_body (Γ := E39) (sound_env (l := []) w0 (by
    intro p hp
    cases hp)) (by kernel_rfl) Tryz.func39 (Λ := Lam39) (c := (bodyOf Tryz.f39)) (by kernel_rfl) Tryz.call39 (by kernel_rfl) (LS_of (bodyOf Tryz.f39) 1 (by kernel_rfl) (by
    intro i hi
    match i, hi with
    | 0, _ => exact lok39_2
    | i + 1, hi => omega) 0 (by kernel_rfl) (fun i hi => absurd hi (Nat.not_lt_zero i))) true (np := 2) (Nat.le_of_ble_eq_true (by kernel_rfl))).imp fun args => ?_
  by_cases hl : args.length = 2
  rotate_left
  · exact .inr fun m k hk => by
      unfold G39 at hk
      split at hk
      · exact hl rfl
      · exact hk
  obtain ⟨a0, a1, rfl⟩ : ∃ a0 a1, args = [a0, a1] := len_list2 hl
  rcases kS_or a0 with ⟨x_0, rfl⟩ | h
  rotate_left
  · exact .inr fun m k hk => h _ (by simpa only [G39, kI, kbool, kS, kptr, kaggN, kite, decide_true, eq_self] using hk)
  rcases kI_or .u8 a1 with ⟨x_1, rfl⟩ | h
  rotate_left
  · exact .inr fun m k hk => h _ (by simpa only [G39, kI, kbool, kS, kptr, kaggN, kite, decide_true, eq_self] using hk)
  exact .inl fun m k => propext ⟨fun h => ⟨rfl, by rw [eqn39]; simpa only [G39, kI, kbool, kS, kptr, kaggN, kite, decide_true, eq_self] using h⟩, fun h => by have h := h.2; rw [eqn39] at h; simpa only [G39, kI, kbool, kS, kptr, kaggN, kite, decide_true, eq_self] using h⟩

def E40 : Env := envOf []

/-- pianola/pianolaref3.small -/
def F40 (x_0 : Int) (x_1 : Bool) (m : Mem) (k : Bool → Mem → Prop) : Prop :=
  kif (x_0 == 0) ((Keeps m m ∧ k true m)) (kif x_1 (kif (decide (x_0 > 0)) ((Keeps m m ∧ k (decide (x_0 < 32)) m)) ((Keeps m m ∧ k false m))) ((Keeps m m ∧ k false m)))

def G40 (args : List AV) (m : Mem) (k : KV) : Prop := match args with
  | [a0, a1] => kI .i64 a0 fun x_0 => kbool a1 fun x_1 => F40 x_0 x_1 m (fun x_1000 m' => k (.flat (.bool x_1000)) m')
  | _ => False

def Lam40 : LEnv := ⟨fun a σ m k => match firstReg a with
  | _ => bump False,
  fun id => match id with
  | _ => bump false,
  fun b => match keyC b with
  | _ => bump false,
  fun b σ m k => match keyC b with
  | _ => bump False⟩

theorem eqn40 (x_0 : Int) (x_1 : Bool) (m : Mem) (k : KV) : bodyK Tryz.prog E40 Lam40 Tryz.f40 true [(.flat (.int .i64 x_0)), (.flat (.bool x_1))] m k = F40 x_0 x_1 m (fun x_1000 m' => k (.flat (.bool x_1000)) m') := by
  kernel_rfl

theorem fs40 (w0 : World) : FS Tryz.prog w0 40 G40 := by
  refine (fs_body (Γ := E40) (sound_env (l := []) w0 (by
    intro p hp
    cases hp)) (by kernel_rfl) Tryz.func40 (Λ := Lam40) (c := (bodyOf Tryz.f40)) (by kernel_rfl) Tryz.call40 (by kernel_rfl) (LS_of (bodyOf Tryz.f40) 0 (by kernel_rfl) (fun i hi => absurd hi (Nat.not_lt_zero i)) 0 (by kernel_rfl) (fun i hi => absurd hi (Nat.not_lt_zero i))) true (np := 2) (Nat.le_of_ble_eq_true (by kernel_rfl))).imp fun args => ?_
  by_cases hl : args.length = 2
  rotate_left
  · exact .inr fun m k hk => by
      unfold G40 at hk
      split at hk
      · exact hl rfl
      · exact hk
  obtain ⟨a0, a1, rfl⟩ : ∃ a0 a1, args = [a0, a1] := len_list2 hl
  rcases kI_or .i64 a0 with ⟨x_0, rfl⟩ | h
  rotate_left
  · exact .inr fun m k hk => h _ (by simpa only [G40, kI, kbool, kS, kptr, kaggN, kite, decide_true, eq_self] using hk)
  rcases kbool_or a1 with ⟨x_1, rfl⟩ | h
  rotate_left
  · exact .inr fun m k hk => h _ (by simpa only [G40, kI, kbool, kS, kptr, kaggN, kite, decide_true, eq_self] using hk)
  exact .inl fun m k => propext ⟨fun h => ⟨rfl, by rw [eqn40]; simpa only [G40, kI, kbool, kS, kptr, kaggN, kite, decide_true, eq_self] using h⟩, fun h => by have h := h.2; rw [eqn40] at h; simpa only [G40, kI, kbool, kS, kptr, kaggN, kite, decide_true, eq_self] using h⟩

def E18 : Env := envOf [(38, G38), (39, G39), (40, G40)]

def P18_10102 (b_1 o_1 : Nat) (x_5 : ByteArray) (x_6 : Int) (m : Mem) (kr : Bool → Mem → Prop) : Prop :=
  ∃ Fr15 : Nat → Prop, Fr15 b_1 ∧ (ldI .i64 m b_1 (o_1 + 1) fun x16 => F39 x_5 115 m fun x17 m18 => KeepsIn Fr15 m m18 ∧ (F40 x16 x17 m18 fun x19 m20 => KeepsIn Fr15 m18 m20 ∧ (kif x19 (Fr15 b_1 ∧ (ldI .i64 m20 b_1 (o_1 + 2) fun x21 => F39 x_5 116 m20 fun x22 m23 => KeepsIn Fr15 m20 m23 ∧ (F40 x21 x22 m23 fun x24 m25 => KeepsIn Fr15 m23 m25 ∧ (kif x24 (Fr15 b_1 ∧ (ldI .i64 m25 b_1 (o_1 + 3) fun x26 => F39 x_5 100 m25 fun x27 m28 => KeepsIn Fr15 m25 m28 ∧ (F40 x26 x27 m28 fun x29 m30 => KeepsIn Fr15 m28 m30 ∧ (kif x29 (Fr15 b_1 ∧ (ldI .i64 m30 b_1 (o_1 + 4) fun x31 => F39 x_5 104 m30 fun x32 m33 => KeepsIn Fr15 m30 m33 ∧ (F40 x31 x32 m33 fun x34 m35 => KeepsIn Fr15 m33 m35 ∧ (kif x34 (Fr15 b_1 ∧ (ldI .u32 m35 b_1 (o_1 + 5) fun x36 => kr (decide (x36 ≤ x_6)) m35)) (kr false m35))))) (kr false m30))))) (kr false m25))))) (kr false m20))))

/-- pianola/pianolaref3.Right -/
def F18 (c_0 : Nat → AV) (m : Mem) (k : Bool → Mem → Prop) : Prop :=
  newK m ⟨6, c_0, 25, false⟩ fun b2 m1 => ldI .i64 m1 b2 0 fun x3 => F38 x3 m1 fun c4 x5 m6 => newK m6 ⟨4, lget [(.flat (.int .i64 0)), (.flat (.int .i64 0)), (.flat (.int .i64 0)), (.flat (.string ⟨#[]⟩))], 78, false⟩ fun b8 m7 => stG 4 m7 b8 0 c4 fun m9 => kif (!x5) ((Keeps m m9 ∧ k false m)) (ldS m9 b8 3 fun x10 => F39 x10 105 m9 fun x11 m12 => kif x11 (P18_10102 b2 0 x10 65535 m12 (fun x37 m38 => (Keeps m m38 ∧ k x37 m))) (F39 x10 106 m12 fun x13 m14 => kif x13 (P18_10102 b2 0 x10 67108863 m14 (fun x39 m40 => (Keeps m m40 ∧ k x39 m))) (P18_10102 b2 0 x10 0 m14 (fun x41 m42 => (Keeps m m42 ∧ k x41 m)))))

def G18 (args : List AV) (m : Mem) (k : KV) : Prop := match args with
  | [a0] => kaggN 6 a0 fun c_0 => F18 c_0 m (fun x_1000 m' => k (.flat (.bool x_1000)) m')
  | _ => False

def LamP18_10102 (σ : Nat → AV) (m : Mem) (k : KX) : Prop := kptr (σ 1) fun b_1 o_1 => kS (σ 5) fun x_5 => kI .u32 (σ 6) fun x_6 => P18_10102 b_1 o_1 x_5 x_6 m (fun x_2' m' => k .ret (only [2] [(.flat (.bool x_2'))]) m')

def Lam18 : LEnv := ⟨fun a σ m k => match firstReg a with
  | _ => bump False,
  fun id => match id with
  | 10 => true
  | _ => bump false,
  fun b => match keyC b with
  | some 10102 => true
  | _ => bump false,
  fun b σ m k => match keyC b with
  | some 10102 => LamP18_10102 σ m k
  | _ => bump False⟩

def lxp18_10102 : Ex → List Nat := fun e => match e with
  | .ret => [2]
  | _ => []

theorem pc18_10102 (b_1 o_1 : Nat) (x_5 : ByteArray) (x_6 : Int) (m : Mem) (k : KX) : once Tryz.prog E18 Lam18 [1, 5, 6] lxp18_10102 (((secsOf (bodyOf Tryz.f18)).filter Lam18.cut).getD 0 .skip) [(.ptr b_1 o_1), (.flat (.string x_5)), (.flat (.int .u32 x_6))] m k = P18_10102 b_1 o_1 x_5 x_6 m (fun x_2' m' => k .ret (only [2] [(.flat (.bool x_2'))]) m') := by
  kernel_rfl

theorem pok18_10102 : PieceOK Tryz.prog E18 Lam18 (((secsOf (bodyOf Tryz.f18)).filter Lam18.cut).getD 0 .skip) := by
  refine ⟨fun σ => ∃ b_1 o_1 x_5 x_6, σ 1 = .ptr b_1 o_1 ∧ σ 5 = .flat (.string x_5) ∧ σ 6 = .flat (.int .u32 x_6), [1, 5, 6], lxp18_10102, fun σ m k => ?_⟩
  have e : Lam18.piece (((secsOf (bodyOf Tryz.f18)).filter Lam18.cut).getD 0 .skip) σ m k = LamP18_10102 σ m k := by kernel_rfl
  rw [e]
  constructor
  · intro h
    unfold LamP18_10102 at h
    obtain ⟨b_1, o_1, h0, h⟩ := kptr_ok h
    obtain ⟨x_5, h1, h⟩ := kS_ok h
    obtain ⟨x_6, h2, h⟩ := kI_ok h
    refine ⟨⟨b_1, o_1, x_5, x_6, h0, h1, h2⟩, ?_⟩
    have ev : [1, 5, 6].map σ = [(.ptr b_1 o_1), (.flat (.string x_5)), (.flat (.int .u32 x_6))] := by simp only [List.map_cons, List.map_nil, h0, h1, h2]
    rw [ev, pc18_10102]
    exact h
  · rintro ⟨⟨b_1, o_1, x_5, x_6, h0, h1, h2⟩, h⟩
    have ev : [1, 5, 6].map σ = [(.ptr b_1 o_1), (.flat (.string x_5)), (.flat (.int .u32 x_6))] := by simp only [List.map_cons, List.map_nil, h0, h1, h2]
    rw [ev, pc18_10102] at h
    unfold LamP18_10102
    try simp only [h0, h1, h2, kI, kbool, kS, kptr, kaggN, kite, decide_true, eq_self]
    exact h

theorem eqn18 (c_0 : Nat → AV) (m : Mem) (k : KV) : bodyK Tryz.prog E18 Lam18 Tryz.f18 true [(.agg 6 c_0)] m k = F18 c_0 m (fun x_1000 m' => k (.flat (.bool x_1000)) m') := by
  kernel_rfl

theorem fs18 (w0 : World) : FS Tryz.prog w0 18 G18 := by
  refine (fs_body (Γ := E18) (sound_env (l := [(38, G38), (39, G39), (40, G40)]) w0 (by
    intro p hp
    simp only [List.mem_cons, List.not_mem_nil, or_false] at hp
    rcases hp with rfl | rfl | rfl
    · exact fs38 w0
    · exact fs39 w0
    · exact fs40 w0)) (by kernel_rfl) Tryz.func18 (Λ := Lam18) (c := (bodyOf Tryz.f18)) (by kernel_rfl) Tryz.call18 (by kernel_rfl) (LS_of (bodyOf Tryz.f18) 0 (by kernel_rfl) (fun i hi => absurd hi (Nat.not_lt_zero i)) 1 (by kernel_rfl) (by
    intro i hi
    match i, hi with
    | 0, _ => exact pok18_10102
    | i + 1, hi => omega)) true (np := 1) (Nat.le_of_ble_eq_true (by kernel_rfl))).imp fun args => ?_
  by_cases hl : args.length = 1
  rotate_left
  · exact .inr fun m k hk => by
      unfold G18 at hk
      split at hk
      · exact hl rfl
      · exact hk
  obtain ⟨a0, rfl⟩ : ∃ a0, args = [a0] := len_list1 hl
  rcases kaggN_or 6 a0 with ⟨c_0, rfl⟩ | h
  rotate_left
  · exact .inr fun m k hk => h _ (by simpa only [G18, kI, kbool, kS, kptr, kaggN, kite, decide_true, eq_self] using hk)
  exact .inl fun m k => propext ⟨fun h => ⟨rfl, by rw [eqn18]; simpa only [G18, kI, kbool, kS, kptr, kaggN, kite, decide_true, eq_self] using h⟩, fun h => by have h := h.2; rw [eqn18] at h; simpa only [G18, kI, kbool, kS, kptr, kaggN, kite, decide_true, eq_self] using h⟩

def E19 : Env := envOf []

/-- pianola/pianolakeep.only -/
def F19 (c_0 : Nat → AV) (x_1 : Int) (m : Mem) (k : (Nat → AV) → Mem → Prop) : Prop :=
  newK m ⟨6, c_0, 25, false⟩ fun b2 m1 => newK m1 ⟨6, Z6, 25, false⟩ fun b4 m3 => ldI .i64 m3 b2 0 fun x5 => newK m3 ⟨6, Z6, 25, false⟩ fun b7 m6 => stG 6 m6 b7 0 (upd (Z6) 0 (.flat (.int .i64 x5))) fun m8 => kif (x_1 == 0) (stC m8 b7 1 (.flat (.int .i64 1)) fun m9 => ldG 6 m9 b7 0 fun c16 => stG 6 m9 b4 0 c16 fun m17 => ldG 6 m17 b4 0 fun c28 => (Keeps m m17 ∧ InDomG 6 m c28 ∧ k c28 m)) (kif (x_1 == 1) (stC m8 b7 2 (.flat (.int .i64 1)) fun m10 => ldG 6 m10 b7 0 fun c18 => stG 6 m10 b4 0 c18 fun m19 => ldG 6 m19 b4 0 fun c29 => (Keeps m m19 ∧ InDomG 6 m c29 ∧ k c29 m)) (kif (x_1 == 2) (stC m8 b7 3 (.flat (.int .i64 1)) fun m11 => ldG 6 m11 b7 0 fun c20 => stG 6 m11 b4 0 c20 fun m21 => ldG 6 m21 b4 0 fun c30 => (Keeps m m21 ∧ InDomG 6 m c30 ∧ k c30 m)) (kif (x_1 == 3) (stC m8 b7 4 (.flat (.int .i64 1)) fun m12 => ldG 6 m12 b7 0 fun c22 => stG 6 m12 b4 0 c22 fun m23 => ldG 6 m23 b4 0 fun c31 => (Keeps m m23 ∧ InDomG 6 m c31 ∧ k c31 m)) (kif (x_1 == 4) (ldI .u32 m8 b2 5 fun x13 => stC m8 b7 5 (.flat (.int .u32 x13)) fun m14 => ldG 6 m14 b7 0 fun c24 => stG 6 m14 b4 0 c24 fun m25 => ldG 6 m25 b4 0 fun c32 => (Keeps m m25 ∧ InDomG 6 m c32 ∧ k c32 m)) (stC m8 b7 5 (.flat (.int .u32 1)) fun m15 => ldG 6 m15 b7 0 fun c26 => stG 6 m15 b4 0 c26 fun m27 => ldG 6 m27 b4 0 fun c33 => (Keeps m m27 ∧ InDomG 6 m c33 ∧ k c33 m))))))

def G19 (args : List AV) (m : Mem) (k : KV) : Prop := match args with
  | [a0, a1] => kaggN 6 a0 fun c_0 => kI .i64 a1 fun x_1 => F19 c_0 x_1 m (fun c_1000 m' => k (.agg 6 c_1000) m')
  | _ => False

def Lam19 : LEnv := ⟨fun a σ m k => match firstReg a with
  | _ => bump False,
  fun id => match id with
  | _ => bump false,
  fun b => match keyC b with
  | _ => bump false,
  fun b σ m k => match keyC b with
  | _ => bump False⟩

theorem eqn19 (c_0 : Nat → AV) (x_1 : Int) (m : Mem) (k : KV) : bodyK Tryz.prog E19 Lam19 Tryz.f19 true [(.agg 6 c_0), (.flat (.int .i64 x_1))] m k = F19 c_0 x_1 m (fun c_1000 m' => k (.agg 6 c_1000) m') := by
  kernel_rfl

theorem fs19 (w0 : World) : FS Tryz.prog w0 19 G19 := by
  refine (fs_body (Γ := E19) (sound_env (l := []) w0 (by
    intro p hp
    cases hp)) (by kernel_rfl) Tryz.func19 (Λ := Lam19) (c := (bodyOf Tryz.f19)) (by kernel_rfl) Tryz.call19 (by kernel_rfl) (LS_of (bodyOf Tryz.f19) 0 (by kernel_rfl) (fun i hi => absurd hi (Nat.not_lt_zero i)) 0 (by kernel_rfl) (fun i hi => absurd hi (Nat.not_lt_zero i))) true (np := 2) (Nat.le_of_ble_eq_true (by kernel_rfl))).imp fun args => ?_
  by_cases hl : args.length = 2
  rotate_left
  · exact .inr fun m k hk => by
      unfold G19 at hk
      split at hk
      · exact hl rfl
      · exact hk
  obtain ⟨a0, a1, rfl⟩ : ∃ a0 a1, args = [a0, a1] := len_list2 hl
  rcases kaggN_or 6 a0 with ⟨c_0, rfl⟩ | h
  rotate_left
  · exact .inr fun m k hk => h _ (by simpa only [G19, kI, kbool, kS, kptr, kaggN, kite, decide_true, eq_self] using hk)
  rcases kI_or .i64 a1 with ⟨x_1, rfl⟩ | h
  rotate_left
  · exact .inr fun m k hk => h _ (by simpa only [G19, kI, kbool, kS, kptr, kaggN, kite, decide_true, eq_self] using hk)
  exact .inl fun m k => propext ⟨fun h => ⟨rfl, by rw [eqn19]; simpa only [G19, kI, kbool, kS, kptr, kaggN, kite, decide_true, eq_self] using h⟩, fun h => by have h := h.2; rw [eqn19] at h; simpa only [G19, kI, kbool, kS, kptr, kaggN, kite, decide_true, eq_self] using h⟩

def E6 : Env := envOf [(16, G16), (17, G17), (18, G18), (19, G19)]

def P6_18102 (b_4 o_4 : Nat) (b_5 o_5 : Nat) (x_6 : Int) (b_7 o_7 : Nat) (m : Mem) (kn : Mem → Prop) : Prop :=
  ldG 6 m b_5 o_5 fun c33 => F19 c33 x_6 m fun c34 m35 => F18 c34 m35 fun x36 m37 => kif (!x36) (ldG 6 m37 b_7 o_7 fun c38 => stG 6 m37 b_5 o_5 c38 fun m39 => kn  m39) (kn  m37)

def R6_3 (b_4 o_4 : Nat) (b_5 o_5 : Nat) (x_6 : Int) (m : Mem) (kn : Int → Mem → Prop) (k0 : Mem → Prop) : Prop :=
  kif (decide (x_6 < 6)) (ldG 6 m b_5 o_5 fun c22 => newK m ⟨6, Z6, 25, false⟩ fun b24 m23 => stG 6 m23 b24 0 c22 fun m25 => kif (x_6 == 0) (stC m25 b24 1 (.flat (.int .i64 0)) fun m26 => P6_18102 b_4 o_4 b_5 o_5 x_6 b24 0 m26 (fun m40 => kn (IntKind.wrap .i64 (x_6 + 1)) m40)) (kif (x_6 == 1) (stC m25 b24 2 (.flat (.int .i64 0)) fun m27 => P6_18102 b_4 o_4 b_5 o_5 x_6 b24 0 m27 (fun m41 => kn (IntKind.wrap .i64 (x_6 + 1)) m41)) (kif (x_6 == 2) (stC m25 b24 3 (.flat (.int .i64 0)) fun m28 => P6_18102 b_4 o_4 b_5 o_5 x_6 b24 0 m28 (fun m42 => kn (IntKind.wrap .i64 (x_6 + 1)) m42)) (kif (x_6 == 3) (stC m25 b24 4 (.flat (.int .i64 0)) fun m29 => P6_18102 b_4 o_4 b_5 o_5 x_6 b24 0 m29 (fun m43 => kn (IntKind.wrap .i64 (x_6 + 1)) m43)) (kif (x_6 == 4) (ldI .u32 m25 b24 5 fun x30 => stC m25 b24 5 (.flat (.int .u32 (bits .and .u32 x30 65535))) fun m31 => P6_18102 b_4 o_4 b_5 o_5 x_6 b24 0 m31 (fun m44 => kn (IntKind.wrap .i64 (x_6 + 1)) m44)) (stC m25 b24 5 (.flat (.int .u32 0)) fun m32 => P6_18102 b_4 o_4 b_5 o_5 x_6 b24 0 m32 (fun m45 => kn (IntKind.wrap .i64 (x_6 + 1)) m45))))))) (k0  m)

def L6_3 (b_4 o_4 : Nat) (b_5 o_5 : Nat) : Nat → Int → Mem → (Mem → Prop) → Prop
  | 0, _,  _, _ => bump False
  | N + 1, x_6,  m, k0 => R6_3 b_4 o_4 b_5 o_5 x_6 m (fun x_6' m' => L6_3 b_4 o_4 b_5 o_5 N x_6' m' k0) k0

/-- pianola/pianolakeep.Inst -/
def F6 (c_0 : Nat → AV) (x_1 : Int) (m : Mem) (k : (Nat → AV) → Mem → Prop) : Prop :=
  newK m ⟨7, c_0, 28, false⟩ fun b2 m1 => newK m1 ⟨6, Z6, 25, false⟩ fun b4 m3 => ∃ Fr5 : Nat → Prop, Fr5 b2 ∧ (ldI .i64 m3 b2 1 fun x6 => F16 x6 m3 fun x7 m8 => KeepsIn Fr5 m3 m8 ∧ (Fr5 b2 ∧ (ldI .i64 m8 b2 2 fun x9 => F16 x9 m8 fun x10 m11 => KeepsIn Fr5 m8 m11 ∧ (Fr5 b2 ∧ (ldI .i64 m11 b2 3 fun x12 => F16 x12 m11 fun x13 m14 => KeepsIn Fr5 m11 m14 ∧ (Fr5 b2 ∧ (ldI .i64 m14 b2 4 fun x15 => F17 x15 0 31 m14 fun x16 m17 => KeepsIn Fr5 m14 m17 ∧ (Fr5 b2 ∧ (ldI .u32 m17 b2 5 fun x18 => newK m17 ⟨6, Z6, 25, false⟩ fun b20 m19 => stG 6 m19 b20 0 (upd (upd (upd (upd (upd (upd (Z6) 0 (.flat (.int .i64 x_1))) 1 (.flat (.int .i64 x7))) 2 (.flat (.int .i64 x10))) 3 (.flat (.int .i64 x13))) 4 (.flat (.int .i64 x16))) 5 (.flat (.int .u32 (bits .and .u32 x18 67108863)))) fun m21 => ∃ N47, L6_3 b4 0 b20 0 N47 0 m21 (fun m46 => ldG 6 m46 b20 0 fun c48 => stG 6 m46 b4 0 c48 fun m49 => ldG 6 m49 b4 0 fun c50 => (Keeps m m49 ∧ InDomG 6 m c50 ∧ k c50 m)))))))))))

def G6 (args : List AV) (m : Mem) (k : KV) : Prop := match args with
  | [a0, a1] => kaggN 7 a0 fun c_0 => kI .i64 a1 fun x_1 => F6 c_0 x_1 m (fun c_1000 m' => k (.agg 6 c_1000) m')
  | _ => False

def Lam6_3 (σ : Nat → AV) (m : Mem) (k : KX) : Prop := kptr (σ 4) fun b_4 o_4 => kptr (σ 5) fun b_5 o_5 => kI .i64 (σ 6) fun x_6 => ∃ N, L6_3 b_4 o_4 b_5 o_5 N x_6 m (fun m' => k (.exit 0) (only [4, 5] [(.ptr b_4 o_4), (.ptr b_5 o_5)]) m')

def LamP6_18102 (σ : Nat → AV) (m : Mem) (k : KX) : Prop := kptr (σ 4) fun b_4 o_4 => kptr (σ 5) fun b_5 o_5 => kI .i64 (σ 6) fun x_6 => kptr (σ 7) fun b_7 o_7 => P6_18102 b_4 o_4 b_5 o_5 x_6 b_7 o_7 m (fun m' => k .normal (only [4, 5, 6] [(.ptr b_4 o_4), (.ptr b_5 o_5), (.flat (.int .i64 x_6))]) m')

def Lam6 : LEnv := ⟨fun a σ m k => match firstReg a with
  | some 3 => Lam6_3 σ m k
  | _ => bump False,
  fun id => match id with
  | 1 => true
  | _ => bump false,
  fun b => match keyC b with
  | some 18102 => true
  | _ => bump false,
  fun b σ m k => match keyC b with
  | some 18102 => LamP6_18102 σ m k
  | _ => bump False⟩

def lxp6_18102 : Ex → List Nat := fun e => match e with
  | .normal => [4, 5, 6]
  | _ => []

theorem pc6_18102 (b_4 o_4 : Nat) (b_5 o_5 : Nat) (x_6 : Int) (b_7 o_7 : Nat) (m : Mem) (k : KX) : once Tryz.prog E6 Lam6 [4, 5, 6, 7] lxp6_18102 (((secsOf (bodyOf Tryz.f6)).filter Lam6.cut).getD 0 .skip) [(.ptr b_4 o_4), (.ptr b_5 o_5), (.flat (.int .i64 x_6)), (.ptr b_7 o_7)] m k = P6_18102 b_4 o_4 b_5 o_5 x_6 b_7 o_7 m (fun m' => k .normal (only [4, 5, 6] [(.ptr b_4 o_4), (.ptr b_5 o_5), (.flat (.int .i64 x_6))]) m') := by
  kernel_rfl

theorem pok6_18102 : PieceOK Tryz.prog E6 Lam6 (((secsOf (bodyOf Tryz.f6)).filter Lam6.cut).getD 0 .skip) := by
  refine ⟨fun σ => ∃ b_4 o_4 b_5 o_5 x_6 b_7 o_7, σ 4 = .ptr b_4 o_4 ∧ σ 5 = .ptr b_5 o_5 ∧ σ 6 = .flat (.int .i64 x_6) ∧ σ 7 = .ptr b_7 o_7, [4, 5, 6, 7], lxp6_18102, fun σ m k => ?_⟩
  have e : Lam6.piece (((secsOf (bodyOf Tryz.f6)).filter Lam6.cut).getD 0 .skip) σ m k = LamP6_18102 σ m k := by kernel_rfl
  rw [e]
  constructor
  · intro h
    unfold LamP6_18102 at h
    obtain ⟨b_4, o_4, h0, h⟩ := kptr_ok h
    obtain ⟨b_5, o_5, h1, h⟩ := kptr_ok h
    obtain ⟨x_6, h2, h⟩ := kI_ok h
    obtain ⟨b_7, o_7, h3, h⟩ := kptr_ok h
    refine ⟨⟨b_4, o_4, b_5, o_5, x_6, b_7, o_7, h0, h1, h2, h3⟩, ?_⟩
    have ev : [4, 5, 6, 7].map σ = [(.ptr b_4 o_4), (.ptr b_5 o_5), (.flat (.int .i64 x_6)), (.ptr b_7 o_7)] := by simp only [List.map_cons, List.map_nil, h0, h1, h2, h3]
    rw [ev, pc6_18102]
    exact h
  · rintro ⟨⟨b_4, o_4, b_5, o_5, x_6, b_7, o_7, h0, h1, h2, h3⟩, h⟩
    have ev : [4, 5, 6, 7].map σ = [(.ptr b_4 o_4), (.ptr b_5 o_5), (.flat (.int .i64 x_6)), (.ptr b_7 o_7)] := by simp only [List.map_cons, List.map_nil, h0, h1, h2, h3]
    rw [ev, pc6_18102] at h
    unfold LamP6_18102
    try simp only [h0, h1, h2, h3, kI, kbool, kS, kptr, kaggN, kite, decide_true, eq_self]
    exact h

def lx6_3 : Ex → List Nat := fun e => match e with
  | .exit 0 => [4, 5]
  | _ => []

theorem round6_3 (b_4 o_4 : Nat) (b_5 o_5 : Nat) (x_6 : Int) (m : Mem) (G : List AV → Mem → Prop) (k : KX) : (wpA Tryz.prog E6 Lam6 ((loopsOf (bodyOf Tryz.f6)).getD 0 .skip) (only [4, 5, 6] [(.ptr b_4 o_4), (.ptr b_5 o_5), (.flat (.int .i64 x_6))]) m fun e σ' m' => match e with
    | .normal => G ([4, 5, 6].map σ') m'
    | .exit id => k (.exit id) (only (lx6_3 (.exit id)) ((lx6_3 (.exit id)).map σ')) m'
    | .ret => k .ret (only (lx6_3 .ret) ((lx6_3 .ret).map σ')) m') = R6_3 b_4 o_4 b_5 o_5 x_6 m (fun x_6' m' => G [(.ptr b_4 o_4), (.ptr b_5 o_5), (.flat (.int .i64 x_6'))] m') (fun m' => k (.exit 0) (only [4, 5] [(.ptr b_4 o_4), (.ptr b_5 o_5)]) m') := by
  kernel_rfl

theorem loop6_3 (b_4 o_4 : Nat) (b_5 o_5 : Nat) (k : KX) : ∀ (N : Nat) (x_6 : Int) (m : Mem), rounds Tryz.prog E6 Lam6 [4, 5, 6] lx6_3 ((loopsOf (bodyOf Tryz.f6)).getD 0 .skip) N [(.ptr b_4 o_4), (.ptr b_5 o_5), (.flat (.int .i64 x_6))] m k = L6_3 b_4 o_4 b_5 o_5 N x_6 m (fun m' => k (.exit 0) (only [4, 5] [(.ptr b_4 o_4), (.ptr b_5 o_5)]) m') := by
  intro N
  induction N with
  | zero => intros; rfl
  | succ N ih =>
    intro x_6 m
    refine (round6_3 b_4 o_4 b_5 o_5 x_6 m (fun vs m' => rounds Tryz.prog E6 Lam6 [4, 5, 6] lx6_3 ((loopsOf (bodyOf Tryz.f6)).getD 0 .skip) N vs m' k) k).trans ?_
    simp only [ih]
    rfl

theorem lok6_3 : LoopOK Tryz.prog E6 Lam6 ((loopsOf (bodyOf Tryz.f6)).getD 0 .skip) := by
  refine ⟨fun σ => ∃ b_4 o_4 b_5 o_5 x_6, σ 4 = .ptr b_4 o_4 ∧ σ 5 = .ptr b_5 o_5 ∧ σ 6 = .flat (.int .i64 x_6), [4, 5, 6], lx6_3, fun σ m k => ?_⟩
  have e : Lam6.loop ((loopsOf (bodyOf Tryz.f6)).getD 0 .skip) σ m k = Lam6_3 σ m k := by kernel_rfl
  rw [e]
  constructor
  · intro h
    unfold Lam6_3 at h
    obtain ⟨b_4, o_4, h0, h⟩ := kptr_ok h
    obtain ⟨b_5, o_5, h1, h⟩ := kptr_ok h
    obtain ⟨x_6, h2, h⟩ := kI_ok h
    obtain ⟨N, h⟩ := h
    refine ⟨⟨b_4, o_4, b_5, o_5, x_6, h0, h1, h2⟩, N, ?_⟩
    have ev : [4, 5, 6].map σ = [(.ptr b_4 o_4), (.ptr b_5 o_5), (.flat (.int .i64 x_6))] := by simp only [List.map_cons, List.map_nil, h0, h1, h2]
    rw [ev, loop6_3]
    exact h
  · rintro ⟨⟨b_4, o_4, b_5, o_5, x_6, h0, h1, h2⟩, N, h⟩
    have ev : [4, 5, 6].map σ = [(.ptr b_4 o_4), (.ptr b_5 o_5), (.flat (.int .i64 x_6))] := by simp only [List.map_cons, List.map_nil, h0, h1, h2]
    rw [ev, loop6_3] at h
    unfold Lam6_3
    try simp only [h0, h1, h2, kI, kbool, kS, kptr, kaggN, kite, decide_true, eq_self]
    exact ⟨N, h⟩

theorem eqn6 (c_0 : Nat → AV) (x_1 : Int) (m : Mem) (k : KV) : bodyK Tryz.prog E6 Lam6 Tryz.f6 true [(.agg 7 c_0), (.flat (.int .i64 x_1))] m k = F6 c_0 x_1 m (fun c_1000 m' => k (.agg 6 c_1000) m') := by
  kernel_rfl

theorem fs6 (w0 : World) : FS Tryz.prog w0 6 G6 := by
  refine (fs_body (Γ := E6) (sound_env (l := [(16, G16), (17, G17), (18, G18), (19, G19)]) w0 (by
    intro p hp
    simp only [List.mem_cons, List.not_mem_nil, or_false] at hp
    rcases hp with rfl | rfl | rfl | rfl
    · exact fs16 w0
    · exact fs17 w0
    · exact fs18 w0
    · exact fs19 w0)) (by kernel_rfl) Tryz.func6 (Λ := Lam6) (c := (bodyOf Tryz.f6)) (by kernel_rfl) Tryz.call6 (by kernel_rfl) (LS_of (bodyOf Tryz.f6) 1 (by kernel_rfl) (by
    intro i hi
    match i, hi with
    | 0, _ => exact lok6_3
    | i + 1, hi => omega) 1 (by kernel_rfl) (by
    intro i hi
    match i, hi with
    | 0, _ => exact pok6_18102
    | i + 1, hi => omega)) true (np := 2) (Nat.le_of_ble_eq_true (by kernel_rfl))).imp fun args => ?_
  by_cases hl : args.length = 2
  rotate_left
  · exact .inr fun m k hk => by
      unfold G6 at hk
      split at hk
      · exact hl rfl
      · exact hk
  obtain ⟨a0, a1, rfl⟩ : ∃ a0 a1, args = [a0, a1] := len_list2 hl
  rcases kaggN_or 7 a0 with ⟨c_0, rfl⟩ | h
  rotate_left
  · exact .inr fun m k hk => h _ (by simpa only [G6, kI, kbool, kS, kptr, kaggN, kite, decide_true, eq_self] using hk)
  rcases kI_or .i64 a1 with ⟨x_1, rfl⟩ | h
  rotate_left
  · exact .inr fun m k hk => h _ (by simpa only [G6, kI, kbool, kS, kptr, kaggN, kite, decide_true, eq_self] using hk)
  exact .inl fun m k => propext ⟨fun h => ⟨rfl, by rw [eqn6]; simpa only [G6, kI, kbool, kS, kptr, kaggN, kite, decide_true, eq_self] using h⟩, fun h => by have h := h.2; rw [eqn6] at h; simpa only [G6, kI, kbool, kS, kptr, kaggN, kite, decide_true, eq_self] using h⟩

def E23 : Env := envOf []

/-- pianola/pianolaref6.Fresh -/
def F23  (m : Mem) (k : (Nat → AV) → Mem → Prop) : Prop :=
  newK m ⟨73, Z73, 42, false⟩ fun b2 m1 => newK m1 ⟨73, Z73, 42, false⟩ fun b4 m3 => stG 73 m3 b4 0 (upd (upd (Z73) 34 (.flat (.int .u32 2147484672))) 35 (.flat (.int .u32 2147484676))) fun m5 => stC m5 b4 54 (.flat (.int .u32 98304)) fun m6 => ldG 73 m6 b4 0 fun c7 => stG 73 m6 b2 0 c7 fun m8 => ldG 73 m8 b2 0 fun c9 => (Keeps m m8 ∧ InDomG 73 m c9 ∧ k c9 m)

def G23 (args : List AV) (m : Mem) (k : KV) : Prop := match args with
  | [] => F23  m (fun c_1000 m' => k (.agg 73 c_1000) m')
  | _ => False

def Lam23 : LEnv := ⟨fun a σ m k => match firstReg a with
  | _ => bump False,
  fun id => match id with
  | _ => bump false,
  fun b => match keyC b with
  | _ => bump false,
  fun b σ m k => match keyC b with
  | _ => bump False⟩

theorem eqn23  (m : Mem) (k : KV) : bodyK Tryz.prog E23 Lam23 Tryz.f23 true [] m k = F23  m (fun c_1000 m' => k (.agg 73 c_1000) m') := by
  kernel_rfl

theorem fs23 (w0 : World) : FS Tryz.prog w0 23 G23 := by
  refine (fs_body (Γ := E23) (sound_env (l := []) w0 (by
    intro p hp
    cases hp)) (by kernel_rfl) Tryz.func23 (Λ := Lam23) (c := (bodyOf Tryz.f23)) (by kernel_rfl) Tryz.call23 (by kernel_rfl) (LS_of (bodyOf Tryz.f23) 0 (by kernel_rfl) (fun i hi => absurd hi (Nat.not_lt_zero i)) 0 (by kernel_rfl) (fun i hi => absurd hi (Nat.not_lt_zero i))) true (np := 0) (Nat.le_of_ble_eq_true (by kernel_rfl))).imp fun args => ?_
  by_cases hl : args.length = 0
  rotate_left
  · exact .inr fun m k hk => by
      unfold G23 at hk
      split at hk
      · exact hl rfl
      · exact hk
  obtain rfl : args = [] := len_list0 hl

  exact .inl fun m k => propext ⟨fun h => ⟨rfl, by rw [eqn23]; simpa only [G23, kI, kbool, kS, kptr, kaggN, kite, decide_true, eq_self] using h⟩, fun h => by have h := h.2; rw [eqn23] at h; simpa only [G23, kI, kbool, kS, kptr, kaggN, kite, decide_true, eq_self] using h⟩

end Go.Proofs.YtkgidjnaddjjbaaGreat.Am
