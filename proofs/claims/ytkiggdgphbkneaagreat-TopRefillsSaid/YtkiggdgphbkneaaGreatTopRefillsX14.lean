/- The next function's environment is sound. No program in sight. What Go functions ask of what follows them, as plain functions over the abstract machine; the machine asks just that. Written by gen.py. What Go functions ask of what follows them, as plain functio -/
import Derived.Test.YtkiggdgphbkneaaGreatTopRefillsX13
namespace Go.Proofs.YtkiggdgphbkneaaGreat.Am
set_option linter.unusedVariables false
set_option linter.unusedSimpArgs false
set_option linter.constructorNameAsVariable false
set_option maxRecDepth 100000
theorem sg {P : Program} {w0 : World} {Γ : Env} (HΓ : Sound P w0 Γ) {Λ : LEnv} {f : FuncId} {fn : Func} (hf : P.funcs[f]? = some fn) (hgo : ∀ (args : Array Value) (w : World), (callFunc f args).run P w = .ok (.enter f args) w)
  (n : Nat) (h : oks (LoopOK P Γ Λ) (nthL (bodyOf fn)) 0 n) (np : Nat) (h2 : oks (PieceOK P Γ Λ) (nthP Λ (bodyOf fn)) 0 np)
  {ps rs : List Sl} {F : FT ps rs} (hok : fsB P Λ fn n np ps.length = true) (dr : Bool)
  (e : All ps F fun f l => ∀ m k, bodyK P Γ Λ fn dr l m k = f m (shut rs fun l m' => k (tup1 l) m')) : Sound P w0 (ext Γ f (Gs ps rs F)) :=
 snd_ext HΓ (fs_sig HΓ hf hgo n h np h2 hok dr e)
theorem sg0 {P : Program} {w0 : World} {Γ : Env} (HΓ : Sound P w0 Γ) {f : FuncId} {fn : Func} (hf : P.funcs[f]? = some fn) (hgo : ∀ (args : Array Value) (w : World), (callFunc f args).run P w = .ok (.enter f args) w)
  {ps rs : List Sl} {F : FT ps rs} (hok : fsB P lam0 fn 0 0 ps.length = true) (dr : Bool)
  (e : All ps F fun f l => ∀ m k, bodyK P Γ lam0 fn dr l m k = f m (shut rs fun l m' => k (tup1 l) m')) : Sound P w0 (ext Γ f (Gs ps rs F)) :=
 sg HΓ hf hgo 0 trivial 0 trivial hok dr e
def Yb0 : ByteArray := ⟨#[116, 100, 104]⟩
def Yb1 : ByteArray := ⟨#[115, 116, 100]⟩
def Yb2 : ByteArray := ⟨#[115]⟩
def Yb3 : ByteArray := ⟨#[115, 100]⟩
def Yb4 : ByteArray := ⟨#[100]⟩
def Yb5 : ByteArray := ⟨#[115, 116]⟩
def Yb6 : ByteArray := ⟨#[106]⟩
def Yb7 : ByteArray := ⟨#[115, 116, 105]⟩
def Yb8 : ByteArray := ⟨#[115, 105]⟩
def Yb9 : ByteArray := ⟨#[116, 105]⟩
def Yb10 : ByteArray := ⟨#[116, 100]⟩
def Yb11 : ByteArray := ⟨#[0, 1, 2, 2, 3, 3, 3, 3, 4, 4, 4, 4, 4, 4, 4, 4, 5, 5, 5, 5, 5, 5, 5, 5, 5, 5, 5, 5, 5, 5, 5, 5, 6, 6, 6, 6, 6, 6, 6, 6, 6, 6, 6, 6, 6, 6, 6, 6, 6, 6, 6, 6, 6, 6, 6, 6, 6, 6, 6, 6, 6, 6, 6, 6, 7, 7, 7, 7, 7, 7, 7, 7, 7, 7, 7, 7, 7, 7, 7, 7, 7, 7, 7, 7, 7, 7, 7, 7, 7, 7, 7, 7, 7, 7, 7, 7, 7, 7, 7, 7, 7, 7, 7, 7, 7, 7, 7, 7, 7, 7, 7, 7, 7, 7, 7, 7, 7, 7, 7, 7, 7, 7, 7, 7, 7, 7, 7, 7, 8, 8, 8, 8, 8, 8, 8, 8, 8, 8, 8, 8, 8, 8, 8, 8, 8, 8, 8, 8, 8, 8, 8, 8, 8, 8, 8, 8, 8, 8, 8, 8, 8, 8, 8, 8, 8, 8, 8, 8, 8, 8, 8, 8, 8, 8, 8, 8, 8, 8, 8, 8, 8, 8, 8, 8, 8, 8, 8, 8, 8, 8, 8, 8, 8, 8, 8, 8, 8, 8, 8, 8, 8, 8, 8, 8, 8, 8, 8, 8, 8, 8, 8, 8, 8, 8, 8, 8, 8, 8, 8, 8, 8, 8, 8, 8, 8, 8, 8, 8, 8, 8, 8, 8, 8, 8, 8, 8, 8, 8, 8, 8, 8, 8, 8, 8, 8, 8, 8, 8, 8, 8, 8, 8, 8, 8, 8, 8]⟩
abbrev zi : AV := (.flat (.int .i64 0))
abbrev zu : AV := (.flat (.int .u32 0))
abbrev zb : AV := (.flat (.bool false))
abbrev zs : AV := (.flat (.string ⟨#[]⟩))
abbrev zp : AV := (.flat (.pointer none))
abbrev zc : AV := (.flat (.int .u8 0))
def Z140 : Nat → AV := lget [zi, zi, zi, zs, zi, zi, zi, zs, zi, zi, zi, zs, zi, zi, zi, zs, zi, zi, zi, zs, zi, zi, zi, zs, zi, zi, zi, zs, zi, zi, zi, zs, zi, zi, zi, zs, zi, zi, zi, zs, zi, zi, zi, zs, zi, zi, zi, zs, zi, zi, zi, zs, zi, zi, zi, zs, zi, zi, zi, zs, zi, zi, zi, zs, zi, zi, zi, zs, zi, zi, zi, zs, zi, zi, zi, zs, zi, zi, zi, zs, zi, zi, zi, zs, zi, zi, zi, zs, zi, zi, zi, zs, zi, zi, zi, zs, zi, zi, zi, zs, zi, zi, zi, zs, zi, zi, zi, zs, zi, zi, zi, zs, zi, zi, zi, zs, zi, zi, zi, zs, zi, zi, zi, zs, zi, zi, zi, zs, zi, zi, zi, zs, zi, zi, zi, zs, zi, zi, zi, zs]
def Z108 : Nat → AV := lget [zi, zi, zi, zs, zi, zi, zi, zs, zi, zi, zi, zs, zi, zi, zi, zs, zi, zi, zi, zs, zi, zi, zi, zs, zi, zi, zi, zs, zi, zi, zi, zs, zi, zi, zi, zs, zi, zi, zi, zs, zi, zi, zi, zs, zi, zi, zi, zs, zi, zi, zi, zs, zi, zi, zi, zs, zi, zi, zi, zs, zi, zi, zi, zs, zi, zi, zi, zs, zi, zi, zi, zs, zi, zi, zi, zs, zi, zi, zi, zs, zi, zi, zi, zs, zi, zi, zi, zs, zi, zi, zi, zs, zi, zi, zi, zs, zi, zi, zi, zs, zi, zi, zi, zs, zi, zi, zi, zs]
def Z60 : Nat → AV := lget [zi, zi, zi, zs, zi, zi, zi, zs, zi, zi, zi, zs, zi, zi, zi, zs, zi, zi, zi, zs, zi, zi, zi, zs, zi, zi, zi, zs, zi, zi, zi, zs, zi, zi, zi, zs, zi, zi, zi, zs, zi, zi, zi, zs, zi, zi, zi, zs, zi, zi, zi, zs, zi, zi, zi, zs, zi, zi, zi, zs]
def Z6 : Nat → AV := lget [(.flat (.int .i64 0)), (.flat (.int .i64 0)), (.flat (.int .i64 0)), (.flat (.int .i64 0)), (.flat (.int .i64 0)), (.flat (.int .u32 0))]
def Z12 : Nat → AV := lget [zi, zi, zi, zi, zi, zu, zi, zi, zi, zi, zi, zu]
def Z40 : Nat → AV := lget [zb, zb, zb, zb, zb, zb, zb, zb, zb, zb, zb, zb, zb, zb, zb, zb, zb, zb, zb, zb, zb, zb, zb, zb, zb, zb, zb, zb, zb, zb, zb, zb, zb, zb, zb, zb, zb, zb, zb, zb]
def Z40b : Nat → AV := lget [zu, zu, zu, zu, zu, zu, zu, zu, zu, zu, zu, zu, zu, zu, zu, zu, zu, zu, zu, zu, zu, zu, zu, zu, zu, zu, zu, zu, zu, zu, zu, zu, zu, zu, zu, zu, zu, zu, zu, zu]
def Z80 : Nat → AV := lget [zb, zb, zb, zb, zb, zb, zb, zb, zb, zb, zb, zb, zb, zb, zb, zb, zb, zb, zb, zb, zb, zb, zb, zb, zb, zb, zb, zb, zb, zb, zb, zb, zb, zb, zb, zb, zb, zb, zb, zb, zu, zu, zu, zu, zu, zu, zu, zu, zu, zu, zu, zu, zu, zu, zu, zu, zu, zu, zu, zu, zu, zu, zu, zu, zu, zu, zu, zu, zu, zu, zu, zu, zu, zu, zu, zu, zu, zu, zu, zu]
def Z10 : Nat → AV := lget [(.flat (.int .i64 0)), (.flat (.int .i64 0)), (.flat (.int .i64 0)), (.flat (.int .i64 0)), (.flat (.int .u32 0)), (.flat (.int .i64 0)), (.flat (.int .i64 0)), (.flat (.int .i64 0)), (.flat (.int .i64 0)), (.flat (.int .u32 0))]
def Z73 : Nat → AV := lget [zu, zu, zu, zu, zu, zu, zu, zu, zu, zu, zu, zu, zu, zu, zu, zu, zu, zu, zu, zu, zu, zu, zu, zu, zu, zu, zu, zu, zu, zu, zu, zu, zu, zu, zu, zu, zb, zb, zu, zu, zu, zu, zu, zu, zu, zu, zu, zu, zu, zu, zu, zu, zu, zu, zu, zu, zu, zu, zu, zu, zu, zu, zu, zu, zu, zu, zu, zu, zu, zu, zu, zb, zi]
def Z7 : Nat → AV := lget [(.flat (.int .i64 0)), (.flat (.pointer none)), (.flat (.chan none)), (.flat (.chan none)), (.flat (.bool false)), (.flat (.int .u32 0)), (.flat (.slice none 0 0))]
def Z7b : Nat → AV := lget [(.flat (.int .i64 0)), (.flat (.pointer none)), (.flat (.pointer none)), (.flat (.int .u32 0)), (.flat (.int .u32 0)), (.flat (.int .u32 0)), (.flat (.int .u32 0))]
def Z8 : Nat → AV := lget [(.flat (.int .i64 0)), (.flat (.pointer none)), (.flat (.pointer none)), (.flat (.slice none 0 0)), (.flat (.int .u32 0)), (.flat (.int .u32 0)), (.flat (.int .u32 0)), (.flat (.int .u32 0))]
def Z8b : Nat → AV := lget [(.flat (.pointer none)), (.flat (.pointer none)), (.flat (.pointer none)), (.flat (.pointer none)), (.flat (.pointer none)), (.flat (.pointer none)), (.flat (.pointer none)), (.flat (.pointer none))]
def Z74 : Nat → AV := lget [zu, zu, zu, zu, zu, zu, zu, zu, zu, zu, zu, zu, zu, zu, zu, zu, zu, zu, zu, zu, zu, zu, zu, zu, zu, zu, zu, zu, zu, zu, zu, zu, zu, zu, zu, zu, zb, zb, zu, zu, zu, zu, zu, zu, zu, zu, zu, zu, zu, zu, zu, zu, zu, zu, zu, zu, zu, zu, zu, zu, zu, zu, zu, zu, zu, zu, zu, zu, zu, zu, zu, zb, zi, zp]
def Z78 : Nat → AV := lget [zu, zu, zu, zu, zu, zu, zu, zu, zu, zu, zu, zu, zu, zu, zu, zu, zu, zu, zu, zu, zu, zu, zu, zu, zu, zu, zu, zu, zu, zu, zu, zu, zu, zu, zu, zu, zb, zb, zu, zu, zu, zu, zu, zu, zu, zu, zu, zu, zu, zu, zu, zu, zu, zu, zu, zu, zu, zu, zu, zu, zu, zu, zu, zu, zu, zu, zu, zu, zu, zu, zu, zb, zi, zp, zp, zi, zi, zi]
def Z36 : Nat → AV := lget [zi, zi, zi, zi, zi, zu, zi, zi, zi, zi, zi, zu, zi, zi, zi, zi, zi, zu, zi, zi, zi, zi, zi, zu, zi, zi, zi, zi, zi, zu, zi, zi, zi, zi, zi, zu]
def K32 : List (Nat × LK) := [(0, (.i .i64)), (1, (.i .i64)), (2, (.i .i64)), (3, (.i .i64)), (4, (.i .i64)), (5, (.i .u32))]
def K125 : List (Nat × LK) := [(0, (.i .u32)), (1, (.i .i64)), (2, (.i .i64))]
abbrev SP := Sound Tryz.prog
def E15 : Env := env0
theorem S15 (w0 : World) : SP w0 E15 := snd0 _ w0
def P15_3102 (x_0 : Int) (x_1 : Int) (x_2 : Int) (m : Mem) (kr : Int → Mem → Prop) : Prop :=
 kif (decide (IntKind.wrap .i64 ((IntKind.wrap .i64 (x_2 - x_1)) + 1) = 0)) False (kif (decide ((x_0.tmod (IntKind.wrap .i64 ((IntKind.wrap .i64 (x_2 - x_1)) + 1))) < 0)) (kr (IntKind.wrap .i64 (x_1 + (IntKind.wrap .i64 ((IntKind.wrap .i64 ((IntKind.wrap .i64 ((x_0.tmod (IntKind.wrap .i64 ((IntKind.wrap .i64 (x_2 - x_1)) + 1))) + x_2)) - x_1)) + 1)))) m) (kr (IntKind.wrap .i64 (x_1 + (x_0.tmod (IntKind.wrap .i64 ((IntKind.wrap .i64 (x_2 - x_1)) + 1))))) m))
def F15 (x_0 : Int) (x_1 : Int) (x_2 : Int) (m : Mem) (k : Int → Mem → Prop) : Prop :=
 kif (decide (x_0 ≥ x_1)) (kif (decide (x_0 ≤ x_2)) ((Keeps m m ∧ k x_0 m)) (P15_3102 x_0 x_1 x_2 m (fun x1 m2 => (Keeps m m2 ∧ k x1 m)))) (P15_3102 x_0 x_1 x_2 m (fun x3 m4 => (Keeps m m4 ∧ k x3 m)))
def G15 := Gs [.i .i64, .i .i64, .i .i64] [.i .i64] F15
def D15_3102 : PcD := ⟨[0, 1, 2], [.i .i64, .i .i64, .i .i64], [⟨.ret, [6], [.i .i64], []⟩], P15_3102⟩
def Lam15 : LEnv := lamOf [] [] [3102] [(3102, pcK D15_3102)]
theorem pok15_3102 : PieceOK Tryz.prog E15 Lam15 (nthP Lam15 (bodyOf Tryz.f15) 0) := pc_ok D15_3102 (fun _ _ _ => by kernel_rfl) (by kernel_rfl) (fun _ _ _ _ _ => by kernel_rfl)
def E83 : Env := ext E15 15 G15
theorem S83 (w0 : World) : SP w0 E83 := sg (S15 w0) Tryz.func15 Tryz.call15 (Λ := Lam15) 0 trivial 1 ⟨pok15_3102, trivial⟩ (by kernel_rfl) true (fun _ _ _ _ _ => by kernel_rfl)
def F83  (m : Mem) (k : AV → Mem → Prop) : Prop :=
 newK m ⟨140, splice (splice (splice (splice (splice (splice (splice (splice (splice (splice (splice (splice (splice (splice (splice (splice (splice (splice (splice (splice (splice (splice (splice (splice (splice (splice (splice (splice (splice (splice (splice (splice (splice (splice (splice (Z140) 0 4 (upd (upd (upd (upd (lget [(.flat (.int .i64 0)), (.flat (.int .i64 0)), (.flat (.int .i64 0)), (.flat (.string ⟨#[]⟩))]) 0 (.flat (.int .i64 0))) 1 (.flat (.int .i64 0))) 2 (.flat (.int .i64 1))) 3 (.flat (.string Yb0)))) 4 4 (upd (upd (upd (upd (lget [(.flat (.int .i64 0)), (.flat (.int .i64 0)), (.flat (.int .i64 0)), (.flat (.string ⟨#[]⟩))]) 0 (.flat (.int .i64 0))) 1 (.flat (.int .i64 2))) 2 (.flat (.int .i64 2))) 3 (.flat (.string Yb0)))) 8 4 (upd (upd (upd (upd (lget [(.flat (.int .i64 0)), (.flat (.int .i64 0)), (.flat (.int .i64 0)), (.flat (.string ⟨#[]⟩))]) 0 (.flat (.int .i64 0))) 1 (.flat (.int .i64 3))) 2 (.flat (.int .i64 3))) 3 (.flat (.string Yb0)))) 12 4 (upd (upd (upd (upd (lget [(.flat (.int .i64 0)), (.flat (.int .i64 0)), (.flat (.int .i64 0)), (.flat (.string ⟨#[]⟩))]) 0 (.flat (.int .i64 0))) 1 (.flat (.int .i64 4))) 2 (.flat (.int .i64 4))) 3 (.flat (.string Yb1)))) 16 4 (upd (upd (upd (upd (lget [(.flat (.int .i64 0)), (.flat (.int .i64 0)), (.flat (.int .i64 0)), (.flat (.string ⟨#[]⟩))]) 0 (.flat (.int .i64 0))) 1 (.flat (.int .i64 6))) 2 (.flat (.int .i64 5))) 3 (.flat (.string Yb1)))) 20 4 (upd (upd (upd (upd (lget [(.flat (.int .i64 0)), (.flat (.int .i64 0)), (.flat (.int .i64 0)), (.flat (.string ⟨#[]⟩))]) 0 (.flat (.int .i64 0))) 1 (.flat (.int .i64 7))) 2 (.flat (.int .i64 6))) 3 (.flat (.string Yb1)))) 24 4 (upd (upd (upd (upd (lget [(.flat (.int .i64 0)), (.flat (.int .i64 0)), (.flat (.int .i64 0)), (.flat (.string ⟨#[]⟩))]) 0 (.flat (.int .i64 0))) 1 (.flat (.int .i64 8))) 2 (.flat (.int .i64 7))) 3 (.flat (.string Yb2)))) 28 4 (upd (upd (upd (upd (lget [(.flat (.int .i64 0)), (.flat (.int .i64 0)), (.flat (.int .i64 0)), (.flat (.string ⟨#[]⟩))]) 0 (.flat (.int .i64 0))) 1 (.flat (.int .i64 9))) 2 (.flat (.int .i64 8))) 3 (.flat (.string Yb3)))) 32 4 (upd (upd (upd (upd (lget [(.flat (.int .i64 0)), (.flat (.int .i64 0)), (.flat (.int .i64 0)), (.flat (.string ⟨#[]⟩))]) 0 (.flat (.int .i64 0))) 1 (.flat (.int .i64 10))) 2 (.flat (.int .i64 9))) 3 (.flat (.string Yb1)))) 36 4 (upd (upd (upd (upd (lget [(.flat (.int .i64 0)), (.flat (.int .i64 0)), (.flat (.int .i64 0)), (.flat (.string ⟨#[]⟩))]) 0 (.flat (.int .i64 0))) 1 (.flat (.int .i64 11))) 2 (.flat (.int .i64 10))) 3 (.flat (.string Yb1)))) 40 4 (upd (upd (upd (upd (lget [(.flat (.int .i64 0)), (.flat (.int .i64 0)), (.flat (.int .i64 0)), (.flat (.string ⟨#[]⟩))]) 0 (.flat (.int .i64 0))) 1 (.flat (.int .i64 12))) 2 (.flat (.int .i64 11))) 3 (.flat (.string (⟨#[]⟩ : ByteArray))))) 44 4 (upd (upd (upd (upd (lget [(.flat (.int .i64 0)), (.flat (.int .i64 0)), (.flat (.int .i64 0)), (.flat (.string ⟨#[]⟩))]) 0 (.flat (.int .i64 0))) 1 (.flat (.int .i64 13))) 2 (.flat (.int .i64 12))) 3 (.flat (.string (⟨#[]⟩ : ByteArray))))) 48 4 (upd (upd (upd (upd (lget [(.flat (.int .i64 0)), (.flat (.int .i64 0)), (.flat (.int .i64 0)), (.flat (.string ⟨#[]⟩))]) 0 (.flat (.int .i64 0))) 1 (.flat (.int .i64 15))) 2 (.flat (.int .i64 13))) 3 (.flat (.string (⟨#[]⟩ : ByteArray))))) 52 4 (upd (upd (upd (upd (lget [(.flat (.int .i64 0)), (.flat (.int .i64 0)), (.flat (.int .i64 0)), (.flat (.string ⟨#[]⟩))]) 0 (.flat (.int .i64 0))) 1 (.flat (.int .i64 16))) 2 (.flat (.int .i64 14))) 3 (.flat (.string Yb4)))) 56 4 (upd (upd (upd (upd (lget [(.flat (.int .i64 0)), (.flat (.int .i64 0)), (.flat (.int .i64 0)), (.flat (.string ⟨#[]⟩))]) 0 (.flat (.int .i64 0))) 1 (.flat (.int .i64 17))) 2 (.flat (.int .i64 15))) 3 (.flat (.string Yb2)))) 60 4 (upd (upd (upd (upd (lget [(.flat (.int .i64 0)), (.flat (.int .i64 0)), (.flat (.int .i64 0)), (.flat (.string ⟨#[]⟩))]) 0 (.flat (.int .i64 0))) 1 (.flat (.int .i64 18))) 2 (.flat (.int .i64 16))) 3 (.flat (.string Yb4)))) 64 4 (upd (upd (upd (upd (lget [(.flat (.int .i64 0)), (.flat (.int .i64 0)), (.flat (.int .i64 0)), (.flat (.string ⟨#[]⟩))]) 0 (.flat (.int .i64 0))) 1 (.flat (.int .i64 19))) 2 (.flat (.int .i64 17))) 3 (.flat (.string Yb2)))) 68 4 (upd (upd (upd (upd (lget [(.flat (.int .i64 0)), (.flat (.int .i64 0)), (.flat (.int .i64 0)), (.flat (.string ⟨#[]⟩))]) 0 (.flat (.int .i64 0))) 1 (.flat (.int .i64 24))) 2 (.flat (.int .i64 18))) 3 (.flat (.string Yb5)))) 72 4 (upd (upd (upd (upd (lget [(.flat (.int .i64 0)), (.flat (.int .i64 0)), (.flat (.int .i64 0)), (.flat (.string ⟨#[]⟩))]) 0 (.flat (.int .i64 0))) 1 (.flat (.int .i64 25))) 2 (.flat (.int .i64 19))) 3 (.flat (.string Yb5)))) 76 4 (upd (upd (upd (upd (lget [(.flat (.int .i64 0)), (.flat (.int .i64 0)), (.flat (.int .i64 0)), (.flat (.string ⟨#[]⟩))]) 0 (.flat (.int .i64 0))) 1 (.flat (.int .i64 26))) 2 (.flat (.int .i64 20))) 3 (.flat (.string Yb5)))) 80 4 (upd (upd (upd (upd (lget [(.flat (.int .i64 0)), (.flat (.int .i64 0)), (.flat (.int .i64 0)), (.flat (.string ⟨#[]⟩))]) 0 (.flat (.int .i64 0))) 1 (.flat (.int .i64 27))) 2 (.flat (.int .i64 21))) 3 (.flat (.string Yb5)))) 84 4 (upd (upd (upd (upd (lget [(.flat (.int .i64 0)), (.flat (.int .i64 0)), (.flat (.int .i64 0)), (.flat (.string ⟨#[]⟩))]) 0 (.flat (.int .i64 0))) 1 (.flat (.int .i64 32))) 2 (.flat (.int .i64 22))) 3 (.flat (.string Yb1)))) 88 4 (upd (upd (upd (upd (lget [(.flat (.int .i64 0)), (.flat (.int .i64 0)), (.flat (.int .i64 0)), (.flat (.string ⟨#[]⟩))]) 0 (.flat (.int .i64 0))) 1 (.flat (.int .i64 33))) 2 (.flat (.int .i64 23))) 3 (.flat (.string Yb1)))) 92 4 (upd (upd (upd (upd (lget [(.flat (.int .i64 0)), (.flat (.int .i64 0)), (.flat (.int .i64 0)), (.flat (.string ⟨#[]⟩))]) 0 (.flat (.int .i64 0))) 1 (.flat (.int .i64 34))) 2 (.flat (.int .i64 24))) 3 (.flat (.string Yb1)))) 96 4 (upd (upd (upd (upd (lget [(.flat (.int .i64 0)), (.flat (.int .i64 0)), (.flat (.int .i64 0)), (.flat (.string ⟨#[]⟩))]) 0 (.flat (.int .i64 0))) 1 (.flat (.int .i64 35))) 2 (.flat (.int .i64 25))) 3 (.flat (.string Yb1)))) 100 4 (upd (upd (upd (upd (lget [(.flat (.int .i64 0)), (.flat (.int .i64 0)), (.flat (.int .i64 0)), (.flat (.string ⟨#[]⟩))]) 0 (.flat (.int .i64 0))) 1 (.flat (.int .i64 36))) 2 (.flat (.int .i64 26))) 3 (.flat (.string Yb1)))) 104 4 (upd (upd (upd (upd (lget [(.flat (.int .i64 0)), (.flat (.int .i64 0)), (.flat (.int .i64 0)), (.flat (.string ⟨#[]⟩))]) 0 (.flat (.int .i64 0))) 1 (.flat (.int .i64 37))) 2 (.flat (.int .i64 27))) 3 (.flat (.string Yb1)))) 108 4 (upd (upd (upd (upd (lget [(.flat (.int .i64 0)), (.flat (.int .i64 0)), (.flat (.int .i64 0)), (.flat (.string ⟨#[]⟩))]) 0 (.flat (.int .i64 0))) 1 (.flat (.int .i64 38))) 2 (.flat (.int .i64 28))) 3 (.flat (.string Yb1)))) 112 4 (upd (upd (upd (upd (lget [(.flat (.int .i64 0)), (.flat (.int .i64 0)), (.flat (.int .i64 0)), (.flat (.string ⟨#[]⟩))]) 0 (.flat (.int .i64 0))) 1 (.flat (.int .i64 39))) 2 (.flat (.int .i64 29))) 3 (.flat (.string Yb1)))) 116 4 (upd (upd (upd (upd (lget [(.flat (.int .i64 0)), (.flat (.int .i64 0)), (.flat (.int .i64 0)), (.flat (.string ⟨#[]⟩))]) 0 (.flat (.int .i64 0))) 1 (.flat (.int .i64 42))) 2 (.flat (.int .i64 30))) 3 (.flat (.string Yb1)))) 120 4 (upd (upd (upd (upd (lget [(.flat (.int .i64 0)), (.flat (.int .i64 0)), (.flat (.int .i64 0)), (.flat (.string ⟨#[]⟩))]) 0 (.flat (.int .i64 0))) 1 (.flat (.int .i64 43))) 2 (.flat (.int .i64 31))) 3 (.flat (.string Yb1)))) 124 4 (upd (upd (upd (upd (lget [(.flat (.int .i64 0)), (.flat (.int .i64 0)), (.flat (.int .i64 0)), (.flat (.string ⟨#[]⟩))]) 0 (.flat (.int .i64 0))) 1 (.flat (.int .i64 48))) 2 (.flat (.int .i64 32))) 3 (.flat (.string Yb5)))) 128 4 (upd (upd (upd (upd (lget [(.flat (.int .i64 0)), (.flat (.int .i64 0)), (.flat (.int .i64 0)), (.flat (.string ⟨#[]⟩))]) 0 (.flat (.int .i64 0))) 1 (.flat (.int .i64 50))) 2 (.flat (.int .i64 33))) 3 (.flat (.string Yb5)))) 132 4 (upd (upd (upd (upd (lget [(.flat (.int .i64 0)), (.flat (.int .i64 0)), (.flat (.int .i64 0)), (.flat (.string ⟨#[]⟩))]) 0 (.flat (.int .i64 0))) 1 (.flat (.int .i64 52))) 2 (.flat (.int .i64 34))) 3 (.flat (.string Yb5)))) 136 4 (upd (upd (upd (upd (lget [(.flat (.int .i64 0)), (.flat (.int .i64 0)), (.flat (.int .i64 0)), (.flat (.string ⟨#[]⟩))]) 0 (.flat (.int .i64 0))) 1 (.flat (.int .i64 54))) 2 (.flat (.int .i64 35))) 3 (.flat (.string Yb5))), 111, false⟩ fun b2 m1 => k (.sl b2 0 35 (.ex 35)) m1
def G83 := Gs [] [.a] F83
def E84 : Env := ext E83 83 G83
theorem S84 (w0 : World) : SP w0 E84 := sg0 (S83 w0) Tryz.func83 Tryz.call83 (by kernel_rfl) false (fun _ _ => by kernel_rfl)
def F84  (m : Mem) (k : AV → Mem → Prop) : Prop :=
 newK m ⟨108, splice (splice (splice (splice (splice (splice (splice (splice (splice (splice (splice (splice (splice (splice (splice (splice (splice (splice (splice (splice (splice (splice (splice (splice (splice (splice (splice (Z108) 0 4 (upd (upd (upd (upd (lget [(.flat (.int .i64 0)), (.flat (.int .i64 0)), (.flat (.int .i64 0)), (.flat (.string ⟨#[]⟩))]) 0 (.flat (.int .i64 2))) 1 (.flat (.int .i64 0))) 2 (.flat (.int .i64 40))) 3 (.flat (.string Yb6)))) 4 4 (upd (upd (upd (upd (lget [(.flat (.int .i64 0)), (.flat (.int .i64 0)), (.flat (.int .i64 0)), (.flat (.string ⟨#[]⟩))]) 0 (.flat (.int .i64 3))) 1 (.flat (.int .i64 0))) 2 (.flat (.int .i64 41))) 3 (.flat (.string Yb6)))) 8 4 (upd (upd (upd (upd (lget [(.flat (.int .i64 0)), (.flat (.int .i64 0)), (.flat (.int .i64 0)), (.flat (.string ⟨#[]⟩))]) 0 (.flat (.int .i64 4))) 1 (.flat (.int .i64 0))) 2 (.flat (.int .i64 42))) 3 (.flat (.string Yb7)))) 12 4 (upd (upd (upd (upd (lget [(.flat (.int .i64 0)), (.flat (.int .i64 0)), (.flat (.int .i64 0)), (.flat (.string ⟨#[]⟩))]) 0 (.flat (.int .i64 5))) 1 (.flat (.int .i64 0))) 2 (.flat (.int .i64 43))) 3 (.flat (.string Yb7)))) 16 4 (upd (upd (upd (upd (lget [(.flat (.int .i64 0)), (.flat (.int .i64 0)), (.flat (.int .i64 0)), (.flat (.string ⟨#[]⟩))]) 0 (.flat (.int .i64 6))) 1 (.flat (.int .i64 0))) 2 (.flat (.int .i64 44))) 3 (.flat (.string Yb8)))) 20 4 (upd (upd (upd (upd (lget [(.flat (.int .i64 0)), (.flat (.int .i64 0)), (.flat (.int .i64 0)), (.flat (.string ⟨#[]⟩))]) 0 (.flat (.int .i64 7))) 1 (.flat (.int .i64 0))) 2 (.flat (.int .i64 45))) 3 (.flat (.string Yb8)))) 24 4 (upd (upd (upd (upd (lget [(.flat (.int .i64 0)), (.flat (.int .i64 0)), (.flat (.int .i64 0)), (.flat (.string ⟨#[]⟩))]) 0 (.flat (.int .i64 8))) 1 (.flat (.int .i64 0))) 2 (.flat (.int .i64 46))) 3 (.flat (.string Yb7)))) 28 4 (upd (upd (upd (upd (lget [(.flat (.int .i64 0)), (.flat (.int .i64 0)), (.flat (.int .i64 0)), (.flat (.string ⟨#[]⟩))]) 0 (.flat (.int .i64 9))) 1 (.flat (.int .i64 0))) 2 (.flat (.int .i64 47))) 3 (.flat (.string Yb7)))) 32 4 (upd (upd (upd (upd (lget [(.flat (.int .i64 0)), (.flat (.int .i64 0)), (.flat (.int .i64 0)), (.flat (.string ⟨#[]⟩))]) 0 (.flat (.int .i64 10))) 1 (.flat (.int .i64 0))) 2 (.flat (.int .i64 48))) 3 (.flat (.string Yb7)))) 36 4 (upd (upd (upd (upd (lget [(.flat (.int .i64 0)), (.flat (.int .i64 0)), (.flat (.int .i64 0)), (.flat (.string ⟨#[]⟩))]) 0 (.flat (.int .i64 11))) 1 (.flat (.int .i64 0))) 2 (.flat (.int .i64 49))) 3 (.flat (.string Yb7)))) 40 4 (upd (upd (upd (upd (lget [(.flat (.int .i64 0)), (.flat (.int .i64 0)), (.flat (.int .i64 0)), (.flat (.string ⟨#[]⟩))]) 0 (.flat (.int .i64 12))) 1 (.flat (.int .i64 0))) 2 (.flat (.int .i64 50))) 3 (.flat (.string Yb7)))) 44 4 (upd (upd (upd (upd (lget [(.flat (.int .i64 0)), (.flat (.int .i64 0)), (.flat (.int .i64 0)), (.flat (.string ⟨#[]⟩))]) 0 (.flat (.int .i64 13))) 1 (.flat (.int .i64 0))) 2 (.flat (.int .i64 51))) 3 (.flat (.string Yb7)))) 48 4 (upd (upd (upd (upd (lget [(.flat (.int .i64 0)), (.flat (.int .i64 0)), (.flat (.int .i64 0)), (.flat (.string ⟨#[]⟩))]) 0 (.flat (.int .i64 14))) 1 (.flat (.int .i64 0))) 2 (.flat (.int .i64 52))) 3 (.flat (.string Yb7)))) 52 4 (upd (upd (upd (upd (lget [(.flat (.int .i64 0)), (.flat (.int .i64 0)), (.flat (.int .i64 0)), (.flat (.string ⟨#[]⟩))]) 0 (.flat (.int .i64 15))) 1 (.flat (.int .i64 0))) 2 (.flat (.int .i64 53))) 3 (.flat (.string Yb9)))) 56 4 (upd (upd (upd (upd (lget [(.flat (.int .i64 0)), (.flat (.int .i64 0)), (.flat (.int .i64 0)), (.flat (.string ⟨#[]⟩))]) 0 (.flat (.int .i64 17))) 1 (.flat (.int .i64 0))) 2 (.flat (.int .i64 62))) 3 (.flat (.string (⟨#[]⟩ : ByteArray))))) 60 4 (upd (upd (upd (upd (lget [(.flat (.int .i64 0)), (.flat (.int .i64 0)), (.flat (.int .i64 0)), (.flat (.string ⟨#[]⟩))]) 0 (.flat (.int .i64 32))) 1 (.flat (.int .i64 0))) 2 (.flat (.int .i64 66))) 3 (.flat (.string Yb7)))) 64 4 (upd (upd (upd (upd (lget [(.flat (.int .i64 0)), (.flat (.int .i64 0)), (.flat (.int .i64 0)), (.flat (.string ⟨#[]⟩))]) 0 (.flat (.int .i64 33))) 1 (.flat (.int .i64 0))) 2 (.flat (.int .i64 67))) 3 (.flat (.string Yb7)))) 68 4 (upd (upd (upd (upd (lget [(.flat (.int .i64 0)), (.flat (.int .i64 0)), (.flat (.int .i64 0)), (.flat (.string ⟨#[]⟩))]) 0 (.flat (.int .i64 35))) 1 (.flat (.int .i64 0))) 2 (.flat (.int .i64 68))) 3 (.flat (.string Yb7)))) 72 4 (upd (upd (upd (upd (lget [(.flat (.int .i64 0)), (.flat (.int .i64 0)), (.flat (.int .i64 0)), (.flat (.string ⟨#[]⟩))]) 0 (.flat (.int .i64 36))) 1 (.flat (.int .i64 0))) 2 (.flat (.int .i64 69))) 3 (.flat (.string Yb7)))) 76 4 (upd (upd (upd (upd (lget [(.flat (.int .i64 0)), (.flat (.int .i64 0)), (.flat (.int .i64 0)), (.flat (.string ⟨#[]⟩))]) 0 (.flat (.int .i64 37))) 1 (.flat (.int .i64 0))) 2 (.flat (.int .i64 70))) 3 (.flat (.string Yb7)))) 80 4 (upd (upd (upd (upd (lget [(.flat (.int .i64 0)), (.flat (.int .i64 0)), (.flat (.int .i64 0)), (.flat (.string ⟨#[]⟩))]) 0 (.flat (.int .i64 40))) 1 (.flat (.int .i64 0))) 2 (.flat (.int .i64 71))) 3 (.flat (.string Yb7)))) 84 4 (upd (upd (upd (upd (lget [(.flat (.int .i64 0)), (.flat (.int .i64 0)), (.flat (.int .i64 0)), (.flat (.string ⟨#[]⟩))]) 0 (.flat (.int .i64 41))) 1 (.flat (.int .i64 0))) 2 (.flat (.int .i64 72))) 3 (.flat (.string Yb7)))) 88 4 (upd (upd (upd (upd (lget [(.flat (.int .i64 0)), (.flat (.int .i64 0)), (.flat (.int .i64 0)), (.flat (.string ⟨#[]⟩))]) 0 (.flat (.int .i64 43))) 1 (.flat (.int .i64 0))) 2 (.flat (.int .i64 73))) 3 (.flat (.string Yb7)))) 92 4 (upd (upd (upd (upd (lget [(.flat (.int .i64 0)), (.flat (.int .i64 0)), (.flat (.int .i64 0)), (.flat (.string ⟨#[]⟩))]) 0 (.flat (.int .i64 47))) 1 (.flat (.int .i64 0))) 2 (.flat (.int .i64 76))) 3 (.flat (.string (⟨#[]⟩ : ByteArray))))) 96 4 (upd (upd (upd (upd (lget [(.flat (.int .i64 0)), (.flat (.int .i64 0)), (.flat (.int .i64 0)), (.flat (.string ⟨#[]⟩))]) 0 (.flat (.int .i64 48))) 1 (.flat (.int .i64 0))) 2 (.flat (.int .i64 74))) 3 (.flat (.string Yb7)))) 100 4 (upd (upd (upd (upd (lget [(.flat (.int .i64 0)), (.flat (.int .i64 0)), (.flat (.int .i64 0)), (.flat (.string ⟨#[]⟩))]) 0 (.flat (.int .i64 51))) 1 (.flat (.int .i64 0))) 2 (.flat (.int .i64 77))) 3 (.flat (.string (⟨#[]⟩ : ByteArray))))) 104 4 (upd (upd (upd (upd (lget [(.flat (.int .i64 0)), (.flat (.int .i64 0)), (.flat (.int .i64 0)), (.flat (.string ⟨#[]⟩))]) 0 (.flat (.int .i64 56))) 1 (.flat (.int .i64 0))) 2 (.flat (.int .i64 75))) 3 (.flat (.string Yb7))), 111, false⟩ fun b2 m1 => k (.sl b2 0 27 (.ex 27)) m1
def G84 := Gs [] [.a] F84
def E85 : Env := ext E84 84 G84
theorem S85 (w0 : World) : SP w0 E85 := sg0 (S84 w0) Tryz.func84 Tryz.call84 (by kernel_rfl) false (fun _ _ => by kernel_rfl)
def F85  (m : Mem) (k : AV → Mem → Prop) : Prop :=
 newK m ⟨60, splice (splice (splice (splice (splice (splice (splice (splice (splice (splice (splice (splice (splice (splice (splice (Z60) 0 4 (upd (upd (upd (upd (lget [(.flat (.int .i64 0)), (.flat (.int .i64 0)), (.flat (.int .i64 0)), (.flat (.string ⟨#[]⟩))]) 0 (.flat (.int .i64 1))) 1 (.flat (.int .i64 0))) 2 (.flat (.int .i64 36))) 3 (.flat (.string Yb8)))) 4 4 (upd (upd (upd (upd (lget [(.flat (.int .i64 0)), (.flat (.int .i64 0)), (.flat (.int .i64 0)), (.flat (.string ⟨#[]⟩))]) 0 (.flat (.int .i64 1))) 1 (.flat (.int .i64 1))) 2 (.flat (.int .i64 37))) 3 (.flat (.string Yb8)))) 8 4 (upd (upd (upd (upd (lget [(.flat (.int .i64 0)), (.flat (.int .i64 0)), (.flat (.int .i64 0)), (.flat (.string ⟨#[]⟩))]) 0 (.flat (.int .i64 1))) 1 (.flat (.int .i64 16))) 2 (.flat (.int .i64 38))) 3 (.flat (.string Yb8)))) 12 4 (upd (upd (upd (upd (lget [(.flat (.int .i64 0)), (.flat (.int .i64 0)), (.flat (.int .i64 0)), (.flat (.string ⟨#[]⟩))]) 0 (.flat (.int .i64 1))) 1 (.flat (.int .i64 17))) 2 (.flat (.int .i64 39))) 3 (.flat (.string Yb8)))) 16 4 (upd (upd (upd (upd (lget [(.flat (.int .i64 0)), (.flat (.int .i64 0)), (.flat (.int .i64 0)), (.flat (.string ⟨#[]⟩))]) 0 (.flat (.int .i64 16))) 1 (.flat (.int .i64 0))) 2 (.flat (.int .i64 54))) 3 (.flat (.string Yb10)))) 20 4 (upd (upd (upd (upd (lget [(.flat (.int .i64 0)), (.flat (.int .i64 0)), (.flat (.int .i64 0)), (.flat (.string ⟨#[]⟩))]) 0 (.flat (.int .i64 16))) 1 (.flat (.int .i64 4))) 2 (.flat (.int .i64 55))) 3 (.flat (.string Yb10)))) 24 4 (upd (upd (upd (upd (lget [(.flat (.int .i64 0)), (.flat (.int .i64 0)), (.flat (.int .i64 0)), (.flat (.string ⟨#[]⟩))]) 0 (.flat (.int .i64 16))) 1 (.flat (.int .i64 65))) 2 (.flat (.int .i64 56))) 3 (.flat (.string (⟨#[]⟩ : ByteArray))))) 28 4 (upd (upd (upd (upd (lget [(.flat (.int .i64 0)), (.flat (.int .i64 0)), (.flat (.int .i64 0)), (.flat (.string ⟨#[]⟩))]) 0 (.flat (.int .i64 16))) 1 (.flat (.int .i64 66))) 2 (.flat (.int .i64 57))) 3 (.flat (.string (⟨#[]⟩ : ByteArray))))) 32 4 (upd (upd (upd (upd (lget [(.flat (.int .i64 0)), (.flat (.int .i64 0)), (.flat (.int .i64 0)), (.flat (.string ⟨#[]⟩))]) 0 (.flat (.int .i64 16))) 1 (.flat (.int .i64 70))) 2 (.flat (.int .i64 58))) 3 (.flat (.string (⟨#[]⟩ : ByteArray))))) 36 4 (upd (upd (upd (upd (lget [(.flat (.int .i64 0)), (.flat (.int .i64 0)), (.flat (.int .i64 0)), (.flat (.string ⟨#[]⟩))]) 0 (.flat (.int .i64 16))) 1 (.flat (.int .i64 72))) 2 (.flat (.int .i64 59))) 3 (.flat (.string (⟨#[]⟩ : ByteArray))))) 40 4 (upd (upd (upd (upd (lget [(.flat (.int .i64 0)), (.flat (.int .i64 0)), (.flat (.int .i64 0)), (.flat (.string ⟨#[]⟩))]) 0 (.flat (.int .i64 16))) 1 (.flat (.int .i64 88))) 2 (.flat (.int .i64 60))) 3 (.flat (.string (⟨#[]⟩ : ByteArray))))) 44 4 (upd (upd (upd (upd (lget [(.flat (.int .i64 0)), (.flat (.int .i64 0)), (.flat (.int .i64 0)), (.flat (.string ⟨#[]⟩))]) 0 (.flat (.int .i64 16))) 1 (.flat (.int .i64 96))) 2 (.flat (.int .i64 61))) 3 (.flat (.string (⟨#[]⟩ : ByteArray))))) 48 4 (upd (upd (upd (upd (lget [(.flat (.int .i64 0)), (.flat (.int .i64 0)), (.flat (.int .i64 0)), (.flat (.string ⟨#[]⟩))]) 0 (.flat (.int .i64 28))) 1 (.flat (.int .i64 2))) 2 (.flat (.int .i64 63))) 3 (.flat (.string Yb1)))) 52 4 (upd (upd (upd (upd (lget [(.flat (.int .i64 0)), (.flat (.int .i64 0)), (.flat (.int .i64 0)), (.flat (.string ⟨#[]⟩))]) 0 (.flat (.int .i64 28))) 1 (.flat (.int .i64 32))) 2 (.flat (.int .i64 64))) 3 (.flat (.string Yb3)))) 56 4 (upd (upd (upd (upd (lget [(.flat (.int .i64 0)), (.flat (.int .i64 0)), (.flat (.int .i64 0)), (.flat (.string ⟨#[]⟩))]) 0 (.flat (.int .i64 28))) 1 (.flat (.int .i64 33))) 2 (.flat (.int .i64 65))) 3 (.flat (.string Yb3))), 111, false⟩ fun b2 m1 => k (.sl b2 0 15 (.ex 15)) m1
def G85 := Gs [] [.a] F85
def E54 : Env := ext E85 85 G85
theorem S54 (w0 : World) : SP w0 E54 := sg0 (S85 w0) Tryz.func85 Tryz.call85 (by kernel_rfl) false (fun _ _ => by kernel_rfl)
def R54_10 (x_0 : Int) (b_2 o_2 : Nat) (x_4 : Int) (v_5 : AV) (x_6 : Int) (m : Mem) (kn : Int → Mem → Prop) (k2 : Mem → Prop) (kr : Bool → Mem → Prop) : Prop :=
 klen v_5 fun x9 => kif (decide (x_6 < x9)) (ksl v_5 fun b10 o11 l12 p13 => kif (decide (0 ≤ x_6) && decide (x_6 < l12)) (ldI .i64 m b10 (o11 + (x_6).toNat * 4 + 2) fun x14 => kif (x14 == x_0) (ksl v_5 fun b15 o16 l17 p18 => kif (decide (0 ≤ x_6) && decide (x_6 < l17)) (ldG 4 m b15 (o16 + (x_6).toNat * 4) fun c19 => stG 4 m b_2 o_2 c19 fun m20 => kr true m20) False) (kn (IntKind.wrap .i64 (x_6 + 1)) m)) False) (k2  m)
def L54_10 (x_0 : Int) (b_2 o_2 : Nat) (x_4 : Int) (v_5 : AV) : Nat → Int → Mem → (Mem → Prop) → (Bool → Mem → Prop) → Prop
 | 0, _,  _, _, _ => bump False
 | N + 1, x_6,  m, k2, kr => R54_10 x_0 b_2 o_2 x_4 v_5 x_6 m (fun x_6' m' => L54_10 x_0 b_2 o_2 x_4 v_5 N x_6' m' k2 kr) k2 kr
def P54_9102 (x_0 : Int) (b_2 o_2 : Nat) (x_4 : Int) (v_5 : AV) (m : Mem) (kn : Mem → Prop) (kr : Bool → Mem → Prop) : Prop :=
 ∃ N24, L54_10 x_0 b_2 o_2 x_4 v_5 N24 0 m (fun m21 => kn  m21) (fun x22 m23 => kr x22 m23)
def R54_2 (x_0 : Int) (b_2 o_2 : Nat) (x_4 : Int) (m : Mem) (kn : Int → Mem → Prop) (k0 : Mem → Prop) (kr : Bool → Mem → Prop) : Prop :=
 kif (decide (x_4 < 3)) (F83  m fun v3 m4 => kif (x_4 == 1) (F84  m4 fun v5 m6 => P54_9102 x_0 b_2 o_2 x_4 v5 m6 (fun m25 => kn (IntKind.wrap .i64 (x_4 + 1)) m25) (fun x26 m27 => kr x26 m27)) (kif (x_4 == 2) (F85  m4 fun v7 m8 => P54_9102 x_0 b_2 o_2 x_4 v7 m8 (fun m28 => kn (IntKind.wrap .i64 (x_4 + 1)) m28) (fun x29 m30 => kr x29 m30)) (P54_9102 x_0 b_2 o_2 x_4 v3 m4 (fun m31 => kn (IntKind.wrap .i64 (x_4 + 1)) m31) (fun x32 m33 => kr x32 m33)))) (k0  m)
def L54_2 (x_0 : Int) (b_2 o_2 : Nat) : Nat → Int → Mem → (Mem → Prop) → (Bool → Mem → Prop) → Prop
 | 0, _,  _, _, _ => bump False
 | N + 1, x_4,  m, k0, kr => R54_2 x_0 b_2 o_2 x_4 m (fun x_4' m' => L54_2 x_0 b_2 o_2 N x_4' m' k0 kr) k0 kr
def F54 (x_0 : Int) (m : Mem) (k : (Nat → AV) → Bool → Mem → Prop) : Prop :=
 newK m ⟨4, lget [(.flat (.int .i64 0)), (.flat (.int .i64 0)), (.flat (.int .i64 0)), (.flat (.string ⟨#[]⟩))], 111, false⟩ fun b2 m1 => ∃ N37, L54_2 x_0 b2 0 N37 0 m1 (fun m34 => stG 4 m34 b2 0 (lget [(.flat (.int .i64 0)), (.flat (.int .i64 0)), (.flat (.int .i64 0)), (.flat (.string ⟨#[]⟩))]) fun m38 => ldG 4 m38 b2 0 fun c40 => (Keeps m m38 ∧ (InDomG 4 m c40 ∧ True) ∧ k c40 false m)) (fun x35 m36 => ldG 4 m36 b2 0 fun c39 => (Keeps m m36 ∧ (InDomG 4 m c39 ∧ True) ∧ k c39 x35 m))
def G54 := Gs [.i .i64] [.g 4, .b] F54
def D54_2 : LpD := ⟨[0, 2], [.i .i64, .p], [4], [.i .i64], [⟨.exit 0, [], [], [2]⟩, ⟨.ret, [3], [.b], [2]⟩], R54_2, L54_2⟩
def D54_9102 : PcD := ⟨[0, 2, 4, 5], [.i .i64, .p, .i .i64, .a], [⟨.normal, [], [], [0, 2, 4]⟩, ⟨.ret, [3], [.b], [2]⟩], P54_9102⟩
def D54_10 : LpD := ⟨[0, 2, 4, 5], [.i .i64, .p, .i .i64, .a], [6], [.i .i64], [⟨.exit 2, [], [], [0, 2, 4]⟩, ⟨.ret, [3], [.b], [2]⟩], R54_10, L54_10⟩
def Lam54 : LEnv := lamOf [(2, lpK D54_2), (10, lpK D54_10)] [] [9102] [(9102, pcK D54_9102)]
theorem lok54_10 : LoopOK Tryz.prog E54 Lam54 (nthL (bodyOf Tryz.f54) 1) := lp_ok D54_10 (fun _ _ _ => by kernel_rfl) (by kernel_rfl) (fun _ _ _ _ _ _ _ _ _ => by kernel_rfl) (fun _ _ _ _ _ _ _ _ _ _ => by kernel_rfl) (fun _ _ _ _ _ _ _ _ _ => by kernel_rfl)
theorem pok54_9102 : PieceOK Tryz.prog E54 Lam54 (nthP Lam54 (bodyOf Tryz.f54) 0) := pc_ok D54_9102 (fun _ _ _ => by kernel_rfl) (by kernel_rfl) (fun _ _ _ _ _ _ _ => by kernel_rfl)
theorem lok54_2 : LoopOK Tryz.prog E54 Lam54 (nthL (bodyOf Tryz.f54) 0) := lp_ok D54_2 (fun _ _ _ => by kernel_rfl) (by kernel_rfl) (fun _ _ _ _ _ _ _ => by kernel_rfl) (fun _ _ _ _ _ _ _ _ => by kernel_rfl) (fun _ _ _ _ _ _ _ => by kernel_rfl)
def E81 : Env := ext E54 54 G54
theorem S81 (w0 : World) : SP w0 E81 := sg (S54 w0) Tryz.func54 Tryz.call54 (Λ := Lam54) 2 ⟨lok54_2, lok54_10, trivial⟩ 1 ⟨pok54_9102, trivial⟩ (by kernel_rfl) true (fun _ _ _ => by kernel_rfl)
def R81_2 (x_0 : ByteArray) (x_1 : Int) (x_5 : Int) (m : Mem) (kn : Int → Mem → Prop) (k0 : Mem → Prop) (kr : Bool → Mem → Prop) : Prop :=
 kif (decide (x_5 < (↑(x_0.size)))) (kif (decide (0 ≤ x_5) && decide (x_5 < x_0.size)) (kif (((x_0.data.getD (x_5).toNat 0).toNat) == x_1) (kr true m) (kn (IntKind.wrap .i64 (x_5 + 1)) m)) False) (k0  m)
def L81_2 (x_0 : ByteArray) (x_1 : Int) : Nat → Int → Mem → (Mem → Prop) → (Bool → Mem → Prop) → Prop
 | 0, _,  _, _, _ => bump False
 | N + 1, x_5,  m, k0, kr => R81_2 x_0 x_1 x_5 m (fun x_5' m' => L81_2 x_0 x_1 N x_5' m' k0 kr) k0 kr
def F81 (x_0 : ByteArray) (x_1 : Int) (m : Mem) (k : Bool → Mem → Prop) : Prop :=
 ∃ N4, L81_2 x_0 x_1 N4 0 m (fun m1 => (Keeps m m1 ∧ k false m)) (fun x2 m3 => (Keeps m m3 ∧ k x2 m))
def G81 := Gs [.s, .i .u8] [.b] F81
def D81_2 : LpD := ⟨[0, 1], [.s, .i .u8], [5], [.i .i64], [⟨.exit 0, [], [], []⟩, ⟨.ret, [4], [.b], []⟩], R81_2, L81_2⟩
def Lam81 : LEnv := lamOf [(2, lpK D81_2)] [] [] []
theorem lok81_2 : LoopOK Tryz.prog E81 Lam81 (nthL (bodyOf Tryz.f81) 0) := lp_ok D81_2 (fun _ _ _ => by kernel_rfl) (by kernel_rfl) (fun _ _ _ _ _ _ => by kernel_rfl) (fun _ _ _ _ _ _ _ => by kernel_rfl) (fun _ _ _ _ _ _ => by kernel_rfl)
def E82 : Env := ext E81 81 G81
theorem S82 (w0 : World) : SP w0 E82 := sg (S81 w0) Tryz.func81 Tryz.call81 (Λ := Lam81) 1 ⟨lok81_2, trivial⟩ 0 trivial (by kernel_rfl) true (fun _ _ _ _ => by kernel_rfl)
def F82 (x_0 : Int) (x_1 : Bool) (m : Mem) (k : Bool → Mem → Prop) : Prop :=
 kif (x_0 == 0) ((Keeps m m ∧ k true m)) (kif x_1 (kif (decide (x_0 > 0)) ((Keeps m m ∧ k (decide (x_0 < 32)) m)) ((Keeps m m ∧ k false m))) ((Keeps m m ∧ k false m)))
def G82 := Gs [.i .i64, .b] [.b] F82
def E53 : Env := ext E82 82 G82
theorem S53 (w0 : World) : SP w0 E53 := sg0 (S82 w0) Tryz.func82 Tryz.call82 (by kernel_rfl) true (fun _ _ _ _ => by kernel_rfl)
def P53_10102 (b_1 o_1 : Nat) (x_5 : ByteArray) (x_6 : Int) (m : Mem) (kr : Bool → Mem → Prop) : Prop :=
 ∃ Fr15 : Nat → Prop, Fr15 b_1 ∧ (ldI .i64 m b_1 (o_1 + 1) fun x16 => F81 x_5 115 m fun x17 m18 => KeepsIn Fr15 m m18 ∧ (F82 x16 x17 m18 fun x19 m20 => KeepsIn Fr15 m18 m20 ∧ (kif x19 (Fr15 b_1 ∧ (ldI .i64 m20 b_1 (o_1 + 2) fun x21 => F81 x_5 116 m20 fun x22 m23 => KeepsIn Fr15 m20 m23 ∧ (F82 x21 x22 m23 fun x24 m25 => KeepsIn Fr15 m23 m25 ∧ (kif x24 (Fr15 b_1 ∧ (ldI .i64 m25 b_1 (o_1 + 3) fun x26 => F81 x_5 100 m25 fun x27 m28 => KeepsIn Fr15 m25 m28 ∧ (F82 x26 x27 m28 fun x29 m30 => KeepsIn Fr15 m28 m30 ∧ (kif x29 (Fr15 b_1 ∧ (ldI .i64 m30 b_1 (o_1 + 4) fun x31 => F81 x_5 104 m30 fun x32 m33 => KeepsIn Fr15 m30 m33 ∧ (F82 x31 x32 m33 fun x34 m35 => KeepsIn Fr15 m33 m35 ∧ (kif x34 (Fr15 b_1 ∧ (ldI .u32 m35 b_1 (o_1 + 5) fun x36 => kr (decide (x36 ≤ x_6)) m35)) (kr false m35))))) (kr false m30))))) (kr false m25))))) (kr false m20))))
def F53 (c_0 : Nat → AV) (m : Mem) (k : Bool → Mem → Prop) : Prop :=
 newK m ⟨6, c_0, 32, false⟩ fun b2 m1 => ldI .i64 m1 b2 0 fun x3 => F54 x3 m1 fun c4 x5 m6 => newK m6 ⟨4, lget [(.flat (.int .i64 0)), (.flat (.int .i64 0)), (.flat (.int .i64 0)), (.flat (.string ⟨#[]⟩))], 111, false⟩ fun b8 m7 => stG 4 m7 b8 0 c4 fun m9 => kif (!x5) ((Keeps m m9 ∧ k false m)) (ldS m9 b8 3 fun x10 => F81 x10 105 m9 fun x11 m12 => kif x11 (P53_10102 b2 0 x10 65535 m12 (fun x37 m38 => (Keeps m m38 ∧ k x37 m))) (F81 x10 106 m12 fun x13 m14 => kif x13 (P53_10102 b2 0 x10 67108863 m14 (fun x39 m40 => (Keeps m m40 ∧ k x39 m))) (P53_10102 b2 0 x10 0 m14 (fun x41 m42 => (Keeps m m42 ∧ k x41 m)))))
def G53 := Gs [.g 6] [.b] F53
def D53_10102 : PcD := ⟨[1, 5, 6], [.p, .s, .i .u32], [⟨.ret, [2], [.b], []⟩], P53_10102⟩
def Lam53 : LEnv := lamOf [] [10] [10102] [(10102, pcK D53_10102)]
theorem pok53_10102 : PieceOK Tryz.prog E53 Lam53 (nthP Lam53 (bodyOf Tryz.f53) 0) := pc_ok D53_10102 (fun _ _ _ => by kernel_rfl) (by kernel_rfl) (fun _ _ _ _ _ _ => by kernel_rfl)
def E37 : Env := ext E53 53 G53
theorem S37 (w0 : World) : SP w0 E37 := sg (S53 w0) Tryz.func53 Tryz.call53 (Λ := Lam53) 0 trivial 1 ⟨pok53_10102, trivial⟩ (by kernel_rfl) true (fun _ _ _ => by kernel_rfl)
def P37_10004 (b_4 o_4 : Nat) (x_6 : Int) (x_67 : Bool) (m : Mem) (kn : Int → Mem → Prop) : Prop :=
 kif x_67 (ldI .i64 m b_4 (o_4 + 1) fun x26 => kn (bits .or .u32 (bits .or .u32 x_6 33554432) (IntKind.wrap .u32 (IntKind.wrap .i64 (x26 - 64)))) m) (ldI .i64 m b_4 (o_4 + 0) fun x27 => kif (x27 == 16) (ldI .i64 m b_4 (o_4 + 1) fun x28 => kn (bits .or .u32 x_6 (IntKind.wrap .u32 ((IntKind.wrap .u32 x28) * 2097152))) m) (kn x_6 m))
def P37_6004 (b_4 o_4 : Nat) (x_6 : Int) (x_43 : Bool) (m : Mem) (kn : Int → Mem → Prop) : Prop :=
 kif x_43 (ldI .i64 m b_4 (o_4 + 1) fun x21 => kn (bits .or .u32 x_6 (IntKind.wrap .u32 x21)) m) (ldI .i64 m b_4 (o_4 + 0) fun x22 => kif (x22 == 1) (ldI .i64 m b_4 (o_4 + 1) fun x23 => kn (bits .or .u32 x_6 (IntKind.wrap .u32 ((IntKind.wrap .u32 x23) * 65536))) m) (ldI .i64 m b_4 (o_4 + 0) fun x24 => kif (x24 == 16) (ldI .i64 m b_4 (o_4 + 1) fun x25 => P37_10004 b_4 o_4 x_6 (decide (x25 ≥ 64)) m (fun x29 m30 => kn x29 m30)) (P37_10004 b_4 o_4 x_6 false m (fun x31 m32 => kn x31 m32))))
def F37 (c_0 : Nat → AV) (m : Mem) (k : Int → Bool → Mem → Prop) : Prop :=
 newK m ⟨6, c_0, 32, false⟩ fun b2 m1 => ldG 6 m1 b2 0 fun c3 => F53 c3 m1 fun x4 m5 => kif (!x4) ((Keeps m m5 ∧ k 0 false m)) (ldI .i64 m5 b2 0 fun x6 => F54 x6 m5 fun c7 x8 m9 => newK m9 ⟨4, lget [(.flat (.int .i64 0)), (.flat (.int .i64 0)), (.flat (.int .i64 0)), (.flat (.string ⟨#[]⟩))], 111, false⟩ fun b11 m10 => stG 4 m10 b11 0 c7 fun m12 => ldI .i64 m12 b11 0 fun x13 => ldI .i64 m12 b2 1 fun x14 => ldI .i64 m12 b2 2 fun x15 => ldI .i64 m12 b2 3 fun x16 => ldI .i64 m12 b2 4 fun x17 => ldI .u32 m12 b2 5 fun x18 => ldI .i64 m12 b11 0 fun x19 => kif (x19 == 0) (P37_6004 b11 0 (bits .or .u32 (bits .or .u32 (bits .or .u32 (bits .or .u32 (bits .or .u32 (IntKind.wrap .u32 ((IntKind.wrap .u32 x13) * 67108864)) (IntKind.wrap .u32 ((IntKind.wrap .u32 x14) * 2097152))) (IntKind.wrap .u32 ((IntKind.wrap .u32 x15) * 65536))) (IntKind.wrap .u32 ((IntKind.wrap .u32 x16) * 2048))) (IntKind.wrap .u32 ((IntKind.wrap .u32 x17) * 64))) x18) true m12 (fun x33 m34 => (Keeps m m34 ∧ k x33 true m))) (ldI .i64 m12 b11 0 fun x20 => P37_6004 b11 0 (bits .or .u32 (bits .or .u32 (bits .or .u32 (bits .or .u32 (bits .or .u32 (IntKind.wrap .u32 ((IntKind.wrap .u32 x13) * 67108864)) (IntKind.wrap .u32 ((IntKind.wrap .u32 x14) * 2097152))) (IntKind.wrap .u32 ((IntKind.wrap .u32 x15) * 65536))) (IntKind.wrap .u32 ((IntKind.wrap .u32 x16) * 2048))) (IntKind.wrap .u32 ((IntKind.wrap .u32 x17) * 64))) x18) (x20 == 28) m12 (fun x35 m36 => (Keeps m m36 ∧ k x35 true m))))
def G37 := Gs [.g 6] [.i .u32, .b] F37
def D37_6004 : PcD := ⟨[4, 6, 43], [.p, .i .u32, .b], [⟨.normal, [6], [.i .u32], []⟩], P37_6004⟩
def D37_10004 : PcD := ⟨[4, 6, 67], [.p, .i .u32, .b], [⟨.normal, [6], [.i .u32], []⟩], P37_10004⟩
def Lam37 : LEnv := lamOf [] [] [6004, 10004] [(6004, pcK D37_6004), (10004, pcK D37_10004)]
theorem pok37_10004 : PieceOK Tryz.prog E37 Lam37 (nthP Lam37 (bodyOf Tryz.f37) 1) := pc_ok D37_10004 (fun _ _ _ => by kernel_rfl) (by kernel_rfl) (fun _ _ _ _ _ _ => by kernel_rfl)
theorem pok37_6004 : PieceOK Tryz.prog E37 Lam37 (nthP Lam37 (bodyOf Tryz.f37) 0) := pc_ok D37_6004 (fun _ _ _ => by kernel_rfl) (by kernel_rfl) (fun _ _ _ _ _ _ => by kernel_rfl)
def E16 : Env := ext E37 37 G37
theorem S16 (w0 : World) : SP w0 E16 := sg (S37 w0) Tryz.func37 Tryz.call37 (Λ := Lam37) 0 trivial 2 ⟨pok37_6004, pok37_10004, trivial⟩ (by kernel_rfl) true (fun _ _ _ => by kernel_rfl)
def R16_3 (v_0 : AV) (v_3 : AV) (x_4 : Int) (m : Mem) (kn : AV → Int → Mem → Prop) (k0 : AV → Mem → Prop) : Prop :=
 klen v_0 fun x1 => kif (decide (x_4 < x1)) (ksl v_0 fun b2 o3 l4 p5 => kif (decide (0 ≤ x_4) && decide (x_4 < l4)) (ldG 6 m b2 (o3 + (x_4).toNat * 6) fun c6 => F37 c6 m fun x7 x8 m9 => newK m9 ⟨4, upd (upd (upd (upd (lget [(.flat (.int .u8 0)), (.flat (.int .u8 0)), (.flat (.int .u8 0)), (.flat (.int .u8 0))]) 0 (.flat (.int .u8 (IntKind.wrap .u8 (x7.fdiv 16777216))))) 1 (.flat (.int .u8 (IntKind.wrap .u8 (x7.fdiv 65536))))) 2 (.flat (.int .u8 (IntKind.wrap .u8 (x7.fdiv 256))))) 3 (.flat (.int .u8 (IntKind.wrap .u8 x7))), 5, false⟩ fun b11 m10 => appS 1 1 5 v_3 (.sl b11 0 4 (.ex 4)) m10 fun v12 m13 => kn v12 (IntKind.wrap .i64 (x_4 + 1)) m13) False) (k0 v_3 m)
def L16_3 (v_0 : AV) : Nat → AV → Int → Mem → (AV → Mem → Prop) → Prop
 | 0, _, _,  _, _ => bump False
 | N + 1, v_3, x_4,  m, k0 => R16_3 v_0 v_3 x_4 m (fun v_3' x_4' m' => L16_3 v_0 N v_3' x_4' m' k0) k0
def F16 (v_0 : AV) (m : Mem) (k : AV → Mem → Prop) : Prop :=
 ∃ N16, L16_3 v_0 N16 (.flat (.slice none 0 0)) 0 m (fun v14 m15 => k v14 m15)
def G16 := Gs [.a] [.a] F16
def D16_3 : LpD := ⟨[0], [.a], [3, 4], [.a, .i .i64], [⟨.exit 0, [3], [.a], []⟩], R16_3, L16_3⟩
def Lam16 : LEnv := lamOf [(3, lpK D16_3)] [] [] []
theorem lok16_3 : LoopOK Tryz.prog E16 Lam16 (nthL (bodyOf Tryz.f16) 0) := lp_ok D16_3 (fun _ _ _ => by kernel_rfl) (by kernel_rfl) (fun _ _ _ _ _ _ => by kernel_rfl) (fun _ _ _ _ _ _ _ => by kernel_rfl) (fun _ _ _ _ _ _ => by kernel_rfl)
def E17 : Env := ext E16 16 G16
theorem S17 (w0 : World) : SP w0 E17 := sg (S16 w0) Tryz.func16 Tryz.call16 (Λ := Lam16) 1 ⟨lok16_3, trivial⟩ 0 trivial (by kernel_rfl) false (fun _ _ _ => by kernel_rfl)
def R17_3 (v_0 : AV) (v_3 : AV) (x_4 : Int) (m : Mem) (kn : AV → Int → Mem → Prop) (k0 : AV → Mem → Prop) : Prop :=
 klen v_0 fun x1 => kif (decide (x_4 < x1)) (ksl v_0 fun b2 o3 l4 p5 => kif (decide (0 ≤ x_4) && decide (x_4 < l4)) (ldA m b2 (o3 + (x_4).toNat * 1) fun v6 => appS 6 48 32 v_3 v6 m fun v7 m8 => kn v7 (IntKind.wrap .i64 (x_4 + 1)) m8) False) (k0 v_3 m)
def L17_3 (v_0 : AV) : Nat → AV → Int → Mem → (AV → Mem → Prop) → Prop
 | 0, _, _,  _, _ => bump False
 | N + 1, v_3, x_4,  m, k0 => R17_3 v_0 v_3 x_4 m (fun v_3' x_4' m' => L17_3 v_0 N v_3' x_4' m' k0) k0
def F17 (v_0 : AV) (m : Mem) (k : AV → Mem → Prop) : Prop :=
 ∃ N11, L17_3 v_0 N11 (.flat (.slice none 0 0)) 0 m (fun v9 m10 => k v9 m10)
def G17 := Gs [.a] [.a] F17
def D17_3 : LpD := ⟨[0], [.a], [3, 4], [.a, .i .i64], [⟨.exit 0, [3], [.a], []⟩], R17_3, L17_3⟩
def Lam17 : LEnv := lamOf [(3, lpK D17_3)] [] [] []
theorem lok17_3 : LoopOK Tryz.prog E17 Lam17 (nthL (bodyOf Tryz.f17) 0) := lp_ok D17_3 (fun _ _ _ => by kernel_rfl) (by kernel_rfl) (fun _ _ _ _ _ _ => by kernel_rfl) (fun _ _ _ _ _ _ _ => by kernel_rfl) (fun _ _ _ _ _ _ => by kernel_rfl)
def E21 : Env := ext E17 17 G17
theorem S21 (w0 : World) : SP w0 E21 := sg (S17 w0) Tryz.func17 Tryz.call17 (Λ := Lam17) 1 ⟨lok17_3, trivial⟩ 0 trivial (by kernel_rfl) false (fun _ _ _ => by kernel_rfl)
def F21 (x_0 : Int) (x_1 : Int) (x_2 : Int) (x_3 : Int) (m : Mem) (k : (Nat → AV) → Mem → Prop) : Prop :=
 newK m ⟨6, Z6, 32, false⟩ fun b2 m1 => stG 6 m1 b2 0 (upd (upd (upd (upd (Z6) 0 (.flat (.int .i64 x_0))) 2 (.flat (.int .i64 x_1))) 1 (.flat (.int .i64 x_2))) 5 (.flat (.int .u32 (bits .and .u32 x_3 65535)))) fun m3 => ldG 6 m3 b2 0 fun c4 => (Keeps m m3 ∧ InDomG 6 m c4 ∧ k c4 m)
def G21 := Gs [.i .i64, .i .i64, .i .i64, .i .u32] [.g 6] F21
def E18 : Env := ext E21 21 G21
theorem S18 (w0 : World) : SP w0 E18 := sg0 (S21 w0) Tryz.func21 Tryz.call21 (by kernel_rfl) true (fun _ _ _ _ _ _ => by kernel_rfl)
def F18 (x_0 : Int) (x_1 : Int) (m : Mem) (k : AV → Mem → Prop) : Prop :=
 F21 51 x_0 x_0 x_1 m fun c1 m2 => newK m2 ⟨12, splice (splice (Z12) 0 6 (upd (upd (upd (Z6) 0 (.flat (.int .i64 53))) 2 (.flat (.int .i64 x_0))) 5 (.flat (.int .u32 (x_1.fdiv 65536))))) 6 6 c1, 32, false⟩ fun b4 m3 => k (.sl b4 0 2 (.ex 2)) m3
def G18 := Gs [.i .i64, .i .u32] [.a] F18
def E22 : Env := ext E18 18 G18
theorem S22 (w0 : World) : SP w0 E22 := sg0 (S18 w0) Tryz.func18 Tryz.call18 (by kernel_rfl) false (fun _ _ _ _ => by kernel_rfl)
def F22 (x_0 : Int) (x_1 : Int) (x_2 : Int) (x_3 : Int) (m : Mem) (k : AV → Mem → Prop) : Prop :=
 newK m ⟨12, splice (splice (Z12) 0 6 (upd (upd (upd (upd (Z6) 0 (.flat (.int .i64 x_0))) 1 (.flat (.int .i64 x_1))) 2 (.flat (.int .i64 x_2))) 5 (.flat (.int .u32 (bits .and .u32 (IntKind.wrap .u32 (IntKind.wrap .i64 ((IntKind.wrap .i64 (0 - x_3)) - 1))) 65535))))) 6 6 (upd (Z6) 0 (.flat (.int .i64 1))), 32, false⟩ fun b2 m1 => k (.sl b2 0 2 (.ex 2)) m1
def G22 := Gs [.i .i64, .i .i64, .i .i64, .i .i64] [.a] F22
def E19 : Env := ext E22 22 G22
theorem S19 (w0 : World) : SP w0 E19 := sg0 (S22 w0) Tryz.func22 Tryz.call22 (by kernel_rfl) false (fun _ _ _ _ _ _ => by kernel_rfl)
def F19  (m : Mem) (k : AV → Mem → Prop) : Prop :=
 F22 42 0 0 0 m fun v1 m2 => k v1 m2
def G19 := Gs [] [.a] F19
def E24 : Env := ext E19 19 G19
theorem S24 (w0 : World) : SP w0 E24 := sg0 (S19 w0) Tryz.func19 Tryz.call19 (by kernel_rfl) false (fun _ _ => by kernel_rfl)
def F24 (b_0 o_0 : Nat) (x_1 : Int) (m : Mem) (k : Mem → Prop) : Prop :=
 stC m b_0 (o_0 + 75) (.flat (.int .i64 (if (if 32 < x_1 then 32 else x_1) > 1 then (if 32 < x_1 then 32 else x_1) else 1))) fun m1 => k  m1
def G24 := Gs [.p, .i .i64] [] F24
def E30 : Env := ext E24 24 G24
theorem S30 (w0 : World) : SP w0 E30 := sg0 (S24 w0) Tryz.func24 Tryz.call24 (by kernel_rfl) false (fun _ _ _ _ _ => by kernel_rfl)
def F30 (b_0 o_0 : Nat) (m : Mem) (k : AV → Mem → Prop) : Prop :=
 ldA m b_0 (o_0 + 0) fun v1 => k v1 m
def G30 := Gs [.p] [.a] F30
def E55 : Env := ext E30 30 G30
theorem S55 (w0 : World) : SP w0 E55 := sg0 (S30 w0) Tryz.func30 Tryz.call30 (by kernel_rfl) false (fun _ _ _ _ => by kernel_rfl)
def R55_3 (b_0 o_0 : Nat) (v_9 : AV) (x_10 : Int) (v_3 : AV) (x_11 : Int) (m : Mem) (kn : AV → Int → Mem → Prop) (k0 : AV → Mem → Prop) : Prop :=
 kif (decide (x_11 < x_10)) (ksl v_9 fun b3 o4 l5 p6 => kif (decide (0 ≤ x_11) && decide (x_11 < l5)) (ldB m b3 (o4 + (x_11).toNat * 1) fun x7 => kif x7 (newK m ⟨1, upd (lget [(.flat (.int .i64 0))]) 0 (.flat (.int .i64 x_11)), 3, false⟩ fun b9 m8 => appS 1 8 3 v_3 (.sl b9 0 1 (.ex 1)) m8 fun v10 m11 => ldA m11 b_0 (o_0 + 2) fun v12 => ksl v12 fun b13 o14 l15 p16 => kif (decide (0 ≤ x_11) && decide (x_11 < l15)) (stC m11 b13 (o14 + (x_11).toNat * 1) (.flat (.bool false)) fun m17 => kn v10 (IntKind.wrap .i64 (x_11 + 1)) m17) False) (kn v_3 (IntKind.wrap .i64 (x_11 + 1)) m)) False) (k0 v_3 m)
def L55_3 (b_0 o_0 : Nat) (v_9 : AV) (x_10 : Int) : Nat → AV → Int → Mem → (AV → Mem → Prop) → Prop
 | 0, _, _,  _, _ => bump False
 | N + 1, v_3, x_11,  m, k0 => R55_3 b_0 o_0 v_9 x_10 v_3 x_11 m (fun v_3' x_11' m' => L55_3 b_0 o_0 v_9 x_10 N v_3' x_11' m' k0) k0
def F55 (b_0 o_0 : Nat) (m : Mem) (k : AV → Mem → Prop) : Prop :=
 ldA m b_0 (o_0 + 2) fun v1 => klen v1 fun x2 => ∃ N20, L55_3 b_0 o_0 v1 x2 N20 (.flat (.slice none 0 0)) 0 m (fun v18 m19 => k v18 m19)
def G55 := Gs [.p] [.a] F55
def D55_3 : LpD := ⟨[0, 9, 10], [.p, .a, .i .i64], [3, 11], [.a, .i .i64], [⟨.exit 0, [3], [.a], []⟩], R55_3, L55_3⟩
def Lam55 : LEnv := lamOf [(3, lpK D55_3)] [] [] []
theorem lok55_3 : LoopOK Tryz.prog E55 Lam55 (nthL (bodyOf Tryz.f55) 0) := lp_ok D55_3 (fun _ _ _ => by kernel_rfl) (by kernel_rfl) (fun _ _ _ _ _ _ _ _ _ => by kernel_rfl) (fun _ _ _ _ _ _ _ _ _ _ => by kernel_rfl) (fun _ _ _ _ _ _ _ _ _ => by kernel_rfl)
def E39 : Env := ext E55 55 G55
theorem S39 (w0 : World) : SP w0 E39 := sg (S55 w0) Tryz.func55 Tryz.call55 (Λ := Lam55) 1 ⟨lok55_3, trivial⟩ 0 trivial (by kernel_rfl) false (fun _ _ _ _ => by kernel_rfl)
def R39_1 (b_0 o_0 : Nat) (v_9 : AV) (x_10 : Int) (x_11 : Int) (m : Mem) (kn : Int → Mem → Prop) (k0 : Mem → Prop) : Prop :=
 kif (decide (x_11 < x_10)) (ksl v_9 fun b11 o12 l13 p14 => kif (decide (0 ≤ x_11) && decide (x_11 < l13)) (ldI .i64 m b11 (o12 + (x_11).toNat * 1) fun x15 => ldA m b_0 (o_0 + 74) fun v16 => bump False) False) (k0  m)
def L39_1 (b_0 o_0 : Nat) (v_9 : AV) (x_10 : Int) : Nat → Int → Mem → (Mem → Prop) → Prop
 | 0, _,  _, _ => bump False
 | N + 1, x_11,  m, k0 => R39_1 b_0 o_0 v_9 x_10 x_11 m (fun x_11' m' => L39_1 b_0 o_0 v_9 x_10 N x_11' m' k0) k0
def F39 (b_0 o_0 : Nat) (m : Mem) (k : Mem → Prop) : Prop :=
 ldA m b_0 (o_0 + 73) fun v1 => kptr v1 fun b2 o3 => F30 b2 o3 m fun v4 m5 => kptr v4 fun b6 o7 => F55 b6 o7 m5 fun v8 m9 => klen v8 fun x10 => ∃ N18, L39_1 b_0 o_0 v8 x10 N18 0 m9 (fun m17 => k  m17)
def G39 := Gs [.p] [] F39
def D39_1 : LpD := ⟨[0, 9, 10], [.p, .a, .i .i64], [11], [.i .i64], [⟨.exit 0, [], [], []⟩], R39_1, L39_1⟩
def Lam39 : LEnv := lamOf [(1, lpK D39_1)] [] [] []
theorem lok39_1 : LoopOK Tryz.prog E39 Lam39 (nthL (bodyOf Tryz.f39) 0) := lp_ok D39_1 (fun _ _ _ => by kernel_rfl) (by kernel_rfl) (fun _ _ _ _ _ _ _ _ => by kernel_rfl) (fun _ _ _ _ _ _ _ _ _ => by kernel_rfl) (fun _ _ _ _ _ _ _ _ => by kernel_rfl)
def E89 : Env := ext E39 39 G39
theorem S89 (w0 : World) : SP w0 E89 := sg (S39 w0) Tryz.func39 Tryz.call39 (Λ := Lam39) 1 ⟨lok39_1, trivial⟩ 0 trivial (by kernel_rfl) false (fun _ _ _ _ => by kernel_rfl)
def F89 (b_0 o_0 : Nat) (m : Mem) (k : Int → Bool → Mem → Prop) : Prop :=
 ldA m b_0 (o_0 + 0) fun v1 => klen v1 fun x2 => kif (x2 == 0) ((Keeps m m ∧ k 0 false m)) (ldA m b_0 (o_0 + 0) fun v3 => ksl v3 fun b4 o5 l6 p7 => kif (decide (0 ≤ (0 : Int)) && decide ((0 : Int) < l6)) (ldI .i64 m b4 (o5 + 0 + 0) fun x8 => (Keeps m m ∧ k x8 true m)) False)
def G89 := Gs [.p] [.i .i64, .b] F89
def E58 : Env := ext E89 89 G89
theorem S58 (w0 : World) : SP w0 E58 := sg0 (S89 w0) Tryz.func89 Tryz.call89 (by kernel_rfl) true (fun _ _ _ _ => by kernel_rfl)
def F58 (b_0 o_0 : Nat) (m : Mem) (k : Int → Bool → Mem → Prop) : Prop :=
 ldA m b_0 (o_0 + 1) fun v1 => kptr v1 fun b2 o3 => F89 b2 o3 m fun x4 x5 m6 => (Keeps m m6 ∧ k x4 x5 m)
def G58 := Gs [.p] [.i .i64, .b] F58
def E59 : Env := ext E58 58 G58
theorem S59 (w0 : World) : SP w0 E59 := sg0 (S58 w0) Tryz.func58 Tryz.call58 (by kernel_rfl) true (fun _ _ _ _ => by kernel_rfl)
def F59 (b_0 o_0 : Nat) (x_1 : Bool) (m : Mem) (k : Mem → Prop) : Prop :=
 ldI .u32 m b_0 (o_0 + 39 + 13) fun x1 => stC m b_0 (o_0 + 39 + 13) (.flat (.int .u32 (bits .andNot .u32 x1 1024))) fun m2 => kif x_1 (ldI .u32 m2 b_0 (o_0 + 39 + 13) fun x3 => stC m2 b_0 (o_0 + 39 + 13) (.flat (.int .u32 (bits .or .u32 x3 1024))) fun m4 => k  m4) (k  m2)
def G59 := Gs [.p, .b] [] F59
def E90 : Env := ext E59 59 G59
theorem S90 (w0 : World) : SP w0 E90 := sg0 (S59 w0) Tryz.func59 Tryz.call59 (by kernel_rfl) false (fun _ _ _ _ _ => by kernel_rfl)
def F90 (b_0 o_0 : Nat) (m : Mem) (k : Bool → Mem → Prop) : Prop :=
 ldI .u32 m b_0 (o_0 + 0) fun x1 => ldI .u32 m b_0 (o_0 + 1) fun x2 => (Keeps m m ∧ k ((bits .and .u32 x1 x2) != 0) m)
def G90 := Gs [.p] [.b] F90
def E60 : Env := ext E90 90 G90
theorem S60 (w0 : World) : SP w0 E60 := sg0 (S90 w0) Tryz.func90 Tryz.call90 (by kernel_rfl) true (fun _ _ _ _ => by kernel_rfl)
def F60 (b_0 o_0 : Nat) (m : Mem) (k : Bool → Mem → Prop) : Prop :=
 ldA m b_0 (o_0 + 2) fun v1 => kptr v1 fun b2 o3 => F90 b2 o3 m fun x4 m5 => (Keeps m m5 ∧ k x4 m)
def G60 := Gs [.p] [.b] F60
def E73 : Env := ext E60 60 G60
theorem S73 (w0 : World) : SP w0 E73 := sg0 (S60 w0) Tryz.func60 Tryz.call60 (by kernel_rfl) true (fun _ _ _ _ => by kernel_rfl)
def F73 (b_0 o_0 : Nat) (m : Mem) (k : Bool → Mem → Prop) : Prop :=
 ldI .u32 m b_0 (o_0 + 39 + 13) fun x1 => ldI .u32 m b_0 (o_0 + 39 + 12) fun x2 => (Keeps m m ∧ k ((bits .and .u32 (bits .and .u32 x1 65280) (bits .and .u32 x2 65280)) != 0) m)
def G73 := Gs [.p] [.b] F73
def E61 : Env := ext E73 73 G73
theorem S61 (w0 : World) : SP w0 E61 := sg0 (S73 w0) Tryz.func73 Tryz.call73 (by kernel_rfl) true (fun _ _ _ _ => by kernel_rfl)
def F61 (b_0 o_0 : Nat) (m : Mem) (k : Bool → Mem → Prop) : Prop :=
 F73 b_0 o_0 m fun x1 m2 => kif x1 (ldI .u32 m2 b_0 (o_0 + 39 + 12) fun x3 => kif ((bits .and .u32 x3 1) != 0) (ldI .u32 m2 b_0 (o_0 + 39 + 12) fun x4 => (Keeps m m2 ∧ k ((bits .and .u32 x4 2) == 0) m)) ((Keeps m m2 ∧ k false m))) ((Keeps m m2 ∧ k false m))
def G61 := Gs [.p] [.b] F61
def E40 : Env := ext E61 61 G61
theorem S40 (w0 : World) : SP w0 E40 := sg0 (S61 w0) Tryz.func61 Tryz.call61 (by kernel_rfl) true (fun _ _ _ _ => by kernel_rfl)
def F40 (b_0 o_0 : Nat) (m : Mem) (k : Bool → Mem → Prop) : Prop :=
 ldA m b_0 (o_0 + 73) fun v1 => kptr v1 fun b2 o3 => F58 b2 o3 m fun x4 x5 m6 => ldA m6 b_0 (o_0 + 73) fun v7 => kptr v7 fun b8 o9 => F60 b8 o9 m6 fun x10 m11 => F59 b_0 (o_0 + 0) x10 m11 fun m12 => kif x5 (ldI .i64 m12 b_0 (o_0 + 0 + 72) fun x13 => kif (decide (x4 ≤ x13)) (k true m12) (ldB m12 b_0 (o_0 + 0 + 71) fun x14 => kif x14 (k true m12) (F61 b_0 (o_0 + 0) m12 fun x15 m16 => k x15 m16))) (ldB m12 b_0 (o_0 + 0 + 71) fun x17 => kif x17 (k true m12) (F61 b_0 (o_0 + 0) m12 fun x18 m19 => k x18 m19))
def G40 := Gs [.p] [.b] F40
def E91 : Env := ext E40 40 G40
theorem S91 (w0 : World) : SP w0 E91 := sg0 (S40 w0) Tryz.func40 Tryz.call40 (by kernel_rfl) false (fun _ _ _ _ => by kernel_rfl)
def F91 (b_0 o_0 : Nat) (m : Mem) (k : Bool → Mem → Prop) : Prop :=
 ldI .u32 m b_0 (o_0 + 39 + 12) fun x1 => kif ((bits .and .u32 x1 16) != 0) (ldI .u32 m b_0 (o_0 + 39 + 12) fun x2 => (Keeps m m ∧ k ((bits .and .u32 x2 2) == 0) m)) ((Keeps m m ∧ k false m))
def G91 := Gs [.p] [.b] F91
def E121 : Env := ext E91 91 G91
theorem S121 (w0 : World) : SP w0 E121 := sg0 (S91 w0) Tryz.func91 Tryz.call91 (by kernel_rfl) true (fun _ _ _ _ => by kernel_rfl)
def R121_5 (b_0 o_0 : Nat) (x_1 : Int) (c_13 : Nat → AV) (x_5 : Int) (x_14 : Int) (m : Mem) (kn : Int → Int → Mem → Prop) (k0 : Int → Mem → Prop) : Prop :=
 kif (decide (x_14 < 8)) (kif (decide (0 ≤ x_14) && decide (x_14 < 8)) (kite ((x_14).toNat * 2 + 2 ≤ 16) (newK m ⟨2, lget [(.flat (.int .u32 0)), (.flat (.int .u32 0))], 43, false⟩ fun b3 m2 => stG 2 m2 b3 0 (sub c_13 ((x_14).toNat * 2) 2) fun m4 => ldI .u32 m4 b3 0 fun x5 => kif ((bits .and .u32 (bits .xor .u32 x5 x_1) 4294966272) != 0) (kn x_5 (IntKind.wrap .i64 (x_14 + 1)) m4) (ldI .u32 m4 b3 1 fun x6 => kif ((bits .and .u32 x6 4) != 0) (k0 x_14 m4) (ldI .u32 m4 b3 0 fun x7 => ldI .u32 m4 b_0 (o_0 + 39 + 10) fun x8 => kif ((bits .and .u32 (bits .xor .u32 x7 x8) 255) == 0) (k0 x_14 m4) (kn x_5 (IntKind.wrap .i64 (x_14 + 1)) m4)))) False) False) (k0 x_5 m)
def L121_5 (b_0 o_0 : Nat) (x_1 : Int) (c_13 : Nat → AV) : Nat → Int → Int → Mem → (Int → Mem → Prop) → Prop
 | 0, _, _,  _, _ => bump False
 | N + 1, x_5, x_14,  m, k0 => R121_5 b_0 o_0 x_1 c_13 x_5 x_14 m (fun x_5' x_14' m' => L121_5 b_0 o_0 x_1 c_13 N x_5' x_14' m' k0) k0
def F121 (b_0 o_0 : Nat) (x_1 : Int) (m : Mem) (k : Int → Mem → Prop) : Prop :=
 ldG 16 m b_0 (o_0 + 55) fun c1 => ∃ N11, L121_5 b_0 o_0 x_1 c1 N11 (-1) 0 m (fun x9 m10 => (Keeps m m10 ∧ k x9 m))
def G121 := Gs [.p, .i .u32] [.i .i64] F121
def D121_5 : LpD := ⟨[0, 1, 13], [.p, .i .u32, .g 16], [5, 14], [.i .i64, .i .i64], [⟨.exit 0, [5], [.i .i64], []⟩], R121_5, L121_5⟩
def Lam121 : LEnv := lamOf [(5, lpK D121_5)] [] [] []
theorem lok121_5 : LoopOK Tryz.prog E121 Lam121 (nthL (bodyOf Tryz.f121) 0) := lp_ok D121_5 (fun _ _ _ => by kernel_rfl) (by kernel_rfl) (fun _ _ _ _ _ _ _ _ _ => by kernel_rfl) (fun _ _ _ _ _ _ _ _ _ _ => by kernel_rfl) (fun _ _ _ _ _ _ _ _ _ => by kernel_rfl)
def E92 : Env := ext E121 121 G121
theorem S92 (w0 : World) : SP w0 E92 := sg (S121 w0) Tryz.func121 Tryz.call121 (Λ := Lam121) 1 ⟨lok121_5, trivial⟩ 0 trivial (by kernel_rfl) true (fun _ _ _ _ _ => by kernel_rfl)
def P92_14004 (x_1 : Int) (x_11 : Int) (x_38 : Bool) (m : Mem) (kr : Int → Int → Bool → Mem → Prop) : Prop :=
 kif x_38 (kr 0 1 false m) (kr (bits .or .u32 (bits .and .u32 x_11 4294966272) (bits .and .u32 x_1 1023)) (-1) false m)
def P92_6102 (b_0 o_0 : Nat) (x_1 : Int) (x_2 : Bool) (x_9 : Int) (m : Mem) (kr : Int → Int → Bool → Mem → Prop) : Prop :=
 F121 b_0 o_0 x_1 m fun x1 m2 => kif (decide (x1 < 0)) (kr 0 x_9 true m2) (kif (decide (0 ≤ x1) && decide (x1 < 8)) (ldI .u32 m2 b_0 (o_0 + 55 + (x1).toNat * 2 + 1) fun x3 => kif ((bits .and .u32 x3 1) == 0) (kr 0 x_9 false m2) (kif x_2 (P92_14004 x_1 x3 ((bits .and .u32 x3 2) == 0) m2 (fun x4 x5 x6 m7 => kr x4 x5 x6 m7)) (P92_14004 x_1 x3 false m2 (fun x8 x9 x10 m11 => kr x8 x9 x10 m11)))) False)
def F92 (b_0 o_0 : Nat) (x_1 : Int) (x_2 : Bool) (m : Mem) (k : Int → Int → Bool → Mem → Prop) : Prop :=
 kif x_2 (P92_6102 b_0 o_0 x_1 x_2 3 m (fun x12 x13 x14 m15 => (Keeps m m15 ∧ k x12 x13 x14 m))) (P92_6102 b_0 o_0 x_1 x_2 2 m (fun x16 x17 x18 m19 => (Keeps m m19 ∧ k x16 x17 x18 m)))
def G92 := Gs [.p, .i .u32, .b] [.i .u32, .i .i64, .b] F92
def D92_6102 : PcD := ⟨[0, 1, 2, 9], [.p, .i .u32, .b, .i .i64], [⟨.ret, [6, 7, 8], [.i .u32, .i .i64, .b], []⟩], P92_6102⟩
def D92_14004 : PcD := ⟨[1, 11, 38], [.i .u32, .i .u32, .b], [⟨.ret, [6, 7, 8], [.i .u32, .i .i64, .b], []⟩], P92_14004⟩
def Lam92 : LEnv := lamOf [] [] [6102, 14004] [(6102, pcK D92_6102), (14004, pcK D92_14004)]
theorem pok92_14004 : PieceOK Tryz.prog E92 Lam92 (nthP Lam92 (bodyOf Tryz.f92) 1) := pc_ok D92_14004 (fun _ _ _ => by kernel_rfl) (by kernel_rfl) (fun _ _ _ _ _ => by kernel_rfl)
theorem pok92_6102 : PieceOK Tryz.prog E92 Lam92 (nthP Lam92 (bodyOf Tryz.f92) 0) := pc_ok D92_6102 (fun _ _ _ => by kernel_rfl) (by kernel_rfl) (fun _ _ _ _ _ _ _ => by kernel_rfl)
def E62 : Env := ext E92 92 G92
theorem S62 (w0 : World) : SP w0 E62 := sg (S92 w0) Tryz.func92 Tryz.call92 (Λ := Lam92) 0 trivial 2 ⟨pok92_6102, pok92_14004, trivial⟩ (by kernel_rfl) true (fun _ _ _ _ _ _ => by kernel_rfl)
def P62_12102 (b_0 o_0 : Nat) (x_1 : Int) (x_3 : Bool) (m : Mem) (kr : Int → Int → Bool → Mem → Prop) : Prop :=
 F92 b_0 o_0 x_1 x_3 m fun x18 x19 x20 m21 => kr x18 x19 x20 m21
def P62_9004 (b_0 o_0 : Nat) (x_1 : Int) (x_3 : Bool) (x_11 : Int) (x_21 : Bool) (m : Mem) (kr : Int → Int → Bool → Mem → Prop) (kn : Mem → Prop) : Prop :=
 kif x_21 (kr 0 x_11 false m) (kif (decide (x_1 ≥ 2147483648)) (kif (decide (x_1 < 3221225472)) (kr (bits .and .u32 x_1 536870911) (-1) false m) (kn  m)) (kn  m))
def P62_8105 (b_0 o_0 : Nat) (x_1 : Int) (x_2 : Int) (x_3 : Bool) (x_11 : Int) (m : Mem) (kr : Int → Int → Bool → Mem → Prop) : Prop :=
 kif (decide (IntKind.wrap .u32 x_2 = 0)) False (kif ((x_1.tmod (IntKind.wrap .u32 x_2)) != 0) (P62_9004 b_0 o_0 x_1 x_3 x_11 true m (fun x3 x4 x5 m6 => kr x3 x4 x5 m6) (fun m7 => P62_12102 b_0 o_0 x_1 x_3 m7 (fun x22 x23 x24 m25 => kr x22 x23 x24 m25))) (kif (decide (x_1 ≥ 2147483648)) (F91 b_0 o_0 m fun x1 m2 => P62_9004 b_0 o_0 x_1 x_3 x_11 x1 m2 (fun x8 x9 x10 m11 => kr x8 x9 x10 m11) (fun m12 => P62_12102 b_0 o_0 x_1 x_3 m12 (fun x26 x27 x28 m29 => kr x26 x27 x28 m29))) (P62_9004 b_0 o_0 x_1 x_3 x_11 false m (fun x13 x14 x15 m16 => kr x13 x14 x15 m16) (fun m17 => P62_12102 b_0 o_0 x_1 x_3 m17 (fun x30 x31 x32 m33 => kr x30 x31 x32 m33)))))
def P62_6103 (b_0 o_0 : Nat) (x_1 : Int) (x_2 : Int) (x_3 : Bool) (x_11 : Int) (m : Mem) (kr : Int → Int → Bool → Mem → Prop) : Prop :=
 kif (x_2 != 1) (kif (x_2 != 2) (P62_8105 b_0 o_0 x_1 4 x_3 x_11 m (fun x34 x35 x36 m37 => kr x34 x35 x36 m37)) (P62_8105 b_0 o_0 x_1 x_2 x_3 x_11 m (fun x38 x39 x40 m41 => kr x38 x39 x40 m41))) (P62_8105 b_0 o_0 x_1 x_2 x_3 x_11 m (fun x42 x43 x44 m45 => kr x42 x43 x44 m45))
def F62 (b_0 o_0 : Nat) (x_1 : Int) (x_2 : Int) (x_3 : Bool) (m : Mem) (k : Int → Int → Bool → Mem → Prop) : Prop :=
 kif x_3 (P62_6103 b_0 o_0 x_1 x_2 x_3 5 m (fun x46 x47 x48 m49 => (Keeps m m49 ∧ k x46 x47 x48 m))) (P62_6103 b_0 o_0 x_1 x_2 x_3 4 m (fun x50 x51 x52 m53 => (Keeps m m53 ∧ k x50 x51 x52 m)))
def G62 := Gs [.p, .i .u32, .i .i64, .b] [.i .u32, .i .i64, .b] F62
def D62_6103 : PcD := ⟨[0, 1, 2, 3, 11], [.p, .i .u32, .i .i64, .b, .i .i64], [⟨.ret, [8, 9, 10], [.i .u32, .i .i64, .b], []⟩], P62_6103⟩
def D62_8105 : PcD := ⟨[0, 1, 2, 3, 11], [.p, .i .u32, .i .i64, .b, .i .i64], [⟨.ret, [8, 9, 10], [.i .u32, .i .i64, .b], []⟩], P62_8105⟩
def D62_9004 : PcD := ⟨[0, 1, 3, 11, 21], [.p, .i .u32, .b, .i .i64, .b], [⟨.ret, [8, 9, 10], [.i .u32, .i .i64, .b], []⟩, ⟨.normal, [], [], [0, 1, 3]⟩], P62_9004⟩
def D62_12102 : PcD := ⟨[0, 1, 3], [.p, .i .u32, .b], [⟨.ret, [8, 9, 10], [.i .u32, .i .i64, .b], []⟩], P62_12102⟩
def Lam62 : LEnv := lamOf [] [] [6103, 8105, 9004, 12102] [(6103, pcK D62_6103), (8105, pcK D62_8105), (9004, pcK D62_9004), (12102, pcK D62_12102)]
theorem pok62_12102 : PieceOK Tryz.prog E62 Lam62 (nthP Lam62 (bodyOf Tryz.f62) 2) := pc_ok D62_12102 (fun _ _ _ => by kernel_rfl) (by kernel_rfl) (fun _ _ _ _ _ _ => by kernel_rfl)
theorem pok62_9004 : PieceOK Tryz.prog E62 Lam62 (nthP Lam62 (bodyOf Tryz.f62) 3) := pc_ok D62_9004 (fun _ _ _ => by kernel_rfl) (by kernel_rfl) (fun _ _ _ _ _ _ _ _ => by kernel_rfl)
theorem pok62_8105 : PieceOK Tryz.prog E62 Lam62 (nthP Lam62 (bodyOf Tryz.f62) 1) := pc_ok D62_8105 (fun _ _ _ => by kernel_rfl) (by kernel_rfl) (fun _ _ _ _ _ _ _ _ => by kernel_rfl)
theorem pok62_6103 : PieceOK Tryz.prog E62 Lam62 (nthP Lam62 (bodyOf Tryz.f62) 0) := pc_ok D62_6103 (fun _ _ _ => by kernel_rfl) (by kernel_rfl) (fun _ _ _ _ _ _ _ _ => by kernel_rfl)
def E63 : Env := ext E62 62 G62
theorem S63 (w0 : World) : SP w0 E63 := sg (S62 w0) Tryz.func62 Tryz.call62 (Λ := Lam62) 0 trivial 4 ⟨pok62_6103, pok62_8105, pok62_12102, pok62_9004, trivial⟩ (by kernel_rfl) true (fun _ _ _ _ _ _ _ => by kernel_rfl)
def F63 (b_0 o_0 : Nat) (m : Mem) (k : Int → Mem → Prop) : Prop :=
 ldA m b_0 (o_0 + 0) fun v1 => klen v1 fun x2 => (Keeps m m ∧ k (IntKind.wrap .u32 x2) m)
def G63 := Gs [.p] [.i .u32] F63
def E64 : Env := ext E63 63 G63
theorem S64 (w0 : World) : SP w0 E64 := sg0 (S63 w0) Tryz.func63 Tryz.call63 (by kernel_rfl) true (fun _ _ _ _ => by kernel_rfl)
def F64 (b_0 o_0 : Nat) (m : Mem) (k : Int → Mem → Prop) : Prop :=
 ldI .u32 m b_0 (o_0 + 39 + 10) fun x1 => F91 b_0 o_0 m fun x2 m3 => kif x2 ((Keeps m m3 ∧ k (IntKind.wrap .i64 ((IntKind.wrap .i64 (bits .and .u32 x1 255)) + 256)) m)) ((Keeps m m3 ∧ k (IntKind.wrap .i64 (bits .and .u32 x1 255)) m))
def G64 := Gs [.p] [.i .i64] F64
def E119 : Env := ext E64 64 G64
theorem S119 (w0 : World) : SP w0 E119 := sg0 (S64 w0) Tryz.func64 Tryz.call64 (by kernel_rfl) true (fun _ _ _ _ => by kernel_rfl)
def R119_2 (v_0 : AV) (b_3 o_3 : Nat) (x_7 : Int) (x_8 : Int) (m : Mem) (kn : Int → Mem → Prop) (k0 : Mem → Prop) (kr : Int → Mem → Prop) : Prop :=
 kif (decide (x_8 < x_7)) (ldG 3 m b_3 o_3 fun c4 => ksl v_0 fun b5 o6 l7 p8 => kif (decide (0 ≤ x_8) && decide (x_8 < l7)) (ldG 3 m b5 (o6 + (x_8).toNat * 3) fun c9 => geq K125 c4 c9 fun x10 => kif x10 (kr x_8 m) (kn (IntKind.wrap .i64 (x_8 + 1)) m)) False) (k0  m)
def L119_2 (v_0 : AV) (b_3 o_3 : Nat) (x_7 : Int) : Nat → Int → Mem → (Mem → Prop) → (Int → Mem → Prop) → Prop
 | 0, _,  _, _, _ => bump False
 | N + 1, x_8,  m, k0, kr => R119_2 v_0 b_3 o_3 x_7 x_8 m (fun x_8' m' => L119_2 v_0 b_3 o_3 x_7 N x_8' m' k0 kr) k0 kr
def F119 (v_0 : AV) (c_1 : Nat → AV) (m : Mem) (k : Int → Mem → Prop) : Prop :=
 newK m ⟨3, c_1, 125, false⟩ fun b2 m1 => klen v_0 fun x3 => ∃ N14, L119_2 v_0 b2 0 x3 N14 0 m1 (fun m11 => (Keeps m m11 ∧ k (-1) m)) (fun x12 m13 => (Keeps m m13 ∧ k x12 m))
def G119 := Gs [.a, .g 3] [.i .i64] F119
def D119_2 : LpD := ⟨[0, 3, 7], [.a, .p, .i .i64], [8], [.i .i64], [⟨.exit 0, [], [], []⟩, ⟨.ret, [4], [.i .i64], []⟩], R119_2, L119_2⟩
def Lam119 : LEnv := lamOf [(2, lpK D119_2)] [] [] []
theorem lok119_2 : LoopOK Tryz.prog E119 Lam119 (nthL (bodyOf Tryz.f119) 0) := lp_ok D119_2 (fun _ _ _ => by kernel_rfl) (by kernel_rfl) (fun _ _ _ _ _ _ _ _ => by kernel_rfl) (fun _ _ _ _ _ _ _ _ _ => by kernel_rfl) (fun _ _ _ _ _ _ _ _ => by kernel_rfl)
def E120 : Env := ext E119 119 G119
theorem S120 (w0 : World) : SP w0 E120 := sg (S119 w0) Tryz.func119 Tryz.call119 (Λ := Lam119) 1 ⟨lok119_2, trivial⟩ 0 trivial (by kernel_rfl) true (fun _ _ _ _ => by kernel_rfl)
def F120 (v_0 : AV) (x_1 : Int) (x_2 : Int) (m : Mem) (k : AV → Mem → Prop) : Prop :=
 klen v_0 fun x1 => slM v_0 (some x_1) (some x_2) (some x1) (kif (x_1 == x_2) (k v_0 m) (klen v_0 fun x2 => slS 3 v_0 none (some x_1) fun v3 => slS 3 v_0 (some x_2) none fun v4 => appS 3 24 125 v3 v4 m fun v5 m6 => klen v5 fun x7 => slS 3 v5 (some x7) (some x2) fun v8 => clrS [(.flat (.int .u32 0)), (.flat (.int .i64 0)), (.flat (.int .i64 0))] v8 m6 fun m9 => k v5 m9))
def G120 := Gs [.a, .i .i64, .i .i64] [.a] F120
def E87 : Env := ext E120 120 G120
theorem S87 (w0 : World) : SP w0 E87 := sg0 (S120 w0) Tryz.func120 Tryz.call120 (by kernel_rfl) false (fun _ _ _ _ _ => by kernel_rfl)
def F87 (b_0 o_0 : Nat) (c_1 : Nat → AV) (m : Mem) (k : Mem → Prop) : Prop :=
 newK m ⟨3, c_1, 125, false⟩ fun b2 m1 => ldA m1 b_0 (o_0 + 1) fun v3 => ldG 3 m1 b2 0 fun c4 => F119 v3 c4 m1 fun x5 m6 => kif (decide (x5 ≥ 0)) (ldA m6 b_0 (o_0 + 1) fun v7 => F120 v7 x5 (IntKind.wrap .i64 (x5 + 1)) m6 fun v8 m9 => stV m9 b_0 (o_0 + 1) v8 fun m10 => k  m10) (k  m6)
def G87 := Gs [.p, .g 3] [] F87
end Go.Proofs.YtkiggdgphbkneaaGreat.Am
