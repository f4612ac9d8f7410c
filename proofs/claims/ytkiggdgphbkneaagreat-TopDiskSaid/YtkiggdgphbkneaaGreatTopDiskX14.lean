/- The next function's environment is sound. No program in sight. What Go functions ask of what follows them, as plain functions over the abstract machine; the machine asks just that. Written by gen.py. What Go functions ask of what follows them, as plain functio -/
import Derived.Test.YtkiggdgphbkneaaGreatTopDiskX13
namespace Go.Proofs.YtkiggdgphbkneaaGreat.Am
set_option linter.unusedVariables false
set_option linter.unusedSimpArgs false
set_option linter.constructorNameAsVariable false
set_option maxRecDepth 100000
theorem sg {P : Program} {w0 : World} {Γ : zZ} (HΓ : Sound P w0 Γ) {Λ : LEnv} {f : FuncId} {fn : Func} (hf : P.funcs[f]? = some fn) (hgo : ∀ (args : Array Value) (w : World), (callFunc f args).run P w = .ok (.enter f args) w)
  (n : Nat) (h : oks (yI P Γ Λ) (wP (zE fn)) 0 n) (np : Nat) (h2 : oks (zF P Γ Λ) (zY Λ (zE fn)) 0 np)
  {ps rs : List Sl} {F : FT ps rs} (hok : fsB P Λ fn n np ps.length = true) (dr : Bool)
  (e : All ps F fun f l => ∀ m k, eU P Γ Λ fn dr l m k = f m (gE rs fun l m' => k (yBh l) m')) : Sound P w0 (ext Γ f (Gs ps rs F)) :=
 yGu HΓ (yDx HΓ hf hgo n h np h2 hok dr e)
theorem xU {P : Program} {w0 : World} {Γ : zZ} (HΓ : Sound P w0 Γ) {f : FuncId} {fn : Func} (hf : P.funcs[f]? = some fn) (hgo : ∀ (args : Array Value) (w : World), (callFunc f args).run P w = .ok (.enter f args) w)
  {ps rs : List Sl} {F : FT ps rs} (hok : fsB P yPb fn 0 0 ps.length = true) (dr : Bool)
  (e : All ps F fun f l => ∀ m k, eU P Γ yPb fn dr l m k = f m (gE rs fun l m' => k (yBh l) m')) : Sound P w0 (ext Γ f (Gs ps rs F)) :=
 sg HΓ hf hgo 0 trivial 0 trivial hok dr e
def Yb0 : ByteArray := ⟨#[116, 100, 104]⟩
def Yb1 : ByteArray := ⟨#[115, 116, 100]⟩
def Yb2 : ByteArray := ⟨#[115]⟩
def Yb3 : ByteArray := ⟨#[115, 100]⟩
def Yb4 : ByteArray := ⟨#[100]⟩
def Yb5 : ByteArray := ⟨#[115, 116]⟩
def Yb6 : ByteArray := ⟨#[106]⟩
def Yb7 : ByteArray := ⟨#[115, 116, 105]⟩
def Yb8 : ByteArray := ⟨#[115, 105]⟩
def Yb9 : ByteArray := ⟨#[116, 105]⟩
def yZ7 : ByteArray := ⟨#[116, 100]⟩
def yH2 : ByteArray := ⟨#[0, 1, 2, 2, 3, 3, 3, 3, 4, 4, 4, 4, 4, 4, 4, 4, 5, 5, 5, 5, 5, 5, 5, 5, 5, 5, 5, 5, 5, 5, 5, 5, 6, 6, 6, 6, 6, 6, 6, 6, 6, 6, 6, 6, 6, 6, 6, 6, 6, 6, 6, 6, 6, 6, 6, 6, 6, 6, 6, 6, 6, 6, 6, 6, 7, 7, 7, 7, 7, 7, 7, 7, 7, 7, 7, 7, 7, 7, 7, 7, 7, 7, 7, 7, 7, 7, 7, 7, 7, 7, 7, 7, 7, 7, 7, 7, 7, 7, 7, 7, 7, 7, 7, 7, 7, 7, 7, 7, 7, 7, 7, 7, 7, 7, 7, 7, 7, 7, 7, 7, 7, 7, 7, 7, 7, 7, 7, 7, 8, 8, 8, 8, 8, 8, 8, 8, 8, 8, 8, 8, 8, 8, 8, 8, 8, 8, 8, 8, 8, 8, 8, 8, 8, 8, 8, 8, 8, 8, 8, 8, 8, 8, 8, 8, 8, 8, 8, 8, 8, 8, 8, 8, 8, 8, 8, 8, 8, 8, 8, 8, 8, 8, 8, 8, 8, 8, 8, 8, 8, 8, 8, 8, 8, 8, 8, 8, 8, 8, 8, 8, 8, 8, 8, 8, 8, 8, 8, 8, 8, 8, 8, 8, 8, 8, 8, 8, 8, 8, 8, 8, 8, 8, 8, 8, 8, 8, 8, 8, 8, 8, 8, 8, 8, 8, 8, 8, 8, 8, 8, 8, 8, 8, 8, 8, 8, 8, 8, 8, 8, 8, 8, 8, 8, 8, 8, 8]⟩
abbrev zi : AV := (.flat (.int .i64 0))
abbrev zu : AV := (.flat (.int .u32 0))
abbrev zb : AV := (.flat (.bool false))
abbrev zs : AV := (.flat (.string ⟨#[]⟩))
abbrev zp : AV := (.flat (.pointer none))
abbrev zc : AV := (.flat (.int .u8 0))
def xCn : Nat -> AV := zH [zi, zi, zi, zs, zi, zi, zi, zs, zi, zi, zi, zs, zi, zi, zi, zs, zi, zi, zi, zs, zi, zi, zi, zs, zi, zi, zi, zs, zi, zi, zi, zs, zi, zi, zi, zs, zi, zi, zi, zs, zi, zi, zi, zs, zi, zi, zi, zs, zi, zi, zi, zs, zi, zi, zi, zs, zi, zi, zi, zs, zi, zi, zi, zs, zi, zi, zi, zs, zi, zi, zi, zs, zi, zi, zi, zs, zi, zi, zi, zs, zi, zi, zi, zs, zi, zi, zi, zs, zi, zi, zi, zs, zi, zi, zi, zs, zi, zi, zi, zs, zi, zi, zi, zs, zi, zi, zi, zs, zi, zi, zi, zs, zi, zi, zi, zs, zi, zi, zi, zs, zi, zi, zi, zs, zi, zi, zi, zs, zi, zi, zi, zs, zi, zi, zi, zs, zi, zi, zi, zs]
def xH3 : Nat -> AV := zH [zi, zi, zi, zs, zi, zi, zi, zs, zi, zi, zi, zs, zi, zi, zi, zs, zi, zi, zi, zs, zi, zi, zi, zs, zi, zi, zi, zs, zi, zi, zi, zs, zi, zi, zi, zs, zi, zi, zi, zs, zi, zi, zi, zs, zi, zi, zi, zs, zi, zi, zi, zs, zi, zi, zi, zs, zi, zi, zi, zs, zi, zi, zi, zs, zi, zi, zi, zs, zi, zi, zi, zs, zi, zi, zi, zs, zi, zi, zi, zs, zi, zi, zi, zs, zi, zi, zi, zs, zi, zi, zi, zs, zi, zi, zi, zs, zi, zi, zi, zs, zi, zi, zi, zs, zi, zi, zi, zs]
def Z60 : Nat -> AV := zH [zi, zi, zi, zs, zi, zi, zi, zs, zi, zi, zi, zs, zi, zi, zi, zs, zi, zi, zi, zs, zi, zi, zi, zs, zi, zi, zi, zs, zi, zi, zi, zs, zi, zi, zi, zs, zi, zi, zi, zs, zi, zi, zi, zs, zi, zi, zi, zs, zi, zi, zi, zs, zi, zi, zi, zs, zi, zi, zi, zs]
def Z6 : Nat -> AV := zH [(.flat (.int .i64 0)), (.flat (.int .i64 0)), (.flat (.int .i64 0)), (.flat (.int .i64 0)), (.flat (.int .i64 0)), (.flat (.int .u32 0))]
def Z12 : Nat -> AV := zH [zi, zi, zi, zi, zi, zu, zi, zi, zi, zi, zi, zu]
def Z73 : Nat -> AV := zH [zu, zu, zu, zu, zu, zu, zu, zu, zu, zu, zu, zu, zu, zu, zu, zu, zu, zu, zu, zu, zu, zu, zu, zu, zu, zu, zu, zu, zu, zu, zu, zu, zu, zu, zu, zu, zb, zb, zu, zu, zu, zu, zu, zu, zu, zu, zu, zu, zu, zu, zu, zu, zu, zu, zu, zu, zu, zu, zu, zu, zu, zu, zu, zu, zu, zu, zu, zu, zu, zu, zu, zb, zi]
def Z7 : Nat -> AV := zH [(.flat (.int .i64 0)), (.flat (.pointer none)), (.flat (.chan none)), (.flat (.chan none)), (.flat (.bool false)), (.flat (.int .u32 0)), (.flat (.slice none 0 0))]
def Z7b : Nat -> AV := zH [(.flat (.int .i64 0)), (.flat (.pointer none)), (.flat (.pointer none)), (.flat (.int .u32 0)), (.flat (.int .u32 0)), (.flat (.int .u32 0)), (.flat (.int .u32 0))]
def Z8 : Nat -> AV := zH [(.flat (.int .i64 0)), (.flat (.pointer none)), (.flat (.pointer none)), (.flat (.slice none 0 0)), (.flat (.int .u32 0)), (.flat (.int .u32 0)), (.flat (.int .u32 0)), (.flat (.int .u32 0))]
def Z8b : Nat -> AV := zH [(.flat (.pointer none)), (.flat (.pointer none)), (.flat (.pointer none)), (.flat (.pointer none)), (.flat (.pointer none)), (.flat (.pointer none)), (.flat (.pointer none)), (.flat (.pointer none))]
def Z74 : Nat -> AV := zH [zu, zu, zu, zu, zu, zu, zu, zu, zu, zu, zu, zu, zu, zu, zu, zu, zu, zu, zu, zu, zu, zu, zu, zu, zu, zu, zu, zu, zu, zu, zu, zu, zu, zu, zu, zu, zb, zb, zu, zu, zu, zu, zu, zu, zu, zu, zu, zu, zu, zu, zu, zu, zu, zu, zu, zu, zu, zu, zu, zu, zu, zu, zu, zu, zu, zu, zu, zu, zu, zu, zu, zb, zi, zp]
def Z78 : Nat -> AV := zH [zu, zu, zu, zu, zu, zu, zu, zu, zu, zu, zu, zu, zu, zu, zu, zu, zu, zu, zu, zu, zu, zu, zu, zu, zu, zu, zu, zu, zu, zu, zu, zu, zu, zu, zu, zu, zb, zb, zu, zu, zu, zu, zu, zu, zu, zu, zu, zu, zu, zu, zu, zu, zu, zu, zu, zu, zu, zu, zu, zu, zu, zu, zu, zu, zu, zu, zu, zu, zu, zu, zu, zb, zi, zp, zp, zi, zi, zi]
def Z40 : Nat -> AV := zH [zb, zb, zb, zb, zb, zb, zb, zb, zb, zb, zb, zb, zb, zb, zb, zb, zb, zb, zb, zb, zb, zb, zb, zb, zb, zb, zb, zb, zb, zb, zb, zb, zb, zb, zb, zb, zb, zb, zb, zb]
def yJ2 : Nat -> AV := zH [zu, zu, zu, zu, zu, zu, zu, zu, zu, zu, zu, zu, zu, zu, zu, zu, zu, zu, zu, zu, zu, zu, zu, zu, zu, zu, zu, zu, zu, zu, zu, zu, zu, zu, zu, zu, zu, zu, zu, zu]
def Z80 : Nat -> AV := zH [zb, zb, zb, zb, zb, zb, zb, zb, zb, zb, zb, zb, zb, zb, zb, zb, zb, zb, zb, zb, zb, zb, zb, zb, zb, zb, zb, zb, zb, zb, zb, zb, zb, zb, zb, zb, zb, zb, zb, zb, zu, zu, zu, zu, zu, zu, zu, zu, zu, zu, zu, zu, zu, zu, zu, zu, zu, zu, zu, zu, zu, zu, zu, zu, zu, zu, zu, zu, zu, zu, zu, zu, zu, zu, zu, zu, zu, zu, zu, zu]
def Z10 : Nat -> AV := zH [(.flat (.int .i64 0)), (.flat (.int .i64 0)), (.flat (.int .i64 0)), (.flat (.int .i64 0)), (.flat (.int .u32 0)), (.flat (.int .i64 0)), (.flat (.int .i64 0)), (.flat (.int .i64 0)), (.flat (.int .i64 0)), (.flat (.int .u32 0))]
def xHy : Nat -> AV := zH [(.flat (.slice none 0 0)), (.flat (.slice none 0 0)), (.flat (.slice none 0 0)), (.flat (.slice none 0 0)), (.flat (.slice none 0 0)), (.flat (.slice none 0 0)), (.flat (.slice none 0 0)), (.flat (.slice none 0 0))]
def K32 : List (Nat × LK) := [(0, (.i .i64)), (1, (.i .i64)), (2, (.i .i64)), (3, (.i .i64)), (4, (.i .i64)), (5, (.i .u32))]
def zE3 : List (Nat × LK) := [(0, (.i .u32)), (1, (.i .i64)), (2, (.i .i64))]
abbrev SP := Sound Tryz.prog
def E15 : zZ := yUv
theorem S15 (w0 : World) : SP w0 E15 := xGi _ w0
def lZ (x_0 : Int) (x_1 : Int) (x_2 : Int) (m : Mem) (kr : Int -> Mem -> Prop) : Prop :=
 kif (decide (IntKind.wrap .i64 ((IntKind.wrap .i64 (x_2 - x_1)) + 1) = 0)) False (kif (decide ((x_0.tmod (IntKind.wrap .i64 ((IntKind.wrap .i64 (x_2 - x_1)) + 1))) < 0)) (kr (IntKind.wrap .i64 (x_1 + (IntKind.wrap .i64 ((IntKind.wrap .i64 ((IntKind.wrap .i64 ((x_0.tmod (IntKind.wrap .i64 ((IntKind.wrap .i64 (x_2 - x_1)) + 1))) + x_2)) - x_1)) + 1)))) m) (kr (IntKind.wrap .i64 (x_1 + (x_0.tmod (IntKind.wrap .i64 ((IntKind.wrap .i64 (x_2 - x_1)) + 1))))) m))
def F15 (x_0 : Int) (x_1 : Int) (x_2 : Int) (m : Mem) (k : Int -> Mem -> Prop) : Prop :=
 kif (decide (x_0 >= x_1)) (kif (decide (x_0 <= x_2)) ((zA m m /\ k x_0 m)) (lZ x_0 x_1 x_2 m (fun x1 m2 => (zA m m2 /\ k x1 m)))) (lZ x_0 x_1 x_2 m (fun x3 m4 => (zA m m4 /\ k x3 m)))
def G15 := Gs [.i .i64, .i .i64, .i .i64] [.i .i64] F15
def zNv : PcD := ⟨[0, 1, 2], [.i .i64, .i .i64, .i .i64], [⟨.ret, [6], [.i .i64], []⟩], lZ⟩
def yDv : LEnv := yB [] [] [3102] [(3102, xK zNv)]
theorem zRr : zF Tryz.prog E15 yDv (zY yDv (zE Tryz.f15) 0) := zN zNv (fun _ _ _ => by kernel_rfl) (by kernel_rfl) (fun _ _ _ _ _ => by kernel_rfl)
def E83 : zZ := ext E15 15 G15
theorem S83 (w0 : World) : SP w0 E83 := sg (S15 w0) Tryz.func15 Tryz.call15 (Λ := yDv) 0 trivial 1 ⟨zRr, trivial⟩ (by kernel_rfl) true (fun _ _ _ _ _ => by kernel_rfl)
def F83  (m : Mem) (k : AV -> Mem -> Prop) : Prop :=
 zQ m ⟨140, zC (zC (zC (zC (zC (zC (zC (zC (zC (zC (zC (zC (zC (zC (zC (zC (zC (zC (zC (zC (zC (zC (zC (zC (zC (zC (zC (zC (zC (zC (zC (zC (zC (zC (zC (xCn) 0 4 (upd (upd (upd (upd (zH [(.flat (.int .i64 0)), (.flat (.int .i64 0)), (.flat (.int .i64 0)), (.flat (.string ⟨#[]⟩))]) 0 (.flat (.int .i64 0))) 1 (.flat (.int .i64 0))) 2 (.flat (.int .i64 1))) 3 (.flat (.string Yb0)))) 4 4 (upd (upd (upd (upd (zH [(.flat (.int .i64 0)), (.flat (.int .i64 0)), (.flat (.int .i64 0)), (.flat (.string ⟨#[]⟩))]) 0 (.flat (.int .i64 0))) 1 (.flat (.int .i64 2))) 2 (.flat (.int .i64 2))) 3 (.flat (.string Yb0)))) 8 4 (upd (upd (upd (upd (zH [(.flat (.int .i64 0)), (.flat (.int .i64 0)), (.flat (.int .i64 0)), (.flat (.string ⟨#[]⟩))]) 0 (.flat (.int .i64 0))) 1 (.flat (.int .i64 3))) 2 (.flat (.int .i64 3))) 3 (.flat (.string Yb0)))) 12 4 (upd (upd (upd (upd (zH [(.flat (.int .i64 0)), (.flat (.int .i64 0)), (.flat (.int .i64 0)), (.flat (.string ⟨#[]⟩))]) 0 (.flat (.int .i64 0))) 1 (.flat (.int .i64 4))) 2 (.flat (.int .i64 4))) 3 (.flat (.string Yb1)))) 16 4 (upd (upd (upd (upd (zH [(.flat (.int .i64 0)), (.flat (.int .i64 0)), (.flat (.int .i64 0)), (.flat (.string ⟨#[]⟩))]) 0 (.flat (.int .i64 0))) 1 (.flat (.int .i64 6))) 2 (.flat (.int .i64 5))) 3 (.flat (.string Yb1)))) 20 4 (upd (upd (upd (upd (zH [(.flat (.int .i64 0)), (.flat (.int .i64 0)), (.flat (.int .i64 0)), (.flat (.string ⟨#[]⟩))]) 0 (.flat (.int .i64 0))) 1 (.flat (.int .i64 7))) 2 (.flat (.int .i64 6))) 3 (.flat (.string Yb1)))) 24 4 (upd (upd (upd (upd (zH [(.flat (.int .i64 0)), (.flat (.int .i64 0)), (.flat (.int .i64 0)), (.flat (.string ⟨#[]⟩))]) 0 (.flat (.int .i64 0))) 1 (.flat (.int .i64 8))) 2 (.flat (.int .i64 7))) 3 (.flat (.string Yb2)))) 28 4 (upd (upd (upd (upd (zH [(.flat (.int .i64 0)), (.flat (.int .i64 0)), (.flat (.int .i64 0)), (.flat (.string ⟨#[]⟩))]) 0 (.flat (.int .i64 0))) 1 (.flat (.int .i64 9))) 2 (.flat (.int .i64 8))) 3 (.flat (.string Yb3)))) 32 4 (upd (upd (upd (upd (zH [(.flat (.int .i64 0)), (.flat (.int .i64 0)), (.flat (.int .i64 0)), (.flat (.string ⟨#[]⟩))]) 0 (.flat (.int .i64 0))) 1 (.flat (.int .i64 10))) 2 (.flat (.int .i64 9))) 3 (.flat (.string Yb1)))) 36 4 (upd (upd (upd (upd (zH [(.flat (.int .i64 0)), (.flat (.int .i64 0)), (.flat (.int .i64 0)), (.flat (.string ⟨#[]⟩))]) 0 (.flat (.int .i64 0))) 1 (.flat (.int .i64 11))) 2 (.flat (.int .i64 10))) 3 (.flat (.string Yb1)))) 40 4 (upd (upd (upd (upd (zH [(.flat (.int .i64 0)), (.flat (.int .i64 0)), (.flat (.int .i64 0)), (.flat (.string ⟨#[]⟩))]) 0 (.flat (.int .i64 0))) 1 (.flat (.int .i64 12))) 2 (.flat (.int .i64 11))) 3 (.flat (.string (⟨#[]⟩ : ByteArray))))) 44 4 (upd (upd (upd (upd (zH [(.flat (.int .i64 0)), (.flat (.int .i64 0)), (.flat (.int .i64 0)), (.flat (.string ⟨#[]⟩))]) 0 (.flat (.int .i64 0))) 1 (.flat (.int .i64 13))) 2 (.flat (.int .i64 12))) 3 (.flat (.string (⟨#[]⟩ : ByteArray))))) 48 4 (upd (upd (upd (upd (zH [(.flat (.int .i64 0)), (.flat (.int .i64 0)), (.flat (.int .i64 0)), (.flat (.string ⟨#[]⟩))]) 0 (.flat (.int .i64 0))) 1 (.flat (.int .i64 15))) 2 (.flat (.int .i64 13))) 3 (.flat (.string (⟨#[]⟩ : ByteArray))))) 52 4 (upd (upd (upd (upd (zH [(.flat (.int .i64 0)), (.flat (.int .i64 0)), (.flat (.int .i64 0)), (.flat (.string ⟨#[]⟩))]) 0 (.flat (.int .i64 0))) 1 (.flat (.int .i64 16))) 2 (.flat (.int .i64 14))) 3 (.flat (.string Yb4)))) 56 4 (upd (upd (upd (upd (zH [(.flat (.int .i64 0)), (.flat (.int .i64 0)), (.flat (.int .i64 0)), (.flat (.string ⟨#[]⟩))]) 0 (.flat (.int .i64 0))) 1 (.flat (.int .i64 17))) 2 (.flat (.int .i64 15))) 3 (.flat (.string Yb2)))) 60 4 (upd (upd (upd (upd (zH [(.flat (.int .i64 0)), (.flat (.int .i64 0)), (.flat (.int .i64 0)), (.flat (.string ⟨#[]⟩))]) 0 (.flat (.int .i64 0))) 1 (.flat (.int .i64 18))) 2 (.flat (.int .i64 16))) 3 (.flat (.string Yb4)))) 64 4 (upd (upd (upd (upd (zH [(.flat (.int .i64 0)), (.flat (.int .i64 0)), (.flat (.int .i64 0)), (.flat (.string ⟨#[]⟩))]) 0 (.flat (.int .i64 0))) 1 (.flat (.int .i64 19))) 2 (.flat (.int .i64 17))) 3 (.flat (.string Yb2)))) 68 4 (upd (upd (upd (upd (zH [(.flat (.int .i64 0)), (.flat (.int .i64 0)), (.flat (.int .i64 0)), (.flat (.string ⟨#[]⟩))]) 0 (.flat (.int .i64 0))) 1 (.flat (.int .i64 24))) 2 (.flat (.int .i64 18))) 3 (.flat (.string Yb5)))) 72 4 (upd (upd (upd (upd (zH [(.flat (.int .i64 0)), (.flat (.int .i64 0)), (.flat (.int .i64 0)), (.flat (.string ⟨#[]⟩))]) 0 (.flat (.int .i64 0))) 1 (.flat (.int .i64 25))) 2 (.flat (.int .i64 19))) 3 (.flat (.string Yb5)))) 76 4 (upd (upd (upd (upd (zH [(.flat (.int .i64 0)), (.flat (.int .i64 0)), (.flat (.int .i64 0)), (.flat (.string ⟨#[]⟩))]) 0 (.flat (.int .i64 0))) 1 (.flat (.int .i64 26))) 2 (.flat (.int .i64 20))) 3 (.flat (.string Yb5)))) 80 4 (upd (upd (upd (upd (zH [(.flat (.int .i64 0)), (.flat (.int .i64 0)), (.flat (.int .i64 0)), (.flat (.string ⟨#[]⟩))]) 0 (.flat (.int .i64 0))) 1 (.flat (.int .i64 27))) 2 (.flat (.int .i64 21))) 3 (.flat (.string Yb5)))) 84 4 (upd (upd (upd (upd (zH [(.flat (.int .i64 0)), (.flat (.int .i64 0)), (.flat (.int .i64 0)), (.flat (.string ⟨#[]⟩))]) 0 (.flat (.int .i64 0))) 1 (.flat (.int .i64 32))) 2 (.flat (.int .i64 22))) 3 (.flat (.string Yb1)))) 88 4 (upd (upd (upd (upd (zH [(.flat (.int .i64 0)), (.flat (.int .i64 0)), (.flat (.int .i64 0)), (.flat (.string ⟨#[]⟩))]) 0 (.flat (.int .i64 0))) 1 (.flat (.int .i64 33))) 2 (.flat (.int .i64 23))) 3 (.flat (.string Yb1)))) 92 4 (upd (upd (upd (upd (zH [(.flat (.int .i64 0)), (.flat (.int .i64 0)), (.flat (.int .i64 0)), (.flat (.string ⟨#[]⟩))]) 0 (.flat (.int .i64 0))) 1 (.flat (.int .i64 34))) 2 (.flat (.int .i64 24))) 3 (.flat (.string Yb1)))) 96 4 (upd (upd (upd (upd (zH [(.flat (.int .i64 0)), (.flat (.int .i64 0)), (.flat (.int .i64 0)), (.flat (.string ⟨#[]⟩))]) 0 (.flat (.int .i64 0))) 1 (.flat (.int .i64 35))) 2 (.flat (.int .i64 25))) 3 (.flat (.string Yb1)))) 100 4 (upd (upd (upd (upd (zH [(.flat (.int .i64 0)), (.flat (.int .i64 0)), (.flat (.int .i64 0)), (.flat (.string ⟨#[]⟩))]) 0 (.flat (.int .i64 0))) 1 (.flat (.int .i64 36))) 2 (.flat (.int .i64 26))) 3 (.flat (.string Yb1)))) 104 4 (upd (upd (upd (upd (zH [(.flat (.int .i64 0)), (.flat (.int .i64 0)), (.flat (.int .i64 0)), (.flat (.string ⟨#[]⟩))]) 0 (.flat (.int .i64 0))) 1 (.flat (.int .i64 37))) 2 (.flat (.int .i64 27))) 3 (.flat (.string Yb1)))) 108 4 (upd (upd (upd (upd (zH [(.flat (.int .i64 0)), (.flat (.int .i64 0)), (.flat (.int .i64 0)), (.flat (.string ⟨#[]⟩))]) 0 (.flat (.int .i64 0))) 1 (.flat (.int .i64 38))) 2 (.flat (.int .i64 28))) 3 (.flat (.string Yb1)))) 112 4 (upd (upd (upd (upd (zH [(.flat (.int .i64 0)), (.flat (.int .i64 0)), (.flat (.int .i64 0)), (.flat (.string ⟨#[]⟩))]) 0 (.flat (.int .i64 0))) 1 (.flat (.int .i64 39))) 2 (.flat (.int .i64 29))) 3 (.flat (.string Yb1)))) 116 4 (upd (upd (upd (upd (zH [(.flat (.int .i64 0)), (.flat (.int .i64 0)), (.flat (.int .i64 0)), (.flat (.string ⟨#[]⟩))]) 0 (.flat (.int .i64 0))) 1 (.flat (.int .i64 42))) 2 (.flat (.int .i64 30))) 3 (.flat (.string Yb1)))) 120 4 (upd (upd (upd (upd (zH [(.flat (.int .i64 0)), (.flat (.int .i64 0)), (.flat (.int .i64 0)), (.flat (.string ⟨#[]⟩))]) 0 (.flat (.int .i64 0))) 1 (.flat (.int .i64 43))) 2 (.flat (.int .i64 31))) 3 (.flat (.string Yb1)))) 124 4 (upd (upd (upd (upd (zH [(.flat (.int .i64 0)), (.flat (.int .i64 0)), (.flat (.int .i64 0)), (.flat (.string ⟨#[]⟩))]) 0 (.flat (.int .i64 0))) 1 (.flat (.int .i64 48))) 2 (.flat (.int .i64 32))) 3 (.flat (.string Yb5)))) 128 4 (upd (upd (upd (upd (zH [(.flat (.int .i64 0)), (.flat (.int .i64 0)), (.flat (.int .i64 0)), (.flat (.string ⟨#[]⟩))]) 0 (.flat (.int .i64 0))) 1 (.flat (.int .i64 50))) 2 (.flat (.int .i64 33))) 3 (.flat (.string Yb5)))) 132 4 (upd (upd (upd (upd (zH [(.flat (.int .i64 0)), (.flat (.int .i64 0)), (.flat (.int .i64 0)), (.flat (.string ⟨#[]⟩))]) 0 (.flat (.int .i64 0))) 1 (.flat (.int .i64 52))) 2 (.flat (.int .i64 34))) 3 (.flat (.string Yb5)))) 136 4 (upd (upd (upd (upd (zH [(.flat (.int .i64 0)), (.flat (.int .i64 0)), (.flat (.int .i64 0)), (.flat (.string ⟨#[]⟩))]) 0 (.flat (.int .i64 0))) 1 (.flat (.int .i64 54))) 2 (.flat (.int .i64 35))) 3 (.flat (.string Yb5))), 111, false⟩ fun b2 m1 => k (.sl b2 0 35 (.ex 35)) m1
def G83 := Gs [] [.a] F83
def E84 : zZ := ext E83 83 G83
theorem S84 (w0 : World) : SP w0 E84 := xU (S83 w0) Tryz.func83 Tryz.call83 (by kernel_rfl) false (fun _ _ => by kernel_rfl)
def F84  (m : Mem) (k : AV -> Mem -> Prop) : Prop :=
 zQ m ⟨108, zC (zC (zC (zC (zC (zC (zC (zC (zC (zC (zC (zC (zC (zC (zC (zC (zC (zC (zC (zC (zC (zC (zC (zC (zC (zC (zC (xH3) 0 4 (upd (upd (upd (upd (zH [(.flat (.int .i64 0)), (.flat (.int .i64 0)), (.flat (.int .i64 0)), (.flat (.string ⟨#[]⟩))]) 0 (.flat (.int .i64 2))) 1 (.flat (.int .i64 0))) 2 (.flat (.int .i64 40))) 3 (.flat (.string Yb6)))) 4 4 (upd (upd (upd (upd (zH [(.flat (.int .i64 0)), (.flat (.int .i64 0)), (.flat (.int .i64 0)), (.flat (.string ⟨#[]⟩))]) 0 (.flat (.int .i64 3))) 1 (.flat (.int .i64 0))) 2 (.flat (.int .i64 41))) 3 (.flat (.string Yb6)))) 8 4 (upd (upd (upd (upd (zH [(.flat (.int .i64 0)), (.flat (.int .i64 0)), (.flat (.int .i64 0)), (.flat (.string ⟨#[]⟩))]) 0 (.flat (.int .i64 4))) 1 (.flat (.int .i64 0))) 2 (.flat (.int .i64 42))) 3 (.flat (.string Yb7)))) 12 4 (upd (upd (upd (upd (zH [(.flat (.int .i64 0)), (.flat (.int .i64 0)), (.flat (.int .i64 0)), (.flat (.string ⟨#[]⟩))]) 0 (.flat (.int .i64 5))) 1 (.flat (.int .i64 0))) 2 (.flat (.int .i64 43))) 3 (.flat (.string Yb7)))) 16 4 (upd (upd (upd (upd (zH [(.flat (.int .i64 0)), (.flat (.int .i64 0)), (.flat (.int .i64 0)), (.flat (.string ⟨#[]⟩))]) 0 (.flat (.int .i64 6))) 1 (.flat (.int .i64 0))) 2 (.flat (.int .i64 44))) 3 (.flat (.string Yb8)))) 20 4 (upd (upd (upd (upd (zH [(.flat (.int .i64 0)), (.flat (.int .i64 0)), (.flat (.int .i64 0)), (.flat (.string ⟨#[]⟩))]) 0 (.flat (.int .i64 7))) 1 (.flat (.int .i64 0))) 2 (.flat (.int .i64 45))) 3 (.flat (.string Yb8)))) 24 4 (upd (upd (upd (upd (zH [(.flat (.int .i64 0)), (.flat (.int .i64 0)), (.flat (.int .i64 0)), (.flat (.string ⟨#[]⟩))]) 0 (.flat (.int .i64 8))) 1 (.flat (.int .i64 0))) 2 (.flat (.int .i64 46))) 3 (.flat (.string Yb7)))) 28 4 (upd (upd (upd (upd (zH [(.flat (.int .i64 0)), (.flat (.int .i64 0)), (.flat (.int .i64 0)), (.flat (.string ⟨#[]⟩))]) 0 (.flat (.int .i64 9))) 1 (.flat (.int .i64 0))) 2 (.flat (.int .i64 47))) 3 (.flat (.string Yb7)))) 32 4 (upd (upd (upd (upd (zH [(.flat (.int .i64 0)), (.flat (.int .i64 0)), (.flat (.int .i64 0)), (.flat (.string ⟨#[]⟩))]) 0 (.flat (.int .i64 10))) 1 (.flat (.int .i64 0))) 2 (.flat (.int .i64 48))) 3 (.flat (.string Yb7)))) 36 4 (upd (upd (upd (upd (zH [(.flat (.int .i64 0)), (.flat (.int .i64 0)), (.flat (.int .i64 0)), (.flat (.string ⟨#[]⟩))]) 0 (.flat (.int .i64 11))) 1 (.flat (.int .i64 0))) 2 (.flat (.int .i64 49))) 3 (.flat (.string Yb7)))) 40 4 (upd (upd (upd (upd (zH [(.flat (.int .i64 0)), (.flat (.int .i64 0)), (.flat (.int .i64 0)), (.flat (.string ⟨#[]⟩))]) 0 (.flat (.int .i64 12))) 1 (.flat (.int .i64 0))) 2 (.flat (.int .i64 50))) 3 (.flat (.string Yb7)))) 44 4 (upd (upd (upd (upd (zH [(.flat (.int .i64 0)), (.flat (.int .i64 0)), (.flat (.int .i64 0)), (.flat (.string ⟨#[]⟩))]) 0 (.flat (.int .i64 13))) 1 (.flat (.int .i64 0))) 2 (.flat (.int .i64 51))) 3 (.flat (.string Yb7)))) 48 4 (upd (upd (upd (upd (zH [(.flat (.int .i64 0)), (.flat (.int .i64 0)), (.flat (.int .i64 0)), (.flat (.string ⟨#[]⟩))]) 0 (.flat (.int .i64 14))) 1 (.flat (.int .i64 0))) 2 (.flat (.int .i64 52))) 3 (.flat (.string Yb7)))) 52 4 (upd (upd (upd (upd (zH [(.flat (.int .i64 0)), (.flat (.int .i64 0)), (.flat (.int .i64 0)), (.flat (.string ⟨#[]⟩))]) 0 (.flat (.int .i64 15))) 1 (.flat (.int .i64 0))) 2 (.flat (.int .i64 53))) 3 (.flat (.string Yb9)))) 56 4 (upd (upd (upd (upd (zH [(.flat (.int .i64 0)), (.flat (.int .i64 0)), (.flat (.int .i64 0)), (.flat (.string ⟨#[]⟩))]) 0 (.flat (.int .i64 17))) 1 (.flat (.int .i64 0))) 2 (.flat (.int .i64 62))) 3 (.flat (.string (⟨#[]⟩ : ByteArray))))) 60 4 (upd (upd (upd (upd (zH [(.flat (.int .i64 0)), (.flat (.int .i64 0)), (.flat (.int .i64 0)), (.flat (.string ⟨#[]⟩))]) 0 (.flat (.int .i64 32))) 1 (.flat (.int .i64 0))) 2 (.flat (.int .i64 66))) 3 (.flat (.string Yb7)))) 64 4 (upd (upd (upd (upd (zH [(.flat (.int .i64 0)), (.flat (.int .i64 0)), (.flat (.int .i64 0)), (.flat (.string ⟨#[]⟩))]) 0 (.flat (.int .i64 33))) 1 (.flat (.int .i64 0))) 2 (.flat (.int .i64 67))) 3 (.flat (.string Yb7)))) 68 4 (upd (upd (upd (upd (zH [(.flat (.int .i64 0)), (.flat (.int .i64 0)), (.flat (.int .i64 0)), (.flat (.string ⟨#[]⟩))]) 0 (.flat (.int .i64 35))) 1 (.flat (.int .i64 0))) 2 (.flat (.int .i64 68))) 3 (.flat (.string Yb7)))) 72 4 (upd (upd (upd (upd (zH [(.flat (.int .i64 0)), (.flat (.int .i64 0)), (.flat (.int .i64 0)), (.flat (.string ⟨#[]⟩))]) 0 (.flat (.int .i64 36))) 1 (.flat (.int .i64 0))) 2 (.flat (.int .i64 69))) 3 (.flat (.string Yb7)))) 76 4 (upd (upd (upd (upd (zH [(.flat (.int .i64 0)), (.flat (.int .i64 0)), (.flat (.int .i64 0)), (.flat (.string ⟨#[]⟩))]) 0 (.flat (.int .i64 37))) 1 (.flat (.int .i64 0))) 2 (.flat (.int .i64 70))) 3 (.flat (.string Yb7)))) 80 4 (upd (upd (upd (upd (zH [(.flat (.int .i64 0)), (.flat (.int .i64 0)), (.flat (.int .i64 0)), (.flat (.string ⟨#[]⟩))]) 0 (.flat (.int .i64 40))) 1 (.flat (.int .i64 0))) 2 (.flat (.int .i64 71))) 3 (.flat (.string Yb7)))) 84 4 (upd (upd (upd (upd (zH [(.flat (.int .i64 0)), (.flat (.int .i64 0)), (.flat (.int .i64 0)), (.flat (.string ⟨#[]⟩))]) 0 (.flat (.int .i64 41))) 1 (.flat (.int .i64 0))) 2 (.flat (.int .i64 72))) 3 (.flat (.string Yb7)))) 88 4 (upd (upd (upd (upd (zH [(.flat (.int .i64 0)), (.flat (.int .i64 0)), (.flat (.int .i64 0)), (.flat (.string ⟨#[]⟩))]) 0 (.flat (.int .i64 43))) 1 (.flat (.int .i64 0))) 2 (.flat (.int .i64 73))) 3 (.flat (.string Yb7)))) 92 4 (upd (upd (upd (upd (zH [(.flat (.int .i64 0)), (.flat (.int .i64 0)), (.flat (.int .i64 0)), (.flat (.string ⟨#[]⟩))]) 0 (.flat (.int .i64 47))) 1 (.flat (.int .i64 0))) 2 (.flat (.int .i64 76))) 3 (.flat (.string (⟨#[]⟩ : ByteArray))))) 96 4 (upd (upd (upd (upd (zH [(.flat (.int .i64 0)), (.flat (.int .i64 0)), (.flat (.int .i64 0)), (.flat (.string ⟨#[]⟩))]) 0 (.flat (.int .i64 48))) 1 (.flat (.int .i64 0))) 2 (.flat (.int .i64 74))) 3 (.flat (.string Yb7)))) 100 4 (upd (upd (upd (upd (zH [(.flat (.int .i64 0)), (.flat (.int .i64 0)), (.flat (.int .i64 0)), (.flat (.string ⟨#[]⟩))]) 0 (.flat (.int .i64 51))) 1 (.flat (.int .i64 0))) 2 (.flat (.int .i64 77))) 3 (.flat (.string (⟨#[]⟩ : ByteArray))))) 104 4 (upd (upd (upd (upd (zH [(.flat (.int .i64 0)), (.flat (.int .i64 0)), (.flat (.int .i64 0)), (.flat (.string ⟨#[]⟩))]) 0 (.flat (.int .i64 56))) 1 (.flat (.int .i64 0))) 2 (.flat (.int .i64 75))) 3 (.flat (.string Yb7))), 111, false⟩ fun b2 m1 => k (.sl b2 0 27 (.ex 27)) m1
def G84 := Gs [] [.a] F84
def E85 : zZ := ext E84 84 G84
theorem S85 (w0 : World) : SP w0 E85 := xU (S84 w0) Tryz.func84 Tryz.call84 (by kernel_rfl) false (fun _ _ => by kernel_rfl)
def F85  (m : Mem) (k : AV -> Mem -> Prop) : Prop :=
 zQ m ⟨60, zC (zC (zC (zC (zC (zC (zC (zC (zC (zC (zC (zC (zC (zC (zC (Z60) 0 4 (upd (upd (upd (upd (zH [(.flat (.int .i64 0)), (.flat (.int .i64 0)), (.flat (.int .i64 0)), (.flat (.string ⟨#[]⟩))]) 0 (.flat (.int .i64 1))) 1 (.flat (.int .i64 0))) 2 (.flat (.int .i64 36))) 3 (.flat (.string Yb8)))) 4 4 (upd (upd (upd (upd (zH [(.flat (.int .i64 0)), (.flat (.int .i64 0)), (.flat (.int .i64 0)), (.flat (.string ⟨#[]⟩))]) 0 (.flat (.int .i64 1))) 1 (.flat (.int .i64 1))) 2 (.flat (.int .i64 37))) 3 (.flat (.string Yb8)))) 8 4 (upd (upd (upd (upd (zH [(.flat (.int .i64 0)), (.flat (.int .i64 0)), (.flat (.int .i64 0)), (.flat (.string ⟨#[]⟩))]) 0 (.flat (.int .i64 1))) 1 (.flat (.int .i64 16))) 2 (.flat (.int .i64 38))) 3 (.flat (.string Yb8)))) 12 4 (upd (upd (upd (upd (zH [(.flat (.int .i64 0)), (.flat (.int .i64 0)), (.flat (.int .i64 0)), (.flat (.string ⟨#[]⟩))]) 0 (.flat (.int .i64 1))) 1 (.flat (.int .i64 17))) 2 (.flat (.int .i64 39))) 3 (.flat (.string Yb8)))) 16 4 (upd (upd (upd (upd (zH [(.flat (.int .i64 0)), (.flat (.int .i64 0)), (.flat (.int .i64 0)), (.flat (.string ⟨#[]⟩))]) 0 (.flat (.int .i64 16))) 1 (.flat (.int .i64 0))) 2 (.flat (.int .i64 54))) 3 (.flat (.string yZ7)))) 20 4 (upd (upd (upd (upd (zH [(.flat (.int .i64 0)), (.flat (.int .i64 0)), (.flat (.int .i64 0)), (.flat (.string ⟨#[]⟩))]) 0 (.flat (.int .i64 16))) 1 (.flat (.int .i64 4))) 2 (.flat (.int .i64 55))) 3 (.flat (.string yZ7)))) 24 4 (upd (upd (upd (upd (zH [(.flat (.int .i64 0)), (.flat (.int .i64 0)), (.flat (.int .i64 0)), (.flat (.string ⟨#[]⟩))]) 0 (.flat (.int .i64 16))) 1 (.flat (.int .i64 65))) 2 (.flat (.int .i64 56))) 3 (.flat (.string (⟨#[]⟩ : ByteArray))))) 28 4 (upd (upd (upd (upd (zH [(.flat (.int .i64 0)), (.flat (.int .i64 0)), (.flat (.int .i64 0)), (.flat (.string ⟨#[]⟩))]) 0 (.flat (.int .i64 16))) 1 (.flat (.int .i64 66))) 2 (.flat (.int .i64 57))) 3 (.flat (.string (⟨#[]⟩ : ByteArray))))) 32 4 (upd (upd (upd (upd (zH [(.flat (.int .i64 0)), (.flat (.int .i64 0)), (.flat (.int .i64 0)), (.flat (.string ⟨#[]⟩))]) 0 (.flat (.int .i64 16))) 1 (.flat (.int .i64 70))) 2 (.flat (.int .i64 58))) 3 (.flat (.string (⟨#[]⟩ : ByteArray))))) 36 4 (upd (upd (upd (upd (zH [(.flat (.int .i64 0)), (.flat (.int .i64 0)), (.flat (.int .i64 0)), (.flat (.string ⟨#[]⟩))]) 0 (.flat (.int .i64 16))) 1 (.flat (.int .i64 72))) 2 (.flat (.int .i64 59))) 3 (.flat (.string (⟨#[]⟩ : ByteArray))))) 40 4 (upd (upd (upd (upd (zH [(.flat (.int .i64 0)), (.flat (.int .i64 0)), (.flat (.int .i64 0)), (.flat (.string ⟨#[]⟩))]) 0 (.flat (.int .i64 16))) 1 (.flat (.int .i64 88))) 2 (.flat (.int .i64 60))) 3 (.flat (.string (⟨#[]⟩ : ByteArray))))) 44 4 (upd (upd (upd (upd (zH [(.flat (.int .i64 0)), (.flat (.int .i64 0)), (.flat (.int .i64 0)), (.flat (.string ⟨#[]⟩))]) 0 (.flat (.int .i64 16))) 1 (.flat (.int .i64 96))) 2 (.flat (.int .i64 61))) 3 (.flat (.string (⟨#[]⟩ : ByteArray))))) 48 4 (upd (upd (upd (upd (zH [(.flat (.int .i64 0)), (.flat (.int .i64 0)), (.flat (.int .i64 0)), (.flat (.string ⟨#[]⟩))]) 0 (.flat (.int .i64 28))) 1 (.flat (.int .i64 2))) 2 (.flat (.int .i64 63))) 3 (.flat (.string Yb1)))) 52 4 (upd (upd (upd (upd (zH [(.flat (.int .i64 0)), (.flat (.int .i64 0)), (.flat (.int .i64 0)), (.flat (.string ⟨#[]⟩))]) 0 (.flat (.int .i64 28))) 1 (.flat (.int .i64 32))) 2 (.flat (.int .i64 64))) 3 (.flat (.string Yb3)))) 56 4 (upd (upd (upd (upd (zH [(.flat (.int .i64 0)), (.flat (.int .i64 0)), (.flat (.int .i64 0)), (.flat (.string ⟨#[]⟩))]) 0 (.flat (.int .i64 28))) 1 (.flat (.int .i64 33))) 2 (.flat (.int .i64 65))) 3 (.flat (.string Yb3))), 111, false⟩ fun b2 m1 => k (.sl b2 0 15 (.ex 15)) m1
def G85 := Gs [] [.a] F85
def E54 : zZ := ext E85 85 G85
theorem S54 (w0 : World) : SP w0 E54 := xU (S85 w0) Tryz.func85 Tryz.call85 (by kernel_rfl) false (fun _ _ => by kernel_rfl)
def zLd (x_0 : Int) (b_2 o_2 : Nat) (x_4 : Int) (v_5 : AV) (x_6 : Int) (m : Mem) (kn : Int -> Mem -> Prop) (k2 : Mem -> Prop) (kr : Bool -> Mem -> Prop) : Prop :=
 xJ v_5 fun x9 => kif (decide (x_6 < x9)) (vD v_5 fun b10 o11 l12 p13 => kif (decide (0 <= x_6) && decide (x_6 < l12)) (zR .i64 m b10 (o11 + (x_6).toNat * 4 + 2) fun x14 => kif (x14 == x_0) (vD v_5 fun b15 o16 l17 p18 => kif (decide (0 <= x_6) && decide (x_6 < l17)) (yN 4 m b15 (o16 + (x_6).toNat * 4) fun c19 => vA 4 m b_2 o_2 c19 fun m20 => kr true m20) False) (kn (IntKind.wrap .i64 (x_6 + 1)) m)) False) (k2  m)
def aG (x_0 : Int) (b_2 o_2 : Nat) (x_4 : Int) (v_5 : AV) : Nat -> Int -> Mem -> (Mem -> Prop) -> (Bool -> Mem -> Prop) -> Prop
 | 0, _,  _, _, _ => yT False
 | N + 1, x_6,  m, k2, kr => zLd x_0 b_2 o_2 x_4 v_5 x_6 m (fun x_6' m' => aG x_0 b_2 o_2 x_4 v_5 N x_6' m' k2 kr) k2 kr
def nP (x_0 : Int) (b_2 o_2 : Nat) (x_4 : Int) (v_5 : AV) (m : Mem) (kn : Mem -> Prop) (kr : Bool -> Mem -> Prop) : Prop :=
 ∃ N24, aG x_0 b_2 o_2 x_4 v_5 N24 0 m (fun m21 => kn  m21) (fun x22 m23 => kr x22 m23)
def zWn (x_0 : Int) (b_2 o_2 : Nat) (x_4 : Int) (m : Mem) (kn : Int -> Mem -> Prop) (k0 : Mem -> Prop) (kr : Bool -> Mem -> Prop) : Prop :=
 kif (decide (x_4 < 3)) (F83  m fun v3 m4 => kif (x_4 == 1) (F84  m4 fun v5 m6 => nP x_0 b_2 o_2 x_4 v5 m6 (fun m25 => kn (IntKind.wrap .i64 (x_4 + 1)) m25) (fun x26 m27 => kr x26 m27)) (kif (x_4 == 2) (F85  m4 fun v7 m8 => nP x_0 b_2 o_2 x_4 v7 m8 (fun m28 => kn (IntKind.wrap .i64 (x_4 + 1)) m28) (fun x29 m30 => kr x29 m30)) (nP x_0 b_2 o_2 x_4 v3 m4 (fun m31 => kn (IntKind.wrap .i64 (x_4 + 1)) m31) (fun x32 m33 => kr x32 m33)))) (k0  m)
def zCw (x_0 : Int) (b_2 o_2 : Nat) : Nat -> Int -> Mem -> (Mem -> Prop) -> (Bool -> Mem -> Prop) -> Prop
 | 0, _,  _, _, _ => yT False
 | N + 1, x_4,  m, k0, kr => zWn x_0 b_2 o_2 x_4 m (fun x_4' m' => zCw x_0 b_2 o_2 N x_4' m' k0 kr) k0 kr
def F54 (x_0 : Int) (m : Mem) (k : (Nat -> AV) -> Bool -> Mem -> Prop) : Prop :=
 zQ m ⟨4, zH [(.flat (.int .i64 0)), (.flat (.int .i64 0)), (.flat (.int .i64 0)), (.flat (.string ⟨#[]⟩))], 111, false⟩ fun b2 m1 => ∃ N37, zCw x_0 b2 0 N37 0 m1 (fun m34 => vA 4 m34 b2 0 (zH [(.flat (.int .i64 0)), (.flat (.int .i64 0)), (.flat (.int .i64 0)), (.flat (.string ⟨#[]⟩))]) fun m38 => yN 4 m38 b2 0 fun c40 => (zA m m38 /\ (xZ 4 m c40 /\ True) /\ k c40 false m)) (fun x35 m36 => yN 4 m36 b2 0 fun c39 => (zA m m36 /\ (xZ 4 m c39 /\ True) /\ k c39 x35 m))
def G54 := Gs [.i .i64] [.g 4, .b] F54
def yN1 : LpD := ⟨[0, 2], [.i .i64, .p], [4], [.i .i64], [⟨.exit 0, [], [], [2]⟩, ⟨.ret, [3], [.b], [2]⟩], zWn, zCw⟩
def zQ8 : PcD := ⟨[0, 2, 4, 5], [.i .i64, .p, .i .i64, .a], [⟨.normal, [], [], [0, 2, 4]⟩, ⟨.ret, [3], [.b], [2]⟩], nP⟩
def yA8 : LpD := ⟨[0, 2, 4, 5], [.i .i64, .p, .i .i64, .a], [6], [.i .i64], [⟨.exit 2, [], [], [0, 2, 4]⟩, ⟨.ret, [3], [.b], [2]⟩], zLd, aG⟩
def zMp : LEnv := yB [(2, pY yN1), (10, pY yA8)] [] [9102] [(9102, xK zQ8)]
theorem yEt : yI Tryz.prog E54 zMp (wP (zE Tryz.f54) 1) := xM yA8 (fun _ _ _ => by kernel_rfl) (by kernel_rfl) (fun _ _ _ _ _ _ _ _ _ => by kernel_rfl) (fun _ _ _ _ _ _ _ _ _ _ => by kernel_rfl) (fun _ _ _ _ _ _ _ _ _ => by kernel_rfl)
theorem zSb : zF Tryz.prog E54 zMp (zY zMp (zE Tryz.f54) 0) := zN zQ8 (fun _ _ _ => by kernel_rfl) (by kernel_rfl) (fun _ _ _ _ _ _ _ => by kernel_rfl)
theorem yIv : yI Tryz.prog E54 zMp (wP (zE Tryz.f54) 0) := xM yN1 (fun _ _ _ => by kernel_rfl) (by kernel_rfl) (fun _ _ _ _ _ _ _ => by kernel_rfl) (fun _ _ _ _ _ _ _ _ => by kernel_rfl) (fun _ _ _ _ _ _ _ => by kernel_rfl)
def E81 : zZ := ext E54 54 G54
theorem S81 (w0 : World) : SP w0 E81 := sg (S54 w0) Tryz.func54 Tryz.call54 (Λ := zMp) 2 ⟨yIv, yEt, trivial⟩ 1 ⟨zSb, trivial⟩ (by kernel_rfl) true (fun _ _ _ => by kernel_rfl)
def zVn (x_0 : ByteArray) (x_1 : Int) (x_5 : Int) (m : Mem) (kn : Int -> Mem -> Prop) (k0 : Mem -> Prop) (kr : Bool -> Mem -> Prop) : Prop :=
 kif (decide (x_5 < ((x_0.size : Nat) : Int))) (kif (decide (0 <= x_5) && decide (x_5 < x_0.size)) (kif (((x_0.data.getD (x_5).toNat 0).toNat) == x_1) (kr true m) (kn (IntKind.wrap .i64 (x_5 + 1)) m)) False) (k0  m)
def zIb (x_0 : ByteArray) (x_1 : Int) : Nat -> Int -> Mem -> (Mem -> Prop) -> (Bool -> Mem -> Prop) -> Prop
 | 0, _,  _, _, _ => yT False
 | N + 1, x_5,  m, k0, kr => zVn x_0 x_1 x_5 m (fun x_5' m' => zIb x_0 x_1 N x_5' m' k0 kr) k0 kr
def F81 (x_0 : ByteArray) (x_1 : Int) (m : Mem) (k : Bool -> Mem -> Prop) : Prop :=
 ∃ N4, zIb x_0 x_1 N4 0 m (fun m1 => (zA m m1 /\ k false m)) (fun x2 m3 => (zA m m3 /\ k x2 m))
def G81 := Gs [.s, .i .u8] [.b] F81
def yLi : LpD := ⟨[0, 1], [.s, .i .u8], [5], [.i .i64], [⟨.exit 0, [], [], []⟩, ⟨.ret, [4], [.b], []⟩], zVn, zIb⟩
def yMb : LEnv := yB [(2, pY yLi)] [] [] []
theorem yJ7 : yI Tryz.prog E81 yMb (wP (zE Tryz.f81) 0) := xM yLi (fun _ _ _ => by kernel_rfl) (by kernel_rfl) (fun _ _ _ _ _ _ => by kernel_rfl) (fun _ _ _ _ _ _ _ => by kernel_rfl) (fun _ _ _ _ _ _ => by kernel_rfl)
def E82 : zZ := ext E81 81 G81
theorem S82 (w0 : World) : SP w0 E82 := sg (S81 w0) Tryz.func81 Tryz.call81 (Λ := yMb) 1 ⟨yJ7, trivial⟩ 0 trivial (by kernel_rfl) true (fun _ _ _ _ => by kernel_rfl)
def F82 (x_0 : Int) (x_1 : Bool) (m : Mem) (k : Bool -> Mem -> Prop) : Prop :=
 kif (x_0 == 0) ((zA m m /\ k true m)) (kif x_1 (kif (decide (x_0 > 0)) ((zA m m /\ k (decide (x_0 < 32)) m)) ((zA m m /\ k false m))) ((zA m m /\ k false m)))
def G82 := Gs [.i .i64, .b] [.b] F82
def E53 : zZ := ext E82 82 G82
theorem S53 (w0 : World) : SP w0 E53 := xU (S82 w0) Tryz.func82 Tryz.call82 (by kernel_rfl) true (fun _ _ _ _ => by kernel_rfl)
def qZ (b_1 o_1 : Nat) (x_5 : ByteArray) (x_6 : Int) (m : Mem) (kr : Bool -> Mem -> Prop) : Prop :=
 ∃ Fr15 : Nat -> Prop, Fr15 b_1 /\ (zR .i64 m b_1 (o_1 + 1) fun x16 => F81 x_5 115 m fun x17 m18 => zV Fr15 m m18 /\ (F82 x16 x17 m18 fun x19 m20 => zV Fr15 m18 m20 /\ (kif x19 (Fr15 b_1 /\ (zR .i64 m20 b_1 (o_1 + 2) fun x21 => F81 x_5 116 m20 fun x22 m23 => zV Fr15 m20 m23 /\ (F82 x21 x22 m23 fun x24 m25 => zV Fr15 m23 m25 /\ (kif x24 (Fr15 b_1 /\ (zR .i64 m25 b_1 (o_1 + 3) fun x26 => F81 x_5 100 m25 fun x27 m28 => zV Fr15 m25 m28 /\ (F82 x26 x27 m28 fun x29 m30 => zV Fr15 m28 m30 /\ (kif x29 (Fr15 b_1 /\ (zR .i64 m30 b_1 (o_1 + 4) fun x31 => F81 x_5 104 m30 fun x32 m33 => zV Fr15 m30 m33 /\ (F82 x31 x32 m33 fun x34 m35 => zV Fr15 m33 m35 /\ (kif x34 (Fr15 b_1 /\ (zR .u32 m35 b_1 (o_1 + 5) fun x36 => kr (decide (x36 <= x_6)) m35)) (kr false m35))))) (kr false m30))))) (kr false m25))))) (kr false m20))))
def F53 (c_0 : Nat -> AV) (m : Mem) (k : Bool -> Mem -> Prop) : Prop :=
 zQ m ⟨6, c_0, 32, false⟩ fun b2 m1 => zR .i64 m1 b2 0 fun x3 => F54 x3 m1 fun c4 x5 m6 => zQ m6 ⟨4, zH [(.flat (.int .i64 0)), (.flat (.int .i64 0)), (.flat (.int .i64 0)), (.flat (.string ⟨#[]⟩))], 111, false⟩ fun b8 m7 => vA 4 m7 b8 0 c4 fun m9 => kif (!x5) ((zA m m9 /\ k false m)) (ldS m9 b8 3 fun x10 => F81 x10 105 m9 fun x11 m12 => kif x11 (qZ b2 0 x10 65535 m12 (fun x37 m38 => (zA m m38 /\ k x37 m))) (F81 x10 106 m12 fun x13 m14 => kif x13 (qZ b2 0 x10 67108863 m14 (fun x39 m40 => (zA m m40 /\ k x39 m))) (qZ b2 0 x10 0 m14 (fun x41 m42 => (zA m m42 /\ k x41 m)))))
def G53 := Gs [.g 6] [.b] F53
def zGo : PcD := ⟨[1, 5, 6], [.p, .s, .i .u32], [⟨.ret, [2], [.b], []⟩], qZ⟩
def yAk : LEnv := yB [] [10] [10102] [(10102, xK zGo)]
theorem zOa : zF Tryz.prog E53 yAk (zY yAk (zE Tryz.f53) 0) := zN zGo (fun _ _ _ => by kernel_rfl) (by kernel_rfl) (fun _ _ _ _ _ _ => by kernel_rfl)
def E37 : zZ := ext E53 53 G53
theorem S37 (w0 : World) : SP w0 E37 := sg (S53 w0) Tryz.func53 Tryz.call53 (Λ := yAk) 0 trivial 1 ⟨zOa, trivial⟩ (by kernel_rfl) true (fun _ _ _ => by kernel_rfl)
def nU (b_4 o_4 : Nat) (x_6 : Int) (x_67 : Bool) (m : Mem) (kn : Int -> Mem -> Prop) : Prop :=
 kif x_67 (zR .i64 m b_4 (o_4 + 1) fun x26 => kn (bits .or .u32 (bits .or .u32 x_6 33554432) (IntKind.wrap .u32 (IntKind.wrap .i64 (x26 - 64)))) m) (zR .i64 m b_4 (o_4 + 0) fun x27 => kif (x27 == 16) (zR .i64 m b_4 (o_4 + 1) fun x28 => kn (bits .or .u32 x_6 (IntKind.wrap .u32 ((IntKind.wrap .u32 x28) * 2097152))) m) (kn x_6 m))
def kM (b_4 o_4 : Nat) (x_6 : Int) (x_43 : Bool) (m : Mem) (kn : Int -> Mem -> Prop) : Prop :=
 kif x_43 (zR .i64 m b_4 (o_4 + 1) fun x21 => kn (bits .or .u32 x_6 (IntKind.wrap .u32 x21)) m) (zR .i64 m b_4 (o_4 + 0) fun x22 => kif (x22 == 1) (zR .i64 m b_4 (o_4 + 1) fun x23 => kn (bits .or .u32 x_6 (IntKind.wrap .u32 ((IntKind.wrap .u32 x23) * 65536))) m) (zR .i64 m b_4 (o_4 + 0) fun x24 => kif (x24 == 16) (zR .i64 m b_4 (o_4 + 1) fun x25 => nU b_4 o_4 x_6 (decide (x25 >= 64)) m (fun x29 m30 => kn x29 m30)) (nU b_4 o_4 x_6 false m (fun x31 m32 => kn x31 m32))))
def F37 (c_0 : Nat -> AV) (m : Mem) (k : Int -> Bool -> Mem -> Prop) : Prop :=
 zQ m ⟨6, c_0, 32, false⟩ fun b2 m1 => yN 6 m1 b2 0 fun c3 => F53 c3 m1 fun x4 m5 => kif (!x4) ((zA m m5 /\ k 0 false m)) (zR .i64 m5 b2 0 fun x6 => F54 x6 m5 fun c7 x8 m9 => zQ m9 ⟨4, zH [(.flat (.int .i64 0)), (.flat (.int .i64 0)), (.flat (.int .i64 0)), (.flat (.string ⟨#[]⟩))], 111, false⟩ fun b11 m10 => vA 4 m10 b11 0 c7 fun m12 => zR .i64 m12 b11 0 fun x13 => zR .i64 m12 b2 1 fun x14 => zR .i64 m12 b2 2 fun x15 => zR .i64 m12 b2 3 fun x16 => zR .i64 m12 b2 4 fun x17 => zR .u32 m12 b2 5 fun x18 => zR .i64 m12 b11 0 fun x19 => kif (x19 == 0) (kM b11 0 (bits .or .u32 (bits .or .u32 (bits .or .u32 (bits .or .u32 (bits .or .u32 (IntKind.wrap .u32 ((IntKind.wrap .u32 x13) * 67108864)) (IntKind.wrap .u32 ((IntKind.wrap .u32 x14) * 2097152))) (IntKind.wrap .u32 ((IntKind.wrap .u32 x15) * 65536))) (IntKind.wrap .u32 ((IntKind.wrap .u32 x16) * 2048))) (IntKind.wrap .u32 ((IntKind.wrap .u32 x17) * 64))) x18) true m12 (fun x33 m34 => (zA m m34 /\ k x33 true m))) (zR .i64 m12 b11 0 fun x20 => kM b11 0 (bits .or .u32 (bits .or .u32 (bits .or .u32 (bits .or .u32 (bits .or .u32 (IntKind.wrap .u32 ((IntKind.wrap .u32 x13) * 67108864)) (IntKind.wrap .u32 ((IntKind.wrap .u32 x14) * 2097152))) (IntKind.wrap .u32 ((IntKind.wrap .u32 x15) * 65536))) (IntKind.wrap .u32 ((IntKind.wrap .u32 x16) * 2048))) (IntKind.wrap .u32 ((IntKind.wrap .u32 x17) * 64))) x18) (x20 == 28) m12 (fun x35 m36 => (zA m m36 /\ k x35 true m))))
def G37 := Gs [.g 6] [.i .u32, .b] F37
def zQp : PcD := ⟨[4, 6, 43], [.p, .i .u32, .b], [⟨.normal, [6], [.i .u32], []⟩], kM⟩
def zI4 : PcD := ⟨[4, 6, 67], [.p, .i .u32, .b], [⟨.normal, [6], [.i .u32], []⟩], nU⟩
def zOy : LEnv := yB [] [] [6004, 10004] [(6004, xK zQp), (10004, xK zI4)]
theorem zNr : zF Tryz.prog E37 zOy (zY zOy (zE Tryz.f37) 1) := zN zI4 (fun _ _ _ => by kernel_rfl) (by kernel_rfl) (fun _ _ _ _ _ _ => by kernel_rfl)
theorem zSy : zF Tryz.prog E37 zOy (zY zOy (zE Tryz.f37) 0) := zN zQp (fun _ _ _ => by kernel_rfl) (by kernel_rfl) (fun _ _ _ _ _ _ => by kernel_rfl)
def E16 : zZ := ext E37 37 G37
theorem S16 (w0 : World) : SP w0 E16 := sg (S37 w0) Tryz.func37 Tryz.call37 (Λ := zOy) 0 trivial 2 ⟨zSy, zNr, trivial⟩ (by kernel_rfl) true (fun _ _ _ => by kernel_rfl)
def zI7 (v_0 : AV) (v_3 : AV) (x_4 : Int) (m : Mem) (kn : AV -> Int -> Mem -> Prop) (k0 : AV -> Mem -> Prop) : Prop :=
 xJ v_0 fun x1 => kif (decide (x_4 < x1)) (vD v_0 fun b2 o3 l4 p5 => kif (decide (0 <= x_4) && decide (x_4 < l4)) (yN 6 m b2 (o3 + (x_4).toNat * 6) fun c6 => F37 c6 m fun x7 x8 m9 => zQ m9 ⟨4, upd (upd (upd (upd (zH [(.flat (.int .u8 0)), (.flat (.int .u8 0)), (.flat (.int .u8 0)), (.flat (.int .u8 0))]) 0 (.flat (.int .u8 (IntKind.wrap .u8 (x7.fdiv 16777216))))) 1 (.flat (.int .u8 (IntKind.wrap .u8 (x7.fdiv 65536))))) 2 (.flat (.int .u8 (IntKind.wrap .u8 (x7.fdiv 256))))) 3 (.flat (.int .u8 (IntKind.wrap .u8 x7))), 5, false⟩ fun b11 m10 => uB 1 1 5 v_3 (.sl b11 0 4 (.ex 4)) m10 fun v12 m13 => kn v12 (IntKind.wrap .i64 (x_4 + 1)) m13) False) (k0 v_3 m)
def zVl (v_0 : AV) : Nat -> AV -> Int -> Mem -> (AV -> Mem -> Prop) -> Prop
 | 0, _, _,  _, _ => yT False
 | N + 1, v_3, x_4,  m, k0 => zI7 v_0 v_3 x_4 m (fun v_3' x_4' m' => zVl v_0 N v_3' x_4' m' k0) k0
def F16 (v_0 : AV) (m : Mem) (k : AV -> Mem -> Prop) : Prop :=
 ∃ N16, zVl v_0 N16 (.flat (.slice none 0 0)) 0 m (fun v14 m15 => k v14 m15)
def G16 := Gs [.a] [.a] F16
def yL9 : LpD := ⟨[0], [.a], [3, 4], [.a, .i .i64], [⟨.exit 0, [3], [.a], []⟩], zI7, zVl⟩
def yLb : LEnv := yB [(3, pY yL9)] [] [] []
theorem yL4 : yI Tryz.prog E16 yLb (wP (zE Tryz.f16) 0) := xM yL9 (fun _ _ _ => by kernel_rfl) (by kernel_rfl) (fun _ _ _ _ _ _ => by kernel_rfl) (fun _ _ _ _ _ _ _ => by kernel_rfl) (fun _ _ _ _ _ _ => by kernel_rfl)
def E17 : zZ := ext E16 16 G16
theorem S17 (w0 : World) : SP w0 E17 := sg (S16 w0) Tryz.func16 Tryz.call16 (Λ := yLb) 1 ⟨yL4, trivial⟩ 0 trivial (by kernel_rfl) false (fun _ _ _ => by kernel_rfl)
def zGq (v_0 : AV) (v_3 : AV) (x_4 : Int) (m : Mem) (kn : AV -> Int -> Mem -> Prop) (k0 : AV -> Mem -> Prop) : Prop :=
 xJ v_0 fun x1 => kif (decide (x_4 < x1)) (vD v_0 fun b2 o3 l4 p5 => kif (decide (0 <= x_4) && decide (x_4 < l4)) (ldA m b2 (o3 + (x_4).toNat * 1) fun v6 => uB 6 48 32 v_3 v6 m fun v7 m8 => kn v7 (IntKind.wrap .i64 (x_4 + 1)) m8) False) (k0 v_3 m)
def zWk (v_0 : AV) : Nat -> AV -> Int -> Mem -> (AV -> Mem -> Prop) -> Prop
 | 0, _, _,  _, _ => yT False
 | N + 1, v_3, x_4,  m, k0 => zGq v_0 v_3 x_4 m (fun v_3' x_4' m' => zWk v_0 N v_3' x_4' m' k0) k0
def F17 (v_0 : AV) (m : Mem) (k : AV -> Mem -> Prop) : Prop :=
 ∃ N11, zWk v_0 N11 (.flat (.slice none 0 0)) 0 m (fun v9 m10 => k v9 m10)
def G17 := Gs [.a] [.a] F17
def yLo : LpD := ⟨[0], [.a], [3, 4], [.a, .i .i64], [⟨.exit 0, [3], [.a], []⟩], zGq, zWk⟩
def yLu : LEnv := yB [(3, pY yLo)] [] [] []
theorem yGm : yI Tryz.prog E17 yLu (wP (zE Tryz.f17) 0) := xM yLo (fun _ _ _ => by kernel_rfl) (by kernel_rfl) (fun _ _ _ _ _ _ => by kernel_rfl) (fun _ _ _ _ _ _ _ => by kernel_rfl) (fun _ _ _ _ _ _ => by kernel_rfl)
def E21 : zZ := ext E17 17 G17
theorem S21 (w0 : World) : SP w0 E21 := sg (S17 w0) Tryz.func17 Tryz.call17 (Λ := yLu) 1 ⟨yGm, trivial⟩ 0 trivial (by kernel_rfl) false (fun _ _ _ => by kernel_rfl)
def F21 (x_0 : Int) (x_1 : Int) (x_2 : Int) (x_3 : Int) (m : Mem) (k : (Nat -> AV) -> Mem -> Prop) : Prop :=
 zQ m ⟨6, Z6, 32, false⟩ fun b2 m1 => vA 6 m1 b2 0 (upd (upd (upd (upd (Z6) 0 (.flat (.int .i64 x_0))) 2 (.flat (.int .i64 x_1))) 1 (.flat (.int .i64 x_2))) 5 (.flat (.int .u32 (bits .and .u32 x_3 65535)))) fun m3 => yN 6 m3 b2 0 fun c4 => (zA m m3 /\ xZ 6 m c4 /\ k c4 m)
def G21 := Gs [.i .i64, .i .i64, .i .i64, .i .u32] [.g 6] F21
def E18 : zZ := ext E21 21 G21
theorem S18 (w0 : World) : SP w0 E18 := xU (S21 w0) Tryz.func21 Tryz.call21 (by kernel_rfl) true (fun _ _ _ _ _ _ => by kernel_rfl)
def F18 (x_0 : Int) (x_1 : Int) (m : Mem) (k : AV -> Mem -> Prop) : Prop :=
 F21 51 x_0 x_0 x_1 m fun c1 m2 => zQ m2 ⟨12, zC (zC (Z12) 0 6 (upd (upd (upd (Z6) 0 (.flat (.int .i64 53))) 2 (.flat (.int .i64 x_0))) 5 (.flat (.int .u32 (x_1.fdiv 65536))))) 6 6 c1, 32, false⟩ fun b4 m3 => k (.sl b4 0 2 (.ex 2)) m3
def G18 := Gs [.i .i64, .i .u32] [.a] F18
def E22 : zZ := ext E18 18 G18
theorem S22 (w0 : World) : SP w0 E22 := xU (S18 w0) Tryz.func18 Tryz.call18 (by kernel_rfl) false (fun _ _ _ _ => by kernel_rfl)
def F22 (x_0 : Int) (x_1 : Int) (x_2 : Int) (x_3 : Int) (m : Mem) (k : AV -> Mem -> Prop) : Prop :=
 zQ m ⟨12, zC (zC (Z12) 0 6 (upd (upd (upd (upd (Z6) 0 (.flat (.int .i64 x_0))) 1 (.flat (.int .i64 x_1))) 2 (.flat (.int .i64 x_2))) 5 (.flat (.int .u32 (bits .and .u32 (IntKind.wrap .u32 (IntKind.wrap .i64 ((IntKind.wrap .i64 (0 - x_3)) - 1))) 65535))))) 6 6 (upd (Z6) 0 (.flat (.int .i64 1))), 32, false⟩ fun b2 m1 => k (.sl b2 0 2 (.ex 2)) m1
def G22 := Gs [.i .i64, .i .i64, .i .i64, .i .i64] [.a] F22
def E19 : zZ := ext E22 22 G22
theorem S19 (w0 : World) : SP w0 E19 := xU (S22 w0) Tryz.func22 Tryz.call22 (by kernel_rfl) false (fun _ _ _ _ _ _ => by kernel_rfl)
def F19  (m : Mem) (k : AV -> Mem -> Prop) : Prop :=
 F22 42 0 0 0 m fun v1 m2 => k v1 m2
def G19 := Gs [] [.a] F19
def E38 : zZ := ext E19 19 G19
theorem S38 (w0 : World) : SP w0 E38 := xU (S19 w0) Tryz.func19 Tryz.call19 (by kernel_rfl) false (fun _ _ => by kernel_rfl)
def F38 (x_0 : Int) (x_1 : Int) (m : Mem) (k : Int -> Mem -> Prop) : Prop :=
 (zA m m /\ k (IntKind.wrap .u32 ((IntKind.wrap .u32 (3204448256 + (IntKind.wrap .u32 ((IntKind.wrap .u32 x_0) * 64)))) + x_1)) m)
def G38 := Gs [.i .i64, .i .u32] [.i .u32] F38
def E20 : zZ := ext E38 38 G38
theorem S20 (w0 : World) : SP w0 E20 := xU (S38 w0) Tryz.func38 Tryz.call38 (by kernel_rfl) true (fun _ _ _ _ => by kernel_rfl)
def F20 (x_0 : Int) (x_1 : Int) (x_2 : Int) (m : Mem) (k : AV -> Mem -> Prop) : Prop :=
 F38 x_0 x_1 m fun x1 m2 => F18 8 x1 m2 fun v3 m4 => F18 9 x_2 m4 fun v5 m6 => F21 73 9 8 0 m6 fun c7 m8 => zQ m8 ⟨6, zC (Z6) 0 6 c7, 32, false⟩ fun b10 m9 => kif (AV.one v3) (kif (AV.one v5) (zQ m9 ⟨3, upd (upd (upd (zH [(.flat (.slice none 0 0)), (.flat (.slice none 0 0)), (.flat (.slice none 0 0))]) 0 v3) 1 v5) 2 (.sl b10 0 1 (.ex 1)), 26, false⟩ fun b12 m11 => F17 (.sl b12 0 3 (.ex 3)) m11 fun v13 m14 => k v13 m14) False) False
def G20 := Gs [.i .i64, .i .u32, .i .u32] [.a] F20
def E29 : zZ := ext E20 20 G20
theorem S29 (w0 : World) : SP w0 E29 := xU (S20 w0) Tryz.func20 Tryz.call20 (by kernel_rfl) false (fun _ _ _ _ _ => by kernel_rfl)
def F29 (b_0 o_0 : Nat) (m : Mem) (k : AV -> Mem -> Prop) : Prop :=
 ldA m b_0 (o_0 + 73) fun v1 => k v1 m
def G29 := Gs [.p] [.a] F29
def E30 : zZ := ext E29 29 G29
theorem S30 (w0 : World) : SP w0 E30 := xU (S29 w0) Tryz.func29 Tryz.call29 (by kernel_rfl) false (fun _ _ _ _ => by kernel_rfl)
def F30 (b_0 o_0 : Nat) (m : Mem) (k : AV -> Mem -> Prop) : Prop :=
 ldA m b_0 (o_0 + 0) fun v1 => k v1 m
def G30 := Gs [.p] [.a] F30
def E33 : zZ := ext E30 30 G30
theorem S33 (w0 : World) : SP w0 E33 := xU (S30 w0) Tryz.func30 Tryz.call30 (by kernel_rfl) false (fun _ _ _ _ => by kernel_rfl)
def F33 (v_0 : AV) (v_1 : AV) (m : Mem) (k : AV -> Mem -> Prop) : Prop :=
 mkS [(.flat (.int .u8 0))] 1 5 4096 4096 m fun b1 m2 => qH 1 (.sl b1 0 4096 (.ex 4096)) (some 384) none fun v3 => qF 1 v3 v_1 m2 fun v4 m5 => qH 1 (.sl b1 0 4096 (.ex 4096)) (some 1024) none fun v6 => qF 1 v6 v_0 m5 fun v7 m8 => k (.sl b1 0 4096 (.ex 4096)) m8
def G33 := Gs [.a, .a] [.a] F33
def E78 : zZ := ext E33 33 G33
theorem S78 (w0 : World) : SP w0 E78 := xU (S33 w0) Tryz.func33 Tryz.call33 (by kernel_rfl) false (fun _ _ _ _ => by kernel_rfl)
def F78  (m : Mem) (k : (Nat -> AV) -> Mem -> Prop) : Prop :=
 zQ m ⟨73, Z73, 46, false⟩ fun b2 m1 => zQ m1 ⟨73, Z73, 46, false⟩ fun b4 m3 => vA 73 m3 b4 0 (upd (upd (Z73) 34 (.flat (.int .u32 2147484672))) 35 (.flat (.int .u32 2147484676))) fun m5 => wF m5 b4 54 (.flat (.int .u32 98304)) fun m6 => yN 73 m6 b4 0 fun c7 => vA 73 m6 b2 0 c7 fun m8 => yN 73 m8 b2 0 fun c9 => (zA m m8 /\ xZ 73 m c9 /\ k c9 m)
def G78 := Gs [] [.g 73] F78
def E45 : zZ := ext E78 78 G78
theorem S45 (w0 : World) : SP w0 E45 := xU (S78 w0) Tryz.func78 Tryz.call78 (by kernel_rfl) true (fun _ _ => by kernel_rfl)
def F45 (b_0 o_0 : Nat) (x_1 : Int) (x_2 : Int) (m : Mem) (k : Bool -> Mem -> Prop) : Prop :=
 kif (decide (x_2 >= 0)) (ldA m b_0 (o_0 + 0) fun v1 => xJ v1 fun x2 => kif (decide ((IntKind.wrap .i64 x_1) <= x2)) (ldA m b_0 (o_0 + 0) fun v3 => xJ v3 fun x4 => (zA m m /\ k (decide (x_2 <= (IntKind.wrap .i64 (x4 - (IntKind.wrap .i64 x_1))))) m)) ((zA m m /\ k false m))) ((zA m m /\ k false m))
def G45 := Gs [.p, .i .u32, .i .i64] [.b] F45
def E46 : zZ := ext E45 45 G45
theorem S46 (w0 : World) : SP w0 E46 := xU (S45 w0) Tryz.func45 Tryz.call45 (by kernel_rfl) true (fun _ _ _ _ _ _ => by kernel_rfl)
def zG0 (b_0 o_0 : Nat) (x_1 : Int) (x_2 : Int) (x_6 : Int) (m : Mem) (kn : Int -> Mem -> Prop) (k0 : Mem -> Prop) : Prop :=
 kif (decide (x_6 <= (IntKind.wrap .i64 ((IntKind.wrap .i64 ((IntKind.wrap .i64 ((IntKind.wrap .i64 x_1) + x_2)) - 1)).tdiv 1024)))) (ldA m b_0 (o_0 + 2) fun v1 => ldA m b_0 (o_0 + 2) fun v2 => vD v2 fun b3 o4 l5 p6 => kif (decide (0 <= x_6) && decide (x_6 < l5)) (ldB m b3 (o4 + (x_6).toNat * 1) fun x7 => kif x7 (vD v1 fun b8 o9 l10 p11 => kif (decide (0 <= x_6) && decide (x_6 < l10)) (wF m b8 (o9 + (x_6).toNat * 1) (.flat (.bool true)) fun m12 => kn (IntKind.wrap .i64 (x_6 + 1)) m12) False) (ldA m b_0 (o_0 + 1) fun v13 => vD v13 fun b14 o15 l16 p17 => kif (decide (0 <= x_6) && decide (x_6 < l16)) (ldB m b14 (o15 + (x_6).toNat * 1) fun x18 => vD v1 fun b19 o20 l21 p22 => kif (decide (0 <= x_6) && decide (x_6 < l21)) (wF m b19 (o20 + (x_6).toNat * 1) (.flat (.bool x18)) fun m23 => kn (IntKind.wrap .i64 (x_6 + 1)) m23) False) False)) False) (k0  m)
def zMz (b_0 o_0 : Nat) (x_1 : Int) (x_2 : Int) : Nat -> Int -> Mem -> (Mem -> Prop) -> Prop
 | 0, _,  _, _ => yT False
 | N + 1, x_6,  m, k0 => zG0 b_0 o_0 x_1 x_2 x_6 m (fun x_6' m' => zMz b_0 o_0 x_1 x_2 N x_6' m' k0) k0
def F46 (b_0 o_0 : Nat) (x_1 : Int) (x_2 : Int) (m : Mem) (k : Mem -> Prop) : Prop :=
 kif (decide (x_2 < 1)) (k  m) (∃ N25, zMz b_0 o_0 x_1 x_2 N25 (IntKind.wrap .i64 ((IntKind.wrap .i64 x_1).tdiv 1024)) m (fun m24 => k  m24))
def G46 := Gs [.p, .i .u32, .i .i64] [] F46
def yM6 : LpD := ⟨[0, 1, 2], [.p, .i .u32, .i .i64], [6], [.i .i64], [⟨.exit 0, [], [], []⟩], zG0, zMz⟩
def yLa : LEnv := yB [(2, pY yM6)] [] [] []
theorem yH8 : yI Tryz.prog E46 yLa (wP (zE Tryz.f46) 0) := xM yM6 (fun _ _ _ => by kernel_rfl) (by kernel_rfl) (fun _ _ _ _ _ _ _ _ => by kernel_rfl) (fun _ _ _ _ _ _ _ _ _ => by kernel_rfl) (fun _ _ _ _ _ _ _ _ => by kernel_rfl)
def E31 : zZ := ext E46 46 G46
theorem S31 (w0 : World) : SP w0 E31 := sg (S46 w0) Tryz.func46 Tryz.call46 (Λ := yLa) 1 ⟨yH8, trivial⟩ 0 trivial (by kernel_rfl) false (fun _ _ _ _ _ _ => by kernel_rfl)
def F31 (b_0 o_0 : Nat) (x_1 : Int) (v_2 : AV) (m : Mem) (k : Bool -> Mem -> Prop) : Prop :=
 xJ v_2 fun x1 => F45 b_0 o_0 x_1 x1 m fun x2 m3 => kif (!x2) (k false m3) (ldA m3 b_0 (o_0 + 0) fun v4 => qH 1 v4 (some x_1) none fun v5 => qF 1 v5 v_2 m3 fun v6 m7 => xJ v_2 fun x8 => F46 b_0 o_0 x_1 x8 m7 fun m9 => k true m9)
def G31 := Gs [.p, .i .u32, .a] [.b] F31
def E63 : zZ := ext E31 31 G31
theorem S63 (w0 : World) : SP w0 E63 := xU (S31 w0) Tryz.func31 Tryz.call31 (by kernel_rfl) false (fun _ _ _ _ _ _ => by kernel_rfl)
def F63 (b_0 o_0 : Nat) (m : Mem) (k : Int -> Mem -> Prop) : Prop :=
 ldA m b_0 (o_0 + 0) fun v1 => xJ v1 fun x2 => (zA m m /\ k (IntKind.wrap .u32 x2) m)
def G63 := Gs [.p] [.i .u32] F63
def yU2 : zZ := ext E63 63 G63
theorem xEy (w0 : World) : SP w0 yU2 := xU (S63 w0) Tryz.func63 Tryz.call63 (by kernel_rfl) true (fun _ _ _ _ => by kernel_rfl)
def yK7 (x_0 : Int) (m : Mem) (k : AV -> Mem -> Prop) : Prop :=
 mkS [(.flat (.int .u8 0))] 1 5 (IntKind.wrap .i64 ((if (if 64 < x_0 then 64 else x_0) > 1 then (if 64 < x_0 then 64 else x_0) else 1) * 1024)) (IntKind.wrap .i64 ((if (if 64 < x_0 then 64 else x_0) > 1 then (if 64 < x_0 then 64 else x_0) else 1) * 1024)) m fun b1 m2 => mkS [(.flat (.bool false))] 1 4 (if (if 64 < x_0 then 64 else x_0) > 1 then (if 64 < x_0 then 64 else x_0) else 1) (if (if 64 < x_0 then 64 else x_0) > 1 then (if 64 < x_0 then 64 else x_0) else 1) m2 fun b3 m4 => mkS [(.flat (.bool false))] 1 4 (if (if 64 < x_0 then 64 else x_0) > 1 then (if 64 < x_0 then 64 else x_0) else 1) (if (if 64 < x_0 then 64 else x_0) > 1 then (if 64 < x_0 then 64 else x_0) else 1) m4 fun b5 m6 => zQ m6 ⟨3, (upd (upd (upd (zH [(.flat (.slice none 0 0)), (.flat (.slice none 0 0)), (.flat (.slice none 0 0))]) 0 (.sl b1 0 ((IntKind.wrap .i64 ((if (if 64 < x_0 then 64 else x_0) > 1 then (if 64 < x_0 then 64 else x_0) else 1) * 1024)).toNat) (.ex ((IntKind.wrap .i64 ((if (if 64 < x_0 then 64 else x_0) > 1 then (if 64 < x_0 then 64 else x_0) else 1) * 1024)).toNat)))) 1 (.sl b3 0 ((if (if 64 < x_0 then 64 else x_0) > 1 then (if 64 < x_0 then 64 else x_0) else 1).toNat) (.ex ((if (if 64 < x_0 then 64 else x_0) > 1 then (if 64 < x_0 then 64 else x_0) else 1).toNat)))) 2 (.sl b5 0 ((if (if 64 < x_0 then 64 else x_0) > 1 then (if 64 < x_0 then 64 else x_0) else 1).toNat) (.ex ((if (if 64 < x_0 then 64 else x_0) > 1 then (if 64 < x_0 then 64 else x_0) else 1).toNat)))), 103, false⟩ fun b8 m7 => k (.ptr b8 0) m7
def xKk := Gs [.i .i64] [.a] yK7
def yX0 : zZ := ext yU2 112 xKk
theorem xJo (w0 : World) : SP w0 yX0 := xU (xEy w0) Tryz.func112 Tryz.call112 (by kernel_rfl) false (fun _ _ _ => by kernel_rfl)
def yNs  (m : Mem) (k : AV -> Mem -> Prop) : Prop :=
 zQ m ⟨2, (zH [(.flat (.slice none 0 0)), (.flat (.int .i64 0))]), 182, false⟩ fun b2 m1 => k (.ptr b2 0) m1
def xBi := Gs [] [.a] yNs
def ySy : zZ := ext yX0 113 xBi
theorem xGk (w0 : World) : SP w0 ySy := xU (xJo w0) Tryz.func113 Tryz.call113 (by kernel_rfl) false (fun _ _ => by kernel_rfl)
def yNx  (m : Mem) (k : AV -> Mem -> Prop) : Prop :=
 zQ m ⟨2, (zH [(.flat (.int .u32 0)), (.flat (.int .u32 0))]), 184, false⟩ fun b2 m1 => k (.ptr b2 0) m1
def xEt := Gs [] [.a] yNx
def yTi : zZ := ext ySy 114 xEt
theorem xDb (w0 : World) : SP w0 yTi := xU (xGk w0) Tryz.func114 Tryz.call114 (by kernel_rfl) false (fun _ _ => by kernel_rfl)
def yHw (x_0 : Int) (b_1 o_1 : Nat) (m : Mem) (k : AV -> Mem -> Prop) : Prop :=
 zQ m ⟨5, (upd (upd (zH [(.flat (.int .i64 0)), (.flat (.pointer none)), (.flat (.int .u32 0)), (.flat (.int .u32 0)), (.flat (.int .u32 0))]) 0 (.flat (.int .i64 x_0))) 1 (.ptr b_1 o_1)), 215, false⟩ fun b2 m1 => k (.ptr b2 0) m1
def xDq := Gs [.i .i64, .p] [.a] yHw
def yRo : zZ := ext yTi 115 xDq
theorem xE3 (w0 : World) : SP w0 yRo := xU (xDb w0) Tryz.func115 Tryz.call115 (by kernel_rfl) false (fun _ _ _ _ _ => by kernel_rfl)
def yQ7 (x_0 : Int) (b_1 o_1 : Nat) (m : Mem) (k : AV -> Mem -> Prop) : Prop :=
 zQ m ⟨7, (upd (upd (upd (upd (Z7) 0 (.flat (.int .i64 x_0))) 1 (.ptr b_1 o_1)) 2 .ch) 3 .ch), 218, false⟩ fun b2 m1 => k (.ptr b2 0) m1
def xH1 := Gs [.i .i64, .p] [.a] yQ7
def yWt : zZ := ext yRo 116 xH1
theorem xH0 (w0 : World) : SP w0 yWt := xU (xE3 w0) Tryz.func116 Tryz.call116 (by kernel_rfl) false (fun _ _ _ _ _ => by kernel_rfl)
def yOq (x_0 : Int) (b_1 o_1 : Nat) (b_2 o_2 : Nat) (m : Mem) (k : AV -> Mem -> Prop) : Prop :=
 zQ m ⟨7, (upd (upd (upd (Z7b) 0 (.flat (.int .i64 x_0))) 1 (.ptr b_1 o_1)) 2 (.ptr b_2 o_2)), 220, false⟩ fun b2 m1 => k (.ptr b2 0) m1
def xGz := Gs [.i .i64, .p, .p] [.a] yOq
def ySn : zZ := ext yWt 117 xGz
theorem xAu (w0 : World) : SP w0 ySn := xU (xH0 w0) Tryz.func117 Tryz.call117 (by kernel_rfl) false (fun _ _ _ _ _ _ _ => by kernel_rfl)
def yH1 (x_0 : Int) (b_1 o_1 : Nat) (b_2 o_2 : Nat) (v_3 : AV) (m : Mem) (k : AV -> Mem -> Prop) : Prop :=
 xJ v_3 fun x1 => mkS [(.flat (.int .u8 0))] 1 5 (IntKind.wrap .i64 ((if 64 < (IntKind.wrap .i64 ((IntKind.wrap .i64 ((IntKind.wrap .i64 (x1 + 64)) - 1)).tdiv 64)) then 64 else (IntKind.wrap .i64 ((IntKind.wrap .i64 ((IntKind.wrap .i64 (x1 + 64)) - 1)).tdiv 64))) * 64)) (IntKind.wrap .i64 ((if 64 < (IntKind.wrap .i64 ((IntKind.wrap .i64 ((IntKind.wrap .i64 (x1 + 64)) - 1)).tdiv 64)) then 64 else (IntKind.wrap .i64 ((IntKind.wrap .i64 ((IntKind.wrap .i64 (x1 + 64)) - 1)).tdiv 64))) * 64)) m fun b2 m3 => qF 1 (.sl b2 0 ((IntKind.wrap .i64 ((if 64 < (IntKind.wrap .i64 ((IntKind.wrap .i64 ((IntKind.wrap .i64 (x1 + 64)) - 1)).tdiv 64)) then 64 else (IntKind.wrap .i64 ((IntKind.wrap .i64 ((IntKind.wrap .i64 (x1 + 64)) - 1)).tdiv 64))) * 64)).toNat) (.ex ((IntKind.wrap .i64 ((if 64 < (IntKind.wrap .i64 ((IntKind.wrap .i64 ((IntKind.wrap .i64 (x1 + 64)) - 1)).tdiv 64)) then 64 else (IntKind.wrap .i64 ((IntKind.wrap .i64 ((IntKind.wrap .i64 (x1 + 64)) - 1)).tdiv 64))) * 64)).toNat))) v_3 m3 fun v4 m5 => zQ m5 ⟨8, (upd (upd (upd (upd (Z8) 0 (.flat (.int .i64 x_0))) 1 (.ptr b_1 o_1)) 2 (.ptr b_2 o_2)) 3 (.sl b2 0 ((IntKind.wrap .i64 ((if 64 < (IntKind.wrap .i64 ((IntKind.wrap .i64 ((IntKind.wrap .i64 (x1 + 64)) - 1)).tdiv 64)) then 64 else (IntKind.wrap .i64 ((IntKind.wrap .i64 ((IntKind.wrap .i64 (x1 + 64)) - 1)).tdiv 64))) * 64)).toNat) (.ex ((IntKind.wrap .i64 ((if 64 < (IntKind.wrap .i64 ((IntKind.wrap .i64 ((IntKind.wrap .i64 (x1 + 64)) - 1)).tdiv 64)) then 64 else (IntKind.wrap .i64 ((IntKind.wrap .i64 ((IntKind.wrap .i64 (x1 + 64)) - 1)).tdiv 64))) * 64)).toNat)))), 222, false⟩ fun b7 m6 => k (.ptr b7 0) m6
def xHx := Gs [.i .i64, .p, .p, .a] [.a] yH1
def E79 : zZ := ext ySn 118 xHx
theorem S79 (w0 : World) : SP w0 E79 := xU (xAu w0) Tryz.func118 Tryz.call118 (by kernel_rfl) false (fun _ _ _ _ _ _ _ _ => by kernel_rfl)
def F79 (x_0 : Int) (v_1 : AV) (v_2 : AV) (m : Mem) (k : AV -> Mem -> Prop) : Prop :=
 yK7 x_0 m fun v1 m2 => yNs  m2 fun v3 m4 => xJ v_1 fun x5 => yD v1 fun b6 o7 => F63 b6 o7 m4 fun x8 m9 => qH 1 v_1 none (some (if (IntKind.wrap .i64 x8) < x5 then (IntKind.wrap .i64 x8) else x5)) fun v10 => yD v1 fun b11 o12 => F31 b11 o12 0 v10 m9 fun x13 m14 => yNx  m14 fun v15 m16 => yD v3 fun b17 o18 => yHw 1 b17 o18 m16 fun v19 m20 => yD v3 fun b21 o22 => yHw 2 b21 o22 m20 fun v23 m24 => yD v3 fun b25 o26 => yQ7 3 b25 o26 m24 fun v27 m28 => yD v3 fun b29 o30 => yD v1 fun b31 o32 => yOq 4 b29 o30 b31 o32 m28 fun v33 m34 => yD v3 fun b35 o36 => yD v1 fun b37 o38 => yH1 5 b35 o36 b37 o38 v_2 m34 fun v39 m40 => kif (AV.one v1) (kif (AV.one v3) (kif (AV.one v15) (kif (AV.one v19) (kif (AV.one v23) (kif (AV.one v27) (kif (AV.one v33) (kif (AV.one v39) (zQ m40 ⟨8, (upd (upd (upd (upd (upd (upd (upd (upd (Z8b) 0 v1) 1 v3) 2 v15) 3 v19) 4 v23) 5 v27) 6 v33) 7 v39), 100, false⟩ fun b42 m41 => k (.ptr b42 0) m41) False) False) False) False) False) False) False) False
def G79 := Gs [.i .i64, .a, .a] [.a] F79
def E48 : zZ := ext E79 79 G79
theorem S48 (w0 : World) : SP w0 E48 := xU (S79 w0) Tryz.func79 Tryz.call79 (by kernel_rfl) false (fun _ _ _ _ _ => by kernel_rfl)
def F48 (x_0 : Int) (v_1 : AV) (v_2 : AV) (m : Mem) (k : AV -> Int -> Mem -> Prop) : Prop :=
 kif (decide (x_0 < 1)) (k (.flat (.pointer none)) 1 m) (kif (decide (x_0 > 64)) (k (.flat (.pointer none)) 1 m) (xJ v_1 fun x1 => kif (decide (x1 > (IntKind.wrap .i64 (x_0 * 1024)))) (k (.flat (.pointer none)) 1 m) (xJ v_2 fun x2 => kif (decide (x2 > 4096)) (k (.flat (.pointer none)) 1 m) (F78  m fun c3 m4 => F79 x_0 v_1 v_2 m4 fun v5 m6 => kif (AV.one v5) (zQ m6 ⟨74, (upd (zC (Z74) 0 73 c3) 73 v5), 141, false⟩ fun b8 m7 => k (.ptr b8 0) 0 m7) False))))
def G48 := Gs [.i .i64, .a, .a] [.a, .i .i64] F48
def E49 : zZ := ext E48 48 G48
theorem S49 (w0 : World) : SP w0 E49 := xU (S48 w0) Tryz.func48 Tryz.call48 (by kernel_rfl) false (fun _ _ _ _ _ => by kernel_rfl)
def F49 (b_0 o_0 : Nat) (m : Mem) (k : (Nat -> AV) -> Mem -> Prop) : Prop :=
 zQ m ⟨73, Z73, 46, false⟩ fun b2 m1 => yN 73 m1 b_0 (o_0 + 0) fun c3 => vA 73 m1 b2 0 c3 fun m4 => yN 73 m4 b2 0 fun c5 => (zA m m4 /\ xZ 73 m c5 /\ k c5 m)
def G49 := Gs [.p] [.g 73] F49
def E50 : zZ := ext E49 49 G49
theorem S50 (w0 : World) : SP w0 E50 := xU (S49 w0) Tryz.func49 Tryz.call49 (by kernel_rfl) true (fun _ _ _ _ => by kernel_rfl)
def F50 (b_0 o_0 : Nat) (m : Mem) (k : AV -> Mem -> Prop) : Prop :=
 ldA m b_0 (o_0 + 73) fun v1 => k v1 m
def G50 := Gs [.p] [.a] F50
def E51 : zZ := ext E50 50 G50
theorem S51 (w0 : World) : SP w0 E51 := xU (S50 w0) Tryz.func50 Tryz.call50 (by kernel_rfl) false (fun _ _ _ _ => by kernel_rfl)
def F51 (x_0 : Int) (m : Mem) (k : AV -> Mem -> Prop) : Prop :=
 zCd m fun b1 m2 => zQ m2 ⟨3, (upd (upd (zH [(.flat (.int .i64 0)), (.flat (.slice none 0 0)), (.flat (.map none))]) 0 (.flat (.int .i64 (if (if 256 < x_0 then 256 else x_0) > 1 then (if 256 < x_0 then 256 else x_0) else 1)))) 2 (.mp b1)), 145, false⟩ fun b4 m3 => k (.ptr b4 0) m3
def G51 := Gs [.i .i64] [.a] F51
def E34 : zZ := ext E51 51 G51
theorem S34 (w0 : World) : SP w0 E34 := xU (S51 w0) Tryz.func51 Tryz.call51 (by kernel_rfl) false (fun _ _ _ => by kernel_rfl)
def F34 (x_0 : Int) (v_1 : AV) (v_2 : AV) (x_3 : Int) (m : Mem) (k : AV -> Int -> Mem -> Prop) : Prop :=
 F48 x_0 v_1 v_2 m fun v1 x2 m3 => kif (x2 != 0) (k (.flat (.pointer none)) x2 m3) (yD v1 fun b4 o5 => F49 b4 o5 m3 fun c6 m7 => yD v1 fun b8 o9 => F50 b8 o9 m7 fun v10 m11 => F51 x_3 m11 fun v12 m13 => kif (AV.one v10) (kif (AV.one v12) (zQ m13 ⟨78, (upd (upd (upd (zC (Z78) 0 73 c6) 73 v10) 74 v12) 75 (.flat (.int .i64 32))), 82, false⟩ fun b15 m14 => k (.ptr b15 0) 0 m14) False) False)
def G34 := Gs [.i .i64, .a, .a, .i .i64] [.a, .i .i64] F34
def E23 : zZ := ext E34 34 G34
theorem S23 (w0 : World) : SP w0 E23 := xU (S34 w0) Tryz.func34 Tryz.call34 (by kernel_rfl) false (fun _ _ _ _ _ _ => by kernel_rfl)
def F23 (v_0 : AV) (v_1 : AV) (x_2 : Int) (m : Mem) (k : AV -> Mem -> Prop) : Prop :=
 F33 v_0 (.flat (.slice none 0 0)) m fun v1 m2 => F34 4 v1 v_1 x_2 m2 fun v3 x4 m5 => pZ v3 fun x6 => kif x6 (k (.flat (.pointer none)) m5) (kif (x4 != 0) (k (.flat (.pointer none)) m5) (yD v3 fun b7 o8 => F29 b7 o8 m5 fun v9 m10 => pZ v9 fun x11 => kif x11 (k (.flat (.pointer none)) m10) (yD v3 fun b12 o13 => F29 b12 o13 m10 fun v14 m15 => yD v14 fun b16 o17 => F30 b16 o17 m15 fun v18 m19 => pZ v18 fun x20 => kif x20 (k (.flat (.pointer none)) m19) (k v3 m19))))
def G23 := Gs [.a, .a, .i .i64] [.a] F23
def E24 : zZ := ext E23 23 G23
theorem S24 (w0 : World) : SP w0 E24 := xU (S23 w0) Tryz.func23 Tryz.call23 (by kernel_rfl) false (fun _ _ _ _ _ => by kernel_rfl)
def F24 (b_0 o_0 : Nat) (x_1 : Int) (m : Mem) (k : Mem -> Prop) : Prop :=
 wF m b_0 (o_0 + 75) (.flat (.int .i64 (if (if 32 < x_1 then 32 else x_1) > 1 then (if 32 < x_1 then 32 else x_1) else 1))) fun m1 => k  m1
def G24 := Gs [.p, .i .i64] [] F24
def E55 : zZ := ext E24 24 G24
theorem S55 (w0 : World) : SP w0 E55 := xU (S24 w0) Tryz.func24 Tryz.call24 (by kernel_rfl) false (fun _ _ _ _ _ => by kernel_rfl)
def zGh (b_0 o_0 : Nat) (v_9 : AV) (x_10 : Int) (v_3 : AV) (x_11 : Int) (m : Mem) (kn : AV -> Int -> Mem -> Prop) (k0 : AV -> Mem -> Prop) : Prop :=
 kif (decide (x_11 < x_10)) (vD v_9 fun b3 o4 l5 p6 => kif (decide (0 <= x_11) && decide (x_11 < l5)) (ldB m b3 (o4 + (x_11).toNat * 1) fun x7 => kif x7 (zQ m ⟨1, upd (zH [(.flat (.int .i64 0))]) 0 (.flat (.int .i64 x_11)), 3, false⟩ fun b9 m8 => uB 1 8 3 v_3 (.sl b9 0 1 (.ex 1)) m8 fun v10 m11 => ldA m11 b_0 (o_0 + 2) fun v12 => vD v12 fun b13 o14 l15 p16 => kif (decide (0 <= x_11) && decide (x_11 < l15)) (wF m11 b13 (o14 + (x_11).toNat * 1) (.flat (.bool false)) fun m17 => kn v10 (IntKind.wrap .i64 (x_11 + 1)) m17) False) (kn v_3 (IntKind.wrap .i64 (x_11 + 1)) m)) False) (k0 v_3 m)
def zQh (b_0 o_0 : Nat) (v_9 : AV) (x_10 : Int) : Nat -> AV -> Int -> Mem -> (AV -> Mem -> Prop) -> Prop
 | 0, _, _,  _, _ => yT False
 | N + 1, v_3, x_11,  m, k0 => zGh b_0 o_0 v_9 x_10 v_3 x_11 m (fun v_3' x_11' m' => zQh b_0 o_0 v_9 x_10 N v_3' x_11' m' k0) k0
def F55 (b_0 o_0 : Nat) (m : Mem) (k : AV -> Mem -> Prop) : Prop :=
 ldA m b_0 (o_0 + 2) fun v1 => xJ v1 fun x2 => ∃ N20, zQh b_0 o_0 v1 x2 N20 (.flat (.slice none 0 0)) 0 m (fun v18 m19 => k v18 m19)
def G55 := Gs [.p] [.a] F55
def yM7 : LpD := ⟨[0, 9, 10], [.p, .a, .i .i64], [3, 11], [.a, .i .i64], [⟨.exit 0, [3], [.a], []⟩], zGh, zQh⟩
def yMo : LEnv := yB [(3, pY yM7)] [] [] []
theorem yKi : yI Tryz.prog E55 yMo (wP (zE Tryz.f55) 0) := xM yM7 (fun _ _ _ => by kernel_rfl) (by kernel_rfl) (fun _ _ _ _ _ _ _ _ _ => by kernel_rfl) (fun _ _ _ _ _ _ _ _ _ _ => by kernel_rfl) (fun _ _ _ _ _ _ _ _ _ => by kernel_rfl)
def E39 : zZ := ext E55 55 G55
theorem S39 (w0 : World) : SP w0 E39 := sg (S55 w0) Tryz.func55 Tryz.call55 (Λ := yMo) 1 ⟨yKi, trivial⟩ 0 trivial (by kernel_rfl) false (fun _ _ _ _ => by kernel_rfl)
def zWj (b_0 o_0 : Nat) (v_9 : AV) (x_10 : Int) (x_11 : Int) (m : Mem) (kn : Int -> Mem -> Prop) (k0 : Mem -> Prop) : Prop :=
 kif (decide (x_11 < x_10)) (vD v_9 fun b11 o12 l13 p14 => kif (decide (0 <= x_11) && decide (x_11 < l13)) (zR .i64 m b11 (o12 + (x_11).toNat * 1) fun x15 => ldA m b_0 (o_0 + 74) fun v16 => yT False) False) (k0  m)
def yB6 (b_0 o_0 : Nat) (v_9 : AV) (x_10 : Int) : Nat -> Int -> Mem -> (Mem -> Prop) -> Prop
 | 0, _,  _, _ => yT False
 | N + 1, x_11,  m, k0 => zWj b_0 o_0 v_9 x_10 x_11 m (fun x_11' m' => yB6 b_0 o_0 v_9 x_10 N x_11' m' k0) k0
def F39 (b_0 o_0 : Nat) (m : Mem) (k : Mem -> Prop) : Prop :=
 ldA m b_0 (o_0 + 73) fun v1 => yD v1 fun b2 o3 => F30 b2 o3 m fun v4 m5 => yD v4 fun b6 o7 => F55 b6 o7 m5 fun v8 m9 => xJ v8 fun x10 => ∃ N18, yB6 b_0 o_0 v8 x10 N18 0 m9 (fun m17 => k  m17)
def G39 := Gs [.p] [] F39
def yMc : LpD := ⟨[0, 9, 10], [.p, .a, .i .i64], [11], [.i .i64], [⟨.exit 0, [], [], []⟩], zWj, yB6⟩
def yLw : LEnv := yB [(1, pY yMc)] [] [] []
theorem yHr : yI Tryz.prog E39 yLw (wP (zE Tryz.f39) 0) := xM yMc (fun _ _ _ => by kernel_rfl) (by kernel_rfl) (fun _ _ _ _ _ _ _ _ => by kernel_rfl) (fun _ _ _ _ _ _ _ _ _ => by kernel_rfl) (fun _ _ _ _ _ _ _ _ => by kernel_rfl)
def E89 : zZ := ext E39 39 G39
theorem S89 (w0 : World) : SP w0 E89 := sg (S39 w0) Tryz.func39 Tryz.call39 (Λ := yLw) 1 ⟨yHr, trivial⟩ 0 trivial (by kernel_rfl) false (fun _ _ _ _ => by kernel_rfl)
def F89 (b_0 o_0 : Nat) (m : Mem) (k : Int -> Bool -> Mem -> Prop) : Prop :=
 ldA m b_0 (o_0 + 0) fun v1 => xJ v1 fun x2 => kif (x2 == 0) ((zA m m /\ k 0 false m)) (ldA m b_0 (o_0 + 0) fun v3 => vD v3 fun b4 o5 l6 p7 => kif (decide (0 <= (0 : Int)) && decide ((0 : Int) < l6)) (zR .i64 m b4 (o5 + 0 + 0) fun x8 => (zA m m /\ k x8 true m)) False)
def G89 := Gs [.p] [.i .i64, .b] F89
def E58 : zZ := ext E89 89 G89
theorem S58 (w0 : World) : SP w0 E58 := xU (S89 w0) Tryz.func89 Tryz.call89 (by kernel_rfl) true (fun _ _ _ _ => by kernel_rfl)
def F58 (b_0 o_0 : Nat) (m : Mem) (k : Int -> Bool -> Mem -> Prop) : Prop :=
 ldA m b_0 (o_0 + 1) fun v1 => yD v1 fun b2 o3 => F89 b2 o3 m fun x4 x5 m6 => (zA m m6 /\ k x4 x5 m)
def G58 := Gs [.p] [.i .i64, .b] F58
def E59 : zZ := ext E58 58 G58
theorem S59 (w0 : World) : SP w0 E59 := xU (S58 w0) Tryz.func58 Tryz.call58 (by kernel_rfl) true (fun _ _ _ _ => by kernel_rfl)
def F59 (b_0 o_0 : Nat) (x_1 : Bool) (m : Mem) (k : Mem -> Prop) : Prop :=
 zR .u32 m b_0 (o_0 + 39 + 13) fun x1 => wF m b_0 (o_0 + 39 + 13) (.flat (.int .u32 (bits .andNot .u32 x1 1024))) fun m2 => kif x_1 (zR .u32 m2 b_0 (o_0 + 39 + 13) fun x3 => wF m2 b_0 (o_0 + 39 + 13) (.flat (.int .u32 (bits .or .u32 x3 1024))) fun m4 => k  m4) (k  m2)
def G59 := Gs [.p, .b] [] F59
def E90 : zZ := ext E59 59 G59
theorem S90 (w0 : World) : SP w0 E90 := xU (S59 w0) Tryz.func59 Tryz.call59 (by kernel_rfl) false (fun _ _ _ _ _ => by kernel_rfl)
def F90 (b_0 o_0 : Nat) (m : Mem) (k : Bool -> Mem -> Prop) : Prop :=
 zR .u32 m b_0 (o_0 + 0) fun x1 => zR .u32 m b_0 (o_0 + 1) fun x2 => (zA m m /\ k ((bits .and .u32 x1 x2) != 0) m)
def G90 := Gs [.p] [.b] F90
def E60 : zZ := ext E90 90 G90
theorem S60 (w0 : World) : SP w0 E60 := xU (S90 w0) Tryz.func90 Tryz.call90 (by kernel_rfl) true (fun _ _ _ _ => by kernel_rfl)
def F60 (b_0 o_0 : Nat) (m : Mem) (k : Bool -> Mem -> Prop) : Prop :=
 ldA m b_0 (o_0 + 2) fun v1 => yD v1 fun b2 o3 => F90 b2 o3 m fun x4 m5 => (zA m m5 /\ k x4 m)
def G60 := Gs [.p] [.b] F60
def E73 : zZ := ext E60 60 G60
theorem S73 (w0 : World) : SP w0 E73 := xU (S60 w0) Tryz.func60 Tryz.call60 (by kernel_rfl) true (fun _ _ _ _ => by kernel_rfl)
def F73 (b_0 o_0 : Nat) (m : Mem) (k : Bool -> Mem -> Prop) : Prop :=
 zR .u32 m b_0 (o_0 + 39 + 13) fun x1 => zR .u32 m b_0 (o_0 + 39 + 12) fun x2 => (zA m m /\ k ((bits .and .u32 (bits .and .u32 x1 65280) (bits .and .u32 x2 65280)) != 0) m)
def G73 := Gs [.p] [.b] F73
def E61 : zZ := ext E73 73 G73
theorem S61 (w0 : World) : SP w0 E61 := xU (S73 w0) Tryz.func73 Tryz.call73 (by kernel_rfl) true (fun _ _ _ _ => by kernel_rfl)
def F61 (b_0 o_0 : Nat) (m : Mem) (k : Bool -> Mem -> Prop) : Prop :=
 F73 b_0 o_0 m fun x1 m2 => kif x1 (zR .u32 m2 b_0 (o_0 + 39 + 12) fun x3 => kif ((bits .and .u32 x3 1) != 0) (zR .u32 m2 b_0 (o_0 + 39 + 12) fun x4 => (zA m m2 /\ k ((bits .and .u32 x4 2) == 0) m)) ((zA m m2 /\ k false m))) ((zA m m2 /\ k false m))
def G61 := Gs [.p] [.b] F61
def E40 : zZ := ext E61 61 G61
theorem S40 (w0 : World) : SP w0 E40 := xU (S61 w0) Tryz.func61 Tryz.call61 (by kernel_rfl) true (fun _ _ _ _ => by kernel_rfl)
def F40 (b_0 o_0 : Nat) (m : Mem) (k : Bool -> Mem -> Prop) : Prop :=
 ldA m b_0 (o_0 + 73) fun v1 => yD v1 fun b2 o3 => F58 b2 o3 m fun x4 x5 m6 => ldA m6 b_0 (o_0 + 73) fun v7 => yD v7 fun b8 o9 => F60 b8 o9 m6 fun x10 m11 => F59 b_0 (o_0 + 0) x10 m11 fun m12 => kif x5 (zR .i64 m12 b_0 (o_0 + 0 + 72) fun x13 => kif (decide (x4 <= x13)) (k true m12) (ldB m12 b_0 (o_0 + 0 + 71) fun x14 => kif x14 (k true m12) (F61 b_0 (o_0 + 0) m12 fun x15 m16 => k x15 m16))) (ldB m12 b_0 (o_0 + 0 + 71) fun x17 => kif x17 (k true m12) (F61 b_0 (o_0 + 0) m12 fun x18 m19 => k x18 m19))
def G40 := Gs [.p] [.b] F40
def E91 : zZ := ext E40 40 G40
theorem S91 (w0 : World) : SP w0 E91 := xU (S40 w0) Tryz.func40 Tryz.call40 (by kernel_rfl) false (fun _ _ _ _ => by kernel_rfl)
def F91 (b_0 o_0 : Nat) (m : Mem) (k : Bool -> Mem -> Prop) : Prop :=
 zR .u32 m b_0 (o_0 + 39 + 12) fun x1 => kif ((bits .and .u32 x1 16) != 0) (zR .u32 m b_0 (o_0 + 39 + 12) fun x2 => (zA m m /\ k ((bits .and .u32 x2 2) == 0) m)) ((zA m m /\ k false m))
def G91 := Gs [.p] [.b] F91
def yQx : zZ := ext E91 91 G91
theorem xCm (w0 : World) : SP w0 yQx := xU (S91 w0) Tryz.func91 Tryz.call91 (by kernel_rfl) true (fun _ _ _ _ => by kernel_rfl)
def zLw (b_0 o_0 : Nat) (x_1 : Int) (c_13 : Nat -> AV) (x_5 : Int) (x_14 : Int) (m : Mem) (kn : Int -> Int -> Mem -> Prop) (k0 : Int -> Mem -> Prop) : Prop :=
 kif (decide (x_14 < 8)) (kif (decide (0 <= x_14) && decide (x_14 < 8)) (kite ((x_14).toNat * 2 + 2 <= 16) (zQ m ⟨2, zH [(.flat (.int .u32 0)), (.flat (.int .u32 0))], 43, false⟩ fun b3 m2 => vA 2 m2 b3 0 (sub c_13 ((x_14).toNat * 2) 2) fun m4 => zR .u32 m4 b3 0 fun x5 => kif ((bits .and .u32 (bits .xor .u32 x5 x_1) 4294966272) != 0) (kn x_5 (IntKind.wrap .i64 (x_14 + 1)) m4) (zR .u32 m4 b3 1 fun x6 => kif ((bits .and .u32 x6 4) != 0) (k0 x_14 m4) (zR .u32 m4 b3 0 fun x7 => zR .u32 m4 b_0 (o_0 + 39 + 10) fun x8 => kif ((bits .and .u32 (bits .xor .u32 x7 x8) 255) == 0) (k0 x_14 m4) (kn x_5 (IntKind.wrap .i64 (x_14 + 1)) m4)))) False) False) (k0 x_5 m)
def fF (b_0 o_0 : Nat) (x_1 : Int) (c_13 : Nat -> AV) : Nat -> Int -> Int -> Mem -> (Int -> Mem -> Prop) -> Prop
 | 0, _, _,  _, _ => yT False
 | N + 1, x_5, x_14,  m, k0 => zLw b_0 o_0 x_1 c_13 x_5 x_14 m (fun x_5' x_14' m' => fF b_0 o_0 x_1 c_13 N x_5' x_14' m' k0) k0
def yIj (b_0 o_0 : Nat) (x_1 : Int) (m : Mem) (k : Int -> Mem -> Prop) : Prop :=
 yN 16 m b_0 (o_0 + 55) fun c1 => ∃ N11, fF b_0 o_0 x_1 c1 N11 (-1) 0 m (fun x9 m10 => (zA m m10 /\ k x9 m))
def xEs := Gs [.p, .i .u32] [.i .i64] yIj
def yCs : LpD := ⟨[0, 1, 13], [.p, .i .u32, .g 16], [5, 14], [.i .i64, .i .i64], [⟨.exit 0, [5], [.i .i64], []⟩], zLw, fF⟩
def yCa : LEnv := yB [(5, pY yCs)] [] [] []
theorem yBt : yI Tryz.prog yQx yCa (wP (zE Tryz.f121) 0) := xM yCs (fun _ _ _ => by kernel_rfl) (by kernel_rfl) (fun _ _ _ _ _ _ _ _ _ => by kernel_rfl) (fun _ _ _ _ _ _ _ _ _ _ => by kernel_rfl) (fun _ _ _ _ _ _ _ _ _ => by kernel_rfl)
def E92 : zZ := ext yQx 121 xEs
theorem S92 (w0 : World) : SP w0 E92 := sg (xCm w0) Tryz.func121 Tryz.call121 (Λ := yCa) 1 ⟨yBt, trivial⟩ 0 trivial (by kernel_rfl) true (fun _ _ _ _ _ => by kernel_rfl)
def mA (x_1 : Int) (x_11 : Int) (x_38 : Bool) (m : Mem) (kr : Int -> Int -> Bool -> Mem -> Prop) : Prop :=
 kif x_38 (kr 0 1 false m) (kr (bits .or .u32 (bits .and .u32 x_11 4294966272) (bits .and .u32 x_1 1023)) (-1) false m)
def kZ (b_0 o_0 : Nat) (x_1 : Int) (x_2 : Bool) (x_9 : Int) (m : Mem) (kr : Int -> Int -> Bool -> Mem -> Prop) : Prop :=
 yIj b_0 o_0 x_1 m fun x1 m2 => kif (decide (x1 < 0)) (kr 0 x_9 true m2) (kif (decide (0 <= x1) && decide (x1 < 8)) (zR .u32 m2 b_0 (o_0 + 55 + (x1).toNat * 2 + 1) fun x3 => kif ((bits .and .u32 x3 1) == 0) (kr 0 x_9 false m2) (kif x_2 (mA x_1 x3 ((bits .and .u32 x3 2) == 0) m2 (fun x4 x5 x6 m7 => kr x4 x5 x6 m7)) (mA x_1 x3 false m2 (fun x8 x9 x10 m11 => kr x8 x9 x10 m11)))) False)
def F92 (b_0 o_0 : Nat) (x_1 : Int) (x_2 : Bool) (m : Mem) (k : Int -> Int -> Bool -> Mem -> Prop) : Prop :=
 kif x_2 (kZ b_0 o_0 x_1 x_2 3 m (fun x12 x13 x14 m15 => (zA m m15 /\ k x12 x13 x14 m))) (kZ b_0 o_0 x_1 x_2 2 m (fun x16 x17 x18 m19 => (zA m m19 /\ k x16 x17 x18 m)))
def G92 := Gs [.p, .i .u32, .b] [.i .u32, .i .i64, .b] F92
def zNq : PcD := ⟨[0, 1, 2, 9], [.p, .i .u32, .b, .i .i64], [⟨.ret, [6, 7, 8], [.i .u32, .i .i64, .b], []⟩], kZ⟩
def zGd : PcD := ⟨[1, 11, 38], [.i .u32, .i .u32, .b], [⟨.ret, [6, 7, 8], [.i .u32, .i .i64, .b], []⟩], mA⟩
def zQ3 : LEnv := yB [] [] [6102, 14004] [(6102, xK zNq), (14004, xK zGd)]
theorem zM6 : zF Tryz.prog E92 zQ3 (zY zQ3 (zE Tryz.f92) 1) := zN zGd (fun _ _ _ => by kernel_rfl) (by kernel_rfl) (fun _ _ _ _ _ => by kernel_rfl)
theorem zR2 : zF Tryz.prog E92 zQ3 (zY zQ3 (zE Tryz.f92) 0) := zN zNq (fun _ _ _ => by kernel_rfl) (by kernel_rfl) (fun _ _ _ _ _ _ _ => by kernel_rfl)
def E62 : zZ := ext E92 92 G92
theorem S62 (w0 : World) : SP w0 E62 := sg (S92 w0) Tryz.func92 Tryz.call92 (Λ := zQ3) 0 trivial 2 ⟨zR2, zM6, trivial⟩ (by kernel_rfl) true (fun _ _ _ _ _ _ => by kernel_rfl)
def rE (b_0 o_0 : Nat) (x_1 : Int) (x_3 : Bool) (m : Mem) (kr : Int -> Int -> Bool -> Mem -> Prop) : Prop :=
 F92 b_0 o_0 x_1 x_3 m fun x18 x19 x20 m21 => kr x18 x19 x20 m21
def nN (b_0 o_0 : Nat) (x_1 : Int) (x_3 : Bool) (x_11 : Int) (x_21 : Bool) (m : Mem) (kr : Int -> Int -> Bool -> Mem -> Prop) (kn : Mem -> Prop) : Prop :=
 kif x_21 (kr 0 x_11 false m) (kif (decide (x_1 >= 2147483648)) (kif (decide (x_1 < 3221225472)) (kr (bits .and .u32 x_1 536870911) (-1) false m) (kn  m)) (kn  m))
def nA (b_0 o_0 : Nat) (x_1 : Int) (x_2 : Int) (x_3 : Bool) (x_11 : Int) (m : Mem) (kr : Int -> Int -> Bool -> Mem -> Prop) : Prop :=
 kif (decide (IntKind.wrap .u32 x_2 = 0)) False (kif ((x_1.tmod (IntKind.wrap .u32 x_2)) != 0) (nN b_0 o_0 x_1 x_3 x_11 true m (fun x3 x4 x5 m6 => kr x3 x4 x5 m6) (fun m7 => rE b_0 o_0 x_1 x_3 m7 (fun x22 x23 x24 m25 => kr x22 x23 x24 m25))) (kif (decide (x_1 >= 2147483648)) (F91 b_0 o_0 m fun x1 m2 => nN b_0 o_0 x_1 x_3 x_11 x1 m2 (fun x8 x9 x10 m11 => kr x8 x9 x10 m11) (fun m12 => rE b_0 o_0 x_1 x_3 m12 (fun x26 x27 x28 m29 => kr x26 x27 x28 m29))) (nN b_0 o_0 x_1 x_3 x_11 false m (fun x13 x14 x15 m16 => kr x13 x14 x15 m16) (fun m17 => rE b_0 o_0 x_1 x_3 m17 (fun x30 x31 x32 m33 => kr x30 x31 x32 m33)))))
def kF (b_0 o_0 : Nat) (x_1 : Int) (x_2 : Int) (x_3 : Bool) (x_11 : Int) (m : Mem) (kr : Int -> Int -> Bool -> Mem -> Prop) : Prop :=
 kif (x_2 != 1) (kif (x_2 != 2) (nA b_0 o_0 x_1 4 x_3 x_11 m (fun x34 x35 x36 m37 => kr x34 x35 x36 m37)) (nA b_0 o_0 x_1 x_2 x_3 x_11 m (fun x38 x39 x40 m41 => kr x38 x39 x40 m41))) (nA b_0 o_0 x_1 x_2 x_3 x_11 m (fun x42 x43 x44 m45 => kr x42 x43 x44 m45))
def F62 (b_0 o_0 : Nat) (x_1 : Int) (x_2 : Int) (x_3 : Bool) (m : Mem) (k : Int -> Int -> Bool -> Mem -> Prop) : Prop :=
 kif x_3 (kF b_0 o_0 x_1 x_2 x_3 5 m (fun x46 x47 x48 m49 => (zA m m49 /\ k x46 x47 x48 m))) (kF b_0 o_0 x_1 x_2 x_3 4 m (fun x50 x51 x52 m53 => (zA m m53 /\ k x50 x51 x52 m)))
def G62 := Gs [.p, .i .u32, .i .i64, .b] [.i .u32, .i .i64, .b] F62
def zOj : PcD := ⟨[0, 1, 2, 3, 11], [.p, .i .u32, .i .i64, .b, .i .i64], [⟨.ret, [8, 9, 10], [.i .u32, .i .i64, .b], []⟩], kF⟩
def zQq : PcD := ⟨[0, 1, 2, 3, 11], [.p, .i .u32, .i .i64, .b, .i .i64], [⟨.ret, [8, 9, 10], [.i .u32, .i .i64, .b], []⟩], nA⟩
def zMj : PcD := ⟨[0, 1, 3, 11, 21], [.p, .i .u32, .b, .i .i64, .b], [⟨.ret, [8, 9, 10], [.i .u32, .i .i64, .b], []⟩, ⟨.normal, [], [], [0, 1, 3]⟩], nN⟩
def zGx : PcD := ⟨[0, 1, 3], [.p, .i .u32, .b], [⟨.ret, [8, 9, 10], [.i .u32, .i .i64, .b], []⟩], rE⟩
def dO : LEnv := yB [] [] [6103, 8105, 9004, 12102] [(6103, xK zOj), (8105, xK zQq), (9004, xK zMj), (12102, xK zGx)]
theorem zMw : zF Tryz.prog E62 dO (zY dO (zE Tryz.f62) 2) := zN zGx (fun _ _ _ => by kernel_rfl) (by kernel_rfl) (fun _ _ _ _ _ _ => by kernel_rfl)
theorem zTs : zF Tryz.prog E62 dO (zY dO (zE Tryz.f62) 3) := zN zMj (fun _ _ _ => by kernel_rfl) (by kernel_rfl) (fun _ _ _ _ _ _ _ _ => by kernel_rfl)
theorem zTp : zF Tryz.prog E62 dO (zY dO (zE Tryz.f62) 1) := zN zQq (fun _ _ _ => by kernel_rfl) (by kernel_rfl) (fun _ _ _ _ _ _ _ _ => by kernel_rfl)
theorem zTb : zF Tryz.prog E62 dO (zY dO (zE Tryz.f62) 0) := zN zOj (fun _ _ _ => by kernel_rfl) (by kernel_rfl) (fun _ _ _ _ _ _ _ _ => by kernel_rfl)
def E64 : zZ := ext E62 62 G62
theorem S64 (w0 : World) : SP w0 E64 := sg (S62 w0) Tryz.func62 Tryz.call62 (Λ := dO) 0 trivial 4 ⟨zTb, zTp, zMw, zTs, trivial⟩ (by kernel_rfl) true (fun _ _ _ _ _ _ _ => by kernel_rfl)
def F64 (b_0 o_0 : Nat) (m : Mem) (k : Int -> Mem -> Prop) : Prop :=
 zR .u32 m b_0 (o_0 + 39 + 10) fun x1 => F91 b_0 o_0 m fun x2 m3 => kif x2 ((zA m m3 /\ k (IntKind.wrap .i64 ((IntKind.wrap .i64 (bits .and .u32 x1 255)) + 256)) m)) ((zA m m3 /\ k (IntKind.wrap .i64 (bits .and .u32 x1 255)) m))
def G64 := Gs [.p] [.i .i64] F64
def yPw : zZ := ext E64 64 G64
theorem xAy (w0 : World) : SP w0 yPw := xU (S64 w0) Tryz.func64 Tryz.call64 (by kernel_rfl) true (fun _ _ _ _ => by kernel_rfl)
def cH (v_0 : AV) (b_3 o_3 : Nat) (x_7 : Int) (x_8 : Int) (m : Mem) (kn : Int -> Mem -> Prop) (k0 : Mem -> Prop) (kr : Int -> Mem -> Prop) : Prop :=
 kif (decide (x_8 < x_7)) (yN 3 m b_3 o_3 fun c4 => vD v_0 fun b5 o6 l7 p8 => kif (decide (0 <= x_8) && decide (x_8 < l7)) (yN 3 m b5 (o6 + (x_8).toNat * 3) fun c9 => geq zE3 c4 c9 fun x10 => kif x10 (kr x_8 m) (kn (IntKind.wrap .i64 (x_8 + 1)) m)) False) (k0  m)
def zJt (v_0 : AV) (b_3 o_3 : Nat) (x_7 : Int) : Nat -> Int -> Mem -> (Mem -> Prop) -> (Int -> Mem -> Prop) -> Prop
 | 0, _,  _, _, _ => yT False
 | N + 1, x_8,  m, k0, kr => cH v_0 b_3 o_3 x_7 x_8 m (fun x_8' m' => zJt v_0 b_3 o_3 x_7 N x_8' m' k0 kr) k0 kr
def yIk (v_0 : AV) (c_1 : Nat -> AV) (m : Mem) (k : Int -> Mem -> Prop) : Prop :=
 zQ m ⟨3, c_1, 125, false⟩ fun b2 m1 => xJ v_0 fun x3 => ∃ N14, zJt v_0 b2 0 x3 N14 0 m1 (fun m11 => (zA m m11 /\ k (-1) m)) (fun x12 m13 => (zA m m13 /\ k x12 m))
def xEn := Gs [.a, .g 3] [.i .i64] yIk
def yFi : LpD := ⟨[0, 3, 7], [.a, .p, .i .i64], [8], [.i .i64], [⟨.exit 0, [], [], []⟩, ⟨.ret, [4], [.i .i64], []⟩], cH, zJt⟩
def yFf : LEnv := yB [(2, pY yFi)] [] [] []
theorem yEx : yI Tryz.prog yPw yFf (wP (zE Tryz.f119) 0) := xM yFi (fun _ _ _ => by kernel_rfl) (by kernel_rfl) (fun _ _ _ _ _ _ _ _ => by kernel_rfl) (fun _ _ _ _ _ _ _ _ _ => by kernel_rfl) (fun _ _ _ _ _ _ _ _ => by kernel_rfl)
def yS7 : zZ := ext yPw 119 xEn
theorem xB3 (w0 : World) : SP w0 yS7 := sg (xAy w0) Tryz.func119 Tryz.call119 (Λ := yFf) 1 ⟨yEx, trivial⟩ 0 trivial (by kernel_rfl) true (fun _ _ _ _ => by kernel_rfl)
def yBs (v_0 : AV) (x_1 : Int) (x_2 : Int) (m : Mem) (k : AV -> Mem -> Prop) : Prop :=
 xJ v_0 fun x1 => slM v_0 (some x_1) (some x_2) (some x1) (kif (x_1 == x_2) (k v_0 m) (xJ v_0 fun x2 => qH 3 v_0 none (some x_1) fun v3 => qH 3 v_0 (some x_2) none fun v4 => uB 3 24 125 v3 v4 m fun v5 m6 => xJ v5 fun x7 => qH 3 v5 (some x7) (some x2) fun v8 => oK [(.flat (.int .u32 0)), (.flat (.int .i64 0)), (.flat (.int .i64 0))] v8 m6 fun m9 => k v5 m9))
def xHa := Gs [.a, .i .i64, .i .i64] [.a] yBs
def E87 : zZ := ext yS7 120 xHa
theorem S87 (w0 : World) : SP w0 E87 := xU (xB3 w0) Tryz.func120 Tryz.call120 (by kernel_rfl) false (fun _ _ _ _ _ => by kernel_rfl)
def F87 (b_0 o_0 : Nat) (c_1 : Nat -> AV) (m : Mem) (k : Mem -> Prop) : Prop :=
 zQ m ⟨3, c_1, 125, false⟩ fun b2 m1 => ldA m1 b_0 (o_0 + 1) fun v3 => yN 3 m1 b2 0 fun c4 => yIk v3 c4 m1 fun x5 m6 => kif (decide (x5 >= 0)) (ldA m6 b_0 (o_0 + 1) fun v7 => yBs v7 x5 (IntKind.wrap .i64 (x5 + 1)) m6 fun v8 m9 => stV m9 b_0 (o_0 + 1) v8 fun m10 => k  m10) (k  m6)
def G87 := Gs [.p, .g 3] [] F87
def E65 : zZ := ext E87 87 G87
theorem S65 (w0 : World) : SP w0 E65 := xU (S87 w0) Tryz.func87 Tryz.call87 (by kernel_rfl) false (fun _ _ _ _ _ => by kernel_rfl)
def F65 (b_0 o_0 : Nat) (c_1 : Nat -> AV) (m : Mem) (k : (Nat -> AV) -> Bool -> Mem -> Prop) : Prop :=
 zQ m ⟨3, c_1, 125, false⟩ fun b2 m1 => zQ m1 ⟨4, zH [(.flat (.int .u32 0)), (.flat (.slice none 0 0)), (.flat (.slice none 0 0)), (.flat (.slice none 0 0))], 85, false⟩ fun b4 m3 => ldA m3 b_0 (o_0 + 2) fun v5 => yN 3 m3 b2 0 fun c6 => kU zE3 3 v5 c6 4 (zH [(.flat (.int .u32 0)), (.flat (.slice none 0 0)), (.flat (.slice none 0 0)), (.flat (.slice none 0 0))]) m3 fun c7 x8 => zQ m3 ⟨4, zH [(.flat (.int .u32 0)), (.flat (.slice none 0 0)), (.flat (.slice none 0 0)), (.flat (.slice none 0 0))], 85, false⟩ fun b10 m9 => vA 4 m9 b10 0 c7 fun m11 => kif x8 (yN 3 m11 b2 0 fun c12 => F87 b_0 o_0 c12 m11 fun m13 => ldA m13 b_0 (o_0 + 1) fun v14 => yN 3 m13 b2 0 fun c15 => zQ m13 ⟨3, zC (zH [(.flat (.int .u32 0)), (.flat (.int .i64 0)), (.flat (.int .i64 0))]) 0 3 c15, 125, false⟩ fun b17 m16 => uB 3 24 125 v14 (.sl b17 0 1 (.ex 1)) m16 fun v18 m19 => stV m19 b_0 (o_0 + 1) v18 fun m20 => yN 4 m20 b10 0 fun c21 => vA 4 m20 b4 0 c21 fun m22 => yN 4 m22 b4 0 fun c25 => k c25 x8 m22) (yN 4 m11 b10 0 fun c23 => vA 4 m11 b4 0 c23 fun m24 => yN 4 m24 b4 0 fun c26 => k c26 x8 m24)
def G65 := Gs [.p, .g 3] [.g 4, .b] F65
def E47 : zZ := ext E65 65 G65
theorem S47 (w0 : World) : SP w0 E47 := xU (S65 w0) Tryz.func65 Tryz.call65 (by kernel_rfl) false (fun _ _ _ _ _ => by kernel_rfl)
def F47 (b_0 o_0 : Nat) (x_1 : Int) (x_2 : Int) (m : Mem) (k : Bool -> Mem -> Prop) : Prop :=
 kif (x_2 == 1) (kif (decide (IntKind.wrap .u32 x_2 = 0)) False (kif ((x_1.tmod (IntKind.wrap .u32 x_2)) == 0) (F45 b_0 o_0 x_1 x_2 m fun x1 m2 => (zA m m2 /\ k x1 m)) ((zA m m /\ k false m)))) (kif (x_2 == 2) (kif (decide (IntKind.wrap .u32 x_2 = 0)) False (kif ((x_1.tmod (IntKind.wrap .u32 x_2)) == 0) (F45 b_0 o_0 x_1 x_2 m fun x3 m4 => (zA m m4 /\ k x3 m)) ((zA m m /\ k false m)))) (kif (x_2 == 4) (kif (decide (IntKind.wrap .u32 x_2 = 0)) False (kif ((x_1.tmod (IntKind.wrap .u32 x_2)) == 0) (F45 b_0 o_0 x_1 x_2 m fun x5 m6 => (zA m m6 /\ k x5 m)) ((zA m m /\ k false m)))) ((zA m m /\ k false m))))
def G47 := Gs [.p, .i .u32, .i .i64] [.b] F47
end Go.Proofs.YtkiggdgphbkneaaGreat.Am
