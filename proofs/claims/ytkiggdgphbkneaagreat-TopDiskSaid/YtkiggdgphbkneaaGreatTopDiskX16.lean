/- What Go functions ask of what follows them, as plain functions over the abstract machine; the machine asks just that. Written by gen.py. What Go functions ask of what follows them, as plain functions over the abstract machine; the machine asks just that. Writt -/
import Derived.Test.YtkiggdgphbkneaaGreatTopDiskX15
namespace Go.Proofs.YtkiggdgphbkneaaGreat.Am
set_option linter.unusedVariables false
set_option linter.unusedSimpArgs false
set_option linter.constructorNameAsVariable false
set_option maxRecDepth 100000
def yQi : zZ := ext yX8 224 xFb
theorem xBy (w0 : World) : SP w0 yQi := xU (xKr w0) Tryz.func224 Tryz.call224 (by kernel_rfl) true (fun _ _ _ => by kernel_rfl)
def rM (x_1 : Int) (x_2 : Int) (b_3 o_3 : Nat) (x_8 : Int) (x_63 : Bool) (m : Mem) (kr : Int -> Mem -> Prop) (kn : Mem -> Prop) : Prop :=
 kif x_63 (zR .i64 m b_3 (o_3 + 0) fun x7 => zFa x_1 x_2 (x7 == 12) m fun x8 m9 => yN7 x8 m9 fun x10 m11 => kr x10 m11) (kif (x_8 == 14) (kr (IntKind.wrap .u32 (x_1 * x_2)) m) (kif (x_8 == 15) (yO0 x_1 m fun x12 m13 => kr (IntKind.wrap .u32 x12) m13) (kif (x_8 == 16) (yOy x_1 m fun x14 m15 => kr (IntKind.wrap .u32 x14) m15) (kn  m))))
def yH5 (c_0 : Nat -> AV) (x_1 : Int) (x_2 : Int) (m : Mem) (k : Int -> Mem -> Prop) : Prop :=
 zQ m ⟨5, c_0, 224, false⟩ fun b2 m1 => zR .i64 m1 b2 0 fun x3 => kif (x3 == 1) (zR .u32 m1 b2 4 fun x4 => (zA m m1 /\ k x4 m)) (kif (x3 == 3) ((zA m m1 /\ k (IntKind.wrap .u32 (x_1 + x_2)) m)) (kif (x3 == 4) ((zA m m1 /\ k (IntKind.wrap .u32 (x_1 - x_2)) m)) (kif (x3 == 5) ((zA m m1 /\ k (bits .and .u32 x_1 x_2) m)) (kif (x3 == 6) ((zA m m1 /\ k (bits .or .u32 x_1 x_2) m)) (kif (x3 == 7) ((zA m m1 /\ k (bits .xor .u32 x_1 x_2) m)) (kif (x3 == 8) ((zA m m1 /\ k (bits .xor .u32 4294967295 (bits .or .u32 x_1 x_2)) m)) (kif (x3 == 9) (kif (decide (bits .and .u32 x_2 31 < 0)) False ((zA m m1 /\ k (IntKind.wrap .u32 (x_1 * 2 ^ min (bits .and .u32 x_2 31).toNat 32)) m))) (kif (x3 == 10) (kif (decide (bits .and .u32 x_2 31 < 0)) False ((zA m m1 /\ k (x_1.fdiv (2 ^ min (bits .and .u32 x_2 31).toNat 32)) m))) (kif (x3 == 11) (zXl x_1 (IntKind.wrap .i64 (bits .and .u32 x_2 31)) m1 fun x5 m6 => (zA m m6 /\ k x5 m)) (kif (x3 == 12) (rM x_1 x_2 b2 0 x3 (x3 == 12) m1 (fun x16 m17 => (zA m m17 /\ k x16 m)) (fun m18 => (zA m m18 /\ k x_1 m))) (rM x_1 x_2 b2 0 x3 (x3 == 13) m1 (fun x19 m20 => (zA m m20 /\ k x19 m)) (fun m21 => (zA m m21 /\ k x_1 m)))))))))))))
def xEi := Gs [.g 5, .i .u32, .i .u32] [.i .u32] yH5
def zDa : PcD := ⟨[1, 2, 3, 8, 63], [.i .u32, .i .u32, .p, .i .i64, .b], [⟨.ret, [6], [.i .u32], []⟩, ⟨.normal, [], [], [1]⟩], rM⟩
def zSj : LEnv := yB [] [] [24004] [(24004, xK zDa)]
theorem zKz : zF Tryz.prog yQi zSj (zY zSj (zE Tryz.f207) 0) := zN zDa (fun _ _ _ => by kernel_rfl) (by kernel_rfl) (fun _ _ _ _ _ _ _ _ => by kernel_rfl)
def yFe : zZ := ext yQi 207 xEi
theorem xBf (w0 : World) : SP w0 yFe := sg (xBy w0) Tryz.func207 Tryz.call207 (Λ := zSj) 0 trivial 1 ⟨zKz, trivial⟩ (by kernel_rfl) true (fun _ _ _ _ _ => by kernel_rfl)
def rH (b_0 o_0 : Nat) (b_3 o_3 : Nat) (x_4 : Int) (x_5 : Int) (x_72 : Bool) (m : Mem) (kn : Mem -> Prop) : Prop :=
 kif x_72 (kn  m) (∃ Fr19 : Nat -> Prop, Fr19 b_3 /\ (zR .i64 m b_3 (o_3 + 1) fun x20 => Fr19 b_3 /\ (yN 5 m b_3 o_3 fun c21 => yH5 c21 x_4 x_5 m fun x22 m23 => zV Fr19 m m23 /\ (kif (decide (0 <= x20) && decide (x20 < 40)) (wF m23 b_0 (o_0 + (x20).toNat * 1) (.flat (.int .u32 x22)) fun m24 => kn  m24) False))))
def jT (b_0 o_0 : Nat) (b_3 o_3 : Nat) (x_4 : Int) (x_5 : Int) (x_6 : Int) (x_51 : Bool) (m : Mem) (kn : Mem -> Prop) : Prop :=
 kif x_51 (yEk x_4 x_5 (x_6 == 19) m fun x13 x14 m15 => wF m15 b_0 (o_0 + 33) (.flat (.int .u32 x13)) fun m16 => wF m16 b_0 (o_0 + 32) (.flat (.int .u32 x14)) fun m17 => kn  m17) (kif (x_6 == 0) (rH b_0 o_0 b_3 o_3 x_4 x_5 true m (fun m25 => kn  m25)) (zR .i64 m b_3 (o_3 + 1) fun x18 => kif (x18 == 0) (rH b_0 o_0 b_3 o_3 x_4 x_5 true m (fun m26 => kn  m26)) (kif (x_6 == 21) (rH b_0 o_0 b_3 o_3 x_4 x_5 (!((x_5 == 0) == (x_6 == 21))) m (fun m27 => kn  m27)) (kif (x_6 == 22) (rH b_0 o_0 b_3 o_3 x_4 x_5 (!((x_5 == 0) == (x_6 == 21))) m (fun m28 => kn  m28)) (rH b_0 o_0 b_3 o_3 x_4 x_5 false m (fun m29 => kn  m29))))))
def iB (b_0 o_0 : Nat) (b_3 o_3 : Nat) (x_4 : Int) (x_5 : Int) (x_6 : Int) (x_30 : Bool) (m : Mem) (kn : Mem -> Prop) : Prop :=
 kif x_30 (yH9 x_4 x_5 (x_6 == 17) m fun x8 x9 m10 => wF m10 b_0 (o_0 + 32) (.flat (.int .u32 x8)) fun m11 => wF m11 b_0 (o_0 + 33) (.flat (.int .u32 x9)) fun m12 => kn  m12) (kif (x_6 == 19) (jT b_0 o_0 b_3 o_3 x_4 x_5 x_6 true m (fun m30 => kn  m30)) (jT b_0 o_0 b_3 o_3 x_4 x_5 x_6 (x_6 == 20) m (fun m31 => kn  m31)))
def yKn (b_0 o_0 : Nat) (c_1 : Nat -> AV) (m : Mem) (k : Mem -> Prop) : Prop :=
 zQ m ⟨5, c_1, 224, false⟩ fun b2 m1 => zR .i64 m1 b2 2 fun x3 => kif (decide (0 <= x3) && decide (x3 < 40)) (zR .u32 m1 b_0 (o_0 + (x3).toNat * 1) fun x4 => zR .i64 m1 b2 3 fun x5 => kif (decide (0 <= x5) && decide (x5 < 40)) (zR .u32 m1 b_0 (o_0 + (x5).toNat * 1) fun x6 => zR .i64 m1 b2 0 fun x7 => kif (x7 == 17) (iB b_0 o_0 b2 0 x4 x6 x7 true m1 (fun m32 => k  m32)) (iB b_0 o_0 b2 0 x4 x6 x7 (x7 == 18) m1 (fun m33 => k  m33))) False) False
def xBe := Gs [.p, .g 5] [] yKn
def zIu : PcD := ⟨[0, 3, 4, 5, 6, 30], [.p, .p, .i .u32, .i .u32, .i .i64, .b], [⟨.normal, [], [], []⟩], iB⟩
def zHm : PcD := ⟨[0, 3, 4, 5, 6, 51], [.p, .p, .i .u32, .i .u32, .i .i64, .b], [⟨.normal, [], [], []⟩], jT⟩
def zHk : PcD := ⟨[0, 3, 4, 5, 72], [.p, .p, .i .u32, .i .u32, .b], [⟨.normal, [], [], []⟩], rH⟩
def gS : LEnv := yB [] [3] [5004, 7004, 3004] [(5004, xK zIu), (7004, xK zHm), (3004, xK zHk)]
theorem zOu : zF Tryz.prog yFe gS (zY gS (zE Tryz.f170) 2) := zN zHk (fun _ _ _ => by kernel_rfl) (by kernel_rfl) (fun _ _ _ _ _ _ _ _ _ => by kernel_rfl)
theorem zMn : zF Tryz.prog yFe gS (zY gS (zE Tryz.f170) 1) := zN zHm (fun _ _ _ => by kernel_rfl) (by kernel_rfl) (fun _ _ _ _ _ _ _ _ _ _ => by kernel_rfl)
theorem zMt : zF Tryz.prog yFe gS (zY gS (zE Tryz.f170) 0) := zN zIu (fun _ _ _ => by kernel_rfl) (by kernel_rfl) (fun _ _ _ _ _ _ _ _ _ _ => by kernel_rfl)
def yNi : zZ := ext yFe 170 xBe
theorem xKm (w0 : World) : SP w0 yNi := sg (xBf w0) Tryz.func170 Tryz.call170 (Λ := gS) 0 trivial 3 ⟨zMt, zMn, zOu, trivial⟩ (by kernel_rfl) false (fun _ _ _ _ _ => by kernel_rfl)
def cS (b_0 o_0 : Nat) (v_16 : AV) (x_17 : Int) (x_18 : Int) (m : Mem) (kn : Int -> Mem -> Prop) (k0 : Mem -> Prop) : Prop :=
 kif (decide (x_18 < x_17)) (vD v_16 fun b5 o6 l7 p8 => kif (decide (0 <= x_18) && decide (x_18 < l7)) (yN 5 m b5 (o6 + (x_18).toNat * 5) fun c9 => zQ m ⟨5, zH [(.flat (.int .i64 0)), (.flat (.int .i64 0)), (.flat (.int .i64 0)), (.flat (.int .i64 0)), (.flat (.int .u32 0))], 224, false⟩ fun b11 m10 => vA 5 m10 b11 0 c9 fun m12 => yN 5 m12 b11 0 fun c13 => yKn b_0 o_0 c13 m12 fun m14 => kn (IntKind.wrap .i64 (x_18 + 1)) m14) False) (k0  m)
def zJo (b_0 o_0 : Nat) (v_16 : AV) (x_17 : Int) : Nat -> Int -> Mem -> (Mem -> Prop) -> Prop
 | 0, _,  _, _ => yT False
 | N + 1, x_18,  m, k0 => cS b_0 o_0 v_16 x_17 x_18 m (fun x_18' m' => zJo b_0 o_0 v_16 x_17 N x_18' m' k0) k0
def zYt (b_0 o_0 : Nat) (v_1 : AV) (m : Mem) (k : Bool -> Mem -> Prop) : Prop :=
 yL2 v_1 (.flat (.func (.func 168) #[] #[])) m fun x1 m2 => kif x1 (k false m2) (wF m2 b_0 (o_0 + 0) (.flat (.int .u32 0)) fun m3 => xJ v_1 fun x4 => ∃ N16, zJo b_0 o_0 v_1 x4 N16 0 m3 (fun m15 => k true m15))
def xK0 := Gs [.p, .a] [.b] zYt
def zZt : LpD := ⟨[0, 16, 17], [.p, .a, .i .i64], [18], [.i .i64], [⟨.exit 0, [], [], []⟩], cS, zJo⟩
def yEi : LEnv := yB [(5, pY zZt)] [] [] []
theorem yF6 : yI Tryz.prog yNi yEi (wP (zE Tryz.f127) 0) := xM zZt (fun _ _ _ => by kernel_rfl) (by kernel_rfl) (fun _ _ _ _ _ _ _ _ => by kernel_rfl) (fun _ _ _ _ _ _ _ _ _ => by kernel_rfl) (fun _ _ _ _ _ _ _ _ => by kernel_rfl)
def yQw : zZ := ext yNi 127 xK0
theorem xF6 (w0 : World) : SP w0 yQw := sg (xKm w0) Tryz.func127 Tryz.call127 (Λ := yEi) 1 ⟨yF6, trivial⟩ 0 trivial (by kernel_rfl) false (fun _ _ _ _ _ => by kernel_rfl)
def cV (b_0 o_0 : Nat) (v_7 : AV) (x_8 : Int) (x_9 : Int) (m : Mem) (kn : Int -> Mem -> Prop) (k0 : Mem -> Prop) (kr : Bool -> Mem -> Prop) : Prop :=
 kif (decide (x_9 < x_8)) (vD v_7 fun b2 o3 l4 p5 => kif (decide (0 <= x_9) && decide (x_9 < l4)) (zR .i64 m b2 (o3 + (x_9).toNat * 1) fun x6 => kif (decide (0 <= x6) && decide (x6 < 40)) (ldB m b_0 (o_0 + 0 + (x6).toNat * 1) fun x7 => kif (!x7) (kr false m) (kn (IntKind.wrap .i64 (x_9 + 1)) m)) False) False) (k0  m)
def zKi (b_0 o_0 : Nat) (v_7 : AV) (x_8 : Int) : Nat -> Int -> Mem -> (Mem -> Prop) -> (Bool -> Mem -> Prop) -> Prop
 | 0, _,  _, _, _ => yT False
 | N + 1, x_9,  m, k0, kr => cV b_0 o_0 v_7 x_8 x_9 m (fun x_9' m' => zKi b_0 o_0 v_7 x_8 N x_9' m' k0 kr) k0 kr
def yCm (b_0 o_0 : Nat) (v_1 : AV) (m : Mem) (k : Bool -> Mem -> Prop) : Prop :=
 xJ v_1 fun x1 => ∃ N11, zKi b_0 o_0 v_1 x1 N11 0 m (fun m8 => (zA m m8 /\ k true m)) (fun x9 m10 => (zA m m10 /\ k x9 m))
def xBq := Gs [.p, .a] [.b] yCm
def yDs : LpD := ⟨[0, 7, 8], [.p, .a, .i .i64], [9], [.i .i64], [⟨.exit 0, [], [], []⟩, ⟨.ret, [4], [.b], []⟩], cV, zKi⟩
def zZp : LEnv := yB [(2, pY yDs)] [] [] []
theorem yEw : yI Tryz.prog yQw zZp (wP (zE Tryz.f223) 0) := xM yDs (fun _ _ _ => by kernel_rfl) (by kernel_rfl) (fun _ _ _ _ _ _ _ _ => by kernel_rfl) (fun _ _ _ _ _ _ _ _ _ => by kernel_rfl) (fun _ _ _ _ _ _ _ _ => by kernel_rfl)
def yGg : zZ := ext yQw 223 xBq
theorem xJp (w0 : World) : SP w0 yGg := sg (xF6 w0) Tryz.func223 Tryz.call223 (Λ := zZp) 1 ⟨yEw, trivial⟩ 0 trivial (by kernel_rfl) true (fun _ _ _ _ _ => by kernel_rfl)
def jV (b_0 o_0 : Nat) (b_3 o_3 : Nat) (b_4 o_4 : Nat) (m : Mem) (kr : Bool -> Mem -> Prop) : Prop :=
 yN 40 m b_0 (o_0 + 40) fun c41 => zQ m ⟨40, yJ2, 192, false⟩ fun b43 m42 => vA 40 m42 b43 0 c41 fun m44 => yN 5 m44 b_3 o_3 fun c45 => zQ m44 ⟨5, zC (zH [(.flat (.int .i64 0)), (.flat (.int .i64 0)), (.flat (.int .i64 0)), (.flat (.int .i64 0)), (.flat (.int .u32 0))]) 0 5 c45, 224, false⟩ fun b47 m46 => zYt b43 0 (.sl b47 0 1 (.ex 1)) m46 fun x48 m49 => zR .i64 m49 b_3 (o_3 + 1) fun x50 => zR .i64 m49 b_3 (o_3 + 1) fun x51 => kif (decide (0 <= x51) && decide (x51 < 40)) (zR .u32 m49 b43 (0 + (x51).toNat * 1) fun x52 => vA 5 m49 b_4 o_4 (upd (upd (upd (zH [(.flat (.int .i64 0)), (.flat (.int .i64 0)), (.flat (.int .i64 0)), (.flat (.int .i64 0)), (.flat (.int .u32 0))]) 0 (.flat (.int .i64 1))) 1 (.flat (.int .i64 x50))) 4 (.flat (.int .u32 x52))) fun m53 => kr true m53) False
def iZ (b_0 o_0 : Nat) (b_3 o_3 : Nat) (b_4 o_4 : Nat) (v_6 : AV) (x_10 : Bool) (m : Mem) (kr : Bool -> Mem -> Prop) (kn : Mem -> Prop) : Prop :=
 kif x_10 (∃ Fr13 : Nat -> Prop, Fr13 b_3 /\ (zR .i64 m b_3 (o_3 + 1) fun x14 => Fr13 b_3 /\ (zR .i64 m b_3 (o_3 + 2) fun x15 => Fr13 b_3 /\ (zR .i64 m b_3 (o_3 + 3) fun x16 => kif (decide (0 <= x16) && decide (x16 < 40)) (Fr13 b_0 /\ (zR .u32 m b_0 (o_0 + 40 + (x16).toNat * 1) fun x17 => Fr13 b_3 /\ (zR .i64 m b_3 (o_3 + 0) fun x18 => vA 5 m b_4 o_4 (upd (upd (upd (zH [(.flat (.int .i64 0)), (.flat (.int .i64 0)), (.flat (.int .i64 0)), (.flat (.int .i64 0)), (.flat (.int .u32 0))]) 0 (.flat (.int .i64 2))) 1 (.flat (.int .i64 x14))) 2 (.flat (.int .i64 x15))) fun m19 => zV Fr13 m m19 /\ (kr ((x17 == 0) == (x18 == 21)) m19)))) False)))) (yN 5 m b_3 o_3 fun c20 => zX8 c20 m fun x21 m22 => kif (!x21) (yN 5 m22 b_3 o_3 fun c29 => vA 5 m22 b_4 o_4 c29 fun m30 => kr true m30) (xJ v_6 fun x23 => kif (x23 != 1) (yN 5 m22 b_3 o_3 fun c31 => vA 5 m22 b_4 o_4 c31 fun m32 => kr true m32) (yN 5 m22 b_3 o_3 fun c24 => zY5 c24 m22 fun v25 m26 => yCm b_0 o_0 v25 m26 fun x27 m28 => kif (!x27) (yN 5 m28 b_3 o_3 fun c33 => vA 5 m28 b_4 o_4 c33 fun m34 => kr true m34) (kn  m28))))
def yJp (b_0 o_0 : Nat) (c_1 : Nat -> AV) (m : Mem) (k : (Nat -> AV) -> Bool -> Mem -> Prop) : Prop :=
 zQ m ⟨5, c_1, 224, false⟩ fun b2 m1 => zQ m1 ⟨5, zH [(.flat (.int .i64 0)), (.flat (.int .i64 0)), (.flat (.int .i64 0)), (.flat (.int .i64 0)), (.flat (.int .u32 0))], 224, false⟩ fun b4 m3 => yN 5 m3 b2 0 fun c5 => zXp c5 m3 fun v6 m7 => yN 5 m7 b2 0 fun c8 => zX8 c8 m7 fun x9 m10 => kif (!x9) (zR .i64 m10 b2 3 fun x11 => kif (decide (0 <= x11) && decide (x11 < 40)) (ldB m10 b_0 (o_0 + 0 + (x11).toNat * 1) fun x12 => iZ b_0 o_0 b2 0 b4 0 v6 x12 m10 (fun x35 m36 => yN 5 m36 b4 0 fun c58 => k c58 x35 m36) (fun m37 => jV b_0 o_0 b2 0 b4 0 m37 (fun x54 m55 => yN 5 m55 b4 0 fun c60 => k c60 x54 m55))) False) (iZ b_0 o_0 b2 0 b4 0 v6 false m10 (fun x38 m39 => yN 5 m39 b4 0 fun c59 => k c59 x38 m39) (fun m40 => jV b_0 o_0 b2 0 b4 0 m40 (fun x56 m57 => yN 5 m57 b4 0 fun c61 => k c61 x56 m57)))
def xH8 := Gs [.p, .g 5] [.g 5, .b] yJp
def zFs : PcD := ⟨[0, 3, 4, 6, 10], [.p, .p, .p, .a, .b], [⟨.ret, [5], [.b], [4]⟩, ⟨.normal, [], [], [0, 3, 4]⟩], iZ⟩
def zGt : PcD := ⟨[0, 3, 4], [.p, .p, .p], [⟨.ret, [5], [.b], [4]⟩], jV⟩
def zE7 : LEnv := yB [] [3] [3004, 6102] [(3004, xK zFs), (6102, xK zGt)]
theorem zO2 : zF Tryz.prog yGg zE7 (zY zE7 (zE Tryz.f204) 0) := zN zGt (fun _ _ _ => by kernel_rfl) (by kernel_rfl) (fun _ _ _ _ _ _ _ _ => by kernel_rfl)
theorem zOb : zF Tryz.prog yGg zE7 (zY zE7 (zE Tryz.f204) 1) := zN zFs (fun _ _ _ => by kernel_rfl) (by kernel_rfl) (fun _ _ _ _ _ _ _ _ _ _ => by kernel_rfl)
def yKs : zZ := ext yGg 204 xH8
theorem xIv (w0 : World) : SP w0 yKs := sg (xJp w0) Tryz.func204 Tryz.call204 (Λ := zE7) 0 trivial 2 ⟨zO2, zOb, trivial⟩ (by kernel_rfl) false (fun _ _ _ _ _ => by kernel_rfl)
def aW (b_0 o_0 : Nat) (x_4 : Bool) (v_19 : AV) (x_20 : Int) (x_21 : Int) (m : Mem) (kn : Int -> Mem -> Prop) (k0 : Mem -> Prop) : Prop :=
 kif (decide (x_21 < x_20)) (vD v_19 fun b17 o18 l19 p20 => kif (decide (0 <= x_21) && decide (x_21 < l19)) (zR .i64 m b17 (o18 + (x_21).toNat * 1) fun x21 => kif (decide (0 <= x21) && decide (x21 < 40)) (wF m b_0 (o_0 + 0 + (x21).toNat * 1) (.flat (.bool x_4)) fun m22 => kn (IntKind.wrap .i64 (x_21 + 1)) m22) False) False) (k0  m)
def zLo (b_0 o_0 : Nat) (x_4 : Bool) (v_19 : AV) (x_20 : Int) : Nat -> Int -> Mem -> (Mem -> Prop) -> Prop
 | 0, _,  _, _ => yT False
 | N + 1, x_21,  m, k0 => aW b_0 o_0 x_4 v_19 x_20 x_21 m (fun x_21' m' => zLo b_0 o_0 x_4 v_19 x_20 N x_21' m' k0) k0
def nV (b_0 o_0 : Nat) (b_3 o_3 : Nat) (x_4 : Bool) (m : Mem) (kn : Mem -> Prop) : Prop :=
 yN 5 m b_3 o_3 fun c13 => zXp c13 m fun v14 m15 => xJ v14 fun x16 => ∃ N24, zLo b_0 o_0 x_4 v14 x16 N24 0 m15 (fun m23 => kn  m23)
def yI4 (b_0 o_0 : Nat) (c_1 : Nat -> AV) (m : Mem) (k : Mem -> Prop) : Prop :=
 zQ m ⟨5, c_1, 224, false⟩ fun b2 m1 => yN 5 m1 b2 0 fun c3 => zY5 c3 m1 fun v4 m5 => yCm b_0 o_0 v4 m5 fun x6 m7 => kif x6 (yN 5 m7 b2 0 fun c8 => zQ m7 ⟨5, zC (zH [(.flat (.int .i64 0)), (.flat (.int .i64 0)), (.flat (.int .i64 0)), (.flat (.int .i64 0)), (.flat (.int .u32 0))]) 0 5 c8, 224, false⟩ fun b10 m9 => zYt b_0 (o_0 + 40) (.sl b10 0 1 (.ex 1)) m9 fun x11 m12 => nV b_0 o_0 b2 0 x6 m12 (fun m25 => k  m25)) (nV b_0 o_0 b2 0 x6 m7 (fun m26 => k  m26))
def xCf := Gs [.p, .g 5] [] yI4
def zIm : PcD := ⟨[0, 3, 4], [.p, .p, .b], [⟨.normal, [], [], []⟩], nV⟩
def yCr : LpD := ⟨[0, 4, 19, 20], [.p, .b, .a, .i .i64], [21], [.i .i64], [⟨.exit 0, [], [], []⟩], aW, zLo⟩
def zJ9 : LEnv := yB [(5, pY yCr)] [] [4102] [(4102, xK zIm)]
theorem zZx : yI Tryz.prog yKs zJ9 (wP (zE Tryz.f205) 0) := xM yCr (fun _ _ _ => by kernel_rfl) (by kernel_rfl) (fun _ _ _ _ _ _ _ _ _ => by kernel_rfl) (fun _ _ _ _ _ _ _ _ _ _ => by kernel_rfl) (fun _ _ _ _ _ _ _ _ _ => by kernel_rfl)
theorem zOv : zF Tryz.prog yKs zJ9 (zY zJ9 (zE Tryz.f205) 0) := zN zIm (fun _ _ _ => by kernel_rfl) (by kernel_rfl) (fun _ _ _ _ _ _ _ => by kernel_rfl)
def yNa : zZ := ext yKs 205 xCf
theorem xBs (w0 : World) : SP w0 yNa := sg (xIv w0) Tryz.func205 Tryz.call205 (Λ := zJ9) 1 ⟨zZx, trivial⟩ 1 ⟨zOv, trivial⟩ (by kernel_rfl) false (fun _ _ _ _ _ => by kernel_rfl)
def cX (b_3 o_3 : Nat) (v_18 : AV) (x_19 : Int) (v_4 : AV) (x_20 : Int) (m : Mem) (kn : AV -> Int -> Mem -> Prop) (k0 : AV -> Mem -> Prop) : Prop :=
 kif (decide (x_20 < x_19)) (vD v_18 fun b7 o8 l9 p10 => kif (decide (0 <= x_20) && decide (x_20 < l9)) (yN 5 m b7 (o8 + (x_20).toNat * 5) fun c11 => zQ m ⟨5, zH [(.flat (.int .i64 0)), (.flat (.int .i64 0)), (.flat (.int .i64 0)), (.flat (.int .i64 0)), (.flat (.int .u32 0))], 224, false⟩ fun b13 m12 => vA 5 m12 b13 0 c11 fun m14 => yN 5 m14 b13 0 fun c15 => yJp b_3 o_3 c15 m14 fun c16 x17 m18 => zQ m18 ⟨5, zH [(.flat (.int .i64 0)), (.flat (.int .i64 0)), (.flat (.int .i64 0)), (.flat (.int .i64 0)), (.flat (.int .u32 0))], 224, false⟩ fun b20 m19 => vA 5 m19 b20 0 c16 fun m21 => kif x17 (yN 5 m21 b20 0 fun c22 => zQ m21 ⟨5, zC (zH [(.flat (.int .i64 0)), (.flat (.int .i64 0)), (.flat (.int .i64 0)), (.flat (.int .i64 0)), (.flat (.int .u32 0))]) 0 5 c22, 224, false⟩ fun b24 m23 => uB 5 40 224 v_4 (.sl b24 0 1 (.ex 1)) m23 fun v25 m26 => yN 5 m26 b20 0 fun c27 => yI4 b_3 o_3 c27 m26 fun m28 => kn v25 (IntKind.wrap .i64 (x_20 + 1)) m28) (kn v_4 (IntKind.wrap .i64 (x_20 + 1)) m21)) False) (k0 v_4 m)
def zL1 (b_3 o_3 : Nat) (v_18 : AV) (x_19 : Int) : Nat -> AV -> Int -> Mem -> (AV -> Mem -> Prop) -> Prop
 | 0, _, _,  _, _ => yT False
 | N + 1, v_4, x_20,  m, k0 => cX b_3 o_3 v_18 x_19 v_4 x_20 m (fun v_4' x_20' m' => zL1 b_3 o_3 v_18 x_19 N v_4' x_20' m' k0) k0
def yGy (v_0 : AV) (m : Mem) (k : AV -> Mem -> Prop) : Prop :=
 yDm v_0 m fun x1 m2 => kif (!x1) (k (.flat (.slice none 0 0)) m2) (zQ m2 ⟨80, (Z80), 246, false⟩ fun b4 m3 => wF m3 b4 0 (.flat (.bool true)) fun m5 => xJ v_0 fun x6 => ∃ N31, zL1 b4 0 v_0 x6 N31 (.flat (.slice none 0 0)) 0 m5 (fun v29 m30 => k v29 m30))
def xId := Gs [.a] [.a] yGy
def yBu : LpD := ⟨[3, 18, 19], [.p, .a, .i .i64], [4, 20], [.a, .i .i64], [⟨.exit 0, [4], [.a], []⟩], cX, zL1⟩
def yFs : LEnv := yB [(7, pY yBu)] [] [] []
theorem yA2 : yI Tryz.prog yNa yFs (wP (zE Tryz.f163) 0) := xM yBu (fun _ _ _ => by kernel_rfl) (by kernel_rfl) (fun _ _ _ _ _ _ _ _ _ => by kernel_rfl) (fun _ _ _ _ _ _ _ _ _ _ => by kernel_rfl) (fun _ _ _ _ _ _ _ _ _ => by kernel_rfl)
def ySh : zZ := ext yNa 163 xId
theorem xJn (w0 : World) : SP w0 ySh := sg (xBs w0) Tryz.func163 Tryz.call163 (Λ := yFs) 1 ⟨yA2, trivial⟩ 0 trivial (by kernel_rfl) false (fun _ _ _ => by kernel_rfl)
def yJw (v_0 : AV) (m : Mem) (k : AV -> Mem -> Prop) : Prop :=
 yGy v_0 m fun v1 m2 => yKp v1 m2 fun v3 m4 => k v3 m4
def xG3 := Gs [.a] [.a] yJw
def ySc : zZ := ext ySh 124 xG3
theorem xGo (w0 : World) : SP w0 ySc := xU (xJn w0) Tryz.func124 Tryz.call124 (by kernel_rfl) false (fun _ _ _ => by kernel_rfl)
def yJ3 (c_0 : Nat -> AV) (m : Mem) (k : Int -> Mem -> Prop) : Prop :=
 zQ m ⟨6, c_0, 32, false⟩ fun b2 m1 => zR .i64 m1 b2 1 fun x3 => zR .i64 m1 b2 2 fun x4 => zR .i64 m1 b2 3 fun x5 => zR .i64 m1 b2 4 fun x6 => zR .u32 m1 b2 5 fun x7 => (zA m m1 /\ k (bits .or .u32 (bits .or .u32 (bits .or .u32 (bits .or .u32 (IntKind.wrap .u32 ((IntKind.wrap .u32 x3) * 2097152)) (IntKind.wrap .u32 ((IntKind.wrap .u32 x4) * 65536))) (IntKind.wrap .u32 ((IntKind.wrap .u32 x5) * 2048))) (IntKind.wrap .u32 ((IntKind.wrap .u32 x6) * 64))) x7) m)
def xDc := Gs [.g 6] [.i .u32] yJ3
def yNd : zZ := ext ySc 166 xDc
theorem xJ8 (w0 : World) : SP w0 yNd := xU (xGo w0) Tryz.func166 Tryz.call166 (by kernel_rfl) true (fun _ _ _ => by kernel_rfl)
def zLv (b_1 o_1 : Nat) (v_13 : AV) (x_14 : Int) (x_15 : Int) (m : Mem) (kn : Int -> Mem -> Prop) (k0 : Mem -> Prop) (kr : Bool -> Mem -> Prop) : Prop :=
 kif (decide (x_15 < x_14)) (vD v_13 fun b9 o10 l11 p12 => kif (decide (0 <= x_15) && decide (x_15 < l11)) (zR .i64 m b9 (o10 + (x_15).toNat * 1) fun x13 => kif (decide (x13 < 0)) (kr false m) (kif (decide (x13 > 31)) (kr false m) (kn (IntKind.wrap .i64 (x_15 + 1)) m))) False) (k0  m)
def fO (b_1 o_1 : Nat) (v_13 : AV) (x_14 : Int) : Nat -> Int -> Mem -> (Mem -> Prop) -> (Bool -> Mem -> Prop) -> Prop
 | 0, _,  _, _, _ => yT False
 | N + 1, x_15,  m, k0, kr => zLv b_1 o_1 v_13 x_14 x_15 m (fun x_15' m' => fO b_1 o_1 v_13 x_14 N x_15' m' k0 kr) k0 kr
def yFh (c_0 : Nat -> AV) (m : Mem) (k : Bool -> Mem -> Prop) : Prop :=
 zQ m ⟨6, c_0, 32, false⟩ fun b2 m1 => zR .i64 m1 b2 1 fun x3 => zR .i64 m1 b2 2 fun x4 => zR .i64 m1 b2 3 fun x5 => zR .i64 m1 b2 4 fun x6 => zQ m1 ⟨4, upd (upd (upd (upd (zH [(.flat (.int .i64 0)), (.flat (.int .i64 0)), (.flat (.int .i64 0)), (.flat (.int .i64 0))]) 0 (.flat (.int .i64 x3))) 1 (.flat (.int .i64 x4))) 2 (.flat (.int .i64 x5))) 3 (.flat (.int .i64 x6)), 3, false⟩ fun b8 m7 => ∃ N17, fO b2 0 (.sl b8 0 4 (.ex 4)) 4 N17 0 m7 (fun m14 => ∃ Fr18 : Nat -> Prop, Fr18 b2 /\ (zR .i64 m14 b2 0 fun x19 => kif (decide (x19 > 0)) (Fr18 b2 /\ (zR .i64 m14 b2 0 fun x20 => kif (decide (x20 < 78)) (Fr18 b2 /\ (zR .u32 m14 b2 5 fun x21 => kif (decide (x21 <= 67108863)) (Fr18 b2 /\ (zR .i64 m14 b2 0 fun x22 => Fr18 b2 /\ (yN 6 m14 b2 0 fun c23 => yJ3 c23 m14 fun x24 m25 => zV Fr18 m14 m25 /\ (yFj x22 x24 m25 fun c26 m27 => zV Fr18 m25 m27 /\ (Fr18 b2 /\ (yN 6 m27 b2 0 fun c28 => geq K32 c26 c28 fun x29 => (zA m m27 /\ k x29 m))))))) ((zA m m14 /\ k false m)))) ((zA m m14 /\ k false m)))) ((zA m m14 /\ k false m)))) (fun x15 m16 => (zA m m16 /\ k x15 m))
def xKz := Gs [.g 6] [.b] yFh
def yBd : LpD := ⟨[1, 13, 14], [.p, .a, .i .i64], [15], [.i .i64], [⟨.exit 0, [], [], [1]⟩, ⟨.ret, [2], [.b], []⟩], zLv, fO⟩
def yBg : LEnv := yB [(2, pY yBd)] [7] [] []
theorem yDk : yI Tryz.prog yNd yBg (wP (zE Tryz.f126) 0) := xM yBd (fun _ _ _ => by kernel_rfl) (by kernel_rfl) (fun _ _ _ _ _ _ _ _ => by kernel_rfl) (fun _ _ _ _ _ _ _ _ _ => by kernel_rfl) (fun _ _ _ _ _ _ _ _ => by kernel_rfl)
def E97 : zZ := ext yNd 126 xKz
theorem S97 (w0 : World) : SP w0 E97 := sg (xJ8 w0) Tryz.func126 Tryz.call126 (Λ := yBg) 1 ⟨yDk, trivial⟩ 0 trivial (by kernel_rfl) true (fun _ _ _ => by kernel_rfl)
def F97 (c_0 : Nat -> AV) (m : Mem) (k : Bool -> Mem -> Prop) : Prop :=
 zQ m ⟨6, c_0, 32, false⟩ fun b2 m1 => yN 6 m1 b2 0 fun c3 => yFh c3 m1 fun x4 m5 => kif x4 (yN 6 m5 b2 0 fun c6 => F94 c6 m5 fun x7 m8 => (zA m m8 /\ k (x7 == 1) m)) ((zA m m5 /\ k false m))
def G97 := Gs [.g 6] [.b] F97
def yTg : zZ := ext E97 97 G97
theorem xEd (w0 : World) : SP w0 yTg := xU (S97 w0) Tryz.func97 Tryz.call97 (by kernel_rfl) true (fun _ _ _ => by kernel_rfl)
def zSw (x_0 : Int) (m : Mem) (k : Bool -> Mem -> Prop) : Prop :=
 kif (decide (x_0 >= 1)) (kif (decide (x_0 <= 6)) ((zA m m /\ k true m)) (kif (decide (x_0 >= 22)) (kif (decide (x_0 <= 31)) ((zA m m /\ k true m)) (kif (decide (x_0 >= 46)) (kif (decide (x_0 <= 53)) ((zA m m /\ k true m)) (kif (decide (x_0 >= 63)) ((zA m m /\ k (decide (x_0 <= 65)) m)) ((zA m m /\ k false m)))) (kif (decide (x_0 >= 63)) ((zA m m /\ k (decide (x_0 <= 65)) m)) ((zA m m /\ k false m))))) (kif (decide (x_0 >= 46)) (kif (decide (x_0 <= 53)) ((zA m m /\ k true m)) (kif (decide (x_0 >= 63)) ((zA m m /\ k (decide (x_0 <= 65)) m)) ((zA m m /\ k false m)))) (kif (decide (x_0 >= 63)) ((zA m m /\ k (decide (x_0 <= 65)) m)) ((zA m m /\ k false m)))))) (kif (decide (x_0 >= 22)) (kif (decide (x_0 <= 31)) ((zA m m /\ k true m)) (kif (decide (x_0 >= 46)) (kif (decide (x_0 <= 53)) ((zA m m /\ k true m)) (kif (decide (x_0 >= 63)) ((zA m m /\ k (decide (x_0 <= 65)) m)) ((zA m m /\ k false m)))) (kif (decide (x_0 >= 63)) ((zA m m /\ k (decide (x_0 <= 65)) m)) ((zA m m /\ k false m))))) (kif (decide (x_0 >= 46)) (kif (decide (x_0 <= 53)) ((zA m m /\ k true m)) (kif (decide (x_0 >= 63)) ((zA m m /\ k (decide (x_0 <= 65)) m)) ((zA m m /\ k false m)))) (kif (decide (x_0 >= 63)) ((zA m m /\ k (decide (x_0 <= 65)) m)) ((zA m m /\ k false m)))))
def xAm := Gs [.i .i64] [.b] zSw
def yWb : zZ := ext yTg 190 xAm
theorem xJ5 (w0 : World) : SP w0 yWb := xU (xEd w0) Tryz.func190 Tryz.call190 (by kernel_rfl) true (fun _ _ _ => by kernel_rfl)
def yCj (c_0 : Nat -> AV) (m : Mem) (k : Int -> Mem -> Prop) : Prop :=
 zQ m ⟨6, c_0, 32, false⟩ fun b2 m1 => zR .i64 m1 b2 0 fun x3 => zSw x3 m1 fun x4 m5 => kif (!x4) ((zA m m5 /\ k 0 m)) (zR .i64 m5 b2 0 fun x6 => kif (decide (x6 >= 46)) (zR .i64 m5 b2 0 fun x7 => kif (decide (x7 <= 53)) (zR .i64 m5 b2 2 fun x8 => (zA m m5 /\ k x8 m)) (zR .i64 m5 b2 3 fun x9 => (zA m m5 /\ k x9 m))) (zR .i64 m5 b2 3 fun x10 => (zA m m5 /\ k x10 m)))
def xCh := Gs [.g 6] [.i .i64] yCj
def zEn : zZ := ext yWb 151 xCh
theorem xFf (w0 : World) : SP w0 zEn := xU (xJ5 w0) Tryz.func151 Tryz.call151 (by kernel_rfl) true (fun _ _ _ => by kernel_rfl)
def fT (x_3 : Int) (x_32 : Bool) (m : Mem) (kr : Int -> Mem -> Prop) (kn : Mem -> Prop) : Prop :=
 kif x_32 (kr 13 m) (kif (x_3 == 63) (kr 14 m) (kif (x_3 == 64) (kr 15 m) (kif (x_3 == 65) (kr 16 m) (kif (x_3 == 18) (kr 17 m) (kif (x_3 == 19) (kr 18 m) (kif (x_3 == 20) (kr 19 m) (kif (x_3 == 21) (kr 20 m) (kif (x_3 == 9) (kr 21 m) (kif (x_3 == 10) (kr 22 m) (kn  m))))))))))
def gY (x_3 : Int) (x_29 : Bool) (m : Mem) (kr : Int -> Mem -> Prop) (kn : Mem -> Prop) : Prop :=
 kif x_29 (kr 12 m) (kif (x_3 == 31) (fT x_3 (x_3 == 31) m (fun x1 m2 => kr x1 m2) (fun m3 => kn  m3)) (fT x_3 (x_3 == 49) m (fun x4 m5 => kr x4 m5) (fun m6 => kn  m6)))
def fL (x_3 : Int) (x_24 : Bool) (m : Mem) (kr : Int -> Mem -> Prop) (kn : Mem -> Prop) : Prop :=
 kif x_24 (kr 7 m) (kif (x_3 == 29) (kr 8 m) (kif (x_3 == 30) (gY x_3 (x_3 == 30) m (fun x7 m8 => kr x7 m8) (fun m9 => kn  m9)) (gY x_3 (x_3 == 48) m (fun x10 m11 => kr x10 m11) (fun m12 => kn  m12))))
def gQ (x_3 : Int) (x_21 : Bool) (m : Mem) (kr : Int -> Mem -> Prop) (kn : Mem -> Prop) : Prop :=
 kif x_21 (kr 6 m) (kif (x_3 == 28) (fL x_3 (x_3 == 28) m (fun x13 m14 => kr x13 m14) (fun m15 => kn  m15)) (fL x_3 (x_3 == 52) m (fun x16 m17 => kr x16 m17) (fun m18 => kn  m18)))
def eC (x_3 : Int) (x_18 : Bool) (m : Mem) (kr : Int -> Mem -> Prop) (kn : Mem -> Prop) : Prop :=
 kif x_18 (kr 5 m) (kif (x_3 == 27) (gQ x_3 (x_3 == 27) m (fun x19 m20 => kr x19 m20) (fun m21 => kn  m21)) (gQ x_3 (x_3 == 51) m (fun x22 m23 => kr x22 m23) (fun m24 => kn  m24)))
def fZ (x_3 : Int) (x_13 : Bool) (m : Mem) (kr : Int -> Mem -> Prop) (kn : Mem -> Prop) : Prop :=
 kif x_13 (kr 3 m) (kif (x_3 == 25) (kr 4 m) (kif (x_3 == 26) (eC x_3 (x_3 == 26) m (fun x25 m26 => kr x25 m26) (fun m27 => kn  m27)) (eC x_3 (x_3 == 50) m (fun x28 m29 => kr x28 m29) (fun m30 => kn  m30))))
def fE (x_3 : Int) (x_10 : Bool) (m : Mem) (kr : Int -> Mem -> Prop) (kn : Mem -> Prop) : Prop :=
 kif x_10 (kr 11 m) (kif (x_3 == 23) (fZ x_3 (x_3 == 23) m (fun x31 m32 => kr x31 m32) (fun m33 => kn  m33)) (fZ x_3 (x_3 == 47) m (fun x34 m35 => kr x34 m35) (fun m36 => kn  m36)))
def aT (x_3 : Int) (x_7 : Bool) (m : Mem) (kr : Int -> Mem -> Prop) (kn : Mem -> Prop) : Prop :=
 kif x_7 (kr 10 m) (kif (x_3 == 3) (fE x_3 (x_3 == 3) m (fun x37 m38 => kr x37 m38) (fun m39 => kn  m39)) (fE x_3 (x_3 == 6) m (fun x40 m41 => kr x40 m41) (fun m42 => kn  m42)))
def aR (x_3 : Int) (x_4 : Bool) (m : Mem) (kr : Int -> Mem -> Prop) (kn : Mem -> Prop) : Prop :=
 kif x_4 (kr 9 m) (kif (x_3 == 2) (aT x_3 (x_3 == 2) m (fun x43 m44 => kr x43 m44) (fun m45 => kn  m45)) (aT x_3 (x_3 == 5) m (fun x46 m47 => kr x46 m47) (fun m48 => kn  m48)))
def zRh (x_0 : Int) (m : Mem) (k : Int -> Mem -> Prop) : Prop :=
 kif (x_0 == 1) (aR x_0 (x_0 == 1) m (fun x49 m50 => (zA m m50 /\ k x49 m)) (fun m51 => (zA m m51 /\ k 0 m))) (aR x_0 (x_0 == 4) m (fun x52 m53 => (zA m m53 /\ k x52 m)) (fun m54 => (zA m m54 /\ k 0 m)))
def xD6 := Gs [.i .i64] [.i .i64] zRh
def zHs : PcD := ⟨[3, 4], [.i .i64, .b], [⟨.ret, [2], [.i .i64], []⟩, ⟨.normal, [], [], []⟩], aR⟩
def zIv : PcD := ⟨[3, 7], [.i .i64, .b], [⟨.ret, [2], [.i .i64], []⟩, ⟨.normal, [], [], []⟩], aT⟩
def zDz : PcD := ⟨[3, 10], [.i .i64, .b], [⟨.ret, [2], [.i .i64], []⟩, ⟨.normal, [], [], []⟩], fE⟩
def zD8 : PcD := ⟨[3, 13], [.i .i64, .b], [⟨.ret, [2], [.i .i64], []⟩, ⟨.normal, [], [], []⟩], fZ⟩
def zCc : PcD := ⟨[3, 18], [.i .i64, .b], [⟨.ret, [2], [.i .i64], []⟩, ⟨.normal, [], [], []⟩], eC⟩
def zBr : PcD := ⟨[3, 21], [.i .i64, .b], [⟨.ret, [2], [.i .i64], []⟩, ⟨.normal, [], [], []⟩], gQ⟩
def zEz : PcD := ⟨[3, 24], [.i .i64, .b], [⟨.ret, [2], [.i .i64], []⟩, ⟨.normal, [], [], []⟩], fL⟩
def zC1 : PcD := ⟨[3, 29], [.i .i64, .b], [⟨.ret, [2], [.i .i64], []⟩, ⟨.normal, [], [], []⟩], gY⟩
def zC7 : PcD := ⟨[3, 32], [.i .i64, .b], [⟨.ret, [2], [.i .i64], []⟩, ⟨.normal, [], [], []⟩], fT⟩
def vW : LEnv := yB [] [] [4004, 7004, 10004, 13004, 18004, 21004, 24004, 29004, 32004] [(4004, xK zHs), (7004, xK zIv), (10004, xK zDz), (13004, xK zD8), (18004, xK zCc), (21004, xK zBr), (24004, xK zEz), (29004, xK zC1), (32004, xK zC7)]
theorem zK4 : zF Tryz.prog zEn vW (zY vW (zE Tryz.f164) 8) := zN zC7 (fun _ _ _ => by kernel_rfl) (by kernel_rfl) (fun _ _ _ _ => by kernel_rfl)
theorem zLf : zF Tryz.prog zEn vW (zY vW (zE Tryz.f164) 7) := zN zC1 (fun _ _ _ => by kernel_rfl) (by kernel_rfl) (fun _ _ _ _ => by kernel_rfl)
theorem zJi : zF Tryz.prog zEn vW (zY vW (zE Tryz.f164) 6) := zN zEz (fun _ _ _ => by kernel_rfl) (by kernel_rfl) (fun _ _ _ _ => by kernel_rfl)
theorem zJf : zF Tryz.prog zEn vW (zY vW (zE Tryz.f164) 5) := zN zBr (fun _ _ _ => by kernel_rfl) (by kernel_rfl) (fun _ _ _ _ => by kernel_rfl)
theorem zJa : zF Tryz.prog zEn vW (zY vW (zE Tryz.f164) 4) := zN zCc (fun _ _ _ => by kernel_rfl) (by kernel_rfl) (fun _ _ _ _ => by kernel_rfl)
theorem zJ5 : zF Tryz.prog zEn vW (zY vW (zE Tryz.f164) 3) := zN zD8 (fun _ _ _ => by kernel_rfl) (by kernel_rfl) (fun _ _ _ _ => by kernel_rfl)
theorem zJs : zF Tryz.prog zEn vW (zY vW (zE Tryz.f164) 2) := zN zDz (fun _ _ _ => by kernel_rfl) (by kernel_rfl) (fun _ _ _ _ => by kernel_rfl)
theorem zNf : zF Tryz.prog zEn vW (zY vW (zE Tryz.f164) 1) := zN zIv (fun _ _ _ => by kernel_rfl) (by kernel_rfl) (fun _ _ _ _ => by kernel_rfl)
theorem zPz : zF Tryz.prog zEn vW (zY vW (zE Tryz.f164) 0) := zN zHs (fun _ _ _ => by kernel_rfl) (by kernel_rfl) (fun _ _ _ _ => by kernel_rfl)
def yTw : zZ := ext zEn 164 xD6
theorem xDa (w0 : World) : SP w0 yTw := sg (xFf w0) Tryz.func164 Tryz.call164 (Λ := vW) 0 trivial 9 ⟨zPz, zNf, zJs, zJ5, zJa, zJf, zJi, zLf, zK4, trivial⟩ (by kernel_rfl) true (fun _ _ _ => by kernel_rfl)
def zAq (x_0 : Int) (x_1 : Int) (m : Mem) (k : Int -> Mem -> Prop) : Prop :=
 kif (decide (x_1 < 1)) ((zA m m /\ k 0 m)) (kif (decide (x_1 > 31)) ((zA m m /\ k x_0 m)) (kif (decide (IntKind.wrap .i64 (32 - x_1) < 0)) False (zXl (IntKind.wrap .u32 (x_0 * 2 ^ min (IntKind.wrap .i64 (32 - x_1)).toNat 32)) (IntKind.wrap .i64 (32 - x_1)) m fun x1 m2 => (zA m m2 /\ k x1 m))))
def xB4 := Gs [.i .u32, .i .i64] [.i .u32] zAq
def yV6 : zZ := ext yTw 140 xB4
theorem xCz (w0 : World) : SP w0 yV6 := xU (xDa w0) Tryz.func140 Tryz.call140 (by kernel_rfl) true (fun _ _ _ _ => by kernel_rfl)
def yGx (c_0 : Nat -> AV) (m : Mem) (k : Int -> Mem -> Prop) : Prop :=
 zQ m ⟨6, c_0, 32, false⟩ fun b2 m1 => zR .i64 m1 b2 0 fun x3 => kif (x3 == 50) (zR .u32 m1 b2 5 fun x6 => (zA m m1 /\ k x6 m)) (zR .i64 m1 b2 0 fun x4 => kif (x4 == 51) (zR .u32 m1 b2 5 fun x7 => (zA m m1 /\ k x7 m)) (zR .i64 m1 b2 0 fun x5 => kif (x5 == 52) (zR .u32 m1 b2 5 fun x8 => (zA m m1 /\ k x8 m)) (zR .u32 m1 b2 5 fun x9 => zAq x9 16 m1 fun x10 m11 => (zA m m11 /\ k x10 m))))
def xFy := Gs [.g 6] [.i .u32] yGx
def yCn : zZ := ext yV6 165 xFy
theorem xI7 (w0 : World) : SP w0 yCn := xU (xCz w0) Tryz.func165 Tryz.call165 (by kernel_rfl) true (fun _ _ _ => by kernel_rfl)
def vX (b_1 o_1 : Nat) (x_3 : Int) (m : Mem) (kr : AV -> Mem -> Prop) : Prop :=
 ∃ Fr75 : Nat -> Prop, zRh x_3 m fun x76 m77 => zV Fr75 m m77 /\ (Fr75 b_1 /\ (zR .i64 m77 b_1 (o_1 + 3) fun x78 => Fr75 b_1 /\ (zR .i64 m77 b_1 (o_1 + 1) fun x79 => Fr75 b_1 /\ (zR .i64 m77 b_1 (o_1 + 2) fun x80 => zQ m77 ⟨5, zC (zH [(.flat (.int .i64 0)), (.flat (.int .i64 0)), (.flat (.int .i64 0)), (.flat (.int .i64 0)), (.flat (.int .u32 0))]) 0 5 (upd (upd (upd (upd (zH [(.flat (.int .i64 0)), (.flat (.int .i64 0)), (.flat (.int .i64 0)), (.flat (.int .i64 0)), (.flat (.int .u32 0))]) 0 (.flat (.int .i64 x76))) 1 (.flat (.int .i64 x78))) 2 (.flat (.int .i64 x79))) 3 (.flat (.int .i64 x80))), 224, false⟩ fun b82 m81 => kr (.sl b82 0 1 (.ex 1)) m81))))
def sX (b_1 o_1 : Nat) (x_3 : Int) (x_88 : Bool) (m : Mem) (kr : AV -> Mem -> Prop) (kn : Mem -> Prop) : Prop :=
 kif x_88 (∃ Fr44 : Nat -> Prop, Fr44 b_1 /\ (yN 6 m b_1 o_1 fun c45 => yGx c45 m fun x46 m47 => zV Fr44 m m47 /\ (zRh x_3 m47 fun x48 m49 => zV Fr44 m47 m49 /\ (Fr44 b_1 /\ (zR .i64 m49 b_1 (o_1 + 2) fun x50 => Fr44 b_1 /\ (zR .i64 m49 b_1 (o_1 + 1) fun x51 => zQ m49 ⟨10, zC (zC (Z10) 0 5 (upd (upd (upd (zH [(.flat (.int .i64 0)), (.flat (.int .i64 0)), (.flat (.int .i64 0)), (.flat (.int .i64 0)), (.flat (.int .u32 0))]) 0 (.flat (.int .i64 1))) 1 (.flat (.int .i64 34))) 4 (.flat (.int .u32 x46)))) 5 5 (upd (upd (upd (upd (zH [(.flat (.int .i64 0)), (.flat (.int .i64 0)), (.flat (.int .i64 0)), (.flat (.int .i64 0)), (.flat (.int .u32 0))]) 0 (.flat (.int .i64 x48))) 1 (.flat (.int .i64 x50))) 2 (.flat (.int .i64 x51))) 3 (.flat (.int .i64 34))), 224, false⟩ fun b53 m52 => kr (.sl b53 0 2 (.ex 2)) m52)))))) (kn  m)
def tU (b_1 o_1 : Nat) (x_3 : Int) (x_6 : Bool) (m : Mem) (kr : AV -> Mem -> Prop) (kn : Mem -> Prop) : Prop :=
 kif x_6 (kr (.flat (.slice none 0 0)) m) (kif (x_3 == 53) (zR .i64 m b_1 (o_1 + 2) fun x7 => zR .u32 m b_1 (o_1 + 5) fun x8 => zQ m ⟨5, zC (zH [(.flat (.int .i64 0)), (.flat (.int .i64 0)), (.flat (.int .i64 0)), (.flat (.int .i64 0)), (.flat (.int .u32 0))]) 0 5 (upd (upd (upd (zH [(.flat (.int .i64 0)), (.flat (.int .i64 0)), (.flat (.int .i64 0)), (.flat (.int .i64 0)), (.flat (.int .u32 0))]) 0 (.flat (.int .i64 1))) 1 (.flat (.int .i64 x7))) 4 (.flat (.int .u32 (IntKind.wrap .u32 (x8 * 65536))))), 224, false⟩ fun b10 m9 => kr (.sl b10 0 1 (.ex 1)) m9) (kif (x_3 == 14) (zR .i64 m b_1 (o_1 + 3) fun x11 => zQ m ⟨5, zC (zH [(.flat (.int .i64 0)), (.flat (.int .i64 0)), (.flat (.int .i64 0)), (.flat (.int .i64 0)), (.flat (.int .u32 0))]) 0 5 (upd (upd (upd (zH [(.flat (.int .i64 0)), (.flat (.int .i64 0)), (.flat (.int .i64 0)), (.flat (.int .i64 0)), (.flat (.int .u32 0))]) 0 (.flat (.int .i64 2))) 1 (.flat (.int .i64 x11))) 2 (.flat (.int .i64 32))), 224, false⟩ fun b13 m12 => kr (.sl b13 0 1 (.ex 1)) m12) (kif (x_3 == 16) (zR .i64 m b_1 (o_1 + 3) fun x14 => zQ m ⟨5, zC (zH [(.flat (.int .i64 0)), (.flat (.int .i64 0)), (.flat (.int .i64 0)), (.flat (.int .i64 0)), (.flat (.int .u32 0))]) 0 5 (upd (upd (upd (zH [(.flat (.int .i64 0)), (.flat (.int .i64 0)), (.flat (.int .i64 0)), (.flat (.int .i64 0)), (.flat (.int .u32 0))]) 0 (.flat (.int .i64 2))) 1 (.flat (.int .i64 x14))) 2 (.flat (.int .i64 33))), 224, false⟩ fun b16 m15 => kr (.sl b16 0 1 (.ex 1)) m15) (kif (x_3 == 15) (zR .i64 m b_1 (o_1 + 1) fun x17 => zQ m ⟨5, zC (zH [(.flat (.int .i64 0)), (.flat (.int .i64 0)), (.flat (.int .i64 0)), (.flat (.int .i64 0)), (.flat (.int .u32 0))]) 0 5 (upd (upd (upd (zH [(.flat (.int .i64 0)), (.flat (.int .i64 0)), (.flat (.int .i64 0)), (.flat (.int .i64 0)), (.flat (.int .u32 0))]) 0 (.flat (.int .i64 2))) 1 (.flat (.int .i64 32))) 2 (.flat (.int .i64 x17))), 224, false⟩ fun b19 m18 => kr (.sl b19 0 1 (.ex 1)) m18) (kif (x_3 == 17) (zR .i64 m b_1 (o_1 + 1) fun x20 => zQ m ⟨5, zC (zH [(.flat (.int .i64 0)), (.flat (.int .i64 0)), (.flat (.int .i64 0)), (.flat (.int .i64 0)), (.flat (.int .u32 0))]) 0 5 (upd (upd (upd (zH [(.flat (.int .i64 0)), (.flat (.int .i64 0)), (.flat (.int .i64 0)), (.flat (.int .i64 0)), (.flat (.int .u32 0))]) 0 (.flat (.int .i64 2))) 1 (.flat (.int .i64 33))) 2 (.flat (.int .i64 x20))), 224, false⟩ fun b22 m21 => kr (.sl b22 0 1 (.ex 1)) m21) (kif (decide (x_3 <= 3)) (∃ Fr23 : Nat -> Prop, Fr23 b_1 /\ (zR .i64 m b_1 (o_1 + 4) fun x24 => zRh x_3 m fun x25 m26 => zV Fr23 m m26 /\ (Fr23 b_1 /\ (zR .i64 m26 b_1 (o_1 + 3) fun x27 => Fr23 b_1 /\ (zR .i64 m26 b_1 (o_1 + 2) fun x28 => zQ m26 ⟨10, zC (zC (Z10) 0 5 (upd (upd (upd (zH [(.flat (.int .i64 0)), (.flat (.int .i64 0)), (.flat (.int .i64 0)), (.flat (.int .i64 0)), (.flat (.int .u32 0))]) 0 (.flat (.int .i64 1))) 1 (.flat (.int .i64 34))) 4 (.flat (.int .u32 (IntKind.wrap .u32 x24))))) 5 5 (upd (upd (upd (upd (zH [(.flat (.int .i64 0)), (.flat (.int .i64 0)), (.flat (.int .i64 0)), (.flat (.int .i64 0)), (.flat (.int .u32 0))]) 0 (.flat (.int .i64 x25))) 1 (.flat (.int .i64 x27))) 2 (.flat (.int .i64 x28))) 3 (.flat (.int .i64 34))), 224, false⟩ fun b30 m29 => kr (.sl b30 0 2 (.ex 2)) m29))))) (kif (decide (x_3 <= 6)) (∃ Fr31 : Nat -> Prop, zRh x_3 m fun x32 m33 => zV Fr31 m m33 /\ (Fr31 b_1 /\ (zR .i64 m33 b_1 (o_1 + 3) fun x34 => Fr31 b_1 /\ (zR .i64 m33 b_1 (o_1 + 2) fun x35 => Fr31 b_1 /\ (zR .i64 m33 b_1 (o_1 + 1) fun x36 => zQ m33 ⟨5, zC (zH [(.flat (.int .i64 0)), (.flat (.int .i64 0)), (.flat (.int .i64 0)), (.flat (.int .i64 0)), (.flat (.int .u32 0))]) 0 5 (upd (upd (upd (upd (zH [(.flat (.int .i64 0)), (.flat (.int .i64 0)), (.flat (.int .i64 0)), (.flat (.int .i64 0)), (.flat (.int .u32 0))]) 0 (.flat (.int .i64 x32))) 1 (.flat (.int .i64 x34))) 2 (.flat (.int .i64 x35))) 3 (.flat (.int .i64 x36))), 224, false⟩ fun b38 m37 => kr (.sl b38 0 1 (.ex 1)) m37))))) (∃ Fr39 : Nat -> Prop, Fr39 b_1 /\ (yN 6 m b_1 o_1 fun c40 => yCj c40 m fun x41 m42 => zV Fr39 m m42 /\ (Fr39 b_1 /\ (zR .i64 m42 b_1 (o_1 + 2) fun x43 => kif (x41 == x43) (kif (decide (x_3 >= 46)) (sX b_1 o_1 x_3 (decide (x_3 <= 52)) m42 (fun v54 m55 => kr v54 m55) (fun m56 => kn  m56)) (sX b_1 o_1 x_3 false m42 (fun v57 m58 => kr v57 m58) (fun m59 => kn  m59))) (sX b_1 o_1 x_3 false m42 (fun v60 m61 => kr v60 m61) (fun m62 => kn  m62)))))))))))))
def yH0 (c_0 : Nat -> AV) (m : Mem) (k : AV -> Mem -> Prop) : Prop :=
 zQ m ⟨6, c_0, 32, false⟩ fun b2 m1 => zR .i64 m1 b2 0 fun x3 => yN 6 m1 b2 0 fun c4 => F97 c4 m1 fun x5 m6 => kif (!x5) (tU b2 0 x3 true m6 (fun v63 m64 => k v63 m64) (fun m65 => vX b2 0 x3 m65 (fun v83 m84 => k v83 m84))) (kif (x3 == 13) (tU b2 0 x3 true m6 (fun v66 m67 => k v66 m67) (fun m68 => vX b2 0 x3 m68 (fun v85 m86 => k v85 m86))) (kif (x3 == 76) (tU b2 0 x3 true m6 (fun v69 m70 => k v69 m70) (fun m71 => vX b2 0 x3 m71 (fun v87 m88 => k v87 m88))) (tU b2 0 x3 (x3 == 77) m6 (fun v72 m73 => k v72 m73) (fun m74 => vX b2 0 x3 m74 (fun v89 m90 => k v89 m90)))))
def xJj := Gs [.g 6] [.a] yH0
def zFj : PcD := ⟨[1, 3, 6], [.p, .i .i64, .b], [⟨.ret, [2], [.a], []⟩, ⟨.normal, [], [], [1, 3]⟩], tU⟩
def zDs : PcD := ⟨[1, 3, 88], [.p, .i .i64, .b], [⟨.ret, [2], [.a], []⟩, ⟨.normal, [], [], [1, 3]⟩], sX⟩
def zD7 : PcD := ⟨[1, 3], [.p, .i .i64], [⟨.ret, [2], [.a], []⟩], vX⟩
def fU : LEnv := yB [] [15, 17, 18, 19, 20] [3004, 19004, 20102] [(3004, xK zFj), (19004, xK zDs), (20102, xK zD7)]
theorem zLi : zF Tryz.prog yCn fU (zY fU (zE Tryz.f125) 0) := zN zD7 (fun _ _ _ => by kernel_rfl) (by kernel_rfl) (fun _ _ _ _ _ => by kernel_rfl)
theorem zK6 : zF Tryz.prog yCn fU (zY fU (zE Tryz.f125) 2) := zN zDs (fun _ _ _ => by kernel_rfl) (by kernel_rfl) (fun _ _ _ _ _ _ => by kernel_rfl)
theorem zOw : zF Tryz.prog yCn fU (zY fU (zE Tryz.f125) 1) := zN zFj (fun _ _ _ => by kernel_rfl) (by kernel_rfl) (fun _ _ _ _ _ _ => by kernel_rfl)
def E95 : zZ := ext yCn 125 xJj
theorem S95 (w0 : World) : SP w0 E95 := sg (xI7 w0) Tryz.func125 Tryz.call125 (Λ := fU) 0 trivial 3 ⟨zLi, zOw, zK6, trivial⟩ (by kernel_rfl) false (fun _ _ _ => by kernel_rfl)
def F95 (b_0 o_0 : Nat) (x_1 : Int) (c_2 : Nat -> AV) (m : Mem) (k : Mem -> Prop) : Prop :=
 zQ m ⟨6, c_2, 32, false⟩ fun b2 m1 => ∃ Fr3 : Nat -> Prop, Fr3 b_0 /\ (ldA m1 b_0 (o_0 + 1) fun v4 => zQ m1 ⟨1, upd (zH [(.flat (.int .u32 0))]) 0 (.flat (.int .u32 x_1)), 22, false⟩ fun b6 m5 => uB 1 4 22 v4 (.sl b6 0 1 (.ex 1)) m5 fun v7 m8 => zV Fr3 m5 m8 /\ (Fr3 b_0 /\ (ldA m8 b_0 (o_0 + 2) fun v9 => Fr3 b2 /\ (yN 6 m8 b2 0 fun c10 => zQ m8 ⟨6, zC (Z6) 0 6 c10, 32, false⟩ fun b12 m11 => uB 6 48 32 v9 (.sl b12 0 1 (.ex 1)) m11 fun v13 m14 => zV Fr3 m11 m14 /\ (stV m14 b_0 (o_0 + 1) v7 fun m15 => stV m15 b_0 (o_0 + 2) v13 fun m16 => ∃ Fr17 : Nat -> Prop, Fr17 b_0 /\ (ldA m16 b_0 (o_0 + 3) fun v18 => Fr17 b2 /\ (yN 6 m16 b2 0 fun c19 => yH0 c19 m16 fun v20 m21 => zV Fr17 m16 m21 /\ (yJw v20 m21 fun v22 m23 => zV Fr17 m21 m23 /\ (kif (AV.one v22) (zQ m23 ⟨1, upd (zH [(.flat (.slice none 0 0))]) 0 v22, 132, false⟩ fun b25 m24 => uB 1 24 132 v18 (.sl b25 0 1 (.ex 1)) m24 fun v26 m27 => zV Fr17 m24 m27 /\ (stV m27 b_0 (o_0 + 3) v26 fun m28 => k  m28)) False)))))))))
def G95 := Gs [.p, .i .u32, .g 6] [] F95
def yZ0 : LEnv := yB [] [1, 2] [] []
def E68 : zZ := ext E95 95 G95
theorem S68 (w0 : World) : SP w0 E68 := sg (S95 w0) Tryz.func95 Tryz.call95 (Λ := yZ0) 0 trivial 0 trivial (by kernel_rfl) false (fun _ _ _ _ _ _ => by kernel_rfl)
def oR (b_0 o_0 : Nat) (x_1 : Int) (b_6 o_6 : Nat) (b_8 o_8 : Nat) (x_9 : Bool) (x_12 : Int) (b_14 o_14 : Nat) (x_15 : Int) (x_35 : Int) (x_36 : Int) (m : Mem) (k0 : Mem -> Prop) (kn : Bool -> Mem -> Prop) : Prop :=
 yN 6 m b_14 o_14 fun c21 => F95 b_8 o_8 x_12 c21 m fun m22 => kif x_9 (k0  m22) (kif (x_15 == 6) (k0  m22) (kn (x_15 == 3) m22))
def nK (b_0 o_0 : Nat) (x_1 : Int) (b_6 o_6 : Nat) (b_8 o_8 : Nat) (x_9 : Bool) (x_11 : Int) (x_35 : Int) (x_36 : Int) (m : Mem) (k0 : Mem -> Prop) (kn : Bool -> Mem -> Prop) : Prop :=
 F32 b_0 o_0 x_11 4 m fun x10 x11 m12 => F93 x10 m12 fun c13 m14 => zQ m14 ⟨6, Z6, 32, false⟩ fun b16 m15 => vA 6 m15 b16 0 c13 fun m17 => yN 6 m17 b16 0 fun c18 => F94 c18 m17 fun x19 m20 => kif x_9 (kif (x19 == 3) (k0  m20) (kif (x19 == 6) (k0  m20) (oR b_0 o_0 x_1 b_6 o_6 b_8 o_8 x_9 x10 b16 0 x19 x_35 x_36 m20 (fun m23 => k0  m23) (fun x24 m25 => kn x24 m25)))) (oR b_0 o_0 x_1 b_6 o_6 b_8 o_8 x_9 x10 b16 0 x19 x_35 x_36 m20 (fun m26 => k0  m26) (fun x27 m28 => kn x27 m28))
def zHi (b_0 o_0 : Nat) (x_1 : Int) (b_6 o_6 : Nat) (b_8 o_8 : Nat) (x_35 : Int) (x_9 : Bool) (x_36 : Int) (m : Mem) (kn : Bool -> Int -> Mem -> Prop) (k0 : Mem -> Prop) : Prop :=
 kif (decide (x_36 < x_35)) (kif (decide (x_36 > 0)) (kif (((IntKind.wrap .u32 (x_1 + (IntKind.wrap .u32 (IntKind.wrap .i64 (4 * x_36))))).tmod 1024) == 0) (k0  m) (nK b_0 o_0 x_1 b_6 o_6 b_8 o_8 x_9 (IntKind.wrap .u32 (x_1 + (IntKind.wrap .u32 (IntKind.wrap .i64 (4 * x_36))))) x_35 x_36 m (fun m29 => k0  m29) (fun x30 m31 => kn x30 (IntKind.wrap .i64 (x_36 + 1)) m31))) (nK b_0 o_0 x_1 b_6 o_6 b_8 o_8 x_9 (IntKind.wrap .u32 (x_1 + (IntKind.wrap .u32 (IntKind.wrap .i64 (4 * x_36))))) x_35 x_36 m (fun m32 => k0  m32) (fun x33 m34 => kn x33 (IntKind.wrap .i64 (x_36 + 1)) m34))) (k0  m)
def zIg (b_0 o_0 : Nat) (x_1 : Int) (b_6 o_6 : Nat) (b_8 o_8 : Nat) (x_35 : Int) : Nat -> Bool -> Int -> Mem -> (Mem -> Prop) -> Prop
 | 0, _, _,  _, _ => yT False
 | N + 1, x_9, x_36,  m, k0 => zHi b_0 o_0 x_1 b_6 o_6 b_8 o_8 x_35 x_9 x_36 m (fun x_9' x_36' m' => zIg b_0 o_0 x_1 b_6 o_6 b_8 o_8 x_35 N x_9' x_36' m' k0) k0
def F68 (b_0 o_0 : Nat) (x_1 : Int) (x_2 : Int) (m : Mem) (k : (Nat -> AV) -> Bool -> Mem -> Prop) : Prop :=
 zQ m ⟨4, zH [(.flat (.int .u32 0)), (.flat (.slice none 0 0)), (.flat (.slice none 0 0)), (.flat (.slice none 0 0))], 85, false⟩ fun b2 m1 => kif ((x_1.tmod 4) != 0) (vA 4 m1 b2 0 (zH [(.flat (.int .u32 0)), (.flat (.slice none 0 0)), (.flat (.slice none 0 0)), (.flat (.slice none 0 0))]) fun m5 => yN 4 m5 b2 0 fun c39 => k c39 false m5) (F63 b_0 o_0 m1 fun x3 m4 => kif (decide (x_1 >= x3)) (vA 4 m4 b2 0 (zH [(.flat (.int .u32 0)), (.flat (.slice none 0 0)), (.flat (.slice none 0 0)), (.flat (.slice none 0 0))]) fun m6 => yN 4 m6 b2 0 fun c40 => k c40 false m6) (zQ m4 ⟨4, zH [(.flat (.int .u32 0)), (.flat (.slice none 0 0)), (.flat (.slice none 0 0)), (.flat (.slice none 0 0))], 85, false⟩ fun b8 m7 => vA 4 m7 b8 0 (upd (zH [(.flat (.int .u32 0)), (.flat (.slice none 0 0)), (.flat (.slice none 0 0)), (.flat (.slice none 0 0))]) 0 (.flat (.int .u32 x_1))) fun m9 => ∃ N36, zIg b_0 o_0 x_1 b2 0 b8 0 (if (if 32 < x_2 then 32 else x_2) > 1 then (if 32 < x_2 then 32 else x_2) else 1) N36 false 0 m9 (fun m35 => yN 4 m35 b8 0 fun c37 => vA 4 m35 b2 0 c37 fun m38 => yN 4 m38 b2 0 fun c41 => k c41 true m38)))
def G68 := Gs [.p, .i .u32, .i .i64] [.g 4, .b] F68
def yMv : LpD := ⟨[0, 1, 6, 8, 35], [.p, .i .u32, .p, .p, .i .i64], [9, 36], [.b, .i .i64], [⟨.exit 0, [], [], [6, 8]⟩], zHi, zIg⟩
def zHx : PcD := ⟨[0, 1, 6, 8, 9, 11, 35, 36], [.p, .i .u32, .p, .p, .b, .i .u32, .i .i64, .i .i64], [⟨.exit 0, [], [], [6, 8]⟩, ⟨.normal, [9], [.b], [0, 1, 6, 8, 35, 36]⟩], nK⟩
def zIt : PcD := ⟨[0, 1, 6, 8, 9, 12, 14, 15, 35, 36], [.p, .i .u32, .p, .p, .b, .i .u32, .p, .i .i64, .i .i64, .i .i64], [⟨.exit 0, [], [], [6, 8]⟩, ⟨.normal, [9], [.b], [0, 1, 6, 8, 35, 36]⟩], oR⟩
def zFo : LEnv := yB [(7, pY yMv)] [] [11102, 15102] [(11102, xK zHx), (15102, xK zIt)]
theorem zMs : zF Tryz.prog E68 zFo (zY zFo (zE Tryz.f68) 1) := zN zIt (fun _ _ _ => by kernel_rfl) (by kernel_rfl) (fun _ _ _ _ _ _ _ _ _ _ _ _ _ _ _ _ => by kernel_rfl)
theorem zO0 : zF Tryz.prog E68 zFo (zY zFo (zE Tryz.f68) 0) := zN zHx (fun _ _ _ => by kernel_rfl) (by kernel_rfl) (fun _ _ _ _ _ _ _ _ _ _ _ _ _ => by kernel_rfl)
theorem yHq : yI Tryz.prog E68 zFo (wP (zE Tryz.f68) 0) := xM yMv (fun _ _ _ => by kernel_rfl) (by kernel_rfl) (fun _ _ _ _ _ _ _ _ _ _ _ _ _ => by kernel_rfl) (fun _ _ _ _ _ _ _ _ _ _ _ _ _ _ => by kernel_rfl) (fun _ _ _ _ _ _ _ _ _ _ _ _ _ => by kernel_rfl)
def E96 : zZ := ext E68 68 G68
theorem S96 (w0 : World) : SP w0 E96 := sg (S68 w0) Tryz.func68 Tryz.call68 (Λ := zFo) 1 ⟨yHq, trivial⟩ 2 ⟨zO0, zMs, trivial⟩ (by kernel_rfl) false (fun _ _ _ _ _ _ => by kernel_rfl)
def F96 (b_0 o_0 : Nat) (m : Mem) (k : Bool -> Mem -> Prop) : Prop :=
 ldA m b_0 (o_0 + 1) fun v1 => xJ v1 fun x2 => kif (x2 == 0) (k false m) (ldA m b_0 (o_0 + 2) fun v3 => ldA m b_0 (o_0 + 1) fun v4 => vD v4 fun b5 o6 l7 p8 => kif (decide (0 <= (0 : Int)) && decide ((0 : Int) < l7)) (yN 3 m b5 (o6 + 0) fun c9 => dI zE3 3 v3 c9 m fun m10 => ldA m10 b_0 (o_0 + 1) fun v11 => yBs v11 0 1 m10 fun v12 m13 => stV m13 b_0 (o_0 + 1) v12 fun m14 => k true m14) False)
def G96 := Gs [.p] [.b] F96
def E69 : zZ := ext E96 96 G96
theorem S69 (w0 : World) : SP w0 E69 := xU (S96 w0) Tryz.func96 Tryz.call96 (by kernel_rfl) false (fun _ _ _ _ => by kernel_rfl)
def pE (b_0 o_0 : Nat) (b_4 o_4 : Nat) (b_5 o_5 : Nat) (m : Mem) (kn : Mem -> Prop) : Prop :=
 yN 3 m b_4 o_4 fun c19 => F87 b_0 o_0 c19 m fun m20 => ldA m20 b_0 (o_0 + 1) fun v21 => yN 3 m20 b_4 o_4 fun c22 => zQ m20 ⟨3, zC (zH [(.flat (.int .u32 0)), (.flat (.int .i64 0)), (.flat (.int .i64 0))]) 0 3 c22, 125, false⟩ fun b24 m23 => uB 3 24 125 v21 (.sl b24 0 1 (.ex 1)) m23 fun v25 m26 => stV m26 b_0 (o_0 + 1) v25 fun m27 => ldA m27 b_0 (o_0 + 2) fun v28 => yN 3 m27 b_4 o_4 fun c29 => yN 4 m27 b_5 o_5 fun c30 => aQ zE3 3 v28 c29 4 c30 m27 fun m31 => kn  m31
def nC (b_0 o_0 : Nat) (b_4 o_4 : Nat) (b_5 o_5 : Nat) (x_30 : Bool) (m : Mem) (kn : Mem -> Prop) : Prop :=
 kif x_30 (F96 b_0 o_0 m fun x15 m16 => kn  m16) (kn  m)
def F69 (b_0 o_0 : Nat) (c_1 : Nat -> AV) (c_2 : Nat -> AV) (m : Mem) (k : Mem -> Prop) : Prop :=
 zQ m ⟨3, c_1, 125, false⟩ fun b2 m1 => zQ m1 ⟨4, c_2, 85, false⟩ fun b4 m3 => ldA m3 b_0 (o_0 + 2) fun v5 => yN 3 m3 b2 0 fun c6 => kU zE3 3 v5 c6 4 (zH [(.flat (.int .u32 0)), (.flat (.slice none 0 0)), (.flat (.slice none 0 0)), (.flat (.slice none 0 0))]) m3 fun c7 x8 => zQ m3 ⟨4, zH [(.flat (.int .u32 0)), (.flat (.slice none 0 0)), (.flat (.slice none 0 0)), (.flat (.slice none 0 0))], 85, false⟩ fun b10 m9 => vA 4 m9 b10 0 c7 fun m11 => kif (!x8) (ldA m11 b_0 (o_0 + 1) fun v12 => xJ v12 fun x13 => zR .i64 m11 b_0 (o_0 + 0) fun x14 => nC b_0 o_0 b2 0 b4 0 (decide (x13 >= x14)) m11 (fun m17 => pE b_0 o_0 b2 0 b4 0 m17 (fun m32 => k  m32))) (nC b_0 o_0 b2 0 b4 0 false m11 (fun m18 => pE b_0 o_0 b2 0 b4 0 m18 (fun m33 => k  m33)))
def G69 := Gs [.p, .g 3, .g 4] [] F69
def zMu : PcD := ⟨[0, 4, 5, 30], [.p, .p, .p, .b], [⟨.normal, [], [], [0, 4, 5]⟩], nC⟩
def zM9 : PcD := ⟨[0, 4, 5], [.p, .p, .p], [⟨.normal, [], [], []⟩], pE⟩
def zQk : LEnv := yB [] [] [3004, 4102] [(3004, xK zMu), (4102, xK zM9)]
theorem zT6 : zF Tryz.prog E69 zQk (zY zQk (zE Tryz.f69) 0) := zN zM9 (fun _ _ _ => by kernel_rfl) (by kernel_rfl) (fun _ _ _ _ _ _ _ _ => by kernel_rfl)
theorem zS8 : zF Tryz.prog E69 zQk (zY zQk (zE Tryz.f69) 1) := zN zMu (fun _ _ _ => by kernel_rfl) (by kernel_rfl) (fun _ _ _ _ _ _ _ _ _ => by kernel_rfl)
def E88 : zZ := ext E69 69 G69
theorem S88 (w0 : World) : SP w0 E88 := sg (S69 w0) Tryz.func69 Tryz.call69 (Λ := zQk) 0 trivial 2 ⟨zT6, zS8, trivial⟩ (by kernel_rfl) false (fun _ _ _ _ _ _ => by kernel_rfl)
def F88 (b_0 o_0 : Nat) (x_1 : Int) (m : Mem) (k : Bool -> Mem -> Prop) : Prop :=
 kif (decide (x_1 >= 0)) (ldA m b_0 (o_0 + 1) fun v1 => xJ v1 fun x2 => (zA m m /\ k (decide (x_1 < x2)) m)) ((zA m m /\ k false m))
def G88 := Gs [.p, .i .i64] [.b] F88
def E70 : zZ := ext E88 88 G88
theorem S70 (w0 : World) : SP w0 E70 := xU (S88 w0) Tryz.func88 Tryz.call88 (by kernel_rfl) true (fun _ _ _ _ _ => by kernel_rfl)
def F70 (b_0 o_0 : Nat) (x_1 : Int) (m : Mem) (k : Mem -> Prop) : Prop :=
 F88 b_0 o_0 x_1 m fun x1 m2 => kif x1 (ldA m2 b_0 (o_0 + 1) fun v3 => vD v3 fun b4 o5 l6 p7 => kif (decide (0 <= x_1) && decide (x_1 < l6)) (wF m2 b4 (o5 + (x_1).toNat * 1) (.flat (.bool true)) fun m8 => k  m8) False) (k  m2)
def G70 := Gs [.p, .i .i64] [] F70
def E41 : zZ := ext E70 70 G70
theorem S41 (w0 : World) : SP w0 E41 := xU (S70 w0) Tryz.func70 Tryz.call70 (by kernel_rfl) false (fun _ _ _ _ _ => by kernel_rfl)
def nB (b_0 o_0 : Nat) (b_2 o_2 : Nat) (b_8 o_8 : Nat) (m : Mem) (kr : Bool -> Mem -> Prop) : Prop :=
 ∃ Fr78 : Nat -> Prop, Fr78 b_0 /\ (ldA m b_0 (o_0 + 73) fun v79 => yD v79 fun b80 o81 => F30 b80 o81 m fun v82 m83 => zV Fr78 m m83 /\ (Fr78 b_8 /\ (yN 4 m83 b_8 o_8 fun c84 => F67 c84 m83 fun x85 m86 => zV Fr78 m83 m86 /\ (yD v82 fun b87 o88 => F70 b87 o88 x85 m86 fun m89 => zV Fr78 m86 m89 /\ (zR .i64 m89 b_0 (o_0 + 77) fun x90 => wF m89 b_0 (o_0 + 77) (.flat (.int .i64 (IntKind.wrap .i64 (x90 + 1)))) fun m91 => yN 4 m91 b_8 o_8 fun c92 => vA 4 m91 b_2 o_2 c92 fun m93 => kr true m93)))))
def nY (b_0 o_0 : Nat) (b_2 o_2 : Nat) (x_4 : Int) (b_7 o_7 : Nat) (b_8 o_8 : Nat) (x_9 : Bool) (m : Mem) (kr : Bool -> Mem -> Prop) : Prop :=
 kif (!x_9) (∃ Fr57 : Nat -> Prop, Fr57 b_0 /\ (ldA m b_0 (o_0 + 73) fun v58 => yD v58 fun b59 o60 => F30 b59 o60 m fun v61 m62 => zV Fr57 m m62 /\ (Fr57 b_0 /\ (zR .i64 m62 b_0 (o_0 + 75) fun x63 => yD v61 fun b64 o65 => F68 b64 o65 x_4 x63 m62 fun c66 x67 m68 => zV Fr57 m62 m68 /\ (vA 4 m68 b_8 o_8 c66 fun m69 => ldA m69 b_0 (o_0 + 74) fun v70 => yN 3 m69 b_7 o_7 fun c71 => yN 4 m69 b_8 o_8 fun c72 => yD v70 fun b73 o74 => F69 b73 o74 c71 c72 m69 fun m75 => zR .i64 m75 b_0 (o_0 + 76) fun x76 => wF m75 b_0 (o_0 + 76) (.flat (.int .i64 (IntKind.wrap .i64 (x76 + 1)))) fun m77 => nB b_0 o_0 b_2 o_2 b_8 o_8 m77 (fun x94 m95 => kr x94 m95)))))) (nB b_0 o_0 b_2 o_2 b_8 o_8 m (fun x96 m97 => kr x96 m97))
def kX (b_0 o_0 : Nat) (b_2 o_2 : Nat) (x_4 : Int) (b_7 o_7 : Nat) (b_8 o_8 : Nat) (x_9 : Bool) (x_65 : Bool) (m : Mem) (kn : Bool -> Mem -> Prop) : Prop :=
 kif x_65 (∃ Fr48 : Nat -> Prop, Fr48 b_0 /\ (ldA m b_0 (o_0 + 74) fun v49 => Fr48 b_8 /\ (yN 4 m b_8 o_8 fun c50 => F67 c50 m fun x51 m52 => zV Fr48 m m52 /\ (yT False)))) (kn x_9 m)
def F41 (b_0 o_0 : Nat) (m : Mem) (k : (Nat -> AV) -> Bool -> Mem -> Prop) : Prop :=
 zQ m ⟨4, zH [(.flat (.int .u32 0)), (.flat (.slice none 0 0)), (.flat (.slice none 0 0)), (.flat (.slice none 0 0))], 85, false⟩ fun b2 m1 => zR .u32 m1 b_0 (o_0 + 0 + 34) fun x3 => F62 b_0 (o_0 + 0) x3 4 false m1 fun x4 x5 x6 m7 => kif (x5 != (-1)) (vA 4 m7 b2 0 (zH [(.flat (.int .u32 0)), (.flat (.slice none 0 0)), (.flat (.slice none 0 0)), (.flat (.slice none 0 0))]) fun m17 => yN 4 m17 b2 0 fun c102 => k c102 false m17) (ldA m7 b_0 (o_0 + 73) fun v8 => yD v8 fun b9 o10 => F30 b9 o10 m7 fun v11 m12 => yD v11 fun b13 o14 => F63 b13 o14 m12 fun x15 m16 => kif (decide (x4 >= x15)) (vA 4 m16 b2 0 (zH [(.flat (.int .u32 0)), (.flat (.slice none 0 0)), (.flat (.slice none 0 0)), (.flat (.slice none 0 0))]) fun m18 => yN 4 m18 b2 0 fun c103 => k c103 false m18) (∃ Fr19 : Nat -> Prop, F64 b_0 (o_0 + 0) m16 fun x20 m21 => zV Fr19 m16 m21 /\ (Fr19 b_0 /\ (zR .i64 m21 b_0 (o_0 + 75) fun x22 => zQ m21 ⟨3, zH [(.flat (.int .u32 0)), (.flat (.int .i64 0)), (.flat (.int .i64 0))], 125, false⟩ fun b24 m23 => vA 3 m23 b24 0 (upd (upd (upd (zH [(.flat (.int .u32 0)), (.flat (.int .i64 0)), (.flat (.int .i64 0))]) 0 (.flat (.int .u32 x4))) 1 (.flat (.int .i64 x20))) 2 (.flat (.int .i64 x22))) fun m25 => ∃ Fr26 : Nat -> Prop, Fr26 b_0 /\ (ldA m25 b_0 (o_0 + 74) fun v27 => Fr26 b24 /\ (yN 3 m25 b24 0 fun c28 => yD v27 fun b29 o30 => F65 b29 o30 c28 m25 fun c31 x32 m33 => zV Fr26 m25 m33 /\ (zQ m33 ⟨4, zH [(.flat (.int .u32 0)), (.flat (.slice none 0 0)), (.flat (.slice none 0 0)), (.flat (.slice none 0 0))], 85, false⟩ fun b35 m34 => vA 4 m34 b35 0 c31 fun m36 => ∃ Fr37 : Nat -> Prop, kif x32 (Fr37 b35 /\ (yN 4 m36 b35 0 fun c38 => Fr37 b_0 /\ (ldA m36 b_0 (o_0 + 73) fun v39 => yD v39 fun b40 o41 => F30 b40 o41 m36 fun v42 m43 => zV Fr37 m36 m43 /\ (yD v42 fun b44 o45 => F66 c38 b44 o45 m43 fun x46 m47 => zV Fr37 m43 m47 /\ (kX b_0 o_0 b2 0 x4 b24 0 b35 0 x32 (!x46) m47 (fun x53 m54 => nY b_0 o_0 b2 0 x4 b24 0 b35 0 x53 m54 (fun x98 m99 => yN 4 m99 b2 0 fun c104 => k c104 x98 m99))))))) (kX b_0 o_0 b2 0 x4 b24 0 b35 0 x32 false m36 (fun x55 m56 => nY b_0 o_0 b2 0 x4 b24 0 b35 0 x55 m56 (fun x100 m101 => yN 4 m101 b2 0 fun c105 => k c105 x100 m101))))))))))
def G41 := Gs [.p] [.g 4, .b] F41
def zPy : PcD := ⟨[0, 2, 4, 7, 8, 9, 65], [.p, .p, .i .u32, .p, .p, .b, .b], [⟨.normal, [9], [.b], [0, 2, 4, 7, 8]⟩], kX⟩
def zN0 : PcD := ⟨[0, 2, 4, 7, 8, 9], [.p, .p, .i .u32, .p, .p, .b], [⟨.ret, [3], [.b], [2]⟩], nY⟩
def zFh : PcD := ⟨[0, 2, 8], [.p, .p, .p], [⟨.ret, [3], [.b], [2]⟩], nB⟩
def zEk : LEnv := yB [] [4, 5, 6, 7, 10, 13] [7004, 9103, 13102] [(7004, xK zPy), (9103, xK zN0), (13102, xK zFh)]
theorem zQ5 : zF Tryz.prog E41 zEk (zY zEk (zE Tryz.f41) 2) := zN zFh (fun _ _ _ => by kernel_rfl) (by kernel_rfl) (fun _ _ _ _ _ _ _ _ => by kernel_rfl)
theorem zTu : zF Tryz.prog E41 zEk (zY zEk (zE Tryz.f41) 0) := zN zN0 (fun _ _ _ => by kernel_rfl) (by kernel_rfl) (fun _ _ _ _ _ _ _ _ _ _ _ _ => by kernel_rfl)
theorem zTo : zF Tryz.prog E41 zEk (zY zEk (zE Tryz.f41) 1) := zN zPy (fun _ _ _ => by kernel_rfl) (by kernel_rfl) (fun _ _ _ _ _ _ _ _ _ _ _ _ _ => by kernel_rfl)
def E77 : zZ := ext E41 41 G41
theorem S77 (w0 : World) : SP w0 E77 := sg (S41 w0) Tryz.func41 Tryz.call41 (Λ := zEk) 0 trivial 3 ⟨zTu, zTo, zQ5, trivial⟩ (by kernel_rfl) false (fun _ _ _ _ => by kernel_rfl)
def kN (b_0 o_0 : Nat) (x_1 : Int) (x_5 : Int) (m : Mem) (kr : Bool -> Mem -> Prop) : Prop :=
 zR .i64 m b_0 (o_0 + 72) fun x3 => wF m b_0 (o_0 + 72) (.flat (.int .i64 (IntKind.wrap .i64 (x3 + x_1)))) fun m4 => zR .u32 m4 b_0 (o_0 + 39 + 9) fun x5 => wF m4 b_0 (o_0 + 39 + 9) (.flat (.int .u32 (IntKind.wrap .u32 (x5 + (IntKind.wrap .u32 x_1))))) fun m6 => kif (decide (x_1 < x_5)) (kr false m6) (zR .u32 m6 b_0 (o_0 + 39 + 13) fun x7 => wF m6 b_0 (o_0 + 39 + 13) (.flat (.int .u32 (bits .or .u32 x7 32768))) fun m8 => kr true m8)
def F77 (b_0 o_0 : Nat) (x_1 : Int) (m : Mem) (k : Bool -> Mem -> Prop) : Prop :=
 kif (decide (x_1 < 1)) (k false m) (zR .u32 m b_0 (o_0 + 39 + 11) fun x1 => zR .u32 m b_0 (o_0 + 39 + 9) fun x2 => kif ((IntKind.wrap .i64 (IntKind.wrap .u32 (x1 - x2))) == 0) (kN b_0 o_0 x_1 4294967296 m (fun x9 m10 => k x9 m10)) (kN b_0 o_0 x_1 (IntKind.wrap .i64 (IntKind.wrap .u32 (x1 - x2))) m (fun x11 m12 => k x11 m12)))
def G77 := Gs [.p, .i .i64] [.b] F77
def zQg : PcD := ⟨[0, 1, 5], [.p, .i .i64, .i .i64], [⟨.ret, [4], [.b], []⟩], kN⟩
def yAc : LEnv := yB [] [] [6102] [(6102, xK zQg)]
theorem zSx : zF Tryz.prog E77 yAc (zY yAc (zE Tryz.f77) 0) := zN zQg (fun _ _ _ => by kernel_rfl) (by kernel_rfl) (fun _ _ _ _ _ _ => by kernel_rfl)
def yXb : zZ := ext E77 77 G77
theorem xAq (w0 : World) : SP w0 yXb := sg (S77 w0) Tryz.func77 Tryz.call77 (Λ := yAc) 0 trivial 1 ⟨zSx, trivial⟩ (by kernel_rfl) false (fun _ _ _ _ _ => by kernel_rfl)
def yA0 (b_0 o_0 : Nat) (x_1 : Int) (m : Mem) (k : Mem -> Prop) : Prop :=
 wF m b_0 (o_0 + 34) (.flat (.int .u32 x_1)) fun m1 => wF m1 b_0 (o_0 + 35) (.flat (.int .u32 (IntKind.wrap .u32 (x_1 + 4)))) fun m2 => wF m2 b_0 (o_0 + 36) (.flat (.bool false)) fun m3 => k  m3
def xJs := Gs [.p, .i .u32] [] yA0
def yJy : zZ := ext yXb 135 xJs
theorem xBz (w0 : World) : SP w0 yJy := xU (xAq w0) Tryz.func135 Tryz.call135 (by kernel_rfl) false (fun _ _ _ _ _ => by kernel_rfl)
def tK (b_0 o_0 : Nat) (x_1 : Int) (x_6 : Int) (m : Mem) (kn : Mem -> Prop) : Prop :=
 zR .u32 m b_0 (o_0 + 39 + 13) fun x15 => wF m b_0 (o_0 + 39 + 13) (.flat (.int .u32 (bits .or .u32 (bits .andNot .u32 x15 124) (IntKind.wrap .u32 ((IntKind.wrap .u32 (bits .and .i64 x_1 31)) * 4))))) fun m16 => yA0 b_0 o_0 x_6 m16 fun m17 => zR .u32 m17 b_0 (o_0 + 39 + 12) fun x18 => wF m17 b_0 (o_0 + 39 + 12) (.flat (.int .u32 (bits .or .u32 x18 2))) fun m19 => kn  m19
def nX (b_0 o_0 : Nat) (x_1 : Int) (x_2 : Bool) (x_6 : Int) (m : Mem) (kn : Int -> Mem -> Prop) : Prop :=
 kif x_2 (kn 2147483648 m) (kn x_6 m)
def yGv (b_0 o_0 : Nat) (x_1 : Int) (x_2 : Bool) (m : Mem) (k : Mem -> Prop) : Prop :=
 zR .u32 m b_0 (o_0 + 39 + 12) fun x1 => kif ((bits .and .u32 x1 2) == 0) (zR .u32 m b_0 (o_0 + 34) fun x2 => wF m b_0 (o_0 + 39 + 14) (.flat (.int .u32 x2)) fun m3 => zR .u32 m3 b_0 (o_0 + 39 + 13) fun x4 => wF m3 b_0 (o_0 + 39 + 13) (.flat (.int .u32 (bits .andNot .u32 x4 2147483648))) fun m5 => ldB m5 b_0 (o_0 + 36) fun x6 => kif x6 (zR .u32 m5 b_0 (o_0 + 34) fun x7 => wF m5 b_0 (o_0 + 39 + 14) (.flat (.int .u32 (IntKind.wrap .u32 (x7 - 4)))) fun m8 => zR .u32 m8 b_0 (o_0 + 39 + 13) fun x9 => wF m8 b_0 (o_0 + 39 + 13) (.flat (.int .u32 (bits .or .u32 x9 2147483648))) fun m10 => nX b_0 o_0 x_1 x_2 2147484032 m10 (fun x11 m12 => tK b_0 o_0 x_1 x11 m12 (fun m20 => k  m20))) (nX b_0 o_0 x_1 x_2 2147484032 m5 (fun x13 m14 => tK b_0 o_0 x_1 x13 m14 (fun m21 => k  m21)))) (tK b_0 o_0 x_1 2147484032 m (fun m22 => k  m22))
def xHj := Gs [.p, .i .i64, .b] [] yGv
def zGz : PcD := ⟨[0, 1, 2, 6], [.p, .i .i64, .b, .i .u32], [⟨.normal, [6], [.i .u32], [0, 1]⟩], nX⟩
def zDm : PcD := ⟨[0, 1, 6], [.p, .i .i64, .i .u32], [⟨.normal, [], [], []⟩], tK⟩
def zC5 : LEnv := yB [] [] [8102, 10102] [(8102, xK zGz), (10102, xK zDm)]
theorem zJn : zF Tryz.prog yJy zC5 (zY zC5 (zE Tryz.f102) 0) := zN zDm (fun _ _ _ => by kernel_rfl) (by kernel_rfl) (fun _ _ _ _ _ _ => by kernel_rfl)
theorem zOt : zF Tryz.prog yJy zC5 (zY zC5 (zE Tryz.f102) 1) := zN zGz (fun _ _ _ => by kernel_rfl) (by kernel_rfl) (fun _ _ _ _ _ _ _ => by kernel_rfl)
def E74 : zZ := ext yJy 102 xHj
theorem S74 (w0 : World) : SP w0 E74 := sg (xBz w0) Tryz.func102 Tryz.call102 (Λ := zC5) 0 trivial 2 ⟨zJn, zOt, trivial⟩ (by kernel_rfl) false (fun _ _ _ _ _ _ => by kernel_rfl)
def F74 (b_0 o_0 : Nat) (b_1 o_1 : Nat) (x_2 : Int) (x_3 : Bool) (m : Mem) (k : Int -> Mem -> Prop) : Prop :=
 yGv b_0 o_0 x_2 x_3 m fun m1 => F77 b_0 o_0 1 m1 fun x2 m3 => F60 b_1 o_1 m3 fun x4 m5 => F59 b_0 o_0 x4 m5 fun m6 => k x_2 m6
def G74 := Gs [.p, .p, .i .i64, .b] [.i .i64] F74
def yO2 : zZ := ext E74 74 G74
theorem xDm (w0 : World) : SP w0 yO2 := xU (S74 w0) Tryz.func74 Tryz.call74 (by kernel_rfl) false (fun _ _ _ _ _ _ _ _ => by kernel_rfl)
def jL (x_7 : Int) (m : Mem) (kr : Bool -> Mem -> Prop) : Prop :=
 kr (x_7 != (IntKind.wrap .i64 (IntKind.wrap .i32 x_7))) m
def yEd (x_0 : Int) (x_1 : Int) (x_2 : Bool) (m : Mem) (k : Bool -> Mem -> Prop) : Prop :=
 kif x_2 (jL (IntKind.wrap .i64 ((IntKind.wrap .i64 (IntKind.wrap .i32 x_0)) - (IntKind.wrap .i64 (IntKind.wrap .i32 x_1)))) m (fun x1 m2 => (zA m m2 /\ k x1 m))) (jL (IntKind.wrap .i64 ((IntKind.wrap .i64 (IntKind.wrap .i32 x_0)) + (IntKind.wrap .i64 (IntKind.wrap .i32 x_1)))) m (fun x3 m4 => (zA m m4 /\ k x3 m)))
def xI3 := Gs [.i .u32, .i .u32, .b] [.b] yEd
def zIw : PcD := ⟨[7], [.i .i64], [⟨.ret, [6], [.b], []⟩], jL⟩
def zSs : LEnv := yB [] [] [4102] [(4102, xK zIw)]
theorem zPs : zF Tryz.prog yO2 zSs (zY zSs (zE Tryz.f185) 0) := zN zIw (fun _ _ _ => by kernel_rfl) (by kernel_rfl) (fun _ _ _ => by kernel_rfl)
def yQb : zZ := ext yO2 185 xI3
theorem xKs (w0 : World) : SP w0 yQb := sg (xDm w0) Tryz.func185 Tryz.call185 (Λ := zSs) 0 trivial 1 ⟨zPs, trivial⟩ (by kernel_rfl) true (fun _ _ _ _ _ => by kernel_rfl)
def oS (x_1 : Int) (x_2 : Int) (b_3 o_3 : Nat) (x_8 : Int) (x_9 : Bool) (m : Mem) (kr : Bool -> Mem -> Prop) (kn : Mem -> Prop) : Prop :=
 kif x_9 (zR .i64 m b_3 (o_3 + 0) fun x4 => yEd x_1 x_2 (x4 == 24) m fun x5 m6 => kr x5 m6) (kif (x_8 == 46) (zR .u32 m b_3 (o_3 + 5) fun x7 => zAq x7 16 m fun x8 m9 => yEd x_1 x8 false m9 fun x10 m11 => kr x10 m11) (kif (x_8 == 32) (zFa x_1 x_2 true m fun x12 m13 => kr (!x12) m13) (kif (x_8 == 33) (zFa x_1 x_2 true m fun x14 m15 => kr x14 m15) (kif (x_8 == 34) (kr (x_1 == x_2) m) (kif (x_8 == 35) (kr (x_1 != x_2) m) (kn  m))))))
def yOs (c_0 : Nat -> AV) (x_1 : Int) (x_2 : Int) (m : Mem) (k : Bool -> Mem -> Prop) : Prop :=
 zQ m ⟨6, c_0, 32, false⟩ fun b2 m1 => zR .i64 m1 b2 0 fun x3 => kif (x3 == 22) (oS x_1 x_2 b2 0 x3 (x3 == 22) m1 (fun x16 m17 => (zA m m17 /\ k x16 m)) (fun m18 => (zA m m18 /\ k false m))) (oS x_1 x_2 b2 0 x3 (x3 == 24) m1 (fun x19 m20 => (zA m m20 /\ k x19 m)) (fun m21 => (zA m m21 /\ k false m)))
def xK5 := Gs [.g 6, .i .u32, .i .u32] [.b] yOs
def zFv : PcD := ⟨[1, 2, 3, 8, 9], [.i .u32, .i .u32, .p, .i .i64, .b], [⟨.ret, [6], [.b], []⟩, ⟨.normal, [], [], []⟩], oS⟩
def zUn : LEnv := yB [] [] [4004] [(4004, xK zFv)]
theorem zP4 : zF Tryz.prog yQb zUn (zY zUn (zE Tryz.f139) 0) := zN zFv (fun _ _ _ => by kernel_rfl) (by kernel_rfl) (fun _ _ _ _ _ _ _ _ => by kernel_rfl)
def yHo : zZ := ext yQb 139 xK5
theorem xIn (w0 : World) : SP w0 yHo := sg (xKs w0) Tryz.func139 Tryz.call139 (Λ := zUn) 0 trivial 1 ⟨zP4, trivial⟩ (by kernel_rfl) true (fun _ _ _ _ _ => by kernel_rfl)
def rI (b_0 o_0 : Nat) (b_3 o_3 : Nat) (x_6 : Int) (x_28 : Bool) (m : Mem) (kr : Int -> Mem -> Prop) (kn : Mem -> Prop) : Prop :=
 kif x_28 (kr 11 m) (kif (x_6 == 62) (kr 11 m) (yN 6 m b_3 o_3 fun c10 => yFh c10 m fun x11 m12 => kif (!x11) (kr 10 m12) (kif (x_6 == 11) (kr 8 m12) (kif (x_6 == 12) (kr 9 m12) (yN 6 m12 b_3 o_3 fun c13 => zR .i64 m12 b_3 (o_3 + 1) fun x14 => kif (decide (0 <= x14) && decide (x14 < 32)) (zR .u32 m12 b_0 (o_0 + 0 + (x14).toNat * 1) fun x15 => zR .i64 m12 b_3 (o_3 + 2) fun x16 => kif (decide (0 <= x16) && decide (x16 < 32)) (zR .u32 m12 b_0 (o_0 + 0 + (x16).toNat * 1) fun x17 => yOs c13 x15 x17 m12 fun x18 m19 => kif (!x18) (kr (-1) m19) (kif (decide (x_6 >= 32)) (kif (decide (x_6 <= 35)) (kr 13 m19) (kn  m19)) (kn  m19))) False) False)))))
def uP (b_0 o_0 : Nat) (b_3 o_3 : Nat) (x_6 : Int) (x_11 : Bool) (m : Mem) (kr : Int -> Mem -> Prop) (kn : Mem -> Prop) : Prop :=
 kif x_11 (kr 10 m) (F91 b_0 o_0 m fun x8 m9 => kif x8 (kif (decide (x_6 >= 54)) (rI b_0 o_0 b_3 o_3 x_6 (decide (x_6 <= 61)) m9 (fun x20 m21 => kr x20 m21) (fun m22 => kn  m22)) (rI b_0 o_0 b_3 o_3 x_6 false m9 (fun x23 m24 => kr x23 m24) (fun m25 => kn  m25))) (rI b_0 o_0 b_3 o_3 x_6 false m9 (fun x26 m27 => kr x26 m27) (fun m28 => kn  m28)))
def yKb (b_0 o_0 : Nat) (c_1 : Nat -> AV) (m : Mem) (k : Int -> Mem -> Prop) : Prop :=
 zQ m ⟨6, c_1, 32, false⟩ fun b2 m1 => yN 6 m1 b2 0 fun c3 => F94 c3 m1 fun x4 m5 => zR .i64 m5 b2 0 fun x6 => ldB m5 b_0 (o_0 + 36) fun x7 => kif x7 (kif (x4 == 3) (uP b_0 o_0 b2 0 x6 true m5 (fun x29 m30 => (zA m m30 /\ k x29 m)) (fun m31 => (zA m m31 /\ k 12 m))) (kif (x6 == 60) (uP b_0 o_0 b2 0 x6 true m5 (fun x32 m33 => (zA m m33 /\ k x32 m)) (fun m34 => (zA m m34 /\ k 12 m))) (uP b_0 o_0 b2 0 x6 (x6 == 61) m5 (fun x35 m36 => (zA m m36 /\ k x35 m)) (fun m37 => (zA m m37 /\ k 12 m))))) (uP b_0 o_0 b2 0 x6 false m5 (fun x38 m39 => (zA m m39 /\ k x38 m)) (fun m40 => (zA m m40 /\ k 12 m)))
def xIx := Gs [.p, .g 6] [.i .i64] yKb
def zI8 : PcD := ⟨[0, 3, 6, 11], [.p, .p, .i .i64, .b], [⟨.ret, [4], [.i .i64], []⟩, ⟨.normal, [], [], []⟩], uP⟩
def zGl : PcD := ⟨[0, 3, 6, 28], [.p, .p, .i .i64, .b], [⟨.ret, [4], [.i .i64], []⟩, ⟨.normal, [], [], []⟩], rI⟩
def zD0 : LEnv := yB [] [] [4004, 6004] [(4004, xK zI8), (6004, xK zGl)]
theorem zQn : zF Tryz.prog yHo zD0 (zY zD0 (zE Tryz.f105) 1) := zN zGl (fun _ _ _ => by kernel_rfl) (by kernel_rfl) (fun _ _ _ _ _ _ _ _ => by kernel_rfl)
theorem zPd : zF Tryz.prog yHo zD0 (zY zD0 (zE Tryz.f105) 0) := zN zI8 (fun _ _ _ => by kernel_rfl) (by kernel_rfl) (fun _ _ _ _ _ _ _ _ => by kernel_rfl)
def yZ1 : zZ := ext yHo 105 xIx
theorem xEl (w0 : World) : SP w0 yZ1 := sg (xIn w0) Tryz.func105 Tryz.call105 (Λ := zD0) 0 trivial 2 ⟨zPd, zQn, trivial⟩ (by kernel_rfl) true (fun _ _ _ _ _ => by kernel_rfl)
def yAg (b_0 o_0 : Nat) (x_1 : Int) (x_2 : Bool) (m : Mem) (k : Mem -> Prop) : Prop :=
 wF m b_0 (o_0 + 39 + 8) (.flat (.int .u32 x_1)) fun m1 => kif x_2 (zR .u32 m1 b_0 (o_0 + 39 + 10) fun x2 => wF m1 b_0 (o_0 + 39 + 10) (.flat (.int .u32 (bits .or .u32 (bits .andNot .u32 x2 4294966272) (bits .and .u32 x_1 4294966272)))) fun m3 => k  m3) (k  m1)
def xHr := Gs [.p, .i .u32, .b] [] yAg
def yUp : zZ := ext yZ1 136 xHr
theorem xFg (w0 : World) : SP w0 yUp := xU (xEl w0) Tryz.func136 Tryz.call136 (by kernel_rfl) false (fun _ _ _ _ _ _ => by kernel_rfl)
def zX3 (b_0 o_0 : Nat) (x_1 : Int) (x_2 : Int) (m : Mem) (k : Mem -> Prop) : Prop :=
 kif (x_2 != 4) (yAg b_0 o_0 x_1 (x_2 != 5) m fun m1 => k  m1) (yAg b_0 o_0 x_1 false m fun m2 => k  m2)
def xDp := Gs [.p, .i .u32, .i .i64] [] zX3
def yXy : zZ := ext yUp 103 xDp
theorem xGt (w0 : World) : SP w0 yXy := xU (xFg w0) Tryz.func103 Tryz.call103 (by kernel_rfl) false (fun _ _ _ _ _ _ => by kernel_rfl)
def yI2 (b_0 o_0 : Nat) (x_1 : Int) (x_2 : Bool) (m : Mem) (k : Mem -> Prop) : Prop :=
 kif (decide (x_1 < 1)) (k  m) (kif (decide (x_1 > 5)) (k  m) (zR .u32 m b_0 (o_0 + 0) fun x1 => kif (decide (x_1 < 0)) False (wF m b_0 (o_0 + 0) (.flat (.int .u32 (bits .andNot .u32 x1 (IntKind.wrap .u32 (1 * 2 ^ min (x_1).toNat 32))))) fun m2 => kif x_2 (zR .u32 m2 b_0 (o_0 + 0) fun x3 => kif (decide (x_1 < 0)) False (wF m2 b_0 (o_0 + 0) (.flat (.int .u32 (bits .or .u32 x3 (IntKind.wrap .u32 (1 * 2 ^ min (x_1).toNat 32))))) fun m4 => k  m4)) (k  m2))))
def xKg := Gs [.p, .i .i64, .b] [] yI2
def yVe : zZ := ext yXy 133 xKg
theorem xGa (w0 : World) : SP w0 yVe := xU (xGt w0) Tryz.func133 Tryz.call133 (by kernel_rfl) false (fun _ _ _ _ _ _ => by kernel_rfl)
def yF4 (b_0 o_0 : Nat) (m : Mem) (k : Bool -> Mem -> Prop) : Prop :=
 zR .u32 m b_0 (o_0 + 4) fun x1 => (zA m m /\ k (x1 != 0) m)
def xHt := Gs [.p] [.b] yF4
def yZc : zZ := ext yVe 176 xHt
theorem xJc (w0 : World) : SP w0 yZc := xU (xGa w0) Tryz.func176 Tryz.call176 (by kernel_rfl) true (fun _ _ _ _ => by kernel_rfl)
def yOo (b_0 o_0 : Nat) (m : Mem) (k : Bool -> Mem -> Prop) : Prop :=
 zR .u32 m b_0 (o_0 + 5) fun x1 => kif ((bits .and .u32 x1 1) != 0) (ldA m b_0 (o_0 + 2) fun v2 => False) (zR .u32 m b_0 (o_0 + 5) fun x3 => kif ((bits .and .u32 x3 2) != 0) (ldA m b_0 (o_0 + 3) fun v4 => False) ((zA m m /\ k false m)))
def xJt := Gs [.p] [.b] yOo
def yW0 : zZ := ext yZc 177 xJt
theorem xKd (w0 : World) : SP w0 yW0 := xU (xJc w0) Tryz.func177 Tryz.call177 (by kernel_rfl) true (fun _ _ _ _ => by kernel_rfl)
def yR4 (b_0 o_0 : Nat) (m : Mem) (k : Bool -> Mem -> Prop) : Prop :=
 zR .u32 m b_0 (o_0 + 6) fun x1 => (zA m m /\ k ((bits .and .u32 x1 6) != 0) m)
def xAp := Gs [.p] [.b] yR4
def yW3 : zZ := ext yW0 178 xAp
theorem xL1 (w0 : World) : SP w0 yW3 := xU (xKd w0) Tryz.func178 Tryz.call178 (by kernel_rfl) true (fun _ _ _ _ => by kernel_rfl)
def yNe (b_0 o_0 : Nat) (m : Mem) (k : Bool -> Mem -> Prop) : Prop :=
 zR .u32 m b_0 (o_0 + 7) fun x1 => (zA m m /\ k ((bits .and .u32 x1 6) != 0) m)
def xKn := Gs [.p] [.b] yNe
def yTf : zZ := ext yW3 179 xKn
theorem xK7 (w0 : World) : SP w0 yTf := xU (xL1 w0) Tryz.func179 Tryz.call179 (by kernel_rfl) true (fun _ _ _ _ => by kernel_rfl)
def yJo (b_0 o_0 : Nat) (x_1 : Int) (m : Mem) (k : Bool -> Mem -> Prop) : Prop :=
 kif (x_1 == 1) (ldA m b_0 (o_0 + 3) fun v1 => yD v1 fun b2 o3 => yF4 b2 o3 m fun x4 m5 => (zA m m5 /\ k x4 m)) (kif (x_1 == 2) (ldA m b_0 (o_0 + 4) fun v6 => yD v6 fun b7 o8 => yF4 b7 o8 m fun x9 m10 => (zA m m10 /\ k x9 m)) (kif (x_1 == 3) (ldA m b_0 (o_0 + 5) fun v11 => yD v11 fun b12 o13 => yOo b12 o13 m fun x14 m15 => (zA m m15 /\ k x14 m)) (kif (x_1 == 4) (ldA m b_0 (o_0 + 6) fun v16 => yD v16 fun b17 o18 => yR4 b17 o18 m fun x19 m20 => (zA m m20 /\ k x19 m)) (ldA m b_0 (o_0 + 7) fun v21 => yD v21 fun b22 o23 => yNe b22 o23 m fun x24 m25 => (zA m m25 /\ k x24 m)))))
def xHs := Gs [.p, .i .i64] [.b] yJo
def yPr : zZ := ext yTf 134 xHs
theorem xCt (w0 : World) : SP w0 yPr := xU (xK7 w0) Tryz.func134 Tryz.call134 (by kernel_rfl) true (fun _ _ _ _ _ => by kernel_rfl)
def cU (b_0 o_0 : Nat) (x_2 : Int) (m : Mem) (kn : Int -> Mem -> Prop) (k0 : Mem -> Prop) : Prop :=
 kif (decide (x_2 <= 5)) (∃ Fr1 : Nat -> Prop, Fr1 b_0 /\ (ldA m b_0 (o_0 + 2) fun v2 => yJo b_0 o_0 x_2 m fun x3 m4 => zV Fr1 m m4 /\ (yD v2 fun b5 o6 => yI2 b5 o6 x_2 x3 m4 fun m7 => zV Fr1 m4 m7 /\ (kn (IntKind.wrap .i64 (x_2 + 1)) m7)))) (k0  m)
def zKk (b_0 o_0 : Nat) : Nat -> Int -> Mem -> (Mem -> Prop) -> Prop
 | 0, _,  _, _ => yT False
 | N + 1, x_2,  m, k0 => cU b_0 o_0 x_2 m (fun x_2' m' => zKk b_0 o_0 N x_2' m' k0) k0
def zAo (b_0 o_0 : Nat) (m : Mem) (k : Mem -> Prop) : Prop :=
 ∃ N9, zKk b_0 o_0 N9 1 m (fun m8 => k  m8)
def xAz := Gs [.p] [] zAo
def yDl : LpD := ⟨[0], [.p], [2], [.i .i64], [⟨.exit 0, [], [], []⟩], cU, zKk⟩
def yG5 : LEnv := yB [(1, pY yDl)] [3] [] []
theorem yD7 : yI Tryz.prog yPr yG5 (wP (zE Tryz.f101) 0) := xM yDl (fun _ _ _ => by kernel_rfl) (by kernel_rfl) (fun _ _ _ _ _ _ => by kernel_rfl) (fun _ _ _ _ _ _ _ => by kernel_rfl) (fun _ _ _ _ _ _ => by kernel_rfl)
def ySj : zZ := ext yPr 101 xAz
theorem xD1 (w0 : World) : SP w0 ySj := sg (xCt w0) Tryz.func101 Tryz.call101 (Λ := yG5) 1 ⟨yD7, trivial⟩ 0 trivial (by kernel_rfl) false (fun _ _ _ _ => by kernel_rfl)
def zX5 (x_0 : Int) (x_1 : Int) (m : Mem) (k : Int -> Int -> Bool -> Mem -> Prop) : Prop :=
 kif (x_1 != 4) ((zA m m /\ k 0 0 false m)) (kif (decide (x_0 < 520093696)) ((zA m m /\ k 0 0 false m)) (kif ((x_0.tmod 4) != 0) ((zA m m /\ k 0 0 false m)) ((zA m m /\ k (IntKind.wrap .i64 (IntKind.wrap .u32 ((IntKind.wrap .u32 (x_0 - 520093696)).tdiv 64))) ((IntKind.wrap .u32 (x_0 - 520093696)).tmod 64) (decide ((IntKind.wrap .u32 ((IntKind.wrap .u32 (x_0 - 520093696)).tdiv 64)) <= 5)) m))))
def xGm := Gs [.i .u32, .i .i64] [.i .i64, .i .u32, .b] zX5
def yXv : zZ := ext ySj 137 xGm
theorem xHv (w0 : World) : SP w0 yXv := xU (xD1 w0) Tryz.func137 Tryz.call137 (by kernel_rfl) true (fun _ _ _ _ => by kernel_rfl)
def yCg (b_0 o_0 : Nat) (x_1 : Int) (x_2 : Int) (x_3 : Int) (m : Mem) (k : Int -> Bool -> Mem -> Prop) : Prop :=
 ldA m b_0 (o_0 + 0) fun v1 => yD v1 fun b2 o3 => F63 b2 o3 m fun x4 m5 => kif (decide (x_1 < x4)) (ldA m5 b_0 (o_0 + 0) fun v6 => yD v6 fun b7 o8 => F32 b7 o8 x_1 x_2 m5 fun x9 x10 m11 => k x9 x10 m11) (zX5 x_1 x_2 m5 fun x12 x13 x14 m15 => kif (!x14) (k 0 false m15) (yT False))
def xG1 := Gs [.p, .i .u32, .i .i64, .i .i64] [.i .u32, .b] yCg
def yQr : zZ := ext yXv 104 xG1
theorem xEu (w0 : World) : SP w0 yQr := xU (xHv w0) Tryz.func104 Tryz.call104 (by kernel_rfl) false (fun _ _ _ _ _ _ _ => by kernel_rfl)
def qT (x_3 : Int) (x_4 : Bool) (m : Mem) (kr : Int -> Mem -> Prop) (kn : Mem -> Prop) : Prop :=
 kif x_4 (kr 1 m) (kif (x_3 == 67) (kif (x_3 == 67) (kr 2 m) (kn  m)) (kif (x_3 == 70) (kif (x_3 == 70) (kr 2 m) (kn  m)) (kif (x_3 == 72) (kr 2 m) (kn  m))))
def zZr (x_0 : Int) (m : Mem) (k : Int -> Mem -> Prop) : Prop :=
 kif (x_0 == 66) (qT x_0 (x_0 == 66) m (fun x1 m2 => (zA m m2 /\ k x1 m)) (fun m3 => (zA m m3 /\ k 4 m))) (kif (x_0 == 69) (qT x_0 (x_0 == 69) m (fun x4 m5 => (zA m m5 /\ k x4 m)) (fun m6 => (zA m m6 /\ k 4 m))) (qT x_0 (x_0 == 71) m (fun x7 m8 => (zA m m8 /\ k x7 m)) (fun m9 => (zA m m9 /\ k 4 m))))
def xFp := Gs [.i .i64] [.i .i64] zZr
def zIx : PcD := ⟨[3, 4], [.i .i64, .b], [⟨.ret, [2], [.i .i64], []⟩, ⟨.normal, [], [], []⟩], qT⟩
def zRy : LEnv := yB [] [] [5004] [(5004, xK zIx)]
theorem zOl : zF Tryz.prog yQr zRy (zY zRy (zE Tryz.f141) 0) := zN zIx (fun _ _ _ => by kernel_rfl) (by kernel_rfl) (fun _ _ _ _ => by kernel_rfl)
def yW4 : zZ := ext yQr 141 xFp
theorem xFr (w0 : World) : SP w0 yW4 := sg (xEu w0) Tryz.func141 Tryz.call141 (Λ := zRy) 0 trivial 1 ⟨zOl, trivial⟩ (by kernel_rfl) true (fun _ _ _ => by kernel_rfl)
def zAr (b_0 o_0 : Nat) (x_1 : Int) (x_2 : Int) (m : Mem) (k : Mem -> Prop) : Prop :=
 kif (x_1 != 0) (kif (decide (0 <= x_1) && decide (x_1 < 32)) (wF m b_0 (o_0 + 0 + (x_1).toNat * 1) (.flat (.int .u32 x_2)) fun m1 => k  m1) False) (k  m)
def xGp := Gs [.p, .i .i64, .i .u32] [] zAr
def yFc : zZ := ext yW4 142 xGp
theorem xHd (w0 : World) : SP w0 yFc := xU (xFr w0) Tryz.func142 Tryz.call142 (by kernel_rfl) false (fun _ _ _ _ _ _ => by kernel_rfl)
def pM (b_0 o_0 : Nat) (b_5 o_5 : Nat) (x_13 : Int) (m : Mem) (kr : Int -> Bool -> Mem -> Prop) : Prop :=
 zR .i64 m b_5 (o_5 + 2) fun x32 => zAr b_0 o_0 x32 x_13 m fun m33 => kr (-1) false m33
def mV (b_0 o_0 : Nat) (b_5 o_5 : Nat) (x_10 : Int) (x_13 : Int) (m : Mem) (kr : Int -> Bool -> Mem -> Prop) : Prop :=
 zR .i64 m b_5 (o_5 + 0) fun x29 => kif (x29 == 74) (wF m b_0 (o_0 + 37) (.flat (.bool true)) fun m30 => wF m30 b_0 (o_0 + 38) (.flat (.int .u32 x_10)) fun m31 => pM b_0 o_0 b_5 o_5 x_13 m31 (fun x34 x35 m36 => kr x34 x35 m36)) (pM b_0 o_0 b_5 o_5 x_13 m (fun x37 x38 m39 => kr x37 x38 m39))
def mG (b_0 o_0 : Nat) (b_5 o_5 : Nat) (x_9 : Int) (x_10 : Int) (x_13 : Int) (x_65 : Bool) (m : Mem) (kn : Int -> Mem -> Prop) : Prop :=
 kif x_65 (zAq x_13 (IntKind.wrap .i64 (8 * x_9)) m fun x23 m24 => kn x23 m24) (kn x_13 m)
def yKu (b_0 o_0 : Nat) (b_1 o_1 : Nat) (c_2 : Nat -> AV) (m : Mem) (k : Int -> Bool -> Mem -> Prop) : Prop :=
 zQ m ⟨6, c_2, 32, false⟩ fun b2 m1 => ∃ Fr3 : Nat -> Prop, Fr3 b2 /\ (zR .i64 m1 b2 1 fun x4 => kif (decide (0 <= x4) && decide (x4 < 32)) (Fr3 b_0 /\ (zR .u32 m1 b_0 (o_0 + 0 + (x4).toNat * 1) fun x5 => Fr3 b2 /\ (zR .u32 m1 b2 5 fun x6 => zAq x6 16 m1 fun x7 m8 => zV Fr3 m1 m8 /\ (zR .i64 m8 b2 0 fun x9 => zZr x9 m8 fun x10 m11 => F62 b_0 o_0 (IntKind.wrap .u32 (x5 + x7)) x10 false m11 fun x12 x13 x14 m15 => kif (x13 != (-1)) (zX3 b_0 o_0 (IntKind.wrap .u32 (x5 + x7)) x13 m15 fun m16 => k x13 x14 m16) (zR .i64 m15 b_0 (o_0 + 72) fun x17 => yCg b_1 o_1 x12 x10 x17 m15 fun x18 x19 m20 => kif (!x19) (k 7 false m20) (zR .i64 m20 b2 0 fun x21 => kif (x21 == 66) (mG b_0 o_0 b2 0 x10 x12 x18 true m20 (fun x25 m26 => mV b_0 o_0 b2 0 x12 x25 m26 (fun x40 x41 m42 => k x40 x41 m42))) (zR .i64 m20 b2 0 fun x22 => mG b_0 o_0 b2 0 x10 x12 x18 (x22 == 67) m20 (fun x27 m28 => mV b_0 o_0 b2 0 x12 x27 m28 (fun x43 x44 m45 => k x43 x44 m45))))))))) False)
def xBc := Gs [.p, .p, .g 6] [.i .i64, .b] yKu
def zD4 : PcD := ⟨[0, 5, 9, 10, 13, 65], [.p, .p, .i .i64, .i .u32, .i .u32, .b], [⟨.normal, [13], [.i .u32], [0, 5, 10]⟩], mG⟩
def zEc : PcD := ⟨[0, 5, 10, 13], [.p, .p, .i .u32, .i .u32], [⟨.ret, [6, 7], [.i .i64, .b], []⟩], mV⟩
def zBg : PcD := ⟨[0, 5, 13], [.p, .p, .i .u32], [⟨.ret, [6, 7], [.i .i64, .b], []⟩], pM⟩
def fC : LEnv := yB [] [1] [11004, 12103, 14102] [(11004, xK zD4), (12103, xK zEc), (14102, xK zBg)]
theorem zKq : zF Tryz.prog yFc fC (zY fC (zE Tryz.f106) 2) := zN zBg (fun _ _ _ => by kernel_rfl) (by kernel_rfl) (fun _ _ _ _ _ _ _ => by kernel_rfl)
theorem zJ1 : zF Tryz.prog yFc fC (zY fC (zE Tryz.f106) 0) := zN zEc (fun _ _ _ => by kernel_rfl) (by kernel_rfl) (fun _ _ _ _ _ _ _ _ => by kernel_rfl)
theorem zK1 : zF Tryz.prog yFc fC (zY fC (zE Tryz.f106) 1) := zN zD4 (fun _ _ _ => by kernel_rfl) (by kernel_rfl) (fun _ _ _ _ _ _ _ _ _ _ => by kernel_rfl)
def E35 : zZ := ext yFc 106 xBc
theorem S35 (w0 : World) : SP w0 E35 := sg (xHd w0) Tryz.func106 Tryz.call106 (Λ := fC) 0 trivial 3 ⟨zJ1, zK1, zKq, trivial⟩ (by kernel_rfl) false (fun _ _ _ _ _ _ _ => by kernel_rfl)
def zIf (b_0 o_0 : Nat) (x_1 : Int) (x_2 : Int) (x_3 : Int) (x_15 : Int) (x_16 : Int) (m : Mem) (kn : Int -> Mem -> Prop) (k0 : Mem -> Prop) : Prop :=
 kif (decide (x_16 < x_15)) (ldA m b_0 (o_0 + 0) fun v3 => kif (decide (IntKind.wrap .i64 (8 * x_16) < 0)) False (vD v3 fun b4 o5 l6 p7 => kif (decide (0 <= IntKind.wrap .i64 ((IntKind.wrap .i64 ((IntKind.wrap .i64 ((IntKind.wrap .i64 x_1) + x_2)) - 1)) - x_16)) && decide (IntKind.wrap .i64 ((IntKind.wrap .i64 ((IntKind.wrap .i64 ((IntKind.wrap .i64 x_1) + x_2)) - 1)) - x_16) < l6)) (wF m b4 (o5 + (IntKind.wrap .i64 ((IntKind.wrap .i64 ((IntKind.wrap .i64 ((IntKind.wrap .i64 x_1) + x_2)) - 1)) - x_16)).toNat * 1) (.flat (.int .u8 (IntKind.wrap .u8 (x_3.fdiv (2 ^ min (IntKind.wrap .i64 (8 * x_16)).toNat 32))))) fun m8 => kn (IntKind.wrap .i64 (x_16 + 1)) m8) False)) (k0  m)
def zVf (b_0 o_0 : Nat) (x_1 : Int) (x_2 : Int) (x_3 : Int) (x_15 : Int) : Nat -> Int -> Mem -> (Mem -> Prop) -> Prop
 | 0, _,  _, _ => yT False
 | N + 1, x_16,  m, k0 => zIf b_0 o_0 x_1 x_2 x_3 x_15 x_16 m (fun x_16' m' => zVf b_0 o_0 x_1 x_2 x_3 x_15 N x_16' m' k0) k0
def F35 (b_0 o_0 : Nat) (x_1 : Int) (x_2 : Int) (x_3 : Int) (m : Mem) (k : Bool -> Mem -> Prop) : Prop :=
 F47 b_0 o_0 x_1 x_2 m fun x1 m2 => kif (!x1) (k false m2) (∃ N10, zVf b_0 o_0 x_1 x_2 x_3 x_2 N10 0 m2 (fun m9 => F46 b_0 o_0 x_1 x_2 m9 fun m11 => k true m11))
def G35 := Gs [.p, .i .u32, .i .i64, .i .u32] [.b] F35
def yMd : LpD := ⟨[0, 1, 2, 3, 15], [.p, .i .u32, .i .i64, .i .u32, .i .i64], [16], [.i .i64], [⟨.exit 0, [], [], [0, 1, 2]⟩], zIf, zVf⟩
def yMr : LEnv := yB [(4, pY yMd)] [] [] []
theorem yGz : yI Tryz.prog E35 yMr (wP (zE Tryz.f35) 0) := xM yMd (fun _ _ _ => by kernel_rfl) (by kernel_rfl) (fun _ _ _ _ _ _ _ _ _ _ => by kernel_rfl) (fun _ _ _ _ _ _ _ _ _ _ _ => by kernel_rfl) (fun _ _ _ _ _ _ _ _ _ _ => by kernel_rfl)
def yXt : zZ := ext E35 35 G35
theorem xGl (w0 : World) : SP w0 yXt := sg (S35 w0) Tryz.func35 Tryz.call35 (Λ := yMr) 1 ⟨yGz, trivial⟩ 0 trivial (by kernel_rfl) false (fun _ _ _ _ _ _ _ => by kernel_rfl)
def zYi (v_0 : AV) (x_1 : Int) (x_2 : Int) (m : Mem) (k : AV -> Mem -> Prop) : Prop :=
 xJ v_0 fun x1 => slM v_0 (some x_1) (some x_2) (some x1) (kif (x_1 == x_2) (k v_0 m) (xJ v_0 fun x2 => qH 3 v_0 none (some x_1) fun v3 => qH 3 v_0 (some x_2) none fun v4 => uB 3 24 158 v3 v4 m fun v5 m6 => xJ v5 fun x7 => qH 3 v5 (some x7) (some x2) fun v8 => oK [(.flat (.int .i64 0)), (.flat (.int .i64 0)), (.flat (.int .i64 0))] v8 m6 fun m9 => k v5 m9))
def xIf := Gs [.a, .i .i64, .i .i64] [.a] zYi
def yKz : zZ := ext yXt 128 xIf
theorem xBx (w0 : World) : SP w0 yKz := xU (xGl w0) Tryz.func128 Tryz.call128 (by kernel_rfl) false (fun _ _ _ _ _ => by kernel_rfl)
def zLn (v_0 : AV) (v_1 : AV) (x_7 : Int) (x_8 : Int) (m : Mem) (kn : Int -> Mem -> Prop) (k0 : Mem -> Prop) (kr : Int -> Mem -> Prop) : Prop :=
 kif (decide (x_8 < x_7)) (vD v_0 fun b2 o3 l4 p5 => kif (decide (0 <= x_8) && decide (x_8 < l4)) (yN 3 m b2 (o3 + (x_8).toNat * 3) fun c6 => mB v_1 fun f7 l10 => yKz f7 ([(.agg 3 c6)] ++ l10) m fun v8 m9 => tP v8 fun x11 => kif x11 (kr x_8 m9) (kn (IntKind.wrap .i64 (x_8 + 1)) m9)) False) (k0  m)
def zR4 (v_0 : AV) (v_1 : AV) (x_7 : Int) : Nat -> Int -> Mem -> (Mem -> Prop) -> (Int -> Mem -> Prop) -> Prop
 | 0, _,  _, _, _ => yT False
 | N + 1, x_8,  m, k0, kr => zLn v_0 v_1 x_7 x_8 m (fun x_8' m' => zR4 v_0 v_1 x_7 N x_8' m' k0 kr) k0 kr
def yQp (v_0 : AV) (v_1 : AV) (m : Mem) (k : Int -> Mem -> Prop) : Prop :=
 xJ v_0 fun x1 => ∃ N15, zR4 v_0 v_1 x1 N15 0 m (fun m12 => k (-1) m12) (fun x13 m14 => k x13 m14)
def xB1 := Gs [.a, .a] [.i .i64] yQp
def yCz : LpD := ⟨[0, 1, 7], [.a, .a, .i .i64], [8], [.i .i64], [⟨.exit 0, [], [], []⟩, ⟨.ret, [4], [.i .i64], []⟩], zLn, zR4⟩
def yD3 : LEnv := yB [(2, pY yCz)] [] [] []
theorem yBy : yI Tryz.prog yKz yD3 (wP (zE Tryz.f250) 0) := xM yCz (fun _ _ _ => by kernel_rfl) (by kernel_rfl) (fun _ _ _ _ _ _ _ => by kernel_rfl) (fun _ _ _ _ _ _ _ _ => by kernel_rfl) (fun _ _ _ _ _ _ _ => by kernel_rfl)
end Go.Proofs.YtkiggdgphbkneaaGreat.Am
