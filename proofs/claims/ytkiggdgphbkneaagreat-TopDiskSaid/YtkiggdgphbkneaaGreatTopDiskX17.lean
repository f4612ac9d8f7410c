/- What Go functions ask of what follows them, as plain functions over the abstract machine; the machine asks just that. Written by gen.py. What Go functions ask of what follows them, as plain functions over the abstract machine; the machine asks just that. Writt -/
import Derived.Test.YtkiggdgphbkneaaGreatTopDiskX16
namespace Go.Proofs.YtkiggdgphbkneaaGreat.Am
set_option linter.unusedVariables false
set_option linter.unusedSimpArgs false
set_option linter.constructorNameAsVariable false
set_option maxRecDepth 100000
def yTe : zZ := ext yKz 250 xB1
theorem xIt (w0 : World) : SP w0 yTe := sg (xBx w0) Tryz.func250 Tryz.call250 (Λ := yD3) 1 ⟨yBy, trivial⟩ 0 trivial (by kernel_rfl) false (fun _ _ _ _ => by kernel_rfl)
def yQj (b_0 o_0 : Nat) (x_1 : Int) (m : Mem) (k : Int -> Mem -> Prop) : Prop :=
 zQ m ⟨1, zH [(.flat (.int .i64 x_1))], 3, false⟩ fun b2 m1 => ldA m1 b_0 (o_0 + 0) fun v3 => yQp v3 (.clo 251 [(.ptr b2 0)]) m1 fun x4 m5 => k x4 m5
def xCb := Gs [.p, .i .i64] [.i .i64] yQj
def yZ3 : zZ := ext yTe 236 xCb
theorem xGy (w0 : World) : SP w0 yZ3 := xU (xIt w0) Tryz.func236 Tryz.call236 (by kernel_rfl) false (fun _ _ _ _ _ => by kernel_rfl)
def yNr (b_0 o_0 : Nat) (x_1 : Int) (m : Mem) (k : Bool -> Mem -> Prop) : Prop :=
 yQj b_0 o_0 x_1 m fun x1 m2 => kif (decide (x1 < 0)) (k false m2) (ldA m2 b_0 (o_0 + 0) fun v3 => zYi v3 x1 (IntKind.wrap .i64 (x1 + 1)) m2 fun v4 m5 => stV m5 b_0 (o_0 + 0) v4 fun m6 => k true m6)
def xCq := Gs [.p, .i .i64] [.b] yNr
def zZk : zZ := ext yZ3 225 xCq
theorem xIy (w0 : World) : SP w0 zZk := xU (xGy w0) Tryz.func225 Tryz.call225 (by kernel_rfl) false (fun _ _ _ _ _ => by kernel_rfl)
def yG0 (v_0 : AV) (x_1 : Int) (x_2 : Int) (v_3 : AV) (x_8 : Int) (x_9 : Int) (m : Mem) (kn : Int -> Mem -> Prop) (k2 : Mem -> Prop) : Prop :=
 kif (decide (x_9 > x_1)) (vD v_0 fun b1 o2 l3 p4 => kif (decide (0 <= x_9) && decide (x_9 < l3)) (yN 3 m b1 (o2 + (x_9).toNat * 3) fun c5 => vD v_0 fun b6 o7 l8 p9 => kif (decide (0 <= IntKind.wrap .i64 (x_9 - 1)) && decide (IntKind.wrap .i64 (x_9 - 1) < l8)) (yN 3 m b6 (o7 + (IntKind.wrap .i64 (x_9 - 1)).toNat * 3) fun c10 => mB v_3 fun f11 l14 => zZk f11 ([(.agg 3 c5), (.agg 3 c10)] ++ l14) m fun v12 m13 => kI .i64 v12 fun x15 => kif (decide (x15 < 0)) (vD v_0 fun b16 o17 l18 p19 => kif (decide (0 <= IntKind.wrap .i64 (x_9 - 1)) && decide (IntKind.wrap .i64 (x_9 - 1) < l18)) (yN 3 m13 b16 (o17 + (IntKind.wrap .i64 (x_9 - 1)).toNat * 3) fun c20 => vD v_0 fun b21 o22 l23 p24 => kif (decide (0 <= x_9) && decide (x_9 < l23)) (yN 3 m13 b21 (o22 + (x_9).toNat * 3) fun c25 => vD v_0 fun b26 o27 l28 p29 => kif (decide (0 <= x_9) && decide (x_9 < l28)) (vA 3 m13 b26 (o27 + (x_9).toNat * 3) c20 fun m30 => vD v_0 fun b31 o32 l33 p34 => kif (decide (0 <= IntKind.wrap .i64 (x_9 - 1)) && decide (IntKind.wrap .i64 (x_9 - 1) < l33)) (vA 3 m30 b31 (o32 + (IntKind.wrap .i64 (x_9 - 1)).toNat * 3) c25 fun m35 => kn (IntKind.wrap .i64 (x_9 - 1)) m35) False) False) False) False) (k2  m13)) False) False) (k2  m)
def zTq (v_0 : AV) (x_1 : Int) (x_2 : Int) (v_3 : AV) (x_8 : Int) : Nat -> Int -> Mem -> (Mem -> Prop) -> Prop
 | 0, _,  _, _ => yT False
 | N + 1, x_9,  m, k2 => yG0 v_0 x_1 x_2 v_3 x_8 x_9 m (fun x_9' m' => zTq v_0 x_1 x_2 v_3 x_8 N x_9' m' k2) k2
def zL7 (v_0 : AV) (x_1 : Int) (x_2 : Int) (v_3 : AV) (x_8 : Int) (m : Mem) (kn : Int -> Mem -> Prop) (k0 : Mem -> Prop) : Prop :=
 kif (decide (x_8 < x_2)) (∃ N37, zTq v_0 x_1 x_2 v_3 x_8 N37 x_8 m (fun m36 => kn (IntKind.wrap .i64 (x_8 + 1)) m36)) (k0  m)
def zR8 (v_0 : AV) (x_1 : Int) (x_2 : Int) (v_3 : AV) : Nat -> Int -> Mem -> (Mem -> Prop) -> Prop
 | 0, _,  _, _ => yT False
 | N + 1, x_8,  m, k0 => zL7 v_0 x_1 x_2 v_3 x_8 m (fun x_8' m' => zR8 v_0 x_1 x_2 v_3 N x_8' m' k0) k0
def yGr (v_0 : AV) (x_1 : Int) (x_2 : Int) (v_3 : AV) (m : Mem) (k : Mem -> Prop) : Prop :=
 ∃ N39, zR8 v_0 x_1 x_2 v_3 N39 (IntKind.wrap .i64 (x_1 + 1)) m (fun m38 => k  m38)
def xL6 := Gs [.a, .i .i64, .i .i64, .a] [] yGr
def yEb : LpD := ⟨[0, 1, 2, 3], [.a, .i .i64, .i .i64, .a], [8], [.i .i64], [⟨.exit 0, [], [], []⟩], zL7, zR8⟩
def yEe : LpD := ⟨[0, 1, 2, 3, 8], [.a, .i .i64, .i .i64, .a, .i .i64], [9], [.i .i64], [⟨.exit 2, [], [], [0, 1, 2, 3, 8]⟩], yG0, zTq⟩
def zTd : LEnv := yB [(1, pY yEb), (4, pY yEe)] [] [] []
theorem zZl : yI Tryz.prog zZk zTd (wP (zE Tryz.f252) 1) := xM yEe (fun _ _ _ => by kernel_rfl) (by kernel_rfl) (fun _ _ _ _ _ _ _ _ _ => by kernel_rfl) (fun _ _ _ _ _ _ _ _ _ _ => by kernel_rfl) (fun _ _ _ _ _ _ _ _ _ => by kernel_rfl)
theorem yE8 : yI Tryz.prog zZk zTd (wP (zE Tryz.f252) 0) := xM yEb (fun _ _ _ => by kernel_rfl) (by kernel_rfl) (fun _ _ _ _ _ _ _ _ => by kernel_rfl) (fun _ _ _ _ _ _ _ _ _ => by kernel_rfl) (fun _ _ _ _ _ _ _ _ => by kernel_rfl)
def yFq : zZ := ext zZk 252 xL6
theorem xIs (w0 : World) : SP w0 yFq := sg (xIy w0) Tryz.func252 Tryz.call252 (Λ := zTd) 2 ⟨yE8, zZl, trivial⟩ 0 trivial (by kernel_rfl) false (fun _ _ _ _ _ _ => by kernel_rfl)
def yD1 (v_0 : AV) (x_1 : Int) (v_2 : AV) (x_6 : Int) (x_7 : Int) (x_8 : Int) (m : Mem) (kn : Int -> Int -> Mem -> Prop) (k4 : Int -> Mem -> Prop) : Prop :=
 kif (decide (x_8 <= x_1)) (yT False) (k4 x_7 m)
def zR6 (v_0 : AV) (x_1 : Int) (v_2 : AV) (x_6 : Int) : Nat -> Int -> Int -> Mem -> (Int -> Mem -> Prop) -> Prop
 | 0, _, _,  _, _ => yT False
 | N + 1, x_7, x_8,  m, k4 => yD1 v_0 x_1 v_2 x_6 x_7 x_8 m (fun x_7' x_8' m' => zR6 v_0 x_1 v_2 x_6 N x_7' x_8' m' k4) k4
def zKr (v_0 : AV) (x_1 : Int) (v_2 : AV) (x_6 : Int) (m : Mem) (kn : Int -> Mem -> Prop) (k2 : Mem -> Prop) : Prop :=
 kif (decide (x_6 < x_1)) (∃ N8, zR6 v_0 x_1 v_2 x_6 N8 0 (IntKind.wrap .i64 (2 * x_6)) m (fun x6 m7 => kif (decide ((IntKind.wrap .i64 (x6 + x_6)) < x_1)) (yT False) (kn (IntKind.wrap .i64 (x_6 * 2)) m7))) (k2  m)
def zTx (v_0 : AV) (x_1 : Int) (v_2 : AV) : Nat -> Int -> Mem -> (Mem -> Prop) -> Prop
 | 0, _,  _, _ => yT False
 | N + 1, x_6,  m, k2 => zKr v_0 x_1 v_2 x_6 m (fun x_6' m' => zTx v_0 x_1 v_2 N x_6' m' k2) k2
def zJy (v_0 : AV) (x_1 : Int) (v_2 : AV) (x_6 : Int) (x_7 : Int) (x_8 : Int) (m : Mem) (kn : Int -> Int -> Mem -> Prop) (k0 : Int -> Mem -> Prop) : Prop :=
 kif (decide (x_8 <= x_1)) (yGr v_0 x_7 x_8 v_2 m fun m1 => kn x_8 (IntKind.wrap .i64 (x_8 + x_6)) m1) (k0 x_7 m)
def zU2 (v_0 : AV) (x_1 : Int) (v_2 : AV) (x_6 : Int) : Nat -> Int -> Int -> Mem -> (Int -> Mem -> Prop) -> Prop
 | 0, _, _,  _, _ => yT False
 | N + 1, x_7, x_8,  m, k0 => zJy v_0 x_1 v_2 x_6 x_7 x_8 m (fun x_7' x_8' m' => zU2 v_0 x_1 v_2 x_6 N x_7' x_8' m' k0) k0
def yOw (v_0 : AV) (x_1 : Int) (v_2 : AV) (m : Mem) (k : Mem -> Prop) : Prop :=
 ∃ N4, zU2 v_0 x_1 v_2 20 N4 0 20 m (fun x2 m3 => yGr v_0 x2 x_1 v_2 m3 fun m5 => ∃ N10, zTx v_0 x_1 v_2 N10 20 m5 (fun m9 => k  m9))
def xIa := Gs [.a, .i .i64, .a] [] yOw
def yA3 : LpD := ⟨[0, 1, 2, 6], [.a, .i .i64, .a, .i .i64], [7, 8], [.i .i64, .i .i64], [⟨.exit 0, [7], [.i .i64], [0, 1, 2, 6]⟩], zJy, zU2⟩
def yAi : LpD := ⟨[0, 1, 2], [.a, .i .i64, .a], [6], [.i .i64], [⟨.exit 2, [], [], []⟩], zKr, zTx⟩
def yAu : LpD := ⟨[0, 1, 2, 6], [.a, .i .i64, .a, .i .i64], [7, 8], [.i .i64, .i .i64], [⟨.exit 4, [7], [.i .i64], [0, 1, 2, 6]⟩], yD1, zR6⟩
def zKw : LEnv := yB [(2, pY yA3), (7, pY yAi), (9, pY yAu)] [] [] []
theorem yC5 : yI Tryz.prog yFq zKw (wP (zE Tryz.f237) 2) := xM yAu (fun _ _ _ => by kernel_rfl) (by kernel_rfl) (fun _ _ _ _ _ _ _ _ _ => by kernel_rfl) (fun _ _ _ _ _ _ _ _ _ _ => by kernel_rfl) (fun _ _ _ _ _ _ _ _ _ => by kernel_rfl)
theorem yAv : yI Tryz.prog yFq zKw (wP (zE Tryz.f237) 1) := xM yAi (fun _ _ _ => by kernel_rfl) (by kernel_rfl) (fun _ _ _ _ _ _ _ => by kernel_rfl) (fun _ _ _ _ _ _ _ _ => by kernel_rfl) (fun _ _ _ _ _ _ _ => by kernel_rfl)
theorem yAs : yI Tryz.prog yFq zKw (wP (zE Tryz.f237) 0) := xM yA3 (fun _ _ _ => by kernel_rfl) (by kernel_rfl) (fun _ _ _ _ _ _ _ _ _ => by kernel_rfl) (fun _ _ _ _ _ _ _ _ _ _ => by kernel_rfl) (fun _ _ _ _ _ _ _ _ _ => by kernel_rfl)
def yWh : zZ := ext yFq 237 xIa
theorem xHg (w0 : World) : SP w0 yWh := sg (xIs w0) Tryz.func237 Tryz.call237 (Λ := zKw) 3 ⟨yAs, yAv, yC5, trivial⟩ 0 trivial (by kernel_rfl) false (fun _ _ _ _ _ => by kernel_rfl)
def yGp (v_0 : AV) (v_1 : AV) (m : Mem) (k : Mem -> Prop) : Prop :=
 xJ v_0 fun x1 => yOw v_0 x1 v_1 m fun m2 => k  m2
def xDd := Gs [.a, .a] [] yGp
def yYe : zZ := ext yWh 226 xDd
theorem xB9 (w0 : World) : SP w0 yYe := xU (xHg w0) Tryz.func226 Tryz.call226 (by kernel_rfl) false (fun _ _ _ _ => by kernel_rfl)
def yIl (b_0 o_0 : Nat) (x_1 : Int) (x_2 : Int) (m : Mem) (k : Bool -> Mem -> Prop) : Prop :=
 kif (decide (x_1 < 0)) (k false m) (kif (decide (x_1 >= 16)) (k false m) (kif (decide (x_2 < 0)) (k false m) (yNr b_0 o_0 x_1 m fun x1 m2 => ldA m2 b_0 (o_0 + 0) fun v3 => zR .i64 m2 b_0 (o_0 + 1) fun x4 => zQ m2 ⟨3, zC (zH [(.flat (.int .i64 0)), (.flat (.int .i64 0)), (.flat (.int .i64 0))]) 0 3 (upd (upd (upd (zH [(.flat (.int .i64 0)), (.flat (.int .i64 0)), (.flat (.int .i64 0))]) 0 (.flat (.int .i64 x_2))) 1 (.flat (.int .i64 x_1))) 2 (.flat (.int .i64 x4))), 158, false⟩ fun b6 m5 => uB 3 24 158 v3 (.sl b6 0 1 (.ex 1)) m5 fun v7 m8 => stV m8 b_0 (o_0 + 0) v7 fun m9 => zR .i64 m9 b_0 (o_0 + 1) fun x10 => wF m9 b_0 (o_0 + 1) (.flat (.int .i64 (IntKind.wrap .i64 (x10 + 1)))) fun m11 => ldA m11 b_0 (o_0 + 0) fun v12 => yGp v12 (.flat (.func (.func 227) #[] #[])) m11 fun m13 => k true m13)))
def xAv := Gs [.p, .i .i64, .i .i64] [.b] yIl
def yZb : zZ := ext yYe 208 xAv
theorem xIz (w0 : World) : SP w0 yZb := xU (xB9 w0) Tryz.func208 Tryz.call208 (by kernel_rfl) false (fun _ _ _ _ _ _ => by kernel_rfl)
def yPy (b_0 o_0 : Nat) (x_1 : Int) (x_2 : Int) (m : Mem) (k : Mem -> Prop) : Prop :=
 zR .u32 m b_0 (o_0 + 7) fun x1 => kif ((bits .and .u32 x1 1) != 0) (k  m) (wF m b_0 (o_0 + 6) (.flat (.int .u32 x_1)) fun m2 => zR .u32 m2 b_0 (o_0 + 7) fun x3 => wF m2 b_0 (o_0 + 7) (.flat (.int .u32 (bits .or .u32 x3 1))) fun m4 => ldA m4 b_0 (o_0 + 1) fun v5 => zR .i64 m4 b_0 (o_0 + 0) fun x6 => yD v5 fun b7 o8 => yIl b7 o8 x6 (IntKind.wrap .i64 (x_2 + 32)) m4 fun x9 m10 => k  m10)
def xI4 := Gs [.p, .i .u32, .i .i64] [] yPy
def yYh : zZ := ext yZb 232 xI4
theorem xCw (w0 : World) : SP w0 yYh := xU (xIz w0) Tryz.func232 Tryz.call232 (by kernel_rfl) false (fun _ _ _ _ _ _ => by kernel_rfl)
def zOi (b_0 o_0 : Nat) (x_1 : Int) (x_2 : Int) (x_3 : Int) (m : Mem) (k : Bool -> Mem -> Prop) : Prop :=
 kif (x_1 == 0) (wF m b_0 (o_0 + 4) (.flat (.int .u32 x_2)) fun m1 => k true m1) (kif (x_1 == 4) (wF m b_0 (o_0 + 5) (.flat (.int .u32 x_2)) fun m2 => k true m2) (kif (x_1 == 8) (yPy b_0 o_0 x_2 x_3 m fun m3 => k true m3) (kif (x_1 == 12) (zR .u32 m b_0 (o_0 + 7) fun x4 => wF m b_0 (o_0 + 7) (.flat (.int .u32 (bits .andNot .u32 x4 (bits .and .u32 x_2 6)))) fun m5 => k true m5) (k false m))))
def xBw := Gs [.p, .i .u32, .i .u32, .i .i64] [.b] zOi
def yU8 : zZ := ext yYh 216 xBw
theorem xB5 (w0 : World) : SP w0 yU8 := xU (xCw w0) Tryz.func216 Tryz.call216 (by kernel_rfl) false (fun _ _ _ _ _ _ _ => by kernel_rfl)
def yQe (b_0 o_0 : Nat) (x_1 : Int) (x_2 : Int) (x_3 : Int) (x_4 : Int) (m : Mem) (k : Bool -> Mem -> Prop) : Prop :=
 kif (x_1 == 0) (ldA m b_0 (o_0 + 2) fun v1 => yT False) (kif (x_1 == 1) (ldA m b_0 (o_0 + 3) fun v2 => yT False) (kif (x_1 == 2) (ldA m b_0 (o_0 + 4) fun v3 => yT False) (kif (x_1 == 3) (ldA m b_0 (o_0 + 5) fun v4 => yT False) (kif (x_1 == 4) (ldA m b_0 (o_0 + 6) fun v5 => yT False) (ldA m b_0 (o_0 + 7) fun v6 => yD v6 fun b7 o8 => zOi b7 o8 x_2 x_3 x_4 m fun x9 m10 => k x9 m10)))))
def xJy := Gs [.p, .i .i64, .i .u32, .i .u32, .i .i64] [.b] yQe
def yYz : zZ := ext yU8 188 xJy
theorem xG4 (w0 : World) : SP w0 yYz := xU (xB5 w0) Tryz.func188 Tryz.call188 (by kernel_rfl) false (fun _ _ _ _ _ _ _ _ => by kernel_rfl)
def zXy (b_0 o_0 : Nat) (x_1 : Int) (x_2 : Int) (x_3 : Int) (x_4 : Int) (m : Mem) (k : Bool -> Mem -> Prop) : Prop :=
 ldA m b_0 (o_0 + 0) fun v1 => yD v1 fun b2 o3 => F63 b2 o3 m fun x4 m5 => kif (decide (x_1 < x4)) (ldA m5 b_0 (o_0 + 0) fun v6 => yD v6 fun b7 o8 => F35 b7 o8 x_1 x_2 x_3 m5 fun x9 m10 => k x9 m10) (zX5 x_1 x_2 m5 fun x11 x12 x13 m14 => kif (!x13) (k false m14) (yQe b_0 o_0 x11 x12 x_3 x_4 m14 fun x15 m16 => zAo b_0 o_0 m16 fun m17 => k x15 m17))
def xDu := Gs [.p, .i .u32, .i .i64, .i .u32, .i .i64] [.b] zXy
def yWo : zZ := ext yYz 143 xDu
theorem xFj (w0 : World) : SP w0 yWo := xU (xG4 w0) Tryz.func143 Tryz.call143 (by kernel_rfl) false (fun _ _ _ _ _ _ _ _ => by kernel_rfl)
def yKx (b_0 o_0 : Nat) (x_1 : Int) (x_2 : Int) (m : Mem) (k : Bool -> Mem -> Prop) : Prop :=
 zR .u32 m b_0 (o_0 + 38) fun x1 => kif (decide ((IntKind.wrap .i64 ((IntKind.wrap .i64 x_1) + x_2)) > (IntKind.wrap .i64 x1))) (zR .u32 m b_0 (o_0 + 38) fun x2 => (zA m m /\ k (decide ((IntKind.wrap .i64 x_1) < (IntKind.wrap .i64 ((IntKind.wrap .i64 x2) + 4)))) m)) ((zA m m /\ k false m))
def xKv := Gs [.p, .i .u32, .i .i64] [.b] yKx
def zXa : zZ := ext yWo 144 xKv
theorem xG7 (w0 : World) : SP w0 zXa := xU (xFj w0) Tryz.func144 Tryz.call144 (by kernel_rfl) true (fun _ _ _ _ _ _ => by kernel_rfl)
def rO (b_0 o_0 : Nat) (b_5 o_5 : Nat) (x_9 : Int) (x_10 : Int) (m : Mem) (kr : Int -> Bool -> Mem -> Prop) : Prop :=
 zR .i64 m b_5 (o_5 + 0) fun x39 => kif (x39 == 75) (wF m b_0 (o_0 + 37) (.flat (.bool false)) fun m42 => kr (-1) false m42) (yKx b_0 o_0 x_10 x_9 m fun x40 m41 => kif x40 (wF m41 b_0 (o_0 + 37) (.flat (.bool false)) fun m43 => kr (-1) false m43) (kr (-1) false m41))
def tI (b_0 o_0 : Nat) (b_1 o_1 : Nat) (b_5 o_5 : Nat) (x_9 : Int) (x_10 : Int) (m : Mem) (kr : Int -> Bool -> Mem -> Prop) : Prop :=
 zR .i64 m b_5 (o_5 + 2) fun x31 => kif (decide (0 <= x31) && decide (x31 < 32)) (zR .u32 m b_0 (o_0 + 0 + (x31).toNat * 1) fun x32 => zR .i64 m b_0 (o_0 + 72) fun x33 => zXy b_1 o_1 x_10 x_9 x32 x33 m fun x34 m35 => kif (!x34) (kr 7 false m35) (zR .i64 m35 b_5 (o_5 + 0) fun x36 => kif (x36 == 75) (zR .i64 m35 b_5 (o_5 + 2) fun x37 => zAr b_0 o_0 x37 1 m35 fun m38 => rO b_0 o_0 b_5 o_5 x_9 x_10 m38 (fun x44 x45 m46 => kr x44 x45 m46)) (rO b_0 o_0 b_5 o_5 x_9 x_10 m35 (fun x47 x48 m49 => kr x47 x48 m49)))) False
def rP (b_0 o_0 : Nat) (b_1 o_1 : Nat) (b_5 o_5 : Nat) (x_9 : Int) (x_10 : Int) (x_62 : Bool) (m : Mem) (kr : Int -> Bool -> Mem -> Prop) (kn : Mem -> Prop) : Prop :=
 kif x_62 (zR .i64 m b_5 (o_5 + 2) fun x20 => zAr b_0 o_0 x20 0 m fun m21 => wF m21 b_0 (o_0 + 37) (.flat (.bool false)) fun m22 => kr (-1) false m22) (kn  m)
def rK (b_0 o_0 : Nat) (b_1 o_1 : Nat) (b_5 o_5 : Nat) (x_9 : Int) (x_10 : Int) (x_13 : Bool) (m : Mem) (kr : Int -> Bool -> Mem -> Prop) : Prop :=
 zR .i64 m b_5 (o_5 + 0) fun x19 => kif (x19 == 75) (rP b_0 o_0 b_1 o_1 b_5 o_5 x_9 x_10 (!x_13) m (fun x23 x24 m25 => kr x23 x24 m25) (fun m26 => tI b_0 o_0 b_1 o_1 b_5 o_5 x_9 x_10 m26 (fun x50 x51 m52 => kr x50 x51 m52))) (rP b_0 o_0 b_1 o_1 b_5 o_5 x_9 x_10 false m (fun x27 x28 m29 => kr x27 x28 m29) (fun m30 => tI b_0 o_0 b_1 o_1 b_5 o_5 x_9 x_10 m30 (fun x53 x54 m55 => kr x53 x54 m55)))
def zYa (b_0 o_0 : Nat) (b_1 o_1 : Nat) (c_2 : Nat -> AV) (m : Mem) (k : Int -> Bool -> Mem -> Prop) : Prop :=
 zQ m ⟨6, c_2, 32, false⟩ fun b2 m1 => ∃ Fr3 : Nat -> Prop, Fr3 b2 /\ (zR .i64 m1 b2 1 fun x4 => kif (decide (0 <= x4) && decide (x4 < 32)) (Fr3 b_0 /\ (zR .u32 m1 b_0 (o_0 + 0 + (x4).toNat * 1) fun x5 => Fr3 b2 /\ (zR .u32 m1 b2 5 fun x6 => zAq x6 16 m1 fun x7 m8 => zV Fr3 m1 m8 /\ (zR .i64 m8 b2 0 fun x9 => zZr x9 m8 fun x10 m11 => F62 b_0 o_0 (IntKind.wrap .u32 (x5 + x7)) x10 true m11 fun x12 x13 x14 m15 => kif (x13 != (-1)) (zX3 b_0 o_0 (IntKind.wrap .u32 (x5 + x7)) x13 m15 fun m16 => k x13 x14 m16) (ldB m15 b_0 (o_0 + 37) fun x17 => kif x17 (zR .u32 m15 b_0 (o_0 + 38) fun x18 => rK b_0 o_0 b_1 o_1 b2 0 x10 x12 (x18 == x12) m15 (fun x56 x57 m58 => k x56 x57 m58)) (rK b_0 o_0 b_1 o_1 b2 0 x10 x12 false m15 (fun x59 x60 m61 => k x59 x60 m61))))))) False)
def xJ0 := Gs [.p, .p, .g 6] [.i .i64, .b] zYa
def zHt : PcD := ⟨[0, 1, 5, 9, 10, 13], [.p, .p, .p, .i .i64, .i .u32, .b], [⟨.ret, [6, 7], [.i .i64, .b], []⟩], rK⟩
def zIe : PcD := ⟨[0, 1, 5, 9, 10, 62], [.p, .p, .p, .i .i64, .i .u32, .b], [⟨.ret, [6, 7], [.i .i64, .b], []⟩, ⟨.normal, [], [], [0, 1, 5, 9, 10]⟩], rP⟩
def zCa : PcD := ⟨[0, 1, 5, 9, 10], [.p, .p, .p, .i .i64, .i .u32], [⟨.ret, [6, 7], [.i .i64, .b], []⟩], tI⟩
def zEg : PcD := ⟨[0, 5, 9, 10], [.p, .p, .i .i64, .i .u32], [⟨.ret, [6, 7], [.i .i64, .b], []⟩], rO⟩
def mX : LEnv := yB [] [1] [8103, 9004, 12103, 16103] [(8103, xK zHt), (9004, xK zIe), (12103, xK zCa), (16103, xK zEg)]
theorem zJw : zF Tryz.prog zXa mX (zY mX (zE Tryz.f107) 3) := zN zEg (fun _ _ _ => by kernel_rfl) (by kernel_rfl) (fun _ _ _ _ _ _ _ _ => by kernel_rfl)
theorem zK9 : zF Tryz.prog zXa mX (zY mX (zE Tryz.f107) 1) := zN zCa (fun _ _ _ => by kernel_rfl) (by kernel_rfl) (fun _ _ _ _ _ _ _ _ _ _ => by kernel_rfl)
theorem zQe : zF Tryz.prog zXa mX (zY mX (zE Tryz.f107) 2) := zN zIe (fun _ _ _ => by kernel_rfl) (by kernel_rfl) (fun _ _ _ _ _ _ _ _ _ _ _ => by kernel_rfl)
theorem zQ7 : zF Tryz.prog zXa mX (zY mX (zE Tryz.f107) 0) := zN zHt (fun _ _ _ => by kernel_rfl) (by kernel_rfl) (fun _ _ _ _ _ _ _ _ _ _ _ => by kernel_rfl)
def yXz : zZ := ext zXa 107 xJ0
theorem xH7 (w0 : World) : SP w0 yXz := sg (xG7 w0) Tryz.func107 Tryz.call107 (Λ := mX) 0 trivial 4 ⟨zQ7, zK9, zQe, zJw, trivial⟩ (by kernel_rfl) false (fun _ _ _ _ _ _ _ => by kernel_rfl)
def yJ4 (b_0 o_0 : Nat) (m : Mem) (k : Mem -> Prop) : Prop :=
 zR .u32 m b_0 (o_0 + 39 + 14) fun x1 => yA0 b_0 o_0 x1 m fun m2 => zR .u32 m2 b_0 (o_0 + 39 + 12) fun x3 => wF m2 b_0 (o_0 + 39 + 12) (.flat (.int .u32 (bits .andNot .u32 x3 2))) fun m4 => wF m4 b_0 (o_0 + 37) (.flat (.bool false)) fun m5 => k  m5
def xIq := Gs [.p] [] yJ4
def yUa : zZ := ext yXz 108 xIq
theorem xCc (w0 : World) : SP w0 yUa := xU (xH7 w0) Tryz.func108 Tryz.call108 (by kernel_rfl) false (fun _ _ _ _ => by kernel_rfl)
def yKj (x_0 : Int) (m : Mem) (k : Bool -> Mem -> Prop) : Prop :=
 kif (x_0 == 0) (kif (x_0 == 0) ((zA m m /\ k true m)) ((zA m m /\ k false m))) (kif (x_0 == 1) (kif (x_0 == 1) ((zA m m /\ k true m)) ((zA m m /\ k false m))) (kif (x_0 == 2) (kif (x_0 == 2) ((zA m m /\ k true m)) ((zA m m /\ k false m))) (kif (x_0 == 8) (kif (x_0 == 8) ((zA m m /\ k true m)) ((zA m m /\ k false m))) (kif (x_0 == 9) (kif (x_0 == 9) ((zA m m /\ k true m)) ((zA m m /\ k false m))) (kif (x_0 == 10) (kif (x_0 == 10) ((zA m m /\ k true m)) ((zA m m /\ k false m))) (kif (x_0 == 11) (kif (x_0 == 11) ((zA m m /\ k true m)) ((zA m m /\ k false m))) (kif (x_0 == 12) (kif (x_0 == 12) ((zA m m /\ k true m)) ((zA m m /\ k false m))) (kif (x_0 == 13) (kif (x_0 == 13) ((zA m m /\ k true m)) ((zA m m /\ k false m))) (kif (x_0 == 14) (kif (x_0 == 14) ((zA m m /\ k true m)) ((zA m m /\ k false m))) (kif (x_0 == 15) ((zA m m /\ k true m)) ((zA m m /\ k false m))))))))))))
def xD0 := Gs [.i .i64] [.b] yKj
def yXi : zZ := ext yUa 189 xD0
theorem xD5 (w0 : World) : SP w0 yXi := xU (xCc w0) Tryz.func189 Tryz.call189 (by kernel_rfl) true (fun _ _ _ => by kernel_rfl)
def yDj (b_0 o_0 : Nat) (x_1 : Int) (m : Mem) (k : Int -> Mem -> Prop) : Prop :=
 yKj x_1 m fun x1 m2 => kif (!x1) ((zA m m2 /\ k 0 m)) (kif (x_1 == 1) (zR .u32 m2 b_0 (o_0 + 39 + 9) fun x3 => (zA m m2 /\ k (x3.tmod 8) m)) (kif (decide (0 <= x_1) && decide (x_1 < 16)) (zR .u32 m2 b_0 (o_0 + 39 + (x_1).toNat * 1) fun x4 => (zA m m2 /\ k x4 m)) False))
def xGw := Gs [.p, .i .i64] [.i .u32] yDj
def yQq : zZ := ext yXi 145 xGw
theorem xBk (w0 : World) : SP w0 yQq := xU (xD5 w0) Tryz.func145 Tryz.call145 (by kernel_rfl) true (fun _ _ _ _ _ => by kernel_rfl)
def pU (b_0 o_0 : Nat) (x_1 : Int) (x_2 : Int) (x_8 : Int) (x_36 : Bool) (m : Mem) (kn : Mem -> Prop) : Prop :=
 kif x_36 (kif (decide (0 <= x_1) && decide (x_1 < 16)) (wF m b_0 (o_0 + 39 + (x_1).toNat * 1) (.flat (.int .u32 x_2)) fun m4 => kn  m4) False) (kif (x_8 == 11) (kif (decide (0 <= x_1) && decide (x_1 < 16)) (wF m b_0 (o_0 + 39 + (x_1).toNat * 1) (.flat (.int .u32 x_2)) fun m5 => zR .u32 m5 b_0 (o_0 + 39 + 13) fun x6 => wF m5 b_0 (o_0 + 39 + 13) (.flat (.int .u32 (bits .andNot .u32 x6 32768))) fun m7 => kn  m7) False) (kif (x_8 == 12) (kif (decide (0 <= x_1) && decide (x_1 < 16)) (wF m b_0 (o_0 + 39 + (x_1).toNat * 1) (.flat (.int .u32 (bits .and .u32 x_2 65299))) fun m8 => kn  m8) False) (kif (x_8 == 13) (kif (decide (0 <= x_1) && decide (x_1 < 16)) (zR .u32 m b_0 (o_0 + 39 + (x_1).toNat * 1) fun x9 => kif (decide (0 <= x_1) && decide (x_1 < 16)) (wF m b_0 (o_0 + 39 + (x_1).toNat * 1) (.flat (.int .u32 (bits .or .u32 (bits .andNot .u32 x9 768) (bits .and .u32 x_2 768)))) fun m10 => kn  m10) False) False) (kn  m))))
def yHd (b_0 o_0 : Nat) (x_1 : Int) (x_2 : Int) (m : Mem) (k : Mem -> Prop) : Prop :=
 kif (x_1 == 0) (kif (decide (0 <= x_1) && decide (x_1 < 16)) (wF m b_0 (o_0 + 39 + (x_1).toNat * 1) (.flat (.int .u32 (bits .and .u32 x_2 7))) fun m1 => k  m1) False) (kif (x_1 == 2) (kif (decide (0 <= x_1) && decide (x_1 < 16)) (wF m b_0 (o_0 + 39 + (x_1).toNat * 1) (.flat (.int .u32 (bits .and .u32 x_2 4294966279))) fun m2 => k  m2) False) (kif (x_1 == 10) (kif (decide (0 <= x_1) && decide (x_1 < 16)) (wF m b_0 (o_0 + 39 + (x_1).toNat * 1) (.flat (.int .u32 (bits .and .u32 x_2 4294966527))) fun m3 => k  m3) False) (kif (x_1 == 9) (pU b_0 o_0 x_1 x_2 x_1 (x_1 == 9) m (fun m11 => k  m11)) (pU b_0 o_0 x_1 x_2 x_1 (x_1 == 14) m (fun m12 => k  m12)))))
def xG2 := Gs [.p, .i .i64, .i .u32] [] yHd
def zE0 : PcD := ⟨[0, 1, 2, 8, 36], [.p, .i .i64, .i .u32, .i .i64, .b], [⟨.normal, [], [], []⟩], pU⟩
def zRl : LEnv := yB [] [] [10004] [(10004, xK zE0)]
theorem zJp : zF Tryz.prog yQq zRl (zY zRl (zE Tryz.f146) 0) := zN zE0 (fun _ _ _ => by kernel_rfl) (by kernel_rfl) (fun _ _ _ _ _ _ _ _ => by kernel_rfl)
def yOh : zZ := ext yQq 146 xG2
theorem xC0 (w0 : World) : SP w0 yOh := sg (xBk w0) Tryz.func146 Tryz.call146 (Λ := zRl) 0 trivial 1 ⟨zJp, trivial⟩ (by kernel_rfl) false (fun _ _ _ _ _ _ => by kernel_rfl)
def oX (b_0 o_0 : Nat) (x_4 : Int) (m : Mem) (kn : Mem -> Prop) : Prop :=
 zR .u32 m b_0 (o_0 + 39 + 10) fun x4 => zR .u32 m b_0 (o_0 + 39 + 2) fun x5 => kif (decide (0 <= x_4) && decide (x_4 < 8)) (vA 2 m b_0 (o_0 + 55 + (x_4).toNat * 2) (upd (upd (zH [(.flat (.int .u32 0)), (.flat (.int .u32 0))]) 0 (.flat (.int .u32 x4))) 1 (.flat (.int .u32 x5))) fun m6 => kn  m6) False
def yIh (b_0 o_0 : Nat) (x_1 : Bool) (m : Mem) (k : Mem -> Prop) : Prop :=
 zR .u32 m b_0 (o_0 + 39 + 0) fun x1 => kif x_1 (yDj b_0 o_0 1 m fun x2 m3 => oX b_0 o_0 x2 m3 (fun m7 => k  m7)) (oX b_0 o_0 (bits .and .u32 x1 7) m (fun m8 => k  m8))
def xE7 := Gs [.p, .b] [] yIh
def zFx : PcD := ⟨[0, 4], [.p, .i .u32], [⟨.normal, [], [], []⟩], oX⟩
def zRb : LEnv := yB [] [] [4002] [(4002, xK zFx)]
theorem zNe : zF Tryz.prog yOh zRb (zY zRb (zE Tryz.f148) 0) := zN zFx (fun _ _ _ => by kernel_rfl) (by kernel_rfl) (fun _ _ _ _ _ => by kernel_rfl)
def yO6 : zZ := ext yOh 148 xE7
theorem xCo (w0 : World) : SP w0 yO6 := sg (xC0 w0) Tryz.func148 Tryz.call148 (Λ := zRb) 0 trivial 1 ⟨zNe, trivial⟩ (by kernel_rfl) false (fun _ _ _ _ _ => by kernel_rfl)
def pD (b_0 o_0 : Nat) (b_3 o_3 : Nat) (x_5 : Int) (x_33 : Bool) (m : Mem) (kn : Mem -> Prop) : Prop :=
 kif x_33 (zR .i64 m b_3 (o_3 + 0) fun x14 => yIh b_0 o_0 (x14 == 58) m fun m15 => kn  m15) (kif (x_5 == 59) (yT False) (kif (x_5 == 61) (wF m b_0 (o_0 + 71) (.flat (.bool true)) fun m16 => kn  m16) (kn  m)))
def yHc (b_0 o_0 : Nat) (c_1 : Nat -> AV) (m : Mem) (k : Mem -> Prop) : Prop :=
 zQ m ⟨6, c_1, 32, false⟩ fun b2 m1 => zR .i64 m1 b2 0 fun x3 => kif (x3 == 54) (∃ Fr4 : Nat -> Prop, Fr4 b2 /\ (zR .i64 m1 b2 2 fun x5 => Fr4 b2 /\ (zR .i64 m1 b2 3 fun x6 => yDj b_0 o_0 x6 m1 fun x7 m8 => zV Fr4 m1 m8 /\ (zAr b_0 o_0 x5 x7 m8 fun m9 => zV Fr4 m8 m9 /\ (k  m9))))) (kif (x3 == 55) (zR .i64 m1 b2 3 fun x10 => zR .i64 m1 b2 2 fun x11 => kif (decide (0 <= x11) && decide (x11 < 32)) (zR .u32 m1 b_0 (o_0 + 0 + (x11).toNat * 1) fun x12 => yHd b_0 o_0 x10 x12 m1 fun m13 => k  m13) False) (kif (x3 == 56) (yT False) (kif (x3 == 57) (pD b_0 o_0 b2 0 x3 (x3 == 57) m1 (fun m17 => k  m17)) (pD b_0 o_0 b2 0 x3 (x3 == 58) m1 (fun m18 => k  m18)))))
def xE6 := Gs [.p, .g 6] [] yHc
def zBz : PcD := ⟨[0, 3, 5, 33], [.p, .p, .i .i64, .b], [⟨.normal, [], [], []⟩], pD⟩
def zTw : LEnv := yB [] [3] [10004] [(10004, xK zBz)]
theorem zJx : zF Tryz.prog yO6 zTw (zY zTw (zE Tryz.f109) 0) := zN zBz (fun _ _ _ => by kernel_rfl) (by kernel_rfl) (fun _ _ _ _ _ _ _ _ => by kernel_rfl)
def yHe : zZ := ext yO6 109 xE6
theorem xGf (w0 : World) : SP w0 yHe := sg (xCo w0) Tryz.func109 Tryz.call109 (Λ := zTw) 0 trivial 1 ⟨zJx, trivial⟩ (by kernel_rfl) false (fun _ _ _ _ _ => by kernel_rfl)
def nZ (x_1 : Int) (x_2 : Int) (m : Mem) (kr : Int -> Mem -> Prop) : Prop :=
 zXl x_1 x_2 m fun x7 m8 => kr x7 m8
def iH (x_1 : Int) (x_2 : Int) (x_7 : Int) (x_8 : Bool) (m : Mem) (kr : Int -> Mem -> Prop) (kn : Mem -> Prop) : Prop :=
 kif x_8 (kif (decide (x_2 < 0)) False (kr (IntKind.wrap .u32 (x_1 * 2 ^ min (x_2).toNat 32)) m)) (kif (x_7 == 2) (kif (x_7 == 2) (kif (decide (x_2 < 0)) False (kr (x_1.fdiv (2 ^ min (x_2).toNat 32)) m)) (kn  m)) (kif (x_7 == 5) (kif (decide (x_2 < 0)) False (kr (x_1.fdiv (2 ^ min (x_2).toNat 32)) m)) (kn  m)))
def yF7 (x_0 : Int) (x_1 : Int) (x_2 : Int) (m : Mem) (k : Int -> Mem -> Prop) : Prop :=
 kif (x_0 == 1) (iH x_1 x_2 x_0 (x_0 == 1) m (fun x1 m2 => (zA m m2 /\ k x1 m)) (fun m3 => nZ x_1 x_2 m3 (fun x9 m10 => (zA m m10 /\ k x9 m)))) (iH x_1 x_2 x_0 (x_0 == 4) m (fun x4 m5 => (zA m m5 /\ k x4 m)) (fun m6 => nZ x_1 x_2 m6 (fun x11 m12 => (zA m m12 /\ k x11 m))))
def xK3 := Gs [.i .i64, .i .u32, .i .i64] [.i .u32] yF7
def zFi : PcD := ⟨[1, 2, 7, 8], [.i .u32, .i .i64, .i .i64, .b], [⟨.ret, [6], [.i .u32], []⟩, ⟨.normal, [], [], [1, 2]⟩], iH⟩
def zGf : PcD := ⟨[1, 2], [.i .u32, .i .i64], [⟨.ret, [6], [.i .u32], []⟩], nZ⟩
def zDl : LEnv := yB [] [] [4004, 8102] [(4004, xK zFi), (8102, xK zGf)]
theorem zNl : zF Tryz.prog yHe zDl (zY zDl (zE Tryz.f191) 0) := zN zGf (fun _ _ _ => by kernel_rfl) (by kernel_rfl) (fun _ _ _ _ => by kernel_rfl)
theorem zQm : zF Tryz.prog yHe zDl (zY zDl (zE Tryz.f191) 1) := zN zFi (fun _ _ _ => by kernel_rfl) (by kernel_rfl) (fun _ _ _ _ _ _ => by kernel_rfl)
def yYj : zZ := ext yHe 191 xK3
theorem xBj (w0 : World) : SP w0 yYj := sg (xGf w0) Tryz.func191 Tryz.call191 (Λ := zDl) 0 trivial 2 ⟨zNl, zQm, trivial⟩ (by kernel_rfl) true (fun _ _ _ _ _ => by kernel_rfl)
def yDq (x_0 : Bool) (m : Mem) (k : Int -> Mem -> Prop) : Prop :=
 kif x_0 ((zA m m /\ k 1 m)) ((zA m m /\ k 0 m))
def xK6 := Gs [.b] [.i .u32] yDq
def yH7 : zZ := ext yYj 217 xK6
theorem xDr (w0 : World) : SP w0 yH7 := xU (xBj w0) Tryz.func217 Tryz.call217 (by kernel_rfl) true (fun _ _ _ => by kernel_rfl)
def jN (x_1 : Int) (b_2 o_2 : Nat) (x_5 : Int) (x_6 : Int) (x_14 : Int) (x_21 : Bool) (m : Mem) (kr : Int -> Mem -> Prop) (kn : Mem -> Prop) : Prop :=
 kif x_21 (zR .i64 m b_2 (o_2 + 0) fun x9 => zFa x_1 x_6 (x9 == 48) m fun x10 m11 => yDq x10 m11 fun x12 m13 => kr x12 m13) (kif (x_14 == 50) (kr (bits .and .u32 x_1 x_5) m) (kif (x_14 == 51) (kr (bits .or .u32 x_1 x_5) m) (kif (x_14 == 52) (kr (bits .xor .u32 x_1 x_5) m) (kn  m))))
def iQ (x_1 : Int) (b_2 o_2 : Nat) (x_5 : Int) (x_6 : Int) (x_14 : Int) (x_15 : Bool) (m : Mem) (kr : Int -> Mem -> Prop) (kn : Mem -> Prop) : Prop :=
 kif x_15 (kr (IntKind.wrap .u32 (x_1 + x_6)) m) (kif (x_14 == 48) (jN x_1 b_2 o_2 x_5 x_6 x_14 (x_14 == 48) m (fun x14 m15 => kr x14 m15) (fun m16 => kn  m16)) (jN x_1 b_2 o_2 x_5 x_6 x_14 (x_14 == 49) m (fun x17 m18 => kr x17 m18) (fun m19 => kn  m19)))
def yKf (c_0 : Nat -> AV) (x_1 : Int) (m : Mem) (k : Int -> Mem -> Prop) : Prop :=
 zQ m ⟨6, c_0, 32, false⟩ fun b2 m1 => ∃ Fr3 : Nat -> Prop, Fr3 b2 /\ (zR .u32 m1 b2 5 fun x4 => Fr3 b2 /\ (zR .u32 m1 b2 5 fun x5 => zAq x5 16 m1 fun x6 m7 => zV Fr3 m1 m7 /\ (zR .i64 m7 b2 0 fun x8 => kif (x8 == 46) (iQ x_1 b2 0 (bits .and .u32 x4 65535) x6 x8 (x8 == 46) m7 (fun x20 m21 => (zA m m21 /\ k x20 m)) (fun m22 => (zA m m22 /\ k (IntKind.wrap .u32 ((bits .and .u32 x4 65535) * 65536)) m))) (iQ x_1 b2 0 (bits .and .u32 x4 65535) x6 x8 (x8 == 47) m7 (fun x23 m24 => (zA m m24 /\ k x23 m)) (fun m25 => (zA m m25 /\ k (IntKind.wrap .u32 ((bits .and .u32 x4 65535) * 65536)) m))))))
def xFi := Gs [.g 6, .i .u32] [.i .u32] yKf
def zFg : PcD := ⟨[1, 2, 5, 6, 14, 15], [.i .u32, .p, .i .u32, .i .u32, .i .i64, .b], [⟨.ret, [4], [.i .u32], []⟩, ⟨.normal, [], [], [5]⟩], iQ⟩
def zH4 : PcD := ⟨[1, 2, 5, 6, 14, 21], [.i .u32, .p, .i .u32, .i .u32, .i .i64, .b], [⟨.ret, [4], [.i .u32], []⟩, ⟨.normal, [], [], [5]⟩], jN⟩
def zCb : LEnv := yB [] [1] [5004, 8004] [(5004, xK zFg), (8004, xK zH4)]
theorem zP8 : zF Tryz.prog yH7 zCb (zY zCb (zE Tryz.f192) 1) := zN zH4 (fun _ _ _ => by kernel_rfl) (by kernel_rfl) (fun _ _ _ _ _ _ _ _ _ => by kernel_rfl)
theorem zNh : zF Tryz.prog yH7 zCb (zY zCb (zE Tryz.f192) 0) := zN zFg (fun _ _ _ => by kernel_rfl) (by kernel_rfl) (fun _ _ _ _ _ _ _ _ _ => by kernel_rfl)
def zXk : zZ := ext yH7 192 xFi
theorem xBn (w0 : World) : SP w0 zXk := sg (xDr w0) Tryz.func192 Tryz.call192 (Λ := zCb) 0 trivial 2 ⟨zNh, zP8, trivial⟩ (by kernel_rfl) true (fun _ _ _ _ => by kernel_rfl)
def gP (x_1 : Int) (x_2 : Int) (m : Mem) (kr : Int -> Mem -> Prop) : Prop :=
 yH9 x_1 x_2 true m fun x27 x28 m29 => kr x28 m29
def fP (x_0 : Int) (x_1 : Int) (x_2 : Int) (x_9 : Int) (x_43 : Bool) (m : Mem) (kr : Int -> Mem -> Prop) (kn : Mem -> Prop) : Prop :=
 kif x_43 (zFa x_1 x_2 (x_0 == 30) m fun x1 m2 => yDq x1 m2 fun x3 m4 => kr x3 m4) (kif (x_9 == 64) (yO0 x_1 m fun x5 m6 => kr (IntKind.wrap .u32 x5) m6) (kif (x_9 == 65) (yOy x_1 m fun x7 m8 => kr (IntKind.wrap .u32 x7) m8) (kn  m)))
def zA5 (x_0 : Int) (x_1 : Int) (x_2 : Int) (x_9 : Int) (x_16 : Bool) (m : Mem) (kr : Int -> Mem -> Prop) (kn : Mem -> Prop) : Prop :=
 kif x_16 (kr (IntKind.wrap .u32 (x_1 - x_2)) m) (kif (x_9 == 26) (kr (bits .and .u32 x_1 x_2) m) (kif (x_9 == 27) (kr (bits .or .u32 x_1 x_2) m) (kif (x_9 == 28) (kr (bits .xor .u32 x_1 x_2) m) (kif (x_9 == 29) (kr (bits .xor .u32 4294967295 (bits .or .u32 x_1 x_2)) m) (kif (x_9 == 30) (fP x_0 x_1 x_2 x_9 (x_9 == 30) m (fun x9 m10 => kr x9 m10) (fun m11 => kn  m11)) (fP x_0 x_1 x_2 x_9 (x_9 == 31) m (fun x12 m13 => kr x12 m13) (fun m14 => kn  m14)))))))
def cL (x_0 : Int) (x_1 : Int) (x_2 : Int) (x_9 : Int) (x_10 : Bool) (m : Mem) (kr : Int -> Mem -> Prop) (kn : Mem -> Prop) : Prop :=
 kif x_10 (kr (IntKind.wrap .u32 (x_1 + x_2)) m) (kif (x_9 == 24) (zA5 x_0 x_1 x_2 x_9 (x_9 == 24) m (fun x15 m16 => kr x15 m16) (fun m17 => kn  m17)) (zA5 x_0 x_1 x_2 x_9 (x_9 == 25) m (fun x18 m19 => kr x18 m19) (fun m20 => kn  m20)))
def yRw (x_0 : Int) (x_1 : Int) (x_2 : Int) (m : Mem) (k : Int -> Mem -> Prop) : Prop :=
 kif (x_0 == 22) (cL x_0 x_1 x_2 x_0 (x_0 == 22) m (fun x21 m22 => (zA m m22 /\ k x21 m)) (fun m23 => gP x_1 x_2 m23 (fun x30 m31 => (zA m m31 /\ k x30 m)))) (cL x_0 x_1 x_2 x_0 (x_0 == 23) m (fun x24 m25 => (zA m m25 /\ k x24 m)) (fun m26 => gP x_1 x_2 m26 (fun x32 m33 => (zA m m33 /\ k x32 m))))
def xFc := Gs [.i .i64, .i .u32, .i .u32] [.i .u32] yRw
def zHj : PcD := ⟨[0, 1, 2, 9, 10], [.i .i64, .i .u32, .i .u32, .i .i64, .b], [⟨.ret, [6], [.i .u32], []⟩, ⟨.normal, [], [], [1, 2]⟩], cL⟩
def zGe : PcD := ⟨[0, 1, 2, 9, 16], [.i .i64, .i .u32, .i .u32, .i .i64, .b], [⟨.ret, [6], [.i .u32], []⟩, ⟨.normal, [], [], [1, 2]⟩], zA5⟩
def zC0 : PcD := ⟨[0, 1, 2, 9, 43], [.i .i64, .i .u32, .i .u32, .i .i64, .b], [⟨.ret, [6], [.i .u32], []⟩, ⟨.normal, [], [], [1, 2]⟩], fP⟩
def zD6 : PcD := ⟨[1, 2], [.i .u32, .i .u32], [⟨.ret, [6], [.i .u32], []⟩], gP⟩
def lG : LEnv := yB [] [] [4004, 7004, 18004, 23102] [(4004, xK zHj), (7004, xK zGe), (18004, xK zC0), (23102, xK zD6)]
theorem zKx : zF Tryz.prog zXk lG (zY lG (zE Tryz.f193) 0) := zN zD6 (fun _ _ _ => by kernel_rfl) (by kernel_rfl) (fun _ _ _ _ => by kernel_rfl)
theorem zKj : zF Tryz.prog zXk lG (zY lG (zE Tryz.f193) 3) := zN zC0 (fun _ _ _ => by kernel_rfl) (by kernel_rfl) (fun _ _ _ _ _ _ _ => by kernel_rfl)
theorem zN4 : zF Tryz.prog zXk lG (zY lG (zE Tryz.f193) 2) := zN zGe (fun _ _ _ => by kernel_rfl) (by kernel_rfl) (fun _ _ _ _ _ _ _ => by kernel_rfl)
theorem zN5 : zF Tryz.prog zXk lG (zY lG (zE Tryz.f193) 1) := zN zHj (fun _ _ _ => by kernel_rfl) (by kernel_rfl) (fun _ _ _ _ _ _ _ => by kernel_rfl)
def yKg : zZ := ext zXk 193 xFc
theorem xAx (w0 : World) : SP w0 yKg := sg (xBn w0) Tryz.func193 Tryz.call193 (Λ := lG) 0 trivial 4 ⟨zKx, zN5, zN4, zKj, trivial⟩ (by kernel_rfl) true (fun _ _ _ _ _ => by kernel_rfl)
def fV (x_1 : Int) (x_2 : Int) (b_3 o_3 : Nat) (m : Mem) (kr : Int -> Bool -> Mem -> Prop) : Prop :=
 zR .i64 m b_3 (o_3 + 0) fun x22 => yRw x22 x_1 x_2 m fun x23 m24 => kr x23 true m24
def jO (x_1 : Int) (x_2 : Int) (b_3 o_3 : Nat) (x_33 : Bool) (m : Mem) (kr : Int -> Bool -> Mem -> Prop) (kn : Mem -> Prop) : Prop :=
 kif x_33 (yN 6 m b_3 o_3 fun c11 => yKf c11 x_1 m fun x12 m13 => kr x12 true m13) (kn  m)
def zR9 (c_0 : Nat -> AV) (x_1 : Int) (x_2 : Int) (m : Mem) (k : Int -> Bool -> Mem -> Prop) : Prop :=
 zQ m ⟨6, c_0, 32, false⟩ fun b2 m1 => zR .i64 m1 b2 0 fun x3 => zSw x3 m1 fun x4 m5 => kif (!x4) ((zA m m5 /\ k 0 false m)) (kif (decide (x3 <= 3)) (zR .i64 m5 b2 4 fun x6 => yF7 x3 x_2 (bits .and .i64 x6 31) m5 fun x7 m8 => (zA m m8 /\ k x7 true m)) (kif (decide (x3 <= 6)) (yF7 x3 x_2 (IntKind.wrap .i64 (bits .and .u32 x_1 31)) m5 fun x9 m10 => (zA m m10 /\ k x9 true m)) (kif (decide (x3 >= 46)) (jO x_1 x_2 b2 0 (decide (x3 <= 53)) m5 (fun x14 x15 m16 => (zA m m16 /\ k x14 x15 m)) (fun m17 => fV x_1 x_2 b2 0 m17 (fun x25 x26 m27 => (zA m m27 /\ k x25 x26 m)))) (jO x_1 x_2 b2 0 false m5 (fun x18 x19 m20 => (zA m m20 /\ k x18 x19 m)) (fun m21 => fV x_1 x_2 b2 0 m21 (fun x28 x29 m30 => (zA m m30 /\ k x28 x29 m)))))))
def xHl := Gs [.g 6, .i .u32, .i .u32] [.i .u32, .b] zR9
def zIs : PcD := ⟨[1, 2, 3, 33], [.i .u32, .i .u32, .p, .b], [⟨.ret, [6, 7], [.i .u32, .b], []⟩, ⟨.normal, [], [], [1, 2, 3]⟩], jO⟩
def zEl : PcD := ⟨[1, 2, 3], [.i .u32, .i .u32, .p], [⟨.ret, [6, 7], [.i .u32, .b], []⟩], fV⟩
def zCs : LEnv := yB [] [] [9004, 10102] [(9004, xK zIs), (10102, xK zEl)]
theorem zK2 : zF Tryz.prog yKg zCs (zY zCs (zE Tryz.f150) 0) := zN zEl (fun _ _ _ => by kernel_rfl) (by kernel_rfl) (fun _ _ _ _ _ _ => by kernel_rfl)
theorem zNa : zF Tryz.prog yKg zCs (zY zCs (zE Tryz.f150) 1) := zN zIs (fun _ _ _ => by kernel_rfl) (by kernel_rfl) (fun _ _ _ _ _ _ _ => by kernel_rfl)
def yAf : zZ := ext yKg 150 xHl
theorem xHc (w0 : World) : SP w0 yAf := sg (xAx w0) Tryz.func150 Tryz.call150 (Λ := zCs) 0 trivial 2 ⟨zK2, zNa, trivial⟩ (by kernel_rfl) true (fun _ _ _ _ _ => by kernel_rfl)
def eJ (x_3 : Int) (x_4 : Int) (m : Mem) (kr : Int -> Int -> Bool -> Mem -> Prop) : Prop :=
 kr x_3 x_4 true m
def jP (x_1 : Int) (x_2 : Int) (x_3 : Int) (x_4 : Int) (b_5 o_5 : Nat) (x_14 : Int) (x_29 : Bool) (m : Mem) (kn : Int -> Int -> Mem -> Prop) (kr : Int -> Int -> Bool -> Mem -> Prop) : Prop :=
 kif x_29 (zR .i64 m b_5 (o_5 + 0) fun x8 => yEk x_1 x_2 (x8 == 20) m fun x9 x10 m11 => kn x10 x9 m11) (kif (x_14 == 15) (kn x_1 x_4 m) (kif (x_14 == 17) (kn x_3 x_1 m) (kr x_3 x_4 false m)))
def iC (x_1 : Int) (x_2 : Int) (x_3 : Int) (x_4 : Int) (b_5 o_5 : Nat) (x_14 : Int) (x_17 : Bool) (m : Mem) (kn : Int -> Int -> Mem -> Prop) (kr : Int -> Int -> Bool -> Mem -> Prop) : Prop :=
 kif x_17 (zR .i64 m b_5 (o_5 + 0) fun x4 => yH9 x_1 x_2 (x4 == 18) m fun x5 x6 m7 => kn x5 x6 m7) (kif (x_14 == 20) (jP x_1 x_2 x_3 x_4 b_5 o_5 x_14 (x_14 == 20) m (fun x12 x13 m14 => kn x12 x13 m14) (fun x15 x16 x17 m18 => kr x15 x16 x17 m18)) (jP x_1 x_2 x_3 x_4 b_5 o_5 x_14 (x_14 == 21) m (fun x19 x20 m21 => kn x19 x20 m21) (fun x22 x23 x24 m25 => kr x22 x23 x24 m25)))
def yQu (c_0 : Nat -> AV) (x_1 : Int) (x_2 : Int) (x_3 : Int) (x_4 : Int) (m : Mem) (k : Int -> Int -> Bool -> Mem -> Prop) : Prop :=
 zQ m ⟨6, c_0, 32, false⟩ fun b2 m1 => zR .i64 m1 b2 0 fun x3 => kif (x3 == 18) (iC x_1 x_2 x_3 x_4 b2 0 x3 (x3 == 18) m1 (fun x26 x27 m28 => eJ x26 x27 m28 (fun x40 x41 x42 m43 => (zA m m43 /\ k x40 x41 x42 m))) (fun x29 x30 x31 m32 => (zA m m32 /\ k x29 x30 x31 m))) (iC x_1 x_2 x_3 x_4 b2 0 x3 (x3 == 19) m1 (fun x33 x34 m35 => eJ x33 x34 m35 (fun x44 x45 x46 m47 => (zA m m47 /\ k x44 x45 x46 m))) (fun x36 x37 x38 m39 => (zA m m39 /\ k x36 x37 x38 m)))
def xIe := Gs [.g 6, .i .u32, .i .u32, .i .u32, .i .u32] [.i .u32, .i .u32, .b] yQu
def zGa : PcD := ⟨[1, 2, 3, 4, 5, 14, 17], [.i .u32, .i .u32, .i .u32, .i .u32, .p, .i .i64, .b], [⟨.normal, [3, 4], [.i .u32, .i .u32], []⟩, ⟨.ret, [10, 11, 12], [.i .u32, .i .u32, .b], []⟩], iC⟩
def zIr : PcD := ⟨[1, 2, 3, 4, 5, 14, 29], [.i .u32, .i .u32, .i .u32, .i .u32, .p, .i .i64, .b], [⟨.normal, [3, 4], [.i .u32, .i .u32], []⟩, ⟨.ret, [10, 11, 12], [.i .u32, .i .u32, .b], []⟩], jP⟩
def zDu : PcD := ⟨[3, 4], [.i .u32, .i .u32], [⟨.ret, [10, 11, 12], [.i .u32, .i .u32, .b], []⟩], eJ⟩
def fX : LEnv := yB [] [] [5004, 8004, 13102] [(5004, xK zGa), (8004, xK zIr), (13102, xK zDu)]
theorem zL6 : zF Tryz.prog yAf fX (zY fX (zE Tryz.f152) 0) := zN zDu (fun _ _ _ => by kernel_rfl) (by kernel_rfl) (fun _ _ _ _ => by kernel_rfl)
theorem zNn : zF Tryz.prog yAf fX (zY fX (zE Tryz.f152) 2) := zN zIr (fun _ _ _ => by kernel_rfl) (by kernel_rfl) (fun _ _ _ _ _ _ _ _ _ _ => by kernel_rfl)
theorem zOd : zF Tryz.prog yAf fX (zY fX (zE Tryz.f152) 1) := zN zGa (fun _ _ _ => by kernel_rfl) (by kernel_rfl) (fun _ _ _ _ _ _ _ _ _ _ => by kernel_rfl)
def yBn : zZ := ext yAf 152 xIe
theorem xCx (w0 : World) : SP w0 yBn := sg (xHc w0) Tryz.func152 Tryz.call152 (Λ := fX) 0 trivial 3 ⟨zL6, zOd, zNn, trivial⟩ (by kernel_rfl) true (fun _ _ _ _ _ _ _ => by kernel_rfl)
def pL (b_0 o_0 : Nat) (b_3 o_3 : Nat) (x_4 : Int) (x_5 : Int) (m : Mem) (kn : Mem -> Prop) : Prop :=
 yN 6 m b_3 o_3 fun c27 => zR .u32 m b_0 (o_0 + 32) fun x28 => zR .u32 m b_0 (o_0 + 33) fun x29 => yQu c27 x_4 x_5 x28 x29 m fun x30 x31 x32 m33 => wF m33 b_0 (o_0 + 32) (.flat (.int .u32 x30)) fun m34 => wF m34 b_0 (o_0 + 33) (.flat (.int .u32 x31)) fun m35 => kn  m35
def iG (b_0 o_0 : Nat) (b_3 o_3 : Nat) (x_4 : Int) (x_5 : Int) (x_36 : Int) (x_37 : Bool) (m : Mem) (kn : Mem -> Prop) : Prop :=
 kif x_37 (zR .i64 m b_3 (o_3 + 0) fun x16 => kif ((x_5 == 0) == (x16 == 9)) (zR .i64 m b_3 (o_3 + 3) fun x17 => zAr b_0 o_0 x17 x_4 m fun m18 => kn  m18) (kn  m)) (kif (x_36 == 14) (zR .i64 m b_3 (o_3 + 3) fun x19 => zR .u32 m b_0 (o_0 + 32) fun x20 => zAr b_0 o_0 x19 x20 m fun m21 => kn  m21) (kif (x_36 == 16) (zR .i64 m b_3 (o_3 + 3) fun x22 => zR .u32 m b_0 (o_0 + 33) fun x23 => zAr b_0 o_0 x22 x23 m fun m24 => kn  m24) (kn  m)))
def nQ (b_0 o_0 : Nat) (b_3 o_3 : Nat) (x_4 : Int) (x_5 : Int) (m : Mem) (kn : Mem -> Prop) : Prop :=
 zR .i64 m b_3 (o_3 + 0) fun x15 => kif (x15 == 9) (iG b_0 o_0 b_3 o_3 x_4 x_5 x15 (x15 == 9) m (fun m25 => pL b_0 o_0 b_3 o_3 x_4 x_5 m25 (fun m36 => kn  m36))) (iG b_0 o_0 b_3 o_3 x_4 x_5 x15 (x15 == 10) m (fun m26 => pL b_0 o_0 b_3 o_3 x_4 x_5 m26 (fun m37 => kn  m37)))
def yI6 (b_0 o_0 : Nat) (c_1 : Nat -> AV) (m : Mem) (k : Mem -> Prop) : Prop :=
 zQ m ⟨6, c_1, 32, false⟩ fun b2 m1 => zR .i64 m1 b2 1 fun x3 => kif (decide (0 <= x3) && decide (x3 < 32)) (zR .u32 m1 b_0 (o_0 + 0 + (x3).toNat * 1) fun x4 => zR .i64 m1 b2 2 fun x5 => kif (decide (0 <= x5) && decide (x5 < 32)) (zR .u32 m1 b_0 (o_0 + 0 + (x5).toNat * 1) fun x6 => yN 6 m1 b2 0 fun c7 => zR9 c7 x4 x6 m1 fun x8 x9 m10 => kif x9 (yN 6 m10 b2 0 fun c11 => yCj c11 m10 fun x12 m13 => zAr b_0 o_0 x12 x8 m13 fun m14 => nQ b_0 o_0 b2 0 x4 x6 m14 (fun m38 => k  m38)) (nQ b_0 o_0 b2 0 x4 x6 m10 (fun m39 => k  m39))) False) False
def xJ3 := Gs [.p, .g 6] [] yI6
def zH3 : PcD := ⟨[0, 3, 4, 5], [.p, .p, .i .u32, .i .u32], [⟨.normal, [], [], []⟩], nQ⟩
def zFy : PcD := ⟨[0, 3, 4, 5, 36, 37], [.p, .p, .i .u32, .i .u32, .i .i64, .b], [⟨.normal, [], [], [0, 3, 4, 5]⟩], iG⟩
def zDk : PcD := ⟨[0, 3, 4, 5], [.p, .p, .i .u32, .i .u32], [⟨.normal, [], [], []⟩], pL⟩
def fM : LEnv := yB [] [] [5103, 8004, 14002] [(5103, xK zH3), (8004, xK zFy), (14002, xK zDk)]
theorem zLq : zF Tryz.prog yBn fM (zY fM (zE Tryz.f110) 1) := zN zDk (fun _ _ _ => by kernel_rfl) (by kernel_rfl) (fun _ _ _ _ _ _ _ _ => by kernel_rfl)
theorem zNw : zF Tryz.prog yBn fM (zY fM (zE Tryz.f110) 2) := zN zFy (fun _ _ _ => by kernel_rfl) (by kernel_rfl) (fun _ _ _ _ _ _ _ _ _ _ => by kernel_rfl)
theorem zOh : zF Tryz.prog yBn fM (zY fM (zE Tryz.f110) 0) := zN zH3 (fun _ _ _ => by kernel_rfl) (by kernel_rfl) (fun _ _ _ _ _ _ _ _ => by kernel_rfl)
def yFx : zZ := ext yBn 110 xJ3
theorem xKe (w0 : World) : SP w0 yFx := sg (xCx w0) Tryz.func110 Tryz.call110 (Λ := fM) 0 trivial 3 ⟨zOh, zLq, zNw, trivial⟩ (by kernel_rfl) false (fun _ _ _ _ _ => by kernel_rfl)
def mJ (x_7 : Int) (x_11 : Int) (x_32 : Bool) (m : Mem) (kr : Bool -> Mem -> Prop) (kn : Mem -> Prop) : Prop :=
 kif x_32 (kr (decide (x_7 >= 0)) m) (kif (x_11 == 44) (kr (decide (x_7 <= 0)) m) (kif (x_11 == 45) (kr (decide (x_7 > 0)) m) (kn  m)))
def mK (x_7 : Int) (x_11 : Int) (x_27 : Bool) (m : Mem) (kr : Bool -> Mem -> Prop) (kn : Mem -> Prop) : Prop :=
 kif x_27 (kr (decide (x_7 < 0)) m) (kif (x_11 == 37) (mJ x_7 x_11 (x_11 == 37) m (fun x4 m5 => kr x4 m5) (fun m6 => kn  m6)) (mJ x_7 x_11 (x_11 == 39) m (fun x7 m8 => kr x7 m8) (fun m9 => kn  m9)))
def rG (x_1 : Int) (x_2 : Int) (x_7 : Int) (x_11 : Int) (x_12 : Bool) (m : Mem) (kr : Bool -> Mem -> Prop) (kn : Mem -> Prop) : Prop :=
 kif x_12 (kr true m) (kif (x_11 == 42) (kr (x_1 == x_2) m) (kif (x_11 == 43) (kr (x_1 != x_2) m) (kif (x_11 == 36) (mK x_7 x_11 (x_11 == 36) m (fun x10 m11 => kr x10 m11) (fun m12 => kn  m12)) (mK x_7 x_11 (x_11 == 38) m (fun x13 m14 => kr x13 m14) (fun m15 => kn  m15)))))
def yHy (c_0 : Nat -> AV) (x_1 : Int) (x_2 : Int) (m : Mem) (k : Bool -> Mem -> Prop) : Prop :=
 zQ m ⟨6, c_0, 32, false⟩ fun b2 m1 => zR .i64 m1 b2 0 fun x3 => kif (x3 == 40) (rG x_1 x_2 (IntKind.wrap .i32 x_1) x3 (x3 == 40) m1 (fun x16 m17 => (zA m m17 /\ k x16 m)) (fun m18 => (zA m m18 /\ k false m))) (kif (x3 == 41) (rG x_1 x_2 (IntKind.wrap .i32 x_1) x3 (x3 == 41) m1 (fun x19 m20 => (zA m m20 /\ k x19 m)) (fun m21 => (zA m m21 /\ k false m))) (kif (x3 == 7) (rG x_1 x_2 (IntKind.wrap .i32 x_1) x3 (x3 == 7) m1 (fun x22 m23 => (zA m m23 /\ k x22 m)) (fun m24 => (zA m m24 /\ k false m))) (rG x_1 x_2 (IntKind.wrap .i32 x_1) x3 (x3 == 8) m1 (fun x25 m26 => (zA m m26 /\ k x25 m)) (fun m27 => (zA m m27 /\ k false m)))))
def xE8 := Gs [.g 6, .i .u32, .i .u32] [.b] yHy
def zGk : PcD := ⟨[1, 2, 7, 11, 12], [.i .u32, .i .u32, .i .i32, .i .i64, .b], [⟨.ret, [6], [.b], []⟩, ⟨.normal, [], [], []⟩], rG⟩
def zBx : PcD := ⟨[7, 11, 27], [.i .i32, .i .i64, .b], [⟨.ret, [6], [.b], []⟩, ⟨.normal, [], [], []⟩], mK⟩
def zE6 : PcD := ⟨[7, 11, 32], [.i .i32, .i .i64, .b], [⟨.ret, [6], [.b], []⟩, ⟨.normal, [], [], []⟩], mJ⟩
def gR : LEnv := yB [] [] [7004, 14004, 17004] [(7004, xK zGk), (14004, xK zBx), (17004, xK zE6)]
theorem zJb : zF Tryz.prog yFx gR (zY gR (zE Tryz.f153) 2) := zN zE6 (fun _ _ _ => by kernel_rfl) (by kernel_rfl) (fun _ _ _ _ _ => by kernel_rfl)
theorem zL2 : zF Tryz.prog yFx gR (zY gR (zE Tryz.f153) 1) := zN zBx (fun _ _ _ => by kernel_rfl) (by kernel_rfl) (fun _ _ _ _ _ => by kernel_rfl)
theorem zMf : zF Tryz.prog yFx gR (zY gR (zE Tryz.f153) 0) := zN zGk (fun _ _ _ => by kernel_rfl) (by kernel_rfl) (fun _ _ _ _ _ _ _ => by kernel_rfl)
def yGk : zZ := ext yFx 153 xE8
theorem xHw (w0 : World) : SP w0 yGk := sg (xKe w0) Tryz.func153 Tryz.call153 (Λ := gR) 0 trivial 3 ⟨zMf, zL2, zJb, trivial⟩ (by kernel_rfl) true (fun _ _ _ _ _ => by kernel_rfl)
def jK (b_3 o_3 : Nat) (x_7 : Int) (m : Mem) (kr : Int -> Mem -> Prop) : Prop :=
 zR .u32 m b_3 (o_3 + 5) fun x17 => zAq x17 16 m fun x18 m19 => kr (IntKind.wrap .u32 (x_7 + (IntKind.wrap .u32 (x18 * 4)))) m19
def iF (x_2 : Int) (b_3 o_3 : Nat) (x_7 : Int) (x_15 : Bool) (m : Mem) (kr : Int -> Mem -> Prop) (kn : Mem -> Prop) : Prop :=
 kif x_15 (zR .u32 m b_3 (o_3 + 5) fun x8 => kr (bits .or .u32 (bits .and .u32 x_7 4026531840) (IntKind.wrap .u32 ((bits .and .u32 x8 67108863) * 4))) m) (zR .i64 m b_3 (o_3 + 0) fun x9 => kif (x9 == 7) (kr x_2 m) (zR .i64 m b_3 (o_3 + 0) fun x10 => kif (x10 == 8) (kr x_2 m) (kn  m)))
def yI9 (c_0 : Nat -> AV) (x_1 : Int) (x_2 : Int) (m : Mem) (k : Int -> Mem -> Prop) : Prop :=
 zQ m ⟨6, c_0, 32, false⟩ fun b2 m1 => yN 6 m1 b2 0 fun c3 => F94 c3 m1 fun x4 m5 => kif (x4 != 3) ((zA m m5 /\ k (IntKind.wrap .u32 (x_1 + 4)) m)) (zR .i64 m5 b2 0 fun x6 => kif (x6 == 40) (iF x_2 b2 0 (IntKind.wrap .u32 (x_1 + 4)) true m5 (fun x11 m12 => (zA m m12 /\ k x11 m)) (fun m13 => jK b2 0 (IntKind.wrap .u32 (x_1 + 4)) m13 (fun x20 m21 => (zA m m21 /\ k x20 m)))) (zR .i64 m5 b2 0 fun x7 => iF x_2 b2 0 (IntKind.wrap .u32 (x_1 + 4)) (x7 == 41) m5 (fun x14 m15 => (zA m m15 /\ k x14 m)) (fun m16 => jK b2 0 (IntKind.wrap .u32 (x_1 + 4)) m16 (fun x22 m23 => (zA m m23 /\ k x22 m)))))
def xK9 := Gs [.g 6, .i .u32, .i .u32] [.i .u32] yI9
def zFf : PcD := ⟨[2, 3, 7, 15], [.i .u32, .p, .i .u32, .b], [⟨.ret, [6], [.i .u32], []⟩, ⟨.normal, [], [], [3, 7]⟩], iF⟩
def zFr : PcD := ⟨[3, 7], [.p, .i .u32], [⟨.ret, [6], [.i .u32], []⟩], jK⟩
def zEj : LEnv := yB [] [] [5004, 8102] [(5004, xK zFf), (8102, xK zFr)]
theorem zN6 : zF Tryz.prog yGk zEj (zY zEj (zE Tryz.f154) 0) := zN zFr (fun _ _ _ => by kernel_rfl) (by kernel_rfl) (fun _ _ _ _ _ => by kernel_rfl)
theorem zO6 : zF Tryz.prog yGk zEj (zY zEj (zE Tryz.f154) 1) := zN zFf (fun _ _ _ => by kernel_rfl) (by kernel_rfl) (fun _ _ _ _ _ _ _ => by kernel_rfl)
def yOg : zZ := ext yGk 154 xK9
theorem xB8 (w0 : World) : SP w0 yOg := sg (xHw w0) Tryz.func154 Tryz.call154 (Λ := zEj) 0 trivial 2 ⟨zN6, zO6, trivial⟩ (by kernel_rfl) true (fun _ _ _ _ _ => by kernel_rfl)
def nM (b_1 o_1 : Nat) (x_5 : Int) (x_6 : Bool) (m : Mem) (kr : Int -> Bool -> Mem -> Prop) (kn : Mem -> Prop) : Prop :=
 kif x_6 (kr 31 true m) (kif (x_5 == 8) (zR .i64 m b_1 (o_1 + 3) fun x4 => kr x4 true m) (kn  m))
def yJc (c_0 : Nat -> AV) (m : Mem) (k : Int -> Bool -> Mem -> Prop) : Prop :=
 zQ m ⟨6, c_0, 32, false⟩ fun b2 m1 => zR .i64 m1 b2 0 fun x3 => kif (x3 == 41) (nM b2 0 x3 (x3 == 41) m1 (fun x5 x6 m7 => (zA m m7 /\ k x5 x6 m)) (fun m8 => (zA m m8 /\ k 0 false m))) (kif (x3 == 38) (nM b2 0 x3 (x3 == 38) m1 (fun x9 x10 m11 => (zA m m11 /\ k x9 x10 m)) (fun m12 => (zA m m12 /\ k 0 false m))) (nM b2 0 x3 (x3 == 39) m1 (fun x13 x14 m15 => (zA m m15 /\ k x13 x14 m)) (fun m16 => (zA m m16 /\ k 0 false m))))
def xEe := Gs [.g 6] [.i .i64, .b] yJc
def zHy : PcD := ⟨[1, 5, 6], [.p, .i .i64, .b], [⟨.ret, [2, 3], [.i .i64, .b], []⟩, ⟨.normal, [], [], []⟩], nM⟩
def zTe : LEnv := yB [] [] [5004] [(5004, xK zHy)]
theorem zQu : zF Tryz.prog yOg zTe (zY zTe (zE Tryz.f155) 0) := zN zHy (fun _ _ _ => by kernel_rfl) (by kernel_rfl) (fun _ _ _ _ _ _ => by kernel_rfl)
def yOb : zZ := ext yOg 155 xEe
theorem xG8 (w0 : World) : SP w0 yOb := sg (xB8 w0) Tryz.func155 Tryz.call155 (Λ := zTe) 0 trivial 1 ⟨zQu, trivial⟩ (by kernel_rfl) true (fun _ _ _ => by kernel_rfl)
def oZ (b_0 o_0 : Nat) (b_5 o_5 : Nat) (x_8 : Int) (m : Mem) (kn : Mem -> Prop) : Prop :=
 yN 6 m b_5 o_5 fun c15 => F94 c15 m fun x16 m17 => wF m17 b_0 (o_0 + 36) (.flat (.bool (x16 == 3))) fun m18 => yN 6 m18 b_5 o_5 fun c19 => yJc c19 m18 fun x20 x21 m22 => kif x21 (zAr b_0 o_0 x20 (IntKind.wrap .u32 (x_8 + 8)) m22 fun m23 => kn  m23) (kn  m22)
def yKe (b_0 o_0 : Nat) (c_1 : Nat -> AV) (x_2 : Int) (x_3 : Int) (m : Mem) (k : Mem -> Prop) : Prop :=
 zQ m ⟨6, c_1, 32, false⟩ fun b2 m1 => zR .u32 m1 b_0 (o_0 + 34) fun x3 => zR .u32 m1 b_0 (o_0 + 35) fun x4 => wF m1 b_0 (o_0 + 34) (.flat (.int .u32 x4)) fun m5 => zR .u32 m5 b_0 (o_0 + 34) fun x6 => wF m5 b_0 (o_0 + 35) (.flat (.int .u32 (IntKind.wrap .u32 (x6 + 4)))) fun m7 => yN 6 m7 b2 0 fun c8 => yHy c8 x_2 x_3 m7 fun x9 m10 => kif x9 (yN 6 m10 b2 0 fun c11 => yI9 c11 x3 x_2 m10 fun x12 m13 => wF m13 b_0 (o_0 + 35) (.flat (.int .u32 x12)) fun m14 => oZ b_0 o_0 b2 0 x3 m14 (fun m24 => k  m24)) (oZ b_0 o_0 b2 0 x3 m10 (fun m25 => k  m25))
def xGg := Gs [.p, .g 6, .i .u32, .i .u32] [] yKe
def zG6 : PcD := ⟨[0, 5, 8], [.p, .p, .i .u32], [⟨.normal, [], [], []⟩], oZ⟩
def zSp : LEnv := yB [] [] [6102] [(6102, xK zG6)]
theorem zQl : zF Tryz.prog yOb zSp (zY zSp (zE Tryz.f111) 0) := zN zG6 (fun _ _ _ => by kernel_rfl) (by kernel_rfl) (fun _ _ _ _ _ _ _ => by kernel_rfl)
def E76 : zZ := ext yOb 111 xGg
theorem S76 (w0 : World) : SP w0 E76 := sg (xG8 w0) Tryz.func111 Tryz.call111 (Λ := zSp) 0 trivial 1 ⟨zQl, trivial⟩ (by kernel_rfl) false (fun _ _ _ _ _ _ _ => by kernel_rfl)
def qW (b_0 o_0 : Nat) (b_1 o_1 : Nat) (m : Mem) (kr : Int -> Mem -> Prop) : Prop :=
 F60 b_1 o_1 m fun x36 m37 => F59 b_0 o_0 x36 m37 fun m38 => kr (-1) m38
def uO (b_0 o_0 : Nat) (b_1 o_1 : Nat) (b_5 o_5 : Nat) (x_7 : Int) (x_8 : Bool) (x_9 : Int) (x_10 : Int) (m : Mem) (kr : Int -> Mem -> Prop) : Prop :=
 kif (x_7 != (-1)) (F74 b_0 o_0 b_1 o_1 x_7 x_8 m fun x29 m30 => kr x29 m30) (F77 b_0 o_0 1 m fun x31 m32 => zR .i64 m32 b_5 (o_5 + 0) fun x33 => kif (x33 != 60) (yN 6 m32 b_5 o_5 fun c34 => yKe b_0 o_0 c34 x_9 x_10 m32 fun m35 => qW b_0 o_0 b_1 o_1 m35 (fun x39 m40 => kr x39 m40)) (qW b_0 o_0 b_1 o_1 m32 (fun x41 m42 => kr x41 m42)))
def F76 (b_0 o_0 : Nat) (b_1 o_1 : Nat) (c_2 : Nat -> AV) (m : Mem) (k : Int -> Mem -> Prop) : Prop :=
 zQ m ⟨6, c_2, 32, false⟩ fun b2 m1 => yN 6 m1 b2 0 fun c3 => yKb b_0 o_0 c3 m1 fun x4 m5 => kif (x4 != (-1)) (F74 b_0 o_0 b_1 o_1 x4 false m5 fun x6 m7 => k x6 m7) (zR .i64 m5 b2 1 fun x8 => kif (decide (0 <= x8) && decide (x8 < 32)) (zR .u32 m5 b_0 (o_0 + 0 + (x8).toNat * 1) fun x9 => zR .i64 m5 b2 2 fun x10 => kif (decide (0 <= x10) && decide (x10 < 32)) (zR .u32 m5 b_0 (o_0 + 0 + (x10).toNat * 1) fun x11 => yN 6 m5 b2 0 fun c12 => F94 c12 m5 fun x13 m14 => kif (x13 == 4) (yN 6 m14 b2 0 fun c15 => yKu b_0 o_0 b_1 o_1 c15 m14 fun x16 x17 m18 => uO b_0 o_0 b_1 o_1 b2 0 x16 x17 x9 x11 m18 (fun x43 m44 => k x43 m44)) (kif (x13 == 5) (yN 6 m14 b2 0 fun c19 => zYa b_0 o_0 b_1 o_1 c19 m14 fun x20 x21 m22 => uO b_0 o_0 b_1 o_1 b2 0 x20 x21 x9 x11 m22 (fun x45 m46 => k x45 m46)) (kif (x13 == 6) (zR .i64 m14 b2 0 fun x23 => kif (x23 == 60) (yJ4 b_0 o_0 m14 fun m24 => uO b_0 o_0 b_1 o_1 b2 0 x4 false x9 x11 m24 (fun x47 m48 => k x47 m48)) (yN 6 m14 b2 0 fun c25 => yHc b_0 o_0 c25 m14 fun m26 => uO b_0 o_0 b_1 o_1 b2 0 x4 false x9 x11 m26 (fun x49 m50 => k x49 m50))) (yN 6 m14 b2 0 fun c27 => yI6 b_0 o_0 c27 m14 fun m28 => uO b_0 o_0 b_1 o_1 b2 0 x4 false x9 x11 m28 (fun x51 m52 => k x51 m52))))) False) False)
def G76 := Gs [.p, .p, .g 6] [.i .i64] F76
def zGr : PcD := ⟨[0, 1, 5, 7, 8, 9, 10], [.p, .p, .p, .i .i64, .b, .i .u32, .i .u32], [⟨.ret, [6], [.i .i64], []⟩], uO⟩
def zIh : PcD := ⟨[0, 1], [.p, .p], [⟨.ret, [6], [.i .i64], []⟩], qW⟩
def zQc : LEnv := yB [] [] [17103, 22102] [(17103, xK zGr), (22102, xK zIh)]
theorem zP1 : zF Tryz.prog E76 zQc (zY zQc (zE Tryz.f76) 1) := zN zIh (fun _ _ _ => by kernel_rfl) (by kernel_rfl) (fun _ _ _ _ _ _ => by kernel_rfl)
theorem zPh : zF Tryz.prog E76 zQc (zY zQc (zE Tryz.f76) 0) := zN zGr (fun _ _ _ => by kernel_rfl) (by kernel_rfl) (fun _ _ _ _ _ _ _ _ _ _ _ _ => by kernel_rfl)
def E98 : zZ := ext E76 76 G76
theorem S98 (w0 : World) : SP w0 E98 := sg (S76 w0) Tryz.func76 Tryz.call76 (Λ := zQc) 0 trivial 2 ⟨zPh, zP1, trivial⟩ (by kernel_rfl) false (fun _ _ _ _ _ _ _ => by kernel_rfl)
def F98 (b_0 o_0 : Nat) (v_1 : AV) (m : Mem) (k : Mem -> Prop) : Prop :=
 zQ m ⟨40, yJ2, 192, false⟩ fun b2 m1 => qH 1 (.sl b2 0 40 (.ex 40)) none none fun v3 => qH 1 (.sl b_0 (o_0 + 0 + 0) 32 (.ex 32)) none none fun v4 => qF 1 v3 v4 m1 fun v5 m6 => zR .u32 m6 b_0 (o_0 + 0 + 32) fun x7 => zR .u32 m6 b_0 (o_0 + 0 + 33) fun x8 => wF m6 b2 32 (.flat (.int .u32 x7)) fun m9 => wF m9 b2 33 (.flat (.int .u32 x8)) fun m10 => zYt b2 0 v_1 m10 fun x11 m12 => qH 1 (.sl b_0 (o_0 + 0 + 0) 32 (.ex 32)) none none fun v13 => qH 1 (.sl b2 0 40 (.ex 40)) none none fun v14 => qF 1 v13 v14 m12 fun v15 m16 => zR .u32 m16 b2 32 fun x17 => zR .u32 m16 b2 33 fun x18 => wF m16 b_0 (o_0 + 0 + 32) (.flat (.int .u32 x17)) fun m19 => wF m19 b_0 (o_0 + 0 + 33) (.flat (.int .u32 x18)) fun m20 => F77 b_0 (o_0 + 0) 1 m20 fun x21 m22 => zR .u32 m22 b_0 (o_0 + 0 + 35) fun x23 => wF m22 b_0 (o_0 + 0 + 34) (.flat (.int .u32 x23)) fun m24 => zR .u32 m24 b_0 (o_0 + 0 + 35) fun x25 => wF m24 b_0 (o_0 + 0 + 35) (.flat (.int .u32 (IntKind.wrap .u32 (x25 + 4)))) fun m26 => wF m26 b_0 (o_0 + 0 + 36) (.flat (.bool false)) fun m27 => ldA m27 b_0 (o_0 + 73) fun v28 => yD v28 fun b29 o30 => F60 b29 o30 m27 fun x31 m32 => F59 b_0 (o_0 + 0) x31 m32 fun m33 => k  m33
def G98 := Gs [.p, .a] [] F98
def E71 : zZ := ext E98 98 G98
theorem S71 (w0 : World) : SP w0 E71 := xU (S98 w0) Tryz.func98 Tryz.call98 (by kernel_rfl) false (fun _ _ _ _ _ => by kernel_rfl)
def F71 (b_0 o_0 : Nat) (c_1 : Nat -> AV) (v_2 : AV) (m : Mem) (k : Bool -> Mem -> Prop) : Prop :=
 zQ m ⟨6, c_1, 32, false⟩ fun b2 m1 => yN 6 m1 b2 0 fun c3 => F97 c3 m1 fun x4 m5 => kif x4 (F98 b_0 o_0 v_2 m5 fun m6 => k true m6) (ldA m5 b_0 (o_0 + 73) fun v7 => yN 6 m5 b2 0 fun c8 => yD v7 fun b9 o10 => F76 b_0 (o_0 + 0) b9 o10 c8 m5 fun x11 m12 => F39 b_0 o_0 m12 fun m13 => kif (x11 == (-1)) (yN 6 m13 b2 0 fun c14 => F94 c14 m13 fun x15 m16 => k (x15 != 6) m16) (k false m13))
def G71 := Gs [.p, .g 6, .a] [.b] F71
def E42 : zZ := ext E71 71 G71
theorem S42 (w0 : World) : SP w0 E42 := xU (S71 w0) Tryz.func71 Tryz.call71 (by kernel_rfl) false (fun _ _ _ _ _ _ => by kernel_rfl)
def pW (b_0 o_0 : Nat) (x_2 : Int) (b_4 o_4 : Nat) (x_7 : Int) (x_8 : Int) (x_9 : Int) (b_10 o_10 : Nat) (x_11 : Int) (v_21 : AV) (x_22 : Int) (x_23 : Int) (m : Mem) (k0 : Int -> Mem -> Prop) (kn : Int -> Mem -> Prop) : Prop :=
 ∃ Fr17 : Nat -> Prop, Fr17 b_0 /\ (ldA m b_0 (o_0 + 73) fun v18 => yD v18 fun b19 o20 => F30 b19 o20 m fun v21 m22 => zV Fr17 m m22 /\ (Fr17 b_4 /\ (zR .u32 m22 b_4 (o_4 + 0) fun x23 => yD v21 fun b24 o25 => F32 b24 o25 (IntKind.wrap .u32 (x23 + x_11)) 4 m22 fun x26 x27 m28 => zV Fr17 m22 m28 /\ (kif (!x27) (k0 x_8 m28) (ldA m28 b_4 (o_4 + 1) fun v29 => vD v29 fun b30 o31 l32 p33 => kif (decide (0 <= x_9) && decide (x_9 < l32)) (zR .u32 m28 b30 (o31 + (x_9).toNat * 1) fun x34 => kif (x26 != x34) (k0 x_8 m28) (yN 6 m28 b_10 o_10 fun c35 => ldA m28 b_4 (o_4 + 3) fun v36 => vD v36 fun b37 o38 l39 p40 => kif (decide (0 <= x_9) && decide (x_9 < l39)) (ldA m28 b37 (o38 + (x_9).toNat * 1) fun v41 => F71 b_0 o_0 c35 v41 m28 fun x42 m43 => kif (!x42) (k0 (IntKind.wrap .i64 (x_8 + 1)) m43) (kn (IntKind.wrap .i64 (x_8 + 1)) m43)) False)) False)))))
def gG (b_0 o_0 : Nat) (x_2 : Int) (b_4 o_4 : Nat) (x_7 : Int) (v_21 : AV) (x_22 : Int) (x_8 : Int) (x_23 : Int) (m : Mem) (kn : Int -> Int -> Mem -> Prop) (k0 : Int -> Mem -> Prop) : Prop :=
 kif (decide (x_23 < x_22)) (vD v_21 fun b6 o7 l8 p9 => kif (decide (0 <= x_23) && decide (x_23 < l8)) (yN 6 m b6 (o7 + (x_23).toNat * 6) fun c10 => zQ m ⟨6, Z6, 32, false⟩ fun b12 m11 => vA 6 m11 b12 0 c10 fun m13 => kif (decide (x_8 >= x_2)) (k0 x_8 m13) (zR .u32 m13 b_0 (o_0 + 0 + 34) fun x14 => kif (x14 != (IntKind.wrap .u32 (x_7 + (IntKind.wrap .u32 (IntKind.wrap .i64 (4 * x_23)))))) (k0 x_8 m13) (kif (decide (x_23 > 0)) (F40 b_0 o_0 m13 fun x15 m16 => kif x15 (k0 x_8 m16) (pW b_0 o_0 x_2 b_4 o_4 x_7 x_8 x_23 b12 0 (IntKind.wrap .u32 (IntKind.wrap .i64 (4 * x_23))) v_21 x_22 x_23 m16 (fun x44 m45 => k0 x44 m45) (fun x46 m47 => kn x46 (IntKind.wrap .i64 (x_23 + 1)) m47))) (pW b_0 o_0 x_2 b_4 o_4 x_7 x_8 x_23 b12 0 (IntKind.wrap .u32 (IntKind.wrap .i64 (4 * x_23))) v_21 x_22 x_23 m13 (fun x48 m49 => k0 x48 m49) (fun x50 m51 => kn x50 (IntKind.wrap .i64 (x_23 + 1)) m51))))) False) (k0 x_8 m)
def zAb (b_0 o_0 : Nat) (x_2 : Int) (b_4 o_4 : Nat) (x_7 : Int) (v_21 : AV) (x_22 : Int) : Nat -> Int -> Int -> Mem -> (Int -> Mem -> Prop) -> Prop
 | 0, _, _,  _, _ => yT False
 | N + 1, x_8, x_23,  m, k0 => gG b_0 o_0 x_2 b_4 o_4 x_7 v_21 x_22 x_8 x_23 m (fun x_8' x_23' m' => zAb b_0 o_0 x_2 b_4 o_4 x_7 v_21 x_22 N x_8' x_23' m' k0) k0
def F42 (b_0 o_0 : Nat) (c_1 : Nat -> AV) (x_2 : Int) (m : Mem) (k : Int -> Mem -> Prop) : Prop :=
 zQ m ⟨4, c_1, 85, false⟩ fun b2 m1 => zR .u32 m1 b_0 (o_0 + 0 + 34) fun x3 => ldA m1 b2 2 fun v4 => xJ v4 fun x5 => ∃ N54, zAb b_0 o_0 x_2 b2 0 x3 v4 x5 N54 0 0 m1 (fun x52 m53 => k x52 m53)
def G42 := Gs [.p, .g 4, .i .i64] [.i .i64] F42
def yLe : LpD := ⟨[0, 2, 4, 7, 21, 22], [.p, .i .i64, .p, .i .u32, .a, .i .i64], [8, 23], [.i .i64, .i .i64], [⟨.exit 0, [8], [.i .i64], []⟩], gG, zAb⟩
def zMh : PcD := ⟨[0, 2, 4, 7, 8, 9, 10, 11, 21, 22, 23], [.p, .i .i64, .p, .i .u32, .i .i64, .i .i64, .p, .i .u32, .a, .i .i64, .i .i64], [⟨.exit 0, [8], [.i .i64], []⟩, ⟨.normal, [8], [.i .i64], [0, 2, 4, 7, 21, 22, 23]⟩], pW⟩
def zVv : LEnv := yB [(4, pY yLe)] [9] [9103] [(9103, xK zMh)]
theorem zS1 : zF Tryz.prog E42 zVv (zY zVv (zE Tryz.f42) 0) := zN zMh (fun _ _ _ => by kernel_rfl) (by kernel_rfl) (fun _ _ _ _ _ _ _ _ _ _ _ _ _ _ _ _ => by kernel_rfl)
theorem yJu : yI Tryz.prog E42 zVv (wP (zE Tryz.f42) 0) := xM yLe (fun _ _ _ => by kernel_rfl) (by kernel_rfl) (fun _ _ _ _ _ _ _ _ _ _ _ _ _ => by kernel_rfl) (fun _ _ _ _ _ _ _ _ _ _ _ _ _ _ => by kernel_rfl) (fun _ _ _ _ _ _ _ _ _ _ _ _ _ => by kernel_rfl)
def E99 : zZ := ext E42 42 G42
theorem S99 (w0 : World) : SP w0 E99 := sg (S42 w0) Tryz.func42 Tryz.call42 (Λ := zVv) 1 ⟨yJu, trivial⟩ 1 ⟨zS1, trivial⟩ (by kernel_rfl) false (fun _ _ _ _ _ _ => by kernel_rfl)
def F99 (b_0 o_0 : Nat) (x_1 : Int) (m : Mem) (k : (Nat -> AV) -> Bool -> Mem -> Prop) : Prop :=
 zQ m ⟨3, zH [(.flat (.int .i64 0)), (.flat (.int .i64 0)), (.flat (.int .i64 0))], 158, false⟩ fun b2 m1 => F89 b_0 o_0 m1 fun x3 x4 m5 => kif (!x4) (vA 3 m5 b2 0 (zH [(.flat (.int .i64 0)), (.flat (.int .i64 0)), (.flat (.int .i64 0))]) fun m6 => yN 3 m6 b2 0 fun c23 => k c23 false m6) (kif (decide (x3 > x_1)) (vA 3 m5 b2 0 (zH [(.flat (.int .i64 0)), (.flat (.int .i64 0)), (.flat (.int .i64 0))]) fun m7 => yN 3 m7 b2 0 fun c24 => k c24 false m7) (ldA m5 b_0 (o_0 + 0) fun v8 => vD v8 fun b9 o10 l11 p12 => kif (decide (0 <= (0 : Int)) && decide ((0 : Int) < l11)) (yN 3 m5 b9 (o10 + 0) fun c13 => zQ m5 ⟨3, zH [(.flat (.int .i64 0)), (.flat (.int .i64 0)), (.flat (.int .i64 0))], 158, false⟩ fun b15 m14 => vA 3 m14 b15 0 c13 fun m16 => ldA m16 b_0 (o_0 + 0) fun v17 => zYi v17 0 1 m16 fun v18 m19 => stV m19 b_0 (o_0 + 0) v18 fun m20 => yN 3 m20 b15 0 fun c21 => vA 3 m20 b2 0 c21 fun m22 => yN 3 m22 b2 0 fun c25 => k c25 true m22) False))
def G99 := Gs [.p, .i .i64] [.g 3, .b] F99
def ySe : zZ := ext E99 99 G99
theorem xEa (w0 : World) : SP w0 ySe := xU (S99 w0) Tryz.func99 Tryz.call99 (by kernel_rfl) false (fun _ _ _ _ _ => by kernel_rfl)
def yO1 (b_0 o_0 : Nat) (m : Mem) (k : Int -> Mem -> Prop) : Prop :=
 ldA m b_0 (o_0 + 3) fun v1 => xJ v1 fun x2 => (zA m m /\ k (IntKind.wrap .i64 (x2.tdiv 64)) m)
def xJ6 := Gs [.p] [.i .i64] yO1
def yV0 : zZ := ext ySe 210 xJ6
theorem xH9 (w0 : World) : SP w0 yV0 := xU (xEa w0) Tryz.func210 Tryz.call210 (by kernel_rfl) true (fun _ _ _ _ => by kernel_rfl)
def yK0 (b_0 o_0 : Nat) (m : Mem) (k : Bool -> Mem -> Prop) : Prop :=
 ∃ Fr1 : Nat -> Prop, Fr1 b_0 /\ (zR .u32 m b_0 (o_0 + 4) fun x2 => yO1 b_0 o_0 m fun x3 m4 => zV Fr1 m m4 /\ (kif (decide (x2 >= (IntKind.wrap .u32 x3))) (k false m4) (ldA m4 b_0 (o_0 + 3) fun v5 => zR .u32 m4 b_0 (o_0 + 4) fun x6 => qH 1 v5 (some (IntKind.wrap .i64 ((IntKind.wrap .i64 x6) * 64))) none fun v7 => qH 1 v7 none (some 64) fun v8 => zR .u32 m4 b_0 (o_0 + 6) fun x9 => kif (x9 == 1) (ldA m4 b_0 (o_0 + 2) fun v10 => zR .u32 m4 b_0 (o_0 + 5) fun x11 => yD v10 fun b12 o13 => F31 b12 o13 x11 v8 m4 fun x14 m15 => k x14 m15) (kif (x9 == 2) (ldA m4 b_0 (o_0 + 2) fun v16 => zR .u32 m4 b_0 (o_0 + 5) fun x17 => yT False) (k false m4)))))
def xIj := Gs [.p] [.b] yK0
def yOk : LEnv := yB [] [1] [] []
def yUo : zZ := ext yV0 175 xIj
theorem xCr (w0 : World) : SP w0 yUo := sg (xH9 w0) Tryz.func175 Tryz.call175 (Λ := yOk) 0 trivial 0 trivial (by kernel_rfl) false (fun _ _ _ _ => by kernel_rfl)
def yJm (b_0 o_0 : Nat) (x_1 : Int) (m : Mem) (k : Mem -> Prop) : Prop :=
 zR .u32 m b_0 (o_0 + 7) fun x1 => wF m b_0 (o_0 + 7) (.flat (.int .u32 (bits .or .u32 (bits .andNot .u32 x1 1) 2))) fun m2 => yK0 b_0 o_0 m2 fun x3 m4 => kif (!x3) (zR .u32 m4 b_0 (o_0 + 7) fun x5 => wF m4 b_0 (o_0 + 7) (.flat (.int .u32 (bits .or .u32 x5 4))) fun m6 => k  m6) (k  m4)
def xGb := Gs [.p, .i .i64] [] yJm
def yUc : zZ := ext yUo 132 xGb
theorem xEg (w0 : World) : SP w0 yUc := xU (xCr w0) Tryz.func132 Tryz.call132 (by kernel_rfl) false (fun _ _ _ _ _ => by kernel_rfl)
def zYl (b_0 o_0 : Nat) (c_1 : Nat -> AV) (m : Mem) (k : Mem -> Prop) : Prop :=
 zQ m ⟨3, c_1, 158, false⟩ fun b2 m1 => zR .i64 m1 b2 1 fun x3 => kif (x3 == 1) (ldA m1 b_0 (o_0 + 3) fun v4 => zR .i64 m1 b2 0 fun x5 => yT False) (kif (x3 == 2) (ldA m1 b_0 (o_0 + 4) fun v6 => zR .i64 m1 b2 0 fun x7 => yT False) (kif (x3 == 3) (ldA m1 b_0 (o_0 + 5) fun v8 => zR .i64 m1 b2 0 fun x9 => yT False) (kif (x3 == 4) (ldA m1 b_0 (o_0 + 6) fun v10 => zR .i64 m1 b2 0 fun x11 => yT False) (kif (x3 == 5) (ldA m1 b_0 (o_0 + 7) fun v12 => zR .i64 m1 b2 0 fun x13 => yD v12 fun b14 o15 => yJm b14 o15 x13 m1 fun m16 => k  m16) (k  m1)))))
def xIb := Gs [.p, .g 3] [] zYl
def E72 : zZ := ext yUc 100 xIb
theorem S72 (w0 : World) : SP w0 E72 := xU (xEg w0) Tryz.func100 Tryz.call100 (by kernel_rfl) false (fun _ _ _ _ _ => by kernel_rfl)
def zAd (b_0 o_0 : Nat) (x_1 : Int) (x_5 : Int) (m : Mem) (kn : Int -> Mem -> Prop) (k0 : Int -> Mem -> Prop) : Prop :=
 kif (decide (x_5 < 256)) (ldA m b_0 (o_0 + 1) fun v1 => yD v1 fun b2 o3 => F99 b2 o3 x_1 m fun c4 x5 m6 => zQ m6 ⟨3, zH [(.flat (.int .i64 0)), (.flat (.int .i64 0)), (.flat (.int .i64 0))], 158, false⟩ fun b8 m7 => vA 3 m7 b8 0 c4 fun m9 => kif (!x5) (k0 x_5 m9) (yN 3 m9 b8 0 fun c10 => zYl b_0 o_0 c10 m9 fun m11 => kn (IntKind.wrap .i64 (x_5 + 1)) m11)) (k0 x_5 m)
def zEe (b_0 o_0 : Nat) (x_1 : Int) : Nat -> Int -> Mem -> (Int -> Mem -> Prop) -> Prop
 | 0, _,  _, _ => yT False
 | N + 1, x_5,  m, k0 => zAd b_0 o_0 x_1 x_5 m (fun x_5' m' => zEe b_0 o_0 x_1 N x_5' m' k0) k0
def F72 (b_0 o_0 : Nat) (x_1 : Int) (m : Mem) (k : Int -> Mem -> Prop) : Prop :=
 ∃ N14, zEe b_0 o_0 x_1 N14 0 m (fun x12 m13 => zAo b_0 o_0 m13 fun m15 => k x12 m15)
def G72 := Gs [.p, .i .i64] [.i .i64] F72
def yMg : LpD := ⟨[0, 1], [.p, .i .i64], [5], [.i .i64], [⟨.exit 0, [5], [.i .i64], [0]⟩], zAd, zEe⟩
def yLt : LEnv := yB [(2, pY yMg)] [] [] []
theorem yJ5 : yI Tryz.prog E72 yLt (wP (zE Tryz.f72) 0) := xM yMg (fun _ _ _ => by kernel_rfl) (by kernel_rfl) (fun _ _ _ _ _ _ _ => by kernel_rfl) (fun _ _ _ _ _ _ _ _ => by kernel_rfl) (fun _ _ _ _ _ _ _ => by kernel_rfl)
def E75 : zZ := ext E72 72 G72
theorem S75 (w0 : World) : SP w0 E75 := sg (S72 w0) Tryz.func72 Tryz.call72 (Λ := yLt) 1 ⟨yJ5, trivial⟩ 0 trivial (by kernel_rfl) false (fun _ _ _ _ _ => by kernel_rfl)
def F75 (b_0 o_0 : Nat) (b_1 o_1 : Nat) (m : Mem) (k : (Nat -> AV) -> Int -> Bool -> Mem -> Prop) : Prop :=
 zQ m ⟨6, Z6, 32, false⟩ fun b2 m1 => zR .u32 m1 b_0 (o_0 + 34) fun x3 => F62 b_0 o_0 x3 4 false m1 fun x4 x5 x6 m7 => kif (x5 != (-1)) (zR .u32 m7 b_0 (o_0 + 34) fun x8 => zX3 b_0 o_0 x8 x5 m7 fun m9 => vA 6 m9 b2 0 (Z6) fun m10 => yN 6 m10 b2 0 fun c19 => k c19 x5 x6 m10) (zR .i64 m7 b_0 (o_0 + 72) fun x11 => yCg b_1 o_1 x4 4 x11 m7 fun x12 x13 m14 => kif (!x13) (vA 6 m14 b2 0 (Z6) fun m15 => yN 6 m15 b2 0 fun c20 => k c20 6 false m15) (F93 x12 m14 fun c16 m17 => vA 6 m17 b2 0 c16 fun m18 => yN 6 m18 b2 0 fun c21 => k c21 (-1) false m18))
def G75 := Gs [.p, .p] [.g 6, .i .i64, .b] F75
def E43 : zZ := ext E75 75 G75
theorem S43 (w0 : World) : SP w0 E43 := xU (S75 w0) Tryz.func75 Tryz.call75 (by kernel_rfl) false (fun _ _ _ _ _ _ => by kernel_rfl)
def jF (b_0 o_0 : Nat) (b_1 o_1 : Nat) (m : Mem) (kr : Int -> Mem -> Prop) : Prop :=
 wF m b_0 (o_0 + 71) (.flat (.bool false)) fun m10 => F61 b_0 o_0 m10 fun x11 m12 => kif x11 (F74 b_0 o_0 b_1 o_1 0 false m12 fun x13 m14 => kr x13 m14) (F75 b_0 o_0 b_1 o_1 m12 fun c15 x16 x17 m18 => zQ m18 ⟨6, Z6, 32, false⟩ fun b20 m19 => vA 6 m19 b20 0 c15 fun m21 => kif (x16 != (-1)) (F74 b_0 o_0 b_1 o_1 x16 x17 m21 fun x22 m23 => kr x22 m23) (yN 6 m21 b20 0 fun c24 => F76 b_0 o_0 b_1 o_1 c24 m21 fun x25 m26 => kr x25 m26))
def F43 (b_0 o_0 : Nat) (b_1 o_1 : Nat) (m : Mem) (k : Int -> Mem -> Prop) : Prop :=
 zR .i64 m b_0 (o_0 + 72) fun x1 => F72 b_1 o_1 x1 m fun x2 m3 => F60 b_1 o_1 m3 fun x4 m5 => F59 b_0 o_0 x4 m5 fun m6 => ldB m6 b_0 (o_0 + 71) fun x7 => kif x7 (F73 b_0 o_0 m6 fun x8 m9 => kif (!x8) (k (-2) m9) (jF b_0 o_0 b_1 o_1 m9 (fun x27 m28 => k x27 m28))) (jF b_0 o_0 b_1 o_1 m6 (fun x29 m30 => k x29 m30))
def G43 := Gs [.p, .p] [.i .i64] F43
def zP6 : PcD := ⟨[0, 1], [.p, .p], [⟨.ret, [4], [.i .i64], []⟩], jF⟩
def yBk : LEnv := yB [] [] [7102] [(7102, xK zP6)]
theorem zT8 : zF Tryz.prog E43 yBk (zY yBk (zE Tryz.f43) 0) := zN zP6 (fun _ _ _ => by kernel_rfl) (by kernel_rfl) (fun _ _ _ _ _ _ => by kernel_rfl)
def E44 : zZ := ext E43 43 G43
theorem S44 (w0 : World) : SP w0 E44 := sg (S43 w0) Tryz.func43 Tryz.call43 (Λ := yBk) 0 trivial 1 ⟨zT8, trivial⟩ (by kernel_rfl) false (fun _ _ _ _ _ _ => by kernel_rfl)
def iR (b_0 o_0 : Nat) (x_11 : Int) (m : Mem) (kr : Int -> Bool -> Mem -> Prop) : Prop :=
 F77 b_0 o_0 x_11 m fun x12 m13 => kr x_11 true m13
def bP (b_0 o_0 : Nat) (x_11 : Int) (x_12 : Int) (m : Mem) (kn : Int -> Mem -> Prop) : Prop :=
 kn (if x_12 < x_11 then x_12 else x_11) m
def cO (b_0 o_0 : Nat) (x_10 : Bool) (x_11 : Int) (m : Mem) (kr : Int -> Bool -> Mem -> Prop) : Prop :=
 kif x_10 (zR .u32 m b_0 (o_0 + 39 + 11) fun x6 => zR .u32 m b_0 (o_0 + 39 + 9) fun x7 => kif ((IntKind.wrap .i64 (IntKind.wrap .u32 (x6 - x7))) == 0) (bP b_0 o_0 x_11 4294967296 m (fun x8 m9 => iR b_0 o_0 x8 m9 (fun x14 x15 m16 => kr x14 x15 m16))) (bP b_0 o_0 x_11 (IntKind.wrap .i64 (IntKind.wrap .u32 (x6 - x7))) m (fun x10 m11 => iR b_0 o_0 x10 m11 (fun x17 x18 m19 => kr x17 x18 m19)))) (iR b_0 o_0 x_11 m (fun x20 x21 m22 => kr x20 x21 m22))
def zBv (b_0 o_0 : Nat) (x_2 : Int) (x_8 : Int) (x_9 : Bool) (x_10 : Bool) (m : Mem) (kr : Int -> Bool -> Mem -> Prop) : Prop :=
 kif x_9 (zR .i64 m b_0 (o_0 + 72) fun x5 => cO b_0 o_0 x_10 (if (if (IntKind.wrap .i64 (x_8 - x5)) > 1 then (IntKind.wrap .i64 (x_8 - x5)) else 1) < x_2 then (if (IntKind.wrap .i64 (x_8 - x5)) > 1 then (IntKind.wrap .i64 (x_8 - x5)) else 1) else x_2) m (fun x23 x24 m25 => kr x23 x24 m25)) (cO b_0 o_0 x_10 x_2 m (fun x26 x27 m28 => kr x26 x27 m28))
def F44 (b_0 o_0 : Nat) (b_1 o_1 : Nat) (x_2 : Int) (m : Mem) (k : Int -> Bool -> Mem -> Prop) : Prop :=
 F58 b_1 o_1 m fun x1 x2 m3 => zR .u32 m3 b_0 (o_0 + 39 + 12) fun x4 => kif (!x2) (kif (!((bits .and .u32 x4 32768) != 0)) (k 0 false m3) (zBv b_0 o_0 x_2 x1 x2 ((bits .and .u32 x4 32768) != 0) m3 (fun x29 x30 m31 => k x29 x30 m31))) (zBv b_0 o_0 x_2 x1 x2 ((bits .and .u32 x4 32768) != 0) m3 (fun x32 x33 m34 => k x32 x33 m34))
def G44 := Gs [.p, .p, .i .i64] [.i .i64, .b] F44
def zOm : PcD := ⟨[0, 2, 8, 9, 10], [.p, .i .i64, .i .i64, .b, .b], [⟨.ret, [6, 7], [.i .i64, .b], []⟩], zBv⟩
def zFk : PcD := ⟨[0, 10, 11], [.p, .b, .i .i64], [⟨.ret, [6, 7], [.i .i64, .b], []⟩], cO⟩
def zGy : PcD := ⟨[0, 11, 12], [.p, .i .i64, .i .i64], [⟨.normal, [11], [.i .i64], [0]⟩], bP⟩
def zHv : PcD := ⟨[0, 11], [.p, .i .i64], [⟨.ret, [6, 7], [.i .i64, .b], []⟩], iR⟩
def dM : LEnv := yB [] [] [7102, 10103, 14002, 15102] [(7102, xK zOm), (10103, xK zFk), (14002, xK zGy), (15102, xK zHv)]
theorem zQ9 : zF Tryz.prog E44 dM (zY dM (zE Tryz.f44) 2) := zN zHv (fun _ _ _ => by kernel_rfl) (by kernel_rfl) (fun _ _ _ _ _ => by kernel_rfl)
theorem zMo : zF Tryz.prog E44 dM (zY dM (zE Tryz.f44) 3) := zN zGy (fun _ _ _ => by kernel_rfl) (by kernel_rfl) (fun _ _ _ _ _ _ => by kernel_rfl)
theorem zP0 : zF Tryz.prog E44 dM (zY dM (zE Tryz.f44) 1) := zN zFk (fun _ _ _ => by kernel_rfl) (by kernel_rfl) (fun _ _ _ _ _ _ => by kernel_rfl)
theorem zTf : zF Tryz.prog E44 dM (zY dM (zE Tryz.f44) 0) := zN zOm (fun _ _ _ => by kernel_rfl) (by kernel_rfl) (fun _ _ _ _ _ _ _ _ => by kernel_rfl)
def E25 : zZ := ext E44 44 G44
theorem S25 (w0 : World) : SP w0 E25 := sg (S44 w0) Tryz.func44 Tryz.call44 (Λ := dM) 0 trivial 4 ⟨zTf, zP0, zQ9, zMo, trivial⟩ (by kernel_rfl) false (fun _ _ _ _ _ _ _ => by kernel_rfl)
def sI (b_0 o_0 : Nat) (x_1 : Int) (x_6 : Int) (m : Mem) (k1 : Int -> Mem -> Prop) (kr : Int -> Int -> Mem -> Prop) (kn : Int -> Mem -> Prop) : Prop :=
 ldA m b_0 (o_0 + 73) fun v22 => yD v22 fun b23 o24 => F43 b_0 (o_0 + 0) b23 o24 m fun x25 m26 => F39 b_0 o_0 m26 fun m27 => kif (x25 != (-2)) (k1 (IntKind.wrap .i64 (x_6 + 1)) m27) (ldA m27 b_0 (o_0 + 73) fun v28 => yD v28 fun b29 o30 => F44 b_0 (o_0 + 0) b29 o30 (IntKind.wrap .i64 (x_1 - x_6)) m27 fun x31 x32 m33 => kif (!x32) (kr 2 x_6 m33) (kn (IntKind.wrap .i64 (x_6 + x31)) m33))
def sJ (b_0 o_0 : Nat) (x_1 : Int) (x_6 : Int) (x_29 : Bool) (m : Mem) (k1 : Int -> Mem -> Prop) (kn : Int -> Mem -> Prop) : Prop :=
 kif x_29 (F41 b_0 o_0 m fun c5 x6 m7 => zQ m7 ⟨4, zH [(.flat (.int .u32 0)), (.flat (.slice none 0 0)), (.flat (.slice none 0 0)), (.flat (.slice none 0 0))], 85, false⟩ fun b9 m8 => vA 4 m8 b9 0 c5 fun m10 => kif x6 (yN 4 m10 b9 0 fun c11 => F42 b_0 o_0 c11 (IntKind.wrap .i64 (x_1 - x_6)) m10 fun x12 m13 => k1 (IntKind.wrap .i64 (x_6 + x12)) m13) (kn x_6 m10)) (kn x_6 m)
def zGp (b_0 o_0 : Nat) (x_1 : Int) (x_6 : Int) (m : Mem) (kn : Int -> Mem -> Prop) (k0 : Int -> Mem -> Prop) (kr : Int -> Int -> Mem -> Prop) : Prop :=
 kif (decide (x_6 < x_1)) (F39 b_0 o_0 m fun m1 => ldB m1 b_0 (o_0 + 0 + 36) fun x2 => kif (!x2) (F40 b_0 o_0 m1 fun x3 m4 => sJ b_0 o_0 x_1 x_6 (!x3) m4 (fun x14 m15 => kn x14 m15) (fun x16 m17 => sI b_0 o_0 x_1 x16 m17 (fun x34 m35 => kn x34 m35) (fun x36 x37 m38 => kr x36 x37 m38) (fun x39 m40 => kn x39 m40))) (sJ b_0 o_0 x_1 x_6 false m1 (fun x18 m19 => kn x18 m19) (fun x20 m21 => sI b_0 o_0 x_1 x20 m21 (fun x41 m42 => kn x41 m42) (fun x43 x44 m45 => kr x43 x44 m45) (fun x46 m47 => kn x46 m47)))) (k0 x_6 m)
def qK (b_0 o_0 : Nat) (x_1 : Int) : Nat -> Int -> Mem -> (Int -> Mem -> Prop) -> (Int -> Int -> Mem -> Prop) -> Prop
 | 0, _,  _, _, _ => yT False
 | N + 1, x_6,  m, k0, kr => zGp b_0 o_0 x_1 x_6 m (fun x_6' m' => qK b_0 o_0 x_1 N x_6' m' k0 kr) k0 kr
def F25 (b_0 o_0 : Nat) (x_1 : Int) (m : Mem) (k : Int -> Int -> Mem -> Prop) : Prop :=
 ∃ N53, qK b_0 o_0 (if 1099511627776 < x_1 then 1099511627776 else x_1) N53 0 m (fun x48 m49 => k 1 x48 m49) (fun x50 x51 m52 => k x50 x51 m52)
def G25 := Gs [.p, .i .i64] [.i .i64, .i .i64] F25
def yLh : LpD := ⟨[0, 1], [.p, .i .i64], [6], [.i .i64], [⟨.exit 0, [6], [.i .i64], []⟩, ⟨.ret, [4, 5], [.i .i64, .i .i64], []⟩], zGp, qK⟩
def zMk : PcD := ⟨[0, 1, 6, 29], [.p, .i .i64, .i .i64, .b], [⟨.exit 1, [6], [.i .i64], [0, 1]⟩, ⟨.normal, [6], [.i .i64], [0, 1]⟩], sJ⟩
def zPl : PcD := ⟨[0, 1, 6], [.p, .i .i64, .i .i64], [⟨.exit 1, [6], [.i .i64], [0, 1]⟩, ⟨.ret, [4, 5], [.i .i64, .i .i64], []⟩, ⟨.normal, [6], [.i .i64], [0, 1]⟩], sI⟩
def zHr : LEnv := yB [(3, pY yLh)] [] [6004, 9102] [(6004, xK zMk), (9102, xK zPl)]
theorem zTl : zF Tryz.prog E25 zHr (zY zHr (zE Tryz.f25) 0) := zN zPl (fun _ _ _ => by kernel_rfl) (by kernel_rfl) (fun _ _ _ _ _ _ => by kernel_rfl)
theorem zTh : zF Tryz.prog E25 zHr (zY zHr (zE Tryz.f25) 1) := zN zMk (fun _ _ _ => by kernel_rfl) (by kernel_rfl) (fun _ _ _ _ _ _ _ => by kernel_rfl)
theorem yL1 : yI Tryz.prog E25 zHr (wP (zE Tryz.f25) 0) := xM yLh (fun _ _ _ => by kernel_rfl) (by kernel_rfl) (fun _ _ _ _ _ _ _ => by kernel_rfl) (fun _ _ _ _ _ _ _ _ => by kernel_rfl) (fun _ _ _ _ _ _ _ => by kernel_rfl)
def E26 : zZ := ext E25 25 G25
theorem S26 (w0 : World) : SP w0 E26 := sg (S25 w0) Tryz.func25 Tryz.call25 (Λ := zHr) 1 ⟨yL1, trivial⟩ 2 ⟨zTl, zTh, trivial⟩ (by kernel_rfl) false (fun _ _ _ _ _ => by kernel_rfl)
def F26 (b_0 o_0 : Nat) (m : Mem) (k : (Nat -> AV) -> Mem -> Prop) : Prop :=
 zQ m ⟨73, Z73, 46, false⟩ fun b2 m1 => yN 73 m1 b_0 (o_0 + 0) fun c3 => vA 73 m1 b2 0 c3 fun m4 => yN 73 m4 b2 0 fun c5 => (zA m m4 /\ xZ 73 m c5 /\ k c5 m)
def G26 := Gs [.p] [.g 73] F26
def E27 : zZ := ext E26 26 G26
theorem S27 (w0 : World) : SP w0 E27 := xU (S26 w0) Tryz.func26 Tryz.call26 (by kernel_rfl) true (fun _ _ _ _ => by kernel_rfl)
def F27  (m : Mem) (k : Bool -> Mem -> Prop) : Prop :=
 F21 47 1 0 5 m fun c1 m2 => zQ m2 ⟨6, zC (Z6) 0 6 c1, 32, false⟩ fun b4 m3 => F16 (.sl b4 0 1 (.ex 1)) m3 fun v5 m6 => F23 v5 (.flat (.slice none 0 0)) 4 m6 fun v7 m8 => pZ v7 fun x9 => kif x9 (k false m8) (yD v7 fun b10 o11 => F25 b10 o11 3 m8 fun x12 x13 m14 => kif (x12 == 1) (kif (x13 == 3) (yD v7 fun b15 o16 => F26 b15 o16 m14 fun c17 m18 => kI .u32 ((sub c17 0 32) 1) fun x19 => k (x19 == 5) m18) (k false m14)) (k false m14))
def G27 := Gs [] [.b] F27
def E3 : zZ := ext E27 27 G27
theorem S3 (w0 : World) : SP w0 E3 := xU (S27 w0) Tryz.func27 Tryz.call27 (by kernel_rfl) false (fun _ _ => by kernel_rfl)
def F3 (x_0 : Int) (x_1 : Int) (x_2 : Int) (m : Mem) (k : Bool -> Mem -> Prop) : Prop :=
 F15 x_1 0 3 m fun x1 m2 => mkS [(.flat (.int .u8 0))] 1 5 256 256 m2 fun b3 m4 => qH 1 (.sl b3 0 256 (.ex 256)) (some (IntKind.wrap .i64 (x1 * 64))) none fun v5 => F18 5 x_0 m4 fun v6 m7 => F19  m7 fun v8 m9 => kif (AV.one v6) (kif (AV.one v8) (zQ m9 ⟨2, upd (upd (zH [(.flat (.slice none 0 0)), (.flat (.slice none 0 0))]) 0 v6) 1 v8, 26, false⟩ fun b11 m10 => F17 (.sl b11 0 2 (.ex 2)) m10 fun v12 m13 => F16 v12 m13 fun v14 m15 => qF 1 v5 v14 m15 fun v16 m17 => F20 5 0 (IntKind.wrap .u32 x1) m17 fun v18 m19 => F20 5 4 2560 m19 fun v20 m21 => F20 5 8 1 m21 fun v22 m23 => F18 1 2147486208 m23 fun v24 m25 => F18 2 40 m25 fun v26 m27 => F21 47 2 2 65535 m27 fun c28 m29 => zQ m29 ⟨6, zC (Z6) 0 6 c28, 32, false⟩ fun b31 m30 => F22 43 2 0 1 m30 fun v32 m33 => zQ m33 ⟨12, zC (zC (Z12) 0 6 (upd (upd (Z6) 0 (.flat (.int .i64 7))) 1 (.flat (.int .i64 1)))) 6 6 (upd (Z6) 0 (.flat (.int .i64 1))), 32, false⟩ fun b35 m34 => kif (AV.one v18) (kif (AV.one v20) (kif (AV.one v22) (kif (AV.one v24) (kif (AV.one v26) (kif (AV.one v32) (zQ m34 ⟨8, upd (upd (upd (upd (upd (upd (upd (upd (xHy) 0 v18) 1 v20) 2 v22) 3 v24) 4 v26) 5 (.sl b31 0 1 (.ex 1))) 6 v32) 7 (.sl b35 0 2 (.ex 2)), 26, false⟩ fun b37 m36 => F17 (.sl b37 0 8 (.ex 8)) m36 fun v38 m39 => F16 v38 m39 fun v40 m41 => F23 v40 (.sl b3 0 256 (.ex 256)) 5 m41 fun v42 m43 => pZ v42 fun x44 => kif x44 (k false m43) (yD v42 fun b45 o46 => F24 b45 o46 x_2 m43 fun m47 => yD v42 fun b48 o49 => F25 b48 o49 200 m47 fun x50 x51 m52 => yD v42 fun b53 o54 => F26 b53 o54 m52 fun c55 m56 => zQ m56 ⟨73, Z73, 46, false⟩ fun b58 m57 => vA 73 m57 b58 0 c55 fun m59 => zR .u32 m59 b58 5 fun x60 => kif (x60 == x_0) (zR .u32 m59 b58 34 fun x61 => kif (decide (x61 >= 2147486216)) (zR .u32 m59 b58 34 fun x62 => kif (decide (x62 <= 2147486224)) (F27  m59 fun x63 m64 => k x63 m64) (k false m59)) (k false m59)) (k false m59))) False) False) False) False) False) False) False) False
def G3 := Gs [.i .u32, .i .i64, .i .i64] [.b] F3
theorem fs3 (w0 : World) : FS Tryz.prog w0 3 G3 := yDx (S3 w0) Tryz.func3 Tryz.call3 (Λ := yPb) 0 trivial 0 trivial (by kernel_rfl) false (fun _ _ _ _ _ => by kernel_rfl)
end Go.Proofs.YtkiggdgphbkneaaGreat.Am
