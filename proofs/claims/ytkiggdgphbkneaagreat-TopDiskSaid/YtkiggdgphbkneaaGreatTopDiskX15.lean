/- What Go functions ask of what follows them, as plain functions over the abstract machine; the machine asks just that. Written by gen.py. What Go functions ask of what follows them, as plain functions over the abstract machine; the machine asks just that. Writt -/
import Derived.Test.YtkiggdgphbkneaaGreatTopDiskX14
namespace Go.Proofs.YtkiggdgphbkneaaGreat.Am
set_option linter.unusedVariables false
set_option linter.unusedSimpArgs false
set_option linter.constructorNameAsVariable false
set_option maxRecDepth 100000
def E32 : zZ := ext E47 47 G47
theorem S32 (w0 : World) : SP w0 E32 := xU (S47 w0) Tryz.func47 Tryz.call47 (by kernel_rfl) true (fun _ _ _ _ _ _ => by kernel_rfl)
def zHw (v_25 : AV) (x_26 : Int) (x_8 : Int) (x_27 : Int) (m : Mem) (kn : Int -> Int -> Mem -> Prop) (k0 : Int -> Mem -> Prop) : Prop :=
 kif (decide (x_27 < x_26)) (vD v_25 fun b6 o7 l8 p9 => kif (decide (0 <= x_27) && decide (x_27 < l8)) (zR .u8 m b6 (o7 + (x_27).toNat * 1) fun x10 => kn (bits .or .u32 (IntKind.wrap .u32 (x_8 * 256)) (IntKind.wrap .u32 x10)) (IntKind.wrap .i64 (x_27 + 1)) m) False) (k0 x_8 m)
def zUw (v_25 : AV) (x_26 : Int) : Nat -> Int -> Int -> Mem -> (Int -> Mem -> Prop) -> Prop
 | 0, _, _,  _, _ => yT False
 | N + 1, x_8, x_27,  m, k0 => zHw v_25 x_26 x_8 x_27 m (fun x_8' x_27' m' => zUw v_25 x_26 N x_8' x_27' m' k0) k0
def F32 (b_0 o_0 : Nat) (x_1 : Int) (x_2 : Int) (m : Mem) (k : Int -> Bool -> Mem -> Prop) : Prop :=
 F47 b_0 o_0 x_1 x_2 m fun x1 m2 => kif (!x1) ((zA m m2 /\ k 0 false m)) (ldA m2 b_0 (o_0 + 0) fun v3 => qH 1 v3 (some x_1) (some (IntKind.wrap .i64 ((IntKind.wrap .i64 x_1) + x_2))) fun v4 => xJ v4 fun x5 => ∃ N13, zUw v4 x5 N13 0 0 m2 (fun x11 m12 => (zA m m12 /\ k x11 true m)))
def G32 := Gs [.p, .i .u32, .i .i64] [.i .u32, .b] F32
def yLx : LpD := ⟨[25, 26], [.a, .i .i64], [8, 27], [.i .u32, .i .i64], [⟨.exit 0, [8], [.i .u32], []⟩], zHw, zUw⟩
def yMz : LEnv := yB [(5, pY yLx)] [] [] []
theorem yKd : yI Tryz.prog E32 yMz (wP (zE Tryz.f32) 0) := xM yLx (fun _ _ _ => by kernel_rfl) (by kernel_rfl) (fun _ _ _ _ _ _ _ => by kernel_rfl) (fun _ _ _ _ _ _ _ _ => by kernel_rfl) (fun _ _ _ _ _ _ _ => by kernel_rfl)
def E66 : zZ := ext E32 32 G32
theorem S66 (w0 : World) : SP w0 E66 := sg (S32 w0) Tryz.func32 Tryz.call32 (Λ := yMz) 1 ⟨yKd, trivial⟩ 0 trivial (by kernel_rfl) true (fun _ _ _ _ _ _ => by kernel_rfl)
def zIi (b_1 o_1 : Nat) (b_2 o_2 : Nat) (v_12 : AV) (x_13 : Int) (x_14 : Int) (m : Mem) (kn : Int -> Mem -> Prop) (k0 : Mem -> Prop) (kr : Bool -> Mem -> Prop) : Prop :=
 kif (decide (x_14 < x_13)) (vD v_12 fun b5 o6 l7 p8 => kif (decide (0 <= x_14) && decide (x_14 < l7)) (zR .u32 m b5 (o6 + (x_14).toNat * 1) fun x9 => zR .u32 m b_2 (o_2 + 0) fun x10 => F32 b_1 o_1 (IntKind.wrap .u32 (x10 + (IntKind.wrap .u32 (IntKind.wrap .i64 (4 * x_14))))) 4 m fun x11 x12 m13 => kif (!x12) (kr false m13) (kif (x11 != x9) (kr false m13) (kn (IntKind.wrap .i64 (x_14 + 1)) m13))) False) (k0  m)
def zWd (b_1 o_1 : Nat) (b_2 o_2 : Nat) (v_12 : AV) (x_13 : Int) : Nat -> Int -> Mem -> (Mem -> Prop) -> (Bool -> Mem -> Prop) -> Prop
 | 0, _,  _, _, _ => yT False
 | N + 1, x_14,  m, k0, kr => zIi b_1 o_1 b_2 o_2 v_12 x_13 x_14 m (fun x_14' m' => zWd b_1 o_1 b_2 o_2 v_12 x_13 N x_14' m' k0 kr) k0 kr
def F66 (c_0 : Nat -> AV) (b_1 o_1 : Nat) (m : Mem) (k : Bool -> Mem -> Prop) : Prop :=
 zQ m ⟨4, c_0, 85, false⟩ fun b2 m1 => ldA m1 b2 1 fun v3 => xJ v3 fun x4 => ∃ N17, zWd b_1 o_1 b2 0 v3 x4 N17 0 m1 (fun m14 => (zA m m14 /\ k true m)) (fun x15 m16 => (zA m m16 /\ k x15 m))
def G66 := Gs [.g 4, .p] [.b] F66
def yLp : LpD := ⟨[1, 2, 12, 13], [.p, .p, .a, .i .i64], [14], [.i .i64], [⟨.exit 0, [], [], []⟩, ⟨.ret, [4], [.b], []⟩], zIi, zWd⟩
def yL8 : LEnv := yB [(4, pY yLp)] [] [] []
theorem yH4 : yI Tryz.prog E66 yL8 (wP (zE Tryz.f66) 0) := xM yLp (fun _ _ _ => by kernel_rfl) (by kernel_rfl) (fun _ _ _ _ _ _ _ _ _ _ => by kernel_rfl) (fun _ _ _ _ _ _ _ _ _ _ _ => by kernel_rfl) (fun _ _ _ _ _ _ _ _ _ _ => by kernel_rfl)
def E67 : zZ := ext E66 66 G66
theorem S67 (w0 : World) : SP w0 E67 := sg (S66 w0) Tryz.func66 Tryz.call66 (Λ := yL8) 1 ⟨yH4, trivial⟩ 0 trivial (by kernel_rfl) true (fun _ _ _ _ _ => by kernel_rfl)
def F67 (c_0 : Nat -> AV) (m : Mem) (k : Int -> Mem -> Prop) : Prop :=
 zQ m ⟨4, c_0, 85, false⟩ fun b2 m1 => zR .u32 m1 b2 0 fun x3 => (zA m m1 /\ k (IntKind.wrap .i64 (IntKind.wrap .u32 (x3.tdiv 1024))) m)
def G67 := Gs [.g 4] [.i .i64] F67
def zC4 : zZ := ext E67 67 G67
theorem xEx (w0 : World) : SP w0 zC4 := xU (S67 w0) Tryz.func67 Tryz.call67 (by kernel_rfl) true (fun _ _ _ => by kernel_rfl)
def uJ (x_0 : Int) (x_103 : Bool) (m : Mem) (kr : Int -> Mem -> Prop) (kn : Mem -> Prop) : Prop :=
 kif x_103 (kr 19 m) (kif (x_0 == 53) (kr 18 m) (kif (x_0 == 54) (kr 6 m) (kif (x_0 == 55) (kr 6 m) (kn  m))))
def fG (x_0 : Int) (x_96 : Bool) (m : Mem) (kr : Int -> Mem -> Prop) (kn : Mem -> Prop) : Prop :=
 kif x_96 (kr 32 m) (kif (x_0 == 42) (uJ x_0 true m (fun x1 m2 => kr x1 m2) (fun m3 => kn  m3)) (kif (x_0 == 43) (uJ x_0 true m (fun x4 m5 => kr x4 m5) (fun m6 => kn  m6)) (kif (decide (x_0 >= 46)) (kif (decide (x_0 <= 52)) (uJ x_0 true m (fun x7 m8 => kr x7 m8) (fun m9 => kn  m9)) (kif (decide (x_0 >= 66)) (uJ x_0 (decide (x_0 <= 75)) m (fun x10 m11 => kr x10 m11) (fun m12 => kn  m12)) (uJ x_0 false m (fun x13 m14 => kr x13 m14) (fun m15 => kn  m15)))) (kif (decide (x_0 >= 66)) (uJ x_0 (decide (x_0 <= 75)) m (fun x16 m17 => kr x16 m17) (fun m18 => kn  m18)) (uJ x_0 false m (fun x19 m20 => kr x19 m20) (fun m21 => kn  m21))))))
def rQ (x_0 : Int) (x_81 : Bool) (m : Mem) (kr : Int -> Mem -> Prop) (kn : Mem -> Prop) : Prop :=
 kif x_81 (kr 17 m) (kif (x_0 == 40) (fG x_0 true m (fun x22 m23 => kr x22 m23) (fun m24 => kn  m24)) (fG x_0 (x_0 == 41) m (fun x25 m26 => kr x25 m26) (fun m27 => kn  m27)))
def rF (x_0 : Int) (x_66 : Bool) (m : Mem) (kr : Int -> Mem -> Prop) (kn : Mem -> Prop) : Prop :=
 kif x_66 (kr 3 m) (kif (decide (x_0 >= 36)) (kif (decide (x_0 <= 39)) (rQ x_0 true m (fun x28 m29 => kr x28 m29) (fun m30 => kn  m30)) (kif (x_0 == 44) (rQ x_0 true m (fun x31 m32 => kr x31 m32) (fun m33 => kn  m33)) (rQ x_0 (x_0 == 45) m (fun x34 m35 => kr x34 m35) (fun m36 => kn  m36)))) (kif (x_0 == 44) (rQ x_0 true m (fun x37 m38 => kr x37 m38) (fun m39 => kn  m39)) (rQ x_0 (x_0 == 45) m (fun x40 m41 => kr x40 m41) (fun m42 => kn  m42))))
def eM (x_0 : Int) (x_59 : Bool) (m : Mem) (kr : Int -> Mem -> Prop) (kn : Mem -> Prop) : Prop :=
 kif x_59 (kr 4 m) (kif (decide (x_0 >= 18)) (kif (decide (x_0 <= 21)) (rF x_0 true m (fun x43 m44 => kr x43 m44) (fun m45 => kn  m45)) (kif (decide (x_0 >= 32)) (rF x_0 (decide (x_0 <= 35)) m (fun x46 m47 => kr x46 m47) (fun m48 => kn  m48)) (rF x_0 false m (fun x49 m50 => kr x49 m50) (fun m51 => kn  m51)))) (kif (decide (x_0 >= 32)) (rF x_0 (decide (x_0 <= 35)) m (fun x52 m53 => kr x52 m53) (fun m54 => kn  m54)) (rF x_0 false m (fun x55 m56 => kr x55 m56) (fun m57 => kn  m57))))
def jY (x_0 : Int) (x_48 : Bool) (m : Mem) (kr : Int -> Mem -> Prop) (kn : Mem -> Prop) : Prop :=
 kif x_48 (kr 5 m) (kif (x_0 == 14) (eM x_0 true m (fun x58 m59 => kr x58 m59) (fun m60 => kn  m60)) (eM x_0 (x_0 == 16) m (fun x61 m62 => kr x61 m62) (fun m63 => kn  m63)))
def hH (x_0 : Int) (x_37 : Bool) (m : Mem) (kr : Int -> Mem -> Prop) (kn : Mem -> Prop) : Prop :=
 kif x_37 (kr 1 m) (kif (x_0 == 8) (jY x_0 true m (fun x64 m65 => kr x64 m65) (fun m66 => kn  m66)) (kif (x_0 == 64) (jY x_0 true m (fun x67 m68 => kr x67 m68) (fun m69 => kn  m69)) (jY x_0 (x_0 == 65) m (fun x70 m71 => kr x70 m71) (fun m72 => kn  m72))))
def wU (x_0 : Int) (x_10 : Bool) (m : Mem) (kr : Int -> Mem -> Prop) (kn : Mem -> Prop) : Prop :=
 kif x_10 (kr 7 m) (kif (x_0 == 7) (hH x_0 true m (fun x73 m74 => kr x73 m74) (fun m75 => kn  m75)) (kif (x_0 == 15) (hH x_0 true m (fun x76 m77 => kr x76 m77) (fun m78 => kn  m78)) (hH x_0 (x_0 == 17) m (fun x79 m80 => kr x79 m80) (fun m81 => kn  m81))))
def aZ (x_0 : Int) (x_3 : Bool) (m : Mem) (kr : Int -> Mem -> Prop) (kn : Mem -> Prop) : Prop :=
 kif x_3 (kr 14 m) (kif (decide (x_0 >= 4)) (kif (decide (x_0 <= 6)) (wU x_0 true m (fun x82 m83 => kr x82 m83) (fun m84 => kn  m84)) (kif (x_0 == 9) (wU x_0 true m (fun x85 m86 => kr x85 m86) (fun m87 => kn  m87)) (kif (x_0 == 10) (wU x_0 true m (fun x88 m89 => kr x88 m89) (fun m90 => kn  m90)) (kif (decide (x_0 >= 22)) (kif (decide (x_0 <= 31)) (wU x_0 true m (fun x91 m92 => kr x91 m92) (fun m93 => kn  m93)) (wU x_0 (x_0 == 63) m (fun x94 m95 => kr x94 m95) (fun m96 => kn  m96))) (wU x_0 (x_0 == 63) m (fun x97 m98 => kr x97 m98) (fun m99 => kn  m99)))))) (kif (x_0 == 9) (wU x_0 true m (fun x100 m101 => kr x100 m101) (fun m102 => kn  m102)) (kif (x_0 == 10) (wU x_0 true m (fun x103 m104 => kr x103 m104) (fun m105 => kn  m105)) (kif (decide (x_0 >= 22)) (kif (decide (x_0 <= 31)) (wU x_0 true m (fun x106 m107 => kr x106 m107) (fun m108 => kn  m108)) (wU x_0 (x_0 == 63) m (fun x109 m110 => kr x109 m110) (fun m111 => kn  m111))) (wU x_0 (x_0 == 63) m (fun x112 m113 => kr x112 m113) (fun m114 => kn  m114))))))
def yJg (x_0 : Int) (m : Mem) (k : Int -> Mem -> Prop) : Prop :=
 kif (decide (x_0 >= 1)) (aZ x_0 (decide (x_0 <= 3)) m (fun x115 m116 => (zA m m116 /\ k x115 m)) (fun m117 => (zA m m117 /\ k 0 m))) (aZ x_0 false m (fun x118 m119 => (zA m m119 /\ k x118 m)) (fun m120 => (zA m m120 /\ k 0 m)))
def xBb := Gs [.i .i64] [.i .i64] yJg
def zIl : PcD := ⟨[0, 3], [.i .i64, .b], [⟨.ret, [2], [.i .i64], []⟩, ⟨.normal, [], [], []⟩], aZ⟩
def zHo : PcD := ⟨[0, 10], [.i .i64, .b], [⟨.ret, [2], [.i .i64], []⟩, ⟨.normal, [], [], []⟩], wU⟩
def zHp : PcD := ⟨[0, 37], [.i .i64, .b], [⟨.ret, [2], [.i .i64], []⟩, ⟨.normal, [], [], []⟩], hH⟩
def zI3 : PcD := ⟨[0, 48], [.i .i64, .b], [⟨.ret, [2], [.i .i64], []⟩, ⟨.normal, [], [], []⟩], jY⟩
def zCh : PcD := ⟨[0, 59], [.i .i64, .b], [⟨.ret, [2], [.i .i64], []⟩, ⟨.normal, [], [], []⟩], eM⟩
def zC3 : PcD := ⟨[0, 66], [.i .i64, .b], [⟨.ret, [2], [.i .i64], []⟩, ⟨.normal, [], [], []⟩], rF⟩
def zCk : PcD := ⟨[0, 81], [.i .i64, .b], [⟨.ret, [2], [.i .i64], []⟩, ⟨.normal, [], [], []⟩], rQ⟩
def zE2 : PcD := ⟨[0, 96], [.i .i64, .b], [⟨.ret, [2], [.i .i64], []⟩, ⟨.normal, [], [], []⟩], fG⟩
def zDy : PcD := ⟨[0, 103], [.i .i64, .b], [⟨.ret, [2], [.i .i64], []⟩, ⟨.normal, [], [], []⟩], uJ⟩
def vN : LEnv := yB [] [] [2004, 4004, 6004, 8004, 10004, 12004, 14004, 16004, 18004] [(2004, xK zIl), (4004, xK zHo), (6004, xK zHp), (8004, xK zI3), (10004, xK zCh), (12004, xK zC3), (14004, xK zCk), (16004, xK zE2), (18004, xK zDy)]
theorem zM1 : zF Tryz.prog zC4 vN (zY vN (zE Tryz.f156) 8) := zN zDy (fun _ _ _ => by kernel_rfl) (by kernel_rfl) (fun _ _ _ _ => by kernel_rfl)
theorem zJ0 : zF Tryz.prog zC4 vN (zY vN (zE Tryz.f156) 7) := zN zE2 (fun _ _ _ => by kernel_rfl) (by kernel_rfl) (fun _ _ _ _ => by kernel_rfl)
theorem zLe : zF Tryz.prog zC4 vN (zY vN (zE Tryz.f156) 6) := zN zCk (fun _ _ _ => by kernel_rfl) (by kernel_rfl) (fun _ _ _ _ => by kernel_rfl)
theorem zLy : zF Tryz.prog zC4 vN (zY vN (zE Tryz.f156) 5) := zN zC3 (fun _ _ _ => by kernel_rfl) (by kernel_rfl) (fun _ _ _ _ => by kernel_rfl)
theorem zJh : zF Tryz.prog zC4 vN (zY vN (zE Tryz.f156) 4) := zN zCh (fun _ _ _ => by kernel_rfl) (by kernel_rfl) (fun _ _ _ _ => by kernel_rfl)
theorem zO8 : zF Tryz.prog zC4 vN (zY vN (zE Tryz.f156) 3) := zN zI3 (fun _ _ _ => by kernel_rfl) (by kernel_rfl) (fun _ _ _ _ => by kernel_rfl)
theorem zO7 : zF Tryz.prog zC4 vN (zY vN (zE Tryz.f156) 2) := zN zHp (fun _ _ _ => by kernel_rfl) (by kernel_rfl) (fun _ _ _ _ => by kernel_rfl)
theorem zNo : zF Tryz.prog zC4 vN (zY vN (zE Tryz.f156) 1) := zN zHo (fun _ _ _ => by kernel_rfl) (by kernel_rfl) (fun _ _ _ _ => by kernel_rfl)
theorem zPg : zF Tryz.prog zC4 vN (zY vN (zE Tryz.f156) 0) := zN zIl (fun _ _ _ => by kernel_rfl) (by kernel_rfl) (fun _ _ _ _ => by kernel_rfl)
def zYk : zZ := ext zC4 156 xBb
theorem xHo (w0 : World) : SP w0 zYk := sg (xEx w0) Tryz.func156 Tryz.call156 (Λ := vN) 0 trivial 9 ⟨zPg, zNo, zO7, zO8, zJh, zLy, zLe, zJ0, zM1, trivial⟩ (by kernel_rfl) true (fun _ _ _ => by kernel_rfl)
def pO (x_1 : Int) (b_4 o_4 : Nat) (b_5 o_5 : Nat) (x_6 : Int) (m : Mem) (kr : Mem -> Prop) : Prop :=
 kif ((bits .and .i64 x_6 16) != 0) (wF m b_5 (o_5 + 5) (.flat (.int .u32 (bits .and .u32 x_1 65535))) fun m12 => yN 6 m12 b_5 o_5 fun c14 => vA 6 m12 b_4 o_4 c14 fun m15 => kr  m15) (kif ((bits .and .i64 x_6 32) != 0) (wF m b_5 (o_5 + 5) (.flat (.int .u32 (bits .and .u32 x_1 67108863))) fun m13 => yN 6 m13 b_5 o_5 fun c16 => vA 6 m13 b_4 o_4 c16 fun m17 => kr  m17) (yN 6 m b_5 o_5 fun c18 => vA 6 m b_4 o_4 c18 fun m19 => kr  m19))
def nS (x_1 : Int) (b_4 o_4 : Nat) (b_5 o_5 : Nat) (x_6 : Int) (m : Mem) (kr : Mem -> Prop) : Prop :=
 kif ((bits .and .i64 x_6 8) != 0) (wF m b_5 (o_5 + 4) (.flat (.int .i64 (IntKind.wrap .i64 (bits .and .u32 (x_1.fdiv 64) 31)))) fun m11 => pO x_1 b_4 o_4 b_5 o_5 x_6 m11 (fun m20 => kr  m20)) (pO x_1 b_4 o_4 b_5 o_5 x_6 m (fun m21 => kr  m21))
def oU (x_1 : Int) (b_4 o_4 : Nat) (b_5 o_5 : Nat) (x_6 : Int) (m : Mem) (kr : Mem -> Prop) : Prop :=
 kif ((bits .and .i64 x_6 4) != 0) (wF m b_5 (o_5 + 3) (.flat (.int .i64 (IntKind.wrap .i64 (bits .and .u32 (x_1.fdiv 2048) 31)))) fun m10 => nS x_1 b_4 o_4 b_5 o_5 x_6 m10 (fun m22 => kr  m22)) (nS x_1 b_4 o_4 b_5 o_5 x_6 m (fun m23 => kr  m23))
def nL (x_1 : Int) (b_4 o_4 : Nat) (b_5 o_5 : Nat) (x_6 : Int) (m : Mem) (kr : Mem -> Prop) : Prop :=
 kif ((bits .and .i64 x_6 2) != 0) (wF m b_5 (o_5 + 2) (.flat (.int .i64 (IntKind.wrap .i64 (bits .and .u32 (x_1.fdiv 65536) 31)))) fun m9 => oU x_1 b_4 o_4 b_5 o_5 x_6 m9 (fun m24 => kr  m24)) (oU x_1 b_4 o_4 b_5 o_5 x_6 m (fun m25 => kr  m25))
def yFj (x_0 : Int) (x_1 : Int) (m : Mem) (k : (Nat -> AV) -> Mem -> Prop) : Prop :=
 zQ m ⟨6, Z6, 32, false⟩ fun b2 m1 => zQ m1 ⟨6, Z6, 32, false⟩ fun b4 m3 => vA 6 m3 b4 0 (upd (Z6) 0 (.flat (.int .i64 x_0))) fun m5 => yJg x_0 m5 fun x6 m7 => kif ((bits .and .i64 x6 1) != 0) (wF m7 b4 1 (.flat (.int .i64 (IntKind.wrap .i64 (bits .and .u32 (x_1.fdiv 2097152) 31)))) fun m8 => nL x_1 b2 0 b4 0 x6 m8 (fun m26 => yN 6 m26 b2 0 fun c28 => (zA m m26 /\ xZ 6 m c28 /\ k c28 m))) (nL x_1 b2 0 b4 0 x6 m7 (fun m27 => yN 6 m27 b2 0 fun c29 => (zA m m27 /\ xZ 6 m c29 /\ k c29 m)))
def xEf := Gs [.i .i64, .i .u32] [.g 6] yFj
def zGv : PcD := ⟨[1, 4, 5, 6], [.i .u32, .p, .p, .i .i64], [⟨.ret, [], [], [4]⟩], nL⟩
def zHg : PcD := ⟨[1, 4, 5, 6], [.i .u32, .p, .p, .i .i64], [⟨.ret, [], [], [4]⟩], oU⟩
def zGc : PcD := ⟨[1, 4, 5, 6], [.i .u32, .p, .p, .i .i64], [⟨.ret, [], [], [4]⟩], nS⟩
def zD2 : PcD := ⟨[1, 4, 5, 6], [.i .u32, .p, .p, .i .i64], [⟨.ret, [], [], [4]⟩], pO⟩
def lJ : LEnv := yB [] [] [5103, 7103, 9103, 11105] [(5103, xK zGv), (7103, xK zHg), (9103, xK zGc), (11105, xK zD2)]
theorem zKb : zF Tryz.prog zYk lJ (zY lJ (zE Tryz.f122) 3) := zN zD2 (fun _ _ _ => by kernel_rfl) (by kernel_rfl) (fun _ _ _ _ _ _ _ _ => by kernel_rfl)
theorem zPx : zF Tryz.prog zYk lJ (zY lJ (zE Tryz.f122) 2) := zN zGc (fun _ _ _ => by kernel_rfl) (by kernel_rfl) (fun _ _ _ _ _ _ _ _ => by kernel_rfl)
theorem zO1 : zF Tryz.prog zYk lJ (zY lJ (zE Tryz.f122) 1) := zN zHg (fun _ _ _ => by kernel_rfl) (by kernel_rfl) (fun _ _ _ _ _ _ _ _ => by kernel_rfl)
theorem zOq : zF Tryz.prog zYk lJ (zY lJ (zE Tryz.f122) 0) := zN zGv (fun _ _ _ => by kernel_rfl) (by kernel_rfl) (fun _ _ _ _ _ _ _ _ => by kernel_rfl)
def zJ3 : zZ := ext zYk 122 xEf
theorem xJf (w0 : World) : SP w0 zJ3 := sg (xHo w0) Tryz.func122 Tryz.call122 (Λ := lJ) 0 trivial 4 ⟨zOq, zO1, zPx, zKb, trivial⟩ (by kernel_rfl) true (fun _ _ _ _ => by kernel_rfl)
def fB (x_3 : Int) (x_75 : Bool) (m : Mem) (kr : Int -> Mem -> Prop) (kn : Mem -> Prop) : Prop :=
 kif x_75 (kr (IntKind.wrap .i64 ((IntKind.wrap .i64 (30 + x_3)) - 42)) m) (kif (decide (x_3 >= 48)) (kif (decide (x_3 <= 54)) (kif ((x_3.tmod 2) == 0) (kr (IntKind.wrap .i64 (32 + (IntKind.wrap .i64 ((IntKind.wrap .i64 (x_3 - 48)).tdiv 2)))) m) (kn  m)) (kn  m)) (kn  m))
def fI (x_3 : Int) (x_65 : Bool) (m : Mem) (kr : Int -> Mem -> Prop) (kn : Mem -> Prop) : Prop :=
 kif x_65 (kr (IntKind.wrap .i64 ((IntKind.wrap .i64 (22 + x_3)) - 32)) m) (kif (x_3 == 42) (fB x_3 true m (fun x1 m2 => kr x1 m2) (fun m3 => kn  m3)) (fB x_3 (x_3 == 43) m (fun x4 m5 => kr x4 m5) (fun m6 => kn  m6)))
def fA (x_3 : Int) (x_55 : Bool) (m : Mem) (kr : Int -> Mem -> Prop) (kn : Mem -> Prop) : Prop :=
 kif x_55 (kr (IntKind.wrap .i64 ((IntKind.wrap .i64 (18 + x_3)) - 24)) m) (kif (decide (x_3 >= 32)) (fI x_3 (decide (x_3 <= 39)) m (fun x7 m8 => kr x7 m8) (fun m9 => kn  m9)) (fI x_3 false m (fun x10 m11 => kr x10 m11) (fun m12 => kn  m12)))
def fW (x_3 : Int) (x_45 : Bool) (m : Mem) (kr : Int -> Mem -> Prop) (kn : Mem -> Prop) : Prop :=
 kif x_45 (kr (IntKind.wrap .i64 ((IntKind.wrap .i64 (14 + x_3)) - 16)) m) (kif (decide (x_3 >= 24)) (fA x_3 (decide (x_3 <= 27)) m (fun x13 m14 => kr x13 m14) (fun m15 => kn  m15)) (fA x_3 false m (fun x16 m17 => kr x16 m17) (fun m18 => kn  m18)))
def fR (x_3 : Int) (x_32 : Bool) (m : Mem) (kr : Int -> Mem -> Prop) (kn : Mem -> Prop) : Prop :=
 kif x_32 (kr (IntKind.wrap .i64 ((IntKind.wrap .i64 (7 + x_3)) - 8)) m) (kif (x_3 == 15) (kr 13 m) (kif (decide (x_3 >= 16)) (fW x_3 (decide (x_3 <= 19)) m (fun x19 m20 => kr x19 m20) (fun m21 => kn  m21)) (fW x_3 false m (fun x22 m23 => kr x22 m23) (fun m24 => kn  m24))))
def bT (x_3 : Int) (x_22 : Bool) (m : Mem) (kr : Int -> Mem -> Prop) (kn : Mem -> Prop) : Prop :=
 kif x_22 (kr (IntKind.wrap .i64 ((IntKind.wrap .i64 (5 + x_3)) - 6)) m) (kif (decide (x_3 >= 8)) (fR x_3 (decide (x_3 <= 13)) m (fun x25 m26 => kr x25 m26) (fun m27 => kn  m27)) (fR x_3 false m (fun x28 m29 => kr x28 m29) (fun m30 => kn  m30)))
def bI (x_3 : Int) (x_9 : Bool) (m : Mem) (kr : Int -> Mem -> Prop) (kn : Mem -> Prop) : Prop :=
 kif x_9 (kr (IntKind.wrap .i64 ((IntKind.wrap .i64 (2 + x_3)) - 2)) m) (kif (x_3 == 4) (kr 4 m) (kif (x_3 == 6) (bT x_3 true m (fun x31 m32 => kr x31 m32) (fun m33 => kn  m33)) (bT x_3 (x_3 == 7) m (fun x34 m35 => kr x34 m35) (fun m36 => kn  m36))))
def yQz (x_0 : Int) (m : Mem) (k : Int -> Mem -> Prop) : Prop :=
 kif ((IntKind.wrap .i64 x_0) == 0) ((zA m m /\ k 1 m)) (kif ((IntKind.wrap .i64 x_0) == 2) (bI (IntKind.wrap .i64 x_0) true m (fun x37 m38 => (zA m m38 /\ k x37 m)) (fun m39 => (zA m m39 /\ k 0 m))) (bI (IntKind.wrap .i64 x_0) ((IntKind.wrap .i64 x_0) == 3) m (fun x40 m41 => (zA m m41 /\ k x40 m)) (fun m42 => (zA m m42 /\ k 0 m))))
def xHh := Gs [.i .u32] [.i .i64] yQz
def zIn : PcD := ⟨[3, 9], [.i .i64, .b], [⟨.ret, [2], [.i .i64], []⟩, ⟨.normal, [], [], []⟩], bI⟩
def zFq : PcD := ⟨[3, 22], [.i .i64, .b], [⟨.ret, [2], [.i .i64], []⟩, ⟨.normal, [], [], []⟩], bT⟩
def zCz : PcD := ⟨[3, 32], [.i .i64, .b], [⟨.ret, [2], [.i .i64], []⟩, ⟨.normal, [], [], []⟩], fR⟩
def zDp : PcD := ⟨[3, 45], [.i .i64, .b], [⟨.ret, [2], [.i .i64], []⟩, ⟨.normal, [], [], []⟩], fW⟩
def zBt : PcD := ⟨[3, 55], [.i .i64, .b], [⟨.ret, [2], [.i .i64], []⟩, ⟨.normal, [], [], []⟩], fA⟩
def zDw : PcD := ⟨[3, 65], [.i .i64, .b], [⟨.ret, [2], [.i .i64], []⟩, ⟨.normal, [], [], []⟩], fI⟩
def zEv : PcD := ⟨[3, 75], [.i .i64, .b], [⟨.ret, [2], [.i .i64], []⟩, ⟨.normal, [], [], []⟩], fB⟩
def tO : LEnv := yB [] [] [5004, 9004, 11004, 15004, 17004, 19004, 21004] [(5004, xK zIn), (9004, xK zFq), (11004, xK zCz), (15004, xK zDp), (17004, xK zBt), (19004, xK zDw), (21004, xK zEv)]
theorem zKd : zF Tryz.prog zJ3 tO (zY tO (zE Tryz.f157) 6) := zN zEv (fun _ _ _ => by kernel_rfl) (by kernel_rfl) (fun _ _ _ _ => by kernel_rfl)
theorem zLu : zF Tryz.prog zJ3 tO (zY tO (zE Tryz.f157) 5) := zN zDw (fun _ _ _ => by kernel_rfl) (by kernel_rfl) (fun _ _ _ _ => by kernel_rfl)
theorem zLb : zF Tryz.prog zJ3 tO (zY tO (zE Tryz.f157) 4) := zN zBt (fun _ _ _ => by kernel_rfl) (by kernel_rfl) (fun _ _ _ _ => by kernel_rfl)
theorem zKt : zF Tryz.prog zJ3 tO (zY tO (zE Tryz.f157) 3) := zN zDp (fun _ _ _ => by kernel_rfl) (by kernel_rfl) (fun _ _ _ _ => by kernel_rfl)
theorem zK7 : zF Tryz.prog zJ3 tO (zY tO (zE Tryz.f157) 2) := zN zCz (fun _ _ _ => by kernel_rfl) (by kernel_rfl) (fun _ _ _ _ => by kernel_rfl)
theorem zO3 : zF Tryz.prog zJ3 tO (zY tO (zE Tryz.f157) 1) := zN zFq (fun _ _ _ => by kernel_rfl) (by kernel_rfl) (fun _ _ _ _ => by kernel_rfl)
theorem zPk : zF Tryz.prog zJ3 tO (zY tO (zE Tryz.f157) 0) := zN zIn (fun _ _ _ => by kernel_rfl) (by kernel_rfl) (fun _ _ _ _ => by kernel_rfl)
def yPp : zZ := ext zJ3 157 xHh
theorem xFa (w0 : World) : SP w0 yPp := sg (xJf w0) Tryz.func157 Tryz.call157 (Λ := tO) 0 trivial 7 ⟨zPk, zO3, zK7, zKt, zLb, zLu, zKd, trivial⟩ (by kernel_rfl) true (fun _ _ _ => by kernel_rfl)
def bJ (x_0 : Int) (x_3 : Int) (x_4 : Bool) (m : Mem) (kr : Int -> Mem -> Prop) (kn : Mem -> Prop) : Prop :=
 kif x_4 (kr (IntKind.wrap .i64 (36 + (IntKind.wrap .i64 x_0))) m) (kif (x_3 == 16) (kif (x_3 == 16) (kr (IntKind.wrap .i64 ((IntKind.wrap .i64 (38 + (IntKind.wrap .i64 x_0))) - 16)) m) (kn  m)) (kif (x_3 == 17) (kr (IntKind.wrap .i64 ((IntKind.wrap .i64 (38 + (IntKind.wrap .i64 x_0))) - 16)) m) (kn  m)))
def yOe (x_0 : Int) (m : Mem) (k : Int -> Mem -> Prop) : Prop :=
 kif (x_0 == 0) (bJ x_0 x_0 (x_0 == 0) m (fun x1 m2 => (zA m m2 /\ k x1 m)) (fun m3 => (zA m m3 /\ k 0 m))) (bJ x_0 x_0 (x_0 == 1) m (fun x4 m5 => (zA m m5 /\ k x4 m)) (fun m6 => (zA m m6 /\ k 0 m)))
def xJr := Gs [.i .u32] [.i .i64] yOe
def zIj : PcD := ⟨[0, 3, 4], [.i .u32, .i .u32, .b], [⟨.ret, [2], [.i .i64], []⟩, ⟨.normal, [], [], []⟩], bJ⟩
def zRt : LEnv := yB [] [] [4004] [(4004, xK zIj)]
theorem zNt : zF Tryz.prog yPp zRt (zY zRt (zE Tryz.f158) 0) := zN zIj (fun _ _ _ => by kernel_rfl) (by kernel_rfl) (fun _ _ _ _ _ => by kernel_rfl)
def yYl : zZ := ext yPp 158 xJr
theorem xK1 (w0 : World) : SP w0 yYl := sg (xFa w0) Tryz.func158 Tryz.call158 (Λ := zRt) 0 trivial 1 ⟨zNt, trivial⟩ (by kernel_rfl) true (fun _ _ _ => by kernel_rfl)
def yPo (x_0 : Int) (m : Mem) (k : Int -> Mem -> Prop) : Prop :=
 kif (x_0 == 1) ((zA m m /\ k 56 m)) (kif (x_0 == 2) ((zA m m /\ k 57 m)) (kif (x_0 == 6) ((zA m m /\ k 58 m)) (kif (x_0 == 8) ((zA m m /\ k 59 m)) (kif (x_0 == 24) ((zA m m /\ k 60 m)) (kif (x_0 == 32) ((zA m m /\ k 61 m)) ((zA m m /\ k 0 m)))))))
def xKc := Gs [.i .u32] [.i .i64] yPo
def yWn : zZ := ext yYl 196 xKc
theorem xL5 (w0 : World) : SP w0 yWn := xU (xK1 w0) Tryz.func196 Tryz.call196 (by kernel_rfl) true (fun _ _ _ => by kernel_rfl)
def yPx (x_0 : Int) (m : Mem) (k : Int -> Mem -> Prop) : Prop :=
 kif ((bits .and .u32 (x_0.fdiv 2097152) 31) == 0) ((zA m m /\ k 54 m)) (kif ((bits .and .u32 (x_0.fdiv 2097152) 31) == 4) ((zA m m /\ k 55 m)) (kif ((bits .and .u32 (x_0.fdiv 2097152) 31) == 16) (yPo (bits .and .u32 x_0 63) m fun x1 m2 => (zA m m2 /\ k x1 m)) ((zA m m /\ k 0 m))))
def xD3 := Gs [.i .u32] [.i .i64] yPx
def yWf : zZ := ext yWn 159 xD3
theorem xJh (w0 : World) : SP w0 yWf := xU (xL5 w0) Tryz.func159 Tryz.call159 (by kernel_rfl) true (fun _ _ _ => by kernel_rfl)
def yOz (x_0 : Int) (m : Mem) (k : Int -> Mem -> Prop) : Prop :=
 kif (x_0 == 2) ((zA m m /\ k 63 m)) (kif (x_0 == 32) (kif (x_0 == 32) ((zA m m /\ k (IntKind.wrap .i64 ((IntKind.wrap .i64 (64 + (IntKind.wrap .i64 x_0))) - 32)) m)) ((zA m m /\ k 0 m))) (kif (x_0 == 33) ((zA m m /\ k (IntKind.wrap .i64 ((IntKind.wrap .i64 (64 + (IntKind.wrap .i64 x_0))) - 32)) m)) ((zA m m /\ k 0 m))))
def xD8 := Gs [.i .u32] [.i .i64] yOz
def zU6 : zZ := ext yWf 160 xD8
theorem xDo (w0 : World) : SP w0 zU6 := xU (xJh w0) Tryz.func160 Tryz.call160 (by kernel_rfl) true (fun _ _ _ => by kernel_rfl)
def gT (x_3 : Int) (x_49 : Bool) (m : Mem) (kr : Int -> Mem -> Prop) (kn : Mem -> Prop) : Prop :=
 kif x_49 (kr (IntKind.wrap .i64 ((IntKind.wrap .i64 (71 + x_3)) - 40)) m) (kif (x_3 == 43) (kr 73 m) (kif (x_3 == 47) (kr 76 m) (kif (x_3 == 48) (kr 74 m) (kif (x_3 == 51) (kr 77 m) (kif (x_3 == 56) (kr 75 m) (kn  m))))))
def fJ (x_3 : Int) (x_39 : Bool) (m : Mem) (kr : Int -> Mem -> Prop) (kn : Mem -> Prop) : Prop :=
 kif x_39 (kr (IntKind.wrap .i64 ((IntKind.wrap .i64 (68 + x_3)) - 35)) m) (kif (x_3 == 40) (gT x_3 true m (fun x1 m2 => kr x1 m2) (fun m3 => kn  m3)) (gT x_3 (x_3 == 41) m (fun x4 m5 => kr x4 m5) (fun m6 => kn  m6)))
def aD (x_3 : Int) (x_29 : Bool) (m : Mem) (kr : Int -> Mem -> Prop) (kn : Mem -> Prop) : Prop :=
 kif x_29 (kr (IntKind.wrap .i64 ((IntKind.wrap .i64 (66 + x_3)) - 32)) m) (kif (decide (x_3 >= 35)) (fJ x_3 (decide (x_3 <= 37)) m (fun x7 m8 => kr x7 m8) (fun m9 => kn  m9)) (fJ x_3 false m (fun x10 m11 => kr x10 m11) (fun m12 => kn  m12)))
def cT (x_3 : Int) (x_16 : Bool) (m : Mem) (kr : Int -> Mem -> Prop) (kn : Mem -> Prop) : Prop :=
 kif x_16 (kr (IntKind.wrap .i64 ((IntKind.wrap .i64 (46 + x_3)) - 8)) m) (kif (x_3 == 17) (kr 62 m) (kif (x_3 == 32) (aD x_3 true m (fun x13 m14 => kr x13 m14) (fun m15 => kn  m15)) (aD x_3 (x_3 == 33) m (fun x16 m17 => kr x16 m17) (fun m18 => kn  m18))))
def bU (x_3 : Int) (x_6 : Bool) (m : Mem) (kr : Int -> Mem -> Prop) (kn : Mem -> Prop) : Prop :=
 kif x_6 (kr (IntKind.wrap .i64 ((IntKind.wrap .i64 (40 + x_3)) - 2)) m) (kif (decide (x_3 >= 8)) (cT x_3 (decide (x_3 <= 15)) m (fun x19 m20 => kr x19 m20) (fun m21 => kn  m21)) (cT x_3 false m (fun x22 m23 => kr x22 m23) (fun m24 => kn  m24)))
def yQl (x_0 : Int) (m : Mem) (k : Int -> Mem -> Prop) : Prop :=
 kif (decide ((IntKind.wrap .i64 x_0) >= 2)) (bU (IntKind.wrap .i64 x_0) (decide ((IntKind.wrap .i64 x_0) <= 7)) m (fun x25 m26 => (zA m m26 /\ k x25 m)) (fun m27 => (zA m m27 /\ k 0 m))) (bU (IntKind.wrap .i64 x_0) false m (fun x28 m29 => (zA m m29 /\ k x28 m)) (fun m30 => (zA m m30 /\ k 0 m)))
def xG9 := Gs [.i .u32] [.i .i64] yQl
def zHe : PcD := ⟨[3, 6], [.i .i64, .b], [⟨.ret, [2], [.i .i64], []⟩, ⟨.normal, [], [], []⟩], bU⟩
def zFt : PcD := ⟨[3, 16], [.i .i64, .b], [⟨.ret, [2], [.i .i64], []⟩, ⟨.normal, [], [], []⟩], cT⟩
def zG3 : PcD := ⟨[3, 29], [.i .i64, .b], [⟨.ret, [2], [.i .i64], []⟩, ⟨.normal, [], [], []⟩], aD⟩
def zDb : PcD := ⟨[3, 39], [.i .i64, .b], [⟨.ret, [2], [.i .i64], []⟩, ⟨.normal, [], [], []⟩], fJ⟩
def zCv : PcD := ⟨[3, 49], [.i .i64, .b], [⟨.ret, [2], [.i .i64], []⟩, ⟨.normal, [], [], []⟩], gT⟩
def pQ : LEnv := yB [] [] [3004, 5004, 9004, 11004, 13004] [(3004, xK zHe), (5004, xK zFt), (9004, xK zG3), (11004, xK zDb), (13004, xK zCv)]
theorem zM0 : zF Tryz.prog zU6 pQ (zY pQ (zE Tryz.f161) 4) := zN zCv (fun _ _ _ => by kernel_rfl) (by kernel_rfl) (fun _ _ _ _ => by kernel_rfl)
theorem zLp : zF Tryz.prog zU6 pQ (zY pQ (zE Tryz.f161) 3) := zN zDb (fun _ _ _ => by kernel_rfl) (by kernel_rfl) (fun _ _ _ _ => by kernel_rfl)
theorem zMq : zF Tryz.prog zU6 pQ (zY pQ (zE Tryz.f161) 2) := zN zG3 (fun _ _ _ => by kernel_rfl) (by kernel_rfl) (fun _ _ _ _ => by kernel_rfl)
theorem zMd : zF Tryz.prog zU6 pQ (zY pQ (zE Tryz.f161) 1) := zN zFt (fun _ _ _ => by kernel_rfl) (by kernel_rfl) (fun _ _ _ _ => by kernel_rfl)
theorem zMg : zF Tryz.prog zU6 pQ (zY pQ (zE Tryz.f161) 0) := zN zHe (fun _ _ _ => by kernel_rfl) (by kernel_rfl) (fun _ _ _ _ => by kernel_rfl)
def yRs : zZ := ext zU6 161 xG9
theorem xEj (w0 : World) : SP w0 yRs := sg (xDo w0) Tryz.func161 Tryz.call161 (Λ := pQ) 0 trivial 5 ⟨zMg, zMd, zMq, zLp, zM0, trivial⟩ (by kernel_rfl) true (fun _ _ _ => by kernel_rfl)
def yJx (x_0 : Int) (m : Mem) (k : Int -> Mem -> Prop) : Prop :=
 kif ((x_0.fdiv 67108864) == 0) (yQz (bits .and .u32 x_0 63) m fun x1 m2 => (zA m m2 /\ k x1 m)) (kif ((x_0.fdiv 67108864) == 1) (yOe (bits .and .u32 (x_0.fdiv 65536) 31) m fun x3 m4 => (zA m m4 /\ k x3 m)) (kif ((x_0.fdiv 67108864) == 16) (yPx x_0 m fun x5 m6 => (zA m m6 /\ k x5 m)) (kif ((x_0.fdiv 67108864) == 28) (yOz (bits .and .u32 x_0 63) m fun x7 m8 => (zA m m8 /\ k x7 m)) (yQl (x_0.fdiv 67108864) m fun x9 m10 => (zA m m10 /\ k x9 m)))))
def xB6 := Gs [.i .u32] [.i .i64] yJx
def E93 : zZ := ext yRs 123 xB6
theorem S93 (w0 : World) : SP w0 E93 := xU (xEj w0) Tryz.func123 Tryz.call123 (by kernel_rfl) true (fun _ _ _ => by kernel_rfl)
def F93 (x_0 : Int) (m : Mem) (k : (Nat -> AV) -> Mem -> Prop) : Prop :=
 zQ m ⟨6, Z6, 32, false⟩ fun b2 m1 => yJx x_0 m1 fun x3 m4 => yFj x3 x_0 m4 fun c5 m6 => vA 6 m6 b2 0 c5 fun m7 => yN 6 m7 b2 0 fun c8 => (zA m m7 /\ xZ 6 m c8 /\ k c8 m)
def G93 := Gs [.i .u32] [.g 6] F93
def E94 : zZ := ext E93 93 G93
theorem S94 (w0 : World) : SP w0 E94 := xU (S93 w0) Tryz.func93 Tryz.call93 (by kernel_rfl) true (fun _ _ _ => by kernel_rfl)
def nI (x_3 : Int) (x_55 : Bool) (m : Mem) (kr : Int -> Mem -> Prop) (kn : Mem -> Prop) : Prop :=
 kif x_55 (kr 5 m) (kif (x_3 == 22) (kr 2 m) (kif (x_3 == 24) (kr 2 m) (kif (x_3 == 46) (kr 2 m) (kif (decide (x_3 >= 32)) (kif (decide (x_3 <= 35)) (kr 2 m) (kn  m)) (kn  m)))))
def nH (x_3 : Int) (x_44 : Bool) (m : Mem) (kr : Int -> Mem -> Prop) (kn : Mem -> Prop) : Prop :=
 kif x_44 (kr 4 m) (kif (decide (x_3 >= 71)) (kif (decide (x_3 <= 73)) (nI x_3 true m (fun x4 m5 => kr x4 m5) (fun m6 => kn  m6)) (nI x_3 (x_3 == 75) m (fun x7 m8 => kr x7 m8) (fun m9 => kn  m9))) (nI x_3 (x_3 == 75) m (fun x10 m11 => kr x10 m11) (fun m12 => kn  m12)))
def pH (x_3 : Int) (x_29 : Bool) (m : Mem) (kr : Int -> Mem -> Prop) (kn : Mem -> Prop) : Prop :=
 kif x_29 (kr 3 m) (kif (decide (x_3 >= 66)) (kif (decide (x_3 <= 70)) (nH x_3 true m (fun x13 m14 => kr x13 m14) (fun m15 => kn  m15)) (nH x_3 (x_3 == 74) m (fun x16 m17 => kr x16 m17) (fun m18 => kn  m18))) (nH x_3 (x_3 == 74) m (fun x19 m20 => kr x19 m20) (fun m21 => kn  m21)))
def uZ (x_3 : Int) (x_6 : Bool) (m : Mem) (kr : Int -> Mem -> Prop) (kn : Mem -> Prop) : Prop :=
 kif x_6 (kr 6 m) (kif (x_3 == 7) (pH x_3 true m (fun x22 m23 => kr x22 m23) (fun m24 => kn  m24)) (kif (x_3 == 8) (pH x_3 true m (fun x25 m26 => kr x25 m26) (fun m27 => kn  m27)) (kif (decide (x_3 >= 36)) (pH x_3 (decide (x_3 <= 45)) m (fun x28 m29 => kr x28 m29) (fun m30 => kn  m30)) (pH x_3 false m (fun x31 m32 => kr x31 m32) (fun m33 => kn  m33)))))
def F94 (c_0 : Nat -> AV) (m : Mem) (k : Int -> Mem -> Prop) : Prop :=
 zQ m ⟨6, c_0, 32, false⟩ fun b2 m1 => zR .i64 m1 b2 0 fun x3 => kif (decide (x3 <= 0)) (uZ x3 true m1 (fun x34 m35 => (zA m m35 /\ k x34 m)) (fun m36 => (zA m m36 /\ k 1 m))) (kif (decide (x3 >= 78)) (uZ x3 true m1 (fun x37 m38 => (zA m m38 /\ k x37 m)) (fun m39 => (zA m m39 /\ k 1 m))) (kif (x3 == 11) (uZ x3 true m1 (fun x40 m41 => (zA m m41 /\ k x40 m)) (fun m42 => (zA m m42 /\ k 1 m))) (kif (x3 == 12) (uZ x3 true m1 (fun x43 m44 => (zA m m44 /\ k x43 m)) (fun m45 => (zA m m45 /\ k 1 m))) (kif (decide (x3 >= 54)) (uZ x3 (decide (x3 <= 62)) m1 (fun x46 m47 => (zA m m47 /\ k x46 m)) (fun m48 => (zA m m48 /\ k 1 m))) (uZ x3 false m1 (fun x49 m50 => (zA m m50 /\ k x49 m)) (fun m51 => (zA m m51 /\ k 1 m)))))))
def G94 := Gs [.g 6] [.i .i64] F94
def zPe : PcD := ⟨[3, 6], [.i .i64, .b], [⟨.ret, [2], [.i .i64], []⟩, ⟨.normal, [], [], []⟩], uZ⟩
def zQj : PcD := ⟨[3, 29], [.i .i64, .b], [⟨.ret, [2], [.i .i64], []⟩, ⟨.normal, [], [], []⟩], pH⟩
def zOc : PcD := ⟨[3, 44], [.i .i64, .b], [⟨.ret, [2], [.i .i64], []⟩, ⟨.normal, [], [], []⟩], nH⟩
def zQ4 : PcD := ⟨[3, 55], [.i .i64, .b], [⟨.ret, [2], [.i .i64], []⟩, ⟨.normal, [], [], []⟩], nI⟩
def cA : LEnv := yB [] [] [3004, 5004, 7004, 9004] [(3004, xK zPe), (5004, xK zQj), (7004, xK zOc), (9004, xK zQ4)]
theorem zRz : zF Tryz.prog E94 cA (zY cA (zE Tryz.f94) 3) := zN zQ4 (fun _ _ _ => by kernel_rfl) (by kernel_rfl) (fun _ _ _ _ => by kernel_rfl)
theorem zRg : zF Tryz.prog E94 cA (zY cA (zE Tryz.f94) 2) := zN zOc (fun _ _ _ => by kernel_rfl) (by kernel_rfl) (fun _ _ _ _ => by kernel_rfl)
theorem zS0 : zF Tryz.prog E94 cA (zY cA (zE Tryz.f94) 1) := zN zQj (fun _ _ _ => by kernel_rfl) (by kernel_rfl) (fun _ _ _ _ => by kernel_rfl)
theorem zRm : zF Tryz.prog E94 cA (zY cA (zE Tryz.f94) 0) := zN zPe (fun _ _ _ => by kernel_rfl) (by kernel_rfl) (fun _ _ _ _ => by kernel_rfl)
def yNw : zZ := ext E94 94 G94
theorem xKq (w0 : World) : SP w0 yNw := sg (S94 w0) Tryz.func94 Tryz.call94 (Λ := cA) 0 trivial 4 ⟨zRm, zS0, zRg, zRz, trivial⟩ (by kernel_rfl) true (fun _ _ _ => by kernel_rfl)
def bZ (b_1 o_1 : Nat) (v_11 : AV) (x_12 : Int) (x_13 : Int) (m : Mem) (kn : Int -> Mem -> Prop) (k0 : Mem -> Prop) (kr : Bool -> Mem -> Prop) : Prop :=
 kif (decide (x_13 < x_12)) (vD v_11 fun b8 o9 l10 p11 => kif (decide (0 <= x_13) && decide (x_13 < l10)) (zR .i64 m b8 (o9 + (x_13).toNat * 1) fun x12 => kif (decide (x12 < 0)) (kr false m) (kif (decide (x12 >= 40)) (kr false m) (kn (IntKind.wrap .i64 (x_13 + 1)) m))) False) (k0  m)
def zL4 (b_1 o_1 : Nat) (v_11 : AV) (x_12 : Int) : Nat -> Int -> Mem -> (Mem -> Prop) -> (Bool -> Mem -> Prop) -> Prop
 | 0, _,  _, _, _ => yT False
 | N + 1, x_13,  m, k0, kr => bZ b_1 o_1 v_11 x_12 x_13 m (fun x_13' m' => zL4 b_1 o_1 v_11 x_12 N x_13' m' k0 kr) k0 kr
def zS2 (c_0 : Nat -> AV) (m : Mem) (k : Bool -> Mem -> Prop) : Prop :=
 zQ m ⟨5, c_0, 224, false⟩ fun b2 m1 => zR .i64 m1 b2 1 fun x3 => zR .i64 m1 b2 2 fun x4 => zR .i64 m1 b2 3 fun x5 => zQ m1 ⟨3, upd (upd (upd (zH [(.flat (.int .i64 0)), (.flat (.int .i64 0)), (.flat (.int .i64 0))]) 0 (.flat (.int .i64 x3))) 1 (.flat (.int .i64 x4))) 2 (.flat (.int .i64 x5)), 3, false⟩ fun b7 m6 => ∃ N16, zL4 b2 0 (.sl b7 0 3 (.ex 3)) 3 N16 0 m6 (fun m13 => zR .i64 m13 b2 0 fun x17 => kif (decide (x17 >= 0)) (zR .i64 m13 b2 0 fun x18 => (zA m m13 /\ k (decide (x18 <= 22)) m)) ((zA m m13 /\ k false m))) (fun x14 m15 => (zA m m15 /\ k x14 m))
def xFd := Gs [.g 5] [.b] zS2
def yG4 : LpD := ⟨[1, 11, 12], [.p, .a, .i .i64], [13], [.i .i64], [⟨.exit 0, [], [], [1]⟩, ⟨.ret, [2], [.b], []⟩], bZ, zL4⟩
def zZz : LEnv := yB [(2, pY yG4)] [] [] []
theorem zZm : yI Tryz.prog yNw zZz (wP (zE Tryz.f169) 0) := xM yG4 (fun _ _ _ => by kernel_rfl) (by kernel_rfl) (fun _ _ _ _ _ _ _ _ => by kernel_rfl) (fun _ _ _ _ _ _ _ _ _ => by kernel_rfl) (fun _ _ _ _ _ _ _ _ => by kernel_rfl)
def yNb : zZ := ext yNw 169 xFd
theorem xGx (w0 : World) : SP w0 yNb := sg (xKq w0) Tryz.func169 Tryz.call169 (Λ := zZz) 1 ⟨zZm, trivial⟩ 0 trivial (by kernel_rfl) true (fun _ _ _ => by kernel_rfl)
def bW (v_5 : AV) (x_6 : Int) (x_7 : Int) (m : Mem) (kn : Int -> Mem -> Prop) (k0 : Mem -> Prop) (kr : Bool -> Mem -> Prop) : Prop :=
 kif (decide (x_7 < x_6)) (vD v_5 fun b2 o3 l4 p5 => kif (decide (0 <= x_7) && decide (x_7 < l4)) (yN 5 m b2 (o3 + (x_7).toNat * 5) fun c6 => zQ m ⟨5, zH [(.flat (.int .i64 0)), (.flat (.int .i64 0)), (.flat (.int .i64 0)), (.flat (.int .i64 0)), (.flat (.int .u32 0))], 224, false⟩ fun b8 m7 => vA 5 m7 b8 0 c6 fun m9 => yN 5 m9 b8 0 fun c10 => zS2 c10 m9 fun x11 m12 => kif (!x11) (kr false m12) (kn (IntKind.wrap .i64 (x_7 + 1)) m12)) False) (k0  m)
def zJ4 (v_5 : AV) (x_6 : Int) : Nat -> Int -> Mem -> (Mem -> Prop) -> (Bool -> Mem -> Prop) -> Prop
 | 0, _,  _, _, _ => yT False
 | N + 1, x_7,  m, k0, kr => bW v_5 x_6 x_7 m (fun x_7' m' => zJ4 v_5 x_6 N x_7' m' k0 kr) k0 kr
def yDm (v_0 : AV) (m : Mem) (k : Bool -> Mem -> Prop) : Prop :=
 xJ v_0 fun x1 => ∃ N16, zJ4 v_0 x1 N16 0 m (fun m13 => (zA m m13 /\ k true m)) (fun x14 m15 => (zA m m15 /\ k x14 m))
def xDk := Gs [.a] [.b] yDm
def yDh : LpD := ⟨[5, 6], [.a, .i .i64], [7], [.i .i64], [⟨.exit 0, [], [], []⟩, ⟨.ret, [2], [.b], []⟩], bW, zJ4⟩
def yBj : LEnv := yB [(2, pY yDh)] [] [] []
theorem yCb : yI Tryz.prog yNb yBj (wP (zE Tryz.f197) 0) := xM yDh (fun _ _ _ => by kernel_rfl) (by kernel_rfl) (fun _ _ _ _ _ _ => by kernel_rfl) (fun _ _ _ _ _ _ _ => by kernel_rfl) (fun _ _ _ _ _ _ => by kernel_rfl)
def yKr : zZ := ext yNb 197 xDk
theorem xBd (w0 : World) : SP w0 yKr := sg (xGx w0) Tryz.func197 Tryz.call197 (Λ := yBj) 1 ⟨yCb, trivial⟩ 0 trivial (by kernel_rfl) true (fun _ _ _ => by kernel_rfl)
def qS (b_1 o_1 : Nat) (x_14 : Bool) (m : Mem) (kr : AV -> Mem -> Prop) (kn : Mem -> Prop) : Prop :=
 kif x_14 (zQ m ⟨2, upd (upd (zH [(.flat (.int .i64 0)), (.flat (.int .i64 0))]) 0 (.flat (.int .i64 32))) 1 (.flat (.int .i64 33)), 3, false⟩ fun b8 m7 => kr (.sl b8 0 2 (.ex 2)) m7) (zR .i64 m b_1 (o_1 + 1) fun x9 => kif (x9 == 0) (kr (.flat (.slice none 0 0)) m) (kn  m))
def jZ (b_1 o_1 : Nat) (x_3 : Int) (x_6 : Bool) (m : Mem) (kr : AV -> Mem -> Prop) (kn : Mem -> Prop) : Prop :=
 kif x_6 (kr (.flat (.slice none 0 0)) m) (kif (decide (x_3 >= 17)) (qS b_1 o_1 (decide (x_3 <= 20)) m (fun v10 m11 => kr v10 m11) (fun m12 => kn  m12)) (qS b_1 o_1 false m (fun v13 m14 => kr v13 m14) (fun m15 => kn  m15)))
def zXp (c_0 : Nat -> AV) (m : Mem) (k : AV -> Mem -> Prop) : Prop :=
 zQ m ⟨5, c_0, 224, false⟩ fun b2 m1 => zR .i64 m1 b2 0 fun x3 => yN 5 m1 b2 0 fun c4 => zS2 c4 m1 fun x5 m6 => kif (!x5) (jZ b2 0 x3 true m6 (fun v16 m17 => k v16 m17) (fun m18 => zR .i64 m18 b2 1 fun x22 => zQ m18 ⟨1, upd (zH [(.flat (.int .i64 0))]) 0 (.flat (.int .i64 x22)), 3, false⟩ fun b24 m23 => k (.sl b24 0 1 (.ex 1)) m23)) (jZ b2 0 x3 (x3 == 0) m6 (fun v19 m20 => k v19 m20) (fun m21 => zR .i64 m21 b2 1 fun x25 => zQ m21 ⟨1, upd (zH [(.flat (.int .i64 0))]) 0 (.flat (.int .i64 x25)), 3, false⟩ fun b27 m26 => k (.sl b27 0 1 (.ex 1)) m26))
def xIw := Gs [.g 5] [.a] zXp
def zH0 : PcD := ⟨[1, 3, 6], [.p, .i .i64, .b], [⟨.ret, [2], [.a], []⟩, ⟨.normal, [], [], [1]⟩], jZ⟩
def zH2 : PcD := ⟨[1, 14], [.p, .b], [⟨.ret, [2], [.a], []⟩, ⟨.normal, [], [], [1]⟩], qS⟩
def zDe : LEnv := yB [] [] [3004, 5004] [(3004, xK zH0), (5004, xK zH2)]
theorem zN8 : zF Tryz.prog yKr zDe (zY zDe (zE Tryz.f198) 1) := zN zH2 (fun _ _ _ => by kernel_rfl) (by kernel_rfl) (fun _ _ _ _ _ => by kernel_rfl)
theorem zNc : zF Tryz.prog yKr zDe (zY zDe (zE Tryz.f198) 0) := zN zH0 (fun _ _ _ => by kernel_rfl) (by kernel_rfl) (fun _ _ _ _ _ _ => by kernel_rfl)
def yXk : zZ := ext yKr 198 xIw
theorem xJq (w0 : World) : SP w0 yXk := sg (xBd w0) Tryz.func198 Tryz.call198 (Λ := zDe) 0 trivial 2 ⟨zNc, zN8, trivial⟩ (by kernel_rfl) false (fun _ _ _ => by kernel_rfl)
def yNt (c_0 : Nat -> AV) (m : Mem) (k : Bool -> Mem -> Prop) : Prop :=
 zQ m ⟨5, c_0, 224, false⟩ fun b2 m1 => yN 5 m1 b2 0 fun c3 => zS2 c3 m1 fun x4 m5 => (zA m m5 /\ k (!x4) m)
def xCk := Gs [.g 5] [.b] yNt
def yV1 : zZ := ext yXk 168 xCk
theorem xI8 (w0 : World) : SP w0 yV1 := xU (xJq w0) Tryz.func168 Tryz.call168 (by kernel_rfl) true (fun _ _ _ => by kernel_rfl)
def yNg (x_0 : Int) (v_1 : AV) (m : Mem) (k : Bool -> Mem -> Prop) : Prop :=
 yD v_1 fun b1 o2 => kif (decide (0 <= x_0) && decide (x_0 < 40)) (ldB m b1 (o2 + (x_0).toNat * 1) fun x3 => (zA m m /\ k x3 m)) False
def xFu := Gs [.i .i64, .a] [.b] yNg
def yW5 : zZ := ext yV1 200 xFu
theorem xJa (w0 : World) : SP w0 yW5 := xU (xI8 w0) Tryz.func200 Tryz.call200 (by kernel_rfl) true (fun _ _ _ _ => by kernel_rfl)
def yO8 (x_0 : Int) (m : Mem) (k : Bool -> Mem -> Prop) : Prop :=
 (zA m m /\ k (x_0 != x_0) m)
def xKa := Gs [.i .i64] [.b] yO8
def yS2 : zZ := ext yW5 238 xKa
theorem xKh (w0 : World) : SP w0 yS2 := xU (xJa w0) Tryz.func238 Tryz.call238 (by kernel_rfl) true (fun _ _ _ => by kernel_rfl)
def yWj (x_0 : Int) (x_1 : Int) (m : Mem) (k : Int -> Mem -> Prop) : Prop :=
 yO8 x_0 m fun x1 m2 => yO8 x_1 m2 fun x3 m4 => kif x1 (kif x3 ((zA m m4 /\ k 0 m)) ((zA m m4 /\ k (-1) m))) (kif x3 ((zA m m4 /\ k 1 m)) (kif (decide (x_0 < x_1)) ((zA m m4 /\ k (-1) m)) (kif (decide (x_0 > x_1)) ((zA m m4 /\ k 1 m)) ((zA m m4 /\ k 0 m)))))
def xHp := Gs [.i .i64, .i .i64] [.i .i64] yWj
def yS8 : zZ := ext yS2 228 xHp
theorem xCs (w0 : World) : SP w0 yS8 := xU (xKh w0) Tryz.func228 Tryz.call228 (by kernel_rfl) true (fun _ _ _ _ => by kernel_rfl)
def xJl (c_0 : Nat -> AV) (c_1 : Nat -> AV) (m : Mem) (k : Int -> Mem -> Prop) : Prop :=
 zQ m ⟨3, c_0, 158, false⟩ fun b2 m1 => zQ m1 ⟨3, c_1, 158, false⟩ fun b4 m3 => zR .i64 m3 b2 0 fun x5 => zR .i64 m3 b4 0 fun x6 => yWj x5 x6 m3 fun x7 m8 => (zA m m8 /\ k x7 m)
def xJg := Gs [.g 3, .g 3] [.i .i64] xJl
def yXf : zZ := ext yS8 227 xJg
theorem xI0 (w0 : World) : SP w0 yXf := xU (xCs w0) Tryz.func227 Tryz.call227 (by kernel_rfl) true (fun _ _ _ _ => by kernel_rfl)
def xFl (c_0 : Nat -> AV) (v_1 : AV) (m : Mem) (k : Bool -> Mem -> Prop) : Prop :=
 zQ m ⟨3, c_0, 158, false⟩ fun b2 m1 => zR .i64 m1 b2 1 fun x3 => yD v_1 fun b4 o5 => zR .i64 m1 b4 o5 fun x6 => (zA m m1 /\ k (x3 == x6) m)
def xCg := Gs [.g 3, .a] [.b] xFl
def yE2 : zZ := ext yXf 251 xCg
theorem xCl (w0 : World) : SP w0 yE2 := xU (xI0 w0) Tryz.func251 Tryz.call251 (by kernel_rfl) true (fun _ _ _ _ => by kernel_rfl)
def cR (v_0 : AV) (v_1 : AV) (x_7 : Int) (x_8 : Int) (m : Mem) (kn : Int -> Mem -> Prop) (k0 : Mem -> Prop) (kr : Int -> Mem -> Prop) : Prop :=
 kif (decide (x_8 < x_7)) (vD v_0 fun b2 o3 l4 p5 => kif (decide (0 <= x_8) && decide (x_8 < l4)) (zR .i64 m b2 (o3 + (x_8).toNat * 1) fun x6 => mB v_1 fun f7 l10 => yE2 f7 ([(.flat (.int .i64 x6))] ++ l10) m fun v8 m9 => tP v8 fun x11 => kif x11 (kr x_8 m9) (kn (IntKind.wrap .i64 (x_8 + 1)) m9)) False) (k0  m)
def zLm (v_0 : AV) (v_1 : AV) (x_7 : Int) : Nat -> Int -> Mem -> (Mem -> Prop) -> (Int -> Mem -> Prop) -> Prop
 | 0, _,  _, _, _ => yT False
 | N + 1, x_8,  m, k0, kr => cR v_0 v_1 x_7 x_8 m (fun x_8' m' => zLm v_0 v_1 x_7 N x_8' m' k0 kr) k0 kr
def yO4 (v_0 : AV) (v_1 : AV) (m : Mem) (k : Int -> Mem -> Prop) : Prop :=
 xJ v_0 fun x1 => ∃ N15, zLm v_0 v_1 x1 N15 0 m (fun m12 => k (-1) m12) (fun x13 m14 => k x13 m14)
def xAn := Gs [.a, .a] [.i .i64] yO4
def yB8 : LpD := ⟨[0, 1, 7], [.a, .a, .i .i64], [8], [.i .i64], [⟨.exit 0, [], [], []⟩, ⟨.ret, [4], [.i .i64], []⟩], cR, zLm⟩
def zZw : LEnv := yB [(2, pY yB8)] [] [] []
theorem yAh : yI Tryz.prog yE2 zZw (wP (zE Tryz.f220) 0) := xM yB8 (fun _ _ _ => by kernel_rfl) (by kernel_rfl) (fun _ _ _ _ _ _ _ => by kernel_rfl) (fun _ _ _ _ _ _ _ _ => by kernel_rfl) (fun _ _ _ _ _ _ _ => by kernel_rfl)
def yTm : zZ := ext yE2 220 xAn
theorem xKx (w0 : World) : SP w0 yTm := sg (xCl w0) Tryz.func220 Tryz.call220 (Λ := zZw) 1 ⟨yAh, trivial⟩ 0 trivial (by kernel_rfl) false (fun _ _ _ _ => by kernel_rfl)
def yKw (v_0 : AV) (v_1 : AV) (m : Mem) (k : Bool -> Mem -> Prop) : Prop :=
 yO4 v_0 v_1 m fun x1 m2 => k (decide (x1 >= 0)) m2
def xG6 := Gs [.a, .a] [.b] yKw
def yYb : zZ := ext yTm 199 xG6
theorem xC3 (w0 : World) : SP w0 yYb := xU (xKx w0) Tryz.func199 Tryz.call199 (by kernel_rfl) false (fun _ _ _ _ => by kernel_rfl)
def zX8 (c_0 : Nat -> AV) (m : Mem) (k : Bool -> Mem -> Prop) : Prop :=
 zQ m ⟨5, c_0, 224, false⟩ fun b2 m1 => zR .i64 m1 b2 0 fun x3 => kif (x3 != 21) (zR .i64 m1 b2 0 fun x4 => (zA m m1 /\ k (x4 != 22) m)) ((zA m m1 /\ k false m))
def xJi := Gs [.g 5] [.b] zX8
def yVl : zZ := ext yYb 201 xJi
theorem xJb (w0 : World) : SP w0 yVl := xU (xC3 w0) Tryz.func201 Tryz.call201 (by kernel_rfl) true (fun _ _ _ => by kernel_rfl)
def yAl (x_0 : Int) (m : Mem) (k : Bool -> Mem -> Prop) : Prop :=
 (zA m m /\ k (x_0 != x_0) m)
def xFq := Gs [.i .i64] [.b] yAl
def yVm : zZ := ext yVl 259 xFq
theorem xKp (w0 : World) : SP w0 yVm := xU (xJb w0) Tryz.func259 Tryz.call259 (by kernel_rfl) true (fun _ _ _ => by kernel_rfl)
def yB9 (x_0 : Int) (x_1 : Int) (m : Mem) (k : Bool -> Mem -> Prop) : Prop :=
 yAl x_0 m fun x1 m2 => kif x1 (yAl x_1 m2 fun x3 m4 => kif (!x3) ((zA m m4 /\ k true m)) ((zA m m4 /\ k (decide (x_0 < x_1)) m))) ((zA m m2 /\ k (decide (x_0 < x_1)) m))
def xDx := Gs [.i .i64, .i .i64] [.b] yB9
def yKa : zZ := ext yVm 246 xDx
theorem xE0 (w0 : World) : SP w0 yKa := xU (xKp w0) Tryz.func246 Tryz.call246 (by kernel_rfl) true (fun _ _ _ _ => by kernel_rfl)
def cN (v_0 : AV) (x_1 : Int) (x_2 : Int) (x_6 : Int) (x_7 : Int) (m : Mem) (kn : Int -> Mem -> Prop) (k2 : Mem -> Prop) : Prop :=
 kif (decide (x_7 > x_1)) (vD v_0 fun b1 o2 l3 p4 => kif (decide (0 <= x_7) && decide (x_7 < l3)) (zR .i64 m b1 (o2 + (x_7).toNat * 1) fun x5 => vD v_0 fun b6 o7 l8 p9 => kif (decide (0 <= IntKind.wrap .i64 (x_7 - 1)) && decide (IntKind.wrap .i64 (x_7 - 1) < l8)) (zR .i64 m b6 (o7 + (IntKind.wrap .i64 (x_7 - 1)).toNat * 1) fun x10 => yB9 x5 x10 m fun x11 m12 => kif x11 (vD v_0 fun b13 o14 l15 p16 => kif (decide (0 <= IntKind.wrap .i64 (x_7 - 1)) && decide (IntKind.wrap .i64 (x_7 - 1) < l15)) (zR .i64 m12 b13 (o14 + (IntKind.wrap .i64 (x_7 - 1)).toNat * 1) fun x17 => vD v_0 fun b18 o19 l20 p21 => kif (decide (0 <= x_7) && decide (x_7 < l20)) (zR .i64 m12 b18 (o19 + (x_7).toNat * 1) fun x22 => vD v_0 fun b23 o24 l25 p26 => kif (decide (0 <= x_7) && decide (x_7 < l25)) (wF m12 b23 (o24 + (x_7).toNat * 1) (.flat (.int .i64 x17)) fun m27 => vD v_0 fun b28 o29 l30 p31 => kif (decide (0 <= IntKind.wrap .i64 (x_7 - 1)) && decide (IntKind.wrap .i64 (x_7 - 1) < l30)) (wF m27 b28 (o29 + (IntKind.wrap .i64 (x_7 - 1)).toNat * 1) (.flat (.int .i64 x22)) fun m32 => kn (IntKind.wrap .i64 (x_7 - 1)) m32) False) False) False) False) (k2  m12)) False) False) (k2  m)
def zQy (v_0 : AV) (x_1 : Int) (x_2 : Int) (x_6 : Int) : Nat -> Int -> Mem -> (Mem -> Prop) -> Prop
 | 0, _,  _, _ => yT False
 | N + 1, x_7,  m, k2 => cN v_0 x_1 x_2 x_6 x_7 m (fun x_7' m' => zQy v_0 x_1 x_2 x_6 N x_7' m' k2) k2
def kY (v_0 : AV) (x_1 : Int) (x_2 : Int) (x_6 : Int) (m : Mem) (kn : Int -> Mem -> Prop) (k0 : Mem -> Prop) : Prop :=
 kif (decide (x_6 < x_2)) (∃ N34, zQy v_0 x_1 x_2 x_6 N34 x_6 m (fun m33 => kn (IntKind.wrap .i64 (x_6 + 1)) m33)) (k0  m)
def zL9 (v_0 : AV) (x_1 : Int) (x_2 : Int) : Nat -> Int -> Mem -> (Mem -> Prop) -> Prop
 | 0, _,  _, _ => yT False
 | N + 1, x_6,  m, k0 => kY v_0 x_1 x_2 x_6 m (fun x_6' m' => zL9 v_0 x_1 x_2 N x_6' m' k0) k0
def zWy (v_0 : AV) (x_1 : Int) (x_2 : Int) (m : Mem) (k : Mem -> Prop) : Prop :=
 ∃ N36, zL9 v_0 x_1 x_2 N36 (IntKind.wrap .i64 (x_1 + 1)) m (fun m35 => k  m35)
def xHu := Gs [.a, .i .i64, .i .i64] [] zWy
def yEr : LpD := ⟨[0, 1, 2], [.a, .i .i64, .i .i64], [6], [.i .i64], [⟨.exit 0, [], [], []⟩], kY, zL9⟩
def yE5 : LpD := ⟨[0, 1, 2, 6], [.a, .i .i64, .i .i64, .i .i64], [7], [.i .i64], [⟨.exit 2, [], [], [0, 1, 2, 6]⟩], cN, zQy⟩
def zRp : LEnv := yB [(1, pY yEr), (4, pY yE5)] [] [] []
theorem yDi : yI Tryz.prog yKa zRp (wP (zE Tryz.f240) 1) := xM yE5 (fun _ _ _ => by kernel_rfl) (by kernel_rfl) (fun _ _ _ _ _ _ _ _ => by kernel_rfl) (fun _ _ _ _ _ _ _ _ _ => by kernel_rfl) (fun _ _ _ _ _ _ _ _ => by kernel_rfl)
theorem yFp : yI Tryz.prog yKa zRp (wP (zE Tryz.f240) 0) := xM yEr (fun _ _ _ => by kernel_rfl) (by kernel_rfl) (fun _ _ _ _ _ _ _ => by kernel_rfl) (fun _ _ _ _ _ _ _ _ => by kernel_rfl) (fun _ _ _ _ _ _ _ => by kernel_rfl)
def yR2 : zZ := ext yKa 240 xHu
theorem xE4 (w0 : World) : SP w0 yR2 := sg (xE0 w0) Tryz.func240 Tryz.call240 (Λ := zRp) 2 ⟨yFp, yDi, trivial⟩ 0 trivial (by kernel_rfl) false (fun _ _ _ _ _ => by kernel_rfl)
def zKe (v_0 : AV) (x_1 : Int) (x_2 : Int) (x_3 : Int) (x_8 : Bool) (x_9 : Bool) (m : Mem) (kn : Int -> Int -> Int -> Bool -> Bool -> Mem -> Prop) (kr : Mem -> Prop) : Prop :=
 kif (decide ((IntKind.wrap .i64 (x_2 - x_1)) <= 12)) (zWy v_0 x_1 x_2 m fun m1 => kr  m1) (kif (x_3 == 0) (yT False) (kif (!x_8) (yT False) (yT False)))
def zRw (v_0 : AV) : Nat -> Int -> Int -> Int -> Bool -> Bool -> Mem -> (Mem -> Prop) -> Prop
 | 0, _, _, _, _, _,  _, _ => yT False
 | N + 1, x_1, x_2, x_3, x_8, x_9,  m, kr => zKe v_0 x_1 x_2 x_3 x_8 x_9 m (fun x_1' x_2' x_3' x_8' x_9' m' => zRw v_0 N x_1' x_2' x_3' x_8' x_9' m' kr) kr
def yPs (v_0 : AV) (x_1 : Int) (x_2 : Int) (x_3 : Int) (m : Mem) (k : Mem -> Prop) : Prop :=
 ∃ N3, zRw v_0 N3 x_1 x_2 x_3 true true m (fun m2 => k  m2)
def xIk := Gs [.a, .i .i64, .i .i64, .i .i64] [] yPs
def yAy : LpD := ⟨[0], [.a], [1, 2, 3, 8, 9], [.i .i64, .i .i64, .i .i64, .b, .b], [⟨.ret, [], [], []⟩], zKe, zRw⟩
def yD9 : LEnv := yB [(2, pY yAy)] [] [] []
theorem zZh : yI Tryz.prog yR2 yD9 (wP (zE Tryz.f234) 0) := xM yAy (fun _ _ _ => by kernel_rfl) (by kernel_rfl) (fun _ _ _ _ _ _ _ _ _ => by kernel_rfl) (fun _ _ _ _ _ _ _ _ _ _ => by kernel_rfl) (fun _ _ _ _ _ _ _ _ _ => by kernel_rfl)
def yGi : zZ := ext yR2 234 xIk
theorem xGe (w0 : World) : SP w0 yGi := sg (xE4 w0) Tryz.func234 Tryz.call234 (Λ := yD9) 1 ⟨zZh, trivial⟩ 0 trivial (by kernel_rfl) false (fun _ _ _ _ _ _ => by kernel_rfl)
def aI (x_0 : Int) (x_2 : Int) (m : Mem) (kr : Int -> Mem -> Prop) : Prop :=
 kif (decide (0 <= IntKind.wrap .u8 x_0) && decide (IntKind.wrap .u8 x_0 < yH2.size)) (kr (IntKind.wrap .i64 (x_2 + (IntKind.wrap .i64 ((yH2.data.getD (IntKind.wrap .u8 x_0).toNat 0).toNat)))) m) False
def cM (x_0 : Int) (x_2 : Int) (m : Mem) (kr : Int -> Mem -> Prop) : Prop :=
 kif (decide (x_0 >= 256)) (aI (x_0.fdiv 256) (IntKind.wrap .i64 (x_2 + 8)) m (fun x1 m2 => kr x1 m2)) (aI x_0 x_2 m (fun x3 m4 => kr x3 m4))
def yXg (x_0 : Int) (m : Mem) (k : Int -> Mem -> Prop) : Prop :=
 kif (decide (x_0 >= 65536)) (cM (x_0.fdiv 65536) 16 m (fun x5 m6 => (zA m m6 /\ k x5 m))) (cM x_0 0 m (fun x7 m8 => (zA m m8 /\ k x7 m)))
def xAo := Gs [.i .u32] [.i .i64] yXg
def zH7 : PcD := ⟨[0, 2], [.i .u32, .i .i64], [⟨.ret, [2], [.i .i64], []⟩], cM⟩
def zFu : PcD := ⟨[0, 2], [.i .u32, .i .i64], [⟨.ret, [2], [.i .i64], []⟩], aI⟩
def zDj : LEnv := yB [] [] [4103, 7102] [(4103, xK zH7), (7102, xK zFu)]
theorem zN7 : zF Tryz.prog yGi zDj (zY zDj (zE Tryz.f239) 1) := zN zFu (fun _ _ _ => by kernel_rfl) (by kernel_rfl) (fun _ _ _ _ => by kernel_rfl)
theorem zPn : zF Tryz.prog yGi zDj (zY zDj (zE Tryz.f239) 0) := zN zH7 (fun _ _ _ => by kernel_rfl) (by kernel_rfl) (fun _ _ _ _ => by kernel_rfl)
def yFt : zZ := ext yGi 239 xAo
theorem xKy (w0 : World) : SP w0 yFt := sg (xGe w0) Tryz.func239 Tryz.call239 (Λ := zDj) 0 trivial 2 ⟨zPn, zN7, trivial⟩ (by kernel_rfl) true (fun _ _ _ => by kernel_rfl)
def mT (x_0 : Int) (x_2 : Int) (m : Mem) (kr : Int -> Mem -> Prop) : Prop :=
 kif (decide (0 <= IntKind.wrap .u8 x_0) && decide (IntKind.wrap .u8 x_0 < yH2.size)) (kr (IntKind.wrap .i64 (x_2 + (IntKind.wrap .i64 ((yH2.data.getD (IntKind.wrap .u8 x_0).toNat 0).toNat)))) m) False
def jX (x_0 : Int) (x_2 : Int) (m : Mem) (kr : Int -> Mem -> Prop) : Prop :=
 kif (decide (x_0 >= 256)) (mT (x_0.fdiv 256) (IntKind.wrap .i64 (x_2 + 8)) m (fun x1 m2 => kr x1 m2)) (mT x_0 x_2 m (fun x3 m4 => kr x3 m4))
def hJ (x_0 : Int) (x_2 : Int) (m : Mem) (kr : Int -> Mem -> Prop) : Prop :=
 kif (decide (x_0 >= 65536)) (jX (x_0.fdiv 65536) (IntKind.wrap .i64 (x_2 + 16)) m (fun x5 m6 => kr x5 m6)) (jX x_0 x_2 m (fun x7 m8 => kr x7 m8))
def yOl (x_0 : Int) (m : Mem) (k : Int -> Mem -> Prop) : Prop :=
 kif (decide (x_0 >= 4294967296)) (hJ (x_0.fdiv 4294967296) 32 m (fun x9 m10 => (zA m m10 /\ k x9 m))) (hJ x_0 0 m (fun x11 m12 => (zA m m12 /\ k x11 m)))
def xC2 := Gs [.i .u64] [.i .i64] yOl
def zFn : PcD := ⟨[0, 2], [.i .u64, .i .i64], [⟨.ret, [2], [.i .i64], []⟩], hJ⟩
def zFl : PcD := ⟨[0, 2], [.i .u64, .i .i64], [⟨.ret, [2], [.i .i64], []⟩], jX⟩
def zEa : PcD := ⟨[0, 2], [.i .u64, .i .i64], [⟨.ret, [2], [.i .i64], []⟩], mT⟩
def eH : LEnv := yB [] [] [4103, 7103, 10102] [(4103, xK zFn), (7103, xK zFl), (10102, xK zEa)]
theorem zL0 : zF Tryz.prog yFt eH (zY eH (zE Tryz.f249) 2) := zN zEa (fun _ _ _ => by kernel_rfl) (by kernel_rfl) (fun _ _ _ _ => by kernel_rfl)
theorem zN9 : zF Tryz.prog yFt eH (zY eH (zE Tryz.f249) 1) := zN zFl (fun _ _ _ => by kernel_rfl) (by kernel_rfl) (fun _ _ _ _ => by kernel_rfl)
theorem zPq : zF Tryz.prog yFt eH (zY eH (zE Tryz.f249) 0) := zN zFn (fun _ _ _ => by kernel_rfl) (by kernel_rfl) (fun _ _ _ _ => by kernel_rfl)
def yT0 : zZ := ext yFt 249 xC2
theorem xEm (w0 : World) : SP w0 yT0 := sg (xKy w0) Tryz.func249 Tryz.call249 (Λ := eH) 0 trivial 3 ⟨zPq, zN9, zL0, trivial⟩ (by kernel_rfl) true (fun _ _ _ => by kernel_rfl)
def yHg (x_0 : Int) (m : Mem) (k : Int -> Mem -> Prop) : Prop :=
 yOl x_0 m fun x1 m2 => (zA m m2 /\ k x1 m)
def xF5 := Gs [.i .u64] [.i .i64] yHg
def yZ9 : zZ := ext yT0 235 xF5
theorem xDg (w0 : World) : SP w0 yZ9 := xU (xEm w0) Tryz.func235 Tryz.call235 (by kernel_rfl) true (fun _ _ _ => by kernel_rfl)
def yIw (v_0 : AV) (m : Mem) (k : Mem -> Prop) : Prop :=
 xJ v_0 fun x1 => yHg (IntKind.wrap .u64 x1) m fun x2 m3 => yPs v_0 0 x1 x2 m3 fun m4 => k  m4
def xJe := Gs [.a] [] yIw
def yH3 : zZ := ext yZ9 221 xJe
theorem xEc (w0 : World) : SP w0 yH3 := xU (xDg w0) Tryz.func221 Tryz.call221 (by kernel_rfl) false (fun _ _ _ => by kernel_rfl)
def zLc (v_0 : AV) (v_4 : AV) (x_3 : Int) (x_5 : Int) (m : Mem) (kn : Int -> Int -> Mem -> Prop) (k2 : Int -> Mem -> Prop) : Prop :=
 xJ v_4 fun x14 => kif (decide (x_5 < x14)) (vD v_4 fun b15 o16 l17 p18 => kif (decide (0 <= x_5) && decide (x_5 < l17)) (zR .i64 m b15 (o16 + (x_5).toNat * 1) fun x19 => vD v_4 fun b20 o21 l22 p23 => kif (decide (0 <= IntKind.wrap .i64 (x_5 - 1)) && decide (IntKind.wrap .i64 (x_5 - 1) < l22)) (zR .i64 m b20 (o21 + (IntKind.wrap .i64 (x_5 - 1)).toNat * 1) fun x24 => kif (x19 != x24) (vD v_4 fun b25 o26 l27 p28 => kif (decide (0 <= x_5) && decide (x_5 < l27)) (zR .i64 m b25 (o26 + (x_5).toNat * 1) fun x29 => vD v_0 fun b30 o31 l32 p33 => kif (decide (0 <= x_3) && decide (x_3 < l32)) (wF m b30 (o31 + (x_3).toNat * 1) (.flat (.int .i64 x29)) fun m34 => kn (IntKind.wrap .i64 (x_3 + 1)) (IntKind.wrap .i64 (x_5 + 1)) m34) False) False) (kn x_3 (IntKind.wrap .i64 (x_5 + 1)) m)) False) False) (k2 x_3 m)
def zTa (v_0 : AV) (v_4 : AV) : Nat -> Int -> Int -> Mem -> (Int -> Mem -> Prop) -> Prop
 | 0, _, _,  _, _ => yT False
 | N + 1, x_3, x_5,  m, k2 => zLc v_0 v_4 x_3 x_5 m (fun x_3' x_5' m' => zTa v_0 v_4 N x_3' x_5' m' k2) k2
def bE (v_0 : AV) (x_3 : Int) (m : Mem) (kn : Int -> Mem -> Prop) (k0 : Mem -> Prop) (kr : AV -> Mem -> Prop) : Prop :=
 xJ v_0 fun x2 => kif (decide (x_3 < x2)) (vD v_0 fun b3 o4 l5 p6 => kif (decide (0 <= x_3) && decide (x_3 < l5)) (zR .i64 m b3 (o4 + (x_3).toNat * 1) fun x7 => vD v_0 fun b8 o9 l10 p11 => kif (decide (0 <= IntKind.wrap .i64 (x_3 - 1)) && decide (IntKind.wrap .i64 (x_3 - 1) < l10)) (zR .i64 m b8 (o9 + (IntKind.wrap .i64 (x_3 - 1)).toNat * 1) fun x12 => kif (x7 == x12) (qH 1 v_0 (some x_3) none fun v13 => ∃ N37, zTa v_0 v13 N37 x_3 1 m (fun x35 m36 => qH 1 v_0 (some x35) none fun v38 => oK [(.flat (.int .i64 0))] v38 m36 fun m39 => qH 1 v_0 none (some x35) fun v40 => kr v40 m39)) (kn (IntKind.wrap .i64 (x_3 + 1)) m)) False) False) (k0  m)
def zQz (v_0 : AV) : Nat -> Int -> Mem -> (Mem -> Prop) -> (AV -> Mem -> Prop) -> Prop
 | 0, _,  _, _, _ => yT False
 | N + 1, x_3,  m, k0, kr => bE v_0 x_3 m (fun x_3' m' => zQz v_0 N x_3' m' k0 kr) k0 kr
def yC8 (v_0 : AV) (m : Mem) (k : AV -> Mem -> Prop) : Prop :=
 xJ v_0 fun x1 => kif (decide (x1 < 2)) (k v_0 m) (∃ N44, zQz v_0 N44 1 m (fun m41 => k v_0 m41) (fun v42 m43 => k v42 m43))
def xDh := Gs [.a] [.a] yC8
def yD8 : LpD := ⟨[0], [.a], [3], [.i .i64], [⟨.exit 0, [], [], [0]⟩, ⟨.ret, [2], [.a], []⟩], bE, zQz⟩
def yD2 : LpD := ⟨[0, 4], [.a, .a], [3, 5], [.i .i64, .i .i64], [⟨.exit 2, [3], [.i .i64], [0]⟩], zLc, zTa⟩
def zT5 : LEnv := yB [(4, pY yD8), (9, pY yD2)] [] [] []
theorem yAb : yI Tryz.prog yH3 zT5 (wP (zE Tryz.f222) 1) := xM yD2 (fun _ _ _ => by kernel_rfl) (by kernel_rfl) (fun _ _ _ _ _ _ _ => by kernel_rfl) (fun _ _ _ _ _ _ _ _ => by kernel_rfl) (fun _ _ _ _ _ _ _ => by kernel_rfl)
theorem zZo : yI Tryz.prog yH3 zT5 (wP (zE Tryz.f222) 0) := xM yD8 (fun _ _ _ => by kernel_rfl) (by kernel_rfl) (fun _ _ _ _ _ => by kernel_rfl) (fun _ _ _ _ _ _ => by kernel_rfl) (fun _ _ _ _ _ => by kernel_rfl)
def zXf : zZ := ext yH3 222 xDh
theorem xFz (w0 : World) : SP w0 zXf := sg (xEc w0) Tryz.func222 Tryz.call222 (Λ := zT5) 2 ⟨zZo, yAb, trivial⟩ 0 trivial (by kernel_rfl) false (fun _ _ _ => by kernel_rfl)
def tY (v_3 : AV) (m : Mem) (kr : AV -> Mem -> Prop) : Prop :=
 yIw v_3 m fun m35 => yC8 v_3 m35 fun v36 m37 => kr v36 m37
def iY (b_1 o_1 : Nat) (x_38 : Bool) (m : Mem) (kn : AV -> Mem -> Prop) : Prop :=
 kif x_38 (zR .i64 m b_1 (o_1 + 2) fun x10 => zR .i64 m b_1 (o_1 + 3) fun x11 => zR .i64 m b_1 (o_1 + 1) fun x12 => zQ m ⟨3, upd (upd (upd (zH [(.flat (.int .i64 0)), (.flat (.int .i64 0)), (.flat (.int .i64 0))]) 0 (.flat (.int .i64 x10))) 1 (.flat (.int .i64 x11))) 2 (.flat (.int .i64 x12)), 3, false⟩ fun b14 m13 => kn (.sl b14 0 3 (.ex 3)) m13) (zR .i64 m b_1 (o_1 + 2) fun x15 => zR .i64 m b_1 (o_1 + 3) fun x16 => zQ m ⟨2, upd (upd (zH [(.flat (.int .i64 0)), (.flat (.int .i64 0))]) 0 (.flat (.int .i64 x15))) 1 (.flat (.int .i64 x16)), 3, false⟩ fun b18 m17 => kn (.sl b18 0 2 (.ex 2)) m17)
def qV (b_1 o_1 : Nat) (x_4 : Int) (x_24 : Bool) (m : Mem) (kn : AV -> Mem -> Prop) : Prop :=
 kif x_24 (zR .i64 m b_1 (o_1 + 2) fun x7 => zQ m ⟨1, upd (zH [(.flat (.int .i64 0))]) 0 (.flat (.int .i64 x7)), 3, false⟩ fun b9 m8 => kn (.sl b9 0 1 (.ex 1)) m8) (kif (x_4 == 21) (iY b_1 o_1 true m (fun v19 m20 => kn v19 m20)) (iY b_1 o_1 (x_4 == 22) m (fun v21 m22 => kn v21 m22)))
def mC (b_1 o_1 : Nat) (v_3 : AV) (x_4 : Int) (x_12 : Bool) (m : Mem) (kn : AV -> Mem -> Prop) : Prop :=
 kif x_12 (kn v_3 m) (kif (x_4 == 2) (qV b_1 o_1 x_4 true m (fun v23 m24 => kn v23 m24)) (kif (x_4 == 15) (qV b_1 o_1 x_4 true m (fun v25 m26 => kn v25 m26)) (qV b_1 o_1 x_4 (x_4 == 16) m (fun v27 m28 => kn v27 m28))))
def zY5 (c_0 : Nat -> AV) (m : Mem) (k : AV -> Mem -> Prop) : Prop :=
 zQ m ⟨5, c_0, 224, false⟩ fun b2 m1 => zR .i64 m1 b2 0 fun x3 => yN 5 m1 b2 0 fun c4 => zS2 c4 m1 fun x5 m6 => kif (!x5) (mC b2 0 (.flat (.slice none 0 0)) x3 true m6 (fun v29 m30 => tY v29 m30 (fun v38 m39 => k v38 m39))) (kif (x3 == 0) (mC b2 0 (.flat (.slice none 0 0)) x3 true m6 (fun v31 m32 => tY v31 m32 (fun v40 m41 => k v40 m41))) (mC b2 0 (.flat (.slice none 0 0)) x3 (x3 == 1) m6 (fun v33 m34 => tY v33 m34 (fun v42 m43 => k v42 m43))))
def xGh := Gs [.g 5] [.a] zY5
def zIz : PcD := ⟨[1, 3, 4, 12], [.p, .a, .i .i64, .b], [⟨.normal, [3], [.a], []⟩], mC⟩
def zH6 : PcD := ⟨[1, 4, 24], [.p, .i .i64, .b], [⟨.normal, [3], [.a], []⟩], qV⟩
def zIo : PcD := ⟨[1, 38], [.p, .b], [⟨.normal, [3], [.a], []⟩], iY⟩
def zG9 : PcD := ⟨[3], [.a], [⟨.ret, [2], [.a], []⟩], tY⟩
def mN : LEnv := yB [] [] [5004, 6004, 8004, 9102] [(5004, xK zIz), (6004, xK zH6), (8004, xK zIo), (9102, xK zG9)]
theorem zQd : zF Tryz.prog zXf mN (zY mN (zE Tryz.f202) 0) := zN zG9 (fun _ _ _ => by kernel_rfl) (by kernel_rfl) (fun _ _ _ => by kernel_rfl)
theorem zP2 : zF Tryz.prog zXf mN (zY mN (zE Tryz.f202) 3) := zN zIo (fun _ _ _ => by kernel_rfl) (by kernel_rfl) (fun _ _ _ _ _ => by kernel_rfl)
theorem zPw : zF Tryz.prog zXf mN (zY mN (zE Tryz.f202) 2) := zN zH6 (fun _ _ _ => by kernel_rfl) (by kernel_rfl) (fun _ _ _ _ _ _ => by kernel_rfl)
theorem zQo : zF Tryz.prog zXf mN (zY mN (zE Tryz.f202) 1) := zN zIz (fun _ _ _ => by kernel_rfl) (by kernel_rfl) (fun _ _ _ _ _ _ _ => by kernel_rfl)
def yOn : zZ := ext zXf 202 xGh
theorem xKb (w0 : World) : SP w0 yOn := sg (xFz w0) Tryz.func202 Tryz.call202 (Λ := mN) 0 trivial 4 ⟨zQd, zQo, zPw, zP2, trivial⟩ (by kernel_rfl) false (fun _ _ _ => by kernel_rfl)
def aJ (v_0 : AV) (x_2 : Int) (x_3 : Int) (m : Mem) (kn : Int -> Int -> Mem -> Prop) (k0 : Mem -> Prop) : Prop :=
 kif (decide (x_2 < x_3)) (vD v_0 fun b2 o3 l4 p5 => kif (decide (0 <= x_3) && decide (x_3 < l4)) (yN 5 m b2 (o3 + (x_3).toNat * 5) fun c6 => vD v_0 fun b7 o8 l9 p10 => kif (decide (0 <= x_2) && decide (x_2 < l9)) (yN 5 m b7 (o8 + (x_2).toNat * 5) fun c11 => vD v_0 fun b12 o13 l14 p15 => kif (decide (0 <= x_2) && decide (x_2 < l14)) (vA 5 m b12 (o13 + (x_2).toNat * 5) c6 fun m16 => vD v_0 fun b17 o18 l19 p20 => kif (decide (0 <= x_3) && decide (x_3 < l19)) (vA 5 m16 b17 (o18 + (x_3).toNat * 5) c11 fun m21 => kn (IntKind.wrap .i64 (x_2 + 1)) (IntKind.wrap .i64 (x_3 - 1)) m21) False) False) False) False) (k0  m)
def zJm (v_0 : AV) : Nat -> Int -> Int -> Mem -> (Mem -> Prop) -> Prop
 | 0, _, _,  _, _ => yT False
 | N + 1, x_2, x_3,  m, k0 => aJ v_0 x_2 x_3 m (fun x_2' x_3' m' => zJm v_0 N x_2' x_3' m' k0) k0
def yJ8 (v_0 : AV) (m : Mem) (k : Mem -> Prop) : Prop :=
 xJ v_0 fun x1 => ∃ N23, zJm v_0 N23 0 (IntKind.wrap .i64 (x1 - 1)) m (fun m22 => k  m22)
def xH6 := Gs [.a] [] yJ8
def yFv : LpD := ⟨[0], [.a], [2, 3], [.i .i64, .i .i64], [⟨.exit 0, [], [], []⟩], aJ, zJm⟩
def yB7 : LEnv := yB [(1, pY yFv)] [] [] []
theorem yD0 : yI Tryz.prog yOn yB7 (wP (zE Tryz.f203) 0) := xM yFv (fun _ _ _ => by kernel_rfl) (by kernel_rfl) (fun _ _ _ _ _ _ => by kernel_rfl) (fun _ _ _ _ _ _ _ => by kernel_rfl) (fun _ _ _ _ _ _ => by kernel_rfl)
def zYu : zZ := ext yOn 203 xH6
theorem xJm (w0 : World) : SP w0 zYu := sg (xKb w0) Tryz.func203 Tryz.call203 (Λ := yB7) 1 ⟨yD0, trivial⟩ 0 trivial (by kernel_rfl) false (fun _ _ _ => by kernel_rfl)
def iL (v_0 : AV) (b_3 o_3 : Nat) (v_5 : AV) (x_6 : Int) (b_7 o_7 : Nat) (v_57 : AV) (x_58 : Int) (x_59 : Int) (m : Mem) (kn : Int -> Mem -> Prop) (k6 : Mem -> Prop) : Prop :=
 kif (decide (x_59 < x_58)) (vD v_57 fun b40 o41 l42 p43 => kif (decide (0 <= x_59) && decide (x_59 < l42)) (zR .i64 m b40 (o41 + (x_59).toNat * 1) fun x44 => kif (decide (0 <= x44) && decide (x44 < 40)) (wF m b_3 (o_3 + (x44).toNat * 1) (.flat (.bool true)) fun m45 => kn (IntKind.wrap .i64 (x_59 + 1)) m45) False) False) (k6  m)
def zBb (v_0 : AV) (b_3 o_3 : Nat) (v_5 : AV) (x_6 : Int) (b_7 o_7 : Nat) (v_57 : AV) (x_58 : Int) : Nat -> Int -> Mem -> (Mem -> Prop) -> Prop
 | 0, _,  _, _ => yT False
 | N + 1, x_59,  m, k6 => iL v_0 b_3 o_3 v_5 x_6 b_7 o_7 v_57 x_58 x_59 m (fun x_59' m' => zBb v_0 b_3 o_3 v_5 x_6 b_7 o_7 v_57 x_58 N x_59' m' k6) k6
def iX (v_0 : AV) (b_3 o_3 : Nat) (v_5 : AV) (x_6 : Int) (b_7 o_7 : Nat) (v_39 : AV) (x_40 : Int) (x_41 : Int) (m : Mem) (kn : Int -> Mem -> Prop) (k4 : Mem -> Prop) : Prop :=
 kif (decide (x_41 < x_40)) (vD v_39 fun b23 o24 l25 p26 => kif (decide (0 <= x_41) && decide (x_41 < l25)) (zR .i64 m b23 (o24 + (x_41).toNat * 1) fun x27 => kif (decide (0 <= x27) && decide (x27 < 40)) (ldB m b_3 (o_3 + (x27).toNat * 1) fun x28 => kif x28 (yN 5 m b_7 o_7 fun c29 => zX8 c29 m fun x30 m31 => kif (decide (0 <= x27) && decide (x27 < 40)) (wF m31 b_3 (o_3 + (x27).toNat * 1) (.flat (.bool (!x30))) fun m32 => kn (IntKind.wrap .i64 (x_41 + 1)) m32) False) (kif (decide (0 <= x27) && decide (x27 < 40)) (wF m b_3 (o_3 + (x27).toNat * 1) (.flat (.bool false)) fun m33 => kn (IntKind.wrap .i64 (x_41 + 1)) m33) False)) False) False) (k4  m)
def eX (v_0 : AV) (b_3 o_3 : Nat) (v_5 : AV) (x_6 : Int) (b_7 o_7 : Nat) (v_39 : AV) (x_40 : Int) : Nat -> Int -> Mem -> (Mem -> Prop) -> Prop
 | 0, _,  _, _ => yT False
 | N + 1, x_41,  m, k4 => iX v_0 b_3 o_3 v_5 x_6 b_7 o_7 v_39 x_40 x_41 m (fun x_41' m' => eX v_0 b_3 o_3 v_5 x_6 b_7 o_7 v_39 x_40 N x_41' m' k4) k4
def iS (v_0 : AV) (b_3 o_3 : Nat) (v_5 : AV) (x_6 : Int) (m : Mem) (kn : AV -> Int -> Mem -> Prop) (k2 : AV -> Mem -> Prop) : Prop :=
 kif (decide (x_6 >= 0)) (vD v_0 fun b9 o10 l11 p12 => kif (decide (0 <= x_6) && decide (x_6 < l11)) (yN 5 m b9 (o10 + (x_6).toNat * 5) fun c13 => zQ m ⟨5, zH [(.flat (.int .i64 0)), (.flat (.int .i64 0)), (.flat (.int .i64 0)), (.flat (.int .i64 0)), (.flat (.int .u32 0))], 224, false⟩ fun b15 m14 => vA 5 m14 b15 0 c13 fun m16 => yN 5 m16 b15 0 fun c17 => zXp c17 m16 fun v18 m19 => yKw v18 (.clo 200 [(.ptr b_3 o_3)]) m19 fun x20 m21 => kif (!x20) (kn v_5 (IntKind.wrap .i64 (x_6 - 1)) m21) (xJ v18 fun x22 => ∃ N35, eX v_0 b_3 o_3 v_5 x_6 b15 0 v18 x22 N35 0 m21 (fun m34 => yN 5 m34 b15 0 fun c36 => zY5 c36 m34 fun v37 m38 => xJ v37 fun x39 => ∃ N47, zBb v_0 b_3 o_3 v_5 x_6 b15 0 v37 x39 N47 0 m38 (fun m46 => yN 5 m46 b15 0 fun c48 => zQ m46 ⟨5, zC (zH [(.flat (.int .i64 0)), (.flat (.int .i64 0)), (.flat (.int .i64 0)), (.flat (.int .i64 0)), (.flat (.int .u32 0))]) 0 5 c48, 224, false⟩ fun b50 m49 => uB 5 40 224 v_5 (.sl b50 0 1 (.ex 1)) m49 fun v51 m52 => kn v51 (IntKind.wrap .i64 (x_6 - 1)) m52)))) False) (k2 v_5 m)
def zB5 (v_0 : AV) (b_3 o_3 : Nat) : Nat -> AV -> Int -> Mem -> (AV -> Mem -> Prop) -> Prop
 | 0, _, _,  _, _ => yT False
 | N + 1, v_5, x_6,  m, k2 => iS v_0 b_3 o_3 v_5 x_6 m (fun v_5' x_6' m' => zB5 v_0 b_3 o_3 N v_5' x_6' m' k2) k2
def aE (v_0 : AV) (b_3 o_3 : Nat) (x_16 : Int) (m : Mem) (kn : Int -> Mem -> Prop) (k0 : Mem -> Prop) : Prop :=
 kif (decide (x_16 < 34)) (kif (decide (0 <= x_16) && decide (x_16 < 40)) (wF m b_3 (o_3 + (x_16).toNat * 1) (.flat (.bool true)) fun m5 => kn (IntKind.wrap .i64 (x_16 + 1)) m5) False) (k0  m)
def zKg (v_0 : AV) (b_3 o_3 : Nat) : Nat -> Int -> Mem -> (Mem -> Prop) -> Prop
 | 0, _,  _, _ => yT False
 | N + 1, x_16,  m, k0 => aE v_0 b_3 o_3 x_16 m (fun x_16' m' => zKg v_0 b_3 o_3 N x_16' m' k0) k0
def yKp (v_0 : AV) (m : Mem) (k : AV -> Mem -> Prop) : Prop :=
 yDm v_0 m fun x1 m2 => kif (!x1) (k (.flat (.slice none 0 0)) m2) (zQ m2 ⟨40, Z40, 241, false⟩ fun b4 m3 => ∃ N7, zKg v_0 b4 0 N7 0 m3 (fun m6 => xJ v_0 fun x8 => ∃ N55, zB5 v_0 b4 0 N55 (.flat (.slice none 0 0)) (IntKind.wrap .i64 (x8 - 1)) m6 (fun v53 m54 => yJ8 v53 m54 fun m56 => k v53 m56)))
def xCe := Gs [.a] [.a] yKp
def yDb : LpD := ⟨[0, 3], [.a, .p], [16], [.i .i64], [⟨.exit 0, [], [], [0, 3]⟩], aE, zKg⟩
def zW7 : LpD := ⟨[0, 3], [.a, .p], [5, 6], [.a, .i .i64], [⟨.exit 2, [5], [.a], []⟩], iS, zB5⟩
def zW8 : LpD := ⟨[0, 3, 5, 6, 7, 39, 40], [.a, .p, .a, .i .i64, .p, .a, .i .i64], [41], [.i .i64], [⟨.exit 4, [], [], [0, 3, 5, 6, 7]⟩], iX, eX⟩
def zUx : LpD := ⟨[0, 3, 5, 6, 7, 57, 58], [.a, .p, .a, .i .i64, .p, .a, .i .i64], [59], [.i .i64], [⟨.exit 6, [], [], [0, 3, 5, 6, 7]⟩], iL, zBb⟩
def zDr : LEnv := yB [(5, pY yDb), (11, pY zW7), (17, pY zW8), (22, pY zUx)] [] [] []
theorem zY3 : yI Tryz.prog zYu zDr (wP (zE Tryz.f162) 3) := xM zUx (fun _ _ _ => by kernel_rfl) (by kernel_rfl) (fun _ _ _ _ _ _ _ _ _ _ _ _ _ => by kernel_rfl) (fun _ _ _ _ _ _ _ _ _ _ _ _ _ _ => by kernel_rfl) (fun _ _ _ _ _ _ _ _ _ _ _ _ _ => by kernel_rfl)
theorem zY9 : yI Tryz.prog zYu zDr (wP (zE Tryz.f162) 2) := xM zW8 (fun _ _ _ => by kernel_rfl) (by kernel_rfl) (fun _ _ _ _ _ _ _ _ _ _ _ _ _ => by kernel_rfl) (fun _ _ _ _ _ _ _ _ _ _ _ _ _ _ => by kernel_rfl) (fun _ _ _ _ _ _ _ _ _ _ _ _ _ => by kernel_rfl)
theorem zZ8 : yI Tryz.prog zYu zDr (wP (zE Tryz.f162) 1) := xM zW7 (fun _ _ _ => by kernel_rfl) (by kernel_rfl) (fun _ _ _ _ _ _ _ _ => by kernel_rfl) (fun _ _ _ _ _ _ _ _ _ => by kernel_rfl) (fun _ _ _ _ _ _ _ _ => by kernel_rfl)
theorem zZn : yI Tryz.prog zYu zDr (wP (zE Tryz.f162) 0) := xM yDb (fun _ _ _ => by kernel_rfl) (by kernel_rfl) (fun _ _ _ _ _ _ _ => by kernel_rfl) (fun _ _ _ _ _ _ _ _ => by kernel_rfl) (fun _ _ _ _ _ _ _ => by kernel_rfl)
def yAm : zZ := ext zYu 162 xCe
theorem xL3 (w0 : World) : SP w0 yAm := sg (xJm w0) Tryz.func162 Tryz.call162 (Λ := zDr) 4 ⟨zZn, zZ8, zY9, zY3, trivial⟩ 0 trivial (by kernel_rfl) false (fun _ _ _ => by kernel_rfl)
def aV (v_0 : AV) (v_1 : AV) (x_7 : Int) (x_8 : Int) (m : Mem) (kn : Int -> Mem -> Prop) (k0 : Mem -> Prop) (kr : Int -> Mem -> Prop) : Prop :=
 kif (decide (x_8 < x_7)) (vD v_0 fun b2 o3 l4 p5 => kif (decide (0 <= x_8) && decide (x_8 < l4)) (yN 5 m b2 (o3 + (x_8).toNat * 5) fun c6 => mB v_1 fun f7 l10 => yAm f7 ([(.agg 5 c6)] ++ l10) m fun v8 m9 => tP v8 fun x11 => kif x11 (kr x_8 m9) (kn (IntKind.wrap .i64 (x_8 + 1)) m9)) False) (k0  m)
def zJ2 (v_0 : AV) (v_1 : AV) (x_7 : Int) : Nat -> Int -> Mem -> (Mem -> Prop) -> (Int -> Mem -> Prop) -> Prop
 | 0, _,  _, _, _ => yT False
 | N + 1, x_8,  m, k0, kr => aV v_0 v_1 x_7 x_8 m (fun x_8' m' => zJ2 v_0 v_1 x_7 N x_8' m' k0 kr) k0 kr
def yN8 (v_0 : AV) (v_1 : AV) (m : Mem) (k : Int -> Mem -> Prop) : Prop :=
 xJ v_0 fun x1 => ∃ N15, zJ2 v_0 v_1 x1 N15 0 m (fun m12 => k (-1) m12) (fun x13 m14 => k x13 m14)
def xDl := Gs [.a, .a] [.i .i64] yN8
def yF8 : LpD := ⟨[0, 1, 7], [.a, .a, .i .i64], [8], [.i .i64], [⟨.exit 0, [], [], []⟩, ⟨.ret, [4], [.i .i64], []⟩], aV, zJ2⟩
def yA7 : LEnv := yB [(2, pY yF8)] [] [] []
theorem yFo : yI Tryz.prog yAm yA7 (wP (zE Tryz.f206) 0) := xM yF8 (fun _ _ _ => by kernel_rfl) (by kernel_rfl) (fun _ _ _ _ _ _ _ => by kernel_rfl) (fun _ _ _ _ _ _ _ _ => by kernel_rfl) (fun _ _ _ _ _ _ _ => by kernel_rfl)
def yTr : zZ := ext yAm 206 xDl
theorem xAl (w0 : World) : SP w0 yTr := sg (xL3 w0) Tryz.func206 Tryz.call206 (Λ := yA7) 1 ⟨yFo, trivial⟩ 0 trivial (by kernel_rfl) false (fun _ _ _ _ => by kernel_rfl)
def yL2 (v_0 : AV) (v_1 : AV) (m : Mem) (k : Bool -> Mem -> Prop) : Prop :=
 yN8 v_0 v_1 m fun x1 m2 => k (decide (x1 >= 0)) m2
def xI5 := Gs [.a, .a] [.b] yL2
def yPm : zZ := ext yTr 167 xI5
theorem xIc (w0 : World) : SP w0 yPm := xU (xAl w0) Tryz.func167 Tryz.call167 (by kernel_rfl) false (fun _ _ _ _ => by kernel_rfl)
def bK (x_8 : Int) (m : Mem) (kr : Int -> Int -> Mem -> Prop) : Prop :=
 kr (IntKind.wrap .u32 (x_8.fdiv 4294967296)) (IntKind.wrap .u32 x_8) m
def yH9 (x_0 : Int) (x_1 : Int) (x_2 : Bool) (m : Mem) (k : Int -> Int -> Mem -> Prop) : Prop :=
 kif x_2 (bK (IntKind.wrap .u64 (IntKind.wrap .i64 ((IntKind.wrap .i64 (IntKind.wrap .i32 x_0)) * (IntKind.wrap .i64 (IntKind.wrap .i32 x_1))))) m (fun x1 x2 m3 => (zA m m3 /\ k x1 x2 m))) (bK (IntKind.wrap .u64 ((IntKind.wrap .u64 x_0) * (IntKind.wrap .u64 x_1))) m (fun x4 x5 m6 => (zA m m6 /\ k x4 x5 m)))
def xG0 := Gs [.i .u32, .i .u32, .b] [.i .u32, .i .u32] yH9
def zGb : PcD := ⟨[8], [.i .u64], [⟨.ret, [6, 7], [.i .u32, .i .u32], []⟩], bK⟩
def zRq : LEnv := yB [] [] [4102] [(4102, xK zGb)]
theorem zMv : zF Tryz.prog yPm zRq (zY zRq (zE Tryz.f194) 0) := zN zGb (fun _ _ _ => by kernel_rfl) (by kernel_rfl) (fun _ _ _ => by kernel_rfl)
def yWa : zZ := ext yPm 194 xG0
theorem xGn (w0 : World) : SP w0 yWa := sg (xIc w0) Tryz.func194 Tryz.call194 (Λ := zRq) 0 trivial 1 ⟨zMv, trivial⟩ (by kernel_rfl) true (fun _ _ _ _ _ => by kernel_rfl)
def yEk (x_0 : Int) (x_1 : Int) (x_2 : Bool) (m : Mem) (k : Int -> Int -> Mem -> Prop) : Prop :=
 kif (x_1 == 0) ((zA m m /\ k 4294967295 x_0 m)) (kif (!x_2) (kif (decide (x_1 = 0)) False (kif (decide (x_1 = 0)) False ((zA m m /\ k (IntKind.wrap .u32 (x_0.tdiv x_1)) (x_0.tmod x_1) m)))) (kif (decide (IntKind.wrap .i64 (IntKind.wrap .i32 x_1) = 0)) False (kif (decide (IntKind.wrap .i64 (IntKind.wrap .i32 x_1) = 0)) False ((zA m m /\ k (IntKind.wrap .u32 (IntKind.wrap .i64 ((IntKind.wrap .i64 (IntKind.wrap .i32 x_0)).tdiv (IntKind.wrap .i64 (IntKind.wrap .i32 x_1))))) (IntKind.wrap .u32 ((IntKind.wrap .i64 (IntKind.wrap .i32 x_0)).tmod (IntKind.wrap .i64 (IntKind.wrap .i32 x_1)))) m)))))
def xE5 := Gs [.i .u32, .i .u32, .b] [.i .u32, .i .u32] yEk
def yZ8 : zZ := ext yWa 195 xE5
theorem xJ1 (w0 : World) : SP w0 yZ8 := xU (xGn w0) Tryz.func195 Tryz.call195 (by kernel_rfl) true (fun _ _ _ _ _ => by kernel_rfl)
def zFa (x_0 : Int) (x_1 : Int) (x_2 : Bool) (m : Mem) (k : Bool -> Mem -> Prop) : Prop :=
 kif x_2 ((zA m m /\ k (decide ((IntKind.wrap .i32 x_0) < (IntKind.wrap .i32 x_1))) m)) ((zA m m /\ k (decide (x_0 < x_1)) m))
def xBa := Gs [.i .u32, .i .u32, .b] [.b] zFa
def yYt : zZ := ext yZ8 186 xBa
theorem xF7 (w0 : World) : SP w0 yYt := xU (xJ1 w0) Tryz.func186 Tryz.call186 (by kernel_rfl) true (fun _ _ _ _ _ => by kernel_rfl)
def zXl (x_0 : Int) (x_1 : Int) (m : Mem) (k : Int -> Mem -> Prop) : Prop :=
 kif (decide (bits .and .i64 x_1 31 < 0)) False ((zA m m /\ k (IntKind.wrap .u32 ((IntKind.wrap .i32 x_0).fdiv (2 ^ min (bits .and .i64 x_1 31).toNat 32))) m))
def xE9 := Gs [.i .u32, .i .i64] [.i .u32] zXl
def yV8 : zZ := ext yYt 187 xE9
theorem xAw (w0 : World) : SP w0 yV8 := xU (xF7 w0) Tryz.func187 Tryz.call187 (by kernel_rfl) true (fun _ _ _ _ => by kernel_rfl)
def yP3 (x_0 : Int) (m : Mem) (k : Int -> Mem -> Prop) : Prop :=
 yXg x_0 m fun x1 m2 => (zA m m2 /\ k (IntKind.wrap .i64 (32 - x1)) m)
def xGr := Gs [.i .u32] [.i .i64] yP3
def yXx : zZ := ext yV8 233 xGr
theorem xBl (w0 : World) : SP w0 yXx := xU (xAw w0) Tryz.func233 Tryz.call233 (by kernel_rfl) true (fun _ _ _ => by kernel_rfl)
def yO0 (x_0 : Int) (m : Mem) (k : Int -> Mem -> Prop) : Prop :=
 yP3 x_0 m fun x1 m2 => (zA m m2 /\ k x1 m)
def xBu := Gs [.i .u32] [.i .i64] yO0
def yUe : zZ := ext yXx 218 xBu
theorem xF8 (w0 : World) : SP w0 yUe := xU (xBl w0) Tryz.func218 Tryz.call218 (by kernel_rfl) true (fun _ _ _ => by kernel_rfl)
def yOy (x_0 : Int) (m : Mem) (k : Int -> Mem -> Prop) : Prop :=
 yP3 (bits .xor .u32 4294967295 x_0) m fun x1 m2 => (zA m m2 /\ k x1 m)
def xC8 := Gs [.i .u32] [.i .i64] yOy
def yX8 : zZ := ext yUe 219 xC8
theorem xKr (w0 : World) : SP w0 yX8 := xU (xF8 w0) Tryz.func219 Tryz.call219 (by kernel_rfl) true (fun _ _ _ => by kernel_rfl)
def yN7 (x_0 : Bool) (m : Mem) (k : Int -> Mem -> Prop) : Prop :=
 kif x_0 ((zA m m /\ k 1 m)) ((zA m m /\ k 0 m))
def xFb := Gs [.b] [.i .u32] yN7
end Go.Proofs.YtkiggdgphbkneaaGreat.Am
