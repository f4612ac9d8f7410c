/- What Go functions ask of what follows them, as plain functions over the abstract machine; the machine asks just that. Written by gen.py. What Go functions ask of what follows them, as plain functions over the abstract machine; the machine asks just that. Written by gen.py. What Go functions ask of what follows them, as plain functions over the abstract machine; the machine asks just that. Written by gen.py. -/
import Derived.Test.YtkiggdgphbkneaaGreatTopPagesX15
namespace Go.Proofs.YtkiggdgphbkneaaGreat.Am
set_option linter.unusedVariables false
set_option linter.unusedSimpArgs false
set_option linter.constructorNameAsVariable false
set_option maxRecDepth 100000
def E239 : Env := ext E234 234 G234
theorem S239 (w0 : World) : SP w0 E239 := sg (S234 w0) Tryz.func234 Tryz.call234 (Λ := Lam234) 1 ⟨lok234_2, trivial⟩ 0 trivial (by kernel_rfl) false (fun _ _ _ _ _ _ => by kernel_rfl)
def P239_7102 (x_0 : Int) (x_2 : Int) (m : Mem) (kr : Int → Mem → Prop) : Prop :=
 kif (decide (0 ≤ IntKind.wrap .u8 x_0) && decide (IntKind.wrap .u8 x_0 < Yb11.size)) (kr (IntKind.wrap .i64 (x_2 + (IntKind.wrap .i64 ((Yb11.data.getD (IntKind.wrap .u8 x_0).toNat 0).toNat)))) m) False
def P239_4103 (x_0 : Int) (x_2 : Int) (m : Mem) (kr : Int → Mem → Prop) : Prop :=
 kif (decide (x_0 ≥ 256)) (P239_7102 (x_0.fdiv 256) (IntKind.wrap .i64 (x_2 + 8)) m (fun x1 m2 => kr x1 m2)) (P239_7102 x_0 x_2 m (fun x3 m4 => kr x3 m4))
def F239 (x_0 : Int) (m : Mem) (k : Int → Mem → Prop) : Prop :=
 kif (decide (x_0 ≥ 65536)) (P239_4103 (x_0.fdiv 65536) 16 m (fun x5 m6 => (Keeps m m6 ∧ k x5 m))) (P239_4103 x_0 0 m (fun x7 m8 => (Keeps m m8 ∧ k x7 m)))
def G239 := Gs [.i .u32] [.i .i64] F239
def D239_4103 : PcD := ⟨[0, 2], [.i .u32, .i .i64], [⟨.ret, [2], [.i .i64], []⟩], P239_4103⟩
def D239_7102 : PcD := ⟨[0, 2], [.i .u32, .i .i64], [⟨.ret, [2], [.i .i64], []⟩], P239_7102⟩
def Lam239 : LEnv := lamOf [] [] [4103, 7102] [(4103, pcK D239_4103), (7102, pcK D239_7102)]
theorem pok239_7102 : PieceOK Tryz.prog E239 Lam239 (nthP Lam239 (bodyOf Tryz.f239) 1) := pc_ok D239_7102 (fun _ _ _ => by kernel_rfl) (by kernel_rfl) (fun _ _ _ _ => by kernel_rfl)
theorem pok239_4103 : PieceOK Tryz.prog E239 Lam239 (nthP Lam239 (bodyOf Tryz.f239) 0) := pc_ok D239_4103 (fun _ _ _ => by kernel_rfl) (by kernel_rfl) (fun _ _ _ _ => by kernel_rfl)
def E249 : Env := ext E239 239 G239
theorem S249 (w0 : World) : SP w0 E249 := sg (S239 w0) Tryz.func239 Tryz.call239 (Λ := Lam239) 0 trivial 2 ⟨pok239_4103, pok239_7102, trivial⟩ (by kernel_rfl) true (fun _ _ _ => by kernel_rfl)
def P249_10102 (x_0 : Int) (x_2 : Int) (m : Mem) (kr : Int → Mem → Prop) : Prop :=
 kif (decide (0 ≤ IntKind.wrap .u8 x_0) && decide (IntKind.wrap .u8 x_0 < Yb11.size)) (kr (IntKind.wrap .i64 (x_2 + (IntKind.wrap .i64 ((Yb11.data.getD (IntKind.wrap .u8 x_0).toNat 0).toNat)))) m) False
def P249_7103 (x_0 : Int) (x_2 : Int) (m : Mem) (kr : Int → Mem → Prop) : Prop :=
 kif (decide (x_0 ≥ 256)) (P249_10102 (x_0.fdiv 256) (IntKind.wrap .i64 (x_2 + 8)) m (fun x1 m2 => kr x1 m2)) (P249_10102 x_0 x_2 m (fun x3 m4 => kr x3 m4))
def P249_4103 (x_0 : Int) (x_2 : Int) (m : Mem) (kr : Int → Mem → Prop) : Prop :=
 kif (decide (x_0 ≥ 65536)) (P249_7103 (x_0.fdiv 65536) (IntKind.wrap .i64 (x_2 + 16)) m (fun x5 m6 => kr x5 m6)) (P249_7103 x_0 x_2 m (fun x7 m8 => kr x7 m8))
def F249 (x_0 : Int) (m : Mem) (k : Int → Mem → Prop) : Prop :=
 kif (decide (x_0 ≥ 4294967296)) (P249_4103 (x_0.fdiv 4294967296) 32 m (fun x9 m10 => (Keeps m m10 ∧ k x9 m))) (P249_4103 x_0 0 m (fun x11 m12 => (Keeps m m12 ∧ k x11 m)))
def G249 := Gs [.i .u64] [.i .i64] F249
def D249_4103 : PcD := ⟨[0, 2], [.i .u64, .i .i64], [⟨.ret, [2], [.i .i64], []⟩], P249_4103⟩
def D249_7103 : PcD := ⟨[0, 2], [.i .u64, .i .i64], [⟨.ret, [2], [.i .i64], []⟩], P249_7103⟩
def D249_10102 : PcD := ⟨[0, 2], [.i .u64, .i .i64], [⟨.ret, [2], [.i .i64], []⟩], P249_10102⟩
def Lam249 : LEnv := lamOf [] [] [4103, 7103, 10102] [(4103, pcK D249_4103), (7103, pcK D249_7103), (10102, pcK D249_10102)]
theorem pok249_10102 : PieceOK Tryz.prog E249 Lam249 (nthP Lam249 (bodyOf Tryz.f249) 2) := pc_ok D249_10102 (fun _ _ _ => by kernel_rfl) (by kernel_rfl) (fun _ _ _ _ => by kernel_rfl)
theorem pok249_7103 : PieceOK Tryz.prog E249 Lam249 (nthP Lam249 (bodyOf Tryz.f249) 1) := pc_ok D249_7103 (fun _ _ _ => by kernel_rfl) (by kernel_rfl) (fun _ _ _ _ => by kernel_rfl)
theorem pok249_4103 : PieceOK Tryz.prog E249 Lam249 (nthP Lam249 (bodyOf Tryz.f249) 0) := pc_ok D249_4103 (fun _ _ _ => by kernel_rfl) (by kernel_rfl) (fun _ _ _ _ => by kernel_rfl)
def E235 : Env := ext E249 249 G249
theorem S235 (w0 : World) : SP w0 E235 := sg (S249 w0) Tryz.func249 Tryz.call249 (Λ := Lam249) 0 trivial 3 ⟨pok249_4103, pok249_7103, pok249_10102, trivial⟩ (by kernel_rfl) true (fun _ _ _ => by kernel_rfl)
def F235 (x_0 : Int) (m : Mem) (k : Int → Mem → Prop) : Prop :=
 F249 x_0 m fun x1 m2 => (Keeps m m2 ∧ k x1 m)
def G235 := Gs [.i .u64] [.i .i64] F235
def E221 : Env := ext E235 235 G235
theorem S221 (w0 : World) : SP w0 E221 := sg0 (S235 w0) Tryz.func235 Tryz.call235 (by kernel_rfl) true (fun _ _ _ => by kernel_rfl)
def F221 (v_0 : AV) (m : Mem) (k : Mem → Prop) : Prop :=
 klen v_0 fun x1 => F235 (IntKind.wrap .u64 x1) m fun x2 m3 => F234 v_0 0 x1 x2 m3 fun m4 => k  m4
def G221 := Gs [.a] [] F221
def E222 : Env := ext E221 221 G221
theorem S222 (w0 : World) : SP w0 E222 := sg0 (S221 w0) Tryz.func221 Tryz.call221 (by kernel_rfl) false (fun _ _ _ => by kernel_rfl)
def R222_9 (v_0 : AV) (v_4 : AV) (x_3 : Int) (x_5 : Int) (m : Mem) (kn : Int → Int → Mem → Prop) (k2 : Int → Mem → Prop) : Prop :=
 klen v_4 fun x14 => kif (decide (x_5 < x14)) (ksl v_4 fun b15 o16 l17 p18 => kif (decide (0 ≤ x_5) && decide (x_5 < l17)) (ldI .i64 m b15 (o16 + (x_5).toNat * 1) fun x19 => ksl v_4 fun b20 o21 l22 p23 => kif (decide (0 ≤ IntKind.wrap .i64 (x_5 - 1)) && decide (IntKind.wrap .i64 (x_5 - 1) < l22)) (ldI .i64 m b20 (o21 + (IntKind.wrap .i64 (x_5 - 1)).toNat * 1) fun x24 => kif (x19 != x24) (ksl v_4 fun b25 o26 l27 p28 => kif (decide (0 ≤ x_5) && decide (x_5 < l27)) (ldI .i64 m b25 (o26 + (x_5).toNat * 1) fun x29 => ksl v_0 fun b30 o31 l32 p33 => kif (decide (0 ≤ x_3) && decide (x_3 < l32)) (stC m b30 (o31 + (x_3).toNat * 1) (.flat (.int .i64 x29)) fun m34 => kn (IntKind.wrap .i64 (x_3 + 1)) (IntKind.wrap .i64 (x_5 + 1)) m34) False) False) (kn x_3 (IntKind.wrap .i64 (x_5 + 1)) m)) False) False) (k2 x_3 m)
def L222_9 (v_0 : AV) (v_4 : AV) : Nat → Int → Int → Mem → (Int → Mem → Prop) → Prop
 | 0, _, _,  _, _ => bump False
 | N + 1, x_3, x_5,  m, k2 => R222_9 v_0 v_4 x_3 x_5 m (fun x_3' x_5' m' => L222_9 v_0 v_4 N x_3' x_5' m' k2) k2
def R222_4 (v_0 : AV) (x_3 : Int) (m : Mem) (kn : Int → Mem → Prop) (k0 : Mem → Prop) (kr : AV → Mem → Prop) : Prop :=
 klen v_0 fun x2 => kif (decide (x_3 < x2)) (ksl v_0 fun b3 o4 l5 p6 => kif (decide (0 ≤ x_3) && decide (x_3 < l5)) (ldI .i64 m b3 (o4 + (x_3).toNat * 1) fun x7 => ksl v_0 fun b8 o9 l10 p11 => kif (decide (0 ≤ IntKind.wrap .i64 (x_3 - 1)) && decide (IntKind.wrap .i64 (x_3 - 1) < l10)) (ldI .i64 m b8 (o9 + (IntKind.wrap .i64 (x_3 - 1)).toNat * 1) fun x12 => kif (x7 == x12) (slS 1 v_0 (some x_3) none fun v13 => ∃ N37, L222_9 v_0 v13 N37 x_3 1 m (fun x35 m36 => slS 1 v_0 (some x35) none fun v38 => clrS [(.flat (.int .i64 0))] v38 m36 fun m39 => slS 1 v_0 none (some x35) fun v40 => kr v40 m39)) (kn (IntKind.wrap .i64 (x_3 + 1)) m)) False) False) (k0  m)
def L222_4 (v_0 : AV) : Nat → Int → Mem → (Mem → Prop) → (AV → Mem → Prop) → Prop
 | 0, _,  _, _, _ => bump False
 | N + 1, x_3,  m, k0, kr => R222_4 v_0 x_3 m (fun x_3' m' => L222_4 v_0 N x_3' m' k0 kr) k0 kr
def F222 (v_0 : AV) (m : Mem) (k : AV → Mem → Prop) : Prop :=
 klen v_0 fun x1 => kif (decide (x1 < 2)) (k v_0 m) (∃ N44, L222_4 v_0 N44 1 m (fun m41 => k v_0 m41) (fun v42 m43 => k v42 m43))
def G222 := Gs [.a] [.a] F222
def D222_4 : LpD := ⟨[0], [.a], [3], [.i .i64], [⟨.exit 0, [], [], [0]⟩, ⟨.ret, [2], [.a], []⟩], R222_4, L222_4⟩
def D222_9 : LpD := ⟨[0, 4], [.a, .a], [3, 5], [.i .i64, .i .i64], [⟨.exit 2, [3], [.i .i64], [0]⟩], R222_9, L222_9⟩
def Lam222 : LEnv := lamOf [(4, lpK D222_4), (9, lpK D222_9)] [] [] []
theorem lok222_9 : LoopOK Tryz.prog E222 Lam222 (nthL (bodyOf Tryz.f222) 1) := lp_ok D222_9 (fun _ _ _ => by kernel_rfl) (by kernel_rfl) (fun _ _ _ _ _ _ _ => by kernel_rfl) (fun _ _ _ _ _ _ _ _ => by kernel_rfl) (fun _ _ _ _ _ _ _ => by kernel_rfl)
theorem lok222_4 : LoopOK Tryz.prog E222 Lam222 (nthL (bodyOf Tryz.f222) 0) := lp_ok D222_4 (fun _ _ _ => by kernel_rfl) (by kernel_rfl) (fun _ _ _ _ _ => by kernel_rfl) (fun _ _ _ _ _ _ => by kernel_rfl) (fun _ _ _ _ _ => by kernel_rfl)
def E202 : Env := ext E222 222 G222
theorem S202 (w0 : World) : SP w0 E202 := sg (S222 w0) Tryz.func222 Tryz.call222 (Λ := Lam222) 2 ⟨lok222_4, lok222_9, trivial⟩ 0 trivial (by kernel_rfl) false (fun _ _ _ => by kernel_rfl)
def P202_9102 (v_3 : AV) (m : Mem) (kr : AV → Mem → Prop) : Prop :=
 F221 v_3 m fun m35 => F222 v_3 m35 fun v36 m37 => kr v36 m37
def P202_8004 (b_1 o_1 : Nat) (x_38 : Bool) (m : Mem) (kn : AV → Mem → Prop) : Prop :=
 kif x_38 (ldI .i64 m b_1 (o_1 + 2) fun x10 => ldI .i64 m b_1 (o_1 + 3) fun x11 => ldI .i64 m b_1 (o_1 + 1) fun x12 => newK m ⟨3, upd (upd (upd (lget [(.flat (.int .i64 0)), (.flat (.int .i64 0)), (.flat (.int .i64 0))]) 0 (.flat (.int .i64 x10))) 1 (.flat (.int .i64 x11))) 2 (.flat (.int .i64 x12)), 3, false⟩ fun b14 m13 => kn (.sl b14 0 3 (.ex 3)) m13) (ldI .i64 m b_1 (o_1 + 2) fun x15 => ldI .i64 m b_1 (o_1 + 3) fun x16 => newK m ⟨2, upd (upd (lget [(.flat (.int .i64 0)), (.flat (.int .i64 0))]) 0 (.flat (.int .i64 x15))) 1 (.flat (.int .i64 x16)), 3, false⟩ fun b18 m17 => kn (.sl b18 0 2 (.ex 2)) m17)
def P202_6004 (b_1 o_1 : Nat) (x_4 : Int) (x_24 : Bool) (m : Mem) (kn : AV → Mem → Prop) : Prop :=
 kif x_24 (ldI .i64 m b_1 (o_1 + 2) fun x7 => newK m ⟨1, upd (lget [(.flat (.int .i64 0))]) 0 (.flat (.int .i64 x7)), 3, false⟩ fun b9 m8 => kn (.sl b9 0 1 (.ex 1)) m8) (kif (x_4 == 21) (P202_8004 b_1 o_1 true m (fun v19 m20 => kn v19 m20)) (P202_8004 b_1 o_1 (x_4 == 22) m (fun v21 m22 => kn v21 m22)))
def P202_5004 (b_1 o_1 : Nat) (v_3 : AV) (x_4 : Int) (x_12 : Bool) (m : Mem) (kn : AV → Mem → Prop) : Prop :=
 kif x_12 (kn v_3 m) (kif (x_4 == 2) (P202_6004 b_1 o_1 x_4 true m (fun v23 m24 => kn v23 m24)) (kif (x_4 == 15) (P202_6004 b_1 o_1 x_4 true m (fun v25 m26 => kn v25 m26)) (P202_6004 b_1 o_1 x_4 (x_4 == 16) m (fun v27 m28 => kn v27 m28))))
def F202 (c_0 : Nat → AV) (m : Mem) (k : AV → Mem → Prop) : Prop :=
 newK m ⟨5, c_0, 224, false⟩ fun b2 m1 => ldI .i64 m1 b2 0 fun x3 => ldG 5 m1 b2 0 fun c4 => F169 c4 m1 fun x5 m6 => kif (!x5) (P202_5004 b2 0 (.flat (.slice none 0 0)) x3 true m6 (fun v29 m30 => P202_9102 v29 m30 (fun v38 m39 => k v38 m39))) (kif (x3 == 0) (P202_5004 b2 0 (.flat (.slice none 0 0)) x3 true m6 (fun v31 m32 => P202_9102 v31 m32 (fun v40 m41 => k v40 m41))) (P202_5004 b2 0 (.flat (.slice none 0 0)) x3 (x3 == 1) m6 (fun v33 m34 => P202_9102 v33 m34 (fun v42 m43 => k v42 m43))))
def G202 := Gs [.g 5] [.a] F202
def D202_5004 : PcD := ⟨[1, 3, 4, 12], [.p, .a, .i .i64, .b], [⟨.normal, [3], [.a], []⟩], P202_5004⟩
def D202_6004 : PcD := ⟨[1, 4, 24], [.p, .i .i64, .b], [⟨.normal, [3], [.a], []⟩], P202_6004⟩
def D202_8004 : PcD := ⟨[1, 38], [.p, .b], [⟨.normal, [3], [.a], []⟩], P202_8004⟩
def D202_9102 : PcD := ⟨[3], [.a], [⟨.ret, [2], [.a], []⟩], P202_9102⟩
def Lam202 : LEnv := lamOf [] [] [5004, 6004, 8004, 9102] [(5004, pcK D202_5004), (6004, pcK D202_6004), (8004, pcK D202_8004), (9102, pcK D202_9102)]
theorem pok202_9102 : PieceOK Tryz.prog E202 Lam202 (nthP Lam202 (bodyOf Tryz.f202) 0) := pc_ok D202_9102 (fun _ _ _ => by kernel_rfl) (by kernel_rfl) (fun _ _ _ => by kernel_rfl)
theorem pok202_8004 : PieceOK Tryz.prog E202 Lam202 (nthP Lam202 (bodyOf Tryz.f202) 3) := pc_ok D202_8004 (fun _ _ _ => by kernel_rfl) (by kernel_rfl) (fun _ _ _ _ _ => by kernel_rfl)
theorem pok202_6004 : PieceOK Tryz.prog E202 Lam202 (nthP Lam202 (bodyOf Tryz.f202) 2) := pc_ok D202_6004 (fun _ _ _ => by kernel_rfl) (by kernel_rfl) (fun _ _ _ _ _ _ => by kernel_rfl)
theorem pok202_5004 : PieceOK Tryz.prog E202 Lam202 (nthP Lam202 (bodyOf Tryz.f202) 1) := pc_ok D202_5004 (fun _ _ _ => by kernel_rfl) (by kernel_rfl) (fun _ _ _ _ _ _ _ => by kernel_rfl)
def E203 : Env := ext E202 202 G202
theorem S203 (w0 : World) : SP w0 E203 := sg (S202 w0) Tryz.func202 Tryz.call202 (Λ := Lam202) 0 trivial 4 ⟨pok202_9102, pok202_5004, pok202_6004, pok202_8004, trivial⟩ (by kernel_rfl) false (fun _ _ _ => by kernel_rfl)
def R203_1 (v_0 : AV) (x_2 : Int) (x_3 : Int) (m : Mem) (kn : Int → Int → Mem → Prop) (k0 : Mem → Prop) : Prop :=
 kif (decide (x_2 < x_3)) (ksl v_0 fun b2 o3 l4 p5 => kif (decide (0 ≤ x_3) && decide (x_3 < l4)) (ldG 5 m b2 (o3 + (x_3).toNat * 5) fun c6 => ksl v_0 fun b7 o8 l9 p10 => kif (decide (0 ≤ x_2) && decide (x_2 < l9)) (ldG 5 m b7 (o8 + (x_2).toNat * 5) fun c11 => ksl v_0 fun b12 o13 l14 p15 => kif (decide (0 ≤ x_2) && decide (x_2 < l14)) (stG 5 m b12 (o13 + (x_2).toNat * 5) c6 fun m16 => ksl v_0 fun b17 o18 l19 p20 => kif (decide (0 ≤ x_3) && decide (x_3 < l19)) (stG 5 m16 b17 (o18 + (x_3).toNat * 5) c11 fun m21 => kn (IntKind.wrap .i64 (x_2 + 1)) (IntKind.wrap .i64 (x_3 - 1)) m21) False) False) False) False) (k0  m)
def L203_1 (v_0 : AV) : Nat → Int → Int → Mem → (Mem → Prop) → Prop
 | 0, _, _,  _, _ => bump False
 | N + 1, x_2, x_3,  m, k0 => R203_1 v_0 x_2 x_3 m (fun x_2' x_3' m' => L203_1 v_0 N x_2' x_3' m' k0) k0
def F203 (v_0 : AV) (m : Mem) (k : Mem → Prop) : Prop :=
 klen v_0 fun x1 => ∃ N23, L203_1 v_0 N23 0 (IntKind.wrap .i64 (x1 - 1)) m (fun m22 => k  m22)
def G203 := Gs [.a] [] F203
def D203_1 : LpD := ⟨[0], [.a], [2, 3], [.i .i64, .i .i64], [⟨.exit 0, [], [], []⟩], R203_1, L203_1⟩
def Lam203 : LEnv := lamOf [(1, lpK D203_1)] [] [] []
theorem lok203_1 : LoopOK Tryz.prog E203 Lam203 (nthL (bodyOf Tryz.f203) 0) := lp_ok D203_1 (fun _ _ _ => by kernel_rfl) (by kernel_rfl) (fun _ _ _ _ _ _ => by kernel_rfl) (fun _ _ _ _ _ _ _ => by kernel_rfl) (fun _ _ _ _ _ _ => by kernel_rfl)
def E162 : Env := ext E203 203 G203
theorem S162 (w0 : World) : SP w0 E162 := sg (S203 w0) Tryz.func203 Tryz.call203 (Λ := Lam203) 1 ⟨lok203_1, trivial⟩ 0 trivial (by kernel_rfl) false (fun _ _ _ => by kernel_rfl)
def R162_22 (v_0 : AV) (b_3 o_3 : Nat) (v_5 : AV) (x_6 : Int) (b_7 o_7 : Nat) (v_57 : AV) (x_58 : Int) (x_59 : Int) (m : Mem) (kn : Int → Mem → Prop) (k6 : Mem → Prop) : Prop :=
 kif (decide (x_59 < x_58)) (ksl v_57 fun b40 o41 l42 p43 => kif (decide (0 ≤ x_59) && decide (x_59 < l42)) (ldI .i64 m b40 (o41 + (x_59).toNat * 1) fun x44 => kif (decide (0 ≤ x44) && decide (x44 < 40)) (stC m b_3 (o_3 + (x44).toNat * 1) (.flat (.bool true)) fun m45 => kn (IntKind.wrap .i64 (x_59 + 1)) m45) False) False) (k6  m)
def L162_22 (v_0 : AV) (b_3 o_3 : Nat) (v_5 : AV) (x_6 : Int) (b_7 o_7 : Nat) (v_57 : AV) (x_58 : Int) : Nat → Int → Mem → (Mem → Prop) → Prop
 | 0, _,  _, _ => bump False
 | N + 1, x_59,  m, k6 => R162_22 v_0 b_3 o_3 v_5 x_6 b_7 o_7 v_57 x_58 x_59 m (fun x_59' m' => L162_22 v_0 b_3 o_3 v_5 x_6 b_7 o_7 v_57 x_58 N x_59' m' k6) k6
def R162_17 (v_0 : AV) (b_3 o_3 : Nat) (v_5 : AV) (x_6 : Int) (b_7 o_7 : Nat) (v_39 : AV) (x_40 : Int) (x_41 : Int) (m : Mem) (kn : Int → Mem → Prop) (k4 : Mem → Prop) : Prop :=
 kif (decide (x_41 < x_40)) (ksl v_39 fun b23 o24 l25 p26 => kif (decide (0 ≤ x_41) && decide (x_41 < l25)) (ldI .i64 m b23 (o24 + (x_41).toNat * 1) fun x27 => kif (decide (0 ≤ x27) && decide (x27 < 40)) (ldB m b_3 (o_3 + (x27).toNat * 1) fun x28 => kif x28 (ldG 5 m b_7 o_7 fun c29 => F201 c29 m fun x30 m31 => kif (decide (0 ≤ x27) && decide (x27 < 40)) (stC m31 b_3 (o_3 + (x27).toNat * 1) (.flat (.bool (!x30))) fun m32 => kn (IntKind.wrap .i64 (x_41 + 1)) m32) False) (kif (decide (0 ≤ x27) && decide (x27 < 40)) (stC m b_3 (o_3 + (x27).toNat * 1) (.flat (.bool false)) fun m33 => kn (IntKind.wrap .i64 (x_41 + 1)) m33) False)) False) False) (k4  m)
def L162_17 (v_0 : AV) (b_3 o_3 : Nat) (v_5 : AV) (x_6 : Int) (b_7 o_7 : Nat) (v_39 : AV) (x_40 : Int) : Nat → Int → Mem → (Mem → Prop) → Prop
 | 0, _,  _, _ => bump False
 | N + 1, x_41,  m, k4 => R162_17 v_0 b_3 o_3 v_5 x_6 b_7 o_7 v_39 x_40 x_41 m (fun x_41' m' => L162_17 v_0 b_3 o_3 v_5 x_6 b_7 o_7 v_39 x_40 N x_41' m' k4) k4
def R162_11 (v_0 : AV) (b_3 o_3 : Nat) (v_5 : AV) (x_6 : Int) (m : Mem) (kn : AV → Int → Mem → Prop) (k2 : AV → Mem → Prop) : Prop :=
 kif (decide (x_6 ≥ 0)) (ksl v_0 fun b9 o10 l11 p12 => kif (decide (0 ≤ x_6) && decide (x_6 < l11)) (ldG 5 m b9 (o10 + (x_6).toNat * 5) fun c13 => newK m ⟨5, lget [(.flat (.int .i64 0)), (.flat (.int .i64 0)), (.flat (.int .i64 0)), (.flat (.int .i64 0)), (.flat (.int .u32 0))], 224, false⟩ fun b15 m14 => stG 5 m14 b15 0 c13 fun m16 => ldG 5 m16 b15 0 fun c17 => F198 c17 m16 fun v18 m19 => F199 v18 (.clo 200 [(.ptr b_3 o_3)]) m19 fun x20 m21 => kif (!x20) (kn v_5 (IntKind.wrap .i64 (x_6 - 1)) m21) (klen v18 fun x22 => ∃ N35, L162_17 v_0 b_3 o_3 v_5 x_6 b15 0 v18 x22 N35 0 m21 (fun m34 => ldG 5 m34 b15 0 fun c36 => F202 c36 m34 fun v37 m38 => klen v37 fun x39 => ∃ N47, L162_22 v_0 b_3 o_3 v_5 x_6 b15 0 v37 x39 N47 0 m38 (fun m46 => ldG 5 m46 b15 0 fun c48 => newK m46 ⟨5, splice (lget [(.flat (.int .i64 0)), (.flat (.int .i64 0)), (.flat (.int .i64 0)), (.flat (.int .i64 0)), (.flat (.int .u32 0))]) 0 5 c48, 224, false⟩ fun b50 m49 => appS 5 40 224 v_5 (.sl b50 0 1 (.ex 1)) m49 fun v51 m52 => kn v51 (IntKind.wrap .i64 (x_6 - 1)) m52)))) False) (k2 v_5 m)
def L162_11 (v_0 : AV) (b_3 o_3 : Nat) : Nat → AV → Int → Mem → (AV → Mem → Prop) → Prop
 | 0, _, _,  _, _ => bump False
 | N + 1, v_5, x_6,  m, k2 => R162_11 v_0 b_3 o_3 v_5 x_6 m (fun v_5' x_6' m' => L162_11 v_0 b_3 o_3 N v_5' x_6' m' k2) k2
def R162_5 (v_0 : AV) (b_3 o_3 : Nat) (x_16 : Int) (m : Mem) (kn : Int → Mem → Prop) (k0 : Mem → Prop) : Prop :=
 kif (decide (x_16 < 34)) (kif (decide (0 ≤ x_16) && decide (x_16 < 40)) (stC m b_3 (o_3 + (x_16).toNat * 1) (.flat (.bool true)) fun m5 => kn (IntKind.wrap .i64 (x_16 + 1)) m5) False) (k0  m)
def L162_5 (v_0 : AV) (b_3 o_3 : Nat) : Nat → Int → Mem → (Mem → Prop) → Prop
 | 0, _,  _, _ => bump False
 | N + 1, x_16,  m, k0 => R162_5 v_0 b_3 o_3 x_16 m (fun x_16' m' => L162_5 v_0 b_3 o_3 N x_16' m' k0) k0
def F162 (v_0 : AV) (m : Mem) (k : AV → Mem → Prop) : Prop :=
 F197 v_0 m fun x1 m2 => kif (!x1) (k (.flat (.slice none 0 0)) m2) (newK m2 ⟨40, Z40, 241, false⟩ fun b4 m3 => ∃ N7, L162_5 v_0 b4 0 N7 0 m3 (fun m6 => klen v_0 fun x8 => ∃ N55, L162_11 v_0 b4 0 N55 (.flat (.slice none 0 0)) (IntKind.wrap .i64 (x8 - 1)) m6 (fun v53 m54 => F203 v53 m54 fun m56 => k v53 m56)))
def G162 := Gs [.a] [.a] F162
def D162_5 : LpD := ⟨[0, 3], [.a, .p], [16], [.i .i64], [⟨.exit 0, [], [], [0, 3]⟩], R162_5, L162_5⟩
def D162_11 : LpD := ⟨[0, 3], [.a, .p], [5, 6], [.a, .i .i64], [⟨.exit 2, [5], [.a], []⟩], R162_11, L162_11⟩
def D162_17 : LpD := ⟨[0, 3, 5, 6, 7, 39, 40], [.a, .p, .a, .i .i64, .p, .a, .i .i64], [41], [.i .i64], [⟨.exit 4, [], [], [0, 3, 5, 6, 7]⟩], R162_17, L162_17⟩
def D162_22 : LpD := ⟨[0, 3, 5, 6, 7, 57, 58], [.a, .p, .a, .i .i64, .p, .a, .i .i64], [59], [.i .i64], [⟨.exit 6, [], [], [0, 3, 5, 6, 7]⟩], R162_22, L162_22⟩
def Lam162 : LEnv := lamOf [(5, lpK D162_5), (11, lpK D162_11), (17, lpK D162_17), (22, lpK D162_22)] [] [] []
theorem lok162_22 : LoopOK Tryz.prog E162 Lam162 (nthL (bodyOf Tryz.f162) 3) := lp_ok D162_22 (fun _ _ _ => by kernel_rfl) (by kernel_rfl) (fun _ _ _ _ _ _ _ _ _ _ _ _ _ => by kernel_rfl) (fun _ _ _ _ _ _ _ _ _ _ _ _ _ _ => by kernel_rfl) (fun _ _ _ _ _ _ _ _ _ _ _ _ _ => by kernel_rfl)
theorem lok162_17 : LoopOK Tryz.prog E162 Lam162 (nthL (bodyOf Tryz.f162) 2) := lp_ok D162_17 (fun _ _ _ => by kernel_rfl) (by kernel_rfl) (fun _ _ _ _ _ _ _ _ _ _ _ _ _ => by kernel_rfl) (fun _ _ _ _ _ _ _ _ _ _ _ _ _ _ => by kernel_rfl) (fun _ _ _ _ _ _ _ _ _ _ _ _ _ => by kernel_rfl)
theorem lok162_11 : LoopOK Tryz.prog E162 Lam162 (nthL (bodyOf Tryz.f162) 1) := lp_ok D162_11 (fun _ _ _ => by kernel_rfl) (by kernel_rfl) (fun _ _ _ _ _ _ _ _ => by kernel_rfl) (fun _ _ _ _ _ _ _ _ _ => by kernel_rfl) (fun _ _ _ _ _ _ _ _ => by kernel_rfl)
theorem lok162_5 : LoopOK Tryz.prog E162 Lam162 (nthL (bodyOf Tryz.f162) 0) := lp_ok D162_5 (fun _ _ _ => by kernel_rfl) (by kernel_rfl) (fun _ _ _ _ _ _ _ => by kernel_rfl) (fun _ _ _ _ _ _ _ _ => by kernel_rfl) (fun _ _ _ _ _ _ _ => by kernel_rfl)
def E206 : Env := ext E162 162 G162
theorem S206 (w0 : World) : SP w0 E206 := sg (S162 w0) Tryz.func162 Tryz.call162 (Λ := Lam162) 4 ⟨lok162_5, lok162_11, lok162_17, lok162_22, trivial⟩ 0 trivial (by kernel_rfl) false (fun _ _ _ => by kernel_rfl)
def R206_2 (v_0 : AV) (v_1 : AV) (x_7 : Int) (x_8 : Int) (m : Mem) (kn : Int → Mem → Prop) (k0 : Mem → Prop) (kr : Int → Mem → Prop) : Prop :=
 kif (decide (x_8 < x_7)) (ksl v_0 fun b2 o3 l4 p5 => kif (decide (0 ≤ x_8) && decide (x_8 < l4)) (ldG 5 m b2 (o3 + (x_8).toNat * 5) fun c6 => kfunv v_1 fun f7 l10 => E206 f7 ([(.agg 5 c6)] ++ l10) m fun v8 m9 => kbool v8 fun x11 => kif x11 (kr x_8 m9) (kn (IntKind.wrap .i64 (x_8 + 1)) m9)) False) (k0  m)
def L206_2 (v_0 : AV) (v_1 : AV) (x_7 : Int) : Nat → Int → Mem → (Mem → Prop) → (Int → Mem → Prop) → Prop
 | 0, _,  _, _, _ => bump False
 | N + 1, x_8,  m, k0, kr => R206_2 v_0 v_1 x_7 x_8 m (fun x_8' m' => L206_2 v_0 v_1 x_7 N x_8' m' k0 kr) k0 kr
def F206 (v_0 : AV) (v_1 : AV) (m : Mem) (k : Int → Mem → Prop) : Prop :=
 klen v_0 fun x1 => ∃ N15, L206_2 v_0 v_1 x1 N15 0 m (fun m12 => k (-1) m12) (fun x13 m14 => k x13 m14)
def G206 := Gs [.a, .a] [.i .i64] F206
def D206_2 : LpD := ⟨[0, 1, 7], [.a, .a, .i .i64], [8], [.i .i64], [⟨.exit 0, [], [], []⟩, ⟨.ret, [4], [.i .i64], []⟩], R206_2, L206_2⟩
def Lam206 : LEnv := lamOf [(2, lpK D206_2)] [] [] []
theorem lok206_2 : LoopOK Tryz.prog E206 Lam206 (nthL (bodyOf Tryz.f206) 0) := lp_ok D206_2 (fun _ _ _ => by kernel_rfl) (by kernel_rfl) (fun _ _ _ _ _ _ _ => by kernel_rfl) (fun _ _ _ _ _ _ _ _ => by kernel_rfl) (fun _ _ _ _ _ _ _ => by kernel_rfl)
def E167 : Env := ext E206 206 G206
theorem S167 (w0 : World) : SP w0 E167 := sg (S206 w0) Tryz.func206 Tryz.call206 (Λ := Lam206) 1 ⟨lok206_2, trivial⟩ 0 trivial (by kernel_rfl) false (fun _ _ _ _ => by kernel_rfl)
def F167 (v_0 : AV) (v_1 : AV) (m : Mem) (k : Bool → Mem → Prop) : Prop :=
 F206 v_0 v_1 m fun x1 m2 => k (decide (x1 ≥ 0)) m2
def G167 := Gs [.a, .a] [.b] F167
def E194 : Env := ext E167 167 G167
theorem S194 (w0 : World) : SP w0 E194 := sg0 (S167 w0) Tryz.func167 Tryz.call167 (by kernel_rfl) false (fun _ _ _ _ => by kernel_rfl)
def P194_4102 (x_8 : Int) (m : Mem) (kr : Int → Int → Mem → Prop) : Prop :=
 kr (IntKind.wrap .u32 (x_8.fdiv 4294967296)) (IntKind.wrap .u32 x_8) m
def F194 (x_0 : Int) (x_1 : Int) (x_2 : Bool) (m : Mem) (k : Int → Int → Mem → Prop) : Prop :=
 kif x_2 (P194_4102 (IntKind.wrap .u64 (IntKind.wrap .i64 ((IntKind.wrap .i64 (IntKind.wrap .i32 x_0)) * (IntKind.wrap .i64 (IntKind.wrap .i32 x_1))))) m (fun x1 x2 m3 => (Keeps m m3 ∧ k x1 x2 m))) (P194_4102 (IntKind.wrap .u64 ((IntKind.wrap .u64 x_0) * (IntKind.wrap .u64 x_1))) m (fun x4 x5 m6 => (Keeps m m6 ∧ k x4 x5 m)))
def G194 := Gs [.i .u32, .i .u32, .b] [.i .u32, .i .u32] F194
def D194_4102 : PcD := ⟨[8], [.i .u64], [⟨.ret, [6, 7], [.i .u32, .i .u32], []⟩], P194_4102⟩
def Lam194 : LEnv := lamOf [] [] [4102] [(4102, pcK D194_4102)]
theorem pok194_4102 : PieceOK Tryz.prog E194 Lam194 (nthP Lam194 (bodyOf Tryz.f194) 0) := pc_ok D194_4102 (fun _ _ _ => by kernel_rfl) (by kernel_rfl) (fun _ _ _ => by kernel_rfl)
def E195 : Env := ext E194 194 G194
theorem S195 (w0 : World) : SP w0 E195 := sg (S194 w0) Tryz.func194 Tryz.call194 (Λ := Lam194) 0 trivial 1 ⟨pok194_4102, trivial⟩ (by kernel_rfl) true (fun _ _ _ _ _ => by kernel_rfl)
def F195 (x_0 : Int) (x_1 : Int) (x_2 : Bool) (m : Mem) (k : Int → Int → Mem → Prop) : Prop :=
 kif (x_1 == 0) ((Keeps m m ∧ k 4294967295 x_0 m)) (kif (!x_2) (kif (decide (x_1 = 0)) False (kif (decide (x_1 = 0)) False ((Keeps m m ∧ k (IntKind.wrap .u32 (x_0.tdiv x_1)) (x_0.tmod x_1) m)))) (kif (decide (IntKind.wrap .i64 (IntKind.wrap .i32 x_1) = 0)) False (kif (decide (IntKind.wrap .i64 (IntKind.wrap .i32 x_1) = 0)) False ((Keeps m m ∧ k (IntKind.wrap .u32 (IntKind.wrap .i64 ((IntKind.wrap .i64 (IntKind.wrap .i32 x_0)).tdiv (IntKind.wrap .i64 (IntKind.wrap .i32 x_1))))) (IntKind.wrap .u32 ((IntKind.wrap .i64 (IntKind.wrap .i32 x_0)).tmod (IntKind.wrap .i64 (IntKind.wrap .i32 x_1)))) m)))))
def G195 := Gs [.i .u32, .i .u32, .b] [.i .u32, .i .u32] F195
def E186 : Env := ext E195 195 G195
theorem S186 (w0 : World) : SP w0 E186 := sg0 (S195 w0) Tryz.func195 Tryz.call195 (by kernel_rfl) true (fun _ _ _ _ _ => by kernel_rfl)
def F186 (x_0 : Int) (x_1 : Int) (x_2 : Bool) (m : Mem) (k : Bool → Mem → Prop) : Prop :=
 kif x_2 ((Keeps m m ∧ k (decide ((IntKind.wrap .i32 x_0) < (IntKind.wrap .i32 x_1))) m)) ((Keeps m m ∧ k (decide (x_0 < x_1)) m))
def G186 := Gs [.i .u32, .i .u32, .b] [.b] F186
def E187 : Env := ext E186 186 G186
theorem S187 (w0 : World) : SP w0 E187 := sg0 (S186 w0) Tryz.func186 Tryz.call186 (by kernel_rfl) true (fun _ _ _ _ _ => by kernel_rfl)
def F187 (x_0 : Int) (x_1 : Int) (m : Mem) (k : Int → Mem → Prop) : Prop :=
 kif (decide (bits .and .i64 x_1 31 < 0)) False ((Keeps m m ∧ k (IntKind.wrap .u32 ((IntKind.wrap .i32 x_0).fdiv (2 ^ min (bits .and .i64 x_1 31).toNat 32))) m))
def G187 := Gs [.i .u32, .i .i64] [.i .u32] F187
def E233 : Env := ext E187 187 G187
theorem S233 (w0 : World) : SP w0 E233 := sg0 (S187 w0) Tryz.func187 Tryz.call187 (by kernel_rfl) true (fun _ _ _ _ => by kernel_rfl)
def F233 (x_0 : Int) (m : Mem) (k : Int → Mem → Prop) : Prop :=
 F239 x_0 m fun x1 m2 => (Keeps m m2 ∧ k (IntKind.wrap .i64 (32 - x1)) m)
def G233 := Gs [.i .u32] [.i .i64] F233
def E218 : Env := ext E233 233 G233
theorem S218 (w0 : World) : SP w0 E218 := sg0 (S233 w0) Tryz.func233 Tryz.call233 (by kernel_rfl) true (fun _ _ _ => by kernel_rfl)
def F218 (x_0 : Int) (m : Mem) (k : Int → Mem → Prop) : Prop :=
 F233 x_0 m fun x1 m2 => (Keeps m m2 ∧ k x1 m)
def G218 := Gs [.i .u32] [.i .i64] F218
def E219 : Env := ext E218 218 G218
theorem S219 (w0 : World) : SP w0 E219 := sg0 (S218 w0) Tryz.func218 Tryz.call218 (by kernel_rfl) true (fun _ _ _ => by kernel_rfl)
def F219 (x_0 : Int) (m : Mem) (k : Int → Mem → Prop) : Prop :=
 F233 (bits .xor .u32 4294967295 x_0) m fun x1 m2 => (Keeps m m2 ∧ k x1 m)
def G219 := Gs [.i .u32] [.i .i64] F219
def E224 : Env := ext E219 219 G219
theorem S224 (w0 : World) : SP w0 E224 := sg0 (S219 w0) Tryz.func219 Tryz.call219 (by kernel_rfl) true (fun _ _ _ => by kernel_rfl)
def F224 (x_0 : Bool) (m : Mem) (k : Int → Mem → Prop) : Prop :=
 kif x_0 ((Keeps m m ∧ k 1 m)) ((Keeps m m ∧ k 0 m))
def G224 := Gs [.b] [.i .u32] F224
def E207 : Env := ext E224 224 G224
theorem S207 (w0 : World) : SP w0 E207 := sg0 (S224 w0) Tryz.func224 Tryz.call224 (by kernel_rfl) true (fun _ _ _ => by kernel_rfl)
def P207_24004 (x_1 : Int) (x_2 : Int) (b_3 o_3 : Nat) (x_8 : Int) (x_63 : Bool) (m : Mem) (kr : Int → Mem → Prop) (kn : Mem → Prop) : Prop :=
 kif x_63 (ldI .i64 m b_3 (o_3 + 0) fun x7 => F186 x_1 x_2 (x7 == 12) m fun x8 m9 => F224 x8 m9 fun x10 m11 => kr x10 m11) (kif (x_8 == 14) (kr (IntKind.wrap .u32 (x_1 * x_2)) m) (kif (x_8 == 15) (F218 x_1 m fun x12 m13 => kr (IntKind.wrap .u32 x12) m13) (kif (x_8 == 16) (F219 x_1 m fun x14 m15 => kr (IntKind.wrap .u32 x14) m15) (kn  m))))
def F207 (c_0 : Nat → AV) (x_1 : Int) (x_2 : Int) (m : Mem) (k : Int → Mem → Prop) : Prop :=
 newK m ⟨5, c_0, 224, false⟩ fun b2 m1 => ldI .i64 m1 b2 0 fun x3 => kif (x3 == 1) (ldI .u32 m1 b2 4 fun x4 => (Keeps m m1 ∧ k x4 m)) (kif (x3 == 3) ((Keeps m m1 ∧ k (IntKind.wrap .u32 (x_1 + x_2)) m)) (kif (x3 == 4) ((Keeps m m1 ∧ k (IntKind.wrap .u32 (x_1 - x_2)) m)) (kif (x3 == 5) ((Keeps m m1 ∧ k (bits .and .u32 x_1 x_2) m)) (kif (x3 == 6) ((Keeps m m1 ∧ k (bits .or .u32 x_1 x_2) m)) (kif (x3 == 7) ((Keeps m m1 ∧ k (bits .xor .u32 x_1 x_2) m)) (kif (x3 == 8) ((Keeps m m1 ∧ k (bits .xor .u32 4294967295 (bits .or .u32 x_1 x_2)) m)) (kif (x3 == 9) (kif (decide (bits .and .u32 x_2 31 < 0)) False ((Keeps m m1 ∧ k (IntKind.wrap .u32 (x_1 * 2 ^ min (bits .and .u32 x_2 31).toNat 32)) m))) (kif (x3 == 10) (kif (decide (bits .and .u32 x_2 31 < 0)) False ((Keeps m m1 ∧ k (x_1.fdiv (2 ^ min (bits .and .u32 x_2 31).toNat 32)) m))) (kif (x3 == 11) (F187 x_1 (IntKind.wrap .i64 (bits .and .u32 x_2 31)) m1 fun x5 m6 => (Keeps m m6 ∧ k x5 m)) (kif (x3 == 12) (P207_24004 x_1 x_2 b2 0 x3 (x3 == 12) m1 (fun x16 m17 => (Keeps m m17 ∧ k x16 m)) (fun m18 => (Keeps m m18 ∧ k x_1 m))) (P207_24004 x_1 x_2 b2 0 x3 (x3 == 13) m1 (fun x19 m20 => (Keeps m m20 ∧ k x19 m)) (fun m21 => (Keeps m m21 ∧ k x_1 m)))))))))))))
def G207 := Gs [.g 5, .i .u32, .i .u32] [.i .u32] F207
def D207_24004 : PcD := ⟨[1, 2, 3, 8, 63], [.i .u32, .i .u32, .p, .i .i64, .b], [⟨.ret, [6], [.i .u32], []⟩, ⟨.normal, [], [], [1]⟩], P207_24004⟩
def Lam207 : LEnv := lamOf [] [] [24004] [(24004, pcK D207_24004)]
theorem pok207_24004 : PieceOK Tryz.prog E207 Lam207 (nthP Lam207 (bodyOf Tryz.f207) 0) := pc_ok D207_24004 (fun _ _ _ => by kernel_rfl) (by kernel_rfl) (fun _ _ _ _ _ _ _ _ => by kernel_rfl)
def E170 : Env := ext E207 207 G207
theorem S170 (w0 : World) : SP w0 E170 := sg (S207 w0) Tryz.func207 Tryz.call207 (Λ := Lam207) 0 trivial 1 ⟨pok207_24004, trivial⟩ (by kernel_rfl) true (fun _ _ _ _ _ => by kernel_rfl)
def P170_3004 (b_0 o_0 : Nat) (b_3 o_3 : Nat) (x_4 : Int) (x_5 : Int) (x_72 : Bool) (m : Mem) (kn : Mem → Prop) : Prop :=
 kif x_72 (kn  m) (∃ Fr19 : Nat → Prop, Fr19 b_3 ∧ (ldI .i64 m b_3 (o_3 + 1) fun x20 => Fr19 b_3 ∧ (ldG 5 m b_3 o_3 fun c21 => F207 c21 x_4 x_5 m fun x22 m23 => KeepsIn Fr19 m m23 ∧ (kif (decide (0 ≤ x20) && decide (x20 < 40)) (stC m23 b_0 (o_0 + (x20).toNat * 1) (.flat (.int .u32 x22)) fun m24 => kn  m24) False))))
def P170_7004 (b_0 o_0 : Nat) (b_3 o_3 : Nat) (x_4 : Int) (x_5 : Int) (x_6 : Int) (x_51 : Bool) (m : Mem) (kn : Mem → Prop) : Prop :=
 kif x_51 (F195 x_4 x_5 (x_6 == 19) m fun x13 x14 m15 => stC m15 b_0 (o_0 + 33) (.flat (.int .u32 x13)) fun m16 => stC m16 b_0 (o_0 + 32) (.flat (.int .u32 x14)) fun m17 => kn  m17) (kif (x_6 == 0) (P170_3004 b_0 o_0 b_3 o_3 x_4 x_5 true m (fun m25 => kn  m25)) (ldI .i64 m b_3 (o_3 + 1) fun x18 => kif (x18 == 0) (P170_3004 b_0 o_0 b_3 o_3 x_4 x_5 true m (fun m26 => kn  m26)) (kif (x_6 == 21) (P170_3004 b_0 o_0 b_3 o_3 x_4 x_5 (!((x_5 == 0) == (x_6 == 21))) m (fun m27 => kn  m27)) (kif (x_6 == 22) (P170_3004 b_0 o_0 b_3 o_3 x_4 x_5 (!((x_5 == 0) == (x_6 == 21))) m (fun m28 => kn  m28)) (P170_3004 b_0 o_0 b_3 o_3 x_4 x_5 false m (fun m29 => kn  m29))))))
def P170_5004 (b_0 o_0 : Nat) (b_3 o_3 : Nat) (x_4 : Int) (x_5 : Int) (x_6 : Int) (x_30 : Bool) (m : Mem) (kn : Mem → Prop) : Prop :=
 kif x_30 (F194 x_4 x_5 (x_6 == 17) m fun x8 x9 m10 => stC m10 b_0 (o_0 + 32) (.flat (.int .u32 x8)) fun m11 => stC m11 b_0 (o_0 + 33) (.flat (.int .u32 x9)) fun m12 => kn  m12) (kif (x_6 == 19) (P170_7004 b_0 o_0 b_3 o_3 x_4 x_5 x_6 true m (fun m30 => kn  m30)) (P170_7004 b_0 o_0 b_3 o_3 x_4 x_5 x_6 (x_6 == 20) m (fun m31 => kn  m31)))
def F170 (b_0 o_0 : Nat) (c_1 : Nat → AV) (m : Mem) (k : Mem → Prop) : Prop :=
 newK m ⟨5, c_1, 224, false⟩ fun b2 m1 => ldI .i64 m1 b2 2 fun x3 => kif (decide (0 ≤ x3) && decide (x3 < 40)) (ldI .u32 m1 b_0 (o_0 + (x3).toNat * 1) fun x4 => ldI .i64 m1 b2 3 fun x5 => kif (decide (0 ≤ x5) && decide (x5 < 40)) (ldI .u32 m1 b_0 (o_0 + (x5).toNat * 1) fun x6 => ldI .i64 m1 b2 0 fun x7 => kif (x7 == 17) (P170_5004 b_0 o_0 b2 0 x4 x6 x7 true m1 (fun m32 => k  m32)) (P170_5004 b_0 o_0 b2 0 x4 x6 x7 (x7 == 18) m1 (fun m33 => k  m33))) False) False
def G170 := Gs [.p, .g 5] [] F170
def D170_5004 : PcD := ⟨[0, 3, 4, 5, 6, 30], [.p, .p, .i .u32, .i .u32, .i .i64, .b], [⟨.normal, [], [], []⟩], P170_5004⟩
def D170_7004 : PcD := ⟨[0, 3, 4, 5, 6, 51], [.p, .p, .i .u32, .i .u32, .i .i64, .b], [⟨.normal, [], [], []⟩], P170_7004⟩
def D170_3004 : PcD := ⟨[0, 3, 4, 5, 72], [.p, .p, .i .u32, .i .u32, .b], [⟨.normal, [], [], []⟩], P170_3004⟩
def Lam170 : LEnv := lamOf [] [3] [5004, 7004, 3004] [(5004, pcK D170_5004), (7004, pcK D170_7004), (3004, pcK D170_3004)]
theorem pok170_3004 : PieceOK Tryz.prog E170 Lam170 (nthP Lam170 (bodyOf Tryz.f170) 2) := pc_ok D170_3004 (fun _ _ _ => by kernel_rfl) (by kernel_rfl) (fun _ _ _ _ _ _ _ _ _ => by kernel_rfl)
theorem pok170_7004 : PieceOK Tryz.prog E170 Lam170 (nthP Lam170 (bodyOf Tryz.f170) 1) := pc_ok D170_7004 (fun _ _ _ => by kernel_rfl) (by kernel_rfl) (fun _ _ _ _ _ _ _ _ _ _ => by kernel_rfl)
theorem pok170_5004 : PieceOK Tryz.prog E170 Lam170 (nthP Lam170 (bodyOf Tryz.f170) 0) := pc_ok D170_5004 (fun _ _ _ => by kernel_rfl) (by kernel_rfl) (fun _ _ _ _ _ _ _ _ _ _ => by kernel_rfl)
def E127 : Env := ext E170 170 G170
theorem S127 (w0 : World) : SP w0 E127 := sg (S170 w0) Tryz.func170 Tryz.call170 (Λ := Lam170) 0 trivial 3 ⟨pok170_5004, pok170_7004, pok170_3004, trivial⟩ (by kernel_rfl) false (fun _ _ _ _ _ => by kernel_rfl)
def R127_5 (b_0 o_0 : Nat) (v_16 : AV) (x_17 : Int) (x_18 : Int) (m : Mem) (kn : Int → Mem → Prop) (k0 : Mem → Prop) : Prop :=
 kif (decide (x_18 < x_17)) (ksl v_16 fun b5 o6 l7 p8 => kif (decide (0 ≤ x_18) && decide (x_18 < l7)) (ldG 5 m b5 (o6 + (x_18).toNat * 5) fun c9 => newK m ⟨5, lget [(.flat (.int .i64 0)), (.flat (.int .i64 0)), (.flat (.int .i64 0)), (.flat (.int .i64 0)), (.flat (.int .u32 0))], 224, false⟩ fun b11 m10 => stG 5 m10 b11 0 c9 fun m12 => ldG 5 m12 b11 0 fun c13 => F170 b_0 o_0 c13 m12 fun m14 => kn (IntKind.wrap .i64 (x_18 + 1)) m14) False) (k0  m)
def L127_5 (b_0 o_0 : Nat) (v_16 : AV) (x_17 : Int) : Nat → Int → Mem → (Mem → Prop) → Prop
 | 0, _,  _, _ => bump False
 | N + 1, x_18,  m, k0 => R127_5 b_0 o_0 v_16 x_17 x_18 m (fun x_18' m' => L127_5 b_0 o_0 v_16 x_17 N x_18' m' k0) k0
def F127 (b_0 o_0 : Nat) (v_1 : AV) (m : Mem) (k : Bool → Mem → Prop) : Prop :=
 F167 v_1 (.flat (.func (.func 168) #[] #[])) m fun x1 m2 => kif x1 (k false m2) (stC m2 b_0 (o_0 + 0) (.flat (.int .u32 0)) fun m3 => klen v_1 fun x4 => ∃ N16, L127_5 b_0 o_0 v_1 x4 N16 0 m3 (fun m15 => k true m15))
def G127 := Gs [.p, .a] [.b] F127
def D127_5 : LpD := ⟨[0, 16, 17], [.p, .a, .i .i64], [18], [.i .i64], [⟨.exit 0, [], [], []⟩], R127_5, L127_5⟩
def Lam127 : LEnv := lamOf [(5, lpK D127_5)] [] [] []
theorem lok127_5 : LoopOK Tryz.prog E127 Lam127 (nthL (bodyOf Tryz.f127) 0) := lp_ok D127_5 (fun _ _ _ => by kernel_rfl) (by kernel_rfl) (fun _ _ _ _ _ _ _ _ => by kernel_rfl) (fun _ _ _ _ _ _ _ _ _ => by kernel_rfl) (fun _ _ _ _ _ _ _ _ => by kernel_rfl)
def E223 : Env := ext E127 127 G127
theorem S223 (w0 : World) : SP w0 E223 := sg (S127 w0) Tryz.func127 Tryz.call127 (Λ := Lam127) 1 ⟨lok127_5, trivial⟩ 0 trivial (by kernel_rfl) false (fun _ _ _ _ _ => by kernel_rfl)
def R223_2 (b_0 o_0 : Nat) (v_7 : AV) (x_8 : Int) (x_9 : Int) (m : Mem) (kn : Int → Mem → Prop) (k0 : Mem → Prop) (kr : Bool → Mem → Prop) : Prop :=
 kif (decide (x_9 < x_8)) (ksl v_7 fun b2 o3 l4 p5 => kif (decide (0 ≤ x_9) && decide (x_9 < l4)) (ldI .i64 m b2 (o3 + (x_9).toNat * 1) fun x6 => kif (decide (0 ≤ x6) && decide (x6 < 40)) (ldB m b_0 (o_0 + 0 + (x6).toNat * 1) fun x7 => kif (!x7) (kr false m) (kn (IntKind.wrap .i64 (x_9 + 1)) m)) False) False) (k0  m)
def L223_2 (b_0 o_0 : Nat) (v_7 : AV) (x_8 : Int) : Nat → Int → Mem → (Mem → Prop) → (Bool → Mem → Prop) → Prop
 | 0, _,  _, _, _ => bump False
 | N + 1, x_9,  m, k0, kr => R223_2 b_0 o_0 v_7 x_8 x_9 m (fun x_9' m' => L223_2 b_0 o_0 v_7 x_8 N x_9' m' k0 kr) k0 kr
def F223 (b_0 o_0 : Nat) (v_1 : AV) (m : Mem) (k : Bool → Mem → Prop) : Prop :=
 klen v_1 fun x1 => ∃ N11, L223_2 b_0 o_0 v_1 x1 N11 0 m (fun m8 => (Keeps m m8 ∧ k true m)) (fun x9 m10 => (Keeps m m10 ∧ k x9 m))
def G223 := Gs [.p, .a] [.b] F223
def D223_2 : LpD := ⟨[0, 7, 8], [.p, .a, .i .i64], [9], [.i .i64], [⟨.exit 0, [], [], []⟩, ⟨.ret, [4], [.b], []⟩], R223_2, L223_2⟩
def Lam223 : LEnv := lamOf [(2, lpK D223_2)] [] [] []
theorem lok223_2 : LoopOK Tryz.prog E223 Lam223 (nthL (bodyOf Tryz.f223) 0) := lp_ok D223_2 (fun _ _ _ => by kernel_rfl) (by kernel_rfl) (fun _ _ _ _ _ _ _ _ => by kernel_rfl) (fun _ _ _ _ _ _ _ _ _ => by kernel_rfl) (fun _ _ _ _ _ _ _ _ => by kernel_rfl)
def E204 : Env := ext E223 223 G223
theorem S204 (w0 : World) : SP w0 E204 := sg (S223 w0) Tryz.func223 Tryz.call223 (Λ := Lam223) 1 ⟨lok223_2, trivial⟩ 0 trivial (by kernel_rfl) true (fun _ _ _ _ _ => by kernel_rfl)
def P204_6102 (b_0 o_0 : Nat) (b_3 o_3 : Nat) (b_4 o_4 : Nat) (m : Mem) (kr : Bool → Mem → Prop) : Prop :=
 ldG 40 m b_0 (o_0 + 40) fun c41 => newK m ⟨40, Z40b, 192, false⟩ fun b43 m42 => stG 40 m42 b43 0 c41 fun m44 => ldG 5 m44 b_3 o_3 fun c45 => newK m44 ⟨5, splice (lget [(.flat (.int .i64 0)), (.flat (.int .i64 0)), (.flat (.int .i64 0)), (.flat (.int .i64 0)), (.flat (.int .u32 0))]) 0 5 c45, 224, false⟩ fun b47 m46 => F127 b43 0 (.sl b47 0 1 (.ex 1)) m46 fun x48 m49 => ldI .i64 m49 b_3 (o_3 + 1) fun x50 => ldI .i64 m49 b_3 (o_3 + 1) fun x51 => kif (decide (0 ≤ x51) && decide (x51 < 40)) (ldI .u32 m49 b43 (0 + (x51).toNat * 1) fun x52 => stG 5 m49 b_4 o_4 (upd (upd (upd (lget [(.flat (.int .i64 0)), (.flat (.int .i64 0)), (.flat (.int .i64 0)), (.flat (.int .i64 0)), (.flat (.int .u32 0))]) 0 (.flat (.int .i64 1))) 1 (.flat (.int .i64 x50))) 4 (.flat (.int .u32 x52))) fun m53 => kr true m53) False
def P204_3004 (b_0 o_0 : Nat) (b_3 o_3 : Nat) (b_4 o_4 : Nat) (v_6 : AV) (x_10 : Bool) (m : Mem) (kr : Bool → Mem → Prop) (kn : Mem → Prop) : Prop :=
 kif x_10 (∃ Fr13 : Nat → Prop, Fr13 b_3 ∧ (ldI .i64 m b_3 (o_3 + 1) fun x14 => Fr13 b_3 ∧ (ldI .i64 m b_3 (o_3 + 2) fun x15 => Fr13 b_3 ∧ (ldI .i64 m b_3 (o_3 + 3) fun x16 => kif (decide (0 ≤ x16) && decide (x16 < 40)) (Fr13 b_0 ∧ (ldI .u32 m b_0 (o_0 + 40 + (x16).toNat * 1) fun x17 => Fr13 b_3 ∧ (ldI .i64 m b_3 (o_3 + 0) fun x18 => stG 5 m b_4 o_4 (upd (upd (upd (lget [(.flat (.int .i64 0)), (.flat (.int .i64 0)), (.flat (.int .i64 0)), (.flat (.int .i64 0)), (.flat (.int .u32 0))]) 0 (.flat (.int .i64 2))) 1 (.flat (.int .i64 x14))) 2 (.flat (.int .i64 x15))) fun m19 => KeepsIn Fr13 m m19 ∧ (kr ((x17 == 0) == (x18 == 21)) m19)))) False)))) (ldG 5 m b_3 o_3 fun c20 => F201 c20 m fun x21 m22 => kif (!x21) (ldG 5 m22 b_3 o_3 fun c29 => stG 5 m22 b_4 o_4 c29 fun m30 => kr true m30) (klen v_6 fun x23 => kif (x23 != 1) (ldG 5 m22 b_3 o_3 fun c31 => stG 5 m22 b_4 o_4 c31 fun m32 => kr true m32) (ldG 5 m22 b_3 o_3 fun c24 => F202 c24 m22 fun v25 m26 => F223 b_0 o_0 v25 m26 fun x27 m28 => kif (!x27) (ldG 5 m28 b_3 o_3 fun c33 => stG 5 m28 b_4 o_4 c33 fun m34 => kr true m34) (kn  m28))))
def F204 (b_0 o_0 : Nat) (c_1 : Nat → AV) (m : Mem) (k : (Nat → AV) → Bool → Mem → Prop) : Prop :=
 newK m ⟨5, c_1, 224, false⟩ fun b2 m1 => newK m1 ⟨5, lget [(.flat (.int .i64 0)), (.flat (.int .i64 0)), (.flat (.int .i64 0)), (.flat (.int .i64 0)), (.flat (.int .u32 0))], 224, false⟩ fun b4 m3 => ldG 5 m3 b2 0 fun c5 => F198 c5 m3 fun v6 m7 => ldG 5 m7 b2 0 fun c8 => F201 c8 m7 fun x9 m10 => kif (!x9) (ldI .i64 m10 b2 3 fun x11 => kif (decide (0 ≤ x11) && decide (x11 < 40)) (ldB m10 b_0 (o_0 + 0 + (x11).toNat * 1) fun x12 => P204_3004 b_0 o_0 b2 0 b4 0 v6 x12 m10 (fun x35 m36 => ldG 5 m36 b4 0 fun c58 => k c58 x35 m36) (fun m37 => P204_6102 b_0 o_0 b2 0 b4 0 m37 (fun x54 m55 => ldG 5 m55 b4 0 fun c60 => k c60 x54 m55))) False) (P204_3004 b_0 o_0 b2 0 b4 0 v6 false m10 (fun x38 m39 => ldG 5 m39 b4 0 fun c59 => k c59 x38 m39) (fun m40 => P204_6102 b_0 o_0 b2 0 b4 0 m40 (fun x56 m57 => ldG 5 m57 b4 0 fun c61 => k c61 x56 m57)))
def G204 := Gs [.p, .g 5] [.g 5, .b] F204
def D204_3004 : PcD := ⟨[0, 3, 4, 6, 10], [.p, .p, .p, .a, .b], [⟨.ret, [5], [.b], [4]⟩, ⟨.normal, [], [], [0, 3, 4]⟩], P204_3004⟩
def D204_6102 : PcD := ⟨[0, 3, 4], [.p, .p, .p], [⟨.ret, [5], [.b], [4]⟩], P204_6102⟩
def Lam204 : LEnv := lamOf [] [3] [3004, 6102] [(3004, pcK D204_3004), (6102, pcK D204_6102)]
theorem pok204_6102 : PieceOK Tryz.prog E204 Lam204 (nthP Lam204 (bodyOf Tryz.f204) 0) := pc_ok D204_6102 (fun _ _ _ => by kernel_rfl) (by kernel_rfl) (fun _ _ _ _ _ _ _ _ => by kernel_rfl)
theorem pok204_3004 : PieceOK Tryz.prog E204 Lam204 (nthP Lam204 (bodyOf Tryz.f204) 1) := pc_ok D204_3004 (fun _ _ _ => by kernel_rfl) (by kernel_rfl) (fun _ _ _ _ _ _ _ _ _ _ => by kernel_rfl)
def E205 : Env := ext E204 204 G204
theorem S205 (w0 : World) : SP w0 E205 := sg (S204 w0) Tryz.func204 Tryz.call204 (Λ := Lam204) 0 trivial 2 ⟨pok204_6102, pok204_3004, trivial⟩ (by kernel_rfl) false (fun _ _ _ _ _ => by kernel_rfl)
def R205_5 (b_0 o_0 : Nat) (x_4 : Bool) (v_19 : AV) (x_20 : Int) (x_21 : Int) (m : Mem) (kn : Int → Mem → Prop) (k0 : Mem → Prop) : Prop :=
 kif (decide (x_21 < x_20)) (ksl v_19 fun b17 o18 l19 p20 => kif (decide (0 ≤ x_21) && decide (x_21 < l19)) (ldI .i64 m b17 (o18 + (x_21).toNat * 1) fun x21 => kif (decide (0 ≤ x21) && decide (x21 < 40)) (stC m b_0 (o_0 + 0 + (x21).toNat * 1) (.flat (.bool x_4)) fun m22 => kn (IntKind.wrap .i64 (x_21 + 1)) m22) False) False) (k0  m)
def L205_5 (b_0 o_0 : Nat) (x_4 : Bool) (v_19 : AV) (x_20 : Int) : Nat → Int → Mem → (Mem → Prop) → Prop
 | 0, _,  _, _ => bump False
 | N + 1, x_21,  m, k0 => R205_5 b_0 o_0 x_4 v_19 x_20 x_21 m (fun x_21' m' => L205_5 b_0 o_0 x_4 v_19 x_20 N x_21' m' k0) k0
def P205_4102 (b_0 o_0 : Nat) (b_3 o_3 : Nat) (x_4 : Bool) (m : Mem) (kn : Mem → Prop) : Prop :=
 ldG 5 m b_3 o_3 fun c13 => F198 c13 m fun v14 m15 => klen v14 fun x16 => ∃ N24, L205_5 b_0 o_0 x_4 v14 x16 N24 0 m15 (fun m23 => kn  m23)
def F205 (b_0 o_0 : Nat) (c_1 : Nat → AV) (m : Mem) (k : Mem → Prop) : Prop :=
 newK m ⟨5, c_1, 224, false⟩ fun b2 m1 => ldG 5 m1 b2 0 fun c3 => F202 c3 m1 fun v4 m5 => F223 b_0 o_0 v4 m5 fun x6 m7 => kif x6 (ldG 5 m7 b2 0 fun c8 => newK m7 ⟨5, splice (lget [(.flat (.int .i64 0)), (.flat (.int .i64 0)), (.flat (.int .i64 0)), (.flat (.int .i64 0)), (.flat (.int .u32 0))]) 0 5 c8, 224, false⟩ fun b10 m9 => F127 b_0 (o_0 + 40) (.sl b10 0 1 (.ex 1)) m9 fun x11 m12 => P205_4102 b_0 o_0 b2 0 x6 m12 (fun m25 => k  m25)) (P205_4102 b_0 o_0 b2 0 x6 m7 (fun m26 => k  m26))
def G205 := Gs [.p, .g 5] [] F205
def D205_4102 : PcD := ⟨[0, 3, 4], [.p, .p, .b], [⟨.normal, [], [], []⟩], P205_4102⟩
def D205_5 : LpD := ⟨[0, 4, 19, 20], [.p, .b, .a, .i .i64], [21], [.i .i64], [⟨.exit 0, [], [], []⟩], R205_5, L205_5⟩
def Lam205 : LEnv := lamOf [(5, lpK D205_5)] [] [4102] [(4102, pcK D205_4102)]
theorem lok205_5 : LoopOK Tryz.prog E205 Lam205 (nthL (bodyOf Tryz.f205) 0) := lp_ok D205_5 (fun _ _ _ => by kernel_rfl) (by kernel_rfl) (fun _ _ _ _ _ _ _ _ _ => by kernel_rfl) (fun _ _ _ _ _ _ _ _ _ _ => by kernel_rfl) (fun _ _ _ _ _ _ _ _ _ => by kernel_rfl)
theorem pok205_4102 : PieceOK Tryz.prog E205 Lam205 (nthP Lam205 (bodyOf Tryz.f205) 0) := pc_ok D205_4102 (fun _ _ _ => by kernel_rfl) (by kernel_rfl) (fun _ _ _ _ _ _ _ => by kernel_rfl)
def E163 : Env := ext E205 205 G205
theorem S163 (w0 : World) : SP w0 E163 := sg (S205 w0) Tryz.func205 Tryz.call205 (Λ := Lam205) 1 ⟨lok205_5, trivial⟩ 1 ⟨pok205_4102, trivial⟩ (by kernel_rfl) false (fun _ _ _ _ _ => by kernel_rfl)
def R163_7 (b_3 o_3 : Nat) (v_18 : AV) (x_19 : Int) (v_4 : AV) (x_20 : Int) (m : Mem) (kn : AV → Int → Mem → Prop) (k0 : AV → Mem → Prop) : Prop :=
 kif (decide (x_20 < x_19)) (ksl v_18 fun b7 o8 l9 p10 => kif (decide (0 ≤ x_20) && decide (x_20 < l9)) (ldG 5 m b7 (o8 + (x_20).toNat * 5) fun c11 => newK m ⟨5, lget [(.flat (.int .i64 0)), (.flat (.int .i64 0)), (.flat (.int .i64 0)), (.flat (.int .i64 0)), (.flat (.int .u32 0))], 224, false⟩ fun b13 m12 => stG 5 m12 b13 0 c11 fun m14 => ldG 5 m14 b13 0 fun c15 => F204 b_3 o_3 c15 m14 fun c16 x17 m18 => newK m18 ⟨5, lget [(.flat (.int .i64 0)), (.flat (.int .i64 0)), (.flat (.int .i64 0)), (.flat (.int .i64 0)), (.flat (.int .u32 0))], 224, false⟩ fun b20 m19 => stG 5 m19 b20 0 c16 fun m21 => kif x17 (ldG 5 m21 b20 0 fun c22 => newK m21 ⟨5, splice (lget [(.flat (.int .i64 0)), (.flat (.int .i64 0)), (.flat (.int .i64 0)), (.flat (.int .i64 0)), (.flat (.int .u32 0))]) 0 5 c22, 224, false⟩ fun b24 m23 => appS 5 40 224 v_4 (.sl b24 0 1 (.ex 1)) m23 fun v25 m26 => ldG 5 m26 b20 0 fun c27 => F205 b_3 o_3 c27 m26 fun m28 => kn v25 (IntKind.wrap .i64 (x_20 + 1)) m28) (kn v_4 (IntKind.wrap .i64 (x_20 + 1)) m21)) False) (k0 v_4 m)
def L163_7 (b_3 o_3 : Nat) (v_18 : AV) (x_19 : Int) : Nat → AV → Int → Mem → (AV → Mem → Prop) → Prop
 | 0, _, _,  _, _ => bump False
 | N + 1, v_4, x_20,  m, k0 => R163_7 b_3 o_3 v_18 x_19 v_4 x_20 m (fun v_4' x_20' m' => L163_7 b_3 o_3 v_18 x_19 N v_4' x_20' m' k0) k0
def F163 (v_0 : AV) (m : Mem) (k : AV → Mem → Prop) : Prop :=
 F197 v_0 m fun x1 m2 => kif (!x1) (k (.flat (.slice none 0 0)) m2) (newK m2 ⟨80, (Z80), 246, false⟩ fun b4 m3 => stC m3 b4 0 (.flat (.bool true)) fun m5 => klen v_0 fun x6 => ∃ N31, L163_7 b4 0 v_0 x6 N31 (.flat (.slice none 0 0)) 0 m5 (fun v29 m30 => k v29 m30))
def G163 := Gs [.a] [.a] F163
def D163_7 : LpD := ⟨[3, 18, 19], [.p, .a, .i .i64], [4, 20], [.a, .i .i64], [⟨.exit 0, [4], [.a], []⟩], R163_7, L163_7⟩
def Lam163 : LEnv := lamOf [(7, lpK D163_7)] [] [] []
theorem lok163_7 : LoopOK Tryz.prog E163 Lam163 (nthL (bodyOf Tryz.f163) 0) := lp_ok D163_7 (fun _ _ _ => by kernel_rfl) (by kernel_rfl) (fun _ _ _ _ _ _ _ _ _ => by kernel_rfl) (fun _ _ _ _ _ _ _ _ _ _ => by kernel_rfl) (fun _ _ _ _ _ _ _ _ _ => by kernel_rfl)
def E124 : Env := ext E163 163 G163
theorem S124 (w0 : World) : SP w0 E124 := sg (S163 w0) Tryz.func163 Tryz.call163 (Λ := Lam163) 1 ⟨lok163_7, trivial⟩ 0 trivial (by kernel_rfl) false (fun _ _ _ => by kernel_rfl)
def F124 (v_0 : AV) (m : Mem) (k : AV → Mem → Prop) : Prop :=
 F163 v_0 m fun v1 m2 => F162 v1 m2 fun v3 m4 => k v3 m4
def G124 := Gs [.a] [.a] F124
def E166 : Env := ext E124 124 G124
theorem S166 (w0 : World) : SP w0 E166 := sg0 (S124 w0) Tryz.func124 Tryz.call124 (by kernel_rfl) false (fun _ _ _ => by kernel_rfl)
def F166 (c_0 : Nat → AV) (m : Mem) (k : Int → Mem → Prop) : Prop :=
 newK m ⟨6, c_0, 32, false⟩ fun b2 m1 => ldI .i64 m1 b2 1 fun x3 => ldI .i64 m1 b2 2 fun x4 => ldI .i64 m1 b2 3 fun x5 => ldI .i64 m1 b2 4 fun x6 => ldI .u32 m1 b2 5 fun x7 => (Keeps m m1 ∧ k (bits .or .u32 (bits .or .u32 (bits .or .u32 (bits .or .u32 (IntKind.wrap .u32 ((IntKind.wrap .u32 x3) * 2097152)) (IntKind.wrap .u32 ((IntKind.wrap .u32 x4) * 65536))) (IntKind.wrap .u32 ((IntKind.wrap .u32 x5) * 2048))) (IntKind.wrap .u32 ((IntKind.wrap .u32 x6) * 64))) x7) m)
def G166 := Gs [.g 6] [.i .u32] F166
def E126 : Env := ext E166 166 G166
theorem S126 (w0 : World) : SP w0 E126 := sg0 (S166 w0) Tryz.func166 Tryz.call166 (by kernel_rfl) true (fun _ _ _ => by kernel_rfl)
def R126_2 (b_1 o_1 : Nat) (v_13 : AV) (x_14 : Int) (x_15 : Int) (m : Mem) (kn : Int → Mem → Prop) (k0 : Mem → Prop) (kr : Bool → Mem → Prop) : Prop :=
 kif (decide (x_15 < x_14)) (ksl v_13 fun b9 o10 l11 p12 => kif (decide (0 ≤ x_15) && decide (x_15 < l11)) (ldI .i64 m b9 (o10 + (x_15).toNat * 1) fun x13 => kif (decide (x13 < 0)) (kr false m) (kif (decide (x13 > 31)) (kr false m) (kn (IntKind.wrap .i64 (x_15 + 1)) m))) False) (k0  m)
def L126_2 (b_1 o_1 : Nat) (v_13 : AV) (x_14 : Int) : Nat → Int → Mem → (Mem → Prop) → (Bool → Mem → Prop) → Prop
 | 0, _,  _, _, _ => bump False
 | N + 1, x_15,  m, k0, kr => R126_2 b_1 o_1 v_13 x_14 x_15 m (fun x_15' m' => L126_2 b_1 o_1 v_13 x_14 N x_15' m' k0 kr) k0 kr
def F126 (c_0 : Nat → AV) (m : Mem) (k : Bool → Mem → Prop) : Prop :=
 newK m ⟨6, c_0, 32, false⟩ fun b2 m1 => ldI .i64 m1 b2 1 fun x3 => ldI .i64 m1 b2 2 fun x4 => ldI .i64 m1 b2 3 fun x5 => ldI .i64 m1 b2 4 fun x6 => newK m1 ⟨4, upd (upd (upd (upd (lget [(.flat (.int .i64 0)), (.flat (.int .i64 0)), (.flat (.int .i64 0)), (.flat (.int .i64 0))]) 0 (.flat (.int .i64 x3))) 1 (.flat (.int .i64 x4))) 2 (.flat (.int .i64 x5))) 3 (.flat (.int .i64 x6)), 3, false⟩ fun b8 m7 => ∃ N17, L126_2 b2 0 (.sl b8 0 4 (.ex 4)) 4 N17 0 m7 (fun m14 => ∃ Fr18 : Nat → Prop, Fr18 b2 ∧ (ldI .i64 m14 b2 0 fun x19 => kif (decide (x19 > 0)) (Fr18 b2 ∧ (ldI .i64 m14 b2 0 fun x20 => kif (decide (x20 < 78)) (Fr18 b2 ∧ (ldI .u32 m14 b2 5 fun x21 => kif (decide (x21 ≤ 67108863)) (Fr18 b2 ∧ (ldI .i64 m14 b2 0 fun x22 => Fr18 b2 ∧ (ldG 6 m14 b2 0 fun c23 => F166 c23 m14 fun x24 m25 => KeepsIn Fr18 m14 m25 ∧ (F122 x22 x24 m25 fun c26 m27 => KeepsIn Fr18 m25 m27 ∧ (Fr18 b2 ∧ (ldG 6 m27 b2 0 fun c28 => geq K32 c26 c28 fun x29 => (Keeps m m27 ∧ k x29 m))))))) ((Keeps m m14 ∧ k false m)))) ((Keeps m m14 ∧ k false m)))) ((Keeps m m14 ∧ k false m)))) (fun x15 m16 => (Keeps m m16 ∧ k x15 m))
def G126 := Gs [.g 6] [.b] F126
def D126_2 : LpD := ⟨[1, 13, 14], [.p, .a, .i .i64], [15], [.i .i64], [⟨.exit 0, [], [], [1]⟩, ⟨.ret, [2], [.b], []⟩], R126_2, L126_2⟩
def Lam126 : LEnv := lamOf [(2, lpK D126_2)] [7] [] []
theorem lok126_2 : LoopOK Tryz.prog E126 Lam126 (nthL (bodyOf Tryz.f126) 0) := lp_ok D126_2 (fun _ _ _ => by kernel_rfl) (by kernel_rfl) (fun _ _ _ _ _ _ _ _ => by kernel_rfl) (fun _ _ _ _ _ _ _ _ _ => by kernel_rfl) (fun _ _ _ _ _ _ _ _ => by kernel_rfl)
def E97 : Env := ext E126 126 G126
theorem S97 (w0 : World) : SP w0 E97 := sg (S126 w0) Tryz.func126 Tryz.call126 (Λ := Lam126) 1 ⟨lok126_2, trivial⟩ 0 trivial (by kernel_rfl) true (fun _ _ _ => by kernel_rfl)
def F97 (c_0 : Nat → AV) (m : Mem) (k : Bool → Mem → Prop) : Prop :=
 newK m ⟨6, c_0, 32, false⟩ fun b2 m1 => ldG 6 m1 b2 0 fun c3 => F126 c3 m1 fun x4 m5 => kif x4 (ldG 6 m5 b2 0 fun c6 => F94 c6 m5 fun x7 m8 => (Keeps m m8 ∧ k (x7 == 1) m)) ((Keeps m m5 ∧ k false m))
def G97 := Gs [.g 6] [.b] F97
def E190 : Env := ext E97 97 G97
theorem S190 (w0 : World) : SP w0 E190 := sg0 (S97 w0) Tryz.func97 Tryz.call97 (by kernel_rfl) true (fun _ _ _ => by kernel_rfl)
def F190 (x_0 : Int) (m : Mem) (k : Bool → Mem → Prop) : Prop :=
 kif (decide (x_0 ≥ 1)) (kif (decide (x_0 ≤ 6)) ((Keeps m m ∧ k true m)) (kif (decide (x_0 ≥ 22)) (kif (decide (x_0 ≤ 31)) ((Keeps m m ∧ k true m)) (kif (decide (x_0 ≥ 46)) (kif (decide (x_0 ≤ 53)) ((Keeps m m ∧ k true m)) (kif (decide (x_0 ≥ 63)) ((Keeps m m ∧ k (decide (x_0 ≤ 65)) m)) ((Keeps m m ∧ k false m)))) (kif (decide (x_0 ≥ 63)) ((Keeps m m ∧ k (decide (x_0 ≤ 65)) m)) ((Keeps m m ∧ k false m))))) (kif (decide (x_0 ≥ 46)) (kif (decide (x_0 ≤ 53)) ((Keeps m m ∧ k true m)) (kif (decide (x_0 ≥ 63)) ((Keeps m m ∧ k (decide (x_0 ≤ 65)) m)) ((Keeps m m ∧ k false m)))) (kif (decide (x_0 ≥ 63)) ((Keeps m m ∧ k (decide (x_0 ≤ 65)) m)) ((Keeps m m ∧ k false m)))))) (kif (decide (x_0 ≥ 22)) (kif (decide (x_0 ≤ 31)) ((Keeps m m ∧ k true m)) (kif (decide (x_0 ≥ 46)) (kif (decide (x_0 ≤ 53)) ((Keeps m m ∧ k true m)) (kif (decide (x_0 ≥ 63)) ((Keeps m m ∧ k (decide (x_0 ≤ 65)) m)) ((Keeps m m ∧ k false m)))) (kif (decide (x_0 ≥ 63)) ((Keeps m m ∧ k (decide (x_0 ≤ 65)) m)) ((Keeps m m ∧ k false m))))) (kif (decide (x_0 ≥ 46)) (kif (decide (x_0 ≤ 53)) ((Keeps m m ∧ k true m)) (kif (decide (x_0 ≥ 63)) ((Keeps m m ∧ k (decide (x_0 ≤ 65)) m)) ((Keeps m m ∧ k false m)))) (kif (decide (x_0 ≥ 63)) ((Keeps m m ∧ k (decide (x_0 ≤ 65)) m)) ((Keeps m m ∧ k false m)))))
def G190 := Gs [.i .i64] [.b] F190
def E151 : Env := ext E190 190 G190
theorem S151 (w0 : World) : SP w0 E151 := sg0 (S190 w0) Tryz.func190 Tryz.call190 (by kernel_rfl) true (fun _ _ _ => by kernel_rfl)
def F151 (c_0 : Nat → AV) (m : Mem) (k : Int → Mem → Prop) : Prop :=
 newK m ⟨6, c_0, 32, false⟩ fun b2 m1 => ldI .i64 m1 b2 0 fun x3 => F190 x3 m1 fun x4 m5 => kif (!x4) ((Keeps m m5 ∧ k 0 m)) (ldI .i64 m5 b2 0 fun x6 => kif (decide (x6 ≥ 46)) (ldI .i64 m5 b2 0 fun x7 => kif (decide (x7 ≤ 53)) (ldI .i64 m5 b2 2 fun x8 => (Keeps m m5 ∧ k x8 m)) (ldI .i64 m5 b2 3 fun x9 => (Keeps m m5 ∧ k x9 m))) (ldI .i64 m5 b2 3 fun x10 => (Keeps m m5 ∧ k x10 m)))
def G151 := Gs [.g 6] [.i .i64] F151
def E164 : Env := ext E151 151 G151
theorem S164 (w0 : World) : SP w0 E164 := sg0 (S151 w0) Tryz.func151 Tryz.call151 (by kernel_rfl) true (fun _ _ _ => by kernel_rfl)
def P164_32004 (x_3 : Int) (x_32 : Bool) (m : Mem) (kr : Int → Mem → Prop) (kn : Mem → Prop) : Prop :=
 kif x_32 (kr 13 m) (kif (x_3 == 63) (kr 14 m) (kif (x_3 == 64) (kr 15 m) (kif (x_3 == 65) (kr 16 m) (kif (x_3 == 18) (kr 17 m) (kif (x_3 == 19) (kr 18 m) (kif (x_3 == 20) (kr 19 m) (kif (x_3 == 21) (kr 20 m) (kif (x_3 == 9) (kr 21 m) (kif (x_3 == 10) (kr 22 m) (kn  m))))))))))
def P164_29004 (x_3 : Int) (x_29 : Bool) (m : Mem) (kr : Int → Mem → Prop) (kn : Mem → Prop) : Prop :=
 kif x_29 (kr 12 m) (kif (x_3 == 31) (P164_32004 x_3 (x_3 == 31) m (fun x1 m2 => kr x1 m2) (fun m3 => kn  m3)) (P164_32004 x_3 (x_3 == 49) m (fun x4 m5 => kr x4 m5) (fun m6 => kn  m6)))
def P164_24004 (x_3 : Int) (x_24 : Bool) (m : Mem) (kr : Int → Mem → Prop) (kn : Mem → Prop) : Prop :=
 kif x_24 (kr 7 m) (kif (x_3 == 29) (kr 8 m) (kif (x_3 == 30) (P164_29004 x_3 (x_3 == 30) m (fun x7 m8 => kr x7 m8) (fun m9 => kn  m9)) (P164_29004 x_3 (x_3 == 48) m (fun x10 m11 => kr x10 m11) (fun m12 => kn  m12))))
def P164_21004 (x_3 : Int) (x_21 : Bool) (m : Mem) (kr : Int → Mem → Prop) (kn : Mem → Prop) : Prop :=
 kif x_21 (kr 6 m) (kif (x_3 == 28) (P164_24004 x_3 (x_3 == 28) m (fun x13 m14 => kr x13 m14) (fun m15 => kn  m15)) (P164_24004 x_3 (x_3 == 52) m (fun x16 m17 => kr x16 m17) (fun m18 => kn  m18)))
def P164_18004 (x_3 : Int) (x_18 : Bool) (m : Mem) (kr : Int → Mem → Prop) (kn : Mem → Prop) : Prop :=
 kif x_18 (kr 5 m) (kif (x_3 == 27) (P164_21004 x_3 (x_3 == 27) m (fun x19 m20 => kr x19 m20) (fun m21 => kn  m21)) (P164_21004 x_3 (x_3 == 51) m (fun x22 m23 => kr x22 m23) (fun m24 => kn  m24)))
def P164_13004 (x_3 : Int) (x_13 : Bool) (m : Mem) (kr : Int → Mem → Prop) (kn : Mem → Prop) : Prop :=
 kif x_13 (kr 3 m) (kif (x_3 == 25) (kr 4 m) (kif (x_3 == 26) (P164_18004 x_3 (x_3 == 26) m (fun x25 m26 => kr x25 m26) (fun m27 => kn  m27)) (P164_18004 x_3 (x_3 == 50) m (fun x28 m29 => kr x28 m29) (fun m30 => kn  m30))))
def P164_10004 (x_3 : Int) (x_10 : Bool) (m : Mem) (kr : Int → Mem → Prop) (kn : Mem → Prop) : Prop :=
 kif x_10 (kr 11 m) (kif (x_3 == 23) (P164_13004 x_3 (x_3 == 23) m (fun x31 m32 => kr x31 m32) (fun m33 => kn  m33)) (P164_13004 x_3 (x_3 == 47) m (fun x34 m35 => kr x34 m35) (fun m36 => kn  m36)))
def P164_7004 (x_3 : Int) (x_7 : Bool) (m : Mem) (kr : Int → Mem → Prop) (kn : Mem → Prop) : Prop :=
 kif x_7 (kr 10 m) (kif (x_3 == 3) (P164_10004 x_3 (x_3 == 3) m (fun x37 m38 => kr x37 m38) (fun m39 => kn  m39)) (P164_10004 x_3 (x_3 == 6) m (fun x40 m41 => kr x40 m41) (fun m42 => kn  m42)))
def P164_4004 (x_3 : Int) (x_4 : Bool) (m : Mem) (kr : Int → Mem → Prop) (kn : Mem → Prop) : Prop :=
 kif x_4 (kr 9 m) (kif (x_3 == 2) (P164_7004 x_3 (x_3 == 2) m (fun x43 m44 => kr x43 m44) (fun m45 => kn  m45)) (P164_7004 x_3 (x_3 == 5) m (fun x46 m47 => kr x46 m47) (fun m48 => kn  m48)))
def F164 (x_0 : Int) (m : Mem) (k : Int → Mem → Prop) : Prop :=
 kif (x_0 == 1) (P164_4004 x_0 (x_0 == 1) m (fun x49 m50 => (Keeps m m50 ∧ k x49 m)) (fun m51 => (Keeps m m51 ∧ k 0 m))) (P164_4004 x_0 (x_0 == 4) m (fun x52 m53 => (Keeps m m53 ∧ k x52 m)) (fun m54 => (Keeps m m54 ∧ k 0 m)))
def G164 := Gs [.i .i64] [.i .i64] F164
def D164_4004 : PcD := ⟨[3, 4], [.i .i64, .b], [⟨.ret, [2], [.i .i64], []⟩, ⟨.normal, [], [], []⟩], P164_4004⟩
def D164_7004 : PcD := ⟨[3, 7], [.i .i64, .b], [⟨.ret, [2], [.i .i64], []⟩, ⟨.normal, [], [], []⟩], P164_7004⟩
def D164_10004 : PcD := ⟨[3, 10], [.i .i64, .b], [⟨.ret, [2], [.i .i64], []⟩, ⟨.normal, [], [], []⟩], P164_10004⟩
def D164_13004 : PcD := ⟨[3, 13], [.i .i64, .b], [⟨.ret, [2], [.i .i64], []⟩, ⟨.normal, [], [], []⟩], P164_13004⟩
def D164_18004 : PcD := ⟨[3, 18], [.i .i64, .b], [⟨.ret, [2], [.i .i64], []⟩, ⟨.normal, [], [], []⟩], P164_18004⟩
def D164_21004 : PcD := ⟨[3, 21], [.i .i64, .b], [⟨.ret, [2], [.i .i64], []⟩, ⟨.normal, [], [], []⟩], P164_21004⟩
def D164_24004 : PcD := ⟨[3, 24], [.i .i64, .b], [⟨.ret, [2], [.i .i64], []⟩, ⟨.normal, [], [], []⟩], P164_24004⟩
def D164_29004 : PcD := ⟨[3, 29], [.i .i64, .b], [⟨.ret, [2], [.i .i64], []⟩, ⟨.normal, [], [], []⟩], P164_29004⟩
def D164_32004 : PcD := ⟨[3, 32], [.i .i64, .b], [⟨.ret, [2], [.i .i64], []⟩, ⟨.normal, [], [], []⟩], P164_32004⟩
def Lam164 : LEnv := lamOf [] [] [4004, 7004, 10004, 13004, 18004, 21004, 24004, 29004, 32004] [(4004, pcK D164_4004), (7004, pcK D164_7004), (10004, pcK D164_10004), (13004, pcK D164_13004), (18004, pcK D164_18004), (21004, pcK D164_21004), (24004, pcK D164_24004), (29004, pcK D164_29004), (32004, pcK D164_32004)]
theorem pok164_32004 : PieceOK Tryz.prog E164 Lam164 (nthP Lam164 (bodyOf Tryz.f164) 8) := pc_ok D164_32004 (fun _ _ _ => by kernel_rfl) (by kernel_rfl) (fun _ _ _ _ => by kernel_rfl)
theorem pok164_29004 : PieceOK Tryz.prog E164 Lam164 (nthP Lam164 (bodyOf Tryz.f164) 7) := pc_ok D164_29004 (fun _ _ _ => by kernel_rfl) (by kernel_rfl) (fun _ _ _ _ => by kernel_rfl)
theorem pok164_24004 : PieceOK Tryz.prog E164 Lam164 (nthP Lam164 (bodyOf Tryz.f164) 6) := pc_ok D164_24004 (fun _ _ _ => by kernel_rfl) (by kernel_rfl) (fun _ _ _ _ => by kernel_rfl)
theorem pok164_21004 : PieceOK Tryz.prog E164 Lam164 (nthP Lam164 (bodyOf Tryz.f164) 5) := pc_ok D164_21004 (fun _ _ _ => by kernel_rfl) (by kernel_rfl) (fun _ _ _ _ => by kernel_rfl)
theorem pok164_18004 : PieceOK Tryz.prog E164 Lam164 (nthP Lam164 (bodyOf Tryz.f164) 4) := pc_ok D164_18004 (fun _ _ _ => by kernel_rfl) (by kernel_rfl) (fun _ _ _ _ => by kernel_rfl)
theorem pok164_13004 : PieceOK Tryz.prog E164 Lam164 (nthP Lam164 (bodyOf Tryz.f164) 3) := pc_ok D164_13004 (fun _ _ _ => by kernel_rfl) (by kernel_rfl) (fun _ _ _ _ => by kernel_rfl)
theorem pok164_10004 : PieceOK Tryz.prog E164 Lam164 (nthP Lam164 (bodyOf Tryz.f164) 2) := pc_ok D164_10004 (fun _ _ _ => by kernel_rfl) (by kernel_rfl) (fun _ _ _ _ => by kernel_rfl)
theorem pok164_7004 : PieceOK Tryz.prog E164 Lam164 (nthP Lam164 (bodyOf Tryz.f164) 1) := pc_ok D164_7004 (fun _ _ _ => by kernel_rfl) (by kernel_rfl) (fun _ _ _ _ => by kernel_rfl)
theorem pok164_4004 : PieceOK Tryz.prog E164 Lam164 (nthP Lam164 (bodyOf Tryz.f164) 0) := pc_ok D164_4004 (fun _ _ _ => by kernel_rfl) (by kernel_rfl) (fun _ _ _ _ => by kernel_rfl)
def E140 : Env := ext E164 164 G164
theorem S140 (w0 : World) : SP w0 E140 := sg (S164 w0) Tryz.func164 Tryz.call164 (Λ := Lam164) 0 trivial 9 ⟨pok164_4004, pok164_7004, pok164_10004, pok164_13004, pok164_18004, pok164_21004, pok164_24004, pok164_29004, pok164_32004, trivial⟩ (by kernel_rfl) true (fun _ _ _ => by kernel_rfl)
def F140 (x_0 : Int) (x_1 : Int) (m : Mem) (k : Int → Mem → Prop) : Prop :=
 kif (decide (x_1 < 1)) ((Keeps m m ∧ k 0 m)) (kif (decide (x_1 > 31)) ((Keeps m m ∧ k x_0 m)) (kif (decide (IntKind.wrap .i64 (32 - x_1) < 0)) False (F187 (IntKind.wrap .u32 (x_0 * 2 ^ min (IntKind.wrap .i64 (32 - x_1)).toNat 32)) (IntKind.wrap .i64 (32 - x_1)) m fun x1 m2 => (Keeps m m2 ∧ k x1 m))))
def G140 := Gs [.i .u32, .i .i64] [.i .u32] F140
def E165 : Env := ext E140 140 G140
theorem S165 (w0 : World) : SP w0 E165 := sg0 (S140 w0) Tryz.func140 Tryz.call140 (by kernel_rfl) true (fun _ _ _ _ => by kernel_rfl)
def F165 (c_0 : Nat → AV) (m : Mem) (k : Int → Mem → Prop) : Prop :=
 newK m ⟨6, c_0, 32, false⟩ fun b2 m1 => ldI .i64 m1 b2 0 fun x3 => kif (x3 == 50) (ldI .u32 m1 b2 5 fun x6 => (Keeps m m1 ∧ k x6 m)) (ldI .i64 m1 b2 0 fun x4 => kif (x4 == 51) (ldI .u32 m1 b2 5 fun x7 => (Keeps m m1 ∧ k x7 m)) (ldI .i64 m1 b2 0 fun x5 => kif (x5 == 52) (ldI .u32 m1 b2 5 fun x8 => (Keeps m m1 ∧ k x8 m)) (ldI .u32 m1 b2 5 fun x9 => F140 x9 16 m1 fun x10 m11 => (Keeps m m11 ∧ k x10 m))))
def G165 := Gs [.g 6] [.i .u32] F165
def E125 : Env := ext E165 165 G165
theorem S125 (w0 : World) : SP w0 E125 := sg0 (S165 w0) Tryz.func165 Tryz.call165 (by kernel_rfl) true (fun _ _ _ => by kernel_rfl)
def P125_20102 (b_1 o_1 : Nat) (x_3 : Int) (m : Mem) (kr : AV → Mem → Prop) : Prop :=
 ∃ Fr75 : Nat → Prop, F164 x_3 m fun x76 m77 => KeepsIn Fr75 m m77 ∧ (Fr75 b_1 ∧ (ldI .i64 m77 b_1 (o_1 + 3) fun x78 => Fr75 b_1 ∧ (ldI .i64 m77 b_1 (o_1 + 1) fun x79 => Fr75 b_1 ∧ (ldI .i64 m77 b_1 (o_1 + 2) fun x80 => newK m77 ⟨5, splice (lget [(.flat (.int .i64 0)), (.flat (.int .i64 0)), (.flat (.int .i64 0)), (.flat (.int .i64 0)), (.flat (.int .u32 0))]) 0 5 (upd (upd (upd (upd (lget [(.flat (.int .i64 0)), (.flat (.int .i64 0)), (.flat (.int .i64 0)), (.flat (.int .i64 0)), (.flat (.int .u32 0))]) 0 (.flat (.int .i64 x76))) 1 (.flat (.int .i64 x78))) 2 (.flat (.int .i64 x79))) 3 (.flat (.int .i64 x80))), 224, false⟩ fun b82 m81 => kr (.sl b82 0 1 (.ex 1)) m81))))
def P125_19004 (b_1 o_1 : Nat) (x_3 : Int) (x_88 : Bool) (m : Mem) (kr : AV → Mem → Prop) (kn : Mem → Prop) : Prop :=
 kif x_88 (∃ Fr44 : Nat → Prop, Fr44 b_1 ∧ (ldG 6 m b_1 o_1 fun c45 => F165 c45 m fun x46 m47 => KeepsIn Fr44 m m47 ∧ (F164 x_3 m47 fun x48 m49 => KeepsIn Fr44 m47 m49 ∧ (Fr44 b_1 ∧ (ldI .i64 m49 b_1 (o_1 + 2) fun x50 => Fr44 b_1 ∧ (ldI .i64 m49 b_1 (o_1 + 1) fun x51 => newK m49 ⟨10, splice (splice (Z10) 0 5 (upd (upd (upd (lget [(.flat (.int .i64 0)), (.flat (.int .i64 0)), (.flat (.int .i64 0)), (.flat (.int .i64 0)), (.flat (.int .u32 0))]) 0 (.flat (.int .i64 1))) 1 (.flat (.int .i64 34))) 4 (.flat (.int .u32 x46)))) 5 5 (upd (upd (upd (upd (lget [(.flat (.int .i64 0)), (.flat (.int .i64 0)), (.flat (.int .i64 0)), (.flat (.int .i64 0)), (.flat (.int .u32 0))]) 0 (.flat (.int .i64 x48))) 1 (.flat (.int .i64 x50))) 2 (.flat (.int .i64 x51))) 3 (.flat (.int .i64 34))), 224, false⟩ fun b53 m52 => kr (.sl b53 0 2 (.ex 2)) m52)))))) (kn  m)
def P125_3004 (b_1 o_1 : Nat) (x_3 : Int) (x_6 : Bool) (m : Mem) (kr : AV → Mem → Prop) (kn : Mem → Prop) : Prop :=
 kif x_6 (kr (.flat (.slice none 0 0)) m) (kif (x_3 == 53) (ldI .i64 m b_1 (o_1 + 2) fun x7 => ldI .u32 m b_1 (o_1 + 5) fun x8 => newK m ⟨5, splice (lget [(.flat (.int .i64 0)), (.flat (.int .i64 0)), (.flat (.int .i64 0)), (.flat (.int .i64 0)), (.flat (.int .u32 0))]) 0 5 (upd (upd (upd (lget [(.flat (.int .i64 0)), (.flat (.int .i64 0)), (.flat (.int .i64 0)), (.flat (.int .i64 0)), (.flat (.int .u32 0))]) 0 (.flat (.int .i64 1))) 1 (.flat (.int .i64 x7))) 4 (.flat (.int .u32 (IntKind.wrap .u32 (x8 * 65536))))), 224, false⟩ fun b10 m9 => kr (.sl b10 0 1 (.ex 1)) m9) (kif (x_3 == 14) (ldI .i64 m b_1 (o_1 + 3) fun x11 => newK m ⟨5, splice (lget [(.flat (.int .i64 0)), (.flat (.int .i64 0)), (.flat (.int .i64 0)), (.flat (.int .i64 0)), (.flat (.int .u32 0))]) 0 5 (upd (upd (upd (lget [(.flat (.int .i64 0)), (.flat (.int .i64 0)), (.flat (.int .i64 0)), (.flat (.int .i64 0)), (.flat (.int .u32 0))]) 0 (.flat (.int .i64 2))) 1 (.flat (.int .i64 x11))) 2 (.flat (.int .i64 32))), 224, false⟩ fun b13 m12 => kr (.sl b13 0 1 (.ex 1)) m12) (kif (x_3 == 16) (ldI .i64 m b_1 (o_1 + 3) fun x14 => newK m ⟨5, splice (lget [(.flat (.int .i64 0)), (.flat (.int .i64 0)), (.flat (.int .i64 0)), (.flat (.int .i64 0)), (.flat (.int .u32 0))]) 0 5 (upd (upd (upd (lget [(.flat (.int .i64 0)), (.flat (.int .i64 0)), (.flat (.int .i64 0)), (.flat (.int .i64 0)), (.flat (.int .u32 0))]) 0 (.flat (.int .i64 2))) 1 (.flat (.int .i64 x14))) 2 (.flat (.int .i64 33))), 224, false⟩ fun b16 m15 => kr (.sl b16 0 1 (.ex 1)) m15) (kif (x_3 == 15) (ldI .i64 m b_1 (o_1 + 1) fun x17 => newK m ⟨5, splice (lget [(.flat (.int .i64 0)), (.flat (.int .i64 0)), (.flat (.int .i64 0)), (.flat (.int .i64 0)), (.flat (.int .u32 0))]) 0 5 (upd (upd (upd (lget [(.flat (.int .i64 0)), (.flat (.int .i64 0)), (.flat (.int .i64 0)), (.flat (.int .i64 0)), (.flat (.int .u32 0))]) 0 (.flat (.int .i64 2))) 1 (.flat (.int .i64 32))) 2 (.flat (.int .i64 x17))), 224, false⟩ fun b19 m18 => kr (.sl b19 0 1 (.ex 1)) m18) (kif (x_3 == 17) (ldI .i64 m b_1 (o_1 + 1) fun x20 => newK m ⟨5, splice (lget [(.flat (.int .i64 0)), (.flat (.int .i64 0)), (.flat (.int .i64 0)), (.flat (.int .i64 0)), (.flat (.int .u32 0))]) 0 5 (upd (upd (upd (lget [(.flat (.int .i64 0)), (.flat (.int .i64 0)), (.flat (.int .i64 0)), (.flat (.int .i64 0)), (.flat (.int .u32 0))]) 0 (.flat (.int .i64 2))) 1 (.flat (.int .i64 33))) 2 (.flat (.int .i64 x20))), 224, false⟩ fun b22 m21 => kr (.sl b22 0 1 (.ex 1)) m21) (kif (decide (x_3 ≤ 3)) (∃ Fr23 : Nat → Prop, Fr23 b_1 ∧ (ldI .i64 m b_1 (o_1 + 4) fun x24 => F164 x_3 m fun x25 m26 => KeepsIn Fr23 m m26 ∧ (Fr23 b_1 ∧ (ldI .i64 m26 b_1 (o_1 + 3) fun x27 => Fr23 b_1 ∧ (ldI .i64 m26 b_1 (o_1 + 2) fun x28 => newK m26 ⟨10, splice (splice (Z10) 0 5 (upd (upd (upd (lget [(.flat (.int .i64 0)), (.flat (.int .i64 0)), (.flat (.int .i64 0)), (.flat (.int .i64 0)), (.flat (.int .u32 0))]) 0 (.flat (.int .i64 1))) 1 (.flat (.int .i64 34))) 4 (.flat (.int .u32 (IntKind.wrap .u32 x24))))) 5 5 (upd (upd (upd (upd (lget [(.flat (.int .i64 0)), (.flat (.int .i64 0)), (.flat (.int .i64 0)), (.flat (.int .i64 0)), (.flat (.int .u32 0))]) 0 (.flat (.int .i64 x25))) 1 (.flat (.int .i64 x27))) 2 (.flat (.int .i64 x28))) 3 (.flat (.int .i64 34))), 224, false⟩ fun b30 m29 => kr (.sl b30 0 2 (.ex 2)) m29))))) (kif (decide (x_3 ≤ 6)) (∃ Fr31 : Nat → Prop, F164 x_3 m fun x32 m33 => KeepsIn Fr31 m m33 ∧ (Fr31 b_1 ∧ (ldI .i64 m33 b_1 (o_1 + 3) fun x34 => Fr31 b_1 ∧ (ldI .i64 m33 b_1 (o_1 + 2) fun x35 => Fr31 b_1 ∧ (ldI .i64 m33 b_1 (o_1 + 1) fun x36 => newK m33 ⟨5, splice (lget [(.flat (.int .i64 0)), (.flat (.int .i64 0)), (.flat (.int .i64 0)), (.flat (.int .i64 0)), (.flat (.int .u32 0))]) 0 5 (upd (upd (upd (upd (lget [(.flat (.int .i64 0)), (.flat (.int .i64 0)), (.flat (.int .i64 0)), (.flat (.int .i64 0)), (.flat (.int .u32 0))]) 0 (.flat (.int .i64 x32))) 1 (.flat (.int .i64 x34))) 2 (.flat (.int .i64 x35))) 3 (.flat (.int .i64 x36))), 224, false⟩ fun b38 m37 => kr (.sl b38 0 1 (.ex 1)) m37))))) (∃ Fr39 : Nat → Prop, Fr39 b_1 ∧ (ldG 6 m b_1 o_1 fun c40 => F151 c40 m fun x41 m42 => KeepsIn Fr39 m m42 ∧ (Fr39 b_1 ∧ (ldI .i64 m42 b_1 (o_1 + 2) fun x43 => kif (x41 == x43) (kif (decide (x_3 ≥ 46)) (P125_19004 b_1 o_1 x_3 (decide (x_3 ≤ 52)) m42 (fun v54 m55 => kr v54 m55) (fun m56 => kn  m56)) (P125_19004 b_1 o_1 x_3 false m42 (fun v57 m58 => kr v57 m58) (fun m59 => kn  m59))) (P125_19004 b_1 o_1 x_3 false m42 (fun v60 m61 => kr v60 m61) (fun m62 => kn  m62)))))))))))))
def F125 (c_0 : Nat → AV) (m : Mem) (k : AV → Mem → Prop) : Prop :=
 newK m ⟨6, c_0, 32, false⟩ fun b2 m1 => ldI .i64 m1 b2 0 fun x3 => ldG 6 m1 b2 0 fun c4 => F97 c4 m1 fun x5 m6 => kif (!x5) (P125_3004 b2 0 x3 true m6 (fun v63 m64 => k v63 m64) (fun m65 => P125_20102 b2 0 x3 m65 (fun v83 m84 => k v83 m84))) (kif (x3 == 13) (P125_3004 b2 0 x3 true m6 (fun v66 m67 => k v66 m67) (fun m68 => P125_20102 b2 0 x3 m68 (fun v85 m86 => k v85 m86))) (kif (x3 == 76) (P125_3004 b2 0 x3 true m6 (fun v69 m70 => k v69 m70) (fun m71 => P125_20102 b2 0 x3 m71 (fun v87 m88 => k v87 m88))) (P125_3004 b2 0 x3 (x3 == 77) m6 (fun v72 m73 => k v72 m73) (fun m74 => P125_20102 b2 0 x3 m74 (fun v89 m90 => k v89 m90)))))
def G125 := Gs [.g 6] [.a] F125
def D125_3004 : PcD := ⟨[1, 3, 6], [.p, .i .i64, .b], [⟨.ret, [2], [.a], []⟩, ⟨.normal, [], [], [1, 3]⟩], P125_3004⟩
def D125_19004 : PcD := ⟨[1, 3, 88], [.p, .i .i64, .b], [⟨.ret, [2], [.a], []⟩, ⟨.normal, [], [], [1, 3]⟩], P125_19004⟩
def D125_20102 : PcD := ⟨[1, 3], [.p, .i .i64], [⟨.ret, [2], [.a], []⟩], P125_20102⟩
def Lam125 : LEnv := lamOf [] [15, 17, 18, 19, 20] [3004, 19004, 20102] [(3004, pcK D125_3004), (19004, pcK D125_19004), (20102, pcK D125_20102)]
theorem pok125_20102 : PieceOK Tryz.prog E125 Lam125 (nthP Lam125 (bodyOf Tryz.f125) 0) := pc_ok D125_20102 (fun _ _ _ => by kernel_rfl) (by kernel_rfl) (fun _ _ _ _ _ => by kernel_rfl)
theorem pok125_19004 : PieceOK Tryz.prog E125 Lam125 (nthP Lam125 (bodyOf Tryz.f125) 2) := pc_ok D125_19004 (fun _ _ _ => by kernel_rfl) (by kernel_rfl) (fun _ _ _ _ _ _ => by kernel_rfl)
theorem pok125_3004 : PieceOK Tryz.prog E125 Lam125 (nthP Lam125 (bodyOf Tryz.f125) 1) := pc_ok D125_3004 (fun _ _ _ => by kernel_rfl) (by kernel_rfl) (fun _ _ _ _ _ _ => by kernel_rfl)
def E95 : Env := ext E125 125 G125
theorem S95 (w0 : World) : SP w0 E95 := sg (S125 w0) Tryz.func125 Tryz.call125 (Λ := Lam125) 0 trivial 3 ⟨pok125_20102, pok125_3004, pok125_19004, trivial⟩ (by kernel_rfl) false (fun _ _ _ => by kernel_rfl)
def F95 (b_0 o_0 : Nat) (x_1 : Int) (c_2 : Nat → AV) (m : Mem) (k : Mem → Prop) : Prop :=
 newK m ⟨6, c_2, 32, false⟩ fun b2 m1 => ∃ Fr3 : Nat → Prop, Fr3 b_0 ∧ (ldA m1 b_0 (o_0 + 1) fun v4 => newK m1 ⟨1, upd (lget [(.flat (.int .u32 0))]) 0 (.flat (.int .u32 x_1)), 22, false⟩ fun b6 m5 => appS 1 4 22 v4 (.sl b6 0 1 (.ex 1)) m5 fun v7 m8 => KeepsIn Fr3 m5 m8 ∧ (Fr3 b_0 ∧ (ldA m8 b_0 (o_0 + 2) fun v9 => Fr3 b2 ∧ (ldG 6 m8 b2 0 fun c10 => newK m8 ⟨6, splice (Z6) 0 6 c10, 32, false⟩ fun b12 m11 => appS 6 48 32 v9 (.sl b12 0 1 (.ex 1)) m11 fun v13 m14 => KeepsIn Fr3 m11 m14 ∧ (stV m14 b_0 (o_0 + 1) v7 fun m15 => stV m15 b_0 (o_0 + 2) v13 fun m16 => ∃ Fr17 : Nat → Prop, Fr17 b_0 ∧ (ldA m16 b_0 (o_0 + 3) fun v18 => Fr17 b2 ∧ (ldG 6 m16 b2 0 fun c19 => F125 c19 m16 fun v20 m21 => KeepsIn Fr17 m16 m21 ∧ (F124 v20 m21 fun v22 m23 => KeepsIn Fr17 m21 m23 ∧ (kif (AV.one v22) (newK m23 ⟨1, upd (lget [(.flat (.slice none 0 0))]) 0 v22, 132, false⟩ fun b25 m24 => appS 1 24 132 v18 (.sl b25 0 1 (.ex 1)) m24 fun v26 m27 => KeepsIn Fr17 m24 m27 ∧ (stV m27 b_0 (o_0 + 3) v26 fun m28 => k  m28)) False)))))))))
def G95 := Gs [.p, .i .u32, .g 6] [] F95
def Lam95 : LEnv := lamOf [] [1, 2] [] []
end Go.Proofs.YtkiggdgphbkneaaGreat.Am
