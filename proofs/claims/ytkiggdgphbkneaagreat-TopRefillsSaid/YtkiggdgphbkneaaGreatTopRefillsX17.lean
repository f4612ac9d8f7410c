/- What Go functions ask of what follows them, as plain functions over the abstract machine; the machine asks just that. Written by gen.py. What Go functions ask of what follows them, as plain functions over the abstract machine; the machine asks just that. Writt -/
import Derived.Test.YtkiggdgphbkneaaGreatTopRefillsX16
namespace Go.Proofs.YtkiggdgphbkneaaGreat.Am
set_option linter.unusedVariables false
set_option linter.unusedSimpArgs false
set_option linter.constructorNameAsVariable false
set_option maxRecDepth 100000
def E107 : Env := ext E144 144 G144
theorem S107 (w0 : World) : SP w0 E107 := sg0 (S144 w0) Tryz.func144 Tryz.call144 (by kernel_rfl) true (fun _ _ _ _ _ _ => by kernel_rfl)
def P107_16103 (b_0 o_0 : Nat) (b_5 o_5 : Nat) (x_9 : Int) (x_10 : Int) (m : Mem) (kr : Int → Bool → Mem → Prop) : Prop :=
 ldI .i64 m b_5 (o_5 + 0) fun x39 => kif (x39 == 75) (stC m b_0 (o_0 + 37) (.flat (.bool false)) fun m42 => kr (-1) false m42) (F144 b_0 o_0 x_10 x_9 m fun x40 m41 => kif x40 (stC m41 b_0 (o_0 + 37) (.flat (.bool false)) fun m43 => kr (-1) false m43) (kr (-1) false m41))
def P107_12103 (b_0 o_0 : Nat) (b_1 o_1 : Nat) (b_5 o_5 : Nat) (x_9 : Int) (x_10 : Int) (m : Mem) (kr : Int → Bool → Mem → Prop) : Prop :=
 ldI .i64 m b_5 (o_5 + 2) fun x31 => kif (decide (0 ≤ x31) && decide (x31 < 32)) (ldI .u32 m b_0 (o_0 + 0 + (x31).toNat * 1) fun x32 => ldI .i64 m b_0 (o_0 + 72) fun x33 => F143 b_1 o_1 x_10 x_9 x32 x33 m fun x34 m35 => kif (!x34) (kr 7 false m35) (ldI .i64 m35 b_5 (o_5 + 0) fun x36 => kif (x36 == 75) (ldI .i64 m35 b_5 (o_5 + 2) fun x37 => F142 b_0 o_0 x37 1 m35 fun m38 => P107_16103 b_0 o_0 b_5 o_5 x_9 x_10 m38 (fun x44 x45 m46 => kr x44 x45 m46)) (P107_16103 b_0 o_0 b_5 o_5 x_9 x_10 m35 (fun x47 x48 m49 => kr x47 x48 m49)))) False
def P107_9004 (b_0 o_0 : Nat) (b_1 o_1 : Nat) (b_5 o_5 : Nat) (x_9 : Int) (x_10 : Int) (x_62 : Bool) (m : Mem) (kr : Int → Bool → Mem → Prop) (kn : Mem → Prop) : Prop :=
 kif x_62 (ldI .i64 m b_5 (o_5 + 2) fun x20 => F142 b_0 o_0 x20 0 m fun m21 => stC m21 b_0 (o_0 + 37) (.flat (.bool false)) fun m22 => kr (-1) false m22) (kn  m)
def P107_8103 (b_0 o_0 : Nat) (b_1 o_1 : Nat) (b_5 o_5 : Nat) (x_9 : Int) (x_10 : Int) (x_13 : Bool) (m : Mem) (kr : Int → Bool → Mem → Prop) : Prop :=
 ldI .i64 m b_5 (o_5 + 0) fun x19 => kif (x19 == 75) (P107_9004 b_0 o_0 b_1 o_1 b_5 o_5 x_9 x_10 (!x_13) m (fun x23 x24 m25 => kr x23 x24 m25) (fun m26 => P107_12103 b_0 o_0 b_1 o_1 b_5 o_5 x_9 x_10 m26 (fun x50 x51 m52 => kr x50 x51 m52))) (P107_9004 b_0 o_0 b_1 o_1 b_5 o_5 x_9 x_10 false m (fun x27 x28 m29 => kr x27 x28 m29) (fun m30 => P107_12103 b_0 o_0 b_1 o_1 b_5 o_5 x_9 x_10 m30 (fun x53 x54 m55 => kr x53 x54 m55)))
def F107 (b_0 o_0 : Nat) (b_1 o_1 : Nat) (c_2 : Nat → AV) (m : Mem) (k : Int → Bool → Mem → Prop) : Prop :=
 newK m ⟨6, c_2, 32, false⟩ fun b2 m1 => ∃ Fr3 : Nat → Prop, Fr3 b2 ∧ (ldI .i64 m1 b2 1 fun x4 => kif (decide (0 ≤ x4) && decide (x4 < 32)) (Fr3 b_0 ∧ (ldI .u32 m1 b_0 (o_0 + 0 + (x4).toNat * 1) fun x5 => Fr3 b2 ∧ (ldI .u32 m1 b2 5 fun x6 => F140 x6 16 m1 fun x7 m8 => KeepsIn Fr3 m1 m8 ∧ (ldI .i64 m8 b2 0 fun x9 => F141 x9 m8 fun x10 m11 => F62 b_0 o_0 (IntKind.wrap .u32 (x5 + x7)) x10 true m11 fun x12 x13 x14 m15 => kif (x13 != (-1)) (F103 b_0 o_0 (IntKind.wrap .u32 (x5 + x7)) x13 m15 fun m16 => k x13 x14 m16) (ldB m15 b_0 (o_0 + 37) fun x17 => kif x17 (ldI .u32 m15 b_0 (o_0 + 38) fun x18 => P107_8103 b_0 o_0 b_1 o_1 b2 0 x10 x12 (x18 == x12) m15 (fun x56 x57 m58 => k x56 x57 m58)) (P107_8103 b_0 o_0 b_1 o_1 b2 0 x10 x12 false m15 (fun x59 x60 m61 => k x59 x60 m61))))))) False)
def G107 := Gs [.p, .p, .g 6] [.i .i64, .b] F107
def D107_8103 : PcD := ⟨[0, 1, 5, 9, 10, 13], [.p, .p, .p, .i .i64, .i .u32, .b], [⟨.ret, [6, 7], [.i .i64, .b], []⟩], P107_8103⟩
def D107_9004 : PcD := ⟨[0, 1, 5, 9, 10, 62], [.p, .p, .p, .i .i64, .i .u32, .b], [⟨.ret, [6, 7], [.i .i64, .b], []⟩, ⟨.normal, [], [], [0, 1, 5, 9, 10]⟩], P107_9004⟩
def D107_12103 : PcD := ⟨[0, 1, 5, 9, 10], [.p, .p, .p, .i .i64, .i .u32], [⟨.ret, [6, 7], [.i .i64, .b], []⟩], P107_12103⟩
def D107_16103 : PcD := ⟨[0, 5, 9, 10], [.p, .p, .i .i64, .i .u32], [⟨.ret, [6, 7], [.i .i64, .b], []⟩], P107_16103⟩
def Lam107 : LEnv := lamOf [] [1] [8103, 9004, 12103, 16103] [(8103, pcK D107_8103), (9004, pcK D107_9004), (12103, pcK D107_12103), (16103, pcK D107_16103)]
theorem pok107_16103 : PieceOK Tryz.prog E107 Lam107 (nthP Lam107 (bodyOf Tryz.f107) 3) := pc_ok D107_16103 (fun _ _ _ => by kernel_rfl) (by kernel_rfl) (fun _ _ _ _ _ _ _ _ => by kernel_rfl)
theorem pok107_12103 : PieceOK Tryz.prog E107 Lam107 (nthP Lam107 (bodyOf Tryz.f107) 1) := pc_ok D107_12103 (fun _ _ _ => by kernel_rfl) (by kernel_rfl) (fun _ _ _ _ _ _ _ _ _ _ => by kernel_rfl)
theorem pok107_9004 : PieceOK Tryz.prog E107 Lam107 (nthP Lam107 (bodyOf Tryz.f107) 2) := pc_ok D107_9004 (fun _ _ _ => by kernel_rfl) (by kernel_rfl) (fun _ _ _ _ _ _ _ _ _ _ _ => by kernel_rfl)
theorem pok107_8103 : PieceOK Tryz.prog E107 Lam107 (nthP Lam107 (bodyOf Tryz.f107) 0) := pc_ok D107_8103 (fun _ _ _ => by kernel_rfl) (by kernel_rfl) (fun _ _ _ _ _ _ _ _ _ _ _ => by kernel_rfl)
def E108 : Env := ext E107 107 G107
theorem S108 (w0 : World) : SP w0 E108 := sg (S107 w0) Tryz.func107 Tryz.call107 (Λ := Lam107) 0 trivial 4 ⟨pok107_8103, pok107_12103, pok107_9004, pok107_16103, trivial⟩ (by kernel_rfl) false (fun _ _ _ _ _ _ _ => by kernel_rfl)
def F108 (b_0 o_0 : Nat) (m : Mem) (k : Mem → Prop) : Prop :=
 ldI .u32 m b_0 (o_0 + 39 + 14) fun x1 => F135 b_0 o_0 x1 m fun m2 => ldI .u32 m2 b_0 (o_0 + 39 + 12) fun x3 => stC m2 b_0 (o_0 + 39 + 12) (.flat (.int .u32 (bits .andNot .u32 x3 2))) fun m4 => stC m4 b_0 (o_0 + 37) (.flat (.bool false)) fun m5 => k  m5
def G108 := Gs [.p] [] F108
def E189 : Env := ext E108 108 G108
theorem S189 (w0 : World) : SP w0 E189 := sg0 (S108 w0) Tryz.func108 Tryz.call108 (by kernel_rfl) false (fun _ _ _ _ => by kernel_rfl)
def F189 (x_0 : Int) (m : Mem) (k : Bool → Mem → Prop) : Prop :=
 kif (x_0 == 0) (kif (x_0 == 0) ((Keeps m m ∧ k true m)) ((Keeps m m ∧ k false m))) (kif (x_0 == 1) (kif (x_0 == 1) ((Keeps m m ∧ k true m)) ((Keeps m m ∧ k false m))) (kif (x_0 == 2) (kif (x_0 == 2) ((Keeps m m ∧ k true m)) ((Keeps m m ∧ k false m))) (kif (x_0 == 8) (kif (x_0 == 8) ((Keeps m m ∧ k true m)) ((Keeps m m ∧ k false m))) (kif (x_0 == 9) (kif (x_0 == 9) ((Keeps m m ∧ k true m)) ((Keeps m m ∧ k false m))) (kif (x_0 == 10) (kif (x_0 == 10) ((Keeps m m ∧ k true m)) ((Keeps m m ∧ k false m))) (kif (x_0 == 11) (kif (x_0 == 11) ((Keeps m m ∧ k true m)) ((Keeps m m ∧ k false m))) (kif (x_0 == 12) (kif (x_0 == 12) ((Keeps m m ∧ k true m)) ((Keeps m m ∧ k false m))) (kif (x_0 == 13) (kif (x_0 == 13) ((Keeps m m ∧ k true m)) ((Keeps m m ∧ k false m))) (kif (x_0 == 14) (kif (x_0 == 14) ((Keeps m m ∧ k true m)) ((Keeps m m ∧ k false m))) (kif (x_0 == 15) ((Keeps m m ∧ k true m)) ((Keeps m m ∧ k false m))))))))))))
def G189 := Gs [.i .i64] [.b] F189
def E145 : Env := ext E189 189 G189
theorem S145 (w0 : World) : SP w0 E145 := sg0 (S189 w0) Tryz.func189 Tryz.call189 (by kernel_rfl) true (fun _ _ _ => by kernel_rfl)
def F145 (b_0 o_0 : Nat) (x_1 : Int) (m : Mem) (k : Int → Mem → Prop) : Prop :=
 F189 x_1 m fun x1 m2 => kif (!x1) ((Keeps m m2 ∧ k 0 m)) (kif (x_1 == 1) (ldI .u32 m2 b_0 (o_0 + 39 + 9) fun x3 => (Keeps m m2 ∧ k (x3.tmod 8) m)) (kif (decide (0 ≤ x_1) && decide (x_1 < 16)) (ldI .u32 m2 b_0 (o_0 + 39 + (x_1).toNat * 1) fun x4 => (Keeps m m2 ∧ k x4 m)) False))
def G145 := Gs [.p, .i .i64] [.i .u32] F145
def E146 : Env := ext E145 145 G145
theorem S146 (w0 : World) : SP w0 E146 := sg0 (S145 w0) Tryz.func145 Tryz.call145 (by kernel_rfl) true (fun _ _ _ _ _ => by kernel_rfl)
def P146_10004 (b_0 o_0 : Nat) (x_1 : Int) (x_2 : Int) (x_8 : Int) (x_36 : Bool) (m : Mem) (kn : Mem → Prop) : Prop :=
 kif x_36 (kif (decide (0 ≤ x_1) && decide (x_1 < 16)) (stC m b_0 (o_0 + 39 + (x_1).toNat * 1) (.flat (.int .u32 x_2)) fun m4 => kn  m4) False) (kif (x_8 == 11) (kif (decide (0 ≤ x_1) && decide (x_1 < 16)) (stC m b_0 (o_0 + 39 + (x_1).toNat * 1) (.flat (.int .u32 x_2)) fun m5 => ldI .u32 m5 b_0 (o_0 + 39 + 13) fun x6 => stC m5 b_0 (o_0 + 39 + 13) (.flat (.int .u32 (bits .andNot .u32 x6 32768))) fun m7 => kn  m7) False) (kif (x_8 == 12) (kif (decide (0 ≤ x_1) && decide (x_1 < 16)) (stC m b_0 (o_0 + 39 + (x_1).toNat * 1) (.flat (.int .u32 (bits .and .u32 x_2 65299))) fun m8 => kn  m8) False) (kif (x_8 == 13) (kif (decide (0 ≤ x_1) && decide (x_1 < 16)) (ldI .u32 m b_0 (o_0 + 39 + (x_1).toNat * 1) fun x9 => kif (decide (0 ≤ x_1) && decide (x_1 < 16)) (stC m b_0 (o_0 + 39 + (x_1).toNat * 1) (.flat (.int .u32 (bits .or .u32 (bits .andNot .u32 x9 768) (bits .and .u32 x_2 768)))) fun m10 => kn  m10) False) False) (kn  m))))
def F146 (b_0 o_0 : Nat) (x_1 : Int) (x_2 : Int) (m : Mem) (k : Mem → Prop) : Prop :=
 kif (x_1 == 0) (kif (decide (0 ≤ x_1) && decide (x_1 < 16)) (stC m b_0 (o_0 + 39 + (x_1).toNat * 1) (.flat (.int .u32 (bits .and .u32 x_2 7))) fun m1 => k  m1) False) (kif (x_1 == 2) (kif (decide (0 ≤ x_1) && decide (x_1 < 16)) (stC m b_0 (o_0 + 39 + (x_1).toNat * 1) (.flat (.int .u32 (bits .and .u32 x_2 4294966279))) fun m2 => k  m2) False) (kif (x_1 == 10) (kif (decide (0 ≤ x_1) && decide (x_1 < 16)) (stC m b_0 (o_0 + 39 + (x_1).toNat * 1) (.flat (.int .u32 (bits .and .u32 x_2 4294966527))) fun m3 => k  m3) False) (kif (x_1 == 9) (P146_10004 b_0 o_0 x_1 x_2 x_1 (x_1 == 9) m (fun m11 => k  m11)) (P146_10004 b_0 o_0 x_1 x_2 x_1 (x_1 == 14) m (fun m12 => k  m12)))))
def G146 := Gs [.p, .i .i64, .i .u32] [] F146
def D146_10004 : PcD := ⟨[0, 1, 2, 8, 36], [.p, .i .i64, .i .u32, .i .i64, .b], [⟨.normal, [], [], []⟩], P146_10004⟩
def Lam146 : LEnv := lamOf [] [] [10004] [(10004, pcK D146_10004)]
theorem pok146_10004 : PieceOK Tryz.prog E146 Lam146 (nthP Lam146 (bodyOf Tryz.f146) 0) := pc_ok D146_10004 (fun _ _ _ => by kernel_rfl) (by kernel_rfl) (fun _ _ _ _ _ _ _ _ => by kernel_rfl)
def E148 : Env := ext E146 146 G146
theorem S148 (w0 : World) : SP w0 E148 := sg (S146 w0) Tryz.func146 Tryz.call146 (Λ := Lam146) 0 trivial 1 ⟨pok146_10004, trivial⟩ (by kernel_rfl) false (fun _ _ _ _ _ _ => by kernel_rfl)
def P148_4002 (b_0 o_0 : Nat) (x_4 : Int) (m : Mem) (kn : Mem → Prop) : Prop :=
 ldI .u32 m b_0 (o_0 + 39 + 10) fun x4 => ldI .u32 m b_0 (o_0 + 39 + 2) fun x5 => kif (decide (0 ≤ x_4) && decide (x_4 < 8)) (stG 2 m b_0 (o_0 + 55 + (x_4).toNat * 2) (upd (upd (lget [(.flat (.int .u32 0)), (.flat (.int .u32 0))]) 0 (.flat (.int .u32 x4))) 1 (.flat (.int .u32 x5))) fun m6 => kn  m6) False
def F148 (b_0 o_0 : Nat) (x_1 : Bool) (m : Mem) (k : Mem → Prop) : Prop :=
 ldI .u32 m b_0 (o_0 + 39 + 0) fun x1 => kif x_1 (F145 b_0 o_0 1 m fun x2 m3 => P148_4002 b_0 o_0 x2 m3 (fun m7 => k  m7)) (P148_4002 b_0 o_0 (bits .and .u32 x1 7) m (fun m8 => k  m8))
def G148 := Gs [.p, .b] [] F148
def D148_4002 : PcD := ⟨[0, 4], [.p, .i .u32], [⟨.normal, [], [], []⟩], P148_4002⟩
def Lam148 : LEnv := lamOf [] [] [4002] [(4002, pcK D148_4002)]
theorem pok148_4002 : PieceOK Tryz.prog E148 Lam148 (nthP Lam148 (bodyOf Tryz.f148) 0) := pc_ok D148_4002 (fun _ _ _ => by kernel_rfl) (by kernel_rfl) (fun _ _ _ _ _ => by kernel_rfl)
def E109 : Env := ext E148 148 G148
theorem S109 (w0 : World) : SP w0 E109 := sg (S148 w0) Tryz.func148 Tryz.call148 (Λ := Lam148) 0 trivial 1 ⟨pok148_4002, trivial⟩ (by kernel_rfl) false (fun _ _ _ _ _ => by kernel_rfl)
def P109_10004 (b_0 o_0 : Nat) (b_3 o_3 : Nat) (x_5 : Int) (x_33 : Bool) (m : Mem) (kn : Mem → Prop) : Prop :=
 kif x_33 (ldI .i64 m b_3 (o_3 + 0) fun x14 => F148 b_0 o_0 (x14 == 58) m fun m15 => kn  m15) (kif (x_5 == 59) (bump False) (kif (x_5 == 61) (stC m b_0 (o_0 + 71) (.flat (.bool true)) fun m16 => kn  m16) (kn  m)))
def F109 (b_0 o_0 : Nat) (c_1 : Nat → AV) (m : Mem) (k : Mem → Prop) : Prop :=
 newK m ⟨6, c_1, 32, false⟩ fun b2 m1 => ldI .i64 m1 b2 0 fun x3 => kif (x3 == 54) (∃ Fr4 : Nat → Prop, Fr4 b2 ∧ (ldI .i64 m1 b2 2 fun x5 => Fr4 b2 ∧ (ldI .i64 m1 b2 3 fun x6 => F145 b_0 o_0 x6 m1 fun x7 m8 => KeepsIn Fr4 m1 m8 ∧ (F142 b_0 o_0 x5 x7 m8 fun m9 => KeepsIn Fr4 m8 m9 ∧ (k  m9))))) (kif (x3 == 55) (ldI .i64 m1 b2 3 fun x10 => ldI .i64 m1 b2 2 fun x11 => kif (decide (0 ≤ x11) && decide (x11 < 32)) (ldI .u32 m1 b_0 (o_0 + 0 + (x11).toNat * 1) fun x12 => F146 b_0 o_0 x10 x12 m1 fun m13 => k  m13) False) (kif (x3 == 56) (bump False) (kif (x3 == 57) (P109_10004 b_0 o_0 b2 0 x3 (x3 == 57) m1 (fun m17 => k  m17)) (P109_10004 b_0 o_0 b2 0 x3 (x3 == 58) m1 (fun m18 => k  m18)))))
def G109 := Gs [.p, .g 6] [] F109
def D109_10004 : PcD := ⟨[0, 3, 5, 33], [.p, .p, .i .i64, .b], [⟨.normal, [], [], []⟩], P109_10004⟩
def Lam109 : LEnv := lamOf [] [3] [10004] [(10004, pcK D109_10004)]
theorem pok109_10004 : PieceOK Tryz.prog E109 Lam109 (nthP Lam109 (bodyOf Tryz.f109) 0) := pc_ok D109_10004 (fun _ _ _ => by kernel_rfl) (by kernel_rfl) (fun _ _ _ _ _ _ _ _ => by kernel_rfl)
def E191 : Env := ext E109 109 G109
theorem S191 (w0 : World) : SP w0 E191 := sg (S109 w0) Tryz.func109 Tryz.call109 (Λ := Lam109) 0 trivial 1 ⟨pok109_10004, trivial⟩ (by kernel_rfl) false (fun _ _ _ _ _ => by kernel_rfl)
def P191_8102 (x_1 : Int) (x_2 : Int) (m : Mem) (kr : Int → Mem → Prop) : Prop :=
 F187 x_1 x_2 m fun x7 m8 => kr x7 m8
def P191_4004 (x_1 : Int) (x_2 : Int) (x_7 : Int) (x_8 : Bool) (m : Mem) (kr : Int → Mem → Prop) (kn : Mem → Prop) : Prop :=
 kif x_8 (kif (decide (x_2 < 0)) False (kr (IntKind.wrap .u32 (x_1 * 2 ^ min (x_2).toNat 32)) m)) (kif (x_7 == 2) (kif (x_7 == 2) (kif (decide (x_2 < 0)) False (kr (x_1.fdiv (2 ^ min (x_2).toNat 32)) m)) (kn  m)) (kif (x_7 == 5) (kif (decide (x_2 < 0)) False (kr (x_1.fdiv (2 ^ min (x_2).toNat 32)) m)) (kn  m)))
def F191 (x_0 : Int) (x_1 : Int) (x_2 : Int) (m : Mem) (k : Int → Mem → Prop) : Prop :=
 kif (x_0 == 1) (P191_4004 x_1 x_2 x_0 (x_0 == 1) m (fun x1 m2 => (Keeps m m2 ∧ k x1 m)) (fun m3 => P191_8102 x_1 x_2 m3 (fun x9 m10 => (Keeps m m10 ∧ k x9 m)))) (P191_4004 x_1 x_2 x_0 (x_0 == 4) m (fun x4 m5 => (Keeps m m5 ∧ k x4 m)) (fun m6 => P191_8102 x_1 x_2 m6 (fun x11 m12 => (Keeps m m12 ∧ k x11 m))))
def G191 := Gs [.i .i64, .i .u32, .i .i64] [.i .u32] F191
def D191_4004 : PcD := ⟨[1, 2, 7, 8], [.i .u32, .i .i64, .i .i64, .b], [⟨.ret, [6], [.i .u32], []⟩, ⟨.normal, [], [], [1, 2]⟩], P191_4004⟩
def D191_8102 : PcD := ⟨[1, 2], [.i .u32, .i .i64], [⟨.ret, [6], [.i .u32], []⟩], P191_8102⟩
def Lam191 : LEnv := lamOf [] [] [4004, 8102] [(4004, pcK D191_4004), (8102, pcK D191_8102)]
theorem pok191_8102 : PieceOK Tryz.prog E191 Lam191 (nthP Lam191 (bodyOf Tryz.f191) 0) := pc_ok D191_8102 (fun _ _ _ => by kernel_rfl) (by kernel_rfl) (fun _ _ _ _ => by kernel_rfl)
theorem pok191_4004 : PieceOK Tryz.prog E191 Lam191 (nthP Lam191 (bodyOf Tryz.f191) 1) := pc_ok D191_4004 (fun _ _ _ => by kernel_rfl) (by kernel_rfl) (fun _ _ _ _ _ _ => by kernel_rfl)
def E217 : Env := ext E191 191 G191
theorem S217 (w0 : World) : SP w0 E217 := sg (S191 w0) Tryz.func191 Tryz.call191 (Λ := Lam191) 0 trivial 2 ⟨pok191_8102, pok191_4004, trivial⟩ (by kernel_rfl) true (fun _ _ _ _ _ => by kernel_rfl)
def F217 (x_0 : Bool) (m : Mem) (k : Int → Mem → Prop) : Prop :=
 kif x_0 ((Keeps m m ∧ k 1 m)) ((Keeps m m ∧ k 0 m))
def G217 := Gs [.b] [.i .u32] F217
def E192 : Env := ext E217 217 G217
theorem S192 (w0 : World) : SP w0 E192 := sg0 (S217 w0) Tryz.func217 Tryz.call217 (by kernel_rfl) true (fun _ _ _ => by kernel_rfl)
def P192_8004 (x_1 : Int) (b_2 o_2 : Nat) (x_5 : Int) (x_6 : Int) (x_14 : Int) (x_21 : Bool) (m : Mem) (kr : Int → Mem → Prop) (kn : Mem → Prop) : Prop :=
 kif x_21 (ldI .i64 m b_2 (o_2 + 0) fun x9 => F186 x_1 x_6 (x9 == 48) m fun x10 m11 => F217 x10 m11 fun x12 m13 => kr x12 m13) (kif (x_14 == 50) (kr (bits .and .u32 x_1 x_5) m) (kif (x_14 == 51) (kr (bits .or .u32 x_1 x_5) m) (kif (x_14 == 52) (kr (bits .xor .u32 x_1 x_5) m) (kn  m))))
def P192_5004 (x_1 : Int) (b_2 o_2 : Nat) (x_5 : Int) (x_6 : Int) (x_14 : Int) (x_15 : Bool) (m : Mem) (kr : Int → Mem → Prop) (kn : Mem → Prop) : Prop :=
 kif x_15 (kr (IntKind.wrap .u32 (x_1 + x_6)) m) (kif (x_14 == 48) (P192_8004 x_1 b_2 o_2 x_5 x_6 x_14 (x_14 == 48) m (fun x14 m15 => kr x14 m15) (fun m16 => kn  m16)) (P192_8004 x_1 b_2 o_2 x_5 x_6 x_14 (x_14 == 49) m (fun x17 m18 => kr x17 m18) (fun m19 => kn  m19)))
def F192 (c_0 : Nat → AV) (x_1 : Int) (m : Mem) (k : Int → Mem → Prop) : Prop :=
 newK m ⟨6, c_0, 32, false⟩ fun b2 m1 => ∃ Fr3 : Nat → Prop, Fr3 b2 ∧ (ldI .u32 m1 b2 5 fun x4 => Fr3 b2 ∧ (ldI .u32 m1 b2 5 fun x5 => F140 x5 16 m1 fun x6 m7 => KeepsIn Fr3 m1 m7 ∧ (ldI .i64 m7 b2 0 fun x8 => kif (x8 == 46) (P192_5004 x_1 b2 0 (bits .and .u32 x4 65535) x6 x8 (x8 == 46) m7 (fun x20 m21 => (Keeps m m21 ∧ k x20 m)) (fun m22 => (Keeps m m22 ∧ k (IntKind.wrap .u32 ((bits .and .u32 x4 65535) * 65536)) m))) (P192_5004 x_1 b2 0 (bits .and .u32 x4 65535) x6 x8 (x8 == 47) m7 (fun x23 m24 => (Keeps m m24 ∧ k x23 m)) (fun m25 => (Keeps m m25 ∧ k (IntKind.wrap .u32 ((bits .and .u32 x4 65535) * 65536)) m))))))
def G192 := Gs [.g 6, .i .u32] [.i .u32] F192
def D192_5004 : PcD := ⟨[1, 2, 5, 6, 14, 15], [.i .u32, .p, .i .u32, .i .u32, .i .i64, .b], [⟨.ret, [4], [.i .u32], []⟩, ⟨.normal, [], [], [5]⟩], P192_5004⟩
def D192_8004 : PcD := ⟨[1, 2, 5, 6, 14, 21], [.i .u32, .p, .i .u32, .i .u32, .i .i64, .b], [⟨.ret, [4], [.i .u32], []⟩, ⟨.normal, [], [], [5]⟩], P192_8004⟩
def Lam192 : LEnv := lamOf [] [1] [5004, 8004] [(5004, pcK D192_5004), (8004, pcK D192_8004)]
theorem pok192_8004 : PieceOK Tryz.prog E192 Lam192 (nthP Lam192 (bodyOf Tryz.f192) 1) := pc_ok D192_8004 (fun _ _ _ => by kernel_rfl) (by kernel_rfl) (fun _ _ _ _ _ _ _ _ _ => by kernel_rfl)
theorem pok192_5004 : PieceOK Tryz.prog E192 Lam192 (nthP Lam192 (bodyOf Tryz.f192) 0) := pc_ok D192_5004 (fun _ _ _ => by kernel_rfl) (by kernel_rfl) (fun _ _ _ _ _ _ _ _ _ => by kernel_rfl)
def E193 : Env := ext E192 192 G192
theorem S193 (w0 : World) : SP w0 E193 := sg (S192 w0) Tryz.func192 Tryz.call192 (Λ := Lam192) 0 trivial 2 ⟨pok192_5004, pok192_8004, trivial⟩ (by kernel_rfl) true (fun _ _ _ _ => by kernel_rfl)
def P193_23102 (x_1 : Int) (x_2 : Int) (m : Mem) (kr : Int → Mem → Prop) : Prop :=
 F194 x_1 x_2 true m fun x27 x28 m29 => kr x28 m29
def P193_18004 (x_0 : Int) (x_1 : Int) (x_2 : Int) (x_9 : Int) (x_43 : Bool) (m : Mem) (kr : Int → Mem → Prop) (kn : Mem → Prop) : Prop :=
 kif x_43 (F186 x_1 x_2 (x_0 == 30) m fun x1 m2 => F217 x1 m2 fun x3 m4 => kr x3 m4) (kif (x_9 == 64) (F218 x_1 m fun x5 m6 => kr (IntKind.wrap .u32 x5) m6) (kif (x_9 == 65) (F219 x_1 m fun x7 m8 => kr (IntKind.wrap .u32 x7) m8) (kn  m)))
def P193_7004 (x_0 : Int) (x_1 : Int) (x_2 : Int) (x_9 : Int) (x_16 : Bool) (m : Mem) (kr : Int → Mem → Prop) (kn : Mem → Prop) : Prop :=
 kif x_16 (kr (IntKind.wrap .u32 (x_1 - x_2)) m) (kif (x_9 == 26) (kr (bits .and .u32 x_1 x_2) m) (kif (x_9 == 27) (kr (bits .or .u32 x_1 x_2) m) (kif (x_9 == 28) (kr (bits .xor .u32 x_1 x_2) m) (kif (x_9 == 29) (kr (bits .xor .u32 4294967295 (bits .or .u32 x_1 x_2)) m) (kif (x_9 == 30) (P193_18004 x_0 x_1 x_2 x_9 (x_9 == 30) m (fun x9 m10 => kr x9 m10) (fun m11 => kn  m11)) (P193_18004 x_0 x_1 x_2 x_9 (x_9 == 31) m (fun x12 m13 => kr x12 m13) (fun m14 => kn  m14)))))))
def P193_4004 (x_0 : Int) (x_1 : Int) (x_2 : Int) (x_9 : Int) (x_10 : Bool) (m : Mem) (kr : Int → Mem → Prop) (kn : Mem → Prop) : Prop :=
 kif x_10 (kr (IntKind.wrap .u32 (x_1 + x_2)) m) (kif (x_9 == 24) (P193_7004 x_0 x_1 x_2 x_9 (x_9 == 24) m (fun x15 m16 => kr x15 m16) (fun m17 => kn  m17)) (P193_7004 x_0 x_1 x_2 x_9 (x_9 == 25) m (fun x18 m19 => kr x18 m19) (fun m20 => kn  m20)))
def F193 (x_0 : Int) (x_1 : Int) (x_2 : Int) (m : Mem) (k : Int → Mem → Prop) : Prop :=
 kif (x_0 == 22) (P193_4004 x_0 x_1 x_2 x_0 (x_0 == 22) m (fun x21 m22 => (Keeps m m22 ∧ k x21 m)) (fun m23 => P193_23102 x_1 x_2 m23 (fun x30 m31 => (Keeps m m31 ∧ k x30 m)))) (P193_4004 x_0 x_1 x_2 x_0 (x_0 == 23) m (fun x24 m25 => (Keeps m m25 ∧ k x24 m)) (fun m26 => P193_23102 x_1 x_2 m26 (fun x32 m33 => (Keeps m m33 ∧ k x32 m))))
def G193 := Gs [.i .i64, .i .u32, .i .u32] [.i .u32] F193
def D193_4004 : PcD := ⟨[0, 1, 2, 9, 10], [.i .i64, .i .u32, .i .u32, .i .i64, .b], [⟨.ret, [6], [.i .u32], []⟩, ⟨.normal, [], [], [1, 2]⟩], P193_4004⟩
def D193_7004 : PcD := ⟨[0, 1, 2, 9, 16], [.i .i64, .i .u32, .i .u32, .i .i64, .b], [⟨.ret, [6], [.i .u32], []⟩, ⟨.normal, [], [], [1, 2]⟩], P193_7004⟩
def D193_18004 : PcD := ⟨[0, 1, 2, 9, 43], [.i .i64, .i .u32, .i .u32, .i .i64, .b], [⟨.ret, [6], [.i .u32], []⟩, ⟨.normal, [], [], [1, 2]⟩], P193_18004⟩
def D193_23102 : PcD := ⟨[1, 2], [.i .u32, .i .u32], [⟨.ret, [6], [.i .u32], []⟩], P193_23102⟩
def Lam193 : LEnv := lamOf [] [] [4004, 7004, 18004, 23102] [(4004, pcK D193_4004), (7004, pcK D193_7004), (18004, pcK D193_18004), (23102, pcK D193_23102)]
theorem pok193_23102 : PieceOK Tryz.prog E193 Lam193 (nthP Lam193 (bodyOf Tryz.f193) 0) := pc_ok D193_23102 (fun _ _ _ => by kernel_rfl) (by kernel_rfl) (fun _ _ _ _ => by kernel_rfl)
theorem pok193_18004 : PieceOK Tryz.prog E193 Lam193 (nthP Lam193 (bodyOf Tryz.f193) 3) := pc_ok D193_18004 (fun _ _ _ => by kernel_rfl) (by kernel_rfl) (fun _ _ _ _ _ _ _ => by kernel_rfl)
theorem pok193_7004 : PieceOK Tryz.prog E193 Lam193 (nthP Lam193 (bodyOf Tryz.f193) 2) := pc_ok D193_7004 (fun _ _ _ => by kernel_rfl) (by kernel_rfl) (fun _ _ _ _ _ _ _ => by kernel_rfl)
theorem pok193_4004 : PieceOK Tryz.prog E193 Lam193 (nthP Lam193 (bodyOf Tryz.f193) 1) := pc_ok D193_4004 (fun _ _ _ => by kernel_rfl) (by kernel_rfl) (fun _ _ _ _ _ _ _ => by kernel_rfl)
def E150 : Env := ext E193 193 G193
theorem S150 (w0 : World) : SP w0 E150 := sg (S193 w0) Tryz.func193 Tryz.call193 (Λ := Lam193) 0 trivial 4 ⟨pok193_23102, pok193_4004, pok193_7004, pok193_18004, trivial⟩ (by kernel_rfl) true (fun _ _ _ _ _ => by kernel_rfl)
def P150_10102 (x_1 : Int) (x_2 : Int) (b_3 o_3 : Nat) (m : Mem) (kr : Int → Bool → Mem → Prop) : Prop :=
 ldI .i64 m b_3 (o_3 + 0) fun x22 => F193 x22 x_1 x_2 m fun x23 m24 => kr x23 true m24
def P150_9004 (x_1 : Int) (x_2 : Int) (b_3 o_3 : Nat) (x_33 : Bool) (m : Mem) (kr : Int → Bool → Mem → Prop) (kn : Mem → Prop) : Prop :=
 kif x_33 (ldG 6 m b_3 o_3 fun c11 => F192 c11 x_1 m fun x12 m13 => kr x12 true m13) (kn  m)
def F150 (c_0 : Nat → AV) (x_1 : Int) (x_2 : Int) (m : Mem) (k : Int → Bool → Mem → Prop) : Prop :=
 newK m ⟨6, c_0, 32, false⟩ fun b2 m1 => ldI .i64 m1 b2 0 fun x3 => F190 x3 m1 fun x4 m5 => kif (!x4) ((Keeps m m5 ∧ k 0 false m)) (kif (decide (x3 ≤ 3)) (ldI .i64 m5 b2 4 fun x6 => F191 x3 x_2 (bits .and .i64 x6 31) m5 fun x7 m8 => (Keeps m m8 ∧ k x7 true m)) (kif (decide (x3 ≤ 6)) (F191 x3 x_2 (IntKind.wrap .i64 (bits .and .u32 x_1 31)) m5 fun x9 m10 => (Keeps m m10 ∧ k x9 true m)) (kif (decide (x3 ≥ 46)) (P150_9004 x_1 x_2 b2 0 (decide (x3 ≤ 53)) m5 (fun x14 x15 m16 => (Keeps m m16 ∧ k x14 x15 m)) (fun m17 => P150_10102 x_1 x_2 b2 0 m17 (fun x25 x26 m27 => (Keeps m m27 ∧ k x25 x26 m)))) (P150_9004 x_1 x_2 b2 0 false m5 (fun x18 x19 m20 => (Keeps m m20 ∧ k x18 x19 m)) (fun m21 => P150_10102 x_1 x_2 b2 0 m21 (fun x28 x29 m30 => (Keeps m m30 ∧ k x28 x29 m)))))))
def G150 := Gs [.g 6, .i .u32, .i .u32] [.i .u32, .b] F150
def D150_9004 : PcD := ⟨[1, 2, 3, 33], [.i .u32, .i .u32, .p, .b], [⟨.ret, [6, 7], [.i .u32, .b], []⟩, ⟨.normal, [], [], [1, 2, 3]⟩], P150_9004⟩
def D150_10102 : PcD := ⟨[1, 2, 3], [.i .u32, .i .u32, .p], [⟨.ret, [6, 7], [.i .u32, .b], []⟩], P150_10102⟩
def Lam150 : LEnv := lamOf [] [] [9004, 10102] [(9004, pcK D150_9004), (10102, pcK D150_10102)]
theorem pok150_10102 : PieceOK Tryz.prog E150 Lam150 (nthP Lam150 (bodyOf Tryz.f150) 0) := pc_ok D150_10102 (fun _ _ _ => by kernel_rfl) (by kernel_rfl) (fun _ _ _ _ _ _ => by kernel_rfl)
theorem pok150_9004 : PieceOK Tryz.prog E150 Lam150 (nthP Lam150 (bodyOf Tryz.f150) 1) := pc_ok D150_9004 (fun _ _ _ => by kernel_rfl) (by kernel_rfl) (fun _ _ _ _ _ _ _ => by kernel_rfl)
def E152 : Env := ext E150 150 G150
theorem S152 (w0 : World) : SP w0 E152 := sg (S150 w0) Tryz.func150 Tryz.call150 (Λ := Lam150) 0 trivial 2 ⟨pok150_10102, pok150_9004, trivial⟩ (by kernel_rfl) true (fun _ _ _ _ _ => by kernel_rfl)
def P152_13102 (x_3 : Int) (x_4 : Int) (m : Mem) (kr : Int → Int → Bool → Mem → Prop) : Prop :=
 kr x_3 x_4 true m
def P152_8004 (x_1 : Int) (x_2 : Int) (x_3 : Int) (x_4 : Int) (b_5 o_5 : Nat) (x_14 : Int) (x_29 : Bool) (m : Mem) (kn : Int → Int → Mem → Prop) (kr : Int → Int → Bool → Mem → Prop) : Prop :=
 kif x_29 (ldI .i64 m b_5 (o_5 + 0) fun x8 => F195 x_1 x_2 (x8 == 20) m fun x9 x10 m11 => kn x10 x9 m11) (kif (x_14 == 15) (kn x_1 x_4 m) (kif (x_14 == 17) (kn x_3 x_1 m) (kr x_3 x_4 false m)))
def P152_5004 (x_1 : Int) (x_2 : Int) (x_3 : Int) (x_4 : Int) (b_5 o_5 : Nat) (x_14 : Int) (x_17 : Bool) (m : Mem) (kn : Int → Int → Mem → Prop) (kr : Int → Int → Bool → Mem → Prop) : Prop :=
 kif x_17 (ldI .i64 m b_5 (o_5 + 0) fun x4 => F194 x_1 x_2 (x4 == 18) m fun x5 x6 m7 => kn x5 x6 m7) (kif (x_14 == 20) (P152_8004 x_1 x_2 x_3 x_4 b_5 o_5 x_14 (x_14 == 20) m (fun x12 x13 m14 => kn x12 x13 m14) (fun x15 x16 x17 m18 => kr x15 x16 x17 m18)) (P152_8004 x_1 x_2 x_3 x_4 b_5 o_5 x_14 (x_14 == 21) m (fun x19 x20 m21 => kn x19 x20 m21) (fun x22 x23 x24 m25 => kr x22 x23 x24 m25)))
def F152 (c_0 : Nat → AV) (x_1 : Int) (x_2 : Int) (x_3 : Int) (x_4 : Int) (m : Mem) (k : Int → Int → Bool → Mem → Prop) : Prop :=
 newK m ⟨6, c_0, 32, false⟩ fun b2 m1 => ldI .i64 m1 b2 0 fun x3 => kif (x3 == 18) (P152_5004 x_1 x_2 x_3 x_4 b2 0 x3 (x3 == 18) m1 (fun x26 x27 m28 => P152_13102 x26 x27 m28 (fun x40 x41 x42 m43 => (Keeps m m43 ∧ k x40 x41 x42 m))) (fun x29 x30 x31 m32 => (Keeps m m32 ∧ k x29 x30 x31 m))) (P152_5004 x_1 x_2 x_3 x_4 b2 0 x3 (x3 == 19) m1 (fun x33 x34 m35 => P152_13102 x33 x34 m35 (fun x44 x45 x46 m47 => (Keeps m m47 ∧ k x44 x45 x46 m))) (fun x36 x37 x38 m39 => (Keeps m m39 ∧ k x36 x37 x38 m)))
def G152 := Gs [.g 6, .i .u32, .i .u32, .i .u32, .i .u32] [.i .u32, .i .u32, .b] F152
def D152_5004 : PcD := ⟨[1, 2, 3, 4, 5, 14, 17], [.i .u32, .i .u32, .i .u32, .i .u32, .p, .i .i64, .b], [⟨.normal, [3, 4], [.i .u32, .i .u32], []⟩, ⟨.ret, [10, 11, 12], [.i .u32, .i .u32, .b], []⟩], P152_5004⟩
def D152_8004 : PcD := ⟨[1, 2, 3, 4, 5, 14, 29], [.i .u32, .i .u32, .i .u32, .i .u32, .p, .i .i64, .b], [⟨.normal, [3, 4], [.i .u32, .i .u32], []⟩, ⟨.ret, [10, 11, 12], [.i .u32, .i .u32, .b], []⟩], P152_8004⟩
def D152_13102 : PcD := ⟨[3, 4], [.i .u32, .i .u32], [⟨.ret, [10, 11, 12], [.i .u32, .i .u32, .b], []⟩], P152_13102⟩
def Lam152 : LEnv := lamOf [] [] [5004, 8004, 13102] [(5004, pcK D152_5004), (8004, pcK D152_8004), (13102, pcK D152_13102)]
theorem pok152_13102 : PieceOK Tryz.prog E152 Lam152 (nthP Lam152 (bodyOf Tryz.f152) 0) := pc_ok D152_13102 (fun _ _ _ => by kernel_rfl) (by kernel_rfl) (fun _ _ _ _ => by kernel_rfl)
theorem pok152_8004 : PieceOK Tryz.prog E152 Lam152 (nthP Lam152 (bodyOf Tryz.f152) 2) := pc_ok D152_8004 (fun _ _ _ => by kernel_rfl) (by kernel_rfl) (fun _ _ _ _ _ _ _ _ _ _ => by kernel_rfl)
theorem pok152_5004 : PieceOK Tryz.prog E152 Lam152 (nthP Lam152 (bodyOf Tryz.f152) 1) := pc_ok D152_5004 (fun _ _ _ => by kernel_rfl) (by kernel_rfl) (fun _ _ _ _ _ _ _ _ _ _ => by kernel_rfl)
def E110 : Env := ext E152 152 G152
theorem S110 (w0 : World) : SP w0 E110 := sg (S152 w0) Tryz.func152 Tryz.call152 (Λ := Lam152) 0 trivial 3 ⟨pok152_13102, pok152_5004, pok152_8004, trivial⟩ (by kernel_rfl) true (fun _ _ _ _ _ _ _ => by kernel_rfl)
def P110_14002 (b_0 o_0 : Nat) (b_3 o_3 : Nat) (x_4 : Int) (x_5 : Int) (m : Mem) (kn : Mem → Prop) : Prop :=
 ldG 6 m b_3 o_3 fun c27 => ldI .u32 m b_0 (o_0 + 32) fun x28 => ldI .u32 m b_0 (o_0 + 33) fun x29 => F152 c27 x_4 x_5 x28 x29 m fun x30 x31 x32 m33 => stC m33 b_0 (o_0 + 32) (.flat (.int .u32 x30)) fun m34 => stC m34 b_0 (o_0 + 33) (.flat (.int .u32 x31)) fun m35 => kn  m35
def P110_8004 (b_0 o_0 : Nat) (b_3 o_3 : Nat) (x_4 : Int) (x_5 : Int) (x_36 : Int) (x_37 : Bool) (m : Mem) (kn : Mem → Prop) : Prop :=
 kif x_37 (ldI .i64 m b_3 (o_3 + 0) fun x16 => kif ((x_5 == 0) == (x16 == 9)) (ldI .i64 m b_3 (o_3 + 3) fun x17 => F142 b_0 o_0 x17 x_4 m fun m18 => kn  m18) (kn  m)) (kif (x_36 == 14) (ldI .i64 m b_3 (o_3 + 3) fun x19 => ldI .u32 m b_0 (o_0 + 32) fun x20 => F142 b_0 o_0 x19 x20 m fun m21 => kn  m21) (kif (x_36 == 16) (ldI .i64 m b_3 (o_3 + 3) fun x22 => ldI .u32 m b_0 (o_0 + 33) fun x23 => F142 b_0 o_0 x22 x23 m fun m24 => kn  m24) (kn  m)))
def P110_5103 (b_0 o_0 : Nat) (b_3 o_3 : Nat) (x_4 : Int) (x_5 : Int) (m : Mem) (kn : Mem → Prop) : Prop :=
 ldI .i64 m b_3 (o_3 + 0) fun x15 => kif (x15 == 9) (P110_8004 b_0 o_0 b_3 o_3 x_4 x_5 x15 (x15 == 9) m (fun m25 => P110_14002 b_0 o_0 b_3 o_3 x_4 x_5 m25 (fun m36 => kn  m36))) (P110_8004 b_0 o_0 b_3 o_3 x_4 x_5 x15 (x15 == 10) m (fun m26 => P110_14002 b_0 o_0 b_3 o_3 x_4 x_5 m26 (fun m37 => kn  m37)))
def F110 (b_0 o_0 : Nat) (c_1 : Nat → AV) (m : Mem) (k : Mem → Prop) : Prop :=
 newK m ⟨6, c_1, 32, false⟩ fun b2 m1 => ldI .i64 m1 b2 1 fun x3 => kif (decide (0 ≤ x3) && decide (x3 < 32)) (ldI .u32 m1 b_0 (o_0 + 0 + (x3).toNat * 1) fun x4 => ldI .i64 m1 b2 2 fun x5 => kif (decide (0 ≤ x5) && decide (x5 < 32)) (ldI .u32 m1 b_0 (o_0 + 0 + (x5).toNat * 1) fun x6 => ldG 6 m1 b2 0 fun c7 => F150 c7 x4 x6 m1 fun x8 x9 m10 => kif x9 (ldG 6 m10 b2 0 fun c11 => F151 c11 m10 fun x12 m13 => F142 b_0 o_0 x12 x8 m13 fun m14 => P110_5103 b_0 o_0 b2 0 x4 x6 m14 (fun m38 => k  m38)) (P110_5103 b_0 o_0 b2 0 x4 x6 m10 (fun m39 => k  m39))) False) False
def G110 := Gs [.p, .g 6] [] F110
def D110_5103 : PcD := ⟨[0, 3, 4, 5], [.p, .p, .i .u32, .i .u32], [⟨.normal, [], [], []⟩], P110_5103⟩
def D110_8004 : PcD := ⟨[0, 3, 4, 5, 36, 37], [.p, .p, .i .u32, .i .u32, .i .i64, .b], [⟨.normal, [], [], [0, 3, 4, 5]⟩], P110_8004⟩
def D110_14002 : PcD := ⟨[0, 3, 4, 5], [.p, .p, .i .u32, .i .u32], [⟨.normal, [], [], []⟩], P110_14002⟩
def Lam110 : LEnv := lamOf [] [] [5103, 8004, 14002] [(5103, pcK D110_5103), (8004, pcK D110_8004), (14002, pcK D110_14002)]
theorem pok110_14002 : PieceOK Tryz.prog E110 Lam110 (nthP Lam110 (bodyOf Tryz.f110) 1) := pc_ok D110_14002 (fun _ _ _ => by kernel_rfl) (by kernel_rfl) (fun _ _ _ _ _ _ _ _ => by kernel_rfl)
theorem pok110_8004 : PieceOK Tryz.prog E110 Lam110 (nthP Lam110 (bodyOf Tryz.f110) 2) := pc_ok D110_8004 (fun _ _ _ => by kernel_rfl) (by kernel_rfl) (fun _ _ _ _ _ _ _ _ _ _ => by kernel_rfl)
theorem pok110_5103 : PieceOK Tryz.prog E110 Lam110 (nthP Lam110 (bodyOf Tryz.f110) 0) := pc_ok D110_5103 (fun _ _ _ => by kernel_rfl) (by kernel_rfl) (fun _ _ _ _ _ _ _ _ => by kernel_rfl)
def E153 : Env := ext E110 110 G110
theorem S153 (w0 : World) : SP w0 E153 := sg (S110 w0) Tryz.func110 Tryz.call110 (Λ := Lam110) 0 trivial 3 ⟨pok110_5103, pok110_14002, pok110_8004, trivial⟩ (by kernel_rfl) false (fun _ _ _ _ _ => by kernel_rfl)
def P153_17004 (x_7 : Int) (x_11 : Int) (x_32 : Bool) (m : Mem) (kr : Bool → Mem → Prop) (kn : Mem → Prop) : Prop :=
 kif x_32 (kr (decide (x_7 ≥ 0)) m) (kif (x_11 == 44) (kr (decide (x_7 ≤ 0)) m) (kif (x_11 == 45) (kr (decide (x_7 > 0)) m) (kn  m)))
def P153_14004 (x_7 : Int) (x_11 : Int) (x_27 : Bool) (m : Mem) (kr : Bool → Mem → Prop) (kn : Mem → Prop) : Prop :=
 kif x_27 (kr (decide (x_7 < 0)) m) (kif (x_11 == 37) (P153_17004 x_7 x_11 (x_11 == 37) m (fun x4 m5 => kr x4 m5) (fun m6 => kn  m6)) (P153_17004 x_7 x_11 (x_11 == 39) m (fun x7 m8 => kr x7 m8) (fun m9 => kn  m9)))
def P153_7004 (x_1 : Int) (x_2 : Int) (x_7 : Int) (x_11 : Int) (x_12 : Bool) (m : Mem) (kr : Bool → Mem → Prop) (kn : Mem → Prop) : Prop :=
 kif x_12 (kr true m) (kif (x_11 == 42) (kr (x_1 == x_2) m) (kif (x_11 == 43) (kr (x_1 != x_2) m) (kif (x_11 == 36) (P153_14004 x_7 x_11 (x_11 == 36) m (fun x10 m11 => kr x10 m11) (fun m12 => kn  m12)) (P153_14004 x_7 x_11 (x_11 == 38) m (fun x13 m14 => kr x13 m14) (fun m15 => kn  m15)))))
def F153 (c_0 : Nat → AV) (x_1 : Int) (x_2 : Int) (m : Mem) (k : Bool → Mem → Prop) : Prop :=
 newK m ⟨6, c_0, 32, false⟩ fun b2 m1 => ldI .i64 m1 b2 0 fun x3 => kif (x3 == 40) (P153_7004 x_1 x_2 (IntKind.wrap .i32 x_1) x3 (x3 == 40) m1 (fun x16 m17 => (Keeps m m17 ∧ k x16 m)) (fun m18 => (Keeps m m18 ∧ k false m))) (kif (x3 == 41) (P153_7004 x_1 x_2 (IntKind.wrap .i32 x_1) x3 (x3 == 41) m1 (fun x19 m20 => (Keeps m m20 ∧ k x19 m)) (fun m21 => (Keeps m m21 ∧ k false m))) (kif (x3 == 7) (P153_7004 x_1 x_2 (IntKind.wrap .i32 x_1) x3 (x3 == 7) m1 (fun x22 m23 => (Keeps m m23 ∧ k x22 m)) (fun m24 => (Keeps m m24 ∧ k false m))) (P153_7004 x_1 x_2 (IntKind.wrap .i32 x_1) x3 (x3 == 8) m1 (fun x25 m26 => (Keeps m m26 ∧ k x25 m)) (fun m27 => (Keeps m m27 ∧ k false m)))))
def G153 := Gs [.g 6, .i .u32, .i .u32] [.b] F153
def D153_7004 : PcD := ⟨[1, 2, 7, 11, 12], [.i .u32, .i .u32, .i .i32, .i .i64, .b], [⟨.ret, [6], [.b], []⟩, ⟨.normal, [], [], []⟩], P153_7004⟩
def D153_14004 : PcD := ⟨[7, 11, 27], [.i .i32, .i .i64, .b], [⟨.ret, [6], [.b], []⟩, ⟨.normal, [], [], []⟩], P153_14004⟩
def D153_17004 : PcD := ⟨[7, 11, 32], [.i .i32, .i .i64, .b], [⟨.ret, [6], [.b], []⟩, ⟨.normal, [], [], []⟩], P153_17004⟩
def Lam153 : LEnv := lamOf [] [] [7004, 14004, 17004] [(7004, pcK D153_7004), (14004, pcK D153_14004), (17004, pcK D153_17004)]
theorem pok153_17004 : PieceOK Tryz.prog E153 Lam153 (nthP Lam153 (bodyOf Tryz.f153) 2) := pc_ok D153_17004 (fun _ _ _ => by kernel_rfl) (by kernel_rfl) (fun _ _ _ _ _ => by kernel_rfl)
theorem pok153_14004 : PieceOK Tryz.prog E153 Lam153 (nthP Lam153 (bodyOf Tryz.f153) 1) := pc_ok D153_14004 (fun _ _ _ => by kernel_rfl) (by kernel_rfl) (fun _ _ _ _ _ => by kernel_rfl)
theorem pok153_7004 : PieceOK Tryz.prog E153 Lam153 (nthP Lam153 (bodyOf Tryz.f153) 0) := pc_ok D153_7004 (fun _ _ _ => by kernel_rfl) (by kernel_rfl) (fun _ _ _ _ _ _ _ => by kernel_rfl)
def E154 : Env := ext E153 153 G153
theorem S154 (w0 : World) : SP w0 E154 := sg (S153 w0) Tryz.func153 Tryz.call153 (Λ := Lam153) 0 trivial 3 ⟨pok153_7004, pok153_14004, pok153_17004, trivial⟩ (by kernel_rfl) true (fun _ _ _ _ _ => by kernel_rfl)
def P154_8102 (b_3 o_3 : Nat) (x_7 : Int) (m : Mem) (kr : Int → Mem → Prop) : Prop :=
 ldI .u32 m b_3 (o_3 + 5) fun x17 => F140 x17 16 m fun x18 m19 => kr (IntKind.wrap .u32 (x_7 + (IntKind.wrap .u32 (x18 * 4)))) m19
def P154_5004 (x_2 : Int) (b_3 o_3 : Nat) (x_7 : Int) (x_15 : Bool) (m : Mem) (kr : Int → Mem → Prop) (kn : Mem → Prop) : Prop :=
 kif x_15 (ldI .u32 m b_3 (o_3 + 5) fun x8 => kr (bits .or .u32 (bits .and .u32 x_7 4026531840) (IntKind.wrap .u32 ((bits .and .u32 x8 67108863) * 4))) m) (ldI .i64 m b_3 (o_3 + 0) fun x9 => kif (x9 == 7) (kr x_2 m) (ldI .i64 m b_3 (o_3 + 0) fun x10 => kif (x10 == 8) (kr x_2 m) (kn  m)))
def F154 (c_0 : Nat → AV) (x_1 : Int) (x_2 : Int) (m : Mem) (k : Int → Mem → Prop) : Prop :=
 newK m ⟨6, c_0, 32, false⟩ fun b2 m1 => ldG 6 m1 b2 0 fun c3 => F94 c3 m1 fun x4 m5 => kif (x4 != 3) ((Keeps m m5 ∧ k (IntKind.wrap .u32 (x_1 + 4)) m)) (ldI .i64 m5 b2 0 fun x6 => kif (x6 == 40) (P154_5004 x_2 b2 0 (IntKind.wrap .u32 (x_1 + 4)) true m5 (fun x11 m12 => (Keeps m m12 ∧ k x11 m)) (fun m13 => P154_8102 b2 0 (IntKind.wrap .u32 (x_1 + 4)) m13 (fun x20 m21 => (Keeps m m21 ∧ k x20 m)))) (ldI .i64 m5 b2 0 fun x7 => P154_5004 x_2 b2 0 (IntKind.wrap .u32 (x_1 + 4)) (x7 == 41) m5 (fun x14 m15 => (Keeps m m15 ∧ k x14 m)) (fun m16 => P154_8102 b2 0 (IntKind.wrap .u32 (x_1 + 4)) m16 (fun x22 m23 => (Keeps m m23 ∧ k x22 m)))))
def G154 := Gs [.g 6, .i .u32, .i .u32] [.i .u32] F154
def D154_5004 : PcD := ⟨[2, 3, 7, 15], [.i .u32, .p, .i .u32, .b], [⟨.ret, [6], [.i .u32], []⟩, ⟨.normal, [], [], [3, 7]⟩], P154_5004⟩
def D154_8102 : PcD := ⟨[3, 7], [.p, .i .u32], [⟨.ret, [6], [.i .u32], []⟩], P154_8102⟩
def Lam154 : LEnv := lamOf [] [] [5004, 8102] [(5004, pcK D154_5004), (8102, pcK D154_8102)]
theorem pok154_8102 : PieceOK Tryz.prog E154 Lam154 (nthP Lam154 (bodyOf Tryz.f154) 0) := pc_ok D154_8102 (fun _ _ _ => by kernel_rfl) (by kernel_rfl) (fun _ _ _ _ _ => by kernel_rfl)
theorem pok154_5004 : PieceOK Tryz.prog E154 Lam154 (nthP Lam154 (bodyOf Tryz.f154) 1) := pc_ok D154_5004 (fun _ _ _ => by kernel_rfl) (by kernel_rfl) (fun _ _ _ _ _ _ _ => by kernel_rfl)
def E155 : Env := ext E154 154 G154
theorem S155 (w0 : World) : SP w0 E155 := sg (S154 w0) Tryz.func154 Tryz.call154 (Λ := Lam154) 0 trivial 2 ⟨pok154_8102, pok154_5004, trivial⟩ (by kernel_rfl) true (fun _ _ _ _ _ => by kernel_rfl)
def P155_5004 (b_1 o_1 : Nat) (x_5 : Int) (x_6 : Bool) (m : Mem) (kr : Int → Bool → Mem → Prop) (kn : Mem → Prop) : Prop :=
 kif x_6 (kr 31 true m) (kif (x_5 == 8) (ldI .i64 m b_1 (o_1 + 3) fun x4 => kr x4 true m) (kn  m))
def F155 (c_0 : Nat → AV) (m : Mem) (k : Int → Bool → Mem → Prop) : Prop :=
 newK m ⟨6, c_0, 32, false⟩ fun b2 m1 => ldI .i64 m1 b2 0 fun x3 => kif (x3 == 41) (P155_5004 b2 0 x3 (x3 == 41) m1 (fun x5 x6 m7 => (Keeps m m7 ∧ k x5 x6 m)) (fun m8 => (Keeps m m8 ∧ k 0 false m))) (kif (x3 == 38) (P155_5004 b2 0 x3 (x3 == 38) m1 (fun x9 x10 m11 => (Keeps m m11 ∧ k x9 x10 m)) (fun m12 => (Keeps m m12 ∧ k 0 false m))) (P155_5004 b2 0 x3 (x3 == 39) m1 (fun x13 x14 m15 => (Keeps m m15 ∧ k x13 x14 m)) (fun m16 => (Keeps m m16 ∧ k 0 false m))))
def G155 := Gs [.g 6] [.i .i64, .b] F155
def D155_5004 : PcD := ⟨[1, 5, 6], [.p, .i .i64, .b], [⟨.ret, [2, 3], [.i .i64, .b], []⟩, ⟨.normal, [], [], []⟩], P155_5004⟩
def Lam155 : LEnv := lamOf [] [] [5004] [(5004, pcK D155_5004)]
theorem pok155_5004 : PieceOK Tryz.prog E155 Lam155 (nthP Lam155 (bodyOf Tryz.f155) 0) := pc_ok D155_5004 (fun _ _ _ => by kernel_rfl) (by kernel_rfl) (fun _ _ _ _ _ _ => by kernel_rfl)
def E111 : Env := ext E155 155 G155
theorem S111 (w0 : World) : SP w0 E111 := sg (S155 w0) Tryz.func155 Tryz.call155 (Λ := Lam155) 0 trivial 1 ⟨pok155_5004, trivial⟩ (by kernel_rfl) true (fun _ _ _ => by kernel_rfl)
def P111_6102 (b_0 o_0 : Nat) (b_5 o_5 : Nat) (x_8 : Int) (m : Mem) (kn : Mem → Prop) : Prop :=
 ldG 6 m b_5 o_5 fun c15 => F94 c15 m fun x16 m17 => stC m17 b_0 (o_0 + 36) (.flat (.bool (x16 == 3))) fun m18 => ldG 6 m18 b_5 o_5 fun c19 => F155 c19 m18 fun x20 x21 m22 => kif x21 (F142 b_0 o_0 x20 (IntKind.wrap .u32 (x_8 + 8)) m22 fun m23 => kn  m23) (kn  m22)
def F111 (b_0 o_0 : Nat) (c_1 : Nat → AV) (x_2 : Int) (x_3 : Int) (m : Mem) (k : Mem → Prop) : Prop :=
 newK m ⟨6, c_1, 32, false⟩ fun b2 m1 => ldI .u32 m1 b_0 (o_0 + 34) fun x3 => ldI .u32 m1 b_0 (o_0 + 35) fun x4 => stC m1 b_0 (o_0 + 34) (.flat (.int .u32 x4)) fun m5 => ldI .u32 m5 b_0 (o_0 + 34) fun x6 => stC m5 b_0 (o_0 + 35) (.flat (.int .u32 (IntKind.wrap .u32 (x6 + 4)))) fun m7 => ldG 6 m7 b2 0 fun c8 => F153 c8 x_2 x_3 m7 fun x9 m10 => kif x9 (ldG 6 m10 b2 0 fun c11 => F154 c11 x3 x_2 m10 fun x12 m13 => stC m13 b_0 (o_0 + 35) (.flat (.int .u32 x12)) fun m14 => P111_6102 b_0 o_0 b2 0 x3 m14 (fun m24 => k  m24)) (P111_6102 b_0 o_0 b2 0 x3 m10 (fun m25 => k  m25))
def G111 := Gs [.p, .g 6, .i .u32, .i .u32] [] F111
def D111_6102 : PcD := ⟨[0, 5, 8], [.p, .p, .i .u32], [⟨.normal, [], [], []⟩], P111_6102⟩
def Lam111 : LEnv := lamOf [] [] [6102] [(6102, pcK D111_6102)]
theorem pok111_6102 : PieceOK Tryz.prog E111 Lam111 (nthP Lam111 (bodyOf Tryz.f111) 0) := pc_ok D111_6102 (fun _ _ _ => by kernel_rfl) (by kernel_rfl) (fun _ _ _ _ _ _ _ => by kernel_rfl)
def E76 : Env := ext E111 111 G111
theorem S76 (w0 : World) : SP w0 E76 := sg (S111 w0) Tryz.func111 Tryz.call111 (Λ := Lam111) 0 trivial 1 ⟨pok111_6102, trivial⟩ (by kernel_rfl) false (fun _ _ _ _ _ _ _ => by kernel_rfl)
def P76_22102 (b_0 o_0 : Nat) (b_1 o_1 : Nat) (m : Mem) (kr : Int → Mem → Prop) : Prop :=
 F60 b_1 o_1 m fun x36 m37 => F59 b_0 o_0 x36 m37 fun m38 => kr (-1) m38
def P76_17103 (b_0 o_0 : Nat) (b_1 o_1 : Nat) (b_5 o_5 : Nat) (x_7 : Int) (x_8 : Bool) (x_9 : Int) (x_10 : Int) (m : Mem) (kr : Int → Mem → Prop) : Prop :=
 kif (x_7 != (-1)) (F74 b_0 o_0 b_1 o_1 x_7 x_8 m fun x29 m30 => kr x29 m30) (F77 b_0 o_0 1 m fun x31 m32 => ldI .i64 m32 b_5 (o_5 + 0) fun x33 => kif (x33 != 60) (ldG 6 m32 b_5 o_5 fun c34 => F111 b_0 o_0 c34 x_9 x_10 m32 fun m35 => P76_22102 b_0 o_0 b_1 o_1 m35 (fun x39 m40 => kr x39 m40)) (P76_22102 b_0 o_0 b_1 o_1 m32 (fun x41 m42 => kr x41 m42)))
def F76 (b_0 o_0 : Nat) (b_1 o_1 : Nat) (c_2 : Nat → AV) (m : Mem) (k : Int → Mem → Prop) : Prop :=
 newK m ⟨6, c_2, 32, false⟩ fun b2 m1 => ldG 6 m1 b2 0 fun c3 => F105 b_0 o_0 c3 m1 fun x4 m5 => kif (x4 != (-1)) (F74 b_0 o_0 b_1 o_1 x4 false m5 fun x6 m7 => k x6 m7) (ldI .i64 m5 b2 1 fun x8 => kif (decide (0 ≤ x8) && decide (x8 < 32)) (ldI .u32 m5 b_0 (o_0 + 0 + (x8).toNat * 1) fun x9 => ldI .i64 m5 b2 2 fun x10 => kif (decide (0 ≤ x10) && decide (x10 < 32)) (ldI .u32 m5 b_0 (o_0 + 0 + (x10).toNat * 1) fun x11 => ldG 6 m5 b2 0 fun c12 => F94 c12 m5 fun x13 m14 => kif (x13 == 4) (ldG 6 m14 b2 0 fun c15 => F106 b_0 o_0 b_1 o_1 c15 m14 fun x16 x17 m18 => P76_17103 b_0 o_0 b_1 o_1 b2 0 x16 x17 x9 x11 m18 (fun x43 m44 => k x43 m44)) (kif (x13 == 5) (ldG 6 m14 b2 0 fun c19 => F107 b_0 o_0 b_1 o_1 c19 m14 fun x20 x21 m22 => P76_17103 b_0 o_0 b_1 o_1 b2 0 x20 x21 x9 x11 m22 (fun x45 m46 => k x45 m46)) (kif (x13 == 6) (ldI .i64 m14 b2 0 fun x23 => kif (x23 == 60) (F108 b_0 o_0 m14 fun m24 => P76_17103 b_0 o_0 b_1 o_1 b2 0 x4 false x9 x11 m24 (fun x47 m48 => k x47 m48)) (ldG 6 m14 b2 0 fun c25 => F109 b_0 o_0 c25 m14 fun m26 => P76_17103 b_0 o_0 b_1 o_1 b2 0 x4 false x9 x11 m26 (fun x49 m50 => k x49 m50))) (ldG 6 m14 b2 0 fun c27 => F110 b_0 o_0 c27 m14 fun m28 => P76_17103 b_0 o_0 b_1 o_1 b2 0 x4 false x9 x11 m28 (fun x51 m52 => k x51 m52))))) False) False)
def G76 := Gs [.p, .p, .g 6] [.i .i64] F76
def D76_17103 : PcD := ⟨[0, 1, 5, 7, 8, 9, 10], [.p, .p, .p, .i .i64, .b, .i .u32, .i .u32], [⟨.ret, [6], [.i .i64], []⟩], P76_17103⟩
def D76_22102 : PcD := ⟨[0, 1], [.p, .p], [⟨.ret, [6], [.i .i64], []⟩], P76_22102⟩
def Lam76 : LEnv := lamOf [] [] [17103, 22102] [(17103, pcK D76_17103), (22102, pcK D76_22102)]
theorem pok76_22102 : PieceOK Tryz.prog E76 Lam76 (nthP Lam76 (bodyOf Tryz.f76) 1) := pc_ok D76_22102 (fun _ _ _ => by kernel_rfl) (by kernel_rfl) (fun _ _ _ _ _ _ => by kernel_rfl)
theorem pok76_17103 : PieceOK Tryz.prog E76 Lam76 (nthP Lam76 (bodyOf Tryz.f76) 0) := pc_ok D76_17103 (fun _ _ _ => by kernel_rfl) (by kernel_rfl) (fun _ _ _ _ _ _ _ _ _ _ _ _ => by kernel_rfl)
def E98 : Env := ext E76 76 G76
theorem S98 (w0 : World) : SP w0 E98 := sg (S76 w0) Tryz.func76 Tryz.call76 (Λ := Lam76) 0 trivial 2 ⟨pok76_17103, pok76_22102, trivial⟩ (by kernel_rfl) false (fun _ _ _ _ _ _ _ => by kernel_rfl)
def F98 (b_0 o_0 : Nat) (v_1 : AV) (m : Mem) (k : Mem → Prop) : Prop :=
 newK m ⟨40, Z40b, 192, false⟩ fun b2 m1 => slS 1 (.sl b2 0 40 (.ex 40)) none none fun v3 => slS 1 (.sl b_0 (o_0 + 0 + 0) 32 (.ex 32)) none none fun v4 => copS 1 v3 v4 m1 fun v5 m6 => ldI .u32 m6 b_0 (o_0 + 0 + 32) fun x7 => ldI .u32 m6 b_0 (o_0 + 0 + 33) fun x8 => stC m6 b2 32 (.flat (.int .u32 x7)) fun m9 => stC m9 b2 33 (.flat (.int .u32 x8)) fun m10 => F127 b2 0 v_1 m10 fun x11 m12 => slS 1 (.sl b_0 (o_0 + 0 + 0) 32 (.ex 32)) none none fun v13 => slS 1 (.sl b2 0 40 (.ex 40)) none none fun v14 => copS 1 v13 v14 m12 fun v15 m16 => ldI .u32 m16 b2 32 fun x17 => ldI .u32 m16 b2 33 fun x18 => stC m16 b_0 (o_0 + 0 + 32) (.flat (.int .u32 x17)) fun m19 => stC m19 b_0 (o_0 + 0 + 33) (.flat (.int .u32 x18)) fun m20 => F77 b_0 (o_0 + 0) 1 m20 fun x21 m22 => ldI .u32 m22 b_0 (o_0 + 0 + 35) fun x23 => stC m22 b_0 (o_0 + 0 + 34) (.flat (.int .u32 x23)) fun m24 => ldI .u32 m24 b_0 (o_0 + 0 + 35) fun x25 => stC m24 b_0 (o_0 + 0 + 35) (.flat (.int .u32 (IntKind.wrap .u32 (x25 + 4)))) fun m26 => stC m26 b_0 (o_0 + 0 + 36) (.flat (.bool false)) fun m27 => ldA m27 b_0 (o_0 + 73) fun v28 => kptr v28 fun b29 o30 => F60 b29 o30 m27 fun x31 m32 => F59 b_0 (o_0 + 0) x31 m32 fun m33 => k  m33
def G98 := Gs [.p, .a] [] F98
def E71 : Env := ext E98 98 G98
theorem S71 (w0 : World) : SP w0 E71 := sg0 (S98 w0) Tryz.func98 Tryz.call98 (by kernel_rfl) false (fun _ _ _ _ _ => by kernel_rfl)
def F71 (b_0 o_0 : Nat) (c_1 : Nat → AV) (v_2 : AV) (m : Mem) (k : Bool → Mem → Prop) : Prop :=
 newK m ⟨6, c_1, 32, false⟩ fun b2 m1 => ldG 6 m1 b2 0 fun c3 => F97 c3 m1 fun x4 m5 => kif x4 (F98 b_0 o_0 v_2 m5 fun m6 => k true m6) (ldA m5 b_0 (o_0 + 73) fun v7 => ldG 6 m5 b2 0 fun c8 => kptr v7 fun b9 o10 => F76 b_0 (o_0 + 0) b9 o10 c8 m5 fun x11 m12 => F39 b_0 o_0 m12 fun m13 => kif (x11 == (-1)) (ldG 6 m13 b2 0 fun c14 => F94 c14 m13 fun x15 m16 => k (x15 != 6) m16) (k false m13))
def G71 := Gs [.p, .g 6, .a] [.b] F71
def E42 : Env := ext E71 71 G71
theorem S42 (w0 : World) : SP w0 E42 := sg0 (S71 w0) Tryz.func71 Tryz.call71 (by kernel_rfl) false (fun _ _ _ _ _ _ => by kernel_rfl)
def P42_9103 (b_0 o_0 : Nat) (x_2 : Int) (b_4 o_4 : Nat) (x_7 : Int) (x_8 : Int) (x_9 : Int) (b_10 o_10 : Nat) (x_11 : Int) (v_21 : AV) (x_22 : Int) (x_23 : Int) (m : Mem) (k0 : Int → Mem → Prop) (kn : Int → Mem → Prop) : Prop :=
 ∃ Fr17 : Nat → Prop, Fr17 b_0 ∧ (ldA m b_0 (o_0 + 73) fun v18 => kptr v18 fun b19 o20 => F30 b19 o20 m fun v21 m22 => KeepsIn Fr17 m m22 ∧ (Fr17 b_4 ∧ (ldI .u32 m22 b_4 (o_4 + 0) fun x23 => kptr v21 fun b24 o25 => F32 b24 o25 (IntKind.wrap .u32 (x23 + x_11)) 4 m22 fun x26 x27 m28 => KeepsIn Fr17 m22 m28 ∧ (kif (!x27) (k0 x_8 m28) (ldA m28 b_4 (o_4 + 1) fun v29 => ksl v29 fun b30 o31 l32 p33 => kif (decide (0 ≤ x_9) && decide (x_9 < l32)) (ldI .u32 m28 b30 (o31 + (x_9).toNat * 1) fun x34 => kif (x26 != x34) (k0 x_8 m28) (ldG 6 m28 b_10 o_10 fun c35 => ldA m28 b_4 (o_4 + 3) fun v36 => ksl v36 fun b37 o38 l39 p40 => kif (decide (0 ≤ x_9) && decide (x_9 < l39)) (ldA m28 b37 (o38 + (x_9).toNat * 1) fun v41 => F71 b_0 o_0 c35 v41 m28 fun x42 m43 => kif (!x42) (k0 (IntKind.wrap .i64 (x_8 + 1)) m43) (kn (IntKind.wrap .i64 (x_8 + 1)) m43)) False)) False)))))
def R42_4 (b_0 o_0 : Nat) (x_2 : Int) (b_4 o_4 : Nat) (x_7 : Int) (v_21 : AV) (x_22 : Int) (x_8 : Int) (x_23 : Int) (m : Mem) (kn : Int → Int → Mem → Prop) (k0 : Int → Mem → Prop) : Prop :=
 kif (decide (x_23 < x_22)) (ksl v_21 fun b6 o7 l8 p9 => kif (decide (0 ≤ x_23) && decide (x_23 < l8)) (ldG 6 m b6 (o7 + (x_23).toNat * 6) fun c10 => newK m ⟨6, Z6, 32, false⟩ fun b12 m11 => stG 6 m11 b12 0 c10 fun m13 => kif (decide (x_8 ≥ x_2)) (k0 x_8 m13) (ldI .u32 m13 b_0 (o_0 + 0 + 34) fun x14 => kif (x14 != (IntKind.wrap .u32 (x_7 + (IntKind.wrap .u32 (IntKind.wrap .i64 (4 * x_23)))))) (k0 x_8 m13) (kif (decide (x_23 > 0)) (F40 b_0 o_0 m13 fun x15 m16 => kif x15 (k0 x_8 m16) (P42_9103 b_0 o_0 x_2 b_4 o_4 x_7 x_8 x_23 b12 0 (IntKind.wrap .u32 (IntKind.wrap .i64 (4 * x_23))) v_21 x_22 x_23 m16 (fun x44 m45 => k0 x44 m45) (fun x46 m47 => kn x46 (IntKind.wrap .i64 (x_23 + 1)) m47))) (P42_9103 b_0 o_0 x_2 b_4 o_4 x_7 x_8 x_23 b12 0 (IntKind.wrap .u32 (IntKind.wrap .i64 (4 * x_23))) v_21 x_22 x_23 m13 (fun x48 m49 => k0 x48 m49) (fun x50 m51 => kn x50 (IntKind.wrap .i64 (x_23 + 1)) m51))))) False) (k0 x_8 m)
def L42_4 (b_0 o_0 : Nat) (x_2 : Int) (b_4 o_4 : Nat) (x_7 : Int) (v_21 : AV) (x_22 : Int) : Nat → Int → Int → Mem → (Int → Mem → Prop) → Prop
 | 0, _, _,  _, _ => bump False
 | N + 1, x_8, x_23,  m, k0 => R42_4 b_0 o_0 x_2 b_4 o_4 x_7 v_21 x_22 x_8 x_23 m (fun x_8' x_23' m' => L42_4 b_0 o_0 x_2 b_4 o_4 x_7 v_21 x_22 N x_8' x_23' m' k0) k0
def F42 (b_0 o_0 : Nat) (c_1 : Nat → AV) (x_2 : Int) (m : Mem) (k : Int → Mem → Prop) : Prop :=
 newK m ⟨4, c_1, 85, false⟩ fun b2 m1 => ldI .u32 m1 b_0 (o_0 + 0 + 34) fun x3 => ldA m1 b2 2 fun v4 => klen v4 fun x5 => ∃ N54, L42_4 b_0 o_0 x_2 b2 0 x3 v4 x5 N54 0 0 m1 (fun x52 m53 => k x52 m53)
def G42 := Gs [.p, .g 4, .i .i64] [.i .i64] F42
def D42_4 : LpD := ⟨[0, 2, 4, 7, 21, 22], [.p, .i .i64, .p, .i .u32, .a, .i .i64], [8, 23], [.i .i64, .i .i64], [⟨.exit 0, [8], [.i .i64], []⟩], R42_4, L42_4⟩
def D42_9103 : PcD := ⟨[0, 2, 4, 7, 8, 9, 10, 11, 21, 22, 23], [.p, .i .i64, .p, .i .u32, .i .i64, .i .i64, .p, .i .u32, .a, .i .i64, .i .i64], [⟨.exit 0, [8], [.i .i64], []⟩, ⟨.normal, [8], [.i .i64], [0, 2, 4, 7, 21, 22, 23]⟩], P42_9103⟩
def Lam42 : LEnv := lamOf [(4, lpK D42_4)] [9] [9103] [(9103, pcK D42_9103)]
theorem pok42_9103 : PieceOK Tryz.prog E42 Lam42 (nthP Lam42 (bodyOf Tryz.f42) 0) := pc_ok D42_9103 (fun _ _ _ => by kernel_rfl) (by kernel_rfl) (fun _ _ _ _ _ _ _ _ _ _ _ _ _ _ _ _ => by kernel_rfl)
theorem lok42_4 : LoopOK Tryz.prog E42 Lam42 (nthL (bodyOf Tryz.f42) 0) := lp_ok D42_4 (fun _ _ _ => by kernel_rfl) (by kernel_rfl) (fun _ _ _ _ _ _ _ _ _ _ _ _ _ => by kernel_rfl) (fun _ _ _ _ _ _ _ _ _ _ _ _ _ _ => by kernel_rfl) (fun _ _ _ _ _ _ _ _ _ _ _ _ _ => by kernel_rfl)
def E99 : Env := ext E42 42 G42
theorem S99 (w0 : World) : SP w0 E99 := sg (S42 w0) Tryz.func42 Tryz.call42 (Λ := Lam42) 1 ⟨lok42_4, trivial⟩ 1 ⟨pok42_9103, trivial⟩ (by kernel_rfl) false (fun _ _ _ _ _ _ => by kernel_rfl)
def F99 (b_0 o_0 : Nat) (x_1 : Int) (m : Mem) (k : (Nat → AV) → Bool → Mem → Prop) : Prop :=
 newK m ⟨3, lget [(.flat (.int .i64 0)), (.flat (.int .i64 0)), (.flat (.int .i64 0))], 158, false⟩ fun b2 m1 => F89 b_0 o_0 m1 fun x3 x4 m5 => kif (!x4) (stG 3 m5 b2 0 (lget [(.flat (.int .i64 0)), (.flat (.int .i64 0)), (.flat (.int .i64 0))]) fun m6 => ldG 3 m6 b2 0 fun c18 => k c18 false m6) (kif (decide (x3 > x_1)) (stG 3 m5 b2 0 (lget [(.flat (.int .i64 0)), (.flat (.int .i64 0)), (.flat (.int .i64 0))]) fun m7 => ldG 3 m7 b2 0 fun c19 => k c19 false m7) (ldA m5 b_0 (o_0 + 0) fun v8 => ksl v8 fun b9 o10 l11 p12 => kif (decide (0 ≤ (0 : Int)) && decide ((0 : Int) < l11)) (ldG 3 m5 b9 (o10 + 0) fun c13 => newK m5 ⟨3, lget [(.flat (.int .i64 0)), (.flat (.int .i64 0)), (.flat (.int .i64 0))], 158, false⟩ fun b15 m14 => stG 3 m14 b15 0 c13 fun m16 => ldA m16 b_0 (o_0 + 0) fun v17 => bump False) False))
def G99 := Gs [.p, .i .i64] [.g 3, .b] F99
def E100 : Env := ext E99 99 G99
theorem S100 (w0 : World) : SP w0 E100 := sg0 (S99 w0) Tryz.func99 Tryz.call99 (by kernel_rfl) false (fun _ _ _ _ _ => by kernel_rfl)
def F100 (b_0 o_0 : Nat) (c_1 : Nat → AV) (m : Mem) (k : Mem → Prop) : Prop :=
 newK m ⟨3, c_1, 158, false⟩ fun b2 m1 => ldI .i64 m1 b2 1 fun x3 => kif (x3 == 1) (ldA m1 b_0 (o_0 + 3) fun v4 => ldI .i64 m1 b2 0 fun x5 => bump False) (kif (x3 == 2) (ldA m1 b_0 (o_0 + 4) fun v6 => ldI .i64 m1 b2 0 fun x7 => bump False) (kif (x3 == 3) (ldA m1 b_0 (o_0 + 5) fun v8 => ldI .i64 m1 b2 0 fun x9 => bump False) (kif (x3 == 4) (ldA m1 b_0 (o_0 + 6) fun v10 => ldI .i64 m1 b2 0 fun x11 => bump False) (kif (x3 == 5) (ldA m1 b_0 (o_0 + 7) fun v12 => ldI .i64 m1 b2 0 fun x13 => bump False) (k  m1)))))
def G100 := Gs [.p, .g 3] [] F100
def E72 : Env := ext E100 100 G100
theorem S72 (w0 : World) : SP w0 E72 := sg0 (S100 w0) Tryz.func100 Tryz.call100 (by kernel_rfl) false (fun _ _ _ _ _ => by kernel_rfl)
def R72_2 (b_0 o_0 : Nat) (x_1 : Int) (x_5 : Int) (m : Mem) (kn : Int → Mem → Prop) (k0 : Int → Mem → Prop) : Prop :=
 kif (decide (x_5 < 256)) (ldA m b_0 (o_0 + 1) fun v1 => kptr v1 fun b2 o3 => F99 b2 o3 x_1 m fun c4 x5 m6 => newK m6 ⟨3, lget [(.flat (.int .i64 0)), (.flat (.int .i64 0)), (.flat (.int .i64 0))], 158, false⟩ fun b8 m7 => stG 3 m7 b8 0 c4 fun m9 => kif (!x5) (k0 x_5 m9) (ldG 3 m9 b8 0 fun c10 => F100 b_0 o_0 c10 m9 fun m11 => kn (IntKind.wrap .i64 (x_5 + 1)) m11)) (k0 x_5 m)
def L72_2 (b_0 o_0 : Nat) (x_1 : Int) : Nat → Int → Mem → (Int → Mem → Prop) → Prop
 | 0, _,  _, _ => bump False
 | N + 1, x_5,  m, k0 => R72_2 b_0 o_0 x_1 x_5 m (fun x_5' m' => L72_2 b_0 o_0 x_1 N x_5' m' k0) k0
def F72 (b_0 o_0 : Nat) (x_1 : Int) (m : Mem) (k : Int → Mem → Prop) : Prop :=
 ∃ N14, L72_2 b_0 o_0 x_1 N14 0 m (fun x12 m13 => F101 b_0 o_0 m13 fun m15 => k x12 m15)
def G72 := Gs [.p, .i .i64] [.i .i64] F72
def D72_2 : LpD := ⟨[0, 1], [.p, .i .i64], [5], [.i .i64], [⟨.exit 0, [5], [.i .i64], [0]⟩], R72_2, L72_2⟩
def Lam72 : LEnv := lamOf [(2, lpK D72_2)] [] [] []
theorem lok72_2 : LoopOK Tryz.prog E72 Lam72 (nthL (bodyOf Tryz.f72) 0) := lp_ok D72_2 (fun _ _ _ => by kernel_rfl) (by kernel_rfl) (fun _ _ _ _ _ _ _ => by kernel_rfl) (fun _ _ _ _ _ _ _ _ => by kernel_rfl) (fun _ _ _ _ _ _ _ => by kernel_rfl)
def E75 : Env := ext E72 72 G72
theorem S75 (w0 : World) : SP w0 E75 := sg (S72 w0) Tryz.func72 Tryz.call72 (Λ := Lam72) 1 ⟨lok72_2, trivial⟩ 0 trivial (by kernel_rfl) false (fun _ _ _ _ _ => by kernel_rfl)
def F75 (b_0 o_0 : Nat) (b_1 o_1 : Nat) (m : Mem) (k : (Nat → AV) → Int → Bool → Mem → Prop) : Prop :=
 newK m ⟨6, Z6, 32, false⟩ fun b2 m1 => ldI .u32 m1 b_0 (o_0 + 34) fun x3 => F62 b_0 o_0 x3 4 false m1 fun x4 x5 x6 m7 => kif (x5 != (-1)) (ldI .u32 m7 b_0 (o_0 + 34) fun x8 => F103 b_0 o_0 x8 x5 m7 fun m9 => stG 6 m9 b2 0 (Z6) fun m10 => ldG 6 m10 b2 0 fun c19 => k c19 x5 x6 m10) (ldI .i64 m7 b_0 (o_0 + 72) fun x11 => F104 b_1 o_1 x4 4 x11 m7 fun x12 x13 m14 => kif (!x13) (stG 6 m14 b2 0 (Z6) fun m15 => ldG 6 m15 b2 0 fun c20 => k c20 6 false m15) (F93 x12 m14 fun c16 m17 => stG 6 m17 b2 0 c16 fun m18 => ldG 6 m18 b2 0 fun c21 => k c21 (-1) false m18))
def G75 := Gs [.p, .p] [.g 6, .i .i64, .b] F75
def E43 : Env := ext E75 75 G75
theorem S43 (w0 : World) : SP w0 E43 := sg0 (S75 w0) Tryz.func75 Tryz.call75 (by kernel_rfl) false (fun _ _ _ _ _ _ => by kernel_rfl)
def P43_7102 (b_0 o_0 : Nat) (b_1 o_1 : Nat) (m : Mem) (kr : Int → Mem → Prop) : Prop :=
 stC m b_0 (o_0 + 71) (.flat (.bool false)) fun m10 => F61 b_0 o_0 m10 fun x11 m12 => kif x11 (F74 b_0 o_0 b_1 o_1 0 false m12 fun x13 m14 => kr x13 m14) (F75 b_0 o_0 b_1 o_1 m12 fun c15 x16 x17 m18 => newK m18 ⟨6, Z6, 32, false⟩ fun b20 m19 => stG 6 m19 b20 0 c15 fun m21 => kif (x16 != (-1)) (F74 b_0 o_0 b_1 o_1 x16 x17 m21 fun x22 m23 => kr x22 m23) (ldG 6 m21 b20 0 fun c24 => F76 b_0 o_0 b_1 o_1 c24 m21 fun x25 m26 => kr x25 m26))
def F43 (b_0 o_0 : Nat) (b_1 o_1 : Nat) (m : Mem) (k : Int → Mem → Prop) : Prop :=
 ldI .i64 m b_0 (o_0 + 72) fun x1 => F72 b_1 o_1 x1 m fun x2 m3 => F60 b_1 o_1 m3 fun x4 m5 => F59 b_0 o_0 x4 m5 fun m6 => ldB m6 b_0 (o_0 + 71) fun x7 => kif x7 (F73 b_0 o_0 m6 fun x8 m9 => kif (!x8) (k (-2) m9) (P43_7102 b_0 o_0 b_1 o_1 m9 (fun x27 m28 => k x27 m28))) (P43_7102 b_0 o_0 b_1 o_1 m6 (fun x29 m30 => k x29 m30))
def G43 := Gs [.p, .p] [.i .i64] F43
def D43_7102 : PcD := ⟨[0, 1], [.p, .p], [⟨.ret, [4], [.i .i64], []⟩], P43_7102⟩
def Lam43 : LEnv := lamOf [] [] [7102] [(7102, pcK D43_7102)]
theorem pok43_7102 : PieceOK Tryz.prog E43 Lam43 (nthP Lam43 (bodyOf Tryz.f43) 0) := pc_ok D43_7102 (fun _ _ _ => by kernel_rfl) (by kernel_rfl) (fun _ _ _ _ _ _ => by kernel_rfl)
def E44 : Env := ext E43 43 G43
theorem S44 (w0 : World) : SP w0 E44 := sg (S43 w0) Tryz.func43 Tryz.call43 (Λ := Lam43) 0 trivial 1 ⟨pok43_7102, trivial⟩ (by kernel_rfl) false (fun _ _ _ _ _ _ => by kernel_rfl)
def P44_15102 (b_0 o_0 : Nat) (x_11 : Int) (m : Mem) (kr : Int → Bool → Mem → Prop) : Prop :=
 F77 b_0 o_0 x_11 m fun x12 m13 => kr x_11 true m13
def P44_14002 (b_0 o_0 : Nat) (x_11 : Int) (x_12 : Int) (m : Mem) (kn : Int → Mem → Prop) : Prop :=
 kn (if x_12 < x_11 then x_12 else x_11) m
def P44_10103 (b_0 o_0 : Nat) (x_10 : Bool) (x_11 : Int) (m : Mem) (kr : Int → Bool → Mem → Prop) : Prop :=
 kif x_10 (ldI .u32 m b_0 (o_0 + 39 + 11) fun x6 => ldI .u32 m b_0 (o_0 + 39 + 9) fun x7 => kif ((IntKind.wrap .i64 (IntKind.wrap .u32 (x6 - x7))) == 0) (P44_14002 b_0 o_0 x_11 4294967296 m (fun x8 m9 => P44_15102 b_0 o_0 x8 m9 (fun x14 x15 m16 => kr x14 x15 m16))) (P44_14002 b_0 o_0 x_11 (IntKind.wrap .i64 (IntKind.wrap .u32 (x6 - x7))) m (fun x10 m11 => P44_15102 b_0 o_0 x10 m11 (fun x17 x18 m19 => kr x17 x18 m19)))) (P44_15102 b_0 o_0 x_11 m (fun x20 x21 m22 => kr x20 x21 m22))
def P44_7102 (b_0 o_0 : Nat) (x_2 : Int) (x_8 : Int) (x_9 : Bool) (x_10 : Bool) (m : Mem) (kr : Int → Bool → Mem → Prop) : Prop :=
 kif x_9 (ldI .i64 m b_0 (o_0 + 72) fun x5 => P44_10103 b_0 o_0 x_10 (if (if (IntKind.wrap .i64 (x_8 - x5)) > 1 then (IntKind.wrap .i64 (x_8 - x5)) else 1) < x_2 then (if (IntKind.wrap .i64 (x_8 - x5)) > 1 then (IntKind.wrap .i64 (x_8 - x5)) else 1) else x_2) m (fun x23 x24 m25 => kr x23 x24 m25)) (P44_10103 b_0 o_0 x_10 x_2 m (fun x26 x27 m28 => kr x26 x27 m28))
def F44 (b_0 o_0 : Nat) (b_1 o_1 : Nat) (x_2 : Int) (m : Mem) (k : Int → Bool → Mem → Prop) : Prop :=
 F58 b_1 o_1 m fun x1 x2 m3 => ldI .u32 m3 b_0 (o_0 + 39 + 12) fun x4 => kif (!x2) (kif (!((bits .and .u32 x4 32768) != 0)) (k 0 false m3) (P44_7102 b_0 o_0 x_2 x1 x2 ((bits .and .u32 x4 32768) != 0) m3 (fun x29 x30 m31 => k x29 x30 m31))) (P44_7102 b_0 o_0 x_2 x1 x2 ((bits .and .u32 x4 32768) != 0) m3 (fun x32 x33 m34 => k x32 x33 m34))
def G44 := Gs [.p, .p, .i .i64] [.i .i64, .b] F44
def D44_7102 : PcD := ⟨[0, 2, 8, 9, 10], [.p, .i .i64, .i .i64, .b, .b], [⟨.ret, [6, 7], [.i .i64, .b], []⟩], P44_7102⟩
def D44_10103 : PcD := ⟨[0, 10, 11], [.p, .b, .i .i64], [⟨.ret, [6, 7], [.i .i64, .b], []⟩], P44_10103⟩
def D44_14002 : PcD := ⟨[0, 11, 12], [.p, .i .i64, .i .i64], [⟨.normal, [11], [.i .i64], [0]⟩], P44_14002⟩
def D44_15102 : PcD := ⟨[0, 11], [.p, .i .i64], [⟨.ret, [6, 7], [.i .i64, .b], []⟩], P44_15102⟩
def Lam44 : LEnv := lamOf [] [] [7102, 10103, 14002, 15102] [(7102, pcK D44_7102), (10103, pcK D44_10103), (14002, pcK D44_14002), (15102, pcK D44_15102)]
theorem pok44_15102 : PieceOK Tryz.prog E44 Lam44 (nthP Lam44 (bodyOf Tryz.f44) 2) := pc_ok D44_15102 (fun _ _ _ => by kernel_rfl) (by kernel_rfl) (fun _ _ _ _ _ => by kernel_rfl)
theorem pok44_14002 : PieceOK Tryz.prog E44 Lam44 (nthP Lam44 (bodyOf Tryz.f44) 3) := pc_ok D44_14002 (fun _ _ _ => by kernel_rfl) (by kernel_rfl) (fun _ _ _ _ _ _ => by kernel_rfl)
theorem pok44_10103 : PieceOK Tryz.prog E44 Lam44 (nthP Lam44 (bodyOf Tryz.f44) 1) := pc_ok D44_10103 (fun _ _ _ => by kernel_rfl) (by kernel_rfl) (fun _ _ _ _ _ _ => by kernel_rfl)
theorem pok44_7102 : PieceOK Tryz.prog E44 Lam44 (nthP Lam44 (bodyOf Tryz.f44) 0) := pc_ok D44_7102 (fun _ _ _ => by kernel_rfl) (by kernel_rfl) (fun _ _ _ _ _ _ _ _ => by kernel_rfl)
def E25 : Env := ext E44 44 G44
theorem S25 (w0 : World) : SP w0 E25 := sg (S44 w0) Tryz.func44 Tryz.call44 (Λ := Lam44) 0 trivial 4 ⟨pok44_7102, pok44_10103, pok44_15102, pok44_14002, trivial⟩ (by kernel_rfl) false (fun _ _ _ _ _ _ _ => by kernel_rfl)
def P25_9102 (b_0 o_0 : Nat) (x_1 : Int) (x_6 : Int) (m : Mem) (k1 : Int → Mem → Prop) (kr : Int → Int → Mem → Prop) (kn : Int → Mem → Prop) : Prop :=
 ldA m b_0 (o_0 + 73) fun v22 => kptr v22 fun b23 o24 => F43 b_0 (o_0 + 0) b23 o24 m fun x25 m26 => F39 b_0 o_0 m26 fun m27 => kif (x25 != (-2)) (k1 (IntKind.wrap .i64 (x_6 + 1)) m27) (ldA m27 b_0 (o_0 + 73) fun v28 => kptr v28 fun b29 o30 => F44 b_0 (o_0 + 0) b29 o30 (IntKind.wrap .i64 (x_1 - x_6)) m27 fun x31 x32 m33 => kif (!x32) (kr 2 x_6 m33) (kn (IntKind.wrap .i64 (x_6 + x31)) m33))
def P25_6004 (b_0 o_0 : Nat) (x_1 : Int) (x_6 : Int) (x_29 : Bool) (m : Mem) (k1 : Int → Mem → Prop) (kn : Int → Mem → Prop) : Prop :=
 kif x_29 (F41 b_0 o_0 m fun c5 x6 m7 => newK m7 ⟨4, lget [(.flat (.int .u32 0)), (.flat (.slice none 0 0)), (.flat (.slice none 0 0)), (.flat (.slice none 0 0))], 85, false⟩ fun b9 m8 => stG 4 m8 b9 0 c5 fun m10 => kif x6 (ldG 4 m10 b9 0 fun c11 => F42 b_0 o_0 c11 (IntKind.wrap .i64 (x_1 - x_6)) m10 fun x12 m13 => k1 (IntKind.wrap .i64 (x_6 + x12)) m13) (kn x_6 m10)) (kn x_6 m)
def R25_3 (b_0 o_0 : Nat) (x_1 : Int) (x_6 : Int) (m : Mem) (kn : Int → Mem → Prop) (k0 : Int → Mem → Prop) (kr : Int → Int → Mem → Prop) : Prop :=
 kif (decide (x_6 < x_1)) (F39 b_0 o_0 m fun m1 => ldB m1 b_0 (o_0 + 0 + 36) fun x2 => kif (!x2) (F40 b_0 o_0 m1 fun x3 m4 => P25_6004 b_0 o_0 x_1 x_6 (!x3) m4 (fun x14 m15 => kn x14 m15) (fun x16 m17 => P25_9102 b_0 o_0 x_1 x16 m17 (fun x34 m35 => kn x34 m35) (fun x36 x37 m38 => kr x36 x37 m38) (fun x39 m40 => kn x39 m40))) (P25_6004 b_0 o_0 x_1 x_6 false m1 (fun x18 m19 => kn x18 m19) (fun x20 m21 => P25_9102 b_0 o_0 x_1 x20 m21 (fun x41 m42 => kn x41 m42) (fun x43 x44 m45 => kr x43 x44 m45) (fun x46 m47 => kn x46 m47)))) (k0 x_6 m)
def L25_3 (b_0 o_0 : Nat) (x_1 : Int) : Nat → Int → Mem → (Int → Mem → Prop) → (Int → Int → Mem → Prop) → Prop
 | 0, _,  _, _, _ => bump False
 | N + 1, x_6,  m, k0, kr => R25_3 b_0 o_0 x_1 x_6 m (fun x_6' m' => L25_3 b_0 o_0 x_1 N x_6' m' k0 kr) k0 kr
def F25 (b_0 o_0 : Nat) (x_1 : Int) (m : Mem) (k : Int → Int → Mem → Prop) : Prop :=
 ∃ N53, L25_3 b_0 o_0 (if 1099511627776 < x_1 then 1099511627776 else x_1) N53 0 m (fun x48 m49 => k 1 x48 m49) (fun x50 x51 m52 => k x50 x51 m52)
def G25 := Gs [.p, .i .i64] [.i .i64, .i .i64] F25
def D25_3 : LpD := ⟨[0, 1], [.p, .i .i64], [6], [.i .i64], [⟨.exit 0, [6], [.i .i64], []⟩, ⟨.ret, [4, 5], [.i .i64, .i .i64], []⟩], R25_3, L25_3⟩
def D25_6004 : PcD := ⟨[0, 1, 6, 29], [.p, .i .i64, .i .i64, .b], [⟨.exit 1, [6], [.i .i64], [0, 1]⟩, ⟨.normal, [6], [.i .i64], [0, 1]⟩], P25_6004⟩
def D25_9102 : PcD := ⟨[0, 1, 6], [.p, .i .i64, .i .i64], [⟨.exit 1, [6], [.i .i64], [0, 1]⟩, ⟨.ret, [4, 5], [.i .i64, .i .i64], []⟩, ⟨.normal, [6], [.i .i64], [0, 1]⟩], P25_9102⟩
def Lam25 : LEnv := lamOf [(3, lpK D25_3)] [] [6004, 9102] [(6004, pcK D25_6004), (9102, pcK D25_9102)]
theorem pok25_9102 : PieceOK Tryz.prog E25 Lam25 (nthP Lam25 (bodyOf Tryz.f25) 0) := pc_ok D25_9102 (fun _ _ _ => by kernel_rfl) (by kernel_rfl) (fun _ _ _ _ _ _ => by kernel_rfl)
theorem pok25_6004 : PieceOK Tryz.prog E25 Lam25 (nthP Lam25 (bodyOf Tryz.f25) 1) := pc_ok D25_6004 (fun _ _ _ => by kernel_rfl) (by kernel_rfl) (fun _ _ _ _ _ _ _ => by kernel_rfl)
theorem lok25_3 : LoopOK Tryz.prog E25 Lam25 (nthL (bodyOf Tryz.f25) 0) := lp_ok D25_3 (fun _ _ _ => by kernel_rfl) (by kernel_rfl) (fun _ _ _ _ _ _ _ => by kernel_rfl) (fun _ _ _ _ _ _ _ _ => by kernel_rfl) (fun _ _ _ _ _ _ _ => by kernel_rfl)
def E26 : Env := ext E25 25 G25
theorem S26 (w0 : World) : SP w0 E26 := sg (S25 w0) Tryz.func25 Tryz.call25 (Λ := Lam25) 1 ⟨lok25_3, trivial⟩ 2 ⟨pok25_9102, pok25_6004, trivial⟩ (by kernel_rfl) false (fun _ _ _ _ _ => by kernel_rfl)
def F26 (b_0 o_0 : Nat) (m : Mem) (k : (Nat → AV) → Mem → Prop) : Prop :=
 newK m ⟨73, Z73, 46, false⟩ fun b2 m1 => ldG 73 m1 b_0 (o_0 + 0) fun c3 => stG 73 m1 b2 0 c3 fun m4 => ldG 73 m4 b2 0 fun c5 => (Keeps m m4 ∧ InDomG 73 m c5 ∧ k c5 m)
def G26 := Gs [.p] [.g 73] F26
def E29 : Env := ext E26 26 G26
theorem S29 (w0 : World) : SP w0 E29 := sg0 (S26 w0) Tryz.func26 Tryz.call26 (by kernel_rfl) true (fun _ _ _ _ => by kernel_rfl)
def F29 (b_0 o_0 : Nat) (m : Mem) (k : AV → Mem → Prop) : Prop :=
 ldA m b_0 (o_0 + 73) fun v1 => k v1 m
def G29 := Gs [.p] [.a] F29
def E33 : Env := ext E29 29 G29
theorem S33 (w0 : World) : SP w0 E33 := sg0 (S29 w0) Tryz.func29 Tryz.call29 (by kernel_rfl) false (fun _ _ _ _ => by kernel_rfl)
def F33 (v_0 : AV) (v_1 : AV) (m : Mem) (k : AV → Mem → Prop) : Prop :=
 mkS [(.flat (.int .u8 0))] 1 5 4096 4096 m fun b1 m2 => slS 1 (.sl b1 0 4096 (.ex 4096)) (some 384) none fun v3 => copS 1 v3 v_1 m2 fun v4 m5 => slS 1 (.sl b1 0 4096 (.ex 4096)) (some 1024) none fun v6 => copS 1 v6 v_0 m5 fun v7 m8 => k (.sl b1 0 4096 (.ex 4096)) m8
def G33 := Gs [.a, .a] [.a] F33
def E78 : Env := ext E33 33 G33
theorem S78 (w0 : World) : SP w0 E78 := sg0 (S33 w0) Tryz.func33 Tryz.call33 (by kernel_rfl) false (fun _ _ _ _ => by kernel_rfl)
def F78  (m : Mem) (k : (Nat → AV) → Mem → Prop) : Prop :=
 newK m ⟨73, Z73, 46, false⟩ fun b2 m1 => newK m1 ⟨73, Z73, 46, false⟩ fun b4 m3 => stG 73 m3 b4 0 (upd (upd (Z73) 34 (.flat (.int .u32 2147484672))) 35 (.flat (.int .u32 2147484676))) fun m5 => stC m5 b4 54 (.flat (.int .u32 98304)) fun m6 => ldG 73 m6 b4 0 fun c7 => stG 73 m6 b2 0 c7 fun m8 => ldG 73 m8 b2 0 fun c9 => (Keeps m m8 ∧ InDomG 73 m c9 ∧ k c9 m)
def G78 := Gs [] [.g 73] F78
def E31 : Env := ext E78 78 G78
theorem S31 (w0 : World) : SP w0 E31 := sg0 (S78 w0) Tryz.func78 Tryz.call78 (by kernel_rfl) true (fun _ _ => by kernel_rfl)
def F31 (b_0 o_0 : Nat) (x_1 : Int) (v_2 : AV) (m : Mem) (k : Bool → Mem → Prop) : Prop :=
 klen v_2 fun x1 => F45 b_0 o_0 x_1 x1 m fun x2 m3 => kif (!x2) (k false m3) (ldA m3 b_0 (o_0 + 0) fun v4 => slS 1 v4 (some x_1) none fun v5 => copS 1 v5 v_2 m3 fun v6 m7 => klen v_2 fun x8 => F46 b_0 o_0 x_1 x8 m7 fun m9 => k true m9)
def G31 := Gs [.p, .i .u32, .a] [.b] F31
def E112 : Env := ext E31 31 G31
theorem S112 (w0 : World) : SP w0 E112 := sg0 (S31 w0) Tryz.func31 Tryz.call31 (by kernel_rfl) false (fun _ _ _ _ _ _ => by kernel_rfl)
def F112 (x_0 : Int) (m : Mem) (k : AV → Mem → Prop) : Prop :=
 mkS [(.flat (.int .u8 0))] 1 5 (IntKind.wrap .i64 ((if (if 64 < x_0 then 64 else x_0) > 1 then (if 64 < x_0 then 64 else x_0) else 1) * 1024)) (IntKind.wrap .i64 ((if (if 64 < x_0 then 64 else x_0) > 1 then (if 64 < x_0 then 64 else x_0) else 1) * 1024)) m fun b1 m2 => mkS [(.flat (.bool false))] 1 4 (if (if 64 < x_0 then 64 else x_0) > 1 then (if 64 < x_0 then 64 else x_0) else 1) (if (if 64 < x_0 then 64 else x_0) > 1 then (if 64 < x_0 then 64 else x_0) else 1) m2 fun b3 m4 => mkS [(.flat (.bool false))] 1 4 (if (if 64 < x_0 then 64 else x_0) > 1 then (if 64 < x_0 then 64 else x_0) else 1) (if (if 64 < x_0 then 64 else x_0) > 1 then (if 64 < x_0 then 64 else x_0) else 1) m4 fun b5 m6 => newK m6 ⟨3, (upd (upd (upd (lget [(.flat (.slice none 0 0)), (.flat (.slice none 0 0)), (.flat (.slice none 0 0))]) 0 (.sl b1 0 ((IntKind.wrap .i64 ((if (if 64 < x_0 then 64 else x_0) > 1 then (if 64 < x_0 then 64 else x_0) else 1) * 1024)).toNat) (.ex ((IntKind.wrap .i64 ((if (if 64 < x_0 then 64 else x_0) > 1 then (if 64 < x_0 then 64 else x_0) else 1) * 1024)).toNat)))) 1 (.sl b3 0 ((if (if 64 < x_0 then 64 else x_0) > 1 then (if 64 < x_0 then 64 else x_0) else 1).toNat) (.ex ((if (if 64 < x_0 then 64 else x_0) > 1 then (if 64 < x_0 then 64 else x_0) else 1).toNat)))) 2 (.sl b5 0 ((if (if 64 < x_0 then 64 else x_0) > 1 then (if 64 < x_0 then 64 else x_0) else 1).toNat) (.ex ((if (if 64 < x_0 then 64 else x_0) > 1 then (if 64 < x_0 then 64 else x_0) else 1).toNat)))), 103, false⟩ fun b8 m7 => k (.ptr b8 0) m7
def G112 := Gs [.i .i64] [.a] F112
def E113 : Env := ext E112 112 G112
theorem S113 (w0 : World) : SP w0 E113 := sg0 (S112 w0) Tryz.func112 Tryz.call112 (by kernel_rfl) false (fun _ _ _ => by kernel_rfl)
def F113  (m : Mem) (k : AV → Mem → Prop) : Prop :=
 newK m ⟨2, (lget [(.flat (.slice none 0 0)), (.flat (.int .i64 0))]), 182, false⟩ fun b2 m1 => k (.ptr b2 0) m1
def G113 := Gs [] [.a] F113
def E114 : Env := ext E113 113 G113
theorem S114 (w0 : World) : SP w0 E114 := sg0 (S113 w0) Tryz.func113 Tryz.call113 (by kernel_rfl) false (fun _ _ => by kernel_rfl)
def F114  (m : Mem) (k : AV → Mem → Prop) : Prop :=
 newK m ⟨2, (lget [(.flat (.int .u32 0)), (.flat (.int .u32 0))]), 184, false⟩ fun b2 m1 => k (.ptr b2 0) m1
def G114 := Gs [] [.a] F114
def E115 : Env := ext E114 114 G114
theorem S115 (w0 : World) : SP w0 E115 := sg0 (S114 w0) Tryz.func114 Tryz.call114 (by kernel_rfl) false (fun _ _ => by kernel_rfl)
def F115 (x_0 : Int) (b_1 o_1 : Nat) (m : Mem) (k : AV → Mem → Prop) : Prop :=
 newK m ⟨5, (upd (upd (lget [(.flat (.int .i64 0)), (.flat (.pointer none)), (.flat (.int .u32 0)), (.flat (.int .u32 0)), (.flat (.int .u32 0))]) 0 (.flat (.int .i64 x_0))) 1 (.ptr b_1 o_1)), 215, false⟩ fun b2 m1 => k (.ptr b2 0) m1
def G115 := Gs [.i .i64, .p] [.a] F115
def E116 : Env := ext E115 115 G115
theorem S116 (w0 : World) : SP w0 E116 := sg0 (S115 w0) Tryz.func115 Tryz.call115 (by kernel_rfl) false (fun _ _ _ _ _ => by kernel_rfl)
def F116 (x_0 : Int) (b_1 o_1 : Nat) (m : Mem) (k : AV → Mem → Prop) : Prop :=
 newK m ⟨7, (upd (upd (upd (upd (Z7) 0 (.flat (.int .i64 x_0))) 1 (.ptr b_1 o_1)) 2 .ch) 3 .ch), 218, false⟩ fun b2 m1 => k (.ptr b2 0) m1
def G116 := Gs [.i .i64, .p] [.a] F116
def E117 : Env := ext E116 116 G116
theorem S117 (w0 : World) : SP w0 E117 := sg0 (S116 w0) Tryz.func116 Tryz.call116 (by kernel_rfl) false (fun _ _ _ _ _ => by kernel_rfl)
def F117 (x_0 : Int) (b_1 o_1 : Nat) (b_2 o_2 : Nat) (m : Mem) (k : AV → Mem → Prop) : Prop :=
 newK m ⟨7, (upd (upd (upd (Z7b) 0 (.flat (.int .i64 x_0))) 1 (.ptr b_1 o_1)) 2 (.ptr b_2 o_2)), 220, false⟩ fun b2 m1 => k (.ptr b2 0) m1
def G117 := Gs [.i .i64, .p, .p] [.a] F117
def E118 : Env := ext E117 117 G117
theorem S118 (w0 : World) : SP w0 E118 := sg0 (S117 w0) Tryz.func117 Tryz.call117 (by kernel_rfl) false (fun _ _ _ _ _ _ _ => by kernel_rfl)
def F118 (x_0 : Int) (b_1 o_1 : Nat) (b_2 o_2 : Nat) (v_3 : AV) (m : Mem) (k : AV → Mem → Prop) : Prop :=
 klen v_3 fun x1 => mkS [(.flat (.int .u8 0))] 1 5 (IntKind.wrap .i64 ((if 64 < (IntKind.wrap .i64 ((IntKind.wrap .i64 ((IntKind.wrap .i64 (x1 + 64)) - 1)).tdiv 64)) then 64 else (IntKind.wrap .i64 ((IntKind.wrap .i64 ((IntKind.wrap .i64 (x1 + 64)) - 1)).tdiv 64))) * 64)) (IntKind.wrap .i64 ((if 64 < (IntKind.wrap .i64 ((IntKind.wrap .i64 ((IntKind.wrap .i64 (x1 + 64)) - 1)).tdiv 64)) then 64 else (IntKind.wrap .i64 ((IntKind.wrap .i64 ((IntKind.wrap .i64 (x1 + 64)) - 1)).tdiv 64))) * 64)) m fun b2 m3 => copS 1 (.sl b2 0 ((IntKind.wrap .i64 ((if 64 < (IntKind.wrap .i64 ((IntKind.wrap .i64 ((IntKind.wrap .i64 (x1 + 64)) - 1)).tdiv 64)) then 64 else (IntKind.wrap .i64 ((IntKind.wrap .i64 ((IntKind.wrap .i64 (x1 + 64)) - 1)).tdiv 64))) * 64)).toNat) (.ex ((IntKind.wrap .i64 ((if 64 < (IntKind.wrap .i64 ((IntKind.wrap .i64 ((IntKind.wrap .i64 (x1 + 64)) - 1)).tdiv 64)) then 64 else (IntKind.wrap .i64 ((IntKind.wrap .i64 ((IntKind.wrap .i64 (x1 + 64)) - 1)).tdiv 64))) * 64)).toNat))) v_3 m3 fun v4 m5 => newK m5 ⟨8, (upd (upd (upd (upd (Z8) 0 (.flat (.int .i64 x_0))) 1 (.ptr b_1 o_1)) 2 (.ptr b_2 o_2)) 3 (.sl b2 0 ((IntKind.wrap .i64 ((if 64 < (IntKind.wrap .i64 ((IntKind.wrap .i64 ((IntKind.wrap .i64 (x1 + 64)) - 1)).tdiv 64)) then 64 else (IntKind.wrap .i64 ((IntKind.wrap .i64 ((IntKind.wrap .i64 (x1 + 64)) - 1)).tdiv 64))) * 64)).toNat) (.ex ((IntKind.wrap .i64 ((if 64 < (IntKind.wrap .i64 ((IntKind.wrap .i64 ((IntKind.wrap .i64 (x1 + 64)) - 1)).tdiv 64)) then 64 else (IntKind.wrap .i64 ((IntKind.wrap .i64 ((IntKind.wrap .i64 (x1 + 64)) - 1)).tdiv 64))) * 64)).toNat)))), 222, false⟩ fun b7 m6 => k (.ptr b7 0) m6
def G118 := Gs [.i .i64, .p, .p, .a] [.a] F118
def E79 : Env := ext E118 118 G118
theorem S79 (w0 : World) : SP w0 E79 := sg0 (S118 w0) Tryz.func118 Tryz.call118 (by kernel_rfl) false (fun _ _ _ _ _ _ _ _ => by kernel_rfl)
def F79 (x_0 : Int) (v_1 : AV) (v_2 : AV) (m : Mem) (k : AV → Mem → Prop) : Prop :=
 F112 x_0 m fun v1 m2 => F113  m2 fun v3 m4 => klen v_1 fun x5 => kptr v1 fun b6 o7 => F63 b6 o7 m4 fun x8 m9 => slS 1 v_1 none (some (if (IntKind.wrap .i64 x8) < x5 then (IntKind.wrap .i64 x8) else x5)) fun v10 => kptr v1 fun b11 o12 => F31 b11 o12 0 v10 m9 fun x13 m14 => F114  m14 fun v15 m16 => kptr v3 fun b17 o18 => F115 1 b17 o18 m16 fun v19 m20 => kptr v3 fun b21 o22 => F115 2 b21 o22 m20 fun v23 m24 => kptr v3 fun b25 o26 => F116 3 b25 o26 m24 fun v27 m28 => kptr v3 fun b29 o30 => kptr v1 fun b31 o32 => F117 4 b29 o30 b31 o32 m28 fun v33 m34 => kptr v3 fun b35 o36 => kptr v1 fun b37 o38 => F118 5 b35 o36 b37 o38 v_2 m34 fun v39 m40 => kif (AV.one v1) (kif (AV.one v3) (kif (AV.one v15) (kif (AV.one v19) (kif (AV.one v23) (kif (AV.one v27) (kif (AV.one v33) (kif (AV.one v39) (newK m40 ⟨8, (upd (upd (upd (upd (upd (upd (upd (upd (Z8b) 0 v1) 1 v3) 2 v15) 3 v19) 4 v23) 5 v27) 6 v33) 7 v39), 100, false⟩ fun b42 m41 => k (.ptr b42 0) m41) False) False) False) False) False) False) False) False
def G79 := Gs [.i .i64, .a, .a] [.a] F79
def E48 : Env := ext E79 79 G79
theorem S48 (w0 : World) : SP w0 E48 := sg0 (S79 w0) Tryz.func79 Tryz.call79 (by kernel_rfl) false (fun _ _ _ _ _ => by kernel_rfl)
def F48 (x_0 : Int) (v_1 : AV) (v_2 : AV) (m : Mem) (k : AV → Int → Mem → Prop) : Prop :=
 kif (decide (x_0 < 1)) (k (.flat (.pointer none)) 1 m) (kif (decide (x_0 > 64)) (k (.flat (.pointer none)) 1 m) (klen v_1 fun x1 => kif (decide (x1 > (IntKind.wrap .i64 (x_0 * 1024)))) (k (.flat (.pointer none)) 1 m) (klen v_2 fun x2 => kif (decide (x2 > 4096)) (k (.flat (.pointer none)) 1 m) (F78  m fun c3 m4 => F79 x_0 v_1 v_2 m4 fun v5 m6 => kif (AV.one v5) (newK m6 ⟨74, (upd (splice (Z74) 0 73 c3) 73 v5), 141, false⟩ fun b8 m7 => k (.ptr b8 0) 0 m7) False))))
def G48 := Gs [.i .i64, .a, .a] [.a, .i .i64] F48
def E49 : Env := ext E48 48 G48
theorem S49 (w0 : World) : SP w0 E49 := sg0 (S48 w0) Tryz.func48 Tryz.call48 (by kernel_rfl) false (fun _ _ _ _ _ => by kernel_rfl)
def F49 (b_0 o_0 : Nat) (m : Mem) (k : (Nat → AV) → Mem → Prop) : Prop :=
 newK m ⟨73, Z73, 46, false⟩ fun b2 m1 => ldG 73 m1 b_0 (o_0 + 0) fun c3 => stG 73 m1 b2 0 c3 fun m4 => ldG 73 m4 b2 0 fun c5 => (Keeps m m4 ∧ InDomG 73 m c5 ∧ k c5 m)
def G49 := Gs [.p] [.g 73] F49
def E50 : Env := ext E49 49 G49
theorem S50 (w0 : World) : SP w0 E50 := sg0 (S49 w0) Tryz.func49 Tryz.call49 (by kernel_rfl) true (fun _ _ _ _ => by kernel_rfl)
def F50 (b_0 o_0 : Nat) (m : Mem) (k : AV → Mem → Prop) : Prop :=
 ldA m b_0 (o_0 + 73) fun v1 => k v1 m
def G50 := Gs [.p] [.a] F50
def E51 : Env := ext E50 50 G50
theorem S51 (w0 : World) : SP w0 E51 := sg0 (S50 w0) Tryz.func50 Tryz.call50 (by kernel_rfl) false (fun _ _ _ _ => by kernel_rfl)
def F51 (x_0 : Int) (m : Mem) (k : AV → Mem → Prop) : Prop :=
 mapNew m fun b1 m2 => newK m2 ⟨3, (upd (upd (lget [(.flat (.int .i64 0)), (.flat (.slice none 0 0)), (.flat (.map none))]) 0 (.flat (.int .i64 (if (if 256 < x_0 then 256 else x_0) > 1 then (if 256 < x_0 then 256 else x_0) else 1)))) 2 (.mp b1)), 145, false⟩ fun b4 m3 => k (.ptr b4 0) m3
def G51 := Gs [.i .i64] [.a] F51
def E34 : Env := ext E51 51 G51
theorem S34 (w0 : World) : SP w0 E34 := sg0 (S51 w0) Tryz.func51 Tryz.call51 (by kernel_rfl) false (fun _ _ _ => by kernel_rfl)
def F34 (x_0 : Int) (v_1 : AV) (v_2 : AV) (x_3 : Int) (m : Mem) (k : AV → Int → Mem → Prop) : Prop :=
 F48 x_0 v_1 v_2 m fun v1 x2 m3 => kif (x2 != 0) (k (.flat (.pointer none)) x2 m3) (kptr v1 fun b4 o5 => F49 b4 o5 m3 fun c6 m7 => kptr v1 fun b8 o9 => F50 b8 o9 m7 fun v10 m11 => F51 x_3 m11 fun v12 m13 => kif (AV.one v10) (kif (AV.one v12) (newK m13 ⟨78, (upd (upd (upd (splice (Z78) 0 73 c6) 73 v10) 74 v12) 75 (.flat (.int .i64 32))), 82, false⟩ fun b15 m14 => k (.ptr b15 0) 0 m14) False) False)
def G34 := Gs [.i .i64, .a, .a, .i .i64] [.a, .i .i64] F34
def E23 : Env := ext E34 34 G34
theorem S23 (w0 : World) : SP w0 E23 := sg0 (S34 w0) Tryz.func34 Tryz.call34 (by kernel_rfl) false (fun _ _ _ _ _ _ => by kernel_rfl)
def F23 (v_0 : AV) (v_1 : AV) (x_2 : Int) (m : Mem) (k : AV → Mem → Prop) : Prop :=
 F33 v_0 (.flat (.slice none 0 0)) m fun v1 m2 => F34 4 v1 v_1 x_2 m2 fun v3 x4 m5 => knilP v3 fun x6 => kif x6 (k (.flat (.pointer none)) m5) (kif (x4 != 0) (k (.flat (.pointer none)) m5) (kptr v3 fun b7 o8 => F29 b7 o8 m5 fun v9 m10 => knilP v9 fun x11 => kif x11 (k (.flat (.pointer none)) m10) (kptr v3 fun b12 o13 => F29 b12 o13 m10 fun v14 m15 => kptr v14 fun b16 o17 => F30 b16 o17 m15 fun v18 m19 => knilP v18 fun x20 => kif x20 (k (.flat (.pointer none)) m19) (k v3 m19))))
def G23 := Gs [.a, .a, .i .i64] [.a] F23
def E27 : Env := ext E23 23 G23
theorem S27 (w0 : World) : SP w0 E27 := sg0 (S23 w0) Tryz.func23 Tryz.call23 (by kernel_rfl) false (fun _ _ _ _ _ => by kernel_rfl)
def F27  (m : Mem) (k : Bool → Mem → Prop) : Prop :=
 F21 47 1 0 5 m fun c1 m2 => newK m2 ⟨6, splice (Z6) 0 6 c1, 32, false⟩ fun b4 m3 => F16 (.sl b4 0 1 (.ex 1)) m3 fun v5 m6 => F23 v5 (.flat (.slice none 0 0)) 4 m6 fun v7 m8 => knilP v7 fun x9 => kif x9 (k false m8) (kptr v7 fun b10 o11 => F25 b10 o11 3 m8 fun x12 x13 m14 => kif (x12 == 1) (kif (x13 == 3) (kptr v7 fun b15 o16 => F26 b15 o16 m14 fun c17 m18 => kI .u32 ((sub c17 0 32) 1) fun x19 => k (x19 == 5) m18) (k false m14)) (k false m14))
def G27 := Gs [] [.b] F27
def E9 : Env := ext E27 27 G27
theorem S9 (w0 : World) : SP w0 E9 := sg0 (S27 w0) Tryz.func27 Tryz.call27 (by kernel_rfl) false (fun _ _ => by kernel_rfl)
def R9_22 (v_0 : AV) (x_7 : Int) (b_15 o_15 : Nat) (x_16 : Int) (m : Mem) (kn : Int → Mem → Prop) (k4 : Mem → Prop) (kr : Bool → Mem → Prop) : Prop :=
 kif (decide (x_16 < x_7)) (kif (decide (0 ≤ IntKind.wrap .i64 (10 + x_16)) && decide (IntKind.wrap .i64 (10 + x_16) < 32)) (ldI .u32 m b_15 (o_15 + 0 + (IntKind.wrap .i64 (10 + x_16)).toNat * 1) fun x85 => ksl v_0 fun b86 o87 l88 p89 => kif (decide (0 ≤ x_16) && decide (x_16 < l88)) (ldI .u32 m b86 (o87 + (x_16).toNat * 1) fun x90 => kif (x85 != x90) (kr false m) (kn (IntKind.wrap .i64 (x_16 + 1)) m)) False) False) (k4  m)
def L9_22 (v_0 : AV) (x_7 : Int) (b_15 o_15 : Nat) : Nat → Int → Mem → (Mem → Prop) → (Bool → Mem → Prop) → Prop
 | 0, _,  _, _, _ => bump False
 | N + 1, x_16,  m, k4, kr => R9_22 v_0 x_7 b_15 o_15 x_16 m (fun x_16' m' => L9_22 v_0 x_7 b_15 o_15 N x_16' m' k4 kr) k4 kr
def R9_12 (v_0 : AV) (x_1 : Int) (x_2 : Int) (x_7 : Int) (v_11 : AV) (x_12 : Int) (m : Mem) (kn : Int → Mem → Prop) (k2 : Mem → Prop) : Prop :=
 kif (decide (x_12 < x_7)) (slS 1 v_11 (some (IntKind.wrap .i64 ((IntKind.wrap .i64 (2048 + (IntKind.wrap .i64 ((x_12.tmod 2) * 1024)))) + (IntKind.wrap .i64 (x_12 * 4))))) none fun v37 => ksl v_0 fun b38 o39 l40 p41 => kif (decide (0 ≤ x_12) && decide (x_12 < l40)) (ldI .u32 m b38 (o39 + (x_12).toNat * 1) fun x42 => ksl v_0 fun b43 o44 l45 p46 => kif (decide (0 ≤ x_12) && decide (x_12 < l45)) (ldI .u32 m b43 (o44 + (x_12).toNat * 1) fun x47 => ksl v_0 fun b48 o49 l50 p51 => kif (decide (0 ≤ x_12) && decide (x_12 < l50)) (ldI .u32 m b48 (o49 + (x_12).toNat * 1) fun x52 => ksl v_0 fun b53 o54 l55 p56 => kif (decide (0 ≤ x_12) && decide (x_12 < l55)) (ldI .u32 m b53 (o54 + (x_12).toNat * 1) fun x57 => newK m ⟨4, upd (upd (upd (upd (lget [(.flat (.int .u8 0)), (.flat (.int .u8 0)), (.flat (.int .u8 0)), (.flat (.int .u8 0))]) 0 (.flat (.int .u8 (IntKind.wrap .u8 (x42.fdiv 16777216))))) 1 (.flat (.int .u8 (IntKind.wrap .u8 (x47.fdiv 65536))))) 2 (.flat (.int .u8 (IntKind.wrap .u8 (x52.fdiv 256))))) 3 (.flat (.int .u8 (IntKind.wrap .u8 x57))), 5, false⟩ fun b59 m58 => copS 1 v37 (.sl b59 0 4 (.ex 4)) m58 fun v60 m61 => kn (IntKind.wrap .i64 (x_12 + 1)) m61) False) False) False) False) (k2  m)
def L9_12 (v_0 : AV) (x_1 : Int) (x_2 : Int) (x_7 : Int) (v_11 : AV) : Nat → Int → Mem → (Mem → Prop) → Prop
 | 0, _,  _, _ => bump False
 | N + 1, x_12,  m, k2 => R9_12 v_0 x_1 x_2 x_7 v_11 x_12 m (fun x_12' m' => L9_12 v_0 x_1 x_2 x_7 v_11 N x_12' m' k2) k2
def R9_5 (v_0 : AV) (x_1 : Int) (x_2 : Int) (x_7 : Int) (v_8 : AV) (v_9 : AV) (x_10 : Int) (m : Mem) (kn : AV → Int → Mem → Prop) (k0 : AV → Mem → Prop) : Prop :=
 kif (decide (x_10 < x_7)) (F21 68 (IntKind.wrap .i64 (10 + x_10)) 1 (IntKind.wrap .u32 (IntKind.wrap .i64 ((IntKind.wrap .i64 ((x_10.tmod 2) * 1024)) + (IntKind.wrap .i64 (x_10 * 4))))) m fun c14 m15 => newK m15 ⟨6, splice (Z6) 0 6 c14, 32, false⟩ fun b17 m16 => appS 6 48 32 v_9 (.sl b17 0 1 (.ex 1)) m16 fun v18 m19 => kn v18 (IntKind.wrap .i64 (x_10 + 1)) m19) (k0 v_9 m)
def L9_5 (v_0 : AV) (x_1 : Int) (x_2 : Int) (x_7 : Int) (v_8 : AV) : Nat → AV → Int → Mem → (AV → Mem → Prop) → Prop
 | 0, _, _,  _, _ => bump False
 | N + 1, v_9, x_10,  m, k0 => R9_5 v_0 x_1 x_2 x_7 v_8 v_9 x_10 m (fun v_9' x_10' m' => L9_5 v_0 x_1 x_2 x_7 v_8 N v_9' x_10' m' k0) k0
def F9 (v_0 : AV) (x_1 : Int) (x_2 : Int) (m : Mem) (k : Bool → Mem → Prop) : Prop :=
 klen v_0 fun x1 => F21 50 27 26 1024 m fun c2 m3 => F21 47 27 27 2053 m3 fun c4 m5 => newK m5 ⟨36, splice (splice (splice (splice (splice (splice (Z36) 0 6 (upd (upd (upd (Z6) 0 (.flat (.int .i64 54))) 2 (.flat (.int .i64 26))) 3 (.flat (.int .i64 8)))) 6 6 c2) 12 6 c4) 18 6 (upd (upd (upd (Z6) 0 (.flat (.int .i64 55))) 2 (.flat (.int .i64 27))) 3 (.flat (.int .i64 2)))) 24 6 (upd (Z6) 0 (.flat (.int .i64 58)))) 30 6 (upd (Z6) 0 (.flat (.int .i64 60))), 32, false⟩ fun b7 m6 => newK m6 ⟨1, upd (lget [(.flat (.slice none 0 0))]) 0 (.sl b7 0 6 (.ex 6)), 26, false⟩ fun b9 m8 => F17 (.sl b9 0 1 (.ex 1)) m8 fun v10 m11 => F18 1 16384 m11 fun v12 m13 => ∃ N22, L9_5 v_0 x_1 x_2 (if 5 < x1 then 5 else x1) v10 N22 v12 0 m13 (fun v20 m21 => F19  m21 fun v23 m24 => kif (AV.one v20) (kif (AV.one v23) (newK m24 ⟨2, upd (upd (lget [(.flat (.slice none 0 0)), (.flat (.slice none 0 0))]) 0 v20) 1 v23, 26, false⟩ fun b26 m25 => F17 (.sl b26 0 2 (.ex 2)) m25 fun v27 m28 => F16 v27 m28 fun v29 m30 => F33 v29 (.flat (.slice none 0 0)) m30 fun v31 m32 => F16 v10 m32 fun v33 m34 => copS 1 v31 v33 m34 fun v35 m36 => ∃ N63, L9_12 v_0 x_1 x_2 (if 5 < x1 then 5 else x1) v31 N63 0 m36 (fun m62 => F15 x_2 1 8 m62 fun x64 m65 => F34 4 v31 (.flat (.slice none 0 0)) x64 m65 fun v66 x67 m68 => knilP v66 fun x69 => kif x69 (k false m68) (kif (x67 != 0) (k false m68) (kptr v66 fun b70 o71 => F24 b70 o71 x_1 m68 fun m72 => kptr v66 fun b73 o74 => F25 b73 o74 60 m72 fun x75 x76 m77 => kptr v66 fun b78 o79 => F26 b78 o79 m77 fun c80 m81 => newK m81 ⟨73, Z73, 46, false⟩ fun b83 m82 => stG 73 m82 b83 0 c80 fun m84 => ∃ N94, L9_22 v_0 (if 5 < x1 then 5 else x1) b83 0 N94 0 m84 (fun m91 => ldI .u32 m91 b83 51 fun x95 => kif ((bits .and .u32 x95 2) == 0) (F27  m91 fun x96 m97 => k x96 m97) (k false m91)) (fun x92 m93 => k x92 m93))))) False) False)
def G9 := Gs [.a, .i .i64, .i .i64] [.b] F9
def D9_5 : LpD := ⟨[0, 1, 2, 7, 8], [.a, .i .i64, .i .i64, .i .i64, .a], [9, 10], [.a, .i .i64], [⟨.exit 0, [9], [.a], [0, 1, 2, 7, 8]⟩], R9_5, L9_5⟩
def D9_12 : LpD := ⟨[0, 1, 2, 7, 11], [.a, .i .i64, .i .i64, .i .i64, .a], [12], [.i .i64], [⟨.exit 2, [], [], [0, 1, 2, 7, 11]⟩], R9_12, L9_12⟩
def D9_22 : LpD := ⟨[0, 7, 15], [.a, .i .i64, .p], [16], [.i .i64], [⟨.exit 4, [], [], [15]⟩, ⟨.ret, [6], [.b], []⟩], R9_22, L9_22⟩
def Lam9 : LEnv := lamOf [(5, lpK D9_5), (12, lpK D9_12), (22, lpK D9_22)] [] [] []
theorem lok9_22 : LoopOK Tryz.prog E9 Lam9 (nthL (bodyOf Tryz.f9) 2) := lp_ok D9_22 (fun _ _ _ => by kernel_rfl) (by kernel_rfl) (fun _ _ _ _ _ _ _ _ => by kernel_rfl) (fun _ _ _ _ _ _ _ _ _ => by kernel_rfl) (fun _ _ _ _ _ _ _ _ => by kernel_rfl)
theorem lok9_12 : LoopOK Tryz.prog E9 Lam9 (nthL (bodyOf Tryz.f9) 1) := lp_ok D9_12 (fun _ _ _ => by kernel_rfl) (by kernel_rfl) (fun _ _ _ _ _ _ _ _ _ => by kernel_rfl) (fun _ _ _ _ _ _ _ _ _ _ => by kernel_rfl) (fun _ _ _ _ _ _ _ _ _ => by kernel_rfl)
theorem lok9_5 : LoopOK Tryz.prog E9 Lam9 (nthL (bodyOf Tryz.f9) 0) := lp_ok D9_5 (fun _ _ _ => by kernel_rfl) (by kernel_rfl) (fun _ _ _ _ _ _ _ _ _ _ => by kernel_rfl) (fun _ _ _ _ _ _ _ _ _ _ _ => by kernel_rfl) (fun _ _ _ _ _ _ _ _ _ _ => by kernel_rfl)
theorem fs9 (w0 : World) : FS Tryz.prog w0 9 G9 := fs_sig (S9 w0) Tryz.func9 Tryz.call9 (Λ := Lam9) 3 ⟨lok9_5, lok9_12, lok9_22, trivial⟩ 0 trivial (by kernel_rfl) false (fun _ _ _ _ _ => by kernel_rfl)
end Go.Proofs.YtkiggdgphbkneaaGreat.Am
