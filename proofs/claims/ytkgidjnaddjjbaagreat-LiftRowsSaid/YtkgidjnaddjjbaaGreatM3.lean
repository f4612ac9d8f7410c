/- What Go functions ask of what follows them, as plain functions over the abstract machine; the machine asks just that. Written by gen.py. -/
import Derived.Test.YtkgidjnaddjjbaaGreatProg
import Derived.Test.YtkgidjnaddjjbaaGreatAmL
import Derived.Test.YtkgidjnaddjjbaaGreatM2
namespace Go.Proofs.YtkgidjnaddjjbaaGreat.Am
set_option linter.unusedVariables false
set_option linter.unusedSimpArgs false
set_option maxRecDepth 100000

def E56 : Env := envOf [(89, G89)]

/-- pianola/word.Sign -/
def F56 (x_0 : Int) (x_1 : Int) (m : Mem) (k : Int → Mem → Prop) : Prop :=
  kif (decide (x_1 < 1)) ((Keeps m m ∧ k 0 m)) (kif (decide (x_1 > 31)) ((Keeps m m ∧ k x_0 m)) (kif (decide (IntKind.wrap .i64 (32 - x_1) < 0)) False (F89 (IntKind.wrap .u32 (x_0 * 2 ^ min (IntKind.wrap .i64 (32 - x_1)).toNat 32)) (IntKind.wrap .i64 (32 - x_1)) m fun x1 m2 => (Keeps m m2 ∧ k x1 m))))

def G56 (args : List AV) (m : Mem) (k : KV) : Prop := match args with
  | [a0, a1] => kI .u32 a0 fun x_0 => kI .i64 a1 fun x_1 => F56 x_0 x_1 m (fun x_1000 m' => k (.flat (.int .u32 x_1000)) m')
  | _ => False

def Lam56 : LEnv := ⟨fun a σ m k => match firstReg a with
  | _ => bump False,
  fun id => match id with
  | _ => bump false,
  fun b => match keyC b with
  | _ => bump false,
  fun b σ m k => match keyC b with
  | _ => bump False⟩

theorem eqn56 (x_0 : Int) (x_1 : Int) (m : Mem) (k : KV) : bodyK Tryz.prog E56 Lam56 Tryz.f56 true [(.flat (.int .u32 x_0)), (.flat (.int .i64 x_1))] m k = F56 x_0 x_1 m (fun x_1000 m' => k (.flat (.int .u32 x_1000)) m') := by
  kernel_rfl

theorem fs56 (w0 : World) : FS Tryz.prog w0 56 G56 := by
  refine (fs_body (Γ := E56) (sound_env (l := [(89, G89)]) w0 (by
    intro p hp
    simp only [List.mem_cons, List.not_mem_nil, or_false] at hp
    rcases hp with rfl
    · exact fs89 w0)) (by kernel_rfl) Tryz.func56 (Λ := Lam56) (c := (bodyOf Tryz.f56)) (by kernel_rfl) Tryz.call56 (by kernel_rfl) (LS_of (bodyOf Tryz.f56) 0 (by kernel_rfl) (fun i hi => absurd hi (Nat.not_lt_zero i)) 0 (by kernel_rfl) (fun i hi => absurd hi (Nat.not_lt_zero i))) true (np := 2) (Nat.le_of_ble_eq_true (by kernel_rfl))).imp fun args => ?_
  by_cases hl : args.length = 2
  rotate_left
  · exact .inr fun m k hk => by
      unfold G56 at hk
      split at hk
      · exact hl rfl
      · exact hk
  obtain ⟨a0, a1, rfl⟩ : ∃ a0 a1, args = [a0, a1] := len_list2 hl
  rcases kI_or .u32 a0 with ⟨x_0, rfl⟩ | h
  rotate_left
  · exact .inr fun m k hk => h _ (by simpa only [G56, kI, kbool, kS, kptr, kaggN, kite, decide_true, eq_self] using hk)
  rcases kI_or .i64 a1 with ⟨x_1, rfl⟩ | h
  rotate_left
  · exact .inr fun m k hk => h _ (by simpa only [G56, kI, kbool, kS, kptr, kaggN, kite, decide_true, eq_self] using hk)
  exact .inl fun m k => propext ⟨fun h => ⟨rfl, by rw [eqn56]; simpa only [G56, kI, kbool, kS, kptr, kaggN, kite, decide_true, eq_self] using h⟩, fun h => by have h := h.2; rw [eqn56] at h; simpa only [G56, kI, kbool, kS, kptr, kaggN, kite, decide_true, eq_self] using h⟩

def E29 : Env := envOf [(56, G56)]

/-- pianola/lift.imm -/
def F29 (c_0 : Nat → AV) (m : Mem) (k : Int → Mem → Prop) : Prop :=
  newK m ⟨6, c_0, 25, false⟩ fun b2 m1 => ldI .i64 m1 b2 0 fun x3 => kif (x3 == 50) (ldI .u32 m1 b2 5 fun x6 => (Keeps m m1 ∧ k x6 m)) (ldI .i64 m1 b2 0 fun x4 => kif (x4 == 51) (ldI .u32 m1 b2 5 fun x7 => (Keeps m m1 ∧ k x7 m)) (ldI .i64 m1 b2 0 fun x5 => kif (x5 == 52) (ldI .u32 m1 b2 5 fun x8 => (Keeps m m1 ∧ k x8 m)) (ldI .u32 m1 b2 5 fun x9 => F56 x9 16 m1 fun x10 m11 => (Keeps m m11 ∧ k x10 m))))

def G29 (args : List AV) (m : Mem) (k : KV) : Prop := match args with
  | [a0] => kaggN 6 a0 fun c_0 => F29 c_0 m (fun x_1000 m' => k (.flat (.int .u32 x_1000)) m')
  | _ => False

def Lam29 : LEnv := ⟨fun a σ m k => match firstReg a with
  | _ => bump False,
  fun id => match id with
  | _ => bump false,
  fun b => match keyC b with
  | _ => bump false,
  fun b σ m k => match keyC b with
  | _ => bump False⟩

theorem eqn29 (c_0 : Nat → AV) (m : Mem) (k : KV) : bodyK Tryz.prog E29 Lam29 Tryz.f29 true [(.agg 6 c_0)] m k = F29 c_0 m (fun x_1000 m' => k (.flat (.int .u32 x_1000)) m') := by
  kernel_rfl

theorem fs29 (w0 : World) : FS Tryz.prog w0 29 G29 := by
  refine (fs_body (Γ := E29) (sound_env (l := [(56, G56)]) w0 (by
    intro p hp
    simp only [List.mem_cons, List.not_mem_nil, or_false] at hp
    rcases hp with rfl
    · exact fs56 w0)) (by kernel_rfl) Tryz.func29 (Λ := Lam29) (c := (bodyOf Tryz.f29)) (by kernel_rfl) Tryz.call29 (by kernel_rfl) (LS_of (bodyOf Tryz.f29) 0 (by kernel_rfl) (fun i hi => absurd hi (Nat.not_lt_zero i)) 0 (by kernel_rfl) (fun i hi => absurd hi (Nat.not_lt_zero i))) true (np := 1) (Nat.le_of_ble_eq_true (by kernel_rfl))).imp fun args => ?_
  by_cases hl : args.length = 1
  rotate_left
  · exact .inr fun m k hk => by
      unfold G29 at hk
      split at hk
      · exact hl rfl
      · exact hk
  obtain ⟨a0, rfl⟩ : ∃ a0, args = [a0] := len_list1 hl
  rcases kaggN_or 6 a0 with ⟨c_0, rfl⟩ | h
  rotate_left
  · exact .inr fun m k hk => h _ (by simpa only [G29, kI, kbool, kS, kptr, kaggN, kite, decide_true, eq_self] using hk)
  exact .inl fun m k => propext ⟨fun h => ⟨rfl, by rw [eqn29]; simpa only [G29, kI, kbool, kS, kptr, kaggN, kite, decide_true, eq_self] using h⟩, fun h => by have h := h.2; rw [eqn29] at h; simpa only [G29, kI, kbool, kS, kptr, kaggN, kite, decide_true, eq_self] using h⟩

def E13 : Env := envOf [(21, G21), (27, G27), (28, G28), (29, G29)]

def P13_20102 (b_1 o_1 : Nat) (x_3 : Int) (m : Mem) (kr : AV → Mem → Prop) : Prop :=
  ∃ Fr75 : Nat → Prop, F27 x_3 m fun x76 m77 => KeepsIn Fr75 m m77 ∧ (Fr75 b_1 ∧ (ldI .i64 m77 b_1 (o_1 + 3) fun x78 => Fr75 b_1 ∧ (ldI .i64 m77 b_1 (o_1 + 1) fun x79 => Fr75 b_1 ∧ (ldI .i64 m77 b_1 (o_1 + 2) fun x80 => newK m77 ⟨5, splice (lget [(.flat (.int .i64 0)), (.flat (.int .i64 0)), (.flat (.int .i64 0)), (.flat (.int .i64 0)), (.flat (.int .u32 0))]) 0 5 (upd (upd (upd (upd (lget [(.flat (.int .i64 0)), (.flat (.int .i64 0)), (.flat (.int .i64 0)), (.flat (.int .i64 0)), (.flat (.int .u32 0))]) 0 (.flat (.int .i64 x76))) 1 (.flat (.int .i64 x78))) 2 (.flat (.int .i64 x79))) 3 (.flat (.int .i64 x80))), 66, false⟩ fun b82 m81 => kr (.sl b82 0 1 (.ex 1)) m81))))

def P13_19004 (b_1 o_1 : Nat) (x_3 : Int) (x_88 : Bool) (m : Mem) (kr : AV → Mem → Prop) (kn : Mem → Prop) : Prop :=
  kif x_88 (∃ Fr44 : Nat → Prop, Fr44 b_1 ∧ (ldG 6 m b_1 o_1 fun c45 => F29 c45 m fun x46 m47 => KeepsIn Fr44 m m47 ∧ (F27 x_3 m47 fun x48 m49 => KeepsIn Fr44 m47 m49 ∧ (Fr44 b_1 ∧ (ldI .i64 m49 b_1 (o_1 + 2) fun x50 => Fr44 b_1 ∧ (ldI .i64 m49 b_1 (o_1 + 1) fun x51 => newK m49 ⟨10, splice (splice (Z10) 0 5 (upd (upd (upd (lget [(.flat (.int .i64 0)), (.flat (.int .i64 0)), (.flat (.int .i64 0)), (.flat (.int .i64 0)), (.flat (.int .u32 0))]) 0 (.flat (.int .i64 1))) 1 (.flat (.int .i64 34))) 4 (.flat (.int .u32 x46)))) 5 5 (upd (upd (upd (upd (lget [(.flat (.int .i64 0)), (.flat (.int .i64 0)), (.flat (.int .i64 0)), (.flat (.int .i64 0)), (.flat (.int .u32 0))]) 0 (.flat (.int .i64 x48))) 1 (.flat (.int .i64 x50))) 2 (.flat (.int .i64 x51))) 3 (.flat (.int .i64 34))), 66, false⟩ fun b53 m52 => kr (.sl b53 0 2 (.ex 2)) m52)))))) (kn  m)

def P13_3004 (b_1 o_1 : Nat) (x_3 : Int) (x_6 : Bool) (m : Mem) (kr : AV → Mem → Prop) (kn : Mem → Prop) : Prop :=
  kif x_6 (kr (.flat (.slice none 0 0)) m) (kif (x_3 == 53) (ldI .i64 m b_1 (o_1 + 2) fun x7 => ldI .u32 m b_1 (o_1 + 5) fun x8 => newK m ⟨5, splice (lget [(.flat (.int .i64 0)), (.flat (.int .i64 0)), (.flat (.int .i64 0)), (.flat (.int .i64 0)), (.flat (.int .u32 0))]) 0 5 (upd (upd (upd (lget [(.flat (.int .i64 0)), (.flat (.int .i64 0)), (.flat (.int .i64 0)), (.flat (.int .i64 0)), (.flat (.int .u32 0))]) 0 (.flat (.int .i64 1))) 1 (.flat (.int .i64 x7))) 4 (.flat (.int .u32 (IntKind.wrap .u32 (x8 * 65536))))), 66, false⟩ fun b10 m9 => kr (.sl b10 0 1 (.ex 1)) m9) (kif (x_3 == 14) (ldI .i64 m b_1 (o_1 + 3) fun x11 => newK m ⟨5, splice (lget [(.flat (.int .i64 0)), (.flat (.int .i64 0)), (.flat (.int .i64 0)), (.flat (.int .i64 0)), (.flat (.int .u32 0))]) 0 5 (upd (upd (upd (lget [(.flat (.int .i64 0)), (.flat (.int .i64 0)), (.flat (.int .i64 0)), (.flat (.int .i64 0)), (.flat (.int .u32 0))]) 0 (.flat (.int .i64 2))) 1 (.flat (.int .i64 x11))) 2 (.flat (.int .i64 32))), 66, false⟩ fun b13 m12 => kr (.sl b13 0 1 (.ex 1)) m12) (kif (x_3 == 16) (ldI .i64 m b_1 (o_1 + 3) fun x14 => newK m ⟨5, splice (lget [(.flat (.int .i64 0)), (.flat (.int .i64 0)), (.flat (.int .i64 0)), (.flat (.int .i64 0)), (.flat (.int .u32 0))]) 0 5 (upd (upd (upd (lget [(.flat (.int .i64 0)), (.flat (.int .i64 0)), (.flat (.int .i64 0)), (.flat (.int .i64 0)), (.flat (.int .u32 0))]) 0 (.flat (.int .i64 2))) 1 (.flat (.int .i64 x14))) 2 (.flat (.int .i64 33))), 66, false⟩ fun b16 m15 => kr (.sl b16 0 1 (.ex 1)) m15) (kif (x_3 == 15) (ldI .i64 m b_1 (o_1 + 1) fun x17 => newK m ⟨5, splice (lget [(.flat (.int .i64 0)), (.flat (.int .i64 0)), (.flat (.int .i64 0)), (.flat (.int .i64 0)), (.flat (.int .u32 0))]) 0 5 (upd (upd (upd (lget [(.flat (.int .i64 0)), (.flat (.int .i64 0)), (.flat (.int .i64 0)), (.flat (.int .i64 0)), (.flat (.int .u32 0))]) 0 (.flat (.int .i64 2))) 1 (.flat (.int .i64 32))) 2 (.flat (.int .i64 x17))), 66, false⟩ fun b19 m18 => kr (.sl b19 0 1 (.ex 1)) m18) (kif (x_3 == 17) (ldI .i64 m b_1 (o_1 + 1) fun x20 => newK m ⟨5, splice (lget [(.flat (.int .i64 0)), (.flat (.int .i64 0)), (.flat (.int .i64 0)), (.flat (.int .i64 0)), (.flat (.int .u32 0))]) 0 5 (upd (upd (upd (lget [(.flat (.int .i64 0)), (.flat (.int .i64 0)), (.flat (.int .i64 0)), (.flat (.int .i64 0)), (.flat (.int .u32 0))]) 0 (.flat (.int .i64 2))) 1 (.flat (.int .i64 33))) 2 (.flat (.int .i64 x20))), 66, false⟩ fun b22 m21 => kr (.sl b22 0 1 (.ex 1)) m21) (kif (decide (x_3 ≤ 3)) (∃ Fr23 : Nat → Prop, Fr23 b_1 ∧ (ldI .i64 m b_1 (o_1 + 4) fun x24 => F27 x_3 m fun x25 m26 => KeepsIn Fr23 m m26 ∧ (Fr23 b_1 ∧ (ldI .i64 m26 b_1 (o_1 + 3) fun x27 => Fr23 b_1 ∧ (ldI .i64 m26 b_1 (o_1 + 2) fun x28 => newK m26 ⟨10, splice (splice (Z10) 0 5 (upd (upd (upd (lget [(.flat (.int .i64 0)), (.flat (.int .i64 0)), (.flat (.int .i64 0)), (.flat (.int .i64 0)), (.flat (.int .u32 0))]) 0 (.flat (.int .i64 1))) 1 (.flat (.int .i64 34))) 4 (.flat (.int .u32 (IntKind.wrap .u32 x24))))) 5 5 (upd (upd (upd (upd (lget [(.flat (.int .i64 0)), (.flat (.int .i64 0)), (.flat (.int .i64 0)), (.flat (.int .i64 0)), (.flat (.int .u32 0))]) 0 (.flat (.int .i64 x25))) 1 (.flat (.int .i64 x27))) 2 (.flat (.int .i64 x28))) 3 (.flat (.int .i64 34))), 66, false⟩ fun b30 m29 => kr (.sl b30 0 2 (.ex 2)) m29))))) (kif (decide (x_3 ≤ 6)) (∃ Fr31 : Nat → Prop, F27 x_3 m fun x32 m33 => KeepsIn Fr31 m m33 ∧ (Fr31 b_1 ∧ (ldI .i64 m33 b_1 (o_1 + 3) fun x34 => Fr31 b_1 ∧ (ldI .i64 m33 b_1 (o_1 + 2) fun x35 => Fr31 b_1 ∧ (ldI .i64 m33 b_1 (o_1 + 1) fun x36 => newK m33 ⟨5, splice (lget [(.flat (.int .i64 0)), (.flat (.int .i64 0)), (.flat (.int .i64 0)), (.flat (.int .i64 0)), (.flat (.int .u32 0))]) 0 5 (upd (upd (upd (upd (lget [(.flat (.int .i64 0)), (.flat (.int .i64 0)), (.flat (.int .i64 0)), (.flat (.int .i64 0)), (.flat (.int .u32 0))]) 0 (.flat (.int .i64 x32))) 1 (.flat (.int .i64 x34))) 2 (.flat (.int .i64 x35))) 3 (.flat (.int .i64 x36))), 66, false⟩ fun b38 m37 => kr (.sl b38 0 1 (.ex 1)) m37))))) (∃ Fr39 : Nat → Prop, Fr39 b_1 ∧ (ldG 6 m b_1 o_1 fun c40 => F28 c40 m fun x41 m42 => KeepsIn Fr39 m m42 ∧ (Fr39 b_1 ∧ (ldI .i64 m42 b_1 (o_1 + 2) fun x43 => kif (x41 == x43) (kif (decide (x_3 ≥ 46)) (P13_19004 b_1 o_1 x_3 (decide (x_3 ≤ 52)) m42 (fun v54 m55 => kr v54 m55) (fun m56 => kn  m56)) (P13_19004 b_1 o_1 x_3 false m42 (fun v57 m58 => kr v57 m58) (fun m59 => kn  m59))) (P13_19004 b_1 o_1 x_3 false m42 (fun v60 m61 => kr v60 m61) (fun m62 => kn  m62)))))))))))))

/-- pianola/lift.Of -/
def F13 (c_0 : Nat → AV) (m : Mem) (k : AV → Mem → Prop) : Prop :=
  newK m ⟨6, c_0, 25, false⟩ fun b2 m1 => ldI .i64 m1 b2 0 fun x3 => ldG 6 m1 b2 0 fun c4 => F21 c4 m1 fun x5 m6 => kif (!x5) (P13_3004 b2 0 x3 true m6 (fun v63 m64 => k v63 m64) (fun m65 => P13_20102 b2 0 x3 m65 (fun v83 m84 => k v83 m84))) (kif (x3 == 13) (P13_3004 b2 0 x3 true m6 (fun v66 m67 => k v66 m67) (fun m68 => P13_20102 b2 0 x3 m68 (fun v85 m86 => k v85 m86))) (kif (x3 == 76) (P13_3004 b2 0 x3 true m6 (fun v69 m70 => k v69 m70) (fun m71 => P13_20102 b2 0 x3 m71 (fun v87 m88 => k v87 m88))) (P13_3004 b2 0 x3 (x3 == 77) m6 (fun v72 m73 => k v72 m73) (fun m74 => P13_20102 b2 0 x3 m74 (fun v89 m90 => k v89 m90)))))

def G13 (args : List AV) (m : Mem) (k : KV) : Prop := match args with
  | [a0] => kaggN 6 a0 fun c_0 => F13 c_0 m (fun v_1000 m' => k v_1000 m')
  | _ => False

def LamP13_3004 (σ : Nat → AV) (m : Mem) (k : KX) : Prop := kptr (σ 1) fun b_1 o_1 => kI .i64 (σ 3) fun x_3 => kbool (σ 6) fun x_6 => P13_3004 b_1 o_1 x_3 x_6 m (fun v_2' m' => k .ret (only [2] [v_2']) m') (fun m' => k .normal (only [1, 3] [(.ptr b_1 o_1), (.flat (.int .i64 x_3))]) m')

def LamP13_19004 (σ : Nat → AV) (m : Mem) (k : KX) : Prop := kptr (σ 1) fun b_1 o_1 => kI .i64 (σ 3) fun x_3 => kbool (σ 88) fun x_88 => P13_19004 b_1 o_1 x_3 x_88 m (fun v_2' m' => k .ret (only [2] [v_2']) m') (fun m' => k .normal (only [1, 3] [(.ptr b_1 o_1), (.flat (.int .i64 x_3))]) m')

def LamP13_20102 (σ : Nat → AV) (m : Mem) (k : KX) : Prop := kptr (σ 1) fun b_1 o_1 => kI .i64 (σ 3) fun x_3 => P13_20102 b_1 o_1 x_3 m (fun v_2' m' => k .ret (only [2] [v_2']) m')

def Lam13 : LEnv := ⟨fun a σ m k => match firstReg a with
  | _ => bump False,
  fun id => match id with
  | 15 => true
  | 17 => true
  | 18 => true
  | 19 => true
  | 20 => true
  | _ => bump false,
  fun b => match keyC b with
  | some 3004 => true
  | some 19004 => true
  | some 20102 => true
  | _ => bump false,
  fun b σ m k => match keyC b with
  | some 3004 => LamP13_3004 σ m k
  | some 19004 => LamP13_19004 σ m k
  | some 20102 => LamP13_20102 σ m k
  | _ => bump False⟩

def lxp13_20102 : Ex → List Nat := fun e => match e with
  | .ret => [2]
  | _ => []

theorem pc13_20102 (b_1 o_1 : Nat) (x_3 : Int) (m : Mem) (k : KX) : once Tryz.prog E13 Lam13 [1, 3] lxp13_20102 (((secsOf (bodyOf Tryz.f13)).filter Lam13.cut).getD 0 .skip) [(.ptr b_1 o_1), (.flat (.int .i64 x_3))] m k = P13_20102 b_1 o_1 x_3 m (fun v_2' m' => k .ret (only [2] [v_2']) m') := by
  kernel_rfl

theorem pok13_20102 : PieceOK Tryz.prog E13 Lam13 (((secsOf (bodyOf Tryz.f13)).filter Lam13.cut).getD 0 .skip) := by
  refine ⟨fun σ => ∃ b_1 o_1 x_3, σ 1 = .ptr b_1 o_1 ∧ σ 3 = .flat (.int .i64 x_3), [1, 3], lxp13_20102, fun σ m k => ?_⟩
  have e : Lam13.piece (((secsOf (bodyOf Tryz.f13)).filter Lam13.cut).getD 0 .skip) σ m k = LamP13_20102 σ m k := by kernel_rfl
  rw [e]
  constructor
  · intro h
    unfold LamP13_20102 at h
    obtain ⟨b_1, o_1, h0, h⟩ := kptr_ok h
    obtain ⟨x_3, h1, h⟩ := kI_ok h
    refine ⟨⟨b_1, o_1, x_3, h0, h1⟩, ?_⟩
    have ev : [1, 3].map σ = [(.ptr b_1 o_1), (.flat (.int .i64 x_3))] := by simp only [List.map_cons, List.map_nil, h0, h1]
    rw [ev, pc13_20102]
    exact h
  · rintro ⟨⟨b_1, o_1, x_3, h0, h1⟩, h⟩
    have ev : [1, 3].map σ = [(.ptr b_1 o_1), (.flat (.int .i64 x_3))] := by simp only [List.map_cons, List.map_nil, h0, h1]
    rw [ev, pc13_20102] at h
    unfold LamP13_20102
    try simp only [h0, h1, kI, kbool, kS, kptr, kaggN, kite, decide_true, eq_self]
    exact h

def lxp13_19004 : Ex → List Nat := fun e => match e with
  | .ret => [2]
  | .normal => [1, 3]
  | _ => []

theorem pc13_19004 (b_1 o_1 : Nat) (x_3 : Int) (x_88 : Bool) (m : Mem) (k : KX) : once Tryz.prog E13 Lam13 [1, 3, 88] lxp13_19004 (((secsOf (bodyOf Tryz.f13)).filter Lam13.cut).getD 2 .skip) [(.ptr b_1 o_1), (.flat (.int .i64 x_3)), (.flat (.bool x_88))] m k = P13_19004 b_1 o_1 x_3 x_88 m (fun v_2' m' => k .ret (only [2] [v_2']) m') (fun m' => k .normal (only [1, 3] [(.ptr b_1 o_1), (.flat (.int .i64 x_3))]) m') := by
  kernel_rfl

theorem pok13_19004 : PieceOK Tryz.prog E13 Lam13 (((secsOf (bodyOf Tryz.f13)).filter Lam13.cut).getD 2 .skip) := by
  refine ⟨fun σ => ∃ b_1 o_1 x_3 x_88, σ 1 = .ptr b_1 o_1 ∧ σ 3 = .flat (.int .i64 x_3) ∧ σ 88 = .flat (.bool x_88), [1, 3, 88], lxp13_19004, fun σ m k => ?_⟩
  have e : Lam13.piece (((secsOf (bodyOf Tryz.f13)).filter Lam13.cut).getD 2 .skip) σ m k = LamP13_19004 σ m k := by kernel_rfl
  rw [e]
  constructor
  · intro h
    unfold LamP13_19004 at h
    obtain ⟨b_1, o_1, h0, h⟩ := kptr_ok h
    obtain ⟨x_3, h1, h⟩ := kI_ok h
    obtain ⟨x_88, h2, h⟩ := kbool_ok h
    refine ⟨⟨b_1, o_1, x_3, x_88, h0, h1, h2⟩, ?_⟩
    have ev : [1, 3, 88].map σ = [(.ptr b_1 o_1), (.flat (.int .i64 x_3)), (.flat (.bool x_88))] := by simp only [List.map_cons, List.map_nil, h0, h1, h2]
    rw [ev, pc13_19004]
    exact h
  · rintro ⟨⟨b_1, o_1, x_3, x_88, h0, h1, h2⟩, h⟩
    have ev : [1, 3, 88].map σ = [(.ptr b_1 o_1), (.flat (.int .i64 x_3)), (.flat (.bool x_88))] := by simp only [List.map_cons, List.map_nil, h0, h1, h2]
    rw [ev, pc13_19004] at h
    unfold LamP13_19004
    try simp only [h0, h1, h2, kI, kbool, kS, kptr, kaggN, kite, decide_true, eq_self]
    exact h

def lxp13_3004 : Ex → List Nat := fun e => match e with
  | .ret => [2]
  | .normal => [1, 3]
  | _ => []

theorem pc13_3004 (b_1 o_1 : Nat) (x_3 : Int) (x_6 : Bool) (m : Mem) (k : KX) : once Tryz.prog E13 Lam13 [1, 3, 6] lxp13_3004 (((secsOf (bodyOf Tryz.f13)).filter Lam13.cut).getD 1 .skip) [(.ptr b_1 o_1), (.flat (.int .i64 x_3)), (.flat (.bool x_6))] m k = P13_3004 b_1 o_1 x_3 x_6 m (fun v_2' m' => k .ret (only [2] [v_2']) m') (fun m' => k .normal (only [1, 3] [(.ptr b_1 o_1), (.flat (.int .i64 x_3))]) m') := by
  kernel_rfl

theorem pok13_3004 : PieceOK Tryz.prog E13 Lam13 (((secsOf (bodyOf Tryz.f13)).filter Lam13.cut).getD 1 .skip) := by
  refine ⟨fun σ => ∃ b_1 o_1 x_3 x_6, σ 1 = .ptr b_1 o_1 ∧ σ 3 = .flat (.int .i64 x_3) ∧ σ 6 = .flat (.bool x_6), [1, 3, 6], lxp13_3004, fun σ m k => ?_⟩
  have e : Lam13.piece (((secsOf (bodyOf Tryz.f13)).filter Lam13.cut).getD 1 .skip) σ m k = LamP13_3004 σ m k := by kernel_rfl
  rw [e]
  constructor
  · intro h
    unfold LamP13_3004 at h
    obtain ⟨b_1, o_1, h0, h⟩ := kptr_ok h
    obtain ⟨x_3, h1, h⟩ := kI_ok h
    obtain ⟨x_6, h2, h⟩ := kbool_ok h
    refine ⟨⟨b_1, o_1, x_3, x_6, h0, h1, h2⟩, ?_⟩
    have ev : [1, 3, 6].map σ = [(.ptr b_1 o_1), (.flat (.int .i64 x_3)), (.flat (.bool x_6))] := by simp only [List.map_cons, List.map_nil, h0, h1, h2]
    rw [ev, pc13_3004]
    exact h
  · rintro ⟨⟨b_1, o_1, x_3, x_6, h0, h1, h2⟩, h⟩
    have ev : [1, 3, 6].map σ = [(.ptr b_1 o_1), (.flat (.int .i64 x_3)), (.flat (.bool x_6))] := by simp only [List.map_cons, List.map_nil, h0, h1, h2]
    rw [ev, pc13_3004] at h
    unfold LamP13_3004
    try simp only [h0, h1, h2, kI, kbool, kS, kptr, kaggN, kite, decide_true, eq_self]
    exact h

theorem eqn13 (c_0 : Nat → AV) (m : Mem) (k : KV) : bodyK Tryz.prog E13 Lam13 Tryz.f13 false [(.agg 6 c_0)] m k = F13 c_0 m (fun v_1000 m' => k v_1000 m') := by
  kernel_rfl

theorem fs13 (w0 : World) : FS Tryz.prog w0 13 G13 := by
  refine (fs_body (Γ := E13) (sound_env (l := [(21, G21), (27, G27), (28, G28), (29, G29)]) w0 (by
    intro p hp
    simp only [List.mem_cons, List.not_mem_nil, or_false] at hp
    rcases hp with rfl | rfl | rfl | rfl
    · exact fs21 w0
    · exact fs27 w0
    · exact fs28 w0
    · exact fs29 w0)) (by kernel_rfl) Tryz.func13 (Λ := Lam13) (c := (bodyOf Tryz.f13)) (by kernel_rfl) Tryz.call13 (by kernel_rfl) (LS_of (bodyOf Tryz.f13) 0 (by kernel_rfl) (fun i hi => absurd hi (Nat.not_lt_zero i)) 3 (by kernel_rfl) (by
    intro i hi
    match i, hi with
    | 0, _ => exact pok13_20102
    | 1, _ => exact pok13_3004
    | 2, _ => exact pok13_19004
    | i + 3, hi => omega)) false (np := 1) (Nat.le_of_ble_eq_true (by kernel_rfl))).imp fun args => ?_
  by_cases hl : args.length = 1
  rotate_left
  · exact .inr fun m k hk => by
      unfold G13 at hk
      split at hk
      · exact hl rfl
      · exact hk
  obtain ⟨a0, rfl⟩ : ∃ a0, args = [a0] := len_list1 hl
  rcases kaggN_or 6 a0 with ⟨c_0, rfl⟩ | h
  rotate_left
  · exact .inr fun m k hk => h _ (by simpa only [G13, kI, kbool, kS, kptr, kaggN, kite, decide_true, eq_self] using hk)
  exact .inl fun m k => propext ⟨fun h => ⟨rfl, by rw [eqn13]; simpa only [G13, kI, kbool, kS, kptr, kaggN, kite, decide_true, eq_self] using h⟩, fun h => by have h := h.2; rw [eqn13] at h; simpa only [G13, kI, kbool, kS, kptr, kaggN, kite, decide_true, eq_self] using h⟩

def E20 : Env := envOf []

def P20_9004 (x_3 : Int) (x_55 : Bool) (m : Mem) (kr : Int → Mem → Prop) (kn : Mem → Prop) : Prop :=
  kif x_55 (kr 5 m) (kif (x_3 == 22) (kr 2 m) (kif (x_3 == 24) (kr 2 m) (kif (x_3 == 46) (kr 2 m) (kif (decide (x_3 ≥ 32)) (kif (decide (x_3 ≤ 35)) (kr 2 m) (kn  m)) (kn  m)))))

def P20_7004 (x_3 : Int) (x_44 : Bool) (m : Mem) (kr : Int → Mem → Prop) (kn : Mem → Prop) : Prop :=
  kif x_44 (kr 4 m) (kif (decide (x_3 ≥ 71)) (kif (decide (x_3 ≤ 73)) (P20_9004 x_3 true m (fun x4 m5 => kr x4 m5) (fun m6 => kn  m6)) (P20_9004 x_3 (x_3 == 75) m (fun x7 m8 => kr x7 m8) (fun m9 => kn  m9))) (P20_9004 x_3 (x_3 == 75) m (fun x10 m11 => kr x10 m11) (fun m12 => kn  m12)))

def P20_5004 (x_3 : Int) (x_29 : Bool) (m : Mem) (kr : Int → Mem → Prop) (kn : Mem → Prop) : Prop :=
  kif x_29 (kr 3 m) (kif (decide (x_3 ≥ 66)) (kif (decide (x_3 ≤ 70)) (P20_7004 x_3 true m (fun x13 m14 => kr x13 m14) (fun m15 => kn  m15)) (P20_7004 x_3 (x_3 == 74) m (fun x16 m17 => kr x16 m17) (fun m18 => kn  m18))) (P20_7004 x_3 (x_3 == 74) m (fun x19 m20 => kr x19 m20) (fun m21 => kn  m21)))

def P20_3004 (x_3 : Int) (x_6 : Bool) (m : Mem) (kr : Int → Mem → Prop) (kn : Mem → Prop) : Prop :=
  kif x_6 (kr 6 m) (kif (x_3 == 7) (P20_5004 x_3 true m (fun x22 m23 => kr x22 m23) (fun m24 => kn  m24)) (kif (x_3 == 8) (P20_5004 x_3 true m (fun x25 m26 => kr x25 m26) (fun m27 => kn  m27)) (kif (decide (x_3 ≥ 36)) (P20_5004 x_3 (decide (x_3 ≤ 45)) m (fun x28 m29 => kr x28 m29) (fun m30 => kn  m30)) (P20_5004 x_3 false m (fun x31 m32 => kr x31 m32) (fun m33 => kn  m33)))))

/-- pianola/pianolaref3.Class -/
def F20 (c_0 : Nat → AV) (m : Mem) (k : Int → Mem → Prop) : Prop :=
  newK m ⟨6, c_0, 25, false⟩ fun b2 m1 => ldI .i64 m1 b2 0 fun x3 => kif (decide (x3 ≤ 0)) (P20_3004 x3 true m1 (fun x34 m35 => (Keeps m m35 ∧ k x34 m)) (fun m36 => (Keeps m m36 ∧ k 1 m))) (kif (decide (x3 ≥ 78)) (P20_3004 x3 true m1 (fun x37 m38 => (Keeps m m38 ∧ k x37 m)) (fun m39 => (Keeps m m39 ∧ k 1 m))) (kif (decide (x3 ≥ 54)) (kif (decide (x3 ≤ 62)) (P20_3004 x3 true m1 (fun x40 m41 => (Keeps m m41 ∧ k x40 m)) (fun m42 => (Keeps m m42 ∧ k 1 m))) (kif (x3 == 11) (P20_3004 x3 true m1 (fun x43 m44 => (Keeps m m44 ∧ k x43 m)) (fun m45 => (Keeps m m45 ∧ k 1 m))) (P20_3004 x3 (x3 == 12) m1 (fun x46 m47 => (Keeps m m47 ∧ k x46 m)) (fun m48 => (Keeps m m48 ∧ k 1 m))))) (kif (x3 == 11) (P20_3004 x3 true m1 (fun x49 m50 => (Keeps m m50 ∧ k x49 m)) (fun m51 => (Keeps m m51 ∧ k 1 m))) (P20_3004 x3 (x3 == 12) m1 (fun x52 m53 => (Keeps m m53 ∧ k x52 m)) (fun m54 => (Keeps m m54 ∧ k 1 m))))))

def G20 (args : List AV) (m : Mem) (k : KV) : Prop := match args with
  | [a0] => kaggN 6 a0 fun c_0 => F20 c_0 m (fun x_1000 m' => k (.flat (.int .i64 x_1000)) m')
  | _ => False

def LamP20_3004 (σ : Nat → AV) (m : Mem) (k : KX) : Prop := kI .i64 (σ 3) fun x_3 => kbool (σ 6) fun x_6 => P20_3004 x_3 x_6 m (fun x_2' m' => k .ret (only [2] [(.flat (.int .i64 x_2'))]) m') (fun m' => k .normal (only [] []) m')

def LamP20_5004 (σ : Nat → AV) (m : Mem) (k : KX) : Prop := kI .i64 (σ 3) fun x_3 => kbool (σ 29) fun x_29 => P20_5004 x_3 x_29 m (fun x_2' m' => k .ret (only [2] [(.flat (.int .i64 x_2'))]) m') (fun m' => k .normal (only [] []) m')

def LamP20_7004 (σ : Nat → AV) (m : Mem) (k : KX) : Prop := kI .i64 (σ 3) fun x_3 => kbool (σ 44) fun x_44 => P20_7004 x_3 x_44 m (fun x_2' m' => k .ret (only [2] [(.flat (.int .i64 x_2'))]) m') (fun m' => k .normal (only [] []) m')

def LamP20_9004 (σ : Nat → AV) (m : Mem) (k : KX) : Prop := kI .i64 (σ 3) fun x_3 => kbool (σ 55) fun x_55 => P20_9004 x_3 x_55 m (fun x_2' m' => k .ret (only [2] [(.flat (.int .i64 x_2'))]) m') (fun m' => k .normal (only [] []) m')

def Lam20 : LEnv := ⟨fun a σ m k => match firstReg a with
  | _ => bump False,
  fun id => match id with
  | _ => bump false,
  fun b => match keyC b with
  | some 3004 => true
  | some 5004 => true
  | some 7004 => true
  | some 9004 => true
  | _ => bump false,
  fun b σ m k => match keyC b with
  | some 3004 => LamP20_3004 σ m k
  | some 5004 => LamP20_5004 σ m k
  | some 7004 => LamP20_7004 σ m k
  | some 9004 => LamP20_9004 σ m k
  | _ => bump False⟩

def lxp20_9004 : Ex → List Nat := fun e => match e with
  | .ret => [2]
  | .normal => []
  | _ => []

theorem pc20_9004 (x_3 : Int) (x_55 : Bool) (m : Mem) (k : KX) : once Tryz.prog E20 Lam20 [3, 55] lxp20_9004 (((secsOf (bodyOf Tryz.f20)).filter Lam20.cut).getD 3 .skip) [(.flat (.int .i64 x_3)), (.flat (.bool x_55))] m k = P20_9004 x_3 x_55 m (fun x_2' m' => k .ret (only [2] [(.flat (.int .i64 x_2'))]) m') (fun m' => k .normal (only [] []) m') := by
  kernel_rfl

theorem pok20_9004 : PieceOK Tryz.prog E20 Lam20 (((secsOf (bodyOf Tryz.f20)).filter Lam20.cut).getD 3 .skip) := by
  refine ⟨fun σ => ∃ x_3 x_55, σ 3 = .flat (.int .i64 x_3) ∧ σ 55 = .flat (.bool x_55), [3, 55], lxp20_9004, fun σ m k => ?_⟩
  have e : Lam20.piece (((secsOf (bodyOf Tryz.f20)).filter Lam20.cut).getD 3 .skip) σ m k = LamP20_9004 σ m k := by kernel_rfl
  rw [e]
  constructor
  · intro h
    unfold LamP20_9004 at h
    obtain ⟨x_3, h0, h⟩ := kI_ok h
    obtain ⟨x_55, h1, h⟩ := kbool_ok h
    refine ⟨⟨x_3, x_55, h0, h1⟩, ?_⟩
    have ev : [3, 55].map σ = [(.flat (.int .i64 x_3)), (.flat (.bool x_55))] := by simp only [List.map_cons, List.map_nil, h0, h1]
    rw [ev, pc20_9004]
    exact h
  · rintro ⟨⟨x_3, x_55, h0, h1⟩, h⟩
    have ev : [3, 55].map σ = [(.flat (.int .i64 x_3)), (.flat (.bool x_55))] := by simp only [List.map_cons, List.map_nil, h0, h1]
    rw [ev, pc20_9004] at h
    unfold LamP20_9004
    try simp only [h0, h1, kI, kbool, kS, kptr, kaggN, kite, decide_true, eq_self]
    exact h

def lxp20_7004 : Ex → List Nat := fun e => match e with
  | .ret => [2]
  | .normal => []
  | _ => []

theorem pc20_7004 (x_3 : Int) (x_44 : Bool) (m : Mem) (k : KX) : once Tryz.prog E20 Lam20 [3, 44] lxp20_7004 (((secsOf (bodyOf Tryz.f20)).filter Lam20.cut).getD 2 .skip) [(.flat (.int .i64 x_3)), (.flat (.bool x_44))] m k = P20_7004 x_3 x_44 m (fun x_2' m' => k .ret (only [2] [(.flat (.int .i64 x_2'))]) m') (fun m' => k .normal (only [] []) m') := by
  kernel_rfl

theorem pok20_7004 : PieceOK Tryz.prog E20 Lam20 (((secsOf (bodyOf Tryz.f20)).filter Lam20.cut).getD 2 .skip) := by
  refine ⟨fun σ => ∃ x_3 x_44, σ 3 = .flat (.int .i64 x_3) ∧ σ 44 = .flat (.bool x_44), [3, 44], lxp20_7004, fun σ m k => ?_⟩
  have e : Lam20.piece (((secsOf (bodyOf Tryz.f20)).filter Lam20.cut).getD 2 .skip) σ m k = LamP20_7004 σ m k := by kernel_rfl
  rw [e]
  constructor
  · intro h
    unfold LamP20_7004 at h
    obtain ⟨x_3, h0, h⟩ := kI_ok h
    obtain ⟨x_44, h1, h⟩ := kbool_ok h
    refine ⟨⟨x_3, x_44, h0, h1⟩, ?_⟩
    have ev : [3, 44].map σ = [(.flat (.int .i64 x_3)), (.flat (.bool x_44))] := by simp only [List.map_cons, List.map_nil, h0, h1]
    rw [ev, pc20_7004]
    exact h
  · rintro ⟨⟨x_3, x_44, h0, h1⟩, h⟩
    have ev : [3, 44].map σ = [(.flat (.int .i64 x_3)), (.flat (.bool x_44))] := by simp only [List.map_cons, List.map_nil, h0, h1]
    rw [ev, pc20_7004] at h
    unfold LamP20_7004
    try simp only [h0, h1, kI, kbool, kS, kptr, kaggN, kite, decide_true, eq_self]
    exact h

def lxp20_5004 : Ex → List Nat := fun e => match e with
  | .ret => [2]
  | .normal => []
  | _ => []

theorem pc20_5004 (x_3 : Int) (x_29 : Bool) (m : Mem) (k : KX) : once Tryz.prog E20 Lam20 [3, 29] lxp20_5004 (((secsOf (bodyOf Tryz.f20)).filter Lam20.cut).getD 1 .skip) [(.flat (.int .i64 x_3)), (.flat (.bool x_29))] m k = P20_5004 x_3 x_29 m (fun x_2' m' => k .ret (only [2] [(.flat (.int .i64 x_2'))]) m') (fun m' => k .normal (only [] []) m') := by
  kernel_rfl

theorem pok20_5004 : PieceOK Tryz.prog E20 Lam20 (((secsOf (bodyOf Tryz.f20)).filter Lam20.cut).getD 1 .skip) := by
  refine ⟨fun σ => ∃ x_3 x_29, σ 3 = .flat (.int .i64 x_3) ∧ σ 29 = .flat (.bool x_29), [3, 29], lxp20_5004, fun σ m k => ?_⟩
  have e : Lam20.piece (((secsOf (bodyOf Tryz.f20)).filter Lam20.cut).getD 1 .skip) σ m k = LamP20_5004 σ m k := by kernel_rfl
  rw [e]
  constructor
  · intro h
    unfold LamP20_5004 at h
    obtain ⟨x_3, h0, h⟩ := kI_ok h
    obtain ⟨x_29, h1, h⟩ := kbool_ok h
    refine ⟨⟨x_3, x_29, h0, h1⟩, ?_⟩
    have ev : [3, 29].map σ = [(.flat (.int .i64 x_3)), (.flat (.bool x_29))] := by simp only [List.map_cons, List.map_nil, h0, h1]
    rw [ev, pc20_5004]
    exact h
  · rintro ⟨⟨x_3, x_29, h0, h1⟩, h⟩
    have ev : [3, 29].map σ = [(.flat (.int .i64 x_3)), (.flat (.bool x_29))] := by simp only [List.map_cons, List.map_nil, h0, h1]
    rw [ev, pc20_5004] at h
    unfold LamP20_5004
    try simp only [h0, h1, kI, kbool, kS, kptr, kaggN, kite, decide_true, eq_self]
    exact h

def lxp20_3004 : Ex → List Nat := fun e => match e with
  | .ret => [2]
  | .normal => []
  | _ => []

theorem pc20_3004 (x_3 : Int) (x_6 : Bool) (m : Mem) (k : KX) : once Tryz.prog E20 Lam20 [3, 6] lxp20_3004 (((secsOf (bodyOf Tryz.f20)).filter Lam20.cut).getD 0 .skip) [(.flat (.int .i64 x_3)), (.flat (.bool x_6))] m k = P20_3004 x_3 x_6 m (fun x_2' m' => k .ret (only [2] [(.flat (.int .i64 x_2'))]) m') (fun m' => k .normal (only [] []) m') := by
  kernel_rfl

theorem pok20_3004 : PieceOK Tryz.prog E20 Lam20 (((secsOf (bodyOf Tryz.f20)).filter Lam20.cut).getD 0 .skip) := by
  refine ⟨fun σ => ∃ x_3 x_6, σ 3 = .flat (.int .i64 x_3) ∧ σ 6 = .flat (.bool x_6), [3, 6], lxp20_3004, fun σ m k => ?_⟩
  have e : Lam20.piece (((secsOf (bodyOf Tryz.f20)).filter Lam20.cut).getD 0 .skip) σ m k = LamP20_3004 σ m k := by kernel_rfl
  rw [e]
  constructor
  · intro h
    unfold LamP20_3004 at h
    obtain ⟨x_3, h0, h⟩ := kI_ok h
    obtain ⟨x_6, h1, h⟩ := kbool_ok h
    refine ⟨⟨x_3, x_6, h0, h1⟩, ?_⟩
    have ev : [3, 6].map σ = [(.flat (.int .i64 x_3)), (.flat (.bool x_6))] := by simp only [List.map_cons, List.map_nil, h0, h1]
    rw [ev, pc20_3004]
    exact h
  · rintro ⟨⟨x_3, x_6, h0, h1⟩, h⟩
    have ev : [3, 6].map σ = [(.flat (.int .i64 x_3)), (.flat (.bool x_6))] := by simp only [List.map_cons, List.map_nil, h0, h1]
    rw [ev, pc20_3004] at h
    unfold LamP20_3004
    try simp only [h0, h1, kI, kbool, kS, kptr, kaggN, kite, decide_true, eq_self]
    exact h

theorem eqn20 (c_0 : Nat → AV) (m : Mem) (k : KV) : bodyK Tryz.prog E20 Lam20 Tryz.f20 true [(.agg 6 c_0)] m k = F20 c_0 m (fun x_1000 m' => k (.flat (.int .i64 x_1000)) m') := by
  kernel_rfl

theorem fs20 (w0 : World) : FS Tryz.prog w0 20 G20 := by
  refine (fs_body (Γ := E20) (sound_env (l := []) w0 (by
    intro p hp
    cases hp)) (by kernel_rfl) Tryz.func20 (Λ := Lam20) (c := (bodyOf Tryz.f20)) (by kernel_rfl) Tryz.call20 (by kernel_rfl) (LS_of (bodyOf Tryz.f20) 0 (by kernel_rfl) (fun i hi => absurd hi (Nat.not_lt_zero i)) 4 (by kernel_rfl) (by
    intro i hi
    match i, hi with
    | 0, _ => exact pok20_3004
    | 1, _ => exact pok20_5004
    | 2, _ => exact pok20_7004
    | 3, _ => exact pok20_9004
    | i + 4, hi => omega)) true (np := 1) (Nat.le_of_ble_eq_true (by kernel_rfl))).imp fun args => ?_
  by_cases hl : args.length = 1
  rotate_left
  · exact .inr fun m k hk => by
      unfold G20 at hk
      split at hk
      · exact hl rfl
      · exact hk
  obtain ⟨a0, rfl⟩ : ∃ a0, args = [a0] := len_list1 hl
  rcases kaggN_or 6 a0 with ⟨c_0, rfl⟩ | h
  rotate_left
  · exact .inr fun m k hk => h _ (by simpa only [G20, kI, kbool, kS, kptr, kaggN, kite, decide_true, eq_self] using hk)
  exact .inl fun m k => propext ⟨fun h => ⟨rfl, by rw [eqn20]; simpa only [G20, kI, kbool, kS, kptr, kaggN, kite, decide_true, eq_self] using h⟩, fun h => by have h := h.2; rw [eqn20] at h; simpa only [G20, kI, kbool, kS, kptr, kaggN, kite, decide_true, eq_self] using h⟩

def E57 : Env := envOf []

/-- pianola/pianolaref6.User -/
def F57 (b_0 o_0 : Nat) (m : Mem) (k : Bool → Mem → Prop) : Prop :=
  ldI .u32 m b_0 (o_0 + 39 + 12) fun x1 => kif ((bits .and .u32 x1 16) != 0) (ldI .u32 m b_0 (o_0 + 39 + 12) fun x2 => (Keeps m m ∧ k ((bits .and .u32 x2 2) == 0) m)) ((Keeps m m ∧ k false m))

def G57 (args : List AV) (m : Mem) (k : KV) : Prop := match args with
  | [a0] => kptr a0 fun b_0 o_0 => F57 b_0 o_0 m (fun x_1000 m' => k (.flat (.bool x_1000)) m')
  | _ => False

def Lam57 : LEnv := ⟨fun a σ m k => match firstReg a with
  | _ => bump False,
  fun id => match id with
  | _ => bump false,
  fun b => match keyC b with
  | _ => bump false,
  fun b σ m k => match keyC b with
  | _ => bump False⟩

theorem eqn57 (b_0 o_0 : Nat) (m : Mem) (k : KV) : bodyK Tryz.prog E57 Lam57 Tryz.f57 true [(.ptr b_0 o_0)] m k = F57 b_0 o_0 m (fun x_1000 m' => k (.flat (.bool x_1000)) m') := by
  kernel_rfl

theorem fs57 (w0 : World) : FS Tryz.prog w0 57 G57 := by
  refine (fs_body (Γ := E57) (sound_env (l := []) w0 (by
    intro p hp
    cases hp)) (by kernel_rfl) Tryz.func57 (Λ := Lam57) (c := (bodyOf Tryz.f57)) (by kernel_rfl) Tryz.call57 (by kernel_rfl) (LS_of (bodyOf Tryz.f57) 0 (by kernel_rfl) (fun i hi => absurd hi (Nat.not_lt_zero i)) 0 (by kernel_rfl) (fun i hi => absurd hi (Nat.not_lt_zero i))) true (np := 1) (Nat.le_of_ble_eq_true (by kernel_rfl))).imp fun args => ?_
  by_cases hl : args.length = 1
  rotate_left
  · exact .inr fun m k hk => by
      unfold G57 at hk
      split at hk
      · exact hl rfl
      · exact hk
  obtain ⟨a0, rfl⟩ : ∃ a0, args = [a0] := len_list1 hl
  rcases kptr_or a0 with ⟨b_0, o_0, rfl⟩ | h
  rotate_left
  · exact .inr fun m k hk => h _ (by simpa only [G57, kI, kbool, kS, kptr, kaggN, kite, decide_true, eq_self] using hk)
  exact .inl fun m k => propext ⟨fun h => ⟨rfl, by rw [eqn57]; simpa only [G57, kI, kbool, kS, kptr, kaggN, kite, decide_true, eq_self] using h⟩, fun h => by have h := h.2; rw [eqn57] at h; simpa only [G57, kI, kbool, kS, kptr, kaggN, kite, decide_true, eq_self] using h⟩

def E62 : Env := envOf []

/-- pianola/pianolaref1.Sign -/
def F62 (x_0 : Int) (x_1 : Int) (m : Mem) (k : Int → Mem → Prop) : Prop :=
  kif (decide (x_1 < 1)) ((Keeps m m ∧ k 0 m)) (kif (decide (x_1 > 31)) ((Keeps m m ∧ k x_0 m)) (kif (decide (IntKind.wrap .u64 x_1 < 0)) False (kif (decide (IntKind.wrap .u64 (IntKind.wrap .i64 (x_1 - 1)) < 0)) False (kif (((bits .and .u32 x_0 (IntKind.wrap .u32 ((IntKind.wrap .u32 (1 * 2 ^ min (IntKind.wrap .u64 x_1).toNat 32)) - 1))).fdiv (2 ^ min (IntKind.wrap .u64 (IntKind.wrap .i64 (x_1 - 1))).toNat 32)) == 1) (kif (decide (IntKind.wrap .u64 x_1 < 0)) False ((Keeps m m ∧ k (IntKind.wrap .u32 ((bits .and .u32 x_0 (IntKind.wrap .u32 ((IntKind.wrap .u32 (1 * 2 ^ min (IntKind.wrap .u64 x_1).toNat 32)) - 1))) - (IntKind.wrap .u32 (1 * 2 ^ min (IntKind.wrap .u64 x_1).toNat 32)))) m))) ((Keeps m m ∧ k (bits .and .u32 x_0 (IntKind.wrap .u32 ((IntKind.wrap .u32 (1 * 2 ^ min (IntKind.wrap .u64 x_1).toNat 32)) - 1))) m))))))

def G62 (args : List AV) (m : Mem) (k : KV) : Prop := match args with
  | [a0, a1] => kI .u32 a0 fun x_0 => kI .i64 a1 fun x_1 => F62 x_0 x_1 m (fun x_1000 m' => k (.flat (.int .u32 x_1000)) m')
  | _ => False

def Lam62 : LEnv := ⟨fun a σ m k => match firstReg a with
  | _ => bump False,
  fun id => match id with
  | _ => bump false,
  fun b => match keyC b with
  | _ => bump false,
  fun b σ m k => match keyC b with
  | _ => bump False⟩

theorem eqn62 (x_0 : Int) (x_1 : Int) (m : Mem) (k : KV) : bodyK Tryz.prog E62 Lam62 Tryz.f62 true [(.flat (.int .u32 x_0)), (.flat (.int .i64 x_1))] m k = F62 x_0 x_1 m (fun x_1000 m' => k (.flat (.int .u32 x_1000)) m') := by
  kernel_rfl

theorem fs62 (w0 : World) : FS Tryz.prog w0 62 G62 := by
  refine (fs_body (Γ := E62) (sound_env (l := []) w0 (by
    intro p hp
    cases hp)) (by kernel_rfl) Tryz.func62 (Λ := Lam62) (c := (bodyOf Tryz.f62)) (by kernel_rfl) Tryz.call62 (by kernel_rfl) (LS_of (bodyOf Tryz.f62) 0 (by kernel_rfl) (fun i hi => absurd hi (Nat.not_lt_zero i)) 0 (by kernel_rfl) (fun i hi => absurd hi (Nat.not_lt_zero i))) true (np := 2) (Nat.le_of_ble_eq_true (by kernel_rfl))).imp fun args => ?_
  by_cases hl : args.length = 2
  rotate_left
  · exact .inr fun m k hk => by
      unfold G62 at hk
      split at hk
      · exact hl rfl
      · exact hk
  obtain ⟨a0, a1, rfl⟩ : ∃ a0 a1, args = [a0, a1] := len_list2 hl
  rcases kI_or .u32 a0 with ⟨x_0, rfl⟩ | h
  rotate_left
  · exact .inr fun m k hk => h _ (by simpa only [G62, kI, kbool, kS, kptr, kaggN, kite, decide_true, eq_self] using hk)
  rcases kI_or .i64 a1 with ⟨x_1, rfl⟩ | h
  rotate_left
  · exact .inr fun m k hk => h _ (by simpa only [G62, kI, kbool, kS, kptr, kaggN, kite, decide_true, eq_self] using hk)
  exact .inl fun m k => propext ⟨fun h => ⟨rfl, by rw [eqn62]; simpa only [G62, kI, kbool, kS, kptr, kaggN, kite, decide_true, eq_self] using h⟩, fun h => by have h := h.2; rw [eqn62] at h; simpa only [G62, kI, kbool, kS, kptr, kaggN, kite, decide_true, eq_self] using h⟩

def E90 : Env := envOf [(88, G88)]

def P90_4102 (x_7 : Int) (m : Mem) (kr : Bool → Mem → Prop) : Prop :=
  kif (decide (x_7 ≥ 2147483648)) (kr true m) (kr (decide (x_7 < (-2147483648))) m)

/-- pianola/pianolaref1.Over -/
def F90 (x_0 : Int) (x_1 : Int) (x_2 : Bool) (m : Mem) (k : Bool → Mem → Prop) : Prop :=
  F88 x_0 true m fun x1 m2 => F88 x_1 true m2 fun x3 m4 => kif x_2 (F88 x_0 true m4 fun x5 m6 => F88 x_1 true m6 fun x7 m8 => P90_4102 (IntKind.wrap .i64 (x5 - x7)) m8 (fun x9 m10 => (Keeps m m10 ∧ k x9 m))) (P90_4102 (IntKind.wrap .i64 (x1 + x3)) m4 (fun x11 m12 => (Keeps m m12 ∧ k x11 m)))

def G90 (args : List AV) (m : Mem) (k : KV) : Prop := match args with
  | [a0, a1, a2] => kI .u32 a0 fun x_0 => kI .u32 a1 fun x_1 => kbool a2 fun x_2 => F90 x_0 x_1 x_2 m (fun x_1000 m' => k (.flat (.bool x_1000)) m')
  | _ => False

def LamP90_4102 (σ : Nat → AV) (m : Mem) (k : KX) : Prop := kI .i64 (σ 7) fun x_7 => P90_4102 x_7 m (fun x_6' m' => k .ret (only [6] [(.flat (.bool x_6'))]) m')

def Lam90 : LEnv := ⟨fun a σ m k => match firstReg a with
  | _ => bump False,
  fun id => match id with
  | _ => bump false,
  fun b => match keyC b with
  | some 4102 => true
  | _ => bump false,
  fun b σ m k => match keyC b with
  | some 4102 => LamP90_4102 σ m k
  | _ => bump False⟩

def lxp90_4102 : Ex → List Nat := fun e => match e with
  | .ret => [6]
  | _ => []

theorem pc90_4102 (x_7 : Int) (m : Mem) (k : KX) : once Tryz.prog E90 Lam90 [7] lxp90_4102 (((secsOf (bodyOf Tryz.f90)).filter Lam90.cut).getD 0 .skip) [(.flat (.int .i64 x_7))] m k = P90_4102 x_7 m (fun x_6' m' => k .ret (only [6] [(.flat (.bool x_6'))]) m') := by
  kernel_rfl

theorem pok90_4102 : PieceOK Tryz.prog E90 Lam90 (((secsOf (bodyOf Tryz.f90)).filter Lam90.cut).getD 0 .skip) := by
  refine ⟨fun σ => ∃ x_7, σ 7 = .flat (.int .i64 x_7), [7], lxp90_4102, fun σ m k => ?_⟩
  have e : Lam90.piece (((secsOf (bodyOf Tryz.f90)).filter Lam90.cut).getD 0 .skip) σ m k = LamP90_4102 σ m k := by kernel_rfl
  rw [e]
  constructor
  · intro h
    unfold LamP90_4102 at h
    obtain ⟨x_7, h0, h⟩ := kI_ok h
    refine ⟨⟨x_7, h0⟩, ?_⟩
    have ev : [7].map σ = [(.flat (.int .i64 x_7))] := by simp only [List.map_cons, List.map_nil, h0]
    rw [ev, pc90_4102]
    exact h
  · rintro ⟨⟨x_7, h0⟩, h⟩
    have ev : [7].map σ = [(.flat (.int .i64 x_7))] := by simp only [List.map_cons, List.map_nil, h0]
    rw [ev, pc90_4102] at h
    unfold LamP90_4102
    try simp only [h0, kI, kbool, kS, kptr, kaggN, kite, decide_true, eq_self]
    exact h

theorem eqn90 (x_0 : Int) (x_1 : Int) (x_2 : Bool) (m : Mem) (k : KV) : bodyK Tryz.prog E90 Lam90 Tryz.f90 true [(.flat (.int .u32 x_0)), (.flat (.int .u32 x_1)), (.flat (.bool x_2))] m k = F90 x_0 x_1 x_2 m (fun x_1000 m' => k (.flat (.bool x_1000)) m') := by
  kernel_rfl

theorem fs90 (w0 : World) : FS Tryz.prog w0 90 G90 := by
  refine (fs_body (Γ := E90) (sound_env (l := [(88, G88)]) w0 (by
    intro p hp
    simp only [List.mem_cons, List.not_mem_nil, or_false] at hp
    rcases hp with rfl
    · exact fs88 w0)) (by kernel_rfl) Tryz.func90 (Λ := Lam90) (c := (bodyOf Tryz.f90)) (by kernel_rfl) Tryz.call90 (by kernel_rfl) (LS_of (bodyOf Tryz.f90) 0 (by kernel_rfl) (fun i hi => absurd hi (Nat.not_lt_zero i)) 1 (by kernel_rfl) (by
    intro i hi
    match i, hi with
    | 0, _ => exact pok90_4102
    | i + 1, hi => omega)) true (np := 3) (Nat.le_of_ble_eq_true (by kernel_rfl))).imp fun args => ?_
  by_cases hl : args.length = 3
  rotate_left
  · exact .inr fun m k hk => by
      unfold G90 at hk
      split at hk
      · exact hl rfl
      · exact hk
  obtain ⟨a0, a1, a2, rfl⟩ : ∃ a0 a1 a2, args = [a0, a1, a2] := len_list3 hl
  rcases kI_or .u32 a0 with ⟨x_0, rfl⟩ | h
  rotate_left
  · exact .inr fun m k hk => h _ (by simpa only [G90, kI, kbool, kS, kptr, kaggN, kite, decide_true, eq_self] using hk)
  rcases kI_or .u32 a1 with ⟨x_1, rfl⟩ | h
  rotate_left
  · exact .inr fun m k hk => h _ (by simpa only [G90, kI, kbool, kS, kptr, kaggN, kite, decide_true, eq_self] using hk)
  rcases kbool_or a2 with ⟨x_2, rfl⟩ | h
  rotate_left
  · exact .inr fun m k hk => h _ (by simpa only [G90, kI, kbool, kS, kptr, kaggN, kite, decide_true, eq_self] using hk)
  exact .inl fun m k => propext ⟨fun h => ⟨rfl, by rw [eqn90]; simpa only [G90, kI, kbool, kS, kptr, kaggN, kite, decide_true, eq_self] using h⟩, fun h => by have h := h.2; rw [eqn90] at h; simpa only [G90, kI, kbool, kS, kptr, kaggN, kite, decide_true, eq_self] using h⟩

def E58 : Env := envOf [(50, G50), (62, G62), (90, G90)]

def P58_4004 (x_1 : Int) (x_2 : Int) (b_3 o_3 : Nat) (x_8 : Int) (x_9 : Bool) (m : Mem) (kr : Bool → Mem → Prop) (kn : Mem → Prop) : Prop :=
  kif x_9 (ldI .i64 m b_3 (o_3 + 0) fun x4 => F90 x_1 x_2 (x4 == 24) m fun x5 m6 => kr x5 m6) (kif (x_8 == 46) (ldI .u32 m b_3 (o_3 + 5) fun x7 => F62 x7 16 m fun x8 m9 => F90 x_1 x8 false m9 fun x10 m11 => kr x10 m11) (kif (x_8 == 32) (F50 x_1 x_2 true m fun x12 m13 => kr (!x12) m13) (kif (x_8 == 33) (F50 x_1 x_2 true m fun x14 m15 => kr x14 m15) (kif (x_8 == 34) (kr (x_1 == x_2) m) (kif (x_8 == 35) (kr (x_1 != x_2) m) (kn  m))))))

/-- pianola/pianolaref4.Traps -/
def F58 (c_0 : Nat → AV) (x_1 : Int) (x_2 : Int) (m : Mem) (k : Bool → Mem → Prop) : Prop :=
  newK m ⟨6, c_0, 25, false⟩ fun b2 m1 => ldI .i64 m1 b2 0 fun x3 => kif (x3 == 22) (P58_4004 x_1 x_2 b2 0 x3 (x3 == 22) m1 (fun x16 m17 => (Keeps m m17 ∧ k x16 m)) (fun m18 => (Keeps m m18 ∧ k false m))) (P58_4004 x_1 x_2 b2 0 x3 (x3 == 24) m1 (fun x19 m20 => (Keeps m m20 ∧ k x19 m)) (fun m21 => (Keeps m m21 ∧ k false m)))

def G58 (args : List AV) (m : Mem) (k : KV) : Prop := match args with
  | [a0, a1, a2] => kaggN 6 a0 fun c_0 => kI .u32 a1 fun x_1 => kI .u32 a2 fun x_2 => F58 c_0 x_1 x_2 m (fun x_1000 m' => k (.flat (.bool x_1000)) m')
  | _ => False

def LamP58_4004 (σ : Nat → AV) (m : Mem) (k : KX) : Prop := kI .u32 (σ 1) fun x_1 => kI .u32 (σ 2) fun x_2 => kptr (σ 3) fun b_3 o_3 => kI .i64 (σ 8) fun x_8 => kbool (σ 9) fun x_9 => P58_4004 x_1 x_2 b_3 o_3 x_8 x_9 m (fun x_6' m' => k .ret (only [6] [(.flat (.bool x_6'))]) m') (fun m' => k .normal (only [] []) m')

def Lam58 : LEnv := ⟨fun a σ m k => match firstReg a with
  | _ => bump False,
  fun id => match id with
  | _ => bump false,
  fun b => match keyC b with
  | some 4004 => true
  | _ => bump false,
  fun b σ m k => match keyC b with
  | some 4004 => LamP58_4004 σ m k
  | _ => bump False⟩

def lxp58_4004 : Ex → List Nat := fun e => match e with
  | .ret => [6]
  | .normal => []
  | _ => []

theorem pc58_4004 (x_1 : Int) (x_2 : Int) (b_3 o_3 : Nat) (x_8 : Int) (x_9 : Bool) (m : Mem) (k : KX) : once Tryz.prog E58 Lam58 [1, 2, 3, 8, 9] lxp58_4004 (((secsOf (bodyOf Tryz.f58)).filter Lam58.cut).getD 0 .skip) [(.flat (.int .u32 x_1)), (.flat (.int .u32 x_2)), (.ptr b_3 o_3), (.flat (.int .i64 x_8)), (.flat (.bool x_9))] m k = P58_4004 x_1 x_2 b_3 o_3 x_8 x_9 m (fun x_6' m' => k .ret (only [6] [(.flat (.bool x_6'))]) m') (fun m' => k .normal (only [] []) m') := by
  kernel_rfl

theorem pok58_4004 : PieceOK Tryz.prog E58 Lam58 (((secsOf (bodyOf Tryz.f58)).filter Lam58.cut).getD 0 .skip) := by
  refine ⟨fun σ => ∃ x_1 x_2 b_3 o_3 x_8 x_9, σ 1 = .flat (.int .u32 x_1) ∧ σ 2 = .flat (.int .u32 x_2) ∧ σ 3 = .ptr b_3 o_3 ∧ σ 8 = .flat (.int .i64 x_8) ∧ σ 9 = .flat (.bool x_9), [1, 2, 3, 8, 9], lxp58_4004, fun σ m k => ?_⟩
  have e : Lam58.piece (((secsOf (bodyOf Tryz.f58)).filter Lam58.cut).getD 0 .skip) σ m k = LamP58_4004 σ m k := by kernel_rfl
  rw [e]
  constructor
  · intro h
    unfold LamP58_4004 at h
    obtain ⟨x_1, h0, h⟩ := kI_ok h
    obtain ⟨x_2, h1, h⟩ := kI_ok h
    obtain ⟨b_3, o_3, h2, h⟩ := kptr_ok h
    obtain ⟨x_8, h3, h⟩ := kI_ok h
    obtain ⟨x_9, h4, h⟩ := kbool_ok h
    refine ⟨⟨x_1, x_2, b_3, o_3, x_8, x_9, h0, h1, h2, h3, h4⟩, ?_⟩
    have ev : [1, 2, 3, 8, 9].map σ = [(.flat (.int .u32 x_1)), (.flat (.int .u32 x_2)), (.ptr b_3 o_3), (.flat (.int .i64 x_8)), (.flat (.bool x_9))] := by simp only [List.map_cons, List.map_nil, h0, h1, h2, h3, h4]
    rw [ev, pc58_4004]
    exact h
  · rintro ⟨⟨x_1, x_2, b_3, o_3, x_8, x_9, h0, h1, h2, h3, h4⟩, h⟩
    have ev : [1, 2, 3, 8, 9].map σ = [(.flat (.int .u32 x_1)), (.flat (.int .u32 x_2)), (.ptr b_3 o_3), (.flat (.int .i64 x_8)), (.flat (.bool x_9))] := by simp only [List.map_cons, List.map_nil, h0, h1, h2, h3, h4]
    rw [ev, pc58_4004] at h
    unfold LamP58_4004
    try simp only [h0, h1, h2, h3, h4, kI, kbool, kS, kptr, kaggN, kite, decide_true, eq_self]
    exact h

theorem eqn58 (c_0 : Nat → AV) (x_1 : Int) (x_2 : Int) (m : Mem) (k : KV) : bodyK Tryz.prog E58 Lam58 Tryz.f58 true [(.agg 6 c_0), (.flat (.int .u32 x_1)), (.flat (.int .u32 x_2))] m k = F58 c_0 x_1 x_2 m (fun x_1000 m' => k (.flat (.bool x_1000)) m') := by
  kernel_rfl

theorem fs58 (w0 : World) : FS Tryz.prog w0 58 G58 := by
  refine (fs_body (Γ := E58) (sound_env (l := [(50, G50), (62, G62), (90, G90)]) w0 (by
    intro p hp
    simp only [List.mem_cons, List.not_mem_nil, or_false] at hp
    rcases hp with rfl | rfl | rfl
    · exact fs50 w0
    · exact fs62 w0
    · exact fs90 w0)) (by kernel_rfl) Tryz.func58 (Λ := Lam58) (c := (bodyOf Tryz.f58)) (by kernel_rfl) Tryz.call58 (by kernel_rfl) (LS_of (bodyOf Tryz.f58) 0 (by kernel_rfl) (fun i hi => absurd hi (Nat.not_lt_zero i)) 1 (by kernel_rfl) (by
    intro i hi
    match i, hi with
    | 0, _ => exact pok58_4004
    | i + 1, hi => omega)) true (np := 3) (Nat.le_of_ble_eq_true (by kernel_rfl))).imp fun args => ?_
  by_cases hl : args.length = 3
  rotate_left
  · exact .inr fun m k hk => by
      unfold G58 at hk
      split at hk
      · exact hl rfl
      · exact hk
  obtain ⟨a0, a1, a2, rfl⟩ : ∃ a0 a1 a2, args = [a0, a1, a2] := len_list3 hl
  rcases kaggN_or 6 a0 with ⟨c_0, rfl⟩ | h
  rotate_left
  · exact .inr fun m k hk => h _ (by simpa only [G58, kI, kbool, kS, kptr, kaggN, kite, decide_true, eq_self] using hk)
  rcases kI_or .u32 a1 with ⟨x_1, rfl⟩ | h
  rotate_left
  · exact .inr fun m k hk => h _ (by simpa only [G58, kI, kbool, kS, kptr, kaggN, kite, decide_true, eq_self] using hk)
  rcases kI_or .u32 a2 with ⟨x_2, rfl⟩ | h
  rotate_left
  · exact .inr fun m k hk => h _ (by simpa only [G58, kI, kbool, kS, kptr, kaggN, kite, decide_true, eq_self] using hk)
  exact .inl fun m k => propext ⟨fun h => ⟨rfl, by rw [eqn58]; simpa only [G58, kI, kbool, kS, kptr, kaggN, kite, decide_true, eq_self] using h⟩, fun h => by have h := h.2; rw [eqn58] at h; simpa only [G58, kI, kbool, kS, kptr, kaggN, kite, decide_true, eq_self] using h⟩

def E30 : Env := envOf [(20, G20), (57, G57), (58, G58)]

def P30_14004 (x_2 : Int) (x_3 : Int) (b_5 o_5 : Nat) (x_67 : Bool) (m : Mem) (kr : Int → Mem → Prop) (kn : Mem → Prop) : Prop :=
  kif x_67 (kr 12 m) (ldG 6 m b_5 o_5 fun c13 => F58 c13 x_2 x_3 m fun x14 m15 => kif x14 (kr 13 m15) (kn  m15))

def P30_12004 (x_2 : Int) (x_3 : Int) (b_5 o_5 : Nat) (x_9 : Int) (x_56 : Bool) (m : Mem) (kr : Int → Mem → Prop) (kn : Mem → Prop) : Prop :=
  kif x_56 (kr 10 m) (ldG 6 m b_5 o_5 fun c10 => F58 c10 x_2 x_3 m fun x11 m12 => kif x11 (kif (x_9 == 22) (P30_14004 x_2 x_3 b_5 o_5 true m12 (fun x16 m17 => kr x16 m17) (fun m18 => kn  m18)) (kif (x_9 == 24) (P30_14004 x_2 x_3 b_5 o_5 true m12 (fun x19 m20 => kr x19 m20) (fun m21 => kn  m21)) (P30_14004 x_2 x_3 b_5 o_5 (x_9 == 46) m12 (fun x22 m23 => kr x22 m23) (fun m24 => kn  m24)))) (P30_14004 x_2 x_3 b_5 o_5 false m12 (fun x25 m26 => kr x25 m26) (fun m27 => kn  m27)))

def P30_6004 (x_2 : Int) (x_3 : Int) (b_5 o_5 : Nat) (x_9 : Int) (x_10 : Int) (x_33 : Bool) (m : Mem) (kr : Int → Mem → Prop) (kn : Mem → Prop) : Prop :=
  kif x_33 (kr 11 m) (kif (x_9 == 11) (kr 8 m) (kif (x_9 == 12) (kr 9 m) (kif (x_10 == 6) (kif (decide (x_9 < 54)) (P30_12004 x_2 x_3 b_5 o_5 x_9 true m (fun x28 m29 => kr x28 m29) (fun m30 => kn  m30)) (P30_12004 x_2 x_3 b_5 o_5 x_9 (decide (x_9 > 61)) m (fun x31 m32 => kr x31 m32) (fun m33 => kn  m33))) (P30_12004 x_2 x_3 b_5 o_5 x_9 false m (fun x34 m35 => kr x34 m35) (fun m36 => kn  m36)))))

def P30_4004 (b_0 o_0 : Nat) (x_2 : Int) (x_3 : Int) (b_5 o_5 : Nat) (x_9 : Int) (x_10 : Int) (x_15 : Bool) (m : Mem) (kr : Int → Mem → Prop) (kn : Mem → Prop) : Prop :=
  kif x_15 (kr 10 m) (kif (decide (x_9 ≥ 54)) (kif (decide (x_9 ≤ 61)) (F57 b_0 (o_0 + 0) m fun x8 m9 => kif x8 (P30_6004 x_2 x_3 b_5 o_5 x_9 x_10 true m9 (fun x37 m38 => kr x37 m38) (fun m39 => kn  m39)) (P30_6004 x_2 x_3 b_5 o_5 x_9 x_10 (x_9 == 62) m9 (fun x40 m41 => kr x40 m41) (fun m42 => kn  m42))) (P30_6004 x_2 x_3 b_5 o_5 x_9 x_10 (x_9 == 62) m (fun x43 m44 => kr x43 m44) (fun m45 => kn  m45))) (P30_6004 x_2 x_3 b_5 o_5 x_9 x_10 (x_9 == 62) m (fun x46 m47 => kr x46 m47) (fun m48 => kn  m48)))

/-- (*pianola/pianolaref17.Machine).refused -/
def F30 (b_0 o_0 : Nat) (c_1 : Nat → AV) (x_2 : Int) (x_3 : Int) (m : Mem) (k : Int → Mem → Prop) : Prop :=
  newK m ⟨6, c_1, 25, false⟩ fun b2 m1 => ldI .i64 m1 b2 0 fun x3 => ldG 6 m1 b2 0 fun c4 => F20 c4 m1 fun x5 m6 => ldB m6 b_0 (o_0 + 0 + 36) fun x7 => kif x7 (kif (x5 == 3) (P30_4004 b_0 o_0 x_2 x_3 b2 0 x3 x5 true m6 (fun x49 m50 => (Keeps m m50 ∧ k x49 m)) (fun m51 => (Keeps m m51 ∧ k (-1) m))) (kif (x3 == 60) (P30_4004 b_0 o_0 x_2 x_3 b2 0 x3 x5 true m6 (fun x52 m53 => (Keeps m m53 ∧ k x52 m)) (fun m54 => (Keeps m m54 ∧ k (-1) m))) (P30_4004 b_0 o_0 x_2 x_3 b2 0 x3 x5 (x3 == 61) m6 (fun x55 m56 => (Keeps m m56 ∧ k x55 m)) (fun m57 => (Keeps m m57 ∧ k (-1) m))))) (P30_4004 b_0 o_0 x_2 x_3 b2 0 x3 x5 false m6 (fun x58 m59 => (Keeps m m59 ∧ k x58 m)) (fun m60 => (Keeps m m60 ∧ k (-1) m)))

def G30 (args : List AV) (m : Mem) (k : KV) : Prop := match args with
  | [a0, a1, a2, a3] => kptr a0 fun b_0 o_0 => kaggN 6 a1 fun c_1 => kI .u32 a2 fun x_2 => kI .u32 a3 fun x_3 => F30 b_0 o_0 c_1 x_2 x_3 m (fun x_1000 m' => k (.flat (.int .i64 x_1000)) m')
  | _ => False

def LamP30_4004 (σ : Nat → AV) (m : Mem) (k : KX) : Prop := kptr (σ 0) fun b_0 o_0 => kI .u32 (σ 2) fun x_2 => kI .u32 (σ 3) fun x_3 => kptr (σ 5) fun b_5 o_5 => kI .i64 (σ 9) fun x_9 => kI .i64 (σ 10) fun x_10 => kbool (σ 15) fun x_15 => P30_4004 b_0 o_0 x_2 x_3 b_5 o_5 x_9 x_10 x_15 m (fun x_8' m' => k .ret (only [8] [(.flat (.int .i64 x_8'))]) m') (fun m' => k .normal (only [] []) m')

def LamP30_6004 (σ : Nat → AV) (m : Mem) (k : KX) : Prop := kI .u32 (σ 2) fun x_2 => kI .u32 (σ 3) fun x_3 => kptr (σ 5) fun b_5 o_5 => kI .i64 (σ 9) fun x_9 => kI .i64 (σ 10) fun x_10 => kbool (σ 33) fun x_33 => P30_6004 x_2 x_3 b_5 o_5 x_9 x_10 x_33 m (fun x_8' m' => k .ret (only [8] [(.flat (.int .i64 x_8'))]) m') (fun m' => k .normal (only [] []) m')

def LamP30_12004 (σ : Nat → AV) (m : Mem) (k : KX) : Prop := kI .u32 (σ 2) fun x_2 => kI .u32 (σ 3) fun x_3 => kptr (σ 5) fun b_5 o_5 => kI .i64 (σ 9) fun x_9 => kbool (σ 56) fun x_56 => P30_12004 x_2 x_3 b_5 o_5 x_9 x_56 m (fun x_8' m' => k .ret (only [8] [(.flat (.int .i64 x_8'))]) m') (fun m' => k .normal (only [] []) m')

def LamP30_14004 (σ : Nat → AV) (m : Mem) (k : KX) : Prop := kI .u32 (σ 2) fun x_2 => kI .u32 (σ 3) fun x_3 => kptr (σ 5) fun b_5 o_5 => kbool (σ 67) fun x_67 => P30_14004 x_2 x_3 b_5 o_5 x_67 m (fun x_8' m' => k .ret (only [8] [(.flat (.int .i64 x_8'))]) m') (fun m' => k .normal (only [] []) m')

def Lam30 : LEnv := ⟨fun a σ m k => match firstReg a with
  | _ => bump False,
  fun id => match id with
  | _ => bump false,
  fun b => match keyC b with
  | some 4004 => true
  | some 6004 => true
  | some 12004 => true
  | some 14004 => true
  | _ => bump false,
  fun b σ m k => match keyC b with
  | some 4004 => LamP30_4004 σ m k
  | some 6004 => LamP30_6004 σ m k
  | some 12004 => LamP30_12004 σ m k
  | some 14004 => LamP30_14004 σ m k
  | _ => bump False⟩

def lxp30_14004 : Ex → List Nat := fun e => match e with
  | .ret => [8]
  | .normal => []
  | _ => []

theorem pc30_14004 (x_2 : Int) (x_3 : Int) (b_5 o_5 : Nat) (x_67 : Bool) (m : Mem) (k : KX) : once Tryz.prog E30 Lam30 [2, 3, 5, 67] lxp30_14004 (((secsOf (bodyOf Tryz.f30)).filter Lam30.cut).getD 3 .skip) [(.flat (.int .u32 x_2)), (.flat (.int .u32 x_3)), (.ptr b_5 o_5), (.flat (.bool x_67))] m k = P30_14004 x_2 x_3 b_5 o_5 x_67 m (fun x_8' m' => k .ret (only [8] [(.flat (.int .i64 x_8'))]) m') (fun m' => k .normal (only [] []) m') := by
  kernel_rfl

theorem pok30_14004 : PieceOK Tryz.prog E30 Lam30 (((secsOf (bodyOf Tryz.f30)).filter Lam30.cut).getD 3 .skip) := by
  refine ⟨fun σ => ∃ x_2 x_3 b_5 o_5 x_67, σ 2 = .flat (.int .u32 x_2) ∧ σ 3 = .flat (.int .u32 x_3) ∧ σ 5 = .ptr b_5 o_5 ∧ σ 67 = .flat (.bool x_67), [2, 3, 5, 67], lxp30_14004, fun σ m k => ?_⟩
  have e : Lam30.piece (((secsOf (bodyOf Tryz.f30)).filter Lam30.cut).getD 3 .skip) σ m k = LamP30_14004 σ m k := by kernel_rfl
  rw [e]
  constructor
  · intro h
    unfold LamP30_14004 at h
    obtain ⟨x_2, h0, h⟩ := kI_ok h
    obtain ⟨x_3, h1, h⟩ := kI_ok h
    obtain ⟨b_5, o_5, h2, h⟩ := kptr_ok h
    obtain ⟨x_67, h3, h⟩ := kbool_ok h
    refine ⟨⟨x_2, x_3, b_5, o_5, x_67, h0, h1, h2, h3⟩, ?_⟩
    have ev : [2, 3, 5, 67].map σ = [(.flat (.int .u32 x_2)), (.flat (.int .u32 x_3)), (.ptr b_5 o_5), (.flat (.bool x_67))] := by simp only [List.map_cons, List.map_nil, h0, h1, h2, h3]
    rw [ev, pc30_14004]
    exact h
  · rintro ⟨⟨x_2, x_3, b_5, o_5, x_67, h0, h1, h2, h3⟩, h⟩
    have ev : [2, 3, 5, 67].map σ = [(.flat (.int .u32 x_2)), (.flat (.int .u32 x_3)), (.ptr b_5 o_5), (.flat (.bool x_67))] := by simp only [List.map_cons, List.map_nil, h0, h1, h2, h3]
    rw [ev, pc30_14004] at h
    unfold LamP30_14004
    try simp only [h0, h1, h2, h3, kI, kbool, kS, kptr, kaggN, kite, decide_true, eq_self]
    exact h

def lxp30_12004 : Ex → List Nat := fun e => match e with
  | .ret => [8]
  | .normal => []
  | _ => []

theorem pc30_12004 (x_2 : Int) (x_3 : Int) (b_5 o_5 : Nat) (x_9 : Int) (x_56 : Bool) (m : Mem) (k : KX) : once Tryz.prog E30 Lam30 [2, 3, 5, 9, 56] lxp30_12004 (((secsOf (bodyOf Tryz.f30)).filter Lam30.cut).getD 2 .skip) [(.flat (.int .u32 x_2)), (.flat (.int .u32 x_3)), (.ptr b_5 o_5), (.flat (.int .i64 x_9)), (.flat (.bool x_56))] m k = P30_12004 x_2 x_3 b_5 o_5 x_9 x_56 m (fun x_8' m' => k .ret (only [8] [(.flat (.int .i64 x_8'))]) m') (fun m' => k .normal (only [] []) m') := by
  kernel_rfl

theorem pok30_12004 : PieceOK Tryz.prog E30 Lam30 (((secsOf (bodyOf Tryz.f30)).filter Lam30.cut).getD 2 .skip) := by
  refine ⟨fun σ => ∃ x_2 x_3 b_5 o_5 x_9 x_56, σ 2 = .flat (.int .u32 x_2) ∧ σ 3 = .flat (.int .u32 x_3) ∧ σ 5 = .ptr b_5 o_5 ∧ σ 9 = .flat (.int .i64 x_9) ∧ σ 56 = .flat (.bool x_56), [2, 3, 5, 9, 56], lxp30_12004, fun σ m k => ?_⟩
  have e : Lam30.piece (((secsOf (bodyOf Tryz.f30)).filter Lam30.cut).getD 2 .skip) σ m k = LamP30_12004 σ m k := by kernel_rfl
  rw [e]
  constructor
  · intro h
    unfold LamP30_12004 at h
    obtain ⟨x_2, h0, h⟩ := kI_ok h
    obtain ⟨x_3, h1, h⟩ := kI_ok h
    obtain ⟨b_5, o_5, h2, h⟩ := kptr_ok h
    obtain ⟨x_9, h3, h⟩ := kI_ok h
    obtain ⟨x_56, h4, h⟩ := kbool_ok h
    refine ⟨⟨x_2, x_3, b_5, o_5, x_9, x_56, h0, h1, h2, h3, h4⟩, ?_⟩
    have ev : [2, 3, 5, 9, 56].map σ = [(.flat (.int .u32 x_2)), (.flat (.int .u32 x_3)), (.ptr b_5 o_5), (.flat (.int .i64 x_9)), (.flat (.bool x_56))] := by simp only [List.map_cons, List.map_nil, h0, h1, h2, h3, h4]
    rw [ev, pc30_12004]
    exact h
  · rintro ⟨⟨x_2, x_3, b_5, o_5, x_9, x_56, h0, h1, h2, h3, h4⟩, h⟩
    have ev : [2, 3, 5, 9, 56].map σ = [(.flat (.int .u32 x_2)), (.flat (.int .u32 x_3)), (.ptr b_5 o_5), (.flat (.int .i64 x_9)), (.flat (.bool x_56))] := by simp only [List.map_cons, List.map_nil, h0, h1, h2, h3, h4]
    rw [ev, pc30_12004] at h
    unfold LamP30_12004
    try simp only [h0, h1, h2, h3, h4, kI, kbool, kS, kptr, kaggN, kite, decide_true, eq_self]
    exact h

def lxp30_6004 : Ex → List Nat := fun e => match e with
  | .ret => [8]
  | .normal => []
  | _ => []

theorem pc30_6004 (x_2 : Int) (x_3 : Int) (b_5 o_5 : Nat) (x_9 : Int) (x_10 : Int) (x_33 : Bool) (m : Mem) (k : KX) : once Tryz.prog E30 Lam30 [2, 3, 5, 9, 10, 33] lxp30_6004 (((secsOf (bodyOf Tryz.f30)).filter Lam30.cut).getD 1 .skip) [(.flat (.int .u32 x_2)), (.flat (.int .u32 x_3)), (.ptr b_5 o_5), (.flat (.int .i64 x_9)), (.flat (.int .i64 x_10)), (.flat (.bool x_33))] m k = P30_6004 x_2 x_3 b_5 o_5 x_9 x_10 x_33 m (fun x_8' m' => k .ret (only [8] [(.flat (.int .i64 x_8'))]) m') (fun m' => k .normal (only [] []) m') := by
  kernel_rfl

theorem pok30_6004 : PieceOK Tryz.prog E30 Lam30 (((secsOf (bodyOf Tryz.f30)).filter Lam30.cut).getD 1 .skip) := by
  refine ⟨fun σ => ∃ x_2 x_3 b_5 o_5 x_9 x_10 x_33, σ 2 = .flat (.int .u32 x_2) ∧ σ 3 = .flat (.int .u32 x_3) ∧ σ 5 = .ptr b_5 o_5 ∧ σ 9 = .flat (.int .i64 x_9) ∧ σ 10 = .flat (.int .i64 x_10) ∧ σ 33 = .flat (.bool x_33), [2, 3, 5, 9, 10, 33], lxp30_6004, fun σ m k => ?_⟩
  have e : Lam30.piece (((secsOf (bodyOf Tryz.f30)).filter Lam30.cut).getD 1 .skip) σ m k = LamP30_6004 σ m k := by kernel_rfl
  rw [e]
  constructor
  · intro h
    unfold LamP30_6004 at h
    obtain ⟨x_2, h0, h⟩ := kI_ok h
    obtain ⟨x_3, h1, h⟩ := kI_ok h
    obtain ⟨b_5, o_5, h2, h⟩ := kptr_ok h
    obtain ⟨x_9, h3, h⟩ := kI_ok h
    obtain ⟨x_10, h4, h⟩ := kI_ok h
    obtain ⟨x_33, h5, h⟩ := kbool_ok h
    refine ⟨⟨x_2, x_3, b_5, o_5, x_9, x_10, x_33, h0, h1, h2, h3, h4, h5⟩, ?_⟩
    have ev : [2, 3, 5, 9, 10, 33].map σ = [(.flat (.int .u32 x_2)), (.flat (.int .u32 x_3)), (.ptr b_5 o_5), (.flat (.int .i64 x_9)), (.flat (.int .i64 x_10)), (.flat (.bool x_33))] := by simp only [List.map_cons, List.map_nil, h0, h1, h2, h3, h4, h5]
    rw [ev, pc30_6004]
    exact h
  · rintro ⟨⟨x_2, x_3, b_5, o_5, x_9, x_10, x_33, h0, h1, h2, h3, h4, h5⟩, h⟩
    have ev : [2, 3, 5, 9, 10, 33].map σ = [(.flat (.int .u32 x_2)), (.flat (.int .u32 x_3)), (.ptr b_5 o_5), (.flat (.int .i64 x_9)), (.flat (.int .i64 x_10)), (.flat (.bool x_33))] := by simp only [List.map_cons, List.map_nil, h0, h1, h2, h3, h4, h5]
    rw [ev, pc30_6004] at h
    unfold LamP30_6004
    try simp only [h0, h1, h2, h3, h4, h5, kI, kbool, kS, kptr, kaggN, kite, decide_true, eq_self]
    exact h

def lxp30_4004 : Ex → List Nat := fun e => match e with
  | .ret => [8]
  | .normal => []
  | _ => []

theorem pc30_4004 (b_0 o_0 : Nat) (x_2 : Int) (x_3 : Int) (b_5 o_5 : Nat) (x_9 : Int) (x_10 : Int) (x_15 : Bool) (m : Mem) (k : KX) : once Tryz.prog E30 Lam30 [0, 2, 3, 5, 9, 10, 15] lxp30_4004 (((secsOf (bodyOf Tryz.f30)).filter Lam30.cut).getD 0 .skip) [(.ptr b_0 o_0), (.flat (.int .u32 x_2)), (.flat (.int .u32 x_3)), (.ptr b_5 o_5), (.flat (.int .i64 x_9)), (.flat (.int .i64 x_10)), (.flat (.bool x_15))] m k = P30_4004 b_0 o_0 x_2 x_3 b_5 o_5 x_9 x_10 x_15 m (fun x_8' m' => k .ret (only [8] [(.flat (.int .i64 x_8'))]) m') (fun m' => k .normal (only [] []) m') := by
  kernel_rfl

theorem pok30_4004 : PieceOK Tryz.prog E30 Lam30 (((secsOf (bodyOf Tryz.f30)).filter Lam30.cut).getD 0 .skip) := by
  refine ⟨fun σ => ∃ b_0 o_0 x_2 x_3 b_5 o_5 x_9 x_10 x_15, σ 0 = .ptr b_0 o_0 ∧ σ 2 = .flat (.int .u32 x_2) ∧ σ 3 = .flat (.int .u32 x_3) ∧ σ 5 = .ptr b_5 o_5 ∧ σ 9 = .flat (.int .i64 x_9) ∧ σ 10 = .flat (.int .i64 x_10) ∧ σ 15 = .flat (.bool x_15), [0, 2, 3, 5, 9, 10, 15], lxp30_4004, fun σ m k => ?_⟩
  have e : Lam30.piece (((secsOf (bodyOf Tryz.f30)).filter Lam30.cut).getD 0 .skip) σ m k = LamP30_4004 σ m k := by kernel_rfl
  rw [e]
  constructor
  · intro h
    unfold LamP30_4004 at h
    obtain ⟨b_0, o_0, h0, h⟩ := kptr_ok h
    obtain ⟨x_2, h1, h⟩ := kI_ok h
    obtain ⟨x_3, h2, h⟩ := kI_ok h
    obtain ⟨b_5, o_5, h3, h⟩ := kptr_ok h
    obtain ⟨x_9, h4, h⟩ := kI_ok h
    obtain ⟨x_10, h5, h⟩ := kI_ok h
    obtain ⟨x_15, h6, h⟩ := kbool_ok h
    refine ⟨⟨b_0, o_0, x_2, x_3, b_5, o_5, x_9, x_10, x_15, h0, h1, h2, h3, h4, h5, h6⟩, ?_⟩
    have ev : [0, 2, 3, 5, 9, 10, 15].map σ = [(.ptr b_0 o_0), (.flat (.int .u32 x_2)), (.flat (.int .u32 x_3)), (.ptr b_5 o_5), (.flat (.int .i64 x_9)), (.flat (.int .i64 x_10)), (.flat (.bool x_15))] := by simp only [List.map_cons, List.map_nil, h0, h1, h2, h3, h4, h5, h6]
    rw [ev, pc30_4004]
    exact h
  · rintro ⟨⟨b_0, o_0, x_2, x_3, b_5, o_5, x_9, x_10, x_15, h0, h1, h2, h3, h4, h5, h6⟩, h⟩
    have ev : [0, 2, 3, 5, 9, 10, 15].map σ = [(.ptr b_0 o_0), (.flat (.int .u32 x_2)), (.flat (.int .u32 x_3)), (.ptr b_5 o_5), (.flat (.int .i64 x_9)), (.flat (.int .i64 x_10)), (.flat (.bool x_15))] := by simp only [List.map_cons, List.map_nil, h0, h1, h2, h3, h4, h5, h6]
    rw [ev, pc30_4004] at h
    unfold LamP30_4004
    try simp only [h0, h1, h2, h3, h4, h5, h6, kI, kbool, kS, kptr, kaggN, kite, decide_true, eq_self]
    exact h

theorem eqn30 (b_0 o_0 : Nat) (c_1 : Nat → AV) (x_2 : Int) (x_3 : Int) (m : Mem) (k : KV) : bodyK Tryz.prog E30 Lam30 Tryz.f30 true [(.ptr b_0 o_0), (.agg 6 c_1), (.flat (.int .u32 x_2)), (.flat (.int .u32 x_3))] m k = F30 b_0 o_0 c_1 x_2 x_3 m (fun x_1000 m' => k (.flat (.int .i64 x_1000)) m') := by
  kernel_rfl

theorem fs30 (w0 : World) : FS Tryz.prog w0 30 G30 := by
  refine (fs_body (Γ := E30) (sound_env (l := [(20, G20), (57, G57), (58, G58)]) w0 (by
    intro p hp
    simp only [List.mem_cons, List.not_mem_nil, or_false] at hp
    rcases hp with rfl | rfl | rfl
    · exact fs20 w0
    · exact fs57 w0
    · exact fs58 w0)) (by kernel_rfl) Tryz.func30 (Λ := Lam30) (c := (bodyOf Tryz.f30)) (by kernel_rfl) Tryz.call30 (by kernel_rfl) (LS_of (bodyOf Tryz.f30) 0 (by kernel_rfl) (fun i hi => absurd hi (Nat.not_lt_zero i)) 4 (by kernel_rfl) (by
    intro i hi
    match i, hi with
    | 0, _ => exact pok30_4004
    | 1, _ => exact pok30_6004
    | 2, _ => exact pok30_12004
    | 3, _ => exact pok30_14004
    | i + 4, hi => omega)) true (np := 4) (Nat.le_of_ble_eq_true (by kernel_rfl))).imp fun args => ?_
  by_cases hl : args.length = 4
  rotate_left
  · exact .inr fun m k hk => by
      unfold G30 at hk
      split at hk
      · exact hl rfl
      · exact hk
  obtain ⟨a0, a1, a2, a3, rfl⟩ : ∃ a0 a1 a2 a3, args = [a0, a1, a2, a3] := len_list4 hl
  rcases kptr_or a0 with ⟨b_0, o_0, rfl⟩ | h
  rotate_left
  · exact .inr fun m k hk => h _ (by simpa only [G30, kI, kbool, kS, kptr, kaggN, kite, decide_true, eq_self] using hk)
  rcases kaggN_or 6 a1 with ⟨c_1, rfl⟩ | h
  rotate_left
  · exact .inr fun m k hk => h _ (by simpa only [G30, kI, kbool, kS, kptr, kaggN, kite, decide_true, eq_self] using hk)
  rcases kI_or .u32 a2 with ⟨x_2, rfl⟩ | h
  rotate_left
  · exact .inr fun m k hk => h _ (by simpa only [G30, kI, kbool, kS, kptr, kaggN, kite, decide_true, eq_self] using hk)
  rcases kI_or .u32 a3 with ⟨x_3, rfl⟩ | h
  rotate_left
  · exact .inr fun m k hk => h _ (by simpa only [G30, kI, kbool, kS, kptr, kaggN, kite, decide_true, eq_self] using hk)
  exact .inl fun m k => propext ⟨fun h => ⟨rfl, by rw [eqn30]; simpa only [G30, kI, kbool, kS, kptr, kaggN, kite, decide_true, eq_self] using h⟩, fun h => by have h := h.2; rw [eqn30] at h; simpa only [G30, kI, kbool, kS, kptr, kaggN, kite, decide_true, eq_self] using h⟩

def E72 : Env := envOf []

/-- pianola/pianolaref6.Missing -/
def F72 (b_0 o_0 : Nat) (m : Mem) (k : Int → Mem → Prop) : Prop :=
  ldI .u32 m b_0 (o_0 + 39 + 11) fun x1 => ldI .u32 m b_0 (o_0 + 39 + 9) fun x2 => kif ((IntKind.wrap .i64 (IntKind.wrap .u32 (x1 - x2))) == 0) ((Keeps m m ∧ k 4294967296 m)) ((Keeps m m ∧ k (IntKind.wrap .i64 (IntKind.wrap .u32 (x1 - x2))) m))

def G72 (args : List AV) (m : Mem) (k : KV) : Prop := match args with
  | [a0] => kptr a0 fun b_0 o_0 => F72 b_0 o_0 m (fun x_1000 m' => k (.flat (.int .i64 x_1000)) m')
  | _ => False

def Lam72 : LEnv := ⟨fun a σ m k => match firstReg a with
  | _ => bump False,
  fun id => match id with
  | _ => bump false,
  fun b => match keyC b with
  | _ => bump false,
  fun b σ m k => match keyC b with
  | _ => bump False⟩

theorem eqn72 (b_0 o_0 : Nat) (m : Mem) (k : KV) : bodyK Tryz.prog E72 Lam72 Tryz.f72 true [(.ptr b_0 o_0)] m k = F72 b_0 o_0 m (fun x_1000 m' => k (.flat (.int .i64 x_1000)) m') := by
  kernel_rfl

theorem fs72 (w0 : World) : FS Tryz.prog w0 72 G72 := by
  refine (fs_body (Γ := E72) (sound_env (l := []) w0 (by
    intro p hp
    cases hp)) (by kernel_rfl) Tryz.func72 (Λ := Lam72) (c := (bodyOf Tryz.f72)) (by kernel_rfl) Tryz.call72 (by kernel_rfl) (LS_of (bodyOf Tryz.f72) 0 (by kernel_rfl) (fun i hi => absurd hi (Nat.not_lt_zero i)) 0 (by kernel_rfl) (fun i hi => absurd hi (Nat.not_lt_zero i))) true (np := 1) (Nat.le_of_ble_eq_true (by kernel_rfl))).imp fun args => ?_
  by_cases hl : args.length = 1
  rotate_left
  · exact .inr fun m k hk => by
      unfold G72 at hk
      split at hk
      · exact hl rfl
      · exact hk
  obtain ⟨a0, rfl⟩ : ∃ a0, args = [a0] := len_list1 hl
  rcases kptr_or a0 with ⟨b_0, o_0, rfl⟩ | h
  rotate_left
  · exact .inr fun m k hk => h _ (by simpa only [G72, kI, kbool, kS, kptr, kaggN, kite, decide_true, eq_self] using hk)
  exact .inl fun m k => propext ⟨fun h => ⟨rfl, by rw [eqn72]; simpa only [G72, kI, kbool, kS, kptr, kaggN, kite, decide_true, eq_self] using h⟩, fun h => by have h := h.2; rw [eqn72] at h; simpa only [G72, kI, kbool, kS, kptr, kaggN, kite, decide_true, eq_self] using h⟩

def E35 : Env := envOf [(72, G72)]

/-- pianola/pianolaref6.Go -/
def F35 (b_0 o_0 : Nat) (x_1 : Int) (m : Mem) (k : Bool → Mem → Prop) : Prop :=
  kif (decide (x_1 < 1)) (k false m) (F72 b_0 o_0 m fun x1 m2 => ldI .i64 m2 b_0 (o_0 + 72) fun x3 => stC m2 b_0 (o_0 + 72) (.flat (.int .i64 (IntKind.wrap .i64 (x3 + x_1)))) fun m4 => ldI .u32 m4 b_0 (o_0 + 39 + 9) fun x5 => stC m4 b_0 (o_0 + 39 + 9) (.flat (.int .u32 (IntKind.wrap .u32 (x5 + (IntKind.wrap .u32 x_1))))) fun m6 => kif (decide (x1 ≤ x_1)) (ldI .u32 m6 b_0 (o_0 + 39 + 13) fun x7 => stC m6 b_0 (o_0 + 39 + 13) (.flat (.int .u32 (bits .or .u32 x7 32768))) fun m8 => k (decide (x1 ≤ x_1)) m8) (k (decide (x1 ≤ x_1)) m6))

def G35 (args : List AV) (m : Mem) (k : KV) : Prop := match args with
  | [a0, a1] => kptr a0 fun b_0 o_0 => kI .i64 a1 fun x_1 => F35 b_0 o_0 x_1 m (fun x_1000 m' => k (.flat (.bool x_1000)) m')
  | _ => False

def Lam35 : LEnv := ⟨fun a σ m k => match firstReg a with
  | _ => bump False,
  fun id => match id with
  | _ => bump false,
  fun b => match keyC b with
  | _ => bump false,
  fun b σ m k => match keyC b with
  | _ => bump False⟩

theorem eqn35 (b_0 o_0 : Nat) (x_1 : Int) (m : Mem) (k : KV) : bodyK Tryz.prog E35 Lam35 Tryz.f35 false [(.ptr b_0 o_0), (.flat (.int .i64 x_1))] m k = F35 b_0 o_0 x_1 m (fun x_1000 m' => k (.flat (.bool x_1000)) m') := by
  kernel_rfl

theorem fs35 (w0 : World) : FS Tryz.prog w0 35 G35 := by
  refine (fs_body (Γ := E35) (sound_env (l := [(72, G72)]) w0 (by
    intro p hp
    simp only [List.mem_cons, List.not_mem_nil, or_false] at hp
    rcases hp with rfl
    · exact fs72 w0)) (by kernel_rfl) Tryz.func35 (Λ := Lam35) (c := (bodyOf Tryz.f35)) (by kernel_rfl) Tryz.call35 (by kernel_rfl) (LS_of (bodyOf Tryz.f35) 0 (by kernel_rfl) (fun i hi => absurd hi (Nat.not_lt_zero i)) 0 (by kernel_rfl) (fun i hi => absurd hi (Nat.not_lt_zero i))) false (np := 2) (Nat.le_of_ble_eq_true (by kernel_rfl))).imp fun args => ?_
  by_cases hl : args.length = 2
  rotate_left
  · exact .inr fun m k hk => by
      unfold G35 at hk
      split at hk
      · exact hl rfl
      · exact hk
  obtain ⟨a0, a1, rfl⟩ : ∃ a0 a1, args = [a0, a1] := len_list2 hl
  rcases kptr_or a0 with ⟨b_0, o_0, rfl⟩ | h
  rotate_left
  · exact .inr fun m k hk => h _ (by simpa only [G35, kI, kbool, kS, kptr, kaggN, kite, decide_true, eq_self] using hk)
  rcases kI_or .i64 a1 with ⟨x_1, rfl⟩ | h
  rotate_left
  · exact .inr fun m k hk => h _ (by simpa only [G35, kI, kbool, kS, kptr, kaggN, kite, decide_true, eq_self] using hk)
  exact .inl fun m k => propext ⟨fun h => ⟨rfl, by rw [eqn35]; simpa only [G35, kI, kbool, kS, kptr, kaggN, kite, decide_true, eq_self] using h⟩, fun h => by have h := h.2; rw [eqn35] at h; simpa only [G35, kI, kbool, kS, kptr, kaggN, kite, decide_true, eq_self] using h⟩

def E59 : Env := envOf []

def P59_12002 (b_0 o_0 : Nat) (m : Mem) (kn : Mem → Prop) : Prop :=
  ldI .u32 m b_0 (o_0 + 34) fun x17 => stC m b_0 (o_0 + 35) (.flat (.int .u32 (IntKind.wrap .u32 (x17 + 4)))) fun m18 => stC m18 b_0 (o_0 + 36) (.flat (.bool false)) fun m19 => kn  m19

def P59_7102 (b_0 o_0 : Nat) (x_1 : Int) (x_2 : Bool) (x_6 : Bool) (m : Mem) (kn : Mem → Prop) : Prop :=
  ldI .u32 m b_0 (o_0 + 39 + 13) fun x11 => stC m b_0 (o_0 + 39 + 13) (.flat (.int .u32 (bits .or .u32 (bits .andNot .u32 x11 124) (bits .and .u32 (IntKind.wrap .u32 ((IntKind.wrap .u32 x_1) * 4)) 124)))) fun m12 => ldI .u32 m12 b_0 (o_0 + 39 + 12) fun x13 => stC m12 b_0 (o_0 + 39 + 12) (.flat (.int .u32 (bits .or .u32 x13 2))) fun m14 => stC m14 b_0 (o_0 + 34) (.flat (.int .u32 2147484032)) fun m15 => kif x_2 (kif (!x_6) (stC m15 b_0 (o_0 + 34) (.flat (.int .u32 2147483648)) fun m16 => P59_12002 b_0 o_0 m16 (fun m20 => kn  m20)) (P59_12002 b_0 o_0 m15 (fun m21 => kn  m21))) (P59_12002 b_0 o_0 m15 (fun m22 => kn  m22))

/-- pianola/pianolaref6.Enter -/
def F59 (b_0 o_0 : Nat) (x_1 : Int) (x_2 : Bool) (m : Mem) (k : Mem → Prop) : Prop :=
  ldI .u32 m b_0 (o_0 + 39 + 12) fun x1 => kif (!((bits .and .u32 x1 2) != 0)) (ldI .u32 m b_0 (o_0 + 34) fun x2 => stC m b_0 (o_0 + 39 + 14) (.flat (.int .u32 x2)) fun m3 => ldI .u32 m3 b_0 (o_0 + 39 + 13) fun x4 => stC m3 b_0 (o_0 + 39 + 13) (.flat (.int .u32 (bits .andNot .u32 x4 2147483648))) fun m5 => ldB m5 b_0 (o_0 + 36) fun x6 => kif x6 (ldI .u32 m5 b_0 (o_0 + 34) fun x7 => stC m5 b_0 (o_0 + 39 + 14) (.flat (.int .u32 (IntKind.wrap .u32 (x7 - 4)))) fun m8 => ldI .u32 m8 b_0 (o_0 + 39 + 13) fun x9 => stC m8 b_0 (o_0 + 39 + 13) (.flat (.int .u32 (bits .or .u32 x9 2147483648))) fun m10 => P59_7102 b_0 o_0 x_1 x_2 ((bits .and .u32 x1 2) != 0) m10 (fun m23 => k  m23)) (P59_7102 b_0 o_0 x_1 x_2 ((bits .and .u32 x1 2) != 0) m5 (fun m24 => k  m24))) (P59_7102 b_0 o_0 x_1 x_2 ((bits .and .u32 x1 2) != 0) m (fun m25 => k  m25))

def G59 (args : List AV) (m : Mem) (k : KV) : Prop := match args with
  | [a0, a1, a2] => kptr a0 fun b_0 o_0 => kI .i64 a1 fun x_1 => kbool a2 fun x_2 => F59 b_0 o_0 x_1 x_2 m (fun m' => k (.tup []) m')
  | _ => False

def LamP59_7102 (σ : Nat → AV) (m : Mem) (k : KX) : Prop := kptr (σ 0) fun b_0 o_0 => kI .i64 (σ 1) fun x_1 => kbool (σ 2) fun x_2 => kbool (σ 6) fun x_6 => P59_7102 b_0 o_0 x_1 x_2 x_6 m (fun m' => k .normal (only [] []) m')

def LamP59_12002 (σ : Nat → AV) (m : Mem) (k : KX) : Prop := kptr (σ 0) fun b_0 o_0 => P59_12002 b_0 o_0 m (fun m' => k .normal (only [] []) m')

def Lam59 : LEnv := ⟨fun a σ m k => match firstReg a with
  | _ => bump False,
  fun id => match id with
  | _ => bump false,
  fun b => match keyC b with
  | some 7102 => true
  | some 12002 => true
  | _ => bump false,
  fun b σ m k => match keyC b with
  | some 7102 => LamP59_7102 σ m k
  | some 12002 => LamP59_12002 σ m k
  | _ => bump False⟩

def lxp59_12002 : Ex → List Nat := fun e => match e with
  | .normal => []
  | _ => []

theorem pc59_12002 (b_0 o_0 : Nat) (m : Mem) (k : KX) : once Tryz.prog E59 Lam59 [0] lxp59_12002 (((secsOf (bodyOf Tryz.f59)).filter Lam59.cut).getD 1 .skip) [(.ptr b_0 o_0)] m k = P59_12002 b_0 o_0 m (fun m' => k .normal (only [] []) m') := by
  kernel_rfl

theorem pok59_12002 : PieceOK Tryz.prog E59 Lam59 (((secsOf (bodyOf Tryz.f59)).filter Lam59.cut).getD 1 .skip) := by
  refine ⟨fun σ => ∃ b_0 o_0, σ 0 = .ptr b_0 o_0, [0], lxp59_12002, fun σ m k => ?_⟩
  have e : Lam59.piece (((secsOf (bodyOf Tryz.f59)).filter Lam59.cut).getD 1 .skip) σ m k = LamP59_12002 σ m k := by kernel_rfl
  rw [e]
  constructor
  · intro h
    unfold LamP59_12002 at h
    obtain ⟨b_0, o_0, h0, h⟩ := kptr_ok h
    refine ⟨⟨b_0, o_0, h0⟩, ?_⟩
    have ev : [0].map σ = [(.ptr b_0 o_0)] := by simp only [List.map_cons, List.map_nil, h0]
    rw [ev, pc59_12002]
    exact h
  · rintro ⟨⟨b_0, o_0, h0⟩, h⟩
    have ev : [0].map σ = [(.ptr b_0 o_0)] := by simp only [List.map_cons, List.map_nil, h0]
    rw [ev, pc59_12002] at h
    unfold LamP59_12002
    try simp only [h0, kI, kbool, kS, kptr, kaggN, kite, decide_true, eq_self]
    exact h

def lxp59_7102 : Ex → List Nat := fun e => match e with
  | .normal => []
  | _ => []

theorem pc59_7102 (b_0 o_0 : Nat) (x_1 : Int) (x_2 : Bool) (x_6 : Bool) (m : Mem) (k : KX) : once Tryz.prog E59 Lam59 [0, 1, 2, 6] lxp59_7102 (((secsOf (bodyOf Tryz.f59)).filter Lam59.cut).getD 0 .skip) [(.ptr b_0 o_0), (.flat (.int .i64 x_1)), (.flat (.bool x_2)), (.flat (.bool x_6))] m k = P59_7102 b_0 o_0 x_1 x_2 x_6 m (fun m' => k .normal (only [] []) m') := by
  kernel_rfl

theorem pok59_7102 : PieceOK Tryz.prog E59 Lam59 (((secsOf (bodyOf Tryz.f59)).filter Lam59.cut).getD 0 .skip) := by
  refine ⟨fun σ => ∃ b_0 o_0 x_1 x_2 x_6, σ 0 = .ptr b_0 o_0 ∧ σ 1 = .flat (.int .i64 x_1) ∧ σ 2 = .flat (.bool x_2) ∧ σ 6 = .flat (.bool x_6), [0, 1, 2, 6], lxp59_7102, fun σ m k => ?_⟩
  have e : Lam59.piece (((secsOf (bodyOf Tryz.f59)).filter Lam59.cut).getD 0 .skip) σ m k = LamP59_7102 σ m k := by kernel_rfl
  rw [e]
  constructor
  · intro h
    unfold LamP59_7102 at h
    obtain ⟨b_0, o_0, h0, h⟩ := kptr_ok h
    obtain ⟨x_1, h1, h⟩ := kI_ok h
    obtain ⟨x_2, h2, h⟩ := kbool_ok h
    obtain ⟨x_6, h3, h⟩ := kbool_ok h
    refine ⟨⟨b_0, o_0, x_1, x_2, x_6, h0, h1, h2, h3⟩, ?_⟩
    have ev : [0, 1, 2, 6].map σ = [(.ptr b_0 o_0), (.flat (.int .i64 x_1)), (.flat (.bool x_2)), (.flat (.bool x_6))] := by simp only [List.map_cons, List.map_nil, h0, h1, h2, h3]
    rw [ev, pc59_7102]
    exact h
  · rintro ⟨⟨b_0, o_0, x_1, x_2, x_6, h0, h1, h2, h3⟩, h⟩
    have ev : [0, 1, 2, 6].map σ = [(.ptr b_0 o_0), (.flat (.int .i64 x_1)), (.flat (.bool x_2)), (.flat (.bool x_6))] := by simp only [List.map_cons, List.map_nil, h0, h1, h2, h3]
    rw [ev, pc59_7102] at h
    unfold LamP59_7102
    try simp only [h0, h1, h2, h3, kI, kbool, kS, kptr, kaggN, kite, decide_true, eq_self]
    exact h

theorem eqn59 (b_0 o_0 : Nat) (x_1 : Int) (x_2 : Bool) (m : Mem) (k : KV) : bodyK Tryz.prog E59 Lam59 Tryz.f59 false [(.ptr b_0 o_0), (.flat (.int .i64 x_1)), (.flat (.bool x_2))] m k = F59 b_0 o_0 x_1 x_2 m (fun m' => k (.tup []) m') := by
  kernel_rfl

theorem fs59 (w0 : World) : FS Tryz.prog w0 59 G59 := by
  refine (fs_body (Γ := E59) (sound_env (l := []) w0 (by
    intro p hp
    cases hp)) (by kernel_rfl) Tryz.func59 (Λ := Lam59) (c := (bodyOf Tryz.f59)) (by kernel_rfl) Tryz.call59 (by kernel_rfl) (LS_of (bodyOf Tryz.f59) 0 (by kernel_rfl) (fun i hi => absurd hi (Nat.not_lt_zero i)) 2 (by kernel_rfl) (by
    intro i hi
    match i, hi with
    | 0, _ => exact pok59_7102
    | 1, _ => exact pok59_12002
    | i + 2, hi => omega)) false (np := 3) (Nat.le_of_ble_eq_true (by kernel_rfl))).imp fun args => ?_
  by_cases hl : args.length = 3
  rotate_left
  · exact .inr fun m k hk => by
      unfold G59 at hk
      split at hk
      · exact hl rfl
      · exact hk
  obtain ⟨a0, a1, a2, rfl⟩ : ∃ a0 a1 a2, args = [a0, a1, a2] := len_list3 hl
  rcases kptr_or a0 with ⟨b_0, o_0, rfl⟩ | h
  rotate_left
  · exact .inr fun m k hk => h _ (by simpa only [G59, kI, kbool, kS, kptr, kaggN, kite, decide_true, eq_self] using hk)
  rcases kI_or .i64 a1 with ⟨x_1, rfl⟩ | h
  rotate_left
  · exact .inr fun m k hk => h _ (by simpa only [G59, kI, kbool, kS, kptr, kaggN, kite, decide_true, eq_self] using hk)
  rcases kbool_or a2 with ⟨x_2, rfl⟩ | h
  rotate_left
  · exact .inr fun m k hk => h _ (by simpa only [G59, kI, kbool, kS, kptr, kaggN, kite, decide_true, eq_self] using hk)
  exact .inl fun m k => propext ⟨fun h => ⟨rfl, by rw [eqn59]; simpa only [G59, kI, kbool, kS, kptr, kaggN, kite, decide_true, eq_self] using h⟩, fun h => by have h := h.2; rw [eqn59] at h; simpa only [G59, kI, kbool, kS, kptr, kaggN, kite, decide_true, eq_self] using h⟩

end Go.Proofs.YtkgidjnaddjjbaaGreat.Am
