/- What Go functions ask of what follows them, as plain functions over the abstract machine; the machine asks just that. Written by gen.py. -/
import Derived.Test.YtkgidjnaddjjbaaGreatProg
import Derived.Test.YtkgidjnaddjjbaaGreatAmL
import Derived.Test.YtkgidjnaddjjbaaGreatM1
namespace Go.Proofs.YtkgidjnaddjjbaaGreat.Am
set_option linter.unusedVariables false
set_option linter.unusedSimpArgs false
set_option maxRecDepth 100000

def E26 : Env := envOf [(48, G48), (49, G49), (50, G50), (51, G51), (52, G52), (53, G53), (54, G54)]

def P26_46102 (v_0 : AV) (b_3 o_3 : Nat) (x_6 : Int) (m : Mem) (kn : Mem → Prop) : Prop :=
  ldI .i64 m b_3 (o_3 + 1) fun x84 => kif (decide (x84 > 0)) (ldI .i64 m b_3 (o_3 + 1) fun x85 => ksl v_0 fun b86 o87 l88 p89 => kif (decide (0 ≤ x85) && decide (x85 < l88)) (stC m b86 (o87 + (x85).toNat * 1) (.flat (.int .u32 x_6)) fun m90 => kn  m90) False) (kn  m)

def P26_44004 (v_0 : AV) (b_3 o_3 : Nat) (x_4 : Int) (x_5 : Int) (x_6 : Int) (x_138 : Bool) (m : Mem) (kr : Mem → Prop) (kn : Int → Mem → Prop) : Prop :=
  kif x_138 (ldI .i64 m b_3 (o_3 + 0) fun x59 => kif (!((x_5 == 0) == (x59 == 21))) (kr  m) (kn x_4 m)) (kn x_6 m)

def P26_41004 (v_0 : AV) (b_3 o_3 : Nat) (x_4 : Int) (x_5 : Int) (x_6 : Int) (x_18 : Int) (x_122 : Bool) (m : Mem) (kr : Mem → Prop) (kn : Int → Mem → Prop) : Prop :=
  kif x_122 (ldI .i64 m b_3 (o_3 + 0) fun x45 => F54 x_4 x_5 (x45 == 19) m fun x46 x47 m48 => ksl v_0 fun b49 o50 l51 p52 => kif (decide (0 ≤ (33 : Int)) && decide ((33 : Int) < l51)) (stC m48 b49 (o50 + 33) (.flat (.int .u32 x46)) fun m53 => ksl v_0 fun b54 o55 l56 p57 => kif (decide (0 ≤ (32 : Int)) && decide ((32 : Int) < l56)) (stC m53 b54 (o55 + 32) (.flat (.int .u32 x47)) fun m58 => kr  m58) False) False) (kif (x_18 == 21) (P26_44004 v_0 b_3 o_3 x_4 x_5 x_6 (x_18 == 21) m (fun m60 => kr  m60) (fun x61 m62 => kn x61 m62)) (P26_44004 v_0 b_3 o_3 x_4 x_5 x_6 (x_18 == 22) m (fun m63 => kr  m63) (fun x64 m65 => kn x64 m65)))

def P26_38004 (v_0 : AV) (b_3 o_3 : Nat) (x_4 : Int) (x_5 : Int) (x_6 : Int) (x_18 : Int) (x_106 : Bool) (m : Mem) (kr : Mem → Prop) (kn : Int → Mem → Prop) : Prop :=
  kif x_106 (ldI .i64 m b_3 (o_3 + 0) fun x31 => F51 x_4 x_5 (x31 == 17) m fun x32 x33 m34 => ksl v_0 fun b35 o36 l37 p38 => kif (decide (0 ≤ (32 : Int)) && decide ((32 : Int) < l37)) (stC m34 b35 (o36 + 32) (.flat (.int .u32 x32)) fun m39 => ksl v_0 fun b40 o41 l42 p43 => kif (decide (0 ≤ (33 : Int)) && decide ((33 : Int) < l42)) (stC m39 b40 (o41 + 33) (.flat (.int .u32 x33)) fun m44 => kr  m44) False) False) (kif (x_18 == 19) (P26_41004 v_0 b_3 o_3 x_4 x_5 x_6 x_18 (x_18 == 19) m (fun m66 => kr  m66) (fun x67 m68 => kn x67 m68)) (P26_41004 v_0 b_3 o_3 x_4 x_5 x_6 x_18 (x_18 == 20) m (fun m69 => kr  m69) (fun x70 m71 => kn x70 m71)))

def P26_29004 (v_0 : AV) (b_3 o_3 : Nat) (x_4 : Int) (x_5 : Int) (x_6 : Int) (x_18 : Int) (x_78 : Bool) (m : Mem) (kn : Int → Mem → Prop) (kr : Mem → Prop) : Prop :=
  kif x_78 (ldI .i64 m b_3 (o_3 + 0) fun x19 => F50 x_4 x_5 (x19 == 12) m fun x20 m21 => F49 x20 m21 fun x22 m23 => kn x22 m23) (kif (x_18 == 14) (F51 x_4 x_5 true m fun x24 x25 m26 => kn x25 m26) (kif (x_18 == 15) (F52 x_4 m fun x27 m28 => kn (IntKind.wrap .u32 x27) m28) (kif (x_18 == 16) (F53 x_4 m fun x29 m30 => kn (IntKind.wrap .u32 x29) m30) (kif (x_18 == 17) (P26_38004 v_0 b_3 o_3 x_4 x_5 x_6 x_18 (x_18 == 17) m (fun m72 => kr  m72) (fun x73 m74 => kn x73 m74)) (P26_38004 v_0 b_3 o_3 x_4 x_5 x_6 x_18 (x_18 == 18) m (fun m75 => kr  m75) (fun x76 m77 => kn x76 m77))))))

/-- pianola/pianolaref18.One -/
def F26 (v_0 : AV) (c_1 : Nat → AV) (m : Mem) (k : Mem → Prop) : Prop :=
  newK m ⟨5, c_1, 66, false⟩ fun b2 m1 => ldI .i64 m1 b2 2 fun x3 => ksl v_0 fun b4 o5 l6 p7 => kif (decide (0 ≤ x3) && decide (x3 < l6)) (ldI .u32 m1 b4 (o5 + (x3).toNat * 1) fun x8 => ldI .i64 m1 b2 3 fun x9 => ksl v_0 fun b10 o11 l12 p13 => kif (decide (0 ≤ x9) && decide (x9 < l12)) (ldI .u32 m1 b10 (o11 + (x9).toNat * 1) fun x14 => ldI .i64 m1 b2 0 fun x15 => kif (x15 == 0) (k  m1) (kif (x15 == 1) (ldI .u32 m1 b2 4 fun x16 => P26_46102 v_0 b2 0 x16 m1 (fun m91 => k  m91)) (kif (x15 == 2) (P26_46102 v_0 b2 0 x8 m1 (fun m92 => k  m92)) (kif (x15 == 3) (P26_46102 v_0 b2 0 (IntKind.wrap .u32 (x8 + x14)) m1 (fun m93 => k  m93)) (kif (x15 == 4) (P26_46102 v_0 b2 0 (IntKind.wrap .u32 (x8 - x14)) m1 (fun m94 => k  m94)) (kif (x15 == 5) (P26_46102 v_0 b2 0 (bits .and .u32 x8 x14) m1 (fun m95 => k  m95)) (kif (x15 == 6) (P26_46102 v_0 b2 0 (bits .or .u32 x8 x14) m1 (fun m96 => k  m96)) (kif (x15 == 7) (P26_46102 v_0 b2 0 (bits .xor .u32 x8 x14) m1 (fun m97 => k  m97)) (kif (x15 == 8) (P26_46102 v_0 b2 0 (bits .xor .u32 4294967295 (bits .or .u32 x8 x14)) m1 (fun m98 => k  m98)) (kif (x15 == 9) (kif (decide (x14.tmod 32 < 0)) False (P26_46102 v_0 b2 0 (IntKind.wrap .u32 (x8 * 2 ^ min (x14.tmod 32).toNat 32)) m1 (fun m99 => k  m99))) (kif (x15 == 10) (kif (decide (x14.tmod 32 < 0)) False (P26_46102 v_0 b2 0 (x8.fdiv (2 ^ min (x14.tmod 32).toNat 32)) m1 (fun m100 => k  m100))) (kif (x15 == 11) (F48 x8 (IntKind.wrap .i64 (x14.tmod 32)) m1 fun x17 m18 => P26_46102 v_0 b2 0 x17 m18 (fun m101 => k  m101)) (kif (x15 == 12) (P26_29004 v_0 b2 0 x8 x14 0 x15 (x15 == 12) m1 (fun x78 m79 => P26_46102 v_0 b2 0 x78 m79 (fun m102 => k  m102)) (fun m80 => k  m80)) (P26_29004 v_0 b2 0 x8 x14 0 x15 (x15 == 13) m1 (fun x81 m82 => P26_46102 v_0 b2 0 x81 m82 (fun m103 => k  m103)) (fun m83 => k  m83))))))))))))))) False) False

def G26 (args : List AV) (m : Mem) (k : KV) : Prop := match args with
  | [a0, a1] => kaggN 5 a1 fun c_1 => F26 a0 c_1 m (fun m' => k (.tup []) m')
  | _ => False

def LamP26_29004 (σ : Nat → AV) (m : Mem) (k : KX) : Prop := kptr (σ 3) fun b_3 o_3 => kI .u32 (σ 4) fun x_4 => kI .u32 (σ 5) fun x_5 => kI .u32 (σ 6) fun x_6 => kI .i64 (σ 18) fun x_18 => kbool (σ 78) fun x_78 => P26_29004 (σ 0) b_3 o_3 x_4 x_5 x_6 x_18 x_78 m (fun x_6' m' => k .normal (only [0, 3, 6] [(σ 0), (.ptr b_3 o_3), (.flat (.int .u32 x_6'))]) m') (fun m' => k .ret (only [] []) m')

def LamP26_38004 (σ : Nat → AV) (m : Mem) (k : KX) : Prop := kptr (σ 3) fun b_3 o_3 => kI .u32 (σ 4) fun x_4 => kI .u32 (σ 5) fun x_5 => kI .u32 (σ 6) fun x_6 => kI .i64 (σ 18) fun x_18 => kbool (σ 106) fun x_106 => P26_38004 (σ 0) b_3 o_3 x_4 x_5 x_6 x_18 x_106 m (fun m' => k .ret (only [] []) m') (fun x_6' m' => k .normal (only [0, 3, 6] [(σ 0), (.ptr b_3 o_3), (.flat (.int .u32 x_6'))]) m')

def LamP26_41004 (σ : Nat → AV) (m : Mem) (k : KX) : Prop := kptr (σ 3) fun b_3 o_3 => kI .u32 (σ 4) fun x_4 => kI .u32 (σ 5) fun x_5 => kI .u32 (σ 6) fun x_6 => kI .i64 (σ 18) fun x_18 => kbool (σ 122) fun x_122 => P26_41004 (σ 0) b_3 o_3 x_4 x_5 x_6 x_18 x_122 m (fun m' => k .ret (only [] []) m') (fun x_6' m' => k .normal (only [0, 3, 6] [(σ 0), (.ptr b_3 o_3), (.flat (.int .u32 x_6'))]) m')

def LamP26_44004 (σ : Nat → AV) (m : Mem) (k : KX) : Prop := kptr (σ 3) fun b_3 o_3 => kI .u32 (σ 4) fun x_4 => kI .u32 (σ 5) fun x_5 => kI .u32 (σ 6) fun x_6 => kbool (σ 138) fun x_138 => P26_44004 (σ 0) b_3 o_3 x_4 x_5 x_6 x_138 m (fun m' => k .ret (only [] []) m') (fun x_6' m' => k .normal (only [0, 3, 6] [(σ 0), (.ptr b_3 o_3), (.flat (.int .u32 x_6'))]) m')

def LamP26_46102 (σ : Nat → AV) (m : Mem) (k : KX) : Prop := kptr (σ 3) fun b_3 o_3 => kI .u32 (σ 6) fun x_6 => P26_46102 (σ 0) b_3 o_3 x_6 m (fun m' => k .normal (only [] []) m')

def Lam26 : LEnv := ⟨fun a σ m k => match firstReg a with
  | _ => bump False,
  fun id => match id with
  | _ => bump false,
  fun b => match keyC b with
  | some 29004 => true
  | some 38004 => true
  | some 41004 => true
  | some 44004 => true
  | some 46102 => true
  | _ => bump false,
  fun b σ m k => match keyC b with
  | some 29004 => LamP26_29004 σ m k
  | some 38004 => LamP26_38004 σ m k
  | some 41004 => LamP26_41004 σ m k
  | some 44004 => LamP26_44004 σ m k
  | some 46102 => LamP26_46102 σ m k
  | _ => bump False⟩

def lxp26_46102 : Ex → List Nat := fun e => match e with
  | .normal => []
  | _ => []

theorem pc26_46102 (v_0 : AV) (b_3 o_3 : Nat) (x_6 : Int) (m : Mem) (k : KX) : once Tryz.prog E26 Lam26 [0, 3, 6] lxp26_46102 (((secsOf (bodyOf Tryz.f26)).filter Lam26.cut).getD 0 .skip) [v_0, (.ptr b_3 o_3), (.flat (.int .u32 x_6))] m k = P26_46102 v_0 b_3 o_3 x_6 m (fun m' => k .normal (only [] []) m') := by
  kernel_rfl

theorem pok26_46102 : PieceOK Tryz.prog E26 Lam26 (((secsOf (bodyOf Tryz.f26)).filter Lam26.cut).getD 0 .skip) := by
  refine ⟨fun σ => ∃ v_0 b_3 o_3 x_6, σ 0 = v_0 ∧ σ 3 = .ptr b_3 o_3 ∧ σ 6 = .flat (.int .u32 x_6), [0, 3, 6], lxp26_46102, fun σ m k => ?_⟩
  have e : Lam26.piece (((secsOf (bodyOf Tryz.f26)).filter Lam26.cut).getD 0 .skip) σ m k = LamP26_46102 σ m k := by kernel_rfl
  rw [e]
  constructor
  · intro h
    unfold LamP26_46102 at h
    obtain ⟨v_0, h0⟩ : ∃ v, σ 0 = v := ⟨_, rfl⟩
    obtain ⟨b_3, o_3, h1, h⟩ := kptr_ok h
    obtain ⟨x_6, h2, h⟩ := kI_ok h
    refine ⟨⟨v_0, b_3, o_3, x_6, h0, h1, h2⟩, ?_⟩
    have ev : [0, 3, 6].map σ = [v_0, (.ptr b_3 o_3), (.flat (.int .u32 x_6))] := by simp only [List.map_cons, List.map_nil, h0, h1, h2]
    rw [ev, pc26_46102]
    simp only [h0] at h
    exact h
  · rintro ⟨⟨v_0, b_3, o_3, x_6, h0, h1, h2⟩, h⟩
    have ev : [0, 3, 6].map σ = [v_0, (.ptr b_3 o_3), (.flat (.int .u32 x_6))] := by simp only [List.map_cons, List.map_nil, h0, h1, h2]
    rw [ev, pc26_46102] at h
    unfold LamP26_46102
    try simp only [h0, h1, h2, kI, kbool, kS, kptr, kaggN, kite, decide_true, eq_self]
    exact h

def lxp26_44004 : Ex → List Nat := fun e => match e with
  | .ret => []
  | .normal => [0, 3, 6]
  | _ => []

theorem pc26_44004 (v_0 : AV) (b_3 o_3 : Nat) (x_4 : Int) (x_5 : Int) (x_6 : Int) (x_138 : Bool) (m : Mem) (k : KX) : once Tryz.prog E26 Lam26 [0, 3, 4, 5, 6, 138] lxp26_44004 (((secsOf (bodyOf Tryz.f26)).filter Lam26.cut).getD 4 .skip) [v_0, (.ptr b_3 o_3), (.flat (.int .u32 x_4)), (.flat (.int .u32 x_5)), (.flat (.int .u32 x_6)), (.flat (.bool x_138))] m k = P26_44004 v_0 b_3 o_3 x_4 x_5 x_6 x_138 m (fun m' => k .ret (only [] []) m') (fun x_6' m' => k .normal (only [0, 3, 6] [v_0, (.ptr b_3 o_3), (.flat (.int .u32 x_6'))]) m') := by
  kernel_rfl

theorem pok26_44004 : PieceOK Tryz.prog E26 Lam26 (((secsOf (bodyOf Tryz.f26)).filter Lam26.cut).getD 4 .skip) := by
  refine ⟨fun σ => ∃ v_0 b_3 o_3 x_4 x_5 x_6 x_138, σ 0 = v_0 ∧ σ 3 = .ptr b_3 o_3 ∧ σ 4 = .flat (.int .u32 x_4) ∧ σ 5 = .flat (.int .u32 x_5) ∧ σ 6 = .flat (.int .u32 x_6) ∧ σ 138 = .flat (.bool x_138), [0, 3, 4, 5, 6, 138], lxp26_44004, fun σ m k => ?_⟩
  have e : Lam26.piece (((secsOf (bodyOf Tryz.f26)).filter Lam26.cut).getD 4 .skip) σ m k = LamP26_44004 σ m k := by kernel_rfl
  rw [e]
  constructor
  · intro h
    unfold LamP26_44004 at h
    obtain ⟨v_0, h0⟩ : ∃ v, σ 0 = v := ⟨_, rfl⟩
    obtain ⟨b_3, o_3, h1, h⟩ := kptr_ok h
    obtain ⟨x_4, h2, h⟩ := kI_ok h
    obtain ⟨x_5, h3, h⟩ := kI_ok h
    obtain ⟨x_6, h4, h⟩ := kI_ok h
    obtain ⟨x_138, h5, h⟩ := kbool_ok h
    refine ⟨⟨v_0, b_3, o_3, x_4, x_5, x_6, x_138, h0, h1, h2, h3, h4, h5⟩, ?_⟩
    have ev : [0, 3, 4, 5, 6, 138].map σ = [v_0, (.ptr b_3 o_3), (.flat (.int .u32 x_4)), (.flat (.int .u32 x_5)), (.flat (.int .u32 x_6)), (.flat (.bool x_138))] := by simp only [List.map_cons, List.map_nil, h0, h1, h2, h3, h4, h5]
    rw [ev, pc26_44004]
    simp only [h0] at h
    exact h
  · rintro ⟨⟨v_0, b_3, o_3, x_4, x_5, x_6, x_138, h0, h1, h2, h3, h4, h5⟩, h⟩
    have ev : [0, 3, 4, 5, 6, 138].map σ = [v_0, (.ptr b_3 o_3), (.flat (.int .u32 x_4)), (.flat (.int .u32 x_5)), (.flat (.int .u32 x_6)), (.flat (.bool x_138))] := by simp only [List.map_cons, List.map_nil, h0, h1, h2, h3, h4, h5]
    rw [ev, pc26_44004] at h
    unfold LamP26_44004
    try simp only [h0, h1, h2, h3, h4, h5, kI, kbool, kS, kptr, kaggN, kite, decide_true, eq_self]
    exact h

def lxp26_41004 : Ex → List Nat := fun e => match e with
  | .ret => []
  | .normal => [0, 3, 6]
  | _ => []

theorem pc26_41004 (v_0 : AV) (b_3 o_3 : Nat) (x_4 : Int) (x_5 : Int) (x_6 : Int) (x_18 : Int) (x_122 : Bool) (m : Mem) (k : KX) : once Tryz.prog E26 Lam26 [0, 3, 4, 5, 6, 18, 122] lxp26_41004 (((secsOf (bodyOf Tryz.f26)).filter Lam26.cut).getD 3 .skip) [v_0, (.ptr b_3 o_3), (.flat (.int .u32 x_4)), (.flat (.int .u32 x_5)), (.flat (.int .u32 x_6)), (.flat (.int .i64 x_18)), (.flat (.bool x_122))] m k = P26_41004 v_0 b_3 o_3 x_4 x_5 x_6 x_18 x_122 m (fun m' => k .ret (only [] []) m') (fun x_6' m' => k .normal (only [0, 3, 6] [v_0, (.ptr b_3 o_3), (.flat (.int .u32 x_6'))]) m') := by
  kernel_rfl

theorem pok26_41004 : PieceOK Tryz.prog E26 Lam26 (((secsOf (bodyOf Tryz.f26)).filter Lam26.cut).getD 3 .skip) := by
  refine ⟨fun σ => ∃ v_0 b_3 o_3 x_4 x_5 x_6 x_18 x_122, σ 0 = v_0 ∧ σ 3 = .ptr b_3 o_3 ∧ σ 4 = .flat (.int .u32 x_4) ∧ σ 5 = .flat (.int .u32 x_5) ∧ σ 6 = .flat (.int .u32 x_6) ∧ σ 18 = .flat (.int .i64 x_18) ∧ σ 122 = .flat (.bool x_122), [0, 3, 4, 5, 6, 18, 122], lxp26_41004, fun σ m k => ?_⟩
  have e : Lam26.piece (((secsOf (bodyOf Tryz.f26)).filter Lam26.cut).getD 3 .skip) σ m k = LamP26_41004 σ m k := by kernel_rfl
  rw [e]
  constructor
  · intro h
    unfold LamP26_41004 at h
    obtain ⟨v_0, h0⟩ : ∃ v, σ 0 = v := ⟨_, rfl⟩
    obtain ⟨b_3, o_3, h1, h⟩ := kptr_ok h
    obtain ⟨x_4, h2, h⟩ := kI_ok h
    obtain ⟨x_5, h3, h⟩ := kI_ok h
    obtain ⟨x_6, h4, h⟩ := kI_ok h
    obtain ⟨x_18, h5, h⟩ := kI_ok h
    obtain ⟨x_122, h6, h⟩ := kbool_ok h
    refine ⟨⟨v_0, b_3, o_3, x_4, x_5, x_6, x_18, x_122, h0, h1, h2, h3, h4, h5, h6⟩, ?_⟩
    have ev : [0, 3, 4, 5, 6, 18, 122].map σ = [v_0, (.ptr b_3 o_3), (.flat (.int .u32 x_4)), (.flat (.int .u32 x_5)), (.flat (.int .u32 x_6)), (.flat (.int .i64 x_18)), (.flat (.bool x_122))] := by simp only [List.map_cons, List.map_nil, h0, h1, h2, h3, h4, h5, h6]
    rw [ev, pc26_41004]
    simp only [h0] at h
    exact h
  · rintro ⟨⟨v_0, b_3, o_3, x_4, x_5, x_6, x_18, x_122, h0, h1, h2, h3, h4, h5, h6⟩, h⟩
    have ev : [0, 3, 4, 5, 6, 18, 122].map σ = [v_0, (.ptr b_3 o_3), (.flat (.int .u32 x_4)), (.flat (.int .u32 x_5)), (.flat (.int .u32 x_6)), (.flat (.int .i64 x_18)), (.flat (.bool x_122))] := by simp only [List.map_cons, List.map_nil, h0, h1, h2, h3, h4, h5, h6]
    rw [ev, pc26_41004] at h
    unfold LamP26_41004
    try simp only [h0, h1, h2, h3, h4, h5, h6, kI, kbool, kS, kptr, kaggN, kite, decide_true, eq_self]
    exact h

def lxp26_38004 : Ex → List Nat := fun e => match e with
  | .ret => []
  | .normal => [0, 3, 6]
  | _ => []

theorem pc26_38004 (v_0 : AV) (b_3 o_3 : Nat) (x_4 : Int) (x_5 : Int) (x_6 : Int) (x_18 : Int) (x_106 : Bool) (m : Mem) (k : KX) : once Tryz.prog E26 Lam26 [0, 3, 4, 5, 6, 18, 106] lxp26_38004 (((secsOf (bodyOf Tryz.f26)).filter Lam26.cut).getD 2 .skip) [v_0, (.ptr b_3 o_3), (.flat (.int .u32 x_4)), (.flat (.int .u32 x_5)), (.flat (.int .u32 x_6)), (.flat (.int .i64 x_18)), (.flat (.bool x_106))] m k = P26_38004 v_0 b_3 o_3 x_4 x_5 x_6 x_18 x_106 m (fun m' => k .ret (only [] []) m') (fun x_6' m' => k .normal (only [0, 3, 6] [v_0, (.ptr b_3 o_3), (.flat (.int .u32 x_6'))]) m') := by
  kernel_rfl

theorem pok26_38004 : PieceOK Tryz.prog E26 Lam26 (((secsOf (bodyOf Tryz.f26)).filter Lam26.cut).getD 2 .skip) := by
  refine ⟨fun σ => ∃ v_0 b_3 o_3 x_4 x_5 x_6 x_18 x_106, σ 0 = v_0 ∧ σ 3 = .ptr b_3 o_3 ∧ σ 4 = .flat (.int .u32 x_4) ∧ σ 5 = .flat (.int .u32 x_5) ∧ σ 6 = .flat (.int .u32 x_6) ∧ σ 18 = .flat (.int .i64 x_18) ∧ σ 106 = .flat (.bool x_106), [0, 3, 4, 5, 6, 18, 106], lxp26_38004, fun σ m k => ?_⟩
  have e : Lam26.piece (((secsOf (bodyOf Tryz.f26)).filter Lam26.cut).getD 2 .skip) σ m k = LamP26_38004 σ m k := by kernel_rfl
  rw [e]
  constructor
  · intro h
    unfold LamP26_38004 at h
    obtain ⟨v_0, h0⟩ : ∃ v, σ 0 = v := ⟨_, rfl⟩
    obtain ⟨b_3, o_3, h1, h⟩ := kptr_ok h
    obtain ⟨x_4, h2, h⟩ := kI_ok h
    obtain ⟨x_5, h3, h⟩ := kI_ok h
    obtain ⟨x_6, h4, h⟩ := kI_ok h
    obtain ⟨x_18, h5, h⟩ := kI_ok h
    obtain ⟨x_106, h6, h⟩ := kbool_ok h
    refine ⟨⟨v_0, b_3, o_3, x_4, x_5, x_6, x_18, x_106, h0, h1, h2, h3, h4, h5, h6⟩, ?_⟩
    have ev : [0, 3, 4, 5, 6, 18, 106].map σ = [v_0, (.ptr b_3 o_3), (.flat (.int .u32 x_4)), (.flat (.int .u32 x_5)), (.flat (.int .u32 x_6)), (.flat (.int .i64 x_18)), (.flat (.bool x_106))] := by simp only [List.map_cons, List.map_nil, h0, h1, h2, h3, h4, h5, h6]
    rw [ev, pc26_38004]
    simp only [h0] at h
    exact h
  · rintro ⟨⟨v_0, b_3, o_3, x_4, x_5, x_6, x_18, x_106, h0, h1, h2, h3, h4, h5, h6⟩, h⟩
    have ev : [0, 3, 4, 5, 6, 18, 106].map σ = [v_0, (.ptr b_3 o_3), (.flat (.int .u32 x_4)), (.flat (.int .u32 x_5)), (.flat (.int .u32 x_6)), (.flat (.int .i64 x_18)), (.flat (.bool x_106))] := by simp only [List.map_cons, List.map_nil, h0, h1, h2, h3, h4, h5, h6]
    rw [ev, pc26_38004] at h
    unfold LamP26_38004
    try simp only [h0, h1, h2, h3, h4, h5, h6, kI, kbool, kS, kptr, kaggN, kite, decide_true, eq_self]
    exact h

def lxp26_29004 : Ex → List Nat := fun e => match e with
  | .normal => [0, 3, 6]
  | .ret => []
  | _ => []

theorem pc26_29004 (v_0 : AV) (b_3 o_3 : Nat) (x_4 : Int) (x_5 : Int) (x_6 : Int) (x_18 : Int) (x_78 : Bool) (m : Mem) (k : KX) : once Tryz.prog E26 Lam26 [0, 3, 4, 5, 6, 18, 78] lxp26_29004 (((secsOf (bodyOf Tryz.f26)).filter Lam26.cut).getD 1 .skip) [v_0, (.ptr b_3 o_3), (.flat (.int .u32 x_4)), (.flat (.int .u32 x_5)), (.flat (.int .u32 x_6)), (.flat (.int .i64 x_18)), (.flat (.bool x_78))] m k = P26_29004 v_0 b_3 o_3 x_4 x_5 x_6 x_18 x_78 m (fun x_6' m' => k .normal (only [0, 3, 6] [v_0, (.ptr b_3 o_3), (.flat (.int .u32 x_6'))]) m') (fun m' => k .ret (only [] []) m') := by
  kernel_rfl

theorem pok26_29004 : PieceOK Tryz.prog E26 Lam26 (((secsOf (bodyOf Tryz.f26)).filter Lam26.cut).getD 1 .skip) := by
  refine ⟨fun σ => ∃ v_0 b_3 o_3 x_4 x_5 x_6 x_18 x_78, σ 0 = v_0 ∧ σ 3 = .ptr b_3 o_3 ∧ σ 4 = .flat (.int .u32 x_4) ∧ σ 5 = .flat (.int .u32 x_5) ∧ σ 6 = .flat (.int .u32 x_6) ∧ σ 18 = .flat (.int .i64 x_18) ∧ σ 78 = .flat (.bool x_78), [0, 3, 4, 5, 6, 18, 78], lxp26_29004, fun σ m k => ?_⟩
  have e : Lam26.piece (((secsOf (bodyOf Tryz.f26)).filter Lam26.cut).getD 1 .skip) σ m k = LamP26_29004 σ m k := by kernel_rfl
  rw [e]
  constructor
  · intro h
    unfold LamP26_29004 at h
    obtain ⟨v_0, h0⟩ : ∃ v, σ 0 = v := ⟨_, rfl⟩
    obtain ⟨b_3, o_3, h1, h⟩ := kptr_ok h
    obtain ⟨x_4, h2, h⟩ := kI_ok h
    obtain ⟨x_5, h3, h⟩ := kI_ok h
    obtain ⟨x_6, h4, h⟩ := kI_ok h
    obtain ⟨x_18, h5, h⟩ := kI_ok h
    obtain ⟨x_78, h6, h⟩ := kbool_ok h
    refine ⟨⟨v_0, b_3, o_3, x_4, x_5, x_6, x_18, x_78, h0, h1, h2, h3, h4, h5, h6⟩, ?_⟩
    have ev : [0, 3, 4, 5, 6, 18, 78].map σ = [v_0, (.ptr b_3 o_3), (.flat (.int .u32 x_4)), (.flat (.int .u32 x_5)), (.flat (.int .u32 x_6)), (.flat (.int .i64 x_18)), (.flat (.bool x_78))] := by simp only [List.map_cons, List.map_nil, h0, h1, h2, h3, h4, h5, h6]
    rw [ev, pc26_29004]
    simp only [h0] at h
    exact h
  · rintro ⟨⟨v_0, b_3, o_3, x_4, x_5, x_6, x_18, x_78, h0, h1, h2, h3, h4, h5, h6⟩, h⟩
    have ev : [0, 3, 4, 5, 6, 18, 78].map σ = [v_0, (.ptr b_3 o_3), (.flat (.int .u32 x_4)), (.flat (.int .u32 x_5)), (.flat (.int .u32 x_6)), (.flat (.int .i64 x_18)), (.flat (.bool x_78))] := by simp only [List.map_cons, List.map_nil, h0, h1, h2, h3, h4, h5, h6]
    rw [ev, pc26_29004] at h
    unfold LamP26_29004
    try simp only [h0, h1, h2, h3, h4, h5, h6, kI, kbool, kS, kptr, kaggN, kite, decide_true, eq_self]
    exact h

theorem eqn26 (v_0 : AV) (c_1 : Nat → AV) (m : Mem) (k : KV) : bodyK Tryz.prog E26 Lam26 Tryz.f26 false [v_0, (.agg 5 c_1)] m k = F26 v_0 c_1 m (fun m' => k (.tup []) m') := by
  kernel_rfl

theorem fs26 (w0 : World) : FS Tryz.prog w0 26 G26 := by
  refine (fs_body (Γ := E26) (sound_env (l := [(48, G48), (49, G49), (50, G50), (51, G51), (52, G52), (53, G53), (54, G54)]) w0 (by
    intro p hp
    simp only [List.mem_cons, List.not_mem_nil, or_false] at hp
    rcases hp with rfl | rfl | rfl | rfl | rfl | rfl | rfl
    · exact fs48 w0
    · exact fs49 w0
    · exact fs50 w0
    · exact fs51 w0
    · exact fs52 w0
    · exact fs53 w0
    · exact fs54 w0)) (by kernel_rfl) Tryz.func26 (Λ := Lam26) (c := (bodyOf Tryz.f26)) (by kernel_rfl) Tryz.call26 (by kernel_rfl) (LS_of (bodyOf Tryz.f26) 0 (by kernel_rfl) (fun i hi => absurd hi (Nat.not_lt_zero i)) 5 (by kernel_rfl) (by
    intro i hi
    match i, hi with
    | 0, _ => exact pok26_46102
    | 1, _ => exact pok26_29004
    | 2, _ => exact pok26_38004
    | 3, _ => exact pok26_41004
    | 4, _ => exact pok26_44004
    | i + 5, hi => omega)) false (np := 2) (Nat.le_of_ble_eq_true (by kernel_rfl))).imp fun args => ?_
  by_cases hl : args.length = 2
  rotate_left
  · exact .inr fun m k hk => by
      unfold G26 at hk
      split at hk
      · exact hl rfl
      · exact hk
  obtain ⟨a0, a1, rfl⟩ : ∃ a0 a1, args = [a0, a1] := len_list2 hl
  rcases kaggN_or 5 a1 with ⟨c_1, rfl⟩ | h
  rotate_left
  · exact .inr fun m k hk => h _ (by simpa only [G26, kI, kbool, kS, kptr, kaggN, kite, decide_true, eq_self] using hk)
  exact .inl fun m k => propext ⟨fun h => ⟨rfl, by rw [eqn26]; simpa only [G26, kI, kbool, kS, kptr, kaggN, kite, decide_true, eq_self] using h⟩, fun h => by have h := h.2; rw [eqn26] at h; simpa only [G26, kI, kbool, kS, kptr, kaggN, kite, decide_true, eq_self] using h⟩

def E12 : Env := envOf [(25, G25), (26, G26)]

def R12_7 (v_0 : AV) (v_1 : AV) (x_6 : Int) (m : Mem) (kn : Int → Mem → Prop) (k2 : Mem → Prop) : Prop :=
  klen v_1 fun x13 => kif (decide (x_6 < x13)) (ksl v_1 fun b14 o15 l16 p17 => kif (decide (0 ≤ x_6) && decide (x_6 < l16)) (ldG 5 m b14 (o15 + (x_6).toNat * 5) fun c18 => F26 v_0 c18 m fun m19 => kn (IntKind.wrap .i64 (x_6 + 1)) m19) False) (k2  m)

def L12_7 (v_0 : AV) (v_1 : AV) : Nat → Int → Mem → (Mem → Prop) → Prop
  | 0, _,  _, _ => bump False
  | N + 1, x_6,  m, k2 => R12_7 v_0 v_1 x_6 m (fun x_6' m' => L12_7 v_0 v_1 N x_6' m' k2) k2

def R12_2 (v_0 : AV) (v_1 : AV) (x_5 : Int) (m : Mem) (kn : Int → Mem → Prop) (k0 : Mem → Prop) (kr : Bool → Mem → Prop) : Prop :=
  klen v_1 fun x1 => kif (decide (x_5 < x1)) (ksl v_1 fun b2 o3 l4 p5 => kif (decide (0 ≤ x_5) && decide (x_5 < l4)) (ldG 5 m b2 (o3 + (x_5).toNat * 5) fun c6 => F25 c6 m fun x7 m8 => kif (!x7) (kr false m8) (kn (IntKind.wrap .i64 (x_5 + 1)) m8)) False) (k0  m)

def L12_2 (v_0 : AV) (v_1 : AV) : Nat → Int → Mem → (Mem → Prop) → (Bool → Mem → Prop) → Prop
  | 0, _,  _, _, _ => bump False
  | N + 1, x_5,  m, k0, kr => R12_2 v_0 v_1 x_5 m (fun x_5' m' => L12_2 v_0 v_1 N x_5' m' k0 kr) k0 kr

/-- pianola/pianolaref18.Run -/
def F12 (v_0 : AV) (v_1 : AV) (m : Mem) (k : Bool → Mem → Prop) : Prop :=
  ∃ N12, L12_2 v_0 v_1 N12 0 m (fun m9 => ∃ N21, L12_7 v_0 v_1 N21 0 m9 (fun m20 => k true m20)) (fun x10 m11 => k x10 m11)

def G12 (args : List AV) (m : Mem) (k : KV) : Prop := match args with
  | [a0, a1] => F12 a0 a1 m (fun x_1000 m' => k (.flat (.bool x_1000)) m')
  | _ => False

def Lam12_2 (σ : Nat → AV) (m : Mem) (k : KX) : Prop := kI .i64 (σ 5) fun x_5 => ∃ N, L12_2 (σ 0) (σ 1) N x_5 m (fun m' => k (.exit 0) (only [0, 1] [(σ 0), (σ 1)]) m') (fun x_4' m' => k .ret (only [4] [(.flat (.bool x_4'))]) m')

def Lam12_7 (σ : Nat → AV) (m : Mem) (k : KX) : Prop := kI .i64 (σ 6) fun x_6 => ∃ N, L12_7 (σ 0) (σ 1) N x_6 m (fun m' => k (.exit 2) (only [] []) m')

def Lam12 : LEnv := ⟨fun a σ m k => match firstReg a with
  | some 2 => Lam12_2 σ m k
  | some 7 => Lam12_7 σ m k
  | _ => bump False,
  fun id => match id with
  | _ => bump false,
  fun b => match keyC b with
  | _ => bump false,
  fun b σ m k => match keyC b with
  | _ => bump False⟩

def lx12_7 : Ex → List Nat := fun e => match e with
  | .exit 2 => []
  | _ => []

theorem round12_7 (v_0 : AV) (v_1 : AV) (x_6 : Int) (m : Mem) (G : List AV → Mem → Prop) (k : KX) : (wpA Tryz.prog E12 Lam12 ((loopsOf (bodyOf Tryz.f12)).getD 1 .skip) (only [0, 1, 6] [v_0, v_1, (.flat (.int .i64 x_6))]) m fun e σ' m' => match e with
    | .normal => G ([0, 1, 6].map σ') m'
    | .exit id => k (.exit id) (only (lx12_7 (.exit id)) ((lx12_7 (.exit id)).map σ')) m'
    | .ret => k .ret (only (lx12_7 .ret) ((lx12_7 .ret).map σ')) m') = R12_7 v_0 v_1 x_6 m (fun x_6' m' => G [v_0, v_1, (.flat (.int .i64 x_6'))] m') (fun m' => k (.exit 2) (only [] []) m') := by
  kernel_rfl

theorem loop12_7 (v_0 : AV) (v_1 : AV) (k : KX) : ∀ (N : Nat) (x_6 : Int) (m : Mem), rounds Tryz.prog E12 Lam12 [0, 1, 6] lx12_7 ((loopsOf (bodyOf Tryz.f12)).getD 1 .skip) N [v_0, v_1, (.flat (.int .i64 x_6))] m k = L12_7 v_0 v_1 N x_6 m (fun m' => k (.exit 2) (only [] []) m') := by
  intro N
  induction N with
  | zero => intros; rfl
  | succ N ih =>
    intro x_6 m
    refine (round12_7 v_0 v_1 x_6 m (fun vs m' => rounds Tryz.prog E12 Lam12 [0, 1, 6] lx12_7 ((loopsOf (bodyOf Tryz.f12)).getD 1 .skip) N vs m' k) k).trans ?_
    simp only [ih]
    rfl

theorem lok12_7 : LoopOK Tryz.prog E12 Lam12 ((loopsOf (bodyOf Tryz.f12)).getD 1 .skip) := by
  refine ⟨fun σ => ∃ v_0 v_1 x_6, σ 0 = v_0 ∧ σ 1 = v_1 ∧ σ 6 = .flat (.int .i64 x_6), [0, 1, 6], lx12_7, fun σ m k => ?_⟩
  have e : Lam12.loop ((loopsOf (bodyOf Tryz.f12)).getD 1 .skip) σ m k = Lam12_7 σ m k := by kernel_rfl
  rw [e]
  constructor
  · intro h
    unfold Lam12_7 at h
    obtain ⟨v_0, h0⟩ : ∃ v, σ 0 = v := ⟨_, rfl⟩
    obtain ⟨v_1, h1⟩ : ∃ v, σ 1 = v := ⟨_, rfl⟩
    obtain ⟨x_6, h2, h⟩ := kI_ok h
    obtain ⟨N, h⟩ := h
    refine ⟨⟨v_0, v_1, x_6, h0, h1, h2⟩, N, ?_⟩
    have ev : [0, 1, 6].map σ = [v_0, v_1, (.flat (.int .i64 x_6))] := by simp only [List.map_cons, List.map_nil, h0, h1, h2]
    rw [ev, loop12_7]
    simp only [h0, h1] at h
    exact h
  · rintro ⟨⟨v_0, v_1, x_6, h0, h1, h2⟩, N, h⟩
    have ev : [0, 1, 6].map σ = [v_0, v_1, (.flat (.int .i64 x_6))] := by simp only [List.map_cons, List.map_nil, h0, h1, h2]
    rw [ev, loop12_7] at h
    unfold Lam12_7
    try simp only [h0, h1, h2, kI, kbool, kS, kptr, kaggN, kite, decide_true, eq_self]
    exact ⟨N, h⟩

def lx12_2 : Ex → List Nat := fun e => match e with
  | .exit 0 => [0, 1]
  | .ret => [4]
  | _ => []

theorem round12_2 (v_0 : AV) (v_1 : AV) (x_5 : Int) (m : Mem) (G : List AV → Mem → Prop) (k : KX) : (wpA Tryz.prog E12 Lam12 ((loopsOf (bodyOf Tryz.f12)).getD 0 .skip) (only [0, 1, 5] [v_0, v_1, (.flat (.int .i64 x_5))]) m fun e σ' m' => match e with
    | .normal => G ([0, 1, 5].map σ') m'
    | .exit id => k (.exit id) (only (lx12_2 (.exit id)) ((lx12_2 (.exit id)).map σ')) m'
    | .ret => k .ret (only (lx12_2 .ret) ((lx12_2 .ret).map σ')) m') = R12_2 v_0 v_1 x_5 m (fun x_5' m' => G [v_0, v_1, (.flat (.int .i64 x_5'))] m') (fun m' => k (.exit 0) (only [0, 1] [v_0, v_1]) m') (fun x_4' m' => k .ret (only [4] [(.flat (.bool x_4'))]) m') := by
  kernel_rfl

theorem loop12_2 (v_0 : AV) (v_1 : AV) (k : KX) : ∀ (N : Nat) (x_5 : Int) (m : Mem), rounds Tryz.prog E12 Lam12 [0, 1, 5] lx12_2 ((loopsOf (bodyOf Tryz.f12)).getD 0 .skip) N [v_0, v_1, (.flat (.int .i64 x_5))] m k = L12_2 v_0 v_1 N x_5 m (fun m' => k (.exit 0) (only [0, 1] [v_0, v_1]) m') (fun x_4' m' => k .ret (only [4] [(.flat (.bool x_4'))]) m') := by
  intro N
  induction N with
  | zero => intros; rfl
  | succ N ih =>
    intro x_5 m
    refine (round12_2 v_0 v_1 x_5 m (fun vs m' => rounds Tryz.prog E12 Lam12 [0, 1, 5] lx12_2 ((loopsOf (bodyOf Tryz.f12)).getD 0 .skip) N vs m' k) k).trans ?_
    simp only [ih]
    rfl

theorem lok12_2 : LoopOK Tryz.prog E12 Lam12 ((loopsOf (bodyOf Tryz.f12)).getD 0 .skip) := by
  refine ⟨fun σ => ∃ v_0 v_1 x_5, σ 0 = v_0 ∧ σ 1 = v_1 ∧ σ 5 = .flat (.int .i64 x_5), [0, 1, 5], lx12_2, fun σ m k => ?_⟩
  have e : Lam12.loop ((loopsOf (bodyOf Tryz.f12)).getD 0 .skip) σ m k = Lam12_2 σ m k := by kernel_rfl
  rw [e]
  constructor
  · intro h
    unfold Lam12_2 at h
    obtain ⟨v_0, h0⟩ : ∃ v, σ 0 = v := ⟨_, rfl⟩
    obtain ⟨v_1, h1⟩ : ∃ v, σ 1 = v := ⟨_, rfl⟩
    obtain ⟨x_5, h2, h⟩ := kI_ok h
    obtain ⟨N, h⟩ := h
    refine ⟨⟨v_0, v_1, x_5, h0, h1, h2⟩, N, ?_⟩
    have ev : [0, 1, 5].map σ = [v_0, v_1, (.flat (.int .i64 x_5))] := by simp only [List.map_cons, List.map_nil, h0, h1, h2]
    rw [ev, loop12_2]
    simp only [h0, h1] at h
    exact h
  · rintro ⟨⟨v_0, v_1, x_5, h0, h1, h2⟩, N, h⟩
    have ev : [0, 1, 5].map σ = [v_0, v_1, (.flat (.int .i64 x_5))] := by simp only [List.map_cons, List.map_nil, h0, h1, h2]
    rw [ev, loop12_2] at h
    unfold Lam12_2
    try simp only [h0, h1, h2, kI, kbool, kS, kptr, kaggN, kite, decide_true, eq_self]
    exact ⟨N, h⟩

theorem eqn12 (v_0 : AV) (v_1 : AV) (m : Mem) (k : KV) : bodyK Tryz.prog E12 Lam12 Tryz.f12 false [v_0, v_1] m k = F12 v_0 v_1 m (fun x_1000 m' => k (.flat (.bool x_1000)) m') := by
  kernel_rfl

theorem fs12 (w0 : World) : FS Tryz.prog w0 12 G12 := by
  refine (fs_body (Γ := E12) (sound_env (l := [(25, G25), (26, G26)]) w0 (by
    intro p hp
    simp only [List.mem_cons, List.not_mem_nil, or_false] at hp
    rcases hp with rfl | rfl
    · exact fs25 w0
    · exact fs26 w0)) (by kernel_rfl) Tryz.func12 (Λ := Lam12) (c := (bodyOf Tryz.f12)) (by kernel_rfl) Tryz.call12 (by kernel_rfl) (LS_of (bodyOf Tryz.f12) 2 (by kernel_rfl) (by
    intro i hi
    match i, hi with
    | 0, _ => exact lok12_2
    | 1, _ => exact lok12_7
    | i + 2, hi => omega) 0 (by kernel_rfl) (fun i hi => absurd hi (Nat.not_lt_zero i))) false (np := 2) (Nat.le_of_ble_eq_true (by kernel_rfl))).imp fun args => ?_
  by_cases hl : args.length = 2
  rotate_left
  · exact .inr fun m k hk => by
      unfold G12 at hk
      split at hk
      · exact hl rfl
      · exact hk
  obtain ⟨a0, a1, rfl⟩ : ∃ a0 a1, args = [a0, a1] := len_list2 hl

  exact .inl fun m k => propext ⟨fun h => ⟨rfl, by rw [eqn12]; simpa only [G12, kI, kbool, kS, kptr, kaggN, kite, decide_true, eq_self] using h⟩, fun h => by have h := h.2; rw [eqn12] at h; simpa only [G12, kI, kbool, kS, kptr, kaggN, kite, decide_true, eq_self] using h⟩

def E104 : Env := envOf []

def P104_18004 (x_0 : Int) (x_103 : Bool) (m : Mem) (kr : Int → Mem → Prop) (kn : Mem → Prop) : Prop :=
  kif x_103 (kr 19 m) (kif (x_0 == 53) (kr 18 m) (kif (x_0 == 54) (kr 6 m) (kif (x_0 == 55) (kr 6 m) (kn  m))))

def P104_16004 (x_0 : Int) (x_96 : Bool) (m : Mem) (kr : Int → Mem → Prop) (kn : Mem → Prop) : Prop :=
  kif x_96 (kr 32 m) (kif (x_0 == 42) (P104_18004 x_0 true m (fun x1 m2 => kr x1 m2) (fun m3 => kn  m3)) (kif (x_0 == 43) (P104_18004 x_0 true m (fun x4 m5 => kr x4 m5) (fun m6 => kn  m6)) (kif (decide (x_0 ≥ 46)) (kif (decide (x_0 ≤ 52)) (P104_18004 x_0 true m (fun x7 m8 => kr x7 m8) (fun m9 => kn  m9)) (kif (decide (x_0 ≥ 66)) (P104_18004 x_0 (decide (x_0 ≤ 75)) m (fun x10 m11 => kr x10 m11) (fun m12 => kn  m12)) (P104_18004 x_0 false m (fun x13 m14 => kr x13 m14) (fun m15 => kn  m15)))) (kif (decide (x_0 ≥ 66)) (P104_18004 x_0 (decide (x_0 ≤ 75)) m (fun x16 m17 => kr x16 m17) (fun m18 => kn  m18)) (P104_18004 x_0 false m (fun x19 m20 => kr x19 m20) (fun m21 => kn  m21))))))

def P104_14004 (x_0 : Int) (x_81 : Bool) (m : Mem) (kr : Int → Mem → Prop) (kn : Mem → Prop) : Prop :=
  kif x_81 (kr 17 m) (kif (x_0 == 40) (P104_16004 x_0 true m (fun x22 m23 => kr x22 m23) (fun m24 => kn  m24)) (P104_16004 x_0 (x_0 == 41) m (fun x25 m26 => kr x25 m26) (fun m27 => kn  m27)))

def P104_12004 (x_0 : Int) (x_66 : Bool) (m : Mem) (kr : Int → Mem → Prop) (kn : Mem → Prop) : Prop :=
  kif x_66 (kr 3 m) (kif (decide (x_0 ≥ 36)) (kif (decide (x_0 ≤ 39)) (P104_14004 x_0 true m (fun x28 m29 => kr x28 m29) (fun m30 => kn  m30)) (kif (x_0 == 44) (P104_14004 x_0 true m (fun x31 m32 => kr x31 m32) (fun m33 => kn  m33)) (P104_14004 x_0 (x_0 == 45) m (fun x34 m35 => kr x34 m35) (fun m36 => kn  m36)))) (kif (x_0 == 44) (P104_14004 x_0 true m (fun x37 m38 => kr x37 m38) (fun m39 => kn  m39)) (P104_14004 x_0 (x_0 == 45) m (fun x40 m41 => kr x40 m41) (fun m42 => kn  m42))))

def P104_10004 (x_0 : Int) (x_59 : Bool) (m : Mem) (kr : Int → Mem → Prop) (kn : Mem → Prop) : Prop :=
  kif x_59 (kr 4 m) (kif (decide (x_0 ≥ 18)) (kif (decide (x_0 ≤ 21)) (P104_12004 x_0 true m (fun x43 m44 => kr x43 m44) (fun m45 => kn  m45)) (kif (decide (x_0 ≥ 32)) (P104_12004 x_0 (decide (x_0 ≤ 35)) m (fun x46 m47 => kr x46 m47) (fun m48 => kn  m48)) (P104_12004 x_0 false m (fun x49 m50 => kr x49 m50) (fun m51 => kn  m51)))) (kif (decide (x_0 ≥ 32)) (P104_12004 x_0 (decide (x_0 ≤ 35)) m (fun x52 m53 => kr x52 m53) (fun m54 => kn  m54)) (P104_12004 x_0 false m (fun x55 m56 => kr x55 m56) (fun m57 => kn  m57))))

def P104_8004 (x_0 : Int) (x_48 : Bool) (m : Mem) (kr : Int → Mem → Prop) (kn : Mem → Prop) : Prop :=
  kif x_48 (kr 5 m) (kif (x_0 == 14) (P104_10004 x_0 true m (fun x58 m59 => kr x58 m59) (fun m60 => kn  m60)) (P104_10004 x_0 (x_0 == 16) m (fun x61 m62 => kr x61 m62) (fun m63 => kn  m63)))

def P104_6004 (x_0 : Int) (x_37 : Bool) (m : Mem) (kr : Int → Mem → Prop) (kn : Mem → Prop) : Prop :=
  kif x_37 (kr 1 m) (kif (x_0 == 8) (P104_8004 x_0 true m (fun x64 m65 => kr x64 m65) (fun m66 => kn  m66)) (kif (x_0 == 64) (P104_8004 x_0 true m (fun x67 m68 => kr x67 m68) (fun m69 => kn  m69)) (P104_8004 x_0 (x_0 == 65) m (fun x70 m71 => kr x70 m71) (fun m72 => kn  m72))))

def P104_4004 (x_0 : Int) (x_10 : Bool) (m : Mem) (kr : Int → Mem → Prop) (kn : Mem → Prop) : Prop :=
  kif x_10 (kr 7 m) (kif (x_0 == 7) (P104_6004 x_0 true m (fun x73 m74 => kr x73 m74) (fun m75 => kn  m75)) (kif (x_0 == 15) (P104_6004 x_0 true m (fun x76 m77 => kr x76 m77) (fun m78 => kn  m78)) (P104_6004 x_0 (x_0 == 17) m (fun x79 m80 => kr x79 m80) (fun m81 => kn  m81))))

def P104_2004 (x_0 : Int) (x_3 : Bool) (m : Mem) (kr : Int → Mem → Prop) (kn : Mem → Prop) : Prop :=
  kif x_3 (kr 14 m) (kif (decide (x_0 ≥ 4)) (kif (decide (x_0 ≤ 6)) (P104_4004 x_0 true m (fun x82 m83 => kr x82 m83) (fun m84 => kn  m84)) (kif (x_0 == 9) (P104_4004 x_0 true m (fun x85 m86 => kr x85 m86) (fun m87 => kn  m87)) (kif (x_0 == 10) (P104_4004 x_0 true m (fun x88 m89 => kr x88 m89) (fun m90 => kn  m90)) (kif (decide (x_0 ≥ 22)) (kif (decide (x_0 ≤ 31)) (P104_4004 x_0 true m (fun x91 m92 => kr x91 m92) (fun m93 => kn  m93)) (P104_4004 x_0 (x_0 == 63) m (fun x94 m95 => kr x94 m95) (fun m96 => kn  m96))) (P104_4004 x_0 (x_0 == 63) m (fun x97 m98 => kr x97 m98) (fun m99 => kn  m99)))))) (kif (x_0 == 9) (P104_4004 x_0 true m (fun x100 m101 => kr x100 m101) (fun m102 => kn  m102)) (kif (x_0 == 10) (P104_4004 x_0 true m (fun x103 m104 => kr x103 m104) (fun m105 => kn  m105)) (kif (decide (x_0 ≥ 22)) (kif (decide (x_0 ≤ 31)) (P104_4004 x_0 true m (fun x106 m107 => kr x106 m107) (fun m108 => kn  m108)) (P104_4004 x_0 (x_0 == 63) m (fun x109 m110 => kr x109 m110) (fun m111 => kn  m111))) (P104_4004 x_0 (x_0 == 63) m (fun x112 m113 => kr x112 m113) (fun m114 => kn  m114))))))

/-- pianola/decode.fields -/
def F104 (x_0 : Int) (m : Mem) (k : Int → Mem → Prop) : Prop :=
  kif (decide (x_0 ≥ 1)) (P104_2004 x_0 (decide (x_0 ≤ 3)) m (fun x115 m116 => (Keeps m m116 ∧ k x115 m)) (fun m117 => (Keeps m m117 ∧ k 0 m))) (P104_2004 x_0 false m (fun x118 m119 => (Keeps m m119 ∧ k x118 m)) (fun m120 => (Keeps m m120 ∧ k 0 m)))

def G104 (args : List AV) (m : Mem) (k : KV) : Prop := match args with
  | [a0] => kI .i64 a0 fun x_0 => F104 x_0 m (fun x_1000 m' => k (.flat (.int .i64 x_1000)) m')
  | _ => False

def LamP104_2004 (σ : Nat → AV) (m : Mem) (k : KX) : Prop := kI .i64 (σ 0) fun x_0 => kbool (σ 3) fun x_3 => P104_2004 x_0 x_3 m (fun x_2' m' => k .ret (only [2] [(.flat (.int .i64 x_2'))]) m') (fun m' => k .normal (only [] []) m')

def LamP104_4004 (σ : Nat → AV) (m : Mem) (k : KX) : Prop := kI .i64 (σ 0) fun x_0 => kbool (σ 10) fun x_10 => P104_4004 x_0 x_10 m (fun x_2' m' => k .ret (only [2] [(.flat (.int .i64 x_2'))]) m') (fun m' => k .normal (only [] []) m')

def LamP104_6004 (σ : Nat → AV) (m : Mem) (k : KX) : Prop := kI .i64 (σ 0) fun x_0 => kbool (σ 37) fun x_37 => P104_6004 x_0 x_37 m (fun x_2' m' => k .ret (only [2] [(.flat (.int .i64 x_2'))]) m') (fun m' => k .normal (only [] []) m')

def LamP104_8004 (σ : Nat → AV) (m : Mem) (k : KX) : Prop := kI .i64 (σ 0) fun x_0 => kbool (σ 48) fun x_48 => P104_8004 x_0 x_48 m (fun x_2' m' => k .ret (only [2] [(.flat (.int .i64 x_2'))]) m') (fun m' => k .normal (only [] []) m')

def LamP104_10004 (σ : Nat → AV) (m : Mem) (k : KX) : Prop := kI .i64 (σ 0) fun x_0 => kbool (σ 59) fun x_59 => P104_10004 x_0 x_59 m (fun x_2' m' => k .ret (only [2] [(.flat (.int .i64 x_2'))]) m') (fun m' => k .normal (only [] []) m')

def LamP104_12004 (σ : Nat → AV) (m : Mem) (k : KX) : Prop := kI .i64 (σ 0) fun x_0 => kbool (σ 66) fun x_66 => P104_12004 x_0 x_66 m (fun x_2' m' => k .ret (only [2] [(.flat (.int .i64 x_2'))]) m') (fun m' => k .normal (only [] []) m')

def LamP104_14004 (σ : Nat → AV) (m : Mem) (k : KX) : Prop := kI .i64 (σ 0) fun x_0 => kbool (σ 81) fun x_81 => P104_14004 x_0 x_81 m (fun x_2' m' => k .ret (only [2] [(.flat (.int .i64 x_2'))]) m') (fun m' => k .normal (only [] []) m')

def LamP104_16004 (σ : Nat → AV) (m : Mem) (k : KX) : Prop := kI .i64 (σ 0) fun x_0 => kbool (σ 96) fun x_96 => P104_16004 x_0 x_96 m (fun x_2' m' => k .ret (only [2] [(.flat (.int .i64 x_2'))]) m') (fun m' => k .normal (only [] []) m')

def LamP104_18004 (σ : Nat → AV) (m : Mem) (k : KX) : Prop := kI .i64 (σ 0) fun x_0 => kbool (σ 103) fun x_103 => P104_18004 x_0 x_103 m (fun x_2' m' => k .ret (only [2] [(.flat (.int .i64 x_2'))]) m') (fun m' => k .normal (only [] []) m')

def Lam104 : LEnv := ⟨fun a σ m k => match firstReg a with
  | _ => bump False,
  fun id => match id with
  | _ => bump false,
  fun b => match keyC b with
  | some 2004 => true
  | some 4004 => true
  | some 6004 => true
  | some 8004 => true
  | some 10004 => true
  | some 12004 => true
  | some 14004 => true
  | some 16004 => true
  | some 18004 => true
  | _ => bump false,
  fun b σ m k => match keyC b with
  | some 2004 => LamP104_2004 σ m k
  | some 4004 => LamP104_4004 σ m k
  | some 6004 => LamP104_6004 σ m k
  | some 8004 => LamP104_8004 σ m k
  | some 10004 => LamP104_10004 σ m k
  | some 12004 => LamP104_12004 σ m k
  | some 14004 => LamP104_14004 σ m k
  | some 16004 => LamP104_16004 σ m k
  | some 18004 => LamP104_18004 σ m k
  | _ => bump False⟩

def lxp104_18004 : Ex → List Nat := fun e => match e with
  | .ret => [2]
  | .normal => []
  | _ => []

theorem pc104_18004 (x_0 : Int) (x_103 : Bool) (m : Mem) (k : KX) : once Tryz.prog E104 Lam104 [0, 103] lxp104_18004 (((secsOf (bodyOf Tryz.f104)).filter Lam104.cut).getD 8 .skip) [(.flat (.int .i64 x_0)), (.flat (.bool x_103))] m k = P104_18004 x_0 x_103 m (fun x_2' m' => k .ret (only [2] [(.flat (.int .i64 x_2'))]) m') (fun m' => k .normal (only [] []) m') := by
  kernel_rfl

theorem pok104_18004 : PieceOK Tryz.prog E104 Lam104 (((secsOf (bodyOf Tryz.f104)).filter Lam104.cut).getD 8 .skip) := by
  refine ⟨fun σ => ∃ x_0 x_103, σ 0 = .flat (.int .i64 x_0) ∧ σ 103 = .flat (.bool x_103), [0, 103], lxp104_18004, fun σ m k => ?_⟩
  have e : Lam104.piece (((secsOf (bodyOf Tryz.f104)).filter Lam104.cut).getD 8 .skip) σ m k = LamP104_18004 σ m k := by kernel_rfl
  rw [e]
  constructor
  · intro h
    unfold LamP104_18004 at h
    obtain ⟨x_0, h0, h⟩ := kI_ok h
    obtain ⟨x_103, h1, h⟩ := kbool_ok h
    refine ⟨⟨x_0, x_103, h0, h1⟩, ?_⟩
    have ev : [0, 103].map σ = [(.flat (.int .i64 x_0)), (.flat (.bool x_103))] := by simp only [List.map_cons, List.map_nil, h0, h1]
    rw [ev, pc104_18004]
    exact h
  · rintro ⟨⟨x_0, x_103, h0, h1⟩, h⟩
    have ev : [0, 103].map σ = [(.flat (.int .i64 x_0)), (.flat (.bool x_103))] := by simp only [List.map_cons, List.map_nil, h0, h1]
    rw [ev, pc104_18004] at h
    unfold LamP104_18004
    try simp only [h0, h1, kI, kbool, kS, kptr, kaggN, kite, decide_true, eq_self]
    exact h

def lxp104_16004 : Ex → List Nat := fun e => match e with
  | .ret => [2]
  | .normal => []
  | _ => []

theorem pc104_16004 (x_0 : Int) (x_96 : Bool) (m : Mem) (k : KX) : once Tryz.prog E104 Lam104 [0, 96] lxp104_16004 (((secsOf (bodyOf Tryz.f104)).filter Lam104.cut).getD 7 .skip) [(.flat (.int .i64 x_0)), (.flat (.bool x_96))] m k = P104_16004 x_0 x_96 m (fun x_2' m' => k .ret (only [2] [(.flat (.int .i64 x_2'))]) m') (fun m' => k .normal (only [] []) m') := by
  kernel_rfl

theorem pok104_16004 : PieceOK Tryz.prog E104 Lam104 (((secsOf (bodyOf Tryz.f104)).filter Lam104.cut).getD 7 .skip) := by
  refine ⟨fun σ => ∃ x_0 x_96, σ 0 = .flat (.int .i64 x_0) ∧ σ 96 = .flat (.bool x_96), [0, 96], lxp104_16004, fun σ m k => ?_⟩
  have e : Lam104.piece (((secsOf (bodyOf Tryz.f104)).filter Lam104.cut).getD 7 .skip) σ m k = LamP104_16004 σ m k := by kernel_rfl
  rw [e]
  constructor
  · intro h
    unfold LamP104_16004 at h
    obtain ⟨x_0, h0, h⟩ := kI_ok h
    obtain ⟨x_96, h1, h⟩ := kbool_ok h
    refine ⟨⟨x_0, x_96, h0, h1⟩, ?_⟩
    have ev : [0, 96].map σ = [(.flat (.int .i64 x_0)), (.flat (.bool x_96))] := by simp only [List.map_cons, List.map_nil, h0, h1]
    rw [ev, pc104_16004]
    exact h
  · rintro ⟨⟨x_0, x_96, h0, h1⟩, h⟩
    have ev : [0, 96].map σ = [(.flat (.int .i64 x_0)), (.flat (.bool x_96))] := by simp only [List.map_cons, List.map_nil, h0, h1]
    rw [ev, pc104_16004] at h
    unfold LamP104_16004
    try simp only [h0, h1, kI, kbool, kS, kptr, kaggN, kite, decide_true, eq_self]
    exact h

def lxp104_14004 : Ex → List Nat := fun e => match e with
  | .ret => [2]
  | .normal => []
  | _ => []

theorem pc104_14004 (x_0 : Int) (x_81 : Bool) (m : Mem) (k : KX) : once Tryz.prog E104 Lam104 [0, 81] lxp104_14004 (((secsOf (bodyOf Tryz.f104)).filter Lam104.cut).getD 6 .skip) [(.flat (.int .i64 x_0)), (.flat (.bool x_81))] m k = P104_14004 x_0 x_81 m (fun x_2' m' => k .ret (only [2] [(.flat (.int .i64 x_2'))]) m') (fun m' => k .normal (only [] []) m') := by
  kernel_rfl

theorem pok104_14004 : PieceOK Tryz.prog E104 Lam104 (((secsOf (bodyOf Tryz.f104)).filter Lam104.cut).getD 6 .skip) := by
  refine ⟨fun σ => ∃ x_0 x_81, σ 0 = .flat (.int .i64 x_0) ∧ σ 81 = .flat (.bool x_81), [0, 81], lxp104_14004, fun σ m k => ?_⟩
  have e : Lam104.piece (((secsOf (bodyOf Tryz.f104)).filter Lam104.cut).getD 6 .skip) σ m k = LamP104_14004 σ m k := by kernel_rfl
  rw [e]
  constructor
  · intro h
    unfold LamP104_14004 at h
    obtain ⟨x_0, h0, h⟩ := kI_ok h
    obtain ⟨x_81, h1, h⟩ := kbool_ok h
    refine ⟨⟨x_0, x_81, h0, h1⟩, ?_⟩
    have ev : [0, 81].map σ = [(.flat (.int .i64 x_0)), (.flat (.bool x_81))] := by simp only [List.map_cons, List.map_nil, h0, h1]
    rw [ev, pc104_14004]
    exact h
  · rintro ⟨⟨x_0, x_81, h0, h1⟩, h⟩
    have ev : [0, 81].map σ = [(.flat (.int .i64 x_0)), (.flat (.bool x_81))] := by simp only [List.map_cons, List.map_nil, h0, h1]
    rw [ev, pc104_14004] at h
    unfold LamP104_14004
    try simp only [h0, h1, kI, kbool, kS, kptr, kaggN, kite, decide_true, eq_self]
    exact h

def lxp104_12004 : Ex → List Nat := fun e => match e with
  | .ret => [2]
  | .normal => []
  | _ => []

theorem pc104_12004 (x_0 : Int) (x_66 : Bool) (m : Mem) (k : KX) : once Tryz.prog E104 Lam104 [0, 66] lxp104_12004 (((secsOf (bodyOf Tryz.f104)).filter Lam104.cut).getD 5 .skip) [(.flat (.int .i64 x_0)), (.flat (.bool x_66))] m k = P104_12004 x_0 x_66 m (fun x_2' m' => k .ret (only [2] [(.flat (.int .i64 x_2'))]) m') (fun m' => k .normal (only [] []) m') := by
  kernel_rfl

theorem pok104_12004 : PieceOK Tryz.prog E104 Lam104 (((secsOf (bodyOf Tryz.f104)).filter Lam104.cut).getD 5 .skip) := by
  refine ⟨fun σ => ∃ x_0 x_66, σ 0 = .flat (.int .i64 x_0) ∧ σ 66 = .flat (.bool x_66), [0, 66], lxp104_12004, fun σ m k => ?_⟩
  have e : Lam104.piece (((secsOf (bodyOf Tryz.f104)).filter Lam104.cut).getD 5 .skip) σ m k = LamP104_12004 σ m k := by kernel_rfl
  rw [e]
  constructor
  · intro h
    unfold LamP104_12004 at h
    obtain ⟨x_0, h0, h⟩ := kI_ok h
    obtain ⟨x_66, h1, h⟩ := kbool_ok h
    refine ⟨⟨x_0, x_66, h0, h1⟩, ?_⟩
    have ev : [0, 66].map σ = [(.flat (.int .i64 x_0)), (.flat (.bool x_66))] := by simp only [List.map_cons, List.map_nil, h0, h1]
    rw [ev, pc104_12004]
    exact h
  · rintro ⟨⟨x_0, x_66, h0, h1⟩, h⟩
    have ev : [0, 66].map σ = [(.flat (.int .i64 x_0)), (.flat (.bool x_66))] := by simp only [List.map_cons, List.map_nil, h0, h1]
    rw [ev, pc104_12004] at h
    unfold LamP104_12004
    try simp only [h0, h1, kI, kbool, kS, kptr, kaggN, kite, decide_true, eq_self]
    exact h

def lxp104_10004 : Ex → List Nat := fun e => match e with
  | .ret => [2]
  | .normal => []
  | _ => []

theorem pc104_10004 (x_0 : Int) (x_59 : Bool) (m : Mem) (k : KX) : once Tryz.prog E104 Lam104 [0, 59] lxp104_10004 (((secsOf (bodyOf Tryz.f104)).filter Lam104.cut).getD 4 .skip) [(.flat (.int .i64 x_0)), (.flat (.bool x_59))] m k = P104_10004 x_0 x_59 m (fun x_2' m' => k .ret (only [2] [(.flat (.int .i64 x_2'))]) m') (fun m' => k .normal (only [] []) m') := by
  kernel_rfl

theorem pok104_10004 : PieceOK Tryz.prog E104 Lam104 (((secsOf (bodyOf Tryz.f104)).filter Lam104.cut).getD 4 .skip) := by
  refine ⟨fun σ => ∃ x_0 x_59, σ 0 = .flat (.int .i64 x_0) ∧ σ 59 = .flat (.bool x_59), [0, 59], lxp104_10004, fun σ m k => ?_⟩
  have e : Lam104.piece (((secsOf (bodyOf Tryz.f104)).filter Lam104.cut).getD 4 .skip) σ m k = LamP104_10004 σ m k := by kernel_rfl
  rw [e]
  constructor
  · intro h
    unfold LamP104_10004 at h
    obtain ⟨x_0, h0, h⟩ := kI_ok h
    obtain ⟨x_59, h1, h⟩ := kbool_ok h
    refine ⟨⟨x_0, x_59, h0, h1⟩, ?_⟩
    have ev : [0, 59].map σ = [(.flat (.int .i64 x_0)), (.flat (.bool x_59))] := by simp only [List.map_cons, List.map_nil, h0, h1]
    rw [ev, pc104_10004]
    exact h
  · rintro ⟨⟨x_0, x_59, h0, h1⟩, h⟩
    have ev : [0, 59].map σ = [(.flat (.int .i64 x_0)), (.flat (.bool x_59))] := by simp only [List.map_cons, List.map_nil, h0, h1]
    rw [ev, pc104_10004] at h
    unfold LamP104_10004
    try simp only [h0, h1, kI, kbool, kS, kptr, kaggN, kite, decide_true, eq_self]
    exact h

def lxp104_8004 : Ex → List Nat := fun e => match e with
  | .ret => [2]
  | .normal => []
  | _ => []

theorem pc104_8004 (x_0 : Int) (x_48 : Bool) (m : Mem) (k : KX) : once Tryz.prog E104 Lam104 [0, 48] lxp104_8004 (((secsOf (bodyOf Tryz.f104)).filter Lam104.cut).getD 3 .skip) [(.flat (.int .i64 x_0)), (.flat (.bool x_48))] m k = P104_8004 x_0 x_48 m (fun x_2' m' => k .ret (only [2] [(.flat (.int .i64 x_2'))]) m') (fun m' => k .normal (only [] []) m') := by
  kernel_rfl

theorem pok104_8004 : PieceOK Tryz.prog E104 Lam104 (((secsOf (bodyOf Tryz.f104)).filter Lam104.cut).getD 3 .skip) := by
  refine ⟨fun σ => ∃ x_0 x_48, σ 0 = .flat (.int .i64 x_0) ∧ σ 48 = .flat (.bool x_48), [0, 48], lxp104_8004, fun σ m k => ?_⟩
  have e : Lam104.piece (((secsOf (bodyOf Tryz.f104)).filter Lam104.cut).getD 3 .skip) σ m k = LamP104_8004 σ m k := by kernel_rfl
  rw [e]
  constructor
  · intro h
    unfold LamP104_8004 at h
    obtain ⟨x_0, h0, h⟩ := kI_ok h
    obtain ⟨x_48, h1, h⟩ := kbool_ok h
    refine ⟨⟨x_0, x_48, h0, h1⟩, ?_⟩
    have ev : [0, 48].map σ = [(.flat (.int .i64 x_0)), (.flat (.bool x_48))] := by simp only [List.map_cons, List.map_nil, h0, h1]
    rw [ev, pc104_8004]
    exact h
  · rintro ⟨⟨x_0, x_48, h0, h1⟩, h⟩
    have ev : [0, 48].map σ = [(.flat (.int .i64 x_0)), (.flat (.bool x_48))] := by simp only [List.map_cons, List.map_nil, h0, h1]
    rw [ev, pc104_8004] at h
    unfold LamP104_8004
    try simp only [h0, h1, kI, kbool, kS, kptr, kaggN, kite, decide_true, eq_self]
    exact h

def lxp104_6004 : Ex → List Nat := fun e => match e with
  | .ret => [2]
  | .normal => []
  | _ => []

theorem pc104_6004 (x_0 : Int) (x_37 : Bool) (m : Mem) (k : KX) : once Tryz.prog E104 Lam104 [0, 37] lxp104_6004 (((secsOf (bodyOf Tryz.f104)).filter Lam104.cut).getD 2 .skip) [(.flat (.int .i64 x_0)), (.flat (.bool x_37))] m k = P104_6004 x_0 x_37 m (fun x_2' m' => k .ret (only [2] [(.flat (.int .i64 x_2'))]) m') (fun m' => k .normal (only [] []) m') := by
  kernel_rfl

theorem pok104_6004 : PieceOK Tryz.prog E104 Lam104 (((secsOf (bodyOf Tryz.f104)).filter Lam104.cut).getD 2 .skip) := by
  refine ⟨fun σ => ∃ x_0 x_37, σ 0 = .flat (.int .i64 x_0) ∧ σ 37 = .flat (.bool x_37), [0, 37], lxp104_6004, fun σ m k => ?_⟩
  have e : Lam104.piece (((secsOf (bodyOf Tryz.f104)).filter Lam104.cut).getD 2 .skip) σ m k = LamP104_6004 σ m k := by kernel_rfl
  rw [e]
  constructor
  · intro h
    unfold LamP104_6004 at h
    obtain ⟨x_0, h0, h⟩ := kI_ok h
    obtain ⟨x_37, h1, h⟩ := kbool_ok h
    refine ⟨⟨x_0, x_37, h0, h1⟩, ?_⟩
    have ev : [0, 37].map σ = [(.flat (.int .i64 x_0)), (.flat (.bool x_37))] := by simp only [List.map_cons, List.map_nil, h0, h1]
    rw [ev, pc104_6004]
    exact h
  · rintro ⟨⟨x_0, x_37, h0, h1⟩, h⟩
    have ev : [0, 37].map σ = [(.flat (.int .i64 x_0)), (.flat (.bool x_37))] := by simp only [List.map_cons, List.map_nil, h0, h1]
    rw [ev, pc104_6004] at h
    unfold LamP104_6004
    try simp only [h0, h1, kI, kbool, kS, kptr, kaggN, kite, decide_true, eq_self]
    exact h

def lxp104_4004 : Ex → List Nat := fun e => match e with
  | .ret => [2]
  | .normal => []
  | _ => []

theorem pc104_4004 (x_0 : Int) (x_10 : Bool) (m : Mem) (k : KX) : once Tryz.prog E104 Lam104 [0, 10] lxp104_4004 (((secsOf (bodyOf Tryz.f104)).filter Lam104.cut).getD 1 .skip) [(.flat (.int .i64 x_0)), (.flat (.bool x_10))] m k = P104_4004 x_0 x_10 m (fun x_2' m' => k .ret (only [2] [(.flat (.int .i64 x_2'))]) m') (fun m' => k .normal (only [] []) m') := by
  kernel_rfl

theorem pok104_4004 : PieceOK Tryz.prog E104 Lam104 (((secsOf (bodyOf Tryz.f104)).filter Lam104.cut).getD 1 .skip) := by
  refine ⟨fun σ => ∃ x_0 x_10, σ 0 = .flat (.int .i64 x_0) ∧ σ 10 = .flat (.bool x_10), [0, 10], lxp104_4004, fun σ m k => ?_⟩
  have e : Lam104.piece (((secsOf (bodyOf Tryz.f104)).filter Lam104.cut).getD 1 .skip) σ m k = LamP104_4004 σ m k := by kernel_rfl
  rw [e]
  constructor
  · intro h
    unfold LamP104_4004 at h
    obtain ⟨x_0, h0, h⟩ := kI_ok h
    obtain ⟨x_10, h1, h⟩ := kbool_ok h
    refine ⟨⟨x_0, x_10, h0, h1⟩, ?_⟩
    have ev : [0, 10].map σ = [(.flat (.int .i64 x_0)), (.flat (.bool x_10))] := by simp only [List.map_cons, List.map_nil, h0, h1]
    rw [ev, pc104_4004]
    exact h
  · rintro ⟨⟨x_0, x_10, h0, h1⟩, h⟩
    have ev : [0, 10].map σ = [(.flat (.int .i64 x_0)), (.flat (.bool x_10))] := by simp only [List.map_cons, List.map_nil, h0, h1]
    rw [ev, pc104_4004] at h
    unfold LamP104_4004
    try simp only [h0, h1, kI, kbool, kS, kptr, kaggN, kite, decide_true, eq_self]
    exact h

def lxp104_2004 : Ex → List Nat := fun e => match e with
  | .ret => [2]
  | .normal => []
  | _ => []

theorem pc104_2004 (x_0 : Int) (x_3 : Bool) (m : Mem) (k : KX) : once Tryz.prog E104 Lam104 [0, 3] lxp104_2004 (((secsOf (bodyOf Tryz.f104)).filter Lam104.cut).getD 0 .skip) [(.flat (.int .i64 x_0)), (.flat (.bool x_3))] m k = P104_2004 x_0 x_3 m (fun x_2' m' => k .ret (only [2] [(.flat (.int .i64 x_2'))]) m') (fun m' => k .normal (only [] []) m') := by
  kernel_rfl

theorem pok104_2004 : PieceOK Tryz.prog E104 Lam104 (((secsOf (bodyOf Tryz.f104)).filter Lam104.cut).getD 0 .skip) := by
  refine ⟨fun σ => ∃ x_0 x_3, σ 0 = .flat (.int .i64 x_0) ∧ σ 3 = .flat (.bool x_3), [0, 3], lxp104_2004, fun σ m k => ?_⟩
  have e : Lam104.piece (((secsOf (bodyOf Tryz.f104)).filter Lam104.cut).getD 0 .skip) σ m k = LamP104_2004 σ m k := by kernel_rfl
  rw [e]
  constructor
  · intro h
    unfold LamP104_2004 at h
    obtain ⟨x_0, h0, h⟩ := kI_ok h
    obtain ⟨x_3, h1, h⟩ := kbool_ok h
    refine ⟨⟨x_0, x_3, h0, h1⟩, ?_⟩
    have ev : [0, 3].map σ = [(.flat (.int .i64 x_0)), (.flat (.bool x_3))] := by simp only [List.map_cons, List.map_nil, h0, h1]
    rw [ev, pc104_2004]
    exact h
  · rintro ⟨⟨x_0, x_3, h0, h1⟩, h⟩
    have ev : [0, 3].map σ = [(.flat (.int .i64 x_0)), (.flat (.bool x_3))] := by simp only [List.map_cons, List.map_nil, h0, h1]
    rw [ev, pc104_2004] at h
    unfold LamP104_2004
    try simp only [h0, h1, kI, kbool, kS, kptr, kaggN, kite, decide_true, eq_self]
    exact h

theorem eqn104 (x_0 : Int) (m : Mem) (k : KV) : bodyK Tryz.prog E104 Lam104 Tryz.f104 true [(.flat (.int .i64 x_0))] m k = F104 x_0 m (fun x_1000 m' => k (.flat (.int .i64 x_1000)) m') := by
  kernel_rfl

theorem fs104 (w0 : World) : FS Tryz.prog w0 104 G104 := by
  refine (fs_body (Γ := E104) (sound_env (l := []) w0 (by
    intro p hp
    cases hp)) (by kernel_rfl) Tryz.func104 (Λ := Lam104) (c := (bodyOf Tryz.f104)) (by kernel_rfl) Tryz.call104 (by kernel_rfl) (LS_of (bodyOf Tryz.f104) 0 (by kernel_rfl) (fun i hi => absurd hi (Nat.not_lt_zero i)) 9 (by kernel_rfl) (by
    intro i hi
    match i, hi with
    | 0, _ => exact pok104_2004
    | 1, _ => exact pok104_4004
    | 2, _ => exact pok104_6004
    | 3, _ => exact pok104_8004
    | 4, _ => exact pok104_10004
    | 5, _ => exact pok104_12004
    | 6, _ => exact pok104_14004
    | 7, _ => exact pok104_16004
    | 8, _ => exact pok104_18004
    | i + 9, hi => omega)) true (np := 1) (Nat.le_of_ble_eq_true (by kernel_rfl))).imp fun args => ?_
  by_cases hl : args.length = 1
  rotate_left
  · exact .inr fun m k hk => by
      unfold G104 at hk
      split at hk
      · exact hl rfl
      · exact hk
  obtain ⟨a0, rfl⟩ : ∃ a0, args = [a0] := len_list1 hl
  rcases kI_or .i64 a0 with ⟨x_0, rfl⟩ | h
  rotate_left
  · exact .inr fun m k hk => h _ (by simpa only [G104, kI, kbool, kS, kptr, kaggN, kite, decide_true, eq_self] using hk)
  exact .inl fun m k => propext ⟨fun h => ⟨rfl, by rw [eqn104]; simpa only [G104, kI, kbool, kS, kptr, kaggN, kite, decide_true, eq_self] using h⟩, fun h => by have h := h.2; rw [eqn104] at h; simpa only [G104, kI, kbool, kS, kptr, kaggN, kite, decide_true, eq_self] using h⟩

def E82 : Env := envOf [(104, G104)]

def P82_11105 (x_1 : Int) (b_4 o_4 : Nat) (b_5 o_5 : Nat) (x_6 : Int) (m : Mem) (kr : Mem → Prop) : Prop :=
  kif ((bits .and .i64 x_6 16) != 0) (stC m b_5 (o_5 + 5) (.flat (.int .u32 (bits .and .u32 x_1 65535))) fun m12 => ldG 6 m12 b_5 o_5 fun c14 => stG 6 m12 b_4 o_4 c14 fun m15 => kr  m15) (kif ((bits .and .i64 x_6 32) != 0) (stC m b_5 (o_5 + 5) (.flat (.int .u32 (bits .and .u32 x_1 67108863))) fun m13 => ldG 6 m13 b_5 o_5 fun c16 => stG 6 m13 b_4 o_4 c16 fun m17 => kr  m17) (ldG 6 m b_5 o_5 fun c18 => stG 6 m b_4 o_4 c18 fun m19 => kr  m19))

def P82_9103 (x_1 : Int) (b_4 o_4 : Nat) (b_5 o_5 : Nat) (x_6 : Int) (m : Mem) (kr : Mem → Prop) : Prop :=
  kif ((bits .and .i64 x_6 8) != 0) (stC m b_5 (o_5 + 4) (.flat (.int .i64 (IntKind.wrap .i64 (bits .and .u32 (x_1.fdiv 64) 31)))) fun m11 => P82_11105 x_1 b_4 o_4 b_5 o_5 x_6 m11 (fun m20 => kr  m20)) (P82_11105 x_1 b_4 o_4 b_5 o_5 x_6 m (fun m21 => kr  m21))

def P82_7103 (x_1 : Int) (b_4 o_4 : Nat) (b_5 o_5 : Nat) (x_6 : Int) (m : Mem) (kr : Mem → Prop) : Prop :=
  kif ((bits .and .i64 x_6 4) != 0) (stC m b_5 (o_5 + 3) (.flat (.int .i64 (IntKind.wrap .i64 (bits .and .u32 (x_1.fdiv 2048) 31)))) fun m10 => P82_9103 x_1 b_4 o_4 b_5 o_5 x_6 m10 (fun m22 => kr  m22)) (P82_9103 x_1 b_4 o_4 b_5 o_5 x_6 m (fun m23 => kr  m23))

def P82_5103 (x_1 : Int) (b_4 o_4 : Nat) (b_5 o_5 : Nat) (x_6 : Int) (m : Mem) (kr : Mem → Prop) : Prop :=
  kif ((bits .and .i64 x_6 2) != 0) (stC m b_5 (o_5 + 2) (.flat (.int .i64 (IntKind.wrap .i64 (bits .and .u32 (x_1.fdiv 65536) 31)))) fun m9 => P82_7103 x_1 b_4 o_4 b_5 o_5 x_6 m9 (fun m24 => kr  m24)) (P82_7103 x_1 b_4 o_4 b_5 o_5 x_6 m (fun m25 => kr  m25))

/-- pianola/decode.with -/
def F82 (x_0 : Int) (x_1 : Int) (m : Mem) (k : (Nat → AV) → Mem → Prop) : Prop :=
  newK m ⟨6, Z6, 25, false⟩ fun b2 m1 => newK m1 ⟨6, Z6, 25, false⟩ fun b4 m3 => stG 6 m3 b4 0 (upd (Z6) 0 (.flat (.int .i64 x_0))) fun m5 => F104 x_0 m5 fun x6 m7 => kif ((bits .and .i64 x6 1) != 0) (stC m7 b4 1 (.flat (.int .i64 (IntKind.wrap .i64 (bits .and .u32 (x_1.fdiv 2097152) 31)))) fun m8 => P82_5103 x_1 b2 0 b4 0 x6 m8 (fun m26 => ldG 6 m26 b2 0 fun c28 => (Keeps m m26 ∧ InDomG 6 m c28 ∧ k c28 m))) (P82_5103 x_1 b2 0 b4 0 x6 m7 (fun m27 => ldG 6 m27 b2 0 fun c29 => (Keeps m m27 ∧ InDomG 6 m c29 ∧ k c29 m)))

def G82 (args : List AV) (m : Mem) (k : KV) : Prop := match args with
  | [a0, a1] => kI .i64 a0 fun x_0 => kI .u32 a1 fun x_1 => F82 x_0 x_1 m (fun c_1000 m' => k (.agg 6 c_1000) m')
  | _ => False

def LamP82_5103 (σ : Nat → AV) (m : Mem) (k : KX) : Prop := kI .u32 (σ 1) fun x_1 => kptr (σ 4) fun b_4 o_4 => kptr (σ 5) fun b_5 o_5 => kI .i64 (σ 6) fun x_6 => P82_5103 x_1 b_4 o_4 b_5 o_5 x_6 m (fun m' => k .ret (only [4] [(.ptr b_4 o_4)]) m')

def LamP82_7103 (σ : Nat → AV) (m : Mem) (k : KX) : Prop := kI .u32 (σ 1) fun x_1 => kptr (σ 4) fun b_4 o_4 => kptr (σ 5) fun b_5 o_5 => kI .i64 (σ 6) fun x_6 => P82_7103 x_1 b_4 o_4 b_5 o_5 x_6 m (fun m' => k .ret (only [4] [(.ptr b_4 o_4)]) m')

def LamP82_9103 (σ : Nat → AV) (m : Mem) (k : KX) : Prop := kI .u32 (σ 1) fun x_1 => kptr (σ 4) fun b_4 o_4 => kptr (σ 5) fun b_5 o_5 => kI .i64 (σ 6) fun x_6 => P82_9103 x_1 b_4 o_4 b_5 o_5 x_6 m (fun m' => k .ret (only [4] [(.ptr b_4 o_4)]) m')

def LamP82_11105 (σ : Nat → AV) (m : Mem) (k : KX) : Prop := kI .u32 (σ 1) fun x_1 => kptr (σ 4) fun b_4 o_4 => kptr (σ 5) fun b_5 o_5 => kI .i64 (σ 6) fun x_6 => P82_11105 x_1 b_4 o_4 b_5 o_5 x_6 m (fun m' => k .ret (only [4] [(.ptr b_4 o_4)]) m')

def Lam82 : LEnv := ⟨fun a σ m k => match firstReg a with
  | _ => bump False,
  fun id => match id with
  | _ => bump false,
  fun b => match keyC b with
  | some 5103 => true
  | some 7103 => true
  | some 9103 => true
  | some 11105 => true
  | _ => bump false,
  fun b σ m k => match keyC b with
  | some 5103 => LamP82_5103 σ m k
  | some 7103 => LamP82_7103 σ m k
  | some 9103 => LamP82_9103 σ m k
  | some 11105 => LamP82_11105 σ m k
  | _ => bump False⟩

def lxp82_11105 : Ex → List Nat := fun e => match e with
  | .ret => [4]
  | _ => []

theorem pc82_11105 (x_1 : Int) (b_4 o_4 : Nat) (b_5 o_5 : Nat) (x_6 : Int) (m : Mem) (k : KX) : once Tryz.prog E82 Lam82 [1, 4, 5, 6] lxp82_11105 (((secsOf (bodyOf Tryz.f82)).filter Lam82.cut).getD 3 .skip) [(.flat (.int .u32 x_1)), (.ptr b_4 o_4), (.ptr b_5 o_5), (.flat (.int .i64 x_6))] m k = P82_11105 x_1 b_4 o_4 b_5 o_5 x_6 m (fun m' => k .ret (only [4] [(.ptr b_4 o_4)]) m') := by
  kernel_rfl

theorem pok82_11105 : PieceOK Tryz.prog E82 Lam82 (((secsOf (bodyOf Tryz.f82)).filter Lam82.cut).getD 3 .skip) := by
  refine ⟨fun σ => ∃ x_1 b_4 o_4 b_5 o_5 x_6, σ 1 = .flat (.int .u32 x_1) ∧ σ 4 = .ptr b_4 o_4 ∧ σ 5 = .ptr b_5 o_5 ∧ σ 6 = .flat (.int .i64 x_6), [1, 4, 5, 6], lxp82_11105, fun σ m k => ?_⟩
  have e : Lam82.piece (((secsOf (bodyOf Tryz.f82)).filter Lam82.cut).getD 3 .skip) σ m k = LamP82_11105 σ m k := by kernel_rfl
  rw [e]
  constructor
  · intro h
    unfold LamP82_11105 at h
    obtain ⟨x_1, h0, h⟩ := kI_ok h
    obtain ⟨b_4, o_4, h1, h⟩ := kptr_ok h
    obtain ⟨b_5, o_5, h2, h⟩ := kptr_ok h
    obtain ⟨x_6, h3, h⟩ := kI_ok h
    refine ⟨⟨x_1, b_4, o_4, b_5, o_5, x_6, h0, h1, h2, h3⟩, ?_⟩
    have ev : [1, 4, 5, 6].map σ = [(.flat (.int .u32 x_1)), (.ptr b_4 o_4), (.ptr b_5 o_5), (.flat (.int .i64 x_6))] := by simp only [List.map_cons, List.map_nil, h0, h1, h2, h3]
    rw [ev, pc82_11105]
    exact h
  · rintro ⟨⟨x_1, b_4, o_4, b_5, o_5, x_6, h0, h1, h2, h3⟩, h⟩
    have ev : [1, 4, 5, 6].map σ = [(.flat (.int .u32 x_1)), (.ptr b_4 o_4), (.ptr b_5 o_5), (.flat (.int .i64 x_6))] := by simp only [List.map_cons, List.map_nil, h0, h1, h2, h3]
    rw [ev, pc82_11105] at h
    unfold LamP82_11105
    try simp only [h0, h1, h2, h3, kI, kbool, kS, kptr, kaggN, kite, decide_true, eq_self]
    exact h

def lxp82_9103 : Ex → List Nat := fun e => match e with
  | .ret => [4]
  | _ => []

theorem pc82_9103 (x_1 : Int) (b_4 o_4 : Nat) (b_5 o_5 : Nat) (x_6 : Int) (m : Mem) (k : KX) : once Tryz.prog E82 Lam82 [1, 4, 5, 6] lxp82_9103 (((secsOf (bodyOf Tryz.f82)).filter Lam82.cut).getD 2 .skip) [(.flat (.int .u32 x_1)), (.ptr b_4 o_4), (.ptr b_5 o_5), (.flat (.int .i64 x_6))] m k = P82_9103 x_1 b_4 o_4 b_5 o_5 x_6 m (fun m' => k .ret (only [4] [(.ptr b_4 o_4)]) m') := by
  kernel_rfl

theorem pok82_9103 : PieceOK Tryz.prog E82 Lam82 (((secsOf (bodyOf Tryz.f82)).filter Lam82.cut).getD 2 .skip) := by
  refine ⟨fun σ => ∃ x_1 b_4 o_4 b_5 o_5 x_6, σ 1 = .flat (.int .u32 x_1) ∧ σ 4 = .ptr b_4 o_4 ∧ σ 5 = .ptr b_5 o_5 ∧ σ 6 = .flat (.int .i64 x_6), [1, 4, 5, 6], lxp82_9103, fun σ m k => ?_⟩
  have e : Lam82.piece (((secsOf (bodyOf Tryz.f82)).filter Lam82.cut).getD 2 .skip) σ m k = LamP82_9103 σ m k := by kernel_rfl
  rw [e]
  constructor
  · intro h
    unfold LamP82_9103 at h
    obtain ⟨x_1, h0, h⟩ := kI_ok h
    obtain ⟨b_4, o_4, h1, h⟩ := kptr_ok h
    obtain ⟨b_5, o_5, h2, h⟩ := kptr_ok h
    obtain ⟨x_6, h3, h⟩ := kI_ok h
    refine ⟨⟨x_1, b_4, o_4, b_5, o_5, x_6, h0, h1, h2, h3⟩, ?_⟩
    have ev : [1, 4, 5, 6].map σ = [(.flat (.int .u32 x_1)), (.ptr b_4 o_4), (.ptr b_5 o_5), (.flat (.int .i64 x_6))] := by simp only [List.map_cons, List.map_nil, h0, h1, h2, h3]
    rw [ev, pc82_9103]
    exact h
  · rintro ⟨⟨x_1, b_4, o_4, b_5, o_5, x_6, h0, h1, h2, h3⟩, h⟩
    have ev : [1, 4, 5, 6].map σ = [(.flat (.int .u32 x_1)), (.ptr b_4 o_4), (.ptr b_5 o_5), (.flat (.int .i64 x_6))] := by simp only [List.map_cons, List.map_nil, h0, h1, h2, h3]
    rw [ev, pc82_9103] at h
    unfold LamP82_9103
    try simp only [h0, h1, h2, h3, kI, kbool, kS, kptr, kaggN, kite, decide_true, eq_self]
    exact h

def lxp82_7103 : Ex → List Nat := fun e => match e with
  | .ret => [4]
  | _ => []

theorem pc82_7103 (x_1 : Int) (b_4 o_4 : Nat) (b_5 o_5 : Nat) (x_6 : Int) (m : Mem) (k : KX) : once Tryz.prog E82 Lam82 [1, 4, 5, 6] lxp82_7103 (((secsOf (bodyOf Tryz.f82)).filter Lam82.cut).getD 1 .skip) [(.flat (.int .u32 x_1)), (.ptr b_4 o_4), (.ptr b_5 o_5), (.flat (.int .i64 x_6))] m k = P82_7103 x_1 b_4 o_4 b_5 o_5 x_6 m (fun m' => k .ret (only [4] [(.ptr b_4 o_4)]) m') := by
  kernel_rfl

theorem pok82_7103 : PieceOK Tryz.prog E82 Lam82 (((secsOf (bodyOf Tryz.f82)).filter Lam82.cut).getD 1 .skip) := by
  refine ⟨fun σ => ∃ x_1 b_4 o_4 b_5 o_5 x_6, σ 1 = .flat (.int .u32 x_1) ∧ σ 4 = .ptr b_4 o_4 ∧ σ 5 = .ptr b_5 o_5 ∧ σ 6 = .flat (.int .i64 x_6), [1, 4, 5, 6], lxp82_7103, fun σ m k => ?_⟩
  have e : Lam82.piece (((secsOf (bodyOf Tryz.f82)).filter Lam82.cut).getD 1 .skip) σ m k = LamP82_7103 σ m k := by kernel_rfl
  rw [e]
  constructor
  · intro h
    unfold LamP82_7103 at h
    obtain ⟨x_1, h0, h⟩ := kI_ok h
    obtain ⟨b_4, o_4, h1, h⟩ := kptr_ok h
    obtain ⟨b_5, o_5, h2, h⟩ := kptr_ok h
    obtain ⟨x_6, h3, h⟩ := kI_ok h
    refine ⟨⟨x_1, b_4, o_4, b_5, o_5, x_6, h0, h1, h2, h3⟩, ?_⟩
    have ev : [1, 4, 5, 6].map σ = [(.flat (.int .u32 x_1)), (.ptr b_4 o_4), (.ptr b_5 o_5), (.flat (.int .i64 x_6))] := by simp only [List.map_cons, List.map_nil, h0, h1, h2, h3]
    rw [ev, pc82_7103]
    exact h
  · rintro ⟨⟨x_1, b_4, o_4, b_5, o_5, x_6, h0, h1, h2, h3⟩, h⟩
    have ev : [1, 4, 5, 6].map σ = [(.flat (.int .u32 x_1)), (.ptr b_4 o_4), (.ptr b_5 o_5), (.flat (.int .i64 x_6))] := by simp only [List.map_cons, List.map_nil, h0, h1, h2, h3]
    rw [ev, pc82_7103] at h
    unfold LamP82_7103
    try simp only [h0, h1, h2, h3, kI, kbool, kS, kptr, kaggN, kite, decide_true, eq_self]
    exact h

def lxp82_5103 : Ex → List Nat := fun e => match e with
  | .ret => [4]
  | _ => []

theorem pc82_5103 (x_1 : Int) (b_4 o_4 : Nat) (b_5 o_5 : Nat) (x_6 : Int) (m : Mem) (k : KX) : once Tryz.prog E82 Lam82 [1, 4, 5, 6] lxp82_5103 (((secsOf (bodyOf Tryz.f82)).filter Lam82.cut).getD 0 .skip) [(.flat (.int .u32 x_1)), (.ptr b_4 o_4), (.ptr b_5 o_5), (.flat (.int .i64 x_6))] m k = P82_5103 x_1 b_4 o_4 b_5 o_5 x_6 m (fun m' => k .ret (only [4] [(.ptr b_4 o_4)]) m') := by
  kernel_rfl

theorem pok82_5103 : PieceOK Tryz.prog E82 Lam82 (((secsOf (bodyOf Tryz.f82)).filter Lam82.cut).getD 0 .skip) := by
  refine ⟨fun σ => ∃ x_1 b_4 o_4 b_5 o_5 x_6, σ 1 = .flat (.int .u32 x_1) ∧ σ 4 = .ptr b_4 o_4 ∧ σ 5 = .ptr b_5 o_5 ∧ σ 6 = .flat (.int .i64 x_6), [1, 4, 5, 6], lxp82_5103, fun σ m k => ?_⟩
  have e : Lam82.piece (((secsOf (bodyOf Tryz.f82)).filter Lam82.cut).getD 0 .skip) σ m k = LamP82_5103 σ m k := by kernel_rfl
  rw [e]
  constructor
  · intro h
    unfold LamP82_5103 at h
    obtain ⟨x_1, h0, h⟩ := kI_ok h
    obtain ⟨b_4, o_4, h1, h⟩ := kptr_ok h
    obtain ⟨b_5, o_5, h2, h⟩ := kptr_ok h
    obtain ⟨x_6, h3, h⟩ := kI_ok h
    refine ⟨⟨x_1, b_4, o_4, b_5, o_5, x_6, h0, h1, h2, h3⟩, ?_⟩
    have ev : [1, 4, 5, 6].map σ = [(.flat (.int .u32 x_1)), (.ptr b_4 o_4), (.ptr b_5 o_5), (.flat (.int .i64 x_6))] := by simp only [List.map_cons, List.map_nil, h0, h1, h2, h3]
    rw [ev, pc82_5103]
    exact h
  · rintro ⟨⟨x_1, b_4, o_4, b_5, o_5, x_6, h0, h1, h2, h3⟩, h⟩
    have ev : [1, 4, 5, 6].map σ = [(.flat (.int .u32 x_1)), (.ptr b_4 o_4), (.ptr b_5 o_5), (.flat (.int .i64 x_6))] := by simp only [List.map_cons, List.map_nil, h0, h1, h2, h3]
    rw [ev, pc82_5103] at h
    unfold LamP82_5103
    try simp only [h0, h1, h2, h3, kI, kbool, kS, kptr, kaggN, kite, decide_true, eq_self]
    exact h

theorem eqn82 (x_0 : Int) (x_1 : Int) (m : Mem) (k : KV) : bodyK Tryz.prog E82 Lam82 Tryz.f82 true [(.flat (.int .i64 x_0)), (.flat (.int .u32 x_1))] m k = F82 x_0 x_1 m (fun c_1000 m' => k (.agg 6 c_1000) m') := by
  kernel_rfl

theorem fs82 (w0 : World) : FS Tryz.prog w0 82 G82 := by
  refine (fs_body (Γ := E82) (sound_env (l := [(104, G104)]) w0 (by
    intro p hp
    simp only [List.mem_cons, List.not_mem_nil, or_false] at hp
    rcases hp with rfl
    · exact fs104 w0)) (by kernel_rfl) Tryz.func82 (Λ := Lam82) (c := (bodyOf Tryz.f82)) (by kernel_rfl) Tryz.call82 (by kernel_rfl) (LS_of (bodyOf Tryz.f82) 0 (by kernel_rfl) (fun i hi => absurd hi (Nat.not_lt_zero i)) 4 (by kernel_rfl) (by
    intro i hi
    match i, hi with
    | 0, _ => exact pok82_5103
    | 1, _ => exact pok82_7103
    | 2, _ => exact pok82_9103
    | 3, _ => exact pok82_11105
    | i + 4, hi => omega)) true (np := 2) (Nat.le_of_ble_eq_true (by kernel_rfl))).imp fun args => ?_
  by_cases hl : args.length = 2
  rotate_left
  · exact .inr fun m k hk => by
      unfold G82 at hk
      split at hk
      · exact hl rfl
      · exact hk
  obtain ⟨a0, a1, rfl⟩ : ∃ a0 a1, args = [a0, a1] := len_list2 hl
  rcases kI_or .i64 a0 with ⟨x_0, rfl⟩ | h
  rotate_left
  · exact .inr fun m k hk => h _ (by simpa only [G82, kI, kbool, kS, kptr, kaggN, kite, decide_true, eq_self] using hk)
  rcases kI_or .u32 a1 with ⟨x_1, rfl⟩ | h
  rotate_left
  · exact .inr fun m k hk => h _ (by simpa only [G82, kI, kbool, kS, kptr, kaggN, kite, decide_true, eq_self] using hk)
  exact .inl fun m k => propext ⟨fun h => ⟨rfl, by rw [eqn82]; simpa only [G82, kI, kbool, kS, kptr, kaggN, kite, decide_true, eq_self] using h⟩, fun h => by have h := h.2; rw [eqn82] at h; simpa only [G82, kI, kbool, kS, kptr, kaggN, kite, decide_true, eq_self] using h⟩

def E83 : Env := envOf []

/-- pianola/decode.put -/
def F83 (c_0 : Nat → AV) (m : Mem) (k : Int → Mem → Prop) : Prop :=
  newK m ⟨6, c_0, 25, false⟩ fun b2 m1 => ldI .i64 m1 b2 1 fun x3 => ldI .i64 m1 b2 2 fun x4 => ldI .i64 m1 b2 3 fun x5 => ldI .i64 m1 b2 4 fun x6 => ldI .u32 m1 b2 5 fun x7 => (Keeps m m1 ∧ k (bits .or .u32 (bits .or .u32 (bits .or .u32 (bits .or .u32 (IntKind.wrap .u32 ((IntKind.wrap .u32 x3) * 2097152)) (IntKind.wrap .u32 ((IntKind.wrap .u32 x4) * 65536))) (IntKind.wrap .u32 ((IntKind.wrap .u32 x5) * 2048))) (IntKind.wrap .u32 ((IntKind.wrap .u32 x6) * 64))) x7) m)

def G83 (args : List AV) (m : Mem) (k : KV) : Prop := match args with
  | [a0] => kaggN 6 a0 fun c_0 => F83 c_0 m (fun x_1000 m' => k (.flat (.int .u32 x_1000)) m')
  | _ => False

def Lam83 : LEnv := ⟨fun a σ m k => match firstReg a with
  | _ => bump False,
  fun id => match id with
  | _ => bump false,
  fun b => match keyC b with
  | _ => bump false,
  fun b σ m k => match keyC b with
  | _ => bump False⟩

theorem eqn83 (c_0 : Nat → AV) (m : Mem) (k : KV) : bodyK Tryz.prog E83 Lam83 Tryz.f83 true [(.agg 6 c_0)] m k = F83 c_0 m (fun x_1000 m' => k (.flat (.int .u32 x_1000)) m') := by
  kernel_rfl

theorem fs83 (w0 : World) : FS Tryz.prog w0 83 G83 := by
  refine (fs_body (Γ := E83) (sound_env (l := []) w0 (by
    intro p hp
    cases hp)) (by kernel_rfl) Tryz.func83 (Λ := Lam83) (c := (bodyOf Tryz.f83)) (by kernel_rfl) Tryz.call83 (by kernel_rfl) (LS_of (bodyOf Tryz.f83) 0 (by kernel_rfl) (fun i hi => absurd hi (Nat.not_lt_zero i)) 0 (by kernel_rfl) (fun i hi => absurd hi (Nat.not_lt_zero i))) true (np := 1) (Nat.le_of_ble_eq_true (by kernel_rfl))).imp fun args => ?_
  by_cases hl : args.length = 1
  rotate_left
  · exact .inr fun m k hk => by
      unfold G83 at hk
      split at hk
      · exact hl rfl
      · exact hk
  obtain ⟨a0, rfl⟩ : ∃ a0, args = [a0] := len_list1 hl
  rcases kaggN_or 6 a0 with ⟨c_0, rfl⟩ | h
  rotate_left
  · exact .inr fun m k hk => h _ (by simpa only [G83, kI, kbool, kS, kptr, kaggN, kite, decide_true, eq_self] using hk)
  exact .inl fun m k => propext ⟨fun h => ⟨rfl, by rw [eqn83]; simpa only [G83, kI, kbool, kS, kptr, kaggN, kite, decide_true, eq_self] using h⟩, fun h => by have h := h.2; rw [eqn83] at h; simpa only [G83, kI, kbool, kS, kptr, kaggN, kite, decide_true, eq_self] using h⟩

def E41 : Env := envOf [(82, G82), (83, G83)]

def R41_2 (b_1 o_1 : Nat) (v_13 : AV) (x_14 : Int) (x_15 : Int) (m : Mem) (kn : Int → Mem → Prop) (k0 : Mem → Prop) (kr : Bool → Mem → Prop) : Prop :=
  kif (decide (x_15 < x_14)) (ksl v_13 fun b9 o10 l11 p12 => kif (decide (0 ≤ x_15) && decide (x_15 < l11)) (ldI .i64 m b9 (o10 + (x_15).toNat * 1) fun x13 => kif (decide (x13 < 0)) (kr false m) (kif (decide (x13 > 31)) (kr false m) (kn (IntKind.wrap .i64 (x_15 + 1)) m))) False) (k0  m)

def L41_2 (b_1 o_1 : Nat) (v_13 : AV) (x_14 : Int) : Nat → Int → Mem → (Mem → Prop) → (Bool → Mem → Prop) → Prop
  | 0, _,  _, _, _ => bump False
  | N + 1, x_15,  m, k0, kr => R41_2 b_1 o_1 v_13 x_14 x_15 m (fun x_15' m' => L41_2 b_1 o_1 v_13 x_14 N x_15' m' k0 kr) k0 kr

/-- pianola/decode.Right -/
def F41 (c_0 : Nat → AV) (m : Mem) (k : Bool → Mem → Prop) : Prop :=
  newK m ⟨6, c_0, 25, false⟩ fun b2 m1 => ldI .i64 m1 b2 1 fun x3 => ldI .i64 m1 b2 2 fun x4 => ldI .i64 m1 b2 3 fun x5 => ldI .i64 m1 b2 4 fun x6 => newK m1 ⟨4, upd (upd (upd (upd (lget [(.flat (.int .i64 0)), (.flat (.int .i64 0)), (.flat (.int .i64 0)), (.flat (.int .i64 0))]) 0 (.flat (.int .i64 x3))) 1 (.flat (.int .i64 x4))) 2 (.flat (.int .i64 x5))) 3 (.flat (.int .i64 x6)), 3, false⟩ fun b8 m7 => ∃ N17, L41_2 b2 0 (.sl b8 0 4 (.ex 4)) 4 N17 0 m7 (fun m14 => ∃ Fr18 : Nat → Prop, Fr18 b2 ∧ (ldI .i64 m14 b2 0 fun x19 => kif (decide (x19 > 0)) (Fr18 b2 ∧ (ldI .i64 m14 b2 0 fun x20 => kif (decide (x20 < 78)) (Fr18 b2 ∧ (ldI .u32 m14 b2 5 fun x21 => kif (decide (x21 ≤ 67108863)) (Fr18 b2 ∧ (ldI .i64 m14 b2 0 fun x22 => Fr18 b2 ∧ (ldG 6 m14 b2 0 fun c23 => F83 c23 m14 fun x24 m25 => KeepsIn Fr18 m14 m25 ∧ (F82 x22 x24 m25 fun c26 m27 => KeepsIn Fr18 m25 m27 ∧ (Fr18 b2 ∧ (ldG 6 m27 b2 0 fun c28 => geq K25 c26 c28 fun x29 => (Keeps m m27 ∧ k x29 m))))))) ((Keeps m m14 ∧ k false m)))) ((Keeps m m14 ∧ k false m)))) ((Keeps m m14 ∧ k false m)))) (fun x15 m16 => (Keeps m m16 ∧ k x15 m))

def G41 (args : List AV) (m : Mem) (k : KV) : Prop := match args with
  | [a0] => kaggN 6 a0 fun c_0 => F41 c_0 m (fun x_1000 m' => k (.flat (.bool x_1000)) m')
  | _ => False

def Lam41_2 (σ : Nat → AV) (m : Mem) (k : KX) : Prop := kptr (σ 1) fun b_1 o_1 => kI .i64 (σ 14) fun x_14 => kI .i64 (σ 15) fun x_15 => ∃ N, L41_2 b_1 o_1 (σ 13) x_14 N x_15 m (fun m' => k (.exit 0) (only [1] [(.ptr b_1 o_1)]) m') (fun x_2' m' => k .ret (only [2] [(.flat (.bool x_2'))]) m')

def Lam41 : LEnv := ⟨fun a σ m k => match firstReg a with
  | some 2 => Lam41_2 σ m k
  | _ => bump False,
  fun id => match id with
  | 7 => true
  | _ => bump false,
  fun b => match keyC b with
  | _ => bump false,
  fun b σ m k => match keyC b with
  | _ => bump False⟩

def lx41_2 : Ex → List Nat := fun e => match e with
  | .exit 0 => [1]
  | .ret => [2]
  | _ => []

theorem round41_2 (b_1 o_1 : Nat) (v_13 : AV) (x_14 : Int) (x_15 : Int) (m : Mem) (G : List AV → Mem → Prop) (k : KX) : (wpA Tryz.prog E41 Lam41 ((loopsOf (bodyOf Tryz.f41)).getD 0 .skip) (only [1, 13, 14, 15] [(.ptr b_1 o_1), v_13, (.flat (.int .i64 x_14)), (.flat (.int .i64 x_15))]) m fun e σ' m' => match e with
    | .normal => G ([1, 13, 14, 15].map σ') m'
    | .exit id => k (.exit id) (only (lx41_2 (.exit id)) ((lx41_2 (.exit id)).map σ')) m'
    | .ret => k .ret (only (lx41_2 .ret) ((lx41_2 .ret).map σ')) m') = R41_2 b_1 o_1 v_13 x_14 x_15 m (fun x_15' m' => G [(.ptr b_1 o_1), v_13, (.flat (.int .i64 x_14)), (.flat (.int .i64 x_15'))] m') (fun m' => k (.exit 0) (only [1] [(.ptr b_1 o_1)]) m') (fun x_2' m' => k .ret (only [2] [(.flat (.bool x_2'))]) m') := by
  kernel_rfl

theorem loop41_2 (b_1 o_1 : Nat) (v_13 : AV) (x_14 : Int) (k : KX) : ∀ (N : Nat) (x_15 : Int) (m : Mem), rounds Tryz.prog E41 Lam41 [1, 13, 14, 15] lx41_2 ((loopsOf (bodyOf Tryz.f41)).getD 0 .skip) N [(.ptr b_1 o_1), v_13, (.flat (.int .i64 x_14)), (.flat (.int .i64 x_15))] m k = L41_2 b_1 o_1 v_13 x_14 N x_15 m (fun m' => k (.exit 0) (only [1] [(.ptr b_1 o_1)]) m') (fun x_2' m' => k .ret (only [2] [(.flat (.bool x_2'))]) m') := by
  intro N
  induction N with
  | zero => intros; rfl
  | succ N ih =>
    intro x_15 m
    refine (round41_2 b_1 o_1 v_13 x_14 x_15 m (fun vs m' => rounds Tryz.prog E41 Lam41 [1, 13, 14, 15] lx41_2 ((loopsOf (bodyOf Tryz.f41)).getD 0 .skip) N vs m' k) k).trans ?_
    simp only [ih]
    rfl

theorem lok41_2 : LoopOK Tryz.prog E41 Lam41 ((loopsOf (bodyOf Tryz.f41)).getD 0 .skip) := by
  refine ⟨fun σ => ∃ b_1 o_1 v_13 x_14 x_15, σ 1 = .ptr b_1 o_1 ∧ σ 13 = v_13 ∧ σ 14 = .flat (.int .i64 x_14) ∧ σ 15 = .flat (.int .i64 x_15), [1, 13, 14, 15], lx41_2, fun σ m k => ?_⟩
  have e : Lam41.loop ((loopsOf (bodyOf Tryz.f41)).getD 0 .skip) σ m k = Lam41_2 σ m k := by kernel_rfl
  rw [e]
  constructor
  · intro h
    unfold Lam41_2 at h
    obtain ⟨b_1, o_1, h0, h⟩ := kptr_ok h
    obtain ⟨v_13, h1⟩ : ∃ v, σ 13 = v := ⟨_, rfl⟩
    obtain ⟨x_14, h2, h⟩ := kI_ok h
    obtain ⟨x_15, h3, h⟩ := kI_ok h
    obtain ⟨N, h⟩ := h
    refine ⟨⟨b_1, o_1, v_13, x_14, x_15, h0, h1, h2, h3⟩, N, ?_⟩
    have ev : [1, 13, 14, 15].map σ = [(.ptr b_1 o_1), v_13, (.flat (.int .i64 x_14)), (.flat (.int .i64 x_15))] := by simp only [List.map_cons, List.map_nil, h0, h1, h2, h3]
    rw [ev, loop41_2]
    simp only [h1] at h
    exact h
  · rintro ⟨⟨b_1, o_1, v_13, x_14, x_15, h0, h1, h2, h3⟩, N, h⟩
    have ev : [1, 13, 14, 15].map σ = [(.ptr b_1 o_1), v_13, (.flat (.int .i64 x_14)), (.flat (.int .i64 x_15))] := by simp only [List.map_cons, List.map_nil, h0, h1, h2, h3]
    rw [ev, loop41_2] at h
    unfold Lam41_2
    try simp only [h0, h1, h2, h3, kI, kbool, kS, kptr, kaggN, kite, decide_true, eq_self]
    exact ⟨N, h⟩

theorem eqn41 (c_0 : Nat → AV) (m : Mem) (k : KV) : bodyK Tryz.prog E41 Lam41 Tryz.f41 true [(.agg 6 c_0)] m k = F41 c_0 m (fun x_1000 m' => k (.flat (.bool x_1000)) m') := by
  kernel_rfl

theorem fs41 (w0 : World) : FS Tryz.prog w0 41 G41 := by
  refine (fs_body (Γ := E41) (sound_env (l := [(82, G82), (83, G83)]) w0 (by
    intro p hp
    simp only [List.mem_cons, List.not_mem_nil, or_false] at hp
    rcases hp with rfl | rfl
    · exact fs82 w0
    · exact fs83 w0)) (by kernel_rfl) Tryz.func41 (Λ := Lam41) (c := (bodyOf Tryz.f41)) (by kernel_rfl) Tryz.call41 (by kernel_rfl) (LS_of (bodyOf Tryz.f41) 1 (by kernel_rfl) (by
    intro i hi
    match i, hi with
    | 0, _ => exact lok41_2
    | i + 1, hi => omega) 0 (by kernel_rfl) (fun i hi => absurd hi (Nat.not_lt_zero i))) true (np := 1) (Nat.le_of_ble_eq_true (by kernel_rfl))).imp fun args => ?_
  by_cases hl : args.length = 1
  rotate_left
  · exact .inr fun m k hk => by
      unfold G41 at hk
      split at hk
      · exact hl rfl
      · exact hk
  obtain ⟨a0, rfl⟩ : ∃ a0, args = [a0] := len_list1 hl
  rcases kaggN_or 6 a0 with ⟨c_0, rfl⟩ | h
  rotate_left
  · exact .inr fun m k hk => h _ (by simpa only [G41, kI, kbool, kS, kptr, kaggN, kite, decide_true, eq_self] using hk)
  exact .inl fun m k => propext ⟨fun h => ⟨rfl, by rw [eqn41]; simpa only [G41, kI, kbool, kS, kptr, kaggN, kite, decide_true, eq_self] using h⟩, fun h => by have h := h.2; rw [eqn41] at h; simpa only [G41, kI, kbool, kS, kptr, kaggN, kite, decide_true, eq_self] using h⟩

def E42 : Env := envOf []

def P42_9004 (x_3 : Int) (x_55 : Bool) (m : Mem) (kr : Int → Mem → Prop) (kn : Mem → Prop) : Prop :=
  kif x_55 (kr 5 m) (kif (x_3 == 22) (kr 2 m) (kif (x_3 == 24) (kr 2 m) (kif (x_3 == 46) (kr 2 m) (kif (decide (x_3 ≥ 32)) (kif (decide (x_3 ≤ 35)) (kr 2 m) (kn  m)) (kn  m)))))

def P42_7004 (x_3 : Int) (x_44 : Bool) (m : Mem) (kr : Int → Mem → Prop) (kn : Mem → Prop) : Prop :=
  kif x_44 (kr 4 m) (kif (decide (x_3 ≥ 71)) (kif (decide (x_3 ≤ 73)) (P42_9004 x_3 true m (fun x4 m5 => kr x4 m5) (fun m6 => kn  m6)) (P42_9004 x_3 (x_3 == 75) m (fun x7 m8 => kr x7 m8) (fun m9 => kn  m9))) (P42_9004 x_3 (x_3 == 75) m (fun x10 m11 => kr x10 m11) (fun m12 => kn  m12)))

def P42_5004 (x_3 : Int) (x_29 : Bool) (m : Mem) (kr : Int → Mem → Prop) (kn : Mem → Prop) : Prop :=
  kif x_29 (kr 3 m) (kif (decide (x_3 ≥ 66)) (kif (decide (x_3 ≤ 70)) (P42_7004 x_3 true m (fun x13 m14 => kr x13 m14) (fun m15 => kn  m15)) (P42_7004 x_3 (x_3 == 74) m (fun x16 m17 => kr x16 m17) (fun m18 => kn  m18))) (P42_7004 x_3 (x_3 == 74) m (fun x19 m20 => kr x19 m20) (fun m21 => kn  m21)))

def P42_3004 (x_3 : Int) (x_6 : Bool) (m : Mem) (kr : Int → Mem → Prop) (kn : Mem → Prop) : Prop :=
  kif x_6 (kr 6 m) (kif (x_3 == 7) (P42_5004 x_3 true m (fun x22 m23 => kr x22 m23) (fun m24 => kn  m24)) (kif (x_3 == 8) (P42_5004 x_3 true m (fun x25 m26 => kr x25 m26) (fun m27 => kn  m27)) (kif (decide (x_3 ≥ 36)) (P42_5004 x_3 (decide (x_3 ≤ 45)) m (fun x28 m29 => kr x28 m29) (fun m30 => kn  m30)) (P42_5004 x_3 false m (fun x31 m32 => kr x31 m32) (fun m33 => kn  m33)))))

/-- pianola/decode.Class -/
def F42 (c_0 : Nat → AV) (m : Mem) (k : Int → Mem → Prop) : Prop :=
  newK m ⟨6, c_0, 25, false⟩ fun b2 m1 => ldI .i64 m1 b2 0 fun x3 => kif (decide (x3 ≤ 0)) (P42_3004 x3 true m1 (fun x34 m35 => (Keeps m m35 ∧ k x34 m)) (fun m36 => (Keeps m m36 ∧ k 1 m))) (kif (decide (x3 ≥ 78)) (P42_3004 x3 true m1 (fun x37 m38 => (Keeps m m38 ∧ k x37 m)) (fun m39 => (Keeps m m39 ∧ k 1 m))) (kif (x3 == 11) (P42_3004 x3 true m1 (fun x40 m41 => (Keeps m m41 ∧ k x40 m)) (fun m42 => (Keeps m m42 ∧ k 1 m))) (kif (x3 == 12) (P42_3004 x3 true m1 (fun x43 m44 => (Keeps m m44 ∧ k x43 m)) (fun m45 => (Keeps m m45 ∧ k 1 m))) (kif (decide (x3 ≥ 54)) (P42_3004 x3 (decide (x3 ≤ 62)) m1 (fun x46 m47 => (Keeps m m47 ∧ k x46 m)) (fun m48 => (Keeps m m48 ∧ k 1 m))) (P42_3004 x3 false m1 (fun x49 m50 => (Keeps m m50 ∧ k x49 m)) (fun m51 => (Keeps m m51 ∧ k 1 m)))))))

def G42 (args : List AV) (m : Mem) (k : KV) : Prop := match args with
  | [a0] => kaggN 6 a0 fun c_0 => F42 c_0 m (fun x_1000 m' => k (.flat (.int .i64 x_1000)) m')
  | _ => False

def LamP42_3004 (σ : Nat → AV) (m : Mem) (k : KX) : Prop := kI .i64 (σ 3) fun x_3 => kbool (σ 6) fun x_6 => P42_3004 x_3 x_6 m (fun x_2' m' => k .ret (only [2] [(.flat (.int .i64 x_2'))]) m') (fun m' => k .normal (only [] []) m')

def LamP42_5004 (σ : Nat → AV) (m : Mem) (k : KX) : Prop := kI .i64 (σ 3) fun x_3 => kbool (σ 29) fun x_29 => P42_5004 x_3 x_29 m (fun x_2' m' => k .ret (only [2] [(.flat (.int .i64 x_2'))]) m') (fun m' => k .normal (only [] []) m')

def LamP42_7004 (σ : Nat → AV) (m : Mem) (k : KX) : Prop := kI .i64 (σ 3) fun x_3 => kbool (σ 44) fun x_44 => P42_7004 x_3 x_44 m (fun x_2' m' => k .ret (only [2] [(.flat (.int .i64 x_2'))]) m') (fun m' => k .normal (only [] []) m')

def LamP42_9004 (σ : Nat → AV) (m : Mem) (k : KX) : Prop := kI .i64 (σ 3) fun x_3 => kbool (σ 55) fun x_55 => P42_9004 x_3 x_55 m (fun x_2' m' => k .ret (only [2] [(.flat (.int .i64 x_2'))]) m') (fun m' => k .normal (only [] []) m')

def Lam42 : LEnv := ⟨fun a σ m k => match firstReg a with
  | _ => bump False,
  fun id => match id with
  | _ => bump false,
  fun b => match keyC b with
  | some 3004 => true
  | some 5004 => true
  | some 7004 => true
  | some 9004 => true
  | _ => bump false,
  fun b σ m k => match keyC b with
  | some 3004 => LamP42_3004 σ m k
  | some 5004 => LamP42_5004 σ m k
  | some 7004 => LamP42_7004 σ m k
  | some 9004 => LamP42_9004 σ m k
  | _ => bump False⟩

def lxp42_9004 : Ex → List Nat := fun e => match e with
  | .ret => [2]
  | .normal => []
  | _ => []

theorem pc42_9004 (x_3 : Int) (x_55 : Bool) (m : Mem) (k : KX) : once Tryz.prog E42 Lam42 [3, 55] lxp42_9004 (((secsOf (bodyOf Tryz.f42)).filter Lam42.cut).getD 3 .skip) [(.flat (.int .i64 x_3)), (.flat (.bool x_55))] m k = P42_9004 x_3 x_55 m (fun x_2' m' => k .ret (only [2] [(.flat (.int .i64 x_2'))]) m') (fun m' => k .normal (only [] []) m') := by
  kernel_rfl

theorem pok42_9004 : PieceOK Tryz.prog E42 Lam42 (((secsOf (bodyOf Tryz.f42)).filter Lam42.cut).getD 3 .skip) := by
  refine ⟨fun σ => ∃ x_3 x_55, σ 3 = .flat (.int .i64 x_3) ∧ σ 55 = .flat (.bool x_55), [3, 55], lxp42_9004, fun σ m k => ?_⟩
  have e : Lam42.piece (((secsOf (bodyOf Tryz.f42)).filter Lam42.cut).getD 3 .skip) σ m k = LamP42_9004 σ m k := by kernel_rfl
  rw [e]
  constructor
  · intro h
    unfold LamP42_9004 at h
    obtain ⟨x_3, h0, h⟩ := kI_ok h
    obtain ⟨x_55, h1, h⟩ := kbool_ok h
    refine ⟨⟨x_3, x_55, h0, h1⟩, ?_⟩
    have ev : [3, 55].map σ = [(.flat (.int .i64 x_3)), (.flat (.bool x_55))] := by simp only [List.map_cons, List.map_nil, h0, h1]
    rw [ev, pc42_9004]
    exact h
  · rintro ⟨⟨x_3, x_55, h0, h1⟩, h⟩
    have ev : [3, 55].map σ = [(.flat (.int .i64 x_3)), (.flat (.bool x_55))] := by simp only [List.map_cons, List.map_nil, h0, h1]
    rw [ev, pc42_9004] at h
    unfold LamP42_9004
    try simp only [h0, h1, kI, kbool, kS, kptr, kaggN, kite, decide_true, eq_self]
    exact h

def lxp42_7004 : Ex → List Nat := fun e => match e with
  | .ret => [2]
  | .normal => []
  | _ => []

theorem pc42_7004 (x_3 : Int) (x_44 : Bool) (m : Mem) (k : KX) : once Tryz.prog E42 Lam42 [3, 44] lxp42_7004 (((secsOf (bodyOf Tryz.f42)).filter Lam42.cut).getD 2 .skip) [(.flat (.int .i64 x_3)), (.flat (.bool x_44))] m k = P42_7004 x_3 x_44 m (fun x_2' m' => k .ret (only [2] [(.flat (.int .i64 x_2'))]) m') (fun m' => k .normal (only [] []) m') := by
  kernel_rfl

theorem pok42_7004 : PieceOK Tryz.prog E42 Lam42 (((secsOf (bodyOf Tryz.f42)).filter Lam42.cut).getD 2 .skip) := by
  refine ⟨fun σ => ∃ x_3 x_44, σ 3 = .flat (.int .i64 x_3) ∧ σ 44 = .flat (.bool x_44), [3, 44], lxp42_7004, fun σ m k => ?_⟩
  have e : Lam42.piece (((secsOf (bodyOf Tryz.f42)).filter Lam42.cut).getD 2 .skip) σ m k = LamP42_7004 σ m k := by kernel_rfl
  rw [e]
  constructor
  · intro h
    unfold LamP42_7004 at h
    obtain ⟨x_3, h0, h⟩ := kI_ok h
    obtain ⟨x_44, h1, h⟩ := kbool_ok h
    refine ⟨⟨x_3, x_44, h0, h1⟩, ?_⟩
    have ev : [3, 44].map σ = [(.flat (.int .i64 x_3)), (.flat (.bool x_44))] := by simp only [List.map_cons, List.map_nil, h0, h1]
    rw [ev, pc42_7004]
    exact h
  · rintro ⟨⟨x_3, x_44, h0, h1⟩, h⟩
    have ev : [3, 44].map σ = [(.flat (.int .i64 x_3)), (.flat (.bool x_44))] := by simp only [List.map_cons, List.map_nil, h0, h1]
    rw [ev, pc42_7004] at h
    unfold LamP42_7004
    try simp only [h0, h1, kI, kbool, kS, kptr, kaggN, kite, decide_true, eq_self]
    exact h

def lxp42_5004 : Ex → List Nat := fun e => match e with
  | .ret => [2]
  | .normal => []
  | _ => []

theorem pc42_5004 (x_3 : Int) (x_29 : Bool) (m : Mem) (k : KX) : once Tryz.prog E42 Lam42 [3, 29] lxp42_5004 (((secsOf (bodyOf Tryz.f42)).filter Lam42.cut).getD 1 .skip) [(.flat (.int .i64 x_3)), (.flat (.bool x_29))] m k = P42_5004 x_3 x_29 m (fun x_2' m' => k .ret (only [2] [(.flat (.int .i64 x_2'))]) m') (fun m' => k .normal (only [] []) m') := by
  kernel_rfl

theorem pok42_5004 : PieceOK Tryz.prog E42 Lam42 (((secsOf (bodyOf Tryz.f42)).filter Lam42.cut).getD 1 .skip) := by
  refine ⟨fun σ => ∃ x_3 x_29, σ 3 = .flat (.int .i64 x_3) ∧ σ 29 = .flat (.bool x_29), [3, 29], lxp42_5004, fun σ m k => ?_⟩
  have e : Lam42.piece (((secsOf (bodyOf Tryz.f42)).filter Lam42.cut).getD 1 .skip) σ m k = LamP42_5004 σ m k := by kernel_rfl
  rw [e]
  constructor
  · intro h
    unfold LamP42_5004 at h
    obtain ⟨x_3, h0, h⟩ := kI_ok h
    obtain ⟨x_29, h1, h⟩ := kbool_ok h
    refine ⟨⟨x_3, x_29, h0, h1⟩, ?_⟩
    have ev : [3, 29].map σ = [(.flat (.int .i64 x_3)), (.flat (.bool x_29))] := by simp only [List.map_cons, List.map_nil, h0, h1]
    rw [ev, pc42_5004]
    exact h
  · rintro ⟨⟨x_3, x_29, h0, h1⟩, h⟩
    have ev : [3, 29].map σ = [(.flat (.int .i64 x_3)), (.flat (.bool x_29))] := by simp only [List.map_cons, List.map_nil, h0, h1]
    rw [ev, pc42_5004] at h
    unfold LamP42_5004
    try simp only [h0, h1, kI, kbool, kS, kptr, kaggN, kite, decide_true, eq_self]
    exact h

def lxp42_3004 : Ex → List Nat := fun e => match e with
  | .ret => [2]
  | .normal => []
  | _ => []

theorem pc42_3004 (x_3 : Int) (x_6 : Bool) (m : Mem) (k : KX) : once Tryz.prog E42 Lam42 [3, 6] lxp42_3004 (((secsOf (bodyOf Tryz.f42)).filter Lam42.cut).getD 0 .skip) [(.flat (.int .i64 x_3)), (.flat (.bool x_6))] m k = P42_3004 x_3 x_6 m (fun x_2' m' => k .ret (only [2] [(.flat (.int .i64 x_2'))]) m') (fun m' => k .normal (only [] []) m') := by
  kernel_rfl

theorem pok42_3004 : PieceOK Tryz.prog E42 Lam42 (((secsOf (bodyOf Tryz.f42)).filter Lam42.cut).getD 0 .skip) := by
  refine ⟨fun σ => ∃ x_3 x_6, σ 3 = .flat (.int .i64 x_3) ∧ σ 6 = .flat (.bool x_6), [3, 6], lxp42_3004, fun σ m k => ?_⟩
  have e : Lam42.piece (((secsOf (bodyOf Tryz.f42)).filter Lam42.cut).getD 0 .skip) σ m k = LamP42_3004 σ m k := by kernel_rfl
  rw [e]
  constructor
  · intro h
    unfold LamP42_3004 at h
    obtain ⟨x_3, h0, h⟩ := kI_ok h
    obtain ⟨x_6, h1, h⟩ := kbool_ok h
    refine ⟨⟨x_3, x_6, h0, h1⟩, ?_⟩
    have ev : [3, 6].map σ = [(.flat (.int .i64 x_3)), (.flat (.bool x_6))] := by simp only [List.map_cons, List.map_nil, h0, h1]
    rw [ev, pc42_3004]
    exact h
  · rintro ⟨⟨x_3, x_6, h0, h1⟩, h⟩
    have ev : [3, 6].map σ = [(.flat (.int .i64 x_3)), (.flat (.bool x_6))] := by simp only [List.map_cons, List.map_nil, h0, h1]
    rw [ev, pc42_3004] at h
    unfold LamP42_3004
    try simp only [h0, h1, kI, kbool, kS, kptr, kaggN, kite, decide_true, eq_self]
    exact h

theorem eqn42 (c_0 : Nat → AV) (m : Mem) (k : KV) : bodyK Tryz.prog E42 Lam42 Tryz.f42 true [(.agg 6 c_0)] m k = F42 c_0 m (fun x_1000 m' => k (.flat (.int .i64 x_1000)) m') := by
  kernel_rfl

theorem fs42 (w0 : World) : FS Tryz.prog w0 42 G42 := by
  refine (fs_body (Γ := E42) (sound_env (l := []) w0 (by
    intro p hp
    cases hp)) (by kernel_rfl) Tryz.func42 (Λ := Lam42) (c := (bodyOf Tryz.f42)) (by kernel_rfl) Tryz.call42 (by kernel_rfl) (LS_of (bodyOf Tryz.f42) 0 (by kernel_rfl) (fun i hi => absurd hi (Nat.not_lt_zero i)) 4 (by kernel_rfl) (by
    intro i hi
    match i, hi with
    | 0, _ => exact pok42_3004
    | 1, _ => exact pok42_5004
    | 2, _ => exact pok42_7004
    | 3, _ => exact pok42_9004
    | i + 4, hi => omega)) true (np := 1) (Nat.le_of_ble_eq_true (by kernel_rfl))).imp fun args => ?_
  by_cases hl : args.length = 1
  rotate_left
  · exact .inr fun m k hk => by
      unfold G42 at hk
      split at hk
      · exact hl rfl
      · exact hk
  obtain ⟨a0, rfl⟩ : ∃ a0, args = [a0] := len_list1 hl
  rcases kaggN_or 6 a0 with ⟨c_0, rfl⟩ | h
  rotate_left
  · exact .inr fun m k hk => h _ (by simpa only [G42, kI, kbool, kS, kptr, kaggN, kite, decide_true, eq_self] using hk)
  exact .inl fun m k => propext ⟨fun h => ⟨rfl, by rw [eqn42]; simpa only [G42, kI, kbool, kS, kptr, kaggN, kite, decide_true, eq_self] using h⟩, fun h => by have h := h.2; rw [eqn42] at h; simpa only [G42, kI, kbool, kS, kptr, kaggN, kite, decide_true, eq_self] using h⟩

def E21 : Env := envOf [(41, G41), (42, G42)]

/-- pianola/lift.Is -/
def F21 (c_0 : Nat → AV) (m : Mem) (k : Bool → Mem → Prop) : Prop :=
  newK m ⟨6, c_0, 25, false⟩ fun b2 m1 => ldG 6 m1 b2 0 fun c3 => F41 c3 m1 fun x4 m5 => kif x4 (ldG 6 m5 b2 0 fun c6 => F42 c6 m5 fun x7 m8 => (Keeps m m8 ∧ k (x7 == 1) m)) ((Keeps m m5 ∧ k false m))

def G21 (args : List AV) (m : Mem) (k : KV) : Prop := match args with
  | [a0] => kaggN 6 a0 fun c_0 => F21 c_0 m (fun x_1000 m' => k (.flat (.bool x_1000)) m')
  | _ => False

def Lam21 : LEnv := ⟨fun a σ m k => match firstReg a with
  | _ => bump False,
  fun id => match id with
  | _ => bump false,
  fun b => match keyC b with
  | _ => bump false,
  fun b σ m k => match keyC b with
  | _ => bump False⟩

theorem eqn21 (c_0 : Nat → AV) (m : Mem) (k : KV) : bodyK Tryz.prog E21 Lam21 Tryz.f21 true [(.agg 6 c_0)] m k = F21 c_0 m (fun x_1000 m' => k (.flat (.bool x_1000)) m') := by
  kernel_rfl

theorem fs21 (w0 : World) : FS Tryz.prog w0 21 G21 := by
  refine (fs_body (Γ := E21) (sound_env (l := [(41, G41), (42, G42)]) w0 (by
    intro p hp
    simp only [List.mem_cons, List.not_mem_nil, or_false] at hp
    rcases hp with rfl | rfl
    · exact fs41 w0
    · exact fs42 w0)) (by kernel_rfl) Tryz.func21 (Λ := Lam21) (c := (bodyOf Tryz.f21)) (by kernel_rfl) Tryz.call21 (by kernel_rfl) (LS_of (bodyOf Tryz.f21) 0 (by kernel_rfl) (fun i hi => absurd hi (Nat.not_lt_zero i)) 0 (by kernel_rfl) (fun i hi => absurd hi (Nat.not_lt_zero i))) true (np := 1) (Nat.le_of_ble_eq_true (by kernel_rfl))).imp fun args => ?_
  by_cases hl : args.length = 1
  rotate_left
  · exact .inr fun m k hk => by
      unfold G21 at hk
      split at hk
      · exact hl rfl
      · exact hk
  obtain ⟨a0, rfl⟩ : ∃ a0, args = [a0] := len_list1 hl
  rcases kaggN_or 6 a0 with ⟨c_0, rfl⟩ | h
  rotate_left
  · exact .inr fun m k hk => h _ (by simpa only [G21, kI, kbool, kS, kptr, kaggN, kite, decide_true, eq_self] using hk)
  exact .inl fun m k => propext ⟨fun h => ⟨rfl, by rw [eqn21]; simpa only [G21, kI, kbool, kS, kptr, kaggN, kite, decide_true, eq_self] using h⟩, fun h => by have h := h.2; rw [eqn21] at h; simpa only [G21, kI, kbool, kS, kptr, kaggN, kite, decide_true, eq_self] using h⟩

def E27 : Env := envOf []

def P27_32004 (x_3 : Int) (x_32 : Bool) (m : Mem) (kr : Int → Mem → Prop) (kn : Mem → Prop) : Prop :=
  kif x_32 (kr 13 m) (kif (x_3 == 63) (kr 14 m) (kif (x_3 == 64) (kr 15 m) (kif (x_3 == 65) (kr 16 m) (kif (x_3 == 18) (kr 17 m) (kif (x_3 == 19) (kr 18 m) (kif (x_3 == 20) (kr 19 m) (kif (x_3 == 21) (kr 20 m) (kif (x_3 == 9) (kr 21 m) (kif (x_3 == 10) (kr 22 m) (kn  m))))))))))

def P27_29004 (x_3 : Int) (x_29 : Bool) (m : Mem) (kr : Int → Mem → Prop) (kn : Mem → Prop) : Prop :=
  kif x_29 (kr 12 m) (kif (x_3 == 31) (P27_32004 x_3 (x_3 == 31) m (fun x1 m2 => kr x1 m2) (fun m3 => kn  m3)) (P27_32004 x_3 (x_3 == 49) m (fun x4 m5 => kr x4 m5) (fun m6 => kn  m6)))

def P27_24004 (x_3 : Int) (x_24 : Bool) (m : Mem) (kr : Int → Mem → Prop) (kn : Mem → Prop) : Prop :=
  kif x_24 (kr 7 m) (kif (x_3 == 29) (kr 8 m) (kif (x_3 == 30) (P27_29004 x_3 (x_3 == 30) m (fun x7 m8 => kr x7 m8) (fun m9 => kn  m9)) (P27_29004 x_3 (x_3 == 48) m (fun x10 m11 => kr x10 m11) (fun m12 => kn  m12))))

def P27_21004 (x_3 : Int) (x_21 : Bool) (m : Mem) (kr : Int → Mem → Prop) (kn : Mem → Prop) : Prop :=
  kif x_21 (kr 6 m) (kif (x_3 == 28) (P27_24004 x_3 (x_3 == 28) m (fun x13 m14 => kr x13 m14) (fun m15 => kn  m15)) (P27_24004 x_3 (x_3 == 52) m (fun x16 m17 => kr x16 m17) (fun m18 => kn  m18)))

def P27_18004 (x_3 : Int) (x_18 : Bool) (m : Mem) (kr : Int → Mem → Prop) (kn : Mem → Prop) : Prop :=
  kif x_18 (kr 5 m) (kif (x_3 == 27) (P27_21004 x_3 (x_3 == 27) m (fun x19 m20 => kr x19 m20) (fun m21 => kn  m21)) (P27_21004 x_3 (x_3 == 51) m (fun x22 m23 => kr x22 m23) (fun m24 => kn  m24)))

def P27_13004 (x_3 : Int) (x_13 : Bool) (m : Mem) (kr : Int → Mem → Prop) (kn : Mem → Prop) : Prop :=
  kif x_13 (kr 3 m) (kif (x_3 == 25) (kr 4 m) (kif (x_3 == 26) (P27_18004 x_3 (x_3 == 26) m (fun x25 m26 => kr x25 m26) (fun m27 => kn  m27)) (P27_18004 x_3 (x_3 == 50) m (fun x28 m29 => kr x28 m29) (fun m30 => kn  m30))))

def P27_10004 (x_3 : Int) (x_10 : Bool) (m : Mem) (kr : Int → Mem → Prop) (kn : Mem → Prop) : Prop :=
  kif x_10 (kr 11 m) (kif (x_3 == 23) (P27_13004 x_3 (x_3 == 23) m (fun x31 m32 => kr x31 m32) (fun m33 => kn  m33)) (P27_13004 x_3 (x_3 == 47) m (fun x34 m35 => kr x34 m35) (fun m36 => kn  m36)))

def P27_7004 (x_3 : Int) (x_7 : Bool) (m : Mem) (kr : Int → Mem → Prop) (kn : Mem → Prop) : Prop :=
  kif x_7 (kr 10 m) (kif (x_3 == 3) (P27_10004 x_3 (x_3 == 3) m (fun x37 m38 => kr x37 m38) (fun m39 => kn  m39)) (P27_10004 x_3 (x_3 == 6) m (fun x40 m41 => kr x40 m41) (fun m42 => kn  m42)))

def P27_4004 (x_3 : Int) (x_4 : Bool) (m : Mem) (kr : Int → Mem → Prop) (kn : Mem → Prop) : Prop :=
  kif x_4 (kr 9 m) (kif (x_3 == 2) (P27_7004 x_3 (x_3 == 2) m (fun x43 m44 => kr x43 m44) (fun m45 => kn  m45)) (P27_7004 x_3 (x_3 == 5) m (fun x46 m47 => kr x46 m47) (fun m48 => kn  m48)))

/-- pianola/lift.kind -/
def F27 (x_0 : Int) (m : Mem) (k : Int → Mem → Prop) : Prop :=
  kif (x_0 == 1) (P27_4004 x_0 (x_0 == 1) m (fun x49 m50 => (Keeps m m50 ∧ k x49 m)) (fun m51 => (Keeps m m51 ∧ k 0 m))) (P27_4004 x_0 (x_0 == 4) m (fun x52 m53 => (Keeps m m53 ∧ k x52 m)) (fun m54 => (Keeps m m54 ∧ k 0 m)))

def G27 (args : List AV) (m : Mem) (k : KV) : Prop := match args with
  | [a0] => kI .i64 a0 fun x_0 => F27 x_0 m (fun x_1000 m' => k (.flat (.int .i64 x_1000)) m')
  | _ => False

def LamP27_4004 (σ : Nat → AV) (m : Mem) (k : KX) : Prop := kI .i64 (σ 3) fun x_3 => kbool (σ 4) fun x_4 => P27_4004 x_3 x_4 m (fun x_2' m' => k .ret (only [2] [(.flat (.int .i64 x_2'))]) m') (fun m' => k .normal (only [] []) m')

def LamP27_7004 (σ : Nat → AV) (m : Mem) (k : KX) : Prop := kI .i64 (σ 3) fun x_3 => kbool (σ 7) fun x_7 => P27_7004 x_3 x_7 m (fun x_2' m' => k .ret (only [2] [(.flat (.int .i64 x_2'))]) m') (fun m' => k .normal (only [] []) m')

def LamP27_10004 (σ : Nat → AV) (m : Mem) (k : KX) : Prop := kI .i64 (σ 3) fun x_3 => kbool (σ 10) fun x_10 => P27_10004 x_3 x_10 m (fun x_2' m' => k .ret (only [2] [(.flat (.int .i64 x_2'))]) m') (fun m' => k .normal (only [] []) m')

def LamP27_13004 (σ : Nat → AV) (m : Mem) (k : KX) : Prop := kI .i64 (σ 3) fun x_3 => kbool (σ 13) fun x_13 => P27_13004 x_3 x_13 m (fun x_2' m' => k .ret (only [2] [(.flat (.int .i64 x_2'))]) m') (fun m' => k .normal (only [] []) m')

def LamP27_18004 (σ : Nat → AV) (m : Mem) (k : KX) : Prop := kI .i64 (σ 3) fun x_3 => kbool (σ 18) fun x_18 => P27_18004 x_3 x_18 m (fun x_2' m' => k .ret (only [2] [(.flat (.int .i64 x_2'))]) m') (fun m' => k .normal (only [] []) m')

def LamP27_21004 (σ : Nat → AV) (m : Mem) (k : KX) : Prop := kI .i64 (σ 3) fun x_3 => kbool (σ 21) fun x_21 => P27_21004 x_3 x_21 m (fun x_2' m' => k .ret (only [2] [(.flat (.int .i64 x_2'))]) m') (fun m' => k .normal (only [] []) m')

def LamP27_24004 (σ : Nat → AV) (m : Mem) (k : KX) : Prop := kI .i64 (σ 3) fun x_3 => kbool (σ 24) fun x_24 => P27_24004 x_3 x_24 m (fun x_2' m' => k .ret (only [2] [(.flat (.int .i64 x_2'))]) m') (fun m' => k .normal (only [] []) m')

def LamP27_29004 (σ : Nat → AV) (m : Mem) (k : KX) : Prop := kI .i64 (σ 3) fun x_3 => kbool (σ 29) fun x_29 => P27_29004 x_3 x_29 m (fun x_2' m' => k .ret (only [2] [(.flat (.int .i64 x_2'))]) m') (fun m' => k .normal (only [] []) m')

def LamP27_32004 (σ : Nat → AV) (m : Mem) (k : KX) : Prop := kI .i64 (σ 3) fun x_3 => kbool (σ 32) fun x_32 => P27_32004 x_3 x_32 m (fun x_2' m' => k .ret (only [2] [(.flat (.int .i64 x_2'))]) m') (fun m' => k .normal (only [] []) m')

def Lam27 : LEnv := ⟨fun a σ m k => match firstReg a with
  | _ => bump False,
  fun id => match id with
  | _ => bump false,
  fun b => match keyC b with
  | some 4004 => true
  | some 7004 => true
  | some 10004 => true
  | some 13004 => true
  | some 18004 => true
  | some 21004 => true
  | some 24004 => true
  | some 29004 => true
  | some 32004 => true
  | _ => bump false,
  fun b σ m k => match keyC b with
  | some 4004 => LamP27_4004 σ m k
  | some 7004 => LamP27_7004 σ m k
  | some 10004 => LamP27_10004 σ m k
  | some 13004 => LamP27_13004 σ m k
  | some 18004 => LamP27_18004 σ m k
  | some 21004 => LamP27_21004 σ m k
  | some 24004 => LamP27_24004 σ m k
  | some 29004 => LamP27_29004 σ m k
  | some 32004 => LamP27_32004 σ m k
  | _ => bump False⟩

def lxp27_32004 : Ex → List Nat := fun e => match e with
  | .ret => [2]
  | .normal => []
  | _ => []

theorem pc27_32004 (x_3 : Int) (x_32 : Bool) (m : Mem) (k : KX) : once Tryz.prog E27 Lam27 [3, 32] lxp27_32004 (((secsOf (bodyOf Tryz.f27)).filter Lam27.cut).getD 8 .skip) [(.flat (.int .i64 x_3)), (.flat (.bool x_32))] m k = P27_32004 x_3 x_32 m (fun x_2' m' => k .ret (only [2] [(.flat (.int .i64 x_2'))]) m') (fun m' => k .normal (only [] []) m') := by
  kernel_rfl

theorem pok27_32004 : PieceOK Tryz.prog E27 Lam27 (((secsOf (bodyOf Tryz.f27)).filter Lam27.cut).getD 8 .skip) := by
  refine ⟨fun σ => ∃ x_3 x_32, σ 3 = .flat (.int .i64 x_3) ∧ σ 32 = .flat (.bool x_32), [3, 32], lxp27_32004, fun σ m k => ?_⟩
  have e : Lam27.piece (((secsOf (bodyOf Tryz.f27)).filter Lam27.cut).getD 8 .skip) σ m k = LamP27_32004 σ m k := by kernel_rfl
  rw [e]
  constructor
  · intro h
    unfold LamP27_32004 at h
    obtain ⟨x_3, h0, h⟩ := kI_ok h
    obtain ⟨x_32, h1, h⟩ := kbool_ok h
    refine ⟨⟨x_3, x_32, h0, h1⟩, ?_⟩
    have ev : [3, 32].map σ = [(.flat (.int .i64 x_3)), (.flat (.bool x_32))] := by simp only [List.map_cons, List.map_nil, h0, h1]
    rw [ev, pc27_32004]
    exact h
  · rintro ⟨⟨x_3, x_32, h0, h1⟩, h⟩
    have ev : [3, 32].map σ = [(.flat (.int .i64 x_3)), (.flat (.bool x_32))] := by simp only [List.map_cons, List.map_nil, h0, h1]
    rw [ev, pc27_32004] at h
    unfold LamP27_32004
    try simp only [h0, h1, kI, kbool, kS, kptr, kaggN, kite, decide_true, eq_self]
    exact h

def lxp27_29004 : Ex → List Nat := fun e => match e with
  | .ret => [2]
  | .normal => []
  | _ => []

theorem pc27_29004 (x_3 : Int) (x_29 : Bool) (m : Mem) (k : KX) : once Tryz.prog E27 Lam27 [3, 29] lxp27_29004 (((secsOf (bodyOf Tryz.f27)).filter Lam27.cut).getD 7 .skip) [(.flat (.int .i64 x_3)), (.flat (.bool x_29))] m k = P27_29004 x_3 x_29 m (fun x_2' m' => k .ret (only [2] [(.flat (.int .i64 x_2'))]) m') (fun m' => k .normal (only [] []) m') := by
  kernel_rfl

theorem pok27_29004 : PieceOK Tryz.prog E27 Lam27 (((secsOf (bodyOf Tryz.f27)).filter Lam27.cut).getD 7 .skip) := by
  refine ⟨fun σ => ∃ x_3 x_29, σ 3 = .flat (.int .i64 x_3) ∧ σ 29 = .flat (.bool x_29), [3, 29], lxp27_29004, fun σ m k => ?_⟩
  have e : Lam27.piece (((secsOf (bodyOf Tryz.f27)).filter Lam27.cut).getD 7 .skip) σ m k = LamP27_29004 σ m k := by kernel_rfl
  rw [e]
  constructor
  · intro h
    unfold LamP27_29004 at h
    obtain ⟨x_3, h0, h⟩ := kI_ok h
    obtain ⟨x_29, h1, h⟩ := kbool_ok h
    refine ⟨⟨x_3, x_29, h0, h1⟩, ?_⟩
    have ev : [3, 29].map σ = [(.flat (.int .i64 x_3)), (.flat (.bool x_29))] := by simp only [List.map_cons, List.map_nil, h0, h1]
    rw [ev, pc27_29004]
    exact h
  · rintro ⟨⟨x_3, x_29, h0, h1⟩, h⟩
    have ev : [3, 29].map σ = [(.flat (.int .i64 x_3)), (.flat (.bool x_29))] := by simp only [List.map_cons, List.map_nil, h0, h1]
    rw [ev, pc27_29004] at h
    unfold LamP27_29004
    try simp only [h0, h1, kI, kbool, kS, kptr, kaggN, kite, decide_true, eq_self]
    exact h

def lxp27_24004 : Ex → List Nat := fun e => match e with
  | .ret => [2]
  | .normal => []
  | _ => []

theorem pc27_24004 (x_3 : Int) (x_24 : Bool) (m : Mem) (k : KX) : once Tryz.prog E27 Lam27 [3, 24] lxp27_24004 (((secsOf (bodyOf Tryz.f27)).filter Lam27.cut).getD 6 .skip) [(.flat (.int .i64 x_3)), (.flat (.bool x_24))] m k = P27_24004 x_3 x_24 m (fun x_2' m' => k .ret (only [2] [(.flat (.int .i64 x_2'))]) m') (fun m' => k .normal (only [] []) m') := by
  kernel_rfl

theorem pok27_24004 : PieceOK Tryz.prog E27 Lam27 (((secsOf (bodyOf Tryz.f27)).filter Lam27.cut).getD 6 .skip) := by
  refine ⟨fun σ => ∃ x_3 x_24, σ 3 = .flat (.int .i64 x_3) ∧ σ 24 = .flat (.bool x_24), [3, 24], lxp27_24004, fun σ m k => ?_⟩
  have e : Lam27.piece (((secsOf (bodyOf Tryz.f27)).filter Lam27.cut).getD 6 .skip) σ m k = LamP27_24004 σ m k := by kernel_rfl
  rw [e]
  constructor
  · intro h
    unfold LamP27_24004 at h
    obtain ⟨x_3, h0, h⟩ := kI_ok h
    obtain ⟨x_24, h1, h⟩ := kbool_ok h
    refine ⟨⟨x_3, x_24, h0, h1⟩, ?_⟩
    have ev : [3, 24].map σ = [(.flat (.int .i64 x_3)), (.flat (.bool x_24))] := by simp only [List.map_cons, List.map_nil, h0, h1]
    rw [ev, pc27_24004]
    exact h
  · rintro ⟨⟨x_3, x_24, h0, h1⟩, h⟩
    have ev : [3, 24].map σ = [(.flat (.int .i64 x_3)), (.flat (.bool x_24))] := by simp only [List.map_cons, List.map_nil, h0, h1]
    rw [ev, pc27_24004] at h
    unfold LamP27_24004
    try simp only [h0, h1, kI, kbool, kS, kptr, kaggN, kite, decide_true, eq_self]
    exact h

def lxp27_21004 : Ex → List Nat := fun e => match e with
  | .ret => [2]
  | .normal => []
  | _ => []

theorem pc27_21004 (x_3 : Int) (x_21 : Bool) (m : Mem) (k : KX) : once Tryz.prog E27 Lam27 [3, 21] lxp27_21004 (((secsOf (bodyOf Tryz.f27)).filter Lam27.cut).getD 5 .skip) [(.flat (.int .i64 x_3)), (.flat (.bool x_21))] m k = P27_21004 x_3 x_21 m (fun x_2' m' => k .ret (only [2] [(.flat (.int .i64 x_2'))]) m') (fun m' => k .normal (only [] []) m') := by
  kernel_rfl

theorem pok27_21004 : PieceOK Tryz.prog E27 Lam27 (((secsOf (bodyOf Tryz.f27)).filter Lam27.cut).getD 5 .skip) := by
  refine ⟨fun σ => ∃ x_3 x_21, σ 3 = .flat (.int .i64 x_3) ∧ σ 21 = .flat (.bool x_21), [3, 21], lxp27_21004, fun σ m k => ?_⟩
  have e : Lam27.piece (((secsOf (bodyOf Tryz.f27)).filter Lam27.cut).getD 5 .skip) σ m k = LamP27_21004 σ m k := by kernel_rfl
  rw [e]
  constructor
  · intro h
    unfold LamP27_21004 at h
    obtain ⟨x_3, h0, h⟩ := kI_ok h
    obtain ⟨x_21, h1, h⟩ := kbool_ok h
    refine ⟨⟨x_3, x_21, h0, h1⟩, ?_⟩
    have ev : [3, 21].map σ = [(.flat (.int .i64 x_3)), (.flat (.bool x_21))] := by simp only [List.map_cons, List.map_nil, h0, h1]
    rw [ev, pc27_21004]
    exact h
  · rintro ⟨⟨x_3, x_21, h0, h1⟩, h⟩
    have ev : [3, 21].map σ = [(.flat (.int .i64 x_3)), (.flat (.bool x_21))] := by simp only [List.map_cons, List.map_nil, h0, h1]
    rw [ev, pc27_21004] at h
    unfold LamP27_21004
    try simp only [h0, h1, kI, kbool, kS, kptr, kaggN, kite, decide_true, eq_self]
    exact h

def lxp27_18004 : Ex → List Nat := fun e => match e with
  | .ret => [2]
  | .normal => []
  | _ => []

theorem pc27_18004 (x_3 : Int) (x_18 : Bool) (m : Mem) (k : KX) : once Tryz.prog E27 Lam27 [3, 18] lxp27_18004 (((secsOf (bodyOf Tryz.f27)).filter Lam27.cut).getD 4 .skip) [(.flat (.int .i64 x_3)), (.flat (.bool x_18))] m k = P27_18004 x_3 x_18 m (fun x_2' m' => k .ret (only [2] [(.flat (.int .i64 x_2'))]) m') (fun m' => k .normal (only [] []) m') := by
  kernel_rfl

theorem pok27_18004 : PieceOK Tryz.prog E27 Lam27 (((secsOf (bodyOf Tryz.f27)).filter Lam27.cut).getD 4 .skip) := by
  refine ⟨fun σ => ∃ x_3 x_18, σ 3 = .flat (.int .i64 x_3) ∧ σ 18 = .flat (.bool x_18), [3, 18], lxp27_18004, fun σ m k => ?_⟩
  have e : Lam27.piece (((secsOf (bodyOf Tryz.f27)).filter Lam27.cut).getD 4 .skip) σ m k = LamP27_18004 σ m k := by kernel_rfl
  rw [e]
  constructor
  · intro h
    unfold LamP27_18004 at h
    obtain ⟨x_3, h0, h⟩ := kI_ok h
    obtain ⟨x_18, h1, h⟩ := kbool_ok h
    refine ⟨⟨x_3, x_18, h0, h1⟩, ?_⟩
    have ev : [3, 18].map σ = [(.flat (.int .i64 x_3)), (.flat (.bool x_18))] := by simp only [List.map_cons, List.map_nil, h0, h1]
    rw [ev, pc27_18004]
    exact h
  · rintro ⟨⟨x_3, x_18, h0, h1⟩, h⟩
    have ev : [3, 18].map σ = [(.flat (.int .i64 x_3)), (.flat (.bool x_18))] := by simp only [List.map_cons, List.map_nil, h0, h1]
    rw [ev, pc27_18004] at h
    unfold LamP27_18004
    try simp only [h0, h1, kI, kbool, kS, kptr, kaggN, kite, decide_true, eq_self]
    exact h

def lxp27_13004 : Ex → List Nat := fun e => match e with
  | .ret => [2]
  | .normal => []
  | _ => []

theorem pc27_13004 (x_3 : Int) (x_13 : Bool) (m : Mem) (k : KX) : once Tryz.prog E27 Lam27 [3, 13] lxp27_13004 (((secsOf (bodyOf Tryz.f27)).filter Lam27.cut).getD 3 .skip) [(.flat (.int .i64 x_3)), (.flat (.bool x_13))] m k = P27_13004 x_3 x_13 m (fun x_2' m' => k .ret (only [2] [(.flat (.int .i64 x_2'))]) m') (fun m' => k .normal (only [] []) m') := by
  kernel_rfl

theorem pok27_13004 : PieceOK Tryz.prog E27 Lam27 (((secsOf (bodyOf Tryz.f27)).filter Lam27.cut).getD 3 .skip) := by
  refine ⟨fun σ => ∃ x_3 x_13, σ 3 = .flat (.int .i64 x_3) ∧ σ 13 = .flat (.bool x_13), [3, 13], lxp27_13004, fun σ m k => ?_⟩
  have e : Lam27.piece (((secsOf (bodyOf Tryz.f27)).filter Lam27.cut).getD 3 .skip) σ m k = LamP27_13004 σ m k := by kernel_rfl
  rw [e]
  constructor
  · intro h
    unfold LamP27_13004 at h
    obtain ⟨x_3, h0, h⟩ := kI_ok h
    obtain ⟨x_13, h1, h⟩ := kbool_ok h
    refine ⟨⟨x_3, x_13, h0, h1⟩, ?_⟩
    have ev : [3, 13].map σ = [(.flat (.int .i64 x_3)), (.flat (.bool x_13))] := by simp only [List.map_cons, List.map_nil, h0, h1]
    rw [ev, pc27_13004]
    exact h
  · rintro ⟨⟨x_3, x_13, h0, h1⟩, h⟩
    have ev : [3, 13].map σ = [(.flat (.int .i64 x_3)), (.flat (.bool x_13))] := by simp only [List.map_cons, List.map_nil, h0, h1]
    rw [ev, pc27_13004] at h
    unfold LamP27_13004
    try simp only [h0, h1, kI, kbool, kS, kptr, kaggN, kite, decide_true, eq_self]
    exact h

def lxp27_10004 : Ex → List Nat := fun e => match e with
  | .ret => [2]
  | .normal => []
  | _ => []

theorem pc27_10004 (x_3 : Int) (x_10 : Bool) (m : Mem) (k : KX) : once Tryz.prog E27 Lam27 [3, 10] lxp27_10004 (((secsOf (bodyOf Tryz.f27)).filter Lam27.cut).getD 2 .skip) [(.flat (.int .i64 x_3)), (.flat (.bool x_10))] m k = P27_10004 x_3 x_10 m (fun x_2' m' => k .ret (only [2] [(.flat (.int .i64 x_2'))]) m') (fun m' => k .normal (only [] []) m') := by
  kernel_rfl

theorem pok27_10004 : PieceOK Tryz.prog E27 Lam27 (((secsOf (bodyOf Tryz.f27)).filter Lam27.cut).getD 2 .skip) := by
  refine ⟨fun σ => ∃ x_3 x_10, σ 3 = .flat (.int .i64 x_3) ∧ σ 10 = .flat (.bool x_10), [3, 10], lxp27_10004, fun σ m k => ?_⟩
  have e : Lam27.piece (((secsOf (bodyOf Tryz.f27)).filter Lam27.cut).getD 2 .skip) σ m k = LamP27_10004 σ m k := by kernel_rfl
  rw [e]
  constructor
  · intro h
    unfold LamP27_10004 at h
    obtain ⟨x_3, h0, h⟩ := kI_ok h
    obtain ⟨x_10, h1, h⟩ := kbool_ok h
    refine ⟨⟨x_3, x_10, h0, h1⟩, ?_⟩
    have ev : [3, 10].map σ = [(.flat (.int .i64 x_3)), (.flat (.bool x_10))] := by simp only [List.map_cons, List.map_nil, h0, h1]
    rw [ev, pc27_10004]
    exact h
  · rintro ⟨⟨x_3, x_10, h0, h1⟩, h⟩
    have ev : [3, 10].map σ = [(.flat (.int .i64 x_3)), (.flat (.bool x_10))] := by simp only [List.map_cons, List.map_nil, h0, h1]
    rw [ev, pc27_10004] at h
    unfold LamP27_10004
    try simp only [h0, h1, kI, kbool, kS, kptr, kaggN, kite, decide_true, eq_self]
    exact h

def lxp27_7004 : Ex → List Nat := fun e => match e with
  | .ret => [2]
  | .normal => []
  | _ => []

theorem pc27_7004 (x_3 : Int) (x_7 : Bool) (m : Mem) (k : KX) : once Tryz.prog E27 Lam27 [3, 7] lxp27_7004 (((secsOf (bodyOf Tryz.f27)).filter Lam27.cut).getD 1 .skip) [(.flat (.int .i64 x_3)), (.flat (.bool x_7))] m k = P27_7004 x_3 x_7 m (fun x_2' m' => k .ret (only [2] [(.flat (.int .i64 x_2'))]) m') (fun m' => k .normal (only [] []) m') := by
  kernel_rfl

theorem pok27_7004 : PieceOK Tryz.prog E27 Lam27 (((secsOf (bodyOf Tryz.f27)).filter Lam27.cut).getD 1 .skip) := by
  refine ⟨fun σ => ∃ x_3 x_7, σ 3 = .flat (.int .i64 x_3) ∧ σ 7 = .flat (.bool x_7), [3, 7], lxp27_7004, fun σ m k => ?_⟩
  have e : Lam27.piece (((secsOf (bodyOf Tryz.f27)).filter Lam27.cut).getD 1 .skip) σ m k = LamP27_7004 σ m k := by kernel_rfl
  rw [e]
  constructor
  · intro h
    unfold LamP27_7004 at h
    obtain ⟨x_3, h0, h⟩ := kI_ok h
    obtain ⟨x_7, h1, h⟩ := kbool_ok h
    refine ⟨⟨x_3, x_7, h0, h1⟩, ?_⟩
    have ev : [3, 7].map σ = [(.flat (.int .i64 x_3)), (.flat (.bool x_7))] := by simp only [List.map_cons, List.map_nil, h0, h1]
    rw [ev, pc27_7004]
    exact h
  · rintro ⟨⟨x_3, x_7, h0, h1⟩, h⟩
    have ev : [3, 7].map σ = [(.flat (.int .i64 x_3)), (.flat (.bool x_7))] := by simp only [List.map_cons, List.map_nil, h0, h1]
    rw [ev, pc27_7004] at h
    unfold LamP27_7004
    try simp only [h0, h1, kI, kbool, kS, kptr, kaggN, kite, decide_true, eq_self]
    exact h

def lxp27_4004 : Ex → List Nat := fun e => match e with
  | .ret => [2]
  | .normal => []
  | _ => []

theorem pc27_4004 (x_3 : Int) (x_4 : Bool) (m : Mem) (k : KX) : once Tryz.prog E27 Lam27 [3, 4] lxp27_4004 (((secsOf (bodyOf Tryz.f27)).filter Lam27.cut).getD 0 .skip) [(.flat (.int .i64 x_3)), (.flat (.bool x_4))] m k = P27_4004 x_3 x_4 m (fun x_2' m' => k .ret (only [2] [(.flat (.int .i64 x_2'))]) m') (fun m' => k .normal (only [] []) m') := by
  kernel_rfl

theorem pok27_4004 : PieceOK Tryz.prog E27 Lam27 (((secsOf (bodyOf Tryz.f27)).filter Lam27.cut).getD 0 .skip) := by
  refine ⟨fun σ => ∃ x_3 x_4, σ 3 = .flat (.int .i64 x_3) ∧ σ 4 = .flat (.bool x_4), [3, 4], lxp27_4004, fun σ m k => ?_⟩
  have e : Lam27.piece (((secsOf (bodyOf Tryz.f27)).filter Lam27.cut).getD 0 .skip) σ m k = LamP27_4004 σ m k := by kernel_rfl
  rw [e]
  constructor
  · intro h
    unfold LamP27_4004 at h
    obtain ⟨x_3, h0, h⟩ := kI_ok h
    obtain ⟨x_4, h1, h⟩ := kbool_ok h
    refine ⟨⟨x_3, x_4, h0, h1⟩, ?_⟩
    have ev : [3, 4].map σ = [(.flat (.int .i64 x_3)), (.flat (.bool x_4))] := by simp only [List.map_cons, List.map_nil, h0, h1]
    rw [ev, pc27_4004]
    exact h
  · rintro ⟨⟨x_3, x_4, h0, h1⟩, h⟩
    have ev : [3, 4].map σ = [(.flat (.int .i64 x_3)), (.flat (.bool x_4))] := by simp only [List.map_cons, List.map_nil, h0, h1]
    rw [ev, pc27_4004] at h
    unfold LamP27_4004
    try simp only [h0, h1, kI, kbool, kS, kptr, kaggN, kite, decide_true, eq_self]
    exact h

theorem eqn27 (x_0 : Int) (m : Mem) (k : KV) : bodyK Tryz.prog E27 Lam27 Tryz.f27 true [(.flat (.int .i64 x_0))] m k = F27 x_0 m (fun x_1000 m' => k (.flat (.int .i64 x_1000)) m') := by
  kernel_rfl

theorem fs27 (w0 : World) : FS Tryz.prog w0 27 G27 := by
  refine (fs_body (Γ := E27) (sound_env (l := []) w0 (by
    intro p hp
    cases hp)) (by kernel_rfl) Tryz.func27 (Λ := Lam27) (c := (bodyOf Tryz.f27)) (by kernel_rfl) Tryz.call27 (by kernel_rfl) (LS_of (bodyOf Tryz.f27) 0 (by kernel_rfl) (fun i hi => absurd hi (Nat.not_lt_zero i)) 9 (by kernel_rfl) (by
    intro i hi
    match i, hi with
    | 0, _ => exact pok27_4004
    | 1, _ => exact pok27_7004
    | 2, _ => exact pok27_10004
    | 3, _ => exact pok27_13004
    | 4, _ => exact pok27_18004
    | 5, _ => exact pok27_21004
    | 6, _ => exact pok27_24004
    | 7, _ => exact pok27_29004
    | 8, _ => exact pok27_32004
    | i + 9, hi => omega)) true (np := 1) (Nat.le_of_ble_eq_true (by kernel_rfl))).imp fun args => ?_
  by_cases hl : args.length = 1
  rotate_left
  · exact .inr fun m k hk => by
      unfold G27 at hk
      split at hk
      · exact hl rfl
      · exact hk
  obtain ⟨a0, rfl⟩ : ∃ a0, args = [a0] := len_list1 hl
  rcases kI_or .i64 a0 with ⟨x_0, rfl⟩ | h
  rotate_left
  · exact .inr fun m k hk => h _ (by simpa only [G27, kI, kbool, kS, kptr, kaggN, kite, decide_true, eq_self] using hk)
  exact .inl fun m k => propext ⟨fun h => ⟨rfl, by rw [eqn27]; simpa only [G27, kI, kbool, kS, kptr, kaggN, kite, decide_true, eq_self] using h⟩, fun h => by have h := h.2; rw [eqn27] at h; simpa only [G27, kI, kbool, kS, kptr, kaggN, kite, decide_true, eq_self] using h⟩

def E55 : Env := envOf []

/-- pianola/alu.Is -/
def F55 (x_0 : Int) (m : Mem) (k : Bool → Mem → Prop) : Prop :=
  kif (decide (x_0 ≥ 1)) (kif (decide (x_0 ≤ 6)) ((Keeps m m ∧ k true m)) (kif (decide (x_0 ≥ 22)) (kif (decide (x_0 ≤ 31)) ((Keeps m m ∧ k true m)) (kif (decide (x_0 ≥ 46)) (kif (decide (x_0 ≤ 53)) ((Keeps m m ∧ k true m)) (kif (decide (x_0 ≥ 63)) ((Keeps m m ∧ k (decide (x_0 ≤ 65)) m)) ((Keeps m m ∧ k false m)))) (kif (decide (x_0 ≥ 63)) ((Keeps m m ∧ k (decide (x_0 ≤ 65)) m)) ((Keeps m m ∧ k false m))))) (kif (decide (x_0 ≥ 46)) (kif (decide (x_0 ≤ 53)) ((Keeps m m ∧ k true m)) (kif (decide (x_0 ≥ 63)) ((Keeps m m ∧ k (decide (x_0 ≤ 65)) m)) ((Keeps m m ∧ k false m)))) (kif (decide (x_0 ≥ 63)) ((Keeps m m ∧ k (decide (x_0 ≤ 65)) m)) ((Keeps m m ∧ k false m)))))) (kif (decide (x_0 ≥ 22)) (kif (decide (x_0 ≤ 31)) ((Keeps m m ∧ k true m)) (kif (decide (x_0 ≥ 46)) (kif (decide (x_0 ≤ 53)) ((Keeps m m ∧ k true m)) (kif (decide (x_0 ≥ 63)) ((Keeps m m ∧ k (decide (x_0 ≤ 65)) m)) ((Keeps m m ∧ k false m)))) (kif (decide (x_0 ≥ 63)) ((Keeps m m ∧ k (decide (x_0 ≤ 65)) m)) ((Keeps m m ∧ k false m))))) (kif (decide (x_0 ≥ 46)) (kif (decide (x_0 ≤ 53)) ((Keeps m m ∧ k true m)) (kif (decide (x_0 ≥ 63)) ((Keeps m m ∧ k (decide (x_0 ≤ 65)) m)) ((Keeps m m ∧ k false m)))) (kif (decide (x_0 ≥ 63)) ((Keeps m m ∧ k (decide (x_0 ≤ 65)) m)) ((Keeps m m ∧ k false m)))))

def G55 (args : List AV) (m : Mem) (k : KV) : Prop := match args with
  | [a0] => kI .i64 a0 fun x_0 => F55 x_0 m (fun x_1000 m' => k (.flat (.bool x_1000)) m')
  | _ => False

def Lam55 : LEnv := ⟨fun a σ m k => match firstReg a with
  | _ => bump False,
  fun id => match id with
  | _ => bump false,
  fun b => match keyC b with
  | _ => bump false,
  fun b σ m k => match keyC b with
  | _ => bump False⟩

theorem eqn55 (x_0 : Int) (m : Mem) (k : KV) : bodyK Tryz.prog E55 Lam55 Tryz.f55 true [(.flat (.int .i64 x_0))] m k = F55 x_0 m (fun x_1000 m' => k (.flat (.bool x_1000)) m') := by
  kernel_rfl

theorem fs55 (w0 : World) : FS Tryz.prog w0 55 G55 := by
  refine (fs_body (Γ := E55) (sound_env (l := []) w0 (by
    intro p hp
    cases hp)) (by kernel_rfl) Tryz.func55 (Λ := Lam55) (c := (bodyOf Tryz.f55)) (by kernel_rfl) Tryz.call55 (by kernel_rfl) (LS_of (bodyOf Tryz.f55) 0 (by kernel_rfl) (fun i hi => absurd hi (Nat.not_lt_zero i)) 0 (by kernel_rfl) (fun i hi => absurd hi (Nat.not_lt_zero i))) true (np := 1) (Nat.le_of_ble_eq_true (by kernel_rfl))).imp fun args => ?_
  by_cases hl : args.length = 1
  rotate_left
  · exact .inr fun m k hk => by
      unfold G55 at hk
      split at hk
      · exact hl rfl
      · exact hk
  obtain ⟨a0, rfl⟩ : ∃ a0, args = [a0] := len_list1 hl
  rcases kI_or .i64 a0 with ⟨x_0, rfl⟩ | h
  rotate_left
  · exact .inr fun m k hk => h _ (by simpa only [G55, kI, kbool, kS, kptr, kaggN, kite, decide_true, eq_self] using hk)
  exact .inl fun m k => propext ⟨fun h => ⟨rfl, by rw [eqn55]; simpa only [G55, kI, kbool, kS, kptr, kaggN, kite, decide_true, eq_self] using h⟩, fun h => by have h := h.2; rw [eqn55] at h; simpa only [G55, kI, kbool, kS, kptr, kaggN, kite, decide_true, eq_self] using h⟩

def E28 : Env := envOf [(55, G55)]

/-- pianola/alu.Into -/
def F28 (c_0 : Nat → AV) (m : Mem) (k : Int → Mem → Prop) : Prop :=
  newK m ⟨6, c_0, 25, false⟩ fun b2 m1 => ldI .i64 m1 b2 0 fun x3 => F55 x3 m1 fun x4 m5 => kif (!x4) ((Keeps m m5 ∧ k 0 m)) (ldI .i64 m5 b2 0 fun x6 => kif (decide (x6 ≥ 46)) (ldI .i64 m5 b2 0 fun x7 => kif (decide (x7 ≤ 53)) (ldI .i64 m5 b2 2 fun x8 => (Keeps m m5 ∧ k x8 m)) (ldI .i64 m5 b2 3 fun x9 => (Keeps m m5 ∧ k x9 m))) (ldI .i64 m5 b2 3 fun x10 => (Keeps m m5 ∧ k x10 m)))

def G28 (args : List AV) (m : Mem) (k : KV) : Prop := match args with
  | [a0] => kaggN 6 a0 fun c_0 => F28 c_0 m (fun x_1000 m' => k (.flat (.int .i64 x_1000)) m')
  | _ => False

def Lam28 : LEnv := ⟨fun a σ m k => match firstReg a with
  | _ => bump False,
  fun id => match id with
  | _ => bump false,
  fun b => match keyC b with
  | _ => bump false,
  fun b σ m k => match keyC b with
  | _ => bump False⟩

theorem eqn28 (c_0 : Nat → AV) (m : Mem) (k : KV) : bodyK Tryz.prog E28 Lam28 Tryz.f28 true [(.agg 6 c_0)] m k = F28 c_0 m (fun x_1000 m' => k (.flat (.int .i64 x_1000)) m') := by
  kernel_rfl

theorem fs28 (w0 : World) : FS Tryz.prog w0 28 G28 := by
  refine (fs_body (Γ := E28) (sound_env (l := [(55, G55)]) w0 (by
    intro p hp
    simp only [List.mem_cons, List.not_mem_nil, or_false] at hp
    rcases hp with rfl
    · exact fs55 w0)) (by kernel_rfl) Tryz.func28 (Λ := Lam28) (c := (bodyOf Tryz.f28)) (by kernel_rfl) Tryz.call28 (by kernel_rfl) (LS_of (bodyOf Tryz.f28) 0 (by kernel_rfl) (fun i hi => absurd hi (Nat.not_lt_zero i)) 0 (by kernel_rfl) (fun i hi => absurd hi (Nat.not_lt_zero i))) true (np := 1) (Nat.le_of_ble_eq_true (by kernel_rfl))).imp fun args => ?_
  by_cases hl : args.length = 1
  rotate_left
  · exact .inr fun m k hk => by
      unfold G28 at hk
      split at hk
      · exact hl rfl
      · exact hk
  obtain ⟨a0, rfl⟩ : ∃ a0, args = [a0] := len_list1 hl
  rcases kaggN_or 6 a0 with ⟨c_0, rfl⟩ | h
  rotate_left
  · exact .inr fun m k hk => h _ (by simpa only [G28, kI, kbool, kS, kptr, kaggN, kite, decide_true, eq_self] using hk)
  exact .inl fun m k => propext ⟨fun h => ⟨rfl, by rw [eqn28]; simpa only [G28, kI, kbool, kS, kptr, kaggN, kite, decide_true, eq_self] using h⟩, fun h => by have h := h.2; rw [eqn28] at h; simpa only [G28, kI, kbool, kS, kptr, kaggN, kite, decide_true, eq_self] using h⟩

def E89 : Env := envOf []

/-- pianola/word.Sar -/
def F89 (x_0 : Int) (x_1 : Int) (m : Mem) (k : Int → Mem → Prop) : Prop :=
  kif (decide (bits .and .i64 x_1 31 < 0)) False ((Keeps m m ∧ k (IntKind.wrap .u32 ((IntKind.wrap .i32 x_0).fdiv (2 ^ min (bits .and .i64 x_1 31).toNat 32))) m))

def G89 (args : List AV) (m : Mem) (k : KV) : Prop := match args with
  | [a0, a1] => kI .u32 a0 fun x_0 => kI .i64 a1 fun x_1 => F89 x_0 x_1 m (fun x_1000 m' => k (.flat (.int .u32 x_1000)) m')
  | _ => False

def Lam89 : LEnv := ⟨fun a σ m k => match firstReg a with
  | _ => bump False,
  fun id => match id with
  | _ => bump false,
  fun b => match keyC b with
  | _ => bump false,
  fun b σ m k => match keyC b with
  | _ => bump False⟩

theorem eqn89 (x_0 : Int) (x_1 : Int) (m : Mem) (k : KV) : bodyK Tryz.prog E89 Lam89 Tryz.f89 true [(.flat (.int .u32 x_0)), (.flat (.int .i64 x_1))] m k = F89 x_0 x_1 m (fun x_1000 m' => k (.flat (.int .u32 x_1000)) m') := by
  kernel_rfl

theorem fs89 (w0 : World) : FS Tryz.prog w0 89 G89 := by
  refine (fs_body (Γ := E89) (sound_env (l := []) w0 (by
    intro p hp
    cases hp)) (by kernel_rfl) Tryz.func89 (Λ := Lam89) (c := (bodyOf Tryz.f89)) (by kernel_rfl) Tryz.call89 (by kernel_rfl) (LS_of (bodyOf Tryz.f89) 0 (by kernel_rfl) (fun i hi => absurd hi (Nat.not_lt_zero i)) 0 (by kernel_rfl) (fun i hi => absurd hi (Nat.not_lt_zero i))) true (np := 2) (Nat.le_of_ble_eq_true (by kernel_rfl))).imp fun args => ?_
  by_cases hl : args.length = 2
  rotate_left
  · exact .inr fun m k hk => by
      unfold G89 at hk
      split at hk
      · exact hl rfl
      · exact hk
  obtain ⟨a0, a1, rfl⟩ : ∃ a0 a1, args = [a0, a1] := len_list2 hl
  rcases kI_or .u32 a0 with ⟨x_0, rfl⟩ | h
  rotate_left
  · exact .inr fun m k hk => h _ (by simpa only [G89, kI, kbool, kS, kptr, kaggN, kite, decide_true, eq_self] using hk)
  rcases kI_or .i64 a1 with ⟨x_1, rfl⟩ | h
  rotate_left
  · exact .inr fun m k hk => h _ (by simpa only [G89, kI, kbool, kS, kptr, kaggN, kite, decide_true, eq_self] using hk)
  exact .inl fun m k => propext ⟨fun h => ⟨rfl, by rw [eqn89]; simpa only [G89, kI, kbool, kS, kptr, kaggN, kite, decide_true, eq_self] using h⟩, fun h => by have h := h.2; rw [eqn89] at h; simpa only [G89, kI, kbool, kS, kptr, kaggN, kite, decide_true, eq_self] using h⟩

end Go.Proofs.YtkgidjnaddjjbaaGreat.Am
