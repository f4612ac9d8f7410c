/- What Go functions ask of what follows them, as plain functions over the abstract machine; the machine asks just that. Written by gen.py. -/
import Derived.Test.YtmhlljnnpoegbaaProg
import Derived.Test.YtmhlljnnpoegbaaAmL
import Derived.Test.YtmhlljnnpoegbaaM2
namespace Go.Proofs.Ytmhlljnnpoegbaa.Am
set_option linter.unusedVariables false
set_option linter.unusedSimpArgs false
set_option maxRecDepth 100000

/-- pianola/pianolakeep.Plain -/
def F21 (c_0 : Nat → AV) (m : Mem) (k : (Nat → AV) → Mem → Prop) : Prop :=
  newK m ⟨7, c_0, 31, false⟩ fun b2 m1 => newK m1 ⟨6, Z6, 27, false⟩ fun b4 m3 => newK m3 ⟨37, upd (upd (upd (upd (upd (upd (upd (upd (upd (upd (upd (upd (upd (upd (upd (upd (upd (upd (upd (upd (upd (upd (upd (upd (upd (upd (upd (upd (upd (upd (upd (upd (upd (upd (upd (upd (upd (Z37) 0 (.flat (.int .i64 1))) 1 (.flat (.int .i64 2))) 2 (.flat (.int .i64 3))) 3 (.flat (.int .i64 4))) 4 (.flat (.int .i64 5))) 5 (.flat (.int .i64 6))) 6 (.flat (.int .i64 9))) 7 (.flat (.int .i64 10))) 8 (.flat (.int .i64 13))) 9 (.flat (.int .i64 14))) 10 (.flat (.int .i64 15))) 11 (.flat (.int .i64 16))) 12 (.flat (.int .i64 17))) 13 (.flat (.int .i64 18))) 14 (.flat (.int .i64 19))) 15 (.flat (.int .i64 20))) 16 (.flat (.int .i64 21))) 17 (.flat (.int .i64 23))) 18 (.flat (.int .i64 25))) 19 (.flat (.int .i64 26))) 20 (.flat (.int .i64 27))) 21 (.flat (.int .i64 28))) 22 (.flat (.int .i64 29))) 23 (.flat (.int .i64 30))) 24 (.flat (.int .i64 31))) 25 (.flat (.int .i64 47))) 26 (.flat (.int .i64 48))) 27 (.flat (.int .i64 49))) 28 (.flat (.int .i64 50))) 29 (.flat (.int .i64 51))) 30 (.flat (.int .i64 52))) 31 (.flat (.int .i64 53))) 32 (.flat (.int .i64 63))) 33 (.flat (.int .i64 64))) 34 (.flat (.int .i64 65))) 35 (.flat (.int .i64 76))) 36 (.flat (.int .i64 77)), 3, false⟩ fun b6 m5 => ∃ Fr7 : Nat → Prop, Fr7 b2 ∧ (ldG 7 m5 b2 0 fun c8 => Fr7 b2 ∧ (ldI .i64 m5 b2 0 fun x9 => F20 x9 0 1048576 m5 fun x10 m11 => KeepsIn Fr7 m5 m11 ∧ (kif (decide (0 ≤ x10.tmod 37) && decide (x10.tmod 37 < 37)) (Fr7 b6 ∧ (ldI .i64 m11 b6 (0 + (x10.tmod 37).toNat * 1) fun x12 => F22 c8 x12 m11 fun c13 m14 => KeepsIn Fr7 m11 m14 ∧ (stG 6 m14 b4 0 c13 fun m15 => ldG 6 m15 b4 0 fun c16 => (Keeps m m15 ∧ InDomG 6 m c16 ∧ k c16 m)))) False)))

def G21 (args : List AV) (m : Mem) (k : KV) : Prop := match args with
  | [a0] => kaggN 7 a0 fun c_0 => F21 c_0 m (fun c_1000 m' => k (.agg 6 c_1000) m')
  | _ => False

def E21 : Env := envOf [(20, G20), (22, G22)]

def Lam21 : LEnv := ⟨fun a σ m k => match firstReg a with
  | _ => bump False,
  fun id => match id with
  | 2 => true
  | _ => bump false,
  fun b => match keyC b with
  | _ => bump false,
  fun b σ m k => match keyC b with
  | _ => bump False⟩

theorem eqn21 (c_0 : Nat → AV) (m : Mem) (k : KV) : bodyK Try.prog E21 Lam21 Try.f21 true [(.agg 7 c_0)] m k = F21 c_0 m (fun c_1000 m' => k (.agg 6 c_1000) m') := by
  kernel_rfl

theorem fs21 (w0 : World) : FS Try.prog w0 21 G21 := by
  refine (fs_body (Γ := E21) (sound_env (l := [(20, G20), (22, G22)]) w0 (by
    intro p hp
    simp only [List.mem_cons, List.not_mem_nil, or_false] at hp
    rcases hp with rfl | rfl
    · exact fs20 w0
    · exact fs22 w0)) (by kernel_rfl) Try.func21 (Λ := Lam21) (c := (bodyOf Try.f21)) (by kernel_rfl) Try.call21 (by kernel_rfl) (LS_of (bodyOf Try.f21) 0 (by kernel_rfl) (fun i hi => absurd hi (Nat.not_lt_zero i)) 0 (by kernel_rfl) (fun i hi => absurd hi (Nat.not_lt_zero i))) true (np := 1) (Nat.le_of_ble_eq_true (by kernel_rfl))).imp fun args => ?_
  by_cases hl : args.length = 1
  rotate_left
  · exact .inr fun m k hk => by
      unfold G21 at hk
      split at hk
      · exact hl rfl
      · exact hk
  obtain ⟨a0, rfl⟩ : ∃ a0, args = [a0] := len_list1 hl
  rcases kaggN_or 7 a0 with ⟨c_0, rfl⟩ | h
  rotate_left
  · exact .inr fun m k hk => h _ (by simpa only [G21, kI, kbool, kS, kptr, kaggN, kite, decide_true, eq_self] using hk)
  exact .inl fun m k => propext ⟨fun h => ⟨rfl, by rw [eqn21]; simpa only [G21, kI, kbool, kS, kptr, kaggN, kite, decide_true, eq_self] using h⟩, fun h => by have h := h.2; rw [eqn21] at h; simpa only [G21, kI, kbool, kS, kptr, kaggN, kite, decide_true, eq_self] using h⟩

def P10_27102 (b_4 o_4 : Nat) (m : Mem) (kr : Int → Mem → Prop) : Prop :=
  ldG 6 m b_4 o_4 fun c66 => F18 c66 m fun x67 x68 m69 => kr x67 m69

def P10_26004 (b_1 o_1 : Nat) (b_4 o_4 : Nat) (x_93 : Bool) (m : Mem) (kn : Mem → Prop) : Prop :=
  kif x_93 (newK m ⟨8, upd (upd (upd (upd (upd (upd (upd (upd (Z8) 0 (.flat (.int .i64 12))) 1 (.flat (.int .i64 13))) 2 (.flat (.int .i64 11))) 3 (.flat (.int .i64 9))) 4 (.flat (.int .i64 10))) 5 (.flat (.int .i64 2))) 6 (.flat (.int .i64 0))) 7 (.flat (.int .i64 14)), 3, false⟩ fun b47 m46 => ldI .i64 m46 b_1 (o_1 + 3) fun x48 => kif (decide (0 ≤ bits .and .i64 x48 7) && decide (bits .and .i64 x48 7 < 8)) (ldI .i64 m46 b47 (0 + (bits .and .i64 x48 7).toNat * 1) fun x49 => stC m46 b_4 (o_4 + 3) (.flat (.int .i64 x49)) fun m50 => kn  m50) False) (kn  m)

def P10_19004 (b_1 o_1 : Nat) (x_3 : Int) (b_4 o_4 : Nat) (x_16 : Int) (x_51 : Bool) (m : Mem) (kn : Mem → Prop) : Prop :=
  kif x_51 (newK m ⟨8, upd (upd (upd (upd (upd (upd (upd (upd (Z8) 0 (.flat (.int .i64 42))) 1 (.flat (.int .i64 43))) 2 (.flat (.int .i64 44))) 3 (.flat (.int .i64 45))) 4 (.flat (.int .i64 36))) 5 (.flat (.int .i64 37))) 6 (.flat (.int .i64 39))) 7 (.flat (.int .i64 42)), 3, false⟩ fun b29 m28 => ldG 7 m28 b_1 o_1 fun c30 => kif (decide (0 ≤ (IntKind.wrap .i64 (x_3.tdiv 16)).tmod 8) && decide ((IntKind.wrap .i64 (x_3.tdiv 16)).tmod 8 < 8)) (ldI .i64 m28 b29 (0 + ((IntKind.wrap .i64 (x_3.tdiv 16)).tmod 8).toNat * 1) fun x31 => F22 c30 x31 m28 fun c32 m33 => stG 6 m33 b_4 o_4 c32 fun m34 => ldI .u32 m34 b_1 (o_1 + 5) fun x35 => stC m34 b_4 (o_4 + 5) (.flat (.int .u32 (bits .and .u32 (IntKind.wrap .u32 (IntKind.wrap .i32 ((IntKind.wrap .i32 (x35.tmod 16)) - 6))) 65535))) fun m36 => kn  m36) False) (kif (x_16 == 9) (newK m ⟨10, upd (upd (upd (upd (upd (upd (upd (upd (upd (upd (Z10) 0 (.flat (.int .i64 55))) 1 (.flat (.int .i64 54))) 2 (.flat (.int .i64 55))) 3 (.flat (.int .i64 57))) 4 (.flat (.int .i64 59))) 5 (.flat (.int .i64 56))) 6 (.flat (.int .i64 58))) 7 (.flat (.int .i64 60))) 8 (.flat (.int .i64 11))) 9 (.flat (.int .i64 61)), 3, false⟩ fun b38 m37 => ldG 7 m37 b_1 o_1 fun c39 => kif (decide (0 ≤ (IntKind.wrap .i64 (x_3.tdiv 16)).tmod 10) && decide ((IntKind.wrap .i64 (x_3.tdiv 16)).tmod 10 < 10)) (ldI .i64 m37 b38 (0 + ((IntKind.wrap .i64 (x_3.tdiv 16)).tmod 10).toNat * 1) fun x40 => F22 c39 x40 m37 fun c41 m42 => stG 6 m42 b_4 o_4 c41 fun m43 => ldI .i64 m43 b_4 (o_4 + 0) fun x44 => kif (x44 == 55) (P10_26004 b_1 o_1 b_4 o_4 true m43 (fun m51 => kn  m51)) (ldI .i64 m43 b_4 (o_4 + 0) fun x45 => P10_26004 b_1 o_1 b_4 o_4 (x45 == 54) m43 (fun m52 => kn  m52))) False) (kn  m))

def P10_13004 (b_1 o_1 : Nat) (x_3 : Int) (b_4 o_4 : Nat) (x_16 : Int) (x_27 : Bool) (m : Mem) (kn : Mem → Prop) : Prop :=
  kif x_27 (newK m ⟨12, upd (upd (upd (upd (upd (upd (upd (upd (upd (upd (upd (upd (Z12) 0 (.flat (.int .i64 66))) 1 (.flat (.int .i64 67))) 2 (.flat (.int .i64 68))) 3 (.flat (.int .i64 69))) 4 (.flat (.int .i64 70))) 5 (.flat (.int .i64 71))) 6 (.flat (.int .i64 72))) 7 (.flat (.int .i64 73))) 8 (.flat (.int .i64 74))) 9 (.flat (.int .i64 75))) 10 (.flat (.int .i64 73))) 11 (.flat (.int .i64 68)), 3, false⟩ fun b18 m17 => ldG 7 m17 b_1 o_1 fun c19 => kif (decide (0 ≤ (IntKind.wrap .i64 (x_3.tdiv 16)).tmod 12) && decide ((IntKind.wrap .i64 (x_3.tdiv 16)).tmod 12 < 12)) (ldI .i64 m17 b18 (0 + ((IntKind.wrap .i64 (x_3.tdiv 16)).tmod 12).toNat * 1) fun x20 => F22 c19 x20 m17 fun c21 m22 => stG 6 m22 b_4 o_4 c21 fun m23 => ldI .i64 m23 b_1 (o_1 + 1) fun x24 => stC m23 b_4 (o_4 + 1) (.flat (.int .i64 (IntKind.wrap .i64 (28 + (bits .and .i64 x24 3))))) fun m25 => ldI .u32 m25 b_4 (o_4 + 5) fun x26 => stC m25 b_4 (o_4 + 5) (.flat (.int .u32 (bits .and .u32 x26 2044))) fun m27 => kn  m27) False) (kif (x_16 == 7) (P10_19004 b_1 o_1 x_3 b_4 o_4 x_16 (x_16 == 7) m (fun m53 => kn  m53)) (P10_19004 b_1 o_1 x_3 b_4 o_4 x_16 (x_16 == 8) m (fun m54 => kn  m54)))

def P10_9004 (b_1 o_1 : Nat) (x_3 : Int) (b_4 o_4 : Nat) (x_16 : Int) (x_22 : Bool) (m : Mem) (kn : Mem → Prop) : Prop :=
  kif x_22 (ldG 7 m b_1 o_1 fun c13 => F11 c13 m fun c14 m15 => stG 6 m15 b_4 o_4 c14 fun m16 => kn  m16) (kif (x_16 == 4) (P10_13004 b_1 o_1 x_3 b_4 o_4 x_16 (x_16 == 4) m (fun m55 => kn  m55)) (kif (x_16 == 5) (P10_13004 b_1 o_1 x_3 b_4 o_4 x_16 (x_16 == 5) m (fun m56 => kn  m56)) (P10_13004 b_1 o_1 x_3 b_4 o_4 x_16 (x_16 == 6) m (fun m57 => kn  m57))))

def P10_6004 (b_1 o_1 : Nat) (x_3 : Int) (b_4 o_4 : Nat) (x_16 : Int) (x_17 : Bool) (m : Mem) (kr : Int → Mem → Prop) (kn : Mem → Prop) : Prop :=
  kif x_17 (ldI .u32 m b_1 (o_1 + 6) fun x12 => kr x12 m) (kif (x_16 == 2) (P10_9004 b_1 o_1 x_3 b_4 o_4 x_16 (x_16 == 2) m (fun m58 => kn  m58)) (P10_9004 b_1 o_1 x_3 b_4 o_4 x_16 (x_16 == 3) m (fun m59 => kn  m59)))

/-- pianola/pianolakeep.Code -/
def F10 (c_0 : Nat → AV) (m : Mem) (k : Int → Mem → Prop) : Prop :=
  newK m ⟨7, c_0, 31, false⟩ fun b2 m1 => ldI .i64 m1 b2 0 fun x3 => F20 x3 0 1048576 m1 fun x4 m5 => ldG 7 m5 b2 0 fun c6 => F21 c6 m5 fun c7 m8 => newK m8 ⟨6, Z6, 27, false⟩ fun b10 m9 => stG 6 m9 b10 0 c7 fun m11 => kif ((x4.tmod 16) == 0) (P10_6004 b2 0 x4 b10 0 (x4.tmod 16) ((x4.tmod 16) == 0) m11 (fun x60 m61 => (Keeps m m61 ∧ k x60 m)) (fun m62 => P10_27102 b10 0 m62 (fun x70 m71 => (Keeps m m71 ∧ k x70 m)))) (P10_6004 b2 0 x4 b10 0 (x4.tmod 16) ((x4.tmod 16) == 1) m11 (fun x63 m64 => (Keeps m m64 ∧ k x63 m)) (fun m65 => P10_27102 b10 0 m65 (fun x72 m73 => (Keeps m m73 ∧ k x72 m))))

def G10 (args : List AV) (m : Mem) (k : KV) : Prop := match args with
  | [a0] => kaggN 7 a0 fun c_0 => F10 c_0 m (fun x_1000 m' => k (.flat (.int .u32 x_1000)) m')
  | _ => False

def E10 : Env := envOf [(11, G11), (18, G18), (20, G20), (21, G21), (22, G22)]

def LamP10_6004 (σ : Nat → AV) (m : Mem) (k : KX) : Prop := kptr (σ 1) fun b_1 o_1 => kI .i64 (σ 3) fun x_3 => kptr (σ 4) fun b_4 o_4 => kI .i64 (σ 16) fun x_16 => kbool (σ 17) fun x_17 => P10_6004 b_1 o_1 x_3 b_4 o_4 x_16 x_17 m (fun x_2' m' => k .ret (only [2] [(.flat (.int .u32 x_2'))]) m') (fun m' => k .normal (only [4] [(.ptr b_4 o_4)]) m')

def LamP10_9004 (σ : Nat → AV) (m : Mem) (k : KX) : Prop := kptr (σ 1) fun b_1 o_1 => kI .i64 (σ 3) fun x_3 => kptr (σ 4) fun b_4 o_4 => kI .i64 (σ 16) fun x_16 => kbool (σ 22) fun x_22 => P10_9004 b_1 o_1 x_3 b_4 o_4 x_16 x_22 m (fun m' => k .normal (only [4] [(.ptr b_4 o_4)]) m')

def LamP10_13004 (σ : Nat → AV) (m : Mem) (k : KX) : Prop := kptr (σ 1) fun b_1 o_1 => kI .i64 (σ 3) fun x_3 => kptr (σ 4) fun b_4 o_4 => kI .i64 (σ 16) fun x_16 => kbool (σ 27) fun x_27 => P10_13004 b_1 o_1 x_3 b_4 o_4 x_16 x_27 m (fun m' => k .normal (only [4] [(.ptr b_4 o_4)]) m')

def LamP10_19004 (σ : Nat → AV) (m : Mem) (k : KX) : Prop := kptr (σ 1) fun b_1 o_1 => kI .i64 (σ 3) fun x_3 => kptr (σ 4) fun b_4 o_4 => kI .i64 (σ 16) fun x_16 => kbool (σ 51) fun x_51 => P10_19004 b_1 o_1 x_3 b_4 o_4 x_16 x_51 m (fun m' => k .normal (only [4] [(.ptr b_4 o_4)]) m')

def LamP10_26004 (σ : Nat → AV) (m : Mem) (k : KX) : Prop := kptr (σ 1) fun b_1 o_1 => kptr (σ 4) fun b_4 o_4 => kbool (σ 93) fun x_93 => P10_26004 b_1 o_1 b_4 o_4 x_93 m (fun m' => k .normal (only [4] [(.ptr b_4 o_4)]) m')

def LamP10_27102 (σ : Nat → AV) (m : Mem) (k : KX) : Prop := kptr (σ 4) fun b_4 o_4 => P10_27102 b_4 o_4 m (fun x_2' m' => k .ret (only [2] [(.flat (.int .u32 x_2'))]) m')

def Lam10 : LEnv := ⟨fun a σ m k => match firstReg a with
  | _ => bump False,
  fun id => match id with
  | _ => bump false,
  fun b => match keyC b with
  | some 6004 => true
  | some 9004 => true
  | some 13004 => true
  | some 19004 => true
  | some 26004 => true
  | some 27102 => true
  | _ => bump false,
  fun b σ m k => match keyC b with
  | some 6004 => LamP10_6004 σ m k
  | some 9004 => LamP10_9004 σ m k
  | some 13004 => LamP10_13004 σ m k
  | some 19004 => LamP10_19004 σ m k
  | some 26004 => LamP10_26004 σ m k
  | some 27102 => LamP10_27102 σ m k
  | _ => bump False⟩

def lxp10_27102 : Ex → List Nat := fun e => match e with
  | .ret => [2]
  | _ => []

theorem pc10_27102 (b_4 o_4 : Nat) (m : Mem) (k : KX) : once Try.prog E10 Lam10 [4] lxp10_27102 (((secsOf (bodyOf Try.f10)).filter Lam10.cut).getD 0 .skip) [(.ptr b_4 o_4)] m k = P10_27102 b_4 o_4 m (fun x_2' m' => k .ret (only [2] [(.flat (.int .u32 x_2'))]) m') := by
  kernel_rfl

theorem pok10_27102 : PieceOK Try.prog E10 Lam10 (((secsOf (bodyOf Try.f10)).filter Lam10.cut).getD 0 .skip) := by
  refine ⟨fun σ => ∃ b_4 o_4, σ 4 = .ptr b_4 o_4, [4], lxp10_27102, fun σ m k => ?_⟩
  have e : Lam10.piece (((secsOf (bodyOf Try.f10)).filter Lam10.cut).getD 0 .skip) σ m k = LamP10_27102 σ m k := by kernel_rfl
  rw [e]
  constructor
  · intro h
    unfold LamP10_27102 at h
    obtain ⟨b_4, o_4, h0, h⟩ := kptr_ok h
    refine ⟨⟨b_4, o_4, h0⟩, ?_⟩
    have ev : [4].map σ = [(.ptr b_4 o_4)] := by simp only [List.map_cons, List.map_nil, h0]
    rw [ev, pc10_27102]
    exact h
  · rintro ⟨⟨b_4, o_4, h0⟩, h⟩
    have ev : [4].map σ = [(.ptr b_4 o_4)] := by simp only [List.map_cons, List.map_nil, h0]
    rw [ev, pc10_27102] at h
    unfold LamP10_27102
    try simp only [h0, kI, kbool, kS, kptr, kaggN, kite, decide_true, eq_self]
    exact h

def lxp10_26004 : Ex → List Nat := fun e => match e with
  | .normal => [4]
  | _ => []

theorem pc10_26004 (b_1 o_1 : Nat) (b_4 o_4 : Nat) (x_93 : Bool) (m : Mem) (k : KX) : once Try.prog E10 Lam10 [1, 4, 93] lxp10_26004 (((secsOf (bodyOf Try.f10)).filter Lam10.cut).getD 5 .skip) [(.ptr b_1 o_1), (.ptr b_4 o_4), (.flat (.bool x_93))] m k = P10_26004 b_1 o_1 b_4 o_4 x_93 m (fun m' => k .normal (only [4] [(.ptr b_4 o_4)]) m') := by
  kernel_rfl

theorem pok10_26004 : PieceOK Try.prog E10 Lam10 (((secsOf (bodyOf Try.f10)).filter Lam10.cut).getD 5 .skip) := by
  refine ⟨fun σ => ∃ b_1 o_1 b_4 o_4 x_93, σ 1 = .ptr b_1 o_1 ∧ σ 4 = .ptr b_4 o_4 ∧ σ 93 = .flat (.bool x_93), [1, 4, 93], lxp10_26004, fun σ m k => ?_⟩
  have e : Lam10.piece (((secsOf (bodyOf Try.f10)).filter Lam10.cut).getD 5 .skip) σ m k = LamP10_26004 σ m k := by kernel_rfl
  rw [e]
  constructor
  · intro h
    unfold LamP10_26004 at h
    obtain ⟨b_1, o_1, h0, h⟩ := kptr_ok h
    obtain ⟨b_4, o_4, h1, h⟩ := kptr_ok h
    obtain ⟨x_93, h2, h⟩ := kbool_ok h
    refine ⟨⟨b_1, o_1, b_4, o_4, x_93, h0, h1, h2⟩, ?_⟩
    have ev : [1, 4, 93].map σ = [(.ptr b_1 o_1), (.ptr b_4 o_4), (.flat (.bool x_93))] := by simp only [List.map_cons, List.map_nil, h0, h1, h2]
    rw [ev, pc10_26004]
    exact h
  · rintro ⟨⟨b_1, o_1, b_4, o_4, x_93, h0, h1, h2⟩, h⟩
    have ev : [1, 4, 93].map σ = [(.ptr b_1 o_1), (.ptr b_4 o_4), (.flat (.bool x_93))] := by simp only [List.map_cons, List.map_nil, h0, h1, h2]
    rw [ev, pc10_26004] at h
    unfold LamP10_26004
    try simp only [h0, h1, h2, kI, kbool, kS, kptr, kaggN, kite, decide_true, eq_self]
    exact h

def lxp10_19004 : Ex → List Nat := fun e => match e with
  | .normal => [4]
  | _ => []

theorem pc10_19004 (b_1 o_1 : Nat) (x_3 : Int) (b_4 o_4 : Nat) (x_16 : Int) (x_51 : Bool) (m : Mem) (k : KX) : once Try.prog E10 Lam10 [1, 3, 4, 16, 51] lxp10_19004 (((secsOf (bodyOf Try.f10)).filter Lam10.cut).getD 4 .skip) [(.ptr b_1 o_1), (.flat (.int .i64 x_3)), (.ptr b_4 o_4), (.flat (.int .i64 x_16)), (.flat (.bool x_51))] m k = P10_19004 b_1 o_1 x_3 b_4 o_4 x_16 x_51 m (fun m' => k .normal (only [4] [(.ptr b_4 o_4)]) m') := by
  kernel_rfl

theorem pok10_19004 : PieceOK Try.prog E10 Lam10 (((secsOf (bodyOf Try.f10)).filter Lam10.cut).getD 4 .skip) := by
  refine ⟨fun σ => ∃ b_1 o_1 x_3 b_4 o_4 x_16 x_51, σ 1 = .ptr b_1 o_1 ∧ σ 3 = .flat (.int .i64 x_3) ∧ σ 4 = .ptr b_4 o_4 ∧ σ 16 = .flat (.int .i64 x_16) ∧ σ 51 = .flat (.bool x_51), [1, 3, 4, 16, 51], lxp10_19004, fun σ m k => ?_⟩
  have e : Lam10.piece (((secsOf (bodyOf Try.f10)).filter Lam10.cut).getD 4 .skip) σ m k = LamP10_19004 σ m k := by kernel_rfl
  rw [e]
  constructor
  · intro h
    unfold LamP10_19004 at h
    obtain ⟨b_1, o_1, h0, h⟩ := kptr_ok h
    obtain ⟨x_3, h1, h⟩ := kI_ok h
    obtain ⟨b_4, o_4, h2, h⟩ := kptr_ok h
    obtain ⟨x_16, h3, h⟩ := kI_ok h
    obtain ⟨x_51, h4, h⟩ := kbool_ok h
    refine ⟨⟨b_1, o_1, x_3, b_4, o_4, x_16, x_51, h0, h1, h2, h3, h4⟩, ?_⟩
    have ev : [1, 3, 4, 16, 51].map σ = [(.ptr b_1 o_1), (.flat (.int .i64 x_3)), (.ptr b_4 o_4), (.flat (.int .i64 x_16)), (.flat (.bool x_51))] := by simp only [List.map_cons, List.map_nil, h0, h1, h2, h3, h4]
    rw [ev, pc10_19004]
    exact h
  · rintro ⟨⟨b_1, o_1, x_3, b_4, o_4, x_16, x_51, h0, h1, h2, h3, h4⟩, h⟩
    have ev : [1, 3, 4, 16, 51].map σ = [(.ptr b_1 o_1), (.flat (.int .i64 x_3)), (.ptr b_4 o_4), (.flat (.int .i64 x_16)), (.flat (.bool x_51))] := by simp only [List.map_cons, List.map_nil, h0, h1, h2, h3, h4]
    rw [ev, pc10_19004] at h
    unfold LamP10_19004
    try simp only [h0, h1, h2, h3, h4, kI, kbool, kS, kptr, kaggN, kite, decide_true, eq_self]
    exact h

def lxp10_13004 : Ex → List Nat := fun e => match e with
  | .normal => [4]
  | _ => []

theorem pc10_13004 (b_1 o_1 : Nat) (x_3 : Int) (b_4 o_4 : Nat) (x_16 : Int) (x_27 : Bool) (m : Mem) (k : KX) : once Try.prog E10 Lam10 [1, 3, 4, 16, 27] lxp10_13004 (((secsOf (bodyOf Try.f10)).filter Lam10.cut).getD 3 .skip) [(.ptr b_1 o_1), (.flat (.int .i64 x_3)), (.ptr b_4 o_4), (.flat (.int .i64 x_16)), (.flat (.bool x_27))] m k = P10_13004 b_1 o_1 x_3 b_4 o_4 x_16 x_27 m (fun m' => k .normal (only [4] [(.ptr b_4 o_4)]) m') := by
  kernel_rfl

theorem pok10_13004 : PieceOK Try.prog E10 Lam10 (((secsOf (bodyOf Try.f10)).filter Lam10.cut).getD 3 .skip) := by
  refine ⟨fun σ => ∃ b_1 o_1 x_3 b_4 o_4 x_16 x_27, σ 1 = .ptr b_1 o_1 ∧ σ 3 = .flat (.int .i64 x_3) ∧ σ 4 = .ptr b_4 o_4 ∧ σ 16 = .flat (.int .i64 x_16) ∧ σ 27 = .flat (.bool x_27), [1, 3, 4, 16, 27], lxp10_13004, fun σ m k => ?_⟩
  have e : Lam10.piece (((secsOf (bodyOf Try.f10)).filter Lam10.cut).getD 3 .skip) σ m k = LamP10_13004 σ m k := by kernel_rfl
  rw [e]
  constructor
  · intro h
    unfold LamP10_13004 at h
    obtain ⟨b_1, o_1, h0, h⟩ := kptr_ok h
    obtain ⟨x_3, h1, h⟩ := kI_ok h
    obtain ⟨b_4, o_4, h2, h⟩ := kptr_ok h
    obtain ⟨x_16, h3, h⟩ := kI_ok h
    obtain ⟨x_27, h4, h⟩ := kbool_ok h
    refine ⟨⟨b_1, o_1, x_3, b_4, o_4, x_16, x_27, h0, h1, h2, h3, h4⟩, ?_⟩
    have ev : [1, 3, 4, 16, 27].map σ = [(.ptr b_1 o_1), (.flat (.int .i64 x_3)), (.ptr b_4 o_4), (.flat (.int .i64 x_16)), (.flat (.bool x_27))] := by simp only [List.map_cons, List.map_nil, h0, h1, h2, h3, h4]
    rw [ev, pc10_13004]
    exact h
  · rintro ⟨⟨b_1, o_1, x_3, b_4, o_4, x_16, x_27, h0, h1, h2, h3, h4⟩, h⟩
    have ev : [1, 3, 4, 16, 27].map σ = [(.ptr b_1 o_1), (.flat (.int .i64 x_3)), (.ptr b_4 o_4), (.flat (.int .i64 x_16)), (.flat (.bool x_27))] := by simp only [List.map_cons, List.map_nil, h0, h1, h2, h3, h4]
    rw [ev, pc10_13004] at h
    unfold LamP10_13004
    try simp only [h0, h1, h2, h3, h4, kI, kbool, kS, kptr, kaggN, kite, decide_true, eq_self]
    exact h

def lxp10_9004 : Ex → List Nat := fun e => match e with
  | .normal => [4]
  | _ => []

theorem pc10_9004 (b_1 o_1 : Nat) (x_3 : Int) (b_4 o_4 : Nat) (x_16 : Int) (x_22 : Bool) (m : Mem) (k : KX) : once Try.prog E10 Lam10 [1, 3, 4, 16, 22] lxp10_9004 (((secsOf (bodyOf Try.f10)).filter Lam10.cut).getD 2 .skip) [(.ptr b_1 o_1), (.flat (.int .i64 x_3)), (.ptr b_4 o_4), (.flat (.int .i64 x_16)), (.flat (.bool x_22))] m k = P10_9004 b_1 o_1 x_3 b_4 o_4 x_16 x_22 m (fun m' => k .normal (only [4] [(.ptr b_4 o_4)]) m') := by
  kernel_rfl

theorem pok10_9004 : PieceOK Try.prog E10 Lam10 (((secsOf (bodyOf Try.f10)).filter Lam10.cut).getD 2 .skip) := by
  refine ⟨fun σ => ∃ b_1 o_1 x_3 b_4 o_4 x_16 x_22, σ 1 = .ptr b_1 o_1 ∧ σ 3 = .flat (.int .i64 x_3) ∧ σ 4 = .ptr b_4 o_4 ∧ σ 16 = .flat (.int .i64 x_16) ∧ σ 22 = .flat (.bool x_22), [1, 3, 4, 16, 22], lxp10_9004, fun σ m k => ?_⟩
  have e : Lam10.piece (((secsOf (bodyOf Try.f10)).filter Lam10.cut).getD 2 .skip) σ m k = LamP10_9004 σ m k := by kernel_rfl
  rw [e]
  constructor
  · intro h
    unfold LamP10_9004 at h
    obtain ⟨b_1, o_1, h0, h⟩ := kptr_ok h
    obtain ⟨x_3, h1, h⟩ := kI_ok h
    obtain ⟨b_4, o_4, h2, h⟩ := kptr_ok h
    obtain ⟨x_16, h3, h⟩ := kI_ok h
    obtain ⟨x_22, h4, h⟩ := kbool_ok h
    refine ⟨⟨b_1, o_1, x_3, b_4, o_4, x_16, x_22, h0, h1, h2, h3, h4⟩, ?_⟩
    have ev : [1, 3, 4, 16, 22].map σ = [(.ptr b_1 o_1), (.flat (.int .i64 x_3)), (.ptr b_4 o_4), (.flat (.int .i64 x_16)), (.flat (.bool x_22))] := by simp only [List.map_cons, List.map_nil, h0, h1, h2, h3, h4]
    rw [ev, pc10_9004]
    exact h
  · rintro ⟨⟨b_1, o_1, x_3, b_4, o_4, x_16, x_22, h0, h1, h2, h3, h4⟩, h⟩
    have ev : [1, 3, 4, 16, 22].map σ = [(.ptr b_1 o_1), (.flat (.int .i64 x_3)), (.ptr b_4 o_4), (.flat (.int .i64 x_16)), (.flat (.bool x_22))] := by simp only [List.map_cons, List.map_nil, h0, h1, h2, h3, h4]
    rw [ev, pc10_9004] at h
    unfold LamP10_9004
    try simp only [h0, h1, h2, h3, h4, kI, kbool, kS, kptr, kaggN, kite, decide_true, eq_self]
    exact h

def lxp10_6004 : Ex → List Nat := fun e => match e with
  | .ret => [2]
  | .normal => [4]
  | _ => []

theorem pc10_6004 (b_1 o_1 : Nat) (x_3 : Int) (b_4 o_4 : Nat) (x_16 : Int) (x_17 : Bool) (m : Mem) (k : KX) : once Try.prog E10 Lam10 [1, 3, 4, 16, 17] lxp10_6004 (((secsOf (bodyOf Try.f10)).filter Lam10.cut).getD 1 .skip) [(.ptr b_1 o_1), (.flat (.int .i64 x_3)), (.ptr b_4 o_4), (.flat (.int .i64 x_16)), (.flat (.bool x_17))] m k = P10_6004 b_1 o_1 x_3 b_4 o_4 x_16 x_17 m (fun x_2' m' => k .ret (only [2] [(.flat (.int .u32 x_2'))]) m') (fun m' => k .normal (only [4] [(.ptr b_4 o_4)]) m') := by
  kernel_rfl

theorem pok10_6004 : PieceOK Try.prog E10 Lam10 (((secsOf (bodyOf Try.f10)).filter Lam10.cut).getD 1 .skip) := by
  refine ⟨fun σ => ∃ b_1 o_1 x_3 b_4 o_4 x_16 x_17, σ 1 = .ptr b_1 o_1 ∧ σ 3 = .flat (.int .i64 x_3) ∧ σ 4 = .ptr b_4 o_4 ∧ σ 16 = .flat (.int .i64 x_16) ∧ σ 17 = .flat (.bool x_17), [1, 3, 4, 16, 17], lxp10_6004, fun σ m k => ?_⟩
  have e : Lam10.piece (((secsOf (bodyOf Try.f10)).filter Lam10.cut).getD 1 .skip) σ m k = LamP10_6004 σ m k := by kernel_rfl
  rw [e]
  constructor
  · intro h
    unfold LamP10_6004 at h
    obtain ⟨b_1, o_1, h0, h⟩ := kptr_ok h
    obtain ⟨x_3, h1, h⟩ := kI_ok h
    obtain ⟨b_4, o_4, h2, h⟩ := kptr_ok h
    obtain ⟨x_16, h3, h⟩ := kI_ok h
    obtain ⟨x_17, h4, h⟩ := kbool_ok h
    refine ⟨⟨b_1, o_1, x_3, b_4, o_4, x_16, x_17, h0, h1, h2, h3, h4⟩, ?_⟩
    have ev : [1, 3, 4, 16, 17].map σ = [(.ptr b_1 o_1), (.flat (.int .i64 x_3)), (.ptr b_4 o_4), (.flat (.int .i64 x_16)), (.flat (.bool x_17))] := by simp only [List.map_cons, List.map_nil, h0, h1, h2, h3, h4]
    rw [ev, pc10_6004]
    exact h
  · rintro ⟨⟨b_1, o_1, x_3, b_4, o_4, x_16, x_17, h0, h1, h2, h3, h4⟩, h⟩
    have ev : [1, 3, 4, 16, 17].map σ = [(.ptr b_1 o_1), (.flat (.int .i64 x_3)), (.ptr b_4 o_4), (.flat (.int .i64 x_16)), (.flat (.bool x_17))] := by simp only [List.map_cons, List.map_nil, h0, h1, h2, h3, h4]
    rw [ev, pc10_6004] at h
    unfold LamP10_6004
    try simp only [h0, h1, h2, h3, h4, kI, kbool, kS, kptr, kaggN, kite, decide_true, eq_self]
    exact h

theorem eqn10 (c_0 : Nat → AV) (m : Mem) (k : KV) : bodyK Try.prog E10 Lam10 Try.f10 true [(.agg 7 c_0)] m k = F10 c_0 m (fun x_1000 m' => k (.flat (.int .u32 x_1000)) m') := by
  kernel_rfl

theorem fs10 (w0 : World) : FS Try.prog w0 10 G10 := by
  refine (fs_body (Γ := E10) (sound_env (l := [(11, G11), (18, G18), (20, G20), (21, G21), (22, G22)]) w0 (by
    intro p hp
    simp only [List.mem_cons, List.not_mem_nil, or_false] at hp
    rcases hp with rfl | rfl | rfl | rfl | rfl
    · exact fs11 w0
    · exact fs18 w0
    · exact fs20 w0
    · exact fs21 w0
    · exact fs22 w0)) (by kernel_rfl) Try.func10 (Λ := Lam10) (c := (bodyOf Try.f10)) (by kernel_rfl) Try.call10 (by kernel_rfl) (LS_of (bodyOf Try.f10) 0 (by kernel_rfl) (fun i hi => absurd hi (Nat.not_lt_zero i)) 6 (by kernel_rfl) (by
    intro i hi
    match i, hi with
    | 0, _ => exact pok10_27102
    | 1, _ => exact pok10_6004
    | 2, _ => exact pok10_9004
    | 3, _ => exact pok10_13004
    | 4, _ => exact pok10_19004
    | 5, _ => exact pok10_26004
    | i + 6, hi => omega)) true (np := 1) (Nat.le_of_ble_eq_true (by kernel_rfl))).imp fun args => ?_
  by_cases hl : args.length = 1
  rotate_left
  · exact .inr fun m k hk => by
      unfold G10 at hk
      split at hk
      · exact hl rfl
      · exact hk
  obtain ⟨a0, rfl⟩ : ∃ a0, args = [a0] := len_list1 hl
  rcases kaggN_or 7 a0 with ⟨c_0, rfl⟩ | h
  rotate_left
  · exact .inr fun m k hk => h _ (by simpa only [G10, kI, kbool, kS, kptr, kaggN, kite, decide_true, eq_self] using hk)
  exact .inl fun m k => propext ⟨fun h => ⟨rfl, by rw [eqn10]; simpa only [G10, kI, kbool, kS, kptr, kaggN, kite, decide_true, eq_self] using h⟩, fun h => by have h := h.2; rw [eqn10] at h; simpa only [G10, kI, kbool, kS, kptr, kaggN, kite, decide_true, eq_self] using h⟩

/-- pianola/pianolalaw3.DecodeTells -/
def F4 (x_0 : Int) (c_1 : Nat → AV) (c_2 : Nat → AV) (m : Mem) (k : Bool → Mem → Prop) : Prop :=
  newK m ⟨7, c_1, 31, false⟩ fun b2 m1 => newK m1 ⟨6, c_2, 27, false⟩ fun b4 m3 => F7 x_0 m3 fun x5 m6 => kif x5 (ldG 7 m6 b2 0 fun c7 => F10 c7 m6 fun x8 m9 => F7 x8 m9 fun x10 m11 => kif x10 (ldG 7 m11 b2 0 fun c12 => F11 c12 m11 fun c13 m14 => F8 c13 m14 fun x15 m16 => kif x15 (ldG 6 m16 b4 0 fun c17 => F8 c17 m16 fun x18 m19 => kif x18 (F9  m19 fun x20 m21 => k x20 m21) (k false m19)) (k false m16)) (k false m11)) (k false m6)

def G4 (args : List AV) (m : Mem) (k : KV) : Prop := match args with
  | [a0, a1, a2] => kI .u32 a0 fun x_0 => kaggN 7 a1 fun c_1 => kaggN 6 a2 fun c_2 => F4 x_0 c_1 c_2 m (fun x_1000 m' => k (.flat (.bool x_1000)) m')
  | _ => False

def E4 : Env := envOf [(7, G7), (8, G8), (9, G9), (10, G10), (11, G11)]

def Lam4 : LEnv := ⟨fun a σ m k => match firstReg a with
  | _ => bump False,
  fun id => match id with
  | _ => bump false,
  fun b => match keyC b with
  | _ => bump false,
  fun b σ m k => match keyC b with
  | _ => bump False⟩

theorem eqn4 (x_0 : Int) (c_1 : Nat → AV) (c_2 : Nat → AV) (m : Mem) (k : KV) : bodyK Try.prog E4 Lam4 Try.f4 false [(.flat (.int .u32 x_0)), (.agg 7 c_1), (.agg 6 c_2)] m k = F4 x_0 c_1 c_2 m (fun x_1000 m' => k (.flat (.bool x_1000)) m') := by
  kernel_rfl

theorem fs4 (w0 : World) : FS Try.prog w0 4 G4 := by
  refine (fs_body (Γ := E4) (sound_env (l := [(7, G7), (8, G8), (9, G9), (10, G10), (11, G11)]) w0 (by
    intro p hp
    simp only [List.mem_cons, List.not_mem_nil, or_false] at hp
    rcases hp with rfl | rfl | rfl | rfl | rfl
    · exact fs7 w0
    · exact fs8 w0
    · exact fs9 w0
    · exact fs10 w0
    · exact fs11 w0)) (by kernel_rfl) Try.func4 (Λ := Lam4) (c := (bodyOf Try.f4)) (by kernel_rfl) Try.call4 (by kernel_rfl) (LS_of (bodyOf Try.f4) 0 (by kernel_rfl) (fun i hi => absurd hi (Nat.not_lt_zero i)) 0 (by kernel_rfl) (fun i hi => absurd hi (Nat.not_lt_zero i))) false (np := 3) (Nat.le_of_ble_eq_true (by kernel_rfl))).imp fun args => ?_
  by_cases hl : args.length = 3
  rotate_left
  · exact .inr fun m k hk => by
      unfold G4 at hk
      split at hk
      · exact hl rfl
      · exact hk
  obtain ⟨a0, a1, a2, rfl⟩ : ∃ a0 a1 a2, args = [a0, a1, a2] := len_list3 hl
  rcases kI_or .u32 a0 with ⟨x_0, rfl⟩ | h
  rotate_left
  · exact .inr fun m k hk => h _ (by simpa only [G4, kI, kbool, kS, kptr, kaggN, kite, decide_true, eq_self] using hk)
  rcases kaggN_or 7 a1 with ⟨c_1, rfl⟩ | h
  rotate_left
  · exact .inr fun m k hk => h _ (by simpa only [G4, kI, kbool, kS, kptr, kaggN, kite, decide_true, eq_self] using hk)
  rcases kaggN_or 6 a2 with ⟨c_2, rfl⟩ | h
  rotate_left
  · exact .inr fun m k hk => h _ (by simpa only [G4, kI, kbool, kS, kptr, kaggN, kite, decide_true, eq_self] using hk)
  exact .inl fun m k => propext ⟨fun h => ⟨rfl, by rw [eqn4]; simpa only [G4, kI, kbool, kS, kptr, kaggN, kite, decide_true, eq_self] using h⟩, fun h => by have h := h.2; rw [eqn4] at h; simpa only [G4, kI, kbool, kS, kptr, kaggN, kite, decide_true, eq_self] using h⟩

/-- pianola/pianolalaw3.DecodeBack -/
def F5 (c_0 : Nat → AV) (x_1 : Int) (m : Mem) (k : Bool → Mem → Prop) : Prop :=
  newK m ⟨7, c_0, 31, false⟩ fun b2 m1 => ldG 7 m1 b2 0 fun c3 => F11 c3 m1 fun c4 m5 => newK m5 ⟨6, Z6, 27, false⟩ fun b7 m6 => stG 6 m6 b7 0 c4 fun m8 => ldG 6 m8 b7 0 fun c9 => F12 c9 m8 fun x10 x11 m12 => ∃ Fr13 : Nat → Prop, kif (!x11) (k false m12) (F13 x10 m12 fun c14 m15 => KeepsIn Fr13 m12 m15 ∧ (Fr13 b7 ∧ (ldG 6 m15 b7 0 fun c16 => geq K27 c14 c16 fun x17 => kif (!x17) (k false m15) (Fr13 b7 ∧ (ldG 6 m15 b7 0 fun c18 => F14 c18 m15 fun x19 m20 => KeepsIn Fr13 m15 m20 ∧ (kif (!x19) (k false m20) (F13 x_1 m20 fun c21 m22 => newK m22 ⟨6, Z6, 27, false⟩ fun b24 m23 => stG 6 m23 b24 0 c21 fun m25 => ldI .i64 m25 b24 0 fun x26 => kif (x26 == 0) (ldG 6 m25 b24 0 fun c27 => geq K27 c27 (Z6) fun x28 => kif x28 (ldG 6 m25 b24 0 fun c29 => F14 c29 m25 fun x30 m31 => kif (!x30) (ldG 6 m31 b24 0 fun c32 => F15 c32 m31 fun x33 m34 => kif (x33 == 6) (F9  m34 fun x35 m36 => k x35 m36) (k false m34)) (k false m31)) (k false m25)) (ldG 6 m25 b24 0 fun c37 => F12 c37 m25 fun x38 x39 m40 => ∃ Fr41 : Nat → Prop, kif x39 (F13 x38 m40 fun c42 m43 => KeepsIn Fr41 m40 m43 ∧ (Fr41 b24 ∧ (ldG 6 m43 b24 0 fun c44 => geq K27 c42 c44 fun x45 => kif x45 (F9  m43 fun x46 m47 => KeepsIn Fr41 m43 m47 ∧ (k x46 m47)) (k false m43)))) (k false m40)))))))))

def G5 (args : List AV) (m : Mem) (k : KV) : Prop := match args with
  | [a0, a1] => kaggN 7 a0 fun c_0 => kI .u32 a1 fun x_1 => F5 c_0 x_1 m (fun x_1000 m' => k (.flat (.bool x_1000)) m')
  | _ => False

def E5 : Env := envOf [(9, G9), (11, G11), (12, G12), (13, G13), (14, G14), (15, G15)]

def Lam5 : LEnv := ⟨fun a σ m k => match firstReg a with
  | _ => bump False,
  fun id => match id with
  | 3 => true
  | 9 => true
  | _ => bump false,
  fun b => match keyC b with
  | _ => bump false,
  fun b σ m k => match keyC b with
  | _ => bump False⟩

theorem eqn5 (c_0 : Nat → AV) (x_1 : Int) (m : Mem) (k : KV) : bodyK Try.prog E5 Lam5 Try.f5 false [(.agg 7 c_0), (.flat (.int .u32 x_1))] m k = F5 c_0 x_1 m (fun x_1000 m' => k (.flat (.bool x_1000)) m') := by
  kernel_rfl

theorem fs5 (w0 : World) : FS Try.prog w0 5 G5 := by
  refine (fs_body (Γ := E5) (sound_env (l := [(9, G9), (11, G11), (12, G12), (13, G13), (14, G14), (15, G15)]) w0 (by
    intro p hp
    simp only [List.mem_cons, List.not_mem_nil, or_false] at hp
    rcases hp with rfl | rfl | rfl | rfl | rfl | rfl
    · exact fs9 w0
    · exact fs11 w0
    · exact fs12 w0
    · exact fs13 w0
    · exact fs14 w0
    · exact fs15 w0)) (by kernel_rfl) Try.func5 (Λ := Lam5) (c := (bodyOf Try.f5)) (by kernel_rfl) Try.call5 (by kernel_rfl) (LS_of (bodyOf Try.f5) 0 (by kernel_rfl) (fun i hi => absurd hi (Nat.not_lt_zero i)) 0 (by kernel_rfl) (fun i hi => absurd hi (Nat.not_lt_zero i))) false (np := 2) (Nat.le_of_ble_eq_true (by kernel_rfl))).imp fun args => ?_
  by_cases hl : args.length = 2
  rotate_left
  · exact .inr fun m k hk => by
      unfold G5 at hk
      split at hk
      · exact hl rfl
      · exact hk
  obtain ⟨a0, a1, rfl⟩ : ∃ a0 a1, args = [a0, a1] := len_list2 hl
  rcases kaggN_or 7 a0 with ⟨c_0, rfl⟩ | h
  rotate_left
  · exact .inr fun m k hk => h _ (by simpa only [G5, kI, kbool, kS, kptr, kaggN, kite, decide_true, eq_self] using hk)
  rcases kI_or .u32 a1 with ⟨x_1, rfl⟩ | h
  rotate_left
  · exact .inr fun m k hk => h _ (by simpa only [G5, kI, kbool, kS, kptr, kaggN, kite, decide_true, eq_self] using hk)
  exact .inl fun m k => propext ⟨fun h => ⟨rfl, by rw [eqn5]; simpa only [G5, kI, kbool, kS, kptr, kaggN, kite, decide_true, eq_self] using h⟩, fun h => by have h := h.2; rw [eqn5] at h; simpa only [G5, kI, kbool, kS, kptr, kaggN, kite, decide_true, eq_self] using h⟩

/-- pianola/pianolalaw3.DecodeFields -/
def F6 (c_0 : Nat → AV) (x_1 : Int) (m : Mem) (k : Bool → Mem → Prop) : Prop :=
  newK m ⟨7, c_0, 31, false⟩ fun b2 m1 => ldG 7 m1 b2 0 fun c3 => F11 c3 m1 fun c4 m5 => newK m5 ⟨6, Z6, 27, false⟩ fun b7 m6 => stG 6 m6 b7 0 c4 fun m8 => ldG 6 m8 b7 0 fun c9 => F12 c9 m8 fun x10 x11 m12 => kif (decide (IntKind.wrap .u64 ((IntKind.wrap .i64 ((x_1.tmod 32) + 32)).tmod 32) < 0)) False (F13 (bits .xor .u32 x10 (IntKind.wrap .u32 (1 * 2 ^ min (IntKind.wrap .u64 ((IntKind.wrap .i64 ((x_1.tmod 32) + 32)).tmod 32)).toNat 32))) m12 fun c13 m14 => newK m14 ⟨6, Z6, 27, false⟩ fun b16 m15 => stG 6 m15 b16 0 c13 fun m17 => kif (!x11) (k false m17) (ldG 6 m17 b16 0 fun c18 => F12 c18 m17 fun x19 x20 m21 => ldG 6 m21 b16 0 fun c22 => ldG 6 m21 b7 0 fun c23 => geq K27 c22 c23 fun x24 => kif x24 (kif x20 (kif (x19 == x10) (F9  m21 fun x25 m26 => k x25 m26) (k false m21)) (k false m21)) (kif (!x20) (F9  m21 fun x27 m28 => k x27 m28) (kif (x19 != x10) (F9  m21 fun x29 m30 => k x29 m30) (k false m21)))))

def G6 (args : List AV) (m : Mem) (k : KV) : Prop := match args with
  | [a0, a1] => kaggN 7 a0 fun c_0 => kI .i64 a1 fun x_1 => F6 c_0 x_1 m (fun x_1000 m' => k (.flat (.bool x_1000)) m')
  | _ => False

def E6 : Env := envOf [(9, G9), (11, G11), (12, G12), (13, G13)]

def Lam6 : LEnv := ⟨fun a σ m k => match firstReg a with
  | _ => bump False,
  fun id => match id with
  | _ => bump false,
  fun b => match keyC b with
  | _ => bump false,
  fun b σ m k => match keyC b with
  | _ => bump False⟩

theorem eqn6 (c_0 : Nat → AV) (x_1 : Int) (m : Mem) (k : KV) : bodyK Try.prog E6 Lam6 Try.f6 false [(.agg 7 c_0), (.flat (.int .i64 x_1))] m k = F6 c_0 x_1 m (fun x_1000 m' => k (.flat (.bool x_1000)) m') := by
  kernel_rfl

theorem fs6 (w0 : World) : FS Try.prog w0 6 G6 := by
  refine (fs_body (Γ := E6) (sound_env (l := [(9, G9), (11, G11), (12, G12), (13, G13)]) w0 (by
    intro p hp
    simp only [List.mem_cons, List.not_mem_nil, or_false] at hp
    rcases hp with rfl | rfl | rfl | rfl
    · exact fs9 w0
    · exact fs11 w0
    · exact fs12 w0
    · exact fs13 w0)) (by kernel_rfl) Try.func6 (Λ := Lam6) (c := (bodyOf Try.f6)) (by kernel_rfl) Try.call6 (by kernel_rfl) (LS_of (bodyOf Try.f6) 0 (by kernel_rfl) (fun i hi => absurd hi (Nat.not_lt_zero i)) 0 (by kernel_rfl) (fun i hi => absurd hi (Nat.not_lt_zero i))) false (np := 2) (Nat.le_of_ble_eq_true (by kernel_rfl))).imp fun args => ?_
  by_cases hl : args.length = 2
  rotate_left
  · exact .inr fun m k hk => by
      unfold G6 at hk
      split at hk
      · exact hl rfl
      · exact hk
  obtain ⟨a0, a1, rfl⟩ : ∃ a0 a1, args = [a0, a1] := len_list2 hl
  rcases kaggN_or 7 a0 with ⟨c_0, rfl⟩ | h
  rotate_left
  · exact .inr fun m k hk => h _ (by simpa only [G6, kI, kbool, kS, kptr, kaggN, kite, decide_true, eq_self] using hk)
  rcases kI_or .i64 a1 with ⟨x_1, rfl⟩ | h
  rotate_left
  · exact .inr fun m k hk => h _ (by simpa only [G6, kI, kbool, kS, kptr, kaggN, kite, decide_true, eq_self] using hk)
  exact .inl fun m k => propext ⟨fun h => ⟨rfl, by rw [eqn6]; simpa only [G6, kI, kbool, kS, kptr, kaggN, kite, decide_true, eq_self] using h⟩, fun h => by have h := h.2; rw [eqn6] at h; simpa only [G6, kI, kbool, kS, kptr, kaggN, kite, decide_true, eq_self] using h⟩

end Go.Proofs.Ytmhlljnnpoegbaa.Am
