/- What Go functions ask of what follows them, as plain functions over the abstract machine; the machine asks just that. Written by gen.py. -/
import Derived.Test.YtkgidjnaddjjbaaProg
import Derived.Test.YtkgidjnaddjjbaaAmL
import Derived.Test.YtkgidjnaddjjbaaM3
namespace Go.Proofs.Ytkgidjnaddjjbaa.Am
set_option linter.unusedVariables false
set_option linter.unusedSimpArgs false
set_option maxRecDepth 100000

def E54 : Env := envOf [(55, G55)]

/-- pianola/word.Clo -/
def F54 (x_0 : Int) (m : Mem) (k : Int → Mem → Prop) : Prop :=
  F55 (bits .xor .u32 4294967295 x_0) m fun x1 m2 => (Keeps m m2 ∧ k x1 m)

def G54 (args : List AV) (m : Mem) (k : KV) : Prop := match args with
  | [a0] => kI .u32 a0 fun x_0 => F54 x_0 m (fun x_1000 m' => k (.flat (.int .i64 x_1000)) m')
  | _ => False

def Lam54 : LEnv := ⟨fun a σ m k => match firstReg a with
  | _ => bump False,
  fun id => match id with
  | _ => bump false,
  fun b => match keyC b with
  | _ => bump false,
  fun b σ m k => match keyC b with
  | _ => bump False⟩

theorem eqn54 (x_0 : Int) (m : Mem) (k : KV) : bodyK Try.prog E54 Lam54 Try.f54 true [(.flat (.int .u32 x_0))] m k = F54 x_0 m (fun x_1000 m' => k (.flat (.int .i64 x_1000)) m') := by
  kernel_rfl

theorem fs54 (w0 : World) : FS Try.prog w0 54 G54 := by
  refine (fs_body (Γ := E54) (sound_env (l := [(55, G55)]) w0 (by
    intro p hp
    simp only [List.mem_cons, List.not_mem_nil, or_false] at hp
    rcases hp with rfl
    · exact fs55 w0)) (by kernel_rfl) Try.func54 (Λ := Lam54) (c := (bodyOf Try.f54)) (by kernel_rfl) Try.call54 (by kernel_rfl) (LS_of (bodyOf Try.f54) 0 (by kernel_rfl) (fun i hi => absurd hi (Nat.not_lt_zero i)) 0 (by kernel_rfl) (fun i hi => absurd hi (Nat.not_lt_zero i))) true (np := 1) (Nat.le_of_ble_eq_true (by kernel_rfl))).imp fun args => ?_
  by_cases hl : args.length = 1
  rotate_left
  · exact .inr fun m k hk => by
      unfold G54 at hk
      split at hk
      · exact hl rfl
      · exact hk
  obtain ⟨a0, rfl⟩ : ∃ a0, args = [a0] := len_list1 hl
  rcases kI_or .u32 a0 with ⟨x_0, rfl⟩ | h
  rotate_left
  · exact .inr fun m k hk => h _ (by simpa only [G54, kI, kbool, kS, kptr, kaggN, kite, decide_true, eq_self] using hk)
  exact .inl fun m k => propext ⟨fun h => ⟨rfl, by rw [eqn54]; simpa only [G54, kI, kbool, kS, kptr, kaggN, kite, decide_true, eq_self] using h⟩, fun h => by have h := h.2; rw [eqn54] at h; simpa only [G54, kI, kbool, kS, kptr, kaggN, kite, decide_true, eq_self] using h⟩

def E46 : Env := envOf [(41, G41), (51, G51), (52, G52), (53, G53), (54, G54)]

def P46_24004 (x_1 : Int) (x_2 : Int) (b_3 o_3 : Nat) (x_8 : Int) (x_63 : Bool) (m : Mem) (kr : Int → Mem → Prop) (kn : Mem → Prop) : Prop :=
  kif x_63 (ldI .i64 m b_3 (o_3 + 0) fun x7 => F52 x_1 x_2 (x7 == 12) m fun x8 m9 => F51 x8 m9 fun x10 m11 => kr x10 m11) (kif (x_8 == 14) (kr (IntKind.wrap .u32 (x_1 * x_2)) m) (kif (x_8 == 15) (F53 x_1 m fun x12 m13 => kr (IntKind.wrap .u32 x12) m13) (kif (x_8 == 16) (F54 x_1 m fun x14 m15 => kr (IntKind.wrap .u32 x14) m15) (kn  m))))

/-- pianola/ir.of -/
def F46 (c_0 : Nat → AV) (x_1 : Int) (x_2 : Int) (m : Mem) (k : Int → Mem → Prop) : Prop :=
  newK m ⟨5, c_0, 41, false⟩ fun b2 m1 => ldI .i64 m1 b2 0 fun x3 => kif (x3 == 1) (ldI .u32 m1 b2 4 fun x4 => (Keeps m m1 ∧ k x4 m)) (kif (x3 == 3) ((Keeps m m1 ∧ k (IntKind.wrap .u32 (x_1 + x_2)) m)) (kif (x3 == 4) ((Keeps m m1 ∧ k (IntKind.wrap .u32 (x_1 - x_2)) m)) (kif (x3 == 5) ((Keeps m m1 ∧ k (bits .and .u32 x_1 x_2) m)) (kif (x3 == 6) ((Keeps m m1 ∧ k (bits .or .u32 x_1 x_2) m)) (kif (x3 == 7) ((Keeps m m1 ∧ k (bits .xor .u32 x_1 x_2) m)) (kif (x3 == 8) ((Keeps m m1 ∧ k (bits .xor .u32 4294967295 (bits .or .u32 x_1 x_2)) m)) (kif (x3 == 9) (kif (decide (bits .and .u32 x_2 31 < 0)) False ((Keeps m m1 ∧ k (IntKind.wrap .u32 (x_1 * 2 ^ min (bits .and .u32 x_2 31).toNat 32)) m))) (kif (x3 == 10) (kif (decide (bits .and .u32 x_2 31 < 0)) False ((Keeps m m1 ∧ k (x_1.fdiv (2 ^ min (bits .and .u32 x_2 31).toNat 32)) m))) (kif (x3 == 11) (F41 x_1 (IntKind.wrap .i64 (bits .and .u32 x_2 31)) m1 fun x5 m6 => (Keeps m m6 ∧ k x5 m)) (kif (x3 == 12) (P46_24004 x_1 x_2 b2 0 x3 (x3 == 12) m1 (fun x16 m17 => (Keeps m m17 ∧ k x16 m)) (fun m18 => (Keeps m m18 ∧ k x_1 m))) (P46_24004 x_1 x_2 b2 0 x3 (x3 == 13) m1 (fun x19 m20 => (Keeps m m20 ∧ k x19 m)) (fun m21 => (Keeps m m21 ∧ k x_1 m)))))))))))))

def G46 (args : List AV) (m : Mem) (k : KV) : Prop := match args with
  | [a0, a1, a2] => kaggN 5 a0 fun c_0 => kI .u32 a1 fun x_1 => kI .u32 a2 fun x_2 => F46 c_0 x_1 x_2 m (fun x_1000 m' => k (.flat (.int .u32 x_1000)) m')
  | _ => False

def LamP46_24004 (σ : Nat → AV) (m : Mem) (k : KX) : Prop := kI .u32 (σ 1) fun x_1 => kI .u32 (σ 2) fun x_2 => kptr (σ 3) fun b_3 o_3 => kI .i64 (σ 8) fun x_8 => kbool (σ 63) fun x_63 => P46_24004 x_1 x_2 b_3 o_3 x_8 x_63 m (fun x_6' m' => k .ret (only [6] [(.flat (.int .u32 x_6'))]) m') (fun m' => k .normal (only [1] [(.flat (.int .u32 x_1))]) m')

def Lam46 : LEnv := ⟨fun a σ m k => match firstReg a with
  | _ => bump False,
  fun id => match id with
  | _ => bump false,
  fun b => match keyC b with
  | some 24004 => true
  | _ => bump false,
  fun b σ m k => match keyC b with
  | some 24004 => LamP46_24004 σ m k
  | _ => bump False⟩

def lxp46_24004 : Ex → List Nat := fun e => match e with
  | .ret => [6]
  | .normal => [1]
  | _ => []

theorem pc46_24004 (x_1 : Int) (x_2 : Int) (b_3 o_3 : Nat) (x_8 : Int) (x_63 : Bool) (m : Mem) (k : KX) : once Try.prog E46 Lam46 [1, 2, 3, 8, 63] lxp46_24004 (((secsOf (bodyOf Try.f46)).filter Lam46.cut).getD 0 .skip) [(.flat (.int .u32 x_1)), (.flat (.int .u32 x_2)), (.ptr b_3 o_3), (.flat (.int .i64 x_8)), (.flat (.bool x_63))] m k = P46_24004 x_1 x_2 b_3 o_3 x_8 x_63 m (fun x_6' m' => k .ret (only [6] [(.flat (.int .u32 x_6'))]) m') (fun m' => k .normal (only [1] [(.flat (.int .u32 x_1))]) m') := by
  kernel_rfl

theorem pok46_24004 : PieceOK Try.prog E46 Lam46 (((secsOf (bodyOf Try.f46)).filter Lam46.cut).getD 0 .skip) := by
  refine ⟨fun σ => ∃ x_1 x_2 b_3 o_3 x_8 x_63, σ 1 = .flat (.int .u32 x_1) ∧ σ 2 = .flat (.int .u32 x_2) ∧ σ 3 = .ptr b_3 o_3 ∧ σ 8 = .flat (.int .i64 x_8) ∧ σ 63 = .flat (.bool x_63), [1, 2, 3, 8, 63], lxp46_24004, fun σ m k => ?_⟩
  have e : Lam46.piece (((secsOf (bodyOf Try.f46)).filter Lam46.cut).getD 0 .skip) σ m k = LamP46_24004 σ m k := by kernel_rfl
  rw [e]
  constructor
  · intro h
    unfold LamP46_24004 at h
    obtain ⟨x_1, h0, h⟩ := kI_ok h
    obtain ⟨x_2, h1, h⟩ := kI_ok h
    obtain ⟨b_3, o_3, h2, h⟩ := kptr_ok h
    obtain ⟨x_8, h3, h⟩ := kI_ok h
    obtain ⟨x_63, h4, h⟩ := kbool_ok h
    refine ⟨⟨x_1, x_2, b_3, o_3, x_8, x_63, h0, h1, h2, h3, h4⟩, ?_⟩
    have ev : [1, 2, 3, 8, 63].map σ = [(.flat (.int .u32 x_1)), (.flat (.int .u32 x_2)), (.ptr b_3 o_3), (.flat (.int .i64 x_8)), (.flat (.bool x_63))] := by simp only [List.map_cons, List.map_nil, h0, h1, h2, h3, h4]
    rw [ev, pc46_24004]
    exact h
  · rintro ⟨⟨x_1, x_2, b_3, o_3, x_8, x_63, h0, h1, h2, h3, h4⟩, h⟩
    have ev : [1, 2, 3, 8, 63].map σ = [(.flat (.int .u32 x_1)), (.flat (.int .u32 x_2)), (.ptr b_3 o_3), (.flat (.int .i64 x_8)), (.flat (.bool x_63))] := by simp only [List.map_cons, List.map_nil, h0, h1, h2, h3, h4]
    rw [ev, pc46_24004] at h
    unfold LamP46_24004
    try simp only [h0, h1, h2, h3, h4, kI, kbool, kS, kptr, kaggN, kite, decide_true, eq_self]
    exact h

theorem eqn46 (c_0 : Nat → AV) (x_1 : Int) (x_2 : Int) (m : Mem) (k : KV) : bodyK Try.prog E46 Lam46 Try.f46 true [(.agg 5 c_0), (.flat (.int .u32 x_1)), (.flat (.int .u32 x_2))] m k = F46 c_0 x_1 x_2 m (fun x_1000 m' => k (.flat (.int .u32 x_1000)) m') := by
  kernel_rfl

theorem fs46 (w0 : World) : FS Try.prog w0 46 G46 := by
  refine (fs_body (Γ := E46) (sound_env (l := [(41, G41), (51, G51), (52, G52), (53, G53), (54, G54)]) w0 (by
    intro p hp
    simp only [List.mem_cons, List.not_mem_nil, or_false] at hp
    rcases hp with rfl | rfl | rfl | rfl | rfl
    · exact fs41 w0
    · exact fs51 w0
    · exact fs52 w0
    · exact fs53 w0
    · exact fs54 w0)) (by kernel_rfl) Try.func46 (Λ := Lam46) (c := (bodyOf Try.f46)) (by kernel_rfl) Try.call46 (by kernel_rfl) (LS_of (bodyOf Try.f46) 0 (by kernel_rfl) (fun i hi => absurd hi (Nat.not_lt_zero i)) 1 (by kernel_rfl) (by
    intro i hi
    match i, hi with
    | 0, _ => exact pok46_24004
    | i + 1, hi => omega)) true (np := 3) (Nat.le_of_ble_eq_true (by kernel_rfl))).imp fun args => ?_
  by_cases hl : args.length = 3
  rotate_left
  · exact .inr fun m k hk => by
      unfold G46 at hk
      split at hk
      · exact hl rfl
      · exact hk
  obtain ⟨a0, a1, a2, rfl⟩ : ∃ a0 a1 a2, args = [a0, a1, a2] := len_list3 hl
  rcases kaggN_or 5 a0 with ⟨c_0, rfl⟩ | h
  rotate_left
  · exact .inr fun m k hk => h _ (by simpa only [G46, kI, kbool, kS, kptr, kaggN, kite, decide_true, eq_self] using hk)
  rcases kI_or .u32 a1 with ⟨x_1, rfl⟩ | h
  rotate_left
  · exact .inr fun m k hk => h _ (by simpa only [G46, kI, kbool, kS, kptr, kaggN, kite, decide_true, eq_self] using hk)
  rcases kI_or .u32 a2 with ⟨x_2, rfl⟩ | h
  rotate_left
  · exact .inr fun m k hk => h _ (by simpa only [G46, kI, kbool, kS, kptr, kaggN, kite, decide_true, eq_self] using hk)
  exact .inl fun m k => propext ⟨fun h => ⟨rfl, by rw [eqn46]; simpa only [G46, kI, kbool, kS, kptr, kaggN, kite, decide_true, eq_self] using h⟩, fun h => by have h := h.2; rw [eqn46] at h; simpa only [G46, kI, kbool, kS, kptr, kaggN, kite, decide_true, eq_self] using h⟩

def E35 : Env := envOf [(44, G44), (45, G45), (46, G46)]

def P35_3004 (b_0 o_0 : Nat) (b_3 o_3 : Nat) (x_4 : Int) (x_5 : Int) (x_72 : Bool) (m : Mem) (kn : Mem → Prop) : Prop :=
  kif x_72 (kn  m) (∃ Fr19 : Nat → Prop, Fr19 b_3 ∧ (ldI .i64 m b_3 (o_3 + 1) fun x20 => Fr19 b_3 ∧ (ldG 5 m b_3 o_3 fun c21 => F46 c21 x_4 x_5 m fun x22 m23 => KeepsIn Fr19 m m23 ∧ (kif (decide (0 ≤ x20) && decide (x20 < 40)) (stC m23 b_0 (o_0 + (x20).toNat * 1) (.flat (.int .u32 x22)) fun m24 => kn  m24) False))))

def P35_7004 (b_0 o_0 : Nat) (b_3 o_3 : Nat) (x_4 : Int) (x_5 : Int) (x_6 : Int) (x_51 : Bool) (m : Mem) (kn : Mem → Prop) : Prop :=
  kif x_51 (F45 x_4 x_5 (x_6 == 19) m fun x13 x14 m15 => stC m15 b_0 (o_0 + 33) (.flat (.int .u32 x13)) fun m16 => stC m16 b_0 (o_0 + 32) (.flat (.int .u32 x14)) fun m17 => kn  m17) (kif (x_6 == 0) (P35_3004 b_0 o_0 b_3 o_3 x_4 x_5 true m (fun m25 => kn  m25)) (ldI .i64 m b_3 (o_3 + 1) fun x18 => kif (x18 == 0) (P35_3004 b_0 o_0 b_3 o_3 x_4 x_5 true m (fun m26 => kn  m26)) (kif (x_6 == 21) (P35_3004 b_0 o_0 b_3 o_3 x_4 x_5 (!((x_5 == 0) == (x_6 == 21))) m (fun m27 => kn  m27)) (kif (x_6 == 22) (P35_3004 b_0 o_0 b_3 o_3 x_4 x_5 (!((x_5 == 0) == (x_6 == 21))) m (fun m28 => kn  m28)) (P35_3004 b_0 o_0 b_3 o_3 x_4 x_5 false m (fun m29 => kn  m29))))))

def P35_5004 (b_0 o_0 : Nat) (b_3 o_3 : Nat) (x_4 : Int) (x_5 : Int) (x_6 : Int) (x_30 : Bool) (m : Mem) (kn : Mem → Prop) : Prop :=
  kif x_30 (F44 x_4 x_5 (x_6 == 17) m fun x8 x9 m10 => stC m10 b_0 (o_0 + 32) (.flat (.int .u32 x8)) fun m11 => stC m11 b_0 (o_0 + 33) (.flat (.int .u32 x9)) fun m12 => kn  m12) (kif (x_6 == 19) (P35_7004 b_0 o_0 b_3 o_3 x_4 x_5 x_6 true m (fun m30 => kn  m30)) (P35_7004 b_0 o_0 b_3 o_3 x_4 x_5 x_6 (x_6 == 20) m (fun m31 => kn  m31)))

/-- (*pianola/ir.Regs).do -/
def F35 (b_0 o_0 : Nat) (c_1 : Nat → AV) (m : Mem) (k : Mem → Prop) : Prop :=
  newK m ⟨5, c_1, 41, false⟩ fun b2 m1 => ldI .i64 m1 b2 2 fun x3 => kif (decide (0 ≤ x3) && decide (x3 < 40)) (ldI .u32 m1 b_0 (o_0 + (x3).toNat * 1) fun x4 => ldI .i64 m1 b2 3 fun x5 => kif (decide (0 ≤ x5) && decide (x5 < 40)) (ldI .u32 m1 b_0 (o_0 + (x5).toNat * 1) fun x6 => ldI .i64 m1 b2 0 fun x7 => kif (x7 == 17) (P35_5004 b_0 o_0 b2 0 x4 x6 x7 true m1 (fun m32 => k  m32)) (P35_5004 b_0 o_0 b2 0 x4 x6 x7 (x7 == 18) m1 (fun m33 => k  m33))) False) False

def G35 (args : List AV) (m : Mem) (k : KV) : Prop := match args with
  | [a0, a1] => kptr a0 fun b_0 o_0 => kaggN 5 a1 fun c_1 => F35 b_0 o_0 c_1 m (fun m' => k (.tup []) m')
  | _ => False

def LamP35_5004 (σ : Nat → AV) (m : Mem) (k : KX) : Prop := kptr (σ 0) fun b_0 o_0 => kptr (σ 3) fun b_3 o_3 => kI .u32 (σ 4) fun x_4 => kI .u32 (σ 5) fun x_5 => kI .i64 (σ 6) fun x_6 => kbool (σ 30) fun x_30 => P35_5004 b_0 o_0 b_3 o_3 x_4 x_5 x_6 x_30 m (fun m' => k .normal (only [] []) m')

def LamP35_7004 (σ : Nat → AV) (m : Mem) (k : KX) : Prop := kptr (σ 0) fun b_0 o_0 => kptr (σ 3) fun b_3 o_3 => kI .u32 (σ 4) fun x_4 => kI .u32 (σ 5) fun x_5 => kI .i64 (σ 6) fun x_6 => kbool (σ 51) fun x_51 => P35_7004 b_0 o_0 b_3 o_3 x_4 x_5 x_6 x_51 m (fun m' => k .normal (only [] []) m')

def LamP35_3004 (σ : Nat → AV) (m : Mem) (k : KX) : Prop := kptr (σ 0) fun b_0 o_0 => kptr (σ 3) fun b_3 o_3 => kI .u32 (σ 4) fun x_4 => kI .u32 (σ 5) fun x_5 => kbool (σ 72) fun x_72 => P35_3004 b_0 o_0 b_3 o_3 x_4 x_5 x_72 m (fun m' => k .normal (only [] []) m')

def Lam35 : LEnv := ⟨fun a σ m k => match firstReg a with
  | _ => bump False,
  fun id => match id with
  | 3 => true
  | _ => bump false,
  fun b => match keyC b with
  | some 5004 => true
  | some 7004 => true
  | some 3004 => true
  | _ => bump false,
  fun b σ m k => match keyC b with
  | some 5004 => LamP35_5004 σ m k
  | some 7004 => LamP35_7004 σ m k
  | some 3004 => LamP35_3004 σ m k
  | _ => bump False⟩

def lxp35_3004 : Ex → List Nat := fun e => match e with
  | .normal => []
  | _ => []

theorem pc35_3004 (b_0 o_0 : Nat) (b_3 o_3 : Nat) (x_4 : Int) (x_5 : Int) (x_72 : Bool) (m : Mem) (k : KX) : once Try.prog E35 Lam35 [0, 3, 4, 5, 72] lxp35_3004 (((secsOf (bodyOf Try.f35)).filter Lam35.cut).getD 2 .skip) [(.ptr b_0 o_0), (.ptr b_3 o_3), (.flat (.int .u32 x_4)), (.flat (.int .u32 x_5)), (.flat (.bool x_72))] m k = P35_3004 b_0 o_0 b_3 o_3 x_4 x_5 x_72 m (fun m' => k .normal (only [] []) m') := by
  kernel_rfl

theorem pok35_3004 : PieceOK Try.prog E35 Lam35 (((secsOf (bodyOf Try.f35)).filter Lam35.cut).getD 2 .skip) := by
  refine ⟨fun σ => ∃ b_0 o_0 b_3 o_3 x_4 x_5 x_72, σ 0 = .ptr b_0 o_0 ∧ σ 3 = .ptr b_3 o_3 ∧ σ 4 = .flat (.int .u32 x_4) ∧ σ 5 = .flat (.int .u32 x_5) ∧ σ 72 = .flat (.bool x_72), [0, 3, 4, 5, 72], lxp35_3004, fun σ m k => ?_⟩
  have e : Lam35.piece (((secsOf (bodyOf Try.f35)).filter Lam35.cut).getD 2 .skip) σ m k = LamP35_3004 σ m k := by kernel_rfl
  rw [e]
  constructor
  · intro h
    unfold LamP35_3004 at h
    obtain ⟨b_0, o_0, h0, h⟩ := kptr_ok h
    obtain ⟨b_3, o_3, h1, h⟩ := kptr_ok h
    obtain ⟨x_4, h2, h⟩ := kI_ok h
    obtain ⟨x_5, h3, h⟩ := kI_ok h
    obtain ⟨x_72, h4, h⟩ := kbool_ok h
    refine ⟨⟨b_0, o_0, b_3, o_3, x_4, x_5, x_72, h0, h1, h2, h3, h4⟩, ?_⟩
    have ev : [0, 3, 4, 5, 72].map σ = [(.ptr b_0 o_0), (.ptr b_3 o_3), (.flat (.int .u32 x_4)), (.flat (.int .u32 x_5)), (.flat (.bool x_72))] := by simp only [List.map_cons, List.map_nil, h0, h1, h2, h3, h4]
    rw [ev, pc35_3004]
    exact h
  · rintro ⟨⟨b_0, o_0, b_3, o_3, x_4, x_5, x_72, h0, h1, h2, h3, h4⟩, h⟩
    have ev : [0, 3, 4, 5, 72].map σ = [(.ptr b_0 o_0), (.ptr b_3 o_3), (.flat (.int .u32 x_4)), (.flat (.int .u32 x_5)), (.flat (.bool x_72))] := by simp only [List.map_cons, List.map_nil, h0, h1, h2, h3, h4]
    rw [ev, pc35_3004] at h
    unfold LamP35_3004
    try simp only [h0, h1, h2, h3, h4, kI, kbool, kS, kptr, kaggN, kite, decide_true, eq_self]
    exact h

def lxp35_7004 : Ex → List Nat := fun e => match e with
  | .normal => []
  | _ => []

theorem pc35_7004 (b_0 o_0 : Nat) (b_3 o_3 : Nat) (x_4 : Int) (x_5 : Int) (x_6 : Int) (x_51 : Bool) (m : Mem) (k : KX) : once Try.prog E35 Lam35 [0, 3, 4, 5, 6, 51] lxp35_7004 (((secsOf (bodyOf Try.f35)).filter Lam35.cut).getD 1 .skip) [(.ptr b_0 o_0), (.ptr b_3 o_3), (.flat (.int .u32 x_4)), (.flat (.int .u32 x_5)), (.flat (.int .i64 x_6)), (.flat (.bool x_51))] m k = P35_7004 b_0 o_0 b_3 o_3 x_4 x_5 x_6 x_51 m (fun m' => k .normal (only [] []) m') := by
  kernel_rfl

theorem pok35_7004 : PieceOK Try.prog E35 Lam35 (((secsOf (bodyOf Try.f35)).filter Lam35.cut).getD 1 .skip) := by
  refine ⟨fun σ => ∃ b_0 o_0 b_3 o_3 x_4 x_5 x_6 x_51, σ 0 = .ptr b_0 o_0 ∧ σ 3 = .ptr b_3 o_3 ∧ σ 4 = .flat (.int .u32 x_4) ∧ σ 5 = .flat (.int .u32 x_5) ∧ σ 6 = .flat (.int .i64 x_6) ∧ σ 51 = .flat (.bool x_51), [0, 3, 4, 5, 6, 51], lxp35_7004, fun σ m k => ?_⟩
  have e : Lam35.piece (((secsOf (bodyOf Try.f35)).filter Lam35.cut).getD 1 .skip) σ m k = LamP35_7004 σ m k := by kernel_rfl
  rw [e]
  constructor
  · intro h
    unfold LamP35_7004 at h
    obtain ⟨b_0, o_0, h0, h⟩ := kptr_ok h
    obtain ⟨b_3, o_3, h1, h⟩ := kptr_ok h
    obtain ⟨x_4, h2, h⟩ := kI_ok h
    obtain ⟨x_5, h3, h⟩ := kI_ok h
    obtain ⟨x_6, h4, h⟩ := kI_ok h
    obtain ⟨x_51, h5, h⟩ := kbool_ok h
    refine ⟨⟨b_0, o_0, b_3, o_3, x_4, x_5, x_6, x_51, h0, h1, h2, h3, h4, h5⟩, ?_⟩
    have ev : [0, 3, 4, 5, 6, 51].map σ = [(.ptr b_0 o_0), (.ptr b_3 o_3), (.flat (.int .u32 x_4)), (.flat (.int .u32 x_5)), (.flat (.int .i64 x_6)), (.flat (.bool x_51))] := by simp only [List.map_cons, List.map_nil, h0, h1, h2, h3, h4, h5]
    rw [ev, pc35_7004]
    exact h
  · rintro ⟨⟨b_0, o_0, b_3, o_3, x_4, x_5, x_6, x_51, h0, h1, h2, h3, h4, h5⟩, h⟩
    have ev : [0, 3, 4, 5, 6, 51].map σ = [(.ptr b_0 o_0), (.ptr b_3 o_3), (.flat (.int .u32 x_4)), (.flat (.int .u32 x_5)), (.flat (.int .i64 x_6)), (.flat (.bool x_51))] := by simp only [List.map_cons, List.map_nil, h0, h1, h2, h3, h4, h5]
    rw [ev, pc35_7004] at h
    unfold LamP35_7004
    try simp only [h0, h1, h2, h3, h4, h5, kI, kbool, kS, kptr, kaggN, kite, decide_true, eq_self]
    exact h

def lxp35_5004 : Ex → List Nat := fun e => match e with
  | .normal => []
  | _ => []

theorem pc35_5004 (b_0 o_0 : Nat) (b_3 o_3 : Nat) (x_4 : Int) (x_5 : Int) (x_6 : Int) (x_30 : Bool) (m : Mem) (k : KX) : once Try.prog E35 Lam35 [0, 3, 4, 5, 6, 30] lxp35_5004 (((secsOf (bodyOf Try.f35)).filter Lam35.cut).getD 0 .skip) [(.ptr b_0 o_0), (.ptr b_3 o_3), (.flat (.int .u32 x_4)), (.flat (.int .u32 x_5)), (.flat (.int .i64 x_6)), (.flat (.bool x_30))] m k = P35_5004 b_0 o_0 b_3 o_3 x_4 x_5 x_6 x_30 m (fun m' => k .normal (only [] []) m') := by
  kernel_rfl

theorem pok35_5004 : PieceOK Try.prog E35 Lam35 (((secsOf (bodyOf Try.f35)).filter Lam35.cut).getD 0 .skip) := by
  refine ⟨fun σ => ∃ b_0 o_0 b_3 o_3 x_4 x_5 x_6 x_30, σ 0 = .ptr b_0 o_0 ∧ σ 3 = .ptr b_3 o_3 ∧ σ 4 = .flat (.int .u32 x_4) ∧ σ 5 = .flat (.int .u32 x_5) ∧ σ 6 = .flat (.int .i64 x_6) ∧ σ 30 = .flat (.bool x_30), [0, 3, 4, 5, 6, 30], lxp35_5004, fun σ m k => ?_⟩
  have e : Lam35.piece (((secsOf (bodyOf Try.f35)).filter Lam35.cut).getD 0 .skip) σ m k = LamP35_5004 σ m k := by kernel_rfl
  rw [e]
  constructor
  · intro h
    unfold LamP35_5004 at h
    obtain ⟨b_0, o_0, h0, h⟩ := kptr_ok h
    obtain ⟨b_3, o_3, h1, h⟩ := kptr_ok h
    obtain ⟨x_4, h2, h⟩ := kI_ok h
    obtain ⟨x_5, h3, h⟩ := kI_ok h
    obtain ⟨x_6, h4, h⟩ := kI_ok h
    obtain ⟨x_30, h5, h⟩ := kbool_ok h
    refine ⟨⟨b_0, o_0, b_3, o_3, x_4, x_5, x_6, x_30, h0, h1, h2, h3, h4, h5⟩, ?_⟩
    have ev : [0, 3, 4, 5, 6, 30].map σ = [(.ptr b_0 o_0), (.ptr b_3 o_3), (.flat (.int .u32 x_4)), (.flat (.int .u32 x_5)), (.flat (.int .i64 x_6)), (.flat (.bool x_30))] := by simp only [List.map_cons, List.map_nil, h0, h1, h2, h3, h4, h5]
    rw [ev, pc35_5004]
    exact h
  · rintro ⟨⟨b_0, o_0, b_3, o_3, x_4, x_5, x_6, x_30, h0, h1, h2, h3, h4, h5⟩, h⟩
    have ev : [0, 3, 4, 5, 6, 30].map σ = [(.ptr b_0 o_0), (.ptr b_3 o_3), (.flat (.int .u32 x_4)), (.flat (.int .u32 x_5)), (.flat (.int .i64 x_6)), (.flat (.bool x_30))] := by simp only [List.map_cons, List.map_nil, h0, h1, h2, h3, h4, h5]
    rw [ev, pc35_5004] at h
    unfold LamP35_5004
    try simp only [h0, h1, h2, h3, h4, h5, kI, kbool, kS, kptr, kaggN, kite, decide_true, eq_self]
    exact h

theorem eqn35 (b_0 o_0 : Nat) (c_1 : Nat → AV) (m : Mem) (k : KV) : bodyK Try.prog E35 Lam35 Try.f35 false [(.ptr b_0 o_0), (.agg 5 c_1)] m k = F35 b_0 o_0 c_1 m (fun m' => k (.tup []) m') := by
  kernel_rfl

theorem fs35 (w0 : World) : FS Try.prog w0 35 G35 := by
  refine (fs_body (Γ := E35) (sound_env (l := [(44, G44), (45, G45), (46, G46)]) w0 (by
    intro p hp
    simp only [List.mem_cons, List.not_mem_nil, or_false] at hp
    rcases hp with rfl | rfl | rfl
    · exact fs44 w0
    · exact fs45 w0
    · exact fs46 w0)) (by kernel_rfl) Try.func35 (Λ := Lam35) (c := (bodyOf Try.f35)) (by kernel_rfl) Try.call35 (by kernel_rfl) (LS_of (bodyOf Try.f35) 0 (by kernel_rfl) (fun i hi => absurd hi (Nat.not_lt_zero i)) 3 (by kernel_rfl) (by
    intro i hi
    match i, hi with
    | 0, _ => exact pok35_5004
    | 1, _ => exact pok35_7004
    | 2, _ => exact pok35_3004
    | i + 3, hi => omega)) false (np := 2) (Nat.le_of_ble_eq_true (by kernel_rfl))).imp fun args => ?_
  by_cases hl : args.length = 2
  rotate_left
  · exact .inr fun m k hk => by
      unfold G35 at hk
      split at hk
      · exact hl rfl
      · exact hk
  obtain ⟨a0, a1, rfl⟩ : ∃ a0 a1, args = [a0, a1] := len_list2 hl
  rcases kptr_or a0 with ⟨b_0, o_0, rfl⟩ | h
  rotate_left
  · exact .inr fun m k hk => h _ (by simpa only [G35, kI, kbool, kS, kptr, kaggN, kite, decide_true, eq_self] using hk)
  rcases kaggN_or 5 a1 with ⟨c_1, rfl⟩ | h
  rotate_left
  · exact .inr fun m k hk => h _ (by simpa only [G35, kI, kbool, kS, kptr, kaggN, kite, decide_true, eq_self] using hk)
  exact .inl fun m k => propext ⟨fun h => ⟨rfl, by rw [eqn35]; simpa only [G35, kI, kbool, kS, kptr, kaggN, kite, decide_true, eq_self] using h⟩, fun h => by have h := h.2; rw [eqn35] at h; simpa only [G35, kI, kbool, kS, kptr, kaggN, kite, decide_true, eq_self] using h⟩

def E17 : Env := envOf [(32, G32), (35, G35)]

def R17_5 (b_0 o_0 : Nat) (v_16 : AV) (x_17 : Int) (x_18 : Int) (m : Mem) (kn : Int → Mem → Prop) (k0 : Mem → Prop) : Prop :=
  kif (decide (x_18 < x_17)) (ksl v_16 fun b5 o6 l7 p8 => kif (decide (0 ≤ x_18) && decide (x_18 < l7)) (ldG 5 m b5 (o6 + (x_18).toNat * 5) fun c9 => newK m ⟨5, lget [(.flat (.int .i64 0)), (.flat (.int .i64 0)), (.flat (.int .i64 0)), (.flat (.int .i64 0)), (.flat (.int .u32 0))], 41, false⟩ fun b11 m10 => stG 5 m10 b11 0 c9 fun m12 => ldG 5 m12 b11 0 fun c13 => F35 b_0 o_0 c13 m12 fun m14 => kn (IntKind.wrap .i64 (x_18 + 1)) m14) False) (k0  m)

def L17_5 (b_0 o_0 : Nat) (v_16 : AV) (x_17 : Int) : Nat → Int → Mem → (Mem → Prop) → Prop
  | 0, _,  _, _ => bump False
  | N + 1, x_18,  m, k0 => R17_5 b_0 o_0 v_16 x_17 x_18 m (fun x_18' m' => L17_5 b_0 o_0 v_16 x_17 N x_18' m' k0) k0

/-- pianola/ir.Run -/
def F17 (b_0 o_0 : Nat) (v_1 : AV) (m : Mem) (k : Bool → Mem → Prop) : Prop :=
  F32 v_1 (.flat (.func (.func 33) #[] #[])) m fun x1 m2 => kif x1 (k false m2) (stC m2 b_0 (o_0 + 0) (.flat (.int .u32 0)) fun m3 => klen v_1 fun x4 => ∃ N16, L17_5 b_0 o_0 v_1 x4 N16 0 m3 (fun m15 => k true m15))

def G17 (args : List AV) (m : Mem) (k : KV) : Prop := match args with
  | [a0, a1] => kptr a0 fun b_0 o_0 => F17 b_0 o_0 a1 m (fun x_1000 m' => k (.flat (.bool x_1000)) m')
  | _ => False

def Lam17_5 (σ : Nat → AV) (m : Mem) (k : KX) : Prop := kptr (σ 0) fun b_0 o_0 => kI .i64 (σ 17) fun x_17 => kI .i64 (σ 18) fun x_18 => ∃ N, L17_5 b_0 o_0 (σ 16) x_17 N x_18 m (fun m' => k (.exit 0) (only [] []) m')

def Lam17 : LEnv := ⟨fun a σ m k => match firstReg a with
  | some 5 => Lam17_5 σ m k
  | _ => bump False,
  fun id => match id with
  | _ => bump false,
  fun b => match keyC b with
  | _ => bump false,
  fun b σ m k => match keyC b with
  | _ => bump False⟩

def lx17_5 : Ex → List Nat := fun e => match e with
  | .exit 0 => []
  | _ => []

theorem round17_5 (b_0 o_0 : Nat) (v_16 : AV) (x_17 : Int) (x_18 : Int) (m : Mem) (G : List AV → Mem → Prop) (k : KX) : (wpA Try.prog E17 Lam17 ((loopsOf (bodyOf Try.f17)).getD 0 .skip) (only [0, 16, 17, 18] [(.ptr b_0 o_0), v_16, (.flat (.int .i64 x_17)), (.flat (.int .i64 x_18))]) m fun e σ' m' => match e with
    | .normal => G ([0, 16, 17, 18].map σ') m'
    | .exit id => k (.exit id) (only (lx17_5 (.exit id)) ((lx17_5 (.exit id)).map σ')) m'
    | .ret => k .ret (only (lx17_5 .ret) ((lx17_5 .ret).map σ')) m') = R17_5 b_0 o_0 v_16 x_17 x_18 m (fun x_18' m' => G [(.ptr b_0 o_0), v_16, (.flat (.int .i64 x_17)), (.flat (.int .i64 x_18'))] m') (fun m' => k (.exit 0) (only [] []) m') := by
  kernel_rfl

theorem loop17_5 (b_0 o_0 : Nat) (v_16 : AV) (x_17 : Int) (k : KX) : ∀ (N : Nat) (x_18 : Int) (m : Mem), rounds Try.prog E17 Lam17 [0, 16, 17, 18] lx17_5 ((loopsOf (bodyOf Try.f17)).getD 0 .skip) N [(.ptr b_0 o_0), v_16, (.flat (.int .i64 x_17)), (.flat (.int .i64 x_18))] m k = L17_5 b_0 o_0 v_16 x_17 N x_18 m (fun m' => k (.exit 0) (only [] []) m') := by
  intro N
  induction N with
  | zero => intros; rfl
  | succ N ih =>
    intro x_18 m
    refine (round17_5 b_0 o_0 v_16 x_17 x_18 m (fun vs m' => rounds Try.prog E17 Lam17 [0, 16, 17, 18] lx17_5 ((loopsOf (bodyOf Try.f17)).getD 0 .skip) N vs m' k) k).trans ?_
    simp only [ih]
    rfl

theorem lok17_5 : LoopOK Try.prog E17 Lam17 ((loopsOf (bodyOf Try.f17)).getD 0 .skip) := by
  refine ⟨fun σ => ∃ b_0 o_0 v_16 x_17 x_18, σ 0 = .ptr b_0 o_0 ∧ σ 16 = v_16 ∧ σ 17 = .flat (.int .i64 x_17) ∧ σ 18 = .flat (.int .i64 x_18), [0, 16, 17, 18], lx17_5, fun σ m k => ?_⟩
  have e : Lam17.loop ((loopsOf (bodyOf Try.f17)).getD 0 .skip) σ m k = Lam17_5 σ m k := by kernel_rfl
  rw [e]
  constructor
  · intro h
    unfold Lam17_5 at h
    obtain ⟨b_0, o_0, h0, h⟩ := kptr_ok h
    obtain ⟨v_16, h1⟩ : ∃ v, σ 16 = v := ⟨_, rfl⟩
    obtain ⟨x_17, h2, h⟩ := kI_ok h
    obtain ⟨x_18, h3, h⟩ := kI_ok h
    obtain ⟨N, h⟩ := h
    refine ⟨⟨b_0, o_0, v_16, x_17, x_18, h0, h1, h2, h3⟩, N, ?_⟩
    have ev : [0, 16, 17, 18].map σ = [(.ptr b_0 o_0), v_16, (.flat (.int .i64 x_17)), (.flat (.int .i64 x_18))] := by simp only [List.map_cons, List.map_nil, h0, h1, h2, h3]
    rw [ev, loop17_5]
    simp only [h1] at h
    exact h
  · rintro ⟨⟨b_0, o_0, v_16, x_17, x_18, h0, h1, h2, h3⟩, N, h⟩
    have ev : [0, 16, 17, 18].map σ = [(.ptr b_0 o_0), v_16, (.flat (.int .i64 x_17)), (.flat (.int .i64 x_18))] := by simp only [List.map_cons, List.map_nil, h0, h1, h2, h3]
    rw [ev, loop17_5] at h
    unfold Lam17_5
    try simp only [h0, h1, h2, h3, kI, kbool, kS, kptr, kaggN, kite, decide_true, eq_self]
    exact ⟨N, h⟩

theorem eqn17 (b_0 o_0 : Nat) (v_1 : AV) (m : Mem) (k : KV) : bodyK Try.prog E17 Lam17 Try.f17 false [(.ptr b_0 o_0), v_1] m k = F17 b_0 o_0 v_1 m (fun x_1000 m' => k (.flat (.bool x_1000)) m') := by
  kernel_rfl

theorem fs17 (w0 : World) : FS Try.prog w0 17 G17 := by
  refine (fs_body (Γ := E17) (sound_env (l := [(32, G32), (35, G35)]) w0 (by
    intro p hp
    simp only [List.mem_cons, List.not_mem_nil, or_false] at hp
    rcases hp with rfl | rfl
    · exact fs32 w0
    · exact fs35 w0)) (by kernel_rfl) Try.func17 (Λ := Lam17) (c := (bodyOf Try.f17)) (by kernel_rfl) Try.call17 (by kernel_rfl) (LS_of (bodyOf Try.f17) 1 (by kernel_rfl) (by
    intro i hi
    match i, hi with
    | 0, _ => exact lok17_5
    | i + 1, hi => omega) 0 (by kernel_rfl) (fun i hi => absurd hi (Nat.not_lt_zero i))) false (np := 2) (Nat.le_of_ble_eq_true (by kernel_rfl))).imp fun args => ?_
  by_cases hl : args.length = 2
  rotate_left
  · exact .inr fun m k hk => by
      unfold G17 at hk
      split at hk
      · exact hl rfl
      · exact hk
  obtain ⟨a0, a1, rfl⟩ : ∃ a0 a1, args = [a0, a1] := len_list2 hl
  rcases kptr_or a0 with ⟨b_0, o_0, rfl⟩ | h
  rotate_left
  · exact .inr fun m k hk => h _ (by simpa only [G17, kI, kbool, kS, kptr, kaggN, kite, decide_true, eq_self] using hk)
  exact .inl fun m k => propext ⟨fun h => ⟨rfl, by rw [eqn17]; simpa only [G17, kI, kbool, kS, kptr, kaggN, kite, decide_true, eq_self] using h⟩, fun h => by have h := h.2; rw [eqn17] at h; simpa only [G17, kI, kbool, kS, kptr, kaggN, kite, decide_true, eq_self] using h⟩

def E8 : Env := envOf [(5, G5), (11, G11), (17, G17)]

/-- pianola/pianolalaw19.known -/
def F8  (m : Mem) (k : Bool → Mem → Prop) : Prop :=
  F5 (upd (upd (upd (Z6) 0 (.flat (.int .i64 47))) 2 (.flat (.int .i64 1))) 5 (.flat (.int .u32 5))) m fun v1 m2 => newK m2 ⟨40, Z40, 48, false⟩ fun b4 m3 => F11 (upd (upd (Z6) 0 (.flat (.int .i64 47))) 2 (.flat (.int .i64 1))) m3 fun x5 m6 => kif x5 (F11 (upd (Z6) 0 (.flat (.int .i64 68))) m6 fun x7 m8 => kif (!x7) (klen v1 fun x9 => kif (decide (x9 > 0)) (F17 b4 0 v1 m8 fun x10 m11 => kif x10 (ldI .u32 m11 b4 1 fun x12 => k (x12 == 5) m11) (k false m11)) (k false m8)) (k false m8)) (k false m6)

def G8 (args : List AV) (m : Mem) (k : KV) : Prop := match args with
  | [] => F8  m (fun x_1000 m' => k (.flat (.bool x_1000)) m')
  | _ => False

def Lam8 : LEnv := ⟨fun a σ m k => match firstReg a with
  | _ => bump False,
  fun id => match id with
  | _ => bump false,
  fun b => match keyC b with
  | _ => bump false,
  fun b σ m k => match keyC b with
  | _ => bump False⟩

theorem eqn8  (m : Mem) (k : KV) : bodyK Try.prog E8 Lam8 Try.f8 false [] m k = F8  m (fun x_1000 m' => k (.flat (.bool x_1000)) m') := by
  kernel_rfl

theorem fs8 (w0 : World) : FS Try.prog w0 8 G8 := by
  refine (fs_body (Γ := E8) (sound_env (l := [(5, G5), (11, G11), (17, G17)]) w0 (by
    intro p hp
    simp only [List.mem_cons, List.not_mem_nil, or_false] at hp
    rcases hp with rfl | rfl | rfl
    · exact fs5 w0
    · exact fs11 w0
    · exact fs17 w0)) (by kernel_rfl) Try.func8 (Λ := Lam8) (c := (bodyOf Try.f8)) (by kernel_rfl) Try.call8 (by kernel_rfl) (LS_of (bodyOf Try.f8) 0 (by kernel_rfl) (fun i hi => absurd hi (Nat.not_lt_zero i)) 0 (by kernel_rfl) (fun i hi => absurd hi (Nat.not_lt_zero i))) false (np := 0) (Nat.le_of_ble_eq_true (by kernel_rfl))).imp fun args => ?_
  by_cases hl : args.length = 0
  rotate_left
  · exact .inr fun m k hk => by
      unfold G8 at hk
      split at hk
      · exact hl rfl
      · exact hk
  obtain rfl : args = [] := len_list0 hl

  exact .inl fun m k => propext ⟨fun h => ⟨rfl, by rw [eqn8]; simpa only [G8, kI, kbool, kS, kptr, kaggN, kite, decide_true, eq_self] using h⟩, fun h => by have h := h.2; rw [eqn8] at h; simpa only [G8, kI, kbool, kS, kptr, kaggN, kite, decide_true, eq_self] using h⟩

def E3 : Env := envOf [(4, G4), (5, G5), (6, G6), (7, G7), (8, G8)]

def R3_16 (b_7 o_7 : Nat) (v_9 : AV) (v_12 : AV) (x_13 : Int) (x_14 : Int) (m : Mem) (kn : Int → Int → Mem → Prop) (k2 : Int → Mem → Prop) (kr : Bool → Mem → Prop) : Prop :=
  kif (decide (x_14 < 32)) (ksl v_9 fun b66 o67 l68 p69 => kif (decide (0 ≤ x_14) && decide (x_14 < l68)) (ldI .u32 m b66 (o67 + (x_14).toNat * 1) fun x70 => ksl v_12 fun b71 o72 l73 p74 => kif (decide (0 ≤ x_14) && decide (x_14 < l73)) (ldI .u32 m b71 (o72 + (x_14).toNat * 1) fun x75 => kif (x70 != x75) (ldI .i64 m b_7 (o_7 + 3) fun x76 => kif (x_14 != x76) (ldI .i64 m b_7 (o_7 + 2) fun x77 => kif (x_14 != x77) (kr false m) (kif (x_14 == 0) (kr false m) (kn (IntKind.wrap .i64 (x_13 + 1)) (IntKind.wrap .i64 (x_14 + 1)) m))) (kif (x_14 == 0) (kr false m) (kn (IntKind.wrap .i64 (x_13 + 1)) (IntKind.wrap .i64 (x_14 + 1)) m))) (kn x_13 (IntKind.wrap .i64 (x_14 + 1)) m)) False) False) (k2 x_13 m)

def L3_16 (b_7 o_7 : Nat) (v_9 : AV) (v_12 : AV) : Nat → Int → Int → Mem → (Int → Mem → Prop) → (Bool → Mem → Prop) → Prop
  | 0, _, _,  _, _, _ => bump False
  | N + 1, x_13, x_14,  m, k2, kr => R3_16 b_7 o_7 v_9 v_12 x_13 x_14 m (fun x_13' x_14' m' => L3_16 b_7 o_7 v_9 v_12 N x_13' x_14' m' k2 kr) k2 kr

def P3_10004 (v_1 : AV) (v_2 : AV) (b_7 o_7 : Nat) (v_8 : AV) (v_9 : AV) (v_10 : AV) (x_11 : Int) (x_50 : Bool) (m : Mem) (kn : Mem → Prop) : Prop :=
  kif x_50 (ksl v_2 fun b38 o39 l40 p41 => kif (decide (0 ≤ x_11) && decide (x_11 < l40)) (ldI .u32 m b38 (o39 + (x_11).toNat * 1) fun x42 => ksl v_10 fun b43 o44 l45 p46 => kif (decide (0 ≤ x_11) && decide (x_11 < l45)) (stC m b43 (o44 + (x_11).toNat * 1) (.flat (.int .u32 x42)) fun m47 => kn  m47) False) False) (kn  m)

def P3_9102 (v_1 : AV) (v_2 : AV) (b_7 o_7 : Nat) (v_8 : AV) (v_9 : AV) (v_10 : AV) (x_11 : Int) (m : Mem) (kn : Mem → Prop) : Prop :=
  kif (decide (x_11 > 33)) (klen v_2 fun x37 => P3_10004 v_1 v_2 b_7 o_7 v_8 v_9 v_10 x_11 (decide (x_11 < x37)) m (fun m48 => kn  m48)) (P3_10004 v_1 v_2 b_7 o_7 v_8 v_9 v_10 x_11 false m (fun m49 => kn  m49))

def R3_5 (v_1 : AV) (v_2 : AV) (b_7 o_7 : Nat) (v_8 : AV) (v_9 : AV) (v_10 : AV) (x_11 : Int) (m : Mem) (kn : Int → Mem → Prop) (k0 : Mem → Prop) : Prop :=
  kif (decide (x_11 < 40)) (klen v_1 fun x16 => kif (decide (x_11 < x16)) (ksl v_1 fun b17 o18 l19 p20 => kif (decide (0 ≤ x_11) && decide (x_11 < l19)) (ldI .u32 m b17 (o18 + (x_11).toNat * 1) fun x21 => ksl v_1 fun b22 o23 l24 p25 => kif (decide (0 ≤ x_11) && decide (x_11 < l24)) (ldI .u32 m b22 (o23 + (x_11).toNat * 1) fun x26 => ksl v_9 fun b27 o28 l29 p30 => kif (decide (0 ≤ x_11) && decide (x_11 < l29)) (stC m b27 (o28 + (x_11).toNat * 1) (.flat (.int .u32 x21)) fun m31 => ksl v_10 fun b32 o33 l34 p35 => kif (decide (0 ≤ x_11) && decide (x_11 < l34)) (stC m31 b32 (o33 + (x_11).toNat * 1) (.flat (.int .u32 x26)) fun m36 => P3_9102 v_1 v_2 b_7 o_7 v_8 v_9 v_10 x_11 m36 (fun m50 => kn (IntKind.wrap .i64 (x_11 + 1)) m50)) False) False) False) False) (P3_9102 v_1 v_2 b_7 o_7 v_8 v_9 v_10 x_11 m (fun m51 => kn (IntKind.wrap .i64 (x_11 + 1)) m51))) (k0  m)

def L3_5 (v_1 : AV) (v_2 : AV) (b_7 o_7 : Nat) (v_8 : AV) (v_9 : AV) (v_10 : AV) : Nat → Int → Mem → (Mem → Prop) → Prop
  | 0, _,  _, _ => bump False
  | N + 1, x_11,  m, k0 => R3_5 v_1 v_2 b_7 o_7 v_8 v_9 v_10 x_11 m (fun x_11' m' => L3_5 v_1 v_2 b_7 o_7 v_8 v_9 v_10 N x_11' m' k0) k0

/-- pianola/pianolalaw19.LiftCells -/
def F3 (c_0 : Nat → AV) (v_1 : AV) (v_2 : AV) (m : Mem) (k : Bool → Mem → Prop) : Prop :=
  newK m ⟨7, c_0, 24, false⟩ fun b2 m1 => ldG 7 m1 b2 0 fun c3 => F4 c3 m1 fun c4 m5 => newK m5 ⟨6, Z6, 27, false⟩ fun b7 m6 => stG 6 m6 b7 0 c4 fun m8 => ldG 6 m8 b7 0 fun c9 => F5 c9 m8 fun v10 m11 => mkS [(.flat (.int .u32 0))] 4 22 40 40 m11 fun b12 m13 => mkS [(.flat (.int .u32 0))] 4 22 40 40 m13 fun b14 m15 => ∃ N53, L3_5 v_1 v_2 b7 0 v10 (.sl b12 0 40 (.ex 40)) (.sl b14 0 40 (.ex 40)) N53 1 m15 (fun m52 => newK m52 ⟨0, lget [], 22, false⟩ fun b55 m54 => appS 1 4 22 (.sl b55 0 0 (.ex 0)) (.sl b12 0 40 (.ex 40)) m54 fun v56 m57 => F6 (.sl b12 0 40 (.ex 40)) v10 m57 fun x58 m59 => kif (!x58) (k false m59) (F6 (.sl b14 0 40 (.ex 40)) v10 m59 fun x60 m61 => kif (!x60) (k false m61) (slS 1 (.sl b12 0 40 (.ex 40)) none (some 34) fun v62 => slS 1 (.sl b14 0 40 (.ex 40)) none (some 34) fun v63 => F7 v62 v63 m61 fun x64 m65 => kif (!x64) (k false m65) (∃ N82, L3_16 b7 0 (.sl b12 0 40 (.ex 40)) v56 N82 0 0 m65 (fun x78 m79 => kif (decide (x78 ≤ 1)) (F8  m79 fun x83 m84 => k x83 m84) (k false m79)) (fun x80 m81 => k x80 m81)))))

def G3 (args : List AV) (m : Mem) (k : KV) : Prop := match args with
  | [a0, a1, a2] => kaggN 7 a0 fun c_0 => F3 c_0 a1 a2 m (fun x_1000 m' => k (.flat (.bool x_1000)) m')
  | _ => False

def Lam3_5 (σ : Nat → AV) (m : Mem) (k : KX) : Prop := kptr (σ 7) fun b_7 o_7 => kI .i64 (σ 11) fun x_11 => ∃ N, L3_5 (σ 1) (σ 2) b_7 o_7 (σ 8) (σ 9) (σ 10) N x_11 m (fun m' => k (.exit 0) (only [7, 8, 9, 10] [(.ptr b_7 o_7), (σ 8), (σ 9), (σ 10)]) m')

def LamP3_9102 (σ : Nat → AV) (m : Mem) (k : KX) : Prop := kptr (σ 7) fun b_7 o_7 => kI .i64 (σ 11) fun x_11 => P3_9102 (σ 1) (σ 2) b_7 o_7 (σ 8) (σ 9) (σ 10) x_11 m (fun m' => k .normal (only [1, 2, 7, 8, 9, 10, 11] [(σ 1), (σ 2), (.ptr b_7 o_7), (σ 8), (σ 9), (σ 10), (.flat (.int .i64 x_11))]) m')

def LamP3_10004 (σ : Nat → AV) (m : Mem) (k : KX) : Prop := kptr (σ 7) fun b_7 o_7 => kI .i64 (σ 11) fun x_11 => kbool (σ 50) fun x_50 => P3_10004 (σ 1) (σ 2) b_7 o_7 (σ 8) (σ 9) (σ 10) x_11 x_50 m (fun m' => k .normal (only [1, 2, 7, 8, 9, 10, 11] [(σ 1), (σ 2), (.ptr b_7 o_7), (σ 8), (σ 9), (σ 10), (.flat (.int .i64 x_11))]) m')

def Lam3_16 (σ : Nat → AV) (m : Mem) (k : KX) : Prop := kptr (σ 7) fun b_7 o_7 => kI .i64 (σ 13) fun x_13 => kI .i64 (σ 14) fun x_14 => ∃ N, L3_16 b_7 o_7 (σ 9) (σ 12) N x_13 x_14 m (fun x_13' m' => k (.exit 2) (only [13] [(.flat (.int .i64 x_13'))]) m') (fun x_6' m' => k .ret (only [6] [(.flat (.bool x_6'))]) m')

def Lam3 : LEnv := ⟨fun a σ m k => match firstReg a with
  | some 5 => Lam3_5 σ m k
  | some 16 => Lam3_16 σ m k
  | _ => bump False,
  fun id => match id with
  | _ => bump false,
  fun b => match keyC b with
  | some 9102 => true
  | some 10004 => true
  | _ => bump false,
  fun b σ m k => match keyC b with
  | some 9102 => LamP3_9102 σ m k
  | some 10004 => LamP3_10004 σ m k
  | _ => bump False⟩

def lx3_16 : Ex → List Nat := fun e => match e with
  | .exit 2 => [13]
  | .ret => [6]
  | _ => []

theorem round3_16 (b_7 o_7 : Nat) (v_9 : AV) (v_12 : AV) (x_13 : Int) (x_14 : Int) (m : Mem) (G : List AV → Mem → Prop) (k : KX) : (wpA Try.prog E3 Lam3 ((loopsOf (bodyOf Try.f3)).getD 1 .skip) (only [7, 9, 12, 13, 14] [(.ptr b_7 o_7), v_9, v_12, (.flat (.int .i64 x_13)), (.flat (.int .i64 x_14))]) m fun e σ' m' => match e with
    | .normal => G ([7, 9, 12, 13, 14].map σ') m'
    | .exit id => k (.exit id) (only (lx3_16 (.exit id)) ((lx3_16 (.exit id)).map σ')) m'
    | .ret => k .ret (only (lx3_16 .ret) ((lx3_16 .ret).map σ')) m') = R3_16 b_7 o_7 v_9 v_12 x_13 x_14 m (fun x_13' x_14' m' => G [(.ptr b_7 o_7), v_9, v_12, (.flat (.int .i64 x_13')), (.flat (.int .i64 x_14'))] m') (fun x_13' m' => k (.exit 2) (only [13] [(.flat (.int .i64 x_13'))]) m') (fun x_6' m' => k .ret (only [6] [(.flat (.bool x_6'))]) m') := by
  kernel_rfl

theorem loop3_16 (b_7 o_7 : Nat) (v_9 : AV) (v_12 : AV) (k : KX) : ∀ (N : Nat) (x_13 : Int) (x_14 : Int) (m : Mem), rounds Try.prog E3 Lam3 [7, 9, 12, 13, 14] lx3_16 ((loopsOf (bodyOf Try.f3)).getD 1 .skip) N [(.ptr b_7 o_7), v_9, v_12, (.flat (.int .i64 x_13)), (.flat (.int .i64 x_14))] m k = L3_16 b_7 o_7 v_9 v_12 N x_13 x_14 m (fun x_13' m' => k (.exit 2) (only [13] [(.flat (.int .i64 x_13'))]) m') (fun x_6' m' => k .ret (only [6] [(.flat (.bool x_6'))]) m') := by
  intro N
  induction N with
  | zero => intros; rfl
  | succ N ih =>
    intro x_13 x_14 m
    refine (round3_16 b_7 o_7 v_9 v_12 x_13 x_14 m (fun vs m' => rounds Try.prog E3 Lam3 [7, 9, 12, 13, 14] lx3_16 ((loopsOf (bodyOf Try.f3)).getD 1 .skip) N vs m' k) k).trans ?_
    simp only [ih]
    rfl

theorem lok3_16 : LoopOK Try.prog E3 Lam3 ((loopsOf (bodyOf Try.f3)).getD 1 .skip) := by
  refine ⟨fun σ => ∃ b_7 o_7 v_9 v_12 x_13 x_14, σ 7 = .ptr b_7 o_7 ∧ σ 9 = v_9 ∧ σ 12 = v_12 ∧ σ 13 = .flat (.int .i64 x_13) ∧ σ 14 = .flat (.int .i64 x_14), [7, 9, 12, 13, 14], lx3_16, fun σ m k => ?_⟩
  have e : Lam3.loop ((loopsOf (bodyOf Try.f3)).getD 1 .skip) σ m k = Lam3_16 σ m k := by kernel_rfl
  rw [e]
  constructor
  · intro h
    unfold Lam3_16 at h
    obtain ⟨b_7, o_7, h0, h⟩ := kptr_ok h
    obtain ⟨v_9, h1⟩ : ∃ v, σ 9 = v := ⟨_, rfl⟩
    obtain ⟨v_12, h2⟩ : ∃ v, σ 12 = v := ⟨_, rfl⟩
    obtain ⟨x_13, h3, h⟩ := kI_ok h
    obtain ⟨x_14, h4, h⟩ := kI_ok h
    obtain ⟨N, h⟩ := h
    refine ⟨⟨b_7, o_7, v_9, v_12, x_13, x_14, h0, h1, h2, h3, h4⟩, N, ?_⟩
    have ev : [7, 9, 12, 13, 14].map σ = [(.ptr b_7 o_7), v_9, v_12, (.flat (.int .i64 x_13)), (.flat (.int .i64 x_14))] := by simp only [List.map_cons, List.map_nil, h0, h1, h2, h3, h4]
    rw [ev, loop3_16]
    simp only [h1, h2] at h
    exact h
  · rintro ⟨⟨b_7, o_7, v_9, v_12, x_13, x_14, h0, h1, h2, h3, h4⟩, N, h⟩
    have ev : [7, 9, 12, 13, 14].map σ = [(.ptr b_7 o_7), v_9, v_12, (.flat (.int .i64 x_13)), (.flat (.int .i64 x_14))] := by simp only [List.map_cons, List.map_nil, h0, h1, h2, h3, h4]
    rw [ev, loop3_16] at h
    unfold Lam3_16
    try simp only [h0, h1, h2, h3, h4, kI, kbool, kS, kptr, kaggN, kite, decide_true, eq_self]
    exact ⟨N, h⟩

def lxp3_10004 : Ex → List Nat := fun e => match e with
  | .normal => [1, 2, 7, 8, 9, 10, 11]
  | _ => []

theorem pc3_10004 (v_1 : AV) (v_2 : AV) (b_7 o_7 : Nat) (v_8 : AV) (v_9 : AV) (v_10 : AV) (x_11 : Int) (x_50 : Bool) (m : Mem) (k : KX) : once Try.prog E3 Lam3 [1, 2, 7, 8, 9, 10, 11, 50] lxp3_10004 (((secsOf (bodyOf Try.f3)).filter Lam3.cut).getD 1 .skip) [v_1, v_2, (.ptr b_7 o_7), v_8, v_9, v_10, (.flat (.int .i64 x_11)), (.flat (.bool x_50))] m k = P3_10004 v_1 v_2 b_7 o_7 v_8 v_9 v_10 x_11 x_50 m (fun m' => k .normal (only [1, 2, 7, 8, 9, 10, 11] [v_1, v_2, (.ptr b_7 o_7), v_8, v_9, v_10, (.flat (.int .i64 x_11))]) m') := by
  kernel_rfl

theorem pok3_10004 : PieceOK Try.prog E3 Lam3 (((secsOf (bodyOf Try.f3)).filter Lam3.cut).getD 1 .skip) := by
  refine ⟨fun σ => ∃ v_1 v_2 b_7 o_7 v_8 v_9 v_10 x_11 x_50, σ 1 = v_1 ∧ σ 2 = v_2 ∧ σ 7 = .ptr b_7 o_7 ∧ σ 8 = v_8 ∧ σ 9 = v_9 ∧ σ 10 = v_10 ∧ σ 11 = .flat (.int .i64 x_11) ∧ σ 50 = .flat (.bool x_50), [1, 2, 7, 8, 9, 10, 11, 50], lxp3_10004, fun σ m k => ?_⟩
  have e : Lam3.piece (((secsOf (bodyOf Try.f3)).filter Lam3.cut).getD 1 .skip) σ m k = LamP3_10004 σ m k := by kernel_rfl
  rw [e]
  constructor
  · intro h
    unfold LamP3_10004 at h
    obtain ⟨v_1, h0⟩ : ∃ v, σ 1 = v := ⟨_, rfl⟩
    obtain ⟨v_2, h1⟩ : ∃ v, σ 2 = v := ⟨_, rfl⟩
    obtain ⟨b_7, o_7, h2, h⟩ := kptr_ok h
    obtain ⟨v_8, h3⟩ : ∃ v, σ 8 = v := ⟨_, rfl⟩
    obtain ⟨v_9, h4⟩ : ∃ v, σ 9 = v := ⟨_, rfl⟩
    obtain ⟨v_10, h5⟩ : ∃ v, σ 10 = v := ⟨_, rfl⟩
    obtain ⟨x_11, h6, h⟩ := kI_ok h
    obtain ⟨x_50, h7, h⟩ := kbool_ok h
    refine ⟨⟨v_1, v_2, b_7, o_7, v_8, v_9, v_10, x_11, x_50, h0, h1, h2, h3, h4, h5, h6, h7⟩, ?_⟩
    have ev : [1, 2, 7, 8, 9, 10, 11, 50].map σ = [v_1, v_2, (.ptr b_7 o_7), v_8, v_9, v_10, (.flat (.int .i64 x_11)), (.flat (.bool x_50))] := by simp only [List.map_cons, List.map_nil, h0, h1, h2, h3, h4, h5, h6, h7]
    rw [ev, pc3_10004]
    simp only [h0, h1, h3, h4, h5] at h
    exact h
  · rintro ⟨⟨v_1, v_2, b_7, o_7, v_8, v_9, v_10, x_11, x_50, h0, h1, h2, h3, h4, h5, h6, h7⟩, h⟩
    have ev : [1, 2, 7, 8, 9, 10, 11, 50].map σ = [v_1, v_2, (.ptr b_7 o_7), v_8, v_9, v_10, (.flat (.int .i64 x_11)), (.flat (.bool x_50))] := by simp only [List.map_cons, List.map_nil, h0, h1, h2, h3, h4, h5, h6, h7]
    rw [ev, pc3_10004] at h
    unfold LamP3_10004
    try simp only [h0, h1, h2, h3, h4, h5, h6, h7, kI, kbool, kS, kptr, kaggN, kite, decide_true, eq_self]
    exact h

def lxp3_9102 : Ex → List Nat := fun e => match e with
  | .normal => [1, 2, 7, 8, 9, 10, 11]
  | _ => []

theorem pc3_9102 (v_1 : AV) (v_2 : AV) (b_7 o_7 : Nat) (v_8 : AV) (v_9 : AV) (v_10 : AV) (x_11 : Int) (m : Mem) (k : KX) : once Try.prog E3 Lam3 [1, 2, 7, 8, 9, 10, 11] lxp3_9102 (((secsOf (bodyOf Try.f3)).filter Lam3.cut).getD 0 .skip) [v_1, v_2, (.ptr b_7 o_7), v_8, v_9, v_10, (.flat (.int .i64 x_11))] m k = P3_9102 v_1 v_2 b_7 o_7 v_8 v_9 v_10 x_11 m (fun m' => k .normal (only [1, 2, 7, 8, 9, 10, 11] [v_1, v_2, (.ptr b_7 o_7), v_8, v_9, v_10, (.flat (.int .i64 x_11))]) m') := by
  kernel_rfl

theorem pok3_9102 : PieceOK Try.prog E3 Lam3 (((secsOf (bodyOf Try.f3)).filter Lam3.cut).getD 0 .skip) := by
  refine ⟨fun σ => ∃ v_1 v_2 b_7 o_7 v_8 v_9 v_10 x_11, σ 1 = v_1 ∧ σ 2 = v_2 ∧ σ 7 = .ptr b_7 o_7 ∧ σ 8 = v_8 ∧ σ 9 = v_9 ∧ σ 10 = v_10 ∧ σ 11 = .flat (.int .i64 x_11), [1, 2, 7, 8, 9, 10, 11], lxp3_9102, fun σ m k => ?_⟩
  have e : Lam3.piece (((secsOf (bodyOf Try.f3)).filter Lam3.cut).getD 0 .skip) σ m k = LamP3_9102 σ m k := by kernel_rfl
  rw [e]
  constructor
  · intro h
    unfold LamP3_9102 at h
    obtain ⟨v_1, h0⟩ : ∃ v, σ 1 = v := ⟨_, rfl⟩
    obtain ⟨v_2, h1⟩ : ∃ v, σ 2 = v := ⟨_, rfl⟩
    obtain ⟨b_7, o_7, h2, h⟩ := kptr_ok h
    obtain ⟨v_8, h3⟩ : ∃ v, σ 8 = v := ⟨_, rfl⟩
    obtain ⟨v_9, h4⟩ : ∃ v, σ 9 = v := ⟨_, rfl⟩
    obtain ⟨v_10, h5⟩ : ∃ v, σ 10 = v := ⟨_, rfl⟩
    obtain ⟨x_11, h6, h⟩ := kI_ok h
    refine ⟨⟨v_1, v_2, b_7, o_7, v_8, v_9, v_10, x_11, h0, h1, h2, h3, h4, h5, h6⟩, ?_⟩
    have ev : [1, 2, 7, 8, 9, 10, 11].map σ = [v_1, v_2, (.ptr b_7 o_7), v_8, v_9, v_10, (.flat (.int .i64 x_11))] := by simp only [List.map_cons, List.map_nil, h0, h1, h2, h3, h4, h5, h6]
    rw [ev, pc3_9102]
    simp only [h0, h1, h3, h4, h5] at h
    exact h
  · rintro ⟨⟨v_1, v_2, b_7, o_7, v_8, v_9, v_10, x_11, h0, h1, h2, h3, h4, h5, h6⟩, h⟩
    have ev : [1, 2, 7, 8, 9, 10, 11].map σ = [v_1, v_2, (.ptr b_7 o_7), v_8, v_9, v_10, (.flat (.int .i64 x_11))] := by simp only [List.map_cons, List.map_nil, h0, h1, h2, h3, h4, h5, h6]
    rw [ev, pc3_9102] at h
    unfold LamP3_9102
    try simp only [h0, h1, h2, h3, h4, h5, h6, kI, kbool, kS, kptr, kaggN, kite, decide_true, eq_self]
    exact h

def lx3_5 : Ex → List Nat := fun e => match e with
  | .exit 0 => [7, 8, 9, 10]
  | _ => []

theorem round3_5 (v_1 : AV) (v_2 : AV) (b_7 o_7 : Nat) (v_8 : AV) (v_9 : AV) (v_10 : AV) (x_11 : Int) (m : Mem) (G : List AV → Mem → Prop) (k : KX) : (wpA Try.prog E3 Lam3 ((loopsOf (bodyOf Try.f3)).getD 0 .skip) (only [1, 2, 7, 8, 9, 10, 11] [v_1, v_2, (.ptr b_7 o_7), v_8, v_9, v_10, (.flat (.int .i64 x_11))]) m fun e σ' m' => match e with
    | .normal => G ([1, 2, 7, 8, 9, 10, 11].map σ') m'
    | .exit id => k (.exit id) (only (lx3_5 (.exit id)) ((lx3_5 (.exit id)).map σ')) m'
    | .ret => k .ret (only (lx3_5 .ret) ((lx3_5 .ret).map σ')) m') = R3_5 v_1 v_2 b_7 o_7 v_8 v_9 v_10 x_11 m (fun x_11' m' => G [v_1, v_2, (.ptr b_7 o_7), v_8, v_9, v_10, (.flat (.int .i64 x_11'))] m') (fun m' => k (.exit 0) (only [7, 8, 9, 10] [(.ptr b_7 o_7), v_8, v_9, v_10]) m') := by
  kernel_rfl

theorem loop3_5 (v_1 : AV) (v_2 : AV) (b_7 o_7 : Nat) (v_8 : AV) (v_9 : AV) (v_10 : AV) (k : KX) : ∀ (N : Nat) (x_11 : Int) (m : Mem), rounds Try.prog E3 Lam3 [1, 2, 7, 8, 9, 10, 11] lx3_5 ((loopsOf (bodyOf Try.f3)).getD 0 .skip) N [v_1, v_2, (.ptr b_7 o_7), v_8, v_9, v_10, (.flat (.int .i64 x_11))] m k = L3_5 v_1 v_2 b_7 o_7 v_8 v_9 v_10 N x_11 m (fun m' => k (.exit 0) (only [7, 8, 9, 10] [(.ptr b_7 o_7), v_8, v_9, v_10]) m') := by
  intro N
  induction N with
  | zero => intros; rfl
  | succ N ih =>
    intro x_11 m
    refine (round3_5 v_1 v_2 b_7 o_7 v_8 v_9 v_10 x_11 m (fun vs m' => rounds Try.prog E3 Lam3 [1, 2, 7, 8, 9, 10, 11] lx3_5 ((loopsOf (bodyOf Try.f3)).getD 0 .skip) N vs m' k) k).trans ?_
    simp only [ih]
    rfl

theorem lok3_5 : LoopOK Try.prog E3 Lam3 ((loopsOf (bodyOf Try.f3)).getD 0 .skip) := by
  refine ⟨fun σ => ∃ v_1 v_2 b_7 o_7 v_8 v_9 v_10 x_11, σ 1 = v_1 ∧ σ 2 = v_2 ∧ σ 7 = .ptr b_7 o_7 ∧ σ 8 = v_8 ∧ σ 9 = v_9 ∧ σ 10 = v_10 ∧ σ 11 = .flat (.int .i64 x_11), [1, 2, 7, 8, 9, 10, 11], lx3_5, fun σ m k => ?_⟩
  have e : Lam3.loop ((loopsOf (bodyOf Try.f3)).getD 0 .skip) σ m k = Lam3_5 σ m k := by kernel_rfl
  rw [e]
  constructor
  · intro h
    unfold Lam3_5 at h
    obtain ⟨v_1, h0⟩ : ∃ v, σ 1 = v := ⟨_, rfl⟩
    obtain ⟨v_2, h1⟩ : ∃ v, σ 2 = v := ⟨_, rfl⟩
    obtain ⟨b_7, o_7, h2, h⟩ := kptr_ok h
    obtain ⟨v_8, h3⟩ : ∃ v, σ 8 = v := ⟨_, rfl⟩
    obtain ⟨v_9, h4⟩ : ∃ v, σ 9 = v := ⟨_, rfl⟩
    obtain ⟨v_10, h5⟩ : ∃ v, σ 10 = v := ⟨_, rfl⟩
    obtain ⟨x_11, h6, h⟩ := kI_ok h
    obtain ⟨N, h⟩ := h
    refine ⟨⟨v_1, v_2, b_7, o_7, v_8, v_9, v_10, x_11, h0, h1, h2, h3, h4, h5, h6⟩, N, ?_⟩
    have ev : [1, 2, 7, 8, 9, 10, 11].map σ = [v_1, v_2, (.ptr b_7 o_7), v_8, v_9, v_10, (.flat (.int .i64 x_11))] := by simp only [List.map_cons, List.map_nil, h0, h1, h2, h3, h4, h5, h6]
    rw [ev, loop3_5]
    simp only [h0, h1, h3, h4, h5] at h
    exact h
  · rintro ⟨⟨v_1, v_2, b_7, o_7, v_8, v_9, v_10, x_11, h0, h1, h2, h3, h4, h5, h6⟩, N, h⟩
    have ev : [1, 2, 7, 8, 9, 10, 11].map σ = [v_1, v_2, (.ptr b_7 o_7), v_8, v_9, v_10, (.flat (.int .i64 x_11))] := by simp only [List.map_cons, List.map_nil, h0, h1, h2, h3, h4, h5, h6]
    rw [ev, loop3_5] at h
    unfold Lam3_5
    try simp only [h0, h1, h2, h3, h4, h5, h6, kI, kbool, kS, kptr, kaggN, kite, decide_true, eq_self]
    exact ⟨N, h⟩

theorem eqn3 (c_0 : Nat → AV) (v_1 : AV) (v_2 : AV) (m : Mem) (k : KV) : bodyK Try.prog E3 Lam3 Try.f3 false [(.agg 7 c_0), v_1, v_2] m k = F3 c_0 v_1 v_2 m (fun x_1000 m' => k (.flat (.bool x_1000)) m') := by
  kernel_rfl

theorem fs3 (w0 : World) : FS Try.prog w0 3 G3 := by
  refine (fs_body (Γ := E3) (sound_env (l := [(4, G4), (5, G5), (6, G6), (7, G7), (8, G8)]) w0 (by
    intro p hp
    simp only [List.mem_cons, List.not_mem_nil, or_false] at hp
    rcases hp with rfl | rfl | rfl | rfl | rfl
    · exact fs4 w0
    · exact fs5 w0
    · exact fs6 w0
    · exact fs7 w0
    · exact fs8 w0)) (by kernel_rfl) Try.func3 (Λ := Lam3) (c := (bodyOf Try.f3)) (by kernel_rfl) Try.call3 (by kernel_rfl) (LS_of (bodyOf Try.f3) 2 (by kernel_rfl) (by
    intro i hi
    match i, hi with
    | 0, _ => exact lok3_5
    | 1, _ => exact lok3_16
    | i + 2, hi => omega) 2 (by kernel_rfl) (by
    intro i hi
    match i, hi with
    | 0, _ => exact pok3_9102
    | 1, _ => exact pok3_10004
    | i + 2, hi => omega)) false (np := 3) (Nat.le_of_ble_eq_true (by kernel_rfl))).imp fun args => ?_
  by_cases hl : args.length = 3
  rotate_left
  · exact .inr fun m k hk => by
      unfold G3 at hk
      split at hk
      · exact hl rfl
      · exact hk
  obtain ⟨a0, a1, a2, rfl⟩ : ∃ a0 a1 a2, args = [a0, a1, a2] := len_list3 hl
  rcases kaggN_or 7 a0 with ⟨c_0, rfl⟩ | h
  rotate_left
  · exact .inr fun m k hk => h _ (by simpa only [G3, kI, kbool, kS, kptr, kaggN, kite, decide_true, eq_self] using hk)
  exact .inl fun m k => propext ⟨fun h => ⟨rfl, by rw [eqn3]; simpa only [G3, kI, kbool, kS, kptr, kaggN, kite, decide_true, eq_self] using h⟩, fun h => by have h := h.2; rw [eqn3] at h; simpa only [G3, kI, kbool, kS, kptr, kaggN, kite, decide_true, eq_self] using h⟩

end Go.Proofs.Ytkgidjnaddjjbaa.Am
