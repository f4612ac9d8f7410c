/- What Go functions ask of what follows them, as plain functions over the abstract machine; the machine asks just that. Written by gen.py. -/
import Derived.Test.YtimbfflnlalanaaProg
import Derived.Test.YtimbfflnlalanaaAmL
import Derived.Test.YtimbfflnlalanaaM0
namespace Go.Proofs.Ytimbfflnlalanaa.Am
set_option linter.unusedVariables false
set_option linter.unusedSimpArgs false
set_option maxRecDepth 100000

def P17_23102 (x_1 : Int) (x_2 : Int) (m : Mem) (kr : Int → Mem → Prop) : Prop :=
  F34 x_1 x_2 true m fun x27 x28 m29 => kr x28 m29

def P17_18004 (x_0 : Int) (x_1 : Int) (x_2 : Int) (x_9 : Int) (x_43 : Bool) (m : Mem) (kr : Int → Mem → Prop) (kn : Mem → Prop) : Prop :=
  kif x_43 (F20 x_1 x_2 (x_0 == 30) m fun x1 m2 => F31 x1 m2 fun x3 m4 => kr x3 m4) (kif (x_9 == 64) (F32 x_1 m fun x5 m6 => kr (IntKind.wrap .u32 x5) m6) (kif (x_9 == 65) (F33 x_1 m fun x7 m8 => kr (IntKind.wrap .u32 x7) m8) (kn  m)))

def P17_7004 (x_0 : Int) (x_1 : Int) (x_2 : Int) (x_9 : Int) (x_16 : Bool) (m : Mem) (kr : Int → Mem → Prop) (kn : Mem → Prop) : Prop :=
  kif x_16 (kr (IntKind.wrap .u32 (x_1 - x_2)) m) (kif (x_9 == 26) (kr (bits .and .u32 x_1 x_2) m) (kif (x_9 == 27) (kr (bits .or .u32 x_1 x_2) m) (kif (x_9 == 28) (kr (bits .xor .u32 x_1 x_2) m) (kif (x_9 == 29) (kr (bits .xor .u32 4294967295 (bits .or .u32 x_1 x_2)) m) (kif (x_9 == 30) (P17_18004 x_0 x_1 x_2 x_9 (x_9 == 30) m (fun x9 m10 => kr x9 m10) (fun m11 => kn  m11)) (P17_18004 x_0 x_1 x_2 x_9 (x_9 == 31) m (fun x12 m13 => kr x12 m13) (fun m14 => kn  m14)))))))

def P17_4004 (x_0 : Int) (x_1 : Int) (x_2 : Int) (x_9 : Int) (x_10 : Bool) (m : Mem) (kr : Int → Mem → Prop) (kn : Mem → Prop) : Prop :=
  kif x_10 (kr (IntKind.wrap .u32 (x_1 + x_2)) m) (kif (x_9 == 24) (P17_7004 x_0 x_1 x_2 x_9 (x_9 == 24) m (fun x15 m16 => kr x15 m16) (fun m17 => kn  m17)) (P17_7004 x_0 x_1 x_2 x_9 (x_9 == 25) m (fun x18 m19 => kr x18 m19) (fun m20 => kn  m20)))

/-- pianola/alu.of -/
def F17 (x_0 : Int) (x_1 : Int) (x_2 : Int) (m : Mem) (k : Int → Mem → Prop) : Prop :=
  kif (x_0 == 22) (P17_4004 x_0 x_1 x_2 x_0 (x_0 == 22) m (fun x21 m22 => (Keeps m m22 ∧ k x21 m)) (fun m23 => P17_23102 x_1 x_2 m23 (fun x30 m31 => (Keeps m m31 ∧ k x30 m)))) (P17_4004 x_0 x_1 x_2 x_0 (x_0 == 23) m (fun x24 m25 => (Keeps m m25 ∧ k x24 m)) (fun m26 => P17_23102 x_1 x_2 m26 (fun x32 m33 => (Keeps m m33 ∧ k x32 m))))

def G17 (args : List AV) (m : Mem) (k : KV) : Prop := match args with
  | [a0, a1, a2] => kI .i64 a0 fun x_0 => kI .u32 a1 fun x_1 => kI .u32 a2 fun x_2 => F17 x_0 x_1 x_2 m (fun x_1000 m' => k (.flat (.int .u32 x_1000)) m')
  | _ => False

def E17 : Env := envOf [(20, G20), (31, G31), (32, G32), (33, G33), (34, G34)]

def LamP17_4004 (σ : Nat → AV) (m : Mem) (k : KX) : Prop := kI .i64 (σ 0) fun x_0 => kI .u32 (σ 1) fun x_1 => kI .u32 (σ 2) fun x_2 => kI .i64 (σ 9) fun x_9 => kbool (σ 10) fun x_10 => P17_4004 x_0 x_1 x_2 x_9 x_10 m (fun x_6' m' => k .ret (only [6] [(.flat (.int .u32 x_6'))]) m') (fun m' => k .normal (only [1, 2] [(.flat (.int .u32 x_1)), (.flat (.int .u32 x_2))]) m')

def LamP17_7004 (σ : Nat → AV) (m : Mem) (k : KX) : Prop := kI .i64 (σ 0) fun x_0 => kI .u32 (σ 1) fun x_1 => kI .u32 (σ 2) fun x_2 => kI .i64 (σ 9) fun x_9 => kbool (σ 16) fun x_16 => P17_7004 x_0 x_1 x_2 x_9 x_16 m (fun x_6' m' => k .ret (only [6] [(.flat (.int .u32 x_6'))]) m') (fun m' => k .normal (only [1, 2] [(.flat (.int .u32 x_1)), (.flat (.int .u32 x_2))]) m')

def LamP17_18004 (σ : Nat → AV) (m : Mem) (k : KX) : Prop := kI .i64 (σ 0) fun x_0 => kI .u32 (σ 1) fun x_1 => kI .u32 (σ 2) fun x_2 => kI .i64 (σ 9) fun x_9 => kbool (σ 43) fun x_43 => P17_18004 x_0 x_1 x_2 x_9 x_43 m (fun x_6' m' => k .ret (only [6] [(.flat (.int .u32 x_6'))]) m') (fun m' => k .normal (only [1, 2] [(.flat (.int .u32 x_1)), (.flat (.int .u32 x_2))]) m')

def LamP17_23102 (σ : Nat → AV) (m : Mem) (k : KX) : Prop := kI .u32 (σ 1) fun x_1 => kI .u32 (σ 2) fun x_2 => P17_23102 x_1 x_2 m (fun x_6' m' => k .ret (only [6] [(.flat (.int .u32 x_6'))]) m')

def Lam17 : LEnv := ⟨fun a σ m k => match firstReg a with
  | _ => bump False,
  fun id => match id with
  | _ => bump false,
  fun b => match keyC b with
  | some 4004 => true
  | some 7004 => true
  | some 18004 => true
  | some 23102 => true
  | _ => bump false,
  fun b σ m k => match keyC b with
  | some 4004 => LamP17_4004 σ m k
  | some 7004 => LamP17_7004 σ m k
  | some 18004 => LamP17_18004 σ m k
  | some 23102 => LamP17_23102 σ m k
  | _ => bump False⟩

def lxp17_23102 : Ex → List Nat := fun e => match e with
  | .ret => [6]
  | _ => []

theorem pc17_23102 (x_1 : Int) (x_2 : Int) (m : Mem) (k : KX) : once Try.prog E17 Lam17 [1, 2] lxp17_23102 (((secsOf (bodyOf Try.f17)).filter Lam17.cut).getD 0 .skip) [(.flat (.int .u32 x_1)), (.flat (.int .u32 x_2))] m k = P17_23102 x_1 x_2 m (fun x_6' m' => k .ret (only [6] [(.flat (.int .u32 x_6'))]) m') := by
  kernel_rfl

theorem pok17_23102 : PieceOK Try.prog E17 Lam17 (((secsOf (bodyOf Try.f17)).filter Lam17.cut).getD 0 .skip) := by
  refine ⟨fun σ => ∃ x_1 x_2, σ 1 = .flat (.int .u32 x_1) ∧ σ 2 = .flat (.int .u32 x_2), [1, 2], lxp17_23102, fun σ m k => ?_⟩
  have e : Lam17.piece (((secsOf (bodyOf Try.f17)).filter Lam17.cut).getD 0 .skip) σ m k = LamP17_23102 σ m k := by kernel_rfl
  rw [e]
  constructor
  · intro h
    unfold LamP17_23102 at h
    obtain ⟨x_1, h0, h⟩ := kI_ok h
    obtain ⟨x_2, h1, h⟩ := kI_ok h
    refine ⟨⟨x_1, x_2, h0, h1⟩, ?_⟩
    have ev : [1, 2].map σ = [(.flat (.int .u32 x_1)), (.flat (.int .u32 x_2))] := by simp only [List.map_cons, List.map_nil, h0, h1]
    rw [ev, pc17_23102]
    exact h
  · rintro ⟨⟨x_1, x_2, h0, h1⟩, h⟩
    have ev : [1, 2].map σ = [(.flat (.int .u32 x_1)), (.flat (.int .u32 x_2))] := by simp only [List.map_cons, List.map_nil, h0, h1]
    rw [ev, pc17_23102] at h
    unfold LamP17_23102
    try simp only [h0, h1, kI, kbool, kS, kptr, kaggN, kite, decide_true, eq_self]
    exact h

def lxp17_18004 : Ex → List Nat := fun e => match e with
  | .ret => [6]
  | .normal => [1, 2]
  | _ => []

theorem pc17_18004 (x_0 : Int) (x_1 : Int) (x_2 : Int) (x_9 : Int) (x_43 : Bool) (m : Mem) (k : KX) : once Try.prog E17 Lam17 [0, 1, 2, 9, 43] lxp17_18004 (((secsOf (bodyOf Try.f17)).filter Lam17.cut).getD 3 .skip) [(.flat (.int .i64 x_0)), (.flat (.int .u32 x_1)), (.flat (.int .u32 x_2)), (.flat (.int .i64 x_9)), (.flat (.bool x_43))] m k = P17_18004 x_0 x_1 x_2 x_9 x_43 m (fun x_6' m' => k .ret (only [6] [(.flat (.int .u32 x_6'))]) m') (fun m' => k .normal (only [1, 2] [(.flat (.int .u32 x_1)), (.flat (.int .u32 x_2))]) m') := by
  kernel_rfl

theorem pok17_18004 : PieceOK Try.prog E17 Lam17 (((secsOf (bodyOf Try.f17)).filter Lam17.cut).getD 3 .skip) := by
  refine ⟨fun σ => ∃ x_0 x_1 x_2 x_9 x_43, σ 0 = .flat (.int .i64 x_0) ∧ σ 1 = .flat (.int .u32 x_1) ∧ σ 2 = .flat (.int .u32 x_2) ∧ σ 9 = .flat (.int .i64 x_9) ∧ σ 43 = .flat (.bool x_43), [0, 1, 2, 9, 43], lxp17_18004, fun σ m k => ?_⟩
  have e : Lam17.piece (((secsOf (bodyOf Try.f17)).filter Lam17.cut).getD 3 .skip) σ m k = LamP17_18004 σ m k := by kernel_rfl
  rw [e]
  constructor
  · intro h
    unfold LamP17_18004 at h
    obtain ⟨x_0, h0, h⟩ := kI_ok h
    obtain ⟨x_1, h1, h⟩ := kI_ok h
    obtain ⟨x_2, h2, h⟩ := kI_ok h
    obtain ⟨x_9, h3, h⟩ := kI_ok h
    obtain ⟨x_43, h4, h⟩ := kbool_ok h
    refine ⟨⟨x_0, x_1, x_2, x_9, x_43, h0, h1, h2, h3, h4⟩, ?_⟩
    have ev : [0, 1, 2, 9, 43].map σ = [(.flat (.int .i64 x_0)), (.flat (.int .u32 x_1)), (.flat (.int .u32 x_2)), (.flat (.int .i64 x_9)), (.flat (.bool x_43))] := by simp only [List.map_cons, List.map_nil, h0, h1, h2, h3, h4]
    rw [ev, pc17_18004]
    exact h
  · rintro ⟨⟨x_0, x_1, x_2, x_9, x_43, h0, h1, h2, h3, h4⟩, h⟩
    have ev : [0, 1, 2, 9, 43].map σ = [(.flat (.int .i64 x_0)), (.flat (.int .u32 x_1)), (.flat (.int .u32 x_2)), (.flat (.int .i64 x_9)), (.flat (.bool x_43))] := by simp only [List.map_cons, List.map_nil, h0, h1, h2, h3, h4]
    rw [ev, pc17_18004] at h
    unfold LamP17_18004
    try simp only [h0, h1, h2, h3, h4, kI, kbool, kS, kptr, kaggN, kite, decide_true, eq_self]
    exact h

def lxp17_7004 : Ex → List Nat := fun e => match e with
  | .ret => [6]
  | .normal => [1, 2]
  | _ => []

theorem pc17_7004 (x_0 : Int) (x_1 : Int) (x_2 : Int) (x_9 : Int) (x_16 : Bool) (m : Mem) (k : KX) : once Try.prog E17 Lam17 [0, 1, 2, 9, 16] lxp17_7004 (((secsOf (bodyOf Try.f17)).filter Lam17.cut).getD 2 .skip) [(.flat (.int .i64 x_0)), (.flat (.int .u32 x_1)), (.flat (.int .u32 x_2)), (.flat (.int .i64 x_9)), (.flat (.bool x_16))] m k = P17_7004 x_0 x_1 x_2 x_9 x_16 m (fun x_6' m' => k .ret (only [6] [(.flat (.int .u32 x_6'))]) m') (fun m' => k .normal (only [1, 2] [(.flat (.int .u32 x_1)), (.flat (.int .u32 x_2))]) m') := by
  kernel_rfl

theorem pok17_7004 : PieceOK Try.prog E17 Lam17 (((secsOf (bodyOf Try.f17)).filter Lam17.cut).getD 2 .skip) := by
  refine ⟨fun σ => ∃ x_0 x_1 x_2 x_9 x_16, σ 0 = .flat (.int .i64 x_0) ∧ σ 1 = .flat (.int .u32 x_1) ∧ σ 2 = .flat (.int .u32 x_2) ∧ σ 9 = .flat (.int .i64 x_9) ∧ σ 16 = .flat (.bool x_16), [0, 1, 2, 9, 16], lxp17_7004, fun σ m k => ?_⟩
  have e : Lam17.piece (((secsOf (bodyOf Try.f17)).filter Lam17.cut).getD 2 .skip) σ m k = LamP17_7004 σ m k := by kernel_rfl
  rw [e]
  constructor
  · intro h
    unfold LamP17_7004 at h
    obtain ⟨x_0, h0, h⟩ := kI_ok h
    obtain ⟨x_1, h1, h⟩ := kI_ok h
    obtain ⟨x_2, h2, h⟩ := kI_ok h
    obtain ⟨x_9, h3, h⟩ := kI_ok h
    obtain ⟨x_16, h4, h⟩ := kbool_ok h
    refine ⟨⟨x_0, x_1, x_2, x_9, x_16, h0, h1, h2, h3, h4⟩, ?_⟩
    have ev : [0, 1, 2, 9, 16].map σ = [(.flat (.int .i64 x_0)), (.flat (.int .u32 x_1)), (.flat (.int .u32 x_2)), (.flat (.int .i64 x_9)), (.flat (.bool x_16))] := by simp only [List.map_cons, List.map_nil, h0, h1, h2, h3, h4]
    rw [ev, pc17_7004]
    exact h
  · rintro ⟨⟨x_0, x_1, x_2, x_9, x_16, h0, h1, h2, h3, h4⟩, h⟩
    have ev : [0, 1, 2, 9, 16].map σ = [(.flat (.int .i64 x_0)), (.flat (.int .u32 x_1)), (.flat (.int .u32 x_2)), (.flat (.int .i64 x_9)), (.flat (.bool x_16))] := by simp only [List.map_cons, List.map_nil, h0, h1, h2, h3, h4]
    rw [ev, pc17_7004] at h
    unfold LamP17_7004
    try simp only [h0, h1, h2, h3, h4, kI, kbool, kS, kptr, kaggN, kite, decide_true, eq_self]
    exact h

def lxp17_4004 : Ex → List Nat := fun e => match e with
  | .ret => [6]
  | .normal => [1, 2]
  | _ => []

theorem pc17_4004 (x_0 : Int) (x_1 : Int) (x_2 : Int) (x_9 : Int) (x_10 : Bool) (m : Mem) (k : KX) : once Try.prog E17 Lam17 [0, 1, 2, 9, 10] lxp17_4004 (((secsOf (bodyOf Try.f17)).filter Lam17.cut).getD 1 .skip) [(.flat (.int .i64 x_0)), (.flat (.int .u32 x_1)), (.flat (.int .u32 x_2)), (.flat (.int .i64 x_9)), (.flat (.bool x_10))] m k = P17_4004 x_0 x_1 x_2 x_9 x_10 m (fun x_6' m' => k .ret (only [6] [(.flat (.int .u32 x_6'))]) m') (fun m' => k .normal (only [1, 2] [(.flat (.int .u32 x_1)), (.flat (.int .u32 x_2))]) m') := by
  kernel_rfl

theorem pok17_4004 : PieceOK Try.prog E17 Lam17 (((secsOf (bodyOf Try.f17)).filter Lam17.cut).getD 1 .skip) := by
  refine ⟨fun σ => ∃ x_0 x_1 x_2 x_9 x_10, σ 0 = .flat (.int .i64 x_0) ∧ σ 1 = .flat (.int .u32 x_1) ∧ σ 2 = .flat (.int .u32 x_2) ∧ σ 9 = .flat (.int .i64 x_9) ∧ σ 10 = .flat (.bool x_10), [0, 1, 2, 9, 10], lxp17_4004, fun σ m k => ?_⟩
  have e : Lam17.piece (((secsOf (bodyOf Try.f17)).filter Lam17.cut).getD 1 .skip) σ m k = LamP17_4004 σ m k := by kernel_rfl
  rw [e]
  constructor
  · intro h
    unfold LamP17_4004 at h
    obtain ⟨x_0, h0, h⟩ := kI_ok h
    obtain ⟨x_1, h1, h⟩ := kI_ok h
    obtain ⟨x_2, h2, h⟩ := kI_ok h
    obtain ⟨x_9, h3, h⟩ := kI_ok h
    obtain ⟨x_10, h4, h⟩ := kbool_ok h
    refine ⟨⟨x_0, x_1, x_2, x_9, x_10, h0, h1, h2, h3, h4⟩, ?_⟩
    have ev : [0, 1, 2, 9, 10].map σ = [(.flat (.int .i64 x_0)), (.flat (.int .u32 x_1)), (.flat (.int .u32 x_2)), (.flat (.int .i64 x_9)), (.flat (.bool x_10))] := by simp only [List.map_cons, List.map_nil, h0, h1, h2, h3, h4]
    rw [ev, pc17_4004]
    exact h
  · rintro ⟨⟨x_0, x_1, x_2, x_9, x_10, h0, h1, h2, h3, h4⟩, h⟩
    have ev : [0, 1, 2, 9, 10].map σ = [(.flat (.int .i64 x_0)), (.flat (.int .u32 x_1)), (.flat (.int .u32 x_2)), (.flat (.int .i64 x_9)), (.flat (.bool x_10))] := by simp only [List.map_cons, List.map_nil, h0, h1, h2, h3, h4]
    rw [ev, pc17_4004] at h
    unfold LamP17_4004
    try simp only [h0, h1, h2, h3, h4, kI, kbool, kS, kptr, kaggN, kite, decide_true, eq_self]
    exact h

theorem eqn17 (x_0 : Int) (x_1 : Int) (x_2 : Int) (m : Mem) (k : KV) : bodyK Try.prog E17 Lam17 Try.f17 true [(.flat (.int .i64 x_0)), (.flat (.int .u32 x_1)), (.flat (.int .u32 x_2))] m k = F17 x_0 x_1 x_2 m (fun x_1000 m' => k (.flat (.int .u32 x_1000)) m') := by
  kernel_rfl

theorem fs17 (w0 : World) : FS Try.prog w0 17 G17 := by
  refine (fs_body (Γ := E17) (sound_env (l := [(20, G20), (31, G31), (32, G32), (33, G33), (34, G34)]) w0 (by
    intro p hp
    simp only [List.mem_cons, List.not_mem_nil, or_false] at hp
    rcases hp with rfl | rfl | rfl | rfl | rfl
    · exact fs20 w0
    · exact fs31 w0
    · exact fs32 w0
    · exact fs33 w0
    · exact fs34 w0)) (by kernel_rfl) Try.func17 (Λ := Lam17) (c := (bodyOf Try.f17)) (by kernel_rfl) Try.call17 (by kernel_rfl) (LS_of (bodyOf Try.f17) 0 (by kernel_rfl) (fun i hi => absurd hi (Nat.not_lt_zero i)) 4 (by kernel_rfl) (by
    intro i hi
    match i, hi with
    | 0, _ => exact pok17_23102
    | 1, _ => exact pok17_4004
    | 2, _ => exact pok17_7004
    | 3, _ => exact pok17_18004
    | i + 4, hi => omega)) true (np := 3) (Nat.le_of_ble_eq_true (by kernel_rfl))).imp fun args => ?_
  by_cases hl : args.length = 3
  rotate_left
  · exact .inr fun m k hk => by
      unfold G17 at hk
      split at hk
      · exact hl rfl
      · exact hk
  obtain ⟨a0, a1, a2, rfl⟩ : ∃ a0 a1 a2, args = [a0, a1, a2] := len_list3 hl
  rcases kI_or .i64 a0 with ⟨x_0, rfl⟩ | h
  rotate_left
  · exact .inr fun m k hk => h _ (by simpa only [G17, kI, kbool, kS, kptr, kaggN, kite, decide_true, eq_self] using hk)
  rcases kI_or .u32 a1 with ⟨x_1, rfl⟩ | h
  rotate_left
  · exact .inr fun m k hk => h _ (by simpa only [G17, kI, kbool, kS, kptr, kaggN, kite, decide_true, eq_self] using hk)
  rcases kI_or .u32 a2 with ⟨x_2, rfl⟩ | h
  rotate_left
  · exact .inr fun m k hk => h _ (by simpa only [G17, kI, kbool, kS, kptr, kaggN, kite, decide_true, eq_self] using hk)
  exact .inl fun m k => propext ⟨fun h => ⟨rfl, by rw [eqn17]; simpa only [G17, kI, kbool, kS, kptr, kaggN, kite, decide_true, eq_self] using h⟩, fun h => by have h := h.2; rw [eqn17] at h; simpa only [G17, kI, kbool, kS, kptr, kaggN, kite, decide_true, eq_self] using h⟩

def P7_10102 (x_1 : Int) (x_2 : Int) (b_3 o_3 : Nat) (m : Mem) (kr : Int → Bool → Mem → Prop) : Prop :=
  ldI .i64 m b_3 (o_3 + 0) fun x22 => F17 x22 x_1 x_2 m fun x23 m24 => kr x23 true m24

def P7_9004 (x_1 : Int) (x_2 : Int) (b_3 o_3 : Nat) (x_33 : Bool) (m : Mem) (kr : Int → Bool → Mem → Prop) (kn : Mem → Prop) : Prop :=
  kif x_33 (ldG 6 m b_3 o_3 fun c11 => F16 c11 x_1 m fun x12 m13 => kr x12 true m13) (kn  m)

/-- pianola/alu.Do -/
def F7 (c_0 : Nat → AV) (x_1 : Int) (x_2 : Int) (m : Mem) (k : Int → Bool → Mem → Prop) : Prop :=
  newK m ⟨6, c_0, 26, false⟩ fun b2 m1 => ldI .i64 m1 b2 0 fun x3 => F14 x3 m1 fun x4 m5 => kif (!x4) ((Keeps m m5 ∧ k 0 false m)) (kif (decide (x3 ≤ 3)) (ldI .i64 m5 b2 4 fun x6 => F15 x3 x_2 (bits .and .i64 x6 31) m5 fun x7 m8 => (Keeps m m8 ∧ k x7 true m)) (kif (decide (x3 ≤ 6)) (F15 x3 x_2 (IntKind.wrap .i64 (bits .and .u32 x_1 31)) m5 fun x9 m10 => (Keeps m m10 ∧ k x9 true m)) (kif (decide (x3 ≥ 46)) (P7_9004 x_1 x_2 b2 0 (decide (x3 ≤ 53)) m5 (fun x14 x15 m16 => (Keeps m m16 ∧ k x14 x15 m)) (fun m17 => P7_10102 x_1 x_2 b2 0 m17 (fun x25 x26 m27 => (Keeps m m27 ∧ k x25 x26 m)))) (P7_9004 x_1 x_2 b2 0 false m5 (fun x18 x19 m20 => (Keeps m m20 ∧ k x18 x19 m)) (fun m21 => P7_10102 x_1 x_2 b2 0 m21 (fun x28 x29 m30 => (Keeps m m30 ∧ k x28 x29 m)))))))

def G7 (args : List AV) (m : Mem) (k : KV) : Prop := match args with
  | [a0, a1, a2] => kaggN 6 a0 fun c_0 => kI .u32 a1 fun x_1 => kI .u32 a2 fun x_2 => F7 c_0 x_1 x_2 m (fun x_1000 x_1001 m' => k (.tup [(.flat (.int .u32 x_1000)), (.flat (.bool x_1001))]) m')
  | _ => False

def E7 : Env := envOf [(14, G14), (15, G15), (16, G16), (17, G17)]

def LamP7_9004 (σ : Nat → AV) (m : Mem) (k : KX) : Prop := kI .u32 (σ 1) fun x_1 => kI .u32 (σ 2) fun x_2 => kptr (σ 3) fun b_3 o_3 => kbool (σ 33) fun x_33 => P7_9004 x_1 x_2 b_3 o_3 x_33 m (fun x_6' x_7' m' => k .ret (only [6, 7] [(.flat (.int .u32 x_6')), (.flat (.bool x_7'))]) m') (fun m' => k .normal (only [1, 2, 3] [(.flat (.int .u32 x_1)), (.flat (.int .u32 x_2)), (.ptr b_3 o_3)]) m')

def LamP7_10102 (σ : Nat → AV) (m : Mem) (k : KX) : Prop := kI .u32 (σ 1) fun x_1 => kI .u32 (σ 2) fun x_2 => kptr (σ 3) fun b_3 o_3 => P7_10102 x_1 x_2 b_3 o_3 m (fun x_6' x_7' m' => k .ret (only [6, 7] [(.flat (.int .u32 x_6')), (.flat (.bool x_7'))]) m')

def Lam7 : LEnv := ⟨fun a σ m k => match firstReg a with
  | _ => bump False,
  fun id => match id with
  | _ => bump false,
  fun b => match keyC b with
  | some 9004 => true
  | some 10102 => true
  | _ => bump false,
  fun b σ m k => match keyC b with
  | some 9004 => LamP7_9004 σ m k
  | some 10102 => LamP7_10102 σ m k
  | _ => bump False⟩

def lxp7_10102 : Ex → List Nat := fun e => match e with
  | .ret => [6, 7]
  | _ => []

theorem pc7_10102 (x_1 : Int) (x_2 : Int) (b_3 o_3 : Nat) (m : Mem) (k : KX) : once Try.prog E7 Lam7 [1, 2, 3] lxp7_10102 (((secsOf (bodyOf Try.f7)).filter Lam7.cut).getD 0 .skip) [(.flat (.int .u32 x_1)), (.flat (.int .u32 x_2)), (.ptr b_3 o_3)] m k = P7_10102 x_1 x_2 b_3 o_3 m (fun x_6' x_7' m' => k .ret (only [6, 7] [(.flat (.int .u32 x_6')), (.flat (.bool x_7'))]) m') := by
  kernel_rfl

theorem pok7_10102 : PieceOK Try.prog E7 Lam7 (((secsOf (bodyOf Try.f7)).filter Lam7.cut).getD 0 .skip) := by
  refine ⟨fun σ => ∃ x_1 x_2 b_3 o_3, σ 1 = .flat (.int .u32 x_1) ∧ σ 2 = .flat (.int .u32 x_2) ∧ σ 3 = .ptr b_3 o_3, [1, 2, 3], lxp7_10102, fun σ m k => ?_⟩
  have e : Lam7.piece (((secsOf (bodyOf Try.f7)).filter Lam7.cut).getD 0 .skip) σ m k = LamP7_10102 σ m k := by kernel_rfl
  rw [e]
  constructor
  · intro h
    unfold LamP7_10102 at h
    obtain ⟨x_1, h0, h⟩ := kI_ok h
    obtain ⟨x_2, h1, h⟩ := kI_ok h
    obtain ⟨b_3, o_3, h2, h⟩ := kptr_ok h
    refine ⟨⟨x_1, x_2, b_3, o_3, h0, h1, h2⟩, ?_⟩
    have ev : [1, 2, 3].map σ = [(.flat (.int .u32 x_1)), (.flat (.int .u32 x_2)), (.ptr b_3 o_3)] := by simp only [List.map_cons, List.map_nil, h0, h1, h2]
    rw [ev, pc7_10102]
    exact h
  · rintro ⟨⟨x_1, x_2, b_3, o_3, h0, h1, h2⟩, h⟩
    have ev : [1, 2, 3].map σ = [(.flat (.int .u32 x_1)), (.flat (.int .u32 x_2)), (.ptr b_3 o_3)] := by simp only [List.map_cons, List.map_nil, h0, h1, h2]
    rw [ev, pc7_10102] at h
    unfold LamP7_10102
    try simp only [h0, h1, h2, kI, kbool, kS, kptr, kaggN, kite, decide_true, eq_self]
    exact h

def lxp7_9004 : Ex → List Nat := fun e => match e with
  | .ret => [6, 7]
  | .normal => [1, 2, 3]
  | _ => []

theorem pc7_9004 (x_1 : Int) (x_2 : Int) (b_3 o_3 : Nat) (x_33 : Bool) (m : Mem) (k : KX) : once Try.prog E7 Lam7 [1, 2, 3, 33] lxp7_9004 (((secsOf (bodyOf Try.f7)).filter Lam7.cut).getD 1 .skip) [(.flat (.int .u32 x_1)), (.flat (.int .u32 x_2)), (.ptr b_3 o_3), (.flat (.bool x_33))] m k = P7_9004 x_1 x_2 b_3 o_3 x_33 m (fun x_6' x_7' m' => k .ret (only [6, 7] [(.flat (.int .u32 x_6')), (.flat (.bool x_7'))]) m') (fun m' => k .normal (only [1, 2, 3] [(.flat (.int .u32 x_1)), (.flat (.int .u32 x_2)), (.ptr b_3 o_3)]) m') := by
  kernel_rfl

theorem pok7_9004 : PieceOK Try.prog E7 Lam7 (((secsOf (bodyOf Try.f7)).filter Lam7.cut).getD 1 .skip) := by
  refine ⟨fun σ => ∃ x_1 x_2 b_3 o_3 x_33, σ 1 = .flat (.int .u32 x_1) ∧ σ 2 = .flat (.int .u32 x_2) ∧ σ 3 = .ptr b_3 o_3 ∧ σ 33 = .flat (.bool x_33), [1, 2, 3, 33], lxp7_9004, fun σ m k => ?_⟩
  have e : Lam7.piece (((secsOf (bodyOf Try.f7)).filter Lam7.cut).getD 1 .skip) σ m k = LamP7_9004 σ m k := by kernel_rfl
  rw [e]
  constructor
  · intro h
    unfold LamP7_9004 at h
    obtain ⟨x_1, h0, h⟩ := kI_ok h
    obtain ⟨x_2, h1, h⟩ := kI_ok h
    obtain ⟨b_3, o_3, h2, h⟩ := kptr_ok h
    obtain ⟨x_33, h3, h⟩ := kbool_ok h
    refine ⟨⟨x_1, x_2, b_3, o_3, x_33, h0, h1, h2, h3⟩, ?_⟩
    have ev : [1, 2, 3, 33].map σ = [(.flat (.int .u32 x_1)), (.flat (.int .u32 x_2)), (.ptr b_3 o_3), (.flat (.bool x_33))] := by simp only [List.map_cons, List.map_nil, h0, h1, h2, h3]
    rw [ev, pc7_9004]
    exact h
  · rintro ⟨⟨x_1, x_2, b_3, o_3, x_33, h0, h1, h2, h3⟩, h⟩
    have ev : [1, 2, 3, 33].map σ = [(.flat (.int .u32 x_1)), (.flat (.int .u32 x_2)), (.ptr b_3 o_3), (.flat (.bool x_33))] := by simp only [List.map_cons, List.map_nil, h0, h1, h2, h3]
    rw [ev, pc7_9004] at h
    unfold LamP7_9004
    try simp only [h0, h1, h2, h3, kI, kbool, kS, kptr, kaggN, kite, decide_true, eq_self]
    exact h

theorem eqn7 (c_0 : Nat → AV) (x_1 : Int) (x_2 : Int) (m : Mem) (k : KV) : bodyK Try.prog E7 Lam7 Try.f7 true [(.agg 6 c_0), (.flat (.int .u32 x_1)), (.flat (.int .u32 x_2))] m k = F7 c_0 x_1 x_2 m (fun x_1000 x_1001 m' => k (.tup [(.flat (.int .u32 x_1000)), (.flat (.bool x_1001))]) m') := by
  kernel_rfl

theorem fs7 (w0 : World) : FS Try.prog w0 7 G7 := by
  refine (fs_body (Γ := E7) (sound_env (l := [(14, G14), (15, G15), (16, G16), (17, G17)]) w0 (by
    intro p hp
    simp only [List.mem_cons, List.not_mem_nil, or_false] at hp
    rcases hp with rfl | rfl | rfl | rfl
    · exact fs14 w0
    · exact fs15 w0
    · exact fs16 w0
    · exact fs17 w0)) (by kernel_rfl) Try.func7 (Λ := Lam7) (c := (bodyOf Try.f7)) (by kernel_rfl) Try.call7 (by kernel_rfl) (LS_of (bodyOf Try.f7) 0 (by kernel_rfl) (fun i hi => absurd hi (Nat.not_lt_zero i)) 2 (by kernel_rfl) (by
    intro i hi
    match i, hi with
    | 0, _ => exact pok7_10102
    | 1, _ => exact pok7_9004
    | i + 2, hi => omega)) true (np := 3) (Nat.le_of_ble_eq_true (by kernel_rfl))).imp fun args => ?_
  by_cases hl : args.length = 3
  rotate_left
  · exact .inr fun m k hk => by
      unfold G7 at hk
      split at hk
      · exact hl rfl
      · exact hk
  obtain ⟨a0, a1, a2, rfl⟩ : ∃ a0 a1 a2, args = [a0, a1, a2] := len_list3 hl
  rcases kaggN_or 6 a0 with ⟨c_0, rfl⟩ | h
  rotate_left
  · exact .inr fun m k hk => h _ (by simpa only [G7, kI, kbool, kS, kptr, kaggN, kite, decide_true, eq_self] using hk)
  rcases kI_or .u32 a1 with ⟨x_1, rfl⟩ | h
  rotate_left
  · exact .inr fun m k hk => h _ (by simpa only [G7, kI, kbool, kS, kptr, kaggN, kite, decide_true, eq_self] using hk)
  rcases kI_or .u32 a2 with ⟨x_2, rfl⟩ | h
  rotate_left
  · exact .inr fun m k hk => h _ (by simpa only [G7, kI, kbool, kS, kptr, kaggN, kite, decide_true, eq_self] using hk)
  exact .inl fun m k => propext ⟨fun h => ⟨rfl, by rw [eqn7]; simpa only [G7, kI, kbool, kS, kptr, kaggN, kite, decide_true, eq_self] using h⟩, fun h => by have h := h.2; rw [eqn7] at h; simpa only [G7, kI, kbool, kS, kptr, kaggN, kite, decide_true, eq_self] using h⟩

def P18_4102 (x_7 : Int) (m : Mem) (kr : Bool → Mem → Prop) : Prop :=
  kr (x_7 != (IntKind.wrap .i64 (IntKind.wrap .i32 x_7))) m

/-- pianola/word.Over -/
def F18 (x_0 : Int) (x_1 : Int) (x_2 : Bool) (m : Mem) (k : Bool → Mem → Prop) : Prop :=
  kif x_2 (P18_4102 (IntKind.wrap .i64 ((IntKind.wrap .i64 (IntKind.wrap .i32 x_0)) - (IntKind.wrap .i64 (IntKind.wrap .i32 x_1)))) m (fun x1 m2 => (Keeps m m2 ∧ k x1 m))) (P18_4102 (IntKind.wrap .i64 ((IntKind.wrap .i64 (IntKind.wrap .i32 x_0)) + (IntKind.wrap .i64 (IntKind.wrap .i32 x_1)))) m (fun x3 m4 => (Keeps m m4 ∧ k x3 m)))

def G18 (args : List AV) (m : Mem) (k : KV) : Prop := match args with
  | [a0, a1, a2] => kI .u32 a0 fun x_0 => kI .u32 a1 fun x_1 => kbool a2 fun x_2 => F18 x_0 x_1 x_2 m (fun x_1000 m' => k (.flat (.bool x_1000)) m')
  | _ => False

def E18 : Env := envOf []

def LamP18_4102 (σ : Nat → AV) (m : Mem) (k : KX) : Prop := kI .i64 (σ 7) fun x_7 => P18_4102 x_7 m (fun x_6' m' => k .ret (only [6] [(.flat (.bool x_6'))]) m')

def Lam18 : LEnv := ⟨fun a σ m k => match firstReg a with
  | _ => bump False,
  fun id => match id with
  | _ => bump false,
  fun b => match keyC b with
  | some 4102 => true
  | _ => bump false,
  fun b σ m k => match keyC b with
  | some 4102 => LamP18_4102 σ m k
  | _ => bump False⟩

def lxp18_4102 : Ex → List Nat := fun e => match e with
  | .ret => [6]
  | _ => []

theorem pc18_4102 (x_7 : Int) (m : Mem) (k : KX) : once Try.prog E18 Lam18 [7] lxp18_4102 (((secsOf (bodyOf Try.f18)).filter Lam18.cut).getD 0 .skip) [(.flat (.int .i64 x_7))] m k = P18_4102 x_7 m (fun x_6' m' => k .ret (only [6] [(.flat (.bool x_6'))]) m') := by
  kernel_rfl

theorem pok18_4102 : PieceOK Try.prog E18 Lam18 (((secsOf (bodyOf Try.f18)).filter Lam18.cut).getD 0 .skip) := by
  refine ⟨fun σ => ∃ x_7, σ 7 = .flat (.int .i64 x_7), [7], lxp18_4102, fun σ m k => ?_⟩
  have e : Lam18.piece (((secsOf (bodyOf Try.f18)).filter Lam18.cut).getD 0 .skip) σ m k = LamP18_4102 σ m k := by kernel_rfl
  rw [e]
  constructor
  · intro h
    unfold LamP18_4102 at h
    obtain ⟨x_7, h0, h⟩ := kI_ok h
    refine ⟨⟨x_7, h0⟩, ?_⟩
    have ev : [7].map σ = [(.flat (.int .i64 x_7))] := by simp only [List.map_cons, List.map_nil, h0]
    rw [ev, pc18_4102]
    exact h
  · rintro ⟨⟨x_7, h0⟩, h⟩
    have ev : [7].map σ = [(.flat (.int .i64 x_7))] := by simp only [List.map_cons, List.map_nil, h0]
    rw [ev, pc18_4102] at h
    unfold LamP18_4102
    try simp only [h0, kI, kbool, kS, kptr, kaggN, kite, decide_true, eq_self]
    exact h

theorem eqn18 (x_0 : Int) (x_1 : Int) (x_2 : Bool) (m : Mem) (k : KV) : bodyK Try.prog E18 Lam18 Try.f18 true [(.flat (.int .u32 x_0)), (.flat (.int .u32 x_1)), (.flat (.bool x_2))] m k = F18 x_0 x_1 x_2 m (fun x_1000 m' => k (.flat (.bool x_1000)) m') := by
  kernel_rfl

theorem fs18 (w0 : World) : FS Try.prog w0 18 G18 := by
  refine (fs_body (Γ := E18) (sound_env (l := []) w0 (by
    intro p hp
    cases hp)) (by kernel_rfl) Try.func18 (Λ := Lam18) (c := (bodyOf Try.f18)) (by kernel_rfl) Try.call18 (by kernel_rfl) (LS_of (bodyOf Try.f18) 0 (by kernel_rfl) (fun i hi => absurd hi (Nat.not_lt_zero i)) 1 (by kernel_rfl) (by
    intro i hi
    match i, hi with
    | 0, _ => exact pok18_4102
    | i + 1, hi => omega)) true (np := 3) (Nat.le_of_ble_eq_true (by kernel_rfl))).imp fun args => ?_
  by_cases hl : args.length = 3
  rotate_left
  · exact .inr fun m k hk => by
      unfold G18 at hk
      split at hk
      · exact hl rfl
      · exact hk
  obtain ⟨a0, a1, a2, rfl⟩ : ∃ a0 a1 a2, args = [a0, a1, a2] := len_list3 hl
  rcases kI_or .u32 a0 with ⟨x_0, rfl⟩ | h
  rotate_left
  · exact .inr fun m k hk => h _ (by simpa only [G18, kI, kbool, kS, kptr, kaggN, kite, decide_true, eq_self] using hk)
  rcases kI_or .u32 a1 with ⟨x_1, rfl⟩ | h
  rotate_left
  · exact .inr fun m k hk => h _ (by simpa only [G18, kI, kbool, kS, kptr, kaggN, kite, decide_true, eq_self] using hk)
  rcases kbool_or a2 with ⟨x_2, rfl⟩ | h
  rotate_left
  · exact .inr fun m k hk => h _ (by simpa only [G18, kI, kbool, kS, kptr, kaggN, kite, decide_true, eq_self] using hk)
  exact .inl fun m k => propext ⟨fun h => ⟨rfl, by rw [eqn18]; simpa only [G18, kI, kbool, kS, kptr, kaggN, kite, decide_true, eq_self] using h⟩, fun h => by have h := h.2; rw [eqn18] at h; simpa only [G18, kI, kbool, kS, kptr, kaggN, kite, decide_true, eq_self] using h⟩

def P9_4004 (x_1 : Int) (x_2 : Int) (b_3 o_3 : Nat) (x_8 : Int) (x_9 : Bool) (m : Mem) (kr : Bool → Mem → Prop) (kn : Mem → Prop) : Prop :=
  kif x_9 (ldI .i64 m b_3 (o_3 + 0) fun x4 => F18 x_1 x_2 (x4 == 24) m fun x5 m6 => kr x5 m6) (kif (x_8 == 46) (ldI .u32 m b_3 (o_3 + 5) fun x7 => F19 x7 16 m fun x8 m9 => F18 x_1 x8 false m9 fun x10 m11 => kr x10 m11) (kif (x_8 == 32) (F20 x_1 x_2 true m fun x12 m13 => kr (!x12) m13) (kif (x_8 == 33) (F20 x_1 x_2 true m fun x14 m15 => kr x14 m15) (kif (x_8 == 34) (kr (x_1 == x_2) m) (kif (x_8 == 35) (kr (x_1 != x_2) m) (kn  m))))))

/-- pianola/alu.Traps -/
def F9 (c_0 : Nat → AV) (x_1 : Int) (x_2 : Int) (m : Mem) (k : Bool → Mem → Prop) : Prop :=
  newK m ⟨6, c_0, 26, false⟩ fun b2 m1 => ldI .i64 m1 b2 0 fun x3 => kif (x3 == 22) (P9_4004 x_1 x_2 b2 0 x3 (x3 == 22) m1 (fun x16 m17 => (Keeps m m17 ∧ k x16 m)) (fun m18 => (Keeps m m18 ∧ k false m))) (P9_4004 x_1 x_2 b2 0 x3 (x3 == 24) m1 (fun x19 m20 => (Keeps m m20 ∧ k x19 m)) (fun m21 => (Keeps m m21 ∧ k false m)))

def G9 (args : List AV) (m : Mem) (k : KV) : Prop := match args with
  | [a0, a1, a2] => kaggN 6 a0 fun c_0 => kI .u32 a1 fun x_1 => kI .u32 a2 fun x_2 => F9 c_0 x_1 x_2 m (fun x_1000 m' => k (.flat (.bool x_1000)) m')
  | _ => False

def E9 : Env := envOf [(18, G18), (19, G19), (20, G20)]

def LamP9_4004 (σ : Nat → AV) (m : Mem) (k : KX) : Prop := kI .u32 (σ 1) fun x_1 => kI .u32 (σ 2) fun x_2 => kptr (σ 3) fun b_3 o_3 => kI .i64 (σ 8) fun x_8 => kbool (σ 9) fun x_9 => P9_4004 x_1 x_2 b_3 o_3 x_8 x_9 m (fun x_6' m' => k .ret (only [6] [(.flat (.bool x_6'))]) m') (fun m' => k .normal (only [] []) m')

def Lam9 : LEnv := ⟨fun a σ m k => match firstReg a with
  | _ => bump False,
  fun id => match id with
  | _ => bump false,
  fun b => match keyC b with
  | some 4004 => true
  | _ => bump false,
  fun b σ m k => match keyC b with
  | some 4004 => LamP9_4004 σ m k
  | _ => bump False⟩

def lxp9_4004 : Ex → List Nat := fun e => match e with
  | .ret => [6]
  | .normal => []
  | _ => []

theorem pc9_4004 (x_1 : Int) (x_2 : Int) (b_3 o_3 : Nat) (x_8 : Int) (x_9 : Bool) (m : Mem) (k : KX) : once Try.prog E9 Lam9 [1, 2, 3, 8, 9] lxp9_4004 (((secsOf (bodyOf Try.f9)).filter Lam9.cut).getD 0 .skip) [(.flat (.int .u32 x_1)), (.flat (.int .u32 x_2)), (.ptr b_3 o_3), (.flat (.int .i64 x_8)), (.flat (.bool x_9))] m k = P9_4004 x_1 x_2 b_3 o_3 x_8 x_9 m (fun x_6' m' => k .ret (only [6] [(.flat (.bool x_6'))]) m') (fun m' => k .normal (only [] []) m') := by
  kernel_rfl

theorem pok9_4004 : PieceOK Try.prog E9 Lam9 (((secsOf (bodyOf Try.f9)).filter Lam9.cut).getD 0 .skip) := by
  refine ⟨fun σ => ∃ x_1 x_2 b_3 o_3 x_8 x_9, σ 1 = .flat (.int .u32 x_1) ∧ σ 2 = .flat (.int .u32 x_2) ∧ σ 3 = .ptr b_3 o_3 ∧ σ 8 = .flat (.int .i64 x_8) ∧ σ 9 = .flat (.bool x_9), [1, 2, 3, 8, 9], lxp9_4004, fun σ m k => ?_⟩
  have e : Lam9.piece (((secsOf (bodyOf Try.f9)).filter Lam9.cut).getD 0 .skip) σ m k = LamP9_4004 σ m k := by kernel_rfl
  rw [e]
  constructor
  · intro h
    unfold LamP9_4004 at h
    obtain ⟨x_1, h0, h⟩ := kI_ok h
    obtain ⟨x_2, h1, h⟩ := kI_ok h
    obtain ⟨b_3, o_3, h2, h⟩ := kptr_ok h
    obtain ⟨x_8, h3, h⟩ := kI_ok h
    obtain ⟨x_9, h4, h⟩ := kbool_ok h
    refine ⟨⟨x_1, x_2, b_3, o_3, x_8, x_9, h0, h1, h2, h3, h4⟩, ?_⟩
    have ev : [1, 2, 3, 8, 9].map σ = [(.flat (.int .u32 x_1)), (.flat (.int .u32 x_2)), (.ptr b_3 o_3), (.flat (.int .i64 x_8)), (.flat (.bool x_9))] := by simp only [List.map_cons, List.map_nil, h0, h1, h2, h3, h4]
    rw [ev, pc9_4004]
    exact h
  · rintro ⟨⟨x_1, x_2, b_3, o_3, x_8, x_9, h0, h1, h2, h3, h4⟩, h⟩
    have ev : [1, 2, 3, 8, 9].map σ = [(.flat (.int .u32 x_1)), (.flat (.int .u32 x_2)), (.ptr b_3 o_3), (.flat (.int .i64 x_8)), (.flat (.bool x_9))] := by simp only [List.map_cons, List.map_nil, h0, h1, h2, h3, h4]
    rw [ev, pc9_4004] at h
    unfold LamP9_4004
    try simp only [h0, h1, h2, h3, h4, kI, kbool, kS, kptr, kaggN, kite, decide_true, eq_self]
    exact h

theorem eqn9 (c_0 : Nat → AV) (x_1 : Int) (x_2 : Int) (m : Mem) (k : KV) : bodyK Try.prog E9 Lam9 Try.f9 true [(.agg 6 c_0), (.flat (.int .u32 x_1)), (.flat (.int .u32 x_2))] m k = F9 c_0 x_1 x_2 m (fun x_1000 m' => k (.flat (.bool x_1000)) m') := by
  kernel_rfl

theorem fs9 (w0 : World) : FS Try.prog w0 9 G9 := by
  refine (fs_body (Γ := E9) (sound_env (l := [(18, G18), (19, G19), (20, G20)]) w0 (by
    intro p hp
    simp only [List.mem_cons, List.not_mem_nil, or_false] at hp
    rcases hp with rfl | rfl | rfl
    · exact fs18 w0
    · exact fs19 w0
    · exact fs20 w0)) (by kernel_rfl) Try.func9 (Λ := Lam9) (c := (bodyOf Try.f9)) (by kernel_rfl) Try.call9 (by kernel_rfl) (LS_of (bodyOf Try.f9) 0 (by kernel_rfl) (fun i hi => absurd hi (Nat.not_lt_zero i)) 1 (by kernel_rfl) (by
    intro i hi
    match i, hi with
    | 0, _ => exact pok9_4004
    | i + 1, hi => omega)) true (np := 3) (Nat.le_of_ble_eq_true (by kernel_rfl))).imp fun args => ?_
  by_cases hl : args.length = 3
  rotate_left
  · exact .inr fun m k hk => by
      unfold G9 at hk
      split at hk
      · exact hl rfl
      · exact hk
  obtain ⟨a0, a1, a2, rfl⟩ : ∃ a0 a1 a2, args = [a0, a1, a2] := len_list3 hl
  rcases kaggN_or 6 a0 with ⟨c_0, rfl⟩ | h
  rotate_left
  · exact .inr fun m k hk => h _ (by simpa only [G9, kI, kbool, kS, kptr, kaggN, kite, decide_true, eq_self] using hk)
  rcases kI_or .u32 a1 with ⟨x_1, rfl⟩ | h
  rotate_left
  · exact .inr fun m k hk => h _ (by simpa only [G9, kI, kbool, kS, kptr, kaggN, kite, decide_true, eq_self] using hk)
  rcases kI_or .u32 a2 with ⟨x_2, rfl⟩ | h
  rotate_left
  · exact .inr fun m k hk => h _ (by simpa only [G9, kI, kbool, kS, kptr, kaggN, kite, decide_true, eq_self] using hk)
  exact .inl fun m k => propext ⟨fun h => ⟨rfl, by rw [eqn9]; simpa only [G9, kI, kbool, kS, kptr, kaggN, kite, decide_true, eq_self] using h⟩, fun h => by have h := h.2; rw [eqn9] at h; simpa only [G9, kI, kbool, kS, kptr, kaggN, kite, decide_true, eq_self] using h⟩

/-- pianola/pianolalaw4.known -/
def F8  (m : Mem) (k : Bool → Mem → Prop) : Prop :=
  F7 (upd (Z6) 0 (.flat (.int .i64 29))) 0 0 m fun x1 x2 m3 => F7 (upd (Z6) 0 (.flat (.int .i64 40))) 1 2 m3 fun x4 x5 m6 => kif (x1 == 4294967295) (kif x2 (kif (!x5) (F9 (upd (Z6) 0 (.flat (.int .i64 22))) 2147483647 1 m6 fun x7 m8 => kif x7 (F9 (upd (Z6) 0 (.flat (.int .i64 23))) 2147483647 1 m8 fun x9 m10 => (Keeps m m10 ∧ k (!x9) m)) ((Keeps m m8 ∧ k false m))) ((Keeps m m6 ∧ k false m))) ((Keeps m m6 ∧ k false m))) ((Keeps m m6 ∧ k false m))

def G8 (args : List AV) (m : Mem) (k : KV) : Prop := match args with
  | [] => F8  m (fun x_1000 m' => k (.flat (.bool x_1000)) m')
  | _ => False

def E8 : Env := envOf [(7, G7), (9, G9)]

def Lam8 : LEnv := ⟨fun a σ m k => match firstReg a with
  | _ => bump False,
  fun id => match id with
  | _ => bump false,
  fun b => match keyC b with
  | _ => bump false,
  fun b σ m k => match keyC b with
  | _ => bump False⟩

theorem eqn8  (m : Mem) (k : KV) : bodyK Try.prog E8 Lam8 Try.f8 true [] m k = F8  m (fun x_1000 m' => k (.flat (.bool x_1000)) m') := by
  kernel_rfl

theorem fs8 (w0 : World) : FS Try.prog w0 8 G8 := by
  refine (fs_body (Γ := E8) (sound_env (l := [(7, G7), (9, G9)]) w0 (by
    intro p hp
    simp only [List.mem_cons, List.not_mem_nil, or_false] at hp
    rcases hp with rfl | rfl
    · exact fs7 w0
    · exact fs9 w0)) (by kernel_rfl) Try.func8 (Λ := Lam8) (c := (bodyOf Try.f8)) (by kernel_rfl) Try.call8 (by kernel_rfl) (LS_of (bodyOf Try.f8) 0 (by kernel_rfl) (fun i hi => absurd hi (Nat.not_lt_zero i)) 0 (by kernel_rfl) (fun i hi => absurd hi (Nat.not_lt_zero i))) true (np := 0) (Nat.le_of_ble_eq_true (by kernel_rfl))).imp fun args => ?_
  by_cases hl : args.length = 0
  rotate_left
  · exact .inr fun m k hk => by
      unfold G8 at hk
      split at hk
      · exact hl rfl
      · exact hk
  obtain rfl : args = [] := len_list0 hl

  exact .inl fun m k => propext ⟨fun h => ⟨rfl, by rw [eqn8]; simpa only [G8, kI, kbool, kS, kptr, kaggN, kite, decide_true, eq_self] using h⟩, fun h => by have h := h.2; rw [eqn8] at h; simpa only [G8, kI, kbool, kS, kptr, kaggN, kite, decide_true, eq_self] using h⟩

def R4_23 (x_0 : Int) (x_21 : Int) (v_128 : AV) (x_129 : Int) (x_130 : Int) (m : Mem) (kn : Int → Mem → Prop) (k4 : Mem → Prop) (kr : Bool → Mem → Prop) : Prop :=
  kif (decide (x_130 < x_129)) (ksl v_128 fun b54 o55 l56 p57 => kif (decide (0 ≤ x_130) && decide (x_130 < l56)) (ldG 2 m b54 (o55 + (x_130).toNat * 2) fun c58 => newK m ⟨2, lget [(.flat (.int .i64 0)), (.flat (.int .i64 0))], 30, false⟩ fun b60 m59 => stG 2 m59 b60 0 c58 fun m61 => ldI .i64 m61 b60 0 fun x62 => F7 (upd (upd (Z6) 0 (.flat (.int .i64 x62))) 4 (.flat (.int .i64 x_21))) 0 x_0 m61 fun x63 x64 m65 => ldI .i64 m65 b60 1 fun x66 => F7 (upd (Z6) 0 (.flat (.int .i64 x66))) (IntKind.wrap .u32 ((IntKind.wrap .u32 x_21) + 32)) x_0 m65 fun x67 x68 m69 => kif (x63 != x67) (kr false m69) (kn (IntKind.wrap .i64 (x_130 + 1)) m69)) False) (k4  m)

def L4_23 (x_0 : Int) (x_21 : Int) (v_128 : AV) (x_129 : Int) : Nat → Int → Mem → (Mem → Prop) → (Bool → Mem → Prop) → Prop
  | 0, _,  _, _, _ => bump False
  | N + 1, x_130,  m, k4, kr => R4_23 x_0 x_21 v_128 x_129 x_130 m (fun x_130' m' => L4_23 x_0 x_21 v_128 x_129 N x_130' m' k4 kr) k4 kr

def R4_14 (x_0 : Int) (x_2 : Int) (x_7 : Int) (v_93 : AV) (x_94 : Int) (x_95 : Int) (m : Mem) (kn : Int → Mem → Prop) (k2 : Mem → Prop) (kr : Bool → Mem → Prop) : Prop :=
  kif (decide (x_95 < x_94)) (ksl v_93 fun b32 o33 l34 p35 => kif (decide (0 ≤ x_95) && decide (x_95 < l34)) (ldG 2 m b32 (o33 + (x_95).toNat * 2) fun c36 => newK m ⟨2, lget [(.flat (.int .i64 0)), (.flat (.int .i64 0))], 30, false⟩ fun b38 m37 => stG 2 m37 b38 0 c36 fun m39 => ldI .i64 m39 b38 0 fun x40 => F7 (upd (upd (Z6) 0 (.flat (.int .i64 x40))) 5 (.flat (.int .u32 x_7))) x_0 9 m39 fun x41 x42 m43 => ldI .i64 m43 b38 1 fun x44 => F7 (upd (Z6) 0 (.flat (.int .i64 x44))) x_0 x_7 m43 fun x45 x46 m47 => kif (x41 != x45) (kr false m47) (kn (IntKind.wrap .i64 (x_95 + 1)) m47)) False) (k2  m)

def L4_14 (x_0 : Int) (x_2 : Int) (x_7 : Int) (v_93 : AV) (x_94 : Int) : Nat → Int → Mem → (Mem → Prop) → (Bool → Mem → Prop) → Prop
  | 0, _,  _, _, _ => bump False
  | N + 1, x_95,  m, k2, kr => R4_14 x_0 x_2 x_7 v_93 x_94 x_95 m (fun x_95' m' => L4_14 x_0 x_2 x_7 v_93 x_94 N x_95' m' k2 kr) k2 kr

def R4_6 (x_0 : Int) (x_2 : Int) (x_7 : Int) (x_8 : Int) (v_39 : AV) (x_40 : Int) (x_41 : Int) (m : Mem) (kn : Int → Mem → Prop) (k0 : Mem → Prop) (kr : Bool → Mem → Prop) : Prop :=
  kif (decide (x_41 < x_40)) (ksl v_39 fun b3 o4 l5 p6 => kif (decide (0 ≤ x_41) && decide (x_41 < l5)) (ldG 2 m b3 (o4 + (x_41).toNat * 2) fun c7 => newK m ⟨2, lget [(.flat (.int .i64 0)), (.flat (.int .i64 0))], 30, false⟩ fun b9 m8 => stG 2 m8 b9 0 c7 fun m10 => ldI .i64 m10 b9 0 fun x11 => F7 (upd (upd (Z6) 0 (.flat (.int .i64 x11))) 5 (.flat (.int .u32 x_7))) x_0 9 m10 fun x12 x13 m14 => ldI .i64 m14 b9 1 fun x15 => F7 (upd (Z6) 0 (.flat (.int .i64 x15))) x_0 x_8 m14 fun x16 x17 m18 => ∃ Fr19 : Nat → Prop, kif (!x13) (kr false m18) (kif (!x17) (kr false m18) (kif (x12 != x16) (kr false m18) (Fr19 b9 ∧ (ldI .i64 m18 b9 0 fun x20 => F9 (upd (upd (Z6) 0 (.flat (.int .i64 x20))) 5 (.flat (.int .u32 x_7))) x_0 9 m18 fun x21 m22 => KeepsIn Fr19 m18 m22 ∧ (Fr19 b9 ∧ (ldI .i64 m22 b9 1 fun x23 => F9 (upd (Z6) 0 (.flat (.int .i64 x23))) x_0 x_8 m22 fun x24 m25 => KeepsIn Fr19 m22 m25 ∧ (kif (!(x21 == x24)) (kr false m25) (kn (IntKind.wrap .i64 (x_41 + 1)) m25))))))))) False) (k0  m)

def L4_6 (x_0 : Int) (x_2 : Int) (x_7 : Int) (x_8 : Int) (v_39 : AV) (x_40 : Int) : Nat → Int → Mem → (Mem → Prop) → (Bool → Mem → Prop) → Prop
  | 0, _,  _, _, _ => bump False
  | N + 1, x_41,  m, k0, kr => R4_6 x_0 x_2 x_7 x_8 v_39 x_40 x_41 m (fun x_41' m' => L4_6 x_0 x_2 x_7 x_8 v_39 x_40 N x_41' m' k0 kr) k0 kr

def P4_5103 (x_0 : Int) (x_2 : Int) (x_7 : Int) (x_8 : Int) (m : Mem) (kr : Bool → Mem → Prop) : Prop :=
  newK m ⟨8, splice (splice (splice (splice (Z8) 0 2 (upd (upd (lget [(.flat (.int .i64 0)), (.flat (.int .i64 0))]) 0 (.flat (.int .i64 47))) 1 (.flat (.int .i64 23)))) 2 2 (upd (upd (lget [(.flat (.int .i64 0)), (.flat (.int .i64 0))]) 0 (.flat (.int .i64 46))) 1 (.flat (.int .i64 22)))) 4 2 (upd (upd (lget [(.flat (.int .i64 0)), (.flat (.int .i64 0))]) 0 (.flat (.int .i64 48))) 1 (.flat (.int .i64 30)))) 6 2 (upd (upd (lget [(.flat (.int .i64 0)), (.flat (.int .i64 0))]) 0 (.flat (.int .i64 49))) 1 (.flat (.int .i64 31))), 30, false⟩ fun b2 m1 => ∃ N29, L4_6 x_0 x_2 x_7 x_8 (.sl b2 0 4 (.ex 4)) 4 N29 0 m1 (fun m26 => newK m26 ⟨6, splice (splice (splice (Z6b) 0 2 (upd (upd (lget [(.flat (.int .i64 0)), (.flat (.int .i64 0))]) 0 (.flat (.int .i64 50))) 1 (.flat (.int .i64 26)))) 2 2 (upd (upd (lget [(.flat (.int .i64 0)), (.flat (.int .i64 0))]) 0 (.flat (.int .i64 51))) 1 (.flat (.int .i64 27)))) 4 2 (upd (upd (lget [(.flat (.int .i64 0)), (.flat (.int .i64 0))]) 0 (.flat (.int .i64 52))) 1 (.flat (.int .i64 28))), 30, false⟩ fun b31 m30 => ∃ N51, L4_14 x_0 x_2 x_7 (.sl b31 0 3 (.ex 3)) 3 N51 0 m30 (fun m48 => newK m48 ⟨6, splice (splice (splice (Z6b) 0 2 (upd (upd (lget [(.flat (.int .i64 0)), (.flat (.int .i64 0))]) 0 (.flat (.int .i64 1))) 1 (.flat (.int .i64 4)))) 2 2 (upd (upd (lget [(.flat (.int .i64 0)), (.flat (.int .i64 0))]) 0 (.flat (.int .i64 2))) 1 (.flat (.int .i64 5)))) 4 2 (upd (upd (lget [(.flat (.int .i64 0)), (.flat (.int .i64 0))]) 0 (.flat (.int .i64 3))) 1 (.flat (.int .i64 6))), 30, false⟩ fun b53 m52 => ∃ N73, L4_23 x_0 ((IntKind.wrap .i64 ((x_2.tmod 32) + 32)).tmod 32) (.sl b53 0 3 (.ex 3)) 3 N73 0 m52 (fun m70 => F8  m70 fun x74 m75 => kr x74 m75) (fun x71 m72 => kr x71 m72)) (fun x49 m50 => kr x49 m50)) (fun x27 m28 => kr x27 m28)

/-- pianola/pianolalaw4.AluImms -/
def F4 (x_0 : Int) (x_1 : Int) (x_2 : Int) (m : Mem) (k : Bool → Mem → Prop) : Prop :=
  kif (decide ((bits .and .u32 x_1 65535) ≥ 32768)) (P4_5103 x_0 x_2 (bits .and .u32 x_1 65535) (bits .or .u32 (bits .and .u32 x_1 65535) 4294901760) m (fun x76 m77 => k x76 m77)) (P4_5103 x_0 x_2 (bits .and .u32 x_1 65535) (bits .and .u32 x_1 65535) m (fun x78 m79 => k x78 m79))

def G4 (args : List AV) (m : Mem) (k : KV) : Prop := match args with
  | [a0, a1, a2] => kI .u32 a0 fun x_0 => kI .u32 a1 fun x_1 => kI .i64 a2 fun x_2 => F4 x_0 x_1 x_2 m (fun x_1000 m' => k (.flat (.bool x_1000)) m')
  | _ => False

def E4 : Env := envOf [(7, G7), (8, G8), (9, G9)]

def LamP4_5103 (σ : Nat → AV) (m : Mem) (k : KX) : Prop := kI .u32 (σ 0) fun x_0 => kI .i64 (σ 2) fun x_2 => kI .u32 (σ 7) fun x_7 => kI .u32 (σ 8) fun x_8 => P4_5103 x_0 x_2 x_7 x_8 m (fun x_6' m' => k .ret (only [6] [(.flat (.bool x_6'))]) m')

def Lam4_6 (σ : Nat → AV) (m : Mem) (k : KX) : Prop := kI .u32 (σ 0) fun x_0 => kI .i64 (σ 2) fun x_2 => kI .u32 (σ 7) fun x_7 => kI .u32 (σ 8) fun x_8 => kI .i64 (σ 40) fun x_40 => kI .i64 (σ 41) fun x_41 => ∃ N, L4_6 x_0 x_2 x_7 x_8 (σ 39) x_40 N x_41 m (fun m' => k (.exit 0) (only [0, 2, 7] [(.flat (.int .u32 x_0)), (.flat (.int .i64 x_2)), (.flat (.int .u32 x_7))]) m') (fun x_6' m' => k .ret (only [6] [(.flat (.bool x_6'))]) m')

def Lam4_14 (σ : Nat → AV) (m : Mem) (k : KX) : Prop := kI .u32 (σ 0) fun x_0 => kI .i64 (σ 2) fun x_2 => kI .u32 (σ 7) fun x_7 => kI .i64 (σ 94) fun x_94 => kI .i64 (σ 95) fun x_95 => ∃ N, L4_14 x_0 x_2 x_7 (σ 93) x_94 N x_95 m (fun m' => k (.exit 2) (only [0, 2] [(.flat (.int .u32 x_0)), (.flat (.int .i64 x_2))]) m') (fun x_6' m' => k .ret (only [6] [(.flat (.bool x_6'))]) m')

def Lam4_23 (σ : Nat → AV) (m : Mem) (k : KX) : Prop := kI .u32 (σ 0) fun x_0 => kI .i64 (σ 21) fun x_21 => kI .i64 (σ 129) fun x_129 => kI .i64 (σ 130) fun x_130 => ∃ N, L4_23 x_0 x_21 (σ 128) x_129 N x_130 m (fun m' => k (.exit 4) (only [] []) m') (fun x_6' m' => k .ret (only [6] [(.flat (.bool x_6'))]) m')

def Lam4 : LEnv := ⟨fun a σ m k => match firstReg a with
  | some 6 => Lam4_6 σ m k
  | some 14 => Lam4_14 σ m k
  | some 23 => Lam4_23 σ m k
  | _ => bump False,
  fun id => match id with
  | 10 => true
  | _ => bump false,
  fun b => match keyC b with
  | some 5103 => true
  | _ => bump false,
  fun b σ m k => match keyC b with
  | some 5103 => LamP4_5103 σ m k
  | _ => bump False⟩

def lx4_23 : Ex → List Nat := fun e => match e with
  | .exit 4 => []
  | .ret => [6]
  | _ => []

theorem round4_23 (x_0 : Int) (x_21 : Int) (v_128 : AV) (x_129 : Int) (x_130 : Int) (m : Mem) (G : List AV → Mem → Prop) (k : KX) : (wpA Try.prog E4 Lam4 ((loopsOf (bodyOf Try.f4)).getD 2 .skip) (only [0, 21, 128, 129, 130] [(.flat (.int .u32 x_0)), (.flat (.int .i64 x_21)), v_128, (.flat (.int .i64 x_129)), (.flat (.int .i64 x_130))]) m fun e σ' m' => match e with
    | .normal => G ([0, 21, 128, 129, 130].map σ') m'
    | .exit id => k (.exit id) (only (lx4_23 (.exit id)) ((lx4_23 (.exit id)).map σ')) m'
    | .ret => k .ret (only (lx4_23 .ret) ((lx4_23 .ret).map σ')) m') = R4_23 x_0 x_21 v_128 x_129 x_130 m (fun x_130' m' => G [(.flat (.int .u32 x_0)), (.flat (.int .i64 x_21)), v_128, (.flat (.int .i64 x_129)), (.flat (.int .i64 x_130'))] m') (fun m' => k (.exit 4) (only [] []) m') (fun x_6' m' => k .ret (only [6] [(.flat (.bool x_6'))]) m') := by
  kernel_rfl

theorem loop4_23 (x_0 : Int) (x_21 : Int) (v_128 : AV) (x_129 : Int) (k : KX) : ∀ (N : Nat) (x_130 : Int) (m : Mem), rounds Try.prog E4 Lam4 [0, 21, 128, 129, 130] lx4_23 ((loopsOf (bodyOf Try.f4)).getD 2 .skip) N [(.flat (.int .u32 x_0)), (.flat (.int .i64 x_21)), v_128, (.flat (.int .i64 x_129)), (.flat (.int .i64 x_130))] m k = L4_23 x_0 x_21 v_128 x_129 N x_130 m (fun m' => k (.exit 4) (only [] []) m') (fun x_6' m' => k .ret (only [6] [(.flat (.bool x_6'))]) m') := by
  intro N
  induction N with
  | zero => intros; rfl
  | succ N ih =>
    intro x_130 m
    refine (round4_23 x_0 x_21 v_128 x_129 x_130 m (fun vs m' => rounds Try.prog E4 Lam4 [0, 21, 128, 129, 130] lx4_23 ((loopsOf (bodyOf Try.f4)).getD 2 .skip) N vs m' k) k).trans ?_
    simp only [ih]
    rfl

theorem lok4_23 : LoopOK Try.prog E4 Lam4 ((loopsOf (bodyOf Try.f4)).getD 2 .skip) := by
  refine ⟨fun σ => ∃ x_0 x_21 v_128 x_129 x_130, σ 0 = .flat (.int .u32 x_0) ∧ σ 21 = .flat (.int .i64 x_21) ∧ σ 128 = v_128 ∧ σ 129 = .flat (.int .i64 x_129) ∧ σ 130 = .flat (.int .i64 x_130), [0, 21, 128, 129, 130], lx4_23, fun σ m k => ?_⟩
  have e : Lam4.loop ((loopsOf (bodyOf Try.f4)).getD 2 .skip) σ m k = Lam4_23 σ m k := by kernel_rfl
  rw [e]
  constructor
  · intro h
    unfold Lam4_23 at h
    obtain ⟨x_0, h0, h⟩ := kI_ok h
    obtain ⟨x_21, h1, h⟩ := kI_ok h
    obtain ⟨v_128, h2⟩ : ∃ v, σ 128 = v := ⟨_, rfl⟩
    obtain ⟨x_129, h3, h⟩ := kI_ok h
    obtain ⟨x_130, h4, h⟩ := kI_ok h
    obtain ⟨N, h⟩ := h
    refine ⟨⟨x_0, x_21, v_128, x_129, x_130, h0, h1, h2, h3, h4⟩, N, ?_⟩
    have ev : [0, 21, 128, 129, 130].map σ = [(.flat (.int .u32 x_0)), (.flat (.int .i64 x_21)), v_128, (.flat (.int .i64 x_129)), (.flat (.int .i64 x_130))] := by simp only [List.map_cons, List.map_nil, h0, h1, h2, h3, h4]
    rw [ev, loop4_23]
    simp only [h2] at h
    exact h
  · rintro ⟨⟨x_0, x_21, v_128, x_129, x_130, h0, h1, h2, h3, h4⟩, N, h⟩
    have ev : [0, 21, 128, 129, 130].map σ = [(.flat (.int .u32 x_0)), (.flat (.int .i64 x_21)), v_128, (.flat (.int .i64 x_129)), (.flat (.int .i64 x_130))] := by simp only [List.map_cons, List.map_nil, h0, h1, h2, h3, h4]
    rw [ev, loop4_23] at h
    unfold Lam4_23
    try simp only [h0, h1, h2, h3, h4, kI, kbool, kS, kptr, kaggN, kite, decide_true, eq_self]
    exact ⟨N, h⟩

def lx4_14 : Ex → List Nat := fun e => match e with
  | .exit 2 => [0, 2]
  | .ret => [6]
  | _ => []

theorem round4_14 (x_0 : Int) (x_2 : Int) (x_7 : Int) (v_93 : AV) (x_94 : Int) (x_95 : Int) (m : Mem) (G : List AV → Mem → Prop) (k : KX) : (wpA Try.prog E4 Lam4 ((loopsOf (bodyOf Try.f4)).getD 1 .skip) (only [0, 2, 7, 93, 94, 95] [(.flat (.int .u32 x_0)), (.flat (.int .i64 x_2)), (.flat (.int .u32 x_7)), v_93, (.flat (.int .i64 x_94)), (.flat (.int .i64 x_95))]) m fun e σ' m' => match e with
    | .normal => G ([0, 2, 7, 93, 94, 95].map σ') m'
    | .exit id => k (.exit id) (only (lx4_14 (.exit id)) ((lx4_14 (.exit id)).map σ')) m'
    | .ret => k .ret (only (lx4_14 .ret) ((lx4_14 .ret).map σ')) m') = R4_14 x_0 x_2 x_7 v_93 x_94 x_95 m (fun x_95' m' => G [(.flat (.int .u32 x_0)), (.flat (.int .i64 x_2)), (.flat (.int .u32 x_7)), v_93, (.flat (.int .i64 x_94)), (.flat (.int .i64 x_95'))] m') (fun m' => k (.exit 2) (only [0, 2] [(.flat (.int .u32 x_0)), (.flat (.int .i64 x_2))]) m') (fun x_6' m' => k .ret (only [6] [(.flat (.bool x_6'))]) m') := by
  kernel_rfl

theorem loop4_14 (x_0 : Int) (x_2 : Int) (x_7 : Int) (v_93 : AV) (x_94 : Int) (k : KX) : ∀ (N : Nat) (x_95 : Int) (m : Mem), rounds Try.prog E4 Lam4 [0, 2, 7, 93, 94, 95] lx4_14 ((loopsOf (bodyOf Try.f4)).getD 1 .skip) N [(.flat (.int .u32 x_0)), (.flat (.int .i64 x_2)), (.flat (.int .u32 x_7)), v_93, (.flat (.int .i64 x_94)), (.flat (.int .i64 x_95))] m k = L4_14 x_0 x_2 x_7 v_93 x_94 N x_95 m (fun m' => k (.exit 2) (only [0, 2] [(.flat (.int .u32 x_0)), (.flat (.int .i64 x_2))]) m') (fun x_6' m' => k .ret (only [6] [(.flat (.bool x_6'))]) m') := by
  intro N
  induction N with
  | zero => intros; rfl
  | succ N ih =>
    intro x_95 m
    refine (round4_14 x_0 x_2 x_7 v_93 x_94 x_95 m (fun vs m' => rounds Try.prog E4 Lam4 [0, 2, 7, 93, 94, 95] lx4_14 ((loopsOf (bodyOf Try.f4)).getD 1 .skip) N vs m' k) k).trans ?_
    simp only [ih]
    rfl

theorem lok4_14 : LoopOK Try.prog E4 Lam4 ((loopsOf (bodyOf Try.f4)).getD 1 .skip) := by
  refine ⟨fun σ => ∃ x_0 x_2 x_7 v_93 x_94 x_95, σ 0 = .flat (.int .u32 x_0) ∧ σ 2 = .flat (.int .i64 x_2) ∧ σ 7 = .flat (.int .u32 x_7) ∧ σ 93 = v_93 ∧ σ 94 = .flat (.int .i64 x_94) ∧ σ 95 = .flat (.int .i64 x_95), [0, 2, 7, 93, 94, 95], lx4_14, fun σ m k => ?_⟩
  have e : Lam4.loop ((loopsOf (bodyOf Try.f4)).getD 1 .skip) σ m k = Lam4_14 σ m k := by kernel_rfl
  rw [e]
  constructor
  · intro h
    unfold Lam4_14 at h
    obtain ⟨x_0, h0, h⟩ := kI_ok h
    obtain ⟨x_2, h1, h⟩ := kI_ok h
    obtain ⟨x_7, h2, h⟩ := kI_ok h
    obtain ⟨v_93, h3⟩ : ∃ v, σ 93 = v := ⟨_, rfl⟩
    obtain ⟨x_94, h4, h⟩ := kI_ok h
    obtain ⟨x_95, h5, h⟩ := kI_ok h
    obtain ⟨N, h⟩ := h
    refine ⟨⟨x_0, x_2, x_7, v_93, x_94, x_95, h0, h1, h2, h3, h4, h5⟩, N, ?_⟩
    have ev : [0, 2, 7, 93, 94, 95].map σ = [(.flat (.int .u32 x_0)), (.flat (.int .i64 x_2)), (.flat (.int .u32 x_7)), v_93, (.flat (.int .i64 x_94)), (.flat (.int .i64 x_95))] := by simp only [List.map_cons, List.map_nil, h0, h1, h2, h3, h4, h5]
    rw [ev, loop4_14]
    simp only [h3] at h
    exact h
  · rintro ⟨⟨x_0, x_2, x_7, v_93, x_94, x_95, h0, h1, h2, h3, h4, h5⟩, N, h⟩
    have ev : [0, 2, 7, 93, 94, 95].map σ = [(.flat (.int .u32 x_0)), (.flat (.int .i64 x_2)), (.flat (.int .u32 x_7)), v_93, (.flat (.int .i64 x_94)), (.flat (.int .i64 x_95))] := by simp only [List.map_cons, List.map_nil, h0, h1, h2, h3, h4, h5]
    rw [ev, loop4_14] at h
    unfold Lam4_14
    try simp only [h0, h1, h2, h3, h4, h5, kI, kbool, kS, kptr, kaggN, kite, decide_true, eq_self]
    exact ⟨N, h⟩

def lx4_6 : Ex → List Nat := fun e => match e with
  | .exit 0 => [0, 2, 7]
  | .ret => [6]
  | _ => []

theorem round4_6 (x_0 : Int) (x_2 : Int) (x_7 : Int) (x_8 : Int) (v_39 : AV) (x_40 : Int) (x_41 : Int) (m : Mem) (G : List AV → Mem → Prop) (k : KX) : (wpA Try.prog E4 Lam4 ((loopsOf (bodyOf Try.f4)).getD 0 .skip) (only [0, 2, 7, 8, 39, 40, 41] [(.flat (.int .u32 x_0)), (.flat (.int .i64 x_2)), (.flat (.int .u32 x_7)), (.flat (.int .u32 x_8)), v_39, (.flat (.int .i64 x_40)), (.flat (.int .i64 x_41))]) m fun e σ' m' => match e with
    | .normal => G ([0, 2, 7, 8, 39, 40, 41].map σ') m'
    | .exit id => k (.exit id) (only (lx4_6 (.exit id)) ((lx4_6 (.exit id)).map σ')) m'
    | .ret => k .ret (only (lx4_6 .ret) ((lx4_6 .ret).map σ')) m') = R4_6 x_0 x_2 x_7 x_8 v_39 x_40 x_41 m (fun x_41' m' => G [(.flat (.int .u32 x_0)), (.flat (.int .i64 x_2)), (.flat (.int .u32 x_7)), (.flat (.int .u32 x_8)), v_39, (.flat (.int .i64 x_40)), (.flat (.int .i64 x_41'))] m') (fun m' => k (.exit 0) (only [0, 2, 7] [(.flat (.int .u32 x_0)), (.flat (.int .i64 x_2)), (.flat (.int .u32 x_7))]) m') (fun x_6' m' => k .ret (only [6] [(.flat (.bool x_6'))]) m') := by
  kernel_rfl

theorem loop4_6 (x_0 : Int) (x_2 : Int) (x_7 : Int) (x_8 : Int) (v_39 : AV) (x_40 : Int) (k : KX) : ∀ (N : Nat) (x_41 : Int) (m : Mem), rounds Try.prog E4 Lam4 [0, 2, 7, 8, 39, 40, 41] lx4_6 ((loopsOf (bodyOf Try.f4)).getD 0 .skip) N [(.flat (.int .u32 x_0)), (.flat (.int .i64 x_2)), (.flat (.int .u32 x_7)), (.flat (.int .u32 x_8)), v_39, (.flat (.int .i64 x_40)), (.flat (.int .i64 x_41))] m k = L4_6 x_0 x_2 x_7 x_8 v_39 x_40 N x_41 m (fun m' => k (.exit 0) (only [0, 2, 7] [(.flat (.int .u32 x_0)), (.flat (.int .i64 x_2)), (.flat (.int .u32 x_7))]) m') (fun x_6' m' => k .ret (only [6] [(.flat (.bool x_6'))]) m') := by
  intro N
  induction N with
  | zero => intros; rfl
  | succ N ih =>
    intro x_41 m
    refine (round4_6 x_0 x_2 x_7 x_8 v_39 x_40 x_41 m (fun vs m' => rounds Try.prog E4 Lam4 [0, 2, 7, 8, 39, 40, 41] lx4_6 ((loopsOf (bodyOf Try.f4)).getD 0 .skip) N vs m' k) k).trans ?_
    simp only [ih]
    rfl

theorem lok4_6 : LoopOK Try.prog E4 Lam4 ((loopsOf (bodyOf Try.f4)).getD 0 .skip) := by
  refine ⟨fun σ => ∃ x_0 x_2 x_7 x_8 v_39 x_40 x_41, σ 0 = .flat (.int .u32 x_0) ∧ σ 2 = .flat (.int .i64 x_2) ∧ σ 7 = .flat (.int .u32 x_7) ∧ σ 8 = .flat (.int .u32 x_8) ∧ σ 39 = v_39 ∧ σ 40 = .flat (.int .i64 x_40) ∧ σ 41 = .flat (.int .i64 x_41), [0, 2, 7, 8, 39, 40, 41], lx4_6, fun σ m k => ?_⟩
  have e : Lam4.loop ((loopsOf (bodyOf Try.f4)).getD 0 .skip) σ m k = Lam4_6 σ m k := by kernel_rfl
  rw [e]
  constructor
  · intro h
    unfold Lam4_6 at h
    obtain ⟨x_0, h0, h⟩ := kI_ok h
    obtain ⟨x_2, h1, h⟩ := kI_ok h
    obtain ⟨x_7, h2, h⟩ := kI_ok h
    obtain ⟨x_8, h3, h⟩ := kI_ok h
    obtain ⟨v_39, h4⟩ : ∃ v, σ 39 = v := ⟨_, rfl⟩
    obtain ⟨x_40, h5, h⟩ := kI_ok h
    obtain ⟨x_41, h6, h⟩ := kI_ok h
    obtain ⟨N, h⟩ := h
    refine ⟨⟨x_0, x_2, x_7, x_8, v_39, x_40, x_41, h0, h1, h2, h3, h4, h5, h6⟩, N, ?_⟩
    have ev : [0, 2, 7, 8, 39, 40, 41].map σ = [(.flat (.int .u32 x_0)), (.flat (.int .i64 x_2)), (.flat (.int .u32 x_7)), (.flat (.int .u32 x_8)), v_39, (.flat (.int .i64 x_40)), (.flat (.int .i64 x_41))] := by simp only [List.map_cons, List.map_nil, h0, h1, h2, h3, h4, h5, h6]
    rw [ev, loop4_6]
    simp only [h4] at h
    exact h
  · rintro ⟨⟨x_0, x_2, x_7, x_8, v_39, x_40, x_41, h0, h1, h2, h3, h4, h5, h6⟩, N, h⟩
    have ev : [0, 2, 7, 8, 39, 40, 41].map σ = [(.flat (.int .u32 x_0)), (.flat (.int .i64 x_2)), (.flat (.int .u32 x_7)), (.flat (.int .u32 x_8)), v_39, (.flat (.int .i64 x_40)), (.flat (.int .i64 x_41))] := by simp only [List.map_cons, List.map_nil, h0, h1, h2, h3, h4, h5, h6]
    rw [ev, loop4_6] at h
    unfold Lam4_6
    try simp only [h0, h1, h2, h3, h4, h5, h6, kI, kbool, kS, kptr, kaggN, kite, decide_true, eq_self]
    exact ⟨N, h⟩

def lxp4_5103 : Ex → List Nat := fun e => match e with
  | .ret => [6]
  | _ => []

theorem pc4_5103 (x_0 : Int) (x_2 : Int) (x_7 : Int) (x_8 : Int) (m : Mem) (k : KX) : once Try.prog E4 Lam4 [0, 2, 7, 8] lxp4_5103 (((secsOf (bodyOf Try.f4)).filter Lam4.cut).getD 0 .skip) [(.flat (.int .u32 x_0)), (.flat (.int .i64 x_2)), (.flat (.int .u32 x_7)), (.flat (.int .u32 x_8))] m k = P4_5103 x_0 x_2 x_7 x_8 m (fun x_6' m' => k .ret (only [6] [(.flat (.bool x_6'))]) m') := by
  kernel_rfl

theorem pok4_5103 : PieceOK Try.prog E4 Lam4 (((secsOf (bodyOf Try.f4)).filter Lam4.cut).getD 0 .skip) := by
  refine ⟨fun σ => ∃ x_0 x_2 x_7 x_8, σ 0 = .flat (.int .u32 x_0) ∧ σ 2 = .flat (.int .i64 x_2) ∧ σ 7 = .flat (.int .u32 x_7) ∧ σ 8 = .flat (.int .u32 x_8), [0, 2, 7, 8], lxp4_5103, fun σ m k => ?_⟩
  have e : Lam4.piece (((secsOf (bodyOf Try.f4)).filter Lam4.cut).getD 0 .skip) σ m k = LamP4_5103 σ m k := by kernel_rfl
  rw [e]
  constructor
  · intro h
    unfold LamP4_5103 at h
    obtain ⟨x_0, h0, h⟩ := kI_ok h
    obtain ⟨x_2, h1, h⟩ := kI_ok h
    obtain ⟨x_7, h2, h⟩ := kI_ok h
    obtain ⟨x_8, h3, h⟩ := kI_ok h
    refine ⟨⟨x_0, x_2, x_7, x_8, h0, h1, h2, h3⟩, ?_⟩
    have ev : [0, 2, 7, 8].map σ = [(.flat (.int .u32 x_0)), (.flat (.int .i64 x_2)), (.flat (.int .u32 x_7)), (.flat (.int .u32 x_8))] := by simp only [List.map_cons, List.map_nil, h0, h1, h2, h3]
    rw [ev, pc4_5103]
    exact h
  · rintro ⟨⟨x_0, x_2, x_7, x_8, h0, h1, h2, h3⟩, h⟩
    have ev : [0, 2, 7, 8].map σ = [(.flat (.int .u32 x_0)), (.flat (.int .i64 x_2)), (.flat (.int .u32 x_7)), (.flat (.int .u32 x_8))] := by simp only [List.map_cons, List.map_nil, h0, h1, h2, h3]
    rw [ev, pc4_5103] at h
    unfold LamP4_5103
    try simp only [h0, h1, h2, h3, kI, kbool, kS, kptr, kaggN, kite, decide_true, eq_self]
    exact h

theorem eqn4 (x_0 : Int) (x_1 : Int) (x_2 : Int) (m : Mem) (k : KV) : bodyK Try.prog E4 Lam4 Try.f4 false [(.flat (.int .u32 x_0)), (.flat (.int .u32 x_1)), (.flat (.int .i64 x_2))] m k = F4 x_0 x_1 x_2 m (fun x_1000 m' => k (.flat (.bool x_1000)) m') := by
  kernel_rfl

theorem fs4 (w0 : World) : FS Try.prog w0 4 G4 := by
  refine (fs_body (Γ := E4) (sound_env (l := [(7, G7), (8, G8), (9, G9)]) w0 (by
    intro p hp
    simp only [List.mem_cons, List.not_mem_nil, or_false] at hp
    rcases hp with rfl | rfl | rfl
    · exact fs7 w0
    · exact fs8 w0
    · exact fs9 w0)) (by kernel_rfl) Try.func4 (Λ := Lam4) (c := (bodyOf Try.f4)) (by kernel_rfl) Try.call4 (by kernel_rfl) (LS_of (bodyOf Try.f4) 3 (by kernel_rfl) (by
    intro i hi
    match i, hi with
    | 0, _ => exact lok4_6
    | 1, _ => exact lok4_14
    | 2, _ => exact lok4_23
    | i + 3, hi => omega) 1 (by kernel_rfl) (by
    intro i hi
    match i, hi with
    | 0, _ => exact pok4_5103
    | i + 1, hi => omega)) false (np := 3) (Nat.le_of_ble_eq_true (by kernel_rfl))).imp fun args => ?_
  by_cases hl : args.length = 3
  rotate_left
  · exact .inr fun m k hk => by
      unfold G4 at hk
      split at hk
      · exact hl rfl
      · exact hk
  obtain ⟨a0, a1, a2, rfl⟩ : ∃ a0 a1 a2, args = [a0, a1, a2] := len_list3 hl
  rcases kI_or .u32 a0 with ⟨x_0, rfl⟩ | h
  rotate_left
  · exact .inr fun m k hk => h _ (by simpa only [G4, kI, kbool, kS, kptr, kaggN, kite, decide_true, eq_self] using hk)
  rcases kI_or .u32 a1 with ⟨x_1, rfl⟩ | h
  rotate_left
  · exact .inr fun m k hk => h _ (by simpa only [G4, kI, kbool, kS, kptr, kaggN, kite, decide_true, eq_self] using hk)
  rcases kI_or .i64 a2 with ⟨x_2, rfl⟩ | h
  rotate_left
  · exact .inr fun m k hk => h _ (by simpa only [G4, kI, kbool, kS, kptr, kaggN, kite, decide_true, eq_self] using hk)
  exact .inl fun m k => propext ⟨fun h => ⟨rfl, by rw [eqn4]; simpa only [G4, kI, kbool, kS, kptr, kaggN, kite, decide_true, eq_self] using h⟩, fun h => by have h := h.2; rw [eqn4] at h; simpa only [G4, kI, kbool, kS, kptr, kaggN, kite, decide_true, eq_self] using h⟩

end Go.Proofs.Ytimbfflnlalanaa.Am
