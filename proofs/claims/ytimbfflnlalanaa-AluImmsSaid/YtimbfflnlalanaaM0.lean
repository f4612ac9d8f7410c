/- What Go functions ask of what follows them, as plain functions over the abstract machine; the machine asks just that. Written by gen.py. -/
import Derived.Test.YtimbfflnlalanaaProg
import Derived.Test.YtimbfflnlalanaaAmL
namespace Go.Proofs.Ytimbfflnlalanaa.Am
set_option linter.unusedVariables false
set_option linter.unusedSimpArgs false
set_option maxRecDepth 100000

def Yb0 : ByteArray := ⟨#[0, 1, 2, 2, 3, 3, 3, 3, 4, 4, 4, 4, 4, 4, 4, 4, 5, 5, 5, 5, 5, 5, 5, 5, 5, 5, 5, 5, 5, 5, 5, 5, 6, 6, 6, 6, 6, 6, 6, 6, 6, 6, 6, 6, 6, 6, 6, 6, 6, 6, 6, 6, 6, 6, 6, 6, 6, 6, 6, 6, 6, 6, 6, 6, 7, 7, 7, 7, 7, 7, 7, 7, 7, 7, 7, 7, 7, 7, 7, 7, 7, 7, 7, 7, 7, 7, 7, 7, 7, 7, 7, 7, 7, 7, 7, 7, 7, 7, 7, 7, 7, 7, 7, 7, 7, 7, 7, 7, 7, 7, 7, 7, 7, 7, 7, 7, 7, 7, 7, 7, 7, 7, 7, 7, 7, 7, 7, 7, 8, 8, 8, 8, 8, 8, 8, 8, 8, 8, 8, 8, 8, 8, 8, 8, 8, 8, 8, 8, 8, 8, 8, 8, 8, 8, 8, 8, 8, 8, 8, 8, 8, 8, 8, 8, 8, 8, 8, 8, 8, 8, 8, 8, 8, 8, 8, 8, 8, 8, 8, 8, 8, 8, 8, 8, 8, 8, 8, 8, 8, 8, 8, 8, 8, 8, 8, 8, 8, 8, 8, 8, 8, 8, 8, 8, 8, 8, 8, 8, 8, 8, 8, 8, 8, 8, 8, 8, 8, 8, 8, 8, 8, 8, 8, 8, 8, 8, 8, 8, 8, 8, 8, 8, 8, 8, 8, 8, 8, 8, 8, 8, 8, 8, 8, 8, 8, 8, 8, 8, 8, 8, 8, 8, 8, 8, 8, 8]⟩

def Z6 : Nat → AV := lget [(.flat (.int .i64 0)), (.flat (.int .i64 0)), (.flat (.int .i64 0)), (.flat (.int .i64 0)), (.flat (.int .i64 0)), (.flat (.int .u32 0))]

def Z8 : Nat → AV := lget [(.flat (.int .i64 0)), (.flat (.int .i64 0)), (.flat (.int .i64 0)), (.flat (.int .i64 0)), (.flat (.int .i64 0)), (.flat (.int .i64 0)), (.flat (.int .i64 0)), (.flat (.int .i64 0))]

def Z6b : Nat → AV := lget [(.flat (.int .i64 0)), (.flat (.int .i64 0)), (.flat (.int .i64 0)), (.flat (.int .i64 0)), (.flat (.int .i64 0)), (.flat (.int .i64 0))]

/-- pianola/alu.Is -/
def F14 (x_0 : Int) (m : Mem) (k : Bool → Mem → Prop) : Prop :=
  kif (decide (x_0 ≥ 1)) (kif (decide (x_0 ≤ 6)) ((Keeps m m ∧ k true m)) (kif (decide (x_0 ≥ 22)) (kif (decide (x_0 ≤ 31)) ((Keeps m m ∧ k true m)) (kif (decide (x_0 ≥ 46)) (kif (decide (x_0 ≤ 53)) ((Keeps m m ∧ k true m)) (kif (decide (x_0 ≥ 63)) ((Keeps m m ∧ k (decide (x_0 ≤ 65)) m)) ((Keeps m m ∧ k false m)))) (kif (decide (x_0 ≥ 63)) ((Keeps m m ∧ k (decide (x_0 ≤ 65)) m)) ((Keeps m m ∧ k false m))))) (kif (decide (x_0 ≥ 46)) (kif (decide (x_0 ≤ 53)) ((Keeps m m ∧ k true m)) (kif (decide (x_0 ≥ 63)) ((Keeps m m ∧ k (decide (x_0 ≤ 65)) m)) ((Keeps m m ∧ k false m)))) (kif (decide (x_0 ≥ 63)) ((Keeps m m ∧ k (decide (x_0 ≤ 65)) m)) ((Keeps m m ∧ k false m)))))) (kif (decide (x_0 ≥ 22)) (kif (decide (x_0 ≤ 31)) ((Keeps m m ∧ k true m)) (kif (decide (x_0 ≥ 46)) (kif (decide (x_0 ≤ 53)) ((Keeps m m ∧ k true m)) (kif (decide (x_0 ≥ 63)) ((Keeps m m ∧ k (decide (x_0 ≤ 65)) m)) ((Keeps m m ∧ k false m)))) (kif (decide (x_0 ≥ 63)) ((Keeps m m ∧ k (decide (x_0 ≤ 65)) m)) ((Keeps m m ∧ k false m))))) (kif (decide (x_0 ≥ 46)) (kif (decide (x_0 ≤ 53)) ((Keeps m m ∧ k true m)) (kif (decide (x_0 ≥ 63)) ((Keeps m m ∧ k (decide (x_0 ≤ 65)) m)) ((Keeps m m ∧ k false m)))) (kif (decide (x_0 ≥ 63)) ((Keeps m m ∧ k (decide (x_0 ≤ 65)) m)) ((Keeps m m ∧ k false m)))))

def G14 (args : List AV) (m : Mem) (k : KV) : Prop := match args with
  | [a0] => kI .i64 a0 fun x_0 => F14 x_0 m (fun x_1000 m' => k (.flat (.bool x_1000)) m')
  | _ => False

def E14 : Env := envOf []

def Lam14 : LEnv := ⟨fun a σ m k => match firstReg a with
  | _ => bump False,
  fun id => match id with
  | _ => bump false,
  fun b => match keyC b with
  | _ => bump false,
  fun b σ m k => match keyC b with
  | _ => bump False⟩

theorem eqn14 (x_0 : Int) (m : Mem) (k : KV) : bodyK Try.prog E14 Lam14 Try.f14 true [(.flat (.int .i64 x_0))] m k = F14 x_0 m (fun x_1000 m' => k (.flat (.bool x_1000)) m') := by
  kernel_rfl

theorem fs14 (w0 : World) : FS Try.prog w0 14 G14 := by
  refine (fs_body (Γ := E14) (sound_env (l := []) w0 (by
    intro p hp
    cases hp)) (by kernel_rfl) Try.func14 (Λ := Lam14) (c := (bodyOf Try.f14)) (by kernel_rfl) Try.call14 (by kernel_rfl) (LS_of (bodyOf Try.f14) 0 (by kernel_rfl) (fun i hi => absurd hi (Nat.not_lt_zero i)) 0 (by kernel_rfl) (fun i hi => absurd hi (Nat.not_lt_zero i))) true (np := 1) (Nat.le_of_ble_eq_true (by kernel_rfl))).imp fun args => ?_
  by_cases hl : args.length = 1
  rotate_left
  · exact .inr fun m k hk => by
      unfold G14 at hk
      split at hk
      · exact hl rfl
      · exact hk
  obtain ⟨a0, rfl⟩ : ∃ a0, args = [a0] := len_list1 hl
  rcases kI_or .i64 a0 with ⟨x_0, rfl⟩ | h
  rotate_left
  · exact .inr fun m k hk => h _ (by simpa only [G14, kI, kbool, kS, kptr, kaggN, kite, decide_true, eq_self] using hk)
  exact .inl fun m k => propext ⟨fun h => ⟨rfl, by rw [eqn14]; simpa only [G14, kI, kbool, kS, kptr, kaggN, kite, decide_true, eq_self] using h⟩, fun h => by have h := h.2; rw [eqn14] at h; simpa only [G14, kI, kbool, kS, kptr, kaggN, kite, decide_true, eq_self] using h⟩

/-- pianola/word.Sar -/
def F30 (x_0 : Int) (x_1 : Int) (m : Mem) (k : Int → Mem → Prop) : Prop :=
  kif (decide (bits .and .i64 x_1 31 < 0)) False ((Keeps m m ∧ k (IntKind.wrap .u32 ((IntKind.wrap .i32 x_0).fdiv (2 ^ min (bits .and .i64 x_1 31).toNat 32))) m))

def G30 (args : List AV) (m : Mem) (k : KV) : Prop := match args with
  | [a0, a1] => kI .u32 a0 fun x_0 => kI .i64 a1 fun x_1 => F30 x_0 x_1 m (fun x_1000 m' => k (.flat (.int .u32 x_1000)) m')
  | _ => False

def E30 : Env := envOf []

def Lam30 : LEnv := ⟨fun a σ m k => match firstReg a with
  | _ => bump False,
  fun id => match id with
  | _ => bump false,
  fun b => match keyC b with
  | _ => bump false,
  fun b σ m k => match keyC b with
  | _ => bump False⟩

theorem eqn30 (x_0 : Int) (x_1 : Int) (m : Mem) (k : KV) : bodyK Try.prog E30 Lam30 Try.f30 true [(.flat (.int .u32 x_0)), (.flat (.int .i64 x_1))] m k = F30 x_0 x_1 m (fun x_1000 m' => k (.flat (.int .u32 x_1000)) m') := by
  kernel_rfl

theorem fs30 (w0 : World) : FS Try.prog w0 30 G30 := by
  refine (fs_body (Γ := E30) (sound_env (l := []) w0 (by
    intro p hp
    cases hp)) (by kernel_rfl) Try.func30 (Λ := Lam30) (c := (bodyOf Try.f30)) (by kernel_rfl) Try.call30 (by kernel_rfl) (LS_of (bodyOf Try.f30) 0 (by kernel_rfl) (fun i hi => absurd hi (Nat.not_lt_zero i)) 0 (by kernel_rfl) (fun i hi => absurd hi (Nat.not_lt_zero i))) true (np := 2) (Nat.le_of_ble_eq_true (by kernel_rfl))).imp fun args => ?_
  by_cases hl : args.length = 2
  rotate_left
  · exact .inr fun m k hk => by
      unfold G30 at hk
      split at hk
      · exact hl rfl
      · exact hk
  obtain ⟨a0, a1, rfl⟩ : ∃ a0 a1, args = [a0, a1] := len_list2 hl
  rcases kI_or .u32 a0 with ⟨x_0, rfl⟩ | h
  rotate_left
  · exact .inr fun m k hk => h _ (by simpa only [G30, kI, kbool, kS, kptr, kaggN, kite, decide_true, eq_self] using hk)
  rcases kI_or .i64 a1 with ⟨x_1, rfl⟩ | h
  rotate_left
  · exact .inr fun m k hk => h _ (by simpa only [G30, kI, kbool, kS, kptr, kaggN, kite, decide_true, eq_self] using hk)
  exact .inl fun m k => propext ⟨fun h => ⟨rfl, by rw [eqn30]; simpa only [G30, kI, kbool, kS, kptr, kaggN, kite, decide_true, eq_self] using h⟩, fun h => by have h := h.2; rw [eqn30] at h; simpa only [G30, kI, kbool, kS, kptr, kaggN, kite, decide_true, eq_self] using h⟩

def P15_8102 (x_1 : Int) (x_2 : Int) (m : Mem) (kr : Int → Mem → Prop) : Prop :=
  F30 x_1 x_2 m fun x7 m8 => kr x7 m8

def P15_4004 (x_1 : Int) (x_2 : Int) (x_7 : Int) (x_8 : Bool) (m : Mem) (kr : Int → Mem → Prop) (kn : Mem → Prop) : Prop :=
  kif x_8 (kif (decide (x_2 < 0)) False (kr (IntKind.wrap .u32 (x_1 * 2 ^ min (x_2).toNat 32)) m)) (kif (x_7 == 2) (kif (x_7 == 2) (kif (decide (x_2 < 0)) False (kr (x_1.fdiv (2 ^ min (x_2).toNat 32)) m)) (kn  m)) (kif (x_7 == 5) (kif (decide (x_2 < 0)) False (kr (x_1.fdiv (2 ^ min (x_2).toNat 32)) m)) (kn  m)))

/-- pianola/alu.shifted -/
def F15 (x_0 : Int) (x_1 : Int) (x_2 : Int) (m : Mem) (k : Int → Mem → Prop) : Prop :=
  kif (x_0 == 1) (P15_4004 x_1 x_2 x_0 (x_0 == 1) m (fun x1 m2 => (Keeps m m2 ∧ k x1 m)) (fun m3 => P15_8102 x_1 x_2 m3 (fun x9 m10 => (Keeps m m10 ∧ k x9 m)))) (P15_4004 x_1 x_2 x_0 (x_0 == 4) m (fun x4 m5 => (Keeps m m5 ∧ k x4 m)) (fun m6 => P15_8102 x_1 x_2 m6 (fun x11 m12 => (Keeps m m12 ∧ k x11 m))))

def G15 (args : List AV) (m : Mem) (k : KV) : Prop := match args with
  | [a0, a1, a2] => kI .i64 a0 fun x_0 => kI .u32 a1 fun x_1 => kI .i64 a2 fun x_2 => F15 x_0 x_1 x_2 m (fun x_1000 m' => k (.flat (.int .u32 x_1000)) m')
  | _ => False

def E15 : Env := envOf [(30, G30)]

def LamP15_4004 (σ : Nat → AV) (m : Mem) (k : KX) : Prop := kI .u32 (σ 1) fun x_1 => kI .i64 (σ 2) fun x_2 => kI .i64 (σ 7) fun x_7 => kbool (σ 8) fun x_8 => P15_4004 x_1 x_2 x_7 x_8 m (fun x_6' m' => k .ret (only [6] [(.flat (.int .u32 x_6'))]) m') (fun m' => k .normal (only [1, 2] [(.flat (.int .u32 x_1)), (.flat (.int .i64 x_2))]) m')

def LamP15_8102 (σ : Nat → AV) (m : Mem) (k : KX) : Prop := kI .u32 (σ 1) fun x_1 => kI .i64 (σ 2) fun x_2 => P15_8102 x_1 x_2 m (fun x_6' m' => k .ret (only [6] [(.flat (.int .u32 x_6'))]) m')

def Lam15 : LEnv := ⟨fun a σ m k => match firstReg a with
  | _ => bump False,
  fun id => match id with
  | _ => bump false,
  fun b => match keyC b with
  | some 4004 => true
  | some 8102 => true
  | _ => bump false,
  fun b σ m k => match keyC b with
  | some 4004 => LamP15_4004 σ m k
  | some 8102 => LamP15_8102 σ m k
  | _ => bump False⟩

def lxp15_8102 : Ex → List Nat := fun e => match e with
  | .ret => [6]
  | _ => []

theorem pc15_8102 (x_1 : Int) (x_2 : Int) (m : Mem) (k : KX) : once Try.prog E15 Lam15 [1, 2] lxp15_8102 (((secsOf (bodyOf Try.f15)).filter Lam15.cut).getD 0 .skip) [(.flat (.int .u32 x_1)), (.flat (.int .i64 x_2))] m k = P15_8102 x_1 x_2 m (fun x_6' m' => k .ret (only [6] [(.flat (.int .u32 x_6'))]) m') := by
  kernel_rfl

theorem pok15_8102 : PieceOK Try.prog E15 Lam15 (((secsOf (bodyOf Try.f15)).filter Lam15.cut).getD 0 .skip) := by
  refine ⟨fun σ => ∃ x_1 x_2, σ 1 = .flat (.int .u32 x_1) ∧ σ 2 = .flat (.int .i64 x_2), [1, 2], lxp15_8102, fun σ m k => ?_⟩
  have e : Lam15.piece (((secsOf (bodyOf Try.f15)).filter Lam15.cut).getD 0 .skip) σ m k = LamP15_8102 σ m k := by kernel_rfl
  rw [e]
  constructor
  · intro h
    unfold LamP15_8102 at h
    obtain ⟨x_1, h0, h⟩ := kI_ok h
    obtain ⟨x_2, h1, h⟩ := kI_ok h
    refine ⟨⟨x_1, x_2, h0, h1⟩, ?_⟩
    have ev : [1, 2].map σ = [(.flat (.int .u32 x_1)), (.flat (.int .i64 x_2))] := by simp only [List.map_cons, List.map_nil, h0, h1]
    rw [ev, pc15_8102]
    exact h
  · rintro ⟨⟨x_1, x_2, h0, h1⟩, h⟩
    have ev : [1, 2].map σ = [(.flat (.int .u32 x_1)), (.flat (.int .i64 x_2))] := by simp only [List.map_cons, List.map_nil, h0, h1]
    rw [ev, pc15_8102] at h
    unfold LamP15_8102
    try simp only [h0, h1, kI, kbool, kS, kptr, kaggN, kite, decide_true, eq_self]
    exact h

def lxp15_4004 : Ex → List Nat := fun e => match e with
  | .ret => [6]
  | .normal => [1, 2]
  | _ => []

theorem pc15_4004 (x_1 : Int) (x_2 : Int) (x_7 : Int) (x_8 : Bool) (m : Mem) (k : KX) : once Try.prog E15 Lam15 [1, 2, 7, 8] lxp15_4004 (((secsOf (bodyOf Try.f15)).filter Lam15.cut).getD 1 .skip) [(.flat (.int .u32 x_1)), (.flat (.int .i64 x_2)), (.flat (.int .i64 x_7)), (.flat (.bool x_8))] m k = P15_4004 x_1 x_2 x_7 x_8 m (fun x_6' m' => k .ret (only [6] [(.flat (.int .u32 x_6'))]) m') (fun m' => k .normal (only [1, 2] [(.flat (.int .u32 x_1)), (.flat (.int .i64 x_2))]) m') := by
  kernel_rfl

theorem pok15_4004 : PieceOK Try.prog E15 Lam15 (((secsOf (bodyOf Try.f15)).filter Lam15.cut).getD 1 .skip) := by
  refine ⟨fun σ => ∃ x_1 x_2 x_7 x_8, σ 1 = .flat (.int .u32 x_1) ∧ σ 2 = .flat (.int .i64 x_2) ∧ σ 7 = .flat (.int .i64 x_7) ∧ σ 8 = .flat (.bool x_8), [1, 2, 7, 8], lxp15_4004, fun σ m k => ?_⟩
  have e : Lam15.piece (((secsOf (bodyOf Try.f15)).filter Lam15.cut).getD 1 .skip) σ m k = LamP15_4004 σ m k := by kernel_rfl
  rw [e]
  constructor
  · intro h
    unfold LamP15_4004 at h
    obtain ⟨x_1, h0, h⟩ := kI_ok h
    obtain ⟨x_2, h1, h⟩ := kI_ok h
    obtain ⟨x_7, h2, h⟩ := kI_ok h
    obtain ⟨x_8, h3, h⟩ := kbool_ok h
    refine ⟨⟨x_1, x_2, x_7, x_8, h0, h1, h2, h3⟩, ?_⟩
    have ev : [1, 2, 7, 8].map σ = [(.flat (.int .u32 x_1)), (.flat (.int .i64 x_2)), (.flat (.int .i64 x_7)), (.flat (.bool x_8))] := by simp only [List.map_cons, List.map_nil, h0, h1, h2, h3]
    rw [ev, pc15_4004]
    exact h
  · rintro ⟨⟨x_1, x_2, x_7, x_8, h0, h1, h2, h3⟩, h⟩
    have ev : [1, 2, 7, 8].map σ = [(.flat (.int .u32 x_1)), (.flat (.int .i64 x_2)), (.flat (.int .i64 x_7)), (.flat (.bool x_8))] := by simp only [List.map_cons, List.map_nil, h0, h1, h2, h3]
    rw [ev, pc15_4004] at h
    unfold LamP15_4004
    try simp only [h0, h1, h2, h3, kI, kbool, kS, kptr, kaggN, kite, decide_true, eq_self]
    exact h

theorem eqn15 (x_0 : Int) (x_1 : Int) (x_2 : Int) (m : Mem) (k : KV) : bodyK Try.prog E15 Lam15 Try.f15 true [(.flat (.int .i64 x_0)), (.flat (.int .u32 x_1)), (.flat (.int .i64 x_2))] m k = F15 x_0 x_1 x_2 m (fun x_1000 m' => k (.flat (.int .u32 x_1000)) m') := by
  kernel_rfl

theorem fs15 (w0 : World) : FS Try.prog w0 15 G15 := by
  refine (fs_body (Γ := E15) (sound_env (l := [(30, G30)]) w0 (by
    intro p hp
    simp only [List.mem_cons, List.not_mem_nil, or_false] at hp
    rcases hp with rfl
    · exact fs30 w0)) (by kernel_rfl) Try.func15 (Λ := Lam15) (c := (bodyOf Try.f15)) (by kernel_rfl) Try.call15 (by kernel_rfl) (LS_of (bodyOf Try.f15) 0 (by kernel_rfl) (fun i hi => absurd hi (Nat.not_lt_zero i)) 2 (by kernel_rfl) (by
    intro i hi
    match i, hi with
    | 0, _ => exact pok15_8102
    | 1, _ => exact pok15_4004
    | i + 2, hi => omega)) true (np := 3) (Nat.le_of_ble_eq_true (by kernel_rfl))).imp fun args => ?_
  by_cases hl : args.length = 3
  rotate_left
  · exact .inr fun m k hk => by
      unfold G15 at hk
      split at hk
      · exact hl rfl
      · exact hk
  obtain ⟨a0, a1, a2, rfl⟩ : ∃ a0 a1 a2, args = [a0, a1, a2] := len_list3 hl
  rcases kI_or .i64 a0 with ⟨x_0, rfl⟩ | h
  rotate_left
  · exact .inr fun m k hk => h _ (by simpa only [G15, kI, kbool, kS, kptr, kaggN, kite, decide_true, eq_self] using hk)
  rcases kI_or .u32 a1 with ⟨x_1, rfl⟩ | h
  rotate_left
  · exact .inr fun m k hk => h _ (by simpa only [G15, kI, kbool, kS, kptr, kaggN, kite, decide_true, eq_self] using hk)
  rcases kI_or .i64 a2 with ⟨x_2, rfl⟩ | h
  rotate_left
  · exact .inr fun m k hk => h _ (by simpa only [G15, kI, kbool, kS, kptr, kaggN, kite, decide_true, eq_self] using hk)
  exact .inl fun m k => propext ⟨fun h => ⟨rfl, by rw [eqn15]; simpa only [G15, kI, kbool, kS, kptr, kaggN, kite, decide_true, eq_self] using h⟩, fun h => by have h := h.2; rw [eqn15] at h; simpa only [G15, kI, kbool, kS, kptr, kaggN, kite, decide_true, eq_self] using h⟩

/-- pianola/word.Sign -/
def F19 (x_0 : Int) (x_1 : Int) (m : Mem) (k : Int → Mem → Prop) : Prop :=
  kif (decide (x_1 < 1)) ((Keeps m m ∧ k 0 m)) (kif (decide (x_1 > 31)) ((Keeps m m ∧ k x_0 m)) (kif (decide (IntKind.wrap .i64 (32 - x_1) < 0)) False (F30 (IntKind.wrap .u32 (x_0 * 2 ^ min (IntKind.wrap .i64 (32 - x_1)).toNat 32)) (IntKind.wrap .i64 (32 - x_1)) m fun x1 m2 => (Keeps m m2 ∧ k x1 m))))

def G19 (args : List AV) (m : Mem) (k : KV) : Prop := match args with
  | [a0, a1] => kI .u32 a0 fun x_0 => kI .i64 a1 fun x_1 => F19 x_0 x_1 m (fun x_1000 m' => k (.flat (.int .u32 x_1000)) m')
  | _ => False

def E19 : Env := envOf [(30, G30)]

def Lam19 : LEnv := ⟨fun a σ m k => match firstReg a with
  | _ => bump False,
  fun id => match id with
  | _ => bump false,
  fun b => match keyC b with
  | _ => bump false,
  fun b σ m k => match keyC b with
  | _ => bump False⟩

theorem eqn19 (x_0 : Int) (x_1 : Int) (m : Mem) (k : KV) : bodyK Try.prog E19 Lam19 Try.f19 true [(.flat (.int .u32 x_0)), (.flat (.int .i64 x_1))] m k = F19 x_0 x_1 m (fun x_1000 m' => k (.flat (.int .u32 x_1000)) m') := by
  kernel_rfl

theorem fs19 (w0 : World) : FS Try.prog w0 19 G19 := by
  refine (fs_body (Γ := E19) (sound_env (l := [(30, G30)]) w0 (by
    intro p hp
    simp only [List.mem_cons, List.not_mem_nil, or_false] at hp
    rcases hp with rfl
    · exact fs30 w0)) (by kernel_rfl) Try.func19 (Λ := Lam19) (c := (bodyOf Try.f19)) (by kernel_rfl) Try.call19 (by kernel_rfl) (LS_of (bodyOf Try.f19) 0 (by kernel_rfl) (fun i hi => absurd hi (Nat.not_lt_zero i)) 0 (by kernel_rfl) (fun i hi => absurd hi (Nat.not_lt_zero i))) true (np := 2) (Nat.le_of_ble_eq_true (by kernel_rfl))).imp fun args => ?_
  by_cases hl : args.length = 2
  rotate_left
  · exact .inr fun m k hk => by
      unfold G19 at hk
      split at hk
      · exact hl rfl
      · exact hk
  obtain ⟨a0, a1, rfl⟩ : ∃ a0 a1, args = [a0, a1] := len_list2 hl
  rcases kI_or .u32 a0 with ⟨x_0, rfl⟩ | h
  rotate_left
  · exact .inr fun m k hk => h _ (by simpa only [G19, kI, kbool, kS, kptr, kaggN, kite, decide_true, eq_self] using hk)
  rcases kI_or .i64 a1 with ⟨x_1, rfl⟩ | h
  rotate_left
  · exact .inr fun m k hk => h _ (by simpa only [G19, kI, kbool, kS, kptr, kaggN, kite, decide_true, eq_self] using hk)
  exact .inl fun m k => propext ⟨fun h => ⟨rfl, by rw [eqn19]; simpa only [G19, kI, kbool, kS, kptr, kaggN, kite, decide_true, eq_self] using h⟩, fun h => by have h := h.2; rw [eqn19] at h; simpa only [G19, kI, kbool, kS, kptr, kaggN, kite, decide_true, eq_self] using h⟩

/-- pianola/word.Less -/
def F20 (x_0 : Int) (x_1 : Int) (x_2 : Bool) (m : Mem) (k : Bool → Mem → Prop) : Prop :=
  kif x_2 ((Keeps m m ∧ k (decide ((IntKind.wrap .i32 x_0) < (IntKind.wrap .i32 x_1))) m)) ((Keeps m m ∧ k (decide (x_0 < x_1)) m))

def G20 (args : List AV) (m : Mem) (k : KV) : Prop := match args with
  | [a0, a1, a2] => kI .u32 a0 fun x_0 => kI .u32 a1 fun x_1 => kbool a2 fun x_2 => F20 x_0 x_1 x_2 m (fun x_1000 m' => k (.flat (.bool x_1000)) m')
  | _ => False

def E20 : Env := envOf []

def Lam20 : LEnv := ⟨fun a σ m k => match firstReg a with
  | _ => bump False,
  fun id => match id with
  | _ => bump false,
  fun b => match keyC b with
  | _ => bump false,
  fun b σ m k => match keyC b with
  | _ => bump False⟩

theorem eqn20 (x_0 : Int) (x_1 : Int) (x_2 : Bool) (m : Mem) (k : KV) : bodyK Try.prog E20 Lam20 Try.f20 true [(.flat (.int .u32 x_0)), (.flat (.int .u32 x_1)), (.flat (.bool x_2))] m k = F20 x_0 x_1 x_2 m (fun x_1000 m' => k (.flat (.bool x_1000)) m') := by
  kernel_rfl

theorem fs20 (w0 : World) : FS Try.prog w0 20 G20 := by
  refine (fs_body (Γ := E20) (sound_env (l := []) w0 (by
    intro p hp
    cases hp)) (by kernel_rfl) Try.func20 (Λ := Lam20) (c := (bodyOf Try.f20)) (by kernel_rfl) Try.call20 (by kernel_rfl) (LS_of (bodyOf Try.f20) 0 (by kernel_rfl) (fun i hi => absurd hi (Nat.not_lt_zero i)) 0 (by kernel_rfl) (fun i hi => absurd hi (Nat.not_lt_zero i))) true (np := 3) (Nat.le_of_ble_eq_true (by kernel_rfl))).imp fun args => ?_
  by_cases hl : args.length = 3
  rotate_left
  · exact .inr fun m k hk => by
      unfold G20 at hk
      split at hk
      · exact hl rfl
      · exact hk
  obtain ⟨a0, a1, a2, rfl⟩ : ∃ a0 a1 a2, args = [a0, a1, a2] := len_list3 hl
  rcases kI_or .u32 a0 with ⟨x_0, rfl⟩ | h
  rotate_left
  · exact .inr fun m k hk => h _ (by simpa only [G20, kI, kbool, kS, kptr, kaggN, kite, decide_true, eq_self] using hk)
  rcases kI_or .u32 a1 with ⟨x_1, rfl⟩ | h
  rotate_left
  · exact .inr fun m k hk => h _ (by simpa only [G20, kI, kbool, kS, kptr, kaggN, kite, decide_true, eq_self] using hk)
  rcases kbool_or a2 with ⟨x_2, rfl⟩ | h
  rotate_left
  · exact .inr fun m k hk => h _ (by simpa only [G20, kI, kbool, kS, kptr, kaggN, kite, decide_true, eq_self] using hk)
  exact .inl fun m k => propext ⟨fun h => ⟨rfl, by rw [eqn20]; simpa only [G20, kI, kbool, kS, kptr, kaggN, kite, decide_true, eq_self] using h⟩, fun h => by have h := h.2; rw [eqn20] at h; simpa only [G20, kI, kbool, kS, kptr, kaggN, kite, decide_true, eq_self] using h⟩

/-- pianola/alu.one -/
def F31 (x_0 : Bool) (m : Mem) (k : Int → Mem → Prop) : Prop :=
  kif x_0 ((Keeps m m ∧ k 1 m)) ((Keeps m m ∧ k 0 m))

def G31 (args : List AV) (m : Mem) (k : KV) : Prop := match args with
  | [a0] => kbool a0 fun x_0 => F31 x_0 m (fun x_1000 m' => k (.flat (.int .u32 x_1000)) m')
  | _ => False

def E31 : Env := envOf []

def Lam31 : LEnv := ⟨fun a σ m k => match firstReg a with
  | _ => bump False,
  fun id => match id with
  | _ => bump false,
  fun b => match keyC b with
  | _ => bump false,
  fun b σ m k => match keyC b with
  | _ => bump False⟩

theorem eqn31 (x_0 : Bool) (m : Mem) (k : KV) : bodyK Try.prog E31 Lam31 Try.f31 true [(.flat (.bool x_0))] m k = F31 x_0 m (fun x_1000 m' => k (.flat (.int .u32 x_1000)) m') := by
  kernel_rfl

theorem fs31 (w0 : World) : FS Try.prog w0 31 G31 := by
  refine (fs_body (Γ := E31) (sound_env (l := []) w0 (by
    intro p hp
    cases hp)) (by kernel_rfl) Try.func31 (Λ := Lam31) (c := (bodyOf Try.f31)) (by kernel_rfl) Try.call31 (by kernel_rfl) (LS_of (bodyOf Try.f31) 0 (by kernel_rfl) (fun i hi => absurd hi (Nat.not_lt_zero i)) 0 (by kernel_rfl) (fun i hi => absurd hi (Nat.not_lt_zero i))) true (np := 1) (Nat.le_of_ble_eq_true (by kernel_rfl))).imp fun args => ?_
  by_cases hl : args.length = 1
  rotate_left
  · exact .inr fun m k hk => by
      unfold G31 at hk
      split at hk
      · exact hl rfl
      · exact hk
  obtain ⟨a0, rfl⟩ : ∃ a0, args = [a0] := len_list1 hl
  rcases kbool_or a0 with ⟨x_0, rfl⟩ | h
  rotate_left
  · exact .inr fun m k hk => h _ (by simpa only [G31, kI, kbool, kS, kptr, kaggN, kite, decide_true, eq_self] using hk)
  exact .inl fun m k => propext ⟨fun h => ⟨rfl, by rw [eqn31]; simpa only [G31, kI, kbool, kS, kptr, kaggN, kite, decide_true, eq_self] using h⟩, fun h => by have h := h.2; rw [eqn31] at h; simpa only [G31, kI, kbool, kS, kptr, kaggN, kite, decide_true, eq_self] using h⟩

def P16_8004 (x_1 : Int) (b_2 o_2 : Nat) (x_5 : Int) (x_6 : Int) (x_14 : Int) (x_21 : Bool) (m : Mem) (kr : Int → Mem → Prop) (kn : Mem → Prop) : Prop :=
  kif x_21 (ldI .i64 m b_2 (o_2 + 0) fun x9 => F20 x_1 x_6 (x9 == 48) m fun x10 m11 => F31 x10 m11 fun x12 m13 => kr x12 m13) (kif (x_14 == 50) (kr (bits .and .u32 x_1 x_5) m) (kif (x_14 == 51) (kr (bits .or .u32 x_1 x_5) m) (kif (x_14 == 52) (kr (bits .xor .u32 x_1 x_5) m) (kn  m))))

def P16_5004 (x_1 : Int) (b_2 o_2 : Nat) (x_5 : Int) (x_6 : Int) (x_14 : Int) (x_15 : Bool) (m : Mem) (kr : Int → Mem → Prop) (kn : Mem → Prop) : Prop :=
  kif x_15 (kr (IntKind.wrap .u32 (x_1 + x_6)) m) (kif (x_14 == 48) (P16_8004 x_1 b_2 o_2 x_5 x_6 x_14 (x_14 == 48) m (fun x14 m15 => kr x14 m15) (fun m16 => kn  m16)) (P16_8004 x_1 b_2 o_2 x_5 x_6 x_14 (x_14 == 49) m (fun x17 m18 => kr x17 m18) (fun m19 => kn  m19)))

/-- pianola/alu.with -/
def F16 (c_0 : Nat → AV) (x_1 : Int) (m : Mem) (k : Int → Mem → Prop) : Prop :=
  newK m ⟨6, c_0, 26, false⟩ fun b2 m1 => ∃ Fr3 : Nat → Prop, Fr3 b2 ∧ (ldI .u32 m1 b2 5 fun x4 => Fr3 b2 ∧ (ldI .u32 m1 b2 5 fun x5 => F19 x5 16 m1 fun x6 m7 => KeepsIn Fr3 m1 m7 ∧ (ldI .i64 m7 b2 0 fun x8 => kif (x8 == 46) (P16_5004 x_1 b2 0 (bits .and .u32 x4 65535) x6 x8 (x8 == 46) m7 (fun x20 m21 => (Keeps m m21 ∧ k x20 m)) (fun m22 => (Keeps m m22 ∧ k (IntKind.wrap .u32 ((bits .and .u32 x4 65535) * 65536)) m))) (P16_5004 x_1 b2 0 (bits .and .u32 x4 65535) x6 x8 (x8 == 47) m7 (fun x23 m24 => (Keeps m m24 ∧ k x23 m)) (fun m25 => (Keeps m m25 ∧ k (IntKind.wrap .u32 ((bits .and .u32 x4 65535) * 65536)) m))))))

def G16 (args : List AV) (m : Mem) (k : KV) : Prop := match args with
  | [a0, a1] => kaggN 6 a0 fun c_0 => kI .u32 a1 fun x_1 => F16 c_0 x_1 m (fun x_1000 m' => k (.flat (.int .u32 x_1000)) m')
  | _ => False

def E16 : Env := envOf [(19, G19), (20, G20), (31, G31)]

def LamP16_5004 (σ : Nat → AV) (m : Mem) (k : KX) : Prop := kI .u32 (σ 1) fun x_1 => kptr (σ 2) fun b_2 o_2 => kI .u32 (σ 5) fun x_5 => kI .u32 (σ 6) fun x_6 => kI .i64 (σ 14) fun x_14 => kbool (σ 15) fun x_15 => P16_5004 x_1 b_2 o_2 x_5 x_6 x_14 x_15 m (fun x_4' m' => k .ret (only [4] [(.flat (.int .u32 x_4'))]) m') (fun m' => k .normal (only [5] [(.flat (.int .u32 x_5))]) m')

def LamP16_8004 (σ : Nat → AV) (m : Mem) (k : KX) : Prop := kI .u32 (σ 1) fun x_1 => kptr (σ 2) fun b_2 o_2 => kI .u32 (σ 5) fun x_5 => kI .u32 (σ 6) fun x_6 => kI .i64 (σ 14) fun x_14 => kbool (σ 21) fun x_21 => P16_8004 x_1 b_2 o_2 x_5 x_6 x_14 x_21 m (fun x_4' m' => k .ret (only [4] [(.flat (.int .u32 x_4'))]) m') (fun m' => k .normal (only [5] [(.flat (.int .u32 x_5))]) m')

def Lam16 : LEnv := ⟨fun a σ m k => match firstReg a with
  | _ => bump False,
  fun id => match id with
  | 1 => true
  | _ => bump false,
  fun b => match keyC b with
  | some 5004 => true
  | some 8004 => true
  | _ => bump false,
  fun b σ m k => match keyC b with
  | some 5004 => LamP16_5004 σ m k
  | some 8004 => LamP16_8004 σ m k
  | _ => bump False⟩

def lxp16_8004 : Ex → List Nat := fun e => match e with
  | .ret => [4]
  | .normal => [5]
  | _ => []

theorem pc16_8004 (x_1 : Int) (b_2 o_2 : Nat) (x_5 : Int) (x_6 : Int) (x_14 : Int) (x_21 : Bool) (m : Mem) (k : KX) : once Try.prog E16 Lam16 [1, 2, 5, 6, 14, 21] lxp16_8004 (((secsOf (bodyOf Try.f16)).filter Lam16.cut).getD 1 .skip) [(.flat (.int .u32 x_1)), (.ptr b_2 o_2), (.flat (.int .u32 x_5)), (.flat (.int .u32 x_6)), (.flat (.int .i64 x_14)), (.flat (.bool x_21))] m k = P16_8004 x_1 b_2 o_2 x_5 x_6 x_14 x_21 m (fun x_4' m' => k .ret (only [4] [(.flat (.int .u32 x_4'))]) m') (fun m' => k .normal (only [5] [(.flat (.int .u32 x_5))]) m') := by
  kernel_rfl

theorem pok16_8004 : PieceOK Try.prog E16 Lam16 (((secsOf (bodyOf Try.f16)).filter Lam16.cut).getD 1 .skip) := by
  refine ⟨fun σ => ∃ x_1 b_2 o_2 x_5 x_6 x_14 x_21, σ 1 = .flat (.int .u32 x_1) ∧ σ 2 = .ptr b_2 o_2 ∧ σ 5 = .flat (.int .u32 x_5) ∧ σ 6 = .flat (.int .u32 x_6) ∧ σ 14 = .flat (.int .i64 x_14) ∧ σ 21 = .flat (.bool x_21), [1, 2, 5, 6, 14, 21], lxp16_8004, fun σ m k => ?_⟩
  have e : Lam16.piece (((secsOf (bodyOf Try.f16)).filter Lam16.cut).getD 1 .skip) σ m k = LamP16_8004 σ m k := by kernel_rfl
  rw [e]
  constructor
  · intro h
    unfold LamP16_8004 at h
    obtain ⟨x_1, h0, h⟩ := kI_ok h
    obtain ⟨b_2, o_2, h1, h⟩ := kptr_ok h
    obtain ⟨x_5, h2, h⟩ := kI_ok h
    obtain ⟨x_6, h3, h⟩ := kI_ok h
    obtain ⟨x_14, h4, h⟩ := kI_ok h
    obtain ⟨x_21, h5, h⟩ := kbool_ok h
    refine ⟨⟨x_1, b_2, o_2, x_5, x_6, x_14, x_21, h0, h1, h2, h3, h4, h5⟩, ?_⟩
    have ev : [1, 2, 5, 6, 14, 21].map σ = [(.flat (.int .u32 x_1)), (.ptr b_2 o_2), (.flat (.int .u32 x_5)), (.flat (.int .u32 x_6)), (.flat (.int .i64 x_14)), (.flat (.bool x_21))] := by simp only [List.map_cons, List.map_nil, h0, h1, h2, h3, h4, h5]
    rw [ev, pc16_8004]
    exact h
  · rintro ⟨⟨x_1, b_2, o_2, x_5, x_6, x_14, x_21, h0, h1, h2, h3, h4, h5⟩, h⟩
    have ev : [1, 2, 5, 6, 14, 21].map σ = [(.flat (.int .u32 x_1)), (.ptr b_2 o_2), (.flat (.int .u32 x_5)), (.flat (.int .u32 x_6)), (.flat (.int .i64 x_14)), (.flat (.bool x_21))] := by simp only [List.map_cons, List.map_nil, h0, h1, h2, h3, h4, h5]
    rw [ev, pc16_8004] at h
    unfold LamP16_8004
    try simp only [h0, h1, h2, h3, h4, h5, kI, kbool, kS, kptr, kaggN, kite, decide_true, eq_self]
    exact h

def lxp16_5004 : Ex → List Nat := fun e => match e with
  | .ret => [4]
  | .normal => [5]
  | _ => []

theorem pc16_5004 (x_1 : Int) (b_2 o_2 : Nat) (x_5 : Int) (x_6 : Int) (x_14 : Int) (x_15 : Bool) (m : Mem) (k : KX) : once Try.prog E16 Lam16 [1, 2, 5, 6, 14, 15] lxp16_5004 (((secsOf (bodyOf Try.f16)).filter Lam16.cut).getD 0 .skip) [(.flat (.int .u32 x_1)), (.ptr b_2 o_2), (.flat (.int .u32 x_5)), (.flat (.int .u32 x_6)), (.flat (.int .i64 x_14)), (.flat (.bool x_15))] m k = P16_5004 x_1 b_2 o_2 x_5 x_6 x_14 x_15 m (fun x_4' m' => k .ret (only [4] [(.flat (.int .u32 x_4'))]) m') (fun m' => k .normal (only [5] [(.flat (.int .u32 x_5))]) m') := by
  kernel_rfl

theorem pok16_5004 : PieceOK Try.prog E16 Lam16 (((secsOf (bodyOf Try.f16)).filter Lam16.cut).getD 0 .skip) := by
  refine ⟨fun σ => ∃ x_1 b_2 o_2 x_5 x_6 x_14 x_15, σ 1 = .flat (.int .u32 x_1) ∧ σ 2 = .ptr b_2 o_2 ∧ σ 5 = .flat (.int .u32 x_5) ∧ σ 6 = .flat (.int .u32 x_6) ∧ σ 14 = .flat (.int .i64 x_14) ∧ σ 15 = .flat (.bool x_15), [1, 2, 5, 6, 14, 15], lxp16_5004, fun σ m k => ?_⟩
  have e : Lam16.piece (((secsOf (bodyOf Try.f16)).filter Lam16.cut).getD 0 .skip) σ m k = LamP16_5004 σ m k := by kernel_rfl
  rw [e]
  constructor
  · intro h
    unfold LamP16_5004 at h
    obtain ⟨x_1, h0, h⟩ := kI_ok h
    obtain ⟨b_2, o_2, h1, h⟩ := kptr_ok h
    obtain ⟨x_5, h2, h⟩ := kI_ok h
    obtain ⟨x_6, h3, h⟩ := kI_ok h
    obtain ⟨x_14, h4, h⟩ := kI_ok h
    obtain ⟨x_15, h5, h⟩ := kbool_ok h
    refine ⟨⟨x_1, b_2, o_2, x_5, x_6, x_14, x_15, h0, h1, h2, h3, h4, h5⟩, ?_⟩
    have ev : [1, 2, 5, 6, 14, 15].map σ = [(.flat (.int .u32 x_1)), (.ptr b_2 o_2), (.flat (.int .u32 x_5)), (.flat (.int .u32 x_6)), (.flat (.int .i64 x_14)), (.flat (.bool x_15))] := by simp only [List.map_cons, List.map_nil, h0, h1, h2, h3, h4, h5]
    rw [ev, pc16_5004]
    exact h
  · rintro ⟨⟨x_1, b_2, o_2, x_5, x_6, x_14, x_15, h0, h1, h2, h3, h4, h5⟩, h⟩
    have ev : [1, 2, 5, 6, 14, 15].map σ = [(.flat (.int .u32 x_1)), (.ptr b_2 o_2), (.flat (.int .u32 x_5)), (.flat (.int .u32 x_6)), (.flat (.int .i64 x_14)), (.flat (.bool x_15))] := by simp only [List.map_cons, List.map_nil, h0, h1, h2, h3, h4, h5]
    rw [ev, pc16_5004] at h
    unfold LamP16_5004
    try simp only [h0, h1, h2, h3, h4, h5, kI, kbool, kS, kptr, kaggN, kite, decide_true, eq_self]
    exact h

theorem eqn16 (c_0 : Nat → AV) (x_1 : Int) (m : Mem) (k : KV) : bodyK Try.prog E16 Lam16 Try.f16 true [(.agg 6 c_0), (.flat (.int .u32 x_1))] m k = F16 c_0 x_1 m (fun x_1000 m' => k (.flat (.int .u32 x_1000)) m') := by
  kernel_rfl

theorem fs16 (w0 : World) : FS Try.prog w0 16 G16 := by
  refine (fs_body (Γ := E16) (sound_env (l := [(19, G19), (20, G20), (31, G31)]) w0 (by
    intro p hp
    simp only [List.mem_cons, List.not_mem_nil, or_false] at hp
    rcases hp with rfl | rfl | rfl
    · exact fs19 w0
    · exact fs20 w0
    · exact fs31 w0)) (by kernel_rfl) Try.func16 (Λ := Lam16) (c := (bodyOf Try.f16)) (by kernel_rfl) Try.call16 (by kernel_rfl) (LS_of (bodyOf Try.f16) 0 (by kernel_rfl) (fun i hi => absurd hi (Nat.not_lt_zero i)) 2 (by kernel_rfl) (by
    intro i hi
    match i, hi with
    | 0, _ => exact pok16_5004
    | 1, _ => exact pok16_8004
    | i + 2, hi => omega)) true (np := 2) (Nat.le_of_ble_eq_true (by kernel_rfl))).imp fun args => ?_
  by_cases hl : args.length = 2
  rotate_left
  · exact .inr fun m k hk => by
      unfold G16 at hk
      split at hk
      · exact hl rfl
      · exact hk
  obtain ⟨a0, a1, rfl⟩ : ∃ a0 a1, args = [a0, a1] := len_list2 hl
  rcases kaggN_or 6 a0 with ⟨c_0, rfl⟩ | h
  rotate_left
  · exact .inr fun m k hk => h _ (by simpa only [G16, kI, kbool, kS, kptr, kaggN, kite, decide_true, eq_self] using hk)
  rcases kI_or .u32 a1 with ⟨x_1, rfl⟩ | h
  rotate_left
  · exact .inr fun m k hk => h _ (by simpa only [G16, kI, kbool, kS, kptr, kaggN, kite, decide_true, eq_self] using hk)
  exact .inl fun m k => propext ⟨fun h => ⟨rfl, by rw [eqn16]; simpa only [G16, kI, kbool, kS, kptr, kaggN, kite, decide_true, eq_self] using h⟩, fun h => by have h := h.2; rw [eqn16] at h; simpa only [G16, kI, kbool, kS, kptr, kaggN, kite, decide_true, eq_self] using h⟩

def P54_7102 (x_0 : Int) (x_2 : Int) (m : Mem) (kr : Int → Mem → Prop) : Prop :=
  kif (decide (0 ≤ IntKind.wrap .u8 x_0) && decide (IntKind.wrap .u8 x_0 < Yb0.size)) (kr (IntKind.wrap .i64 (x_2 + (IntKind.wrap .i64 ((Yb0.data.getD (IntKind.wrap .u8 x_0).toNat 0).toNat)))) m) False

def P54_4103 (x_0 : Int) (x_2 : Int) (m : Mem) (kr : Int → Mem → Prop) : Prop :=
  kif (decide (x_0 ≥ 256)) (P54_7102 (x_0.fdiv 256) (IntKind.wrap .i64 (x_2 + 8)) m (fun x1 m2 => kr x1 m2)) (P54_7102 x_0 x_2 m (fun x3 m4 => kr x3 m4))

/-- math/bits.Len32 -/
def F54 (x_0 : Int) (m : Mem) (k : Int → Mem → Prop) : Prop :=
  kif (decide (x_0 ≥ 65536)) (P54_4103 (x_0.fdiv 65536) 16 m (fun x5 m6 => (Keeps m m6 ∧ k x5 m))) (P54_4103 x_0 0 m (fun x7 m8 => (Keeps m m8 ∧ k x7 m)))

def G54 (args : List AV) (m : Mem) (k : KV) : Prop := match args with
  | [a0] => kI .u32 a0 fun x_0 => F54 x_0 m (fun x_1000 m' => k (.flat (.int .i64 x_1000)) m')
  | _ => False

def E54 : Env := envOf []

def LamP54_4103 (σ : Nat → AV) (m : Mem) (k : KX) : Prop := kI .u32 (σ 0) fun x_0 => kI .i64 (σ 2) fun x_2 => P54_4103 x_0 x_2 m (fun x_2' m' => k .ret (only [2] [(.flat (.int .i64 x_2'))]) m')

def LamP54_7102 (σ : Nat → AV) (m : Mem) (k : KX) : Prop := kI .u32 (σ 0) fun x_0 => kI .i64 (σ 2) fun x_2 => P54_7102 x_0 x_2 m (fun x_2' m' => k .ret (only [2] [(.flat (.int .i64 x_2'))]) m')

def Lam54 : LEnv := ⟨fun a σ m k => match firstReg a with
  | _ => bump False,
  fun id => match id with
  | _ => bump false,
  fun b => match keyC b with
  | some 4103 => true
  | some 7102 => true
  | _ => bump false,
  fun b σ m k => match keyC b with
  | some 4103 => LamP54_4103 σ m k
  | some 7102 => LamP54_7102 σ m k
  | _ => bump False⟩

def lxp54_7102 : Ex → List Nat := fun e => match e with
  | .ret => [2]
  | _ => []

theorem pc54_7102 (x_0 : Int) (x_2 : Int) (m : Mem) (k : KX) : once Try.prog E54 Lam54 [0, 2] lxp54_7102 (((secsOf (bodyOf Try.f54)).filter Lam54.cut).getD 1 .skip) [(.flat (.int .u32 x_0)), (.flat (.int .i64 x_2))] m k = P54_7102 x_0 x_2 m (fun x_2' m' => k .ret (only [2] [(.flat (.int .i64 x_2'))]) m') := by
  kernel_rfl

theorem pok54_7102 : PieceOK Try.prog E54 Lam54 (((secsOf (bodyOf Try.f54)).filter Lam54.cut).getD 1 .skip) := by
  refine ⟨fun σ => ∃ x_0 x_2, σ 0 = .flat (.int .u32 x_0) ∧ σ 2 = .flat (.int .i64 x_2), [0, 2], lxp54_7102, fun σ m k => ?_⟩
  have e : Lam54.piece (((secsOf (bodyOf Try.f54)).filter Lam54.cut).getD 1 .skip) σ m k = LamP54_7102 σ m k := by kernel_rfl
  rw [e]
  constructor
  · intro h
    unfold LamP54_7102 at h
    obtain ⟨x_0, h0, h⟩ := kI_ok h
    obtain ⟨x_2, h1, h⟩ := kI_ok h
    refine ⟨⟨x_0, x_2, h0, h1⟩, ?_⟩
    have ev : [0, 2].map σ = [(.flat (.int .u32 x_0)), (.flat (.int .i64 x_2))] := by simp only [List.map_cons, List.map_nil, h0, h1]
    rw [ev, pc54_7102]
    exact h
  · rintro ⟨⟨x_0, x_2, h0, h1⟩, h⟩
    have ev : [0, 2].map σ = [(.flat (.int .u32 x_0)), (.flat (.int .i64 x_2))] := by simp only [List.map_cons, List.map_nil, h0, h1]
    rw [ev, pc54_7102] at h
    unfold LamP54_7102
    try simp only [h0, h1, kI, kbool, kS, kptr, kaggN, kite, decide_true, eq_self]
    exact h

def lxp54_4103 : Ex → List Nat := fun e => match e with
  | .ret => [2]
  | _ => []

theorem pc54_4103 (x_0 : Int) (x_2 : Int) (m : Mem) (k : KX) : once Try.prog E54 Lam54 [0, 2] lxp54_4103 (((secsOf (bodyOf Try.f54)).filter Lam54.cut).getD 0 .skip) [(.flat (.int .u32 x_0)), (.flat (.int .i64 x_2))] m k = P54_4103 x_0 x_2 m (fun x_2' m' => k .ret (only [2] [(.flat (.int .i64 x_2'))]) m') := by
  kernel_rfl

theorem pok54_4103 : PieceOK Try.prog E54 Lam54 (((secsOf (bodyOf Try.f54)).filter Lam54.cut).getD 0 .skip) := by
  refine ⟨fun σ => ∃ x_0 x_2, σ 0 = .flat (.int .u32 x_0) ∧ σ 2 = .flat (.int .i64 x_2), [0, 2], lxp54_4103, fun σ m k => ?_⟩
  have e : Lam54.piece (((secsOf (bodyOf Try.f54)).filter Lam54.cut).getD 0 .skip) σ m k = LamP54_4103 σ m k := by kernel_rfl
  rw [e]
  constructor
  · intro h
    unfold LamP54_4103 at h
    obtain ⟨x_0, h0, h⟩ := kI_ok h
    obtain ⟨x_2, h1, h⟩ := kI_ok h
    refine ⟨⟨x_0, x_2, h0, h1⟩, ?_⟩
    have ev : [0, 2].map σ = [(.flat (.int .u32 x_0)), (.flat (.int .i64 x_2))] := by simp only [List.map_cons, List.map_nil, h0, h1]
    rw [ev, pc54_4103]
    exact h
  · rintro ⟨⟨x_0, x_2, h0, h1⟩, h⟩
    have ev : [0, 2].map σ = [(.flat (.int .u32 x_0)), (.flat (.int .i64 x_2))] := by simp only [List.map_cons, List.map_nil, h0, h1]
    rw [ev, pc54_4103] at h
    unfold LamP54_4103
    try simp only [h0, h1, kI, kbool, kS, kptr, kaggN, kite, decide_true, eq_self]
    exact h

theorem eqn54 (x_0 : Int) (m : Mem) (k : KV) : bodyK Try.prog E54 Lam54 Try.f54 true [(.flat (.int .u32 x_0))] m k = F54 x_0 m (fun x_1000 m' => k (.flat (.int .i64 x_1000)) m') := by
  kernel_rfl

theorem fs54 (w0 : World) : FS Try.prog w0 54 G54 := by
  refine (fs_body (Γ := E54) (sound_env (l := []) w0 (by
    intro p hp
    cases hp)) (by kernel_rfl) Try.func54 (Λ := Lam54) (c := (bodyOf Try.f54)) (by kernel_rfl) Try.call54 (by kernel_rfl) (LS_of (bodyOf Try.f54) 0 (by kernel_rfl) (fun i hi => absurd hi (Nat.not_lt_zero i)) 2 (by kernel_rfl) (by
    intro i hi
    match i, hi with
    | 0, _ => exact pok54_4103
    | 1, _ => exact pok54_7102
    | i + 2, hi => omega)) true (np := 1) (Nat.le_of_ble_eq_true (by kernel_rfl))).imp fun args => ?_
  by_cases hl : args.length = 1
  rotate_left
  · exact .inr fun m k hk => by
      unfold G54 at hk
      split at hk
      · exact hl rfl
      · exact hk
  obtain ⟨a0, rfl⟩ : ∃ a0, args = [a0] := len_list1 hl
  rcases kI_or .u32 a0 with ⟨x_0, rfl⟩ | h
  rotate_left
  · exact .inr fun m k hk => h _ (by simpa only [G54, kI, kbool, kS, kptr, kaggN, kite, decide_true, eq_self] using hk)
  exact .inl fun m k => propext ⟨fun h => ⟨rfl, by rw [eqn54]; simpa only [G54, kI, kbool, kS, kptr, kaggN, kite, decide_true, eq_self] using h⟩, fun h => by have h := h.2; rw [eqn54] at h; simpa only [G54, kI, kbool, kS, kptr, kaggN, kite, decide_true, eq_self] using h⟩

/-- math/bits.LeadingZeros32 -/
def F48 (x_0 : Int) (m : Mem) (k : Int → Mem → Prop) : Prop :=
  F54 x_0 m fun x1 m2 => (Keeps m m2 ∧ k (IntKind.wrap .i64 (32 - x1)) m)

def G48 (args : List AV) (m : Mem) (k : KV) : Prop := match args with
  | [a0] => kI .u32 a0 fun x_0 => F48 x_0 m (fun x_1000 m' => k (.flat (.int .i64 x_1000)) m')
  | _ => False

def E48 : Env := envOf [(54, G54)]

def Lam48 : LEnv := ⟨fun a σ m k => match firstReg a with
  | _ => bump False,
  fun id => match id with
  | _ => bump false,
  fun b => match keyC b with
  | _ => bump false,
  fun b σ m k => match keyC b with
  | _ => bump False⟩

theorem eqn48 (x_0 : Int) (m : Mem) (k : KV) : bodyK Try.prog E48 Lam48 Try.f48 true [(.flat (.int .u32 x_0))] m k = F48 x_0 m (fun x_1000 m' => k (.flat (.int .i64 x_1000)) m') := by
  kernel_rfl

theorem fs48 (w0 : World) : FS Try.prog w0 48 G48 := by
  refine (fs_body (Γ := E48) (sound_env (l := [(54, G54)]) w0 (by
    intro p hp
    simp only [List.mem_cons, List.not_mem_nil, or_false] at hp
    rcases hp with rfl
    · exact fs54 w0)) (by kernel_rfl) Try.func48 (Λ := Lam48) (c := (bodyOf Try.f48)) (by kernel_rfl) Try.call48 (by kernel_rfl) (LS_of (bodyOf Try.f48) 0 (by kernel_rfl) (fun i hi => absurd hi (Nat.not_lt_zero i)) 0 (by kernel_rfl) (fun i hi => absurd hi (Nat.not_lt_zero i))) true (np := 1) (Nat.le_of_ble_eq_true (by kernel_rfl))).imp fun args => ?_
  by_cases hl : args.length = 1
  rotate_left
  · exact .inr fun m k hk => by
      unfold G48 at hk
      split at hk
      · exact hl rfl
      · exact hk
  obtain ⟨a0, rfl⟩ : ∃ a0, args = [a0] := len_list1 hl
  rcases kI_or .u32 a0 with ⟨x_0, rfl⟩ | h
  rotate_left
  · exact .inr fun m k hk => h _ (by simpa only [G48, kI, kbool, kS, kptr, kaggN, kite, decide_true, eq_self] using hk)
  exact .inl fun m k => propext ⟨fun h => ⟨rfl, by rw [eqn48]; simpa only [G48, kI, kbool, kS, kptr, kaggN, kite, decide_true, eq_self] using h⟩, fun h => by have h := h.2; rw [eqn48] at h; simpa only [G48, kI, kbool, kS, kptr, kaggN, kite, decide_true, eq_self] using h⟩

/-- pianola/word.Clz -/
def F32 (x_0 : Int) (m : Mem) (k : Int → Mem → Prop) : Prop :=
  F48 x_0 m fun x1 m2 => (Keeps m m2 ∧ k x1 m)

def G32 (args : List AV) (m : Mem) (k : KV) : Prop := match args with
  | [a0] => kI .u32 a0 fun x_0 => F32 x_0 m (fun x_1000 m' => k (.flat (.int .i64 x_1000)) m')
  | _ => False

def E32 : Env := envOf [(48, G48)]

def Lam32 : LEnv := ⟨fun a σ m k => match firstReg a with
  | _ => bump False,
  fun id => match id with
  | _ => bump false,
  fun b => match keyC b with
  | _ => bump false,
  fun b σ m k => match keyC b with
  | _ => bump False⟩

theorem eqn32 (x_0 : Int) (m : Mem) (k : KV) : bodyK Try.prog E32 Lam32 Try.f32 true [(.flat (.int .u32 x_0))] m k = F32 x_0 m (fun x_1000 m' => k (.flat (.int .i64 x_1000)) m') := by
  kernel_rfl

theorem fs32 (w0 : World) : FS Try.prog w0 32 G32 := by
  refine (fs_body (Γ := E32) (sound_env (l := [(48, G48)]) w0 (by
    intro p hp
    simp only [List.mem_cons, List.not_mem_nil, or_false] at hp
    rcases hp with rfl
    · exact fs48 w0)) (by kernel_rfl) Try.func32 (Λ := Lam32) (c := (bodyOf Try.f32)) (by kernel_rfl) Try.call32 (by kernel_rfl) (LS_of (bodyOf Try.f32) 0 (by kernel_rfl) (fun i hi => absurd hi (Nat.not_lt_zero i)) 0 (by kernel_rfl) (fun i hi => absurd hi (Nat.not_lt_zero i))) true (np := 1) (Nat.le_of_ble_eq_true (by kernel_rfl))).imp fun args => ?_
  by_cases hl : args.length = 1
  rotate_left
  · exact .inr fun m k hk => by
      unfold G32 at hk
      split at hk
      · exact hl rfl
      · exact hk
  obtain ⟨a0, rfl⟩ : ∃ a0, args = [a0] := len_list1 hl
  rcases kI_or .u32 a0 with ⟨x_0, rfl⟩ | h
  rotate_left
  · exact .inr fun m k hk => h _ (by simpa only [G32, kI, kbool, kS, kptr, kaggN, kite, decide_true, eq_self] using hk)
  exact .inl fun m k => propext ⟨fun h => ⟨rfl, by rw [eqn32]; simpa only [G32, kI, kbool, kS, kptr, kaggN, kite, decide_true, eq_self] using h⟩, fun h => by have h := h.2; rw [eqn32] at h; simpa only [G32, kI, kbool, kS, kptr, kaggN, kite, decide_true, eq_self] using h⟩

/-- pianola/word.Clo -/
def F33 (x_0 : Int) (m : Mem) (k : Int → Mem → Prop) : Prop :=
  F48 (bits .xor .u32 4294967295 x_0) m fun x1 m2 => (Keeps m m2 ∧ k x1 m)

def G33 (args : List AV) (m : Mem) (k : KV) : Prop := match args with
  | [a0] => kI .u32 a0 fun x_0 => F33 x_0 m (fun x_1000 m' => k (.flat (.int .i64 x_1000)) m')
  | _ => False

def E33 : Env := envOf [(48, G48)]

def Lam33 : LEnv := ⟨fun a σ m k => match firstReg a with
  | _ => bump False,
  fun id => match id with
  | _ => bump false,
  fun b => match keyC b with
  | _ => bump false,
  fun b σ m k => match keyC b with
  | _ => bump False⟩

theorem eqn33 (x_0 : Int) (m : Mem) (k : KV) : bodyK Try.prog E33 Lam33 Try.f33 true [(.flat (.int .u32 x_0))] m k = F33 x_0 m (fun x_1000 m' => k (.flat (.int .i64 x_1000)) m') := by
  kernel_rfl

theorem fs33 (w0 : World) : FS Try.prog w0 33 G33 := by
  refine (fs_body (Γ := E33) (sound_env (l := [(48, G48)]) w0 (by
    intro p hp
    simp only [List.mem_cons, List.not_mem_nil, or_false] at hp
    rcases hp with rfl
    · exact fs48 w0)) (by kernel_rfl) Try.func33 (Λ := Lam33) (c := (bodyOf Try.f33)) (by kernel_rfl) Try.call33 (by kernel_rfl) (LS_of (bodyOf Try.f33) 0 (by kernel_rfl) (fun i hi => absurd hi (Nat.not_lt_zero i)) 0 (by kernel_rfl) (fun i hi => absurd hi (Nat.not_lt_zero i))) true (np := 1) (Nat.le_of_ble_eq_true (by kernel_rfl))).imp fun args => ?_
  by_cases hl : args.length = 1
  rotate_left
  · exact .inr fun m k hk => by
      unfold G33 at hk
      split at hk
      · exact hl rfl
      · exact hk
  obtain ⟨a0, rfl⟩ : ∃ a0, args = [a0] := len_list1 hl
  rcases kI_or .u32 a0 with ⟨x_0, rfl⟩ | h
  rotate_left
  · exact .inr fun m k hk => h _ (by simpa only [G33, kI, kbool, kS, kptr, kaggN, kite, decide_true, eq_self] using hk)
  exact .inl fun m k => propext ⟨fun h => ⟨rfl, by rw [eqn33]; simpa only [G33, kI, kbool, kS, kptr, kaggN, kite, decide_true, eq_self] using h⟩, fun h => by have h := h.2; rw [eqn33] at h; simpa only [G33, kI, kbool, kS, kptr, kaggN, kite, decide_true, eq_self] using h⟩

def P34_4102 (x_8 : Int) (m : Mem) (kr : Int → Int → Mem → Prop) : Prop :=
  kr (IntKind.wrap .u32 (x_8.fdiv 4294967296)) (IntKind.wrap .u32 x_8) m

/-- pianola/word.Mul -/
def F34 (x_0 : Int) (x_1 : Int) (x_2 : Bool) (m : Mem) (k : Int → Int → Mem → Prop) : Prop :=
  kif x_2 (P34_4102 (IntKind.wrap .u64 (IntKind.wrap .i64 ((IntKind.wrap .i64 (IntKind.wrap .i32 x_0)) * (IntKind.wrap .i64 (IntKind.wrap .i32 x_1))))) m (fun x1 x2 m3 => (Keeps m m3 ∧ k x1 x2 m))) (P34_4102 (IntKind.wrap .u64 ((IntKind.wrap .u64 x_0) * (IntKind.wrap .u64 x_1))) m (fun x4 x5 m6 => (Keeps m m6 ∧ k x4 x5 m)))

def G34 (args : List AV) (m : Mem) (k : KV) : Prop := match args with
  | [a0, a1, a2] => kI .u32 a0 fun x_0 => kI .u32 a1 fun x_1 => kbool a2 fun x_2 => F34 x_0 x_1 x_2 m (fun x_1000 x_1001 m' => k (.tup [(.flat (.int .u32 x_1000)), (.flat (.int .u32 x_1001))]) m')
  | _ => False

def E34 : Env := envOf []

def LamP34_4102 (σ : Nat → AV) (m : Mem) (k : KX) : Prop := kI .u64 (σ 8) fun x_8 => P34_4102 x_8 m (fun x_6' x_7' m' => k .ret (only [6, 7] [(.flat (.int .u32 x_6')), (.flat (.int .u32 x_7'))]) m')

def Lam34 : LEnv := ⟨fun a σ m k => match firstReg a with
  | _ => bump False,
  fun id => match id with
  | _ => bump false,
  fun b => match keyC b with
  | some 4102 => true
  | _ => bump false,
  fun b σ m k => match keyC b with
  | some 4102 => LamP34_4102 σ m k
  | _ => bump False⟩

def lxp34_4102 : Ex → List Nat := fun e => match e with
  | .ret => [6, 7]
  | _ => []

theorem pc34_4102 (x_8 : Int) (m : Mem) (k : KX) : once Try.prog E34 Lam34 [8] lxp34_4102 (((secsOf (bodyOf Try.f34)).filter Lam34.cut).getD 0 .skip) [(.flat (.int .u64 x_8))] m k = P34_4102 x_8 m (fun x_6' x_7' m' => k .ret (only [6, 7] [(.flat (.int .u32 x_6')), (.flat (.int .u32 x_7'))]) m') := by
  kernel_rfl

theorem pok34_4102 : PieceOK Try.prog E34 Lam34 (((secsOf (bodyOf Try.f34)).filter Lam34.cut).getD 0 .skip) := by
  refine ⟨fun σ => ∃ x_8, σ 8 = .flat (.int .u64 x_8), [8], lxp34_4102, fun σ m k => ?_⟩
  have e : Lam34.piece (((secsOf (bodyOf Try.f34)).filter Lam34.cut).getD 0 .skip) σ m k = LamP34_4102 σ m k := by kernel_rfl
  rw [e]
  constructor
  · intro h
    unfold LamP34_4102 at h
    obtain ⟨x_8, h0, h⟩ := kI_ok h
    refine ⟨⟨x_8, h0⟩, ?_⟩
    have ev : [8].map σ = [(.flat (.int .u64 x_8))] := by simp only [List.map_cons, List.map_nil, h0]
    rw [ev, pc34_4102]
    exact h
  · rintro ⟨⟨x_8, h0⟩, h⟩
    have ev : [8].map σ = [(.flat (.int .u64 x_8))] := by simp only [List.map_cons, List.map_nil, h0]
    rw [ev, pc34_4102] at h
    unfold LamP34_4102
    try simp only [h0, kI, kbool, kS, kptr, kaggN, kite, decide_true, eq_self]
    exact h

theorem eqn34 (x_0 : Int) (x_1 : Int) (x_2 : Bool) (m : Mem) (k : KV) : bodyK Try.prog E34 Lam34 Try.f34 true [(.flat (.int .u32 x_0)), (.flat (.int .u32 x_1)), (.flat (.bool x_2))] m k = F34 x_0 x_1 x_2 m (fun x_1000 x_1001 m' => k (.tup [(.flat (.int .u32 x_1000)), (.flat (.int .u32 x_1001))]) m') := by
  kernel_rfl

theorem fs34 (w0 : World) : FS Try.prog w0 34 G34 := by
  refine (fs_body (Γ := E34) (sound_env (l := []) w0 (by
    intro p hp
    cases hp)) (by kernel_rfl) Try.func34 (Λ := Lam34) (c := (bodyOf Try.f34)) (by kernel_rfl) Try.call34 (by kernel_rfl) (LS_of (bodyOf Try.f34) 0 (by kernel_rfl) (fun i hi => absurd hi (Nat.not_lt_zero i)) 1 (by kernel_rfl) (by
    intro i hi
    match i, hi with
    | 0, _ => exact pok34_4102
    | i + 1, hi => omega)) true (np := 3) (Nat.le_of_ble_eq_true (by kernel_rfl))).imp fun args => ?_
  by_cases hl : args.length = 3
  rotate_left
  · exact .inr fun m k hk => by
      unfold G34 at hk
      split at hk
      · exact hl rfl
      · exact hk
  obtain ⟨a0, a1, a2, rfl⟩ : ∃ a0 a1 a2, args = [a0, a1, a2] := len_list3 hl
  rcases kI_or .u32 a0 with ⟨x_0, rfl⟩ | h
  rotate_left
  · exact .inr fun m k hk => h _ (by simpa only [G34, kI, kbool, kS, kptr, kaggN, kite, decide_true, eq_self] using hk)
  rcases kI_or .u32 a1 with ⟨x_1, rfl⟩ | h
  rotate_left
  · exact .inr fun m k hk => h _ (by simpa only [G34, kI, kbool, kS, kptr, kaggN, kite, decide_true, eq_self] using hk)
  rcases kbool_or a2 with ⟨x_2, rfl⟩ | h
  rotate_left
  · exact .inr fun m k hk => h _ (by simpa only [G34, kI, kbool, kS, kptr, kaggN, kite, decide_true, eq_self] using hk)
  exact .inl fun m k => propext ⟨fun h => ⟨rfl, by rw [eqn34]; simpa only [G34, kI, kbool, kS, kptr, kaggN, kite, decide_true, eq_self] using h⟩, fun h => by have h := h.2; rw [eqn34] at h; simpa only [G34, kI, kbool, kS, kptr, kaggN, kite, decide_true, eq_self] using h⟩

end Go.Proofs.Ytimbfflnlalanaa.Am
