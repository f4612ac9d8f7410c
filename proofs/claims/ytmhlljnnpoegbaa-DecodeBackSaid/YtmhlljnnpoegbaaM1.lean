/- What Go functions ask of what follows them, as plain functions over the abstract machine; the machine asks just that. Written by gen.py. -/
import Derived.Test.YtmhlljnnpoegbaaProg
import Derived.Test.YtmhlljnnpoegbaaAmL
import Derived.Test.YtmhlljnnpoegbaaM0
namespace Go.Proofs.Ytmhlljnnpoegbaa.Am
set_option linter.unusedVariables false
set_option linter.unusedSimpArgs false
set_option maxRecDepth 100000

/-- pianola/decode.Word -/
def F12 (c_0 : Nat → AV) (m : Mem) (k : Int → Bool → Mem → Prop) : Prop :=
  newK m ⟨6, c_0, 27, false⟩ fun b2 m1 => ldG 6 m1 b2 0 fun c3 => F14 c3 m1 fun x4 m5 => kif (!x4) ((Keeps m m5 ∧ k 0 false m)) (∃ Fr6 : Nat → Prop, Fr6 b2 ∧ (ldI .i64 m5 b2 0 fun x7 => F23 x7 m5 fun x8 m9 => KeepsIn Fr6 m5 m9 ∧ (Fr6 b2 ∧ (ldG 6 m9 b2 0 fun c10 => F24 c10 m9 fun x11 m12 => KeepsIn Fr6 m9 m12 ∧ ((Keeps m m12 ∧ k (bits .or .u32 x8 x11) true m))))))

def G12 (args : List AV) (m : Mem) (k : KV) : Prop := match args with
  | [a0] => kaggN 6 a0 fun c_0 => F12 c_0 m (fun x_1000 x_1001 m' => k (.tup [(.flat (.int .u32 x_1000)), (.flat (.bool x_1001))]) m')
  | _ => False

def E12 : Env := envOf [(14, G14), (23, G23), (24, G24)]

def Lam12 : LEnv := ⟨fun a σ m k => match firstReg a with
  | _ => bump False,
  fun id => match id with
  | 3 => true
  | _ => bump false,
  fun b => match keyC b with
  | _ => bump false,
  fun b σ m k => match keyC b with
  | _ => bump False⟩

theorem eqn12 (c_0 : Nat → AV) (m : Mem) (k : KV) : bodyK Try.prog E12 Lam12 Try.f12 true [(.agg 6 c_0)] m k = F12 c_0 m (fun x_1000 x_1001 m' => k (.tup [(.flat (.int .u32 x_1000)), (.flat (.bool x_1001))]) m') := by
  kernel_rfl

theorem fs12 (w0 : World) : FS Try.prog w0 12 G12 := by
  refine (fs_body (Γ := E12) (sound_env (l := [(14, G14), (23, G23), (24, G24)]) w0 (by
    intro p hp
    simp only [List.mem_cons, List.not_mem_nil, or_false] at hp
    rcases hp with rfl | rfl | rfl
    · exact fs14 w0
    · exact fs23 w0
    · exact fs24 w0)) (by kernel_rfl) Try.func12 (Λ := Lam12) (c := (bodyOf Try.f12)) (by kernel_rfl) Try.call12 (by kernel_rfl) (LS_of (bodyOf Try.f12) 0 (by kernel_rfl) (fun i hi => absurd hi (Nat.not_lt_zero i)) 0 (by kernel_rfl) (fun i hi => absurd hi (Nat.not_lt_zero i))) true (np := 1) (Nat.le_of_ble_eq_true (by kernel_rfl))).imp fun args => ?_
  by_cases hl : args.length = 1
  rotate_left
  · exact .inr fun m k hk => by
      unfold G12 at hk
      split at hk
      · exact hl rfl
      · exact hk
  obtain ⟨a0, rfl⟩ : ∃ a0, args = [a0] := len_list1 hl
  rcases kaggN_or 6 a0 with ⟨c_0, rfl⟩ | h
  rotate_left
  · exact .inr fun m k hk => h _ (by simpa only [G12, kI, kbool, kS, kptr, kaggN, kite, decide_true, eq_self] using hk)
  exact .inl fun m k => propext ⟨fun h => ⟨rfl, by rw [eqn12]; simpa only [G12, kI, kbool, kS, kptr, kaggN, kite, decide_true, eq_self] using h⟩, fun h => by have h := h.2; rw [eqn12] at h; simpa only [G12, kI, kbool, kS, kptr, kaggN, kite, decide_true, eq_self] using h⟩

def P15_9004 (x_3 : Int) (x_55 : Bool) (m : Mem) (kr : Int → Mem → Prop) (kn : Mem → Prop) : Prop :=
  kif x_55 (kr 5 m) (kif (x_3 == 22) (kr 2 m) (kif (x_3 == 24) (kr 2 m) (kif (x_3 == 46) (kr 2 m) (kif (decide (x_3 ≥ 32)) (kif (decide (x_3 ≤ 35)) (kr 2 m) (kn  m)) (kn  m)))))

def P15_7004 (x_3 : Int) (x_44 : Bool) (m : Mem) (kr : Int → Mem → Prop) (kn : Mem → Prop) : Prop :=
  kif x_44 (kr 4 m) (kif (decide (x_3 ≥ 71)) (kif (decide (x_3 ≤ 73)) (P15_9004 x_3 true m (fun x4 m5 => kr x4 m5) (fun m6 => kn  m6)) (P15_9004 x_3 (x_3 == 75) m (fun x7 m8 => kr x7 m8) (fun m9 => kn  m9))) (P15_9004 x_3 (x_3 == 75) m (fun x10 m11 => kr x10 m11) (fun m12 => kn  m12)))

def P15_5004 (x_3 : Int) (x_29 : Bool) (m : Mem) (kr : Int → Mem → Prop) (kn : Mem → Prop) : Prop :=
  kif x_29 (kr 3 m) (kif (decide (x_3 ≥ 66)) (kif (decide (x_3 ≤ 70)) (P15_7004 x_3 true m (fun x13 m14 => kr x13 m14) (fun m15 => kn  m15)) (P15_7004 x_3 (x_3 == 74) m (fun x16 m17 => kr x16 m17) (fun m18 => kn  m18))) (P15_7004 x_3 (x_3 == 74) m (fun x19 m20 => kr x19 m20) (fun m21 => kn  m21)))

def P15_3004 (x_3 : Int) (x_6 : Bool) (m : Mem) (kr : Int → Mem → Prop) (kn : Mem → Prop) : Prop :=
  kif x_6 (kr 6 m) (kif (x_3 == 7) (P15_5004 x_3 true m (fun x22 m23 => kr x22 m23) (fun m24 => kn  m24)) (kif (x_3 == 8) (P15_5004 x_3 true m (fun x25 m26 => kr x25 m26) (fun m27 => kn  m27)) (kif (decide (x_3 ≥ 36)) (P15_5004 x_3 (decide (x_3 ≤ 45)) m (fun x28 m29 => kr x28 m29) (fun m30 => kn  m30)) (P15_5004 x_3 false m (fun x31 m32 => kr x31 m32) (fun m33 => kn  m33)))))

/-- pianola/decode.Class -/
def F15 (c_0 : Nat → AV) (m : Mem) (k : Int → Mem → Prop) : Prop :=
  newK m ⟨6, c_0, 27, false⟩ fun b2 m1 => ldI .i64 m1 b2 0 fun x3 => kif (decide (x3 ≤ 0)) (P15_3004 x3 true m1 (fun x34 m35 => (Keeps m m35 ∧ k x34 m)) (fun m36 => (Keeps m m36 ∧ k 1 m))) (kif (decide (x3 ≥ 78)) (P15_3004 x3 true m1 (fun x37 m38 => (Keeps m m38 ∧ k x37 m)) (fun m39 => (Keeps m m39 ∧ k 1 m))) (kif (x3 == 11) (P15_3004 x3 true m1 (fun x40 m41 => (Keeps m m41 ∧ k x40 m)) (fun m42 => (Keeps m m42 ∧ k 1 m))) (kif (x3 == 12) (P15_3004 x3 true m1 (fun x43 m44 => (Keeps m m44 ∧ k x43 m)) (fun m45 => (Keeps m m45 ∧ k 1 m))) (kif (decide (x3 ≥ 54)) (P15_3004 x3 (decide (x3 ≤ 62)) m1 (fun x46 m47 => (Keeps m m47 ∧ k x46 m)) (fun m48 => (Keeps m m48 ∧ k 1 m))) (P15_3004 x3 false m1 (fun x49 m50 => (Keeps m m50 ∧ k x49 m)) (fun m51 => (Keeps m m51 ∧ k 1 m)))))))

def G15 (args : List AV) (m : Mem) (k : KV) : Prop := match args with
  | [a0] => kaggN 6 a0 fun c_0 => F15 c_0 m (fun x_1000 m' => k (.flat (.int .i64 x_1000)) m')
  | _ => False

def E15 : Env := envOf []

def LamP15_3004 (σ : Nat → AV) (m : Mem) (k : KX) : Prop := kI .i64 (σ 3) fun x_3 => kbool (σ 6) fun x_6 => P15_3004 x_3 x_6 m (fun x_2' m' => k .ret (only [2] [(.flat (.int .i64 x_2'))]) m') (fun m' => k .normal (only [] []) m')

def LamP15_5004 (σ : Nat → AV) (m : Mem) (k : KX) : Prop := kI .i64 (σ 3) fun x_3 => kbool (σ 29) fun x_29 => P15_5004 x_3 x_29 m (fun x_2' m' => k .ret (only [2] [(.flat (.int .i64 x_2'))]) m') (fun m' => k .normal (only [] []) m')

def LamP15_7004 (σ : Nat → AV) (m : Mem) (k : KX) : Prop := kI .i64 (σ 3) fun x_3 => kbool (σ 44) fun x_44 => P15_7004 x_3 x_44 m (fun x_2' m' => k .ret (only [2] [(.flat (.int .i64 x_2'))]) m') (fun m' => k .normal (only [] []) m')

def LamP15_9004 (σ : Nat → AV) (m : Mem) (k : KX) : Prop := kI .i64 (σ 3) fun x_3 => kbool (σ 55) fun x_55 => P15_9004 x_3 x_55 m (fun x_2' m' => k .ret (only [2] [(.flat (.int .i64 x_2'))]) m') (fun m' => k .normal (only [] []) m')

def Lam15 : LEnv := ⟨fun a σ m k => match firstReg a with
  | _ => bump False,
  fun id => match id with
  | _ => bump false,
  fun b => match keyC b with
  | some 3004 => true
  | some 5004 => true
  | some 7004 => true
  | some 9004 => true
  | _ => bump false,
  fun b σ m k => match keyC b with
  | some 3004 => LamP15_3004 σ m k
  | some 5004 => LamP15_5004 σ m k
  | some 7004 => LamP15_7004 σ m k
  | some 9004 => LamP15_9004 σ m k
  | _ => bump False⟩

def lxp15_9004 : Ex → List Nat := fun e => match e with
  | .ret => [2]
  | .normal => []
  | _ => []

theorem pc15_9004 (x_3 : Int) (x_55 : Bool) (m : Mem) (k : KX) : once Try.prog E15 Lam15 [3, 55] lxp15_9004 (((secsOf (bodyOf Try.f15)).filter Lam15.cut).getD 3 .skip) [(.flat (.int .i64 x_3)), (.flat (.bool x_55))] m k = P15_9004 x_3 x_55 m (fun x_2' m' => k .ret (only [2] [(.flat (.int .i64 x_2'))]) m') (fun m' => k .normal (only [] []) m') := by
  kernel_rfl

theorem pok15_9004 : PieceOK Try.prog E15 Lam15 (((secsOf (bodyOf Try.f15)).filter Lam15.cut).getD 3 .skip) := by
  refine ⟨fun σ => ∃ x_3 x_55, σ 3 = .flat (.int .i64 x_3) ∧ σ 55 = .flat (.bool x_55), [3, 55], lxp15_9004, fun σ m k => ?_⟩
  have e : Lam15.piece (((secsOf (bodyOf Try.f15)).filter Lam15.cut).getD 3 .skip) σ m k = LamP15_9004 σ m k := by kernel_rfl
  rw [e]
  constructor
  · intro h
    unfold LamP15_9004 at h
    obtain ⟨x_3, h0, h⟩ := kI_ok h
    obtain ⟨x_55, h1, h⟩ := kbool_ok h
    refine ⟨⟨x_3, x_55, h0, h1⟩, ?_⟩
    have ev : [3, 55].map σ = [(.flat (.int .i64 x_3)), (.flat (.bool x_55))] := by simp only [List.map_cons, List.map_nil, h0, h1]
    rw [ev, pc15_9004]
    exact h
  · rintro ⟨⟨x_3, x_55, h0, h1⟩, h⟩
    have ev : [3, 55].map σ = [(.flat (.int .i64 x_3)), (.flat (.bool x_55))] := by simp only [List.map_cons, List.map_nil, h0, h1]
    rw [ev, pc15_9004] at h
    unfold LamP15_9004
    try simp only [h0, h1, kI, kbool, kS, kptr, kaggN, kite, decide_true, eq_self]
    exact h

def lxp15_7004 : Ex → List Nat := fun e => match e with
  | .ret => [2]
  | .normal => []
  | _ => []

theorem pc15_7004 (x_3 : Int) (x_44 : Bool) (m : Mem) (k : KX) : once Try.prog E15 Lam15 [3, 44] lxp15_7004 (((secsOf (bodyOf Try.f15)).filter Lam15.cut).getD 2 .skip) [(.flat (.int .i64 x_3)), (.flat (.bool x_44))] m k = P15_7004 x_3 x_44 m (fun x_2' m' => k .ret (only [2] [(.flat (.int .i64 x_2'))]) m') (fun m' => k .normal (only [] []) m') := by
  kernel_rfl

theorem pok15_7004 : PieceOK Try.prog E15 Lam15 (((secsOf (bodyOf Try.f15)).filter Lam15.cut).getD 2 .skip) := by
  refine ⟨fun σ => ∃ x_3 x_44, σ 3 = .flat (.int .i64 x_3) ∧ σ 44 = .flat (.bool x_44), [3, 44], lxp15_7004, fun σ m k => ?_⟩
  have e : Lam15.piece (((secsOf (bodyOf Try.f15)).filter Lam15.cut).getD 2 .skip) σ m k = LamP15_7004 σ m k := by kernel_rfl
  rw [e]
  constructor
  · intro h
    unfold LamP15_7004 at h
    obtain ⟨x_3, h0, h⟩ := kI_ok h
    obtain ⟨x_44, h1, h⟩ := kbool_ok h
    refine ⟨⟨x_3, x_44, h0, h1⟩, ?_⟩
    have ev : [3, 44].map σ = [(.flat (.int .i64 x_3)), (.flat (.bool x_44))] := by simp only [List.map_cons, List.map_nil, h0, h1]
    rw [ev, pc15_7004]
    exact h
  · rintro ⟨⟨x_3, x_44, h0, h1⟩, h⟩
    have ev : [3, 44].map σ = [(.flat (.int .i64 x_3)), (.flat (.bool x_44))] := by simp only [List.map_cons, List.map_nil, h0, h1]
    rw [ev, pc15_7004] at h
    unfold LamP15_7004
    try simp only [h0, h1, kI, kbool, kS, kptr, kaggN, kite, decide_true, eq_self]
    exact h

def lxp15_5004 : Ex → List Nat := fun e => match e with
  | .ret => [2]
  | .normal => []
  | _ => []

theorem pc15_5004 (x_3 : Int) (x_29 : Bool) (m : Mem) (k : KX) : once Try.prog E15 Lam15 [3, 29] lxp15_5004 (((secsOf (bodyOf Try.f15)).filter Lam15.cut).getD 1 .skip) [(.flat (.int .i64 x_3)), (.flat (.bool x_29))] m k = P15_5004 x_3 x_29 m (fun x_2' m' => k .ret (only [2] [(.flat (.int .i64 x_2'))]) m') (fun m' => k .normal (only [] []) m') := by
  kernel_rfl

theorem pok15_5004 : PieceOK Try.prog E15 Lam15 (((secsOf (bodyOf Try.f15)).filter Lam15.cut).getD 1 .skip) := by
  refine ⟨fun σ => ∃ x_3 x_29, σ 3 = .flat (.int .i64 x_3) ∧ σ 29 = .flat (.bool x_29), [3, 29], lxp15_5004, fun σ m k => ?_⟩
  have e : Lam15.piece (((secsOf (bodyOf Try.f15)).filter Lam15.cut).getD 1 .skip) σ m k = LamP15_5004 σ m k := by kernel_rfl
  rw [e]
  constructor
  · intro h
    unfold LamP15_5004 at h
    obtain ⟨x_3, h0, h⟩ := kI_ok h
    obtain ⟨x_29, h1, h⟩ := kbool_ok h
    refine ⟨⟨x_3, x_29, h0, h1⟩, ?_⟩
    have ev : [3, 29].map σ = [(.flat (.int .i64 x_3)), (.flat (.bool x_29))] := by simp only [List.map_cons, List.map_nil, h0, h1]
    rw [ev, pc15_5004]
    exact h
  · rintro ⟨⟨x_3, x_29, h0, h1⟩, h⟩
    have ev : [3, 29].map σ = [(.flat (.int .i64 x_3)), (.flat (.bool x_29))] := by simp only [List.map_cons, List.map_nil, h0, h1]
    rw [ev, pc15_5004] at h
    unfold LamP15_5004
    try simp only [h0, h1, kI, kbool, kS, kptr, kaggN, kite, decide_true, eq_self]
    exact h

def lxp15_3004 : Ex → List Nat := fun e => match e with
  | .ret => [2]
  | .normal => []
  | _ => []

theorem pc15_3004 (x_3 : Int) (x_6 : Bool) (m : Mem) (k : KX) : once Try.prog E15 Lam15 [3, 6] lxp15_3004 (((secsOf (bodyOf Try.f15)).filter Lam15.cut).getD 0 .skip) [(.flat (.int .i64 x_3)), (.flat (.bool x_6))] m k = P15_3004 x_3 x_6 m (fun x_2' m' => k .ret (only [2] [(.flat (.int .i64 x_2'))]) m') (fun m' => k .normal (only [] []) m') := by
  kernel_rfl

theorem pok15_3004 : PieceOK Try.prog E15 Lam15 (((secsOf (bodyOf Try.f15)).filter Lam15.cut).getD 0 .skip) := by
  refine ⟨fun σ => ∃ x_3 x_6, σ 3 = .flat (.int .i64 x_3) ∧ σ 6 = .flat (.bool x_6), [3, 6], lxp15_3004, fun σ m k => ?_⟩
  have e : Lam15.piece (((secsOf (bodyOf Try.f15)).filter Lam15.cut).getD 0 .skip) σ m k = LamP15_3004 σ m k := by kernel_rfl
  rw [e]
  constructor
  · intro h
    unfold LamP15_3004 at h
    obtain ⟨x_3, h0, h⟩ := kI_ok h
    obtain ⟨x_6, h1, h⟩ := kbool_ok h
    refine ⟨⟨x_3, x_6, h0, h1⟩, ?_⟩
    have ev : [3, 6].map σ = [(.flat (.int .i64 x_3)), (.flat (.bool x_6))] := by simp only [List.map_cons, List.map_nil, h0, h1]
    rw [ev, pc15_3004]
    exact h
  · rintro ⟨⟨x_3, x_6, h0, h1⟩, h⟩
    have ev : [3, 6].map σ = [(.flat (.int .i64 x_3)), (.flat (.bool x_6))] := by simp only [List.map_cons, List.map_nil, h0, h1]
    rw [ev, pc15_3004] at h
    unfold LamP15_3004
    try simp only [h0, h1, kI, kbool, kS, kptr, kaggN, kite, decide_true, eq_self]
    exact h

theorem eqn15 (c_0 : Nat → AV) (m : Mem) (k : KV) : bodyK Try.prog E15 Lam15 Try.f15 true [(.agg 6 c_0)] m k = F15 c_0 m (fun x_1000 m' => k (.flat (.int .i64 x_1000)) m') := by
  kernel_rfl

theorem fs15 (w0 : World) : FS Try.prog w0 15 G15 := by
  refine (fs_body (Γ := E15) (sound_env (l := []) w0 (by
    intro p hp
    cases hp)) (by kernel_rfl) Try.func15 (Λ := Lam15) (c := (bodyOf Try.f15)) (by kernel_rfl) Try.call15 (by kernel_rfl) (LS_of (bodyOf Try.f15) 0 (by kernel_rfl) (fun i hi => absurd hi (Nat.not_lt_zero i)) 4 (by kernel_rfl) (by
    intro i hi
    match i, hi with
    | 0, _ => exact pok15_3004
    | 1, _ => exact pok15_5004
    | 2, _ => exact pok15_7004
    | 3, _ => exact pok15_9004
    | i + 4, hi => omega)) true (np := 1) (Nat.le_of_ble_eq_true (by kernel_rfl))).imp fun args => ?_
  by_cases hl : args.length = 1
  rotate_left
  · exact .inr fun m k hk => by
      unfold G15 at hk
      split at hk
      · exact hl rfl
      · exact hk
  obtain ⟨a0, rfl⟩ : ∃ a0, args = [a0] := len_list1 hl
  rcases kaggN_or 6 a0 with ⟨c_0, rfl⟩ | h
  rotate_left
  · exact .inr fun m k hk => h _ (by simpa only [G15, kI, kbool, kS, kptr, kaggN, kite, decide_true, eq_self] using hk)
  exact .inl fun m k => propext ⟨fun h => ⟨rfl, by rw [eqn15]; simpa only [G15, kI, kbool, kS, kptr, kaggN, kite, decide_true, eq_self] using h⟩, fun h => by have h := h.2; rw [eqn15] at h; simpa only [G15, kI, kbool, kS, kptr, kaggN, kite, decide_true, eq_self] using h⟩

def P17_9004 (x_3 : Int) (x_55 : Bool) (m : Mem) (kr : Int → Mem → Prop) (kn : Mem → Prop) : Prop :=
  kif x_55 (kr 5 m) (kif (x_3 == 22) (kr 2 m) (kif (x_3 == 24) (kr 2 m) (kif (x_3 == 46) (kr 2 m) (kif (decide (x_3 ≥ 32)) (kif (decide (x_3 ≤ 35)) (kr 2 m) (kn  m)) (kn  m)))))

def P17_7004 (x_3 : Int) (x_44 : Bool) (m : Mem) (kr : Int → Mem → Prop) (kn : Mem → Prop) : Prop :=
  kif x_44 (kr 4 m) (kif (decide (x_3 ≥ 71)) (kif (decide (x_3 ≤ 73)) (P17_9004 x_3 true m (fun x4 m5 => kr x4 m5) (fun m6 => kn  m6)) (P17_9004 x_3 (x_3 == 75) m (fun x7 m8 => kr x7 m8) (fun m9 => kn  m9))) (P17_9004 x_3 (x_3 == 75) m (fun x10 m11 => kr x10 m11) (fun m12 => kn  m12)))

def P17_5004 (x_3 : Int) (x_29 : Bool) (m : Mem) (kr : Int → Mem → Prop) (kn : Mem → Prop) : Prop :=
  kif x_29 (kr 3 m) (kif (decide (x_3 ≥ 66)) (kif (decide (x_3 ≤ 70)) (P17_7004 x_3 true m (fun x13 m14 => kr x13 m14) (fun m15 => kn  m15)) (P17_7004 x_3 (x_3 == 74) m (fun x16 m17 => kr x16 m17) (fun m18 => kn  m18))) (P17_7004 x_3 (x_3 == 74) m (fun x19 m20 => kr x19 m20) (fun m21 => kn  m21)))

def P17_3004 (x_3 : Int) (x_6 : Bool) (m : Mem) (kr : Int → Mem → Prop) (kn : Mem → Prop) : Prop :=
  kif x_6 (kr 6 m) (kif (x_3 == 7) (P17_5004 x_3 true m (fun x22 m23 => kr x22 m23) (fun m24 => kn  m24)) (kif (x_3 == 8) (P17_5004 x_3 true m (fun x25 m26 => kr x25 m26) (fun m27 => kn  m27)) (kif (decide (x_3 ≥ 36)) (P17_5004 x_3 (decide (x_3 ≤ 45)) m (fun x28 m29 => kr x28 m29) (fun m30 => kn  m30)) (P17_5004 x_3 false m (fun x31 m32 => kr x31 m32) (fun m33 => kn  m33)))))

/-- pianola/pianolaref3.Class -/
def F17 (c_0 : Nat → AV) (m : Mem) (k : Int → Mem → Prop) : Prop :=
  newK m ⟨6, c_0, 27, false⟩ fun b2 m1 => ldI .i64 m1 b2 0 fun x3 => kif (decide (x3 ≤ 0)) (P17_3004 x3 true m1 (fun x34 m35 => (Keeps m m35 ∧ k x34 m)) (fun m36 => (Keeps m m36 ∧ k 1 m))) (kif (decide (x3 ≥ 78)) (P17_3004 x3 true m1 (fun x37 m38 => (Keeps m m38 ∧ k x37 m)) (fun m39 => (Keeps m m39 ∧ k 1 m))) (kif (decide (x3 ≥ 54)) (kif (decide (x3 ≤ 62)) (P17_3004 x3 true m1 (fun x40 m41 => (Keeps m m41 ∧ k x40 m)) (fun m42 => (Keeps m m42 ∧ k 1 m))) (kif (x3 == 11) (P17_3004 x3 true m1 (fun x43 m44 => (Keeps m m44 ∧ k x43 m)) (fun m45 => (Keeps m m45 ∧ k 1 m))) (P17_3004 x3 (x3 == 12) m1 (fun x46 m47 => (Keeps m m47 ∧ k x46 m)) (fun m48 => (Keeps m m48 ∧ k 1 m))))) (kif (x3 == 11) (P17_3004 x3 true m1 (fun x49 m50 => (Keeps m m50 ∧ k x49 m)) (fun m51 => (Keeps m m51 ∧ k 1 m))) (P17_3004 x3 (x3 == 12) m1 (fun x52 m53 => (Keeps m m53 ∧ k x52 m)) (fun m54 => (Keeps m m54 ∧ k 1 m))))))

def G17 (args : List AV) (m : Mem) (k : KV) : Prop := match args with
  | [a0] => kaggN 6 a0 fun c_0 => F17 c_0 m (fun x_1000 m' => k (.flat (.int .i64 x_1000)) m')
  | _ => False

def E17 : Env := envOf []

def LamP17_3004 (σ : Nat → AV) (m : Mem) (k : KX) : Prop := kI .i64 (σ 3) fun x_3 => kbool (σ 6) fun x_6 => P17_3004 x_3 x_6 m (fun x_2' m' => k .ret (only [2] [(.flat (.int .i64 x_2'))]) m') (fun m' => k .normal (only [] []) m')

def LamP17_5004 (σ : Nat → AV) (m : Mem) (k : KX) : Prop := kI .i64 (σ 3) fun x_3 => kbool (σ 29) fun x_29 => P17_5004 x_3 x_29 m (fun x_2' m' => k .ret (only [2] [(.flat (.int .i64 x_2'))]) m') (fun m' => k .normal (only [] []) m')

def LamP17_7004 (σ : Nat → AV) (m : Mem) (k : KX) : Prop := kI .i64 (σ 3) fun x_3 => kbool (σ 44) fun x_44 => P17_7004 x_3 x_44 m (fun x_2' m' => k .ret (only [2] [(.flat (.int .i64 x_2'))]) m') (fun m' => k .normal (only [] []) m')

def LamP17_9004 (σ : Nat → AV) (m : Mem) (k : KX) : Prop := kI .i64 (σ 3) fun x_3 => kbool (σ 55) fun x_55 => P17_9004 x_3 x_55 m (fun x_2' m' => k .ret (only [2] [(.flat (.int .i64 x_2'))]) m') (fun m' => k .normal (only [] []) m')

def Lam17 : LEnv := ⟨fun a σ m k => match firstReg a with
  | _ => bump False,
  fun id => match id with
  | _ => bump false,
  fun b => match keyC b with
  | some 3004 => true
  | some 5004 => true
  | some 7004 => true
  | some 9004 => true
  | _ => bump false,
  fun b σ m k => match keyC b with
  | some 3004 => LamP17_3004 σ m k
  | some 5004 => LamP17_5004 σ m k
  | some 7004 => LamP17_7004 σ m k
  | some 9004 => LamP17_9004 σ m k
  | _ => bump False⟩

def lxp17_9004 : Ex → List Nat := fun e => match e with
  | .ret => [2]
  | .normal => []
  | _ => []

theorem pc17_9004 (x_3 : Int) (x_55 : Bool) (m : Mem) (k : KX) : once Try.prog E17 Lam17 [3, 55] lxp17_9004 (((secsOf (bodyOf Try.f17)).filter Lam17.cut).getD 3 .skip) [(.flat (.int .i64 x_3)), (.flat (.bool x_55))] m k = P17_9004 x_3 x_55 m (fun x_2' m' => k .ret (only [2] [(.flat (.int .i64 x_2'))]) m') (fun m' => k .normal (only [] []) m') := by
  kernel_rfl

theorem pok17_9004 : PieceOK Try.prog E17 Lam17 (((secsOf (bodyOf Try.f17)).filter Lam17.cut).getD 3 .skip) := by
  refine ⟨fun σ => ∃ x_3 x_55, σ 3 = .flat (.int .i64 x_3) ∧ σ 55 = .flat (.bool x_55), [3, 55], lxp17_9004, fun σ m k => ?_⟩
  have e : Lam17.piece (((secsOf (bodyOf Try.f17)).filter Lam17.cut).getD 3 .skip) σ m k = LamP17_9004 σ m k := by kernel_rfl
  rw [e]
  constructor
  · intro h
    unfold LamP17_9004 at h
    obtain ⟨x_3, h0, h⟩ := kI_ok h
    obtain ⟨x_55, h1, h⟩ := kbool_ok h
    refine ⟨⟨x_3, x_55, h0, h1⟩, ?_⟩
    have ev : [3, 55].map σ = [(.flat (.int .i64 x_3)), (.flat (.bool x_55))] := by simp only [List.map_cons, List.map_nil, h0, h1]
    rw [ev, pc17_9004]
    exact h
  · rintro ⟨⟨x_3, x_55, h0, h1⟩, h⟩
    have ev : [3, 55].map σ = [(.flat (.int .i64 x_3)), (.flat (.bool x_55))] := by simp only [List.map_cons, List.map_nil, h0, h1]
    rw [ev, pc17_9004] at h
    unfold LamP17_9004
    try simp only [h0, h1, kI, kbool, kS, kptr, kaggN, kite, decide_true, eq_self]
    exact h

def lxp17_7004 : Ex → List Nat := fun e => match e with
  | .ret => [2]
  | .normal => []
  | _ => []

theorem pc17_7004 (x_3 : Int) (x_44 : Bool) (m : Mem) (k : KX) : once Try.prog E17 Lam17 [3, 44] lxp17_7004 (((secsOf (bodyOf Try.f17)).filter Lam17.cut).getD 2 .skip) [(.flat (.int .i64 x_3)), (.flat (.bool x_44))] m k = P17_7004 x_3 x_44 m (fun x_2' m' => k .ret (only [2] [(.flat (.int .i64 x_2'))]) m') (fun m' => k .normal (only [] []) m') := by
  kernel_rfl

theorem pok17_7004 : PieceOK Try.prog E17 Lam17 (((secsOf (bodyOf Try.f17)).filter Lam17.cut).getD 2 .skip) := by
  refine ⟨fun σ => ∃ x_3 x_44, σ 3 = .flat (.int .i64 x_3) ∧ σ 44 = .flat (.bool x_44), [3, 44], lxp17_7004, fun σ m k => ?_⟩
  have e : Lam17.piece (((secsOf (bodyOf Try.f17)).filter Lam17.cut).getD 2 .skip) σ m k = LamP17_7004 σ m k := by kernel_rfl
  rw [e]
  constructor
  · intro h
    unfold LamP17_7004 at h
    obtain ⟨x_3, h0, h⟩ := kI_ok h
    obtain ⟨x_44, h1, h⟩ := kbool_ok h
    refine ⟨⟨x_3, x_44, h0, h1⟩, ?_⟩
    have ev : [3, 44].map σ = [(.flat (.int .i64 x_3)), (.flat (.bool x_44))] := by simp only [List.map_cons, List.map_nil, h0, h1]
    rw [ev, pc17_7004]
    exact h
  · rintro ⟨⟨x_3, x_44, h0, h1⟩, h⟩
    have ev : [3, 44].map σ = [(.flat (.int .i64 x_3)), (.flat (.bool x_44))] := by simp only [List.map_cons, List.map_nil, h0, h1]
    rw [ev, pc17_7004] at h
    unfold LamP17_7004
    try simp only [h0, h1, kI, kbool, kS, kptr, kaggN, kite, decide_true, eq_self]
    exact h

def lxp17_5004 : Ex → List Nat := fun e => match e with
  | .ret => [2]
  | .normal => []
  | _ => []

theorem pc17_5004 (x_3 : Int) (x_29 : Bool) (m : Mem) (k : KX) : once Try.prog E17 Lam17 [3, 29] lxp17_5004 (((secsOf (bodyOf Try.f17)).filter Lam17.cut).getD 1 .skip) [(.flat (.int .i64 x_3)), (.flat (.bool x_29))] m k = P17_5004 x_3 x_29 m (fun x_2' m' => k .ret (only [2] [(.flat (.int .i64 x_2'))]) m') (fun m' => k .normal (only [] []) m') := by
  kernel_rfl

theorem pok17_5004 : PieceOK Try.prog E17 Lam17 (((secsOf (bodyOf Try.f17)).filter Lam17.cut).getD 1 .skip) := by
  refine ⟨fun σ => ∃ x_3 x_29, σ 3 = .flat (.int .i64 x_3) ∧ σ 29 = .flat (.bool x_29), [3, 29], lxp17_5004, fun σ m k => ?_⟩
  have e : Lam17.piece (((secsOf (bodyOf Try.f17)).filter Lam17.cut).getD 1 .skip) σ m k = LamP17_5004 σ m k := by kernel_rfl
  rw [e]
  constructor
  · intro h
    unfold LamP17_5004 at h
    obtain ⟨x_3, h0, h⟩ := kI_ok h
    obtain ⟨x_29, h1, h⟩ := kbool_ok h
    refine ⟨⟨x_3, x_29, h0, h1⟩, ?_⟩
    have ev : [3, 29].map σ = [(.flat (.int .i64 x_3)), (.flat (.bool x_29))] := by simp only [List.map_cons, List.map_nil, h0, h1]
    rw [ev, pc17_5004]
    exact h
  · rintro ⟨⟨x_3, x_29, h0, h1⟩, h⟩
    have ev : [3, 29].map σ = [(.flat (.int .i64 x_3)), (.flat (.bool x_29))] := by simp only [List.map_cons, List.map_nil, h0, h1]
    rw [ev, pc17_5004] at h
    unfold LamP17_5004
    try simp only [h0, h1, kI, kbool, kS, kptr, kaggN, kite, decide_true, eq_self]
    exact h

def lxp17_3004 : Ex → List Nat := fun e => match e with
  | .ret => [2]
  | .normal => []
  | _ => []

theorem pc17_3004 (x_3 : Int) (x_6 : Bool) (m : Mem) (k : KX) : once Try.prog E17 Lam17 [3, 6] lxp17_3004 (((secsOf (bodyOf Try.f17)).filter Lam17.cut).getD 0 .skip) [(.flat (.int .i64 x_3)), (.flat (.bool x_6))] m k = P17_3004 x_3 x_6 m (fun x_2' m' => k .ret (only [2] [(.flat (.int .i64 x_2'))]) m') (fun m' => k .normal (only [] []) m') := by
  kernel_rfl

theorem pok17_3004 : PieceOK Try.prog E17 Lam17 (((secsOf (bodyOf Try.f17)).filter Lam17.cut).getD 0 .skip) := by
  refine ⟨fun σ => ∃ x_3 x_6, σ 3 = .flat (.int .i64 x_3) ∧ σ 6 = .flat (.bool x_6), [3, 6], lxp17_3004, fun σ m k => ?_⟩
  have e : Lam17.piece (((secsOf (bodyOf Try.f17)).filter Lam17.cut).getD 0 .skip) σ m k = LamP17_3004 σ m k := by kernel_rfl
  rw [e]
  constructor
  · intro h
    unfold LamP17_3004 at h
    obtain ⟨x_3, h0, h⟩ := kI_ok h
    obtain ⟨x_6, h1, h⟩ := kbool_ok h
    refine ⟨⟨x_3, x_6, h0, h1⟩, ?_⟩
    have ev : [3, 6].map σ = [(.flat (.int .i64 x_3)), (.flat (.bool x_6))] := by simp only [List.map_cons, List.map_nil, h0, h1]
    rw [ev, pc17_3004]
    exact h
  · rintro ⟨⟨x_3, x_6, h0, h1⟩, h⟩
    have ev : [3, 6].map σ = [(.flat (.int .i64 x_3)), (.flat (.bool x_6))] := by simp only [List.map_cons, List.map_nil, h0, h1]
    rw [ev, pc17_3004] at h
    unfold LamP17_3004
    try simp only [h0, h1, kI, kbool, kS, kptr, kaggN, kite, decide_true, eq_self]
    exact h

theorem eqn17 (c_0 : Nat → AV) (m : Mem) (k : KV) : bodyK Try.prog E17 Lam17 Try.f17 true [(.agg 6 c_0)] m k = F17 c_0 m (fun x_1000 m' => k (.flat (.int .i64 x_1000)) m') := by
  kernel_rfl

theorem fs17 (w0 : World) : FS Try.prog w0 17 G17 := by
  refine (fs_body (Γ := E17) (sound_env (l := []) w0 (by
    intro p hp
    cases hp)) (by kernel_rfl) Try.func17 (Λ := Lam17) (c := (bodyOf Try.f17)) (by kernel_rfl) Try.call17 (by kernel_rfl) (LS_of (bodyOf Try.f17) 0 (by kernel_rfl) (fun i hi => absurd hi (Nat.not_lt_zero i)) 4 (by kernel_rfl) (by
    intro i hi
    match i, hi with
    | 0, _ => exact pok17_3004
    | 1, _ => exact pok17_5004
    | 2, _ => exact pok17_7004
    | 3, _ => exact pok17_9004
    | i + 4, hi => omega)) true (np := 1) (Nat.le_of_ble_eq_true (by kernel_rfl))).imp fun args => ?_
  by_cases hl : args.length = 1
  rotate_left
  · exact .inr fun m k hk => by
      unfold G17 at hk
      split at hk
      · exact hl rfl
      · exact hk
  obtain ⟨a0, rfl⟩ : ∃ a0, args = [a0] := len_list1 hl
  rcases kaggN_or 6 a0 with ⟨c_0, rfl⟩ | h
  rotate_left
  · exact .inr fun m k hk => h _ (by simpa only [G17, kI, kbool, kS, kptr, kaggN, kite, decide_true, eq_self] using hk)
  exact .inl fun m k => propext ⟨fun h => ⟨rfl, by rw [eqn17]; simpa only [G17, kI, kbool, kS, kptr, kaggN, kite, decide_true, eq_self] using h⟩, fun h => by have h := h.2; rw [eqn17] at h; simpa only [G17, kI, kbool, kS, kptr, kaggN, kite, decide_true, eq_self] using h⟩

def R29_2 (x_0 : ByteArray) (x_1 : Int) (x_5 : Int) (m : Mem) (kn : Int → Mem → Prop) (k0 : Mem → Prop) (kr : Bool → Mem → Prop) : Prop :=
  kif (decide (x_5 < (↑(x_0.size)))) (kif (decide (0 ≤ x_5) && decide (x_5 < x_0.size)) (kif (((x_0.data.getD (x_5).toNat 0).toNat) == x_1) (kr true m) (kn (IntKind.wrap .i64 (x_5 + 1)) m)) False) (k0  m)

def L29_2 (x_0 : ByteArray) (x_1 : Int) : Nat → Int → Mem → (Mem → Prop) → (Bool → Mem → Prop) → Prop
  | 0, _,  _, _, _ => bump False
  | N + 1, x_5,  m, k0, kr => R29_2 x_0 x_1 x_5 m (fun x_5' m' => L29_2 x_0 x_1 N x_5' m' k0 kr) k0 kr

/-- pianola/pianolaref3.has -/
def F29 (x_0 : ByteArray) (x_1 : Int) (m : Mem) (k : Bool → Mem → Prop) : Prop :=
  ∃ N4, L29_2 x_0 x_1 N4 0 m (fun m1 => (Keeps m m1 ∧ k false m)) (fun x2 m3 => (Keeps m m3 ∧ k x2 m))

def G29 (args : List AV) (m : Mem) (k : KV) : Prop := match args with
  | [a0, a1] => kS a0 fun x_0 => kI .u8 a1 fun x_1 => F29 x_0 x_1 m (fun x_1000 m' => k (.flat (.bool x_1000)) m')
  | _ => False

def E29 : Env := envOf []

def Lam29_2 (σ : Nat → AV) (m : Mem) (k : KX) : Prop := kS (σ 0) fun x_0 => kI .u8 (σ 1) fun x_1 => kI .i64 (σ 5) fun x_5 => ∃ N, L29_2 x_0 x_1 N x_5 m (fun m' => k (.exit 0) (only [] []) m') (fun x_4' m' => k .ret (only [4] [(.flat (.bool x_4'))]) m')

def Lam29 : LEnv := ⟨fun a σ m k => match firstReg a with
  | some 2 => Lam29_2 σ m k
  | _ => bump False,
  fun id => match id with
  | _ => bump false,
  fun b => match keyC b with
  | _ => bump false,
  fun b σ m k => match keyC b with
  | _ => bump False⟩

def lx29_2 : Ex → List Nat := fun e => match e with
  | .exit 0 => []
  | .ret => [4]
  | _ => []

theorem round29_2 (x_0 : ByteArray) (x_1 : Int) (x_5 : Int) (m : Mem) (G : List AV → Mem → Prop) (k : KX) : (wpA Try.prog E29 Lam29 ((loopsOf (bodyOf Try.f29)).getD 0 .skip) (only [0, 1, 5] [(.flat (.string x_0)), (.flat (.int .u8 x_1)), (.flat (.int .i64 x_5))]) m fun e σ' m' => match e with
    | .normal => G ([0, 1, 5].map σ') m'
    | .exit id => k (.exit id) (only (lx29_2 (.exit id)) ((lx29_2 (.exit id)).map σ')) m'
    | .ret => k .ret (only (lx29_2 .ret) ((lx29_2 .ret).map σ')) m') = R29_2 x_0 x_1 x_5 m (fun x_5' m' => G [(.flat (.string x_0)), (.flat (.int .u8 x_1)), (.flat (.int .i64 x_5'))] m') (fun m' => k (.exit 0) (only [] []) m') (fun x_4' m' => k .ret (only [4] [(.flat (.bool x_4'))]) m') := by
  kernel_rfl

theorem loop29_2 (x_0 : ByteArray) (x_1 : Int) (k : KX) : ∀ (N : Nat) (x_5 : Int) (m : Mem), rounds Try.prog E29 Lam29 [0, 1, 5] lx29_2 ((loopsOf (bodyOf Try.f29)).getD 0 .skip) N [(.flat (.string x_0)), (.flat (.int .u8 x_1)), (.flat (.int .i64 x_5))] m k = L29_2 x_0 x_1 N x_5 m (fun m' => k (.exit 0) (only [] []) m') (fun x_4' m' => k .ret (only [4] [(.flat (.bool x_4'))]) m') := by
  intro N
  induction N with
  | zero => intros; rfl
  | succ N ih =>
    intro x_5 m
    refine (round29_2 x_0 x_1 x_5 m (fun vs m' => rounds Try.prog E29 Lam29 [0, 1, 5] lx29_2 ((loopsOf (bodyOf Try.f29)).getD 0 .skip) N vs m' k) k).trans ?_
    simp only [ih]
    rfl

theorem lok29_2 : LoopOK Try.prog E29 Lam29 ((loopsOf (bodyOf Try.f29)).getD 0 .skip) := by
  refine ⟨fun σ => ∃ x_0 x_1 x_5, σ 0 = .flat (.string x_0) ∧ σ 1 = .flat (.int .u8 x_1) ∧ σ 5 = .flat (.int .i64 x_5), [0, 1, 5], lx29_2, fun σ m k => ?_⟩
  have e : Lam29.loop ((loopsOf (bodyOf Try.f29)).getD 0 .skip) σ m k = Lam29_2 σ m k := by kernel_rfl
  rw [e]
  constructor
  · intro h
    unfold Lam29_2 at h
    obtain ⟨x_0, h0, h⟩ := kS_ok h
    obtain ⟨x_1, h1, h⟩ := kI_ok h
    obtain ⟨x_5, h2, h⟩ := kI_ok h
    obtain ⟨N, h⟩ := h
    refine ⟨⟨x_0, x_1, x_5, h0, h1, h2⟩, N, ?_⟩
    have ev : [0, 1, 5].map σ = [(.flat (.string x_0)), (.flat (.int .u8 x_1)), (.flat (.int .i64 x_5))] := by simp only [List.map_cons, List.map_nil, h0, h1, h2]
    rw [ev, loop29_2]
    exact h
  · rintro ⟨⟨x_0, x_1, x_5, h0, h1, h2⟩, N, h⟩
    have ev : [0, 1, 5].map σ = [(.flat (.string x_0)), (.flat (.int .u8 x_1)), (.flat (.int .i64 x_5))] := by simp only [List.map_cons, List.map_nil, h0, h1, h2]
    rw [ev, loop29_2] at h
    unfold Lam29_2
    try simp only [h0, h1, h2, kI, kbool, kS, kptr, kaggN, kite, decide_true, eq_self]
    exact ⟨N, h⟩

theorem eqn29 (x_0 : ByteArray) (x_1 : Int) (m : Mem) (k : KV) : bodyK Try.prog E29 Lam29 Try.f29 true [(.flat (.string x_0)), (.flat (.int .u8 x_1))] m k = F29 x_0 x_1 m (fun x_1000 m' => k (.flat (.bool x_1000)) m') := by
  kernel_rfl

theorem fs29 (w0 : World) : FS Try.prog w0 29 G29 := by
  refine (fs_body (Γ := E29) (sound_env (l := []) w0 (by
    intro p hp
    cases hp)) (by kernel_rfl) Try.func29 (Λ := Lam29) (c := (bodyOf Try.f29)) (by kernel_rfl) Try.call29 (by kernel_rfl) (LS_of (bodyOf Try.f29) 1 (by kernel_rfl) (by
    intro i hi
    match i, hi with
    | 0, _ => exact lok29_2
    | i + 1, hi => omega) 0 (by kernel_rfl) (fun i hi => absurd hi (Nat.not_lt_zero i))) true (np := 2) (Nat.le_of_ble_eq_true (by kernel_rfl))).imp fun args => ?_
  by_cases hl : args.length = 2
  rotate_left
  · exact .inr fun m k hk => by
      unfold G29 at hk
      split at hk
      · exact hl rfl
      · exact hk
  obtain ⟨a0, a1, rfl⟩ : ∃ a0 a1, args = [a0, a1] := len_list2 hl
  rcases kS_or a0 with ⟨x_0, rfl⟩ | h
  rotate_left
  · exact .inr fun m k hk => h _ (by simpa only [G29, kI, kbool, kS, kptr, kaggN, kite, decide_true, eq_self] using hk)
  rcases kI_or .u8 a1 with ⟨x_1, rfl⟩ | h
  rotate_left
  · exact .inr fun m k hk => h _ (by simpa only [G29, kI, kbool, kS, kptr, kaggN, kite, decide_true, eq_self] using hk)
  exact .inl fun m k => propext ⟨fun h => ⟨rfl, by rw [eqn29]; simpa only [G29, kI, kbool, kS, kptr, kaggN, kite, decide_true, eq_self] using h⟩, fun h => by have h := h.2; rw [eqn29] at h; simpa only [G29, kI, kbool, kS, kptr, kaggN, kite, decide_true, eq_self] using h⟩

/-- pianola/pianolaref3.special -/
def F40  (m : Mem) (k : AV → Mem → Prop) : Prop :=
  newK m ⟨140, splice (splice (splice (splice (splice (splice (splice (splice (splice (splice (splice (splice (splice (splice (splice (splice (splice (splice (splice (splice (splice (splice (splice (splice (splice (splice (splice (splice (splice (splice (splice (splice (splice (splice (splice (Z140) 0 4 (upd (upd (upd (upd (lget [(.flat (.int .i64 0)), (.flat (.int .i64 0)), (.flat (.int .i64 0)), (.flat (.string ⟨#[]⟩))]) 0 (.flat (.int .i64 0))) 1 (.flat (.int .i64 0))) 2 (.flat (.int .i64 1))) 3 (.flat (.string Yb0)))) 4 4 (upd (upd (upd (upd (lget [(.flat (.int .i64 0)), (.flat (.int .i64 0)), (.flat (.int .i64 0)), (.flat (.string ⟨#[]⟩))]) 0 (.flat (.int .i64 0))) 1 (.flat (.int .i64 2))) 2 (.flat (.int .i64 2))) 3 (.flat (.string Yb0)))) 8 4 (upd (upd (upd (upd (lget [(.flat (.int .i64 0)), (.flat (.int .i64 0)), (.flat (.int .i64 0)), (.flat (.string ⟨#[]⟩))]) 0 (.flat (.int .i64 0))) 1 (.flat (.int .i64 3))) 2 (.flat (.int .i64 3))) 3 (.flat (.string Yb0)))) 12 4 (upd (upd (upd (upd (lget [(.flat (.int .i64 0)), (.flat (.int .i64 0)), (.flat (.int .i64 0)), (.flat (.string ⟨#[]⟩))]) 0 (.flat (.int .i64 0))) 1 (.flat (.int .i64 4))) 2 (.flat (.int .i64 4))) 3 (.flat (.string Yb1)))) 16 4 (upd (upd (upd (upd (lget [(.flat (.int .i64 0)), (.flat (.int .i64 0)), (.flat (.int .i64 0)), (.flat (.string ⟨#[]⟩))]) 0 (.flat (.int .i64 0))) 1 (.flat (.int .i64 6))) 2 (.flat (.int .i64 5))) 3 (.flat (.string Yb1)))) 20 4 (upd (upd (upd (upd (lget [(.flat (.int .i64 0)), (.flat (.int .i64 0)), (.flat (.int .i64 0)), (.flat (.string ⟨#[]⟩))]) 0 (.flat (.int .i64 0))) 1 (.flat (.int .i64 7))) 2 (.flat (.int .i64 6))) 3 (.flat (.string Yb1)))) 24 4 (upd (upd (upd (upd (lget [(.flat (.int .i64 0)), (.flat (.int .i64 0)), (.flat (.int .i64 0)), (.flat (.string ⟨#[]⟩))]) 0 (.flat (.int .i64 0))) 1 (.flat (.int .i64 8))) 2 (.flat (.int .i64 7))) 3 (.flat (.string Yb2)))) 28 4 (upd (upd (upd (upd (lget [(.flat (.int .i64 0)), (.flat (.int .i64 0)), (.flat (.int .i64 0)), (.flat (.string ⟨#[]⟩))]) 0 (.flat (.int .i64 0))) 1 (.flat (.int .i64 9))) 2 (.flat (.int .i64 8))) 3 (.flat (.string Yb3)))) 32 4 (upd (upd (upd (upd (lget [(.flat (.int .i64 0)), (.flat (.int .i64 0)), (.flat (.int .i64 0)), (.flat (.string ⟨#[]⟩))]) 0 (.flat (.int .i64 0))) 1 (.flat (.int .i64 10))) 2 (.flat (.int .i64 9))) 3 (.flat (.string Yb1)))) 36 4 (upd (upd (upd (upd (lget [(.flat (.int .i64 0)), (.flat (.int .i64 0)), (.flat (.int .i64 0)), (.flat (.string ⟨#[]⟩))]) 0 (.flat (.int .i64 0))) 1 (.flat (.int .i64 11))) 2 (.flat (.int .i64 10))) 3 (.flat (.string Yb1)))) 40 4 (upd (upd (upd (upd (lget [(.flat (.int .i64 0)), (.flat (.int .i64 0)), (.flat (.int .i64 0)), (.flat (.string ⟨#[]⟩))]) 0 (.flat (.int .i64 0))) 1 (.flat (.int .i64 12))) 2 (.flat (.int .i64 11))) 3 (.flat (.string (⟨#[]⟩ : ByteArray))))) 44 4 (upd (upd (upd (upd (lget [(.flat (.int .i64 0)), (.flat (.int .i64 0)), (.flat (.int .i64 0)), (.flat (.string ⟨#[]⟩))]) 0 (.flat (.int .i64 0))) 1 (.flat (.int .i64 13))) 2 (.flat (.int .i64 12))) 3 (.flat (.string (⟨#[]⟩ : ByteArray))))) 48 4 (upd (upd (upd (upd (lget [(.flat (.int .i64 0)), (.flat (.int .i64 0)), (.flat (.int .i64 0)), (.flat (.string ⟨#[]⟩))]) 0 (.flat (.int .i64 0))) 1 (.flat (.int .i64 15))) 2 (.flat (.int .i64 13))) 3 (.flat (.string (⟨#[]⟩ : ByteArray))))) 52 4 (upd (upd (upd (upd (lget [(.flat (.int .i64 0)), (.flat (.int .i64 0)), (.flat (.int .i64 0)), (.flat (.string ⟨#[]⟩))]) 0 (.flat (.int .i64 0))) 1 (.flat (.int .i64 16))) 2 (.flat (.int .i64 14))) 3 (.flat (.string Yb4)))) 56 4 (upd (upd (upd (upd (lget [(.flat (.int .i64 0)), (.flat (.int .i64 0)), (.flat (.int .i64 0)), (.flat (.string ⟨#[]⟩))]) 0 (.flat (.int .i64 0))) 1 (.flat (.int .i64 17))) 2 (.flat (.int .i64 15))) 3 (.flat (.string Yb2)))) 60 4 (upd (upd (upd (upd (lget [(.flat (.int .i64 0)), (.flat (.int .i64 0)), (.flat (.int .i64 0)), (.flat (.string ⟨#[]⟩))]) 0 (.flat (.int .i64 0))) 1 (.flat (.int .i64 18))) 2 (.flat (.int .i64 16))) 3 (.flat (.string Yb4)))) 64 4 (upd (upd (upd (upd (lget [(.flat (.int .i64 0)), (.flat (.int .i64 0)), (.flat (.int .i64 0)), (.flat (.string ⟨#[]⟩))]) 0 (.flat (.int .i64 0))) 1 (.flat (.int .i64 19))) 2 (.flat (.int .i64 17))) 3 (.flat (.string Yb2)))) 68 4 (upd (upd (upd (upd (lget [(.flat (.int .i64 0)), (.flat (.int .i64 0)), (.flat (.int .i64 0)), (.flat (.string ⟨#[]⟩))]) 0 (.flat (.int .i64 0))) 1 (.flat (.int .i64 24))) 2 (.flat (.int .i64 18))) 3 (.flat (.string Yb5)))) 72 4 (upd (upd (upd (upd (lget [(.flat (.int .i64 0)), (.flat (.int .i64 0)), (.flat (.int .i64 0)), (.flat (.string ⟨#[]⟩))]) 0 (.flat (.int .i64 0))) 1 (.flat (.int .i64 25))) 2 (.flat (.int .i64 19))) 3 (.flat (.string Yb5)))) 76 4 (upd (upd (upd (upd (lget [(.flat (.int .i64 0)), (.flat (.int .i64 0)), (.flat (.int .i64 0)), (.flat (.string ⟨#[]⟩))]) 0 (.flat (.int .i64 0))) 1 (.flat (.int .i64 26))) 2 (.flat (.int .i64 20))) 3 (.flat (.string Yb5)))) 80 4 (upd (upd (upd (upd (lget [(.flat (.int .i64 0)), (.flat (.int .i64 0)), (.flat (.int .i64 0)), (.flat (.string ⟨#[]⟩))]) 0 (.flat (.int .i64 0))) 1 (.flat (.int .i64 27))) 2 (.flat (.int .i64 21))) 3 (.flat (.string Yb5)))) 84 4 (upd (upd (upd (upd (lget [(.flat (.int .i64 0)), (.flat (.int .i64 0)), (.flat (.int .i64 0)), (.flat (.string ⟨#[]⟩))]) 0 (.flat (.int .i64 0))) 1 (.flat (.int .i64 32))) 2 (.flat (.int .i64 22))) 3 (.flat (.string Yb1)))) 88 4 (upd (upd (upd (upd (lget [(.flat (.int .i64 0)), (.flat (.int .i64 0)), (.flat (.int .i64 0)), (.flat (.string ⟨#[]⟩))]) 0 (.flat (.int .i64 0))) 1 (.flat (.int .i64 33))) 2 (.flat (.int .i64 23))) 3 (.flat (.string Yb1)))) 92 4 (upd (upd (upd (upd (lget [(.flat (.int .i64 0)), (.flat (.int .i64 0)), (.flat (.int .i64 0)), (.flat (.string ⟨#[]⟩))]) 0 (.flat (.int .i64 0))) 1 (.flat (.int .i64 34))) 2 (.flat (.int .i64 24))) 3 (.flat (.string Yb1)))) 96 4 (upd (upd (upd (upd (lget [(.flat (.int .i64 0)), (.flat (.int .i64 0)), (.flat (.int .i64 0)), (.flat (.string ⟨#[]⟩))]) 0 (.flat (.int .i64 0))) 1 (.flat (.int .i64 35))) 2 (.flat (.int .i64 25))) 3 (.flat (.string Yb1)))) 100 4 (upd (upd (upd (upd (lget [(.flat (.int .i64 0)), (.flat (.int .i64 0)), (.flat (.int .i64 0)), (.flat (.string ⟨#[]⟩))]) 0 (.flat (.int .i64 0))) 1 (.flat (.int .i64 36))) 2 (.flat (.int .i64 26))) 3 (.flat (.string Yb1)))) 104 4 (upd (upd (upd (upd (lget [(.flat (.int .i64 0)), (.flat (.int .i64 0)), (.flat (.int .i64 0)), (.flat (.string ⟨#[]⟩))]) 0 (.flat (.int .i64 0))) 1 (.flat (.int .i64 37))) 2 (.flat (.int .i64 27))) 3 (.flat (.string Yb1)))) 108 4 (upd (upd (upd (upd (lget [(.flat (.int .i64 0)), (.flat (.int .i64 0)), (.flat (.int .i64 0)), (.flat (.string ⟨#[]⟩))]) 0 (.flat (.int .i64 0))) 1 (.flat (.int .i64 38))) 2 (.flat (.int .i64 28))) 3 (.flat (.string Yb1)))) 112 4 (upd (upd (upd (upd (lget [(.flat (.int .i64 0)), (.flat (.int .i64 0)), (.flat (.int .i64 0)), (.flat (.string ⟨#[]⟩))]) 0 (.flat (.int .i64 0))) 1 (.flat (.int .i64 39))) 2 (.flat (.int .i64 29))) 3 (.flat (.string Yb1)))) 116 4 (upd (upd (upd (upd (lget [(.flat (.int .i64 0)), (.flat (.int .i64 0)), (.flat (.int .i64 0)), (.flat (.string ⟨#[]⟩))]) 0 (.flat (.int .i64 0))) 1 (.flat (.int .i64 42))) 2 (.flat (.int .i64 30))) 3 (.flat (.string Yb1)))) 120 4 (upd (upd (upd (upd (lget [(.flat (.int .i64 0)), (.flat (.int .i64 0)), (.flat (.int .i64 0)), (.flat (.string ⟨#[]⟩))]) 0 (.flat (.int .i64 0))) 1 (.flat (.int .i64 43))) 2 (.flat (.int .i64 31))) 3 (.flat (.string Yb1)))) 124 4 (upd (upd (upd (upd (lget [(.flat (.int .i64 0)), (.flat (.int .i64 0)), (.flat (.int .i64 0)), (.flat (.string ⟨#[]⟩))]) 0 (.flat (.int .i64 0))) 1 (.flat (.int .i64 48))) 2 (.flat (.int .i64 32))) 3 (.flat (.string Yb5)))) 128 4 (upd (upd (upd (upd (lget [(.flat (.int .i64 0)), (.flat (.int .i64 0)), (.flat (.int .i64 0)), (.flat (.string ⟨#[]⟩))]) 0 (.flat (.int .i64 0))) 1 (.flat (.int .i64 50))) 2 (.flat (.int .i64 33))) 3 (.flat (.string Yb5)))) 132 4 (upd (upd (upd (upd (lget [(.flat (.int .i64 0)), (.flat (.int .i64 0)), (.flat (.int .i64 0)), (.flat (.string ⟨#[]⟩))]) 0 (.flat (.int .i64 0))) 1 (.flat (.int .i64 52))) 2 (.flat (.int .i64 34))) 3 (.flat (.string Yb5)))) 136 4 (upd (upd (upd (upd (lget [(.flat (.int .i64 0)), (.flat (.int .i64 0)), (.flat (.int .i64 0)), (.flat (.string ⟨#[]⟩))]) 0 (.flat (.int .i64 0))) 1 (.flat (.int .i64 54))) 2 (.flat (.int .i64 35))) 3 (.flat (.string Yb5))), 51, false⟩ fun b2 m1 => k (.sl b2 0 35 (.ex 35)) m1

def G40 (args : List AV) (m : Mem) (k : KV) : Prop := match args with
  | [] => F40  m (fun v_1000 m' => k v_1000 m')
  | _ => False

def E40 : Env := envOf []

def Lam40 : LEnv := ⟨fun a σ m k => match firstReg a with
  | _ => bump False,
  fun id => match id with
  | _ => bump false,
  fun b => match keyC b with
  | _ => bump false,
  fun b σ m k => match keyC b with
  | _ => bump False⟩

theorem eqn40  (m : Mem) (k : KV) : bodyK Try.prog E40 Lam40 Try.f40 false [] m k = F40  m (fun v_1000 m' => k v_1000 m') := by
  kernel_rfl

theorem fs40 (w0 : World) : FS Try.prog w0 40 G40 := by
  refine (fs_body (Γ := E40) (sound_env (l := []) w0 (by
    intro p hp
    cases hp)) (by kernel_rfl) Try.func40 (Λ := Lam40) (c := (bodyOf Try.f40)) (by kernel_rfl) Try.call40 (by kernel_rfl) (LS_of (bodyOf Try.f40) 0 (by kernel_rfl) (fun i hi => absurd hi (Nat.not_lt_zero i)) 0 (by kernel_rfl) (fun i hi => absurd hi (Nat.not_lt_zero i))) false (np := 0) (Nat.le_of_ble_eq_true (by kernel_rfl))).imp fun args => ?_
  by_cases hl : args.length = 0
  rotate_left
  · exact .inr fun m k hk => by
      unfold G40 at hk
      split at hk
      · exact hl rfl
      · exact hk
  obtain rfl : args = [] := len_list0 hl

  exact .inl fun m k => propext ⟨fun h => ⟨rfl, by rw [eqn40]; simpa only [G40, kI, kbool, kS, kptr, kaggN, kite, decide_true, eq_self] using h⟩, fun h => by have h := h.2; rw [eqn40] at h; simpa only [G40, kI, kbool, kS, kptr, kaggN, kite, decide_true, eq_self] using h⟩

/-- pianola/pianolaref3.others -/
def F41  (m : Mem) (k : AV → Mem → Prop) : Prop :=
  newK m ⟨60, splice (splice (splice (splice (splice (splice (splice (splice (splice (splice (splice (splice (splice (splice (splice (Z60) 0 4 (upd (upd (upd (upd (lget [(.flat (.int .i64 0)), (.flat (.int .i64 0)), (.flat (.int .i64 0)), (.flat (.string ⟨#[]⟩))]) 0 (.flat (.int .i64 1))) 1 (.flat (.int .i64 0))) 2 (.flat (.int .i64 36))) 3 (.flat (.string Yb6)))) 4 4 (upd (upd (upd (upd (lget [(.flat (.int .i64 0)), (.flat (.int .i64 0)), (.flat (.int .i64 0)), (.flat (.string ⟨#[]⟩))]) 0 (.flat (.int .i64 1))) 1 (.flat (.int .i64 1))) 2 (.flat (.int .i64 37))) 3 (.flat (.string Yb6)))) 8 4 (upd (upd (upd (upd (lget [(.flat (.int .i64 0)), (.flat (.int .i64 0)), (.flat (.int .i64 0)), (.flat (.string ⟨#[]⟩))]) 0 (.flat (.int .i64 1))) 1 (.flat (.int .i64 16))) 2 (.flat (.int .i64 38))) 3 (.flat (.string Yb6)))) 12 4 (upd (upd (upd (upd (lget [(.flat (.int .i64 0)), (.flat (.int .i64 0)), (.flat (.int .i64 0)), (.flat (.string ⟨#[]⟩))]) 0 (.flat (.int .i64 1))) 1 (.flat (.int .i64 17))) 2 (.flat (.int .i64 39))) 3 (.flat (.string Yb6)))) 16 4 (upd (upd (upd (upd (lget [(.flat (.int .i64 0)), (.flat (.int .i64 0)), (.flat (.int .i64 0)), (.flat (.string ⟨#[]⟩))]) 0 (.flat (.int .i64 16))) 1 (.flat (.int .i64 0))) 2 (.flat (.int .i64 54))) 3 (.flat (.string Yb7)))) 20 4 (upd (upd (upd (upd (lget [(.flat (.int .i64 0)), (.flat (.int .i64 0)), (.flat (.int .i64 0)), (.flat (.string ⟨#[]⟩))]) 0 (.flat (.int .i64 16))) 1 (.flat (.int .i64 4))) 2 (.flat (.int .i64 55))) 3 (.flat (.string Yb7)))) 24 4 (upd (upd (upd (upd (lget [(.flat (.int .i64 0)), (.flat (.int .i64 0)), (.flat (.int .i64 0)), (.flat (.string ⟨#[]⟩))]) 0 (.flat (.int .i64 16))) 1 (.flat (.int .i64 65))) 2 (.flat (.int .i64 56))) 3 (.flat (.string (⟨#[]⟩ : ByteArray))))) 28 4 (upd (upd (upd (upd (lget [(.flat (.int .i64 0)), (.flat (.int .i64 0)), (.flat (.int .i64 0)), (.flat (.string ⟨#[]⟩))]) 0 (.flat (.int .i64 16))) 1 (.flat (.int .i64 66))) 2 (.flat (.int .i64 57))) 3 (.flat (.string (⟨#[]⟩ : ByteArray))))) 32 4 (upd (upd (upd (upd (lget [(.flat (.int .i64 0)), (.flat (.int .i64 0)), (.flat (.int .i64 0)), (.flat (.string ⟨#[]⟩))]) 0 (.flat (.int .i64 16))) 1 (.flat (.int .i64 70))) 2 (.flat (.int .i64 58))) 3 (.flat (.string (⟨#[]⟩ : ByteArray))))) 36 4 (upd (upd (upd (upd (lget [(.flat (.int .i64 0)), (.flat (.int .i64 0)), (.flat (.int .i64 0)), (.flat (.string ⟨#[]⟩))]) 0 (.flat (.int .i64 16))) 1 (.flat (.int .i64 72))) 2 (.flat (.int .i64 59))) 3 (.flat (.string (⟨#[]⟩ : ByteArray))))) 40 4 (upd (upd (upd (upd (lget [(.flat (.int .i64 0)), (.flat (.int .i64 0)), (.flat (.int .i64 0)), (.flat (.string ⟨#[]⟩))]) 0 (.flat (.int .i64 16))) 1 (.flat (.int .i64 88))) 2 (.flat (.int .i64 60))) 3 (.flat (.string (⟨#[]⟩ : ByteArray))))) 44 4 (upd (upd (upd (upd (lget [(.flat (.int .i64 0)), (.flat (.int .i64 0)), (.flat (.int .i64 0)), (.flat (.string ⟨#[]⟩))]) 0 (.flat (.int .i64 16))) 1 (.flat (.int .i64 96))) 2 (.flat (.int .i64 61))) 3 (.flat (.string (⟨#[]⟩ : ByteArray))))) 48 4 (upd (upd (upd (upd (lget [(.flat (.int .i64 0)), (.flat (.int .i64 0)), (.flat (.int .i64 0)), (.flat (.string ⟨#[]⟩))]) 0 (.flat (.int .i64 28))) 1 (.flat (.int .i64 2))) 2 (.flat (.int .i64 63))) 3 (.flat (.string Yb1)))) 52 4 (upd (upd (upd (upd (lget [(.flat (.int .i64 0)), (.flat (.int .i64 0)), (.flat (.int .i64 0)), (.flat (.string ⟨#[]⟩))]) 0 (.flat (.int .i64 28))) 1 (.flat (.int .i64 32))) 2 (.flat (.int .i64 64))) 3 (.flat (.string Yb3)))) 56 4 (upd (upd (upd (upd (lget [(.flat (.int .i64 0)), (.flat (.int .i64 0)), (.flat (.int .i64 0)), (.flat (.string ⟨#[]⟩))]) 0 (.flat (.int .i64 28))) 1 (.flat (.int .i64 33))) 2 (.flat (.int .i64 65))) 3 (.flat (.string Yb3))), 51, false⟩ fun b2 m1 => k (.sl b2 0 15 (.ex 15)) m1

def G41 (args : List AV) (m : Mem) (k : KV) : Prop := match args with
  | [] => F41  m (fun v_1000 m' => k v_1000 m')
  | _ => False

def E41 : Env := envOf []

def Lam41 : LEnv := ⟨fun a σ m k => match firstReg a with
  | _ => bump False,
  fun id => match id with
  | _ => bump false,
  fun b => match keyC b with
  | _ => bump false,
  fun b σ m k => match keyC b with
  | _ => bump False⟩

theorem eqn41  (m : Mem) (k : KV) : bodyK Try.prog E41 Lam41 Try.f41 false [] m k = F41  m (fun v_1000 m' => k v_1000 m') := by
  kernel_rfl

theorem fs41 (w0 : World) : FS Try.prog w0 41 G41 := by
  refine (fs_body (Γ := E41) (sound_env (l := []) w0 (by
    intro p hp
    cases hp)) (by kernel_rfl) Try.func41 (Λ := Lam41) (c := (bodyOf Try.f41)) (by kernel_rfl) Try.call41 (by kernel_rfl) (LS_of (bodyOf Try.f41) 0 (by kernel_rfl) (fun i hi => absurd hi (Nat.not_lt_zero i)) 0 (by kernel_rfl) (fun i hi => absurd hi (Nat.not_lt_zero i))) false (np := 0) (Nat.le_of_ble_eq_true (by kernel_rfl))).imp fun args => ?_
  by_cases hl : args.length = 0
  rotate_left
  · exact .inr fun m k hk => by
      unfold G41 at hk
      split at hk
      · exact hl rfl
      · exact hk
  obtain rfl : args = [] := len_list0 hl

  exact .inl fun m k => propext ⟨fun h => ⟨rfl, by rw [eqn41]; simpa only [G41, kI, kbool, kS, kptr, kaggN, kite, decide_true, eq_self] using h⟩, fun h => by have h := h.2; rw [eqn41] at h; simpa only [G41, kI, kbool, kS, kptr, kaggN, kite, decide_true, eq_self] using h⟩

/-- pianola/pianolaref3.plain -/
def F42  (m : Mem) (k : AV → Mem → Prop) : Prop :=
  newK m ⟨108, splice (splice (splice (splice (splice (splice (splice (splice (splice (splice (splice (splice (splice (splice (splice (splice (splice (splice (splice (splice (splice (splice (splice (splice (splice (splice (splice (Z108) 0 4 (upd (upd (upd (upd (lget [(.flat (.int .i64 0)), (.flat (.int .i64 0)), (.flat (.int .i64 0)), (.flat (.string ⟨#[]⟩))]) 0 (.flat (.int .i64 2))) 1 (.flat (.int .i64 0))) 2 (.flat (.int .i64 40))) 3 (.flat (.string Yb8)))) 4 4 (upd (upd (upd (upd (lget [(.flat (.int .i64 0)), (.flat (.int .i64 0)), (.flat (.int .i64 0)), (.flat (.string ⟨#[]⟩))]) 0 (.flat (.int .i64 3))) 1 (.flat (.int .i64 0))) 2 (.flat (.int .i64 41))) 3 (.flat (.string Yb8)))) 8 4 (upd (upd (upd (upd (lget [(.flat (.int .i64 0)), (.flat (.int .i64 0)), (.flat (.int .i64 0)), (.flat (.string ⟨#[]⟩))]) 0 (.flat (.int .i64 4))) 1 (.flat (.int .i64 0))) 2 (.flat (.int .i64 42))) 3 (.flat (.string Yb9)))) 12 4 (upd (upd (upd (upd (lget [(.flat (.int .i64 0)), (.flat (.int .i64 0)), (.flat (.int .i64 0)), (.flat (.string ⟨#[]⟩))]) 0 (.flat (.int .i64 5))) 1 (.flat (.int .i64 0))) 2 (.flat (.int .i64 43))) 3 (.flat (.string Yb9)))) 16 4 (upd (upd (upd (upd (lget [(.flat (.int .i64 0)), (.flat (.int .i64 0)), (.flat (.int .i64 0)), (.flat (.string ⟨#[]⟩))]) 0 (.flat (.int .i64 6))) 1 (.flat (.int .i64 0))) 2 (.flat (.int .i64 44))) 3 (.flat (.string Yb6)))) 20 4 (upd (upd (upd (upd (lget [(.flat (.int .i64 0)), (.flat (.int .i64 0)), (.flat (.int .i64 0)), (.flat (.string ⟨#[]⟩))]) 0 (.flat (.int .i64 7))) 1 (.flat (.int .i64 0))) 2 (.flat (.int .i64 45))) 3 (.flat (.string Yb6)))) 24 4 (upd (upd (upd (upd (lget [(.flat (.int .i64 0)), (.flat (.int .i64 0)), (.flat (.int .i64 0)), (.flat (.string ⟨#[]⟩))]) 0 (.flat (.int .i64 8))) 1 (.flat (.int .i64 0))) 2 (.flat (.int .i64 46))) 3 (.flat (.string Yb9)))) 28 4 (upd (upd (upd (upd (lget [(.flat (.int .i64 0)), (.flat (.int .i64 0)), (.flat (.int .i64 0)), (.flat (.string ⟨#[]⟩))]) 0 (.flat (.int .i64 9))) 1 (.flat (.int .i64 0))) 2 (.flat (.int .i64 47))) 3 (.flat (.string Yb9)))) 32 4 (upd (upd (upd (upd (lget [(.flat (.int .i64 0)), (.flat (.int .i64 0)), (.flat (.int .i64 0)), (.flat (.string ⟨#[]⟩))]) 0 (.flat (.int .i64 10))) 1 (.flat (.int .i64 0))) 2 (.flat (.int .i64 48))) 3 (.flat (.string Yb9)))) 36 4 (upd (upd (upd (upd (lget [(.flat (.int .i64 0)), (.flat (.int .i64 0)), (.flat (.int .i64 0)), (.flat (.string ⟨#[]⟩))]) 0 (.flat (.int .i64 11))) 1 (.flat (.int .i64 0))) 2 (.flat (.int .i64 49))) 3 (.flat (.string Yb9)))) 40 4 (upd (upd (upd (upd (lget [(.flat (.int .i64 0)), (.flat (.int .i64 0)), (.flat (.int .i64 0)), (.flat (.string ⟨#[]⟩))]) 0 (.flat (.int .i64 12))) 1 (.flat (.int .i64 0))) 2 (.flat (.int .i64 50))) 3 (.flat (.string Yb9)))) 44 4 (upd (upd (upd (upd (lget [(.flat (.int .i64 0)), (.flat (.int .i64 0)), (.flat (.int .i64 0)), (.flat (.string ⟨#[]⟩))]) 0 (.flat (.int .i64 13))) 1 (.flat (.int .i64 0))) 2 (.flat (.int .i64 51))) 3 (.flat (.string Yb9)))) 48 4 (upd (upd (upd (upd (lget [(.flat (.int .i64 0)), (.flat (.int .i64 0)), (.flat (.int .i64 0)), (.flat (.string ⟨#[]⟩))]) 0 (.flat (.int .i64 14))) 1 (.flat (.int .i64 0))) 2 (.flat (.int .i64 52))) 3 (.flat (.string Yb9)))) 52 4 (upd (upd (upd (upd (lget [(.flat (.int .i64 0)), (.flat (.int .i64 0)), (.flat (.int .i64 0)), (.flat (.string ⟨#[]⟩))]) 0 (.flat (.int .i64 15))) 1 (.flat (.int .i64 0))) 2 (.flat (.int .i64 53))) 3 (.flat (.string Yb10)))) 56 4 (upd (upd (upd (upd (lget [(.flat (.int .i64 0)), (.flat (.int .i64 0)), (.flat (.int .i64 0)), (.flat (.string ⟨#[]⟩))]) 0 (.flat (.int .i64 17))) 1 (.flat (.int .i64 0))) 2 (.flat (.int .i64 62))) 3 (.flat (.string (⟨#[]⟩ : ByteArray))))) 60 4 (upd (upd (upd (upd (lget [(.flat (.int .i64 0)), (.flat (.int .i64 0)), (.flat (.int .i64 0)), (.flat (.string ⟨#[]⟩))]) 0 (.flat (.int .i64 32))) 1 (.flat (.int .i64 0))) 2 (.flat (.int .i64 66))) 3 (.flat (.string Yb9)))) 64 4 (upd (upd (upd (upd (lget [(.flat (.int .i64 0)), (.flat (.int .i64 0)), (.flat (.int .i64 0)), (.flat (.string ⟨#[]⟩))]) 0 (.flat (.int .i64 33))) 1 (.flat (.int .i64 0))) 2 (.flat (.int .i64 67))) 3 (.flat (.string Yb9)))) 68 4 (upd (upd (upd (upd (lget [(.flat (.int .i64 0)), (.flat (.int .i64 0)), (.flat (.int .i64 0)), (.flat (.string ⟨#[]⟩))]) 0 (.flat (.int .i64 35))) 1 (.flat (.int .i64 0))) 2 (.flat (.int .i64 68))) 3 (.flat (.string Yb9)))) 72 4 (upd (upd (upd (upd (lget [(.flat (.int .i64 0)), (.flat (.int .i64 0)), (.flat (.int .i64 0)), (.flat (.string ⟨#[]⟩))]) 0 (.flat (.int .i64 36))) 1 (.flat (.int .i64 0))) 2 (.flat (.int .i64 69))) 3 (.flat (.string Yb9)))) 76 4 (upd (upd (upd (upd (lget [(.flat (.int .i64 0)), (.flat (.int .i64 0)), (.flat (.int .i64 0)), (.flat (.string ⟨#[]⟩))]) 0 (.flat (.int .i64 37))) 1 (.flat (.int .i64 0))) 2 (.flat (.int .i64 70))) 3 (.flat (.string Yb9)))) 80 4 (upd (upd (upd (upd (lget [(.flat (.int .i64 0)), (.flat (.int .i64 0)), (.flat (.int .i64 0)), (.flat (.string ⟨#[]⟩))]) 0 (.flat (.int .i64 40))) 1 (.flat (.int .i64 0))) 2 (.flat (.int .i64 71))) 3 (.flat (.string Yb9)))) 84 4 (upd (upd (upd (upd (lget [(.flat (.int .i64 0)), (.flat (.int .i64 0)), (.flat (.int .i64 0)), (.flat (.string ⟨#[]⟩))]) 0 (.flat (.int .i64 41))) 1 (.flat (.int .i64 0))) 2 (.flat (.int .i64 72))) 3 (.flat (.string Yb9)))) 88 4 (upd (upd (upd (upd (lget [(.flat (.int .i64 0)), (.flat (.int .i64 0)), (.flat (.int .i64 0)), (.flat (.string ⟨#[]⟩))]) 0 (.flat (.int .i64 43))) 1 (.flat (.int .i64 0))) 2 (.flat (.int .i64 73))) 3 (.flat (.string Yb9)))) 92 4 (upd (upd (upd (upd (lget [(.flat (.int .i64 0)), (.flat (.int .i64 0)), (.flat (.int .i64 0)), (.flat (.string ⟨#[]⟩))]) 0 (.flat (.int .i64 47))) 1 (.flat (.int .i64 0))) 2 (.flat (.int .i64 76))) 3 (.flat (.string (⟨#[]⟩ : ByteArray))))) 96 4 (upd (upd (upd (upd (lget [(.flat (.int .i64 0)), (.flat (.int .i64 0)), (.flat (.int .i64 0)), (.flat (.string ⟨#[]⟩))]) 0 (.flat (.int .i64 48))) 1 (.flat (.int .i64 0))) 2 (.flat (.int .i64 74))) 3 (.flat (.string Yb9)))) 100 4 (upd (upd (upd (upd (lget [(.flat (.int .i64 0)), (.flat (.int .i64 0)), (.flat (.int .i64 0)), (.flat (.string ⟨#[]⟩))]) 0 (.flat (.int .i64 51))) 1 (.flat (.int .i64 0))) 2 (.flat (.int .i64 77))) 3 (.flat (.string (⟨#[]⟩ : ByteArray))))) 104 4 (upd (upd (upd (upd (lget [(.flat (.int .i64 0)), (.flat (.int .i64 0)), (.flat (.int .i64 0)), (.flat (.string ⟨#[]⟩))]) 0 (.flat (.int .i64 56))) 1 (.flat (.int .i64 0))) 2 (.flat (.int .i64 75))) 3 (.flat (.string Yb9))), 51, false⟩ fun b2 m1 => k (.sl b2 0 27 (.ex 27)) m1

def G42 (args : List AV) (m : Mem) (k : KV) : Prop := match args with
  | [] => F42  m (fun v_1000 m' => k v_1000 m')
  | _ => False

def E42 : Env := envOf []

def Lam42 : LEnv := ⟨fun a σ m k => match firstReg a with
  | _ => bump False,
  fun id => match id with
  | _ => bump false,
  fun b => match keyC b with
  | _ => bump false,
  fun b σ m k => match keyC b with
  | _ => bump False⟩

theorem eqn42  (m : Mem) (k : KV) : bodyK Try.prog E42 Lam42 Try.f42 false [] m k = F42  m (fun v_1000 m' => k v_1000 m') := by
  kernel_rfl

theorem fs42 (w0 : World) : FS Try.prog w0 42 G42 := by
  refine (fs_body (Γ := E42) (sound_env (l := []) w0 (by
    intro p hp
    cases hp)) (by kernel_rfl) Try.func42 (Λ := Lam42) (c := (bodyOf Try.f42)) (by kernel_rfl) Try.call42 (by kernel_rfl) (LS_of (bodyOf Try.f42) 0 (by kernel_rfl) (fun i hi => absurd hi (Nat.not_lt_zero i)) 0 (by kernel_rfl) (fun i hi => absurd hi (Nat.not_lt_zero i))) false (np := 0) (Nat.le_of_ble_eq_true (by kernel_rfl))).imp fun args => ?_
  by_cases hl : args.length = 0
  rotate_left
  · exact .inr fun m k hk => by
      unfold G42 at hk
      split at hk
      · exact hl rfl
      · exact hk
  obtain rfl : args = [] := len_list0 hl

  exact .inl fun m k => propext ⟨fun h => ⟨rfl, by rw [eqn42]; simpa only [G42, kI, kbool, kS, kptr, kaggN, kite, decide_true, eq_self] using h⟩, fun h => by have h := h.2; rw [eqn42] at h; simpa only [G42, kI, kbool, kS, kptr, kaggN, kite, decide_true, eq_self] using h⟩

def R30_10 (x_0 : Int) (b_2 o_2 : Nat) (x_4 : Int) (v_5 : AV) (x_6 : Int) (m : Mem) (kn : Int → Mem → Prop) (k2 : Mem → Prop) (kr : Bool → Mem → Prop) : Prop :=
  klen v_5 fun x9 => kif (decide (x_6 < x9)) (ksl v_5 fun b10 o11 l12 p13 => kif (decide (0 ≤ x_6) && decide (x_6 < l12)) (ldI .i64 m b10 (o11 + (x_6).toNat * 4 + 2) fun x14 => kif (x14 == x_0) (ksl v_5 fun b15 o16 l17 p18 => kif (decide (0 ≤ x_6) && decide (x_6 < l17)) (ldG 4 m b15 (o16 + (x_6).toNat * 4) fun c19 => stG 4 m b_2 o_2 c19 fun m20 => kr true m20) False) (kn (IntKind.wrap .i64 (x_6 + 1)) m)) False) (k2  m)

def L30_10 (x_0 : Int) (b_2 o_2 : Nat) (x_4 : Int) (v_5 : AV) : Nat → Int → Mem → (Mem → Prop) → (Bool → Mem → Prop) → Prop
  | 0, _,  _, _, _ => bump False
  | N + 1, x_6,  m, k2, kr => R30_10 x_0 b_2 o_2 x_4 v_5 x_6 m (fun x_6' m' => L30_10 x_0 b_2 o_2 x_4 v_5 N x_6' m' k2 kr) k2 kr

def P30_9102 (x_0 : Int) (b_2 o_2 : Nat) (x_4 : Int) (v_5 : AV) (m : Mem) (kn : Mem → Prop) (kr : Bool → Mem → Prop) : Prop :=
  ∃ N24, L30_10 x_0 b_2 o_2 x_4 v_5 N24 0 m (fun m21 => kn  m21) (fun x22 m23 => kr x22 m23)

def R30_2 (x_0 : Int) (b_2 o_2 : Nat) (x_4 : Int) (m : Mem) (kn : Int → Mem → Prop) (k0 : Mem → Prop) (kr : Bool → Mem → Prop) : Prop :=
  kif (decide (x_4 < 3)) (F40  m fun v3 m4 => kif (x_4 == 1) (F42  m4 fun v5 m6 => P30_9102 x_0 b_2 o_2 x_4 v5 m6 (fun m25 => kn (IntKind.wrap .i64 (x_4 + 1)) m25) (fun x26 m27 => kr x26 m27)) (kif (x_4 == 2) (F41  m4 fun v7 m8 => P30_9102 x_0 b_2 o_2 x_4 v7 m8 (fun m28 => kn (IntKind.wrap .i64 (x_4 + 1)) m28) (fun x29 m30 => kr x29 m30)) (P30_9102 x_0 b_2 o_2 x_4 v3 m4 (fun m31 => kn (IntKind.wrap .i64 (x_4 + 1)) m31) (fun x32 m33 => kr x32 m33)))) (k0  m)

def L30_2 (x_0 : Int) (b_2 o_2 : Nat) : Nat → Int → Mem → (Mem → Prop) → (Bool → Mem → Prop) → Prop
  | 0, _,  _, _, _ => bump False
  | N + 1, x_4,  m, k0, kr => R30_2 x_0 b_2 o_2 x_4 m (fun x_4' m' => L30_2 x_0 b_2 o_2 N x_4' m' k0 kr) k0 kr

/-- pianola/pianolaref3.find -/
def F30 (x_0 : Int) (m : Mem) (k : (Nat → AV) → Bool → Mem → Prop) : Prop :=
  newK m ⟨4, lget [(.flat (.int .i64 0)), (.flat (.int .i64 0)), (.flat (.int .i64 0)), (.flat (.string ⟨#[]⟩))], 51, false⟩ fun b2 m1 => ∃ N37, L30_2 x_0 b2 0 N37 0 m1 (fun m34 => stG 4 m34 b2 0 (lget [(.flat (.int .i64 0)), (.flat (.int .i64 0)), (.flat (.int .i64 0)), (.flat (.string ⟨#[]⟩))]) fun m38 => ldG 4 m38 b2 0 fun c40 => (Keeps m m38 ∧ (InDomG 4 m c40 ∧ True) ∧ k c40 false m)) (fun x35 m36 => ldG 4 m36 b2 0 fun c39 => (Keeps m m36 ∧ (InDomG 4 m c39 ∧ True) ∧ k c39 x35 m))

def G30 (args : List AV) (m : Mem) (k : KV) : Prop := match args with
  | [a0] => kI .i64 a0 fun x_0 => F30 x_0 m (fun c_1000 x_1001 m' => k (.tup [(.agg 4 c_1000), (.flat (.bool x_1001))]) m')
  | _ => False

def E30 : Env := envOf [(40, G40), (41, G41), (42, G42)]

def Lam30_2 (σ : Nat → AV) (m : Mem) (k : KX) : Prop := kI .i64 (σ 0) fun x_0 => kptr (σ 2) fun b_2 o_2 => kI .i64 (σ 4) fun x_4 => ∃ N, L30_2 x_0 b_2 o_2 N x_4 m (fun m' => k (.exit 0) (only [2] [(.ptr b_2 o_2)]) m') (fun x_3' m' => k .ret (only [2, 3] [(.ptr b_2 o_2), (.flat (.bool x_3'))]) m')

def LamP30_9102 (σ : Nat → AV) (m : Mem) (k : KX) : Prop := kI .i64 (σ 0) fun x_0 => kptr (σ 2) fun b_2 o_2 => kI .i64 (σ 4) fun x_4 => P30_9102 x_0 b_2 o_2 x_4 (σ 5) m (fun m' => k .normal (only [0, 2, 4] [(.flat (.int .i64 x_0)), (.ptr b_2 o_2), (.flat (.int .i64 x_4))]) m') (fun x_3' m' => k .ret (only [2, 3] [(.ptr b_2 o_2), (.flat (.bool x_3'))]) m')

def Lam30_10 (σ : Nat → AV) (m : Mem) (k : KX) : Prop := kI .i64 (σ 0) fun x_0 => kptr (σ 2) fun b_2 o_2 => kI .i64 (σ 4) fun x_4 => kI .i64 (σ 6) fun x_6 => ∃ N, L30_10 x_0 b_2 o_2 x_4 (σ 5) N x_6 m (fun m' => k (.exit 2) (only [0, 2, 4] [(.flat (.int .i64 x_0)), (.ptr b_2 o_2), (.flat (.int .i64 x_4))]) m') (fun x_3' m' => k .ret (only [2, 3] [(.ptr b_2 o_2), (.flat (.bool x_3'))]) m')

def Lam30 : LEnv := ⟨fun a σ m k => match firstReg a with
  | some 2 => Lam30_2 σ m k
  | some 10 => Lam30_10 σ m k
  | _ => bump False,
  fun id => match id with
  | _ => bump false,
  fun b => match keyC b with
  | some 9102 => true
  | _ => bump false,
  fun b σ m k => match keyC b with
  | some 9102 => LamP30_9102 σ m k
  | _ => bump False⟩

def lx30_10 : Ex → List Nat := fun e => match e with
  | .exit 2 => [0, 2, 4]
  | .ret => [2, 3]
  | _ => []

theorem round30_10 (x_0 : Int) (b_2 o_2 : Nat) (x_4 : Int) (v_5 : AV) (x_6 : Int) (m : Mem) (G : List AV → Mem → Prop) (k : KX) : (wpA Try.prog E30 Lam30 ((loopsOf (bodyOf Try.f30)).getD 1 .skip) (only [0, 2, 4, 5, 6] [(.flat (.int .i64 x_0)), (.ptr b_2 o_2), (.flat (.int .i64 x_4)), v_5, (.flat (.int .i64 x_6))]) m fun e σ' m' => match e with
    | .normal => G ([0, 2, 4, 5, 6].map σ') m'
    | .exit id => k (.exit id) (only (lx30_10 (.exit id)) ((lx30_10 (.exit id)).map σ')) m'
    | .ret => k .ret (only (lx30_10 .ret) ((lx30_10 .ret).map σ')) m') = R30_10 x_0 b_2 o_2 x_4 v_5 x_6 m (fun x_6' m' => G [(.flat (.int .i64 x_0)), (.ptr b_2 o_2), (.flat (.int .i64 x_4)), v_5, (.flat (.int .i64 x_6'))] m') (fun m' => k (.exit 2) (only [0, 2, 4] [(.flat (.int .i64 x_0)), (.ptr b_2 o_2), (.flat (.int .i64 x_4))]) m') (fun x_3' m' => k .ret (only [2, 3] [(.ptr b_2 o_2), (.flat (.bool x_3'))]) m') := by
  kernel_rfl

theorem loop30_10 (x_0 : Int) (b_2 o_2 : Nat) (x_4 : Int) (v_5 : AV) (k : KX) : ∀ (N : Nat) (x_6 : Int) (m : Mem), rounds Try.prog E30 Lam30 [0, 2, 4, 5, 6] lx30_10 ((loopsOf (bodyOf Try.f30)).getD 1 .skip) N [(.flat (.int .i64 x_0)), (.ptr b_2 o_2), (.flat (.int .i64 x_4)), v_5, (.flat (.int .i64 x_6))] m k = L30_10 x_0 b_2 o_2 x_4 v_5 N x_6 m (fun m' => k (.exit 2) (only [0, 2, 4] [(.flat (.int .i64 x_0)), (.ptr b_2 o_2), (.flat (.int .i64 x_4))]) m') (fun x_3' m' => k .ret (only [2, 3] [(.ptr b_2 o_2), (.flat (.bool x_3'))]) m') := by
  intro N
  induction N with
  | zero => intros; rfl
  | succ N ih =>
    intro x_6 m
    refine (round30_10 x_0 b_2 o_2 x_4 v_5 x_6 m (fun vs m' => rounds Try.prog E30 Lam30 [0, 2, 4, 5, 6] lx30_10 ((loopsOf (bodyOf Try.f30)).getD 1 .skip) N vs m' k) k).trans ?_
    simp only [ih]
    rfl

theorem lok30_10 : LoopOK Try.prog E30 Lam30 ((loopsOf (bodyOf Try.f30)).getD 1 .skip) := by
  refine ⟨fun σ => ∃ x_0 b_2 o_2 x_4 v_5 x_6, σ 0 = .flat (.int .i64 x_0) ∧ σ 2 = .ptr b_2 o_2 ∧ σ 4 = .flat (.int .i64 x_4) ∧ σ 5 = v_5 ∧ σ 6 = .flat (.int .i64 x_6), [0, 2, 4, 5, 6], lx30_10, fun σ m k => ?_⟩
  have e : Lam30.loop ((loopsOf (bodyOf Try.f30)).getD 1 .skip) σ m k = Lam30_10 σ m k := by kernel_rfl
  rw [e]
  constructor
  · intro h
    unfold Lam30_10 at h
    obtain ⟨x_0, h0, h⟩ := kI_ok h
    obtain ⟨b_2, o_2, h1, h⟩ := kptr_ok h
    obtain ⟨x_4, h2, h⟩ := kI_ok h
    obtain ⟨v_5, h3⟩ : ∃ v, σ 5 = v := ⟨_, rfl⟩
    obtain ⟨x_6, h4, h⟩ := kI_ok h
    obtain ⟨N, h⟩ := h
    refine ⟨⟨x_0, b_2, o_2, x_4, v_5, x_6, h0, h1, h2, h3, h4⟩, N, ?_⟩
    have ev : [0, 2, 4, 5, 6].map σ = [(.flat (.int .i64 x_0)), (.ptr b_2 o_2), (.flat (.int .i64 x_4)), v_5, (.flat (.int .i64 x_6))] := by simp only [List.map_cons, List.map_nil, h0, h1, h2, h3, h4]
    rw [ev, loop30_10]
    simp only [h3] at h
    exact h
  · rintro ⟨⟨x_0, b_2, o_2, x_4, v_5, x_6, h0, h1, h2, h3, h4⟩, N, h⟩
    have ev : [0, 2, 4, 5, 6].map σ = [(.flat (.int .i64 x_0)), (.ptr b_2 o_2), (.flat (.int .i64 x_4)), v_5, (.flat (.int .i64 x_6))] := by simp only [List.map_cons, List.map_nil, h0, h1, h2, h3, h4]
    rw [ev, loop30_10] at h
    unfold Lam30_10
    try simp only [h0, h1, h2, h3, h4, kI, kbool, kS, kptr, kaggN, kite, decide_true, eq_self]
    exact ⟨N, h⟩

def lxp30_9102 : Ex → List Nat := fun e => match e with
  | .normal => [0, 2, 4]
  | .ret => [2, 3]
  | _ => []

theorem pc30_9102 (x_0 : Int) (b_2 o_2 : Nat) (x_4 : Int) (v_5 : AV) (m : Mem) (k : KX) : once Try.prog E30 Lam30 [0, 2, 4, 5] lxp30_9102 (((secsOf (bodyOf Try.f30)).filter Lam30.cut).getD 0 .skip) [(.flat (.int .i64 x_0)), (.ptr b_2 o_2), (.flat (.int .i64 x_4)), v_5] m k = P30_9102 x_0 b_2 o_2 x_4 v_5 m (fun m' => k .normal (only [0, 2, 4] [(.flat (.int .i64 x_0)), (.ptr b_2 o_2), (.flat (.int .i64 x_4))]) m') (fun x_3' m' => k .ret (only [2, 3] [(.ptr b_2 o_2), (.flat (.bool x_3'))]) m') := by
  kernel_rfl

theorem pok30_9102 : PieceOK Try.prog E30 Lam30 (((secsOf (bodyOf Try.f30)).filter Lam30.cut).getD 0 .skip) := by
  refine ⟨fun σ => ∃ x_0 b_2 o_2 x_4 v_5, σ 0 = .flat (.int .i64 x_0) ∧ σ 2 = .ptr b_2 o_2 ∧ σ 4 = .flat (.int .i64 x_4) ∧ σ 5 = v_5, [0, 2, 4, 5], lxp30_9102, fun σ m k => ?_⟩
  have e : Lam30.piece (((secsOf (bodyOf Try.f30)).filter Lam30.cut).getD 0 .skip) σ m k = LamP30_9102 σ m k := by kernel_rfl
  rw [e]
  constructor
  · intro h
    unfold LamP30_9102 at h
    obtain ⟨x_0, h0, h⟩ := kI_ok h
    obtain ⟨b_2, o_2, h1, h⟩ := kptr_ok h
    obtain ⟨x_4, h2, h⟩ := kI_ok h
    obtain ⟨v_5, h3⟩ : ∃ v, σ 5 = v := ⟨_, rfl⟩
    refine ⟨⟨x_0, b_2, o_2, x_4, v_5, h0, h1, h2, h3⟩, ?_⟩
    have ev : [0, 2, 4, 5].map σ = [(.flat (.int .i64 x_0)), (.ptr b_2 o_2), (.flat (.int .i64 x_4)), v_5] := by simp only [List.map_cons, List.map_nil, h0, h1, h2, h3]
    rw [ev, pc30_9102]
    simp only [h3] at h
    exact h
  · rintro ⟨⟨x_0, b_2, o_2, x_4, v_5, h0, h1, h2, h3⟩, h⟩
    have ev : [0, 2, 4, 5].map σ = [(.flat (.int .i64 x_0)), (.ptr b_2 o_2), (.flat (.int .i64 x_4)), v_5] := by simp only [List.map_cons, List.map_nil, h0, h1, h2, h3]
    rw [ev, pc30_9102] at h
    unfold LamP30_9102
    try simp only [h0, h1, h2, h3, kI, kbool, kS, kptr, kaggN, kite, decide_true, eq_self]
    exact h

def lx30_2 : Ex → List Nat := fun e => match e with
  | .exit 0 => [2]
  | .ret => [2, 3]
  | _ => []

theorem round30_2 (x_0 : Int) (b_2 o_2 : Nat) (x_4 : Int) (m : Mem) (G : List AV → Mem → Prop) (k : KX) : (wpA Try.prog E30 Lam30 ((loopsOf (bodyOf Try.f30)).getD 0 .skip) (only [0, 2, 4] [(.flat (.int .i64 x_0)), (.ptr b_2 o_2), (.flat (.int .i64 x_4))]) m fun e σ' m' => match e with
    | .normal => G ([0, 2, 4].map σ') m'
    | .exit id => k (.exit id) (only (lx30_2 (.exit id)) ((lx30_2 (.exit id)).map σ')) m'
    | .ret => k .ret (only (lx30_2 .ret) ((lx30_2 .ret).map σ')) m') = R30_2 x_0 b_2 o_2 x_4 m (fun x_4' m' => G [(.flat (.int .i64 x_0)), (.ptr b_2 o_2), (.flat (.int .i64 x_4'))] m') (fun m' => k (.exit 0) (only [2] [(.ptr b_2 o_2)]) m') (fun x_3' m' => k .ret (only [2, 3] [(.ptr b_2 o_2), (.flat (.bool x_3'))]) m') := by
  kernel_rfl

theorem loop30_2 (x_0 : Int) (b_2 o_2 : Nat) (k : KX) : ∀ (N : Nat) (x_4 : Int) (m : Mem), rounds Try.prog E30 Lam30 [0, 2, 4] lx30_2 ((loopsOf (bodyOf Try.f30)).getD 0 .skip) N [(.flat (.int .i64 x_0)), (.ptr b_2 o_2), (.flat (.int .i64 x_4))] m k = L30_2 x_0 b_2 o_2 N x_4 m (fun m' => k (.exit 0) (only [2] [(.ptr b_2 o_2)]) m') (fun x_3' m' => k .ret (only [2, 3] [(.ptr b_2 o_2), (.flat (.bool x_3'))]) m') := by
  intro N
  induction N with
  | zero => intros; rfl
  | succ N ih =>
    intro x_4 m
    refine (round30_2 x_0 b_2 o_2 x_4 m (fun vs m' => rounds Try.prog E30 Lam30 [0, 2, 4] lx30_2 ((loopsOf (bodyOf Try.f30)).getD 0 .skip) N vs m' k) k).trans ?_
    simp only [ih]
    rfl

theorem lok30_2 : LoopOK Try.prog E30 Lam30 ((loopsOf (bodyOf Try.f30)).getD 0 .skip) := by
  refine ⟨fun σ => ∃ x_0 b_2 o_2 x_4, σ 0 = .flat (.int .i64 x_0) ∧ σ 2 = .ptr b_2 o_2 ∧ σ 4 = .flat (.int .i64 x_4), [0, 2, 4], lx30_2, fun σ m k => ?_⟩
  have e : Lam30.loop ((loopsOf (bodyOf Try.f30)).getD 0 .skip) σ m k = Lam30_2 σ m k := by kernel_rfl
  rw [e]
  constructor
  · intro h
    unfold Lam30_2 at h
    obtain ⟨x_0, h0, h⟩ := kI_ok h
    obtain ⟨b_2, o_2, h1, h⟩ := kptr_ok h
    obtain ⟨x_4, h2, h⟩ := kI_ok h
    obtain ⟨N, h⟩ := h
    refine ⟨⟨x_0, b_2, o_2, x_4, h0, h1, h2⟩, N, ?_⟩
    have ev : [0, 2, 4].map σ = [(.flat (.int .i64 x_0)), (.ptr b_2 o_2), (.flat (.int .i64 x_4))] := by simp only [List.map_cons, List.map_nil, h0, h1, h2]
    rw [ev, loop30_2]
    exact h
  · rintro ⟨⟨x_0, b_2, o_2, x_4, h0, h1, h2⟩, N, h⟩
    have ev : [0, 2, 4].map σ = [(.flat (.int .i64 x_0)), (.ptr b_2 o_2), (.flat (.int .i64 x_4))] := by simp only [List.map_cons, List.map_nil, h0, h1, h2]
    rw [ev, loop30_2] at h
    unfold Lam30_2
    try simp only [h0, h1, h2, kI, kbool, kS, kptr, kaggN, kite, decide_true, eq_self]
    exact ⟨N, h⟩

theorem eqn30 (x_0 : Int) (m : Mem) (k : KV) : bodyK Try.prog E30 Lam30 Try.f30 true [(.flat (.int .i64 x_0))] m k = F30 x_0 m (fun c_1000 x_1001 m' => k (.tup [(.agg 4 c_1000), (.flat (.bool x_1001))]) m') := by
  kernel_rfl

theorem fs30 (w0 : World) : FS Try.prog w0 30 G30 := by
  refine (fs_body (Γ := E30) (sound_env (l := [(40, G40), (41, G41), (42, G42)]) w0 (by
    intro p hp
    simp only [List.mem_cons, List.not_mem_nil, or_false] at hp
    rcases hp with rfl | rfl | rfl
    · exact fs40 w0
    · exact fs41 w0
    · exact fs42 w0)) (by kernel_rfl) Try.func30 (Λ := Lam30) (c := (bodyOf Try.f30)) (by kernel_rfl) Try.call30 (by kernel_rfl) (LS_of (bodyOf Try.f30) 2 (by kernel_rfl) (by
    intro i hi
    match i, hi with
    | 0, _ => exact lok30_2
    | 1, _ => exact lok30_10
    | i + 2, hi => omega) 1 (by kernel_rfl) (by
    intro i hi
    match i, hi with
    | 0, _ => exact pok30_9102
    | i + 1, hi => omega)) true (np := 1) (Nat.le_of_ble_eq_true (by kernel_rfl))).imp fun args => ?_
  by_cases hl : args.length = 1
  rotate_left
  · exact .inr fun m k hk => by
      unfold G30 at hk
      split at hk
      · exact hl rfl
      · exact hk
  obtain ⟨a0, rfl⟩ : ∃ a0, args = [a0] := len_list1 hl
  rcases kI_or .i64 a0 with ⟨x_0, rfl⟩ | h
  rotate_left
  · exact .inr fun m k hk => h _ (by simpa only [G30, kI, kbool, kS, kptr, kaggN, kite, decide_true, eq_self] using hk)
  exact .inl fun m k => propext ⟨fun h => ⟨rfl, by rw [eqn30]; simpa only [G30, kI, kbool, kS, kptr, kaggN, kite, decide_true, eq_self] using h⟩, fun h => by have h := h.2; rw [eqn30] at h; simpa only [G30, kI, kbool, kS, kptr, kaggN, kite, decide_true, eq_self] using h⟩

/-- pianola/pianolaref3.small -/
def F31 (x_0 : Int) (x_1 : Bool) (m : Mem) (k : Bool → Mem → Prop) : Prop :=
  kif (x_0 == 0) ((Keeps m m ∧ k true m)) (kif x_1 (kif (decide (x_0 > 0)) ((Keeps m m ∧ k (decide (x_0 < 32)) m)) ((Keeps m m ∧ k false m))) ((Keeps m m ∧ k false m)))

def G31 (args : List AV) (m : Mem) (k : KV) : Prop := match args with
  | [a0, a1] => kI .i64 a0 fun x_0 => kbool a1 fun x_1 => F31 x_0 x_1 m (fun x_1000 m' => k (.flat (.bool x_1000)) m')
  | _ => False

def E31 : Env := envOf []

def Lam31 : LEnv := ⟨fun a σ m k => match firstReg a with
  | _ => bump False,
  fun id => match id with
  | _ => bump false,
  fun b => match keyC b with
  | _ => bump false,
  fun b σ m k => match keyC b with
  | _ => bump False⟩

theorem eqn31 (x_0 : Int) (x_1 : Bool) (m : Mem) (k : KV) : bodyK Try.prog E31 Lam31 Try.f31 true [(.flat (.int .i64 x_0)), (.flat (.bool x_1))] m k = F31 x_0 x_1 m (fun x_1000 m' => k (.flat (.bool x_1000)) m') := by
  kernel_rfl

theorem fs31 (w0 : World) : FS Try.prog w0 31 G31 := by
  refine (fs_body (Γ := E31) (sound_env (l := []) w0 (by
    intro p hp
    cases hp)) (by kernel_rfl) Try.func31 (Λ := Lam31) (c := (bodyOf Try.f31)) (by kernel_rfl) Try.call31 (by kernel_rfl) (LS_of (bodyOf Try.f31) 0 (by kernel_rfl) (fun i hi => absurd hi (Nat.not_lt_zero i)) 0 (by kernel_rfl) (fun i hi => absurd hi (Nat.not_lt_zero i))) true (np := 2) (Nat.le_of_ble_eq_true (by kernel_rfl))).imp fun args => ?_
  by_cases hl : args.length = 2
  rotate_left
  · exact .inr fun m k hk => by
      unfold G31 at hk
      split at hk
      · exact hl rfl
      · exact hk
  obtain ⟨a0, a1, rfl⟩ : ∃ a0 a1, args = [a0, a1] := len_list2 hl
  rcases kI_or .i64 a0 with ⟨x_0, rfl⟩ | h
  rotate_left
  · exact .inr fun m k hk => h _ (by simpa only [G31, kI, kbool, kS, kptr, kaggN, kite, decide_true, eq_self] using hk)
  rcases kbool_or a1 with ⟨x_1, rfl⟩ | h
  rotate_left
  · exact .inr fun m k hk => h _ (by simpa only [G31, kI, kbool, kS, kptr, kaggN, kite, decide_true, eq_self] using hk)
  exact .inl fun m k => propext ⟨fun h => ⟨rfl, by rw [eqn31]; simpa only [G31, kI, kbool, kS, kptr, kaggN, kite, decide_true, eq_self] using h⟩, fun h => by have h := h.2; rw [eqn31] at h; simpa only [G31, kI, kbool, kS, kptr, kaggN, kite, decide_true, eq_self] using h⟩

def P19_10102 (b_1 o_1 : Nat) (x_5 : ByteArray) (x_6 : Int) (m : Mem) (kr : Bool → Mem → Prop) : Prop :=
  ∃ Fr15 : Nat → Prop, Fr15 b_1 ∧ (ldI .i64 m b_1 (o_1 + 1) fun x16 => F29 x_5 115 m fun x17 m18 => KeepsIn Fr15 m m18 ∧ (F31 x16 x17 m18 fun x19 m20 => KeepsIn Fr15 m18 m20 ∧ (kif x19 (Fr15 b_1 ∧ (ldI .i64 m20 b_1 (o_1 + 2) fun x21 => F29 x_5 116 m20 fun x22 m23 => KeepsIn Fr15 m20 m23 ∧ (F31 x21 x22 m23 fun x24 m25 => KeepsIn Fr15 m23 m25 ∧ (kif x24 (Fr15 b_1 ∧ (ldI .i64 m25 b_1 (o_1 + 3) fun x26 => F29 x_5 100 m25 fun x27 m28 => KeepsIn Fr15 m25 m28 ∧ (F31 x26 x27 m28 fun x29 m30 => KeepsIn Fr15 m28 m30 ∧ (kif x29 (Fr15 b_1 ∧ (ldI .i64 m30 b_1 (o_1 + 4) fun x31 => F29 x_5 104 m30 fun x32 m33 => KeepsIn Fr15 m30 m33 ∧ (F31 x31 x32 m33 fun x34 m35 => KeepsIn Fr15 m33 m35 ∧ (kif x34 (Fr15 b_1 ∧ (ldI .u32 m35 b_1 (o_1 + 5) fun x36 => kr (decide (x36 ≤ x_6)) m35)) (kr false m35))))) (kr false m30))))) (kr false m25))))) (kr false m20))))

/-- pianola/pianolaref3.Right -/
def F19 (c_0 : Nat → AV) (m : Mem) (k : Bool → Mem → Prop) : Prop :=
  newK m ⟨6, c_0, 27, false⟩ fun b2 m1 => ldI .i64 m1 b2 0 fun x3 => F30 x3 m1 fun c4 x5 m6 => newK m6 ⟨4, lget [(.flat (.int .i64 0)), (.flat (.int .i64 0)), (.flat (.int .i64 0)), (.flat (.string ⟨#[]⟩))], 51, false⟩ fun b8 m7 => stG 4 m7 b8 0 c4 fun m9 => kif (!x5) ((Keeps m m9 ∧ k false m)) (ldS m9 b8 3 fun x10 => F29 x10 105 m9 fun x11 m12 => kif x11 (P19_10102 b2 0 x10 65535 m12 (fun x37 m38 => (Keeps m m38 ∧ k x37 m))) (F29 x10 106 m12 fun x13 m14 => kif x13 (P19_10102 b2 0 x10 67108863 m14 (fun x39 m40 => (Keeps m m40 ∧ k x39 m))) (P19_10102 b2 0 x10 0 m14 (fun x41 m42 => (Keeps m m42 ∧ k x41 m)))))

def G19 (args : List AV) (m : Mem) (k : KV) : Prop := match args with
  | [a0] => kaggN 6 a0 fun c_0 => F19 c_0 m (fun x_1000 m' => k (.flat (.bool x_1000)) m')
  | _ => False

def E19 : Env := envOf [(29, G29), (30, G30), (31, G31)]

def LamP19_10102 (σ : Nat → AV) (m : Mem) (k : KX) : Prop := kptr (σ 1) fun b_1 o_1 => kS (σ 5) fun x_5 => kI .u32 (σ 6) fun x_6 => P19_10102 b_1 o_1 x_5 x_6 m (fun x_2' m' => k .ret (only [2] [(.flat (.bool x_2'))]) m')

def Lam19 : LEnv := ⟨fun a σ m k => match firstReg a with
  | _ => bump False,
  fun id => match id with
  | 10 => true
  | _ => bump false,
  fun b => match keyC b with
  | some 10102 => true
  | _ => bump false,
  fun b σ m k => match keyC b with
  | some 10102 => LamP19_10102 σ m k
  | _ => bump False⟩

def lxp19_10102 : Ex → List Nat := fun e => match e with
  | .ret => [2]
  | _ => []

theorem pc19_10102 (b_1 o_1 : Nat) (x_5 : ByteArray) (x_6 : Int) (m : Mem) (k : KX) : once Try.prog E19 Lam19 [1, 5, 6] lxp19_10102 (((secsOf (bodyOf Try.f19)).filter Lam19.cut).getD 0 .skip) [(.ptr b_1 o_1), (.flat (.string x_5)), (.flat (.int .u32 x_6))] m k = P19_10102 b_1 o_1 x_5 x_6 m (fun x_2' m' => k .ret (only [2] [(.flat (.bool x_2'))]) m') := by
  kernel_rfl

theorem pok19_10102 : PieceOK Try.prog E19 Lam19 (((secsOf (bodyOf Try.f19)).filter Lam19.cut).getD 0 .skip) := by
  refine ⟨fun σ => ∃ b_1 o_1 x_5 x_6, σ 1 = .ptr b_1 o_1 ∧ σ 5 = .flat (.string x_5) ∧ σ 6 = .flat (.int .u32 x_6), [1, 5, 6], lxp19_10102, fun σ m k => ?_⟩
  have e : Lam19.piece (((secsOf (bodyOf Try.f19)).filter Lam19.cut).getD 0 .skip) σ m k = LamP19_10102 σ m k := by kernel_rfl
  rw [e]
  constructor
  · intro h
    unfold LamP19_10102 at h
    obtain ⟨b_1, o_1, h0, h⟩ := kptr_ok h
    obtain ⟨x_5, h1, h⟩ := kS_ok h
    obtain ⟨x_6, h2, h⟩ := kI_ok h
    refine ⟨⟨b_1, o_1, x_5, x_6, h0, h1, h2⟩, ?_⟩
    have ev : [1, 5, 6].map σ = [(.ptr b_1 o_1), (.flat (.string x_5)), (.flat (.int .u32 x_6))] := by simp only [List.map_cons, List.map_nil, h0, h1, h2]
    rw [ev, pc19_10102]
    exact h
  · rintro ⟨⟨b_1, o_1, x_5, x_6, h0, h1, h2⟩, h⟩
    have ev : [1, 5, 6].map σ = [(.ptr b_1 o_1), (.flat (.string x_5)), (.flat (.int .u32 x_6))] := by simp only [List.map_cons, List.map_nil, h0, h1, h2]
    rw [ev, pc19_10102] at h
    unfold LamP19_10102
    try simp only [h0, h1, h2, kI, kbool, kS, kptr, kaggN, kite, decide_true, eq_self]
    exact h

theorem eqn19 (c_0 : Nat → AV) (m : Mem) (k : KV) : bodyK Try.prog E19 Lam19 Try.f19 true [(.agg 6 c_0)] m k = F19 c_0 m (fun x_1000 m' => k (.flat (.bool x_1000)) m') := by
  kernel_rfl

theorem fs19 (w0 : World) : FS Try.prog w0 19 G19 := by
  refine (fs_body (Γ := E19) (sound_env (l := [(29, G29), (30, G30), (31, G31)]) w0 (by
    intro p hp
    simp only [List.mem_cons, List.not_mem_nil, or_false] at hp
    rcases hp with rfl | rfl | rfl
    · exact fs29 w0
    · exact fs30 w0
    · exact fs31 w0)) (by kernel_rfl) Try.func19 (Λ := Lam19) (c := (bodyOf Try.f19)) (by kernel_rfl) Try.call19 (by kernel_rfl) (LS_of (bodyOf Try.f19) 0 (by kernel_rfl) (fun i hi => absurd hi (Nat.not_lt_zero i)) 1 (by kernel_rfl) (by
    intro i hi
    match i, hi with
    | 0, _ => exact pok19_10102
    | i + 1, hi => omega)) true (np := 1) (Nat.le_of_ble_eq_true (by kernel_rfl))).imp fun args => ?_
  by_cases hl : args.length = 1
  rotate_left
  · exact .inr fun m k hk => by
      unfold G19 at hk
      split at hk
      · exact hl rfl
      · exact hk
  obtain ⟨a0, rfl⟩ : ∃ a0, args = [a0] := len_list1 hl
  rcases kaggN_or 6 a0 with ⟨c_0, rfl⟩ | h
  rotate_left
  · exact .inr fun m k hk => h _ (by simpa only [G19, kI, kbool, kS, kptr, kaggN, kite, decide_true, eq_self] using hk)
  exact .inl fun m k => propext ⟨fun h => ⟨rfl, by rw [eqn19]; simpa only [G19, kI, kbool, kS, kptr, kaggN, kite, decide_true, eq_self] using h⟩, fun h => by have h := h.2; rw [eqn19] at h; simpa only [G19, kI, kbool, kS, kptr, kaggN, kite, decide_true, eq_self] using h⟩

def P18_10004 (b_4 o_4 : Nat) (x_6 : Int) (x_67 : Bool) (m : Mem) (kn : Int → Mem → Prop) : Prop :=
  kif x_67 (ldI .i64 m b_4 (o_4 + 1) fun x26 => kn (bits .or .u32 (bits .or .u32 x_6 33554432) (IntKind.wrap .u32 (IntKind.wrap .i64 (x26 - 64)))) m) (ldI .i64 m b_4 (o_4 + 0) fun x27 => kif (x27 == 16) (ldI .i64 m b_4 (o_4 + 1) fun x28 => kn (bits .or .u32 x_6 (IntKind.wrap .u32 ((IntKind.wrap .u32 x28) * 2097152))) m) (kn x_6 m))

def P18_6004 (b_4 o_4 : Nat) (x_6 : Int) (x_43 : Bool) (m : Mem) (kn : Int → Mem → Prop) : Prop :=
  kif x_43 (ldI .i64 m b_4 (o_4 + 1) fun x21 => kn (bits .or .u32 x_6 (IntKind.wrap .u32 x21)) m) (ldI .i64 m b_4 (o_4 + 0) fun x22 => kif (x22 == 1) (ldI .i64 m b_4 (o_4 + 1) fun x23 => kn (bits .or .u32 x_6 (IntKind.wrap .u32 ((IntKind.wrap .u32 x23) * 65536))) m) (ldI .i64 m b_4 (o_4 + 0) fun x24 => kif (x24 == 16) (ldI .i64 m b_4 (o_4 + 1) fun x25 => P18_10004 b_4 o_4 x_6 (decide (x25 ≥ 64)) m (fun x29 m30 => kn x29 m30)) (P18_10004 b_4 o_4 x_6 false m (fun x31 m32 => kn x31 m32))))

/-- pianola/pianolaref3.Word -/
def F18 (c_0 : Nat → AV) (m : Mem) (k : Int → Bool → Mem → Prop) : Prop :=
  newK m ⟨6, c_0, 27, false⟩ fun b2 m1 => ldG 6 m1 b2 0 fun c3 => F19 c3 m1 fun x4 m5 => kif (!x4) ((Keeps m m5 ∧ k 0 false m)) (ldI .i64 m5 b2 0 fun x6 => F30 x6 m5 fun c7 x8 m9 => newK m9 ⟨4, lget [(.flat (.int .i64 0)), (.flat (.int .i64 0)), (.flat (.int .i64 0)), (.flat (.string ⟨#[]⟩))], 51, false⟩ fun b11 m10 => stG 4 m10 b11 0 c7 fun m12 => ldI .i64 m12 b11 0 fun x13 => ldI .i64 m12 b2 1 fun x14 => ldI .i64 m12 b2 2 fun x15 => ldI .i64 m12 b2 3 fun x16 => ldI .i64 m12 b2 4 fun x17 => ldI .u32 m12 b2 5 fun x18 => ldI .i64 m12 b11 0 fun x19 => kif (x19 == 0) (P18_6004 b11 0 (bits .or .u32 (bits .or .u32 (bits .or .u32 (bits .or .u32 (bits .or .u32 (IntKind.wrap .u32 ((IntKind.wrap .u32 x13) * 67108864)) (IntKind.wrap .u32 ((IntKind.wrap .u32 x14) * 2097152))) (IntKind.wrap .u32 ((IntKind.wrap .u32 x15) * 65536))) (IntKind.wrap .u32 ((IntKind.wrap .u32 x16) * 2048))) (IntKind.wrap .u32 ((IntKind.wrap .u32 x17) * 64))) x18) true m12 (fun x33 m34 => (Keeps m m34 ∧ k x33 true m))) (ldI .i64 m12 b11 0 fun x20 => P18_6004 b11 0 (bits .or .u32 (bits .or .u32 (bits .or .u32 (bits .or .u32 (bits .or .u32 (IntKind.wrap .u32 ((IntKind.wrap .u32 x13) * 67108864)) (IntKind.wrap .u32 ((IntKind.wrap .u32 x14) * 2097152))) (IntKind.wrap .u32 ((IntKind.wrap .u32 x15) * 65536))) (IntKind.wrap .u32 ((IntKind.wrap .u32 x16) * 2048))) (IntKind.wrap .u32 ((IntKind.wrap .u32 x17) * 64))) x18) (x20 == 28) m12 (fun x35 m36 => (Keeps m m36 ∧ k x35 true m))))

def G18 (args : List AV) (m : Mem) (k : KV) : Prop := match args with
  | [a0] => kaggN 6 a0 fun c_0 => F18 c_0 m (fun x_1000 x_1001 m' => k (.tup [(.flat (.int .u32 x_1000)), (.flat (.bool x_1001))]) m')
  | _ => False

def E18 : Env := envOf [(19, G19), (30, G30)]

def LamP18_6004 (σ : Nat → AV) (m : Mem) (k : KX) : Prop := kptr (σ 4) fun b_4 o_4 => kI .u32 (σ 6) fun x_6 => kbool (σ 43) fun x_43 => P18_6004 b_4 o_4 x_6 x_43 m (fun x_6' m' => k .normal (only [6] [(.flat (.int .u32 x_6'))]) m')

def LamP18_10004 (σ : Nat → AV) (m : Mem) (k : KX) : Prop := kptr (σ 4) fun b_4 o_4 => kI .u32 (σ 6) fun x_6 => kbool (σ 67) fun x_67 => P18_10004 b_4 o_4 x_6 x_67 m (fun x_6' m' => k .normal (only [6] [(.flat (.int .u32 x_6'))]) m')

def Lam18 : LEnv := ⟨fun a σ m k => match firstReg a with
  | _ => bump False,
  fun id => match id with
  | _ => bump false,
  fun b => match keyC b with
  | some 6004 => true
  | some 10004 => true
  | _ => bump false,
  fun b σ m k => match keyC b with
  | some 6004 => LamP18_6004 σ m k
  | some 10004 => LamP18_10004 σ m k
  | _ => bump False⟩

def lxp18_10004 : Ex → List Nat := fun e => match e with
  | .normal => [6]
  | _ => []

theorem pc18_10004 (b_4 o_4 : Nat) (x_6 : Int) (x_67 : Bool) (m : Mem) (k : KX) : once Try.prog E18 Lam18 [4, 6, 67] lxp18_10004 (((secsOf (bodyOf Try.f18)).filter Lam18.cut).getD 1 .skip) [(.ptr b_4 o_4), (.flat (.int .u32 x_6)), (.flat (.bool x_67))] m k = P18_10004 b_4 o_4 x_6 x_67 m (fun x_6' m' => k .normal (only [6] [(.flat (.int .u32 x_6'))]) m') := by
  kernel_rfl

theorem pok18_10004 : PieceOK Try.prog E18 Lam18 (((secsOf (bodyOf Try.f18)).filter Lam18.cut).getD 1 .skip) := by
  refine ⟨fun σ => ∃ b_4 o_4 x_6 x_67, σ 4 = .ptr b_4 o_4 ∧ σ 6 = .flat (.int .u32 x_6) ∧ σ 67 = .flat (.bool x_67), [4, 6, 67], lxp18_10004, fun σ m k => ?_⟩
  have e : Lam18.piece (((secsOf (bodyOf Try.f18)).filter Lam18.cut).getD 1 .skip) σ m k = LamP18_10004 σ m k := by kernel_rfl
  rw [e]
  constructor
  · intro h
    unfold LamP18_10004 at h
    obtain ⟨b_4, o_4, h0, h⟩ := kptr_ok h
    obtain ⟨x_6, h1, h⟩ := kI_ok h
    obtain ⟨x_67, h2, h⟩ := kbool_ok h
    refine ⟨⟨b_4, o_4, x_6, x_67, h0, h1, h2⟩, ?_⟩
    have ev : [4, 6, 67].map σ = [(.ptr b_4 o_4), (.flat (.int .u32 x_6)), (.flat (.bool x_67))] := by simp only [List.map_cons, List.map_nil, h0, h1, h2]
    rw [ev, pc18_10004]
    exact h
  · rintro ⟨⟨b_4, o_4, x_6, x_67, h0, h1, h2⟩, h⟩
    have ev : [4, 6, 67].map σ = [(.ptr b_4 o_4), (.flat (.int .u32 x_6)), (.flat (.bool x_67))] := by simp only [List.map_cons, List.map_nil, h0, h1, h2]
    rw [ev, pc18_10004] at h
    unfold LamP18_10004
    try simp only [h0, h1, h2, kI, kbool, kS, kptr, kaggN, kite, decide_true, eq_self]
    exact h

def lxp18_6004 : Ex → List Nat := fun e => match e with
  | .normal => [6]
  | _ => []

theorem pc18_6004 (b_4 o_4 : Nat) (x_6 : Int) (x_43 : Bool) (m : Mem) (k : KX) : once Try.prog E18 Lam18 [4, 6, 43] lxp18_6004 (((secsOf (bodyOf Try.f18)).filter Lam18.cut).getD 0 .skip) [(.ptr b_4 o_4), (.flat (.int .u32 x_6)), (.flat (.bool x_43))] m k = P18_6004 b_4 o_4 x_6 x_43 m (fun x_6' m' => k .normal (only [6] [(.flat (.int .u32 x_6'))]) m') := by
  kernel_rfl

theorem pok18_6004 : PieceOK Try.prog E18 Lam18 (((secsOf (bodyOf Try.f18)).filter Lam18.cut).getD 0 .skip) := by
  refine ⟨fun σ => ∃ b_4 o_4 x_6 x_43, σ 4 = .ptr b_4 o_4 ∧ σ 6 = .flat (.int .u32 x_6) ∧ σ 43 = .flat (.bool x_43), [4, 6, 43], lxp18_6004, fun σ m k => ?_⟩
  have e : Lam18.piece (((secsOf (bodyOf Try.f18)).filter Lam18.cut).getD 0 .skip) σ m k = LamP18_6004 σ m k := by kernel_rfl
  rw [e]
  constructor
  · intro h
    unfold LamP18_6004 at h
    obtain ⟨b_4, o_4, h0, h⟩ := kptr_ok h
    obtain ⟨x_6, h1, h⟩ := kI_ok h
    obtain ⟨x_43, h2, h⟩ := kbool_ok h
    refine ⟨⟨b_4, o_4, x_6, x_43, h0, h1, h2⟩, ?_⟩
    have ev : [4, 6, 43].map σ = [(.ptr b_4 o_4), (.flat (.int .u32 x_6)), (.flat (.bool x_43))] := by simp only [List.map_cons, List.map_nil, h0, h1, h2]
    rw [ev, pc18_6004]
    exact h
  · rintro ⟨⟨b_4, o_4, x_6, x_43, h0, h1, h2⟩, h⟩
    have ev : [4, 6, 43].map σ = [(.ptr b_4 o_4), (.flat (.int .u32 x_6)), (.flat (.bool x_43))] := by simp only [List.map_cons, List.map_nil, h0, h1, h2]
    rw [ev, pc18_6004] at h
    unfold LamP18_6004
    try simp only [h0, h1, h2, kI, kbool, kS, kptr, kaggN, kite, decide_true, eq_self]
    exact h

theorem eqn18 (c_0 : Nat → AV) (m : Mem) (k : KV) : bodyK Try.prog E18 Lam18 Try.f18 true [(.agg 6 c_0)] m k = F18 c_0 m (fun x_1000 x_1001 m' => k (.tup [(.flat (.int .u32 x_1000)), (.flat (.bool x_1001))]) m') := by
  kernel_rfl

theorem fs18 (w0 : World) : FS Try.prog w0 18 G18 := by
  refine (fs_body (Γ := E18) (sound_env (l := [(19, G19), (30, G30)]) w0 (by
    intro p hp
    simp only [List.mem_cons, List.not_mem_nil, or_false] at hp
    rcases hp with rfl | rfl
    · exact fs19 w0
    · exact fs30 w0)) (by kernel_rfl) Try.func18 (Λ := Lam18) (c := (bodyOf Try.f18)) (by kernel_rfl) Try.call18 (by kernel_rfl) (LS_of (bodyOf Try.f18) 0 (by kernel_rfl) (fun i hi => absurd hi (Nat.not_lt_zero i)) 2 (by kernel_rfl) (by
    intro i hi
    match i, hi with
    | 0, _ => exact pok18_6004
    | 1, _ => exact pok18_10004
    | i + 2, hi => omega)) true (np := 1) (Nat.le_of_ble_eq_true (by kernel_rfl))).imp fun args => ?_
  by_cases hl : args.length = 1
  rotate_left
  · exact .inr fun m k hk => by
      unfold G18 at hk
      split at hk
      · exact hl rfl
      · exact hk
  obtain ⟨a0, rfl⟩ : ∃ a0, args = [a0] := len_list1 hl
  rcases kaggN_or 6 a0 with ⟨c_0, rfl⟩ | h
  rotate_left
  · exact .inr fun m k hk => h _ (by simpa only [G18, kI, kbool, kS, kptr, kaggN, kite, decide_true, eq_self] using hk)
  exact .inl fun m k => propext ⟨fun h => ⟨rfl, by rw [eqn18]; simpa only [G18, kI, kbool, kS, kptr, kaggN, kite, decide_true, eq_self] using h⟩, fun h => by have h := h.2; rw [eqn18] at h; simpa only [G18, kI, kbool, kS, kptr, kaggN, kite, decide_true, eq_self] using h⟩

/-- pianola/pianolalaw3.insts -/
def F8 (c_0 : Nat → AV) (m : Mem) (k : Bool → Mem → Prop) : Prop :=
  newK m ⟨6, c_0, 27, false⟩ fun b2 m1 => ldG 6 m1 b2 0 fun c3 => F12 c3 m1 fun x4 x5 m6 => ldG 6 m6 b2 0 fun c7 => F18 c7 m6 fun x8 x9 m10 => ∃ Fr11 : Nat → Prop, kif (x4 == x8) (kif (x5 == x9) (Fr11 b2 ∧ (ldG 6 m10 b2 0 fun c12 => F14 c12 m10 fun x13 m14 => KeepsIn Fr11 m10 m14 ∧ (Fr11 b2 ∧ (ldG 6 m14 b2 0 fun c15 => F19 c15 m14 fun x16 m17 => KeepsIn Fr11 m14 m17 ∧ (kif (x13 == x16) (Fr11 b2 ∧ (ldG 6 m17 b2 0 fun c18 => F15 c18 m17 fun x19 m20 => KeepsIn Fr11 m17 m20 ∧ (Fr11 b2 ∧ (ldG 6 m20 b2 0 fun c21 => F17 c21 m20 fun x22 m23 => KeepsIn Fr11 m20 m23 ∧ ((Keeps m m23 ∧ k (x19 == x22) m)))))) ((Keeps m m17 ∧ k false m))))))) ((Keeps m m10 ∧ k false m))) ((Keeps m m10 ∧ k false m))

def G8 (args : List AV) (m : Mem) (k : KV) : Prop := match args with
  | [a0] => kaggN 6 a0 fun c_0 => F8 c_0 m (fun x_1000 m' => k (.flat (.bool x_1000)) m')
  | _ => False

def E8 : Env := envOf [(12, G12), (14, G14), (15, G15), (17, G17), (18, G18), (19, G19)]

def Lam8 : LEnv := ⟨fun a σ m k => match firstReg a with
  | _ => bump False,
  fun id => match id with
  | 3 => true
  | _ => bump false,
  fun b => match keyC b with
  | _ => bump false,
  fun b σ m k => match keyC b with
  | _ => bump False⟩

theorem eqn8 (c_0 : Nat → AV) (m : Mem) (k : KV) : bodyK Try.prog E8 Lam8 Try.f8 true [(.agg 6 c_0)] m k = F8 c_0 m (fun x_1000 m' => k (.flat (.bool x_1000)) m') := by
  kernel_rfl

theorem fs8 (w0 : World) : FS Try.prog w0 8 G8 := by
  refine (fs_body (Γ := E8) (sound_env (l := [(12, G12), (14, G14), (15, G15), (17, G17), (18, G18), (19, G19)]) w0 (by
    intro p hp
    simp only [List.mem_cons, List.not_mem_nil, or_false] at hp
    rcases hp with rfl | rfl | rfl | rfl | rfl | rfl
    · exact fs12 w0
    · exact fs14 w0
    · exact fs15 w0
    · exact fs17 w0
    · exact fs18 w0
    · exact fs19 w0)) (by kernel_rfl) Try.func8 (Λ := Lam8) (c := (bodyOf Try.f8)) (by kernel_rfl) Try.call8 (by kernel_rfl) (LS_of (bodyOf Try.f8) 0 (by kernel_rfl) (fun i hi => absurd hi (Nat.not_lt_zero i)) 0 (by kernel_rfl) (fun i hi => absurd hi (Nat.not_lt_zero i))) true (np := 1) (Nat.le_of_ble_eq_true (by kernel_rfl))).imp fun args => ?_
  by_cases hl : args.length = 1
  rotate_left
  · exact .inr fun m k hk => by
      unfold G8 at hk
      split at hk
      · exact hl rfl
      · exact hk
  obtain ⟨a0, rfl⟩ : ∃ a0, args = [a0] := len_list1 hl
  rcases kaggN_or 6 a0 with ⟨c_0, rfl⟩ | h
  rotate_left
  · exact .inr fun m k hk => h _ (by simpa only [G8, kI, kbool, kS, kptr, kaggN, kite, decide_true, eq_self] using hk)
  exact .inl fun m k => propext ⟨fun h => ⟨rfl, by rw [eqn8]; simpa only [G8, kI, kbool, kS, kptr, kaggN, kite, decide_true, eq_self] using h⟩, fun h => by have h := h.2; rw [eqn8] at h; simpa only [G8, kI, kbool, kS, kptr, kaggN, kite, decide_true, eq_self] using h⟩

end Go.Proofs.Ytmhlljnnpoegbaa.Am
