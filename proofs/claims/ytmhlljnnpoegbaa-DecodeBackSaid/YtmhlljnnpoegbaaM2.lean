/- What Go functions ask of what follows them, as plain functions over the abstract machine; the machine asks just that. Written by gen.py. -/
import Derived.Test.YtmhlljnnpoegbaaProg
import Derived.Test.YtmhlljnnpoegbaaAmL
import Derived.Test.YtmhlljnnpoegbaaM1
namespace Go.Proofs.Ytmhlljnnpoegbaa.Am
set_option linter.unusedVariables false
set_option linter.unusedSimpArgs false
set_option maxRecDepth 100000

/-- pianola/decode.Of -/
def F13 (x_0 : Int) (m : Mem) (k : (Nat → AV) → Mem → Prop) : Prop :=
  newK m ⟨6, Z6, 27, false⟩ fun b2 m1 => F26 x_0 m1 fun x3 m4 => F25 x3 x_0 m4 fun c5 m6 => stG 6 m6 b2 0 c5 fun m7 => ldG 6 m7 b2 0 fun c8 => (Keeps m m7 ∧ InDomG 6 m c8 ∧ k c8 m)

def G13 (args : List AV) (m : Mem) (k : KV) : Prop := match args with
  | [a0] => kI .u32 a0 fun x_0 => F13 x_0 m (fun c_1000 m' => k (.agg 6 c_1000) m')
  | _ => False

def E13 : Env := envOf [(25, G25), (26, G26)]

def Lam13 : LEnv := ⟨fun a σ m k => match firstReg a with
  | _ => bump False,
  fun id => match id with
  | _ => bump false,
  fun b => match keyC b with
  | _ => bump false,
  fun b σ m k => match keyC b with
  | _ => bump False⟩

theorem eqn13 (x_0 : Int) (m : Mem) (k : KV) : bodyK Try.prog E13 Lam13 Try.f13 true [(.flat (.int .u32 x_0))] m k = F13 x_0 m (fun c_1000 m' => k (.agg 6 c_1000) m') := by
  kernel_rfl

theorem fs13 (w0 : World) : FS Try.prog w0 13 G13 := by
  refine (fs_body (Γ := E13) (sound_env (l := [(25, G25), (26, G26)]) w0 (by
    intro p hp
    simp only [List.mem_cons, List.not_mem_nil, or_false] at hp
    rcases hp with rfl | rfl
    · exact fs25 w0
    · exact fs26 w0)) (by kernel_rfl) Try.func13 (Λ := Lam13) (c := (bodyOf Try.f13)) (by kernel_rfl) Try.call13 (by kernel_rfl) (LS_of (bodyOf Try.f13) 0 (by kernel_rfl) (fun i hi => absurd hi (Nat.not_lt_zero i)) 0 (by kernel_rfl) (fun i hi => absurd hi (Nat.not_lt_zero i))) true (np := 1) (Nat.le_of_ble_eq_true (by kernel_rfl))).imp fun args => ?_
  by_cases hl : args.length = 1
  rotate_left
  · exact .inr fun m k hk => by
      unfold G13 at hk
      split at hk
      · exact hl rfl
      · exact hk
  obtain ⟨a0, rfl⟩ : ∃ a0, args = [a0] := len_list1 hl
  rcases kI_or .u32 a0 with ⟨x_0, rfl⟩ | h
  rotate_left
  · exact .inr fun m k hk => h _ (by simpa only [G13, kI, kbool, kS, kptr, kaggN, kite, decide_true, eq_self] using hk)
  exact .inl fun m k => propext ⟨fun h => ⟨rfl, by rw [eqn13]; simpa only [G13, kI, kbool, kS, kptr, kaggN, kite, decide_true, eq_self] using h⟩, fun h => by have h := h.2; rw [eqn13] at h; simpa only [G13, kI, kbool, kS, kptr, kaggN, kite, decide_true, eq_self] using h⟩

def P27_5102  (m : Mem) (kr : AV → Mem → Prop) : Prop :=
  F42  m fun v14 m15 => kr v14 m15

def P27_4004 (x_15 : Bool) (m : Mem) (kr : AV → Mem → Prop) (kn : Mem → Prop) : Prop :=
  kif x_15 (F41  m fun v3 m4 => kr v3 m4) (kn  m)

/-- pianola/pianolaref3.rows -/
def F27 (x_0 : Int) (m : Mem) (k : AV → Mem → Prop) : Prop :=
  kif (x_0 == 0) (F40  m fun v1 m2 => k v1 m2) (kif (x_0 == 1) (P27_4004 true m (fun v5 m6 => k v5 m6) (fun m7 => P27_5102  m7 (fun v16 m17 => k v16 m17))) (kif (x_0 == 16) (P27_4004 true m (fun v8 m9 => k v8 m9) (fun m10 => P27_5102  m10 (fun v18 m19 => k v18 m19))) (P27_4004 (x_0 == 28) m (fun v11 m12 => k v11 m12) (fun m13 => P27_5102  m13 (fun v20 m21 => k v20 m21)))))

def G27 (args : List AV) (m : Mem) (k : KV) : Prop := match args with
  | [a0] => kI .i64 a0 fun x_0 => F27 x_0 m (fun v_1000 m' => k v_1000 m')
  | _ => False

def E27 : Env := envOf [(40, G40), (41, G41), (42, G42)]

def LamP27_4004 (σ : Nat → AV) (m : Mem) (k : KX) : Prop := kbool (σ 15) fun x_15 => P27_4004 x_15 m (fun v_2' m' => k .ret (only [2] [v_2']) m') (fun m' => k .normal (only [] []) m')

def LamP27_5102 (σ : Nat → AV) (m : Mem) (k : KX) : Prop := P27_5102  m (fun v_2' m' => k .ret (only [2] [v_2']) m')

def Lam27 : LEnv := ⟨fun a σ m k => match firstReg a with
  | _ => bump False,
  fun id => match id with
  | _ => bump false,
  fun b => match keyC b with
  | some 4004 => true
  | some 5102 => true
  | _ => bump false,
  fun b σ m k => match keyC b with
  | some 4004 => LamP27_4004 σ m k
  | some 5102 => LamP27_5102 σ m k
  | _ => bump False⟩

def lxp27_5102 : Ex → List Nat := fun e => match e with
  | .ret => [2]
  | _ => []

theorem pc27_5102  (m : Mem) (k : KX) : once Try.prog E27 Lam27 [] lxp27_5102 (((secsOf (bodyOf Try.f27)).filter Lam27.cut).getD 0 .skip) [] m k = P27_5102  m (fun v_2' m' => k .ret (only [2] [v_2']) m') := by
  kernel_rfl

theorem pok27_5102 : PieceOK Try.prog E27 Lam27 (((secsOf (bodyOf Try.f27)).filter Lam27.cut).getD 0 .skip) := by
  refine ⟨fun _ => True, [], lxp27_5102, fun σ m k => ?_⟩
  have e : Lam27.piece (((secsOf (bodyOf Try.f27)).filter Lam27.cut).getD 0 .skip) σ m k = LamP27_5102 σ m k := by kernel_rfl
  rw [e]
  constructor
  · intro h
    unfold LamP27_5102 at h
    refine ⟨trivial, ?_⟩
    have ev : [].map σ = [] := by simp only [List.map_cons, List.map_nil]
    rw [ev, pc27_5102]
    exact h
  · rintro ⟨_, h⟩
    have ev : [].map σ = [] := by simp only [List.map_cons, List.map_nil]
    rw [ev, pc27_5102] at h
    unfold LamP27_5102
    try simp only [kI, kbool, kS, kptr, kaggN, kite, decide_true, eq_self]
    exact h

def lxp27_4004 : Ex → List Nat := fun e => match e with
  | .ret => [2]
  | .normal => []
  | _ => []

theorem pc27_4004 (x_15 : Bool) (m : Mem) (k : KX) : once Try.prog E27 Lam27 [15] lxp27_4004 (((secsOf (bodyOf Try.f27)).filter Lam27.cut).getD 1 .skip) [(.flat (.bool x_15))] m k = P27_4004 x_15 m (fun v_2' m' => k .ret (only [2] [v_2']) m') (fun m' => k .normal (only [] []) m') := by
  kernel_rfl

theorem pok27_4004 : PieceOK Try.prog E27 Lam27 (((secsOf (bodyOf Try.f27)).filter Lam27.cut).getD 1 .skip) := by
  refine ⟨fun σ => ∃ x_15, σ 15 = .flat (.bool x_15), [15], lxp27_4004, fun σ m k => ?_⟩
  have e : Lam27.piece (((secsOf (bodyOf Try.f27)).filter Lam27.cut).getD 1 .skip) σ m k = LamP27_4004 σ m k := by kernel_rfl
  rw [e]
  constructor
  · intro h
    unfold LamP27_4004 at h
    obtain ⟨x_15, h0, h⟩ := kbool_ok h
    refine ⟨⟨x_15, h0⟩, ?_⟩
    have ev : [15].map σ = [(.flat (.bool x_15))] := by simp only [List.map_cons, List.map_nil, h0]
    rw [ev, pc27_4004]
    exact h
  · rintro ⟨⟨x_15, h0⟩, h⟩
    have ev : [15].map σ = [(.flat (.bool x_15))] := by simp only [List.map_cons, List.map_nil, h0]
    rw [ev, pc27_4004] at h
    unfold LamP27_4004
    try simp only [h0, kI, kbool, kS, kptr, kaggN, kite, decide_true, eq_self]
    exact h

theorem eqn27 (x_0 : Int) (m : Mem) (k : KV) : bodyK Try.prog E27 Lam27 Try.f27 false [(.flat (.int .i64 x_0))] m k = F27 x_0 m (fun v_1000 m' => k v_1000 m') := by
  kernel_rfl

theorem fs27 (w0 : World) : FS Try.prog w0 27 G27 := by
  refine (fs_body (Γ := E27) (sound_env (l := [(40, G40), (41, G41), (42, G42)]) w0 (by
    intro p hp
    simp only [List.mem_cons, List.not_mem_nil, or_false] at hp
    rcases hp with rfl | rfl | rfl
    · exact fs40 w0
    · exact fs41 w0
    · exact fs42 w0)) (by kernel_rfl) Try.func27 (Λ := Lam27) (c := (bodyOf Try.f27)) (by kernel_rfl) Try.call27 (by kernel_rfl) (LS_of (bodyOf Try.f27) 0 (by kernel_rfl) (fun i hi => absurd hi (Nat.not_lt_zero i)) 2 (by kernel_rfl) (by
    intro i hi
    match i, hi with
    | 0, _ => exact pok27_5102
    | 1, _ => exact pok27_4004
    | i + 2, hi => omega)) false (np := 1) (Nat.le_of_ble_eq_true (by kernel_rfl))).imp fun args => ?_
  by_cases hl : args.length = 1
  rotate_left
  · exact .inr fun m k hk => by
      unfold G27 at hk
      split at hk
      · exact hl rfl
      · exact hk
  obtain ⟨a0, rfl⟩ : ∃ a0, args = [a0] := len_list1 hl
  rcases kI_or .i64 a0 with ⟨x_0, rfl⟩ | h
  rotate_left
  · exact .inr fun m k hk => h _ (by simpa only [G27, kI, kbool, kS, kptr, kaggN, kite, decide_true, eq_self] using hk)
  exact .inl fun m k => propext ⟨fun h => ⟨rfl, by rw [eqn27]; simpa only [G27, kI, kbool, kS, kptr, kaggN, kite, decide_true, eq_self] using h⟩, fun h => by have h := h.2; rw [eqn27] at h; simpa only [G27, kI, kbool, kS, kptr, kaggN, kite, decide_true, eq_self] using h⟩

def P28_5004 (x_3 : Int) (x_4 : Int) (x_5 : Int) (x_18 : Int) (x_19 : Bool) (m : Mem) (kr : Int → Mem → Prop) (kn : Mem → Prop) : Prop :=
  kif x_19 (kr x_3 m) (kif (x_18 == 1) (kr x_4 m) (kif (x_18 == 16) (kif (x_5 == 16) (kr (IntKind.wrap .i64 (64 + x_3)) m) (kr x_5 m)) (kn  m)))

/-- pianola/pianolaref3.sub -/
def F28 (x_0 : Int) (m : Mem) (k : Int → Mem → Prop) : Prop :=
  kif ((x_0.fdiv 67108864) == 0) (P28_5004 (IntKind.wrap .i64 (bits .and .u32 x_0 63)) (IntKind.wrap .i64 (bits .and .u32 (x_0.fdiv 65536) 31)) (IntKind.wrap .i64 (bits .and .u32 (x_0.fdiv 2097152) 31)) (x_0.fdiv 67108864) ((x_0.fdiv 67108864) == 0) m (fun x1 m2 => (Keeps m m2 ∧ k x1 m)) (fun m3 => (Keeps m m3 ∧ k 0 m))) (P28_5004 (IntKind.wrap .i64 (bits .and .u32 x_0 63)) (IntKind.wrap .i64 (bits .and .u32 (x_0.fdiv 65536) 31)) (IntKind.wrap .i64 (bits .and .u32 (x_0.fdiv 2097152) 31)) (x_0.fdiv 67108864) ((x_0.fdiv 67108864) == 28) m (fun x4 m5 => (Keeps m m5 ∧ k x4 m)) (fun m6 => (Keeps m m6 ∧ k 0 m)))

def G28 (args : List AV) (m : Mem) (k : KV) : Prop := match args with
  | [a0] => kI .u32 a0 fun x_0 => F28 x_0 m (fun x_1000 m' => k (.flat (.int .i64 x_1000)) m')
  | _ => False

def E28 : Env := envOf []

def LamP28_5004 (σ : Nat → AV) (m : Mem) (k : KX) : Prop := kI .i64 (σ 3) fun x_3 => kI .i64 (σ 4) fun x_4 => kI .i64 (σ 5) fun x_5 => kI .u32 (σ 18) fun x_18 => kbool (σ 19) fun x_19 => P28_5004 x_3 x_4 x_5 x_18 x_19 m (fun x_2' m' => k .ret (only [2] [(.flat (.int .i64 x_2'))]) m') (fun m' => k .normal (only [] []) m')

def Lam28 : LEnv := ⟨fun a σ m k => match firstReg a with
  | _ => bump False,
  fun id => match id with
  | _ => bump false,
  fun b => match keyC b with
  | some 5004 => true
  | _ => bump false,
  fun b σ m k => match keyC b with
  | some 5004 => LamP28_5004 σ m k
  | _ => bump False⟩

def lxp28_5004 : Ex → List Nat := fun e => match e with
  | .ret => [2]
  | .normal => []
  | _ => []

theorem pc28_5004 (x_3 : Int) (x_4 : Int) (x_5 : Int) (x_18 : Int) (x_19 : Bool) (m : Mem) (k : KX) : once Try.prog E28 Lam28 [3, 4, 5, 18, 19] lxp28_5004 (((secsOf (bodyOf Try.f28)).filter Lam28.cut).getD 0 .skip) [(.flat (.int .i64 x_3)), (.flat (.int .i64 x_4)), (.flat (.int .i64 x_5)), (.flat (.int .u32 x_18)), (.flat (.bool x_19))] m k = P28_5004 x_3 x_4 x_5 x_18 x_19 m (fun x_2' m' => k .ret (only [2] [(.flat (.int .i64 x_2'))]) m') (fun m' => k .normal (only [] []) m') := by
  kernel_rfl

theorem pok28_5004 : PieceOK Try.prog E28 Lam28 (((secsOf (bodyOf Try.f28)).filter Lam28.cut).getD 0 .skip) := by
  refine ⟨fun σ => ∃ x_3 x_4 x_5 x_18 x_19, σ 3 = .flat (.int .i64 x_3) ∧ σ 4 = .flat (.int .i64 x_4) ∧ σ 5 = .flat (.int .i64 x_5) ∧ σ 18 = .flat (.int .u32 x_18) ∧ σ 19 = .flat (.bool x_19), [3, 4, 5, 18, 19], lxp28_5004, fun σ m k => ?_⟩
  have e : Lam28.piece (((secsOf (bodyOf Try.f28)).filter Lam28.cut).getD 0 .skip) σ m k = LamP28_5004 σ m k := by kernel_rfl
  rw [e]
  constructor
  · intro h
    unfold LamP28_5004 at h
    obtain ⟨x_3, h0, h⟩ := kI_ok h
    obtain ⟨x_4, h1, h⟩ := kI_ok h
    obtain ⟨x_5, h2, h⟩ := kI_ok h
    obtain ⟨x_18, h3, h⟩ := kI_ok h
    obtain ⟨x_19, h4, h⟩ := kbool_ok h
    refine ⟨⟨x_3, x_4, x_5, x_18, x_19, h0, h1, h2, h3, h4⟩, ?_⟩
    have ev : [3, 4, 5, 18, 19].map σ = [(.flat (.int .i64 x_3)), (.flat (.int .i64 x_4)), (.flat (.int .i64 x_5)), (.flat (.int .u32 x_18)), (.flat (.bool x_19))] := by simp only [List.map_cons, List.map_nil, h0, h1, h2, h3, h4]
    rw [ev, pc28_5004]
    exact h
  · rintro ⟨⟨x_3, x_4, x_5, x_18, x_19, h0, h1, h2, h3, h4⟩, h⟩
    have ev : [3, 4, 5, 18, 19].map σ = [(.flat (.int .i64 x_3)), (.flat (.int .i64 x_4)), (.flat (.int .i64 x_5)), (.flat (.int .u32 x_18)), (.flat (.bool x_19))] := by simp only [List.map_cons, List.map_nil, h0, h1, h2, h3, h4]
    rw [ev, pc28_5004] at h
    unfold LamP28_5004
    try simp only [h0, h1, h2, h3, h4, kI, kbool, kS, kptr, kaggN, kite, decide_true, eq_self]
    exact h

theorem eqn28 (x_0 : Int) (m : Mem) (k : KV) : bodyK Try.prog E28 Lam28 Try.f28 true [(.flat (.int .u32 x_0))] m k = F28 x_0 m (fun x_1000 m' => k (.flat (.int .i64 x_1000)) m') := by
  kernel_rfl

theorem fs28 (w0 : World) : FS Try.prog w0 28 G28 := by
  refine (fs_body (Γ := E28) (sound_env (l := []) w0 (by
    intro p hp
    cases hp)) (by kernel_rfl) Try.func28 (Λ := Lam28) (c := (bodyOf Try.f28)) (by kernel_rfl) Try.call28 (by kernel_rfl) (LS_of (bodyOf Try.f28) 0 (by kernel_rfl) (fun i hi => absurd hi (Nat.not_lt_zero i)) 1 (by kernel_rfl) (by
    intro i hi
    match i, hi with
    | 0, _ => exact pok28_5004
    | i + 1, hi => omega)) true (np := 1) (Nat.le_of_ble_eq_true (by kernel_rfl))).imp fun args => ?_
  by_cases hl : args.length = 1
  rotate_left
  · exact .inr fun m k hk => by
      unfold G28 at hk
      split at hk
      · exact hl rfl
      · exact hk
  obtain ⟨a0, rfl⟩ : ∃ a0, args = [a0] := len_list1 hl
  rcases kI_or .u32 a0 with ⟨x_0, rfl⟩ | h
  rotate_left
  · exact .inr fun m k hk => h _ (by simpa only [G28, kI, kbool, kS, kptr, kaggN, kite, decide_true, eq_self] using hk)
  exact .inl fun m k => propext ⟨fun h => ⟨rfl, by rw [eqn28]; simpa only [G28, kI, kbool, kS, kptr, kaggN, kite, decide_true, eq_self] using h⟩, fun h => by have h := h.2; rw [eqn28] at h; simpa only [G28, kI, kbool, kS, kptr, kaggN, kite, decide_true, eq_self] using h⟩

def P16_18103 (x_0 : Int) (b_2 o_2 : Nat) (b_5 o_5 : Nat) (b_6 o_6 : Nat) (m : Mem) (kr : Mem → Prop) : Prop :=
  ldS m b_5 (o_5 + 3) fun x43 => F29 x43 106 m fun x44 m45 => kif x44 (stC m45 b_6 (o_6 + 5) (.flat (.int .u32 (bits .and .u32 x_0 67108863))) fun m46 => ldG 6 m46 b_6 o_6 fun c47 => stG 6 m46 b_2 o_2 c47 fun m48 => kr  m48) (ldG 6 m45 b_6 o_6 fun c49 => stG 6 m45 b_2 o_2 c49 fun m50 => kr  m50)

def P16_16103 (x_0 : Int) (b_2 o_2 : Nat) (b_5 o_5 : Nat) (b_6 o_6 : Nat) (m : Mem) (kr : Mem → Prop) : Prop :=
  ldS m b_5 (o_5 + 3) fun x39 => F29 x39 105 m fun x40 m41 => kif x40 (stC m41 b_6 (o_6 + 5) (.flat (.int .u32 (bits .and .u32 x_0 65535))) fun m42 => P16_18103 x_0 b_2 o_2 b_5 o_5 b_6 o_6 m42 (fun m51 => kr  m51)) (P16_18103 x_0 b_2 o_2 b_5 o_5 b_6 o_6 m41 (fun m52 => kr  m52))

def P16_14103 (x_0 : Int) (b_2 o_2 : Nat) (b_5 o_5 : Nat) (b_6 o_6 : Nat) (m : Mem) (kr : Mem → Prop) : Prop :=
  ldS m b_5 (o_5 + 3) fun x35 => F29 x35 104 m fun x36 m37 => kif x36 (stC m37 b_6 (o_6 + 4) (.flat (.int .i64 (IntKind.wrap .i64 (bits .and .u32 (x_0.fdiv 64) 31)))) fun m38 => P16_16103 x_0 b_2 o_2 b_5 o_5 b_6 o_6 m38 (fun m53 => kr  m53)) (P16_16103 x_0 b_2 o_2 b_5 o_5 b_6 o_6 m37 (fun m54 => kr  m54))

def P16_12103 (x_0 : Int) (b_2 o_2 : Nat) (b_5 o_5 : Nat) (b_6 o_6 : Nat) (m : Mem) (kr : Mem → Prop) : Prop :=
  ldS m b_5 (o_5 + 3) fun x31 => F29 x31 100 m fun x32 m33 => kif x32 (stC m33 b_6 (o_6 + 3) (.flat (.int .i64 (IntKind.wrap .i64 (bits .and .u32 (x_0.fdiv 2048) 31)))) fun m34 => P16_14103 x_0 b_2 o_2 b_5 o_5 b_6 o_6 m34 (fun m55 => kr  m55)) (P16_14103 x_0 b_2 o_2 b_5 o_5 b_6 o_6 m33 (fun m56 => kr  m56))

def P16_10103 (x_0 : Int) (b_2 o_2 : Nat) (b_5 o_5 : Nat) (b_6 o_6 : Nat) (m : Mem) (kr : Mem → Prop) : Prop :=
  ldS m b_5 (o_5 + 3) fun x27 => F29 x27 116 m fun x28 m29 => kif x28 (stC m29 b_6 (o_6 + 2) (.flat (.int .i64 (IntKind.wrap .i64 (bits .and .u32 (x_0.fdiv 65536) 31)))) fun m30 => P16_12103 x_0 b_2 o_2 b_5 o_5 b_6 o_6 m30 (fun m57 => kr  m57)) (P16_12103 x_0 b_2 o_2 b_5 o_5 b_6 o_6 m29 (fun m58 => kr  m58))

def R16_3 (x_0 : Int) (b_2 o_2 : Nat) (v_3 : AV) (x_4 : Int) (m : Mem) (kn : Int → Mem → Prop) (k0 : Mem → Prop) (kr : Mem → Prop) : Prop :=
  klen v_3 fun x5 => kif (decide (x_4 < x5)) (ksl v_3 fun b6 o7 l8 p9 => kif (decide (0 ≤ x_4) && decide (x_4 < l8)) (ldG 4 m b6 (o7 + (x_4).toNat * 4) fun c10 => newK m ⟨4, lget [(.flat (.int .i64 0)), (.flat (.int .i64 0)), (.flat (.int .i64 0)), (.flat (.string ⟨#[]⟩))], 51, false⟩ fun b12 m11 => stG 4 m11 b12 0 c10 fun m13 => ∃ Fr14 : Nat → Prop, Fr14 b12 ∧ (ldI .i64 m13 b12 0 fun x15 => kif (x15 != (IntKind.wrap .i64 (x_0.fdiv 67108864))) (kn (IntKind.wrap .i64 (x_4 + 1)) m13) (Fr14 b12 ∧ (ldI .i64 m13 b12 1 fun x16 => F28 x_0 m13 fun x17 m18 => KeepsIn Fr14 m13 m18 ∧ (kif (x16 != x17) (kn (IntKind.wrap .i64 (x_4 + 1)) m18) (ldI .i64 m18 b12 2 fun x19 => newK m18 ⟨6, Z6, 27, false⟩ fun b21 m20 => stG 6 m20 b21 0 (upd (Z6) 0 (.flat (.int .i64 x19))) fun m22 => ldS m22 b12 3 fun x23 => F29 x23 115 m22 fun x24 m25 => kif x24 (stC m25 b21 1 (.flat (.int .i64 (IntKind.wrap .i64 (bits .and .u32 (x_0.fdiv 2097152) 31)))) fun m26 => P16_10103 x_0 b_2 o_2 b12 0 b21 0 m26 (fun m59 => kr  m59)) (P16_10103 x_0 b_2 o_2 b12 0 b21 0 m25 (fun m60 => kr  m60)))))))) False) (k0  m)

def L16_3 (x_0 : Int) (b_2 o_2 : Nat) (v_3 : AV) : Nat → Int → Mem → (Mem → Prop) → (Mem → Prop) → Prop
  | 0, _,  _, _, _ => bump False
  | N + 1, x_4,  m, k0, kr => R16_3 x_0 b_2 o_2 v_3 x_4 m (fun x_4' m' => L16_3 x_0 b_2 o_2 v_3 N x_4' m' k0 kr) k0 kr

/-- pianola/pianolaref3.Of -/
def F16 (x_0 : Int) (m : Mem) (k : (Nat → AV) → Mem → Prop) : Prop :=
  newK m ⟨6, Z6, 27, false⟩ fun b2 m1 => F27 (IntKind.wrap .i64 (x_0.fdiv 67108864)) m1 fun v3 m4 => ∃ N63, L16_3 x_0 b2 0 v3 N63 0 m4 (fun m61 => stG 6 m61 b2 0 (Z6) fun m64 => ldG 6 m64 b2 0 fun c66 => (Keeps m m64 ∧ InDomG 6 m c66 ∧ k c66 m)) (fun m62 => ldG 6 m62 b2 0 fun c65 => (Keeps m m62 ∧ InDomG 6 m c65 ∧ k c65 m))

def G16 (args : List AV) (m : Mem) (k : KV) : Prop := match args with
  | [a0] => kI .u32 a0 fun x_0 => F16 x_0 m (fun c_1000 m' => k (.agg 6 c_1000) m')
  | _ => False

def E16 : Env := envOf [(27, G27), (28, G28), (29, G29)]

def Lam16_3 (σ : Nat → AV) (m : Mem) (k : KX) : Prop := kI .u32 (σ 0) fun x_0 => kptr (σ 2) fun b_2 o_2 => kI .i64 (σ 4) fun x_4 => ∃ N, L16_3 x_0 b_2 o_2 (σ 3) N x_4 m (fun m' => k (.exit 0) (only [2] [(.ptr b_2 o_2)]) m') (fun m' => k .ret (only [2] [(.ptr b_2 o_2)]) m')

def LamP16_10103 (σ : Nat → AV) (m : Mem) (k : KX) : Prop := kI .u32 (σ 0) fun x_0 => kptr (σ 2) fun b_2 o_2 => kptr (σ 5) fun b_5 o_5 => kptr (σ 6) fun b_6 o_6 => P16_10103 x_0 b_2 o_2 b_5 o_5 b_6 o_6 m (fun m' => k .ret (only [2] [(.ptr b_2 o_2)]) m')

def LamP16_12103 (σ : Nat → AV) (m : Mem) (k : KX) : Prop := kI .u32 (σ 0) fun x_0 => kptr (σ 2) fun b_2 o_2 => kptr (σ 5) fun b_5 o_5 => kptr (σ 6) fun b_6 o_6 => P16_12103 x_0 b_2 o_2 b_5 o_5 b_6 o_6 m (fun m' => k .ret (only [2] [(.ptr b_2 o_2)]) m')

def LamP16_14103 (σ : Nat → AV) (m : Mem) (k : KX) : Prop := kI .u32 (σ 0) fun x_0 => kptr (σ 2) fun b_2 o_2 => kptr (σ 5) fun b_5 o_5 => kptr (σ 6) fun b_6 o_6 => P16_14103 x_0 b_2 o_2 b_5 o_5 b_6 o_6 m (fun m' => k .ret (only [2] [(.ptr b_2 o_2)]) m')

def LamP16_16103 (σ : Nat → AV) (m : Mem) (k : KX) : Prop := kI .u32 (σ 0) fun x_0 => kptr (σ 2) fun b_2 o_2 => kptr (σ 5) fun b_5 o_5 => kptr (σ 6) fun b_6 o_6 => P16_16103 x_0 b_2 o_2 b_5 o_5 b_6 o_6 m (fun m' => k .ret (only [2] [(.ptr b_2 o_2)]) m')

def LamP16_18103 (σ : Nat → AV) (m : Mem) (k : KX) : Prop := kI .u32 (σ 0) fun x_0 => kptr (σ 2) fun b_2 o_2 => kptr (σ 5) fun b_5 o_5 => kptr (σ 6) fun b_6 o_6 => P16_18103 x_0 b_2 o_2 b_5 o_5 b_6 o_6 m (fun m' => k .ret (only [2] [(.ptr b_2 o_2)]) m')

def Lam16 : LEnv := ⟨fun a σ m k => match firstReg a with
  | some 3 => Lam16_3 σ m k
  | _ => bump False,
  fun id => match id with
  | 6 => true
  | _ => bump false,
  fun b => match keyC b with
  | some 10103 => true
  | some 12103 => true
  | some 14103 => true
  | some 16103 => true
  | some 18103 => true
  | _ => bump false,
  fun b σ m k => match keyC b with
  | some 10103 => LamP16_10103 σ m k
  | some 12103 => LamP16_12103 σ m k
  | some 14103 => LamP16_14103 σ m k
  | some 16103 => LamP16_16103 σ m k
  | some 18103 => LamP16_18103 σ m k
  | _ => bump False⟩

def lxp16_18103 : Ex → List Nat := fun e => match e with
  | .ret => [2]
  | _ => []

theorem pc16_18103 (x_0 : Int) (b_2 o_2 : Nat) (b_5 o_5 : Nat) (b_6 o_6 : Nat) (m : Mem) (k : KX) : once Try.prog E16 Lam16 [0, 2, 5, 6] lxp16_18103 (((secsOf (bodyOf Try.f16)).filter Lam16.cut).getD 4 .skip) [(.flat (.int .u32 x_0)), (.ptr b_2 o_2), (.ptr b_5 o_5), (.ptr b_6 o_6)] m k = P16_18103 x_0 b_2 o_2 b_5 o_5 b_6 o_6 m (fun m' => k .ret (only [2] [(.ptr b_2 o_2)]) m') := by
  kernel_rfl

theorem pok16_18103 : PieceOK Try.prog E16 Lam16 (((secsOf (bodyOf Try.f16)).filter Lam16.cut).getD 4 .skip) := by
  refine ⟨fun σ => ∃ x_0 b_2 o_2 b_5 o_5 b_6 o_6, σ 0 = .flat (.int .u32 x_0) ∧ σ 2 = .ptr b_2 o_2 ∧ σ 5 = .ptr b_5 o_5 ∧ σ 6 = .ptr b_6 o_6, [0, 2, 5, 6], lxp16_18103, fun σ m k => ?_⟩
  have e : Lam16.piece (((secsOf (bodyOf Try.f16)).filter Lam16.cut).getD 4 .skip) σ m k = LamP16_18103 σ m k := by kernel_rfl
  rw [e]
  constructor
  · intro h
    unfold LamP16_18103 at h
    obtain ⟨x_0, h0, h⟩ := kI_ok h
    obtain ⟨b_2, o_2, h1, h⟩ := kptr_ok h
    obtain ⟨b_5, o_5, h2, h⟩ := kptr_ok h
    obtain ⟨b_6, o_6, h3, h⟩ := kptr_ok h
    refine ⟨⟨x_0, b_2, o_2, b_5, o_5, b_6, o_6, h0, h1, h2, h3⟩, ?_⟩
    have ev : [0, 2, 5, 6].map σ = [(.flat (.int .u32 x_0)), (.ptr b_2 o_2), (.ptr b_5 o_5), (.ptr b_6 o_6)] := by simp only [List.map_cons, List.map_nil, h0, h1, h2, h3]
    rw [ev, pc16_18103]
    exact h
  · rintro ⟨⟨x_0, b_2, o_2, b_5, o_5, b_6, o_6, h0, h1, h2, h3⟩, h⟩
    have ev : [0, 2, 5, 6].map σ = [(.flat (.int .u32 x_0)), (.ptr b_2 o_2), (.ptr b_5 o_5), (.ptr b_6 o_6)] := by simp only [List.map_cons, List.map_nil, h0, h1, h2, h3]
    rw [ev, pc16_18103] at h
    unfold LamP16_18103
    try simp only [h0, h1, h2, h3, kI, kbool, kS, kptr, kaggN, kite, decide_true, eq_self]
    exact h

def lxp16_16103 : Ex → List Nat := fun e => match e with
  | .ret => [2]
  | _ => []

theorem pc16_16103 (x_0 : Int) (b_2 o_2 : Nat) (b_5 o_5 : Nat) (b_6 o_6 : Nat) (m : Mem) (k : KX) : once Try.prog E16 Lam16 [0, 2, 5, 6] lxp16_16103 (((secsOf (bodyOf Try.f16)).filter Lam16.cut).getD 3 .skip) [(.flat (.int .u32 x_0)), (.ptr b_2 o_2), (.ptr b_5 o_5), (.ptr b_6 o_6)] m k = P16_16103 x_0 b_2 o_2 b_5 o_5 b_6 o_6 m (fun m' => k .ret (only [2] [(.ptr b_2 o_2)]) m') := by
  kernel_rfl

theorem pok16_16103 : PieceOK Try.prog E16 Lam16 (((secsOf (bodyOf Try.f16)).filter Lam16.cut).getD 3 .skip) := by
  refine ⟨fun σ => ∃ x_0 b_2 o_2 b_5 o_5 b_6 o_6, σ 0 = .flat (.int .u32 x_0) ∧ σ 2 = .ptr b_2 o_2 ∧ σ 5 = .ptr b_5 o_5 ∧ σ 6 = .ptr b_6 o_6, [0, 2, 5, 6], lxp16_16103, fun σ m k => ?_⟩
  have e : Lam16.piece (((secsOf (bodyOf Try.f16)).filter Lam16.cut).getD 3 .skip) σ m k = LamP16_16103 σ m k := by kernel_rfl
  rw [e]
  constructor
  · intro h
    unfold LamP16_16103 at h
    obtain ⟨x_0, h0, h⟩ := kI_ok h
    obtain ⟨b_2, o_2, h1, h⟩ := kptr_ok h
    obtain ⟨b_5, o_5, h2, h⟩ := kptr_ok h
    obtain ⟨b_6, o_6, h3, h⟩ := kptr_ok h
    refine ⟨⟨x_0, b_2, o_2, b_5, o_5, b_6, o_6, h0, h1, h2, h3⟩, ?_⟩
    have ev : [0, 2, 5, 6].map σ = [(.flat (.int .u32 x_0)), (.ptr b_2 o_2), (.ptr b_5 o_5), (.ptr b_6 o_6)] := by simp only [List.map_cons, List.map_nil, h0, h1, h2, h3]
    rw [ev, pc16_16103]
    exact h
  · rintro ⟨⟨x_0, b_2, o_2, b_5, o_5, b_6, o_6, h0, h1, h2, h3⟩, h⟩
    have ev : [0, 2, 5, 6].map σ = [(.flat (.int .u32 x_0)), (.ptr b_2 o_2), (.ptr b_5 o_5), (.ptr b_6 o_6)] := by simp only [List.map_cons, List.map_nil, h0, h1, h2, h3]
    rw [ev, pc16_16103] at h
    unfold LamP16_16103
    try simp only [h0, h1, h2, h3, kI, kbool, kS, kptr, kaggN, kite, decide_true, eq_self]
    exact h

def lxp16_14103 : Ex → List Nat := fun e => match e with
  | .ret => [2]
  | _ => []

theorem pc16_14103 (x_0 : Int) (b_2 o_2 : Nat) (b_5 o_5 : Nat) (b_6 o_6 : Nat) (m : Mem) (k : KX) : once Try.prog E16 Lam16 [0, 2, 5, 6] lxp16_14103 (((secsOf (bodyOf Try.f16)).filter Lam16.cut).getD 2 .skip) [(.flat (.int .u32 x_0)), (.ptr b_2 o_2), (.ptr b_5 o_5), (.ptr b_6 o_6)] m k = P16_14103 x_0 b_2 o_2 b_5 o_5 b_6 o_6 m (fun m' => k .ret (only [2] [(.ptr b_2 o_2)]) m') := by
  kernel_rfl

theorem pok16_14103 : PieceOK Try.prog E16 Lam16 (((secsOf (bodyOf Try.f16)).filter Lam16.cut).getD 2 .skip) := by
  refine ⟨fun σ => ∃ x_0 b_2 o_2 b_5 o_5 b_6 o_6, σ 0 = .flat (.int .u32 x_0) ∧ σ 2 = .ptr b_2 o_2 ∧ σ 5 = .ptr b_5 o_5 ∧ σ 6 = .ptr b_6 o_6, [0, 2, 5, 6], lxp16_14103, fun σ m k => ?_⟩
  have e : Lam16.piece (((secsOf (bodyOf Try.f16)).filter Lam16.cut).getD 2 .skip) σ m k = LamP16_14103 σ m k := by kernel_rfl
  rw [e]
  constructor
  · intro h
    unfold LamP16_14103 at h
    obtain ⟨x_0, h0, h⟩ := kI_ok h
    obtain ⟨b_2, o_2, h1, h⟩ := kptr_ok h
    obtain ⟨b_5, o_5, h2, h⟩ := kptr_ok h
    obtain ⟨b_6, o_6, h3, h⟩ := kptr_ok h
    refine ⟨⟨x_0, b_2, o_2, b_5, o_5, b_6, o_6, h0, h1, h2, h3⟩, ?_⟩
    have ev : [0, 2, 5, 6].map σ = [(.flat (.int .u32 x_0)), (.ptr b_2 o_2), (.ptr b_5 o_5), (.ptr b_6 o_6)] := by simp only [List.map_cons, List.map_nil, h0, h1, h2, h3]
    rw [ev, pc16_14103]
    exact h
  · rintro ⟨⟨x_0, b_2, o_2, b_5, o_5, b_6, o_6, h0, h1, h2, h3⟩, h⟩
    have ev : [0, 2, 5, 6].map σ = [(.flat (.int .u32 x_0)), (.ptr b_2 o_2), (.ptr b_5 o_5), (.ptr b_6 o_6)] := by simp only [List.map_cons, List.map_nil, h0, h1, h2, h3]
    rw [ev, pc16_14103] at h
    unfold LamP16_14103
    try simp only [h0, h1, h2, h3, kI, kbool, kS, kptr, kaggN, kite, decide_true, eq_self]
    exact h

def lxp16_12103 : Ex → List Nat := fun e => match e with
  | .ret => [2]
  | _ => []

theorem pc16_12103 (x_0 : Int) (b_2 o_2 : Nat) (b_5 o_5 : Nat) (b_6 o_6 : Nat) (m : Mem) (k : KX) : once Try.prog E16 Lam16 [0, 2, 5, 6] lxp16_12103 (((secsOf (bodyOf Try.f16)).filter Lam16.cut).getD 1 .skip) [(.flat (.int .u32 x_0)), (.ptr b_2 o_2), (.ptr b_5 o_5), (.ptr b_6 o_6)] m k = P16_12103 x_0 b_2 o_2 b_5 o_5 b_6 o_6 m (fun m' => k .ret (only [2] [(.ptr b_2 o_2)]) m') := by
  kernel_rfl

theorem pok16_12103 : PieceOK Try.prog E16 Lam16 (((secsOf (bodyOf Try.f16)).filter Lam16.cut).getD 1 .skip) := by
  refine ⟨fun σ => ∃ x_0 b_2 o_2 b_5 o_5 b_6 o_6, σ 0 = .flat (.int .u32 x_0) ∧ σ 2 = .ptr b_2 o_2 ∧ σ 5 = .ptr b_5 o_5 ∧ σ 6 = .ptr b_6 o_6, [0, 2, 5, 6], lxp16_12103, fun σ m k => ?_⟩
  have e : Lam16.piece (((secsOf (bodyOf Try.f16)).filter Lam16.cut).getD 1 .skip) σ m k = LamP16_12103 σ m k := by kernel_rfl
  rw [e]
  constructor
  · intro h
    unfold LamP16_12103 at h
    obtain ⟨x_0, h0, h⟩ := kI_ok h
    obtain ⟨b_2, o_2, h1, h⟩ := kptr_ok h
    obtain ⟨b_5, o_5, h2, h⟩ := kptr_ok h
    obtain ⟨b_6, o_6, h3, h⟩ := kptr_ok h
    refine ⟨⟨x_0, b_2, o_2, b_5, o_5, b_6, o_6, h0, h1, h2, h3⟩, ?_⟩
    have ev : [0, 2, 5, 6].map σ = [(.flat (.int .u32 x_0)), (.ptr b_2 o_2), (.ptr b_5 o_5), (.ptr b_6 o_6)] := by simp only [List.map_cons, List.map_nil, h0, h1, h2, h3]
    rw [ev, pc16_12103]
    exact h
  · rintro ⟨⟨x_0, b_2, o_2, b_5, o_5, b_6, o_6, h0, h1, h2, h3⟩, h⟩
    have ev : [0, 2, 5, 6].map σ = [(.flat (.int .u32 x_0)), (.ptr b_2 o_2), (.ptr b_5 o_5), (.ptr b_6 o_6)] := by simp only [List.map_cons, List.map_nil, h0, h1, h2, h3]
    rw [ev, pc16_12103] at h
    unfold LamP16_12103
    try simp only [h0, h1, h2, h3, kI, kbool, kS, kptr, kaggN, kite, decide_true, eq_self]
    exact h

def lxp16_10103 : Ex → List Nat := fun e => match e with
  | .ret => [2]
  | _ => []

theorem pc16_10103 (x_0 : Int) (b_2 o_2 : Nat) (b_5 o_5 : Nat) (b_6 o_6 : Nat) (m : Mem) (k : KX) : once Try.prog E16 Lam16 [0, 2, 5, 6] lxp16_10103 (((secsOf (bodyOf Try.f16)).filter Lam16.cut).getD 0 .skip) [(.flat (.int .u32 x_0)), (.ptr b_2 o_2), (.ptr b_5 o_5), (.ptr b_6 o_6)] m k = P16_10103 x_0 b_2 o_2 b_5 o_5 b_6 o_6 m (fun m' => k .ret (only [2] [(.ptr b_2 o_2)]) m') := by
  kernel_rfl

theorem pok16_10103 : PieceOK Try.prog E16 Lam16 (((secsOf (bodyOf Try.f16)).filter Lam16.cut).getD 0 .skip) := by
  refine ⟨fun σ => ∃ x_0 b_2 o_2 b_5 o_5 b_6 o_6, σ 0 = .flat (.int .u32 x_0) ∧ σ 2 = .ptr b_2 o_2 ∧ σ 5 = .ptr b_5 o_5 ∧ σ 6 = .ptr b_6 o_6, [0, 2, 5, 6], lxp16_10103, fun σ m k => ?_⟩
  have e : Lam16.piece (((secsOf (bodyOf Try.f16)).filter Lam16.cut).getD 0 .skip) σ m k = LamP16_10103 σ m k := by kernel_rfl
  rw [e]
  constructor
  · intro h
    unfold LamP16_10103 at h
    obtain ⟨x_0, h0, h⟩ := kI_ok h
    obtain ⟨b_2, o_2, h1, h⟩ := kptr_ok h
    obtain ⟨b_5, o_5, h2, h⟩ := kptr_ok h
    obtain ⟨b_6, o_6, h3, h⟩ := kptr_ok h
    refine ⟨⟨x_0, b_2, o_2, b_5, o_5, b_6, o_6, h0, h1, h2, h3⟩, ?_⟩
    have ev : [0, 2, 5, 6].map σ = [(.flat (.int .u32 x_0)), (.ptr b_2 o_2), (.ptr b_5 o_5), (.ptr b_6 o_6)] := by simp only [List.map_cons, List.map_nil, h0, h1, h2, h3]
    rw [ev, pc16_10103]
    exact h
  · rintro ⟨⟨x_0, b_2, o_2, b_5, o_5, b_6, o_6, h0, h1, h2, h3⟩, h⟩
    have ev : [0, 2, 5, 6].map σ = [(.flat (.int .u32 x_0)), (.ptr b_2 o_2), (.ptr b_5 o_5), (.ptr b_6 o_6)] := by simp only [List.map_cons, List.map_nil, h0, h1, h2, h3]
    rw [ev, pc16_10103] at h
    unfold LamP16_10103
    try simp only [h0, h1, h2, h3, kI, kbool, kS, kptr, kaggN, kite, decide_true, eq_self]
    exact h

def lx16_3 : Ex → List Nat := fun e => match e with
  | .exit 0 => [2]
  | .ret => [2]
  | _ => []

theorem round16_3 (x_0 : Int) (b_2 o_2 : Nat) (v_3 : AV) (x_4 : Int) (m : Mem) (G : List AV → Mem → Prop) (k : KX) : (wpA Try.prog E16 Lam16 ((loopsOf (bodyOf Try.f16)).getD 0 .skip) (only [0, 2, 3, 4] [(.flat (.int .u32 x_0)), (.ptr b_2 o_2), v_3, (.flat (.int .i64 x_4))]) m fun e σ' m' => match e with
    | .normal => G ([0, 2, 3, 4].map σ') m'
    | .exit id => k (.exit id) (only (lx16_3 (.exit id)) ((lx16_3 (.exit id)).map σ')) m'
    | .ret => k .ret (only (lx16_3 .ret) ((lx16_3 .ret).map σ')) m') = R16_3 x_0 b_2 o_2 v_3 x_4 m (fun x_4' m' => G [(.flat (.int .u32 x_0)), (.ptr b_2 o_2), v_3, (.flat (.int .i64 x_4'))] m') (fun m' => k (.exit 0) (only [2] [(.ptr b_2 o_2)]) m') (fun m' => k .ret (only [2] [(.ptr b_2 o_2)]) m') := by
  kernel_rfl

theorem loop16_3 (x_0 : Int) (b_2 o_2 : Nat) (v_3 : AV) (k : KX) : ∀ (N : Nat) (x_4 : Int) (m : Mem), rounds Try.prog E16 Lam16 [0, 2, 3, 4] lx16_3 ((loopsOf (bodyOf Try.f16)).getD 0 .skip) N [(.flat (.int .u32 x_0)), (.ptr b_2 o_2), v_3, (.flat (.int .i64 x_4))] m k = L16_3 x_0 b_2 o_2 v_3 N x_4 m (fun m' => k (.exit 0) (only [2] [(.ptr b_2 o_2)]) m') (fun m' => k .ret (only [2] [(.ptr b_2 o_2)]) m') := by
  intro N
  induction N with
  | zero => intros; rfl
  | succ N ih =>
    intro x_4 m
    refine (round16_3 x_0 b_2 o_2 v_3 x_4 m (fun vs m' => rounds Try.prog E16 Lam16 [0, 2, 3, 4] lx16_3 ((loopsOf (bodyOf Try.f16)).getD 0 .skip) N vs m' k) k).trans ?_
    simp only [ih]
    rfl

theorem lok16_3 : LoopOK Try.prog E16 Lam16 ((loopsOf (bodyOf Try.f16)).getD 0 .skip) := by
  refine ⟨fun σ => ∃ x_0 b_2 o_2 v_3 x_4, σ 0 = .flat (.int .u32 x_0) ∧ σ 2 = .ptr b_2 o_2 ∧ σ 3 = v_3 ∧ σ 4 = .flat (.int .i64 x_4), [0, 2, 3, 4], lx16_3, fun σ m k => ?_⟩
  have e : Lam16.loop ((loopsOf (bodyOf Try.f16)).getD 0 .skip) σ m k = Lam16_3 σ m k := by kernel_rfl
  rw [e]
  constructor
  · intro h
    unfold Lam16_3 at h
    obtain ⟨x_0, h0, h⟩ := kI_ok h
    obtain ⟨b_2, o_2, h1, h⟩ := kptr_ok h
    obtain ⟨v_3, h2⟩ : ∃ v, σ 3 = v := ⟨_, rfl⟩
    obtain ⟨x_4, h3, h⟩ := kI_ok h
    obtain ⟨N, h⟩ := h
    refine ⟨⟨x_0, b_2, o_2, v_3, x_4, h0, h1, h2, h3⟩, N, ?_⟩
    have ev : [0, 2, 3, 4].map σ = [(.flat (.int .u32 x_0)), (.ptr b_2 o_2), v_3, (.flat (.int .i64 x_4))] := by simp only [List.map_cons, List.map_nil, h0, h1, h2, h3]
    rw [ev, loop16_3]
    simp only [h2] at h
    exact h
  · rintro ⟨⟨x_0, b_2, o_2, v_3, x_4, h0, h1, h2, h3⟩, N, h⟩
    have ev : [0, 2, 3, 4].map σ = [(.flat (.int .u32 x_0)), (.ptr b_2 o_2), v_3, (.flat (.int .i64 x_4))] := by simp only [List.map_cons, List.map_nil, h0, h1, h2, h3]
    rw [ev, loop16_3] at h
    unfold Lam16_3
    try simp only [h0, h1, h2, h3, kI, kbool, kS, kptr, kaggN, kite, decide_true, eq_self]
    exact ⟨N, h⟩

theorem eqn16 (x_0 : Int) (m : Mem) (k : KV) : bodyK Try.prog E16 Lam16 Try.f16 true [(.flat (.int .u32 x_0))] m k = F16 x_0 m (fun c_1000 m' => k (.agg 6 c_1000) m') := by
  kernel_rfl

theorem fs16 (w0 : World) : FS Try.prog w0 16 G16 := by
  refine (fs_body (Γ := E16) (sound_env (l := [(27, G27), (28, G28), (29, G29)]) w0 (by
    intro p hp
    simp only [List.mem_cons, List.not_mem_nil, or_false] at hp
    rcases hp with rfl | rfl | rfl
    · exact fs27 w0
    · exact fs28 w0
    · exact fs29 w0)) (by kernel_rfl) Try.func16 (Λ := Lam16) (c := (bodyOf Try.f16)) (by kernel_rfl) Try.call16 (by kernel_rfl) (LS_of (bodyOf Try.f16) 1 (by kernel_rfl) (by
    intro i hi
    match i, hi with
    | 0, _ => exact lok16_3
    | i + 1, hi => omega) 5 (by kernel_rfl) (by
    intro i hi
    match i, hi with
    | 0, _ => exact pok16_10103
    | 1, _ => exact pok16_12103
    | 2, _ => exact pok16_14103
    | 3, _ => exact pok16_16103
    | 4, _ => exact pok16_18103
    | i + 5, hi => omega)) true (np := 1) (Nat.le_of_ble_eq_true (by kernel_rfl))).imp fun args => ?_
  by_cases hl : args.length = 1
  rotate_left
  · exact .inr fun m k hk => by
      unfold G16 at hk
      split at hk
      · exact hl rfl
      · exact hk
  obtain ⟨a0, rfl⟩ : ∃ a0, args = [a0] := len_list1 hl
  rcases kI_or .u32 a0 with ⟨x_0, rfl⟩ | h
  rotate_left
  · exact .inr fun m k hk => h _ (by simpa only [G16, kI, kbool, kS, kptr, kaggN, kite, decide_true, eq_self] using hk)
  exact .inl fun m k => propext ⟨fun h => ⟨rfl, by rw [eqn16]; simpa only [G16, kI, kbool, kS, kptr, kaggN, kite, decide_true, eq_self] using h⟩, fun h => by have h := h.2; rw [eqn16] at h; simpa only [G16, kI, kbool, kS, kptr, kaggN, kite, decide_true, eq_self] using h⟩

/-- pianola/pianolalaw3.words -/
def F7 (x_0 : Int) (m : Mem) (k : Bool → Mem → Prop) : Prop :=
  F13 x_0 m fun c1 m2 => newK m2 ⟨6, Z6, 27, false⟩ fun b4 m3 => stG 6 m3 b4 0 c1 fun m5 => ∃ Fr6 : Nat → Prop, Fr6 b4 ∧ (ldG 6 m5 b4 0 fun c7 => F16 x_0 m5 fun c8 m9 => KeepsIn Fr6 m5 m9 ∧ (geq K27 c7 c8 fun x10 => kif x10 (Fr6 b4 ∧ (ldG 6 m9 b4 0 fun c11 => F15 c11 m9 fun x12 m13 => KeepsIn Fr6 m9 m13 ∧ (Fr6 b4 ∧ (ldG 6 m13 b4 0 fun c14 => F17 c14 m13 fun x15 m16 => KeepsIn Fr6 m13 m16 ∧ (kif (x12 == x15) (Fr6 b4 ∧ (ldG 6 m16 b4 0 fun c17 => F8 c17 m16 fun x18 m19 => KeepsIn Fr6 m16 m19 ∧ ((Keeps m m19 ∧ k x18 m)))) ((Keeps m m16 ∧ k false m))))))) ((Keeps m m9 ∧ k false m))))

def G7 (args : List AV) (m : Mem) (k : KV) : Prop := match args with
  | [a0] => kI .u32 a0 fun x_0 => F7 x_0 m (fun x_1000 m' => k (.flat (.bool x_1000)) m')
  | _ => False

def E7 : Env := envOf [(8, G8), (13, G13), (15, G15), (16, G16), (17, G17)]

def Lam7 : LEnv := ⟨fun a σ m k => match firstReg a with
  | _ => bump False,
  fun id => match id with
  | 2 => true
  | _ => bump false,
  fun b => match keyC b with
  | _ => bump false,
  fun b σ m k => match keyC b with
  | _ => bump False⟩

theorem eqn7 (x_0 : Int) (m : Mem) (k : KV) : bodyK Try.prog E7 Lam7 Try.f7 true [(.flat (.int .u32 x_0))] m k = F7 x_0 m (fun x_1000 m' => k (.flat (.bool x_1000)) m') := by
  kernel_rfl

theorem fs7 (w0 : World) : FS Try.prog w0 7 G7 := by
  refine (fs_body (Γ := E7) (sound_env (l := [(8, G8), (13, G13), (15, G15), (16, G16), (17, G17)]) w0 (by
    intro p hp
    simp only [List.mem_cons, List.not_mem_nil, or_false] at hp
    rcases hp with rfl | rfl | rfl | rfl | rfl
    · exact fs8 w0
    · exact fs13 w0
    · exact fs15 w0
    · exact fs16 w0
    · exact fs17 w0)) (by kernel_rfl) Try.func7 (Λ := Lam7) (c := (bodyOf Try.f7)) (by kernel_rfl) Try.call7 (by kernel_rfl) (LS_of (bodyOf Try.f7) 0 (by kernel_rfl) (fun i hi => absurd hi (Nat.not_lt_zero i)) 0 (by kernel_rfl) (fun i hi => absurd hi (Nat.not_lt_zero i))) true (np := 1) (Nat.le_of_ble_eq_true (by kernel_rfl))).imp fun args => ?_
  by_cases hl : args.length = 1
  rotate_left
  · exact .inr fun m k hk => by
      unfold G7 at hk
      split at hk
      · exact hl rfl
      · exact hk
  obtain ⟨a0, rfl⟩ : ∃ a0, args = [a0] := len_list1 hl
  rcases kI_or .u32 a0 with ⟨x_0, rfl⟩ | h
  rotate_left
  · exact .inr fun m k hk => h _ (by simpa only [G7, kI, kbool, kS, kptr, kaggN, kite, decide_true, eq_self] using hk)
  exact .inl fun m k => propext ⟨fun h => ⟨rfl, by rw [eqn7]; simpa only [G7, kI, kbool, kS, kptr, kaggN, kite, decide_true, eq_self] using h⟩, fun h => by have h := h.2; rw [eqn7] at h; simpa only [G7, kI, kbool, kS, kptr, kaggN, kite, decide_true, eq_self] using h⟩

/-- pianola/pianolalaw3.known -/
def F9  (m : Mem) (k : Bool → Mem → Prop) : Prop :=
  F12 (upd (upd (Z6) 0 (.flat (.int .i64 1))) 4 (.flat (.int .i64 32))) m fun x1 x2 m3 => F12 (upd (upd (upd (upd (Z6) 0 (.flat (.int .i64 47))) 1 (.flat (.int .i64 1))) 2 (.flat (.int .i64 2))) 5 (.flat (.int .u32 5))) m3 fun x4 x5 m6 => F13 0 m6 fun c7 m8 => geq K27 c7 (upd (Z6) 0 (.flat (.int .i64 1))) fun x9 => kif x9 (F13 4294967295 m8 fun c10 m11 => kI .i64 (c10 0) fun x12 => kif (x12 == 0) (kif (!x2) (kif x5 (kif (x4 == 606208005) (F15 (upd (Z6) 0 (.flat (.int .i64 40))) m11 fun x13 m14 => (Keeps m m14 ∧ k (x13 == 3) m)) ((Keeps m m11 ∧ k false m))) ((Keeps m m11 ∧ k false m))) ((Keeps m m11 ∧ k false m))) ((Keeps m m11 ∧ k false m))) ((Keeps m m8 ∧ k false m))

def G9 (args : List AV) (m : Mem) (k : KV) : Prop := match args with
  | [] => F9  m (fun x_1000 m' => k (.flat (.bool x_1000)) m')
  | _ => False

def E9 : Env := envOf [(12, G12), (13, G13), (15, G15)]

def Lam9 : LEnv := ⟨fun a σ m k => match firstReg a with
  | _ => bump False,
  fun id => match id with
  | _ => bump false,
  fun b => match keyC b with
  | _ => bump false,
  fun b σ m k => match keyC b with
  | _ => bump False⟩

theorem eqn9  (m : Mem) (k : KV) : bodyK Try.prog E9 Lam9 Try.f9 true [] m k = F9  m (fun x_1000 m' => k (.flat (.bool x_1000)) m') := by
  kernel_rfl

theorem fs9 (w0 : World) : FS Try.prog w0 9 G9 := by
  refine (fs_body (Γ := E9) (sound_env (l := [(12, G12), (13, G13), (15, G15)]) w0 (by
    intro p hp
    simp only [List.mem_cons, List.not_mem_nil, or_false] at hp
    rcases hp with rfl | rfl | rfl
    · exact fs12 w0
    · exact fs13 w0
    · exact fs15 w0)) (by kernel_rfl) Try.func9 (Λ := Lam9) (c := (bodyOf Try.f9)) (by kernel_rfl) Try.call9 (by kernel_rfl) (LS_of (bodyOf Try.f9) 0 (by kernel_rfl) (fun i hi => absurd hi (Nat.not_lt_zero i)) 0 (by kernel_rfl) (fun i hi => absurd hi (Nat.not_lt_zero i))) true (np := 0) (Nat.le_of_ble_eq_true (by kernel_rfl))).imp fun args => ?_
  by_cases hl : args.length = 0
  rotate_left
  · exact .inr fun m k hk => by
      unfold G9 at hk
      split at hk
      · exact hl rfl
      · exact hk
  obtain rfl : args = [] := len_list0 hl

  exact .inl fun m k => propext ⟨fun h => ⟨rfl, by rw [eqn9]; simpa only [G9, kI, kbool, kS, kptr, kaggN, kite, decide_true, eq_self] using h⟩, fun h => by have h := h.2; rw [eqn9] at h; simpa only [G9, kI, kbool, kS, kptr, kaggN, kite, decide_true, eq_self] using h⟩

def P3_47102 (x_5 : Int) (x_6 : Int) (b_7 o_7 : Nat) (m : Mem) (kr : Bool → Mem → Prop) (kn : Mem → Prop) : Prop :=
  ldG 6 m b_7 o_7 fun c40 => F8 c40 m fun x41 m42 => kif (!x41) (kr false m42) (kn  m42)

def R3_17 (x_5 : Int) (x_6 : Int) (m : Mem) (kn : Int → Mem → Prop) (k8 : Mem → Prop) (kr : Bool → Mem → Prop) : Prop :=
  kif (decide (x_6 < 14)) (newK m ⟨6, Z6, 27, false⟩ fun b23 m22 => stG 6 m22 b23 0 (upd (Z6) 0 (.flat (.int .i64 x_5))) fun m24 => kif (x_6 == 1) (stC m24 b23 1 (.flat (.int .i64 31)) fun m25 => P3_47102 x_5 x_6 b23 0 m25 (fun x43 m44 => kr x43 m44) (fun m45 => kn (IntKind.wrap .i64 (x_6 + 1)) m45)) (kif (x_6 == 2) (stC m24 b23 2 (.flat (.int .i64 31)) fun m26 => P3_47102 x_5 x_6 b23 0 m26 (fun x46 m47 => kr x46 m47) (fun m48 => kn (IntKind.wrap .i64 (x_6 + 1)) m48)) (kif (x_6 == 3) (stC m24 b23 3 (.flat (.int .i64 31)) fun m27 => P3_47102 x_5 x_6 b23 0 m27 (fun x49 m50 => kr x49 m50) (fun m51 => kn (IntKind.wrap .i64 (x_6 + 1)) m51)) (kif (x_6 == 4) (stC m24 b23 4 (.flat (.int .i64 31)) fun m28 => P3_47102 x_5 x_6 b23 0 m28 (fun x52 m53 => kr x52 m53) (fun m54 => kn (IntKind.wrap .i64 (x_6 + 1)) m54)) (kif (x_6 == 5) (stC m24 b23 5 (.flat (.int .u32 65535)) fun m29 => P3_47102 x_5 x_6 b23 0 m29 (fun x55 m56 => kr x55 m56) (fun m57 => kn (IntKind.wrap .i64 (x_6 + 1)) m57)) (kif (x_6 == 6) (stC m24 b23 5 (.flat (.int .u32 67108863)) fun m30 => P3_47102 x_5 x_6 b23 0 m30 (fun x58 m59 => kr x58 m59) (fun m60 => kn (IntKind.wrap .i64 (x_6 + 1)) m60)) (kif (x_6 == 7) (stC m24 b23 1 (.flat (.int .i64 32)) fun m31 => P3_47102 x_5 x_6 b23 0 m31 (fun x61 m62 => kr x61 m62) (fun m63 => kn (IntKind.wrap .i64 (x_6 + 1)) m63)) (kif (x_6 == 8) (stC m24 b23 2 (.flat (.int .i64 (-1))) fun m32 => P3_47102 x_5 x_6 b23 0 m32 (fun x64 m65 => kr x64 m65) (fun m66 => kn (IntKind.wrap .i64 (x_6 + 1)) m66)) (kif (x_6 == 9) (stC m24 b23 3 (.flat (.int .i64 32)) fun m33 => P3_47102 x_5 x_6 b23 0 m33 (fun x67 m68 => kr x67 m68) (fun m69 => kn (IntKind.wrap .i64 (x_6 + 1)) m69)) (kif (x_6 == 10) (stC m24 b23 4 (.flat (.int .i64 (-1))) fun m34 => P3_47102 x_5 x_6 b23 0 m34 (fun x70 m71 => kr x70 m71) (fun m72 => kn (IntKind.wrap .i64 (x_6 + 1)) m72)) (kif (x_6 == 11) (stC m24 b23 5 (.flat (.int .u32 65536)) fun m35 => P3_47102 x_5 x_6 b23 0 m35 (fun x73 m74 => kr x73 m74) (fun m75 => kn (IntKind.wrap .i64 (x_6 + 1)) m75)) (kif (x_6 == 12) (stC m24 b23 5 (.flat (.int .u32 67108864)) fun m36 => P3_47102 x_5 x_6 b23 0 m36 (fun x76 m77 => kr x76 m77) (fun m78 => kn (IntKind.wrap .i64 (x_6 + 1)) m78)) (kif (x_6 == 13) (stC m24 b23 1 (.flat (.int .i64 1)) fun m37 => stC m37 b23 2 (.flat (.int .i64 2)) fun m38 => stC m38 b23 3 (.flat (.int .i64 3)) fun m39 => P3_47102 x_5 x_6 b23 0 m39 (fun x79 m80 => kr x79 m80) (fun m81 => kn (IntKind.wrap .i64 (x_6 + 1)) m81)) (P3_47102 x_5 x_6 b23 0 m24 (fun x82 m83 => kr x82 m83) (fun m84 => kn (IntKind.wrap .i64 (x_6 + 1)) m84))))))))))))))) (k8  m)

def L3_17 (x_5 : Int) : Nat → Int → Mem → (Mem → Prop) → (Bool → Mem → Prop) → Prop
  | 0, _,  _, _, _ => bump False
  | N + 1, x_6,  m, k8, kr => R3_17 x_5 x_6 m (fun x_6' m' => L3_17 x_5 N x_6' m' k8 kr) k8 kr

def R3_14  (x_5 : Int) (m : Mem) (kn : Int → Mem → Prop) (k6 : Mem → Prop) (kr : Bool → Mem → Prop) : Prop :=
  kif (decide (x_5 < 81)) (∃ N88, L3_17 x_5 N88 0 m (fun m85 => kn (IntKind.wrap .i64 (x_5 + 1)) m85) (fun x86 m87 => kr x86 m87)) (k6  m)

def L3_14  : Nat → Int → Mem → (Mem → Prop) → (Bool → Mem → Prop) → Prop
  | 0, _,  _, _, _ => bump False
  | N + 1, x_5,  m, k6, kr => R3_14  x_5 m (fun x_5' m' => L3_14  N x_5' m' k6 kr) k6 kr

def R3_8 (x_1 : Int) (x_2 : Int) (v_30 : AV) (x_31 : Int) (x_32 : Int) (m : Mem) (kn : Int → Mem → Prop) (k4 : Mem → Prop) (kr : Bool → Mem → Prop) : Prop :=
  kif (decide (x_32 < x_31)) (ksl v_30 fun b3 o4 l5 p6 => kif (decide (0 ≤ x_32) && decide (x_32 < l5)) (ldI .u32 m b3 (o4 + (x_32).toNat * 1) fun x7 => F7 (bits .or .u32 (IntKind.wrap .u32 (x_1 * 67108864)) x7) m fun x8 m9 => kif (!x8) (kr false m9) (kn (IntKind.wrap .i64 (x_32 + 1)) m9)) False) (k4  m)

def L3_8 (x_1 : Int) (x_2 : Int) (v_30 : AV) (x_31 : Int) : Nat → Int → Mem → (Mem → Prop) → (Bool → Mem → Prop) → Prop
  | 0, _,  _, _, _ => bump False
  | N + 1, x_32,  m, k4, kr => R3_8 x_1 x_2 v_30 x_31 x_32 m (fun x_32' m' => L3_8 x_1 x_2 v_30 x_31 N x_32' m' k4 kr) k4 kr

def R3_5 (x_1 : Int) (x_2 : Int) (m : Mem) (kn : Int → Mem → Prop) (k2 : Mem → Prop) (kr : Bool → Mem → Prop) : Prop :=
  kif (decide (x_2 < 64)) (newK m ⟨6, upd (upd (upd (upd (upd (upd (Z6b) 0 (.flat (.int .u32 x_2))) 1 (.flat (.int .u32 (bits .and .u32 (IntKind.wrap .u32 (x_2 * 65536)) 2031616)))) 2 (.flat (.int .u32 (bits .and .u32 (IntKind.wrap .u32 (x_2 * 2097152)) 65011712)))) 3 (.flat (.int .u32 (bits .or .u32 33554432 x_2)))) 4 (.flat (.int .u32 (bits .or .u32 (IntKind.wrap .u32 (x_2 * 64)) 63)))) 5 (.flat (.int .u32 (IntKind.wrap .u32 (67108863 - x_2)))), 22, false⟩ fun b2 m1 => ∃ N13, L3_8 x_1 x_2 (.sl b2 0 6 (.ex 6)) 6 N13 0 m1 (fun m10 => kn (IntKind.wrap .u32 (x_2 + 1)) m10) (fun x11 m12 => kr x11 m12)) (k2  m)

def L3_5 (x_1 : Int) : Nat → Int → Mem → (Mem → Prop) → (Bool → Mem → Prop) → Prop
  | 0, _,  _, _, _ => bump False
  | N + 1, x_2,  m, k2, kr => R3_5 x_1 x_2 m (fun x_2' m' => L3_5 x_1 N x_2' m' k2 kr) k2 kr

def R3_2  (x_1 : Int) (m : Mem) (kn : Int → Mem → Prop) (k0 : Mem → Prop) (kr : Bool → Mem → Prop) : Prop :=
  kif (decide (x_1 < 64)) (∃ N17, L3_5 x_1 N17 0 m (fun m14 => kn (IntKind.wrap .u32 (x_1 + 1)) m14) (fun x15 m16 => kr x15 m16)) (k0  m)

def L3_2  : Nat → Int → Mem → (Mem → Prop) → (Bool → Mem → Prop) → Prop
  | 0, _,  _, _, _ => bump False
  | N + 1, x_1,  m, k0, kr => R3_2  x_1 m (fun x_1' m' => L3_2  N x_1' m' k0 kr) k0 kr

/-- pianola/pianolalaw3.DecodeNumbers -/
def F3  (m : Mem) (k : Bool → Mem → Prop) : Prop :=
  ∃ N21, L3_2  N21 0 m (fun m18 => ∃ N92, L3_14  N92 (-2) m18 (fun m89 => F9  m89 fun x93 m94 => k x93 m94) (fun x90 m91 => k x90 m91)) (fun x19 m20 => k x19 m20)

def G3 (args : List AV) (m : Mem) (k : KV) : Prop := match args with
  | [] => F3  m (fun x_1000 m' => k (.flat (.bool x_1000)) m')
  | _ => False

def E3 : Env := envOf [(7, G7), (8, G8), (9, G9)]

def Lam3_2 (σ : Nat → AV) (m : Mem) (k : KX) : Prop := kI .u32 (σ 1) fun x_1 => ∃ N, L3_2  N x_1 m (fun m' => k (.exit 0) (only [] []) m') (fun x_0' m' => k .ret (only [0] [(.flat (.bool x_0'))]) m')

def Lam3_5 (σ : Nat → AV) (m : Mem) (k : KX) : Prop := kI .u32 (σ 1) fun x_1 => kI .u32 (σ 2) fun x_2 => ∃ N, L3_5 x_1 N x_2 m (fun m' => k (.exit 2) (only [1] [(.flat (.int .u32 x_1))]) m') (fun x_0' m' => k .ret (only [0] [(.flat (.bool x_0'))]) m')

def Lam3_8 (σ : Nat → AV) (m : Mem) (k : KX) : Prop := kI .u32 (σ 1) fun x_1 => kI .u32 (σ 2) fun x_2 => kI .i64 (σ 31) fun x_31 => kI .i64 (σ 32) fun x_32 => ∃ N, L3_8 x_1 x_2 (σ 30) x_31 N x_32 m (fun m' => k (.exit 4) (only [1, 2] [(.flat (.int .u32 x_1)), (.flat (.int .u32 x_2))]) m') (fun x_0' m' => k .ret (only [0] [(.flat (.bool x_0'))]) m')

def Lam3_14 (σ : Nat → AV) (m : Mem) (k : KX) : Prop := kI .i64 (σ 5) fun x_5 => ∃ N, L3_14  N x_5 m (fun m' => k (.exit 6) (only [] []) m') (fun x_0' m' => k .ret (only [0] [(.flat (.bool x_0'))]) m')

def Lam3_17 (σ : Nat → AV) (m : Mem) (k : KX) : Prop := kI .i64 (σ 5) fun x_5 => kI .i64 (σ 6) fun x_6 => ∃ N, L3_17 x_5 N x_6 m (fun m' => k (.exit 8) (only [5] [(.flat (.int .i64 x_5))]) m') (fun x_0' m' => k .ret (only [0] [(.flat (.bool x_0'))]) m')

def LamP3_47102 (σ : Nat → AV) (m : Mem) (k : KX) : Prop := kI .i64 (σ 5) fun x_5 => kI .i64 (σ 6) fun x_6 => kptr (σ 7) fun b_7 o_7 => P3_47102 x_5 x_6 b_7 o_7 m (fun x_0' m' => k .ret (only [0] [(.flat (.bool x_0'))]) m') (fun m' => k .normal (only [5, 6] [(.flat (.int .i64 x_5)), (.flat (.int .i64 x_6))]) m')

def Lam3 : LEnv := ⟨fun a σ m k => match firstReg a with
  | some 2 => Lam3_2 σ m k
  | some 5 => Lam3_5 σ m k
  | some 8 => Lam3_8 σ m k
  | some 14 => Lam3_14 σ m k
  | some 17 => Lam3_17 σ m k
  | _ => bump False,
  fun id => match id with
  | _ => bump false,
  fun b => match keyC b with
  | some 47102 => true
  | _ => bump false,
  fun b σ m k => match keyC b with
  | some 47102 => LamP3_47102 σ m k
  | _ => bump False⟩

def lxp3_47102 : Ex → List Nat := fun e => match e with
  | .ret => [0]
  | .normal => [5, 6]
  | _ => []

theorem pc3_47102 (x_5 : Int) (x_6 : Int) (b_7 o_7 : Nat) (m : Mem) (k : KX) : once Try.prog E3 Lam3 [5, 6, 7] lxp3_47102 (((secsOf (bodyOf Try.f3)).filter Lam3.cut).getD 0 .skip) [(.flat (.int .i64 x_5)), (.flat (.int .i64 x_6)), (.ptr b_7 o_7)] m k = P3_47102 x_5 x_6 b_7 o_7 m (fun x_0' m' => k .ret (only [0] [(.flat (.bool x_0'))]) m') (fun m' => k .normal (only [5, 6] [(.flat (.int .i64 x_5)), (.flat (.int .i64 x_6))]) m') := by
  kernel_rfl

theorem pok3_47102 : PieceOK Try.prog E3 Lam3 (((secsOf (bodyOf Try.f3)).filter Lam3.cut).getD 0 .skip) := by
  refine ⟨fun σ => ∃ x_5 x_6 b_7 o_7, σ 5 = .flat (.int .i64 x_5) ∧ σ 6 = .flat (.int .i64 x_6) ∧ σ 7 = .ptr b_7 o_7, [5, 6, 7], lxp3_47102, fun σ m k => ?_⟩
  have e : Lam3.piece (((secsOf (bodyOf Try.f3)).filter Lam3.cut).getD 0 .skip) σ m k = LamP3_47102 σ m k := by kernel_rfl
  rw [e]
  constructor
  · intro h
    unfold LamP3_47102 at h
    obtain ⟨x_5, h0, h⟩ := kI_ok h
    obtain ⟨x_6, h1, h⟩ := kI_ok h
    obtain ⟨b_7, o_7, h2, h⟩ := kptr_ok h
    refine ⟨⟨x_5, x_6, b_7, o_7, h0, h1, h2⟩, ?_⟩
    have ev : [5, 6, 7].map σ = [(.flat (.int .i64 x_5)), (.flat (.int .i64 x_6)), (.ptr b_7 o_7)] := by simp only [List.map_cons, List.map_nil, h0, h1, h2]
    rw [ev, pc3_47102]
    exact h
  · rintro ⟨⟨x_5, x_6, b_7, o_7, h0, h1, h2⟩, h⟩
    have ev : [5, 6, 7].map σ = [(.flat (.int .i64 x_5)), (.flat (.int .i64 x_6)), (.ptr b_7 o_7)] := by simp only [List.map_cons, List.map_nil, h0, h1, h2]
    rw [ev, pc3_47102] at h
    unfold LamP3_47102
    try simp only [h0, h1, h2, kI, kbool, kS, kptr, kaggN, kite, decide_true, eq_self]
    exact h

def lx3_17 : Ex → List Nat := fun e => match e with
  | .exit 8 => [5]
  | .ret => [0]
  | _ => []

theorem round3_17 (x_5 : Int) (x_6 : Int) (m : Mem) (G : List AV → Mem → Prop) (k : KX) : (wpA Try.prog E3 Lam3 ((loopsOf (bodyOf Try.f3)).getD 4 .skip) (only [5, 6] [(.flat (.int .i64 x_5)), (.flat (.int .i64 x_6))]) m fun e σ' m' => match e with
    | .normal => G ([5, 6].map σ') m'
    | .exit id => k (.exit id) (only (lx3_17 (.exit id)) ((lx3_17 (.exit id)).map σ')) m'
    | .ret => k .ret (only (lx3_17 .ret) ((lx3_17 .ret).map σ')) m') = R3_17 x_5 x_6 m (fun x_6' m' => G [(.flat (.int .i64 x_5)), (.flat (.int .i64 x_6'))] m') (fun m' => k (.exit 8) (only [5] [(.flat (.int .i64 x_5))]) m') (fun x_0' m' => k .ret (only [0] [(.flat (.bool x_0'))]) m') := by
  kernel_rfl

theorem loop3_17 (x_5 : Int) (k : KX) : ∀ (N : Nat) (x_6 : Int) (m : Mem), rounds Try.prog E3 Lam3 [5, 6] lx3_17 ((loopsOf (bodyOf Try.f3)).getD 4 .skip) N [(.flat (.int .i64 x_5)), (.flat (.int .i64 x_6))] m k = L3_17 x_5 N x_6 m (fun m' => k (.exit 8) (only [5] [(.flat (.int .i64 x_5))]) m') (fun x_0' m' => k .ret (only [0] [(.flat (.bool x_0'))]) m') := by
  intro N
  induction N with
  | zero => intros; rfl
  | succ N ih =>
    intro x_6 m
    refine (round3_17 x_5 x_6 m (fun vs m' => rounds Try.prog E3 Lam3 [5, 6] lx3_17 ((loopsOf (bodyOf Try.f3)).getD 4 .skip) N vs m' k) k).trans ?_
    simp only [ih]
    rfl

theorem lok3_17 : LoopOK Try.prog E3 Lam3 ((loopsOf (bodyOf Try.f3)).getD 4 .skip) := by
  refine ⟨fun σ => ∃ x_5 x_6, σ 5 = .flat (.int .i64 x_5) ∧ σ 6 = .flat (.int .i64 x_6), [5, 6], lx3_17, fun σ m k => ?_⟩
  have e : Lam3.loop ((loopsOf (bodyOf Try.f3)).getD 4 .skip) σ m k = Lam3_17 σ m k := by kernel_rfl
  rw [e]
  constructor
  · intro h
    unfold Lam3_17 at h
    obtain ⟨x_5, h0, h⟩ := kI_ok h
    obtain ⟨x_6, h1, h⟩ := kI_ok h
    obtain ⟨N, h⟩ := h
    refine ⟨⟨x_5, x_6, h0, h1⟩, N, ?_⟩
    have ev : [5, 6].map σ = [(.flat (.int .i64 x_5)), (.flat (.int .i64 x_6))] := by simp only [List.map_cons, List.map_nil, h0, h1]
    rw [ev, loop3_17]
    exact h
  · rintro ⟨⟨x_5, x_6, h0, h1⟩, N, h⟩
    have ev : [5, 6].map σ = [(.flat (.int .i64 x_5)), (.flat (.int .i64 x_6))] := by simp only [List.map_cons, List.map_nil, h0, h1]
    rw [ev, loop3_17] at h
    unfold Lam3_17
    try simp only [h0, h1, kI, kbool, kS, kptr, kaggN, kite, decide_true, eq_self]
    exact ⟨N, h⟩

def lx3_14 : Ex → List Nat := fun e => match e with
  | .exit 6 => []
  | .ret => [0]
  | _ => []

theorem round3_14  (x_5 : Int) (m : Mem) (G : List AV → Mem → Prop) (k : KX) : (wpA Try.prog E3 Lam3 ((loopsOf (bodyOf Try.f3)).getD 3 .skip) (only [5] [(.flat (.int .i64 x_5))]) m fun e σ' m' => match e with
    | .normal => G ([5].map σ') m'
    | .exit id => k (.exit id) (only (lx3_14 (.exit id)) ((lx3_14 (.exit id)).map σ')) m'
    | .ret => k .ret (only (lx3_14 .ret) ((lx3_14 .ret).map σ')) m') = R3_14  x_5 m (fun x_5' m' => G [(.flat (.int .i64 x_5'))] m') (fun m' => k (.exit 6) (only [] []) m') (fun x_0' m' => k .ret (only [0] [(.flat (.bool x_0'))]) m') := by
  kernel_rfl

theorem loop3_14  (k : KX) : ∀ (N : Nat) (x_5 : Int) (m : Mem), rounds Try.prog E3 Lam3 [5] lx3_14 ((loopsOf (bodyOf Try.f3)).getD 3 .skip) N [(.flat (.int .i64 x_5))] m k = L3_14  N x_5 m (fun m' => k (.exit 6) (only [] []) m') (fun x_0' m' => k .ret (only [0] [(.flat (.bool x_0'))]) m') := by
  intro N
  induction N with
  | zero => intros; rfl
  | succ N ih =>
    intro x_5 m
    refine (round3_14  x_5 m (fun vs m' => rounds Try.prog E3 Lam3 [5] lx3_14 ((loopsOf (bodyOf Try.f3)).getD 3 .skip) N vs m' k) k).trans ?_
    simp only [ih]
    rfl

theorem lok3_14 : LoopOK Try.prog E3 Lam3 ((loopsOf (bodyOf Try.f3)).getD 3 .skip) := by
  refine ⟨fun σ => ∃ x_5, σ 5 = .flat (.int .i64 x_5), [5], lx3_14, fun σ m k => ?_⟩
  have e : Lam3.loop ((loopsOf (bodyOf Try.f3)).getD 3 .skip) σ m k = Lam3_14 σ m k := by kernel_rfl
  rw [e]
  constructor
  · intro h
    unfold Lam3_14 at h
    obtain ⟨x_5, h0, h⟩ := kI_ok h
    obtain ⟨N, h⟩ := h
    refine ⟨⟨x_5, h0⟩, N, ?_⟩
    have ev : [5].map σ = [(.flat (.int .i64 x_5))] := by simp only [List.map_cons, List.map_nil, h0]
    rw [ev, loop3_14]
    exact h
  · rintro ⟨⟨x_5, h0⟩, N, h⟩
    have ev : [5].map σ = [(.flat (.int .i64 x_5))] := by simp only [List.map_cons, List.map_nil, h0]
    rw [ev, loop3_14] at h
    unfold Lam3_14
    try simp only [h0, kI, kbool, kS, kptr, kaggN, kite, decide_true, eq_self]
    exact ⟨N, h⟩

def lx3_8 : Ex → List Nat := fun e => match e with
  | .exit 4 => [1, 2]
  | .ret => [0]
  | _ => []

theorem round3_8 (x_1 : Int) (x_2 : Int) (v_30 : AV) (x_31 : Int) (x_32 : Int) (m : Mem) (G : List AV → Mem → Prop) (k : KX) : (wpA Try.prog E3 Lam3 ((loopsOf (bodyOf Try.f3)).getD 2 .skip) (only [1, 2, 30, 31, 32] [(.flat (.int .u32 x_1)), (.flat (.int .u32 x_2)), v_30, (.flat (.int .i64 x_31)), (.flat (.int .i64 x_32))]) m fun e σ' m' => match e with
    | .normal => G ([1, 2, 30, 31, 32].map σ') m'
    | .exit id => k (.exit id) (only (lx3_8 (.exit id)) ((lx3_8 (.exit id)).map σ')) m'
    | .ret => k .ret (only (lx3_8 .ret) ((lx3_8 .ret).map σ')) m') = R3_8 x_1 x_2 v_30 x_31 x_32 m (fun x_32' m' => G [(.flat (.int .u32 x_1)), (.flat (.int .u32 x_2)), v_30, (.flat (.int .i64 x_31)), (.flat (.int .i64 x_32'))] m') (fun m' => k (.exit 4) (only [1, 2] [(.flat (.int .u32 x_1)), (.flat (.int .u32 x_2))]) m') (fun x_0' m' => k .ret (only [0] [(.flat (.bool x_0'))]) m') := by
  kernel_rfl

theorem loop3_8 (x_1 : Int) (x_2 : Int) (v_30 : AV) (x_31 : Int) (k : KX) : ∀ (N : Nat) (x_32 : Int) (m : Mem), rounds Try.prog E3 Lam3 [1, 2, 30, 31, 32] lx3_8 ((loopsOf (bodyOf Try.f3)).getD 2 .skip) N [(.flat (.int .u32 x_1)), (.flat (.int .u32 x_2)), v_30, (.flat (.int .i64 x_31)), (.flat (.int .i64 x_32))] m k = L3_8 x_1 x_2 v_30 x_31 N x_32 m (fun m' => k (.exit 4) (only [1, 2] [(.flat (.int .u32 x_1)), (.flat (.int .u32 x_2))]) m') (fun x_0' m' => k .ret (only [0] [(.flat (.bool x_0'))]) m') := by
  intro N
  induction N with
  | zero => intros; rfl
  | succ N ih =>
    intro x_32 m
    refine (round3_8 x_1 x_2 v_30 x_31 x_32 m (fun vs m' => rounds Try.prog E3 Lam3 [1, 2, 30, 31, 32] lx3_8 ((loopsOf (bodyOf Try.f3)).getD 2 .skip) N vs m' k) k).trans ?_
    simp only [ih]
    rfl

theorem lok3_8 : LoopOK Try.prog E3 Lam3 ((loopsOf (bodyOf Try.f3)).getD 2 .skip) := by
  refine ⟨fun σ => ∃ x_1 x_2 v_30 x_31 x_32, σ 1 = .flat (.int .u32 x_1) ∧ σ 2 = .flat (.int .u32 x_2) ∧ σ 30 = v_30 ∧ σ 31 = .flat (.int .i64 x_31) ∧ σ 32 = .flat (.int .i64 x_32), [1, 2, 30, 31, 32], lx3_8, fun σ m k => ?_⟩
  have e : Lam3.loop ((loopsOf (bodyOf Try.f3)).getD 2 .skip) σ m k = Lam3_8 σ m k := by kernel_rfl
  rw [e]
  constructor
  · intro h
    unfold Lam3_8 at h
    obtain ⟨x_1, h0, h⟩ := kI_ok h
    obtain ⟨x_2, h1, h⟩ := kI_ok h
    obtain ⟨v_30, h2⟩ : ∃ v, σ 30 = v := ⟨_, rfl⟩
    obtain ⟨x_31, h3, h⟩ := kI_ok h
    obtain ⟨x_32, h4, h⟩ := kI_ok h
    obtain ⟨N, h⟩ := h
    refine ⟨⟨x_1, x_2, v_30, x_31, x_32, h0, h1, h2, h3, h4⟩, N, ?_⟩
    have ev : [1, 2, 30, 31, 32].map σ = [(.flat (.int .u32 x_1)), (.flat (.int .u32 x_2)), v_30, (.flat (.int .i64 x_31)), (.flat (.int .i64 x_32))] := by simp only [List.map_cons, List.map_nil, h0, h1, h2, h3, h4]
    rw [ev, loop3_8]
    simp only [h2] at h
    exact h
  · rintro ⟨⟨x_1, x_2, v_30, x_31, x_32, h0, h1, h2, h3, h4⟩, N, h⟩
    have ev : [1, 2, 30, 31, 32].map σ = [(.flat (.int .u32 x_1)), (.flat (.int .u32 x_2)), v_30, (.flat (.int .i64 x_31)), (.flat (.int .i64 x_32))] := by simp only [List.map_cons, List.map_nil, h0, h1, h2, h3, h4]
    rw [ev, loop3_8] at h
    unfold Lam3_8
    try simp only [h0, h1, h2, h3, h4, kI, kbool, kS, kptr, kaggN, kite, decide_true, eq_self]
    exact ⟨N, h⟩

def lx3_5 : Ex → List Nat := fun e => match e with
  | .exit 2 => [1]
  | .ret => [0]
  | _ => []

theorem round3_5 (x_1 : Int) (x_2 : Int) (m : Mem) (G : List AV → Mem → Prop) (k : KX) : (wpA Try.prog E3 Lam3 ((loopsOf (bodyOf Try.f3)).getD 1 .skip) (only [1, 2] [(.flat (.int .u32 x_1)), (.flat (.int .u32 x_2))]) m fun e σ' m' => match e with
    | .normal => G ([1, 2].map σ') m'
    | .exit id => k (.exit id) (only (lx3_5 (.exit id)) ((lx3_5 (.exit id)).map σ')) m'
    | .ret => k .ret (only (lx3_5 .ret) ((lx3_5 .ret).map σ')) m') = R3_5 x_1 x_2 m (fun x_2' m' => G [(.flat (.int .u32 x_1)), (.flat (.int .u32 x_2'))] m') (fun m' => k (.exit 2) (only [1] [(.flat (.int .u32 x_1))]) m') (fun x_0' m' => k .ret (only [0] [(.flat (.bool x_0'))]) m') := by
  kernel_rfl

theorem loop3_5 (x_1 : Int) (k : KX) : ∀ (N : Nat) (x_2 : Int) (m : Mem), rounds Try.prog E3 Lam3 [1, 2] lx3_5 ((loopsOf (bodyOf Try.f3)).getD 1 .skip) N [(.flat (.int .u32 x_1)), (.flat (.int .u32 x_2))] m k = L3_5 x_1 N x_2 m (fun m' => k (.exit 2) (only [1] [(.flat (.int .u32 x_1))]) m') (fun x_0' m' => k .ret (only [0] [(.flat (.bool x_0'))]) m') := by
  intro N
  induction N with
  | zero => intros; rfl
  | succ N ih =>
    intro x_2 m
    refine (round3_5 x_1 x_2 m (fun vs m' => rounds Try.prog E3 Lam3 [1, 2] lx3_5 ((loopsOf (bodyOf Try.f3)).getD 1 .skip) N vs m' k) k).trans ?_
    simp only [ih]
    rfl

theorem lok3_5 : LoopOK Try.prog E3 Lam3 ((loopsOf (bodyOf Try.f3)).getD 1 .skip) := by
  refine ⟨fun σ => ∃ x_1 x_2, σ 1 = .flat (.int .u32 x_1) ∧ σ 2 = .flat (.int .u32 x_2), [1, 2], lx3_5, fun σ m k => ?_⟩
  have e : Lam3.loop ((loopsOf (bodyOf Try.f3)).getD 1 .skip) σ m k = Lam3_5 σ m k := by kernel_rfl
  rw [e]
  constructor
  · intro h
    unfold Lam3_5 at h
    obtain ⟨x_1, h0, h⟩ := kI_ok h
    obtain ⟨x_2, h1, h⟩ := kI_ok h
    obtain ⟨N, h⟩ := h
    refine ⟨⟨x_1, x_2, h0, h1⟩, N, ?_⟩
    have ev : [1, 2].map σ = [(.flat (.int .u32 x_1)), (.flat (.int .u32 x_2))] := by simp only [List.map_cons, List.map_nil, h0, h1]
    rw [ev, loop3_5]
    exact h
  · rintro ⟨⟨x_1, x_2, h0, h1⟩, N, h⟩
    have ev : [1, 2].map σ = [(.flat (.int .u32 x_1)), (.flat (.int .u32 x_2))] := by simp only [List.map_cons, List.map_nil, h0, h1]
    rw [ev, loop3_5] at h
    unfold Lam3_5
    try simp only [h0, h1, kI, kbool, kS, kptr, kaggN, kite, decide_true, eq_self]
    exact ⟨N, h⟩

def lx3_2 : Ex → List Nat := fun e => match e with
  | .exit 0 => []
  | .ret => [0]
  | _ => []

theorem round3_2  (x_1 : Int) (m : Mem) (G : List AV → Mem → Prop) (k : KX) : (wpA Try.prog E3 Lam3 ((loopsOf (bodyOf Try.f3)).getD 0 .skip) (only [1] [(.flat (.int .u32 x_1))]) m fun e σ' m' => match e with
    | .normal => G ([1].map σ') m'
    | .exit id => k (.exit id) (only (lx3_2 (.exit id)) ((lx3_2 (.exit id)).map σ')) m'
    | .ret => k .ret (only (lx3_2 .ret) ((lx3_2 .ret).map σ')) m') = R3_2  x_1 m (fun x_1' m' => G [(.flat (.int .u32 x_1'))] m') (fun m' => k (.exit 0) (only [] []) m') (fun x_0' m' => k .ret (only [0] [(.flat (.bool x_0'))]) m') := by
  kernel_rfl

theorem loop3_2  (k : KX) : ∀ (N : Nat) (x_1 : Int) (m : Mem), rounds Try.prog E3 Lam3 [1] lx3_2 ((loopsOf (bodyOf Try.f3)).getD 0 .skip) N [(.flat (.int .u32 x_1))] m k = L3_2  N x_1 m (fun m' => k (.exit 0) (only [] []) m') (fun x_0' m' => k .ret (only [0] [(.flat (.bool x_0'))]) m') := by
  intro N
  induction N with
  | zero => intros; rfl
  | succ N ih =>
    intro x_1 m
    refine (round3_2  x_1 m (fun vs m' => rounds Try.prog E3 Lam3 [1] lx3_2 ((loopsOf (bodyOf Try.f3)).getD 0 .skip) N vs m' k) k).trans ?_
    simp only [ih]
    rfl

theorem lok3_2 : LoopOK Try.prog E3 Lam3 ((loopsOf (bodyOf Try.f3)).getD 0 .skip) := by
  refine ⟨fun σ => ∃ x_1, σ 1 = .flat (.int .u32 x_1), [1], lx3_2, fun σ m k => ?_⟩
  have e : Lam3.loop ((loopsOf (bodyOf Try.f3)).getD 0 .skip) σ m k = Lam3_2 σ m k := by kernel_rfl
  rw [e]
  constructor
  · intro h
    unfold Lam3_2 at h
    obtain ⟨x_1, h0, h⟩ := kI_ok h
    obtain ⟨N, h⟩ := h
    refine ⟨⟨x_1, h0⟩, N, ?_⟩
    have ev : [1].map σ = [(.flat (.int .u32 x_1))] := by simp only [List.map_cons, List.map_nil, h0]
    rw [ev, loop3_2]
    exact h
  · rintro ⟨⟨x_1, h0⟩, N, h⟩
    have ev : [1].map σ = [(.flat (.int .u32 x_1))] := by simp only [List.map_cons, List.map_nil, h0]
    rw [ev, loop3_2] at h
    unfold Lam3_2
    try simp only [h0, kI, kbool, kS, kptr, kaggN, kite, decide_true, eq_self]
    exact ⟨N, h⟩

theorem eqn3  (m : Mem) (k : KV) : bodyK Try.prog E3 Lam3 Try.f3 false [] m k = F3  m (fun x_1000 m' => k (.flat (.bool x_1000)) m') := by
  kernel_rfl

theorem fs3 (w0 : World) : FS Try.prog w0 3 G3 := by
  refine (fs_body (Γ := E3) (sound_env (l := [(7, G7), (8, G8), (9, G9)]) w0 (by
    intro p hp
    simp only [List.mem_cons, List.not_mem_nil, or_false] at hp
    rcases hp with rfl | rfl | rfl
    · exact fs7 w0
    · exact fs8 w0
    · exact fs9 w0)) (by kernel_rfl) Try.func3 (Λ := Lam3) (c := (bodyOf Try.f3)) (by kernel_rfl) Try.call3 (by kernel_rfl) (LS_of (bodyOf Try.f3) 5 (by kernel_rfl) (by
    intro i hi
    match i, hi with
    | 0, _ => exact lok3_2
    | 1, _ => exact lok3_5
    | 2, _ => exact lok3_8
    | 3, _ => exact lok3_14
    | 4, _ => exact lok3_17
    | i + 5, hi => omega) 1 (by kernel_rfl) (by
    intro i hi
    match i, hi with
    | 0, _ => exact pok3_47102
    | i + 1, hi => omega)) false (np := 0) (Nat.le_of_ble_eq_true (by kernel_rfl))).imp fun args => ?_
  by_cases hl : args.length = 0
  rotate_left
  · exact .inr fun m k hk => by
      unfold G3 at hk
      split at hk
      · exact hl rfl
      · exact hk
  obtain rfl : args = [] := len_list0 hl

  exact .inl fun m k => propext ⟨fun h => ⟨rfl, by rw [eqn3]; simpa only [G3, kI, kbool, kS, kptr, kaggN, kite, decide_true, eq_self] using h⟩, fun h => by have h := h.2; rw [eqn3] at h; simpa only [G3, kI, kbool, kS, kptr, kaggN, kite, decide_true, eq_self] using h⟩

def P20_3102 (x_0 : Int) (x_1 : Int) (x_2 : Int) (m : Mem) (kr : Int → Mem → Prop) : Prop :=
  kif (decide (IntKind.wrap .i64 ((IntKind.wrap .i64 (x_2 - x_1)) + 1) = 0)) False (kif (decide ((x_0.tmod (IntKind.wrap .i64 ((IntKind.wrap .i64 (x_2 - x_1)) + 1))) < 0)) (kr (IntKind.wrap .i64 (x_1 + (IntKind.wrap .i64 ((IntKind.wrap .i64 ((IntKind.wrap .i64 ((x_0.tmod (IntKind.wrap .i64 ((IntKind.wrap .i64 (x_2 - x_1)) + 1))) + x_2)) - x_1)) + 1)))) m) (kr (IntKind.wrap .i64 (x_1 + (x_0.tmod (IntKind.wrap .i64 ((IntKind.wrap .i64 (x_2 - x_1)) + 1))))) m))

/-- pianola/pianolabook.Within -/
def F20 (x_0 : Int) (x_1 : Int) (x_2 : Int) (m : Mem) (k : Int → Mem → Prop) : Prop :=
  kif (decide (x_0 ≥ x_1)) (kif (decide (x_0 ≤ x_2)) ((Keeps m m ∧ k x_0 m)) (P20_3102 x_0 x_1 x_2 m (fun x1 m2 => (Keeps m m2 ∧ k x1 m)))) (P20_3102 x_0 x_1 x_2 m (fun x3 m4 => (Keeps m m4 ∧ k x3 m)))

def G20 (args : List AV) (m : Mem) (k : KV) : Prop := match args with
  | [a0, a1, a2] => kI .i64 a0 fun x_0 => kI .i64 a1 fun x_1 => kI .i64 a2 fun x_2 => F20 x_0 x_1 x_2 m (fun x_1000 m' => k (.flat (.int .i64 x_1000)) m')
  | _ => False

def E20 : Env := envOf []

def LamP20_3102 (σ : Nat → AV) (m : Mem) (k : KX) : Prop := kI .i64 (σ 0) fun x_0 => kI .i64 (σ 1) fun x_1 => kI .i64 (σ 2) fun x_2 => P20_3102 x_0 x_1 x_2 m (fun x_6' m' => k .ret (only [6] [(.flat (.int .i64 x_6'))]) m')

def Lam20 : LEnv := ⟨fun a σ m k => match firstReg a with
  | _ => bump False,
  fun id => match id with
  | _ => bump false,
  fun b => match keyC b with
  | some 3102 => true
  | _ => bump false,
  fun b σ m k => match keyC b with
  | some 3102 => LamP20_3102 σ m k
  | _ => bump False⟩

def lxp20_3102 : Ex → List Nat := fun e => match e with
  | .ret => [6]
  | _ => []

theorem pc20_3102 (x_0 : Int) (x_1 : Int) (x_2 : Int) (m : Mem) (k : KX) : once Try.prog E20 Lam20 [0, 1, 2] lxp20_3102 (((secsOf (bodyOf Try.f20)).filter Lam20.cut).getD 0 .skip) [(.flat (.int .i64 x_0)), (.flat (.int .i64 x_1)), (.flat (.int .i64 x_2))] m k = P20_3102 x_0 x_1 x_2 m (fun x_6' m' => k .ret (only [6] [(.flat (.int .i64 x_6'))]) m') := by
  kernel_rfl

theorem pok20_3102 : PieceOK Try.prog E20 Lam20 (((secsOf (bodyOf Try.f20)).filter Lam20.cut).getD 0 .skip) := by
  refine ⟨fun σ => ∃ x_0 x_1 x_2, σ 0 = .flat (.int .i64 x_0) ∧ σ 1 = .flat (.int .i64 x_1) ∧ σ 2 = .flat (.int .i64 x_2), [0, 1, 2], lxp20_3102, fun σ m k => ?_⟩
  have e : Lam20.piece (((secsOf (bodyOf Try.f20)).filter Lam20.cut).getD 0 .skip) σ m k = LamP20_3102 σ m k := by kernel_rfl
  rw [e]
  constructor
  · intro h
    unfold LamP20_3102 at h
    obtain ⟨x_0, h0, h⟩ := kI_ok h
    obtain ⟨x_1, h1, h⟩ := kI_ok h
    obtain ⟨x_2, h2, h⟩ := kI_ok h
    refine ⟨⟨x_0, x_1, x_2, h0, h1, h2⟩, ?_⟩
    have ev : [0, 1, 2].map σ = [(.flat (.int .i64 x_0)), (.flat (.int .i64 x_1)), (.flat (.int .i64 x_2))] := by simp only [List.map_cons, List.map_nil, h0, h1, h2]
    rw [ev, pc20_3102]
    exact h
  · rintro ⟨⟨x_0, x_1, x_2, h0, h1, h2⟩, h⟩
    have ev : [0, 1, 2].map σ = [(.flat (.int .i64 x_0)), (.flat (.int .i64 x_1)), (.flat (.int .i64 x_2))] := by simp only [List.map_cons, List.map_nil, h0, h1, h2]
    rw [ev, pc20_3102] at h
    unfold LamP20_3102
    try simp only [h0, h1, h2, kI, kbool, kS, kptr, kaggN, kite, decide_true, eq_self]
    exact h

theorem eqn20 (x_0 : Int) (x_1 : Int) (x_2 : Int) (m : Mem) (k : KV) : bodyK Try.prog E20 Lam20 Try.f20 true [(.flat (.int .i64 x_0)), (.flat (.int .i64 x_1)), (.flat (.int .i64 x_2))] m k = F20 x_0 x_1 x_2 m (fun x_1000 m' => k (.flat (.int .i64 x_1000)) m') := by
  kernel_rfl

theorem fs20 (w0 : World) : FS Try.prog w0 20 G20 := by
  refine (fs_body (Γ := E20) (sound_env (l := []) w0 (by
    intro p hp
    cases hp)) (by kernel_rfl) Try.func20 (Λ := Lam20) (c := (bodyOf Try.f20)) (by kernel_rfl) Try.call20 (by kernel_rfl) (LS_of (bodyOf Try.f20) 0 (by kernel_rfl) (fun i hi => absurd hi (Nat.not_lt_zero i)) 1 (by kernel_rfl) (by
    intro i hi
    match i, hi with
    | 0, _ => exact pok20_3102
    | i + 1, hi => omega)) true (np := 3) (Nat.le_of_ble_eq_true (by kernel_rfl))).imp fun args => ?_
  by_cases hl : args.length = 3
  rotate_left
  · exact .inr fun m k hk => by
      unfold G20 at hk
      split at hk
      · exact hl rfl
      · exact hk
  obtain ⟨a0, a1, a2, rfl⟩ : ∃ a0 a1 a2, args = [a0, a1, a2] := len_list3 hl
  rcases kI_or .i64 a0 with ⟨x_0, rfl⟩ | h
  rotate_left
  · exact .inr fun m k hk => h _ (by simpa only [G20, kI, kbool, kS, kptr, kaggN, kite, decide_true, eq_self] using hk)
  rcases kI_or .i64 a1 with ⟨x_1, rfl⟩ | h
  rotate_left
  · exact .inr fun m k hk => h _ (by simpa only [G20, kI, kbool, kS, kptr, kaggN, kite, decide_true, eq_self] using hk)
  rcases kI_or .i64 a2 with ⟨x_2, rfl⟩ | h
  rotate_left
  · exact .inr fun m k hk => h _ (by simpa only [G20, kI, kbool, kS, kptr, kaggN, kite, decide_true, eq_self] using hk)
  exact .inl fun m k => propext ⟨fun h => ⟨rfl, by rw [eqn20]; simpa only [G20, kI, kbool, kS, kptr, kaggN, kite, decide_true, eq_self] using h⟩, fun h => by have h := h.2; rw [eqn20] at h; simpa only [G20, kI, kbool, kS, kptr, kaggN, kite, decide_true, eq_self] using h⟩

/-- pianola/pianolakeep.near -/
def F32 (x_0 : Int) (m : Mem) (k : Int → Mem → Prop) : Prop :=
  F20 x_0 0 1048576 m fun x1 m2 => kif ((x1.tmod 8) == 7) ((Keeps m m2 ∧ k ((IntKind.wrap .i64 (x1.tdiv 8)).tmod 32) m)) ((Keeps m m2 ∧ k ((IntKind.wrap .i64 (x1.tdiv 8)).tmod 8) m))

def G32 (args : List AV) (m : Mem) (k : KV) : Prop := match args with
  | [a0] => kI .i64 a0 fun x_0 => F32 x_0 m (fun x_1000 m' => k (.flat (.int .i64 x_1000)) m')
  | _ => False

def E32 : Env := envOf [(20, G20)]

def Lam32 : LEnv := ⟨fun a σ m k => match firstReg a with
  | _ => bump False,
  fun id => match id with
  | _ => bump false,
  fun b => match keyC b with
  | _ => bump false,
  fun b σ m k => match keyC b with
  | _ => bump False⟩

theorem eqn32 (x_0 : Int) (m : Mem) (k : KV) : bodyK Try.prog E32 Lam32 Try.f32 true [(.flat (.int .i64 x_0))] m k = F32 x_0 m (fun x_1000 m' => k (.flat (.int .i64 x_1000)) m') := by
  kernel_rfl

theorem fs32 (w0 : World) : FS Try.prog w0 32 G32 := by
  refine (fs_body (Γ := E32) (sound_env (l := [(20, G20)]) w0 (by
    intro p hp
    simp only [List.mem_cons, List.not_mem_nil, or_false] at hp
    rcases hp with rfl
    · exact fs20 w0)) (by kernel_rfl) Try.func32 (Λ := Lam32) (c := (bodyOf Try.f32)) (by kernel_rfl) Try.call32 (by kernel_rfl) (LS_of (bodyOf Try.f32) 0 (by kernel_rfl) (fun i hi => absurd hi (Nat.not_lt_zero i)) 0 (by kernel_rfl) (fun i hi => absurd hi (Nat.not_lt_zero i))) true (np := 1) (Nat.le_of_ble_eq_true (by kernel_rfl))).imp fun args => ?_
  by_cases hl : args.length = 1
  rotate_left
  · exact .inr fun m k hk => by
      unfold G32 at hk
      split at hk
      · exact hl rfl
      · exact hk
  obtain ⟨a0, rfl⟩ : ∃ a0, args = [a0] := len_list1 hl
  rcases kI_or .i64 a0 with ⟨x_0, rfl⟩ | h
  rotate_left
  · exact .inr fun m k hk => h _ (by simpa only [G32, kI, kbool, kS, kptr, kaggN, kite, decide_true, eq_self] using hk)
  exact .inl fun m k => propext ⟨fun h => ⟨rfl, by rw [eqn32]; simpa only [G32, kI, kbool, kS, kptr, kaggN, kite, decide_true, eq_self] using h⟩, fun h => by have h := h.2; rw [eqn32] at h; simpa only [G32, kI, kbool, kS, kptr, kaggN, kite, decide_true, eq_self] using h⟩

/-- pianola/pianolakeep.only -/
def F33 (c_0 : Nat → AV) (x_1 : Int) (m : Mem) (k : (Nat → AV) → Mem → Prop) : Prop :=
  newK m ⟨6, c_0, 27, false⟩ fun b2 m1 => newK m1 ⟨6, Z6, 27, false⟩ fun b4 m3 => ldI .i64 m3 b2 0 fun x5 => newK m3 ⟨6, Z6, 27, false⟩ fun b7 m6 => stG 6 m6 b7 0 (upd (Z6) 0 (.flat (.int .i64 x5))) fun m8 => kif (x_1 == 0) (stC m8 b7 1 (.flat (.int .i64 1)) fun m9 => ldG 6 m9 b7 0 fun c16 => stG 6 m9 b4 0 c16 fun m17 => ldG 6 m17 b4 0 fun c28 => (Keeps m m17 ∧ InDomG 6 m c28 ∧ k c28 m)) (kif (x_1 == 1) (stC m8 b7 2 (.flat (.int .i64 1)) fun m10 => ldG 6 m10 b7 0 fun c18 => stG 6 m10 b4 0 c18 fun m19 => ldG 6 m19 b4 0 fun c29 => (Keeps m m19 ∧ InDomG 6 m c29 ∧ k c29 m)) (kif (x_1 == 2) (stC m8 b7 3 (.flat (.int .i64 1)) fun m11 => ldG 6 m11 b7 0 fun c20 => stG 6 m11 b4 0 c20 fun m21 => ldG 6 m21 b4 0 fun c30 => (Keeps m m21 ∧ InDomG 6 m c30 ∧ k c30 m)) (kif (x_1 == 3) (stC m8 b7 4 (.flat (.int .i64 1)) fun m12 => ldG 6 m12 b7 0 fun c22 => stG 6 m12 b4 0 c22 fun m23 => ldG 6 m23 b4 0 fun c31 => (Keeps m m23 ∧ InDomG 6 m c31 ∧ k c31 m)) (kif (x_1 == 4) (ldI .u32 m8 b2 5 fun x13 => stC m8 b7 5 (.flat (.int .u32 x13)) fun m14 => ldG 6 m14 b7 0 fun c24 => stG 6 m14 b4 0 c24 fun m25 => ldG 6 m25 b4 0 fun c32 => (Keeps m m25 ∧ InDomG 6 m c32 ∧ k c32 m)) (stC m8 b7 5 (.flat (.int .u32 1)) fun m15 => ldG 6 m15 b7 0 fun c26 => stG 6 m15 b4 0 c26 fun m27 => ldG 6 m27 b4 0 fun c33 => (Keeps m m27 ∧ InDomG 6 m c33 ∧ k c33 m))))))

def G33 (args : List AV) (m : Mem) (k : KV) : Prop := match args with
  | [a0, a1] => kaggN 6 a0 fun c_0 => kI .i64 a1 fun x_1 => F33 c_0 x_1 m (fun c_1000 m' => k (.agg 6 c_1000) m')
  | _ => False

def E33 : Env := envOf []

def Lam33 : LEnv := ⟨fun a σ m k => match firstReg a with
  | _ => bump False,
  fun id => match id with
  | _ => bump false,
  fun b => match keyC b with
  | _ => bump false,
  fun b σ m k => match keyC b with
  | _ => bump False⟩

theorem eqn33 (c_0 : Nat → AV) (x_1 : Int) (m : Mem) (k : KV) : bodyK Try.prog E33 Lam33 Try.f33 true [(.agg 6 c_0), (.flat (.int .i64 x_1))] m k = F33 c_0 x_1 m (fun c_1000 m' => k (.agg 6 c_1000) m') := by
  kernel_rfl

theorem fs33 (w0 : World) : FS Try.prog w0 33 G33 := by
  refine (fs_body (Γ := E33) (sound_env (l := []) w0 (by
    intro p hp
    cases hp)) (by kernel_rfl) Try.func33 (Λ := Lam33) (c := (bodyOf Try.f33)) (by kernel_rfl) Try.call33 (by kernel_rfl) (LS_of (bodyOf Try.f33) 0 (by kernel_rfl) (fun i hi => absurd hi (Nat.not_lt_zero i)) 0 (by kernel_rfl) (fun i hi => absurd hi (Nat.not_lt_zero i))) true (np := 2) (Nat.le_of_ble_eq_true (by kernel_rfl))).imp fun args => ?_
  by_cases hl : args.length = 2
  rotate_left
  · exact .inr fun m k hk => by
      unfold G33 at hk
      split at hk
      · exact hl rfl
      · exact hk
  obtain ⟨a0, a1, rfl⟩ : ∃ a0 a1, args = [a0, a1] := len_list2 hl
  rcases kaggN_or 6 a0 with ⟨c_0, rfl⟩ | h
  rotate_left
  · exact .inr fun m k hk => h _ (by simpa only [G33, kI, kbool, kS, kptr, kaggN, kite, decide_true, eq_self] using hk)
  rcases kI_or .i64 a1 with ⟨x_1, rfl⟩ | h
  rotate_left
  · exact .inr fun m k hk => h _ (by simpa only [G33, kI, kbool, kS, kptr, kaggN, kite, decide_true, eq_self] using hk)
  exact .inl fun m k => propext ⟨fun h => ⟨rfl, by rw [eqn33]; simpa only [G33, kI, kbool, kS, kptr, kaggN, kite, decide_true, eq_self] using h⟩, fun h => by have h := h.2; rw [eqn33] at h; simpa only [G33, kI, kbool, kS, kptr, kaggN, kite, decide_true, eq_self] using h⟩

def P22_18102 (b_4 o_4 : Nat) (b_5 o_5 : Nat) (x_6 : Int) (b_7 o_7 : Nat) (m : Mem) (kn : Mem → Prop) : Prop :=
  ldG 6 m b_5 o_5 fun c33 => F33 c33 x_6 m fun c34 m35 => F19 c34 m35 fun x36 m37 => kif (!x36) (ldG 6 m37 b_7 o_7 fun c38 => stG 6 m37 b_5 o_5 c38 fun m39 => kn  m39) (kn  m37)

def R22_3 (b_4 o_4 : Nat) (b_5 o_5 : Nat) (x_6 : Int) (m : Mem) (kn : Int → Mem → Prop) (k0 : Mem → Prop) : Prop :=
  kif (decide (x_6 < 6)) (ldG 6 m b_5 o_5 fun c22 => newK m ⟨6, Z6, 27, false⟩ fun b24 m23 => stG 6 m23 b24 0 c22 fun m25 => kif (x_6 == 0) (stC m25 b24 1 (.flat (.int .i64 0)) fun m26 => P22_18102 b_4 o_4 b_5 o_5 x_6 b24 0 m26 (fun m40 => kn (IntKind.wrap .i64 (x_6 + 1)) m40)) (kif (x_6 == 1) (stC m25 b24 2 (.flat (.int .i64 0)) fun m27 => P22_18102 b_4 o_4 b_5 o_5 x_6 b24 0 m27 (fun m41 => kn (IntKind.wrap .i64 (x_6 + 1)) m41)) (kif (x_6 == 2) (stC m25 b24 3 (.flat (.int .i64 0)) fun m28 => P22_18102 b_4 o_4 b_5 o_5 x_6 b24 0 m28 (fun m42 => kn (IntKind.wrap .i64 (x_6 + 1)) m42)) (kif (x_6 == 3) (stC m25 b24 4 (.flat (.int .i64 0)) fun m29 => P22_18102 b_4 o_4 b_5 o_5 x_6 b24 0 m29 (fun m43 => kn (IntKind.wrap .i64 (x_6 + 1)) m43)) (kif (x_6 == 4) (ldI .u32 m25 b24 5 fun x30 => stC m25 b24 5 (.flat (.int .u32 (bits .and .u32 x30 65535))) fun m31 => P22_18102 b_4 o_4 b_5 o_5 x_6 b24 0 m31 (fun m44 => kn (IntKind.wrap .i64 (x_6 + 1)) m44)) (stC m25 b24 5 (.flat (.int .u32 0)) fun m32 => P22_18102 b_4 o_4 b_5 o_5 x_6 b24 0 m32 (fun m45 => kn (IntKind.wrap .i64 (x_6 + 1)) m45))))))) (k0  m)

def L22_3 (b_4 o_4 : Nat) (b_5 o_5 : Nat) : Nat → Int → Mem → (Mem → Prop) → Prop
  | 0, _,  _, _ => bump False
  | N + 1, x_6,  m, k0 => R22_3 b_4 o_4 b_5 o_5 x_6 m (fun x_6' m' => L22_3 b_4 o_4 b_5 o_5 N x_6' m' k0) k0

/-- pianola/pianolakeep.Inst -/
def F22 (c_0 : Nat → AV) (x_1 : Int) (m : Mem) (k : (Nat → AV) → Mem → Prop) : Prop :=
  newK m ⟨7, c_0, 31, false⟩ fun b2 m1 => newK m1 ⟨6, Z6, 27, false⟩ fun b4 m3 => ∃ Fr5 : Nat → Prop, Fr5 b2 ∧ (ldI .i64 m3 b2 1 fun x6 => F32 x6 m3 fun x7 m8 => KeepsIn Fr5 m3 m8 ∧ (Fr5 b2 ∧ (ldI .i64 m8 b2 2 fun x9 => F32 x9 m8 fun x10 m11 => KeepsIn Fr5 m8 m11 ∧ (Fr5 b2 ∧ (ldI .i64 m11 b2 3 fun x12 => F32 x12 m11 fun x13 m14 => KeepsIn Fr5 m11 m14 ∧ (Fr5 b2 ∧ (ldI .i64 m14 b2 4 fun x15 => F20 x15 0 31 m14 fun x16 m17 => KeepsIn Fr5 m14 m17 ∧ (Fr5 b2 ∧ (ldI .u32 m17 b2 5 fun x18 => newK m17 ⟨6, Z6, 27, false⟩ fun b20 m19 => stG 6 m19 b20 0 (upd (upd (upd (upd (upd (upd (Z6) 0 (.flat (.int .i64 x_1))) 1 (.flat (.int .i64 x7))) 2 (.flat (.int .i64 x10))) 3 (.flat (.int .i64 x13))) 4 (.flat (.int .i64 x16))) 5 (.flat (.int .u32 (bits .and .u32 x18 67108863)))) fun m21 => ∃ N47, L22_3 b4 0 b20 0 N47 0 m21 (fun m46 => ldG 6 m46 b20 0 fun c48 => stG 6 m46 b4 0 c48 fun m49 => ldG 6 m49 b4 0 fun c50 => (Keeps m m49 ∧ InDomG 6 m c50 ∧ k c50 m)))))))))))

def G22 (args : List AV) (m : Mem) (k : KV) : Prop := match args with
  | [a0, a1] => kaggN 7 a0 fun c_0 => kI .i64 a1 fun x_1 => F22 c_0 x_1 m (fun c_1000 m' => k (.agg 6 c_1000) m')
  | _ => False

def E22 : Env := envOf [(19, G19), (20, G20), (32, G32), (33, G33)]

def Lam22_3 (σ : Nat → AV) (m : Mem) (k : KX) : Prop := kptr (σ 4) fun b_4 o_4 => kptr (σ 5) fun b_5 o_5 => kI .i64 (σ 6) fun x_6 => ∃ N, L22_3 b_4 o_4 b_5 o_5 N x_6 m (fun m' => k (.exit 0) (only [4, 5] [(.ptr b_4 o_4), (.ptr b_5 o_5)]) m')

def LamP22_18102 (σ : Nat → AV) (m : Mem) (k : KX) : Prop := kptr (σ 4) fun b_4 o_4 => kptr (σ 5) fun b_5 o_5 => kI .i64 (σ 6) fun x_6 => kptr (σ 7) fun b_7 o_7 => P22_18102 b_4 o_4 b_5 o_5 x_6 b_7 o_7 m (fun m' => k .normal (only [4, 5, 6] [(.ptr b_4 o_4), (.ptr b_5 o_5), (.flat (.int .i64 x_6))]) m')

def Lam22 : LEnv := ⟨fun a σ m k => match firstReg a with
  | some 3 => Lam22_3 σ m k
  | _ => bump False,
  fun id => match id with
  | 1 => true
  | _ => bump false,
  fun b => match keyC b with
  | some 18102 => true
  | _ => bump false,
  fun b σ m k => match keyC b with
  | some 18102 => LamP22_18102 σ m k
  | _ => bump False⟩

def lxp22_18102 : Ex → List Nat := fun e => match e with
  | .normal => [4, 5, 6]
  | _ => []

theorem pc22_18102 (b_4 o_4 : Nat) (b_5 o_5 : Nat) (x_6 : Int) (b_7 o_7 : Nat) (m : Mem) (k : KX) : once Try.prog E22 Lam22 [4, 5, 6, 7] lxp22_18102 (((secsOf (bodyOf Try.f22)).filter Lam22.cut).getD 0 .skip) [(.ptr b_4 o_4), (.ptr b_5 o_5), (.flat (.int .i64 x_6)), (.ptr b_7 o_7)] m k = P22_18102 b_4 o_4 b_5 o_5 x_6 b_7 o_7 m (fun m' => k .normal (only [4, 5, 6] [(.ptr b_4 o_4), (.ptr b_5 o_5), (.flat (.int .i64 x_6))]) m') := by
  kernel_rfl

theorem pok22_18102 : PieceOK Try.prog E22 Lam22 (((secsOf (bodyOf Try.f22)).filter Lam22.cut).getD 0 .skip) := by
  refine ⟨fun σ => ∃ b_4 o_4 b_5 o_5 x_6 b_7 o_7, σ 4 = .ptr b_4 o_4 ∧ σ 5 = .ptr b_5 o_5 ∧ σ 6 = .flat (.int .i64 x_6) ∧ σ 7 = .ptr b_7 o_7, [4, 5, 6, 7], lxp22_18102, fun σ m k => ?_⟩
  have e : Lam22.piece (((secsOf (bodyOf Try.f22)).filter Lam22.cut).getD 0 .skip) σ m k = LamP22_18102 σ m k := by kernel_rfl
  rw [e]
  constructor
  · intro h
    unfold LamP22_18102 at h
    obtain ⟨b_4, o_4, h0, h⟩ := kptr_ok h
    obtain ⟨b_5, o_5, h1, h⟩ := kptr_ok h
    obtain ⟨x_6, h2, h⟩ := kI_ok h
    obtain ⟨b_7, o_7, h3, h⟩ := kptr_ok h
    refine ⟨⟨b_4, o_4, b_5, o_5, x_6, b_7, o_7, h0, h1, h2, h3⟩, ?_⟩
    have ev : [4, 5, 6, 7].map σ = [(.ptr b_4 o_4), (.ptr b_5 o_5), (.flat (.int .i64 x_6)), (.ptr b_7 o_7)] := by simp only [List.map_cons, List.map_nil, h0, h1, h2, h3]
    rw [ev, pc22_18102]
    exact h
  · rintro ⟨⟨b_4, o_4, b_5, o_5, x_6, b_7, o_7, h0, h1, h2, h3⟩, h⟩
    have ev : [4, 5, 6, 7].map σ = [(.ptr b_4 o_4), (.ptr b_5 o_5), (.flat (.int .i64 x_6)), (.ptr b_7 o_7)] := by simp only [List.map_cons, List.map_nil, h0, h1, h2, h3]
    rw [ev, pc22_18102] at h
    unfold LamP22_18102
    try simp only [h0, h1, h2, h3, kI, kbool, kS, kptr, kaggN, kite, decide_true, eq_self]
    exact h

def lx22_3 : Ex → List Nat := fun e => match e with
  | .exit 0 => [4, 5]
  | _ => []

theorem round22_3 (b_4 o_4 : Nat) (b_5 o_5 : Nat) (x_6 : Int) (m : Mem) (G : List AV → Mem → Prop) (k : KX) : (wpA Try.prog E22 Lam22 ((loopsOf (bodyOf Try.f22)).getD 0 .skip) (only [4, 5, 6] [(.ptr b_4 o_4), (.ptr b_5 o_5), (.flat (.int .i64 x_6))]) m fun e σ' m' => match e with
    | .normal => G ([4, 5, 6].map σ') m'
    | .exit id => k (.exit id) (only (lx22_3 (.exit id)) ((lx22_3 (.exit id)).map σ')) m'
    | .ret => k .ret (only (lx22_3 .ret) ((lx22_3 .ret).map σ')) m') = R22_3 b_4 o_4 b_5 o_5 x_6 m (fun x_6' m' => G [(.ptr b_4 o_4), (.ptr b_5 o_5), (.flat (.int .i64 x_6'))] m') (fun m' => k (.exit 0) (only [4, 5] [(.ptr b_4 o_4), (.ptr b_5 o_5)]) m') := by
  kernel_rfl

theorem loop22_3 (b_4 o_4 : Nat) (b_5 o_5 : Nat) (k : KX) : ∀ (N : Nat) (x_6 : Int) (m : Mem), rounds Try.prog E22 Lam22 [4, 5, 6] lx22_3 ((loopsOf (bodyOf Try.f22)).getD 0 .skip) N [(.ptr b_4 o_4), (.ptr b_5 o_5), (.flat (.int .i64 x_6))] m k = L22_3 b_4 o_4 b_5 o_5 N x_6 m (fun m' => k (.exit 0) (only [4, 5] [(.ptr b_4 o_4), (.ptr b_5 o_5)]) m') := by
  intro N
  induction N with
  | zero => intros; rfl
  | succ N ih =>
    intro x_6 m
    refine (round22_3 b_4 o_4 b_5 o_5 x_6 m (fun vs m' => rounds Try.prog E22 Lam22 [4, 5, 6] lx22_3 ((loopsOf (bodyOf Try.f22)).getD 0 .skip) N vs m' k) k).trans ?_
    simp only [ih]
    rfl

theorem lok22_3 : LoopOK Try.prog E22 Lam22 ((loopsOf (bodyOf Try.f22)).getD 0 .skip) := by
  refine ⟨fun σ => ∃ b_4 o_4 b_5 o_5 x_6, σ 4 = .ptr b_4 o_4 ∧ σ 5 = .ptr b_5 o_5 ∧ σ 6 = .flat (.int .i64 x_6), [4, 5, 6], lx22_3, fun σ m k => ?_⟩
  have e : Lam22.loop ((loopsOf (bodyOf Try.f22)).getD 0 .skip) σ m k = Lam22_3 σ m k := by kernel_rfl
  rw [e]
  constructor
  · intro h
    unfold Lam22_3 at h
    obtain ⟨b_4, o_4, h0, h⟩ := kptr_ok h
    obtain ⟨b_5, o_5, h1, h⟩ := kptr_ok h
    obtain ⟨x_6, h2, h⟩ := kI_ok h
    obtain ⟨N, h⟩ := h
    refine ⟨⟨b_4, o_4, b_5, o_5, x_6, h0, h1, h2⟩, N, ?_⟩
    have ev : [4, 5, 6].map σ = [(.ptr b_4 o_4), (.ptr b_5 o_5), (.flat (.int .i64 x_6))] := by simp only [List.map_cons, List.map_nil, h0, h1, h2]
    rw [ev, loop22_3]
    exact h
  · rintro ⟨⟨b_4, o_4, b_5, o_5, x_6, h0, h1, h2⟩, N, h⟩
    have ev : [4, 5, 6].map σ = [(.ptr b_4 o_4), (.ptr b_5 o_5), (.flat (.int .i64 x_6))] := by simp only [List.map_cons, List.map_nil, h0, h1, h2]
    rw [ev, loop22_3] at h
    unfold Lam22_3
    try simp only [h0, h1, h2, kI, kbool, kS, kptr, kaggN, kite, decide_true, eq_self]
    exact ⟨N, h⟩

theorem eqn22 (c_0 : Nat → AV) (x_1 : Int) (m : Mem) (k : KV) : bodyK Try.prog E22 Lam22 Try.f22 true [(.agg 7 c_0), (.flat (.int .i64 x_1))] m k = F22 c_0 x_1 m (fun c_1000 m' => k (.agg 6 c_1000) m') := by
  kernel_rfl

theorem fs22 (w0 : World) : FS Try.prog w0 22 G22 := by
  refine (fs_body (Γ := E22) (sound_env (l := [(19, G19), (20, G20), (32, G32), (33, G33)]) w0 (by
    intro p hp
    simp only [List.mem_cons, List.not_mem_nil, or_false] at hp
    rcases hp with rfl | rfl | rfl | rfl
    · exact fs19 w0
    · exact fs20 w0
    · exact fs32 w0
    · exact fs33 w0)) (by kernel_rfl) Try.func22 (Λ := Lam22) (c := (bodyOf Try.f22)) (by kernel_rfl) Try.call22 (by kernel_rfl) (LS_of (bodyOf Try.f22) 1 (by kernel_rfl) (by
    intro i hi
    match i, hi with
    | 0, _ => exact lok22_3
    | i + 1, hi => omega) 1 (by kernel_rfl) (by
    intro i hi
    match i, hi with
    | 0, _ => exact pok22_18102
    | i + 1, hi => omega)) true (np := 2) (Nat.le_of_ble_eq_true (by kernel_rfl))).imp fun args => ?_
  by_cases hl : args.length = 2
  rotate_left
  · exact .inr fun m k hk => by
      unfold G22 at hk
      split at hk
      · exact hl rfl
      · exact hk
  obtain ⟨a0, a1, rfl⟩ : ∃ a0 a1, args = [a0, a1] := len_list2 hl
  rcases kaggN_or 7 a0 with ⟨c_0, rfl⟩ | h
  rotate_left
  · exact .inr fun m k hk => h _ (by simpa only [G22, kI, kbool, kS, kptr, kaggN, kite, decide_true, eq_self] using hk)
  rcases kI_or .i64 a1 with ⟨x_1, rfl⟩ | h
  rotate_left
  · exact .inr fun m k hk => h _ (by simpa only [G22, kI, kbool, kS, kptr, kaggN, kite, decide_true, eq_self] using hk)
  exact .inl fun m k => propext ⟨fun h => ⟨rfl, by rw [eqn22]; simpa only [G22, kI, kbool, kS, kptr, kaggN, kite, decide_true, eq_self] using h⟩, fun h => by have h := h.2; rw [eqn22] at h; simpa only [G22, kI, kbool, kS, kptr, kaggN, kite, decide_true, eq_self] using h⟩

/-- pianola/pianolakeep.Any -/
def F11 (c_0 : Nat → AV) (m : Mem) (k : (Nat → AV) → Mem → Prop) : Prop :=
  newK m ⟨7, c_0, 31, false⟩ fun b2 m1 => newK m1 ⟨6, Z6, 27, false⟩ fun b4 m3 => ∃ Fr5 : Nat → Prop, Fr5 b2 ∧ (ldG 7 m3 b2 0 fun c6 => Fr5 b2 ∧ (ldI .i64 m3 b2 0 fun x7 => F20 x7 0 1048576 m3 fun x8 m9 => KeepsIn Fr5 m3 m9 ∧ (F22 c6 (IntKind.wrap .i64 (1 + (x8.tmod 77))) m9 fun c10 m11 => KeepsIn Fr5 m9 m11 ∧ (stG 6 m11 b4 0 c10 fun m12 => ldG 6 m12 b4 0 fun c13 => (Keeps m m12 ∧ InDomG 6 m c13 ∧ k c13 m)))))

def G11 (args : List AV) (m : Mem) (k : KV) : Prop := match args with
  | [a0] => kaggN 7 a0 fun c_0 => F11 c_0 m (fun c_1000 m' => k (.agg 6 c_1000) m')
  | _ => False

def E11 : Env := envOf [(20, G20), (22, G22)]

def Lam11 : LEnv := ⟨fun a σ m k => match firstReg a with
  | _ => bump False,
  fun id => match id with
  | 1 => true
  | _ => bump false,
  fun b => match keyC b with
  | _ => bump false,
  fun b σ m k => match keyC b with
  | _ => bump False⟩

theorem eqn11 (c_0 : Nat → AV) (m : Mem) (k : KV) : bodyK Try.prog E11 Lam11 Try.f11 true [(.agg 7 c_0)] m k = F11 c_0 m (fun c_1000 m' => k (.agg 6 c_1000) m') := by
  kernel_rfl

theorem fs11 (w0 : World) : FS Try.prog w0 11 G11 := by
  refine (fs_body (Γ := E11) (sound_env (l := [(20, G20), (22, G22)]) w0 (by
    intro p hp
    simp only [List.mem_cons, List.not_mem_nil, or_false] at hp
    rcases hp with rfl | rfl
    · exact fs20 w0
    · exact fs22 w0)) (by kernel_rfl) Try.func11 (Λ := Lam11) (c := (bodyOf Try.f11)) (by kernel_rfl) Try.call11 (by kernel_rfl) (LS_of (bodyOf Try.f11) 0 (by kernel_rfl) (fun i hi => absurd hi (Nat.not_lt_zero i)) 0 (by kernel_rfl) (fun i hi => absurd hi (Nat.not_lt_zero i))) true (np := 1) (Nat.le_of_ble_eq_true (by kernel_rfl))).imp fun args => ?_
  by_cases hl : args.length = 1
  rotate_left
  · exact .inr fun m k hk => by
      unfold G11 at hk
      split at hk
      · exact hl rfl
      · exact hk
  obtain ⟨a0, rfl⟩ : ∃ a0, args = [a0] := len_list1 hl
  rcases kaggN_or 7 a0 with ⟨c_0, rfl⟩ | h
  rotate_left
  · exact .inr fun m k hk => h _ (by simpa only [G11, kI, kbool, kS, kptr, kaggN, kite, decide_true, eq_self] using hk)
  exact .inl fun m k => propext ⟨fun h => ⟨rfl, by rw [eqn11]; simpa only [G11, kI, kbool, kS, kptr, kaggN, kite, decide_true, eq_self] using h⟩, fun h => by have h := h.2; rw [eqn11] at h; simpa only [G11, kI, kbool, kS, kptr, kaggN, kite, decide_true, eq_self] using h⟩

end Go.Proofs.Ytmhlljnnpoegbaa.Am
