/- What Go functions ask of what follows them, as plain functions over the abstract machine; the machine asks just that. Written by gen.py. -/
import Derived.Test.YtkgidjnaddjjbaaGreatProg
import Derived.Test.YtkgidjnaddjjbaaGreatAmL
import Derived.Test.YtkgidjnaddjjbaaGreatM4
namespace Go.Proofs.YtkgidjnaddjjbaaGreat.Am
set_option linter.unusedVariables false
set_option linter.unusedSimpArgs false
set_option maxRecDepth 100000

def E112 : Env := envOf []

def P112_4004 (b_0 o_0 : Nat) (x_1 : Int) (x_5 : Int) (x_6 : Bool) (m : Mem) (kr : Bool → Mem → Prop) (kn : Mem → Prop) : Prop :=
  kif x_6 (kif (decide (0 ≤ IntKind.wrap .i64 (x_1 - 1)) && decide (IntKind.wrap .i64 (x_1 - 1) < 2)) (ldI .u32 m b_0 (o_0 + 3 + (IntKind.wrap .i64 (x_1 - 1)).toNat * 3 + 2) fun x1 => kr (x1 != 0) m) False) (kif (x_5 == 3) (ldI .u32 m b_0 (o_0 + 9 + 3) fun x2 => kif ((bits .and .u32 x2 1) != 0) (ldA m b_0 (o_0 + 9 + 0) fun v3 => klen v3 fun x4 => kif (decide (x4 > 0)) (kr true m) (ldI .u32 m b_0 (o_0 + 9 + 3) fun x5 => kif ((bits .and .u32 x5 2) != 0) (ldA m b_0 (o_0 + 9 + 1) fun v6 => klen v6 fun x7 => kr (x7 == 0) m) (kr false m))) (ldI .u32 m b_0 (o_0 + 9 + 3) fun x8 => kif ((bits .and .u32 x8 2) != 0) (ldA m b_0 (o_0 + 9 + 1) fun v9 => klen v9 fun x10 => kr (x10 == 0) m) (kr false m))) (kif (x_5 == 4) (ldI .u32 m b_0 (o_0 + 14 + 3) fun x11 => kr ((bits .and .u32 x11 6) != 0) m) (kif (x_5 == 5) (ldI .u32 m b_0 (o_0 + 18 + 3) fun x12 => kr ((bits .and .u32 x12 6) != 0) m) (kn  m))))

/-- (*pianola/pianolaref15.Bus).Line -/
def F112 (b_0 o_0 : Nat) (x_1 : Int) (m : Mem) (k : Bool → Mem → Prop) : Prop :=
  kif (x_1 == 1) (P112_4004 b_0 o_0 x_1 x_1 (x_1 == 1) m (fun x13 m14 => (Keeps m m14 ∧ k x13 m)) (fun m15 => (Keeps m m15 ∧ k false m))) (P112_4004 b_0 o_0 x_1 x_1 (x_1 == 2) m (fun x16 m17 => (Keeps m m17 ∧ k x16 m)) (fun m18 => (Keeps m m18 ∧ k false m)))

def G112 (args : List AV) (m : Mem) (k : KV) : Prop := match args with
  | [a0, a1] => kptr a0 fun b_0 o_0 => kI .i64 a1 fun x_1 => F112 b_0 o_0 x_1 m (fun x_1000 m' => k (.flat (.bool x_1000)) m')
  | _ => False

def LamP112_4004 (σ : Nat → AV) (m : Mem) (k : KX) : Prop := kptr (σ 0) fun b_0 o_0 => kI .i64 (σ 1) fun x_1 => kI .i64 (σ 5) fun x_5 => kbool (σ 6) fun x_6 => P112_4004 b_0 o_0 x_1 x_5 x_6 m (fun x_4' m' => k .ret (only [4] [(.flat (.bool x_4'))]) m') (fun m' => k .normal (only [] []) m')

def Lam112 : LEnv := ⟨fun a σ m k => match firstReg a with
  | _ => bump False,
  fun id => match id with
  | _ => bump false,
  fun b => match keyC b with
  | some 4004 => true
  | _ => bump false,
  fun b σ m k => match keyC b with
  | some 4004 => LamP112_4004 σ m k
  | _ => bump False⟩

def lxp112_4004 : Ex → List Nat := fun e => match e with
  | .ret => [4]
  | .normal => []
  | _ => []

theorem pc112_4004 (b_0 o_0 : Nat) (x_1 : Int) (x_5 : Int) (x_6 : Bool) (m : Mem) (k : KX) : once Tryz.prog E112 Lam112 [0, 1, 5, 6] lxp112_4004 (((secsOf (bodyOf Tryz.f112)).filter Lam112.cut).getD 0 .skip) [(.ptr b_0 o_0), (.flat (.int .i64 x_1)), (.flat (.int .i64 x_5)), (.flat (.bool x_6))] m k = P112_4004 b_0 o_0 x_1 x_5 x_6 m (fun x_4' m' => k .ret (only [4] [(.flat (.bool x_4'))]) m') (fun m' => k .normal (only [] []) m') := by
  kernel_rfl

theorem pok112_4004 : PieceOK Tryz.prog E112 Lam112 (((secsOf (bodyOf Tryz.f112)).filter Lam112.cut).getD 0 .skip) := by
  refine ⟨fun σ => ∃ b_0 o_0 x_1 x_5 x_6, σ 0 = .ptr b_0 o_0 ∧ σ 1 = .flat (.int .i64 x_1) ∧ σ 5 = .flat (.int .i64 x_5) ∧ σ 6 = .flat (.bool x_6), [0, 1, 5, 6], lxp112_4004, fun σ m k => ?_⟩
  have e : Lam112.piece (((secsOf (bodyOf Tryz.f112)).filter Lam112.cut).getD 0 .skip) σ m k = LamP112_4004 σ m k := by kernel_rfl
  rw [e]
  constructor
  · intro h
    unfold LamP112_4004 at h
    obtain ⟨b_0, o_0, h0, h⟩ := kptr_ok h
    obtain ⟨x_1, h1, h⟩ := kI_ok h
    obtain ⟨x_5, h2, h⟩ := kI_ok h
    obtain ⟨x_6, h3, h⟩ := kbool_ok h
    refine ⟨⟨b_0, o_0, x_1, x_5, x_6, h0, h1, h2, h3⟩, ?_⟩
    have ev : [0, 1, 5, 6].map σ = [(.ptr b_0 o_0), (.flat (.int .i64 x_1)), (.flat (.int .i64 x_5)), (.flat (.bool x_6))] := by simp only [List.map_cons, List.map_nil, h0, h1, h2, h3]
    rw [ev, pc112_4004]
    exact h
  · rintro ⟨⟨b_0, o_0, x_1, x_5, x_6, h0, h1, h2, h3⟩, h⟩
    have ev : [0, 1, 5, 6].map σ = [(.ptr b_0 o_0), (.flat (.int .i64 x_1)), (.flat (.int .i64 x_5)), (.flat (.bool x_6))] := by simp only [List.map_cons, List.map_nil, h0, h1, h2, h3]
    rw [ev, pc112_4004] at h
    unfold LamP112_4004
    try simp only [h0, h1, h2, h3, kI, kbool, kS, kptr, kaggN, kite, decide_true, eq_self]
    exact h

theorem eqn112 (b_0 o_0 : Nat) (x_1 : Int) (m : Mem) (k : KV) : bodyK Tryz.prog E112 Lam112 Tryz.f112 true [(.ptr b_0 o_0), (.flat (.int .i64 x_1))] m k = F112 b_0 o_0 x_1 m (fun x_1000 m' => k (.flat (.bool x_1000)) m') := by
  kernel_rfl

theorem fs112 (w0 : World) : FS Tryz.prog w0 112 G112 := by
  refine (fs_body (Γ := E112) (sound_env (l := []) w0 (by
    intro p hp
    cases hp)) (by kernel_rfl) Tryz.func112 (Λ := Lam112) (c := (bodyOf Tryz.f112)) (by kernel_rfl) Tryz.call112 (by kernel_rfl) (LS_of (bodyOf Tryz.f112) 0 (by kernel_rfl) (fun i hi => absurd hi (Nat.not_lt_zero i)) 1 (by kernel_rfl) (by
    intro i hi
    match i, hi with
    | 0, _ => exact pok112_4004
    | i + 1, hi => omega)) true (np := 2) (Nat.le_of_ble_eq_true (by kernel_rfl))).imp fun args => ?_
  by_cases hl : args.length = 2
  rotate_left
  · exact .inr fun m k hk => by
      unfold G112 at hk
      split at hk
      · exact hl rfl
      · exact hk
  obtain ⟨a0, a1, rfl⟩ : ∃ a0 a1, args = [a0, a1] := len_list2 hl
  rcases kptr_or a0 with ⟨b_0, o_0, rfl⟩ | h
  rotate_left
  · exact .inr fun m k hk => h _ (by simpa only [G112, kI, kbool, kS, kptr, kaggN, kite, decide_true, eq_self] using hk)
  rcases kI_or .i64 a1 with ⟨x_1, rfl⟩ | h
  rotate_left
  · exact .inr fun m k hk => h _ (by simpa only [G112, kI, kbool, kS, kptr, kaggN, kite, decide_true, eq_self] using hk)
  exact .inl fun m k => propext ⟨fun h => ⟨rfl, by rw [eqn112]; simpa only [G112, kI, kbool, kS, kptr, kaggN, kite, decide_true, eq_self] using h⟩, fun h => by have h := h.2; rw [eqn112] at h; simpa only [G112, kI, kbool, kS, kptr, kaggN, kite, decide_true, eq_self] using h⟩

def E96 : Env := envOf [(112, G112)]

def R96_2 (b_0 o_0 : Nat) (x_2 : Int) (m : Mem) (kn : Int → Mem → Prop) (k0 : Mem → Prop) : Prop :=
  kif (decide (x_2 < 6)) (F112 b_0 o_0 x_2 m fun x2 m3 => kif x2 (ldI .u32 m3 b_0 (o_0 + 23) fun x4 => kif (decide (IntKind.wrap .u64 x_2 < 0)) False (stC m3 b_0 (o_0 + 23) (.flat (.int .u32 (bits .or .u32 x4 (IntKind.wrap .u32 (1 * 2 ^ min (IntKind.wrap .u64 x_2).toNat 32))))) fun m5 => kn (IntKind.wrap .i64 (x_2 + 1)) m5)) (kn (IntKind.wrap .i64 (x_2 + 1)) m3)) (k0  m)

def L96_2 (b_0 o_0 : Nat) : Nat → Int → Mem → (Mem → Prop) → Prop
  | 0, _,  _, _ => bump False
  | N + 1, x_2,  m, k0 => R96_2 b_0 o_0 x_2 m (fun x_2' m' => L96_2 b_0 o_0 N x_2' m' k0) k0

/-- (*pianola/pianolaref15.Bus).gather -/
def F96 (b_0 o_0 : Nat) (m : Mem) (k : Mem → Prop) : Prop :=
  stC m b_0 (o_0 + 23) (.flat (.int .u32 0)) fun m1 => ∃ N7, L96_2 b_0 o_0 N7 1 m1 (fun m6 => k  m6)

def G96 (args : List AV) (m : Mem) (k : KV) : Prop := match args with
  | [a0] => kptr a0 fun b_0 o_0 => F96 b_0 o_0 m (fun m' => k (.tup []) m')
  | _ => False

def Lam96_2 (σ : Nat → AV) (m : Mem) (k : KX) : Prop := kptr (σ 0) fun b_0 o_0 => kI .i64 (σ 2) fun x_2 => ∃ N, L96_2 b_0 o_0 N x_2 m (fun m' => k (.exit 0) (only [] []) m')

def Lam96 : LEnv := ⟨fun a σ m k => match firstReg a with
  | some 2 => Lam96_2 σ m k
  | _ => bump False,
  fun id => match id with
  | _ => bump false,
  fun b => match keyC b with
  | _ => bump false,
  fun b σ m k => match keyC b with
  | _ => bump False⟩

def lx96_2 : Ex → List Nat := fun e => match e with
  | .exit 0 => []
  | _ => []

theorem round96_2 (b_0 o_0 : Nat) (x_2 : Int) (m : Mem) (G : List AV → Mem → Prop) (k : KX) : (wpA Tryz.prog E96 Lam96 ((loopsOf (bodyOf Tryz.f96)).getD 0 .skip) (only [0, 2] [(.ptr b_0 o_0), (.flat (.int .i64 x_2))]) m fun e σ' m' => match e with
    | .normal => G ([0, 2].map σ') m'
    | .exit id => k (.exit id) (only (lx96_2 (.exit id)) ((lx96_2 (.exit id)).map σ')) m'
    | .ret => k .ret (only (lx96_2 .ret) ((lx96_2 .ret).map σ')) m') = R96_2 b_0 o_0 x_2 m (fun x_2' m' => G [(.ptr b_0 o_0), (.flat (.int .i64 x_2'))] m') (fun m' => k (.exit 0) (only [] []) m') := by
  kernel_rfl

theorem loop96_2 (b_0 o_0 : Nat) (k : KX) : ∀ (N : Nat) (x_2 : Int) (m : Mem), rounds Tryz.prog E96 Lam96 [0, 2] lx96_2 ((loopsOf (bodyOf Tryz.f96)).getD 0 .skip) N [(.ptr b_0 o_0), (.flat (.int .i64 x_2))] m k = L96_2 b_0 o_0 N x_2 m (fun m' => k (.exit 0) (only [] []) m') := by
  intro N
  induction N with
  | zero => intros; rfl
  | succ N ih =>
    intro x_2 m
    refine (round96_2 b_0 o_0 x_2 m (fun vs m' => rounds Tryz.prog E96 Lam96 [0, 2] lx96_2 ((loopsOf (bodyOf Tryz.f96)).getD 0 .skip) N vs m' k) k).trans ?_
    simp only [ih]
    rfl

theorem lok96_2 : LoopOK Tryz.prog E96 Lam96 ((loopsOf (bodyOf Tryz.f96)).getD 0 .skip) := by
  refine ⟨fun σ => ∃ b_0 o_0 x_2, σ 0 = .ptr b_0 o_0 ∧ σ 2 = .flat (.int .i64 x_2), [0, 2], lx96_2, fun σ m k => ?_⟩
  have e : Lam96.loop ((loopsOf (bodyOf Tryz.f96)).getD 0 .skip) σ m k = Lam96_2 σ m k := by kernel_rfl
  rw [e]
  constructor
  · intro h
    unfold Lam96_2 at h
    obtain ⟨b_0, o_0, h0, h⟩ := kptr_ok h
    obtain ⟨x_2, h1, h⟩ := kI_ok h
    obtain ⟨N, h⟩ := h
    refine ⟨⟨b_0, o_0, x_2, h0, h1⟩, N, ?_⟩
    have ev : [0, 2].map σ = [(.ptr b_0 o_0), (.flat (.int .i64 x_2))] := by simp only [List.map_cons, List.map_nil, h0, h1]
    rw [ev, loop96_2]
    exact h
  · rintro ⟨⟨b_0, o_0, x_2, h0, h1⟩, N, h⟩
    have ev : [0, 2].map σ = [(.ptr b_0 o_0), (.flat (.int .i64 x_2))] := by simp only [List.map_cons, List.map_nil, h0, h1]
    rw [ev, loop96_2] at h
    unfold Lam96_2
    try simp only [h0, h1, kI, kbool, kS, kptr, kaggN, kite, decide_true, eq_self]
    exact ⟨N, h⟩

theorem eqn96 (b_0 o_0 : Nat) (m : Mem) (k : KV) : bodyK Tryz.prog E96 Lam96 Tryz.f96 false [(.ptr b_0 o_0)] m k = F96 b_0 o_0 m (fun m' => k (.tup []) m') := by
  kernel_rfl

theorem fs96 (w0 : World) : FS Tryz.prog w0 96 G96 := by
  refine (fs_body (Γ := E96) (sound_env (l := [(112, G112)]) w0 (by
    intro p hp
    simp only [List.mem_cons, List.not_mem_nil, or_false] at hp
    rcases hp with rfl
    · exact fs112 w0)) (by kernel_rfl) Tryz.func96 (Λ := Lam96) (c := (bodyOf Tryz.f96)) (by kernel_rfl) Tryz.call96 (by kernel_rfl) (LS_of (bodyOf Tryz.f96) 1 (by kernel_rfl) (by
    intro i hi
    match i, hi with
    | 0, _ => exact lok96_2
    | i + 1, hi => omega) 0 (by kernel_rfl) (fun i hi => absurd hi (Nat.not_lt_zero i))) false (np := 1) (Nat.le_of_ble_eq_true (by kernel_rfl))).imp fun args => ?_
  by_cases hl : args.length = 1
  rotate_left
  · exact .inr fun m k hk => by
      unfold G96 at hk
      split at hk
      · exact hl rfl
      · exact hk
  obtain ⟨a0, rfl⟩ : ∃ a0, args = [a0] := len_list1 hl
  rcases kptr_or a0 with ⟨b_0, o_0, rfl⟩ | h
  rotate_left
  · exact .inr fun m k hk => h _ (by simpa only [G96, kI, kbool, kS, kptr, kaggN, kite, decide_true, eq_self] using hk)
  exact .inl fun m k => propext ⟨fun h => ⟨rfl, by rw [eqn96]; simpa only [G96, kI, kbool, kS, kptr, kaggN, kite, decide_true, eq_self] using h⟩, fun h => by have h := h.2; rw [eqn96] at h; simpa only [G96, kI, kbool, kS, kptr, kaggN, kite, decide_true, eq_self] using h⟩

def E63 : Env := envOf [(93, G93), (94, G94), (95, G95), (96, G96)]

/-- (*pianola/pianolaref15.Bus).Load -/
def F63 (b_0 o_0 : Nat) (x_1 : Int) (x_2 : Int) (x_3 : Int) (m : Mem) (k : Int → Bool → Mem → Prop) : Prop :=
  ldA m b_0 (o_0 + 0) fun v1 => kptr v1 fun b2 o3 => ldA m b2 (o3 + 0) fun v4 => klen v4 fun x5 => kif (decide (x_1 < (IntKind.wrap .u32 x5))) (ldA m b_0 (o_0 + 0) fun v6 => kptr v6 fun b7 o8 => F93 b7 o8 x_1 x_2 m fun x9 x10 m11 => k x9 x10 m11) (F94 x_1 x_2 m fun x12 x13 x14 m15 => kif (!x14) (k 0 false m15) (F95 b_0 o_0 x12 x13 x_3 m15 fun x16 x17 m18 => F96 b_0 o_0 m18 fun m19 => k x16 x17 m19))

def G63 (args : List AV) (m : Mem) (k : KV) : Prop := match args with
  | [a0, a1, a2, a3] => kptr a0 fun b_0 o_0 => kI .u32 a1 fun x_1 => kI .i64 a2 fun x_2 => kI .i64 a3 fun x_3 => F63 b_0 o_0 x_1 x_2 x_3 m (fun x_1000 x_1001 m' => k (.tup [(.flat (.int .u32 x_1000)), (.flat (.bool x_1001))]) m')
  | _ => False

def Lam63 : LEnv := ⟨fun a σ m k => match firstReg a with
  | _ => bump False,
  fun id => match id with
  | _ => bump false,
  fun b => match keyC b with
  | _ => bump false,
  fun b σ m k => match keyC b with
  | _ => bump False⟩

theorem eqn63 (b_0 o_0 : Nat) (x_1 : Int) (x_2 : Int) (x_3 : Int) (m : Mem) (k : KV) : bodyK Tryz.prog E63 Lam63 Tryz.f63 false [(.ptr b_0 o_0), (.flat (.int .u32 x_1)), (.flat (.int .i64 x_2)), (.flat (.int .i64 x_3))] m k = F63 b_0 o_0 x_1 x_2 x_3 m (fun x_1000 x_1001 m' => k (.tup [(.flat (.int .u32 x_1000)), (.flat (.bool x_1001))]) m') := by
  kernel_rfl

theorem fs63 (w0 : World) : FS Tryz.prog w0 63 G63 := by
  refine (fs_body (Γ := E63) (sound_env (l := [(93, G93), (94, G94), (95, G95), (96, G96)]) w0 (by
    intro p hp
    simp only [List.mem_cons, List.not_mem_nil, or_false] at hp
    rcases hp with rfl | rfl | rfl | rfl
    · exact fs93 w0
    · exact fs94 w0
    · exact fs95 w0
    · exact fs96 w0)) (by kernel_rfl) Tryz.func63 (Λ := Lam63) (c := (bodyOf Tryz.f63)) (by kernel_rfl) Tryz.call63 (by kernel_rfl) (LS_of (bodyOf Tryz.f63) 0 (by kernel_rfl) (fun i hi => absurd hi (Nat.not_lt_zero i)) 0 (by kernel_rfl) (fun i hi => absurd hi (Nat.not_lt_zero i))) false (np := 4) (Nat.le_of_ble_eq_true (by kernel_rfl))).imp fun args => ?_
  by_cases hl : args.length = 4
  rotate_left
  · exact .inr fun m k hk => by
      unfold G63 at hk
      split at hk
      · exact hl rfl
      · exact hk
  obtain ⟨a0, a1, a2, a3, rfl⟩ : ∃ a0 a1 a2 a3, args = [a0, a1, a2, a3] := len_list4 hl
  rcases kptr_or a0 with ⟨b_0, o_0, rfl⟩ | h
  rotate_left
  · exact .inr fun m k hk => h _ (by simpa only [G63, kI, kbool, kS, kptr, kaggN, kite, decide_true, eq_self] using hk)
  rcases kI_or .u32 a1 with ⟨x_1, rfl⟩ | h
  rotate_left
  · exact .inr fun m k hk => h _ (by simpa only [G63, kI, kbool, kS, kptr, kaggN, kite, decide_true, eq_self] using hk)
  rcases kI_or .i64 a2 with ⟨x_2, rfl⟩ | h
  rotate_left
  · exact .inr fun m k hk => h _ (by simpa only [G63, kI, kbool, kS, kptr, kaggN, kite, decide_true, eq_self] using hk)
  rcases kI_or .i64 a3 with ⟨x_3, rfl⟩ | h
  rotate_left
  · exact .inr fun m k hk => h _ (by simpa only [G63, kI, kbool, kS, kptr, kaggN, kite, decide_true, eq_self] using hk)
  exact .inl fun m k => propext ⟨fun h => ⟨rfl, by rw [eqn63]; simpa only [G63, kI, kbool, kS, kptr, kaggN, kite, decide_true, eq_self] using h⟩, fun h => by have h := h.2; rw [eqn63] at h; simpa only [G63, kI, kbool, kS, kptr, kaggN, kite, decide_true, eq_self] using h⟩

def E64 : Env := envOf []

def P64_1004 (b_0 o_0 : Nat) (x_1 : Int) (x_2 : Int) (x_11 : Bool) (m : Mem) (kn : Mem → Prop) : Prop :=
  kif x_11 (kif (decide (0 ≤ x_1) && decide (x_1 < 32)) (stC m b_0 (o_0 + 0 + 0 + (x_1).toNat * 1) (.flat (.int .u32 x_2)) fun m1 => kn  m1) False) (kn  m)

/-- (*pianola/pianolaref17.Machine).put -/
def F64 (b_0 o_0 : Nat) (x_1 : Int) (x_2 : Int) (m : Mem) (k : Mem → Prop) : Prop :=
  kif (decide (x_1 > 0)) (P64_1004 b_0 o_0 x_1 x_2 (decide (x_1 < 32)) m (fun m2 => k  m2)) (P64_1004 b_0 o_0 x_1 x_2 false m (fun m3 => k  m3))

def G64 (args : List AV) (m : Mem) (k : KV) : Prop := match args with
  | [a0, a1, a2] => kptr a0 fun b_0 o_0 => kI .i64 a1 fun x_1 => kI .u32 a2 fun x_2 => F64 b_0 o_0 x_1 x_2 m (fun m' => k (.tup []) m')
  | _ => False

def LamP64_1004 (σ : Nat → AV) (m : Mem) (k : KX) : Prop := kptr (σ 0) fun b_0 o_0 => kI .i64 (σ 1) fun x_1 => kI .u32 (σ 2) fun x_2 => kbool (σ 11) fun x_11 => P64_1004 b_0 o_0 x_1 x_2 x_11 m (fun m' => k .normal (only [] []) m')

def Lam64 : LEnv := ⟨fun a σ m k => match firstReg a with
  | _ => bump False,
  fun id => match id with
  | _ => bump false,
  fun b => match keyC b with
  | some 1004 => true
  | _ => bump false,
  fun b σ m k => match keyC b with
  | some 1004 => LamP64_1004 σ m k
  | _ => bump False⟩

def lxp64_1004 : Ex → List Nat := fun e => match e with
  | .normal => []
  | _ => []

theorem pc64_1004 (b_0 o_0 : Nat) (x_1 : Int) (x_2 : Int) (x_11 : Bool) (m : Mem) (k : KX) : once Tryz.prog E64 Lam64 [0, 1, 2, 11] lxp64_1004 (((secsOf (bodyOf Tryz.f64)).filter Lam64.cut).getD 0 .skip) [(.ptr b_0 o_0), (.flat (.int .i64 x_1)), (.flat (.int .u32 x_2)), (.flat (.bool x_11))] m k = P64_1004 b_0 o_0 x_1 x_2 x_11 m (fun m' => k .normal (only [] []) m') := by
  kernel_rfl

theorem pok64_1004 : PieceOK Tryz.prog E64 Lam64 (((secsOf (bodyOf Tryz.f64)).filter Lam64.cut).getD 0 .skip) := by
  refine ⟨fun σ => ∃ b_0 o_0 x_1 x_2 x_11, σ 0 = .ptr b_0 o_0 ∧ σ 1 = .flat (.int .i64 x_1) ∧ σ 2 = .flat (.int .u32 x_2) ∧ σ 11 = .flat (.bool x_11), [0, 1, 2, 11], lxp64_1004, fun σ m k => ?_⟩
  have e : Lam64.piece (((secsOf (bodyOf Tryz.f64)).filter Lam64.cut).getD 0 .skip) σ m k = LamP64_1004 σ m k := by kernel_rfl
  rw [e]
  constructor
  · intro h
    unfold LamP64_1004 at h
    obtain ⟨b_0, o_0, h0, h⟩ := kptr_ok h
    obtain ⟨x_1, h1, h⟩ := kI_ok h
    obtain ⟨x_2, h2, h⟩ := kI_ok h
    obtain ⟨x_11, h3, h⟩ := kbool_ok h
    refine ⟨⟨b_0, o_0, x_1, x_2, x_11, h0, h1, h2, h3⟩, ?_⟩
    have ev : [0, 1, 2, 11].map σ = [(.ptr b_0 o_0), (.flat (.int .i64 x_1)), (.flat (.int .u32 x_2)), (.flat (.bool x_11))] := by simp only [List.map_cons, List.map_nil, h0, h1, h2, h3]
    rw [ev, pc64_1004]
    exact h
  · rintro ⟨⟨b_0, o_0, x_1, x_2, x_11, h0, h1, h2, h3⟩, h⟩
    have ev : [0, 1, 2, 11].map σ = [(.ptr b_0 o_0), (.flat (.int .i64 x_1)), (.flat (.int .u32 x_2)), (.flat (.bool x_11))] := by simp only [List.map_cons, List.map_nil, h0, h1, h2, h3]
    rw [ev, pc64_1004] at h
    unfold LamP64_1004
    try simp only [h0, h1, h2, h3, kI, kbool, kS, kptr, kaggN, kite, decide_true, eq_self]
    exact h

theorem eqn64 (b_0 o_0 : Nat) (x_1 : Int) (x_2 : Int) (m : Mem) (k : KV) : bodyK Tryz.prog E64 Lam64 Tryz.f64 false [(.ptr b_0 o_0), (.flat (.int .i64 x_1)), (.flat (.int .u32 x_2))] m k = F64 b_0 o_0 x_1 x_2 m (fun m' => k (.tup []) m') := by
  kernel_rfl

theorem fs64 (w0 : World) : FS Tryz.prog w0 64 G64 := by
  refine (fs_body (Γ := E64) (sound_env (l := []) w0 (by
    intro p hp
    cases hp)) (by kernel_rfl) Tryz.func64 (Λ := Lam64) (c := (bodyOf Tryz.f64)) (by kernel_rfl) Tryz.call64 (by kernel_rfl) (LS_of (bodyOf Tryz.f64) 0 (by kernel_rfl) (fun i hi => absurd hi (Nat.not_lt_zero i)) 1 (by kernel_rfl) (by
    intro i hi
    match i, hi with
    | 0, _ => exact pok64_1004
    | i + 1, hi => omega)) false (np := 3) (Nat.le_of_ble_eq_true (by kernel_rfl))).imp fun args => ?_
  by_cases hl : args.length = 3
  rotate_left
  · exact .inr fun m k hk => by
      unfold G64 at hk
      split at hk
      · exact hl rfl
      · exact hk
  obtain ⟨a0, a1, a2, rfl⟩ : ∃ a0 a1 a2, args = [a0, a1, a2] := len_list3 hl
  rcases kptr_or a0 with ⟨b_0, o_0, rfl⟩ | h
  rotate_left
  · exact .inr fun m k hk => h _ (by simpa only [G64, kI, kbool, kS, kptr, kaggN, kite, decide_true, eq_self] using hk)
  rcases kI_or .i64 a1 with ⟨x_1, rfl⟩ | h
  rotate_left
  · exact .inr fun m k hk => h _ (by simpa only [G64, kI, kbool, kS, kptr, kaggN, kite, decide_true, eq_self] using hk)
  rcases kI_or .u32 a2 with ⟨x_2, rfl⟩ | h
  rotate_left
  · exact .inr fun m k hk => h _ (by simpa only [G64, kI, kbool, kS, kptr, kaggN, kite, decide_true, eq_self] using hk)
  exact .inl fun m k => propext ⟨fun h => ⟨rfl, by rw [eqn64]; simpa only [G64, kI, kbool, kS, kptr, kaggN, kite, decide_true, eq_self] using h⟩, fun h => by have h := h.2; rw [eqn64] at h; simpa only [G64, kI, kbool, kS, kptr, kaggN, kite, decide_true, eq_self] using h⟩

def E32 : Env := envOf [(31, G31), (60, G60), (61, G61), (62, G62), (63, G63), (64, G64)]

def P32_12102 (b_0 o_0 : Nat) (b_4 o_4 : Nat) (x_10 : Int) (m : Mem) (kr : Int → Mem → Prop) : Prop :=
  ldI .i64 m b_4 (o_4 + 2) fun x32 => F64 b_0 o_0 x32 x_10 m fun m33 => kr (-1) m33

def P32_10103 (b_0 o_0 : Nat) (b_4 o_4 : Nat) (x_8 : Int) (x_10 : Int) (m : Mem) (kr : Int → Mem → Prop) : Prop :=
  ldI .i64 m b_4 (o_4 + 0) fun x29 => kif (x29 == 74) (stC m b_0 (o_0 + 0 + 37) (.flat (.bool true)) fun m30 => stC m30 b_0 (o_0 + 0 + 38) (.flat (.int .u32 x_8)) fun m31 => P32_12102 b_0 o_0 b_4 o_4 x_10 m31 (fun x34 m35 => kr x34 m35)) (P32_12102 b_0 o_0 b_4 o_4 x_10 m (fun x36 m37 => kr x36 m37))

def P32_9004 (b_0 o_0 : Nat) (b_4 o_4 : Nat) (x_7 : Int) (x_8 : Int) (x_10 : Int) (x_55 : Bool) (m : Mem) (kn : Int → Mem → Prop) : Prop :=
  kif x_55 (F62 x_10 (IntKind.wrap .i64 (8 * x_7)) m fun x23 m24 => kn x23 m24) (kn x_10 m)

/-- (*pianola/pianolaref17.Machine).load -/
def F32 (b_0 o_0 : Nat) (c_1 : Nat → AV) (x_2 : Int) (m : Mem) (k : Int → Mem → Prop) : Prop :=
  newK m ⟨6, c_1, 25, false⟩ fun b2 m1 => ldI .i64 m1 b2 0 fun x3 => F60 x3 m1 fun x4 m5 => ldI .u32 m5 b2 5 fun x6 => F62 x6 16 m5 fun x7 m8 => F61 b_0 o_0 (IntKind.wrap .u32 (x_2 + x7)) x4 false m8 fun x9 x10 m11 => kif (decide (x10 ≥ 0)) (k x10 m11) (ldA m11 b_0 (o_0 + 73) fun v12 => ldI .i64 m11 b_0 (o_0 + 0 + 72) fun x13 => kptr v12 fun b14 o15 => F63 b14 o15 x9 x4 x13 m11 fun x16 x17 m18 => kif (!x17) (F31 b_0 o_0 7 false m18 fun x19 m20 => k x19 m20) (ldI .i64 m18 b2 0 fun x21 => kif (x21 == 66) (P32_9004 b_0 o_0 b2 0 x4 x9 x16 true m18 (fun x25 m26 => P32_10103 b_0 o_0 b2 0 x9 x25 m26 (fun x38 m39 => k x38 m39))) (ldI .i64 m18 b2 0 fun x22 => P32_9004 b_0 o_0 b2 0 x4 x9 x16 (x22 == 67) m18 (fun x27 m28 => P32_10103 b_0 o_0 b2 0 x9 x27 m28 (fun x40 m41 => k x40 m41)))))

def G32 (args : List AV) (m : Mem) (k : KV) : Prop := match args with
  | [a0, a1, a2] => kptr a0 fun b_0 o_0 => kaggN 6 a1 fun c_1 => kI .u32 a2 fun x_2 => F32 b_0 o_0 c_1 x_2 m (fun x_1000 m' => k (.flat (.int .i64 x_1000)) m')
  | _ => False

def LamP32_9004 (σ : Nat → AV) (m : Mem) (k : KX) : Prop := kptr (σ 0) fun b_0 o_0 => kptr (σ 4) fun b_4 o_4 => kI .i64 (σ 7) fun x_7 => kI .u32 (σ 8) fun x_8 => kI .u32 (σ 10) fun x_10 => kbool (σ 55) fun x_55 => P32_9004 b_0 o_0 b_4 o_4 x_7 x_8 x_10 x_55 m (fun x_10' m' => k .normal (only [0, 4, 8, 10] [(.ptr b_0 o_0), (.ptr b_4 o_4), (.flat (.int .u32 x_8)), (.flat (.int .u32 x_10'))]) m')

def LamP32_10103 (σ : Nat → AV) (m : Mem) (k : KX) : Prop := kptr (σ 0) fun b_0 o_0 => kptr (σ 4) fun b_4 o_4 => kI .u32 (σ 8) fun x_8 => kI .u32 (σ 10) fun x_10 => P32_10103 b_0 o_0 b_4 o_4 x_8 x_10 m (fun x_6' m' => k .ret (only [6] [(.flat (.int .i64 x_6'))]) m')

def LamP32_12102 (σ : Nat → AV) (m : Mem) (k : KX) : Prop := kptr (σ 0) fun b_0 o_0 => kptr (σ 4) fun b_4 o_4 => kI .u32 (σ 10) fun x_10 => P32_12102 b_0 o_0 b_4 o_4 x_10 m (fun x_6' m' => k .ret (only [6] [(.flat (.int .i64 x_6'))]) m')

def Lam32 : LEnv := ⟨fun a σ m k => match firstReg a with
  | _ => bump False,
  fun id => match id with
  | _ => bump false,
  fun b => match keyC b with
  | some 9004 => true
  | some 10103 => true
  | some 12102 => true
  | _ => bump false,
  fun b σ m k => match keyC b with
  | some 9004 => LamP32_9004 σ m k
  | some 10103 => LamP32_10103 σ m k
  | some 12102 => LamP32_12102 σ m k
  | _ => bump False⟩

def lxp32_12102 : Ex → List Nat := fun e => match e with
  | .ret => [6]
  | _ => []

theorem pc32_12102 (b_0 o_0 : Nat) (b_4 o_4 : Nat) (x_10 : Int) (m : Mem) (k : KX) : once Tryz.prog E32 Lam32 [0, 4, 10] lxp32_12102 (((secsOf (bodyOf Tryz.f32)).filter Lam32.cut).getD 2 .skip) [(.ptr b_0 o_0), (.ptr b_4 o_4), (.flat (.int .u32 x_10))] m k = P32_12102 b_0 o_0 b_4 o_4 x_10 m (fun x_6' m' => k .ret (only [6] [(.flat (.int .i64 x_6'))]) m') := by
  kernel_rfl

theorem pok32_12102 : PieceOK Tryz.prog E32 Lam32 (((secsOf (bodyOf Tryz.f32)).filter Lam32.cut).getD 2 .skip) := by
  refine ⟨fun σ => ∃ b_0 o_0 b_4 o_4 x_10, σ 0 = .ptr b_0 o_0 ∧ σ 4 = .ptr b_4 o_4 ∧ σ 10 = .flat (.int .u32 x_10), [0, 4, 10], lxp32_12102, fun σ m k => ?_⟩
  have e : Lam32.piece (((secsOf (bodyOf Tryz.f32)).filter Lam32.cut).getD 2 .skip) σ m k = LamP32_12102 σ m k := by kernel_rfl
  rw [e]
  constructor
  · intro h
    unfold LamP32_12102 at h
    obtain ⟨b_0, o_0, h0, h⟩ := kptr_ok h
    obtain ⟨b_4, o_4, h1, h⟩ := kptr_ok h
    obtain ⟨x_10, h2, h⟩ := kI_ok h
    refine ⟨⟨b_0, o_0, b_4, o_4, x_10, h0, h1, h2⟩, ?_⟩
    have ev : [0, 4, 10].map σ = [(.ptr b_0 o_0), (.ptr b_4 o_4), (.flat (.int .u32 x_10))] := by simp only [List.map_cons, List.map_nil, h0, h1, h2]
    rw [ev, pc32_12102]
    exact h
  · rintro ⟨⟨b_0, o_0, b_4, o_4, x_10, h0, h1, h2⟩, h⟩
    have ev : [0, 4, 10].map σ = [(.ptr b_0 o_0), (.ptr b_4 o_4), (.flat (.int .u32 x_10))] := by simp only [List.map_cons, List.map_nil, h0, h1, h2]
    rw [ev, pc32_12102] at h
    unfold LamP32_12102
    try simp only [h0, h1, h2, kI, kbool, kS, kptr, kaggN, kite, decide_true, eq_self]
    exact h

def lxp32_10103 : Ex → List Nat := fun e => match e with
  | .ret => [6]
  | _ => []

theorem pc32_10103 (b_0 o_0 : Nat) (b_4 o_4 : Nat) (x_8 : Int) (x_10 : Int) (m : Mem) (k : KX) : once Tryz.prog E32 Lam32 [0, 4, 8, 10] lxp32_10103 (((secsOf (bodyOf Tryz.f32)).filter Lam32.cut).getD 0 .skip) [(.ptr b_0 o_0), (.ptr b_4 o_4), (.flat (.int .u32 x_8)), (.flat (.int .u32 x_10))] m k = P32_10103 b_0 o_0 b_4 o_4 x_8 x_10 m (fun x_6' m' => k .ret (only [6] [(.flat (.int .i64 x_6'))]) m') := by
  kernel_rfl

theorem pok32_10103 : PieceOK Tryz.prog E32 Lam32 (((secsOf (bodyOf Tryz.f32)).filter Lam32.cut).getD 0 .skip) := by
  refine ⟨fun σ => ∃ b_0 o_0 b_4 o_4 x_8 x_10, σ 0 = .ptr b_0 o_0 ∧ σ 4 = .ptr b_4 o_4 ∧ σ 8 = .flat (.int .u32 x_8) ∧ σ 10 = .flat (.int .u32 x_10), [0, 4, 8, 10], lxp32_10103, fun σ m k => ?_⟩
  have e : Lam32.piece (((secsOf (bodyOf Tryz.f32)).filter Lam32.cut).getD 0 .skip) σ m k = LamP32_10103 σ m k := by kernel_rfl
  rw [e]
  constructor
  · intro h
    unfold LamP32_10103 at h
    obtain ⟨b_0, o_0, h0, h⟩ := kptr_ok h
    obtain ⟨b_4, o_4, h1, h⟩ := kptr_ok h
    obtain ⟨x_8, h2, h⟩ := kI_ok h
    obtain ⟨x_10, h3, h⟩ := kI_ok h
    refine ⟨⟨b_0, o_0, b_4, o_4, x_8, x_10, h0, h1, h2, h3⟩, ?_⟩
    have ev : [0, 4, 8, 10].map σ = [(.ptr b_0 o_0), (.ptr b_4 o_4), (.flat (.int .u32 x_8)), (.flat (.int .u32 x_10))] := by simp only [List.map_cons, List.map_nil, h0, h1, h2, h3]
    rw [ev, pc32_10103]
    exact h
  · rintro ⟨⟨b_0, o_0, b_4, o_4, x_8, x_10, h0, h1, h2, h3⟩, h⟩
    have ev : [0, 4, 8, 10].map σ = [(.ptr b_0 o_0), (.ptr b_4 o_4), (.flat (.int .u32 x_8)), (.flat (.int .u32 x_10))] := by simp only [List.map_cons, List.map_nil, h0, h1, h2, h3]
    rw [ev, pc32_10103] at h
    unfold LamP32_10103
    try simp only [h0, h1, h2, h3, kI, kbool, kS, kptr, kaggN, kite, decide_true, eq_self]
    exact h

def lxp32_9004 : Ex → List Nat := fun e => match e with
  | .normal => [0, 4, 8, 10]
  | _ => []

theorem pc32_9004 (b_0 o_0 : Nat) (b_4 o_4 : Nat) (x_7 : Int) (x_8 : Int) (x_10 : Int) (x_55 : Bool) (m : Mem) (k : KX) : once Tryz.prog E32 Lam32 [0, 4, 7, 8, 10, 55] lxp32_9004 (((secsOf (bodyOf Tryz.f32)).filter Lam32.cut).getD 1 .skip) [(.ptr b_0 o_0), (.ptr b_4 o_4), (.flat (.int .i64 x_7)), (.flat (.int .u32 x_8)), (.flat (.int .u32 x_10)), (.flat (.bool x_55))] m k = P32_9004 b_0 o_0 b_4 o_4 x_7 x_8 x_10 x_55 m (fun x_10' m' => k .normal (only [0, 4, 8, 10] [(.ptr b_0 o_0), (.ptr b_4 o_4), (.flat (.int .u32 x_8)), (.flat (.int .u32 x_10'))]) m') := by
  kernel_rfl

theorem pok32_9004 : PieceOK Tryz.prog E32 Lam32 (((secsOf (bodyOf Tryz.f32)).filter Lam32.cut).getD 1 .skip) := by
  refine ⟨fun σ => ∃ b_0 o_0 b_4 o_4 x_7 x_8 x_10 x_55, σ 0 = .ptr b_0 o_0 ∧ σ 4 = .ptr b_4 o_4 ∧ σ 7 = .flat (.int .i64 x_7) ∧ σ 8 = .flat (.int .u32 x_8) ∧ σ 10 = .flat (.int .u32 x_10) ∧ σ 55 = .flat (.bool x_55), [0, 4, 7, 8, 10, 55], lxp32_9004, fun σ m k => ?_⟩
  have e : Lam32.piece (((secsOf (bodyOf Tryz.f32)).filter Lam32.cut).getD 1 .skip) σ m k = LamP32_9004 σ m k := by kernel_rfl
  rw [e]
  constructor
  · intro h
    unfold LamP32_9004 at h
    obtain ⟨b_0, o_0, h0, h⟩ := kptr_ok h
    obtain ⟨b_4, o_4, h1, h⟩ := kptr_ok h
    obtain ⟨x_7, h2, h⟩ := kI_ok h
    obtain ⟨x_8, h3, h⟩ := kI_ok h
    obtain ⟨x_10, h4, h⟩ := kI_ok h
    obtain ⟨x_55, h5, h⟩ := kbool_ok h
    refine ⟨⟨b_0, o_0, b_4, o_4, x_7, x_8, x_10, x_55, h0, h1, h2, h3, h4, h5⟩, ?_⟩
    have ev : [0, 4, 7, 8, 10, 55].map σ = [(.ptr b_0 o_0), (.ptr b_4 o_4), (.flat (.int .i64 x_7)), (.flat (.int .u32 x_8)), (.flat (.int .u32 x_10)), (.flat (.bool x_55))] := by simp only [List.map_cons, List.map_nil, h0, h1, h2, h3, h4, h5]
    rw [ev, pc32_9004]
    exact h
  · rintro ⟨⟨b_0, o_0, b_4, o_4, x_7, x_8, x_10, x_55, h0, h1, h2, h3, h4, h5⟩, h⟩
    have ev : [0, 4, 7, 8, 10, 55].map σ = [(.ptr b_0 o_0), (.ptr b_4 o_4), (.flat (.int .i64 x_7)), (.flat (.int .u32 x_8)), (.flat (.int .u32 x_10)), (.flat (.bool x_55))] := by simp only [List.map_cons, List.map_nil, h0, h1, h2, h3, h4, h5]
    rw [ev, pc32_9004] at h
    unfold LamP32_9004
    try simp only [h0, h1, h2, h3, h4, h5, kI, kbool, kS, kptr, kaggN, kite, decide_true, eq_self]
    exact h

theorem eqn32 (b_0 o_0 : Nat) (c_1 : Nat → AV) (x_2 : Int) (m : Mem) (k : KV) : bodyK Tryz.prog E32 Lam32 Tryz.f32 false [(.ptr b_0 o_0), (.agg 6 c_1), (.flat (.int .u32 x_2))] m k = F32 b_0 o_0 c_1 x_2 m (fun x_1000 m' => k (.flat (.int .i64 x_1000)) m') := by
  kernel_rfl

theorem fs32 (w0 : World) : FS Tryz.prog w0 32 G32 := by
  refine (fs_body (Γ := E32) (sound_env (l := [(31, G31), (60, G60), (61, G61), (62, G62), (63, G63), (64, G64)]) w0 (by
    intro p hp
    simp only [List.mem_cons, List.not_mem_nil, or_false] at hp
    rcases hp with rfl | rfl | rfl | rfl | rfl | rfl
    · exact fs31 w0
    · exact fs60 w0
    · exact fs61 w0
    · exact fs62 w0
    · exact fs63 w0
    · exact fs64 w0)) (by kernel_rfl) Tryz.func32 (Λ := Lam32) (c := (bodyOf Tryz.f32)) (by kernel_rfl) Tryz.call32 (by kernel_rfl) (LS_of (bodyOf Tryz.f32) 0 (by kernel_rfl) (fun i hi => absurd hi (Nat.not_lt_zero i)) 3 (by kernel_rfl) (by
    intro i hi
    match i, hi with
    | 0, _ => exact pok32_10103
    | 1, _ => exact pok32_9004
    | 2, _ => exact pok32_12102
    | i + 3, hi => omega)) false (np := 3) (Nat.le_of_ble_eq_true (by kernel_rfl))).imp fun args => ?_
  by_cases hl : args.length = 3
  rotate_left
  · exact .inr fun m k hk => by
      unfold G32 at hk
      split at hk
      · exact hl rfl
      · exact hk
  obtain ⟨a0, a1, a2, rfl⟩ : ∃ a0 a1 a2, args = [a0, a1, a2] := len_list3 hl
  rcases kptr_or a0 with ⟨b_0, o_0, rfl⟩ | h
  rotate_left
  · exact .inr fun m k hk => h _ (by simpa only [G32, kI, kbool, kS, kptr, kaggN, kite, decide_true, eq_self] using hk)
  rcases kaggN_or 6 a1 with ⟨c_1, rfl⟩ | h
  rotate_left
  · exact .inr fun m k hk => h _ (by simpa only [G32, kI, kbool, kS, kptr, kaggN, kite, decide_true, eq_self] using hk)
  rcases kI_or .u32 a2 with ⟨x_2, rfl⟩ | h
  rotate_left
  · exact .inr fun m k hk => h _ (by simpa only [G32, kI, kbool, kS, kptr, kaggN, kite, decide_true, eq_self] using hk)
  exact .inl fun m k => propext ⟨fun h => ⟨rfl, by rw [eqn32]; simpa only [G32, kI, kbool, kS, kptr, kaggN, kite, decide_true, eq_self] using h⟩, fun h => by have h := h.2; rw [eqn32] at h; simpa only [G32, kI, kbool, kS, kptr, kaggN, kite, decide_true, eq_self] using h⟩

def E113 : Env := envOf []

def R113_1 (b_0 o_0 : Nat) (x_1 : Int) (x_2 : Int) (x_6 : Int) (m : Mem) (kn : Int → Mem → Prop) (k0 : Mem → Prop) : Prop :=
  kif (decide (x_6 < x_2)) (ldA m b_0 (o_0 + 1) fun v1 => ksl v1 fun b2 o3 l4 p5 => kif (decide (0 ≤ IntKind.wrap .i64 ((IntKind.wrap .i64 ((IntKind.wrap .i64 x_1) + x_6)).tdiv 1024)) && decide (IntKind.wrap .i64 ((IntKind.wrap .i64 ((IntKind.wrap .i64 x_1) + x_6)).tdiv 1024) < l4)) (ldB m b2 (o3 + (IntKind.wrap .i64 ((IntKind.wrap .i64 ((IntKind.wrap .i64 x_1) + x_6)).tdiv 1024)).toNat * 1) fun x6 => kif x6 (ldA m b_0 (o_0 + 2) fun v7 => ksl v7 fun b8 o9 l10 p11 => kif (decide (0 ≤ IntKind.wrap .i64 ((IntKind.wrap .i64 ((IntKind.wrap .i64 x_1) + x_6)).tdiv 1024)) && decide (IntKind.wrap .i64 ((IntKind.wrap .i64 ((IntKind.wrap .i64 x_1) + x_6)).tdiv 1024) < l10)) (stC m b8 (o9 + (IntKind.wrap .i64 ((IntKind.wrap .i64 ((IntKind.wrap .i64 x_1) + x_6)).tdiv 1024)).toNat * 1) (.flat (.bool true)) fun m12 => kn (IntKind.wrap .i64 (x_6 + 1)) m12) False) (kn (IntKind.wrap .i64 (x_6 + 1)) m)) False) (k0  m)

def L113_1 (b_0 o_0 : Nat) (x_1 : Int) (x_2 : Int) : Nat → Int → Mem → (Mem → Prop) → Prop
  | 0, _,  _, _ => bump False
  | N + 1, x_6,  m, k0 => R113_1 b_0 o_0 x_1 x_2 x_6 m (fun x_6' m' => L113_1 b_0 o_0 x_1 x_2 N x_6' m' k0) k0

/-- (*pianola/pianolaref2.Ram).touch -/
def F113 (b_0 o_0 : Nat) (x_1 : Int) (x_2 : Int) (m : Mem) (k : Mem → Prop) : Prop :=
  ∃ N14, L113_1 b_0 o_0 x_1 x_2 N14 0 m (fun m13 => k  m13)

def G113 (args : List AV) (m : Mem) (k : KV) : Prop := match args with
  | [a0, a1, a2] => kptr a0 fun b_0 o_0 => kI .u32 a1 fun x_1 => kI .i64 a2 fun x_2 => F113 b_0 o_0 x_1 x_2 m (fun m' => k (.tup []) m')
  | _ => False

def Lam113_1 (σ : Nat → AV) (m : Mem) (k : KX) : Prop := kptr (σ 0) fun b_0 o_0 => kI .u32 (σ 1) fun x_1 => kI .i64 (σ 2) fun x_2 => kI .i64 (σ 6) fun x_6 => ∃ N, L113_1 b_0 o_0 x_1 x_2 N x_6 m (fun m' => k (.exit 0) (only [] []) m')

def Lam113 : LEnv := ⟨fun a σ m k => match firstReg a with
  | some 1 => Lam113_1 σ m k
  | _ => bump False,
  fun id => match id with
  | _ => bump false,
  fun b => match keyC b with
  | _ => bump false,
  fun b σ m k => match keyC b with
  | _ => bump False⟩

def lx113_1 : Ex → List Nat := fun e => match e with
  | .exit 0 => []
  | _ => []

theorem round113_1 (b_0 o_0 : Nat) (x_1 : Int) (x_2 : Int) (x_6 : Int) (m : Mem) (G : List AV → Mem → Prop) (k : KX) : (wpA Tryz.prog E113 Lam113 ((loopsOf (bodyOf Tryz.f113)).getD 0 .skip) (only [0, 1, 2, 6] [(.ptr b_0 o_0), (.flat (.int .u32 x_1)), (.flat (.int .i64 x_2)), (.flat (.int .i64 x_6))]) m fun e σ' m' => match e with
    | .normal => G ([0, 1, 2, 6].map σ') m'
    | .exit id => k (.exit id) (only (lx113_1 (.exit id)) ((lx113_1 (.exit id)).map σ')) m'
    | .ret => k .ret (only (lx113_1 .ret) ((lx113_1 .ret).map σ')) m') = R113_1 b_0 o_0 x_1 x_2 x_6 m (fun x_6' m' => G [(.ptr b_0 o_0), (.flat (.int .u32 x_1)), (.flat (.int .i64 x_2)), (.flat (.int .i64 x_6'))] m') (fun m' => k (.exit 0) (only [] []) m') := by
  kernel_rfl

theorem loop113_1 (b_0 o_0 : Nat) (x_1 : Int) (x_2 : Int) (k : KX) : ∀ (N : Nat) (x_6 : Int) (m : Mem), rounds Tryz.prog E113 Lam113 [0, 1, 2, 6] lx113_1 ((loopsOf (bodyOf Tryz.f113)).getD 0 .skip) N [(.ptr b_0 o_0), (.flat (.int .u32 x_1)), (.flat (.int .i64 x_2)), (.flat (.int .i64 x_6))] m k = L113_1 b_0 o_0 x_1 x_2 N x_6 m (fun m' => k (.exit 0) (only [] []) m') := by
  intro N
  induction N with
  | zero => intros; rfl
  | succ N ih =>
    intro x_6 m
    refine (round113_1 b_0 o_0 x_1 x_2 x_6 m (fun vs m' => rounds Tryz.prog E113 Lam113 [0, 1, 2, 6] lx113_1 ((loopsOf (bodyOf Tryz.f113)).getD 0 .skip) N vs m' k) k).trans ?_
    simp only [ih]
    rfl

theorem lok113_1 : LoopOK Tryz.prog E113 Lam113 ((loopsOf (bodyOf Tryz.f113)).getD 0 .skip) := by
  refine ⟨fun σ => ∃ b_0 o_0 x_1 x_2 x_6, σ 0 = .ptr b_0 o_0 ∧ σ 1 = .flat (.int .u32 x_1) ∧ σ 2 = .flat (.int .i64 x_2) ∧ σ 6 = .flat (.int .i64 x_6), [0, 1, 2, 6], lx113_1, fun σ m k => ?_⟩
  have e : Lam113.loop ((loopsOf (bodyOf Tryz.f113)).getD 0 .skip) σ m k = Lam113_1 σ m k := by kernel_rfl
  rw [e]
  constructor
  · intro h
    unfold Lam113_1 at h
    obtain ⟨b_0, o_0, h0, h⟩ := kptr_ok h
    obtain ⟨x_1, h1, h⟩ := kI_ok h
    obtain ⟨x_2, h2, h⟩ := kI_ok h
    obtain ⟨x_6, h3, h⟩ := kI_ok h
    obtain ⟨N, h⟩ := h
    refine ⟨⟨b_0, o_0, x_1, x_2, x_6, h0, h1, h2, h3⟩, N, ?_⟩
    have ev : [0, 1, 2, 6].map σ = [(.ptr b_0 o_0), (.flat (.int .u32 x_1)), (.flat (.int .i64 x_2)), (.flat (.int .i64 x_6))] := by simp only [List.map_cons, List.map_nil, h0, h1, h2, h3]
    rw [ev, loop113_1]
    exact h
  · rintro ⟨⟨b_0, o_0, x_1, x_2, x_6, h0, h1, h2, h3⟩, N, h⟩
    have ev : [0, 1, 2, 6].map σ = [(.ptr b_0 o_0), (.flat (.int .u32 x_1)), (.flat (.int .i64 x_2)), (.flat (.int .i64 x_6))] := by simp only [List.map_cons, List.map_nil, h0, h1, h2, h3]
    rw [ev, loop113_1] at h
    unfold Lam113_1
    try simp only [h0, h1, h2, h3, kI, kbool, kS, kptr, kaggN, kite, decide_true, eq_self]
    exact ⟨N, h⟩

theorem eqn113 (b_0 o_0 : Nat) (x_1 : Int) (x_2 : Int) (m : Mem) (k : KV) : bodyK Tryz.prog E113 Lam113 Tryz.f113 false [(.ptr b_0 o_0), (.flat (.int .u32 x_1)), (.flat (.int .i64 x_2))] m k = F113 b_0 o_0 x_1 x_2 m (fun m' => k (.tup []) m') := by
  kernel_rfl

theorem fs113 (w0 : World) : FS Tryz.prog w0 113 G113 := by
  refine (fs_body (Γ := E113) (sound_env (l := []) w0 (by
    intro p hp
    cases hp)) (by kernel_rfl) Tryz.func113 (Λ := Lam113) (c := (bodyOf Tryz.f113)) (by kernel_rfl) Tryz.call113 (by kernel_rfl) (LS_of (bodyOf Tryz.f113) 1 (by kernel_rfl) (by
    intro i hi
    match i, hi with
    | 0, _ => exact lok113_1
    | i + 1, hi => omega) 0 (by kernel_rfl) (fun i hi => absurd hi (Nat.not_lt_zero i))) false (np := 3) (Nat.le_of_ble_eq_true (by kernel_rfl))).imp fun args => ?_
  by_cases hl : args.length = 3
  rotate_left
  · exact .inr fun m k hk => by
      unfold G113 at hk
      split at hk
      · exact hl rfl
      · exact hk
  obtain ⟨a0, a1, a2, rfl⟩ : ∃ a0 a1 a2, args = [a0, a1, a2] := len_list3 hl
  rcases kptr_or a0 with ⟨b_0, o_0, rfl⟩ | h
  rotate_left
  · exact .inr fun m k hk => h _ (by simpa only [G113, kI, kbool, kS, kptr, kaggN, kite, decide_true, eq_self] using hk)
  rcases kI_or .u32 a1 with ⟨x_1, rfl⟩ | h
  rotate_left
  · exact .inr fun m k hk => h _ (by simpa only [G113, kI, kbool, kS, kptr, kaggN, kite, decide_true, eq_self] using hk)
  rcases kI_or .i64 a2 with ⟨x_2, rfl⟩ | h
  rotate_left
  · exact .inr fun m k hk => h _ (by simpa only [G113, kI, kbool, kS, kptr, kaggN, kite, decide_true, eq_self] using hk)
  exact .inl fun m k => propext ⟨fun h => ⟨rfl, by rw [eqn113]; simpa only [G113, kI, kbool, kS, kptr, kaggN, kite, decide_true, eq_self] using h⟩, fun h => by have h := h.2; rw [eqn113] at h; simpa only [G113, kI, kbool, kS, kptr, kaggN, kite, decide_true, eq_self] using h⟩

def E97 : Env := envOf [(110, G110), (113, G113)]

def R97_4 (b_0 o_0 : Nat) (x_1 : Int) (x_2 : Int) (x_3 : Int) (x_9 : Int) (m : Mem) (kn : Int → Mem → Prop) (k0 : Mem → Prop) : Prop :=
  kif (decide (x_9 < x_2)) (ldA m b_0 (o_0 + 0) fun v7 => kif (decide (IntKind.wrap .u64 (IntKind.wrap .i64 (8 * (IntKind.wrap .i64 ((IntKind.wrap .i64 (x_2 - 1)) - x_9)))) < 0)) False (ksl v7 fun b8 o9 l10 p11 => kif (decide (0 ≤ IntKind.wrap .i64 ((IntKind.wrap .i64 x_1) + x_9)) && decide (IntKind.wrap .i64 ((IntKind.wrap .i64 x_1) + x_9) < l10)) (stC m b8 (o9 + (IntKind.wrap .i64 ((IntKind.wrap .i64 x_1) + x_9)).toNat * 1) (.flat (.int .u8 (IntKind.wrap .u8 (x_3.fdiv (2 ^ min (IntKind.wrap .u64 (IntKind.wrap .i64 (8 * (IntKind.wrap .i64 ((IntKind.wrap .i64 (x_2 - 1)) - x_9))))).toNat 32))))) fun m12 => kn (IntKind.wrap .i64 (x_9 + 1)) m12) False)) (k0  m)

def L97_4 (b_0 o_0 : Nat) (x_1 : Int) (x_2 : Int) (x_3 : Int) : Nat → Int → Mem → (Mem → Prop) → Prop
  | 0, _,  _, _ => bump False
  | N + 1, x_9,  m, k0 => R97_4 b_0 o_0 x_1 x_2 x_3 x_9 m (fun x_9' m' => L97_4 b_0 o_0 x_1 x_2 x_3 N x_9' m' k0) k0

def P97_3103 (b_0 o_0 : Nat) (x_1 : Int) (x_2 : Int) (x_3 : Int) (m : Mem) (kr : Bool → Mem → Prop) : Prop :=
  ∃ N14, L97_4 b_0 o_0 x_1 x_2 x_3 N14 0 m (fun m13 => F113 b_0 o_0 x_1 x_2 m13 fun m15 => kr true m15)

/-- (*pianola/pianolaref2.Ram).Store -/
def F97 (b_0 o_0 : Nat) (x_1 : Int) (x_2 : Int) (x_3 : Int) (m : Mem) (k : Bool → Mem → Prop) : Prop :=
  kif (x_2 != 1) (kif (x_2 != 2) (kif (x_2 != 4) (k false m) (kif (decide (IntKind.wrap .u32 x_2 = 0)) False (kif ((x_1.tmod (IntKind.wrap .u32 x_2)) != 0) (k false m) (F110 b_0 o_0 x_1 x_2 m fun x1 m2 => kif (!x1) (k false m2) (P97_3103 b_0 o_0 x_1 x_2 x_3 m2 (fun x16 m17 => k x16 m17)))))) (kif (decide (IntKind.wrap .u32 x_2 = 0)) False (kif ((x_1.tmod (IntKind.wrap .u32 x_2)) != 0) (k false m) (F110 b_0 o_0 x_1 x_2 m fun x3 m4 => kif (!x3) (k false m4) (P97_3103 b_0 o_0 x_1 x_2 x_3 m4 (fun x18 m19 => k x18 m19)))))) (kif (decide (IntKind.wrap .u32 x_2 = 0)) False (kif ((x_1.tmod (IntKind.wrap .u32 x_2)) != 0) (k false m) (F110 b_0 o_0 x_1 x_2 m fun x5 m6 => kif (!x5) (k false m6) (P97_3103 b_0 o_0 x_1 x_2 x_3 m6 (fun x20 m21 => k x20 m21)))))

def G97 (args : List AV) (m : Mem) (k : KV) : Prop := match args with
  | [a0, a1, a2, a3] => kptr a0 fun b_0 o_0 => kI .u32 a1 fun x_1 => kI .i64 a2 fun x_2 => kI .u32 a3 fun x_3 => F97 b_0 o_0 x_1 x_2 x_3 m (fun x_1000 m' => k (.flat (.bool x_1000)) m')
  | _ => False

def LamP97_3103 (σ : Nat → AV) (m : Mem) (k : KX) : Prop := kptr (σ 0) fun b_0 o_0 => kI .u32 (σ 1) fun x_1 => kI .i64 (σ 2) fun x_2 => kI .u32 (σ 3) fun x_3 => P97_3103 b_0 o_0 x_1 x_2 x_3 m (fun x_8' m' => k .ret (only [8] [(.flat (.bool x_8'))]) m')

def Lam97_4 (σ : Nat → AV) (m : Mem) (k : KX) : Prop := kptr (σ 0) fun b_0 o_0 => kI .u32 (σ 1) fun x_1 => kI .i64 (σ 2) fun x_2 => kI .u32 (σ 3) fun x_3 => kI .i64 (σ 9) fun x_9 => ∃ N, L97_4 b_0 o_0 x_1 x_2 x_3 N x_9 m (fun m' => k (.exit 0) (only [0, 1, 2] [(.ptr b_0 o_0), (.flat (.int .u32 x_1)), (.flat (.int .i64 x_2))]) m')

def Lam97 : LEnv := ⟨fun a σ m k => match firstReg a with
  | some 4 => Lam97_4 σ m k
  | _ => bump False,
  fun id => match id with
  | _ => bump false,
  fun b => match keyC b with
  | some 3103 => true
  | _ => bump false,
  fun b σ m k => match keyC b with
  | some 3103 => LamP97_3103 σ m k
  | _ => bump False⟩

def lx97_4 : Ex → List Nat := fun e => match e with
  | .exit 0 => [0, 1, 2]
  | _ => []

theorem round97_4 (b_0 o_0 : Nat) (x_1 : Int) (x_2 : Int) (x_3 : Int) (x_9 : Int) (m : Mem) (G : List AV → Mem → Prop) (k : KX) : (wpA Tryz.prog E97 Lam97 ((loopsOf (bodyOf Tryz.f97)).getD 0 .skip) (only [0, 1, 2, 3, 9] [(.ptr b_0 o_0), (.flat (.int .u32 x_1)), (.flat (.int .i64 x_2)), (.flat (.int .u32 x_3)), (.flat (.int .i64 x_9))]) m fun e σ' m' => match e with
    | .normal => G ([0, 1, 2, 3, 9].map σ') m'
    | .exit id => k (.exit id) (only (lx97_4 (.exit id)) ((lx97_4 (.exit id)).map σ')) m'
    | .ret => k .ret (only (lx97_4 .ret) ((lx97_4 .ret).map σ')) m') = R97_4 b_0 o_0 x_1 x_2 x_3 x_9 m (fun x_9' m' => G [(.ptr b_0 o_0), (.flat (.int .u32 x_1)), (.flat (.int .i64 x_2)), (.flat (.int .u32 x_3)), (.flat (.int .i64 x_9'))] m') (fun m' => k (.exit 0) (only [0, 1, 2] [(.ptr b_0 o_0), (.flat (.int .u32 x_1)), (.flat (.int .i64 x_2))]) m') := by
  kernel_rfl

theorem loop97_4 (b_0 o_0 : Nat) (x_1 : Int) (x_2 : Int) (x_3 : Int) (k : KX) : ∀ (N : Nat) (x_9 : Int) (m : Mem), rounds Tryz.prog E97 Lam97 [0, 1, 2, 3, 9] lx97_4 ((loopsOf (bodyOf Tryz.f97)).getD 0 .skip) N [(.ptr b_0 o_0), (.flat (.int .u32 x_1)), (.flat (.int .i64 x_2)), (.flat (.int .u32 x_3)), (.flat (.int .i64 x_9))] m k = L97_4 b_0 o_0 x_1 x_2 x_3 N x_9 m (fun m' => k (.exit 0) (only [0, 1, 2] [(.ptr b_0 o_0), (.flat (.int .u32 x_1)), (.flat (.int .i64 x_2))]) m') := by
  intro N
  induction N with
  | zero => intros; rfl
  | succ N ih =>
    intro x_9 m
    refine (round97_4 b_0 o_0 x_1 x_2 x_3 x_9 m (fun vs m' => rounds Tryz.prog E97 Lam97 [0, 1, 2, 3, 9] lx97_4 ((loopsOf (bodyOf Tryz.f97)).getD 0 .skip) N vs m' k) k).trans ?_
    simp only [ih]
    rfl

theorem lok97_4 : LoopOK Tryz.prog E97 Lam97 ((loopsOf (bodyOf Tryz.f97)).getD 0 .skip) := by
  refine ⟨fun σ => ∃ b_0 o_0 x_1 x_2 x_3 x_9, σ 0 = .ptr b_0 o_0 ∧ σ 1 = .flat (.int .u32 x_1) ∧ σ 2 = .flat (.int .i64 x_2) ∧ σ 3 = .flat (.int .u32 x_3) ∧ σ 9 = .flat (.int .i64 x_9), [0, 1, 2, 3, 9], lx97_4, fun σ m k => ?_⟩
  have e : Lam97.loop ((loopsOf (bodyOf Tryz.f97)).getD 0 .skip) σ m k = Lam97_4 σ m k := by kernel_rfl
  rw [e]
  constructor
  · intro h
    unfold Lam97_4 at h
    obtain ⟨b_0, o_0, h0, h⟩ := kptr_ok h
    obtain ⟨x_1, h1, h⟩ := kI_ok h
    obtain ⟨x_2, h2, h⟩ := kI_ok h
    obtain ⟨x_3, h3, h⟩ := kI_ok h
    obtain ⟨x_9, h4, h⟩ := kI_ok h
    obtain ⟨N, h⟩ := h
    refine ⟨⟨b_0, o_0, x_1, x_2, x_3, x_9, h0, h1, h2, h3, h4⟩, N, ?_⟩
    have ev : [0, 1, 2, 3, 9].map σ = [(.ptr b_0 o_0), (.flat (.int .u32 x_1)), (.flat (.int .i64 x_2)), (.flat (.int .u32 x_3)), (.flat (.int .i64 x_9))] := by simp only [List.map_cons, List.map_nil, h0, h1, h2, h3, h4]
    rw [ev, loop97_4]
    exact h
  · rintro ⟨⟨b_0, o_0, x_1, x_2, x_3, x_9, h0, h1, h2, h3, h4⟩, N, h⟩
    have ev : [0, 1, 2, 3, 9].map σ = [(.ptr b_0 o_0), (.flat (.int .u32 x_1)), (.flat (.int .i64 x_2)), (.flat (.int .u32 x_3)), (.flat (.int .i64 x_9))] := by simp only [List.map_cons, List.map_nil, h0, h1, h2, h3, h4]
    rw [ev, loop97_4] at h
    unfold Lam97_4
    try simp only [h0, h1, h2, h3, h4, kI, kbool, kS, kptr, kaggN, kite, decide_true, eq_self]
    exact ⟨N, h⟩

def lxp97_3103 : Ex → List Nat := fun e => match e with
  | .ret => [8]
  | _ => []

theorem pc97_3103 (b_0 o_0 : Nat) (x_1 : Int) (x_2 : Int) (x_3 : Int) (m : Mem) (k : KX) : once Tryz.prog E97 Lam97 [0, 1, 2, 3] lxp97_3103 (((secsOf (bodyOf Tryz.f97)).filter Lam97.cut).getD 0 .skip) [(.ptr b_0 o_0), (.flat (.int .u32 x_1)), (.flat (.int .i64 x_2)), (.flat (.int .u32 x_3))] m k = P97_3103 b_0 o_0 x_1 x_2 x_3 m (fun x_8' m' => k .ret (only [8] [(.flat (.bool x_8'))]) m') := by
  kernel_rfl

theorem pok97_3103 : PieceOK Tryz.prog E97 Lam97 (((secsOf (bodyOf Tryz.f97)).filter Lam97.cut).getD 0 .skip) := by
  refine ⟨fun σ => ∃ b_0 o_0 x_1 x_2 x_3, σ 0 = .ptr b_0 o_0 ∧ σ 1 = .flat (.int .u32 x_1) ∧ σ 2 = .flat (.int .i64 x_2) ∧ σ 3 = .flat (.int .u32 x_3), [0, 1, 2, 3], lxp97_3103, fun σ m k => ?_⟩
  have e : Lam97.piece (((secsOf (bodyOf Tryz.f97)).filter Lam97.cut).getD 0 .skip) σ m k = LamP97_3103 σ m k := by kernel_rfl
  rw [e]
  constructor
  · intro h
    unfold LamP97_3103 at h
    obtain ⟨b_0, o_0, h0, h⟩ := kptr_ok h
    obtain ⟨x_1, h1, h⟩ := kI_ok h
    obtain ⟨x_2, h2, h⟩ := kI_ok h
    obtain ⟨x_3, h3, h⟩ := kI_ok h
    refine ⟨⟨b_0, o_0, x_1, x_2, x_3, h0, h1, h2, h3⟩, ?_⟩
    have ev : [0, 1, 2, 3].map σ = [(.ptr b_0 o_0), (.flat (.int .u32 x_1)), (.flat (.int .i64 x_2)), (.flat (.int .u32 x_3))] := by simp only [List.map_cons, List.map_nil, h0, h1, h2, h3]
    rw [ev, pc97_3103]
    exact h
  · rintro ⟨⟨b_0, o_0, x_1, x_2, x_3, h0, h1, h2, h3⟩, h⟩
    have ev : [0, 1, 2, 3].map σ = [(.ptr b_0 o_0), (.flat (.int .u32 x_1)), (.flat (.int .i64 x_2)), (.flat (.int .u32 x_3))] := by simp only [List.map_cons, List.map_nil, h0, h1, h2, h3]
    rw [ev, pc97_3103] at h
    unfold LamP97_3103
    try simp only [h0, h1, h2, h3, kI, kbool, kS, kptr, kaggN, kite, decide_true, eq_self]
    exact h

theorem eqn97 (b_0 o_0 : Nat) (x_1 : Int) (x_2 : Int) (x_3 : Int) (m : Mem) (k : KV) : bodyK Tryz.prog E97 Lam97 Tryz.f97 false [(.ptr b_0 o_0), (.flat (.int .u32 x_1)), (.flat (.int .i64 x_2)), (.flat (.int .u32 x_3))] m k = F97 b_0 o_0 x_1 x_2 x_3 m (fun x_1000 m' => k (.flat (.bool x_1000)) m') := by
  kernel_rfl

theorem fs97 (w0 : World) : FS Tryz.prog w0 97 G97 := by
  refine (fs_body (Γ := E97) (sound_env (l := [(110, G110), (113, G113)]) w0 (by
    intro p hp
    simp only [List.mem_cons, List.not_mem_nil, or_false] at hp
    rcases hp with rfl | rfl
    · exact fs110 w0
    · exact fs113 w0)) (by kernel_rfl) Tryz.func97 (Λ := Lam97) (c := (bodyOf Tryz.f97)) (by kernel_rfl) Tryz.call97 (by kernel_rfl) (LS_of (bodyOf Tryz.f97) 1 (by kernel_rfl) (by
    intro i hi
    match i, hi with
    | 0, _ => exact lok97_4
    | i + 1, hi => omega) 1 (by kernel_rfl) (by
    intro i hi
    match i, hi with
    | 0, _ => exact pok97_3103
    | i + 1, hi => omega)) false (np := 4) (Nat.le_of_ble_eq_true (by kernel_rfl))).imp fun args => ?_
  by_cases hl : args.length = 4
  rotate_left
  · exact .inr fun m k hk => by
      unfold G97 at hk
      split at hk
      · exact hl rfl
      · exact hk
  obtain ⟨a0, a1, a2, a3, rfl⟩ : ∃ a0 a1 a2 a3, args = [a0, a1, a2, a3] := len_list4 hl
  rcases kptr_or a0 with ⟨b_0, o_0, rfl⟩ | h
  rotate_left
  · exact .inr fun m k hk => h _ (by simpa only [G97, kI, kbool, kS, kptr, kaggN, kite, decide_true, eq_self] using hk)
  rcases kI_or .u32 a1 with ⟨x_1, rfl⟩ | h
  rotate_left
  · exact .inr fun m k hk => h _ (by simpa only [G97, kI, kbool, kS, kptr, kaggN, kite, decide_true, eq_self] using hk)
  rcases kI_or .i64 a2 with ⟨x_2, rfl⟩ | h
  rotate_left
  · exact .inr fun m k hk => h _ (by simpa only [G97, kI, kbool, kS, kptr, kaggN, kite, decide_true, eq_self] using hk)
  rcases kI_or .u32 a3 with ⟨x_3, rfl⟩ | h
  rotate_left
  · exact .inr fun m k hk => h _ (by simpa only [G97, kI, kbool, kS, kptr, kaggN, kite, decide_true, eq_self] using hk)
  exact .inl fun m k => propext ⟨fun h => ⟨rfl, by rw [eqn97]; simpa only [G97, kI, kbool, kS, kptr, kaggN, kite, decide_true, eq_self] using h⟩, fun h => by have h := h.2; rw [eqn97] at h; simpa only [G97, kI, kbool, kS, kptr, kaggN, kite, decide_true, eq_self] using h⟩

def E114 : Env := envOf []

/-- (*pianola/pianolaref15.Bus).timer -/
def F114 (b_0 o_0 : Nat) (x_1 : Int) (x_2 : Int) (x_3 : Int) (x_4 : Int) (m : Mem) (k : Bool → Mem → Prop) : Prop :=
  kif (decide (0 ≤ IntKind.wrap .i64 (x_1 - 1)) && decide (IntKind.wrap .i64 (x_1 - 1) < 2)) (kif (x_2 == 0) (stC m b_0 (o_0 + 3 + (IntKind.wrap .i64 (x_1 - 1)).toNat * 3 + 0) (.flat (.int .u32 (bits .and .u32 x_3 3))) fun m1 => kif ((bits .and .u32 x_3 1) != 0) (ldI .u32 m1 b_0 (o_0 + 3 + (IntKind.wrap .i64 (x_1 - 1)).toNat * 3 + 1) fun x2 => bump False) (bump False)) (kif (x_2 == 1) (stC m b_0 (o_0 + 3 + (IntKind.wrap .i64 (x_1 - 1)).toNat * 3 + 1) (.flat (.int .u32 x_3)) fun m3 => k (decide (x_2 < 3)) m3) (kif (x_2 == 2) (kif ((bits .and .u32 x_3 1) != 0) (stC m b_0 (o_0 + 3 + (IntKind.wrap .i64 (x_1 - 1)).toNat * 3 + 2) (.flat (.int .u32 0)) fun m4 => k (decide (x_2 < 3)) m4) (k (decide (x_2 < 3)) m)) (k (decide (x_2 < 3)) m)))) False

def G114 (args : List AV) (m : Mem) (k : KV) : Prop := match args with
  | [a0, a1, a2, a3, a4] => kptr a0 fun b_0 o_0 => kI .i64 a1 fun x_1 => kI .u32 a2 fun x_2 => kI .u32 a3 fun x_3 => kI .i64 a4 fun x_4 => F114 b_0 o_0 x_1 x_2 x_3 x_4 m (fun x_1000 m' => k (.flat (.bool x_1000)) m')
  | _ => False

def Lam114 : LEnv := ⟨fun a σ m k => match firstReg a with
  | _ => bump False,
  fun id => match id with
  | _ => bump false,
  fun b => match keyC b with
  | _ => bump false,
  fun b σ m k => match keyC b with
  | _ => bump False⟩

theorem eqn114 (b_0 o_0 : Nat) (x_1 : Int) (x_2 : Int) (x_3 : Int) (x_4 : Int) (m : Mem) (k : KV) : bodyK Tryz.prog E114 Lam114 Tryz.f114 false [(.ptr b_0 o_0), (.flat (.int .i64 x_1)), (.flat (.int .u32 x_2)), (.flat (.int .u32 x_3)), (.flat (.int .i64 x_4))] m k = F114 b_0 o_0 x_1 x_2 x_3 x_4 m (fun x_1000 m' => k (.flat (.bool x_1000)) m') := by
  kernel_rfl

theorem fs114 (w0 : World) : FS Tryz.prog w0 114 G114 := by
  refine (fs_body (Γ := E114) (sound_env (l := []) w0 (by
    intro p hp
    cases hp)) (by kernel_rfl) Tryz.func114 (Λ := Lam114) (c := (bodyOf Tryz.f114)) (by kernel_rfl) Tryz.call114 (by kernel_rfl) (LS_of (bodyOf Tryz.f114) 0 (by kernel_rfl) (fun i hi => absurd hi (Nat.not_lt_zero i)) 0 (by kernel_rfl) (fun i hi => absurd hi (Nat.not_lt_zero i))) false (np := 5) (Nat.le_of_ble_eq_true (by kernel_rfl))).imp fun args => ?_
  by_cases hl : args.length = 5
  rotate_left
  · exact .inr fun m k hk => by
      unfold G114 at hk
      split at hk
      · exact hl rfl
      · exact hk
  obtain ⟨a0, a1, a2, a3, a4, rfl⟩ : ∃ a0 a1 a2 a3 a4, args = [a0, a1, a2, a3, a4] := len_list5 hl
  rcases kptr_or a0 with ⟨b_0, o_0, rfl⟩ | h
  rotate_left
  · exact .inr fun m k hk => h _ (by simpa only [G114, kI, kbool, kS, kptr, kaggN, kite, decide_true, eq_self] using hk)
  rcases kI_or .i64 a1 with ⟨x_1, rfl⟩ | h
  rotate_left
  · exact .inr fun m k hk => h _ (by simpa only [G114, kI, kbool, kS, kptr, kaggN, kite, decide_true, eq_self] using hk)
  rcases kI_or .u32 a2 with ⟨x_2, rfl⟩ | h
  rotate_left
  · exact .inr fun m k hk => h _ (by simpa only [G114, kI, kbool, kS, kptr, kaggN, kite, decide_true, eq_self] using hk)
  rcases kI_or .u32 a3 with ⟨x_3, rfl⟩ | h
  rotate_left
  · exact .inr fun m k hk => h _ (by simpa only [G114, kI, kbool, kS, kptr, kaggN, kite, decide_true, eq_self] using hk)
  rcases kI_or .i64 a4 with ⟨x_4, rfl⟩ | h
  rotate_left
  · exact .inr fun m k hk => h _ (by simpa only [G114, kI, kbool, kS, kptr, kaggN, kite, decide_true, eq_self] using hk)
  exact .inl fun m k => propext ⟨fun h => ⟨rfl, by rw [eqn114]; simpa only [G114, kI, kbool, kS, kptr, kaggN, kite, decide_true, eq_self] using h⟩, fun h => by have h := h.2; rw [eqn114] at h; simpa only [G114, kI, kbool, kS, kptr, kaggN, kite, decide_true, eq_self] using h⟩

def E115 : Env := envOf []

/-- (*pianola/pianolaref15.Bus).uart -/
def F115 (b_0 o_0 : Nat) (x_1 : Int) (x_2 : Int) (x_3 : Int) (m : Mem) (k : Bool → Mem → Prop) : Prop :=
  kif (x_1 == 0) (ldA m b_0 (o_0 + 9 + 1) fun v1 => klen v1 fun x2 => kif (decide (x2 < 16)) (ldA m b_0 (o_0 + 9 + 1) fun v3 => klen v3 fun x4 => kif (x4 == 0) (bump False) (newK m ⟨0, lget [], 5, false⟩ fun b6 m5 => ldA m5 b_0 (o_0 + 9 + 1) fun v7 => appS 1 1 5 (.sl b6 0 0 (.ex 0)) v7 m5 fun v8 m9 => newK m9 ⟨1, upd (lget [(.flat (.int .u8 0))]) 0 (.flat (.int .u8 (IntKind.wrap .u8 x_2))), 5, false⟩ fun b11 m10 => appS 1 1 5 v8 (.sl b11 0 1 (.ex 1)) m10 fun v12 m13 => stV m13 b_0 (o_0 + 9 + 1) v12 fun m14 => k (decide (x_1 < 3)) m14)) (k (decide (x_1 < 3)) m)) (kif (x_1 == 1) (kif ((bits .and .u32 x_2 4) != 0) (stC m b_0 (o_0 + 9 + 2) (.flat (.bool false)) fun m15 => k (decide (x_1 < 3)) m15) (k (decide (x_1 < 3)) m)) (kif (x_1 == 2) (stC m b_0 (o_0 + 9 + 3) (.flat (.int .u32 (bits .and .u32 x_2 3))) fun m16 => k (decide (x_1 < 3)) m16) (k (decide (x_1 < 3)) m)))

def G115 (args : List AV) (m : Mem) (k : KV) : Prop := match args with
  | [a0, a1, a2, a3] => kptr a0 fun b_0 o_0 => kI .u32 a1 fun x_1 => kI .u32 a2 fun x_2 => kI .i64 a3 fun x_3 => F115 b_0 o_0 x_1 x_2 x_3 m (fun x_1000 m' => k (.flat (.bool x_1000)) m')
  | _ => False

def Lam115 : LEnv := ⟨fun a σ m k => match firstReg a with
  | _ => bump False,
  fun id => match id with
  | _ => bump false,
  fun b => match keyC b with
  | _ => bump false,
  fun b σ m k => match keyC b with
  | _ => bump False⟩

theorem eqn115 (b_0 o_0 : Nat) (x_1 : Int) (x_2 : Int) (x_3 : Int) (m : Mem) (k : KV) : bodyK Tryz.prog E115 Lam115 Tryz.f115 false [(.ptr b_0 o_0), (.flat (.int .u32 x_1)), (.flat (.int .u32 x_2)), (.flat (.int .i64 x_3))] m k = F115 b_0 o_0 x_1 x_2 x_3 m (fun x_1000 m' => k (.flat (.bool x_1000)) m') := by
  kernel_rfl

theorem fs115 (w0 : World) : FS Tryz.prog w0 115 G115 := by
  refine (fs_body (Γ := E115) (sound_env (l := []) w0 (by
    intro p hp
    cases hp)) (by kernel_rfl) Tryz.func115 (Λ := Lam115) (c := (bodyOf Tryz.f115)) (by kernel_rfl) Tryz.call115 (by kernel_rfl) (LS_of (bodyOf Tryz.f115) 0 (by kernel_rfl) (fun i hi => absurd hi (Nat.not_lt_zero i)) 0 (by kernel_rfl) (fun i hi => absurd hi (Nat.not_lt_zero i))) false (np := 4) (Nat.le_of_ble_eq_true (by kernel_rfl))).imp fun args => ?_
  by_cases hl : args.length = 4
  rotate_left
  · exact .inr fun m k hk => by
      unfold G115 at hk
      split at hk
      · exact hl rfl
      · exact hk
  obtain ⟨a0, a1, a2, a3, rfl⟩ : ∃ a0 a1 a2 a3, args = [a0, a1, a2, a3] := len_list4 hl
  rcases kptr_or a0 with ⟨b_0, o_0, rfl⟩ | h
  rotate_left
  · exact .inr fun m k hk => h _ (by simpa only [G115, kI, kbool, kS, kptr, kaggN, kite, decide_true, eq_self] using hk)
  rcases kI_or .u32 a1 with ⟨x_1, rfl⟩ | h
  rotate_left
  · exact .inr fun m k hk => h _ (by simpa only [G115, kI, kbool, kS, kptr, kaggN, kite, decide_true, eq_self] using hk)
  rcases kI_or .u32 a2 with ⟨x_2, rfl⟩ | h
  rotate_left
  · exact .inr fun m k hk => h _ (by simpa only [G115, kI, kbool, kS, kptr, kaggN, kite, decide_true, eq_self] using hk)
  rcases kI_or .i64 a3 with ⟨x_3, rfl⟩ | h
  rotate_left
  · exact .inr fun m k hk => h _ (by simpa only [G115, kI, kbool, kS, kptr, kaggN, kite, decide_true, eq_self] using hk)
  exact .inl fun m k => propext ⟨fun h => ⟨rfl, by rw [eqn115]; simpa only [G115, kI, kbool, kS, kptr, kaggN, kite, decide_true, eq_self] using h⟩, fun h => by have h := h.2; rw [eqn115] at h; simpa only [G115, kI, kbool, kS, kptr, kaggN, kite, decide_true, eq_self] using h⟩

def E116 : Env := envOf []

def P116_11004 (b_0 o_0 : Nat) (x_1 : Int) (x_3 : Int) (b_9 o_9 : Nat) (x_44 : Bool) (m : Mem) (kn : Mem → Prop) : Prop :=
  kif x_44 (ldI .u32 m b_9 (o_9 + 3) fun x5 => stC m b_9 (o_9 + 3) (.flat (.int .u32 (bits .or .u32 x5 1))) fun m6 => ldI .u32 m6 b_9 (o_9 + 2) fun x7 => bump False) (kn  m)

/-- (*pianola/pianolaref15.Bus).dma -/
def F116 (b_0 o_0 : Nat) (x_1 : Int) (x_2 : Int) (x_3 : Int) (m : Mem) (k : Bool → Mem → Prop) : Prop :=
  kif (x_1 == 0) (stC m b_0 (o_0 + 14 + 0) (.flat (.int .u32 x_2)) fun m1 => k (decide (x_1 < 5)) m1) (kif (x_1 == 1) (stC m b_0 (o_0 + 14 + 1) (.flat (.int .u32 x_2)) fun m2 => k (decide (x_1 < 5)) m2) (kif (x_1 == 2) (stC m b_0 (o_0 + 14 + 2) (.flat (.int .u32 x_2)) fun m3 => k (decide (x_1 < 5)) m3) (kif (x_1 == 3) (kif ((bits .and .u32 x_2 1) != 0) (ldI .u32 m b_0 (o_0 + 14 + 3) fun x4 => P116_11004 b_0 o_0 x_1 x_3 b_0 (o_0 + 14) ((bits .and .u32 x4 1) == 0) m (fun m8 => k (decide (x_1 < 5)) m8)) (P116_11004 b_0 o_0 x_1 x_3 b_0 (o_0 + 14) false m (fun m9 => k (decide (x_1 < 5)) m9))) (kif (x_1 == 4) (ldI .u32 m b_0 (o_0 + 14 + 3) fun x10 => stC m b_0 (o_0 + 14 + 3) (.flat (.int .u32 (bits .andNot .u32 x10 (bits .and .u32 x_2 6)))) fun m11 => k (decide (x_1 < 5)) m11) (k (decide (x_1 < 5)) m)))))

def G116 (args : List AV) (m : Mem) (k : KV) : Prop := match args with
  | [a0, a1, a2, a3] => kptr a0 fun b_0 o_0 => kI .u32 a1 fun x_1 => kI .u32 a2 fun x_2 => kI .i64 a3 fun x_3 => F116 b_0 o_0 x_1 x_2 x_3 m (fun x_1000 m' => k (.flat (.bool x_1000)) m')
  | _ => False

def LamP116_11004 (σ : Nat → AV) (m : Mem) (k : KX) : Prop := kptr (σ 0) fun b_0 o_0 => kI .u32 (σ 1) fun x_1 => kI .i64 (σ 3) fun x_3 => kptr (σ 9) fun b_9 o_9 => kbool (σ 44) fun x_44 => P116_11004 b_0 o_0 x_1 x_3 b_9 o_9 x_44 m (fun m' => k .normal (only [1] [(.flat (.int .u32 x_1))]) m')

def Lam116 : LEnv := ⟨fun a σ m k => match firstReg a with
  | _ => bump False,
  fun id => match id with
  | _ => bump false,
  fun b => match keyC b with
  | some 11004 => true
  | _ => bump false,
  fun b σ m k => match keyC b with
  | some 11004 => LamP116_11004 σ m k
  | _ => bump False⟩

def lxp116_11004 : Ex → List Nat := fun e => match e with
  | .normal => [1]
  | _ => []

theorem pc116_11004 (b_0 o_0 : Nat) (x_1 : Int) (x_3 : Int) (b_9 o_9 : Nat) (x_44 : Bool) (m : Mem) (k : KX) : once Tryz.prog E116 Lam116 [0, 1, 3, 9, 44] lxp116_11004 (((secsOf (bodyOf Tryz.f116)).filter Lam116.cut).getD 0 .skip) [(.ptr b_0 o_0), (.flat (.int .u32 x_1)), (.flat (.int .i64 x_3)), (.ptr b_9 o_9), (.flat (.bool x_44))] m k = P116_11004 b_0 o_0 x_1 x_3 b_9 o_9 x_44 m (fun m' => k .normal (only [1] [(.flat (.int .u32 x_1))]) m') := by
  kernel_rfl

theorem pok116_11004 : PieceOK Tryz.prog E116 Lam116 (((secsOf (bodyOf Tryz.f116)).filter Lam116.cut).getD 0 .skip) := by
  refine ⟨fun σ => ∃ b_0 o_0 x_1 x_3 b_9 o_9 x_44, σ 0 = .ptr b_0 o_0 ∧ σ 1 = .flat (.int .u32 x_1) ∧ σ 3 = .flat (.int .i64 x_3) ∧ σ 9 = .ptr b_9 o_9 ∧ σ 44 = .flat (.bool x_44), [0, 1, 3, 9, 44], lxp116_11004, fun σ m k => ?_⟩
  have e : Lam116.piece (((secsOf (bodyOf Tryz.f116)).filter Lam116.cut).getD 0 .skip) σ m k = LamP116_11004 σ m k := by kernel_rfl
  rw [e]
  constructor
  · intro h
    unfold LamP116_11004 at h
    obtain ⟨b_0, o_0, h0, h⟩ := kptr_ok h
    obtain ⟨x_1, h1, h⟩ := kI_ok h
    obtain ⟨x_3, h2, h⟩ := kI_ok h
    obtain ⟨b_9, o_9, h3, h⟩ := kptr_ok h
    obtain ⟨x_44, h4, h⟩ := kbool_ok h
    refine ⟨⟨b_0, o_0, x_1, x_3, b_9, o_9, x_44, h0, h1, h2, h3, h4⟩, ?_⟩
    have ev : [0, 1, 3, 9, 44].map σ = [(.ptr b_0 o_0), (.flat (.int .u32 x_1)), (.flat (.int .i64 x_3)), (.ptr b_9 o_9), (.flat (.bool x_44))] := by simp only [List.map_cons, List.map_nil, h0, h1, h2, h3, h4]
    rw [ev, pc116_11004]
    exact h
  · rintro ⟨⟨b_0, o_0, x_1, x_3, b_9, o_9, x_44, h0, h1, h2, h3, h4⟩, h⟩
    have ev : [0, 1, 3, 9, 44].map σ = [(.ptr b_0 o_0), (.flat (.int .u32 x_1)), (.flat (.int .i64 x_3)), (.ptr b_9 o_9), (.flat (.bool x_44))] := by simp only [List.map_cons, List.map_nil, h0, h1, h2, h3, h4]
    rw [ev, pc116_11004] at h
    unfold LamP116_11004
    try simp only [h0, h1, h2, h3, h4, kI, kbool, kS, kptr, kaggN, kite, decide_true, eq_self]
    exact h

theorem eqn116 (b_0 o_0 : Nat) (x_1 : Int) (x_2 : Int) (x_3 : Int) (m : Mem) (k : KV) : bodyK Tryz.prog E116 Lam116 Tryz.f116 false [(.ptr b_0 o_0), (.flat (.int .u32 x_1)), (.flat (.int .u32 x_2)), (.flat (.int .i64 x_3))] m k = F116 b_0 o_0 x_1 x_2 x_3 m (fun x_1000 m' => k (.flat (.bool x_1000)) m') := by
  kernel_rfl

theorem fs116 (w0 : World) : FS Tryz.prog w0 116 G116 := by
  refine (fs_body (Γ := E116) (sound_env (l := []) w0 (by
    intro p hp
    cases hp)) (by kernel_rfl) Tryz.func116 (Λ := Lam116) (c := (bodyOf Tryz.f116)) (by kernel_rfl) Tryz.call116 (by kernel_rfl) (LS_of (bodyOf Tryz.f116) 0 (by kernel_rfl) (fun i hi => absurd hi (Nat.not_lt_zero i)) 1 (by kernel_rfl) (by
    intro i hi
    match i, hi with
    | 0, _ => exact pok116_11004
    | i + 1, hi => omega)) false (np := 4) (Nat.le_of_ble_eq_true (by kernel_rfl))).imp fun args => ?_
  by_cases hl : args.length = 4
  rotate_left
  · exact .inr fun m k hk => by
      unfold G116 at hk
      split at hk
      · exact hl rfl
      · exact hk
  obtain ⟨a0, a1, a2, a3, rfl⟩ : ∃ a0 a1 a2 a3, args = [a0, a1, a2, a3] := len_list4 hl
  rcases kptr_or a0 with ⟨b_0, o_0, rfl⟩ | h
  rotate_left
  · exact .inr fun m k hk => h _ (by simpa only [G116, kI, kbool, kS, kptr, kaggN, kite, decide_true, eq_self] using hk)
  rcases kI_or .u32 a1 with ⟨x_1, rfl⟩ | h
  rotate_left
  · exact .inr fun m k hk => h _ (by simpa only [G116, kI, kbool, kS, kptr, kaggN, kite, decide_true, eq_self] using hk)
  rcases kI_or .u32 a2 with ⟨x_2, rfl⟩ | h
  rotate_left
  · exact .inr fun m k hk => h _ (by simpa only [G116, kI, kbool, kS, kptr, kaggN, kite, decide_true, eq_self] using hk)
  rcases kI_or .i64 a3 with ⟨x_3, rfl⟩ | h
  rotate_left
  · exact .inr fun m k hk => h _ (by simpa only [G116, kI, kbool, kS, kptr, kaggN, kite, decide_true, eq_self] using hk)
  exact .inl fun m k => propext ⟨fun h => ⟨rfl, by rw [eqn116]; simpa only [G116, kI, kbool, kS, kptr, kaggN, kite, decide_true, eq_self] using h⟩, fun h => by have h := h.2; rw [eqn116] at h; simpa only [G116, kI, kbool, kS, kptr, kaggN, kite, decide_true, eq_self] using h⟩

def E117 : Env := envOf []

/-- (*pianola/pianolaref15.Bus).disk -/
def F117 (b_0 o_0 : Nat) (x_1 : Int) (x_2 : Int) (x_3 : Int) (m : Mem) (k : Bool → Mem → Prop) : Prop :=
  kif (x_1 == 0) (stC m b_0 (o_0 + 18 + 0) (.flat (.int .u32 x_2)) fun m1 => k (decide (x_1 < 4)) m1) (kif (x_1 == 1) (stC m b_0 (o_0 + 18 + 1) (.flat (.int .u32 x_2)) fun m2 => k (decide (x_1 < 4)) m2) (kif (x_1 == 2) (ldI .u32 m b_0 (o_0 + 18 + 3) fun x3 => kif ((bits .and .u32 x3 1) == 0) (stC m b_0 (o_0 + 18 + 2) (.flat (.int .u32 x_2)) fun m4 => ldI .u32 m4 b_0 (o_0 + 18 + 3) fun x5 => stC m4 b_0 (o_0 + 18 + 3) (.flat (.int .u32 (bits .or .u32 x5 1))) fun m6 => bump False) (k (decide (x_1 < 4)) m)) (kif (x_1 == 3) (ldI .u32 m b_0 (o_0 + 18 + 3) fun x7 => stC m b_0 (o_0 + 18 + 3) (.flat (.int .u32 (bits .andNot .u32 x7 (bits .and .u32 x_2 6)))) fun m8 => k (decide (x_1 < 4)) m8) (k (decide (x_1 < 4)) m))))

def G117 (args : List AV) (m : Mem) (k : KV) : Prop := match args with
  | [a0, a1, a2, a3] => kptr a0 fun b_0 o_0 => kI .u32 a1 fun x_1 => kI .u32 a2 fun x_2 => kI .i64 a3 fun x_3 => F117 b_0 o_0 x_1 x_2 x_3 m (fun x_1000 m' => k (.flat (.bool x_1000)) m')
  | _ => False

def Lam117 : LEnv := ⟨fun a σ m k => match firstReg a with
  | _ => bump False,
  fun id => match id with
  | _ => bump false,
  fun b => match keyC b with
  | _ => bump false,
  fun b σ m k => match keyC b with
  | _ => bump False⟩

theorem eqn117 (b_0 o_0 : Nat) (x_1 : Int) (x_2 : Int) (x_3 : Int) (m : Mem) (k : KV) : bodyK Tryz.prog E117 Lam117 Tryz.f117 false [(.ptr b_0 o_0), (.flat (.int .u32 x_1)), (.flat (.int .u32 x_2)), (.flat (.int .i64 x_3))] m k = F117 b_0 o_0 x_1 x_2 x_3 m (fun x_1000 m' => k (.flat (.bool x_1000)) m') := by
  kernel_rfl

theorem fs117 (w0 : World) : FS Tryz.prog w0 117 G117 := by
  refine (fs_body (Γ := E117) (sound_env (l := []) w0 (by
    intro p hp
    cases hp)) (by kernel_rfl) Tryz.func117 (Λ := Lam117) (c := (bodyOf Tryz.f117)) (by kernel_rfl) Tryz.call117 (by kernel_rfl) (LS_of (bodyOf Tryz.f117) 0 (by kernel_rfl) (fun i hi => absurd hi (Nat.not_lt_zero i)) 0 (by kernel_rfl) (fun i hi => absurd hi (Nat.not_lt_zero i))) false (np := 4) (Nat.le_of_ble_eq_true (by kernel_rfl))).imp fun args => ?_
  by_cases hl : args.length = 4
  rotate_left
  · exact .inr fun m k hk => by
      unfold G117 at hk
      split at hk
      · exact hl rfl
      · exact hk
  obtain ⟨a0, a1, a2, a3, rfl⟩ : ∃ a0 a1 a2 a3, args = [a0, a1, a2, a3] := len_list4 hl
  rcases kptr_or a0 with ⟨b_0, o_0, rfl⟩ | h
  rotate_left
  · exact .inr fun m k hk => h _ (by simpa only [G117, kI, kbool, kS, kptr, kaggN, kite, decide_true, eq_self] using hk)
  rcases kI_or .u32 a1 with ⟨x_1, rfl⟩ | h
  rotate_left
  · exact .inr fun m k hk => h _ (by simpa only [G117, kI, kbool, kS, kptr, kaggN, kite, decide_true, eq_self] using hk)
  rcases kI_or .u32 a2 with ⟨x_2, rfl⟩ | h
  rotate_left
  · exact .inr fun m k hk => h _ (by simpa only [G117, kI, kbool, kS, kptr, kaggN, kite, decide_true, eq_self] using hk)
  rcases kI_or .i64 a3 with ⟨x_3, rfl⟩ | h
  rotate_left
  · exact .inr fun m k hk => h _ (by simpa only [G117, kI, kbool, kS, kptr, kaggN, kite, decide_true, eq_self] using hk)
  exact .inl fun m k => propext ⟨fun h => ⟨rfl, by rw [eqn117]; simpa only [G117, kI, kbool, kS, kptr, kaggN, kite, decide_true, eq_self] using h⟩, fun h => by have h := h.2; rw [eqn117] at h; simpa only [G117, kI, kbool, kS, kptr, kaggN, kite, decide_true, eq_self] using h⟩

def E98 : Env := envOf [(114, G114), (115, G115), (116, G116), (117, G117)]

def P98_10004 (b_0 o_0 : Nat) (x_1 : Int) (x_2 : Int) (x_3 : Int) (x_4 : Int) (x_14 : Int) (x_26 : Bool) (m : Mem) (kr : Bool → Mem → Prop) (kn : Mem → Prop) : Prop :=
  kif x_26 (F114 b_0 o_0 x_1 (IntKind.wrap .u32 (x_2.tdiv 4)) x_3 x_4 m fun x2 m3 => kr x2 m3) (kif (x_14 == 3) (F115 b_0 o_0 (IntKind.wrap .u32 (x_2.tdiv 4)) x_3 x_4 m fun x4 m5 => kr x4 m5) (kif (x_14 == 4) (F116 b_0 o_0 (IntKind.wrap .u32 (x_2.tdiv 4)) x_3 x_4 m fun x6 m7 => kr x6 m7) (kif (x_14 == 5) (F117 b_0 o_0 (IntKind.wrap .u32 (x_2.tdiv 4)) x_3 x_4 m fun x8 m9 => kr x8 m9) (kn  m))))

/-- (*pianola/pianolaref15.Bus).Set -/
def F98 (b_0 o_0 : Nat) (x_1 : Int) (x_2 : Int) (x_3 : Int) (x_4 : Int) (m : Mem) (k : Bool → Mem → Prop) : Prop :=
  kif ((x_2.tmod 4) != 0) (k false m) (kif (x_1 == 0) (kif (x_2 == 4) (stC m b_0 (o_0 + 24) (.flat (.int .u32 (bits .and .u32 x_3 62))) fun m1 => k (decide (x_2 < 16)) m1) (k (decide (x_2 < 16)) m)) (kif (x_1 == 1) (P98_10004 b_0 o_0 x_1 x_2 x_3 x_4 x_1 (x_1 == 1) m (fun x10 m11 => k x10 m11) (fun m12 => k false m12)) (P98_10004 b_0 o_0 x_1 x_2 x_3 x_4 x_1 (x_1 == 2) m (fun x13 m14 => k x13 m14) (fun m15 => k false m15))))

def G98 (args : List AV) (m : Mem) (k : KV) : Prop := match args with
  | [a0, a1, a2, a3, a4] => kptr a0 fun b_0 o_0 => kI .i64 a1 fun x_1 => kI .u32 a2 fun x_2 => kI .u32 a3 fun x_3 => kI .i64 a4 fun x_4 => F98 b_0 o_0 x_1 x_2 x_3 x_4 m (fun x_1000 m' => k (.flat (.bool x_1000)) m')
  | _ => False

def LamP98_10004 (σ : Nat → AV) (m : Mem) (k : KX) : Prop := kptr (σ 0) fun b_0 o_0 => kI .i64 (σ 1) fun x_1 => kI .u32 (σ 2) fun x_2 => kI .u32 (σ 3) fun x_3 => kI .i64 (σ 4) fun x_4 => kI .i64 (σ 14) fun x_14 => kbool (σ 26) fun x_26 => P98_10004 b_0 o_0 x_1 x_2 x_3 x_4 x_14 x_26 m (fun x_10' m' => k .ret (only [10] [(.flat (.bool x_10'))]) m') (fun m' => k .normal (only [] []) m')

def Lam98 : LEnv := ⟨fun a σ m k => match firstReg a with
  | _ => bump False,
  fun id => match id with
  | _ => bump false,
  fun b => match keyC b with
  | some 10004 => true
  | _ => bump false,
  fun b σ m k => match keyC b with
  | some 10004 => LamP98_10004 σ m k
  | _ => bump False⟩

def lxp98_10004 : Ex → List Nat := fun e => match e with
  | .ret => [10]
  | .normal => []
  | _ => []

theorem pc98_10004 (b_0 o_0 : Nat) (x_1 : Int) (x_2 : Int) (x_3 : Int) (x_4 : Int) (x_14 : Int) (x_26 : Bool) (m : Mem) (k : KX) : once Tryz.prog E98 Lam98 [0, 1, 2, 3, 4, 14, 26] lxp98_10004 (((secsOf (bodyOf Tryz.f98)).filter Lam98.cut).getD 0 .skip) [(.ptr b_0 o_0), (.flat (.int .i64 x_1)), (.flat (.int .u32 x_2)), (.flat (.int .u32 x_3)), (.flat (.int .i64 x_4)), (.flat (.int .i64 x_14)), (.flat (.bool x_26))] m k = P98_10004 b_0 o_0 x_1 x_2 x_3 x_4 x_14 x_26 m (fun x_10' m' => k .ret (only [10] [(.flat (.bool x_10'))]) m') (fun m' => k .normal (only [] []) m') := by
  kernel_rfl

theorem pok98_10004 : PieceOK Tryz.prog E98 Lam98 (((secsOf (bodyOf Tryz.f98)).filter Lam98.cut).getD 0 .skip) := by
  refine ⟨fun σ => ∃ b_0 o_0 x_1 x_2 x_3 x_4 x_14 x_26, σ 0 = .ptr b_0 o_0 ∧ σ 1 = .flat (.int .i64 x_1) ∧ σ 2 = .flat (.int .u32 x_2) ∧ σ 3 = .flat (.int .u32 x_3) ∧ σ 4 = .flat (.int .i64 x_4) ∧ σ 14 = .flat (.int .i64 x_14) ∧ σ 26 = .flat (.bool x_26), [0, 1, 2, 3, 4, 14, 26], lxp98_10004, fun σ m k => ?_⟩
  have e : Lam98.piece (((secsOf (bodyOf Tryz.f98)).filter Lam98.cut).getD 0 .skip) σ m k = LamP98_10004 σ m k := by kernel_rfl
  rw [e]
  constructor
  · intro h
    unfold LamP98_10004 at h
    obtain ⟨b_0, o_0, h0, h⟩ := kptr_ok h
    obtain ⟨x_1, h1, h⟩ := kI_ok h
    obtain ⟨x_2, h2, h⟩ := kI_ok h
    obtain ⟨x_3, h3, h⟩ := kI_ok h
    obtain ⟨x_4, h4, h⟩ := kI_ok h
    obtain ⟨x_14, h5, h⟩ := kI_ok h
    obtain ⟨x_26, h6, h⟩ := kbool_ok h
    refine ⟨⟨b_0, o_0, x_1, x_2, x_3, x_4, x_14, x_26, h0, h1, h2, h3, h4, h5, h6⟩, ?_⟩
    have ev : [0, 1, 2, 3, 4, 14, 26].map σ = [(.ptr b_0 o_0), (.flat (.int .i64 x_1)), (.flat (.int .u32 x_2)), (.flat (.int .u32 x_3)), (.flat (.int .i64 x_4)), (.flat (.int .i64 x_14)), (.flat (.bool x_26))] := by simp only [List.map_cons, List.map_nil, h0, h1, h2, h3, h4, h5, h6]
    rw [ev, pc98_10004]
    exact h
  · rintro ⟨⟨b_0, o_0, x_1, x_2, x_3, x_4, x_14, x_26, h0, h1, h2, h3, h4, h5, h6⟩, h⟩
    have ev : [0, 1, 2, 3, 4, 14, 26].map σ = [(.ptr b_0 o_0), (.flat (.int .i64 x_1)), (.flat (.int .u32 x_2)), (.flat (.int .u32 x_3)), (.flat (.int .i64 x_4)), (.flat (.int .i64 x_14)), (.flat (.bool x_26))] := by simp only [List.map_cons, List.map_nil, h0, h1, h2, h3, h4, h5, h6]
    rw [ev, pc98_10004] at h
    unfold LamP98_10004
    try simp only [h0, h1, h2, h3, h4, h5, h6, kI, kbool, kS, kptr, kaggN, kite, decide_true, eq_self]
    exact h

theorem eqn98 (b_0 o_0 : Nat) (x_1 : Int) (x_2 : Int) (x_3 : Int) (x_4 : Int) (m : Mem) (k : KV) : bodyK Tryz.prog E98 Lam98 Tryz.f98 false [(.ptr b_0 o_0), (.flat (.int .i64 x_1)), (.flat (.int .u32 x_2)), (.flat (.int .u32 x_3)), (.flat (.int .i64 x_4))] m k = F98 b_0 o_0 x_1 x_2 x_3 x_4 m (fun x_1000 m' => k (.flat (.bool x_1000)) m') := by
  kernel_rfl

theorem fs98 (w0 : World) : FS Tryz.prog w0 98 G98 := by
  refine (fs_body (Γ := E98) (sound_env (l := [(114, G114), (115, G115), (116, G116), (117, G117)]) w0 (by
    intro p hp
    simp only [List.mem_cons, List.not_mem_nil, or_false] at hp
    rcases hp with rfl | rfl | rfl | rfl
    · exact fs114 w0
    · exact fs115 w0
    · exact fs116 w0
    · exact fs117 w0)) (by kernel_rfl) Tryz.func98 (Λ := Lam98) (c := (bodyOf Tryz.f98)) (by kernel_rfl) Tryz.call98 (by kernel_rfl) (LS_of (bodyOf Tryz.f98) 0 (by kernel_rfl) (fun i hi => absurd hi (Nat.not_lt_zero i)) 1 (by kernel_rfl) (by
    intro i hi
    match i, hi with
    | 0, _ => exact pok98_10004
    | i + 1, hi => omega)) false (np := 5) (Nat.le_of_ble_eq_true (by kernel_rfl))).imp fun args => ?_
  by_cases hl : args.length = 5
  rotate_left
  · exact .inr fun m k hk => by
      unfold G98 at hk
      split at hk
      · exact hl rfl
      · exact hk
  obtain ⟨a0, a1, a2, a3, a4, rfl⟩ : ∃ a0 a1 a2 a3 a4, args = [a0, a1, a2, a3, a4] := len_list5 hl
  rcases kptr_or a0 with ⟨b_0, o_0, rfl⟩ | h
  rotate_left
  · exact .inr fun m k hk => h _ (by simpa only [G98, kI, kbool, kS, kptr, kaggN, kite, decide_true, eq_self] using hk)
  rcases kI_or .i64 a1 with ⟨x_1, rfl⟩ | h
  rotate_left
  · exact .inr fun m k hk => h _ (by simpa only [G98, kI, kbool, kS, kptr, kaggN, kite, decide_true, eq_self] using hk)
  rcases kI_or .u32 a2 with ⟨x_2, rfl⟩ | h
  rotate_left
  · exact .inr fun m k hk => h _ (by simpa only [G98, kI, kbool, kS, kptr, kaggN, kite, decide_true, eq_self] using hk)
  rcases kI_or .u32 a3 with ⟨x_3, rfl⟩ | h
  rotate_left
  · exact .inr fun m k hk => h _ (by simpa only [G98, kI, kbool, kS, kptr, kaggN, kite, decide_true, eq_self] using hk)
  rcases kI_or .i64 a4 with ⟨x_4, rfl⟩ | h
  rotate_left
  · exact .inr fun m k hk => h _ (by simpa only [G98, kI, kbool, kS, kptr, kaggN, kite, decide_true, eq_self] using hk)
  exact .inl fun m k => propext ⟨fun h => ⟨rfl, by rw [eqn98]; simpa only [G98, kI, kbool, kS, kptr, kaggN, kite, decide_true, eq_self] using h⟩, fun h => by have h := h.2; rw [eqn98] at h; simpa only [G98, kI, kbool, kS, kptr, kaggN, kite, decide_true, eq_self] using h⟩

end Go.Proofs.YtkgidjnaddjjbaaGreat.Am
