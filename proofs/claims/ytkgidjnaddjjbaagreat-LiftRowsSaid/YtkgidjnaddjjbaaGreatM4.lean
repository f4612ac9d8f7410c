/- What Go functions ask of what follows them, as plain functions over the abstract machine; the machine asks just that. Written by gen.py. -/
import Derived.Test.YtkgidjnaddjjbaaGreatProg
import Derived.Test.YtkgidjnaddjjbaaGreatAmL
import Derived.Test.YtkgidjnaddjjbaaGreatM3
namespace Go.Proofs.YtkgidjnaddjjbaaGreat.Am
set_option linter.unusedVariables false
set_option linter.unusedSimpArgs false
set_option maxRecDepth 100000

def E31 : Env := envOf [(35, G35), (59, G59)]

/-- (*pianola/pianolaref17.Machine).enter -/
def F31 (b_0 o_0 : Nat) (x_1 : Int) (x_2 : Bool) (m : Mem) (k : Int → Mem → Prop) : Prop :=
  F59 b_0 (o_0 + 0) x_1 x_2 m fun m1 => F35 b_0 (o_0 + 0) 1 m1 fun x2 m3 => k x_1 m3

def G31 (args : List AV) (m : Mem) (k : KV) : Prop := match args with
  | [a0, a1, a2] => kptr a0 fun b_0 o_0 => kI .i64 a1 fun x_1 => kbool a2 fun x_2 => F31 b_0 o_0 x_1 x_2 m (fun x_1000 m' => k (.flat (.int .i64 x_1000)) m')
  | _ => False

def Lam31 : LEnv := ⟨fun a σ m k => match firstReg a with
  | _ => bump False,
  fun id => match id with
  | _ => bump false,
  fun b => match keyC b with
  | _ => bump false,
  fun b σ m k => match keyC b with
  | _ => bump False⟩

theorem eqn31 (b_0 o_0 : Nat) (x_1 : Int) (x_2 : Bool) (m : Mem) (k : KV) : bodyK Tryz.prog E31 Lam31 Tryz.f31 false [(.ptr b_0 o_0), (.flat (.int .i64 x_1)), (.flat (.bool x_2))] m k = F31 b_0 o_0 x_1 x_2 m (fun x_1000 m' => k (.flat (.int .i64 x_1000)) m') := by
  kernel_rfl

theorem fs31 (w0 : World) : FS Tryz.prog w0 31 G31 := by
  refine (fs_body (Γ := E31) (sound_env (l := [(35, G35), (59, G59)]) w0 (by
    intro p hp
    simp only [List.mem_cons, List.not_mem_nil, or_false] at hp
    rcases hp with rfl | rfl
    · exact fs35 w0
    · exact fs59 w0)) (by kernel_rfl) Tryz.func31 (Λ := Lam31) (c := (bodyOf Tryz.f31)) (by kernel_rfl) Tryz.call31 (by kernel_rfl) (LS_of (bodyOf Tryz.f31) 0 (by kernel_rfl) (fun i hi => absurd hi (Nat.not_lt_zero i)) 0 (by kernel_rfl) (fun i hi => absurd hi (Nat.not_lt_zero i))) false (np := 3) (Nat.le_of_ble_eq_true (by kernel_rfl))).imp fun args => ?_
  by_cases hl : args.length = 3
  rotate_left
  · exact .inr fun m k hk => by
      unfold G31 at hk
      split at hk
      · exact hl rfl
      · exact hk
  obtain ⟨a0, a1, a2, rfl⟩ : ∃ a0 a1 a2, args = [a0, a1, a2] := len_list3 hl
  rcases kptr_or a0 with ⟨b_0, o_0, rfl⟩ | h
  rotate_left
  · exact .inr fun m k hk => h _ (by simpa only [G31, kI, kbool, kS, kptr, kaggN, kite, decide_true, eq_self] using hk)
  rcases kI_or .i64 a1 with ⟨x_1, rfl⟩ | h
  rotate_left
  · exact .inr fun m k hk => h _ (by simpa only [G31, kI, kbool, kS, kptr, kaggN, kite, decide_true, eq_self] using hk)
  rcases kbool_or a2 with ⟨x_2, rfl⟩ | h
  rotate_left
  · exact .inr fun m k hk => h _ (by simpa only [G31, kI, kbool, kS, kptr, kaggN, kite, decide_true, eq_self] using hk)
  exact .inl fun m k => propext ⟨fun h => ⟨rfl, by rw [eqn31]; simpa only [G31, kI, kbool, kS, kptr, kaggN, kite, decide_true, eq_self] using h⟩, fun h => by have h := h.2; rw [eqn31] at h; simpa only [G31, kI, kbool, kS, kptr, kaggN, kite, decide_true, eq_self] using h⟩

def E60 : Env := envOf []

def P60_5004 (x_3 : Int) (x_4 : Bool) (m : Mem) (kr : Int → Mem → Prop) (kn : Mem → Prop) : Prop :=
  kif x_4 (kr 1 m) (kif (x_3 == 67) (kif (x_3 == 67) (kr 2 m) (kn  m)) (kif (x_3 == 70) (kif (x_3 == 70) (kr 2 m) (kn  m)) (kif (x_3 == 72) (kr 2 m) (kn  m))))

/-- pianola/pianolaref17.size -/
def F60 (x_0 : Int) (m : Mem) (k : Int → Mem → Prop) : Prop :=
  kif (x_0 == 66) (P60_5004 x_0 (x_0 == 66) m (fun x1 m2 => (Keeps m m2 ∧ k x1 m)) (fun m3 => (Keeps m m3 ∧ k 4 m))) (kif (x_0 == 69) (P60_5004 x_0 (x_0 == 69) m (fun x4 m5 => (Keeps m m5 ∧ k x4 m)) (fun m6 => (Keeps m m6 ∧ k 4 m))) (P60_5004 x_0 (x_0 == 71) m (fun x7 m8 => (Keeps m m8 ∧ k x7 m)) (fun m9 => (Keeps m m9 ∧ k 4 m))))

def G60 (args : List AV) (m : Mem) (k : KV) : Prop := match args with
  | [a0] => kI .i64 a0 fun x_0 => F60 x_0 m (fun x_1000 m' => k (.flat (.int .i64 x_1000)) m')
  | _ => False

def LamP60_5004 (σ : Nat → AV) (m : Mem) (k : KX) : Prop := kI .i64 (σ 3) fun x_3 => kbool (σ 4) fun x_4 => P60_5004 x_3 x_4 m (fun x_2' m' => k .ret (only [2] [(.flat (.int .i64 x_2'))]) m') (fun m' => k .normal (only [] []) m')

def Lam60 : LEnv := ⟨fun a σ m k => match firstReg a with
  | _ => bump False,
  fun id => match id with
  | _ => bump false,
  fun b => match keyC b with
  | some 5004 => true
  | _ => bump false,
  fun b σ m k => match keyC b with
  | some 5004 => LamP60_5004 σ m k
  | _ => bump False⟩

def lxp60_5004 : Ex → List Nat := fun e => match e with
  | .ret => [2]
  | .normal => []
  | _ => []

theorem pc60_5004 (x_3 : Int) (x_4 : Bool) (m : Mem) (k : KX) : once Tryz.prog E60 Lam60 [3, 4] lxp60_5004 (((secsOf (bodyOf Tryz.f60)).filter Lam60.cut).getD 0 .skip) [(.flat (.int .i64 x_3)), (.flat (.bool x_4))] m k = P60_5004 x_3 x_4 m (fun x_2' m' => k .ret (only [2] [(.flat (.int .i64 x_2'))]) m') (fun m' => k .normal (only [] []) m') := by
  kernel_rfl

theorem pok60_5004 : PieceOK Tryz.prog E60 Lam60 (((secsOf (bodyOf Tryz.f60)).filter Lam60.cut).getD 0 .skip) := by
  refine ⟨fun σ => ∃ x_3 x_4, σ 3 = .flat (.int .i64 x_3) ∧ σ 4 = .flat (.bool x_4), [3, 4], lxp60_5004, fun σ m k => ?_⟩
  have e : Lam60.piece (((secsOf (bodyOf Tryz.f60)).filter Lam60.cut).getD 0 .skip) σ m k = LamP60_5004 σ m k := by kernel_rfl
  rw [e]
  constructor
  · intro h
    unfold LamP60_5004 at h
    obtain ⟨x_3, h0, h⟩ := kI_ok h
    obtain ⟨x_4, h1, h⟩ := kbool_ok h
    refine ⟨⟨x_3, x_4, h0, h1⟩, ?_⟩
    have ev : [3, 4].map σ = [(.flat (.int .i64 x_3)), (.flat (.bool x_4))] := by simp only [List.map_cons, List.map_nil, h0, h1]
    rw [ev, pc60_5004]
    exact h
  · rintro ⟨⟨x_3, x_4, h0, h1⟩, h⟩
    have ev : [3, 4].map σ = [(.flat (.int .i64 x_3)), (.flat (.bool x_4))] := by simp only [List.map_cons, List.map_nil, h0, h1]
    rw [ev, pc60_5004] at h
    unfold LamP60_5004
    try simp only [h0, h1, kI, kbool, kS, kptr, kaggN, kite, decide_true, eq_self]
    exact h

theorem eqn60 (x_0 : Int) (m : Mem) (k : KV) : bodyK Tryz.prog E60 Lam60 Tryz.f60 true [(.flat (.int .i64 x_0))] m k = F60 x_0 m (fun x_1000 m' => k (.flat (.int .i64 x_1000)) m') := by
  kernel_rfl

theorem fs60 (w0 : World) : FS Tryz.prog w0 60 G60 := by
  refine (fs_body (Γ := E60) (sound_env (l := []) w0 (by
    intro p hp
    cases hp)) (by kernel_rfl) Tryz.func60 (Λ := Lam60) (c := (bodyOf Tryz.f60)) (by kernel_rfl) Tryz.call60 (by kernel_rfl) (LS_of (bodyOf Tryz.f60) 0 (by kernel_rfl) (fun i hi => absurd hi (Nat.not_lt_zero i)) 1 (by kernel_rfl) (by
    intro i hi
    match i, hi with
    | 0, _ => exact pok60_5004
    | i + 1, hi => omega)) true (np := 1) (Nat.le_of_ble_eq_true (by kernel_rfl))).imp fun args => ?_
  by_cases hl : args.length = 1
  rotate_left
  · exact .inr fun m k hk => by
      unfold G60 at hk
      split at hk
      · exact hl rfl
      · exact hk
  obtain ⟨a0, rfl⟩ : ∃ a0, args = [a0] := len_list1 hl
  rcases kI_or .i64 a0 with ⟨x_0, rfl⟩ | h
  rotate_left
  · exact .inr fun m k hk => h _ (by simpa only [G60, kI, kbool, kS, kptr, kaggN, kite, decide_true, eq_self] using hk)
  exact .inl fun m k => propext ⟨fun h => ⟨rfl, by rw [eqn60]; simpa only [G60, kI, kbool, kS, kptr, kaggN, kite, decide_true, eq_self] using h⟩, fun h => by have h := h.2; rw [eqn60] at h; simpa only [G60, kI, kbool, kS, kptr, kaggN, kite, decide_true, eq_self] using h⟩

def E100 : Env := envOf []

def R100_2 (b_0 o_0 : Nat) (x_1 : Int) (x_5 : Int) (m : Mem) (kn : Int → Mem → Prop) (k0 : Mem → Prop) (kr : Int → Mem → Prop) : Prop :=
  kif (decide (x_5 < 8)) (kif (decide (0 ≤ x_5) && decide (x_5 < 8)) (ldG 2 m b_0 (o_0 + 55 + (x_5).toNat * 2) fun c1 => newK m ⟨2, lget [(.flat (.int .u32 0)), (.flat (.int .u32 0))], 39, false⟩ fun b3 m2 => stG 2 m2 b3 0 c1 fun m4 => ldI .u32 m4 b3 0 fun x5 => kif ((bits .andNot .u32 x5 1023) == (bits .andNot .u32 x_1 1023)) (ldI .u32 m4 b3 1 fun x6 => kif ((bits .and .u32 x6 4) != 0) (kr x_5 m4) (ldI .u32 m4 b3 0 fun x7 => ldI .u32 m4 b_0 (o_0 + 39 + 10) fun x8 => kif ((bits .and .u32 x7 255) == (bits .and .u32 x8 255)) (kr x_5 m4) (kn (IntKind.wrap .i64 (x_5 + 1)) m4))) (kn (IntKind.wrap .i64 (x_5 + 1)) m4)) False) (k0  m)

def L100_2 (b_0 o_0 : Nat) (x_1 : Int) : Nat → Int → Mem → (Mem → Prop) → (Int → Mem → Prop) → Prop
  | 0, _,  _, _, _ => bump False
  | N + 1, x_5,  m, k0, kr => R100_2 b_0 o_0 x_1 x_5 m (fun x_5' m' => L100_2 b_0 o_0 x_1 N x_5' m' k0 kr) k0 kr

/-- pianola/pianolaref6.Find -/
def F100 (b_0 o_0 : Nat) (x_1 : Int) (m : Mem) (k : Int → Mem → Prop) : Prop :=
  ∃ N12, L100_2 b_0 o_0 x_1 N12 0 m (fun m9 => (Keeps m m9 ∧ k (-1) m)) (fun x10 m11 => (Keeps m m11 ∧ k x10 m))

def G100 (args : List AV) (m : Mem) (k : KV) : Prop := match args with
  | [a0, a1] => kptr a0 fun b_0 o_0 => kI .u32 a1 fun x_1 => F100 b_0 o_0 x_1 m (fun x_1000 m' => k (.flat (.int .i64 x_1000)) m')
  | _ => False

def Lam100_2 (σ : Nat → AV) (m : Mem) (k : KX) : Prop := kptr (σ 0) fun b_0 o_0 => kI .u32 (σ 1) fun x_1 => kI .i64 (σ 5) fun x_5 => ∃ N, L100_2 b_0 o_0 x_1 N x_5 m (fun m' => k (.exit 0) (only [] []) m') (fun x_4' m' => k .ret (only [4] [(.flat (.int .i64 x_4'))]) m')

def Lam100 : LEnv := ⟨fun a σ m k => match firstReg a with
  | some 2 => Lam100_2 σ m k
  | _ => bump False,
  fun id => match id with
  | _ => bump false,
  fun b => match keyC b with
  | _ => bump false,
  fun b σ m k => match keyC b with
  | _ => bump False⟩

def lx100_2 : Ex → List Nat := fun e => match e with
  | .exit 0 => []
  | .ret => [4]
  | _ => []

theorem round100_2 (b_0 o_0 : Nat) (x_1 : Int) (x_5 : Int) (m : Mem) (G : List AV → Mem → Prop) (k : KX) : (wpA Tryz.prog E100 Lam100 ((loopsOf (bodyOf Tryz.f100)).getD 0 .skip) (only [0, 1, 5] [(.ptr b_0 o_0), (.flat (.int .u32 x_1)), (.flat (.int .i64 x_5))]) m fun e σ' m' => match e with
    | .normal => G ([0, 1, 5].map σ') m'
    | .exit id => k (.exit id) (only (lx100_2 (.exit id)) ((lx100_2 (.exit id)).map σ')) m'
    | .ret => k .ret (only (lx100_2 .ret) ((lx100_2 .ret).map σ')) m') = R100_2 b_0 o_0 x_1 x_5 m (fun x_5' m' => G [(.ptr b_0 o_0), (.flat (.int .u32 x_1)), (.flat (.int .i64 x_5'))] m') (fun m' => k (.exit 0) (only [] []) m') (fun x_4' m' => k .ret (only [4] [(.flat (.int .i64 x_4'))]) m') := by
  kernel_rfl

theorem loop100_2 (b_0 o_0 : Nat) (x_1 : Int) (k : KX) : ∀ (N : Nat) (x_5 : Int) (m : Mem), rounds Tryz.prog E100 Lam100 [0, 1, 5] lx100_2 ((loopsOf (bodyOf Tryz.f100)).getD 0 .skip) N [(.ptr b_0 o_0), (.flat (.int .u32 x_1)), (.flat (.int .i64 x_5))] m k = L100_2 b_0 o_0 x_1 N x_5 m (fun m' => k (.exit 0) (only [] []) m') (fun x_4' m' => k .ret (only [4] [(.flat (.int .i64 x_4'))]) m') := by
  intro N
  induction N with
  | zero => intros; rfl
  | succ N ih =>
    intro x_5 m
    refine (round100_2 b_0 o_0 x_1 x_5 m (fun vs m' => rounds Tryz.prog E100 Lam100 [0, 1, 5] lx100_2 ((loopsOf (bodyOf Tryz.f100)).getD 0 .skip) N vs m' k) k).trans ?_
    simp only [ih]
    rfl

theorem lok100_2 : LoopOK Tryz.prog E100 Lam100 ((loopsOf (bodyOf Tryz.f100)).getD 0 .skip) := by
  refine ⟨fun σ => ∃ b_0 o_0 x_1 x_5, σ 0 = .ptr b_0 o_0 ∧ σ 1 = .flat (.int .u32 x_1) ∧ σ 5 = .flat (.int .i64 x_5), [0, 1, 5], lx100_2, fun σ m k => ?_⟩
  have e : Lam100.loop ((loopsOf (bodyOf Tryz.f100)).getD 0 .skip) σ m k = Lam100_2 σ m k := by kernel_rfl
  rw [e]
  constructor
  · intro h
    unfold Lam100_2 at h
    obtain ⟨b_0, o_0, h0, h⟩ := kptr_ok h
    obtain ⟨x_1, h1, h⟩ := kI_ok h
    obtain ⟨x_5, h2, h⟩ := kI_ok h
    obtain ⟨N, h⟩ := h
    refine ⟨⟨b_0, o_0, x_1, x_5, h0, h1, h2⟩, N, ?_⟩
    have ev : [0, 1, 5].map σ = [(.ptr b_0 o_0), (.flat (.int .u32 x_1)), (.flat (.int .i64 x_5))] := by simp only [List.map_cons, List.map_nil, h0, h1, h2]
    rw [ev, loop100_2]
    exact h
  · rintro ⟨⟨b_0, o_0, x_1, x_5, h0, h1, h2⟩, N, h⟩
    have ev : [0, 1, 5].map σ = [(.ptr b_0 o_0), (.flat (.int .u32 x_1)), (.flat (.int .i64 x_5))] := by simp only [List.map_cons, List.map_nil, h0, h1, h2]
    rw [ev, loop100_2] at h
    unfold Lam100_2
    try simp only [h0, h1, h2, kI, kbool, kS, kptr, kaggN, kite, decide_true, eq_self]
    exact ⟨N, h⟩

theorem eqn100 (b_0 o_0 : Nat) (x_1 : Int) (m : Mem) (k : KV) : bodyK Tryz.prog E100 Lam100 Tryz.f100 true [(.ptr b_0 o_0), (.flat (.int .u32 x_1))] m k = F100 b_0 o_0 x_1 m (fun x_1000 m' => k (.flat (.int .i64 x_1000)) m') := by
  kernel_rfl

theorem fs100 (w0 : World) : FS Tryz.prog w0 100 G100 := by
  refine (fs_body (Γ := E100) (sound_env (l := []) w0 (by
    intro p hp
    cases hp)) (by kernel_rfl) Tryz.func100 (Λ := Lam100) (c := (bodyOf Tryz.f100)) (by kernel_rfl) Tryz.call100 (by kernel_rfl) (LS_of (bodyOf Tryz.f100) 1 (by kernel_rfl) (by
    intro i hi
    match i, hi with
    | 0, _ => exact lok100_2
    | i + 1, hi => omega) 0 (by kernel_rfl) (fun i hi => absurd hi (Nat.not_lt_zero i))) true (np := 2) (Nat.le_of_ble_eq_true (by kernel_rfl))).imp fun args => ?_
  by_cases hl : args.length = 2
  rotate_left
  · exact .inr fun m k hk => by
      unfold G100 at hk
      split at hk
      · exact hl rfl
      · exact hk
  obtain ⟨a0, a1, rfl⟩ : ∃ a0 a1, args = [a0, a1] := len_list2 hl
  rcases kptr_or a0 with ⟨b_0, o_0, rfl⟩ | h
  rotate_left
  · exact .inr fun m k hk => h _ (by simpa only [G100, kI, kbool, kS, kptr, kaggN, kite, decide_true, eq_self] using hk)
  rcases kI_or .u32 a1 with ⟨x_1, rfl⟩ | h
  rotate_left
  · exact .inr fun m k hk => h _ (by simpa only [G100, kI, kbool, kS, kptr, kaggN, kite, decide_true, eq_self] using hk)
  exact .inl fun m k => propext ⟨fun h => ⟨rfl, by rw [eqn100]; simpa only [G100, kI, kbool, kS, kptr, kaggN, kite, decide_true, eq_self] using h⟩, fun h => by have h := h.2; rw [eqn100] at h; simpa only [G100, kI, kbool, kS, kptr, kaggN, kite, decide_true, eq_self] using h⟩

def E109 : Env := envOf [(100, G100)]

def P109_12102 (x_1 : Int) (x_11 : Int) (m : Mem) (kr : Int → Int → Bool → Mem → Prop) : Prop :=
  kr (bits .or .u32 (bits .andNot .u32 x_11 1023) (bits .and .u32 x_1 1023)) (-1) false m

def P109_4102 (b_0 o_0 : Nat) (x_1 : Int) (x_2 : Bool) (x_9 : Int) (m : Mem) (kr : Int → Int → Bool → Mem → Prop) : Prop :=
  F100 b_0 o_0 x_1 m fun x1 m2 => kif (decide (x1 < 0)) (kr 0 x_9 true m2) (kif (decide (0 ≤ x1) && decide (x1 < 8)) (ldI .u32 m2 b_0 (o_0 + 55 + (x1).toNat * 2 + 1) fun x3 => kif ((bits .and .u32 x3 1) == 0) (kr 0 x_9 false m2) (kif x_2 (kif ((bits .and .u32 x3 2) == 0) (kr 0 1 false m2) (P109_12102 x_1 x3 m2 (fun x4 x5 x6 m7 => kr x4 x5 x6 m7))) (P109_12102 x_1 x3 m2 (fun x8 x9 x10 m11 => kr x8 x9 x10 m11)))) False)

/-- pianola/pianolaref6.Look -/
def F109 (b_0 o_0 : Nat) (x_1 : Int) (x_2 : Bool) (m : Mem) (k : Int → Int → Bool → Mem → Prop) : Prop :=
  kif x_2 (P109_4102 b_0 o_0 x_1 x_2 3 m (fun x12 x13 x14 m15 => (Keeps m m15 ∧ k x12 x13 x14 m))) (P109_4102 b_0 o_0 x_1 x_2 2 m (fun x16 x17 x18 m19 => (Keeps m m19 ∧ k x16 x17 x18 m)))

def G109 (args : List AV) (m : Mem) (k : KV) : Prop := match args with
  | [a0, a1, a2] => kptr a0 fun b_0 o_0 => kI .u32 a1 fun x_1 => kbool a2 fun x_2 => F109 b_0 o_0 x_1 x_2 m (fun x_1000 x_1001 x_1002 m' => k (.tup [(.flat (.int .u32 x_1000)), (.flat (.int .i64 x_1001)), (.flat (.bool x_1002))]) m')
  | _ => False

def LamP109_4102 (σ : Nat → AV) (m : Mem) (k : KX) : Prop := kptr (σ 0) fun b_0 o_0 => kI .u32 (σ 1) fun x_1 => kbool (σ 2) fun x_2 => kI .i64 (σ 9) fun x_9 => P109_4102 b_0 o_0 x_1 x_2 x_9 m (fun x_6' x_7' x_8' m' => k .ret (only [6, 7, 8] [(.flat (.int .u32 x_6')), (.flat (.int .i64 x_7')), (.flat (.bool x_8'))]) m')

def LamP109_12102 (σ : Nat → AV) (m : Mem) (k : KX) : Prop := kI .u32 (σ 1) fun x_1 => kI .u32 (σ 11) fun x_11 => P109_12102 x_1 x_11 m (fun x_6' x_7' x_8' m' => k .ret (only [6, 7, 8] [(.flat (.int .u32 x_6')), (.flat (.int .i64 x_7')), (.flat (.bool x_8'))]) m')

def Lam109 : LEnv := ⟨fun a σ m k => match firstReg a with
  | _ => bump False,
  fun id => match id with
  | _ => bump false,
  fun b => match keyC b with
  | some 4102 => true
  | some 12102 => true
  | _ => bump false,
  fun b σ m k => match keyC b with
  | some 4102 => LamP109_4102 σ m k
  | some 12102 => LamP109_12102 σ m k
  | _ => bump False⟩

def lxp109_12102 : Ex → List Nat := fun e => match e with
  | .ret => [6, 7, 8]
  | _ => []

theorem pc109_12102 (x_1 : Int) (x_11 : Int) (m : Mem) (k : KX) : once Tryz.prog E109 Lam109 [1, 11] lxp109_12102 (((secsOf (bodyOf Tryz.f109)).filter Lam109.cut).getD 1 .skip) [(.flat (.int .u32 x_1)), (.flat (.int .u32 x_11))] m k = P109_12102 x_1 x_11 m (fun x_6' x_7' x_8' m' => k .ret (only [6, 7, 8] [(.flat (.int .u32 x_6')), (.flat (.int .i64 x_7')), (.flat (.bool x_8'))]) m') := by
  kernel_rfl

theorem pok109_12102 : PieceOK Tryz.prog E109 Lam109 (((secsOf (bodyOf Tryz.f109)).filter Lam109.cut).getD 1 .skip) := by
  refine ⟨fun σ => ∃ x_1 x_11, σ 1 = .flat (.int .u32 x_1) ∧ σ 11 = .flat (.int .u32 x_11), [1, 11], lxp109_12102, fun σ m k => ?_⟩
  have e : Lam109.piece (((secsOf (bodyOf Tryz.f109)).filter Lam109.cut).getD 1 .skip) σ m k = LamP109_12102 σ m k := by kernel_rfl
  rw [e]
  constructor
  · intro h
    unfold LamP109_12102 at h
    obtain ⟨x_1, h0, h⟩ := kI_ok h
    obtain ⟨x_11, h1, h⟩ := kI_ok h
    refine ⟨⟨x_1, x_11, h0, h1⟩, ?_⟩
    have ev : [1, 11].map σ = [(.flat (.int .u32 x_1)), (.flat (.int .u32 x_11))] := by simp only [List.map_cons, List.map_nil, h0, h1]
    rw [ev, pc109_12102]
    exact h
  · rintro ⟨⟨x_1, x_11, h0, h1⟩, h⟩
    have ev : [1, 11].map σ = [(.flat (.int .u32 x_1)), (.flat (.int .u32 x_11))] := by simp only [List.map_cons, List.map_nil, h0, h1]
    rw [ev, pc109_12102] at h
    unfold LamP109_12102
    try simp only [h0, h1, kI, kbool, kS, kptr, kaggN, kite, decide_true, eq_self]
    exact h

def lxp109_4102 : Ex → List Nat := fun e => match e with
  | .ret => [6, 7, 8]
  | _ => []

theorem pc109_4102 (b_0 o_0 : Nat) (x_1 : Int) (x_2 : Bool) (x_9 : Int) (m : Mem) (k : KX) : once Tryz.prog E109 Lam109 [0, 1, 2, 9] lxp109_4102 (((secsOf (bodyOf Tryz.f109)).filter Lam109.cut).getD 0 .skip) [(.ptr b_0 o_0), (.flat (.int .u32 x_1)), (.flat (.bool x_2)), (.flat (.int .i64 x_9))] m k = P109_4102 b_0 o_0 x_1 x_2 x_9 m (fun x_6' x_7' x_8' m' => k .ret (only [6, 7, 8] [(.flat (.int .u32 x_6')), (.flat (.int .i64 x_7')), (.flat (.bool x_8'))]) m') := by
  kernel_rfl

theorem pok109_4102 : PieceOK Tryz.prog E109 Lam109 (((secsOf (bodyOf Tryz.f109)).filter Lam109.cut).getD 0 .skip) := by
  refine ⟨fun σ => ∃ b_0 o_0 x_1 x_2 x_9, σ 0 = .ptr b_0 o_0 ∧ σ 1 = .flat (.int .u32 x_1) ∧ σ 2 = .flat (.bool x_2) ∧ σ 9 = .flat (.int .i64 x_9), [0, 1, 2, 9], lxp109_4102, fun σ m k => ?_⟩
  have e : Lam109.piece (((secsOf (bodyOf Tryz.f109)).filter Lam109.cut).getD 0 .skip) σ m k = LamP109_4102 σ m k := by kernel_rfl
  rw [e]
  constructor
  · intro h
    unfold LamP109_4102 at h
    obtain ⟨b_0, o_0, h0, h⟩ := kptr_ok h
    obtain ⟨x_1, h1, h⟩ := kI_ok h
    obtain ⟨x_2, h2, h⟩ := kbool_ok h
    obtain ⟨x_9, h3, h⟩ := kI_ok h
    refine ⟨⟨b_0, o_0, x_1, x_2, x_9, h0, h1, h2, h3⟩, ?_⟩
    have ev : [0, 1, 2, 9].map σ = [(.ptr b_0 o_0), (.flat (.int .u32 x_1)), (.flat (.bool x_2)), (.flat (.int .i64 x_9))] := by simp only [List.map_cons, List.map_nil, h0, h1, h2, h3]
    rw [ev, pc109_4102]
    exact h
  · rintro ⟨⟨b_0, o_0, x_1, x_2, x_9, h0, h1, h2, h3⟩, h⟩
    have ev : [0, 1, 2, 9].map σ = [(.ptr b_0 o_0), (.flat (.int .u32 x_1)), (.flat (.bool x_2)), (.flat (.int .i64 x_9))] := by simp only [List.map_cons, List.map_nil, h0, h1, h2, h3]
    rw [ev, pc109_4102] at h
    unfold LamP109_4102
    try simp only [h0, h1, h2, h3, kI, kbool, kS, kptr, kaggN, kite, decide_true, eq_self]
    exact h

theorem eqn109 (b_0 o_0 : Nat) (x_1 : Int) (x_2 : Bool) (m : Mem) (k : KV) : bodyK Tryz.prog E109 Lam109 Tryz.f109 true [(.ptr b_0 o_0), (.flat (.int .u32 x_1)), (.flat (.bool x_2))] m k = F109 b_0 o_0 x_1 x_2 m (fun x_1000 x_1001 x_1002 m' => k (.tup [(.flat (.int .u32 x_1000)), (.flat (.int .i64 x_1001)), (.flat (.bool x_1002))]) m') := by
  kernel_rfl

theorem fs109 (w0 : World) : FS Tryz.prog w0 109 G109 := by
  refine (fs_body (Γ := E109) (sound_env (l := [(100, G100)]) w0 (by
    intro p hp
    simp only [List.mem_cons, List.not_mem_nil, or_false] at hp
    rcases hp with rfl
    · exact fs100 w0)) (by kernel_rfl) Tryz.func109 (Λ := Lam109) (c := (bodyOf Tryz.f109)) (by kernel_rfl) Tryz.call109 (by kernel_rfl) (LS_of (bodyOf Tryz.f109) 0 (by kernel_rfl) (fun i hi => absurd hi (Nat.not_lt_zero i)) 2 (by kernel_rfl) (by
    intro i hi
    match i, hi with
    | 0, _ => exact pok109_4102
    | 1, _ => exact pok109_12102
    | i + 2, hi => omega)) true (np := 3) (Nat.le_of_ble_eq_true (by kernel_rfl))).imp fun args => ?_
  by_cases hl : args.length = 3
  rotate_left
  · exact .inr fun m k hk => by
      unfold G109 at hk
      split at hk
      · exact hl rfl
      · exact hk
  obtain ⟨a0, a1, a2, rfl⟩ : ∃ a0 a1 a2, args = [a0, a1, a2] := len_list3 hl
  rcases kptr_or a0 with ⟨b_0, o_0, rfl⟩ | h
  rotate_left
  · exact .inr fun m k hk => h _ (by simpa only [G109, kI, kbool, kS, kptr, kaggN, kite, decide_true, eq_self] using hk)
  rcases kI_or .u32 a1 with ⟨x_1, rfl⟩ | h
  rotate_left
  · exact .inr fun m k hk => h _ (by simpa only [G109, kI, kbool, kS, kptr, kaggN, kite, decide_true, eq_self] using hk)
  rcases kbool_or a2 with ⟨x_2, rfl⟩ | h
  rotate_left
  · exact .inr fun m k hk => h _ (by simpa only [G109, kI, kbool, kS, kptr, kaggN, kite, decide_true, eq_self] using hk)
  exact .inl fun m k => propext ⟨fun h => ⟨rfl, by rw [eqn109]; simpa only [G109, kI, kbool, kS, kptr, kaggN, kite, decide_true, eq_self] using h⟩, fun h => by have h := h.2; rw [eqn109] at h; simpa only [G109, kI, kbool, kS, kptr, kaggN, kite, decide_true, eq_self] using h⟩

def E91 : Env := envOf [(57, G57), (109, G109)]

def P91_9102 (b_0 o_0 : Nat) (x_1 : Int) (x_3 : Bool) (m : Mem) (kr : Int → Int → Bool → Mem → Prop) : Prop :=
  F109 b_0 o_0 x_1 x_3 m fun x18 x19 x20 m21 => kr x18 x19 x20 m21

def P91_7103 (b_0 o_0 : Nat) (x_1 : Int) (x_3 : Bool) (m : Mem) (kr : Int → Int → Bool → Mem → Prop) : Prop :=
  kif (decide (x_1 ≥ 2147483648)) (kif (decide (x_1 < 3221225472)) (kr (bits .and .u32 x_1 536870911) (-1) false m) (P91_9102 b_0 o_0 x_1 x_3 m (fun x22 x23 x24 m25 => kr x22 x23 x24 m25))) (P91_9102 b_0 o_0 x_1 x_3 m (fun x26 x27 x28 m29 => kr x26 x27 x28 m29))

def P91_4004 (b_0 o_0 : Nat) (x_1 : Int) (x_3 : Bool) (x_29 : Bool) (m : Mem) (kr : Int → Int → Bool → Mem → Prop) (kn : Mem → Prop) : Prop :=
  kif x_29 (kif x_3 (kr 0 5 false m) (kr 0 4 false m)) (kn  m)

def P91_3103 (b_0 o_0 : Nat) (x_1 : Int) (x_2 : Int) (x_3 : Bool) (m : Mem) (kr : Int → Int → Bool → Mem → Prop) : Prop :=
  kif (decide (IntKind.wrap .u32 x_2 = 0)) False (kif ((x_1.tmod (IntKind.wrap .u32 x_2)) != 0) (P91_4004 b_0 o_0 x_1 x_3 true m (fun x3 x4 x5 m6 => kr x3 x4 x5 m6) (fun m7 => P91_7103 b_0 o_0 x_1 x_3 m7 (fun x30 x31 x32 m33 => kr x30 x31 x32 m33))) (F57 b_0 o_0 m fun x1 m2 => kif x1 (P91_4004 b_0 o_0 x_1 x_3 (decide (x_1 ≥ 2147483648)) m2 (fun x8 x9 x10 m11 => kr x8 x9 x10 m11) (fun m12 => P91_7103 b_0 o_0 x_1 x_3 m12 (fun x34 x35 x36 m37 => kr x34 x35 x36 m37))) (P91_4004 b_0 o_0 x_1 x_3 false m2 (fun x13 x14 x15 m16 => kr x13 x14 x15 m16) (fun m17 => P91_7103 b_0 o_0 x_1 x_3 m17 (fun x38 x39 x40 m41 => kr x38 x39 x40 m41)))))

/-- pianola/pianolaref6.Lies -/
def F91 (b_0 o_0 : Nat) (x_1 : Int) (x_2 : Int) (x_3 : Bool) (m : Mem) (k : Int → Int → Bool → Mem → Prop) : Prop :=
  kif (x_2 != 1) (kif (x_2 != 2) (P91_3103 b_0 o_0 x_1 4 x_3 m (fun x42 x43 x44 m45 => (Keeps m m45 ∧ k x42 x43 x44 m))) (P91_3103 b_0 o_0 x_1 x_2 x_3 m (fun x46 x47 x48 m49 => (Keeps m m49 ∧ k x46 x47 x48 m)))) (P91_3103 b_0 o_0 x_1 x_2 x_3 m (fun x50 x51 x52 m53 => (Keeps m m53 ∧ k x50 x51 x52 m)))

def G91 (args : List AV) (m : Mem) (k : KV) : Prop := match args with
  | [a0, a1, a2, a3] => kptr a0 fun b_0 o_0 => kI .u32 a1 fun x_1 => kI .i64 a2 fun x_2 => kbool a3 fun x_3 => F91 b_0 o_0 x_1 x_2 x_3 m (fun x_1000 x_1001 x_1002 m' => k (.tup [(.flat (.int .u32 x_1000)), (.flat (.int .i64 x_1001)), (.flat (.bool x_1002))]) m')
  | _ => False

def LamP91_3103 (σ : Nat → AV) (m : Mem) (k : KX) : Prop := kptr (σ 0) fun b_0 o_0 => kI .u32 (σ 1) fun x_1 => kI .i64 (σ 2) fun x_2 => kbool (σ 3) fun x_3 => P91_3103 b_0 o_0 x_1 x_2 x_3 m (fun x_8' x_9' x_10' m' => k .ret (only [8, 9, 10] [(.flat (.int .u32 x_8')), (.flat (.int .i64 x_9')), (.flat (.bool x_10'))]) m')

def LamP91_4004 (σ : Nat → AV) (m : Mem) (k : KX) : Prop := kptr (σ 0) fun b_0 o_0 => kI .u32 (σ 1) fun x_1 => kbool (σ 3) fun x_3 => kbool (σ 29) fun x_29 => P91_4004 b_0 o_0 x_1 x_3 x_29 m (fun x_8' x_9' x_10' m' => k .ret (only [8, 9, 10] [(.flat (.int .u32 x_8')), (.flat (.int .i64 x_9')), (.flat (.bool x_10'))]) m') (fun m' => k .normal (only [0, 1, 3] [(.ptr b_0 o_0), (.flat (.int .u32 x_1)), (.flat (.bool x_3))]) m')

def LamP91_7103 (σ : Nat → AV) (m : Mem) (k : KX) : Prop := kptr (σ 0) fun b_0 o_0 => kI .u32 (σ 1) fun x_1 => kbool (σ 3) fun x_3 => P91_7103 b_0 o_0 x_1 x_3 m (fun x_8' x_9' x_10' m' => k .ret (only [8, 9, 10] [(.flat (.int .u32 x_8')), (.flat (.int .i64 x_9')), (.flat (.bool x_10'))]) m')

def LamP91_9102 (σ : Nat → AV) (m : Mem) (k : KX) : Prop := kptr (σ 0) fun b_0 o_0 => kI .u32 (σ 1) fun x_1 => kbool (σ 3) fun x_3 => P91_9102 b_0 o_0 x_1 x_3 m (fun x_8' x_9' x_10' m' => k .ret (only [8, 9, 10] [(.flat (.int .u32 x_8')), (.flat (.int .i64 x_9')), (.flat (.bool x_10'))]) m')

def Lam91 : LEnv := ⟨fun a σ m k => match firstReg a with
  | _ => bump False,
  fun id => match id with
  | _ => bump false,
  fun b => match keyC b with
  | some 3103 => true
  | some 4004 => true
  | some 7103 => true
  | some 9102 => true
  | _ => bump false,
  fun b σ m k => match keyC b with
  | some 3103 => LamP91_3103 σ m k
  | some 4004 => LamP91_4004 σ m k
  | some 7103 => LamP91_7103 σ m k
  | some 9102 => LamP91_9102 σ m k
  | _ => bump False⟩

def lxp91_9102 : Ex → List Nat := fun e => match e with
  | .ret => [8, 9, 10]
  | _ => []

theorem pc91_9102 (b_0 o_0 : Nat) (x_1 : Int) (x_3 : Bool) (m : Mem) (k : KX) : once Tryz.prog E91 Lam91 [0, 1, 3] lxp91_9102 (((secsOf (bodyOf Tryz.f91)).filter Lam91.cut).getD 3 .skip) [(.ptr b_0 o_0), (.flat (.int .u32 x_1)), (.flat (.bool x_3))] m k = P91_9102 b_0 o_0 x_1 x_3 m (fun x_8' x_9' x_10' m' => k .ret (only [8, 9, 10] [(.flat (.int .u32 x_8')), (.flat (.int .i64 x_9')), (.flat (.bool x_10'))]) m') := by
  kernel_rfl

theorem pok91_9102 : PieceOK Tryz.prog E91 Lam91 (((secsOf (bodyOf Tryz.f91)).filter Lam91.cut).getD 3 .skip) := by
  refine ⟨fun σ => ∃ b_0 o_0 x_1 x_3, σ 0 = .ptr b_0 o_0 ∧ σ 1 = .flat (.int .u32 x_1) ∧ σ 3 = .flat (.bool x_3), [0, 1, 3], lxp91_9102, fun σ m k => ?_⟩
  have e : Lam91.piece (((secsOf (bodyOf Tryz.f91)).filter Lam91.cut).getD 3 .skip) σ m k = LamP91_9102 σ m k := by kernel_rfl
  rw [e]
  constructor
  · intro h
    unfold LamP91_9102 at h
    obtain ⟨b_0, o_0, h0, h⟩ := kptr_ok h
    obtain ⟨x_1, h1, h⟩ := kI_ok h
    obtain ⟨x_3, h2, h⟩ := kbool_ok h
    refine ⟨⟨b_0, o_0, x_1, x_3, h0, h1, h2⟩, ?_⟩
    have ev : [0, 1, 3].map σ = [(.ptr b_0 o_0), (.flat (.int .u32 x_1)), (.flat (.bool x_3))] := by simp only [List.map_cons, List.map_nil, h0, h1, h2]
    rw [ev, pc91_9102]
    exact h
  · rintro ⟨⟨b_0, o_0, x_1, x_3, h0, h1, h2⟩, h⟩
    have ev : [0, 1, 3].map σ = [(.ptr b_0 o_0), (.flat (.int .u32 x_1)), (.flat (.bool x_3))] := by simp only [List.map_cons, List.map_nil, h0, h1, h2]
    rw [ev, pc91_9102] at h
    unfold LamP91_9102
    try simp only [h0, h1, h2, kI, kbool, kS, kptr, kaggN, kite, decide_true, eq_self]
    exact h

def lxp91_7103 : Ex → List Nat := fun e => match e with
  | .ret => [8, 9, 10]
  | _ => []

theorem pc91_7103 (b_0 o_0 : Nat) (x_1 : Int) (x_3 : Bool) (m : Mem) (k : KX) : once Tryz.prog E91 Lam91 [0, 1, 3] lxp91_7103 (((secsOf (bodyOf Tryz.f91)).filter Lam91.cut).getD 1 .skip) [(.ptr b_0 o_0), (.flat (.int .u32 x_1)), (.flat (.bool x_3))] m k = P91_7103 b_0 o_0 x_1 x_3 m (fun x_8' x_9' x_10' m' => k .ret (only [8, 9, 10] [(.flat (.int .u32 x_8')), (.flat (.int .i64 x_9')), (.flat (.bool x_10'))]) m') := by
  kernel_rfl

theorem pok91_7103 : PieceOK Tryz.prog E91 Lam91 (((secsOf (bodyOf Tryz.f91)).filter Lam91.cut).getD 1 .skip) := by
  refine ⟨fun σ => ∃ b_0 o_0 x_1 x_3, σ 0 = .ptr b_0 o_0 ∧ σ 1 = .flat (.int .u32 x_1) ∧ σ 3 = .flat (.bool x_3), [0, 1, 3], lxp91_7103, fun σ m k => ?_⟩
  have e : Lam91.piece (((secsOf (bodyOf Tryz.f91)).filter Lam91.cut).getD 1 .skip) σ m k = LamP91_7103 σ m k := by kernel_rfl
  rw [e]
  constructor
  · intro h
    unfold LamP91_7103 at h
    obtain ⟨b_0, o_0, h0, h⟩ := kptr_ok h
    obtain ⟨x_1, h1, h⟩ := kI_ok h
    obtain ⟨x_3, h2, h⟩ := kbool_ok h
    refine ⟨⟨b_0, o_0, x_1, x_3, h0, h1, h2⟩, ?_⟩
    have ev : [0, 1, 3].map σ = [(.ptr b_0 o_0), (.flat (.int .u32 x_1)), (.flat (.bool x_3))] := by simp only [List.map_cons, List.map_nil, h0, h1, h2]
    rw [ev, pc91_7103]
    exact h
  · rintro ⟨⟨b_0, o_0, x_1, x_3, h0, h1, h2⟩, h⟩
    have ev : [0, 1, 3].map σ = [(.ptr b_0 o_0), (.flat (.int .u32 x_1)), (.flat (.bool x_3))] := by simp only [List.map_cons, List.map_nil, h0, h1, h2]
    rw [ev, pc91_7103] at h
    unfold LamP91_7103
    try simp only [h0, h1, h2, kI, kbool, kS, kptr, kaggN, kite, decide_true, eq_self]
    exact h

def lxp91_4004 : Ex → List Nat := fun e => match e with
  | .ret => [8, 9, 10]
  | .normal => [0, 1, 3]
  | _ => []

theorem pc91_4004 (b_0 o_0 : Nat) (x_1 : Int) (x_3 : Bool) (x_29 : Bool) (m : Mem) (k : KX) : once Tryz.prog E91 Lam91 [0, 1, 3, 29] lxp91_4004 (((secsOf (bodyOf Tryz.f91)).filter Lam91.cut).getD 2 .skip) [(.ptr b_0 o_0), (.flat (.int .u32 x_1)), (.flat (.bool x_3)), (.flat (.bool x_29))] m k = P91_4004 b_0 o_0 x_1 x_3 x_29 m (fun x_8' x_9' x_10' m' => k .ret (only [8, 9, 10] [(.flat (.int .u32 x_8')), (.flat (.int .i64 x_9')), (.flat (.bool x_10'))]) m') (fun m' => k .normal (only [0, 1, 3] [(.ptr b_0 o_0), (.flat (.int .u32 x_1)), (.flat (.bool x_3))]) m') := by
  kernel_rfl

theorem pok91_4004 : PieceOK Tryz.prog E91 Lam91 (((secsOf (bodyOf Tryz.f91)).filter Lam91.cut).getD 2 .skip) := by
  refine ⟨fun σ => ∃ b_0 o_0 x_1 x_3 x_29, σ 0 = .ptr b_0 o_0 ∧ σ 1 = .flat (.int .u32 x_1) ∧ σ 3 = .flat (.bool x_3) ∧ σ 29 = .flat (.bool x_29), [0, 1, 3, 29], lxp91_4004, fun σ m k => ?_⟩
  have e : Lam91.piece (((secsOf (bodyOf Tryz.f91)).filter Lam91.cut).getD 2 .skip) σ m k = LamP91_4004 σ m k := by kernel_rfl
  rw [e]
  constructor
  · intro h
    unfold LamP91_4004 at h
    obtain ⟨b_0, o_0, h0, h⟩ := kptr_ok h
    obtain ⟨x_1, h1, h⟩ := kI_ok h
    obtain ⟨x_3, h2, h⟩ := kbool_ok h
    obtain ⟨x_29, h3, h⟩ := kbool_ok h
    refine ⟨⟨b_0, o_0, x_1, x_3, x_29, h0, h1, h2, h3⟩, ?_⟩
    have ev : [0, 1, 3, 29].map σ = [(.ptr b_0 o_0), (.flat (.int .u32 x_1)), (.flat (.bool x_3)), (.flat (.bool x_29))] := by simp only [List.map_cons, List.map_nil, h0, h1, h2, h3]
    rw [ev, pc91_4004]
    exact h
  · rintro ⟨⟨b_0, o_0, x_1, x_3, x_29, h0, h1, h2, h3⟩, h⟩
    have ev : [0, 1, 3, 29].map σ = [(.ptr b_0 o_0), (.flat (.int .u32 x_1)), (.flat (.bool x_3)), (.flat (.bool x_29))] := by simp only [List.map_cons, List.map_nil, h0, h1, h2, h3]
    rw [ev, pc91_4004] at h
    unfold LamP91_4004
    try simp only [h0, h1, h2, h3, kI, kbool, kS, kptr, kaggN, kite, decide_true, eq_self]
    exact h

def lxp91_3103 : Ex → List Nat := fun e => match e with
  | .ret => [8, 9, 10]
  | _ => []

theorem pc91_3103 (b_0 o_0 : Nat) (x_1 : Int) (x_2 : Int) (x_3 : Bool) (m : Mem) (k : KX) : once Tryz.prog E91 Lam91 [0, 1, 2, 3] lxp91_3103 (((secsOf (bodyOf Tryz.f91)).filter Lam91.cut).getD 0 .skip) [(.ptr b_0 o_0), (.flat (.int .u32 x_1)), (.flat (.int .i64 x_2)), (.flat (.bool x_3))] m k = P91_3103 b_0 o_0 x_1 x_2 x_3 m (fun x_8' x_9' x_10' m' => k .ret (only [8, 9, 10] [(.flat (.int .u32 x_8')), (.flat (.int .i64 x_9')), (.flat (.bool x_10'))]) m') := by
  kernel_rfl

theorem pok91_3103 : PieceOK Tryz.prog E91 Lam91 (((secsOf (bodyOf Tryz.f91)).filter Lam91.cut).getD 0 .skip) := by
  refine ⟨fun σ => ∃ b_0 o_0 x_1 x_2 x_3, σ 0 = .ptr b_0 o_0 ∧ σ 1 = .flat (.int .u32 x_1) ∧ σ 2 = .flat (.int .i64 x_2) ∧ σ 3 = .flat (.bool x_3), [0, 1, 2, 3], lxp91_3103, fun σ m k => ?_⟩
  have e : Lam91.piece (((secsOf (bodyOf Tryz.f91)).filter Lam91.cut).getD 0 .skip) σ m k = LamP91_3103 σ m k := by kernel_rfl
  rw [e]
  constructor
  · intro h
    unfold LamP91_3103 at h
    obtain ⟨b_0, o_0, h0, h⟩ := kptr_ok h
    obtain ⟨x_1, h1, h⟩ := kI_ok h
    obtain ⟨x_2, h2, h⟩ := kI_ok h
    obtain ⟨x_3, h3, h⟩ := kbool_ok h
    refine ⟨⟨b_0, o_0, x_1, x_2, x_3, h0, h1, h2, h3⟩, ?_⟩
    have ev : [0, 1, 2, 3].map σ = [(.ptr b_0 o_0), (.flat (.int .u32 x_1)), (.flat (.int .i64 x_2)), (.flat (.bool x_3))] := by simp only [List.map_cons, List.map_nil, h0, h1, h2, h3]
    rw [ev, pc91_3103]
    exact h
  · rintro ⟨⟨b_0, o_0, x_1, x_2, x_3, h0, h1, h2, h3⟩, h⟩
    have ev : [0, 1, 2, 3].map σ = [(.ptr b_0 o_0), (.flat (.int .u32 x_1)), (.flat (.int .i64 x_2)), (.flat (.bool x_3))] := by simp only [List.map_cons, List.map_nil, h0, h1, h2, h3]
    rw [ev, pc91_3103] at h
    unfold LamP91_3103
    try simp only [h0, h1, h2, h3, kI, kbool, kS, kptr, kaggN, kite, decide_true, eq_self]
    exact h

theorem eqn91 (b_0 o_0 : Nat) (x_1 : Int) (x_2 : Int) (x_3 : Bool) (m : Mem) (k : KV) : bodyK Tryz.prog E91 Lam91 Tryz.f91 true [(.ptr b_0 o_0), (.flat (.int .u32 x_1)), (.flat (.int .i64 x_2)), (.flat (.bool x_3))] m k = F91 b_0 o_0 x_1 x_2 x_3 m (fun x_1000 x_1001 x_1002 m' => k (.tup [(.flat (.int .u32 x_1000)), (.flat (.int .i64 x_1001)), (.flat (.bool x_1002))]) m') := by
  kernel_rfl

theorem fs91 (w0 : World) : FS Tryz.prog w0 91 G91 := by
  refine (fs_body (Γ := E91) (sound_env (l := [(57, G57), (109, G109)]) w0 (by
    intro p hp
    simp only [List.mem_cons, List.not_mem_nil, or_false] at hp
    rcases hp with rfl | rfl
    · exact fs57 w0
    · exact fs109 w0)) (by kernel_rfl) Tryz.func91 (Λ := Lam91) (c := (bodyOf Tryz.f91)) (by kernel_rfl) Tryz.call91 (by kernel_rfl) (LS_of (bodyOf Tryz.f91) 0 (by kernel_rfl) (fun i hi => absurd hi (Nat.not_lt_zero i)) 4 (by kernel_rfl) (by
    intro i hi
    match i, hi with
    | 0, _ => exact pok91_3103
    | 1, _ => exact pok91_7103
    | 2, _ => exact pok91_4004
    | 3, _ => exact pok91_9102
    | i + 4, hi => omega)) true (np := 4) (Nat.le_of_ble_eq_true (by kernel_rfl))).imp fun args => ?_
  by_cases hl : args.length = 4
  rotate_left
  · exact .inr fun m k hk => by
      unfold G91 at hk
      split at hk
      · exact hl rfl
      · exact hk
  obtain ⟨a0, a1, a2, a3, rfl⟩ : ∃ a0 a1 a2 a3, args = [a0, a1, a2, a3] := len_list4 hl
  rcases kptr_or a0 with ⟨b_0, o_0, rfl⟩ | h
  rotate_left
  · exact .inr fun m k hk => h _ (by simpa only [G91, kI, kbool, kS, kptr, kaggN, kite, decide_true, eq_self] using hk)
  rcases kI_or .u32 a1 with ⟨x_1, rfl⟩ | h
  rotate_left
  · exact .inr fun m k hk => h _ (by simpa only [G91, kI, kbool, kS, kptr, kaggN, kite, decide_true, eq_self] using hk)
  rcases kI_or .i64 a2 with ⟨x_2, rfl⟩ | h
  rotate_left
  · exact .inr fun m k hk => h _ (by simpa only [G91, kI, kbool, kS, kptr, kaggN, kite, decide_true, eq_self] using hk)
  rcases kbool_or a3 with ⟨x_3, rfl⟩ | h
  rotate_left
  · exact .inr fun m k hk => h _ (by simpa only [G91, kI, kbool, kS, kptr, kaggN, kite, decide_true, eq_self] using hk)
  exact .inl fun m k => propext ⟨fun h => ⟨rfl, by rw [eqn91]; simpa only [G91, kI, kbool, kS, kptr, kaggN, kite, decide_true, eq_self] using h⟩, fun h => by have h := h.2; rw [eqn91] at h; simpa only [G91, kI, kbool, kS, kptr, kaggN, kite, decide_true, eq_self] using h⟩

def E92 : Env := envOf []

/-- pianola/pianolaref6.Bad -/
def F92 (b_0 o_0 : Nat) (x_1 : Int) (x_2 : Bool) (m : Mem) (k : Mem → Prop) : Prop :=
  stC m b_0 (o_0 + 39 + 8) (.flat (.int .u32 x_1)) fun m1 => kif x_2 (ldI .u32 m1 b_0 (o_0 + 39 + 10) fun x2 => stC m1 b_0 (o_0 + 39 + 10) (.flat (.int .u32 (bits .or .u32 (bits .and .u32 x2 1023) (bits .andNot .u32 x_1 1023)))) fun m3 => k  m3) (k  m1)

def G92 (args : List AV) (m : Mem) (k : KV) : Prop := match args with
  | [a0, a1, a2] => kptr a0 fun b_0 o_0 => kI .u32 a1 fun x_1 => kbool a2 fun x_2 => F92 b_0 o_0 x_1 x_2 m (fun m' => k (.tup []) m')
  | _ => False

def Lam92 : LEnv := ⟨fun a σ m k => match firstReg a with
  | _ => bump False,
  fun id => match id with
  | _ => bump false,
  fun b => match keyC b with
  | _ => bump false,
  fun b σ m k => match keyC b with
  | _ => bump False⟩

theorem eqn92 (b_0 o_0 : Nat) (x_1 : Int) (x_2 : Bool) (m : Mem) (k : KV) : bodyK Tryz.prog E92 Lam92 Tryz.f92 false [(.ptr b_0 o_0), (.flat (.int .u32 x_1)), (.flat (.bool x_2))] m k = F92 b_0 o_0 x_1 x_2 m (fun m' => k (.tup []) m') := by
  kernel_rfl

theorem fs92 (w0 : World) : FS Tryz.prog w0 92 G92 := by
  refine (fs_body (Γ := E92) (sound_env (l := []) w0 (by
    intro p hp
    cases hp)) (by kernel_rfl) Tryz.func92 (Λ := Lam92) (c := (bodyOf Tryz.f92)) (by kernel_rfl) Tryz.call92 (by kernel_rfl) (LS_of (bodyOf Tryz.f92) 0 (by kernel_rfl) (fun i hi => absurd hi (Nat.not_lt_zero i)) 0 (by kernel_rfl) (fun i hi => absurd hi (Nat.not_lt_zero i))) false (np := 3) (Nat.le_of_ble_eq_true (by kernel_rfl))).imp fun args => ?_
  by_cases hl : args.length = 3
  rotate_left
  · exact .inr fun m k hk => by
      unfold G92 at hk
      split at hk
      · exact hl rfl
      · exact hk
  obtain ⟨a0, a1, a2, rfl⟩ : ∃ a0 a1 a2, args = [a0, a1, a2] := len_list3 hl
  rcases kptr_or a0 with ⟨b_0, o_0, rfl⟩ | h
  rotate_left
  · exact .inr fun m k hk => h _ (by simpa only [G92, kI, kbool, kS, kptr, kaggN, kite, decide_true, eq_self] using hk)
  rcases kI_or .u32 a1 with ⟨x_1, rfl⟩ | h
  rotate_left
  · exact .inr fun m k hk => h _ (by simpa only [G92, kI, kbool, kS, kptr, kaggN, kite, decide_true, eq_self] using hk)
  rcases kbool_or a2 with ⟨x_2, rfl⟩ | h
  rotate_left
  · exact .inr fun m k hk => h _ (by simpa only [G92, kI, kbool, kS, kptr, kaggN, kite, decide_true, eq_self] using hk)
  exact .inl fun m k => propext ⟨fun h => ⟨rfl, by rw [eqn92]; simpa only [G92, kI, kbool, kS, kptr, kaggN, kite, decide_true, eq_self] using h⟩, fun h => by have h := h.2; rw [eqn92] at h; simpa only [G92, kI, kbool, kS, kptr, kaggN, kite, decide_true, eq_self] using h⟩

def E61 : Env := envOf [(31, G31), (91, G91), (92, G92)]

def P61_4102 (b_0 o_0 : Nat) (x_11 : Int) (x_12 : Bool) (m : Mem) (kr : Int → Int → Mem → Prop) : Prop :=
  F31 b_0 o_0 x_11 x_12 m fun x7 m8 => kr 0 x7 m8

/-- (*pianola/pianolaref17.Machine).lies -/
def F61 (b_0 o_0 : Nat) (x_1 : Int) (x_2 : Int) (x_3 : Bool) (m : Mem) (k : Int → Int → Mem → Prop) : Prop :=
  F91 b_0 (o_0 + 0) x_1 x_2 x_3 m fun x1 x2 x3 m4 => kif (decide (x2 ≥ 0)) (kif (x2 != 4) (F92 b_0 (o_0 + 0) x_1 (x2 != 5) m4 fun m5 => P61_4102 b_0 o_0 x2 x3 m5 (fun x9 x10 m11 => k x9 x10 m11)) (F92 b_0 (o_0 + 0) x_1 false m4 fun m6 => P61_4102 b_0 o_0 x2 x3 m6 (fun x12 x13 m14 => k x12 x13 m14))) (k x1 (-1) m4)

def G61 (args : List AV) (m : Mem) (k : KV) : Prop := match args with
  | [a0, a1, a2, a3] => kptr a0 fun b_0 o_0 => kI .u32 a1 fun x_1 => kI .i64 a2 fun x_2 => kbool a3 fun x_3 => F61 b_0 o_0 x_1 x_2 x_3 m (fun x_1000 x_1001 m' => k (.tup [(.flat (.int .u32 x_1000)), (.flat (.int .i64 x_1001))]) m')
  | _ => False

def LamP61_4102 (σ : Nat → AV) (m : Mem) (k : KX) : Prop := kptr (σ 0) fun b_0 o_0 => kI .i64 (σ 11) fun x_11 => kbool (σ 12) fun x_12 => P61_4102 b_0 o_0 x_11 x_12 m (fun x_8' x_9' m' => k .ret (only [8, 9] [(.flat (.int .u32 x_8')), (.flat (.int .i64 x_9'))]) m')

def Lam61 : LEnv := ⟨fun a σ m k => match firstReg a with
  | _ => bump False,
  fun id => match id with
  | _ => bump false,
  fun b => match keyC b with
  | some 4102 => true
  | _ => bump false,
  fun b σ m k => match keyC b with
  | some 4102 => LamP61_4102 σ m k
  | _ => bump False⟩

def lxp61_4102 : Ex → List Nat := fun e => match e with
  | .ret => [8, 9]
  | _ => []

theorem pc61_4102 (b_0 o_0 : Nat) (x_11 : Int) (x_12 : Bool) (m : Mem) (k : KX) : once Tryz.prog E61 Lam61 [0, 11, 12] lxp61_4102 (((secsOf (bodyOf Tryz.f61)).filter Lam61.cut).getD 0 .skip) [(.ptr b_0 o_0), (.flat (.int .i64 x_11)), (.flat (.bool x_12))] m k = P61_4102 b_0 o_0 x_11 x_12 m (fun x_8' x_9' m' => k .ret (only [8, 9] [(.flat (.int .u32 x_8')), (.flat (.int .i64 x_9'))]) m') := by
  kernel_rfl

theorem pok61_4102 : PieceOK Tryz.prog E61 Lam61 (((secsOf (bodyOf Tryz.f61)).filter Lam61.cut).getD 0 .skip) := by
  refine ⟨fun σ => ∃ b_0 o_0 x_11 x_12, σ 0 = .ptr b_0 o_0 ∧ σ 11 = .flat (.int .i64 x_11) ∧ σ 12 = .flat (.bool x_12), [0, 11, 12], lxp61_4102, fun σ m k => ?_⟩
  have e : Lam61.piece (((secsOf (bodyOf Tryz.f61)).filter Lam61.cut).getD 0 .skip) σ m k = LamP61_4102 σ m k := by kernel_rfl
  rw [e]
  constructor
  · intro h
    unfold LamP61_4102 at h
    obtain ⟨b_0, o_0, h0, h⟩ := kptr_ok h
    obtain ⟨x_11, h1, h⟩ := kI_ok h
    obtain ⟨x_12, h2, h⟩ := kbool_ok h
    refine ⟨⟨b_0, o_0, x_11, x_12, h0, h1, h2⟩, ?_⟩
    have ev : [0, 11, 12].map σ = [(.ptr b_0 o_0), (.flat (.int .i64 x_11)), (.flat (.bool x_12))] := by simp only [List.map_cons, List.map_nil, h0, h1, h2]
    rw [ev, pc61_4102]
    exact h
  · rintro ⟨⟨b_0, o_0, x_11, x_12, h0, h1, h2⟩, h⟩
    have ev : [0, 11, 12].map σ = [(.ptr b_0 o_0), (.flat (.int .i64 x_11)), (.flat (.bool x_12))] := by simp only [List.map_cons, List.map_nil, h0, h1, h2]
    rw [ev, pc61_4102] at h
    unfold LamP61_4102
    try simp only [h0, h1, h2, kI, kbool, kS, kptr, kaggN, kite, decide_true, eq_self]
    exact h

theorem eqn61 (b_0 o_0 : Nat) (x_1 : Int) (x_2 : Int) (x_3 : Bool) (m : Mem) (k : KV) : bodyK Tryz.prog E61 Lam61 Tryz.f61 false [(.ptr b_0 o_0), (.flat (.int .u32 x_1)), (.flat (.int .i64 x_2)), (.flat (.bool x_3))] m k = F61 b_0 o_0 x_1 x_2 x_3 m (fun x_1000 x_1001 m' => k (.tup [(.flat (.int .u32 x_1000)), (.flat (.int .i64 x_1001))]) m') := by
  kernel_rfl

theorem fs61 (w0 : World) : FS Tryz.prog w0 61 G61 := by
  refine (fs_body (Γ := E61) (sound_env (l := [(31, G31), (91, G91), (92, G92)]) w0 (by
    intro p hp
    simp only [List.mem_cons, List.not_mem_nil, or_false] at hp
    rcases hp with rfl | rfl | rfl
    · exact fs31 w0
    · exact fs91 w0
    · exact fs92 w0)) (by kernel_rfl) Tryz.func61 (Λ := Lam61) (c := (bodyOf Tryz.f61)) (by kernel_rfl) Tryz.call61 (by kernel_rfl) (LS_of (bodyOf Tryz.f61) 0 (by kernel_rfl) (fun i hi => absurd hi (Nat.not_lt_zero i)) 1 (by kernel_rfl) (by
    intro i hi
    match i, hi with
    | 0, _ => exact pok61_4102
    | i + 1, hi => omega)) false (np := 4) (Nat.le_of_ble_eq_true (by kernel_rfl))).imp fun args => ?_
  by_cases hl : args.length = 4
  rotate_left
  · exact .inr fun m k hk => by
      unfold G61 at hk
      split at hk
      · exact hl rfl
      · exact hk
  obtain ⟨a0, a1, a2, a3, rfl⟩ : ∃ a0 a1 a2 a3, args = [a0, a1, a2, a3] := len_list4 hl
  rcases kptr_or a0 with ⟨b_0, o_0, rfl⟩ | h
  rotate_left
  · exact .inr fun m k hk => h _ (by simpa only [G61, kI, kbool, kS, kptr, kaggN, kite, decide_true, eq_self] using hk)
  rcases kI_or .u32 a1 with ⟨x_1, rfl⟩ | h
  rotate_left
  · exact .inr fun m k hk => h _ (by simpa only [G61, kI, kbool, kS, kptr, kaggN, kite, decide_true, eq_self] using hk)
  rcases kI_or .i64 a2 with ⟨x_2, rfl⟩ | h
  rotate_left
  · exact .inr fun m k hk => h _ (by simpa only [G61, kI, kbool, kS, kptr, kaggN, kite, decide_true, eq_self] using hk)
  rcases kbool_or a3 with ⟨x_3, rfl⟩ | h
  rotate_left
  · exact .inr fun m k hk => h _ (by simpa only [G61, kI, kbool, kS, kptr, kaggN, kite, decide_true, eq_self] using hk)
  exact .inl fun m k => propext ⟨fun h => ⟨rfl, by rw [eqn61]; simpa only [G61, kI, kbool, kS, kptr, kaggN, kite, decide_true, eq_self] using h⟩, fun h => by have h := h.2; rw [eqn61] at h; simpa only [G61, kI, kbool, kS, kptr, kaggN, kite, decide_true, eq_self] using h⟩

def E110 : Env := envOf []

/-- (*pianola/pianolaref2.Ram).In -/
def F110 (b_0 o_0 : Nat) (x_1 : Int) (x_2 : Int) (m : Mem) (k : Bool → Mem → Prop) : Prop :=
  kif (decide (x_2 ≥ 0)) (ldA m b_0 (o_0 + 0) fun v1 => klen v1 fun x2 => (Keeps m m ∧ k (decide ((IntKind.wrap .u64 ((IntKind.wrap .u64 x_1) + (IntKind.wrap .u64 x_2))) ≤ (IntKind.wrap .u64 x2))) m)) ((Keeps m m ∧ k false m))

def G110 (args : List AV) (m : Mem) (k : KV) : Prop := match args with
  | [a0, a1, a2] => kptr a0 fun b_0 o_0 => kI .u32 a1 fun x_1 => kI .i64 a2 fun x_2 => F110 b_0 o_0 x_1 x_2 m (fun x_1000 m' => k (.flat (.bool x_1000)) m')
  | _ => False

def Lam110 : LEnv := ⟨fun a σ m k => match firstReg a with
  | _ => bump False,
  fun id => match id with
  | _ => bump false,
  fun b => match keyC b with
  | _ => bump false,
  fun b σ m k => match keyC b with
  | _ => bump False⟩

theorem eqn110 (b_0 o_0 : Nat) (x_1 : Int) (x_2 : Int) (m : Mem) (k : KV) : bodyK Tryz.prog E110 Lam110 Tryz.f110 true [(.ptr b_0 o_0), (.flat (.int .u32 x_1)), (.flat (.int .i64 x_2))] m k = F110 b_0 o_0 x_1 x_2 m (fun x_1000 m' => k (.flat (.bool x_1000)) m') := by
  kernel_rfl

theorem fs110 (w0 : World) : FS Tryz.prog w0 110 G110 := by
  refine (fs_body (Γ := E110) (sound_env (l := []) w0 (by
    intro p hp
    cases hp)) (by kernel_rfl) Tryz.func110 (Λ := Lam110) (c := (bodyOf Tryz.f110)) (by kernel_rfl) Tryz.call110 (by kernel_rfl) (LS_of (bodyOf Tryz.f110) 0 (by kernel_rfl) (fun i hi => absurd hi (Nat.not_lt_zero i)) 0 (by kernel_rfl) (fun i hi => absurd hi (Nat.not_lt_zero i))) true (np := 3) (Nat.le_of_ble_eq_true (by kernel_rfl))).imp fun args => ?_
  by_cases hl : args.length = 3
  rotate_left
  · exact .inr fun m k hk => by
      unfold G110 at hk
      split at hk
      · exact hl rfl
      · exact hk
  obtain ⟨a0, a1, a2, rfl⟩ : ∃ a0 a1 a2, args = [a0, a1, a2] := len_list3 hl
  rcases kptr_or a0 with ⟨b_0, o_0, rfl⟩ | h
  rotate_left
  · exact .inr fun m k hk => h _ (by simpa only [G110, kI, kbool, kS, kptr, kaggN, kite, decide_true, eq_self] using hk)
  rcases kI_or .u32 a1 with ⟨x_1, rfl⟩ | h
  rotate_left
  · exact .inr fun m k hk => h _ (by simpa only [G110, kI, kbool, kS, kptr, kaggN, kite, decide_true, eq_self] using hk)
  rcases kI_or .i64 a2 with ⟨x_2, rfl⟩ | h
  rotate_left
  · exact .inr fun m k hk => h _ (by simpa only [G110, kI, kbool, kS, kptr, kaggN, kite, decide_true, eq_self] using hk)
  exact .inl fun m k => propext ⟨fun h => ⟨rfl, by rw [eqn110]; simpa only [G110, kI, kbool, kS, kptr, kaggN, kite, decide_true, eq_self] using h⟩, fun h => by have h := h.2; rw [eqn110] at h; simpa only [G110, kI, kbool, kS, kptr, kaggN, kite, decide_true, eq_self] using h⟩

def E93 : Env := envOf [(110, G110)]

def R93_5 (b_0 o_0 : Nat) (x_1 : Int) (x_2 : Int) (x_8 : Int) (x_9 : Int) (m : Mem) (kn : Int → Int → Mem → Prop) (k0 : Int → Mem → Prop) : Prop :=
  kif (decide (x_9 < x_2)) (ldA m b_0 (o_0 + 0) fun v7 => ksl v7 fun b8 o9 l10 p11 => kif (decide (0 ≤ IntKind.wrap .i64 ((IntKind.wrap .i64 x_1) + x_9)) && decide (IntKind.wrap .i64 ((IntKind.wrap .i64 x_1) + x_9) < l10)) (ldI .u8 m b8 (o9 + (IntKind.wrap .i64 ((IntKind.wrap .i64 x_1) + x_9)).toNat * 1) fun x12 => kn (bits .or .u32 (IntKind.wrap .u32 (x_8 * 256)) (IntKind.wrap .u32 x12)) (IntKind.wrap .i64 (x_9 + 1)) m) False) (k0 x_8 m)

def L93_5 (b_0 o_0 : Nat) (x_1 : Int) (x_2 : Int) : Nat → Int → Int → Mem → (Int → Mem → Prop) → Prop
  | 0, _, _,  _, _ => bump False
  | N + 1, x_8, x_9,  m, k0 => R93_5 b_0 o_0 x_1 x_2 x_8 x_9 m (fun x_8' x_9' m' => L93_5 b_0 o_0 x_1 x_2 N x_8' x_9' m' k0) k0

def P93_3102 (b_0 o_0 : Nat) (x_1 : Int) (x_2 : Int) (m : Mem) (kr : Int → Bool → Mem → Prop) : Prop :=
  ∃ N15, L93_5 b_0 o_0 x_1 x_2 N15 0 0 m (fun x13 m14 => kr x13 true m14)

/-- (*pianola/pianolaref2.Ram).Load -/
def F93 (b_0 o_0 : Nat) (x_1 : Int) (x_2 : Int) (m : Mem) (k : Int → Bool → Mem → Prop) : Prop :=
  kif (x_2 != 1) (kif (x_2 != 2) (kif (x_2 != 4) ((Keeps m m ∧ k 0 false m)) (kif (decide (IntKind.wrap .u32 x_2 = 0)) False (kif ((x_1.tmod (IntKind.wrap .u32 x_2)) != 0) ((Keeps m m ∧ k 0 false m)) (F110 b_0 o_0 x_1 x_2 m fun x1 m2 => kif (!x1) ((Keeps m m2 ∧ k 0 false m)) (P93_3102 b_0 o_0 x_1 x_2 m2 (fun x16 x17 m18 => (Keeps m m18 ∧ k x16 x17 m))))))) (kif (decide (IntKind.wrap .u32 x_2 = 0)) False (kif ((x_1.tmod (IntKind.wrap .u32 x_2)) != 0) ((Keeps m m ∧ k 0 false m)) (F110 b_0 o_0 x_1 x_2 m fun x3 m4 => kif (!x3) ((Keeps m m4 ∧ k 0 false m)) (P93_3102 b_0 o_0 x_1 x_2 m4 (fun x19 x20 m21 => (Keeps m m21 ∧ k x19 x20 m))))))) (kif (decide (IntKind.wrap .u32 x_2 = 0)) False (kif ((x_1.tmod (IntKind.wrap .u32 x_2)) != 0) ((Keeps m m ∧ k 0 false m)) (F110 b_0 o_0 x_1 x_2 m fun x5 m6 => kif (!x5) ((Keeps m m6 ∧ k 0 false m)) (P93_3102 b_0 o_0 x_1 x_2 m6 (fun x22 x23 m24 => (Keeps m m24 ∧ k x22 x23 m))))))

def G93 (args : List AV) (m : Mem) (k : KV) : Prop := match args with
  | [a0, a1, a2] => kptr a0 fun b_0 o_0 => kI .u32 a1 fun x_1 => kI .i64 a2 fun x_2 => F93 b_0 o_0 x_1 x_2 m (fun x_1000 x_1001 m' => k (.tup [(.flat (.int .u32 x_1000)), (.flat (.bool x_1001))]) m')
  | _ => False

def LamP93_3102 (σ : Nat → AV) (m : Mem) (k : KX) : Prop := kptr (σ 0) fun b_0 o_0 => kI .u32 (σ 1) fun x_1 => kI .i64 (σ 2) fun x_2 => P93_3102 b_0 o_0 x_1 x_2 m (fun x_6' x_7' m' => k .ret (only [6, 7] [(.flat (.int .u32 x_6')), (.flat (.bool x_7'))]) m')

def Lam93_5 (σ : Nat → AV) (m : Mem) (k : KX) : Prop := kptr (σ 0) fun b_0 o_0 => kI .u32 (σ 1) fun x_1 => kI .i64 (σ 2) fun x_2 => kI .u32 (σ 8) fun x_8 => kI .i64 (σ 9) fun x_9 => ∃ N, L93_5 b_0 o_0 x_1 x_2 N x_8 x_9 m (fun x_8' m' => k (.exit 0) (only [8] [(.flat (.int .u32 x_8'))]) m')

def Lam93 : LEnv := ⟨fun a σ m k => match firstReg a with
  | some 5 => Lam93_5 σ m k
  | _ => bump False,
  fun id => match id with
  | _ => bump false,
  fun b => match keyC b with
  | some 3102 => true
  | _ => bump false,
  fun b σ m k => match keyC b with
  | some 3102 => LamP93_3102 σ m k
  | _ => bump False⟩

def lx93_5 : Ex → List Nat := fun e => match e with
  | .exit 0 => [8]
  | _ => []

theorem round93_5 (b_0 o_0 : Nat) (x_1 : Int) (x_2 : Int) (x_8 : Int) (x_9 : Int) (m : Mem) (G : List AV → Mem → Prop) (k : KX) : (wpA Tryz.prog E93 Lam93 ((loopsOf (bodyOf Tryz.f93)).getD 0 .skip) (only [0, 1, 2, 8, 9] [(.ptr b_0 o_0), (.flat (.int .u32 x_1)), (.flat (.int .i64 x_2)), (.flat (.int .u32 x_8)), (.flat (.int .i64 x_9))]) m fun e σ' m' => match e with
    | .normal => G ([0, 1, 2, 8, 9].map σ') m'
    | .exit id => k (.exit id) (only (lx93_5 (.exit id)) ((lx93_5 (.exit id)).map σ')) m'
    | .ret => k .ret (only (lx93_5 .ret) ((lx93_5 .ret).map σ')) m') = R93_5 b_0 o_0 x_1 x_2 x_8 x_9 m (fun x_8' x_9' m' => G [(.ptr b_0 o_0), (.flat (.int .u32 x_1)), (.flat (.int .i64 x_2)), (.flat (.int .u32 x_8')), (.flat (.int .i64 x_9'))] m') (fun x_8' m' => k (.exit 0) (only [8] [(.flat (.int .u32 x_8'))]) m') := by
  kernel_rfl

theorem loop93_5 (b_0 o_0 : Nat) (x_1 : Int) (x_2 : Int) (k : KX) : ∀ (N : Nat) (x_8 : Int) (x_9 : Int) (m : Mem), rounds Tryz.prog E93 Lam93 [0, 1, 2, 8, 9] lx93_5 ((loopsOf (bodyOf Tryz.f93)).getD 0 .skip) N [(.ptr b_0 o_0), (.flat (.int .u32 x_1)), (.flat (.int .i64 x_2)), (.flat (.int .u32 x_8)), (.flat (.int .i64 x_9))] m k = L93_5 b_0 o_0 x_1 x_2 N x_8 x_9 m (fun x_8' m' => k (.exit 0) (only [8] [(.flat (.int .u32 x_8'))]) m') := by
  intro N
  induction N with
  | zero => intros; rfl
  | succ N ih =>
    intro x_8 x_9 m
    refine (round93_5 b_0 o_0 x_1 x_2 x_8 x_9 m (fun vs m' => rounds Tryz.prog E93 Lam93 [0, 1, 2, 8, 9] lx93_5 ((loopsOf (bodyOf Tryz.f93)).getD 0 .skip) N vs m' k) k).trans ?_
    simp only [ih]
    rfl

theorem lok93_5 : LoopOK Tryz.prog E93 Lam93 ((loopsOf (bodyOf Tryz.f93)).getD 0 .skip) := by
  refine ⟨fun σ => ∃ b_0 o_0 x_1 x_2 x_8 x_9, σ 0 = .ptr b_0 o_0 ∧ σ 1 = .flat (.int .u32 x_1) ∧ σ 2 = .flat (.int .i64 x_2) ∧ σ 8 = .flat (.int .u32 x_8) ∧ σ 9 = .flat (.int .i64 x_9), [0, 1, 2, 8, 9], lx93_5, fun σ m k => ?_⟩
  have e : Lam93.loop ((loopsOf (bodyOf Tryz.f93)).getD 0 .skip) σ m k = Lam93_5 σ m k := by kernel_rfl
  rw [e]
  constructor
  · intro h
    unfold Lam93_5 at h
    obtain ⟨b_0, o_0, h0, h⟩ := kptr_ok h
    obtain ⟨x_1, h1, h⟩ := kI_ok h
    obtain ⟨x_2, h2, h⟩ := kI_ok h
    obtain ⟨x_8, h3, h⟩ := kI_ok h
    obtain ⟨x_9, h4, h⟩ := kI_ok h
    obtain ⟨N, h⟩ := h
    refine ⟨⟨b_0, o_0, x_1, x_2, x_8, x_9, h0, h1, h2, h3, h4⟩, N, ?_⟩
    have ev : [0, 1, 2, 8, 9].map σ = [(.ptr b_0 o_0), (.flat (.int .u32 x_1)), (.flat (.int .i64 x_2)), (.flat (.int .u32 x_8)), (.flat (.int .i64 x_9))] := by simp only [List.map_cons, List.map_nil, h0, h1, h2, h3, h4]
    rw [ev, loop93_5]
    exact h
  · rintro ⟨⟨b_0, o_0, x_1, x_2, x_8, x_9, h0, h1, h2, h3, h4⟩, N, h⟩
    have ev : [0, 1, 2, 8, 9].map σ = [(.ptr b_0 o_0), (.flat (.int .u32 x_1)), (.flat (.int .i64 x_2)), (.flat (.int .u32 x_8)), (.flat (.int .i64 x_9))] := by simp only [List.map_cons, List.map_nil, h0, h1, h2, h3, h4]
    rw [ev, loop93_5] at h
    unfold Lam93_5
    try simp only [h0, h1, h2, h3, h4, kI, kbool, kS, kptr, kaggN, kite, decide_true, eq_self]
    exact ⟨N, h⟩

def lxp93_3102 : Ex → List Nat := fun e => match e with
  | .ret => [6, 7]
  | _ => []

theorem pc93_3102 (b_0 o_0 : Nat) (x_1 : Int) (x_2 : Int) (m : Mem) (k : KX) : once Tryz.prog E93 Lam93 [0, 1, 2] lxp93_3102 (((secsOf (bodyOf Tryz.f93)).filter Lam93.cut).getD 0 .skip) [(.ptr b_0 o_0), (.flat (.int .u32 x_1)), (.flat (.int .i64 x_2))] m k = P93_3102 b_0 o_0 x_1 x_2 m (fun x_6' x_7' m' => k .ret (only [6, 7] [(.flat (.int .u32 x_6')), (.flat (.bool x_7'))]) m') := by
  kernel_rfl

theorem pok93_3102 : PieceOK Tryz.prog E93 Lam93 (((secsOf (bodyOf Tryz.f93)).filter Lam93.cut).getD 0 .skip) := by
  refine ⟨fun σ => ∃ b_0 o_0 x_1 x_2, σ 0 = .ptr b_0 o_0 ∧ σ 1 = .flat (.int .u32 x_1) ∧ σ 2 = .flat (.int .i64 x_2), [0, 1, 2], lxp93_3102, fun σ m k => ?_⟩
  have e : Lam93.piece (((secsOf (bodyOf Tryz.f93)).filter Lam93.cut).getD 0 .skip) σ m k = LamP93_3102 σ m k := by kernel_rfl
  rw [e]
  constructor
  · intro h
    unfold LamP93_3102 at h
    obtain ⟨b_0, o_0, h0, h⟩ := kptr_ok h
    obtain ⟨x_1, h1, h⟩ := kI_ok h
    obtain ⟨x_2, h2, h⟩ := kI_ok h
    refine ⟨⟨b_0, o_0, x_1, x_2, h0, h1, h2⟩, ?_⟩
    have ev : [0, 1, 2].map σ = [(.ptr b_0 o_0), (.flat (.int .u32 x_1)), (.flat (.int .i64 x_2))] := by simp only [List.map_cons, List.map_nil, h0, h1, h2]
    rw [ev, pc93_3102]
    exact h
  · rintro ⟨⟨b_0, o_0, x_1, x_2, h0, h1, h2⟩, h⟩
    have ev : [0, 1, 2].map σ = [(.ptr b_0 o_0), (.flat (.int .u32 x_1)), (.flat (.int .i64 x_2))] := by simp only [List.map_cons, List.map_nil, h0, h1, h2]
    rw [ev, pc93_3102] at h
    unfold LamP93_3102
    try simp only [h0, h1, h2, kI, kbool, kS, kptr, kaggN, kite, decide_true, eq_self]
    exact h

theorem eqn93 (b_0 o_0 : Nat) (x_1 : Int) (x_2 : Int) (m : Mem) (k : KV) : bodyK Tryz.prog E93 Lam93 Tryz.f93 true [(.ptr b_0 o_0), (.flat (.int .u32 x_1)), (.flat (.int .i64 x_2))] m k = F93 b_0 o_0 x_1 x_2 m (fun x_1000 x_1001 m' => k (.tup [(.flat (.int .u32 x_1000)), (.flat (.bool x_1001))]) m') := by
  kernel_rfl

theorem fs93 (w0 : World) : FS Tryz.prog w0 93 G93 := by
  refine (fs_body (Γ := E93) (sound_env (l := [(110, G110)]) w0 (by
    intro p hp
    simp only [List.mem_cons, List.not_mem_nil, or_false] at hp
    rcases hp with rfl
    · exact fs110 w0)) (by kernel_rfl) Tryz.func93 (Λ := Lam93) (c := (bodyOf Tryz.f93)) (by kernel_rfl) Tryz.call93 (by kernel_rfl) (LS_of (bodyOf Tryz.f93) 1 (by kernel_rfl) (by
    intro i hi
    match i, hi with
    | 0, _ => exact lok93_5
    | i + 1, hi => omega) 1 (by kernel_rfl) (by
    intro i hi
    match i, hi with
    | 0, _ => exact pok93_3102
    | i + 1, hi => omega)) true (np := 3) (Nat.le_of_ble_eq_true (by kernel_rfl))).imp fun args => ?_
  by_cases hl : args.length = 3
  rotate_left
  · exact .inr fun m k hk => by
      unfold G93 at hk
      split at hk
      · exact hl rfl
      · exact hk
  obtain ⟨a0, a1, a2, rfl⟩ : ∃ a0 a1 a2, args = [a0, a1, a2] := len_list3 hl
  rcases kptr_or a0 with ⟨b_0, o_0, rfl⟩ | h
  rotate_left
  · exact .inr fun m k hk => h _ (by simpa only [G93, kI, kbool, kS, kptr, kaggN, kite, decide_true, eq_self] using hk)
  rcases kI_or .u32 a1 with ⟨x_1, rfl⟩ | h
  rotate_left
  · exact .inr fun m k hk => h _ (by simpa only [G93, kI, kbool, kS, kptr, kaggN, kite, decide_true, eq_self] using hk)
  rcases kI_or .i64 a2 with ⟨x_2, rfl⟩ | h
  rotate_left
  · exact .inr fun m k hk => h _ (by simpa only [G93, kI, kbool, kS, kptr, kaggN, kite, decide_true, eq_self] using hk)
  exact .inl fun m k => propext ⟨fun h => ⟨rfl, by rw [eqn93]; simpa only [G93, kI, kbool, kS, kptr, kaggN, kite, decide_true, eq_self] using h⟩, fun h => by have h := h.2; rw [eqn93] at h; simpa only [G93, kI, kbool, kS, kptr, kaggN, kite, decide_true, eq_self] using h⟩

def E94 : Env := envOf []

/-- pianola/pianolaref15.where -/
def F94 (x_0 : Int) (x_1 : Int) (m : Mem) (k : Int → Int → Bool → Mem → Prop) : Prop :=
  kif (x_1 != 4) ((Keeps m m ∧ k 0 0 false m)) (kif (decide (x_0 < 520093696)) ((Keeps m m ∧ k 0 0 false m)) (kif (decide (x_0 ≥ 520094080)) ((Keeps m m ∧ k 0 0 false m)) (kif ((x_0.tmod 4) != 0) ((Keeps m m ∧ k 0 0 false m)) ((Keeps m m ∧ k (IntKind.wrap .i64 (IntKind.wrap .u32 ((IntKind.wrap .u32 (x_0 - 520093696)).tdiv 64))) ((IntKind.wrap .u32 (x_0 - 520093696)).tmod 64) true m)))))

def G94 (args : List AV) (m : Mem) (k : KV) : Prop := match args with
  | [a0, a1] => kI .u32 a0 fun x_0 => kI .i64 a1 fun x_1 => F94 x_0 x_1 m (fun x_1000 x_1001 x_1002 m' => k (.tup [(.flat (.int .i64 x_1000)), (.flat (.int .u32 x_1001)), (.flat (.bool x_1002))]) m')
  | _ => False

def Lam94 : LEnv := ⟨fun a σ m k => match firstReg a with
  | _ => bump False,
  fun id => match id with
  | _ => bump false,
  fun b => match keyC b with
  | _ => bump false,
  fun b σ m k => match keyC b with
  | _ => bump False⟩

theorem eqn94 (x_0 : Int) (x_1 : Int) (m : Mem) (k : KV) : bodyK Tryz.prog E94 Lam94 Tryz.f94 true [(.flat (.int .u32 x_0)), (.flat (.int .i64 x_1))] m k = F94 x_0 x_1 m (fun x_1000 x_1001 x_1002 m' => k (.tup [(.flat (.int .i64 x_1000)), (.flat (.int .u32 x_1001)), (.flat (.bool x_1002))]) m') := by
  kernel_rfl

theorem fs94 (w0 : World) : FS Tryz.prog w0 94 G94 := by
  refine (fs_body (Γ := E94) (sound_env (l := []) w0 (by
    intro p hp
    cases hp)) (by kernel_rfl) Tryz.func94 (Λ := Lam94) (c := (bodyOf Tryz.f94)) (by kernel_rfl) Tryz.call94 (by kernel_rfl) (LS_of (bodyOf Tryz.f94) 0 (by kernel_rfl) (fun i hi => absurd hi (Nat.not_lt_zero i)) 0 (by kernel_rfl) (fun i hi => absurd hi (Nat.not_lt_zero i))) true (np := 2) (Nat.le_of_ble_eq_true (by kernel_rfl))).imp fun args => ?_
  by_cases hl : args.length = 2
  rotate_left
  · exact .inr fun m k hk => by
      unfold G94 at hk
      split at hk
      · exact hl rfl
      · exact hk
  obtain ⟨a0, a1, rfl⟩ : ∃ a0 a1, args = [a0, a1] := len_list2 hl
  rcases kI_or .u32 a0 with ⟨x_0, rfl⟩ | h
  rotate_left
  · exact .inr fun m k hk => h _ (by simpa only [G94, kI, kbool, kS, kptr, kaggN, kite, decide_true, eq_self] using hk)
  rcases kI_or .i64 a1 with ⟨x_1, rfl⟩ | h
  rotate_left
  · exact .inr fun m k hk => h _ (by simpa only [G94, kI, kbool, kS, kptr, kaggN, kite, decide_true, eq_self] using hk)
  exact .inl fun m k => propext ⟨fun h => ⟨rfl, by rw [eqn94]; simpa only [G94, kI, kbool, kS, kptr, kaggN, kite, decide_true, eq_self] using h⟩, fun h => by have h := h.2; rw [eqn94] at h; simpa only [G94, kI, kbool, kS, kptr, kaggN, kite, decide_true, eq_self] using h⟩

def E111 : Env := envOf []

/-- pianola/pianolaref15.bit -/
def F111 (x_0 : Bool) (x_1 : Int) (m : Mem) (k : Int → Mem → Prop) : Prop :=
  kif x_0 (kif (decide (x_1 < 0)) False ((Keeps m m ∧ k (IntKind.wrap .u32 (1 * 2 ^ min (x_1).toNat 32)) m))) ((Keeps m m ∧ k 0 m))

def G111 (args : List AV) (m : Mem) (k : KV) : Prop := match args with
  | [a0, a1] => kbool a0 fun x_0 => kI .u64 a1 fun x_1 => F111 x_0 x_1 m (fun x_1000 m' => k (.flat (.int .u32 x_1000)) m')
  | _ => False

def Lam111 : LEnv := ⟨fun a σ m k => match firstReg a with
  | _ => bump False,
  fun id => match id with
  | _ => bump false,
  fun b => match keyC b with
  | _ => bump false,
  fun b σ m k => match keyC b with
  | _ => bump False⟩

theorem eqn111 (x_0 : Bool) (x_1 : Int) (m : Mem) (k : KV) : bodyK Tryz.prog E111 Lam111 Tryz.f111 true [(.flat (.bool x_0)), (.flat (.int .u64 x_1))] m k = F111 x_0 x_1 m (fun x_1000 m' => k (.flat (.int .u32 x_1000)) m') := by
  kernel_rfl

theorem fs111 (w0 : World) : FS Tryz.prog w0 111 G111 := by
  refine (fs_body (Γ := E111) (sound_env (l := []) w0 (by
    intro p hp
    cases hp)) (by kernel_rfl) Tryz.func111 (Λ := Lam111) (c := (bodyOf Tryz.f111)) (by kernel_rfl) Tryz.call111 (by kernel_rfl) (LS_of (bodyOf Tryz.f111) 0 (by kernel_rfl) (fun i hi => absurd hi (Nat.not_lt_zero i)) 0 (by kernel_rfl) (fun i hi => absurd hi (Nat.not_lt_zero i))) true (np := 2) (Nat.le_of_ble_eq_true (by kernel_rfl))).imp fun args => ?_
  by_cases hl : args.length = 2
  rotate_left
  · exact .inr fun m k hk => by
      unfold G111 at hk
      split at hk
      · exact hl rfl
      · exact hk
  obtain ⟨a0, a1, rfl⟩ : ∃ a0 a1, args = [a0, a1] := len_list2 hl
  rcases kbool_or a0 with ⟨x_0, rfl⟩ | h
  rotate_left
  · exact .inr fun m k hk => h _ (by simpa only [G111, kI, kbool, kS, kptr, kaggN, kite, decide_true, eq_self] using hk)
  rcases kI_or .u64 a1 with ⟨x_1, rfl⟩ | h
  rotate_left
  · exact .inr fun m k hk => h _ (by simpa only [G111, kI, kbool, kS, kptr, kaggN, kite, decide_true, eq_self] using hk)
  exact .inl fun m k => propext ⟨fun h => ⟨rfl, by rw [eqn111]; simpa only [G111, kI, kbool, kS, kptr, kaggN, kite, decide_true, eq_self] using h⟩, fun h => by have h := h.2; rw [eqn111] at h; simpa only [G111, kI, kbool, kS, kptr, kaggN, kite, decide_true, eq_self] using h⟩

def E95 : Env := envOf [(111, G111)]

def P95_22102 (x_2 : Int) (v_10 : AV) (m : Mem) (kr : Int → Bool → Mem → Prop) : Prop :=
  ksl v_10 fun b76 o77 l78 p79 => kif (decide (0 ≤ IntKind.wrap .u32 (x_2.tdiv 4)) && decide (IntKind.wrap .u32 (x_2.tdiv 4) < l78)) (ldI .u32 m b76 (o77 + (IntKind.wrap .u32 (x_2.tdiv 4)).toNat * 1) fun x80 => kr x80 true m) False

def P95_21004 (b_0 o_0 : Nat) (x_2 : Int) (v_10 : AV) (x_178 : Bool) (m : Mem) (kn : Mem → Prop) : Prop :=
  kif x_178 (newK m ⟨0, lget [], 5, false⟩ fun b67 m66 => ldA m66 b_0 (o_0 + 9 + 0) fun v68 => slS 1 v68 (some 1) none fun v69 => appS 1 1 5 (.sl b67 0 0 (.ex 0)) v69 m66 fun v70 m71 => stV m71 b_0 (o_0 + 9 + 0) v70 fun m72 => kn  m72) (kn  m)

def P95_18103 (b_0 o_0 : Nat) (x_1 : Int) (x_2 : Int) (v_10 : AV) (m : Mem) (kr : Int → Bool → Mem → Prop) : Prop :=
  kif ((x_2.tmod 4) != 0) (kr 0 false m) (klen v_10 fun x63 => kif (decide ((IntKind.wrap .u32 (x_2.tdiv 4)) ≥ (IntKind.wrap .u32 x63))) (kr 0 false m) (kif (x_1 == 3) (kif (x_2 == 0) (ldA m b_0 (o_0 + 9 + 0) fun v64 => klen v64 fun x65 => P95_21004 b_0 o_0 x_2 v_10 (decide (x65 > 0)) m (fun m73 => P95_22102 x_2 v_10 m73 (fun x81 x82 m83 => kr x81 x82 m83))) (P95_21004 b_0 o_0 x_2 v_10 false m (fun m74 => P95_22102 x_2 v_10 m74 (fun x84 x85 m86 => kr x84 x85 m86)))) (P95_21004 b_0 o_0 x_2 v_10 false m (fun m75 => P95_22102 x_2 v_10 m75 (fun x87 x88 m89 => kr x87 x88 m89)))))

def P95_13002 (b_0 o_0 : Nat) (x_1 : Int) (x_2 : Int) (x_12 : Int) (m : Mem) (kn : AV → Mem → Prop) : Prop :=
  ∃ Fr24 : Nat → Prop, Fr24 b_0 ∧ (ldA m b_0 (o_0 + 9 + 0) fun v25 => klen v25 fun x26 => F111 (decide (x26 > 0)) 0 m fun x27 m28 => KeepsIn Fr24 m m28 ∧ (Fr24 b_0 ∧ (ldA m28 b_0 (o_0 + 9 + 1) fun v29 => klen v29 fun x30 => F111 (decide (x30 ≥ 16)) 1 m28 fun x31 m32 => KeepsIn Fr24 m28 m32 ∧ (Fr24 b_0 ∧ (ldB m32 b_0 (o_0 + 9 + 2) fun x33 => F111 x33 2 m32 fun x34 m35 => KeepsIn Fr24 m32 m35 ∧ (Fr24 b_0 ∧ (ldA m35 b_0 (o_0 + 9 + 1) fun v36 => klen v36 fun x37 => F111 (x37 == 0) 3 m35 fun x38 m39 => KeepsIn Fr24 m35 m39 ∧ (Fr24 b_0 ∧ (ldI .u32 m39 b_0 (o_0 + 9 + 3) fun x40 => newK m39 ⟨3, upd (upd (upd (lget [(.flat (.int .u32 0)), (.flat (.int .u32 0)), (.flat (.int .u32 0))]) 0 (.flat (.int .u32 x_12))) 1 (.flat (.int .u32 (bits .or .u32 (bits .or .u32 (bits .or .u32 x27 x31) x34) x38)))) 2 (.flat (.int .u32 x40)), 23, false⟩ fun b42 m41 => kn (.sl b42 0 3 (.ex 3)) m41)))))))))

def P95_7004 (b_0 o_0 : Nat) (x_1 : Int) (x_2 : Int) (v_10 : AV) (x_14 : Int) (x_33 : Bool) (m : Mem) (kn : AV → Mem → Prop) : Prop :=
  kif x_33 (kif (decide (0 ≤ IntKind.wrap .i64 (x_1 - 1)) && decide (IntKind.wrap .i64 (x_1 - 1) < 2)) (ldG 3 m b_0 (o_0 + 3 + (IntKind.wrap .i64 (x_1 - 1)).toNat * 3) fun c7 => newK m ⟨3, lget [(.flat (.int .u32 0)), (.flat (.int .u32 0)), (.flat (.int .u32 0))], 91, false⟩ fun b9 m8 => stG 3 m8 b9 0 c7 fun m10 => ldI .u32 m10 b9 0 fun x11 => ldI .u32 m10 b9 1 fun x12 => ldI .u32 m10 b9 2 fun x13 => newK m10 ⟨3, upd (upd (upd (lget [(.flat (.int .u32 0)), (.flat (.int .u32 0)), (.flat (.int .u32 0))]) 0 (.flat (.int .u32 x11))) 1 (.flat (.int .u32 x12))) 2 (.flat (.int .u32 x13)), 23, false⟩ fun b15 m14 => kn (.sl b15 0 3 (.ex 3)) m14) False) (kif (x_14 == 3) (ldA m b_0 (o_0 + 9 + 0) fun v16 => klen v16 fun x17 => kif (decide (x17 > 0)) (ldA m b_0 (o_0 + 9 + 0) fun v18 => ksl v18 fun b19 o20 l21 p22 => kif (decide (0 ≤ (0 : Int)) && decide ((0 : Int) < l21)) (ldI .u8 m b19 (o20 + 0) fun x23 => P95_13002 b_0 o_0 x_1 x_2 (IntKind.wrap .u32 x23) m (fun v43 m44 => kn v43 m44)) False) (P95_13002 b_0 o_0 x_1 x_2 256 m (fun v45 m46 => kn v45 m46))) (kif (x_14 == 4) (ldI .u32 m b_0 (o_0 + 14 + 0) fun x47 => ldI .u32 m b_0 (o_0 + 14 + 1) fun x48 => ldI .u32 m b_0 (o_0 + 14 + 2) fun x49 => ldI .u32 m b_0 (o_0 + 14 + 3) fun x50 => newK m ⟨5, upd (upd (upd (upd (upd (lget [(.flat (.int .u32 0)), (.flat (.int .u32 0)), (.flat (.int .u32 0)), (.flat (.int .u32 0)), (.flat (.int .u32 0))]) 0 (.flat (.int .u32 x47))) 1 (.flat (.int .u32 x48))) 2 (.flat (.int .u32 x49))) 3 (.flat (.int .u32 0))) 4 (.flat (.int .u32 x50)), 23, false⟩ fun b52 m51 => kn (.sl b52 0 5 (.ex 5)) m51) (kif (x_14 == 5) (ldI .u32 m b_0 (o_0 + 18 + 0) fun x53 => ldI .u32 m b_0 (o_0 + 18 + 1) fun x54 => ldI .u32 m b_0 (o_0 + 18 + 2) fun x55 => ldI .u32 m b_0 (o_0 + 18 + 3) fun x56 => newK m ⟨4, upd (upd (upd (upd (lget [(.flat (.int .u32 0)), (.flat (.int .u32 0)), (.flat (.int .u32 0)), (.flat (.int .u32 0))]) 0 (.flat (.int .u32 x53))) 1 (.flat (.int .u32 x54))) 2 (.flat (.int .u32 x55))) 3 (.flat (.int .u32 x56)), 23, false⟩ fun b58 m57 => kn (.sl b58 0 4 (.ex 4)) m57) (kn v_10 m))))

/-- (*pianola/pianolaref15.Bus).Word -/
def F95 (b_0 o_0 : Nat) (x_1 : Int) (x_2 : Int) (x_3 : Int) (m : Mem) (k : Int → Bool → Mem → Prop) : Prop :=
  newK m ⟨0, lget [], 23, false⟩ fun b2 m1 => kif (x_1 == 0) (ldI .u32 m1 b_0 (o_0 + 23) fun x3 => ldI .u32 m1 b_0 (o_0 + 24) fun x4 => newK m1 ⟨4, upd (upd (upd (upd (lget [(.flat (.int .u32 0)), (.flat (.int .u32 0)), (.flat (.int .u32 0)), (.flat (.int .u32 0))]) 0 (.flat (.int .u32 x3))) 1 (.flat (.int .u32 x4))) 2 (.flat (.int .u32 (IntKind.wrap .u32 (IntKind.wrap .u64 x_3))))) 3 (.flat (.int .u32 (IntKind.wrap .u32 ((IntKind.wrap .u64 x_3).fdiv 4294967296)))), 23, false⟩ fun b6 m5 => P95_18103 b_0 o_0 x_1 x_2 (.sl b6 0 4 (.ex 4)) m5 (fun x90 x91 m92 => k x90 x91 m92)) (kif (x_1 == 1) (P95_7004 b_0 o_0 x_1 x_2 (.sl b2 0 0 (.ex 0)) x_1 (x_1 == 1) m1 (fun v59 m60 => P95_18103 b_0 o_0 x_1 x_2 v59 m60 (fun x93 x94 m95 => k x93 x94 m95))) (P95_7004 b_0 o_0 x_1 x_2 (.sl b2 0 0 (.ex 0)) x_1 (x_1 == 2) m1 (fun v61 m62 => P95_18103 b_0 o_0 x_1 x_2 v61 m62 (fun x96 x97 m98 => k x96 x97 m98))))

def G95 (args : List AV) (m : Mem) (k : KV) : Prop := match args with
  | [a0, a1, a2, a3] => kptr a0 fun b_0 o_0 => kI .i64 a1 fun x_1 => kI .u32 a2 fun x_2 => kI .i64 a3 fun x_3 => F95 b_0 o_0 x_1 x_2 x_3 m (fun x_1000 x_1001 m' => k (.tup [(.flat (.int .u32 x_1000)), (.flat (.bool x_1001))]) m')
  | _ => False

def LamP95_7004 (σ : Nat → AV) (m : Mem) (k : KX) : Prop := kptr (σ 0) fun b_0 o_0 => kI .i64 (σ 1) fun x_1 => kI .u32 (σ 2) fun x_2 => kI .i64 (σ 14) fun x_14 => kbool (σ 33) fun x_33 => P95_7004 b_0 o_0 x_1 x_2 (σ 10) x_14 x_33 m (fun v_10' m' => k .normal (only [0, 1, 2, 10] [(.ptr b_0 o_0), (.flat (.int .i64 x_1)), (.flat (.int .u32 x_2)), v_10']) m')

def LamP95_13002 (σ : Nat → AV) (m : Mem) (k : KX) : Prop := kptr (σ 0) fun b_0 o_0 => kI .i64 (σ 1) fun x_1 => kI .u32 (σ 2) fun x_2 => kI .u32 (σ 12) fun x_12 => P95_13002 b_0 o_0 x_1 x_2 x_12 m (fun v_10' m' => k .normal (only [0, 1, 2, 10] [(.ptr b_0 o_0), (.flat (.int .i64 x_1)), (.flat (.int .u32 x_2)), v_10']) m')

def LamP95_18103 (σ : Nat → AV) (m : Mem) (k : KX) : Prop := kptr (σ 0) fun b_0 o_0 => kI .i64 (σ 1) fun x_1 => kI .u32 (σ 2) fun x_2 => P95_18103 b_0 o_0 x_1 x_2 (σ 10) m (fun x_8' x_9' m' => k .ret (only [8, 9] [(.flat (.int .u32 x_8')), (.flat (.bool x_9'))]) m')

def LamP95_21004 (σ : Nat → AV) (m : Mem) (k : KX) : Prop := kptr (σ 0) fun b_0 o_0 => kI .u32 (σ 2) fun x_2 => kbool (σ 178) fun x_178 => P95_21004 b_0 o_0 x_2 (σ 10) x_178 m (fun m' => k .normal (only [2, 10] [(.flat (.int .u32 x_2)), (σ 10)]) m')

def LamP95_22102 (σ : Nat → AV) (m : Mem) (k : KX) : Prop := kI .u32 (σ 2) fun x_2 => P95_22102 x_2 (σ 10) m (fun x_8' x_9' m' => k .ret (only [8, 9] [(.flat (.int .u32 x_8')), (.flat (.bool x_9'))]) m')

def Lam95 : LEnv := ⟨fun a σ m k => match firstReg a with
  | _ => bump False,
  fun id => match id with
  | 13 => true
  | _ => bump false,
  fun b => match keyC b with
  | some 7004 => true
  | some 13002 => true
  | some 18103 => true
  | some 21004 => true
  | some 22102 => true
  | _ => bump false,
  fun b σ m k => match keyC b with
  | some 7004 => LamP95_7004 σ m k
  | some 13002 => LamP95_13002 σ m k
  | some 18103 => LamP95_18103 σ m k
  | some 21004 => LamP95_21004 σ m k
  | some 22102 => LamP95_22102 σ m k
  | _ => bump False⟩

def lxp95_22102 : Ex → List Nat := fun e => match e with
  | .ret => [8, 9]
  | _ => []

theorem pc95_22102 (x_2 : Int) (v_10 : AV) (m : Mem) (k : KX) : once Tryz.prog E95 Lam95 [2, 10] lxp95_22102 (((secsOf (bodyOf Tryz.f95)).filter Lam95.cut).getD 3 .skip) [(.flat (.int .u32 x_2)), v_10] m k = P95_22102 x_2 v_10 m (fun x_8' x_9' m' => k .ret (only [8, 9] [(.flat (.int .u32 x_8')), (.flat (.bool x_9'))]) m') := by
  kernel_rfl

theorem pok95_22102 : PieceOK Tryz.prog E95 Lam95 (((secsOf (bodyOf Tryz.f95)).filter Lam95.cut).getD 3 .skip) := by
  refine ⟨fun σ => ∃ x_2 v_10, σ 2 = .flat (.int .u32 x_2) ∧ σ 10 = v_10, [2, 10], lxp95_22102, fun σ m k => ?_⟩
  have e : Lam95.piece (((secsOf (bodyOf Tryz.f95)).filter Lam95.cut).getD 3 .skip) σ m k = LamP95_22102 σ m k := by kernel_rfl
  rw [e]
  constructor
  · intro h
    unfold LamP95_22102 at h
    obtain ⟨x_2, h0, h⟩ := kI_ok h
    obtain ⟨v_10, h1⟩ : ∃ v, σ 10 = v := ⟨_, rfl⟩
    refine ⟨⟨x_2, v_10, h0, h1⟩, ?_⟩
    have ev : [2, 10].map σ = [(.flat (.int .u32 x_2)), v_10] := by simp only [List.map_cons, List.map_nil, h0, h1]
    rw [ev, pc95_22102]
    simp only [h1] at h
    exact h
  · rintro ⟨⟨x_2, v_10, h0, h1⟩, h⟩
    have ev : [2, 10].map σ = [(.flat (.int .u32 x_2)), v_10] := by simp only [List.map_cons, List.map_nil, h0, h1]
    rw [ev, pc95_22102] at h
    unfold LamP95_22102
    try simp only [h0, h1, kI, kbool, kS, kptr, kaggN, kite, decide_true, eq_self]
    exact h

def lxp95_21004 : Ex → List Nat := fun e => match e with
  | .normal => [2, 10]
  | _ => []

theorem pc95_21004 (b_0 o_0 : Nat) (x_2 : Int) (v_10 : AV) (x_178 : Bool) (m : Mem) (k : KX) : once Tryz.prog E95 Lam95 [0, 2, 10, 178] lxp95_21004 (((secsOf (bodyOf Tryz.f95)).filter Lam95.cut).getD 4 .skip) [(.ptr b_0 o_0), (.flat (.int .u32 x_2)), v_10, (.flat (.bool x_178))] m k = P95_21004 b_0 o_0 x_2 v_10 x_178 m (fun m' => k .normal (only [2, 10] [(.flat (.int .u32 x_2)), v_10]) m') := by
  kernel_rfl

theorem pok95_21004 : PieceOK Tryz.prog E95 Lam95 (((secsOf (bodyOf Tryz.f95)).filter Lam95.cut).getD 4 .skip) := by
  refine ⟨fun σ => ∃ b_0 o_0 x_2 v_10 x_178, σ 0 = .ptr b_0 o_0 ∧ σ 2 = .flat (.int .u32 x_2) ∧ σ 10 = v_10 ∧ σ 178 = .flat (.bool x_178), [0, 2, 10, 178], lxp95_21004, fun σ m k => ?_⟩
  have e : Lam95.piece (((secsOf (bodyOf Tryz.f95)).filter Lam95.cut).getD 4 .skip) σ m k = LamP95_21004 σ m k := by kernel_rfl
  rw [e]
  constructor
  · intro h
    unfold LamP95_21004 at h
    obtain ⟨b_0, o_0, h0, h⟩ := kptr_ok h
    obtain ⟨x_2, h1, h⟩ := kI_ok h
    obtain ⟨v_10, h2⟩ : ∃ v, σ 10 = v := ⟨_, rfl⟩
    obtain ⟨x_178, h3, h⟩ := kbool_ok h
    refine ⟨⟨b_0, o_0, x_2, v_10, x_178, h0, h1, h2, h3⟩, ?_⟩
    have ev : [0, 2, 10, 178].map σ = [(.ptr b_0 o_0), (.flat (.int .u32 x_2)), v_10, (.flat (.bool x_178))] := by simp only [List.map_cons, List.map_nil, h0, h1, h2, h3]
    rw [ev, pc95_21004]
    simp only [h2] at h
    exact h
  · rintro ⟨⟨b_0, o_0, x_2, v_10, x_178, h0, h1, h2, h3⟩, h⟩
    have ev : [0, 2, 10, 178].map σ = [(.ptr b_0 o_0), (.flat (.int .u32 x_2)), v_10, (.flat (.bool x_178))] := by simp only [List.map_cons, List.map_nil, h0, h1, h2, h3]
    rw [ev, pc95_21004] at h
    unfold LamP95_21004
    try simp only [h0, h1, h2, h3, kI, kbool, kS, kptr, kaggN, kite, decide_true, eq_self]
    exact h

def lxp95_18103 : Ex → List Nat := fun e => match e with
  | .ret => [8, 9]
  | _ => []

theorem pc95_18103 (b_0 o_0 : Nat) (x_1 : Int) (x_2 : Int) (v_10 : AV) (m : Mem) (k : KX) : once Tryz.prog E95 Lam95 [0, 1, 2, 10] lxp95_18103 (((secsOf (bodyOf Tryz.f95)).filter Lam95.cut).getD 0 .skip) [(.ptr b_0 o_0), (.flat (.int .i64 x_1)), (.flat (.int .u32 x_2)), v_10] m k = P95_18103 b_0 o_0 x_1 x_2 v_10 m (fun x_8' x_9' m' => k .ret (only [8, 9] [(.flat (.int .u32 x_8')), (.flat (.bool x_9'))]) m') := by
  kernel_rfl

theorem pok95_18103 : PieceOK Tryz.prog E95 Lam95 (((secsOf (bodyOf Tryz.f95)).filter Lam95.cut).getD 0 .skip) := by
  refine ⟨fun σ => ∃ b_0 o_0 x_1 x_2 v_10, σ 0 = .ptr b_0 o_0 ∧ σ 1 = .flat (.int .i64 x_1) ∧ σ 2 = .flat (.int .u32 x_2) ∧ σ 10 = v_10, [0, 1, 2, 10], lxp95_18103, fun σ m k => ?_⟩
  have e : Lam95.piece (((secsOf (bodyOf Tryz.f95)).filter Lam95.cut).getD 0 .skip) σ m k = LamP95_18103 σ m k := by kernel_rfl
  rw [e]
  constructor
  · intro h
    unfold LamP95_18103 at h
    obtain ⟨b_0, o_0, h0, h⟩ := kptr_ok h
    obtain ⟨x_1, h1, h⟩ := kI_ok h
    obtain ⟨x_2, h2, h⟩ := kI_ok h
    obtain ⟨v_10, h3⟩ : ∃ v, σ 10 = v := ⟨_, rfl⟩
    refine ⟨⟨b_0, o_0, x_1, x_2, v_10, h0, h1, h2, h3⟩, ?_⟩
    have ev : [0, 1, 2, 10].map σ = [(.ptr b_0 o_0), (.flat (.int .i64 x_1)), (.flat (.int .u32 x_2)), v_10] := by simp only [List.map_cons, List.map_nil, h0, h1, h2, h3]
    rw [ev, pc95_18103]
    simp only [h3] at h
    exact h
  · rintro ⟨⟨b_0, o_0, x_1, x_2, v_10, h0, h1, h2, h3⟩, h⟩
    have ev : [0, 1, 2, 10].map σ = [(.ptr b_0 o_0), (.flat (.int .i64 x_1)), (.flat (.int .u32 x_2)), v_10] := by simp only [List.map_cons, List.map_nil, h0, h1, h2, h3]
    rw [ev, pc95_18103] at h
    unfold LamP95_18103
    try simp only [h0, h1, h2, h3, kI, kbool, kS, kptr, kaggN, kite, decide_true, eq_self]
    exact h

def lxp95_13002 : Ex → List Nat := fun e => match e with
  | .normal => [0, 1, 2, 10]
  | _ => []

theorem pc95_13002 (b_0 o_0 : Nat) (x_1 : Int) (x_2 : Int) (x_12 : Int) (m : Mem) (k : KX) : once Tryz.prog E95 Lam95 [0, 1, 2, 12] lxp95_13002 (((secsOf (bodyOf Tryz.f95)).filter Lam95.cut).getD 2 .skip) [(.ptr b_0 o_0), (.flat (.int .i64 x_1)), (.flat (.int .u32 x_2)), (.flat (.int .u32 x_12))] m k = P95_13002 b_0 o_0 x_1 x_2 x_12 m (fun v_10' m' => k .normal (only [0, 1, 2, 10] [(.ptr b_0 o_0), (.flat (.int .i64 x_1)), (.flat (.int .u32 x_2)), v_10']) m') := by
  kernel_rfl

theorem pok95_13002 : PieceOK Tryz.prog E95 Lam95 (((secsOf (bodyOf Tryz.f95)).filter Lam95.cut).getD 2 .skip) := by
  refine ⟨fun σ => ∃ b_0 o_0 x_1 x_2 x_12, σ 0 = .ptr b_0 o_0 ∧ σ 1 = .flat (.int .i64 x_1) ∧ σ 2 = .flat (.int .u32 x_2) ∧ σ 12 = .flat (.int .u32 x_12), [0, 1, 2, 12], lxp95_13002, fun σ m k => ?_⟩
  have e : Lam95.piece (((secsOf (bodyOf Tryz.f95)).filter Lam95.cut).getD 2 .skip) σ m k = LamP95_13002 σ m k := by kernel_rfl
  rw [e]
  constructor
  · intro h
    unfold LamP95_13002 at h
    obtain ⟨b_0, o_0, h0, h⟩ := kptr_ok h
    obtain ⟨x_1, h1, h⟩ := kI_ok h
    obtain ⟨x_2, h2, h⟩ := kI_ok h
    obtain ⟨x_12, h3, h⟩ := kI_ok h
    refine ⟨⟨b_0, o_0, x_1, x_2, x_12, h0, h1, h2, h3⟩, ?_⟩
    have ev : [0, 1, 2, 12].map σ = [(.ptr b_0 o_0), (.flat (.int .i64 x_1)), (.flat (.int .u32 x_2)), (.flat (.int .u32 x_12))] := by simp only [List.map_cons, List.map_nil, h0, h1, h2, h3]
    rw [ev, pc95_13002]
    exact h
  · rintro ⟨⟨b_0, o_0, x_1, x_2, x_12, h0, h1, h2, h3⟩, h⟩
    have ev : [0, 1, 2, 12].map σ = [(.ptr b_0 o_0), (.flat (.int .i64 x_1)), (.flat (.int .u32 x_2)), (.flat (.int .u32 x_12))] := by simp only [List.map_cons, List.map_nil, h0, h1, h2, h3]
    rw [ev, pc95_13002] at h
    unfold LamP95_13002
    try simp only [h0, h1, h2, h3, kI, kbool, kS, kptr, kaggN, kite, decide_true, eq_self]
    exact h

def lxp95_7004 : Ex → List Nat := fun e => match e with
  | .normal => [0, 1, 2, 10]
  | _ => []

theorem pc95_7004 (b_0 o_0 : Nat) (x_1 : Int) (x_2 : Int) (v_10 : AV) (x_14 : Int) (x_33 : Bool) (m : Mem) (k : KX) : once Tryz.prog E95 Lam95 [0, 1, 2, 10, 14, 33] lxp95_7004 (((secsOf (bodyOf Tryz.f95)).filter Lam95.cut).getD 1 .skip) [(.ptr b_0 o_0), (.flat (.int .i64 x_1)), (.flat (.int .u32 x_2)), v_10, (.flat (.int .i64 x_14)), (.flat (.bool x_33))] m k = P95_7004 b_0 o_0 x_1 x_2 v_10 x_14 x_33 m (fun v_10' m' => k .normal (only [0, 1, 2, 10] [(.ptr b_0 o_0), (.flat (.int .i64 x_1)), (.flat (.int .u32 x_2)), v_10']) m') := by
  kernel_rfl

theorem pok95_7004 : PieceOK Tryz.prog E95 Lam95 (((secsOf (bodyOf Tryz.f95)).filter Lam95.cut).getD 1 .skip) := by
  refine ⟨fun σ => ∃ b_0 o_0 x_1 x_2 v_10 x_14 x_33, σ 0 = .ptr b_0 o_0 ∧ σ 1 = .flat (.int .i64 x_1) ∧ σ 2 = .flat (.int .u32 x_2) ∧ σ 10 = v_10 ∧ σ 14 = .flat (.int .i64 x_14) ∧ σ 33 = .flat (.bool x_33), [0, 1, 2, 10, 14, 33], lxp95_7004, fun σ m k => ?_⟩
  have e : Lam95.piece (((secsOf (bodyOf Tryz.f95)).filter Lam95.cut).getD 1 .skip) σ m k = LamP95_7004 σ m k := by kernel_rfl
  rw [e]
  constructor
  · intro h
    unfold LamP95_7004 at h
    obtain ⟨b_0, o_0, h0, h⟩ := kptr_ok h
    obtain ⟨x_1, h1, h⟩ := kI_ok h
    obtain ⟨x_2, h2, h⟩ := kI_ok h
    obtain ⟨v_10, h3⟩ : ∃ v, σ 10 = v := ⟨_, rfl⟩
    obtain ⟨x_14, h4, h⟩ := kI_ok h
    obtain ⟨x_33, h5, h⟩ := kbool_ok h
    refine ⟨⟨b_0, o_0, x_1, x_2, v_10, x_14, x_33, h0, h1, h2, h3, h4, h5⟩, ?_⟩
    have ev : [0, 1, 2, 10, 14, 33].map σ = [(.ptr b_0 o_0), (.flat (.int .i64 x_1)), (.flat (.int .u32 x_2)), v_10, (.flat (.int .i64 x_14)), (.flat (.bool x_33))] := by simp only [List.map_cons, List.map_nil, h0, h1, h2, h3, h4, h5]
    rw [ev, pc95_7004]
    simp only [h3] at h
    exact h
  · rintro ⟨⟨b_0, o_0, x_1, x_2, v_10, x_14, x_33, h0, h1, h2, h3, h4, h5⟩, h⟩
    have ev : [0, 1, 2, 10, 14, 33].map σ = [(.ptr b_0 o_0), (.flat (.int .i64 x_1)), (.flat (.int .u32 x_2)), v_10, (.flat (.int .i64 x_14)), (.flat (.bool x_33))] := by simp only [List.map_cons, List.map_nil, h0, h1, h2, h3, h4, h5]
    rw [ev, pc95_7004] at h
    unfold LamP95_7004
    try simp only [h0, h1, h2, h3, h4, h5, kI, kbool, kS, kptr, kaggN, kite, decide_true, eq_self]
    exact h

theorem eqn95 (b_0 o_0 : Nat) (x_1 : Int) (x_2 : Int) (x_3 : Int) (m : Mem) (k : KV) : bodyK Tryz.prog E95 Lam95 Tryz.f95 false [(.ptr b_0 o_0), (.flat (.int .i64 x_1)), (.flat (.int .u32 x_2)), (.flat (.int .i64 x_3))] m k = F95 b_0 o_0 x_1 x_2 x_3 m (fun x_1000 x_1001 m' => k (.tup [(.flat (.int .u32 x_1000)), (.flat (.bool x_1001))]) m') := by
  kernel_rfl

theorem fs95 (w0 : World) : FS Tryz.prog w0 95 G95 := by
  refine (fs_body (Γ := E95) (sound_env (l := [(111, G111)]) w0 (by
    intro p hp
    simp only [List.mem_cons, List.not_mem_nil, or_false] at hp
    rcases hp with rfl
    · exact fs111 w0)) (by kernel_rfl) Tryz.func95 (Λ := Lam95) (c := (bodyOf Tryz.f95)) (by kernel_rfl) Tryz.call95 (by kernel_rfl) (LS_of (bodyOf Tryz.f95) 0 (by kernel_rfl) (fun i hi => absurd hi (Nat.not_lt_zero i)) 5 (by kernel_rfl) (by
    intro i hi
    match i, hi with
    | 0, _ => exact pok95_18103
    | 1, _ => exact pok95_7004
    | 2, _ => exact pok95_13002
    | 3, _ => exact pok95_22102
    | 4, _ => exact pok95_21004
    | i + 5, hi => omega)) false (np := 4) (Nat.le_of_ble_eq_true (by kernel_rfl))).imp fun args => ?_
  by_cases hl : args.length = 4
  rotate_left
  · exact .inr fun m k hk => by
      unfold G95 at hk
      split at hk
      · exact hl rfl
      · exact hk
  obtain ⟨a0, a1, a2, a3, rfl⟩ : ∃ a0 a1 a2 a3, args = [a0, a1, a2, a3] := len_list4 hl
  rcases kptr_or a0 with ⟨b_0, o_0, rfl⟩ | h
  rotate_left
  · exact .inr fun m k hk => h _ (by simpa only [G95, kI, kbool, kS, kptr, kaggN, kite, decide_true, eq_self] using hk)
  rcases kI_or .i64 a1 with ⟨x_1, rfl⟩ | h
  rotate_left
  · exact .inr fun m k hk => h _ (by simpa only [G95, kI, kbool, kS, kptr, kaggN, kite, decide_true, eq_self] using hk)
  rcases kI_or .u32 a2 with ⟨x_2, rfl⟩ | h
  rotate_left
  · exact .inr fun m k hk => h _ (by simpa only [G95, kI, kbool, kS, kptr, kaggN, kite, decide_true, eq_self] using hk)
  rcases kI_or .i64 a3 with ⟨x_3, rfl⟩ | h
  rotate_left
  · exact .inr fun m k hk => h _ (by simpa only [G95, kI, kbool, kS, kptr, kaggN, kite, decide_true, eq_self] using hk)
  exact .inl fun m k => propext ⟨fun h => ⟨rfl, by rw [eqn95]; simpa only [G95, kI, kbool, kS, kptr, kaggN, kite, decide_true, eq_self] using h⟩, fun h => by have h := h.2; rw [eqn95] at h; simpa only [G95, kI, kbool, kS, kptr, kaggN, kite, decide_true, eq_self] using h⟩

end Go.Proofs.YtkgidjnaddjjbaaGreat.Am
