/- What Go functions ask of what follows them, as plain functions over the abstract machine; the machine asks just that. Written by gen.py. -/
import Derived.Test.YtppikpjmlbaccaaProg
import Derived.Test.YtppikpjmlbaccaaAmL
import Derived.Test.YtppikpjmlbaccaaM0
namespace Go.Proofs.Ytppikpjmlbaccaa.Am
set_option linter.unusedVariables false
set_option linter.unusedSimpArgs false
set_option maxRecDepth 100000

def R30_6 (x_0 : Int) (x_7 : Int) (v_26 : AV) (x_27 : Int) (x_3 : Int) (x_28 : Int) (m : Mem) (kn : Int → Int → Mem → Prop) (k2 : Int → Mem → Prop) (k0 : Int → Mem → Prop) : Prop :=
  kif (decide (x_28 < x_27)) (ksl v_26 fun b3 o4 l5 p6 => kif (decide (0 ≤ x_28) && decide (x_28 < l5)) (ldI .u32 m b3 (o4 + (x_28).toNat * 1) fun x7 => F37 x7 m fun x8 m9 => kif (x8 == x_0) (k0 x7 m9) (kn x_3 (IntKind.wrap .i64 (x_28 + 1)) m9)) False) (k2 x_3 m)

def L30_6 (x_0 : Int) (x_7 : Int) (v_26 : AV) (x_27 : Int) : Nat → Int → Int → Mem → (Int → Mem → Prop) → (Int → Mem → Prop) → Prop
  | 0, _, _,  _, _, _ => bump False
  | N + 1, x_3, x_28,  m, k2, k0 => R30_6 x_0 x_7 v_26 x_27 x_3 x_28 m (fun x_3' x_28' m' => L30_6 x_0 x_7 v_26 x_27 N x_3' x_28' m' k2 k0) k2 k0

def R30_3 (x_0 : Int) (x_3 : Int) (x_7 : Int) (m : Mem) (kn : Int → Int → Mem → Prop) (k0 : Int → Mem → Prop) : Prop :=
  kif (decide (x_7 < 64)) (newK m ⟨6, upd (upd (upd (upd (upd (upd (Z6b) 0 (.flat (.int .u32 (IntKind.wrap .u32 (x_7 * 67108864))))) 1 (.flat (.int .u32 (bits .or .u32 0 x_7)))) 2 (.flat (.int .u32 (bits .or .u32 67108864 (IntKind.wrap .u32 ((bits .and .u32 x_7 31) * 65536)))))) 3 (.flat (.int .u32 (bits .or .u32 1073741824 (IntKind.wrap .u32 ((bits .and .u32 x_7 31) * 2097152)))))) 4 (.flat (.int .u32 (bits .or .u32 1107296256 x_7)))) 5 (.flat (.int .u32 (bits .or .u32 1879048192 x_7))), 23, false⟩ fun b2 m1 => ∃ N14, L30_6 x_0 x_7 (.sl b2 0 6 (.ex 6)) 6 N14 x_3 0 m1 (fun x10 m11 => kn x10 (IntKind.wrap .u32 (x_7 + 1)) m11) (fun x12 m13 => k0 x12 m13)) (k0 x_3 m)

def L30_3 (x_0 : Int) : Nat → Int → Int → Mem → (Int → Mem → Prop) → Prop
  | 0, _, _,  _, _ => bump False
  | N + 1, x_3, x_7,  m, k0 => R30_3 x_0 x_3 x_7 m (fun x_3' x_7' m' => L30_3 x_0 N x_3' x_7' m' k0) k0

/-- pianola/decode.head -/
def F30 (x_0 : Int) (m : Mem) (k : Int → Mem → Prop) : Prop :=
  ∃ N17, L30_3 x_0 N17 0 0 m (fun x15 m16 => (Keeps m m16 ∧ k x15 m))

def G30 (args : List AV) (m : Mem) (k : KV) : Prop := match args with
  | [a0] => kI .i64 a0 fun x_0 => F30 x_0 m (fun x_1000 m' => k (.flat (.int .u32 x_1000)) m')
  | _ => False

def E30 : Env := envOf [(37, G37)]

def Lam30_3 (σ : Nat → AV) (m : Mem) (k : KX) : Prop := kI .i64 (σ 0) fun x_0 => kI .u32 (σ 3) fun x_3 => kI .u32 (σ 7) fun x_7 => ∃ N, L30_3 x_0 N x_3 x_7 m (fun x_3' m' => k (.exit 0) (only [3] [(.flat (.int .u32 x_3'))]) m')

def Lam30_6 (σ : Nat → AV) (m : Mem) (k : KX) : Prop := kI .i64 (σ 0) fun x_0 => kI .u32 (σ 3) fun x_3 => kI .u32 (σ 7) fun x_7 => kI .i64 (σ 27) fun x_27 => kI .i64 (σ 28) fun x_28 => ∃ N, L30_6 x_0 x_7 (σ 26) x_27 N x_3 x_28 m (fun x_3' m' => k (.exit 2) (only [0, 3, 7] [(.flat (.int .i64 x_0)), (.flat (.int .u32 x_3')), (.flat (.int .u32 x_7))]) m') (fun x_3' m' => k (.exit 0) (only [3] [(.flat (.int .u32 x_3'))]) m')

def Lam30 : LEnv := ⟨fun a σ m k => match firstReg a with
  | some 3 => Lam30_3 σ m k
  | some 6 => Lam30_6 σ m k
  | _ => bump False,
  fun id => match id with
  | _ => bump false,
  fun b => match keyC b with
  | _ => bump false,
  fun b σ m k => match keyC b with
  | _ => bump False⟩

def lx30_6 : Ex → List Nat := fun e => match e with
  | .exit 2 => [0, 3, 7]
  | .exit 0 => [3]
  | _ => []

theorem round30_6 (x_0 : Int) (x_7 : Int) (v_26 : AV) (x_27 : Int) (x_3 : Int) (x_28 : Int) (m : Mem) (G : List AV → Mem → Prop) (k : KX) : (wpA Try.prog E30 Lam30 ((loopsOf (bodyOf Try.f30)).getD 1 .skip) (only [0, 3, 7, 26, 27, 28] [(.flat (.int .i64 x_0)), (.flat (.int .u32 x_3)), (.flat (.int .u32 x_7)), v_26, (.flat (.int .i64 x_27)), (.flat (.int .i64 x_28))]) m fun e σ' m' => match e with
    | .normal => G ([0, 3, 7, 26, 27, 28].map σ') m'
    | .exit id => k (.exit id) (only (lx30_6 (.exit id)) ((lx30_6 (.exit id)).map σ')) m'
    | .ret => k .ret (only (lx30_6 .ret) ((lx30_6 .ret).map σ')) m') = R30_6 x_0 x_7 v_26 x_27 x_3 x_28 m (fun x_3' x_28' m' => G [(.flat (.int .i64 x_0)), (.flat (.int .u32 x_3')), (.flat (.int .u32 x_7)), v_26, (.flat (.int .i64 x_27)), (.flat (.int .i64 x_28'))] m') (fun x_3' m' => k (.exit 2) (only [0, 3, 7] [(.flat (.int .i64 x_0)), (.flat (.int .u32 x_3')), (.flat (.int .u32 x_7))]) m') (fun x_3' m' => k (.exit 0) (only [3] [(.flat (.int .u32 x_3'))]) m') := by
  kernel_rfl

theorem loop30_6 (x_0 : Int) (x_7 : Int) (v_26 : AV) (x_27 : Int) (k : KX) : ∀ (N : Nat) (x_3 : Int) (x_28 : Int) (m : Mem), rounds Try.prog E30 Lam30 [0, 3, 7, 26, 27, 28] lx30_6 ((loopsOf (bodyOf Try.f30)).getD 1 .skip) N [(.flat (.int .i64 x_0)), (.flat (.int .u32 x_3)), (.flat (.int .u32 x_7)), v_26, (.flat (.int .i64 x_27)), (.flat (.int .i64 x_28))] m k = L30_6 x_0 x_7 v_26 x_27 N x_3 x_28 m (fun x_3' m' => k (.exit 2) (only [0, 3, 7] [(.flat (.int .i64 x_0)), (.flat (.int .u32 x_3')), (.flat (.int .u32 x_7))]) m') (fun x_3' m' => k (.exit 0) (only [3] [(.flat (.int .u32 x_3'))]) m') := by
  intro N
  induction N with
  | zero => intros; rfl
  | succ N ih =>
    intro x_3 x_28 m
    refine (round30_6 x_0 x_7 v_26 x_27 x_3 x_28 m (fun vs m' => rounds Try.prog E30 Lam30 [0, 3, 7, 26, 27, 28] lx30_6 ((loopsOf (bodyOf Try.f30)).getD 1 .skip) N vs m' k) k).trans ?_
    simp only [ih]
    rfl

theorem lok30_6 : LoopOK Try.prog E30 Lam30 ((loopsOf (bodyOf Try.f30)).getD 1 .skip) := by
  refine ⟨fun σ => ∃ x_0 x_3 x_7 v_26 x_27 x_28, σ 0 = .flat (.int .i64 x_0) ∧ σ 3 = .flat (.int .u32 x_3) ∧ σ 7 = .flat (.int .u32 x_7) ∧ σ 26 = v_26 ∧ σ 27 = .flat (.int .i64 x_27) ∧ σ 28 = .flat (.int .i64 x_28), [0, 3, 7, 26, 27, 28], lx30_6, fun σ m k => ?_⟩
  have e : Lam30.loop ((loopsOf (bodyOf Try.f30)).getD 1 .skip) σ m k = Lam30_6 σ m k := by kernel_rfl
  rw [e]
  constructor
  · intro h
    unfold Lam30_6 at h
    obtain ⟨x_0, h0, h⟩ := kI_ok h
    obtain ⟨x_3, h1, h⟩ := kI_ok h
    obtain ⟨x_7, h2, h⟩ := kI_ok h
    obtain ⟨v_26, h3⟩ : ∃ v, σ 26 = v := ⟨_, rfl⟩
    obtain ⟨x_27, h4, h⟩ := kI_ok h
    obtain ⟨x_28, h5, h⟩ := kI_ok h
    obtain ⟨N, h⟩ := h
    refine ⟨⟨x_0, x_3, x_7, v_26, x_27, x_28, h0, h1, h2, h3, h4, h5⟩, N, ?_⟩
    have ev : [0, 3, 7, 26, 27, 28].map σ = [(.flat (.int .i64 x_0)), (.flat (.int .u32 x_3)), (.flat (.int .u32 x_7)), v_26, (.flat (.int .i64 x_27)), (.flat (.int .i64 x_28))] := by simp only [List.map_cons, List.map_nil, h0, h1, h2, h3, h4, h5]
    rw [ev, loop30_6]
    simp only [h3] at h
    exact h
  · rintro ⟨⟨x_0, x_3, x_7, v_26, x_27, x_28, h0, h1, h2, h3, h4, h5⟩, N, h⟩
    have ev : [0, 3, 7, 26, 27, 28].map σ = [(.flat (.int .i64 x_0)), (.flat (.int .u32 x_3)), (.flat (.int .u32 x_7)), v_26, (.flat (.int .i64 x_27)), (.flat (.int .i64 x_28))] := by simp only [List.map_cons, List.map_nil, h0, h1, h2, h3, h4, h5]
    rw [ev, loop30_6] at h
    unfold Lam30_6
    try simp only [h0, h1, h2, h3, h4, h5, kI, kbool, kS, kptr, kaggN, kite, decide_true, eq_self]
    exact ⟨N, h⟩

def lx30_3 : Ex → List Nat := fun e => match e with
  | .exit 0 => [3]
  | _ => []

theorem round30_3 (x_0 : Int) (x_3 : Int) (x_7 : Int) (m : Mem) (G : List AV → Mem → Prop) (k : KX) : (wpA Try.prog E30 Lam30 ((loopsOf (bodyOf Try.f30)).getD 0 .skip) (only [0, 3, 7] [(.flat (.int .i64 x_0)), (.flat (.int .u32 x_3)), (.flat (.int .u32 x_7))]) m fun e σ' m' => match e with
    | .normal => G ([0, 3, 7].map σ') m'
    | .exit id => k (.exit id) (only (lx30_3 (.exit id)) ((lx30_3 (.exit id)).map σ')) m'
    | .ret => k .ret (only (lx30_3 .ret) ((lx30_3 .ret).map σ')) m') = R30_3 x_0 x_3 x_7 m (fun x_3' x_7' m' => G [(.flat (.int .i64 x_0)), (.flat (.int .u32 x_3')), (.flat (.int .u32 x_7'))] m') (fun x_3' m' => k (.exit 0) (only [3] [(.flat (.int .u32 x_3'))]) m') := by
  kernel_rfl

theorem loop30_3 (x_0 : Int) (k : KX) : ∀ (N : Nat) (x_3 : Int) (x_7 : Int) (m : Mem), rounds Try.prog E30 Lam30 [0, 3, 7] lx30_3 ((loopsOf (bodyOf Try.f30)).getD 0 .skip) N [(.flat (.int .i64 x_0)), (.flat (.int .u32 x_3)), (.flat (.int .u32 x_7))] m k = L30_3 x_0 N x_3 x_7 m (fun x_3' m' => k (.exit 0) (only [3] [(.flat (.int .u32 x_3'))]) m') := by
  intro N
  induction N with
  | zero => intros; rfl
  | succ N ih =>
    intro x_3 x_7 m
    refine (round30_3 x_0 x_3 x_7 m (fun vs m' => rounds Try.prog E30 Lam30 [0, 3, 7] lx30_3 ((loopsOf (bodyOf Try.f30)).getD 0 .skip) N vs m' k) k).trans ?_
    simp only [ih]
    rfl

theorem lok30_3 : LoopOK Try.prog E30 Lam30 ((loopsOf (bodyOf Try.f30)).getD 0 .skip) := by
  refine ⟨fun σ => ∃ x_0 x_3 x_7, σ 0 = .flat (.int .i64 x_0) ∧ σ 3 = .flat (.int .u32 x_3) ∧ σ 7 = .flat (.int .u32 x_7), [0, 3, 7], lx30_3, fun σ m k => ?_⟩
  have e : Lam30.loop ((loopsOf (bodyOf Try.f30)).getD 0 .skip) σ m k = Lam30_3 σ m k := by kernel_rfl
  rw [e]
  constructor
  · intro h
    unfold Lam30_3 at h
    obtain ⟨x_0, h0, h⟩ := kI_ok h
    obtain ⟨x_3, h1, h⟩ := kI_ok h
    obtain ⟨x_7, h2, h⟩ := kI_ok h
    obtain ⟨N, h⟩ := h
    refine ⟨⟨x_0, x_3, x_7, h0, h1, h2⟩, N, ?_⟩
    have ev : [0, 3, 7].map σ = [(.flat (.int .i64 x_0)), (.flat (.int .u32 x_3)), (.flat (.int .u32 x_7))] := by simp only [List.map_cons, List.map_nil, h0, h1, h2]
    rw [ev, loop30_3]
    exact h
  · rintro ⟨⟨x_0, x_3, x_7, h0, h1, h2⟩, N, h⟩
    have ev : [0, 3, 7].map σ = [(.flat (.int .i64 x_0)), (.flat (.int .u32 x_3)), (.flat (.int .u32 x_7))] := by simp only [List.map_cons, List.map_nil, h0, h1, h2]
    rw [ev, loop30_3] at h
    unfold Lam30_3
    try simp only [h0, h1, h2, kI, kbool, kS, kptr, kaggN, kite, decide_true, eq_self]
    exact ⟨N, h⟩

theorem eqn30 (x_0 : Int) (m : Mem) (k : KV) : bodyK Try.prog E30 Lam30 Try.f30 true [(.flat (.int .i64 x_0))] m k = F30 x_0 m (fun x_1000 m' => k (.flat (.int .u32 x_1000)) m') := by
  kernel_rfl

theorem fs30 (w0 : World) : FS Try.prog w0 30 G30 := by
  refine (fs_body (Γ := E30) (sound_env (l := [(37, G37)]) w0 (by
    intro p hp
    simp only [List.mem_cons, List.not_mem_nil, or_false] at hp
    rcases hp with rfl
    · exact fs37 w0)) (by kernel_rfl) Try.func30 (Λ := Lam30) (c := (bodyOf Try.f30)) (by kernel_rfl) Try.call30 (by kernel_rfl) (LS_of (bodyOf Try.f30) 2 (by kernel_rfl) (by
    intro i hi
    match i, hi with
    | 0, _ => exact lok30_3
    | 1, _ => exact lok30_6
    | i + 2, hi => omega) 0 (by kernel_rfl) (fun i hi => absurd hi (Nat.not_lt_zero i))) true (np := 1) (Nat.le_of_ble_eq_true (by kernel_rfl))).imp fun args => ?_
  by_cases hl : args.length = 1
  rotate_left
  · exact .inr fun m k hk => by
      unfold G30 at hk
      split at hk
      · exact hl rfl
      · exact hk
  obtain ⟨a0, rfl⟩ : ∃ a0, args = [a0] := len_list1 hl
  rcases kI_or .i64 a0 with ⟨x_0, rfl⟩ | h
  rotate_left
  · exact .inr fun m k hk => h _ (by simpa only [G30, kI, kbool, kS, kptr, kaggN, kite, decide_true, eq_self] using hk)
  exact .inl fun m k => propext ⟨fun h => ⟨rfl, by rw [eqn30]; simpa only [G30, kI, kbool, kS, kptr, kaggN, kite, decide_true, eq_self] using h⟩, fun h => by have h := h.2; rw [eqn30] at h; simpa only [G30, kI, kbool, kS, kptr, kaggN, kite, decide_true, eq_self] using h⟩

/-- pianola/decode.Word -/
def F21 (c_0 : Nat → AV) (m : Mem) (k : Int → Bool → Mem → Prop) : Prop :=
  newK m ⟨6, c_0, 25, false⟩ fun b2 m1 => ldG 6 m1 b2 0 fun c3 => F29 c3 m1 fun x4 m5 => kif (!x4) ((Keeps m m5 ∧ k 0 false m)) (∃ Fr6 : Nat → Prop, Fr6 b2 ∧ (ldI .i64 m5 b2 0 fun x7 => F30 x7 m5 fun x8 m9 => KeepsIn Fr6 m5 m9 ∧ (Fr6 b2 ∧ (ldG 6 m9 b2 0 fun c10 => F31 c10 m9 fun x11 m12 => KeepsIn Fr6 m9 m12 ∧ ((Keeps m m12 ∧ k (bits .or .u32 x8 x11) true m))))))

def G21 (args : List AV) (m : Mem) (k : KV) : Prop := match args with
  | [a0] => kaggN 6 a0 fun c_0 => F21 c_0 m (fun x_1000 x_1001 m' => k (.tup [(.flat (.int .u32 x_1000)), (.flat (.bool x_1001))]) m')
  | _ => False

def E21 : Env := envOf [(29, G29), (30, G30), (31, G31)]

def Lam21 : LEnv := ⟨fun a σ m k => match firstReg a with
  | _ => bump False,
  fun id => match id with
  | 3 => true
  | _ => bump false,
  fun b => match keyC b with
  | _ => bump false,
  fun b σ m k => match keyC b with
  | _ => bump False⟩

theorem eqn21 (c_0 : Nat → AV) (m : Mem) (k : KV) : bodyK Try.prog E21 Lam21 Try.f21 true [(.agg 6 c_0)] m k = F21 c_0 m (fun x_1000 x_1001 m' => k (.tup [(.flat (.int .u32 x_1000)), (.flat (.bool x_1001))]) m') := by
  kernel_rfl

theorem fs21 (w0 : World) : FS Try.prog w0 21 G21 := by
  refine (fs_body (Γ := E21) (sound_env (l := [(29, G29), (30, G30), (31, G31)]) w0 (by
    intro p hp
    simp only [List.mem_cons, List.not_mem_nil, or_false] at hp
    rcases hp with rfl | rfl | rfl
    · exact fs29 w0
    · exact fs30 w0
    · exact fs31 w0)) (by kernel_rfl) Try.func21 (Λ := Lam21) (c := (bodyOf Try.f21)) (by kernel_rfl) Try.call21 (by kernel_rfl) (LS_of (bodyOf Try.f21) 0 (by kernel_rfl) (fun i hi => absurd hi (Nat.not_lt_zero i)) 0 (by kernel_rfl) (fun i hi => absurd hi (Nat.not_lt_zero i))) true (np := 1) (Nat.le_of_ble_eq_true (by kernel_rfl))).imp fun args => ?_
  by_cases hl : args.length = 1
  rotate_left
  · exact .inr fun m k hk => by
      unfold G21 at hk
      split at hk
      · exact hl rfl
      · exact hk
  obtain ⟨a0, rfl⟩ : ∃ a0, args = [a0] := len_list1 hl
  rcases kaggN_or 6 a0 with ⟨c_0, rfl⟩ | h
  rotate_left
  · exact .inr fun m k hk => h _ (by simpa only [G21, kI, kbool, kS, kptr, kaggN, kite, decide_true, eq_self] using hk)
  exact .inl fun m k => propext ⟨fun h => ⟨rfl, by rw [eqn21]; simpa only [G21, kI, kbool, kS, kptr, kaggN, kite, decide_true, eq_self] using h⟩, fun h => by have h := h.2; rw [eqn21] at h; simpa only [G21, kI, kbool, kS, kptr, kaggN, kite, decide_true, eq_self] using h⟩

def R14_3 (v_9 : AV) (x_10 : Int) (v_4 : AV) (x_11 : Int) (m : Mem) (kn : AV → Int → Mem → Prop) (k0 : AV → Mem → Prop) (kr : AV → Int → Mem → Prop) : Prop :=
  kif (decide (x_11 < x_10)) (ksl v_9 fun b2 o3 l4 p5 => kif (decide (0 ≤ x_11) && decide (x_11 < l4)) (ldG 6 m b2 (o3 + (x_11).toNat * 6) fun c6 => newK m ⟨6, Z6, 25, false⟩ fun b8 m7 => stG 6 m7 b8 0 c6 fun m9 => ldG 6 m9 b8 0 fun c10 => F21 c10 m9 fun x11 x12 m13 => kif (!x12) (kr (.flat (.slice none 0 0)) 1 m13) (newK m13 ⟨4, upd (upd (upd (upd (lget [(.flat (.int .u8 0)), (.flat (.int .u8 0)), (.flat (.int .u8 0)), (.flat (.int .u8 0))]) 0 (.flat (.int .u8 (IntKind.wrap .u8 (x11.fdiv 16777216))))) 1 (.flat (.int .u8 (IntKind.wrap .u8 (x11.fdiv 65536))))) 2 (.flat (.int .u8 (IntKind.wrap .u8 (x11.fdiv 256))))) 3 (.flat (.int .u8 (IntKind.wrap .u8 x11))), 5, false⟩ fun b15 m14 => appS 1 1 5 v_4 (.sl b15 0 4 (.ex 4)) m14 fun v16 m17 => kn v16 (IntKind.wrap .i64 (x_11 + 1)) m17)) False) (k0 v_4 m)

def L14_3 (v_9 : AV) (x_10 : Int) : Nat → AV → Int → Mem → (AV → Mem → Prop) → (AV → Int → Mem → Prop) → Prop
  | 0, _, _,  _, _, _ => bump False
  | N + 1, v_4, x_11,  m, k0, kr => R14_3 v_9 x_10 v_4 x_11 m (fun v_4' x_11' m' => L14_3 v_9 x_10 N v_4' x_11' m' k0 kr) k0 kr

/-- pianola/asm.Bytes -/
def F14 (v_0 : AV) (m : Mem) (k : AV → Int → Mem → Prop) : Prop :=
  klen v_0 fun x1 => ∃ N23, L14_3 v_0 x1 N23 (.flat (.slice none 0 0)) 0 m (fun v18 m19 => knt v18 (k v18 0 m19)) (fun v20 x21 m22 => knt v20 (k v20 x21 m22))

def G14 (args : List AV) (m : Mem) (k : KV) : Prop := match args with
  | [a0] => F14 a0 m (fun v_1000 x_1001 m' => k (.tup [v_1000, (.flat (.int .i64 x_1001))]) m')
  | _ => False

def E14 : Env := envOf [(21, G21)]

def Lam14_3 (σ : Nat → AV) (m : Mem) (k : KX) : Prop := kI .i64 (σ 10) fun x_10 => kI .i64 (σ 11) fun x_11 => ∃ N, L14_3 (σ 9) x_10 N (σ 4) x_11 m (fun v_4' m' => k (.exit 0) (only [4] [v_4']) m') (fun v_2' x_3' m' => k .ret (only [2, 3] [v_2', (.flat (.int .i64 x_3'))]) m')

def Lam14 : LEnv := ⟨fun a σ m k => match firstReg a with
  | some 3 => Lam14_3 σ m k
  | _ => bump False,
  fun id => match id with
  | _ => bump false,
  fun b => match keyC b with
  | _ => bump false,
  fun b σ m k => match keyC b with
  | _ => bump False⟩

def lx14_3 : Ex → List Nat := fun e => match e with
  | .exit 0 => [4]
  | .ret => [2, 3]
  | _ => []

theorem round14_3 (v_9 : AV) (x_10 : Int) (v_4 : AV) (x_11 : Int) (m : Mem) (G : List AV → Mem → Prop) (k : KX) : (wpA Try.prog E14 Lam14 ((loopsOf (bodyOf Try.f14)).getD 0 .skip) (only [4, 9, 10, 11] [v_4, v_9, (.flat (.int .i64 x_10)), (.flat (.int .i64 x_11))]) m fun e σ' m' => match e with
    | .normal => G ([4, 9, 10, 11].map σ') m'
    | .exit id => k (.exit id) (only (lx14_3 (.exit id)) ((lx14_3 (.exit id)).map σ')) m'
    | .ret => k .ret (only (lx14_3 .ret) ((lx14_3 .ret).map σ')) m') = R14_3 v_9 x_10 v_4 x_11 m (fun v_4' x_11' m' => G [v_4', v_9, (.flat (.int .i64 x_10)), (.flat (.int .i64 x_11'))] m') (fun v_4' m' => k (.exit 0) (only [4] [v_4']) m') (fun v_2' x_3' m' => k .ret (only [2, 3] [v_2', (.flat (.int .i64 x_3'))]) m') := by
  kernel_rfl

theorem loop14_3 (v_9 : AV) (x_10 : Int) (k : KX) : ∀ (N : Nat) (v_4 : AV) (x_11 : Int) (m : Mem), rounds Try.prog E14 Lam14 [4, 9, 10, 11] lx14_3 ((loopsOf (bodyOf Try.f14)).getD 0 .skip) N [v_4, v_9, (.flat (.int .i64 x_10)), (.flat (.int .i64 x_11))] m k = L14_3 v_9 x_10 N v_4 x_11 m (fun v_4' m' => k (.exit 0) (only [4] [v_4']) m') (fun v_2' x_3' m' => k .ret (only [2, 3] [v_2', (.flat (.int .i64 x_3'))]) m') := by
  intro N
  induction N with
  | zero => intros; rfl
  | succ N ih =>
    intro v_4 x_11 m
    refine (round14_3 v_9 x_10 v_4 x_11 m (fun vs m' => rounds Try.prog E14 Lam14 [4, 9, 10, 11] lx14_3 ((loopsOf (bodyOf Try.f14)).getD 0 .skip) N vs m' k) k).trans ?_
    simp only [ih]
    rfl

theorem lok14_3 : LoopOK Try.prog E14 Lam14 ((loopsOf (bodyOf Try.f14)).getD 0 .skip) := by
  refine ⟨fun σ => ∃ v_4 v_9 x_10 x_11, σ 4 = v_4 ∧ σ 9 = v_9 ∧ σ 10 = .flat (.int .i64 x_10) ∧ σ 11 = .flat (.int .i64 x_11), [4, 9, 10, 11], lx14_3, fun σ m k => ?_⟩
  have e : Lam14.loop ((loopsOf (bodyOf Try.f14)).getD 0 .skip) σ m k = Lam14_3 σ m k := by kernel_rfl
  rw [e]
  constructor
  · intro h
    unfold Lam14_3 at h
    obtain ⟨v_4, h0⟩ : ∃ v, σ 4 = v := ⟨_, rfl⟩
    obtain ⟨v_9, h1⟩ : ∃ v, σ 9 = v := ⟨_, rfl⟩
    obtain ⟨x_10, h2, h⟩ := kI_ok h
    obtain ⟨x_11, h3, h⟩ := kI_ok h
    obtain ⟨N, h⟩ := h
    refine ⟨⟨v_4, v_9, x_10, x_11, h0, h1, h2, h3⟩, N, ?_⟩
    have ev : [4, 9, 10, 11].map σ = [v_4, v_9, (.flat (.int .i64 x_10)), (.flat (.int .i64 x_11))] := by simp only [List.map_cons, List.map_nil, h0, h1, h2, h3]
    rw [ev, loop14_3]
    simp only [h0, h1] at h
    exact h
  · rintro ⟨⟨v_4, v_9, x_10, x_11, h0, h1, h2, h3⟩, N, h⟩
    have ev : [4, 9, 10, 11].map σ = [v_4, v_9, (.flat (.int .i64 x_10)), (.flat (.int .i64 x_11))] := by simp only [List.map_cons, List.map_nil, h0, h1, h2, h3]
    rw [ev, loop14_3] at h
    unfold Lam14_3
    try simp only [h0, h1, h2, h3, kI, kbool, kS, kptr, kaggN, kite, decide_true, eq_self]
    exact ⟨N, h⟩

theorem eqn14 (v_0 : AV) (m : Mem) (k : KV) : bodyK Try.prog E14 Lam14 Try.f14 false [v_0] m k = F14 v_0 m (fun v_1000 x_1001 m' => k (.tup [v_1000, (.flat (.int .i64 x_1001))]) m') := by
  kernel_rfl

theorem fs14 (w0 : World) : FS Try.prog w0 14 G14 := by
  refine (fs_body (Γ := E14) (sound_env (l := [(21, G21)]) w0 (by
    intro p hp
    simp only [List.mem_cons, List.not_mem_nil, or_false] at hp
    rcases hp with rfl
    · exact fs21 w0)) (by kernel_rfl) Try.func14 (Λ := Lam14) (c := (bodyOf Try.f14)) (by kernel_rfl) Try.call14 (by kernel_rfl) (LS_of (bodyOf Try.f14) 1 (by kernel_rfl) (by
    intro i hi
    match i, hi with
    | 0, _ => exact lok14_3
    | i + 1, hi => omega) 0 (by kernel_rfl) (fun i hi => absurd hi (Nat.not_lt_zero i))) false (np := 1) (Nat.le_of_ble_eq_true (by kernel_rfl))).imp fun args => ?_
  by_cases hl : args.length = 1
  rotate_left
  · exact .inr fun m k hk => by
      unfold G14 at hk
      split at hk
      · exact hl rfl
      · exact hk
  obtain ⟨a0, rfl⟩ : ∃ a0, args = [a0] := len_list1 hl

  exact .inl fun m k => propext ⟨fun h => ⟨rfl, by rw [eqn14]; simpa only [G14, kI, kbool, kS, kptr, kaggN, kite, decide_true, eq_self] using h⟩, fun h => by have h := h.2; rw [eqn14] at h; simpa only [G14, kI, kbool, kS, kptr, kaggN, kite, decide_true, eq_self] using h⟩

/-- pianola/pianolaref3.special -/
def F33  (m : Mem) (k : AV → Mem → Prop) : Prop :=
  newK m ⟨140, splice (splice (splice (splice (splice (splice (splice (splice (splice (splice (splice (splice (splice (splice (splice (splice (splice (splice (splice (splice (splice (splice (splice (splice (splice (splice (splice (splice (splice (splice (splice (splice (splice (splice (splice (Z140) 0 4 (upd (upd (upd (upd (lget [(.flat (.int .i64 0)), (.flat (.int .i64 0)), (.flat (.int .i64 0)), (.flat (.string ⟨#[]⟩))]) 0 (.flat (.int .i64 0))) 1 (.flat (.int .i64 0))) 2 (.flat (.int .i64 1))) 3 (.flat (.string Yb0)))) 4 4 (upd (upd (upd (upd (lget [(.flat (.int .i64 0)), (.flat (.int .i64 0)), (.flat (.int .i64 0)), (.flat (.string ⟨#[]⟩))]) 0 (.flat (.int .i64 0))) 1 (.flat (.int .i64 2))) 2 (.flat (.int .i64 2))) 3 (.flat (.string Yb0)))) 8 4 (upd (upd (upd (upd (lget [(.flat (.int .i64 0)), (.flat (.int .i64 0)), (.flat (.int .i64 0)), (.flat (.string ⟨#[]⟩))]) 0 (.flat (.int .i64 0))) 1 (.flat (.int .i64 3))) 2 (.flat (.int .i64 3))) 3 (.flat (.string Yb0)))) 12 4 (upd (upd (upd (upd (lget [(.flat (.int .i64 0)), (.flat (.int .i64 0)), (.flat (.int .i64 0)), (.flat (.string ⟨#[]⟩))]) 0 (.flat (.int .i64 0))) 1 (.flat (.int .i64 4))) 2 (.flat (.int .i64 4))) 3 (.flat (.string Yb1)))) 16 4 (upd (upd (upd (upd (lget [(.flat (.int .i64 0)), (.flat (.int .i64 0)), (.flat (.int .i64 0)), (.flat (.string ⟨#[]⟩))]) 0 (.flat (.int .i64 0))) 1 (.flat (.int .i64 6))) 2 (.flat (.int .i64 5))) 3 (.flat (.string Yb1)))) 20 4 (upd (upd (upd (upd (lget [(.flat (.int .i64 0)), (.flat (.int .i64 0)), (.flat (.int .i64 0)), (.flat (.string ⟨#[]⟩))]) 0 (.flat (.int .i64 0))) 1 (.flat (.int .i64 7))) 2 (.flat (.int .i64 6))) 3 (.flat (.string Yb1)))) 24 4 (upd (upd (upd (upd (lget [(.flat (.int .i64 0)), (.flat (.int .i64 0)), (.flat (.int .i64 0)), (.flat (.string ⟨#[]⟩))]) 0 (.flat (.int .i64 0))) 1 (.flat (.int .i64 8))) 2 (.flat (.int .i64 7))) 3 (.flat (.string Yb2)))) 28 4 (upd (upd (upd (upd (lget [(.flat (.int .i64 0)), (.flat (.int .i64 0)), (.flat (.int .i64 0)), (.flat (.string ⟨#[]⟩))]) 0 (.flat (.int .i64 0))) 1 (.flat (.int .i64 9))) 2 (.flat (.int .i64 8))) 3 (.flat (.string Yb3)))) 32 4 (upd (upd (upd (upd (lget [(.flat (.int .i64 0)), (.flat (.int .i64 0)), (.flat (.int .i64 0)), (.flat (.string ⟨#[]⟩))]) 0 (.flat (.int .i64 0))) 1 (.flat (.int .i64 10))) 2 (.flat (.int .i64 9))) 3 (.flat (.string Yb1)))) 36 4 (upd (upd (upd (upd (lget [(.flat (.int .i64 0)), (.flat (.int .i64 0)), (.flat (.int .i64 0)), (.flat (.string ⟨#[]⟩))]) 0 (.flat (.int .i64 0))) 1 (.flat (.int .i64 11))) 2 (.flat (.int .i64 10))) 3 (.flat (.string Yb1)))) 40 4 (upd (upd (upd (upd (lget [(.flat (.int .i64 0)), (.flat (.int .i64 0)), (.flat (.int .i64 0)), (.flat (.string ⟨#[]⟩))]) 0 (.flat (.int .i64 0))) 1 (.flat (.int .i64 12))) 2 (.flat (.int .i64 11))) 3 (.flat (.string (⟨#[]⟩ : ByteArray))))) 44 4 (upd (upd (upd (upd (lget [(.flat (.int .i64 0)), (.flat (.int .i64 0)), (.flat (.int .i64 0)), (.flat (.string ⟨#[]⟩))]) 0 (.flat (.int .i64 0))) 1 (.flat (.int .i64 13))) 2 (.flat (.int .i64 12))) 3 (.flat (.string (⟨#[]⟩ : ByteArray))))) 48 4 (upd (upd (upd (upd (lget [(.flat (.int .i64 0)), (.flat (.int .i64 0)), (.flat (.int .i64 0)), (.flat (.string ⟨#[]⟩))]) 0 (.flat (.int .i64 0))) 1 (.flat (.int .i64 15))) 2 (.flat (.int .i64 13))) 3 (.flat (.string (⟨#[]⟩ : ByteArray))))) 52 4 (upd (upd (upd (upd (lget [(.flat (.int .i64 0)), (.flat (.int .i64 0)), (.flat (.int .i64 0)), (.flat (.string ⟨#[]⟩))]) 0 (.flat (.int .i64 0))) 1 (.flat (.int .i64 16))) 2 (.flat (.int .i64 14))) 3 (.flat (.string Yb4)))) 56 4 (upd (upd (upd (upd (lget [(.flat (.int .i64 0)), (.flat (.int .i64 0)), (.flat (.int .i64 0)), (.flat (.string ⟨#[]⟩))]) 0 (.flat (.int .i64 0))) 1 (.flat (.int .i64 17))) 2 (.flat (.int .i64 15))) 3 (.flat (.string Yb2)))) 60 4 (upd (upd (upd (upd (lget [(.flat (.int .i64 0)), (.flat (.int .i64 0)), (.flat (.int .i64 0)), (.flat (.string ⟨#[]⟩))]) 0 (.flat (.int .i64 0))) 1 (.flat (.int .i64 18))) 2 (.flat (.int .i64 16))) 3 (.flat (.string Yb4)))) 64 4 (upd (upd (upd (upd (lget [(.flat (.int .i64 0)), (.flat (.int .i64 0)), (.flat (.int .i64 0)), (.flat (.string ⟨#[]⟩))]) 0 (.flat (.int .i64 0))) 1 (.flat (.int .i64 19))) 2 (.flat (.int .i64 17))) 3 (.flat (.string Yb2)))) 68 4 (upd (upd (upd (upd (lget [(.flat (.int .i64 0)), (.flat (.int .i64 0)), (.flat (.int .i64 0)), (.flat (.string ⟨#[]⟩))]) 0 (.flat (.int .i64 0))) 1 (.flat (.int .i64 24))) 2 (.flat (.int .i64 18))) 3 (.flat (.string Yb5)))) 72 4 (upd (upd (upd (upd (lget [(.flat (.int .i64 0)), (.flat (.int .i64 0)), (.flat (.int .i64 0)), (.flat (.string ⟨#[]⟩))]) 0 (.flat (.int .i64 0))) 1 (.flat (.int .i64 25))) 2 (.flat (.int .i64 19))) 3 (.flat (.string Yb5)))) 76 4 (upd (upd (upd (upd (lget [(.flat (.int .i64 0)), (.flat (.int .i64 0)), (.flat (.int .i64 0)), (.flat (.string ⟨#[]⟩))]) 0 (.flat (.int .i64 0))) 1 (.flat (.int .i64 26))) 2 (.flat (.int .i64 20))) 3 (.flat (.string Yb5)))) 80 4 (upd (upd (upd (upd (lget [(.flat (.int .i64 0)), (.flat (.int .i64 0)), (.flat (.int .i64 0)), (.flat (.string ⟨#[]⟩))]) 0 (.flat (.int .i64 0))) 1 (.flat (.int .i64 27))) 2 (.flat (.int .i64 21))) 3 (.flat (.string Yb5)))) 84 4 (upd (upd (upd (upd (lget [(.flat (.int .i64 0)), (.flat (.int .i64 0)), (.flat (.int .i64 0)), (.flat (.string ⟨#[]⟩))]) 0 (.flat (.int .i64 0))) 1 (.flat (.int .i64 32))) 2 (.flat (.int .i64 22))) 3 (.flat (.string Yb1)))) 88 4 (upd (upd (upd (upd (lget [(.flat (.int .i64 0)), (.flat (.int .i64 0)), (.flat (.int .i64 0)), (.flat (.string ⟨#[]⟩))]) 0 (.flat (.int .i64 0))) 1 (.flat (.int .i64 33))) 2 (.flat (.int .i64 23))) 3 (.flat (.string Yb1)))) 92 4 (upd (upd (upd (upd (lget [(.flat (.int .i64 0)), (.flat (.int .i64 0)), (.flat (.int .i64 0)), (.flat (.string ⟨#[]⟩))]) 0 (.flat (.int .i64 0))) 1 (.flat (.int .i64 34))) 2 (.flat (.int .i64 24))) 3 (.flat (.string Yb1)))) 96 4 (upd (upd (upd (upd (lget [(.flat (.int .i64 0)), (.flat (.int .i64 0)), (.flat (.int .i64 0)), (.flat (.string ⟨#[]⟩))]) 0 (.flat (.int .i64 0))) 1 (.flat (.int .i64 35))) 2 (.flat (.int .i64 25))) 3 (.flat (.string Yb1)))) 100 4 (upd (upd (upd (upd (lget [(.flat (.int .i64 0)), (.flat (.int .i64 0)), (.flat (.int .i64 0)), (.flat (.string ⟨#[]⟩))]) 0 (.flat (.int .i64 0))) 1 (.flat (.int .i64 36))) 2 (.flat (.int .i64 26))) 3 (.flat (.string Yb1)))) 104 4 (upd (upd (upd (upd (lget [(.flat (.int .i64 0)), (.flat (.int .i64 0)), (.flat (.int .i64 0)), (.flat (.string ⟨#[]⟩))]) 0 (.flat (.int .i64 0))) 1 (.flat (.int .i64 37))) 2 (.flat (.int .i64 27))) 3 (.flat (.string Yb1)))) 108 4 (upd (upd (upd (upd (lget [(.flat (.int .i64 0)), (.flat (.int .i64 0)), (.flat (.int .i64 0)), (.flat (.string ⟨#[]⟩))]) 0 (.flat (.int .i64 0))) 1 (.flat (.int .i64 38))) 2 (.flat (.int .i64 28))) 3 (.flat (.string Yb1)))) 112 4 (upd (upd (upd (upd (lget [(.flat (.int .i64 0)), (.flat (.int .i64 0)), (.flat (.int .i64 0)), (.flat (.string ⟨#[]⟩))]) 0 (.flat (.int .i64 0))) 1 (.flat (.int .i64 39))) 2 (.flat (.int .i64 29))) 3 (.flat (.string Yb1)))) 116 4 (upd (upd (upd (upd (lget [(.flat (.int .i64 0)), (.flat (.int .i64 0)), (.flat (.int .i64 0)), (.flat (.string ⟨#[]⟩))]) 0 (.flat (.int .i64 0))) 1 (.flat (.int .i64 42))) 2 (.flat (.int .i64 30))) 3 (.flat (.string Yb1)))) 120 4 (upd (upd (upd (upd (lget [(.flat (.int .i64 0)), (.flat (.int .i64 0)), (.flat (.int .i64 0)), (.flat (.string ⟨#[]⟩))]) 0 (.flat (.int .i64 0))) 1 (.flat (.int .i64 43))) 2 (.flat (.int .i64 31))) 3 (.flat (.string Yb1)))) 124 4 (upd (upd (upd (upd (lget [(.flat (.int .i64 0)), (.flat (.int .i64 0)), (.flat (.int .i64 0)), (.flat (.string ⟨#[]⟩))]) 0 (.flat (.int .i64 0))) 1 (.flat (.int .i64 48))) 2 (.flat (.int .i64 32))) 3 (.flat (.string Yb5)))) 128 4 (upd (upd (upd (upd (lget [(.flat (.int .i64 0)), (.flat (.int .i64 0)), (.flat (.int .i64 0)), (.flat (.string ⟨#[]⟩))]) 0 (.flat (.int .i64 0))) 1 (.flat (.int .i64 50))) 2 (.flat (.int .i64 33))) 3 (.flat (.string Yb5)))) 132 4 (upd (upd (upd (upd (lget [(.flat (.int .i64 0)), (.flat (.int .i64 0)), (.flat (.int .i64 0)), (.flat (.string ⟨#[]⟩))]) 0 (.flat (.int .i64 0))) 1 (.flat (.int .i64 52))) 2 (.flat (.int .i64 34))) 3 (.flat (.string Yb5)))) 136 4 (upd (upd (upd (upd (lget [(.flat (.int .i64 0)), (.flat (.int .i64 0)), (.flat (.int .i64 0)), (.flat (.string ⟨#[]⟩))]) 0 (.flat (.int .i64 0))) 1 (.flat (.int .i64 54))) 2 (.flat (.int .i64 35))) 3 (.flat (.string Yb5))), 56, false⟩ fun b2 m1 => k (.sl b2 0 35 (.ex 35)) m1

def G33 (args : List AV) (m : Mem) (k : KV) : Prop := match args with
  | [] => F33  m (fun v_1000 m' => k v_1000 m')
  | _ => False

def E33 : Env := envOf []

def Lam33 : LEnv := ⟨fun a σ m k => match firstReg a with
  | _ => bump False,
  fun id => match id with
  | _ => bump false,
  fun b => match keyC b with
  | _ => bump false,
  fun b σ m k => match keyC b with
  | _ => bump False⟩

theorem eqn33  (m : Mem) (k : KV) : bodyK Try.prog E33 Lam33 Try.f33 false [] m k = F33  m (fun v_1000 m' => k v_1000 m') := by
  kernel_rfl

theorem fs33 (w0 : World) : FS Try.prog w0 33 G33 := by
  refine (fs_body (Γ := E33) (sound_env (l := []) w0 (by
    intro p hp
    cases hp)) (by kernel_rfl) Try.func33 (Λ := Lam33) (c := (bodyOf Try.f33)) (by kernel_rfl) Try.call33 (by kernel_rfl) (LS_of (bodyOf Try.f33) 0 (by kernel_rfl) (fun i hi => absurd hi (Nat.not_lt_zero i)) 0 (by kernel_rfl) (fun i hi => absurd hi (Nat.not_lt_zero i))) false (np := 0) (Nat.le_of_ble_eq_true (by kernel_rfl))).imp fun args => ?_
  by_cases hl : args.length = 0
  rotate_left
  · exact .inr fun m k hk => by
      unfold G33 at hk
      split at hk
      · exact hl rfl
      · exact hk
  obtain rfl : args = [] := len_list0 hl

  exact .inl fun m k => propext ⟨fun h => ⟨rfl, by rw [eqn33]; simpa only [G33, kI, kbool, kS, kptr, kaggN, kite, decide_true, eq_self] using h⟩, fun h => by have h := h.2; rw [eqn33] at h; simpa only [G33, kI, kbool, kS, kptr, kaggN, kite, decide_true, eq_self] using h⟩

/-- pianola/pianolaref3.plain -/
def F34  (m : Mem) (k : AV → Mem → Prop) : Prop :=
  newK m ⟨108, splice (splice (splice (splice (splice (splice (splice (splice (splice (splice (splice (splice (splice (splice (splice (splice (splice (splice (splice (splice (splice (splice (splice (splice (splice (splice (splice (Z108) 0 4 (upd (upd (upd (upd (lget [(.flat (.int .i64 0)), (.flat (.int .i64 0)), (.flat (.int .i64 0)), (.flat (.string ⟨#[]⟩))]) 0 (.flat (.int .i64 2))) 1 (.flat (.int .i64 0))) 2 (.flat (.int .i64 40))) 3 (.flat (.string Yb6)))) 4 4 (upd (upd (upd (upd (lget [(.flat (.int .i64 0)), (.flat (.int .i64 0)), (.flat (.int .i64 0)), (.flat (.string ⟨#[]⟩))]) 0 (.flat (.int .i64 3))) 1 (.flat (.int .i64 0))) 2 (.flat (.int .i64 41))) 3 (.flat (.string Yb6)))) 8 4 (upd (upd (upd (upd (lget [(.flat (.int .i64 0)), (.flat (.int .i64 0)), (.flat (.int .i64 0)), (.flat (.string ⟨#[]⟩))]) 0 (.flat (.int .i64 4))) 1 (.flat (.int .i64 0))) 2 (.flat (.int .i64 42))) 3 (.flat (.string Yb7)))) 12 4 (upd (upd (upd (upd (lget [(.flat (.int .i64 0)), (.flat (.int .i64 0)), (.flat (.int .i64 0)), (.flat (.string ⟨#[]⟩))]) 0 (.flat (.int .i64 5))) 1 (.flat (.int .i64 0))) 2 (.flat (.int .i64 43))) 3 (.flat (.string Yb7)))) 16 4 (upd (upd (upd (upd (lget [(.flat (.int .i64 0)), (.flat (.int .i64 0)), (.flat (.int .i64 0)), (.flat (.string ⟨#[]⟩))]) 0 (.flat (.int .i64 6))) 1 (.flat (.int .i64 0))) 2 (.flat (.int .i64 44))) 3 (.flat (.string Yb8)))) 20 4 (upd (upd (upd (upd (lget [(.flat (.int .i64 0)), (.flat (.int .i64 0)), (.flat (.int .i64 0)), (.flat (.string ⟨#[]⟩))]) 0 (.flat (.int .i64 7))) 1 (.flat (.int .i64 0))) 2 (.flat (.int .i64 45))) 3 (.flat (.string Yb8)))) 24 4 (upd (upd (upd (upd (lget [(.flat (.int .i64 0)), (.flat (.int .i64 0)), (.flat (.int .i64 0)), (.flat (.string ⟨#[]⟩))]) 0 (.flat (.int .i64 8))) 1 (.flat (.int .i64 0))) 2 (.flat (.int .i64 46))) 3 (.flat (.string Yb7)))) 28 4 (upd (upd (upd (upd (lget [(.flat (.int .i64 0)), (.flat (.int .i64 0)), (.flat (.int .i64 0)), (.flat (.string ⟨#[]⟩))]) 0 (.flat (.int .i64 9))) 1 (.flat (.int .i64 0))) 2 (.flat (.int .i64 47))) 3 (.flat (.string Yb7)))) 32 4 (upd (upd (upd (upd (lget [(.flat (.int .i64 0)), (.flat (.int .i64 0)), (.flat (.int .i64 0)), (.flat (.string ⟨#[]⟩))]) 0 (.flat (.int .i64 10))) 1 (.flat (.int .i64 0))) 2 (.flat (.int .i64 48))) 3 (.flat (.string Yb7)))) 36 4 (upd (upd (upd (upd (lget [(.flat (.int .i64 0)), (.flat (.int .i64 0)), (.flat (.int .i64 0)), (.flat (.string ⟨#[]⟩))]) 0 (.flat (.int .i64 11))) 1 (.flat (.int .i64 0))) 2 (.flat (.int .i64 49))) 3 (.flat (.string Yb7)))) 40 4 (upd (upd (upd (upd (lget [(.flat (.int .i64 0)), (.flat (.int .i64 0)), (.flat (.int .i64 0)), (.flat (.string ⟨#[]⟩))]) 0 (.flat (.int .i64 12))) 1 (.flat (.int .i64 0))) 2 (.flat (.int .i64 50))) 3 (.flat (.string Yb7)))) 44 4 (upd (upd (upd (upd (lget [(.flat (.int .i64 0)), (.flat (.int .i64 0)), (.flat (.int .i64 0)), (.flat (.string ⟨#[]⟩))]) 0 (.flat (.int .i64 13))) 1 (.flat (.int .i64 0))) 2 (.flat (.int .i64 51))) 3 (.flat (.string Yb7)))) 48 4 (upd (upd (upd (upd (lget [(.flat (.int .i64 0)), (.flat (.int .i64 0)), (.flat (.int .i64 0)), (.flat (.string ⟨#[]⟩))]) 0 (.flat (.int .i64 14))) 1 (.flat (.int .i64 0))) 2 (.flat (.int .i64 52))) 3 (.flat (.string Yb7)))) 52 4 (upd (upd (upd (upd (lget [(.flat (.int .i64 0)), (.flat (.int .i64 0)), (.flat (.int .i64 0)), (.flat (.string ⟨#[]⟩))]) 0 (.flat (.int .i64 15))) 1 (.flat (.int .i64 0))) 2 (.flat (.int .i64 53))) 3 (.flat (.string Yb9)))) 56 4 (upd (upd (upd (upd (lget [(.flat (.int .i64 0)), (.flat (.int .i64 0)), (.flat (.int .i64 0)), (.flat (.string ⟨#[]⟩))]) 0 (.flat (.int .i64 17))) 1 (.flat (.int .i64 0))) 2 (.flat (.int .i64 62))) 3 (.flat (.string (⟨#[]⟩ : ByteArray))))) 60 4 (upd (upd (upd (upd (lget [(.flat (.int .i64 0)), (.flat (.int .i64 0)), (.flat (.int .i64 0)), (.flat (.string ⟨#[]⟩))]) 0 (.flat (.int .i64 32))) 1 (.flat (.int .i64 0))) 2 (.flat (.int .i64 66))) 3 (.flat (.string Yb7)))) 64 4 (upd (upd (upd (upd (lget [(.flat (.int .i64 0)), (.flat (.int .i64 0)), (.flat (.int .i64 0)), (.flat (.string ⟨#[]⟩))]) 0 (.flat (.int .i64 33))) 1 (.flat (.int .i64 0))) 2 (.flat (.int .i64 67))) 3 (.flat (.string Yb7)))) 68 4 (upd (upd (upd (upd (lget [(.flat (.int .i64 0)), (.flat (.int .i64 0)), (.flat (.int .i64 0)), (.flat (.string ⟨#[]⟩))]) 0 (.flat (.int .i64 35))) 1 (.flat (.int .i64 0))) 2 (.flat (.int .i64 68))) 3 (.flat (.string Yb7)))) 72 4 (upd (upd (upd (upd (lget [(.flat (.int .i64 0)), (.flat (.int .i64 0)), (.flat (.int .i64 0)), (.flat (.string ⟨#[]⟩))]) 0 (.flat (.int .i64 36))) 1 (.flat (.int .i64 0))) 2 (.flat (.int .i64 69))) 3 (.flat (.string Yb7)))) 76 4 (upd (upd (upd (upd (lget [(.flat (.int .i64 0)), (.flat (.int .i64 0)), (.flat (.int .i64 0)), (.flat (.string ⟨#[]⟩))]) 0 (.flat (.int .i64 37))) 1 (.flat (.int .i64 0))) 2 (.flat (.int .i64 70))) 3 (.flat (.string Yb7)))) 80 4 (upd (upd (upd (upd (lget [(.flat (.int .i64 0)), (.flat (.int .i64 0)), (.flat (.int .i64 0)), (.flat (.string ⟨#[]⟩))]) 0 (.flat (.int .i64 40))) 1 (.flat (.int .i64 0))) 2 (.flat (.int .i64 71))) 3 (.flat (.string Yb7)))) 84 4 (upd (upd (upd (upd (lget [(.flat (.int .i64 0)), (.flat (.int .i64 0)), (.flat (.int .i64 0)), (.flat (.string ⟨#[]⟩))]) 0 (.flat (.int .i64 41))) 1 (.flat (.int .i64 0))) 2 (.flat (.int .i64 72))) 3 (.flat (.string Yb7)))) 88 4 (upd (upd (upd (upd (lget [(.flat (.int .i64 0)), (.flat (.int .i64 0)), (.flat (.int .i64 0)), (.flat (.string ⟨#[]⟩))]) 0 (.flat (.int .i64 43))) 1 (.flat (.int .i64 0))) 2 (.flat (.int .i64 73))) 3 (.flat (.string Yb7)))) 92 4 (upd (upd (upd (upd (lget [(.flat (.int .i64 0)), (.flat (.int .i64 0)), (.flat (.int .i64 0)), (.flat (.string ⟨#[]⟩))]) 0 (.flat (.int .i64 47))) 1 (.flat (.int .i64 0))) 2 (.flat (.int .i64 76))) 3 (.flat (.string (⟨#[]⟩ : ByteArray))))) 96 4 (upd (upd (upd (upd (lget [(.flat (.int .i64 0)), (.flat (.int .i64 0)), (.flat (.int .i64 0)), (.flat (.string ⟨#[]⟩))]) 0 (.flat (.int .i64 48))) 1 (.flat (.int .i64 0))) 2 (.flat (.int .i64 74))) 3 (.flat (.string Yb7)))) 100 4 (upd (upd (upd (upd (lget [(.flat (.int .i64 0)), (.flat (.int .i64 0)), (.flat (.int .i64 0)), (.flat (.string ⟨#[]⟩))]) 0 (.flat (.int .i64 51))) 1 (.flat (.int .i64 0))) 2 (.flat (.int .i64 77))) 3 (.flat (.string (⟨#[]⟩ : ByteArray))))) 104 4 (upd (upd (upd (upd (lget [(.flat (.int .i64 0)), (.flat (.int .i64 0)), (.flat (.int .i64 0)), (.flat (.string ⟨#[]⟩))]) 0 (.flat (.int .i64 56))) 1 (.flat (.int .i64 0))) 2 (.flat (.int .i64 75))) 3 (.flat (.string Yb7))), 56, false⟩ fun b2 m1 => k (.sl b2 0 27 (.ex 27)) m1

def G34 (args : List AV) (m : Mem) (k : KV) : Prop := match args with
  | [] => F34  m (fun v_1000 m' => k v_1000 m')
  | _ => False

def E34 : Env := envOf []

def Lam34 : LEnv := ⟨fun a σ m k => match firstReg a with
  | _ => bump False,
  fun id => match id with
  | _ => bump false,
  fun b => match keyC b with
  | _ => bump false,
  fun b σ m k => match keyC b with
  | _ => bump False⟩

theorem eqn34  (m : Mem) (k : KV) : bodyK Try.prog E34 Lam34 Try.f34 false [] m k = F34  m (fun v_1000 m' => k v_1000 m') := by
  kernel_rfl

theorem fs34 (w0 : World) : FS Try.prog w0 34 G34 := by
  refine (fs_body (Γ := E34) (sound_env (l := []) w0 (by
    intro p hp
    cases hp)) (by kernel_rfl) Try.func34 (Λ := Lam34) (c := (bodyOf Try.f34)) (by kernel_rfl) Try.call34 (by kernel_rfl) (LS_of (bodyOf Try.f34) 0 (by kernel_rfl) (fun i hi => absurd hi (Nat.not_lt_zero i)) 0 (by kernel_rfl) (fun i hi => absurd hi (Nat.not_lt_zero i))) false (np := 0) (Nat.le_of_ble_eq_true (by kernel_rfl))).imp fun args => ?_
  by_cases hl : args.length = 0
  rotate_left
  · exact .inr fun m k hk => by
      unfold G34 at hk
      split at hk
      · exact hl rfl
      · exact hk
  obtain rfl : args = [] := len_list0 hl

  exact .inl fun m k => propext ⟨fun h => ⟨rfl, by rw [eqn34]; simpa only [G34, kI, kbool, kS, kptr, kaggN, kite, decide_true, eq_self] using h⟩, fun h => by have h := h.2; rw [eqn34] at h; simpa only [G34, kI, kbool, kS, kptr, kaggN, kite, decide_true, eq_self] using h⟩

/-- pianola/pianolaref3.others -/
def F35  (m : Mem) (k : AV → Mem → Prop) : Prop :=
  newK m ⟨60, splice (splice (splice (splice (splice (splice (splice (splice (splice (splice (splice (splice (splice (splice (splice (Z60) 0 4 (upd (upd (upd (upd (lget [(.flat (.int .i64 0)), (.flat (.int .i64 0)), (.flat (.int .i64 0)), (.flat (.string ⟨#[]⟩))]) 0 (.flat (.int .i64 1))) 1 (.flat (.int .i64 0))) 2 (.flat (.int .i64 36))) 3 (.flat (.string Yb8)))) 4 4 (upd (upd (upd (upd (lget [(.flat (.int .i64 0)), (.flat (.int .i64 0)), (.flat (.int .i64 0)), (.flat (.string ⟨#[]⟩))]) 0 (.flat (.int .i64 1))) 1 (.flat (.int .i64 1))) 2 (.flat (.int .i64 37))) 3 (.flat (.string Yb8)))) 8 4 (upd (upd (upd (upd (lget [(.flat (.int .i64 0)), (.flat (.int .i64 0)), (.flat (.int .i64 0)), (.flat (.string ⟨#[]⟩))]) 0 (.flat (.int .i64 1))) 1 (.flat (.int .i64 16))) 2 (.flat (.int .i64 38))) 3 (.flat (.string Yb8)))) 12 4 (upd (upd (upd (upd (lget [(.flat (.int .i64 0)), (.flat (.int .i64 0)), (.flat (.int .i64 0)), (.flat (.string ⟨#[]⟩))]) 0 (.flat (.int .i64 1))) 1 (.flat (.int .i64 17))) 2 (.flat (.int .i64 39))) 3 (.flat (.string Yb8)))) 16 4 (upd (upd (upd (upd (lget [(.flat (.int .i64 0)), (.flat (.int .i64 0)), (.flat (.int .i64 0)), (.flat (.string ⟨#[]⟩))]) 0 (.flat (.int .i64 16))) 1 (.flat (.int .i64 0))) 2 (.flat (.int .i64 54))) 3 (.flat (.string Yb10)))) 20 4 (upd (upd (upd (upd (lget [(.flat (.int .i64 0)), (.flat (.int .i64 0)), (.flat (.int .i64 0)), (.flat (.string ⟨#[]⟩))]) 0 (.flat (.int .i64 16))) 1 (.flat (.int .i64 4))) 2 (.flat (.int .i64 55))) 3 (.flat (.string Yb10)))) 24 4 (upd (upd (upd (upd (lget [(.flat (.int .i64 0)), (.flat (.int .i64 0)), (.flat (.int .i64 0)), (.flat (.string ⟨#[]⟩))]) 0 (.flat (.int .i64 16))) 1 (.flat (.int .i64 65))) 2 (.flat (.int .i64 56))) 3 (.flat (.string (⟨#[]⟩ : ByteArray))))) 28 4 (upd (upd (upd (upd (lget [(.flat (.int .i64 0)), (.flat (.int .i64 0)), (.flat (.int .i64 0)), (.flat (.string ⟨#[]⟩))]) 0 (.flat (.int .i64 16))) 1 (.flat (.int .i64 66))) 2 (.flat (.int .i64 57))) 3 (.flat (.string (⟨#[]⟩ : ByteArray))))) 32 4 (upd (upd (upd (upd (lget [(.flat (.int .i64 0)), (.flat (.int .i64 0)), (.flat (.int .i64 0)), (.flat (.string ⟨#[]⟩))]) 0 (.flat (.int .i64 16))) 1 (.flat (.int .i64 70))) 2 (.flat (.int .i64 58))) 3 (.flat (.string (⟨#[]⟩ : ByteArray))))) 36 4 (upd (upd (upd (upd (lget [(.flat (.int .i64 0)), (.flat (.int .i64 0)), (.flat (.int .i64 0)), (.flat (.string ⟨#[]⟩))]) 0 (.flat (.int .i64 16))) 1 (.flat (.int .i64 72))) 2 (.flat (.int .i64 59))) 3 (.flat (.string (⟨#[]⟩ : ByteArray))))) 40 4 (upd (upd (upd (upd (lget [(.flat (.int .i64 0)), (.flat (.int .i64 0)), (.flat (.int .i64 0)), (.flat (.string ⟨#[]⟩))]) 0 (.flat (.int .i64 16))) 1 (.flat (.int .i64 88))) 2 (.flat (.int .i64 60))) 3 (.flat (.string (⟨#[]⟩ : ByteArray))))) 44 4 (upd (upd (upd (upd (lget [(.flat (.int .i64 0)), (.flat (.int .i64 0)), (.flat (.int .i64 0)), (.flat (.string ⟨#[]⟩))]) 0 (.flat (.int .i64 16))) 1 (.flat (.int .i64 96))) 2 (.flat (.int .i64 61))) 3 (.flat (.string (⟨#[]⟩ : ByteArray))))) 48 4 (upd (upd (upd (upd (lget [(.flat (.int .i64 0)), (.flat (.int .i64 0)), (.flat (.int .i64 0)), (.flat (.string ⟨#[]⟩))]) 0 (.flat (.int .i64 28))) 1 (.flat (.int .i64 2))) 2 (.flat (.int .i64 63))) 3 (.flat (.string Yb1)))) 52 4 (upd (upd (upd (upd (lget [(.flat (.int .i64 0)), (.flat (.int .i64 0)), (.flat (.int .i64 0)), (.flat (.string ⟨#[]⟩))]) 0 (.flat (.int .i64 28))) 1 (.flat (.int .i64 32))) 2 (.flat (.int .i64 64))) 3 (.flat (.string Yb3)))) 56 4 (upd (upd (upd (upd (lget [(.flat (.int .i64 0)), (.flat (.int .i64 0)), (.flat (.int .i64 0)), (.flat (.string ⟨#[]⟩))]) 0 (.flat (.int .i64 28))) 1 (.flat (.int .i64 33))) 2 (.flat (.int .i64 65))) 3 (.flat (.string Yb3))), 56, false⟩ fun b2 m1 => k (.sl b2 0 15 (.ex 15)) m1

def G35 (args : List AV) (m : Mem) (k : KV) : Prop := match args with
  | [] => F35  m (fun v_1000 m' => k v_1000 m')
  | _ => False

def E35 : Env := envOf []

def Lam35 : LEnv := ⟨fun a σ m k => match firstReg a with
  | _ => bump False,
  fun id => match id with
  | _ => bump false,
  fun b => match keyC b with
  | _ => bump false,
  fun b σ m k => match keyC b with
  | _ => bump False⟩

theorem eqn35  (m : Mem) (k : KV) : bodyK Try.prog E35 Lam35 Try.f35 false [] m k = F35  m (fun v_1000 m' => k v_1000 m') := by
  kernel_rfl

theorem fs35 (w0 : World) : FS Try.prog w0 35 G35 := by
  refine (fs_body (Γ := E35) (sound_env (l := []) w0 (by
    intro p hp
    cases hp)) (by kernel_rfl) Try.func35 (Λ := Lam35) (c := (bodyOf Try.f35)) (by kernel_rfl) Try.call35 (by kernel_rfl) (LS_of (bodyOf Try.f35) 0 (by kernel_rfl) (fun i hi => absurd hi (Nat.not_lt_zero i)) 0 (by kernel_rfl) (fun i hi => absurd hi (Nat.not_lt_zero i))) false (np := 0) (Nat.le_of_ble_eq_true (by kernel_rfl))).imp fun args => ?_
  by_cases hl : args.length = 0
  rotate_left
  · exact .inr fun m k hk => by
      unfold G35 at hk
      split at hk
      · exact hl rfl
      · exact hk
  obtain rfl : args = [] := len_list0 hl

  exact .inl fun m k => propext ⟨fun h => ⟨rfl, by rw [eqn35]; simpa only [G35, kI, kbool, kS, kptr, kaggN, kite, decide_true, eq_self] using h⟩, fun h => by have h := h.2; rw [eqn35] at h; simpa only [G35, kI, kbool, kS, kptr, kaggN, kite, decide_true, eq_self] using h⟩

def R23_10 (x_0 : Int) (b_2 o_2 : Nat) (x_4 : Int) (v_5 : AV) (x_6 : Int) (m : Mem) (kn : Int → Mem → Prop) (k2 : Mem → Prop) (kr : Bool → Mem → Prop) : Prop :=
  klen v_5 fun x9 => kif (decide (x_6 < x9)) (ksl v_5 fun b10 o11 l12 p13 => kif (decide (0 ≤ x_6) && decide (x_6 < l12)) (ldI .i64 m b10 (o11 + (x_6).toNat * 4 + 2) fun x14 => kif (x14 == x_0) (ksl v_5 fun b15 o16 l17 p18 => kif (decide (0 ≤ x_6) && decide (x_6 < l17)) (ldG 4 m b15 (o16 + (x_6).toNat * 4) fun c19 => stG 4 m b_2 o_2 c19 fun m20 => kr true m20) False) (kn (IntKind.wrap .i64 (x_6 + 1)) m)) False) (k2  m)

def L23_10 (x_0 : Int) (b_2 o_2 : Nat) (x_4 : Int) (v_5 : AV) : Nat → Int → Mem → (Mem → Prop) → (Bool → Mem → Prop) → Prop
  | 0, _,  _, _, _ => bump False
  | N + 1, x_6,  m, k2, kr => R23_10 x_0 b_2 o_2 x_4 v_5 x_6 m (fun x_6' m' => L23_10 x_0 b_2 o_2 x_4 v_5 N x_6' m' k2 kr) k2 kr

def P23_9102 (x_0 : Int) (b_2 o_2 : Nat) (x_4 : Int) (v_5 : AV) (m : Mem) (kn : Mem → Prop) (kr : Bool → Mem → Prop) : Prop :=
  ∃ N24, L23_10 x_0 b_2 o_2 x_4 v_5 N24 0 m (fun m21 => kn  m21) (fun x22 m23 => kr x22 m23)

def R23_2 (x_0 : Int) (b_2 o_2 : Nat) (x_4 : Int) (m : Mem) (kn : Int → Mem → Prop) (k0 : Mem → Prop) (kr : Bool → Mem → Prop) : Prop :=
  kif (decide (x_4 < 3)) (F33  m fun v3 m4 => kif (x_4 == 1) (F34  m4 fun v5 m6 => P23_9102 x_0 b_2 o_2 x_4 v5 m6 (fun m25 => kn (IntKind.wrap .i64 (x_4 + 1)) m25) (fun x26 m27 => kr x26 m27)) (kif (x_4 == 2) (F35  m4 fun v7 m8 => P23_9102 x_0 b_2 o_2 x_4 v7 m8 (fun m28 => kn (IntKind.wrap .i64 (x_4 + 1)) m28) (fun x29 m30 => kr x29 m30)) (P23_9102 x_0 b_2 o_2 x_4 v3 m4 (fun m31 => kn (IntKind.wrap .i64 (x_4 + 1)) m31) (fun x32 m33 => kr x32 m33)))) (k0  m)

def L23_2 (x_0 : Int) (b_2 o_2 : Nat) : Nat → Int → Mem → (Mem → Prop) → (Bool → Mem → Prop) → Prop
  | 0, _,  _, _, _ => bump False
  | N + 1, x_4,  m, k0, kr => R23_2 x_0 b_2 o_2 x_4 m (fun x_4' m' => L23_2 x_0 b_2 o_2 N x_4' m' k0 kr) k0 kr

/-- pianola/pianolaref3.find -/
def F23 (x_0 : Int) (m : Mem) (k : (Nat → AV) → Bool → Mem → Prop) : Prop :=
  newK m ⟨4, lget [(.flat (.int .i64 0)), (.flat (.int .i64 0)), (.flat (.int .i64 0)), (.flat (.string ⟨#[]⟩))], 56, false⟩ fun b2 m1 => ∃ N37, L23_2 x_0 b2 0 N37 0 m1 (fun m34 => stG 4 m34 b2 0 (lget [(.flat (.int .i64 0)), (.flat (.int .i64 0)), (.flat (.int .i64 0)), (.flat (.string ⟨#[]⟩))]) fun m38 => ldG 4 m38 b2 0 fun c40 => (Keeps m m38 ∧ (InDomG 4 m c40 ∧ True) ∧ k c40 false m)) (fun x35 m36 => ldG 4 m36 b2 0 fun c39 => (Keeps m m36 ∧ (InDomG 4 m c39 ∧ True) ∧ k c39 x35 m))

def G23 (args : List AV) (m : Mem) (k : KV) : Prop := match args with
  | [a0] => kI .i64 a0 fun x_0 => F23 x_0 m (fun c_1000 x_1001 m' => k (.tup [(.agg 4 c_1000), (.flat (.bool x_1001))]) m')
  | _ => False

def E23 : Env := envOf [(33, G33), (34, G34), (35, G35)]

def Lam23_2 (σ : Nat → AV) (m : Mem) (k : KX) : Prop := kI .i64 (σ 0) fun x_0 => kptr (σ 2) fun b_2 o_2 => kI .i64 (σ 4) fun x_4 => ∃ N, L23_2 x_0 b_2 o_2 N x_4 m (fun m' => k (.exit 0) (only [2] [(.ptr b_2 o_2)]) m') (fun x_3' m' => k .ret (only [2, 3] [(.ptr b_2 o_2), (.flat (.bool x_3'))]) m')

def LamP23_9102 (σ : Nat → AV) (m : Mem) (k : KX) : Prop := kI .i64 (σ 0) fun x_0 => kptr (σ 2) fun b_2 o_2 => kI .i64 (σ 4) fun x_4 => P23_9102 x_0 b_2 o_2 x_4 (σ 5) m (fun m' => k .normal (only [0, 2, 4] [(.flat (.int .i64 x_0)), (.ptr b_2 o_2), (.flat (.int .i64 x_4))]) m') (fun x_3' m' => k .ret (only [2, 3] [(.ptr b_2 o_2), (.flat (.bool x_3'))]) m')

def Lam23_10 (σ : Nat → AV) (m : Mem) (k : KX) : Prop := kI .i64 (σ 0) fun x_0 => kptr (σ 2) fun b_2 o_2 => kI .i64 (σ 4) fun x_4 => kI .i64 (σ 6) fun x_6 => ∃ N, L23_10 x_0 b_2 o_2 x_4 (σ 5) N x_6 m (fun m' => k (.exit 2) (only [0, 2, 4] [(.flat (.int .i64 x_0)), (.ptr b_2 o_2), (.flat (.int .i64 x_4))]) m') (fun x_3' m' => k .ret (only [2, 3] [(.ptr b_2 o_2), (.flat (.bool x_3'))]) m')

def Lam23 : LEnv := ⟨fun a σ m k => match firstReg a with
  | some 2 => Lam23_2 σ m k
  | some 10 => Lam23_10 σ m k
  | _ => bump False,
  fun id => match id with
  | _ => bump false,
  fun b => match keyC b with
  | some 9102 => true
  | _ => bump false,
  fun b σ m k => match keyC b with
  | some 9102 => LamP23_9102 σ m k
  | _ => bump False⟩

def lx23_10 : Ex → List Nat := fun e => match e with
  | .exit 2 => [0, 2, 4]
  | .ret => [2, 3]
  | _ => []

theorem round23_10 (x_0 : Int) (b_2 o_2 : Nat) (x_4 : Int) (v_5 : AV) (x_6 : Int) (m : Mem) (G : List AV → Mem → Prop) (k : KX) : (wpA Try.prog E23 Lam23 ((loopsOf (bodyOf Try.f23)).getD 1 .skip) (only [0, 2, 4, 5, 6] [(.flat (.int .i64 x_0)), (.ptr b_2 o_2), (.flat (.int .i64 x_4)), v_5, (.flat (.int .i64 x_6))]) m fun e σ' m' => match e with
    | .normal => G ([0, 2, 4, 5, 6].map σ') m'
    | .exit id => k (.exit id) (only (lx23_10 (.exit id)) ((lx23_10 (.exit id)).map σ')) m'
    | .ret => k .ret (only (lx23_10 .ret) ((lx23_10 .ret).map σ')) m') = R23_10 x_0 b_2 o_2 x_4 v_5 x_6 m (fun x_6' m' => G [(.flat (.int .i64 x_0)), (.ptr b_2 o_2), (.flat (.int .i64 x_4)), v_5, (.flat (.int .i64 x_6'))] m') (fun m' => k (.exit 2) (only [0, 2, 4] [(.flat (.int .i64 x_0)), (.ptr b_2 o_2), (.flat (.int .i64 x_4))]) m') (fun x_3' m' => k .ret (only [2, 3] [(.ptr b_2 o_2), (.flat (.bool x_3'))]) m') := by
  kernel_rfl

theorem loop23_10 (x_0 : Int) (b_2 o_2 : Nat) (x_4 : Int) (v_5 : AV) (k : KX) : ∀ (N : Nat) (x_6 : Int) (m : Mem), rounds Try.prog E23 Lam23 [0, 2, 4, 5, 6] lx23_10 ((loopsOf (bodyOf Try.f23)).getD 1 .skip) N [(.flat (.int .i64 x_0)), (.ptr b_2 o_2), (.flat (.int .i64 x_4)), v_5, (.flat (.int .i64 x_6))] m k = L23_10 x_0 b_2 o_2 x_4 v_5 N x_6 m (fun m' => k (.exit 2) (only [0, 2, 4] [(.flat (.int .i64 x_0)), (.ptr b_2 o_2), (.flat (.int .i64 x_4))]) m') (fun x_3' m' => k .ret (only [2, 3] [(.ptr b_2 o_2), (.flat (.bool x_3'))]) m') := by
  intro N
  induction N with
  | zero => intros; rfl
  | succ N ih =>
    intro x_6 m
    refine (round23_10 x_0 b_2 o_2 x_4 v_5 x_6 m (fun vs m' => rounds Try.prog E23 Lam23 [0, 2, 4, 5, 6] lx23_10 ((loopsOf (bodyOf Try.f23)).getD 1 .skip) N vs m' k) k).trans ?_
    simp only [ih]
    rfl

theorem lok23_10 : LoopOK Try.prog E23 Lam23 ((loopsOf (bodyOf Try.f23)).getD 1 .skip) := by
  refine ⟨fun σ => ∃ x_0 b_2 o_2 x_4 v_5 x_6, σ 0 = .flat (.int .i64 x_0) ∧ σ 2 = .ptr b_2 o_2 ∧ σ 4 = .flat (.int .i64 x_4) ∧ σ 5 = v_5 ∧ σ 6 = .flat (.int .i64 x_6), [0, 2, 4, 5, 6], lx23_10, fun σ m k => ?_⟩
  have e : Lam23.loop ((loopsOf (bodyOf Try.f23)).getD 1 .skip) σ m k = Lam23_10 σ m k := by kernel_rfl
  rw [e]
  constructor
  · intro h
    unfold Lam23_10 at h
    obtain ⟨x_0, h0, h⟩ := kI_ok h
    obtain ⟨b_2, o_2, h1, h⟩ := kptr_ok h
    obtain ⟨x_4, h2, h⟩ := kI_ok h
    obtain ⟨v_5, h3⟩ : ∃ v, σ 5 = v := ⟨_, rfl⟩
    obtain ⟨x_6, h4, h⟩ := kI_ok h
    obtain ⟨N, h⟩ := h
    refine ⟨⟨x_0, b_2, o_2, x_4, v_5, x_6, h0, h1, h2, h3, h4⟩, N, ?_⟩
    have ev : [0, 2, 4, 5, 6].map σ = [(.flat (.int .i64 x_0)), (.ptr b_2 o_2), (.flat (.int .i64 x_4)), v_5, (.flat (.int .i64 x_6))] := by simp only [List.map_cons, List.map_nil, h0, h1, h2, h3, h4]
    rw [ev, loop23_10]
    simp only [h3] at h
    exact h
  · rintro ⟨⟨x_0, b_2, o_2, x_4, v_5, x_6, h0, h1, h2, h3, h4⟩, N, h⟩
    have ev : [0, 2, 4, 5, 6].map σ = [(.flat (.int .i64 x_0)), (.ptr b_2 o_2), (.flat (.int .i64 x_4)), v_5, (.flat (.int .i64 x_6))] := by simp only [List.map_cons, List.map_nil, h0, h1, h2, h3, h4]
    rw [ev, loop23_10] at h
    unfold Lam23_10
    try simp only [h0, h1, h2, h3, h4, kI, kbool, kS, kptr, kaggN, kite, decide_true, eq_self]
    exact ⟨N, h⟩

def lxp23_9102 : Ex → List Nat := fun e => match e with
  | .normal => [0, 2, 4]
  | .ret => [2, 3]
  | _ => []

theorem pc23_9102 (x_0 : Int) (b_2 o_2 : Nat) (x_4 : Int) (v_5 : AV) (m : Mem) (k : KX) : once Try.prog E23 Lam23 [0, 2, 4, 5] lxp23_9102 (((secsOf (bodyOf Try.f23)).filter Lam23.cut).getD 0 .skip) [(.flat (.int .i64 x_0)), (.ptr b_2 o_2), (.flat (.int .i64 x_4)), v_5] m k = P23_9102 x_0 b_2 o_2 x_4 v_5 m (fun m' => k .normal (only [0, 2, 4] [(.flat (.int .i64 x_0)), (.ptr b_2 o_2), (.flat (.int .i64 x_4))]) m') (fun x_3' m' => k .ret (only [2, 3] [(.ptr b_2 o_2), (.flat (.bool x_3'))]) m') := by
  kernel_rfl

theorem pok23_9102 : PieceOK Try.prog E23 Lam23 (((secsOf (bodyOf Try.f23)).filter Lam23.cut).getD 0 .skip) := by
  refine ⟨fun σ => ∃ x_0 b_2 o_2 x_4 v_5, σ 0 = .flat (.int .i64 x_0) ∧ σ 2 = .ptr b_2 o_2 ∧ σ 4 = .flat (.int .i64 x_4) ∧ σ 5 = v_5, [0, 2, 4, 5], lxp23_9102, fun σ m k => ?_⟩
  have e : Lam23.piece (((secsOf (bodyOf Try.f23)).filter Lam23.cut).getD 0 .skip) σ m k = LamP23_9102 σ m k := by kernel_rfl
  rw [e]
  constructor
  · intro h
    unfold LamP23_9102 at h
    obtain ⟨x_0, h0, h⟩ := kI_ok h
    obtain ⟨b_2, o_2, h1, h⟩ := kptr_ok h
    obtain ⟨x_4, h2, h⟩ := kI_ok h
    obtain ⟨v_5, h3⟩ : ∃ v, σ 5 = v := ⟨_, rfl⟩
    refine ⟨⟨x_0, b_2, o_2, x_4, v_5, h0, h1, h2, h3⟩, ?_⟩
    have ev : [0, 2, 4, 5].map σ = [(.flat (.int .i64 x_0)), (.ptr b_2 o_2), (.flat (.int .i64 x_4)), v_5] := by simp only [List.map_cons, List.map_nil, h0, h1, h2, h3]
    rw [ev, pc23_9102]
    simp only [h3] at h
    exact h
  · rintro ⟨⟨x_0, b_2, o_2, x_4, v_5, h0, h1, h2, h3⟩, h⟩
    have ev : [0, 2, 4, 5].map σ = [(.flat (.int .i64 x_0)), (.ptr b_2 o_2), (.flat (.int .i64 x_4)), v_5] := by simp only [List.map_cons, List.map_nil, h0, h1, h2, h3]
    rw [ev, pc23_9102] at h
    unfold LamP23_9102
    try simp only [h0, h1, h2, h3, kI, kbool, kS, kptr, kaggN, kite, decide_true, eq_self]
    exact h

def lx23_2 : Ex → List Nat := fun e => match e with
  | .exit 0 => [2]
  | .ret => [2, 3]
  | _ => []

theorem round23_2 (x_0 : Int) (b_2 o_2 : Nat) (x_4 : Int) (m : Mem) (G : List AV → Mem → Prop) (k : KX) : (wpA Try.prog E23 Lam23 ((loopsOf (bodyOf Try.f23)).getD 0 .skip) (only [0, 2, 4] [(.flat (.int .i64 x_0)), (.ptr b_2 o_2), (.flat (.int .i64 x_4))]) m fun e σ' m' => match e with
    | .normal => G ([0, 2, 4].map σ') m'
    | .exit id => k (.exit id) (only (lx23_2 (.exit id)) ((lx23_2 (.exit id)).map σ')) m'
    | .ret => k .ret (only (lx23_2 .ret) ((lx23_2 .ret).map σ')) m') = R23_2 x_0 b_2 o_2 x_4 m (fun x_4' m' => G [(.flat (.int .i64 x_0)), (.ptr b_2 o_2), (.flat (.int .i64 x_4'))] m') (fun m' => k (.exit 0) (only [2] [(.ptr b_2 o_2)]) m') (fun x_3' m' => k .ret (only [2, 3] [(.ptr b_2 o_2), (.flat (.bool x_3'))]) m') := by
  kernel_rfl

theorem loop23_2 (x_0 : Int) (b_2 o_2 : Nat) (k : KX) : ∀ (N : Nat) (x_4 : Int) (m : Mem), rounds Try.prog E23 Lam23 [0, 2, 4] lx23_2 ((loopsOf (bodyOf Try.f23)).getD 0 .skip) N [(.flat (.int .i64 x_0)), (.ptr b_2 o_2), (.flat (.int .i64 x_4))] m k = L23_2 x_0 b_2 o_2 N x_4 m (fun m' => k (.exit 0) (only [2] [(.ptr b_2 o_2)]) m') (fun x_3' m' => k .ret (only [2, 3] [(.ptr b_2 o_2), (.flat (.bool x_3'))]) m') := by
  intro N
  induction N with
  | zero => intros; rfl
  | succ N ih =>
    intro x_4 m
    refine (round23_2 x_0 b_2 o_2 x_4 m (fun vs m' => rounds Try.prog E23 Lam23 [0, 2, 4] lx23_2 ((loopsOf (bodyOf Try.f23)).getD 0 .skip) N vs m' k) k).trans ?_
    simp only [ih]
    rfl

theorem lok23_2 : LoopOK Try.prog E23 Lam23 ((loopsOf (bodyOf Try.f23)).getD 0 .skip) := by
  refine ⟨fun σ => ∃ x_0 b_2 o_2 x_4, σ 0 = .flat (.int .i64 x_0) ∧ σ 2 = .ptr b_2 o_2 ∧ σ 4 = .flat (.int .i64 x_4), [0, 2, 4], lx23_2, fun σ m k => ?_⟩
  have e : Lam23.loop ((loopsOf (bodyOf Try.f23)).getD 0 .skip) σ m k = Lam23_2 σ m k := by kernel_rfl
  rw [e]
  constructor
  · intro h
    unfold Lam23_2 at h
    obtain ⟨x_0, h0, h⟩ := kI_ok h
    obtain ⟨b_2, o_2, h1, h⟩ := kptr_ok h
    obtain ⟨x_4, h2, h⟩ := kI_ok h
    obtain ⟨N, h⟩ := h
    refine ⟨⟨x_0, b_2, o_2, x_4, h0, h1, h2⟩, N, ?_⟩
    have ev : [0, 2, 4].map σ = [(.flat (.int .i64 x_0)), (.ptr b_2 o_2), (.flat (.int .i64 x_4))] := by simp only [List.map_cons, List.map_nil, h0, h1, h2]
    rw [ev, loop23_2]
    exact h
  · rintro ⟨⟨x_0, b_2, o_2, x_4, h0, h1, h2⟩, N, h⟩
    have ev : [0, 2, 4].map σ = [(.flat (.int .i64 x_0)), (.ptr b_2 o_2), (.flat (.int .i64 x_4))] := by simp only [List.map_cons, List.map_nil, h0, h1, h2]
    rw [ev, loop23_2] at h
    unfold Lam23_2
    try simp only [h0, h1, h2, kI, kbool, kS, kptr, kaggN, kite, decide_true, eq_self]
    exact ⟨N, h⟩

theorem eqn23 (x_0 : Int) (m : Mem) (k : KV) : bodyK Try.prog E23 Lam23 Try.f23 true [(.flat (.int .i64 x_0))] m k = F23 x_0 m (fun c_1000 x_1001 m' => k (.tup [(.agg 4 c_1000), (.flat (.bool x_1001))]) m') := by
  kernel_rfl

theorem fs23 (w0 : World) : FS Try.prog w0 23 G23 := by
  refine (fs_body (Γ := E23) (sound_env (l := [(33, G33), (34, G34), (35, G35)]) w0 (by
    intro p hp
    simp only [List.mem_cons, List.not_mem_nil, or_false] at hp
    rcases hp with rfl | rfl | rfl
    · exact fs33 w0
    · exact fs34 w0
    · exact fs35 w0)) (by kernel_rfl) Try.func23 (Λ := Lam23) (c := (bodyOf Try.f23)) (by kernel_rfl) Try.call23 (by kernel_rfl) (LS_of (bodyOf Try.f23) 2 (by kernel_rfl) (by
    intro i hi
    match i, hi with
    | 0, _ => exact lok23_2
    | 1, _ => exact lok23_10
    | i + 2, hi => omega) 1 (by kernel_rfl) (by
    intro i hi
    match i, hi with
    | 0, _ => exact pok23_9102
    | i + 1, hi => omega)) true (np := 1) (Nat.le_of_ble_eq_true (by kernel_rfl))).imp fun args => ?_
  by_cases hl : args.length = 1
  rotate_left
  · exact .inr fun m k hk => by
      unfold G23 at hk
      split at hk
      · exact hl rfl
      · exact hk
  obtain ⟨a0, rfl⟩ : ∃ a0, args = [a0] := len_list1 hl
  rcases kI_or .i64 a0 with ⟨x_0, rfl⟩ | h
  rotate_left
  · exact .inr fun m k hk => h _ (by simpa only [G23, kI, kbool, kS, kptr, kaggN, kite, decide_true, eq_self] using hk)
  exact .inl fun m k => propext ⟨fun h => ⟨rfl, by rw [eqn23]; simpa only [G23, kI, kbool, kS, kptr, kaggN, kite, decide_true, eq_self] using h⟩, fun h => by have h := h.2; rw [eqn23] at h; simpa only [G23, kI, kbool, kS, kptr, kaggN, kite, decide_true, eq_self] using h⟩

def R26_2 (x_0 : ByteArray) (x_1 : Int) (x_5 : Int) (m : Mem) (kn : Int → Mem → Prop) (k0 : Mem → Prop) (kr : Bool → Mem → Prop) : Prop :=
  kif (decide (x_5 < (↑(x_0.size)))) (kif (decide (0 ≤ x_5) && decide (x_5 < x_0.size)) (kif (((x_0.data.getD (x_5).toNat 0).toNat) == x_1) (kr true m) (kn (IntKind.wrap .i64 (x_5 + 1)) m)) False) (k0  m)

def L26_2 (x_0 : ByteArray) (x_1 : Int) : Nat → Int → Mem → (Mem → Prop) → (Bool → Mem → Prop) → Prop
  | 0, _,  _, _, _ => bump False
  | N + 1, x_5,  m, k0, kr => R26_2 x_0 x_1 x_5 m (fun x_5' m' => L26_2 x_0 x_1 N x_5' m' k0 kr) k0 kr

/-- pianola/pianolaref3.has -/
def F26 (x_0 : ByteArray) (x_1 : Int) (m : Mem) (k : Bool → Mem → Prop) : Prop :=
  ∃ N4, L26_2 x_0 x_1 N4 0 m (fun m1 => (Keeps m m1 ∧ k false m)) (fun x2 m3 => (Keeps m m3 ∧ k x2 m))

def G26 (args : List AV) (m : Mem) (k : KV) : Prop := match args with
  | [a0, a1] => kS a0 fun x_0 => kI .u8 a1 fun x_1 => F26 x_0 x_1 m (fun x_1000 m' => k (.flat (.bool x_1000)) m')
  | _ => False

def E26 : Env := envOf []

def Lam26_2 (σ : Nat → AV) (m : Mem) (k : KX) : Prop := kS (σ 0) fun x_0 => kI .u8 (σ 1) fun x_1 => kI .i64 (σ 5) fun x_5 => ∃ N, L26_2 x_0 x_1 N x_5 m (fun m' => k (.exit 0) (only [] []) m') (fun x_4' m' => k .ret (only [4] [(.flat (.bool x_4'))]) m')

def Lam26 : LEnv := ⟨fun a σ m k => match firstReg a with
  | some 2 => Lam26_2 σ m k
  | _ => bump False,
  fun id => match id with
  | _ => bump false,
  fun b => match keyC b with
  | _ => bump false,
  fun b σ m k => match keyC b with
  | _ => bump False⟩

def lx26_2 : Ex → List Nat := fun e => match e with
  | .exit 0 => []
  | .ret => [4]
  | _ => []

theorem round26_2 (x_0 : ByteArray) (x_1 : Int) (x_5 : Int) (m : Mem) (G : List AV → Mem → Prop) (k : KX) : (wpA Try.prog E26 Lam26 ((loopsOf (bodyOf Try.f26)).getD 0 .skip) (only [0, 1, 5] [(.flat (.string x_0)), (.flat (.int .u8 x_1)), (.flat (.int .i64 x_5))]) m fun e σ' m' => match e with
    | .normal => G ([0, 1, 5].map σ') m'
    | .exit id => k (.exit id) (only (lx26_2 (.exit id)) ((lx26_2 (.exit id)).map σ')) m'
    | .ret => k .ret (only (lx26_2 .ret) ((lx26_2 .ret).map σ')) m') = R26_2 x_0 x_1 x_5 m (fun x_5' m' => G [(.flat (.string x_0)), (.flat (.int .u8 x_1)), (.flat (.int .i64 x_5'))] m') (fun m' => k (.exit 0) (only [] []) m') (fun x_4' m' => k .ret (only [4] [(.flat (.bool x_4'))]) m') := by
  kernel_rfl

theorem loop26_2 (x_0 : ByteArray) (x_1 : Int) (k : KX) : ∀ (N : Nat) (x_5 : Int) (m : Mem), rounds Try.prog E26 Lam26 [0, 1, 5] lx26_2 ((loopsOf (bodyOf Try.f26)).getD 0 .skip) N [(.flat (.string x_0)), (.flat (.int .u8 x_1)), (.flat (.int .i64 x_5))] m k = L26_2 x_0 x_1 N x_5 m (fun m' => k (.exit 0) (only [] []) m') (fun x_4' m' => k .ret (only [4] [(.flat (.bool x_4'))]) m') := by
  intro N
  induction N with
  | zero => intros; rfl
  | succ N ih =>
    intro x_5 m
    refine (round26_2 x_0 x_1 x_5 m (fun vs m' => rounds Try.prog E26 Lam26 [0, 1, 5] lx26_2 ((loopsOf (bodyOf Try.f26)).getD 0 .skip) N vs m' k) k).trans ?_
    simp only [ih]
    rfl

theorem lok26_2 : LoopOK Try.prog E26 Lam26 ((loopsOf (bodyOf Try.f26)).getD 0 .skip) := by
  refine ⟨fun σ => ∃ x_0 x_1 x_5, σ 0 = .flat (.string x_0) ∧ σ 1 = .flat (.int .u8 x_1) ∧ σ 5 = .flat (.int .i64 x_5), [0, 1, 5], lx26_2, fun σ m k => ?_⟩
  have e : Lam26.loop ((loopsOf (bodyOf Try.f26)).getD 0 .skip) σ m k = Lam26_2 σ m k := by kernel_rfl
  rw [e]
  constructor
  · intro h
    unfold Lam26_2 at h
    obtain ⟨x_0, h0, h⟩ := kS_ok h
    obtain ⟨x_1, h1, h⟩ := kI_ok h
    obtain ⟨x_5, h2, h⟩ := kI_ok h
    obtain ⟨N, h⟩ := h
    refine ⟨⟨x_0, x_1, x_5, h0, h1, h2⟩, N, ?_⟩
    have ev : [0, 1, 5].map σ = [(.flat (.string x_0)), (.flat (.int .u8 x_1)), (.flat (.int .i64 x_5))] := by simp only [List.map_cons, List.map_nil, h0, h1, h2]
    rw [ev, loop26_2]
    exact h
  · rintro ⟨⟨x_0, x_1, x_5, h0, h1, h2⟩, N, h⟩
    have ev : [0, 1, 5].map σ = [(.flat (.string x_0)), (.flat (.int .u8 x_1)), (.flat (.int .i64 x_5))] := by simp only [List.map_cons, List.map_nil, h0, h1, h2]
    rw [ev, loop26_2] at h
    unfold Lam26_2
    try simp only [h0, h1, h2, kI, kbool, kS, kptr, kaggN, kite, decide_true, eq_self]
    exact ⟨N, h⟩

theorem eqn26 (x_0 : ByteArray) (x_1 : Int) (m : Mem) (k : KV) : bodyK Try.prog E26 Lam26 Try.f26 true [(.flat (.string x_0)), (.flat (.int .u8 x_1))] m k = F26 x_0 x_1 m (fun x_1000 m' => k (.flat (.bool x_1000)) m') := by
  kernel_rfl

theorem fs26 (w0 : World) : FS Try.prog w0 26 G26 := by
  refine (fs_body (Γ := E26) (sound_env (l := []) w0 (by
    intro p hp
    cases hp)) (by kernel_rfl) Try.func26 (Λ := Lam26) (c := (bodyOf Try.f26)) (by kernel_rfl) Try.call26 (by kernel_rfl) (LS_of (bodyOf Try.f26) 1 (by kernel_rfl) (by
    intro i hi
    match i, hi with
    | 0, _ => exact lok26_2
    | i + 1, hi => omega) 0 (by kernel_rfl) (fun i hi => absurd hi (Nat.not_lt_zero i))) true (np := 2) (Nat.le_of_ble_eq_true (by kernel_rfl))).imp fun args => ?_
  by_cases hl : args.length = 2
  rotate_left
  · exact .inr fun m k hk => by
      unfold G26 at hk
      split at hk
      · exact hl rfl
      · exact hk
  obtain ⟨a0, a1, rfl⟩ : ∃ a0 a1, args = [a0, a1] := len_list2 hl
  rcases kS_or a0 with ⟨x_0, rfl⟩ | h
  rotate_left
  · exact .inr fun m k hk => h _ (by simpa only [G26, kI, kbool, kS, kptr, kaggN, kite, decide_true, eq_self] using hk)
  rcases kI_or .u8 a1 with ⟨x_1, rfl⟩ | h
  rotate_left
  · exact .inr fun m k hk => h _ (by simpa only [G26, kI, kbool, kS, kptr, kaggN, kite, decide_true, eq_self] using hk)
  exact .inl fun m k => propext ⟨fun h => ⟨rfl, by rw [eqn26]; simpa only [G26, kI, kbool, kS, kptr, kaggN, kite, decide_true, eq_self] using h⟩, fun h => by have h := h.2; rw [eqn26] at h; simpa only [G26, kI, kbool, kS, kptr, kaggN, kite, decide_true, eq_self] using h⟩

/-- pianola/pianolaref3.small -/
def F32 (x_0 : Int) (x_1 : Bool) (m : Mem) (k : Bool → Mem → Prop) : Prop :=
  kif (x_0 == 0) ((Keeps m m ∧ k true m)) (kif x_1 (kif (decide (x_0 > 0)) ((Keeps m m ∧ k (decide (x_0 < 32)) m)) ((Keeps m m ∧ k false m))) ((Keeps m m ∧ k false m)))

def G32 (args : List AV) (m : Mem) (k : KV) : Prop := match args with
  | [a0, a1] => kI .i64 a0 fun x_0 => kbool a1 fun x_1 => F32 x_0 x_1 m (fun x_1000 m' => k (.flat (.bool x_1000)) m')
  | _ => False

def E32 : Env := envOf []

def Lam32 : LEnv := ⟨fun a σ m k => match firstReg a with
  | _ => bump False,
  fun id => match id with
  | _ => bump false,
  fun b => match keyC b with
  | _ => bump false,
  fun b σ m k => match keyC b with
  | _ => bump False⟩

theorem eqn32 (x_0 : Int) (x_1 : Bool) (m : Mem) (k : KV) : bodyK Try.prog E32 Lam32 Try.f32 true [(.flat (.int .i64 x_0)), (.flat (.bool x_1))] m k = F32 x_0 x_1 m (fun x_1000 m' => k (.flat (.bool x_1000)) m') := by
  kernel_rfl

theorem fs32 (w0 : World) : FS Try.prog w0 32 G32 := by
  refine (fs_body (Γ := E32) (sound_env (l := []) w0 (by
    intro p hp
    cases hp)) (by kernel_rfl) Try.func32 (Λ := Lam32) (c := (bodyOf Try.f32)) (by kernel_rfl) Try.call32 (by kernel_rfl) (LS_of (bodyOf Try.f32) 0 (by kernel_rfl) (fun i hi => absurd hi (Nat.not_lt_zero i)) 0 (by kernel_rfl) (fun i hi => absurd hi (Nat.not_lt_zero i))) true (np := 2) (Nat.le_of_ble_eq_true (by kernel_rfl))).imp fun args => ?_
  by_cases hl : args.length = 2
  rotate_left
  · exact .inr fun m k hk => by
      unfold G32 at hk
      split at hk
      · exact hl rfl
      · exact hk
  obtain ⟨a0, a1, rfl⟩ : ∃ a0 a1, args = [a0, a1] := len_list2 hl
  rcases kI_or .i64 a0 with ⟨x_0, rfl⟩ | h
  rotate_left
  · exact .inr fun m k hk => h _ (by simpa only [G32, kI, kbool, kS, kptr, kaggN, kite, decide_true, eq_self] using hk)
  rcases kbool_or a1 with ⟨x_1, rfl⟩ | h
  rotate_left
  · exact .inr fun m k hk => h _ (by simpa only [G32, kI, kbool, kS, kptr, kaggN, kite, decide_true, eq_self] using hk)
  exact .inl fun m k => propext ⟨fun h => ⟨rfl, by rw [eqn32]; simpa only [G32, kI, kbool, kS, kptr, kaggN, kite, decide_true, eq_self] using h⟩, fun h => by have h := h.2; rw [eqn32] at h; simpa only [G32, kI, kbool, kS, kptr, kaggN, kite, decide_true, eq_self] using h⟩

def P22_10102 (b_1 o_1 : Nat) (x_5 : ByteArray) (x_6 : Int) (m : Mem) (kr : Bool → Mem → Prop) : Prop :=
  ∃ Fr15 : Nat → Prop, Fr15 b_1 ∧ (ldI .i64 m b_1 (o_1 + 1) fun x16 => F26 x_5 115 m fun x17 m18 => KeepsIn Fr15 m m18 ∧ (F32 x16 x17 m18 fun x19 m20 => KeepsIn Fr15 m18 m20 ∧ (kif x19 (Fr15 b_1 ∧ (ldI .i64 m20 b_1 (o_1 + 2) fun x21 => F26 x_5 116 m20 fun x22 m23 => KeepsIn Fr15 m20 m23 ∧ (F32 x21 x22 m23 fun x24 m25 => KeepsIn Fr15 m23 m25 ∧ (kif x24 (Fr15 b_1 ∧ (ldI .i64 m25 b_1 (o_1 + 3) fun x26 => F26 x_5 100 m25 fun x27 m28 => KeepsIn Fr15 m25 m28 ∧ (F32 x26 x27 m28 fun x29 m30 => KeepsIn Fr15 m28 m30 ∧ (kif x29 (Fr15 b_1 ∧ (ldI .i64 m30 b_1 (o_1 + 4) fun x31 => F26 x_5 104 m30 fun x32 m33 => KeepsIn Fr15 m30 m33 ∧ (F32 x31 x32 m33 fun x34 m35 => KeepsIn Fr15 m33 m35 ∧ (kif x34 (Fr15 b_1 ∧ (ldI .u32 m35 b_1 (o_1 + 5) fun x36 => kr (decide (x36 ≤ x_6)) m35)) (kr false m35))))) (kr false m30))))) (kr false m25))))) (kr false m20))))

/-- pianola/pianolaref3.Right -/
def F22 (c_0 : Nat → AV) (m : Mem) (k : Bool → Mem → Prop) : Prop :=
  newK m ⟨6, c_0, 25, false⟩ fun b2 m1 => ldI .i64 m1 b2 0 fun x3 => F23 x3 m1 fun c4 x5 m6 => newK m6 ⟨4, lget [(.flat (.int .i64 0)), (.flat (.int .i64 0)), (.flat (.int .i64 0)), (.flat (.string ⟨#[]⟩))], 56, false⟩ fun b8 m7 => stG 4 m7 b8 0 c4 fun m9 => kif (!x5) ((Keeps m m9 ∧ k false m)) (ldS m9 b8 3 fun x10 => F26 x10 105 m9 fun x11 m12 => kif x11 (P22_10102 b2 0 x10 65535 m12 (fun x37 m38 => (Keeps m m38 ∧ k x37 m))) (F26 x10 106 m12 fun x13 m14 => kif x13 (P22_10102 b2 0 x10 67108863 m14 (fun x39 m40 => (Keeps m m40 ∧ k x39 m))) (P22_10102 b2 0 x10 0 m14 (fun x41 m42 => (Keeps m m42 ∧ k x41 m)))))

def G22 (args : List AV) (m : Mem) (k : KV) : Prop := match args with
  | [a0] => kaggN 6 a0 fun c_0 => F22 c_0 m (fun x_1000 m' => k (.flat (.bool x_1000)) m')
  | _ => False

def E22 : Env := envOf [(23, G23), (26, G26), (32, G32)]

def LamP22_10102 (σ : Nat → AV) (m : Mem) (k : KX) : Prop := kptr (σ 1) fun b_1 o_1 => kS (σ 5) fun x_5 => kI .u32 (σ 6) fun x_6 => P22_10102 b_1 o_1 x_5 x_6 m (fun x_2' m' => k .ret (only [2] [(.flat (.bool x_2'))]) m')

def Lam22 : LEnv := ⟨fun a σ m k => match firstReg a with
  | _ => bump False,
  fun id => match id with
  | 10 => true
  | _ => bump false,
  fun b => match keyC b with
  | some 10102 => true
  | _ => bump false,
  fun b σ m k => match keyC b with
  | some 10102 => LamP22_10102 σ m k
  | _ => bump False⟩

def lxp22_10102 : Ex → List Nat := fun e => match e with
  | .ret => [2]
  | _ => []

theorem pc22_10102 (b_1 o_1 : Nat) (x_5 : ByteArray) (x_6 : Int) (m : Mem) (k : KX) : once Try.prog E22 Lam22 [1, 5, 6] lxp22_10102 (((secsOf (bodyOf Try.f22)).filter Lam22.cut).getD 0 .skip) [(.ptr b_1 o_1), (.flat (.string x_5)), (.flat (.int .u32 x_6))] m k = P22_10102 b_1 o_1 x_5 x_6 m (fun x_2' m' => k .ret (only [2] [(.flat (.bool x_2'))]) m') := by
  kernel_rfl

theorem pok22_10102 : PieceOK Try.prog E22 Lam22 (((secsOf (bodyOf Try.f22)).filter Lam22.cut).getD 0 .skip) := by
  refine ⟨fun σ => ∃ b_1 o_1 x_5 x_6, σ 1 = .ptr b_1 o_1 ∧ σ 5 = .flat (.string x_5) ∧ σ 6 = .flat (.int .u32 x_6), [1, 5, 6], lxp22_10102, fun σ m k => ?_⟩
  have e : Lam22.piece (((secsOf (bodyOf Try.f22)).filter Lam22.cut).getD 0 .skip) σ m k = LamP22_10102 σ m k := by kernel_rfl
  rw [e]
  constructor
  · intro h
    unfold LamP22_10102 at h
    obtain ⟨b_1, o_1, h0, h⟩ := kptr_ok h
    obtain ⟨x_5, h1, h⟩ := kS_ok h
    obtain ⟨x_6, h2, h⟩ := kI_ok h
    refine ⟨⟨b_1, o_1, x_5, x_6, h0, h1, h2⟩, ?_⟩
    have ev : [1, 5, 6].map σ = [(.ptr b_1 o_1), (.flat (.string x_5)), (.flat (.int .u32 x_6))] := by simp only [List.map_cons, List.map_nil, h0, h1, h2]
    rw [ev, pc22_10102]
    exact h
  · rintro ⟨⟨b_1, o_1, x_5, x_6, h0, h1, h2⟩, h⟩
    have ev : [1, 5, 6].map σ = [(.ptr b_1 o_1), (.flat (.string x_5)), (.flat (.int .u32 x_6))] := by simp only [List.map_cons, List.map_nil, h0, h1, h2]
    rw [ev, pc22_10102] at h
    unfold LamP22_10102
    try simp only [h0, h1, h2, kI, kbool, kS, kptr, kaggN, kite, decide_true, eq_self]
    exact h

theorem eqn22 (c_0 : Nat → AV) (m : Mem) (k : KV) : bodyK Try.prog E22 Lam22 Try.f22 true [(.agg 6 c_0)] m k = F22 c_0 m (fun x_1000 m' => k (.flat (.bool x_1000)) m') := by
  kernel_rfl

theorem fs22 (w0 : World) : FS Try.prog w0 22 G22 := by
  refine (fs_body (Γ := E22) (sound_env (l := [(23, G23), (26, G26), (32, G32)]) w0 (by
    intro p hp
    simp only [List.mem_cons, List.not_mem_nil, or_false] at hp
    rcases hp with rfl | rfl | rfl
    · exact fs23 w0
    · exact fs26 w0
    · exact fs32 w0)) (by kernel_rfl) Try.func22 (Λ := Lam22) (c := (bodyOf Try.f22)) (by kernel_rfl) Try.call22 (by kernel_rfl) (LS_of (bodyOf Try.f22) 0 (by kernel_rfl) (fun i hi => absurd hi (Nat.not_lt_zero i)) 1 (by kernel_rfl) (by
    intro i hi
    match i, hi with
    | 0, _ => exact pok22_10102
    | i + 1, hi => omega)) true (np := 1) (Nat.le_of_ble_eq_true (by kernel_rfl))).imp fun args => ?_
  by_cases hl : args.length = 1
  rotate_left
  · exact .inr fun m k hk => by
      unfold G22 at hk
      split at hk
      · exact hl rfl
      · exact hk
  obtain ⟨a0, rfl⟩ : ∃ a0, args = [a0] := len_list1 hl
  rcases kaggN_or 6 a0 with ⟨c_0, rfl⟩ | h
  rotate_left
  · exact .inr fun m k hk => h _ (by simpa only [G22, kI, kbool, kS, kptr, kaggN, kite, decide_true, eq_self] using hk)
  exact .inl fun m k => propext ⟨fun h => ⟨rfl, by rw [eqn22]; simpa only [G22, kI, kbool, kS, kptr, kaggN, kite, decide_true, eq_self] using h⟩, fun h => by have h := h.2; rw [eqn22] at h; simpa only [G22, kI, kbool, kS, kptr, kaggN, kite, decide_true, eq_self] using h⟩

def P17_10004 (b_4 o_4 : Nat) (x_6 : Int) (x_67 : Bool) (m : Mem) (kn : Int → Mem → Prop) : Prop :=
  kif x_67 (ldI .i64 m b_4 (o_4 + 1) fun x26 => kn (bits .or .u32 (bits .or .u32 x_6 33554432) (IntKind.wrap .u32 (IntKind.wrap .i64 (x26 - 64)))) m) (ldI .i64 m b_4 (o_4 + 0) fun x27 => kif (x27 == 16) (ldI .i64 m b_4 (o_4 + 1) fun x28 => kn (bits .or .u32 x_6 (IntKind.wrap .u32 ((IntKind.wrap .u32 x28) * 2097152))) m) (kn x_6 m))

def P17_6004 (b_4 o_4 : Nat) (x_6 : Int) (x_43 : Bool) (m : Mem) (kn : Int → Mem → Prop) : Prop :=
  kif x_43 (ldI .i64 m b_4 (o_4 + 1) fun x21 => kn (bits .or .u32 x_6 (IntKind.wrap .u32 x21)) m) (ldI .i64 m b_4 (o_4 + 0) fun x22 => kif (x22 == 1) (ldI .i64 m b_4 (o_4 + 1) fun x23 => kn (bits .or .u32 x_6 (IntKind.wrap .u32 ((IntKind.wrap .u32 x23) * 65536))) m) (ldI .i64 m b_4 (o_4 + 0) fun x24 => kif (x24 == 16) (ldI .i64 m b_4 (o_4 + 1) fun x25 => P17_10004 b_4 o_4 x_6 (decide (x25 ≥ 64)) m (fun x29 m30 => kn x29 m30)) (P17_10004 b_4 o_4 x_6 false m (fun x31 m32 => kn x31 m32))))

/-- pianola/pianolaref3.Word -/
def F17 (c_0 : Nat → AV) (m : Mem) (k : Int → Bool → Mem → Prop) : Prop :=
  newK m ⟨6, c_0, 25, false⟩ fun b2 m1 => ldG 6 m1 b2 0 fun c3 => F22 c3 m1 fun x4 m5 => kif (!x4) ((Keeps m m5 ∧ k 0 false m)) (ldI .i64 m5 b2 0 fun x6 => F23 x6 m5 fun c7 x8 m9 => newK m9 ⟨4, lget [(.flat (.int .i64 0)), (.flat (.int .i64 0)), (.flat (.int .i64 0)), (.flat (.string ⟨#[]⟩))], 56, false⟩ fun b11 m10 => stG 4 m10 b11 0 c7 fun m12 => ldI .i64 m12 b11 0 fun x13 => ldI .i64 m12 b2 1 fun x14 => ldI .i64 m12 b2 2 fun x15 => ldI .i64 m12 b2 3 fun x16 => ldI .i64 m12 b2 4 fun x17 => ldI .u32 m12 b2 5 fun x18 => ldI .i64 m12 b11 0 fun x19 => kif (x19 == 0) (P17_6004 b11 0 (bits .or .u32 (bits .or .u32 (bits .or .u32 (bits .or .u32 (bits .or .u32 (IntKind.wrap .u32 ((IntKind.wrap .u32 x13) * 67108864)) (IntKind.wrap .u32 ((IntKind.wrap .u32 x14) * 2097152))) (IntKind.wrap .u32 ((IntKind.wrap .u32 x15) * 65536))) (IntKind.wrap .u32 ((IntKind.wrap .u32 x16) * 2048))) (IntKind.wrap .u32 ((IntKind.wrap .u32 x17) * 64))) x18) true m12 (fun x33 m34 => (Keeps m m34 ∧ k x33 true m))) (ldI .i64 m12 b11 0 fun x20 => P17_6004 b11 0 (bits .or .u32 (bits .or .u32 (bits .or .u32 (bits .or .u32 (bits .or .u32 (IntKind.wrap .u32 ((IntKind.wrap .u32 x13) * 67108864)) (IntKind.wrap .u32 ((IntKind.wrap .u32 x14) * 2097152))) (IntKind.wrap .u32 ((IntKind.wrap .u32 x15) * 65536))) (IntKind.wrap .u32 ((IntKind.wrap .u32 x16) * 2048))) (IntKind.wrap .u32 ((IntKind.wrap .u32 x17) * 64))) x18) (x20 == 28) m12 (fun x35 m36 => (Keeps m m36 ∧ k x35 true m))))

def G17 (args : List AV) (m : Mem) (k : KV) : Prop := match args with
  | [a0] => kaggN 6 a0 fun c_0 => F17 c_0 m (fun x_1000 x_1001 m' => k (.tup [(.flat (.int .u32 x_1000)), (.flat (.bool x_1001))]) m')
  | _ => False

def E17 : Env := envOf [(22, G22), (23, G23)]

def LamP17_6004 (σ : Nat → AV) (m : Mem) (k : KX) : Prop := kptr (σ 4) fun b_4 o_4 => kI .u32 (σ 6) fun x_6 => kbool (σ 43) fun x_43 => P17_6004 b_4 o_4 x_6 x_43 m (fun x_6' m' => k .normal (only [6] [(.flat (.int .u32 x_6'))]) m')

def LamP17_10004 (σ : Nat → AV) (m : Mem) (k : KX) : Prop := kptr (σ 4) fun b_4 o_4 => kI .u32 (σ 6) fun x_6 => kbool (σ 67) fun x_67 => P17_10004 b_4 o_4 x_6 x_67 m (fun x_6' m' => k .normal (only [6] [(.flat (.int .u32 x_6'))]) m')

def Lam17 : LEnv := ⟨fun a σ m k => match firstReg a with
  | _ => bump False,
  fun id => match id with
  | _ => bump false,
  fun b => match keyC b with
  | some 6004 => true
  | some 10004 => true
  | _ => bump false,
  fun b σ m k => match keyC b with
  | some 6004 => LamP17_6004 σ m k
  | some 10004 => LamP17_10004 σ m k
  | _ => bump False⟩

def lxp17_10004 : Ex → List Nat := fun e => match e with
  | .normal => [6]
  | _ => []

theorem pc17_10004 (b_4 o_4 : Nat) (x_6 : Int) (x_67 : Bool) (m : Mem) (k : KX) : once Try.prog E17 Lam17 [4, 6, 67] lxp17_10004 (((secsOf (bodyOf Try.f17)).filter Lam17.cut).getD 1 .skip) [(.ptr b_4 o_4), (.flat (.int .u32 x_6)), (.flat (.bool x_67))] m k = P17_10004 b_4 o_4 x_6 x_67 m (fun x_6' m' => k .normal (only [6] [(.flat (.int .u32 x_6'))]) m') := by
  kernel_rfl

theorem pok17_10004 : PieceOK Try.prog E17 Lam17 (((secsOf (bodyOf Try.f17)).filter Lam17.cut).getD 1 .skip) := by
  refine ⟨fun σ => ∃ b_4 o_4 x_6 x_67, σ 4 = .ptr b_4 o_4 ∧ σ 6 = .flat (.int .u32 x_6) ∧ σ 67 = .flat (.bool x_67), [4, 6, 67], lxp17_10004, fun σ m k => ?_⟩
  have e : Lam17.piece (((secsOf (bodyOf Try.f17)).filter Lam17.cut).getD 1 .skip) σ m k = LamP17_10004 σ m k := by kernel_rfl
  rw [e]
  constructor
  · intro h
    unfold LamP17_10004 at h
    obtain ⟨b_4, o_4, h0, h⟩ := kptr_ok h
    obtain ⟨x_6, h1, h⟩ := kI_ok h
    obtain ⟨x_67, h2, h⟩ := kbool_ok h
    refine ⟨⟨b_4, o_4, x_6, x_67, h0, h1, h2⟩, ?_⟩
    have ev : [4, 6, 67].map σ = [(.ptr b_4 o_4), (.flat (.int .u32 x_6)), (.flat (.bool x_67))] := by simp only [List.map_cons, List.map_nil, h0, h1, h2]
    rw [ev, pc17_10004]
    exact h
  · rintro ⟨⟨b_4, o_4, x_6, x_67, h0, h1, h2⟩, h⟩
    have ev : [4, 6, 67].map σ = [(.ptr b_4 o_4), (.flat (.int .u32 x_6)), (.flat (.bool x_67))] := by simp only [List.map_cons, List.map_nil, h0, h1, h2]
    rw [ev, pc17_10004] at h
    unfold LamP17_10004
    try simp only [h0, h1, h2, kI, kbool, kS, kptr, kaggN, kite, decide_true, eq_self]
    exact h

def lxp17_6004 : Ex → List Nat := fun e => match e with
  | .normal => [6]
  | _ => []

theorem pc17_6004 (b_4 o_4 : Nat) (x_6 : Int) (x_43 : Bool) (m : Mem) (k : KX) : once Try.prog E17 Lam17 [4, 6, 43] lxp17_6004 (((secsOf (bodyOf Try.f17)).filter Lam17.cut).getD 0 .skip) [(.ptr b_4 o_4), (.flat (.int .u32 x_6)), (.flat (.bool x_43))] m k = P17_6004 b_4 o_4 x_6 x_43 m (fun x_6' m' => k .normal (only [6] [(.flat (.int .u32 x_6'))]) m') := by
  kernel_rfl

theorem pok17_6004 : PieceOK Try.prog E17 Lam17 (((secsOf (bodyOf Try.f17)).filter Lam17.cut).getD 0 .skip) := by
  refine ⟨fun σ => ∃ b_4 o_4 x_6 x_43, σ 4 = .ptr b_4 o_4 ∧ σ 6 = .flat (.int .u32 x_6) ∧ σ 43 = .flat (.bool x_43), [4, 6, 43], lxp17_6004, fun σ m k => ?_⟩
  have e : Lam17.piece (((secsOf (bodyOf Try.f17)).filter Lam17.cut).getD 0 .skip) σ m k = LamP17_6004 σ m k := by kernel_rfl
  rw [e]
  constructor
  · intro h
    unfold LamP17_6004 at h
    obtain ⟨b_4, o_4, h0, h⟩ := kptr_ok h
    obtain ⟨x_6, h1, h⟩ := kI_ok h
    obtain ⟨x_43, h2, h⟩ := kbool_ok h
    refine ⟨⟨b_4, o_4, x_6, x_43, h0, h1, h2⟩, ?_⟩
    have ev : [4, 6, 43].map σ = [(.ptr b_4 o_4), (.flat (.int .u32 x_6)), (.flat (.bool x_43))] := by simp only [List.map_cons, List.map_nil, h0, h1, h2]
    rw [ev, pc17_6004]
    exact h
  · rintro ⟨⟨b_4, o_4, x_6, x_43, h0, h1, h2⟩, h⟩
    have ev : [4, 6, 43].map σ = [(.ptr b_4 o_4), (.flat (.int .u32 x_6)), (.flat (.bool x_43))] := by simp only [List.map_cons, List.map_nil, h0, h1, h2]
    rw [ev, pc17_6004] at h
    unfold LamP17_6004
    try simp only [h0, h1, h2, kI, kbool, kS, kptr, kaggN, kite, decide_true, eq_self]
    exact h

theorem eqn17 (c_0 : Nat → AV) (m : Mem) (k : KV) : bodyK Try.prog E17 Lam17 Try.f17 true [(.agg 6 c_0)] m k = F17 c_0 m (fun x_1000 x_1001 m' => k (.tup [(.flat (.int .u32 x_1000)), (.flat (.bool x_1001))]) m') := by
  kernel_rfl

theorem fs17 (w0 : World) : FS Try.prog w0 17 G17 := by
  refine (fs_body (Γ := E17) (sound_env (l := [(22, G22), (23, G23)]) w0 (by
    intro p hp
    simp only [List.mem_cons, List.not_mem_nil, or_false] at hp
    rcases hp with rfl | rfl
    · exact fs22 w0
    · exact fs23 w0)) (by kernel_rfl) Try.func17 (Λ := Lam17) (c := (bodyOf Try.f17)) (by kernel_rfl) Try.call17 (by kernel_rfl) (LS_of (bodyOf Try.f17) 0 (by kernel_rfl) (fun i hi => absurd hi (Nat.not_lt_zero i)) 2 (by kernel_rfl) (by
    intro i hi
    match i, hi with
    | 0, _ => exact pok17_6004
    | 1, _ => exact pok17_10004
    | i + 2, hi => omega)) true (np := 1) (Nat.le_of_ble_eq_true (by kernel_rfl))).imp fun args => ?_
  by_cases hl : args.length = 1
  rotate_left
  · exact .inr fun m k hk => by
      unfold G17 at hk
      split at hk
      · exact hl rfl
      · exact hk
  obtain ⟨a0, rfl⟩ : ∃ a0, args = [a0] := len_list1 hl
  rcases kaggN_or 6 a0 with ⟨c_0, rfl⟩ | h
  rotate_left
  · exact .inr fun m k hk => h _ (by simpa only [G17, kI, kbool, kS, kptr, kaggN, kite, decide_true, eq_self] using hk)
  exact .inl fun m k => propext ⟨fun h => ⟨rfl, by rw [eqn17]; simpa only [G17, kI, kbool, kS, kptr, kaggN, kite, decide_true, eq_self] using h⟩, fun h => by have h := h.2; rw [eqn17] at h; simpa only [G17, kI, kbool, kS, kptr, kaggN, kite, decide_true, eq_self] using h⟩

def P24_5102  (m : Mem) (kr : AV → Mem → Prop) : Prop :=
  F34  m fun v14 m15 => kr v14 m15

def P24_4004 (x_15 : Bool) (m : Mem) (kr : AV → Mem → Prop) (kn : Mem → Prop) : Prop :=
  kif x_15 (F35  m fun v3 m4 => kr v3 m4) (kn  m)

/-- pianola/pianolaref3.rows -/
def F24 (x_0 : Int) (m : Mem) (k : AV → Mem → Prop) : Prop :=
  kif (x_0 == 0) (F33  m fun v1 m2 => k v1 m2) (kif (x_0 == 1) (P24_4004 true m (fun v5 m6 => k v5 m6) (fun m7 => P24_5102  m7 (fun v16 m17 => k v16 m17))) (kif (x_0 == 16) (P24_4004 true m (fun v8 m9 => k v8 m9) (fun m10 => P24_5102  m10 (fun v18 m19 => k v18 m19))) (P24_4004 (x_0 == 28) m (fun v11 m12 => k v11 m12) (fun m13 => P24_5102  m13 (fun v20 m21 => k v20 m21)))))

def G24 (args : List AV) (m : Mem) (k : KV) : Prop := match args with
  | [a0] => kI .i64 a0 fun x_0 => F24 x_0 m (fun v_1000 m' => k v_1000 m')
  | _ => False

def E24 : Env := envOf [(33, G33), (34, G34), (35, G35)]

def LamP24_4004 (σ : Nat → AV) (m : Mem) (k : KX) : Prop := kbool (σ 15) fun x_15 => P24_4004 x_15 m (fun v_2' m' => k .ret (only [2] [v_2']) m') (fun m' => k .normal (only [] []) m')

def LamP24_5102 (σ : Nat → AV) (m : Mem) (k : KX) : Prop := P24_5102  m (fun v_2' m' => k .ret (only [2] [v_2']) m')

def Lam24 : LEnv := ⟨fun a σ m k => match firstReg a with
  | _ => bump False,
  fun id => match id with
  | _ => bump false,
  fun b => match keyC b with
  | some 4004 => true
  | some 5102 => true
  | _ => bump false,
  fun b σ m k => match keyC b with
  | some 4004 => LamP24_4004 σ m k
  | some 5102 => LamP24_5102 σ m k
  | _ => bump False⟩

def lxp24_5102 : Ex → List Nat := fun e => match e with
  | .ret => [2]
  | _ => []

theorem pc24_5102  (m : Mem) (k : KX) : once Try.prog E24 Lam24 [] lxp24_5102 (((secsOf (bodyOf Try.f24)).filter Lam24.cut).getD 0 .skip) [] m k = P24_5102  m (fun v_2' m' => k .ret (only [2] [v_2']) m') := by
  kernel_rfl

theorem pok24_5102 : PieceOK Try.prog E24 Lam24 (((secsOf (bodyOf Try.f24)).filter Lam24.cut).getD 0 .skip) := by
  refine ⟨fun _ => True, [], lxp24_5102, fun σ m k => ?_⟩
  have e : Lam24.piece (((secsOf (bodyOf Try.f24)).filter Lam24.cut).getD 0 .skip) σ m k = LamP24_5102 σ m k := by kernel_rfl
  rw [e]
  constructor
  · intro h
    unfold LamP24_5102 at h
    refine ⟨trivial, ?_⟩
    have ev : [].map σ = [] := by simp only [List.map_cons, List.map_nil]
    rw [ev, pc24_5102]
    exact h
  · rintro ⟨_, h⟩
    have ev : [].map σ = [] := by simp only [List.map_cons, List.map_nil]
    rw [ev, pc24_5102] at h
    unfold LamP24_5102
    try simp only [kI, kbool, kS, kptr, kaggN, kite, decide_true, eq_self]
    exact h

def lxp24_4004 : Ex → List Nat := fun e => match e with
  | .ret => [2]
  | .normal => []
  | _ => []

theorem pc24_4004 (x_15 : Bool) (m : Mem) (k : KX) : once Try.prog E24 Lam24 [15] lxp24_4004 (((secsOf (bodyOf Try.f24)).filter Lam24.cut).getD 1 .skip) [(.flat (.bool x_15))] m k = P24_4004 x_15 m (fun v_2' m' => k .ret (only [2] [v_2']) m') (fun m' => k .normal (only [] []) m') := by
  kernel_rfl

theorem pok24_4004 : PieceOK Try.prog E24 Lam24 (((secsOf (bodyOf Try.f24)).filter Lam24.cut).getD 1 .skip) := by
  refine ⟨fun σ => ∃ x_15, σ 15 = .flat (.bool x_15), [15], lxp24_4004, fun σ m k => ?_⟩
  have e : Lam24.piece (((secsOf (bodyOf Try.f24)).filter Lam24.cut).getD 1 .skip) σ m k = LamP24_4004 σ m k := by kernel_rfl
  rw [e]
  constructor
  · intro h
    unfold LamP24_4004 at h
    obtain ⟨x_15, h0, h⟩ := kbool_ok h
    refine ⟨⟨x_15, h0⟩, ?_⟩
    have ev : [15].map σ = [(.flat (.bool x_15))] := by simp only [List.map_cons, List.map_nil, h0]
    rw [ev, pc24_4004]
    exact h
  · rintro ⟨⟨x_15, h0⟩, h⟩
    have ev : [15].map σ = [(.flat (.bool x_15))] := by simp only [List.map_cons, List.map_nil, h0]
    rw [ev, pc24_4004] at h
    unfold LamP24_4004
    try simp only [h0, kI, kbool, kS, kptr, kaggN, kite, decide_true, eq_self]
    exact h

theorem eqn24 (x_0 : Int) (m : Mem) (k : KV) : bodyK Try.prog E24 Lam24 Try.f24 false [(.flat (.int .i64 x_0))] m k = F24 x_0 m (fun v_1000 m' => k v_1000 m') := by
  kernel_rfl

theorem fs24 (w0 : World) : FS Try.prog w0 24 G24 := by
  refine (fs_body (Γ := E24) (sound_env (l := [(33, G33), (34, G34), (35, G35)]) w0 (by
    intro p hp
    simp only [List.mem_cons, List.not_mem_nil, or_false] at hp
    rcases hp with rfl | rfl | rfl
    · exact fs33 w0
    · exact fs34 w0
    · exact fs35 w0)) (by kernel_rfl) Try.func24 (Λ := Lam24) (c := (bodyOf Try.f24)) (by kernel_rfl) Try.call24 (by kernel_rfl) (LS_of (bodyOf Try.f24) 0 (by kernel_rfl) (fun i hi => absurd hi (Nat.not_lt_zero i)) 2 (by kernel_rfl) (by
    intro i hi
    match i, hi with
    | 0, _ => exact pok24_5102
    | 1, _ => exact pok24_4004
    | i + 2, hi => omega)) false (np := 1) (Nat.le_of_ble_eq_true (by kernel_rfl))).imp fun args => ?_
  by_cases hl : args.length = 1
  rotate_left
  · exact .inr fun m k hk => by
      unfold G24 at hk
      split at hk
      · exact hl rfl
      · exact hk
  obtain ⟨a0, rfl⟩ : ∃ a0, args = [a0] := len_list1 hl
  rcases kI_or .i64 a0 with ⟨x_0, rfl⟩ | h
  rotate_left
  · exact .inr fun m k hk => h _ (by simpa only [G24, kI, kbool, kS, kptr, kaggN, kite, decide_true, eq_self] using hk)
  exact .inl fun m k => propext ⟨fun h => ⟨rfl, by rw [eqn24]; simpa only [G24, kI, kbool, kS, kptr, kaggN, kite, decide_true, eq_self] using h⟩, fun h => by have h := h.2; rw [eqn24] at h; simpa only [G24, kI, kbool, kS, kptr, kaggN, kite, decide_true, eq_self] using h⟩

end Go.Proofs.Ytppikpjmlbaccaa.Am
