/- What Go functions ask of what follows them, as plain functions over the abstract machine; the machine asks just that. Written by gen.py. -/
import Derived.Test.YtobdghdcmkdcaaaProg
import Derived.Test.YtobdghdcmkdcaaaAmL
import Derived.Test.YtobdghdcmkdcaaaM1
namespace Go.Proofs.Ytobdghdcmkdcaaa.Am
set_option linter.unusedVariables false
set_option linter.unusedSimpArgs false
set_option maxRecDepth 100000

def E11 : Env := envOf []

def R11_9 (b_2 o_2 : Nat) (b_3 o_3 : Nat) (v_46 : AV) (x_47 : Int) (v_5 : AV) (x_48 : Int) (m : Mem) (kn : AV → Int → Mem → Prop) (k2 : AV → Mem → Prop) : Prop :=
  kif (decide (x_48 < x_47)) (ksl v_46 fun b24 o25 l26 p27 => kif (decide (0 ≤ x_48) && decide (x_48 < l26)) (ldB m b24 (o25 + (x_48).toNat * 1) fun x28 => kif x28 (newK m ⟨1, upd (lget [(.flat (.int .i64 0))]) 0 (.flat (.int .i64 (IntKind.wrap .i64 (32 + x_48)))), 3, false⟩ fun b30 m29 => appS 1 8 3 v_5 (.sl b30 0 1 (.ex 1)) m29 fun v31 m32 => kn v31 (IntKind.wrap .i64 (x_48 + 1)) m32) (kn v_5 (IntKind.wrap .i64 (x_48 + 1)) m)) False) (k2 v_5 m)

def L11_9 (b_2 o_2 : Nat) (b_3 o_3 : Nat) (v_46 : AV) (x_47 : Int) : Nat → AV → Int → Mem → (AV → Mem → Prop) → Prop
  | 0, _, _,  _, _ => bump False
  | N + 1, v_5, x_48,  m, k2 => R11_9 b_2 o_2 b_3 o_3 v_46 x_47 v_5 x_48 m (fun v_5' x_48' m' => L11_9 b_2 o_2 b_3 o_3 v_46 x_47 N v_5' x_48' m' k2) k2

def R11_3 (b_2 o_2 : Nat) (b_3 o_3 : Nat) (v_5 : AV) (x_9 : Int) (m : Mem) (kn : AV → Int → Mem → Prop) (k0 : AV → Mem → Prop) : Prop :=
  kif (decide (x_9 < 32)) (kif (decide (0 ≤ x_9) && decide (x_9 < 32)) (ldI .u32 m b_2 (o_2 + 0 + (x_9).toNat * 1) fun x5 => kif (decide (0 ≤ x_9) && decide (x_9 < 32)) (ldI .u32 m b_3 (o_3 + 0 + (x_9).toNat * 1) fun x6 => kif (x5 != x6) (newK m ⟨1, upd (lget [(.flat (.int .i64 0))]) 0 (.flat (.int .i64 x_9)), 3, false⟩ fun b8 m7 => appS 1 8 3 v_5 (.sl b8 0 1 (.ex 1)) m7 fun v9 m10 => kn v9 (IntKind.wrap .i64 (x_9 + 1)) m10) (kn v_5 (IntKind.wrap .i64 (x_9 + 1)) m)) False) False) (k0 v_5 m)

def L11_3 (b_2 o_2 : Nat) (b_3 o_3 : Nat) : Nat → AV → Int → Mem → (AV → Mem → Prop) → Prop
  | 0, _, _,  _, _ => bump False
  | N + 1, v_5, x_9,  m, k0 => R11_3 b_2 o_2 b_3 o_3 v_5 x_9 m (fun v_5' x_9' m' => L11_3 b_2 o_2 b_3 o_3 N v_5' x_9' m' k0) k0

/-- pianola/audit.Differ -/
def F11 (c_0 : Nat → AV) (c_1 : Nat → AV) (m : Mem) (k : AV → Mem → Prop) : Prop :=
  newK m ⟨73, c_0, 33, false⟩ fun b2 m1 => newK m1 ⟨73, c_1, 33, false⟩ fun b4 m3 => ∃ N13, L11_3 b2 0 b4 0 N13 (.flat (.slice none 0 0)) 0 m3 (fun v11 m12 => ldI .u32 m12 b2 32 fun x14 => ldI .u32 m12 b4 32 fun x15 => ldI .u32 m12 b2 33 fun x16 => ldI .u32 m12 b4 33 fun x17 => ldI .u32 m12 b2 34 fun x18 => ldI .u32 m12 b4 34 fun x19 => ldI .u32 m12 b2 35 fun x20 => ldI .u32 m12 b4 35 fun x21 => newK m12 ⟨4, upd (upd (upd (upd (lget [(.flat (.bool false)), (.flat (.bool false)), (.flat (.bool false)), (.flat (.bool false))]) 0 (.flat (.bool (x14 != x15)))) 1 (.flat (.bool (x16 != x17)))) 2 (.flat (.bool (x18 != x19)))) 3 (.flat (.bool (x20 != x21))), 4, false⟩ fun b23 m22 => ∃ N35, L11_9 b2 0 b4 0 (.sl b23 0 4 (.ex 4)) 4 N35 v11 0 m22 (fun v33 m34 => ∃ Fr36 : Nat → Prop, Fr36 b2 ∧ (ldG 32 m34 b2 0 fun c37 => Fr36 b2 ∧ (ldI .u32 m34 b2 32 fun x38 => Fr36 b2 ∧ (ldI .u32 m34 b2 33 fun x39 => Fr36 b2 ∧ (ldI .u32 m34 b2 34 fun x40 => Fr36 b2 ∧ (ldI .u32 m34 b2 35 fun x41 => stG 32 m34 b4 0 c37 fun m42 => KeepsIn Fr36 m34 m42 ∧ (stC m42 b4 32 (.flat (.int .u32 x38)) fun m43 => KeepsIn Fr36 m42 m43 ∧ (stC m43 b4 33 (.flat (.int .u32 x39)) fun m44 => KeepsIn Fr36 m43 m44 ∧ (stC m44 b4 34 (.flat (.int .u32 x40)) fun m45 => KeepsIn Fr36 m44 m45 ∧ (stC m45 b4 35 (.flat (.int .u32 x41)) fun m46 => KeepsIn Fr36 m45 m46 ∧ (ldG 73 m46 b2 0 fun c47 => ldG 73 m46 b4 0 fun c48 => geq K33 c47 c48 fun x49 => kif (!x49) (newK m46 ⟨1, upd (lget [(.flat (.int .i64 0))]) 0 (.flat (.int .i64 36)), 3, false⟩ fun b51 m50 => appS 1 8 3 v33 (.sl b51 0 1 (.ex 1)) m50 fun v52 m53 => k v52 m53) (k v33 m46)))))))))))))

def G11 (args : List AV) (m : Mem) (k : KV) : Prop := match args with
  | [a0, a1] => kaggN 73 a0 fun c_0 => kaggN 73 a1 fun c_1 => F11 c_0 c_1 m (fun v_1000 m' => k v_1000 m')
  | _ => False

def Lam11_3 (σ : Nat → AV) (m : Mem) (k : KX) : Prop := kptr (σ 2) fun b_2 o_2 => kptr (σ 3) fun b_3 o_3 => kI .i64 (σ 9) fun x_9 => ∃ N, L11_3 b_2 o_2 b_3 o_3 N (σ 5) x_9 m (fun v_5' m' => k (.exit 0) (only [2, 3, 5] [(.ptr b_2 o_2), (.ptr b_3 o_3), v_5']) m')

def Lam11_9 (σ : Nat → AV) (m : Mem) (k : KX) : Prop := kptr (σ 2) fun b_2 o_2 => kptr (σ 3) fun b_3 o_3 => kI .i64 (σ 47) fun x_47 => kI .i64 (σ 48) fun x_48 => ∃ N, L11_9 b_2 o_2 b_3 o_3 (σ 46) x_47 N (σ 5) x_48 m (fun v_5' m' => k (.exit 2) (only [2, 3, 5] [(.ptr b_2 o_2), (.ptr b_3 o_3), v_5']) m')

def Lam11 : LEnv := ⟨fun a σ m k => match firstReg a with
  | some 3 => Lam11_3 σ m k
  | some 9 => Lam11_9 σ m k
  | _ => bump False,
  fun id => match id with
  | 14 => true
  | _ => bump false,
  fun b => match keyC b with
  | _ => bump false,
  fun b σ m k => match keyC b with
  | _ => bump False⟩

def lx11_9 : Ex → List Nat := fun e => match e with
  | .exit 2 => [2, 3, 5]
  | _ => []

theorem round11_9 (b_2 o_2 : Nat) (b_3 o_3 : Nat) (v_46 : AV) (x_47 : Int) (v_5 : AV) (x_48 : Int) (m : Mem) (G : List AV → Mem → Prop) (k : KX) : (wpA Try.prog E11 Lam11 ((loopsOf (bodyOf Try.f11)).getD 1 .skip) (only [2, 3, 5, 46, 47, 48] [(.ptr b_2 o_2), (.ptr b_3 o_3), v_5, v_46, (.flat (.int .i64 x_47)), (.flat (.int .i64 x_48))]) m fun e σ' m' => match e with
    | .normal => G ([2, 3, 5, 46, 47, 48].map σ') m'
    | .exit id => k (.exit id) (only (lx11_9 (.exit id)) ((lx11_9 (.exit id)).map σ')) m'
    | .ret => k .ret (only (lx11_9 .ret) ((lx11_9 .ret).map σ')) m') = R11_9 b_2 o_2 b_3 o_3 v_46 x_47 v_5 x_48 m (fun v_5' x_48' m' => G [(.ptr b_2 o_2), (.ptr b_3 o_3), v_5', v_46, (.flat (.int .i64 x_47)), (.flat (.int .i64 x_48'))] m') (fun v_5' m' => k (.exit 2) (only [2, 3, 5] [(.ptr b_2 o_2), (.ptr b_3 o_3), v_5']) m') := by
  kernel_rfl

theorem loop11_9 (b_2 o_2 : Nat) (b_3 o_3 : Nat) (v_46 : AV) (x_47 : Int) (k : KX) : ∀ (N : Nat) (v_5 : AV) (x_48 : Int) (m : Mem), rounds Try.prog E11 Lam11 [2, 3, 5, 46, 47, 48] lx11_9 ((loopsOf (bodyOf Try.f11)).getD 1 .skip) N [(.ptr b_2 o_2), (.ptr b_3 o_3), v_5, v_46, (.flat (.int .i64 x_47)), (.flat (.int .i64 x_48))] m k = L11_9 b_2 o_2 b_3 o_3 v_46 x_47 N v_5 x_48 m (fun v_5' m' => k (.exit 2) (only [2, 3, 5] [(.ptr b_2 o_2), (.ptr b_3 o_3), v_5']) m') := by
  intro N
  induction N with
  | zero => intros; rfl
  | succ N ih =>
    intro v_5 x_48 m
    refine (round11_9 b_2 o_2 b_3 o_3 v_46 x_47 v_5 x_48 m (fun vs m' => rounds Try.prog E11 Lam11 [2, 3, 5, 46, 47, 48] lx11_9 ((loopsOf (bodyOf Try.f11)).getD 1 .skip) N vs m' k) k).trans ?_
    simp only [ih]
    rfl

theorem lok11_9 : LoopOK Try.prog E11 Lam11 ((loopsOf (bodyOf Try.f11)).getD 1 .skip) := by
  refine ⟨fun σ => ∃ b_2 o_2 b_3 o_3 v_5 v_46 x_47 x_48, σ 2 = .ptr b_2 o_2 ∧ σ 3 = .ptr b_3 o_3 ∧ σ 5 = v_5 ∧ σ 46 = v_46 ∧ σ 47 = .flat (.int .i64 x_47) ∧ σ 48 = .flat (.int .i64 x_48), [2, 3, 5, 46, 47, 48], lx11_9, fun σ m k => ?_⟩
  have e : Lam11.loop ((loopsOf (bodyOf Try.f11)).getD 1 .skip) σ m k = Lam11_9 σ m k := by kernel_rfl
  rw [e]
  constructor
  · intro h
    unfold Lam11_9 at h
    obtain ⟨b_2, o_2, h0, h⟩ := kptr_ok h
    obtain ⟨b_3, o_3, h1, h⟩ := kptr_ok h
    obtain ⟨v_5, h2⟩ : ∃ v, σ 5 = v := ⟨_, rfl⟩
    obtain ⟨v_46, h3⟩ : ∃ v, σ 46 = v := ⟨_, rfl⟩
    obtain ⟨x_47, h4, h⟩ := kI_ok h
    obtain ⟨x_48, h5, h⟩ := kI_ok h
    obtain ⟨N, h⟩ := h
    refine ⟨⟨b_2, o_2, b_3, o_3, v_5, v_46, x_47, x_48, h0, h1, h2, h3, h4, h5⟩, N, ?_⟩
    have ev : [2, 3, 5, 46, 47, 48].map σ = [(.ptr b_2 o_2), (.ptr b_3 o_3), v_5, v_46, (.flat (.int .i64 x_47)), (.flat (.int .i64 x_48))] := by simp only [List.map_cons, List.map_nil, h0, h1, h2, h3, h4, h5]
    rw [ev, loop11_9]
    simp only [h2, h3] at h
    exact h
  · rintro ⟨⟨b_2, o_2, b_3, o_3, v_5, v_46, x_47, x_48, h0, h1, h2, h3, h4, h5⟩, N, h⟩
    have ev : [2, 3, 5, 46, 47, 48].map σ = [(.ptr b_2 o_2), (.ptr b_3 o_3), v_5, v_46, (.flat (.int .i64 x_47)), (.flat (.int .i64 x_48))] := by simp only [List.map_cons, List.map_nil, h0, h1, h2, h3, h4, h5]
    rw [ev, loop11_9] at h
    unfold Lam11_9
    try simp only [h0, h1, h2, h3, h4, h5, kI, kbool, kS, kptr, kaggN, kite, decide_true, eq_self]
    exact ⟨N, h⟩

def lx11_3 : Ex → List Nat := fun e => match e with
  | .exit 0 => [2, 3, 5]
  | _ => []

theorem round11_3 (b_2 o_2 : Nat) (b_3 o_3 : Nat) (v_5 : AV) (x_9 : Int) (m : Mem) (G : List AV → Mem → Prop) (k : KX) : (wpA Try.prog E11 Lam11 ((loopsOf (bodyOf Try.f11)).getD 0 .skip) (only [2, 3, 5, 9] [(.ptr b_2 o_2), (.ptr b_3 o_3), v_5, (.flat (.int .i64 x_9))]) m fun e σ' m' => match e with
    | .normal => G ([2, 3, 5, 9].map σ') m'
    | .exit id => k (.exit id) (only (lx11_3 (.exit id)) ((lx11_3 (.exit id)).map σ')) m'
    | .ret => k .ret (only (lx11_3 .ret) ((lx11_3 .ret).map σ')) m') = R11_3 b_2 o_2 b_3 o_3 v_5 x_9 m (fun v_5' x_9' m' => G [(.ptr b_2 o_2), (.ptr b_3 o_3), v_5', (.flat (.int .i64 x_9'))] m') (fun v_5' m' => k (.exit 0) (only [2, 3, 5] [(.ptr b_2 o_2), (.ptr b_3 o_3), v_5']) m') := by
  kernel_rfl

theorem loop11_3 (b_2 o_2 : Nat) (b_3 o_3 : Nat) (k : KX) : ∀ (N : Nat) (v_5 : AV) (x_9 : Int) (m : Mem), rounds Try.prog E11 Lam11 [2, 3, 5, 9] lx11_3 ((loopsOf (bodyOf Try.f11)).getD 0 .skip) N [(.ptr b_2 o_2), (.ptr b_3 o_3), v_5, (.flat (.int .i64 x_9))] m k = L11_3 b_2 o_2 b_3 o_3 N v_5 x_9 m (fun v_5' m' => k (.exit 0) (only [2, 3, 5] [(.ptr b_2 o_2), (.ptr b_3 o_3), v_5']) m') := by
  intro N
  induction N with
  | zero => intros; rfl
  | succ N ih =>
    intro v_5 x_9 m
    refine (round11_3 b_2 o_2 b_3 o_3 v_5 x_9 m (fun vs m' => rounds Try.prog E11 Lam11 [2, 3, 5, 9] lx11_3 ((loopsOf (bodyOf Try.f11)).getD 0 .skip) N vs m' k) k).trans ?_
    simp only [ih]
    rfl

theorem lok11_3 : LoopOK Try.prog E11 Lam11 ((loopsOf (bodyOf Try.f11)).getD 0 .skip) := by
  refine ⟨fun σ => ∃ b_2 o_2 b_3 o_3 v_5 x_9, σ 2 = .ptr b_2 o_2 ∧ σ 3 = .ptr b_3 o_3 ∧ σ 5 = v_5 ∧ σ 9 = .flat (.int .i64 x_9), [2, 3, 5, 9], lx11_3, fun σ m k => ?_⟩
  have e : Lam11.loop ((loopsOf (bodyOf Try.f11)).getD 0 .skip) σ m k = Lam11_3 σ m k := by kernel_rfl
  rw [e]
  constructor
  · intro h
    unfold Lam11_3 at h
    obtain ⟨b_2, o_2, h0, h⟩ := kptr_ok h
    obtain ⟨b_3, o_3, h1, h⟩ := kptr_ok h
    obtain ⟨v_5, h2⟩ : ∃ v, σ 5 = v := ⟨_, rfl⟩
    obtain ⟨x_9, h3, h⟩ := kI_ok h
    obtain ⟨N, h⟩ := h
    refine ⟨⟨b_2, o_2, b_3, o_3, v_5, x_9, h0, h1, h2, h3⟩, N, ?_⟩
    have ev : [2, 3, 5, 9].map σ = [(.ptr b_2 o_2), (.ptr b_3 o_3), v_5, (.flat (.int .i64 x_9))] := by simp only [List.map_cons, List.map_nil, h0, h1, h2, h3]
    rw [ev, loop11_3]
    simp only [h2] at h
    exact h
  · rintro ⟨⟨b_2, o_2, b_3, o_3, v_5, x_9, h0, h1, h2, h3⟩, N, h⟩
    have ev : [2, 3, 5, 9].map σ = [(.ptr b_2 o_2), (.ptr b_3 o_3), v_5, (.flat (.int .i64 x_9))] := by simp only [List.map_cons, List.map_nil, h0, h1, h2, h3]
    rw [ev, loop11_3] at h
    unfold Lam11_3
    try simp only [h0, h1, h2, h3, kI, kbool, kS, kptr, kaggN, kite, decide_true, eq_self]
    exact ⟨N, h⟩

theorem eqn11 (c_0 : Nat → AV) (c_1 : Nat → AV) (m : Mem) (k : KV) : bodyK Try.prog E11 Lam11 Try.f11 false [(.agg 73 c_0), (.agg 73 c_1)] m k = F11 c_0 c_1 m (fun v_1000 m' => k v_1000 m') := by
  kernel_rfl

theorem fs11 (w0 : World) : FS Try.prog w0 11 G11 := by
  refine (fs_body (Γ := E11) (sound_env (l := []) w0 (by
    intro p hp
    cases hp)) (by kernel_rfl) Try.func11 (Λ := Lam11) (c := (bodyOf Try.f11)) (by kernel_rfl) Try.call11 (by kernel_rfl) (LS_of (bodyOf Try.f11) 2 (by kernel_rfl) (by
    intro i hi
    match i, hi with
    | 0, _ => exact lok11_3
    | 1, _ => exact lok11_9
    | i + 2, hi => omega) 0 (by kernel_rfl) (fun i hi => absurd hi (Nat.not_lt_zero i))) false (np := 2) (Nat.le_of_ble_eq_true (by kernel_rfl))).imp fun args => ?_
  by_cases hl : args.length = 2
  rotate_left
  · exact .inr fun m k hk => by
      unfold G11 at hk
      split at hk
      · exact hl rfl
      · exact hk
  obtain ⟨a0, a1, rfl⟩ : ∃ a0 a1, args = [a0, a1] := len_list2 hl
  rcases kaggN_or 73 a0 with ⟨c_0, rfl⟩ | h
  rotate_left
  · exact .inr fun m k hk => h _ (by simpa only [G11, kI, kbool, kS, kptr, kaggN, kite, decide_true, eq_self] using hk)
  rcases kaggN_or 73 a1 with ⟨c_1, rfl⟩ | h
  rotate_left
  · exact .inr fun m k hk => h _ (by simpa only [G11, kI, kbool, kS, kptr, kaggN, kite, decide_true, eq_self] using hk)
  exact .inl fun m k => propext ⟨fun h => ⟨rfl, by rw [eqn11]; simpa only [G11, kI, kbool, kS, kptr, kaggN, kite, decide_true, eq_self] using h⟩, fun h => by have h := h.2; rw [eqn11] at h; simpa only [G11, kI, kbool, kS, kptr, kaggN, kite, decide_true, eq_self] using h⟩

def E12 : Env := envOf []

def R12_8 (b_2 o_2 : Nat) (b_3 o_3 : Nat) (v_47 : AV) (x_48 : Int) (v_5 : AV) (x_49 : Int) (m : Mem) (kn : AV → Int → Mem → Prop) (k2 : AV → Mem → Prop) : Prop :=
  kif (decide (x_49 < x_48)) (ksl v_47 fun b24 o25 l26 p27 => kif (decide (0 ≤ x_49) && decide (x_49 < l26)) (ldG 2 m b24 (o25 + (x_49).toNat * 2) fun c28 => newK m ⟨2, lget [(.flat (.int .u32 0)), (.flat (.int .u32 0))], 61, false⟩ fun b30 m29 => stG 2 m29 b30 0 c28 fun m31 => ldI .u32 m31 b30 0 fun x32 => ldI .u32 m31 b30 1 fun x33 => kif (x32 != x33) (newK m31 ⟨1, upd (lget [(.flat (.int .i64 0))]) 0 (.flat (.int .i64 (IntKind.wrap .i64 (32 + x_49)))), 3, false⟩ fun b35 m34 => appS 1 8 3 v_5 (.sl b35 0 1 (.ex 1)) m34 fun v36 m37 => kn v36 (IntKind.wrap .i64 (x_49 + 1)) m37) (kn v_5 (IntKind.wrap .i64 (x_49 + 1)) m31)) False) (k2 v_5 m)

def L12_8 (b_2 o_2 : Nat) (b_3 o_3 : Nat) (v_47 : AV) (x_48 : Int) : Nat → AV → Int → Mem → (AV → Mem → Prop) → Prop
  | 0, _, _,  _, _ => bump False
  | N + 1, v_5, x_49,  m, k2 => R12_8 b_2 o_2 b_3 o_3 v_47 x_48 v_5 x_49 m (fun v_5' x_49' m' => L12_8 b_2 o_2 b_3 o_3 v_47 x_48 N v_5' x_49' m' k2) k2

def R12_3 (b_2 o_2 : Nat) (b_3 o_3 : Nat) (v_5 : AV) (x_6 : Int) (m : Mem) (kn : AV → Int → Mem → Prop) (k0 : AV → Mem → Prop) : Prop :=
  kif (decide (x_6 < 32)) (kif (decide (0 ≤ x_6) && decide (x_6 < 32)) (ldI .u32 m b_2 (o_2 + 0 + (x_6).toNat * 1) fun x5 => kif (decide (0 ≤ x_6) && decide (x_6 < 32)) (ldI .u32 m b_3 (o_3 + 0 + (x_6).toNat * 1) fun x6 => kif (x5 != x6) (newK m ⟨1, upd (lget [(.flat (.int .i64 0))]) 0 (.flat (.int .i64 x_6)), 3, false⟩ fun b8 m7 => appS 1 8 3 v_5 (.sl b8 0 1 (.ex 1)) m7 fun v9 m10 => kn v9 (IntKind.wrap .i64 (x_6 + 1)) m10) (kn v_5 (IntKind.wrap .i64 (x_6 + 1)) m)) False) False) (k0 v_5 m)

def L12_3 (b_2 o_2 : Nat) (b_3 o_3 : Nat) : Nat → AV → Int → Mem → (AV → Mem → Prop) → Prop
  | 0, _, _,  _, _ => bump False
  | N + 1, v_5, x_6,  m, k0 => R12_3 b_2 o_2 b_3 o_3 v_5 x_6 m (fun v_5' x_6' m' => L12_3 b_2 o_2 b_3 o_3 N v_5' x_6' m' k0) k0

/-- pianola/pianolalaw27.differ -/
def F12 (c_0 : Nat → AV) (c_1 : Nat → AV) (m : Mem) (k : AV → Mem → Prop) : Prop :=
  newK m ⟨73, c_0, 33, false⟩ fun b2 m1 => newK m1 ⟨73, c_1, 33, false⟩ fun b4 m3 => ∃ N13, L12_3 b2 0 b4 0 N13 (.flat (.slice none 0 0)) 0 m3 (fun v11 m12 => ldI .u32 m12 b2 32 fun x14 => ldI .u32 m12 b4 32 fun x15 => ldI .u32 m12 b2 33 fun x16 => ldI .u32 m12 b4 33 fun x17 => ldI .u32 m12 b2 34 fun x18 => ldI .u32 m12 b4 34 fun x19 => ldI .u32 m12 b2 35 fun x20 => ldI .u32 m12 b4 35 fun x21 => newK m12 ⟨8, splice (splice (splice (splice (Z8bb) 0 2 (upd (upd (lget [(.flat (.int .u32 0)), (.flat (.int .u32 0))]) 0 (.flat (.int .u32 x14))) 1 (.flat (.int .u32 x15)))) 2 2 (upd (upd (lget [(.flat (.int .u32 0)), (.flat (.int .u32 0))]) 0 (.flat (.int .u32 x16))) 1 (.flat (.int .u32 x17)))) 4 2 (upd (upd (lget [(.flat (.int .u32 0)), (.flat (.int .u32 0))]) 0 (.flat (.int .u32 x18))) 1 (.flat (.int .u32 x19)))) 6 2 (upd (upd (lget [(.flat (.int .u32 0)), (.flat (.int .u32 0))]) 0 (.flat (.int .u32 x20))) 1 (.flat (.int .u32 x21))), 61, false⟩ fun b23 m22 => ∃ N40, L12_8 b2 0 b4 0 (.sl b23 0 4 (.ex 4)) 4 N40 v11 0 m22 (fun v38 m39 => ldG 73 m39 b2 0 fun c41 => newK m39 ⟨73, Z73, 33, false⟩ fun b43 m42 => stG 73 m42 b43 0 c41 fun m44 => ∃ Fr45 : Nat → Prop, Fr45 b4 ∧ (ldG 32 m44 b4 0 fun c46 => Fr45 b4 ∧ (ldI .u32 m44 b4 32 fun x47 => Fr45 b4 ∧ (ldI .u32 m44 b4 33 fun x48 => Fr45 b4 ∧ (ldI .u32 m44 b4 34 fun x49 => Fr45 b4 ∧ (ldI .u32 m44 b4 35 fun x50 => stG 32 m44 b43 0 c46 fun m51 => KeepsIn Fr45 m44 m51 ∧ (stC m51 b43 32 (.flat (.int .u32 x47)) fun m52 => KeepsIn Fr45 m51 m52 ∧ (stC m52 b43 33 (.flat (.int .u32 x48)) fun m53 => KeepsIn Fr45 m52 m53 ∧ (stC m53 b43 34 (.flat (.int .u32 x49)) fun m54 => KeepsIn Fr45 m53 m54 ∧ (stC m54 b43 35 (.flat (.int .u32 x50)) fun m55 => KeepsIn Fr45 m54 m55 ∧ (ldG 73 m55 b43 0 fun c56 => ldG 73 m55 b4 0 fun c57 => geq K33 c56 c57 fun x58 => kif (!x58) (newK m55 ⟨1, upd (lget [(.flat (.int .i64 0))]) 0 (.flat (.int .i64 36)), 3, false⟩ fun b60 m59 => appS 1 8 3 v38 (.sl b60 0 1 (.ex 1)) m59 fun v61 m62 => k v61 m62) (k v38 m55)))))))))))))

def G12 (args : List AV) (m : Mem) (k : KV) : Prop := match args with
  | [a0, a1] => kaggN 73 a0 fun c_0 => kaggN 73 a1 fun c_1 => F12 c_0 c_1 m (fun v_1000 m' => k v_1000 m')
  | _ => False

def Lam12_3 (σ : Nat → AV) (m : Mem) (k : KX) : Prop := kptr (σ 2) fun b_2 o_2 => kptr (σ 3) fun b_3 o_3 => kI .i64 (σ 6) fun x_6 => ∃ N, L12_3 b_2 o_2 b_3 o_3 N (σ 5) x_6 m (fun v_5' m' => k (.exit 0) (only [2, 3, 5] [(.ptr b_2 o_2), (.ptr b_3 o_3), v_5']) m')

def Lam12_8 (σ : Nat → AV) (m : Mem) (k : KX) : Prop := kptr (σ 2) fun b_2 o_2 => kptr (σ 3) fun b_3 o_3 => kI .i64 (σ 48) fun x_48 => kI .i64 (σ 49) fun x_49 => ∃ N, L12_8 b_2 o_2 b_3 o_3 (σ 47) x_48 N (σ 5) x_49 m (fun v_5' m' => k (.exit 2) (only [2, 3, 5] [(.ptr b_2 o_2), (.ptr b_3 o_3), v_5']) m')

def Lam12 : LEnv := ⟨fun a σ m k => match firstReg a with
  | some 3 => Lam12_3 σ m k
  | some 8 => Lam12_8 σ m k
  | _ => bump False,
  fun id => match id with
  | 14 => true
  | _ => bump false,
  fun b => match keyC b with
  | _ => bump false,
  fun b σ m k => match keyC b with
  | _ => bump False⟩

def lx12_8 : Ex → List Nat := fun e => match e with
  | .exit 2 => [2, 3, 5]
  | _ => []

theorem round12_8 (b_2 o_2 : Nat) (b_3 o_3 : Nat) (v_47 : AV) (x_48 : Int) (v_5 : AV) (x_49 : Int) (m : Mem) (G : List AV → Mem → Prop) (k : KX) : (wpA Try.prog E12 Lam12 ((loopsOf (bodyOf Try.f12)).getD 1 .skip) (only [2, 3, 5, 47, 48, 49] [(.ptr b_2 o_2), (.ptr b_3 o_3), v_5, v_47, (.flat (.int .i64 x_48)), (.flat (.int .i64 x_49))]) m fun e σ' m' => match e with
    | .normal => G ([2, 3, 5, 47, 48, 49].map σ') m'
    | .exit id => k (.exit id) (only (lx12_8 (.exit id)) ((lx12_8 (.exit id)).map σ')) m'
    | .ret => k .ret (only (lx12_8 .ret) ((lx12_8 .ret).map σ')) m') = R12_8 b_2 o_2 b_3 o_3 v_47 x_48 v_5 x_49 m (fun v_5' x_49' m' => G [(.ptr b_2 o_2), (.ptr b_3 o_3), v_5', v_47, (.flat (.int .i64 x_48)), (.flat (.int .i64 x_49'))] m') (fun v_5' m' => k (.exit 2) (only [2, 3, 5] [(.ptr b_2 o_2), (.ptr b_3 o_3), v_5']) m') := by
  kernel_rfl

theorem loop12_8 (b_2 o_2 : Nat) (b_3 o_3 : Nat) (v_47 : AV) (x_48 : Int) (k : KX) : ∀ (N : Nat) (v_5 : AV) (x_49 : Int) (m : Mem), rounds Try.prog E12 Lam12 [2, 3, 5, 47, 48, 49] lx12_8 ((loopsOf (bodyOf Try.f12)).getD 1 .skip) N [(.ptr b_2 o_2), (.ptr b_3 o_3), v_5, v_47, (.flat (.int .i64 x_48)), (.flat (.int .i64 x_49))] m k = L12_8 b_2 o_2 b_3 o_3 v_47 x_48 N v_5 x_49 m (fun v_5' m' => k (.exit 2) (only [2, 3, 5] [(.ptr b_2 o_2), (.ptr b_3 o_3), v_5']) m') := by
  intro N
  induction N with
  | zero => intros; rfl
  | succ N ih =>
    intro v_5 x_49 m
    refine (round12_8 b_2 o_2 b_3 o_3 v_47 x_48 v_5 x_49 m (fun vs m' => rounds Try.prog E12 Lam12 [2, 3, 5, 47, 48, 49] lx12_8 ((loopsOf (bodyOf Try.f12)).getD 1 .skip) N vs m' k) k).trans ?_
    simp only [ih]
    rfl

theorem lok12_8 : LoopOK Try.prog E12 Lam12 ((loopsOf (bodyOf Try.f12)).getD 1 .skip) := by
  refine ⟨fun σ => ∃ b_2 o_2 b_3 o_3 v_5 v_47 x_48 x_49, σ 2 = .ptr b_2 o_2 ∧ σ 3 = .ptr b_3 o_3 ∧ σ 5 = v_5 ∧ σ 47 = v_47 ∧ σ 48 = .flat (.int .i64 x_48) ∧ σ 49 = .flat (.int .i64 x_49), [2, 3, 5, 47, 48, 49], lx12_8, fun σ m k => ?_⟩
  have e : Lam12.loop ((loopsOf (bodyOf Try.f12)).getD 1 .skip) σ m k = Lam12_8 σ m k := by kernel_rfl
  rw [e]
  constructor
  · intro h
    unfold Lam12_8 at h
    obtain ⟨b_2, o_2, h0, h⟩ := kptr_ok h
    obtain ⟨b_3, o_3, h1, h⟩ := kptr_ok h
    obtain ⟨v_5, h2⟩ : ∃ v, σ 5 = v := ⟨_, rfl⟩
    obtain ⟨v_47, h3⟩ : ∃ v, σ 47 = v := ⟨_, rfl⟩
    obtain ⟨x_48, h4, h⟩ := kI_ok h
    obtain ⟨x_49, h5, h⟩ := kI_ok h
    obtain ⟨N, h⟩ := h
    refine ⟨⟨b_2, o_2, b_3, o_3, v_5, v_47, x_48, x_49, h0, h1, h2, h3, h4, h5⟩, N, ?_⟩
    have ev : [2, 3, 5, 47, 48, 49].map σ = [(.ptr b_2 o_2), (.ptr b_3 o_3), v_5, v_47, (.flat (.int .i64 x_48)), (.flat (.int .i64 x_49))] := by simp only [List.map_cons, List.map_nil, h0, h1, h2, h3, h4, h5]
    rw [ev, loop12_8]
    simp only [h2, h3] at h
    exact h
  · rintro ⟨⟨b_2, o_2, b_3, o_3, v_5, v_47, x_48, x_49, h0, h1, h2, h3, h4, h5⟩, N, h⟩
    have ev : [2, 3, 5, 47, 48, 49].map σ = [(.ptr b_2 o_2), (.ptr b_3 o_3), v_5, v_47, (.flat (.int .i64 x_48)), (.flat (.int .i64 x_49))] := by simp only [List.map_cons, List.map_nil, h0, h1, h2, h3, h4, h5]
    rw [ev, loop12_8] at h
    unfold Lam12_8
    try simp only [h0, h1, h2, h3, h4, h5, kI, kbool, kS, kptr, kaggN, kite, decide_true, eq_self]
    exact ⟨N, h⟩

def lx12_3 : Ex → List Nat := fun e => match e with
  | .exit 0 => [2, 3, 5]
  | _ => []

theorem round12_3 (b_2 o_2 : Nat) (b_3 o_3 : Nat) (v_5 : AV) (x_6 : Int) (m : Mem) (G : List AV → Mem → Prop) (k : KX) : (wpA Try.prog E12 Lam12 ((loopsOf (bodyOf Try.f12)).getD 0 .skip) (only [2, 3, 5, 6] [(.ptr b_2 o_2), (.ptr b_3 o_3), v_5, (.flat (.int .i64 x_6))]) m fun e σ' m' => match e with
    | .normal => G ([2, 3, 5, 6].map σ') m'
    | .exit id => k (.exit id) (only (lx12_3 (.exit id)) ((lx12_3 (.exit id)).map σ')) m'
    | .ret => k .ret (only (lx12_3 .ret) ((lx12_3 .ret).map σ')) m') = R12_3 b_2 o_2 b_3 o_3 v_5 x_6 m (fun v_5' x_6' m' => G [(.ptr b_2 o_2), (.ptr b_3 o_3), v_5', (.flat (.int .i64 x_6'))] m') (fun v_5' m' => k (.exit 0) (only [2, 3, 5] [(.ptr b_2 o_2), (.ptr b_3 o_3), v_5']) m') := by
  kernel_rfl

theorem loop12_3 (b_2 o_2 : Nat) (b_3 o_3 : Nat) (k : KX) : ∀ (N : Nat) (v_5 : AV) (x_6 : Int) (m : Mem), rounds Try.prog E12 Lam12 [2, 3, 5, 6] lx12_3 ((loopsOf (bodyOf Try.f12)).getD 0 .skip) N [(.ptr b_2 o_2), (.ptr b_3 o_3), v_5, (.flat (.int .i64 x_6))] m k = L12_3 b_2 o_2 b_3 o_3 N v_5 x_6 m (fun v_5' m' => k (.exit 0) (only [2, 3, 5] [(.ptr b_2 o_2), (.ptr b_3 o_3), v_5']) m') := by
  intro N
  induction N with
  | zero => intros; rfl
  | succ N ih =>
    intro v_5 x_6 m
    refine (round12_3 b_2 o_2 b_3 o_3 v_5 x_6 m (fun vs m' => rounds Try.prog E12 Lam12 [2, 3, 5, 6] lx12_3 ((loopsOf (bodyOf Try.f12)).getD 0 .skip) N vs m' k) k).trans ?_
    simp only [ih]
    rfl

theorem lok12_3 : LoopOK Try.prog E12 Lam12 ((loopsOf (bodyOf Try.f12)).getD 0 .skip) := by
  refine ⟨fun σ => ∃ b_2 o_2 b_3 o_3 v_5 x_6, σ 2 = .ptr b_2 o_2 ∧ σ 3 = .ptr b_3 o_3 ∧ σ 5 = v_5 ∧ σ 6 = .flat (.int .i64 x_6), [2, 3, 5, 6], lx12_3, fun σ m k => ?_⟩
  have e : Lam12.loop ((loopsOf (bodyOf Try.f12)).getD 0 .skip) σ m k = Lam12_3 σ m k := by kernel_rfl
  rw [e]
  constructor
  · intro h
    unfold Lam12_3 at h
    obtain ⟨b_2, o_2, h0, h⟩ := kptr_ok h
    obtain ⟨b_3, o_3, h1, h⟩ := kptr_ok h
    obtain ⟨v_5, h2⟩ : ∃ v, σ 5 = v := ⟨_, rfl⟩
    obtain ⟨x_6, h3, h⟩ := kI_ok h
    obtain ⟨N, h⟩ := h
    refine ⟨⟨b_2, o_2, b_3, o_3, v_5, x_6, h0, h1, h2, h3⟩, N, ?_⟩
    have ev : [2, 3, 5, 6].map σ = [(.ptr b_2 o_2), (.ptr b_3 o_3), v_5, (.flat (.int .i64 x_6))] := by simp only [List.map_cons, List.map_nil, h0, h1, h2, h3]
    rw [ev, loop12_3]
    simp only [h2] at h
    exact h
  · rintro ⟨⟨b_2, o_2, b_3, o_3, v_5, x_6, h0, h1, h2, h3⟩, N, h⟩
    have ev : [2, 3, 5, 6].map σ = [(.ptr b_2 o_2), (.ptr b_3 o_3), v_5, (.flat (.int .i64 x_6))] := by simp only [List.map_cons, List.map_nil, h0, h1, h2, h3]
    rw [ev, loop12_3] at h
    unfold Lam12_3
    try simp only [h0, h1, h2, h3, kI, kbool, kS, kptr, kaggN, kite, decide_true, eq_self]
    exact ⟨N, h⟩

theorem eqn12 (c_0 : Nat → AV) (c_1 : Nat → AV) (m : Mem) (k : KV) : bodyK Try.prog E12 Lam12 Try.f12 false [(.agg 73 c_0), (.agg 73 c_1)] m k = F12 c_0 c_1 m (fun v_1000 m' => k v_1000 m') := by
  kernel_rfl

theorem fs12 (w0 : World) : FS Try.prog w0 12 G12 := by
  refine (fs_body (Γ := E12) (sound_env (l := []) w0 (by
    intro p hp
    cases hp)) (by kernel_rfl) Try.func12 (Λ := Lam12) (c := (bodyOf Try.f12)) (by kernel_rfl) Try.call12 (by kernel_rfl) (LS_of (bodyOf Try.f12) 2 (by kernel_rfl) (by
    intro i hi
    match i, hi with
    | 0, _ => exact lok12_3
    | 1, _ => exact lok12_8
    | i + 2, hi => omega) 0 (by kernel_rfl) (fun i hi => absurd hi (Nat.not_lt_zero i))) false (np := 2) (Nat.le_of_ble_eq_true (by kernel_rfl))).imp fun args => ?_
  by_cases hl : args.length = 2
  rotate_left
  · exact .inr fun m k hk => by
      unfold G12 at hk
      split at hk
      · exact hl rfl
      · exact hk
  obtain ⟨a0, a1, rfl⟩ : ∃ a0 a1, args = [a0, a1] := len_list2 hl
  rcases kaggN_or 73 a0 with ⟨c_0, rfl⟩ | h
  rotate_left
  · exact .inr fun m k hk => h _ (by simpa only [G12, kI, kbool, kS, kptr, kaggN, kite, decide_true, eq_self] using hk)
  rcases kaggN_or 73 a1 with ⟨c_1, rfl⟩ | h
  rotate_left
  · exact .inr fun m k hk => h _ (by simpa only [G12, kI, kbool, kS, kptr, kaggN, kite, decide_true, eq_self] using hk)
  exact .inl fun m k => propext ⟨fun h => ⟨rfl, by rw [eqn12]; simpa only [G12, kI, kbool, kS, kptr, kaggN, kite, decide_true, eq_self] using h⟩, fun h => by have h := h.2; rw [eqn12] at h; simpa only [G12, kI, kbool, kS, kptr, kaggN, kite, decide_true, eq_self] using h⟩

def E42 : Env := envOf []

/-- (*pianola/bus.Bus).Ram -/
def F42 (b_0 o_0 : Nat) (m : Mem) (k : AV → Mem → Prop) : Prop :=
  ldA m b_0 (o_0 + 0) fun v1 => k v1 m

def G42 (args : List AV) (m : Mem) (k : KV) : Prop := match args with
  | [a0] => kptr a0 fun b_0 o_0 => F42 b_0 o_0 m (fun v_1000 m' => k v_1000 m')
  | _ => False

def Lam42 : LEnv := ⟨fun a σ m k => match firstReg a with
  | _ => bump False,
  fun id => match id with
  | _ => bump false,
  fun b => match keyC b with
  | _ => bump false,
  fun b σ m k => match keyC b with
  | _ => bump False⟩

theorem eqn42 (b_0 o_0 : Nat) (m : Mem) (k : KV) : bodyK Try.prog E42 Lam42 Try.f42 false [(.ptr b_0 o_0)] m k = F42 b_0 o_0 m (fun v_1000 m' => k v_1000 m') := by
  kernel_rfl

theorem fs42 (w0 : World) : FS Try.prog w0 42 G42 := by
  refine (fs_body (Γ := E42) (sound_env (l := []) w0 (by
    intro p hp
    cases hp)) (by kernel_rfl) Try.func42 (Λ := Lam42) (c := (bodyOf Try.f42)) (by kernel_rfl) Try.call42 (by kernel_rfl) (LS_of (bodyOf Try.f42) 0 (by kernel_rfl) (fun i hi => absurd hi (Nat.not_lt_zero i)) 0 (by kernel_rfl) (fun i hi => absurd hi (Nat.not_lt_zero i))) false (np := 1) (Nat.le_of_ble_eq_true (by kernel_rfl))).imp fun args => ?_
  by_cases hl : args.length = 1
  rotate_left
  · exact .inr fun m k hk => by
      unfold G42 at hk
      split at hk
      · exact hl rfl
      · exact hk
  obtain ⟨a0, rfl⟩ : ∃ a0, args = [a0] := len_list1 hl
  rcases kptr_or a0 with ⟨b_0, o_0, rfl⟩ | h
  rotate_left
  · exact .inr fun m k hk => h _ (by simpa only [G42, kI, kbool, kS, kptr, kaggN, kite, decide_true, eq_self] using hk)
  exact .inl fun m k => propext ⟨fun h => ⟨rfl, by rw [eqn42]; simpa only [G42, kI, kbool, kS, kptr, kaggN, kite, decide_true, eq_self] using h⟩, fun h => by have h := h.2; rw [eqn42] at h; simpa only [G42, kI, kbool, kS, kptr, kaggN, kite, decide_true, eq_self] using h⟩

def E44 : Env := envOf []

/-- (pianola/block.Block).Page -/
def F44 (c_0 : Nat → AV) (m : Mem) (k : Int → Mem → Prop) : Prop :=
  newK m ⟨4, c_0, 98, false⟩ fun b2 m1 => ldI .u32 m1 b2 0 fun x3 => (Keeps m m1 ∧ k (IntKind.wrap .i64 (IntKind.wrap .u32 (x3.tdiv 1024))) m)

def G44 (args : List AV) (m : Mem) (k : KV) : Prop := match args with
  | [a0] => kaggN 4 a0 fun c_0 => F44 c_0 m (fun x_1000 m' => k (.flat (.int .i64 x_1000)) m')
  | _ => False

def Lam44 : LEnv := ⟨fun a σ m k => match firstReg a with
  | _ => bump False,
  fun id => match id with
  | _ => bump false,
  fun b => match keyC b with
  | _ => bump false,
  fun b σ m k => match keyC b with
  | _ => bump False⟩

theorem eqn44 (c_0 : Nat → AV) (m : Mem) (k : KV) : bodyK Try.prog E44 Lam44 Try.f44 true [(.agg 4 c_0)] m k = F44 c_0 m (fun x_1000 m' => k (.flat (.int .i64 x_1000)) m') := by
  kernel_rfl

theorem fs44 (w0 : World) : FS Try.prog w0 44 G44 := by
  refine (fs_body (Γ := E44) (sound_env (l := []) w0 (by
    intro p hp
    cases hp)) (by kernel_rfl) Try.func44 (Λ := Lam44) (c := (bodyOf Try.f44)) (by kernel_rfl) Try.call44 (by kernel_rfl) (LS_of (bodyOf Try.f44) 0 (by kernel_rfl) (fun i hi => absurd hi (Nat.not_lt_zero i)) 0 (by kernel_rfl) (fun i hi => absurd hi (Nat.not_lt_zero i))) true (np := 1) (Nat.le_of_ble_eq_true (by kernel_rfl))).imp fun args => ?_
  by_cases hl : args.length = 1
  rotate_left
  · exact .inr fun m k hk => by
      unfold G44 at hk
      split at hk
      · exact hl rfl
      · exact hk
  obtain ⟨a0, rfl⟩ : ∃ a0, args = [a0] := len_list1 hl
  rcases kaggN_or 4 a0 with ⟨c_0, rfl⟩ | h
  rotate_left
  · exact .inr fun m k hk => h _ (by simpa only [G44, kI, kbool, kS, kptr, kaggN, kite, decide_true, eq_self] using hk)
  exact .inl fun m k => propext ⟨fun h => ⟨rfl, by rw [eqn44]; simpa only [G44, kI, kbool, kS, kptr, kaggN, kite, decide_true, eq_self] using h⟩, fun h => by have h := h.2; rw [eqn44] at h; simpa only [G44, kI, kbool, kS, kptr, kaggN, kite, decide_true, eq_self] using h⟩

def E49 : Env := envOf []

/-- slices.Clone[[]pianola/cache.Key,pianola/cache.Key] -/
def F49 (v_0 : AV) (m : Mem) (k : AV → Mem → Prop) : Prop :=
  knilS v_0 fun x1 => kif x1 (k (.flat (.slice none 0 0)) m) (newK m ⟨0, lget [], 94, false⟩ fun b3 m2 => appS 3 24 94 (.sl b3 0 0 (.ex 0)) v_0 m2 fun v4 m5 => k v4 m5)

def G49 (args : List AV) (m : Mem) (k : KV) : Prop := match args with
  | [a0] => F49 a0 m (fun v_1000 m' => k v_1000 m')
  | _ => False

def Lam49 : LEnv := ⟨fun a σ m k => match firstReg a with
  | _ => bump False,
  fun id => match id with
  | _ => bump false,
  fun b => match keyC b with
  | _ => bump false,
  fun b σ m k => match keyC b with
  | _ => bump False⟩

theorem eqn49 (v_0 : AV) (m : Mem) (k : KV) : bodyK Try.prog E49 Lam49 Try.f49 false [v_0] m k = F49 v_0 m (fun v_1000 m' => k v_1000 m') := by
  kernel_rfl

theorem fs49 (w0 : World) : FS Try.prog w0 49 G49 := by
  refine (fs_body (Γ := E49) (sound_env (l := []) w0 (by
    intro p hp
    cases hp)) (by kernel_rfl) Try.func49 (Λ := Lam49) (c := (bodyOf Try.f49)) (by kernel_rfl) Try.call49 (by kernel_rfl) (LS_of (bodyOf Try.f49) 0 (by kernel_rfl) (fun i hi => absurd hi (Nat.not_lt_zero i)) 0 (by kernel_rfl) (fun i hi => absurd hi (Nat.not_lt_zero i))) false (np := 1) (Nat.le_of_ble_eq_true (by kernel_rfl))).imp fun args => ?_
  by_cases hl : args.length = 1
  rotate_left
  · exact .inr fun m k hk => by
      unfold G49 at hk
      split at hk
      · exact hl rfl
      · exact hk
  obtain ⟨a0, rfl⟩ : ∃ a0, args = [a0] := len_list1 hl

  exact .inl fun m k => propext ⟨fun h => ⟨rfl, by rw [eqn49]; simpa only [G49, kI, kbool, kS, kptr, kaggN, kite, decide_true, eq_self] using h⟩, fun h => by have h := h.2; rw [eqn49] at h; simpa only [G49, kI, kbool, kS, kptr, kaggN, kite, decide_true, eq_self] using h⟩

def E53 : Env := envOf []

def R53_2 (v_0 : AV) (b_3 o_3 : Nat) (x_7 : Int) (x_8 : Int) (m : Mem) (kn : Int → Mem → Prop) (k0 : Mem → Prop) (kr : Int → Mem → Prop) : Prop :=
  kif (decide (x_8 < x_7)) (ldG 3 m b_3 o_3 fun c4 => ksl v_0 fun b5 o6 l7 p8 => kif (decide (0 ≤ x_8) && decide (x_8 < l7)) (ldG 3 m b5 (o6 + (x_8).toNat * 3) fun c9 => geq K94 c4 c9 fun x10 => kif x10 (kr x_8 m) (kn (IntKind.wrap .i64 (x_8 + 1)) m)) False) (k0  m)

def L53_2 (v_0 : AV) (b_3 o_3 : Nat) (x_7 : Int) : Nat → Int → Mem → (Mem → Prop) → (Int → Mem → Prop) → Prop
  | 0, _,  _, _, _ => bump False
  | N + 1, x_8,  m, k0, kr => R53_2 v_0 b_3 o_3 x_7 x_8 m (fun x_8' m' => L53_2 v_0 b_3 o_3 x_7 N x_8' m' k0 kr) k0 kr

/-- slices.Index[[]pianola/cache.Key,pianola/cache.Key] -/
def F53 (v_0 : AV) (c_1 : Nat → AV) (m : Mem) (k : Int → Mem → Prop) : Prop :=
  newK m ⟨3, c_1, 94, false⟩ fun b2 m1 => klen v_0 fun x3 => ∃ N14, L53_2 v_0 b2 0 x3 N14 0 m1 (fun m11 => (Keeps m m11 ∧ k (-1) m)) (fun x12 m13 => (Keeps m m13 ∧ k x12 m))

def G53 (args : List AV) (m : Mem) (k : KV) : Prop := match args with
  | [a0, a1] => kaggN 3 a1 fun c_1 => F53 a0 c_1 m (fun x_1000 m' => k (.flat (.int .i64 x_1000)) m')
  | _ => False

def Lam53_2 (σ : Nat → AV) (m : Mem) (k : KX) : Prop := kptr (σ 3) fun b_3 o_3 => kI .i64 (σ 7) fun x_7 => kI .i64 (σ 8) fun x_8 => ∃ N, L53_2 (σ 0) b_3 o_3 x_7 N x_8 m (fun m' => k (.exit 0) (only [] []) m') (fun x_4' m' => k .ret (only [4] [(.flat (.int .i64 x_4'))]) m')

def Lam53 : LEnv := ⟨fun a σ m k => match firstReg a with
  | some 2 => Lam53_2 σ m k
  | _ => bump False,
  fun id => match id with
  | _ => bump false,
  fun b => match keyC b with
  | _ => bump false,
  fun b σ m k => match keyC b with
  | _ => bump False⟩

def lx53_2 : Ex → List Nat := fun e => match e with
  | .exit 0 => []
  | .ret => [4]
  | _ => []

theorem round53_2 (v_0 : AV) (b_3 o_3 : Nat) (x_7 : Int) (x_8 : Int) (m : Mem) (G : List AV → Mem → Prop) (k : KX) : (wpA Try.prog E53 Lam53 ((loopsOf (bodyOf Try.f53)).getD 0 .skip) (only [0, 3, 7, 8] [v_0, (.ptr b_3 o_3), (.flat (.int .i64 x_7)), (.flat (.int .i64 x_8))]) m fun e σ' m' => match e with
    | .normal => G ([0, 3, 7, 8].map σ') m'
    | .exit id => k (.exit id) (only (lx53_2 (.exit id)) ((lx53_2 (.exit id)).map σ')) m'
    | .ret => k .ret (only (lx53_2 .ret) ((lx53_2 .ret).map σ')) m') = R53_2 v_0 b_3 o_3 x_7 x_8 m (fun x_8' m' => G [v_0, (.ptr b_3 o_3), (.flat (.int .i64 x_7)), (.flat (.int .i64 x_8'))] m') (fun m' => k (.exit 0) (only [] []) m') (fun x_4' m' => k .ret (only [4] [(.flat (.int .i64 x_4'))]) m') := by
  kernel_rfl

theorem loop53_2 (v_0 : AV) (b_3 o_3 : Nat) (x_7 : Int) (k : KX) : ∀ (N : Nat) (x_8 : Int) (m : Mem), rounds Try.prog E53 Lam53 [0, 3, 7, 8] lx53_2 ((loopsOf (bodyOf Try.f53)).getD 0 .skip) N [v_0, (.ptr b_3 o_3), (.flat (.int .i64 x_7)), (.flat (.int .i64 x_8))] m k = L53_2 v_0 b_3 o_3 x_7 N x_8 m (fun m' => k (.exit 0) (only [] []) m') (fun x_4' m' => k .ret (only [4] [(.flat (.int .i64 x_4'))]) m') := by
  intro N
  induction N with
  | zero => intros; rfl
  | succ N ih =>
    intro x_8 m
    refine (round53_2 v_0 b_3 o_3 x_7 x_8 m (fun vs m' => rounds Try.prog E53 Lam53 [0, 3, 7, 8] lx53_2 ((loopsOf (bodyOf Try.f53)).getD 0 .skip) N vs m' k) k).trans ?_
    simp only [ih]
    rfl

theorem lok53_2 : LoopOK Try.prog E53 Lam53 ((loopsOf (bodyOf Try.f53)).getD 0 .skip) := by
  refine ⟨fun σ => ∃ v_0 b_3 o_3 x_7 x_8, σ 0 = v_0 ∧ σ 3 = .ptr b_3 o_3 ∧ σ 7 = .flat (.int .i64 x_7) ∧ σ 8 = .flat (.int .i64 x_8), [0, 3, 7, 8], lx53_2, fun σ m k => ?_⟩
  have e : Lam53.loop ((loopsOf (bodyOf Try.f53)).getD 0 .skip) σ m k = Lam53_2 σ m k := by kernel_rfl
  rw [e]
  constructor
  · intro h
    unfold Lam53_2 at h
    obtain ⟨v_0, h0⟩ : ∃ v, σ 0 = v := ⟨_, rfl⟩
    obtain ⟨b_3, o_3, h1, h⟩ := kptr_ok h
    obtain ⟨x_7, h2, h⟩ := kI_ok h
    obtain ⟨x_8, h3, h⟩ := kI_ok h
    obtain ⟨N, h⟩ := h
    refine ⟨⟨v_0, b_3, o_3, x_7, x_8, h0, h1, h2, h3⟩, N, ?_⟩
    have ev : [0, 3, 7, 8].map σ = [v_0, (.ptr b_3 o_3), (.flat (.int .i64 x_7)), (.flat (.int .i64 x_8))] := by simp only [List.map_cons, List.map_nil, h0, h1, h2, h3]
    rw [ev, loop53_2]
    simp only [h0] at h
    exact h
  · rintro ⟨⟨v_0, b_3, o_3, x_7, x_8, h0, h1, h2, h3⟩, N, h⟩
    have ev : [0, 3, 7, 8].map σ = [v_0, (.ptr b_3 o_3), (.flat (.int .i64 x_7)), (.flat (.int .i64 x_8))] := by simp only [List.map_cons, List.map_nil, h0, h1, h2, h3]
    rw [ev, loop53_2] at h
    unfold Lam53_2
    try simp only [h0, h1, h2, h3, kI, kbool, kS, kptr, kaggN, kite, decide_true, eq_self]
    exact ⟨N, h⟩

theorem eqn53 (v_0 : AV) (c_1 : Nat → AV) (m : Mem) (k : KV) : bodyK Try.prog E53 Lam53 Try.f53 true [v_0, (.agg 3 c_1)] m k = F53 v_0 c_1 m (fun x_1000 m' => k (.flat (.int .i64 x_1000)) m') := by
  kernel_rfl

theorem fs53 (w0 : World) : FS Try.prog w0 53 G53 := by
  refine (fs_body (Γ := E53) (sound_env (l := []) w0 (by
    intro p hp
    cases hp)) (by kernel_rfl) Try.func53 (Λ := Lam53) (c := (bodyOf Try.f53)) (by kernel_rfl) Try.call53 (by kernel_rfl) (LS_of (bodyOf Try.f53) 1 (by kernel_rfl) (by
    intro i hi
    match i, hi with
    | 0, _ => exact lok53_2
    | i + 1, hi => omega) 0 (by kernel_rfl) (fun i hi => absurd hi (Nat.not_lt_zero i))) true (np := 2) (Nat.le_of_ble_eq_true (by kernel_rfl))).imp fun args => ?_
  by_cases hl : args.length = 2
  rotate_left
  · exact .inr fun m k hk => by
      unfold G53 at hk
      split at hk
      · exact hl rfl
      · exact hk
  obtain ⟨a0, a1, rfl⟩ : ∃ a0 a1, args = [a0, a1] := len_list2 hl
  rcases kaggN_or 3 a1 with ⟨c_1, rfl⟩ | h
  rotate_left
  · exact .inr fun m k hk => h _ (by simpa only [G53, kI, kbool, kS, kptr, kaggN, kite, decide_true, eq_self] using hk)
  exact .inl fun m k => propext ⟨fun h => ⟨rfl, by rw [eqn53]; simpa only [G53, kI, kbool, kS, kptr, kaggN, kite, decide_true, eq_self] using h⟩, fun h => by have h := h.2; rw [eqn53] at h; simpa only [G53, kI, kbool, kS, kptr, kaggN, kite, decide_true, eq_self] using h⟩

def E54 : Env := envOf []

/-- slices.Delete[[]pianola/cache.Key,pianola/cache.Key] -/
def F54 (v_0 : AV) (x_1 : Int) (x_2 : Int) (m : Mem) (k : AV → Mem → Prop) : Prop :=
  klen v_0 fun x1 => slM v_0 (some x_1) (some x_2) (some x1) (kif (x_1 == x_2) (k v_0 m) (klen v_0 fun x2 => slS 3 v_0 none (some x_1) fun v3 => slS 3 v_0 (some x_2) none fun v4 => appS 3 24 94 v3 v4 m fun v5 m6 => klen v5 fun x7 => slS 3 v5 (some x7) (some x2) fun v8 => clrS [(.flat (.int .u32 0)), (.flat (.int .i64 0)), (.flat (.int .i64 0))] v8 m6 fun m9 => k v5 m9))

def G54 (args : List AV) (m : Mem) (k : KV) : Prop := match args with
  | [a0, a1, a2] => kI .i64 a1 fun x_1 => kI .i64 a2 fun x_2 => F54 a0 x_1 x_2 m (fun v_1000 m' => k v_1000 m')
  | _ => False

def Lam54 : LEnv := ⟨fun a σ m k => match firstReg a with
  | _ => bump False,
  fun id => match id with
  | _ => bump false,
  fun b => match keyC b with
  | _ => bump false,
  fun b σ m k => match keyC b with
  | _ => bump False⟩

theorem eqn54 (v_0 : AV) (x_1 : Int) (x_2 : Int) (m : Mem) (k : KV) : bodyK Try.prog E54 Lam54 Try.f54 false [v_0, (.flat (.int .i64 x_1)), (.flat (.int .i64 x_2))] m k = F54 v_0 x_1 x_2 m (fun v_1000 m' => k v_1000 m') := by
  kernel_rfl

theorem fs54 (w0 : World) : FS Try.prog w0 54 G54 := by
  refine (fs_body (Γ := E54) (sound_env (l := []) w0 (by
    intro p hp
    cases hp)) (by kernel_rfl) Try.func54 (Λ := Lam54) (c := (bodyOf Try.f54)) (by kernel_rfl) Try.call54 (by kernel_rfl) (LS_of (bodyOf Try.f54) 0 (by kernel_rfl) (fun i hi => absurd hi (Nat.not_lt_zero i)) 0 (by kernel_rfl) (fun i hi => absurd hi (Nat.not_lt_zero i))) false (np := 3) (Nat.le_of_ble_eq_true (by kernel_rfl))).imp fun args => ?_
  by_cases hl : args.length = 3
  rotate_left
  · exact .inr fun m k hk => by
      unfold G54 at hk
      split at hk
      · exact hl rfl
      · exact hk
  obtain ⟨a0, a1, a2, rfl⟩ : ∃ a0 a1 a2, args = [a0, a1, a2] := len_list3 hl
  rcases kI_or .i64 a1 with ⟨x_1, rfl⟩ | h
  rotate_left
  · exact .inr fun m k hk => h _ (by simpa only [G54, kI, kbool, kS, kptr, kaggN, kite, decide_true, eq_self] using hk)
  rcases kI_or .i64 a2 with ⟨x_2, rfl⟩ | h
  rotate_left
  · exact .inr fun m k hk => h _ (by simpa only [G54, kI, kbool, kS, kptr, kaggN, kite, decide_true, eq_self] using hk)
  exact .inl fun m k => propext ⟨fun h => ⟨rfl, by rw [eqn54]; simpa only [G54, kI, kbool, kS, kptr, kaggN, kite, decide_true, eq_self] using h⟩, fun h => by have h := h.2; rw [eqn54] at h; simpa only [G54, kI, kbool, kS, kptr, kaggN, kite, decide_true, eq_self] using h⟩

def E50 : Env := envOf [(53, G53), (54, G54)]

/-- (*pianola/cache.Cache).out -/
def F50 (b_0 o_0 : Nat) (c_1 : Nat → AV) (m : Mem) (k : Mem → Prop) : Prop :=
  newK m ⟨3, c_1, 94, false⟩ fun b2 m1 => ldA m1 b_0 (o_0 + 1) fun v3 => ldG 3 m1 b2 0 fun c4 => F53 v3 c4 m1 fun x5 m6 => kif (decide (x5 ≥ 0)) (ldA m6 b_0 (o_0 + 1) fun v7 => F54 v7 x5 (IntKind.wrap .i64 (x5 + 1)) m6 fun v8 m9 => stV m9 b_0 (o_0 + 1) v8 fun m10 => k  m10) (k  m6)

def G50 (args : List AV) (m : Mem) (k : KV) : Prop := match args with
  | [a0, a1] => kptr a0 fun b_0 o_0 => kaggN 3 a1 fun c_1 => F50 b_0 o_0 c_1 m (fun m' => k (.tup []) m')
  | _ => False

def Lam50 : LEnv := ⟨fun a σ m k => match firstReg a with
  | _ => bump False,
  fun id => match id with
  | _ => bump false,
  fun b => match keyC b with
  | _ => bump false,
  fun b σ m k => match keyC b with
  | _ => bump False⟩

theorem eqn50 (b_0 o_0 : Nat) (c_1 : Nat → AV) (m : Mem) (k : KV) : bodyK Try.prog E50 Lam50 Try.f50 false [(.ptr b_0 o_0), (.agg 3 c_1)] m k = F50 b_0 o_0 c_1 m (fun m' => k (.tup []) m') := by
  kernel_rfl

theorem fs50 (w0 : World) : FS Try.prog w0 50 G50 := by
  refine (fs_body (Γ := E50) (sound_env (l := [(53, G53), (54, G54)]) w0 (by
    intro p hp
    simp only [List.mem_cons, List.not_mem_nil, or_false] at hp
    rcases hp with rfl | rfl
    · exact fs53 w0
    · exact fs54 w0)) (by kernel_rfl) Try.func50 (Λ := Lam50) (c := (bodyOf Try.f50)) (by kernel_rfl) Try.call50 (by kernel_rfl) (LS_of (bodyOf Try.f50) 0 (by kernel_rfl) (fun i hi => absurd hi (Nat.not_lt_zero i)) 0 (by kernel_rfl) (fun i hi => absurd hi (Nat.not_lt_zero i))) false (np := 2) (Nat.le_of_ble_eq_true (by kernel_rfl))).imp fun args => ?_
  by_cases hl : args.length = 2
  rotate_left
  · exact .inr fun m k hk => by
      unfold G50 at hk
      split at hk
      · exact hl rfl
      · exact hk
  obtain ⟨a0, a1, rfl⟩ : ∃ a0 a1, args = [a0, a1] := len_list2 hl
  rcases kptr_or a0 with ⟨b_0, o_0, rfl⟩ | h
  rotate_left
  · exact .inr fun m k hk => h _ (by simpa only [G50, kI, kbool, kS, kptr, kaggN, kite, decide_true, eq_self] using hk)
  rcases kaggN_or 3 a1 with ⟨c_1, rfl⟩ | h
  rotate_left
  · exact .inr fun m k hk => h _ (by simpa only [G50, kI, kbool, kS, kptr, kaggN, kite, decide_true, eq_self] using hk)
  exact .inl fun m k => propext ⟨fun h => ⟨rfl, by rw [eqn50]; simpa only [G50, kI, kbool, kS, kptr, kaggN, kite, decide_true, eq_self] using h⟩, fun h => by have h := h.2; rw [eqn50] at h; simpa only [G50, kI, kbool, kS, kptr, kaggN, kite, decide_true, eq_self] using h⟩

def E43 : Env := envOf [(44, G44), (49, G49), (50, G50)]

def R43_3 (b_0 o_0 : Nat) (x_1 : Int) (v_12 : AV) (x_13 : Int) (x_5 : Int) (x_14 : Int) (m : Mem) (kn : Int → Int → Mem → Prop) (k0 : Int → Mem → Prop) : Prop :=
  kif (decide (x_14 < x_13)) (ksl v_12 fun b5 o6 l7 p8 => kif (decide (0 ≤ x_14) && decide (x_14 < l7)) (ldG 3 m b5 (o6 + (x_14).toNat * 3) fun c9 => newK m ⟨3, lget [(.flat (.int .u32 0)), (.flat (.int .i64 0)), (.flat (.int .i64 0))], 94, false⟩ fun b11 m10 => stG 3 m10 b11 0 c9 fun m12 => ldA m12 b_0 (o_0 + 2) fun v13 => ldG 3 m12 b11 0 fun c14 => mget K94 3 v13 c14 4 (lget [(.flat (.int .u32 0)), (.flat (.slice none 0 0)), (.flat (.slice none 0 0)), (.flat (.slice none 0 0))]) m12 fun c15 x16 => F44 c15 m12 fun x17 m18 => kif (x17 == x_1) (ldG 3 m18 b11 0 fun c19 => F50 b_0 o_0 c19 m18 fun m20 => ldA m20 b_0 (o_0 + 2) fun v21 => ldG 3 m20 b11 0 fun c22 => mdel K94 3 v21 c22 m20 fun m23 => kn (IntKind.wrap .i64 (x_5 + 1)) (IntKind.wrap .i64 (x_14 + 1)) m23) (kn x_5 (IntKind.wrap .i64 (x_14 + 1)) m18)) False) (k0 x_5 m)

def L43_3 (b_0 o_0 : Nat) (x_1 : Int) (v_12 : AV) (x_13 : Int) : Nat → Int → Int → Mem → (Int → Mem → Prop) → Prop
  | 0, _, _,  _, _ => bump False
  | N + 1, x_5, x_14,  m, k0 => R43_3 b_0 o_0 x_1 v_12 x_13 x_5 x_14 m (fun x_5' x_14' m' => L43_3 b_0 o_0 x_1 v_12 x_13 N x_5' x_14' m' k0) k0

/-- (*pianola/cache.Cache).Drop -/
def F43 (b_0 o_0 : Nat) (x_1 : Int) (m : Mem) (k : Int → Mem → Prop) : Prop :=
  ldA m b_0 (o_0 + 1) fun v1 => F49 v1 m fun v2 m3 => klen v2 fun x4 => ∃ N26, L43_3 b_0 o_0 x_1 v2 x4 N26 0 0 m3 (fun x24 m25 => k x24 m25)

def G43 (args : List AV) (m : Mem) (k : KV) : Prop := match args with
  | [a0, a1] => kptr a0 fun b_0 o_0 => kI .i64 a1 fun x_1 => F43 b_0 o_0 x_1 m (fun x_1000 m' => k (.flat (.int .i64 x_1000)) m')
  | _ => False

def Lam43_3 (σ : Nat → AV) (m : Mem) (k : KX) : Prop := kptr (σ 0) fun b_0 o_0 => kI .i64 (σ 1) fun x_1 => kI .i64 (σ 5) fun x_5 => kI .i64 (σ 13) fun x_13 => kI .i64 (σ 14) fun x_14 => ∃ N, L43_3 b_0 o_0 x_1 (σ 12) x_13 N x_5 x_14 m (fun x_5' m' => k (.exit 0) (only [5] [(.flat (.int .i64 x_5'))]) m')

def Lam43 : LEnv := ⟨fun a σ m k => match firstReg a with
  | some 3 => Lam43_3 σ m k
  | _ => bump False,
  fun id => match id with
  | _ => bump false,
  fun b => match keyC b with
  | _ => bump false,
  fun b σ m k => match keyC b with
  | _ => bump False⟩

def lx43_3 : Ex → List Nat := fun e => match e with
  | .exit 0 => [5]
  | _ => []

theorem round43_3 (b_0 o_0 : Nat) (x_1 : Int) (v_12 : AV) (x_13 : Int) (x_5 : Int) (x_14 : Int) (m : Mem) (G : List AV → Mem → Prop) (k : KX) : (wpA Try.prog E43 Lam43 ((loopsOf (bodyOf Try.f43)).getD 0 .skip) (only [0, 1, 5, 12, 13, 14] [(.ptr b_0 o_0), (.flat (.int .i64 x_1)), (.flat (.int .i64 x_5)), v_12, (.flat (.int .i64 x_13)), (.flat (.int .i64 x_14))]) m fun e σ' m' => match e with
    | .normal => G ([0, 1, 5, 12, 13, 14].map σ') m'
    | .exit id => k (.exit id) (only (lx43_3 (.exit id)) ((lx43_3 (.exit id)).map σ')) m'
    | .ret => k .ret (only (lx43_3 .ret) ((lx43_3 .ret).map σ')) m') = R43_3 b_0 o_0 x_1 v_12 x_13 x_5 x_14 m (fun x_5' x_14' m' => G [(.ptr b_0 o_0), (.flat (.int .i64 x_1)), (.flat (.int .i64 x_5')), v_12, (.flat (.int .i64 x_13)), (.flat (.int .i64 x_14'))] m') (fun x_5' m' => k (.exit 0) (only [5] [(.flat (.int .i64 x_5'))]) m') := by
  kernel_rfl

theorem loop43_3 (b_0 o_0 : Nat) (x_1 : Int) (v_12 : AV) (x_13 : Int) (k : KX) : ∀ (N : Nat) (x_5 : Int) (x_14 : Int) (m : Mem), rounds Try.prog E43 Lam43 [0, 1, 5, 12, 13, 14] lx43_3 ((loopsOf (bodyOf Try.f43)).getD 0 .skip) N [(.ptr b_0 o_0), (.flat (.int .i64 x_1)), (.flat (.int .i64 x_5)), v_12, (.flat (.int .i64 x_13)), (.flat (.int .i64 x_14))] m k = L43_3 b_0 o_0 x_1 v_12 x_13 N x_5 x_14 m (fun x_5' m' => k (.exit 0) (only [5] [(.flat (.int .i64 x_5'))]) m') := by
  intro N
  induction N with
  | zero => intros; rfl
  | succ N ih =>
    intro x_5 x_14 m
    refine (round43_3 b_0 o_0 x_1 v_12 x_13 x_5 x_14 m (fun vs m' => rounds Try.prog E43 Lam43 [0, 1, 5, 12, 13, 14] lx43_3 ((loopsOf (bodyOf Try.f43)).getD 0 .skip) N vs m' k) k).trans ?_
    simp only [ih]
    rfl

theorem lok43_3 : LoopOK Try.prog E43 Lam43 ((loopsOf (bodyOf Try.f43)).getD 0 .skip) := by
  refine ⟨fun σ => ∃ b_0 o_0 x_1 x_5 v_12 x_13 x_14, σ 0 = .ptr b_0 o_0 ∧ σ 1 = .flat (.int .i64 x_1) ∧ σ 5 = .flat (.int .i64 x_5) ∧ σ 12 = v_12 ∧ σ 13 = .flat (.int .i64 x_13) ∧ σ 14 = .flat (.int .i64 x_14), [0, 1, 5, 12, 13, 14], lx43_3, fun σ m k => ?_⟩
  have e : Lam43.loop ((loopsOf (bodyOf Try.f43)).getD 0 .skip) σ m k = Lam43_3 σ m k := by kernel_rfl
  rw [e]
  constructor
  · intro h
    unfold Lam43_3 at h
    obtain ⟨b_0, o_0, h0, h⟩ := kptr_ok h
    obtain ⟨x_1, h1, h⟩ := kI_ok h
    obtain ⟨x_5, h2, h⟩ := kI_ok h
    obtain ⟨v_12, h3⟩ : ∃ v, σ 12 = v := ⟨_, rfl⟩
    obtain ⟨x_13, h4, h⟩ := kI_ok h
    obtain ⟨x_14, h5, h⟩ := kI_ok h
    obtain ⟨N, h⟩ := h
    refine ⟨⟨b_0, o_0, x_1, x_5, v_12, x_13, x_14, h0, h1, h2, h3, h4, h5⟩, N, ?_⟩
    have ev : [0, 1, 5, 12, 13, 14].map σ = [(.ptr b_0 o_0), (.flat (.int .i64 x_1)), (.flat (.int .i64 x_5)), v_12, (.flat (.int .i64 x_13)), (.flat (.int .i64 x_14))] := by simp only [List.map_cons, List.map_nil, h0, h1, h2, h3, h4, h5]
    rw [ev, loop43_3]
    simp only [h3] at h
    exact h
  · rintro ⟨⟨b_0, o_0, x_1, x_5, v_12, x_13, x_14, h0, h1, h2, h3, h4, h5⟩, N, h⟩
    have ev : [0, 1, 5, 12, 13, 14].map σ = [(.ptr b_0 o_0), (.flat (.int .i64 x_1)), (.flat (.int .i64 x_5)), v_12, (.flat (.int .i64 x_13)), (.flat (.int .i64 x_14))] := by simp only [List.map_cons, List.map_nil, h0, h1, h2, h3, h4, h5]
    rw [ev, loop43_3] at h
    unfold Lam43_3
    try simp only [h0, h1, h2, h3, h4, h5, kI, kbool, kS, kptr, kaggN, kite, decide_true, eq_self]
    exact ⟨N, h⟩

theorem eqn43 (b_0 o_0 : Nat) (x_1 : Int) (m : Mem) (k : KV) : bodyK Try.prog E43 Lam43 Try.f43 false [(.ptr b_0 o_0), (.flat (.int .i64 x_1))] m k = F43 b_0 o_0 x_1 m (fun x_1000 m' => k (.flat (.int .i64 x_1000)) m') := by
  kernel_rfl

theorem fs43 (w0 : World) : FS Try.prog w0 43 G43 := by
  refine (fs_body (Γ := E43) (sound_env (l := [(44, G44), (49, G49), (50, G50)]) w0 (by
    intro p hp
    simp only [List.mem_cons, List.not_mem_nil, or_false] at hp
    rcases hp with rfl | rfl | rfl
    · exact fs44 w0
    · exact fs49 w0
    · exact fs50 w0)) (by kernel_rfl) Try.func43 (Λ := Lam43) (c := (bodyOf Try.f43)) (by kernel_rfl) Try.call43 (by kernel_rfl) (LS_of (bodyOf Try.f43) 1 (by kernel_rfl) (by
    intro i hi
    match i, hi with
    | 0, _ => exact lok43_3
    | i + 1, hi => omega) 0 (by kernel_rfl) (fun i hi => absurd hi (Nat.not_lt_zero i))) false (np := 2) (Nat.le_of_ble_eq_true (by kernel_rfl))).imp fun args => ?_
  by_cases hl : args.length = 2
  rotate_left
  · exact .inr fun m k hk => by
      unfold G43 at hk
      split at hk
      · exact hl rfl
      · exact hk
  obtain ⟨a0, a1, rfl⟩ : ∃ a0 a1, args = [a0, a1] := len_list2 hl
  rcases kptr_or a0 with ⟨b_0, o_0, rfl⟩ | h
  rotate_left
  · exact .inr fun m k hk => h _ (by simpa only [G43, kI, kbool, kS, kptr, kaggN, kite, decide_true, eq_self] using hk)
  rcases kI_or .i64 a1 with ⟨x_1, rfl⟩ | h
  rotate_left
  · exact .inr fun m k hk => h _ (by simpa only [G43, kI, kbool, kS, kptr, kaggN, kite, decide_true, eq_self] using hk)
  exact .inl fun m k => propext ⟨fun h => ⟨rfl, by rw [eqn43]; simpa only [G43, kI, kbool, kS, kptr, kaggN, kite, decide_true, eq_self] using h⟩, fun h => by have h := h.2; rw [eqn43] at h; simpa only [G43, kI, kbool, kS, kptr, kaggN, kite, decide_true, eq_self] using h⟩

def E47 : Env := envOf []

def R47_3 (b_0 o_0 : Nat) (v_9 : AV) (x_10 : Int) (v_3 : AV) (x_11 : Int) (m : Mem) (kn : AV → Int → Mem → Prop) (k0 : AV → Mem → Prop) : Prop :=
  kif (decide (x_11 < x_10)) (ksl v_9 fun b3 o4 l5 p6 => kif (decide (0 ≤ x_11) && decide (x_11 < l5)) (ldB m b3 (o4 + (x_11).toNat * 1) fun x7 => kif x7 (newK m ⟨1, upd (lget [(.flat (.int .i64 0))]) 0 (.flat (.int .i64 x_11)), 3, false⟩ fun b9 m8 => appS 1 8 3 v_3 (.sl b9 0 1 (.ex 1)) m8 fun v10 m11 => ldA m11 b_0 (o_0 + 2) fun v12 => ksl v12 fun b13 o14 l15 p16 => kif (decide (0 ≤ x_11) && decide (x_11 < l15)) (stC m11 b13 (o14 + (x_11).toNat * 1) (.flat (.bool false)) fun m17 => kn v10 (IntKind.wrap .i64 (x_11 + 1)) m17) False) (kn v_3 (IntKind.wrap .i64 (x_11 + 1)) m)) False) (k0 v_3 m)

def L47_3 (b_0 o_0 : Nat) (v_9 : AV) (x_10 : Int) : Nat → AV → Int → Mem → (AV → Mem → Prop) → Prop
  | 0, _, _,  _, _ => bump False
  | N + 1, v_3, x_11,  m, k0 => R47_3 b_0 o_0 v_9 x_10 v_3 x_11 m (fun v_3' x_11' m' => L47_3 b_0 o_0 v_9 x_10 N v_3' x_11' m' k0) k0

/-- (*pianola/ram.Ram).Written -/
def F47 (b_0 o_0 : Nat) (m : Mem) (k : AV → Mem → Prop) : Prop :=
  ldA m b_0 (o_0 + 2) fun v1 => klen v1 fun x2 => ∃ N20, L47_3 b_0 o_0 v1 x2 N20 (.flat (.slice none 0 0)) 0 m (fun v18 m19 => k v18 m19)

def G47 (args : List AV) (m : Mem) (k : KV) : Prop := match args with
  | [a0] => kptr a0 fun b_0 o_0 => F47 b_0 o_0 m (fun v_1000 m' => k v_1000 m')
  | _ => False

def Lam47_3 (σ : Nat → AV) (m : Mem) (k : KX) : Prop := kptr (σ 0) fun b_0 o_0 => kI .i64 (σ 10) fun x_10 => kI .i64 (σ 11) fun x_11 => ∃ N, L47_3 b_0 o_0 (σ 9) x_10 N (σ 3) x_11 m (fun v_3' m' => k (.exit 0) (only [3] [v_3']) m')

def Lam47 : LEnv := ⟨fun a σ m k => match firstReg a with
  | some 3 => Lam47_3 σ m k
  | _ => bump False,
  fun id => match id with
  | _ => bump false,
  fun b => match keyC b with
  | _ => bump false,
  fun b σ m k => match keyC b with
  | _ => bump False⟩

def lx47_3 : Ex → List Nat := fun e => match e with
  | .exit 0 => [3]
  | _ => []

theorem round47_3 (b_0 o_0 : Nat) (v_9 : AV) (x_10 : Int) (v_3 : AV) (x_11 : Int) (m : Mem) (G : List AV → Mem → Prop) (k : KX) : (wpA Try.prog E47 Lam47 ((loopsOf (bodyOf Try.f47)).getD 0 .skip) (only [0, 3, 9, 10, 11] [(.ptr b_0 o_0), v_3, v_9, (.flat (.int .i64 x_10)), (.flat (.int .i64 x_11))]) m fun e σ' m' => match e with
    | .normal => G ([0, 3, 9, 10, 11].map σ') m'
    | .exit id => k (.exit id) (only (lx47_3 (.exit id)) ((lx47_3 (.exit id)).map σ')) m'
    | .ret => k .ret (only (lx47_3 .ret) ((lx47_3 .ret).map σ')) m') = R47_3 b_0 o_0 v_9 x_10 v_3 x_11 m (fun v_3' x_11' m' => G [(.ptr b_0 o_0), v_3', v_9, (.flat (.int .i64 x_10)), (.flat (.int .i64 x_11'))] m') (fun v_3' m' => k (.exit 0) (only [3] [v_3']) m') := by
  kernel_rfl

theorem loop47_3 (b_0 o_0 : Nat) (v_9 : AV) (x_10 : Int) (k : KX) : ∀ (N : Nat) (v_3 : AV) (x_11 : Int) (m : Mem), rounds Try.prog E47 Lam47 [0, 3, 9, 10, 11] lx47_3 ((loopsOf (bodyOf Try.f47)).getD 0 .skip) N [(.ptr b_0 o_0), v_3, v_9, (.flat (.int .i64 x_10)), (.flat (.int .i64 x_11))] m k = L47_3 b_0 o_0 v_9 x_10 N v_3 x_11 m (fun v_3' m' => k (.exit 0) (only [3] [v_3']) m') := by
  intro N
  induction N with
  | zero => intros; rfl
  | succ N ih =>
    intro v_3 x_11 m
    refine (round47_3 b_0 o_0 v_9 x_10 v_3 x_11 m (fun vs m' => rounds Try.prog E47 Lam47 [0, 3, 9, 10, 11] lx47_3 ((loopsOf (bodyOf Try.f47)).getD 0 .skip) N vs m' k) k).trans ?_
    simp only [ih]
    rfl

theorem lok47_3 : LoopOK Try.prog E47 Lam47 ((loopsOf (bodyOf Try.f47)).getD 0 .skip) := by
  refine ⟨fun σ => ∃ b_0 o_0 v_3 v_9 x_10 x_11, σ 0 = .ptr b_0 o_0 ∧ σ 3 = v_3 ∧ σ 9 = v_9 ∧ σ 10 = .flat (.int .i64 x_10) ∧ σ 11 = .flat (.int .i64 x_11), [0, 3, 9, 10, 11], lx47_3, fun σ m k => ?_⟩
  have e : Lam47.loop ((loopsOf (bodyOf Try.f47)).getD 0 .skip) σ m k = Lam47_3 σ m k := by kernel_rfl
  rw [e]
  constructor
  · intro h
    unfold Lam47_3 at h
    obtain ⟨b_0, o_0, h0, h⟩ := kptr_ok h
    obtain ⟨v_3, h1⟩ : ∃ v, σ 3 = v := ⟨_, rfl⟩
    obtain ⟨v_9, h2⟩ : ∃ v, σ 9 = v := ⟨_, rfl⟩
    obtain ⟨x_10, h3, h⟩ := kI_ok h
    obtain ⟨x_11, h4, h⟩ := kI_ok h
    obtain ⟨N, h⟩ := h
    refine ⟨⟨b_0, o_0, v_3, v_9, x_10, x_11, h0, h1, h2, h3, h4⟩, N, ?_⟩
    have ev : [0, 3, 9, 10, 11].map σ = [(.ptr b_0 o_0), v_3, v_9, (.flat (.int .i64 x_10)), (.flat (.int .i64 x_11))] := by simp only [List.map_cons, List.map_nil, h0, h1, h2, h3, h4]
    rw [ev, loop47_3]
    simp only [h1, h2] at h
    exact h
  · rintro ⟨⟨b_0, o_0, v_3, v_9, x_10, x_11, h0, h1, h2, h3, h4⟩, N, h⟩
    have ev : [0, 3, 9, 10, 11].map σ = [(.ptr b_0 o_0), v_3, v_9, (.flat (.int .i64 x_10)), (.flat (.int .i64 x_11))] := by simp only [List.map_cons, List.map_nil, h0, h1, h2, h3, h4]
    rw [ev, loop47_3] at h
    unfold Lam47_3
    try simp only [h0, h1, h2, h3, h4, kI, kbool, kS, kptr, kaggN, kite, decide_true, eq_self]
    exact ⟨N, h⟩

theorem eqn47 (b_0 o_0 : Nat) (m : Mem) (k : KV) : bodyK Try.prog E47 Lam47 Try.f47 false [(.ptr b_0 o_0)] m k = F47 b_0 o_0 m (fun v_1000 m' => k v_1000 m') := by
  kernel_rfl

theorem fs47 (w0 : World) : FS Try.prog w0 47 G47 := by
  refine (fs_body (Γ := E47) (sound_env (l := []) w0 (by
    intro p hp
    cases hp)) (by kernel_rfl) Try.func47 (Λ := Lam47) (c := (bodyOf Try.f47)) (by kernel_rfl) Try.call47 (by kernel_rfl) (LS_of (bodyOf Try.f47) 1 (by kernel_rfl) (by
    intro i hi
    match i, hi with
    | 0, _ => exact lok47_3
    | i + 1, hi => omega) 0 (by kernel_rfl) (fun i hi => absurd hi (Nat.not_lt_zero i))) false (np := 1) (Nat.le_of_ble_eq_true (by kernel_rfl))).imp fun args => ?_
  by_cases hl : args.length = 1
  rotate_left
  · exact .inr fun m k hk => by
      unfold G47 at hk
      split at hk
      · exact hl rfl
      · exact hk
  obtain ⟨a0, rfl⟩ : ∃ a0, args = [a0] := len_list1 hl
  rcases kptr_or a0 with ⟨b_0, o_0, rfl⟩ | h
  rotate_left
  · exact .inr fun m k hk => h _ (by simpa only [G47, kI, kbool, kS, kptr, kaggN, kite, decide_true, eq_self] using hk)
  exact .inl fun m k => propext ⟨fun h => ⟨rfl, by rw [eqn47]; simpa only [G47, kI, kbool, kS, kptr, kaggN, kite, decide_true, eq_self] using h⟩, fun h => by have h := h.2; rw [eqn47] at h; simpa only [G47, kI, kbool, kS, kptr, kaggN, kite, decide_true, eq_self] using h⟩

def E52 : Env := envOf []

/-- (*pianola/ram.Ram).page -/
def F52 (b_0 o_0 : Nat) (x_1 : Int) (m : Mem) (k : Bool → Mem → Prop) : Prop :=
  kif (decide (x_1 ≥ 0)) (ldA m b_0 (o_0 + 1) fun v1 => klen v1 fun x2 => (Keeps m m ∧ k (decide (x_1 < x2)) m)) ((Keeps m m ∧ k false m))

def G52 (args : List AV) (m : Mem) (k : KV) : Prop := match args with
  | [a0, a1] => kptr a0 fun b_0 o_0 => kI .i64 a1 fun x_1 => F52 b_0 o_0 x_1 m (fun x_1000 m' => k (.flat (.bool x_1000)) m')
  | _ => False

def Lam52 : LEnv := ⟨fun a σ m k => match firstReg a with
  | _ => bump False,
  fun id => match id with
  | _ => bump false,
  fun b => match keyC b with
  | _ => bump false,
  fun b σ m k => match keyC b with
  | _ => bump False⟩

theorem eqn52 (b_0 o_0 : Nat) (x_1 : Int) (m : Mem) (k : KV) : bodyK Try.prog E52 Lam52 Try.f52 true [(.ptr b_0 o_0), (.flat (.int .i64 x_1))] m k = F52 b_0 o_0 x_1 m (fun x_1000 m' => k (.flat (.bool x_1000)) m') := by
  kernel_rfl

theorem fs52 (w0 : World) : FS Try.prog w0 52 G52 := by
  refine (fs_body (Γ := E52) (sound_env (l := []) w0 (by
    intro p hp
    cases hp)) (by kernel_rfl) Try.func52 (Λ := Lam52) (c := (bodyOf Try.f52)) (by kernel_rfl) Try.call52 (by kernel_rfl) (LS_of (bodyOf Try.f52) 0 (by kernel_rfl) (fun i hi => absurd hi (Nat.not_lt_zero i)) 0 (by kernel_rfl) (fun i hi => absurd hi (Nat.not_lt_zero i))) true (np := 2) (Nat.le_of_ble_eq_true (by kernel_rfl))).imp fun args => ?_
  by_cases hl : args.length = 2
  rotate_left
  · exact .inr fun m k hk => by
      unfold G52 at hk
      split at hk
      · exact hl rfl
      · exact hk
  obtain ⟨a0, a1, rfl⟩ : ∃ a0 a1, args = [a0, a1] := len_list2 hl
  rcases kptr_or a0 with ⟨b_0, o_0, rfl⟩ | h
  rotate_left
  · exact .inr fun m k hk => h _ (by simpa only [G52, kI, kbool, kS, kptr, kaggN, kite, decide_true, eq_self] using hk)
  rcases kI_or .i64 a1 with ⟨x_1, rfl⟩ | h
  rotate_left
  · exact .inr fun m k hk => h _ (by simpa only [G52, kI, kbool, kS, kptr, kaggN, kite, decide_true, eq_self] using hk)
  exact .inl fun m k => propext ⟨fun h => ⟨rfl, by rw [eqn52]; simpa only [G52, kI, kbool, kS, kptr, kaggN, kite, decide_true, eq_self] using h⟩, fun h => by have h := h.2; rw [eqn52] at h; simpa only [G52, kI, kbool, kS, kptr, kaggN, kite, decide_true, eq_self] using h⟩

def E48 : Env := envOf [(52, G52)]

/-- (*pianola/ram.Ram).Unmark -/
def F48 (b_0 o_0 : Nat) (x_1 : Int) (m : Mem) (k : Mem → Prop) : Prop :=
  F52 b_0 o_0 x_1 m fun x1 m2 => kif x1 (ldA m2 b_0 (o_0 + 1) fun v3 => ldA m2 b_0 (o_0 + 2) fun v4 => ksl v3 fun b5 o6 l7 p8 => kif (decide (0 ≤ x_1) && decide (x_1 < l7)) (stC m2 b5 (o6 + (x_1).toNat * 1) (.flat (.bool false)) fun m9 => ksl v4 fun b10 o11 l12 p13 => kif (decide (0 ≤ x_1) && decide (x_1 < l12)) (stC m9 b10 (o11 + (x_1).toNat * 1) (.flat (.bool false)) fun m14 => k  m14) False) False) (k  m2)

def G48 (args : List AV) (m : Mem) (k : KV) : Prop := match args with
  | [a0, a1] => kptr a0 fun b_0 o_0 => kI .i64 a1 fun x_1 => F48 b_0 o_0 x_1 m (fun m' => k (.tup []) m')
  | _ => False

def Lam48 : LEnv := ⟨fun a σ m k => match firstReg a with
  | _ => bump False,
  fun id => match id with
  | _ => bump false,
  fun b => match keyC b with
  | _ => bump false,
  fun b σ m k => match keyC b with
  | _ => bump False⟩

theorem eqn48 (b_0 o_0 : Nat) (x_1 : Int) (m : Mem) (k : KV) : bodyK Try.prog E48 Lam48 Try.f48 false [(.ptr b_0 o_0), (.flat (.int .i64 x_1))] m k = F48 b_0 o_0 x_1 m (fun m' => k (.tup []) m') := by
  kernel_rfl

theorem fs48 (w0 : World) : FS Try.prog w0 48 G48 := by
  refine (fs_body (Γ := E48) (sound_env (l := [(52, G52)]) w0 (by
    intro p hp
    simp only [List.mem_cons, List.not_mem_nil, or_false] at hp
    rcases hp with rfl
    · exact fs52 w0)) (by kernel_rfl) Try.func48 (Λ := Lam48) (c := (bodyOf Try.f48)) (by kernel_rfl) Try.call48 (by kernel_rfl) (LS_of (bodyOf Try.f48) 0 (by kernel_rfl) (fun i hi => absurd hi (Nat.not_lt_zero i)) 0 (by kernel_rfl) (fun i hi => absurd hi (Nat.not_lt_zero i))) false (np := 2) (Nat.le_of_ble_eq_true (by kernel_rfl))).imp fun args => ?_
  by_cases hl : args.length = 2
  rotate_left
  · exact .inr fun m k hk => by
      unfold G48 at hk
      split at hk
      · exact hl rfl
      · exact hk
  obtain ⟨a0, a1, rfl⟩ : ∃ a0 a1, args = [a0, a1] := len_list2 hl
  rcases kptr_or a0 with ⟨b_0, o_0, rfl⟩ | h
  rotate_left
  · exact .inr fun m k hk => h _ (by simpa only [G48, kI, kbool, kS, kptr, kaggN, kite, decide_true, eq_self] using hk)
  rcases kI_or .i64 a1 with ⟨x_1, rfl⟩ | h
  rotate_left
  · exact .inr fun m k hk => h _ (by simpa only [G48, kI, kbool, kS, kptr, kaggN, kite, decide_true, eq_self] using hk)
  exact .inl fun m k => propext ⟨fun h => ⟨rfl, by rw [eqn48]; simpa only [G48, kI, kbool, kS, kptr, kaggN, kite, decide_true, eq_self] using h⟩, fun h => by have h := h.2; rw [eqn48] at h; simpa only [G48, kI, kbool, kS, kptr, kaggN, kite, decide_true, eq_self] using h⟩

end Go.Proofs.Ytobdghdcmkdcaaa.Am
