/- What Go functions ask of what follows them, as plain functions over the abstract machine; the machine asks just that. Written by gen.py. -/
import Derived.Test.YtmgalbmhbbickaaProg
import Derived.Test.YtmgalbmhbbickaaAmL
import Derived.Test.YtmgalbmhbbickaaM0
namespace Go.Proofs.Ytmgalbmhbbickaa.Am
set_option linter.unusedVariables false
set_option linter.unusedSimpArgs false
set_option maxRecDepth 100000

/-- (*pianola/ram.Ram).Put -/
def F17 (b_0 o_0 : Nat) (x_1 : Int) (v_2 : AV) (m : Mem) (k : Bool → Mem → Prop) : Prop :=
  klen v_2 fun x1 => F23 b_0 o_0 x_1 x1 m fun x2 m3 => kif (!x2) (k false m3) (ldA m3 b_0 (o_0 + 0) fun v4 => slS 1 v4 (some x_1) none fun v5 => copS 1 v5 v_2 m3 fun v6 m7 => klen v_2 fun x8 => F22 b_0 o_0 x_1 x8 m7 fun m9 => k true m9)

def G17 (args : List AV) (m : Mem) (k : KV) : Prop := match args with
  | [a0, a1, a2] => kptr a0 fun b_0 o_0 => kI .u32 a1 fun x_1 => F17 b_0 o_0 x_1 a2 m (fun x_1000 m' => k (.flat (.bool x_1000)) m')
  | _ => False

def E17 : Env := envOf [(22, G22), (23, G23)]

def Lam17 : LEnv := ⟨fun a σ m k => match firstReg a with
  | _ => bump False,
  fun id => match id with
  | _ => bump false,
  fun b => match keyC b with
  | _ => bump false,
  fun b σ m k => match keyC b with
  | _ => bump False⟩

theorem eqn17 (b_0 o_0 : Nat) (x_1 : Int) (v_2 : AV) (m : Mem) (k : KV) : bodyK Try.prog E17 Lam17 Try.f17 false [(.ptr b_0 o_0), (.flat (.int .u32 x_1)), v_2] m k = F17 b_0 o_0 x_1 v_2 m (fun x_1000 m' => k (.flat (.bool x_1000)) m') := by
  kernel_rfl

theorem fs17 (w0 : World) : FS Try.prog w0 17 G17 := by
  refine (fs_body (Γ := E17) (sound_env (l := [(22, G22), (23, G23)]) w0 (by
    intro p hp
    simp only [List.mem_cons, List.not_mem_nil, or_false] at hp
    rcases hp with rfl | rfl
    · exact fs22 w0
    · exact fs23 w0)) (by kernel_rfl) Try.func17 (Λ := Lam17) (c := (bodyOf Try.f17)) (by kernel_rfl) Try.call17 (by kernel_rfl) (LS_of (bodyOf Try.f17) 0 (by kernel_rfl) (fun i hi => absurd hi (Nat.not_lt_zero i)) 0 (by kernel_rfl) (fun i hi => absurd hi (Nat.not_lt_zero i))) false (np := 3) (Nat.le_of_ble_eq_true (by kernel_rfl))).imp fun args => ?_
  by_cases hl : args.length = 3
  rotate_left
  · exact .inr fun m k hk => by
      unfold G17 at hk
      split at hk
      · exact hl rfl
      · exact hk
  obtain ⟨a0, a1, a2, rfl⟩ : ∃ a0 a1 a2, args = [a0, a1, a2] := len_list3 hl
  rcases kptr_or a0 with ⟨b_0, o_0, rfl⟩ | h
  rotate_left
  · exact .inr fun m k hk => h _ (by simpa only [G17, kI, kbool, kS, kptr, kaggN, kite, decide_true, eq_self] using hk)
  rcases kI_or .u32 a1 with ⟨x_1, rfl⟩ | h
  rotate_left
  · exact .inr fun m k hk => h _ (by simpa only [G17, kI, kbool, kS, kptr, kaggN, kite, decide_true, eq_self] using hk)
  exact .inl fun m k => propext ⟨fun h => ⟨rfl, by rw [eqn17]; simpa only [G17, kI, kbool, kS, kptr, kaggN, kite, decide_true, eq_self] using h⟩, fun h => by have h := h.2; rw [eqn17] at h; simpa only [G17, kI, kbool, kS, kptr, kaggN, kite, decide_true, eq_self] using h⟩

/-- pianola/pianolalaw2.known -/
def F14  (m : Mem) (k : Bool → Mem → Prop) : Prop :=
  F7 1 m fun v1 m2 => knilP v1 fun x3 => kif x3 (k false m2) (kptr v1 fun b4 o5 => F10 b4 o5 0 4 16909060 m2 fun x6 m7 => kif (!x6) (k false m7) (kptr v1 fun b8 o9 => F16 b8 o9 1 1 m7 fun x10 x11 m12 => kptr v1 fun b13 o14 => F16 b13 o14 2 4 m12 fun x15 x16 m17 => kptr v1 fun b18 o19 => F9 b18 o19 0 m17 fun m20 => newK m20 ⟨1, upd (lget [(.flat (.int .u8 0))]) 0 (.flat (.int .u8 1)), 5, false⟩ fun b22 m21 => kptr v1 fun b23 o24 => F17 b23 o24 5 (.sl b22 0 1 (.ex 1)) m21 fun x25 m26 => kptr v1 fun b27 o28 => F13 b27 o28 m26 fun v29 m30 => kif (x10 == 2) (kif x11 (kif (!x16) (kptr v1 fun b31 o32 => F17 b31 o32 1024 (.flat (.slice none 0 0)) m30 fun x33 m34 => kif x33 (klen v29 fun x35 => kif (x35 == 1) (ksl v29 fun b36 o37 l38 p39 => kif (decide (0 ≤ (0 : Int)) && decide ((0 : Int) < l38)) (ldI .i64 m34 b36 (o37 + 0) fun x40 => kif (x40 == 0) (kptr v1 fun b41 o42 => F13 b41 o42 m34 fun v43 m44 => klen v43 fun x45 => k (x45 == 0) m44) (k false m34)) False) (k false m34)) (k false m34)) (k false m30)) (k false m30)) (k false m30)))

def G14 (args : List AV) (m : Mem) (k : KV) : Prop := match args with
  | [] => F14  m (fun x_1000 m' => k (.flat (.bool x_1000)) m')
  | _ => False

def E14 : Env := envOf [(7, G7), (9, G9), (10, G10), (13, G13), (16, G16), (17, G17)]

def Lam14 : LEnv := ⟨fun a σ m k => match firstReg a with
  | _ => bump False,
  fun id => match id with
  | _ => bump false,
  fun b => match keyC b with
  | _ => bump false,
  fun b σ m k => match keyC b with
  | _ => bump False⟩

theorem eqn14  (m : Mem) (k : KV) : bodyK Try.prog E14 Lam14 Try.f14 false [] m k = F14  m (fun x_1000 m' => k (.flat (.bool x_1000)) m') := by
  kernel_rfl

theorem fs14 (w0 : World) : FS Try.prog w0 14 G14 := by
  refine (fs_body (Γ := E14) (sound_env (l := [(7, G7), (9, G9), (10, G10), (13, G13), (16, G16), (17, G17)]) w0 (by
    intro p hp
    simp only [List.mem_cons, List.not_mem_nil, or_false] at hp
    rcases hp with rfl | rfl | rfl | rfl | rfl | rfl
    · exact fs7 w0
    · exact fs9 w0
    · exact fs10 w0
    · exact fs13 w0
    · exact fs16 w0
    · exact fs17 w0)) (by kernel_rfl) Try.func14 (Λ := Lam14) (c := (bodyOf Try.f14)) (by kernel_rfl) Try.call14 (by kernel_rfl) (LS_of (bodyOf Try.f14) 0 (by kernel_rfl) (fun i hi => absurd hi (Nat.not_lt_zero i)) 0 (by kernel_rfl) (fun i hi => absurd hi (Nat.not_lt_zero i))) false (np := 0) (Nat.le_of_ble_eq_true (by kernel_rfl))).imp fun args => ?_
  by_cases hl : args.length = 0
  rotate_left
  · exact .inr fun m k hk => by
      unfold G14 at hk
      split at hk
      · exact hl rfl
      · exact hk
  obtain rfl : args = [] := len_list0 hl

  exact .inl fun m k => propext ⟨fun h => ⟨rfl, by rw [eqn14]; simpa only [G14, kI, kbool, kS, kptr, kaggN, kite, decide_true, eq_self] using h⟩, fun h => by have h := h.2; rw [eqn14] at h; simpa only [G14, kI, kbool, kS, kptr, kaggN, kite, decide_true, eq_self] using h⟩

def P3_24102 (v_5 : AV) (b_6 o_6 : Nat) (b_7 o_7 : Nat) (v_12 : AV) (x_13 : Int) (m : Mem) (kr : Bool → Mem → Prop) (kn : Mem → Prop) : Prop :=
  ∃ Fr45 : Nat → Prop, kptr v_5 fun b46 o47 => F11 b46 o47 x_13 m fun x48 m49 => KeepsIn Fr45 m m49 ∧ (kif (decide (0 ≤ x_13) && decide (x_13 < 8)) (Fr45 b_6 ∧ (ldB m49 b_6 (o_6 + (x_13).toNat * 1) fun x50 => kif (!(x48 == x50)) (kr false m49) (kn  m49))) False)

def R3_20 (v_5 : AV) (b_6 o_6 : Nat) (b_7 o_7 : Nat) (v_12 : AV) (x_13 : Int) (m : Mem) (kn : AV → Int → Mem → Prop) (k4 : AV → Mem → Prop) (kr : Bool → Mem → Prop) : Prop :=
  kif (decide (x_13 < 8)) (kif (decide (0 ≤ x_13) && decide (x_13 < 8)) (ldB m b_7 (o_7 + (x_13).toNat * 1) fun x40 => kif x40 (newK m ⟨1, upd (lget [(.flat (.int .i64 0))]) 0 (.flat (.int .i64 x_13)), 3, false⟩ fun b42 m41 => appS 1 8 3 v_12 (.sl b42 0 1 (.ex 1)) m41 fun v43 m44 => P3_24102 v_5 b_6 o_6 b_7 o_7 v43 x_13 m44 (fun x51 m52 => kr x51 m52) (fun m53 => kn v43 (IntKind.wrap .i64 (x_13 + 1)) m53)) (P3_24102 v_5 b_6 o_6 b_7 o_7 v_12 x_13 m (fun x54 m55 => kr x54 m55) (fun m56 => kn v_12 (IntKind.wrap .i64 (x_13 + 1)) m56))) False) (k4 v_12 m)

def L3_20 (v_5 : AV) (b_6 o_6 : Nat) (b_7 o_7 : Nat) : Nat → AV → Int → Mem → (AV → Mem → Prop) → (Bool → Mem → Prop) → Prop
  | 0, _, _,  _, _, _ => bump False
  | N + 1, v_12, x_13,  m, k4, kr => R3_20 v_5 b_6 o_6 b_7 o_7 v_12 x_13 m (fun v_12' x_13' m' => L3_20 v_5 b_6 o_6 b_7 o_7 N v_12' x_13' m' k4 kr) k4 kr

def R3_12 (v_1 : AV) (v_5 : AV) (b_6 o_6 : Nat) (b_7 o_7 : Nat) (x_10 : Int) (m : Mem) (kn : Int → Mem → Prop) (k2 : Mem → Prop) (kr : Bool → Mem → Prop) : Prop :=
  klen v_1 fun x22 => kif (decide (x_10 < x22)) (kif (decide (x_10 < 20)) (ksl v_1 fun b23 o24 l25 p26 => kif (decide (0 ≤ x_10) && decide (x_10 < l25)) (ldI .u32 m b23 (o24 + (x_10).toNat * 1) fun x27 => kptr v_5 fun b28 o29 => F10 b28 o29 (x27.tmod 8192) 1 0 m fun x30 m31 => kif (!x30) (kr false m31) (kif (decide (0 ≤ IntKind.wrap .u32 ((x27.tmod 8192).tdiv 1024)) && decide (IntKind.wrap .u32 ((x27.tmod 8192).tdiv 1024) < 8)) (ldB m31 b_7 (o_7 + (IntKind.wrap .u32 ((x27.tmod 8192).tdiv 1024)).toNat * 1) fun x32 => kif x32 (kif (decide (0 ≤ IntKind.wrap .u32 ((x27.tmod 8192).tdiv 1024)) && decide (IntKind.wrap .u32 ((x27.tmod 8192).tdiv 1024) < 8)) (stC m31 b_7 (o_7 + (IntKind.wrap .u32 ((x27.tmod 8192).tdiv 1024)).toNat * 1) (.flat (.bool true)) fun m33 => kn (IntKind.wrap .i64 (x_10 + 1)) m33) False) (kif (decide (0 ≤ IntKind.wrap .u32 ((x27.tmod 8192).tdiv 1024)) && decide (IntKind.wrap .u32 ((x27.tmod 8192).tdiv 1024) < 8)) (ldB m31 b_6 (o_6 + (IntKind.wrap .u32 ((x27.tmod 8192).tdiv 1024)).toNat * 1) fun x34 => kif (decide (0 ≤ IntKind.wrap .u32 ((x27.tmod 8192).tdiv 1024)) && decide (IntKind.wrap .u32 ((x27.tmod 8192).tdiv 1024) < 8)) (stC m31 b_7 (o_7 + (IntKind.wrap .u32 ((x27.tmod 8192).tdiv 1024)).toNat * 1) (.flat (.bool x34)) fun m35 => kn (IntKind.wrap .i64 (x_10 + 1)) m35) False) False)) False)) False) (k2  m)) (k2  m)

def L3_12 (v_1 : AV) (v_5 : AV) (b_6 o_6 : Nat) (b_7 o_7 : Nat) : Nat → Int → Mem → (Mem → Prop) → (Bool → Mem → Prop) → Prop
  | 0, _,  _, _, _ => bump False
  | N + 1, x_10,  m, k2, kr => R3_12 v_1 v_5 b_6 o_6 b_7 o_7 x_10 m (fun x_10' m' => L3_12 v_1 v_5 b_6 o_6 b_7 o_7 N x_10' m' k2 kr) k2 kr

def R3_6 (v_0 : AV) (v_1 : AV) (v_5 : AV) (b_6 o_6 : Nat) (b_7 o_7 : Nat) (x_8 : Int) (m : Mem) (kn : Int → Mem → Prop) (k0 : Mem → Prop) : Prop :=
  klen v_0 fun x8 => kif (decide (x_8 < x8)) (kif (decide (x_8 < 8)) (ksl v_0 fun b9 o10 l11 p12 => kif (decide (0 ≤ x_8) && decide (x_8 < l11)) (ldI .i64 m b9 (o10 + (x_8).toNat * 1) fun x13 => F8 x13 0 7 m fun x14 m15 => kptr v_5 fun b16 o17 => F9 b16 o17 x14 m15 fun m18 => kif (decide (0 ≤ x14) && decide (x14 < 8)) (stC m18 b_6 (o_6 + (x14).toNat * 1) (.flat (.bool true)) fun m19 => kn (IntKind.wrap .i64 (x_8 + 1)) m19) False) False) (k0  m)) (k0  m)

def L3_6 (v_0 : AV) (v_1 : AV) (v_5 : AV) (b_6 o_6 : Nat) (b_7 o_7 : Nat) : Nat → Int → Mem → (Mem → Prop) → Prop
  | 0, _,  _, _ => bump False
  | N + 1, x_8,  m, k0 => R3_6 v_0 v_1 v_5 b_6 o_6 b_7 o_7 x_8 m (fun x_8' m' => L3_6 v_0 v_1 v_5 b_6 o_6 b_7 o_7 N x_8' m' k0) k0

/-- pianola/pianolalaw2.RamMarks -/
def F3 (v_0 : AV) (v_1 : AV) (m : Mem) (k : Bool → Mem → Prop) : Prop :=
  F7 8 m fun v1 m2 => knilP v1 fun x3 => kif x3 (k false m2) (newK m2 ⟨8, Z8, 26, false⟩ fun b5 m4 => newK m4 ⟨8, Z8, 26, false⟩ fun b7 m6 => ∃ N21, L3_6 v_0 v_1 v1 b5 0 b7 0 N21 0 m6 (fun m20 => ∃ N39, L3_12 v_1 v1 b5 0 b7 0 N39 0 m20 (fun m36 => ∃ N61, L3_20 v1 b5 0 b7 0 N61 (.flat (.slice none 0 0)) 0 m36 (fun v57 m58 => kptr v1 fun b62 o63 => F13 b62 o63 m58 fun v64 m65 => F12 v64 v57 m65 fun x66 m67 => kif x66 (kptr v1 fun b68 o69 => F13 b68 o69 m67 fun v70 m71 => klen v70 fun x72 => kif (x72 == 0) (F14  m71 fun x73 m74 => k x73 m74) (k false m71)) (k false m67)) (fun x59 m60 => k x59 m60)) (fun x37 m38 => k x37 m38)))

def G3 (args : List AV) (m : Mem) (k : KV) : Prop := match args with
  | [a0, a1] => F3 a0 a1 m (fun x_1000 m' => k (.flat (.bool x_1000)) m')
  | _ => False

def E3 : Env := envOf [(7, G7), (8, G8), (9, G9), (10, G10), (11, G11), (12, G12), (13, G13), (14, G14)]

def Lam3_6 (σ : Nat → AV) (m : Mem) (k : KX) : Prop := kptr (σ 6) fun b_6 o_6 => kptr (σ 7) fun b_7 o_7 => kI .i64 (σ 8) fun x_8 => ∃ N, L3_6 (σ 0) (σ 1) (σ 5) b_6 o_6 b_7 o_7 N x_8 m (fun m' => k (.exit 0) (only [1, 5, 6, 7] [(σ 1), (σ 5), (.ptr b_6 o_6), (.ptr b_7 o_7)]) m')

def Lam3_12 (σ : Nat → AV) (m : Mem) (k : KX) : Prop := kptr (σ 6) fun b_6 o_6 => kptr (σ 7) fun b_7 o_7 => kI .i64 (σ 10) fun x_10 => ∃ N, L3_12 (σ 1) (σ 5) b_6 o_6 b_7 o_7 N x_10 m (fun m' => k (.exit 2) (only [5, 6, 7] [(σ 5), (.ptr b_6 o_6), (.ptr b_7 o_7)]) m') (fun x_4' m' => k .ret (only [4] [(.flat (.bool x_4'))]) m')

def Lam3_20 (σ : Nat → AV) (m : Mem) (k : KX) : Prop := kptr (σ 6) fun b_6 o_6 => kptr (σ 7) fun b_7 o_7 => kI .i64 (σ 13) fun x_13 => ∃ N, L3_20 (σ 5) b_6 o_6 b_7 o_7 N (σ 12) x_13 m (fun v_12' m' => k (.exit 4) (only [5, 12] [(σ 5), v_12']) m') (fun x_4' m' => k .ret (only [4] [(.flat (.bool x_4'))]) m')

def LamP3_24102 (σ : Nat → AV) (m : Mem) (k : KX) : Prop := kptr (σ 6) fun b_6 o_6 => kptr (σ 7) fun b_7 o_7 => kI .i64 (σ 13) fun x_13 => P3_24102 (σ 5) b_6 o_6 b_7 o_7 (σ 12) x_13 m (fun x_4' m' => k .ret (only [4] [(.flat (.bool x_4'))]) m') (fun m' => k .normal (only [5, 6, 7, 12, 13] [(σ 5), (.ptr b_6 o_6), (.ptr b_7 o_7), (σ 12), (.flat (.int .i64 x_13))]) m')

def Lam3 : LEnv := ⟨fun a σ m k => match firstReg a with
  | some 6 => Lam3_6 σ m k
  | some 12 => Lam3_12 σ m k
  | some 20 => Lam3_20 σ m k
  | _ => bump False,
  fun id => match id with
  | 24 => true
  | _ => bump false,
  fun b => match keyC b with
  | some 24102 => true
  | _ => bump false,
  fun b σ m k => match keyC b with
  | some 24102 => LamP3_24102 σ m k
  | _ => bump False⟩

def lxp3_24102 : Ex → List Nat := fun e => match e with
  | .ret => [4]
  | .normal => [5, 6, 7, 12, 13]
  | _ => []

theorem pc3_24102 (v_5 : AV) (b_6 o_6 : Nat) (b_7 o_7 : Nat) (v_12 : AV) (x_13 : Int) (m : Mem) (k : KX) : once Try.prog E3 Lam3 [5, 6, 7, 12, 13] lxp3_24102 (((secsOf (bodyOf Try.f3)).filter Lam3.cut).getD 0 .skip) [v_5, (.ptr b_6 o_6), (.ptr b_7 o_7), v_12, (.flat (.int .i64 x_13))] m k = P3_24102 v_5 b_6 o_6 b_7 o_7 v_12 x_13 m (fun x_4' m' => k .ret (only [4] [(.flat (.bool x_4'))]) m') (fun m' => k .normal (only [5, 6, 7, 12, 13] [v_5, (.ptr b_6 o_6), (.ptr b_7 o_7), v_12, (.flat (.int .i64 x_13))]) m') := by
  kernel_rfl

theorem pok3_24102 : PieceOK Try.prog E3 Lam3 (((secsOf (bodyOf Try.f3)).filter Lam3.cut).getD 0 .skip) := by
  refine ⟨fun σ => ∃ v_5 b_6 o_6 b_7 o_7 v_12 x_13, σ 5 = v_5 ∧ σ 6 = .ptr b_6 o_6 ∧ σ 7 = .ptr b_7 o_7 ∧ σ 12 = v_12 ∧ σ 13 = .flat (.int .i64 x_13), [5, 6, 7, 12, 13], lxp3_24102, fun σ m k => ?_⟩
  have e : Lam3.piece (((secsOf (bodyOf Try.f3)).filter Lam3.cut).getD 0 .skip) σ m k = LamP3_24102 σ m k := by kernel_rfl
  rw [e]
  constructor
  · intro h
    unfold LamP3_24102 at h
    obtain ⟨v_5, h0⟩ : ∃ v, σ 5 = v := ⟨_, rfl⟩
    obtain ⟨b_6, o_6, h1, h⟩ := kptr_ok h
    obtain ⟨b_7, o_7, h2, h⟩ := kptr_ok h
    obtain ⟨v_12, h3⟩ : ∃ v, σ 12 = v := ⟨_, rfl⟩
    obtain ⟨x_13, h4, h⟩ := kI_ok h
    refine ⟨⟨v_5, b_6, o_6, b_7, o_7, v_12, x_13, h0, h1, h2, h3, h4⟩, ?_⟩
    have ev : [5, 6, 7, 12, 13].map σ = [v_5, (.ptr b_6 o_6), (.ptr b_7 o_7), v_12, (.flat (.int .i64 x_13))] := by simp only [List.map_cons, List.map_nil, h0, h1, h2, h3, h4]
    rw [ev, pc3_24102]
    simp only [h0, h3] at h
    exact h
  · rintro ⟨⟨v_5, b_6, o_6, b_7, o_7, v_12, x_13, h0, h1, h2, h3, h4⟩, h⟩
    have ev : [5, 6, 7, 12, 13].map σ = [v_5, (.ptr b_6 o_6), (.ptr b_7 o_7), v_12, (.flat (.int .i64 x_13))] := by simp only [List.map_cons, List.map_nil, h0, h1, h2, h3, h4]
    rw [ev, pc3_24102] at h
    unfold LamP3_24102
    try simp only [h0, h1, h2, h3, h4, kI, kbool, kS, kptr, kaggN, kite, decide_true, eq_self]
    exact h

def lx3_20 : Ex → List Nat := fun e => match e with
  | .exit 4 => [5, 12]
  | .ret => [4]
  | _ => []

theorem round3_20 (v_5 : AV) (b_6 o_6 : Nat) (b_7 o_7 : Nat) (v_12 : AV) (x_13 : Int) (m : Mem) (G : List AV → Mem → Prop) (k : KX) : (wpA Try.prog E3 Lam3 ((loopsOf (bodyOf Try.f3)).getD 2 .skip) (only [5, 6, 7, 12, 13] [v_5, (.ptr b_6 o_6), (.ptr b_7 o_7), v_12, (.flat (.int .i64 x_13))]) m fun e σ' m' => match e with
    | .normal => G ([5, 6, 7, 12, 13].map σ') m'
    | .exit id => k (.exit id) (only (lx3_20 (.exit id)) ((lx3_20 (.exit id)).map σ')) m'
    | .ret => k .ret (only (lx3_20 .ret) ((lx3_20 .ret).map σ')) m') = R3_20 v_5 b_6 o_6 b_7 o_7 v_12 x_13 m (fun v_12' x_13' m' => G [v_5, (.ptr b_6 o_6), (.ptr b_7 o_7), v_12', (.flat (.int .i64 x_13'))] m') (fun v_12' m' => k (.exit 4) (only [5, 12] [v_5, v_12']) m') (fun x_4' m' => k .ret (only [4] [(.flat (.bool x_4'))]) m') := by
  kernel_rfl

theorem loop3_20 (v_5 : AV) (b_6 o_6 : Nat) (b_7 o_7 : Nat) (k : KX) : ∀ (N : Nat) (v_12 : AV) (x_13 : Int) (m : Mem), rounds Try.prog E3 Lam3 [5, 6, 7, 12, 13] lx3_20 ((loopsOf (bodyOf Try.f3)).getD 2 .skip) N [v_5, (.ptr b_6 o_6), (.ptr b_7 o_7), v_12, (.flat (.int .i64 x_13))] m k = L3_20 v_5 b_6 o_6 b_7 o_7 N v_12 x_13 m (fun v_12' m' => k (.exit 4) (only [5, 12] [v_5, v_12']) m') (fun x_4' m' => k .ret (only [4] [(.flat (.bool x_4'))]) m') := by
  intro N
  induction N with
  | zero => intros; rfl
  | succ N ih =>
    intro v_12 x_13 m
    refine (round3_20 v_5 b_6 o_6 b_7 o_7 v_12 x_13 m (fun vs m' => rounds Try.prog E3 Lam3 [5, 6, 7, 12, 13] lx3_20 ((loopsOf (bodyOf Try.f3)).getD 2 .skip) N vs m' k) k).trans ?_
    simp only [ih]
    rfl

theorem lok3_20 : LoopOK Try.prog E3 Lam3 ((loopsOf (bodyOf Try.f3)).getD 2 .skip) := by
  refine ⟨fun σ => ∃ v_5 b_6 o_6 b_7 o_7 v_12 x_13, σ 5 = v_5 ∧ σ 6 = .ptr b_6 o_6 ∧ σ 7 = .ptr b_7 o_7 ∧ σ 12 = v_12 ∧ σ 13 = .flat (.int .i64 x_13), [5, 6, 7, 12, 13], lx3_20, fun σ m k => ?_⟩
  have e : Lam3.loop ((loopsOf (bodyOf Try.f3)).getD 2 .skip) σ m k = Lam3_20 σ m k := by kernel_rfl
  rw [e]
  constructor
  · intro h
    unfold Lam3_20 at h
    obtain ⟨v_5, h0⟩ : ∃ v, σ 5 = v := ⟨_, rfl⟩
    obtain ⟨b_6, o_6, h1, h⟩ := kptr_ok h
    obtain ⟨b_7, o_7, h2, h⟩ := kptr_ok h
    obtain ⟨v_12, h3⟩ : ∃ v, σ 12 = v := ⟨_, rfl⟩
    obtain ⟨x_13, h4, h⟩ := kI_ok h
    obtain ⟨N, h⟩ := h
    refine ⟨⟨v_5, b_6, o_6, b_7, o_7, v_12, x_13, h0, h1, h2, h3, h4⟩, N, ?_⟩
    have ev : [5, 6, 7, 12, 13].map σ = [v_5, (.ptr b_6 o_6), (.ptr b_7 o_7), v_12, (.flat (.int .i64 x_13))] := by simp only [List.map_cons, List.map_nil, h0, h1, h2, h3, h4]
    rw [ev, loop3_20]
    simp only [h0, h3] at h
    exact h
  · rintro ⟨⟨v_5, b_6, o_6, b_7, o_7, v_12, x_13, h0, h1, h2, h3, h4⟩, N, h⟩
    have ev : [5, 6, 7, 12, 13].map σ = [v_5, (.ptr b_6 o_6), (.ptr b_7 o_7), v_12, (.flat (.int .i64 x_13))] := by simp only [List.map_cons, List.map_nil, h0, h1, h2, h3, h4]
    rw [ev, loop3_20] at h
    unfold Lam3_20
    try simp only [h0, h1, h2, h3, h4, kI, kbool, kS, kptr, kaggN, kite, decide_true, eq_self]
    exact ⟨N, h⟩

def lx3_12 : Ex → List Nat := fun e => match e with
  | .exit 2 => [5, 6, 7]
  | .ret => [4]
  | _ => []

theorem round3_12 (v_1 : AV) (v_5 : AV) (b_6 o_6 : Nat) (b_7 o_7 : Nat) (x_10 : Int) (m : Mem) (G : List AV → Mem → Prop) (k : KX) : (wpA Try.prog E3 Lam3 ((loopsOf (bodyOf Try.f3)).getD 1 .skip) (only [1, 5, 6, 7, 10] [v_1, v_5, (.ptr b_6 o_6), (.ptr b_7 o_7), (.flat (.int .i64 x_10))]) m fun e σ' m' => match e with
    | .normal => G ([1, 5, 6, 7, 10].map σ') m'
    | .exit id => k (.exit id) (only (lx3_12 (.exit id)) ((lx3_12 (.exit id)).map σ')) m'
    | .ret => k .ret (only (lx3_12 .ret) ((lx3_12 .ret).map σ')) m') = R3_12 v_1 v_5 b_6 o_6 b_7 o_7 x_10 m (fun x_10' m' => G [v_1, v_5, (.ptr b_6 o_6), (.ptr b_7 o_7), (.flat (.int .i64 x_10'))] m') (fun m' => k (.exit 2) (only [5, 6, 7] [v_5, (.ptr b_6 o_6), (.ptr b_7 o_7)]) m') (fun x_4' m' => k .ret (only [4] [(.flat (.bool x_4'))]) m') := by
  kernel_rfl

theorem loop3_12 (v_1 : AV) (v_5 : AV) (b_6 o_6 : Nat) (b_7 o_7 : Nat) (k : KX) : ∀ (N : Nat) (x_10 : Int) (m : Mem), rounds Try.prog E3 Lam3 [1, 5, 6, 7, 10] lx3_12 ((loopsOf (bodyOf Try.f3)).getD 1 .skip) N [v_1, v_5, (.ptr b_6 o_6), (.ptr b_7 o_7), (.flat (.int .i64 x_10))] m k = L3_12 v_1 v_5 b_6 o_6 b_7 o_7 N x_10 m (fun m' => k (.exit 2) (only [5, 6, 7] [v_5, (.ptr b_6 o_6), (.ptr b_7 o_7)]) m') (fun x_4' m' => k .ret (only [4] [(.flat (.bool x_4'))]) m') := by
  intro N
  induction N with
  | zero => intros; rfl
  | succ N ih =>
    intro x_10 m
    refine (round3_12 v_1 v_5 b_6 o_6 b_7 o_7 x_10 m (fun vs m' => rounds Try.prog E3 Lam3 [1, 5, 6, 7, 10] lx3_12 ((loopsOf (bodyOf Try.f3)).getD 1 .skip) N vs m' k) k).trans ?_
    simp only [ih]
    rfl

theorem lok3_12 : LoopOK Try.prog E3 Lam3 ((loopsOf (bodyOf Try.f3)).getD 1 .skip) := by
  refine ⟨fun σ => ∃ v_1 v_5 b_6 o_6 b_7 o_7 x_10, σ 1 = v_1 ∧ σ 5 = v_5 ∧ σ 6 = .ptr b_6 o_6 ∧ σ 7 = .ptr b_7 o_7 ∧ σ 10 = .flat (.int .i64 x_10), [1, 5, 6, 7, 10], lx3_12, fun σ m k => ?_⟩
  have e : Lam3.loop ((loopsOf (bodyOf Try.f3)).getD 1 .skip) σ m k = Lam3_12 σ m k := by kernel_rfl
  rw [e]
  constructor
  · intro h
    unfold Lam3_12 at h
    obtain ⟨v_1, h0⟩ : ∃ v, σ 1 = v := ⟨_, rfl⟩
    obtain ⟨v_5, h1⟩ : ∃ v, σ 5 = v := ⟨_, rfl⟩
    obtain ⟨b_6, o_6, h2, h⟩ := kptr_ok h
    obtain ⟨b_7, o_7, h3, h⟩ := kptr_ok h
    obtain ⟨x_10, h4, h⟩ := kI_ok h
    obtain ⟨N, h⟩ := h
    refine ⟨⟨v_1, v_5, b_6, o_6, b_7, o_7, x_10, h0, h1, h2, h3, h4⟩, N, ?_⟩
    have ev : [1, 5, 6, 7, 10].map σ = [v_1, v_5, (.ptr b_6 o_6), (.ptr b_7 o_7), (.flat (.int .i64 x_10))] := by simp only [List.map_cons, List.map_nil, h0, h1, h2, h3, h4]
    rw [ev, loop3_12]
    simp only [h0, h1] at h
    exact h
  · rintro ⟨⟨v_1, v_5, b_6, o_6, b_7, o_7, x_10, h0, h1, h2, h3, h4⟩, N, h⟩
    have ev : [1, 5, 6, 7, 10].map σ = [v_1, v_5, (.ptr b_6 o_6), (.ptr b_7 o_7), (.flat (.int .i64 x_10))] := by simp only [List.map_cons, List.map_nil, h0, h1, h2, h3, h4]
    rw [ev, loop3_12] at h
    unfold Lam3_12
    try simp only [h0, h1, h2, h3, h4, kI, kbool, kS, kptr, kaggN, kite, decide_true, eq_self]
    exact ⟨N, h⟩

def lx3_6 : Ex → List Nat := fun e => match e with
  | .exit 0 => [1, 5, 6, 7]
  | _ => []

theorem round3_6 (v_0 : AV) (v_1 : AV) (v_5 : AV) (b_6 o_6 : Nat) (b_7 o_7 : Nat) (x_8 : Int) (m : Mem) (G : List AV → Mem → Prop) (k : KX) : (wpA Try.prog E3 Lam3 ((loopsOf (bodyOf Try.f3)).getD 0 .skip) (only [0, 1, 5, 6, 7, 8] [v_0, v_1, v_5, (.ptr b_6 o_6), (.ptr b_7 o_7), (.flat (.int .i64 x_8))]) m fun e σ' m' => match e with
    | .normal => G ([0, 1, 5, 6, 7, 8].map σ') m'
    | .exit id => k (.exit id) (only (lx3_6 (.exit id)) ((lx3_6 (.exit id)).map σ')) m'
    | .ret => k .ret (only (lx3_6 .ret) ((lx3_6 .ret).map σ')) m') = R3_6 v_0 v_1 v_5 b_6 o_6 b_7 o_7 x_8 m (fun x_8' m' => G [v_0, v_1, v_5, (.ptr b_6 o_6), (.ptr b_7 o_7), (.flat (.int .i64 x_8'))] m') (fun m' => k (.exit 0) (only [1, 5, 6, 7] [v_1, v_5, (.ptr b_6 o_6), (.ptr b_7 o_7)]) m') := by
  kernel_rfl

theorem loop3_6 (v_0 : AV) (v_1 : AV) (v_5 : AV) (b_6 o_6 : Nat) (b_7 o_7 : Nat) (k : KX) : ∀ (N : Nat) (x_8 : Int) (m : Mem), rounds Try.prog E3 Lam3 [0, 1, 5, 6, 7, 8] lx3_6 ((loopsOf (bodyOf Try.f3)).getD 0 .skip) N [v_0, v_1, v_5, (.ptr b_6 o_6), (.ptr b_7 o_7), (.flat (.int .i64 x_8))] m k = L3_6 v_0 v_1 v_5 b_6 o_6 b_7 o_7 N x_8 m (fun m' => k (.exit 0) (only [1, 5, 6, 7] [v_1, v_5, (.ptr b_6 o_6), (.ptr b_7 o_7)]) m') := by
  intro N
  induction N with
  | zero => intros; rfl
  | succ N ih =>
    intro x_8 m
    refine (round3_6 v_0 v_1 v_5 b_6 o_6 b_7 o_7 x_8 m (fun vs m' => rounds Try.prog E3 Lam3 [0, 1, 5, 6, 7, 8] lx3_6 ((loopsOf (bodyOf Try.f3)).getD 0 .skip) N vs m' k) k).trans ?_
    simp only [ih]
    rfl

theorem lok3_6 : LoopOK Try.prog E3 Lam3 ((loopsOf (bodyOf Try.f3)).getD 0 .skip) := by
  refine ⟨fun σ => ∃ v_0 v_1 v_5 b_6 o_6 b_7 o_7 x_8, σ 0 = v_0 ∧ σ 1 = v_1 ∧ σ 5 = v_5 ∧ σ 6 = .ptr b_6 o_6 ∧ σ 7 = .ptr b_7 o_7 ∧ σ 8 = .flat (.int .i64 x_8), [0, 1, 5, 6, 7, 8], lx3_6, fun σ m k => ?_⟩
  have e : Lam3.loop ((loopsOf (bodyOf Try.f3)).getD 0 .skip) σ m k = Lam3_6 σ m k := by kernel_rfl
  rw [e]
  constructor
  · intro h
    unfold Lam3_6 at h
    obtain ⟨v_0, h0⟩ : ∃ v, σ 0 = v := ⟨_, rfl⟩
    obtain ⟨v_1, h1⟩ : ∃ v, σ 1 = v := ⟨_, rfl⟩
    obtain ⟨v_5, h2⟩ : ∃ v, σ 5 = v := ⟨_, rfl⟩
    obtain ⟨b_6, o_6, h3, h⟩ := kptr_ok h
    obtain ⟨b_7, o_7, h4, h⟩ := kptr_ok h
    obtain ⟨x_8, h5, h⟩ := kI_ok h
    obtain ⟨N, h⟩ := h
    refine ⟨⟨v_0, v_1, v_5, b_6, o_6, b_7, o_7, x_8, h0, h1, h2, h3, h4, h5⟩, N, ?_⟩
    have ev : [0, 1, 5, 6, 7, 8].map σ = [v_0, v_1, v_5, (.ptr b_6 o_6), (.ptr b_7 o_7), (.flat (.int .i64 x_8))] := by simp only [List.map_cons, List.map_nil, h0, h1, h2, h3, h4, h5]
    rw [ev, loop3_6]
    simp only [h0, h1, h2] at h
    exact h
  · rintro ⟨⟨v_0, v_1, v_5, b_6, o_6, b_7, o_7, x_8, h0, h1, h2, h3, h4, h5⟩, N, h⟩
    have ev : [0, 1, 5, 6, 7, 8].map σ = [v_0, v_1, v_5, (.ptr b_6 o_6), (.ptr b_7 o_7), (.flat (.int .i64 x_8))] := by simp only [List.map_cons, List.map_nil, h0, h1, h2, h3, h4, h5]
    rw [ev, loop3_6] at h
    unfold Lam3_6
    try simp only [h0, h1, h2, h3, h4, h5, kI, kbool, kS, kptr, kaggN, kite, decide_true, eq_self]
    exact ⟨N, h⟩

theorem eqn3 (v_0 : AV) (v_1 : AV) (m : Mem) (k : KV) : bodyK Try.prog E3 Lam3 Try.f3 false [v_0, v_1] m k = F3 v_0 v_1 m (fun x_1000 m' => k (.flat (.bool x_1000)) m') := by
  kernel_rfl

theorem fs3 (w0 : World) : FS Try.prog w0 3 G3 := by
  refine (fs_body (Γ := E3) (sound_env (l := [(7, G7), (8, G8), (9, G9), (10, G10), (11, G11), (12, G12), (13, G13), (14, G14)]) w0 (by
    intro p hp
    simp only [List.mem_cons, List.not_mem_nil, or_false] at hp
    rcases hp with rfl | rfl | rfl | rfl | rfl | rfl | rfl | rfl
    · exact fs7 w0
    · exact fs8 w0
    · exact fs9 w0
    · exact fs10 w0
    · exact fs11 w0
    · exact fs12 w0
    · exact fs13 w0
    · exact fs14 w0)) (by kernel_rfl) Try.func3 (Λ := Lam3) (c := (bodyOf Try.f3)) (by kernel_rfl) Try.call3 (by kernel_rfl) (LS_of (bodyOf Try.f3) 3 (by kernel_rfl) (by
    intro i hi
    match i, hi with
    | 0, _ => exact lok3_6
    | 1, _ => exact lok3_12
    | 2, _ => exact lok3_20
    | i + 3, hi => omega) 1 (by kernel_rfl) (by
    intro i hi
    match i, hi with
    | 0, _ => exact pok3_24102
    | i + 1, hi => omega)) false (np := 2) (Nat.le_of_ble_eq_true (by kernel_rfl))).imp fun args => ?_
  by_cases hl : args.length = 2
  rotate_left
  · exact .inr fun m k hk => by
      unfold G3 at hk
      split at hk
      · exact hl rfl
      · exact hk
  obtain ⟨a0, a1, rfl⟩ : ∃ a0 a1, args = [a0, a1] := len_list2 hl

  exact .inl fun m k => propext ⟨fun h => ⟨rfl, by rw [eqn3]; simpa only [G3, kI, kbool, kS, kptr, kaggN, kite, decide_true, eq_self] using h⟩, fun h => by have h := h.2; rw [eqn3] at h; simpa only [G3, kI, kbool, kS, kptr, kaggN, kite, decide_true, eq_self] using h⟩

/-- slices.Clone[[]byte,byte] -/
def F24 (v_0 : AV) (m : Mem) (k : AV → Mem → Prop) : Prop :=
  knilS v_0 fun x1 => kif x1 (k (.flat (.slice none 0 0)) m) (newK m ⟨0, lget [], 5, false⟩ fun b3 m2 => appS 1 1 5 (.sl b3 0 0 (.ex 0)) v_0 m2 fun v4 m5 => k v4 m5)

def G24 (args : List AV) (m : Mem) (k : KV) : Prop := match args with
  | [a0] => F24 a0 m (fun v_1000 m' => k v_1000 m')
  | _ => False

def E24 : Env := envOf []

def Lam24 : LEnv := ⟨fun a σ m k => match firstReg a with
  | _ => bump False,
  fun id => match id with
  | _ => bump false,
  fun b => match keyC b with
  | _ => bump false,
  fun b σ m k => match keyC b with
  | _ => bump False⟩

theorem eqn24 (v_0 : AV) (m : Mem) (k : KV) : bodyK Try.prog E24 Lam24 Try.f24 false [v_0] m k = F24 v_0 m (fun v_1000 m' => k v_1000 m') := by
  kernel_rfl

theorem fs24 (w0 : World) : FS Try.prog w0 24 G24 := by
  refine (fs_body (Γ := E24) (sound_env (l := []) w0 (by
    intro p hp
    cases hp)) (by kernel_rfl) Try.func24 (Λ := Lam24) (c := (bodyOf Try.f24)) (by kernel_rfl) Try.call24 (by kernel_rfl) (LS_of (bodyOf Try.f24) 0 (by kernel_rfl) (fun i hi => absurd hi (Nat.not_lt_zero i)) 0 (by kernel_rfl) (fun i hi => absurd hi (Nat.not_lt_zero i))) false (np := 1) (Nat.le_of_ble_eq_true (by kernel_rfl))).imp fun args => ?_
  by_cases hl : args.length = 1
  rotate_left
  · exact .inr fun m k hk => by
      unfold G24 at hk
      split at hk
      · exact hl rfl
      · exact hk
  obtain ⟨a0, rfl⟩ : ∃ a0, args = [a0] := len_list1 hl

  exact .inl fun m k => propext ⟨fun h => ⟨rfl, by rw [eqn24]; simpa only [G24, kI, kbool, kS, kptr, kaggN, kite, decide_true, eq_self] using h⟩, fun h => by have h := h.2; rw [eqn24] at h; simpa only [G24, kI, kbool, kS, kptr, kaggN, kite, decide_true, eq_self] using h⟩

/-- (*pianola/ram.Ram).Bytes -/
def F15 (b_0 o_0 : Nat) (x_1 : Int) (x_2 : Int) (m : Mem) (k : AV → Bool → Mem → Prop) : Prop :=
  F23 b_0 o_0 x_1 x_2 m fun x1 m2 => kif (!x1) (k (.flat (.slice none 0 0)) false m2) (ldA m2 b_0 (o_0 + 0) fun v3 => slS 1 v3 (some x_1) (some (IntKind.wrap .i64 ((IntKind.wrap .i64 x_1) + x_2))) fun v4 => F24 v4 m2 fun v5 m6 => k v5 true m6)

def G15 (args : List AV) (m : Mem) (k : KV) : Prop := match args with
  | [a0, a1, a2] => kptr a0 fun b_0 o_0 => kI .u32 a1 fun x_1 => kI .i64 a2 fun x_2 => F15 b_0 o_0 x_1 x_2 m (fun v_1000 x_1001 m' => k (.tup [v_1000, (.flat (.bool x_1001))]) m')
  | _ => False

def E15 : Env := envOf [(23, G23), (24, G24)]

def Lam15 : LEnv := ⟨fun a σ m k => match firstReg a with
  | _ => bump False,
  fun id => match id with
  | _ => bump false,
  fun b => match keyC b with
  | _ => bump false,
  fun b σ m k => match keyC b with
  | _ => bump False⟩

theorem eqn15 (b_0 o_0 : Nat) (x_1 : Int) (x_2 : Int) (m : Mem) (k : KV) : bodyK Try.prog E15 Lam15 Try.f15 false [(.ptr b_0 o_0), (.flat (.int .u32 x_1)), (.flat (.int .i64 x_2))] m k = F15 b_0 o_0 x_1 x_2 m (fun v_1000 x_1001 m' => k (.tup [v_1000, (.flat (.bool x_1001))]) m') := by
  kernel_rfl

theorem fs15 (w0 : World) : FS Try.prog w0 15 G15 := by
  refine (fs_body (Γ := E15) (sound_env (l := [(23, G23), (24, G24)]) w0 (by
    intro p hp
    simp only [List.mem_cons, List.not_mem_nil, or_false] at hp
    rcases hp with rfl | rfl
    · exact fs23 w0
    · exact fs24 w0)) (by kernel_rfl) Try.func15 (Λ := Lam15) (c := (bodyOf Try.f15)) (by kernel_rfl) Try.call15 (by kernel_rfl) (LS_of (bodyOf Try.f15) 0 (by kernel_rfl) (fun i hi => absurd hi (Nat.not_lt_zero i)) 0 (by kernel_rfl) (fun i hi => absurd hi (Nat.not_lt_zero i))) false (np := 3) (Nat.le_of_ble_eq_true (by kernel_rfl))).imp fun args => ?_
  by_cases hl : args.length = 3
  rotate_left
  · exact .inr fun m k hk => by
      unfold G15 at hk
      split at hk
      · exact hl rfl
      · exact hk
  obtain ⟨a0, a1, a2, rfl⟩ : ∃ a0 a1 a2, args = [a0, a1, a2] := len_list3 hl
  rcases kptr_or a0 with ⟨b_0, o_0, rfl⟩ | h
  rotate_left
  · exact .inr fun m k hk => h _ (by simpa only [G15, kI, kbool, kS, kptr, kaggN, kite, decide_true, eq_self] using hk)
  rcases kI_or .u32 a1 with ⟨x_1, rfl⟩ | h
  rotate_left
  · exact .inr fun m k hk => h _ (by simpa only [G15, kI, kbool, kS, kptr, kaggN, kite, decide_true, eq_self] using hk)
  rcases kI_or .i64 a2 with ⟨x_2, rfl⟩ | h
  rotate_left
  · exact .inr fun m k hk => h _ (by simpa only [G15, kI, kbool, kS, kptr, kaggN, kite, decide_true, eq_self] using hk)
  exact .inl fun m k => propext ⟨fun h => ⟨rfl, by rw [eqn15]; simpa only [G15, kI, kbool, kS, kptr, kaggN, kite, decide_true, eq_self] using h⟩, fun h => by have h := h.2; rw [eqn15] at h; simpa only [G15, kI, kbool, kS, kptr, kaggN, kite, decide_true, eq_self] using h⟩

def P4_22103 (v_2 : AV) (v_7 : AV) (x_8 : Int) (m : Mem) (kr : Bool → Mem → Prop) : Prop :=
  kptr v_7 fun b54 o55 => F17 b54 o55 (x_8.tmod 900) v_2 m fun x56 m57 => kif (!x56) (kr false m57) (klen v_2 fun x58 => kptr v_7 fun b59 o60 => F15 b59 o60 (x_8.tmod 900) x58 m57 fun v61 x62 m63 => kif x62 (kstr v61 m63 fun z64 => kstr v_2 m63 fun z65 => kif (z64.toList == z65.toList) (F14  m63 fun x66 m67 => kr x66 m67) (kr false m63)) (kr false m63))

def R4_13 (x_1 : Int) (v_2 : AV) (v_7 : AV) (x_8 : Int) (v_9 : AV) (x_15 : Int) (m : Mem) (kn : Int → Mem → Prop) (k0 : Mem → Prop) (kr : Bool → Mem → Prop) : Prop :=
  kif (decide (x_15 < 4)) (ksl v_9 fun b34 o35 l36 p37 => kif (decide (0 ≤ IntKind.wrap .u32 (3 - x_15)) && decide (IntKind.wrap .u32 (3 - x_15) < l36)) (ldI .u8 m b34 (o35 + (IntKind.wrap .u32 (3 - x_15)).toNat * 1) fun x38 => kptr v_7 fun b39 o40 => F10 b39 o40 (IntKind.wrap .u32 (x_8 + x_15)) 1 (IntKind.wrap .u32 x38) m fun x41 m42 => kif (!x41) (kr false m42) (kn (IntKind.wrap .u32 (x_15 + 1)) m42)) False) (k0  m)

def L4_13 (x_1 : Int) (v_2 : AV) (v_7 : AV) (x_8 : Int) (v_9 : AV) : Nat → Int → Mem → (Mem → Prop) → (Bool → Mem → Prop) → Prop
  | 0, _,  _, _, _ => bump False
  | N + 1, x_15,  m, k0, kr => R4_13 x_1 v_2 v_7 x_8 v_9 x_15 m (fun x_15' m' => L4_13 x_1 v_2 v_7 x_8 v_9 N x_15' m' k0 kr) k0 kr

/-- pianola/pianolalaw2.RamBytes -/
def F4 (x_0 : Int) (x_1 : Int) (v_2 : AV) (m : Mem) (k : Bool → Mem → Prop) : Prop :=
  F7 2 m fun v1 m2 => knilP v1 fun x3 => kif x3 (k false m2) (kptr v1 fun b4 o5 => F10 b4 o5 (bits .andNot .u32 (x_0.tmod 2044) 3) 4 x_1 m2 fun x6 m7 => kif (!x6) (k false m7) (kptr v1 fun b8 o9 => F15 b8 o9 (bits .andNot .u32 (x_0.tmod 2044) 3) 4 m7 fun v10 x11 m12 => kptr v1 fun b13 o14 => F16 b13 o14 (bits .andNot .u32 (x_0.tmod 2044) 3) 2 m12 fun x15 x16 m17 => kptr v1 fun b18 o19 => F16 b18 o19 (IntKind.wrap .u32 ((bits .andNot .u32 (x_0.tmod 2044) 3) + 2)) 2 m17 fun x20 x21 m22 => klen v10 fun x23 => kif (x23 != 4) (k false m22) (ksl v10 fun b24 o25 l26 p27 => kif (decide (0 ≤ (0 : Int)) && decide ((0 : Int) < l26)) (ldI .u8 m22 b24 (o25 + 0) fun x28 => kif (x28 != (IntKind.wrap .u8 (x_1.fdiv 16777216))) (k false m22) (ksl v10 fun b29 o30 l31 p32 => kif (decide (0 ≤ (3 : Int)) && decide ((3 : Int) < l31)) (ldI .u8 m22 b29 (o30 + 3) fun x33 => kif (x33 != (IntKind.wrap .u8 x_1)) (k false m22) (kif (x15 != (x_1.fdiv 65536)) (k false m22) (kif (x20 != (bits .and .u32 x_1 65535)) (k false m22) (∃ N46, L4_13 x_1 v_2 v1 (bits .andNot .u32 (x_0.tmod 2044) 3) v10 N46 0 m22 (fun m43 => kptr v1 fun b47 o48 => F16 b47 o48 (bits .andNot .u32 (x_0.tmod 2044) 3) 4 m43 fun x49 x50 m51 => kif (!x50) (k false m51) (kif (x49 != (bits .or .u32 (bits .or .u32 (bits .or .u32 (x_1.fdiv 16777216) (bits .and .u32 (x_1.fdiv 256) 65280)) (bits .and .u32 (IntKind.wrap .u32 (x_1 * 256)) 16711680)) (IntKind.wrap .u32 (x_1 * 16777216)))) (k false m51) (klen v_2 fun x52 => kif (decide (x52 > 100)) (slS 1 v_2 none (some 100) fun v53 => P4_22103 v53 v1 (bits .andNot .u32 (x_0.tmod 2044) 3) m51 (fun x68 m69 => k x68 m69)) (P4_22103 v_2 v1 (bits .andNot .u32 (x_0.tmod 2044) 3) m51 (fun x70 m71 => k x70 m71))))) (fun x44 m45 => k x44 m45))))) False)) False)))

def G4 (args : List AV) (m : Mem) (k : KV) : Prop := match args with
  | [a0, a1, a2] => kI .u32 a0 fun x_0 => kI .u32 a1 fun x_1 => F4 x_0 x_1 a2 m (fun x_1000 m' => k (.flat (.bool x_1000)) m')
  | _ => False

def E4 : Env := envOf [(7, G7), (10, G10), (14, G14), (15, G15), (16, G16), (17, G17)]

def Lam4_13 (σ : Nat → AV) (m : Mem) (k : KX) : Prop := kI .u32 (σ 1) fun x_1 => kI .u32 (σ 8) fun x_8 => kI .u32 (σ 15) fun x_15 => ∃ N, L4_13 x_1 (σ 2) (σ 7) x_8 (σ 9) N x_15 m (fun m' => k (.exit 0) (only [1, 2, 7, 8] [(.flat (.int .u32 x_1)), (σ 2), (σ 7), (.flat (.int .u32 x_8))]) m') (fun x_6' m' => k .ret (only [6] [(.flat (.bool x_6'))]) m')

def LamP4_22103 (σ : Nat → AV) (m : Mem) (k : KX) : Prop := kI .u32 (σ 8) fun x_8 => P4_22103 (σ 2) (σ 7) x_8 m (fun x_6' m' => k .ret (only [6] [(.flat (.bool x_6'))]) m')

def Lam4 : LEnv := ⟨fun a σ m k => match firstReg a with
  | some 13 => Lam4_13 σ m k
  | _ => bump False,
  fun id => match id with
  | _ => bump false,
  fun b => match keyC b with
  | some 22103 => true
  | _ => bump false,
  fun b σ m k => match keyC b with
  | some 22103 => LamP4_22103 σ m k
  | _ => bump False⟩

def lxp4_22103 : Ex → List Nat := fun e => match e with
  | .ret => [6]
  | _ => []

theorem pc4_22103 (v_2 : AV) (v_7 : AV) (x_8 : Int) (m : Mem) (k : KX) : once Try.prog E4 Lam4 [2, 7, 8] lxp4_22103 (((secsOf (bodyOf Try.f4)).filter Lam4.cut).getD 0 .skip) [v_2, v_7, (.flat (.int .u32 x_8))] m k = P4_22103 v_2 v_7 x_8 m (fun x_6' m' => k .ret (only [6] [(.flat (.bool x_6'))]) m') := by
  kernel_rfl

theorem pok4_22103 : PieceOK Try.prog E4 Lam4 (((secsOf (bodyOf Try.f4)).filter Lam4.cut).getD 0 .skip) := by
  refine ⟨fun σ => ∃ v_2 v_7 x_8, σ 2 = v_2 ∧ σ 7 = v_7 ∧ σ 8 = .flat (.int .u32 x_8), [2, 7, 8], lxp4_22103, fun σ m k => ?_⟩
  have e : Lam4.piece (((secsOf (bodyOf Try.f4)).filter Lam4.cut).getD 0 .skip) σ m k = LamP4_22103 σ m k := by kernel_rfl
  rw [e]
  constructor
  · intro h
    unfold LamP4_22103 at h
    obtain ⟨v_2, h0⟩ : ∃ v, σ 2 = v := ⟨_, rfl⟩
    obtain ⟨v_7, h1⟩ : ∃ v, σ 7 = v := ⟨_, rfl⟩
    obtain ⟨x_8, h2, h⟩ := kI_ok h
    refine ⟨⟨v_2, v_7, x_8, h0, h1, h2⟩, ?_⟩
    have ev : [2, 7, 8].map σ = [v_2, v_7, (.flat (.int .u32 x_8))] := by simp only [List.map_cons, List.map_nil, h0, h1, h2]
    rw [ev, pc4_22103]
    simp only [h0, h1] at h
    exact h
  · rintro ⟨⟨v_2, v_7, x_8, h0, h1, h2⟩, h⟩
    have ev : [2, 7, 8].map σ = [v_2, v_7, (.flat (.int .u32 x_8))] := by simp only [List.map_cons, List.map_nil, h0, h1, h2]
    rw [ev, pc4_22103] at h
    unfold LamP4_22103
    try simp only [h0, h1, h2, kI, kbool, kS, kptr, kaggN, kite, decide_true, eq_self]
    exact h

def lx4_13 : Ex → List Nat := fun e => match e with
  | .exit 0 => [1, 2, 7, 8]
  | .ret => [6]
  | _ => []

theorem round4_13 (x_1 : Int) (v_2 : AV) (v_7 : AV) (x_8 : Int) (v_9 : AV) (x_15 : Int) (m : Mem) (G : List AV → Mem → Prop) (k : KX) : (wpA Try.prog E4 Lam4 ((loopsOf (bodyOf Try.f4)).getD 0 .skip) (only [1, 2, 7, 8, 9, 15] [(.flat (.int .u32 x_1)), v_2, v_7, (.flat (.int .u32 x_8)), v_9, (.flat (.int .u32 x_15))]) m fun e σ' m' => match e with
    | .normal => G ([1, 2, 7, 8, 9, 15].map σ') m'
    | .exit id => k (.exit id) (only (lx4_13 (.exit id)) ((lx4_13 (.exit id)).map σ')) m'
    | .ret => k .ret (only (lx4_13 .ret) ((lx4_13 .ret).map σ')) m') = R4_13 x_1 v_2 v_7 x_8 v_9 x_15 m (fun x_15' m' => G [(.flat (.int .u32 x_1)), v_2, v_7, (.flat (.int .u32 x_8)), v_9, (.flat (.int .u32 x_15'))] m') (fun m' => k (.exit 0) (only [1, 2, 7, 8] [(.flat (.int .u32 x_1)), v_2, v_7, (.flat (.int .u32 x_8))]) m') (fun x_6' m' => k .ret (only [6] [(.flat (.bool x_6'))]) m') := by
  kernel_rfl

theorem loop4_13 (x_1 : Int) (v_2 : AV) (v_7 : AV) (x_8 : Int) (v_9 : AV) (k : KX) : ∀ (N : Nat) (x_15 : Int) (m : Mem), rounds Try.prog E4 Lam4 [1, 2, 7, 8, 9, 15] lx4_13 ((loopsOf (bodyOf Try.f4)).getD 0 .skip) N [(.flat (.int .u32 x_1)), v_2, v_7, (.flat (.int .u32 x_8)), v_9, (.flat (.int .u32 x_15))] m k = L4_13 x_1 v_2 v_7 x_8 v_9 N x_15 m (fun m' => k (.exit 0) (only [1, 2, 7, 8] [(.flat (.int .u32 x_1)), v_2, v_7, (.flat (.int .u32 x_8))]) m') (fun x_6' m' => k .ret (only [6] [(.flat (.bool x_6'))]) m') := by
  intro N
  induction N with
  | zero => intros; rfl
  | succ N ih =>
    intro x_15 m
    refine (round4_13 x_1 v_2 v_7 x_8 v_9 x_15 m (fun vs m' => rounds Try.prog E4 Lam4 [1, 2, 7, 8, 9, 15] lx4_13 ((loopsOf (bodyOf Try.f4)).getD 0 .skip) N vs m' k) k).trans ?_
    simp only [ih]
    rfl

theorem lok4_13 : LoopOK Try.prog E4 Lam4 ((loopsOf (bodyOf Try.f4)).getD 0 .skip) := by
  refine ⟨fun σ => ∃ x_1 v_2 v_7 x_8 v_9 x_15, σ 1 = .flat (.int .u32 x_1) ∧ σ 2 = v_2 ∧ σ 7 = v_7 ∧ σ 8 = .flat (.int .u32 x_8) ∧ σ 9 = v_9 ∧ σ 15 = .flat (.int .u32 x_15), [1, 2, 7, 8, 9, 15], lx4_13, fun σ m k => ?_⟩
  have e : Lam4.loop ((loopsOf (bodyOf Try.f4)).getD 0 .skip) σ m k = Lam4_13 σ m k := by kernel_rfl
  rw [e]
  constructor
  · intro h
    unfold Lam4_13 at h
    obtain ⟨x_1, h0, h⟩ := kI_ok h
    obtain ⟨v_2, h1⟩ : ∃ v, σ 2 = v := ⟨_, rfl⟩
    obtain ⟨v_7, h2⟩ : ∃ v, σ 7 = v := ⟨_, rfl⟩
    obtain ⟨x_8, h3, h⟩ := kI_ok h
    obtain ⟨v_9, h4⟩ : ∃ v, σ 9 = v := ⟨_, rfl⟩
    obtain ⟨x_15, h5, h⟩ := kI_ok h
    obtain ⟨N, h⟩ := h
    refine ⟨⟨x_1, v_2, v_7, x_8, v_9, x_15, h0, h1, h2, h3, h4, h5⟩, N, ?_⟩
    have ev : [1, 2, 7, 8, 9, 15].map σ = [(.flat (.int .u32 x_1)), v_2, v_7, (.flat (.int .u32 x_8)), v_9, (.flat (.int .u32 x_15))] := by simp only [List.map_cons, List.map_nil, h0, h1, h2, h3, h4, h5]
    rw [ev, loop4_13]
    simp only [h1, h2, h4] at h
    exact h
  · rintro ⟨⟨x_1, v_2, v_7, x_8, v_9, x_15, h0, h1, h2, h3, h4, h5⟩, N, h⟩
    have ev : [1, 2, 7, 8, 9, 15].map σ = [(.flat (.int .u32 x_1)), v_2, v_7, (.flat (.int .u32 x_8)), v_9, (.flat (.int .u32 x_15))] := by simp only [List.map_cons, List.map_nil, h0, h1, h2, h3, h4, h5]
    rw [ev, loop4_13] at h
    unfold Lam4_13
    try simp only [h0, h1, h2, h3, h4, h5, kI, kbool, kS, kptr, kaggN, kite, decide_true, eq_self]
    exact ⟨N, h⟩

theorem eqn4 (x_0 : Int) (x_1 : Int) (v_2 : AV) (m : Mem) (k : KV) : bodyK Try.prog E4 Lam4 Try.f4 false [(.flat (.int .u32 x_0)), (.flat (.int .u32 x_1)), v_2] m k = F4 x_0 x_1 v_2 m (fun x_1000 m' => k (.flat (.bool x_1000)) m') := by
  kernel_rfl

theorem fs4 (w0 : World) : FS Try.prog w0 4 G4 := by
  refine (fs_body (Γ := E4) (sound_env (l := [(7, G7), (10, G10), (14, G14), (15, G15), (16, G16), (17, G17)]) w0 (by
    intro p hp
    simp only [List.mem_cons, List.not_mem_nil, or_false] at hp
    rcases hp with rfl | rfl | rfl | rfl | rfl | rfl
    · exact fs7 w0
    · exact fs10 w0
    · exact fs14 w0
    · exact fs15 w0
    · exact fs16 w0
    · exact fs17 w0)) (by kernel_rfl) Try.func4 (Λ := Lam4) (c := (bodyOf Try.f4)) (by kernel_rfl) Try.call4 (by kernel_rfl) (LS_of (bodyOf Try.f4) 1 (by kernel_rfl) (by
    intro i hi
    match i, hi with
    | 0, _ => exact lok4_13
    | i + 1, hi => omega) 1 (by kernel_rfl) (by
    intro i hi
    match i, hi with
    | 0, _ => exact pok4_22103
    | i + 1, hi => omega)) false (np := 3) (Nat.le_of_ble_eq_true (by kernel_rfl))).imp fun args => ?_
  by_cases hl : args.length = 3
  rotate_left
  · exact .inr fun m k hk => by
      unfold G4 at hk
      split at hk
      · exact hl rfl
      · exact hk
  obtain ⟨a0, a1, a2, rfl⟩ : ∃ a0 a1 a2, args = [a0, a1, a2] := len_list3 hl
  rcases kI_or .u32 a0 with ⟨x_0, rfl⟩ | h
  rotate_left
  · exact .inr fun m k hk => h _ (by simpa only [G4, kI, kbool, kS, kptr, kaggN, kite, decide_true, eq_self] using hk)
  rcases kI_or .u32 a1 with ⟨x_1, rfl⟩ | h
  rotate_left
  · exact .inr fun m k hk => h _ (by simpa only [G4, kI, kbool, kS, kptr, kaggN, kite, decide_true, eq_self] using hk)
  exact .inl fun m k => propext ⟨fun h => ⟨rfl, by rw [eqn4]; simpa only [G4, kI, kbool, kS, kptr, kaggN, kite, decide_true, eq_self] using h⟩, fun h => by have h := h.2; rw [eqn4] at h; simpa only [G4, kI, kbool, kS, kptr, kaggN, kite, decide_true, eq_self] using h⟩

/-- (*pianola/ram.Ram).Size -/
def F19 (b_0 o_0 : Nat) (m : Mem) (k : Int → Mem → Prop) : Prop :=
  ldA m b_0 (o_0 + 0) fun v1 => klen v1 fun x2 => (Keeps m m ∧ k (IntKind.wrap .u32 x2) m)

def G19 (args : List AV) (m : Mem) (k : KV) : Prop := match args with
  | [a0] => kptr a0 fun b_0 o_0 => F19 b_0 o_0 m (fun x_1000 m' => k (.flat (.int .u32 x_1000)) m')
  | _ => False

def E19 : Env := envOf []

def Lam19 : LEnv := ⟨fun a σ m k => match firstReg a with
  | _ => bump False,
  fun id => match id with
  | _ => bump false,
  fun b => match keyC b with
  | _ => bump false,
  fun b σ m k => match keyC b with
  | _ => bump False⟩

theorem eqn19 (b_0 o_0 : Nat) (m : Mem) (k : KV) : bodyK Try.prog E19 Lam19 Try.f19 true [(.ptr b_0 o_0)] m k = F19 b_0 o_0 m (fun x_1000 m' => k (.flat (.int .u32 x_1000)) m') := by
  kernel_rfl

theorem fs19 (w0 : World) : FS Try.prog w0 19 G19 := by
  refine (fs_body (Γ := E19) (sound_env (l := []) w0 (by
    intro p hp
    cases hp)) (by kernel_rfl) Try.func19 (Λ := Lam19) (c := (bodyOf Try.f19)) (by kernel_rfl) Try.call19 (by kernel_rfl) (LS_of (bodyOf Try.f19) 0 (by kernel_rfl) (fun i hi => absurd hi (Nat.not_lt_zero i)) 0 (by kernel_rfl) (fun i hi => absurd hi (Nat.not_lt_zero i))) true (np := 1) (Nat.le_of_ble_eq_true (by kernel_rfl))).imp fun args => ?_
  by_cases hl : args.length = 1
  rotate_left
  · exact .inr fun m k hk => by
      unfold G19 at hk
      split at hk
      · exact hl rfl
      · exact hk
  obtain ⟨a0, rfl⟩ : ∃ a0, args = [a0] := len_list1 hl
  rcases kptr_or a0 with ⟨b_0, o_0, rfl⟩ | h
  rotate_left
  · exact .inr fun m k hk => h _ (by simpa only [G19, kI, kbool, kS, kptr, kaggN, kite, decide_true, eq_self] using hk)
  exact .inl fun m k => propext ⟨fun h => ⟨rfl, by rw [eqn19]; simpa only [G19, kI, kbool, kS, kptr, kaggN, kite, decide_true, eq_self] using h⟩, fun h => by have h := h.2; rw [eqn19] at h; simpa only [G19, kI, kbool, kS, kptr, kaggN, kite, decide_true, eq_self] using h⟩

/-- pianola/pianolaref2.New -/
def F25 (x_0 : Int) (m : Mem) (k : AV → Mem → Prop) : Prop :=
  mkS [(.flat (.int .u8 0))] 1 5 (IntKind.wrap .i64 ((if 1 > (if 64 < x_0 then 64 else x_0) then 1 else (if 64 < x_0 then 64 else x_0)) * 1024)) (IntKind.wrap .i64 ((if 1 > (if 64 < x_0 then 64 else x_0) then 1 else (if 64 < x_0 then 64 else x_0)) * 1024)) m fun b1 m2 => mkS [(.flat (.bool false))] 1 4 (if 1 > (if 64 < x_0 then 64 else x_0) then 1 else (if 64 < x_0 then 64 else x_0)) (if 1 > (if 64 < x_0 then 64 else x_0) then 1 else (if 64 < x_0 then 64 else x_0)) m2 fun b3 m4 => mkS [(.flat (.bool false))] 1 4 (if 1 > (if 64 < x_0 then 64 else x_0) then 1 else (if 64 < x_0 then 64 else x_0)) (if 1 > (if 64 < x_0 then 64 else x_0) then 1 else (if 64 < x_0 then 64 else x_0)) m4 fun b5 m6 => newK m6 ⟨3, (upd (upd (upd (lget [(.flat (.slice none 0 0)), (.flat (.slice none 0 0)), (.flat (.slice none 0 0))]) 0 (.sl b1 0 ((IntKind.wrap .i64 ((if 1 > (if 64 < x_0 then 64 else x_0) then 1 else (if 64 < x_0 then 64 else x_0)) * 1024)).toNat) (.ex ((IntKind.wrap .i64 ((if 1 > (if 64 < x_0 then 64 else x_0) then 1 else (if 64 < x_0 then 64 else x_0)) * 1024)).toNat)))) 1 (.sl b3 0 ((if 1 > (if 64 < x_0 then 64 else x_0) then 1 else (if 64 < x_0 then 64 else x_0)).toNat) (.ex ((if 1 > (if 64 < x_0 then 64 else x_0) then 1 else (if 64 < x_0 then 64 else x_0)).toNat)))) 2 (.sl b5 0 ((if 1 > (if 64 < x_0 then 64 else x_0) then 1 else (if 64 < x_0 then 64 else x_0)).toNat) (.ex ((if 1 > (if 64 < x_0 then 64 else x_0) then 1 else (if 64 < x_0 then 64 else x_0)).toNat)))), 59, false⟩ fun b8 m7 => k (.ptr b8 0) m7

def G25 (args : List AV) (m : Mem) (k : KV) : Prop := match args with
  | [a0] => kI .i64 a0 fun x_0 => F25 x_0 m (fun v_1000 m' => k v_1000 m')
  | _ => False

def E25 : Env := envOf []

def Lam25 : LEnv := ⟨fun a σ m k => match firstReg a with
  | _ => bump False,
  fun id => match id with
  | _ => bump false,
  fun b => match keyC b with
  | _ => bump false,
  fun b σ m k => match keyC b with
  | _ => bump False⟩

theorem eqn25 (x_0 : Int) (m : Mem) (k : KV) : bodyK Try.prog E25 Lam25 Try.f25 false [(.flat (.int .i64 x_0))] m k = F25 x_0 m (fun v_1000 m' => k v_1000 m') := by
  kernel_rfl

theorem fs25 (w0 : World) : FS Try.prog w0 25 G25 := by
  refine (fs_body (Γ := E25) (sound_env (l := []) w0 (by
    intro p hp
    cases hp)) (by kernel_rfl) Try.func25 (Λ := Lam25) (c := (bodyOf Try.f25)) (by kernel_rfl) Try.call25 (by kernel_rfl) (LS_of (bodyOf Try.f25) 0 (by kernel_rfl) (fun i hi => absurd hi (Nat.not_lt_zero i)) 0 (by kernel_rfl) (fun i hi => absurd hi (Nat.not_lt_zero i))) false (np := 1) (Nat.le_of_ble_eq_true (by kernel_rfl))).imp fun args => ?_
  by_cases hl : args.length = 1
  rotate_left
  · exact .inr fun m k hk => by
      unfold G25 at hk
      split at hk
      · exact hl rfl
      · exact hk
  obtain ⟨a0, rfl⟩ : ∃ a0, args = [a0] := len_list1 hl
  rcases kI_or .i64 a0 with ⟨x_0, rfl⟩ | h
  rotate_left
  · exact .inr fun m k hk => h _ (by simpa only [G25, kI, kbool, kS, kptr, kaggN, kite, decide_true, eq_self] using hk)
  exact .inl fun m k => propext ⟨fun h => ⟨rfl, by rw [eqn25]; simpa only [G25, kI, kbool, kS, kptr, kaggN, kite, decide_true, eq_self] using h⟩, fun h => by have h := h.2; rw [eqn25] at h; simpa only [G25, kI, kbool, kS, kptr, kaggN, kite, decide_true, eq_self] using h⟩

def R27_3 (b_0 o_0 : Nat) (v_3 : AV) (x_4 : Int) (m : Mem) (kn : AV → Int → Mem → Prop) (k0 : AV → Mem → Prop) : Prop :=
  ldA m b_0 (o_0 + 2) fun v1 => klen v1 fun x2 => kif (decide (x_4 < x2)) (ldA m b_0 (o_0 + 2) fun v3 => ksl v3 fun b4 o5 l6 p7 => kif (decide (0 ≤ x_4) && decide (x_4 < l6)) (ldB m b4 (o5 + (x_4).toNat * 1) fun x8 => kif x8 (newK m ⟨1, upd (lget [(.flat (.int .i64 0))]) 0 (.flat (.int .i64 x_4)), 3, false⟩ fun b10 m9 => appS 1 8 3 v_3 (.sl b10 0 1 (.ex 1)) m9 fun v11 m12 => ldA m12 b_0 (o_0 + 2) fun v13 => ksl v13 fun b14 o15 l16 p17 => kif (decide (0 ≤ x_4) && decide (x_4 < l16)) (stC m12 b14 (o15 + (x_4).toNat * 1) (.flat (.bool false)) fun m18 => kn v11 (IntKind.wrap .i64 (x_4 + 1)) m18) False) (kn v_3 (IntKind.wrap .i64 (x_4 + 1)) m)) False) (k0 v_3 m)

def L27_3 (b_0 o_0 : Nat) : Nat → AV → Int → Mem → (AV → Mem → Prop) → Prop
  | 0, _, _,  _, _ => bump False
  | N + 1, v_3, x_4,  m, k0 => R27_3 b_0 o_0 v_3 x_4 m (fun v_3' x_4' m' => L27_3 b_0 o_0 N v_3' x_4' m' k0) k0

/-- (*pianola/pianolaref2.Ram).Written -/
def F27 (b_0 o_0 : Nat) (m : Mem) (k : AV → Mem → Prop) : Prop :=
  ∃ N21, L27_3 b_0 o_0 N21 (.flat (.slice none 0 0)) 0 m (fun v19 m20 => k v19 m20)

def G27 (args : List AV) (m : Mem) (k : KV) : Prop := match args with
  | [a0] => kptr a0 fun b_0 o_0 => F27 b_0 o_0 m (fun v_1000 m' => k v_1000 m')
  | _ => False

def E27 : Env := envOf []

def Lam27_3 (σ : Nat → AV) (m : Mem) (k : KX) : Prop := kptr (σ 0) fun b_0 o_0 => kI .i64 (σ 4) fun x_4 => ∃ N, L27_3 b_0 o_0 N (σ 3) x_4 m (fun v_3' m' => k (.exit 0) (only [3] [v_3']) m')

def Lam27 : LEnv := ⟨fun a σ m k => match firstReg a with
  | some 3 => Lam27_3 σ m k
  | _ => bump False,
  fun id => match id with
  | _ => bump false,
  fun b => match keyC b with
  | _ => bump false,
  fun b σ m k => match keyC b with
  | _ => bump False⟩

def lx27_3 : Ex → List Nat := fun e => match e with
  | .exit 0 => [3]
  | _ => []

theorem round27_3 (b_0 o_0 : Nat) (v_3 : AV) (x_4 : Int) (m : Mem) (G : List AV → Mem → Prop) (k : KX) : (wpA Try.prog E27 Lam27 ((loopsOf (bodyOf Try.f27)).getD 0 .skip) (only [0, 3, 4] [(.ptr b_0 o_0), v_3, (.flat (.int .i64 x_4))]) m fun e σ' m' => match e with
    | .normal => G ([0, 3, 4].map σ') m'
    | .exit id => k (.exit id) (only (lx27_3 (.exit id)) ((lx27_3 (.exit id)).map σ')) m'
    | .ret => k .ret (only (lx27_3 .ret) ((lx27_3 .ret).map σ')) m') = R27_3 b_0 o_0 v_3 x_4 m (fun v_3' x_4' m' => G [(.ptr b_0 o_0), v_3', (.flat (.int .i64 x_4'))] m') (fun v_3' m' => k (.exit 0) (only [3] [v_3']) m') := by
  kernel_rfl

theorem loop27_3 (b_0 o_0 : Nat) (k : KX) : ∀ (N : Nat) (v_3 : AV) (x_4 : Int) (m : Mem), rounds Try.prog E27 Lam27 [0, 3, 4] lx27_3 ((loopsOf (bodyOf Try.f27)).getD 0 .skip) N [(.ptr b_0 o_0), v_3, (.flat (.int .i64 x_4))] m k = L27_3 b_0 o_0 N v_3 x_4 m (fun v_3' m' => k (.exit 0) (only [3] [v_3']) m') := by
  intro N
  induction N with
  | zero => intros; rfl
  | succ N ih =>
    intro v_3 x_4 m
    refine (round27_3 b_0 o_0 v_3 x_4 m (fun vs m' => rounds Try.prog E27 Lam27 [0, 3, 4] lx27_3 ((loopsOf (bodyOf Try.f27)).getD 0 .skip) N vs m' k) k).trans ?_
    simp only [ih]
    rfl

theorem lok27_3 : LoopOK Try.prog E27 Lam27 ((loopsOf (bodyOf Try.f27)).getD 0 .skip) := by
  refine ⟨fun σ => ∃ b_0 o_0 v_3 x_4, σ 0 = .ptr b_0 o_0 ∧ σ 3 = v_3 ∧ σ 4 = .flat (.int .i64 x_4), [0, 3, 4], lx27_3, fun σ m k => ?_⟩
  have e : Lam27.loop ((loopsOf (bodyOf Try.f27)).getD 0 .skip) σ m k = Lam27_3 σ m k := by kernel_rfl
  rw [e]
  constructor
  · intro h
    unfold Lam27_3 at h
    obtain ⟨b_0, o_0, h0, h⟩ := kptr_ok h
    obtain ⟨v_3, h1⟩ : ∃ v, σ 3 = v := ⟨_, rfl⟩
    obtain ⟨x_4, h2, h⟩ := kI_ok h
    obtain ⟨N, h⟩ := h
    refine ⟨⟨b_0, o_0, v_3, x_4, h0, h1, h2⟩, N, ?_⟩
    have ev : [0, 3, 4].map σ = [(.ptr b_0 o_0), v_3, (.flat (.int .i64 x_4))] := by simp only [List.map_cons, List.map_nil, h0, h1, h2]
    rw [ev, loop27_3]
    simp only [h1] at h
    exact h
  · rintro ⟨⟨b_0, o_0, v_3, x_4, h0, h1, h2⟩, N, h⟩
    have ev : [0, 3, 4].map σ = [(.ptr b_0 o_0), v_3, (.flat (.int .i64 x_4))] := by simp only [List.map_cons, List.map_nil, h0, h1, h2]
    rw [ev, loop27_3] at h
    unfold Lam27_3
    try simp only [h0, h1, h2, kI, kbool, kS, kptr, kaggN, kite, decide_true, eq_self]
    exact ⟨N, h⟩

theorem eqn27 (b_0 o_0 : Nat) (m : Mem) (k : KV) : bodyK Try.prog E27 Lam27 Try.f27 false [(.ptr b_0 o_0)] m k = F27 b_0 o_0 m (fun v_1000 m' => k v_1000 m') := by
  kernel_rfl

theorem fs27 (w0 : World) : FS Try.prog w0 27 G27 := by
  refine (fs_body (Γ := E27) (sound_env (l := []) w0 (by
    intro p hp
    cases hp)) (by kernel_rfl) Try.func27 (Λ := Lam27) (c := (bodyOf Try.f27)) (by kernel_rfl) Try.call27 (by kernel_rfl) (LS_of (bodyOf Try.f27) 1 (by kernel_rfl) (by
    intro i hi
    match i, hi with
    | 0, _ => exact lok27_3
    | i + 1, hi => omega) 0 (by kernel_rfl) (fun i hi => absurd hi (Nat.not_lt_zero i))) false (np := 1) (Nat.le_of_ble_eq_true (by kernel_rfl))).imp fun args => ?_
  by_cases hl : args.length = 1
  rotate_left
  · exact .inr fun m k hk => by
      unfold G27 at hk
      split at hk
      · exact hl rfl
      · exact hk
  obtain ⟨a0, rfl⟩ : ∃ a0, args = [a0] := len_list1 hl
  rcases kptr_or a0 with ⟨b_0, o_0, rfl⟩ | h
  rotate_left
  · exact .inr fun m k hk => h _ (by simpa only [G27, kI, kbool, kS, kptr, kaggN, kite, decide_true, eq_self] using hk)
  exact .inl fun m k => propext ⟨fun h => ⟨rfl, by rw [eqn27]; simpa only [G27, kI, kbool, kS, kptr, kaggN, kite, decide_true, eq_self] using h⟩, fun h => by have h := h.2; rw [eqn27] at h; simpa only [G27, kI, kbool, kS, kptr, kaggN, kite, decide_true, eq_self] using h⟩

/-- (*pianola/pianolaref2.Ram).In -/
def F34 (b_0 o_0 : Nat) (x_1 : Int) (x_2 : Int) (m : Mem) (k : Bool → Mem → Prop) : Prop :=
  kif (decide (x_2 ≥ 0)) (ldA m b_0 (o_0 + 0) fun v1 => klen v1 fun x2 => (Keeps m m ∧ k (decide ((IntKind.wrap .u64 ((IntKind.wrap .u64 x_1) + (IntKind.wrap .u64 x_2))) ≤ (IntKind.wrap .u64 x2))) m)) ((Keeps m m ∧ k false m))

def G34 (args : List AV) (m : Mem) (k : KV) : Prop := match args with
  | [a0, a1, a2] => kptr a0 fun b_0 o_0 => kI .u32 a1 fun x_1 => kI .i64 a2 fun x_2 => F34 b_0 o_0 x_1 x_2 m (fun x_1000 m' => k (.flat (.bool x_1000)) m')
  | _ => False

def E34 : Env := envOf []

def Lam34 : LEnv := ⟨fun a σ m k => match firstReg a with
  | _ => bump False,
  fun id => match id with
  | _ => bump false,
  fun b => match keyC b with
  | _ => bump false,
  fun b σ m k => match keyC b with
  | _ => bump False⟩

theorem eqn34 (b_0 o_0 : Nat) (x_1 : Int) (x_2 : Int) (m : Mem) (k : KV) : bodyK Try.prog E34 Lam34 Try.f34 true [(.ptr b_0 o_0), (.flat (.int .u32 x_1)), (.flat (.int .i64 x_2))] m k = F34 b_0 o_0 x_1 x_2 m (fun x_1000 m' => k (.flat (.bool x_1000)) m') := by
  kernel_rfl

theorem fs34 (w0 : World) : FS Try.prog w0 34 G34 := by
  refine (fs_body (Γ := E34) (sound_env (l := []) w0 (by
    intro p hp
    cases hp)) (by kernel_rfl) Try.func34 (Λ := Lam34) (c := (bodyOf Try.f34)) (by kernel_rfl) Try.call34 (by kernel_rfl) (LS_of (bodyOf Try.f34) 0 (by kernel_rfl) (fun i hi => absurd hi (Nat.not_lt_zero i)) 0 (by kernel_rfl) (fun i hi => absurd hi (Nat.not_lt_zero i))) true (np := 3) (Nat.le_of_ble_eq_true (by kernel_rfl))).imp fun args => ?_
  by_cases hl : args.length = 3
  rotate_left
  · exact .inr fun m k hk => by
      unfold G34 at hk
      split at hk
      · exact hl rfl
      · exact hk
  obtain ⟨a0, a1, a2, rfl⟩ : ∃ a0 a1 a2, args = [a0, a1, a2] := len_list3 hl
  rcases kptr_or a0 with ⟨b_0, o_0, rfl⟩ | h
  rotate_left
  · exact .inr fun m k hk => h _ (by simpa only [G34, kI, kbool, kS, kptr, kaggN, kite, decide_true, eq_self] using hk)
  rcases kI_or .u32 a1 with ⟨x_1, rfl⟩ | h
  rotate_left
  · exact .inr fun m k hk => h _ (by simpa only [G34, kI, kbool, kS, kptr, kaggN, kite, decide_true, eq_self] using hk)
  rcases kI_or .i64 a2 with ⟨x_2, rfl⟩ | h
  rotate_left
  · exact .inr fun m k hk => h _ (by simpa only [G34, kI, kbool, kS, kptr, kaggN, kite, decide_true, eq_self] using hk)
  exact .inl fun m k => propext ⟨fun h => ⟨rfl, by rw [eqn34]; simpa only [G34, kI, kbool, kS, kptr, kaggN, kite, decide_true, eq_self] using h⟩, fun h => by have h := h.2; rw [eqn34] at h; simpa only [G34, kI, kbool, kS, kptr, kaggN, kite, decide_true, eq_self] using h⟩

def R35_1 (b_0 o_0 : Nat) (x_1 : Int) (x_2 : Int) (x_6 : Int) (m : Mem) (kn : Int → Mem → Prop) (k0 : Mem → Prop) : Prop :=
  kif (decide (x_6 < x_2)) (ldA m b_0 (o_0 + 1) fun v1 => ksl v1 fun b2 o3 l4 p5 => kif (decide (0 ≤ IntKind.wrap .i64 ((IntKind.wrap .i64 ((IntKind.wrap .i64 x_1) + x_6)).tdiv 1024)) && decide (IntKind.wrap .i64 ((IntKind.wrap .i64 ((IntKind.wrap .i64 x_1) + x_6)).tdiv 1024) < l4)) (ldB m b2 (o3 + (IntKind.wrap .i64 ((IntKind.wrap .i64 ((IntKind.wrap .i64 x_1) + x_6)).tdiv 1024)).toNat * 1) fun x6 => kif x6 (ldA m b_0 (o_0 + 2) fun v7 => ksl v7 fun b8 o9 l10 p11 => kif (decide (0 ≤ IntKind.wrap .i64 ((IntKind.wrap .i64 ((IntKind.wrap .i64 x_1) + x_6)).tdiv 1024)) && decide (IntKind.wrap .i64 ((IntKind.wrap .i64 ((IntKind.wrap .i64 x_1) + x_6)).tdiv 1024) < l10)) (stC m b8 (o9 + (IntKind.wrap .i64 ((IntKind.wrap .i64 ((IntKind.wrap .i64 x_1) + x_6)).tdiv 1024)).toNat * 1) (.flat (.bool true)) fun m12 => kn (IntKind.wrap .i64 (x_6 + 1)) m12) False) (kn (IntKind.wrap .i64 (x_6 + 1)) m)) False) (k0  m)

def L35_1 (b_0 o_0 : Nat) (x_1 : Int) (x_2 : Int) : Nat → Int → Mem → (Mem → Prop) → Prop
  | 0, _,  _, _ => bump False
  | N + 1, x_6,  m, k0 => R35_1 b_0 o_0 x_1 x_2 x_6 m (fun x_6' m' => L35_1 b_0 o_0 x_1 x_2 N x_6' m' k0) k0

/-- (*pianola/pianolaref2.Ram).touch -/
def F35 (b_0 o_0 : Nat) (x_1 : Int) (x_2 : Int) (m : Mem) (k : Mem → Prop) : Prop :=
  ∃ N14, L35_1 b_0 o_0 x_1 x_2 N14 0 m (fun m13 => k  m13)

def G35 (args : List AV) (m : Mem) (k : KV) : Prop := match args with
  | [a0, a1, a2] => kptr a0 fun b_0 o_0 => kI .u32 a1 fun x_1 => kI .i64 a2 fun x_2 => F35 b_0 o_0 x_1 x_2 m (fun m' => k (.tup []) m')
  | _ => False

def E35 : Env := envOf []

def Lam35_1 (σ : Nat → AV) (m : Mem) (k : KX) : Prop := kptr (σ 0) fun b_0 o_0 => kI .u32 (σ 1) fun x_1 => kI .i64 (σ 2) fun x_2 => kI .i64 (σ 6) fun x_6 => ∃ N, L35_1 b_0 o_0 x_1 x_2 N x_6 m (fun m' => k (.exit 0) (only [] []) m')

def Lam35 : LEnv := ⟨fun a σ m k => match firstReg a with
  | some 1 => Lam35_1 σ m k
  | _ => bump False,
  fun id => match id with
  | _ => bump false,
  fun b => match keyC b with
  | _ => bump false,
  fun b σ m k => match keyC b with
  | _ => bump False⟩

def lx35_1 : Ex → List Nat := fun e => match e with
  | .exit 0 => []
  | _ => []

theorem round35_1 (b_0 o_0 : Nat) (x_1 : Int) (x_2 : Int) (x_6 : Int) (m : Mem) (G : List AV → Mem → Prop) (k : KX) : (wpA Try.prog E35 Lam35 ((loopsOf (bodyOf Try.f35)).getD 0 .skip) (only [0, 1, 2, 6] [(.ptr b_0 o_0), (.flat (.int .u32 x_1)), (.flat (.int .i64 x_2)), (.flat (.int .i64 x_6))]) m fun e σ' m' => match e with
    | .normal => G ([0, 1, 2, 6].map σ') m'
    | .exit id => k (.exit id) (only (lx35_1 (.exit id)) ((lx35_1 (.exit id)).map σ')) m'
    | .ret => k .ret (only (lx35_1 .ret) ((lx35_1 .ret).map σ')) m') = R35_1 b_0 o_0 x_1 x_2 x_6 m (fun x_6' m' => G [(.ptr b_0 o_0), (.flat (.int .u32 x_1)), (.flat (.int .i64 x_2)), (.flat (.int .i64 x_6'))] m') (fun m' => k (.exit 0) (only [] []) m') := by
  kernel_rfl

theorem loop35_1 (b_0 o_0 : Nat) (x_1 : Int) (x_2 : Int) (k : KX) : ∀ (N : Nat) (x_6 : Int) (m : Mem), rounds Try.prog E35 Lam35 [0, 1, 2, 6] lx35_1 ((loopsOf (bodyOf Try.f35)).getD 0 .skip) N [(.ptr b_0 o_0), (.flat (.int .u32 x_1)), (.flat (.int .i64 x_2)), (.flat (.int .i64 x_6))] m k = L35_1 b_0 o_0 x_1 x_2 N x_6 m (fun m' => k (.exit 0) (only [] []) m') := by
  intro N
  induction N with
  | zero => intros; rfl
  | succ N ih =>
    intro x_6 m
    refine (round35_1 b_0 o_0 x_1 x_2 x_6 m (fun vs m' => rounds Try.prog E35 Lam35 [0, 1, 2, 6] lx35_1 ((loopsOf (bodyOf Try.f35)).getD 0 .skip) N vs m' k) k).trans ?_
    simp only [ih]
    rfl

theorem lok35_1 : LoopOK Try.prog E35 Lam35 ((loopsOf (bodyOf Try.f35)).getD 0 .skip) := by
  refine ⟨fun σ => ∃ b_0 o_0 x_1 x_2 x_6, σ 0 = .ptr b_0 o_0 ∧ σ 1 = .flat (.int .u32 x_1) ∧ σ 2 = .flat (.int .i64 x_2) ∧ σ 6 = .flat (.int .i64 x_6), [0, 1, 2, 6], lx35_1, fun σ m k => ?_⟩
  have e : Lam35.loop ((loopsOf (bodyOf Try.f35)).getD 0 .skip) σ m k = Lam35_1 σ m k := by kernel_rfl
  rw [e]
  constructor
  · intro h
    unfold Lam35_1 at h
    obtain ⟨b_0, o_0, h0, h⟩ := kptr_ok h
    obtain ⟨x_1, h1, h⟩ := kI_ok h
    obtain ⟨x_2, h2, h⟩ := kI_ok h
    obtain ⟨x_6, h3, h⟩ := kI_ok h
    obtain ⟨N, h⟩ := h
    refine ⟨⟨b_0, o_0, x_1, x_2, x_6, h0, h1, h2, h3⟩, N, ?_⟩
    have ev : [0, 1, 2, 6].map σ = [(.ptr b_0 o_0), (.flat (.int .u32 x_1)), (.flat (.int .i64 x_2)), (.flat (.int .i64 x_6))] := by simp only [List.map_cons, List.map_nil, h0, h1, h2, h3]
    rw [ev, loop35_1]
    exact h
  · rintro ⟨⟨b_0, o_0, x_1, x_2, x_6, h0, h1, h2, h3⟩, N, h⟩
    have ev : [0, 1, 2, 6].map σ = [(.ptr b_0 o_0), (.flat (.int .u32 x_1)), (.flat (.int .i64 x_2)), (.flat (.int .i64 x_6))] := by simp only [List.map_cons, List.map_nil, h0, h1, h2, h3]
    rw [ev, loop35_1] at h
    unfold Lam35_1
    try simp only [h0, h1, h2, h3, kI, kbool, kS, kptr, kaggN, kite, decide_true, eq_self]
    exact ⟨N, h⟩

theorem eqn35 (b_0 o_0 : Nat) (x_1 : Int) (x_2 : Int) (m : Mem) (k : KV) : bodyK Try.prog E35 Lam35 Try.f35 false [(.ptr b_0 o_0), (.flat (.int .u32 x_1)), (.flat (.int .i64 x_2))] m k = F35 b_0 o_0 x_1 x_2 m (fun m' => k (.tup []) m') := by
  kernel_rfl

theorem fs35 (w0 : World) : FS Try.prog w0 35 G35 := by
  refine (fs_body (Γ := E35) (sound_env (l := []) w0 (by
    intro p hp
    cases hp)) (by kernel_rfl) Try.func35 (Λ := Lam35) (c := (bodyOf Try.f35)) (by kernel_rfl) Try.call35 (by kernel_rfl) (LS_of (bodyOf Try.f35) 1 (by kernel_rfl) (by
    intro i hi
    match i, hi with
    | 0, _ => exact lok35_1
    | i + 1, hi => omega) 0 (by kernel_rfl) (fun i hi => absurd hi (Nat.not_lt_zero i))) false (np := 3) (Nat.le_of_ble_eq_true (by kernel_rfl))).imp fun args => ?_
  by_cases hl : args.length = 3
  rotate_left
  · exact .inr fun m k hk => by
      unfold G35 at hk
      split at hk
      · exact hl rfl
      · exact hk
  obtain ⟨a0, a1, a2, rfl⟩ : ∃ a0 a1 a2, args = [a0, a1, a2] := len_list3 hl
  rcases kptr_or a0 with ⟨b_0, o_0, rfl⟩ | h
  rotate_left
  · exact .inr fun m k hk => h _ (by simpa only [G35, kI, kbool, kS, kptr, kaggN, kite, decide_true, eq_self] using hk)
  rcases kI_or .u32 a1 with ⟨x_1, rfl⟩ | h
  rotate_left
  · exact .inr fun m k hk => h _ (by simpa only [G35, kI, kbool, kS, kptr, kaggN, kite, decide_true, eq_self] using hk)
  rcases kI_or .i64 a2 with ⟨x_2, rfl⟩ | h
  rotate_left
  · exact .inr fun m k hk => h _ (by simpa only [G35, kI, kbool, kS, kptr, kaggN, kite, decide_true, eq_self] using hk)
  exact .inl fun m k => propext ⟨fun h => ⟨rfl, by rw [eqn35]; simpa only [G35, kI, kbool, kS, kptr, kaggN, kite, decide_true, eq_self] using h⟩, fun h => by have h := h.2; rw [eqn35] at h; simpa only [G35, kI, kbool, kS, kptr, kaggN, kite, decide_true, eq_self] using h⟩

def R28_4 (b_0 o_0 : Nat) (x_1 : Int) (x_2 : Int) (x_3 : Int) (x_9 : Int) (m : Mem) (kn : Int → Mem → Prop) (k0 : Mem → Prop) : Prop :=
  kif (decide (x_9 < x_2)) (ldA m b_0 (o_0 + 0) fun v7 => kif (decide (IntKind.wrap .u64 (IntKind.wrap .i64 (8 * (IntKind.wrap .i64 ((IntKind.wrap .i64 (x_2 - 1)) - x_9)))) < 0)) False (ksl v7 fun b8 o9 l10 p11 => kif (decide (0 ≤ IntKind.wrap .i64 ((IntKind.wrap .i64 x_1) + x_9)) && decide (IntKind.wrap .i64 ((IntKind.wrap .i64 x_1) + x_9) < l10)) (stC m b8 (o9 + (IntKind.wrap .i64 ((IntKind.wrap .i64 x_1) + x_9)).toNat * 1) (.flat (.int .u8 (IntKind.wrap .u8 (x_3.fdiv (2 ^ min (IntKind.wrap .u64 (IntKind.wrap .i64 (8 * (IntKind.wrap .i64 ((IntKind.wrap .i64 (x_2 - 1)) - x_9))))).toNat 32))))) fun m12 => kn (IntKind.wrap .i64 (x_9 + 1)) m12) False)) (k0  m)

def L28_4 (b_0 o_0 : Nat) (x_1 : Int) (x_2 : Int) (x_3 : Int) : Nat → Int → Mem → (Mem → Prop) → Prop
  | 0, _,  _, _ => bump False
  | N + 1, x_9,  m, k0 => R28_4 b_0 o_0 x_1 x_2 x_3 x_9 m (fun x_9' m' => L28_4 b_0 o_0 x_1 x_2 x_3 N x_9' m' k0) k0

def P28_3103 (b_0 o_0 : Nat) (x_1 : Int) (x_2 : Int) (x_3 : Int) (m : Mem) (kr : Bool → Mem → Prop) : Prop :=
  ∃ N14, L28_4 b_0 o_0 x_1 x_2 x_3 N14 0 m (fun m13 => F35 b_0 o_0 x_1 x_2 m13 fun m15 => kr true m15)

/-- (*pianola/pianolaref2.Ram).Store -/
def F28 (b_0 o_0 : Nat) (x_1 : Int) (x_2 : Int) (x_3 : Int) (m : Mem) (k : Bool → Mem → Prop) : Prop :=
  kif (x_2 != 1) (kif (x_2 != 2) (kif (x_2 != 4) (k false m) (kif (decide (IntKind.wrap .u32 x_2 = 0)) False (kif ((x_1.tmod (IntKind.wrap .u32 x_2)) != 0) (k false m) (F34 b_0 o_0 x_1 x_2 m fun x1 m2 => kif (!x1) (k false m2) (P28_3103 b_0 o_0 x_1 x_2 x_3 m2 (fun x16 m17 => k x16 m17)))))) (kif (decide (IntKind.wrap .u32 x_2 = 0)) False (kif ((x_1.tmod (IntKind.wrap .u32 x_2)) != 0) (k false m) (F34 b_0 o_0 x_1 x_2 m fun x3 m4 => kif (!x3) (k false m4) (P28_3103 b_0 o_0 x_1 x_2 x_3 m4 (fun x18 m19 => k x18 m19)))))) (kif (decide (IntKind.wrap .u32 x_2 = 0)) False (kif ((x_1.tmod (IntKind.wrap .u32 x_2)) != 0) (k false m) (F34 b_0 o_0 x_1 x_2 m fun x5 m6 => kif (!x5) (k false m6) (P28_3103 b_0 o_0 x_1 x_2 x_3 m6 (fun x20 m21 => k x20 m21)))))

def G28 (args : List AV) (m : Mem) (k : KV) : Prop := match args with
  | [a0, a1, a2, a3] => kptr a0 fun b_0 o_0 => kI .u32 a1 fun x_1 => kI .i64 a2 fun x_2 => kI .u32 a3 fun x_3 => F28 b_0 o_0 x_1 x_2 x_3 m (fun x_1000 m' => k (.flat (.bool x_1000)) m')
  | _ => False

def E28 : Env := envOf [(34, G34), (35, G35)]

def LamP28_3103 (σ : Nat → AV) (m : Mem) (k : KX) : Prop := kptr (σ 0) fun b_0 o_0 => kI .u32 (σ 1) fun x_1 => kI .i64 (σ 2) fun x_2 => kI .u32 (σ 3) fun x_3 => P28_3103 b_0 o_0 x_1 x_2 x_3 m (fun x_8' m' => k .ret (only [8] [(.flat (.bool x_8'))]) m')

def Lam28_4 (σ : Nat → AV) (m : Mem) (k : KX) : Prop := kptr (σ 0) fun b_0 o_0 => kI .u32 (σ 1) fun x_1 => kI .i64 (σ 2) fun x_2 => kI .u32 (σ 3) fun x_3 => kI .i64 (σ 9) fun x_9 => ∃ N, L28_4 b_0 o_0 x_1 x_2 x_3 N x_9 m (fun m' => k (.exit 0) (only [0, 1, 2] [(.ptr b_0 o_0), (.flat (.int .u32 x_1)), (.flat (.int .i64 x_2))]) m')

def Lam28 : LEnv := ⟨fun a σ m k => match firstReg a with
  | some 4 => Lam28_4 σ m k
  | _ => bump False,
  fun id => match id with
  | _ => bump false,
  fun b => match keyC b with
  | some 3103 => true
  | _ => bump false,
  fun b σ m k => match keyC b with
  | some 3103 => LamP28_3103 σ m k
  | _ => bump False⟩

def lx28_4 : Ex → List Nat := fun e => match e with
  | .exit 0 => [0, 1, 2]
  | _ => []

theorem round28_4 (b_0 o_0 : Nat) (x_1 : Int) (x_2 : Int) (x_3 : Int) (x_9 : Int) (m : Mem) (G : List AV → Mem → Prop) (k : KX) : (wpA Try.prog E28 Lam28 ((loopsOf (bodyOf Try.f28)).getD 0 .skip) (only [0, 1, 2, 3, 9] [(.ptr b_0 o_0), (.flat (.int .u32 x_1)), (.flat (.int .i64 x_2)), (.flat (.int .u32 x_3)), (.flat (.int .i64 x_9))]) m fun e σ' m' => match e with
    | .normal => G ([0, 1, 2, 3, 9].map σ') m'
    | .exit id => k (.exit id) (only (lx28_4 (.exit id)) ((lx28_4 (.exit id)).map σ')) m'
    | .ret => k .ret (only (lx28_4 .ret) ((lx28_4 .ret).map σ')) m') = R28_4 b_0 o_0 x_1 x_2 x_3 x_9 m (fun x_9' m' => G [(.ptr b_0 o_0), (.flat (.int .u32 x_1)), (.flat (.int .i64 x_2)), (.flat (.int .u32 x_3)), (.flat (.int .i64 x_9'))] m') (fun m' => k (.exit 0) (only [0, 1, 2] [(.ptr b_0 o_0), (.flat (.int .u32 x_1)), (.flat (.int .i64 x_2))]) m') := by
  kernel_rfl

theorem loop28_4 (b_0 o_0 : Nat) (x_1 : Int) (x_2 : Int) (x_3 : Int) (k : KX) : ∀ (N : Nat) (x_9 : Int) (m : Mem), rounds Try.prog E28 Lam28 [0, 1, 2, 3, 9] lx28_4 ((loopsOf (bodyOf Try.f28)).getD 0 .skip) N [(.ptr b_0 o_0), (.flat (.int .u32 x_1)), (.flat (.int .i64 x_2)), (.flat (.int .u32 x_3)), (.flat (.int .i64 x_9))] m k = L28_4 b_0 o_0 x_1 x_2 x_3 N x_9 m (fun m' => k (.exit 0) (only [0, 1, 2] [(.ptr b_0 o_0), (.flat (.int .u32 x_1)), (.flat (.int .i64 x_2))]) m') := by
  intro N
  induction N with
  | zero => intros; rfl
  | succ N ih =>
    intro x_9 m
    refine (round28_4 b_0 o_0 x_1 x_2 x_3 x_9 m (fun vs m' => rounds Try.prog E28 Lam28 [0, 1, 2, 3, 9] lx28_4 ((loopsOf (bodyOf Try.f28)).getD 0 .skip) N vs m' k) k).trans ?_
    simp only [ih]
    rfl

theorem lok28_4 : LoopOK Try.prog E28 Lam28 ((loopsOf (bodyOf Try.f28)).getD 0 .skip) := by
  refine ⟨fun σ => ∃ b_0 o_0 x_1 x_2 x_3 x_9, σ 0 = .ptr b_0 o_0 ∧ σ 1 = .flat (.int .u32 x_1) ∧ σ 2 = .flat (.int .i64 x_2) ∧ σ 3 = .flat (.int .u32 x_3) ∧ σ 9 = .flat (.int .i64 x_9), [0, 1, 2, 3, 9], lx28_4, fun σ m k => ?_⟩
  have e : Lam28.loop ((loopsOf (bodyOf Try.f28)).getD 0 .skip) σ m k = Lam28_4 σ m k := by kernel_rfl
  rw [e]
  constructor
  · intro h
    unfold Lam28_4 at h
    obtain ⟨b_0, o_0, h0, h⟩ := kptr_ok h
    obtain ⟨x_1, h1, h⟩ := kI_ok h
    obtain ⟨x_2, h2, h⟩ := kI_ok h
    obtain ⟨x_3, h3, h⟩ := kI_ok h
    obtain ⟨x_9, h4, h⟩ := kI_ok h
    obtain ⟨N, h⟩ := h
    refine ⟨⟨b_0, o_0, x_1, x_2, x_3, x_9, h0, h1, h2, h3, h4⟩, N, ?_⟩
    have ev : [0, 1, 2, 3, 9].map σ = [(.ptr b_0 o_0), (.flat (.int .u32 x_1)), (.flat (.int .i64 x_2)), (.flat (.int .u32 x_3)), (.flat (.int .i64 x_9))] := by simp only [List.map_cons, List.map_nil, h0, h1, h2, h3, h4]
    rw [ev, loop28_4]
    exact h
  · rintro ⟨⟨b_0, o_0, x_1, x_2, x_3, x_9, h0, h1, h2, h3, h4⟩, N, h⟩
    have ev : [0, 1, 2, 3, 9].map σ = [(.ptr b_0 o_0), (.flat (.int .u32 x_1)), (.flat (.int .i64 x_2)), (.flat (.int .u32 x_3)), (.flat (.int .i64 x_9))] := by simp only [List.map_cons, List.map_nil, h0, h1, h2, h3, h4]
    rw [ev, loop28_4] at h
    unfold Lam28_4
    try simp only [h0, h1, h2, h3, h4, kI, kbool, kS, kptr, kaggN, kite, decide_true, eq_self]
    exact ⟨N, h⟩

def lxp28_3103 : Ex → List Nat := fun e => match e with
  | .ret => [8]
  | _ => []

theorem pc28_3103 (b_0 o_0 : Nat) (x_1 : Int) (x_2 : Int) (x_3 : Int) (m : Mem) (k : KX) : once Try.prog E28 Lam28 [0, 1, 2, 3] lxp28_3103 (((secsOf (bodyOf Try.f28)).filter Lam28.cut).getD 0 .skip) [(.ptr b_0 o_0), (.flat (.int .u32 x_1)), (.flat (.int .i64 x_2)), (.flat (.int .u32 x_3))] m k = P28_3103 b_0 o_0 x_1 x_2 x_3 m (fun x_8' m' => k .ret (only [8] [(.flat (.bool x_8'))]) m') := by
  kernel_rfl

theorem pok28_3103 : PieceOK Try.prog E28 Lam28 (((secsOf (bodyOf Try.f28)).filter Lam28.cut).getD 0 .skip) := by
  refine ⟨fun σ => ∃ b_0 o_0 x_1 x_2 x_3, σ 0 = .ptr b_0 o_0 ∧ σ 1 = .flat (.int .u32 x_1) ∧ σ 2 = .flat (.int .i64 x_2) ∧ σ 3 = .flat (.int .u32 x_3), [0, 1, 2, 3], lxp28_3103, fun σ m k => ?_⟩
  have e : Lam28.piece (((secsOf (bodyOf Try.f28)).filter Lam28.cut).getD 0 .skip) σ m k = LamP28_3103 σ m k := by kernel_rfl
  rw [e]
  constructor
  · intro h
    unfold LamP28_3103 at h
    obtain ⟨b_0, o_0, h0, h⟩ := kptr_ok h
    obtain ⟨x_1, h1, h⟩ := kI_ok h
    obtain ⟨x_2, h2, h⟩ := kI_ok h
    obtain ⟨x_3, h3, h⟩ := kI_ok h
    refine ⟨⟨b_0, o_0, x_1, x_2, x_3, h0, h1, h2, h3⟩, ?_⟩
    have ev : [0, 1, 2, 3].map σ = [(.ptr b_0 o_0), (.flat (.int .u32 x_1)), (.flat (.int .i64 x_2)), (.flat (.int .u32 x_3))] := by simp only [List.map_cons, List.map_nil, h0, h1, h2, h3]
    rw [ev, pc28_3103]
    exact h
  · rintro ⟨⟨b_0, o_0, x_1, x_2, x_3, h0, h1, h2, h3⟩, h⟩
    have ev : [0, 1, 2, 3].map σ = [(.ptr b_0 o_0), (.flat (.int .u32 x_1)), (.flat (.int .i64 x_2)), (.flat (.int .u32 x_3))] := by simp only [List.map_cons, List.map_nil, h0, h1, h2, h3]
    rw [ev, pc28_3103] at h
    unfold LamP28_3103
    try simp only [h0, h1, h2, h3, kI, kbool, kS, kptr, kaggN, kite, decide_true, eq_self]
    exact h

theorem eqn28 (b_0 o_0 : Nat) (x_1 : Int) (x_2 : Int) (x_3 : Int) (m : Mem) (k : KV) : bodyK Try.prog E28 Lam28 Try.f28 false [(.ptr b_0 o_0), (.flat (.int .u32 x_1)), (.flat (.int .i64 x_2)), (.flat (.int .u32 x_3))] m k = F28 b_0 o_0 x_1 x_2 x_3 m (fun x_1000 m' => k (.flat (.bool x_1000)) m') := by
  kernel_rfl

theorem fs28 (w0 : World) : FS Try.prog w0 28 G28 := by
  refine (fs_body (Γ := E28) (sound_env (l := [(34, G34), (35, G35)]) w0 (by
    intro p hp
    simp only [List.mem_cons, List.not_mem_nil, or_false] at hp
    rcases hp with rfl | rfl
    · exact fs34 w0
    · exact fs35 w0)) (by kernel_rfl) Try.func28 (Λ := Lam28) (c := (bodyOf Try.f28)) (by kernel_rfl) Try.call28 (by kernel_rfl) (LS_of (bodyOf Try.f28) 1 (by kernel_rfl) (by
    intro i hi
    match i, hi with
    | 0, _ => exact lok28_4
    | i + 1, hi => omega) 1 (by kernel_rfl) (by
    intro i hi
    match i, hi with
    | 0, _ => exact pok28_3103
    | i + 1, hi => omega)) false (np := 4) (Nat.le_of_ble_eq_true (by kernel_rfl))).imp fun args => ?_
  by_cases hl : args.length = 4
  rotate_left
  · exact .inr fun m k hk => by
      unfold G28 at hk
      split at hk
      · exact hl rfl
      · exact hk
  obtain ⟨a0, a1, a2, a3, rfl⟩ : ∃ a0 a1 a2 a3, args = [a0, a1, a2, a3] := len_list4 hl
  rcases kptr_or a0 with ⟨b_0, o_0, rfl⟩ | h
  rotate_left
  · exact .inr fun m k hk => h _ (by simpa only [G28, kI, kbool, kS, kptr, kaggN, kite, decide_true, eq_self] using hk)
  rcases kI_or .u32 a1 with ⟨x_1, rfl⟩ | h
  rotate_left
  · exact .inr fun m k hk => h _ (by simpa only [G28, kI, kbool, kS, kptr, kaggN, kite, decide_true, eq_self] using hk)
  rcases kI_or .i64 a2 with ⟨x_2, rfl⟩ | h
  rotate_left
  · exact .inr fun m k hk => h _ (by simpa only [G28, kI, kbool, kS, kptr, kaggN, kite, decide_true, eq_self] using hk)
  rcases kI_or .u32 a3 with ⟨x_3, rfl⟩ | h
  rotate_left
  · exact .inr fun m k hk => h _ (by simpa only [G28, kI, kbool, kS, kptr, kaggN, kite, decide_true, eq_self] using hk)
  exact .inl fun m k => propext ⟨fun h => ⟨rfl, by rw [eqn28]; simpa only [G28, kI, kbool, kS, kptr, kaggN, kite, decide_true, eq_self] using h⟩, fun h => by have h := h.2; rw [eqn28] at h; simpa only [G28, kI, kbool, kS, kptr, kaggN, kite, decide_true, eq_self] using h⟩

end Go.Proofs.Ytmgalbmhbbickaa.Am
