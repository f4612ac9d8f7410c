/- What Go functions ask of what follows them, as plain functions over the abstract machine; the machine asks just that. Written by gen.py. -/
import Derived.Test.YtobdghdcmkdcaaaProg
import Derived.Test.YtobdghdcmkdcaaaAmL
import Derived.Test.YtobdghdcmkdcaaaM3
namespace Go.Proofs.Ytobdghdcmkdcaaa.Am
set_option linter.unusedVariables false
set_option linter.unusedSimpArgs false
set_option maxRecDepth 100000

def E23 : Env := envOf []

def P23_9004 (b_0 o_0 : Nat) (x_1 : Int) (x_2 : Int) (x_6 : Int) (x_34 : Bool) (m : Mem) (kn : Mem → Prop) : Prop :=
  kif x_34 (kif (decide (0 ≤ x_1) && decide (x_1 < 16)) (stC m b_0 (o_0 + 39 + (x_1).toNat * 1) (.flat (.int .u32 x_2)) fun m4 => kn  m4) False) (kif (x_6 == 11) (kif (decide (0 ≤ x_1) && decide (x_1 < 16)) (stC m b_0 (o_0 + 39 + (x_1).toNat * 1) (.flat (.int .u32 x_2)) fun m5 => ldI .u32 m5 b_0 (o_0 + 39 + 13) fun x6 => stC m5 b_0 (o_0 + 39 + 13) (.flat (.int .u32 (bits .andNot .u32 x6 32768))) fun m7 => kn  m7) False) (kif (x_6 == 12) (kif (decide (0 ≤ x_1) && decide (x_1 < 16)) (stC m b_0 (o_0 + 39 + (x_1).toNat * 1) (.flat (.int .u32 (bits .and .u32 x_2 65299))) fun m8 => kn  m8) False) (kif (x_6 == 13) (kif (decide (0 ≤ x_1) && decide (x_1 < 16)) (ldI .u32 m b_0 (o_0 + 39 + (x_1).toNat * 1) fun x9 => kif (decide (0 ≤ x_1) && decide (x_1 < 16)) (stC m b_0 (o_0 + 39 + (x_1).toNat * 1) (.flat (.int .u32 (bits .or .u32 (bits .andNot .u32 x9 768) (bits .and .u32 x_2 768)))) fun m10 => kn  m10) False) False) (kn  m))))

/-- pianola/pianolaref6.Write -/
def F23 (b_0 o_0 : Nat) (x_1 : Int) (x_2 : Int) (m : Mem) (k : Mem → Prop) : Prop :=
  kif (x_1 == 0) (kif (decide (0 ≤ x_1) && decide (x_1 < 16)) (stC m b_0 (o_0 + 39 + (x_1).toNat * 1) (.flat (.int .u32 (bits .and .u32 x_2 7))) fun m1 => k  m1) False) (kif (x_1 == 2) (kif (decide (0 ≤ x_1) && decide (x_1 < 16)) (stC m b_0 (o_0 + 39 + (x_1).toNat * 1) (.flat (.int .u32 (bits .and .u32 x_2 4294966279))) fun m2 => k  m2) False) (kif (x_1 == 10) (kif (decide (0 ≤ x_1) && decide (x_1 < 16)) (stC m b_0 (o_0 + 39 + (x_1).toNat * 1) (.flat (.int .u32 (bits .and .u32 x_2 4294966527))) fun m3 => k  m3) False) (kif (x_1 == 9) (P23_9004 b_0 o_0 x_1 x_2 x_1 (x_1 == 9) m (fun m11 => k  m11)) (P23_9004 b_0 o_0 x_1 x_2 x_1 (x_1 == 14) m (fun m12 => k  m12)))))

def G23 (args : List AV) (m : Mem) (k : KV) : Prop := match args with
  | [a0, a1, a2] => kptr a0 fun b_0 o_0 => kI .i64 a1 fun x_1 => kI .u32 a2 fun x_2 => F23 b_0 o_0 x_1 x_2 m (fun m' => k (.tup []) m')
  | _ => False

def LamP23_9004 (σ : Nat → AV) (m : Mem) (k : KX) : Prop := kptr (σ 0) fun b_0 o_0 => kI .i64 (σ 1) fun x_1 => kI .u32 (σ 2) fun x_2 => kI .i64 (σ 6) fun x_6 => kbool (σ 34) fun x_34 => P23_9004 b_0 o_0 x_1 x_2 x_6 x_34 m (fun m' => k .normal (only [] []) m')

def Lam23 : LEnv := ⟨fun a σ m k => match firstReg a with
  | _ => bump False,
  fun id => match id with
  | _ => bump false,
  fun b => match keyC b with
  | some 9004 => true
  | _ => bump false,
  fun b σ m k => match keyC b with
  | some 9004 => LamP23_9004 σ m k
  | _ => bump False⟩

def lxp23_9004 : Ex → List Nat := fun e => match e with
  | .normal => []
  | _ => []

theorem pc23_9004 (b_0 o_0 : Nat) (x_1 : Int) (x_2 : Int) (x_6 : Int) (x_34 : Bool) (m : Mem) (k : KX) : once Try.prog E23 Lam23 [0, 1, 2, 6, 34] lxp23_9004 (((secsOf (bodyOf Try.f23)).filter Lam23.cut).getD 0 .skip) [(.ptr b_0 o_0), (.flat (.int .i64 x_1)), (.flat (.int .u32 x_2)), (.flat (.int .i64 x_6)), (.flat (.bool x_34))] m k = P23_9004 b_0 o_0 x_1 x_2 x_6 x_34 m (fun m' => k .normal (only [] []) m') := by
  kernel_rfl

theorem pok23_9004 : PieceOK Try.prog E23 Lam23 (((secsOf (bodyOf Try.f23)).filter Lam23.cut).getD 0 .skip) := by
  refine ⟨fun σ => ∃ b_0 o_0 x_1 x_2 x_6 x_34, σ 0 = .ptr b_0 o_0 ∧ σ 1 = .flat (.int .i64 x_1) ∧ σ 2 = .flat (.int .u32 x_2) ∧ σ 6 = .flat (.int .i64 x_6) ∧ σ 34 = .flat (.bool x_34), [0, 1, 2, 6, 34], lxp23_9004, fun σ m k => ?_⟩
  have e : Lam23.piece (((secsOf (bodyOf Try.f23)).filter Lam23.cut).getD 0 .skip) σ m k = LamP23_9004 σ m k := by kernel_rfl
  rw [e]
  constructor
  · intro h
    unfold LamP23_9004 at h
    obtain ⟨b_0, o_0, h0, h⟩ := kptr_ok h
    obtain ⟨x_1, h1, h⟩ := kI_ok h
    obtain ⟨x_2, h2, h⟩ := kI_ok h
    obtain ⟨x_6, h3, h⟩ := kI_ok h
    obtain ⟨x_34, h4, h⟩ := kbool_ok h
    refine ⟨⟨b_0, o_0, x_1, x_2, x_6, x_34, h0, h1, h2, h3, h4⟩, ?_⟩
    have ev : [0, 1, 2, 6, 34].map σ = [(.ptr b_0 o_0), (.flat (.int .i64 x_1)), (.flat (.int .u32 x_2)), (.flat (.int .i64 x_6)), (.flat (.bool x_34))] := by simp only [List.map_cons, List.map_nil, h0, h1, h2, h3, h4]
    rw [ev, pc23_9004]
    exact h
  · rintro ⟨⟨b_0, o_0, x_1, x_2, x_6, x_34, h0, h1, h2, h3, h4⟩, h⟩
    have ev : [0, 1, 2, 6, 34].map σ = [(.ptr b_0 o_0), (.flat (.int .i64 x_1)), (.flat (.int .u32 x_2)), (.flat (.int .i64 x_6)), (.flat (.bool x_34))] := by simp only [List.map_cons, List.map_nil, h0, h1, h2, h3, h4]
    rw [ev, pc23_9004] at h
    unfold LamP23_9004
    try simp only [h0, h1, h2, h3, h4, kI, kbool, kS, kptr, kaggN, kite, decide_true, eq_self]
    exact h

theorem eqn23 (b_0 o_0 : Nat) (x_1 : Int) (x_2 : Int) (m : Mem) (k : KV) : bodyK Try.prog E23 Lam23 Try.f23 false [(.ptr b_0 o_0), (.flat (.int .i64 x_1)), (.flat (.int .u32 x_2))] m k = F23 b_0 o_0 x_1 x_2 m (fun m' => k (.tup []) m') := by
  kernel_rfl

theorem fs23 (w0 : World) : FS Try.prog w0 23 G23 := by
  refine (fs_body (Γ := E23) (sound_env (l := []) w0 (by
    intro p hp
    cases hp)) (by kernel_rfl) Try.func23 (Λ := Lam23) (c := (bodyOf Try.f23)) (by kernel_rfl) Try.call23 (by kernel_rfl) (LS_of (bodyOf Try.f23) 0 (by kernel_rfl) (fun i hi => absurd hi (Nat.not_lt_zero i)) 1 (by kernel_rfl) (by
    intro i hi
    match i, hi with
    | 0, _ => exact pok23_9004
    | i + 1, hi => omega)) false (np := 3) (Nat.le_of_ble_eq_true (by kernel_rfl))).imp fun args => ?_
  by_cases hl : args.length = 3
  rotate_left
  · exact .inr fun m k hk => by
      unfold G23 at hk
      split at hk
      · exact hl rfl
      · exact hk
  obtain ⟨a0, a1, a2, rfl⟩ : ∃ a0 a1 a2, args = [a0, a1, a2] := len_list3 hl
  rcases kptr_or a0 with ⟨b_0, o_0, rfl⟩ | h
  rotate_left
  · exact .inr fun m k hk => h _ (by simpa only [G23, kI, kbool, kS, kptr, kaggN, kite, decide_true, eq_self] using hk)
  rcases kI_or .i64 a1 with ⟨x_1, rfl⟩ | h
  rotate_left
  · exact .inr fun m k hk => h _ (by simpa only [G23, kI, kbool, kS, kptr, kaggN, kite, decide_true, eq_self] using hk)
  rcases kI_or .u32 a2 with ⟨x_2, rfl⟩ | h
  rotate_left
  · exact .inr fun m k hk => h _ (by simpa only [G23, kI, kbool, kS, kptr, kaggN, kite, decide_true, eq_self] using hk)
  exact .inl fun m k => propext ⟨fun h => ⟨rfl, by rw [eqn23]; simpa only [G23, kI, kbool, kS, kptr, kaggN, kite, decide_true, eq_self] using h⟩, fun h => by have h := h.2; rw [eqn23] at h; simpa only [G23, kI, kbool, kS, kptr, kaggN, kite, decide_true, eq_self] using h⟩

def E14 : Env := envOf [(22, G22), (23, G23)]

def R14_20 (x_1 : Int) (b_2 o_2 : Nat) (b_4 o_4 : Nat) (b_5 o_5 : Nat) (x_8 : Int) (m : Mem) (kn : Int → Mem → Prop) (k4 : Mem → Prop) : Prop :=
  ldA m b_2 (o_2 + 8) fun v54 => klen v54 fun x55 => kif (decide (x_8 < x55)) (kif (decide (x_8 < 8)) (ldA m b_2 (o_2 + 8) fun v56 => ksl v56 fun b57 o58 l59 p60 => kif (decide (0 ≤ x_8) && decide (x_8 < l59)) (ldI .u32 m b57 (o58 + (x_8).toNat * 2 + 0) fun x61 => ldA m b_2 (o_2 + 8) fun v62 => ksl v62 fun b63 o64 l65 p66 => kif (decide (0 ≤ x_8) && decide (x_8 < l65)) (ldI .u32 m b63 (o64 + (x_8).toNat * 2 + 1) fun x67 => kif (decide (0 ≤ x_8) && decide (x_8 < 8)) (stG 2 m b_5 (o_5 + 55 + (x_8).toNat * 2) (upd (upd (lget [(.flat (.int .u32 0)), (.flat (.int .u32 0))]) 0 (.flat (.int .u32 (bits .and .u32 x61 4294966527)))) 1 (.flat (.int .u32 (bits .and .u32 x67 4294966279)))) fun m68 => kn (IntKind.wrap .i64 (x_8 + 1)) m68) False) False) False) (k4  m)) (k4  m)

def L14_20 (x_1 : Int) (b_2 o_2 : Nat) (b_4 o_4 : Nat) (b_5 o_5 : Nat) : Nat → Int → Mem → (Mem → Prop) → Prop
  | 0, _,  _, _ => bump False
  | N + 1, x_8,  m, k4 => R14_20 x_1 b_2 o_2 b_4 o_4 b_5 o_5 x_8 m (fun x_8' m' => L14_20 x_1 b_2 o_2 b_4 o_4 b_5 o_5 N x_8' m' k4) k4

def R14_16 (x_1 : Int) (b_2 o_2 : Nat) (b_4 o_4 : Nat) (b_5 o_5 : Nat) (x_7 : Int) (m : Mem) (kn : Int → Mem → Prop) (k2 : Mem → Prop) : Prop :=
  ldA m b_2 (o_2 + 7) fun v40 => klen v40 fun x41 => kif (decide (x_7 < x41)) (kif (decide (x_7 < 3)) (newK m ⟨3, upd (upd (upd (lget [(.flat (.int .i64 0)), (.flat (.int .i64 0)), (.flat (.int .i64 0))]) 0 (.flat (.int .i64 0))) 1 (.flat (.int .i64 2))) 2 (.flat (.int .i64 14)), 3, false⟩ fun b43 m42 => kif (decide (0 ≤ x_7) && decide (x_7 < 3)) (ldI .i64 m42 b43 (0 + (x_7).toNat * 1) fun x44 => ldA m42 b_2 (o_2 + 7) fun v45 => ksl v45 fun b46 o47 l48 p49 => kif (decide (0 ≤ x_7) && decide (x_7 < l48)) (ldI .u32 m42 b46 (o47 + (x_7).toNat * 1) fun x50 => F23 b_5 o_5 x44 x50 m42 fun m51 => kn (IntKind.wrap .i64 (x_7 + 1)) m51) False) False) (k2  m)) (k2  m)

def L14_16 (x_1 : Int) (b_2 o_2 : Nat) (b_4 o_4 : Nat) (b_5 o_5 : Nat) : Nat → Int → Mem → (Mem → Prop) → Prop
  | 0, _,  _, _ => bump False
  | N + 1, x_7,  m, k2 => R14_16 x_1 b_2 o_2 b_4 o_4 b_5 o_5 x_7 m (fun x_7' m' => L14_16 x_1 b_2 o_2 b_4 o_4 b_5 o_5 N x_7' m' k2) k2

def P14_10102 (x_1 : Int) (b_2 o_2 : Nat) (b_4 o_4 : Nat) (b_5 o_5 : Nat) (m : Mem) (kr : Mem → Prop) : Prop :=
  ldI .u32 m b_2 (o_2 + 2) fun x29 => F23 b_5 o_5 12 x29 m fun m30 => ldI .u32 m30 b_2 (o_2 + 3) fun x31 => F23 b_5 o_5 13 x31 m30 fun m32 => ldI .u32 m32 b_2 (o_2 + 4) fun x33 => F23 b_5 o_5 10 x33 m32 fun m34 => ldI .u32 m34 b_2 (o_2 + 9) fun x35 => F23 b_5 o_5 9 x35 m34 fun m36 => ldI .u32 m36 b_2 (o_2 + 9) fun x37 => ldI .u32 m36 b_2 (o_2 + 10) fun x38 => F23 b_5 o_5 11 (IntKind.wrap .u32 (x37 + (x38.tmod 50))) m36 fun m39 => ∃ N53, L14_16 x_1 b_2 o_2 b_4 o_4 b_5 o_5 N53 0 m39 (fun m52 => ∃ N70, L14_20 x_1 b_2 o_2 b_4 o_4 b_5 o_5 N70 0 m52 (fun m69 => ldB m69 b_2 (o_2 + 6) fun x71 => stC m69 b_5 (o_5 + 37) (.flat (.bool x71)) fun m72 => stC m72 b_5 (o_5 + 72) (.flat (.int .i64 x_1)) fun m73 => ldG 73 m73 b_5 o_5 fun c74 => stG 73 m73 b_4 o_4 c74 fun m75 => kr  m75))

def R14_3 (x_1 : Int) (b_2 o_2 : Nat) (b_4 o_4 : Nat) (b_5 o_5 : Nat) (x_6 : Int) (m : Mem) (kn : Int → Mem → Prop) (k0 : Mem → Prop) : Prop :=
  kif (decide (x_6 < 32)) (ldA m b_2 (o_2 + 0) fun v10 => klen v10 fun x11 => kif (decide (x_6 < x11)) (ldA m b_2 (o_2 + 0) fun v12 => ksl v12 fun b13 o14 l15 p16 => kif (decide (0 ≤ x_6) && decide (x_6 < l15)) (ldI .u32 m b13 (o14 + (x_6).toNat * 1) fun x17 => kif (decide (0 ≤ x_6) && decide (x_6 < 32)) (stC m b_5 (o_5 + 0 + (x_6).toNat * 1) (.flat (.int .u32 x17)) fun m18 => kn (IntKind.wrap .i64 (x_6 + 1)) m18) False) False) (k0  m)) (k0  m)

def L14_3 (x_1 : Int) (b_2 o_2 : Nat) (b_4 o_4 : Nat) (b_5 o_5 : Nat) : Nat → Int → Mem → (Mem → Prop) → Prop
  | 0, _,  _, _ => bump False
  | N + 1, x_6,  m, k0 => R14_3 x_1 b_2 o_2 b_4 o_4 b_5 o_5 x_6 m (fun x_6' m' => L14_3 x_1 b_2 o_2 b_4 o_4 b_5 o_5 N x_6' m' k0) k0

/-- pianola/pianolakeep.State -/
def F14 (c_0 : Nat → AV) (x_1 : Int) (m : Mem) (k : (Nat → AV) → Mem → Prop) : Prop :=
  newK m ⟨11, c_0, 44, false⟩ fun b2 m1 => newK m1 ⟨73, Z73, 33, false⟩ fun b4 m3 => F22  m3 fun c5 m6 => newK m6 ⟨73, Z73, 33, false⟩ fun b8 m7 => stG 73 m7 b8 0 c5 fun m9 => ∃ N20, L14_3 x_1 b2 0 b4 0 b8 0 N20 1 m9 (fun m19 => ldI .u32 m19 b2 1 fun x21 => stC m19 b8 34 (.flat (.int .u32 x21)) fun m22 => ldI .u32 m22 b8 34 fun x23 => stC m22 b8 35 (.flat (.int .u32 (IntKind.wrap .u32 (x23 + 4)))) fun m24 => ldB m24 b2 5 fun x25 => kif x25 (ldI .u32 m24 b8 34 fun x26 => stC m24 b8 36 (.flat (.bool true)) fun m27 => stC m27 b8 35 (.flat (.int .u32 (IntKind.wrap .u32 (x26 + 16)))) fun m28 => P14_10102 x_1 b2 0 b4 0 b8 0 m28 (fun m76 => ldG 73 m76 b4 0 fun c78 => (Keeps m m76 ∧ InDomG 73 m c78 ∧ k c78 m))) (P14_10102 x_1 b2 0 b4 0 b8 0 m24 (fun m77 => ldG 73 m77 b4 0 fun c79 => (Keeps m m77 ∧ InDomG 73 m c79 ∧ k c79 m))))

def G14 (args : List AV) (m : Mem) (k : KV) : Prop := match args with
  | [a0, a1] => kaggN 11 a0 fun c_0 => kI .i64 a1 fun x_1 => F14 c_0 x_1 m (fun c_1000 m' => k (.agg 73 c_1000) m')
  | _ => False

def Lam14_3 (σ : Nat → AV) (m : Mem) (k : KX) : Prop := kI .i64 (σ 1) fun x_1 => kptr (σ 2) fun b_2 o_2 => kptr (σ 4) fun b_4 o_4 => kptr (σ 5) fun b_5 o_5 => kI .i64 (σ 6) fun x_6 => ∃ N, L14_3 x_1 b_2 o_2 b_4 o_4 b_5 o_5 N x_6 m (fun m' => k (.exit 0) (only [1, 2, 4, 5] [(.flat (.int .i64 x_1)), (.ptr b_2 o_2), (.ptr b_4 o_4), (.ptr b_5 o_5)]) m')

def LamP14_10102 (σ : Nat → AV) (m : Mem) (k : KX) : Prop := kI .i64 (σ 1) fun x_1 => kptr (σ 2) fun b_2 o_2 => kptr (σ 4) fun b_4 o_4 => kptr (σ 5) fun b_5 o_5 => P14_10102 x_1 b_2 o_2 b_4 o_4 b_5 o_5 m (fun m' => k .ret (only [4] [(.ptr b_4 o_4)]) m')

def Lam14_16 (σ : Nat → AV) (m : Mem) (k : KX) : Prop := kI .i64 (σ 1) fun x_1 => kptr (σ 2) fun b_2 o_2 => kptr (σ 4) fun b_4 o_4 => kptr (σ 5) fun b_5 o_5 => kI .i64 (σ 7) fun x_7 => ∃ N, L14_16 x_1 b_2 o_2 b_4 o_4 b_5 o_5 N x_7 m (fun m' => k (.exit 2) (only [1, 2, 4, 5] [(.flat (.int .i64 x_1)), (.ptr b_2 o_2), (.ptr b_4 o_4), (.ptr b_5 o_5)]) m')

def Lam14_20 (σ : Nat → AV) (m : Mem) (k : KX) : Prop := kI .i64 (σ 1) fun x_1 => kptr (σ 2) fun b_2 o_2 => kptr (σ 4) fun b_4 o_4 => kptr (σ 5) fun b_5 o_5 => kI .i64 (σ 8) fun x_8 => ∃ N, L14_20 x_1 b_2 o_2 b_4 o_4 b_5 o_5 N x_8 m (fun m' => k (.exit 4) (only [1, 2, 4, 5] [(.flat (.int .i64 x_1)), (.ptr b_2 o_2), (.ptr b_4 o_4), (.ptr b_5 o_5)]) m')

def Lam14 : LEnv := ⟨fun a σ m k => match firstReg a with
  | some 3 => Lam14_3 σ m k
  | some 16 => Lam14_16 σ m k
  | some 20 => Lam14_20 σ m k
  | _ => bump False,
  fun id => match id with
  | _ => bump false,
  fun b => match keyC b with
  | some 10102 => true
  | _ => bump false,
  fun b σ m k => match keyC b with
  | some 10102 => LamP14_10102 σ m k
  | _ => bump False⟩

def lx14_20 : Ex → List Nat := fun e => match e with
  | .exit 4 => [1, 2, 4, 5]
  | _ => []

theorem round14_20 (x_1 : Int) (b_2 o_2 : Nat) (b_4 o_4 : Nat) (b_5 o_5 : Nat) (x_8 : Int) (m : Mem) (G : List AV → Mem → Prop) (k : KX) : (wpA Try.prog E14 Lam14 ((loopsOf (bodyOf Try.f14)).getD 2 .skip) (only [1, 2, 4, 5, 8] [(.flat (.int .i64 x_1)), (.ptr b_2 o_2), (.ptr b_4 o_4), (.ptr b_5 o_5), (.flat (.int .i64 x_8))]) m fun e σ' m' => match e with
    | .normal => G ([1, 2, 4, 5, 8].map σ') m'
    | .exit id => k (.exit id) (only (lx14_20 (.exit id)) ((lx14_20 (.exit id)).map σ')) m'
    | .ret => k .ret (only (lx14_20 .ret) ((lx14_20 .ret).map σ')) m') = R14_20 x_1 b_2 o_2 b_4 o_4 b_5 o_5 x_8 m (fun x_8' m' => G [(.flat (.int .i64 x_1)), (.ptr b_2 o_2), (.ptr b_4 o_4), (.ptr b_5 o_5), (.flat (.int .i64 x_8'))] m') (fun m' => k (.exit 4) (only [1, 2, 4, 5] [(.flat (.int .i64 x_1)), (.ptr b_2 o_2), (.ptr b_4 o_4), (.ptr b_5 o_5)]) m') := by
  kernel_rfl

theorem loop14_20 (x_1 : Int) (b_2 o_2 : Nat) (b_4 o_4 : Nat) (b_5 o_5 : Nat) (k : KX) : ∀ (N : Nat) (x_8 : Int) (m : Mem), rounds Try.prog E14 Lam14 [1, 2, 4, 5, 8] lx14_20 ((loopsOf (bodyOf Try.f14)).getD 2 .skip) N [(.flat (.int .i64 x_1)), (.ptr b_2 o_2), (.ptr b_4 o_4), (.ptr b_5 o_5), (.flat (.int .i64 x_8))] m k = L14_20 x_1 b_2 o_2 b_4 o_4 b_5 o_5 N x_8 m (fun m' => k (.exit 4) (only [1, 2, 4, 5] [(.flat (.int .i64 x_1)), (.ptr b_2 o_2), (.ptr b_4 o_4), (.ptr b_5 o_5)]) m') := by
  intro N
  induction N with
  | zero => intros; rfl
  | succ N ih =>
    intro x_8 m
    refine (round14_20 x_1 b_2 o_2 b_4 o_4 b_5 o_5 x_8 m (fun vs m' => rounds Try.prog E14 Lam14 [1, 2, 4, 5, 8] lx14_20 ((loopsOf (bodyOf Try.f14)).getD 2 .skip) N vs m' k) k).trans ?_
    simp only [ih]
    rfl

theorem lok14_20 : LoopOK Try.prog E14 Lam14 ((loopsOf (bodyOf Try.f14)).getD 2 .skip) := by
  refine ⟨fun σ => ∃ x_1 b_2 o_2 b_4 o_4 b_5 o_5 x_8, σ 1 = .flat (.int .i64 x_1) ∧ σ 2 = .ptr b_2 o_2 ∧ σ 4 = .ptr b_4 o_4 ∧ σ 5 = .ptr b_5 o_5 ∧ σ 8 = .flat (.int .i64 x_8), [1, 2, 4, 5, 8], lx14_20, fun σ m k => ?_⟩
  have e : Lam14.loop ((loopsOf (bodyOf Try.f14)).getD 2 .skip) σ m k = Lam14_20 σ m k := by kernel_rfl
  rw [e]
  constructor
  · intro h
    unfold Lam14_20 at h
    obtain ⟨x_1, h0, h⟩ := kI_ok h
    obtain ⟨b_2, o_2, h1, h⟩ := kptr_ok h
    obtain ⟨b_4, o_4, h2, h⟩ := kptr_ok h
    obtain ⟨b_5, o_5, h3, h⟩ := kptr_ok h
    obtain ⟨x_8, h4, h⟩ := kI_ok h
    obtain ⟨N, h⟩ := h
    refine ⟨⟨x_1, b_2, o_2, b_4, o_4, b_5, o_5, x_8, h0, h1, h2, h3, h4⟩, N, ?_⟩
    have ev : [1, 2, 4, 5, 8].map σ = [(.flat (.int .i64 x_1)), (.ptr b_2 o_2), (.ptr b_4 o_4), (.ptr b_5 o_5), (.flat (.int .i64 x_8))] := by simp only [List.map_cons, List.map_nil, h0, h1, h2, h3, h4]
    rw [ev, loop14_20]
    exact h
  · rintro ⟨⟨x_1, b_2, o_2, b_4, o_4, b_5, o_5, x_8, h0, h1, h2, h3, h4⟩, N, h⟩
    have ev : [1, 2, 4, 5, 8].map σ = [(.flat (.int .i64 x_1)), (.ptr b_2 o_2), (.ptr b_4 o_4), (.ptr b_5 o_5), (.flat (.int .i64 x_8))] := by simp only [List.map_cons, List.map_nil, h0, h1, h2, h3, h4]
    rw [ev, loop14_20] at h
    unfold Lam14_20
    try simp only [h0, h1, h2, h3, h4, kI, kbool, kS, kptr, kaggN, kite, decide_true, eq_self]
    exact ⟨N, h⟩

def lx14_16 : Ex → List Nat := fun e => match e with
  | .exit 2 => [1, 2, 4, 5]
  | _ => []

theorem round14_16 (x_1 : Int) (b_2 o_2 : Nat) (b_4 o_4 : Nat) (b_5 o_5 : Nat) (x_7 : Int) (m : Mem) (G : List AV → Mem → Prop) (k : KX) : (wpA Try.prog E14 Lam14 ((loopsOf (bodyOf Try.f14)).getD 1 .skip) (only [1, 2, 4, 5, 7] [(.flat (.int .i64 x_1)), (.ptr b_2 o_2), (.ptr b_4 o_4), (.ptr b_5 o_5), (.flat (.int .i64 x_7))]) m fun e σ' m' => match e with
    | .normal => G ([1, 2, 4, 5, 7].map σ') m'
    | .exit id => k (.exit id) (only (lx14_16 (.exit id)) ((lx14_16 (.exit id)).map σ')) m'
    | .ret => k .ret (only (lx14_16 .ret) ((lx14_16 .ret).map σ')) m') = R14_16 x_1 b_2 o_2 b_4 o_4 b_5 o_5 x_7 m (fun x_7' m' => G [(.flat (.int .i64 x_1)), (.ptr b_2 o_2), (.ptr b_4 o_4), (.ptr b_5 o_5), (.flat (.int .i64 x_7'))] m') (fun m' => k (.exit 2) (only [1, 2, 4, 5] [(.flat (.int .i64 x_1)), (.ptr b_2 o_2), (.ptr b_4 o_4), (.ptr b_5 o_5)]) m') := by
  kernel_rfl

theorem loop14_16 (x_1 : Int) (b_2 o_2 : Nat) (b_4 o_4 : Nat) (b_5 o_5 : Nat) (k : KX) : ∀ (N : Nat) (x_7 : Int) (m : Mem), rounds Try.prog E14 Lam14 [1, 2, 4, 5, 7] lx14_16 ((loopsOf (bodyOf Try.f14)).getD 1 .skip) N [(.flat (.int .i64 x_1)), (.ptr b_2 o_2), (.ptr b_4 o_4), (.ptr b_5 o_5), (.flat (.int .i64 x_7))] m k = L14_16 x_1 b_2 o_2 b_4 o_4 b_5 o_5 N x_7 m (fun m' => k (.exit 2) (only [1, 2, 4, 5] [(.flat (.int .i64 x_1)), (.ptr b_2 o_2), (.ptr b_4 o_4), (.ptr b_5 o_5)]) m') := by
  intro N
  induction N with
  | zero => intros; rfl
  | succ N ih =>
    intro x_7 m
    refine (round14_16 x_1 b_2 o_2 b_4 o_4 b_5 o_5 x_7 m (fun vs m' => rounds Try.prog E14 Lam14 [1, 2, 4, 5, 7] lx14_16 ((loopsOf (bodyOf Try.f14)).getD 1 .skip) N vs m' k) k).trans ?_
    simp only [ih]
    rfl

theorem lok14_16 : LoopOK Try.prog E14 Lam14 ((loopsOf (bodyOf Try.f14)).getD 1 .skip) := by
  refine ⟨fun σ => ∃ x_1 b_2 o_2 b_4 o_4 b_5 o_5 x_7, σ 1 = .flat (.int .i64 x_1) ∧ σ 2 = .ptr b_2 o_2 ∧ σ 4 = .ptr b_4 o_4 ∧ σ 5 = .ptr b_5 o_5 ∧ σ 7 = .flat (.int .i64 x_7), [1, 2, 4, 5, 7], lx14_16, fun σ m k => ?_⟩
  have e : Lam14.loop ((loopsOf (bodyOf Try.f14)).getD 1 .skip) σ m k = Lam14_16 σ m k := by kernel_rfl
  rw [e]
  constructor
  · intro h
    unfold Lam14_16 at h
    obtain ⟨x_1, h0, h⟩ := kI_ok h
    obtain ⟨b_2, o_2, h1, h⟩ := kptr_ok h
    obtain ⟨b_4, o_4, h2, h⟩ := kptr_ok h
    obtain ⟨b_5, o_5, h3, h⟩ := kptr_ok h
    obtain ⟨x_7, h4, h⟩ := kI_ok h
    obtain ⟨N, h⟩ := h
    refine ⟨⟨x_1, b_2, o_2, b_4, o_4, b_5, o_5, x_7, h0, h1, h2, h3, h4⟩, N, ?_⟩
    have ev : [1, 2, 4, 5, 7].map σ = [(.flat (.int .i64 x_1)), (.ptr b_2 o_2), (.ptr b_4 o_4), (.ptr b_5 o_5), (.flat (.int .i64 x_7))] := by simp only [List.map_cons, List.map_nil, h0, h1, h2, h3, h4]
    rw [ev, loop14_16]
    exact h
  · rintro ⟨⟨x_1, b_2, o_2, b_4, o_4, b_5, o_5, x_7, h0, h1, h2, h3, h4⟩, N, h⟩
    have ev : [1, 2, 4, 5, 7].map σ = [(.flat (.int .i64 x_1)), (.ptr b_2 o_2), (.ptr b_4 o_4), (.ptr b_5 o_5), (.flat (.int .i64 x_7))] := by simp only [List.map_cons, List.map_nil, h0, h1, h2, h3, h4]
    rw [ev, loop14_16] at h
    unfold Lam14_16
    try simp only [h0, h1, h2, h3, h4, kI, kbool, kS, kptr, kaggN, kite, decide_true, eq_self]
    exact ⟨N, h⟩

def lxp14_10102 : Ex → List Nat := fun e => match e with
  | .ret => [4]
  | _ => []

theorem pc14_10102 (x_1 : Int) (b_2 o_2 : Nat) (b_4 o_4 : Nat) (b_5 o_5 : Nat) (m : Mem) (k : KX) : once Try.prog E14 Lam14 [1, 2, 4, 5] lxp14_10102 (((secsOf (bodyOf Try.f14)).filter Lam14.cut).getD 0 .skip) [(.flat (.int .i64 x_1)), (.ptr b_2 o_2), (.ptr b_4 o_4), (.ptr b_5 o_5)] m k = P14_10102 x_1 b_2 o_2 b_4 o_4 b_5 o_5 m (fun m' => k .ret (only [4] [(.ptr b_4 o_4)]) m') := by
  kernel_rfl

theorem pok14_10102 : PieceOK Try.prog E14 Lam14 (((secsOf (bodyOf Try.f14)).filter Lam14.cut).getD 0 .skip) := by
  refine ⟨fun σ => ∃ x_1 b_2 o_2 b_4 o_4 b_5 o_5, σ 1 = .flat (.int .i64 x_1) ∧ σ 2 = .ptr b_2 o_2 ∧ σ 4 = .ptr b_4 o_4 ∧ σ 5 = .ptr b_5 o_5, [1, 2, 4, 5], lxp14_10102, fun σ m k => ?_⟩
  have e : Lam14.piece (((secsOf (bodyOf Try.f14)).filter Lam14.cut).getD 0 .skip) σ m k = LamP14_10102 σ m k := by kernel_rfl
  rw [e]
  constructor
  · intro h
    unfold LamP14_10102 at h
    obtain ⟨x_1, h0, h⟩ := kI_ok h
    obtain ⟨b_2, o_2, h1, h⟩ := kptr_ok h
    obtain ⟨b_4, o_4, h2, h⟩ := kptr_ok h
    obtain ⟨b_5, o_5, h3, h⟩ := kptr_ok h
    refine ⟨⟨x_1, b_2, o_2, b_4, o_4, b_5, o_5, h0, h1, h2, h3⟩, ?_⟩
    have ev : [1, 2, 4, 5].map σ = [(.flat (.int .i64 x_1)), (.ptr b_2 o_2), (.ptr b_4 o_4), (.ptr b_5 o_5)] := by simp only [List.map_cons, List.map_nil, h0, h1, h2, h3]
    rw [ev, pc14_10102]
    exact h
  · rintro ⟨⟨x_1, b_2, o_2, b_4, o_4, b_5, o_5, h0, h1, h2, h3⟩, h⟩
    have ev : [1, 2, 4, 5].map σ = [(.flat (.int .i64 x_1)), (.ptr b_2 o_2), (.ptr b_4 o_4), (.ptr b_5 o_5)] := by simp only [List.map_cons, List.map_nil, h0, h1, h2, h3]
    rw [ev, pc14_10102] at h
    unfold LamP14_10102
    try simp only [h0, h1, h2, h3, kI, kbool, kS, kptr, kaggN, kite, decide_true, eq_self]
    exact h

def lx14_3 : Ex → List Nat := fun e => match e with
  | .exit 0 => [1, 2, 4, 5]
  | _ => []

theorem round14_3 (x_1 : Int) (b_2 o_2 : Nat) (b_4 o_4 : Nat) (b_5 o_5 : Nat) (x_6 : Int) (m : Mem) (G : List AV → Mem → Prop) (k : KX) : (wpA Try.prog E14 Lam14 ((loopsOf (bodyOf Try.f14)).getD 0 .skip) (only [1, 2, 4, 5, 6] [(.flat (.int .i64 x_1)), (.ptr b_2 o_2), (.ptr b_4 o_4), (.ptr b_5 o_5), (.flat (.int .i64 x_6))]) m fun e σ' m' => match e with
    | .normal => G ([1, 2, 4, 5, 6].map σ') m'
    | .exit id => k (.exit id) (only (lx14_3 (.exit id)) ((lx14_3 (.exit id)).map σ')) m'
    | .ret => k .ret (only (lx14_3 .ret) ((lx14_3 .ret).map σ')) m') = R14_3 x_1 b_2 o_2 b_4 o_4 b_5 o_5 x_6 m (fun x_6' m' => G [(.flat (.int .i64 x_1)), (.ptr b_2 o_2), (.ptr b_4 o_4), (.ptr b_5 o_5), (.flat (.int .i64 x_6'))] m') (fun m' => k (.exit 0) (only [1, 2, 4, 5] [(.flat (.int .i64 x_1)), (.ptr b_2 o_2), (.ptr b_4 o_4), (.ptr b_5 o_5)]) m') := by
  kernel_rfl

theorem loop14_3 (x_1 : Int) (b_2 o_2 : Nat) (b_4 o_4 : Nat) (b_5 o_5 : Nat) (k : KX) : ∀ (N : Nat) (x_6 : Int) (m : Mem), rounds Try.prog E14 Lam14 [1, 2, 4, 5, 6] lx14_3 ((loopsOf (bodyOf Try.f14)).getD 0 .skip) N [(.flat (.int .i64 x_1)), (.ptr b_2 o_2), (.ptr b_4 o_4), (.ptr b_5 o_5), (.flat (.int .i64 x_6))] m k = L14_3 x_1 b_2 o_2 b_4 o_4 b_5 o_5 N x_6 m (fun m' => k (.exit 0) (only [1, 2, 4, 5] [(.flat (.int .i64 x_1)), (.ptr b_2 o_2), (.ptr b_4 o_4), (.ptr b_5 o_5)]) m') := by
  intro N
  induction N with
  | zero => intros; rfl
  | succ N ih =>
    intro x_6 m
    refine (round14_3 x_1 b_2 o_2 b_4 o_4 b_5 o_5 x_6 m (fun vs m' => rounds Try.prog E14 Lam14 [1, 2, 4, 5, 6] lx14_3 ((loopsOf (bodyOf Try.f14)).getD 0 .skip) N vs m' k) k).trans ?_
    simp only [ih]
    rfl

theorem lok14_3 : LoopOK Try.prog E14 Lam14 ((loopsOf (bodyOf Try.f14)).getD 0 .skip) := by
  refine ⟨fun σ => ∃ x_1 b_2 o_2 b_4 o_4 b_5 o_5 x_6, σ 1 = .flat (.int .i64 x_1) ∧ σ 2 = .ptr b_2 o_2 ∧ σ 4 = .ptr b_4 o_4 ∧ σ 5 = .ptr b_5 o_5 ∧ σ 6 = .flat (.int .i64 x_6), [1, 2, 4, 5, 6], lx14_3, fun σ m k => ?_⟩
  have e : Lam14.loop ((loopsOf (bodyOf Try.f14)).getD 0 .skip) σ m k = Lam14_3 σ m k := by kernel_rfl
  rw [e]
  constructor
  · intro h
    unfold Lam14_3 at h
    obtain ⟨x_1, h0, h⟩ := kI_ok h
    obtain ⟨b_2, o_2, h1, h⟩ := kptr_ok h
    obtain ⟨b_4, o_4, h2, h⟩ := kptr_ok h
    obtain ⟨b_5, o_5, h3, h⟩ := kptr_ok h
    obtain ⟨x_6, h4, h⟩ := kI_ok h
    obtain ⟨N, h⟩ := h
    refine ⟨⟨x_1, b_2, o_2, b_4, o_4, b_5, o_5, x_6, h0, h1, h2, h3, h4⟩, N, ?_⟩
    have ev : [1, 2, 4, 5, 6].map σ = [(.flat (.int .i64 x_1)), (.ptr b_2 o_2), (.ptr b_4 o_4), (.ptr b_5 o_5), (.flat (.int .i64 x_6))] := by simp only [List.map_cons, List.map_nil, h0, h1, h2, h3, h4]
    rw [ev, loop14_3]
    exact h
  · rintro ⟨⟨x_1, b_2, o_2, b_4, o_4, b_5, o_5, x_6, h0, h1, h2, h3, h4⟩, N, h⟩
    have ev : [1, 2, 4, 5, 6].map σ = [(.flat (.int .i64 x_1)), (.ptr b_2 o_2), (.ptr b_4 o_4), (.ptr b_5 o_5), (.flat (.int .i64 x_6))] := by simp only [List.map_cons, List.map_nil, h0, h1, h2, h3, h4]
    rw [ev, loop14_3] at h
    unfold Lam14_3
    try simp only [h0, h1, h2, h3, h4, kI, kbool, kS, kptr, kaggN, kite, decide_true, eq_self]
    exact ⟨N, h⟩

theorem eqn14 (c_0 : Nat → AV) (x_1 : Int) (m : Mem) (k : KV) : bodyK Try.prog E14 Lam14 Try.f14 true [(.agg 11 c_0), (.flat (.int .i64 x_1))] m k = F14 c_0 x_1 m (fun c_1000 m' => k (.agg 73 c_1000) m') := by
  kernel_rfl

theorem fs14 (w0 : World) : FS Try.prog w0 14 G14 := by
  refine (fs_body (Γ := E14) (sound_env (l := [(22, G22), (23, G23)]) w0 (by
    intro p hp
    simp only [List.mem_cons, List.not_mem_nil, or_false] at hp
    rcases hp with rfl | rfl
    · exact fs22 w0
    · exact fs23 w0)) (by kernel_rfl) Try.func14 (Λ := Lam14) (c := (bodyOf Try.f14)) (by kernel_rfl) Try.call14 (by kernel_rfl) (LS_of (bodyOf Try.f14) 3 (by kernel_rfl) (by
    intro i hi
    match i, hi with
    | 0, _ => exact lok14_3
    | 1, _ => exact lok14_16
    | 2, _ => exact lok14_20
    | i + 3, hi => omega) 1 (by kernel_rfl) (by
    intro i hi
    match i, hi with
    | 0, _ => exact pok14_10102
    | i + 1, hi => omega)) true (np := 2) (Nat.le_of_ble_eq_true (by kernel_rfl))).imp fun args => ?_
  by_cases hl : args.length = 2
  rotate_left
  · exact .inr fun m k hk => by
      unfold G14 at hk
      split at hk
      · exact hl rfl
      · exact hk
  obtain ⟨a0, a1, rfl⟩ : ∃ a0 a1, args = [a0, a1] := len_list2 hl
  rcases kaggN_or 11 a0 with ⟨c_0, rfl⟩ | h
  rotate_left
  · exact .inr fun m k hk => h _ (by simpa only [G14, kI, kbool, kS, kptr, kaggN, kite, decide_true, eq_self] using hk)
  rcases kI_or .i64 a1 with ⟨x_1, rfl⟩ | h
  rotate_left
  · exact .inr fun m k hk => h _ (by simpa only [G14, kI, kbool, kS, kptr, kaggN, kite, decide_true, eq_self] using hk)
  exact .inl fun m k => propext ⟨fun h => ⟨rfl, by rw [eqn14]; simpa only [G14, kI, kbool, kS, kptr, kaggN, kite, decide_true, eq_self] using h⟩, fun h => by have h := h.2; rw [eqn14] at h; simpa only [G14, kI, kbool, kS, kptr, kaggN, kite, decide_true, eq_self] using h⟩

def E4 : Env := envOf [(8, G8), (9, G9), (10, G10), (11, G11), (12, G12), (13, G13), (14, G14)]

def P4_5102 (b_7 o_7 : Nat) (b_8 o_8 : Nat) (m : Mem) (kr : Bool → Mem → Prop) : Prop :=
  ∃ Fr22 : Nat → Prop, Fr22 b_7 ∧ (ldG 73 m b_7 o_7 fun c23 => F8 c23 m fun x24 m25 => KeepsIn Fr22 m m25 ∧ (kif x24 (Fr22 b_8 ∧ (ldG 73 m25 b_8 o_8 fun c26 => F8 c26 m25 fun x27 m28 => KeepsIn Fr22 m25 m28 ∧ (kif x27 (Fr22 b_7 ∧ (ldG 73 m28 b_7 o_7 fun c29 => Fr22 b_8 ∧ (ldG 73 m28 b_8 o_8 fun c30 => F9 c29 c30 m28 fun x31 m32 => KeepsIn Fr22 m28 m32 ∧ (Fr22 b_7 ∧ (ldG 73 m32 b_7 o_7 fun c33 => Fr22 b_8 ∧ (ldG 73 m32 b_8 o_8 fun c34 => geq K33 c33 c34 fun x35 => kif (x31 == x35) (Fr22 b_7 ∧ (ldG 73 m32 b_7 o_7 fun c36 => Fr22 b_8 ∧ (ldG 73 m32 b_8 o_8 fun c37 => F11 c36 c37 m32 fun v38 m39 => KeepsIn Fr22 m32 m39 ∧ (Fr22 b_7 ∧ (ldG 73 m39 b_7 o_7 fun c40 => Fr22 b_8 ∧ (ldG 73 m39 b_8 o_8 fun c41 => F12 c40 c41 m39 fun v42 m43 => KeepsIn Fr22 m39 m43 ∧ (F10 v38 v42 m43 fun x44 m45 => KeepsIn Fr22 m43 m45 ∧ (kif x44 (F13  m45 fun x46 m47 => KeepsIn Fr22 m45 m47 ∧ (kr x46 m47)) (kr false m45))))))))) (kr false m32))))))) (kr false m28)))) (kr false m25)))

/-- pianola/pianolalaw27.AuditTells -/
def F4 (c_0 : Nat → AV) (c_1 : Nat → AV) (x_2 : Int) (m : Mem) (k : Bool → Mem → Prop) : Prop :=
  newK m ⟨11, c_0, 44, false⟩ fun b2 m1 => newK m1 ⟨11, c_1, 44, false⟩ fun b4 m3 => ∃ Fr5 : Nat → Prop, Fr5 b2 ∧ (ldG 11 m3 b2 0 fun c6 => F14 c6 5 m3 fun c7 m8 => KeepsIn Fr5 m3 m8 ∧ (Fr5 b4 ∧ (ldG 11 m8 b4 0 fun c9 => F14 c9 5 m8 fun c10 m11 => KeepsIn Fr5 m8 m11 ∧ (newK m11 ⟨73, Z73, 33, false⟩ fun b13 m12 => newK m12 ⟨73, Z73, 33, false⟩ fun b15 m14 => stG 73 m14 b13 0 c7 fun m16 => KeepsIn Fr5 m14 m16 ∧ (stG 73 m16 b15 0 c10 fun m17 => KeepsIn Fr5 m16 m17 ∧ (kif ((x_2.tmod 3) == 0) (ldG 73 m17 b13 0 fun c18 => stG 73 m17 b15 0 c18 fun m19 => kif (decide (0 ≤ IntKind.wrap .i64 (1 + (bits .and .i64 x_2 15))) && decide (IntKind.wrap .i64 (1 + (bits .and .i64 x_2 15)) < 32)) (ldI .u32 m19 b15 (0 + (IntKind.wrap .i64 (1 + (bits .and .i64 x_2 15))).toNat * 1) fun x20 => kif (decide (0 ≤ IntKind.wrap .i64 (1 + (bits .and .i64 x_2 15))) && decide (IntKind.wrap .i64 (1 + (bits .and .i64 x_2 15)) < 32)) (stC m19 b15 (0 + (IntKind.wrap .i64 (1 + (bits .and .i64 x_2 15))).toNat * 1) (.flat (.int .u32 (bits .xor .u32 x20 1))) fun m21 => P4_5102 b13 0 b15 0 m21 (fun x48 m49 => k x48 m49)) False) False) (P4_5102 b13 0 b15 0 m17 (fun x50 m51 => k x50 m51))))))))

def G4 (args : List AV) (m : Mem) (k : KV) : Prop := match args with
  | [a0, a1, a2] => kaggN 11 a0 fun c_0 => kaggN 11 a1 fun c_1 => kI .i64 a2 fun x_2 => F4 c_0 c_1 x_2 m (fun x_1000 m' => k (.flat (.bool x_1000)) m')
  | _ => False

def LamP4_5102 (σ : Nat → AV) (m : Mem) (k : KX) : Prop := kptr (σ 7) fun b_7 o_7 => kptr (σ 8) fun b_8 o_8 => P4_5102 b_7 o_7 b_8 o_8 m (fun x_6' m' => k .ret (only [6] [(.flat (.bool x_6'))]) m')

def Lam4 : LEnv := ⟨fun a σ m k => match firstReg a with
  | _ => bump False,
  fun id => match id with
  | 1 => true
  | 5 => true
  | _ => bump false,
  fun b => match keyC b with
  | some 5102 => true
  | _ => bump false,
  fun b σ m k => match keyC b with
  | some 5102 => LamP4_5102 σ m k
  | _ => bump False⟩

def lxp4_5102 : Ex → List Nat := fun e => match e with
  | .ret => [6]
  | _ => []

theorem pc4_5102 (b_7 o_7 : Nat) (b_8 o_8 : Nat) (m : Mem) (k : KX) : once Try.prog E4 Lam4 [7, 8] lxp4_5102 (((secsOf (bodyOf Try.f4)).filter Lam4.cut).getD 0 .skip) [(.ptr b_7 o_7), (.ptr b_8 o_8)] m k = P4_5102 b_7 o_7 b_8 o_8 m (fun x_6' m' => k .ret (only [6] [(.flat (.bool x_6'))]) m') := by
  kernel_rfl

theorem pok4_5102 : PieceOK Try.prog E4 Lam4 (((secsOf (bodyOf Try.f4)).filter Lam4.cut).getD 0 .skip) := by
  refine ⟨fun σ => ∃ b_7 o_7 b_8 o_8, σ 7 = .ptr b_7 o_7 ∧ σ 8 = .ptr b_8 o_8, [7, 8], lxp4_5102, fun σ m k => ?_⟩
  have e : Lam4.piece (((secsOf (bodyOf Try.f4)).filter Lam4.cut).getD 0 .skip) σ m k = LamP4_5102 σ m k := by kernel_rfl
  rw [e]
  constructor
  · intro h
    unfold LamP4_5102 at h
    obtain ⟨b_7, o_7, h0, h⟩ := kptr_ok h
    obtain ⟨b_8, o_8, h1, h⟩ := kptr_ok h
    refine ⟨⟨b_7, o_7, b_8, o_8, h0, h1⟩, ?_⟩
    have ev : [7, 8].map σ = [(.ptr b_7 o_7), (.ptr b_8 o_8)] := by simp only [List.map_cons, List.map_nil, h0, h1]
    rw [ev, pc4_5102]
    exact h
  · rintro ⟨⟨b_7, o_7, b_8, o_8, h0, h1⟩, h⟩
    have ev : [7, 8].map σ = [(.ptr b_7 o_7), (.ptr b_8 o_8)] := by simp only [List.map_cons, List.map_nil, h0, h1]
    rw [ev, pc4_5102] at h
    unfold LamP4_5102
    try simp only [h0, h1, kI, kbool, kS, kptr, kaggN, kite, decide_true, eq_self]
    exact h

theorem eqn4 (c_0 : Nat → AV) (c_1 : Nat → AV) (x_2 : Int) (m : Mem) (k : KV) : bodyK Try.prog E4 Lam4 Try.f4 false [(.agg 11 c_0), (.agg 11 c_1), (.flat (.int .i64 x_2))] m k = F4 c_0 c_1 x_2 m (fun x_1000 m' => k (.flat (.bool x_1000)) m') := by
  kernel_rfl

theorem fs4 (w0 : World) : FS Try.prog w0 4 G4 := by
  refine (fs_body (Γ := E4) (sound_env (l := [(8, G8), (9, G9), (10, G10), (11, G11), (12, G12), (13, G13), (14, G14)]) w0 (by
    intro p hp
    simp only [List.mem_cons, List.not_mem_nil, or_false] at hp
    rcases hp with rfl | rfl | rfl | rfl | rfl | rfl | rfl
    · exact fs8 w0
    · exact fs9 w0
    · exact fs10 w0
    · exact fs11 w0
    · exact fs12 w0
    · exact fs13 w0
    · exact fs14 w0)) (by kernel_rfl) Try.func4 (Λ := Lam4) (c := (bodyOf Try.f4)) (by kernel_rfl) Try.call4 (by kernel_rfl) (LS_of (bodyOf Try.f4) 0 (by kernel_rfl) (fun i hi => absurd hi (Nat.not_lt_zero i)) 1 (by kernel_rfl) (by
    intro i hi
    match i, hi with
    | 0, _ => exact pok4_5102
    | i + 1, hi => omega)) false (np := 3) (Nat.le_of_ble_eq_true (by kernel_rfl))).imp fun args => ?_
  by_cases hl : args.length = 3
  rotate_left
  · exact .inr fun m k hk => by
      unfold G4 at hk
      split at hk
      · exact hl rfl
      · exact hk
  obtain ⟨a0, a1, a2, rfl⟩ : ∃ a0 a1 a2, args = [a0, a1, a2] := len_list3 hl
  rcases kaggN_or 11 a0 with ⟨c_0, rfl⟩ | h
  rotate_left
  · exact .inr fun m k hk => h _ (by simpa only [G4, kI, kbool, kS, kptr, kaggN, kite, decide_true, eq_self] using hk)
  rcases kaggN_or 11 a1 with ⟨c_1, rfl⟩ | h
  rotate_left
  · exact .inr fun m k hk => h _ (by simpa only [G4, kI, kbool, kS, kptr, kaggN, kite, decide_true, eq_self] using hk)
  rcases kI_or .i64 a2 with ⟨x_2, rfl⟩ | h
  rotate_left
  · exact .inr fun m k hk => h _ (by simpa only [G4, kI, kbool, kS, kptr, kaggN, kite, decide_true, eq_self] using hk)
  exact .inl fun m k => propext ⟨fun h => ⟨rfl, by rw [eqn4]; simpa only [G4, kI, kbool, kS, kptr, kaggN, kite, decide_true, eq_self] using h⟩, fun h => by have h := h.2; rw [eqn4] at h; simpa only [G4, kI, kbool, kS, kptr, kaggN, kite, decide_true, eq_self] using h⟩

def E15 : Env := envOf []

def P15_3102 (x_0 : Int) (x_1 : Int) (x_2 : Int) (m : Mem) (kr : Int → Mem → Prop) : Prop :=
  kif (decide (IntKind.wrap .i64 ((IntKind.wrap .i64 (x_2 - x_1)) + 1) = 0)) False (kif (decide ((x_0.tmod (IntKind.wrap .i64 ((IntKind.wrap .i64 (x_2 - x_1)) + 1))) < 0)) (kr (IntKind.wrap .i64 (x_1 + (IntKind.wrap .i64 ((IntKind.wrap .i64 ((IntKind.wrap .i64 ((x_0.tmod (IntKind.wrap .i64 ((IntKind.wrap .i64 (x_2 - x_1)) + 1))) + x_2)) - x_1)) + 1)))) m) (kr (IntKind.wrap .i64 (x_1 + (x_0.tmod (IntKind.wrap .i64 ((IntKind.wrap .i64 (x_2 - x_1)) + 1))))) m))

/-- pianola/pianolabook.Within -/
def F15 (x_0 : Int) (x_1 : Int) (x_2 : Int) (m : Mem) (k : Int → Mem → Prop) : Prop :=
  kif (decide (x_0 ≥ x_1)) (kif (decide (x_0 ≤ x_2)) ((Keeps m m ∧ k x_0 m)) (P15_3102 x_0 x_1 x_2 m (fun x1 m2 => (Keeps m m2 ∧ k x1 m)))) (P15_3102 x_0 x_1 x_2 m (fun x3 m4 => (Keeps m m4 ∧ k x3 m)))

def G15 (args : List AV) (m : Mem) (k : KV) : Prop := match args with
  | [a0, a1, a2] => kI .i64 a0 fun x_0 => kI .i64 a1 fun x_1 => kI .i64 a2 fun x_2 => F15 x_0 x_1 x_2 m (fun x_1000 m' => k (.flat (.int .i64 x_1000)) m')
  | _ => False

def LamP15_3102 (σ : Nat → AV) (m : Mem) (k : KX) : Prop := kI .i64 (σ 0) fun x_0 => kI .i64 (σ 1) fun x_1 => kI .i64 (σ 2) fun x_2 => P15_3102 x_0 x_1 x_2 m (fun x_6' m' => k .ret (only [6] [(.flat (.int .i64 x_6'))]) m')

def Lam15 : LEnv := ⟨fun a σ m k => match firstReg a with
  | _ => bump False,
  fun id => match id with
  | _ => bump false,
  fun b => match keyC b with
  | some 3102 => true
  | _ => bump false,
  fun b σ m k => match keyC b with
  | some 3102 => LamP15_3102 σ m k
  | _ => bump False⟩

def lxp15_3102 : Ex → List Nat := fun e => match e with
  | .ret => [6]
  | _ => []

theorem pc15_3102 (x_0 : Int) (x_1 : Int) (x_2 : Int) (m : Mem) (k : KX) : once Try.prog E15 Lam15 [0, 1, 2] lxp15_3102 (((secsOf (bodyOf Try.f15)).filter Lam15.cut).getD 0 .skip) [(.flat (.int .i64 x_0)), (.flat (.int .i64 x_1)), (.flat (.int .i64 x_2))] m k = P15_3102 x_0 x_1 x_2 m (fun x_6' m' => k .ret (only [6] [(.flat (.int .i64 x_6'))]) m') := by
  kernel_rfl

theorem pok15_3102 : PieceOK Try.prog E15 Lam15 (((secsOf (bodyOf Try.f15)).filter Lam15.cut).getD 0 .skip) := by
  refine ⟨fun σ => ∃ x_0 x_1 x_2, σ 0 = .flat (.int .i64 x_0) ∧ σ 1 = .flat (.int .i64 x_1) ∧ σ 2 = .flat (.int .i64 x_2), [0, 1, 2], lxp15_3102, fun σ m k => ?_⟩
  have e : Lam15.piece (((secsOf (bodyOf Try.f15)).filter Lam15.cut).getD 0 .skip) σ m k = LamP15_3102 σ m k := by kernel_rfl
  rw [e]
  constructor
  · intro h
    unfold LamP15_3102 at h
    obtain ⟨x_0, h0, h⟩ := kI_ok h
    obtain ⟨x_1, h1, h⟩ := kI_ok h
    obtain ⟨x_2, h2, h⟩ := kI_ok h
    refine ⟨⟨x_0, x_1, x_2, h0, h1, h2⟩, ?_⟩
    have ev : [0, 1, 2].map σ = [(.flat (.int .i64 x_0)), (.flat (.int .i64 x_1)), (.flat (.int .i64 x_2))] := by simp only [List.map_cons, List.map_nil, h0, h1, h2]
    rw [ev, pc15_3102]
    exact h
  · rintro ⟨⟨x_0, x_1, x_2, h0, h1, h2⟩, h⟩
    have ev : [0, 1, 2].map σ = [(.flat (.int .i64 x_0)), (.flat (.int .i64 x_1)), (.flat (.int .i64 x_2))] := by simp only [List.map_cons, List.map_nil, h0, h1, h2]
    rw [ev, pc15_3102] at h
    unfold LamP15_3102
    try simp only [h0, h1, h2, kI, kbool, kS, kptr, kaggN, kite, decide_true, eq_self]
    exact h

theorem eqn15 (x_0 : Int) (x_1 : Int) (x_2 : Int) (m : Mem) (k : KV) : bodyK Try.prog E15 Lam15 Try.f15 true [(.flat (.int .i64 x_0)), (.flat (.int .i64 x_1)), (.flat (.int .i64 x_2))] m k = F15 x_0 x_1 x_2 m (fun x_1000 m' => k (.flat (.int .i64 x_1000)) m') := by
  kernel_rfl

theorem fs15 (w0 : World) : FS Try.prog w0 15 G15 := by
  refine (fs_body (Γ := E15) (sound_env (l := []) w0 (by
    intro p hp
    cases hp)) (by kernel_rfl) Try.func15 (Λ := Lam15) (c := (bodyOf Try.f15)) (by kernel_rfl) Try.call15 (by kernel_rfl) (LS_of (bodyOf Try.f15) 0 (by kernel_rfl) (fun i hi => absurd hi (Nat.not_lt_zero i)) 1 (by kernel_rfl) (by
    intro i hi
    match i, hi with
    | 0, _ => exact pok15_3102
    | i + 1, hi => omega)) true (np := 3) (Nat.le_of_ble_eq_true (by kernel_rfl))).imp fun args => ?_
  by_cases hl : args.length = 3
  rotate_left
  · exact .inr fun m k hk => by
      unfold G15 at hk
      split at hk
      · exact hl rfl
      · exact hk
  obtain ⟨a0, a1, a2, rfl⟩ : ∃ a0 a1 a2, args = [a0, a1, a2] := len_list3 hl
  rcases kI_or .i64 a0 with ⟨x_0, rfl⟩ | h
  rotate_left
  · exact .inr fun m k hk => h _ (by simpa only [G15, kI, kbool, kS, kptr, kaggN, kite, decide_true, eq_self] using hk)
  rcases kI_or .i64 a1 with ⟨x_1, rfl⟩ | h
  rotate_left
  · exact .inr fun m k hk => h _ (by simpa only [G15, kI, kbool, kS, kptr, kaggN, kite, decide_true, eq_self] using hk)
  rcases kI_or .i64 a2 with ⟨x_2, rfl⟩ | h
  rotate_left
  · exact .inr fun m k hk => h _ (by simpa only [G15, kI, kbool, kS, kptr, kaggN, kite, decide_true, eq_self] using hk)
  exact .inl fun m k => propext ⟨fun h => ⟨rfl, by rw [eqn15]; simpa only [G15, kI, kbool, kS, kptr, kaggN, kite, decide_true, eq_self] using h⟩, fun h => by have h := h.2; rw [eqn15] at h; simpa only [G15, kI, kbool, kS, kptr, kaggN, kite, decide_true, eq_self] using h⟩

def E5 : Env := envOf [(9, G9), (10, G10), (11, G11), (13, G13), (14, G14), (15, G15)]

def P5_16102 (b_7 o_7 : Nat) (b_8 o_8 : Nat) (x_9 : Int) (m : Mem) (kr : Bool → Mem → Prop) : Prop :=
  ldG 73 m b_7 o_7 fun c27 => ldG 73 m b_8 o_8 fun c28 => F11 c27 c28 m fun v29 m30 => newK m30 ⟨1, upd (lget [(.flat (.int .i64 0))]) 0 (.flat (.int .i64 x_9)), 3, false⟩ fun b32 m31 => F10 v29 (.sl b32 0 1 (.ex 1)) m31 fun x33 m34 => kif x33 (ldG 73 m34 b_8 o_8 fun c35 => ldG 73 m34 b_7 o_7 fun c36 => F11 c35 c36 m34 fun v37 m38 => newK m38 ⟨1, upd (lget [(.flat (.int .i64 0))]) 0 (.flat (.int .i64 x_9)), 3, false⟩ fun b40 m39 => F10 v37 (.sl b40 0 1 (.ex 1)) m39 fun x41 m42 => kif x41 (ldG 73 m42 b_7 o_7 fun c43 => ldG 73 m42 b_8 o_8 fun c44 => F9 c43 c44 m42 fun x45 m46 => kif (!x45) (ldG 73 m46 b_7 o_7 fun c47 => ldG 73 m46 b_7 o_7 fun c48 => F9 c47 c48 m46 fun x49 m50 => kif x49 (ldG 73 m50 b_7 o_7 fun c51 => ldG 73 m50 b_7 o_7 fun c52 => F11 c51 c52 m50 fun v53 m54 => klen v53 fun x55 => kif (x55 == 0) (F13  m54 fun x56 m57 => kr x56 m57) (kr false m54)) (kr false m50)) (kr false m46)) (kr false m42)) (kr false m34)

/-- pianola/pianolalaw27.AuditTurned -/
def F5 (c_0 : Nat → AV) (x_1 : Int) (x_2 : Int) (m : Mem) (k : Bool → Mem → Prop) : Prop :=
  newK m ⟨11, c_0, 44, false⟩ fun b2 m1 => ldG 11 m1 b2 0 fun c3 => F14 c3 3 m1 fun c4 m5 => newK m5 ⟨73, Z73, 33, false⟩ fun b7 m6 => stG 73 m6 b7 0 c4 fun m8 => ldG 73 m8 b7 0 fun c9 => newK m8 ⟨73, Z73, 33, false⟩ fun b11 m10 => stG 73 m10 b11 0 c9 fun m12 => F15 x_1 0 36 m12 fun x13 m14 => kif (decide (x13 < 32)) (kif (decide (0 ≤ x13) && decide (x13 < 32)) (ldI .u32 m14 b11 (0 + (x13).toNat * 1) fun x15 => kif (decide (0 ≤ x13) && decide (x13 < 32)) (stC m14 b11 (0 + (x13).toNat * 1) (.flat (.int .u32 (bits .xor .u32 x15 (bits .or .u32 x_2 1)))) fun m16 => P5_16102 b7 0 b11 0 x13 m16 (fun x58 m59 => k x58 m59)) False) False) (kif (x13 == 32) (ldI .u32 m14 b11 32 fun x17 => stC m14 b11 32 (.flat (.int .u32 (bits .xor .u32 x17 (bits .or .u32 x_2 1)))) fun m18 => P5_16102 b7 0 b11 0 x13 m18 (fun x60 m61 => k x60 m61)) (kif (x13 == 33) (ldI .u32 m14 b11 33 fun x19 => stC m14 b11 33 (.flat (.int .u32 (bits .xor .u32 x19 (bits .or .u32 x_2 1)))) fun m20 => P5_16102 b7 0 b11 0 x13 m20 (fun x62 m63 => k x62 m63)) (kif (x13 == 34) (ldI .u32 m14 b11 34 fun x21 => stC m14 b11 34 (.flat (.int .u32 (bits .xor .u32 x21 (bits .or .u32 x_2 1)))) fun m22 => P5_16102 b7 0 b11 0 x13 m22 (fun x64 m65 => k x64 m65)) (kif (x13 == 35) (ldI .u32 m14 b11 35 fun x23 => stC m14 b11 35 (.flat (.int .u32 (bits .xor .u32 x23 (bits .or .u32 x_2 1)))) fun m24 => P5_16102 b7 0 b11 0 x13 m24 (fun x66 m67 => k x66 m67)) (kif (decide (0 ≤ bits .and .u32 x_2 7) && decide (bits .and .u32 x_2 7 < 8)) (ldI .u32 m14 b11 (55 + (bits .and .u32 x_2 7).toNat * 2 + 1) fun x25 => kif (decide (0 ≤ bits .and .u32 x_2 7) && decide (bits .and .u32 x_2 7 < 8)) (stC m14 b11 (55 + (bits .and .u32 x_2 7).toNat * 2 + 1) (.flat (.int .u32 (bits .xor .u32 x25 (bits .or .u32 x_2 1)))) fun m26 => P5_16102 b7 0 b11 0 x13 m26 (fun x68 m69 => k x68 m69)) False) False)))))

def G5 (args : List AV) (m : Mem) (k : KV) : Prop := match args with
  | [a0, a1, a2] => kaggN 11 a0 fun c_0 => kI .i64 a1 fun x_1 => kI .u32 a2 fun x_2 => F5 c_0 x_1 x_2 m (fun x_1000 m' => k (.flat (.bool x_1000)) m')
  | _ => False

def LamP5_16102 (σ : Nat → AV) (m : Mem) (k : KX) : Prop := kptr (σ 7) fun b_7 o_7 => kptr (σ 8) fun b_8 o_8 => kI .i64 (σ 9) fun x_9 => P5_16102 b_7 o_7 b_8 o_8 x_9 m (fun x_6' m' => k .ret (only [6] [(.flat (.bool x_6'))]) m')

def Lam5 : LEnv := ⟨fun a σ m k => match firstReg a with
  | _ => bump False,
  fun id => match id with
  | _ => bump false,
  fun b => match keyC b with
  | some 16102 => true
  | _ => bump false,
  fun b σ m k => match keyC b with
  | some 16102 => LamP5_16102 σ m k
  | _ => bump False⟩

def lxp5_16102 : Ex → List Nat := fun e => match e with
  | .ret => [6]
  | _ => []

theorem pc5_16102 (b_7 o_7 : Nat) (b_8 o_8 : Nat) (x_9 : Int) (m : Mem) (k : KX) : once Try.prog E5 Lam5 [7, 8, 9] lxp5_16102 (((secsOf (bodyOf Try.f5)).filter Lam5.cut).getD 0 .skip) [(.ptr b_7 o_7), (.ptr b_8 o_8), (.flat (.int .i64 x_9))] m k = P5_16102 b_7 o_7 b_8 o_8 x_9 m (fun x_6' m' => k .ret (only [6] [(.flat (.bool x_6'))]) m') := by
  kernel_rfl

theorem pok5_16102 : PieceOK Try.prog E5 Lam5 (((secsOf (bodyOf Try.f5)).filter Lam5.cut).getD 0 .skip) := by
  refine ⟨fun σ => ∃ b_7 o_7 b_8 o_8 x_9, σ 7 = .ptr b_7 o_7 ∧ σ 8 = .ptr b_8 o_8 ∧ σ 9 = .flat (.int .i64 x_9), [7, 8, 9], lxp5_16102, fun σ m k => ?_⟩
  have e : Lam5.piece (((secsOf (bodyOf Try.f5)).filter Lam5.cut).getD 0 .skip) σ m k = LamP5_16102 σ m k := by kernel_rfl
  rw [e]
  constructor
  · intro h
    unfold LamP5_16102 at h
    obtain ⟨b_7, o_7, h0, h⟩ := kptr_ok h
    obtain ⟨b_8, o_8, h1, h⟩ := kptr_ok h
    obtain ⟨x_9, h2, h⟩ := kI_ok h
    refine ⟨⟨b_7, o_7, b_8, o_8, x_9, h0, h1, h2⟩, ?_⟩
    have ev : [7, 8, 9].map σ = [(.ptr b_7 o_7), (.ptr b_8 o_8), (.flat (.int .i64 x_9))] := by simp only [List.map_cons, List.map_nil, h0, h1, h2]
    rw [ev, pc5_16102]
    exact h
  · rintro ⟨⟨b_7, o_7, b_8, o_8, x_9, h0, h1, h2⟩, h⟩
    have ev : [7, 8, 9].map σ = [(.ptr b_7 o_7), (.ptr b_8 o_8), (.flat (.int .i64 x_9))] := by simp only [List.map_cons, List.map_nil, h0, h1, h2]
    rw [ev, pc5_16102] at h
    unfold LamP5_16102
    try simp only [h0, h1, h2, kI, kbool, kS, kptr, kaggN, kite, decide_true, eq_self]
    exact h

theorem eqn5 (c_0 : Nat → AV) (x_1 : Int) (x_2 : Int) (m : Mem) (k : KV) : bodyK Try.prog E5 Lam5 Try.f5 false [(.agg 11 c_0), (.flat (.int .i64 x_1)), (.flat (.int .u32 x_2))] m k = F5 c_0 x_1 x_2 m (fun x_1000 m' => k (.flat (.bool x_1000)) m') := by
  kernel_rfl

theorem fs5 (w0 : World) : FS Try.prog w0 5 G5 := by
  refine (fs_body (Γ := E5) (sound_env (l := [(9, G9), (10, G10), (11, G11), (13, G13), (14, G14), (15, G15)]) w0 (by
    intro p hp
    simp only [List.mem_cons, List.not_mem_nil, or_false] at hp
    rcases hp with rfl | rfl | rfl | rfl | rfl | rfl
    · exact fs9 w0
    · exact fs10 w0
    · exact fs11 w0
    · exact fs13 w0
    · exact fs14 w0
    · exact fs15 w0)) (by kernel_rfl) Try.func5 (Λ := Lam5) (c := (bodyOf Try.f5)) (by kernel_rfl) Try.call5 (by kernel_rfl) (LS_of (bodyOf Try.f5) 0 (by kernel_rfl) (fun i hi => absurd hi (Nat.not_lt_zero i)) 1 (by kernel_rfl) (by
    intro i hi
    match i, hi with
    | 0, _ => exact pok5_16102
    | i + 1, hi => omega)) false (np := 3) (Nat.le_of_ble_eq_true (by kernel_rfl))).imp fun args => ?_
  by_cases hl : args.length = 3
  rotate_left
  · exact .inr fun m k hk => by
      unfold G5 at hk
      split at hk
      · exact hl rfl
      · exact hk
  obtain ⟨a0, a1, a2, rfl⟩ : ∃ a0 a1 a2, args = [a0, a1, a2] := len_list3 hl
  rcases kaggN_or 11 a0 with ⟨c_0, rfl⟩ | h
  rotate_left
  · exact .inr fun m k hk => h _ (by simpa only [G5, kI, kbool, kS, kptr, kaggN, kite, decide_true, eq_self] using hk)
  rcases kI_or .i64 a1 with ⟨x_1, rfl⟩ | h
  rotate_left
  · exact .inr fun m k hk => h _ (by simpa only [G5, kI, kbool, kS, kptr, kaggN, kite, decide_true, eq_self] using hk)
  rcases kI_or .u32 a2 with ⟨x_2, rfl⟩ | h
  rotate_left
  · exact .inr fun m k hk => h _ (by simpa only [G5, kI, kbool, kS, kptr, kaggN, kite, decide_true, eq_self] using hk)
  exact .inl fun m k => propext ⟨fun h => ⟨rfl, by rw [eqn5]; simpa only [G5, kI, kbool, kS, kptr, kaggN, kite, decide_true, eq_self] using h⟩, fun h => by have h := h.2; rw [eqn5] at h; simpa only [G5, kI, kbool, kS, kptr, kaggN, kite, decide_true, eq_self] using h⟩

end Go.Proofs.Ytobdghdcmkdcaaa.Am
