/- What Go functions ask of what follows them, as plain functions over the abstract machine; the machine asks just that. Written by gen.py. -/
import Derived.Test.YtdjieokcflogmaaProg
import Derived.Test.YtdjieokcflogmaaAmL
namespace Go.Proofs.Ytdjieokcflogmaa.Am
set_option linter.unusedVariables false
set_option linter.unusedSimpArgs false
set_option maxRecDepth 100000

def Z73 : Nat → AV := lget [(.flat (.int .u32 0)), (.flat (.int .u32 0)), (.flat (.int .u32 0)), (.flat (.int .u32 0)), (.flat (.int .u32 0)), (.flat (.int .u32 0)), (.flat (.int .u32 0)), (.flat (.int .u32 0)), (.flat (.int .u32 0)), (.flat (.int .u32 0)), (.flat (.int .u32 0)), (.flat (.int .u32 0)), (.flat (.int .u32 0)), (.flat (.int .u32 0)), (.flat (.int .u32 0)), (.flat (.int .u32 0)), (.flat (.int .u32 0)), (.flat (.int .u32 0)), (.flat (.int .u32 0)), (.flat (.int .u32 0)), (.flat (.int .u32 0)), (.flat (.int .u32 0)), (.flat (.int .u32 0)), (.flat (.int .u32 0)), (.flat (.int .u32 0)), (.flat (.int .u32 0)), (.flat (.int .u32 0)), (.flat (.int .u32 0)), (.flat (.int .u32 0)), (.flat (.int .u32 0)), (.flat (.int .u32 0)), (.flat (.int .u32 0)), (.flat (.int .u32 0)), (.flat (.int .u32 0)), (.flat (.int .u32 0)), (.flat (.int .u32 0)), (.flat (.bool false)), (.flat (.bool false)), (.flat (.int .u32 0)), (.flat (.int .u32 0)), (.flat (.int .u32 0)), (.flat (.int .u32 0)), (.flat (.int .u32 0)), (.flat (.int .u32 0)), (.flat (.int .u32 0)), (.flat (.int .u32 0)), (.flat (.int .u32 0)), (.flat (.int .u32 0)), (.flat (.int .u32 0)), (.flat (.int .u32 0)), (.flat (.int .u32 0)), (.flat (.int .u32 0)), (.flat (.int .u32 0)), (.flat (.int .u32 0)), (.flat (.int .u32 0)), (.flat (.int .u32 0)), (.flat (.int .u32 0)), (.flat (.int .u32 0)), (.flat (.int .u32 0)), (.flat (.int .u32 0)), (.flat (.int .u32 0)), (.flat (.int .u32 0)), (.flat (.int .u32 0)), (.flat (.int .u32 0)), (.flat (.int .u32 0)), (.flat (.int .u32 0)), (.flat (.int .u32 0)), (.flat (.int .u32 0)), (.flat (.int .u32 0)), (.flat (.int .u32 0)), (.flat (.int .u32 0)), (.flat (.bool false)), (.flat (.int .i64 0))]

def Z10 : Nat → AV := lget [(.flat (.int .u32 0)), (.flat (.int .u32 0)), (.flat (.int .u32 0)), (.flat (.int .u32 0)), (.flat (.int .u32 0)), (.flat (.int .u32 0)), (.flat (.int .u32 0)), (.flat (.int .u32 0)), (.flat (.int .u32 0)), (.flat (.int .u32 0))]

def K33 : List (Nat × LK) := [(0, (.i .u32)), (1, (.i .u32)), (2, (.i .u32)), (3, (.i .u32)), (4, (.i .u32)), (5, (.i .u32)), (6, (.i .u32)), (7, (.i .u32)), (8, (.i .u32)), (9, (.i .u32)), (10, (.i .u32)), (11, (.i .u32)), (12, (.i .u32)), (13, (.i .u32)), (14, (.i .u32)), (15, (.i .u32)), (16, (.i .u32)), (17, (.i .u32)), (18, (.i .u32)), (19, (.i .u32)), (20, (.i .u32)), (21, (.i .u32)), (22, (.i .u32)), (23, (.i .u32)), (24, (.i .u32)), (25, (.i .u32)), (26, (.i .u32)), (27, (.i .u32)), (28, (.i .u32)), (29, (.i .u32)), (30, (.i .u32)), (31, (.i .u32)), (32, (.i .u32)), (33, (.i .u32)), (34, (.i .u32)), (35, (.i .u32)), (36, .b), (37, .b), (38, (.i .u32)), (39, (.i .u32)), (40, (.i .u32)), (41, (.i .u32)), (42, (.i .u32)), (43, (.i .u32)), (44, (.i .u32)), (45, (.i .u32)), (46, (.i .u32)), (47, (.i .u32)), (48, (.i .u32)), (49, (.i .u32)), (50, (.i .u32)), (51, (.i .u32)), (52, (.i .u32)), (53, (.i .u32)), (54, (.i .u32)), (55, (.i .u32)), (56, (.i .u32)), (57, (.i .u32)), (58, (.i .u32)), (59, (.i .u32)), (60, (.i .u32)), (61, (.i .u32)), (62, (.i .u32)), (63, (.i .u32)), (64, (.i .u32)), (65, (.i .u32)), (66, (.i .u32)), (67, (.i .u32)), (68, (.i .u32)), (69, (.i .u32)), (70, (.i .u32)), (71, .b), (72, (.i .i64))]

/-- pianola/pianolaref6.Fresh -/
def F14  (m : Mem) (k : (Nat → AV) → Mem → Prop) : Prop :=
  newK m ⟨73, Z73, 33, false⟩ fun b2 m1 => newK m1 ⟨73, Z73, 33, false⟩ fun b4 m3 => stG 73 m3 b4 0 (upd (upd (Z73) 34 (.flat (.int .u32 2147484672))) 35 (.flat (.int .u32 2147484676))) fun m5 => stC m5 b4 54 (.flat (.int .u32 98304)) fun m6 => ldG 73 m6 b4 0 fun c7 => stG 73 m6 b2 0 c7 fun m8 => ldG 73 m8 b2 0 fun c9 => (Keeps m m8 ∧ InDomG 73 m c9 ∧ k c9 m)

def G14 (args : List AV) (m : Mem) (k : KV) : Prop := match args with
  | [] => F14  m (fun c_1000 m' => k (.agg 73 c_1000) m')
  | _ => False

def E14 : Env := envOf []

def Lam14 : LEnv := ⟨fun a σ m k => match firstReg a with
  | _ => bump False,
  fun id => match id with
  | _ => bump false,
  fun b => match keyC b with
  | _ => bump false,
  fun b σ m k => match keyC b with
  | _ => bump False⟩

theorem eqn14  (m : Mem) (k : KV) : bodyK Try.prog E14 Lam14 Try.f14 true [] m k = F14  m (fun c_1000 m' => k (.agg 73 c_1000) m') := by
  kernel_rfl

theorem fs14 (w0 : World) : FS Try.prog w0 14 G14 := by
  refine (fs_body (Γ := E14) (sound_env (l := []) w0 (by
    intro p hp
    cases hp)) (by kernel_rfl) Try.func14 (Λ := Lam14) (c := (bodyOf Try.f14)) (by kernel_rfl) Try.call14 (by kernel_rfl) (LS_of (bodyOf Try.f14) 0 (by kernel_rfl) (fun i hi => absurd hi (Nat.not_lt_zero i)) 0 (by kernel_rfl) (fun i hi => absurd hi (Nat.not_lt_zero i))) true (np := 0) (Nat.le_of_ble_eq_true (by kernel_rfl))).imp fun args => ?_
  by_cases hl : args.length = 0
  rotate_left
  · exact .inr fun m k hk => by
      unfold G14 at hk
      split at hk
      · exact hl rfl
      · exact hk
  obtain rfl : args = [] := len_list0 hl

  exact .inl fun m k => propext ⟨fun h => ⟨rfl, by rw [eqn14]; simpa only [G14, kI, kbool, kS, kptr, kaggN, kite, decide_true, eq_self] using h⟩, fun h => by have h := h.2; rw [eqn14] at h; simpa only [G14, kI, kbool, kS, kptr, kaggN, kite, decide_true, eq_self] using h⟩

def P15_9004 (b_0 o_0 : Nat) (x_1 : Int) (x_2 : Int) (x_6 : Int) (x_34 : Bool) (m : Mem) (kn : Mem → Prop) : Prop :=
  kif x_34 (kif (decide (0 ≤ x_1) && decide (x_1 < 16)) (stC m b_0 (o_0 + 39 + (x_1).toNat * 1) (.flat (.int .u32 x_2)) fun m4 => kn  m4) False) (kif (x_6 == 11) (kif (decide (0 ≤ x_1) && decide (x_1 < 16)) (stC m b_0 (o_0 + 39 + (x_1).toNat * 1) (.flat (.int .u32 x_2)) fun m5 => ldI .u32 m5 b_0 (o_0 + 39 + 13) fun x6 => stC m5 b_0 (o_0 + 39 + 13) (.flat (.int .u32 (bits .andNot .u32 x6 32768))) fun m7 => kn  m7) False) (kif (x_6 == 12) (kif (decide (0 ≤ x_1) && decide (x_1 < 16)) (stC m b_0 (o_0 + 39 + (x_1).toNat * 1) (.flat (.int .u32 (bits .and .u32 x_2 65299))) fun m8 => kn  m8) False) (kif (x_6 == 13) (kif (decide (0 ≤ x_1) && decide (x_1 < 16)) (ldI .u32 m b_0 (o_0 + 39 + (x_1).toNat * 1) fun x9 => kif (decide (0 ≤ x_1) && decide (x_1 < 16)) (stC m b_0 (o_0 + 39 + (x_1).toNat * 1) (.flat (.int .u32 (bits .or .u32 (bits .andNot .u32 x9 768) (bits .and .u32 x_2 768)))) fun m10 => kn  m10) False) False) (kn  m))))

/-- pianola/pianolaref6.Write -/
def F15 (b_0 o_0 : Nat) (x_1 : Int) (x_2 : Int) (m : Mem) (k : Mem → Prop) : Prop :=
  kif (x_1 == 0) (kif (decide (0 ≤ x_1) && decide (x_1 < 16)) (stC m b_0 (o_0 + 39 + (x_1).toNat * 1) (.flat (.int .u32 (bits .and .u32 x_2 7))) fun m1 => k  m1) False) (kif (x_1 == 2) (kif (decide (0 ≤ x_1) && decide (x_1 < 16)) (stC m b_0 (o_0 + 39 + (x_1).toNat * 1) (.flat (.int .u32 (bits .and .u32 x_2 4294966279))) fun m2 => k  m2) False) (kif (x_1 == 10) (kif (decide (0 ≤ x_1) && decide (x_1 < 16)) (stC m b_0 (o_0 + 39 + (x_1).toNat * 1) (.flat (.int .u32 (bits .and .u32 x_2 4294966527))) fun m3 => k  m3) False) (kif (x_1 == 9) (P15_9004 b_0 o_0 x_1 x_2 x_1 (x_1 == 9) m (fun m11 => k  m11)) (P15_9004 b_0 o_0 x_1 x_2 x_1 (x_1 == 14) m (fun m12 => k  m12)))))

def G15 (args : List AV) (m : Mem) (k : KV) : Prop := match args with
  | [a0, a1, a2] => kptr a0 fun b_0 o_0 => kI .i64 a1 fun x_1 => kI .u32 a2 fun x_2 => F15 b_0 o_0 x_1 x_2 m (fun m' => k (.tup []) m')
  | _ => False

def E15 : Env := envOf []

def LamP15_9004 (σ : Nat → AV) (m : Mem) (k : KX) : Prop := kptr (σ 0) fun b_0 o_0 => kI .i64 (σ 1) fun x_1 => kI .u32 (σ 2) fun x_2 => kI .i64 (σ 6) fun x_6 => kbool (σ 34) fun x_34 => P15_9004 b_0 o_0 x_1 x_2 x_6 x_34 m (fun m' => k .normal (only [] []) m')

def Lam15 : LEnv := ⟨fun a σ m k => match firstReg a with
  | _ => bump False,
  fun id => match id with
  | _ => bump false,
  fun b => match keyC b with
  | some 9004 => true
  | _ => bump false,
  fun b σ m k => match keyC b with
  | some 9004 => LamP15_9004 σ m k
  | _ => bump False⟩

def lxp15_9004 : Ex → List Nat := fun e => match e with
  | .normal => []
  | _ => []

theorem pc15_9004 (b_0 o_0 : Nat) (x_1 : Int) (x_2 : Int) (x_6 : Int) (x_34 : Bool) (m : Mem) (k : KX) : once Try.prog E15 Lam15 [0, 1, 2, 6, 34] lxp15_9004 (((secsOf (bodyOf Try.f15)).filter Lam15.cut).getD 0 .skip) [(.ptr b_0 o_0), (.flat (.int .i64 x_1)), (.flat (.int .u32 x_2)), (.flat (.int .i64 x_6)), (.flat (.bool x_34))] m k = P15_9004 b_0 o_0 x_1 x_2 x_6 x_34 m (fun m' => k .normal (only [] []) m') := by
  kernel_rfl

theorem pok15_9004 : PieceOK Try.prog E15 Lam15 (((secsOf (bodyOf Try.f15)).filter Lam15.cut).getD 0 .skip) := by
  refine ⟨fun σ => ∃ b_0 o_0 x_1 x_2 x_6 x_34, σ 0 = .ptr b_0 o_0 ∧ σ 1 = .flat (.int .i64 x_1) ∧ σ 2 = .flat (.int .u32 x_2) ∧ σ 6 = .flat (.int .i64 x_6) ∧ σ 34 = .flat (.bool x_34), [0, 1, 2, 6, 34], lxp15_9004, fun σ m k => ?_⟩
  have e : Lam15.piece (((secsOf (bodyOf Try.f15)).filter Lam15.cut).getD 0 .skip) σ m k = LamP15_9004 σ m k := by kernel_rfl
  rw [e]
  constructor
  · intro h
    unfold LamP15_9004 at h
    obtain ⟨b_0, o_0, h0, h⟩ := kptr_ok h
    obtain ⟨x_1, h1, h⟩ := kI_ok h
    obtain ⟨x_2, h2, h⟩ := kI_ok h
    obtain ⟨x_6, h3, h⟩ := kI_ok h
    obtain ⟨x_34, h4, h⟩ := kbool_ok h
    refine ⟨⟨b_0, o_0, x_1, x_2, x_6, x_34, h0, h1, h2, h3, h4⟩, ?_⟩
    have ev : [0, 1, 2, 6, 34].map σ = [(.ptr b_0 o_0), (.flat (.int .i64 x_1)), (.flat (.int .u32 x_2)), (.flat (.int .i64 x_6)), (.flat (.bool x_34))] := by simp only [List.map_cons, List.map_nil, h0, h1, h2, h3, h4]
    rw [ev, pc15_9004]
    exact h
  · rintro ⟨⟨b_0, o_0, x_1, x_2, x_6, x_34, h0, h1, h2, h3, h4⟩, h⟩
    have ev : [0, 1, 2, 6, 34].map σ = [(.ptr b_0 o_0), (.flat (.int .i64 x_1)), (.flat (.int .u32 x_2)), (.flat (.int .i64 x_6)), (.flat (.bool x_34))] := by simp only [List.map_cons, List.map_nil, h0, h1, h2, h3, h4]
    rw [ev, pc15_9004] at h
    unfold LamP15_9004
    simp only [h0, h1, h2, h3, h4, kI, kbool, kS, kptr, kaggN, kite, decide_true, eq_self]
    exact h

theorem eqn15 (b_0 o_0 : Nat) (x_1 : Int) (x_2 : Int) (m : Mem) (k : KV) : bodyK Try.prog E15 Lam15 Try.f15 false [(.ptr b_0 o_0), (.flat (.int .i64 x_1)), (.flat (.int .u32 x_2))] m k = F15 b_0 o_0 x_1 x_2 m (fun m' => k (.tup []) m') := by
  kernel_rfl

theorem fs15 (w0 : World) : FS Try.prog w0 15 G15 := by
  refine (fs_body (Γ := E15) (sound_env (l := []) w0 (by
    intro p hp
    cases hp)) (by kernel_rfl) Try.func15 (Λ := Lam15) (c := (bodyOf Try.f15)) (by kernel_rfl) Try.call15 (by kernel_rfl) (LS_of (bodyOf Try.f15) 0 (by kernel_rfl) (fun i hi => absurd hi (Nat.not_lt_zero i)) 1 (by kernel_rfl) (by
    intro i hi
    match i, hi with
    | 0, _ => exact pok15_9004
    | i + 1, hi => omega)) false (np := 3) (Nat.le_of_ble_eq_true (by kernel_rfl))).imp fun args => ?_
  by_cases hl : args.length = 3
  rotate_left
  · exact .inr fun m k hk => by
      unfold G15 at hk
      split at hk
      · exact hl rfl
      · exact hk
  obtain ⟨a0, a1, a2, rfl⟩ : ∃ a0 a1 a2, args = [a0, a1, a2] := len_list3 hl
  rcases kptr_or a0 with ⟨b_0, o_0, rfl⟩ | h
  rotate_left
  · exact .inr fun m k hk => h _ (by simpa only [G15, kI, kbool, kS, kptr, kaggN, kite, decide_true, eq_self] using hk)
  rcases kI_or .i64 a1 with ⟨x_1, rfl⟩ | h
  rotate_left
  · exact .inr fun m k hk => h _ (by simpa only [G15, kI, kbool, kS, kptr, kaggN, kite, decide_true, eq_self] using hk)
  rcases kI_or .u32 a2 with ⟨x_2, rfl⟩ | h
  rotate_left
  · exact .inr fun m k hk => h _ (by simpa only [G15, kI, kbool, kS, kptr, kaggN, kite, decide_true, eq_self] using hk)
  exact .inl fun m k => propext ⟨fun h => ⟨rfl, by rw [eqn15]; simpa only [G15, kI, kbool, kS, kptr, kaggN, kite, decide_true, eq_self] using h⟩, fun h => by have h := h.2; rw [eqn15] at h; simpa only [G15, kI, kbool, kS, kptr, kaggN, kite, decide_true, eq_self] using h⟩

def R7_20 (x_1 : Int) (b_2 o_2 : Nat) (b_4 o_4 : Nat) (b_5 o_5 : Nat) (x_8 : Int) (m : Mem) (kn : Int → Mem → Prop) (k4 : Mem → Prop) : Prop :=
  ldA m b_2 (o_2 + 8) fun v54 => klen v54 fun x55 => kif (decide (x_8 < x55)) (kif (decide (x_8 < 8)) (ldA m b_2 (o_2 + 8) fun v56 => ksl v56 fun b57 o58 l59 p60 => kif (decide (0 ≤ x_8) && decide (x_8 < l59)) (ldI .u32 m b57 (o58 + (x_8).toNat * 2 + 0) fun x61 => ldA m b_2 (o_2 + 8) fun v62 => ksl v62 fun b63 o64 l65 p66 => kif (decide (0 ≤ x_8) && decide (x_8 < l65)) (ldI .u32 m b63 (o64 + (x_8).toNat * 2 + 1) fun x67 => kif (decide (0 ≤ x_8) && decide (x_8 < 8)) (stG 2 m b_5 (o_5 + 55 + (x_8).toNat * 2) (upd (upd (lget [(.flat (.int .u32 0)), (.flat (.int .u32 0))]) 0 (.flat (.int .u32 (bits .and .u32 x61 4294966527)))) 1 (.flat (.int .u32 (bits .and .u32 x67 4294966279)))) fun m68 => kn (IntKind.wrap .i64 (x_8 + 1)) m68) False) False) False) (k4  m)) (k4  m)

def L7_20 (x_1 : Int) (b_2 o_2 : Nat) (b_4 o_4 : Nat) (b_5 o_5 : Nat) : Nat → Int → Mem → (Mem → Prop) → Prop
  | 0, _,  _, _ => bump False
  | N + 1, x_8,  m, k4 => R7_20 x_1 b_2 o_2 b_4 o_4 b_5 o_5 x_8 m (fun x_8' m' => L7_20 x_1 b_2 o_2 b_4 o_4 b_5 o_5 N x_8' m' k4) k4

def R7_16 (x_1 : Int) (b_2 o_2 : Nat) (b_4 o_4 : Nat) (b_5 o_5 : Nat) (x_7 : Int) (m : Mem) (kn : Int → Mem → Prop) (k2 : Mem → Prop) : Prop :=
  ldA m b_2 (o_2 + 7) fun v40 => klen v40 fun x41 => kif (decide (x_7 < x41)) (kif (decide (x_7 < 3)) (newK m ⟨3, upd (upd (upd (lget [(.flat (.int .i64 0)), (.flat (.int .i64 0)), (.flat (.int .i64 0))]) 0 (.flat (.int .i64 0))) 1 (.flat (.int .i64 2))) 2 (.flat (.int .i64 14)), 3, false⟩ fun b43 m42 => kif (decide (0 ≤ x_7) && decide (x_7 < 3)) (ldI .i64 m42 b43 (0 + (x_7).toNat * 1) fun x44 => ldA m42 b_2 (o_2 + 7) fun v45 => ksl v45 fun b46 o47 l48 p49 => kif (decide (0 ≤ x_7) && decide (x_7 < l48)) (ldI .u32 m42 b46 (o47 + (x_7).toNat * 1) fun x50 => F15 b_5 o_5 x44 x50 m42 fun m51 => kn (IntKind.wrap .i64 (x_7 + 1)) m51) False) False) (k2  m)) (k2  m)

def L7_16 (x_1 : Int) (b_2 o_2 : Nat) (b_4 o_4 : Nat) (b_5 o_5 : Nat) : Nat → Int → Mem → (Mem → Prop) → Prop
  | 0, _,  _, _ => bump False
  | N + 1, x_7,  m, k2 => R7_16 x_1 b_2 o_2 b_4 o_4 b_5 o_5 x_7 m (fun x_7' m' => L7_16 x_1 b_2 o_2 b_4 o_4 b_5 o_5 N x_7' m' k2) k2

def P7_10102 (x_1 : Int) (b_2 o_2 : Nat) (b_4 o_4 : Nat) (b_5 o_5 : Nat) (m : Mem) (kr : Mem → Prop) : Prop :=
  ldI .u32 m b_2 (o_2 + 2) fun x29 => F15 b_5 o_5 12 x29 m fun m30 => ldI .u32 m30 b_2 (o_2 + 3) fun x31 => F15 b_5 o_5 13 x31 m30 fun m32 => ldI .u32 m32 b_2 (o_2 + 4) fun x33 => F15 b_5 o_5 10 x33 m32 fun m34 => ldI .u32 m34 b_2 (o_2 + 9) fun x35 => F15 b_5 o_5 9 x35 m34 fun m36 => ldI .u32 m36 b_2 (o_2 + 9) fun x37 => ldI .u32 m36 b_2 (o_2 + 10) fun x38 => F15 b_5 o_5 11 (IntKind.wrap .u32 (x37 + (x38.tmod 50))) m36 fun m39 => ∃ N53, L7_16 x_1 b_2 o_2 b_4 o_4 b_5 o_5 N53 0 m39 (fun m52 => ∃ N70, L7_20 x_1 b_2 o_2 b_4 o_4 b_5 o_5 N70 0 m52 (fun m69 => ldB m69 b_2 (o_2 + 6) fun x71 => stC m69 b_5 (o_5 + 37) (.flat (.bool x71)) fun m72 => stC m72 b_5 (o_5 + 72) (.flat (.int .i64 x_1)) fun m73 => ldG 73 m73 b_5 o_5 fun c74 => stG 73 m73 b_4 o_4 c74 fun m75 => kr  m75))

def R7_3 (x_1 : Int) (b_2 o_2 : Nat) (b_4 o_4 : Nat) (b_5 o_5 : Nat) (x_6 : Int) (m : Mem) (kn : Int → Mem → Prop) (k0 : Mem → Prop) : Prop :=
  kif (decide (x_6 < 32)) (ldA m b_2 (o_2 + 0) fun v10 => klen v10 fun x11 => kif (decide (x_6 < x11)) (ldA m b_2 (o_2 + 0) fun v12 => ksl v12 fun b13 o14 l15 p16 => kif (decide (0 ≤ x_6) && decide (x_6 < l15)) (ldI .u32 m b13 (o14 + (x_6).toNat * 1) fun x17 => kif (decide (0 ≤ x_6) && decide (x_6 < 32)) (stC m b_5 (o_5 + 0 + (x_6).toNat * 1) (.flat (.int .u32 x17)) fun m18 => kn (IntKind.wrap .i64 (x_6 + 1)) m18) False) False) (k0  m)) (k0  m)

def L7_3 (x_1 : Int) (b_2 o_2 : Nat) (b_4 o_4 : Nat) (b_5 o_5 : Nat) : Nat → Int → Mem → (Mem → Prop) → Prop
  | 0, _,  _, _ => bump False
  | N + 1, x_6,  m, k0 => R7_3 x_1 b_2 o_2 b_4 o_4 b_5 o_5 x_6 m (fun x_6' m' => L7_3 x_1 b_2 o_2 b_4 o_4 b_5 o_5 N x_6' m' k0) k0

/-- pianola/pianolakeep.State -/
def F7 (c_0 : Nat → AV) (x_1 : Int) (m : Mem) (k : (Nat → AV) → Mem → Prop) : Prop :=
  newK m ⟨11, c_0, 26, false⟩ fun b2 m1 => newK m1 ⟨73, Z73, 33, false⟩ fun b4 m3 => F14  m3 fun c5 m6 => newK m6 ⟨73, Z73, 33, false⟩ fun b8 m7 => stG 73 m7 b8 0 c5 fun m9 => ∃ N20, L7_3 x_1 b2 0 b4 0 b8 0 N20 1 m9 (fun m19 => ldI .u32 m19 b2 1 fun x21 => stC m19 b8 34 (.flat (.int .u32 x21)) fun m22 => ldI .u32 m22 b8 34 fun x23 => stC m22 b8 35 (.flat (.int .u32 (IntKind.wrap .u32 (x23 + 4)))) fun m24 => ldB m24 b2 5 fun x25 => kif x25 (ldI .u32 m24 b8 34 fun x26 => stC m24 b8 36 (.flat (.bool true)) fun m27 => stC m27 b8 35 (.flat (.int .u32 (IntKind.wrap .u32 (x26 + 16)))) fun m28 => P7_10102 x_1 b2 0 b4 0 b8 0 m28 (fun m76 => ldG 73 m76 b4 0 fun c78 => (Keeps m m76 ∧ InDomG 73 m c78 ∧ k c78 m))) (P7_10102 x_1 b2 0 b4 0 b8 0 m24 (fun m77 => ldG 73 m77 b4 0 fun c79 => (Keeps m m77 ∧ InDomG 73 m c79 ∧ k c79 m))))

def G7 (args : List AV) (m : Mem) (k : KV) : Prop := match args with
  | [a0, a1] => kaggN 11 a0 fun c_0 => kI .i64 a1 fun x_1 => F7 c_0 x_1 m (fun c_1000 m' => k (.agg 73 c_1000) m')
  | _ => False

def E7 : Env := envOf [(14, G14), (15, G15)]

def Lam7_3 (σ : Nat → AV) (m : Mem) (k : KX) : Prop := kI .i64 (σ 1) fun x_1 => kptr (σ 2) fun b_2 o_2 => kptr (σ 4) fun b_4 o_4 => kptr (σ 5) fun b_5 o_5 => kI .i64 (σ 6) fun x_6 => ∃ N, L7_3 x_1 b_2 o_2 b_4 o_4 b_5 o_5 N x_6 m (fun m' => k (.exit 0) (only [1, 2, 4, 5] [(.flat (.int .i64 x_1)), (.ptr b_2 o_2), (.ptr b_4 o_4), (.ptr b_5 o_5)]) m')

def LamP7_10102 (σ : Nat → AV) (m : Mem) (k : KX) : Prop := kI .i64 (σ 1) fun x_1 => kptr (σ 2) fun b_2 o_2 => kptr (σ 4) fun b_4 o_4 => kptr (σ 5) fun b_5 o_5 => P7_10102 x_1 b_2 o_2 b_4 o_4 b_5 o_5 m (fun m' => k .ret (only [4] [(.ptr b_4 o_4)]) m')

def Lam7_16 (σ : Nat → AV) (m : Mem) (k : KX) : Prop := kI .i64 (σ 1) fun x_1 => kptr (σ 2) fun b_2 o_2 => kptr (σ 4) fun b_4 o_4 => kptr (σ 5) fun b_5 o_5 => kI .i64 (σ 7) fun x_7 => ∃ N, L7_16 x_1 b_2 o_2 b_4 o_4 b_5 o_5 N x_7 m (fun m' => k (.exit 2) (only [1, 2, 4, 5] [(.flat (.int .i64 x_1)), (.ptr b_2 o_2), (.ptr b_4 o_4), (.ptr b_5 o_5)]) m')

def Lam7_20 (σ : Nat → AV) (m : Mem) (k : KX) : Prop := kI .i64 (σ 1) fun x_1 => kptr (σ 2) fun b_2 o_2 => kptr (σ 4) fun b_4 o_4 => kptr (σ 5) fun b_5 o_5 => kI .i64 (σ 8) fun x_8 => ∃ N, L7_20 x_1 b_2 o_2 b_4 o_4 b_5 o_5 N x_8 m (fun m' => k (.exit 4) (only [1, 2, 4, 5] [(.flat (.int .i64 x_1)), (.ptr b_2 o_2), (.ptr b_4 o_4), (.ptr b_5 o_5)]) m')

def Lam7 : LEnv := ⟨fun a σ m k => match firstReg a with
  | some 3 => Lam7_3 σ m k
  | some 16 => Lam7_16 σ m k
  | some 20 => Lam7_20 σ m k
  | _ => bump False,
  fun id => match id with
  | _ => bump false,
  fun b => match keyC b with
  | some 10102 => true
  | _ => bump false,
  fun b σ m k => match keyC b with
  | some 10102 => LamP7_10102 σ m k
  | _ => bump False⟩

def lx7_20 : Ex → List Nat := fun e => match e with
  | .exit 4 => [1, 2, 4, 5]
  | _ => []

theorem round7_20 (x_1 : Int) (b_2 o_2 : Nat) (b_4 o_4 : Nat) (b_5 o_5 : Nat) (x_8 : Int) (m : Mem) (G : List AV → Mem → Prop) (k : KX) : (wpA Try.prog E7 Lam7 ((loopsOf (bodyOf Try.f7)).getD 2 .skip) (only [1, 2, 4, 5, 8] [(.flat (.int .i64 x_1)), (.ptr b_2 o_2), (.ptr b_4 o_4), (.ptr b_5 o_5), (.flat (.int .i64 x_8))]) m fun e σ' m' => match e with
    | .normal => G ([1, 2, 4, 5, 8].map σ') m'
    | .exit id => k (.exit id) (only (lx7_20 (.exit id)) ((lx7_20 (.exit id)).map σ')) m'
    | .ret => k .ret (only (lx7_20 .ret) ((lx7_20 .ret).map σ')) m') = R7_20 x_1 b_2 o_2 b_4 o_4 b_5 o_5 x_8 m (fun x_8' m' => G [(.flat (.int .i64 x_1)), (.ptr b_2 o_2), (.ptr b_4 o_4), (.ptr b_5 o_5), (.flat (.int .i64 x_8'))] m') (fun m' => k (.exit 4) (only [1, 2, 4, 5] [(.flat (.int .i64 x_1)), (.ptr b_2 o_2), (.ptr b_4 o_4), (.ptr b_5 o_5)]) m') := by
  kernel_rfl

theorem loop7_20 (x_1 : Int) (b_2 o_2 : Nat) (b_4 o_4 : Nat) (b_5 o_5 : Nat) (k : KX) : ∀ (N : Nat) (x_8 : Int) (m : Mem), rounds Try.prog E7 Lam7 [1, 2, 4, 5, 8] lx7_20 ((loopsOf (bodyOf Try.f7)).getD 2 .skip) N [(.flat (.int .i64 x_1)), (.ptr b_2 o_2), (.ptr b_4 o_4), (.ptr b_5 o_5), (.flat (.int .i64 x_8))] m k = L7_20 x_1 b_2 o_2 b_4 o_4 b_5 o_5 N x_8 m (fun m' => k (.exit 4) (only [1, 2, 4, 5] [(.flat (.int .i64 x_1)), (.ptr b_2 o_2), (.ptr b_4 o_4), (.ptr b_5 o_5)]) m') := by
  intro N
  induction N with
  | zero => intros; rfl
  | succ N ih =>
    intro x_8 m
    refine (round7_20 x_1 b_2 o_2 b_4 o_4 b_5 o_5 x_8 m (fun vs m' => rounds Try.prog E7 Lam7 [1, 2, 4, 5, 8] lx7_20 ((loopsOf (bodyOf Try.f7)).getD 2 .skip) N vs m' k) k).trans ?_
    simp only [ih]
    rfl

theorem lok7_20 : LoopOK Try.prog E7 Lam7 ((loopsOf (bodyOf Try.f7)).getD 2 .skip) := by
  refine ⟨fun σ => ∃ x_1 b_2 o_2 b_4 o_4 b_5 o_5 x_8, σ 1 = .flat (.int .i64 x_1) ∧ σ 2 = .ptr b_2 o_2 ∧ σ 4 = .ptr b_4 o_4 ∧ σ 5 = .ptr b_5 o_5 ∧ σ 8 = .flat (.int .i64 x_8), [1, 2, 4, 5, 8], lx7_20, fun σ m k => ?_⟩
  have e : Lam7.loop ((loopsOf (bodyOf Try.f7)).getD 2 .skip) σ m k = Lam7_20 σ m k := by kernel_rfl
  rw [e]
  constructor
  · intro h
    unfold Lam7_20 at h
    obtain ⟨x_1, h0, h⟩ := kI_ok h
    obtain ⟨b_2, o_2, h1, h⟩ := kptr_ok h
    obtain ⟨b_4, o_4, h2, h⟩ := kptr_ok h
    obtain ⟨b_5, o_5, h3, h⟩ := kptr_ok h
    obtain ⟨x_8, h4, h⟩ := kI_ok h
    obtain ⟨N, h⟩ := h
    refine ⟨⟨x_1, b_2, o_2, b_4, o_4, b_5, o_5, x_8, h0, h1, h2, h3, h4⟩, N, ?_⟩
    have ev : [1, 2, 4, 5, 8].map σ = [(.flat (.int .i64 x_1)), (.ptr b_2 o_2), (.ptr b_4 o_4), (.ptr b_5 o_5), (.flat (.int .i64 x_8))] := by simp only [List.map_cons, List.map_nil, h0, h1, h2, h3, h4]
    rw [ev, loop7_20]
    exact h
  · rintro ⟨⟨x_1, b_2, o_2, b_4, o_4, b_5, o_5, x_8, h0, h1, h2, h3, h4⟩, N, h⟩
    have ev : [1, 2, 4, 5, 8].map σ = [(.flat (.int .i64 x_1)), (.ptr b_2 o_2), (.ptr b_4 o_4), (.ptr b_5 o_5), (.flat (.int .i64 x_8))] := by simp only [List.map_cons, List.map_nil, h0, h1, h2, h3, h4]
    rw [ev, loop7_20] at h
    unfold Lam7_20
    simp only [h0, h1, h2, h3, h4, kI, kbool, kS, kptr, kaggN, kite, decide_true, eq_self]
    exact ⟨N, h⟩

def lx7_16 : Ex → List Nat := fun e => match e with
  | .exit 2 => [1, 2, 4, 5]
  | _ => []

theorem round7_16 (x_1 : Int) (b_2 o_2 : Nat) (b_4 o_4 : Nat) (b_5 o_5 : Nat) (x_7 : Int) (m : Mem) (G : List AV → Mem → Prop) (k : KX) : (wpA Try.prog E7 Lam7 ((loopsOf (bodyOf Try.f7)).getD 1 .skip) (only [1, 2, 4, 5, 7] [(.flat (.int .i64 x_1)), (.ptr b_2 o_2), (.ptr b_4 o_4), (.ptr b_5 o_5), (.flat (.int .i64 x_7))]) m fun e σ' m' => match e with
    | .normal => G ([1, 2, 4, 5, 7].map σ') m'
    | .exit id => k (.exit id) (only (lx7_16 (.exit id)) ((lx7_16 (.exit id)).map σ')) m'
    | .ret => k .ret (only (lx7_16 .ret) ((lx7_16 .ret).map σ')) m') = R7_16 x_1 b_2 o_2 b_4 o_4 b_5 o_5 x_7 m (fun x_7' m' => G [(.flat (.int .i64 x_1)), (.ptr b_2 o_2), (.ptr b_4 o_4), (.ptr b_5 o_5), (.flat (.int .i64 x_7'))] m') (fun m' => k (.exit 2) (only [1, 2, 4, 5] [(.flat (.int .i64 x_1)), (.ptr b_2 o_2), (.ptr b_4 o_4), (.ptr b_5 o_5)]) m') := by
  kernel_rfl

theorem loop7_16 (x_1 : Int) (b_2 o_2 : Nat) (b_4 o_4 : Nat) (b_5 o_5 : Nat) (k : KX) : ∀ (N : Nat) (x_7 : Int) (m : Mem), rounds Try.prog E7 Lam7 [1, 2, 4, 5, 7] lx7_16 ((loopsOf (bodyOf Try.f7)).getD 1 .skip) N [(.flat (.int .i64 x_1)), (.ptr b_2 o_2), (.ptr b_4 o_4), (.ptr b_5 o_5), (.flat (.int .i64 x_7))] m k = L7_16 x_1 b_2 o_2 b_4 o_4 b_5 o_5 N x_7 m (fun m' => k (.exit 2) (only [1, 2, 4, 5] [(.flat (.int .i64 x_1)), (.ptr b_2 o_2), (.ptr b_4 o_4), (.ptr b_5 o_5)]) m') := by
  intro N
  induction N with
  | zero => intros; rfl
  | succ N ih =>
    intro x_7 m
    refine (round7_16 x_1 b_2 o_2 b_4 o_4 b_5 o_5 x_7 m (fun vs m' => rounds Try.prog E7 Lam7 [1, 2, 4, 5, 7] lx7_16 ((loopsOf (bodyOf Try.f7)).getD 1 .skip) N vs m' k) k).trans ?_
    simp only [ih]
    rfl

theorem lok7_16 : LoopOK Try.prog E7 Lam7 ((loopsOf (bodyOf Try.f7)).getD 1 .skip) := by
  refine ⟨fun σ => ∃ x_1 b_2 o_2 b_4 o_4 b_5 o_5 x_7, σ 1 = .flat (.int .i64 x_1) ∧ σ 2 = .ptr b_2 o_2 ∧ σ 4 = .ptr b_4 o_4 ∧ σ 5 = .ptr b_5 o_5 ∧ σ 7 = .flat (.int .i64 x_7), [1, 2, 4, 5, 7], lx7_16, fun σ m k => ?_⟩
  have e : Lam7.loop ((loopsOf (bodyOf Try.f7)).getD 1 .skip) σ m k = Lam7_16 σ m k := by kernel_rfl
  rw [e]
  constructor
  · intro h
    unfold Lam7_16 at h
    obtain ⟨x_1, h0, h⟩ := kI_ok h
    obtain ⟨b_2, o_2, h1, h⟩ := kptr_ok h
    obtain ⟨b_4, o_4, h2, h⟩ := kptr_ok h
    obtain ⟨b_5, o_5, h3, h⟩ := kptr_ok h
    obtain ⟨x_7, h4, h⟩ := kI_ok h
    obtain ⟨N, h⟩ := h
    refine ⟨⟨x_1, b_2, o_2, b_4, o_4, b_5, o_5, x_7, h0, h1, h2, h3, h4⟩, N, ?_⟩
    have ev : [1, 2, 4, 5, 7].map σ = [(.flat (.int .i64 x_1)), (.ptr b_2 o_2), (.ptr b_4 o_4), (.ptr b_5 o_5), (.flat (.int .i64 x_7))] := by simp only [List.map_cons, List.map_nil, h0, h1, h2, h3, h4]
    rw [ev, loop7_16]
    exact h
  · rintro ⟨⟨x_1, b_2, o_2, b_4, o_4, b_5, o_5, x_7, h0, h1, h2, h3, h4⟩, N, h⟩
    have ev : [1, 2, 4, 5, 7].map σ = [(.flat (.int .i64 x_1)), (.ptr b_2 o_2), (.ptr b_4 o_4), (.ptr b_5 o_5), (.flat (.int .i64 x_7))] := by simp only [List.map_cons, List.map_nil, h0, h1, h2, h3, h4]
    rw [ev, loop7_16] at h
    unfold Lam7_16
    simp only [h0, h1, h2, h3, h4, kI, kbool, kS, kptr, kaggN, kite, decide_true, eq_self]
    exact ⟨N, h⟩

def lxp7_10102 : Ex → List Nat := fun e => match e with
  | .ret => [4]
  | _ => []

theorem pc7_10102 (x_1 : Int) (b_2 o_2 : Nat) (b_4 o_4 : Nat) (b_5 o_5 : Nat) (m : Mem) (k : KX) : once Try.prog E7 Lam7 [1, 2, 4, 5] lxp7_10102 (((secsOf (bodyOf Try.f7)).filter Lam7.cut).getD 0 .skip) [(.flat (.int .i64 x_1)), (.ptr b_2 o_2), (.ptr b_4 o_4), (.ptr b_5 o_5)] m k = P7_10102 x_1 b_2 o_2 b_4 o_4 b_5 o_5 m (fun m' => k .ret (only [4] [(.ptr b_4 o_4)]) m') := by
  kernel_rfl

theorem pok7_10102 : PieceOK Try.prog E7 Lam7 (((secsOf (bodyOf Try.f7)).filter Lam7.cut).getD 0 .skip) := by
  refine ⟨fun σ => ∃ x_1 b_2 o_2 b_4 o_4 b_5 o_5, σ 1 = .flat (.int .i64 x_1) ∧ σ 2 = .ptr b_2 o_2 ∧ σ 4 = .ptr b_4 o_4 ∧ σ 5 = .ptr b_5 o_5, [1, 2, 4, 5], lxp7_10102, fun σ m k => ?_⟩
  have e : Lam7.piece (((secsOf (bodyOf Try.f7)).filter Lam7.cut).getD 0 .skip) σ m k = LamP7_10102 σ m k := by kernel_rfl
  rw [e]
  constructor
  · intro h
    unfold LamP7_10102 at h
    obtain ⟨x_1, h0, h⟩ := kI_ok h
    obtain ⟨b_2, o_2, h1, h⟩ := kptr_ok h
    obtain ⟨b_4, o_4, h2, h⟩ := kptr_ok h
    obtain ⟨b_5, o_5, h3, h⟩ := kptr_ok h
    refine ⟨⟨x_1, b_2, o_2, b_4, o_4, b_5, o_5, h0, h1, h2, h3⟩, ?_⟩
    have ev : [1, 2, 4, 5].map σ = [(.flat (.int .i64 x_1)), (.ptr b_2 o_2), (.ptr b_4 o_4), (.ptr b_5 o_5)] := by simp only [List.map_cons, List.map_nil, h0, h1, h2, h3]
    rw [ev, pc7_10102]
    exact h
  · rintro ⟨⟨x_1, b_2, o_2, b_4, o_4, b_5, o_5, h0, h1, h2, h3⟩, h⟩
    have ev : [1, 2, 4, 5].map σ = [(.flat (.int .i64 x_1)), (.ptr b_2 o_2), (.ptr b_4 o_4), (.ptr b_5 o_5)] := by simp only [List.map_cons, List.map_nil, h0, h1, h2, h3]
    rw [ev, pc7_10102] at h
    unfold LamP7_10102
    simp only [h0, h1, h2, h3, kI, kbool, kS, kptr, kaggN, kite, decide_true, eq_self]
    exact h

def lx7_3 : Ex → List Nat := fun e => match e with
  | .exit 0 => [1, 2, 4, 5]
  | _ => []

theorem round7_3 (x_1 : Int) (b_2 o_2 : Nat) (b_4 o_4 : Nat) (b_5 o_5 : Nat) (x_6 : Int) (m : Mem) (G : List AV → Mem → Prop) (k : KX) : (wpA Try.prog E7 Lam7 ((loopsOf (bodyOf Try.f7)).getD 0 .skip) (only [1, 2, 4, 5, 6] [(.flat (.int .i64 x_1)), (.ptr b_2 o_2), (.ptr b_4 o_4), (.ptr b_5 o_5), (.flat (.int .i64 x_6))]) m fun e σ' m' => match e with
    | .normal => G ([1, 2, 4, 5, 6].map σ') m'
    | .exit id => k (.exit id) (only (lx7_3 (.exit id)) ((lx7_3 (.exit id)).map σ')) m'
    | .ret => k .ret (only (lx7_3 .ret) ((lx7_3 .ret).map σ')) m') = R7_3 x_1 b_2 o_2 b_4 o_4 b_5 o_5 x_6 m (fun x_6' m' => G [(.flat (.int .i64 x_1)), (.ptr b_2 o_2), (.ptr b_4 o_4), (.ptr b_5 o_5), (.flat (.int .i64 x_6'))] m') (fun m' => k (.exit 0) (only [1, 2, 4, 5] [(.flat (.int .i64 x_1)), (.ptr b_2 o_2), (.ptr b_4 o_4), (.ptr b_5 o_5)]) m') := by
  kernel_rfl

theorem loop7_3 (x_1 : Int) (b_2 o_2 : Nat) (b_4 o_4 : Nat) (b_5 o_5 : Nat) (k : KX) : ∀ (N : Nat) (x_6 : Int) (m : Mem), rounds Try.prog E7 Lam7 [1, 2, 4, 5, 6] lx7_3 ((loopsOf (bodyOf Try.f7)).getD 0 .skip) N [(.flat (.int .i64 x_1)), (.ptr b_2 o_2), (.ptr b_4 o_4), (.ptr b_5 o_5), (.flat (.int .i64 x_6))] m k = L7_3 x_1 b_2 o_2 b_4 o_4 b_5 o_5 N x_6 m (fun m' => k (.exit 0) (only [1, 2, 4, 5] [(.flat (.int .i64 x_1)), (.ptr b_2 o_2), (.ptr b_4 o_4), (.ptr b_5 o_5)]) m') := by
  intro N
  induction N with
  | zero => intros; rfl
  | succ N ih =>
    intro x_6 m
    refine (round7_3 x_1 b_2 o_2 b_4 o_4 b_5 o_5 x_6 m (fun vs m' => rounds Try.prog E7 Lam7 [1, 2, 4, 5, 6] lx7_3 ((loopsOf (bodyOf Try.f7)).getD 0 .skip) N vs m' k) k).trans ?_
    simp only [ih]
    rfl

theorem lok7_3 : LoopOK Try.prog E7 Lam7 ((loopsOf (bodyOf Try.f7)).getD 0 .skip) := by
  refine ⟨fun σ => ∃ x_1 b_2 o_2 b_4 o_4 b_5 o_5 x_6, σ 1 = .flat (.int .i64 x_1) ∧ σ 2 = .ptr b_2 o_2 ∧ σ 4 = .ptr b_4 o_4 ∧ σ 5 = .ptr b_5 o_5 ∧ σ 6 = .flat (.int .i64 x_6), [1, 2, 4, 5, 6], lx7_3, fun σ m k => ?_⟩
  have e : Lam7.loop ((loopsOf (bodyOf Try.f7)).getD 0 .skip) σ m k = Lam7_3 σ m k := by kernel_rfl
  rw [e]
  constructor
  · intro h
    unfold Lam7_3 at h
    obtain ⟨x_1, h0, h⟩ := kI_ok h
    obtain ⟨b_2, o_2, h1, h⟩ := kptr_ok h
    obtain ⟨b_4, o_4, h2, h⟩ := kptr_ok h
    obtain ⟨b_5, o_5, h3, h⟩ := kptr_ok h
    obtain ⟨x_6, h4, h⟩ := kI_ok h
    obtain ⟨N, h⟩ := h
    refine ⟨⟨x_1, b_2, o_2, b_4, o_4, b_5, o_5, x_6, h0, h1, h2, h3, h4⟩, N, ?_⟩
    have ev : [1, 2, 4, 5, 6].map σ = [(.flat (.int .i64 x_1)), (.ptr b_2 o_2), (.ptr b_4 o_4), (.ptr b_5 o_5), (.flat (.int .i64 x_6))] := by simp only [List.map_cons, List.map_nil, h0, h1, h2, h3, h4]
    rw [ev, loop7_3]
    exact h
  · rintro ⟨⟨x_1, b_2, o_2, b_4, o_4, b_5, o_5, x_6, h0, h1, h2, h3, h4⟩, N, h⟩
    have ev : [1, 2, 4, 5, 6].map σ = [(.flat (.int .i64 x_1)), (.ptr b_2 o_2), (.ptr b_4 o_4), (.ptr b_5 o_5), (.flat (.int .i64 x_6))] := by simp only [List.map_cons, List.map_nil, h0, h1, h2, h3, h4]
    rw [ev, loop7_3] at h
    unfold Lam7_3
    simp only [h0, h1, h2, h3, h4, kI, kbool, kS, kptr, kaggN, kite, decide_true, eq_self]
    exact ⟨N, h⟩

theorem eqn7 (c_0 : Nat → AV) (x_1 : Int) (m : Mem) (k : KV) : bodyK Try.prog E7 Lam7 Try.f7 true [(.agg 11 c_0), (.flat (.int .i64 x_1))] m k = F7 c_0 x_1 m (fun c_1000 m' => k (.agg 73 c_1000) m') := by
  kernel_rfl

theorem fs7 (w0 : World) : FS Try.prog w0 7 G7 := by
  refine (fs_body (Γ := E7) (sound_env (l := [(14, G14), (15, G15)]) w0 (by
    intro p hp
    simp only [List.mem_cons, List.not_mem_nil, or_false] at hp
    rcases hp with rfl | rfl
    · exact fs14 w0
    · exact fs15 w0)) (by kernel_rfl) Try.func7 (Λ := Lam7) (c := (bodyOf Try.f7)) (by kernel_rfl) Try.call7 (by kernel_rfl) (LS_of (bodyOf Try.f7) 3 (by kernel_rfl) (by
    intro i hi
    match i, hi with
    | 0, _ => exact lok7_3
    | 1, _ => exact lok7_16
    | 2, _ => exact lok7_20
    | i + 3, hi => omega) 1 (by kernel_rfl) (by
    intro i hi
    match i, hi with
    | 0, _ => exact pok7_10102
    | i + 1, hi => omega)) true (np := 2) (Nat.le_of_ble_eq_true (by kernel_rfl))).imp fun args => ?_
  by_cases hl : args.length = 2
  rotate_left
  · exact .inr fun m k hk => by
      unfold G7 at hk
      split at hk
      · exact hl rfl
      · exact hk
  obtain ⟨a0, a1, rfl⟩ : ∃ a0 a1, args = [a0, a1] := len_list2 hl
  rcases kaggN_or 11 a0 with ⟨c_0, rfl⟩ | h
  rotate_left
  · exact .inr fun m k hk => h _ (by simpa only [G7, kI, kbool, kS, kptr, kaggN, kite, decide_true, eq_self] using hk)
  rcases kI_or .i64 a1 with ⟨x_1, rfl⟩ | h
  rotate_left
  · exact .inr fun m k hk => h _ (by simpa only [G7, kI, kbool, kS, kptr, kaggN, kite, decide_true, eq_self] using hk)
  exact .inl fun m k => propext ⟨fun h => ⟨rfl, by rw [eqn7]; simpa only [G7, kI, kbool, kS, kptr, kaggN, kite, decide_true, eq_self] using h⟩, fun h => by have h := h.2; rw [eqn7] at h; simpa only [G7, kI, kbool, kS, kptr, kaggN, kite, decide_true, eq_self] using h⟩

/-- pianola/cp0.User -/
def F11 (b_0 o_0 : Nat) (m : Mem) (k : Bool → Mem → Prop) : Prop :=
  ldI .u32 m b_0 (o_0 + 39 + 12) fun x1 => kif ((bits .and .u32 x1 16) != 0) (ldI .u32 m b_0 (o_0 + 39 + 12) fun x2 => (Keeps m m ∧ k ((bits .and .u32 x2 2) == 0) m)) ((Keeps m m ∧ k false m))

def G11 (args : List AV) (m : Mem) (k : KV) : Prop := match args with
  | [a0] => kptr a0 fun b_0 o_0 => F11 b_0 o_0 m (fun x_1000 m' => k (.flat (.bool x_1000)) m')
  | _ => False

def E11 : Env := envOf []

def Lam11 : LEnv := ⟨fun a σ m k => match firstReg a with
  | _ => bump False,
  fun id => match id with
  | _ => bump false,
  fun b => match keyC b with
  | _ => bump false,
  fun b σ m k => match keyC b with
  | _ => bump False⟩

theorem eqn11 (b_0 o_0 : Nat) (m : Mem) (k : KV) : bodyK Try.prog E11 Lam11 Try.f11 true [(.ptr b_0 o_0)] m k = F11 b_0 o_0 m (fun x_1000 m' => k (.flat (.bool x_1000)) m') := by
  kernel_rfl

theorem fs11 (w0 : World) : FS Try.prog w0 11 G11 := by
  refine (fs_body (Γ := E11) (sound_env (l := []) w0 (by
    intro p hp
    cases hp)) (by kernel_rfl) Try.func11 (Λ := Lam11) (c := (bodyOf Try.f11)) (by kernel_rfl) Try.call11 (by kernel_rfl) (LS_of (bodyOf Try.f11) 0 (by kernel_rfl) (fun i hi => absurd hi (Nat.not_lt_zero i)) 0 (by kernel_rfl) (fun i hi => absurd hi (Nat.not_lt_zero i))) true (np := 1) (Nat.le_of_ble_eq_true (by kernel_rfl))).imp fun args => ?_
  by_cases hl : args.length = 1
  rotate_left
  · exact .inr fun m k hk => by
      unfold G11 at hk
      split at hk
      · exact hl rfl
      · exact hk
  obtain ⟨a0, rfl⟩ : ∃ a0, args = [a0] := len_list1 hl
  rcases kptr_or a0 with ⟨b_0, o_0, rfl⟩ | h
  rotate_left
  · exact .inr fun m k hk => h _ (by simpa only [G11, kI, kbool, kS, kptr, kaggN, kite, decide_true, eq_self] using hk)
  exact .inl fun m k => propext ⟨fun h => ⟨rfl, by rw [eqn11]; simpa only [G11, kI, kbool, kS, kptr, kaggN, kite, decide_true, eq_self] using h⟩, fun h => by have h := h.2; rw [eqn11] at h; simpa only [G11, kI, kbool, kS, kptr, kaggN, kite, decide_true, eq_self] using h⟩

def R22_5 (b_0 o_0 : Nat) (x_1 : Int) (c_13 : Nat → AV) (x_5 : Int) (x_14 : Int) (m : Mem) (kn : Int → Int → Mem → Prop) (k0 : Int → Mem → Prop) : Prop :=
  kif (decide (x_14 < 8)) (kif (decide (0 ≤ x_14) && decide (x_14 < 8)) (kite ((x_14).toNat * 2 + 2 ≤ 16) (newK m ⟨2, lget [(.flat (.int .u32 0)), (.flat (.int .u32 0))], 30, false⟩ fun b3 m2 => stG 2 m2 b3 0 (sub c_13 ((x_14).toNat * 2) 2) fun m4 => ldI .u32 m4 b3 0 fun x5 => kif ((bits .and .u32 (bits .xor .u32 x5 x_1) 4294966272) != 0) (kn x_5 (IntKind.wrap .i64 (x_14 + 1)) m4) (ldI .u32 m4 b3 1 fun x6 => kif ((bits .and .u32 x6 4) != 0) (k0 x_14 m4) (ldI .u32 m4 b3 0 fun x7 => ldI .u32 m4 b_0 (o_0 + 39 + 10) fun x8 => kif ((bits .and .u32 (bits .xor .u32 x7 x8) 255) == 0) (k0 x_14 m4) (kn x_5 (IntKind.wrap .i64 (x_14 + 1)) m4)))) False) False) (k0 x_5 m)

def L22_5 (b_0 o_0 : Nat) (x_1 : Int) (c_13 : Nat → AV) : Nat → Int → Int → Mem → (Int → Mem → Prop) → Prop
  | 0, _, _,  _, _ => bump False
  | N + 1, x_5, x_14,  m, k0 => R22_5 b_0 o_0 x_1 c_13 x_5 x_14 m (fun x_5' x_14' m' => L22_5 b_0 o_0 x_1 c_13 N x_5' x_14' m' k0) k0

/-- pianola/tlb.Find -/
def F22 (b_0 o_0 : Nat) (x_1 : Int) (m : Mem) (k : Int → Mem → Prop) : Prop :=
  ldG 16 m b_0 (o_0 + 55) fun c1 => ∃ N11, L22_5 b_0 o_0 x_1 c1 N11 (-1) 0 m (fun x9 m10 => (Keeps m m10 ∧ k x9 m))

def G22 (args : List AV) (m : Mem) (k : KV) : Prop := match args with
  | [a0, a1] => kptr a0 fun b_0 o_0 => kI .u32 a1 fun x_1 => F22 b_0 o_0 x_1 m (fun x_1000 m' => k (.flat (.int .i64 x_1000)) m')
  | _ => False

def E22 : Env := envOf []

def Lam22_5 (σ : Nat → AV) (m : Mem) (k : KX) : Prop := kptr (σ 0) fun b_0 o_0 => kI .u32 (σ 1) fun x_1 => kI .i64 (σ 5) fun x_5 => kaggN 16 (σ 13) fun c_13 => kI .i64 (σ 14) fun x_14 => ∃ N, L22_5 b_0 o_0 x_1 c_13 N x_5 x_14 m (fun x_5' m' => k (.exit 0) (only [5] [(.flat (.int .i64 x_5'))]) m')

def Lam22 : LEnv := ⟨fun a σ m k => match firstReg a with
  | some 5 => Lam22_5 σ m k
  | _ => bump False,
  fun id => match id with
  | _ => bump false,
  fun b => match keyC b with
  | _ => bump false,
  fun b σ m k => match keyC b with
  | _ => bump False⟩

def lx22_5 : Ex → List Nat := fun e => match e with
  | .exit 0 => [5]
  | _ => []

theorem round22_5 (b_0 o_0 : Nat) (x_1 : Int) (c_13 : Nat → AV) (x_5 : Int) (x_14 : Int) (m : Mem) (G : List AV → Mem → Prop) (k : KX) : (wpA Try.prog E22 Lam22 ((loopsOf (bodyOf Try.f22)).getD 0 .skip) (only [0, 1, 5, 13, 14] [(.ptr b_0 o_0), (.flat (.int .u32 x_1)), (.flat (.int .i64 x_5)), (.agg 16 c_13), (.flat (.int .i64 x_14))]) m fun e σ' m' => match e with
    | .normal => G ([0, 1, 5, 13, 14].map σ') m'
    | .exit id => k (.exit id) (only (lx22_5 (.exit id)) ((lx22_5 (.exit id)).map σ')) m'
    | .ret => k .ret (only (lx22_5 .ret) ((lx22_5 .ret).map σ')) m') = R22_5 b_0 o_0 x_1 c_13 x_5 x_14 m (fun x_5' x_14' m' => G [(.ptr b_0 o_0), (.flat (.int .u32 x_1)), (.flat (.int .i64 x_5')), (.agg 16 c_13), (.flat (.int .i64 x_14'))] m') (fun x_5' m' => k (.exit 0) (only [5] [(.flat (.int .i64 x_5'))]) m') := by
  kernel_rfl

theorem loop22_5 (b_0 o_0 : Nat) (x_1 : Int) (c_13 : Nat → AV) (k : KX) : ∀ (N : Nat) (x_5 : Int) (x_14 : Int) (m : Mem), rounds Try.prog E22 Lam22 [0, 1, 5, 13, 14] lx22_5 ((loopsOf (bodyOf Try.f22)).getD 0 .skip) N [(.ptr b_0 o_0), (.flat (.int .u32 x_1)), (.flat (.int .i64 x_5)), (.agg 16 c_13), (.flat (.int .i64 x_14))] m k = L22_5 b_0 o_0 x_1 c_13 N x_5 x_14 m (fun x_5' m' => k (.exit 0) (only [5] [(.flat (.int .i64 x_5'))]) m') := by
  intro N
  induction N with
  | zero => intros; rfl
  | succ N ih =>
    intro x_5 x_14 m
    refine (round22_5 b_0 o_0 x_1 c_13 x_5 x_14 m (fun vs m' => rounds Try.prog E22 Lam22 [0, 1, 5, 13, 14] lx22_5 ((loopsOf (bodyOf Try.f22)).getD 0 .skip) N vs m' k) k).trans ?_
    simp only [ih]
    rfl

theorem lok22_5 : LoopOK Try.prog E22 Lam22 ((loopsOf (bodyOf Try.f22)).getD 0 .skip) := by
  refine ⟨fun σ => ∃ b_0 o_0 x_1 x_5 c_13 x_14, σ 0 = .ptr b_0 o_0 ∧ σ 1 = .flat (.int .u32 x_1) ∧ σ 5 = .flat (.int .i64 x_5) ∧ σ 13 = .agg 16 c_13 ∧ σ 14 = .flat (.int .i64 x_14), [0, 1, 5, 13, 14], lx22_5, fun σ m k => ?_⟩
  have e : Lam22.loop ((loopsOf (bodyOf Try.f22)).getD 0 .skip) σ m k = Lam22_5 σ m k := by kernel_rfl
  rw [e]
  constructor
  · intro h
    unfold Lam22_5 at h
    obtain ⟨b_0, o_0, h0, h⟩ := kptr_ok h
    obtain ⟨x_1, h1, h⟩ := kI_ok h
    obtain ⟨x_5, h2, h⟩ := kI_ok h
    obtain ⟨c_13, h3, h⟩ := kaggN_ok h
    obtain ⟨x_14, h4, h⟩ := kI_ok h
    obtain ⟨N, h⟩ := h
    refine ⟨⟨b_0, o_0, x_1, x_5, c_13, x_14, h0, h1, h2, h3, h4⟩, N, ?_⟩
    have ev : [0, 1, 5, 13, 14].map σ = [(.ptr b_0 o_0), (.flat (.int .u32 x_1)), (.flat (.int .i64 x_5)), (.agg 16 c_13), (.flat (.int .i64 x_14))] := by simp only [List.map_cons, List.map_nil, h0, h1, h2, h3, h4]
    rw [ev, loop22_5]
    exact h
  · rintro ⟨⟨b_0, o_0, x_1, x_5, c_13, x_14, h0, h1, h2, h3, h4⟩, N, h⟩
    have ev : [0, 1, 5, 13, 14].map σ = [(.ptr b_0 o_0), (.flat (.int .u32 x_1)), (.flat (.int .i64 x_5)), (.agg 16 c_13), (.flat (.int .i64 x_14))] := by simp only [List.map_cons, List.map_nil, h0, h1, h2, h3, h4]
    rw [ev, loop22_5] at h
    unfold Lam22_5
    simp only [h0, h1, h2, h3, h4, kI, kbool, kS, kptr, kaggN, kite, decide_true, eq_self]
    exact ⟨N, h⟩

theorem eqn22 (b_0 o_0 : Nat) (x_1 : Int) (m : Mem) (k : KV) : bodyK Try.prog E22 Lam22 Try.f22 true [(.ptr b_0 o_0), (.flat (.int .u32 x_1))] m k = F22 b_0 o_0 x_1 m (fun x_1000 m' => k (.flat (.int .i64 x_1000)) m') := by
  kernel_rfl

theorem fs22 (w0 : World) : FS Try.prog w0 22 G22 := by
  refine (fs_body (Γ := E22) (sound_env (l := []) w0 (by
    intro p hp
    cases hp)) (by kernel_rfl) Try.func22 (Λ := Lam22) (c := (bodyOf Try.f22)) (by kernel_rfl) Try.call22 (by kernel_rfl) (LS_of (bodyOf Try.f22) 1 (by kernel_rfl) (by
    intro i hi
    match i, hi with
    | 0, _ => exact lok22_5
    | i + 1, hi => omega) 0 (by kernel_rfl) (fun i hi => absurd hi (Nat.not_lt_zero i))) true (np := 2) (Nat.le_of_ble_eq_true (by kernel_rfl))).imp fun args => ?_
  by_cases hl : args.length = 2
  rotate_left
  · exact .inr fun m k hk => by
      unfold G22 at hk
      split at hk
      · exact hl rfl
      · exact hk
  obtain ⟨a0, a1, rfl⟩ : ∃ a0 a1, args = [a0, a1] := len_list2 hl
  rcases kptr_or a0 with ⟨b_0, o_0, rfl⟩ | h
  rotate_left
  · exact .inr fun m k hk => h _ (by simpa only [G22, kI, kbool, kS, kptr, kaggN, kite, decide_true, eq_self] using hk)
  rcases kI_or .u32 a1 with ⟨x_1, rfl⟩ | h
  rotate_left
  · exact .inr fun m k hk => h _ (by simpa only [G22, kI, kbool, kS, kptr, kaggN, kite, decide_true, eq_self] using hk)
  exact .inl fun m k => propext ⟨fun h => ⟨rfl, by rw [eqn22]; simpa only [G22, kI, kbool, kS, kptr, kaggN, kite, decide_true, eq_self] using h⟩, fun h => by have h := h.2; rw [eqn22] at h; simpa only [G22, kI, kbool, kS, kptr, kaggN, kite, decide_true, eq_self] using h⟩

def P19_14004 (x_1 : Int) (x_11 : Int) (x_38 : Bool) (m : Mem) (kr : Int → Int → Bool → Mem → Prop) : Prop :=
  kif x_38 (kr 0 1 false m) (kr (bits .or .u32 (bits .and .u32 x_11 4294966272) (bits .and .u32 x_1 1023)) (-1) false m)

def P19_6102 (b_0 o_0 : Nat) (x_1 : Int) (x_2 : Bool) (x_9 : Int) (m : Mem) (kr : Int → Int → Bool → Mem → Prop) : Prop :=
  F22 b_0 o_0 x_1 m fun x1 m2 => kif (decide (x1 < 0)) (kr 0 x_9 true m2) (kif (decide (0 ≤ x1) && decide (x1 < 8)) (ldI .u32 m2 b_0 (o_0 + 55 + (x1).toNat * 2 + 1) fun x3 => kif ((bits .and .u32 x3 1) == 0) (kr 0 x_9 false m2) (kif x_2 (P19_14004 x_1 x3 ((bits .and .u32 x3 2) == 0) m2 (fun x4 x5 x6 m7 => kr x4 x5 x6 m7)) (P19_14004 x_1 x3 false m2 (fun x8 x9 x10 m11 => kr x8 x9 x10 m11)))) False)

/-- pianola/tlb.Look -/
def F19 (b_0 o_0 : Nat) (x_1 : Int) (x_2 : Bool) (m : Mem) (k : Int → Int → Bool → Mem → Prop) : Prop :=
  kif x_2 (P19_6102 b_0 o_0 x_1 x_2 3 m (fun x12 x13 x14 m15 => (Keeps m m15 ∧ k x12 x13 x14 m))) (P19_6102 b_0 o_0 x_1 x_2 2 m (fun x16 x17 x18 m19 => (Keeps m m19 ∧ k x16 x17 x18 m)))

def G19 (args : List AV) (m : Mem) (k : KV) : Prop := match args with
  | [a0, a1, a2] => kptr a0 fun b_0 o_0 => kI .u32 a1 fun x_1 => kbool a2 fun x_2 => F19 b_0 o_0 x_1 x_2 m (fun x_1000 x_1001 x_1002 m' => k (.tup [(.flat (.int .u32 x_1000)), (.flat (.int .i64 x_1001)), (.flat (.bool x_1002))]) m')
  | _ => False

def E19 : Env := envOf [(22, G22)]

def LamP19_6102 (σ : Nat → AV) (m : Mem) (k : KX) : Prop := kptr (σ 0) fun b_0 o_0 => kI .u32 (σ 1) fun x_1 => kbool (σ 2) fun x_2 => kI .i64 (σ 9) fun x_9 => P19_6102 b_0 o_0 x_1 x_2 x_9 m (fun x_6' x_7' x_8' m' => k .ret (only [6, 7, 8] [(.flat (.int .u32 x_6')), (.flat (.int .i64 x_7')), (.flat (.bool x_8'))]) m')

def LamP19_14004 (σ : Nat → AV) (m : Mem) (k : KX) : Prop := kI .u32 (σ 1) fun x_1 => kI .u32 (σ 11) fun x_11 => kbool (σ 38) fun x_38 => P19_14004 x_1 x_11 x_38 m (fun x_6' x_7' x_8' m' => k .ret (only [6, 7, 8] [(.flat (.int .u32 x_6')), (.flat (.int .i64 x_7')), (.flat (.bool x_8'))]) m')

def Lam19 : LEnv := ⟨fun a σ m k => match firstReg a with
  | _ => bump False,
  fun id => match id with
  | _ => bump false,
  fun b => match keyC b with
  | some 6102 => true
  | some 14004 => true
  | _ => bump false,
  fun b σ m k => match keyC b with
  | some 6102 => LamP19_6102 σ m k
  | some 14004 => LamP19_14004 σ m k
  | _ => bump False⟩

def lxp19_14004 : Ex → List Nat := fun e => match e with
  | .ret => [6, 7, 8]
  | _ => []

theorem pc19_14004 (x_1 : Int) (x_11 : Int) (x_38 : Bool) (m : Mem) (k : KX) : once Try.prog E19 Lam19 [1, 11, 38] lxp19_14004 (((secsOf (bodyOf Try.f19)).filter Lam19.cut).getD 1 .skip) [(.flat (.int .u32 x_1)), (.flat (.int .u32 x_11)), (.flat (.bool x_38))] m k = P19_14004 x_1 x_11 x_38 m (fun x_6' x_7' x_8' m' => k .ret (only [6, 7, 8] [(.flat (.int .u32 x_6')), (.flat (.int .i64 x_7')), (.flat (.bool x_8'))]) m') := by
  kernel_rfl

theorem pok19_14004 : PieceOK Try.prog E19 Lam19 (((secsOf (bodyOf Try.f19)).filter Lam19.cut).getD 1 .skip) := by
  refine ⟨fun σ => ∃ x_1 x_11 x_38, σ 1 = .flat (.int .u32 x_1) ∧ σ 11 = .flat (.int .u32 x_11) ∧ σ 38 = .flat (.bool x_38), [1, 11, 38], lxp19_14004, fun σ m k => ?_⟩
  have e : Lam19.piece (((secsOf (bodyOf Try.f19)).filter Lam19.cut).getD 1 .skip) σ m k = LamP19_14004 σ m k := by kernel_rfl
  rw [e]
  constructor
  · intro h
    unfold LamP19_14004 at h
    obtain ⟨x_1, h0, h⟩ := kI_ok h
    obtain ⟨x_11, h1, h⟩ := kI_ok h
    obtain ⟨x_38, h2, h⟩ := kbool_ok h
    refine ⟨⟨x_1, x_11, x_38, h0, h1, h2⟩, ?_⟩
    have ev : [1, 11, 38].map σ = [(.flat (.int .u32 x_1)), (.flat (.int .u32 x_11)), (.flat (.bool x_38))] := by simp only [List.map_cons, List.map_nil, h0, h1, h2]
    rw [ev, pc19_14004]
    exact h
  · rintro ⟨⟨x_1, x_11, x_38, h0, h1, h2⟩, h⟩
    have ev : [1, 11, 38].map σ = [(.flat (.int .u32 x_1)), (.flat (.int .u32 x_11)), (.flat (.bool x_38))] := by simp only [List.map_cons, List.map_nil, h0, h1, h2]
    rw [ev, pc19_14004] at h
    unfold LamP19_14004
    simp only [h0, h1, h2, kI, kbool, kS, kptr, kaggN, kite, decide_true, eq_self]
    exact h

def lxp19_6102 : Ex → List Nat := fun e => match e with
  | .ret => [6, 7, 8]
  | _ => []

theorem pc19_6102 (b_0 o_0 : Nat) (x_1 : Int) (x_2 : Bool) (x_9 : Int) (m : Mem) (k : KX) : once Try.prog E19 Lam19 [0, 1, 2, 9] lxp19_6102 (((secsOf (bodyOf Try.f19)).filter Lam19.cut).getD 0 .skip) [(.ptr b_0 o_0), (.flat (.int .u32 x_1)), (.flat (.bool x_2)), (.flat (.int .i64 x_9))] m k = P19_6102 b_0 o_0 x_1 x_2 x_9 m (fun x_6' x_7' x_8' m' => k .ret (only [6, 7, 8] [(.flat (.int .u32 x_6')), (.flat (.int .i64 x_7')), (.flat (.bool x_8'))]) m') := by
  kernel_rfl

theorem pok19_6102 : PieceOK Try.prog E19 Lam19 (((secsOf (bodyOf Try.f19)).filter Lam19.cut).getD 0 .skip) := by
  refine ⟨fun σ => ∃ b_0 o_0 x_1 x_2 x_9, σ 0 = .ptr b_0 o_0 ∧ σ 1 = .flat (.int .u32 x_1) ∧ σ 2 = .flat (.bool x_2) ∧ σ 9 = .flat (.int .i64 x_9), [0, 1, 2, 9], lxp19_6102, fun σ m k => ?_⟩
  have e : Lam19.piece (((secsOf (bodyOf Try.f19)).filter Lam19.cut).getD 0 .skip) σ m k = LamP19_6102 σ m k := by kernel_rfl
  rw [e]
  constructor
  · intro h
    unfold LamP19_6102 at h
    obtain ⟨b_0, o_0, h0, h⟩ := kptr_ok h
    obtain ⟨x_1, h1, h⟩ := kI_ok h
    obtain ⟨x_2, h2, h⟩ := kbool_ok h
    obtain ⟨x_9, h3, h⟩ := kI_ok h
    refine ⟨⟨b_0, o_0, x_1, x_2, x_9, h0, h1, h2, h3⟩, ?_⟩
    have ev : [0, 1, 2, 9].map σ = [(.ptr b_0 o_0), (.flat (.int .u32 x_1)), (.flat (.bool x_2)), (.flat (.int .i64 x_9))] := by simp only [List.map_cons, List.map_nil, h0, h1, h2, h3]
    rw [ev, pc19_6102]
    exact h
  · rintro ⟨⟨b_0, o_0, x_1, x_2, x_9, h0, h1, h2, h3⟩, h⟩
    have ev : [0, 1, 2, 9].map σ = [(.ptr b_0 o_0), (.flat (.int .u32 x_1)), (.flat (.bool x_2)), (.flat (.int .i64 x_9))] := by simp only [List.map_cons, List.map_nil, h0, h1, h2, h3]
    rw [ev, pc19_6102] at h
    unfold LamP19_6102
    simp only [h0, h1, h2, h3, kI, kbool, kS, kptr, kaggN, kite, decide_true, eq_self]
    exact h

theorem eqn19 (b_0 o_0 : Nat) (x_1 : Int) (x_2 : Bool) (m : Mem) (k : KV) : bodyK Try.prog E19 Lam19 Try.f19 true [(.ptr b_0 o_0), (.flat (.int .u32 x_1)), (.flat (.bool x_2))] m k = F19 b_0 o_0 x_1 x_2 m (fun x_1000 x_1001 x_1002 m' => k (.tup [(.flat (.int .u32 x_1000)), (.flat (.int .i64 x_1001)), (.flat (.bool x_1002))]) m') := by
  kernel_rfl

theorem fs19 (w0 : World) : FS Try.prog w0 19 G19 := by
  refine (fs_body (Γ := E19) (sound_env (l := [(22, G22)]) w0 (by
    intro p hp
    simp only [List.mem_cons, List.not_mem_nil, or_false] at hp
    rcases hp with rfl
    · exact fs22 w0)) (by kernel_rfl) Try.func19 (Λ := Lam19) (c := (bodyOf Try.f19)) (by kernel_rfl) Try.call19 (by kernel_rfl) (LS_of (bodyOf Try.f19) 0 (by kernel_rfl) (fun i hi => absurd hi (Nat.not_lt_zero i)) 2 (by kernel_rfl) (by
    intro i hi
    match i, hi with
    | 0, _ => exact pok19_6102
    | 1, _ => exact pok19_14004
    | i + 2, hi => omega)) true (np := 3) (Nat.le_of_ble_eq_true (by kernel_rfl))).imp fun args => ?_
  by_cases hl : args.length = 3
  rotate_left
  · exact .inr fun m k hk => by
      unfold G19 at hk
      split at hk
      · exact hl rfl
      · exact hk
  obtain ⟨a0, a1, a2, rfl⟩ : ∃ a0 a1 a2, args = [a0, a1, a2] := len_list3 hl
  rcases kptr_or a0 with ⟨b_0, o_0, rfl⟩ | h
  rotate_left
  · exact .inr fun m k hk => h _ (by simpa only [G19, kI, kbool, kS, kptr, kaggN, kite, decide_true, eq_self] using hk)
  rcases kI_or .u32 a1 with ⟨x_1, rfl⟩ | h
  rotate_left
  · exact .inr fun m k hk => h _ (by simpa only [G19, kI, kbool, kS, kptr, kaggN, kite, decide_true, eq_self] using hk)
  rcases kbool_or a2 with ⟨x_2, rfl⟩ | h
  rotate_left
  · exact .inr fun m k hk => h _ (by simpa only [G19, kI, kbool, kS, kptr, kaggN, kite, decide_true, eq_self] using hk)
  exact .inl fun m k => propext ⟨fun h => ⟨rfl, by rw [eqn19]; simpa only [G19, kI, kbool, kS, kptr, kaggN, kite, decide_true, eq_self] using h⟩, fun h => by have h := h.2; rw [eqn19] at h; simpa only [G19, kI, kbool, kS, kptr, kaggN, kite, decide_true, eq_self] using h⟩

def P10_12102 (b_0 o_0 : Nat) (x_1 : Int) (x_3 : Bool) (m : Mem) (kr : Int → Int → Bool → Mem → Prop) : Prop :=
  F19 b_0 o_0 x_1 x_3 m fun x18 x19 x20 m21 => kr x18 x19 x20 m21

def P10_9004 (b_0 o_0 : Nat) (x_1 : Int) (x_3 : Bool) (x_11 : Int) (x_21 : Bool) (m : Mem) (kr : Int → Int → Bool → Mem → Prop) (kn : Mem → Prop) : Prop :=
  kif x_21 (kr 0 x_11 false m) (kif (decide (x_1 ≥ 2147483648)) (kif (decide (x_1 < 3221225472)) (kr (bits .and .u32 x_1 536870911) (-1) false m) (kn  m)) (kn  m))

def P10_8105 (b_0 o_0 : Nat) (x_1 : Int) (x_2 : Int) (x_3 : Bool) (x_11 : Int) (m : Mem) (kr : Int → Int → Bool → Mem → Prop) : Prop :=
  kif (decide (IntKind.wrap .u32 x_2 = 0)) False (kif ((x_1.tmod (IntKind.wrap .u32 x_2)) != 0) (P10_9004 b_0 o_0 x_1 x_3 x_11 true m (fun x3 x4 x5 m6 => kr x3 x4 x5 m6) (fun m7 => P10_12102 b_0 o_0 x_1 x_3 m7 (fun x22 x23 x24 m25 => kr x22 x23 x24 m25))) (kif (decide (x_1 ≥ 2147483648)) (F11 b_0 o_0 m fun x1 m2 => P10_9004 b_0 o_0 x_1 x_3 x_11 x1 m2 (fun x8 x9 x10 m11 => kr x8 x9 x10 m11) (fun m12 => P10_12102 b_0 o_0 x_1 x_3 m12 (fun x26 x27 x28 m29 => kr x26 x27 x28 m29))) (P10_9004 b_0 o_0 x_1 x_3 x_11 false m (fun x13 x14 x15 m16 => kr x13 x14 x15 m16) (fun m17 => P10_12102 b_0 o_0 x_1 x_3 m17 (fun x30 x31 x32 m33 => kr x30 x31 x32 m33)))))

def P10_6103 (b_0 o_0 : Nat) (x_1 : Int) (x_2 : Int) (x_3 : Bool) (x_11 : Int) (m : Mem) (kr : Int → Int → Bool → Mem → Prop) : Prop :=
  kif (x_2 != 1) (kif (x_2 != 2) (P10_8105 b_0 o_0 x_1 4 x_3 x_11 m (fun x34 x35 x36 m37 => kr x34 x35 x36 m37)) (P10_8105 b_0 o_0 x_1 x_2 x_3 x_11 m (fun x38 x39 x40 m41 => kr x38 x39 x40 m41))) (P10_8105 b_0 o_0 x_1 x_2 x_3 x_11 m (fun x42 x43 x44 m45 => kr x42 x43 x44 m45))

/-- pianola/seg.Find -/
def F10 (b_0 o_0 : Nat) (x_1 : Int) (x_2 : Int) (x_3 : Bool) (m : Mem) (k : Int → Int → Bool → Mem → Prop) : Prop :=
  kif x_3 (P10_6103 b_0 o_0 x_1 x_2 x_3 5 m (fun x46 x47 x48 m49 => (Keeps m m49 ∧ k x46 x47 x48 m))) (P10_6103 b_0 o_0 x_1 x_2 x_3 4 m (fun x50 x51 x52 m53 => (Keeps m m53 ∧ k x50 x51 x52 m)))

def G10 (args : List AV) (m : Mem) (k : KV) : Prop := match args with
  | [a0, a1, a2, a3] => kptr a0 fun b_0 o_0 => kI .u32 a1 fun x_1 => kI .i64 a2 fun x_2 => kbool a3 fun x_3 => F10 b_0 o_0 x_1 x_2 x_3 m (fun x_1000 x_1001 x_1002 m' => k (.tup [(.flat (.int .u32 x_1000)), (.flat (.int .i64 x_1001)), (.flat (.bool x_1002))]) m')
  | _ => False

def E10 : Env := envOf [(11, G11), (19, G19)]

def LamP10_6103 (σ : Nat → AV) (m : Mem) (k : KX) : Prop := kptr (σ 0) fun b_0 o_0 => kI .u32 (σ 1) fun x_1 => kI .i64 (σ 2) fun x_2 => kbool (σ 3) fun x_3 => kI .i64 (σ 11) fun x_11 => P10_6103 b_0 o_0 x_1 x_2 x_3 x_11 m (fun x_8' x_9' x_10' m' => k .ret (only [8, 9, 10] [(.flat (.int .u32 x_8')), (.flat (.int .i64 x_9')), (.flat (.bool x_10'))]) m')

def LamP10_8105 (σ : Nat → AV) (m : Mem) (k : KX) : Prop := kptr (σ 0) fun b_0 o_0 => kI .u32 (σ 1) fun x_1 => kI .i64 (σ 2) fun x_2 => kbool (σ 3) fun x_3 => kI .i64 (σ 11) fun x_11 => P10_8105 b_0 o_0 x_1 x_2 x_3 x_11 m (fun x_8' x_9' x_10' m' => k .ret (only [8, 9, 10] [(.flat (.int .u32 x_8')), (.flat (.int .i64 x_9')), (.flat (.bool x_10'))]) m')

def LamP10_9004 (σ : Nat → AV) (m : Mem) (k : KX) : Prop := kptr (σ 0) fun b_0 o_0 => kI .u32 (σ 1) fun x_1 => kbool (σ 3) fun x_3 => kI .i64 (σ 11) fun x_11 => kbool (σ 21) fun x_21 => P10_9004 b_0 o_0 x_1 x_3 x_11 x_21 m (fun x_8' x_9' x_10' m' => k .ret (only [8, 9, 10] [(.flat (.int .u32 x_8')), (.flat (.int .i64 x_9')), (.flat (.bool x_10'))]) m') (fun m' => k .normal (only [0, 1, 3] [(.ptr b_0 o_0), (.flat (.int .u32 x_1)), (.flat (.bool x_3))]) m')

def LamP10_12102 (σ : Nat → AV) (m : Mem) (k : KX) : Prop := kptr (σ 0) fun b_0 o_0 => kI .u32 (σ 1) fun x_1 => kbool (σ 3) fun x_3 => P10_12102 b_0 o_0 x_1 x_3 m (fun x_8' x_9' x_10' m' => k .ret (only [8, 9, 10] [(.flat (.int .u32 x_8')), (.flat (.int .i64 x_9')), (.flat (.bool x_10'))]) m')

def Lam10 : LEnv := ⟨fun a σ m k => match firstReg a with
  | _ => bump False,
  fun id => match id with
  | _ => bump false,
  fun b => match keyC b with
  | some 6103 => true
  | some 8105 => true
  | some 9004 => true
  | some 12102 => true
  | _ => bump false,
  fun b σ m k => match keyC b with
  | some 6103 => LamP10_6103 σ m k
  | some 8105 => LamP10_8105 σ m k
  | some 9004 => LamP10_9004 σ m k
  | some 12102 => LamP10_12102 σ m k
  | _ => bump False⟩

def lxp10_12102 : Ex → List Nat := fun e => match e with
  | .ret => [8, 9, 10]
  | _ => []

theorem pc10_12102 (b_0 o_0 : Nat) (x_1 : Int) (x_3 : Bool) (m : Mem) (k : KX) : once Try.prog E10 Lam10 [0, 1, 3] lxp10_12102 (((secsOf (bodyOf Try.f10)).filter Lam10.cut).getD 2 .skip) [(.ptr b_0 o_0), (.flat (.int .u32 x_1)), (.flat (.bool x_3))] m k = P10_12102 b_0 o_0 x_1 x_3 m (fun x_8' x_9' x_10' m' => k .ret (only [8, 9, 10] [(.flat (.int .u32 x_8')), (.flat (.int .i64 x_9')), (.flat (.bool x_10'))]) m') := by
  kernel_rfl

theorem pok10_12102 : PieceOK Try.prog E10 Lam10 (((secsOf (bodyOf Try.f10)).filter Lam10.cut).getD 2 .skip) := by
  refine ⟨fun σ => ∃ b_0 o_0 x_1 x_3, σ 0 = .ptr b_0 o_0 ∧ σ 1 = .flat (.int .u32 x_1) ∧ σ 3 = .flat (.bool x_3), [0, 1, 3], lxp10_12102, fun σ m k => ?_⟩
  have e : Lam10.piece (((secsOf (bodyOf Try.f10)).filter Lam10.cut).getD 2 .skip) σ m k = LamP10_12102 σ m k := by kernel_rfl
  rw [e]
  constructor
  · intro h
    unfold LamP10_12102 at h
    obtain ⟨b_0, o_0, h0, h⟩ := kptr_ok h
    obtain ⟨x_1, h1, h⟩ := kI_ok h
    obtain ⟨x_3, h2, h⟩ := kbool_ok h
    refine ⟨⟨b_0, o_0, x_1, x_3, h0, h1, h2⟩, ?_⟩
    have ev : [0, 1, 3].map σ = [(.ptr b_0 o_0), (.flat (.int .u32 x_1)), (.flat (.bool x_3))] := by simp only [List.map_cons, List.map_nil, h0, h1, h2]
    rw [ev, pc10_12102]
    exact h
  · rintro ⟨⟨b_0, o_0, x_1, x_3, h0, h1, h2⟩, h⟩
    have ev : [0, 1, 3].map σ = [(.ptr b_0 o_0), (.flat (.int .u32 x_1)), (.flat (.bool x_3))] := by simp only [List.map_cons, List.map_nil, h0, h1, h2]
    rw [ev, pc10_12102] at h
    unfold LamP10_12102
    simp only [h0, h1, h2, kI, kbool, kS, kptr, kaggN, kite, decide_true, eq_self]
    exact h

def lxp10_9004 : Ex → List Nat := fun e => match e with
  | .ret => [8, 9, 10]
  | .normal => [0, 1, 3]
  | _ => []

theorem pc10_9004 (b_0 o_0 : Nat) (x_1 : Int) (x_3 : Bool) (x_11 : Int) (x_21 : Bool) (m : Mem) (k : KX) : once Try.prog E10 Lam10 [0, 1, 3, 11, 21] lxp10_9004 (((secsOf (bodyOf Try.f10)).filter Lam10.cut).getD 3 .skip) [(.ptr b_0 o_0), (.flat (.int .u32 x_1)), (.flat (.bool x_3)), (.flat (.int .i64 x_11)), (.flat (.bool x_21))] m k = P10_9004 b_0 o_0 x_1 x_3 x_11 x_21 m (fun x_8' x_9' x_10' m' => k .ret (only [8, 9, 10] [(.flat (.int .u32 x_8')), (.flat (.int .i64 x_9')), (.flat (.bool x_10'))]) m') (fun m' => k .normal (only [0, 1, 3] [(.ptr b_0 o_0), (.flat (.int .u32 x_1)), (.flat (.bool x_3))]) m') := by
  kernel_rfl

theorem pok10_9004 : PieceOK Try.prog E10 Lam10 (((secsOf (bodyOf Try.f10)).filter Lam10.cut).getD 3 .skip) := by
  refine ⟨fun σ => ∃ b_0 o_0 x_1 x_3 x_11 x_21, σ 0 = .ptr b_0 o_0 ∧ σ 1 = .flat (.int .u32 x_1) ∧ σ 3 = .flat (.bool x_3) ∧ σ 11 = .flat (.int .i64 x_11) ∧ σ 21 = .flat (.bool x_21), [0, 1, 3, 11, 21], lxp10_9004, fun σ m k => ?_⟩
  have e : Lam10.piece (((secsOf (bodyOf Try.f10)).filter Lam10.cut).getD 3 .skip) σ m k = LamP10_9004 σ m k := by kernel_rfl
  rw [e]
  constructor
  · intro h
    unfold LamP10_9004 at h
    obtain ⟨b_0, o_0, h0, h⟩ := kptr_ok h
    obtain ⟨x_1, h1, h⟩ := kI_ok h
    obtain ⟨x_3, h2, h⟩ := kbool_ok h
    obtain ⟨x_11, h3, h⟩ := kI_ok h
    obtain ⟨x_21, h4, h⟩ := kbool_ok h
    refine ⟨⟨b_0, o_0, x_1, x_3, x_11, x_21, h0, h1, h2, h3, h4⟩, ?_⟩
    have ev : [0, 1, 3, 11, 21].map σ = [(.ptr b_0 o_0), (.flat (.int .u32 x_1)), (.flat (.bool x_3)), (.flat (.int .i64 x_11)), (.flat (.bool x_21))] := by simp only [List.map_cons, List.map_nil, h0, h1, h2, h3, h4]
    rw [ev, pc10_9004]
    exact h
  · rintro ⟨⟨b_0, o_0, x_1, x_3, x_11, x_21, h0, h1, h2, h3, h4⟩, h⟩
    have ev : [0, 1, 3, 11, 21].map σ = [(.ptr b_0 o_0), (.flat (.int .u32 x_1)), (.flat (.bool x_3)), (.flat (.int .i64 x_11)), (.flat (.bool x_21))] := by simp only [List.map_cons, List.map_nil, h0, h1, h2, h3, h4]
    rw [ev, pc10_9004] at h
    unfold LamP10_9004
    simp only [h0, h1, h2, h3, h4, kI, kbool, kS, kptr, kaggN, kite, decide_true, eq_self]
    exact h

def lxp10_8105 : Ex → List Nat := fun e => match e with
  | .ret => [8, 9, 10]
  | _ => []

theorem pc10_8105 (b_0 o_0 : Nat) (x_1 : Int) (x_2 : Int) (x_3 : Bool) (x_11 : Int) (m : Mem) (k : KX) : once Try.prog E10 Lam10 [0, 1, 2, 3, 11] lxp10_8105 (((secsOf (bodyOf Try.f10)).filter Lam10.cut).getD 1 .skip) [(.ptr b_0 o_0), (.flat (.int .u32 x_1)), (.flat (.int .i64 x_2)), (.flat (.bool x_3)), (.flat (.int .i64 x_11))] m k = P10_8105 b_0 o_0 x_1 x_2 x_3 x_11 m (fun x_8' x_9' x_10' m' => k .ret (only [8, 9, 10] [(.flat (.int .u32 x_8')), (.flat (.int .i64 x_9')), (.flat (.bool x_10'))]) m') := by
  kernel_rfl

theorem pok10_8105 : PieceOK Try.prog E10 Lam10 (((secsOf (bodyOf Try.f10)).filter Lam10.cut).getD 1 .skip) := by
  refine ⟨fun σ => ∃ b_0 o_0 x_1 x_2 x_3 x_11, σ 0 = .ptr b_0 o_0 ∧ σ 1 = .flat (.int .u32 x_1) ∧ σ 2 = .flat (.int .i64 x_2) ∧ σ 3 = .flat (.bool x_3) ∧ σ 11 = .flat (.int .i64 x_11), [0, 1, 2, 3, 11], lxp10_8105, fun σ m k => ?_⟩
  have e : Lam10.piece (((secsOf (bodyOf Try.f10)).filter Lam10.cut).getD 1 .skip) σ m k = LamP10_8105 σ m k := by kernel_rfl
  rw [e]
  constructor
  · intro h
    unfold LamP10_8105 at h
    obtain ⟨b_0, o_0, h0, h⟩ := kptr_ok h
    obtain ⟨x_1, h1, h⟩ := kI_ok h
    obtain ⟨x_2, h2, h⟩ := kI_ok h
    obtain ⟨x_3, h3, h⟩ := kbool_ok h
    obtain ⟨x_11, h4, h⟩ := kI_ok h
    refine ⟨⟨b_0, o_0, x_1, x_2, x_3, x_11, h0, h1, h2, h3, h4⟩, ?_⟩
    have ev : [0, 1, 2, 3, 11].map σ = [(.ptr b_0 o_0), (.flat (.int .u32 x_1)), (.flat (.int .i64 x_2)), (.flat (.bool x_3)), (.flat (.int .i64 x_11))] := by simp only [List.map_cons, List.map_nil, h0, h1, h2, h3, h4]
    rw [ev, pc10_8105]
    exact h
  · rintro ⟨⟨b_0, o_0, x_1, x_2, x_3, x_11, h0, h1, h2, h3, h4⟩, h⟩
    have ev : [0, 1, 2, 3, 11].map σ = [(.ptr b_0 o_0), (.flat (.int .u32 x_1)), (.flat (.int .i64 x_2)), (.flat (.bool x_3)), (.flat (.int .i64 x_11))] := by simp only [List.map_cons, List.map_nil, h0, h1, h2, h3, h4]
    rw [ev, pc10_8105] at h
    unfold LamP10_8105
    simp only [h0, h1, h2, h3, h4, kI, kbool, kS, kptr, kaggN, kite, decide_true, eq_self]
    exact h

def lxp10_6103 : Ex → List Nat := fun e => match e with
  | .ret => [8, 9, 10]
  | _ => []

theorem pc10_6103 (b_0 o_0 : Nat) (x_1 : Int) (x_2 : Int) (x_3 : Bool) (x_11 : Int) (m : Mem) (k : KX) : once Try.prog E10 Lam10 [0, 1, 2, 3, 11] lxp10_6103 (((secsOf (bodyOf Try.f10)).filter Lam10.cut).getD 0 .skip) [(.ptr b_0 o_0), (.flat (.int .u32 x_1)), (.flat (.int .i64 x_2)), (.flat (.bool x_3)), (.flat (.int .i64 x_11))] m k = P10_6103 b_0 o_0 x_1 x_2 x_3 x_11 m (fun x_8' x_9' x_10' m' => k .ret (only [8, 9, 10] [(.flat (.int .u32 x_8')), (.flat (.int .i64 x_9')), (.flat (.bool x_10'))]) m') := by
  kernel_rfl

theorem pok10_6103 : PieceOK Try.prog E10 Lam10 (((secsOf (bodyOf Try.f10)).filter Lam10.cut).getD 0 .skip) := by
  refine ⟨fun σ => ∃ b_0 o_0 x_1 x_2 x_3 x_11, σ 0 = .ptr b_0 o_0 ∧ σ 1 = .flat (.int .u32 x_1) ∧ σ 2 = .flat (.int .i64 x_2) ∧ σ 3 = .flat (.bool x_3) ∧ σ 11 = .flat (.int .i64 x_11), [0, 1, 2, 3, 11], lxp10_6103, fun σ m k => ?_⟩
  have e : Lam10.piece (((secsOf (bodyOf Try.f10)).filter Lam10.cut).getD 0 .skip) σ m k = LamP10_6103 σ m k := by kernel_rfl
  rw [e]
  constructor
  · intro h
    unfold LamP10_6103 at h
    obtain ⟨b_0, o_0, h0, h⟩ := kptr_ok h
    obtain ⟨x_1, h1, h⟩ := kI_ok h
    obtain ⟨x_2, h2, h⟩ := kI_ok h
    obtain ⟨x_3, h3, h⟩ := kbool_ok h
    obtain ⟨x_11, h4, h⟩ := kI_ok h
    refine ⟨⟨b_0, o_0, x_1, x_2, x_3, x_11, h0, h1, h2, h3, h4⟩, ?_⟩
    have ev : [0, 1, 2, 3, 11].map σ = [(.ptr b_0 o_0), (.flat (.int .u32 x_1)), (.flat (.int .i64 x_2)), (.flat (.bool x_3)), (.flat (.int .i64 x_11))] := by simp only [List.map_cons, List.map_nil, h0, h1, h2, h3, h4]
    rw [ev, pc10_6103]
    exact h
  · rintro ⟨⟨b_0, o_0, x_1, x_2, x_3, x_11, h0, h1, h2, h3, h4⟩, h⟩
    have ev : [0, 1, 2, 3, 11].map σ = [(.ptr b_0 o_0), (.flat (.int .u32 x_1)), (.flat (.int .i64 x_2)), (.flat (.bool x_3)), (.flat (.int .i64 x_11))] := by simp only [List.map_cons, List.map_nil, h0, h1, h2, h3, h4]
    rw [ev, pc10_6103] at h
    unfold LamP10_6103
    simp only [h0, h1, h2, h3, h4, kI, kbool, kS, kptr, kaggN, kite, decide_true, eq_self]
    exact h

theorem eqn10 (b_0 o_0 : Nat) (x_1 : Int) (x_2 : Int) (x_3 : Bool) (m : Mem) (k : KV) : bodyK Try.prog E10 Lam10 Try.f10 true [(.ptr b_0 o_0), (.flat (.int .u32 x_1)), (.flat (.int .i64 x_2)), (.flat (.bool x_3))] m k = F10 b_0 o_0 x_1 x_2 x_3 m (fun x_1000 x_1001 x_1002 m' => k (.tup [(.flat (.int .u32 x_1000)), (.flat (.int .i64 x_1001)), (.flat (.bool x_1002))]) m') := by
  kernel_rfl

theorem fs10 (w0 : World) : FS Try.prog w0 10 G10 := by
  refine (fs_body (Γ := E10) (sound_env (l := [(11, G11), (19, G19)]) w0 (by
    intro p hp
    simp only [List.mem_cons, List.not_mem_nil, or_false] at hp
    rcases hp with rfl | rfl
    · exact fs11 w0
    · exact fs19 w0)) (by kernel_rfl) Try.func10 (Λ := Lam10) (c := (bodyOf Try.f10)) (by kernel_rfl) Try.call10 (by kernel_rfl) (LS_of (bodyOf Try.f10) 0 (by kernel_rfl) (fun i hi => absurd hi (Nat.not_lt_zero i)) 4 (by kernel_rfl) (by
    intro i hi
    match i, hi with
    | 0, _ => exact pok10_6103
    | 1, _ => exact pok10_8105
    | 2, _ => exact pok10_12102
    | 3, _ => exact pok10_9004
    | i + 4, hi => omega)) true (np := 4) (Nat.le_of_ble_eq_true (by kernel_rfl))).imp fun args => ?_
  by_cases hl : args.length = 4
  rotate_left
  · exact .inr fun m k hk => by
      unfold G10 at hk
      split at hk
      · exact hl rfl
      · exact hk
  obtain ⟨a0, a1, a2, a3, rfl⟩ : ∃ a0 a1 a2 a3, args = [a0, a1, a2, a3] := len_list4 hl
  rcases kptr_or a0 with ⟨b_0, o_0, rfl⟩ | h
  rotate_left
  · exact .inr fun m k hk => h _ (by simpa only [G10, kI, kbool, kS, kptr, kaggN, kite, decide_true, eq_self] using hk)
  rcases kI_or .u32 a1 with ⟨x_1, rfl⟩ | h
  rotate_left
  · exact .inr fun m k hk => h _ (by simpa only [G10, kI, kbool, kS, kptr, kaggN, kite, decide_true, eq_self] using hk)
  rcases kI_or .i64 a2 with ⟨x_2, rfl⟩ | h
  rotate_left
  · exact .inr fun m k hk => h _ (by simpa only [G10, kI, kbool, kS, kptr, kaggN, kite, decide_true, eq_self] using hk)
  rcases kbool_or a3 with ⟨x_3, rfl⟩ | h
  rotate_left
  · exact .inr fun m k hk => h _ (by simpa only [G10, kI, kbool, kS, kptr, kaggN, kite, decide_true, eq_self] using hk)
  exact .inl fun m k => propext ⟨fun h => ⟨rfl, by rw [eqn10]; simpa only [G10, kI, kbool, kS, kptr, kaggN, kite, decide_true, eq_self] using h⟩, fun h => by have h := h.2; rw [eqn10] at h; simpa only [G10, kI, kbool, kS, kptr, kaggN, kite, decide_true, eq_self] using h⟩

/-- pianola/pianolaref6.User -/
def F20 (b_0 o_0 : Nat) (m : Mem) (k : Bool → Mem → Prop) : Prop :=
  ldI .u32 m b_0 (o_0 + 39 + 12) fun x1 => kif ((bits .and .u32 x1 16) != 0) (ldI .u32 m b_0 (o_0 + 39 + 12) fun x2 => (Keeps m m ∧ k ((bits .and .u32 x2 2) == 0) m)) ((Keeps m m ∧ k false m))

def G20 (args : List AV) (m : Mem) (k : KV) : Prop := match args with
  | [a0] => kptr a0 fun b_0 o_0 => F20 b_0 o_0 m (fun x_1000 m' => k (.flat (.bool x_1000)) m')
  | _ => False

def E20 : Env := envOf []

def Lam20 : LEnv := ⟨fun a σ m k => match firstReg a with
  | _ => bump False,
  fun id => match id with
  | _ => bump false,
  fun b => match keyC b with
  | _ => bump false,
  fun b σ m k => match keyC b with
  | _ => bump False⟩

theorem eqn20 (b_0 o_0 : Nat) (m : Mem) (k : KV) : bodyK Try.prog E20 Lam20 Try.f20 true [(.ptr b_0 o_0)] m k = F20 b_0 o_0 m (fun x_1000 m' => k (.flat (.bool x_1000)) m') := by
  kernel_rfl

theorem fs20 (w0 : World) : FS Try.prog w0 20 G20 := by
  refine (fs_body (Γ := E20) (sound_env (l := []) w0 (by
    intro p hp
    cases hp)) (by kernel_rfl) Try.func20 (Λ := Lam20) (c := (bodyOf Try.f20)) (by kernel_rfl) Try.call20 (by kernel_rfl) (LS_of (bodyOf Try.f20) 0 (by kernel_rfl) (fun i hi => absurd hi (Nat.not_lt_zero i)) 0 (by kernel_rfl) (fun i hi => absurd hi (Nat.not_lt_zero i))) true (np := 1) (Nat.le_of_ble_eq_true (by kernel_rfl))).imp fun args => ?_
  by_cases hl : args.length = 1
  rotate_left
  · exact .inr fun m k hk => by
      unfold G20 at hk
      split at hk
      · exact hl rfl
      · exact hk
  obtain ⟨a0, rfl⟩ : ∃ a0, args = [a0] := len_list1 hl
  rcases kptr_or a0 with ⟨b_0, o_0, rfl⟩ | h
  rotate_left
  · exact .inr fun m k hk => h _ (by simpa only [G20, kI, kbool, kS, kptr, kaggN, kite, decide_true, eq_self] using hk)
  exact .inl fun m k => propext ⟨fun h => ⟨rfl, by rw [eqn20]; simpa only [G20, kI, kbool, kS, kptr, kaggN, kite, decide_true, eq_self] using h⟩, fun h => by have h := h.2; rw [eqn20] at h; simpa only [G20, kI, kbool, kS, kptr, kaggN, kite, decide_true, eq_self] using h⟩

def R23_2 (b_0 o_0 : Nat) (x_1 : Int) (x_5 : Int) (m : Mem) (kn : Int → Mem → Prop) (k0 : Mem → Prop) (kr : Int → Mem → Prop) : Prop :=
  kif (decide (x_5 < 8)) (kif (decide (0 ≤ x_5) && decide (x_5 < 8)) (ldG 2 m b_0 (o_0 + 55 + (x_5).toNat * 2) fun c1 => newK m ⟨2, lget [(.flat (.int .u32 0)), (.flat (.int .u32 0))], 30, false⟩ fun b3 m2 => stG 2 m2 b3 0 c1 fun m4 => ldI .u32 m4 b3 0 fun x5 => kif ((bits .andNot .u32 x5 1023) == (bits .andNot .u32 x_1 1023)) (ldI .u32 m4 b3 1 fun x6 => kif ((bits .and .u32 x6 4) != 0) (kr x_5 m4) (ldI .u32 m4 b3 0 fun x7 => ldI .u32 m4 b_0 (o_0 + 39 + 10) fun x8 => kif ((bits .and .u32 x7 255) == (bits .and .u32 x8 255)) (kr x_5 m4) (kn (IntKind.wrap .i64 (x_5 + 1)) m4))) (kn (IntKind.wrap .i64 (x_5 + 1)) m4)) False) (k0  m)

def L23_2 (b_0 o_0 : Nat) (x_1 : Int) : Nat → Int → Mem → (Mem → Prop) → (Int → Mem → Prop) → Prop
  | 0, _,  _, _, _ => bump False
  | N + 1, x_5,  m, k0, kr => R23_2 b_0 o_0 x_1 x_5 m (fun x_5' m' => L23_2 b_0 o_0 x_1 N x_5' m' k0 kr) k0 kr

/-- pianola/pianolaref6.Find -/
def F23 (b_0 o_0 : Nat) (x_1 : Int) (m : Mem) (k : Int → Mem → Prop) : Prop :=
  ∃ N12, L23_2 b_0 o_0 x_1 N12 0 m (fun m9 => (Keeps m m9 ∧ k (-1) m)) (fun x10 m11 => (Keeps m m11 ∧ k x10 m))

def G23 (args : List AV) (m : Mem) (k : KV) : Prop := match args with
  | [a0, a1] => kptr a0 fun b_0 o_0 => kI .u32 a1 fun x_1 => F23 b_0 o_0 x_1 m (fun x_1000 m' => k (.flat (.int .i64 x_1000)) m')
  | _ => False

def E23 : Env := envOf []

def Lam23_2 (σ : Nat → AV) (m : Mem) (k : KX) : Prop := kptr (σ 0) fun b_0 o_0 => kI .u32 (σ 1) fun x_1 => kI .i64 (σ 5) fun x_5 => ∃ N, L23_2 b_0 o_0 x_1 N x_5 m (fun m' => k (.exit 0) (only [] []) m') (fun x_4' m' => k .ret (only [4] [(.flat (.int .i64 x_4'))]) m')

def Lam23 : LEnv := ⟨fun a σ m k => match firstReg a with
  | some 2 => Lam23_2 σ m k
  | _ => bump False,
  fun id => match id with
  | _ => bump false,
  fun b => match keyC b with
  | _ => bump false,
  fun b σ m k => match keyC b with
  | _ => bump False⟩

def lx23_2 : Ex → List Nat := fun e => match e with
  | .exit 0 => []
  | .ret => [4]
  | _ => []

theorem round23_2 (b_0 o_0 : Nat) (x_1 : Int) (x_5 : Int) (m : Mem) (G : List AV → Mem → Prop) (k : KX) : (wpA Try.prog E23 Lam23 ((loopsOf (bodyOf Try.f23)).getD 0 .skip) (only [0, 1, 5] [(.ptr b_0 o_0), (.flat (.int .u32 x_1)), (.flat (.int .i64 x_5))]) m fun e σ' m' => match e with
    | .normal => G ([0, 1, 5].map σ') m'
    | .exit id => k (.exit id) (only (lx23_2 (.exit id)) ((lx23_2 (.exit id)).map σ')) m'
    | .ret => k .ret (only (lx23_2 .ret) ((lx23_2 .ret).map σ')) m') = R23_2 b_0 o_0 x_1 x_5 m (fun x_5' m' => G [(.ptr b_0 o_0), (.flat (.int .u32 x_1)), (.flat (.int .i64 x_5'))] m') (fun m' => k (.exit 0) (only [] []) m') (fun x_4' m' => k .ret (only [4] [(.flat (.int .i64 x_4'))]) m') := by
  kernel_rfl

theorem loop23_2 (b_0 o_0 : Nat) (x_1 : Int) (k : KX) : ∀ (N : Nat) (x_5 : Int) (m : Mem), rounds Try.prog E23 Lam23 [0, 1, 5] lx23_2 ((loopsOf (bodyOf Try.f23)).getD 0 .skip) N [(.ptr b_0 o_0), (.flat (.int .u32 x_1)), (.flat (.int .i64 x_5))] m k = L23_2 b_0 o_0 x_1 N x_5 m (fun m' => k (.exit 0) (only [] []) m') (fun x_4' m' => k .ret (only [4] [(.flat (.int .i64 x_4'))]) m') := by
  intro N
  induction N with
  | zero => intros; rfl
  | succ N ih =>
    intro x_5 m
    refine (round23_2 b_0 o_0 x_1 x_5 m (fun vs m' => rounds Try.prog E23 Lam23 [0, 1, 5] lx23_2 ((loopsOf (bodyOf Try.f23)).getD 0 .skip) N vs m' k) k).trans ?_
    simp only [ih]
    rfl

theorem lok23_2 : LoopOK Try.prog E23 Lam23 ((loopsOf (bodyOf Try.f23)).getD 0 .skip) := by
  refine ⟨fun σ => ∃ b_0 o_0 x_1 x_5, σ 0 = .ptr b_0 o_0 ∧ σ 1 = .flat (.int .u32 x_1) ∧ σ 5 = .flat (.int .i64 x_5), [0, 1, 5], lx23_2, fun σ m k => ?_⟩
  have e : Lam23.loop ((loopsOf (bodyOf Try.f23)).getD 0 .skip) σ m k = Lam23_2 σ m k := by kernel_rfl
  rw [e]
  constructor
  · intro h
    unfold Lam23_2 at h
    obtain ⟨b_0, o_0, h0, h⟩ := kptr_ok h
    obtain ⟨x_1, h1, h⟩ := kI_ok h
    obtain ⟨x_5, h2, h⟩ := kI_ok h
    obtain ⟨N, h⟩ := h
    refine ⟨⟨b_0, o_0, x_1, x_5, h0, h1, h2⟩, N, ?_⟩
    have ev : [0, 1, 5].map σ = [(.ptr b_0 o_0), (.flat (.int .u32 x_1)), (.flat (.int .i64 x_5))] := by simp only [List.map_cons, List.map_nil, h0, h1, h2]
    rw [ev, loop23_2]
    exact h
  · rintro ⟨⟨b_0, o_0, x_1, x_5, h0, h1, h2⟩, N, h⟩
    have ev : [0, 1, 5].map σ = [(.ptr b_0 o_0), (.flat (.int .u32 x_1)), (.flat (.int .i64 x_5))] := by simp only [List.map_cons, List.map_nil, h0, h1, h2]
    rw [ev, loop23_2] at h
    unfold Lam23_2
    simp only [h0, h1, h2, kI, kbool, kS, kptr, kaggN, kite, decide_true, eq_self]
    exact ⟨N, h⟩

theorem eqn23 (b_0 o_0 : Nat) (x_1 : Int) (m : Mem) (k : KV) : bodyK Try.prog E23 Lam23 Try.f23 true [(.ptr b_0 o_0), (.flat (.int .u32 x_1))] m k = F23 b_0 o_0 x_1 m (fun x_1000 m' => k (.flat (.int .i64 x_1000)) m') := by
  kernel_rfl

theorem fs23 (w0 : World) : FS Try.prog w0 23 G23 := by
  refine (fs_body (Γ := E23) (sound_env (l := []) w0 (by
    intro p hp
    cases hp)) (by kernel_rfl) Try.func23 (Λ := Lam23) (c := (bodyOf Try.f23)) (by kernel_rfl) Try.call23 (by kernel_rfl) (LS_of (bodyOf Try.f23) 1 (by kernel_rfl) (by
    intro i hi
    match i, hi with
    | 0, _ => exact lok23_2
    | i + 1, hi => omega) 0 (by kernel_rfl) (fun i hi => absurd hi (Nat.not_lt_zero i))) true (np := 2) (Nat.le_of_ble_eq_true (by kernel_rfl))).imp fun args => ?_
  by_cases hl : args.length = 2
  rotate_left
  · exact .inr fun m k hk => by
      unfold G23 at hk
      split at hk
      · exact hl rfl
      · exact hk
  obtain ⟨a0, a1, rfl⟩ : ∃ a0 a1, args = [a0, a1] := len_list2 hl
  rcases kptr_or a0 with ⟨b_0, o_0, rfl⟩ | h
  rotate_left
  · exact .inr fun m k hk => h _ (by simpa only [G23, kI, kbool, kS, kptr, kaggN, kite, decide_true, eq_self] using hk)
  rcases kI_or .u32 a1 with ⟨x_1, rfl⟩ | h
  rotate_left
  · exact .inr fun m k hk => h _ (by simpa only [G23, kI, kbool, kS, kptr, kaggN, kite, decide_true, eq_self] using hk)
  exact .inl fun m k => propext ⟨fun h => ⟨rfl, by rw [eqn23]; simpa only [G23, kI, kbool, kS, kptr, kaggN, kite, decide_true, eq_self] using h⟩, fun h => by have h := h.2; rw [eqn23] at h; simpa only [G23, kI, kbool, kS, kptr, kaggN, kite, decide_true, eq_self] using h⟩

def P21_12102 (x_1 : Int) (x_11 : Int) (m : Mem) (kr : Int → Int → Bool → Mem → Prop) : Prop :=
  kr (bits .or .u32 (bits .andNot .u32 x_11 1023) (bits .and .u32 x_1 1023)) (-1) false m

def P21_4102 (b_0 o_0 : Nat) (x_1 : Int) (x_2 : Bool) (x_9 : Int) (m : Mem) (kr : Int → Int → Bool → Mem → Prop) : Prop :=
  F23 b_0 o_0 x_1 m fun x1 m2 => kif (decide (x1 < 0)) (kr 0 x_9 true m2) (kif (decide (0 ≤ x1) && decide (x1 < 8)) (ldI .u32 m2 b_0 (o_0 + 55 + (x1).toNat * 2 + 1) fun x3 => kif ((bits .and .u32 x3 1) == 0) (kr 0 x_9 false m2) (kif x_2 (kif ((bits .and .u32 x3 2) == 0) (kr 0 1 false m2) (P21_12102 x_1 x3 m2 (fun x4 x5 x6 m7 => kr x4 x5 x6 m7))) (P21_12102 x_1 x3 m2 (fun x8 x9 x10 m11 => kr x8 x9 x10 m11)))) False)

/-- pianola/pianolaref6.Look -/
def F21 (b_0 o_0 : Nat) (x_1 : Int) (x_2 : Bool) (m : Mem) (k : Int → Int → Bool → Mem → Prop) : Prop :=
  kif x_2 (P21_4102 b_0 o_0 x_1 x_2 3 m (fun x12 x13 x14 m15 => (Keeps m m15 ∧ k x12 x13 x14 m))) (P21_4102 b_0 o_0 x_1 x_2 2 m (fun x16 x17 x18 m19 => (Keeps m m19 ∧ k x16 x17 x18 m)))

def G21 (args : List AV) (m : Mem) (k : KV) : Prop := match args with
  | [a0, a1, a2] => kptr a0 fun b_0 o_0 => kI .u32 a1 fun x_1 => kbool a2 fun x_2 => F21 b_0 o_0 x_1 x_2 m (fun x_1000 x_1001 x_1002 m' => k (.tup [(.flat (.int .u32 x_1000)), (.flat (.int .i64 x_1001)), (.flat (.bool x_1002))]) m')
  | _ => False

def E21 : Env := envOf [(23, G23)]

def LamP21_4102 (σ : Nat → AV) (m : Mem) (k : KX) : Prop := kptr (σ 0) fun b_0 o_0 => kI .u32 (σ 1) fun x_1 => kbool (σ 2) fun x_2 => kI .i64 (σ 9) fun x_9 => P21_4102 b_0 o_0 x_1 x_2 x_9 m (fun x_6' x_7' x_8' m' => k .ret (only [6, 7, 8] [(.flat (.int .u32 x_6')), (.flat (.int .i64 x_7')), (.flat (.bool x_8'))]) m')

def LamP21_12102 (σ : Nat → AV) (m : Mem) (k : KX) : Prop := kI .u32 (σ 1) fun x_1 => kI .u32 (σ 11) fun x_11 => P21_12102 x_1 x_11 m (fun x_6' x_7' x_8' m' => k .ret (only [6, 7, 8] [(.flat (.int .u32 x_6')), (.flat (.int .i64 x_7')), (.flat (.bool x_8'))]) m')

def Lam21 : LEnv := ⟨fun a σ m k => match firstReg a with
  | _ => bump False,
  fun id => match id with
  | _ => bump false,
  fun b => match keyC b with
  | some 4102 => true
  | some 12102 => true
  | _ => bump false,
  fun b σ m k => match keyC b with
  | some 4102 => LamP21_4102 σ m k
  | some 12102 => LamP21_12102 σ m k
  | _ => bump False⟩

def lxp21_12102 : Ex → List Nat := fun e => match e with
  | .ret => [6, 7, 8]
  | _ => []

theorem pc21_12102 (x_1 : Int) (x_11 : Int) (m : Mem) (k : KX) : once Try.prog E21 Lam21 [1, 11] lxp21_12102 (((secsOf (bodyOf Try.f21)).filter Lam21.cut).getD 1 .skip) [(.flat (.int .u32 x_1)), (.flat (.int .u32 x_11))] m k = P21_12102 x_1 x_11 m (fun x_6' x_7' x_8' m' => k .ret (only [6, 7, 8] [(.flat (.int .u32 x_6')), (.flat (.int .i64 x_7')), (.flat (.bool x_8'))]) m') := by
  kernel_rfl

theorem pok21_12102 : PieceOK Try.prog E21 Lam21 (((secsOf (bodyOf Try.f21)).filter Lam21.cut).getD 1 .skip) := by
  refine ⟨fun σ => ∃ x_1 x_11, σ 1 = .flat (.int .u32 x_1) ∧ σ 11 = .flat (.int .u32 x_11), [1, 11], lxp21_12102, fun σ m k => ?_⟩
  have e : Lam21.piece (((secsOf (bodyOf Try.f21)).filter Lam21.cut).getD 1 .skip) σ m k = LamP21_12102 σ m k := by kernel_rfl
  rw [e]
  constructor
  · intro h
    unfold LamP21_12102 at h
    obtain ⟨x_1, h0, h⟩ := kI_ok h
    obtain ⟨x_11, h1, h⟩ := kI_ok h
    refine ⟨⟨x_1, x_11, h0, h1⟩, ?_⟩
    have ev : [1, 11].map σ = [(.flat (.int .u32 x_1)), (.flat (.int .u32 x_11))] := by simp only [List.map_cons, List.map_nil, h0, h1]
    rw [ev, pc21_12102]
    exact h
  · rintro ⟨⟨x_1, x_11, h0, h1⟩, h⟩
    have ev : [1, 11].map σ = [(.flat (.int .u32 x_1)), (.flat (.int .u32 x_11))] := by simp only [List.map_cons, List.map_nil, h0, h1]
    rw [ev, pc21_12102] at h
    unfold LamP21_12102
    simp only [h0, h1, kI, kbool, kS, kptr, kaggN, kite, decide_true, eq_self]
    exact h

def lxp21_4102 : Ex → List Nat := fun e => match e with
  | .ret => [6, 7, 8]
  | _ => []

theorem pc21_4102 (b_0 o_0 : Nat) (x_1 : Int) (x_2 : Bool) (x_9 : Int) (m : Mem) (k : KX) : once Try.prog E21 Lam21 [0, 1, 2, 9] lxp21_4102 (((secsOf (bodyOf Try.f21)).filter Lam21.cut).getD 0 .skip) [(.ptr b_0 o_0), (.flat (.int .u32 x_1)), (.flat (.bool x_2)), (.flat (.int .i64 x_9))] m k = P21_4102 b_0 o_0 x_1 x_2 x_9 m (fun x_6' x_7' x_8' m' => k .ret (only [6, 7, 8] [(.flat (.int .u32 x_6')), (.flat (.int .i64 x_7')), (.flat (.bool x_8'))]) m') := by
  kernel_rfl

theorem pok21_4102 : PieceOK Try.prog E21 Lam21 (((secsOf (bodyOf Try.f21)).filter Lam21.cut).getD 0 .skip) := by
  refine ⟨fun σ => ∃ b_0 o_0 x_1 x_2 x_9, σ 0 = .ptr b_0 o_0 ∧ σ 1 = .flat (.int .u32 x_1) ∧ σ 2 = .flat (.bool x_2) ∧ σ 9 = .flat (.int .i64 x_9), [0, 1, 2, 9], lxp21_4102, fun σ m k => ?_⟩
  have e : Lam21.piece (((secsOf (bodyOf Try.f21)).filter Lam21.cut).getD 0 .skip) σ m k = LamP21_4102 σ m k := by kernel_rfl
  rw [e]
  constructor
  · intro h
    unfold LamP21_4102 at h
    obtain ⟨b_0, o_0, h0, h⟩ := kptr_ok h
    obtain ⟨x_1, h1, h⟩ := kI_ok h
    obtain ⟨x_2, h2, h⟩ := kbool_ok h
    obtain ⟨x_9, h3, h⟩ := kI_ok h
    refine ⟨⟨b_0, o_0, x_1, x_2, x_9, h0, h1, h2, h3⟩, ?_⟩
    have ev : [0, 1, 2, 9].map σ = [(.ptr b_0 o_0), (.flat (.int .u32 x_1)), (.flat (.bool x_2)), (.flat (.int .i64 x_9))] := by simp only [List.map_cons, List.map_nil, h0, h1, h2, h3]
    rw [ev, pc21_4102]
    exact h
  · rintro ⟨⟨b_0, o_0, x_1, x_2, x_9, h0, h1, h2, h3⟩, h⟩
    have ev : [0, 1, 2, 9].map σ = [(.ptr b_0 o_0), (.flat (.int .u32 x_1)), (.flat (.bool x_2)), (.flat (.int .i64 x_9))] := by simp only [List.map_cons, List.map_nil, h0, h1, h2, h3]
    rw [ev, pc21_4102] at h
    unfold LamP21_4102
    simp only [h0, h1, h2, h3, kI, kbool, kS, kptr, kaggN, kite, decide_true, eq_self]
    exact h

theorem eqn21 (b_0 o_0 : Nat) (x_1 : Int) (x_2 : Bool) (m : Mem) (k : KV) : bodyK Try.prog E21 Lam21 Try.f21 true [(.ptr b_0 o_0), (.flat (.int .u32 x_1)), (.flat (.bool x_2))] m k = F21 b_0 o_0 x_1 x_2 m (fun x_1000 x_1001 x_1002 m' => k (.tup [(.flat (.int .u32 x_1000)), (.flat (.int .i64 x_1001)), (.flat (.bool x_1002))]) m') := by
  kernel_rfl

theorem fs21 (w0 : World) : FS Try.prog w0 21 G21 := by
  refine (fs_body (Γ := E21) (sound_env (l := [(23, G23)]) w0 (by
    intro p hp
    simp only [List.mem_cons, List.not_mem_nil, or_false] at hp
    rcases hp with rfl
    · exact fs23 w0)) (by kernel_rfl) Try.func21 (Λ := Lam21) (c := (bodyOf Try.f21)) (by kernel_rfl) Try.call21 (by kernel_rfl) (LS_of (bodyOf Try.f21) 0 (by kernel_rfl) (fun i hi => absurd hi (Nat.not_lt_zero i)) 2 (by kernel_rfl) (by
    intro i hi
    match i, hi with
    | 0, _ => exact pok21_4102
    | 1, _ => exact pok21_12102
    | i + 2, hi => omega)) true (np := 3) (Nat.le_of_ble_eq_true (by kernel_rfl))).imp fun args => ?_
  by_cases hl : args.length = 3
  rotate_left
  · exact .inr fun m k hk => by
      unfold G21 at hk
      split at hk
      · exact hl rfl
      · exact hk
  obtain ⟨a0, a1, a2, rfl⟩ : ∃ a0 a1 a2, args = [a0, a1, a2] := len_list3 hl
  rcases kptr_or a0 with ⟨b_0, o_0, rfl⟩ | h
  rotate_left
  · exact .inr fun m k hk => h _ (by simpa only [G21, kI, kbool, kS, kptr, kaggN, kite, decide_true, eq_self] using hk)
  rcases kI_or .u32 a1 with ⟨x_1, rfl⟩ | h
  rotate_left
  · exact .inr fun m k hk => h _ (by simpa only [G21, kI, kbool, kS, kptr, kaggN, kite, decide_true, eq_self] using hk)
  rcases kbool_or a2 with ⟨x_2, rfl⟩ | h
  rotate_left
  · exact .inr fun m k hk => h _ (by simpa only [G21, kI, kbool, kS, kptr, kaggN, kite, decide_true, eq_self] using hk)
  exact .inl fun m k => propext ⟨fun h => ⟨rfl, by rw [eqn21]; simpa only [G21, kI, kbool, kS, kptr, kaggN, kite, decide_true, eq_self] using h⟩, fun h => by have h := h.2; rw [eqn21] at h; simpa only [G21, kI, kbool, kS, kptr, kaggN, kite, decide_true, eq_self] using h⟩

def P16_9102 (b_0 o_0 : Nat) (x_1 : Int) (x_3 : Bool) (m : Mem) (kr : Int → Int → Bool → Mem → Prop) : Prop :=
  F21 b_0 o_0 x_1 x_3 m fun x18 x19 x20 m21 => kr x18 x19 x20 m21

def P16_7103 (b_0 o_0 : Nat) (x_1 : Int) (x_3 : Bool) (m : Mem) (kr : Int → Int → Bool → Mem → Prop) : Prop :=
  kif (decide (x_1 ≥ 2147483648)) (kif (decide (x_1 < 3221225472)) (kr (bits .and .u32 x_1 536870911) (-1) false m) (P16_9102 b_0 o_0 x_1 x_3 m (fun x22 x23 x24 m25 => kr x22 x23 x24 m25))) (P16_9102 b_0 o_0 x_1 x_3 m (fun x26 x27 x28 m29 => kr x26 x27 x28 m29))

def P16_4004 (b_0 o_0 : Nat) (x_1 : Int) (x_3 : Bool) (x_29 : Bool) (m : Mem) (kr : Int → Int → Bool → Mem → Prop) (kn : Mem → Prop) : Prop :=
  kif x_29 (kif x_3 (kr 0 5 false m) (kr 0 4 false m)) (kn  m)

def P16_3103 (b_0 o_0 : Nat) (x_1 : Int) (x_2 : Int) (x_3 : Bool) (m : Mem) (kr : Int → Int → Bool → Mem → Prop) : Prop :=
  kif (decide (IntKind.wrap .u32 x_2 = 0)) False (kif ((x_1.tmod (IntKind.wrap .u32 x_2)) != 0) (P16_4004 b_0 o_0 x_1 x_3 true m (fun x3 x4 x5 m6 => kr x3 x4 x5 m6) (fun m7 => P16_7103 b_0 o_0 x_1 x_3 m7 (fun x30 x31 x32 m33 => kr x30 x31 x32 m33))) (F20 b_0 o_0 m fun x1 m2 => kif x1 (P16_4004 b_0 o_0 x_1 x_3 (decide (x_1 ≥ 2147483648)) m2 (fun x8 x9 x10 m11 => kr x8 x9 x10 m11) (fun m12 => P16_7103 b_0 o_0 x_1 x_3 m12 (fun x34 x35 x36 m37 => kr x34 x35 x36 m37))) (P16_4004 b_0 o_0 x_1 x_3 false m2 (fun x13 x14 x15 m16 => kr x13 x14 x15 m16) (fun m17 => P16_7103 b_0 o_0 x_1 x_3 m17 (fun x38 x39 x40 m41 => kr x38 x39 x40 m41)))))

/-- pianola/pianolaref6.Lies -/
def F16 (b_0 o_0 : Nat) (x_1 : Int) (x_2 : Int) (x_3 : Bool) (m : Mem) (k : Int → Int → Bool → Mem → Prop) : Prop :=
  kif (x_2 != 1) (kif (x_2 != 2) (P16_3103 b_0 o_0 x_1 4 x_3 m (fun x42 x43 x44 m45 => (Keeps m m45 ∧ k x42 x43 x44 m))) (P16_3103 b_0 o_0 x_1 x_2 x_3 m (fun x46 x47 x48 m49 => (Keeps m m49 ∧ k x46 x47 x48 m)))) (P16_3103 b_0 o_0 x_1 x_2 x_3 m (fun x50 x51 x52 m53 => (Keeps m m53 ∧ k x50 x51 x52 m)))

def G16 (args : List AV) (m : Mem) (k : KV) : Prop := match args with
  | [a0, a1, a2, a3] => kptr a0 fun b_0 o_0 => kI .u32 a1 fun x_1 => kI .i64 a2 fun x_2 => kbool a3 fun x_3 => F16 b_0 o_0 x_1 x_2 x_3 m (fun x_1000 x_1001 x_1002 m' => k (.tup [(.flat (.int .u32 x_1000)), (.flat (.int .i64 x_1001)), (.flat (.bool x_1002))]) m')
  | _ => False

def E16 : Env := envOf [(20, G20), (21, G21)]

def LamP16_3103 (σ : Nat → AV) (m : Mem) (k : KX) : Prop := kptr (σ 0) fun b_0 o_0 => kI .u32 (σ 1) fun x_1 => kI .i64 (σ 2) fun x_2 => kbool (σ 3) fun x_3 => P16_3103 b_0 o_0 x_1 x_2 x_3 m (fun x_8' x_9' x_10' m' => k .ret (only [8, 9, 10] [(.flat (.int .u32 x_8')), (.flat (.int .i64 x_9')), (.flat (.bool x_10'))]) m')

def LamP16_4004 (σ : Nat → AV) (m : Mem) (k : KX) : Prop := kptr (σ 0) fun b_0 o_0 => kI .u32 (σ 1) fun x_1 => kbool (σ 3) fun x_3 => kbool (σ 29) fun x_29 => P16_4004 b_0 o_0 x_1 x_3 x_29 m (fun x_8' x_9' x_10' m' => k .ret (only [8, 9, 10] [(.flat (.int .u32 x_8')), (.flat (.int .i64 x_9')), (.flat (.bool x_10'))]) m') (fun m' => k .normal (only [0, 1, 3] [(.ptr b_0 o_0), (.flat (.int .u32 x_1)), (.flat (.bool x_3))]) m')

def LamP16_7103 (σ : Nat → AV) (m : Mem) (k : KX) : Prop := kptr (σ 0) fun b_0 o_0 => kI .u32 (σ 1) fun x_1 => kbool (σ 3) fun x_3 => P16_7103 b_0 o_0 x_1 x_3 m (fun x_8' x_9' x_10' m' => k .ret (only [8, 9, 10] [(.flat (.int .u32 x_8')), (.flat (.int .i64 x_9')), (.flat (.bool x_10'))]) m')

def LamP16_9102 (σ : Nat → AV) (m : Mem) (k : KX) : Prop := kptr (σ 0) fun b_0 o_0 => kI .u32 (σ 1) fun x_1 => kbool (σ 3) fun x_3 => P16_9102 b_0 o_0 x_1 x_3 m (fun x_8' x_9' x_10' m' => k .ret (only [8, 9, 10] [(.flat (.int .u32 x_8')), (.flat (.int .i64 x_9')), (.flat (.bool x_10'))]) m')

def Lam16 : LEnv := ⟨fun a σ m k => match firstReg a with
  | _ => bump False,
  fun id => match id with
  | _ => bump false,
  fun b => match keyC b with
  | some 3103 => true
  | some 4004 => true
  | some 7103 => true
  | some 9102 => true
  | _ => bump false,
  fun b σ m k => match keyC b with
  | some 3103 => LamP16_3103 σ m k
  | some 4004 => LamP16_4004 σ m k
  | some 7103 => LamP16_7103 σ m k
  | some 9102 => LamP16_9102 σ m k
  | _ => bump False⟩

def lxp16_9102 : Ex → List Nat := fun e => match e with
  | .ret => [8, 9, 10]
  | _ => []

theorem pc16_9102 (b_0 o_0 : Nat) (x_1 : Int) (x_3 : Bool) (m : Mem) (k : KX) : once Try.prog E16 Lam16 [0, 1, 3] lxp16_9102 (((secsOf (bodyOf Try.f16)).filter Lam16.cut).getD 3 .skip) [(.ptr b_0 o_0), (.flat (.int .u32 x_1)), (.flat (.bool x_3))] m k = P16_9102 b_0 o_0 x_1 x_3 m (fun x_8' x_9' x_10' m' => k .ret (only [8, 9, 10] [(.flat (.int .u32 x_8')), (.flat (.int .i64 x_9')), (.flat (.bool x_10'))]) m') := by
  kernel_rfl

theorem pok16_9102 : PieceOK Try.prog E16 Lam16 (((secsOf (bodyOf Try.f16)).filter Lam16.cut).getD 3 .skip) := by
  refine ⟨fun σ => ∃ b_0 o_0 x_1 x_3, σ 0 = .ptr b_0 o_0 ∧ σ 1 = .flat (.int .u32 x_1) ∧ σ 3 = .flat (.bool x_3), [0, 1, 3], lxp16_9102, fun σ m k => ?_⟩
  have e : Lam16.piece (((secsOf (bodyOf Try.f16)).filter Lam16.cut).getD 3 .skip) σ m k = LamP16_9102 σ m k := by kernel_rfl
  rw [e]
  constructor
  · intro h
    unfold LamP16_9102 at h
    obtain ⟨b_0, o_0, h0, h⟩ := kptr_ok h
    obtain ⟨x_1, h1, h⟩ := kI_ok h
    obtain ⟨x_3, h2, h⟩ := kbool_ok h
    refine ⟨⟨b_0, o_0, x_1, x_3, h0, h1, h2⟩, ?_⟩
    have ev : [0, 1, 3].map σ = [(.ptr b_0 o_0), (.flat (.int .u32 x_1)), (.flat (.bool x_3))] := by simp only [List.map_cons, List.map_nil, h0, h1, h2]
    rw [ev, pc16_9102]
    exact h
  · rintro ⟨⟨b_0, o_0, x_1, x_3, h0, h1, h2⟩, h⟩
    have ev : [0, 1, 3].map σ = [(.ptr b_0 o_0), (.flat (.int .u32 x_1)), (.flat (.bool x_3))] := by simp only [List.map_cons, List.map_nil, h0, h1, h2]
    rw [ev, pc16_9102] at h
    unfold LamP16_9102
    simp only [h0, h1, h2, kI, kbool, kS, kptr, kaggN, kite, decide_true, eq_self]
    exact h

def lxp16_7103 : Ex → List Nat := fun e => match e with
  | .ret => [8, 9, 10]
  | _ => []

theorem pc16_7103 (b_0 o_0 : Nat) (x_1 : Int) (x_3 : Bool) (m : Mem) (k : KX) : once Try.prog E16 Lam16 [0, 1, 3] lxp16_7103 (((secsOf (bodyOf Try.f16)).filter Lam16.cut).getD 1 .skip) [(.ptr b_0 o_0), (.flat (.int .u32 x_1)), (.flat (.bool x_3))] m k = P16_7103 b_0 o_0 x_1 x_3 m (fun x_8' x_9' x_10' m' => k .ret (only [8, 9, 10] [(.flat (.int .u32 x_8')), (.flat (.int .i64 x_9')), (.flat (.bool x_10'))]) m') := by
  kernel_rfl

theorem pok16_7103 : PieceOK Try.prog E16 Lam16 (((secsOf (bodyOf Try.f16)).filter Lam16.cut).getD 1 .skip) := by
  refine ⟨fun σ => ∃ b_0 o_0 x_1 x_3, σ 0 = .ptr b_0 o_0 ∧ σ 1 = .flat (.int .u32 x_1) ∧ σ 3 = .flat (.bool x_3), [0, 1, 3], lxp16_7103, fun σ m k => ?_⟩
  have e : Lam16.piece (((secsOf (bodyOf Try.f16)).filter Lam16.cut).getD 1 .skip) σ m k = LamP16_7103 σ m k := by kernel_rfl
  rw [e]
  constructor
  · intro h
    unfold LamP16_7103 at h
    obtain ⟨b_0, o_0, h0, h⟩ := kptr_ok h
    obtain ⟨x_1, h1, h⟩ := kI_ok h
    obtain ⟨x_3, h2, h⟩ := kbool_ok h
    refine ⟨⟨b_0, o_0, x_1, x_3, h0, h1, h2⟩, ?_⟩
    have ev : [0, 1, 3].map σ = [(.ptr b_0 o_0), (.flat (.int .u32 x_1)), (.flat (.bool x_3))] := by simp only [List.map_cons, List.map_nil, h0, h1, h2]
    rw [ev, pc16_7103]
    exact h
  · rintro ⟨⟨b_0, o_0, x_1, x_3, h0, h1, h2⟩, h⟩
    have ev : [0, 1, 3].map σ = [(.ptr b_0 o_0), (.flat (.int .u32 x_1)), (.flat (.bool x_3))] := by simp only [List.map_cons, List.map_nil, h0, h1, h2]
    rw [ev, pc16_7103] at h
    unfold LamP16_7103
    simp only [h0, h1, h2, kI, kbool, kS, kptr, kaggN, kite, decide_true, eq_self]
    exact h

def lxp16_4004 : Ex → List Nat := fun e => match e with
  | .ret => [8, 9, 10]
  | .normal => [0, 1, 3]
  | _ => []

theorem pc16_4004 (b_0 o_0 : Nat) (x_1 : Int) (x_3 : Bool) (x_29 : Bool) (m : Mem) (k : KX) : once Try.prog E16 Lam16 [0, 1, 3, 29] lxp16_4004 (((secsOf (bodyOf Try.f16)).filter Lam16.cut).getD 2 .skip) [(.ptr b_0 o_0), (.flat (.int .u32 x_1)), (.flat (.bool x_3)), (.flat (.bool x_29))] m k = P16_4004 b_0 o_0 x_1 x_3 x_29 m (fun x_8' x_9' x_10' m' => k .ret (only [8, 9, 10] [(.flat (.int .u32 x_8')), (.flat (.int .i64 x_9')), (.flat (.bool x_10'))]) m') (fun m' => k .normal (only [0, 1, 3] [(.ptr b_0 o_0), (.flat (.int .u32 x_1)), (.flat (.bool x_3))]) m') := by
  kernel_rfl

theorem pok16_4004 : PieceOK Try.prog E16 Lam16 (((secsOf (bodyOf Try.f16)).filter Lam16.cut).getD 2 .skip) := by
  refine ⟨fun σ => ∃ b_0 o_0 x_1 x_3 x_29, σ 0 = .ptr b_0 o_0 ∧ σ 1 = .flat (.int .u32 x_1) ∧ σ 3 = .flat (.bool x_3) ∧ σ 29 = .flat (.bool x_29), [0, 1, 3, 29], lxp16_4004, fun σ m k => ?_⟩
  have e : Lam16.piece (((secsOf (bodyOf Try.f16)).filter Lam16.cut).getD 2 .skip) σ m k = LamP16_4004 σ m k := by kernel_rfl
  rw [e]
  constructor
  · intro h
    unfold LamP16_4004 at h
    obtain ⟨b_0, o_0, h0, h⟩ := kptr_ok h
    obtain ⟨x_1, h1, h⟩ := kI_ok h
    obtain ⟨x_3, h2, h⟩ := kbool_ok h
    obtain ⟨x_29, h3, h⟩ := kbool_ok h
    refine ⟨⟨b_0, o_0, x_1, x_3, x_29, h0, h1, h2, h3⟩, ?_⟩
    have ev : [0, 1, 3, 29].map σ = [(.ptr b_0 o_0), (.flat (.int .u32 x_1)), (.flat (.bool x_3)), (.flat (.bool x_29))] := by simp only [List.map_cons, List.map_nil, h0, h1, h2, h3]
    rw [ev, pc16_4004]
    exact h
  · rintro ⟨⟨b_0, o_0, x_1, x_3, x_29, h0, h1, h2, h3⟩, h⟩
    have ev : [0, 1, 3, 29].map σ = [(.ptr b_0 o_0), (.flat (.int .u32 x_1)), (.flat (.bool x_3)), (.flat (.bool x_29))] := by simp only [List.map_cons, List.map_nil, h0, h1, h2, h3]
    rw [ev, pc16_4004] at h
    unfold LamP16_4004
    simp only [h0, h1, h2, h3, kI, kbool, kS, kptr, kaggN, kite, decide_true, eq_self]
    exact h

def lxp16_3103 : Ex → List Nat := fun e => match e with
  | .ret => [8, 9, 10]
  | _ => []

theorem pc16_3103 (b_0 o_0 : Nat) (x_1 : Int) (x_2 : Int) (x_3 : Bool) (m : Mem) (k : KX) : once Try.prog E16 Lam16 [0, 1, 2, 3] lxp16_3103 (((secsOf (bodyOf Try.f16)).filter Lam16.cut).getD 0 .skip) [(.ptr b_0 o_0), (.flat (.int .u32 x_1)), (.flat (.int .i64 x_2)), (.flat (.bool x_3))] m k = P16_3103 b_0 o_0 x_1 x_2 x_3 m (fun x_8' x_9' x_10' m' => k .ret (only [8, 9, 10] [(.flat (.int .u32 x_8')), (.flat (.int .i64 x_9')), (.flat (.bool x_10'))]) m') := by
  kernel_rfl

theorem pok16_3103 : PieceOK Try.prog E16 Lam16 (((secsOf (bodyOf Try.f16)).filter Lam16.cut).getD 0 .skip) := by
  refine ⟨fun σ => ∃ b_0 o_0 x_1 x_2 x_3, σ 0 = .ptr b_0 o_0 ∧ σ 1 = .flat (.int .u32 x_1) ∧ σ 2 = .flat (.int .i64 x_2) ∧ σ 3 = .flat (.bool x_3), [0, 1, 2, 3], lxp16_3103, fun σ m k => ?_⟩
  have e : Lam16.piece (((secsOf (bodyOf Try.f16)).filter Lam16.cut).getD 0 .skip) σ m k = LamP16_3103 σ m k := by kernel_rfl
  rw [e]
  constructor
  · intro h
    unfold LamP16_3103 at h
    obtain ⟨b_0, o_0, h0, h⟩ := kptr_ok h
    obtain ⟨x_1, h1, h⟩ := kI_ok h
    obtain ⟨x_2, h2, h⟩ := kI_ok h
    obtain ⟨x_3, h3, h⟩ := kbool_ok h
    refine ⟨⟨b_0, o_0, x_1, x_2, x_3, h0, h1, h2, h3⟩, ?_⟩
    have ev : [0, 1, 2, 3].map σ = [(.ptr b_0 o_0), (.flat (.int .u32 x_1)), (.flat (.int .i64 x_2)), (.flat (.bool x_3))] := by simp only [List.map_cons, List.map_nil, h0, h1, h2, h3]
    rw [ev, pc16_3103]
    exact h
  · rintro ⟨⟨b_0, o_0, x_1, x_2, x_3, h0, h1, h2, h3⟩, h⟩
    have ev : [0, 1, 2, 3].map σ = [(.ptr b_0 o_0), (.flat (.int .u32 x_1)), (.flat (.int .i64 x_2)), (.flat (.bool x_3))] := by simp only [List.map_cons, List.map_nil, h0, h1, h2, h3]
    rw [ev, pc16_3103] at h
    unfold LamP16_3103
    simp only [h0, h1, h2, h3, kI, kbool, kS, kptr, kaggN, kite, decide_true, eq_self]
    exact h

theorem eqn16 (b_0 o_0 : Nat) (x_1 : Int) (x_2 : Int) (x_3 : Bool) (m : Mem) (k : KV) : bodyK Try.prog E16 Lam16 Try.f16 true [(.ptr b_0 o_0), (.flat (.int .u32 x_1)), (.flat (.int .i64 x_2)), (.flat (.bool x_3))] m k = F16 b_0 o_0 x_1 x_2 x_3 m (fun x_1000 x_1001 x_1002 m' => k (.tup [(.flat (.int .u32 x_1000)), (.flat (.int .i64 x_1001)), (.flat (.bool x_1002))]) m') := by
  kernel_rfl

theorem fs16 (w0 : World) : FS Try.prog w0 16 G16 := by
  refine (fs_body (Γ := E16) (sound_env (l := [(20, G20), (21, G21)]) w0 (by
    intro p hp
    simp only [List.mem_cons, List.not_mem_nil, or_false] at hp
    rcases hp with rfl | rfl
    · exact fs20 w0
    · exact fs21 w0)) (by kernel_rfl) Try.func16 (Λ := Lam16) (c := (bodyOf Try.f16)) (by kernel_rfl) Try.call16 (by kernel_rfl) (LS_of (bodyOf Try.f16) 0 (by kernel_rfl) (fun i hi => absurd hi (Nat.not_lt_zero i)) 4 (by kernel_rfl) (by
    intro i hi
    match i, hi with
    | 0, _ => exact pok16_3103
    | 1, _ => exact pok16_7103
    | 2, _ => exact pok16_4004
    | 3, _ => exact pok16_9102
    | i + 4, hi => omega)) true (np := 4) (Nat.le_of_ble_eq_true (by kernel_rfl))).imp fun args => ?_
  by_cases hl : args.length = 4
  rotate_left
  · exact .inr fun m k hk => by
      unfold G16 at hk
      split at hk
      · exact hl rfl
      · exact hk
  obtain ⟨a0, a1, a2, a3, rfl⟩ : ∃ a0 a1 a2 a3, args = [a0, a1, a2, a3] := len_list4 hl
  rcases kptr_or a0 with ⟨b_0, o_0, rfl⟩ | h
  rotate_left
  · exact .inr fun m k hk => h _ (by simpa only [G16, kI, kbool, kS, kptr, kaggN, kite, decide_true, eq_self] using hk)
  rcases kI_or .u32 a1 with ⟨x_1, rfl⟩ | h
  rotate_left
  · exact .inr fun m k hk => h _ (by simpa only [G16, kI, kbool, kS, kptr, kaggN, kite, decide_true, eq_self] using hk)
  rcases kI_or .i64 a2 with ⟨x_2, rfl⟩ | h
  rotate_left
  · exact .inr fun m k hk => h _ (by simpa only [G16, kI, kbool, kS, kptr, kaggN, kite, decide_true, eq_self] using hk)
  rcases kbool_or a3 with ⟨x_3, rfl⟩ | h
  rotate_left
  · exact .inr fun m k hk => h _ (by simpa only [G16, kI, kbool, kS, kptr, kaggN, kite, decide_true, eq_self] using hk)
  exact .inl fun m k => propext ⟨fun h => ⟨rfl, by rw [eqn16]; simpa only [G16, kI, kbool, kS, kptr, kaggN, kite, decide_true, eq_self] using h⟩, fun h => by have h := h.2; rw [eqn16] at h; simpa only [G16, kI, kbool, kS, kptr, kaggN, kite, decide_true, eq_self] using h⟩

/-- pianola/seg.Mode -/
def F17 (b_0 o_0 : Nat) (m : Mem) (k : Int → Mem → Prop) : Prop :=
  ldI .u32 m b_0 (o_0 + 39 + 10) fun x1 => F11 b_0 o_0 m fun x2 m3 => kif x2 ((Keeps m m3 ∧ k (IntKind.wrap .i64 ((IntKind.wrap .i64 (bits .and .u32 x1 255)) + 256)) m)) ((Keeps m m3 ∧ k (IntKind.wrap .i64 (bits .and .u32 x1 255)) m))

def G17 (args : List AV) (m : Mem) (k : KV) : Prop := match args with
  | [a0] => kptr a0 fun b_0 o_0 => F17 b_0 o_0 m (fun x_1000 m' => k (.flat (.int .i64 x_1000)) m')
  | _ => False

def E17 : Env := envOf [(11, G11)]

def Lam17 : LEnv := ⟨fun a σ m k => match firstReg a with
  | _ => bump False,
  fun id => match id with
  | _ => bump false,
  fun b => match keyC b with
  | _ => bump false,
  fun b σ m k => match keyC b with
  | _ => bump False⟩

theorem eqn17 (b_0 o_0 : Nat) (m : Mem) (k : KV) : bodyK Try.prog E17 Lam17 Try.f17 true [(.ptr b_0 o_0)] m k = F17 b_0 o_0 m (fun x_1000 m' => k (.flat (.int .i64 x_1000)) m') := by
  kernel_rfl

theorem fs17 (w0 : World) : FS Try.prog w0 17 G17 := by
  refine (fs_body (Γ := E17) (sound_env (l := [(11, G11)]) w0 (by
    intro p hp
    simp only [List.mem_cons, List.not_mem_nil, or_false] at hp
    rcases hp with rfl
    · exact fs11 w0)) (by kernel_rfl) Try.func17 (Λ := Lam17) (c := (bodyOf Try.f17)) (by kernel_rfl) Try.call17 (by kernel_rfl) (LS_of (bodyOf Try.f17) 0 (by kernel_rfl) (fun i hi => absurd hi (Nat.not_lt_zero i)) 0 (by kernel_rfl) (fun i hi => absurd hi (Nat.not_lt_zero i))) true (np := 1) (Nat.le_of_ble_eq_true (by kernel_rfl))).imp fun args => ?_
  by_cases hl : args.length = 1
  rotate_left
  · exact .inr fun m k hk => by
      unfold G17 at hk
      split at hk
      · exact hl rfl
      · exact hk
  obtain ⟨a0, rfl⟩ : ∃ a0, args = [a0] := len_list1 hl
  rcases kptr_or a0 with ⟨b_0, o_0, rfl⟩ | h
  rotate_left
  · exact .inr fun m k hk => h _ (by simpa only [G17, kI, kbool, kS, kptr, kaggN, kite, decide_true, eq_self] using hk)
  exact .inl fun m k => propext ⟨fun h => ⟨rfl, by rw [eqn17]; simpa only [G17, kI, kbool, kS, kptr, kaggN, kite, decide_true, eq_self] using h⟩, fun h => by have h := h.2; rw [eqn17] at h; simpa only [G17, kI, kbool, kS, kptr, kaggN, kite, decide_true, eq_self] using h⟩

end Go.Proofs.Ytdjieokcflogmaa.Am
