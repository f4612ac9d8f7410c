/- What Go functions ask of what follows them, as plain functions over the abstract machine; the machine asks just that. Written by gen.py. -/
import Derived.Test.YtkgidjnaddjjbaaGreatProg
import Derived.Test.YtkgidjnaddjjbaaGreatAmL
import Derived.Test.YtkgidjnaddjjbaaGreatM5
namespace Go.Proofs.YtkgidjnaddjjbaaGreat.Am
set_option linter.unusedVariables false
set_option linter.unusedSimpArgs false
set_option maxRecDepth 100000

def E65 : Env := envOf [(94, G94), (96, G96), (97, G97), (98, G98)]

/-- (*pianola/pianolaref15.Bus).Store -/
def F65 (b_0 o_0 : Nat) (x_1 : Int) (x_2 : Int) (x_3 : Int) (x_4 : Int) (m : Mem) (k : Bool → Mem → Prop) : Prop :=
  ldA m b_0 (o_0 + 0) fun v1 => kptr v1 fun b2 o3 => ldA m b2 (o3 + 0) fun v4 => klen v4 fun x5 => kif (decide (x_1 < (IntKind.wrap .u32 x5))) (ldA m b_0 (o_0 + 0) fun v6 => kptr v6 fun b7 o8 => F97 b7 o8 x_1 x_2 x_3 m fun x9 m10 => k x9 m10) (F94 x_1 x_2 m fun x11 x12 x13 m14 => kif (!x13) (k false m14) (F98 b_0 o_0 x11 x12 x_3 x_4 m14 fun x15 m16 => F96 b_0 o_0 m16 fun m17 => k x15 m17))

def G65 (args : List AV) (m : Mem) (k : KV) : Prop := match args with
  | [a0, a1, a2, a3, a4] => kptr a0 fun b_0 o_0 => kI .u32 a1 fun x_1 => kI .i64 a2 fun x_2 => kI .u32 a3 fun x_3 => kI .i64 a4 fun x_4 => F65 b_0 o_0 x_1 x_2 x_3 x_4 m (fun x_1000 m' => k (.flat (.bool x_1000)) m')
  | _ => False

def Lam65 : LEnv := ⟨fun a σ m k => match firstReg a with
  | _ => bump False,
  fun id => match id with
  | _ => bump false,
  fun b => match keyC b with
  | _ => bump false,
  fun b σ m k => match keyC b with
  | _ => bump False⟩

theorem eqn65 (b_0 o_0 : Nat) (x_1 : Int) (x_2 : Int) (x_3 : Int) (x_4 : Int) (m : Mem) (k : KV) : bodyK Tryz.prog E65 Lam65 Tryz.f65 false [(.ptr b_0 o_0), (.flat (.int .u32 x_1)), (.flat (.int .i64 x_2)), (.flat (.int .u32 x_3)), (.flat (.int .i64 x_4))] m k = F65 b_0 o_0 x_1 x_2 x_3 x_4 m (fun x_1000 m' => k (.flat (.bool x_1000)) m') := by
  kernel_rfl

theorem fs65 (w0 : World) : FS Tryz.prog w0 65 G65 := by
  refine (fs_body (Γ := E65) (sound_env (l := [(94, G94), (96, G96), (97, G97), (98, G98)]) w0 (by
    intro p hp
    simp only [List.mem_cons, List.not_mem_nil, or_false] at hp
    rcases hp with rfl | rfl | rfl | rfl
    · exact fs94 w0
    · exact fs96 w0
    · exact fs97 w0
    · exact fs98 w0)) (by kernel_rfl) Tryz.func65 (Λ := Lam65) (c := (bodyOf Tryz.f65)) (by kernel_rfl) Tryz.call65 (by kernel_rfl) (LS_of (bodyOf Tryz.f65) 0 (by kernel_rfl) (fun i hi => absurd hi (Nat.not_lt_zero i)) 0 (by kernel_rfl) (fun i hi => absurd hi (Nat.not_lt_zero i))) false (np := 5) (Nat.le_of_ble_eq_true (by kernel_rfl))).imp fun args => ?_
  by_cases hl : args.length = 5
  rotate_left
  · exact .inr fun m k hk => by
      unfold G65 at hk
      split at hk
      · exact hl rfl
      · exact hk
  obtain ⟨a0, a1, a2, a3, a4, rfl⟩ : ∃ a0 a1 a2 a3 a4, args = [a0, a1, a2, a3, a4] := len_list5 hl
  rcases kptr_or a0 with ⟨b_0, o_0, rfl⟩ | h
  rotate_left
  · exact .inr fun m k hk => h _ (by simpa only [G65, kI, kbool, kS, kptr, kaggN, kite, decide_true, eq_self] using hk)
  rcases kI_or .u32 a1 with ⟨x_1, rfl⟩ | h
  rotate_left
  · exact .inr fun m k hk => h _ (by simpa only [G65, kI, kbool, kS, kptr, kaggN, kite, decide_true, eq_self] using hk)
  rcases kI_or .i64 a2 with ⟨x_2, rfl⟩ | h
  rotate_left
  · exact .inr fun m k hk => h _ (by simpa only [G65, kI, kbool, kS, kptr, kaggN, kite, decide_true, eq_self] using hk)
  rcases kI_or .u32 a3 with ⟨x_3, rfl⟩ | h
  rotate_left
  · exact .inr fun m k hk => h _ (by simpa only [G65, kI, kbool, kS, kptr, kaggN, kite, decide_true, eq_self] using hk)
  rcases kI_or .i64 a4 with ⟨x_4, rfl⟩ | h
  rotate_left
  · exact .inr fun m k hk => h _ (by simpa only [G65, kI, kbool, kS, kptr, kaggN, kite, decide_true, eq_self] using hk)
  exact .inl fun m k => propext ⟨fun h => ⟨rfl, by rw [eqn65]; simpa only [G65, kI, kbool, kS, kptr, kaggN, kite, decide_true, eq_self] using h⟩, fun h => by have h := h.2; rw [eqn65] at h; simpa only [G65, kI, kbool, kS, kptr, kaggN, kite, decide_true, eq_self] using h⟩

def E33 : Env := envOf [(31, G31), (60, G60), (61, G61), (62, G62), (64, G64), (65, G65)]

def P33_9103 (b_0 o_0 : Nat) (x_3 : Int) (b_5 o_5 : Nat) (x_9 : Int) (x_10 : Int) (m : Mem) (kr : Int → Mem → Prop) : Prop :=
  ldA m b_0 (o_0 + 73) fun v27 => ldI .i64 m b_0 (o_0 + 0 + 72) fun x28 => kptr v27 fun b29 o30 => F65 b29 o30 x_10 x_9 x_3 x28 m fun x31 m32 => kif (!x31) (F31 b_0 o_0 7 false m32 fun x33 m34 => kr x33 m34) (ldI .i64 m32 b_5 (o_5 + 0) fun x35 => kif (x35 == 75) (stC m32 b_0 (o_0 + 0 + 37) (.flat (.bool false)) fun m36 => ldI .i64 m36 b_5 (o_5 + 2) fun x37 => F64 b_0 o_0 x37 1 m36 fun m38 => kr (-1) m38) (ldI .u32 m32 b_0 (o_0 + 0 + 38) fun x39 => kif (decide ((IntKind.wrap .u64 x_10) < (IntKind.wrap .u64 ((IntKind.wrap .u64 x39) + 4)))) (ldI .u32 m32 b_0 (o_0 + 0 + 38) fun x40 => kif (decide ((IntKind.wrap .u64 ((IntKind.wrap .u64 x_10) + (IntKind.wrap .u64 x_9))) > (IntKind.wrap .u64 x40))) (stC m32 b_0 (o_0 + 0 + 37) (.flat (.bool false)) fun m41 => kr (-1) m41) (kr (-1) m32)) (kr (-1) m32)))

def P33_6004 (b_0 o_0 : Nat) (x_3 : Int) (b_5 o_5 : Nat) (x_9 : Int) (x_10 : Int) (x_48 : Bool) (m : Mem) (kr : Int → Mem → Prop) (kn : Mem → Prop) : Prop :=
  kif x_48 (stC m b_0 (o_0 + 0 + 37) (.flat (.bool false)) fun m15 => ldI .i64 m15 b_5 (o_5 + 2) fun x16 => F64 b_0 o_0 x16 0 m15 fun m17 => kr (-1) m17) (kn  m)

/-- (*pianola/pianolaref17.Machine).store -/
def F33 (b_0 o_0 : Nat) (c_1 : Nat → AV) (x_2 : Int) (x_3 : Int) (m : Mem) (k : Int → Mem → Prop) : Prop :=
  newK m ⟨6, c_1, 25, false⟩ fun b2 m1 => ldI .i64 m1 b2 0 fun x3 => F60 x3 m1 fun x4 m5 => ldI .u32 m5 b2 5 fun x6 => F62 x6 16 m5 fun x7 m8 => F61 b_0 o_0 (IntKind.wrap .u32 (x_2 + x7)) x4 true m8 fun x9 x10 m11 => kif (decide (x10 ≥ 0)) (k x10 m11) (ldI .i64 m11 b2 0 fun x12 => kif (x12 == 75) (ldB m11 b_0 (o_0 + 0 + 37) fun x13 => kif x13 (ldI .u32 m11 b_0 (o_0 + 0 + 38) fun x14 => P33_6004 b_0 o_0 x_3 b2 0 x4 x9 (!(x14 == x9)) m11 (fun x18 m19 => k x18 m19) (fun m20 => P33_9103 b_0 o_0 x_3 b2 0 x4 x9 m20 (fun x42 m43 => k x42 m43))) (P33_6004 b_0 o_0 x_3 b2 0 x4 x9 true m11 (fun x21 m22 => k x21 m22) (fun m23 => P33_9103 b_0 o_0 x_3 b2 0 x4 x9 m23 (fun x44 m45 => k x44 m45)))) (P33_6004 b_0 o_0 x_3 b2 0 x4 x9 false m11 (fun x24 m25 => k x24 m25) (fun m26 => P33_9103 b_0 o_0 x_3 b2 0 x4 x9 m26 (fun x46 m47 => k x46 m47))))

def G33 (args : List AV) (m : Mem) (k : KV) : Prop := match args with
  | [a0, a1, a2, a3] => kptr a0 fun b_0 o_0 => kaggN 6 a1 fun c_1 => kI .u32 a2 fun x_2 => kI .u32 a3 fun x_3 => F33 b_0 o_0 c_1 x_2 x_3 m (fun x_1000 m' => k (.flat (.int .i64 x_1000)) m')
  | _ => False

def LamP33_6004 (σ : Nat → AV) (m : Mem) (k : KX) : Prop := kptr (σ 0) fun b_0 o_0 => kI .u32 (σ 3) fun x_3 => kptr (σ 5) fun b_5 o_5 => kI .i64 (σ 9) fun x_9 => kI .u32 (σ 10) fun x_10 => kbool (σ 48) fun x_48 => P33_6004 b_0 o_0 x_3 b_5 o_5 x_9 x_10 x_48 m (fun x_8' m' => k .ret (only [8] [(.flat (.int .i64 x_8'))]) m') (fun m' => k .normal (only [0, 3, 5, 9, 10] [(.ptr b_0 o_0), (.flat (.int .u32 x_3)), (.ptr b_5 o_5), (.flat (.int .i64 x_9)), (.flat (.int .u32 x_10))]) m')

def LamP33_9103 (σ : Nat → AV) (m : Mem) (k : KX) : Prop := kptr (σ 0) fun b_0 o_0 => kI .u32 (σ 3) fun x_3 => kptr (σ 5) fun b_5 o_5 => kI .i64 (σ 9) fun x_9 => kI .u32 (σ 10) fun x_10 => P33_9103 b_0 o_0 x_3 b_5 o_5 x_9 x_10 m (fun x_8' m' => k .ret (only [8] [(.flat (.int .i64 x_8'))]) m')

def Lam33 : LEnv := ⟨fun a σ m k => match firstReg a with
  | _ => bump False,
  fun id => match id with
  | _ => bump false,
  fun b => match keyC b with
  | some 6004 => true
  | some 9103 => true
  | _ => bump false,
  fun b σ m k => match keyC b with
  | some 6004 => LamP33_6004 σ m k
  | some 9103 => LamP33_9103 σ m k
  | _ => bump False⟩

def lxp33_9103 : Ex → List Nat := fun e => match e with
  | .ret => [8]
  | _ => []

theorem pc33_9103 (b_0 o_0 : Nat) (x_3 : Int) (b_5 o_5 : Nat) (x_9 : Int) (x_10 : Int) (m : Mem) (k : KX) : once Tryz.prog E33 Lam33 [0, 3, 5, 9, 10] lxp33_9103 (((secsOf (bodyOf Tryz.f33)).filter Lam33.cut).getD 0 .skip) [(.ptr b_0 o_0), (.flat (.int .u32 x_3)), (.ptr b_5 o_5), (.flat (.int .i64 x_9)), (.flat (.int .u32 x_10))] m k = P33_9103 b_0 o_0 x_3 b_5 o_5 x_9 x_10 m (fun x_8' m' => k .ret (only [8] [(.flat (.int .i64 x_8'))]) m') := by
  kernel_rfl

theorem pok33_9103 : PieceOK Tryz.prog E33 Lam33 (((secsOf (bodyOf Tryz.f33)).filter Lam33.cut).getD 0 .skip) := by
  refine ⟨fun σ => ∃ b_0 o_0 x_3 b_5 o_5 x_9 x_10, σ 0 = .ptr b_0 o_0 ∧ σ 3 = .flat (.int .u32 x_3) ∧ σ 5 = .ptr b_5 o_5 ∧ σ 9 = .flat (.int .i64 x_9) ∧ σ 10 = .flat (.int .u32 x_10), [0, 3, 5, 9, 10], lxp33_9103, fun σ m k => ?_⟩
  have e : Lam33.piece (((secsOf (bodyOf Tryz.f33)).filter Lam33.cut).getD 0 .skip) σ m k = LamP33_9103 σ m k := by kernel_rfl
  rw [e]
  constructor
  · intro h
    unfold LamP33_9103 at h
    obtain ⟨b_0, o_0, h0, h⟩ := kptr_ok h
    obtain ⟨x_3, h1, h⟩ := kI_ok h
    obtain ⟨b_5, o_5, h2, h⟩ := kptr_ok h
    obtain ⟨x_9, h3, h⟩ := kI_ok h
    obtain ⟨x_10, h4, h⟩ := kI_ok h
    refine ⟨⟨b_0, o_0, x_3, b_5, o_5, x_9, x_10, h0, h1, h2, h3, h4⟩, ?_⟩
    have ev : [0, 3, 5, 9, 10].map σ = [(.ptr b_0 o_0), (.flat (.int .u32 x_3)), (.ptr b_5 o_5), (.flat (.int .i64 x_9)), (.flat (.int .u32 x_10))] := by simp only [List.map_cons, List.map_nil, h0, h1, h2, h3, h4]
    rw [ev, pc33_9103]
    exact h
  · rintro ⟨⟨b_0, o_0, x_3, b_5, o_5, x_9, x_10, h0, h1, h2, h3, h4⟩, h⟩
    have ev : [0, 3, 5, 9, 10].map σ = [(.ptr b_0 o_0), (.flat (.int .u32 x_3)), (.ptr b_5 o_5), (.flat (.int .i64 x_9)), (.flat (.int .u32 x_10))] := by simp only [List.map_cons, List.map_nil, h0, h1, h2, h3, h4]
    rw [ev, pc33_9103] at h
    unfold LamP33_9103
    try simp only [h0, h1, h2, h3, h4, kI, kbool, kS, kptr, kaggN, kite, decide_true, eq_self]
    exact h

def lxp33_6004 : Ex → List Nat := fun e => match e with
  | .ret => [8]
  | .normal => [0, 3, 5, 9, 10]
  | _ => []

theorem pc33_6004 (b_0 o_0 : Nat) (x_3 : Int) (b_5 o_5 : Nat) (x_9 : Int) (x_10 : Int) (x_48 : Bool) (m : Mem) (k : KX) : once Tryz.prog E33 Lam33 [0, 3, 5, 9, 10, 48] lxp33_6004 (((secsOf (bodyOf Tryz.f33)).filter Lam33.cut).getD 1 .skip) [(.ptr b_0 o_0), (.flat (.int .u32 x_3)), (.ptr b_5 o_5), (.flat (.int .i64 x_9)), (.flat (.int .u32 x_10)), (.flat (.bool x_48))] m k = P33_6004 b_0 o_0 x_3 b_5 o_5 x_9 x_10 x_48 m (fun x_8' m' => k .ret (only [8] [(.flat (.int .i64 x_8'))]) m') (fun m' => k .normal (only [0, 3, 5, 9, 10] [(.ptr b_0 o_0), (.flat (.int .u32 x_3)), (.ptr b_5 o_5), (.flat (.int .i64 x_9)), (.flat (.int .u32 x_10))]) m') := by
  kernel_rfl

theorem pok33_6004 : PieceOK Tryz.prog E33 Lam33 (((secsOf (bodyOf Tryz.f33)).filter Lam33.cut).getD 1 .skip) := by
  refine ⟨fun σ => ∃ b_0 o_0 x_3 b_5 o_5 x_9 x_10 x_48, σ 0 = .ptr b_0 o_0 ∧ σ 3 = .flat (.int .u32 x_3) ∧ σ 5 = .ptr b_5 o_5 ∧ σ 9 = .flat (.int .i64 x_9) ∧ σ 10 = .flat (.int .u32 x_10) ∧ σ 48 = .flat (.bool x_48), [0, 3, 5, 9, 10, 48], lxp33_6004, fun σ m k => ?_⟩
  have e : Lam33.piece (((secsOf (bodyOf Tryz.f33)).filter Lam33.cut).getD 1 .skip) σ m k = LamP33_6004 σ m k := by kernel_rfl
  rw [e]
  constructor
  · intro h
    unfold LamP33_6004 at h
    obtain ⟨b_0, o_0, h0, h⟩ := kptr_ok h
    obtain ⟨x_3, h1, h⟩ := kI_ok h
    obtain ⟨b_5, o_5, h2, h⟩ := kptr_ok h
    obtain ⟨x_9, h3, h⟩ := kI_ok h
    obtain ⟨x_10, h4, h⟩ := kI_ok h
    obtain ⟨x_48, h5, h⟩ := kbool_ok h
    refine ⟨⟨b_0, o_0, x_3, b_5, o_5, x_9, x_10, x_48, h0, h1, h2, h3, h4, h5⟩, ?_⟩
    have ev : [0, 3, 5, 9, 10, 48].map σ = [(.ptr b_0 o_0), (.flat (.int .u32 x_3)), (.ptr b_5 o_5), (.flat (.int .i64 x_9)), (.flat (.int .u32 x_10)), (.flat (.bool x_48))] := by simp only [List.map_cons, List.map_nil, h0, h1, h2, h3, h4, h5]
    rw [ev, pc33_6004]
    exact h
  · rintro ⟨⟨b_0, o_0, x_3, b_5, o_5, x_9, x_10, x_48, h0, h1, h2, h3, h4, h5⟩, h⟩
    have ev : [0, 3, 5, 9, 10, 48].map σ = [(.ptr b_0 o_0), (.flat (.int .u32 x_3)), (.ptr b_5 o_5), (.flat (.int .i64 x_9)), (.flat (.int .u32 x_10)), (.flat (.bool x_48))] := by simp only [List.map_cons, List.map_nil, h0, h1, h2, h3, h4, h5]
    rw [ev, pc33_6004] at h
    unfold LamP33_6004
    try simp only [h0, h1, h2, h3, h4, h5, kI, kbool, kS, kptr, kaggN, kite, decide_true, eq_self]
    exact h

theorem eqn33 (b_0 o_0 : Nat) (c_1 : Nat → AV) (x_2 : Int) (x_3 : Int) (m : Mem) (k : KV) : bodyK Tryz.prog E33 Lam33 Tryz.f33 false [(.ptr b_0 o_0), (.agg 6 c_1), (.flat (.int .u32 x_2)), (.flat (.int .u32 x_3))] m k = F33 b_0 o_0 c_1 x_2 x_3 m (fun x_1000 m' => k (.flat (.int .i64 x_1000)) m') := by
  kernel_rfl

theorem fs33 (w0 : World) : FS Tryz.prog w0 33 G33 := by
  refine (fs_body (Γ := E33) (sound_env (l := [(31, G31), (60, G60), (61, G61), (62, G62), (64, G64), (65, G65)]) w0 (by
    intro p hp
    simp only [List.mem_cons, List.not_mem_nil, or_false] at hp
    rcases hp with rfl | rfl | rfl | rfl | rfl | rfl
    · exact fs31 w0
    · exact fs60 w0
    · exact fs61 w0
    · exact fs62 w0
    · exact fs64 w0
    · exact fs65 w0)) (by kernel_rfl) Tryz.func33 (Λ := Lam33) (c := (bodyOf Tryz.f33)) (by kernel_rfl) Tryz.call33 (by kernel_rfl) (LS_of (bodyOf Tryz.f33) 0 (by kernel_rfl) (fun i hi => absurd hi (Nat.not_lt_zero i)) 2 (by kernel_rfl) (by
    intro i hi
    match i, hi with
    | 0, _ => exact pok33_9103
    | 1, _ => exact pok33_6004
    | i + 2, hi => omega)) false (np := 4) (Nat.le_of_ble_eq_true (by kernel_rfl))).imp fun args => ?_
  by_cases hl : args.length = 4
  rotate_left
  · exact .inr fun m k hk => by
      unfold G33 at hk
      split at hk
      · exact hl rfl
      · exact hk
  obtain ⟨a0, a1, a2, a3, rfl⟩ : ∃ a0 a1 a2 a3, args = [a0, a1, a2, a3] := len_list4 hl
  rcases kptr_or a0 with ⟨b_0, o_0, rfl⟩ | h
  rotate_left
  · exact .inr fun m k hk => h _ (by simpa only [G33, kI, kbool, kS, kptr, kaggN, kite, decide_true, eq_self] using hk)
  rcases kaggN_or 6 a1 with ⟨c_1, rfl⟩ | h
  rotate_left
  · exact .inr fun m k hk => h _ (by simpa only [G33, kI, kbool, kS, kptr, kaggN, kite, decide_true, eq_self] using hk)
  rcases kI_or .u32 a2 with ⟨x_2, rfl⟩ | h
  rotate_left
  · exact .inr fun m k hk => h _ (by simpa only [G33, kI, kbool, kS, kptr, kaggN, kite, decide_true, eq_self] using hk)
  rcases kI_or .u32 a3 with ⟨x_3, rfl⟩ | h
  rotate_left
  · exact .inr fun m k hk => h _ (by simpa only [G33, kI, kbool, kS, kptr, kaggN, kite, decide_true, eq_self] using hk)
  exact .inl fun m k => propext ⟨fun h => ⟨rfl, by rw [eqn33]; simpa only [G33, kI, kbool, kS, kptr, kaggN, kite, decide_true, eq_self] using h⟩, fun h => by have h := h.2; rw [eqn33] at h; simpa only [G33, kI, kbool, kS, kptr, kaggN, kite, decide_true, eq_self] using h⟩

def E99 : Env := envOf []

/-- pianola/pianolaref6.named -/
def F99 (x_0 : Int) (m : Mem) (k : Bool → Mem → Prop) : Prop :=
  kif (decide (x_0 ≥ 0)) (kif (decide (x_0 ≤ 2)) ((Keeps m m ∧ k true m)) (kif (decide (x_0 ≥ 8)) ((Keeps m m ∧ k (decide (x_0 ≤ 15)) m)) ((Keeps m m ∧ k false m)))) (kif (decide (x_0 ≥ 8)) ((Keeps m m ∧ k (decide (x_0 ≤ 15)) m)) ((Keeps m m ∧ k false m)))

def G99 (args : List AV) (m : Mem) (k : KV) : Prop := match args with
  | [a0] => kI .i64 a0 fun x_0 => F99 x_0 m (fun x_1000 m' => k (.flat (.bool x_1000)) m')
  | _ => False

def Lam99 : LEnv := ⟨fun a σ m k => match firstReg a with
  | _ => bump False,
  fun id => match id with
  | _ => bump false,
  fun b => match keyC b with
  | _ => bump false,
  fun b σ m k => match keyC b with
  | _ => bump False⟩

theorem eqn99 (x_0 : Int) (m : Mem) (k : KV) : bodyK Tryz.prog E99 Lam99 Tryz.f99 true [(.flat (.int .i64 x_0))] m k = F99 x_0 m (fun x_1000 m' => k (.flat (.bool x_1000)) m') := by
  kernel_rfl

theorem fs99 (w0 : World) : FS Tryz.prog w0 99 G99 := by
  refine (fs_body (Γ := E99) (sound_env (l := []) w0 (by
    intro p hp
    cases hp)) (by kernel_rfl) Tryz.func99 (Λ := Lam99) (c := (bodyOf Tryz.f99)) (by kernel_rfl) Tryz.call99 (by kernel_rfl) (LS_of (bodyOf Tryz.f99) 0 (by kernel_rfl) (fun i hi => absurd hi (Nat.not_lt_zero i)) 0 (by kernel_rfl) (fun i hi => absurd hi (Nat.not_lt_zero i))) true (np := 1) (Nat.le_of_ble_eq_true (by kernel_rfl))).imp fun args => ?_
  by_cases hl : args.length = 1
  rotate_left
  · exact .inr fun m k hk => by
      unfold G99 at hk
      split at hk
      · exact hl rfl
      · exact hk
  obtain ⟨a0, rfl⟩ : ∃ a0, args = [a0] := len_list1 hl
  rcases kI_or .i64 a0 with ⟨x_0, rfl⟩ | h
  rotate_left
  · exact .inr fun m k hk => h _ (by simpa only [G99, kI, kbool, kS, kptr, kaggN, kite, decide_true, eq_self] using hk)
  exact .inl fun m k => propext ⟨fun h => ⟨rfl, by rw [eqn99]; simpa only [G99, kI, kbool, kS, kptr, kaggN, kite, decide_true, eq_self] using h⟩, fun h => by have h := h.2; rw [eqn99] at h; simpa only [G99, kI, kbool, kS, kptr, kaggN, kite, decide_true, eq_self] using h⟩

def E66 : Env := envOf [(99, G99)]

/-- pianola/pianolaref6.Read -/
def F66 (b_0 o_0 : Nat) (x_1 : Int) (m : Mem) (k : Int → Mem → Prop) : Prop :=
  kif (x_1 == 1) (ldI .u32 m b_0 (o_0 + 39 + 9) fun x1 => (Keeps m m ∧ k (x1.tmod 8) m)) (F99 x_1 m fun x2 m3 => kif (!x2) ((Keeps m m3 ∧ k 0 m)) (kif (decide (0 ≤ x_1) && decide (x_1 < 16)) (ldI .u32 m3 b_0 (o_0 + 39 + (x_1).toNat * 1) fun x4 => (Keeps m m3 ∧ k x4 m)) False))

def G66 (args : List AV) (m : Mem) (k : KV) : Prop := match args with
  | [a0, a1] => kptr a0 fun b_0 o_0 => kI .i64 a1 fun x_1 => F66 b_0 o_0 x_1 m (fun x_1000 m' => k (.flat (.int .u32 x_1000)) m')
  | _ => False

def Lam66 : LEnv := ⟨fun a σ m k => match firstReg a with
  | _ => bump False,
  fun id => match id with
  | _ => bump false,
  fun b => match keyC b with
  | _ => bump false,
  fun b σ m k => match keyC b with
  | _ => bump False⟩

theorem eqn66 (b_0 o_0 : Nat) (x_1 : Int) (m : Mem) (k : KV) : bodyK Tryz.prog E66 Lam66 Tryz.f66 true [(.ptr b_0 o_0), (.flat (.int .i64 x_1))] m k = F66 b_0 o_0 x_1 m (fun x_1000 m' => k (.flat (.int .u32 x_1000)) m') := by
  kernel_rfl

theorem fs66 (w0 : World) : FS Tryz.prog w0 66 G66 := by
  refine (fs_body (Γ := E66) (sound_env (l := [(99, G99)]) w0 (by
    intro p hp
    simp only [List.mem_cons, List.not_mem_nil, or_false] at hp
    rcases hp with rfl
    · exact fs99 w0)) (by kernel_rfl) Tryz.func66 (Λ := Lam66) (c := (bodyOf Tryz.f66)) (by kernel_rfl) Tryz.call66 (by kernel_rfl) (LS_of (bodyOf Tryz.f66) 0 (by kernel_rfl) (fun i hi => absurd hi (Nat.not_lt_zero i)) 0 (by kernel_rfl) (fun i hi => absurd hi (Nat.not_lt_zero i))) true (np := 2) (Nat.le_of_ble_eq_true (by kernel_rfl))).imp fun args => ?_
  by_cases hl : args.length = 2
  rotate_left
  · exact .inr fun m k hk => by
      unfold G66 at hk
      split at hk
      · exact hl rfl
      · exact hk
  obtain ⟨a0, a1, rfl⟩ : ∃ a0 a1, args = [a0, a1] := len_list2 hl
  rcases kptr_or a0 with ⟨b_0, o_0, rfl⟩ | h
  rotate_left
  · exact .inr fun m k hk => h _ (by simpa only [G66, kI, kbool, kS, kptr, kaggN, kite, decide_true, eq_self] using hk)
  rcases kI_or .i64 a1 with ⟨x_1, rfl⟩ | h
  rotate_left
  · exact .inr fun m k hk => h _ (by simpa only [G66, kI, kbool, kS, kptr, kaggN, kite, decide_true, eq_self] using hk)
  exact .inl fun m k => propext ⟨fun h => ⟨rfl, by rw [eqn66]; simpa only [G66, kI, kbool, kS, kptr, kaggN, kite, decide_true, eq_self] using h⟩, fun h => by have h := h.2; rw [eqn66] at h; simpa only [G66, kI, kbool, kS, kptr, kaggN, kite, decide_true, eq_self] using h⟩

def E67 : Env := envOf []

def P67_9004 (b_0 o_0 : Nat) (x_1 : Int) (x_2 : Int) (x_6 : Int) (x_34 : Bool) (m : Mem) (kn : Mem → Prop) : Prop :=
  kif x_34 (kif (decide (0 ≤ x_1) && decide (x_1 < 16)) (stC m b_0 (o_0 + 39 + (x_1).toNat * 1) (.flat (.int .u32 x_2)) fun m4 => kn  m4) False) (kif (x_6 == 11) (kif (decide (0 ≤ x_1) && decide (x_1 < 16)) (stC m b_0 (o_0 + 39 + (x_1).toNat * 1) (.flat (.int .u32 x_2)) fun m5 => ldI .u32 m5 b_0 (o_0 + 39 + 13) fun x6 => stC m5 b_0 (o_0 + 39 + 13) (.flat (.int .u32 (bits .andNot .u32 x6 32768))) fun m7 => kn  m7) False) (kif (x_6 == 12) (kif (decide (0 ≤ x_1) && decide (x_1 < 16)) (stC m b_0 (o_0 + 39 + (x_1).toNat * 1) (.flat (.int .u32 (bits .and .u32 x_2 65299))) fun m8 => kn  m8) False) (kif (x_6 == 13) (kif (decide (0 ≤ x_1) && decide (x_1 < 16)) (ldI .u32 m b_0 (o_0 + 39 + (x_1).toNat * 1) fun x9 => kif (decide (0 ≤ x_1) && decide (x_1 < 16)) (stC m b_0 (o_0 + 39 + (x_1).toNat * 1) (.flat (.int .u32 (bits .or .u32 (bits .andNot .u32 x9 768) (bits .and .u32 x_2 768)))) fun m10 => kn  m10) False) False) (kn  m))))

/-- pianola/pianolaref6.Write -/
def F67 (b_0 o_0 : Nat) (x_1 : Int) (x_2 : Int) (m : Mem) (k : Mem → Prop) : Prop :=
  kif (x_1 == 0) (kif (decide (0 ≤ x_1) && decide (x_1 < 16)) (stC m b_0 (o_0 + 39 + (x_1).toNat * 1) (.flat (.int .u32 (bits .and .u32 x_2 7))) fun m1 => k  m1) False) (kif (x_1 == 2) (kif (decide (0 ≤ x_1) && decide (x_1 < 16)) (stC m b_0 (o_0 + 39 + (x_1).toNat * 1) (.flat (.int .u32 (bits .and .u32 x_2 4294966279))) fun m2 => k  m2) False) (kif (x_1 == 10) (kif (decide (0 ≤ x_1) && decide (x_1 < 16)) (stC m b_0 (o_0 + 39 + (x_1).toNat * 1) (.flat (.int .u32 (bits .and .u32 x_2 4294966527))) fun m3 => k  m3) False) (kif (x_1 == 9) (P67_9004 b_0 o_0 x_1 x_2 x_1 (x_1 == 9) m (fun m11 => k  m11)) (P67_9004 b_0 o_0 x_1 x_2 x_1 (x_1 == 14) m (fun m12 => k  m12)))))

def G67 (args : List AV) (m : Mem) (k : KV) : Prop := match args with
  | [a0, a1, a2] => kptr a0 fun b_0 o_0 => kI .i64 a1 fun x_1 => kI .u32 a2 fun x_2 => F67 b_0 o_0 x_1 x_2 m (fun m' => k (.tup []) m')
  | _ => False

def LamP67_9004 (σ : Nat → AV) (m : Mem) (k : KX) : Prop := kptr (σ 0) fun b_0 o_0 => kI .i64 (σ 1) fun x_1 => kI .u32 (σ 2) fun x_2 => kI .i64 (σ 6) fun x_6 => kbool (σ 34) fun x_34 => P67_9004 b_0 o_0 x_1 x_2 x_6 x_34 m (fun m' => k .normal (only [] []) m')

def Lam67 : LEnv := ⟨fun a σ m k => match firstReg a with
  | _ => bump False,
  fun id => match id with
  | _ => bump false,
  fun b => match keyC b with
  | some 9004 => true
  | _ => bump false,
  fun b σ m k => match keyC b with
  | some 9004 => LamP67_9004 σ m k
  | _ => bump False⟩

def lxp67_9004 : Ex → List Nat := fun e => match e with
  | .normal => []
  | _ => []

theorem pc67_9004 (b_0 o_0 : Nat) (x_1 : Int) (x_2 : Int) (x_6 : Int) (x_34 : Bool) (m : Mem) (k : KX) : once Tryz.prog E67 Lam67 [0, 1, 2, 6, 34] lxp67_9004 (((secsOf (bodyOf Tryz.f67)).filter Lam67.cut).getD 0 .skip) [(.ptr b_0 o_0), (.flat (.int .i64 x_1)), (.flat (.int .u32 x_2)), (.flat (.int .i64 x_6)), (.flat (.bool x_34))] m k = P67_9004 b_0 o_0 x_1 x_2 x_6 x_34 m (fun m' => k .normal (only [] []) m') := by
  kernel_rfl

theorem pok67_9004 : PieceOK Tryz.prog E67 Lam67 (((secsOf (bodyOf Tryz.f67)).filter Lam67.cut).getD 0 .skip) := by
  refine ⟨fun σ => ∃ b_0 o_0 x_1 x_2 x_6 x_34, σ 0 = .ptr b_0 o_0 ∧ σ 1 = .flat (.int .i64 x_1) ∧ σ 2 = .flat (.int .u32 x_2) ∧ σ 6 = .flat (.int .i64 x_6) ∧ σ 34 = .flat (.bool x_34), [0, 1, 2, 6, 34], lxp67_9004, fun σ m k => ?_⟩
  have e : Lam67.piece (((secsOf (bodyOf Tryz.f67)).filter Lam67.cut).getD 0 .skip) σ m k = LamP67_9004 σ m k := by kernel_rfl
  rw [e]
  constructor
  · intro h
    unfold LamP67_9004 at h
    obtain ⟨b_0, o_0, h0, h⟩ := kptr_ok h
    obtain ⟨x_1, h1, h⟩ := kI_ok h
    obtain ⟨x_2, h2, h⟩ := kI_ok h
    obtain ⟨x_6, h3, h⟩ := kI_ok h
    obtain ⟨x_34, h4, h⟩ := kbool_ok h
    refine ⟨⟨b_0, o_0, x_1, x_2, x_6, x_34, h0, h1, h2, h3, h4⟩, ?_⟩
    have ev : [0, 1, 2, 6, 34].map σ = [(.ptr b_0 o_0), (.flat (.int .i64 x_1)), (.flat (.int .u32 x_2)), (.flat (.int .i64 x_6)), (.flat (.bool x_34))] := by simp only [List.map_cons, List.map_nil, h0, h1, h2, h3, h4]
    rw [ev, pc67_9004]
    exact h
  · rintro ⟨⟨b_0, o_0, x_1, x_2, x_6, x_34, h0, h1, h2, h3, h4⟩, h⟩
    have ev : [0, 1, 2, 6, 34].map σ = [(.ptr b_0 o_0), (.flat (.int .i64 x_1)), (.flat (.int .u32 x_2)), (.flat (.int .i64 x_6)), (.flat (.bool x_34))] := by simp only [List.map_cons, List.map_nil, h0, h1, h2, h3, h4]
    rw [ev, pc67_9004] at h
    unfold LamP67_9004
    try simp only [h0, h1, h2, h3, h4, kI, kbool, kS, kptr, kaggN, kite, decide_true, eq_self]
    exact h

theorem eqn67 (b_0 o_0 : Nat) (x_1 : Int) (x_2 : Int) (m : Mem) (k : KV) : bodyK Tryz.prog E67 Lam67 Tryz.f67 false [(.ptr b_0 o_0), (.flat (.int .i64 x_1)), (.flat (.int .u32 x_2))] m k = F67 b_0 o_0 x_1 x_2 m (fun m' => k (.tup []) m') := by
  kernel_rfl

theorem fs67 (w0 : World) : FS Tryz.prog w0 67 G67 := by
  refine (fs_body (Γ := E67) (sound_env (l := []) w0 (by
    intro p hp
    cases hp)) (by kernel_rfl) Tryz.func67 (Λ := Lam67) (c := (bodyOf Tryz.f67)) (by kernel_rfl) Tryz.call67 (by kernel_rfl) (LS_of (bodyOf Tryz.f67) 0 (by kernel_rfl) (fun i hi => absurd hi (Nat.not_lt_zero i)) 1 (by kernel_rfl) (by
    intro i hi
    match i, hi with
    | 0, _ => exact pok67_9004
    | i + 1, hi => omega)) false (np := 3) (Nat.le_of_ble_eq_true (by kernel_rfl))).imp fun args => ?_
  by_cases hl : args.length = 3
  rotate_left
  · exact .inr fun m k hk => by
      unfold G67 at hk
      split at hk
      · exact hl rfl
      · exact hk
  obtain ⟨a0, a1, a2, rfl⟩ : ∃ a0 a1 a2, args = [a0, a1, a2] := len_list3 hl
  rcases kptr_or a0 with ⟨b_0, o_0, rfl⟩ | h
  rotate_left
  · exact .inr fun m k hk => h _ (by simpa only [G67, kI, kbool, kS, kptr, kaggN, kite, decide_true, eq_self] using hk)
  rcases kI_or .i64 a1 with ⟨x_1, rfl⟩ | h
  rotate_left
  · exact .inr fun m k hk => h _ (by simpa only [G67, kI, kbool, kS, kptr, kaggN, kite, decide_true, eq_self] using hk)
  rcases kI_or .u32 a2 with ⟨x_2, rfl⟩ | h
  rotate_left
  · exact .inr fun m k hk => h _ (by simpa only [G67, kI, kbool, kS, kptr, kaggN, kite, decide_true, eq_self] using hk)
  exact .inl fun m k => propext ⟨fun h => ⟨rfl, by rw [eqn67]; simpa only [G67, kI, kbool, kS, kptr, kaggN, kite, decide_true, eq_self] using h⟩, fun h => by have h := h.2; rw [eqn67] at h; simpa only [G67, kI, kbool, kS, kptr, kaggN, kite, decide_true, eq_self] using h⟩

def E68 : Env := envOf [(67, G67)]

/-- pianola/pianolaref6.Get -/
def F68 (b_0 o_0 : Nat) (m : Mem) (k : Mem → Prop) : Prop :=
  ldI .u32 m b_0 (o_0 + 39 + 0) fun x1 => kif (decide (0 ≤ bits .and .u32 x1 7) && decide (bits .and .u32 x1 7 < 8)) (ldG 2 m b_0 (o_0 + 55 + (bits .and .u32 x1 7).toNat * 2) fun c2 => newK m ⟨2, lget [(.flat (.int .u32 0)), (.flat (.int .u32 0))], 39, false⟩ fun b4 m3 => stG 2 m3 b4 0 c2 fun m5 => ldI .u32 m5 b4 0 fun x6 => F67 b_0 o_0 10 x6 m5 fun m7 => ldI .u32 m7 b4 1 fun x8 => F67 b_0 o_0 2 x8 m7 fun m9 => k  m9) False

def G68 (args : List AV) (m : Mem) (k : KV) : Prop := match args with
  | [a0] => kptr a0 fun b_0 o_0 => F68 b_0 o_0 m (fun m' => k (.tup []) m')
  | _ => False

def Lam68 : LEnv := ⟨fun a σ m k => match firstReg a with
  | _ => bump False,
  fun id => match id with
  | _ => bump false,
  fun b => match keyC b with
  | _ => bump false,
  fun b σ m k => match keyC b with
  | _ => bump False⟩

theorem eqn68 (b_0 o_0 : Nat) (m : Mem) (k : KV) : bodyK Tryz.prog E68 Lam68 Tryz.f68 false [(.ptr b_0 o_0)] m k = F68 b_0 o_0 m (fun m' => k (.tup []) m') := by
  kernel_rfl

theorem fs68 (w0 : World) : FS Tryz.prog w0 68 G68 := by
  refine (fs_body (Γ := E68) (sound_env (l := [(67, G67)]) w0 (by
    intro p hp
    simp only [List.mem_cons, List.not_mem_nil, or_false] at hp
    rcases hp with rfl
    · exact fs67 w0)) (by kernel_rfl) Tryz.func68 (Λ := Lam68) (c := (bodyOf Tryz.f68)) (by kernel_rfl) Tryz.call68 (by kernel_rfl) (LS_of (bodyOf Tryz.f68) 0 (by kernel_rfl) (fun i hi => absurd hi (Nat.not_lt_zero i)) 0 (by kernel_rfl) (fun i hi => absurd hi (Nat.not_lt_zero i))) false (np := 1) (Nat.le_of_ble_eq_true (by kernel_rfl))).imp fun args => ?_
  by_cases hl : args.length = 1
  rotate_left
  · exact .inr fun m k hk => by
      unfold G68 at hk
      split at hk
      · exact hl rfl
      · exact hk
  obtain ⟨a0, rfl⟩ : ∃ a0, args = [a0] := len_list1 hl
  rcases kptr_or a0 with ⟨b_0, o_0, rfl⟩ | h
  rotate_left
  · exact .inr fun m k hk => h _ (by simpa only [G68, kI, kbool, kS, kptr, kaggN, kite, decide_true, eq_self] using hk)
  exact .inl fun m k => propext ⟨fun h => ⟨rfl, by rw [eqn68]; simpa only [G68, kI, kbool, kS, kptr, kaggN, kite, decide_true, eq_self] using h⟩, fun h => by have h := h.2; rw [eqn68] at h; simpa only [G68, kI, kbool, kS, kptr, kaggN, kite, decide_true, eq_self] using h⟩

def E69 : Env := envOf [(66, G66)]

def P69_3002 (b_0 o_0 : Nat) (x_4 : Int) (m : Mem) (kn : Mem → Prop) : Prop :=
  ldI .u32 m b_0 (o_0 + 39 + 10) fun x4 => ldI .u32 m b_0 (o_0 + 39 + 2) fun x5 => kif (decide (0 ≤ x_4) && decide (x_4 < 8)) (stG 2 m b_0 (o_0 + 55 + (x_4).toNat * 2) (upd (upd (lget [(.flat (.int .u32 0)), (.flat (.int .u32 0))]) 0 (.flat (.int .u32 x4))) 1 (.flat (.int .u32 x5))) fun m6 => kn  m6) False

/-- pianola/pianolaref6.Put -/
def F69 (b_0 o_0 : Nat) (x_1 : Bool) (m : Mem) (k : Mem → Prop) : Prop :=
  ldI .u32 m b_0 (o_0 + 39 + 0) fun x1 => kif x_1 (F66 b_0 o_0 1 m fun x2 m3 => P69_3002 b_0 o_0 x2 m3 (fun m7 => k  m7)) (P69_3002 b_0 o_0 (bits .and .u32 x1 7) m (fun m8 => k  m8))

def G69 (args : List AV) (m : Mem) (k : KV) : Prop := match args with
  | [a0, a1] => kptr a0 fun b_0 o_0 => kbool a1 fun x_1 => F69 b_0 o_0 x_1 m (fun m' => k (.tup []) m')
  | _ => False

def LamP69_3002 (σ : Nat → AV) (m : Mem) (k : KX) : Prop := kptr (σ 0) fun b_0 o_0 => kI .u32 (σ 4) fun x_4 => P69_3002 b_0 o_0 x_4 m (fun m' => k .normal (only [] []) m')

def Lam69 : LEnv := ⟨fun a σ m k => match firstReg a with
  | _ => bump False,
  fun id => match id with
  | _ => bump false,
  fun b => match keyC b with
  | some 3002 => true
  | _ => bump false,
  fun b σ m k => match keyC b with
  | some 3002 => LamP69_3002 σ m k
  | _ => bump False⟩

def lxp69_3002 : Ex → List Nat := fun e => match e with
  | .normal => []
  | _ => []

theorem pc69_3002 (b_0 o_0 : Nat) (x_4 : Int) (m : Mem) (k : KX) : once Tryz.prog E69 Lam69 [0, 4] lxp69_3002 (((secsOf (bodyOf Tryz.f69)).filter Lam69.cut).getD 0 .skip) [(.ptr b_0 o_0), (.flat (.int .u32 x_4))] m k = P69_3002 b_0 o_0 x_4 m (fun m' => k .normal (only [] []) m') := by
  kernel_rfl

theorem pok69_3002 : PieceOK Tryz.prog E69 Lam69 (((secsOf (bodyOf Tryz.f69)).filter Lam69.cut).getD 0 .skip) := by
  refine ⟨fun σ => ∃ b_0 o_0 x_4, σ 0 = .ptr b_0 o_0 ∧ σ 4 = .flat (.int .u32 x_4), [0, 4], lxp69_3002, fun σ m k => ?_⟩
  have e : Lam69.piece (((secsOf (bodyOf Tryz.f69)).filter Lam69.cut).getD 0 .skip) σ m k = LamP69_3002 σ m k := by kernel_rfl
  rw [e]
  constructor
  · intro h
    unfold LamP69_3002 at h
    obtain ⟨b_0, o_0, h0, h⟩ := kptr_ok h
    obtain ⟨x_4, h1, h⟩ := kI_ok h
    refine ⟨⟨b_0, o_0, x_4, h0, h1⟩, ?_⟩
    have ev : [0, 4].map σ = [(.ptr b_0 o_0), (.flat (.int .u32 x_4))] := by simp only [List.map_cons, List.map_nil, h0, h1]
    rw [ev, pc69_3002]
    exact h
  · rintro ⟨⟨b_0, o_0, x_4, h0, h1⟩, h⟩
    have ev : [0, 4].map σ = [(.ptr b_0 o_0), (.flat (.int .u32 x_4))] := by simp only [List.map_cons, List.map_nil, h0, h1]
    rw [ev, pc69_3002] at h
    unfold LamP69_3002
    try simp only [h0, h1, kI, kbool, kS, kptr, kaggN, kite, decide_true, eq_self]
    exact h

theorem eqn69 (b_0 o_0 : Nat) (x_1 : Bool) (m : Mem) (k : KV) : bodyK Tryz.prog E69 Lam69 Tryz.f69 false [(.ptr b_0 o_0), (.flat (.bool x_1))] m k = F69 b_0 o_0 x_1 m (fun m' => k (.tup []) m') := by
  kernel_rfl

theorem fs69 (w0 : World) : FS Tryz.prog w0 69 G69 := by
  refine (fs_body (Γ := E69) (sound_env (l := [(66, G66)]) w0 (by
    intro p hp
    simp only [List.mem_cons, List.not_mem_nil, or_false] at hp
    rcases hp with rfl
    · exact fs66 w0)) (by kernel_rfl) Tryz.func69 (Λ := Lam69) (c := (bodyOf Tryz.f69)) (by kernel_rfl) Tryz.call69 (by kernel_rfl) (LS_of (bodyOf Tryz.f69) 0 (by kernel_rfl) (fun i hi => absurd hi (Nat.not_lt_zero i)) 1 (by kernel_rfl) (by
    intro i hi
    match i, hi with
    | 0, _ => exact pok69_3002
    | i + 1, hi => omega)) false (np := 2) (Nat.le_of_ble_eq_true (by kernel_rfl))).imp fun args => ?_
  by_cases hl : args.length = 2
  rotate_left
  · exact .inr fun m k hk => by
      unfold G69 at hk
      split at hk
      · exact hl rfl
      · exact hk
  obtain ⟨a0, a1, rfl⟩ : ∃ a0 a1, args = [a0, a1] := len_list2 hl
  rcases kptr_or a0 with ⟨b_0, o_0, rfl⟩ | h
  rotate_left
  · exact .inr fun m k hk => h _ (by simpa only [G69, kI, kbool, kS, kptr, kaggN, kite, decide_true, eq_self] using hk)
  rcases kbool_or a1 with ⟨x_1, rfl⟩ | h
  rotate_left
  · exact .inr fun m k hk => h _ (by simpa only [G69, kI, kbool, kS, kptr, kaggN, kite, decide_true, eq_self] using hk)
  exact .inl fun m k => propext ⟨fun h => ⟨rfl, by rw [eqn69]; simpa only [G69, kI, kbool, kS, kptr, kaggN, kite, decide_true, eq_self] using h⟩, fun h => by have h := h.2; rw [eqn69] at h; simpa only [G69, kI, kbool, kS, kptr, kaggN, kite, decide_true, eq_self] using h⟩

def E70 : Env := envOf [(100, G100)]

/-- pianola/pianolaref6.Probe -/
def F70 (b_0 o_0 : Nat) (m : Mem) (k : Mem → Prop) : Prop :=
  stC m b_0 (o_0 + 39 + 0) (.flat (.int .u32 2147483648)) fun m1 => ldI .u32 m1 b_0 (o_0 + 39 + 10) fun x2 => F100 b_0 o_0 x2 m1 fun x3 m4 => kif (decide (x3 ≥ 0)) (stC m4 b_0 (o_0 + 39 + 0) (.flat (.int .u32 (IntKind.wrap .u32 x3))) fun m5 => k  m5) (k  m4)

def G70 (args : List AV) (m : Mem) (k : KV) : Prop := match args with
  | [a0] => kptr a0 fun b_0 o_0 => F70 b_0 o_0 m (fun m' => k (.tup []) m')
  | _ => False

def Lam70 : LEnv := ⟨fun a σ m k => match firstReg a with
  | _ => bump False,
  fun id => match id with
  | _ => bump false,
  fun b => match keyC b with
  | _ => bump false,
  fun b σ m k => match keyC b with
  | _ => bump False⟩

theorem eqn70 (b_0 o_0 : Nat) (m : Mem) (k : KV) : bodyK Tryz.prog E70 Lam70 Tryz.f70 false [(.ptr b_0 o_0)] m k = F70 b_0 o_0 m (fun m' => k (.tup []) m') := by
  kernel_rfl

theorem fs70 (w0 : World) : FS Tryz.prog w0 70 G70 := by
  refine (fs_body (Γ := E70) (sound_env (l := [(100, G100)]) w0 (by
    intro p hp
    simp only [List.mem_cons, List.not_mem_nil, or_false] at hp
    rcases hp with rfl
    · exact fs100 w0)) (by kernel_rfl) Tryz.func70 (Λ := Lam70) (c := (bodyOf Tryz.f70)) (by kernel_rfl) Tryz.call70 (by kernel_rfl) (LS_of (bodyOf Tryz.f70) 0 (by kernel_rfl) (fun i hi => absurd hi (Nat.not_lt_zero i)) 0 (by kernel_rfl) (fun i hi => absurd hi (Nat.not_lt_zero i))) false (np := 1) (Nat.le_of_ble_eq_true (by kernel_rfl))).imp fun args => ?_
  by_cases hl : args.length = 1
  rotate_left
  · exact .inr fun m k hk => by
      unfold G70 at hk
      split at hk
      · exact hl rfl
      · exact hk
  obtain ⟨a0, rfl⟩ : ∃ a0, args = [a0] := len_list1 hl
  rcases kptr_or a0 with ⟨b_0, o_0, rfl⟩ | h
  rotate_left
  · exact .inr fun m k hk => h _ (by simpa only [G70, kI, kbool, kS, kptr, kaggN, kite, decide_true, eq_self] using hk)
  exact .inl fun m k => propext ⟨fun h => ⟨rfl, by rw [eqn70]; simpa only [G70, kI, kbool, kS, kptr, kaggN, kite, decide_true, eq_self] using h⟩, fun h => by have h := h.2; rw [eqn70] at h; simpa only [G70, kI, kbool, kS, kptr, kaggN, kite, decide_true, eq_self] using h⟩

def E71 : Env := envOf []

/-- pianola/pianolaref6.Return -/
def F71 (b_0 o_0 : Nat) (m : Mem) (k : Mem → Prop) : Prop :=
  ldI .u32 m b_0 (o_0 + 39 + 14) fun x1 => stC m b_0 (o_0 + 34) (.flat (.int .u32 x1)) fun m2 => ldI .u32 m2 b_0 (o_0 + 34) fun x3 => stC m2 b_0 (o_0 + 35) (.flat (.int .u32 (IntKind.wrap .u32 (x3 + 4)))) fun m4 => stC m4 b_0 (o_0 + 36) (.flat (.bool false)) fun m5 => stC m5 b_0 (o_0 + 37) (.flat (.bool false)) fun m6 => ldI .u32 m6 b_0 (o_0 + 39 + 12) fun x7 => stC m6 b_0 (o_0 + 39 + 12) (.flat (.int .u32 (bits .andNot .u32 x7 2))) fun m8 => k  m8

def G71 (args : List AV) (m : Mem) (k : KV) : Prop := match args with
  | [a0] => kptr a0 fun b_0 o_0 => F71 b_0 o_0 m (fun m' => k (.tup []) m')
  | _ => False

def Lam71 : LEnv := ⟨fun a σ m k => match firstReg a with
  | _ => bump False,
  fun id => match id with
  | _ => bump false,
  fun b => match keyC b with
  | _ => bump false,
  fun b σ m k => match keyC b with
  | _ => bump False⟩

theorem eqn71 (b_0 o_0 : Nat) (m : Mem) (k : KV) : bodyK Tryz.prog E71 Lam71 Tryz.f71 false [(.ptr b_0 o_0)] m k = F71 b_0 o_0 m (fun m' => k (.tup []) m') := by
  kernel_rfl

theorem fs71 (w0 : World) : FS Tryz.prog w0 71 G71 := by
  refine (fs_body (Γ := E71) (sound_env (l := []) w0 (by
    intro p hp
    cases hp)) (by kernel_rfl) Tryz.func71 (Λ := Lam71) (c := (bodyOf Tryz.f71)) (by kernel_rfl) Tryz.call71 (by kernel_rfl) (LS_of (bodyOf Tryz.f71) 0 (by kernel_rfl) (fun i hi => absurd hi (Nat.not_lt_zero i)) 0 (by kernel_rfl) (fun i hi => absurd hi (Nat.not_lt_zero i))) false (np := 1) (Nat.le_of_ble_eq_true (by kernel_rfl))).imp fun args => ?_
  by_cases hl : args.length = 1
  rotate_left
  · exact .inr fun m k hk => by
      unfold G71 at hk
      split at hk
      · exact hl rfl
      · exact hk
  obtain ⟨a0, rfl⟩ : ∃ a0, args = [a0] := len_list1 hl
  rcases kptr_or a0 with ⟨b_0, o_0, rfl⟩ | h
  rotate_left
  · exact .inr fun m k hk => h _ (by simpa only [G71, kI, kbool, kS, kptr, kaggN, kite, decide_true, eq_self] using hk)
  exact .inl fun m k => propext ⟨fun h => ⟨rfl, by rw [eqn71]; simpa only [G71, kI, kbool, kS, kptr, kaggN, kite, decide_true, eq_self] using h⟩, fun h => by have h := h.2; rw [eqn71] at h; simpa only [G71, kI, kbool, kS, kptr, kaggN, kite, decide_true, eq_self] using h⟩

def E34 : Env := envOf [(64, G64), (66, G66), (67, G67), (68, G68), (69, G69), (70, G70), (71, G71)]

def P34_10004 (b_0 o_0 : Nat) (b_4 o_4 : Nat) (x_7 : Int) (x_35 : Bool) (m : Mem) (kn : Mem → Prop) : Prop :=
  kif x_35 (ldI .i64 m b_4 (o_4 + 0) fun x13 => F69 b_0 (o_0 + 0) (x13 == 58) m fun m14 => kn  m14) (kif (x_7 == 59) (F70 b_0 (o_0 + 0) m fun m15 => kn  m15) (kif (x_7 == 60) (F71 b_0 (o_0 + 0) m fun m16 => kn  m16) (kif (x_7 == 61) (stC m b_0 (o_0 + 0 + 71) (.flat (.bool true)) fun m17 => kn  m17) (kn  m))))

/-- (*pianola/pianolaref17.Machine).system -/
def F34 (b_0 o_0 : Nat) (c_1 : Nat → AV) (x_2 : Int) (m : Mem) (k : Mem → Prop) : Prop :=
  newK m ⟨6, c_1, 25, false⟩ fun b2 m1 => ldI .i64 m1 b2 0 fun x3 => kif (x3 == 54) (∃ Fr4 : Nat → Prop, Fr4 b2 ∧ (ldI .i64 m1 b2 2 fun x5 => Fr4 b2 ∧ (ldI .i64 m1 b2 3 fun x6 => F66 b_0 (o_0 + 0) x6 m1 fun x7 m8 => KeepsIn Fr4 m1 m8 ∧ (F64 b_0 o_0 x5 x7 m8 fun m9 => KeepsIn Fr4 m8 m9 ∧ (k  m9))))) (kif (x3 == 55) (ldI .i64 m1 b2 3 fun x10 => F67 b_0 (o_0 + 0) x10 x_2 m1 fun m11 => k  m11) (kif (x3 == 56) (F68 b_0 (o_0 + 0) m1 fun m12 => k  m12) (kif (x3 == 57) (P34_10004 b_0 o_0 b2 0 x3 (x3 == 57) m1 (fun m18 => k  m18)) (P34_10004 b_0 o_0 b2 0 x3 (x3 == 58) m1 (fun m19 => k  m19)))))

def G34 (args : List AV) (m : Mem) (k : KV) : Prop := match args with
  | [a0, a1, a2] => kptr a0 fun b_0 o_0 => kaggN 6 a1 fun c_1 => kI .u32 a2 fun x_2 => F34 b_0 o_0 c_1 x_2 m (fun m' => k (.tup []) m')
  | _ => False

def LamP34_10004 (σ : Nat → AV) (m : Mem) (k : KX) : Prop := kptr (σ 0) fun b_0 o_0 => kptr (σ 4) fun b_4 o_4 => kI .i64 (σ 7) fun x_7 => kbool (σ 35) fun x_35 => P34_10004 b_0 o_0 b_4 o_4 x_7 x_35 m (fun m' => k .normal (only [] []) m')

def Lam34 : LEnv := ⟨fun a σ m k => match firstReg a with
  | _ => bump False,
  fun id => match id with
  | 3 => true
  | _ => bump false,
  fun b => match keyC b with
  | some 10004 => true
  | _ => bump false,
  fun b σ m k => match keyC b with
  | some 10004 => LamP34_10004 σ m k
  | _ => bump False⟩

def lxp34_10004 : Ex → List Nat := fun e => match e with
  | .normal => []
  | _ => []

theorem pc34_10004 (b_0 o_0 : Nat) (b_4 o_4 : Nat) (x_7 : Int) (x_35 : Bool) (m : Mem) (k : KX) : once Tryz.prog E34 Lam34 [0, 4, 7, 35] lxp34_10004 (((secsOf (bodyOf Tryz.f34)).filter Lam34.cut).getD 0 .skip) [(.ptr b_0 o_0), (.ptr b_4 o_4), (.flat (.int .i64 x_7)), (.flat (.bool x_35))] m k = P34_10004 b_0 o_0 b_4 o_4 x_7 x_35 m (fun m' => k .normal (only [] []) m') := by
  kernel_rfl

theorem pok34_10004 : PieceOK Tryz.prog E34 Lam34 (((secsOf (bodyOf Tryz.f34)).filter Lam34.cut).getD 0 .skip) := by
  refine ⟨fun σ => ∃ b_0 o_0 b_4 o_4 x_7 x_35, σ 0 = .ptr b_0 o_0 ∧ σ 4 = .ptr b_4 o_4 ∧ σ 7 = .flat (.int .i64 x_7) ∧ σ 35 = .flat (.bool x_35), [0, 4, 7, 35], lxp34_10004, fun σ m k => ?_⟩
  have e : Lam34.piece (((secsOf (bodyOf Tryz.f34)).filter Lam34.cut).getD 0 .skip) σ m k = LamP34_10004 σ m k := by kernel_rfl
  rw [e]
  constructor
  · intro h
    unfold LamP34_10004 at h
    obtain ⟨b_0, o_0, h0, h⟩ := kptr_ok h
    obtain ⟨b_4, o_4, h1, h⟩ := kptr_ok h
    obtain ⟨x_7, h2, h⟩ := kI_ok h
    obtain ⟨x_35, h3, h⟩ := kbool_ok h
    refine ⟨⟨b_0, o_0, b_4, o_4, x_7, x_35, h0, h1, h2, h3⟩, ?_⟩
    have ev : [0, 4, 7, 35].map σ = [(.ptr b_0 o_0), (.ptr b_4 o_4), (.flat (.int .i64 x_7)), (.flat (.bool x_35))] := by simp only [List.map_cons, List.map_nil, h0, h1, h2, h3]
    rw [ev, pc34_10004]
    exact h
  · rintro ⟨⟨b_0, o_0, b_4, o_4, x_7, x_35, h0, h1, h2, h3⟩, h⟩
    have ev : [0, 4, 7, 35].map σ = [(.ptr b_0 o_0), (.ptr b_4 o_4), (.flat (.int .i64 x_7)), (.flat (.bool x_35))] := by simp only [List.map_cons, List.map_nil, h0, h1, h2, h3]
    rw [ev, pc34_10004] at h
    unfold LamP34_10004
    try simp only [h0, h1, h2, h3, kI, kbool, kS, kptr, kaggN, kite, decide_true, eq_self]
    exact h

theorem eqn34 (b_0 o_0 : Nat) (c_1 : Nat → AV) (x_2 : Int) (m : Mem) (k : KV) : bodyK Tryz.prog E34 Lam34 Tryz.f34 false [(.ptr b_0 o_0), (.agg 6 c_1), (.flat (.int .u32 x_2))] m k = F34 b_0 o_0 c_1 x_2 m (fun m' => k (.tup []) m') := by
  kernel_rfl

theorem fs34 (w0 : World) : FS Tryz.prog w0 34 G34 := by
  refine (fs_body (Γ := E34) (sound_env (l := [(64, G64), (66, G66), (67, G67), (68, G68), (69, G69), (70, G70), (71, G71)]) w0 (by
    intro p hp
    simp only [List.mem_cons, List.not_mem_nil, or_false] at hp
    rcases hp with rfl | rfl | rfl | rfl | rfl | rfl | rfl
    · exact fs64 w0
    · exact fs66 w0
    · exact fs67 w0
    · exact fs68 w0
    · exact fs69 w0
    · exact fs70 w0
    · exact fs71 w0)) (by kernel_rfl) Tryz.func34 (Λ := Lam34) (c := (bodyOf Tryz.f34)) (by kernel_rfl) Tryz.call34 (by kernel_rfl) (LS_of (bodyOf Tryz.f34) 0 (by kernel_rfl) (fun i hi => absurd hi (Nat.not_lt_zero i)) 1 (by kernel_rfl) (by
    intro i hi
    match i, hi with
    | 0, _ => exact pok34_10004
    | i + 1, hi => omega)) false (np := 3) (Nat.le_of_ble_eq_true (by kernel_rfl))).imp fun args => ?_
  by_cases hl : args.length = 3
  rotate_left
  · exact .inr fun m k hk => by
      unfold G34 at hk
      split at hk
      · exact hl rfl
      · exact hk
  obtain ⟨a0, a1, a2, rfl⟩ : ∃ a0 a1 a2, args = [a0, a1, a2] := len_list3 hl
  rcases kptr_or a0 with ⟨b_0, o_0, rfl⟩ | h
  rotate_left
  · exact .inr fun m k hk => h _ (by simpa only [G34, kI, kbool, kS, kptr, kaggN, kite, decide_true, eq_self] using hk)
  rcases kaggN_or 6 a1 with ⟨c_1, rfl⟩ | h
  rotate_left
  · exact .inr fun m k hk => h _ (by simpa only [G34, kI, kbool, kS, kptr, kaggN, kite, decide_true, eq_self] using hk)
  rcases kI_or .u32 a2 with ⟨x_2, rfl⟩ | h
  rotate_left
  · exact .inr fun m k hk => h _ (by simpa only [G34, kI, kbool, kS, kptr, kaggN, kite, decide_true, eq_self] using hk)
  exact .inl fun m k => propext ⟨fun h => ⟨rfl, by rw [eqn34]; simpa only [G34, kI, kbool, kS, kptr, kaggN, kite, decide_true, eq_self] using h⟩, fun h => by have h := h.2; rw [eqn34] at h; simpa only [G34, kI, kbool, kS, kptr, kaggN, kite, decide_true, eq_self] using h⟩

def E101 : Env := envOf [(48, G48)]

/-- pianola/pianolaref4.shift -/
def F101 (x_0 : Int) (x_1 : Int) (x_2 : Int) (m : Mem) (k : Int → Mem → Prop) : Prop :=
  kif (x_0 == 0) (kif (decide (IntKind.wrap .u64 ((IntKind.wrap .i64 ((x_2.tmod 32) + 32)).tmod 32) < 0)) False ((Keeps m m ∧ k (IntKind.wrap .u32 (x_1 * 2 ^ min (IntKind.wrap .u64 ((IntKind.wrap .i64 ((x_2.tmod 32) + 32)).tmod 32)).toNat 32)) m))) (kif (x_0 == 1) (kif (decide (IntKind.wrap .u64 ((IntKind.wrap .i64 ((x_2.tmod 32) + 32)).tmod 32) < 0)) False ((Keeps m m ∧ k (x_1.fdiv (2 ^ min (IntKind.wrap .u64 ((IntKind.wrap .i64 ((x_2.tmod 32) + 32)).tmod 32)).toNat 32)) m))) (F48 x_1 x_2 m fun x1 m2 => (Keeps m m2 ∧ k x1 m)))

def G101 (args : List AV) (m : Mem) (k : KV) : Prop := match args with
  | [a0, a1, a2] => kI .i64 a0 fun x_0 => kI .u32 a1 fun x_1 => kI .i64 a2 fun x_2 => F101 x_0 x_1 x_2 m (fun x_1000 m' => k (.flat (.int .u32 x_1000)) m')
  | _ => False

def Lam101 : LEnv := ⟨fun a σ m k => match firstReg a with
  | _ => bump False,
  fun id => match id with
  | _ => bump false,
  fun b => match keyC b with
  | _ => bump false,
  fun b σ m k => match keyC b with
  | _ => bump False⟩

theorem eqn101 (x_0 : Int) (x_1 : Int) (x_2 : Int) (m : Mem) (k : KV) : bodyK Tryz.prog E101 Lam101 Tryz.f101 true [(.flat (.int .i64 x_0)), (.flat (.int .u32 x_1)), (.flat (.int .i64 x_2))] m k = F101 x_0 x_1 x_2 m (fun x_1000 m' => k (.flat (.int .u32 x_1000)) m') := by
  kernel_rfl

theorem fs101 (w0 : World) : FS Tryz.prog w0 101 G101 := by
  refine (fs_body (Γ := E101) (sound_env (l := [(48, G48)]) w0 (by
    intro p hp
    simp only [List.mem_cons, List.not_mem_nil, or_false] at hp
    rcases hp with rfl
    · exact fs48 w0)) (by kernel_rfl) Tryz.func101 (Λ := Lam101) (c := (bodyOf Tryz.f101)) (by kernel_rfl) Tryz.call101 (by kernel_rfl) (LS_of (bodyOf Tryz.f101) 0 (by kernel_rfl) (fun i hi => absurd hi (Nat.not_lt_zero i)) 0 (by kernel_rfl) (fun i hi => absurd hi (Nat.not_lt_zero i))) true (np := 3) (Nat.le_of_ble_eq_true (by kernel_rfl))).imp fun args => ?_
  by_cases hl : args.length = 3
  rotate_left
  · exact .inr fun m k hk => by
      unfold G101 at hk
      split at hk
      · exact hl rfl
      · exact hk
  obtain ⟨a0, a1, a2, rfl⟩ : ∃ a0 a1 a2, args = [a0, a1, a2] := len_list3 hl
  rcases kI_or .i64 a0 with ⟨x_0, rfl⟩ | h
  rotate_left
  · exact .inr fun m k hk => h _ (by simpa only [G101, kI, kbool, kS, kptr, kaggN, kite, decide_true, eq_self] using hk)
  rcases kI_or .u32 a1 with ⟨x_1, rfl⟩ | h
  rotate_left
  · exact .inr fun m k hk => h _ (by simpa only [G101, kI, kbool, kS, kptr, kaggN, kite, decide_true, eq_self] using hk)
  rcases kI_or .i64 a2 with ⟨x_2, rfl⟩ | h
  rotate_left
  · exact .inr fun m k hk => h _ (by simpa only [G101, kI, kbool, kS, kptr, kaggN, kite, decide_true, eq_self] using hk)
  exact .inl fun m k => propext ⟨fun h => ⟨rfl, by rw [eqn101]; simpa only [G101, kI, kbool, kS, kptr, kaggN, kite, decide_true, eq_self] using h⟩, fun h => by have h := h.2; rw [eqn101] at h; simpa only [G101, kI, kbool, kS, kptr, kaggN, kite, decide_true, eq_self] using h⟩

def E102 : Env := envOf []

/-- pianola/pianolaref4.bit -/
def F102 (x_0 : Bool) (m : Mem) (k : Int → Mem → Prop) : Prop :=
  kif x_0 ((Keeps m m ∧ k 1 m)) ((Keeps m m ∧ k 0 m))

def G102 (args : List AV) (m : Mem) (k : KV) : Prop := match args with
  | [a0] => kbool a0 fun x_0 => F102 x_0 m (fun x_1000 m' => k (.flat (.int .u32 x_1000)) m')
  | _ => False

def Lam102 : LEnv := ⟨fun a σ m k => match firstReg a with
  | _ => bump False,
  fun id => match id with
  | _ => bump false,
  fun b => match keyC b with
  | _ => bump false,
  fun b σ m k => match keyC b with
  | _ => bump False⟩

theorem eqn102 (x_0 : Bool) (m : Mem) (k : KV) : bodyK Tryz.prog E102 Lam102 Tryz.f102 true [(.flat (.bool x_0))] m k = F102 x_0 m (fun x_1000 m' => k (.flat (.int .u32 x_1000)) m') := by
  kernel_rfl

theorem fs102 (w0 : World) : FS Tryz.prog w0 102 G102 := by
  refine (fs_body (Γ := E102) (sound_env (l := []) w0 (by
    intro p hp
    cases hp)) (by kernel_rfl) Tryz.func102 (Λ := Lam102) (c := (bodyOf Tryz.f102)) (by kernel_rfl) Tryz.call102 (by kernel_rfl) (LS_of (bodyOf Tryz.f102) 0 (by kernel_rfl) (fun i hi => absurd hi (Nat.not_lt_zero i)) 0 (by kernel_rfl) (fun i hi => absurd hi (Nat.not_lt_zero i))) true (np := 1) (Nat.le_of_ble_eq_true (by kernel_rfl))).imp fun args => ?_
  by_cases hl : args.length = 1
  rotate_left
  · exact .inr fun m k hk => by
      unfold G102 at hk
      split at hk
      · exact hl rfl
      · exact hk
  obtain ⟨a0, rfl⟩ : ∃ a0, args = [a0] := len_list1 hl
  rcases kbool_or a0 with ⟨x_0, rfl⟩ | h
  rotate_left
  · exact .inr fun m k hk => h _ (by simpa only [G102, kI, kbool, kS, kptr, kaggN, kite, decide_true, eq_self] using hk)
  exact .inl fun m k => propext ⟨fun h => ⟨rfl, by rw [eqn102]; simpa only [G102, kI, kbool, kS, kptr, kaggN, kite, decide_true, eq_self] using h⟩, fun h => by have h := h.2; rw [eqn102] at h; simpa only [G102, kI, kbool, kS, kptr, kaggN, kite, decide_true, eq_self] using h⟩

end Go.Proofs.YtkgidjnaddjjbaaGreat.Am
