/- What Go functions ask of what follows them, as plain functions over the abstract machine; the machine asks just that. Written by gen.py. -/
import Derived.Test.YtkgidjnaddjjbaaProg
import Derived.Test.YtkgidjnaddjjbaaAmL
namespace Go.Proofs.Ytkgidjnaddjjbaa.Am
set_option linter.unusedVariables false
set_option linter.unusedSimpArgs false
set_option maxRecDepth 100000

def Yb0 : ByteArray := ⟨#[116, 100, 104]⟩

def Yb1 : ByteArray := ⟨#[115, 116, 100]⟩

def Yb2 : ByteArray := ⟨#[115]⟩

def Yb3 : ByteArray := ⟨#[115, 100]⟩

def Yb4 : ByteArray := ⟨#[100]⟩

def Yb5 : ByteArray := ⟨#[115, 116]⟩

def Yb6 : ByteArray := ⟨#[106]⟩

def Yb7 : ByteArray := ⟨#[115, 116, 105]⟩

def Yb8 : ByteArray := ⟨#[115, 105]⟩

def Yb9 : ByteArray := ⟨#[116, 105]⟩

def Yb10 : ByteArray := ⟨#[116, 100]⟩

def Yb11 : ByteArray := ⟨#[0, 1, 2, 2, 3, 3, 3, 3, 4, 4, 4, 4, 4, 4, 4, 4, 5, 5, 5, 5, 5, 5, 5, 5, 5, 5, 5, 5, 5, 5, 5, 5, 6, 6, 6, 6, 6, 6, 6, 6, 6, 6, 6, 6, 6, 6, 6, 6, 6, 6, 6, 6, 6, 6, 6, 6, 6, 6, 6, 6, 6, 6, 6, 6, 7, 7, 7, 7, 7, 7, 7, 7, 7, 7, 7, 7, 7, 7, 7, 7, 7, 7, 7, 7, 7, 7, 7, 7, 7, 7, 7, 7, 7, 7, 7, 7, 7, 7, 7, 7, 7, 7, 7, 7, 7, 7, 7, 7, 7, 7, 7, 7, 7, 7, 7, 7, 7, 7, 7, 7, 7, 7, 7, 7, 7, 7, 7, 7, 8, 8, 8, 8, 8, 8, 8, 8, 8, 8, 8, 8, 8, 8, 8, 8, 8, 8, 8, 8, 8, 8, 8, 8, 8, 8, 8, 8, 8, 8, 8, 8, 8, 8, 8, 8, 8, 8, 8, 8, 8, 8, 8, 8, 8, 8, 8, 8, 8, 8, 8, 8, 8, 8, 8, 8, 8, 8, 8, 8, 8, 8, 8, 8, 8, 8, 8, 8, 8, 8, 8, 8, 8, 8, 8, 8, 8, 8, 8, 8, 8, 8, 8, 8, 8, 8, 8, 8, 8, 8, 8, 8, 8, 8, 8, 8, 8, 8, 8, 8, 8, 8, 8, 8, 8, 8, 8, 8, 8, 8, 8, 8, 8, 8, 8, 8, 8, 8, 8, 8, 8, 8, 8, 8, 8, 8, 8, 8]⟩

def Z140 : Nat → AV := lget [(.flat (.int .i64 0)), (.flat (.int .i64 0)), (.flat (.int .i64 0)), (.flat (.string ⟨#[]⟩)), (.flat (.int .i64 0)), (.flat (.int .i64 0)), (.flat (.int .i64 0)), (.flat (.string ⟨#[]⟩)), (.flat (.int .i64 0)), (.flat (.int .i64 0)), (.flat (.int .i64 0)), (.flat (.string ⟨#[]⟩)), (.flat (.int .i64 0)), (.flat (.int .i64 0)), (.flat (.int .i64 0)), (.flat (.string ⟨#[]⟩)), (.flat (.int .i64 0)), (.flat (.int .i64 0)), (.flat (.int .i64 0)), (.flat (.string ⟨#[]⟩)), (.flat (.int .i64 0)), (.flat (.int .i64 0)), (.flat (.int .i64 0)), (.flat (.string ⟨#[]⟩)), (.flat (.int .i64 0)), (.flat (.int .i64 0)), (.flat (.int .i64 0)), (.flat (.string ⟨#[]⟩)), (.flat (.int .i64 0)), (.flat (.int .i64 0)), (.flat (.int .i64 0)), (.flat (.string ⟨#[]⟩)), (.flat (.int .i64 0)), (.flat (.int .i64 0)), (.flat (.int .i64 0)), (.flat (.string ⟨#[]⟩)), (.flat (.int .i64 0)), (.flat (.int .i64 0)), (.flat (.int .i64 0)), (.flat (.string ⟨#[]⟩)), (.flat (.int .i64 0)), (.flat (.int .i64 0)), (.flat (.int .i64 0)), (.flat (.string ⟨#[]⟩)), (.flat (.int .i64 0)), (.flat (.int .i64 0)), (.flat (.int .i64 0)), (.flat (.string ⟨#[]⟩)), (.flat (.int .i64 0)), (.flat (.int .i64 0)), (.flat (.int .i64 0)), (.flat (.string ⟨#[]⟩)), (.flat (.int .i64 0)), (.flat (.int .i64 0)), (.flat (.int .i64 0)), (.flat (.string ⟨#[]⟩)), (.flat (.int .i64 0)), (.flat (.int .i64 0)), (.flat (.int .i64 0)), (.flat (.string ⟨#[]⟩)), (.flat (.int .i64 0)), (.flat (.int .i64 0)), (.flat (.int .i64 0)), (.flat (.string ⟨#[]⟩)), (.flat (.int .i64 0)), (.flat (.int .i64 0)), (.flat (.int .i64 0)), (.flat (.string ⟨#[]⟩)), (.flat (.int .i64 0)), (.flat (.int .i64 0)), (.flat (.int .i64 0)), (.flat (.string ⟨#[]⟩)), (.flat (.int .i64 0)), (.flat (.int .i64 0)), (.flat (.int .i64 0)), (.flat (.string ⟨#[]⟩)), (.flat (.int .i64 0)), (.flat (.int .i64 0)), (.flat (.int .i64 0)), (.flat (.string ⟨#[]⟩)), (.flat (.int .i64 0)), (.flat (.int .i64 0)), (.flat (.int .i64 0)), (.flat (.string ⟨#[]⟩)), (.flat (.int .i64 0)), (.flat (.int .i64 0)), (.flat (.int .i64 0)), (.flat (.string ⟨#[]⟩)), (.flat (.int .i64 0)), (.flat (.int .i64 0)), (.flat (.int .i64 0)), (.flat (.string ⟨#[]⟩)), (.flat (.int .i64 0)), (.flat (.int .i64 0)), (.flat (.int .i64 0)), (.flat (.string ⟨#[]⟩)), (.flat (.int .i64 0)), (.flat (.int .i64 0)), (.flat (.int .i64 0)), (.flat (.string ⟨#[]⟩)), (.flat (.int .i64 0)), (.flat (.int .i64 0)), (.flat (.int .i64 0)), (.flat (.string ⟨#[]⟩)), (.flat (.int .i64 0)), (.flat (.int .i64 0)), (.flat (.int .i64 0)), (.flat (.string ⟨#[]⟩)), (.flat (.int .i64 0)), (.flat (.int .i64 0)), (.flat (.int .i64 0)), (.flat (.string ⟨#[]⟩)), (.flat (.int .i64 0)), (.flat (.int .i64 0)), (.flat (.int .i64 0)), (.flat (.string ⟨#[]⟩)), (.flat (.int .i64 0)), (.flat (.int .i64 0)), (.flat (.int .i64 0)), (.flat (.string ⟨#[]⟩)), (.flat (.int .i64 0)), (.flat (.int .i64 0)), (.flat (.int .i64 0)), (.flat (.string ⟨#[]⟩)), (.flat (.int .i64 0)), (.flat (.int .i64 0)), (.flat (.int .i64 0)), (.flat (.string ⟨#[]⟩)), (.flat (.int .i64 0)), (.flat (.int .i64 0)), (.flat (.int .i64 0)), (.flat (.string ⟨#[]⟩)), (.flat (.int .i64 0)), (.flat (.int .i64 0)), (.flat (.int .i64 0)), (.flat (.string ⟨#[]⟩)), (.flat (.int .i64 0)), (.flat (.int .i64 0)), (.flat (.int .i64 0)), (.flat (.string ⟨#[]⟩))]

def Z108 : Nat → AV := lget [(.flat (.int .i64 0)), (.flat (.int .i64 0)), (.flat (.int .i64 0)), (.flat (.string ⟨#[]⟩)), (.flat (.int .i64 0)), (.flat (.int .i64 0)), (.flat (.int .i64 0)), (.flat (.string ⟨#[]⟩)), (.flat (.int .i64 0)), (.flat (.int .i64 0)), (.flat (.int .i64 0)), (.flat (.string ⟨#[]⟩)), (.flat (.int .i64 0)), (.flat (.int .i64 0)), (.flat (.int .i64 0)), (.flat (.string ⟨#[]⟩)), (.flat (.int .i64 0)), (.flat (.int .i64 0)), (.flat (.int .i64 0)), (.flat (.string ⟨#[]⟩)), (.flat (.int .i64 0)), (.flat (.int .i64 0)), (.flat (.int .i64 0)), (.flat (.string ⟨#[]⟩)), (.flat (.int .i64 0)), (.flat (.int .i64 0)), (.flat (.int .i64 0)), (.flat (.string ⟨#[]⟩)), (.flat (.int .i64 0)), (.flat (.int .i64 0)), (.flat (.int .i64 0)), (.flat (.string ⟨#[]⟩)), (.flat (.int .i64 0)), (.flat (.int .i64 0)), (.flat (.int .i64 0)), (.flat (.string ⟨#[]⟩)), (.flat (.int .i64 0)), (.flat (.int .i64 0)), (.flat (.int .i64 0)), (.flat (.string ⟨#[]⟩)), (.flat (.int .i64 0)), (.flat (.int .i64 0)), (.flat (.int .i64 0)), (.flat (.string ⟨#[]⟩)), (.flat (.int .i64 0)), (.flat (.int .i64 0)), (.flat (.int .i64 0)), (.flat (.string ⟨#[]⟩)), (.flat (.int .i64 0)), (.flat (.int .i64 0)), (.flat (.int .i64 0)), (.flat (.string ⟨#[]⟩)), (.flat (.int .i64 0)), (.flat (.int .i64 0)), (.flat (.int .i64 0)), (.flat (.string ⟨#[]⟩)), (.flat (.int .i64 0)), (.flat (.int .i64 0)), (.flat (.int .i64 0)), (.flat (.string ⟨#[]⟩)), (.flat (.int .i64 0)), (.flat (.int .i64 0)), (.flat (.int .i64 0)), (.flat (.string ⟨#[]⟩)), (.flat (.int .i64 0)), (.flat (.int .i64 0)), (.flat (.int .i64 0)), (.flat (.string ⟨#[]⟩)), (.flat (.int .i64 0)), (.flat (.int .i64 0)), (.flat (.int .i64 0)), (.flat (.string ⟨#[]⟩)), (.flat (.int .i64 0)), (.flat (.int .i64 0)), (.flat (.int .i64 0)), (.flat (.string ⟨#[]⟩)), (.flat (.int .i64 0)), (.flat (.int .i64 0)), (.flat (.int .i64 0)), (.flat (.string ⟨#[]⟩)), (.flat (.int .i64 0)), (.flat (.int .i64 0)), (.flat (.int .i64 0)), (.flat (.string ⟨#[]⟩)), (.flat (.int .i64 0)), (.flat (.int .i64 0)), (.flat (.int .i64 0)), (.flat (.string ⟨#[]⟩)), (.flat (.int .i64 0)), (.flat (.int .i64 0)), (.flat (.int .i64 0)), (.flat (.string ⟨#[]⟩)), (.flat (.int .i64 0)), (.flat (.int .i64 0)), (.flat (.int .i64 0)), (.flat (.string ⟨#[]⟩)), (.flat (.int .i64 0)), (.flat (.int .i64 0)), (.flat (.int .i64 0)), (.flat (.string ⟨#[]⟩)), (.flat (.int .i64 0)), (.flat (.int .i64 0)), (.flat (.int .i64 0)), (.flat (.string ⟨#[]⟩)), (.flat (.int .i64 0)), (.flat (.int .i64 0)), (.flat (.int .i64 0)), (.flat (.string ⟨#[]⟩))]

def Z60 : Nat → AV := lget [(.flat (.int .i64 0)), (.flat (.int .i64 0)), (.flat (.int .i64 0)), (.flat (.string ⟨#[]⟩)), (.flat (.int .i64 0)), (.flat (.int .i64 0)), (.flat (.int .i64 0)), (.flat (.string ⟨#[]⟩)), (.flat (.int .i64 0)), (.flat (.int .i64 0)), (.flat (.int .i64 0)), (.flat (.string ⟨#[]⟩)), (.flat (.int .i64 0)), (.flat (.int .i64 0)), (.flat (.int .i64 0)), (.flat (.string ⟨#[]⟩)), (.flat (.int .i64 0)), (.flat (.int .i64 0)), (.flat (.int .i64 0)), (.flat (.string ⟨#[]⟩)), (.flat (.int .i64 0)), (.flat (.int .i64 0)), (.flat (.int .i64 0)), (.flat (.string ⟨#[]⟩)), (.flat (.int .i64 0)), (.flat (.int .i64 0)), (.flat (.int .i64 0)), (.flat (.string ⟨#[]⟩)), (.flat (.int .i64 0)), (.flat (.int .i64 0)), (.flat (.int .i64 0)), (.flat (.string ⟨#[]⟩)), (.flat (.int .i64 0)), (.flat (.int .i64 0)), (.flat (.int .i64 0)), (.flat (.string ⟨#[]⟩)), (.flat (.int .i64 0)), (.flat (.int .i64 0)), (.flat (.int .i64 0)), (.flat (.string ⟨#[]⟩)), (.flat (.int .i64 0)), (.flat (.int .i64 0)), (.flat (.int .i64 0)), (.flat (.string ⟨#[]⟩)), (.flat (.int .i64 0)), (.flat (.int .i64 0)), (.flat (.int .i64 0)), (.flat (.string ⟨#[]⟩)), (.flat (.int .i64 0)), (.flat (.int .i64 0)), (.flat (.int .i64 0)), (.flat (.string ⟨#[]⟩)), (.flat (.int .i64 0)), (.flat (.int .i64 0)), (.flat (.int .i64 0)), (.flat (.string ⟨#[]⟩)), (.flat (.int .i64 0)), (.flat (.int .i64 0)), (.flat (.int .i64 0)), (.flat (.string ⟨#[]⟩))]

def Z6 : Nat → AV := lget [(.flat (.int .i64 0)), (.flat (.int .i64 0)), (.flat (.int .i64 0)), (.flat (.int .i64 0)), (.flat (.int .i64 0)), (.flat (.int .u32 0))]

def Z37 : Nat → AV := lget [(.flat (.int .i64 0)), (.flat (.int .i64 0)), (.flat (.int .i64 0)), (.flat (.int .i64 0)), (.flat (.int .i64 0)), (.flat (.int .i64 0)), (.flat (.int .i64 0)), (.flat (.int .i64 0)), (.flat (.int .i64 0)), (.flat (.int .i64 0)), (.flat (.int .i64 0)), (.flat (.int .i64 0)), (.flat (.int .i64 0)), (.flat (.int .i64 0)), (.flat (.int .i64 0)), (.flat (.int .i64 0)), (.flat (.int .i64 0)), (.flat (.int .i64 0)), (.flat (.int .i64 0)), (.flat (.int .i64 0)), (.flat (.int .i64 0)), (.flat (.int .i64 0)), (.flat (.int .i64 0)), (.flat (.int .i64 0)), (.flat (.int .i64 0)), (.flat (.int .i64 0)), (.flat (.int .i64 0)), (.flat (.int .i64 0)), (.flat (.int .i64 0)), (.flat (.int .i64 0)), (.flat (.int .i64 0)), (.flat (.int .i64 0)), (.flat (.int .i64 0)), (.flat (.int .i64 0)), (.flat (.int .i64 0)), (.flat (.int .i64 0)), (.flat (.int .i64 0))]

def Z10 : Nat → AV := lget [(.flat (.int .i64 0)), (.flat (.int .i64 0)), (.flat (.int .i64 0)), (.flat (.int .i64 0)), (.flat (.int .u32 0)), (.flat (.int .i64 0)), (.flat (.int .i64 0)), (.flat (.int .i64 0)), (.flat (.int .i64 0)), (.flat (.int .u32 0))]

def Z40 : Nat → AV := lget [(.flat (.int .u32 0)), (.flat (.int .u32 0)), (.flat (.int .u32 0)), (.flat (.int .u32 0)), (.flat (.int .u32 0)), (.flat (.int .u32 0)), (.flat (.int .u32 0)), (.flat (.int .u32 0)), (.flat (.int .u32 0)), (.flat (.int .u32 0)), (.flat (.int .u32 0)), (.flat (.int .u32 0)), (.flat (.int .u32 0)), (.flat (.int .u32 0)), (.flat (.int .u32 0)), (.flat (.int .u32 0)), (.flat (.int .u32 0)), (.flat (.int .u32 0)), (.flat (.int .u32 0)), (.flat (.int .u32 0)), (.flat (.int .u32 0)), (.flat (.int .u32 0)), (.flat (.int .u32 0)), (.flat (.int .u32 0)), (.flat (.int .u32 0)), (.flat (.int .u32 0)), (.flat (.int .u32 0)), (.flat (.int .u32 0)), (.flat (.int .u32 0)), (.flat (.int .u32 0)), (.flat (.int .u32 0)), (.flat (.int .u32 0)), (.flat (.int .u32 0)), (.flat (.int .u32 0)), (.flat (.int .u32 0)), (.flat (.int .u32 0)), (.flat (.int .u32 0)), (.flat (.int .u32 0)), (.flat (.int .u32 0)), (.flat (.int .u32 0))]

def K27 : List (Nat × LK) := [(0, (.i .i64)), (1, (.i .i64)), (2, (.i .i64)), (3, (.i .i64)), (4, (.i .i64)), (5, (.i .u32))]

def E10 : Env := envOf []

def P10_3102 (x_0 : Int) (x_1 : Int) (x_2 : Int) (m : Mem) (kr : Int → Mem → Prop) : Prop :=
  kif (decide (IntKind.wrap .i64 ((IntKind.wrap .i64 (x_2 - x_1)) + 1) = 0)) False (kif (decide ((x_0.tmod (IntKind.wrap .i64 ((IntKind.wrap .i64 (x_2 - x_1)) + 1))) < 0)) (kr (IntKind.wrap .i64 (x_1 + (IntKind.wrap .i64 ((IntKind.wrap .i64 ((IntKind.wrap .i64 ((x_0.tmod (IntKind.wrap .i64 ((IntKind.wrap .i64 (x_2 - x_1)) + 1))) + x_2)) - x_1)) + 1)))) m) (kr (IntKind.wrap .i64 (x_1 + (x_0.tmod (IntKind.wrap .i64 ((IntKind.wrap .i64 (x_2 - x_1)) + 1))))) m))

/-- pianola/pianolabook.Within -/
def F10 (x_0 : Int) (x_1 : Int) (x_2 : Int) (m : Mem) (k : Int → Mem → Prop) : Prop :=
  kif (decide (x_0 ≥ x_1)) (kif (decide (x_0 ≤ x_2)) ((Keeps m m ∧ k x_0 m)) (P10_3102 x_0 x_1 x_2 m (fun x1 m2 => (Keeps m m2 ∧ k x1 m)))) (P10_3102 x_0 x_1 x_2 m (fun x3 m4 => (Keeps m m4 ∧ k x3 m)))

def G10 (args : List AV) (m : Mem) (k : KV) : Prop := match args with
  | [a0, a1, a2] => kI .i64 a0 fun x_0 => kI .i64 a1 fun x_1 => kI .i64 a2 fun x_2 => F10 x_0 x_1 x_2 m (fun x_1000 m' => k (.flat (.int .i64 x_1000)) m')
  | _ => False

def LamP10_3102 (σ : Nat → AV) (m : Mem) (k : KX) : Prop := kI .i64 (σ 0) fun x_0 => kI .i64 (σ 1) fun x_1 => kI .i64 (σ 2) fun x_2 => P10_3102 x_0 x_1 x_2 m (fun x_6' m' => k .ret (only [6] [(.flat (.int .i64 x_6'))]) m')

def Lam10 : LEnv := ⟨fun a σ m k => match firstReg a with
  | _ => bump False,
  fun id => match id with
  | _ => bump false,
  fun b => match keyC b with
  | some 3102 => true
  | _ => bump false,
  fun b σ m k => match keyC b with
  | some 3102 => LamP10_3102 σ m k
  | _ => bump False⟩

def lxp10_3102 : Ex → List Nat := fun e => match e with
  | .ret => [6]
  | _ => []

theorem pc10_3102 (x_0 : Int) (x_1 : Int) (x_2 : Int) (m : Mem) (k : KX) : once Try.prog E10 Lam10 [0, 1, 2] lxp10_3102 (((secsOf (bodyOf Try.f10)).filter Lam10.cut).getD 0 .skip) [(.flat (.int .i64 x_0)), (.flat (.int .i64 x_1)), (.flat (.int .i64 x_2))] m k = P10_3102 x_0 x_1 x_2 m (fun x_6' m' => k .ret (only [6] [(.flat (.int .i64 x_6'))]) m') := by
  kernel_rfl

theorem pok10_3102 : PieceOK Try.prog E10 Lam10 (((secsOf (bodyOf Try.f10)).filter Lam10.cut).getD 0 .skip) := by
  refine ⟨fun σ => ∃ x_0 x_1 x_2, σ 0 = .flat (.int .i64 x_0) ∧ σ 1 = .flat (.int .i64 x_1) ∧ σ 2 = .flat (.int .i64 x_2), [0, 1, 2], lxp10_3102, fun σ m k => ?_⟩
  have e : Lam10.piece (((secsOf (bodyOf Try.f10)).filter Lam10.cut).getD 0 .skip) σ m k = LamP10_3102 σ m k := by kernel_rfl
  rw [e]
  constructor
  · intro h
    unfold LamP10_3102 at h
    obtain ⟨x_0, h0, h⟩ := kI_ok h
    obtain ⟨x_1, h1, h⟩ := kI_ok h
    obtain ⟨x_2, h2, h⟩ := kI_ok h
    refine ⟨⟨x_0, x_1, x_2, h0, h1, h2⟩, ?_⟩
    have ev : [0, 1, 2].map σ = [(.flat (.int .i64 x_0)), (.flat (.int .i64 x_1)), (.flat (.int .i64 x_2))] := by simp only [List.map_cons, List.map_nil, h0, h1, h2]
    rw [ev, pc10_3102]
    exact h
  · rintro ⟨⟨x_0, x_1, x_2, h0, h1, h2⟩, h⟩
    have ev : [0, 1, 2].map σ = [(.flat (.int .i64 x_0)), (.flat (.int .i64 x_1)), (.flat (.int .i64 x_2))] := by simp only [List.map_cons, List.map_nil, h0, h1, h2]
    rw [ev, pc10_3102] at h
    unfold LamP10_3102
    try simp only [h0, h1, h2, kI, kbool, kS, kptr, kaggN, kite, decide_true, eq_self]
    exact h

theorem eqn10 (x_0 : Int) (x_1 : Int) (x_2 : Int) (m : Mem) (k : KV) : bodyK Try.prog E10 Lam10 Try.f10 true [(.flat (.int .i64 x_0)), (.flat (.int .i64 x_1)), (.flat (.int .i64 x_2))] m k = F10 x_0 x_1 x_2 m (fun x_1000 m' => k (.flat (.int .i64 x_1000)) m') := by
  kernel_rfl

theorem fs10 (w0 : World) : FS Try.prog w0 10 G10 := by
  refine (fs_body (Γ := E10) (sound_env (l := []) w0 (by
    intro p hp
    cases hp)) (by kernel_rfl) Try.func10 (Λ := Lam10) (c := (bodyOf Try.f10)) (by kernel_rfl) Try.call10 (by kernel_rfl) (LS_of (bodyOf Try.f10) 0 (by kernel_rfl) (fun i hi => absurd hi (Nat.not_lt_zero i)) 1 (by kernel_rfl) (by
    intro i hi
    match i, hi with
    | 0, _ => exact pok10_3102
    | i + 1, hi => omega)) true (np := 3) (Nat.le_of_ble_eq_true (by kernel_rfl))).imp fun args => ?_
  by_cases hl : args.length = 3
  rotate_left
  · exact .inr fun m k hk => by
      unfold G10 at hk
      split at hk
      · exact hl rfl
      · exact hk
  obtain ⟨a0, a1, a2, rfl⟩ : ∃ a0 a1 a2, args = [a0, a1, a2] := len_list3 hl
  rcases kI_or .i64 a0 with ⟨x_0, rfl⟩ | h
  rotate_left
  · exact .inr fun m k hk => h _ (by simpa only [G10, kI, kbool, kS, kptr, kaggN, kite, decide_true, eq_self] using hk)
  rcases kI_or .i64 a1 with ⟨x_1, rfl⟩ | h
  rotate_left
  · exact .inr fun m k hk => h _ (by simpa only [G10, kI, kbool, kS, kptr, kaggN, kite, decide_true, eq_self] using hk)
  rcases kI_or .i64 a2 with ⟨x_2, rfl⟩ | h
  rotate_left
  · exact .inr fun m k hk => h _ (by simpa only [G10, kI, kbool, kS, kptr, kaggN, kite, decide_true, eq_self] using hk)
  exact .inl fun m k => propext ⟨fun h => ⟨rfl, by rw [eqn10]; simpa only [G10, kI, kbool, kS, kptr, kaggN, kite, decide_true, eq_self] using h⟩, fun h => by have h := h.2; rw [eqn10] at h; simpa only [G10, kI, kbool, kS, kptr, kaggN, kite, decide_true, eq_self] using h⟩

def E18 : Env := envOf [(10, G10)]

/-- pianola/pianolakeep.near -/
def F18 (x_0 : Int) (m : Mem) (k : Int → Mem → Prop) : Prop :=
  F10 x_0 0 1048576 m fun x1 m2 => kif ((x1.tmod 8) == 7) ((Keeps m m2 ∧ k ((IntKind.wrap .i64 (x1.tdiv 8)).tmod 32) m)) ((Keeps m m2 ∧ k ((IntKind.wrap .i64 (x1.tdiv 8)).tmod 8) m))

def G18 (args : List AV) (m : Mem) (k : KV) : Prop := match args with
  | [a0] => kI .i64 a0 fun x_0 => F18 x_0 m (fun x_1000 m' => k (.flat (.int .i64 x_1000)) m')
  | _ => False

def Lam18 : LEnv := ⟨fun a σ m k => match firstReg a with
  | _ => bump False,
  fun id => match id with
  | _ => bump false,
  fun b => match keyC b with
  | _ => bump false,
  fun b σ m k => match keyC b with
  | _ => bump False⟩

theorem eqn18 (x_0 : Int) (m : Mem) (k : KV) : bodyK Try.prog E18 Lam18 Try.f18 true [(.flat (.int .i64 x_0))] m k = F18 x_0 m (fun x_1000 m' => k (.flat (.int .i64 x_1000)) m') := by
  kernel_rfl

theorem fs18 (w0 : World) : FS Try.prog w0 18 G18 := by
  refine (fs_body (Γ := E18) (sound_env (l := [(10, G10)]) w0 (by
    intro p hp
    simp only [List.mem_cons, List.not_mem_nil, or_false] at hp
    rcases hp with rfl
    · exact fs10 w0)) (by kernel_rfl) Try.func18 (Λ := Lam18) (c := (bodyOf Try.f18)) (by kernel_rfl) Try.call18 (by kernel_rfl) (LS_of (bodyOf Try.f18) 0 (by kernel_rfl) (fun i hi => absurd hi (Nat.not_lt_zero i)) 0 (by kernel_rfl) (fun i hi => absurd hi (Nat.not_lt_zero i))) true (np := 1) (Nat.le_of_ble_eq_true (by kernel_rfl))).imp fun args => ?_
  by_cases hl : args.length = 1
  rotate_left
  · exact .inr fun m k hk => by
      unfold G18 at hk
      split at hk
      · exact hl rfl
      · exact hk
  obtain ⟨a0, rfl⟩ : ∃ a0, args = [a0] := len_list1 hl
  rcases kI_or .i64 a0 with ⟨x_0, rfl⟩ | h
  rotate_left
  · exact .inr fun m k hk => h _ (by simpa only [G18, kI, kbool, kS, kptr, kaggN, kite, decide_true, eq_self] using hk)
  exact .inl fun m k => propext ⟨fun h => ⟨rfl, by rw [eqn18]; simpa only [G18, kI, kbool, kS, kptr, kaggN, kite, decide_true, eq_self] using h⟩, fun h => by have h := h.2; rw [eqn18] at h; simpa only [G18, kI, kbool, kS, kptr, kaggN, kite, decide_true, eq_self] using h⟩

def E47 : Env := envOf []

/-- pianola/pianolaref3.special -/
def F47  (m : Mem) (k : AV → Mem → Prop) : Prop :=
  newK m ⟨140, splice (splice (splice (splice (splice (splice (splice (splice (splice (splice (splice (splice (splice (splice (splice (splice (splice (splice (splice (splice (splice (splice (splice (splice (splice (splice (splice (splice (splice (splice (splice (splice (splice (splice (splice (Z140) 0 4 (upd (upd (upd (upd (lget [(.flat (.int .i64 0)), (.flat (.int .i64 0)), (.flat (.int .i64 0)), (.flat (.string ⟨#[]⟩))]) 0 (.flat (.int .i64 0))) 1 (.flat (.int .i64 0))) 2 (.flat (.int .i64 1))) 3 (.flat (.string Yb0)))) 4 4 (upd (upd (upd (upd (lget [(.flat (.int .i64 0)), (.flat (.int .i64 0)), (.flat (.int .i64 0)), (.flat (.string ⟨#[]⟩))]) 0 (.flat (.int .i64 0))) 1 (.flat (.int .i64 2))) 2 (.flat (.int .i64 2))) 3 (.flat (.string Yb0)))) 8 4 (upd (upd (upd (upd (lget [(.flat (.int .i64 0)), (.flat (.int .i64 0)), (.flat (.int .i64 0)), (.flat (.string ⟨#[]⟩))]) 0 (.flat (.int .i64 0))) 1 (.flat (.int .i64 3))) 2 (.flat (.int .i64 3))) 3 (.flat (.string Yb0)))) 12 4 (upd (upd (upd (upd (lget [(.flat (.int .i64 0)), (.flat (.int .i64 0)), (.flat (.int .i64 0)), (.flat (.string ⟨#[]⟩))]) 0 (.flat (.int .i64 0))) 1 (.flat (.int .i64 4))) 2 (.flat (.int .i64 4))) 3 (.flat (.string Yb1)))) 16 4 (upd (upd (upd (upd (lget [(.flat (.int .i64 0)), (.flat (.int .i64 0)), (.flat (.int .i64 0)), (.flat (.string ⟨#[]⟩))]) 0 (.flat (.int .i64 0))) 1 (.flat (.int .i64 6))) 2 (.flat (.int .i64 5))) 3 (.flat (.string Yb1)))) 20 4 (upd (upd (upd (upd (lget [(.flat (.int .i64 0)), (.flat (.int .i64 0)), (.flat (.int .i64 0)), (.flat (.string ⟨#[]⟩))]) 0 (.flat (.int .i64 0))) 1 (.flat (.int .i64 7))) 2 (.flat (.int .i64 6))) 3 (.flat (.string Yb1)))) 24 4 (upd (upd (upd (upd (lget [(.flat (.int .i64 0)), (.flat (.int .i64 0)), (.flat (.int .i64 0)), (.flat (.string ⟨#[]⟩))]) 0 (.flat (.int .i64 0))) 1 (.flat (.int .i64 8))) 2 (.flat (.int .i64 7))) 3 (.flat (.string Yb2)))) 28 4 (upd (upd (upd (upd (lget [(.flat (.int .i64 0)), (.flat (.int .i64 0)), (.flat (.int .i64 0)), (.flat (.string ⟨#[]⟩))]) 0 (.flat (.int .i64 0))) 1 (.flat (.int .i64 9))) 2 (.flat (.int .i64 8))) 3 (.flat (.string Yb3)))) 32 4 (upd (upd (upd (upd (lget [(.flat (.int .i64 0)), (.flat (.int .i64 0)), (.flat (.int .i64 0)), (.flat (.string ⟨#[]⟩))]) 0 (.flat (.int .i64 0))) 1 (.flat (.int .i64 10))) 2 (.flat (.int .i64 9))) 3 (.flat (.string Yb1)))) 36 4 (upd (upd (upd (upd (lget [(.flat (.int .i64 0)), (.flat (.int .i64 0)), (.flat (.int .i64 0)), (.flat (.string ⟨#[]⟩))]) 0 (.flat (.int .i64 0))) 1 (.flat (.int .i64 11))) 2 (.flat (.int .i64 10))) 3 (.flat (.string Yb1)))) 40 4 (upd (upd (upd (upd (lget [(.flat (.int .i64 0)), (.flat (.int .i64 0)), (.flat (.int .i64 0)), (.flat (.string ⟨#[]⟩))]) 0 (.flat (.int .i64 0))) 1 (.flat (.int .i64 12))) 2 (.flat (.int .i64 11))) 3 (.flat (.string (⟨#[]⟩ : ByteArray))))) 44 4 (upd (upd (upd (upd (lget [(.flat (.int .i64 0)), (.flat (.int .i64 0)), (.flat (.int .i64 0)), (.flat (.string ⟨#[]⟩))]) 0 (.flat (.int .i64 0))) 1 (.flat (.int .i64 13))) 2 (.flat (.int .i64 12))) 3 (.flat (.string (⟨#[]⟩ : ByteArray))))) 48 4 (upd (upd (upd (upd (lget [(.flat (.int .i64 0)), (.flat (.int .i64 0)), (.flat (.int .i64 0)), (.flat (.string ⟨#[]⟩))]) 0 (.flat (.int .i64 0))) 1 (.flat (.int .i64 15))) 2 (.flat (.int .i64 13))) 3 (.flat (.string (⟨#[]⟩ : ByteArray))))) 52 4 (upd (upd (upd (upd (lget [(.flat (.int .i64 0)), (.flat (.int .i64 0)), (.flat (.int .i64 0)), (.flat (.string ⟨#[]⟩))]) 0 (.flat (.int .i64 0))) 1 (.flat (.int .i64 16))) 2 (.flat (.int .i64 14))) 3 (.flat (.string Yb4)))) 56 4 (upd (upd (upd (upd (lget [(.flat (.int .i64 0)), (.flat (.int .i64 0)), (.flat (.int .i64 0)), (.flat (.string ⟨#[]⟩))]) 0 (.flat (.int .i64 0))) 1 (.flat (.int .i64 17))) 2 (.flat (.int .i64 15))) 3 (.flat (.string Yb2)))) 60 4 (upd (upd (upd (upd (lget [(.flat (.int .i64 0)), (.flat (.int .i64 0)), (.flat (.int .i64 0)), (.flat (.string ⟨#[]⟩))]) 0 (.flat (.int .i64 0))) 1 (.flat (.int .i64 18))) 2 (.flat (.int .i64 16))) 3 (.flat (.string Yb4)))) 64 4 (upd (upd (upd (upd (lget [(.flat (.int .i64 0)), (.flat (.int .i64 0)), (.flat (.int .i64 0)), (.flat (.string ⟨#[]⟩))]) 0 (.flat (.int .i64 0))) 1 (.flat (.int .i64 19))) 2 (.flat (.int .i64 17))) 3 (.flat (.string Yb2)))) 68 4 (upd (upd (upd (upd (lget [(.flat (.int .i64 0)), (.flat (.int .i64 0)), (.flat (.int .i64 0)), (.flat (.string ⟨#[]⟩))]) 0 (.flat (.int .i64 0))) 1 (.flat (.int .i64 24))) 2 (.flat (.int .i64 18))) 3 (.flat (.string Yb5)))) 72 4 (upd (upd (upd (upd (lget [(.flat (.int .i64 0)), (.flat (.int .i64 0)), (.flat (.int .i64 0)), (.flat (.string ⟨#[]⟩))]) 0 (.flat (.int .i64 0))) 1 (.flat (.int .i64 25))) 2 (.flat (.int .i64 19))) 3 (.flat (.string Yb5)))) 76 4 (upd (upd (upd (upd (lget [(.flat (.int .i64 0)), (.flat (.int .i64 0)), (.flat (.int .i64 0)), (.flat (.string ⟨#[]⟩))]) 0 (.flat (.int .i64 0))) 1 (.flat (.int .i64 26))) 2 (.flat (.int .i64 20))) 3 (.flat (.string Yb5)))) 80 4 (upd (upd (upd (upd (lget [(.flat (.int .i64 0)), (.flat (.int .i64 0)), (.flat (.int .i64 0)), (.flat (.string ⟨#[]⟩))]) 0 (.flat (.int .i64 0))) 1 (.flat (.int .i64 27))) 2 (.flat (.int .i64 21))) 3 (.flat (.string Yb5)))) 84 4 (upd (upd (upd (upd (lget [(.flat (.int .i64 0)), (.flat (.int .i64 0)), (.flat (.int .i64 0)), (.flat (.string ⟨#[]⟩))]) 0 (.flat (.int .i64 0))) 1 (.flat (.int .i64 32))) 2 (.flat (.int .i64 22))) 3 (.flat (.string Yb1)))) 88 4 (upd (upd (upd (upd (lget [(.flat (.int .i64 0)), (.flat (.int .i64 0)), (.flat (.int .i64 0)), (.flat (.string ⟨#[]⟩))]) 0 (.flat (.int .i64 0))) 1 (.flat (.int .i64 33))) 2 (.flat (.int .i64 23))) 3 (.flat (.string Yb1)))) 92 4 (upd (upd (upd (upd (lget [(.flat (.int .i64 0)), (.flat (.int .i64 0)), (.flat (.int .i64 0)), (.flat (.string ⟨#[]⟩))]) 0 (.flat (.int .i64 0))) 1 (.flat (.int .i64 34))) 2 (.flat (.int .i64 24))) 3 (.flat (.string Yb1)))) 96 4 (upd (upd (upd (upd (lget [(.flat (.int .i64 0)), (.flat (.int .i64 0)), (.flat (.int .i64 0)), (.flat (.string ⟨#[]⟩))]) 0 (.flat (.int .i64 0))) 1 (.flat (.int .i64 35))) 2 (.flat (.int .i64 25))) 3 (.flat (.string Yb1)))) 100 4 (upd (upd (upd (upd (lget [(.flat (.int .i64 0)), (.flat (.int .i64 0)), (.flat (.int .i64 0)), (.flat (.string ⟨#[]⟩))]) 0 (.flat (.int .i64 0))) 1 (.flat (.int .i64 36))) 2 (.flat (.int .i64 26))) 3 (.flat (.string Yb1)))) 104 4 (upd (upd (upd (upd (lget [(.flat (.int .i64 0)), (.flat (.int .i64 0)), (.flat (.int .i64 0)), (.flat (.string ⟨#[]⟩))]) 0 (.flat (.int .i64 0))) 1 (.flat (.int .i64 37))) 2 (.flat (.int .i64 27))) 3 (.flat (.string Yb1)))) 108 4 (upd (upd (upd (upd (lget [(.flat (.int .i64 0)), (.flat (.int .i64 0)), (.flat (.int .i64 0)), (.flat (.string ⟨#[]⟩))]) 0 (.flat (.int .i64 0))) 1 (.flat (.int .i64 38))) 2 (.flat (.int .i64 28))) 3 (.flat (.string Yb1)))) 112 4 (upd (upd (upd (upd (lget [(.flat (.int .i64 0)), (.flat (.int .i64 0)), (.flat (.int .i64 0)), (.flat (.string ⟨#[]⟩))]) 0 (.flat (.int .i64 0))) 1 (.flat (.int .i64 39))) 2 (.flat (.int .i64 29))) 3 (.flat (.string Yb1)))) 116 4 (upd (upd (upd (upd (lget [(.flat (.int .i64 0)), (.flat (.int .i64 0)), (.flat (.int .i64 0)), (.flat (.string ⟨#[]⟩))]) 0 (.flat (.int .i64 0))) 1 (.flat (.int .i64 42))) 2 (.flat (.int .i64 30))) 3 (.flat (.string Yb1)))) 120 4 (upd (upd (upd (upd (lget [(.flat (.int .i64 0)), (.flat (.int .i64 0)), (.flat (.int .i64 0)), (.flat (.string ⟨#[]⟩))]) 0 (.flat (.int .i64 0))) 1 (.flat (.int .i64 43))) 2 (.flat (.int .i64 31))) 3 (.flat (.string Yb1)))) 124 4 (upd (upd (upd (upd (lget [(.flat (.int .i64 0)), (.flat (.int .i64 0)), (.flat (.int .i64 0)), (.flat (.string ⟨#[]⟩))]) 0 (.flat (.int .i64 0))) 1 (.flat (.int .i64 48))) 2 (.flat (.int .i64 32))) 3 (.flat (.string Yb5)))) 128 4 (upd (upd (upd (upd (lget [(.flat (.int .i64 0)), (.flat (.int .i64 0)), (.flat (.int .i64 0)), (.flat (.string ⟨#[]⟩))]) 0 (.flat (.int .i64 0))) 1 (.flat (.int .i64 50))) 2 (.flat (.int .i64 33))) 3 (.flat (.string Yb5)))) 132 4 (upd (upd (upd (upd (lget [(.flat (.int .i64 0)), (.flat (.int .i64 0)), (.flat (.int .i64 0)), (.flat (.string ⟨#[]⟩))]) 0 (.flat (.int .i64 0))) 1 (.flat (.int .i64 52))) 2 (.flat (.int .i64 34))) 3 (.flat (.string Yb5)))) 136 4 (upd (upd (upd (upd (lget [(.flat (.int .i64 0)), (.flat (.int .i64 0)), (.flat (.int .i64 0)), (.flat (.string ⟨#[]⟩))]) 0 (.flat (.int .i64 0))) 1 (.flat (.int .i64 54))) 2 (.flat (.int .i64 35))) 3 (.flat (.string Yb5))), 62, false⟩ fun b2 m1 => k (.sl b2 0 35 (.ex 35)) m1

def G47 (args : List AV) (m : Mem) (k : KV) : Prop := match args with
  | [] => F47  m (fun v_1000 m' => k v_1000 m')
  | _ => False

def Lam47 : LEnv := ⟨fun a σ m k => match firstReg a with
  | _ => bump False,
  fun id => match id with
  | _ => bump false,
  fun b => match keyC b with
  | _ => bump false,
  fun b σ m k => match keyC b with
  | _ => bump False⟩

theorem eqn47  (m : Mem) (k : KV) : bodyK Try.prog E47 Lam47 Try.f47 false [] m k = F47  m (fun v_1000 m' => k v_1000 m') := by
  kernel_rfl

theorem fs47 (w0 : World) : FS Try.prog w0 47 G47 := by
  refine (fs_body (Γ := E47) (sound_env (l := []) w0 (by
    intro p hp
    cases hp)) (by kernel_rfl) Try.func47 (Λ := Lam47) (c := (bodyOf Try.f47)) (by kernel_rfl) Try.call47 (by kernel_rfl) (LS_of (bodyOf Try.f47) 0 (by kernel_rfl) (fun i hi => absurd hi (Nat.not_lt_zero i)) 0 (by kernel_rfl) (fun i hi => absurd hi (Nat.not_lt_zero i))) false (np := 0) (Nat.le_of_ble_eq_true (by kernel_rfl))).imp fun args => ?_
  by_cases hl : args.length = 0
  rotate_left
  · exact .inr fun m k hk => by
      unfold G47 at hk
      split at hk
      · exact hl rfl
      · exact hk
  obtain rfl : args = [] := len_list0 hl

  exact .inl fun m k => propext ⟨fun h => ⟨rfl, by rw [eqn47]; simpa only [G47, kI, kbool, kS, kptr, kaggN, kite, decide_true, eq_self] using h⟩, fun h => by have h := h.2; rw [eqn47] at h; simpa only [G47, kI, kbool, kS, kptr, kaggN, kite, decide_true, eq_self] using h⟩

def E48 : Env := envOf []

/-- pianola/pianolaref3.plain -/
def F48  (m : Mem) (k : AV → Mem → Prop) : Prop :=
  newK m ⟨108, splice (splice (splice (splice (splice (splice (splice (splice (splice (splice (splice (splice (splice (splice (splice (splice (splice (splice (splice (splice (splice (splice (splice (splice (splice (splice (splice (Z108) 0 4 (upd (upd (upd (upd (lget [(.flat (.int .i64 0)), (.flat (.int .i64 0)), (.flat (.int .i64 0)), (.flat (.string ⟨#[]⟩))]) 0 (.flat (.int .i64 2))) 1 (.flat (.int .i64 0))) 2 (.flat (.int .i64 40))) 3 (.flat (.string Yb6)))) 4 4 (upd (upd (upd (upd (lget [(.flat (.int .i64 0)), (.flat (.int .i64 0)), (.flat (.int .i64 0)), (.flat (.string ⟨#[]⟩))]) 0 (.flat (.int .i64 3))) 1 (.flat (.int .i64 0))) 2 (.flat (.int .i64 41))) 3 (.flat (.string Yb6)))) 8 4 (upd (upd (upd (upd (lget [(.flat (.int .i64 0)), (.flat (.int .i64 0)), (.flat (.int .i64 0)), (.flat (.string ⟨#[]⟩))]) 0 (.flat (.int .i64 4))) 1 (.flat (.int .i64 0))) 2 (.flat (.int .i64 42))) 3 (.flat (.string Yb7)))) 12 4 (upd (upd (upd (upd (lget [(.flat (.int .i64 0)), (.flat (.int .i64 0)), (.flat (.int .i64 0)), (.flat (.string ⟨#[]⟩))]) 0 (.flat (.int .i64 5))) 1 (.flat (.int .i64 0))) 2 (.flat (.int .i64 43))) 3 (.flat (.string Yb7)))) 16 4 (upd (upd (upd (upd (lget [(.flat (.int .i64 0)), (.flat (.int .i64 0)), (.flat (.int .i64 0)), (.flat (.string ⟨#[]⟩))]) 0 (.flat (.int .i64 6))) 1 (.flat (.int .i64 0))) 2 (.flat (.int .i64 44))) 3 (.flat (.string Yb8)))) 20 4 (upd (upd (upd (upd (lget [(.flat (.int .i64 0)), (.flat (.int .i64 0)), (.flat (.int .i64 0)), (.flat (.string ⟨#[]⟩))]) 0 (.flat (.int .i64 7))) 1 (.flat (.int .i64 0))) 2 (.flat (.int .i64 45))) 3 (.flat (.string Yb8)))) 24 4 (upd (upd (upd (upd (lget [(.flat (.int .i64 0)), (.flat (.int .i64 0)), (.flat (.int .i64 0)), (.flat (.string ⟨#[]⟩))]) 0 (.flat (.int .i64 8))) 1 (.flat (.int .i64 0))) 2 (.flat (.int .i64 46))) 3 (.flat (.string Yb7)))) 28 4 (upd (upd (upd (upd (lget [(.flat (.int .i64 0)), (.flat (.int .i64 0)), (.flat (.int .i64 0)), (.flat (.string ⟨#[]⟩))]) 0 (.flat (.int .i64 9))) 1 (.flat (.int .i64 0))) 2 (.flat (.int .i64 47))) 3 (.flat (.string Yb7)))) 32 4 (upd (upd (upd (upd (lget [(.flat (.int .i64 0)), (.flat (.int .i64 0)), (.flat (.int .i64 0)), (.flat (.string ⟨#[]⟩))]) 0 (.flat (.int .i64 10))) 1 (.flat (.int .i64 0))) 2 (.flat (.int .i64 48))) 3 (.flat (.string Yb7)))) 36 4 (upd (upd (upd (upd (lget [(.flat (.int .i64 0)), (.flat (.int .i64 0)), (.flat (.int .i64 0)), (.flat (.string ⟨#[]⟩))]) 0 (.flat (.int .i64 11))) 1 (.flat (.int .i64 0))) 2 (.flat (.int .i64 49))) 3 (.flat (.string Yb7)))) 40 4 (upd (upd (upd (upd (lget [(.flat (.int .i64 0)), (.flat (.int .i64 0)), (.flat (.int .i64 0)), (.flat (.string ⟨#[]⟩))]) 0 (.flat (.int .i64 12))) 1 (.flat (.int .i64 0))) 2 (.flat (.int .i64 50))) 3 (.flat (.string Yb7)))) 44 4 (upd (upd (upd (upd (lget [(.flat (.int .i64 0)), (.flat (.int .i64 0)), (.flat (.int .i64 0)), (.flat (.string ⟨#[]⟩))]) 0 (.flat (.int .i64 13))) 1 (.flat (.int .i64 0))) 2 (.flat (.int .i64 51))) 3 (.flat (.string Yb7)))) 48 4 (upd (upd (upd (upd (lget [(.flat (.int .i64 0)), (.flat (.int .i64 0)), (.flat (.int .i64 0)), (.flat (.string ⟨#[]⟩))]) 0 (.flat (.int .i64 14))) 1 (.flat (.int .i64 0))) 2 (.flat (.int .i64 52))) 3 (.flat (.string Yb7)))) 52 4 (upd (upd (upd (upd (lget [(.flat (.int .i64 0)), (.flat (.int .i64 0)), (.flat (.int .i64 0)), (.flat (.string ⟨#[]⟩))]) 0 (.flat (.int .i64 15))) 1 (.flat (.int .i64 0))) 2 (.flat (.int .i64 53))) 3 (.flat (.string Yb9)))) 56 4 (upd (upd (upd (upd (lget [(.flat (.int .i64 0)), (.flat (.int .i64 0)), (.flat (.int .i64 0)), (.flat (.string ⟨#[]⟩))]) 0 (.flat (.int .i64 17))) 1 (.flat (.int .i64 0))) 2 (.flat (.int .i64 62))) 3 (.flat (.string (⟨#[]⟩ : ByteArray))))) 60 4 (upd (upd (upd (upd (lget [(.flat (.int .i64 0)), (.flat (.int .i64 0)), (.flat (.int .i64 0)), (.flat (.string ⟨#[]⟩))]) 0 (.flat (.int .i64 32))) 1 (.flat (.int .i64 0))) 2 (.flat (.int .i64 66))) 3 (.flat (.string Yb7)))) 64 4 (upd (upd (upd (upd (lget [(.flat (.int .i64 0)), (.flat (.int .i64 0)), (.flat (.int .i64 0)), (.flat (.string ⟨#[]⟩))]) 0 (.flat (.int .i64 33))) 1 (.flat (.int .i64 0))) 2 (.flat (.int .i64 67))) 3 (.flat (.string Yb7)))) 68 4 (upd (upd (upd (upd (lget [(.flat (.int .i64 0)), (.flat (.int .i64 0)), (.flat (.int .i64 0)), (.flat (.string ⟨#[]⟩))]) 0 (.flat (.int .i64 35))) 1 (.flat (.int .i64 0))) 2 (.flat (.int .i64 68))) 3 (.flat (.string Yb7)))) 72 4 (upd (upd (upd (upd (lget [(.flat (.int .i64 0)), (.flat (.int .i64 0)), (.flat (.int .i64 0)), (.flat (.string ⟨#[]⟩))]) 0 (.flat (.int .i64 36))) 1 (.flat (.int .i64 0))) 2 (.flat (.int .i64 69))) 3 (.flat (.string Yb7)))) 76 4 (upd (upd (upd (upd (lget [(.flat (.int .i64 0)), (.flat (.int .i64 0)), (.flat (.int .i64 0)), (.flat (.string ⟨#[]⟩))]) 0 (.flat (.int .i64 37))) 1 (.flat (.int .i64 0))) 2 (.flat (.int .i64 70))) 3 (.flat (.string Yb7)))) 80 4 (upd (upd (upd (upd (lget [(.flat (.int .i64 0)), (.flat (.int .i64 0)), (.flat (.int .i64 0)), (.flat (.string ⟨#[]⟩))]) 0 (.flat (.int .i64 40))) 1 (.flat (.int .i64 0))) 2 (.flat (.int .i64 71))) 3 (.flat (.string Yb7)))) 84 4 (upd (upd (upd (upd (lget [(.flat (.int .i64 0)), (.flat (.int .i64 0)), (.flat (.int .i64 0)), (.flat (.string ⟨#[]⟩))]) 0 (.flat (.int .i64 41))) 1 (.flat (.int .i64 0))) 2 (.flat (.int .i64 72))) 3 (.flat (.string Yb7)))) 88 4 (upd (upd (upd (upd (lget [(.flat (.int .i64 0)), (.flat (.int .i64 0)), (.flat (.int .i64 0)), (.flat (.string ⟨#[]⟩))]) 0 (.flat (.int .i64 43))) 1 (.flat (.int .i64 0))) 2 (.flat (.int .i64 73))) 3 (.flat (.string Yb7)))) 92 4 (upd (upd (upd (upd (lget [(.flat (.int .i64 0)), (.flat (.int .i64 0)), (.flat (.int .i64 0)), (.flat (.string ⟨#[]⟩))]) 0 (.flat (.int .i64 47))) 1 (.flat (.int .i64 0))) 2 (.flat (.int .i64 76))) 3 (.flat (.string (⟨#[]⟩ : ByteArray))))) 96 4 (upd (upd (upd (upd (lget [(.flat (.int .i64 0)), (.flat (.int .i64 0)), (.flat (.int .i64 0)), (.flat (.string ⟨#[]⟩))]) 0 (.flat (.int .i64 48))) 1 (.flat (.int .i64 0))) 2 (.flat (.int .i64 74))) 3 (.flat (.string Yb7)))) 100 4 (upd (upd (upd (upd (lget [(.flat (.int .i64 0)), (.flat (.int .i64 0)), (.flat (.int .i64 0)), (.flat (.string ⟨#[]⟩))]) 0 (.flat (.int .i64 51))) 1 (.flat (.int .i64 0))) 2 (.flat (.int .i64 77))) 3 (.flat (.string (⟨#[]⟩ : ByteArray))))) 104 4 (upd (upd (upd (upd (lget [(.flat (.int .i64 0)), (.flat (.int .i64 0)), (.flat (.int .i64 0)), (.flat (.string ⟨#[]⟩))]) 0 (.flat (.int .i64 56))) 1 (.flat (.int .i64 0))) 2 (.flat (.int .i64 75))) 3 (.flat (.string Yb7))), 62, false⟩ fun b2 m1 => k (.sl b2 0 27 (.ex 27)) m1

def G48 (args : List AV) (m : Mem) (k : KV) : Prop := match args with
  | [] => F48  m (fun v_1000 m' => k v_1000 m')
  | _ => False

def Lam48 : LEnv := ⟨fun a σ m k => match firstReg a with
  | _ => bump False,
  fun id => match id with
  | _ => bump false,
  fun b => match keyC b with
  | _ => bump false,
  fun b σ m k => match keyC b with
  | _ => bump False⟩

theorem eqn48  (m : Mem) (k : KV) : bodyK Try.prog E48 Lam48 Try.f48 false [] m k = F48  m (fun v_1000 m' => k v_1000 m') := by
  kernel_rfl

theorem fs48 (w0 : World) : FS Try.prog w0 48 G48 := by
  refine (fs_body (Γ := E48) (sound_env (l := []) w0 (by
    intro p hp
    cases hp)) (by kernel_rfl) Try.func48 (Λ := Lam48) (c := (bodyOf Try.f48)) (by kernel_rfl) Try.call48 (by kernel_rfl) (LS_of (bodyOf Try.f48) 0 (by kernel_rfl) (fun i hi => absurd hi (Nat.not_lt_zero i)) 0 (by kernel_rfl) (fun i hi => absurd hi (Nat.not_lt_zero i))) false (np := 0) (Nat.le_of_ble_eq_true (by kernel_rfl))).imp fun args => ?_
  by_cases hl : args.length = 0
  rotate_left
  · exact .inr fun m k hk => by
      unfold G48 at hk
      split at hk
      · exact hl rfl
      · exact hk
  obtain rfl : args = [] := len_list0 hl

  exact .inl fun m k => propext ⟨fun h => ⟨rfl, by rw [eqn48]; simpa only [G48, kI, kbool, kS, kptr, kaggN, kite, decide_true, eq_self] using h⟩, fun h => by have h := h.2; rw [eqn48] at h; simpa only [G48, kI, kbool, kS, kptr, kaggN, kite, decide_true, eq_self] using h⟩

def E49 : Env := envOf []

/-- pianola/pianolaref3.others -/
def F49  (m : Mem) (k : AV → Mem → Prop) : Prop :=
  newK m ⟨60, splice (splice (splice (splice (splice (splice (splice (splice (splice (splice (splice (splice (splice (splice (splice (Z60) 0 4 (upd (upd (upd (upd (lget [(.flat (.int .i64 0)), (.flat (.int .i64 0)), (.flat (.int .i64 0)), (.flat (.string ⟨#[]⟩))]) 0 (.flat (.int .i64 1))) 1 (.flat (.int .i64 0))) 2 (.flat (.int .i64 36))) 3 (.flat (.string Yb8)))) 4 4 (upd (upd (upd (upd (lget [(.flat (.int .i64 0)), (.flat (.int .i64 0)), (.flat (.int .i64 0)), (.flat (.string ⟨#[]⟩))]) 0 (.flat (.int .i64 1))) 1 (.flat (.int .i64 1))) 2 (.flat (.int .i64 37))) 3 (.flat (.string Yb8)))) 8 4 (upd (upd (upd (upd (lget [(.flat (.int .i64 0)), (.flat (.int .i64 0)), (.flat (.int .i64 0)), (.flat (.string ⟨#[]⟩))]) 0 (.flat (.int .i64 1))) 1 (.flat (.int .i64 16))) 2 (.flat (.int .i64 38))) 3 (.flat (.string Yb8)))) 12 4 (upd (upd (upd (upd (lget [(.flat (.int .i64 0)), (.flat (.int .i64 0)), (.flat (.int .i64 0)), (.flat (.string ⟨#[]⟩))]) 0 (.flat (.int .i64 1))) 1 (.flat (.int .i64 17))) 2 (.flat (.int .i64 39))) 3 (.flat (.string Yb8)))) 16 4 (upd (upd (upd (upd (lget [(.flat (.int .i64 0)), (.flat (.int .i64 0)), (.flat (.int .i64 0)), (.flat (.string ⟨#[]⟩))]) 0 (.flat (.int .i64 16))) 1 (.flat (.int .i64 0))) 2 (.flat (.int .i64 54))) 3 (.flat (.string Yb10)))) 20 4 (upd (upd (upd (upd (lget [(.flat (.int .i64 0)), (.flat (.int .i64 0)), (.flat (.int .i64 0)), (.flat (.string ⟨#[]⟩))]) 0 (.flat (.int .i64 16))) 1 (.flat (.int .i64 4))) 2 (.flat (.int .i64 55))) 3 (.flat (.string Yb10)))) 24 4 (upd (upd (upd (upd (lget [(.flat (.int .i64 0)), (.flat (.int .i64 0)), (.flat (.int .i64 0)), (.flat (.string ⟨#[]⟩))]) 0 (.flat (.int .i64 16))) 1 (.flat (.int .i64 65))) 2 (.flat (.int .i64 56))) 3 (.flat (.string (⟨#[]⟩ : ByteArray))))) 28 4 (upd (upd (upd (upd (lget [(.flat (.int .i64 0)), (.flat (.int .i64 0)), (.flat (.int .i64 0)), (.flat (.string ⟨#[]⟩))]) 0 (.flat (.int .i64 16))) 1 (.flat (.int .i64 66))) 2 (.flat (.int .i64 57))) 3 (.flat (.string (⟨#[]⟩ : ByteArray))))) 32 4 (upd (upd (upd (upd (lget [(.flat (.int .i64 0)), (.flat (.int .i64 0)), (.flat (.int .i64 0)), (.flat (.string ⟨#[]⟩))]) 0 (.flat (.int .i64 16))) 1 (.flat (.int .i64 70))) 2 (.flat (.int .i64 58))) 3 (.flat (.string (⟨#[]⟩ : ByteArray))))) 36 4 (upd (upd (upd (upd (lget [(.flat (.int .i64 0)), (.flat (.int .i64 0)), (.flat (.int .i64 0)), (.flat (.string ⟨#[]⟩))]) 0 (.flat (.int .i64 16))) 1 (.flat (.int .i64 72))) 2 (.flat (.int .i64 59))) 3 (.flat (.string (⟨#[]⟩ : ByteArray))))) 40 4 (upd (upd (upd (upd (lget [(.flat (.int .i64 0)), (.flat (.int .i64 0)), (.flat (.int .i64 0)), (.flat (.string ⟨#[]⟩))]) 0 (.flat (.int .i64 16))) 1 (.flat (.int .i64 88))) 2 (.flat (.int .i64 60))) 3 (.flat (.string (⟨#[]⟩ : ByteArray))))) 44 4 (upd (upd (upd (upd (lget [(.flat (.int .i64 0)), (.flat (.int .i64 0)), (.flat (.int .i64 0)), (.flat (.string ⟨#[]⟩))]) 0 (.flat (.int .i64 16))) 1 (.flat (.int .i64 96))) 2 (.flat (.int .i64 61))) 3 (.flat (.string (⟨#[]⟩ : ByteArray))))) 48 4 (upd (upd (upd (upd (lget [(.flat (.int .i64 0)), (.flat (.int .i64 0)), (.flat (.int .i64 0)), (.flat (.string ⟨#[]⟩))]) 0 (.flat (.int .i64 28))) 1 (.flat (.int .i64 2))) 2 (.flat (.int .i64 63))) 3 (.flat (.string Yb1)))) 52 4 (upd (upd (upd (upd (lget [(.flat (.int .i64 0)), (.flat (.int .i64 0)), (.flat (.int .i64 0)), (.flat (.string ⟨#[]⟩))]) 0 (.flat (.int .i64 28))) 1 (.flat (.int .i64 32))) 2 (.flat (.int .i64 64))) 3 (.flat (.string Yb3)))) 56 4 (upd (upd (upd (upd (lget [(.flat (.int .i64 0)), (.flat (.int .i64 0)), (.flat (.int .i64 0)), (.flat (.string ⟨#[]⟩))]) 0 (.flat (.int .i64 28))) 1 (.flat (.int .i64 33))) 2 (.flat (.int .i64 65))) 3 (.flat (.string Yb3))), 62, false⟩ fun b2 m1 => k (.sl b2 0 15 (.ex 15)) m1

def G49 (args : List AV) (m : Mem) (k : KV) : Prop := match args with
  | [] => F49  m (fun v_1000 m' => k v_1000 m')
  | _ => False

def Lam49 : LEnv := ⟨fun a σ m k => match firstReg a with
  | _ => bump False,
  fun id => match id with
  | _ => bump false,
  fun b => match keyC b with
  | _ => bump false,
  fun b σ m k => match keyC b with
  | _ => bump False⟩

theorem eqn49  (m : Mem) (k : KV) : bodyK Try.prog E49 Lam49 Try.f49 false [] m k = F49  m (fun v_1000 m' => k v_1000 m') := by
  kernel_rfl

theorem fs49 (w0 : World) : FS Try.prog w0 49 G49 := by
  refine (fs_body (Γ := E49) (sound_env (l := []) w0 (by
    intro p hp
    cases hp)) (by kernel_rfl) Try.func49 (Λ := Lam49) (c := (bodyOf Try.f49)) (by kernel_rfl) Try.call49 (by kernel_rfl) (LS_of (bodyOf Try.f49) 0 (by kernel_rfl) (fun i hi => absurd hi (Nat.not_lt_zero i)) 0 (by kernel_rfl) (fun i hi => absurd hi (Nat.not_lt_zero i))) false (np := 0) (Nat.le_of_ble_eq_true (by kernel_rfl))).imp fun args => ?_
  by_cases hl : args.length = 0
  rotate_left
  · exact .inr fun m k hk => by
      unfold G49 at hk
      split at hk
      · exact hl rfl
      · exact hk
  obtain rfl : args = [] := len_list0 hl

  exact .inl fun m k => propext ⟨fun h => ⟨rfl, by rw [eqn49]; simpa only [G49, kI, kbool, kS, kptr, kaggN, kite, decide_true, eq_self] using h⟩, fun h => by have h := h.2; rw [eqn49] at h; simpa only [G49, kI, kbool, kS, kptr, kaggN, kite, decide_true, eq_self] using h⟩

def E36 : Env := envOf [(47, G47), (48, G48), (49, G49)]

def R36_10 (x_0 : Int) (b_2 o_2 : Nat) (x_4 : Int) (v_5 : AV) (x_6 : Int) (m : Mem) (kn : Int → Mem → Prop) (k2 : Mem → Prop) (kr : Bool → Mem → Prop) : Prop :=
  klen v_5 fun x9 => kif (decide (x_6 < x9)) (ksl v_5 fun b10 o11 l12 p13 => kif (decide (0 ≤ x_6) && decide (x_6 < l12)) (ldI .i64 m b10 (o11 + (x_6).toNat * 4 + 2) fun x14 => kif (x14 == x_0) (ksl v_5 fun b15 o16 l17 p18 => kif (decide (0 ≤ x_6) && decide (x_6 < l17)) (ldG 4 m b15 (o16 + (x_6).toNat * 4) fun c19 => stG 4 m b_2 o_2 c19 fun m20 => kr true m20) False) (kn (IntKind.wrap .i64 (x_6 + 1)) m)) False) (k2  m)

def L36_10 (x_0 : Int) (b_2 o_2 : Nat) (x_4 : Int) (v_5 : AV) : Nat → Int → Mem → (Mem → Prop) → (Bool → Mem → Prop) → Prop
  | 0, _,  _, _, _ => bump False
  | N + 1, x_6,  m, k2, kr => R36_10 x_0 b_2 o_2 x_4 v_5 x_6 m (fun x_6' m' => L36_10 x_0 b_2 o_2 x_4 v_5 N x_6' m' k2 kr) k2 kr

def P36_9102 (x_0 : Int) (b_2 o_2 : Nat) (x_4 : Int) (v_5 : AV) (m : Mem) (kn : Mem → Prop) (kr : Bool → Mem → Prop) : Prop :=
  ∃ N24, L36_10 x_0 b_2 o_2 x_4 v_5 N24 0 m (fun m21 => kn  m21) (fun x22 m23 => kr x22 m23)

def R36_2 (x_0 : Int) (b_2 o_2 : Nat) (x_4 : Int) (m : Mem) (kn : Int → Mem → Prop) (k0 : Mem → Prop) (kr : Bool → Mem → Prop) : Prop :=
  kif (decide (x_4 < 3)) (F47  m fun v3 m4 => kif (x_4 == 1) (F48  m4 fun v5 m6 => P36_9102 x_0 b_2 o_2 x_4 v5 m6 (fun m25 => kn (IntKind.wrap .i64 (x_4 + 1)) m25) (fun x26 m27 => kr x26 m27)) (kif (x_4 == 2) (F49  m4 fun v7 m8 => P36_9102 x_0 b_2 o_2 x_4 v7 m8 (fun m28 => kn (IntKind.wrap .i64 (x_4 + 1)) m28) (fun x29 m30 => kr x29 m30)) (P36_9102 x_0 b_2 o_2 x_4 v3 m4 (fun m31 => kn (IntKind.wrap .i64 (x_4 + 1)) m31) (fun x32 m33 => kr x32 m33)))) (k0  m)

def L36_2 (x_0 : Int) (b_2 o_2 : Nat) : Nat → Int → Mem → (Mem → Prop) → (Bool → Mem → Prop) → Prop
  | 0, _,  _, _, _ => bump False
  | N + 1, x_4,  m, k0, kr => R36_2 x_0 b_2 o_2 x_4 m (fun x_4' m' => L36_2 x_0 b_2 o_2 N x_4' m' k0 kr) k0 kr

/-- pianola/pianolaref3.find -/
def F36 (x_0 : Int) (m : Mem) (k : (Nat → AV) → Bool → Mem → Prop) : Prop :=
  newK m ⟨4, lget [(.flat (.int .i64 0)), (.flat (.int .i64 0)), (.flat (.int .i64 0)), (.flat (.string ⟨#[]⟩))], 62, false⟩ fun b2 m1 => ∃ N37, L36_2 x_0 b2 0 N37 0 m1 (fun m34 => stG 4 m34 b2 0 (lget [(.flat (.int .i64 0)), (.flat (.int .i64 0)), (.flat (.int .i64 0)), (.flat (.string ⟨#[]⟩))]) fun m38 => ldG 4 m38 b2 0 fun c40 => (Keeps m m38 ∧ (InDomG 4 m c40 ∧ True) ∧ k c40 false m)) (fun x35 m36 => ldG 4 m36 b2 0 fun c39 => (Keeps m m36 ∧ (InDomG 4 m c39 ∧ True) ∧ k c39 x35 m))

def G36 (args : List AV) (m : Mem) (k : KV) : Prop := match args with
  | [a0] => kI .i64 a0 fun x_0 => F36 x_0 m (fun c_1000 x_1001 m' => k (.tup [(.agg 4 c_1000), (.flat (.bool x_1001))]) m')
  | _ => False

def Lam36_2 (σ : Nat → AV) (m : Mem) (k : KX) : Prop := kI .i64 (σ 0) fun x_0 => kptr (σ 2) fun b_2 o_2 => kI .i64 (σ 4) fun x_4 => ∃ N, L36_2 x_0 b_2 o_2 N x_4 m (fun m' => k (.exit 0) (only [2] [(.ptr b_2 o_2)]) m') (fun x_3' m' => k .ret (only [2, 3] [(.ptr b_2 o_2), (.flat (.bool x_3'))]) m')

def LamP36_9102 (σ : Nat → AV) (m : Mem) (k : KX) : Prop := kI .i64 (σ 0) fun x_0 => kptr (σ 2) fun b_2 o_2 => kI .i64 (σ 4) fun x_4 => P36_9102 x_0 b_2 o_2 x_4 (σ 5) m (fun m' => k .normal (only [0, 2, 4] [(.flat (.int .i64 x_0)), (.ptr b_2 o_2), (.flat (.int .i64 x_4))]) m') (fun x_3' m' => k .ret (only [2, 3] [(.ptr b_2 o_2), (.flat (.bool x_3'))]) m')

def Lam36_10 (σ : Nat → AV) (m : Mem) (k : KX) : Prop := kI .i64 (σ 0) fun x_0 => kptr (σ 2) fun b_2 o_2 => kI .i64 (σ 4) fun x_4 => kI .i64 (σ 6) fun x_6 => ∃ N, L36_10 x_0 b_2 o_2 x_4 (σ 5) N x_6 m (fun m' => k (.exit 2) (only [0, 2, 4] [(.flat (.int .i64 x_0)), (.ptr b_2 o_2), (.flat (.int .i64 x_4))]) m') (fun x_3' m' => k .ret (only [2, 3] [(.ptr b_2 o_2), (.flat (.bool x_3'))]) m')

def Lam36 : LEnv := ⟨fun a σ m k => match firstReg a with
  | some 2 => Lam36_2 σ m k
  | some 10 => Lam36_10 σ m k
  | _ => bump False,
  fun id => match id with
  | _ => bump false,
  fun b => match keyC b with
  | some 9102 => true
  | _ => bump false,
  fun b σ m k => match keyC b with
  | some 9102 => LamP36_9102 σ m k
  | _ => bump False⟩

def lx36_10 : Ex → List Nat := fun e => match e with
  | .exit 2 => [0, 2, 4]
  | .ret => [2, 3]
  | _ => []

theorem round36_10 (x_0 : Int) (b_2 o_2 : Nat) (x_4 : Int) (v_5 : AV) (x_6 : Int) (m : Mem) (G : List AV → Mem → Prop) (k : KX) : (wpA Try.prog E36 Lam36 ((loopsOf (bodyOf Try.f36)).getD 1 .skip) (only [0, 2, 4, 5, 6] [(.flat (.int .i64 x_0)), (.ptr b_2 o_2), (.flat (.int .i64 x_4)), v_5, (.flat (.int .i64 x_6))]) m fun e σ' m' => match e with
    | .normal => G ([0, 2, 4, 5, 6].map σ') m'
    | .exit id => k (.exit id) (only (lx36_10 (.exit id)) ((lx36_10 (.exit id)).map σ')) m'
    | .ret => k .ret (only (lx36_10 .ret) ((lx36_10 .ret).map σ')) m') = R36_10 x_0 b_2 o_2 x_4 v_5 x_6 m (fun x_6' m' => G [(.flat (.int .i64 x_0)), (.ptr b_2 o_2), (.flat (.int .i64 x_4)), v_5, (.flat (.int .i64 x_6'))] m') (fun m' => k (.exit 2) (only [0, 2, 4] [(.flat (.int .i64 x_0)), (.ptr b_2 o_2), (.flat (.int .i64 x_4))]) m') (fun x_3' m' => k .ret (only [2, 3] [(.ptr b_2 o_2), (.flat (.bool x_3'))]) m') := by
  kernel_rfl

theorem loop36_10 (x_0 : Int) (b_2 o_2 : Nat) (x_4 : Int) (v_5 : AV) (k : KX) : ∀ (N : Nat) (x_6 : Int) (m : Mem), rounds Try.prog E36 Lam36 [0, 2, 4, 5, 6] lx36_10 ((loopsOf (bodyOf Try.f36)).getD 1 .skip) N [(.flat (.int .i64 x_0)), (.ptr b_2 o_2), (.flat (.int .i64 x_4)), v_5, (.flat (.int .i64 x_6))] m k = L36_10 x_0 b_2 o_2 x_4 v_5 N x_6 m (fun m' => k (.exit 2) (only [0, 2, 4] [(.flat (.int .i64 x_0)), (.ptr b_2 o_2), (.flat (.int .i64 x_4))]) m') (fun x_3' m' => k .ret (only [2, 3] [(.ptr b_2 o_2), (.flat (.bool x_3'))]) m') := by
  intro N
  induction N with
  | zero => intros; rfl
  | succ N ih =>
    intro x_6 m
    refine (round36_10 x_0 b_2 o_2 x_4 v_5 x_6 m (fun vs m' => rounds Try.prog E36 Lam36 [0, 2, 4, 5, 6] lx36_10 ((loopsOf (bodyOf Try.f36)).getD 1 .skip) N vs m' k) k).trans ?_
    simp only [ih]
    rfl

theorem lok36_10 : LoopOK Try.prog E36 Lam36 ((loopsOf (bodyOf Try.f36)).getD 1 .skip) := by
  refine ⟨fun σ => ∃ x_0 b_2 o_2 x_4 v_5 x_6, σ 0 = .flat (.int .i64 x_0) ∧ σ 2 = .ptr b_2 o_2 ∧ σ 4 = .flat (.int .i64 x_4) ∧ σ 5 = v_5 ∧ σ 6 = .flat (.int .i64 x_6), [0, 2, 4, 5, 6], lx36_10, fun σ m k => ?_⟩
  have e : Lam36.loop ((loopsOf (bodyOf Try.f36)).getD 1 .skip) σ m k = Lam36_10 σ m k := by kernel_rfl
  rw [e]
  constructor
  · intro h
    unfold Lam36_10 at h
    obtain ⟨x_0, h0, h⟩ := kI_ok h
    obtain ⟨b_2, o_2, h1, h⟩ := kptr_ok h
    obtain ⟨x_4, h2, h⟩ := kI_ok h
    obtain ⟨v_5, h3⟩ : ∃ v, σ 5 = v := ⟨_, rfl⟩
    obtain ⟨x_6, h4, h⟩ := kI_ok h
    obtain ⟨N, h⟩ := h
    refine ⟨⟨x_0, b_2, o_2, x_4, v_5, x_6, h0, h1, h2, h3, h4⟩, N, ?_⟩
    have ev : [0, 2, 4, 5, 6].map σ = [(.flat (.int .i64 x_0)), (.ptr b_2 o_2), (.flat (.int .i64 x_4)), v_5, (.flat (.int .i64 x_6))] := by simp only [List.map_cons, List.map_nil, h0, h1, h2, h3, h4]
    rw [ev, loop36_10]
    simp only [h3] at h
    exact h
  · rintro ⟨⟨x_0, b_2, o_2, x_4, v_5, x_6, h0, h1, h2, h3, h4⟩, N, h⟩
    have ev : [0, 2, 4, 5, 6].map σ = [(.flat (.int .i64 x_0)), (.ptr b_2 o_2), (.flat (.int .i64 x_4)), v_5, (.flat (.int .i64 x_6))] := by simp only [List.map_cons, List.map_nil, h0, h1, h2, h3, h4]
    rw [ev, loop36_10] at h
    unfold Lam36_10
    try simp only [h0, h1, h2, h3, h4, kI, kbool, kS, kptr, kaggN, kite, decide_true, eq_self]
    exact ⟨N, h⟩

def lxp36_9102 : Ex → List Nat := fun e => match e with
  | .normal => [0, 2, 4]
  | .ret => [2, 3]
  | _ => []

theorem pc36_9102 (x_0 : Int) (b_2 o_2 : Nat) (x_4 : Int) (v_5 : AV) (m : Mem) (k : KX) : once Try.prog E36 Lam36 [0, 2, 4, 5] lxp36_9102 (((secsOf (bodyOf Try.f36)).filter Lam36.cut).getD 0 .skip) [(.flat (.int .i64 x_0)), (.ptr b_2 o_2), (.flat (.int .i64 x_4)), v_5] m k = P36_9102 x_0 b_2 o_2 x_4 v_5 m (fun m' => k .normal (only [0, 2, 4] [(.flat (.int .i64 x_0)), (.ptr b_2 o_2), (.flat (.int .i64 x_4))]) m') (fun x_3' m' => k .ret (only [2, 3] [(.ptr b_2 o_2), (.flat (.bool x_3'))]) m') := by
  kernel_rfl

theorem pok36_9102 : PieceOK Try.prog E36 Lam36 (((secsOf (bodyOf Try.f36)).filter Lam36.cut).getD 0 .skip) := by
  refine ⟨fun σ => ∃ x_0 b_2 o_2 x_4 v_5, σ 0 = .flat (.int .i64 x_0) ∧ σ 2 = .ptr b_2 o_2 ∧ σ 4 = .flat (.int .i64 x_4) ∧ σ 5 = v_5, [0, 2, 4, 5], lxp36_9102, fun σ m k => ?_⟩
  have e : Lam36.piece (((secsOf (bodyOf Try.f36)).filter Lam36.cut).getD 0 .skip) σ m k = LamP36_9102 σ m k := by kernel_rfl
  rw [e]
  constructor
  · intro h
    unfold LamP36_9102 at h
    obtain ⟨x_0, h0, h⟩ := kI_ok h
    obtain ⟨b_2, o_2, h1, h⟩ := kptr_ok h
    obtain ⟨x_4, h2, h⟩ := kI_ok h
    obtain ⟨v_5, h3⟩ : ∃ v, σ 5 = v := ⟨_, rfl⟩
    refine ⟨⟨x_0, b_2, o_2, x_4, v_5, h0, h1, h2, h3⟩, ?_⟩
    have ev : [0, 2, 4, 5].map σ = [(.flat (.int .i64 x_0)), (.ptr b_2 o_2), (.flat (.int .i64 x_4)), v_5] := by simp only [List.map_cons, List.map_nil, h0, h1, h2, h3]
    rw [ev, pc36_9102]
    simp only [h3] at h
    exact h
  · rintro ⟨⟨x_0, b_2, o_2, x_4, v_5, h0, h1, h2, h3⟩, h⟩
    have ev : [0, 2, 4, 5].map σ = [(.flat (.int .i64 x_0)), (.ptr b_2 o_2), (.flat (.int .i64 x_4)), v_5] := by simp only [List.map_cons, List.map_nil, h0, h1, h2, h3]
    rw [ev, pc36_9102] at h
    unfold LamP36_9102
    try simp only [h0, h1, h2, h3, kI, kbool, kS, kptr, kaggN, kite, decide_true, eq_self]
    exact h

def lx36_2 : Ex → List Nat := fun e => match e with
  | .exit 0 => [2]
  | .ret => [2, 3]
  | _ => []

theorem round36_2 (x_0 : Int) (b_2 o_2 : Nat) (x_4 : Int) (m : Mem) (G : List AV → Mem → Prop) (k : KX) : (wpA Try.prog E36 Lam36 ((loopsOf (bodyOf Try.f36)).getD 0 .skip) (only [0, 2, 4] [(.flat (.int .i64 x_0)), (.ptr b_2 o_2), (.flat (.int .i64 x_4))]) m fun e σ' m' => match e with
    | .normal => G ([0, 2, 4].map σ') m'
    | .exit id => k (.exit id) (only (lx36_2 (.exit id)) ((lx36_2 (.exit id)).map σ')) m'
    | .ret => k .ret (only (lx36_2 .ret) ((lx36_2 .ret).map σ')) m') = R36_2 x_0 b_2 o_2 x_4 m (fun x_4' m' => G [(.flat (.int .i64 x_0)), (.ptr b_2 o_2), (.flat (.int .i64 x_4'))] m') (fun m' => k (.exit 0) (only [2] [(.ptr b_2 o_2)]) m') (fun x_3' m' => k .ret (only [2, 3] [(.ptr b_2 o_2), (.flat (.bool x_3'))]) m') := by
  kernel_rfl

theorem loop36_2 (x_0 : Int) (b_2 o_2 : Nat) (k : KX) : ∀ (N : Nat) (x_4 : Int) (m : Mem), rounds Try.prog E36 Lam36 [0, 2, 4] lx36_2 ((loopsOf (bodyOf Try.f36)).getD 0 .skip) N [(.flat (.int .i64 x_0)), (.ptr b_2 o_2), (.flat (.int .i64 x_4))] m k = L36_2 x_0 b_2 o_2 N x_4 m (fun m' => k (.exit 0) (only [2] [(.ptr b_2 o_2)]) m') (fun x_3' m' => k .ret (only [2, 3] [(.ptr b_2 o_2), (.flat (.bool x_3'))]) m') := by
  intro N
  induction N with
  | zero => intros; rfl
  | succ N ih =>
    intro x_4 m
    refine (round36_2 x_0 b_2 o_2 x_4 m (fun vs m' => rounds Try.prog E36 Lam36 [0, 2, 4] lx36_2 ((loopsOf (bodyOf Try.f36)).getD 0 .skip) N vs m' k) k).trans ?_
    simp only [ih]
    rfl

theorem lok36_2 : LoopOK Try.prog E36 Lam36 ((loopsOf (bodyOf Try.f36)).getD 0 .skip) := by
  refine ⟨fun σ => ∃ x_0 b_2 o_2 x_4, σ 0 = .flat (.int .i64 x_0) ∧ σ 2 = .ptr b_2 o_2 ∧ σ 4 = .flat (.int .i64 x_4), [0, 2, 4], lx36_2, fun σ m k => ?_⟩
  have e : Lam36.loop ((loopsOf (bodyOf Try.f36)).getD 0 .skip) σ m k = Lam36_2 σ m k := by kernel_rfl
  rw [e]
  constructor
  · intro h
    unfold Lam36_2 at h
    obtain ⟨x_0, h0, h⟩ := kI_ok h
    obtain ⟨b_2, o_2, h1, h⟩ := kptr_ok h
    obtain ⟨x_4, h2, h⟩ := kI_ok h
    obtain ⟨N, h⟩ := h
    refine ⟨⟨x_0, b_2, o_2, x_4, h0, h1, h2⟩, N, ?_⟩
    have ev : [0, 2, 4].map σ = [(.flat (.int .i64 x_0)), (.ptr b_2 o_2), (.flat (.int .i64 x_4))] := by simp only [List.map_cons, List.map_nil, h0, h1, h2]
    rw [ev, loop36_2]
    exact h
  · rintro ⟨⟨x_0, b_2, o_2, x_4, h0, h1, h2⟩, N, h⟩
    have ev : [0, 2, 4].map σ = [(.flat (.int .i64 x_0)), (.ptr b_2 o_2), (.flat (.int .i64 x_4))] := by simp only [List.map_cons, List.map_nil, h0, h1, h2]
    rw [ev, loop36_2] at h
    unfold Lam36_2
    try simp only [h0, h1, h2, kI, kbool, kS, kptr, kaggN, kite, decide_true, eq_self]
    exact ⟨N, h⟩

theorem eqn36 (x_0 : Int) (m : Mem) (k : KV) : bodyK Try.prog E36 Lam36 Try.f36 true [(.flat (.int .i64 x_0))] m k = F36 x_0 m (fun c_1000 x_1001 m' => k (.tup [(.agg 4 c_1000), (.flat (.bool x_1001))]) m') := by
  kernel_rfl

theorem fs36 (w0 : World) : FS Try.prog w0 36 G36 := by
  refine (fs_body (Γ := E36) (sound_env (l := [(47, G47), (48, G48), (49, G49)]) w0 (by
    intro p hp
    simp only [List.mem_cons, List.not_mem_nil, or_false] at hp
    rcases hp with rfl | rfl | rfl
    · exact fs47 w0
    · exact fs48 w0
    · exact fs49 w0)) (by kernel_rfl) Try.func36 (Λ := Lam36) (c := (bodyOf Try.f36)) (by kernel_rfl) Try.call36 (by kernel_rfl) (LS_of (bodyOf Try.f36) 2 (by kernel_rfl) (by
    intro i hi
    match i, hi with
    | 0, _ => exact lok36_2
    | 1, _ => exact lok36_10
    | i + 2, hi => omega) 1 (by kernel_rfl) (by
    intro i hi
    match i, hi with
    | 0, _ => exact pok36_9102
    | i + 1, hi => omega)) true (np := 1) (Nat.le_of_ble_eq_true (by kernel_rfl))).imp fun args => ?_
  by_cases hl : args.length = 1
  rotate_left
  · exact .inr fun m k hk => by
      unfold G36 at hk
      split at hk
      · exact hl rfl
      · exact hk
  obtain ⟨a0, rfl⟩ : ∃ a0, args = [a0] := len_list1 hl
  rcases kI_or .i64 a0 with ⟨x_0, rfl⟩ | h
  rotate_left
  · exact .inr fun m k hk => h _ (by simpa only [G36, kI, kbool, kS, kptr, kaggN, kite, decide_true, eq_self] using hk)
  exact .inl fun m k => propext ⟨fun h => ⟨rfl, by rw [eqn36]; simpa only [G36, kI, kbool, kS, kptr, kaggN, kite, decide_true, eq_self] using h⟩, fun h => by have h := h.2; rw [eqn36] at h; simpa only [G36, kI, kbool, kS, kptr, kaggN, kite, decide_true, eq_self] using h⟩

def E37 : Env := envOf []

def R37_2 (x_0 : ByteArray) (x_1 : Int) (x_5 : Int) (m : Mem) (kn : Int → Mem → Prop) (k0 : Mem → Prop) (kr : Bool → Mem → Prop) : Prop :=
  kif (decide (x_5 < (↑(x_0.size)))) (kif (decide (0 ≤ x_5) && decide (x_5 < x_0.size)) (kif (((x_0.data.getD (x_5).toNat 0).toNat) == x_1) (kr true m) (kn (IntKind.wrap .i64 (x_5 + 1)) m)) False) (k0  m)

def L37_2 (x_0 : ByteArray) (x_1 : Int) : Nat → Int → Mem → (Mem → Prop) → (Bool → Mem → Prop) → Prop
  | 0, _,  _, _, _ => bump False
  | N + 1, x_5,  m, k0, kr => R37_2 x_0 x_1 x_5 m (fun x_5' m' => L37_2 x_0 x_1 N x_5' m' k0 kr) k0 kr

/-- pianola/pianolaref3.has -/
def F37 (x_0 : ByteArray) (x_1 : Int) (m : Mem) (k : Bool → Mem → Prop) : Prop :=
  ∃ N4, L37_2 x_0 x_1 N4 0 m (fun m1 => (Keeps m m1 ∧ k false m)) (fun x2 m3 => (Keeps m m3 ∧ k x2 m))

def G37 (args : List AV) (m : Mem) (k : KV) : Prop := match args with
  | [a0, a1] => kS a0 fun x_0 => kI .u8 a1 fun x_1 => F37 x_0 x_1 m (fun x_1000 m' => k (.flat (.bool x_1000)) m')
  | _ => False

def Lam37_2 (σ : Nat → AV) (m : Mem) (k : KX) : Prop := kS (σ 0) fun x_0 => kI .u8 (σ 1) fun x_1 => kI .i64 (σ 5) fun x_5 => ∃ N, L37_2 x_0 x_1 N x_5 m (fun m' => k (.exit 0) (only [] []) m') (fun x_4' m' => k .ret (only [4] [(.flat (.bool x_4'))]) m')

def Lam37 : LEnv := ⟨fun a σ m k => match firstReg a with
  | some 2 => Lam37_2 σ m k
  | _ => bump False,
  fun id => match id with
  | _ => bump false,
  fun b => match keyC b with
  | _ => bump false,
  fun b σ m k => match keyC b with
  | _ => bump False⟩

def lx37_2 : Ex → List Nat := fun e => match e with
  | .exit 0 => []
  | .ret => [4]
  | _ => []

theorem round37_2 (x_0 : ByteArray) (x_1 : Int) (x_5 : Int) (m : Mem) (G : List AV → Mem → Prop) (k : KX) : (wpA Try.prog E37 Lam37 ((loopsOf (bodyOf Try.f37)).getD 0 .skip) (only [0, 1, 5] [(.flat (.string x_0)), (.flat (.int .u8 x_1)), (.flat (.int .i64 x_5))]) m fun e σ' m' => match e with
    | .normal => G ([0, 1, 5].map σ') m'
    | .exit id => k (.exit id) (only (lx37_2 (.exit id)) ((lx37_2 (.exit id)).map σ')) m'
    | .ret => k .ret (only (lx37_2 .ret) ((lx37_2 .ret).map σ')) m') = R37_2 x_0 x_1 x_5 m (fun x_5' m' => G [(.flat (.string x_0)), (.flat (.int .u8 x_1)), (.flat (.int .i64 x_5'))] m') (fun m' => k (.exit 0) (only [] []) m') (fun x_4' m' => k .ret (only [4] [(.flat (.bool x_4'))]) m') := by
  kernel_rfl

theorem loop37_2 (x_0 : ByteArray) (x_1 : Int) (k : KX) : ∀ (N : Nat) (x_5 : Int) (m : Mem), rounds Try.prog E37 Lam37 [0, 1, 5] lx37_2 ((loopsOf (bodyOf Try.f37)).getD 0 .skip) N [(.flat (.string x_0)), (.flat (.int .u8 x_1)), (.flat (.int .i64 x_5))] m k = L37_2 x_0 x_1 N x_5 m (fun m' => k (.exit 0) (only [] []) m') (fun x_4' m' => k .ret (only [4] [(.flat (.bool x_4'))]) m') := by
  intro N
  induction N with
  | zero => intros; rfl
  | succ N ih =>
    intro x_5 m
    refine (round37_2 x_0 x_1 x_5 m (fun vs m' => rounds Try.prog E37 Lam37 [0, 1, 5] lx37_2 ((loopsOf (bodyOf Try.f37)).getD 0 .skip) N vs m' k) k).trans ?_
    simp only [ih]
    rfl

theorem lok37_2 : LoopOK Try.prog E37 Lam37 ((loopsOf (bodyOf Try.f37)).getD 0 .skip) := by
  refine ⟨fun σ => ∃ x_0 x_1 x_5, σ 0 = .flat (.string x_0) ∧ σ 1 = .flat (.int .u8 x_1) ∧ σ 5 = .flat (.int .i64 x_5), [0, 1, 5], lx37_2, fun σ m k => ?_⟩
  have e : Lam37.loop ((loopsOf (bodyOf Try.f37)).getD 0 .skip) σ m k = Lam37_2 σ m k := by kernel_rfl
  rw [e]
  constructor
  · intro h
    unfold Lam37_2 at h
    obtain ⟨x_0, h0, h⟩ := kS_ok h
    obtain ⟨x_1, h1, h⟩ := kI_ok h
    obtain ⟨x_5, h2, h⟩ := kI_ok h
    obtain ⟨N, h⟩ := h
    refine ⟨⟨x_0, x_1, x_5, h0, h1, h2⟩, N, ?_⟩
    have ev : [0, 1, 5].map σ = [(.flat (.string x_0)), (.flat (.int .u8 x_1)), (.flat (.int .i64 x_5))] := by simp only [List.map_cons, List.map_nil, h0, h1, h2]
    rw [ev, loop37_2]
    exact h
  · rintro ⟨⟨x_0, x_1, x_5, h0, h1, h2⟩, N, h⟩
    have ev : [0, 1, 5].map σ = [(.flat (.string x_0)), (.flat (.int .u8 x_1)), (.flat (.int .i64 x_5))] := by simp only [List.map_cons, List.map_nil, h0, h1, h2]
    rw [ev, loop37_2] at h
    unfold Lam37_2
    try simp only [h0, h1, h2, kI, kbool, kS, kptr, kaggN, kite, decide_true, eq_self]
    exact ⟨N, h⟩

theorem eqn37 (x_0 : ByteArray) (x_1 : Int) (m : Mem) (k : KV) : bodyK Try.prog E37 Lam37 Try.f37 true [(.flat (.string x_0)), (.flat (.int .u8 x_1))] m k = F37 x_0 x_1 m (fun x_1000 m' => k (.flat (.bool x_1000)) m') := by
  kernel_rfl

theorem fs37 (w0 : World) : FS Try.prog w0 37 G37 := by
  refine (fs_body (Γ := E37) (sound_env (l := []) w0 (by
    intro p hp
    cases hp)) (by kernel_rfl) Try.func37 (Λ := Lam37) (c := (bodyOf Try.f37)) (by kernel_rfl) Try.call37 (by kernel_rfl) (LS_of (bodyOf Try.f37) 1 (by kernel_rfl) (by
    intro i hi
    match i, hi with
    | 0, _ => exact lok37_2
    | i + 1, hi => omega) 0 (by kernel_rfl) (fun i hi => absurd hi (Nat.not_lt_zero i))) true (np := 2) (Nat.le_of_ble_eq_true (by kernel_rfl))).imp fun args => ?_
  by_cases hl : args.length = 2
  rotate_left
  · exact .inr fun m k hk => by
      unfold G37 at hk
      split at hk
      · exact hl rfl
      · exact hk
  obtain ⟨a0, a1, rfl⟩ : ∃ a0 a1, args = [a0, a1] := len_list2 hl
  rcases kS_or a0 with ⟨x_0, rfl⟩ | h
  rotate_left
  · exact .inr fun m k hk => h _ (by simpa only [G37, kI, kbool, kS, kptr, kaggN, kite, decide_true, eq_self] using hk)
  rcases kI_or .u8 a1 with ⟨x_1, rfl⟩ | h
  rotate_left
  · exact .inr fun m k hk => h _ (by simpa only [G37, kI, kbool, kS, kptr, kaggN, kite, decide_true, eq_self] using hk)
  exact .inl fun m k => propext ⟨fun h => ⟨rfl, by rw [eqn37]; simpa only [G37, kI, kbool, kS, kptr, kaggN, kite, decide_true, eq_self] using h⟩, fun h => by have h := h.2; rw [eqn37] at h; simpa only [G37, kI, kbool, kS, kptr, kaggN, kite, decide_true, eq_self] using h⟩

def E38 : Env := envOf []

/-- pianola/pianolaref3.small -/
def F38 (x_0 : Int) (x_1 : Bool) (m : Mem) (k : Bool → Mem → Prop) : Prop :=
  kif (x_0 == 0) ((Keeps m m ∧ k true m)) (kif x_1 (kif (decide (x_0 > 0)) ((Keeps m m ∧ k (decide (x_0 < 32)) m)) ((Keeps m m ∧ k false m))) ((Keeps m m ∧ k false m)))

def G38 (args : List AV) (m : Mem) (k : KV) : Prop := match args with
  | [a0, a1] => kI .i64 a0 fun x_0 => kbool a1 fun x_1 => F38 x_0 x_1 m (fun x_1000 m' => k (.flat (.bool x_1000)) m')
  | _ => False

def Lam38 : LEnv := ⟨fun a σ m k => match firstReg a with
  | _ => bump False,
  fun id => match id with
  | _ => bump false,
  fun b => match keyC b with
  | _ => bump false,
  fun b σ m k => match keyC b with
  | _ => bump False⟩

theorem eqn38 (x_0 : Int) (x_1 : Bool) (m : Mem) (k : KV) : bodyK Try.prog E38 Lam38 Try.f38 true [(.flat (.int .i64 x_0)), (.flat (.bool x_1))] m k = F38 x_0 x_1 m (fun x_1000 m' => k (.flat (.bool x_1000)) m') := by
  kernel_rfl

theorem fs38 (w0 : World) : FS Try.prog w0 38 G38 := by
  refine (fs_body (Γ := E38) (sound_env (l := []) w0 (by
    intro p hp
    cases hp)) (by kernel_rfl) Try.func38 (Λ := Lam38) (c := (bodyOf Try.f38)) (by kernel_rfl) Try.call38 (by kernel_rfl) (LS_of (bodyOf Try.f38) 0 (by kernel_rfl) (fun i hi => absurd hi (Nat.not_lt_zero i)) 0 (by kernel_rfl) (fun i hi => absurd hi (Nat.not_lt_zero i))) true (np := 2) (Nat.le_of_ble_eq_true (by kernel_rfl))).imp fun args => ?_
  by_cases hl : args.length = 2
  rotate_left
  · exact .inr fun m k hk => by
      unfold G38 at hk
      split at hk
      · exact hl rfl
      · exact hk
  obtain ⟨a0, a1, rfl⟩ : ∃ a0 a1, args = [a0, a1] := len_list2 hl
  rcases kI_or .i64 a0 with ⟨x_0, rfl⟩ | h
  rotate_left
  · exact .inr fun m k hk => h _ (by simpa only [G38, kI, kbool, kS, kptr, kaggN, kite, decide_true, eq_self] using hk)
  rcases kbool_or a1 with ⟨x_1, rfl⟩ | h
  rotate_left
  · exact .inr fun m k hk => h _ (by simpa only [G38, kI, kbool, kS, kptr, kaggN, kite, decide_true, eq_self] using hk)
  exact .inl fun m k => propext ⟨fun h => ⟨rfl, by rw [eqn38]; simpa only [G38, kI, kbool, kS, kptr, kaggN, kite, decide_true, eq_self] using h⟩, fun h => by have h := h.2; rw [eqn38] at h; simpa only [G38, kI, kbool, kS, kptr, kaggN, kite, decide_true, eq_self] using h⟩

def E19 : Env := envOf [(36, G36), (37, G37), (38, G38)]

def P19_10102 (b_1 o_1 : Nat) (x_5 : ByteArray) (x_6 : Int) (m : Mem) (kr : Bool → Mem → Prop) : Prop :=
  ∃ Fr15 : Nat → Prop, Fr15 b_1 ∧ (ldI .i64 m b_1 (o_1 + 1) fun x16 => F37 x_5 115 m fun x17 m18 => KeepsIn Fr15 m m18 ∧ (F38 x16 x17 m18 fun x19 m20 => KeepsIn Fr15 m18 m20 ∧ (kif x19 (Fr15 b_1 ∧ (ldI .i64 m20 b_1 (o_1 + 2) fun x21 => F37 x_5 116 m20 fun x22 m23 => KeepsIn Fr15 m20 m23 ∧ (F38 x21 x22 m23 fun x24 m25 => KeepsIn Fr15 m23 m25 ∧ (kif x24 (Fr15 b_1 ∧ (ldI .i64 m25 b_1 (o_1 + 3) fun x26 => F37 x_5 100 m25 fun x27 m28 => KeepsIn Fr15 m25 m28 ∧ (F38 x26 x27 m28 fun x29 m30 => KeepsIn Fr15 m28 m30 ∧ (kif x29 (Fr15 b_1 ∧ (ldI .i64 m30 b_1 (o_1 + 4) fun x31 => F37 x_5 104 m30 fun x32 m33 => KeepsIn Fr15 m30 m33 ∧ (F38 x31 x32 m33 fun x34 m35 => KeepsIn Fr15 m33 m35 ∧ (kif x34 (Fr15 b_1 ∧ (ldI .u32 m35 b_1 (o_1 + 5) fun x36 => kr (decide (x36 ≤ x_6)) m35)) (kr false m35))))) (kr false m30))))) (kr false m25))))) (kr false m20))))

/-- pianola/pianolaref3.Right -/
def F19 (c_0 : Nat → AV) (m : Mem) (k : Bool → Mem → Prop) : Prop :=
  newK m ⟨6, c_0, 27, false⟩ fun b2 m1 => ldI .i64 m1 b2 0 fun x3 => F36 x3 m1 fun c4 x5 m6 => newK m6 ⟨4, lget [(.flat (.int .i64 0)), (.flat (.int .i64 0)), (.flat (.int .i64 0)), (.flat (.string ⟨#[]⟩))], 62, false⟩ fun b8 m7 => stG 4 m7 b8 0 c4 fun m9 => kif (!x5) ((Keeps m m9 ∧ k false m)) (ldS m9 b8 3 fun x10 => F37 x10 105 m9 fun x11 m12 => kif x11 (P19_10102 b2 0 x10 65535 m12 (fun x37 m38 => (Keeps m m38 ∧ k x37 m))) (F37 x10 106 m12 fun x13 m14 => kif x13 (P19_10102 b2 0 x10 67108863 m14 (fun x39 m40 => (Keeps m m40 ∧ k x39 m))) (P19_10102 b2 0 x10 0 m14 (fun x41 m42 => (Keeps m m42 ∧ k x41 m)))))

def G19 (args : List AV) (m : Mem) (k : KV) : Prop := match args with
  | [a0] => kaggN 6 a0 fun c_0 => F19 c_0 m (fun x_1000 m' => k (.flat (.bool x_1000)) m')
  | _ => False

def LamP19_10102 (σ : Nat → AV) (m : Mem) (k : KX) : Prop := kptr (σ 1) fun b_1 o_1 => kS (σ 5) fun x_5 => kI .u32 (σ 6) fun x_6 => P19_10102 b_1 o_1 x_5 x_6 m (fun x_2' m' => k .ret (only [2] [(.flat (.bool x_2'))]) m')

def Lam19 : LEnv := ⟨fun a σ m k => match firstReg a with
  | _ => bump False,
  fun id => match id with
  | 10 => true
  | _ => bump false,
  fun b => match keyC b with
  | some 10102 => true
  | _ => bump false,
  fun b σ m k => match keyC b with
  | some 10102 => LamP19_10102 σ m k
  | _ => bump False⟩

def lxp19_10102 : Ex → List Nat := fun e => match e with
  | .ret => [2]
  | _ => []

theorem pc19_10102 (b_1 o_1 : Nat) (x_5 : ByteArray) (x_6 : Int) (m : Mem) (k : KX) : once Try.prog E19 Lam19 [1, 5, 6] lxp19_10102 (((secsOf (bodyOf Try.f19)).filter Lam19.cut).getD 0 .skip) [(.ptr b_1 o_1), (.flat (.string x_5)), (.flat (.int .u32 x_6))] m k = P19_10102 b_1 o_1 x_5 x_6 m (fun x_2' m' => k .ret (only [2] [(.flat (.bool x_2'))]) m') := by
  kernel_rfl

theorem pok19_10102 : PieceOK Try.prog E19 Lam19 (((secsOf (bodyOf Try.f19)).filter Lam19.cut).getD 0 .skip) := by
  refine ⟨fun σ => ∃ b_1 o_1 x_5 x_6, σ 1 = .ptr b_1 o_1 ∧ σ 5 = .flat (.string x_5) ∧ σ 6 = .flat (.int .u32 x_6), [1, 5, 6], lxp19_10102, fun σ m k => ?_⟩
  have e : Lam19.piece (((secsOf (bodyOf Try.f19)).filter Lam19.cut).getD 0 .skip) σ m k = LamP19_10102 σ m k := by kernel_rfl
  rw [e]
  constructor
  · intro h
    unfold LamP19_10102 at h
    obtain ⟨b_1, o_1, h0, h⟩ := kptr_ok h
    obtain ⟨x_5, h1, h⟩ := kS_ok h
    obtain ⟨x_6, h2, h⟩ := kI_ok h
    refine ⟨⟨b_1, o_1, x_5, x_6, h0, h1, h2⟩, ?_⟩
    have ev : [1, 5, 6].map σ = [(.ptr b_1 o_1), (.flat (.string x_5)), (.flat (.int .u32 x_6))] := by simp only [List.map_cons, List.map_nil, h0, h1, h2]
    rw [ev, pc19_10102]
    exact h
  · rintro ⟨⟨b_1, o_1, x_5, x_6, h0, h1, h2⟩, h⟩
    have ev : [1, 5, 6].map σ = [(.ptr b_1 o_1), (.flat (.string x_5)), (.flat (.int .u32 x_6))] := by simp only [List.map_cons, List.map_nil, h0, h1, h2]
    rw [ev, pc19_10102] at h
    unfold LamP19_10102
    try simp only [h0, h1, h2, kI, kbool, kS, kptr, kaggN, kite, decide_true, eq_self]
    exact h

theorem eqn19 (c_0 : Nat → AV) (m : Mem) (k : KV) : bodyK Try.prog E19 Lam19 Try.f19 true [(.agg 6 c_0)] m k = F19 c_0 m (fun x_1000 m' => k (.flat (.bool x_1000)) m') := by
  kernel_rfl

theorem fs19 (w0 : World) : FS Try.prog w0 19 G19 := by
  refine (fs_body (Γ := E19) (sound_env (l := [(36, G36), (37, G37), (38, G38)]) w0 (by
    intro p hp
    simp only [List.mem_cons, List.not_mem_nil, or_false] at hp
    rcases hp with rfl | rfl | rfl
    · exact fs36 w0
    · exact fs37 w0
    · exact fs38 w0)) (by kernel_rfl) Try.func19 (Λ := Lam19) (c := (bodyOf Try.f19)) (by kernel_rfl) Try.call19 (by kernel_rfl) (LS_of (bodyOf Try.f19) 0 (by kernel_rfl) (fun i hi => absurd hi (Nat.not_lt_zero i)) 1 (by kernel_rfl) (by
    intro i hi
    match i, hi with
    | 0, _ => exact pok19_10102
    | i + 1, hi => omega)) true (np := 1) (Nat.le_of_ble_eq_true (by kernel_rfl))).imp fun args => ?_
  by_cases hl : args.length = 1
  rotate_left
  · exact .inr fun m k hk => by
      unfold G19 at hk
      split at hk
      · exact hl rfl
      · exact hk
  obtain ⟨a0, rfl⟩ : ∃ a0, args = [a0] := len_list1 hl
  rcases kaggN_or 6 a0 with ⟨c_0, rfl⟩ | h
  rotate_left
  · exact .inr fun m k hk => h _ (by simpa only [G19, kI, kbool, kS, kptr, kaggN, kite, decide_true, eq_self] using hk)
  exact .inl fun m k => propext ⟨fun h => ⟨rfl, by rw [eqn19]; simpa only [G19, kI, kbool, kS, kptr, kaggN, kite, decide_true, eq_self] using h⟩, fun h => by have h := h.2; rw [eqn19] at h; simpa only [G19, kI, kbool, kS, kptr, kaggN, kite, decide_true, eq_self] using h⟩

def E20 : Env := envOf []

/-- pianola/pianolakeep.only -/
def F20 (c_0 : Nat → AV) (x_1 : Int) (m : Mem) (k : (Nat → AV) → Mem → Prop) : Prop :=
  newK m ⟨6, c_0, 27, false⟩ fun b2 m1 => newK m1 ⟨6, Z6, 27, false⟩ fun b4 m3 => ldI .i64 m3 b2 0 fun x5 => newK m3 ⟨6, Z6, 27, false⟩ fun b7 m6 => stG 6 m6 b7 0 (upd (Z6) 0 (.flat (.int .i64 x5))) fun m8 => kif (x_1 == 0) (stC m8 b7 1 (.flat (.int .i64 1)) fun m9 => ldG 6 m9 b7 0 fun c16 => stG 6 m9 b4 0 c16 fun m17 => ldG 6 m17 b4 0 fun c28 => (Keeps m m17 ∧ InDomG 6 m c28 ∧ k c28 m)) (kif (x_1 == 1) (stC m8 b7 2 (.flat (.int .i64 1)) fun m10 => ldG 6 m10 b7 0 fun c18 => stG 6 m10 b4 0 c18 fun m19 => ldG 6 m19 b4 0 fun c29 => (Keeps m m19 ∧ InDomG 6 m c29 ∧ k c29 m)) (kif (x_1 == 2) (stC m8 b7 3 (.flat (.int .i64 1)) fun m11 => ldG 6 m11 b7 0 fun c20 => stG 6 m11 b4 0 c20 fun m21 => ldG 6 m21 b4 0 fun c30 => (Keeps m m21 ∧ InDomG 6 m c30 ∧ k c30 m)) (kif (x_1 == 3) (stC m8 b7 4 (.flat (.int .i64 1)) fun m12 => ldG 6 m12 b7 0 fun c22 => stG 6 m12 b4 0 c22 fun m23 => ldG 6 m23 b4 0 fun c31 => (Keeps m m23 ∧ InDomG 6 m c31 ∧ k c31 m)) (kif (x_1 == 4) (ldI .u32 m8 b2 5 fun x13 => stC m8 b7 5 (.flat (.int .u32 x13)) fun m14 => ldG 6 m14 b7 0 fun c24 => stG 6 m14 b4 0 c24 fun m25 => ldG 6 m25 b4 0 fun c32 => (Keeps m m25 ∧ InDomG 6 m c32 ∧ k c32 m)) (stC m8 b7 5 (.flat (.int .u32 1)) fun m15 => ldG 6 m15 b7 0 fun c26 => stG 6 m15 b4 0 c26 fun m27 => ldG 6 m27 b4 0 fun c33 => (Keeps m m27 ∧ InDomG 6 m c33 ∧ k c33 m))))))

def G20 (args : List AV) (m : Mem) (k : KV) : Prop := match args with
  | [a0, a1] => kaggN 6 a0 fun c_0 => kI .i64 a1 fun x_1 => F20 c_0 x_1 m (fun c_1000 m' => k (.agg 6 c_1000) m')
  | _ => False

def Lam20 : LEnv := ⟨fun a σ m k => match firstReg a with
  | _ => bump False,
  fun id => match id with
  | _ => bump false,
  fun b => match keyC b with
  | _ => bump false,
  fun b σ m k => match keyC b with
  | _ => bump False⟩

theorem eqn20 (c_0 : Nat → AV) (x_1 : Int) (m : Mem) (k : KV) : bodyK Try.prog E20 Lam20 Try.f20 true [(.agg 6 c_0), (.flat (.int .i64 x_1))] m k = F20 c_0 x_1 m (fun c_1000 m' => k (.agg 6 c_1000) m') := by
  kernel_rfl

theorem fs20 (w0 : World) : FS Try.prog w0 20 G20 := by
  refine (fs_body (Γ := E20) (sound_env (l := []) w0 (by
    intro p hp
    cases hp)) (by kernel_rfl) Try.func20 (Λ := Lam20) (c := (bodyOf Try.f20)) (by kernel_rfl) Try.call20 (by kernel_rfl) (LS_of (bodyOf Try.f20) 0 (by kernel_rfl) (fun i hi => absurd hi (Nat.not_lt_zero i)) 0 (by kernel_rfl) (fun i hi => absurd hi (Nat.not_lt_zero i))) true (np := 2) (Nat.le_of_ble_eq_true (by kernel_rfl))).imp fun args => ?_
  by_cases hl : args.length = 2
  rotate_left
  · exact .inr fun m k hk => by
      unfold G20 at hk
      split at hk
      · exact hl rfl
      · exact hk
  obtain ⟨a0, a1, rfl⟩ : ∃ a0 a1, args = [a0, a1] := len_list2 hl
  rcases kaggN_or 6 a0 with ⟨c_0, rfl⟩ | h
  rotate_left
  · exact .inr fun m k hk => h _ (by simpa only [G20, kI, kbool, kS, kptr, kaggN, kite, decide_true, eq_self] using hk)
  rcases kI_or .i64 a1 with ⟨x_1, rfl⟩ | h
  rotate_left
  · exact .inr fun m k hk => h _ (by simpa only [G20, kI, kbool, kS, kptr, kaggN, kite, decide_true, eq_self] using hk)
  exact .inl fun m k => propext ⟨fun h => ⟨rfl, by rw [eqn20]; simpa only [G20, kI, kbool, kS, kptr, kaggN, kite, decide_true, eq_self] using h⟩, fun h => by have h := h.2; rw [eqn20] at h; simpa only [G20, kI, kbool, kS, kptr, kaggN, kite, decide_true, eq_self] using h⟩

def E9 : Env := envOf [(10, G10), (18, G18), (19, G19), (20, G20)]

def P9_18102 (b_4 o_4 : Nat) (b_5 o_5 : Nat) (x_6 : Int) (b_7 o_7 : Nat) (m : Mem) (kn : Mem → Prop) : Prop :=
  ldG 6 m b_5 o_5 fun c33 => F20 c33 x_6 m fun c34 m35 => F19 c34 m35 fun x36 m37 => kif (!x36) (ldG 6 m37 b_7 o_7 fun c38 => stG 6 m37 b_5 o_5 c38 fun m39 => kn  m39) (kn  m37)

def R9_3 (b_4 o_4 : Nat) (b_5 o_5 : Nat) (x_6 : Int) (m : Mem) (kn : Int → Mem → Prop) (k0 : Mem → Prop) : Prop :=
  kif (decide (x_6 < 6)) (ldG 6 m b_5 o_5 fun c22 => newK m ⟨6, Z6, 27, false⟩ fun b24 m23 => stG 6 m23 b24 0 c22 fun m25 => kif (x_6 == 0) (stC m25 b24 1 (.flat (.int .i64 0)) fun m26 => P9_18102 b_4 o_4 b_5 o_5 x_6 b24 0 m26 (fun m40 => kn (IntKind.wrap .i64 (x_6 + 1)) m40)) (kif (x_6 == 1) (stC m25 b24 2 (.flat (.int .i64 0)) fun m27 => P9_18102 b_4 o_4 b_5 o_5 x_6 b24 0 m27 (fun m41 => kn (IntKind.wrap .i64 (x_6 + 1)) m41)) (kif (x_6 == 2) (stC m25 b24 3 (.flat (.int .i64 0)) fun m28 => P9_18102 b_4 o_4 b_5 o_5 x_6 b24 0 m28 (fun m42 => kn (IntKind.wrap .i64 (x_6 + 1)) m42)) (kif (x_6 == 3) (stC m25 b24 4 (.flat (.int .i64 0)) fun m29 => P9_18102 b_4 o_4 b_5 o_5 x_6 b24 0 m29 (fun m43 => kn (IntKind.wrap .i64 (x_6 + 1)) m43)) (kif (x_6 == 4) (ldI .u32 m25 b24 5 fun x30 => stC m25 b24 5 (.flat (.int .u32 (bits .and .u32 x30 65535))) fun m31 => P9_18102 b_4 o_4 b_5 o_5 x_6 b24 0 m31 (fun m44 => kn (IntKind.wrap .i64 (x_6 + 1)) m44)) (stC m25 b24 5 (.flat (.int .u32 0)) fun m32 => P9_18102 b_4 o_4 b_5 o_5 x_6 b24 0 m32 (fun m45 => kn (IntKind.wrap .i64 (x_6 + 1)) m45))))))) (k0  m)

def L9_3 (b_4 o_4 : Nat) (b_5 o_5 : Nat) : Nat → Int → Mem → (Mem → Prop) → Prop
  | 0, _,  _, _ => bump False
  | N + 1, x_6,  m, k0 => R9_3 b_4 o_4 b_5 o_5 x_6 m (fun x_6' m' => L9_3 b_4 o_4 b_5 o_5 N x_6' m' k0) k0

/-- pianola/pianolakeep.Inst -/
def F9 (c_0 : Nat → AV) (x_1 : Int) (m : Mem) (k : (Nat → AV) → Mem → Prop) : Prop :=
  newK m ⟨7, c_0, 24, false⟩ fun b2 m1 => newK m1 ⟨6, Z6, 27, false⟩ fun b4 m3 => ∃ Fr5 : Nat → Prop, Fr5 b2 ∧ (ldI .i64 m3 b2 1 fun x6 => F18 x6 m3 fun x7 m8 => KeepsIn Fr5 m3 m8 ∧ (Fr5 b2 ∧ (ldI .i64 m8 b2 2 fun x9 => F18 x9 m8 fun x10 m11 => KeepsIn Fr5 m8 m11 ∧ (Fr5 b2 ∧ (ldI .i64 m11 b2 3 fun x12 => F18 x12 m11 fun x13 m14 => KeepsIn Fr5 m11 m14 ∧ (Fr5 b2 ∧ (ldI .i64 m14 b2 4 fun x15 => F10 x15 0 31 m14 fun x16 m17 => KeepsIn Fr5 m14 m17 ∧ (Fr5 b2 ∧ (ldI .u32 m17 b2 5 fun x18 => newK m17 ⟨6, Z6, 27, false⟩ fun b20 m19 => stG 6 m19 b20 0 (upd (upd (upd (upd (upd (upd (Z6) 0 (.flat (.int .i64 x_1))) 1 (.flat (.int .i64 x7))) 2 (.flat (.int .i64 x10))) 3 (.flat (.int .i64 x13))) 4 (.flat (.int .i64 x16))) 5 (.flat (.int .u32 (bits .and .u32 x18 67108863)))) fun m21 => ∃ N47, L9_3 b4 0 b20 0 N47 0 m21 (fun m46 => ldG 6 m46 b20 0 fun c48 => stG 6 m46 b4 0 c48 fun m49 => ldG 6 m49 b4 0 fun c50 => (Keeps m m49 ∧ InDomG 6 m c50 ∧ k c50 m)))))))))))

def G9 (args : List AV) (m : Mem) (k : KV) : Prop := match args with
  | [a0, a1] => kaggN 7 a0 fun c_0 => kI .i64 a1 fun x_1 => F9 c_0 x_1 m (fun c_1000 m' => k (.agg 6 c_1000) m')
  | _ => False

def Lam9_3 (σ : Nat → AV) (m : Mem) (k : KX) : Prop := kptr (σ 4) fun b_4 o_4 => kptr (σ 5) fun b_5 o_5 => kI .i64 (σ 6) fun x_6 => ∃ N, L9_3 b_4 o_4 b_5 o_5 N x_6 m (fun m' => k (.exit 0) (only [4, 5] [(.ptr b_4 o_4), (.ptr b_5 o_5)]) m')

def LamP9_18102 (σ : Nat → AV) (m : Mem) (k : KX) : Prop := kptr (σ 4) fun b_4 o_4 => kptr (σ 5) fun b_5 o_5 => kI .i64 (σ 6) fun x_6 => kptr (σ 7) fun b_7 o_7 => P9_18102 b_4 o_4 b_5 o_5 x_6 b_7 o_7 m (fun m' => k .normal (only [4, 5, 6] [(.ptr b_4 o_4), (.ptr b_5 o_5), (.flat (.int .i64 x_6))]) m')

def Lam9 : LEnv := ⟨fun a σ m k => match firstReg a with
  | some 3 => Lam9_3 σ m k
  | _ => bump False,
  fun id => match id with
  | 1 => true
  | _ => bump false,
  fun b => match keyC b with
  | some 18102 => true
  | _ => bump false,
  fun b σ m k => match keyC b with
  | some 18102 => LamP9_18102 σ m k
  | _ => bump False⟩

def lxp9_18102 : Ex → List Nat := fun e => match e with
  | .normal => [4, 5, 6]
  | _ => []

theorem pc9_18102 (b_4 o_4 : Nat) (b_5 o_5 : Nat) (x_6 : Int) (b_7 o_7 : Nat) (m : Mem) (k : KX) : once Try.prog E9 Lam9 [4, 5, 6, 7] lxp9_18102 (((secsOf (bodyOf Try.f9)).filter Lam9.cut).getD 0 .skip) [(.ptr b_4 o_4), (.ptr b_5 o_5), (.flat (.int .i64 x_6)), (.ptr b_7 o_7)] m k = P9_18102 b_4 o_4 b_5 o_5 x_6 b_7 o_7 m (fun m' => k .normal (only [4, 5, 6] [(.ptr b_4 o_4), (.ptr b_5 o_5), (.flat (.int .i64 x_6))]) m') := by
  kernel_rfl

theorem pok9_18102 : PieceOK Try.prog E9 Lam9 (((secsOf (bodyOf Try.f9)).filter Lam9.cut).getD 0 .skip) := by
  refine ⟨fun σ => ∃ b_4 o_4 b_5 o_5 x_6 b_7 o_7, σ 4 = .ptr b_4 o_4 ∧ σ 5 = .ptr b_5 o_5 ∧ σ 6 = .flat (.int .i64 x_6) ∧ σ 7 = .ptr b_7 o_7, [4, 5, 6, 7], lxp9_18102, fun σ m k => ?_⟩
  have e : Lam9.piece (((secsOf (bodyOf Try.f9)).filter Lam9.cut).getD 0 .skip) σ m k = LamP9_18102 σ m k := by kernel_rfl
  rw [e]
  constructor
  · intro h
    unfold LamP9_18102 at h
    obtain ⟨b_4, o_4, h0, h⟩ := kptr_ok h
    obtain ⟨b_5, o_5, h1, h⟩ := kptr_ok h
    obtain ⟨x_6, h2, h⟩ := kI_ok h
    obtain ⟨b_7, o_7, h3, h⟩ := kptr_ok h
    refine ⟨⟨b_4, o_4, b_5, o_5, x_6, b_7, o_7, h0, h1, h2, h3⟩, ?_⟩
    have ev : [4, 5, 6, 7].map σ = [(.ptr b_4 o_4), (.ptr b_5 o_5), (.flat (.int .i64 x_6)), (.ptr b_7 o_7)] := by simp only [List.map_cons, List.map_nil, h0, h1, h2, h3]
    rw [ev, pc9_18102]
    exact h
  · rintro ⟨⟨b_4, o_4, b_5, o_5, x_6, b_7, o_7, h0, h1, h2, h3⟩, h⟩
    have ev : [4, 5, 6, 7].map σ = [(.ptr b_4 o_4), (.ptr b_5 o_5), (.flat (.int .i64 x_6)), (.ptr b_7 o_7)] := by simp only [List.map_cons, List.map_nil, h0, h1, h2, h3]
    rw [ev, pc9_18102] at h
    unfold LamP9_18102
    try simp only [h0, h1, h2, h3, kI, kbool, kS, kptr, kaggN, kite, decide_true, eq_self]
    exact h

def lx9_3 : Ex → List Nat := fun e => match e with
  | .exit 0 => [4, 5]
  | _ => []

theorem round9_3 (b_4 o_4 : Nat) (b_5 o_5 : Nat) (x_6 : Int) (m : Mem) (G : List AV → Mem → Prop) (k : KX) : (wpA Try.prog E9 Lam9 ((loopsOf (bodyOf Try.f9)).getD 0 .skip) (only [4, 5, 6] [(.ptr b_4 o_4), (.ptr b_5 o_5), (.flat (.int .i64 x_6))]) m fun e σ' m' => match e with
    | .normal => G ([4, 5, 6].map σ') m'
    | .exit id => k (.exit id) (only (lx9_3 (.exit id)) ((lx9_3 (.exit id)).map σ')) m'
    | .ret => k .ret (only (lx9_3 .ret) ((lx9_3 .ret).map σ')) m') = R9_3 b_4 o_4 b_5 o_5 x_6 m (fun x_6' m' => G [(.ptr b_4 o_4), (.ptr b_5 o_5), (.flat (.int .i64 x_6'))] m') (fun m' => k (.exit 0) (only [4, 5] [(.ptr b_4 o_4), (.ptr b_5 o_5)]) m') := by
  kernel_rfl

theorem loop9_3 (b_4 o_4 : Nat) (b_5 o_5 : Nat) (k : KX) : ∀ (N : Nat) (x_6 : Int) (m : Mem), rounds Try.prog E9 Lam9 [4, 5, 6] lx9_3 ((loopsOf (bodyOf Try.f9)).getD 0 .skip) N [(.ptr b_4 o_4), (.ptr b_5 o_5), (.flat (.int .i64 x_6))] m k = L9_3 b_4 o_4 b_5 o_5 N x_6 m (fun m' => k (.exit 0) (only [4, 5] [(.ptr b_4 o_4), (.ptr b_5 o_5)]) m') := by
  intro N
  induction N with
  | zero => intros; rfl
  | succ N ih =>
    intro x_6 m
    refine (round9_3 b_4 o_4 b_5 o_5 x_6 m (fun vs m' => rounds Try.prog E9 Lam9 [4, 5, 6] lx9_3 ((loopsOf (bodyOf Try.f9)).getD 0 .skip) N vs m' k) k).trans ?_
    simp only [ih]
    rfl

theorem lok9_3 : LoopOK Try.prog E9 Lam9 ((loopsOf (bodyOf Try.f9)).getD 0 .skip) := by
  refine ⟨fun σ => ∃ b_4 o_4 b_5 o_5 x_6, σ 4 = .ptr b_4 o_4 ∧ σ 5 = .ptr b_5 o_5 ∧ σ 6 = .flat (.int .i64 x_6), [4, 5, 6], lx9_3, fun σ m k => ?_⟩
  have e : Lam9.loop ((loopsOf (bodyOf Try.f9)).getD 0 .skip) σ m k = Lam9_3 σ m k := by kernel_rfl
  rw [e]
  constructor
  · intro h
    unfold Lam9_3 at h
    obtain ⟨b_4, o_4, h0, h⟩ := kptr_ok h
    obtain ⟨b_5, o_5, h1, h⟩ := kptr_ok h
    obtain ⟨x_6, h2, h⟩ := kI_ok h
    obtain ⟨N, h⟩ := h
    refine ⟨⟨b_4, o_4, b_5, o_5, x_6, h0, h1, h2⟩, N, ?_⟩
    have ev : [4, 5, 6].map σ = [(.ptr b_4 o_4), (.ptr b_5 o_5), (.flat (.int .i64 x_6))] := by simp only [List.map_cons, List.map_nil, h0, h1, h2]
    rw [ev, loop9_3]
    exact h
  · rintro ⟨⟨b_4, o_4, b_5, o_5, x_6, h0, h1, h2⟩, N, h⟩
    have ev : [4, 5, 6].map σ = [(.ptr b_4 o_4), (.ptr b_5 o_5), (.flat (.int .i64 x_6))] := by simp only [List.map_cons, List.map_nil, h0, h1, h2]
    rw [ev, loop9_3] at h
    unfold Lam9_3
    try simp only [h0, h1, h2, kI, kbool, kS, kptr, kaggN, kite, decide_true, eq_self]
    exact ⟨N, h⟩

theorem eqn9 (c_0 : Nat → AV) (x_1 : Int) (m : Mem) (k : KV) : bodyK Try.prog E9 Lam9 Try.f9 true [(.agg 7 c_0), (.flat (.int .i64 x_1))] m k = F9 c_0 x_1 m (fun c_1000 m' => k (.agg 6 c_1000) m') := by
  kernel_rfl

theorem fs9 (w0 : World) : FS Try.prog w0 9 G9 := by
  refine (fs_body (Γ := E9) (sound_env (l := [(10, G10), (18, G18), (19, G19), (20, G20)]) w0 (by
    intro p hp
    simp only [List.mem_cons, List.not_mem_nil, or_false] at hp
    rcases hp with rfl | rfl | rfl | rfl
    · exact fs10 w0
    · exact fs18 w0
    · exact fs19 w0
    · exact fs20 w0)) (by kernel_rfl) Try.func9 (Λ := Lam9) (c := (bodyOf Try.f9)) (by kernel_rfl) Try.call9 (by kernel_rfl) (LS_of (bodyOf Try.f9) 1 (by kernel_rfl) (by
    intro i hi
    match i, hi with
    | 0, _ => exact lok9_3
    | i + 1, hi => omega) 1 (by kernel_rfl) (by
    intro i hi
    match i, hi with
    | 0, _ => exact pok9_18102
    | i + 1, hi => omega)) true (np := 2) (Nat.le_of_ble_eq_true (by kernel_rfl))).imp fun args => ?_
  by_cases hl : args.length = 2
  rotate_left
  · exact .inr fun m k hk => by
      unfold G9 at hk
      split at hk
      · exact hl rfl
      · exact hk
  obtain ⟨a0, a1, rfl⟩ : ∃ a0 a1, args = [a0, a1] := len_list2 hl
  rcases kaggN_or 7 a0 with ⟨c_0, rfl⟩ | h
  rotate_left
  · exact .inr fun m k hk => h _ (by simpa only [G9, kI, kbool, kS, kptr, kaggN, kite, decide_true, eq_self] using hk)
  rcases kI_or .i64 a1 with ⟨x_1, rfl⟩ | h
  rotate_left
  · exact .inr fun m k hk => h _ (by simpa only [G9, kI, kbool, kS, kptr, kaggN, kite, decide_true, eq_self] using hk)
  exact .inl fun m k => propext ⟨fun h => ⟨rfl, by rw [eqn9]; simpa only [G9, kI, kbool, kS, kptr, kaggN, kite, decide_true, eq_self] using h⟩, fun h => by have h := h.2; rw [eqn9] at h; simpa only [G9, kI, kbool, kS, kptr, kaggN, kite, decide_true, eq_self] using h⟩

def E4 : Env := envOf [(9, G9), (10, G10)]

/-- pianola/pianolakeep.Plain -/
def F4 (c_0 : Nat → AV) (m : Mem) (k : (Nat → AV) → Mem → Prop) : Prop :=
  newK m ⟨7, c_0, 24, false⟩ fun b2 m1 => newK m1 ⟨6, Z6, 27, false⟩ fun b4 m3 => newK m3 ⟨37, upd (upd (upd (upd (upd (upd (upd (upd (upd (upd (upd (upd (upd (upd (upd (upd (upd (upd (upd (upd (upd (upd (upd (upd (upd (upd (upd (upd (upd (upd (upd (upd (upd (upd (upd (upd (upd (Z37) 0 (.flat (.int .i64 1))) 1 (.flat (.int .i64 2))) 2 (.flat (.int .i64 3))) 3 (.flat (.int .i64 4))) 4 (.flat (.int .i64 5))) 5 (.flat (.int .i64 6))) 6 (.flat (.int .i64 9))) 7 (.flat (.int .i64 10))) 8 (.flat (.int .i64 13))) 9 (.flat (.int .i64 14))) 10 (.flat (.int .i64 15))) 11 (.flat (.int .i64 16))) 12 (.flat (.int .i64 17))) 13 (.flat (.int .i64 18))) 14 (.flat (.int .i64 19))) 15 (.flat (.int .i64 20))) 16 (.flat (.int .i64 21))) 17 (.flat (.int .i64 23))) 18 (.flat (.int .i64 25))) 19 (.flat (.int .i64 26))) 20 (.flat (.int .i64 27))) 21 (.flat (.int .i64 28))) 22 (.flat (.int .i64 29))) 23 (.flat (.int .i64 30))) 24 (.flat (.int .i64 31))) 25 (.flat (.int .i64 47))) 26 (.flat (.int .i64 48))) 27 (.flat (.int .i64 49))) 28 (.flat (.int .i64 50))) 29 (.flat (.int .i64 51))) 30 (.flat (.int .i64 52))) 31 (.flat (.int .i64 53))) 32 (.flat (.int .i64 63))) 33 (.flat (.int .i64 64))) 34 (.flat (.int .i64 65))) 35 (.flat (.int .i64 76))) 36 (.flat (.int .i64 77)), 3, false⟩ fun b6 m5 => ∃ Fr7 : Nat → Prop, Fr7 b2 ∧ (ldG 7 m5 b2 0 fun c8 => Fr7 b2 ∧ (ldI .i64 m5 b2 0 fun x9 => F10 x9 0 1048576 m5 fun x10 m11 => KeepsIn Fr7 m5 m11 ∧ (kif (decide (0 ≤ x10.tmod 37) && decide (x10.tmod 37 < 37)) (Fr7 b6 ∧ (ldI .i64 m11 b6 (0 + (x10.tmod 37).toNat * 1) fun x12 => F9 c8 x12 m11 fun c13 m14 => KeepsIn Fr7 m11 m14 ∧ (stG 6 m14 b4 0 c13 fun m15 => ldG 6 m15 b4 0 fun c16 => (Keeps m m15 ∧ InDomG 6 m c16 ∧ k c16 m)))) False)))

def G4 (args : List AV) (m : Mem) (k : KV) : Prop := match args with
  | [a0] => kaggN 7 a0 fun c_0 => F4 c_0 m (fun c_1000 m' => k (.agg 6 c_1000) m')
  | _ => False

def Lam4 : LEnv := ⟨fun a σ m k => match firstReg a with
  | _ => bump False,
  fun id => match id with
  | 2 => true
  | _ => bump false,
  fun b => match keyC b with
  | _ => bump false,
  fun b σ m k => match keyC b with
  | _ => bump False⟩

theorem eqn4 (c_0 : Nat → AV) (m : Mem) (k : KV) : bodyK Try.prog E4 Lam4 Try.f4 true [(.agg 7 c_0)] m k = F4 c_0 m (fun c_1000 m' => k (.agg 6 c_1000) m') := by
  kernel_rfl

theorem fs4 (w0 : World) : FS Try.prog w0 4 G4 := by
  refine (fs_body (Γ := E4) (sound_env (l := [(9, G9), (10, G10)]) w0 (by
    intro p hp
    simp only [List.mem_cons, List.not_mem_nil, or_false] at hp
    rcases hp with rfl | rfl
    · exact fs9 w0
    · exact fs10 w0)) (by kernel_rfl) Try.func4 (Λ := Lam4) (c := (bodyOf Try.f4)) (by kernel_rfl) Try.call4 (by kernel_rfl) (LS_of (bodyOf Try.f4) 0 (by kernel_rfl) (fun i hi => absurd hi (Nat.not_lt_zero i)) 0 (by kernel_rfl) (fun i hi => absurd hi (Nat.not_lt_zero i))) true (np := 1) (Nat.le_of_ble_eq_true (by kernel_rfl))).imp fun args => ?_
  by_cases hl : args.length = 1
  rotate_left
  · exact .inr fun m k hk => by
      unfold G4 at hk
      split at hk
      · exact hl rfl
      · exact hk
  obtain ⟨a0, rfl⟩ : ∃ a0, args = [a0] := len_list1 hl
  rcases kaggN_or 7 a0 with ⟨c_0, rfl⟩ | h
  rotate_left
  · exact .inr fun m k hk => h _ (by simpa only [G4, kI, kbool, kS, kptr, kaggN, kite, decide_true, eq_self] using hk)
  exact .inl fun m k => propext ⟨fun h => ⟨rfl, by rw [eqn4]; simpa only [G4, kI, kbool, kS, kptr, kaggN, kite, decide_true, eq_self] using h⟩, fun h => by have h := h.2; rw [eqn4] at h; simpa only [G4, kI, kbool, kS, kptr, kaggN, kite, decide_true, eq_self] using h⟩

end Go.Proofs.Ytkgidjnaddjjbaa.Am
