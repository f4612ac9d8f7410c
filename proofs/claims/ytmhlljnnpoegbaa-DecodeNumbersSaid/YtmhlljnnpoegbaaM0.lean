/- What Go functions ask of what follows them, as plain functions over the abstract machine; the machine asks just that. Written by gen.py. -/
import Derived.Test.YtmhlljnnpoegbaaProg
import Derived.Test.YtmhlljnnpoegbaaAmL
namespace Go.Proofs.Ytmhlljnnpoegbaa.Am
set_option linter.unusedVariables false
set_option linter.unusedSimpArgs false
set_option maxRecDepth 100000

def Yb0 : ByteArray := ⟨#[116, 100, 104]⟩

def Yb1 : ByteArray := ⟨#[115, 116, 100]⟩

def Yb2 : ByteArray := ⟨#[115]⟩

def Yb3 : ByteArray := ⟨#[115, 100]⟩

def Yb4 : ByteArray := ⟨#[100]⟩

def Yb5 : ByteArray := ⟨#[115, 116]⟩

def Yb6 : ByteArray := ⟨#[115, 105]⟩

def Yb7 : ByteArray := ⟨#[116, 100]⟩

def Yb8 : ByteArray := ⟨#[106]⟩

def Yb9 : ByteArray := ⟨#[115, 116, 105]⟩

def Yb10 : ByteArray := ⟨#[116, 105]⟩

def Z6 : Nat → AV := lget [(.flat (.int .i64 0)), (.flat (.int .i64 0)), (.flat (.int .i64 0)), (.flat (.int .i64 0)), (.flat (.int .i64 0)), (.flat (.int .u32 0))]

def Z6b : Nat → AV := lget [(.flat (.int .u32 0)), (.flat (.int .u32 0)), (.flat (.int .u32 0)), (.flat (.int .u32 0)), (.flat (.int .u32 0)), (.flat (.int .u32 0))]

def Z140 : Nat → AV := lget [(.flat (.int .i64 0)), (.flat (.int .i64 0)), (.flat (.int .i64 0)), (.flat (.string ⟨#[]⟩)), (.flat (.int .i64 0)), (.flat (.int .i64 0)), (.flat (.int .i64 0)), (.flat (.string ⟨#[]⟩)), (.flat (.int .i64 0)), (.flat (.int .i64 0)), (.flat (.int .i64 0)), (.flat (.string ⟨#[]⟩)), (.flat (.int .i64 0)), (.flat (.int .i64 0)), (.flat (.int .i64 0)), (.flat (.string ⟨#[]⟩)), (.flat (.int .i64 0)), (.flat (.int .i64 0)), (.flat (.int .i64 0)), (.flat (.string ⟨#[]⟩)), (.flat (.int .i64 0)), (.flat (.int .i64 0)), (.flat (.int .i64 0)), (.flat (.string ⟨#[]⟩)), (.flat (.int .i64 0)), (.flat (.int .i64 0)), (.flat (.int .i64 0)), (.flat (.string ⟨#[]⟩)), (.flat (.int .i64 0)), (.flat (.int .i64 0)), (.flat (.int .i64 0)), (.flat (.string ⟨#[]⟩)), (.flat (.int .i64 0)), (.flat (.int .i64 0)), (.flat (.int .i64 0)), (.flat (.string ⟨#[]⟩)), (.flat (.int .i64 0)), (.flat (.int .i64 0)), (.flat (.int .i64 0)), (.flat (.string ⟨#[]⟩)), (.flat (.int .i64 0)), (.flat (.int .i64 0)), (.flat (.int .i64 0)), (.flat (.string ⟨#[]⟩)), (.flat (.int .i64 0)), (.flat (.int .i64 0)), (.flat (.int .i64 0)), (.flat (.string ⟨#[]⟩)), (.flat (.int .i64 0)), (.flat (.int .i64 0)), (.flat (.int .i64 0)), (.flat (.string ⟨#[]⟩)), (.flat (.int .i64 0)), (.flat (.int .i64 0)), (.flat (.int .i64 0)), (.flat (.string ⟨#[]⟩)), (.flat (.int .i64 0)), (.flat (.int .i64 0)), (.flat (.int .i64 0)), (.flat (.string ⟨#[]⟩)), (.flat (.int .i64 0)), (.flat (.int .i64 0)), (.flat (.int .i64 0)), (.flat (.string ⟨#[]⟩)), (.flat (.int .i64 0)), (.flat (.int .i64 0)), (.flat (.int .i64 0)), (.flat (.string ⟨#[]⟩)), (.flat (.int .i64 0)), (.flat (.int .i64 0)), (.flat (.int .i64 0)), (.flat (.string ⟨#[]⟩)), (.flat (.int .i64 0)), (.flat (.int .i64 0)), (.flat (.int .i64 0)), (.flat (.string ⟨#[]⟩)), (.flat (.int .i64 0)), (.flat (.int .i64 0)), (.flat (.int .i64 0)), (.flat (.string ⟨#[]⟩)), (.flat (.int .i64 0)), (.flat (.int .i64 0)), (.flat (.int .i64 0)), (.flat (.string ⟨#[]⟩)), (.flat (.int .i64 0)), (.flat (.int .i64 0)), (.flat (.int .i64 0)), (.flat (.string ⟨#[]⟩)), (.flat (.int .i64 0)), (.flat (.int .i64 0)), (.flat (.int .i64 0)), (.flat (.string ⟨#[]⟩)), (.flat (.int .i64 0)), (.flat (.int .i64 0)), (.flat (.int .i64 0)), (.flat (.string ⟨#[]⟩)), (.flat (.int .i64 0)), (.flat (.int .i64 0)), (.flat (.int .i64 0)), (.flat (.string ⟨#[]⟩)), (.flat (.int .i64 0)), (.flat (.int .i64 0)), (.flat (.int .i64 0)), (.flat (.string ⟨#[]⟩)), (.flat (.int .i64 0)), (.flat (.int .i64 0)), (.flat (.int .i64 0)), (.flat (.string ⟨#[]⟩)), (.flat (.int .i64 0)), (.flat (.int .i64 0)), (.flat (.int .i64 0)), (.flat (.string ⟨#[]⟩)), (.flat (.int .i64 0)), (.flat (.int .i64 0)), (.flat (.int .i64 0)), (.flat (.string ⟨#[]⟩)), (.flat (.int .i64 0)), (.flat (.int .i64 0)), (.flat (.int .i64 0)), (.flat (.string ⟨#[]⟩)), (.flat (.int .i64 0)), (.flat (.int .i64 0)), (.flat (.int .i64 0)), (.flat (.string ⟨#[]⟩)), (.flat (.int .i64 0)), (.flat (.int .i64 0)), (.flat (.int .i64 0)), (.flat (.string ⟨#[]⟩)), (.flat (.int .i64 0)), (.flat (.int .i64 0)), (.flat (.int .i64 0)), (.flat (.string ⟨#[]⟩)), (.flat (.int .i64 0)), (.flat (.int .i64 0)), (.flat (.int .i64 0)), (.flat (.string ⟨#[]⟩)), (.flat (.int .i64 0)), (.flat (.int .i64 0)), (.flat (.int .i64 0)), (.flat (.string ⟨#[]⟩))]

def Z60 : Nat → AV := lget [(.flat (.int .i64 0)), (.flat (.int .i64 0)), (.flat (.int .i64 0)), (.flat (.string ⟨#[]⟩)), (.flat (.int .i64 0)), (.flat (.int .i64 0)), (.flat (.int .i64 0)), (.flat (.string ⟨#[]⟩)), (.flat (.int .i64 0)), (.flat (.int .i64 0)), (.flat (.int .i64 0)), (.flat (.string ⟨#[]⟩)), (.flat (.int .i64 0)), (.flat (.int .i64 0)), (.flat (.int .i64 0)), (.flat (.string ⟨#[]⟩)), (.flat (.int .i64 0)), (.flat (.int .i64 0)), (.flat (.int .i64 0)), (.flat (.string ⟨#[]⟩)), (.flat (.int .i64 0)), (.flat (.int .i64 0)), (.flat (.int .i64 0)), (.flat (.string ⟨#[]⟩)), (.flat (.int .i64 0)), (.flat (.int .i64 0)), (.flat (.int .i64 0)), (.flat (.string ⟨#[]⟩)), (.flat (.int .i64 0)), (.flat (.int .i64 0)), (.flat (.int .i64 0)), (.flat (.string ⟨#[]⟩)), (.flat (.int .i64 0)), (.flat (.int .i64 0)), (.flat (.int .i64 0)), (.flat (.string ⟨#[]⟩)), (.flat (.int .i64 0)), (.flat (.int .i64 0)), (.flat (.int .i64 0)), (.flat (.string ⟨#[]⟩)), (.flat (.int .i64 0)), (.flat (.int .i64 0)), (.flat (.int .i64 0)), (.flat (.string ⟨#[]⟩)), (.flat (.int .i64 0)), (.flat (.int .i64 0)), (.flat (.int .i64 0)), (.flat (.string ⟨#[]⟩)), (.flat (.int .i64 0)), (.flat (.int .i64 0)), (.flat (.int .i64 0)), (.flat (.string ⟨#[]⟩)), (.flat (.int .i64 0)), (.flat (.int .i64 0)), (.flat (.int .i64 0)), (.flat (.string ⟨#[]⟩)), (.flat (.int .i64 0)), (.flat (.int .i64 0)), (.flat (.int .i64 0)), (.flat (.string ⟨#[]⟩))]

def Z108 : Nat → AV := lget [(.flat (.int .i64 0)), (.flat (.int .i64 0)), (.flat (.int .i64 0)), (.flat (.string ⟨#[]⟩)), (.flat (.int .i64 0)), (.flat (.int .i64 0)), (.flat (.int .i64 0)), (.flat (.string ⟨#[]⟩)), (.flat (.int .i64 0)), (.flat (.int .i64 0)), (.flat (.int .i64 0)), (.flat (.string ⟨#[]⟩)), (.flat (.int .i64 0)), (.flat (.int .i64 0)), (.flat (.int .i64 0)), (.flat (.string ⟨#[]⟩)), (.flat (.int .i64 0)), (.flat (.int .i64 0)), (.flat (.int .i64 0)), (.flat (.string ⟨#[]⟩)), (.flat (.int .i64 0)), (.flat (.int .i64 0)), (.flat (.int .i64 0)), (.flat (.string ⟨#[]⟩)), (.flat (.int .i64 0)), (.flat (.int .i64 0)), (.flat (.int .i64 0)), (.flat (.string ⟨#[]⟩)), (.flat (.int .i64 0)), (.flat (.int .i64 0)), (.flat (.int .i64 0)), (.flat (.string ⟨#[]⟩)), (.flat (.int .i64 0)), (.flat (.int .i64 0)), (.flat (.int .i64 0)), (.flat (.string ⟨#[]⟩)), (.flat (.int .i64 0)), (.flat (.int .i64 0)), (.flat (.int .i64 0)), (.flat (.string ⟨#[]⟩)), (.flat (.int .i64 0)), (.flat (.int .i64 0)), (.flat (.int .i64 0)), (.flat (.string ⟨#[]⟩)), (.flat (.int .i64 0)), (.flat (.int .i64 0)), (.flat (.int .i64 0)), (.flat (.string ⟨#[]⟩)), (.flat (.int .i64 0)), (.flat (.int .i64 0)), (.flat (.int .i64 0)), (.flat (.string ⟨#[]⟩)), (.flat (.int .i64 0)), (.flat (.int .i64 0)), (.flat (.int .i64 0)), (.flat (.string ⟨#[]⟩)), (.flat (.int .i64 0)), (.flat (.int .i64 0)), (.flat (.int .i64 0)), (.flat (.string ⟨#[]⟩)), (.flat (.int .i64 0)), (.flat (.int .i64 0)), (.flat (.int .i64 0)), (.flat (.string ⟨#[]⟩)), (.flat (.int .i64 0)), (.flat (.int .i64 0)), (.flat (.int .i64 0)), (.flat (.string ⟨#[]⟩)), (.flat (.int .i64 0)), (.flat (.int .i64 0)), (.flat (.int .i64 0)), (.flat (.string ⟨#[]⟩)), (.flat (.int .i64 0)), (.flat (.int .i64 0)), (.flat (.int .i64 0)), (.flat (.string ⟨#[]⟩)), (.flat (.int .i64 0)), (.flat (.int .i64 0)), (.flat (.int .i64 0)), (.flat (.string ⟨#[]⟩)), (.flat (.int .i64 0)), (.flat (.int .i64 0)), (.flat (.int .i64 0)), (.flat (.string ⟨#[]⟩)), (.flat (.int .i64 0)), (.flat (.int .i64 0)), (.flat (.int .i64 0)), (.flat (.string ⟨#[]⟩)), (.flat (.int .i64 0)), (.flat (.int .i64 0)), (.flat (.int .i64 0)), (.flat (.string ⟨#[]⟩)), (.flat (.int .i64 0)), (.flat (.int .i64 0)), (.flat (.int .i64 0)), (.flat (.string ⟨#[]⟩)), (.flat (.int .i64 0)), (.flat (.int .i64 0)), (.flat (.int .i64 0)), (.flat (.string ⟨#[]⟩)), (.flat (.int .i64 0)), (.flat (.int .i64 0)), (.flat (.int .i64 0)), (.flat (.string ⟨#[]⟩)), (.flat (.int .i64 0)), (.flat (.int .i64 0)), (.flat (.int .i64 0)), (.flat (.string ⟨#[]⟩))]

def Z37 : Nat → AV := lget [(.flat (.int .i64 0)), (.flat (.int .i64 0)), (.flat (.int .i64 0)), (.flat (.int .i64 0)), (.flat (.int .i64 0)), (.flat (.int .i64 0)), (.flat (.int .i64 0)), (.flat (.int .i64 0)), (.flat (.int .i64 0)), (.flat (.int .i64 0)), (.flat (.int .i64 0)), (.flat (.int .i64 0)), (.flat (.int .i64 0)), (.flat (.int .i64 0)), (.flat (.int .i64 0)), (.flat (.int .i64 0)), (.flat (.int .i64 0)), (.flat (.int .i64 0)), (.flat (.int .i64 0)), (.flat (.int .i64 0)), (.flat (.int .i64 0)), (.flat (.int .i64 0)), (.flat (.int .i64 0)), (.flat (.int .i64 0)), (.flat (.int .i64 0)), (.flat (.int .i64 0)), (.flat (.int .i64 0)), (.flat (.int .i64 0)), (.flat (.int .i64 0)), (.flat (.int .i64 0)), (.flat (.int .i64 0)), (.flat (.int .i64 0)), (.flat (.int .i64 0)), (.flat (.int .i64 0)), (.flat (.int .i64 0)), (.flat (.int .i64 0)), (.flat (.int .i64 0))]

def Z12 : Nat → AV := lget [(.flat (.int .i64 0)), (.flat (.int .i64 0)), (.flat (.int .i64 0)), (.flat (.int .i64 0)), (.flat (.int .i64 0)), (.flat (.int .i64 0)), (.flat (.int .i64 0)), (.flat (.int .i64 0)), (.flat (.int .i64 0)), (.flat (.int .i64 0)), (.flat (.int .i64 0)), (.flat (.int .i64 0))]

def Z8 : Nat → AV := lget [(.flat (.int .i64 0)), (.flat (.int .i64 0)), (.flat (.int .i64 0)), (.flat (.int .i64 0)), (.flat (.int .i64 0)), (.flat (.int .i64 0)), (.flat (.int .i64 0)), (.flat (.int .i64 0))]

def Z10 : Nat → AV := lget [(.flat (.int .i64 0)), (.flat (.int .i64 0)), (.flat (.int .i64 0)), (.flat (.int .i64 0)), (.flat (.int .i64 0)), (.flat (.int .i64 0)), (.flat (.int .i64 0)), (.flat (.int .i64 0)), (.flat (.int .i64 0)), (.flat (.int .i64 0))]

def K27 : List (Nat × LK) := [(0, (.i .i64)), (1, (.i .i64)), (2, (.i .i64)), (3, (.i .i64)), (4, (.i .i64)), (5, (.i .u32))]

/-- pianola/decode.put -/
def F24 (c_0 : Nat → AV) (m : Mem) (k : Int → Mem → Prop) : Prop :=
  newK m ⟨6, c_0, 27, false⟩ fun b2 m1 => ldI .i64 m1 b2 1 fun x3 => ldI .i64 m1 b2 2 fun x4 => ldI .i64 m1 b2 3 fun x5 => ldI .i64 m1 b2 4 fun x6 => ldI .u32 m1 b2 5 fun x7 => (Keeps m m1 ∧ k (bits .or .u32 (bits .or .u32 (bits .or .u32 (bits .or .u32 (IntKind.wrap .u32 ((IntKind.wrap .u32 x3) * 2097152)) (IntKind.wrap .u32 ((IntKind.wrap .u32 x4) * 65536))) (IntKind.wrap .u32 ((IntKind.wrap .u32 x5) * 2048))) (IntKind.wrap .u32 ((IntKind.wrap .u32 x6) * 64))) x7) m)

def G24 (args : List AV) (m : Mem) (k : KV) : Prop := match args with
  | [a0] => kaggN 6 a0 fun c_0 => F24 c_0 m (fun x_1000 m' => k (.flat (.int .u32 x_1000)) m')
  | _ => False

def E24 : Env := envOf []

def Lam24 : LEnv := ⟨fun a σ m k => match firstReg a with
  | _ => bump False,
  fun id => match id with
  | _ => bump false,
  fun b => match keyC b with
  | _ => bump false,
  fun b σ m k => match keyC b with
  | _ => bump False⟩

theorem eqn24 (c_0 : Nat → AV) (m : Mem) (k : KV) : bodyK Try.prog E24 Lam24 Try.f24 true [(.agg 6 c_0)] m k = F24 c_0 m (fun x_1000 m' => k (.flat (.int .u32 x_1000)) m') := by
  kernel_rfl

theorem fs24 (w0 : World) : FS Try.prog w0 24 G24 := by
  refine (fs_body (Γ := E24) (sound_env (l := []) w0 (by
    intro p hp
    cases hp)) (by kernel_rfl) Try.func24 (Λ := Lam24) (c := (bodyOf Try.f24)) (by kernel_rfl) Try.call24 (by kernel_rfl) (LS_of (bodyOf Try.f24) 0 (by kernel_rfl) (fun i hi => absurd hi (Nat.not_lt_zero i)) 0 (by kernel_rfl) (fun i hi => absurd hi (Nat.not_lt_zero i))) true (np := 1) (Nat.le_of_ble_eq_true (by kernel_rfl))).imp fun args => ?_
  by_cases hl : args.length = 1
  rotate_left
  · exact .inr fun m k hk => by
      unfold G24 at hk
      split at hk
      · exact hl rfl
      · exact hk
  obtain ⟨a0, rfl⟩ : ∃ a0, args = [a0] := len_list1 hl
  rcases kaggN_or 6 a0 with ⟨c_0, rfl⟩ | h
  rotate_left
  · exact .inr fun m k hk => h _ (by simpa only [G24, kI, kbool, kS, kptr, kaggN, kite, decide_true, eq_self] using hk)
  exact .inl fun m k => propext ⟨fun h => ⟨rfl, by rw [eqn24]; simpa only [G24, kI, kbool, kS, kptr, kaggN, kite, decide_true, eq_self] using h⟩, fun h => by have h := h.2; rw [eqn24] at h; simpa only [G24, kI, kbool, kS, kptr, kaggN, kite, decide_true, eq_self] using h⟩

def P34_18004 (x_0 : Int) (x_103 : Bool) (m : Mem) (kr : Int → Mem → Prop) (kn : Mem → Prop) : Prop :=
  kif x_103 (kr 19 m) (kif (x_0 == 53) (kr 18 m) (kif (x_0 == 54) (kr 6 m) (kif (x_0 == 55) (kr 6 m) (kn  m))))

def P34_16004 (x_0 : Int) (x_96 : Bool) (m : Mem) (kr : Int → Mem → Prop) (kn : Mem → Prop) : Prop :=
  kif x_96 (kr 32 m) (kif (x_0 == 42) (P34_18004 x_0 true m (fun x1 m2 => kr x1 m2) (fun m3 => kn  m3)) (kif (x_0 == 43) (P34_18004 x_0 true m (fun x4 m5 => kr x4 m5) (fun m6 => kn  m6)) (kif (decide (x_0 ≥ 46)) (kif (decide (x_0 ≤ 52)) (P34_18004 x_0 true m (fun x7 m8 => kr x7 m8) (fun m9 => kn  m9)) (kif (decide (x_0 ≥ 66)) (P34_18004 x_0 (decide (x_0 ≤ 75)) m (fun x10 m11 => kr x10 m11) (fun m12 => kn  m12)) (P34_18004 x_0 false m (fun x13 m14 => kr x13 m14) (fun m15 => kn  m15)))) (kif (decide (x_0 ≥ 66)) (P34_18004 x_0 (decide (x_0 ≤ 75)) m (fun x16 m17 => kr x16 m17) (fun m18 => kn  m18)) (P34_18004 x_0 false m (fun x19 m20 => kr x19 m20) (fun m21 => kn  m21))))))

def P34_14004 (x_0 : Int) (x_81 : Bool) (m : Mem) (kr : Int → Mem → Prop) (kn : Mem → Prop) : Prop :=
  kif x_81 (kr 17 m) (kif (x_0 == 40) (P34_16004 x_0 true m (fun x22 m23 => kr x22 m23) (fun m24 => kn  m24)) (P34_16004 x_0 (x_0 == 41) m (fun x25 m26 => kr x25 m26) (fun m27 => kn  m27)))

def P34_12004 (x_0 : Int) (x_66 : Bool) (m : Mem) (kr : Int → Mem → Prop) (kn : Mem → Prop) : Prop :=
  kif x_66 (kr 3 m) (kif (decide (x_0 ≥ 36)) (kif (decide (x_0 ≤ 39)) (P34_14004 x_0 true m (fun x28 m29 => kr x28 m29) (fun m30 => kn  m30)) (kif (x_0 == 44) (P34_14004 x_0 true m (fun x31 m32 => kr x31 m32) (fun m33 => kn  m33)) (P34_14004 x_0 (x_0 == 45) m (fun x34 m35 => kr x34 m35) (fun m36 => kn  m36)))) (kif (x_0 == 44) (P34_14004 x_0 true m (fun x37 m38 => kr x37 m38) (fun m39 => kn  m39)) (P34_14004 x_0 (x_0 == 45) m (fun x40 m41 => kr x40 m41) (fun m42 => kn  m42))))

def P34_10004 (x_0 : Int) (x_59 : Bool) (m : Mem) (kr : Int → Mem → Prop) (kn : Mem → Prop) : Prop :=
  kif x_59 (kr 4 m) (kif (decide (x_0 ≥ 18)) (kif (decide (x_0 ≤ 21)) (P34_12004 x_0 true m (fun x43 m44 => kr x43 m44) (fun m45 => kn  m45)) (kif (decide (x_0 ≥ 32)) (P34_12004 x_0 (decide (x_0 ≤ 35)) m (fun x46 m47 => kr x46 m47) (fun m48 => kn  m48)) (P34_12004 x_0 false m (fun x49 m50 => kr x49 m50) (fun m51 => kn  m51)))) (kif (decide (x_0 ≥ 32)) (P34_12004 x_0 (decide (x_0 ≤ 35)) m (fun x52 m53 => kr x52 m53) (fun m54 => kn  m54)) (P34_12004 x_0 false m (fun x55 m56 => kr x55 m56) (fun m57 => kn  m57))))

def P34_8004 (x_0 : Int) (x_48 : Bool) (m : Mem) (kr : Int → Mem → Prop) (kn : Mem → Prop) : Prop :=
  kif x_48 (kr 5 m) (kif (x_0 == 14) (P34_10004 x_0 true m (fun x58 m59 => kr x58 m59) (fun m60 => kn  m60)) (P34_10004 x_0 (x_0 == 16) m (fun x61 m62 => kr x61 m62) (fun m63 => kn  m63)))

def P34_6004 (x_0 : Int) (x_37 : Bool) (m : Mem) (kr : Int → Mem → Prop) (kn : Mem → Prop) : Prop :=
  kif x_37 (kr 1 m) (kif (x_0 == 8) (P34_8004 x_0 true m (fun x64 m65 => kr x64 m65) (fun m66 => kn  m66)) (kif (x_0 == 64) (P34_8004 x_0 true m (fun x67 m68 => kr x67 m68) (fun m69 => kn  m69)) (P34_8004 x_0 (x_0 == 65) m (fun x70 m71 => kr x70 m71) (fun m72 => kn  m72))))

def P34_4004 (x_0 : Int) (x_10 : Bool) (m : Mem) (kr : Int → Mem → Prop) (kn : Mem → Prop) : Prop :=
  kif x_10 (kr 7 m) (kif (x_0 == 7) (P34_6004 x_0 true m (fun x73 m74 => kr x73 m74) (fun m75 => kn  m75)) (kif (x_0 == 15) (P34_6004 x_0 true m (fun x76 m77 => kr x76 m77) (fun m78 => kn  m78)) (P34_6004 x_0 (x_0 == 17) m (fun x79 m80 => kr x79 m80) (fun m81 => kn  m81))))

def P34_2004 (x_0 : Int) (x_3 : Bool) (m : Mem) (kr : Int → Mem → Prop) (kn : Mem → Prop) : Prop :=
  kif x_3 (kr 14 m) (kif (decide (x_0 ≥ 4)) (kif (decide (x_0 ≤ 6)) (P34_4004 x_0 true m (fun x82 m83 => kr x82 m83) (fun m84 => kn  m84)) (kif (x_0 == 9) (P34_4004 x_0 true m (fun x85 m86 => kr x85 m86) (fun m87 => kn  m87)) (kif (x_0 == 10) (P34_4004 x_0 true m (fun x88 m89 => kr x88 m89) (fun m90 => kn  m90)) (kif (decide (x_0 ≥ 22)) (kif (decide (x_0 ≤ 31)) (P34_4004 x_0 true m (fun x91 m92 => kr x91 m92) (fun m93 => kn  m93)) (P34_4004 x_0 (x_0 == 63) m (fun x94 m95 => kr x94 m95) (fun m96 => kn  m96))) (P34_4004 x_0 (x_0 == 63) m (fun x97 m98 => kr x97 m98) (fun m99 => kn  m99)))))) (kif (x_0 == 9) (P34_4004 x_0 true m (fun x100 m101 => kr x100 m101) (fun m102 => kn  m102)) (kif (x_0 == 10) (P34_4004 x_0 true m (fun x103 m104 => kr x103 m104) (fun m105 => kn  m105)) (kif (decide (x_0 ≥ 22)) (kif (decide (x_0 ≤ 31)) (P34_4004 x_0 true m (fun x106 m107 => kr x106 m107) (fun m108 => kn  m108)) (P34_4004 x_0 (x_0 == 63) m (fun x109 m110 => kr x109 m110) (fun m111 => kn  m111))) (P34_4004 x_0 (x_0 == 63) m (fun x112 m113 => kr x112 m113) (fun m114 => kn  m114))))))

/-- pianola/decode.fields -/
def F34 (x_0 : Int) (m : Mem) (k : Int → Mem → Prop) : Prop :=
  kif (decide (x_0 ≥ 1)) (P34_2004 x_0 (decide (x_0 ≤ 3)) m (fun x115 m116 => (Keeps m m116 ∧ k x115 m)) (fun m117 => (Keeps m m117 ∧ k 0 m))) (P34_2004 x_0 false m (fun x118 m119 => (Keeps m m119 ∧ k x118 m)) (fun m120 => (Keeps m m120 ∧ k 0 m)))

def G34 (args : List AV) (m : Mem) (k : KV) : Prop := match args with
  | [a0] => kI .i64 a0 fun x_0 => F34 x_0 m (fun x_1000 m' => k (.flat (.int .i64 x_1000)) m')
  | _ => False

def E34 : Env := envOf []

def LamP34_2004 (σ : Nat → AV) (m : Mem) (k : KX) : Prop := kI .i64 (σ 0) fun x_0 => kbool (σ 3) fun x_3 => P34_2004 x_0 x_3 m (fun x_2' m' => k .ret (only [2] [(.flat (.int .i64 x_2'))]) m') (fun m' => k .normal (only [] []) m')

def LamP34_4004 (σ : Nat → AV) (m : Mem) (k : KX) : Prop := kI .i64 (σ 0) fun x_0 => kbool (σ 10) fun x_10 => P34_4004 x_0 x_10 m (fun x_2' m' => k .ret (only [2] [(.flat (.int .i64 x_2'))]) m') (fun m' => k .normal (only [] []) m')

def LamP34_6004 (σ : Nat → AV) (m : Mem) (k : KX) : Prop := kI .i64 (σ 0) fun x_0 => kbool (σ 37) fun x_37 => P34_6004 x_0 x_37 m (fun x_2' m' => k .ret (only [2] [(.flat (.int .i64 x_2'))]) m') (fun m' => k .normal (only [] []) m')

def LamP34_8004 (σ : Nat → AV) (m : Mem) (k : KX) : Prop := kI .i64 (σ 0) fun x_0 => kbool (σ 48) fun x_48 => P34_8004 x_0 x_48 m (fun x_2' m' => k .ret (only [2] [(.flat (.int .i64 x_2'))]) m') (fun m' => k .normal (only [] []) m')

def LamP34_10004 (σ : Nat → AV) (m : Mem) (k : KX) : Prop := kI .i64 (σ 0) fun x_0 => kbool (σ 59) fun x_59 => P34_10004 x_0 x_59 m (fun x_2' m' => k .ret (only [2] [(.flat (.int .i64 x_2'))]) m') (fun m' => k .normal (only [] []) m')

def LamP34_12004 (σ : Nat → AV) (m : Mem) (k : KX) : Prop := kI .i64 (σ 0) fun x_0 => kbool (σ 66) fun x_66 => P34_12004 x_0 x_66 m (fun x_2' m' => k .ret (only [2] [(.flat (.int .i64 x_2'))]) m') (fun m' => k .normal (only [] []) m')

def LamP34_14004 (σ : Nat → AV) (m : Mem) (k : KX) : Prop := kI .i64 (σ 0) fun x_0 => kbool (σ 81) fun x_81 => P34_14004 x_0 x_81 m (fun x_2' m' => k .ret (only [2] [(.flat (.int .i64 x_2'))]) m') (fun m' => k .normal (only [] []) m')

def LamP34_16004 (σ : Nat → AV) (m : Mem) (k : KX) : Prop := kI .i64 (σ 0) fun x_0 => kbool (σ 96) fun x_96 => P34_16004 x_0 x_96 m (fun x_2' m' => k .ret (only [2] [(.flat (.int .i64 x_2'))]) m') (fun m' => k .normal (only [] []) m')

def LamP34_18004 (σ : Nat → AV) (m : Mem) (k : KX) : Prop := kI .i64 (σ 0) fun x_0 => kbool (σ 103) fun x_103 => P34_18004 x_0 x_103 m (fun x_2' m' => k .ret (only [2] [(.flat (.int .i64 x_2'))]) m') (fun m' => k .normal (only [] []) m')

def Lam34 : LEnv := ⟨fun a σ m k => match firstReg a with
  | _ => bump False,
  fun id => match id with
  | _ => bump false,
  fun b => match keyC b with
  | some 2004 => true
  | some 4004 => true
  | some 6004 => true
  | some 8004 => true
  | some 10004 => true
  | some 12004 => true
  | some 14004 => true
  | some 16004 => true
  | some 18004 => true
  | _ => bump false,
  fun b σ m k => match keyC b with
  | some 2004 => LamP34_2004 σ m k
  | some 4004 => LamP34_4004 σ m k
  | some 6004 => LamP34_6004 σ m k
  | some 8004 => LamP34_8004 σ m k
  | some 10004 => LamP34_10004 σ m k
  | some 12004 => LamP34_12004 σ m k
  | some 14004 => LamP34_14004 σ m k
  | some 16004 => LamP34_16004 σ m k
  | some 18004 => LamP34_18004 σ m k
  | _ => bump False⟩

def lxp34_18004 : Ex → List Nat := fun e => match e with
  | .ret => [2]
  | .normal => []
  | _ => []

theorem pc34_18004 (x_0 : Int) (x_103 : Bool) (m : Mem) (k : KX) : once Try.prog E34 Lam34 [0, 103] lxp34_18004 (((secsOf (bodyOf Try.f34)).filter Lam34.cut).getD 8 .skip) [(.flat (.int .i64 x_0)), (.flat (.bool x_103))] m k = P34_18004 x_0 x_103 m (fun x_2' m' => k .ret (only [2] [(.flat (.int .i64 x_2'))]) m') (fun m' => k .normal (only [] []) m') := by
  kernel_rfl

theorem pok34_18004 : PieceOK Try.prog E34 Lam34 (((secsOf (bodyOf Try.f34)).filter Lam34.cut).getD 8 .skip) := by
  refine ⟨fun σ => ∃ x_0 x_103, σ 0 = .flat (.int .i64 x_0) ∧ σ 103 = .flat (.bool x_103), [0, 103], lxp34_18004, fun σ m k => ?_⟩
  have e : Lam34.piece (((secsOf (bodyOf Try.f34)).filter Lam34.cut).getD 8 .skip) σ m k = LamP34_18004 σ m k := by kernel_rfl
  rw [e]
  constructor
  · intro h
    unfold LamP34_18004 at h
    obtain ⟨x_0, h0, h⟩ := kI_ok h
    obtain ⟨x_103, h1, h⟩ := kbool_ok h
    refine ⟨⟨x_0, x_103, h0, h1⟩, ?_⟩
    have ev : [0, 103].map σ = [(.flat (.int .i64 x_0)), (.flat (.bool x_103))] := by simp only [List.map_cons, List.map_nil, h0, h1]
    rw [ev, pc34_18004]
    exact h
  · rintro ⟨⟨x_0, x_103, h0, h1⟩, h⟩
    have ev : [0, 103].map σ = [(.flat (.int .i64 x_0)), (.flat (.bool x_103))] := by simp only [List.map_cons, List.map_nil, h0, h1]
    rw [ev, pc34_18004] at h
    unfold LamP34_18004
    try simp only [h0, h1, kI, kbool, kS, kptr, kaggN, kite, decide_true, eq_self]
    exact h

def lxp34_16004 : Ex → List Nat := fun e => match e with
  | .ret => [2]
  | .normal => []
  | _ => []

theorem pc34_16004 (x_0 : Int) (x_96 : Bool) (m : Mem) (k : KX) : once Try.prog E34 Lam34 [0, 96] lxp34_16004 (((secsOf (bodyOf Try.f34)).filter Lam34.cut).getD 7 .skip) [(.flat (.int .i64 x_0)), (.flat (.bool x_96))] m k = P34_16004 x_0 x_96 m (fun x_2' m' => k .ret (only [2] [(.flat (.int .i64 x_2'))]) m') (fun m' => k .normal (only [] []) m') := by
  kernel_rfl

theorem pok34_16004 : PieceOK Try.prog E34 Lam34 (((secsOf (bodyOf Try.f34)).filter Lam34.cut).getD 7 .skip) := by
  refine ⟨fun σ => ∃ x_0 x_96, σ 0 = .flat (.int .i64 x_0) ∧ σ 96 = .flat (.bool x_96), [0, 96], lxp34_16004, fun σ m k => ?_⟩
  have e : Lam34.piece (((secsOf (bodyOf Try.f34)).filter Lam34.cut).getD 7 .skip) σ m k = LamP34_16004 σ m k := by kernel_rfl
  rw [e]
  constructor
  · intro h
    unfold LamP34_16004 at h
    obtain ⟨x_0, h0, h⟩ := kI_ok h
    obtain ⟨x_96, h1, h⟩ := kbool_ok h
    refine ⟨⟨x_0, x_96, h0, h1⟩, ?_⟩
    have ev : [0, 96].map σ = [(.flat (.int .i64 x_0)), (.flat (.bool x_96))] := by simp only [List.map_cons, List.map_nil, h0, h1]
    rw [ev, pc34_16004]
    exact h
  · rintro ⟨⟨x_0, x_96, h0, h1⟩, h⟩
    have ev : [0, 96].map σ = [(.flat (.int .i64 x_0)), (.flat (.bool x_96))] := by simp only [List.map_cons, List.map_nil, h0, h1]
    rw [ev, pc34_16004] at h
    unfold LamP34_16004
    try simp only [h0, h1, kI, kbool, kS, kptr, kaggN, kite, decide_true, eq_self]
    exact h

def lxp34_14004 : Ex → List Nat := fun e => match e with
  | .ret => [2]
  | .normal => []
  | _ => []

theorem pc34_14004 (x_0 : Int) (x_81 : Bool) (m : Mem) (k : KX) : once Try.prog E34 Lam34 [0, 81] lxp34_14004 (((secsOf (bodyOf Try.f34)).filter Lam34.cut).getD 6 .skip) [(.flat (.int .i64 x_0)), (.flat (.bool x_81))] m k = P34_14004 x_0 x_81 m (fun x_2' m' => k .ret (only [2] [(.flat (.int .i64 x_2'))]) m') (fun m' => k .normal (only [] []) m') := by
  kernel_rfl

theorem pok34_14004 : PieceOK Try.prog E34 Lam34 (((secsOf (bodyOf Try.f34)).filter Lam34.cut).getD 6 .skip) := by
  refine ⟨fun σ => ∃ x_0 x_81, σ 0 = .flat (.int .i64 x_0) ∧ σ 81 = .flat (.bool x_81), [0, 81], lxp34_14004, fun σ m k => ?_⟩
  have e : Lam34.piece (((secsOf (bodyOf Try.f34)).filter Lam34.cut).getD 6 .skip) σ m k = LamP34_14004 σ m k := by kernel_rfl
  rw [e]
  constructor
  · intro h
    unfold LamP34_14004 at h
    obtain ⟨x_0, h0, h⟩ := kI_ok h
    obtain ⟨x_81, h1, h⟩ := kbool_ok h
    refine ⟨⟨x_0, x_81, h0, h1⟩, ?_⟩
    have ev : [0, 81].map σ = [(.flat (.int .i64 x_0)), (.flat (.bool x_81))] := by simp only [List.map_cons, List.map_nil, h0, h1]
    rw [ev, pc34_14004]
    exact h
  · rintro ⟨⟨x_0, x_81, h0, h1⟩, h⟩
    have ev : [0, 81].map σ = [(.flat (.int .i64 x_0)), (.flat (.bool x_81))] := by simp only [List.map_cons, List.map_nil, h0, h1]
    rw [ev, pc34_14004] at h
    unfold LamP34_14004
    try simp only [h0, h1, kI, kbool, kS, kptr, kaggN, kite, decide_true, eq_self]
    exact h

def lxp34_12004 : Ex → List Nat := fun e => match e with
  | .ret => [2]
  | .normal => []
  | _ => []

theorem pc34_12004 (x_0 : Int) (x_66 : Bool) (m : Mem) (k : KX) : once Try.prog E34 Lam34 [0, 66] lxp34_12004 (((secsOf (bodyOf Try.f34)).filter Lam34.cut).getD 5 .skip) [(.flat (.int .i64 x_0)), (.flat (.bool x_66))] m k = P34_12004 x_0 x_66 m (fun x_2' m' => k .ret (only [2] [(.flat (.int .i64 x_2'))]) m') (fun m' => k .normal (only [] []) m') := by
  kernel_rfl

theorem pok34_12004 : PieceOK Try.prog E34 Lam34 (((secsOf (bodyOf Try.f34)).filter Lam34.cut).getD 5 .skip) := by
  refine ⟨fun σ => ∃ x_0 x_66, σ 0 = .flat (.int .i64 x_0) ∧ σ 66 = .flat (.bool x_66), [0, 66], lxp34_12004, fun σ m k => ?_⟩
  have e : Lam34.piece (((secsOf (bodyOf Try.f34)).filter Lam34.cut).getD 5 .skip) σ m k = LamP34_12004 σ m k := by kernel_rfl
  rw [e]
  constructor
  · intro h
    unfold LamP34_12004 at h
    obtain ⟨x_0, h0, h⟩ := kI_ok h
    obtain ⟨x_66, h1, h⟩ := kbool_ok h
    refine ⟨⟨x_0, x_66, h0, h1⟩, ?_⟩
    have ev : [0, 66].map σ = [(.flat (.int .i64 x_0)), (.flat (.bool x_66))] := by simp only [List.map_cons, List.map_nil, h0, h1]
    rw [ev, pc34_12004]
    exact h
  · rintro ⟨⟨x_0, x_66, h0, h1⟩, h⟩
    have ev : [0, 66].map σ = [(.flat (.int .i64 x_0)), (.flat (.bool x_66))] := by simp only [List.map_cons, List.map_nil, h0, h1]
    rw [ev, pc34_12004] at h
    unfold LamP34_12004
    try simp only [h0, h1, kI, kbool, kS, kptr, kaggN, kite, decide_true, eq_self]
    exact h

def lxp34_10004 : Ex → List Nat := fun e => match e with
  | .ret => [2]
  | .normal => []
  | _ => []

theorem pc34_10004 (x_0 : Int) (x_59 : Bool) (m : Mem) (k : KX) : once Try.prog E34 Lam34 [0, 59] lxp34_10004 (((secsOf (bodyOf Try.f34)).filter Lam34.cut).getD 4 .skip) [(.flat (.int .i64 x_0)), (.flat (.bool x_59))] m k = P34_10004 x_0 x_59 m (fun x_2' m' => k .ret (only [2] [(.flat (.int .i64 x_2'))]) m') (fun m' => k .normal (only [] []) m') := by
  kernel_rfl

theorem pok34_10004 : PieceOK Try.prog E34 Lam34 (((secsOf (bodyOf Try.f34)).filter Lam34.cut).getD 4 .skip) := by
  refine ⟨fun σ => ∃ x_0 x_59, σ 0 = .flat (.int .i64 x_0) ∧ σ 59 = .flat (.bool x_59), [0, 59], lxp34_10004, fun σ m k => ?_⟩
  have e : Lam34.piece (((secsOf (bodyOf Try.f34)).filter Lam34.cut).getD 4 .skip) σ m k = LamP34_10004 σ m k := by kernel_rfl
  rw [e]
  constructor
  · intro h
    unfold LamP34_10004 at h
    obtain ⟨x_0, h0, h⟩ := kI_ok h
    obtain ⟨x_59, h1, h⟩ := kbool_ok h
    refine ⟨⟨x_0, x_59, h0, h1⟩, ?_⟩
    have ev : [0, 59].map σ = [(.flat (.int .i64 x_0)), (.flat (.bool x_59))] := by simp only [List.map_cons, List.map_nil, h0, h1]
    rw [ev, pc34_10004]
    exact h
  · rintro ⟨⟨x_0, x_59, h0, h1⟩, h⟩
    have ev : [0, 59].map σ = [(.flat (.int .i64 x_0)), (.flat (.bool x_59))] := by simp only [List.map_cons, List.map_nil, h0, h1]
    rw [ev, pc34_10004] at h
    unfold LamP34_10004
    try simp only [h0, h1, kI, kbool, kS, kptr, kaggN, kite, decide_true, eq_self]
    exact h

def lxp34_8004 : Ex → List Nat := fun e => match e with
  | .ret => [2]
  | .normal => []
  | _ => []

theorem pc34_8004 (x_0 : Int) (x_48 : Bool) (m : Mem) (k : KX) : once Try.prog E34 Lam34 [0, 48] lxp34_8004 (((secsOf (bodyOf Try.f34)).filter Lam34.cut).getD 3 .skip) [(.flat (.int .i64 x_0)), (.flat (.bool x_48))] m k = P34_8004 x_0 x_48 m (fun x_2' m' => k .ret (only [2] [(.flat (.int .i64 x_2'))]) m') (fun m' => k .normal (only [] []) m') := by
  kernel_rfl

theorem pok34_8004 : PieceOK Try.prog E34 Lam34 (((secsOf (bodyOf Try.f34)).filter Lam34.cut).getD 3 .skip) := by
  refine ⟨fun σ => ∃ x_0 x_48, σ 0 = .flat (.int .i64 x_0) ∧ σ 48 = .flat (.bool x_48), [0, 48], lxp34_8004, fun σ m k => ?_⟩
  have e : Lam34.piece (((secsOf (bodyOf Try.f34)).filter Lam34.cut).getD 3 .skip) σ m k = LamP34_8004 σ m k := by kernel_rfl
  rw [e]
  constructor
  · intro h
    unfold LamP34_8004 at h
    obtain ⟨x_0, h0, h⟩ := kI_ok h
    obtain ⟨x_48, h1, h⟩ := kbool_ok h
    refine ⟨⟨x_0, x_48, h0, h1⟩, ?_⟩
    have ev : [0, 48].map σ = [(.flat (.int .i64 x_0)), (.flat (.bool x_48))] := by simp only [List.map_cons, List.map_nil, h0, h1]
    rw [ev, pc34_8004]
    exact h
  · rintro ⟨⟨x_0, x_48, h0, h1⟩, h⟩
    have ev : [0, 48].map σ = [(.flat (.int .i64 x_0)), (.flat (.bool x_48))] := by simp only [List.map_cons, List.map_nil, h0, h1]
    rw [ev, pc34_8004] at h
    unfold LamP34_8004
    try simp only [h0, h1, kI, kbool, kS, kptr, kaggN, kite, decide_true, eq_self]
    exact h

def lxp34_6004 : Ex → List Nat := fun e => match e with
  | .ret => [2]
  | .normal => []
  | _ => []

theorem pc34_6004 (x_0 : Int) (x_37 : Bool) (m : Mem) (k : KX) : once Try.prog E34 Lam34 [0, 37] lxp34_6004 (((secsOf (bodyOf Try.f34)).filter Lam34.cut).getD 2 .skip) [(.flat (.int .i64 x_0)), (.flat (.bool x_37))] m k = P34_6004 x_0 x_37 m (fun x_2' m' => k .ret (only [2] [(.flat (.int .i64 x_2'))]) m') (fun m' => k .normal (only [] []) m') := by
  kernel_rfl

theorem pok34_6004 : PieceOK Try.prog E34 Lam34 (((secsOf (bodyOf Try.f34)).filter Lam34.cut).getD 2 .skip) := by
  refine ⟨fun σ => ∃ x_0 x_37, σ 0 = .flat (.int .i64 x_0) ∧ σ 37 = .flat (.bool x_37), [0, 37], lxp34_6004, fun σ m k => ?_⟩
  have e : Lam34.piece (((secsOf (bodyOf Try.f34)).filter Lam34.cut).getD 2 .skip) σ m k = LamP34_6004 σ m k := by kernel_rfl
  rw [e]
  constructor
  · intro h
    unfold LamP34_6004 at h
    obtain ⟨x_0, h0, h⟩ := kI_ok h
    obtain ⟨x_37, h1, h⟩ := kbool_ok h
    refine ⟨⟨x_0, x_37, h0, h1⟩, ?_⟩
    have ev : [0, 37].map σ = [(.flat (.int .i64 x_0)), (.flat (.bool x_37))] := by simp only [List.map_cons, List.map_nil, h0, h1]
    rw [ev, pc34_6004]
    exact h
  · rintro ⟨⟨x_0, x_37, h0, h1⟩, h⟩
    have ev : [0, 37].map σ = [(.flat (.int .i64 x_0)), (.flat (.bool x_37))] := by simp only [List.map_cons, List.map_nil, h0, h1]
    rw [ev, pc34_6004] at h
    unfold LamP34_6004
    try simp only [h0, h1, kI, kbool, kS, kptr, kaggN, kite, decide_true, eq_self]
    exact h

def lxp34_4004 : Ex → List Nat := fun e => match e with
  | .ret => [2]
  | .normal => []
  | _ => []

theorem pc34_4004 (x_0 : Int) (x_10 : Bool) (m : Mem) (k : KX) : once Try.prog E34 Lam34 [0, 10] lxp34_4004 (((secsOf (bodyOf Try.f34)).filter Lam34.cut).getD 1 .skip) [(.flat (.int .i64 x_0)), (.flat (.bool x_10))] m k = P34_4004 x_0 x_10 m (fun x_2' m' => k .ret (only [2] [(.flat (.int .i64 x_2'))]) m') (fun m' => k .normal (only [] []) m') := by
  kernel_rfl

theorem pok34_4004 : PieceOK Try.prog E34 Lam34 (((secsOf (bodyOf Try.f34)).filter Lam34.cut).getD 1 .skip) := by
  refine ⟨fun σ => ∃ x_0 x_10, σ 0 = .flat (.int .i64 x_0) ∧ σ 10 = .flat (.bool x_10), [0, 10], lxp34_4004, fun σ m k => ?_⟩
  have e : Lam34.piece (((secsOf (bodyOf Try.f34)).filter Lam34.cut).getD 1 .skip) σ m k = LamP34_4004 σ m k := by kernel_rfl
  rw [e]
  constructor
  · intro h
    unfold LamP34_4004 at h
    obtain ⟨x_0, h0, h⟩ := kI_ok h
    obtain ⟨x_10, h1, h⟩ := kbool_ok h
    refine ⟨⟨x_0, x_10, h0, h1⟩, ?_⟩
    have ev : [0, 10].map σ = [(.flat (.int .i64 x_0)), (.flat (.bool x_10))] := by simp only [List.map_cons, List.map_nil, h0, h1]
    rw [ev, pc34_4004]
    exact h
  · rintro ⟨⟨x_0, x_10, h0, h1⟩, h⟩
    have ev : [0, 10].map σ = [(.flat (.int .i64 x_0)), (.flat (.bool x_10))] := by simp only [List.map_cons, List.map_nil, h0, h1]
    rw [ev, pc34_4004] at h
    unfold LamP34_4004
    try simp only [h0, h1, kI, kbool, kS, kptr, kaggN, kite, decide_true, eq_self]
    exact h

def lxp34_2004 : Ex → List Nat := fun e => match e with
  | .ret => [2]
  | .normal => []
  | _ => []

theorem pc34_2004 (x_0 : Int) (x_3 : Bool) (m : Mem) (k : KX) : once Try.prog E34 Lam34 [0, 3] lxp34_2004 (((secsOf (bodyOf Try.f34)).filter Lam34.cut).getD 0 .skip) [(.flat (.int .i64 x_0)), (.flat (.bool x_3))] m k = P34_2004 x_0 x_3 m (fun x_2' m' => k .ret (only [2] [(.flat (.int .i64 x_2'))]) m') (fun m' => k .normal (only [] []) m') := by
  kernel_rfl

theorem pok34_2004 : PieceOK Try.prog E34 Lam34 (((secsOf (bodyOf Try.f34)).filter Lam34.cut).getD 0 .skip) := by
  refine ⟨fun σ => ∃ x_0 x_3, σ 0 = .flat (.int .i64 x_0) ∧ σ 3 = .flat (.bool x_3), [0, 3], lxp34_2004, fun σ m k => ?_⟩
  have e : Lam34.piece (((secsOf (bodyOf Try.f34)).filter Lam34.cut).getD 0 .skip) σ m k = LamP34_2004 σ m k := by kernel_rfl
  rw [e]
  constructor
  · intro h
    unfold LamP34_2004 at h
    obtain ⟨x_0, h0, h⟩ := kI_ok h
    obtain ⟨x_3, h1, h⟩ := kbool_ok h
    refine ⟨⟨x_0, x_3, h0, h1⟩, ?_⟩
    have ev : [0, 3].map σ = [(.flat (.int .i64 x_0)), (.flat (.bool x_3))] := by simp only [List.map_cons, List.map_nil, h0, h1]
    rw [ev, pc34_2004]
    exact h
  · rintro ⟨⟨x_0, x_3, h0, h1⟩, h⟩
    have ev : [0, 3].map σ = [(.flat (.int .i64 x_0)), (.flat (.bool x_3))] := by simp only [List.map_cons, List.map_nil, h0, h1]
    rw [ev, pc34_2004] at h
    unfold LamP34_2004
    try simp only [h0, h1, kI, kbool, kS, kptr, kaggN, kite, decide_true, eq_self]
    exact h

theorem eqn34 (x_0 : Int) (m : Mem) (k : KV) : bodyK Try.prog E34 Lam34 Try.f34 true [(.flat (.int .i64 x_0))] m k = F34 x_0 m (fun x_1000 m' => k (.flat (.int .i64 x_1000)) m') := by
  kernel_rfl

theorem fs34 (w0 : World) : FS Try.prog w0 34 G34 := by
  refine (fs_body (Γ := E34) (sound_env (l := []) w0 (by
    intro p hp
    cases hp)) (by kernel_rfl) Try.func34 (Λ := Lam34) (c := (bodyOf Try.f34)) (by kernel_rfl) Try.call34 (by kernel_rfl) (LS_of (bodyOf Try.f34) 0 (by kernel_rfl) (fun i hi => absurd hi (Nat.not_lt_zero i)) 9 (by kernel_rfl) (by
    intro i hi
    match i, hi with
    | 0, _ => exact pok34_2004
    | 1, _ => exact pok34_4004
    | 2, _ => exact pok34_6004
    | 3, _ => exact pok34_8004
    | 4, _ => exact pok34_10004
    | 5, _ => exact pok34_12004
    | 6, _ => exact pok34_14004
    | 7, _ => exact pok34_16004
    | 8, _ => exact pok34_18004
    | i + 9, hi => omega)) true (np := 1) (Nat.le_of_ble_eq_true (by kernel_rfl))).imp fun args => ?_
  by_cases hl : args.length = 1
  rotate_left
  · exact .inr fun m k hk => by
      unfold G34 at hk
      split at hk
      · exact hl rfl
      · exact hk
  obtain ⟨a0, rfl⟩ : ∃ a0, args = [a0] := len_list1 hl
  rcases kI_or .i64 a0 with ⟨x_0, rfl⟩ | h
  rotate_left
  · exact .inr fun m k hk => h _ (by simpa only [G34, kI, kbool, kS, kptr, kaggN, kite, decide_true, eq_self] using hk)
  exact .inl fun m k => propext ⟨fun h => ⟨rfl, by rw [eqn34]; simpa only [G34, kI, kbool, kS, kptr, kaggN, kite, decide_true, eq_self] using h⟩, fun h => by have h := h.2; rw [eqn34] at h; simpa only [G34, kI, kbool, kS, kptr, kaggN, kite, decide_true, eq_self] using h⟩

def P25_11105 (x_1 : Int) (b_4 o_4 : Nat) (b_5 o_5 : Nat) (x_6 : Int) (m : Mem) (kr : Mem → Prop) : Prop :=
  kif ((bits .and .i64 x_6 16) != 0) (stC m b_5 (o_5 + 5) (.flat (.int .u32 (bits .and .u32 x_1 65535))) fun m12 => ldG 6 m12 b_5 o_5 fun c14 => stG 6 m12 b_4 o_4 c14 fun m15 => kr  m15) (kif ((bits .and .i64 x_6 32) != 0) (stC m b_5 (o_5 + 5) (.flat (.int .u32 (bits .and .u32 x_1 67108863))) fun m13 => ldG 6 m13 b_5 o_5 fun c16 => stG 6 m13 b_4 o_4 c16 fun m17 => kr  m17) (ldG 6 m b_5 o_5 fun c18 => stG 6 m b_4 o_4 c18 fun m19 => kr  m19))

def P25_9103 (x_1 : Int) (b_4 o_4 : Nat) (b_5 o_5 : Nat) (x_6 : Int) (m : Mem) (kr : Mem → Prop) : Prop :=
  kif ((bits .and .i64 x_6 8) != 0) (stC m b_5 (o_5 + 4) (.flat (.int .i64 (IntKind.wrap .i64 (bits .and .u32 (x_1.fdiv 64) 31)))) fun m11 => P25_11105 x_1 b_4 o_4 b_5 o_5 x_6 m11 (fun m20 => kr  m20)) (P25_11105 x_1 b_4 o_4 b_5 o_5 x_6 m (fun m21 => kr  m21))

def P25_7103 (x_1 : Int) (b_4 o_4 : Nat) (b_5 o_5 : Nat) (x_6 : Int) (m : Mem) (kr : Mem → Prop) : Prop :=
  kif ((bits .and .i64 x_6 4) != 0) (stC m b_5 (o_5 + 3) (.flat (.int .i64 (IntKind.wrap .i64 (bits .and .u32 (x_1.fdiv 2048) 31)))) fun m10 => P25_9103 x_1 b_4 o_4 b_5 o_5 x_6 m10 (fun m22 => kr  m22)) (P25_9103 x_1 b_4 o_4 b_5 o_5 x_6 m (fun m23 => kr  m23))

def P25_5103 (x_1 : Int) (b_4 o_4 : Nat) (b_5 o_5 : Nat) (x_6 : Int) (m : Mem) (kr : Mem → Prop) : Prop :=
  kif ((bits .and .i64 x_6 2) != 0) (stC m b_5 (o_5 + 2) (.flat (.int .i64 (IntKind.wrap .i64 (bits .and .u32 (x_1.fdiv 65536) 31)))) fun m9 => P25_7103 x_1 b_4 o_4 b_5 o_5 x_6 m9 (fun m24 => kr  m24)) (P25_7103 x_1 b_4 o_4 b_5 o_5 x_6 m (fun m25 => kr  m25))

/-- pianola/decode.with -/
def F25 (x_0 : Int) (x_1 : Int) (m : Mem) (k : (Nat → AV) → Mem → Prop) : Prop :=
  newK m ⟨6, Z6, 27, false⟩ fun b2 m1 => newK m1 ⟨6, Z6, 27, false⟩ fun b4 m3 => stG 6 m3 b4 0 (upd (Z6) 0 (.flat (.int .i64 x_0))) fun m5 => F34 x_0 m5 fun x6 m7 => kif ((bits .and .i64 x6 1) != 0) (stC m7 b4 1 (.flat (.int .i64 (IntKind.wrap .i64 (bits .and .u32 (x_1.fdiv 2097152) 31)))) fun m8 => P25_5103 x_1 b2 0 b4 0 x6 m8 (fun m26 => ldG 6 m26 b2 0 fun c28 => (Keeps m m26 ∧ InDomG 6 m c28 ∧ k c28 m))) (P25_5103 x_1 b2 0 b4 0 x6 m7 (fun m27 => ldG 6 m27 b2 0 fun c29 => (Keeps m m27 ∧ InDomG 6 m c29 ∧ k c29 m)))

def G25 (args : List AV) (m : Mem) (k : KV) : Prop := match args with
  | [a0, a1] => kI .i64 a0 fun x_0 => kI .u32 a1 fun x_1 => F25 x_0 x_1 m (fun c_1000 m' => k (.agg 6 c_1000) m')
  | _ => False

def E25 : Env := envOf [(34, G34)]

def LamP25_5103 (σ : Nat → AV) (m : Mem) (k : KX) : Prop := kI .u32 (σ 1) fun x_1 => kptr (σ 4) fun b_4 o_4 => kptr (σ 5) fun b_5 o_5 => kI .i64 (σ 6) fun x_6 => P25_5103 x_1 b_4 o_4 b_5 o_5 x_6 m (fun m' => k .ret (only [4] [(.ptr b_4 o_4)]) m')

def LamP25_7103 (σ : Nat → AV) (m : Mem) (k : KX) : Prop := kI .u32 (σ 1) fun x_1 => kptr (σ 4) fun b_4 o_4 => kptr (σ 5) fun b_5 o_5 => kI .i64 (σ 6) fun x_6 => P25_7103 x_1 b_4 o_4 b_5 o_5 x_6 m (fun m' => k .ret (only [4] [(.ptr b_4 o_4)]) m')

def LamP25_9103 (σ : Nat → AV) (m : Mem) (k : KX) : Prop := kI .u32 (σ 1) fun x_1 => kptr (σ 4) fun b_4 o_4 => kptr (σ 5) fun b_5 o_5 => kI .i64 (σ 6) fun x_6 => P25_9103 x_1 b_4 o_4 b_5 o_5 x_6 m (fun m' => k .ret (only [4] [(.ptr b_4 o_4)]) m')

def LamP25_11105 (σ : Nat → AV) (m : Mem) (k : KX) : Prop := kI .u32 (σ 1) fun x_1 => kptr (σ 4) fun b_4 o_4 => kptr (σ 5) fun b_5 o_5 => kI .i64 (σ 6) fun x_6 => P25_11105 x_1 b_4 o_4 b_5 o_5 x_6 m (fun m' => k .ret (only [4] [(.ptr b_4 o_4)]) m')

def Lam25 : LEnv := ⟨fun a σ m k => match firstReg a with
  | _ => bump False,
  fun id => match id with
  | _ => bump false,
  fun b => match keyC b with
  | some 5103 => true
  | some 7103 => true
  | some 9103 => true
  | some 11105 => true
  | _ => bump false,
  fun b σ m k => match keyC b with
  | some 5103 => LamP25_5103 σ m k
  | some 7103 => LamP25_7103 σ m k
  | some 9103 => LamP25_9103 σ m k
  | some 11105 => LamP25_11105 σ m k
  | _ => bump False⟩

def lxp25_11105 : Ex → List Nat := fun e => match e with
  | .ret => [4]
  | _ => []

theorem pc25_11105 (x_1 : Int) (b_4 o_4 : Nat) (b_5 o_5 : Nat) (x_6 : Int) (m : Mem) (k : KX) : once Try.prog E25 Lam25 [1, 4, 5, 6] lxp25_11105 (((secsOf (bodyOf Try.f25)).filter Lam25.cut).getD 3 .skip) [(.flat (.int .u32 x_1)), (.ptr b_4 o_4), (.ptr b_5 o_5), (.flat (.int .i64 x_6))] m k = P25_11105 x_1 b_4 o_4 b_5 o_5 x_6 m (fun m' => k .ret (only [4] [(.ptr b_4 o_4)]) m') := by
  kernel_rfl

theorem pok25_11105 : PieceOK Try.prog E25 Lam25 (((secsOf (bodyOf Try.f25)).filter Lam25.cut).getD 3 .skip) := by
  refine ⟨fun σ => ∃ x_1 b_4 o_4 b_5 o_5 x_6, σ 1 = .flat (.int .u32 x_1) ∧ σ 4 = .ptr b_4 o_4 ∧ σ 5 = .ptr b_5 o_5 ∧ σ 6 = .flat (.int .i64 x_6), [1, 4, 5, 6], lxp25_11105, fun σ m k => ?_⟩
  have e : Lam25.piece (((secsOf (bodyOf Try.f25)).filter Lam25.cut).getD 3 .skip) σ m k = LamP25_11105 σ m k := by kernel_rfl
  rw [e]
  constructor
  · intro h
    unfold LamP25_11105 at h
    obtain ⟨x_1, h0, h⟩ := kI_ok h
    obtain ⟨b_4, o_4, h1, h⟩ := kptr_ok h
    obtain ⟨b_5, o_5, h2, h⟩ := kptr_ok h
    obtain ⟨x_6, h3, h⟩ := kI_ok h
    refine ⟨⟨x_1, b_4, o_4, b_5, o_5, x_6, h0, h1, h2, h3⟩, ?_⟩
    have ev : [1, 4, 5, 6].map σ = [(.flat (.int .u32 x_1)), (.ptr b_4 o_4), (.ptr b_5 o_5), (.flat (.int .i64 x_6))] := by simp only [List.map_cons, List.map_nil, h0, h1, h2, h3]
    rw [ev, pc25_11105]
    exact h
  · rintro ⟨⟨x_1, b_4, o_4, b_5, o_5, x_6, h0, h1, h2, h3⟩, h⟩
    have ev : [1, 4, 5, 6].map σ = [(.flat (.int .u32 x_1)), (.ptr b_4 o_4), (.ptr b_5 o_5), (.flat (.int .i64 x_6))] := by simp only [List.map_cons, List.map_nil, h0, h1, h2, h3]
    rw [ev, pc25_11105] at h
    unfold LamP25_11105
    try simp only [h0, h1, h2, h3, kI, kbool, kS, kptr, kaggN, kite, decide_true, eq_self]
    exact h

def lxp25_9103 : Ex → List Nat := fun e => match e with
  | .ret => [4]
  | _ => []

theorem pc25_9103 (x_1 : Int) (b_4 o_4 : Nat) (b_5 o_5 : Nat) (x_6 : Int) (m : Mem) (k : KX) : once Try.prog E25 Lam25 [1, 4, 5, 6] lxp25_9103 (((secsOf (bodyOf Try.f25)).filter Lam25.cut).getD 2 .skip) [(.flat (.int .u32 x_1)), (.ptr b_4 o_4), (.ptr b_5 o_5), (.flat (.int .i64 x_6))] m k = P25_9103 x_1 b_4 o_4 b_5 o_5 x_6 m (fun m' => k .ret (only [4] [(.ptr b_4 o_4)]) m') := by
  kernel_rfl

theorem pok25_9103 : PieceOK Try.prog E25 Lam25 (((secsOf (bodyOf Try.f25)).filter Lam25.cut).getD 2 .skip) := by
  refine ⟨fun σ => ∃ x_1 b_4 o_4 b_5 o_5 x_6, σ 1 = .flat (.int .u32 x_1) ∧ σ 4 = .ptr b_4 o_4 ∧ σ 5 = .ptr b_5 o_5 ∧ σ 6 = .flat (.int .i64 x_6), [1, 4, 5, 6], lxp25_9103, fun σ m k => ?_⟩
  have e : Lam25.piece (((secsOf (bodyOf Try.f25)).filter Lam25.cut).getD 2 .skip) σ m k = LamP25_9103 σ m k := by kernel_rfl
  rw [e]
  constructor
  · intro h
    unfold LamP25_9103 at h
    obtain ⟨x_1, h0, h⟩ := kI_ok h
    obtain ⟨b_4, o_4, h1, h⟩ := kptr_ok h
    obtain ⟨b_5, o_5, h2, h⟩ := kptr_ok h
    obtain ⟨x_6, h3, h⟩ := kI_ok h
    refine ⟨⟨x_1, b_4, o_4, b_5, o_5, x_6, h0, h1, h2, h3⟩, ?_⟩
    have ev : [1, 4, 5, 6].map σ = [(.flat (.int .u32 x_1)), (.ptr b_4 o_4), (.ptr b_5 o_5), (.flat (.int .i64 x_6))] := by simp only [List.map_cons, List.map_nil, h0, h1, h2, h3]
    rw [ev, pc25_9103]
    exact h
  · rintro ⟨⟨x_1, b_4, o_4, b_5, o_5, x_6, h0, h1, h2, h3⟩, h⟩
    have ev : [1, 4, 5, 6].map σ = [(.flat (.int .u32 x_1)), (.ptr b_4 o_4), (.ptr b_5 o_5), (.flat (.int .i64 x_6))] := by simp only [List.map_cons, List.map_nil, h0, h1, h2, h3]
    rw [ev, pc25_9103] at h
    unfold LamP25_9103
    try simp only [h0, h1, h2, h3, kI, kbool, kS, kptr, kaggN, kite, decide_true, eq_self]
    exact h

def lxp25_7103 : Ex → List Nat := fun e => match e with
  | .ret => [4]
  | _ => []

theorem pc25_7103 (x_1 : Int) (b_4 o_4 : Nat) (b_5 o_5 : Nat) (x_6 : Int) (m : Mem) (k : KX) : once Try.prog E25 Lam25 [1, 4, 5, 6] lxp25_7103 (((secsOf (bodyOf Try.f25)).filter Lam25.cut).getD 1 .skip) [(.flat (.int .u32 x_1)), (.ptr b_4 o_4), (.ptr b_5 o_5), (.flat (.int .i64 x_6))] m k = P25_7103 x_1 b_4 o_4 b_5 o_5 x_6 m (fun m' => k .ret (only [4] [(.ptr b_4 o_4)]) m') := by
  kernel_rfl

theorem pok25_7103 : PieceOK Try.prog E25 Lam25 (((secsOf (bodyOf Try.f25)).filter Lam25.cut).getD 1 .skip) := by
  refine ⟨fun σ => ∃ x_1 b_4 o_4 b_5 o_5 x_6, σ 1 = .flat (.int .u32 x_1) ∧ σ 4 = .ptr b_4 o_4 ∧ σ 5 = .ptr b_5 o_5 ∧ σ 6 = .flat (.int .i64 x_6), [1, 4, 5, 6], lxp25_7103, fun σ m k => ?_⟩
  have e : Lam25.piece (((secsOf (bodyOf Try.f25)).filter Lam25.cut).getD 1 .skip) σ m k = LamP25_7103 σ m k := by kernel_rfl
  rw [e]
  constructor
  · intro h
    unfold LamP25_7103 at h
    obtain ⟨x_1, h0, h⟩ := kI_ok h
    obtain ⟨b_4, o_4, h1, h⟩ := kptr_ok h
    obtain ⟨b_5, o_5, h2, h⟩ := kptr_ok h
    obtain ⟨x_6, h3, h⟩ := kI_ok h
    refine ⟨⟨x_1, b_4, o_4, b_5, o_5, x_6, h0, h1, h2, h3⟩, ?_⟩
    have ev : [1, 4, 5, 6].map σ = [(.flat (.int .u32 x_1)), (.ptr b_4 o_4), (.ptr b_5 o_5), (.flat (.int .i64 x_6))] := by simp only [List.map_cons, List.map_nil, h0, h1, h2, h3]
    rw [ev, pc25_7103]
    exact h
  · rintro ⟨⟨x_1, b_4, o_4, b_5, o_5, x_6, h0, h1, h2, h3⟩, h⟩
    have ev : [1, 4, 5, 6].map σ = [(.flat (.int .u32 x_1)), (.ptr b_4 o_4), (.ptr b_5 o_5), (.flat (.int .i64 x_6))] := by simp only [List.map_cons, List.map_nil, h0, h1, h2, h3]
    rw [ev, pc25_7103] at h
    unfold LamP25_7103
    try simp only [h0, h1, h2, h3, kI, kbool, kS, kptr, kaggN, kite, decide_true, eq_self]
    exact h

def lxp25_5103 : Ex → List Nat := fun e => match e with
  | .ret => [4]
  | _ => []

theorem pc25_5103 (x_1 : Int) (b_4 o_4 : Nat) (b_5 o_5 : Nat) (x_6 : Int) (m : Mem) (k : KX) : once Try.prog E25 Lam25 [1, 4, 5, 6] lxp25_5103 (((secsOf (bodyOf Try.f25)).filter Lam25.cut).getD 0 .skip) [(.flat (.int .u32 x_1)), (.ptr b_4 o_4), (.ptr b_5 o_5), (.flat (.int .i64 x_6))] m k = P25_5103 x_1 b_4 o_4 b_5 o_5 x_6 m (fun m' => k .ret (only [4] [(.ptr b_4 o_4)]) m') := by
  kernel_rfl

theorem pok25_5103 : PieceOK Try.prog E25 Lam25 (((secsOf (bodyOf Try.f25)).filter Lam25.cut).getD 0 .skip) := by
  refine ⟨fun σ => ∃ x_1 b_4 o_4 b_5 o_5 x_6, σ 1 = .flat (.int .u32 x_1) ∧ σ 4 = .ptr b_4 o_4 ∧ σ 5 = .ptr b_5 o_5 ∧ σ 6 = .flat (.int .i64 x_6), [1, 4, 5, 6], lxp25_5103, fun σ m k => ?_⟩
  have e : Lam25.piece (((secsOf (bodyOf Try.f25)).filter Lam25.cut).getD 0 .skip) σ m k = LamP25_5103 σ m k := by kernel_rfl
  rw [e]
  constructor
  · intro h
    unfold LamP25_5103 at h
    obtain ⟨x_1, h0, h⟩ := kI_ok h
    obtain ⟨b_4, o_4, h1, h⟩ := kptr_ok h
    obtain ⟨b_5, o_5, h2, h⟩ := kptr_ok h
    obtain ⟨x_6, h3, h⟩ := kI_ok h
    refine ⟨⟨x_1, b_4, o_4, b_5, o_5, x_6, h0, h1, h2, h3⟩, ?_⟩
    have ev : [1, 4, 5, 6].map σ = [(.flat (.int .u32 x_1)), (.ptr b_4 o_4), (.ptr b_5 o_5), (.flat (.int .i64 x_6))] := by simp only [List.map_cons, List.map_nil, h0, h1, h2, h3]
    rw [ev, pc25_5103]
    exact h
  · rintro ⟨⟨x_1, b_4, o_4, b_5, o_5, x_6, h0, h1, h2, h3⟩, h⟩
    have ev : [1, 4, 5, 6].map σ = [(.flat (.int .u32 x_1)), (.ptr b_4 o_4), (.ptr b_5 o_5), (.flat (.int .i64 x_6))] := by simp only [List.map_cons, List.map_nil, h0, h1, h2, h3]
    rw [ev, pc25_5103] at h
    unfold LamP25_5103
    try simp only [h0, h1, h2, h3, kI, kbool, kS, kptr, kaggN, kite, decide_true, eq_self]
    exact h

theorem eqn25 (x_0 : Int) (x_1 : Int) (m : Mem) (k : KV) : bodyK Try.prog E25 Lam25 Try.f25 true [(.flat (.int .i64 x_0)), (.flat (.int .u32 x_1))] m k = F25 x_0 x_1 m (fun c_1000 m' => k (.agg 6 c_1000) m') := by
  kernel_rfl

theorem fs25 (w0 : World) : FS Try.prog w0 25 G25 := by
  refine (fs_body (Γ := E25) (sound_env (l := [(34, G34)]) w0 (by
    intro p hp
    simp only [List.mem_cons, List.not_mem_nil, or_false] at hp
    rcases hp with rfl
    · exact fs34 w0)) (by kernel_rfl) Try.func25 (Λ := Lam25) (c := (bodyOf Try.f25)) (by kernel_rfl) Try.call25 (by kernel_rfl) (LS_of (bodyOf Try.f25) 0 (by kernel_rfl) (fun i hi => absurd hi (Nat.not_lt_zero i)) 4 (by kernel_rfl) (by
    intro i hi
    match i, hi with
    | 0, _ => exact pok25_5103
    | 1, _ => exact pok25_7103
    | 2, _ => exact pok25_9103
    | 3, _ => exact pok25_11105
    | i + 4, hi => omega)) true (np := 2) (Nat.le_of_ble_eq_true (by kernel_rfl))).imp fun args => ?_
  by_cases hl : args.length = 2
  rotate_left
  · exact .inr fun m k hk => by
      unfold G25 at hk
      split at hk
      · exact hl rfl
      · exact hk
  obtain ⟨a0, a1, rfl⟩ : ∃ a0 a1, args = [a0, a1] := len_list2 hl
  rcases kI_or .i64 a0 with ⟨x_0, rfl⟩ | h
  rotate_left
  · exact .inr fun m k hk => h _ (by simpa only [G25, kI, kbool, kS, kptr, kaggN, kite, decide_true, eq_self] using hk)
  rcases kI_or .u32 a1 with ⟨x_1, rfl⟩ | h
  rotate_left
  · exact .inr fun m k hk => h _ (by simpa only [G25, kI, kbool, kS, kptr, kaggN, kite, decide_true, eq_self] using hk)
  exact .inl fun m k => propext ⟨fun h => ⟨rfl, by rw [eqn25]; simpa only [G25, kI, kbool, kS, kptr, kaggN, kite, decide_true, eq_self] using h⟩, fun h => by have h := h.2; rw [eqn25] at h; simpa only [G25, kI, kbool, kS, kptr, kaggN, kite, decide_true, eq_self] using h⟩

def R14_2 (b_1 o_1 : Nat) (v_13 : AV) (x_14 : Int) (x_15 : Int) (m : Mem) (kn : Int → Mem → Prop) (k0 : Mem → Prop) (kr : Bool → Mem → Prop) : Prop :=
  kif (decide (x_15 < x_14)) (ksl v_13 fun b9 o10 l11 p12 => kif (decide (0 ≤ x_15) && decide (x_15 < l11)) (ldI .i64 m b9 (o10 + (x_15).toNat * 1) fun x13 => kif (decide (x13 < 0)) (kr false m) (kif (decide (x13 > 31)) (kr false m) (kn (IntKind.wrap .i64 (x_15 + 1)) m))) False) (k0  m)

def L14_2 (b_1 o_1 : Nat) (v_13 : AV) (x_14 : Int) : Nat → Int → Mem → (Mem → Prop) → (Bool → Mem → Prop) → Prop
  | 0, _,  _, _, _ => bump False
  | N + 1, x_15,  m, k0, kr => R14_2 b_1 o_1 v_13 x_14 x_15 m (fun x_15' m' => L14_2 b_1 o_1 v_13 x_14 N x_15' m' k0 kr) k0 kr

/-- pianola/decode.Right -/
def F14 (c_0 : Nat → AV) (m : Mem) (k : Bool → Mem → Prop) : Prop :=
  newK m ⟨6, c_0, 27, false⟩ fun b2 m1 => ldI .i64 m1 b2 1 fun x3 => ldI .i64 m1 b2 2 fun x4 => ldI .i64 m1 b2 3 fun x5 => ldI .i64 m1 b2 4 fun x6 => newK m1 ⟨4, upd (upd (upd (upd (lget [(.flat (.int .i64 0)), (.flat (.int .i64 0)), (.flat (.int .i64 0)), (.flat (.int .i64 0))]) 0 (.flat (.int .i64 x3))) 1 (.flat (.int .i64 x4))) 2 (.flat (.int .i64 x5))) 3 (.flat (.int .i64 x6)), 3, false⟩ fun b8 m7 => ∃ N17, L14_2 b2 0 (.sl b8 0 4 (.ex 4)) 4 N17 0 m7 (fun m14 => ∃ Fr18 : Nat → Prop, Fr18 b2 ∧ (ldI .i64 m14 b2 0 fun x19 => kif (decide (x19 > 0)) (Fr18 b2 ∧ (ldI .i64 m14 b2 0 fun x20 => kif (decide (x20 < 78)) (Fr18 b2 ∧ (ldI .u32 m14 b2 5 fun x21 => kif (decide (x21 ≤ 67108863)) (Fr18 b2 ∧ (ldI .i64 m14 b2 0 fun x22 => Fr18 b2 ∧ (ldG 6 m14 b2 0 fun c23 => F24 c23 m14 fun x24 m25 => KeepsIn Fr18 m14 m25 ∧ (F25 x22 x24 m25 fun c26 m27 => KeepsIn Fr18 m25 m27 ∧ (Fr18 b2 ∧ (ldG 6 m27 b2 0 fun c28 => geq K27 c26 c28 fun x29 => (Keeps m m27 ∧ k x29 m))))))) ((Keeps m m14 ∧ k false m)))) ((Keeps m m14 ∧ k false m)))) ((Keeps m m14 ∧ k false m)))) (fun x15 m16 => (Keeps m m16 ∧ k x15 m))

def G14 (args : List AV) (m : Mem) (k : KV) : Prop := match args with
  | [a0] => kaggN 6 a0 fun c_0 => F14 c_0 m (fun x_1000 m' => k (.flat (.bool x_1000)) m')
  | _ => False

def E14 : Env := envOf [(24, G24), (25, G25)]

def Lam14_2 (σ : Nat → AV) (m : Mem) (k : KX) : Prop := kptr (σ 1) fun b_1 o_1 => kI .i64 (σ 14) fun x_14 => kI .i64 (σ 15) fun x_15 => ∃ N, L14_2 b_1 o_1 (σ 13) x_14 N x_15 m (fun m' => k (.exit 0) (only [1] [(.ptr b_1 o_1)]) m') (fun x_2' m' => k .ret (only [2] [(.flat (.bool x_2'))]) m')

def Lam14 : LEnv := ⟨fun a σ m k => match firstReg a with
  | some 2 => Lam14_2 σ m k
  | _ => bump False,
  fun id => match id with
  | 7 => true
  | _ => bump false,
  fun b => match keyC b with
  | _ => bump false,
  fun b σ m k => match keyC b with
  | _ => bump False⟩

def lx14_2 : Ex → List Nat := fun e => match e with
  | .exit 0 => [1]
  | .ret => [2]
  | _ => []

theorem round14_2 (b_1 o_1 : Nat) (v_13 : AV) (x_14 : Int) (x_15 : Int) (m : Mem) (G : List AV → Mem → Prop) (k : KX) : (wpA Try.prog E14 Lam14 ((loopsOf (bodyOf Try.f14)).getD 0 .skip) (only [1, 13, 14, 15] [(.ptr b_1 o_1), v_13, (.flat (.int .i64 x_14)), (.flat (.int .i64 x_15))]) m fun e σ' m' => match e with
    | .normal => G ([1, 13, 14, 15].map σ') m'
    | .exit id => k (.exit id) (only (lx14_2 (.exit id)) ((lx14_2 (.exit id)).map σ')) m'
    | .ret => k .ret (only (lx14_2 .ret) ((lx14_2 .ret).map σ')) m') = R14_2 b_1 o_1 v_13 x_14 x_15 m (fun x_15' m' => G [(.ptr b_1 o_1), v_13, (.flat (.int .i64 x_14)), (.flat (.int .i64 x_15'))] m') (fun m' => k (.exit 0) (only [1] [(.ptr b_1 o_1)]) m') (fun x_2' m' => k .ret (only [2] [(.flat (.bool x_2'))]) m') := by
  kernel_rfl

theorem loop14_2 (b_1 o_1 : Nat) (v_13 : AV) (x_14 : Int) (k : KX) : ∀ (N : Nat) (x_15 : Int) (m : Mem), rounds Try.prog E14 Lam14 [1, 13, 14, 15] lx14_2 ((loopsOf (bodyOf Try.f14)).getD 0 .skip) N [(.ptr b_1 o_1), v_13, (.flat (.int .i64 x_14)), (.flat (.int .i64 x_15))] m k = L14_2 b_1 o_1 v_13 x_14 N x_15 m (fun m' => k (.exit 0) (only [1] [(.ptr b_1 o_1)]) m') (fun x_2' m' => k .ret (only [2] [(.flat (.bool x_2'))]) m') := by
  intro N
  induction N with
  | zero => intros; rfl
  | succ N ih =>
    intro x_15 m
    refine (round14_2 b_1 o_1 v_13 x_14 x_15 m (fun vs m' => rounds Try.prog E14 Lam14 [1, 13, 14, 15] lx14_2 ((loopsOf (bodyOf Try.f14)).getD 0 .skip) N vs m' k) k).trans ?_
    simp only [ih]
    rfl

theorem lok14_2 : LoopOK Try.prog E14 Lam14 ((loopsOf (bodyOf Try.f14)).getD 0 .skip) := by
  refine ⟨fun σ => ∃ b_1 o_1 v_13 x_14 x_15, σ 1 = .ptr b_1 o_1 ∧ σ 13 = v_13 ∧ σ 14 = .flat (.int .i64 x_14) ∧ σ 15 = .flat (.int .i64 x_15), [1, 13, 14, 15], lx14_2, fun σ m k => ?_⟩
  have e : Lam14.loop ((loopsOf (bodyOf Try.f14)).getD 0 .skip) σ m k = Lam14_2 σ m k := by kernel_rfl
  rw [e]
  constructor
  · intro h
    unfold Lam14_2 at h
    obtain ⟨b_1, o_1, h0, h⟩ := kptr_ok h
    obtain ⟨v_13, h1⟩ : ∃ v, σ 13 = v := ⟨_, rfl⟩
    obtain ⟨x_14, h2, h⟩ := kI_ok h
    obtain ⟨x_15, h3, h⟩ := kI_ok h
    obtain ⟨N, h⟩ := h
    refine ⟨⟨b_1, o_1, v_13, x_14, x_15, h0, h1, h2, h3⟩, N, ?_⟩
    have ev : [1, 13, 14, 15].map σ = [(.ptr b_1 o_1), v_13, (.flat (.int .i64 x_14)), (.flat (.int .i64 x_15))] := by simp only [List.map_cons, List.map_nil, h0, h1, h2, h3]
    rw [ev, loop14_2]
    simp only [h1] at h
    exact h
  · rintro ⟨⟨b_1, o_1, v_13, x_14, x_15, h0, h1, h2, h3⟩, N, h⟩
    have ev : [1, 13, 14, 15].map σ = [(.ptr b_1 o_1), v_13, (.flat (.int .i64 x_14)), (.flat (.int .i64 x_15))] := by simp only [List.map_cons, List.map_nil, h0, h1, h2, h3]
    rw [ev, loop14_2] at h
    unfold Lam14_2
    try simp only [h0, h1, h2, h3, kI, kbool, kS, kptr, kaggN, kite, decide_true, eq_self]
    exact ⟨N, h⟩

theorem eqn14 (c_0 : Nat → AV) (m : Mem) (k : KV) : bodyK Try.prog E14 Lam14 Try.f14 true [(.agg 6 c_0)] m k = F14 c_0 m (fun x_1000 m' => k (.flat (.bool x_1000)) m') := by
  kernel_rfl

theorem fs14 (w0 : World) : FS Try.prog w0 14 G14 := by
  refine (fs_body (Γ := E14) (sound_env (l := [(24, G24), (25, G25)]) w0 (by
    intro p hp
    simp only [List.mem_cons, List.not_mem_nil, or_false] at hp
    rcases hp with rfl | rfl
    · exact fs24 w0
    · exact fs25 w0)) (by kernel_rfl) Try.func14 (Λ := Lam14) (c := (bodyOf Try.f14)) (by kernel_rfl) Try.call14 (by kernel_rfl) (LS_of (bodyOf Try.f14) 1 (by kernel_rfl) (by
    intro i hi
    match i, hi with
    | 0, _ => exact lok14_2
    | i + 1, hi => omega) 0 (by kernel_rfl) (fun i hi => absurd hi (Nat.not_lt_zero i))) true (np := 1) (Nat.le_of_ble_eq_true (by kernel_rfl))).imp fun args => ?_
  by_cases hl : args.length = 1
  rotate_left
  · exact .inr fun m k hk => by
      unfold G14 at hk
      split at hk
      · exact hl rfl
      · exact hk
  obtain ⟨a0, rfl⟩ : ∃ a0, args = [a0] := len_list1 hl
  rcases kaggN_or 6 a0 with ⟨c_0, rfl⟩ | h
  rotate_left
  · exact .inr fun m k hk => h _ (by simpa only [G14, kI, kbool, kS, kptr, kaggN, kite, decide_true, eq_self] using hk)
  exact .inl fun m k => propext ⟨fun h => ⟨rfl, by rw [eqn14]; simpa only [G14, kI, kbool, kS, kptr, kaggN, kite, decide_true, eq_self] using h⟩, fun h => by have h := h.2; rw [eqn14] at h; simpa only [G14, kI, kbool, kS, kptr, kaggN, kite, decide_true, eq_self] using h⟩

def P35_21004 (x_3 : Int) (x_75 : Bool) (m : Mem) (kr : Int → Mem → Prop) (kn : Mem → Prop) : Prop :=
  kif x_75 (kr (IntKind.wrap .i64 ((IntKind.wrap .i64 (30 + x_3)) - 42)) m) (kif (decide (x_3 ≥ 48)) (kif (decide (x_3 ≤ 54)) (kif ((x_3.tmod 2) == 0) (kr (IntKind.wrap .i64 (32 + (IntKind.wrap .i64 ((IntKind.wrap .i64 (x_3 - 48)).tdiv 2)))) m) (kn  m)) (kn  m)) (kn  m))

def P35_19004 (x_3 : Int) (x_65 : Bool) (m : Mem) (kr : Int → Mem → Prop) (kn : Mem → Prop) : Prop :=
  kif x_65 (kr (IntKind.wrap .i64 ((IntKind.wrap .i64 (22 + x_3)) - 32)) m) (kif (x_3 == 42) (P35_21004 x_3 true m (fun x1 m2 => kr x1 m2) (fun m3 => kn  m3)) (P35_21004 x_3 (x_3 == 43) m (fun x4 m5 => kr x4 m5) (fun m6 => kn  m6)))

def P35_17004 (x_3 : Int) (x_55 : Bool) (m : Mem) (kr : Int → Mem → Prop) (kn : Mem → Prop) : Prop :=
  kif x_55 (kr (IntKind.wrap .i64 ((IntKind.wrap .i64 (18 + x_3)) - 24)) m) (kif (decide (x_3 ≥ 32)) (P35_19004 x_3 (decide (x_3 ≤ 39)) m (fun x7 m8 => kr x7 m8) (fun m9 => kn  m9)) (P35_19004 x_3 false m (fun x10 m11 => kr x10 m11) (fun m12 => kn  m12)))

def P35_15004 (x_3 : Int) (x_45 : Bool) (m : Mem) (kr : Int → Mem → Prop) (kn : Mem → Prop) : Prop :=
  kif x_45 (kr (IntKind.wrap .i64 ((IntKind.wrap .i64 (14 + x_3)) - 16)) m) (kif (decide (x_3 ≥ 24)) (P35_17004 x_3 (decide (x_3 ≤ 27)) m (fun x13 m14 => kr x13 m14) (fun m15 => kn  m15)) (P35_17004 x_3 false m (fun x16 m17 => kr x16 m17) (fun m18 => kn  m18)))

def P35_11004 (x_3 : Int) (x_32 : Bool) (m : Mem) (kr : Int → Mem → Prop) (kn : Mem → Prop) : Prop :=
  kif x_32 (kr (IntKind.wrap .i64 ((IntKind.wrap .i64 (7 + x_3)) - 8)) m) (kif (x_3 == 15) (kr 13 m) (kif (decide (x_3 ≥ 16)) (P35_15004 x_3 (decide (x_3 ≤ 19)) m (fun x19 m20 => kr x19 m20) (fun m21 => kn  m21)) (P35_15004 x_3 false m (fun x22 m23 => kr x22 m23) (fun m24 => kn  m24))))

def P35_9004 (x_3 : Int) (x_22 : Bool) (m : Mem) (kr : Int → Mem → Prop) (kn : Mem → Prop) : Prop :=
  kif x_22 (kr (IntKind.wrap .i64 ((IntKind.wrap .i64 (5 + x_3)) - 6)) m) (kif (decide (x_3 ≥ 8)) (P35_11004 x_3 (decide (x_3 ≤ 13)) m (fun x25 m26 => kr x25 m26) (fun m27 => kn  m27)) (P35_11004 x_3 false m (fun x28 m29 => kr x28 m29) (fun m30 => kn  m30)))

def P35_5004 (x_3 : Int) (x_9 : Bool) (m : Mem) (kr : Int → Mem → Prop) (kn : Mem → Prop) : Prop :=
  kif x_9 (kr (IntKind.wrap .i64 ((IntKind.wrap .i64 (2 + x_3)) - 2)) m) (kif (x_3 == 4) (kr 4 m) (kif (x_3 == 6) (P35_9004 x_3 true m (fun x31 m32 => kr x31 m32) (fun m33 => kn  m33)) (P35_9004 x_3 (x_3 == 7) m (fun x34 m35 => kr x34 m35) (fun m36 => kn  m36))))

/-- pianola/decode.special -/
def F35 (x_0 : Int) (m : Mem) (k : Int → Mem → Prop) : Prop :=
  kif ((IntKind.wrap .i64 x_0) == 0) ((Keeps m m ∧ k 1 m)) (kif ((IntKind.wrap .i64 x_0) == 2) (P35_5004 (IntKind.wrap .i64 x_0) true m (fun x37 m38 => (Keeps m m38 ∧ k x37 m)) (fun m39 => (Keeps m m39 ∧ k 0 m))) (P35_5004 (IntKind.wrap .i64 x_0) ((IntKind.wrap .i64 x_0) == 3) m (fun x40 m41 => (Keeps m m41 ∧ k x40 m)) (fun m42 => (Keeps m m42 ∧ k 0 m))))

def G35 (args : List AV) (m : Mem) (k : KV) : Prop := match args with
  | [a0] => kI .u32 a0 fun x_0 => F35 x_0 m (fun x_1000 m' => k (.flat (.int .i64 x_1000)) m')
  | _ => False

def E35 : Env := envOf []

def LamP35_5004 (σ : Nat → AV) (m : Mem) (k : KX) : Prop := kI .i64 (σ 3) fun x_3 => kbool (σ 9) fun x_9 => P35_5004 x_3 x_9 m (fun x_2' m' => k .ret (only [2] [(.flat (.int .i64 x_2'))]) m') (fun m' => k .normal (only [] []) m')

def LamP35_9004 (σ : Nat → AV) (m : Mem) (k : KX) : Prop := kI .i64 (σ 3) fun x_3 => kbool (σ 22) fun x_22 => P35_9004 x_3 x_22 m (fun x_2' m' => k .ret (only [2] [(.flat (.int .i64 x_2'))]) m') (fun m' => k .normal (only [] []) m')

def LamP35_11004 (σ : Nat → AV) (m : Mem) (k : KX) : Prop := kI .i64 (σ 3) fun x_3 => kbool (σ 32) fun x_32 => P35_11004 x_3 x_32 m (fun x_2' m' => k .ret (only [2] [(.flat (.int .i64 x_2'))]) m') (fun m' => k .normal (only [] []) m')

def LamP35_15004 (σ : Nat → AV) (m : Mem) (k : KX) : Prop := kI .i64 (σ 3) fun x_3 => kbool (σ 45) fun x_45 => P35_15004 x_3 x_45 m (fun x_2' m' => k .ret (only [2] [(.flat (.int .i64 x_2'))]) m') (fun m' => k .normal (only [] []) m')

def LamP35_17004 (σ : Nat → AV) (m : Mem) (k : KX) : Prop := kI .i64 (σ 3) fun x_3 => kbool (σ 55) fun x_55 => P35_17004 x_3 x_55 m (fun x_2' m' => k .ret (only [2] [(.flat (.int .i64 x_2'))]) m') (fun m' => k .normal (only [] []) m')

def LamP35_19004 (σ : Nat → AV) (m : Mem) (k : KX) : Prop := kI .i64 (σ 3) fun x_3 => kbool (σ 65) fun x_65 => P35_19004 x_3 x_65 m (fun x_2' m' => k .ret (only [2] [(.flat (.int .i64 x_2'))]) m') (fun m' => k .normal (only [] []) m')

def LamP35_21004 (σ : Nat → AV) (m : Mem) (k : KX) : Prop := kI .i64 (σ 3) fun x_3 => kbool (σ 75) fun x_75 => P35_21004 x_3 x_75 m (fun x_2' m' => k .ret (only [2] [(.flat (.int .i64 x_2'))]) m') (fun m' => k .normal (only [] []) m')

def Lam35 : LEnv := ⟨fun a σ m k => match firstReg a with
  | _ => bump False,
  fun id => match id with
  | _ => bump false,
  fun b => match keyC b with
  | some 5004 => true
  | some 9004 => true
  | some 11004 => true
  | some 15004 => true
  | some 17004 => true
  | some 19004 => true
  | some 21004 => true
  | _ => bump false,
  fun b σ m k => match keyC b with
  | some 5004 => LamP35_5004 σ m k
  | some 9004 => LamP35_9004 σ m k
  | some 11004 => LamP35_11004 σ m k
  | some 15004 => LamP35_15004 σ m k
  | some 17004 => LamP35_17004 σ m k
  | some 19004 => LamP35_19004 σ m k
  | some 21004 => LamP35_21004 σ m k
  | _ => bump False⟩

def lxp35_21004 : Ex → List Nat := fun e => match e with
  | .ret => [2]
  | .normal => []
  | _ => []

theorem pc35_21004 (x_3 : Int) (x_75 : Bool) (m : Mem) (k : KX) : once Try.prog E35 Lam35 [3, 75] lxp35_21004 (((secsOf (bodyOf Try.f35)).filter Lam35.cut).getD 6 .skip) [(.flat (.int .i64 x_3)), (.flat (.bool x_75))] m k = P35_21004 x_3 x_75 m (fun x_2' m' => k .ret (only [2] [(.flat (.int .i64 x_2'))]) m') (fun m' => k .normal (only [] []) m') := by
  kernel_rfl

theorem pok35_21004 : PieceOK Try.prog E35 Lam35 (((secsOf (bodyOf Try.f35)).filter Lam35.cut).getD 6 .skip) := by
  refine ⟨fun σ => ∃ x_3 x_75, σ 3 = .flat (.int .i64 x_3) ∧ σ 75 = .flat (.bool x_75), [3, 75], lxp35_21004, fun σ m k => ?_⟩
  have e : Lam35.piece (((secsOf (bodyOf Try.f35)).filter Lam35.cut).getD 6 .skip) σ m k = LamP35_21004 σ m k := by kernel_rfl
  rw [e]
  constructor
  · intro h
    unfold LamP35_21004 at h
    obtain ⟨x_3, h0, h⟩ := kI_ok h
    obtain ⟨x_75, h1, h⟩ := kbool_ok h
    refine ⟨⟨x_3, x_75, h0, h1⟩, ?_⟩
    have ev : [3, 75].map σ = [(.flat (.int .i64 x_3)), (.flat (.bool x_75))] := by simp only [List.map_cons, List.map_nil, h0, h1]
    rw [ev, pc35_21004]
    exact h
  · rintro ⟨⟨x_3, x_75, h0, h1⟩, h⟩
    have ev : [3, 75].map σ = [(.flat (.int .i64 x_3)), (.flat (.bool x_75))] := by simp only [List.map_cons, List.map_nil, h0, h1]
    rw [ev, pc35_21004] at h
    unfold LamP35_21004
    try simp only [h0, h1, kI, kbool, kS, kptr, kaggN, kite, decide_true, eq_self]
    exact h

def lxp35_19004 : Ex → List Nat := fun e => match e with
  | .ret => [2]
  | .normal => []
  | _ => []

theorem pc35_19004 (x_3 : Int) (x_65 : Bool) (m : Mem) (k : KX) : once Try.prog E35 Lam35 [3, 65] lxp35_19004 (((secsOf (bodyOf Try.f35)).filter Lam35.cut).getD 5 .skip) [(.flat (.int .i64 x_3)), (.flat (.bool x_65))] m k = P35_19004 x_3 x_65 m (fun x_2' m' => k .ret (only [2] [(.flat (.int .i64 x_2'))]) m') (fun m' => k .normal (only [] []) m') := by
  kernel_rfl

theorem pok35_19004 : PieceOK Try.prog E35 Lam35 (((secsOf (bodyOf Try.f35)).filter Lam35.cut).getD 5 .skip) := by
  refine ⟨fun σ => ∃ x_3 x_65, σ 3 = .flat (.int .i64 x_3) ∧ σ 65 = .flat (.bool x_65), [3, 65], lxp35_19004, fun σ m k => ?_⟩
  have e : Lam35.piece (((secsOf (bodyOf Try.f35)).filter Lam35.cut).getD 5 .skip) σ m k = LamP35_19004 σ m k := by kernel_rfl
  rw [e]
  constructor
  · intro h
    unfold LamP35_19004 at h
    obtain ⟨x_3, h0, h⟩ := kI_ok h
    obtain ⟨x_65, h1, h⟩ := kbool_ok h
    refine ⟨⟨x_3, x_65, h0, h1⟩, ?_⟩
    have ev : [3, 65].map σ = [(.flat (.int .i64 x_3)), (.flat (.bool x_65))] := by simp only [List.map_cons, List.map_nil, h0, h1]
    rw [ev, pc35_19004]
    exact h
  · rintro ⟨⟨x_3, x_65, h0, h1⟩, h⟩
    have ev : [3, 65].map σ = [(.flat (.int .i64 x_3)), (.flat (.bool x_65))] := by simp only [List.map_cons, List.map_nil, h0, h1]
    rw [ev, pc35_19004] at h
    unfold LamP35_19004
    try simp only [h0, h1, kI, kbool, kS, kptr, kaggN, kite, decide_true, eq_self]
    exact h

def lxp35_17004 : Ex → List Nat := fun e => match e with
  | .ret => [2]
  | .normal => []
  | _ => []

theorem pc35_17004 (x_3 : Int) (x_55 : Bool) (m : Mem) (k : KX) : once Try.prog E35 Lam35 [3, 55] lxp35_17004 (((secsOf (bodyOf Try.f35)).filter Lam35.cut).getD 4 .skip) [(.flat (.int .i64 x_3)), (.flat (.bool x_55))] m k = P35_17004 x_3 x_55 m (fun x_2' m' => k .ret (only [2] [(.flat (.int .i64 x_2'))]) m') (fun m' => k .normal (only [] []) m') := by
  kernel_rfl

theorem pok35_17004 : PieceOK Try.prog E35 Lam35 (((secsOf (bodyOf Try.f35)).filter Lam35.cut).getD 4 .skip) := by
  refine ⟨fun σ => ∃ x_3 x_55, σ 3 = .flat (.int .i64 x_3) ∧ σ 55 = .flat (.bool x_55), [3, 55], lxp35_17004, fun σ m k => ?_⟩
  have e : Lam35.piece (((secsOf (bodyOf Try.f35)).filter Lam35.cut).getD 4 .skip) σ m k = LamP35_17004 σ m k := by kernel_rfl
  rw [e]
  constructor
  · intro h
    unfold LamP35_17004 at h
    obtain ⟨x_3, h0, h⟩ := kI_ok h
    obtain ⟨x_55, h1, h⟩ := kbool_ok h
    refine ⟨⟨x_3, x_55, h0, h1⟩, ?_⟩
    have ev : [3, 55].map σ = [(.flat (.int .i64 x_3)), (.flat (.bool x_55))] := by simp only [List.map_cons, List.map_nil, h0, h1]
    rw [ev, pc35_17004]
    exact h
  · rintro ⟨⟨x_3, x_55, h0, h1⟩, h⟩
    have ev : [3, 55].map σ = [(.flat (.int .i64 x_3)), (.flat (.bool x_55))] := by simp only [List.map_cons, List.map_nil, h0, h1]
    rw [ev, pc35_17004] at h
    unfold LamP35_17004
    try simp only [h0, h1, kI, kbool, kS, kptr, kaggN, kite, decide_true, eq_self]
    exact h

def lxp35_15004 : Ex → List Nat := fun e => match e with
  | .ret => [2]
  | .normal => []
  | _ => []

theorem pc35_15004 (x_3 : Int) (x_45 : Bool) (m : Mem) (k : KX) : once Try.prog E35 Lam35 [3, 45] lxp35_15004 (((secsOf (bodyOf Try.f35)).filter Lam35.cut).getD 3 .skip) [(.flat (.int .i64 x_3)), (.flat (.bool x_45))] m k = P35_15004 x_3 x_45 m (fun x_2' m' => k .ret (only [2] [(.flat (.int .i64 x_2'))]) m') (fun m' => k .normal (only [] []) m') := by
  kernel_rfl

theorem pok35_15004 : PieceOK Try.prog E35 Lam35 (((secsOf (bodyOf Try.f35)).filter Lam35.cut).getD 3 .skip) := by
  refine ⟨fun σ => ∃ x_3 x_45, σ 3 = .flat (.int .i64 x_3) ∧ σ 45 = .flat (.bool x_45), [3, 45], lxp35_15004, fun σ m k => ?_⟩
  have e : Lam35.piece (((secsOf (bodyOf Try.f35)).filter Lam35.cut).getD 3 .skip) σ m k = LamP35_15004 σ m k := by kernel_rfl
  rw [e]
  constructor
  · intro h
    unfold LamP35_15004 at h
    obtain ⟨x_3, h0, h⟩ := kI_ok h
    obtain ⟨x_45, h1, h⟩ := kbool_ok h
    refine ⟨⟨x_3, x_45, h0, h1⟩, ?_⟩
    have ev : [3, 45].map σ = [(.flat (.int .i64 x_3)), (.flat (.bool x_45))] := by simp only [List.map_cons, List.map_nil, h0, h1]
    rw [ev, pc35_15004]
    exact h
  · rintro ⟨⟨x_3, x_45, h0, h1⟩, h⟩
    have ev : [3, 45].map σ = [(.flat (.int .i64 x_3)), (.flat (.bool x_45))] := by simp only [List.map_cons, List.map_nil, h0, h1]
    rw [ev, pc35_15004] at h
    unfold LamP35_15004
    try simp only [h0, h1, kI, kbool, kS, kptr, kaggN, kite, decide_true, eq_self]
    exact h

def lxp35_11004 : Ex → List Nat := fun e => match e with
  | .ret => [2]
  | .normal => []
  | _ => []

theorem pc35_11004 (x_3 : Int) (x_32 : Bool) (m : Mem) (k : KX) : once Try.prog E35 Lam35 [3, 32] lxp35_11004 (((secsOf (bodyOf Try.f35)).filter Lam35.cut).getD 2 .skip) [(.flat (.int .i64 x_3)), (.flat (.bool x_32))] m k = P35_11004 x_3 x_32 m (fun x_2' m' => k .ret (only [2] [(.flat (.int .i64 x_2'))]) m') (fun m' => k .normal (only [] []) m') := by
  kernel_rfl

theorem pok35_11004 : PieceOK Try.prog E35 Lam35 (((secsOf (bodyOf Try.f35)).filter Lam35.cut).getD 2 .skip) := by
  refine ⟨fun σ => ∃ x_3 x_32, σ 3 = .flat (.int .i64 x_3) ∧ σ 32 = .flat (.bool x_32), [3, 32], lxp35_11004, fun σ m k => ?_⟩
  have e : Lam35.piece (((secsOf (bodyOf Try.f35)).filter Lam35.cut).getD 2 .skip) σ m k = LamP35_11004 σ m k := by kernel_rfl
  rw [e]
  constructor
  · intro h
    unfold LamP35_11004 at h
    obtain ⟨x_3, h0, h⟩ := kI_ok h
    obtain ⟨x_32, h1, h⟩ := kbool_ok h
    refine ⟨⟨x_3, x_32, h0, h1⟩, ?_⟩
    have ev : [3, 32].map σ = [(.flat (.int .i64 x_3)), (.flat (.bool x_32))] := by simp only [List.map_cons, List.map_nil, h0, h1]
    rw [ev, pc35_11004]
    exact h
  · rintro ⟨⟨x_3, x_32, h0, h1⟩, h⟩
    have ev : [3, 32].map σ = [(.flat (.int .i64 x_3)), (.flat (.bool x_32))] := by simp only [List.map_cons, List.map_nil, h0, h1]
    rw [ev, pc35_11004] at h
    unfold LamP35_11004
    try simp only [h0, h1, kI, kbool, kS, kptr, kaggN, kite, decide_true, eq_self]
    exact h

def lxp35_9004 : Ex → List Nat := fun e => match e with
  | .ret => [2]
  | .normal => []
  | _ => []

theorem pc35_9004 (x_3 : Int) (x_22 : Bool) (m : Mem) (k : KX) : once Try.prog E35 Lam35 [3, 22] lxp35_9004 (((secsOf (bodyOf Try.f35)).filter Lam35.cut).getD 1 .skip) [(.flat (.int .i64 x_3)), (.flat (.bool x_22))] m k = P35_9004 x_3 x_22 m (fun x_2' m' => k .ret (only [2] [(.flat (.int .i64 x_2'))]) m') (fun m' => k .normal (only [] []) m') := by
  kernel_rfl

theorem pok35_9004 : PieceOK Try.prog E35 Lam35 (((secsOf (bodyOf Try.f35)).filter Lam35.cut).getD 1 .skip) := by
  refine ⟨fun σ => ∃ x_3 x_22, σ 3 = .flat (.int .i64 x_3) ∧ σ 22 = .flat (.bool x_22), [3, 22], lxp35_9004, fun σ m k => ?_⟩
  have e : Lam35.piece (((secsOf (bodyOf Try.f35)).filter Lam35.cut).getD 1 .skip) σ m k = LamP35_9004 σ m k := by kernel_rfl
  rw [e]
  constructor
  · intro h
    unfold LamP35_9004 at h
    obtain ⟨x_3, h0, h⟩ := kI_ok h
    obtain ⟨x_22, h1, h⟩ := kbool_ok h
    refine ⟨⟨x_3, x_22, h0, h1⟩, ?_⟩
    have ev : [3, 22].map σ = [(.flat (.int .i64 x_3)), (.flat (.bool x_22))] := by simp only [List.map_cons, List.map_nil, h0, h1]
    rw [ev, pc35_9004]
    exact h
  · rintro ⟨⟨x_3, x_22, h0, h1⟩, h⟩
    have ev : [3, 22].map σ = [(.flat (.int .i64 x_3)), (.flat (.bool x_22))] := by simp only [List.map_cons, List.map_nil, h0, h1]
    rw [ev, pc35_9004] at h
    unfold LamP35_9004
    try simp only [h0, h1, kI, kbool, kS, kptr, kaggN, kite, decide_true, eq_self]
    exact h

def lxp35_5004 : Ex → List Nat := fun e => match e with
  | .ret => [2]
  | .normal => []
  | _ => []

theorem pc35_5004 (x_3 : Int) (x_9 : Bool) (m : Mem) (k : KX) : once Try.prog E35 Lam35 [3, 9] lxp35_5004 (((secsOf (bodyOf Try.f35)).filter Lam35.cut).getD 0 .skip) [(.flat (.int .i64 x_3)), (.flat (.bool x_9))] m k = P35_5004 x_3 x_9 m (fun x_2' m' => k .ret (only [2] [(.flat (.int .i64 x_2'))]) m') (fun m' => k .normal (only [] []) m') := by
  kernel_rfl

theorem pok35_5004 : PieceOK Try.prog E35 Lam35 (((secsOf (bodyOf Try.f35)).filter Lam35.cut).getD 0 .skip) := by
  refine ⟨fun σ => ∃ x_3 x_9, σ 3 = .flat (.int .i64 x_3) ∧ σ 9 = .flat (.bool x_9), [3, 9], lxp35_5004, fun σ m k => ?_⟩
  have e : Lam35.piece (((secsOf (bodyOf Try.f35)).filter Lam35.cut).getD 0 .skip) σ m k = LamP35_5004 σ m k := by kernel_rfl
  rw [e]
  constructor
  · intro h
    unfold LamP35_5004 at h
    obtain ⟨x_3, h0, h⟩ := kI_ok h
    obtain ⟨x_9, h1, h⟩ := kbool_ok h
    refine ⟨⟨x_3, x_9, h0, h1⟩, ?_⟩
    have ev : [3, 9].map σ = [(.flat (.int .i64 x_3)), (.flat (.bool x_9))] := by simp only [List.map_cons, List.map_nil, h0, h1]
    rw [ev, pc35_5004]
    exact h
  · rintro ⟨⟨x_3, x_9, h0, h1⟩, h⟩
    have ev : [3, 9].map σ = [(.flat (.int .i64 x_3)), (.flat (.bool x_9))] := by simp only [List.map_cons, List.map_nil, h0, h1]
    rw [ev, pc35_5004] at h
    unfold LamP35_5004
    try simp only [h0, h1, kI, kbool, kS, kptr, kaggN, kite, decide_true, eq_self]
    exact h

theorem eqn35 (x_0 : Int) (m : Mem) (k : KV) : bodyK Try.prog E35 Lam35 Try.f35 true [(.flat (.int .u32 x_0))] m k = F35 x_0 m (fun x_1000 m' => k (.flat (.int .i64 x_1000)) m') := by
  kernel_rfl

theorem fs35 (w0 : World) : FS Try.prog w0 35 G35 := by
  refine (fs_body (Γ := E35) (sound_env (l := []) w0 (by
    intro p hp
    cases hp)) (by kernel_rfl) Try.func35 (Λ := Lam35) (c := (bodyOf Try.f35)) (by kernel_rfl) Try.call35 (by kernel_rfl) (LS_of (bodyOf Try.f35) 0 (by kernel_rfl) (fun i hi => absurd hi (Nat.not_lt_zero i)) 7 (by kernel_rfl) (by
    intro i hi
    match i, hi with
    | 0, _ => exact pok35_5004
    | 1, _ => exact pok35_9004
    | 2, _ => exact pok35_11004
    | 3, _ => exact pok35_15004
    | 4, _ => exact pok35_17004
    | 5, _ => exact pok35_19004
    | 6, _ => exact pok35_21004
    | i + 7, hi => omega)) true (np := 1) (Nat.le_of_ble_eq_true (by kernel_rfl))).imp fun args => ?_
  by_cases hl : args.length = 1
  rotate_left
  · exact .inr fun m k hk => by
      unfold G35 at hk
      split at hk
      · exact hl rfl
      · exact hk
  obtain ⟨a0, rfl⟩ : ∃ a0, args = [a0] := len_list1 hl
  rcases kI_or .u32 a0 with ⟨x_0, rfl⟩ | h
  rotate_left
  · exact .inr fun m k hk => h _ (by simpa only [G35, kI, kbool, kS, kptr, kaggN, kite, decide_true, eq_self] using hk)
  exact .inl fun m k => propext ⟨fun h => ⟨rfl, by rw [eqn35]; simpa only [G35, kI, kbool, kS, kptr, kaggN, kite, decide_true, eq_self] using h⟩, fun h => by have h := h.2; rw [eqn35] at h; simpa only [G35, kI, kbool, kS, kptr, kaggN, kite, decide_true, eq_self] using h⟩

def P36_4004 (x_0 : Int) (x_3 : Int) (x_4 : Bool) (m : Mem) (kr : Int → Mem → Prop) (kn : Mem → Prop) : Prop :=
  kif x_4 (kr (IntKind.wrap .i64 (36 + (IntKind.wrap .i64 x_0))) m) (kif (x_3 == 16) (kif (x_3 == 16) (kr (IntKind.wrap .i64 ((IntKind.wrap .i64 (38 + (IntKind.wrap .i64 x_0))) - 16)) m) (kn  m)) (kif (x_3 == 17) (kr (IntKind.wrap .i64 ((IntKind.wrap .i64 (38 + (IntKind.wrap .i64 x_0))) - 16)) m) (kn  m)))

/-- pianola/decode.regimm -/
def F36 (x_0 : Int) (m : Mem) (k : Int → Mem → Prop) : Prop :=
  kif (x_0 == 0) (P36_4004 x_0 x_0 (x_0 == 0) m (fun x1 m2 => (Keeps m m2 ∧ k x1 m)) (fun m3 => (Keeps m m3 ∧ k 0 m))) (P36_4004 x_0 x_0 (x_0 == 1) m (fun x4 m5 => (Keeps m m5 ∧ k x4 m)) (fun m6 => (Keeps m m6 ∧ k 0 m)))

def G36 (args : List AV) (m : Mem) (k : KV) : Prop := match args with
  | [a0] => kI .u32 a0 fun x_0 => F36 x_0 m (fun x_1000 m' => k (.flat (.int .i64 x_1000)) m')
  | _ => False

def E36 : Env := envOf []

def LamP36_4004 (σ : Nat → AV) (m : Mem) (k : KX) : Prop := kI .u32 (σ 0) fun x_0 => kI .u32 (σ 3) fun x_3 => kbool (σ 4) fun x_4 => P36_4004 x_0 x_3 x_4 m (fun x_2' m' => k .ret (only [2] [(.flat (.int .i64 x_2'))]) m') (fun m' => k .normal (only [] []) m')

def Lam36 : LEnv := ⟨fun a σ m k => match firstReg a with
  | _ => bump False,
  fun id => match id with
  | _ => bump false,
  fun b => match keyC b with
  | some 4004 => true
  | _ => bump false,
  fun b σ m k => match keyC b with
  | some 4004 => LamP36_4004 σ m k
  | _ => bump False⟩

def lxp36_4004 : Ex → List Nat := fun e => match e with
  | .ret => [2]
  | .normal => []
  | _ => []

theorem pc36_4004 (x_0 : Int) (x_3 : Int) (x_4 : Bool) (m : Mem) (k : KX) : once Try.prog E36 Lam36 [0, 3, 4] lxp36_4004 (((secsOf (bodyOf Try.f36)).filter Lam36.cut).getD 0 .skip) [(.flat (.int .u32 x_0)), (.flat (.int .u32 x_3)), (.flat (.bool x_4))] m k = P36_4004 x_0 x_3 x_4 m (fun x_2' m' => k .ret (only [2] [(.flat (.int .i64 x_2'))]) m') (fun m' => k .normal (only [] []) m') := by
  kernel_rfl

theorem pok36_4004 : PieceOK Try.prog E36 Lam36 (((secsOf (bodyOf Try.f36)).filter Lam36.cut).getD 0 .skip) := by
  refine ⟨fun σ => ∃ x_0 x_3 x_4, σ 0 = .flat (.int .u32 x_0) ∧ σ 3 = .flat (.int .u32 x_3) ∧ σ 4 = .flat (.bool x_4), [0, 3, 4], lxp36_4004, fun σ m k => ?_⟩
  have e : Lam36.piece (((secsOf (bodyOf Try.f36)).filter Lam36.cut).getD 0 .skip) σ m k = LamP36_4004 σ m k := by kernel_rfl
  rw [e]
  constructor
  · intro h
    unfold LamP36_4004 at h
    obtain ⟨x_0, h0, h⟩ := kI_ok h
    obtain ⟨x_3, h1, h⟩ := kI_ok h
    obtain ⟨x_4, h2, h⟩ := kbool_ok h
    refine ⟨⟨x_0, x_3, x_4, h0, h1, h2⟩, ?_⟩
    have ev : [0, 3, 4].map σ = [(.flat (.int .u32 x_0)), (.flat (.int .u32 x_3)), (.flat (.bool x_4))] := by simp only [List.map_cons, List.map_nil, h0, h1, h2]
    rw [ev, pc36_4004]
    exact h
  · rintro ⟨⟨x_0, x_3, x_4, h0, h1, h2⟩, h⟩
    have ev : [0, 3, 4].map σ = [(.flat (.int .u32 x_0)), (.flat (.int .u32 x_3)), (.flat (.bool x_4))] := by simp only [List.map_cons, List.map_nil, h0, h1, h2]
    rw [ev, pc36_4004] at h
    unfold LamP36_4004
    try simp only [h0, h1, h2, kI, kbool, kS, kptr, kaggN, kite, decide_true, eq_self]
    exact h

theorem eqn36 (x_0 : Int) (m : Mem) (k : KV) : bodyK Try.prog E36 Lam36 Try.f36 true [(.flat (.int .u32 x_0))] m k = F36 x_0 m (fun x_1000 m' => k (.flat (.int .i64 x_1000)) m') := by
  kernel_rfl

theorem fs36 (w0 : World) : FS Try.prog w0 36 G36 := by
  refine (fs_body (Γ := E36) (sound_env (l := []) w0 (by
    intro p hp
    cases hp)) (by kernel_rfl) Try.func36 (Λ := Lam36) (c := (bodyOf Try.f36)) (by kernel_rfl) Try.call36 (by kernel_rfl) (LS_of (bodyOf Try.f36) 0 (by kernel_rfl) (fun i hi => absurd hi (Nat.not_lt_zero i)) 1 (by kernel_rfl) (by
    intro i hi
    match i, hi with
    | 0, _ => exact pok36_4004
    | i + 1, hi => omega)) true (np := 1) (Nat.le_of_ble_eq_true (by kernel_rfl))).imp fun args => ?_
  by_cases hl : args.length = 1
  rotate_left
  · exact .inr fun m k hk => by
      unfold G36 at hk
      split at hk
      · exact hl rfl
      · exact hk
  obtain ⟨a0, rfl⟩ : ∃ a0, args = [a0] := len_list1 hl
  rcases kI_or .u32 a0 with ⟨x_0, rfl⟩ | h
  rotate_left
  · exact .inr fun m k hk => h _ (by simpa only [G36, kI, kbool, kS, kptr, kaggN, kite, decide_true, eq_self] using hk)
  exact .inl fun m k => propext ⟨fun h => ⟨rfl, by rw [eqn36]; simpa only [G36, kI, kbool, kS, kptr, kaggN, kite, decide_true, eq_self] using h⟩, fun h => by have h := h.2; rw [eqn36] at h; simpa only [G36, kI, kbool, kS, kptr, kaggN, kite, decide_true, eq_self] using h⟩

/-- pianola/decode.table -/
def F43 (x_0 : Int) (m : Mem) (k : Int → Mem → Prop) : Prop :=
  kif (x_0 == 1) ((Keeps m m ∧ k 56 m)) (kif (x_0 == 2) ((Keeps m m ∧ k 57 m)) (kif (x_0 == 6) ((Keeps m m ∧ k 58 m)) (kif (x_0 == 8) ((Keeps m m ∧ k 59 m)) (kif (x_0 == 24) ((Keeps m m ∧ k 60 m)) (kif (x_0 == 32) ((Keeps m m ∧ k 61 m)) ((Keeps m m ∧ k 0 m)))))))

def G43 (args : List AV) (m : Mem) (k : KV) : Prop := match args with
  | [a0] => kI .u32 a0 fun x_0 => F43 x_0 m (fun x_1000 m' => k (.flat (.int .i64 x_1000)) m')
  | _ => False

def E43 : Env := envOf []

def Lam43 : LEnv := ⟨fun a σ m k => match firstReg a with
  | _ => bump False,
  fun id => match id with
  | _ => bump false,
  fun b => match keyC b with
  | _ => bump false,
  fun b σ m k => match keyC b with
  | _ => bump False⟩

theorem eqn43 (x_0 : Int) (m : Mem) (k : KV) : bodyK Try.prog E43 Lam43 Try.f43 true [(.flat (.int .u32 x_0))] m k = F43 x_0 m (fun x_1000 m' => k (.flat (.int .i64 x_1000)) m') := by
  kernel_rfl

theorem fs43 (w0 : World) : FS Try.prog w0 43 G43 := by
  refine (fs_body (Γ := E43) (sound_env (l := []) w0 (by
    intro p hp
    cases hp)) (by kernel_rfl) Try.func43 (Λ := Lam43) (c := (bodyOf Try.f43)) (by kernel_rfl) Try.call43 (by kernel_rfl) (LS_of (bodyOf Try.f43) 0 (by kernel_rfl) (fun i hi => absurd hi (Nat.not_lt_zero i)) 0 (by kernel_rfl) (fun i hi => absurd hi (Nat.not_lt_zero i))) true (np := 1) (Nat.le_of_ble_eq_true (by kernel_rfl))).imp fun args => ?_
  by_cases hl : args.length = 1
  rotate_left
  · exact .inr fun m k hk => by
      unfold G43 at hk
      split at hk
      · exact hl rfl
      · exact hk
  obtain ⟨a0, rfl⟩ : ∃ a0, args = [a0] := len_list1 hl
  rcases kI_or .u32 a0 with ⟨x_0, rfl⟩ | h
  rotate_left
  · exact .inr fun m k hk => h _ (by simpa only [G43, kI, kbool, kS, kptr, kaggN, kite, decide_true, eq_self] using hk)
  exact .inl fun m k => propext ⟨fun h => ⟨rfl, by rw [eqn43]; simpa only [G43, kI, kbool, kS, kptr, kaggN, kite, decide_true, eq_self] using h⟩, fun h => by have h := h.2; rw [eqn43] at h; simpa only [G43, kI, kbool, kS, kptr, kaggN, kite, decide_true, eq_self] using h⟩

/-- pianola/decode.cop0 -/
def F37 (x_0 : Int) (m : Mem) (k : Int → Mem → Prop) : Prop :=
  kif ((bits .and .u32 (x_0.fdiv 2097152) 31) == 0) ((Keeps m m ∧ k 54 m)) (kif ((bits .and .u32 (x_0.fdiv 2097152) 31) == 4) ((Keeps m m ∧ k 55 m)) (kif ((bits .and .u32 (x_0.fdiv 2097152) 31) == 16) (F43 (bits .and .u32 x_0 63) m fun x1 m2 => (Keeps m m2 ∧ k x1 m)) ((Keeps m m ∧ k 0 m))))

def G37 (args : List AV) (m : Mem) (k : KV) : Prop := match args with
  | [a0] => kI .u32 a0 fun x_0 => F37 x_0 m (fun x_1000 m' => k (.flat (.int .i64 x_1000)) m')
  | _ => False

def E37 : Env := envOf [(43, G43)]

def Lam37 : LEnv := ⟨fun a σ m k => match firstReg a with
  | _ => bump False,
  fun id => match id with
  | _ => bump false,
  fun b => match keyC b with
  | _ => bump false,
  fun b σ m k => match keyC b with
  | _ => bump False⟩

theorem eqn37 (x_0 : Int) (m : Mem) (k : KV) : bodyK Try.prog E37 Lam37 Try.f37 true [(.flat (.int .u32 x_0))] m k = F37 x_0 m (fun x_1000 m' => k (.flat (.int .i64 x_1000)) m') := by
  kernel_rfl

theorem fs37 (w0 : World) : FS Try.prog w0 37 G37 := by
  refine (fs_body (Γ := E37) (sound_env (l := [(43, G43)]) w0 (by
    intro p hp
    simp only [List.mem_cons, List.not_mem_nil, or_false] at hp
    rcases hp with rfl
    · exact fs43 w0)) (by kernel_rfl) Try.func37 (Λ := Lam37) (c := (bodyOf Try.f37)) (by kernel_rfl) Try.call37 (by kernel_rfl) (LS_of (bodyOf Try.f37) 0 (by kernel_rfl) (fun i hi => absurd hi (Nat.not_lt_zero i)) 0 (by kernel_rfl) (fun i hi => absurd hi (Nat.not_lt_zero i))) true (np := 1) (Nat.le_of_ble_eq_true (by kernel_rfl))).imp fun args => ?_
  by_cases hl : args.length = 1
  rotate_left
  · exact .inr fun m k hk => by
      unfold G37 at hk
      split at hk
      · exact hl rfl
      · exact hk
  obtain ⟨a0, rfl⟩ : ∃ a0, args = [a0] := len_list1 hl
  rcases kI_or .u32 a0 with ⟨x_0, rfl⟩ | h
  rotate_left
  · exact .inr fun m k hk => h _ (by simpa only [G37, kI, kbool, kS, kptr, kaggN, kite, decide_true, eq_self] using hk)
  exact .inl fun m k => propext ⟨fun h => ⟨rfl, by rw [eqn37]; simpa only [G37, kI, kbool, kS, kptr, kaggN, kite, decide_true, eq_self] using h⟩, fun h => by have h := h.2; rw [eqn37] at h; simpa only [G37, kI, kbool, kS, kptr, kaggN, kite, decide_true, eq_self] using h⟩

/-- pianola/decode.special2 -/
def F38 (x_0 : Int) (m : Mem) (k : Int → Mem → Prop) : Prop :=
  kif (x_0 == 2) ((Keeps m m ∧ k 63 m)) (kif (x_0 == 32) (kif (x_0 == 32) ((Keeps m m ∧ k (IntKind.wrap .i64 ((IntKind.wrap .i64 (64 + (IntKind.wrap .i64 x_0))) - 32)) m)) ((Keeps m m ∧ k 0 m))) (kif (x_0 == 33) ((Keeps m m ∧ k (IntKind.wrap .i64 ((IntKind.wrap .i64 (64 + (IntKind.wrap .i64 x_0))) - 32)) m)) ((Keeps m m ∧ k 0 m))))

def G38 (args : List AV) (m : Mem) (k : KV) : Prop := match args with
  | [a0] => kI .u32 a0 fun x_0 => F38 x_0 m (fun x_1000 m' => k (.flat (.int .i64 x_1000)) m')
  | _ => False

def E38 : Env := envOf []

def Lam38 : LEnv := ⟨fun a σ m k => match firstReg a with
  | _ => bump False,
  fun id => match id with
  | _ => bump false,
  fun b => match keyC b with
  | _ => bump false,
  fun b σ m k => match keyC b with
  | _ => bump False⟩

theorem eqn38 (x_0 : Int) (m : Mem) (k : KV) : bodyK Try.prog E38 Lam38 Try.f38 true [(.flat (.int .u32 x_0))] m k = F38 x_0 m (fun x_1000 m' => k (.flat (.int .i64 x_1000)) m') := by
  kernel_rfl

theorem fs38 (w0 : World) : FS Try.prog w0 38 G38 := by
  refine (fs_body (Γ := E38) (sound_env (l := []) w0 (by
    intro p hp
    cases hp)) (by kernel_rfl) Try.func38 (Λ := Lam38) (c := (bodyOf Try.f38)) (by kernel_rfl) Try.call38 (by kernel_rfl) (LS_of (bodyOf Try.f38) 0 (by kernel_rfl) (fun i hi => absurd hi (Nat.not_lt_zero i)) 0 (by kernel_rfl) (fun i hi => absurd hi (Nat.not_lt_zero i))) true (np := 1) (Nat.le_of_ble_eq_true (by kernel_rfl))).imp fun args => ?_
  by_cases hl : args.length = 1
  rotate_left
  · exact .inr fun m k hk => by
      unfold G38 at hk
      split at hk
      · exact hl rfl
      · exact hk
  obtain ⟨a0, rfl⟩ : ∃ a0, args = [a0] := len_list1 hl
  rcases kI_or .u32 a0 with ⟨x_0, rfl⟩ | h
  rotate_left
  · exact .inr fun m k hk => h _ (by simpa only [G38, kI, kbool, kS, kptr, kaggN, kite, decide_true, eq_self] using hk)
  exact .inl fun m k => propext ⟨fun h => ⟨rfl, by rw [eqn38]; simpa only [G38, kI, kbool, kS, kptr, kaggN, kite, decide_true, eq_self] using h⟩, fun h => by have h := h.2; rw [eqn38] at h; simpa only [G38, kI, kbool, kS, kptr, kaggN, kite, decide_true, eq_self] using h⟩

def P39_13004 (x_3 : Int) (x_49 : Bool) (m : Mem) (kr : Int → Mem → Prop) (kn : Mem → Prop) : Prop :=
  kif x_49 (kr (IntKind.wrap .i64 ((IntKind.wrap .i64 (71 + x_3)) - 40)) m) (kif (x_3 == 43) (kr 73 m) (kif (x_3 == 47) (kr 76 m) (kif (x_3 == 48) (kr 74 m) (kif (x_3 == 51) (kr 77 m) (kif (x_3 == 56) (kr 75 m) (kn  m))))))

def P39_11004 (x_3 : Int) (x_39 : Bool) (m : Mem) (kr : Int → Mem → Prop) (kn : Mem → Prop) : Prop :=
  kif x_39 (kr (IntKind.wrap .i64 ((IntKind.wrap .i64 (68 + x_3)) - 35)) m) (kif (x_3 == 40) (P39_13004 x_3 true m (fun x1 m2 => kr x1 m2) (fun m3 => kn  m3)) (P39_13004 x_3 (x_3 == 41) m (fun x4 m5 => kr x4 m5) (fun m6 => kn  m6)))

def P39_9004 (x_3 : Int) (x_29 : Bool) (m : Mem) (kr : Int → Mem → Prop) (kn : Mem → Prop) : Prop :=
  kif x_29 (kr (IntKind.wrap .i64 ((IntKind.wrap .i64 (66 + x_3)) - 32)) m) (kif (decide (x_3 ≥ 35)) (P39_11004 x_3 (decide (x_3 ≤ 37)) m (fun x7 m8 => kr x7 m8) (fun m9 => kn  m9)) (P39_11004 x_3 false m (fun x10 m11 => kr x10 m11) (fun m12 => kn  m12)))

def P39_5004 (x_3 : Int) (x_16 : Bool) (m : Mem) (kr : Int → Mem → Prop) (kn : Mem → Prop) : Prop :=
  kif x_16 (kr (IntKind.wrap .i64 ((IntKind.wrap .i64 (46 + x_3)) - 8)) m) (kif (x_3 == 17) (kr 62 m) (kif (x_3 == 32) (P39_9004 x_3 true m (fun x13 m14 => kr x13 m14) (fun m15 => kn  m15)) (P39_9004 x_3 (x_3 == 33) m (fun x16 m17 => kr x16 m17) (fun m18 => kn  m18))))

def P39_3004 (x_3 : Int) (x_6 : Bool) (m : Mem) (kr : Int → Mem → Prop) (kn : Mem → Prop) : Prop :=
  kif x_6 (kr (IntKind.wrap .i64 ((IntKind.wrap .i64 (40 + x_3)) - 2)) m) (kif (decide (x_3 ≥ 8)) (P39_5004 x_3 (decide (x_3 ≤ 15)) m (fun x19 m20 => kr x19 m20) (fun m21 => kn  m21)) (P39_5004 x_3 false m (fun x22 m23 => kr x22 m23) (fun m24 => kn  m24)))

/-- pianola/decode.major -/
def F39 (x_0 : Int) (m : Mem) (k : Int → Mem → Prop) : Prop :=
  kif (decide ((IntKind.wrap .i64 x_0) ≥ 2)) (P39_3004 (IntKind.wrap .i64 x_0) (decide ((IntKind.wrap .i64 x_0) ≤ 7)) m (fun x25 m26 => (Keeps m m26 ∧ k x25 m)) (fun m27 => (Keeps m m27 ∧ k 0 m))) (P39_3004 (IntKind.wrap .i64 x_0) false m (fun x28 m29 => (Keeps m m29 ∧ k x28 m)) (fun m30 => (Keeps m m30 ∧ k 0 m)))

def G39 (args : List AV) (m : Mem) (k : KV) : Prop := match args with
  | [a0] => kI .u32 a0 fun x_0 => F39 x_0 m (fun x_1000 m' => k (.flat (.int .i64 x_1000)) m')
  | _ => False

def E39 : Env := envOf []

def LamP39_3004 (σ : Nat → AV) (m : Mem) (k : KX) : Prop := kI .i64 (σ 3) fun x_3 => kbool (σ 6) fun x_6 => P39_3004 x_3 x_6 m (fun x_2' m' => k .ret (only [2] [(.flat (.int .i64 x_2'))]) m') (fun m' => k .normal (only [] []) m')

def LamP39_5004 (σ : Nat → AV) (m : Mem) (k : KX) : Prop := kI .i64 (σ 3) fun x_3 => kbool (σ 16) fun x_16 => P39_5004 x_3 x_16 m (fun x_2' m' => k .ret (only [2] [(.flat (.int .i64 x_2'))]) m') (fun m' => k .normal (only [] []) m')

def LamP39_9004 (σ : Nat → AV) (m : Mem) (k : KX) : Prop := kI .i64 (σ 3) fun x_3 => kbool (σ 29) fun x_29 => P39_9004 x_3 x_29 m (fun x_2' m' => k .ret (only [2] [(.flat (.int .i64 x_2'))]) m') (fun m' => k .normal (only [] []) m')

def LamP39_11004 (σ : Nat → AV) (m : Mem) (k : KX) : Prop := kI .i64 (σ 3) fun x_3 => kbool (σ 39) fun x_39 => P39_11004 x_3 x_39 m (fun x_2' m' => k .ret (only [2] [(.flat (.int .i64 x_2'))]) m') (fun m' => k .normal (only [] []) m')

def LamP39_13004 (σ : Nat → AV) (m : Mem) (k : KX) : Prop := kI .i64 (σ 3) fun x_3 => kbool (σ 49) fun x_49 => P39_13004 x_3 x_49 m (fun x_2' m' => k .ret (only [2] [(.flat (.int .i64 x_2'))]) m') (fun m' => k .normal (only [] []) m')

def Lam39 : LEnv := ⟨fun a σ m k => match firstReg a with
  | _ => bump False,
  fun id => match id with
  | _ => bump false,
  fun b => match keyC b with
  | some 3004 => true
  | some 5004 => true
  | some 9004 => true
  | some 11004 => true
  | some 13004 => true
  | _ => bump false,
  fun b σ m k => match keyC b with
  | some 3004 => LamP39_3004 σ m k
  | some 5004 => LamP39_5004 σ m k
  | some 9004 => LamP39_9004 σ m k
  | some 11004 => LamP39_11004 σ m k
  | some 13004 => LamP39_13004 σ m k
  | _ => bump False⟩

def lxp39_13004 : Ex → List Nat := fun e => match e with
  | .ret => [2]
  | .normal => []
  | _ => []

theorem pc39_13004 (x_3 : Int) (x_49 : Bool) (m : Mem) (k : KX) : once Try.prog E39 Lam39 [3, 49] lxp39_13004 (((secsOf (bodyOf Try.f39)).filter Lam39.cut).getD 4 .skip) [(.flat (.int .i64 x_3)), (.flat (.bool x_49))] m k = P39_13004 x_3 x_49 m (fun x_2' m' => k .ret (only [2] [(.flat (.int .i64 x_2'))]) m') (fun m' => k .normal (only [] []) m') := by
  kernel_rfl

theorem pok39_13004 : PieceOK Try.prog E39 Lam39 (((secsOf (bodyOf Try.f39)).filter Lam39.cut).getD 4 .skip) := by
  refine ⟨fun σ => ∃ x_3 x_49, σ 3 = .flat (.int .i64 x_3) ∧ σ 49 = .flat (.bool x_49), [3, 49], lxp39_13004, fun σ m k => ?_⟩
  have e : Lam39.piece (((secsOf (bodyOf Try.f39)).filter Lam39.cut).getD 4 .skip) σ m k = LamP39_13004 σ m k := by kernel_rfl
  rw [e]
  constructor
  · intro h
    unfold LamP39_13004 at h
    obtain ⟨x_3, h0, h⟩ := kI_ok h
    obtain ⟨x_49, h1, h⟩ := kbool_ok h
    refine ⟨⟨x_3, x_49, h0, h1⟩, ?_⟩
    have ev : [3, 49].map σ = [(.flat (.int .i64 x_3)), (.flat (.bool x_49))] := by simp only [List.map_cons, List.map_nil, h0, h1]
    rw [ev, pc39_13004]
    exact h
  · rintro ⟨⟨x_3, x_49, h0, h1⟩, h⟩
    have ev : [3, 49].map σ = [(.flat (.int .i64 x_3)), (.flat (.bool x_49))] := by simp only [List.map_cons, List.map_nil, h0, h1]
    rw [ev, pc39_13004] at h
    unfold LamP39_13004
    try simp only [h0, h1, kI, kbool, kS, kptr, kaggN, kite, decide_true, eq_self]
    exact h

def lxp39_11004 : Ex → List Nat := fun e => match e with
  | .ret => [2]
  | .normal => []
  | _ => []

theorem pc39_11004 (x_3 : Int) (x_39 : Bool) (m : Mem) (k : KX) : once Try.prog E39 Lam39 [3, 39] lxp39_11004 (((secsOf (bodyOf Try.f39)).filter Lam39.cut).getD 3 .skip) [(.flat (.int .i64 x_3)), (.flat (.bool x_39))] m k = P39_11004 x_3 x_39 m (fun x_2' m' => k .ret (only [2] [(.flat (.int .i64 x_2'))]) m') (fun m' => k .normal (only [] []) m') := by
  kernel_rfl

theorem pok39_11004 : PieceOK Try.prog E39 Lam39 (((secsOf (bodyOf Try.f39)).filter Lam39.cut).getD 3 .skip) := by
  refine ⟨fun σ => ∃ x_3 x_39, σ 3 = .flat (.int .i64 x_3) ∧ σ 39 = .flat (.bool x_39), [3, 39], lxp39_11004, fun σ m k => ?_⟩
  have e : Lam39.piece (((secsOf (bodyOf Try.f39)).filter Lam39.cut).getD 3 .skip) σ m k = LamP39_11004 σ m k := by kernel_rfl
  rw [e]
  constructor
  · intro h
    unfold LamP39_11004 at h
    obtain ⟨x_3, h0, h⟩ := kI_ok h
    obtain ⟨x_39, h1, h⟩ := kbool_ok h
    refine ⟨⟨x_3, x_39, h0, h1⟩, ?_⟩
    have ev : [3, 39].map σ = [(.flat (.int .i64 x_3)), (.flat (.bool x_39))] := by simp only [List.map_cons, List.map_nil, h0, h1]
    rw [ev, pc39_11004]
    exact h
  · rintro ⟨⟨x_3, x_39, h0, h1⟩, h⟩
    have ev : [3, 39].map σ = [(.flat (.int .i64 x_3)), (.flat (.bool x_39))] := by simp only [List.map_cons, List.map_nil, h0, h1]
    rw [ev, pc39_11004] at h
    unfold LamP39_11004
    try simp only [h0, h1, kI, kbool, kS, kptr, kaggN, kite, decide_true, eq_self]
    exact h

def lxp39_9004 : Ex → List Nat := fun e => match e with
  | .ret => [2]
  | .normal => []
  | _ => []

theorem pc39_9004 (x_3 : Int) (x_29 : Bool) (m : Mem) (k : KX) : once Try.prog E39 Lam39 [3, 29] lxp39_9004 (((secsOf (bodyOf Try.f39)).filter Lam39.cut).getD 2 .skip) [(.flat (.int .i64 x_3)), (.flat (.bool x_29))] m k = P39_9004 x_3 x_29 m (fun x_2' m' => k .ret (only [2] [(.flat (.int .i64 x_2'))]) m') (fun m' => k .normal (only [] []) m') := by
  kernel_rfl

theorem pok39_9004 : PieceOK Try.prog E39 Lam39 (((secsOf (bodyOf Try.f39)).filter Lam39.cut).getD 2 .skip) := by
  refine ⟨fun σ => ∃ x_3 x_29, σ 3 = .flat (.int .i64 x_3) ∧ σ 29 = .flat (.bool x_29), [3, 29], lxp39_9004, fun σ m k => ?_⟩
  have e : Lam39.piece (((secsOf (bodyOf Try.f39)).filter Lam39.cut).getD 2 .skip) σ m k = LamP39_9004 σ m k := by kernel_rfl
  rw [e]
  constructor
  · intro h
    unfold LamP39_9004 at h
    obtain ⟨x_3, h0, h⟩ := kI_ok h
    obtain ⟨x_29, h1, h⟩ := kbool_ok h
    refine ⟨⟨x_3, x_29, h0, h1⟩, ?_⟩
    have ev : [3, 29].map σ = [(.flat (.int .i64 x_3)), (.flat (.bool x_29))] := by simp only [List.map_cons, List.map_nil, h0, h1]
    rw [ev, pc39_9004]
    exact h
  · rintro ⟨⟨x_3, x_29, h0, h1⟩, h⟩
    have ev : [3, 29].map σ = [(.flat (.int .i64 x_3)), (.flat (.bool x_29))] := by simp only [List.map_cons, List.map_nil, h0, h1]
    rw [ev, pc39_9004] at h
    unfold LamP39_9004
    try simp only [h0, h1, kI, kbool, kS, kptr, kaggN, kite, decide_true, eq_self]
    exact h

def lxp39_5004 : Ex → List Nat := fun e => match e with
  | .ret => [2]
  | .normal => []
  | _ => []

theorem pc39_5004 (x_3 : Int) (x_16 : Bool) (m : Mem) (k : KX) : once Try.prog E39 Lam39 [3, 16] lxp39_5004 (((secsOf (bodyOf Try.f39)).filter Lam39.cut).getD 1 .skip) [(.flat (.int .i64 x_3)), (.flat (.bool x_16))] m k = P39_5004 x_3 x_16 m (fun x_2' m' => k .ret (only [2] [(.flat (.int .i64 x_2'))]) m') (fun m' => k .normal (only [] []) m') := by
  kernel_rfl

theorem pok39_5004 : PieceOK Try.prog E39 Lam39 (((secsOf (bodyOf Try.f39)).filter Lam39.cut).getD 1 .skip) := by
  refine ⟨fun σ => ∃ x_3 x_16, σ 3 = .flat (.int .i64 x_3) ∧ σ 16 = .flat (.bool x_16), [3, 16], lxp39_5004, fun σ m k => ?_⟩
  have e : Lam39.piece (((secsOf (bodyOf Try.f39)).filter Lam39.cut).getD 1 .skip) σ m k = LamP39_5004 σ m k := by kernel_rfl
  rw [e]
  constructor
  · intro h
    unfold LamP39_5004 at h
    obtain ⟨x_3, h0, h⟩ := kI_ok h
    obtain ⟨x_16, h1, h⟩ := kbool_ok h
    refine ⟨⟨x_3, x_16, h0, h1⟩, ?_⟩
    have ev : [3, 16].map σ = [(.flat (.int .i64 x_3)), (.flat (.bool x_16))] := by simp only [List.map_cons, List.map_nil, h0, h1]
    rw [ev, pc39_5004]
    exact h
  · rintro ⟨⟨x_3, x_16, h0, h1⟩, h⟩
    have ev : [3, 16].map σ = [(.flat (.int .i64 x_3)), (.flat (.bool x_16))] := by simp only [List.map_cons, List.map_nil, h0, h1]
    rw [ev, pc39_5004] at h
    unfold LamP39_5004
    try simp only [h0, h1, kI, kbool, kS, kptr, kaggN, kite, decide_true, eq_self]
    exact h

def lxp39_3004 : Ex → List Nat := fun e => match e with
  | .ret => [2]
  | .normal => []
  | _ => []

theorem pc39_3004 (x_3 : Int) (x_6 : Bool) (m : Mem) (k : KX) : once Try.prog E39 Lam39 [3, 6] lxp39_3004 (((secsOf (bodyOf Try.f39)).filter Lam39.cut).getD 0 .skip) [(.flat (.int .i64 x_3)), (.flat (.bool x_6))] m k = P39_3004 x_3 x_6 m (fun x_2' m' => k .ret (only [2] [(.flat (.int .i64 x_2'))]) m') (fun m' => k .normal (only [] []) m') := by
  kernel_rfl

theorem pok39_3004 : PieceOK Try.prog E39 Lam39 (((secsOf (bodyOf Try.f39)).filter Lam39.cut).getD 0 .skip) := by
  refine ⟨fun σ => ∃ x_3 x_6, σ 3 = .flat (.int .i64 x_3) ∧ σ 6 = .flat (.bool x_6), [3, 6], lxp39_3004, fun σ m k => ?_⟩
  have e : Lam39.piece (((secsOf (bodyOf Try.f39)).filter Lam39.cut).getD 0 .skip) σ m k = LamP39_3004 σ m k := by kernel_rfl
  rw [e]
  constructor
  · intro h
    unfold LamP39_3004 at h
    obtain ⟨x_3, h0, h⟩ := kI_ok h
    obtain ⟨x_6, h1, h⟩ := kbool_ok h
    refine ⟨⟨x_3, x_6, h0, h1⟩, ?_⟩
    have ev : [3, 6].map σ = [(.flat (.int .i64 x_3)), (.flat (.bool x_6))] := by simp only [List.map_cons, List.map_nil, h0, h1]
    rw [ev, pc39_3004]
    exact h
  · rintro ⟨⟨x_3, x_6, h0, h1⟩, h⟩
    have ev : [3, 6].map σ = [(.flat (.int .i64 x_3)), (.flat (.bool x_6))] := by simp only [List.map_cons, List.map_nil, h0, h1]
    rw [ev, pc39_3004] at h
    unfold LamP39_3004
    try simp only [h0, h1, kI, kbool, kS, kptr, kaggN, kite, decide_true, eq_self]
    exact h

theorem eqn39 (x_0 : Int) (m : Mem) (k : KV) : bodyK Try.prog E39 Lam39 Try.f39 true [(.flat (.int .u32 x_0))] m k = F39 x_0 m (fun x_1000 m' => k (.flat (.int .i64 x_1000)) m') := by
  kernel_rfl

theorem fs39 (w0 : World) : FS Try.prog w0 39 G39 := by
  refine (fs_body (Γ := E39) (sound_env (l := []) w0 (by
    intro p hp
    cases hp)) (by kernel_rfl) Try.func39 (Λ := Lam39) (c := (bodyOf Try.f39)) (by kernel_rfl) Try.call39 (by kernel_rfl) (LS_of (bodyOf Try.f39) 0 (by kernel_rfl) (fun i hi => absurd hi (Nat.not_lt_zero i)) 5 (by kernel_rfl) (by
    intro i hi
    match i, hi with
    | 0, _ => exact pok39_3004
    | 1, _ => exact pok39_5004
    | 2, _ => exact pok39_9004
    | 3, _ => exact pok39_11004
    | 4, _ => exact pok39_13004
    | i + 5, hi => omega)) true (np := 1) (Nat.le_of_ble_eq_true (by kernel_rfl))).imp fun args => ?_
  by_cases hl : args.length = 1
  rotate_left
  · exact .inr fun m k hk => by
      unfold G39 at hk
      split at hk
      · exact hl rfl
      · exact hk
  obtain ⟨a0, rfl⟩ : ∃ a0, args = [a0] := len_list1 hl
  rcases kI_or .u32 a0 with ⟨x_0, rfl⟩ | h
  rotate_left
  · exact .inr fun m k hk => h _ (by simpa only [G39, kI, kbool, kS, kptr, kaggN, kite, decide_true, eq_self] using hk)
  exact .inl fun m k => propext ⟨fun h => ⟨rfl, by rw [eqn39]; simpa only [G39, kI, kbool, kS, kptr, kaggN, kite, decide_true, eq_self] using h⟩, fun h => by have h := h.2; rw [eqn39] at h; simpa only [G39, kI, kbool, kS, kptr, kaggN, kite, decide_true, eq_self] using h⟩

/-- pianola/decode.kind -/
def F26 (x_0 : Int) (m : Mem) (k : Int → Mem → Prop) : Prop :=
  kif ((x_0.fdiv 67108864) == 0) (F35 (bits .and .u32 x_0 63) m fun x1 m2 => (Keeps m m2 ∧ k x1 m)) (kif ((x_0.fdiv 67108864) == 1) (F36 (bits .and .u32 (x_0.fdiv 65536) 31) m fun x3 m4 => (Keeps m m4 ∧ k x3 m)) (kif ((x_0.fdiv 67108864) == 16) (F37 x_0 m fun x5 m6 => (Keeps m m6 ∧ k x5 m)) (kif ((x_0.fdiv 67108864) == 28) (F38 (bits .and .u32 x_0 63) m fun x7 m8 => (Keeps m m8 ∧ k x7 m)) (F39 (x_0.fdiv 67108864) m fun x9 m10 => (Keeps m m10 ∧ k x9 m)))))

def G26 (args : List AV) (m : Mem) (k : KV) : Prop := match args with
  | [a0] => kI .u32 a0 fun x_0 => F26 x_0 m (fun x_1000 m' => k (.flat (.int .i64 x_1000)) m')
  | _ => False

def E26 : Env := envOf [(35, G35), (36, G36), (37, G37), (38, G38), (39, G39)]

def Lam26 : LEnv := ⟨fun a σ m k => match firstReg a with
  | _ => bump False,
  fun id => match id with
  | _ => bump false,
  fun b => match keyC b with
  | _ => bump false,
  fun b σ m k => match keyC b with
  | _ => bump False⟩

theorem eqn26 (x_0 : Int) (m : Mem) (k : KV) : bodyK Try.prog E26 Lam26 Try.f26 true [(.flat (.int .u32 x_0))] m k = F26 x_0 m (fun x_1000 m' => k (.flat (.int .i64 x_1000)) m') := by
  kernel_rfl

theorem fs26 (w0 : World) : FS Try.prog w0 26 G26 := by
  refine (fs_body (Γ := E26) (sound_env (l := [(35, G35), (36, G36), (37, G37), (38, G38), (39, G39)]) w0 (by
    intro p hp
    simp only [List.mem_cons, List.not_mem_nil, or_false] at hp
    rcases hp with rfl | rfl | rfl | rfl | rfl
    · exact fs35 w0
    · exact fs36 w0
    · exact fs37 w0
    · exact fs38 w0
    · exact fs39 w0)) (by kernel_rfl) Try.func26 (Λ := Lam26) (c := (bodyOf Try.f26)) (by kernel_rfl) Try.call26 (by kernel_rfl) (LS_of (bodyOf Try.f26) 0 (by kernel_rfl) (fun i hi => absurd hi (Nat.not_lt_zero i)) 0 (by kernel_rfl) (fun i hi => absurd hi (Nat.not_lt_zero i))) true (np := 1) (Nat.le_of_ble_eq_true (by kernel_rfl))).imp fun args => ?_
  by_cases hl : args.length = 1
  rotate_left
  · exact .inr fun m k hk => by
      unfold G26 at hk
      split at hk
      · exact hl rfl
      · exact hk
  obtain ⟨a0, rfl⟩ : ∃ a0, args = [a0] := len_list1 hl
  rcases kI_or .u32 a0 with ⟨x_0, rfl⟩ | h
  rotate_left
  · exact .inr fun m k hk => h _ (by simpa only [G26, kI, kbool, kS, kptr, kaggN, kite, decide_true, eq_self] using hk)
  exact .inl fun m k => propext ⟨fun h => ⟨rfl, by rw [eqn26]; simpa only [G26, kI, kbool, kS, kptr, kaggN, kite, decide_true, eq_self] using h⟩, fun h => by have h := h.2; rw [eqn26] at h; simpa only [G26, kI, kbool, kS, kptr, kaggN, kite, decide_true, eq_self] using h⟩

def R23_6 (x_0 : Int) (x_7 : Int) (v_26 : AV) (x_27 : Int) (x_3 : Int) (x_28 : Int) (m : Mem) (kn : Int → Int → Mem → Prop) (k2 : Int → Mem → Prop) (k0 : Int → Mem → Prop) : Prop :=
  kif (decide (x_28 < x_27)) (ksl v_26 fun b3 o4 l5 p6 => kif (decide (0 ≤ x_28) && decide (x_28 < l5)) (ldI .u32 m b3 (o4 + (x_28).toNat * 1) fun x7 => F26 x7 m fun x8 m9 => kif (x8 == x_0) (k0 x7 m9) (kn x_3 (IntKind.wrap .i64 (x_28 + 1)) m9)) False) (k2 x_3 m)

def L23_6 (x_0 : Int) (x_7 : Int) (v_26 : AV) (x_27 : Int) : Nat → Int → Int → Mem → (Int → Mem → Prop) → (Int → Mem → Prop) → Prop
  | 0, _, _,  _, _, _ => bump False
  | N + 1, x_3, x_28,  m, k2, k0 => R23_6 x_0 x_7 v_26 x_27 x_3 x_28 m (fun x_3' x_28' m' => L23_6 x_0 x_7 v_26 x_27 N x_3' x_28' m' k2 k0) k2 k0

def R23_3 (x_0 : Int) (x_3 : Int) (x_7 : Int) (m : Mem) (kn : Int → Int → Mem → Prop) (k0 : Int → Mem → Prop) : Prop :=
  kif (decide (x_7 < 64)) (newK m ⟨6, upd (upd (upd (upd (upd (upd (Z6b) 0 (.flat (.int .u32 (IntKind.wrap .u32 (x_7 * 67108864))))) 1 (.flat (.int .u32 (bits .or .u32 0 x_7)))) 2 (.flat (.int .u32 (bits .or .u32 67108864 (IntKind.wrap .u32 ((bits .and .u32 x_7 31) * 65536)))))) 3 (.flat (.int .u32 (bits .or .u32 1073741824 (IntKind.wrap .u32 ((bits .and .u32 x_7 31) * 2097152)))))) 4 (.flat (.int .u32 (bits .or .u32 1107296256 x_7)))) 5 (.flat (.int .u32 (bits .or .u32 1879048192 x_7))), 22, false⟩ fun b2 m1 => ∃ N14, L23_6 x_0 x_7 (.sl b2 0 6 (.ex 6)) 6 N14 x_3 0 m1 (fun x10 m11 => kn x10 (IntKind.wrap .u32 (x_7 + 1)) m11) (fun x12 m13 => k0 x12 m13)) (k0 x_3 m)

def L23_3 (x_0 : Int) : Nat → Int → Int → Mem → (Int → Mem → Prop) → Prop
  | 0, _, _,  _, _ => bump False
  | N + 1, x_3, x_7,  m, k0 => R23_3 x_0 x_3 x_7 m (fun x_3' x_7' m' => L23_3 x_0 N x_3' x_7' m' k0) k0

/-- pianola/decode.head -/
def F23 (x_0 : Int) (m : Mem) (k : Int → Mem → Prop) : Prop :=
  ∃ N17, L23_3 x_0 N17 0 0 m (fun x15 m16 => (Keeps m m16 ∧ k x15 m))

def G23 (args : List AV) (m : Mem) (k : KV) : Prop := match args with
  | [a0] => kI .i64 a0 fun x_0 => F23 x_0 m (fun x_1000 m' => k (.flat (.int .u32 x_1000)) m')
  | _ => False

def E23 : Env := envOf [(26, G26)]

def Lam23_3 (σ : Nat → AV) (m : Mem) (k : KX) : Prop := kI .i64 (σ 0) fun x_0 => kI .u32 (σ 3) fun x_3 => kI .u32 (σ 7) fun x_7 => ∃ N, L23_3 x_0 N x_3 x_7 m (fun x_3' m' => k (.exit 0) (only [3] [(.flat (.int .u32 x_3'))]) m')

def Lam23_6 (σ : Nat → AV) (m : Mem) (k : KX) : Prop := kI .i64 (σ 0) fun x_0 => kI .u32 (σ 3) fun x_3 => kI .u32 (σ 7) fun x_7 => kI .i64 (σ 27) fun x_27 => kI .i64 (σ 28) fun x_28 => ∃ N, L23_6 x_0 x_7 (σ 26) x_27 N x_3 x_28 m (fun x_3' m' => k (.exit 2) (only [0, 3, 7] [(.flat (.int .i64 x_0)), (.flat (.int .u32 x_3')), (.flat (.int .u32 x_7))]) m') (fun x_3' m' => k (.exit 0) (only [3] [(.flat (.int .u32 x_3'))]) m')

def Lam23 : LEnv := ⟨fun a σ m k => match firstReg a with
  | some 3 => Lam23_3 σ m k
  | some 6 => Lam23_6 σ m k
  | _ => bump False,
  fun id => match id with
  | _ => bump false,
  fun b => match keyC b with
  | _ => bump false,
  fun b σ m k => match keyC b with
  | _ => bump False⟩

def lx23_6 : Ex → List Nat := fun e => match e with
  | .exit 2 => [0, 3, 7]
  | .exit 0 => [3]
  | _ => []

theorem round23_6 (x_0 : Int) (x_7 : Int) (v_26 : AV) (x_27 : Int) (x_3 : Int) (x_28 : Int) (m : Mem) (G : List AV → Mem → Prop) (k : KX) : (wpA Try.prog E23 Lam23 ((loopsOf (bodyOf Try.f23)).getD 1 .skip) (only [0, 3, 7, 26, 27, 28] [(.flat (.int .i64 x_0)), (.flat (.int .u32 x_3)), (.flat (.int .u32 x_7)), v_26, (.flat (.int .i64 x_27)), (.flat (.int .i64 x_28))]) m fun e σ' m' => match e with
    | .normal => G ([0, 3, 7, 26, 27, 28].map σ') m'
    | .exit id => k (.exit id) (only (lx23_6 (.exit id)) ((lx23_6 (.exit id)).map σ')) m'
    | .ret => k .ret (only (lx23_6 .ret) ((lx23_6 .ret).map σ')) m') = R23_6 x_0 x_7 v_26 x_27 x_3 x_28 m (fun x_3' x_28' m' => G [(.flat (.int .i64 x_0)), (.flat (.int .u32 x_3')), (.flat (.int .u32 x_7)), v_26, (.flat (.int .i64 x_27)), (.flat (.int .i64 x_28'))] m') (fun x_3' m' => k (.exit 2) (only [0, 3, 7] [(.flat (.int .i64 x_0)), (.flat (.int .u32 x_3')), (.flat (.int .u32 x_7))]) m') (fun x_3' m' => k (.exit 0) (only [3] [(.flat (.int .u32 x_3'))]) m') := by
  kernel_rfl

theorem loop23_6 (x_0 : Int) (x_7 : Int) (v_26 : AV) (x_27 : Int) (k : KX) : ∀ (N : Nat) (x_3 : Int) (x_28 : Int) (m : Mem), rounds Try.prog E23 Lam23 [0, 3, 7, 26, 27, 28] lx23_6 ((loopsOf (bodyOf Try.f23)).getD 1 .skip) N [(.flat (.int .i64 x_0)), (.flat (.int .u32 x_3)), (.flat (.int .u32 x_7)), v_26, (.flat (.int .i64 x_27)), (.flat (.int .i64 x_28))] m k = L23_6 x_0 x_7 v_26 x_27 N x_3 x_28 m (fun x_3' m' => k (.exit 2) (only [0, 3, 7] [(.flat (.int .i64 x_0)), (.flat (.int .u32 x_3')), (.flat (.int .u32 x_7))]) m') (fun x_3' m' => k (.exit 0) (only [3] [(.flat (.int .u32 x_3'))]) m') := by
  intro N
  induction N with
  | zero => intros; rfl
  | succ N ih =>
    intro x_3 x_28 m
    refine (round23_6 x_0 x_7 v_26 x_27 x_3 x_28 m (fun vs m' => rounds Try.prog E23 Lam23 [0, 3, 7, 26, 27, 28] lx23_6 ((loopsOf (bodyOf Try.f23)).getD 1 .skip) N vs m' k) k).trans ?_
    simp only [ih]
    rfl

theorem lok23_6 : LoopOK Try.prog E23 Lam23 ((loopsOf (bodyOf Try.f23)).getD 1 .skip) := by
  refine ⟨fun σ => ∃ x_0 x_3 x_7 v_26 x_27 x_28, σ 0 = .flat (.int .i64 x_0) ∧ σ 3 = .flat (.int .u32 x_3) ∧ σ 7 = .flat (.int .u32 x_7) ∧ σ 26 = v_26 ∧ σ 27 = .flat (.int .i64 x_27) ∧ σ 28 = .flat (.int .i64 x_28), [0, 3, 7, 26, 27, 28], lx23_6, fun σ m k => ?_⟩
  have e : Lam23.loop ((loopsOf (bodyOf Try.f23)).getD 1 .skip) σ m k = Lam23_6 σ m k := by kernel_rfl
  rw [e]
  constructor
  · intro h
    unfold Lam23_6 at h
    obtain ⟨x_0, h0, h⟩ := kI_ok h
    obtain ⟨x_3, h1, h⟩ := kI_ok h
    obtain ⟨x_7, h2, h⟩ := kI_ok h
    obtain ⟨v_26, h3⟩ : ∃ v, σ 26 = v := ⟨_, rfl⟩
    obtain ⟨x_27, h4, h⟩ := kI_ok h
    obtain ⟨x_28, h5, h⟩ := kI_ok h
    obtain ⟨N, h⟩ := h
    refine ⟨⟨x_0, x_3, x_7, v_26, x_27, x_28, h0, h1, h2, h3, h4, h5⟩, N, ?_⟩
    have ev : [0, 3, 7, 26, 27, 28].map σ = [(.flat (.int .i64 x_0)), (.flat (.int .u32 x_3)), (.flat (.int .u32 x_7)), v_26, (.flat (.int .i64 x_27)), (.flat (.int .i64 x_28))] := by simp only [List.map_cons, List.map_nil, h0, h1, h2, h3, h4, h5]
    rw [ev, loop23_6]
    simp only [h3] at h
    exact h
  · rintro ⟨⟨x_0, x_3, x_7, v_26, x_27, x_28, h0, h1, h2, h3, h4, h5⟩, N, h⟩
    have ev : [0, 3, 7, 26, 27, 28].map σ = [(.flat (.int .i64 x_0)), (.flat (.int .u32 x_3)), (.flat (.int .u32 x_7)), v_26, (.flat (.int .i64 x_27)), (.flat (.int .i64 x_28))] := by simp only [List.map_cons, List.map_nil, h0, h1, h2, h3, h4, h5]
    rw [ev, loop23_6] at h
    unfold Lam23_6
    try simp only [h0, h1, h2, h3, h4, h5, kI, kbool, kS, kptr, kaggN, kite, decide_true, eq_self]
    exact ⟨N, h⟩

def lx23_3 : Ex → List Nat := fun e => match e with
  | .exit 0 => [3]
  | _ => []

theorem round23_3 (x_0 : Int) (x_3 : Int) (x_7 : Int) (m : Mem) (G : List AV → Mem → Prop) (k : KX) : (wpA Try.prog E23 Lam23 ((loopsOf (bodyOf Try.f23)).getD 0 .skip) (only [0, 3, 7] [(.flat (.int .i64 x_0)), (.flat (.int .u32 x_3)), (.flat (.int .u32 x_7))]) m fun e σ' m' => match e with
    | .normal => G ([0, 3, 7].map σ') m'
    | .exit id => k (.exit id) (only (lx23_3 (.exit id)) ((lx23_3 (.exit id)).map σ')) m'
    | .ret => k .ret (only (lx23_3 .ret) ((lx23_3 .ret).map σ')) m') = R23_3 x_0 x_3 x_7 m (fun x_3' x_7' m' => G [(.flat (.int .i64 x_0)), (.flat (.int .u32 x_3')), (.flat (.int .u32 x_7'))] m') (fun x_3' m' => k (.exit 0) (only [3] [(.flat (.int .u32 x_3'))]) m') := by
  kernel_rfl

theorem loop23_3 (x_0 : Int) (k : KX) : ∀ (N : Nat) (x_3 : Int) (x_7 : Int) (m : Mem), rounds Try.prog E23 Lam23 [0, 3, 7] lx23_3 ((loopsOf (bodyOf Try.f23)).getD 0 .skip) N [(.flat (.int .i64 x_0)), (.flat (.int .u32 x_3)), (.flat (.int .u32 x_7))] m k = L23_3 x_0 N x_3 x_7 m (fun x_3' m' => k (.exit 0) (only [3] [(.flat (.int .u32 x_3'))]) m') := by
  intro N
  induction N with
  | zero => intros; rfl
  | succ N ih =>
    intro x_3 x_7 m
    refine (round23_3 x_0 x_3 x_7 m (fun vs m' => rounds Try.prog E23 Lam23 [0, 3, 7] lx23_3 ((loopsOf (bodyOf Try.f23)).getD 0 .skip) N vs m' k) k).trans ?_
    simp only [ih]
    rfl

theorem lok23_3 : LoopOK Try.prog E23 Lam23 ((loopsOf (bodyOf Try.f23)).getD 0 .skip) := by
  refine ⟨fun σ => ∃ x_0 x_3 x_7, σ 0 = .flat (.int .i64 x_0) ∧ σ 3 = .flat (.int .u32 x_3) ∧ σ 7 = .flat (.int .u32 x_7), [0, 3, 7], lx23_3, fun σ m k => ?_⟩
  have e : Lam23.loop ((loopsOf (bodyOf Try.f23)).getD 0 .skip) σ m k = Lam23_3 σ m k := by kernel_rfl
  rw [e]
  constructor
  · intro h
    unfold Lam23_3 at h
    obtain ⟨x_0, h0, h⟩ := kI_ok h
    obtain ⟨x_3, h1, h⟩ := kI_ok h
    obtain ⟨x_7, h2, h⟩ := kI_ok h
    obtain ⟨N, h⟩ := h
    refine ⟨⟨x_0, x_3, x_7, h0, h1, h2⟩, N, ?_⟩
    have ev : [0, 3, 7].map σ = [(.flat (.int .i64 x_0)), (.flat (.int .u32 x_3)), (.flat (.int .u32 x_7))] := by simp only [List.map_cons, List.map_nil, h0, h1, h2]
    rw [ev, loop23_3]
    exact h
  · rintro ⟨⟨x_0, x_3, x_7, h0, h1, h2⟩, N, h⟩
    have ev : [0, 3, 7].map σ = [(.flat (.int .i64 x_0)), (.flat (.int .u32 x_3)), (.flat (.int .u32 x_7))] := by simp only [List.map_cons, List.map_nil, h0, h1, h2]
    rw [ev, loop23_3] at h
    unfold Lam23_3
    try simp only [h0, h1, h2, kI, kbool, kS, kptr, kaggN, kite, decide_true, eq_self]
    exact ⟨N, h⟩

theorem eqn23 (x_0 : Int) (m : Mem) (k : KV) : bodyK Try.prog E23 Lam23 Try.f23 true [(.flat (.int .i64 x_0))] m k = F23 x_0 m (fun x_1000 m' => k (.flat (.int .u32 x_1000)) m') := by
  kernel_rfl

theorem fs23 (w0 : World) : FS Try.prog w0 23 G23 := by
  refine (fs_body (Γ := E23) (sound_env (l := [(26, G26)]) w0 (by
    intro p hp
    simp only [List.mem_cons, List.not_mem_nil, or_false] at hp
    rcases hp with rfl
    · exact fs26 w0)) (by kernel_rfl) Try.func23 (Λ := Lam23) (c := (bodyOf Try.f23)) (by kernel_rfl) Try.call23 (by kernel_rfl) (LS_of (bodyOf Try.f23) 2 (by kernel_rfl) (by
    intro i hi
    match i, hi with
    | 0, _ => exact lok23_3
    | 1, _ => exact lok23_6
    | i + 2, hi => omega) 0 (by kernel_rfl) (fun i hi => absurd hi (Nat.not_lt_zero i))) true (np := 1) (Nat.le_of_ble_eq_true (by kernel_rfl))).imp fun args => ?_
  by_cases hl : args.length = 1
  rotate_left
  · exact .inr fun m k hk => by
      unfold G23 at hk
      split at hk
      · exact hl rfl
      · exact hk
  obtain ⟨a0, rfl⟩ : ∃ a0, args = [a0] := len_list1 hl
  rcases kI_or .i64 a0 with ⟨x_0, rfl⟩ | h
  rotate_left
  · exact .inr fun m k hk => h _ (by simpa only [G23, kI, kbool, kS, kptr, kaggN, kite, decide_true, eq_self] using hk)
  exact .inl fun m k => propext ⟨fun h => ⟨rfl, by rw [eqn23]; simpa only [G23, kI, kbool, kS, kptr, kaggN, kite, decide_true, eq_self] using h⟩, fun h => by have h := h.2; rw [eqn23] at h; simpa only [G23, kI, kbool, kS, kptr, kaggN, kite, decide_true, eq_self] using h⟩

end Go.Proofs.Ytmhlljnnpoegbaa.Am
