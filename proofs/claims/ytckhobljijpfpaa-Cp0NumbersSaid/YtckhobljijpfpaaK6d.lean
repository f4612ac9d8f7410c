/- A State as it is drawn, in a box, then in a block of its own. Conditions: what is handed in is plain data. -/
import Derived.Test.YtckhobljijpfpaaK6b
import Derived.Test.YtckhobljijpfpaaAmW2
namespace Go.Proofs.Ytckhobljijpfpaa.Am
set_option linter.unusedVariables false
set_option linter.unusedSimpArgs false

/-- a State as it is drawn, in a box, then in a block of its own -/
theorem drawn {m : Mem} {c : Nat → AV} {t t' : TypeId} {z : Nat → AV} (hT : TyAll m shS c) {now : Int} (hn0 : -9223372036854775808 ≤ now) (hn1 : now < 9223372036854775808) {k : Nat → Nat → Mem → Prop}
    (hk : ∀ b2 b7 m' S, IsSt m' b7 S → S.ok → TyAll m' shS c → (∃ x, m'.obj b2 = some x ∧ x.n = 11 ∧ ∀ i, i < 11 → x.c i = c i) → Keeps m m' → m.obj b7 = none → b2 ≠ b7 → k b2 b7 m') :
    newK m ⟨11, c, t, false⟩ fun b2 m1 => ldG 11 m1 b2 0 fun c3 => F10 c3 now m1 fun c4 m5 => newK m5 ⟨73, z, t', false⟩ fun b7 m6 => stG 73 m6 b7 0 c4 fun m8 => k b2 b7 m8 := by
  refine newK_i fun b2 m1 hb2 K1 e2 O1 => ?_
  rw [ldG_of e2 (by show 0 + 11 ≤ 11; omega)]
  have hs : ∀ i, i < 11 → sub c 0 11 i = c i := fun i hi => by simp [sub, hi]
  have hT1 : TyAll m1 shS (sub c 0 11) := fun i l e => by
    have hi : i < 11 := (List.getElem?_eq_some_iff.1 e).1
    rw [hs i hi]; exact (hT i l e).keep K1
  refine state_spec hT1 hn0 hn1 fun c4 S h4 hS => newS h4 fun b7 m8 hb7 K8 O8 i8 => ?_
  have hne : b2 ≠ b7 := fun e => by subst e; rw [e2] at hb7; cases hb7
  refine hk b2 b7 m8 S i8 hS (hT.keep (K1.trans K8)) ⟨_, (O8 b2 hne).trans e2, rfl, fun i hi => rfl⟩ (K1.trans K8) ?_ hne
  by_cases h0 : m.obj b7 = none
  · exact h0
  · rw [K1 b7 h0] at hb7; exact hb7

end Go.Proofs.Ytckhobljijpfpaa.Am
