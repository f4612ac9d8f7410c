/- The row of AuditNumbers: for every input that can be read the law returns true and leaves its arguments as they were. No conditions of its own. (Laid by wip/am/rowam.py.) -/
import Derived.Test.YtobdghdcmkdcaaaRows
import Derived.Test.YtobdghdcmkdcaaaA27e
import Derived.WalkKit
import Derived.ProofKit
import Derived.OpenShut
import Derived.ShutString
import Derived.ChangeOld
import Derived.Below
import Derived.Carry
import Derived.SizedLaws
import Derived.Lib.SmallJoins
import Derived.ChangeSlices
import Derived.Deep.Fields
import Derived.ChangeSame
namespace Go.Proofs.Ytobdghdcmkdcaaa.auditNumbers
open Go.ChangeShapes Go.WideShapes Go.ChangeAt Go.RowKit Go.Joins Go.Deep
open Go.ChangeMaps (open_string shut_string)
set_option linter.unusedVariables false
set_option linter.unusedSimpArgs false
theorem own : ownKnob Try.prog.godebug = none := by kernel_rfl
theorem laidOut : laidOutB Try.prog = true := by kernel_rfl
set_option maxRecDepth 100000 in
theorem asked (xs : List Am.AV) (m : Am.Mem) (h : Am.All2 (fun (y : TypeId × List Am.Lf) x => Am.ArgOK Try.prog m y.1 y.2 x) (([] : List TypeId).zip ([] : List (List Am.Lf))) xs) : Am.G3 xs m fun v _ => v = .flat (.bool true) := by
  match xs, h with
  | [], _ =>
    have key := Am.AuditNumbers (m := m) 
    have e : (fun (x : Bool) (m' : Am.Mem) => (Am.AV.flat (.bool x)) = .flat (.bool true)) = Am.isTrue := by funext x m'; simp [Am.isTrue]
    show Am.G3 _ m _
    simp only [Am.G3, Am.kI, Am.kbool, Am.kS, Am.kptr, Am.kaggN, Am.kite, List.length_cons, List.length_nil, decide_true, eq_self, e]
    exact key
set_option maxRecDepth 100000 in
theorem lifted (os : Os) (started : os.Started) (H : Type) (enc : TypeId × Value → H) :
    ReturnsInHanded {} Try.checked os 3 .any (Rows.auditNumbersSpec.pre6 enc Try.prog Try.f3 Rows.auditNumbersRow.domain false) (Rows.auditNumbersSpec.post enc Try.prog Try.f3 false true false false) := by
  refine returnsInHanded_of_change_sized (C := Try.checked) own started (by kernel_rfl) Try.func3
    (ChangeSpec.witness6 (enc := enc) (C := Try.checked) false ⟨#[], #[], []⟩ 8 (by kernel_rfl) (by kernel_rfl) (by kernel_rfl) (by kernel_rfl)) ?_
  intro W base args ds gs before hval0 hW hcnd hsz0 _
  have hval : ∀ (j : Nat) t v, Try.f3.params[j]? = some t → args[j]? = some v → Value.okWide Try.prog W .any base t v := hval0
  have hW' := hW
  obtain ⟨p, q, hA0, hV, rfl, hfz, hnd⟩ := hW
  have hA : DataW.TrodAll enc Try.prog W 0 (fun _ => true) true Try.f3.params.toList args.toList ds p := hA0
  rw [Try.params3] at hA hval
  have hA1 := hA
  obtain ⟨rfl, rfl, rfl⟩ := trodAll_none hA
  obtain ⟨rfl, rfl⟩ := trodVars_none hV
  refine (Am.law_calls (D := 12) (b0 := base) Am.fs3 [] [] (by kernel_rfl) asked hA1 (fun j t v e1 e2 => by simp at e1)).mono fun e W' ⟨he, bel⟩ => ?_
  subst he
  exact ⟨_, rfl, _, _, _, [], _, [], hW', trodAll_mk1 (shut_bool Try.underlying4 _), trodAll_mk0, rfl, bel.frame _, fun h => by cases h⟩
theorem over : Rows.auditNumbersRow.holds Try.pinned (OpenSpec.ofChange Rows.auditNumbersSpec) :=
  OpenClaim.holds_of_wide 3 Try.f3 rfl rfl rfl rfl rfl rfl rfl ⟨rfl, rfl, rfl, rfl, rfl⟩ rfl rfl rfl rfl rfl (by kernel_rfl) Try.func3 (by kernel_rfl)
    (of_decide_eq_true (by kernel_rfl)) (by unfold Func.isWrapper; first | (rw [if_pos (by decide +kernel)]; kernel_rfl) | (rw [if_neg (by decide +kernel)]; exact ⟨rfl, rfl⟩))
    (fun os started H enc _ => lifted os started H enc)
theorem proved : Rows.AuditNumbersSaid := over
end Go.Proofs.Ytobdghdcmkdcaaa.auditNumbers
namespace Go.Proofs.Ytobdghdcmkdcaaa
/-- The row, under a short name, for the claim. -/
theorem auditNumbers_holds : Rows.AuditNumbersSaid := auditNumbers.proved
end Go.Proofs.Ytobdghdcmkdcaaa
