/- The row of AsmTexts: for every input that can be read the law returns true and leaves its arguments as they were. No conditions of its own. (Laid by wip/am/rowam.py.) -/
import Derived.Test.YtppikpjmlbaccaaDoorRows
import Derived.Test.YtppikpjmlbaccaaDoorA26f
import Derived.WalkKit
import Derived.ProofKit
import Derived.OpenShut
import Derived.ShutString
import Derived.ChangeOld
import Derived.Below
import Derived.Carry
import Derived.SizedLaws
import Derived.Lib.SmallJoins
import Derived.ChangeSlices
import Derived.Deep.Fields
import Derived.ChangeSame
import Derived.Test.YtppikpjmlbaccaaDoorTie
import Derived.Test.YtppikpjmlbaccaaDoorCards
import Derived.LaidMore
import Derived.Lay
import Derived.MakeChecks
import Derived.SevenTiedAt
import Derived.Handed
import Derived.Lib.LaidTab
import Derived.Stop.LaidErr
namespace Go.Proofs.YtppikpjmlbaccaaDoor.asmTexts
open Go.ChangeShapes Go.WideShapes Go.ChangeAt Go.RowKit Go.Joins Go.Deep
open Go.ChangeMaps (open_string shut_string)
set_option linter.unusedVariables false
set_option linter.unusedSimpArgs false
theorem own : ownKnob Tryd.prog.godebug = none := by kernel_rfl
theorem laidOut : laidOutB Tryd.prog = true := by kernel_rfl
set_option maxRecDepth 100000 in
theorem asked (xs : List Am.AV) (m : Am.Mem) (h : Am.All2 (fun (y : TypeId × List Am.Lf) x => Am.ArgOK Tryd.prog m y.1 y.2 x) (([24, 24] : List TypeId).zip ([[.i .i64, .i .i64, .i .i64, .i .i64, .i .i64, .i .u32, .i .u32], [.i .i64, .i .i64, .i .i64, .i .i64, .i .i64, .i .u32, .i .u32]] : List (List Am.Lf))) xs) : Am.G3 xs m fun v _ => v = .flat (.bool true) := by
  match xs, h with
  | [x0, x1], ⟨h0, h1, _⟩ =>
    obtain ⟨c0, rfl, t0⟩ := Am.arg_agg (by kernel_rfl) h0
    obtain ⟨c1, rfl, t1⟩ := Am.arg_agg (by kernel_rfl) h1
    have key := Am.AsmTexts_law (m := m) t0 t1
    have e : (fun (x : Bool) (m' : Am.Mem) => (Am.AV.flat (.bool x)) = .flat (.bool true)) = Am.isTrue := by funext x m'; simp [Am.isTrue]
    have key2 : Am.F3 c0 c1 m (fun x m' => (Am.AV.flat (.bool x)) = .flat (.bool true)) := by rw [e]; exact key
    exact key2
abbrev laidL : List (String × DataW Unit) := Rows.asmTextsRow.laid
theorem table {W : World} (h : laidMetH Tryd.prog laidL W) : Am.TabH W := by
  rw [MakeChecks.laidMetH_plain _ _ _ (by kernel_rfl)] at h
  have h2 : laidMet Tryd.prog [("internal/strconv.uint64pow10", Lib.tabData .u64 Lib.pow10Tab)] W := h.tail.tail
  exact Lib.tabIs_of_head (g := 0) (t := 83) (e := 71) (n := 20) (by kernel_rfl) (by kernel_rfl) Tryd.underlying83 Tryd.underlying71 (by kernel_rfl) (by kernel_rfl) h2
theorem met (os : Os) (args : Array Value) : laidMetH Tryd.prog laidL ((World.laidAll Tryd.prog os laidL).forCall (fun _ _ => 0) ⟨#[], args, []⟩).memory := by
  rw [MakeChecks.laidMetH_plain _ _ _ (by kernel_rfl)]; exact laidMet_laidAll _ (by kernel_rfl) (by kernel_rfl)
set_option maxRecDepth 100000 in
theorem lifted (os : Os) (started : os.Started) (H : Type) (enc : TypeId × Value → H) :
    ReturnsInHanded {} Tryd.checked os 3 .any (fun w args => (Rows.asmTextsSpec.pre enc Tryd.prog Tryd.f3 Rows.asmTextsRow.domain false w args ∧ laidMetH Tryd.prog laidL w) ∧ sizedMet enc Tryd.prog Tryd.f3 (OpenSpec.ofChange Rows.asmTextsSpec) false w args) (Rows.asmTextsSpec.post enc Tryd.prog Tryd.f3 false true false false) := by
  refine returnsInHanded_of_change_and (C := Tryd.checked) (X := fun w _ => laidMetH Tryd.prog laidL w) (fun _ _ _ hh h => h.of_heap hh) own started (by kernel_rfl) Tryd.func3
    (ChangeSpec.witness_at (enc := enc) (C := Tryd.checked) (os := os) (X := fun w _ => laidMetH Tryd.prog laidL w) false (World.laidAll Tryd.prog os laidL) #[.agg #[.int .i64 0, .int .i64 0, .int .i64 0, .int .i64 0, .int .i64 0, .int .u32 0, .int .u32 0], .agg #[.int .i64 0, .int .i64 0, .int .i64 0, .int .i64 0, .int .i64 0, .int .u32 0, .int .u32 0]] 8 (World.laidAll_os _ _ _) (by kernel_rfl) (by kernel_rfl) (by kernel_rfl) (by kernel_rfl) (by kernel_rfl) (met os _)) ?_
  intro W base args ds gs before hval0 hW hcnd hsz0 hL _
  have hval : ∀ (j : Nat) t v, Tryd.f3.params[j]? = some t → args[j]? = some v → Value.okWide Tryd.prog W .any base t v := hval0
  have hW' := hW
  obtain ⟨p, q, hA0, hV, rfl, hfz, hnd⟩ := hW
  have hA : DataW.TrodAll enc Tryd.prog W 0 (fun _ => true) true Tryd.f3.params.toList args.toList ds p := hA0
  rw [Tryd.params3] at hA hval
  have hA1 := hA
  obtain ⟨v0, vs0, d0, ds0, p0, q0, hargs, rfl, rfl, h0, r0⟩ := trodAll_cons hA
  obtain ⟨v1, vs1, d1, ds1, p1, q1, rfl, rfl, rfl, h1, r1⟩ := trodAll_cons r0
  obtain ⟨rfl, rfl, rfl⟩ := trodAll_nil r1
  obtain rfl : args = #[v0, v1] := by cases args; simp_all
  obtain ⟨rfl, rfl⟩ := trodVars_none hV
  have lt0 : ∀ x ∈ p0, x.block < W.heap.size := by obtain ⟨m, hm⟩ := h0; exact DataW.trod_lt m _ _ _ hm
  have lt1 : ∀ x ∈ p1, x.block < W.heap.size := by obtain ⟨m, hm⟩ := h1; exact DataW.trod_lt m _ _ _ hm
  refine (Am.law_callsW (D := 12) (b0 := base) (Am.fs3 W (table hL)) [24, 24] [[.i .i64, .i .i64, .i .i64, .i .i64, .i .i64, .i .u32, .i .u32], [.i .i64, .i .i64, .i .i64, .i .i64, .i .i64, .i .u32, .i .u32]] (by kernel_rfl) asked hA1 (fun j t v e1 e2 => hval j t v (by simpa using e1) (by simpa using e2))).mono fun e W' ⟨he, bel⟩ => ?_
  subst he
  exact ⟨_, rfl, _, _, _, [], _, [], hW', trodAll_mk1 (shut_bool Tryd.underlying4 _), (trodAll_cons_mk (Below.trod laidOut (by kernel_rfl) (of_decide_eq_true (by kernel_rfl)) h0 bel lt0) (trodAll_cons_mk (Below.trod laidOut (by kernel_rfl) (of_decide_eq_true (by kernel_rfl)) h1 bel lt1) trodAll_mk0)), rfl, bel.frame _, fun h => by cases h⟩
theorem over : Rows.asmTextsRow.holds Tryd.pinned (OpenSpec.ofChange Rows.asmTextsSpec) :=
  OpenClaim.holds_of_wide 3 Tryd.f3 rfl rfl rfl rfl rfl rfl rfl ⟨rfl, rfl, rfl, rfl, rfl⟩ rfl rfl rfl rfl rfl (by kernel_rfl) Tryd.func3 (by kernel_rfl)
    (of_decide_eq_true (by kernel_rfl)) (by unfold Func.isWrapper; first | (rw [if_pos (by decide +kernel)]; kernel_rfl) | (rw [if_neg (by decide +kernel)]; exact ⟨rfl, rfl⟩))
    (fun os started H enc _ => lifted os started H enc)
theorem proved : Rows.AsmTextsCardSaid :=
  Claim7.holds_tied_plain_at .later [] [.data, .data, .data] true (true, "510a241223c0bf578dc4ddee8b1ddbfb21cfb9176d1f8bff5e386989a78f30fa") false over (fun _ h => by cases h) (by kernel_rfl) (fun _ h => by cases h) asmTexts_row_tie rfl ⟨rfl, rfl⟩ (by kernel_rfl) rfl
    (fun f fn hf hfn => by
      obtain rfl : f = 3 := Option.some.inj ((show Tryd.prog.funcNamed "pianola/pianolalaw26.AsmTexts" = some 3 by kernel_rfl).symm.trans hf) |>.symm
      obtain rfl : fn = Tryd.f3 := (Option.some.inj (Tryd.func3.symm.trans hfn)).symm
      exact ⟨by kernel_rfl, fun j t ht => by
        rw [Tryd.params3] at ht
        have hm : t ∈ [24, 24] := by simpa using Array.mem_of_getElem? ht
        have hall : ([24, 24].all fun u => !Tryd.prog.wantsStandIn u) = true := by kernel_rfl
        exact (show Tryd.prog.wantsStandIn t = false by simpa using List.all_eq_true.1 hall t hm)⟩)
    (by kernel_rfl)
end Go.Proofs.YtppikpjmlbaccaaDoor.asmTexts
namespace Go.Proofs.YtppikpjmlbaccaaDoor
/-- The card, under a short name, for the claim. -/
theorem asmTexts_holds : Rows.AsmTextsCardSaid := asmTexts.proved
end Go.Proofs.YtppikpjmlbaccaaDoor
