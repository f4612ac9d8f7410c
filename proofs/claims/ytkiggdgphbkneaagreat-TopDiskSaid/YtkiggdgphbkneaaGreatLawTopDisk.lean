/- The row of TopDisk: for every input that can be read the law returns true and leaves its arguments as they were. No conditions of its own. (Laid by wip/am/rowam.py.) -/
import Derived.Test.YtkiggdgphbkneaaGreatRows
import Derived.Test.YtkiggdgphbkneaaGreatTopDiskX29
import Derived.WalkKit
import Derived.ProofKit
import Derived.OpenShut
import Derived.ShutString
import Derived.ChangeOld
import Derived.Below
import Derived.Carry
import Derived.SizedLaws
import Derived.Lib.SmallJoins
import Derived.ChangeSlices
import Derived.Deep.Fields
import Derived.ChangeSame
namespace Go.Proofs.YtkiggdgphbkneaaGreat.topDisk
open Go.ChangeShapes Go.WideShapes Go.ChangeAt Go.RowKit Go.Joins Go.Deep
open Go.ChangeMaps (open_string shut_string)
set_option linter.unusedVariables false
set_option linter.unusedSimpArgs false
theorem own : ownKnob Tryz.prog.godebug = none := by kernel_rfl
theorem laidOut : laidOutB Tryz.prog = true := by kernel_rfl
set_option maxRecDepth 100000 in
theorem asked (xs : List Am.AV) (m : Am.Mem) (h : Am.All2 (fun (y : TypeId × List Am.Lf) x => Am.ArgOK Tryz.prog m y.1 y.2 x) (([22, 3, 3] : List TypeId).zip ([[.i .u32], [.i .i64], [.i .i64]] : List (List Am.Lf))) xs) : Am.G3 xs m fun v _ => v = .flat (.bool true) := by
  match xs, h with
  | [x0, x1, x2], ⟨h0, h1, h2, _⟩ =>
    have t0 := Am.arg_one (by kernel_rfl) h0
    obtain ⟨n0, rfl, w0⟩ := Am.ty_int t0
    have t1 := Am.arg_one (by kernel_rfl) h1
    obtain ⟨n1, rfl, w1⟩ := Am.ty_int t1
    have t2 := Am.arg_one (by kernel_rfl) h2
    obtain ⟨n2, rfl, w2⟩ := Am.ty_int t2
    have key := Am.TopDisk_law (m := m) w0 w1 w2
    have e : (fun (x : Bool) (m' : Am.Mem) => (Am.AV.flat (.bool x)) = .flat (.bool true)) = Am.isTrue := by funext x m'; simp [Am.isTrue]
    have key2 : Am.F3 n0 n1 n2 m (fun x m' => (Am.AV.flat (.bool x)) = .flat (.bool true)) := by rw [e]; exact key
    exact key2
set_option maxRecDepth 100000 in
theorem lifted (os : Os) (started : os.Started) (H : Type) (enc : TypeId × Value → H) :
    ReturnsInHanded {} Tryz.checked os 3 .any (Rows.topDiskSpec.pre6 enc Tryz.prog Tryz.f3 Rows.topDiskRow.domain false) (Rows.topDiskSpec.post enc Tryz.prog Tryz.f3 false true false false) := by
  refine returnsInHanded_of_change_sized (C := Tryz.checked) own started (by kernel_rfl) Tryz.func3
    (ChangeSpec.witness6 (enc := enc) (C := Tryz.checked) false ⟨#[], #[.int .u32 0, .int .i64 0, .int .i64 0], []⟩ 8 (by kernel_rfl) (by kernel_rfl) (by kernel_rfl) (by kernel_rfl)) ?_
  intro W base args ds gs before hval0 hW hcnd hsz0 _
  have hval : ∀ (j : Nat) t v, Tryz.f3.params[j]? = some t → args[j]? = some v → Value.okWide Tryz.prog W .any base t v := hval0
  have hW' := hW
  obtain ⟨p, q, hA0, hV, rfl, hfz, hnd⟩ := hW
  have hA : DataW.TrodAll enc Tryz.prog W 0 (fun _ => true) true Tryz.f3.params.toList args.toList ds p := hA0
  rw [Tryz.params3] at hA hval
  have hA1 := hA
  obtain ⟨v0, vs0, d0, ds0, p0, q0, hargs, rfl, rfl, h0, r0⟩ := trodAll_cons hA
  obtain ⟨v1, vs1, d1, ds1, p1, q1, rfl, rfl, rfl, h1, r1⟩ := trodAll_cons r0
  obtain ⟨v2, vs2, d2, ds2, p2, q2, rfl, rfl, rfl, h2, r2⟩ := trodAll_cons r1
  obtain ⟨rfl, rfl, rfl⟩ := trodAll_nil r2
  obtain rfl : args = #[v0, v1, v2] := by cases args; simp_all
  obtain ⟨rfl, rfl⟩ := trodVars_none hV
  have lt0 : ∀ x ∈ p0, x.block < W.heap.size := by obtain ⟨m, hm⟩ := h0; exact DataW.trod_lt m _ _ _ hm
  have lt1 : ∀ x ∈ p1, x.block < W.heap.size := by obtain ⟨m, hm⟩ := h1; exact DataW.trod_lt m _ _ _ hm
  have lt2 : ∀ x ∈ p2, x.block < W.heap.size := by obtain ⟨m, hm⟩ := h2; exact DataW.trod_lt m _ _ _ hm
  refine (Am.law_calls (D := 12) (b0 := base) Am.fs3 [22, 3, 3] [[.i .u32], [.i .i64], [.i .i64]] (by kernel_rfl) asked hA1 (fun j t v e1 e2 => hval j t v (by simpa using e1) (by simpa using e2))).mono fun e W' ⟨he, bel⟩ => ?_
  subst he
  exact ⟨_, rfl, _, _, _, [], _, [], hW', trodAll_mk1 (shut_bool Tryz.underlying4 _), (trodAll_cons_mk (Below.trod laidOut (by kernel_rfl) (of_decide_eq_true (by kernel_rfl)) h0 bel lt0) (trodAll_cons_mk (Below.trod laidOut (by kernel_rfl) (of_decide_eq_true (by kernel_rfl)) h1 bel lt1) (trodAll_cons_mk (Below.trod laidOut (by kernel_rfl) (of_decide_eq_true (by kernel_rfl)) h2 bel lt2) trodAll_mk0))), rfl, bel.frame _, fun h => by cases h⟩
theorem over : Rows.topDiskRow.holds Tryz.pinned (OpenSpec.ofChange Rows.topDiskSpec) :=
  OpenClaim.holds_of_wide 3 Tryz.f3 rfl rfl rfl rfl rfl rfl rfl ⟨rfl, rfl, rfl, rfl, rfl⟩ rfl rfl rfl rfl rfl (by kernel_rfl) Tryz.func3 (by kernel_rfl)
    (of_decide_eq_true (by kernel_rfl)) (by unfold Func.isWrapper; first | (rw [if_pos (by decide +kernel)]; kernel_rfl) | (rw [if_neg (by decide +kernel)]; exact ⟨rfl, rfl⟩))
    (fun os started H enc _ => lifted os started H enc)
theorem proved : Rows.TopDiskSaid := over
end Go.Proofs.YtkiggdgphbkneaaGreat.topDisk
namespace Go.Proofs.YtkiggdgphbkneaaGreat
/-- The row, under a short name, for the claim. -/
theorem topDisk_holds : Rows.TopDiskSaid := topDisk.proved
end Go.Proofs.YtkiggdgphbkneaaGreat
