/- A law whose functions ask something of the world ahead of all. No program in sight. -/
import Derived.Test.YtppikpjmlbaccaaDoorA26e
import Derived.Test.YtppikpjmlbaccaaDoorAmN
namespace Go.Proofs.YtppikpjmlbaccaaDoor.Am
set_option linter.unusedVariables false
theorem law_callsW {H : Type} {enc : TypeId × Value → H} {P : Program} {W : World} {b0 : Nat} {f : FuncId} {G : List AV → Mem → KV → Prop} (hfs : FS P W f G) {D : Nat} (ts : List TypeId) (ss : List (List Lf)) (hss : ts.map (shapeOf P D) = ss.map some)
    (hG : ∀ (xs : List AV) (m : Mem), All2 (fun (y : TypeId × List Lf) x => ArgOK P m y.1 y.2 x) (ts.zip ss) xs → G xs m fun v _ => v = .flat (.bool true))
    {args : Array Value} {ds : List (DataW H)} {p : List MemPlace} (h : DataW.TrodAll enc P W 0 (fun _ => true) true ts args.toList ds p) (hv : ∀ (j : Nat) t v, ts[j]? = some t → args.toList[j]? = some v → Value.okWide P W .any b0 t v) :
    Calls P f args W fun e W' => e = .returned (.bool true) ∧ RowKit.Below W.heap.size W W' := by
  obtain ⟨HR0, hS0⟩ := start_R W
  obtain ⟨g, m, xs, G1, hxs, has⟩ := open_args ts ss hss args.toList ds p h hv _ _ HR0 hS0
  refine (hfs.call xs m _ (hG xs m has) g W args G1.2.2.1 hxs).mono fun e W' he => ?_
  obtain ⟨v', rfl, v, g', m', E, hv', HR', rfl⟩ := he
  have hv' : v' = .bool true := hv'
  subst hv'
  exact ⟨rfl, HR'.os, HR'.tape, HR'.output, HR'.size, HR'.old⟩
end Go.Proofs.YtppikpjmlbaccaaDoor.Am
