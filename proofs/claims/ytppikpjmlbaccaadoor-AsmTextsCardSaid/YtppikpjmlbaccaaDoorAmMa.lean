/- The next function's environment is sound. No program in sight. -/
import Derived.Test.YtppikpjmlbaccaaDoorAmM
namespace Go.Proofs.YtppikpjmlbaccaaDoor.Am
set_option linter.unusedVariables false
theorem sg {P : Program} {w0 : World} {Γ : Env} (HΓ : Sound P w0 Γ) {Λ : LEnv} {f : FuncId} {fn : Func} (hf : P.funcs[f]? = some fn) (hgo : ∀ (args : Array Value) (w : World), (callFunc f args).run P w = .ok (.enter f args) w)
    (n : Nat) (h : oks (LoopOK P Γ Λ) (nthL (bodyOf fn)) 0 n) (np : Nat) (h2 : oks (PieceOK P Γ Λ) (nthP Λ (bodyOf fn)) 0 np)
    {ps rs : List Sl} {F : FT ps rs} (hok : fsB P Λ fn n np ps.length = true) (dr : Bool)
    (e : All ps F fun f l => ∀ m k, bodyK P Γ Λ fn dr l m k = f m (shut rs fun l m' => k (tup1 l) m')) : Sound P w0 (ext Γ f (Gs ps rs F)) :=
  snd_ext HΓ (fs_sig HΓ hf hgo n h np h2 hok dr e)
theorem sg0 {P : Program} {w0 : World} {Γ : Env} (HΓ : Sound P w0 Γ) {f : FuncId} {fn : Func} (hf : P.funcs[f]? = some fn) (hgo : ∀ (args : Array Value) (w : World), (callFunc f args).run P w = .ok (.enter f args) w)
    {ps rs : List Sl} {F : FT ps rs} (hok : fsB P lam0 fn 0 0 ps.length = true) (dr : Bool)
    (e : All ps F fun f l => ∀ m k, bodyK P Γ lam0 fn dr l m k = f m (shut rs fun l m' => k (tup1 l) m')) : Sound P w0 (ext Γ f (Gs ps rs F)) :=
  sg HΓ hf hgo 0 trivial 0 trivial hok dr e
end Go.Proofs.YtppikpjmlbaccaaDoor.Am
