/- Regions in the text's order; operations yield one value, or none; what follows may be weakened. No program in sight. -/
import Derived.Test.YtkiggdgphbkneaaGreatTopRefillsX7
namespace Go.Proofs.YtkiggdgphbkneaaGreat.Am
set_option linter.unusedVariables false
set_option linter.unusedSimpArgs false
theorem SR.put {g : Gh} {σ : Nat → AV} {a : Act} {n : Nat} (S : SR g σ a n) {d : Option Tmp} {v : AV} {v' : Value} (hv : VR g v v') (hd : ∀ t, d = some t → t < n) : SR g (putA σ d v) (a.put d v') n := by
 cases d with
 | none => exact S
 | some d =>
  refine ⟨fun t => ?_, by simp [Act.put, S.sz], S.df⟩
  have hlt : d < a.tmps.size := by rw [S.sz]; exact hd d rfl
  simp only [putA, upd, Act.put]
  by_cases c : t = d
  ·subst c
   rw [if_pos rfl]
   simpa [Array.getD, hlt] using hv
  ·rw [if_neg c]
   have := S.tm t
   have e : (a.tmps.setIfInBounds d v').getD t undef = a.tmps.getD t undef := by
    by_cases ht : t < a.tmps.size
    ·simp [Array.getD, ht, Array.getElem_setIfInBounds, Ne.symm c]
    ·simp [Array.getD, ht]
   rw [e]; exact this
def kgd (v : AV) (want : Bool) (A B : Prop) : Prop := match v with
 | .flat (.bool t) => if t = want then A else B
 | .flat (.tuple _) => B
 | _ => False
theorem kgd_ok {v : AV} {want : Bool} {A B : Prop} (h : kgd v want A B) : (v = .flat (.bool want) ∧ A) ∨ (((∃ t, v = .flat (.bool t) ∧ t ≠ want) ∨ ∃ a, v = .flat (.tuple a)) ∧ B) := by
 unfold kgd at h
 split at h
 ·split at h
  ·rename_i e; subst e; exact .inl ⟨rfl, h⟩
  ·rename_i t e; exact .inr ⟨.inl ⟨_, rfl, e⟩, h⟩
 ·exact .inr ⟨.inr ⟨_, rfl⟩, h⟩
 ·exact h.elim
theorem kgd_ways (v : AV) (want : Bool) : (∀ A B, kgd v want A B = A) ∨ (∀ A B, kgd v want A B = B) ∨ ∀ A B, kgd v want A B = False := by
 unfold kgd
 split
 ·rename_i t
  by_cases c : t = want
  ·exact .inl fun A B => by rw [if_pos c]
  ·exact .inr (.inl fun A B => by rw [if_neg c])
 ·exact .inr (.inl fun A B => rfl)
 ·exact .inr (.inr fun A B => rfl)
def gopK (P : Program) (Γ : Env) (fr : Option (Nat → Prop)) (all : Array Oper) (σ : Nat → AV) (m : Mem) (o : Oper) (k : KV) : Prop :=
 match o.guard with
 | none => opK P Γ (frOf P all fr o) σ m o k
 | some (j, want) => match (all[j]?).bind (·.dst) with
  | none => False
  | some d => kgd (σ d) want (opK P Γ (frOf P all fr o) σ m o k) (k (.flat undef) m)
theorem upd_same {α : Type} (s : Nat → α) (d : Nat) (v : α) (h : s d = v) : upd s d v = s := by
 funext j; simp only [upd]; split
 ·rename_i e; subst e; exact h.symm
 ·rfl
theorem regK_cons {P : Program} {Γ : Env} {fr : Option (Nat → Prop)} {all : Array Oper} {σ : Nat → AV} {m : Mem} {o : Oper} {rest : List Oper} {k : (Nat → AV) → Mem → Prop} (h : regK P Γ fr all (o :: rest) σ m k) :
  gopK P Γ fr all σ m o fun v m' => regK P Γ fr all rest (putA σ o.dst v) m' k := by
 unfold regK at h
 unfold gopK
 split at h
 ·rename_i e; rw [e]; exact h
 ·rename_i j want e
  rw [e]
  dsimp only
  split at h
  ·exact h.elim
  ·rename_i d hd
   rw [hd]
   dsimp only
   split at h
   ·rename_i t ht
    rw [ht]
    show if t = want then _ else _
    split at h
    ·rcases kif_ok h with ⟨rfl, h⟩ | ⟨rfl, h⟩
     ·rw [upd_same σ d _ ht] at h; rw [if_pos rfl]; exact h
     ·rw [upd_same σ d _ ht] at h; rw [if_neg (by decide)]; exact h
    ·rcases kif_ok h with ⟨rfl, h⟩ | ⟨rfl, h⟩
     ·rw [upd_same σ d _ ht] at h; rw [if_neg (by decide)]; exact h
     ·rw [upd_same σ d _ ht] at h; rw [if_pos rfl]; exact h
   ·rename_i t ht
    rw [ht]
    exact h
   ·exact h.elim
theorem yielded_of {g : Gh} {σ : Nat → AV} {a : Act} {n : Nat} (S : SR g σ a n) {all : Array Oper} {j d : Nat} {t : Bool} (hd : (all[j]?).bind (·.dst) = some d) (ht : σ d = .flat (.bool t)) : yielded all a.tmps j = some t := by
 have h := S.tm d
 rw [ht] at h
 have h : a.tmps.getD d undef = .bool t := h
 unfold yielded
 rw [hd]
 by_cases hlt : d < a.tmps.size
 ·simp only [Array.getD, hlt, dif_pos] at h
  have h2 : a.tmps[d]? = some (.bool t) := by rw [Array.getElem?_eq_getElem hlt]; exact congrArg some h
  simp [h2]
 ·simp [Array.getD, hlt, undef] at h
theorem yielded_none {g : Gh} {σ : Nat → AV} {a : Act} {n : Nat} (S : SR g σ a n) {all : Array Oper} {j d : Nat} {t : Array Value} (hd : (all[j]?).bind (·.dst) = some d) (ht : σ d = .flat (.tuple t)) : yielded all a.tmps j = none := by
 have h := S.tm d
 rw [ht] at h
 have h : a.tmps.getD d undef = .tuple t := h
 unfold yielded
 rw [hd]
 by_cases hlt : d < a.tmps.size
 ·simp only [Array.getD, hlt, dif_pos] at h
  have h2 : a.tmps[d]? = some (.tuple t) := by rw [Array.getElem?_eq_getElem hlt]; exact congrArg some h
  simp [h2]
 ·simp [hlt]
theorem gopK_ok {P : Program} {w0 : World} {Γ : Env} (HΓ : Sound P w0 Γ) {fr : Option (Nat → Prop)} {all : Array Oper} {i : Nat} {o : Oper} (hi : all[i]? = some o) {σ : Nat → AV} {m : Mem} {k : KV} {g : Gh} {a : Act} {n : Nat} {w : World} {next : Act → World → Prop} {Q : Exit → Act → World → Prop} (S : SR g σ a n) (HR : R w0 g m w) (h : gopK P Γ fr all σ m o k)
  (hk : ∀ v v' g' m' w', Ext g g' → VR g' v v' → R w0 g' m' w' → k v m' → next (a.put o.dst v') w') : wpOp P all Q i next a w := by
 unfold wpOp
 rw [hi]
 dsimp only
 unfold gopK at h
 split at h
 ·rename_i e
  rw [if_pos (by simp [Region.wanted, e])]
  exact .inl (opK_ok HΓ S HR h hk)
 ·rename_i j want e
  split at h
  ·exact h.elim
  ·rename_i d hd
   rcases kgd_ok h with ⟨ht, h⟩ | ⟨⟨t, ht, c⟩ | ⟨t, ht⟩, h⟩
   ·have hy := yielded_of S hd ht
    rw [if_pos (by simp [Region.wanted, e, hy])]
    exact .inl (opK_ok HΓ S HR h hk)
   ·have hy := yielded_of S hd ht
    rw [if_neg (by simp [Region.wanted, e, hy, c])]
    exact hk (.flat undef) undef g m w (Ext.refl g) rfl HR h
   ·have hy := yielded_none S hd ht
    rw [if_neg (by simp [Region.wanted, e, hy])]
    exact hk (.flat undef) undef g m w (Ext.refl g) rfl HR h
theorem regK_ok {P : Program} {w0 : World} {Γ : Env} (HΓ : Sound P w0 Γ) {fr : Option (Nat → Prop)} {all : Array Oper} {n : Nat} (hok : ∀ o ∈ all.toList, ∀ d, o.dst = some d → d < n) {Q : Exit → Act → World → Prop} {k : (Nat → AV) → Mem → Prop} {g0 : Gh}
  (hk : ∀ σ' m' g' a' w', Ext g0 g' → SR g' σ' a' n → R w0 g' m' w' → k σ' m' → Q .normal a' w') :
  ∀ (l : List Oper) (i : Nat), (∀ j, l[j]? = all[i + j]?) → ∀ (σ : Nat → AV) (m : Mem) (g : Gh) (a : Act) (w : World), Ext g0 g → SR g σ a n → R w0 g m w → regK P Γ fr all l σ m k → wpOps P all Q (List.range' i l.length) a w
 | [], i, hl, σ, m, g, a, w, E, S, HR, h => hk σ m g a w E S HR h
 | o :: l, i, hl, σ, m, g, a, w, E, S, HR, h => by
  have hi : all[i]? = some o := by simpa using (hl 0).symm
  rw [List.length_cons, List.range'_succ, wpOps_cons]
  refine gopK_ok HΓ hi S HR (regK_cons h) fun v v' g' m' w' E' hv HR' h' => ?_
  refine regK_ok HΓ hok hk l (i + 1) (fun j => by have := hl (j + 1); simpa [Nat.add_assoc, Nat.add_comm 1 j] using this) (putA σ o.dst v) m' g' (a.put o.dst v') w' (E.trans E') ?_ HR' h'
  refine SR.put (S.ext HR.wf E') hv (hok o ?_)
  exact List.mem_of_getElem? (by simpa using hi)
def Det {α : Type} (F : (α → Prop) → Prop) : Prop := (∃ u, ∀ k, F k ↔ k u) ∨ ∀ k, ¬ F k
def Det2 (F : KV → Prop) : Prop := (∃ u m', ∀ k, F k ↔ k u m') ∨ ∀ k, ¬ F k
theorem Det.ret {α : Type} (u : α) : Det fun k => k u := .inl ⟨u, fun _ => Iff.rfl⟩
theorem Det.fail {α : Type} : Det fun (_ : α → Prop) => False := .inr fun _ h => h
theorem Det.comp {α β : Type} {F : (α → Prop) → Prop} (h : Det F) {G : α → (β → Prop) → Prop} (hG : ∀ a, Det (G a)) : Det fun k => F fun a => G a k := by
 rcases h with ⟨u, hu⟩ | hn
 ·rcases hG u with ⟨v, hv⟩ | hn
  ·exact .inl ⟨v, fun k => (hu _).trans (hv k)⟩
  ·exact .inr fun k h => hn k ((hu _).1 h)
 ·exact .inr fun k => hn _
theorem Det.map {α β : Type} {F : (α → Prop) → Prop} (h : Det F) (f : α → β) : Det fun k => F fun a => k (f a) := h.comp fun a => .ret (f a)
theorem det_kbool (v : AV) : Det fun (k : Bool → Prop) => kbool v k := by
 unfold kbool; split
 ·exact .ret _
 ·exact .fail
theorem det_kint (v : AV) : Det fun (k : IntKind × Int → Prop) => kint v fun a b => k (a, b) := by
 unfold kint; split
 ·exact .ret _
 ·exact .fail
theorem det_kptr (v : AV) : Det fun (k : Nat × Nat → Prop) => kptr v fun a b => k (a, b) := by
 unfold kptr; split
 ·exact .ret _
 ·exact .fail
theorem det_kobj (m : Mem) (b : Nat) : Det fun (k : Blk → Prop) => kobj m b k := by
 unfold kobj; split
 ·exact .ret _
 ·exact .fail
theorem det_kif {α : Type} (b : Bool) {F G : (α → Prop) → Prop} (hF : Det F) (hG : Det G) : Det fun k => kif b (F k) (G k) := by
 cases b
 ·exact hG
 ·exact hF
theorem det_ite {α : Type} (c : Prop) [Decidable c] {F G : (α → Prop) → Prop} (hF : Det F) (hG : Det G) : Det fun k => if c then F k else G k := by
 by_cases h : c
 ·simp only [if_pos h]; exact hF
 ·simp only [if_neg h]; exact hG
theorem det_kite {α : Type} (c : Prop) [Decidable c] {F G : (α → Prop) → Prop} (hF : Det F) (hG : Det G) : Det fun k => kite c (F k) (G k) := by
 simp only [kite_eq]; exact det_ite c hF hG
theorem det_kpos {α : Type} (n : Nat) {F : (α → Prop) → Prop} (hF : Det F) : Det fun k => kpos n (F k) := by
 cases n
 ·exact .fail
 ·exact hF
theorem det_kA (v : AV) : Det fun (k : AV → Prop) => kA v k := by
 unfold kA; split <;> first | exact .fail | exact .ret _
theorem det_kI (kd : IntKind) (v : AV) : Det fun (k : Int → Prop) => kI kd v k := by
 unfold kI; split
 ·exact det_kite _ (.ret _) .fail
 ·exact .fail
theorem det_kS (v : AV) : Det fun (k : ByteArray → Prop) => kS v k := by
 unfold kS; split
 ·exact .ret _
 ·exact .fail
theorem det_kcell (P : Program) (t : TypeId) (v : AV) : Det fun (k : AV → Prop) => kcell P t v k := by
 unfold kcell; split
 ·exact (det_kI _ v).map fun n => AV.flat (.int _ n)
 ·exact (det_kbool v).map fun n => AV.flat (.bool n)
 ·exact (det_kS v).map fun n => AV.flat (.string n)
 ·exact det_kA v
 ·exact .fail
theorem det_kpart (P : Program) (t : TypeId) (n : Nat) (c : Nat → AV) (off : Nat) : Det fun (k : AV → Prop) => kpart P t n c off k := by
 unfold kpart; split
 ·exact det_kite _ (.ret _) .fail
 ·exact det_kite _ (det_kcell P t _) .fail
theorem det_flatOp (P : Program) (σ : Nat → AV) (o : Oper) : Det fun (k : AV → Prop) => flatOp P σ o k := by
 unfold flatOp; split
 ·split
  ·exact .ret _
  ·exact .fail
 ·exact .fail
theorem det_kones {α : Type} (place : Nat → Option (Nat × TypeId)) (P : Program) {F : (α → Prop) → Prop} (hF : Det F) : ∀ parts : List (Nat × AV), Det fun k => kones place P parts (F k)
 | [] => hF
 | (i, v) :: rest => by
  simp only [kones]
  split
  ·exact .fail
  ·split
   ·exact det_kones place P hF rest
   ·exact det_kif _ (det_kones place P hF rest) .fail
theorem det_kheld {α : Type} {F : (α → Prop) → Prop} (hF : Det F) : ∀ l : List AV, Det fun k => kheld l (F k)
 | [] => hF
 | v :: l => by
  simp only [kheld]
  split
  ·exact .fail
  ·exact .fail
  ·exact .fail
  ·exact det_kheld hF l
theorem det_abuild (P : Program) (t : TypeId) (parts : List (Nat × AV)) : Det fun (k : AV → Prop) => abuild P t parts k := by
 unfold abuild; split
 ·split
  ·split
   ·exact det_kones _ _ (.ret _) _
   ·exact .fail
  ·exact .fail
 ·refine det_kpos _ ?_
  split
  ·exact det_kones _ _ (.ret _) _
  ·exact .fail
 ·exact .fail
theorem det_knilP (v : AV) : Det fun (k : Bool → Prop) => knilP v k := by
 unfold knilP; split <;> first | exact .ret _ | exact .fail
theorem det_knilS (v : AV) : Det fun (k : Bool → Prop) => knilS v k := by
 unfold knilS; split <;> first | exact .ret _ | exact .fail
theorem det_klen (v : AV) : Det fun (k : Int → Prop) => klen v k := by
 unfold klen; split <;> first | exact .ret _ | exact .fail
theorem det_kint2 {α : Type} (v : AV) {G : IntKind → Int → (α → Prop) → Prop} (hG : ∀ a b, Det (G a b)) : Det fun k => kint v fun a b => G a b k :=
 (det_kint v).comp (G := fun x k => G x.1 x.2 k) fun x => hG x.1 x.2
theorem det_kptr2 {α : Type} (v : AV) {G : Nat → Nat → (α → Prop) → Prop} (hG : ∀ a b, Det (G a b)) : Det fun k => kptr v fun a b => G a b k :=
 (det_kptr v).comp (G := fun x k => G x.1 x.2 k) fun x => hG x.1 x.2
theorem det_ksl {α : Type} (v : AV) {G : Nat → Nat → Nat → Cap → (α → Prop) → Prop} (hG : ∀ a b c d, Det (G a b c d)) : Det fun k => ksl v fun a b c d => G a b c d k := by
 unfold ksl; split
 ·exact hG _ _ _ _
 ·exact .fail
theorem det_kagg {α : Type} (v : AV) {G : Nat → (Nat → AV) → (α → Prop) → Prop} (hG : ∀ a b, Det (G a b)) : Det fun k => kagg v fun a b => G a b k := by
 unfold kagg; split
 ·exact hG _ _
 ·exact .fail
theorem det_aeq (P : Program) (t : TypeId) (x y : AV) : Det fun (k : Bool → Prop) => aeq P t x y k := by
 unfold aeq
 refine det_kagg _ fun _ _ => det_kagg _ fun _ _ => ?_
 split
 ·exact .fail
 split
 ·exact .fail
 split
 ·exact .fail
 split
 ·exact .fail
 split
 ·unfold geq
  split
  ·exact .ret _
  ·exact .fail
 ·exact .fail
theorem det_kopt (σ : Nat → AV) (x : Option Operand) (d : Int) : Det fun (k : Int → Prop) => kopt σ x d k := by
 unfold kopt
 split
 ·exact .ret _
 ·exact det_kint2 _ fun _ _ => .ret _
theorem det_kbounds (σ : Nat → AV) (low high : Option Operand) (len cap : Nat) : Det fun (k : Int × Int → Prop) => kbounds σ low high len cap fun lo hi => k (lo, hi) :=
 (det_kopt σ low 0).comp fun lo => (det_kopt σ high len).comp fun hi => det_kif _ (det_kif _ (det_kif _ (.ret _) .fail) .fail) .fail
theorem det_kcut (b o esz : Nat) (cap : Cap) (lo hi : Nat) : Det fun (k : AV → Prop) => kcut b o esz cap lo hi k := by
 unfold kcut
 split
 ·exact det_kite _ (.ret _) (.ret _)
 ·exact det_kite _ (det_kite _ (.ret _) (.ret _)) .fail
theorem det_aslice (P : Program) (σ : Nat → AV) (t : TypeId) (x : AV) (low high : Option Operand) : Det fun (k : AV → Prop) => aslice P σ t x low high k := by
 simp only [aslice_eq]
 unfold aslice0
 split
 ·exact (det_kS _).comp fun s => (det_kbounds σ low high _ _).comp (G := fun (p : Int × Int) (k : AV → Prop) => k (AV.flat (.string (s.extract p.1.toNat p.2.toNat)))) fun p => .ret _
 ·refine det_kpos _ ?_
  split
  ·exact (det_kbounds σ low high _ _).comp (G := fun (p : Int × Int) (k : AV → Prop) => kcut _ _ _ _ p.1.toNat p.2.toNat k) fun p => det_kcut ..
  ·exact (det_kbounds σ low high _ _).comp (G := fun (p : Int × Int) (k : AV → Prop) => k AV.e0) fun p => .ret _
  ·exact det_kite _ ((det_kbounds σ low high _ _).comp (G := fun (p : Int × Int) (k : AV → Prop) => k _) fun p => .ret _) .fail
  ·exact .fail
 ·exact det_kpos _ (det_kptr2 _ fun b o => (det_kbounds σ low high _ _).comp (G := fun (p : Int × Int) (k : AV → Prop) => kcut _ _ _ _ p.1.toNat p.2.toNat k) fun p => det_kcut ..)
 ·exact .fail
theorem det_koptI (σ : Nat → AV) (x : Option Operand) : Det fun (k : Option Int → Prop) => koptI σ x k := by
 unfold koptI
 split
 ·exact .ret _
 ·exact det_kint2 _ fun _ _ => .ret _
theorem det_aslice3 (P : Program) (σ : Nat → AV) (t : TypeId) (x : AV) (low high mx : Option Operand) : Det fun (k : AV → Prop) => aslice3 P σ t x low high mx k := by
 unfold aslice3
 split
 ·refine det_kpos _ ((det_koptI σ low).comp fun lo => (det_koptI σ high).comp fun hi => (det_koptI σ mx).comp fun m => ?_)
  unfold slM
  split
  ·exact det_kif _ (det_kif _ (det_kif _ (det_kif _ (.ret _) .fail) .fail) .fail) .fail
  ·exact .fail
 ·exact .fail
theorem det_geq (ls : List (Nat × LK)) (c d : Nat → AV) : Det fun (k : Bool → Prop) => geq ls c d k := by
 unfold geq
 split
 ·exact .ret _
 ·exact .fail
theorem det_mfind (ls : List (Nat × LK)) (kn : Nat) (key c : Nat → AV) : ∀ n i, Det fun (k : Option Nat → Prop) => mfind ls kn key c n i k
 | 0, i => .ret _
 | n + 1, i => by
  unfold mfind
  split
  ·exact det_kif _ ((det_geq ..).comp (G := fun b k => Am.kif b (k (some i)) (mfind ls kn key c n (i + 1) k)) fun b => det_kif _ (.ret _) (det_mfind ls kn key c n (i + 1))) .fail
  ·exact .fail
theorem det_mget (ls : List (Nat × LK)) (kn : Nat) (v : AV) (key : Nat → AV) (n : Nat) (z : Nat → AV) (m : Mem) : Det fun (k : (Nat → AV) × Bool → Prop) => mget ls kn v key n z m fun c b => k (c, b) := by
 unfold mget
 split
 ·refine (det_kobj m _).comp fun y => (det_mfind ..).comp fun o => ?_
  split
  ·split
   ·exact det_kif _ (.ret _) .fail
   ·exact .fail
  ·exact .ret _
 ·exact .fail
theorem det_mput (ls : List (Nat × LK)) (kn : Nat) (v : AV) (key : Nat → AV) (n : Nat) (z : Nat → AV) (m : Mem) : Det fun (k : Mem → Prop) => mput ls kn v key n z m k := by
 unfold mput
 split
 ·refine (det_kobj m _).comp fun y => (det_mfind ..).comp fun o => ?_
  split
  ·exact .ret _
  ·exact .ret _
 ·exact .fail
theorem det_mdel (ls : List (Nat × LK)) (kn : Nat) (v : AV) (key : Nat → AV) (m : Mem) : Det fun (k : Mem → Prop) => mdel ls kn v key m k := by
 unfold mdel
 split
 ·refine (det_kobj m _).comp fun y => (det_mfind ..).comp fun o => ?_
  split
  ·exact .ret _
  ·exact .ret _
 ·exact .fail
theorem det_mclear (v : AV) (m : Mem) : Det fun (k : Mem → Prop) => mclear v m k := by
 unfold mclear
 split
 ·exact (det_kobj m _).comp fun y => .ret _
 ·exact .fail
theorem det_clrS (zs : List AV) (x : AV) (m : Mem) : Det fun (k : Mem → Prop) => clrS zs x m k := by
 unfold clrS
 split
 ·exact det_kite _ (.ret _) .fail
 ·refine det_kite _ (.ret _) ((det_kobj m _).comp fun y => ?_)
  split
  ·exact .fail
  ·exact det_kite _ (.ret _) .fail
 ·exact .fail
theorem det_putK (ls : List (Nat × LK)) (q : Nat) (x key v : AV) (m : Mem) : Det fun (k : Mem → Prop) => kagg key fun kn d => Am.kif (kn == q) (kagg v fun n c => mput ls kn x d n c m k) False :=
 det_kagg _ fun kn d => det_kif _ (det_kagg _ fun n c => det_mput ..) .fail
theorem det_delK (ls : List (Nat × LK)) (q : Nat) (x key : AV) (m : Mem) : Det fun (k : Mem → Prop) => kagg key fun kn d => Am.kif (kn == q) (mdel ls kn x d m k) False :=
 det_kagg _ fun kn d => det_kif _ (det_mdel ..) .fail
theorem det_alookup (P : Program) (t : TypeId) (x key : AV) (ok : Bool) (m : Mem) : Det fun (k : AV → Prop) => alookup P t x key ok m k := by
 unfold alookup
 split
 ·split
  ·split
   ·rename_i ls _ _ zs _
    exact det_kagg _ fun kn d => det_kif _ ((det_mget ls kn x d zs.length (lget zs) m).comp (G := fun (p : (Nat → AV) × Bool) (k : AV → Prop) => k (match ok with | true => .tup [.agg zs.length p.1, .flat (.bool p.2)] | false => .agg zs.length p.1)) fun p => .ret _) .fail
   ·exact .fail
  ·exact .fail
 ·exact .fail
theorem det_apure (P : Program) (σ : Nat → AV) (o : Oper) : Det fun (k : AV → Prop) => apure P σ o k := by
 obtain ⟨dst, op, ty, pos, after, guard⟩ := o
 cases op with
 | move x => exact .ret _
 | assign x => exact .ret _
 | pick c x y => exact (det_kbool _).comp fun t => det_kif t (.ret _) (.ret _)
 | nilCheck x => exact det_kptr2 _ fun b o => .ret _
 | binOp op t x y yt =>
  simp only [apure]
  split
  ·split
   ·exact (det_knilP _).map _
   ·exact (det_knilP _).map _
   ·exact .fail
  ·split
   ·exact (det_knilS _).map _
   ·exact (det_knilS _).map _
   ·exact .fail
  ·split
   ·exact det_kint2 _ fun _ _ => det_kint2 _ fun _ _ => det_kite _ (det_kif _ .fail (.ret _)) .fail
   ·exact det_kint2 _ fun _ _ => det_kint2 _ fun _ _ => det_kite _ (det_kif _ .fail (.ret _)) .fail
   ·exact det_kint2 _ fun _ _ => det_kint2 _ fun _ _ => det_kif _ .fail (.ret _)
   ·exact det_kint2 _ fun _ _ => det_kint2 _ fun _ _ => det_kif _ .fail (.ret _)
   ·split
    ·exact (det_aeq ..).map _
    ·exact det_flatOp P σ _
   ·split
    ·exact (det_aeq ..).map _
    ·exact det_flatOp P σ _
   ·exact det_flatOp P σ _
 | unOp op t x => exact det_flatOp P σ _
 | convert s d x => exact det_flatOp P σ _
 | fieldAddr t x f =>
  simp only [apure, afieldAddr]
  split
  ·exact det_kpos _ (det_kptr2 _ fun b o => .ret _)
  ·exact .fail
 | field t x f =>
  simp only [apure, afield]
  split
  ·exact det_kagg _ fun _ _ => det_kpart ..
  ·exact .fail
 | slice t x low high mx =>
  cases mx with
  | none => exact det_aslice ..
  | some y => exact det_aslice3 ..
 | indexAddr t x i =>
  simp only [apure, aindexAddr]
  refine det_kint2 _ fun _ _ => ?_
  split
  ·exact det_kpos _ (det_kptr2 _ fun _ _ => det_kif _ (.ret _) .fail)
  ·exact det_kpos _ (det_ksl _ fun _ _ _ _ => det_kif _ (.ret _) .fail)
  ·exact .fail
 | index t x i =>
  simp only [apure, aindex]
  refine det_kint2 _ fun _ _ => ?_
  split
  ·exact det_kpos _ (det_kagg _ fun _ _ => det_kif _ (det_kpart ..) .fail)
  ·exact (det_kS _).comp fun _ => det_kif _ (.ret _) .fail
  ·exact .fail
 | extract x i =>
  simp only [apure]
  split
  ·split
   ·exact .ret _
   ·exact .fail
  ·exact .fail
 | build t parts => exact det_abuild ..
 | makeFunc f first cap =>
  simp only [apure]
  split
  ·exact det_kheld (.ret _) _
  ·exact .fail
 | call c =>
  obtain ⟨callee, args, argTypes⟩ := c
  cases callee with
  | builtin b =>
   cases b with
   | len =>
    simp only [apure]
    split
    ·split
     ·exact (det_klen _).map _
     ·exact (det_kS _).map _
     ·exact .fail
    ·exact .fail
   | min => exact det_flatOp P σ _
   | max => exact det_flatOp P σ _
   | _ => exact .fail
  | value f => exact .fail
  | invoke r m => exact .fail
 | _ => exact .fail
theorem det_ald (P : Program) (t : TypeId) (x : AV) (m : Mem) : Det fun (k : AV → Prop) => ald P t x m k :=
 det_kptr2 _ fun b o => (det_kobj m b).comp fun x => det_kpart ..
theorem det_and {α : Type} (A : Prop) {F : (α → Prop) → Prop} (h : Det F) : Det fun k => A ∧ F k := by
 by_cases a : A
 ·simp only [a, true_and]; exact h
 ·exact .inr fun k hk => a hk.1
theorem det_kstr (x : AV) (m : Mem) : Det fun (k : ByteArray → Prop) => kstr x m k := by
 unfold kstr
 split
 ·rename_i b o n c
  refine (det_kobj m b).comp (G := fun y k => kite (o + n ≤ y.n) (∃ z : ByteArray, z.size = n ∧ (∀ i, i < n → y.c (o + i) = .flat (.int .u8 (z.data.getD i 0).toNat)) ∧ k z) False) fun y => det_kite _ ?_ .fail
  by_cases hz : ∃ z : ByteArray, z.size = n ∧ ∀ i, i < n → y.c (o + i) = .flat (.int .u8 (z.data.getD i 0).toNat)
  ·obtain ⟨z, h1, h2⟩ := hz
   refine .inl ⟨z, fun k => ⟨fun ⟨z', h1', h2', hk⟩ => ?_, fun hk => ⟨z, h1, h2, hk⟩⟩⟩
   have e : z' = z := by
    obtain ⟨dz⟩ := z
    obtain ⟨dz'⟩ := z'
    have s1 : dz.size = n := h1
    have s2 : dz'.size = n := h1'
    congr 1
    apply Array.ext
    ·omega
    ·intro i hi1 hi2
     have a1 := h2 i (by omega)
     have a2 := h2' i (by omega)
     rw [a1] at a2
     simp only [Array.getD, show i < dz.size by omega, show i < dz'.size by omega, dif_pos] at a2
     injection a2 with a2; injection a2 with a2 a3
     have a4 : (dz[i]).toNat = (dz'[i]).toNat := by exact_mod_cast a3
     exact (UInt8.toNat_inj.1 a4).symm
   rw [← e]; exact hk
  ·exact .inr fun k ⟨z, h1, h2, _⟩ => hz ⟨z, h1, h2⟩
 ·exact .ret _
 ·exact det_kite _ (.ret _) .fail
 ·exact .fail
theorem det_aload (P : Program) (fr : Option (Nat → Prop)) (σ : Nat → AV) (m : Mem) (o : Oper) : Det fun (k : AV → Prop) => aload P fr σ m o k := by
 unfold aload; split
 ·split
  ·exact det_ald ..
  ·exact det_kptr2 _ fun b _ => det_and _ (det_ald ..)
 ·split
  ·split
   ·exact (det_kstr ..).map _
   ·unfold frS
    split
    ·exact det_and _ ((det_kstr ..).map _)
    ·exact (det_kstr ..).map _
  ·exact .fail
 ·split
  ·exact det_alookup ..
  ·exact .fail
 ·exact .fail
theorem Det2.ret (u : AV) (m : Mem) : Det2 fun k => k u m := .inl ⟨u, m, fun _ => Iff.rfl⟩
theorem Det2.fail : Det2 fun _ => False := .inr fun _ h => h
theorem det_ast (P : Program) (t : TypeId) (a v : AV) (m : Mem) : Det fun (k : Mem → Prop) => ast P t a v m k := by
 unfold ast
 refine det_kptr2 _ fun b o => (det_kobj m b).comp fun x => ?_
 split
 ·exact .fail
 ·split
  ·exact det_kagg _ fun _ _ => det_kif _ (det_kite _ (.ret _) .fail) .fail
  ·split
   ·split
    ·exact det_kite _ (.ret _) .fail
    ·exact .fail
   ·exact .fail
def isCall : Op → Bool
 | .call { callee := .value _, .. } => true
 | _ => false
theorem ast_mono {P : Program} {t : TypeId} {a v : AV} {m : Mem} {k k' : Mem → Prop} (hk : ∀ m', k m' → k' m') (h : ast P t a v m k) : ast P t a v m k' := by
 rcases det_ast P t a v m with ⟨u, hu⟩ | hn
 ·exact (hu _).2 (hk _ ((hu _).1 h))
 ·exact (hn _ h).elim
theorem ast_strict {P : Program} {t : TypeId} {a v : AV} {m : Mem} (h : ast P t a v m fun _ => False) : False := by
 rcases det_ast P t a v m with ⟨u, hu⟩ | hn
 ·exact (hu _).1 h
 ·exact hn _ h
def isApp : Op → Bool
 | .call { callee := .builtin .append, .. } => true
 | .store .. => true
 | _ => false
theorem det_ksrc {α : Type} (esz : Nat) (x : AV) (m : Mem) {G : Nat → (Nat → AV) → (α → Prop) → Prop} (hG : ∀ n d, Det (G n d)) : Det fun k => ksrc esz x m fun n d => G n d k := by
 unfold ksrc
 split
 ·exact (det_kobj m _).comp (G := fun y k => kite _ (G _ _ k) False) fun y => det_kite _ (hG _ _) .fail
 ·exact hG _ _
 ·exact det_kite _ (hG _ _) .fail
 ·exact det_kite _ (hG _ _) .fail
 ·exact .fail
theorem Det.pair {F : (AV × Mem → Prop) → Prop} (h : Det F) : Det2 fun k => F fun p => k p.1 p.2 := by
 rcases h with ⟨u, hu⟩ | hn
 ·exact .inl ⟨u.1, u.2, fun k => hu _⟩
 ·exact .inr fun k => hn _
theorem det_copS (esz : Nat) (s x : AV) (m : Mem) : Det2 fun k => copS esz s x m k := by
 have h : Det fun (k : AV × Mem → Prop) => copS esz s x m fun v m' => k (v, m') := by
  unfold copS
  refine det_ksrc esz x m fun n d => ?_
  split
  ·exact det_kite _ (.ret _) .fail
  ·exact .ret _
  ·refine det_kite _ (.ret _) ?_
   refine (det_kobj m _).comp (G := fun y k => match y.ro with | true => False | false => kite _ (k (_, _)) False) fun y => ?_
   split
   ·exact .fail
   ·exact det_kite _ (.ret _) .fail
  ·exact .fail
 exact h.pair
def isN : Op → Bool
 | .alloc _ | .box .. | .buildSlice .. | .makeSlice .. | .makeMap _ none | .makeChan .. => true
 | _ => false
theorem det_amod (P : Program) (Γ : Env) (fr : Option (Nat → Prop)) (σ : Nat → AV) (m : Mem) (o : Oper) (h : isCall o.op = false) (hn : isN o.op = false) (ha : isApp o.op = false) : Det2 fun k => amod P Γ fr σ m o k := by
 obtain ⟨dst, op, ty, pos, after, guard⟩ := o
 cases op with
 | alloc e => simp [isN] at hn
 | box e x => simp [isN] at hn
 | buildSlice t len parts => simp [isN] at hn
 | makeSlice t l c => simp [isN] at hn
 | makeChan t x => simp [isN] at hn
 | makeMap t r => cases r with
  | none => simp [isN] at hn
  | some r => exact .fail
 | mapUpdate t x i v =>
  simp only [amod, amapUpdate]
  split
  ·split
   ·rcases det_putK _ _ (aval σ x) (aval σ i) (aval σ v) m with ⟨u, hu⟩ | hn
    ·exact .inl ⟨.junk, u, fun k => hu fun m' => k .junk m'⟩
    ·exact .inr fun k => hn fun m' => k .junk m'
   ·exact .fail
  ·exact .fail
 | store t x v => simp [isApp] at ha
 | call c =>
  obtain ⟨callee, args, argTypes⟩ := c
  cases callee with
  | value f => simp [isCall] at h
  | builtin b =>
   cases b with
   | append => simp [isApp] at ha
   | copy =>
    simp only [amod, acopy]
    split
    ·split
     ·split
      ·unfold kpos
       split
       ·exact .fail
       ·exact det_copS ..
      ·exact .fail
     ·exact .fail
    ·exact .fail
   | clear =>
    simp only [amod, aclear]
    split
    ·split
     ·rcases det_mclear _ m with ⟨u, hu⟩ | hn
      ·exact .inl ⟨.junk, u, fun k => hu _⟩
      ·exact .inr fun k => hn _
     ·split
      ·unfold kpos
       split
       ·exact .fail
       ·rcases det_clrS _ _ m with ⟨u, hu⟩ | hn
        ·exact .inl ⟨.junk, u, fun k => hu _⟩
        ·exact .inr fun k => hn _
      ·exact .fail
     ·exact .fail
    ·exact .fail
   | delete =>
    simp only [amod, adelete]
    split
    ·rename_i x key t ts _ _
     split
     ·split
      ·rcases det_delK _ _ x key m with ⟨u, hu⟩ | hn
       ·exact .inl ⟨.junk, u, fun k => hu fun m' => k .junk m'⟩
       ·exact .inr fun k => hn fun m' => k .junk m'
      ·exact .fail
     ·exact .fail
    ·exact .fail
   | _ => exact .fail
  | invoke r m => exact .fail
 | _ => exact .fail
def NewAll (F : Mem → KV → Prop) : Prop := (∃ (u : Nat → AV) (x : Blk), ∀ m k, F m k ↔ newK m x fun b m' => k (u b) m') ∨ (∃ v, ∀ m k, F m k ↔ k v m) ∨ ∀ m k, ¬ F m k
theorem NewAll.kite {c : Prop} [Decidable c] {F : Mem → KV → Prop} (h : NewAll F) : NewAll fun m k => kite c (F m k) False := by
 by_cases hc : c
 ·simp only [kite_eq, hc, if_true]; exact h
 ·simp only [kite_eq, hc, if_false]; exact .inr (.inr fun m k h => h)
theorem NewAll.kif {c : Bool} {F : Mem → KV → Prop} (h : NewAll F) : NewAll fun m k => kif c (F m k) False := by
 cases c with
 | true => exact h
 | false => exact .inr (.inr fun m k h => h)
theorem NewAll.no : NewAll fun (_ : Mem) (_ : KV) => False := .inr (.inr fun m k h => h)
theorem NewAll.kones (place : Nat → Option (Nat × TypeId)) (P : Program) {F : Mem → KV → Prop} (h : NewAll F) : ∀ parts : List (Nat × AV), NewAll fun m k => kones place P parts (F m k)
 | [] => h
 | (i, v) :: rest => by
  simp only [Am.kones]
  split
  ·exact .no
  ·split
   ·exact NewAll.kones place P h rest
   ·exact .kif (NewAll.kones place P h rest)
theorem NewAll.kone (P : Program) (t : TypeId) (v : AV) {F : Mem → KV → Prop} (h : NewAll F) : NewAll fun m k => kone P t v (F m k) := by
 simp only [Am.kone]
 split
 ·exact h
 ·exact .kif h
theorem new_amod (P : Program) (Γ : Env) (fr : Option (Nat → Prop)) (σ : Nat → AV) (o : Oper) (h : isN o.op = true) : NewAll fun m k => amod P Γ fr σ m o k := by
 obtain ⟨dst, op, ty, pos, after, guard⟩ := o
 cases op with
 | alloc e =>
  simp only [amod]
  split
  ·exact .inl ⟨fun b => .ptr b 0, _, fun m k => Iff.rfl⟩
  ·exact .inr (.inr fun m k h => h)
 | box e x =>
  simp only [amod]
  split
  ·exact .kone P e _ (.inl ⟨fun b => .ptr b 0, _, fun m k => Iff.rfl⟩)
  ·exact .no
 | makeChan t x =>
  simp only [amod]
  split
  ·unfold kint
   split
   ·exact .kif (.kite (.inr (.inl ⟨.ch, fun m k => Iff.rfl⟩)))
   ·exact .no
  ·exact .no
 | buildSlice t len parts =>
  simp only [amod, abuildSlice, kite_eq]
  split
  ·split
   ·split
    ·split
     ·exact .kones _ _ (.inl ⟨fun b => .sl b 0 len (.ex len), _, fun m k => Iff.rfl⟩) _
     ·exact .inr (.inr fun m k h => h)
    ·exact .inr (.inr fun m k h => h)
   ·exact .inr (.inr fun m k h => h)
  ·exact .inr (.inr fun m k h => h)
 | makeSlice t l c =>
  have no : NewAll fun (_ : Mem) (_ : KV) => False := .inr (.inr fun m k h => h)
  simp only [amod, amakeSlice]
  split
  ·split
   ·unfold kint
    split
    ·split
     ·unfold mkS; exact .kite (.kif (.kif (.kite (.inl ⟨fun b => .sl b 0 _ (.ex _), _, fun m k => Iff.rfl⟩))))
     ·exact no
    ·exact no
   ·exact no
  ·exact no
 | makeMap t r =>
  cases r with
  | some r => simp [isN] at h
  | none =>
   simp only [amod, mapNew]
   split
   ·exact .inl ⟨fun b => .mp b, _, fun m k => Iff.rfl⟩
   ·exact .inr (.inr fun m k h => h)
 | _ => simp [isN] at h
structure Hon (F : KV → Prop) : Prop where
 mono : ∀ k k' : KV, (∀ v m', k v m' → k' v m') → F k → F k'
 strict : ¬ F fun _ _ => False
theorem Det2.hon {F : KV → Prop} (h : Det2 F) : Hon F := by
 rcases h with ⟨u, m', hu⟩ | hn
 ·exact ⟨fun k k' hkk h => (hu k').2 (hkk _ _ ((hu k).1 h)), fun h => (hu _).1 h⟩
 ·exact ⟨fun k _ _ h => (hn k h).elim, hn _⟩
theorem NewAll.hon {F : Mem → KV → Prop} (h : NewAll F) (m : Mem) : Hon (F m) := by
 rcases h with ⟨u, x, hu⟩ | ⟨v, hv⟩ | hn
 ·refine ⟨fun k k' hkk h => (hu m k').2 fun b hb => hkk _ _ ((hu m k).1 h b hb), fun h => ?_⟩
  obtain ⟨b, hb⟩ := m.fresh
  exact (hu m _).1 h b hb
 ·exact ⟨fun k k' hkk h => (hv m k').2 (hkk _ _ ((hv m k).1 h)), fun h => (hv m _).1 h⟩
 ·exact ⟨fun k _ _ h => (hn m k h).elim, hn m _⟩
theorem Det.two {F : (AV → Prop) → Prop} (h : Det F) (m : Mem) : Det2 fun k => F fun v => k v m := by
 rcases h with ⟨u, hu⟩ | hn
 ·exact .inl ⟨u, m, fun k => hu _⟩
 ·exact .inr fun k => hn _
theorem Hon.fail : Hon fun _ => False := ⟨fun _ _ _ h => h, fun h => h⟩
theorem Hon.ret (v : AV) (m : Mem) : Hon fun k => k v m := ⟨fun _ _ h => h v m, fun h => h⟩
theorem Hon.kite {c : Prop} [Decidable c] {F G : KV → Prop} (hF : Hon F) (hG : Hon G) : Hon fun k => kite c (F k) (G k) := by
 by_cases h : c
 ·simp only [kite_eq, if_pos h]; exact hF
 ·simp only [kite_eq, if_neg h]; exact hG
theorem Hon.kobj {m : Mem} {b : Nat} {F : Blk → KV → Prop} (hF : ∀ y, Hon (F y)) : Hon fun k => kobj m b fun y => F y k := by
 unfold Am.kobj
 cases m.obj b with
 | none => exact .fail
 | some y => exact hF y
theorem Hon.both {F G : KV → Prop} (hF : Hon F) (hG : Hon G) : Hon fun k => F k ∧ G k := ⟨fun k k' h x => ⟨hF.mono k k' h x.1, hG.mono k k' h x.2⟩, fun h => hF.strict h.1⟩
theorem hon_ksrc (esz : Nat) (x : AV) (m : Mem) {G : Nat → (Nat → AV) → KV → Prop} (hG : ∀ n d, Hon (G n d)) : Hon fun k => ksrc esz x m fun n d => G n d k := by
 unfold ksrc
 split
 ·exact .kobj (F := fun y k => Am.kite _ (G _ _ k) False) fun y => .kite (hG _ _) .fail
 ·exact hG _ _
 ·exact .kite (hG _ _) .fail
 ·exact .kite (hG _ _) .fail
 ·exact .fail
theorem hon_appIn (esz b o len : Nat) (cap : Cap) (n : Nat) (d : Nat → AV) (m : Mem) : Hon fun k => appIn esz b o len cap n d m k := by
 unfold appIn
 refine .kobj (F := fun y k => match y.ro with | true => False | false => k _ _) fun y => ?_
 split
 ·exact .fail
 ·exact .ret _ _
theorem hon_newK (x : Blk) (u : Nat → AV) (m : Mem) : Hon fun k => newK m x fun b m' => k (u b) m' :=
 ⟨fun k k' hkk h b hb => hkk _ _ (h b hb), fun h => by
  obtain ⟨b, hb⟩ := m.fresh
  exact h b hb⟩
theorem hon_appD (esz bytes : Nat) (e : TypeId) (s : AV) (n : Nat) (d : Nat → AV) (m : Mem) : Hon fun k => appD esz bytes e s n d m k := by
 unfold appD
 split
 ·exact .kite (.kite (.ret _ _) (.kite (hon_newK ..) .fail)) .fail
 ·exact .kite (.ret _ _) .fail
 ·rename_i b o len cap
  refine .kite (.ret _ _) ?_
  cases cap with
  | ex c => exact .kobj (F := fun y k => Am.kite _ (Am.kite (len + n ≤ c) (Am.kite _ (appIn esz b o len (.ex c) n d m k) False) (appNew esz e (sub y.c o (len * esz)) len n d m k)) False) fun y => .kite (.kite (.kite (hon_appIn ..) .fail) (hon_newK ..)) .fail
  | ge e' q => exact .kobj (F := fun y k => Am.kite _ (Am.kite (e' = esz) (Am.kite (len + n ≤ q) (appIn esz b o len (.ge esz q) n d m k) (appIn esz b o len (.ge esz (len + n)) n d m k ∧ appNew esz e (sub y.c o (len * esz)) len n d m k)) False) False) fun y => .kite (.kite (.kite (hon_appIn ..) (.both (hon_appIn ..) (hon_newK ..))) .fail) .fail
 ·exact .fail
theorem hon_appS (esz bytes : Nat) (e : TypeId) (s x : AV) (m : Mem) : Hon fun k => appS esz bytes e s x m k := by
 unfold appS
 exact hon_ksrc esz x m fun n d => hon_appD ..
theorem hon_appZ (zs : List AV) (esz bytes : Nat) (e : TypeId) (s x : AV) (m : Mem) : Hon fun k => appZ zs esz bytes e s x m k := by
 unfold appZ
 split
 ·rename_i n
  cases decide (0 ≤ n) with
  | true => exact .kite (hon_appD ..) .fail
  | false => exact .fail
 ·exact .fail
theorem hon_aappend (P : Program) (args : List AV) (ts : List TypeId) (m : Mem) : Hon fun k => aappend P args ts m k := by
 unfold aappend
 split
 ·split
  ·split
   ·split
    ·exact .kite (hon_appS ..) .fail
    ·split
     ·exact .kite (hon_appZ ..) .fail
     ·exact .fail
   ·exact .fail
  ·exact .fail
 ·exact .fail
theorem hon_opK {P : Program} {w0 : World} {Γ : Env} (HΓ : Sound P w0 Γ) (fr : Option (Nat → Prop)) (σ : Nat → AV) (m : Mem) (o : Oper) : Hon fun k => opK P Γ fr σ m o k := by
 unfold opK; split
 ·exact ((det_apure P σ o).two m).hon
 ·exact ((det_aload P fr σ m o).two m).hon
 ·by_cases c : isCall o.op = true
  ·obtain ⟨dst, op, ty, pos, after, guard⟩ := o
   cases op with
   | call cl =>
    obtain ⟨callee, args, argTypes⟩ := cl
    cases callee with
    | value x =>
     cases x with
     | func f =>
      cases fr with
      | none => exact ⟨fun k k' => HΓ.mono f _ m k k', HΓ.strict f _ m⟩
      | some F => exact ⟨fun k k' hk => HΓ.mono f _ m _ _ fun v m' h => ⟨h.1, hk _ _ h.2⟩, fun h => HΓ.strict f _ m (HΓ.mono f _ m _ _ (fun v m' h => h.2) h)⟩
     | tmp t =>
      rcases kfunv_or (σ t) with ⟨f, xs, hf⟩ | hn
      ·dsimp only [amod]
       simp only [hf]
       cases fr with
       | none => exact ⟨fun k k' hk => HΓ.mono f _ m _ _ fun v m' h => kres_mono (fun v hv => hk v m' hv) h, fun h => HΓ.strict f _ m (HΓ.mono f _ m _ _ (fun v m' h => kres_ok (k := fun _ => False) h) h)⟩
       | some F => exact ⟨fun k k' hk => HΓ.mono f _ m _ _ fun v m' h => ⟨h.1, kres_mono (fun v hv => hk v m' hv) h.2⟩, fun h => HΓ.strict f _ m (HΓ.mono f _ m _ _ (fun v m' h => kres_ok (k := fun _ => False) h.2) h)⟩
      ·have hn' : ∀ k : KV, ¬ amod P Γ fr σ m { dst := dst, op := Op.call { callee := Callee.value (Operand.tmp t), args := args, argTypes := argTypes }, type := ty, pos := pos, after := after, guard := guard } k := fun k h => hn _ (by dsimp only [amod] at h; exact h)
       exact ⟨fun k _ _ h => (hn' _ h).elim, fun h => hn' _ h⟩
     | _ => exact ⟨fun _ _ _ h => h, fun h => h⟩
    | _ => simp [isCall] at c
   | _ => simp [isCall] at c
  ·by_cases cn : isN o.op = true
   ·exact (new_amod P Γ fr σ o cn).hon m
   ·by_cases ca : isApp o.op = true
    ·obtain ⟨dst, op, ty, pos, after, guard⟩ := o
     cases op with
     | call cl =>
      obtain ⟨callee, args, argTypes⟩ := cl
      cases callee with
      | builtin b =>
       cases b <;> first | (simp [isApp] at ca; done) | skip
       cases fr with
       | none => exact hon_aappend ..
       | some F =>
        have H := hon_aappend P (args.toList.map (aval σ)) argTypes.toList m
        exact ⟨fun k k' hk => H.mono _ _ fun v m' h => ⟨h.1, hk _ _ h.2⟩, fun h => H.strict (H.mono _ _ (fun v m' h => h.2) h)⟩
      | _ => simp [isApp] at ca
     | store t x v =>
      cases fr with
      | none => exact (⟨fun k k' hk h => ast_mono (fun m' h => hk _ _ h) h, fun h => ast_strict h⟩ : Hon fun k => ast P t (aval σ x) (aval σ v) m fun m' => k .junk m')
      | some F => exact (⟨fun k k' hk h => ast_mono (fun m' h => ⟨h.1, hk _ _ h.2⟩) h, fun h => ast_strict (ast_mono (fun m' h => h.2) h)⟩ : Hon fun k => ast P t (aval σ x) (aval σ v) m fun m' => KeepsIn F m m' ∧ k .junk m')
     | _ => simp [isApp] at ca
    ·exact (det_amod P Γ fr σ m o (by simpa using c) (by simpa using cn) (by simpa using ca)).hon
theorem hon_gopK {P : Program} {w0 : World} {Γ : Env} (HΓ : Sound P w0 Γ) (fr : Option (Nat → Prop)) (all : Array Oper) (σ : Nat → AV) (m : Mem) (o : Oper) : Hon fun k => gopK P Γ fr all σ m o k := by
 unfold gopK; split
 ·exact hon_opK HΓ _ σ m o
 ·rename_i j want _
  split
  ·exact Det2.fail.hon
  ·rename_i d _
   rcases kgd_ways (σ d) want with e | e | e
   ·simp only [e]; exact hon_opK HΓ _ σ m o
   ·simp only [e]; exact (Det2.ret _ _).hon
   ·simp only [e]; exact Det2.fail.hon
theorem hon_regK {P : Program} {w0 : World} {Γ : Env} (HΓ : Sound P w0 Γ) (fr : Option (Nat → Prop)) (all : Array Oper) : ∀ (l : List Oper) (σ : Nat → AV) (m : Mem),
  (∀ k k' : (Nat → AV) → Mem → Prop, (∀ σ m, k σ m → k' σ m) → regK P Γ fr all l σ m k → regK P Γ fr all l σ m k') ∧ ¬ regK P Γ fr all l σ m fun _ _ => False
 | [], σ, m => ⟨fun k k' h => h σ m, fun h => h⟩
 | o :: l, σ, m => by
  have key : ∀ (o : Oper) (σ' σ2 : Nat → AV) (m : Mem), (∀ k k' : (Nat → AV) → Mem → Prop, (∀ σ m, k σ m → k' σ m) → (opK P Γ (frOf P all fr o) σ' m o fun v m' => regK P Γ fr all l (putA σ2 o.dst v) m' k) → opK P Γ (frOf P all fr o) σ' m o fun v m' => regK P Γ fr all l (putA σ2 o.dst v) m' k') ∧ ¬ (opK P Γ (frOf P all fr o) σ' m o fun v m' => regK P Γ fr all l (putA σ2 o.dst v) m' fun _ _ => False) := fun o σ' σ2 m =>
   ⟨fun k k' hkk h => (hon_opK HΓ _ σ' m o).mono _ _ (fun v m' => (hon_regK HΓ fr all l _ _).1 k k' hkk) h, fun h => (hon_opK HΓ _ σ' m o).strict ((hon_opK HΓ _ σ' m o).mono _ _ (fun v m' h => (hon_regK HΓ fr all l _ _).2 h) h)⟩
  simp only [regK]
  split
  ·exact key o σ σ m
  ·split
   ·exact ⟨fun _ _ _ h => h, fun h => h⟩
   ·rename_i d _
    split
    ·rename_i b _
     split
     ·cases b
      ·exact ⟨fun k k' hkk h => (hon_regK HΓ fr all l _ _).1 k k' hkk h, fun h => (hon_regK HΓ fr all l _ _).2 h⟩
      ·exact key o _ _ m
     ·cases b
      ·exact key o _ _ m
      ·exact ⟨fun k k' hkk h => (hon_regK HΓ fr all l _ _).1 k k' hkk h, fun h => (hon_regK HΓ fr all l _ _).2 h⟩
    ·exact ⟨fun k k' hkk h => (hon_regK HΓ fr all l _ _).1 k k' hkk h, fun h => (hon_regK HΓ fr all l _ _).2 h⟩
    ·exact ⟨fun _ _ _ h => h, fun h => h⟩
theorem det_mono {α : Type} {F : (α → Prop) → Prop} (h : Det F) {k k' : α → Prop} (hk : ∀ v, k v → k' v) (h1 : F k) : F k' := by
 rcases h with ⟨u, hu⟩ | hn
 ·exact (hu _).2 (hk _ ((hu _).1 h1))
 ·exact (hn _ h1).elim
theorem set_other {m : Mem} {b b' : Nat} (x : Blk) (h : b' ≠ b) : (m.set b x).obj b' = m.obj b' := by simp [Mem.set, upd, h]
theorem set_same (m : Mem) (b : Nat) (x : Blk) : (m.set b x).obj b = some x := by simp [Mem.set, upd]
theorem set_comm (m : Mem) {b b' : Nat} (x y : Blk) (h : b' ≠ b) : (m.set b x).set b' y = (m.set b' y).set b x := by
 simp only [Mem.set, Mem.mk.injEq]
 funext j
 simp only [upd]
 by_cases c1 : j = b
 ·subst c1; simp [Ne.symm h]
 ·simp [c1]
theorem newK_frame {m : Mem} {y : Blk} {u : Nat → AV} {k : KV} (h : newK m y fun b m' => k (u b) m') (b : Nat) (x : Blk) (hb : m.obj b = none) : newK (m.set b x) y fun b' m' => ∃ m1, m' = m1.set b x ∧ m1.obj b = none ∧ k (u b') m1 := by
 intro b' hb'
 have hne : b' ≠ b := fun e => by subst e; rw [set_same] at hb'; cases hb'
 rw [set_other x hne] at hb'
 exact ⟨m.set b' y, set_comm m x y hne, by rw [set_other y (Ne.symm hne)]; exact hb, h b' hb'⟩
theorem kobj_frame {m : Mem} {b' : Nat} {k : Blk → Prop} (h : kobj m b' k) (b : Nat) (x : Blk) (hb : m.obj b = none) : b' ≠ b ∧ kobj (m.set b x) b' k := by
 obtain ⟨y, hy, h⟩ := kobj_ok h
 have hne : b' ≠ b := fun e => by subst e; rw [hb] at hy; cases hy
 refine ⟨hne, ?_⟩
 unfold kobj
 rw [set_other x hne, hy]
 exact h
theorem kobj_mono {m : Mem} {b : Nat} {k k' : Blk → Prop} (hk : ∀ y, k y → k' y) (h : kobj m b k) : kobj m b k' := by
 unfold kobj at h ⊢
 split at h
 ·exact hk _ h
 ·exact h.elim
theorem kite_mono {c : Prop} [Decidable c] {A B A' B' : Prop} (hA : A → A') (hB : B → B') (h : kite c A B) : kite c A' B' := by
 rw [kite_eq] at h ⊢
 split at h
 ·rename_i hc; rw [if_pos hc]; exact hA h
 ·rename_i hc; rw [if_neg hc]; exact hB h
theorem ksrc_frame {esz : Nat} {y : AV} {m : Mem} {k k' : Nat → (Nat → AV) → Prop} (b : Nat) (x : Blk) (hb : m.obj b = none) (hk : ∀ n d, k n d → k' n d) (h : ksrc esz y m k) : ksrc esz y (m.set b x) k' := by
 unfold ksrc at h ⊢
 split at h
 ·exact kobj_mono (fun z hz => kite_mono (hk _ _) id hz) (kobj_frame h b x hb).2
 ·exact hk _ _ h
 ·exact kite_mono (hk _ _) id h
 ·exact kite_mono (hk _ _) id h
 ·exact h.elim
theorem appIn_frame {esz b' o len n : Nat} {cap : Cap} {d : Nat → AV} {m : Mem} {k : KV} (b : Nat) (x : Blk) (hb : m.obj b = none) (h : appIn esz b' o len cap n d m k) : appIn esz b' o len cap n d (m.set b x) fun v m' => ∃ m1, m' = m1.set b x ∧ m1.obj b = none ∧ k v m1 := by
 unfold appIn at h ⊢
 obtain ⟨hne, h⟩ := kobj_frame h b x hb
 refine kobj_mono (fun z hz => ?_) h
 split at hz
 ·exact hz.elim
 ·exact ⟨m.set b' _, set_comm m x _ hne, by rw [set_other _ (Ne.symm hne)]; exact hb, hz⟩
theorem appD_frame {esz bytes : Nat} {e : TypeId} {s : AV} {n : Nat} {d : Nat → AV} {m : Mem} {k : KV} (b : Nat) (x : Blk) (hb : m.obj b = none) (h : appD esz bytes e s n d m k) : appD esz bytes e s n d (m.set b x) fun v m' => ∃ m1, m' = m1.set b x ∧ m1.obj b = none ∧ k v m1 := by
 have ret : ∀ v, k v m → ∃ m1, m.set b x = m1.set b x ∧ m1.obj b = none ∧ k v m1 := fun v h => ⟨m, rfl, hb, h⟩
 unfold appD at h ⊢
 split at h
 ·exact kite_mono (kite_mono (ret _) (kite_mono (fun h => newK_frame h b x hb) id)) id h
 ·exact kite_mono (ret _) id h
 ·rename_i b' o len cap
  refine kite_mono (ret _) (fun h => ?_) h
  obtain ⟨hne, h⟩ := kobj_frame h b x hb
  refine kobj_mono (fun z hz => kite_mono (fun hz => ?_) id hz) h
  cases cap with
  | ex c => exact kite_mono (kite_mono (appIn_frame b x hb) id) (fun h => newK_frame h b x hb) hz
  | ge e' q => exact kite_mono (kite_mono (appIn_frame b x hb) (fun h => ⟨appIn_frame b x hb h.1, newK_frame h.2 b x hb⟩)) id hz
 ·exact h.elim
theorem appS_frame {esz bytes : Nat} {e : TypeId} {s y : AV} {m : Mem} {k : KV} (b : Nat) (x : Blk) (hb : m.obj b = none) (h : appS esz bytes e s y m k) : appS esz bytes e s y (m.set b x) fun v m' => ∃ m1, m' = m1.set b x ∧ m1.obj b = none ∧ k v m1 := by
 unfold appS at h ⊢
 exact ksrc_frame b x hb (fun n d h2 => appD_frame b x hb h2) h
theorem appZ_frame {zs : List AV} {esz bytes : Nat} {e : TypeId} {s y : AV} {m : Mem} {k : KV} (b : Nat) (x : Blk) (hb : m.obj b = none) (h : appZ zs esz bytes e s y m k) : appZ zs esz bytes e s y (m.set b x) fun v m' => ∃ m1, m' = m1.set b x ∧ m1.obj b = none ∧ k v m1 := by
 unfold appZ at h ⊢
 split at h
 ·rename_i n
  cases hd : decide (0 ≤ n) with
  | true =>
   rw [hd] at h
   exact kite_mono (fun h => appD_frame b x hb h) id h
  | false => rw [hd] at h; exact h.elim
 ·exact h.elim
theorem ast_frame {P : Program} {t : TypeId} {a v : AV} {m : Mem} {k : Mem → Prop} (h : ast P t a v m k) (b : Nat) (x : Blk) (hb : m.obj b = none) : ast P t a v (m.set b x) fun m' => ∃ m1, m' = m1.set b x ∧ m1.obj b = none ∧ k m1 := by
 obtain ⟨b', o, rfl, h⟩ := kptr_ok h
 obtain ⟨y, hy, h⟩ := kobj_ok h
 have hne : b' ≠ b := fun e => by subst e; rw [hb] at hy; cases hy
 have key : ∀ z, k (m.set b' z) → ∃ m1, (m.set b x).set b' z = m1.set b x ∧ m1.obj b = none ∧ k m1 := fun z hz => ⟨m.set b' z, set_comm m x z hne, by rw [set_other z (Ne.symm hne)]; exact hb, hz⟩
 show kobj (m.set b x) b' _
 unfold kobj
 rw [set_other x hne, hy]
 dsimp only
 cases hro : y.ro with
 | true => rw [hro] at h; exact h.elim
 | false =>
  rw [hro] at h
  dsimp only at h ⊢
  simp only [kite_eq] at h ⊢
  split at h
  ·rename_i e
   obtain ⟨n, c, rfl, h⟩ := kagg_ok h
   rcases kif_ok h with ⟨hn, h⟩ | ⟨_, h⟩
   rotate_left
   ·exact h.elim
   show kif _ _ _
   rw [hn]
   show if _ then _ else _
   split at h
   ·rename_i c; rw [if_pos c]; exact key _ h
   ·exact h.elim
  ·split at h
   ·split at h
    ·split at h
     ·rename_i c; rw [if_pos c]; exact key _ h
     ·exact h.elim
    ·exact h.elim
   ·exact h.elim
end Go.Proofs.YtkiggdgphbkneaaGreat.Am
