/- Regions in the text's order; operations yield one value, or none; what follows may be weakened. No program in sight. -/
import Derived.Test.YtkiggdgphbkneaaGreatTopDiskX7
namespace Go.Proofs.YtkiggdgphbkneaaGreat.Am
set_option linter.unusedVariables false
set_option linter.unusedSimpArgs false
theorem SR.put {g : Gh} {σ : Nat -> AV} {a : Act} {n : Nat} (S : SR g σ a n) {d : Option Tmp} {v : AV} {v' : Value} (hv : VR g v v') (hd : ∀ t, d = some t -> t < n) : SR g (yG σ d v) (a.put d v') n := by
 cases d with
 | none => exact S
 | some d =>
  refine ⟨fun t => ?_, by simp [Act.put, S.sz], S.df⟩
  have hlt : d < a.tmps.size := by rw [S.sz]; exact hd d rfl
  simp only [yG, upd, Act.put]
  by_cases c : t = d
  .subst c
   rw [if_pos rfl]
   simpa [Array.getD, hlt] using hv
  .rw [if_neg c]
   have := S.tm t
   have e : (a.tmps.setIfInBounds d v').getD t undef = a.tmps.getD t undef := by
    by_cases ht : t < a.tmps.size
    .simp [Array.getD, ht, Array.getElem_setIfInBounds, Ne.symm c]
    .simp [Array.getD, ht]
   rw [e]; exact this
def kgd (v : AV) (want : Bool) (A B : Prop) : Prop := match v with
 | .flat (.bool t) => if t = want then A else B
 | .flat (.tuple _) => B
 | _ => False
theorem yQh {v : AV} {want : Bool} {A B : Prop} (h : kgd v want A B) : (v = .flat (.bool want) /\ A) \/ (((∃ t, v = .flat (.bool t) /\ t ≠ want) \/ ∃ a, v = .flat (.tuple a)) /\ B) := by
 unfold kgd at h
 split at h
 .split at h
  .rename_i e; subst e; exact .inl ⟨rfl, h⟩
  .rename_i t e; exact .inr ⟨.inl ⟨_, rfl, e⟩, h⟩
 .exact .inr ⟨.inr ⟨_, rfl⟩, h⟩
 .exact h.elim
theorem nO (v : AV) (want : Bool) : (∀ A B, kgd v want A B = A) \/ (∀ A B, kgd v want A B = B) \/ ∀ A B, kgd v want A B = False := by
 unfold kgd
 split
 .rename_i t
  by_cases c : t = want
  .exact .inl fun A B => by rw [if_pos c]
  .exact .inr (.inl fun A B => by rw [if_neg c])
 .exact .inr (.inl fun A B => rfl)
 .exact .inr (.inr fun A B => rfl)
def xF (P : Program) (Γ : zZ) (fr : Option (Nat -> Prop)) (all : Array Oper) (σ : Nat -> AV) (m : Mem) (o : Oper) (k : KV) : Prop :=
 match o.guard with
 | none => cD P Γ (nR P all fr o) σ m o k
 | some (j, want) => match (all[j]?).bind (·.dst) with
  | none => False
  | some d => kgd (σ d) want (cD P Γ (nR P all fr o) σ m o k) (k (.flat undef) m)
theorem dB {α : Type} (s : Nat -> α) (d : Nat) (v : α) (h : s d = v) : upd s d v = s := by
 funext j; simp only [upd]; split
 .rename_i e; subst e; exact h.symm
 .rfl
theorem zHd {P : Program} {Γ : zZ} {fr : Option (Nat -> Prop)} {all : Array Oper} {σ : Nat -> AV} {m : Mem} {o : Oper} {rest : List Oper} {k : (Nat -> AV) -> Mem -> Prop} (h : sZ P Γ fr all (o :: rest) σ m k) :
  xF P Γ fr all σ m o fun v m' => sZ P Γ fr all rest (yG σ o.dst v) m' k := by
 unfold sZ at h
 unfold xF
 split at h
 .rename_i e; rw [e]; exact h
 .rename_i j want e
  rw [e]
  dsimp only
  split at h
  .exact h.elim
  .rename_i d hd
   rw [hd]
   dsimp only
   split at h
   .rename_i t ht
    rw [ht]
    show if t = want then _ else _
    split at h
    .rcases yY h with ⟨rfl, h⟩ | ⟨rfl, h⟩
     .rw [dB σ d _ ht] at h; rw [if_pos rfl]; exact h
     .rw [dB σ d _ ht] at h; rw [if_neg (by decide)]; exact h
    .rcases yY h with ⟨rfl, h⟩ | ⟨rfl, h⟩
     .rw [dB σ d _ ht] at h; rw [if_neg (by decide)]; exact h
     .rw [dB σ d _ ht] at h; rw [if_pos rfl]; exact h
   .rename_i t ht
    rw [ht]
    exact h
   .exact h.elim
theorem zEt {g : Gh} {σ : Nat -> AV} {a : Act} {n : Nat} (S : SR g σ a n) {all : Array Oper} {j d : Nat} {t : Bool} (hd : (all[j]?).bind (·.dst) = some d) (ht : σ d = .flat (.bool t)) : yielded all a.tmps j = some t := by
 have h := S.tm d
 rw [ht] at h
 have h : a.tmps.getD d undef = .bool t := h
 unfold yielded
 rw [hd]
 by_cases hlt : d < a.tmps.size
 .simp only [Array.getD, hlt, dif_pos] at h
  have h2 : a.tmps[d]? = some (.bool t) := by rw [Array.getElem?_eq_getElem hlt]; exact congrArg some h
  simp [h2]
 .simp [Array.getD, hlt, undef] at h
theorem zL8 {g : Gh} {σ : Nat -> AV} {a : Act} {n : Nat} (S : SR g σ a n) {all : Array Oper} {j d : Nat} {t : Array Value} (hd : (all[j]?).bind (·.dst) = some d) (ht : σ d = .flat (.tuple t)) : yielded all a.tmps j = none := by
 have h := S.tm d
 rw [ht] at h
 have h : a.tmps.getD d undef = .tuple t := h
 unfold yielded
 rw [hd]
 by_cases hlt : d < a.tmps.size
 .simp only [Array.getD, hlt, dif_pos] at h
  have h2 : a.tmps[d]? = some (.tuple t) := by rw [Array.getElem?_eq_getElem hlt]; exact congrArg some h
  simp [h2]
 .simp [hlt]
theorem zWu {P : Program} {w0 : World} {Γ : zZ} (HΓ : Sound P w0 Γ) {fr : Option (Nat -> Prop)} {all : Array Oper} {i : Nat} {o : Oper} (hi : all[i]? = some o) {σ : Nat -> AV} {m : Mem} {k : KV} {g : Gh} {a : Act} {n : Nat} {w : World} {next : Act -> World -> Prop} {Q : Exit -> Act -> World -> Prop} (S : SR g σ a n) (HR : R w0 g m w) (h : xF P Γ fr all σ m o k)
  (hk : ∀ v v' g' m' w', Ext g g' -> VR g' v v' -> R w0 g' m' w' -> k v m' -> next (a.put o.dst v') w') : wpOp P all Q i next a w := by
 unfold wpOp
 rw [hi]
 dsimp only
 unfold xF at h
 split at h
 .rename_i e
  rw [if_pos (by simp [Region.wanted, e])]
  exact .inl (yFb HΓ S HR h hk)
 .rename_i j want e
  split at h
  .exact h.elim
  .rename_i d hd
   rcases yQh h with ⟨ht, h⟩ | ⟨⟨t, ht, c⟩ | ⟨t, ht⟩, h⟩
   .have hy := zEt S hd ht
    rw [if_pos (by simp [Region.wanted, e, hy])]
    exact .inl (yFb HΓ S HR h hk)
   .have hy := zEt S hd ht
    rw [if_neg (by simp [Region.wanted, e, hy, c])]
    exact hk (.flat undef) undef g m w (Ext.refl g) rfl HR h
   .have hy := zL8 S hd ht
    rw [if_neg (by simp [Region.wanted, e, hy])]
    exact hk (.flat undef) undef g m w (Ext.refl g) rfl HR h
theorem zVj {P : Program} {w0 : World} {Γ : zZ} (HΓ : Sound P w0 Γ) {fr : Option (Nat -> Prop)} {all : Array Oper} {n : Nat} (hok : ∀ o ∈ all.toList, ∀ d, o.dst = some d -> d < n) {Q : Exit -> Act -> World -> Prop} {k : (Nat -> AV) -> Mem -> Prop} {g0 : Gh}
  (hk : ∀ σ' m' g' a' w', Ext g0 g' -> SR g' σ' a' n -> R w0 g' m' w' -> k σ' m' -> Q .normal a' w') :
  ∀ (l : List Oper) (i : Nat), (∀ j, l[j]? = all[i + j]?) -> ∀ (σ : Nat -> AV) (m : Mem) (g : Gh) (a : Act) (w : World), Ext g0 g -> SR g σ a n -> R w0 g m w -> sZ P Γ fr all l σ m k -> wpOps P all Q (List.range' i l.length) a w
 | [], i, hl, σ, m, g, a, w, E, S, HR, h => hk σ m g a w E S HR h
 | o :: l, i, hl, σ, m, g, a, w, E, S, HR, h => by
  have hi : all[i]? = some o := by simpa using (hl 0).symm
  rw [List.length_cons, List.range'_succ, wpOps_cons]
  refine zWu HΓ hi S HR (zHd h) fun v v' g' m' w' E' hv HR' h' => ?_
  refine zVj HΓ hok hk l (i + 1) (fun j => by have := hl (j + 1); simpa [Nat.add_assoc, Nat.add_comm 1 j] using this) (yG σ o.dst v) m' g' (a.put o.dst v') w' (E.trans E') ?_ HR' h'
  refine SR.put (S.ext HR.wf E') hv (hok o ?_)
  exact List.mem_of_getElem? (by simpa using hi)
def vG {α : Type} (F : (α -> Prop) -> Prop) : Prop := (∃ u, ∀ k, F k ↔ k u) \/ ∀ k, ¬ F k
def zA1 (F : KV -> Prop) : Prop := (∃ u m', ∀ k, F k ↔ k u m') \/ ∀ k, ¬ F k
theorem vG.ret {α : Type} (u : α) : vG fun k => k u := .inl ⟨u, fun _ => Iff.rfl⟩
theorem vG.fail {α : Type} : vG fun (_ : α -> Prop) => False := .inr fun _ h => h
theorem vG.comp {α β : Type} {F : (α -> Prop) -> Prop} (h : vG F) {G : α -> (β -> Prop) -> Prop} (hG : ∀ a, vG (G a)) : vG fun k => F fun a => G a k := by
 rcases h with ⟨u, hu⟩ | hn
 .rcases hG u with ⟨v, hv⟩ | hn
  .exact .inl ⟨v, fun k => (hu _).trans (hv k)⟩
  .exact .inr fun k h => hn k ((hu _).1 h)
 .exact .inr fun k => hn _
theorem vG.map {α β : Type} {F : (α -> Prop) -> Prop} (h : vG F) (f : α -> β) : vG fun k => F fun a => k (f a) := h.comp fun a => .ret (f a)
theorem zFm (v : AV) : vG fun (k : Bool -> Prop) => tP v k := by
 unfold tP; split
 .exact .ret _
 .exact .fail
theorem yDf (v : AV) : vG fun (k : IntKind × Int -> Prop) => qD v fun a b => k (a, b) := by
 unfold qD; split
 .exact .ret _
 .exact .fail
theorem yFu (v : AV) : vG fun (k : Nat × Nat -> Prop) => yD v fun a b => k (a, b) := by
 unfold yD; split
 .exact .ret _
 .exact .fail
theorem uY (m : Mem) (b : Nat) : vG fun (k : Blk -> Prop) => kobj m b k := by
 unfold kobj; split
 .exact .ret _
 .exact .fail
theorem xP {α : Type} (b : Bool) {F G : (α -> Prop) -> Prop} (hF : vG F) (hG : vG G) : vG fun k => kif b (F k) (G k) := by
 cases b
 .exact hG
 .exact hF
theorem yI5 {α : Type} (c : Prop) [Decidable c] {F G : (α -> Prop) -> Prop} (hF : vG F) (hG : vG G) : vG fun k => if c then F k else G k := by
 by_cases h : c
 .simp only [if_pos h]; exact hF
 .simp only [if_neg h]; exact hG
theorem xI {α : Type} (c : Prop) [Decidable c] {F G : (α -> Prop) -> Prop} (hF : vG F) (hG : vG G) : vG fun k => kite c (F k) (G k) := by
 simp only [zO]; exact yI5 c hF hG
theorem rU {α : Type} (n : Nat) {F : (α -> Prop) -> Prop} (hF : vG F) : vG fun k => kT n (F k) := by
 cases n
 .exact .fail
 .exact hF
theorem yPi (v : AV) : vG fun (k : AV -> Prop) => kA v k := by
 unfold kA; split <;> first | exact .fail | exact .ret _
theorem yO9 (kd : IntKind) (v : AV) : vG fun (k : Int -> Prop) => kI kd v k := by
 unfold kI; split
 .exact xI _ (.ret _) .fail
 .exact .fail
theorem zKo (v : AV) : vG fun (k : ByteArray -> Prop) => kS v k := by
 unfold kS; split
 .exact .ret _
 .exact .fail
theorem zXz (P : Program) (t : TypeId) (v : AV) : vG fun (k : AV -> Prop) => zN3 P t v k := by
 unfold zN3; split
 .exact (yO9 _ v).map fun n => AV.flat (.int _ n)
 .exact (zFm v).map fun n => AV.flat (.bool n)
 .exact (zKo v).map fun n => AV.flat (.string n)
 .exact yPi v
 .exact .fail
theorem bC (P : Program) (t : TypeId) (n : Nat) (c : Nat -> AV) (off : Nat) : vG fun (k : AV -> Prop) => zAi P t n c off k := by
 unfold zAi; split
 .exact xI _ (.ret _) .fail
 .exact xI _ (zXz P t _) .fail
theorem tG (P : Program) (σ : Nat -> AV) (o : Oper) : vG fun (k : AV -> Prop) => qC P σ o k := by
 unfold qC; split
 .split
  .exact .ret _
  .exact .fail
 .exact .fail
theorem jR {α : Type} (place : Nat -> Option (Nat × TypeId)) (P : Program) {F : (α -> Prop) -> Prop} (hF : vG F) : ∀ parts : List (Nat × AV), vG fun k => kones place P parts (F k)
 | [] => hF
 | (i, v) :: rest => by
  simp only [kones]
  split
  .exact .fail
  .split
   .exact jR place P hF rest
   .exact xP _ (jR place P hF rest) .fail
theorem zGw {α : Type} {F : (α -> Prop) -> Prop} (hF : vG F) : ∀ l : List AV, vG fun k => zG8 l (F k)
 | [] => hF
 | v :: l => by
  simp only [zG8]
  split
  .exact .fail
  .exact .fail
  .exact .fail
  .exact zGw hF l
theorem zRx (P : Program) (t : TypeId) (parts : List (Nat × AV)) : vG fun (k : AV -> Prop) => zDx P t parts k := by
 unfold zDx; split
 .split
  .split
   .exact jR _ _ (.ret _) _
   .exact .fail
  .exact .fail
 .refine rU _ ?_
  split
  .exact jR _ _ (.ret _) _
  .exact .fail
 .exact .fail
theorem zFp (v : AV) : vG fun (k : Bool -> Prop) => pZ v k := by
 unfold pZ; split <;> first | exact .ret _ | exact .fail
theorem zHf (v : AV) : vG fun (k : Bool -> Prop) => zG1 v k := by
 unfold zG1; split <;> first | exact .ret _ | exact .fail
theorem yCk (v : AV) : vG fun (k : Int -> Prop) => xJ v k := by
 unfold xJ; split <;> first | exact .ret _ | exact .fail
theorem wV {α : Type} (v : AV) {G : IntKind -> Int -> (α -> Prop) -> Prop} (hG : ∀ a b, vG (G a b)) : vG fun k => qD v fun a b => G a b k :=
 (yDf v).comp (G := fun x k => G x.1 x.2 k) fun x => hG x.1 x.2
theorem sY {α : Type} (v : AV) {G : Nat -> Nat -> (α -> Prop) -> Prop} (hG : ∀ a b, vG (G a b)) : vG fun k => yD v fun a b => G a b k :=
 (yFu v).comp (G := fun x k => G x.1 x.2 k) fun x => hG x.1 x.2
theorem yGd {α : Type} (v : AV) {G : Nat -> Nat -> Nat -> Cap -> (α -> Prop) -> Prop} (hG : ∀ a b c d, vG (G a b c d)) : vG fun k => vD v fun a b c d => G a b c d k := by
 unfold vD; split
 .exact hG _ _ _ _
 .exact .fail
theorem sF {α : Type} (v : AV) {G : Nat -> (Nat -> AV) -> (α -> Prop) -> Prop} (hG : ∀ a b, vG (G a b)) : vG fun k => kO v fun a b => G a b k := by
 unfold kO; split
 .exact hG _ _
 .exact .fail
theorem zWi (P : Program) (t : TypeId) (x y : AV) : vG fun (k : Bool -> Prop) => aeq P t x y k := by
 unfold aeq
 refine sF _ fun _ _ => sF _ fun _ _ => ?_
 split
 .exact .fail
 split
 .exact .fail
 split
 .exact .fail
 split
 .exact .fail
 split
 .unfold geq
  split
  .exact .ret _
  .exact .fail
 .exact .fail
theorem zMy (σ : Nat -> AV) (x : Option Operand) (d : Int) : vG fun (k : Int -> Prop) => bQ σ x d k := by
 unfold bQ
 split
 .exact .ret _
 .exact wV _ fun _ _ => .ret _
theorem rZ (σ : Nat -> AV) (low high : Option Operand) (len cap : Nat) : vG fun (k : Int × Int -> Prop) => uC σ low high len cap fun lo hi => k (lo, hi) :=
 (zMy σ low 0).comp fun lo => (zMy σ high len).comp fun hi => xP _ (xP _ (xP _ (.ret _) .fail) .fail) .fail
theorem zO5 (b o esz : Nat) (cap : Cap) (lo hi : Nat) : vG fun (k : AV -> Prop) => zEo b o esz cap lo hi k := by
 unfold zEo
 split
 .exact xI _ (.ret _) (.ret _)
 .exact xI _ (xI _ (.ret _) (.ret _)) .fail
theorem zSh (P : Program) (σ : Nat -> AV) (t : TypeId) (x : AV) (low high : Option Operand) : vG fun (k : AV -> Prop) => lD P σ t x low high k := by
 simp only [zH9]
 unfold zAu
 split
 .exact (zKo _).comp fun s => (rZ σ low high _ _).comp (G := fun (p : Int × Int) (k : AV -> Prop) => k (AV.flat (.string (s.extract p.1.toNat p.2.toNat)))) fun p => .ret _
 .refine rU _ ?_
  split
  .exact (rZ σ low high _ _).comp (G := fun (p : Int × Int) (k : AV -> Prop) => zEo _ _ _ _ p.1.toNat p.2.toNat k) fun p => zO5 ..
  .exact (rZ σ low high _ _).comp (G := fun (p : Int × Int) (k : AV -> Prop) => k AV.e0) fun p => .ret _
  .exact xI _ ((rZ σ low high _ _).comp (G := fun (p : Int × Int) (k : AV -> Prop) => k _) fun p => .ret _) .fail
  .exact .fail
 .exact rU _ (sY _ fun b o => (rZ σ low high _ _).comp (G := fun (p : Int × Int) (k : AV -> Prop) => zEo _ _ _ _ p.1.toNat p.2.toNat k) fun p => zO5 ..)
 .exact .fail
theorem bN (σ : Nat -> AV) (x : Option Operand) : vG fun (k : Option Int -> Prop) => uI σ x k := by
 unfold uI
 split
 .exact .ret _
 .exact wV _ fun _ _ => .ret _
theorem zOk (P : Program) (σ : Nat -> AV) (t : TypeId) (x : AV) (low high mx : Option Operand) : vG fun (k : AV -> Prop) => qQ P σ t x low high mx k := by
 unfold qQ
 split
 .refine rU _ ((bN σ low).comp fun lo => (bN σ high).comp fun hi => (bN σ mx).comp fun m => ?_)
  unfold slM
  split
  .exact xP _ (xP _ (xP _ (xP _ (.ret _) .fail) .fail) .fail) .fail
  .exact .fail
 .exact .fail
theorem yJs (ls : List (Nat × LK)) (c d : Nat -> AV) : vG fun (k : Bool -> Prop) => geq ls c d k := by
 unfold geq
 split
 .exact .ret _
 .exact .fail
theorem qU (ls : List (Nat × LK)) (kn : Nat) (key c : Nat -> AV) : ∀ n i, vG fun (k : Option Nat -> Prop) => jC ls kn key c n i k
 | 0, i => .ret _
 | n + 1, i => by
  unfold jC
  split
  .exact xP _ ((yJs ..).comp (G := fun b k => Am.kif b (k (some i)) (jC ls kn key c n (i + 1) k)) fun b => xP _ (.ret _) (qU ls kn key c n (i + 1))) .fail
  .exact .fail
theorem yFl (ls : List (Nat × LK)) (kn : Nat) (v : AV) (key : Nat -> AV) (n : Nat) (z : Nat -> AV) (m : Mem) : vG fun (k : (Nat -> AV) × Bool -> Prop) => kU ls kn v key n z m fun c b => k (c, b) := by
 unfold kU
 split
 .refine (uY m _).comp fun y => (qU ..).comp fun o => ?_
  split
  .split
   .exact xP _ (.ret _) .fail
   .exact .fail
  .exact .ret _
 .exact .fail
theorem yEu (ls : List (Nat × LK)) (kn : Nat) (v : AV) (key : Nat -> AV) (n : Nat) (z : Nat -> AV) (m : Mem) : vG fun (k : Mem -> Prop) => aQ ls kn v key n z m k := by
 unfold aQ
 split
 .refine (uY m _).comp fun y => (qU ..).comp fun o => ?_
  split
  .exact .ret _
  .exact .ret _
 .exact .fail
theorem yC6 (ls : List (Nat × LK)) (kn : Nat) (v : AV) (key : Nat -> AV) (m : Mem) : vG fun (k : Mem -> Prop) => dI ls kn v key m k := by
 unfold dI
 split
 .refine (uY m _).comp fun y => (qU ..).comp fun o => ?_
  split
  .exact .ret _
  .exact .ret _
 .exact .fail
theorem zSg (v : AV) (m : Mem) : vG fun (k : Mem -> Prop) => fH v m k := by
 unfold fH
 split
 .exact (uY m _).comp fun y => .ret _
 .exact .fail
theorem yC9 (zs : List AV) (x : AV) (m : Mem) : vG fun (k : Mem -> Prop) => oK zs x m k := by
 unfold oK
 split
 .exact xI _ (.ret _) .fail
 .refine xI _ (.ret _) ((uY m _).comp fun y => ?_)
  split
  .exact .fail
  .exact xI _ (.ret _) .fail
 .exact .fail
theorem yBr (ls : List (Nat × LK)) (q : Nat) (x key v : AV) (m : Mem) : vG fun (k : Mem -> Prop) => kO key fun kn d => Am.kif (kn == q) (kO v fun n c => aQ ls kn x d n c m k) False :=
 sF _ fun kn d => xP _ (sF _ fun n c => yEu ..) .fail
theorem yFm (ls : List (Nat × LK)) (q : Nat) (x key : AV) (m : Mem) : vG fun (k : Mem -> Prop) => kO key fun kn d => Am.kif (kn == q) (dI ls kn x d m k) False :=
 sF _ fun kn d => xP _ (yC6 ..) .fail
theorem zAc (P : Program) (t : TypeId) (x key : AV) (ok : Bool) (m : Mem) : vG fun (k : AV -> Prop) => tD P t x key ok m k := by
 unfold tD
 split
 .split
  .split
   .rename_i ls _ _ zs _
    exact sF _ fun kn d => xP _ ((yFl ls kn x d zs.length (zH zs) m).comp (G := fun (p : (Nat -> AV) × Bool) (k : AV -> Prop) => k (match ok with | true => .tup [.agg zs.length p.1, .flat (.bool p.2)] | false => .agg zs.length p.1)) fun p => .ret _) .fail
   .exact .fail
  .exact .fail
 .exact .fail
theorem nD (P : Program) (σ : Nat -> AV) (o : Oper) : vG fun (k : AV -> Prop) => xL P σ o k := by
 obtain ⟨dst, op, ty, pos, after, guard⟩ := o
 cases op with
 | move x => exact .ret _
 | assign x => exact .ret _
 | pick c x y => exact (zFm _).comp fun t => xP t (.ret _) (.ret _)
 | nilCheck x => exact sY _ fun b o => .ret _
 | binOp op t x y yt =>
  simp only [xL]
  split
  .split
   .exact (zFp _).map _
   .exact (zFp _).map _
   .exact .fail
  .split
   .exact (zHf _).map _
   .exact (zHf _).map _
   .exact .fail
  .split
   .exact wV _ fun _ _ => wV _ fun _ _ => xI _ (xP _ .fail (.ret _)) .fail
   .exact wV _ fun _ _ => wV _ fun _ _ => xI _ (xP _ .fail (.ret _)) .fail
   .exact wV _ fun _ _ => wV _ fun _ _ => xP _ .fail (.ret _)
   .exact wV _ fun _ _ => wV _ fun _ _ => xP _ .fail (.ret _)
   .split
    .exact (zWi ..).map _
    .exact tG P σ _
   .split
    .exact (zWi ..).map _
    .exact tG P σ _
   .exact tG P σ _
 | unOp op t x => exact tG P σ _
 | convert s d x => exact tG P σ _
 | fieldAddr t x f =>
  simp only [xL, lC]
  split
  .exact rU _ (sY _ fun b o => .ret _)
  .exact .fail
 | field t x f =>
  simp only [xL, zKc]
  split
  .exact sF _ fun _ _ => bC ..
  .exact .fail
 | slice t x low high mx =>
  cases mx with
  | none => exact zSh ..
  | some y => exact zOk ..
 | indexAddr t x i =>
  simp only [xL, mU]
  refine wV _ fun _ _ => ?_
  split
  .exact rU _ (sY _ fun _ _ => xP _ (.ret _) .fail)
  .exact rU _ (yGd _ fun _ _ _ _ => xP _ (.ret _) .fail)
  .exact .fail
 | index t x i =>
  simp only [xL, zJj]
  refine wV _ fun _ _ => ?_
  split
  .exact rU _ (sF _ fun _ _ => xP _ (bC ..) .fail)
  .exact (zKo _).comp fun _ => xP _ (.ret _) .fail
  .exact .fail
 | extract x i =>
  simp only [xL]
  split
  .split
   .exact .ret _
   .exact .fail
  .exact .fail
 | build t parts => exact zRx ..
 | makeFunc f first cap =>
  simp only [xL]
  split
  .exact zGw (.ret _) _
  .exact .fail
 | call c =>
  obtain ⟨callee, args, argTypes⟩ := c
  cases callee with
  | builtin b =>
   cases b with
   | len =>
    simp only [xL]
    split
    .split
     .exact (yCk _).map _
     .exact (zKo _).map _
     .exact .fail
    .exact .fail
   | min => exact tG P σ _
   | max => exact tG P σ _
   | _ => exact .fail
  | value f => exact .fail
  | invoke r m => exact .fail
 | _ => exact .fail
theorem oI (P : Program) (t : TypeId) (x : AV) (m : Mem) : vG fun (k : AV -> Prop) => ald P t x m k :=
 sY _ fun b o => (uY m b).comp fun x => bC ..
theorem zW1 {α : Type} (A : Prop) {F : (α -> Prop) -> Prop} (h : vG F) : vG fun k => A /\ F k := by
 by_cases a : A
 .simp only [a, true_and]; exact h
 .exact .inr fun k hk => a hk.1
theorem dQ (x : AV) (m : Mem) : vG fun (k : ByteArray -> Prop) => mP x m k := by
 unfold mP
 split
 .rename_i b o n c
  refine (uY m b).comp (G := fun y k => kite (o + n <= y.n) (∃ z : ByteArray, z.size = n /\ (∀ i, i < n -> y.c (o + i) = .flat (.int .u8 (z.data.getD i 0).toNat)) /\ k z) False) fun y => xI _ ?_ .fail
  by_cases hz : ∃ z : ByteArray, z.size = n /\ ∀ i, i < n -> y.c (o + i) = .flat (.int .u8 (z.data.getD i 0).toNat)
  .obtain ⟨z, h1, h2⟩ := hz
   refine .inl ⟨z, fun k => ⟨fun ⟨z', h1', h2', hk⟩ => ?_, fun hk => ⟨z, h1, h2, hk⟩⟩⟩
   have e : z' = z := by
    obtain ⟨dz⟩ := z
    obtain ⟨dz'⟩ := z'
    have s1 : dz.size = n := h1
    have s2 : dz'.size = n := h1'
    congr 1
    apply Array.ext
    .omega
    .intro i hi1 hi2
     have a1 := h2 i (by omega)
     have a2 := h2' i (by omega)
     rw [a1] at a2
     simp only [Array.getD, show i < dz.size by omega, show i < dz'.size by omega, dif_pos] at a2
     injection a2 with a2; injection a2 with a2 a3
     have a4 : (dz[i]).toNat = (dz'[i]).toNat := by exact_mod_cast a3
     exact (UInt8.toNat_inj.1 a4).symm
   rw [<- e]; exact hk
  .exact .inr fun k ⟨z, h1, h2, _⟩ => hz ⟨z, h1, h2⟩
 .exact .ret _
 .exact xI _ (.ret _) .fail
 .exact .fail
theorem uA (P : Program) (fr : Option (Nat -> Prop)) (σ : Nat -> AV) (m : Mem) (o : Oper) : vG fun (k : AV -> Prop) => uT P fr σ m o k := by
 unfold uT; split
 .split
  .exact oI ..
  .exact sY _ fun b _ => zW1 _ (oI ..)
 .split
  .split
   .exact (dQ ..).map _
   .unfold frS
    split
    .exact zW1 _ ((dQ ..).map _)
    .exact (dQ ..).map _
  .exact .fail
 .split
  .exact zAc ..
  .exact .fail
 .exact .fail
theorem zA1.ret (u : AV) (m : Mem) : zA1 fun k => k u m := .inl ⟨u, m, fun _ => Iff.rfl⟩
theorem zA1.fail : zA1 fun _ => False := .inr fun _ h => h
theorem zJu (P : Program) (t : TypeId) (a v : AV) (m : Mem) : vG fun (k : Mem -> Prop) => ast P t a v m k := by
 unfold ast
 refine sY _ fun b o => (uY m b).comp fun x => ?_
 split
 .exact .fail
 .split
  .exact sF _ fun _ _ => xP _ (xI _ (.ret _) .fail) .fail
  .split
   .split
    .exact xI _ (.ret _) .fail
    .exact .fail
   .exact .fail
def mI : Op -> Bool
 | .call { callee := .value _, .. } => true
 | _ => false
theorem jJ {P : Program} {t : TypeId} {a v : AV} {m : Mem} {k k' : Mem -> Prop} (hk : ∀ m', k m' -> k' m') (h : ast P t a v m k) : ast P t a v m k' := by
 rcases zJu P t a v m with ⟨u, hu⟩ | hn
 .exact (hu _).2 (hk _ ((hu _).1 h))
 .exact (hn _ h).elim
theorem zEs {P : Program} {t : TypeId} {a v : AV} {m : Mem} (h : ast P t a v m fun _ => False) : False := by
 rcases zJu P t a v m with ⟨u, hu⟩ | hn
 .exact (hu _).1 h
 .exact hn _ h
def kB : Op -> Bool
 | .call { callee := .builtin .append, .. } => true
 | .store .. => true
 | _ => false
theorem yEq {α : Type} (esz : Nat) (x : AV) (m : Mem) {G : Nat -> (Nat -> AV) -> (α -> Prop) -> Prop} (hG : ∀ n d, vG (G n d)) : vG fun k => aO esz x m fun n d => G n d k := by
 unfold aO
 split
 .exact (uY m _).comp (G := fun y k => kite _ (G _ _ k) False) fun y => xI _ (hG _ _) .fail
 .exact hG _ _
 .exact xI _ (hG _ _) .fail
 .exact xI _ (hG _ _) .fail
 .exact .fail
theorem vG.pair {F : (AV × Mem -> Prop) -> Prop} (h : vG F) : zA1 fun k => F fun p => k p.1 p.2 := by
 rcases h with ⟨u, hu⟩ | hn
 .exact .inl ⟨u.1, u.2, fun k => hu _⟩
 .exact .inr fun k => hn _
theorem yA1 (esz : Nat) (s x : AV) (m : Mem) : zA1 fun k => qF esz s x m k := by
 have h : vG fun (k : AV × Mem -> Prop) => qF esz s x m fun v m' => k (v, m') := by
  unfold qF
  refine yEq esz x m fun n d => ?_
  split
  .exact xI _ (.ret _) .fail
  .exact .ret _
  .refine xI _ (.ret _) ?_
   refine (uY m _).comp (G := fun y k => match y.ro with | true => False | false => kite _ (k (_, _)) False) fun y => ?_
   split
   .exact .fail
   .exact xI _ (.ret _) .fail
  .exact .fail
 exact h.pair
def lT : Op -> Bool
 | .alloc _ | .box .. | .buildSlice .. | .makeSlice .. | .makeMap _ none | .makeChan .. => true
 | _ => false
theorem yE1 (P : Program) (Γ : zZ) (fr : Option (Nat -> Prop)) (σ : Nat -> AV) (m : Mem) (o : Oper) (h : mI o.op = false) (hn : lT o.op = false) (ha : kB o.op = false) : zA1 fun k => wK P Γ fr σ m o k := by
 obtain ⟨dst, op, ty, pos, after, guard⟩ := o
 cases op with
 | alloc e => simp [lT] at hn
 | box e x => simp [lT] at hn
 | buildSlice t len parts => simp [lT] at hn
 | makeSlice t l c => simp [lT] at hn
 | makeChan t x => simp [lT] at hn
 | makeMap t r => cases r with
  | none => simp [lT] at hn
  | some r => exact .fail
 | mapUpdate t x i v =>
  simp only [wK, pT]
  split
  .split
   .rcases yBr _ _ (zS σ x) (zS σ i) (zS σ v) m with ⟨u, hu⟩ | hn
    .exact .inl ⟨.junk, u, fun k => hu fun m' => k .junk m'⟩
    .exact .inr fun k => hn fun m' => k .junk m'
   .exact .fail
  .exact .fail
 | store t x v => simp [kB] at ha
 | call c =>
  obtain ⟨callee, args, argTypes⟩ := c
  cases callee with
  | value f => simp [mI] at h
  | builtin b =>
   cases b with
   | append => simp [kB] at ha
   | copy =>
    simp only [wK, zWr]
    split
    .split
     .split
      .unfold kT
       split
       .exact .fail
       .exact yA1 ..
      .exact .fail
     .exact .fail
    .exact .fail
   | clear =>
    simp only [wK, bY]
    split
    .split
     .rcases zSg _ m with ⟨u, hu⟩ | hn
      .exact .inl ⟨.junk, u, fun k => hu _⟩
      .exact .inr fun k => hn _
     .split
      .unfold kT
       split
       .exact .fail
       .rcases yC9 _ _ m with ⟨u, hu⟩ | hn
        .exact .inl ⟨.junk, u, fun k => hu _⟩
        .exact .inr fun k => hn _
      .exact .fail
     .exact .fail
    .exact .fail
   | delete =>
    simp only [wK, zBf]
    split
    .rename_i x key t ts _ _
     split
     .split
      .rcases yFm _ _ x key m with ⟨u, hu⟩ | hn
       .exact .inl ⟨.junk, u, fun k => hu fun m' => k .junk m'⟩
       .exact .inr fun k => hn fun m' => k .junk m'
      .exact .fail
     .exact .fail
    .exact .fail
   | _ => exact .fail
  | invoke r m => exact .fail
 | _ => exact .fail
def wS (F : Mem -> KV -> Prop) : Prop := (∃ (u : Nat -> AV) (x : Blk), ∀ m k, F m k ↔ zQ m x fun b m' => k (u b) m') \/ (∃ v, ∀ m k, F m k ↔ k v m) \/ ∀ m k, ¬ F m k
theorem wS.kite {c : Prop} [Decidable c] {F : Mem -> KV -> Prop} (h : wS F) : wS fun m k => kite c (F m k) False := by
 by_cases hc : c
 .simp only [zO, hc, if_true]; exact h
 .simp only [zO, hc, if_false]; exact .inr (.inr fun m k h => h)
theorem wS.kif {c : Bool} {F : Mem -> KV -> Prop} (h : wS F) : wS fun m k => kif c (F m k) False := by
 cases c with
 | true => exact h
 | false => exact .inr (.inr fun m k h => h)
theorem wS.no : wS fun (_ : Mem) (_ : KV) => False := .inr (.inr fun m k h => h)
theorem wS.kones (place : Nat -> Option (Nat × TypeId)) (P : Program) {F : Mem -> KV -> Prop} (h : wS F) : ∀ parts : List (Nat × AV), wS fun m k => kones place P parts (F m k)
 | [] => h
 | (i, v) :: rest => by
  simp only [Am.kones]
  split
  .exact .no
  .split
   .exact wS.kones place P h rest
   .exact .kif (wS.kones place P h rest)
theorem wS.kone (P : Program) (t : TypeId) (v : AV) {F : Mem -> KV -> Prop} (h : wS F) : wS fun m k => kone P t v (F m k) := by
 simp only [Am.kone]
 split
 .exact h
 .exact .kif h
theorem zCg (P : Program) (Γ : zZ) (fr : Option (Nat -> Prop)) (σ : Nat -> AV) (o : Oper) (h : lT o.op = true) : wS fun m k => wK P Γ fr σ m o k := by
 obtain ⟨dst, op, ty, pos, after, guard⟩ := o
 cases op with
 | alloc e =>
  simp only [wK]
  split
  .exact .inl ⟨fun b => .ptr b 0, _, fun m k => Iff.rfl⟩
  .exact .inr (.inr fun m k h => h)
 | box e x =>
  simp only [wK]
  split
  .exact .kone P e _ (.inl ⟨fun b => .ptr b 0, _, fun m k => Iff.rfl⟩)
  .exact .no
 | makeChan t x =>
  simp only [wK]
  split
  .unfold qD
   split
   .exact .kif (.kite (.inr (.inl ⟨.ch, fun m k => Iff.rfl⟩)))
   .exact .no
  .exact .no
 | buildSlice t len parts =>
  simp only [wK, jD, zO]
  split
  .split
   .split
    .split
     .exact .kones _ _ (.inl ⟨fun b => .sl b 0 len (.ex len), _, fun m k => Iff.rfl⟩) _
     .exact .inr (.inr fun m k h => h)
    .exact .inr (.inr fun m k h => h)
   .exact .inr (.inr fun m k h => h)
  .exact .inr (.inr fun m k h => h)
 | makeSlice t l c =>
  have no : wS fun (_ : Mem) (_ : KV) => False := .inr (.inr fun m k h => h)
  simp only [wK, eE]
  split
  .split
   .unfold qD
    split
    .split
     .unfold mkS; exact .kite (.kif (.kif (.kite (.inl ⟨fun b => .sl b 0 _ (.ex _), _, fun m k => Iff.rfl⟩))))
     .exact no
    .exact no
   .exact no
  .exact no
 | makeMap t r =>
  cases r with
  | some r => simp [lT] at h
  | none =>
   simp only [wK, zCd]
   split
   .exact .inl ⟨fun b => .mp b, _, fun m k => Iff.rfl⟩
   .exact .inr (.inr fun m k h => h)
 | _ => simp [lT] at h
structure Hon (F : KV -> Prop) : Prop where
 mono : ∀ k k' : KV, (∀ v m', k v m' -> k' v m') -> F k -> F k'
 strict : ¬ F fun _ _ => False
theorem zA1.hon {F : KV -> Prop} (h : zA1 F) : Hon F := by
 rcases h with ⟨u, m', hu⟩ | hn
 .exact ⟨fun k k' hkk h => (hu k').2 (hkk _ _ ((hu k).1 h)), fun h => (hu _).1 h⟩
 .exact ⟨fun k _ _ h => (hn k h).elim, hn _⟩
theorem wS.hon {F : Mem -> KV -> Prop} (h : wS F) (m : Mem) : Hon (F m) := by
 rcases h with ⟨u, x, hu⟩ | ⟨v, hv⟩ | hn
 .refine ⟨fun k k' hkk h => (hu m k').2 fun b hb => hkk _ _ ((hu m k).1 h b hb), fun h => ?_⟩
  obtain ⟨b, hb⟩ := m.fresh
  exact (hu m _).1 h b hb
 .exact ⟨fun k k' hkk h => (hv m k').2 (hkk _ _ ((hv m k).1 h)), fun h => (hv m _).1 h⟩
 .exact ⟨fun k _ _ h => (hn m k h).elim, hn m _⟩
theorem vG.two {F : (AV -> Prop) -> Prop} (h : vG F) (m : Mem) : zA1 fun k => F fun v => k v m := by
 rcases h with ⟨u, hu⟩ | hn
 .exact .inl ⟨u, m, fun k => hu _⟩
 .exact .inr fun k => hn _
theorem Hon.fail : Hon fun _ => False := ⟨fun _ _ _ h => h, fun h => h⟩
theorem Hon.ret (v : AV) (m : Mem) : Hon fun k => k v m := ⟨fun _ _ h => h v m, fun h => h⟩
theorem Hon.kite {c : Prop} [Decidable c] {F G : KV -> Prop} (hF : Hon F) (hG : Hon G) : Hon fun k => kite c (F k) (G k) := by
 by_cases h : c
 .simp only [zO, if_pos h]; exact hF
 .simp only [zO, if_neg h]; exact hG
theorem Hon.kobj {m : Mem} {b : Nat} {F : Blk -> KV -> Prop} (hF : ∀ y, Hon (F y)) : Hon fun k => kobj m b fun y => F y k := by
 unfold Am.kobj
 cases m.obj b with
 | none => exact .fail
 | some y => exact hF y
theorem Hon.both {F G : KV -> Prop} (hF : Hon F) (hG : Hon G) : Hon fun k => F k /\ G k := ⟨fun k k' h x => ⟨hF.mono k k' h x.1, hG.mono k k' h x.2⟩, fun h => hF.strict h.1⟩
theorem yBa (esz : Nat) (x : AV) (m : Mem) {G : Nat -> (Nat -> AV) -> KV -> Prop} (hG : ∀ n d, Hon (G n d)) : Hon fun k => aO esz x m fun n d => G n d k := by
 unfold aO
 split
 .exact .kobj (F := fun y k => Am.kite _ (G _ _ k) False) fun y => .kite (hG _ _) .fail
 .exact hG _ _
 .exact .kite (hG _ _) .fail
 .exact .kite (hG _ _) .fail
 .exact .fail
theorem aA (esz b o len : Nat) (cap : Cap) (n : Nat) (d : Nat -> AV) (m : Mem) : Hon fun k => sH esz b o len cap n d m k := by
 unfold sH
 refine .kobj (F := fun y k => match y.ro with | true => False | false => k _ _) fun y => ?_
 split
 .exact .fail
 .exact .ret _ _
theorem zDq (x : Blk) (u : Nat -> AV) (m : Mem) : Hon fun k => zQ m x fun b m' => k (u b) m' :=
 ⟨fun k k' hkk h b hb => hkk _ _ (h b hb), fun h => by
  obtain ⟨b, hb⟩ := m.fresh
  exact h b hb⟩
theorem zNx (esz bytes : Nat) (e : TypeId) (s : AV) (n : Nat) (d : Nat -> AV) (m : Mem) : Hon fun k => dA esz bytes e s n d m k := by
 unfold dA
 split
 .exact .kite (.kite (.ret _ _) (.kite (zDq ..) .fail)) .fail
 .exact .kite (.ret _ _) .fail
 .rename_i b o len cap
  refine .kite (.ret _ _) ?_
  cases cap with
  | ex c => exact .kobj (F := fun y k => Am.kite _ (Am.kite (len + n <= c) (Am.kite _ (sH esz b o len (.ex c) n d m k) False) (fY esz e (sub y.c o (len * esz)) len n d m k)) False) fun y => .kite (.kite (.kite (aA ..) .fail) (zDq ..)) .fail
  | ge e' q => exact .kobj (F := fun y k => Am.kite _ (Am.kite (e' = esz) (Am.kite (len + n <= q) (sH esz b o len (.ge esz q) n d m k) (sH esz b o len (.ge esz (len + n)) n d m k /\ fY esz e (sub y.c o (len * esz)) len n d m k)) False) False) fun y => .kite (.kite (.kite (aA ..) (.both (aA ..) (zDq ..))) .fail) .fail
 .exact .fail
theorem yAn (esz bytes : Nat) (e : TypeId) (s x : AV) (m : Mem) : Hon fun k => uB esz bytes e s x m k := by
 unfold uB
 exact yBa esz x m fun n d => zNx ..
theorem yEf (zs : List AV) (esz bytes : Nat) (e : TypeId) (s x : AV) (m : Mem) : Hon fun k => zQ6 zs esz bytes e s x m k := by
 unfold zQ6
 split
 .rename_i n
  cases decide (0 <= n) with
  | true => exact .kite (zNx ..) .fail
  | false => exact .fail
 .exact .fail
theorem oB (P : Program) (args : List AV) (ts : List TypeId) (m : Mem) : Hon fun k => qN P args ts m k := by
 unfold qN
 split
 .split
  .split
   .split
    .exact .kite (yAn ..) .fail
    .split
     .exact .kite (yEf ..) .fail
     .exact .fail
   .exact .fail
  .exact .fail
 .exact .fail
theorem jU {P : Program} {w0 : World} {Γ : zZ} (HΓ : Sound P w0 Γ) (fr : Option (Nat -> Prop)) (σ : Nat -> AV) (m : Mem) (o : Oper) : Hon fun k => cD P Γ fr σ m o k := by
 unfold cD; split
 .exact ((nD P σ o).two m).hon
 .exact ((uA P fr σ m o).two m).hon
 .by_cases c : mI o.op = true
  .obtain ⟨dst, op, ty, pos, after, guard⟩ := o
   cases op with
   | call cl =>
    obtain ⟨callee, args, argTypes⟩ := cl
    cases callee with
    | value x =>
     cases x with
     | func f =>
      cases fr with
      | none => exact ⟨fun k k' => HΓ.mono f _ m k k', HΓ.strict f _ m⟩
      | some F => exact ⟨fun k k' hk => HΓ.mono f _ m _ _ fun v m' h => ⟨h.1, hk _ _ h.2⟩, fun h => HΓ.strict f _ m (HΓ.mono f _ m _ _ (fun v m' h => h.2) h)⟩
     | tmp t =>
      rcases zEu (σ t) with ⟨f, xs, hf⟩ | hn
      .dsimp only [wK]
       simp only [hf]
       cases fr with
       | none => exact ⟨fun k k' hk => HΓ.mono f _ m _ _ fun v m' h => uL (fun v hv => hk v m' hv) h, fun h => HΓ.strict f _ m (HΓ.mono f _ m _ _ (fun v m' h => oH (k := fun _ => False) h) h)⟩
       | some F => exact ⟨fun k k' hk => HΓ.mono f _ m _ _ fun v m' h => ⟨h.1, uL (fun v hv => hk v m' hv) h.2⟩, fun h => HΓ.strict f _ m (HΓ.mono f _ m _ _ (fun v m' h => oH (k := fun _ => False) h.2) h)⟩
      .have hn' : ∀ k : KV, ¬ wK P Γ fr σ m { dst := dst, op := Op.call { callee := Callee.value (Operand.tmp t), args := args, argTypes := argTypes }, type := ty, pos := pos, after := after, guard := guard } k := fun k h => hn _ (by dsimp only [wK] at h; exact h)
       exact ⟨fun k _ _ h => (hn' _ h).elim, fun h => hn' _ h⟩
     | _ => exact ⟨fun _ _ _ h => h, fun h => h⟩
    | _ => simp [mI] at c
   | _ => simp [mI] at c
  .by_cases cn : lT o.op = true
   .exact (zCg P Γ fr σ o cn).hon m
   .by_cases ca : kB o.op = true
    .obtain ⟨dst, op, ty, pos, after, guard⟩ := o
     cases op with
     | call cl =>
      obtain ⟨callee, args, argTypes⟩ := cl
      cases callee with
      | builtin b =>
       cases b <;> first | (simp [kB] at ca; done) | skip
       cases fr with
       | none => exact oB ..
       | some F =>
        have H := oB P (args.toList.map (zS σ)) argTypes.toList m
        exact ⟨fun k k' hk => H.mono _ _ fun v m' h => ⟨h.1, hk _ _ h.2⟩, fun h => H.strict (H.mono _ _ (fun v m' h => h.2) h)⟩
      | _ => simp [kB] at ca
     | store t x v =>
      cases fr with
      | none => exact (⟨fun k k' hk h => jJ (fun m' h => hk _ _ h) h, fun h => zEs h⟩ : Hon fun k => ast P t (zS σ x) (zS σ v) m fun m' => k .junk m')
      | some F => exact (⟨fun k k' hk h => jJ (fun m' h => ⟨h.1, hk _ _ h.2⟩) h, fun h => zEs (jJ (fun m' h => h.2) h)⟩ : Hon fun k => ast P t (zS σ x) (zS σ v) m fun m' => zV F m m' /\ k .junk m')
     | _ => simp [kB] at ca
    .exact (yE1 P Γ fr σ m o (by simpa using c) (by simpa using cn) (by simpa using ca)).hon
theorem tB {P : Program} {w0 : World} {Γ : zZ} (HΓ : Sound P w0 Γ) (fr : Option (Nat -> Prop)) (all : Array Oper) (σ : Nat -> AV) (m : Mem) (o : Oper) : Hon fun k => xF P Γ fr all σ m o k := by
 unfold xF; split
 .exact jU HΓ _ σ m o
 .rename_i j want _
  split
  .exact zA1.fail.hon
  .rename_i d _
   rcases nO (σ d) want with e | e | e
   .simp only [e]; exact jU HΓ _ σ m o
   .simp only [e]; exact (zA1.ret _ _).hon
   .simp only [e]; exact zA1.fail.hon
theorem vY {P : Program} {w0 : World} {Γ : zZ} (HΓ : Sound P w0 Γ) (fr : Option (Nat -> Prop)) (all : Array Oper) : ∀ (l : List Oper) (σ : Nat -> AV) (m : Mem),
  (∀ k k' : (Nat -> AV) -> Mem -> Prop, (∀ σ m, k σ m -> k' σ m) -> sZ P Γ fr all l σ m k -> sZ P Γ fr all l σ m k') /\ ¬ sZ P Γ fr all l σ m fun _ _ => False
 | [], σ, m => ⟨fun k k' h => h σ m, fun h => h⟩
 | o :: l, σ, m => by
  have key : ∀ (o : Oper) (σ' σ2 : Nat -> AV) (m : Mem), (∀ k k' : (Nat -> AV) -> Mem -> Prop, (∀ σ m, k σ m -> k' σ m) -> (cD P Γ (nR P all fr o) σ' m o fun v m' => sZ P Γ fr all l (yG σ2 o.dst v) m' k) -> cD P Γ (nR P all fr o) σ' m o fun v m' => sZ P Γ fr all l (yG σ2 o.dst v) m' k') /\ ¬ (cD P Γ (nR P all fr o) σ' m o fun v m' => sZ P Γ fr all l (yG σ2 o.dst v) m' fun _ _ => False) := fun o σ' σ2 m =>
   ⟨fun k k' hkk h => (jU HΓ _ σ' m o).mono _ _ (fun v m' => (vY HΓ fr all l _ _).1 k k' hkk) h, fun h => (jU HΓ _ σ' m o).strict ((jU HΓ _ σ' m o).mono _ _ (fun v m' h => (vY HΓ fr all l _ _).2 h) h)⟩
  simp only [sZ]
  split
  .exact key o σ σ m
  .split
   .exact ⟨fun _ _ _ h => h, fun h => h⟩
   .rename_i d _
    split
    .rename_i b _
     split
     .cases b
      .exact ⟨fun k k' hkk h => (vY HΓ fr all l _ _).1 k k' hkk h, fun h => (vY HΓ fr all l _ _).2 h⟩
      .exact key o _ _ m
     .cases b
      .exact key o _ _ m
      .exact ⟨fun k k' hkk h => (vY HΓ fr all l _ _).1 k k' hkk h, fun h => (vY HΓ fr all l _ _).2 h⟩
    .exact ⟨fun k k' hkk h => (vY HΓ fr all l _ _).1 k k' hkk h, fun h => (vY HΓ fr all l _ _).2 h⟩
    .exact ⟨fun _ _ _ h => h, fun h => h⟩
theorem sM {α : Type} {F : (α -> Prop) -> Prop} (h : vG F) {k k' : α -> Prop} (hk : ∀ v, k v -> k' v) (h1 : F k) : F k' := by
 rcases h with ⟨u, hu⟩ | hn
 .exact (hu _).2 (hk _ ((hu _).1 h1))
 .exact (hn _ h1).elim
theorem zP {m : Mem} {b b' : Nat} (x : Blk) (h : b' ≠ b) : (m.set b x).obj b' = m.obj b' := by simp [Mem.set, upd, h]
theorem zL (m : Mem) (b : Nat) (x : Blk) : (m.set b x).obj b = some x := by simp [Mem.set, upd]
theorem sA (m : Mem) {b b' : Nat} (x y : Blk) (h : b' ≠ b) : (m.set b x).set b' y = (m.set b' y).set b x := by
 simp only [Mem.set, Mem.mk.injEq]
 funext j
 simp only [upd]
 by_cases c1 : j = b
 .subst c1; simp [Ne.symm h]
 .simp [c1]
theorem mS {m : Mem} {y : Blk} {u : Nat -> AV} {k : KV} (h : zQ m y fun b m' => k (u b) m') (b : Nat) (x : Blk) (hb : m.obj b = none) : zQ (m.set b x) y fun b' m' => ∃ m1, m' = m1.set b x /\ m1.obj b = none /\ k (u b') m1 := by
 intro b' hb'
 have hne : b' ≠ b := fun e => by subst e; rw [zL] at hb'; cases hb'
 rw [zP x hne] at hb'
 exact ⟨m.set b' y, sA m x y hne, by rw [zP y (Ne.symm hne)]; exact hb, h b' hb'⟩
theorem vC {m : Mem} {b' : Nat} {k : Blk -> Prop} (h : kobj m b' k) (b : Nat) (x : Blk) (hb : m.obj b = none) : b' ≠ b /\ kobj (m.set b x) b' k := by
 obtain ⟨y, hy, h⟩ := vP h
 have hne : b' ≠ b := fun e => by subst e; rw [hb] at hy; cases hy
 refine ⟨hne, ?_⟩
 unfold kobj
 rw [zP x hne, hy]
 exact h
theorem tX {m : Mem} {b : Nat} {k k' : Blk -> Prop} (hk : ∀ y, k y -> k' y) (h : kobj m b k) : kobj m b k' := by
 unfold kobj at h ⊢
 split at h
 .exact hk _ h
 .exact h.elim
theorem yO {c : Prop} [Decidable c] {A B A' B' : Prop} (hA : A -> A') (hB : B -> B') (h : kite c A B) : kite c A' B' := by
 rw [zO] at h ⊢
 split at h
 .rename_i hc; rw [if_pos hc]; exact hA h
 .rename_i hc; rw [if_neg hc]; exact hB h
theorem zDt {esz : Nat} {y : AV} {m : Mem} {k k' : Nat -> (Nat -> AV) -> Prop} (b : Nat) (x : Blk) (hb : m.obj b = none) (hk : ∀ n d, k n d -> k' n d) (h : aO esz y m k) : aO esz y (m.set b x) k' := by
 unfold aO at h ⊢
 split at h
 .exact tX (fun z hz => yO (hk _ _) id hz) (vC h b x hb).2
 .exact hk _ _ h
 .exact yO (hk _ _) id h
 .exact yO (hk _ _) id h
 .exact h.elim
theorem kC {esz b' o len n : Nat} {cap : Cap} {d : Nat -> AV} {m : Mem} {k : KV} (b : Nat) (x : Blk) (hb : m.obj b = none) (h : sH esz b' o len cap n d m k) : sH esz b' o len cap n d (m.set b x) fun v m' => ∃ m1, m' = m1.set b x /\ m1.obj b = none /\ k v m1 := by
 unfold sH at h ⊢
 obtain ⟨hne, h⟩ := vC h b x hb
 refine tX (fun z hz => ?_) h
 split at hz
 .exact hz.elim
 .exact ⟨m.set b' _, sA m x _ hne, by rw [zP _ (Ne.symm hne)]; exact hb, hz⟩
theorem zCm {esz bytes : Nat} {e : TypeId} {s : AV} {n : Nat} {d : Nat -> AV} {m : Mem} {k : KV} (b : Nat) (x : Blk) (hb : m.obj b = none) (h : dA esz bytes e s n d m k) : dA esz bytes e s n d (m.set b x) fun v m' => ∃ m1, m' = m1.set b x /\ m1.obj b = none /\ k v m1 := by
 have ret : ∀ v, k v m -> ∃ m1, m.set b x = m1.set b x /\ m1.obj b = none /\ k v m1 := fun v h => ⟨m, rfl, hb, h⟩
 unfold dA at h ⊢
 split at h
 .exact yO (yO (ret _) (yO (fun h => mS h b x hb) id)) id h
 .exact yO (ret _) id h
 .rename_i b' o len cap
  refine yO (ret _) (fun h => ?_) h
  obtain ⟨hne, h⟩ := vC h b x hb
  refine tX (fun z hz => yO (fun hz => ?_) id hz) h
  cases cap with
  | ex c => exact yO (yO (kC b x hb) id) (fun h => mS h b x hb) hz
  | ge e' q => exact yO (yO (kC b x hb) (fun h => ⟨kC b x hb h.1, mS h.2 b x hb⟩)) id hz
 .exact h.elim
theorem zCy {esz bytes : Nat} {e : TypeId} {s y : AV} {m : Mem} {k : KV} (b : Nat) (x : Blk) (hb : m.obj b = none) (h : uB esz bytes e s y m k) : uB esz bytes e s y (m.set b x) fun v m' => ∃ m1, m' = m1.set b x /\ m1.obj b = none /\ k v m1 := by
 unfold uB at h ⊢
 exact zDt b x hb (fun n d h2 => zCm b x hb h2) h
theorem zEy {zs : List AV} {esz bytes : Nat} {e : TypeId} {s y : AV} {m : Mem} {k : KV} (b : Nat) (x : Blk) (hb : m.obj b = none) (h : zQ6 zs esz bytes e s y m k) : zQ6 zs esz bytes e s y (m.set b x) fun v m' => ∃ m1, m' = m1.set b x /\ m1.obj b = none /\ k v m1 := by
 unfold zQ6 at h ⊢
 split at h
 .rename_i n
  cases hd : decide (0 <= n) with
  | true =>
   rw [hd] at h
   exact yO (fun h => zCm b x hb h) id h
  | false => rw [hd] at h; exact h.elim
 .exact h.elim
theorem aP {P : Program} {t : TypeId} {a v : AV} {m : Mem} {k : Mem -> Prop} (h : ast P t a v m k) (b : Nat) (x : Blk) (hb : m.obj b = none) : ast P t a v (m.set b x) fun m' => ∃ m1, m' = m1.set b x /\ m1.obj b = none /\ k m1 := by
 obtain ⟨b', o, rfl, h⟩ := uK h
 obtain ⟨y, hy, h⟩ := vP h
 have hne : b' ≠ b := fun e => by subst e; rw [hb] at hy; cases hy
 have key : ∀ z, k (m.set b' z) -> ∃ m1, (m.set b x).set b' z = m1.set b x /\ m1.obj b = none /\ k m1 := fun z hz => ⟨m.set b' z, sA m x z hne, by rw [zP z (Ne.symm hne)]; exact hb, hz⟩
 show kobj (m.set b x) b' _
 unfold kobj
 rw [zP x hne, hy]
 dsimp only
 cases hro : y.ro with
 | true => rw [hro] at h; exact h.elim
 | false =>
  rw [hro] at h
  dsimp only at h ⊢
  simp only [zO] at h ⊢
  split at h
  .rename_i e
   obtain ⟨n, c, rfl, h⟩ := vS h
   rcases yY h with ⟨hn, h⟩ | ⟨_, h⟩
   rotate_left
   .exact h.elim
   show kif _ _ _
   rw [hn]
   show if _ then _ else _
   split at h
   .rename_i c; rw [if_pos c]; exact key _ h
   .exact h.elim
  .split at h
   .split at h
    .split at h
     .rename_i c; rw [if_pos c]; exact key _ h
     .exact h.elim
    .exact h.elim
   .exact h.elim
end Go.Proofs.YtkiggdgphbkneaaGreat.Am
