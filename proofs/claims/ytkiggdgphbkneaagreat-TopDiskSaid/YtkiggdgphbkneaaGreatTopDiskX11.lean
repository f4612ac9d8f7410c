/- Code and calls: what the abstract machine asks, the real one does. No program in sight. -/
import Derived.Test.YtkiggdgphbkneaaGreatTopDiskX10
namespace Go.Proofs.YtkiggdgphbkneaaGreat.Am
set_option linter.unusedVariables false
set_option linter.unusedSimpArgs false
set_option linter.unusedSectionVars false
def rN (P : Program) (frz : Nat -> Bool) (n : Nat) : Code -> Bool
 | .region id ops draw => (ops.all fun o => match o.dst with | some d => decide (d < n) | none => true) && (!draw || zBo P (frz id) ops)
 | .seq a b => rN P frz n a && rN P frz n b
 | .cond _ a b => rN P frz n a && rN P frz n b
 | .block _ a => rN P frz n a
 | .loop a => rN P frz n a
 | .scope a => rN P frz n a
 | _ => yT true
def LS (P : Program) (Γ : zZ) (Λ : LEnv) : Code -> Prop
 | .seq a b => (Λ.cut b = true -> ∃ (cond : (Nat -> AV) -> Prop) (live : List Nat) (lx : Ex -> List Nat), ∀ σ m k, Λ.piece b σ m k ↔ cond σ /\ yR6 P Γ Λ live lx b (live.map σ) m k) /\ LS P Γ Λ a /\ LS P Γ Λ b
 | .cond _ a b => LS P Γ Λ a /\ LS P Γ Λ b
 | .block _ a => LS P Γ Λ a
 | .scope a => LS P Γ Λ a
 | .loop a => (∃ (cond : (Nat -> AV) -> Prop) (live : List Nat) (lx : Ex -> List Nat), ∀ σ m k, Λ.loop a σ m k ↔ cond σ /\ ∃ N, rounds P Γ Λ live lx a N (live.map σ) m k) /\ LS P Γ Λ a
 | _ => True
def yNl : Ex -> Exit
 | .normal => .normal
 | .exit id => .exit id
 | .ret => .ret
theorem zNz (σ : Nat -> AV) : ∀ (l : List Nat) (t : Nat), only l (l.map σ) t = σ t \/ only l (l.map σ) t = .junk
 | [], t => .inr rfl
 | a :: l, t => by
  simp only [List.map_cons, only, upd]
  split
  .rename_i e; subst e; exact .inl rfl
  .exact zNz σ l t
theorem SR.only {g : Gh} {σ : Nat -> AV} {a : Act} {n : Nat} (S : SR g σ a n) (l : List Nat) : SR g (only l (l.map σ)) a n :=
 ⟨fun t => by
  rcases zNz σ l t with e | e
  .rw [e]; exact S.tm t
  .rw [e]; trivial, S.sz, S.df⟩
section
variable {P : Program} {w0 : World} {Γ : zZ} (HΓ : Sound P w0 Γ) (hm : P.follows .mixedOrders = true) {Λ : LEnv}
include HΓ hm
theorem yN6 (n : Nat) : ∀ (c : Code), rN P Λ.frz n c = true -> LS P Γ Λ c -> ∀ {Q : Exit -> Act -> World -> Prop} {σ : Nat -> AV} {m : Mem} {k : KX} {g : Gh} {a : Act} {w : World}, SR g σ a n -> R w0 g m w -> wpA P Γ Λ c σ m k ->
  (∀ e σ' m' g' a' w', Ext g g' -> SR g' σ' a' n -> R w0 g' m' w' -> k e σ' m' -> Q (yNl e) a' w') -> c.wp P Q a w := by
 intro c
 induction c with
 | skip => intro _ _ Q σ m k g a w S HR h hk; exact wp_skip (hk .normal σ m g a w (Ext.refl g) S HR h)
 | label l => intro _ _ Q σ m k g a w S HR h hk; exact wp_label (hk .normal σ m g a w (Ext.refl g) S HR h)
 | region id ops draw =>
  intro hok _ Q σ m k g a w S HR h hk
  simp only [rN, Bool.and_eq_true, Bool.or_eq_true] at hok
  have hdst : ∀ o ∈ ops.toList, ∀ d, o.dst = some d -> d < n := fun o ho d hd => by
   have := Array.all_eq_true_iff_forall_mem.1 hok.1 o (by simpa using ho)
   rw [hd] at this
   simpa using this
  have hcalm : draw = true -> zBo P (Λ.frz id) ops = true := fun hd => by
   rcases hok.2 with h1 | h1
   .rw [hd] at h1; cases h1
   .exact h1
  unfold wpA at h
  cases hf : Λ.frz id with
  | false =>
   rw [hf] at h hcalm
   exact zGg HΓ (fr := none) hm hcalm hdst (fun σ' m' g' a' w' E S' HR' h' => hk .normal σ' m' g' a' w' E S' HR' h') S HR h
  | true =>
   rw [hf] at h hcalm
   obtain ⟨F, h⟩ := h
   exact zGg HΓ (fr := some F) hm hcalm hdst (fun σ' m' g' a' w' E S' HR' h' => hk .normal σ' m' g' a' w' E S' HR' h') S HR h
 | seq x y ihx ihy =>
  intro hok hL Q σ m k g a w S HR h hk
  simp only [rN, Bool.and_eq_true] at hok
  refine wp_seq (ihx hok.1 hL.2.1 S HR h fun e σ' m' g' a' w' E S' HR' h' => ?_)
  cases e with
  | normal =>
   dsimp only at h'
   cases hc : Λ.cut y with
   | false => rw [hc] at h'; exact ihy hok.2 hL.2.2 S' HR' h' fun e σ2 m2 g2 a2 w2 E2 => hk e σ2 m2 g2 a2 w2 (E.trans E2)
   | true =>
    rw [hc] at h'
    obtain ⟨cond, live, lx, hp⟩ := hL.1 hc
    refine ihy hok.2 hL.2.2 (S'.only live) HR' ((hp σ' m' k).1 h').2 fun e σ2 m2 g2 a2 w2 E2 S2 HR2 h2 => ?_
    cases e with
    | normal => exact hk .normal _ m2 g2 a2 w2 (E.trans E2) (S2.only _) HR2 h2
    | exit id => exact hk (.exit id) _ m2 g2 a2 w2 (E.trans E2) (S2.only _) HR2 h2
    | ret => exact hk .ret _ m2 g2 a2 w2 (E.trans E2) (S2.only _) HR2 h2
  | exit id => exact hk (.exit id) σ' m' g' a' w' E S' HR' h'
  | ret => exact hk .ret σ' m' g' a' w' E S' HR' h'
 | cond c x y ihx ihy =>
  intro hok hL Q σ m k g a w S HR h hk
  simp only [rN, Bool.and_eq_true] at hok
  obtain ⟨t, ht, h⟩ := nJ h
  have hc := S.flat ht
  rcases yY h with ⟨rfl, h⟩ | ⟨rfl, h⟩
  .exact wp_cond_true hc (ihx hok.1 hL.1 S HR h hk)
  .exact wp_cond_false hc (ihy hok.2 hL.2 S HR h hk)
 | block id x ih =>
  intro hok hL Q σ m k g a w S HR h hk
  refine wp_block (ih hok hL S HR h fun e σ' m' g' a' w' E S' HR' h' => ?_)
  cases e with
  | normal => exact hk .normal σ' m' g' a' w' E S' HR' h'
  | exit j =>
   dsimp only at h'
   show if j = id then Q .normal a' w' else Q (.exit j) a' w'
   by_cases c : j = id
   .subst c
    rw [if_pos rfl]
    simp only [beq_self_eq_true] at h'
    exact hk .normal σ' m' g' a' w' E S' HR' h'
   .rw [if_neg c]
    have e : (j == id) = false := by simpa using c
    rw [e] at h'
    exact hk (.exit j) σ' m' g' a' w' E S' HR' h'
  | ret => exact hk .ret σ' m' g' a' w' E S' HR' h'
 | scope x ih =>
  intro hok hL Q σ m k g a w S HR h hk
  refine wp_scope_straight (ih hok hL S HR h fun e σ' m' g' a' w' E S' HR' h' => ?_)
  cases e with
  | normal => exact hk .normal σ' m' g' a' w' E S' HR' h'
  | exit id => exact hk (.exit id) σ' m' g' a' w' E S' HR' h'
  | ret => exact hk .ret σ' m' g' a' w' E S' HR' h'
 | loop x ih =>
  intro hok hL Q σ m k g a w S HR h hk
  obtain ⟨⟨cond, live, lx, hΛ⟩, hLx⟩ := hL
  obtain ⟨_, N, hr⟩ := (hΛ σ m k).1 h
  refine wp_loop_rounds N ?_
  have key : ∀ (N : Nat) (vs : List AV) (m : Mem) (g1 : Gh) (a : Act) (w : World), Ext g g1 -> SR g1 (only live vs) a n -> R w0 g1 m w -> rounds P Γ Λ live lx x N vs m k -> Code.rounds P x Q N a w := by
   intro N
   induction N with
   | zero => intro vs m g1 a w E S HR h; exact h.elim
   | succ N ihN =>
    intro vs m g1 a w E S HR h
    rw [rounds_succ]
    refine ih hok hLx S HR h fun e σ' m' g' a' w' E' S' HR' h' => ?_
    cases e with
    | normal => exact ihN _ _ g' a' w' (E.trans E') (S'.only live) HR' h'
    | exit id => exact hk (.exit id) _ _ g' a' w' (E.trans E') (S'.only _) HR' h'
    | ret => exact hk .ret _ _ g' a' w' (E.trans E') (S'.only _) HR' h'
  exact key N (live.map σ) m g a w (Ext.refl g) (S.only live) HR hr
 | exit id => intro _ _ Q σ m k g a w S HR h hk; exact wp_exit (hk (.exit id) σ m g a w (Ext.refl g) S HR h)
 | ret => intro _ _ Q σ m k g a w S HR h hk; exact wp_ret (hk .ret σ m g a w (Ext.refl g) S HR h)
 | goto l => intro _ _ Q σ m k g a w S HR h hk; exact h.elim
 | rangeFunc f p x y => intro _ _ Q σ m k g a w S HR h hk; exact h.elim
 | refuse why => intro _ _ Q σ m k g a w S HR h hk; exact h.elim
end
def yF1 (F : KX -> Prop) : Prop := (∀ k k' : KX, (∀ e σ m, k e σ m -> k' e σ m) -> F k -> F k') /\ ¬ F fun _ _ _ => False
theorem zS4 (v : AV) {G : Bool -> KX -> Prop} (hG : ∀ b, yF1 (G b)) : yF1 fun k => tP v fun b => G b k := by
 unfold tP
 split
 .exact hG _
 .exact ⟨fun _ _ _ h => h, fun h => h⟩
theorem iW {P : Program} {w0 : World} {Γ : zZ} (HΓ : Sound P w0 Γ) {Λ : LEnv} : ∀ (c : Code), LS P Γ Λ c -> ∀ σ m, yF1 fun k => wpA P Γ Λ c σ m k := by
 intro c
 induction c with
 | skip => intro _ σ m; exact ⟨fun k k' h => h _ _ _, fun h => h⟩
 | label l => intro _ σ m; exact ⟨fun k k' h => h _ _ _, fun h => h⟩
 | region id ops draw =>
  intro _ σ m
  unfold wpA
  cases Λ.frz id with
  | false => exact ⟨fun k k' h => (vY HΓ none ops _ σ m).1 _ _ (h _), (vY HΓ none ops _ σ m).2⟩
  | true => exact ⟨fun k k' h ⟨F, hF⟩ => ⟨F, (vY HΓ (some F) ops _ σ m).1 _ _ (h _) hF⟩, fun ⟨F, hF⟩ => (vY HΓ (some F) ops _ σ m).2 hF⟩
 | seq x y ihx ihy =>
  intro hL σ m
  have key : ∀ σ' m', yF1 fun k => (match Λ.cut y with | true => Λ.piece y σ' m' k | false => wpA P Γ Λ y σ' m' k) := by
   intro σ' m'
   cases hc : Λ.cut y with
   | false => exact ihy hL.2.2 σ' m'
   | true =>
    obtain ⟨cond, live, lx, hp⟩ := hL.1 hc
    refine ⟨fun k k' h h1 => ?_, fun h => ?_⟩
    .obtain ⟨h1, h2⟩ := (hp σ' m' k).1 h1
     refine (hp σ' m' k').2 ⟨h1, (ihy hL.2.2 _ _).1 _ _ (fun e σ m => ?_) h2⟩
     cases e <;> exact h _ _ _
    .obtain ⟨h1, h2⟩ := (hp σ' m' _).1 h
     refine (ihy hL.2.2 _ _).2 ((ihy hL.2.2 _ _).1 _ _ (fun e σ m h => ?_) h2)
     cases e <;> exact h
  refine ⟨fun k k' h => (ihx hL.2.1 σ m).1 _ _ fun e σ' m' => ?_, fun h => (ihx hL.2.1 σ m).2 ((ihx hL.2.1 σ m).1 _ _ (fun e σ' m' h => ?_) h)⟩
  .cases e with
   | normal => exact (key σ' m').1 k k' h
   | exit id => exact h _ _ _
   | ret => exact h _ _ _
  .cases e with
   | normal => exact (key σ' m').2 h
   | exit id => exact h
   | ret => exact h
 | cond c x y ihx ihy =>
  intro hL σ m
  refine zS4 _ fun t => ?_
  cases t
  .exact ihy hL.2 σ m
  .exact ihx hL.1 σ m
 | block id x ih =>
  intro hL σ m
  refine ⟨fun k k' h => (ih hL σ m).1 _ _ fun e σ' m' => ?_, fun h => (ih hL σ m).2 ((ih hL σ m).1 _ _ (fun e σ' m' h => ?_) h)⟩
  .cases e with
   | normal => exact h _ _ _
   | exit j => dsimp only; split <;> exact h _ _ _
   | ret => exact h _ _ _
  .cases e with
   | normal => exact h
   | exit j => dsimp only at h; split at h <;> exact h
   | ret => exact h
 | scope x ih => intro hL σ m; exact ih hL σ m
 | loop x ih =>
  intro hL σ m
  obtain ⟨⟨cond, live, lx, hΛ⟩, hLx⟩ := hL
  have key : ∀ (N : Nat) (vs : List AV) (m : Mem), yF1 fun k => rounds P Γ Λ live lx x N vs m k := by
   intro N
   induction N with
   | zero => intro vs m; exact ⟨fun _ _ _ h => h, fun h => h⟩
   | succ N ihN =>
    intro vs m
    refine ⟨fun k k' h => (ih hLx _ m).1 _ _ fun e σ' m' => ?_, fun h => (ih hLx _ m).2 ((ih hLx _ m).1 _ _ (fun e σ' m' h => ?_) h)⟩
    .cases e with
     | normal => exact (ihN _ _).1 k k' h
     | exit j => exact h _ _ _
     | ret => exact h _ _ _
    .cases e with
     | normal => exact (ihN _ _).2 h
     | exit j => exact h
     | ret => exact h
  refine ⟨fun k k' h h1 => ?_, fun h => ?_⟩
  .obtain ⟨hc, N, hr⟩ := (hΛ σ m k).1 h1
   exact (hΛ σ m k').2 ⟨hc, N, (key N _ m).1 k k' h hr⟩
  .obtain ⟨hc, N, hr⟩ := (hΛ σ m _).1 h
   exact (key N _ m).2 hr
 | exit id => intro _ σ m; exact ⟨fun k k' h => h _ _ _, fun h => h⟩
 | ret => intro _ σ m; exact ⟨fun k k' h => h _ _ _, fun h => h⟩
 | goto l => intro _ σ m; exact ⟨fun _ _ _ h => h, fun h => h⟩
 | rangeFunc f p x y => intro _ σ m; exact ⟨fun _ _ _ h => h, fun h => h⟩
 | refuse why => intro _ σ m; exact ⟨fun _ _ _ h => h, fun h => h⟩
theorem zBp (P : Program) (σ : Nat -> AV) (m : Mem) : ∀ (rs : List ResultVar), vG fun (k : List AV -> Prop) => zSt P rs σ m k
 | [] => .ret _
 | .tmp t :: rs => (zBp P σ m rs).map _
 | .cell a t :: rs => (oI ..).comp fun v => (zBp P σ m rs).map _
def ntB (v : AV) : Bool := match v with
 | .tup _ => false
 | .clo _ _ => false
 | _ => true
theorem zB6 : ∀ (vs : List AV) (A : Prop), yK2 vs A = (match vs.all ntB with | true => A | false => False)
 | [], A => rfl
 | v :: vs, A => by
  show knt v (yK2 vs A) = _
  rw [zB6 vs A, List.all_cons]
  cases v <;> rfl
theorem zPp (P : Program) (rs : List ResultVar) (σ : Nat -> AV) (m : Mem) : vG fun (k : AV -> Prop) => zF8 P rs σ m k := by
 unfold zF8
 split
 .exact .ret _
 .exact oI ..
 .refine (zBp ..).comp fun vs => ?_
  simp only [zB6]
  split
  .exact .ret _
  .exact .fail
theorem zFe (dr : Bool) (m : Mem) (v : AV) (m' : Mem) : (∀ k k' : KV, (∀ v m', k v m' -> k' v m') -> lP dr m k v m' -> lP dr m k' v m') /\ ¬ lP dr m (fun _ _ => False) v m' := by
 unfold lP
 cases dr with
 | false => exact ⟨fun k k' h => h _ _, fun h => h⟩
 | true =>
  cases v.isPlain with
  | true => exact ⟨fun k k' h h1 => ⟨h1.1, h _ _ h1.2⟩, fun h => h.2⟩
  | false => exact ⟨fun k k' h h1 => ⟨h1.1, h1.2.1, h _ _ h1.2.2⟩, fun h => h.2.2⟩
theorem bM {P : Program} {w0 : World} {Γ : zZ} (HΓ : Sound P w0 Γ) {Λ : LEnv} {fn : Func} (hL : ∀ c, fn.body = some c -> LS P Γ Λ c) (dr : Bool) (args : List AV) (m : Mem) : Hon fun k => eU P Γ Λ fn dr args m k := by
 unfold eU
 split
 .rename_i c hc
  have H := iW HΓ c (hL c hc) (only (List.range args.length) args) m
  have hres : ∀ σ' (m' : Mem), Hon fun k => zF8 P fn.results.toList σ' m' fun v => lP dr m k v m' := fun σ' m' => by
   refine ⟨fun k k' hkk h => sM (zPp P fn.results.toList σ' m') (fun v hv => (zFe dr m v m').1 k k' hkk hv) h, fun h => ?_⟩
   rcases zPp P fn.results.toList σ' m' with ⟨u, hu⟩ | hn
   .exact (zFe dr m u m').2 ((hu _).1 h)
   .exact hn _ h
  refine ⟨fun k k' h => H.1 _ _ fun e σ' m' => ?_, fun h => H.2 (H.1 _ _ (fun e σ' m' h => ?_) h)⟩
  .cases e with
   | normal => exact (hres σ' m').mono k k' h
   | exit id => exact fun h => h
   | ret => exact (hres σ' m').mono k k' h
  .cases e with
   | normal => exact (hres σ' m').strict h
   | exit id => exact h
   | ret => exact (hres σ' m').strict h
 .exact ⟨fun _ _ _ h => h, fun h => h⟩
def Frm (F : Mem -> KV -> Prop) : Prop := ∀ m k, F m k -> ∀ b x, m.obj b = none -> F (m.set b x) fun v m' => ∃ m1, m' = m1.set b x /\ m1.obj b = none /\ k v m1
theorem jS {P : Program} {t : TypeId} {a : AV} {m : Mem} {k : AV -> Prop} (h : ald P t a m k) (b : Nat) (x : Blk) (hb : m.obj b = none) : ald P t a (m.set b x) k := by
 obtain ⟨b', o, rfl, h⟩ := uK h
 obtain ⟨y, hy, h⟩ := vP h
 have : b' ≠ b := fun e => by subst e; rw [hb] at hy; cases hy
 show kobj (m.set b x) b' _
 unfold kobj
 rw [zP x this, hy]
 exact h
theorem gV {P : Program} {σ : Nat -> AV} {m : Mem} (b : Nat) (x : Blk) (hb : m.obj b = none) : ∀ (rs : List ResultVar) (k1 k2 : List AV -> Prop), (∀ vs, k1 vs -> k2 vs) -> zSt P rs σ m k1 -> zSt P rs σ (m.set b x) k2
 | [], k1, k2, h12, h => h12 _ h
 | .tmp t :: rs, k1, k2, h12, h => gV b x hb rs _ _ (fun vs hv => h12 _ hv) h
 | .cell a t :: rs, k1, k2, h12, h => jS (sM (oI ..) (fun v hv => gV b x hb rs _ _ (fun vs hv => h12 _ hv) hv) h) b x hb
theorem zU4 {y : AV} {m : Mem} {k : ByteArray -> Prop} (b : Nat) (x : Blk) (hb : m.obj b = none) (h : mP y m k) : mP y (m.set b x) k := by
 unfold mP at h ⊢
 split at h
 .exact (vC h b x hb).2
 .exact h
 .exact h
 .exact h.elim
theorem zUi {esz : Nat} {s y : AV} {m : Mem} {k : KV} (b : Nat) (x : Blk) (hb : m.obj b = none) (h : qF esz s y m k) : qF esz s y (m.set b x) fun v m' => ∃ m1, m' = m1.set b x /\ m1.obj b = none /\ k v m1 := by
 have ret : ∀ v, k v m -> ∃ m1, m.set b x = m1.set b x /\ m1.obj b = none /\ k v m1 := fun v h => ⟨m, rfl, hb, h⟩
 unfold qF at h ⊢
 refine zDt b x hb (fun n d h2 => ?_) h
 clear h
 have h := h2
 clear h2
 split at h
 .exact yO (ret _) id h
 .exact ret _ h
 .rename_i b' o len cap
  refine yO (ret _) (fun h => ?_) h
  obtain ⟨hne, h⟩ := vC h b x hb
  refine tX (fun z hz => ?_) h
  split at hz
  .exact hz.elim
  .exact yO (fun hz => ⟨m.set b' _, sA m x _ hne, by rw [zP _ (Ne.symm hne)]; exact hb, hz⟩) id hz
 .exact h.elim
theorem zSf {ls : List (Nat × LK)} {kn : Nat} {v : AV} {key : Nat -> AV} {n : Nat} {z : Nat -> AV} {m : Mem} {k : (Nat -> AV) -> Bool -> Prop} (b : Nat) (x : Blk) (hb : m.obj b = none) (h : kU ls kn v key n z m k) : kU ls kn v key n z (m.set b x) k := by
 unfold kU at h ⊢
 split at h
 .exact (vC h b x hb).2
 .exact h.elim
theorem zFc {P : Program} {t : TypeId} {v key : AV} {ok : Bool} {m : Mem} {k : AV -> Prop} (b : Nat) (x : Blk) (hb : m.obj b = none) (h : tD P t v key ok m k) : tD P t v key ok (m.set b x) k := by
 unfold tD at h ⊢
 split at h
 rotate_left
 .exact h.elim
 split at h
 rotate_left
 .exact h.elim
 split at h
 rotate_left
 .exact h.elim
 obtain ⟨kn, d, ek, h⟩ := vS h
 subst ek
 rcases yY h with ⟨e, h⟩ | ⟨_, h⟩
 rotate_left
 .exact h.elim
 show Am.kif (kn == _) _ _
 rw [e]
 exact zSf b x hb h
theorem zUk {ls : List (Nat × LK)} {kn : Nat} {v : AV} {key : Nat -> AV} {n : Nat} {z : Nat -> AV} {m : Mem} {k : Mem -> Prop} (b : Nat) (x : Blk) (hb : m.obj b = none) (h : aQ ls kn v key n z m k) : aQ ls kn v key n z (m.set b x) fun m' => ∃ m1, m' = m1.set b x /\ m1.obj b = none /\ k m1 := by
 unfold aQ at h ⊢
 split at h
 .rename_i b'
  obtain ⟨hne, h⟩ := vC h b x hb
  refine tX (fun y hy => sM (qU ..) (fun o ho => ?_) hy) h
  cases o with
  | some i => exact ⟨m.set b' _, sA m x _ hne, by rw [zP _ (Ne.symm hne)]; exact hb, ho⟩
  | none => exact ⟨m.set b' _, sA m x _ hne, by rw [zP _ (Ne.symm hne)]; exact hb, ho⟩
 .exact h.elim
theorem zSq {ls : List (Nat × LK)} {kn : Nat} {v : AV} {key : Nat -> AV} {m : Mem} {k : Mem -> Prop} (b : Nat) (x : Blk) (hb : m.obj b = none) (h : dI ls kn v key m k) : dI ls kn v key (m.set b x) fun m' => ∃ m1, m' = m1.set b x /\ m1.obj b = none /\ k m1 := by
 unfold dI at h ⊢
 split at h
 .rename_i b'
  obtain ⟨hne, h⟩ := vC h b x hb
  refine tX (fun y hy => sM (qU ..) (fun o ho => ?_) hy) h
  cases o with
  | some i => exact ⟨m.set b' _, sA m x _ hne, by rw [zP _ (Ne.symm hne)]; exact hb, ho⟩
  | none => exact ⟨m, rfl, hb, ho⟩
 .exact h.elim
theorem zLs {v : AV} {m : Mem} {k : Mem -> Prop} (b : Nat) (x : Blk) (hb : m.obj b = none) (h : fH v m k) : fH v (m.set b x) fun m' => ∃ m1, m' = m1.set b x /\ m1.obj b = none /\ k m1 := by
 unfold fH at h ⊢
 split at h
 .rename_i b'
  obtain ⟨hne, h⟩ := vC h b x hb
  exact tX (fun y hy => ⟨m.set b' _, sA m x _ hne, by rw [zP _ (Ne.symm hne)]; exact hb, hy⟩) h
 .exact h.elim
theorem zR0 {zs : List AV} {v : AV} {m : Mem} {k : Mem -> Prop} (b : Nat) (x : Blk) (hb : m.obj b = none) (h : oK zs v m k) : oK zs v (m.set b x) fun m' => ∃ m1, m' = m1.set b x /\ m1.obj b = none /\ k m1 := by
 have ret : k m -> ∃ m1, m.set b x = m1.set b x /\ m1.obj b = none /\ k m1 := fun h => ⟨m, rfl, hb, h⟩
 unfold oK at h ⊢
 split at h
 .exact yO ret id h
 .rename_i b' o n cap
  refine yO ret (fun h => ?_) h
  obtain ⟨hne, h⟩ := vC h b x hb
  refine tX (fun z hz => ?_) h
  split at hz
  .exact hz.elim
  .exact yO (fun hz => ⟨m.set b' _, sA m x _ hne, by rw [zP _ (Ne.symm hne)]; exact hb, hz⟩) id hz
 .exact h.elim
theorem yJ1 {P : Program} {w0 : World} {Γ : zZ} (HΓ : Sound P w0 Γ) (fr : Option (Nat -> Prop)) (σ : Nat -> AV) (o : Oper) : Frm fun m k => cD P Γ fr σ m o k := by
 intro m k h b x hb
 unfold cD at h ⊢
 split at h
 .rename_i e
  rcases nD P σ o with ⟨u, hu⟩ | hn
  .exact (hu _).2 ⟨m, rfl, hb, (hu _).1 h⟩
  .exact (hn _ h).elim
 .rename_i e
  obtain ⟨dst, op, ty, pos, after, guard⟩ := o
  cases op with
  | load t a =>
   cases fr with
   | none => exact jS (k := fun v => ∃ m1, m.set b x = m1.set b x /\ m1.obj b = none /\ k v m1) ((sM (oI P t (zS σ a) m)) (fun v hv => ⟨m, rfl, hb, hv⟩) h) b x hb
   | some F =>
    obtain ⟨b', o, e', h⟩ := uK h
    show yD (zS σ a) _
    rw [e']
    refine ⟨h.1, ?_⟩
    have h2 := h.2
    have h3 := jS (k := fun v => ∃ m1, m.set b x = m1.set b x /\ m1.obj b = none /\ k v m1) ((sM (oI P t (zS σ a) m)) (fun v hv => ⟨m, rfl, hb, hv⟩) h2) b x hb
    rw [e'] at h3
    exact h3
  | convert sT dT y =>
   have hD := dQ (zS σ y) m
   simp only [uT] at h ⊢
   split at h
   rotate_left
   .exact h.elim
   have key : mP (zS σ y) m (fun z => k (.flat (.string z)) m) -> mP (zS σ y) (m.set b x) fun z => ∃ m1, m.set b x = m1.set b x /\ m1.obj b = none /\ k (.flat (.string z)) m1 := fun h =>
    zU4 b x hb (sM hD (fun z hz => ⟨m, rfl, hb, hz⟩) h)
   cases fr with
   | none => exact key h
   | some F =>
    dsimp only [frS] at h ⊢
    split at h
    .rename_i e'
     exact ⟨h.1, key h.2⟩
    .exact key h
  | lookup tT y i ok =>
   cases fr with
   | some F => exact h.elim
   | none =>
    have h : tD P tT (zS σ y) (zS σ i) ok m fun v => k v m := h
    exact zFc (k := fun v => ∃ m1, m.set b x = m1.set b x /\ m1.obj b = none /\ k v m1) b x hb (sM (zAc P tT (zS σ y) (zS σ i) ok m) (fun v hv => ⟨m, rfl, hb, hv⟩) h)
  | _ => exact h.elim
 .rename_i e
  by_cases cn : lT o.op = true
  .rcases zCg P Γ fr σ o cn with ⟨u, xb, hu⟩ | ⟨v, hv⟩ | hn
   .exact (hu _ _).2 (mS ((hu m k).1 h) b x hb)
   .exact (hv _ _).2 ⟨m, rfl, hb, (hv m k).1 h⟩
   .exact (hn m k h).elim
  .obtain ⟨dst, op, ty, pos, after, guard⟩ := o
   cases op with
   | store t a v =>
    cases fr with
    | none => exact aP (k := fun m' => k .junk m') h b x hb
    | some F =>
     have h' := aP (k := fun m' => zV F m m' /\ k .junk m') h b x hb
     dsimp only [wK]
     refine jJ (fun m' h' => ?_) h'
     obtain ⟨m1, rfl, hb1, hK, h1⟩ := h'
     refine ⟨fun b' hF hb' => ?_, m1, rfl, hb1, h1⟩
     by_cases c : b' = b
     .subst c; rw [zL, zL]
     .rw [zP x c, zP x c]; rw [zP x c] at hb'; exact hK b' hF hb'
   | call c =>
    obtain ⟨callee, args, argTypes⟩ := c
    cases callee with
    | value y =>
     cases y with
     | func f =>
      cases fr with
      | none => exact HΓ.frame f _ m k h b x hb
      | some F =>
       refine HΓ.mono f _ _ _ _ (fun v m' h' => ?_) (HΓ.frame f _ m _ h b x hb)
       obtain ⟨m1, rfl, hb1, hK, h1⟩ := h'
       refine ⟨fun b' hF hb' => ?_, m1, rfl, hb1, h1⟩
       by_cases c : b' = b
       .subst c; rw [zL, zL]
       .rw [zP x c, zP x c]; rw [zP x c] at hb'; exact hK b' hF hb'
     | tmp t =>
      dsimp only [wK] at h ⊢
      rcases zEu (σ t) with ⟨f, xs, hf⟩ | hn
      rotate_left
      .exact (hn _ h).elim
      rw [hf] at h ⊢
      cases fr with
      | none =>
       refine HΓ.mono f _ _ _ _ (fun v m' h' => ?_) (HΓ.frame f _ m _ h b x hb)
       obtain ⟨m1, rfl, hb1, h1⟩ := h'
       exact uL (fun v hv => ⟨m1, rfl, hb1, hv⟩) h1
      | some F =>
       refine HΓ.mono f _ _ _ _ (fun v m' h' => ?_) (HΓ.frame f _ m _ h b x hb)
       obtain ⟨m1, rfl, hb1, hK, h1⟩ := h'
       refine ⟨fun b' hF hb' => ?_, uL (fun v hv => ⟨m1, rfl, hb1, hv⟩) h1⟩
       by_cases c : b' = b
       .subst c; rw [zL, zL]
       .rw [zP x c, zP x c]; rw [zP x c] at hb'; exact hK b' hF hb'
     | _ => exact h.elim
    | builtin bi =>
     cases bi with
     | append =>
      cases fr with
      | some F =>
       refine (lF P _ _).mono _ _ _ (fun v m' h' => ?_) ((lF P (args.toList.map (zS σ)) argTypes.toList).frame m _ h b x hb)
       obtain ⟨m1, rfl, hb1, hK, h1⟩ := h'
       refine ⟨fun b' hF hb' => ?_, m1, rfl, hb1, h1⟩
       by_cases c : b' = b
       .subst c; rw [zL, zL]
       .rw [zP x c, zP x c]; rw [zP x c] at hb'; exact hK b' hF hb'
      | none =>
      dsimp only [wK, qN] at h ⊢
      split at h
      rotate_left
      .exact h.elim
      split at h
      rotate_left
      .exact h.elim
      split at h
      rotate_left
      .exact h.elim
      split at h
      .exact yO (zCy b x hb) id h
      .split at h
       .exact yO (zEy b x hb) id h
       .exact h.elim
     | copy =>
      dsimp only [wK, zWr] at h ⊢
      split at h
      rotate_left
      .exact h.elim
      split at h
      rotate_left
      .exact h.elim
      split at h
      rotate_left
      .exact h.elim
      obtain ⟨⟨c, hc⟩, h⟩ := tE h
      rw [hc] at h ⊢
      exact zUi b x hb h
     | clear =>
      dsimp only [wK, bY] at h ⊢
      split at h
      rotate_left
      .exact h.elim
      split at h
      .exact zLs b x hb h
      .split at h
       rotate_left
       .exact h.elim
       obtain ⟨⟨c, hc⟩, h⟩ := tE h
       rw [hc]
       exact zR0 b x hb h
      .exact h.elim
     | delete =>
      dsimp only [wK, zBf] at h ⊢
      split at h
      rotate_left
      .exact h.elim
      split at h
      rotate_left
      .exact h.elim
      split at h
      rotate_left
      .exact h.elim
      obtain ⟨kn, d, ek, h⟩ := vS h
      subst ek
      rcases yY h with ⟨e, h⟩ | ⟨_, h⟩
      rotate_left
      .exact h.elim
      show Am.kif (kn == _) _ _
      rw [e]
      exact zSq b x hb h
     | _ => exact h.elim
    | _ => exact h.elim
   | alloc e => simp [lT] at cn
   | box e y => simp [lT] at cn
   | buildSlice t len parts => simp [lT] at cn
   | makeSlice t l c => simp [lT] at cn
   | makeChan t x => simp [lT] at cn
   | makeMap t r => cases r with
    | none => simp [lT] at cn
    | some r => exact h.elim
   | mapUpdate t y i v =>
    dsimp only [wK, pT] at h ⊢
    split at h
    rotate_left
    .exact h.elim
    split at h
    rotate_left
    .exact h.elim
    obtain ⟨kn, d, ek, h⟩ := vS h
    rw [ek]
    rcases yY h with ⟨e, h⟩ | ⟨_, h⟩
    rotate_left
    .exact h.elim
    show Am.kif (kn == _) _ _
    rw [e]
    obtain ⟨n, c, ev, h⟩ := vS h
    rw [ev]
    exact zUk b x hb h
   | _ => exact h.elim
def xCy (F : Mem -> ((Nat -> AV) -> Mem -> Prop) -> Prop) : Prop := ∀ m k, F m k -> ∀ b x, m.obj b = none -> F (m.set b x) fun σ m' => ∃ m1, m' = m1.set b x /\ m1.obj b = none /\ k σ m1
theorem dJ {P : Program} {w0 : World} {Γ : zZ} (HΓ : Sound P w0 Γ) (fr : Option (Nat -> Prop)) (all : Array Oper) : ∀ (l : List Oper) (σ : Nat -> AV), xCy fun m k => sZ P Γ fr all l σ m k
 | [], σ, m, k, h, b, x, hb => ⟨m, rfl, hb, h⟩
 | o :: l, σ, m, k, h, b, x, hb => by
  have key : ∀ (σ1 σ2 : Nat -> AV), (cD P Γ (nR P all fr o) σ1 m o fun v m' => sZ P Γ fr all l (yG σ2 o.dst v) m' k) -> cD P Γ (nR P all fr o) σ1 (m.set b x) o fun v m' => sZ P Γ fr all l (yG σ2 o.dst v) m' fun σ m' => ∃ m1, m' = m1.set b x /\ m1.obj b = none /\ k σ m1 := fun σ1 σ2 h => by
   refine (jU HΓ _ σ1 _ o).mono _ _ (fun v m' h' => ?_) (yJ1 HΓ _ σ1 o m _ h b x hb)
   obtain ⟨m1, rfl, hb1, h1⟩ := h'
   exact dJ HΓ fr all l _ m1 k h1 b x hb1
  have skip : ∀ σ2, sZ P Γ fr all l σ2 m k -> sZ P Γ fr all l σ2 (m.set b x) fun σ m' => ∃ m1, m' = m1.set b x /\ m1.obj b = none /\ k σ m1 := fun σ2 h => dJ HΓ fr all l σ2 m k h b x hb
  simp only [sZ] at h ⊢
  split at h
  .exact key _ _ h
  .split at h
   .exact h.elim
   .rename_i d hd
    split at h
    .rename_i t ht
     split at h
     .cases t
      .exact skip _ h
      .exact key _ _ h
     .cases t
      .exact key _ _ h
      .exact skip _ h
    .exact skip _ h
    .exact h.elim
def xH4 (F : Mem -> KX -> Prop) : Prop := ∀ m k, F m k -> ∀ b x, m.obj b = none -> F (m.set b x) fun e σ m' => ∃ m1, m' = m1.set b x /\ m1.obj b = none /\ k e σ m1
theorem yId {P : Program} {w0 : World} {Γ : zZ} (HΓ : Sound P w0 Γ) {Λ : LEnv} : ∀ (c : Code), LS P Γ Λ c -> ∀ σ, xH4 fun m k => wpA P Γ Λ c σ m k := by
 intro c
 induction c with
 | skip => intro _ σ m k h b x hb; exact ⟨m, rfl, hb, h⟩
 | label l => intro _ σ m k h b x hb; exact ⟨m, rfl, hb, h⟩
 | region id ops draw =>
  intro _ σ m k h b x hb
  simp only [wpA] at h ⊢
  split at h
  .exact dJ HΓ none ops _ σ m _ h b x hb
  .obtain ⟨F, h⟩ := h
   exact ⟨F, dJ HΓ (some F) ops _ σ m _ h b x hb⟩
 | seq x y ihx ihy =>
  intro hL σ m k h b x hb
  have key : ∀ σ' m', (match Λ.cut y with | true => Λ.piece y σ' m' k | false => wpA P Γ Λ y σ' m' k) -> m'.obj b = none -> (match Λ.cut y with | true => Λ.piece y σ' (m'.set b x) (fun e σ m' => ∃ m1, m' = m1.set b x /\ m1.obj b = none /\ k e σ m1) | false => wpA P Γ Λ y σ' (m'.set b x) fun e σ m' => ∃ m1, m' = m1.set b x /\ m1.obj b = none /\ k e σ m1) := by
   intro σ' m' h hb'
   cases hc : Λ.cut y with
   | false => rw [hc] at h; exact ihy hL.2.2 σ' m' k h b x hb'
   | true =>
    rw [hc] at h
    obtain ⟨cond, live, lx, hp⟩ := hL.1 hc
    obtain ⟨h1, h2⟩ := (hp σ' m' k).1 h
    refine (hp σ' _ _).2 ⟨h1, (iW HΓ y hL.2.2 _ _).1 _ _ (fun e σ2 m2 h3 => ?_) (ihy hL.2.2 _ m' _ h2 b x hb')⟩
    obtain ⟨m1, rfl, hb1, h3⟩ := h3
    cases e <;> exact ⟨m1, rfl, hb1, h3⟩
  refine (iW HΓ _ hL.2.1 σ _).1 _ _ (fun e σ' m' h' => ?_) (ihx hL.2.1 σ m _ h b x hb)
  obtain ⟨m1, rfl, hb1, h1⟩ := h'
  cases e with
  | normal => exact key σ' m1 h1 hb1
  | exit id => exact ⟨m1, rfl, hb1, h1⟩
  | ret => exact ⟨m1, rfl, hb1, h1⟩
 | cond c x y ihx ihy =>
  intro hL σ m k h b z hb
  obtain ⟨t, ht, h⟩ := nJ h
  show tP (zS σ c) _
  rw [ht]
  rcases yY h with ⟨rfl, h⟩ | ⟨rfl, h⟩
  .exact ihx hL.1 σ m k h b z hb
  .exact ihy hL.2 σ m k h b z hb
 | block id x ih =>
  intro hL σ m k h b z hb
  refine (iW HΓ x hL σ _).1 _ _ (fun e σ' m' h' => ?_) (ih hL σ m _ h b z hb)
  obtain ⟨m1, rfl, hb1, h1⟩ := h'
  cases e with
  | normal => exact ⟨m1, rfl, hb1, h1⟩
  | exit j =>
   dsimp only at h1 ⊢
   split at h1
   .exact ⟨m1, rfl, hb1, h1⟩
   .exact ⟨m1, rfl, hb1, h1⟩
  | ret => exact ⟨m1, rfl, hb1, h1⟩
 | scope x ih => intro hL; exact ih hL
 | loop x ih =>
  intro hL σ m k h b z hb
  obtain ⟨⟨cond, live, lx, hΛ⟩, hLx⟩ := hL
  obtain ⟨hc, N, hr⟩ := (hΛ σ m k).1 h
  refine (hΛ σ _ _).2 ⟨hc, N, ?_⟩
  have key : ∀ (N : Nat) (vs : List AV) (m : Mem), m.obj b = none -> rounds P Γ Λ live lx x N vs m k -> rounds P Γ Λ live lx x N vs (m.set b z) fun e σ m' => ∃ m1, m' = m1.set b z /\ m1.obj b = none /\ k e σ m1 := by
   intro N
   induction N with
   | zero => intro vs m hb h; exact h
   | succ N ihN =>
    intro vs m hb h
    refine (iW HΓ x hLx _ _).1 _ _ (fun e σ' m' h' => ?_) (ih hLx _ m _ h b z hb)
    obtain ⟨m1, rfl, hb1, h1⟩ := h'
    cases e with
    | normal => exact ihN _ _ hb1 h1
    | exit j => exact ⟨m1, rfl, hb1, h1⟩
    | ret => exact ⟨m1, rfl, hb1, h1⟩
  exact key N _ m hb hr
 | exit id => intro _ σ m k h b x hb; exact ⟨m, rfl, hb, h⟩
 | ret => intro _ σ m k h b x hb; exact ⟨m, rfl, hb, h⟩
 | goto l => intro _ σ m k h b x hb; exact h
 | rangeFunc f p x y => intro _ σ m k h b x hb; exact h
 | refuse why => intro _ σ m k h b x hb; exact h
theorem tS {m : Mem} {b : Nat} {x : Blk} (hb : m.obj b = none) {v : AV} (h : v.inDom m) : v.inDom (m.set b x) := by
 have key : ∀ b', m.obj b' ≠ none -> (m.set b x).obj b' ≠ none := fun b' h' => by
  have : b' ≠ b := fun e => h' (e ▸ hb)
  rw [zP x this]; exact h'
 cases v with
 | ptr b' o => exact key b' h
 | sl b' o l c => exact key b' h
 | mp b' => exact key b' h
 | e0 => exact h
 | clo f vs => exact h.elim
 | _ => trivial
theorem zTr {m : Mem} {b : Nat} {x : Blk} (hb : m.obj b = none) {v : AV} (h : v.inDom2 m) : v.inDom2 (m.set b x) := by
 cases v with
 | agg n c => exact fun i hi => tS hb (h i hi)
 | tup vs =>
  unfold AV.inDom2 at h ⊢
  dsimp only at h ⊢
  induction vs with
  | nil => trivial
  | cons v vs ih =>
   rw [List.foldr_cons] at h ⊢
   cases v with
   | agg n c => exact ⟨fun i hi => tS hb (h.1 i hi), ih h.2⟩
   | flat u => exact ih h
   | ptr b' o => exact ⟨tS (v := .ptr b' o) hb h.1, ih h.2⟩
   | sl b' o l c => exact ⟨tS (v := .sl b' o l c) hb h.1, ih h.2⟩
   | mp b' => exact ⟨tS (v := .mp b') hb h.1, ih h.2⟩
   | e0 => exact ⟨trivial, ih h.2⟩
   | ch => exact ⟨trivial, ih h.2⟩
   | clo f vs => exact h.1.elim
   | junk => exact ⟨trivial, ih h.2⟩
   | tup l => exact ⟨trivial, ih h.2⟩
 | ptr b' o => exact tS (v := .ptr b' o) hb h
 | sl b' o l c => exact tS (v := .sl b' o l c) hb h
 | mp b' => exact tS (v := .mp b') hb h
 | e0 => trivial
 | ch => trivial
 | clo f vs => exact h.elim
 | flat u => trivial
 | junk => trivial
theorem zY2 {P : Program} {w0 : World} {Γ : zZ} (HΓ : Sound P w0 Γ) {Λ : LEnv} {fn : Func} (hL : ∀ c, fn.body = some c -> LS P Γ Λ c) (dr : Bool) (args : List AV) : Frm fun m k => eU P Γ Λ fn dr args m k := by
 intro m k h b x hb
 unfold eU at h ⊢
 split at h
 .rename_i c hc
  refine (iW HΓ c (hL c hc) _ _).1 _ _ (fun e σ' m' h' => ?_) (yId HΓ c (hL c hc) _ m _ h b x hb)
  obtain ⟨m1, rfl, hb1, h1⟩ := h'
  have hk : ∀ v, lP dr m k v m1 -> lP dr (m.set b x) (fun v m' => ∃ m1, m' = m1.set b x /\ m1.obj b = none /\ k v m1) v (m1.set b x) := by
   intro v h
   unfold lP at h ⊢
   cases dr with
   | false => exact ⟨m1, rfl, hb1, h⟩
   | true =>
    have hK : zA m m1 -> zA (m.set b x) (m1.set b x) := fun K b' hb' => by
     by_cases c : b' = b
     .subst c; rw [zL, zL]
     .rw [zP x c, zP x c]; rw [zP x c] at hb'; exact K b' hb'
    cases hp : v.isPlain with
    | true => rw [hp] at h; exact ⟨hK h.1, m, rfl, hb, h.2⟩
    | false => rw [hp] at h; exact ⟨hK h.1, zTr hb h.2.1, m, rfl, hb, h.2.2⟩
  have hres : ∀ k1 k2 : AV -> Prop, (∀ v, k1 v -> k2 v) -> zF8 P fn.results.toList σ' m1 k1 -> zF8 P fn.results.toList σ' (m1.set b x) k2 := by
   intro k1 k2 h12 h
   unfold zF8 at h ⊢
   split at h
   .exact h12 _ h
   .exact jS (sM (oI ..) h12 h) b x hb1
   .refine gV b x hb1 _ _ _ (fun vs h => ?_) h
    simp only [zB6] at h ⊢
    split at h
    .exact h12 _ h
    .exact h.elim
  cases e with
  | normal => exact hres _ _ hk h1
  | exit id => exact h1
  | ret => exact hres _ _ hk h1
 .exact h.elim
structure FS (P : Program) (w0 : World) (f : FuncId) (G : List AV -> Mem -> KV -> Prop) : Prop where
 call : ∀ args m k, G args m k -> ∀ g w (args' : Array Value), R w0 g m w -> All2 (VR g) args args'.toList -> Calls P f args' w fun e w' => ∃ v', e = .returned v' /\ RK w0 k g v' w'
 goes : ∀ args m k, G args m k -> ∀ (args' : Array Value) w, (callFunc f args').run P w = .ok (.enter f args') w
 mono : ∀ args m (k k' : KV), (∀ v m', k v m' -> k' v m') -> G args m k -> G args m k'
 strict : ∀ args m, ¬ G args m (fun _ _ => False)
 frame : ∀ args m k, G args m k -> ∀ b x, m.obj b = none -> G args (m.set b x) fun v m' => ∃ m1, m' = m1.set b x /\ m1.obj b = none /\ k v m1
theorem zOn {P : Program} {w0 : World} {Γ : zZ} (h : ∀ f, FS P w0 f (Γ f)) : Sound P w0 Γ :=
 ⟨fun f => (h f).call, fun f => (h f).goes, fun f => (h f).mono, fun f => (h f).strict, fun f => (h f).frame⟩
theorem yHt (P : Program) (w0 : World) (f : FuncId) : FS P w0 f fun _ _ _ => False := ⟨fun _ _ _ h => h.elim, fun _ _ _ h => h.elim, fun _ _ _ _ _ h => h, fun _ _ h => h, fun _ _ _ h => h.elim⟩
theorem FS.imp {P : Program} {w0 : World} {f : FuncId} {G G' : List AV -> Mem -> KV -> Prop} (h : FS P w0 f G) (e : ∀ args, (∀ m k, G' args m k = G args m k) \/ ∀ m k, ¬ G' args m k) : FS P w0 f G' := by
 refine ⟨fun args m k hk => ?_, fun args m k hk => ?_, fun args m k k' hkk hk => ?_, fun args m hk => ?_, fun args m k hk b x hb => ?_⟩
 .rcases e args with e | e
  .rw [e] at hk; exact h.call args m k hk
  .exact (e m k hk).elim
 .rcases e args with e | e
  .rw [e] at hk; exact h.goes args m k hk
  .exact (e m k hk).elim
 .rcases e args with e | e
  .rw [e] at hk ⊢; exact h.mono args m k k' hkk hk
  .exact (e m k hk).elim
 .rcases e args with e | e
  .rw [e] at hk; exact h.strict args m hk
  .exact (e m _ hk).elim
 .rcases e args with e | e
  .rw [e] at hk ⊢; exact h.frame args m k hk b x hb
  .exact (e m k hk).elim
theorem zUm (args : List AV) (d : Nat) : ∀ t, only (List.range' d args.length) args t = if d <= t /\ t < d + args.length then zH args (t - d) else .junk := by
 induction args generalizing d with
 | nil => intro t; simp [only]; intro h1 h2; omega
 | cons x l ih =>
  intro t
  simp only [List.length_cons, List.range'_succ, only, upd, ih]
  by_cases c : t = d
  .subst c; simp [zH]
  .rw [if_neg c]
   by_cases c2 : d + 1 <= t /\ t < d + 1 + l.length
   .rw [if_pos c2, if_pos (by omega)]
    have : t - d = (t - (d + 1)) + 1 := by omega
    rw [this]; rfl
   .rw [if_neg c2, if_neg (by omega)]
theorem All2.length {α β : Type} {R : α -> β -> Prop} : ∀ {l : List α} {l' : List β}, All2 R l l' -> l.length = l'.length
 | [], [], _ => rfl
 | _ :: _, _ :: _, h => by simp [All2.length h.2]
 | [], _ :: _, h => h.elim
 | _ :: _, [], h => h.elim
theorem zI0 {g : Gh} : ∀ {l : List AV} {l' : List Value} (i : Nat), All2 (VR g) l l' -> i < l.length -> VR g (zH l i) (l'.getD i undef)
 | x :: l, y :: l', 0, h, _ => h.1
 | x :: l, y :: l', i + 1, h, hi => by simpa [zH] using zI0 (l := l) (l' := l') i h.2 (by simpa using hi)
 | [], [], i, _, hi => by simp at hi
 | [], _ :: _, i, h, _ => h.elim
 | _ :: _, [], i, h, _ => h.elim
theorem SR.start {g : Gh} {args : List AV} {args' : Array Value} (h : All2 (VR g) args args'.toList) {n : Nat} (hn : args.length <= n) :
  SR g (Am.only (List.range args.length) args) { tmps := args' ++ Array.replicate (n - args'.size) undef, defers := [] } n := by
 have hl : args.length = args'.size := by simpa using h.length
 refine ⟨fun t => ?_, by simp; omega, rfl⟩
 rw [List.range_eq_range', zUm]
 split
 .rename_i ht
  have h1 := zI0 (t - 0) h (by omega)
  have hlt : t < args'.size := by omega
  have e : (args' ++ Array.replicate (n - args'.size) undef).getD t undef = args'.toList.getD t undef := by
   have : t < args'.size + (n - args'.size) := by omega
   simp [Array.getD, hlt, this, Array.getElem_append]
  show VR g _ ((args' ++ Array.replicate (n - args'.size) undef).getD t undef)
  rw [e]
  simpa using h1
 .trivial
def zXj (tmps : Array Value) (r : ResultVar) : Sem Value := match r with
 | .tmp t => pure (tmps.getD t undef)
 | .cell a t => do loadVar t (<- asAddr (tmps.getD a undef))
theorem zUp (fn : Func) (tmps : Array Value) : results fn tmps = (do let vs <- fn.results.mapM (zXj tmps); pure (if h : vs.size = 1 then vs[0] else .tuple vs)) := rfl
theorem zWq {P : Program} {w0 : World} {g : Gh} {m : Mem} {w : World} {fn : Func} {σ : Nat -> AV} {a : Act} {n : Nat} {k : AV -> Prop} (S : SR g σ a n) (HR : R w0 g m w) (h : zF8 P fn.results.toList σ m k) :
  ∃ v v', (results fn a.tmps).run P w = .ok v' w /\ VR g v v' /\ k v := by
 unfold zF8 at h
 split at h
 .rename_i t e
  refine ⟨σ t, a.tmps.getD t undef, ?_, S.tm t, h⟩
  have e2 : fn.results = #[.tmp t] := by apply Array.toList_inj.1; simpa using e
  unfold results
  rw [e2]
  simp
 .rename_i t ty e
  obtain ⟨v, v', ad, h1, h2, h3, h4⟩ := zSr HR (S.tm t) h
  refine ⟨v, v', ?_, h3, h4⟩
  have e2 : fn.results = #[.cell t ty] := by apply Array.toList_inj.1; simpa using e
  unfold results
  rw [e2]
  simp only [List.mapM_toArray, List.mapM_cons, List.mapM_nil, h1, asAddr]
  simp [h2]
 .rename_i h1 h2
  have key : ∀ (rs : List ResultVar) (k : List AV -> Prop), zSt P rs σ m k ->
    ∃ (vs : List AV) (vs' : List Value), (rs.mapM (zXj a.tmps)).run P w = .ok vs' w /\ All2 (VR g) vs vs' /\ rs.length = vs.length /\ k vs := by
   intro rs
   induction rs with
   | nil => intro k h; exact ⟨[], [], rfl, trivial, rfl, h⟩
   | cons r rs ih =>
    intro k h
    cases r with
    | tmp t =>
     obtain ⟨vs, vs', h1, h2, h3, h4⟩ := ih _ h
     refine ⟨σ t :: vs, a.tmps.getD t undef :: vs', ?_, ⟨S.tm t, h2⟩, by simp [h3], h4⟩
     simp only [List.mapM_cons, Sem.run_bind, Sem.run_pure, Result.andThen_ok, h1, zXj]
    | cell x t =>
     obtain ⟨v, v', ad, g1, g2, g3, g4⟩ := zSr HR (S.tm x) h
     obtain ⟨vs, vs', h1, h2, h3, h4⟩ := ih _ g4
     refine ⟨v :: vs, v' :: vs', ?_, ⟨g3, h2⟩, by simp [h3], h4⟩
     simp only [List.mapM_cons, Sem.run_bind, Sem.run_pure, Result.andThen_ok, h1, zXj, g1, asAddr, g2]
  obtain ⟨vs, vs', h3, h4, h5, h6⟩ := key _ _ h
  rw [zB6] at h6
  split at h6
  .rename_i hall
   have hl : vs'.length ≠ 1 := by
    rw [<- h4.length, <- h5]
    intro hl
    obtain ⟨r, hr⟩ := List.length_eq_one_iff.1 hl
    cases r with
    | tmp t => exact h1 t hr
    | cell x t => exact h2 x t hr
   have h7 : All2 (VR1 g) vs vs' := by
    clear h3 h5 h6 hl h
    induction vs generalizing vs' with
    | nil =>
     cases vs' with
     | nil => trivial
     | cons y ys => exact h4.elim
    | cons x xs ih =>
     cases vs' with
     | nil => exact h4.elim
     | cons y ys =>
      simp only [List.all_cons, Bool.and_eq_true] at hall
      refine ⟨?_, ih ys h4.2 hall.2⟩
      have hx := h4.1
      revert hx
      cases x with
      | tup l => intro _; simp [ntB] at hall
      | flat v => intro h; exact h
      | junk => intro _; trivial
      | agg n c => intro h; exact h
      | ptr b o => intro h; exact h
      | sl b o l c => intro h; exact h
      | mp b => intro h; exact h
      | e0 => intro h; exact h
      | ch => intro h; exact h
      | clo f vs => intro _; simp [ntB] at hall
   refine ⟨.tup vs, .tuple vs'.toArray, ?_, ⟨_, rfl, by simpa using h7⟩, h6⟩
   rw [zUp]
   have e : fn.results.mapM (zXj a.tmps) = (List.toArray <$> fn.results.toList.mapM (zXj a.tmps)) := by
    rw [<- Array.toList_mapM, Functor.map_map]
    simp
   rw [e]
   simp only [Sem.run_bind, Sem.run_map, h3, Result.andThen_ok]
   rw [dif_neg (by simpa using hl)]
   rfl
  .exact h6.elim
theorem zVo {w0 : World} {g g' : Gh} {m m' : Mem} {w w' : World} {dr : Bool} {k : KV} {v : AV} {v' : Value} (HR : R w0 g m w) (HR' : R w0 g' m' w') (E : Ext g g') (hv : VR g' v v') (h : lP dr m k v m') : RK w0 k g v' w' := by
 unfold lP at h
 cases dr with
 | false => exact ⟨v, g', m', E, hv, HR', h⟩
 | true =>
  cases hp : v.isPlain with
  | true =>
   rw [hp] at h
   refine ⟨v, _, m, E.back, ?_, HR.back HR' E h.1, h.2⟩
   cases v with
   | flat u => exact hv
   | junk => trivial
   | tup vs =>
    obtain ⟨a, rfl, hall⟩ := hv
    refine ⟨a, rfl, ?_⟩
    simp only [AV.isPlain, List.all_eq_true] at hp
    clear h
    generalize a.toList = l at hall ⊢
    induction vs generalizing l with
    | nil =>
     cases l with
     | nil => trivial
     | cons y ys => exact hall.elim
    | cons x xs ih =>
     cases l with
     | nil => exact hall.elim
     | cons y ys =>
      refine ⟨?_, ih (fun z hz => hp z (by simp [hz])) ys hall.2⟩
      have hx := hp x (by simp)
      cases x <;> simp [AV.isFlat] at hx
      exact hall.1
   | _ => simp [AV.isPlain] at hp
  | false =>
   rw [hp] at h
   refine ⟨v, _, m, E.back, ?_, HR.back HR' E h.1, h.2.2⟩
   have h1 := h.2.1
   have one : ∀ {x : AV} {y : Value}, (match x with | .agg n c => xZ n m c | .flat _ => True | x => x.inDom m) -> VR1 g' x y -> VR1 ⟨g'.φ, g'.δ, g'.S, g.dom, g'.hs, g'.mp⟩ x y := by
    intro x y hd hx
    cases x with
    | flat u => exact hx
    | junk => trivial
    | agg n c => obtain ⟨a, rfl, hs, hc⟩ := hx; exact ⟨a, rfl, hs, fun i hi => dZ HR E (hd i hi) (hc i hi)⟩
    | ptr b o => exact dZ (x := .ptr b o) HR E hd hx
    | sl b o l c => exact dZ (x := .sl b o l c) HR E hd hx
    | mp b => exact dZ (x := .mp b) HR E hd hx
    | e0 => exact hx
    | ch => exact hx
    | clo f vs => exact hx.elim
    | tup l => exact hx.elim
   cases v with
   | flat u => exact hv
   | junk => trivial
   | agg n c => exact one (x := .agg n c) h1 hv
   | ptr b o => exact one (x := .ptr b o) h1 hv
   | sl b o l c => exact one (x := .sl b o l c) h1 hv
   | mp b => exact one (x := .mp b) h1 hv
   | e0 => exact hv
   | ch => exact hv
   | clo f vs => exact h1.elim
   | tup vs =>
    obtain ⟨a, rfl, hall⟩ := hv
    refine ⟨a, rfl, ?_⟩
    clear h hp
    generalize a.toList = l at hall ⊢
    induction vs generalizing l with
    | nil =>
     cases l with
     | nil => trivial
     | cons y ys => exact hall.elim
    | cons x xs ih =>
     cases l with
     | nil => exact hall.elim
     | cons y ys =>
      unfold AV.inDom2 at h1
      dsimp only at h1
      rw [List.foldr_cons] at h1
      cases x with
      | flat u => exact ⟨hall.1, ih h1 ys hall.2⟩
      | agg n c => exact ⟨one (x := .agg n c) h1.1 hall.1, ih h1.2 ys hall.2⟩
      | ptr b o => exact ⟨one (x := .ptr b o) h1.1 hall.1, ih h1.2 ys hall.2⟩
      | sl b o l c => exact ⟨one (x := .sl b o l c) h1.1 hall.1, ih h1.2 ys hall.2⟩
      | mp b => exact ⟨one (x := .mp b) h1.1 hall.1, ih h1.2 ys hall.2⟩
      | e0 => exact ⟨hall.1, ih h1.2 ys hall.2⟩
      | ch => exact ⟨hall.1, ih h1.2 ys hall.2⟩
      | clo f vs => exact hall.1.elim
      | junk => exact ⟨trivial, ih h1.2 ys hall.2⟩
      | tup l => exact hall.1.elim
theorem yJt {P : Program} {w0 : World} {Γ : zZ} (HΓ : Sound P w0 Γ) (hm : P.follows .mixedOrders = true) {Λ : LEnv} {f : FuncId} {fn : Func} (hf : P.funcs[f]? = some fn) {c : Code} (hb : fn.body = some c) (hgo : ∀ (args : Array Value) (w : World), (callFunc f args).run P w = .ok (.enter f args) w) (hok : rN P Λ.frz fn.ntmps c = true) (hL : LS P Γ Λ c) (dr : Bool) {np : Nat} (hnp : np <= fn.ntmps) :
  FS P w0 f fun args m k => args.length = np /\ eU P Γ Λ fn dr args m k := by
 refine ⟨fun args m k h g w args' HR hargs => ?_, fun args m k h args' w => ?_, fun args m k k' hkk h => ⟨h.1, (bM HΓ (fun c' hc' => by rw [hb] at hc'; cases hc'; exact hL) dr args m).mono k k' hkk h.2⟩, fun args m h => (bM HΓ (fun c' hc' => by rw [hb] at hc'; cases hc'; exact hL) dr args m).strict h.2, fun args m k h b x hb' => ?_⟩
 .obtain ⟨hlen, h⟩ := h
  unfold eU at h
  rw [hb] at h
  dsimp only at h
  refine calls_of_wp hf hb (yN6 HΓ hm fn.ntmps c hok hL (SR.start hargs (by omega)) HR h fun e σ' m' g' a' w' E S' HR' h' => ?_)
  cases e with
  | exit id => exact h'.elim
  | normal =>
   obtain ⟨v, v', h1, h2, h3⟩ := zWq S' HR' h'
   exact ⟨S'.df, v', h1, v', rfl, zVo HR HR' E h2 h3⟩
  | ret =>
   obtain ⟨v, v', h1, h2, h3⟩ := zWq S' HR' h'
   exact ⟨S'.df, v', h1, v', rfl, zVo HR HR' E h2 h3⟩
 .exact hgo args' w
 .obtain ⟨h0, h⟩ := h
  exact (bM HΓ (fun c' hc' => by rw [hb] at hc'; cases hc'; exact hL) dr args _).mono _ _ (fun v m' h' => h') (zY2 HΓ (fun c' hc' => by rw [hb] at hc'; cases hc'; exact hL) dr args m k h b x hb') |> fun h2 => ⟨h0, h2⟩
end Go.Proofs.YtkiggdgphbkneaaGreat.Am
