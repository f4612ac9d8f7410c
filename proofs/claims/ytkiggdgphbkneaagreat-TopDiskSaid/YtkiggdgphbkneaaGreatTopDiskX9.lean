/- Regions that draw their order: where operations that no edge orders don't touch one another, the text's order tells of each order. No program in sight. -/
import Derived.Test.YtkiggdgphbkneaaGreatTopDiskX8
namespace Go.Proofs.YtkiggdgphbkneaaGreat.Am
set_option linter.unusedVariables false
set_option linter.unusedSimpArgs false
set_option linter.unusedSectionVars false
def isP (P : Program) (o : Op) : Bool := match nT P o with | .P => true | _ => false
def bF (P : Program) (o : Op) : Bool := match nT P o with | .L => true | _ => false
def kQ (o : Op) : Bool := mI o || kB o
def zVp (P : Program) (fz : Bool) (all : Array Oper) (x y : Oper) : Bool :=
 x.apart all y && (isP P x.op || isP P y.op || ((bF P x.op || lT x.op) && (bF P y.op || lT y.op)) || (fz && ((kQ x.op && ((bF P y.op && !pC P all x) || lT y.op)) || (bF P x.op && kQ y.op && !pC P all y))))
def zBo (P : Program) (fz : Bool) (all : Array Oper) : Bool :=
 (List.range all.size).all fun i => match all[i]? with
  | none => true
  | some x => (x.after.all fun e => !Region.binds .any e || decide (e.on < i)) &&
   (List.range i).all fun j => match all[j]? with
    | none => true
    | some y => match (clo all i).testBit j with
     | true => x.after.any fun e => Region.binds .any e && (e.on == j || (decide (j < e.on) && (clo all e.on).testBit j))
     | false => zVp P fz all y x
theorem zNs {σ : Nat -> AV} {d : Option Tmp} {v : AV} {x : Operand} (h : ∀ t, d = some t -> x ≠ .tmp t) : zS (yG σ d v) x = zS σ x := by
 cases d with
 | none => rfl
 | some d =>
  cases x with
  | tmp t =>
   have hne : t ≠ d := fun e => h d rfl (by rw [e])
   simp [yG, zS, upd, hne]
  | _ => rfl
theorem sK (P : Program) {σ σ' : Nat -> AV} (o : Oper) (hs : ∀ cs b, o.op ≠ .select cs b) (h : ∀ x ∈ o.op.operands, zS σ x = zS σ' x) : qC P σ o = qC P σ' o := by
 funext k
 unfold qC
 have e1 : (o.op.operands.all fun x => (zS σ x).isFlat) = (o.op.operands.all fun x => (zS σ' x).isFlat) := by
  rw [Bool.eq_iff_iff, Array.all_eq_true_iff_forall_mem, Array.all_eq_true_iff_forall_mem]
  exact ⟨fun H x hx => by rw [<- h x hx]; exact H x hx, fun H x hx => by rw [h x hx]; exact H x hx⟩
 have e2 : execOp (fun x => (zS σ x).val) o = execOp (fun x => (zS σ' x).val) o := execOp_congr o hs fun x hx => by rw [h x hx]
 rw [e1, e2]
theorem zA7 {σ σ' : Nat -> AV} (ps : Array (Nat × Operand)) (h : ∀ x ∈ (ps.toList.map (·.2)).toArray, zS σ x = zS σ' x) : (ps.toList.map fun p => (p.1, zS σ p.2)) = ps.toList.map fun p => (p.1, zS σ' p.2) :=
 List.map_congr_left fun p hp => by
  rw [h p.2 (by simp only [List.mem_toArray, List.mem_map]; exact ⟨p, hp, rfl⟩)]
theorem zQ2 (P : Program) {σ σ' : Nat -> AV} (o : Oper) (h : ∀ x ∈ o.op.operands, zS σ x = zS σ' x) : xL P σ o = xL P σ' o := by
 obtain ⟨dst, op, ty, pos, after, guard⟩ := o
 cases op with
 | build t ps => funext k; simp only [xL]; rw [zA7 ps h]
 | call c =>
  obtain ⟨callee, args, argTypes⟩ := c
  cases callee with
  | builtin b =>
   cases b with
   | len =>
    funext k
    simp only [xL]
    split
    .rename_i t x ht hx
     have e : zS σ x = zS σ' x := h x (by
      have hargs : args = #[x] := by apply Array.toList_inj.1; simpa using hx
      subst hargs; simp [Op.operands, Call.operands])
     rw [e]
    .rfl
   | min => funext k; simp only [xL]; rw [sK P _ (by simp) h]
   | max => funext k; simp only [xL]; rw [sK P _ (by simp) h]
   | _ => rfl
  | _ => rfl
 | binOp op t x y yt =>
  have hf := sK P ⟨dst, .binOp op t x y yt, ty, pos, after, guard⟩ (by simp) h
  simp only [Op.operands] at h
  funext k
  simp only [xL]
  rw [h x (by simp), h y (by simp), hf]
 | index t x i => simp only [Op.operands] at h; funext k; simp only [xL]; rw [h x (by simp), h i (by simp)]
 | unOp op t x => funext k; simp only [xL]; rw [sK P _ (by simp) h]
 | convert s d x => funext k; simp only [xL]; rw [sK P _ (by simp) h]
 | move x => simp only [Op.operands] at h; funext k; simp only [xL]; rw [h x (by simp)]
 | assign x => simp only [Op.operands] at h; funext k; simp only [xL]; rw [h x (by simp)]
 | pick c x y => simp only [Op.operands] at h; funext k; simp only [xL]; rw [h c (by simp), h x (by simp), h y (by simp)]
 | nilCheck x => simp only [Op.operands] at h; funext k; simp only [xL]; rw [h x (by simp)]
 | fieldAddr t x f => simp only [Op.operands] at h; funext k; simp only [xL]; rw [h x (by simp)]
 | field t x f => simp only [Op.operands] at h; funext k; simp only [xL]; rw [h x (by simp)]
 | indexAddr t x i => simp only [Op.operands] at h; funext k; simp only [xL]; rw [h x (by simp), h i (by simp)]
 | extract x i => simp only [Op.operands] at h; funext k; simp only [xL]; rw [h x (by simp)]
 | slice t x low high mx =>
  cases mx with
  | some z =>
   simp only [Op.operands] at h
   have hx := h x (by simp)
   have hz := h z (by simp)
   cases low with
   | none => cases high with
    | none => funext k; simp only [xL, qQ, uI]; rw [hx, hz]
    | some y => funext k; simp only [xL, qQ, uI]; rw [hx, h y (by simp), hz]
   | some y => cases high with
    | none => funext k; simp only [xL, qQ, uI]; rw [hx, h y (by simp), hz]
    | some u => funext k; simp only [xL, qQ, uI]; rw [hx, h y (by simp), h u (by simp), hz]
  | none =>
   simp only [Op.operands] at h
   have hx := h x (by simp)
   cases low with
   | none => cases high with
    | none => funext k; simp only [xL, lD, uI]; rw [hx]
    | some z => funext k; simp only [xL, lD, uI]; rw [hx, h z (by simp)]
   | some y => cases high with
    | none => funext k; simp only [xL, lD, uI]; rw [hx, h y (by simp)]
    | some z => funext k; simp only [xL, lD, uI]; rw [hx, h y (by simp), h z (by simp)]
 | makeFunc f first cap =>
  funext k
  simp only [xL]
  rw [List.map_congr_left (f := zS σ) (g := zS σ') (l := cap.toList) fun x hx => h x (by simp only [Op.operands]; simp; exact .inr (by simpa using hx))]
 | _ => rfl
theorem zOs (P : Program) (fr : Option (Nat -> Prop)) {σ σ' : Nat -> AV} (m : Mem) (o : Oper) (h : ∀ x ∈ o.op.operands, zS σ x = zS σ' x) : uT P fr σ m o = uT P fr σ' m o := by
 obtain ⟨dst, op, ty, pos, after, guard⟩ := o
 cases op with
 | load t a => simp only [Op.operands] at h; funext k; simp only [uT]; rw [h a (by simp)]
 | convert s d x => simp only [Op.operands] at h; funext k; simp only [uT]; rw [h x (by simp)]
 | lookup t x i ok => simp only [Op.operands] at h; funext k; simp only [uT]; rw [h x (by simp), h i (by simp)]
 | _ => rfl
theorem zT4 (P : Program) (Γ : zZ) (fr : Option (Nat -> Prop)) {σ σ' : Nat -> AV} (m : Mem) (o : Oper) (h : ∀ x ∈ o.op.operands, zS σ x = zS σ' x) : wK P Γ fr σ m o = wK P Γ fr σ' m o := by
 obtain ⟨dst, op, ty, pos, after, guard⟩ := o
 cases op with
 | box e x => simp only [Op.operands] at h; funext k; simp only [wK]; rw [h x (by simp)]
 | buildSlice t len ps => funext k; simp only [wK]; rw [zA7 ps h]
 | makeSlice t l c => simp only [Op.operands] at h; funext k; simp only [wK]; rw [h l (by simp), h c (by simp)]
 | store t a v => simp only [Op.operands] at h; funext k; simp only [wK]; rw [h a (by simp), h v (by simp)]
 | makeMap t r => cases r <;> rfl
 | makeChan t x => simp only [Op.operands] at h; funext k; simp only [wK]; rw [h x (by simp)]
 | mapUpdate t x i v => simp only [Op.operands] at h; funext k; simp only [wK]; rw [h x (by simp), h i (by simp), h v (by simp)]
 | call c =>
  obtain ⟨callee, args, argTypes⟩ := c
  cases callee with
  | value x =>
   cases x with
   | func f =>
    funext k
    simp only [wK]
    rw [List.map_congr_left (f := zS σ) (g := zS σ') fun x hx => h x (by simp only [Op.operands, Call.operands]; simp; exact .inr (by simpa using hx))]
   | tmp t =>
    funext k
    simp only [wK]
    have ht : σ t = σ' t := h (.tmp t) (by simp [Op.operands, Call.operands])
    rw [List.map_congr_left (f := zS σ) (g := zS σ') fun x hx => h x (by simp only [Op.operands, Call.operands]; simp; exact .inr (by simpa using hx)), ht]
   | _ => rfl
  | builtin b =>
   have e : args.toList.map (zS σ) = args.toList.map (zS σ') := List.map_congr_left fun x hx => h x (by simp only [Op.operands, Call.operands]; simpa using hx)
   cases b with
   | append => funext k; cases fr <;> (simp only [wK]; rw [e])
   | copy => funext k; simp only [wK]; rw [e]
   | clear => funext k; simp only [wK]; rw [e]
   | delete => funext k; simp only [wK]; rw [e]
   | _ => rfl
  | _ => rfl
 | _ => rfl
theorem zXq (P : Program) (Γ : zZ) (fr : Option (Nat -> Prop)) {σ σ' : Nat -> AV} (m : Mem) (o : Oper) (h : ∀ x ∈ o.op.operands, zS σ x = zS σ' x) : cD P Γ fr σ m o = cD P Γ fr σ' m o := by
 funext k
 unfold cD
 split
 .rw [zQ2 P o h]
 .rw [zOs P fr m o h]
 .rw [zT4 P Γ fr m o h]
theorem xX (P : Program) (Γ : zZ) (fr : Option (Nat -> Prop)) {all : Array Oper} {σ : Nat -> AV} {d : Option Tmp} {v : AV} (m : Mem) (o : Oper) (h : ∀ t, d = some t -> t ∉ o.looksAt all) : xF P Γ fr all (yG σ d v) m o = xF P Γ fr all σ m o := by
 funext k
 have hop : cD P Γ (nR P all fr o) (yG σ d v) m o = cD P Γ (nR P all fr o) σ m o := zXq P Γ _ m o fun x hx => zNs fun t ht e => h t ht (by
  subst e
  exact List.mem_append_left _ (List.mem_filterMap.2 ⟨.tmp t, by simpa using hx, rfl⟩))
 unfold xF
 split
 .rw [hop]
 .rename_i j want e
  split
  .rfl
  .rename_i t ht
   have : (yG σ d v) t = σ t := by
    cases d with
    | none => rfl
    | some d =>
     have hne : t ≠ d := fun ee => h d rfl (by
      subst ee
      refine List.mem_append_right _ ?_
      rw [e]
      simp [ht])
     simp [yG, upd, hne]
   rw [this, hop]
def zF6 (all : Array Oper) (σ : Nat -> AV) (o : Oper) (F : (AV -> Prop) -> Prop) (k : AV -> Prop) : Prop :=
 match o.guard with
 | none => F k
 | some (j, want) => match (all[j]?).bind (·.dst) with
  | none => False
  | some d => kgd (σ d) want (F k) (k (.flat undef))
theorem vZ {all : Array Oper} {σ : Nat -> AV} {o : Oper} {F : (AV -> Prop) -> Prop} (h : vG F) : vG (zF6 all σ o F) := by
 unfold zF6
 cases o.guard with
 | none => exact h
 | some x =>
  obtain ⟨j, want⟩ := x
  dsimp only
  cases (all[j]?).bind (·.dst) with
  | none => exact .fail
  | some d =>
   rcases nO (σ d) want with e | e | e
   .simp only [e]; exact h
   .simp only [e]; exact .ret _
   .simp only [e]; exact .fail
theorem zRe {P : Program} {Γ : zZ} {fr : Option (Nat -> Prop)} {all : Array Oper} {σ : Nat -> AV} {m : Mem} {o : Oper} (h : isP P o.op = true) (k : KV) : xF P Γ fr all σ m o k = zF6 all σ o (xL P σ o) fun v => k v m := by
 have e : nT P o.op = .P := by unfold isP at h; split at h <;> first | assumption | cases h
 unfold xF zF6 cD
 rw [e]
 cases o.guard with
 | none => rfl
 | some x => rfl
theorem yIm {P : Program} {all : Array Oper} {fr : Option (Nat -> Prop)} {o : Oper} (h : yBz o.op = false) : nR P all fr o = fr := by
 unfold nR pC
 rw [h]
 cases fr <;> rfl
theorem yIn {P : Program} {all : Array Oper} {fr : Option (Nat -> Prop)} {o : Oper} (h : pC P all o = false) : nR P all fr o = fr := by
 unfold nR
 rw [h]
 cases fr <;> rfl
theorem yQ8 {P : Program} {o : Op} (h : bF P o = true) : yBz o = false := by
 cases o <;> first | rfl | (simp [bF, nT] at h; done)
theorem pP {P : Program} {Γ : zZ} {fr : Option (Nat -> Prop)} {all : Array Oper} {σ : Nat -> AV} {m : Mem} {o : Oper} (h : bF P o.op = true) (k : KV) : xF P Γ fr all σ m o k = zF6 all σ o (uT P fr σ m o) fun v => k v m := by
 have e : nT P o.op = .L := by unfold bF at h; split at h <;> first | assumption | cases h
 unfold xF zF6 cD
 rw [yIm (yQ8 h), e]
 cases o.guard with
 | none => rfl
 | some x => rfl
theorem pB {P : Program} {Γ : zZ} {fr : Option (Nat -> Prop)} {all : Array Oper} {σ : Nat -> AV} {o : Oper} (h : lT o.op = true) : wS fun m k => xF P Γ fr all σ m o k := by
 have e : nT P o.op = .M := by
  obtain ⟨dst, op, ty, pos, after, guard⟩ := o
  cases op <;> first | rfl | (simp [lT] at h)
 have h1 : wS fun m k => cD P Γ (nR P all fr o) σ m o k := by
  have := zCg P Γ (nR P all fr o) σ o h
  unfold cD; rw [e]; exact this
 unfold xF
 cases o.guard with
 | none => exact h1
 | some x =>
  obtain ⟨j, want⟩ := x
  dsimp only
  cases (all[j]?).bind (·.dst) with
  | none => exact .inr (.inr fun m k h => h)
  | some d =>
   dsimp only
   rcases nO (σ d) want with e | e | e
   .simp only [e]; exact h1
   .simp only [e]; exact .inr (.inl ⟨_, fun m k => Iff.rfl⟩)
   .simp only [e]; exact .inr (.inr fun m k h => h)
structure CallLike (G : Mem -> KV -> Prop) : Prop where
 mono : ∀ m (k k' : KV), (∀ v m', k v m' -> k' v m') -> G m k -> G m k'
 strict : ∀ m, ¬ G m fun _ _ => False
 frame : ∀ m k, G m k -> ∀ b x, m.obj b = none -> G (m.set b x) fun v m' => ∃ m1, m' = m1.set b x /\ m1.obj b = none /\ k v m1
theorem lF (P : Program) (args : List AV) (ts : List TypeId) : CallLike fun m k => qN P args ts m k := by
 refine ⟨fun m k k' hk => (oB P args ts m).mono k k' hk, fun m => (oB P args ts m).strict, fun m k h b x hb => ?_⟩
 unfold qN at h ⊢
 split at h
 rotate_left
 .exact h.elim
 split at h
 rotate_left
 .exact h.elim
 split at h
 rotate_left
 .exact h.elim
 split at h
 .exact yO (zCy b x hb) id h
 .split at h
  .exact yO (zEy b x hb) id h
  .exact h.elim
theorem eT (P : Program) (t : TypeId) (a v : AV) : CallLike fun m k => ast P t a v m fun m' => k .junk m' := by
 refine ⟨fun m k k' hk h => jJ (fun m' h => hk _ _ h) h, fun m h => ?_, fun m k h b x hb => aP (k := fun m' => k .junk m') h b x hb⟩
 rcases zJu P t a v m with ⟨u, hu⟩ | hn
 .exact (hu _).1 h
 .exact hn _ h
theorem hU {P : Program} {w0 : World} {Γ : zZ} (HΓ : Sound P w0 Γ) {F : Nat -> Prop} {all : Array Oper} {σ : Nat -> AV} {o : Oper} (h : kQ o.op = true) (hfree : pC P all o = false) :
  (∃ G : Mem -> KV -> Prop, CallLike G /\ ∀ m k, xF P Γ (some F) all σ m o k ↔ G m fun v m' => zV F m m' /\ k v m') \/ (∃ v, ∀ m k, xF P Γ (some F) all σ m o k ↔ k v m) \/ ∀ m k, ¬ xF P Γ (some F) all σ m o k := by
 have cl : ∀ f args, CallLike fun m k => Γ f args m k := fun f args => ⟨fun m k k' hk => HΓ.mono f args m k k' hk, fun m => HΓ.strict f args m, fun m k h => HΓ.frame f args m k h⟩
 have h1 : (∃ G : Mem -> KV -> Prop, CallLike G /\ ∀ m k, cD P Γ (some F) σ m o k ↔ G m fun v m' => zV F m m' /\ k v m') \/ ∀ m k, ¬ cD P Γ (some F) σ m o k := by
  obtain ⟨dst, op, ty, pos, after, guard⟩ := o
  cases op with
  | call c =>
   obtain ⟨callee, args, argTypes⟩ := c
   cases callee with
   | value x =>
    cases x with
    | func f => exact .inl ⟨_, cl f _, fun m k => Iff.rfl⟩
    | tmp t =>
     rcases zEu (σ t) with ⟨f, xs, hf⟩ | hn
     .have C := cl f (args.toList.map (zS σ) ++ xs)
      refine .inl ⟨fun m k => Γ f (args.toList.map (zS σ) ++ xs) m fun v m' => bL P ty v fun v' => k v' m', ⟨fun m k k' hk => C.mono m _ _ fun v m' h => uL (fun v hv => hk v m' hv) h, fun m h => C.strict m (C.mono m _ _ (fun v m' h => oH (k := fun _ => False) h) h), fun m k h b x hb => C.mono _ _ _ (fun v m' h => ?_) (C.frame m _ h b x hb)⟩, fun m k => ?_⟩
      .obtain ⟨m1, e1, e2, h⟩ := h
       exact uL (fun v hv => ⟨m1, e1, e2, hv⟩) h
      .show (mB (σ t) fun f xs => Γ f (args.toList.map (zS σ) ++ xs) m fun v m' => zV F m m' /\ bL P ty v fun v' => k v' m') ↔ _
       rw [hf]
       exact ⟨C.mono m _ _ fun v m' h => zOx.1 h, C.mono m _ _ fun v m' h => zOx.2 h⟩
     .exact .inr fun m k h => hn (fun f xs => Γ f (args.toList.map (zS σ) ++ xs) m fun v m' => zV F m m' /\ bL P ty v fun v' => k v' m') h
    | _ => exact .inr fun m k h => h
   | builtin b =>
    cases b <;> first | (simp [kQ, mI, kB] at h; done) | exact .inl ⟨_, lF P _ _, fun m k => Iff.rfl⟩
   | _ => simp [kQ, mI, kB] at h
  | store t a v => exact .inl ⟨_, eT P t (zS σ a) (zS σ v), fun m k => Iff.rfl⟩
  | _ => simp [kQ, mI, kB] at h
 unfold xF
 rw [yIn hfree]
 cases o.guard with
 | none => exact h1.imp_right .inr
 | some x =>
  obtain ⟨j, want⟩ := x
  dsimp only
  cases (all[j]?).bind (·.dst) with
  | none => exact .inr (.inr fun m k h => h)
  | some d =>
   dsimp only
   rcases nO (σ d) want with e | e | e
   .simp only [e]; exact h1.imp_right .inr
   .simp only [e]; exact .inr (.inl ⟨_, fun m k => Iff.rfl⟩)
   .simp only [e]; exact .inr (.inr fun m k h => h)
theorem zYg {P : Program} {Γ : zZ} {F : Nat -> Prop} {all : Array Oper} {σ : Nat -> AV} {o : Oper} (hfree : pC P all o = true) :
  (∃ G : Mem -> KV -> Prop, CallLike G /\ ∀ m k, xF P Γ (some F) all σ m o k ↔ G m k) \/ (∃ v, ∀ m k, xF P Γ (some F) all σ m o k ↔ k v m) \/ ∀ m k, ¬ xF P Γ (some F) all σ m o k := by
 have hs : yBz o.op = true := by unfold pC at hfree; simp only [Bool.and_eq_true] at hfree; exact hfree.1
 have hfo : nR P all (some F) o = none := by unfold nR; dsimp only; rw [hfree]
 have h1 : ∃ G : Mem -> KV -> Prop, CallLike G /\ ∀ m k, cD P Γ none σ m o k ↔ G m k := by
  obtain ⟨dst, op, ty, pos, after, guard⟩ := o
  cases op with
  | store t a v => exact ⟨_, eT P t (zS σ a) (zS σ v), fun m k => Iff.rfl⟩
  | _ => simp [yBz] at hs
 unfold xF
 rw [hfo]
 cases o.guard with
 | none => exact .inl h1
 | some x =>
  obtain ⟨j, want⟩ := x
  dsimp only
  cases (all[j]?).bind (·.dst) with
  | none => exact .inr (.inr fun m k h => h)
  | some d =>
   dsimp only
   rcases nO (σ d) want with e | e | e
   .simp only [e]; exact .inl h1
   .simp only [e]; exact .inr (.inl ⟨_, fun m k => Iff.rfl⟩)
   .simp only [e]; exact .inr (.inr fun m k h => h)
def inF (fr : Option (Nat -> Prop)) (b : Nat) : Prop := match fr with
 | none => True
 | some F => F b
def vR (fr : Option (Nat -> Prop)) (m m' : Mem) : Prop := ∀ b, inF fr b -> m.obj b ≠ none -> m'.obj b = m.obj b
theorem vR.set (fr : Option (Nat -> Prop)) {m : Mem} {b : Nat} (hb : m.obj b = none) (x : Blk) : vR fr m (m.set b x) := fun b' _ h => by
 have : b' ≠ b := fun e => h (e ▸ hb)
 simp [Mem.set, upd, this]
def AV.blkB (v : AV) (b : Nat) : Prop := match v with
 | .ptr b' _ => b' = b
 | .sl b' _ _ _ => b' = b
 | .mp b' => b' = b
 | _ => False
def qG (fr : Option (Nat -> Prop)) (σ : Nat -> AV) (o : Op) (m : Mem) : Prop := ∀ x ∈ o.operands, ∀ b, (zS σ x).blkB b -> inF fr b -> m.obj b ≠ none
theorem qG.keep {fr : Option (Nat -> Prop)} {σ : Nat -> AV} {o : Op} {m m' : Mem} (h : qG fr σ o m) (K : vR fr m m') : qG fr σ o m' := fun x hx b e hF => by
 rw [K b hF (h x hx b e hF)]; exact h x hx b e hF
theorem oQ {P : Program} {fr : Option (Nat -> Prop)} {σ : Nat -> AV} {m m' : Mem} {o : Oper} (K : vR fr m m') (h : qG fr σ o.op m) : uT P fr σ m' o = uT P fr σ m o := by
 funext k
 have K' := K
 obtain ⟨dst, op, ty, pos, after, guard⟩ := o
 cases op with
 | load t a =>
  simp only [uT, ald]
  cases e : zS σ a with
  | ptr b f =>
   cases fr with
   | none =>
    have hb := K b trivial (h a (by simp [Op.operands]) b (by rw [e]; rfl) trivial)
    simp only [yD, kobj, hb]
   | some F =>
    by_cases hF : F b
    .have hb := K b hF (h a (by simp [Op.operands]) b (by rw [e]; rfl) hF)
     simp only [yD, kobj, hb]
    .simp only [yD, hF, false_and]
  | _ => rfl
 | convert s d x =>
  simp only [uT]
  split
  .cases e : zS σ x with
   | sl b f l c =>
    cases fr with
    | none =>
     have hb := K b trivial (h x (by simp [Op.operands]) b (by rw [e]; rfl) trivial)
     simp only [mP, kobj, hb]
    | some F =>
     by_cases hF : F b
     .have hb := K b hF (h x (by simp [Op.operands]) b (by rw [e]; rfl) hF)
      simp only [frS, mP, kobj, hb]
     .simp only [frS, hF, false_and]
   | flat u =>
    have e1 : ∀ k, mP (.flat u) m' k = mP (.flat u) m k := fun k => by unfold mP; split <;> simp_all
    simp only [e1]
   | _ => cases fr <;> rfl
  .rfl
 | lookup t x i ok =>
  cases fr with
  | some F => rfl
  | none =>
   have key : ∀ ls kn d n z (K : (Nat -> AV) -> Bool -> Prop), kU ls kn (zS σ x) d n z m' K = kU ls kn (zS σ x) d n z m K := fun ls kn d n z K => by
    cases e : zS σ x with
    | mp b =>
     have hb := K' b trivial (h x (by simp [Op.operands]) b (by rw [e]; rfl) trivial)
     simp only [kU, kobj, hb]
    | _ => rfl
   simp only [uT, tD, key]
 | _ => rfl
theorem zSi {P : Program} {fr : Option (Nat -> Prop)} {σ : Nat -> AV} {m : Mem} {o : Oper} {k : AV -> Prop} (h : uT P fr σ m o k) : qG fr σ o.op m := by
 obtain ⟨dst, op, ty, pos, after, guard⟩ := o
 cases op with
 | load t a =>
  have h : ald P t (zS σ a) m k := by
   cases fr with
   | none => exact h
   | some F => obtain ⟨b, f, e, h⟩ := uK h; exact h.2
  obtain ⟨b, f, e, h⟩ := uK h
  obtain ⟨y, hy, h⟩ := vP h
  intro x hx b' e' _
  simp only [Op.operands, List.mem_toArray, List.mem_singleton] at hx
  subst hx
  rw [e] at e'
  have e1 : b = b' := e'
  subst e1
  rw [hy]; simp
 | convert s d x =>
  simp only [uT] at h
  split at h
  rotate_left
  .exact h.elim
  have h : mP (zS σ x) m fun z => k (.flat (.string z)) := by
   cases fr with
   | none => exact h
   | some F =>
    dsimp only [frS] at h
    split at h
    .exact h.2
    .exact h
  intro y hy b' e' _
  simp only [Op.operands, List.mem_toArray, List.mem_singleton] at hy
  subst hy
  unfold mP at h
  split at h
  .rename_i b o n c e
   rw [e] at e'
   have e1 : b = b' := e'
   subst e1
   obtain ⟨y, hy, _⟩ := vP h
   rw [hy]; simp
  .rename_i e; rw [e] at e'; exact e'.elim
  .rename_i e; rw [e] at e'; exact e'.elim
  .exact h.elim
 | lookup t x i ok =>
  cases fr with
  | some F => exact h.elim
  | none =>
   have h : tD P t (zS σ x) (zS σ i) ok m k := h
   unfold tD at h
   split at h
   rotate_left
   .exact h.elim
   split at h
   rotate_left
   .exact h.elim
   split at h
   rotate_left
   .exact h.elim
   obtain ⟨kn, d, ek, h⟩ := vS h
   rcases yY h with ⟨_, h⟩ | ⟨_, h⟩
   rotate_left
   .exact h.elim
   obtain ⟨b, eb⟩ := zWg h
   rw [eb] at h
   unfold kU at h
   obtain ⟨y, hy, _⟩ := vP h
   intro z hz b' e' _
   simp only [Op.operands, List.mem_toArray, List.mem_cons, List.not_mem_nil, or_false] at hz
   rcases hz with rfl | rfl
   .rw [eb] at e'
    have e1 : b = b' := e'
    subst e1
    rw [hy]; simp
   .rw [ek] at e'; exact e'.elim
 | _ => exact h.elim
theorem zEq {P : Program} {fr : Option (Nat -> Prop)} {all : Array Oper} {σ : Nat -> AV} {m m' : Mem} {y : Oper} {v : AV} (K : vR fr m m') (hv : zF6 all σ y (uT P fr σ m y) fun u => u = v) :
  zF6 all σ y (uT P fr σ m' y) = zF6 all σ y (uT P fr σ m y) := by
 by_cases hl : qG fr σ y.op m
 .rw [oQ K hl]
 .have hno : ∀ k, ¬ uT P fr σ m y k := fun k hk => hl (zSi hk)
  funext k2
  unfold zF6 at hv ⊢
  cases hgu : y.guard with
  | none => rw [hgu] at hv; exact (hno _ hv).elim
  | some z =>
   obtain ⟨j, want⟩ := z
   rw [hgu] at hv
   dsimp only at hv ⊢
   cases hd : (all[j]?).bind (·.dst) with
   | none => rfl
   | some d =>
    rw [hd] at hv
    dsimp only at hv ⊢
    rcases nO (σ d) want with e | e | e
    .rw [e] at hv; exact (hno _ hv).elim
    .rw [e, e]
    .rw [e, e]
theorem yZ (σ : Nat -> AV) {x y : Option Tmp} (v u : AV) (h : ∀ d, x = some d -> y ≠ some d) : yG (yG σ x v) y u = yG (yG σ y u) x v := by
 cases x with
 | none => rfl
 | some d =>
  cases y with
  | none => rfl
  | some e =>
   have hne : d ≠ e := fun he => h d rfl (by rw [he])
   funext j
   simp only [yG, upd]
   by_cases c : j = e
   .subst c; simp [Ne.symm hne]
   .simp [c]
section
variable {P : Program} {w0 : World} {Γ : zZ} (HΓ : Sound P w0 Γ) {fr : Option (Nat -> Prop)} {all : Array Oper} {x y : Oper} (hap : y.apart all x = true)
include hap HΓ
theorem yNo (hx : isP P x.op = true) {σ : Nat -> AV} {m : Mem} {K : (Nat -> AV) -> Mem -> Prop} (h : xF P Γ fr all σ m y fun v m1 => xF P Γ fr all (yG σ y.dst v) m1 x fun u m2 => K (yG (yG σ y.dst v) x.dst u) m2) :
  xF P Γ fr all σ m x fun u m1 => xF P Γ fr all (yG σ x.dst u) m1 y fun v m2 => K (yG (yG σ x.dst u) y.dst v) m2 := by
 obtain ⟨h1, h2, h3⟩ := Oper.apart_spec hap
 simp only [xX P Γ fr _ x h1, xX P Γ fr _ y h3] at h ⊢
 simp only [zRe hx] at h ⊢
 rcases vZ (all := all) (σ := σ) (o := x) (nD P σ x) with ⟨u, hu⟩ | hn
 .simp only [hu] at h ⊢
  simpa only [yZ σ _ u h2] using h
 .exact ((tB HΓ fr all σ m y).strict ((tB HΓ fr all σ m y).mono _ _ (fun v m' => hn _) h)).elim
theorem zAy (hy : isP P y.op = true) {σ : Nat -> AV} {m : Mem} {K : (Nat -> AV) -> Mem -> Prop} (h : xF P Γ fr all σ m y fun v m1 => xF P Γ fr all (yG σ y.dst v) m1 x fun u m2 => K (yG (yG σ y.dst v) x.dst u) m2) :
  xF P Γ fr all σ m x fun u m1 => xF P Γ fr all (yG σ x.dst u) m1 y fun v m2 => K (yG (yG σ x.dst u) y.dst v) m2 := by
 obtain ⟨h1, h2, h3⟩ := Oper.apart_spec hap
 simp only [xX P Γ fr _ x h1, xX P Γ fr _ y h3] at h ⊢
 simp only [zRe hy] at h ⊢
 rcases vZ (all := all) (σ := σ) (o := y) (nD P σ y) with ⟨v, hv⟩ | hn
 .simp only [hv] at h ⊢
  simpa only [yZ σ v _ h2] using h
 .exact (hn _ h).elim
theorem yIx (hx : bF P x.op = true) (hy : bF P y.op = true) {σ : Nat -> AV} {m : Mem} {K : (Nat -> AV) -> Mem -> Prop} (h : xF P Γ fr all σ m y fun v m1 => xF P Γ fr all (yG σ y.dst v) m1 x fun u m2 => K (yG (yG σ y.dst v) x.dst u) m2) :
  xF P Γ fr all σ m x fun u m1 => xF P Γ fr all (yG σ x.dst u) m1 y fun v m2 => K (yG (yG σ x.dst u) y.dst v) m2 := by
 obtain ⟨h1, h2, h3⟩ := Oper.apart_spec hap
 simp only [xX P Γ fr _ x h1, xX P Γ fr _ y h3] at h ⊢
 simp only [pP hx, pP hy] at h ⊢
 rcases vZ (all := all) (σ := σ) (o := y) (uA P fr σ m y) with ⟨v, hv⟩ | hn
 .rcases vZ (all := all) (σ := σ) (o := x) (uA P fr σ m x) with ⟨u, hu⟩ | hn
  .simp only [hv, hu] at h ⊢
   simpa only [yZ σ v u h2] using h
  .simp only [hv] at h; exact (hn _ h).elim
 .exact (hn _ h).elim
theorem yIa (hx : bF P x.op = true) (hy : lT y.op = true) {σ : Nat -> AV} {m : Mem} {K : (Nat -> AV) -> Mem -> Prop} (hlow : qG fr σ x.op m) (h : xF P Γ fr all σ m y fun v m1 => xF P Γ fr all (yG σ y.dst v) m1 x fun u m2 => K (yG (yG σ y.dst v) x.dst u) m2) :
  xF P Γ fr all σ m x fun u m1 => xF P Γ fr all (yG σ x.dst u) m1 y fun v m2 => K (yG (yG σ x.dst u) y.dst v) m2 := by
 obtain ⟨h1, h2, h3⟩ := Oper.apart_spec hap
 simp only [xX P Γ fr _ x h1, xX P Γ fr _ y h3] at h ⊢
 rw [pP hx]
 simp only [pP hx] at h
 rcases pB (P := P) (Γ := Γ) (fr := fr) (all := all) (σ := σ) hy with ⟨v, xb, hv⟩ | ⟨v, hv⟩ | hn
 .simp only [hv] at h ⊢
  rcases vZ (all := all) (σ := σ) (o := x) (uA P fr σ m x) with ⟨u, hu⟩ | hn
  .rw [hu]
   intro b hb
   have := h b hb
   dsimp only at this
   rw [oQ (vR.set fr hb xb) hlow, hu, yZ σ _ u h2] at this
   exact this
  .obtain ⟨b, hb⟩ := m.fresh
   have := h b hb
   dsimp only at this
   rw [oQ (vR.set fr hb xb) hlow] at this
   exact (hn _ this).elim
 .simp only [hv] at h ⊢
  rcases vZ (all := all) (σ := σ) (o := x) (uA P fr σ m x) with ⟨u, hu⟩ | hn
  .simp only [hu] at h ⊢; rw [yZ σ v u h2] at h; exact h
  .exact (hn _ h).elim
 .exact (hn _ _ h).elim
theorem yIu (hx : lT x.op = true) (hy : bF P y.op = true) {σ : Nat -> AV} {m : Mem} {K : (Nat -> AV) -> Mem -> Prop} (h : xF P Γ fr all σ m y fun v m1 => xF P Γ fr all (yG σ y.dst v) m1 x fun u m2 => K (yG (yG σ y.dst v) x.dst u) m2) :
  xF P Γ fr all σ m x fun u m1 => xF P Γ fr all (yG σ x.dst u) m1 y fun v m2 => K (yG (yG σ x.dst u) y.dst v) m2 := by
 obtain ⟨h1, h2, h3⟩ := Oper.apart_spec hap
 simp only [xX P Γ fr _ x h1, xX P Γ fr _ y h3] at h ⊢
 rw [pP hy] at h
 simp only [pP hy]
 rcases vZ (all := all) (σ := σ) (o := y) (uA P fr σ m y) with ⟨v, hv⟩ | hn
 .rw [hv] at h
  rcases pB (P := P) (Γ := Γ) (fr := fr) (all := all) (σ := σ) hx with ⟨u, xb, hu⟩ | ⟨u, hu⟩ | hn
  .simp only [hu] at h ⊢
   intro b hb
   rw [zEq (vR.set fr hb xb) ((hv _).2 rfl), hv, <- yZ σ v _ h2]
   exact h b hb
  .simp only [hu] at h ⊢
   rw [hv, <- yZ σ v _ h2]; exact h
  .exact (hn _ _ h).elim
 .exact (hn _ h).elim
theorem yHl (hx : lT x.op = true) (hy : lT y.op = true) {σ : Nat -> AV} {m : Mem} {K : (Nat -> AV) -> Mem -> Prop} (h : xF P Γ fr all σ m y fun v m1 => xF P Γ fr all (yG σ y.dst v) m1 x fun u m2 => K (yG (yG σ y.dst v) x.dst u) m2) :
  xF P Γ fr all σ m x fun u m1 => xF P Γ fr all (yG σ x.dst u) m1 y fun v m2 => K (yG (yG σ x.dst u) y.dst v) m2 := by
 obtain ⟨h1, h2, h3⟩ := Oper.apart_spec hap
 simp only [xX P Γ fr _ x h1, xX P Γ fr _ y h3] at h ⊢
 rcases pB (P := P) (Γ := Γ) (fr := fr) (all := all) (σ := σ) hy with ⟨v, yb, hv⟩ | ⟨v, hv⟩ | hn
 .rcases pB (P := P) (Γ := Γ) (fr := fr) (all := all) (σ := σ) hx with ⟨u, xb, hu⟩ | ⟨u, hu⟩ | hn
  .simp only [hv, hu] at h ⊢
   intro b1 hb1 b2 hb2
   have hne : b2 ≠ b1 := fun e => by subst e; simp [Mem.set, upd] at hb2
   have hb2' : m.obj b2 = none := by simpa [Mem.set, upd, hne] using hb2
   have := h b2 hb2' b1 (by simpa [Mem.set, upd, Ne.symm hne] using hb1)
   dsimp only at this
   rw [yZ σ _ _ h2] at this
   have e : (m.set b2 yb).set b1 xb = (m.set b1 xb).set b2 yb := by
    simp only [Mem.set, Mem.mk.injEq]
    funext j
    simp only [upd]
    by_cases c1 : j = b1
    .subst c1; simp [Ne.symm hne]
    .simp [c1]
   rw [e] at this
   exact this
  .simp only [hv, hu] at h ⊢
   intro b hb
   rw [<- yZ σ _ _ h2]; exact h b hb
  .simp only [hv] at h
   obtain ⟨b, hb⟩ := m.fresh
   exact (hn _ _ (h b hb)).elim
 .simp only [hv] at h
  have := h
  refine (tB HΓ fr all σ m x).mono _ _ (fun u m2 h => ?_) this
  refine (hv m2 _).2 ?_
  rw [<- yZ σ _ _ h2]; exact h
 .exact (hn _ _ h).elim
end
section
variable {P : Program} {w0 : World} {Γ : zZ} (HΓ : Sound P w0 Γ) {F : Nat -> Prop} {all : Array Oper} {x y : Oper} (hap : y.apart all x = true)
include hap HΓ
theorem yL0 (hx : bF P x.op = true) (hy : kQ y.op = true) (hfree : pC P all y = false) {σ : Nat -> AV} {m : Mem} {K : (Nat -> AV) -> Mem -> Prop} (hlow : qG (some F) σ x.op m) (h : xF P Γ (some F) all σ m y fun v m1 => xF P Γ (some F) all (yG σ y.dst v) m1 x fun u m2 => K (yG (yG σ y.dst v) x.dst u) m2) :
  xF P Γ (some F) all σ m x fun u m1 => xF P Γ (some F) all (yG σ x.dst u) m1 y fun v m2 => K (yG (yG σ x.dst u) y.dst v) m2 := by
 obtain ⟨h1, h2, h3⟩ := Oper.apart_spec hap
 simp only [xX P Γ (some F) _ x h1, xX P Γ (some F) _ y h3] at h ⊢
 rw [pP hx]
 simp only [pP hx] at h
 rcases hU HΓ (P := P) (Γ := Γ) (F := F) (all := all) (σ := σ) hy hfree with ⟨G, HG, hv⟩ | ⟨v, hv⟩ | hn
 .simp only [hv] at h ⊢
  rcases vZ (all := all) (σ := σ) (o := x) (uA P (some F) σ m x) with ⟨u, hu⟩ | hn
  .rw [hu]
   refine HG.mono _ _ _ (fun v m1 h => ⟨h.1, ?_⟩) h
   have hK : vR (some F) m m1 := fun b hF hb => h.1 b hF hb
   have h := h.2
   rw [oQ hK hlow, hu, yZ σ v u h2] at h
   exact h
  .refine (HG.strict m (HG.mono _ _ _ (fun v m1 h => ?_) h)).elim
   have hK : vR (some F) m m1 := fun b hF hb => h.1 b hF hb
   have h' := h.2
   rw [oQ hK hlow] at h'
   exact hn _ h'
 .simp only [hv] at h ⊢
  rcases vZ (all := all) (σ := σ) (o := x) (uA P (some F) σ m x) with ⟨u, hu⟩ | hn
  .simp only [hu] at h ⊢; rw [yZ σ v u h2] at h; exact h
  .exact (hn _ h).elim
 .exact (hn _ _ h).elim
theorem yK5 (hx : kQ x.op = true) (hfree : pC P all x = false) (hy : bF P y.op = true) {σ : Nat -> AV} {m : Mem} {K : (Nat -> AV) -> Mem -> Prop} (h : xF P Γ (some F) all σ m y fun v m1 => xF P Γ (some F) all (yG σ y.dst v) m1 x fun u m2 => K (yG (yG σ y.dst v) x.dst u) m2) :
  xF P Γ (some F) all σ m x fun u m1 => xF P Γ (some F) all (yG σ x.dst u) m1 y fun v m2 => K (yG (yG σ x.dst u) y.dst v) m2 := by
 obtain ⟨h1, h2, h3⟩ := Oper.apart_spec hap
 simp only [xX P Γ (some F) _ x h1, xX P Γ (some F) _ y h3] at h ⊢
 rw [pP hy] at h
 simp only [pP hy]
 rcases vZ (all := all) (σ := σ) (o := y) (uA P (some F) σ m y) with ⟨v, hv⟩ | hn
 .rw [hv] at h
  rcases hU HΓ (P := P) (Γ := Γ) (F := F) (all := all) (σ := σ) hx hfree with ⟨G, HG, hu⟩ | ⟨u, hu⟩ | hn
  .simp only [hu] at h ⊢
   refine HG.mono _ _ _ (fun u m1 h => ⟨h.1, ?_⟩) h
   have hK : vR (some F) m m1 := fun b hF hb => h.1 b hF hb
   rw [zEq hK ((hv _).2 rfl), hv, <- yZ σ v _ h2]
   exact h.2
  .simp only [hu] at h ⊢
   rw [hv, <- yZ σ v _ h2]; exact h
  .exact (hn _ _ h).elim
 .exact (hn _ h).elim
theorem yJ0 (hx : lT x.op = true) (hy : kQ y.op = true) {σ : Nat -> AV} {m : Mem} {K : (Nat -> AV) -> Mem -> Prop} (h : xF P Γ (some F) all σ m y fun v m1 => xF P Γ (some F) all (yG σ y.dst v) m1 x fun u m2 => K (yG (yG σ y.dst v) x.dst u) m2) :
  xF P Γ (some F) all σ m x fun u m1 => xF P Γ (some F) all (yG σ x.dst u) m1 y fun v m2 => K (yG (yG σ x.dst u) y.dst v) m2 := by
 obtain ⟨h1, h2, h3⟩ := Oper.apart_spec hap
 simp only [xX P Γ (some F) _ x h1, xX P Γ (some F) _ y h3] at h ⊢
 cases hfree : pC P all y with
 | true =>
  rcases zYg (P := P) (Γ := Γ) (F := F) (all := all) (σ := σ) hfree with ⟨G, HG, hv⟩ | ⟨v, hv⟩ | hn
  .rcases pB (P := P) (Γ := Γ) (fr := some F) (all := all) (σ := σ) hx with ⟨u, xb, hu⟩ | ⟨u, hu⟩ | hn
   .simp only [hv, hu] at h ⊢
    intro b hb
    refine HG.mono _ _ _ (fun v m2 h => ?_) (HG.frame _ _ h b xb hb)
    obtain ⟨m1, rfl, hb1, h⟩ := h
    rw [<- yZ σ v _ h2]; exact h b hb1
   .simp only [hv, hu] at h ⊢
    refine HG.mono _ _ _ (fun v m1 h => ?_) h
    rw [<- yZ σ v _ h2]; exact h
   .simp only [hv] at h
    exact (HG.strict m (HG.mono _ _ _ (fun v m1 h => hn _ _ h) h)).elim
  .simp only [hv] at h ⊢
   refine (tB HΓ (some F) all σ m x).mono _ _ (fun u m2 h => ?_) h
   rw [<- yZ σ v _ h2]; exact h
  .exact (hn _ _ h).elim
 | false =>
 rcases hU HΓ (P := P) (Γ := Γ) (F := F) (all := all) (σ := σ) hy hfree with ⟨G, HG, hv⟩ | ⟨v, hv⟩ | hn
 .rcases pB (P := P) (Γ := Γ) (fr := some F) (all := all) (σ := σ) hx with ⟨u, xb, hu⟩ | ⟨u, hu⟩ | hn
  .simp only [hv, hu] at h ⊢
   intro b hb
   refine HG.mono _ _ _ (fun v m2 h => ?_) (HG.frame _ _ h b xb hb)
   obtain ⟨m1, rfl, hb1, hK, h⟩ := h
   refine ⟨fun b' hF hb' => ?_, by rw [<- yZ σ v _ h2]; exact h b hb1⟩
   by_cases c : b' = b
   .subst c; simp [Mem.set, upd]
   .have := hK b' hF (by simpa [Mem.set, upd, c] using hb')
    simpa [Mem.set, upd, c] using this
  .simp only [hv, hu] at h ⊢
   refine HG.mono _ _ _ (fun v m1 h => ⟨h.1, ?_⟩) h
   rw [<- yZ σ v _ h2]; exact h.2
  .simp only [hv] at h
   exact (HG.strict m (HG.mono _ _ _ (fun v m1 h => hn _ _ h.2) h)).elim
 .simp only [hv] at h ⊢
  refine (tB HΓ (some F) all σ m x).mono _ _ (fun u m2 h => ?_) h
  rw [<- yZ σ v _ h2]; exact h
 .exact (hn _ _ h).elim
end
end Go.Proofs.YtkiggdgphbkneaaGreat.Am
