/- Regions that draw their order: where operations that no edge orders don't touch one another, the text's order tells of each order. No program in sight. -/
import Derived.Test.YtkiggdgphbkneaaGreatTopRefillsX8
namespace Go.Proofs.YtkiggdgphbkneaaGreat.Am
set_option linter.unusedVariables false
set_option linter.unusedSimpArgs false
set_option linter.unusedSectionVars false
def isP (P : Program) (o : Op) : Bool := match clsOf P o with | .P => true | _ => false
def isL (P : Program) (o : Op) : Bool := match clsOf P o with | .L => true | _ => false
def isCA (o : Op) : Bool := isCall o || isApp o
def pairB (P : Program) (fz : Bool) (all : Array Oper) (x y : Oper) : Bool :=
 x.apart all y && (isP P x.op || isP P y.op || ((isL P x.op || isN x.op) && (isL P y.op || isN y.op)) || (fz && ((isCA x.op && ((isL P y.op && !freeS P all x) || isN y.op)) || (isL P x.op && isCA y.op && !freeS P all y))))
def calmB (P : Program) (fz : Bool) (all : Array Oper) : Bool :=
 (List.range all.size).all fun i => match all[i]? with
  | none => true
  | some x => (x.after.all fun e => !Region.binds .any e || decide (e.on < i)) &&
   (List.range i).all fun j => match all[j]? with
    | none => true
    | some y => match (clo all i).testBit j with
     | true => x.after.any fun e => Region.binds .any e && (e.on == j || (decide (j < e.on) && (clo all e.on).testBit j))
     | false => pairB P fz all y x
theorem aval_put {σ : Nat → AV} {d : Option Tmp} {v : AV} {x : Operand} (h : ∀ t, d = some t → x ≠ .tmp t) : aval (putA σ d v) x = aval σ x := by
 cases d with
 | none => rfl
 | some d =>
  cases x with
  | tmp t =>
   have hne : t ≠ d := fun e => h d rfl (by rw [e])
   simp [putA, aval, upd, hne]
  | _ => rfl
theorem flatOp_congr (P : Program) {σ σ' : Nat → AV} (o : Oper) (hs : ∀ cs b, o.op ≠ .select cs b) (h : ∀ x ∈ o.op.operands, aval σ x = aval σ' x) : flatOp P σ o = flatOp P σ' o := by
 funext k
 unfold flatOp
 have e1 : (o.op.operands.all fun x => (aval σ x).isFlat) = (o.op.operands.all fun x => (aval σ' x).isFlat) := by
  rw [Bool.eq_iff_iff, Array.all_eq_true_iff_forall_mem, Array.all_eq_true_iff_forall_mem]
  exact ⟨fun H x hx => by rw [← h x hx]; exact H x hx, fun H x hx => by rw [h x hx]; exact H x hx⟩
 have e2 : execOp (fun x => (aval σ x).val) o = execOp (fun x => (aval σ' x).val) o := execOp_congr o hs fun x hx => by rw [h x hx]
 rw [e1, e2]
theorem parts_congr {σ σ' : Nat → AV} (ps : Array (Nat × Operand)) (h : ∀ x ∈ (ps.toList.map (·.2)).toArray, aval σ x = aval σ' x) : (ps.toList.map fun p => (p.1, aval σ p.2)) = ps.toList.map fun p => (p.1, aval σ' p.2) :=
 List.map_congr_left fun p hp => by
  rw [h p.2 (by simp only [List.mem_toArray, List.mem_map]; exact ⟨p, hp, rfl⟩)]
theorem apure_congr (P : Program) {σ σ' : Nat → AV} (o : Oper) (h : ∀ x ∈ o.op.operands, aval σ x = aval σ' x) : apure P σ o = apure P σ' o := by
 obtain ⟨dst, op, ty, pos, after, guard⟩ := o
 cases op with
 | build t ps => funext k; simp only [apure]; rw [parts_congr ps h]
 | call c =>
  obtain ⟨callee, args, argTypes⟩ := c
  cases callee with
  | builtin b =>
   cases b with
   | len =>
    funext k
    simp only [apure]
    split
    ·rename_i t x ht hx
     have e : aval σ x = aval σ' x := h x (by
      have hargs : args = #[x] := by apply Array.toList_inj.1; simpa using hx
      subst hargs; simp [Op.operands, Call.operands])
     rw [e]
    ·rfl
   | min => funext k; simp only [apure]; rw [flatOp_congr P _ (by simp) h]
   | max => funext k; simp only [apure]; rw [flatOp_congr P _ (by simp) h]
   | _ => rfl
  | _ => rfl
 | binOp op t x y yt =>
  have hf := flatOp_congr P ⟨dst, .binOp op t x y yt, ty, pos, after, guard⟩ (by simp) h
  simp only [Op.operands] at h
  funext k
  simp only [apure]
  rw [h x (by simp), h y (by simp), hf]
 | index t x i => simp only [Op.operands] at h; funext k; simp only [apure]; rw [h x (by simp), h i (by simp)]
 | unOp op t x => funext k; simp only [apure]; rw [flatOp_congr P _ (by simp) h]
 | convert s d x => funext k; simp only [apure]; rw [flatOp_congr P _ (by simp) h]
 | move x => simp only [Op.operands] at h; funext k; simp only [apure]; rw [h x (by simp)]
 | assign x => simp only [Op.operands] at h; funext k; simp only [apure]; rw [h x (by simp)]
 | pick c x y => simp only [Op.operands] at h; funext k; simp only [apure]; rw [h c (by simp), h x (by simp), h y (by simp)]
 | nilCheck x => simp only [Op.operands] at h; funext k; simp only [apure]; rw [h x (by simp)]
 | fieldAddr t x f => simp only [Op.operands] at h; funext k; simp only [apure]; rw [h x (by simp)]
 | field t x f => simp only [Op.operands] at h; funext k; simp only [apure]; rw [h x (by simp)]
 | indexAddr t x i => simp only [Op.operands] at h; funext k; simp only [apure]; rw [h x (by simp), h i (by simp)]
 | extract x i => simp only [Op.operands] at h; funext k; simp only [apure]; rw [h x (by simp)]
 | slice t x low high mx =>
  cases mx with
  | some z =>
   simp only [Op.operands] at h
   have hx := h x (by simp)
   have hz := h z (by simp)
   cases low with
   | none => cases high with
    | none => funext k; simp only [apure, aslice3, koptI]; rw [hx, hz]
    | some y => funext k; simp only [apure, aslice3, koptI]; rw [hx, h y (by simp), hz]
   | some y => cases high with
    | none => funext k; simp only [apure, aslice3, koptI]; rw [hx, h y (by simp), hz]
    | some u => funext k; simp only [apure, aslice3, koptI]; rw [hx, h y (by simp), h u (by simp), hz]
  | none =>
   simp only [Op.operands] at h
   have hx := h x (by simp)
   cases low with
   | none => cases high with
    | none => funext k; simp only [apure, aslice, koptI]; rw [hx]
    | some z => funext k; simp only [apure, aslice, koptI]; rw [hx, h z (by simp)]
   | some y => cases high with
    | none => funext k; simp only [apure, aslice, koptI]; rw [hx, h y (by simp)]
    | some z => funext k; simp only [apure, aslice, koptI]; rw [hx, h y (by simp), h z (by simp)]
 | makeFunc f first cap =>
  funext k
  simp only [apure]
  rw [List.map_congr_left (f := aval σ) (g := aval σ') (l := cap.toList) fun x hx => h x (by simp only [Op.operands]; simp; exact .inr (by simpa using hx))]
 | _ => rfl
theorem aload_congr (P : Program) (fr : Option (Nat → Prop)) {σ σ' : Nat → AV} (m : Mem) (o : Oper) (h : ∀ x ∈ o.op.operands, aval σ x = aval σ' x) : aload P fr σ m o = aload P fr σ' m o := by
 obtain ⟨dst, op, ty, pos, after, guard⟩ := o
 cases op with
 | load t a => simp only [Op.operands] at h; funext k; simp only [aload]; rw [h a (by simp)]
 | convert s d x => simp only [Op.operands] at h; funext k; simp only [aload]; rw [h x (by simp)]
 | lookup t x i ok => simp only [Op.operands] at h; funext k; simp only [aload]; rw [h x (by simp), h i (by simp)]
 | _ => rfl
theorem amod_congr (P : Program) (Γ : Env) (fr : Option (Nat → Prop)) {σ σ' : Nat → AV} (m : Mem) (o : Oper) (h : ∀ x ∈ o.op.operands, aval σ x = aval σ' x) : amod P Γ fr σ m o = amod P Γ fr σ' m o := by
 obtain ⟨dst, op, ty, pos, after, guard⟩ := o
 cases op with
 | box e x => simp only [Op.operands] at h; funext k; simp only [amod]; rw [h x (by simp)]
 | buildSlice t len ps => funext k; simp only [amod]; rw [parts_congr ps h]
 | makeSlice t l c => simp only [Op.operands] at h; funext k; simp only [amod]; rw [h l (by simp), h c (by simp)]
 | store t a v => simp only [Op.operands] at h; funext k; simp only [amod]; rw [h a (by simp), h v (by simp)]
 | makeMap t r => cases r <;> rfl
 | makeChan t x => simp only [Op.operands] at h; funext k; simp only [amod]; rw [h x (by simp)]
 | mapUpdate t x i v => simp only [Op.operands] at h; funext k; simp only [amod]; rw [h x (by simp), h i (by simp), h v (by simp)]
 | call c =>
  obtain ⟨callee, args, argTypes⟩ := c
  cases callee with
  | value x =>
   cases x with
   | func f =>
    funext k
    simp only [amod]
    rw [List.map_congr_left (f := aval σ) (g := aval σ') fun x hx => h x (by simp only [Op.operands, Call.operands]; simp; exact .inr (by simpa using hx))]
   | tmp t =>
    funext k
    simp only [amod]
    have ht : σ t = σ' t := h (.tmp t) (by simp [Op.operands, Call.operands])
    rw [List.map_congr_left (f := aval σ) (g := aval σ') fun x hx => h x (by simp only [Op.operands, Call.operands]; simp; exact .inr (by simpa using hx)), ht]
   | _ => rfl
  | builtin b =>
   have e : args.toList.map (aval σ) = args.toList.map (aval σ') := List.map_congr_left fun x hx => h x (by simp only [Op.operands, Call.operands]; simpa using hx)
   cases b with
   | append => funext k; cases fr <;> (simp only [amod]; rw [e])
   | copy => funext k; simp only [amod]; rw [e]
   | clear => funext k; simp only [amod]; rw [e]
   | delete => funext k; simp only [amod]; rw [e]
   | _ => rfl
  | _ => rfl
 | _ => rfl
theorem opK_congr (P : Program) (Γ : Env) (fr : Option (Nat → Prop)) {σ σ' : Nat → AV} (m : Mem) (o : Oper) (h : ∀ x ∈ o.op.operands, aval σ x = aval σ' x) : opK P Γ fr σ m o = opK P Γ fr σ' m o := by
 funext k
 unfold opK
 split
 ·rw [apure_congr P o h]
 ·rw [aload_congr P fr m o h]
 ·rw [amod_congr P Γ fr m o h]
theorem gopK_put (P : Program) (Γ : Env) (fr : Option (Nat → Prop)) {all : Array Oper} {σ : Nat → AV} {d : Option Tmp} {v : AV} (m : Mem) (o : Oper) (h : ∀ t, d = some t → t ∉ o.looksAt all) : gopK P Γ fr all (putA σ d v) m o = gopK P Γ fr all σ m o := by
 funext k
 have hop : opK P Γ (frOf P all fr o) (putA σ d v) m o = opK P Γ (frOf P all fr o) σ m o := opK_congr P Γ _ m o fun x hx => aval_put fun t ht e => h t ht (by
  subst e
  exact List.mem_append_left _ (List.mem_filterMap.2 ⟨.tmp t, by simpa using hx, rfl⟩))
 unfold gopK
 split
 ·rw [hop]
 ·rename_i j want e
  split
  ·rfl
  ·rename_i t ht
   have : (putA σ d v) t = σ t := by
    cases d with
    | none => rfl
    | some d =>
     have hne : t ≠ d := fun ee => h d rfl (by
      subst ee
      refine List.mem_append_right _ ?_
      rw [e]
      simp [ht])
     simp [putA, upd, hne]
   rw [this, hop]
def gval (all : Array Oper) (σ : Nat → AV) (o : Oper) (F : (AV → Prop) → Prop) (k : AV → Prop) : Prop :=
 match o.guard with
 | none => F k
 | some (j, want) => match (all[j]?).bind (·.dst) with
  | none => False
  | some d => kgd (σ d) want (F k) (k (.flat undef))
theorem det_gval {all : Array Oper} {σ : Nat → AV} {o : Oper} {F : (AV → Prop) → Prop} (h : Det F) : Det (gval all σ o F) := by
 unfold gval
 cases o.guard with
 | none => exact h
 | some x =>
  obtain ⟨j, want⟩ := x
  dsimp only
  cases (all[j]?).bind (·.dst) with
  | none => exact .fail
  | some d =>
   rcases kgd_ways (σ d) want with e | e | e
   ·simp only [e]; exact h
   ·simp only [e]; exact .ret _
   ·simp only [e]; exact .fail
theorem gopK_P {P : Program} {Γ : Env} {fr : Option (Nat → Prop)} {all : Array Oper} {σ : Nat → AV} {m : Mem} {o : Oper} (h : isP P o.op = true) (k : KV) : gopK P Γ fr all σ m o k = gval all σ o (apure P σ o) fun v => k v m := by
 have e : clsOf P o.op = .P := by unfold isP at h; split at h <;> first | assumption | cases h
 unfold gopK gval opK
 rw [e]
 cases o.guard with
 | none => rfl
 | some x => rfl
theorem frOf_ns {P : Program} {all : Array Oper} {fr : Option (Nat → Prop)} {o : Oper} (h : isSt o.op = false) : frOf P all fr o = fr := by
 unfold frOf freeS
 rw [h]
 cases fr <;> rfl
theorem frOf_nf {P : Program} {all : Array Oper} {fr : Option (Nat → Prop)} {o : Oper} (h : freeS P all o = false) : frOf P all fr o = fr := by
 unfold frOf
 rw [h]
 cases fr <;> rfl
theorem isL_ns {P : Program} {o : Op} (h : isL P o = true) : isSt o = false := by
 cases o <;> first | rfl | (simp [isL, clsOf] at h; done)
theorem gopK_L {P : Program} {Γ : Env} {fr : Option (Nat → Prop)} {all : Array Oper} {σ : Nat → AV} {m : Mem} {o : Oper} (h : isL P o.op = true) (k : KV) : gopK P Γ fr all σ m o k = gval all σ o (aload P fr σ m o) fun v => k v m := by
 have e : clsOf P o.op = .L := by unfold isL at h; split at h <;> first | assumption | cases h
 unfold gopK gval opK
 rw [frOf_ns (isL_ns h), e]
 cases o.guard with
 | none => rfl
 | some x => rfl
theorem new_gopK {P : Program} {Γ : Env} {fr : Option (Nat → Prop)} {all : Array Oper} {σ : Nat → AV} {o : Oper} (h : isN o.op = true) : NewAll fun m k => gopK P Γ fr all σ m o k := by
 have e : clsOf P o.op = .M := by
  obtain ⟨dst, op, ty, pos, after, guard⟩ := o
  cases op <;> first | rfl | (simp [isN] at h)
 have h1 : NewAll fun m k => opK P Γ (frOf P all fr o) σ m o k := by
  have := new_amod P Γ (frOf P all fr o) σ o h
  unfold opK; rw [e]; exact this
 unfold gopK
 cases o.guard with
 | none => exact h1
 | some x =>
  obtain ⟨j, want⟩ := x
  dsimp only
  cases (all[j]?).bind (·.dst) with
  | none => exact .inr (.inr fun m k h => h)
  | some d =>
   dsimp only
   rcases kgd_ways (σ d) want with e | e | e
   ·simp only [e]; exact h1
   ·simp only [e]; exact .inr (.inl ⟨_, fun m k => Iff.rfl⟩)
   ·simp only [e]; exact .inr (.inr fun m k h => h)
structure CallLike (G : Mem → KV → Prop) : Prop where
 mono : ∀ m (k k' : KV), (∀ v m', k v m' → k' v m') → G m k → G m k'
 strict : ∀ m, ¬ G m fun _ _ => False
 frame : ∀ m k, G m k → ∀ b x, m.obj b = none → G (m.set b x) fun v m' => ∃ m1, m' = m1.set b x ∧ m1.obj b = none ∧ k v m1
theorem callLike_app (P : Program) (args : List AV) (ts : List TypeId) : CallLike fun m k => aappend P args ts m k := by
 refine ⟨fun m k k' hk => (hon_aappend P args ts m).mono k k' hk, fun m => (hon_aappend P args ts m).strict, fun m k h b x hb => ?_⟩
 unfold aappend at h ⊢
 split at h
 rotate_left
 ·exact h.elim
 split at h
 rotate_left
 ·exact h.elim
 split at h
 rotate_left
 ·exact h.elim
 split at h
 ·exact kite_mono (appS_frame b x hb) id h
 ·split at h
  ·exact kite_mono (appZ_frame b x hb) id h
  ·exact h.elim
theorem callLike_ast (P : Program) (t : TypeId) (a v : AV) : CallLike fun m k => ast P t a v m fun m' => k .junk m' := by
 refine ⟨fun m k k' hk h => ast_mono (fun m' h => hk _ _ h) h, fun m h => ?_, fun m k h b x hb => ast_frame (k := fun m' => k .junk m') h b x hb⟩
 rcases det_ast P t a v m with ⟨u, hu⟩ | hn
 ·exact (hu _).1 h
 ·exact hn _ h
theorem call_gopK {P : Program} {w0 : World} {Γ : Env} (HΓ : Sound P w0 Γ) {F : Nat → Prop} {all : Array Oper} {σ : Nat → AV} {o : Oper} (h : isCA o.op = true) (hfree : freeS P all o = false) :
  (∃ G : Mem → KV → Prop, CallLike G ∧ ∀ m k, gopK P Γ (some F) all σ m o k ↔ G m fun v m' => KeepsIn F m m' ∧ k v m') ∨ (∃ v, ∀ m k, gopK P Γ (some F) all σ m o k ↔ k v m) ∨ ∀ m k, ¬ gopK P Γ (some F) all σ m o k := by
 have cl : ∀ f args, CallLike fun m k => Γ f args m k := fun f args => ⟨fun m k k' hk => HΓ.mono f args m k k' hk, fun m => HΓ.strict f args m, fun m k h => HΓ.frame f args m k h⟩
 have h1 : (∃ G : Mem → KV → Prop, CallLike G ∧ ∀ m k, opK P Γ (some F) σ m o k ↔ G m fun v m' => KeepsIn F m m' ∧ k v m') ∨ ∀ m k, ¬ opK P Γ (some F) σ m o k := by
  obtain ⟨dst, op, ty, pos, after, guard⟩ := o
  cases op with
  | call c =>
   obtain ⟨callee, args, argTypes⟩ := c
   cases callee with
   | value x =>
    cases x with
    | func f => exact .inl ⟨_, cl f _, fun m k => Iff.rfl⟩
    | tmp t =>
     rcases kfunv_or (σ t) with ⟨f, xs, hf⟩ | hn
     ·have C := cl f (args.toList.map (aval σ) ++ xs)
      refine .inl ⟨fun m k => Γ f (args.toList.map (aval σ) ++ xs) m fun v m' => kres P ty v fun v' => k v' m', ⟨fun m k k' hk => C.mono m _ _ fun v m' h => kres_mono (fun v hv => hk v m' hv) h, fun m h => C.strict m (C.mono m _ _ (fun v m' h => kres_ok (k := fun _ => False) h) h), fun m k h b x hb => C.mono _ _ _ (fun v m' h => ?_) (C.frame m _ h b x hb)⟩, fun m k => ?_⟩
      ·obtain ⟨m1, e1, e2, h⟩ := h
       exact kres_mono (fun v hv => ⟨m1, e1, e2, hv⟩) h
      ·show (kfunv (σ t) fun f xs => Γ f (args.toList.map (aval σ) ++ xs) m fun v m' => KeepsIn F m m' ∧ kres P ty v fun v' => k v' m') ↔ _
       rw [hf]
       exact ⟨C.mono m _ _ fun v m' h => kres_and.1 h, C.mono m _ _ fun v m' h => kres_and.2 h⟩
     ·exact .inr fun m k h => hn (fun f xs => Γ f (args.toList.map (aval σ) ++ xs) m fun v m' => KeepsIn F m m' ∧ kres P ty v fun v' => k v' m') h
    | _ => exact .inr fun m k h => h
   | builtin b =>
    cases b <;> first | (simp [isCA, isCall, isApp] at h; done) | exact .inl ⟨_, callLike_app P _ _, fun m k => Iff.rfl⟩
   | _ => simp [isCA, isCall, isApp] at h
  | store t a v => exact .inl ⟨_, callLike_ast P t (aval σ a) (aval σ v), fun m k => Iff.rfl⟩
  | _ => simp [isCA, isCall, isApp] at h
 unfold gopK
 rw [frOf_nf hfree]
 cases o.guard with
 | none => exact h1.imp_right .inr
 | some x =>
  obtain ⟨j, want⟩ := x
  dsimp only
  cases (all[j]?).bind (·.dst) with
  | none => exact .inr (.inr fun m k h => h)
  | some d =>
   dsimp only
   rcases kgd_ways (σ d) want with e | e | e
   ·simp only [e]; exact h1.imp_right .inr
   ·simp only [e]; exact .inr (.inl ⟨_, fun m k => Iff.rfl⟩)
   ·simp only [e]; exact .inr (.inr fun m k h => h)
theorem free_gopK {P : Program} {Γ : Env} {F : Nat → Prop} {all : Array Oper} {σ : Nat → AV} {o : Oper} (hfree : freeS P all o = true) :
  (∃ G : Mem → KV → Prop, CallLike G ∧ ∀ m k, gopK P Γ (some F) all σ m o k ↔ G m k) ∨ (∃ v, ∀ m k, gopK P Γ (some F) all σ m o k ↔ k v m) ∨ ∀ m k, ¬ gopK P Γ (some F) all σ m o k := by
 have hs : isSt o.op = true := by unfold freeS at hfree; simp only [Bool.and_eq_true] at hfree; exact hfree.1
 have hfo : frOf P all (some F) o = none := by unfold frOf; dsimp only; rw [hfree]
 have h1 : ∃ G : Mem → KV → Prop, CallLike G ∧ ∀ m k, opK P Γ none σ m o k ↔ G m k := by
  obtain ⟨dst, op, ty, pos, after, guard⟩ := o
  cases op with
  | store t a v => exact ⟨_, callLike_ast P t (aval σ a) (aval σ v), fun m k => Iff.rfl⟩
  | _ => simp [isSt] at hs
 unfold gopK
 rw [hfo]
 cases o.guard with
 | none => exact .inl h1
 | some x =>
  obtain ⟨j, want⟩ := x
  dsimp only
  cases (all[j]?).bind (·.dst) with
  | none => exact .inr (.inr fun m k h => h)
  | some d =>
   dsimp only
   rcases kgd_ways (σ d) want with e | e | e
   ·simp only [e]; exact .inl h1
   ·simp only [e]; exact .inr (.inl ⟨_, fun m k => Iff.rfl⟩)
   ·simp only [e]; exact .inr (.inr fun m k h => h)
def inF (fr : Option (Nat → Prop)) (b : Nat) : Prop := match fr with
 | none => True
 | some F => F b
def KeepsFr (fr : Option (Nat → Prop)) (m m' : Mem) : Prop := ∀ b, inF fr b → m.obj b ≠ none → m'.obj b = m.obj b
theorem KeepsFr.set (fr : Option (Nat → Prop)) {m : Mem} {b : Nat} (hb : m.obj b = none) (x : Blk) : KeepsFr fr m (m.set b x) := fun b' _ h => by
 have : b' ≠ b := fun e => h (e ▸ hb)
 simp [Mem.set, upd, this]
def AV.blkB (v : AV) (b : Nat) : Prop := match v with
 | .ptr b' _ => b' = b
 | .sl b' _ _ _ => b' = b
 | .mp b' => b' = b
 | _ => False
def lowPtr (fr : Option (Nat → Prop)) (σ : Nat → AV) (o : Op) (m : Mem) : Prop := ∀ x ∈ o.operands, ∀ b, (aval σ x).blkB b → inF fr b → m.obj b ≠ none
theorem lowPtr.keep {fr : Option (Nat → Prop)} {σ : Nat → AV} {o : Op} {m m' : Mem} (h : lowPtr fr σ o m) (K : KeepsFr fr m m') : lowPtr fr σ o m' := fun x hx b e hF => by
 rw [K b hF (h x hx b e hF)]; exact h x hx b e hF
theorem aload_new {P : Program} {fr : Option (Nat → Prop)} {σ : Nat → AV} {m m' : Mem} {o : Oper} (K : KeepsFr fr m m') (h : lowPtr fr σ o.op m) : aload P fr σ m' o = aload P fr σ m o := by
 funext k
 have K' := K
 obtain ⟨dst, op, ty, pos, after, guard⟩ := o
 cases op with
 | load t a =>
  simp only [aload, ald]
  cases e : aval σ a with
  | ptr b f =>
   cases fr with
   | none =>
    have hb := K b trivial (h a (by simp [Op.operands]) b (by rw [e]; rfl) trivial)
    simp only [kptr, kobj, hb]
   | some F =>
    by_cases hF : F b
    ·have hb := K b hF (h a (by simp [Op.operands]) b (by rw [e]; rfl) hF)
     simp only [kptr, kobj, hb]
    ·simp only [kptr, hF, false_and]
  | _ => rfl
 | convert s d x =>
  simp only [aload]
  split
  ·cases e : aval σ x with
   | sl b f l c =>
    cases fr with
    | none =>
     have hb := K b trivial (h x (by simp [Op.operands]) b (by rw [e]; rfl) trivial)
     simp only [kstr, kobj, hb]
    | some F =>
     by_cases hF : F b
     ·have hb := K b hF (h x (by simp [Op.operands]) b (by rw [e]; rfl) hF)
      simp only [frS, kstr, kobj, hb]
     ·simp only [frS, hF, false_and]
   | flat u =>
    have e1 : ∀ k, kstr (.flat u) m' k = kstr (.flat u) m k := fun k => by unfold kstr; split <;> simp_all
    simp only [e1]
   | _ => cases fr <;> rfl
  ·rfl
 | lookup t x i ok =>
  cases fr with
  | some F => rfl
  | none =>
   have key : ∀ ls kn d n z (K : (Nat → AV) → Bool → Prop), mget ls kn (aval σ x) d n z m' K = mget ls kn (aval σ x) d n z m K := fun ls kn d n z K => by
    cases e : aval σ x with
    | mp b =>
     have hb := K' b trivial (h x (by simp [Op.operands]) b (by rw [e]; rfl) trivial)
     simp only [mget, kobj, hb]
    | _ => rfl
   simp only [aload, alookup, key]
 | _ => rfl
theorem aload_live {P : Program} {fr : Option (Nat → Prop)} {σ : Nat → AV} {m : Mem} {o : Oper} {k : AV → Prop} (h : aload P fr σ m o k) : lowPtr fr σ o.op m := by
 obtain ⟨dst, op, ty, pos, after, guard⟩ := o
 cases op with
 | load t a =>
  have h : ald P t (aval σ a) m k := by
   cases fr with
   | none => exact h
   | some F => obtain ⟨b, f, e, h⟩ := kptr_ok h; exact h.2
  obtain ⟨b, f, e, h⟩ := kptr_ok h
  obtain ⟨y, hy, h⟩ := kobj_ok h
  intro x hx b' e' _
  simp only [Op.operands, List.mem_toArray, List.mem_singleton] at hx
  subst hx
  rw [e] at e'
  have e1 : b = b' := e'
  subst e1
  rw [hy]; simp
 | convert s d x =>
  simp only [aload] at h
  split at h
  rotate_left
  ·exact h.elim
  have h : kstr (aval σ x) m fun z => k (.flat (.string z)) := by
   cases fr with
   | none => exact h
   | some F =>
    dsimp only [frS] at h
    split at h
    ·exact h.2
    ·exact h
  intro y hy b' e' _
  simp only [Op.operands, List.mem_toArray, List.mem_singleton] at hy
  subst hy
  unfold kstr at h
  split at h
  ·rename_i b o n c e
   rw [e] at e'
   have e1 : b = b' := e'
   subst e1
   obtain ⟨y, hy, _⟩ := kobj_ok h
   rw [hy]; simp
  ·rename_i e; rw [e] at e'; exact e'.elim
  ·rename_i e; rw [e] at e'; exact e'.elim
  ·exact h.elim
 | lookup t x i ok =>
  cases fr with
  | some F => exact h.elim
  | none =>
   have h : alookup P t (aval σ x) (aval σ i) ok m k := h
   unfold alookup at h
   split at h
   rotate_left
   ·exact h.elim
   split at h
   rotate_left
   ·exact h.elim
   split at h
   rotate_left
   ·exact h.elim
   obtain ⟨kn, d, ek, h⟩ := kagg_ok h
   rcases kif_ok h with ⟨_, h⟩ | ⟨_, h⟩
   rotate_left
   ·exact h.elim
   obtain ⟨b, eb⟩ := mget_mp h
   rw [eb] at h
   unfold mget at h
   obtain ⟨y, hy, _⟩ := kobj_ok h
   intro z hz b' e' _
   simp only [Op.operands, List.mem_toArray, List.mem_cons, List.not_mem_nil, or_false] at hz
   rcases hz with rfl | rfl
   ·rw [eb] at e'
    have e1 : b = b' := e'
    subst e1
    rw [hy]; simp
   ·rw [ek] at e'; exact e'.elim
 | _ => exact h.elim
theorem gload_keep {P : Program} {fr : Option (Nat → Prop)} {all : Array Oper} {σ : Nat → AV} {m m' : Mem} {y : Oper} {v : AV} (K : KeepsFr fr m m') (hv : gval all σ y (aload P fr σ m y) fun u => u = v) :
  gval all σ y (aload P fr σ m' y) = gval all σ y (aload P fr σ m y) := by
 by_cases hl : lowPtr fr σ y.op m
 ·rw [aload_new K hl]
 ·have hno : ∀ k, ¬ aload P fr σ m y k := fun k hk => hl (aload_live hk)
  funext k2
  unfold gval at hv ⊢
  cases hgu : y.guard with
  | none => rw [hgu] at hv; exact (hno _ hv).elim
  | some z =>
   obtain ⟨j, want⟩ := z
   rw [hgu] at hv
   dsimp only at hv ⊢
   cases hd : (all[j]?).bind (·.dst) with
   | none => rfl
   | some d =>
    rw [hd] at hv
    dsimp only at hv ⊢
    rcases kgd_ways (σ d) want with e | e | e
    ·rw [e] at hv; exact (hno _ hv).elim
    ·rw [e, e]
    ·rw [e, e]
theorem putA_comm (σ : Nat → AV) {x y : Option Tmp} (v u : AV) (h : ∀ d, x = some d → y ≠ some d) : putA (putA σ x v) y u = putA (putA σ y u) x v := by
 cases x with
 | none => rfl
 | some d =>
  cases y with
  | none => rfl
  | some e =>
   have hne : d ≠ e := fun he => h d rfl (by rw [he])
   funext j
   simp only [putA, upd]
   by_cases c : j = e
   ·subst c; simp [Ne.symm hne]
   ·simp [c]
section
variable {P : Program} {w0 : World} {Γ : Env} (HΓ : Sound P w0 Γ) {fr : Option (Nat → Prop)} {all : Array Oper} {x y : Oper} (hap : y.apart all x = true)
include hap HΓ
theorem comm_P (hx : isP P x.op = true) {σ : Nat → AV} {m : Mem} {K : (Nat → AV) → Mem → Prop} (h : gopK P Γ fr all σ m y fun v m1 => gopK P Γ fr all (putA σ y.dst v) m1 x fun u m2 => K (putA (putA σ y.dst v) x.dst u) m2) :
  gopK P Γ fr all σ m x fun u m1 => gopK P Γ fr all (putA σ x.dst u) m1 y fun v m2 => K (putA (putA σ x.dst u) y.dst v) m2 := by
 obtain ⟨h1, h2, h3⟩ := Oper.apart_spec hap
 simp only [gopK_put P Γ fr _ x h1, gopK_put P Γ fr _ y h3] at h ⊢
 simp only [gopK_P hx] at h ⊢
 rcases det_gval (all := all) (σ := σ) (o := x) (det_apure P σ x) with ⟨u, hu⟩ | hn
 ·simp only [hu] at h ⊢
  simpa only [putA_comm σ _ u h2] using h
 ·exact ((hon_gopK HΓ fr all σ m y).strict ((hon_gopK HΓ fr all σ m y).mono _ _ (fun v m' => hn _) h)).elim
theorem comm_P' (hy : isP P y.op = true) {σ : Nat → AV} {m : Mem} {K : (Nat → AV) → Mem → Prop} (h : gopK P Γ fr all σ m y fun v m1 => gopK P Γ fr all (putA σ y.dst v) m1 x fun u m2 => K (putA (putA σ y.dst v) x.dst u) m2) :
  gopK P Γ fr all σ m x fun u m1 => gopK P Γ fr all (putA σ x.dst u) m1 y fun v m2 => K (putA (putA σ x.dst u) y.dst v) m2 := by
 obtain ⟨h1, h2, h3⟩ := Oper.apart_spec hap
 simp only [gopK_put P Γ fr _ x h1, gopK_put P Γ fr _ y h3] at h ⊢
 simp only [gopK_P hy] at h ⊢
 rcases det_gval (all := all) (σ := σ) (o := y) (det_apure P σ y) with ⟨v, hv⟩ | hn
 ·simp only [hv] at h ⊢
  simpa only [putA_comm σ v _ h2] using h
 ·exact (hn _ h).elim
theorem comm_LL (hx : isL P x.op = true) (hy : isL P y.op = true) {σ : Nat → AV} {m : Mem} {K : (Nat → AV) → Mem → Prop} (h : gopK P Γ fr all σ m y fun v m1 => gopK P Γ fr all (putA σ y.dst v) m1 x fun u m2 => K (putA (putA σ y.dst v) x.dst u) m2) :
  gopK P Γ fr all σ m x fun u m1 => gopK P Γ fr all (putA σ x.dst u) m1 y fun v m2 => K (putA (putA σ x.dst u) y.dst v) m2 := by
 obtain ⟨h1, h2, h3⟩ := Oper.apart_spec hap
 simp only [gopK_put P Γ fr _ x h1, gopK_put P Γ fr _ y h3] at h ⊢
 simp only [gopK_L hx, gopK_L hy] at h ⊢
 rcases det_gval (all := all) (σ := σ) (o := y) (det_aload P fr σ m y) with ⟨v, hv⟩ | hn
 ·rcases det_gval (all := all) (σ := σ) (o := x) (det_aload P fr σ m x) with ⟨u, hu⟩ | hn
  ·simp only [hv, hu] at h ⊢
   simpa only [putA_comm σ v u h2] using h
  ·simp only [hv] at h; exact (hn _ h).elim
 ·exact (hn _ h).elim
theorem comm_LN (hx : isL P x.op = true) (hy : isN y.op = true) {σ : Nat → AV} {m : Mem} {K : (Nat → AV) → Mem → Prop} (hlow : lowPtr fr σ x.op m) (h : gopK P Γ fr all σ m y fun v m1 => gopK P Γ fr all (putA σ y.dst v) m1 x fun u m2 => K (putA (putA σ y.dst v) x.dst u) m2) :
  gopK P Γ fr all σ m x fun u m1 => gopK P Γ fr all (putA σ x.dst u) m1 y fun v m2 => K (putA (putA σ x.dst u) y.dst v) m2 := by
 obtain ⟨h1, h2, h3⟩ := Oper.apart_spec hap
 simp only [gopK_put P Γ fr _ x h1, gopK_put P Γ fr _ y h3] at h ⊢
 rw [gopK_L hx]
 simp only [gopK_L hx] at h
 rcases new_gopK (P := P) (Γ := Γ) (fr := fr) (all := all) (σ := σ) hy with ⟨v, xb, hv⟩ | ⟨v, hv⟩ | hn
 ·simp only [hv] at h ⊢
  rcases det_gval (all := all) (σ := σ) (o := x) (det_aload P fr σ m x) with ⟨u, hu⟩ | hn
  ·rw [hu]
   intro b hb
   have := h b hb
   dsimp only at this
   rw [aload_new (KeepsFr.set fr hb xb) hlow, hu, putA_comm σ _ u h2] at this
   exact this
  ·obtain ⟨b, hb⟩ := m.fresh
   have := h b hb
   dsimp only at this
   rw [aload_new (KeepsFr.set fr hb xb) hlow] at this
   exact (hn _ this).elim
 ·simp only [hv] at h ⊢
  rcases det_gval (all := all) (σ := σ) (o := x) (det_aload P fr σ m x) with ⟨u, hu⟩ | hn
  ·simp only [hu] at h ⊢; rw [putA_comm σ v u h2] at h; exact h
  ·exact (hn _ h).elim
 ·exact (hn _ _ h).elim
theorem comm_NL (hx : isN x.op = true) (hy : isL P y.op = true) {σ : Nat → AV} {m : Mem} {K : (Nat → AV) → Mem → Prop} (h : gopK P Γ fr all σ m y fun v m1 => gopK P Γ fr all (putA σ y.dst v) m1 x fun u m2 => K (putA (putA σ y.dst v) x.dst u) m2) :
  gopK P Γ fr all σ m x fun u m1 => gopK P Γ fr all (putA σ x.dst u) m1 y fun v m2 => K (putA (putA σ x.dst u) y.dst v) m2 := by
 obtain ⟨h1, h2, h3⟩ := Oper.apart_spec hap
 simp only [gopK_put P Γ fr _ x h1, gopK_put P Γ fr _ y h3] at h ⊢
 rw [gopK_L hy] at h
 simp only [gopK_L hy]
 rcases det_gval (all := all) (σ := σ) (o := y) (det_aload P fr σ m y) with ⟨v, hv⟩ | hn
 ·rw [hv] at h
  rcases new_gopK (P := P) (Γ := Γ) (fr := fr) (all := all) (σ := σ) hx with ⟨u, xb, hu⟩ | ⟨u, hu⟩ | hn
  ·simp only [hu] at h ⊢
   intro b hb
   rw [gload_keep (KeepsFr.set fr hb xb) ((hv _).2 rfl), hv, ← putA_comm σ v _ h2]
   exact h b hb
  ·simp only [hu] at h ⊢
   rw [hv, ← putA_comm σ v _ h2]; exact h
  ·exact (hn _ _ h).elim
 ·exact (hn _ h).elim
theorem comm_NN (hx : isN x.op = true) (hy : isN y.op = true) {σ : Nat → AV} {m : Mem} {K : (Nat → AV) → Mem → Prop} (h : gopK P Γ fr all σ m y fun v m1 => gopK P Γ fr all (putA σ y.dst v) m1 x fun u m2 => K (putA (putA σ y.dst v) x.dst u) m2) :
  gopK P Γ fr all σ m x fun u m1 => gopK P Γ fr all (putA σ x.dst u) m1 y fun v m2 => K (putA (putA σ x.dst u) y.dst v) m2 := by
 obtain ⟨h1, h2, h3⟩ := Oper.apart_spec hap
 simp only [gopK_put P Γ fr _ x h1, gopK_put P Γ fr _ y h3] at h ⊢
 rcases new_gopK (P := P) (Γ := Γ) (fr := fr) (all := all) (σ := σ) hy with ⟨v, yb, hv⟩ | ⟨v, hv⟩ | hn
 ·rcases new_gopK (P := P) (Γ := Γ) (fr := fr) (all := all) (σ := σ) hx with ⟨u, xb, hu⟩ | ⟨u, hu⟩ | hn
  ·simp only [hv, hu] at h ⊢
   intro b1 hb1 b2 hb2
   have hne : b2 ≠ b1 := fun e => by subst e; simp [Mem.set, upd] at hb2
   have hb2' : m.obj b2 = none := by simpa [Mem.set, upd, hne] using hb2
   have := h b2 hb2' b1 (by simpa [Mem.set, upd, Ne.symm hne] using hb1)
   dsimp only at this
   rw [putA_comm σ _ _ h2] at this
   have e : (m.set b2 yb).set b1 xb = (m.set b1 xb).set b2 yb := by
    simp only [Mem.set, Mem.mk.injEq]
    funext j
    simp only [upd]
    by_cases c1 : j = b1
    ·subst c1; simp [Ne.symm hne]
    ·simp [c1]
   rw [e] at this
   exact this
  ·simp only [hv, hu] at h ⊢
   intro b hb
   rw [← putA_comm σ _ _ h2]; exact h b hb
  ·simp only [hv] at h
   obtain ⟨b, hb⟩ := m.fresh
   exact (hn _ _ (h b hb)).elim
 ·simp only [hv] at h
  have := h
  refine (hon_gopK HΓ fr all σ m x).mono _ _ (fun u m2 h => ?_) this
  refine (hv m2 _).2 ?_
  rw [← putA_comm σ _ _ h2]; exact h
 ·exact (hn _ _ h).elim
end
section
variable {P : Program} {w0 : World} {Γ : Env} (HΓ : Sound P w0 Γ) {F : Nat → Prop} {all : Array Oper} {x y : Oper} (hap : y.apart all x = true)
include hap HΓ
theorem comm_LC (hx : isL P x.op = true) (hy : isCA y.op = true) (hfree : freeS P all y = false) {σ : Nat → AV} {m : Mem} {K : (Nat → AV) → Mem → Prop} (hlow : lowPtr (some F) σ x.op m) (h : gopK P Γ (some F) all σ m y fun v m1 => gopK P Γ (some F) all (putA σ y.dst v) m1 x fun u m2 => K (putA (putA σ y.dst v) x.dst u) m2) :
  gopK P Γ (some F) all σ m x fun u m1 => gopK P Γ (some F) all (putA σ x.dst u) m1 y fun v m2 => K (putA (putA σ x.dst u) y.dst v) m2 := by
 obtain ⟨h1, h2, h3⟩ := Oper.apart_spec hap
 simp only [gopK_put P Γ (some F) _ x h1, gopK_put P Γ (some F) _ y h3] at h ⊢
 rw [gopK_L hx]
 simp only [gopK_L hx] at h
 rcases call_gopK HΓ (P := P) (Γ := Γ) (F := F) (all := all) (σ := σ) hy hfree with ⟨G, HG, hv⟩ | ⟨v, hv⟩ | hn
 ·simp only [hv] at h ⊢
  rcases det_gval (all := all) (σ := σ) (o := x) (det_aload P (some F) σ m x) with ⟨u, hu⟩ | hn
  ·rw [hu]
   refine HG.mono _ _ _ (fun v m1 h => ⟨h.1, ?_⟩) h
   have hK : KeepsFr (some F) m m1 := fun b hF hb => h.1 b hF hb
   have h := h.2
   rw [aload_new hK hlow, hu, putA_comm σ v u h2] at h
   exact h
  ·refine (HG.strict m (HG.mono _ _ _ (fun v m1 h => ?_) h)).elim
   have hK : KeepsFr (some F) m m1 := fun b hF hb => h.1 b hF hb
   have h' := h.2
   rw [aload_new hK hlow] at h'
   exact hn _ h'
 ·simp only [hv] at h ⊢
  rcases det_gval (all := all) (σ := σ) (o := x) (det_aload P (some F) σ m x) with ⟨u, hu⟩ | hn
  ·simp only [hu] at h ⊢; rw [putA_comm σ v u h2] at h; exact h
  ·exact (hn _ h).elim
 ·exact (hn _ _ h).elim
theorem comm_CL (hx : isCA x.op = true) (hfree : freeS P all x = false) (hy : isL P y.op = true) {σ : Nat → AV} {m : Mem} {K : (Nat → AV) → Mem → Prop} (h : gopK P Γ (some F) all σ m y fun v m1 => gopK P Γ (some F) all (putA σ y.dst v) m1 x fun u m2 => K (putA (putA σ y.dst v) x.dst u) m2) :
  gopK P Γ (some F) all σ m x fun u m1 => gopK P Γ (some F) all (putA σ x.dst u) m1 y fun v m2 => K (putA (putA σ x.dst u) y.dst v) m2 := by
 obtain ⟨h1, h2, h3⟩ := Oper.apart_spec hap
 simp only [gopK_put P Γ (some F) _ x h1, gopK_put P Γ (some F) _ y h3] at h ⊢
 rw [gopK_L hy] at h
 simp only [gopK_L hy]
 rcases det_gval (all := all) (σ := σ) (o := y) (det_aload P (some F) σ m y) with ⟨v, hv⟩ | hn
 ·rw [hv] at h
  rcases call_gopK HΓ (P := P) (Γ := Γ) (F := F) (all := all) (σ := σ) hx hfree with ⟨G, HG, hu⟩ | ⟨u, hu⟩ | hn
  ·simp only [hu] at h ⊢
   refine HG.mono _ _ _ (fun u m1 h => ⟨h.1, ?_⟩) h
   have hK : KeepsFr (some F) m m1 := fun b hF hb => h.1 b hF hb
   rw [gload_keep hK ((hv _).2 rfl), hv, ← putA_comm σ v _ h2]
   exact h.2
  ·simp only [hu] at h ⊢
   rw [hv, ← putA_comm σ v _ h2]; exact h
  ·exact (hn _ _ h).elim
 ·exact (hn _ h).elim
theorem comm_NC (hx : isN x.op = true) (hy : isCA y.op = true) {σ : Nat → AV} {m : Mem} {K : (Nat → AV) → Mem → Prop} (h : gopK P Γ (some F) all σ m y fun v m1 => gopK P Γ (some F) all (putA σ y.dst v) m1 x fun u m2 => K (putA (putA σ y.dst v) x.dst u) m2) :
  gopK P Γ (some F) all σ m x fun u m1 => gopK P Γ (some F) all (putA σ x.dst u) m1 y fun v m2 => K (putA (putA σ x.dst u) y.dst v) m2 := by
 obtain ⟨h1, h2, h3⟩ := Oper.apart_spec hap
 simp only [gopK_put P Γ (some F) _ x h1, gopK_put P Γ (some F) _ y h3] at h ⊢
 cases hfree : freeS P all y with
 | true =>
  rcases free_gopK (P := P) (Γ := Γ) (F := F) (all := all) (σ := σ) hfree with ⟨G, HG, hv⟩ | ⟨v, hv⟩ | hn
  ·rcases new_gopK (P := P) (Γ := Γ) (fr := some F) (all := all) (σ := σ) hx with ⟨u, xb, hu⟩ | ⟨u, hu⟩ | hn
   ·simp only [hv, hu] at h ⊢
    intro b hb
    refine HG.mono _ _ _ (fun v m2 h => ?_) (HG.frame _ _ h b xb hb)
    obtain ⟨m1, rfl, hb1, h⟩ := h
    rw [← putA_comm σ v _ h2]; exact h b hb1
   ·simp only [hv, hu] at h ⊢
    refine HG.mono _ _ _ (fun v m1 h => ?_) h
    rw [← putA_comm σ v _ h2]; exact h
   ·simp only [hv] at h
    exact (HG.strict m (HG.mono _ _ _ (fun v m1 h => hn _ _ h) h)).elim
  ·simp only [hv] at h ⊢
   refine (hon_gopK HΓ (some F) all σ m x).mono _ _ (fun u m2 h => ?_) h
   rw [← putA_comm σ v _ h2]; exact h
  ·exact (hn _ _ h).elim
 | false =>
 rcases call_gopK HΓ (P := P) (Γ := Γ) (F := F) (all := all) (σ := σ) hy hfree with ⟨G, HG, hv⟩ | ⟨v, hv⟩ | hn
 ·rcases new_gopK (P := P) (Γ := Γ) (fr := some F) (all := all) (σ := σ) hx with ⟨u, xb, hu⟩ | ⟨u, hu⟩ | hn
  ·simp only [hv, hu] at h ⊢
   intro b hb
   refine HG.mono _ _ _ (fun v m2 h => ?_) (HG.frame _ _ h b xb hb)
   obtain ⟨m1, rfl, hb1, hK, h⟩ := h
   refine ⟨fun b' hF hb' => ?_, by rw [← putA_comm σ v _ h2]; exact h b hb1⟩
   by_cases c : b' = b
   ·subst c; simp [Mem.set, upd]
   ·have := hK b' hF (by simpa [Mem.set, upd, c] using hb')
    simpa [Mem.set, upd, c] using this
  ·simp only [hv, hu] at h ⊢
   refine HG.mono _ _ _ (fun v m1 h => ⟨h.1, ?_⟩) h
   rw [← putA_comm σ v _ h2]; exact h.2
  ·simp only [hv] at h
   exact (HG.strict m (HG.mono _ _ _ (fun v m1 h => hn _ _ h.2) h)).elim
 ·simp only [hv] at h ⊢
  refine (hon_gopK HΓ (some F) all σ m x).mono _ _ (fun u m2 h => ?_) h
  rw [← putA_comm σ v _ h2]; exact h
 ·exact (hn _ _ h).elim
end
end Go.Proofs.YtkiggdgphbkneaaGreat.Am
