/- Each operation of the abstract machine tells what the real one does. No program in sight. -/
import Derived.Test.YtkiggdgphbkneaaGreatTopRefillsX1
namespace Go.Proofs.YtkiggdgphbkneaaGreat.Am
set_option linter.unusedVariables false
set_option linter.unusedSimpArgs false
theorem pv_run {α : Type} (P : Program) (s : Sem α) {a : α} (h : pv P s = some a) (w : World) : s.run P w = .ok a w := by
 induction s with
 | pure b => simp [pv] at h; subst h; rfl
 | program k ih => exact ih P h
 | _ => simp [pv] at h
theorem pv_bind {α β : Type} (P : Program) (s : Sem α) (f : α → Sem β) : pv P (s >>= f) = (pv P s).bind fun a => pv P (f a) := by
 show pv P (Sem.bind s f) = _
 induction s with
 | pure b => rfl
 | program k ih => exact ih P
 | _ => rfl
@[simp] theorem pv_pure {α : Type} (P : Program) (a : α) : pv P (pure a) = some a := rfl
@[simp] theorem pv_pure' {α : Type} (P : Program) (a : α) : pv P (Sem.pure a) = some a := rfl
@[simp] theorem pv_map {α β : Type} (P : Program) (s : Sem α) (f : α → β) : pv P (f <$> s) = (pv P s).map f := by
 show pv P (s >>= fun a => pure (f a)) = _
 rw [pv_bind]; cases pv P s <;> rfl
@[simp] theorem pv_program (P : Program) : pv P program = some P := rfl
theorem pv_underlying {P : Program} {t : TypeId} {d : TypeDesc} (h : P.underlying t = some d) : pv P (underlying t) = some d := by
 unfold underlying; rw [pv_bind]; simp [h]
theorem info_of_cells {P : Program} {t : TypeId} {n : Nat} (h : P.cellsOf t = n + 1) : ∃ i, P.info? t = some i ∧ i.size = n + 1 := by
 unfold Program.cellsOf at h
 cases e : P.info? t with
 | none => simp [e] at h
 | some i => exact ⟨i, rfl, by simpa [e] using h⟩
theorem info_of_under {P : Program} {t : TypeId} {d : TypeDesc} (h : P.underlying t = some d) : ∃ i, P.info? t = some i := by
 unfold Program.underlying at h
 cases e : P.info? t with
 | none => simp [e] at h
 | some i => exact ⟨i, rfl⟩
theorem pv_sizeOf {P : Program} {t : TypeId} {i : TypeInfo} (h : P.info? t = some i) : pv P (sizeOf t) = some (P.cellsOf t) := by
 unfold sizeOf typeInfo; rw [pv_bind, pv_bind]; simp [h, Program.cellsOf]
theorem pv_isAgg {P : Program} {t : TypeId} {d : TypeDesc} (h : P.underlying t = some d) : pv P (isAgg t) = some (isAggB P t) := by
 unfold isAgg isAggB; rw [pv_bind, pv_underlying h, h]; cases d <;> rfl
theorem kbool_ok {v : AV} {k : Bool → Prop} (h : kbool v k) : ∃ b, v = .flat (.bool b) ∧ k b := by
 unfold kbool at h; split at h
 ·exact ⟨_, rfl, h⟩
 ·exact h.elim
theorem kint_ok {v : AV} {k : IntKind → Int → Prop} (h : kint v k) : ∃ i n, v = .flat (.int i n) ∧ k i n := by
 unfold kint at h; split at h
 ·exact ⟨_, _, rfl, h⟩
 ·exact h.elim
theorem kptr_ok {v : AV} {k : Nat → Nat → Prop} (h : kptr v k) : ∃ b o, v = .ptr b o ∧ k b o := by
 unfold kptr at h; split at h
 ·exact ⟨_, _, rfl, h⟩
 ·exact h.elim
theorem ksl_ok {v : AV} {k : Nat → Nat → Nat → Cap → Prop} (h : ksl v k) : ∃ b o l c, v = .sl b o l c ∧ k b o l c := by
 unfold ksl at h; split at h
 ·exact ⟨_, _, _, _, rfl, h⟩
 ·exact h.elim
theorem kagg_ok {v : AV} {k : Nat → (Nat → AV) → Prop} (h : kagg v k) : ∃ n c, v = .agg n c ∧ k n c := by
 unfold kagg at h; split at h
 ·exact ⟨_, _, rfl, h⟩
 ·exact h.elim
theorem kif_ok {b : Bool} {A B : Prop} (h : kif b A B) : (b = true ∧ A) ∨ (b = false ∧ B) := by
 cases b
 ·exact .inr ⟨rfl, h⟩
 ·exact .inl ⟨rfl, h⟩
theorem kpos_ok {n : Nat} {A : Prop} (h : kpos n A) : (∃ k, n = k + 1) ∧ A := by
 cases n with
 | zero => exact h.elim
 | succ k => exact ⟨⟨k, rfl⟩, h⟩
theorem kobj_ok {m : Mem} {b : Nat} {k : Blk → Prop} (h : kobj m b k) : ∃ x, m.obj b = some x ∧ k x := by
 unfold kobj at h; split at h
 ·exact ⟨_, by assumption, h⟩
 ·exact h.elim
theorem kA_ok {v : AV} {k : AV → Prop} (h : kA v k) : k v := by
 unfold kA at h; split at h <;> first | exact h.elim | exact h
theorem kI_ok {kd : IntKind} {v : AV} {k : Int → Prop} (h : kI kd v k) : ∃ n, v = .flat (.int kd n) ∧ k n := by
 unfold kI at h; split at h
 ·rw [kite_eq] at h
  split at h
  ·rename_i e; subst e; exact ⟨_, rfl, h⟩
  ·exact h.elim
 ·exact h.elim
theorem kS_ok {v : AV} {k : ByteArray → Prop} (h : kS v k) : ∃ n, v = .flat (.string n) ∧ k n := by
 unfold kS at h; split at h
 ·exact ⟨_, rfl, h⟩
 ·exact h.elim
theorem kcell_ok {P : Program} {t : TypeId} {v : AV} {k : AV → Prop} (h : kcell P t v k) : (∃ d, P.underlying t = some d) ∧ k v := by
 unfold kcell at h
 split at h
 ·rename_i e; obtain ⟨n, hv, h2⟩ := kI_ok h; rw [hv]; exact ⟨⟨_, e⟩, h2⟩
 ·rename_i e; obtain ⟨n, hv, h2⟩ := kbool_ok h; rw [hv]; exact ⟨⟨_, e⟩, h2⟩
 ·rename_i e; obtain ⟨n, hv, h2⟩ := kS_ok h; rw [hv]; exact ⟨⟨_, e⟩, h2⟩
 ·rename_i d e1 e2 e3 e; exact ⟨⟨_, e⟩, kA_ok h⟩
 ·exact h.elim
theorem isAggB_under {P : Program} {t : TypeId} (h : isAggB P t = true) : ∃ d, P.underlying t = some d := by
 unfold isAggB at h
 cases e : P.underlying t with
 | none => simp [e] at h
 | some d => exact ⟨d, rfl⟩
theorem kpart_ok {P : Program} {t : TypeId} {n : Nat} {c : Nat → AV} {off : Nat} {k : AV → Prop} {g : Gh} {a : Array Value} (h : kpart P t n c off k)
  (hs : a.size = n) (hc : ∀ i, i < n → CR g (c i) (a.getD i undef)) : ∃ v v', pv P (part t a off) = some v' ∧ VR g v v' ∧ k v := by
 unfold kpart at h
 simp only [kite_eq] at h
 split at h
 ·rename_i e
  obtain ⟨d, hd⟩ := isAggB_under e
  obtain ⟨i, hi⟩ := info_of_under hd
  split at h
  ·rename_i hle
   refine ⟨_, .agg (a.extract off (off + P.cellsOf t)), ?_, ?_, h⟩
   ·unfold part; rw [pv_bind, pv_isAgg hd, e]; simp [pv_bind, pv_sizeOf hi]
   ·refine ⟨_, rfl, by simp; omega, fun j hj => ?_⟩
    simp only [sub, if_pos hj]
    have := hc (off + j) (by omega)
    have h1 : off + j < a.size := by omega
    have h2 : j < min (off + P.cellsOf t) a.size - off := by omega
    simpa [Array.getD, h1, h2] using this
  ·exact h.elim
 ·rename_i e
  split at h
  ·rename_i hlt
   obtain ⟨⟨d, hd⟩, h⟩ := kcell_ok h
   refine ⟨c off, a.getD off undef, ?_, VR_of_CR (hc off hlt), h⟩
   unfold part; rw [pv_bind, pv_isAgg hd, e]
   have h1 : off < a.size := by omega
   simp [h1, Array.getD]
  ·exact h.elim
structure SR (g : Gh) (σ : Nat → AV) (a : Act) (n : Nat) : Prop where
 tm : ∀ t, VR g (σ t) (a.tmps.getD t undef)
 sz : a.tmps.size = n
 df : a.defers = []
theorem SR.ext {g g' : Gh} {σ : Nat → AV} {a : Act} {n : Nat} (h : SR g σ a n) (hw : g.wf) (E : Ext g g') : SR g' σ a n := ⟨fun t => VR_ext hw E (h.tm t), h.sz, h.df⟩
theorem VR_ofVal (g : Gh) (v : Value) : VR g (ofVal v) v := by
 unfold ofVal
 split
 ·rename_i cs
  split
  ·rename_i hall
   refine ⟨cs, rfl, rfl, fun i hi => ?_⟩
   have hl : ∀ (l : List Value) (i : Nat), i < l.length → lget (l.map AV.flat) i = .flat (l.getD i undef) := by
    intro l
    induction l with
    | nil => intro i h; simp at h
    | cons x l ih => intro i h; cases i with
     | zero => rfl
     | succ i => simpa [lget] using ih i (by simpa using h)
   rw [hl _ _ (by simpa using hi)]
   have e : cs.toList.getD i undef = cs.getD i undef := by simp [Array.getD, hi]
   rw [e]
   refine ⟨rfl, ?_⟩
   rw [List.all_eq_true] at hall
   refine hall _ ?_
   simp [Array.getD, hi]
  ·trivial
 ·rfl
theorem SR.eval {g : Gh} {σ : Nat → AV} {a : Act} {n : Nat} (h : SR g σ a n) (x : Operand) : VR g (aval σ x) (a.eval x) := by
 cases x with
 | tmp t => exact h.tm t
 | const v => exact VR_ofVal g v
 | global _ => trivial
 | func f => rfl
theorem SR.flat {g : Gh} {σ : Nat → AV} {a : Act} {n : Nat} (h : SR g σ a n) {x : Operand} {v : Value} (e : aval σ x = .flat v) : a.eval x = v := by
 have := h.eval x; rw [e] at this; exact this
theorem SR.ptr {g : Gh} {σ : Nat → AV} {a : Act} {n : Nat} (h : SR g σ a n) {x : Operand} {b o : Nat} (e : aval σ x = .ptr b o) : a.eval x = .pointer (some ⟨g.φ b, g.δ b + o, none⟩) ∧ g.at b := by
 have := h.eval x; rw [e] at this; exact ⟨this.2, this.1⟩
theorem Addr.add_plain (b o d : Nat) : (⟨b, o, none⟩ : Addr).add d = ⟨b, o + d, none⟩ := by
 unfold Addr.add; split
 ·rename_i h; subst h; rfl
 ·rfl
theorem flatOp_ok {P : Program} {σ : Nat → AV} {o : Oper} {k : AV → Prop} {g : Gh} {a : Act} {n : Nat} (S : SR g σ a n) (hs : ∀ cs b, o.op ≠ .select cs b) (h : flatOp P σ o k) :
  ∃ v v', pv P (execOp a.eval o) = some (.value v') ∧ VR g v v' ∧ k v := by
 unfold flatOp at h
 split at h
 ·rename_i hall
  have e : execOp a.eval o = execOp (fun x => (aval σ x).val) o := execOp_congr o hs fun x hx => VR_flat (S.eval x) (by
   have := Array.all_eq_true_iff_forall_mem.1 hall x hx; exact this)
  split at h
  ·rename_i v hv
   exact ⟨ofVal v, v, by rw [e]; exact hv, VR_ofVal g v, h⟩
  ·exact h.elim
 ·exact h.elim
theorem fieldOf_ok {P : Program} {t : TypeId} {f : Nat} {fd : Field} (h : fieldOf P t f = some fd) : ∃ fs, P.underlying t = some (.struct fs) ∧ fs[f]? = some fd := by
 unfold fieldOf at h
 split at h
 ·rename_i fs hu; exact ⟨fs, hu, h⟩
 ·cases h
theorem afieldAddr_ok {P : Program} {t : TypeId} {x : AV} {x' : Value} {f : Nat} {k : AV → Prop} {g : Gh} (hx : VR g x x') (h : afieldAddr P t x f k) :
  ∃ v v', pv P (Instr.fieldAt t x' f) = some v' ∧ VR g v v' ∧ k v := by
 unfold afieldAddr at h
 split at h
 ·rename_i fd hfd
  obtain ⟨fs, hu, hf⟩ := fieldOf_ok hfd
  obtain ⟨⟨c, hc⟩, h⟩ := kpos_ok h
  obtain ⟨b, o, rfl, h⟩ := kptr_ok h
  obtain ⟨hb, rfl⟩ := hx
  obtain ⟨i, hi, hsz⟩ := info_of_cells hc
  refine ⟨.ptr b (o + fd.offset), .pointer (some ⟨g.φ b, g.δ b + (o + fd.offset), none⟩), ?_, ⟨hb, rfl⟩, h⟩
  unfold Instr.fieldAt fieldPlace
  simp only [pv_bind, pv_underlying hu, Option.bind_some, hf, Instr.sureAddr, pv_pure, pv_sizeOf hi, hc]
  simp [Addr.add_plain, Nat.add_assoc]
 ·exact h.elim
theorem afield_ok {P : Program} {t : TypeId} {x : AV} {x' : Value} {f : Nat} {k : AV → Prop} {g : Gh} (hx : VR g x x') (h : afield P t x f k) :
  ∃ v v', pv P (Instr.field t x' f) = some v' ∧ VR g v v' ∧ k v := by
 unfold afield at h
 split at h
 ·rename_i fd hfd
  obtain ⟨fs, hu, hf⟩ := fieldOf_ok hfd
  obtain ⟨n, c, rfl, h⟩ := kagg_ok h
  obtain ⟨a, rfl, hs, hc⟩ := hx
  obtain ⟨v, v', h1, h2, h3⟩ := kpart_ok h hs hc
  refine ⟨v, v', ?_, h2, h3⟩
  unfold Instr.field
  simp only [pv_bind, pv_underlying hu, Option.bind_some, hf, asAgg, pv_pure, h1]
 ·exact h.elim
theorem sliceOf_ok {P : Program} {t : TypeId} {e : TypeId} (h : sliceOf P t = some e) : P.underlying t = some (.slice e) := by
 unfold sliceOf at h; split at h
 ·rename_i h1; rw [h1]; simp at h; rw [h]
 ·cases h
theorem aindexAddr_ok {P : Program} {t : TypeId} {x i : AV} {x' i' : Value} {k : AV → Prop} {g : Gh} (hx : VR g x x') (hi : VR g i i') (h : aindexAddr P t x i k) :
  ∃ v v', pv P (Instr.indexAt t x' i') = some v' ∧ VR g v v' ∧ k v := by
 unfold aindexAddr at h
 obtain ⟨ik, n, rfl, h⟩ := kint_ok h
 cases hi
 split at h
 ·rename_i len e hu
  obtain ⟨⟨c, hc⟩, h⟩ := kpos_ok h
  obtain ⟨b, o, rfl, h⟩ := kptr_ok h
  obtain ⟨hb, rfl⟩ := hx
  obtain ⟨inf, hinf, hsz⟩ := info_of_cells hc
  rcases kif_ok h with ⟨hd, h⟩ | ⟨_, h⟩
  ·have hd' : 0 ≤ n ∧ n < (len : Int) := by simpa using hd
   refine ⟨.ptr b (o + n.toNat * P.cellsOf e), .pointer (some ⟨g.φ b, g.δ b + (o + n.toNat * P.cellsOf e), none⟩), ?_, ⟨hb, rfl⟩, h⟩
   unfold Instr.indexAt
   simp only [asIntOf, pv_bind, pv_pure, Option.bind_some, pv_underlying hu, Instr.sureAddr, hd', and_self, if_true, pv_sizeOf hinf, Addr.add_plain, Nat.add_assoc]
  ·exact h.elim
 ·rename_i e hu
  obtain ⟨⟨c, hc⟩, h⟩ := kpos_ok h
  obtain ⟨b, o, len, cap, rfl, h⟩ := ksl_ok h
  obtain ⟨hb, c', rfl, hl, _⟩ := hx
  obtain ⟨inf, hinf, hsz⟩ := info_of_cells hc
  rcases kif_ok h with ⟨hd, h⟩ | ⟨_, h⟩
  ·have hd' : 0 ≤ n ∧ n < (len : Int) := by simpa using hd
   refine ⟨.ptr b (o + n.toNat * P.cellsOf e), .pointer (some ⟨g.φ b, g.δ b + (o + n.toNat * P.cellsOf e), none⟩), ?_, ⟨hb, rfl⟩, h⟩
   unfold Instr.indexAt
   simp only [asIntOf, pv_bind, pv_pure, Option.bind_some, pv_underlying hu, hd', and_self, if_true, pv_sizeOf hinf, Addr.add_plain, Nat.add_assoc]
  ·exact h.elim
 ·exact h.elim
theorem aindex_ok {P : Program} {t : TypeId} {x i : AV} {x' i' : Value} {k : AV → Prop} {g : Gh} (hx : VR g x x') (hi : VR g i i') (h : aindex P t x i k) :
  ∃ v v', pv P (Instr.index t x' i') = some v' ∧ VR g v v' ∧ k v := by
 unfold aindex at h
 obtain ⟨ik, n, rfl, h⟩ := kint_ok h
 cases hi
 split at h
 ·rename_i len e hu
  obtain ⟨⟨c1, hc1⟩, h⟩ := kpos_ok h
  obtain ⟨sz, c, rfl, h⟩ := kagg_ok h
  obtain ⟨a, rfl, hs, hc⟩ := hx
  obtain ⟨inf, hinf, hsz⟩ := info_of_cells hc1
  rcases kif_ok h with ⟨hd, h⟩ | ⟨_, h⟩
  ·have hd' : 0 ≤ n ∧ n < (len : Int) := by simpa using hd
   obtain ⟨v, v', h1, h2, h3⟩ := kpart_ok h hs hc
   refine ⟨v, v', ?_, h2, h3⟩
   unfold Instr.index
   simp only [asIntOf, pv_bind, pv_pure, Option.bind_some, pv_underlying hu, hd', and_self, if_true, pv_sizeOf hinf, h1]
  ·exact h.elim
 ·rename_i hu
  obtain ⟨s, rfl, h⟩ := kS_ok h
  cases hx
  rcases kif_ok h with ⟨hd, h⟩ | ⟨_, h⟩
  ·have hd' : 0 ≤ n ∧ n < (s.size : Int) := by simpa using hd
   have hlt : n.toNat < s.size := by omega
   refine ⟨.flat (.int .u8 (s.data.getD n.toNat 0).toNat), .int .u8 (s.data.getD n.toNat 0).toNat, ?_, rfl, h⟩
   have e : s[n.toNat]? = some (s.data.getD n.toNat 0) := by
    have hlt2 : n.toNat < s.data.size := hlt
    rw [getElem?_pos s n.toNat hlt]
    simp only [Array.getD, hlt2, dif_pos]
    rfl
   unfold Instr.index
   simp only [asIntOf, pv_bind, pv_pure, Option.bind_some, pv_underlying hu, hd'.1, if_true, e]
  ·exact h.elim
 ·exact h.elim
theorem All2.append {α β : Type} {R : α → β → Prop} : ∀ {l : List α} {l' : List β} {r : List α} {r' : List β}, All2 R l l' → All2 R r r' → All2 R (l ++ r) (l' ++ r')
 | [], [], _, _, _, h => h
 | _ :: _, _ :: _, _, _, h, h' => ⟨h.1, All2.append h.2 h'⟩
 | [], _ :: _, _, _, h, _ => h.elim
 | _ :: _, [], _, _, h, _ => h.elim
theorem All2.get {α β : Type} {R : α → β → Prop} : ∀ {l : List α} {l' : List β} {i : Nat} {a : α}, All2 R l l' → l[i]? = some a → ∃ b, l'[i]? = some b ∧ R a b
 | a :: l, b :: l', 0, x, h, e => ⟨b, rfl, by simp at e; subst e; exact h.1⟩
 | a :: l, b :: l', i + 1, x, h, e => All2.get (l := l) (l' := l') (i := i) h.2 (by simpa using e)
 | [], [], i, x, h, e => by simp at e
 | [], _ :: _, i, x, h, e => h.elim
 | _ :: _, [], i, x, h, e => h.elim
end Go.Proofs.YtkiggdgphbkneaaGreat.Am
