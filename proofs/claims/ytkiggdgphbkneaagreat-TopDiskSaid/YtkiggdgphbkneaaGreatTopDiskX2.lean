/- Each operation of the abstract machine tells what the real one does. No program in sight. -/
import Derived.Test.YtkiggdgphbkneaaGreatTopDiskX1
namespace Go.Proofs.YtkiggdgphbkneaaGreat.Am
set_option linter.unusedVariables false
set_option linter.unusedSimpArgs false
theorem xE {α : Type} (P : Program) (s : Sem α) {a : α} (h : pv P s = some a) (w : World) : s.run P w = .ok a w := by
 induction s with
 | pure b => simp [pv] at h; subst h; rfl
 | program k ih => exact ih P h
 | _ => simp [pv] at h
theorem zM {α β : Type} (P : Program) (s : Sem α) (f : α -> Sem β) : pv P (s >>= f) = (pv P s).bind fun a => pv P (f a) := by
 show pv P (Sem.bind s f) = _
 induction s with
 | pure b => rfl
 | program k ih => exact ih P
 | _ => rfl
@[simp] theorem pv_pure {α : Type} (P : Program) (a : α) : pv P (pure a) = some a := rfl
@[simp] theorem pv_pure' {α : Type} (P : Program) (a : α) : pv P (Sem.pure a) = some a := rfl
@[simp] theorem pv_map {α β : Type} (P : Program) (s : Sem α) (f : α -> β) : pv P (f <$> s) = (pv P s).map f := by
 show pv P (s >>= fun a => pure (f a)) = _
 rw [zM]; cases pv P s <;> rfl
@[simp] theorem pv_program (P : Program) : pv P program = some P := rfl
theorem zI {P : Program} {t : TypeId} {d : TypeDesc} (h : P.underlying t = some d) : pv P (underlying t) = some d := by
 unfold underlying; rw [zM]; simp [h]
theorem yU {P : Program} {t : TypeId} {n : Nat} (h : P.cellsOf t = n + 1) : ∃ i, P.info? t = some i /\ i.size = n + 1 := by
 unfold Program.cellsOf at h
 cases e : P.info? t with
 | none => simp [e] at h
 | some i => exact ⟨i, rfl, by simpa [e] using h⟩
theorem tA {P : Program} {t : TypeId} {d : TypeDesc} (h : P.underlying t = some d) : ∃ i, P.info? t = some i := by
 unfold Program.underlying at h
 cases e : P.info? t with
 | none => simp [e] at h
 | some i => exact ⟨i, rfl⟩
theorem xA {P : Program} {t : TypeId} {i : TypeInfo} (h : P.info? t = some i) : pv P (sizeOf t) = some (P.cellsOf t) := by
 unfold sizeOf typeInfo; rw [zM, zM]; simp [h, Program.cellsOf]
theorem kP {P : Program} {t : TypeId} {d : TypeDesc} (h : P.underlying t = some d) : pv P (isAgg t) = some (yS P t) := by
 unfold isAgg yS; rw [zM, zI h, h]; cases d <;> rfl
theorem nJ {v : AV} {k : Bool -> Prop} (h : tP v k) : ∃ b, v = .flat (.bool b) /\ k b := by
 unfold tP at h; split at h
 .exact ⟨_, rfl, h⟩
 .exact h.elim
theorem vO {v : AV} {k : IntKind -> Int -> Prop} (h : qD v k) : ∃ i n, v = .flat (.int i n) /\ k i n := by
 unfold qD at h; split at h
 .exact ⟨_, _, rfl, h⟩
 .exact h.elim
theorem uK {v : AV} {k : Nat -> Nat -> Prop} (h : yD v k) : ∃ b o, v = .ptr b o /\ k b o := by
 unfold yD at h; split at h
 .exact ⟨_, _, rfl, h⟩
 .exact h.elim
theorem yNn {v : AV} {k : Nat -> Nat -> Nat -> Cap -> Prop} (h : vD v k) : ∃ b o l c, v = .sl b o l c /\ k b o l c := by
 unfold vD at h; split at h
 .exact ⟨_, _, _, _, rfl, h⟩
 .exact h.elim
theorem vS {v : AV} {k : Nat -> (Nat -> AV) -> Prop} (h : kO v k) : ∃ n c, v = .agg n c /\ k n c := by
 unfold kO at h; split at h
 .exact ⟨_, _, rfl, h⟩
 .exact h.elim
theorem yY {b : Bool} {A B : Prop} (h : kif b A B) : (b = true /\ A) \/ (b = false /\ B) := by
 cases b
 .exact .inr ⟨rfl, h⟩
 .exact .inl ⟨rfl, h⟩
theorem tE {n : Nat} {A : Prop} (h : kT n A) : (∃ k, n = k + 1) /\ A := by
 cases n with
 | zero => exact h.elim
 | succ k => exact ⟨⟨k, rfl⟩, h⟩
theorem vP {m : Mem} {b : Nat} {k : Blk -> Prop} (h : kobj m b k) : ∃ x, m.obj b = some x /\ k x := by
 unfold kobj at h; split at h
 .exact ⟨_, by assumption, h⟩
 .exact h.elim
theorem ySw {v : AV} {k : AV -> Prop} (h : kA v k) : k v := by
 unfold kA at h; split at h <;> first | exact h.elim | exact h
theorem yDc {kd : IntKind} {v : AV} {k : Int -> Prop} (h : kI kd v k) : ∃ n, v = .flat (.int kd n) /\ k n := by
 unfold kI at h; split at h
 .rw [zO] at h
  split at h
  .rename_i e; subst e; exact ⟨_, rfl, h⟩
  .exact h.elim
 .exact h.elim
theorem zMe {v : AV} {k : ByteArray -> Prop} (h : kS v k) : ∃ n, v = .flat (.string n) /\ k n := by
 unfold kS at h; split at h
 .exact ⟨_, rfl, h⟩
 .exact h.elim
theorem zOo {P : Program} {t : TypeId} {v : AV} {k : AV -> Prop} (h : zN3 P t v k) : (∃ d, P.underlying t = some d) /\ k v := by
 unfold zN3 at h
 split at h
 .rename_i e; obtain ⟨n, hv, h2⟩ := yDc h; rw [hv]; exact ⟨⟨_, e⟩, h2⟩
 .rename_i e; obtain ⟨n, hv, h2⟩ := nJ h; rw [hv]; exact ⟨⟨_, e⟩, h2⟩
 .rename_i e; obtain ⟨n, hv, h2⟩ := zMe h; rw [hv]; exact ⟨⟨_, e⟩, h2⟩
 .rename_i d e1 e2 e3 e; exact ⟨⟨_, e⟩, ySw h⟩
 .exact h.elim
theorem mE {P : Program} {t : TypeId} (h : yS P t = true) : ∃ d, P.underlying t = some d := by
 unfold yS at h
 cases e : P.underlying t with
 | none => simp [e] at h
 | some d => exact ⟨d, rfl⟩
theorem zNy {P : Program} {t : TypeId} {n : Nat} {c : Nat -> AV} {off : Nat} {k : AV -> Prop} {g : Gh} {a : Array Value} (h : zAi P t n c off k)
  (hs : a.size = n) (hc : ∀ i, i < n -> CR g (c i) (a.getD i undef)) : ∃ v v', pv P (part t a off) = some v' /\ VR g v v' /\ k v := by
 unfold zAi at h
 simp only [zO] at h
 split at h
 .rename_i e
  obtain ⟨d, hd⟩ := mE e
  obtain ⟨i, hi⟩ := tA hd
  split at h
  .rename_i hle
   refine ⟨_, .agg (a.extract off (off + P.cellsOf t)), ?_, ?_, h⟩
   .unfold part; rw [zM, kP hd, e]; simp [zM, xA hi]
   .refine ⟨_, rfl, by simp; omega, fun j hj => ?_⟩
    simp only [sub, if_pos hj]
    have := hc (off + j) (by omega)
    have h1 : off + j < a.size := by omega
    have h2 : j < min (off + P.cellsOf t) a.size - off := by omega
    simpa [Array.getD, h1, h2] using this
  .exact h.elim
 .rename_i e
  split at h
  .rename_i hlt
   obtain ⟨⟨d, hd⟩, h⟩ := zOo h
   refine ⟨c off, a.getD off undef, ?_, zCe (hc off hlt), h⟩
   unfold part; rw [zM, kP hd, e]
   have h1 : off < a.size := by omega
   simp [h1, Array.getD]
  .exact h.elim
structure SR (g : Gh) (σ : Nat -> AV) (a : Act) (n : Nat) : Prop where
 tm : ∀ t, VR g (σ t) (a.tmps.getD t undef)
 sz : a.tmps.size = n
 df : a.defers = []
theorem SR.ext {g g' : Gh} {σ : Nat -> AV} {a : Act} {n : Nat} (h : SR g σ a n) (hw : g.wf) (E : Ext g g') : SR g' σ a n := ⟨fun t => yBp hw E (h.tm t), h.sz, h.df⟩
theorem zO4 (g : Gh) (v : Value) : VR g (zMr v) v := by
 unfold zMr
 split
 .rename_i cs
  split
  .rename_i hall
   refine ⟨cs, rfl, rfl, fun i hi => ?_⟩
   have hl : ∀ (l : List Value) (i : Nat), i < l.length -> zH (l.map AV.flat) i = .flat (l.getD i undef) := by
    intro l
    induction l with
    | nil => intro i h; simp at h
    | cons x l ih => intro i h; cases i with
     | zero => rfl
     | succ i => simpa [zH] using ih i (by simpa using h)
   rw [hl _ _ (by simpa using hi)]
   have e : cs.toList.getD i undef = cs.getD i undef := by simp [Array.getD, hi]
   rw [e]
   refine ⟨rfl, ?_⟩
   rw [List.all_eq_true] at hall
   refine hall _ ?_
   simp [Array.getD, hi]
  .trivial
 .rfl
theorem SR.eval {g : Gh} {σ : Nat -> AV} {a : Act} {n : Nat} (h : SR g σ a n) (x : Operand) : VR g (zS σ x) (a.eval x) := by
 cases x with
 | tmp t => exact h.tm t
 | const v => exact zO4 g v
 | global _ => trivial
 | func f => rfl
theorem SR.flat {g : Gh} {σ : Nat -> AV} {a : Act} {n : Nat} (h : SR g σ a n) {x : Operand} {v : Value} (e : zS σ x = .flat v) : a.eval x = v := by
 have := h.eval x; rw [e] at this; exact this
theorem SR.ptr {g : Gh} {σ : Nat -> AV} {a : Act} {n : Nat} (h : SR g σ a n) {x : Operand} {b o : Nat} (e : zS σ x = .ptr b o) : a.eval x = .pointer (some ⟨g.φ b, g.δ b + o, none⟩) /\ g.at b := by
 have := h.eval x; rw [e] at this; exact ⟨this.2, this.1⟩
theorem Addr.add_plain (b o d : Nat) : (⟨b, o, none⟩ : Addr).add d = ⟨b, o + d, none⟩ := by
 unfold Addr.add; split
 .rename_i h; subst h; rfl
 .rfl
theorem rD {P : Program} {σ : Nat -> AV} {o : Oper} {k : AV -> Prop} {g : Gh} {a : Act} {n : Nat} (S : SR g σ a n) (hs : ∀ cs b, o.op ≠ .select cs b) (h : qC P σ o k) :
  ∃ v v', pv P (execOp a.eval o) = some (.value v') /\ VR g v v' /\ k v := by
 unfold qC at h
 split at h
 .rename_i hall
  have e : execOp a.eval o = execOp (fun x => (zS σ x).val) o := execOp_congr o hs fun x hx => yGs (S.eval x) (by
   have := Array.all_eq_true_iff_forall_mem.1 hall x hx; exact this)
  split at h
  .rename_i v hv
   exact ⟨zMr v, v, by rw [e]; exact hv, zO4 g v, h⟩
  .exact h.elim
 .exact h.elim
theorem zEf {P : Program} {t : TypeId} {f : Nat} {fd : Field} (h : zAx P t f = some fd) : ∃ fs, P.underlying t = some (.struct fs) /\ fs[f]? = some fd := by
 unfold zAx at h
 split at h
 .rename_i fs hu; exact ⟨fs, hu, h⟩
 .cases h
theorem zF9 {P : Program} {t : TypeId} {x : AV} {x' : Value} {f : Nat} {k : AV -> Prop} {g : Gh} (hx : VR g x x') (h : lC P t x f k) :
  ∃ v v', pv P (Instr.fieldAt t x' f) = some v' /\ VR g v v' /\ k v := by
 unfold lC at h
 split at h
 .rename_i fd hfd
  obtain ⟨fs, hu, hf⟩ := zEf hfd
  obtain ⟨⟨c, hc⟩, h⟩ := tE h
  obtain ⟨b, o, rfl, h⟩ := uK h
  obtain ⟨hb, rfl⟩ := hx
  obtain ⟨i, hi, hsz⟩ := yU hc
  refine ⟨.ptr b (o + fd.offset), .pointer (some ⟨g.φ b, g.δ b + (o + fd.offset), none⟩), ?_, ⟨hb, rfl⟩, h⟩
  unfold Instr.fieldAt fieldPlace
  simp only [zM, zI hu, Option.bind_some, hf, Instr.sureAddr, pv_pure, xA hi, hc]
  simp [Addr.add_plain, Nat.add_assoc]
 .exact h.elim
theorem zX2 {P : Program} {t : TypeId} {x : AV} {x' : Value} {f : Nat} {k : AV -> Prop} {g : Gh} (hx : VR g x x') (h : zKc P t x f k) :
  ∃ v v', pv P (Instr.field t x' f) = some v' /\ VR g v v' /\ k v := by
 unfold zKc at h
 split at h
 .rename_i fd hfd
  obtain ⟨fs, hu, hf⟩ := zEf hfd
  obtain ⟨n, c, rfl, h⟩ := vS h
  obtain ⟨a, rfl, hs, hc⟩ := hx
  obtain ⟨v, v', h1, h2, h3⟩ := zNy h hs hc
  refine ⟨v, v', ?_, h2, h3⟩
  unfold Instr.field
  simp only [zM, zI hu, Option.bind_some, hf, asAgg, pv_pure, h1]
 .exact h.elim
theorem pV {P : Program} {t : TypeId} {e : TypeId} (h : qM P t = some e) : P.underlying t = some (.slice e) := by
 unfold qM at h; split at h
 .rename_i h1; rw [h1]; simp at h; rw [h]
 .cases h
theorem zF2 {P : Program} {t : TypeId} {x i : AV} {x' i' : Value} {k : AV -> Prop} {g : Gh} (hx : VR g x x') (hi : VR g i i') (h : mU P t x i k) :
  ∃ v v', pv P (Instr.indexAt t x' i') = some v' /\ VR g v v' /\ k v := by
 unfold mU at h
 obtain ⟨ik, n, rfl, h⟩ := vO h
 cases hi
 split at h
 .rename_i len e hu
  obtain ⟨⟨c, hc⟩, h⟩ := tE h
  obtain ⟨b, o, rfl, h⟩ := uK h
  obtain ⟨hb, rfl⟩ := hx
  obtain ⟨inf, hinf, hsz⟩ := yU hc
  rcases yY h with ⟨hd, h⟩ | ⟨_, h⟩
  .have hd' : 0 <= n /\ n < (len : Int) := by simpa using hd
   refine ⟨.ptr b (o + n.toNat * P.cellsOf e), .pointer (some ⟨g.φ b, g.δ b + (o + n.toNat * P.cellsOf e), none⟩), ?_, ⟨hb, rfl⟩, h⟩
   unfold Instr.indexAt
   simp only [asIntOf, zM, pv_pure, Option.bind_some, zI hu, Instr.sureAddr, hd', and_self, if_true, xA hinf, Addr.add_plain, Nat.add_assoc]
  .exact h.elim
 .rename_i e hu
  obtain ⟨⟨c, hc⟩, h⟩ := tE h
  obtain ⟨b, o, len, cap, rfl, h⟩ := yNn h
  obtain ⟨hb, c', rfl, hl, _⟩ := hx
  obtain ⟨inf, hinf, hsz⟩ := yU hc
  rcases yY h with ⟨hd, h⟩ | ⟨_, h⟩
  .have hd' : 0 <= n /\ n < (len : Int) := by simpa using hd
   refine ⟨.ptr b (o + n.toNat * P.cellsOf e), .pointer (some ⟨g.φ b, g.δ b + (o + n.toNat * P.cellsOf e), none⟩), ?_, ⟨hb, rfl⟩, h⟩
   unfold Instr.indexAt
   simp only [asIntOf, zM, pv_pure, Option.bind_some, zI hu, hd', and_self, if_true, xA hinf, Addr.add_plain, Nat.add_assoc]
  .exact h.elim
 .exact h.elim
theorem zYe {P : Program} {t : TypeId} {x i : AV} {x' i' : Value} {k : AV -> Prop} {g : Gh} (hx : VR g x x') (hi : VR g i i') (h : zJj P t x i k) :
  ∃ v v', pv P (Instr.index t x' i') = some v' /\ VR g v v' /\ k v := by
 unfold zJj at h
 obtain ⟨ik, n, rfl, h⟩ := vO h
 cases hi
 split at h
 .rename_i len e hu
  obtain ⟨⟨c1, hc1⟩, h⟩ := tE h
  obtain ⟨sz, c, rfl, h⟩ := vS h
  obtain ⟨a, rfl, hs, hc⟩ := hx
  obtain ⟨inf, hinf, hsz⟩ := yU hc1
  rcases yY h with ⟨hd, h⟩ | ⟨_, h⟩
  .have hd' : 0 <= n /\ n < (len : Int) := by simpa using hd
   obtain ⟨v, v', h1, h2, h3⟩ := zNy h hs hc
   refine ⟨v, v', ?_, h2, h3⟩
   unfold Instr.index
   simp only [asIntOf, zM, pv_pure, Option.bind_some, zI hu, hd', and_self, if_true, xA hinf, h1]
  .exact h.elim
 .rename_i hu
  obtain ⟨s, rfl, h⟩ := zMe h
  cases hx
  rcases yY h with ⟨hd, h⟩ | ⟨_, h⟩
  .have hd' : 0 <= n /\ n < (s.size : Int) := by simpa using hd
   have hlt : n.toNat < s.size := by omega
   refine ⟨.flat (.int .u8 (s.data.getD n.toNat 0).toNat), .int .u8 (s.data.getD n.toNat 0).toNat, ?_, rfl, h⟩
   have e : s[n.toNat]? = some (s.data.getD n.toNat 0) := by
    have hlt2 : n.toNat < s.data.size := hlt
    rw [getElem?_pos s n.toNat hlt]
    simp only [Array.getD, hlt2, dif_pos]
    rfl
   unfold Instr.index
   simp only [asIntOf, zM, pv_pure, Option.bind_some, zI hu, hd'.1, if_true, e]
  .exact h.elim
 .exact h.elim
theorem All2.append {α β : Type} {R : α -> β -> Prop} : ∀ {l : List α} {l' : List β} {r : List α} {r' : List β}, All2 R l l' -> All2 R r r' -> All2 R (l ++ r) (l' ++ r')
 | [], [], _, _, _, h => h
 | _ :: _, _ :: _, _, _, h, h' => ⟨h.1, All2.append h.2 h'⟩
 | [], _ :: _, _, _, h, _ => h.elim
 | _ :: _, [], _, _, h, _ => h.elim
theorem All2.get {α β : Type} {R : α -> β -> Prop} : ∀ {l : List α} {l' : List β} {i : Nat} {a : α}, All2 R l l' -> l[i]? = some a -> ∃ b, l'[i]? = some b /\ R a b
 | a :: l, b :: l', 0, x, h, e => ⟨b, rfl, by simp at e; subst e; exact h.1⟩
 | a :: l, b :: l', i + 1, x, h, e => All2.get (l := l) (l' := l') (i := i) h.2 (by simpa using e)
 | [], [], i, x, h, e => by simp at e
 | [], _ :: _, i, x, h, e => h.elim
 | _ :: _, [], i, x, h, e => h.elim
end Go.Proofs.YtkiggdgphbkneaaGreat.Am
