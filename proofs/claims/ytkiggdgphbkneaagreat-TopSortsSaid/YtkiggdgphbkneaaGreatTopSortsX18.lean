/- What a law is given: its arguments as abstract values over blocks that are there; what the machine asks of the law, the real call does. No program in sight. -/
import Derived.Test.YtkiggdgphbkneaaGreatTopSortsX17
namespace Go.Proofs.YtkiggdgphbkneaaGreat.Am
set_option linter.unusedVariables false
set_option linter.unusedSimpArgs false
set_option linter.unusedSectionVars false
inductive Lf
 | b
 | i (k : IntKind)
 | s
 | sl (ls : List Lf)
def catShapes : List (Option (Nat × List Lf)) → Nat → Option (List Lf)
 | [], _ => some []
 | none :: _, _ => none
 | some (o, ls) :: r, at' => match o == at' with
  | true => (match catShapes r (at' + ls.length) with | some l => some (ls ++ l) | none => none)
  | false => none
def shapeOf (P : Program) : Nat → TypeId → Option (List Lf)
 | 0, _ => none
 | d + 1, t => match P.underlying t with
  | some .bool => some [.b]
  | some (.int k) => some [.i k]
  | some .string => some [.s]
  | some (.slice e) => (match shapeOf P d e with
   | some ls => (match ls.length == P.cellsOf e && Nat.ble 1 ls.length with | true => some [.sl ls] | false => none)
   | none => none)
  | some (.struct fs) => (match catShapes (fs.toList.map fun f => match shapeOf P d f.type with | some ls => (match ls.length == P.cellsOf f.type with | true => some (f.offset, ls) | false => none) | none => none) 0 with
   | some ls => (match ls.length == P.cellsOf t with | true => some ls | false => none)
   | none => none)
  | _ => none
inductive Ty (m : Mem) : Lf → AV → Prop
 | b (x : Bool) : Ty m .b (.flat (.bool x))
 | i (k : IntKind) (n : Int) (h : (Lit.int k n).wf = true) : Ty m (.i k) (.flat (.int k n))
 | s (x : ByteArray) (h : x.size ≤ maxLen) : Ty m .s (.flat (.string x))
 | nil (ls : List Lf) (a : Option Addr) : Ty m (.sl ls) (.flat (.slice a 0 0))
 | sl (ls : List Lf) (b len cap : Nat) (x : Blk) (h1 : len ≤ cap) (h2 : 0 < cap) (h3 : cap ≤ maxLen) (h4 : m.obj b = some x) (h5 : x.n = cap * ls.length)
   (h6 : ∀ j, j < cap → ∀ i l, ls[i]? = some l → Ty m l (x.c (j * ls.length + i))) : Ty m (.sl ls) (.sl b 0 len (.ex cap))
theorem Ty.keep {m m' : Mem} (K : Keeps m m') {l : Lf} {v : AV} (h : Ty m l v) : Ty m' l v := by
 induction h with
 | b x => exact .b x
 | i k n h => exact .i k n h
 | s x h => exact .s x h
 | nil ls a => exact .nil ls a
 | sl ls b len cap x h1 h2 h3 h4 h5 _ ih => exact .sl ls b len cap x h1 h2 h3 (by rw [K b (by rw [h4]; simp)]; exact h4) h5 ih
theorem Keeps.refl (m : Mem) : Keeps m m := fun _ _ => rfl
theorem Keeps.trans {a b c : Mem} (h : Keeps a b) (h' : Keeps b c) : Keeps a c := fun k hk => by
 have e := h k hk
 rw [h' k (by rw [e]; exact hk), e]
theorem Keeps.set {m : Mem} {b : Nat} (hb : m.obj b = none) (x : Blk) : Keeps m (m.set b x) := fun b' h => by
 have : b' ≠ b := fun e => h (e ▸ hb)
 rw [set_other x this]
def SizesOf (W : World) (g : Gh) : Prop := ∀ (r : Nat) (c : Array Value) t fr, W.heap[r]? = some (.cells c t fr) → g.S r = c.size
theorem R.nomap0 {W : World} {g : Gh} {m : Mem} (h : R W g m W) {b : Nat} {x : Blk} (hb : m.obj b = some x) : g.mp b = false := by
 cases e : g.mp b with
 | false => rfl
 | true =>
  have h1 := (h.mpb b x hb e).2.2.1
  have h2 := h.wf b (h.live hb)
  rw [← h.hs] at h2
  omega
theorem R.adopt {W : World} {g : Gh} {m : Mem} (h : R W g m W) (hS : SizesOf W g) {b : Nat} (hb : m.obj b = none) (x : Blk) (hro : x.ro = true) {r d : Nat} {c : Array Value} {t : TypeId} {fr : Nat × Nat}
  (hr : W.heap[r]? = some (.cells c t fr)) (hd : d + x.n ≤ c.size) (hc : ∀ i, i < x.n → CR g (x.c i) (c.getD (d + i) undef)) :
  ∃ g', Ext g g' ∧ R W g' (m.set b x) W ∧ SizesOf W g' ∧ g'.at b ∧ g'.φ b = r ∧ g'.δ b = d := by
 have hnd : ¬ g.dom b := fun hd => (h.dom b).1 hd hb
 have hlt : r < W.heap.size := (Array.getElem?_eq_some_iff.1 hr).1
 have E : Ext g ⟨fun b' => if b' = b then r else g.φ b', fun b' => if b' = b then d else g.δ b', g.S, fun b' => b' = b ∨ g.dom b', g.hs, fun b' => if b' = b then false else g.mp b'⟩ :=
  ⟨fun b' h => .inr h, Nat.le_refl _, fun b' hb' => by have : b' ≠ b := fun e => hnd (e ▸ hb'); simp [this], fun b' hb' => by have : b' ≠ b := fun e => hnd (e ▸ hb'); simp [this], fun _ _ => rfl, fun b' hb' => by have : b' ≠ b := fun e => hnd (e ▸ hb'); simp [this]⟩
 refine ⟨_, E, ⟨fun b' => ?_, h.hs, fun b' hb' => ?_, fun b1 b2 y1 y2 e1 e2 hr1 hφ => ?_, fun b' y e em => ?_, fun b' y e em => ?_, fun _ _ => rfl, Nat.le_refl _, rfl, rfl, rfl⟩, hS, ⟨.inl rfl, by simp⟩, by simp, by simp⟩
 ·by_cases c : b' = b
  ·subst c; simp [set_same]
  ·rw [set_other x c]; simp [c, h.dom b']
 ·by_cases c : b' = b
  ·simp only [c, if_true]; rw [← h.hs]; exact hlt
  ·simp only [if_neg c]; exact h.wf b' (hb'.resolve_left c)
 ·by_cases c1 : b1 = b
  ·subst c1; rw [set_same] at e1; cases e1; rw [hro] at hr1; cases hr1
  ·rw [set_other x c1] at e1
   obtain ⟨_, _, _, _, _, _, _, hf⟩ := h.blk b1 y1 e1 (h.nomap0 e1)
   have h1 := (hf hr1).2.2.1
   have := h.wf b1 (h.live e1)
   rw [← h.hs] at this
   omega
 ·by_cases c1 : b' = b
  ·subst c1; rw [set_same] at e; cases e
   simp only [if_true]
   exact ⟨c, t, fr, hr, hd, hS r c t fr hr, fun i hi => CR_ext h.wf E (hc i hi), fun hf => by rw [hro] at hf; cases hf⟩
  ·rw [set_other x c1] at e
   obtain ⟨c2, t2, fr2, k1, k2, k3, k4, k5⟩ := h.blk b' y e (h.nomap0 e)
   simp only [if_neg c1]
   exact ⟨c2, t2, fr2, k1, k2, k3, fun i hi => CR_ext h.wf E (k4 i hi), k5⟩
 ·by_cases c1 : b' = b
  ·simp [c1] at em
  ·rw [set_other x c1] at e
   simp only [if_neg c1] at em
   rw [h.nomap0 e] at em; cases em
section
variable {H : Type} {enc : TypeId × Value → H} {P : Program} {W : World} {b0 : Nat}
def CellsAt (W : World) (ls : List Lf) (cs : List Value) (g : Gh) (m : Mem) (c : Nat → AV) : Prop :=
 cs.length = ls.length ∧ ∀ i l, ls[i]? = some l → CR g (c i) (cs.getD i undef) ∧ Ty m l (c i)
def Grown (W : World) (g : Gh) (m : Mem) (g' : Gh) (m' : Mem) : Prop := Ext g g' ∧ Keeps m m' ∧ R W g' m' W ∧ SizesOf W g'
theorem Grown.refl {g : Gh} {m : Mem} (h : R W g m W) (hS : SizesOf W g) : Grown W g m g m := ⟨Ext.refl g, Keeps.refl m, h, hS⟩
theorem Grown.trans {g g1 g2 : Gh} {m m1 m2 : Mem} (h : Grown W g m g1 m1) (h' : Grown W g1 m1 g2 m2) : Grown W g m g2 m2 := ⟨h.1.trans h'.1, h.2.1.trans h'.2.1, h'.2.2⟩
theorem CellsAt.grow {ls : List Lf} {cs : List Value} {g g' : Gh} {m m' : Mem} {c : Nat → AV} (h : CellsAt W ls cs g m c) (hw : g.wf) (G : Grown W g m g' m') : CellsAt W ls cs g' m' c :=
 ⟨h.1, fun i l e => ⟨CR_ext hw G.1 (h.2 i l e).1, (h.2 i l e).2.keep G.2.1⟩⟩
def Opens (enc : TypeId × Value → H) (P : Program) (W : World) (t : TypeId) (ls : List Lf) : Prop :=
 ∀ (fuel : Nat) (cs : List Value) (x : DataW H × List MemPlace), DataW.trod enc P W 0 (fun _ => true) true fuel t cs = some x → ∀ (g : Gh) (m : Mem), R W g m W → SizesOf W g →
  ∃ (g' : Gh) (m' : Mem) (c : Nat → AV), Grown W g m g' m' ∧ CellsAt W ls cs g' m' c
theorem catShapes_opens : ∀ (l : List (Option (Nat × List Lf))) (at' : Nat) (ls : List Lf), catShapes l at' = some ls → ∀ (ps : List (List Value)) (cs : List Value), l.length = ps.length →
  (∀ (i : Nat) (o : Nat × List Lf) (p : List Value), l[i]? = some (some o) → ps[i]? = some p → p = (cs.drop o.1).take o.2.length ∧ p.length = o.2.length ∧ ∀ (g : Gh) (m : Mem), R W g m W → SizesOf W g → ∃ (g' : Gh) (m' : Mem) (c : Nat → AV), Grown W g m g' m' ∧ CellsAt W o.2 p g' m' c) →
  ∀ (g : Gh) (m : Mem), R W g m W → SizesOf W g → ∃ (g' : Gh) (m' : Mem) (c : Nat → AV), Grown W g m g' m' ∧ ∀ i l, ls[i]? = some l → CR g' (c i) (cs.getD (at' + i) undef) ∧ Ty m' l (c i)
 | [], at', ls, h, ps, cs, hl, hp, g, m, HR, hS => by
  simp only [catShapes, Option.some.injEq] at h; subst h
  exact ⟨g, m, fun _ => .junk, Grown.refl HR hS, fun i l e => by simp at e⟩
 | none :: r, at', ls, h, ps, cs, hl, hp, g, m, HR, hS => by simp [catShapes] at h
 | some (o, l1) :: r, at', ls, h, [], cs, hl, hp, g, m, HR, hS => by simp at hl
 | some (o, l1) :: r, at', ls, h, p :: ps, cs, hl, hp, g, m, HR, hS => by
  simp only [catShapes] at h
  split at h
  ·rename_i ho
   have ho : o = at' := by simpa using ho
   subst ho
   split at h
   ·rename_i l2 h2
    simp only [Option.some.injEq] at h
    subst h
    obtain ⟨e1, e2, k⟩ := hp 0 (o, l1) p (by simp) (by simp)
    obtain ⟨g1, m1, c1, G1, C1⟩ := k g m HR hS
    obtain ⟨g2, m2, c2, G2, C2⟩ := catShapes_opens r (o + l1.length) l2 h2 ps cs (by simpa using hl) (fun i o' p' h1 h2 => hp (i + 1) o' p' (by simpa using h1) (by simpa using h2)) g1 m1 G1.2.2.1 G1.2.2.2
    have C1' := C1.grow G1.2.2.1.wf G2
    refine ⟨g2, m2, fun i => if i < l1.length then c1 i else c2 (i - l1.length), G1.trans G2, fun i l e => ?_⟩
    by_cases hi : i < l1.length
    ·rw [List.getElem?_append_left hi] at e
     have := C1'.2 i l e
     rw [e1] at this
     simp only [if_pos hi]
     refine ⟨?_, this.2⟩
     have e3 : ((cs.drop o).take l1.length).getD i undef = cs.getD (o + i) undef := by
      simp [List.getD, List.getElem?_take, hi]
     rw [← e3]; exact this.1
    ·rw [List.getElem?_append_right (by omega)] at e
     have := C2 (i - l1.length) l e
     simp only [if_neg hi]
     have e3 : o + l1.length + (i - l1.length) = o + i := by omega
     rw [e3] at this
     exact this
   ·cases h
  ·cases h
theorem opens : ∀ (D : Nat) (t : TypeId) (ls : List Lf), shapeOf P D t = some ls → Opens enc P W t ls := by
 intro D
 induction D with
 | zero => intro t ls h; simp [shapeOf] at h
 | succ D ih =>
  intro t ls h fuel cs x hx g m HR hS
  unfold shapeOf at h
  split at h
  ·rename_i hu
   simp only [Option.some.injEq] at h; subst h
   obtain ⟨b, rfl, _⟩ := DataW.trod_bool hu hx
   refine ⟨g, m, fun _ => .flat (.bool b), Grown.refl HR hS, rfl, fun i l e => ?_⟩
   cases i with
   | zero => simp at e; subst e; exact ⟨⟨rfl, rfl⟩, .b b⟩
   | succ i => simp at e
  ·rename_i k hu
   simp only [Option.some.injEq] at h; subst h
   obtain ⟨n, rfl, _, hw⟩ := DataW.trod_int hu hx
   refine ⟨g, m, fun _ => .flat (.int k n), Grown.refl HR hS, rfl, fun i l e => ?_⟩
   cases i with
   | zero => simp at e; subst e; exact ⟨⟨rfl, rfl⟩, .i k n hw⟩
   | succ i => simp at e
  ·rename_i hu
   simp only [Option.some.injEq] at h; subst h
   obtain ⟨s, rfl, _, hw⟩ := DataW.trod_string hu hx
   refine ⟨g, m, fun _ => .flat (.string s), Grown.refl HR hS, rfl, fun i l e => ?_⟩
   cases i with
   | zero => simp at e; subst e; exact ⟨⟨rfl, rfl⟩, .s s hw⟩
   | succ i => simp at e
  ·rename_i e hu
   cases hl : shapeOf P D e with
   | none => rw [hl] at h; simp at h
   | some el =>
    rw [hl] at h
    dsimp only at h
    split at h
    ·rename_i hlen
     simp only [Bool.and_eq_true, beq_iff_eq, Nat.ble_eq] at hlen
     simp only [Option.some.injEq] at h; subst h
     have flat : ∀ a, cs = [.slice a 0 0] → ∃ (g' : Gh) (m' : Mem) (c : Nat → AV), Grown W g m g' m' ∧ CellsAt W [Lf.sl el] cs g' m' c := fun a ha => by
      subst ha
      refine ⟨g, m, fun _ => .flat (.slice a 0 0), Grown.refl HR hS, rfl, fun i l e => ?_⟩
      cases i with
      | zero => simp at e; subst e; exact ⟨⟨rfl, rfl⟩, .nil el a⟩
      | succ i => simp at e
     rcases Deep.open_slice hu hx with ⟨rfl, _⟩ | ⟨a, len, cap, mm, n, Dd, Pl, rfl, hb, hl1, hm, hmm, _, hel⟩
     ·exact flat none rfl
     ·simp only [if_true] at hmm
      rw [hmm] at hel
      by_cases hc0 : cap = 0
      ·subst hc0
       obtain rfl : len = 0 := by omega
       exact flat (some a) rfl
      · -- each element in turn
       have key : ∀ k, k ≤ cap → ∃ (g' : Gh) (m' : Mem) (c : Nat → AV), Grown W g m g' m' ∧ ∀ j, j < k → ∀ i l, el[i]? = some l → (∃ v, W.cell? (a.add (j * P.cellsOf e) |>.add i) = some v ∧ CR g' (c (j * el.length + i)) v) ∧ Ty m' l (c (j * el.length + i)) := by
        intro k
        induction k with
        | zero => intro _; exact ⟨g, m, fun _ => .junk, Grown.refl HR hS, fun j hj => by omega⟩
        | succ k ihk =>
         intro hk
         obtain ⟨g1, m1, c1, G1, C1⟩ := ihk (by omega)
         obtain ⟨cs', h1, h2⟩ := hel k (by omega)
         obtain ⟨g2, m2, c2, G2, C2⟩ := ih e el hl n cs' _ h2 g1 m1 G1.2.2.1 G1.2.2.2
         refine ⟨g2, m2, fun q => if q < k * el.length then c1 q else c2 (q - k * el.length), G1.trans G2, fun j hj i l hi => ?_⟩
         have hi' : i < el.length := (List.getElem?_eq_some_iff.1 hi).1
         by_cases hjk : j < k
         ·have hlt : j * el.length + i < k * el.length := by
           have := Nat.mul_le_mul_right el.length hjk
           rw [Nat.succ_mul] at this; omega
          simp only [if_pos hlt]
          obtain ⟨⟨v, hv, hcr⟩, ht⟩ := C1 j hjk i l hi
          exact ⟨⟨v, hv, CR_ext G1.2.2.1.wf G2.1 hcr⟩, ht.keep G2.2.1⟩
         ·obtain rfl : j = k := by omega
          have hlt : ¬ j * el.length + i < j * el.length := by omega
          simp only [if_neg hlt, Nat.add_sub_cancel_left]
          obtain ⟨hcr, ht⟩ := C2.2 i l hi
          refine ⟨⟨cs'.getD i undef, ?_, hcr⟩, ht⟩
          obtain ⟨_, h3, h4⟩ := World.cells?_some h1
          have h5 := C2.1
          have := h4 i (by omega)
          rw [this]
          simp [List.getD, show i < cs'.length by omega]
       obtain ⟨g1, m1, c1, G1, C1⟩ := key cap (Nat.le_refl _)
       -- the address is plain, and its block there
       have hel0 : ∃ l0, el[0]? = some l0 := ⟨el[0]'(by omega), by simp [show 0 < el.length by omega]⟩
       obtain ⟨l0, hl0⟩ := hel0
       obtain ⟨⟨v0, hv0, _⟩, _⟩ := C1 0 (by omega) 0 l0 hl0
       obtain ⟨ab, ao, asp⟩ := a
       have hsp : asp = none := by
        simp [Addr.add, World.cell?] at hv0
        split at hv0
        ·split at hv0
         ·cases hv0
         ·rename_i h; simpa using h
        ·cases hv0
       subst hsp
       have hcell : ∀ q, q < cap * el.length → ∃ v, W.cell? ⟨ab, ao + q, none⟩ = some v ∧ CR g1 (c1 q) v := by
        intro q hq
        have hpos : 0 < el.length := by omega
        have hj : q / el.length < cap := Nat.div_lt_of_lt_mul (by rw [Nat.mul_comm]; exact hq)
        have hi : q % el.length < el.length := Nat.mod_lt _ hpos
        obtain ⟨⟨v, hv, hcr⟩, _⟩ := C1 (q / el.length) hj (q % el.length) _ (List.getElem?_eq_getElem hi)
        have hq2 : q / el.length * el.length + q % el.length = q := by rw [Nat.mul_comm]; exact Nat.div_add_mod q el.length
        rw [hq2] at hcr
        refine ⟨v, ?_, hcr⟩
        rw [Addr.add_plain, Addr.add_plain, ← hlen.1, Nat.add_assoc, hq2] at hv
        exact hv
       have hheap : ∃ cc t fr, W.heap[ab]? = some (.cells cc t fr) := by
        obtain ⟨v, hv, _⟩ := hcell 0 (Nat.mul_pos (by omega) (by omega))
        simp only [World.cell?] at hv
        split at hv
        ·rename_i cc t fr he; exact ⟨cc, t, fr, he⟩
        ·cases hv
       obtain ⟨cc, tt, fr, hheap⟩ := hheap
       have hget : ∀ q, q < cap * el.length → ao + q < cc.size ∧ CR g1 (c1 q) (cc.getD (ao + q) undef) := by
        intro q hq
        obtain ⟨v, hv, hcr⟩ := hcell q hq
        simp only [World.cell?, hheap, Option.isSome_none, Bool.false_eq_true, if_false] at hv
        obtain ⟨hlt, hv⟩ := Array.getElem?_eq_some_iff.1 hv
        refine ⟨hlt, ?_⟩
        simp only [Array.getD, hlt, dif_pos]
        rw [show cc.getInternal (ao + q) hlt = v from hv]
        exact hcr
       obtain ⟨b, hb⟩ := m1.fresh
       have hd : ao + cap * el.length ≤ cc.size := by
        have h1 : 0 < cap * el.length := Nat.mul_pos (by omega) (by omega)
        have := (hget (cap * el.length - 1) (by omega)).1
        omega
       obtain ⟨g2, E2, HR2, hS2, hdom, hφ, hδ⟩ := R.adopt G1.2.2.1 G1.2.2.2 hb ⟨cap * el.length, c1, e, true⟩ rfl hheap hd (fun i hi => (hget i hi).2)
       have G2 : Grown W g1 m1 g2 (m1.set b ⟨cap * el.length, c1, e, true⟩) := ⟨E2, Keeps.set hb _, HR2, hS2⟩
       refine ⟨g2, _, fun _ => .sl b 0 len (.ex cap), G1.trans G2, rfl, fun i l hi => ?_⟩
       cases i with
       | zero =>
        simp at hi; subst hi
        refine ⟨⟨hdom, cap, ?_, hl1, rfl⟩, .sl el b len cap _ hl1 (by omega) hm (set_same _ _ _) rfl fun j hj i l hi => ((C1 j hj i l hi).2).keep G2.2.1⟩
        show Value.slice (some ⟨ab, ao, none⟩) len cap = _
        rw [hφ, hδ]; rfl
       | succ i => simp at hi
    ·cases h
  ·rename_i fs hu
   split at h
   rotate_left
   ·cases h
   rename_i ls' hcat
   split at h
   rotate_left
   ·cases h
   rename_i hlen
   simp only [Option.some.injEq] at h
   subst h
   obtain ⟨xs, n, _, _, hcl, hxl, hf⟩ := DataW.trod_struct hu hx
   have hps : ∀ i (f : Field), fs[i]? = some f → ∃ y, DataW.trod enc P W 0 (fun _ => true) true n f.type ((cs.drop f.offset).take (P.cellsOf f.type)) = some y := fun i f hi => by
    have := hf i f hi
    have hlt : i < xs.length := by rw [hxl]; exact (Array.getElem?_eq_some_iff.1 hi).1
    rw [List.getElem?_eq_getElem hlt] at this
    exact ⟨_, this⟩
   obtain ⟨g1, m1, c1, G1, C1⟩ := catShapes_opens (W := W) _ 0 ls' hcat (fs.toList.map fun f => (cs.drop f.offset).take (P.cellsOf f.type)) cs (by simp) (fun i o p h1 h2 => by
    simp only [List.getElem?_map, Option.map_eq_some_iff] at h1 h2
    obtain ⟨f, hf1, h1⟩ := h1
    obtain ⟨f', hf2, rfl⟩ := h2
    rw [hf1] at hf2
    cases hf2
    cases hl : shapeOf P D f.type with
    | none => rw [hl] at h1; simp at h1
    | some el =>
     rw [hl] at h1
     dsimp only at h1
     split at h1
     ·rename_i hlen
      have hlen : el.length = P.cellsOf f.type := by simpa using hlen
      simp only [Option.some.injEq] at h1
      subst h1
      obtain ⟨y, hy⟩ := hps i f (by simpa using hf1)
      refine ⟨by rw [hlen], ?_, fun g m HR hS => ih f.type el hl n _ y hy g m HR hS⟩
      obtain ⟨g', m', c, G, C⟩ := ih f.type el hl n _ y hy g m HR hS
      exact C.1
     ·cases h1) g m HR hS
   exact ⟨g1, m1, c1, G1, by rw [hcl]; exact (by simpa using hlen : ls'.length = P.cellsOf t).symm, fun i l e => by have := C1 i l e; rwa [Nat.zero_add] at this⟩
  ·cases h
theorem okWide_plain {D : Nat} {t : TypeId} {v : Value} {r : Reach} {b0 : Nat} (h : Value.okWide P W r b0 t v) (ha : isAggB P t = false) (hs : (∃ ls, shapeOf P D t = some ls)) : ∀ cs, v ≠ .agg cs := by
 intro cs e
 subst e
 obtain ⟨ls, hs⟩ := hs
 cases D with
 | zero => simp [shapeOf] at hs
 | succ D =>
  cases hu : P.underlying t with
  | none => simp [shapeOf, hu] at hs
  | some d =>
   unfold Value.okWide at h
   rw [hu] at h
   unfold isAggB at ha
   rw [hu] at ha
   cases d <;> first | (simp [shapeOf, hu] at hs; done) | (simp at ha; done) | (simp [Cell.okWide, Cell.ok, hu] at h; done)
def ArgOK (P : Program) (m : Mem) (t : TypeId) (ls : List Lf) (x : AV) : Prop := match isAggB P t with
 | true => ∃ c, x = .agg ls.length c ∧ ∀ i l, ls[i]? = some l → Ty m l (c i)
 | false => ∃ l, ls = [l] ∧ Ty m l x
theorem ArgOK.keep {m m' : Mem} (K : Keeps m m') {t : TypeId} {ls : List Lf} {x : AV} (h : ArgOK P m t ls x) : ArgOK P m' t ls x := by
 unfold ArgOK at h ⊢
 split at h
 ·obtain ⟨c, e, h⟩ := h; exact ⟨c, e, fun i l hi => (h i l hi).keep K⟩
 ·obtain ⟨l, e, h⟩ := h; exact ⟨l, e, h.keep K⟩
theorem open_arg {D : Nat} {t : TypeId} {ls : List Lf} (hs : shapeOf P D t = some ls) {v : Value} {d : DataW H} {p : List MemPlace} (h : DataW.Trod enc P W 0 (fun _ => true) true t v d p) (hv : Value.okWide P W .any b0 t v) {g : Gh} {m : Mem} (HR : R W g m W) (hS : SizesOf W g) :
  ∃ g' m' x, Grown W g m g' m' ∧ VR g' x v ∧ ArgOK P m' t ls x := by
 obtain ⟨fuel, hx⟩ := h
 obtain ⟨g', m', c, G, hl, C⟩ := opens (enc := enc) D t ls hs fuel v.cells.toList _ hx g m HR hS
 cases ha : isAggB P t with
 | true =>
  have hcs : ∃ cs, v = .agg cs := by
   unfold Value.okWide at hv
   unfold isAggB at ha
   split at hv
   ·obtain ⟨cs, e, _⟩ := hv; exact ⟨cs, e⟩
   ·obtain ⟨cs, e, _⟩ := hv; exact ⟨cs, e⟩
   ·split at ha <;> simp_all
  obtain ⟨cs, rfl⟩ := hcs
  have hsz : cs.size = ls.length := by simpa [Value.cells] using hl
  refine ⟨g', m', .agg ls.length c, G, ⟨cs, rfl, hsz, fun i hi => ?_⟩, ?_⟩
  ·have := (C i _ (List.getElem?_eq_getElem hi)).1
   have e : (Value.agg cs).cells.toList.getD i undef = cs.getD i undef := by
    simp [Value.cells, List.getD, Array.getD, show i < cs.size by omega]
   rw [e] at this; exact this
  ·unfold ArgOK; rw [ha]; exact ⟨c, rfl, fun i l hi => (C i l hi).2⟩
 | false =>
  have hna := okWide_plain hv ha ⟨ls, hs⟩
  have hcs : v.cells = #[v] := by cases v <;> first | rfl | exact absurd rfl (hna _)
  rw [hcs] at hl C
  have hl1 : ls.length = 1 := by simpa using hl.symm
  obtain ⟨l, rfl⟩ := List.length_eq_one_iff.1 hl1
  obtain ⟨h1, h2⟩ := C 0 l rfl
  refine ⟨g', m', c 0, G, VR_of_CR (by simpa using h1), ?_⟩
  unfold ArgOK; rw [ha]; exact ⟨l, rfl, h2⟩
theorem open_args {D : Nat} : ∀ (ts : List TypeId) (ss : List (List Lf)), ts.map (shapeOf P D) = ss.map some → ∀ (vs : List Value) (ds : List (DataW H)) (p : List MemPlace), DataW.TrodAll enc P W 0 (fun _ => true) true ts vs ds p →
  (∀ (j : Nat) t v, ts[j]? = some t → vs[j]? = some v → Value.okWide P W .any b0 t v) → ∀ (g : Gh) (m : Mem), R W g m W → SizesOf W g →
  ∃ g' m' xs, Grown W g m g' m' ∧ All2 (VR g') xs vs ∧ All2 (fun (y : TypeId × List Lf) x => ArgOK P m' y.1 y.2 x) (ts.zip ss) xs
 | [], [], _, vs, ds, p, h, _, g, m, HR, hS => by
  obtain ⟨rfl, _, _⟩ := ChangeShapes.trodAll_nil h
  exact ⟨g, m, [], Grown.refl HR hS, trivial, trivial⟩
 | t :: ts, ls :: ss, hss, vs, ds, p, h, hv, g, m, HR, hS => by
  obtain ⟨v, vs', d, ds', p1, q, rfl, rfl, rfl, h0, h1⟩ := ChangeShapes.trodAll_cons h
  simp only [List.map_cons, List.cons.injEq] at hss
  obtain ⟨g1, m1, x, G1, hx, ha⟩ := open_arg hss.1 h0 (hv 0 t v rfl rfl) HR hS
  obtain ⟨g2, m2, xs, G2, hxs, has⟩ := open_args ts ss hss.2 vs' ds' q h1 (fun j t v e1 e2 => hv (j + 1) t v (by simpa using e1) (by simpa using e2)) g1 m1 G1.2.2.1 G1.2.2.2
  exact ⟨g2, m2, x :: xs, G1.trans G2, ⟨VR_ext G1.2.2.1.wf G2.1 hx, hxs⟩, ⟨ha.keep G2.2.1, has⟩⟩
 | [], _ :: _, hss, _, _, _, _, _, _, _, _, _ => by simp at hss
 | _ :: _, [], hss, _, _, _, _, _, _, _, _, _ => by simp at hss
def gh0 (W : World) : Gh := ⟨fun _ => 0, fun _ => 0, fun r => match W.heap[r]? with | some (.cells c _ _) => c.size | _ => 0, fun _ => False, W.heap.size, fun _ => false⟩
def mem0 : Mem := ⟨fun _ => none, 0, fun _ _ => rfl⟩
theorem start_R (W : World) : R W (gh0 W) mem0 W ∧ SizesOf W (gh0 W) :=
 ⟨⟨fun b => ⟨fun h => h.elim, fun h => h rfl⟩, rfl, fun _ h => h.elim, fun _ _ _ _ e => (by cases e), fun _ _ e => (by cases e), fun _ _ e => (by cases e), fun _ _ => rfl, Nat.le_refl _, rfl, rfl, rfl⟩, fun r c t fr h => by simp [gh0, h]⟩
theorem law_calls {f : FuncId} {G : List AV → Mem → KV → Prop} (hfs : ∀ w0, FS P w0 f G) {D : Nat} (ts : List TypeId) (ss : List (List Lf)) (hss : ts.map (shapeOf P D) = ss.map some)
  (hG : ∀ (xs : List AV) (m : Mem), All2 (fun (y : TypeId × List Lf) x => ArgOK P m y.1 y.2 x) (ts.zip ss) xs → G xs m fun v _ => v = .flat (.bool true))
  {args : Array Value} {ds : List (DataW H)} {p : List MemPlace} (h : DataW.TrodAll enc P W 0 (fun _ => true) true ts args.toList ds p) (hv : ∀ (j : Nat) t v, ts[j]? = some t → args.toList[j]? = some v → Value.okWide P W .any b0 t v) :
  Calls P f args W fun e W' => e = .returned (.bool true) ∧ RowKit.Below W.heap.size W W' := by
 obtain ⟨HR0, hS0⟩ := start_R W
 obtain ⟨g, m, xs, G1, hxs, has⟩ := open_args ts ss hss args.toList ds p h hv _ _ HR0 hS0
 refine ((hfs W).call xs m _ (hG xs m has) g W args G1.2.2.1 hxs).mono fun e W' he => ?_
 obtain ⟨v', rfl, v, g', m', E, hv', HR', rfl⟩ := he
 have hv' : v' = .bool true := hv'
 subst hv'
 exact ⟨rfl, HR'.os, HR'.tape, HR'.output, HR'.size, HR'.old⟩
end
theorem arg_agg {P : Program} {m : Mem} {t : TypeId} {ls : List Lf} {x : AV} (ha : isAggB P t = true) (h : ArgOK P m t ls x) : ∃ c, x = .agg ls.length c ∧ ∀ i l, ls[i]? = some l → Ty m l (c i) := by
 unfold ArgOK at h; rw [ha] at h; exact h
theorem arg_one {P : Program} {m : Mem} {t : TypeId} {l : Lf} {x : AV} (ha : isAggB P t = false) (h : ArgOK P m t [l] x) : Ty m l x := by
 unfold ArgOK at h; rw [ha] at h
 obtain ⟨l', e, h⟩ := h
 cases e; exact h
theorem ty_int {m : Mem} {k : IntKind} {x : AV} (h : Ty m (.i k) x) : ∃ n, x = .flat (.int k n) ∧ (Lit.int k n).wf = true := by
 cases h with
 | i k n hw => exact ⟨n, rfl, hw⟩
theorem ty_bool {m : Mem} {x : AV} (h : Ty m .b x) : ∃ n, x = .flat (.bool n) := by
 cases h with
 | b n => exact ⟨n, rfl⟩
theorem ty_str {m : Mem} {x : AV} (h : Ty m .s x) : ∃ n, x = .flat (.string n) ∧ n.size ≤ maxLen := by
 cases h with
 | s n h => exact ⟨n, rfl, h⟩
end Go.Proofs.YtkiggdgphbkneaaGreat.Am
