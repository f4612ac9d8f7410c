/- strconv.Itoa and strings.Join, given by hand out of the kit's contracts. The one reads a table; that it lies there is asked of the world ahead of all (TabH). -/
import Derived.Test.YtppikpjmlbaccaaDoorAmMa
import Derived.Test.YtppikpjmlbaccaaDoorProg
import Derived.Shelf.Lay
import Derived.Shelf.Strconv.Itoa3
import Derived.Shelf.Strings.OnBuilder
namespace Go.Proofs.YtppikpjmlbaccaaDoor.Am
open Go.Shelf
set_option linter.unusedVariables false
set_option maxRecDepth 100000

shelf_lay LaysM.n171 Nm 171 at Tryd as Shelf.laysI
shelf_lay Lays.n156 Nm 156 at Tryd as Shelf.laysJ
theorem extraJ : Builder.Extra Tryd.prog Shelf.laysJ_ren where
  sizeBuilder := by kernel_rfl
  liesBuilder := by kernel_rfl
  t5 := Tryd.underlying5
  a5 := Tryd.isAgg5
  z5 := Tryd.sizeOf5
  v5 := Tryd.zeroValue5
  infoByte := by kernel_rfl
  cellsByte := by kernel_rfl
  sizeByte := by kernel_rfl
  neB5 := by decide

abbrev TabH (w0 : World) : Prop := Lib.TabIs Tryd.prog w0 "internal/strconv.uint64pow10" .u64 Lib.pow10Tab

theorem R.below {w0 : World} {g : Gh} {m : Mem} {w w' : World} (h : R w0 g m w) (B : RowKit.Below w.heap.size w w') : R w0 { g with hs := w'.heap.size } m w' ∧ Ext g { g with hs := w'.heap.size } := by
  have hle : g.hs ≤ w'.heap.size := by rw [← h.hs]; exact B.size
  have hget : ∀ k, k < g.hs → w'.heap[k]? = w.heap[k]? := fun k hk => B.block k (by rw [h.hs]; exact hk)
  have E : Ext g { g with hs := w'.heap.size } := ⟨fun _ h => h, hle, fun _ _ => rfl, fun _ _ => rfl, fun _ _ => rfl, fun _ _ => rfl⟩
  refine ⟨⟨h.dom, rfl, fun b hb => Nat.lt_of_lt_of_le (h.wf b hb) hle, h.inj, fun b y e em => ?_, fun b y e em => ?_, fun k hk => ?_, Nat.le_trans h.size B.size, B.os.trans h.os, B.tape.trans h.tape, B.output.trans h.output⟩, E⟩
  · obtain ⟨c', t, fr, he, hn', hS, hcc, hf⟩ := h.blk b y e em
    exact ⟨c', t, fr, (hget _ (h.wf b (h.live e))).trans he, hn', hS, fun i hi => CR_ext h.wf E (hcc i hi), hf⟩
  · obtain ⟨k1, k2, k3, es, clock, k4, k5, k6⟩ := h.mpb b y e em
    exact ⟨k1, k2, k3, es, clock, (hget _ (h.wf b (h.live e))).trans k4, k5, fun i hi => ⟨VR1_ext h.wf E (k6 i hi).1, VR1_ext h.wf E (k6 i hi).2⟩⟩
  · rw [hget k (by rw [← h.hs]; exact Nat.lt_of_lt_of_le hk h.size)]; exact h.old k hk

theorem R.tab {w0 : World} {g : Gh} {m : Mem} {w : World} (h : R w0 g m w) (hW : TabH w0) : TabH w := by
  unfold TabH Lib.TabIs World.var? at *
  rw [show Tryd.prog.globalNamed "internal/strconv.uint64pow10" = some 0 by kernel_rfl] at *
  simp only [Option.bind_some] at hW ⊢
  have hlt : 0 < w0.heap.size := by
    rcases Nat.lt_or_ge 0 w0.heap.size with h' | h'
    · exact h'
    · rw [Array.getElem?_eq_none h'] at hW; cases hW
  rw [h.old 0 hlt]
  exact hW

/-- strconv.Itoa -/
def F9 (n : Int) (m : Mem) (k : ByteArray → Mem → Prop) : Prop := (-9223372036854775808 ≤ n ∧ n ≤ 9223372036854775807) ∧ k ⟨(Lib.itoa n).toArray⟩ m
def G9 := Gs [.i .i64] [.s] F9
/-- strings.Join -/
def F10 (v : AV) (sep : ByteArray) (m : Mem) (k : ByteArray → Mem → Prop) : Prop :=
  ∃ (b o : Nat) (c : Cap) (xs : List ByteArray) (x : Blk), v = .sl b o xs.length c ∧ m.obj b = some x ∧ o + xs.length ≤ x.n ∧ (∀ (j : Nat) (s : ByteArray), xs[j]? = some s → x.c (o + j) = .flat (.string s)) ∧
    xs.length ≤ 140737488355328 ∧ (Lib.join (xs.map (·.data.toList)) sep.data.toList).length ≤ 140737488355328 ∧ k ⟨(Lib.join (xs.map (·.data.toList)) sep.data.toList).toArray⟩ m
def G10 := Gs [.a, .s] [.s] F10

theorem All2_one {α β : Type} {R : α → β → Prop} {x : α} {l : List β} (h : All2 R [x] l) : ∃ y, l = [y] ∧ R x y := by
  match l, h with
  | [y], h => exact ⟨y, rfl, h.1⟩
theorem All2_two {α β : Type} {R : α → β → Prop} {x x' : α} {l : List β} (h : All2 R [x, x'] l) : ∃ y y', l = [y, y'] ∧ R x y ∧ R x' y' := by
  match l, h with
  | [y, y'], h => exact ⟨y, y', rfl, h.1, h.2.1⟩

theorem fsI (w0 : World) (hW : TabH w0) : FS Tryd.prog w0 9 G9 := by
  have key : ∀ args m k, G9 args m k → ∃ n : Int, args = [.flat (.int .i64 n)] ∧ F9 n m fun s m' => k (.flat (.string s)) m' := fun args m k h => by
    rcases fit_or [.i .i64] args with ⟨⟨t⟩⟩ | hn
    · cases t with
      | i kd n t => cases t with
        | nil => exact ⟨n, rfl, by unfold G9 at h; rw [gs_eq] at h; unfold opn at h; dsimp only at h; rw [kI_flat] at h; exact h⟩
    · exact (hn _ _ _ h).elim
  have back : ∀ (n : Int) m k, F9 n m (fun s m' => k (.flat (.string s)) m') → G9 [.flat (.int .i64 n)] m k := fun n m k h => by
    unfold G9; rw [gs_eq]; unfold opn; dsimp only; rw [kI_flat]; exact h
  refine ⟨fun args m k h g w args' HR ha => ?_, fun args m k h => Tryd.call9, fun args m k k' hkk h => ?_, fun args m h => ?_, fun args m k h b x hb => ?_⟩
  · obtain ⟨n, rfl, ⟨h0, h1⟩, h⟩ := key args m k h
    obtain ⟨v, hv, rv⟩ := All2_one ha
    have rv : v = .int .i64 n := rv
    subst rv
    obtain rfl : args' = #[.int .i64 n] := by cases args'; simp_all
    refine (Any.strconv_Itoa Shelf.laysI n h0 h1 w (HR.tab hW)).mono fun e w' he => ?_
    obtain ⟨rfl, kk, os, rfl⟩ := he
    have B : RowKit.Below w.heap.size w (Sort.grow (w.drewN kk) os) := ⟨rfl, rfl, rfl, by rw [Sort.size_grow]; exact Nat.le_add_right _ _, fun k hk => Sort.heap_grow_old (w.drewN kk) os hk⟩
    obtain ⟨HR', E⟩ := HR.below B
    exact ⟨_, rfl, .flat (.string _), _, m, E, rfl, HR', h⟩
  · obtain ⟨n, rfl, hb, h⟩ := key args m k h
    exact back n m k' ⟨hb, hkk _ _ h⟩
  · obtain ⟨n, rfl, hb, h⟩ := key args m _ h
    exact h
  · obtain ⟨n, rfl, hbd, h⟩ := key args m k h
    exact back n _ _ ⟨hbd, m, rfl, hb, h⟩

theorem fsJ (w0 : World) : FS Tryd.prog w0 10 G10 := by
  have key : ∀ args m k, G10 args m k → ∃ v s, args = [v, .flat (.string s)] ∧ F10 v s m fun s m' => k (.flat (.string s)) m' := fun args m k h => by
    rcases fit_or [.a, .s] args with ⟨⟨t⟩⟩ | hn
    · cases t with
      | a v t => cases t with
        | s s t => cases t with
          | nil => exact ⟨v, s, rfl, h⟩
    · exact (hn _ _ _ h).elim
  have back : ∀ v s m k, F10 v s m (fun s m' => k (.flat (.string s)) m') → G10 [v, .flat (.string s)] m k := fun v s m k h => h
  refine ⟨fun args m k h g w args' HR ha => ?_, fun args m k h => Tryd.call10, fun args m k k' hkk h => ?_, fun args m h => ?_, fun args m k h b x hb => ?_⟩
  · obtain ⟨v, sep, rfl, b, o, c, xs, x, rfl, hx, hn, hc, h1, h2, h⟩ := key args m k h
    obtain ⟨v1, v2, hv, r1, r2⟩ := All2_two ha
    have r2 : v2 = .string sep := r2
    subst r2
    obtain ⟨hb, c', rfl, hlc, _⟩ := r1
    obtain rfl : args' = #[.slice (some ⟨g.φ b, g.δ b + o, none⟩) xs.length c', .string sep] := by cases args'; simp only [List.toArray] at hv ⊢; simpa using hv
    have hcells : ∀ (j : Nat) s, xs[j]? = some s → w.cell? ⟨g.φ b, g.δ b + o + j, none⟩ = some (.string s) := fun j s e => by
      have hj : j < xs.length := by obtain ⟨h, _⟩ := List.getElem?_eq_some_iff.1 e; exact h
      obtain ⟨u, hu, hcu⟩ := HR.cell hx (i := o + j) (by omega)
      rw [hc j s e] at hcu
      rw [Nat.add_assoc, hu, hcu.1]
    refine (Any.strings_Join Shelf.laysJ extraJ (g.φ b) (g.δ b + o) c' xs sep w hcells (by rw [HR.hs]; exact HR.wf b hb.1) h1 hlc h2).mono fun e w' he => ?_
    obtain ⟨rfl, B⟩ := he
    obtain ⟨HR', E⟩ := HR.below B
    exact ⟨_, rfl, .flat (.string _), _, m, E, rfl, HR', h⟩
  · obtain ⟨v, sep, rfl, b, o, c, xs, x, e, hx, hn, hc, h1, h2, h⟩ := key args m k h
    exact back v sep m k' ⟨b, o, c, xs, x, e, hx, hn, hc, h1, h2, hkk _ _ h⟩
  · obtain ⟨v, sep, rfl, b, o, c, xs, x, e, hx, hn, hc, h1, h2, h⟩ := key args m _ h
    exact h
  · obtain ⟨v, sep, rfl, b0, o, c, xs, x0, e, hx, hn, hc, h1, h2, h⟩ := key args m k h
    refine back v sep _ _ ⟨b0, o, c, xs, x0, e, ?_, hn, hc, h1, h2, m, rfl, hb, h⟩
    have : b0 ≠ b := fun e => by rw [e, hb] at hx; cases hx
    simp [Mem.set, upd, this, hx]

def envH : Env := ext (ext env0 10 G10) 9 G9
theorem sndH (w0 : World) (hW : TabH w0) : Sound Tryd.prog w0 envH := snd_ext (snd_ext (snd0 _ w0) (fsJ w0)) (fsI w0 hW)
end Go.Proofs.YtppikpjmlbaccaaDoor.Am
