/- strconv.Itoa and strings.Join, given by hand out of the kit's contracts. The layings of the two are the plain text that the shelf's command pastes. The one reads a table; that it lies there is asked of the world ahead of all (TabH). -/
import Derived.Test.YtppikpjmlbaccaaDoorAmMa
import Derived.Test.YtppikpjmlbaccaaDoorProg
import Derived.Shelf.Strconv.Itoa3
import Derived.Shelf.Strings.OnBuilder
namespace Go.Proofs.YtppikpjmlbaccaaDoor.Am
open Go.Shelf
set_option linter.unusedVariables false
set_option maxRecDepth 100000

def Shelf.laysI_ren : Go.Shelf.Ren := ⟨fun | 171 => 9 | 243 => 16 | 246 => 24 | 283 => 33 | 284 => 34 | 285 => 35 | 286 => 36 | 129 => 42 | 317 => 41 | 318 => 43 | 319 => 44 | 320 => 45 | 337 => 52 | 338 => 53 | n => n, fun | 3 => 3 | 9 => 9 | 2 => 2 | 4 => 4 | 171 => 70 | 0 => 0 | 53 => 71 | 37 => 37 | 5 => 5 | 173 => 74 | 212 => 83 | 51 => 22 | 20 => 20 | 213 => 84 | 46 => 57 | 232 => 87 | 233 => 88 | n => n, fun | 17 => 0 | 18 => 2 | 19 => 3 | n => n⟩
theorem Shelf.laysI : Go.Proofs.LaysM.n171 Tryd.prog Shelf.laysI_ren := {
  mixed := by kernel_rfl
  f129 := Tryd.func42.trans (congrArg some (by kernel_rfl))
  f171 := Tryd.func9.trans (congrArg some (by kernel_rfl))
  f243 := Tryd.func16.trans (congrArg some (by kernel_rfl))
  f246 := Tryd.func24.trans (congrArg some (by kernel_rfl))
  f283 := Tryd.func33.trans (congrArg some (by kernel_rfl))
  f284 := Tryd.func34.trans (congrArg some (by kernel_rfl))
  f285 := Tryd.func35.trans (congrArg some (by kernel_rfl))
  f286 := Tryd.func36.trans (congrArg some (by kernel_rfl))
  f317 := Tryd.func41.trans (congrArg some (by kernel_rfl))
  f318 := Tryd.func43.trans (congrArg some (by kernel_rfl))
  f319 := Tryd.func44.trans (congrArg some (by kernel_rfl))
  f320 := Tryd.func45.trans (congrArg some (by kernel_rfl))
  f337 := Tryd.func52.trans (congrArg some (by kernel_rfl))
  f338 := Tryd.func53.trans (congrArg some (by kernel_rfl))
  t0 := Tryd.underlying0
  a0 := Tryd.isAgg0
  z0 := Tryd.sizeOf0
  v0 := Tryd.zeroValue0
  t2 := Tryd.underlying2
  a2 := Tryd.isAgg2
  z2 := Tryd.sizeOf2
  v2 := Tryd.zeroValue2
  t3 := Tryd.underlying3
  a3 := Tryd.isAgg3
  z3 := Tryd.sizeOf3
  v3 := Tryd.zeroValue3
  t4 := Tryd.underlying4
  a4 := Tryd.isAgg4
  z4 := Tryd.sizeOf4
  v4 := Tryd.zeroValue4
  t5 := Tryd.underlying5
  a5 := Tryd.isAgg5
  z5 := Tryd.sizeOf5
  v5 := Tryd.zeroValue5
  t9 := Tryd.underlying9
  a9 := Tryd.isAgg9
  z9 := Tryd.sizeOf9
  v9 := Tryd.zeroValue9
  t20 := Tryd.underlying20
  a20 := Tryd.isAgg20
  z20 := Tryd.sizeOf20
  v20 := Tryd.zeroValue20
  t37 := Tryd.underlying37
  a37 := Tryd.isAgg37
  z37 := Tryd.sizeOf37
  v37 := Tryd.zeroValue37
  t46 := Tryd.underlying57
  a46 := Tryd.isAgg57
  z46 := Tryd.sizeOf57
  v46 := Tryd.zeroValue57
  t51 := Tryd.underlying22
  a51 := Tryd.isAgg22
  z51 := Tryd.sizeOf22
  v51 := Tryd.zeroValue22
  t53 := Tryd.underlying71
  a53 := Tryd.isAgg71
  z53 := Tryd.sizeOf71
  v53 := Tryd.zeroValue71
  t171 := Tryd.underlying70
  a171 := Tryd.isAgg70
  z171 := Tryd.sizeOf70
  v171 := Tryd.zeroValue70
  t173 := Tryd.underlying74
  a173 := Tryd.isAgg74
  z173 := Tryd.sizeOf74
  v173 := Tryd.zeroValue74
  t212 := Tryd.underlying83
  a212 := Tryd.isAgg83
  z212 := Tryd.sizeOf83
  v212 := Tryd.zeroValue83
  t213 := Tryd.underlying84
  a213 := Tryd.isAgg84
  z213 := Tryd.sizeOf84
  t232 := Tryd.underlying87
  a232 := Tryd.isAgg87
  z232 := Tryd.sizeOf87
  v232 := Tryd.zeroValue87
  t233 := Tryd.underlying88
  a233 := Tryd.isAgg88
  z233 := Tryd.sizeOf88
  v233 := Tryd.zeroValue88
  g17 := by kernel_rfl
  g18 := by kernel_rfl
  g19 := by kernel_rfl
  i0 := by kernel_rfl
  i2 := by kernel_rfl
  i3 := by kernel_rfl
  i4 := by kernel_rfl
  i5 := by kernel_rfl
  i9 := by kernel_rfl
  i20 := by kernel_rfl
  i37 := by kernel_rfl
  i46 := by kernel_rfl
  i51 := by kernel_rfl
  i53 := by kernel_rfl
  i171 := by kernel_rfl
  i173 := by kernel_rfl
  i212 := by kernel_rfl
  i232 := by kernel_rfl
  i233 := by kernel_rfl
  m17 := by kernel_rfl
  m18 := by kernel_rfl
  m19 := by kernel_rfl }
def Shelf.laysJ_ren : Go.Shelf.Ren := ⟨fun | 156 => 10 | 165 => 17 | 166 => 18 | 169 => 19 | 240 => 25 | 241 => 26 | 276 => 37 | 277 => 38 | n => n, fun | 31 => 33 | 9 => 9 | 3 => 3 | 4 => 4 | 0 => 0 | 20 => 20 | 72 => 47 | 76 => 51 | 70 => 45 | 37 => 37 | 75 => 50 | 127 => 65 | 164 => 76 | 5 => 5 | 80 => 53 | n => n, fun | n => n⟩
theorem Shelf.laysJ : Go.Proofs.Lays.n156 Tryd.prog Shelf.laysJ_ren := {
  mixed := by kernel_rfl
  f156 := Tryd.func10.trans (congrArg some (by kernel_rfl))
  f165 := Tryd.func17.trans (congrArg some (by kernel_rfl))
  f166 := Tryd.func18.trans (congrArg some (by kernel_rfl))
  f169 := Tryd.func19.trans (congrArg some (by kernel_rfl))
  f240 := Tryd.func25.trans (congrArg some (by kernel_rfl))
  f241 := Tryd.func26.trans (congrArg some (by kernel_rfl))
  f276 := Tryd.func37.trans (congrArg some (by kernel_rfl))
  f277 := Tryd.func38.trans (congrArg some (by kernel_rfl))
  t0 := Tryd.underlying0
  a0 := Tryd.isAgg0
  z0 := Tryd.sizeOf0
  v0 := Tryd.zeroValue0
  t3 := Tryd.underlying3
  a3 := Tryd.isAgg3
  z3 := Tryd.sizeOf3
  v3 := Tryd.zeroValue3
  t4 := Tryd.underlying4
  a4 := Tryd.isAgg4
  z4 := Tryd.sizeOf4
  v4 := Tryd.zeroValue4
  t9 := Tryd.underlying9
  a9 := Tryd.isAgg9
  z9 := Tryd.sizeOf9
  v9 := Tryd.zeroValue9
  t20 := Tryd.underlying20
  a20 := Tryd.isAgg20
  z20 := Tryd.sizeOf20
  v20 := Tryd.zeroValue20
  t31 := Tryd.underlying33
  a31 := Tryd.isAgg33
  z31 := Tryd.sizeOf33
  v31 := Tryd.zeroValue33
  t37 := Tryd.underlying37
  a37 := Tryd.isAgg37
  z37 := Tryd.sizeOf37
  v37 := Tryd.zeroValue37
  t70 := Tryd.underlying45
  a70 := Tryd.isAgg45
  z70 := Tryd.sizeOf45
  v70 := Tryd.zeroValue45
  t72 := Tryd.underlying47
  a72 := Tryd.isAgg47
  z72 := Tryd.sizeOf47
  v72 := Tryd.zeroValue47
  t75 := Tryd.underlying50
  a75 := Tryd.isAgg50
  z75 := Tryd.sizeOf50
  v75 := Tryd.zeroValue50
  t76 := Tryd.underlying51
  a76 := Tryd.isAgg51
  z76 := Tryd.sizeOf51
  v76 := Tryd.zeroValue51
  t127 := Tryd.underlying65
  a127 := Tryd.isAgg65
  z127 := Tryd.sizeOf65
  v127 := Tryd.zeroValue65
  t164 := Tryd.underlying76
  a164 := Tryd.isAgg76
  z164 := Tryd.sizeOf76
  v164 := Tryd.zeroValue76 }
theorem extraJ : Builder.Extra Tryd.prog Shelf.laysJ_ren := {
  sizeBuilder := by kernel_rfl
  liesBuilder := by kernel_rfl
  t5 := Tryd.underlying5
  a5 := Tryd.isAgg5
  z5 := Tryd.sizeOf5
  v5 := Tryd.zeroValue5
  infoByte := by kernel_rfl
  cellsByte := by kernel_rfl
  sizeByte := by kernel_rfl
  neB5 := by decide }

abbrev TabH (w0 : World) : Prop := Lib.TabIs Tryd.prog w0 "internal/strconv.uint64pow10" .u64 Lib.pow10Tab

theorem R.below {w0 : World} {g : Gh} {m : Mem} {w w' : World} (h : R w0 g m w) (B : RowKit.Below w.heap.size w w') : R w0 { g with hs := w'.heap.size } m w' ∧ Ext g { g with hs := w'.heap.size } := by
  have hle : g.hs ≤ w'.heap.size := by rw [← h.hs]; exact B.size
  have hget : ∀ k, k < g.hs → w'.heap[k]? = w.heap[k]? := fun k hk => B.block k (by rw [h.hs]; exact hk)
  have E : Ext g { g with hs := w'.heap.size } := ⟨fun _ h => h, hle, fun _ _ => rfl, fun _ _ => rfl, fun _ _ => rfl, fun _ _ => rfl⟩
  refine ⟨⟨h.dom, rfl, fun b hb => Nat.lt_of_lt_of_le (h.wf b hb) hle, h.inj, fun b y e em => ?_, fun b y e em => ?_, fun k hk => ?_, Nat.le_trans h.size B.size, B.os.trans h.os, B.tape.trans h.tape, B.output.trans h.output⟩, E⟩
  · obtain ⟨c', t, fr, he, hn', hS, hcc, hf⟩ := h.blk b y e em
    exact ⟨c', t, fr, (hget _ (h.wf b (h.live e))).trans he, hn', hS, fun i hi => CR_ext h.wf E (hcc i hi), hf⟩
  · obtain ⟨k1, k2, k3, es, clock, k4, k5, k6⟩ := h.mpb b y e em
    exact ⟨k1, k2, k3, es, clock, (hget _ (h.wf b (h.live e))).trans k4, k5, fun i hi => ⟨VR1_ext h.wf E (k6 i hi).1, VR1_ext h.wf E (k6 i hi).2⟩⟩
  · rw [hget k (by rw [← h.hs]; exact Nat.lt_of_lt_of_le hk h.size)]; exact h.old k hk

theorem R.tab {w0 : World} {g : Gh} {m : Mem} {w : World} (h : R w0 g m w) (hW : TabH w0) : TabH w := by
  unfold TabH Lib.TabIs World.var? at *
  rw [show Tryd.prog.globalNamed "internal/strconv.uint64pow10" = some 0 by kernel_rfl] at *
  simp only [Option.bind_some] at hW ⊢
  have hlt : 0 < w0.heap.size := by
    rcases Nat.lt_or_ge 0 w0.heap.size with h' | h'
    · exact h'
    · rw [Array.getElem?_eq_none h'] at hW; cases hW
  rw [h.old 0 hlt]
  exact hW

/-- strconv.Itoa -/
def F9 (n : Int) (m : Mem) (k : ByteArray → Mem → Prop) : Prop := (-9223372036854775808 ≤ n ∧ n ≤ 9223372036854775807) ∧ k ⟨(Lib.itoa n).toArray⟩ m
def G9 := Gs [.i .i64] [.s] F9
/-- strings.Join -/
def F10 (v : AV) (sep : ByteArray) (m : Mem) (k : ByteArray → Mem → Prop) : Prop :=
  ∃ (b o : Nat) (c : Cap) (xs : List ByteArray) (x : Blk), v = .sl b o xs.length c ∧ m.obj b = some x ∧ o + xs.length ≤ x.n ∧ (∀ (j : Nat) (s : ByteArray), xs[j]? = some s → x.c (o + j) = .flat (.string s)) ∧
    xs.length ≤ 140737488355328 ∧ (Lib.join (xs.map (·.data.toList)) sep.data.toList).length ≤ 140737488355328 ∧ k ⟨(Lib.join (xs.map (·.data.toList)) sep.data.toList).toArray⟩ m
def G10 := Gs [.a, .s] [.s] F10

theorem All2_one {α β : Type} {R : α → β → Prop} {x : α} {l : List β} (h : All2 R [x] l) : ∃ y, l = [y] ∧ R x y := by
  match l, h with
  | [y], h => exact ⟨y, rfl, h.1⟩
theorem All2_two {α β : Type} {R : α → β → Prop} {x x' : α} {l : List β} (h : All2 R [x, x'] l) : ∃ y y', l = [y, y'] ∧ R x y ∧ R x' y' := by
  match l, h with
  | [y, y'], h => exact ⟨y, y', rfl, h.1, h.2.1⟩

theorem fsI (w0 : World) (hW : TabH w0) : FS Tryd.prog w0 9 G9 := by
  have key : ∀ args m k, G9 args m k → ∃ n : Int, args = [.flat (.int .i64 n)] ∧ F9 n m fun s m' => k (.flat (.string s)) m' := fun args m k h => by
    rcases fit_or [.i .i64] args with ⟨⟨t⟩⟩ | hn
    · cases t with
      | i kd n t => cases t with
        | nil => exact ⟨n, rfl, by unfold G9 at h; rw [gs_eq] at h; unfold opn at h; dsimp only at h; rw [kI_flat] at h; exact h⟩
    · exact (hn _ _ _ h).elim
  have back : ∀ (n : Int) m k, F9 n m (fun s m' => k (.flat (.string s)) m') → G9 [.flat (.int .i64 n)] m k := fun n m k h => by
    unfold G9; rw [gs_eq]; unfold opn; dsimp only; rw [kI_flat]; exact h
  refine ⟨fun args m k h g w args' HR ha => ?_, fun args m k h => Tryd.call9, fun args m k k' hkk h => ?_, fun args m h => ?_, fun args m k h b x hb => ?_⟩
  · obtain ⟨n, rfl, ⟨h0, h1⟩, h⟩ := key args m k h
    obtain ⟨v, hv, rv⟩ := All2_one ha
    have rv : v = .int .i64 n := rv
    subst rv
    obtain rfl : args' = #[.int .i64 n] := by cases args'; simp_all
    refine (Any.strconv_Itoa Shelf.laysI n h0 h1 w (HR.tab hW)).mono fun e w' he => ?_
    obtain ⟨rfl, kk, os, rfl⟩ := he
    have B : RowKit.Below w.heap.size w (Sort.grow (w.drewN kk) os) := ⟨rfl, rfl, rfl, by rw [Sort.size_grow]; exact Nat.le_add_right _ _, fun k hk => Sort.heap_grow_old (w.drewN kk) os hk⟩
    obtain ⟨HR', E⟩ := HR.below B
    exact ⟨_, rfl, .flat (.string _), _, m, E, rfl, HR', h⟩
  · obtain ⟨n, rfl, hb, h⟩ := key args m k h
    exact back n m k' ⟨hb, hkk _ _ h⟩
  · obtain ⟨n, rfl, hb, h⟩ := key args m _ h
    exact h
  · obtain ⟨n, rfl, hbd, h⟩ := key args m k h
    exact back n _ _ ⟨hbd, m, rfl, hb, h⟩

theorem fsJ (w0 : World) : FS Tryd.prog w0 10 G10 := by
  have key : ∀ args m k, G10 args m k → ∃ v s, args = [v, .flat (.string s)] ∧ F10 v s m fun s m' => k (.flat (.string s)) m' := fun args m k h => by
    rcases fit_or [.a, .s] args with ⟨⟨t⟩⟩ | hn
    · cases t with
      | a v t => cases t with
        | s s t => cases t with
          | nil => exact ⟨v, s, rfl, h⟩
    · exact (hn _ _ _ h).elim
  have back : ∀ v s m k, F10 v s m (fun s m' => k (.flat (.string s)) m') → G10 [v, .flat (.string s)] m k := fun v s m k h => h
  refine ⟨fun args m k h g w args' HR ha => ?_, fun args m k h => Tryd.call10, fun args m k k' hkk h => ?_, fun args m h => ?_, fun args m k h b x hb => ?_⟩
  · obtain ⟨v, sep, rfl, b, o, c, xs, x, rfl, hx, hn, hc, h1, h2, h⟩ := key args m k h
    obtain ⟨v1, v2, hv, r1, r2⟩ := All2_two ha
    have r2 : v2 = .string sep := r2
    subst r2
    obtain ⟨hb, c', rfl, hlc, _⟩ := r1
    obtain rfl : args' = #[.slice (some ⟨g.φ b, g.δ b + o, none⟩) xs.length c', .string sep] := by cases args'; simp only [List.toArray] at hv ⊢; simpa using hv
    have hcells : ∀ (j : Nat) s, xs[j]? = some s → w.cell? ⟨g.φ b, g.δ b + o + j, none⟩ = some (.string s) := fun j s e => by
      have hj : j < xs.length := by obtain ⟨h, _⟩ := List.getElem?_eq_some_iff.1 e; exact h
      obtain ⟨u, hu, hcu⟩ := HR.cell hx (i := o + j) (by omega)
      rw [hc j s e] at hcu
      rw [Nat.add_assoc, hu, hcu.1]
    refine (Any.strings_Join Shelf.laysJ extraJ (g.φ b) (g.δ b + o) c' xs sep w hcells (by rw [HR.hs]; exact HR.wf b hb.1) h1 hlc h2).mono fun e w' he => ?_
    obtain ⟨rfl, B⟩ := he
    obtain ⟨HR', E⟩ := HR.below B
    exact ⟨_, rfl, .flat (.string _), _, m, E, rfl, HR', h⟩
  · obtain ⟨v, sep, rfl, b, o, c, xs, x, e, hx, hn, hc, h1, h2, h⟩ := key args m k h
    exact back v sep m k' ⟨b, o, c, xs, x, e, hx, hn, hc, h1, h2, hkk _ _ h⟩
  · obtain ⟨v, sep, rfl, b, o, c, xs, x, e, hx, hn, hc, h1, h2, h⟩ := key args m _ h
    exact h
  · obtain ⟨v, sep, rfl, b0, o, c, xs, x0, e, hx, hn, hc, h1, h2, h⟩ := key args m k h
    refine back v sep _ _ ⟨b0, o, c, xs, x0, e, ?_, hn, hc, h1, h2, m, rfl, hb, h⟩
    have : b0 ≠ b := fun e => by rw [e, hb] at hx; cases hx
    simp [Mem.set, upd, this, hx]

def envH : Env := ext (ext env0 10 G10) 9 G9
theorem sndH (w0 : World) (hW : TabH w0) : Sound Tryd.prog w0 envH := snd_ext (snd_ext (snd0 _ w0) (fsJ w0)) (fsI w0 hW)
end Go.Proofs.YtppikpjmlbaccaaDoor.Am
