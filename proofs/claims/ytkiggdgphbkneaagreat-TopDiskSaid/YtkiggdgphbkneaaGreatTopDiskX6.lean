/- Maps with keys that are structs of scalars: what the abstract machine asks, the real one does. No program in sight. -/
import Derived.Test.YtkiggdgphbkneaaGreatTopDiskX5
namespace Go.Proofs.YtkiggdgphbkneaaGreat.Am
set_option linter.unusedVariables false
set_option linter.unusedSimpArgs false
theorem wH {P : Program} {t : TypeId} {d : TypeDesc} (h : P.underlying t = some d) (w : World) : (underlying t).run P w = .ok d w := xE P _ (zI h) w
theorem uG {P : Program} {w : World} {r : Nat} {es : Array MapEntry} {clock : Nat} (hb : w.heap[r]? = some (.map es clock)) : (getObj r).run P w = .ok (.map es clock) w := by
 simp [getObj, Sem.run, hb]
theorem rA {P : Program} {w : World} {r : Nat} {es : Array MapEntry} {clock : Nat} (o : Obj) (hb : w.heap[r]? = some (.map es clock)) : (setObj r o).run P w = .ok () { w with heap := w.heap.setIfInBounds r o } := by
 simp [setObj, Sem.run, hb]
theorem R.writeMap {w0 : World} {g : Gh} {m : Mem} {w : World} (h : R w0 g m w) {b : Nat} {x y : Blk} (hb : m.obj b = some x) (hm : g.mp b = true) (hy : y.n = 0 /\ y.ro = false) (es : Array MapEntry) (clock : Nat) (hs : es.size = y.t)
  (hc : ∀ i, (h : i < es.size) -> VR1 g (y.c (2 * i)) es[i].key /\ VR1 g (y.c (2 * i + 1)) es[i].val) : R w0 g (m.set b y) { w with heap := w.heap.setIfInBounds (g.φ b) (.map es clock) } := by
 obtain ⟨k1, k2, k3, es0, clock0, k4, k5, k6⟩ := h.mpb b x hb hm
 have hlt : g.φ b < w.heap.size := (Array.getElem?_eq_some_iff.1 k4).1
 have hobj : ∀ b' z, (m.set b y).obj b' = some z -> (b' = b /\ z = y) \/ (b' ≠ b /\ m.obj b' = some z) := fun b' z e => by
  simp only [Mem.set, upd] at e
  split at e
  .rename_i hb'; exact .inl ⟨hb', by simpa using e.symm⟩
  .rename_i hb'; exact .inr ⟨hb', e⟩
 have hget : ∀ k, k ≠ g.φ b -> (w.heap.setIfInBounds (g.φ b) (.map es clock))[k]? = w.heap[k]? := fun k hk => by
  rw [Array.getElem?_setIfInBounds, if_neg (Ne.symm hk)]
 have hne : ∀ b1 y1, m.obj b1 = some y1 -> b1 ≠ b -> g.φ b1 ≠ g.φ b := fun b1 y1 e1 hn hφ => hn (h.inj b b1 x y1 hb e1 k2 hφ.symm).symm
 refine ⟨fun b' => ?_, by simpa using h.hs, h.wf, fun b1 b2 y1 y2 e1 e2 hro hφ => ?_, fun b1 y1 e1 em => ?_, fun b1 y1 e1 em => ?_, fun k hk => ?_, by simpa using h.size, h.os, h.tape, h.output⟩
 .rw [h.dom b']
  simp only [Mem.set, upd]
  by_cases c : b' = b
  .subst c; simp [hb]
  .simp [c]
 .rcases hobj b1 y1 e1 with ⟨h1, h2⟩ | ⟨hn1, e1'⟩ <;> rcases hobj b2 y2 e2 with ⟨h1', h2'⟩ | ⟨hn2, e2'⟩
  .rw [h1, h1']
  .subst h1; exact h.inj _ _ x _ hb e2' k2 hφ
  .subst h1'; exact h.inj _ _ _ x e1' hb hro hφ
  .exact h.inj _ _ _ _ e1' e2' hro hφ
 .rcases hobj b1 y1 e1 with ⟨rfl, rfl⟩ | ⟨hn1, e1⟩
  .rw [hm] at em; cases em
  .obtain ⟨c1, t1, fr1, he1, rest⟩ := h.blk b1 y1 e1 em
   exact ⟨c1, t1, fr1, (hget _ (hne b1 y1 e1 hn1)).trans he1, rest⟩
 .rcases hobj b1 y1 e1 with ⟨rfl, rfl⟩ | ⟨hn1, e1⟩
  .exact ⟨hy.1, hy.2, k3, es, clock, by simp [hlt], hs, hc⟩
  .obtain ⟨j1, j2, j3, es1, clock1, j4, j5⟩ := h.mpb b1 y1 e1 em
   exact ⟨j1, j2, j3, es1, clock1, (hget _ (hne b1 y1 e1 hn1)).trans j4, j5⟩
 .show (w.heap.setIfInBounds (g.φ b) (.map es clock))[k]? = _
  rw [hget k (by omega)]; exact h.old k hk
theorem R.newMap {w0 : World} {g : Gh} {m : Mem} {w : World} (h : R w0 g m w) {b0 : Nat} (hb0 : m.obj b0 = none) :
  ∃ g', Ext g g' /\ (g'.dom b0 /\ g'.mp b0 = true) /\ g'.φ b0 = w.heap.size /\ R w0 g' (m.set b0 ⟨0, fun _ => .junk, 0, false⟩) { w with heap := w.heap.push (.map #[] 0) } := by
 have hnd : ¬ g.dom b0 := fun hd => (h.dom b0).1 hd hb0
 let g' : Gh := ⟨fun b' => if b' = b0 then g.hs else g.φ b', fun b' => if b' = b0 then 0 else g.δ b', g.S, fun b' => b' = b0 \/ g.dom b', g.hs + 1, fun b' => if b' = b0 then true else g.mp b'⟩
 have ne : ∀ b', g.dom b' -> b' ≠ b0 := fun b' hb' e => hnd (e ▸ hb')
 have E : Ext g g' := ⟨fun b' h => .inr h, Nat.le_succ _, fun b' hb' => by simp [g', ne b' hb'], fun b' hb' => by simp [g', ne b' hb'], fun k hk => rfl, fun b' hb' => by simp [g', ne b' hb']⟩
 have hget : ∀ k, k < g.hs -> (w.heap.push (.map #[] 0))[k]? = w.heap[k]? := fun k hk => by
  rw [Array.getElem?_push_lt (by rw [h.hs]; exact hk)]; rw [Array.getElem?_eq_getElem]
 have hobj : ∀ b y, (m.set b0 ⟨0, fun _ => .junk, 0, false⟩).obj b = some y -> (b = b0 /\ y = ⟨0, fun _ => .junk, 0, false⟩) \/ (b ≠ b0 /\ m.obj b = some y) := fun b y e => by
  simp only [Mem.set, upd] at e
  split at e
  .rename_i hb; exact .inl ⟨hb, by simpa using e.symm⟩
  .rename_i hb; exact .inr ⟨hb, e⟩
 refine ⟨g', E, ⟨.inl rfl, by simp [g']⟩, by simp [g', h.hs], ⟨fun b => ?_, by simp [g', h.hs], fun b hb => ?_, fun b b' y y' e e' hro hφ => ?_, fun b y e em => ?_, fun b y e em => ?_, fun k hk => ?_, by simp; have := h.size; omega, h.os, h.tape, h.output⟩⟩
 .simp only [g', Mem.set, upd]
  by_cases c : b = b0
  .simp [c]
  .simp [c, h.dom b]
 .show (if b = b0 then g.hs else g.φ b) < g.hs + 1
  split
  .omega
  .rename_i hne
   have := h.wf b (hb.resolve_left hne); omega
 .rcases hobj b y e with ⟨h1, h2⟩ | ⟨hn, e1⟩ <;> rcases hobj b' y' e' with ⟨h1', h2'⟩ | ⟨hn', e1'⟩
  .rw [h1, h1']
  .simp only [g', if_pos h1, if_neg hn'] at hφ
   have := h.wf b' (h.live e1'); omega
  .simp only [g', if_pos h1', if_neg hn] at hφ
   have := h.wf b (h.live e1); omega
  .simp only [g', if_neg hn, if_neg hn'] at hφ
   exact h.inj b b' y y' e1 e1' hro hφ
 .rcases hobj b y e with ⟨rfl, rfl⟩ | ⟨hn, e⟩
  .simp [g'] at em
  .have hb := h.live e
   obtain ⟨c', t, fr, he, hn', hS, hcc, hf⟩ := h.blk b y e (by rw [<- E.mp b hb]; exact em)
   have hφ : g'.φ b = g.φ b := E.φ b hb
   have hδ : g'.δ b = g.δ b := E.δ b hb
   rw [hδ]
   refine ⟨c', t, fr, ?_, hn', ?_, fun i hi => tJ h.wf E (hcc i hi), ?_⟩
   .rw [hφ]; exact (hget _ (h.wf b hb)).trans he
   .rw [hφ, E.S _ (h.wf b hb)]; exact hS
   .rw [hφ]; exact hf
 .rcases hobj b y e with ⟨rfl, rfl⟩ | ⟨hn, e⟩
  .refine ⟨rfl, rfl, by simp only [g', if_true, <- h.hs]; exact h.size, #[], 0, ?_, rfl, fun i hi => by simp at hi⟩
   simp [g', <- h.hs]
  .have hb := h.live e
   obtain ⟨k1, k2, k3, es, clock, k4, k5, k6⟩ := h.mpb b y e (by rw [<- E.mp b hb]; exact em)
   have hφ : g'.φ b = g.φ b := E.φ b hb
   rw [hφ]
   exact ⟨k1, k2, k3, es, clock, (hget _ (h.wf b hb)).trans k4, k5, fun i hi => ⟨qL h.wf E (k6 i hi).1, qL h.wf E (k6 i hi).2⟩⟩
 .show (w.heap.push (.map #[] 0))[k]? = _
  rw [hget k (by rw [<- h.hs]; exact Nat.lt_of_lt_of_le hk h.size)]; exact h.old k hk
structure KeyT (P : Program) (kt : TypeId) (ls : List (Nat × LK)) : Prop where
 st : ∃ fs, P.underlying kt = some (.struct fs) /\ (∀ f ∈ fs.toList, iP P f.type = true /\ f.offset + P.cellsOf f.type <= P.cellsOf kt /\ 1 <= P.cellsOf f.type)
 lf : sU P 12 kt = some ls
 inn : oP P 12 kt = true
 al : ls.map Prod.fst = List.range (P.cellsOf kt)
 ns : ∀ p ∈ ls, p.2 ≠ .s
theorem zDo {P : Program} {kt : TypeId} {ls : List (Nat × LK)} (h : zHn P kt = some ls) : KeyT P kt ls := by
 unfold zHn at h
 split at h
 rotate_left
 .cases h
 rename_i h1
 simp only [Bool.and_eq_true] at h1
 split at h
 rotate_left
 .cases h
 rename_i ls' h2
 split at h
 rotate_left
 .cases h
 rename_i h3
 injection h with h
 subst h
 simp only [Bool.and_eq_true, beq_iff_eq, List.all_eq_true] at h3
 refine ⟨?_, h2, h1.2, h3.1, fun p hp e => by have := h3.2 p hp; rw [e] at this; simp [ySp] at this⟩
 have hs := h1.1
 have hin := h1.2
 unfold zN1 at hs
 split at hs
 rotate_left
 .cases hs
 rename_i fs hu
 refine ⟨fs, hu, fun f hf => ?_⟩
 unfold oP at hin
 rw [hu] at hin
 simp only [List.all_eq_true, Bool.and_eq_true, Nat.ble_eq] at hin hs
 exact ⟨hs f hf, (hin f hf).1.2, (hin f hf).2⟩
theorem zC8 {P : Program} {t : TypeId} (h : iP P t = true) (e : Bool) (n : Nat) (v : Value) : pv P (Instr.checkKey e (n + 1) t v) = some () := by
 unfold iP at h
 split at h
 .rename_i hu; unfold Instr.checkKey; simp [zM, zI hu]
 .rename_i hu; unfold Instr.checkKey; simp [zM, zI hu]
 .cases h
theorem zK5 {P : Program} {t : TypeId} (h : iP P t = true) : ∃ d, P.underlying t = some d := by
 unfold iP at h
 split at h
 .rename_i hu; exact ⟨_, hu⟩
 .rename_i hu; exact ⟨_, hu⟩
 .cases h
theorem jB {P : Program} {kt : TypeId} {ls : List (Nat × LK)} (K : KeyT P kt ls) (xs : Array Value) (hs : xs.size = P.cellsOf kt) (e : Bool) (w : World) : (Instr.checkKey e 10000 kt (.agg xs)).run P w = .ok () w := by
 refine xE P _ ?_ w
 obtain ⟨fs, hu, hf⟩ := K.st
 show pv P (Instr.checkKey e (9999 + 1) kt (.agg xs)) = some ()
 rw [Instr.checkKey]
 simp only [zM, zI hu, Option.bind_some]
 rw [<- Array.forIn_toList]
 revert hf
 generalize fs.toList = l
 intro hf
 induction l with
 | nil => simp
 | cons f l ih =>
  have ih := ih fun f' h' => hf f' (by simp [h'])
  obtain ⟨h1, h2, h3⟩ := hf f (by simp)
  obtain ⟨d, hd⟩ := zK5 h1
  obtain ⟨v, hv, _⟩ := dW hd xs f.offset h3 (by omega)
  simp only [List.forIn_cons, zM, aX]
  split
  .simp only [zM, hv, Option.bind_some, zC8 h1 e 9998 v, pv_pure]
   exact ih
  .simp only [pv_pure, Option.bind_some]
   exact ih
def zRv (P : Program) (g : Gh) (kt : TypeId) (c : Nat -> AV) (xs : Array Value) : Prop := xs.size = P.cellsOf kt /\ ∀ i, i < P.cellsOf kt -> CR g (c i) (xs.getD i undef)
theorem zNd {k : LK} {v : AV} (hk : k ≠ .s) (h : k.fits v = true) : ∃ u, v = .flat u /\ ((∃ b, u = .bool b) \/ (∃ q n, u = .int q n)) := by
 cases v with
 | flat u =>
  cases k <;> cases u <;> simp [LK.fits] at h
  .exact ⟨_, rfl, .inl ⟨_, rfl⟩⟩
  .subst h; exact ⟨_, rfl, .inr ⟨_, _, rfl⟩⟩
  .exact absurd rfl hk
 | _ => cases k <;> simp [LK.fits] at h
theorem zXu {k : LK} {u v : Value} (hk : k ≠ .s) (hu : k.fits (.flat u) = true) (hv : k.fits (.flat v) = true) (h : AV.same (.flat u) (.flat v) = true) : u = v := by
 cases k <;> cases u <;> simp [LK.fits] at hu <;> cases v <;> simp [LK.fits] at hv <;> simp [AV.same] at h
 .rw [h]
 .subst hu; subst hv; rw [h]
 .exact absurd rfl hk
theorem yEa {P : Program} {g : Gh} {kt : TypeId} {ls : List (Nat × LK)} (K : KeyT P kt ls) {c d : Nat -> AV} {xs ys : Array Value} (hx : zRv P g kt c xs) (hy : zRv P g kt d ys) {k : Bool -> Prop} (h : geq ls c d k) :
  ∃ b, pv P (Op.equal kt (.agg xs) (.agg ys)) = some b /\ (b = true -> xs = ys /\ ∀ v ∈ xs, (∃ b, v = .bool b) \/ (∃ q n, v = .int q n)) /\ k b := by
 unfold geq at h
 split at h
 rotate_left
 .exact h.elim
 rename_i hfit
 rw [List.all_eq_true] at hfit
 obtain ⟨fs, hu, hf⟩ := K.st
 have ht : yS P kt = true := by simp [yS, hu]
 have hlt : ∀ p ∈ ls, p.1 < P.cellsOf kt := fun p hp => by
  have : p.1 ∈ ls.map Prod.fst := List.mem_map.2 ⟨p, hp, rfl⟩
  rw [K.al] at this
  exact List.mem_range.1 this
 refine ⟨_, ?_, fun hb => ?_, h⟩
 .have e : Op.equal kt (.agg xs) (.agg ys) = Op.equalIn (9988 + 12) kt (.agg xs) (.agg ys) := by rw [Op.equal, Op.maxDepth]
  rw [e]
  refine zPj (g := g) 9988 12 kt ls K.lf K.inn (.agg xs) (.agg ys) (fun i => xs.getD i undef) (fun i => ys.getD i undef) c d ?_ ?_ fun p hp => ?_
  .unfold lS; rw [ht]; exact ⟨xs, rfl, by rw [hx.1], fun i _ => rfl⟩
  .unfold lS; rw [ht]; exact ⟨ys, rfl, by rw [hy.1], fun i _ => rfl⟩
  .have h1 := hfit p hp
   simp only [Bool.and_eq_true] at h1
   exact ⟨h1.1, h1.2, hx.2 _ (hlt p hp), hy.2 _ (hlt p hp)⟩
 .rw [List.all_eq_true] at hb
  have one : ∀ i, i < P.cellsOf kt -> xs.getD i undef = ys.getD i undef /\ ((∃ b, xs.getD i undef = .bool b) \/ (∃ q n, xs.getD i undef = .int q n)) := fun i hi => by
   have : i ∈ ls.map Prod.fst := by rw [K.al]; exact List.mem_range.2 hi
   obtain ⟨p, hp, rfl⟩ := List.mem_map.1 this
   have h1 := hfit p hp
   simp only [Bool.and_eq_true] at h1
   obtain ⟨u, eu, hu'⟩ := zNd (K.ns p hp) h1.1
   obtain ⟨v, ev, hv'⟩ := zNd (K.ns p hp) h1.2
   have r1 := hx.2 p.1 hi
   have r2 := hy.2 p.1 hi
   rw [eu] at r1 h1
   rw [ev] at r2 h1
   have hs := hb p hp
   rw [eu, ev] at hs
   have e := zXu (K.ns p hp) h1.1 h1.2 hs
   rw [r1.1, r2.1]
   refine ⟨e, ?_⟩
   exact hu'
  have hsz := hx.1
  have hsy := hy.1
  refine ⟨?_, fun v hv => ?_⟩
  .apply Array.ext
   .omega
   .intro i h1 h2
    have := (one i (by omega)).1
    simpa [Array.getD, h1, h2] using this
  .obtain ⟨i, hi, rfl⟩ := Array.getElem_of_mem hv
   have := (one i (by omega)).2
   simpa [Array.getD, hi] using this
theorem zFd (n : Nat) (xs : Array Value) (h : ∀ v ∈ xs, (∃ b, v = .bool b) \/ (∃ q n, v = .int q n)) : Instr.sameBits (n + 2) (.agg xs) (.agg xs) = true := by
 rw [Instr.sameBits]
 simp only [beq_self_eq_true, Bool.true_and, List.all_eq_true]
 intro p hp
 have : p.1 = p.2 /\ p.1 ∈ xs.toList := by
  have key : ∀ l : List Value, p ∈ l.zip l -> p.1 = p.2 /\ p.1 ∈ l := by
   intro l
   induction l with
   | nil => intro h; simp at h
   | cons x l ih =>
    intro h
    simp only [List.zip_cons_cons, List.mem_cons] at h
    rcases h with rfl | h
    .exact ⟨rfl, by simp⟩
    .exact ⟨(ih h).1, by simp [(ih h).2]⟩
  exact key _ hp
 obtain ⟨e, hm⟩ := this
 obtain ⟨a, b⟩ := p
 dsimp only at e hm ⊢
 subst e
 rcases h a (by simpa using hm) with ⟨b, rfl⟩ | ⟨q, n, rfl⟩ <;> simp [Instr.sameBits]
def xEk (g : Gh) (c : Nat -> AV) (es : Array MapEntry) : Prop := ∀ i, (h : i < es.size) -> VR1 g (c (2 * i)) es[i].key /\ VR1 g (c (2 * i + 1)) es[i].val
theorem cC {P : Program} {g : Gh} {kt : TypeId} {ls : List (Nat × LK)} (K : KeyT P kt ls) {kn : Nat} (hkn : kn = P.cellsOf kt) {key c : Nat -> AV} {ka : Array Value} (hka : zRv P g kt key ka) : ∀ (l : List MapEntry) (i : Nat) (k : Option Nat -> Prop),
  (∀ j, (h : j < l.length) -> VR1 g (c (2 * (i + j))) l[j].key) -> jC ls kn key c l.length i k ->
  (∃ j, ∃ h : j < l.length, (∀ w : World, (Instr.findAsking kt (.agg ka) l i).run P w = .ok (some (i + j, l[j].val)) w) /\ l[j].key = .agg ka /\ (∀ v ∈ ka, (∃ b, v = .bool b) \/ (∃ q n, v = .int q n)) /\ k (some (i + j))) \/
  ((∀ w : World, (Instr.findAsking kt (.agg ka) l i).run P w = .ok none w) /\ k none)
 | [], i, k, hr, h => .inr ⟨fun w => rfl, h⟩
 | e :: l, i, k, hr, h => by
  have h0 := hr 0 (by simp)
  simp only [Nat.add_zero, List.getElem_cons_zero] at h0
  simp only [List.length_cons, jC] at h
  split at h
  rotate_left
  .exact h.elim
  rename_i n' d hc
  rcases yY h with ⟨hn, h⟩ | ⟨_, h⟩
  rotate_left
  .exact h.elim
  have hn : n' = kn := by simpa using hn
  rw [hc] at h0
  obtain ⟨ya, hya, hs, hcells⟩ := h0
  have hy : zRv P g kt d ya := ⟨by omega, fun i hi => hcells i (by omega)⟩
  obtain ⟨b, hb, heq, h⟩ := yEa K hka hy h
  rcases yY h with ⟨rfl, h⟩ | ⟨rfl, h⟩
  .refine .inl ⟨0, by simp, fun w => ?_, ?_, (heq rfl).2, h⟩
   .simp only [Instr.findAsking, hya, Sem.run_bind, xE P _ hb w, Result.andThen_ok, if_true, Sem.run_pure, Nat.add_zero, List.getElem_cons_zero]
   .simp only [List.getElem_cons_zero]; rw [hya, (heq rfl).1]
  .have step : ∀ w : World, (Instr.findAsking kt (.agg ka) (e :: l) i).run P w = (Instr.findAsking kt (.agg ka) l (i + 1)).run P w := fun w => by
    simp only [Instr.findAsking, hya, Sem.run_bind, xE P _ hb w, Result.andThen_ok, Bool.false_eq_true, if_false]
   rcases cC K hkn hka l (i + 1) k (fun j hj => by
     have := hr (j + 1) (by simp; omega)
     simp only [List.getElem_cons_succ] at this
     rw [show i + 1 + j = i + (j + 1) by omega]; exact this) h with ⟨j, hj, h1, h2, h3, h4⟩ | ⟨h1, h2⟩
   .refine .inl ⟨j + 1, by simp; omega, fun w => ?_, by simpa using h2, h3, by rw [show i + (j + 1) = i + 1 + j by omega]; exact h4⟩
    rw [step, h1]; simp; omega
   .exact .inr ⟨fun w => by rw [step, h1], h2⟩
theorem tZ {P : Program} {kt : TypeId} {fs : Array Field} (hu : P.underlying kt = some (.struct fs)) {ka : Array Value} {l : List MapEntry} {r : Option (Nat × Value)} (w : World) (h : (Instr.findAsking kt (.agg ka) l 0).run P w = .ok r w) :
  (Instr.findKey kt (.agg ka) l).run P w = .ok r w := by
 unfold Instr.findKey
 simp only [Sem.run_bind, wH hu, Result.andThen_ok]
 cases l with
 | nil => simp only [Instr.findNow]; exact h
 | cons e l =>
  have : Instr.findNow (.struct fs) (.agg ka) (e :: l) 0 = none := by
   simp only [Instr.findNow]
   have : Instr.sameNow (.struct fs) (.agg ka) e.key = none := by simp [Instr.sameNow]
   rw [this]
  rw [this]
  exact h
section
variable {P : Program} {w0 : World} {g : Gh} {m : Mem} {w : World}
theorem zJd {t kt et : TypeId} (h : zR7 P t = some (kt, et)) : P.underlying t = some (.map kt et) := by
 unfold zR7 at h
 split at h
 .rename_i k e hu; simp only [Option.some.injEq, Prod.mk.injEq] at h; obtain ⟨rfl, rfl⟩ := h; exact hu
 .cases h
theorem yFk {t : TypeId} {zs : List AV} (h : yA6 P t = some zs) : ∃ cs : Array Value, pv P (zeroValue t) = some (.agg cs) /\ cs.size = zs.length /\ ∀ (g : Gh) i, i < zs.length -> CR g (zH zs i) (cs.getD i undef) := by
 unfold yA6 at h
 split at h
 rotate_left
 .cases h
 rename_i i hi
 split at h
 rotate_left
 .cases h
 rename_i cs hz
 split at h
 rotate_left
 .cases h
 rename_i hall
 have hzs : lQ P t = some zs := by
  unfold lQ
  rw [hi]
  dsimp only
  rw [hz]
  dsimp only [Value.cells]
  rw [hall]
  exact h
 obtain ⟨z, h1, h2, h3⟩ := sE hzs
 have : z = .agg cs := by
  have h1' : pv P (zeroValue t) = some (.agg cs) := by unfold zeroValue typeInfo; rw [zM, zM]; simp [hi, hz]
  rw [h1] at h1'; injection h1'
 subst this
 exact ⟨cs, h1, h2, h3⟩
theorem zKv (HR : R w0 g m w) {x : AV} {x' : Value} (hx : VR g x x') {b : Nat} (e : x = .mp b) {k : Blk -> Prop} (h : kobj m b k) : ∃ y es clock, m.obj b = some y /\ x' = .map (some (g.φ b)) /\ g.mp b = true /\ y.n = 0 /\ y.ro = false /\ w.heap[g.φ b]? = some (.map es clock) /\ es.size = y.t /\ xEk g y.c es /\ k y := by
 subst e
 obtain ⟨⟨h1, h2⟩, rfl⟩ := hx
 obtain ⟨y, hy, h⟩ := vP h
 obtain ⟨k1, k2, k3, es, clock, k4, k5, k6⟩ := HR.mpb b y hy h2
 exact ⟨y, es, clock, hy, rfl, h2, k1, k2, k4, k5, k6, h⟩
theorem zWg {ls : List (Nat × LK)} {kn : Nat} {v : AV} {key : Nat -> AV} {n : Nat} {z : Nat -> AV} {k : (Nat -> AV) -> Bool -> Prop} (h : kU ls kn v key n z m k) : ∃ b, v = .mp b := by
 unfold kU at h
 split at h
 .exact ⟨_, rfl⟩
 .exact h.elim
theorem yGo {ls : List (Nat × LK)} {kn : Nat} {v : AV} {key : Nat -> AV} {n : Nat} {z : Nat -> AV} {k : Mem -> Prop} (h : aQ ls kn v key n z m k) : ∃ b, v = .mp b := by
 unfold aQ at h
 split at h
 .exact ⟨_, rfl⟩
 .exact h.elim
theorem yHi {ls : List (Nat × LK)} {kn : Nat} {v : AV} {key : Nat -> AV} {k : Mem -> Prop} (h : dI ls kn v key m k) : ∃ b, v = .mp b := by
 unfold dI at h
 split at h
 .exact ⟨_, rfl⟩
 .exact h.elim
theorem zR3 (HR : R w0 g m w) {t : TypeId} {x key : AV} {x' key' : Value} {ok : Bool} {k : AV -> Prop} (hx : VR g x x') (hkey : VR g key key') (h : tD P t x key ok m k) :
  ∃ v v', (Instr.lookup t x' key' ok).run P w = .ok v' w /\ VR g v v' /\ k v := by
 unfold tD at h
 split at h
 rotate_left
 .exact h.elim
 rename_i kt et hmt
 have hu := zJd hmt
 split at h
 rotate_left
 .exact h.elim
 rename_i ls hls
 have K := zDo hls
 split at h
 rotate_left
 .exact h.elim
 rename_i zs hz
 obtain ⟨cs, hz1, hz2, hz3⟩ := yFk hz
 obtain ⟨kn, d, ek, h⟩ := vS h
 subst ek
 obtain ⟨ka, rfl, hks, hkc⟩ := hkey
 rcases yY h with ⟨hn, h⟩ | ⟨_, h⟩
 rotate_left
 .exact h.elim
 have hn : kn = P.cellsOf kt := by simpa using hn
 have hka : zRv P g kt d ka := ⟨by omega, fun i hi => hkc i (by omega)⟩
 obtain ⟨b, rfl⟩ := zWg h
 unfold kU at h
 dsimp only at h
 obtain ⟨y, es, clock, hy, rfl, hmp, y1, y2, hheap, hsz, hent, h⟩ := zKv HR hx rfl h
 obtain ⟨fs, hst, _⟩ := K.st
 rw [show y.t = es.toList.length by simp [hsz]] at h
 have hck := jB K ka hka.1 es.isEmpty
 rcases cC K hn hka es.toList 0 _ (fun j hj => by have := (hent j (by simpa using hj)).1; simpa using this) h with ⟨j, hj, h1, h2, h3, h4⟩ | ⟨h1, h2⟩
 .have hf := tZ hst w (h1 w)
  have hj' : j < es.size := by simpa using hj
  have hval := (hent j hj').2
  simp only [Nat.zero_add] at h4
  split at h4
  rotate_left
  .exact h4.elim
  rename_i n' dv hcv
  rcases yY h4 with ⟨hn', h4⟩ | ⟨_, h4⟩
  rotate_left
  .exact h4.elim
  have hn' : n' = zs.length := by simpa using hn'
  rw [hcv, hn'] at hval
  have hlv : es.toList[j].val = es[j].val := by simp
  have hrun : (Instr.lookup t (.map (some (g.φ b))) (.agg ka) ok).run P w = .ok (if ok then .tuple #[es[j].val, .bool true] else es[j].val) w := by
   simp only [Instr.lookup, Sem.run_bind, wH hu, Result.andThen_ok, uG hheap, Sem.run_pure, hck w, hf, hlv]
  cases ok with
  | true => exact ⟨.tup [.agg zs.length dv, .flat (.bool true)], .tuple #[es[j].val, .bool true], hrun, ⟨_, rfl, hval, rfl, trivial⟩, h4⟩
  | false => exact ⟨.agg zs.length dv, es[j].val, hrun, hval, h4⟩
 .have hf := tZ hst w (h1 w)
  have hzv : VR1 g (.agg zs.length (zH zs)) (.agg cs) := ⟨cs, rfl, hz2, fun i hi => hz3 g i hi⟩
  have hrun : (Instr.lookup t (.map (some (g.φ b))) (.agg ka) ok).run P w = .ok (if ok then .tuple #[.agg cs, .bool false] else .agg cs) w := by
   simp only [Instr.lookup, Sem.run_bind, wH hu, Result.andThen_ok, uG hheap, Sem.run_pure, hck w, hf, xE P _ hz1 w]
  cases ok with
  | true => exact ⟨.tup [.agg zs.length (zH zs), .flat (.bool false)], .tuple #[.agg cs, .bool false], hrun, ⟨_, rfl, hzv, rfl, trivial⟩, h2⟩
  | false => exact ⟨.agg zs.length (zH zs), .agg cs, hrun, hzv, h2⟩
theorem wT {α : Type} (f : Nat -> α) {i j : Nat} (v : α) (h : j ≠ i) : upd f i v j = f j := by unfold upd; rw [if_neg h]
theorem lB {α : Type} (f : Nat -> α) (i : Nat) (v : α) : upd f i v i = v := by unfold upd; rw [if_pos rfl]
theorem zFb (HR : R w0 g m w) {t : TypeId} {x key v : AV} {x' key' v' : Value} {k : KV} (hx : VR g x x') (hkey : VR g key key') (hv : VR g v v') (h : pT P t x key v m k) :
  ∃ m' w', (Instr.mapUpdate t x' key' v').run P w = .ok () w' /\ R w0 g m' w' /\ k .junk m' := by
 unfold pT at h
 split at h
 rotate_left
 .exact h.elim
 rename_i kt et hmt
 have hu := zJd hmt
 split at h
 rotate_left
 .exact h.elim
 rename_i ls hls
 have K := zDo hls
 obtain ⟨kn, d, ek, h⟩ := vS h
 subst ek
 have hkey0 := hkey
 obtain ⟨ka, rfl, hks, hkc⟩ := hkey
 rcases yY h with ⟨hn, h⟩ | ⟨_, h⟩
 rotate_left
 .exact h.elim
 have hn : kn = P.cellsOf kt := by simpa using hn
 have hka : zRv P g kt d ka := ⟨by omega, fun i hi => hkc i (by omega)⟩
 obtain ⟨n, c, ev, h⟩ := vS h
 subst ev
 have hv1 : VR1 g (.agg n c) v' := hv
 have hk1 : VR1 g (.agg kn d) (.agg ka) := hkey0
 obtain ⟨b, rfl⟩ := yGo h
 unfold aQ at h
 dsimp only at h
 obtain ⟨⟨yn, yc, yt, yro⟩, es, clock, hy, rfl, hmp, y1, y2, hheap, hsz, hent, h⟩ := zKv HR hx rfl h
 dsimp only at y1 y2 hsz hent h
 obtain ⟨fs, hst, _⟩ := K.st
 obtain rfl : yt = es.toList.length := by simp [hsz]
 have hck := jB K ka hka.1 false
 rcases cC K hn hka es.toList 0 _ (fun j hj => by have := (hent j (by simpa using hj)).1; simpa using this) h with ⟨j, hj, h1, h2, h3, h4⟩ | ⟨h1, h2⟩
 .have hf := tZ hst w (h1 w)
  have hj' : j < es.size := by simpa using hj
  have hkj : es[j].key = .agg ka := by simpa using h2
  simp only [Nat.zero_add] at h4 hf
  have hstay : (Instr.keyThatStays (((es[j]?).map (·.key)).getD (.agg ka)) (.agg ka)).run P w = .ok (.agg ka) w := by
   have e : ((es[j]?).map (·.key)).getD (.agg ka) = .agg ka := by simp [hj', hkj]
   rw [e]
   unfold Instr.keyThatStays
   rw [if_pos (zFd 9998 ka h3)]
   rfl
  have hR := HR.writeMap hy hmp (y := ⟨yn, upd (upd yc (2 * j) (.agg kn d)) (2 * j + 1) (.agg n c), es.toList.length, yro⟩) ⟨y1, y2⟩ (es.modify j fun e => { e with key := .agg ka, val := v' }) clock (by simp) (fun i hi => by
   have hi' : i < es.size := by simpa using hi
   dsimp only
   rw [Array.getElem_modify]
   by_cases c1 : j = i
   .subst c1
    simp only [if_true]
    rw [wT _ _ (by omega), lB, lB]
    exact ⟨hk1, hv1⟩
   .simp only [if_neg c1]
    rw [wT _ _ (by omega), wT _ _ (by omega), wT _ _ (by omega), wT _ _ (by omega)]
    exact hent i hi')
  refine ⟨_, _, ?_, hR, h4⟩
  simp only [Instr.mapUpdate, Sem.run_bind, wH hu, Result.andThen_ok, uG hheap, hck w, hf, hstay, rA _ hheap]
 .have hf := tZ hst w (h1 w)
  have hR := HR.writeMap hy hmp (y := ⟨yn, upd (upd yc (2 * es.toList.length) (.agg kn d)) (2 * es.toList.length + 1) (.agg n c), es.toList.length + 1, yro⟩) ⟨y1, y2⟩ (es.push { key := .agg ka, val := v', born := clock }) (clock + 1) (by simp) (fun i hi => by
   have hi' : i < es.size + 1 := by simpa using hi
   have hl : es.toList.length = es.size := by simp
   dsimp only
   rw [Array.getElem_push]
   split
   .rename_i c1
    rw [wT _ _ (by omega), wT _ _ (by omega), wT _ _ (by omega), wT _ _ (by omega)]
    exact hent i c1
   .have e : es.toList.length = i := by omega
    rw [e]
    rw [wT _ _ (by omega), lB, lB]
    exact ⟨hk1, hv1⟩)
  refine ⟨_, _, ?_, hR, h2⟩
  simp only [Instr.mapUpdate, Sem.run_bind, wH hu, Result.andThen_ok, uG hheap, hck w, hf, rA _ hheap]
theorem zSk (HR : R w0 g m w) {t u : TypeId} {ts : Array TypeId} {ty : TypeId} {x key : AV} {x' key' : Value} {k : KV} (ht : ts[0]? = some t) (hx : VR g x x') (hkey : VR g key key') {kt et : TypeId} (hmt : zR7 P t = some (kt, et)) {ls : List (Nat × LK)} (hls : zHn P kt = some ls)
  (h : kO key fun kn d => kif (kn == P.cellsOf kt) (dI ls kn x d m fun m' => k .junk m') False) :
  ∃ m' w', (Builtin.delete_ ts ty #[x', key']).run P w = .ok (.tuple #[]) w' /\ R w0 g m' w' /\ k .junk m' := by
 have hu := zJd hmt
 have K := zDo hls
 obtain ⟨kn, d, ek, h⟩ := vS h
 subst ek
 obtain ⟨ka, rfl, hks, hkc⟩ := hkey
 rcases yY h with ⟨hn, h⟩ | ⟨_, h⟩
 rotate_left
 .exact h.elim
 have hn : kn = P.cellsOf kt := by simpa using hn
 have hka : zRv P g kt d ka := ⟨by omega, fun i hi => hkc i (by omega)⟩
 obtain ⟨b, rfl⟩ := yHi h
 unfold dI at h
 dsimp only at h
 obtain ⟨⟨yn, yc, yt, yro⟩, es, clock, hy, rfl, hmp, y1, y2, hheap, hsz, hent, h⟩ := zKv HR hx rfl h
 dsimp only at y1 y2 hsz hent h
 obtain ⟨fs, hst, _⟩ := K.st
 obtain rfl : yt = es.toList.length := by simp [hsz]
 have hck := jB K ka hka.1 es.isEmpty
 rcases cC K hn hka es.toList 0 _ (fun j hj => by have := (hent j (by simpa using hj)).1; simpa using this) h with ⟨j, hj, h1, h2, h3, h4⟩ | ⟨h1, h2⟩
 .have hf := tZ hst w (h1 w)
  have hj' : j < es.size := by simpa using hj
  simp only [Nat.zero_add] at h4 hf
  have hR := HR.writeMap hy hmp (y := ⟨yn, fun i => if i < 2 * j then yc i else yc (i + 2), es.toList.length - 1, yro⟩) ⟨y1, y2⟩ (es.eraseIdxIfInBounds j) clock (by simp [Array.eraseIdxIfInBounds, hj']) (fun i hi => by
   have hi' : i < es.size - 1 := by simpa [Array.eraseIdxIfInBounds, hj'] using hi
   have e1 : (es.eraseIdxIfInBounds j)[i] = if h : i < j then es[i]'(by omega) else es[i + 1]'(by omega) := by
    simp only [Array.eraseIdxIfInBounds, hj', dif_pos]
    rw [Array.getElem_eraseIdx]
   rw [e1]
   dsimp only
   by_cases c1 : i < j
   .simp only [if_pos (show 2 * i < 2 * j by omega), if_pos (show 2 * i + 1 < 2 * j by omega), dif_pos c1]
    exact hent i (by omega)
   .simp only [if_neg (show ¬ 2 * i < 2 * j by omega), if_neg (show ¬ 2 * i + 1 < 2 * j by omega), dif_neg c1]
    have := hent (i + 1) (by omega)
    rw [show 2 * (i + 1) = 2 * i + 2 by omega, show 2 * i + 2 + 1 = 2 * i + 1 + 2 by omega] at this
    exact this)
  refine ⟨_, _, ?_, hR, h4⟩
  simp only [Builtin.delete_, ht, Sem.run_bind, wH hu, Result.andThen_ok, uG hheap, hck w, hf, rA _ hheap, Sem.run_pure]
  simp [ht, hu, wH hu, uG hheap, hck w, hf, rA _ hheap]
 .have hf := tZ hst w (h1 w)
  refine ⟨m, w, ?_, HR, h2⟩
  have e : ({ w with heap := w.heap.setIfInBounds (g.φ b) (.map es clock) } : World) = w := by
   have hh : w.heap.setIfInBounds (g.φ b) (.map es clock) = w.heap := by
    obtain ⟨hlt, he⟩ := Array.getElem?_eq_some_iff.1 hheap
    apply Array.ext
    .simp
    .intro i h1 h2
     rw [Array.getElem_setIfInBounds]
     split
     .rename_i c1; subst c1; exact he.symm
     .rfl
   rw [hh]
  simp [Builtin.delete_, ht, hu, wH hu, uG hheap, hck w, hf, rA _ hheap, e]
theorem zY6 (HR : R w0 g m w) {t : TypeId} {ty : TypeId} {x : AV} {x' : Value} {k : KV} (hx : VR g x x') (h : bY P [x] [t] m k) :
  ∃ m' w', (Builtin.clear_ #[t] ty #[x']).run P w = .ok (.tuple #[]) w' /\ R w0 g m' w' /\ k .junk m' := by
 unfold bY at h
 dsimp only at h
 split at h
 .rename_i kt et hu
  unfold fH at h
  split at h
  rotate_left
  .exact h.elim
  rename_i b
  obtain ⟨⟨yn, yc, yt, yro⟩, es, clock, hy, rfl, hmp, y1, y2, hheap, hsz, hent, h⟩ := zKv HR hx rfl h
  dsimp only at y1 y2 hsz hent h
  have hR := HR.writeMap hy hmp (y := ⟨yn, yc, 0, yro⟩) ⟨y1, y2⟩ #[] clock rfl (fun i hi => by simp at hi)
  refine ⟨_, _, ?_, hR, h⟩
  simp [Builtin.clear_, wH hu, uG hheap, rA _ hheap]
 .rename_i e hu
  split at h
  rotate_left
  .exact h.elim
  rename_i zs hz
  obtain ⟨z, hz1, hz2, hz3⟩ := sE hz
  have hp := tE h
  clear h
  obtain ⟨⟨c0, hc0⟩, h⟩ := hp
  unfold oK at h
  split at h
  .rename_i ad l c
   rw [zO] at h
   split at h
   rotate_left
   .exact h.elim
   rename_i hz0
   obtain ⟨rfl, rfl⟩ := hz0
   have hx : x' = .slice ad 0 0 := hx
   subst hx
   refine ⟨m, w, ?_, HR, h⟩
   cases ad <;> simp [Builtin.clear_, wH hu]
  .rename_i b o n cap
   obtain ⟨hb, c', rfl, hl, hcap⟩ := hx
   rw [zO] at h
   split at h
   .rename_i hn
    subst hn
    exact ⟨m, w, by simp [Builtin.clear_, wH hu], HR, h⟩
   .rename_i hn
    obtain ⟨y, hy, h⟩ := vP h
    split at h
    .exact h.elim
    .rename_i hro
     rw [zO] at h
     split at h
     rotate_left
     .exact h.elim
     rename_i hoy
     have hδ := HR.flatδ hy hro hb.2
     have hSy : g.δ b + y.n <= g.S (g.φ b) := by
      obtain ⟨c, t, fr, he, hn, hS, _⟩ := HR.blk b y hy hb.2
      rw [hS]; exact hn
     have hvz : (Builtin.zeroCells z.cells n).size = n * zs.length := by simp [Builtin.zeroCells, hz2]
     have hvc : ∀ i, i < n * zs.length -> CR g (lK zs i) ((Builtin.zeroCells z.cells n).getD i undef) := by
      intro i hi
      have hm : i % zs.length < zs.length := Nat.mod_lt _ (by omega)
      have h3 := hz3 g (i % zs.length) hm
      have hi2 : i % zs.length < z.cells.size := by omega
      have e2 : (Builtin.zeroCells z.cells n).getD i undef = z.cells.getD (i % zs.length) undef := by
       have h3 : z.cells[i % zs.length]! = z.cells[i % zs.length] := getElem!_pos z.cells _ hi2
       simp [Builtin.zeroCells, Array.getD, hi, hi2, hz2, h3, hm]
      rw [e2]; exact h3
     obtain ⟨w', h1, h2⟩ := HR.storeRow (P := P) hy hro hb.2 (o := o) (n := n * zs.length) (N := y.n) hvz hvc (by omega) (by omega) (by omega)
     refine ⟨_, w', ?_, h2, h⟩
     have hn0 : n ≠ 0 := hn
     obtain ⟨n', rfl⟩ : ∃ n', n = n' + 1 := ⟨n - 1, by omega⟩
     rw [hδ, Nat.zero_add]
     simp [Builtin.clear_, wH hu, xE P _ hz1 w, h1]
  .exact h.elim
 .exact h.elim
end
end Go.Proofs.YtkiggdgphbkneaaGreat.Am
