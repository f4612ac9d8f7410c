/- The abstract memory and the real one: when the one tells of the other; what stays so. No program in sight. -/
import Derived.Test.YtkiggdgphbkneaaGreatTopDiskX0
namespace Go.Proofs.YtkiggdgphbkneaaGreat.Am
set_option linter.unusedVariables false
structure Gh where
 φ : Nat -> Nat
 δ : Nat -> Nat
 S : Nat -> Nat
 dom : Nat -> Prop
 hs : Nat
 /-- which blocks are maps -/
 mp : Nat -> Bool
def Gh.at (g : Gh) (b : Nat) : Prop := g.dom b /\ g.mp b = false
def CR (g : Gh) : AV -> Value -> Prop
 | .flat v, v' => v' = v /\ v.oneCell = true
 | .ptr b o, v' => g.at b /\ v' = .pointer (some ⟨g.φ b, g.δ b + o, none⟩)
 | .mp b, v' => (g.dom b /\ g.mp b = true) /\ v' = .map (some (g.φ b))
 | .sl b o len cap, v' => g.at b /\ ∃ c', v' = .slice (some ⟨g.φ b, g.δ b + o, none⟩) len c' /\ len <= c' /\ (match cap with
  | .ex c => c' = c
  | .ge esz k => k <= c' /\ g.δ b + o + c' * esz <= g.S (g.φ b))
 | .junk, v' => v'.oneCell = true
 | .ch, v' => ∃ r, v' = .chan (some r)
 | .clo _ _, _ => False
 | .e0, v' => ∃ ad c', v' = .slice (some ad) 0 c'
 | .agg _ _, _ => False
 | .tup _, _ => False
def VR1 (g : Gh) : AV -> Value -> Prop
 | .flat v, v' => v' = v
 | .junk, _ => True
 | .agg n c, v' => ∃ a : Array Value, v' = .agg a /\ a.size = n /\ ∀ i, i < n -> CR g (c i) (a.getD i undef)
 | .ptr b o, v' => CR g (.ptr b o) v'
 | .sl b o l c, v' => CR g (.sl b o l c) v'
 | .e0, v' => CR g .e0 v'
 | .ch, v' => CR g .ch v'
 | .clo _ _, _ => False
 | .mp b, v' => CR g (.mp b) v'
 | .tup _, _ => False
def All2 {α β : Type} (R : α -> β -> Prop) : List α -> List β -> Prop
 | [], [] => True
 | a :: l, b :: l' => R a b /\ All2 R l l'
 | _, _ => False
def VR (g : Gh) : AV -> Value -> Prop
 | .tup vs, v' => ∃ a : Array Value, v' = .tuple a /\ All2 (VR1 g) vs a.toList
 | .flat v, v' => v' = v
 | .junk, _ => True
 | .agg n c, v' => VR1 g (.agg n c) v'
 | .ptr b o, v' => CR g (.ptr b o) v'
 | .sl b o l c, v' => CR g (.sl b o l c) v'
 | .e0, v' => CR g .e0 v'
 | .ch, v' => CR g .ch v'
 | .clo f vs, v' => ∃ a : Array Value, v' = .func (.func f) #[] a /\ All2 (VR1 g) vs a.toList
 | .mp b, v' => CR g (.mp b) v'
theorem bR {g : Gh} {x : AV} {v : Value} (h : VR1 g x v) : VR g x v := by
 cases x <;> first | exact h | exact h.elim
theorem zM2 {g : Gh} {x : AV} {v : Value} (h : CR g x v) : v.oneCell = true := by
 cases x with
 | flat u => obtain ⟨rfl, h⟩ := h; exact h
 | ptr b o => obtain ⟨_, rfl⟩ := h; rfl
 | sl b o l c => obtain ⟨_, c', rfl, _⟩ := h; rfl
 | e0 => obtain ⟨ad, c', rfl⟩ := h; rfl
 | ch => obtain ⟨r, rfl⟩ := h; rfl
 | clo f vs => exact h.elim
 | mp b => obtain ⟨_, rfl⟩ := h; rfl
 | junk => exact h
 | agg n c => exact h.elim
 | tup vs => exact h.elim
theorem zYb {g : Gh} {x : AV} {v : Value} (h : CR g x v) : VR1 g x v := by
 cases x with
 | flat u => exact h.1
 | ptr b o => exact h
 | sl b o l c => exact h
 | e0 => exact h
 | ch => exact h
 | clo f vs => exact h.elim
 | mp b => exact h
 | junk => trivial
 | agg n c => exact h.elim
 | tup vs => exact h.elim
theorem zCe {g : Gh} {x : AV} {v : Value} (h : CR g x v) : VR g x v := bR (zYb h)
theorem zH8 {g : Gh} {x : AV} {v : Value} (h : VR g x v) (h1 : x.one = true) : CR g x v := by
 cases x with
 | flat u => exact ⟨h, h1⟩
 | ptr b o => exact h
 | sl b o l c => exact h
 | e0 => exact h
 | ch => exact h
 | clo f vs => simp [AV.one] at h1
 | mp b => exact h
 | junk => simp [AV.one] at h1
 | agg n c => simp [AV.one] at h1
 | tup vs => simp [AV.one] at h1
theorem yGs {g : Gh} {x : AV} {v : Value} (h : VR g x v) (hf : x.isFlat = true) : v = x.val := by
 cases x <;> simp [AV.isFlat] at hf
 exact h
structure Ext (g g' : Gh) : Prop where
 dom : ∀ b, g.dom b -> g'.dom b
 hs : g.hs <= g'.hs
 φ : ∀ b, g.dom b -> g'.φ b = g.φ b
 δ : ∀ b, g.dom b -> g'.δ b = g.δ b
 S : ∀ k, k < g.hs -> g'.S k = g.S k
 mp : ∀ b, g.dom b -> g'.mp b = g.mp b
def Gh.wf (g : Gh) : Prop := ∀ b, g.dom b -> g.φ b < g.hs
theorem Ext.refl (g : Gh) : Ext g g := ⟨fun _ h => h, Nat.le_refl _, fun _ _ => rfl, fun _ _ => rfl, fun _ _ => rfl, fun _ _ => rfl⟩
theorem Ext.trans {a b c : Gh} (h : Ext a b) (h' : Ext b c) : Ext a c :=
 ⟨fun k hk => h'.dom k (h.dom k hk), Nat.le_trans h.hs h'.hs, fun k hk => (h'.φ k (h.dom k hk)).trans (h.φ k hk), fun k hk => (h'.δ k (h.dom k hk)).trans (h.δ k hk), fun k hk => (h'.S k (Nat.lt_of_lt_of_le hk h.hs)).trans (h.S k hk), fun k hk => (h'.mp k (h.dom k hk)).trans (h.mp k hk)⟩
theorem Ext.at {g g' : Gh} (E : Ext g g') {b : Nat} (h : g.at b) : g'.at b := ⟨E.dom b h.1, (E.mp b h.1).trans h.2⟩
theorem tJ {g g' : Gh} (hw : g.wf) (E : Ext g g') {x : AV} {v : Value} (h : CR g x v) : CR g' x v := by
 cases x with
 | flat u => exact h
 | ptr b o => exact ⟨E.at h.1, by rw [E.φ b h.1.1, E.δ b h.1.1]; exact h.2⟩
 | mp b => exact ⟨⟨E.dom b h.1.1, (E.mp b h.1.1).trans h.1.2⟩, by rw [E.φ b h.1.1]; exact h.2⟩
 | sl b o l c =>
  obtain ⟨hb, c', rfl, hl, hc⟩ := h
  refine ⟨E.at hb, c', by rw [E.φ b hb.1, E.δ b hb.1], hl, ?_⟩
  cases c with
  | ex c => exact hc
  | ge e k => exact ⟨hc.1, by rw [E.φ b hb.1, E.δ b hb.1, E.S _ (hw b hb.1)]; exact hc.2⟩
 | e0 => exact h
 | ch => exact h
 | clo f vs => exact h.elim
 | junk => exact h
 | agg n c => exact h.elim
 | tup vs => exact h.elim
theorem qL {g g' : Gh} (hw : g.wf) (E : Ext g g') {x : AV} {v : Value} (h : VR1 g x v) : VR1 g' x v := by
 cases x with
 | flat u => exact h
 | junk => trivial
 | agg n c => obtain ⟨a, rfl, hs, hc⟩ := h; exact ⟨a, rfl, hs, fun i hi => tJ hw E (hc i hi)⟩
 | ptr b o => exact tJ (x := .ptr b o) hw E h
 | sl b o l c => exact tJ (x := .sl b o l c) hw E h
 | mp b => exact tJ (x := .mp b) hw E h
 | e0 => exact h
 | ch => exact h
 | clo f vs => exact h.elim
 | tup vs => exact h.elim
theorem All2.imp {α β : Type} {R R' : α -> β -> Prop} (h : ∀ a b, R a b -> R' a b) : ∀ {l : List α} {l' : List β}, All2 R l l' -> All2 R' l l'
 | [], [], _ => trivial
 | _ :: _, _ :: _, x => ⟨h _ _ x.1, All2.imp h x.2⟩
 | [], _ :: _, x => x.elim
 | _ :: _, [], x => x.elim
theorem yBp {g g' : Gh} (hw : g.wf) (E : Ext g g') {x : AV} {v : Value} (h : VR g x v) : VR g' x v := by
 cases x with
 | tup vs => obtain ⟨a, rfl, hf⟩ := h; exact ⟨a, rfl, hf.imp fun _ _ => qL hw E⟩
 | flat u => exact h
 | junk => trivial
 | agg n c => exact qL (x := .agg n c) hw E h
 | ptr b o => exact tJ (x := .ptr b o) hw E h
 | sl b o l c => exact tJ (x := .sl b o l c) hw E h
 | mp b => exact tJ (x := .mp b) hw E h
 | e0 => exact h
 | ch => exact h
 | clo f vs => obtain ⟨a, rfl, hf⟩ := h; exact ⟨a, rfl, hf.imp fun _ _ => qL hw E⟩
def BR (w0 : World) (g : Gh) (w : World) (r d : Nat) (x : Blk) : Prop :=
 ∃ c t fr, w.heap[r]? = some (.cells c t fr) /\ d + x.n <= c.size /\ g.S r = c.size /\ (∀ i, i < x.n -> CR g (x.c i) (c.getD (d + i) undef)) /\ (x.ro = false -> t = x.t /\ fr = (0, 0) /\ w0.heap.size <= r /\ d = 0)
def MR (w0 : World) (g : Gh) (w : World) (r : Nat) (x : Blk) : Prop :=
 x.n = 0 /\ x.ro = false /\ w0.heap.size <= r /\ ∃ (es : Array MapEntry) (clock : Nat), w.heap[r]? = some (.map es clock) /\ es.size = x.t /\ ∀ i, (h : i < es.size) -> VR1 g (x.c (2 * i)) es[i].key /\ VR1 g (x.c (2 * i + 1)) es[i].val
structure R (w0 : World) (g : Gh) (m : Mem) (w : World) : Prop where
 dom : ∀ b, g.dom b ↔ m.obj b ≠ none
 hs : w.heap.size = g.hs
 wf : g.wf
 inj : ∀ b b' x x', m.obj b = some x -> m.obj b' = some x' -> x.ro = false -> g.φ b = g.φ b' -> b = b'
 blk : ∀ b x, m.obj b = some x -> g.mp b = false -> BR w0 g w (g.φ b) (g.δ b) x
 mpb : ∀ b x, m.obj b = some x -> g.mp b = true -> MR w0 g w (g.φ b) x
 old : ∀ k, k < w0.heap.size -> w.heap[k]? = w0.heap[k]?
 size : w0.heap.size <= w.heap.size
 os : w.os = w0.os
 tape : w.tape = w0.tape
 output : w.output = w0.output
theorem R.live {w0 : World} {g : Gh} {m : Mem} {w : World} (h : R w0 g m w) {b : Nat} {x : Blk} (e : m.obj b = some x) : g.dom b := (h.dom b).2 (by rw [e]; simp)
theorem R.drew {w0 : World} {g : Gh} {m : Mem} {w : World} (h : R w0 g m w) (k : Nat) : R w0 g m { w with drawn := k } :=
 ⟨h.dom, h.hs, h.wf, h.inj, h.blk, h.mpb, h.old, h.size, h.os, h.tape, h.output⟩
theorem R.nomp {w0 : World} {g : Gh} {m : Mem} {w : World} (h : R w0 g m w) {b : Nat} {x : Blk} (hb : m.obj b = some x) {i : Nat} (hi : i < x.n) : g.mp b = false := by
 cases e : g.mp b with
 | false => rfl
 | true => have := (h.mpb b x hb e).1; omega
theorem R.cell {w0 : World} {g : Gh} {m : Mem} {w : World} (h : R w0 g m w) {b : Nat} {x : Blk} (hb : m.obj b = some x) {i : Nat} (hi : i < x.n) :
  ∃ v, w.cell? ⟨g.φ b, g.δ b + i, none⟩ = some v /\ CR g (x.c i) v := by
 obtain ⟨c, t, fr, he, hn, _, hc, _⟩ := h.blk b x hb (h.nomp hb hi)
 refine ⟨c.getD (g.δ b + i) undef, ?_, hc i hi⟩
 simp [World.cell?, he, Array.getD, show g.δ b + i < c.size by omega]
theorem R.flatδ {w0 : World} {g : Gh} {m : Mem} {w : World} (h : R w0 g m w) {b : Nat} {x : Blk} (hb : m.obj b = some x) (hr : x.ro = false) (hm : g.mp b = false) : g.δ b = 0 := by
 obtain ⟨c, t, fr, he, _, _, _, hf⟩ := h.blk b x hb hm
 exact (hf hr).2.2.2
theorem R.free {w0 : World} {g : Gh} {m : Mem} {w : World} (h : R w0 g m w) {b : Nat} {x : Blk} (hb : m.obj b = some x) (hr : x.ro = false) (hm : g.mp b = false) (i : Nat) : w.frozen? ⟨g.φ b, g.δ b + i, none⟩ = false := by
 obtain ⟨c, t, fr, he, _, _, _, hf⟩ := h.blk b x hb hm
 obtain ⟨_, rfl, _⟩ := hf hr
 simp [World.frozen?, he]
def Gh.push (g : Gh) (b n : Nat) : Gh := ⟨fun b' => if b' = b then g.hs else g.φ b', fun b' => if b' = b then 0 else g.δ b', fun k => if k = g.hs then n else g.S k, fun b' => b' = b \/ g.dom b', g.hs + 1, fun b' => if b' = b then false else g.mp b'⟩
theorem Gh.push_ext (g : Gh) {b : Nat} (n : Nat) (hb : ¬ g.dom b) : Ext g (g.push b n) :=
 ⟨fun b' h => .inr h, Nat.le_succ _, fun b' hb' => by have : b' ≠ b := fun e => hb (e ▸ hb'); simp [Gh.push, this], fun b' hb' => by have : b' ≠ b := fun e => hb (e ▸ hb'); simp [Gh.push, this], fun k hk => by simp [Gh.push, Nat.ne_of_lt hk], fun b' hb' => by have : b' ≠ b := fun e => hb (e ▸ hb'); simp [Gh.push, this]⟩
theorem R.new {w0 : World} {g : Gh} {m : Mem} {w : World} (h : R w0 g m w) {b0 : Nat} (hb0 : m.obj b0 = none) (x : Blk) (c : Array Value) (hc : x.n <= c.size) (hr : x.ro = false)
  (hcr : ∀ i, i < x.n -> CR g (x.c i) (c.getD i undef)) :
  R w0 (g.push b0 c.size) (m.set b0 x) { w with heap := w.heap.push (.cells c x.t) } := by
 have hnd : ¬ g.dom b0 := fun hd => (h.dom b0).1 hd hb0
 have E := g.push_ext c.size hnd
 have hget : ∀ k, k < g.hs -> (w.heap.push (.cells c x.t))[k]? = w.heap[k]? := fun k hk => by
  rw [Array.getElem?_push_lt (by rw [h.hs]; exact hk)]; rw [Array.getElem?_eq_getElem]
 have hobj : ∀ b y, (m.set b0 x).obj b = some y -> (b = b0 /\ y = x) \/ (b ≠ b0 /\ m.obj b = some y) := fun b y e => by
  simp only [Mem.set, upd] at e
  split at e
  .rename_i hb; exact .inl ⟨hb, by simpa using e.symm⟩
  .rename_i hb; exact .inr ⟨hb, e⟩
 refine ⟨fun b => ?_, by simp [Gh.push, h.hs], fun b hb => ?_, fun b b' y y' e e' hro hφ => ?_, fun b y e em => ?_, fun b y e em => ?_, fun k hk => ?_, by simp; have := h.size; omega, h.os, h.tape, h.output⟩
 .simp only [Gh.push, Mem.set, upd]
  by_cases c : b = b0
  .simp [c]
  .simp [c, h.dom b]
 .simp only [Gh.push] at hb ⊢
  split
  .omega
  .rename_i hne
   have := h.wf b (hb.resolve_left hne); omega
 .rcases hobj b y e with ⟨h1, h2⟩ | ⟨hn, e1⟩ <;> rcases hobj b' y' e' with ⟨h1', h2'⟩ | ⟨hn', e1'⟩
  .rw [h1, h1']
  .simp only [Gh.push, if_pos h1, if_neg hn'] at hφ
   have := h.wf b' (h.live e1'); omega
  .simp only [Gh.push, if_pos h1', if_neg hn] at hφ
   have := h.wf b (h.live e1); omega
  .simp only [Gh.push, if_neg hn, if_neg hn'] at hφ
   exact h.inj b b' y y' e1 e1' hro hφ
 .rcases hobj b y e with ⟨rfl, rfl⟩ | ⟨hn, e⟩
  .have hδ : (g.push b c.size).δ b = 0 := by simp [Gh.push]
   rw [hδ]
   refine ⟨c, y.t, (0, 0), ?_, by omega, ?_, fun i hi => by rw [Nat.zero_add]; exact tJ h.wf E (hcr i hi), fun _ => ⟨rfl, rfl, ?_, rfl⟩⟩
   .simp [Gh.push, <- h.hs]
   .simp [Gh.push]
   .simp only [Gh.push, if_true, <- h.hs]; exact h.size
  .have hb := h.live e
   obtain ⟨c', t, fr, he, hn', hS, hcc, hf⟩ := h.blk b y e (by rw [<- E.mp b hb]; exact em)
   have hφ : (g.push b0 c.size).φ b = g.φ b := E.φ b hb
   have hδ : (g.push b0 c.size).δ b = g.δ b := E.δ b hb
   rw [hδ]
   refine ⟨c', t, fr, ?_, hn', ?_, fun i hi => tJ h.wf E (hcc i hi), ?_⟩
   .rw [hφ]; exact (hget _ (h.wf b hb)).trans he
   .rw [hφ, E.S _ (h.wf b hb)]; exact hS
   .rw [hφ]; exact hf
 .rcases hobj b y e with ⟨rfl, rfl⟩ | ⟨hn, e⟩
  .simp [Gh.push] at em
  .have hb := h.live e
   obtain ⟨k1, k2, k3, es, clock, k4, k5, k6⟩ := h.mpb b y e (by rw [<- E.mp b hb]; exact em)
   have hφ : (g.push b0 c.size).φ b = g.φ b := E.φ b hb
   rw [hφ]
   exact ⟨k1, k2, k3, es, clock, (hget _ (h.wf b hb)).trans k4, k5, fun i hi => ⟨qL h.wf E (k6 i hi).1, qL h.wf E (k6 i hi).2⟩⟩
 .show (w.heap.push (.cells c x.t))[k]? = _
  rw [hget k (by rw [<- h.hs]; exact Nat.lt_of_lt_of_le hk h.size)]; exact h.old k hk
theorem Ext.more (g : Gh) : Ext g { g with hs := g.hs + 1 } := ⟨fun _ h => h, Nat.le_succ _, fun _ _ => rfl, fun _ _ => rfl, fun _ _ => rfl, fun _ _ => rfl⟩
theorem R.more {w0 : World} {g : Gh} {m : Mem} {w : World} (h : R w0 g m w) (o : Obj) : R w0 { g with hs := g.hs + 1 } m { w with heap := w.heap.push o } := by
 have E := Ext.more g
 have hget : ∀ k, k < g.hs -> (w.heap.push o)[k]? = w.heap[k]? := fun k hk => by
  rw [Array.getElem?_push_lt (by rw [h.hs]; exact hk)]; rw [Array.getElem?_eq_getElem]
 refine ⟨h.dom, by simp [h.hs], fun b hb => Nat.lt_succ_of_lt (h.wf b hb), h.inj, fun b y e em => ?_, fun b y e em => ?_, fun k hk => ?_, by simp; have := h.size; omega, h.os, h.tape, h.output⟩
 .obtain ⟨c', t, fr, he, hn', hS, hcc, hf⟩ := h.blk b y e em
  exact ⟨c', t, fr, (hget _ (h.wf b (h.live e))).trans he, hn', hS, fun i hi => tJ h.wf E (hcc i hi), hf⟩
 .obtain ⟨k1, k2, k3, es, clock, k4, k5, k6⟩ := h.mpb b y e em
  exact ⟨k1, k2, k3, es, clock, (hget _ (h.wf b (h.live e))).trans k4, k5, fun i hi => ⟨qL h.wf E (k6 i hi).1, qL h.wf E (k6 i hi).2⟩⟩
 .show (w.heap.push o)[k]? = _
  rw [hget k (by rw [<- h.hs]; exact Nat.lt_of_lt_of_le hk h.size)]; exact h.old k hk
theorem dU {g g' : Gh} (E : Ext g g') {x : AV} {v v0 : Value} (h : CR g x v0) (h' : CR g' x v) : CR ⟨g'.φ, g'.δ, g'.S, g.dom, g'.hs, g'.mp⟩ x v := by
 cases x with
 | flat u => exact h'
 | ptr b o => exact ⟨⟨h.1.1, h'.1.2⟩, h'.2⟩
 | sl b o l c => exact ⟨⟨h.1.1, h'.1.2⟩, h'.2⟩
 | e0 => exact h'
 | ch => exact h'
 | clo f vs => exact h'.elim
 | mp b => exact ⟨⟨h.1.1, h'.1.2⟩, h'.2⟩
 | junk => exact h'
 | agg n c => exact h'.elim
 | tup vs => exact h'.elim
theorem Ext.back {g g' : Gh} (E : Ext g g') : Ext g ⟨g'.φ, g'.δ, g'.S, g.dom, g'.hs, g'.mp⟩ := ⟨fun _ h => h, E.hs, E.φ, E.δ, E.S, E.mp⟩
theorem zQw {g g' : Gh} (E : Ext g g') {x : AV} {v v0 : Value} (h : VR1 g x v0) (h' : VR1 g' x v) : VR1 ⟨g'.φ, g'.δ, g'.S, g.dom, g'.hs, g'.mp⟩ x v := by
 cases x with
 | flat u => exact h'
 | junk => trivial
 | agg n c =>
  obtain ⟨a0, _, s0, c0⟩ := h
  obtain ⟨a, e, s, c⟩ := h'
  exact ⟨a, e, s, fun i hi => dU E (c0 i hi) (c i hi)⟩
 | ptr b o => exact dU (x := .ptr b o) E h h'
 | sl b o l c => exact dU (x := .sl b o l c) E h h'
 | mp b => exact dU (x := .mp b) E h h'
 | e0 => exact h'
 | ch => exact h'
 | clo f vs => exact h'.elim
 | tup vs => exact h'
theorem R.back {w0 : World} {g g' : Gh} {m m' : Mem} {w w' : World} (h : R w0 g m w) (h' : R w0 g' m' w') (E : Ext g g') (K : zA m m') : R w0 ⟨g'.φ, g'.δ, g'.S, g.dom, g'.hs, g'.mp⟩ m w' := by
 have ko : ∀ {b x}, m.obj b = some x -> m'.obj b = some x := fun {b x} e => by rw [K b (by rw [e]; simp)]; exact e
 refine ⟨h.dom, h'.hs, fun b hb => h'.wf b (E.dom b hb), fun b b' x x' e e' => h'.inj b b' x x' (ko e) (ko e'), fun b x e em => ?_, fun b x e em => ?_, h'.old, h'.size, h'.os, h'.tape, h'.output⟩
 .obtain ⟨c0, t0, fr0, he0, hn0, hS0, hc0, hf0⟩ := h.blk b x e (by rw [<- E.mp b (h.live e)]; exact em)
  obtain ⟨c, t, fr, he, hn, hS, hc, hf⟩ := h'.blk b x (ko e) em
  exact ⟨c, t, fr, he, hn, hS, fun i hi => dU E (hc0 i hi) (hc i hi), hf⟩
 .obtain ⟨_, _, _, es0, _, _, s0, k0⟩ := h.mpb b x e (by rw [<- E.mp b (h.live e)]; exact em)
  obtain ⟨k1, k2, k3, es, clock, k4, k5, k6⟩ := h'.mpb b x (ko e) em
  exact ⟨k1, k2, k3, es, clock, k4, k5, fun i hi => ⟨zQw E (k0 i (by omega)).1 (k6 i hi).1, zQw E (k0 i (by omega)).2 (k6 i hi).2⟩⟩
theorem dZ {w0 : World} {g g' : Gh} {m : Mem} {w : World} (h : R w0 g m w) (E : Ext g g') {x : AV} {v : Value} (hd : x.inDom m) (h' : CR g' x v) : CR ⟨g'.φ, g'.δ, g'.S, g.dom, g'.hs, g'.mp⟩ x v := by
 cases x with
 | flat u => exact h'
 | ptr b o => exact ⟨⟨(h.dom b).2 hd, h'.1.2⟩, h'.2⟩
 | sl b o l c => exact ⟨⟨(h.dom b).2 hd, h'.1.2⟩, h'.2⟩
 | mp b => exact ⟨⟨(h.dom b).2 hd, h'.1.2⟩, h'.2⟩
 | e0 => exact h'
 | ch => exact h'
 | clo f vs => exact h'.elim
 | junk => exact h'
 | agg n c => exact h'.elim
 | tup vs => exact h'.elim
theorem R.write {w0 : World} {g : Gh} {m : Mem} {w w' : World} (h : R w0 g m w) {b : Nat} {x y : Blk} (hb : m.obj b = some x) (hr : x.ro = false) (hm : g.mp b = false)
  (hy : y.n = x.n /\ y.t = x.t /\ y.ro = x.ro)
  (hw : ∀ c t, w.heap[g.φ b]? = some (.cells c t (0, 0)) -> ∃ c', w'.heap[g.φ b]? = some (.cells c' t (0, 0)) /\ c'.size = c.size /\ ∀ i, i < x.n -> CR g (y.c i) (c'.getD i undef))
  (ho : ∀ k, k ≠ g.φ b -> w'.heap[k]? = w.heap[k]?) (hs : w'.heap.size = w.heap.size) (hos : w'.os = w.os) (ht : w'.tape = w.tape) (hout : w'.output = w.output) : R w0 g (m.set b y) w' := by
 have hobj : ∀ b' z, (m.set b y).obj b' = some z -> (b' = b /\ z = y) \/ (b' ≠ b /\ m.obj b' = some z) := fun b' z e => by
  simp only [Mem.set, upd] at e
  split at e
  .rename_i hb'; exact .inl ⟨hb', by simpa using e.symm⟩
  .rename_i hb'; exact .inr ⟨hb', e⟩
 obtain ⟨c, t, fr, he, hn, hS, hc, hf⟩ := h.blk b x hb hm
 obtain ⟨ht', hfr, hB, hδ⟩ := hf hr
 subst hfr
 obtain ⟨c', he', hs', hc'⟩ := hw c t he
 refine ⟨fun b' => ?_, hs.trans h.hs, h.wf, fun b1 b2 y1 y2 e1 e2 hro hφ => ?_, fun b1 y1 e1 em => ?_, fun b1 y1 e1 em => ?_, fun k hk => ?_, by rw [hs]; exact h.size, hos.trans h.os, ht.trans h.tape, hout.trans h.output⟩
 .rw [h.dom b']
  simp only [Mem.set, upd]
  by_cases c : b' = b
  .subst c; simp [hb]
  .simp [c]
 .rcases hobj b1 y1 e1 with ⟨h1, h2⟩ | ⟨hn1, e1'⟩ <;> rcases hobj b2 y2 e2 with ⟨h1', h2'⟩ | ⟨hn2, e2'⟩
  .rw [h1, h1']
  .subst h1; exact h.inj _ _ x _ hb e2' hr hφ
  .subst h1'; exact h.inj _ _ _ x e1' hb hro hφ
  .exact h.inj _ _ _ _ e1' e2' hro hφ
 .rcases hobj b1 y1 e1 with ⟨rfl, rfl⟩ | ⟨hn1, e1⟩
  .exact ⟨c', t, (0, 0), he', by rw [hy.1, hs']; exact hn, by rw [hs']; exact hS, fun i hi => by rw [hδ, Nat.zero_add]; exact hc' i (by rw [hy.1] at hi; exact hi), fun _ => ⟨by rw [hy.2.1]; exact ht', rfl, hB, hδ⟩⟩
  .obtain ⟨c1, t1, fr1, he1, rest⟩ := h.blk b1 y1 e1 em
   refine ⟨c1, t1, fr1, ?_, rest⟩
   rw [ho _ (fun hφ => hn1 ((h.inj b b1 x y1 hb e1 hr hφ.symm).symm))]
   exact he1
 .rcases hobj b1 y1 e1 with ⟨rfl, rfl⟩ | ⟨hn1, e1⟩
  .rw [hm] at em; cases em
  .obtain ⟨k1, k2, k3, es, clock, k4, k5⟩ := h.mpb b1 y1 e1 em
   refine ⟨k1, k2, k3, es, clock, ?_, k5⟩
   rw [ho _ (fun hφ => hn1 ((h.inj b b1 x y1 hb e1 hr hφ.symm).symm))]
   exact k4
 .rw [ho k (by omega)]; exact h.old k hk
theorem R.grow {w0 : World} {g : Gh} {m : Mem} {w w' : World} (h : R w0 g m w) {b : Nat} {x y : Blk} (hb : m.obj b = some x) (hr : x.ro = false) (hm : g.mp b = false)
  (hy : x.n <= y.n /\ y.t = x.t /\ y.ro = x.ro) (hfit : y.n <= g.S (g.φ b))
  (hw : ∀ c t, w.heap[g.φ b]? = some (.cells c t (0, 0)) -> ∃ c', w'.heap[g.φ b]? = some (.cells c' t (0, 0)) /\ c'.size = c.size /\ ∀ i, i < y.n -> CR g (y.c i) (c'.getD i undef))
  (ho : ∀ k, k ≠ g.φ b -> w'.heap[k]? = w.heap[k]?) (hs : w'.heap.size = w.heap.size) (hos : w'.os = w.os) (ht : w'.tape = w.tape) (hout : w'.output = w.output) : R w0 g (m.set b y) w' := by
 have hobj : ∀ b' z, (m.set b y).obj b' = some z -> (b' = b /\ z = y) \/ (b' ≠ b /\ m.obj b' = some z) := fun b' z e => by
  simp only [Mem.set, upd] at e
  split at e
  .rename_i hb'; exact .inl ⟨hb', by simpa using e.symm⟩
  .rename_i hb'; exact .inr ⟨hb', e⟩
 obtain ⟨c, t, fr, he, hn, hS, hc, hf⟩ := h.blk b x hb hm
 obtain ⟨ht', hfr, hB, hδ⟩ := hf hr
 subst hfr
 obtain ⟨c', he', hs', hc'⟩ := hw c t he
 refine ⟨fun b' => ?_, hs.trans h.hs, h.wf, fun b1 b2 y1 y2 e1 e2 hro hφ => ?_, fun b1 y1 e1 em => ?_, fun b1 y1 e1 em => ?_, fun k hk => ?_, by rw [hs]; exact h.size, hos.trans h.os, ht.trans h.tape, hout.trans h.output⟩
 .rw [h.dom b']
  simp only [Mem.set, upd]
  by_cases c : b' = b
  .subst c; simp [hb]
  .simp [c]
 .rcases hobj b1 y1 e1 with ⟨h1, h2⟩ | ⟨hn1, e1'⟩ <;> rcases hobj b2 y2 e2 with ⟨h1', h2'⟩ | ⟨hn2, e2'⟩
  .rw [h1, h1']
  .subst h1; exact h.inj _ _ x _ hb e2' hr hφ
  .subst h1'; exact h.inj _ _ _ x e1' hb hro hφ
  .exact h.inj _ _ _ _ e1' e2' hro hφ
 .rcases hobj b1 y1 e1 with ⟨rfl, rfl⟩ | ⟨hn1, e1⟩
  .exact ⟨c', t, (0, 0), he', by rw [hδ, hs', Nat.zero_add, <- hS]; exact hfit, by rw [hs']; exact hS, fun i hi => by rw [hδ, Nat.zero_add]; exact hc' i hi, fun _ => ⟨by rw [hy.2.1]; exact ht', rfl, hB, hδ⟩⟩
  .obtain ⟨c1, t1, fr1, he1, rest⟩ := h.blk b1 y1 e1 em
   refine ⟨c1, t1, fr1, ?_, rest⟩
   rw [ho _ (fun hφ => hn1 ((h.inj b b1 x y1 hb e1 hr hφ.symm).symm))]
   exact he1
 .rcases hobj b1 y1 e1 with ⟨rfl, rfl⟩ | ⟨hn1, e1⟩
  .rw [hm] at em; cases em
  .obtain ⟨k1, k2, k3, es, clock, k4, k5⟩ := h.mpb b1 y1 e1 em
   refine ⟨k1, k2, k3, es, clock, ?_, k5⟩
   rw [ho _ (fun hφ => hn1 ((h.inj b b1 x y1 hb e1 hr hφ.symm).symm))]
   exact k4
 .rw [ho k (by omega)]; exact h.old k hk
theorem R.setCell {w0 : World} {g : Gh} {m : Mem} {w : World} (h : R w0 g m w) {b : Nat} {x : Blk} (hb : m.obj b = some x) (hr : x.ro = false) {o : Nat} (ho : o < x.n) {v : AV} {v' : Value} (hv : CR g v v') :
  R w0 g (m.set b { x with c := upd x.c o v }) (w.setCell ⟨g.φ b, o, none⟩ v') := by
 refine h.write hb hr (h.nomp hb ho) ⟨rfl, rfl, rfl⟩ (fun c t he => ?_) (fun k hk => ?_) (by simp [World.setCell]) rfl rfl rfl
 .obtain ⟨c2, t2, fr2, he2, hn, _, hc, hf⟩ := h.blk b x hb (h.nomp hb ho)
  have hδ := (hf hr).2.2.2
  rw [hδ] at hn hc
  simp only [Nat.zero_add] at hn hc
  rw [he] at he2
  injection he2 with he2; injection he2 with h1 h2 h3
  subst h1
  refine ⟨c.setIfInBounds o v', by simp [World.setCell, Array.getElem?_modify, he], by simp, fun i hi => ?_⟩
  simp only [upd]
  by_cases hio : i = o
  .subst hio
   rw [if_pos rfl]
   simpa [Array.getD, show i < c.size by omega] using hv
  .rw [if_neg hio]
   have := hc i hi
   simpa [Array.getD, show i < c.size by omega, Array.getElem_setIfInBounds, Ne.symm hio] using this
 .simp [World.setCell, Array.getElem?_modify, Ne.symm hk]
theorem R.setCells {w0 : World} {g : Gh} {b : Nat} : ∀ (vs : List Value) (o : Nat) (d : Nat -> AV) (m : Mem) (w : World) (x : Blk), R w0 g m w -> m.obj b = some x -> x.ro = false -> o + vs.length <= x.n ->
  (∀ j, j < vs.length -> CR g (d j) (vs.getD j undef)) -> R w0 g (m.set b { x with c := zC x.c o vs.length d }) (w.setCells (g.φ b) o vs)
 | [], o, d, m, w, x, h, hb, hr, ho, hd => by
  have e : m.set b { x with c := zC x.c o 0 d } = m := by
   have e1 : zC x.c o 0 d = x.c := by funext j; simp only [zC]; rw [if_neg (by omega)]
   cases m
   simp only [Mem.set, e1, Mem.mk.injEq]
   funext j
   simp only [upd]
   split
   .rename_i hj; subst hj; exact hb.symm
   .rfl
  simpa [World.setCells, e] using h
 | v :: vs, o, d, m, w, x, h, hb, hr, ho, hd => by
  simp only [List.length_cons] at ho
  have h1 := h.setCell hb hr (o := o) (by omega) (v := d 0) (v' := v) (by have := hd 0 (by simp); simpa using this)
  have ih := R.setCells (b := b) vs (o + 1) (fun j => d (j + 1)) (m.set b { x with c := upd x.c o (d 0) }) _ { x with c := upd x.c o (d 0) } h1 (by simp [Mem.set, upd]) hr (by simp only []; omega) (fun j hj => by have := hd (j + 1) (by simp; omega); simpa using this)
  simp only [World.setCells]
  have e : (m.set b { x with c := upd x.c o (d 0) }).set b { x with c := zC (upd x.c o (d 0)) (o + 1) vs.length (fun j => d (j + 1)) } = m.set b { x with c := zC x.c o (v :: vs).length d } := by
   simp only [Mem.set, Mem.mk.injEq]
   funext j
   simp only [upd]
   split
   .rename_i hj; subst hj
    simp only [Option.some.injEq, Blk.mk.injEq, true_and, and_true]
    funext i
    simp only [zC, List.length_cons]
    by_cases c0 : i = o
    .subst c0
     rw [if_neg (by omega), if_pos (by omega)]
     simp [upd]
    .by_cases c1 : o + 1 <= i /\ i < o + 1 + vs.length
     .rw [if_pos c1, if_pos (by omega)]
      congr 1; omega
     .rw [if_neg c1, if_neg (by omega)]
      simp [upd, c0]
   .rfl
  rw [e] at ih
  exact ih
end Go.Proofs.YtkiggdgphbkneaaGreat.Am
