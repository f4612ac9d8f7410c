/- Appending, copying, bytes as strings: what the abstract machine asks, the real one does. No program in sight. -/
import Derived.Test.YtkiggdgphbkneaaGreatTopDiskX4
namespace Go.Proofs.YtkiggdgphbkneaaGreat.Am
set_option linter.unusedVariables false
set_option linter.unusedSimpArgs false
theorem Mem.fresh (m : Mem) : ∃ b, m.obj b = none := by
 obtain ⟨N, h⟩ := m.fin
 exact ⟨N, h N (Nat.le_refl _)⟩
theorem zV3 {P : Program} {esz : Nat} {x : AV} {x' : Value} {m : Mem} {k : Nat -> (Nat -> AV) -> Prop} {w0 : World} {g : Gh} (hx : VR g x x') (h : aO esz x m k) :
  ∃ n d, (∀ w, (Builtin.lenOf x').run P w = .ok n w) /\ (∀ w n', R w0 g m w -> n' <= n -> ∃ vs : Array Value, (Builtin.firstCells esz n' x').run P w = .ok vs w /\ vs.size = n' * esz /\ ∀ j, j < n' * esz -> CR g (d j) (vs.getD j undef)) /\ k n d := by
 have key : ∀ (w : World) (ad : Option Addr) (l c : Nat), (Builtin.firstCells esz 0 (.slice ad l c)).run P w = .ok #[] w := by
  intro w ad l c
  cases ad with
  | none => rfl
  | some a =>
   simp only [Builtin.firstCells, Nat.zero_mul]
   have := run_loadCells (P := P) w a 0 (fun _ => undef) (fun j hj => by omega)
   simpa using this
 unfold aO at h
 split at h
 .rename_i b o n c
  obtain ⟨y, hy, h⟩ := vP h
  rw [zO] at h
  split at h
  rotate_left
  .exact h.elim
  rename_i hn
  obtain ⟨hb, c', rfl, hl, _⟩ := hx
  refine ⟨n, _, fun w => rfl, fun w n' HR hn' => ?_, h⟩
  have hmul : n' * esz <= n * esz := Nat.mul_le_mul_right _ hn'
  have hcell : ∀ j, j < n' * esz -> w.cell? ((⟨g.φ b, g.δ b + o, none⟩ : Addr).add j) = some ((w.cell? ⟨g.φ b, g.δ b + (o + j), none⟩).getD undef) := fun j hj => by
   rw [Addr.add_plain, Nat.add_assoc]
   obtain ⟨v, hv, _⟩ := HR.cell hy (i := o + j) (by omega)
   rw [hv]; rfl
  refine ⟨_, run_loadCells w _ _ _ hcell, by simp, fun j hj => ?_⟩
  obtain ⟨v, hv, hc⟩ := HR.cell hy (i := o + j) (by omega)
  simp only [sub, if_pos (show j < n * esz by omega)]
  simpa [Array.getD, hj, hv] using hc
 .obtain ⟨ad, c', rfl⟩ := hx
  refine ⟨0, _, fun w => rfl, fun w n' HR hn' => ?_, h⟩
  have : n' = 0 := by omega
  subst this
  exact ⟨#[], key w _ _ _, by simp, fun j hj => by omega⟩
 .rename_i ad n c
  rw [zO] at h
  split at h
  rotate_left
  .exact h.elim
  rename_i hz
  obtain ⟨rfl, rfl⟩ := hz
  have hx : x' = .slice ad 0 0 := hx
  subst hx
  refine ⟨0, _, fun w => rfl, fun w n' HR hn' => ?_, h⟩
  have : n' = 0 := by omega
  subst this
  exact ⟨#[], key w _ _ _, by simp, fun j hj => by omega⟩
 .rename_i s
  rw [zO] at h
  split at h
  rotate_left
  .exact h.elim
  rename_i hz
  subst hz
  have hx : x' = .string s := hx
  subst hx
  refine ⟨s.size, _, fun w => rfl, fun w n' HR hn' => ?_, h⟩
  have hsz : (s.extract 0 n').data.size = n' := by
   have : (s.extract 0 n').size = n' := by rw [ByteArray.size_extract]; omega
   exact this
  refine ⟨_, rfl, by simpa using hsz, fun j hj => ?_⟩
  have hj' : j < n' := by omega
  have hj2 : j < (s.extract 0 n').data.size := by omega
  have hj3 : j < s.data.size := by
   have : s.data.size = s.size := rfl
   omega
  have e : (s.extract 0 n').data[j] = s.data[j] := by
   have : (s.extract 0 n').data = s.data.extract 0 n' := by rw [ByteArray.data_extract]
   simp [this]
  refine ⟨?_, rfl⟩
  have hm : j < min n' s.size := by omega
  have hs2 : j < s.size := by omega
  simp [Array.getD, hj2, hj3, e, hm, hs2]
 .exact h.elim
theorem gL (r : Nat) (t : TypeId) (fr : Nat × Nat) : ∀ (vs : List Value) (o : Nat) (w : World) (c : Array Value), w.heap[r]? = some (.cells c t fr) ->
  ∃ c', (w.setCells r o vs).heap[r]? = some (.cells c' t fr) /\ c'.size = c.size /\ (∀ i, i < c.size -> c'.getD i undef = if o <= i /\ i < o + vs.length then vs.getD (i - o) undef else c.getD i undef) /\
   (∀ k, k ≠ r -> (w.setCells r o vs).heap[k]? = w.heap[k]?) /\ (w.setCells r o vs).heap.size = w.heap.size /\ (w.setCells r o vs).os = w.os /\ (w.setCells r o vs).tape = w.tape /\ (w.setCells r o vs).output = w.output
 | [], o, w, c, h => ⟨c, h, rfl, fun i hi => by rw [if_neg (by simp)], fun _ _ => rfl, rfl, rfl, rfl, rfl⟩
 | v :: vs, o, w, c, h => by
  have h1 : (w.setCell ⟨r, o, none⟩ v).heap[r]? = some (.cells (c.setIfInBounds o v) t fr) := by simp [World.setCell, Array.getElem?_modify, h]
  obtain ⟨c', g1, g2, g3, g4, g5, g6, g7, g8⟩ := gL r t fr vs (o + 1) _ _ h1
  refine ⟨c', g1, by simpa using g2, fun i hi => ?_, fun k hk => ?_, ?_, g6, g7, g8⟩
  .rw [g3 i (by simpa using hi)]
   by_cases c0 : i = o
   .subst c0
    rw [if_neg (by omega), if_pos (by simp)]
    simp [Array.getD, hi]
   .by_cases c1 : o + 1 <= i /\ i < o + 1 + vs.length
    .rw [if_pos c1, if_pos (by simp; omega)]
     have : i - o = (i - (o + 1)) + 1 := by omega
     rw [this]; simp
    .rw [if_neg c1, if_neg (by simp; omega)]
     simp [Array.getD, hi, Array.getElem_setIfInBounds, Ne.symm c0]
  .rw [show (w.setCells r o (v :: vs)) = (w.setCell ⟨r, o, none⟩ v).setCells r (o + 1) vs from rfl, g4 k hk]
   simp [World.setCell, Array.getElem?_modify, Ne.symm hk]
  .rw [show (w.setCells r o (v :: vs)) = (w.setCell ⟨r, o, none⟩ v).setCells r (o + 1) vs from rfl, g5]
   simp [World.setCell]
theorem R.storeRow {P : Program} {w0 : World} {g : Gh} {m : Mem} {w : World} (HR : R w0 g m w) {b : Nat} {x : Blk} (hb : m.obj b = some x) (hr : x.ro = false) (hm : g.mp b = false) {o n N : Nat} {d : Nat -> AV} {vs : Array Value} (hvs : vs.size = n)
  (hd : ∀ j, j < n -> CR g (d j) (vs.getD j undef)) (ho : o <= x.n) (hN : N = max x.n (o + n)) (hfit : o + n <= g.S (g.φ b)) :
  ∃ w', (storeCells ⟨g.φ b, o, none⟩ vs.toList).run P w = .ok () w' /\ R w0 g (m.set b { x with n := N, c := zC x.c o n d }) w' := by
 obtain ⟨c, t, fr, he, hn, hS, hc, hf⟩ := HR.blk b x hb hm
 obtain ⟨ht, hfr, hB, hδ⟩ := hf hr
 subst hfr
 rw [hδ] at hn hc
 simp only [Nat.zero_add] at hn hc
 have hlen : vs.toList.length = n := by simpa using hvs
 have hone : ∀ u ∈ vs.toList, u.oneCell = true := fun u hu => by
  obtain ⟨j, hj, rfl⟩ := List.getElem_of_mem hu
  have := zM2 (hd j (by omega))
  simp at hj
  simpa [Array.getD, hj] using this
 obtain ⟨c', g1, g2, g3, g4, g5, g6, g7, g8⟩ := gL (g.φ b) t (0, 0) vs.toList o w c he
 have hst := run_storeCells_cells (P := P) (g.φ b) o vs.toList 0 w (fun j hj => by
   simp [World.cell?, he]; omega) (fun j hj => by simp [World.frozen?, he]) (fun u hu => by have := hone u hu; cases u <;> first | rfl | simp [Value.oneCell] at this)
 refine ⟨w.setCells (g.φ b) o vs.toList, by simpa using hst, ?_⟩
 refine HR.grow hb hr hm ⟨by simp only []; omega, rfl, rfl⟩ (by simp only []; omega) (fun c2 t2 h2 => ?_) g4 g5 g6 g7 g8
 rw [he] at h2
 injection h2 with h2; injection h2 with h2 h3
 subst h2 h3
 refine ⟨c', g1, g2, fun i hi => ?_⟩
 simp only [] at hi
 rw [g3 i (by omega), hlen]
 simp only [zC]
 by_cases c1 : o <= i /\ i < o + n
 .rw [if_pos c1, if_pos c1]
  have := hd (i - o) (by omega)
  simpa [Array.getD, List.getD, hvs, show i - o < n by omega] using this
 .rw [if_neg c1, if_neg c1]
  exact hc i (by omega)
theorem yJl {P : Program} {u : TypeId} (h : yEo P u = true) : ∃ d, P.underlying u = some d /\ ∀ k, d ≠ .int k := by
 unfold yEo at h
 split at h
 .rename_i e h1; exact ⟨_, h1, by intro k h; cases h⟩
 .rename_i h1; exact ⟨_, h1, by intro k h; cases h⟩
 .cases h
section
variable {P : Program}
theorem yPu {w w' : World} {t u e ty : TypeId} {inf : TypeInfo} {du : TypeDesc} (ht : P.underlying t = some (.slice e)) (hu : P.underlying u = some du) (hnu : ∀ k, du ≠ .int k) (hi : P.info? e = some inf)
  {base : Option Addr} {len cap n : Nat} {x' : Value} {vs : Array Value} (hlen : (Builtin.lenOf x').run P w = .ok n w) (hfit : len + n <= cap) (hfc : (Builtin.firstCells (P.cellsOf e) n x').run P w = .ok vs w)
  (hst : match base with | some a => (storeCells (a.add (len * P.cellsOf e)) vs.toList).run P w = .ok () w' | none => w' = w) :
  (Builtin.append_ #[t, u] ty #[.slice base len cap, x']).run P w = .ok (.slice base (len + n) cap) w' := by
 have e1 : ∀ w : World, (underlying t).run P w = .ok (.slice e) w := fun w => xE P _ (zI ht) w
 have e2 : ∀ w : World, (underlying u).run P w = .ok du w := fun w => xE P _ (zI hu) w
 have e3 : ∀ w : World, (sizeOf e).run P w = .ok (P.cellsOf e) w := fun w => xE P _ (xA hi) w
 have hm : (match du with | .int _ => true | _ => false) = false := by
  cases du <;> first | rfl | exact absurd rfl (hnu _)
 cases base with
 | none =>
  subst hst
  simp [Builtin.append_, e1, e2, e3, hm, hlen, hfit, hfc]
 | some a =>
  simp [Builtin.append_, e1, e2, e3, hm, hlen, hfit, hfc, hst]
theorem yGj {w : World} {t u e ty : TypeId} {inf : TypeInfo} {du : TypeDesc} {z : Value} (ht : P.underlying t = some (.slice e)) (hu : P.underlying u = some du) (hnu : ∀ k, du ≠ .int k) (hi : P.info? e = some inf) (hz : pv P (zeroValue e) = some z)
  {base : Option Addr} {len cap n : Nat} {x' : Value} {os vs : Array Value} (hlen : (Builtin.lenOf x').run P w = .ok n w) (hfit : ¬ len + n <= cap) (hb : (len + n) * (inf.bytes + 1) <= 140737488355328)
  (hfo : (Builtin.firstCells (P.cellsOf e) len (.slice base len cap)).run P w.drew = .ok os w.drew) (hfc : (Builtin.firstCells (P.cellsOf e) n x').run P w.drew = .ok vs w.drew) :
  (Builtin.append_ #[t, u] ty #[.slice base len cap, x']).run P w = .ok (.slice (some ⟨w.heap.size, 0, none⟩) (len + n) (grownCap w (len + n) cap e))
   { w.drew with heap := w.drew.heap.push (.cells (os ++ vs ++ Builtin.zeroCells z.cells (grownCap w (len + n) cap e - (len + n))) e) } := by
 have e1 : ∀ w : World, (underlying t).run P w = .ok (.slice e) w := fun w => xE P _ (zI ht) w
 have e2 : ∀ w : World, (underlying u).run P w = .ok du w := fun w => xE P _ (zI hu) w
 have e3 : ∀ w : World, (sizeOf e).run P w = .ok (P.cellsOf e) w := fun w => xE P _ (xA hi) w
 have e4 : ∀ w : World, (typeInfo e).run P w = .ok inf w := fun w => xE P _ (by unfold typeInfo; rw [zM]; simp [hi]) w
 have e5 : ∀ w : World, (zeroValue e).run P w = .ok z w := fun w => xE P _ hz w
 have hm : (match du with | .int _ => true | _ => false) = false := by
  cases du <;> first | rfl | exact absurd rfl (hnu _)
 have hmul : (len + n) * (inf.bytes + 1) = (len + n) * inf.bytes + (len + n) := Nat.mul_succ _ _
 have h63 : ¬ (9223372036854775807 < ((len : Int) + (n : Int))) := by omega
 have h48 : ¬ (281474976710656 < Builtin.nextslicecap (len + n) cap * inf.bytes) := by
  have := growslice_fits (need := len + n) (old := cap) (bytes := inf.bytes) (by omega) (by omega)
  omega
 have har : ∀ (b : Nat) (w : World), (askRoom b).run P w = .ok () w := fun b w => by
  unfold askRoom; split <;> rfl
 simp [Builtin.append_, e1, e2, e3, e4, e5, hm, hlen, hfit, h63, h48, Question.forced, har, hfo, hfc, newRow, grownCap]
 rfl
end
theorem yE0 (w : World) (need old : Nat) (e : TypeId) : need <= grownCap w need old e := by
 simp [grownCap, Question.cut]
structure AppSrc (P : Program) (g : Gh) (w : World) (t u e ty : TypeId) (z : Value) (bytes : Nat) (x' : Value) (n : Nat) (d : Nat -> AV) : Prop where
 inn : ∃ vs : Array Value, vs.size = n * P.cellsOf e /\ (∀ j, j < n * P.cellsOf e -> CR g (d j) (vs.getD j undef)) /\ ∀ (base : Option Addr) (len cap : Nat) (w' : World), len + n <= cap -> (match base with | some a => (storeCells (a.add (len * P.cellsOf e)) vs.toList).run P w = .ok () w' | none => w' = w) ->
  (Builtin.append_ #[t, u] ty #[.slice base len cap, x']).run P w = .ok (.slice base (len + n) cap) w'
 new : ∃ vs : Array Value, vs.size = n * P.cellsOf e /\ (∀ j, j < n * P.cellsOf e -> CR g (d j) (vs.getD j undef)) /\ ∀ (base : Option Addr) (len cap : Nat) (os : Array Value), ¬ len + n <= cap -> (len + n) * (bytes + 1) <= 140737488355328 -> (Builtin.firstCells (P.cellsOf e) len (.slice base len cap)).run P w.drew = .ok os w.drew ->
  (Builtin.append_ #[t, u] ty #[.slice base len cap, x']).run P w = .ok (.slice (some ⟨w.heap.size, 0, none⟩) (len + n) (grownCap w (len + n) cap e))
   { w.drew with heap := w.drew.heap.push (.cells (os ++ vs ++ Builtin.zeroCells z.cells (grownCap w (len + n) cap e - (len + n))) e) }
theorem zV6 {P : Program} {w0 : World} {g : Gh} {m : Mem} {w : World} (HR : R w0 g m w) {t u e ty : TypeId} {zs : List AV} {z : Value} {inf : TypeInfo} (hz2 : z.cells.size = zs.length) (hsz : zs.length = P.cellsOf e) (h0 : 0 < zs.length)
  {s : AV} {s' x' : Value} {n : Nat} {d : Nat -> AV} {k : KV} (S : AppSrc P g w t u e ty z inf.bytes x' n d) (hs : VR g s s') (h : dA (P.cellsOf e) inf.bytes e s n d m k) :
  ∃ v v' g' m' w', (Builtin.append_ #[t, u] ty #[s', x']).run P w = .ok v' w' /\ Ext g g' /\ VR g' v v' /\ R w0 g' m' w' /\ k v m' := by
 unfold dA at h
 have HRd : R w0 g m w.drew := HR.drew _
 -- a new row
 have new : ∀ (base : Option Addr) (len cap : Nat) (old : Nat -> AV) (os : Array Value), ¬ len + n <= cap -> (len + n) * (inf.bytes + 1) <= 140737488355328 ->
   (Builtin.firstCells (P.cellsOf e) len (.slice base len cap)).run P w.drew = .ok os w.drew -> os.size = len * P.cellsOf e -> (∀ j, j < len * P.cellsOf e -> CR g (old j) (os.getD j undef)) ->
   fY (P.cellsOf e) e old len n d m k -> ∃ v v' g' m' w', (Builtin.append_ #[t, u] ty #[.slice base len cap, x']).run P w = .ok v' w' /\ Ext g g' /\ VR g' v v' /\ R w0 g' m' w' /\ k v m' := by
  intro base len cap old os hfit hb hfo hos hold hk
  obtain ⟨vs, hvz, hvc, hr⟩ := S.new
  have hrun := hr base len cap os hfit hb hfo
  obtain ⟨b0, hb0⟩ := m.fresh
  have hnd : ¬ g.dom b0 := fun hd => (HR.dom b0).1 hd hb0
  generalize hG : grownCap w (len + n) cap e = G at hrun
  have hGe : len + n <= G := by rw [<- hG]; exact yE0 ..
  have hsize : (os ++ vs ++ Builtin.zeroCells z.cells (G - (len + n))).size = G * P.cellsOf e := by
   simp only [Array.size_append, hos, hvz, Builtin.zeroCells, Array.size_map, Array.size_range, hz2, hsz]
   rw [<- Nat.add_mul, <- Nat.add_mul]
   congr 1; omega
  have hle : (len + n) * P.cellsOf e <= G * P.cellsOf e := Nat.mul_le_mul_right _ hGe
  have hadd : (len + n) * P.cellsOf e = len * P.cellsOf e + n * P.cellsOf e := Nat.add_mul _ _ _
  have hR := HRd.new hb0 ⟨(len + n) * P.cellsOf e, zC old (len * P.cellsOf e) (n * P.cellsOf e) d, e, false⟩ (os ++ vs ++ Builtin.zeroCells z.cells (G - (len + n))) (by rw [hsize]; exact hle) rfl (fun i hi => by
   simp only [] at hi ⊢
   simp only [zC]
   by_cases c1 : i < len * P.cellsOf e
   .rw [if_neg (by omega)]
    have hi1 : i < os.size := by omega
    have e2 : (os ++ vs ++ Builtin.zeroCells z.cells (G - (len + n))).getD i undef = os.getD i undef := by
     rw [Array.getD_eq_getD_getElem?, Array.getD_eq_getD_getElem?, Array.getElem?_append_left (by simp; omega), Array.getElem?_append_left hi1]
    rw [e2]; exact hold i c1
   .rw [if_pos (by omega)]
    have hi1 : i - len * P.cellsOf e < vs.size := by omega
    have e2 : (os ++ vs ++ Builtin.zeroCells z.cells (G - (len + n))).getD i undef = vs.getD (i - len * P.cellsOf e) undef := by
     rw [Array.getD_eq_getD_getElem?, Array.getD_eq_getD_getElem?, Array.getElem?_append_left (by simp; omega), Array.getElem?_append_right (by omega), hos]
    rw [e2]; exact hvc (i - len * P.cellsOf e) (by omega))
  refine ⟨_, _, _, _, _, hrun, g.push_ext _ hnd, ?_, hR, hk b0 hb0⟩
  refine ⟨⟨by simp [Gh.push], by simp [Gh.push]⟩, G, by simp [Gh.push, <- HR.hs], hGe, ?_⟩
  show len + n <= G /\ (g.push b0 _).δ b0 + 0 + G * P.cellsOf e <= (g.push b0 _).S ((g.push b0 _).φ b0)
  refine ⟨hGe, ?_⟩
  rw [hsize]
  simp [Gh.push]
 split at h
 .rename_i a l c
  have hs : s' = .slice a l c := hs
  subst hs
  simp only [zO] at h
  split at h
  rotate_left
  .exact h.elim
  rename_i hz0
  obtain ⟨rfl, rfl⟩ := hz0
  split at h
  .rename_i hn
   subst hn
   obtain ⟨vs, hvz, hvc, hr⟩ := S.inn
   have hv0 : vs.toList = [] := by apply List.eq_nil_of_length_eq_zero; simpa using hvz
   refine ⟨.flat (.slice a 0 0), _, g, m, w, hr _ _ _ w (Nat.le_refl _) ?_, Ext.refl g, rfl, HR, h⟩
   cases a with
   | none => rfl
   | some a => rw [hv0]; rfl
  .split at h
   .rename_i hn hb
    have hfo : (Builtin.firstCells (P.cellsOf e) 0 (.slice a 0 0)).run P w.drew = .ok #[] w.drew := by
     cases a with
     | none => rfl
     | some a =>
      simp only [Builtin.firstCells, Nat.zero_mul]
      have := run_loadCells (P := P) w.drew a 0 (fun _ => undef) (fun j hj => by omega)
      simpa using this
    exact new a 0 0 _ #[] (by omega) (by simpa using hb) hfo (by simp) (fun j hj => by omega) h
   .exact h.elim
 .rw [zO] at h
  split at h
  rotate_left
  .exact h.elim
  rename_i hn
  subst hn
  obtain ⟨ad, c', rfl⟩ := hs
  obtain ⟨vs, hvz, hvc, hr⟩ := S.inn
  have hv0 : vs.toList = [] := by apply List.eq_nil_of_length_eq_zero; simpa using hvz
  exact ⟨.e0, _, g, m, w, hr _ _ _ w (by omega) (by rw [hv0]; rfl), Ext.refl g, ⟨ad, c', rfl⟩, HR, h⟩
 .rename_i b o len cap
  obtain ⟨hb, c', rfl, hl, hcap⟩ := hs
  rw [zO] at h
  split at h
  .rename_i hn
   subst hn
   obtain ⟨vs, hvz, hvc, hr⟩ := S.inn
   have hv0 : vs.toList = [] := by apply List.eq_nil_of_length_eq_zero; simpa using hvz
   exact ⟨.sl b o len cap, _, g, m, w, hr _ _ _ w (by omega) (by rw [hv0]; rfl), Ext.refl g, ⟨hb, c', rfl, hl, hcap⟩, HR, h⟩
  .obtain ⟨y, hy, h2⟩ := vP h
   clear h
   have h := h2
   clear h2
   rw [zO] at h
   split at h
   rotate_left
   .exact h.elim
   rename_i hcond
   obtain ⟨hoy, hbig⟩ := hcond
   -- in the same row
   have inn : ∀ cap2 : Cap, len + n <= c' -> o + (len + n) * P.cellsOf e <= g.S (g.φ b) -> (match cap2 with | .ex c => c' = c | .ge esz k => k <= c' /\ g.δ b + o + c' * esz <= g.S (g.φ b)) -> sH (P.cellsOf e) b o len cap2 n d m k ->
     ∃ v v' g' m' w', (Builtin.append_ #[t, u] ty #[.slice (some ⟨g.φ b, g.δ b + o, none⟩) len c', x']).run P w = .ok v' w' /\ Ext g g' /\ VR g' v v' /\ R w0 g' m' w' /\ k v m' := by
    intro cap2 hfit hS hc2 hk
    unfold sH at hk
    obtain ⟨y', hy', hk⟩ := vP hk
    rw [hy] at hy'
    cases hy'
    split at hk
    .exact hk.elim
    .rename_i hro
     have hδ := HR.flatδ hy hro hb.2
     obtain ⟨vs, hvz, hvc, hr⟩ := S.inn
     have hadd : (len + n) * P.cellsOf e = len * P.cellsOf e + n * P.cellsOf e := Nat.add_mul _ _ _
     obtain ⟨w', h1, h2⟩ := HR.storeRow (P := P) hy hro hb.2 (o := o + len * P.cellsOf e) (n := n * P.cellsOf e) (N := max y.n (o + (len + n) * P.cellsOf e)) hvz hvc hoy (by omega) (by omega)
     refine ⟨.sl b o (len + n) cap2, _, g, _, w', hr _ _ _ w' hfit ?_, Ext.refl g, ⟨hb, c', rfl, hfit, hc2⟩, h2, hk⟩
     simp only [Addr.add_plain, hδ, Nat.zero_add]
     exact h1
   have old : (Builtin.firstCells (P.cellsOf e) len (.slice (some ⟨g.φ b, g.δ b + o, none⟩) len c')).run P w.drew = .ok ((List.range (len * P.cellsOf e)).map fun j => (w.cell? ⟨g.φ b, g.δ b + (o + j), none⟩).getD undef).toArray w.drew := by
    refine run_loadCells w.drew _ _ _ fun j hj => ?_
    rw [Addr.add_plain, Nat.add_assoc]
    obtain ⟨v, hv, _⟩ := HR.cell hy (i := o + j) (by omega)
    show w.cell? _ = _
    rw [hv]; rfl
   have oldc : ∀ j, j < len * P.cellsOf e -> CR g (sub y.c o (len * P.cellsOf e) j) ((((List.range (len * P.cellsOf e)).map fun j => (w.cell? ⟨g.φ b, g.δ b + (o + j), none⟩).getD undef).toArray).getD j undef) := fun j hj => by
    obtain ⟨v, hv, hc⟩ := HR.cell hy (i := o + j) (by omega)
    simp only [sub, if_pos hj]
    simpa [Array.getD, hj, hv] using hc
   have hSy : g.δ b + y.n <= g.S (g.φ b) := by
    obtain ⟨c, t, fr, he, hn, hS, _⟩ := HR.blk b y hy hb.2
    rw [hS]; exact hn
   split at h
   .rename_i c
    have hcc : c' = c := hcap
    subst hcc
    simp only [zO] at h
    split at h
    .rename_i hfit
     split at h
     .rename_i hyn
      exact inn (.ex c') hfit (by omega) rfl h
     .exact h.elim
    .rename_i hfit
     exact new _ len c' _ _ hfit hbig old (by simp) oldc h
   .rename_i e' q
    have hq : q <= c' /\ g.δ b + o + c' * e' <= g.S (g.φ b) := hcap
    simp only [zO] at h
    split at h
    rotate_left
    .exact h.elim
    rename_i he'
    subst he'
    have hSl : len + n <= c' -> o + (len + n) * P.cellsOf e <= g.S (g.φ b) := fun hf => by
     have : (len + n) * P.cellsOf e <= c' * P.cellsOf e := Nat.mul_le_mul_right _ hf
     omega
    split at h
    .rename_i hfit
     exact inn (.ge _ q) (by omega) (hSl (by omega)) hq h
    .by_cases hfit : len + n <= c'
     .exact inn (.ge _ (len + n)) hfit (hSl hfit) ⟨hfit, hq.2⟩ h.1
     .exact new _ len c' _ _ hfit hbig old (by simp) oldc h.2
 .exact h.elim
theorem yGh {P : Program} {w0 : World} {g : Gh} {m : Mem} {w : World} (HR : R w0 g m w) {t u e ty : TypeId} {zs : List AV} (ht : qM P t = some e) (hu : yEo P u = true) (hz : lQ P e = some zs) (hsz : zs.length = P.cellsOf e) (h0 : 0 < zs.length)
  {s x : AV} {s' x' : Value} {k : KV} (hs : VR g s s') (hx : VR g x x') (h : uB (P.cellsOf e) (uD P e) e s x m k) :
  ∃ v v' g' m' w', (Builtin.append_ #[t, u] ty #[s', x']).run P w = .ok v' w' /\ Ext g g' /\ VR g' v v' /\ R w0 g' m' w' /\ k v m' := by
 have ht := pV ht
 obtain ⟨du, hdu, hnu⟩ := yJl hu
 obtain ⟨z, hz1, hz2, hz3⟩ := sE hz
 obtain ⟨inf, hinf, hcs⟩ := yU (t := e) (P := P) (n := zs.length - 1) (by omega)
 have hby : uD P e = inf.bytes := by unfold uD; rw [hinf]
 rw [hby] at h
 unfold uB at h
 obtain ⟨n, d, hlen, hfc, h2⟩ := zV3 (P := P) (w0 := w0) hx h
 have HRd : R w0 g m w.drew := HR.drew _
 refine zV6 HR hz2 hsz h0 ⟨?_, ?_⟩ hs h2
 .obtain ⟨vs, hvs, hvz, hvc⟩ := hfc w n HR (Nat.le_refl _)
  exact ⟨vs, hvz, hvc, fun base len cap w' hfit hst => yPu ht hdu hnu hinf (hlen w) hfit hvs hst⟩
 .obtain ⟨vs, hvs, hvz, hvc⟩ := hfc _ n HRd (Nat.le_refl _)
  exact ⟨vs, hvz, hvc, fun base len cap os hfit hb hfo => yGj ht hdu hnu hinf hz1 (hlen w) hfit hb hfo hvs⟩
theorem yH6 {P : Program} {u : TypeId} (h : yHa P u = true) : P.underlying u = some (.int .i64) := by
 unfold yHa at h
 split at h
 .assumption
 .cases h
section
variable {P : Program} {w w' : World} {t u e ty : TypeId} {inf : TypeInfo} {z : Value}
theorem zUt {i : Int} {b : Nat} (h1 : 0 <= i) (h2 : i.toNat * (b + 1) <= 140737488355328) : IntKind.wrap .i64 i = i /\ ¬ i < 0 /\ ¬ (281474976710656 < i * (b : Int)) := by
 have hm : i.toNat * (b + 1) = i.toNat * b + i.toNat := Nat.mul_succ _ _
 have e : i * (b : Int) = ((i.toNat * b : Nat) : Int) := by rw [Int.natCast_mul, Int.toNat_of_nonneg h1]
 refine ⟨?_, by omega, by rw [e]; omega⟩
 simp [IntKind.wrap, IntKind.bits, IntKind.signed]; omega
theorem yFd (a : Array Value) : Builtin.zeroCells a 0 = #[] := by simp [Builtin.zeroCells]
theorem yBe (ht : P.underlying t = some (.slice e)) (hu : P.underlying u = some (.int .i64)) (hi : P.info? e = some inf) (hz : pv P (zeroValue e) = some z) (h0 : 0 < P.cellsOf e)
  {base : Option Addr} {len cap : Nat} {i : Int} (h1 : 0 <= i) (h2 : i.toNat * (inf.bytes + 1) <= 140737488355328) (hfit : len + i.toNat <= cap)
  (hst : match base with | some a => (storeCells (a.add (len * P.cellsOf e)) (Builtin.zeroCells z.cells i.toNat).toList).run P w = .ok () w' | none => w' = w) :
  (Builtin.append_ #[t, u] ty #[.slice base len cap, .int .i64 i]).run P w = .ok (.slice base (len + i.toNat) cap) w' := by
 have e1 : ∀ w : World, (underlying t).run P w = .ok (.slice e) w := fun w => xE P _ (zI ht) w
 have e2 : ∀ w : World, (underlying u).run P w = .ok (.int .i64) w := fun w => xE P _ (zI hu) w
 have e3 : ∀ w : World, (sizeOf e).run P w = .ok (P.cellsOf e) w := fun w => xE P _ (xA hi) w
 have e4 : ∀ w : World, (typeInfo e).run P w = .ok inf w := fun w => xE P _ (by unfold typeInfo; rw [zM]; simp [hi]) w
 have e5 : ∀ w : World, (zeroValue e).run P w = .ok z w := fun w => xE P _ hz w
 obtain ⟨s1, s2, s3⟩ := zUt h1 h2
 have ea : ∀ w : World, (asInt (.int .i64 i)).run P w = .ok i w := fun w => rfl
 by_cases hn : i.toNat = 0
 .have hzc : Builtin.zeroCells z.cells i.toNat = #[] := by rw [hn]; exact yFd _
  rw [hzc] at hst
  cases base with
  | none =>
   subst hst
   simp [Builtin.append_, e1, e2, e3, e4, e5, ea, s1, s2, s3, hn, show len <= cap by omega]
  | some a =>
   simp [Builtin.append_, e1, e2, e3, e4, e5, ea, s1, s2, s3, hn, show len <= cap by omega, hst]
 .have hne : ¬ (i.toNat = 0 \/ P.cellsOf e = 0) := by omega
  have hle : ¬ i <= 0 := by omega
  cases base with
  | none =>
   subst hst
   simp [Builtin.append_, e1, e2, e3, e4, e5, ea, s1, s2, s3, hfit, hne, hle]
  | some a =>
   simp [Builtin.append_, e1, e2, e3, e4, e5, ea, s1, s2, s3, hfit, hne, hle, hst]
   intro hz0
   rcases Nat.mul_eq_zero.1 hz0 with h | h <;> omega
theorem zXm (ht : P.underlying t = some (.slice e)) (hu : P.underlying u = some (.int .i64)) (hi : P.info? e = some inf) (hz : pv P (zeroValue e) = some z) (h0 : 0 < P.cellsOf e)
  {base : Option Addr} {len cap : Nat} {os : Array Value} {i : Int} (h1 : 0 <= i) (h2 : i.toNat * (inf.bytes + 1) <= 140737488355328) (hfit : ¬ len + i.toNat <= cap) (hb : (len + i.toNat) * (inf.bytes + 1) <= 140737488355328)
  (hfo : (Builtin.firstCells (P.cellsOf e) len (.slice base len cap)).run P w.drew = .ok os w.drew) :
  (Builtin.append_ #[t, u] ty #[.slice base len cap, .int .i64 i]).run P w = .ok (.slice (some ⟨w.heap.size, 0, none⟩) (len + i.toNat) (grownCap w (len + i.toNat) cap e))
   { w.drew with heap := w.drew.heap.push (.cells (os ++ Builtin.zeroCells z.cells i.toNat ++ Builtin.zeroCells z.cells (grownCap w (len + i.toNat) cap e - (len + i.toNat))) e) } := by
 have e1 : ∀ w : World, (underlying t).run P w = .ok (.slice e) w := fun w => xE P _ (zI ht) w
 have e2 : ∀ w : World, (underlying u).run P w = .ok (.int .i64) w := fun w => xE P _ (zI hu) w
 have e3 : ∀ w : World, (sizeOf e).run P w = .ok (P.cellsOf e) w := fun w => xE P _ (xA hi) w
 have e4 : ∀ w : World, (typeInfo e).run P w = .ok inf w := fun w => xE P _ (by unfold typeInfo; rw [zM]; simp [hi]) w
 have e5 : ∀ w : World, (zeroValue e).run P w = .ok z w := fun w => xE P _ hz w
 obtain ⟨s1, s2, s3⟩ := zUt h1 h2
 have ea : ∀ w : World, (asInt (.int .i64 i)).run P w = .ok i w := fun w => rfl
 have hmul : (len + i.toNat) * (inf.bytes + 1) = (len + i.toNat) * inf.bytes + (len + i.toNat) := Nat.mul_succ _ _
 have h63 : ¬ (9223372036854775807 < ((len : Int) + (i.toNat : Int))) := by omega
 have h48 : ¬ (281474976710656 < Builtin.nextslicecap (len + i.toNat) cap * inf.bytes) := by
  have := growslice_fits (need := len + i.toNat) (old := cap) (bytes := inf.bytes) (by omega) (by omega)
  omega
 have har : ∀ (b : Nat) (w : World), (askRoom b).run P w = .ok () w := fun b w => by
  unfold askRoom; split <;> rfl
 have em : max i 0 = i := by omega
 by_cases hn : i.toNat = 0
 .have hzc : Builtin.zeroCells z.cells i.toNat = #[] := by rw [hn]; exact yFd _
  rw [hzc]
  have i0 : i = 0 := by omega
  subst i0
  have hf : ¬ len <= cap := by simpa using hfit
  have h63' : ¬ (9223372036854775807 < (len : Int)) := by simpa using h63
  have h48' : ¬ (281474976710656 < Builtin.nextslicecap len cap * inf.bytes) := by simpa using h48
  simp [Builtin.append_, e1, e2, e3, e4, e5, ea, s1, hf, h63', h48', Question.forced, har, hfo, newRow, grownCap]
  rfl
 .have hne : ¬ (i.toNat = 0 \/ P.cellsOf e = 0) := by omega
  have hmz : ¬ (i.toNat * P.cellsOf e = 0) := fun h => hne (Nat.mul_eq_zero.1 h)
  have hle : ¬ i <= 0 := by omega
  have h63' : ¬ (9223372036854775807 < (len : Int) + i) := by omega
  simp [Builtin.append_, e1, e2, e3, e4, e5, ea, s1, s2, s3, hfit, hle, h63', h48, Question.forced, har, hfo, newRow, grownCap, em, hmz]
  rfl
theorem yNf (a : Array Value) (n j : Nat) (h : j < n * a.size) : (Builtin.zeroCells a n).getD j undef = a.getD (j % a.size) undef := by
 have hp : 0 < a.size := by
  rcases Nat.eq_zero_or_pos a.size with h0 | h0
  .rw [h0] at h; omega
  .exact h0
 have hm : j % a.size < a.size := Nat.mod_lt _ hp
 simp [Builtin.zeroCells, Array.getD, h, hm]
theorem yKy {w0 : World} {g : Gh} {m : Mem} (HR : R w0 g m w) {zs : List AV} (ht : qM P t = some e) (hu : yHa P u = true) (hz : lQ P e = some zs) (hsz : zs.length = P.cellsOf e) (h0 : 0 < zs.length)
  {s x : AV} {s' x' : Value} {k : KV} (hs : VR g s s') (hx : VR g x x') (h : zQ6 zs (P.cellsOf e) (uD P e) e s x m k) :
  ∃ v v' g' m' w', (Builtin.append_ #[t, u] ty #[s', x']).run P w = .ok v' w' /\ Ext g g' /\ VR g' v v' /\ R w0 g' m' w' /\ k v m' := by
 have ht := pV ht
 have hu := yH6 hu
 obtain ⟨z, hz1, hz2, hz3⟩ := sE hz
 obtain ⟨inf, hinf, hcs⟩ := yU (t := e) (P := P) (n := zs.length - 1) (by omega)
 have hby : uD P e = inf.bytes := by unfold uD; rw [hinf]
 rw [hby] at h
 unfold zQ6 at h
 split at h
 rotate_left
 .exact h.elim
 rename_i i
 have hx : x' = .int .i64 i := hx
 subst hx
 cases hd : decide (0 <= i) with
 | false => rw [hd] at h; exact h.elim
 | true =>
  rw [hd] at h
  have h1 : 0 <= i := of_decide_eq_true hd
  have h : kite (i.toNat * (inf.bytes + 1) <= 140737488355328) (dA (P.cellsOf e) inf.bytes e s i.toNat (yNq zs) m k) False := h
  rw [zO] at h
  split at h
  rotate_left
  .exact h.elim
  rename_i h2
  have hcell : ∀ j, j < i.toNat * P.cellsOf e -> CR g (yNq zs j) ((Builtin.zeroCells z.cells i.toNat).getD j undef) := fun j hj => by
   rw [yNf _ _ _ (by rw [hz2, hsz]; exact hj), hz2]
   exact hz3 g _ (Nat.mod_lt _ h0)
  have hvz : (Builtin.zeroCells z.cells i.toNat).size = i.toNat * P.cellsOf e := by simp [Builtin.zeroCells, hz2, hsz]
  exact zV6 HR hz2 hsz h0 ⟨⟨_, hvz, hcell, fun base len cap w' hfit hst => yBe ht hu hinf hz1 (by omega) h1 h2 hfit hst⟩, ⟨_, hvz, hcell, fun base len cap os hfit hb hfo => zXm ht hu hinf hz1 (by omega) h1 h2 hfit hb hfo⟩⟩ hs h
end
theorem yKl {P : Program} {w0 : World} {g : Gh} {m : Mem} {w : World} (HR : R w0 g m w) {t u e ty : TypeId} {c : Nat} (ht : qM P t = some e) (hc : P.cellsOf e = c + 1)
  {s x : AV} {s' x' : Value} {k : KV} (hs : VR g s s') (hx : VR g x x') (h : qF (P.cellsOf e) s x m k) :
  ∃ v v' m' w', (Builtin.copy_ #[t, u] ty #[s', x']).run P w = .ok v' w' /\ VR g v v' /\ R w0 g m' w' /\ k v m' := by
 have ht := pV ht
 obtain ⟨inf, hinf, hcs⟩ := yU (t := e) (P := P) hc
 have e1 : ∀ w : World, (underlying t).run P w = .ok (.slice e) w := fun w => xE P _ (zI ht) w
 have e3 : ∀ w : World, (sizeOf e).run P w = .ok (P.cellsOf e) w := fun w => xE P _ (xA hinf) w
 unfold qF at h
 obtain ⟨n, d, hlen, hfc, h2⟩ := zV3 (P := P) (w0 := w0) hx h
 clear h
 have h := h2
 clear h2
 have none : ∀ (base : Option Addr) (l c : Nat), min n l = 0 -> (Builtin.copy_ #[t, u] ty #[.slice base l c, x']).run P w = .ok (.int .i64 0) w := by
  intro base l c hn
  obtain ⟨vs, hvs, hvz, hvc⟩ := hfc w 0 HR (Nat.zero_le _)
  have hv0 : vs.toList = [] := by apply List.eq_nil_of_length_eq_zero; simpa using hvz
  have hn' : Nat.min n l = 0 := hn
  cases base with
  | none => simp [Builtin.copy_, e1, e3, hlen, hn', hvs, goInt]
  | some a => simp [Builtin.copy_, e1, e3, hlen, hn', hvs, hv0, goInt, storeCells]
 split at h
 .rename_i a l c
  have hs : s' = .slice a l c := hs
  subst hs
  rw [zO] at h
  split at h
  rotate_left
  .exact h.elim
  rename_i hz0
  obtain ⟨rfl, rfl⟩ := hz0
  exact ⟨.flat (.int .i64 0), _, m, w, none a 0 0 (by omega), rfl, HR, h⟩
 .obtain ⟨ad, c', rfl⟩ := hs
  exact ⟨.flat (.int .i64 0), _, m, w, none _ 0 _ (by omega), rfl, HR, h⟩
 .rename_i b o len cap
  obtain ⟨hb, c', rfl, hl, hcap⟩ := hs
  rw [zO] at h
  split at h
  .rename_i hn
   exact ⟨.flat (.int .i64 0), _, m, w, none _ len _ hn, rfl, HR, h⟩
  .obtain ⟨y, hy, h⟩ := vP h
   split at h
   .exact h.elim
   .rename_i hro
    rw [zO] at h
    split at h
    rotate_left
    .exact h.elim
    rename_i hoy
    have hδ := HR.flatδ hy hro hb.2
    obtain ⟨vs, hvs, hvz, hvc⟩ := hfc w (min n len) HR (Nat.min_le_left _ _)
    have hmul : min n len * P.cellsOf e <= len * P.cellsOf e := Nat.mul_le_mul_right _ (Nat.min_le_right _ _)
    have hSy : g.δ b + y.n <= g.S (g.φ b) := by
     obtain ⟨c, t, fr, he, hn, hS, _⟩ := HR.blk b y hy hb.2
     rw [hS]; exact hn
    obtain ⟨w', h1, h2⟩ := HR.storeRow (P := P) hy hro hb.2 (o := o) (n := min n len * P.cellsOf e) (N := y.n) hvz hvc (by omega) (by omega) (by omega)
    refine ⟨.flat (.int .i64 (min n len : Nat)), _, _, w', ?_, rfl, h2, h⟩
    have hvs' : (Builtin.firstCells (P.cellsOf e) (Nat.min n len) x').run P w = .ok vs w := hvs
    simp [Builtin.copy_, e1, e3, hlen, hvs', goInt, hδ, h1]
 .exact h.elim
theorem zZ5 {P : Program} {t : TypeId} (h : zRf P t = true) : ∃ e, P.underlying t = some (.slice e) /\ P.underlying e = some (.int .u8) := by
 unfold zRf at h
 split at h
 .rename_i e he
  split at h
  .rename_i h1; exact ⟨e, he, h1⟩
  .cases h
 .cases h
theorem yHs {P : Program} {w0 : World} {g : Gh} {m : Mem} {w : World} (HR : R w0 g m w) {x : AV} {x' : Value} {k : ByteArray -> Prop} (hx : VR g x x') (h : mP x m k) : ∃ z, (Conv.bytesToString x').run P w = .ok (.string z) w /\ k z := by
 have zero : ∀ (ad : Option Addr) (c : Nat), (Conv.bytesToString (.slice ad 0 c)).run P w = .ok (.string .empty) w := by
  intro ad c
  cases ad with
  | none => rfl
  | some a =>
   have := run_bytesToString (P := P) w a 0 c [] (by
    have := run_loadCells (P := P) w a 0 (fun _ => undef) (fun j hj => by omega)
    simpa using this)
   simpa using this
 unfold mP at h
 split at h
 .rename_i b o n c
  obtain ⟨y, hy, h⟩ := vP h
  rw [zO] at h
  split at h
  rotate_left
  .exact h.elim
  rename_i hn
  obtain ⟨z, hz, hb, h⟩ := h
  obtain ⟨hdb, c', rfl, hl, _⟩ := hx
  refine ⟨z, ?_, h⟩
  have hrun := run_bytesToString (P := P) w ⟨g.φ b, g.δ b + o, none⟩ n c' (z.data.toList.map fun u => (u.toNat : Int)) (by
   have := run_loadCells (P := P) w ⟨g.φ b, g.δ b + o, none⟩ n (fun j => .int .u8 (z.data.getD j 0).toNat) (fun j hj => by
    rw [Addr.add_plain, Nat.add_assoc]
    obtain ⟨v, hv, hc⟩ := HR.cell hy (i := o + j) (by omega)
    rw [hb j hj] at hc
    rw [hv, hc.1])
   rw [this]
   congr 1
   have hzs : z.data.size = n := hz
   apply Array.ext
   .simp [hzs]
   .intro i h1 h2
    have hi : i < z.data.size := by simpa [hzs] using h2
    have hi' : i < z.size := hi
    simp [Array.getD, hi, hi'])
  rw [hrun]
  congr 2
  have key : ∀ (l : List UInt8) (s : ByteArray), (l.map fun u => (u.toNat : Int)).foldl (fun r n => r.push (UInt8.ofNat n.toNat)) s = ⟨s.data ++ l.toArray⟩ := by
   intro l
   induction l with
   | nil => intro s; simp
   | cons u l ih =>
    intro s
    simp only [List.map_cons, List.foldl_cons, ih]
    simp [ByteArray.push]
  rw [key]
  cases z
  simp [ByteArray.empty, ByteArray.emptyWithCapacity]
  rfl
 .obtain ⟨ad, c', rfl⟩ := hx
  exact ⟨_, zero _ _, h⟩
 .rename_i ad n c
  rw [zO] at h
  split at h
  rotate_left
  .exact h.elim
  rename_i hz
  obtain ⟨rfl, rfl⟩ := hz
  have hx : x' = .slice ad 0 0 := hx
  subst hx
  exact ⟨_, zero _ _, h⟩
 .exact h.elim
end Go.Proofs.YtkiggdgphbkneaaGreat.Am
