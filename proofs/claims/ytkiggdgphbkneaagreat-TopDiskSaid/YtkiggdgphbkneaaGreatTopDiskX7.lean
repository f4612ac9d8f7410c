/- Loads, stores, what makes memory, calls: what the abstract machine asks of an operation, the real one does. No program in sight. -/
import Derived.Test.YtkiggdgphbkneaaGreatTopDiskX6
namespace Go.Proofs.YtkiggdgphbkneaaGreat.Am
set_option linter.unusedVariables false
set_option linter.unusedSimpArgs false
theorem wI {P : Program} {t : TypeId} {d : TypeDesc} (h : P.underlying t = some d) (w : World) : (underlying t).run P w = .ok d w := xE P _ (zI h) w
theorem zDf {P : Program} {t : TypeId} {d : TypeDesc} (h : P.underlying t = some d) (w : World) : (isAgg t).run P w = .ok (yS P t) w := xE P _ (kP h) w
theorem oA {P : Program} {t : TypeId} {i : TypeInfo} (h : P.info? t = some i) (w : World) : (sizeOf t).run P w = .ok (P.cellsOf t) w := xE P _ (xA h) w
theorem zSr {P : Program} {t : TypeId} {x : AV} {x' : Value} {m : Mem} {k : AV -> Prop} {w0 : World} {g : Gh} {w : World} (HR : R w0 g m w) (hx : VR g x x') (h : ald P t x m k) :
  ∃ v v' ad, x' = .pointer (some ad) /\ (loadVar t ad).run P w = .ok v' w /\ VR g v v' /\ k v := by
 obtain ⟨b, o, rfl, h⟩ := uK h
 obtain ⟨hb, rfl⟩ := hx
 obtain ⟨y, hy, h⟩ := vP h
 unfold zAi at h
 simp only [zO] at h
 split at h
 .rename_i e
  obtain ⟨d, hd⟩ := mE e
  obtain ⟨i, hi⟩ := tA hd
  split at h
  .rename_i hle
   have hcell : ∀ j, j < P.cellsOf t -> w.cell? ((⟨g.φ b, g.δ b + o, none⟩ : Addr).add j) = some ((w.cell? ⟨g.φ b, g.δ b + (o + j), none⟩).getD undef) := fun j hj => by
    rw [Addr.add_plain, Nat.add_assoc]
    obtain ⟨v, hv, _⟩ := HR.cell hy (i := o + j) (by omega)
    rw [hv]; rfl
   refine ⟨_, .agg ((List.range (P.cellsOf t)).map fun j => (w.cell? ⟨g.φ b, g.δ b + (o + j), none⟩).getD undef).toArray, _, rfl, ?_, ?_, h⟩
   .unfold loadVar
    simp only [Sem.run_bind, zDf hd, e, Result.andThen_ok, if_true, oA hi, run_loadCells w _ _ _ hcell, Sem.run_pure]
   .refine ⟨_, rfl, by simp, fun j hj => ?_⟩
    obtain ⟨v, hv, hc⟩ := HR.cell hy (i := o + j) (by omega)
    simp only [sub, if_pos hj]
    simpa [Array.getD, hj, hv] using hc
  .exact h.elim
 .rename_i e
  split at h
  .rename_i hlt
   obtain ⟨⟨d, hd⟩, h⟩ := zOo h
   obtain ⟨v, hv, hc⟩ := HR.cell hy hlt
   refine ⟨y.c o, v, _, rfl, ?_, zCe hc, h⟩
   unfold loadVar
   simp only [Sem.run_bind, zDf hd, e, Result.andThen_ok, run_load, hv, Bool.false_eq_true, if_false]
  .exact h.elim
theorem dG {P : Program} {t : TypeId} {i : TypeInfo} (hi : P.info? t = some i) {v : Value} (hs : v.cells.size = P.cellsOf t) (ad : Addr) (w : World) : (storeVar t ad v).run P w = (storeCells ad v.cells.toList).run P w := by
 unfold storeVar
 simp only [Sem.run_bind, oA hi, Result.andThen_ok]
 rw [if_neg (by simp [hs])]
theorem yOd {P : Program} {t : TypeId} {x v : AV} {x' v' : Value} {m : Mem} {k : Mem -> Prop} {w0 : World} {g : Gh} {w : World} (HR : R w0 g m w) (hx : VR g x x') (hv : VR g v v') (h : ast P t x v m k) :
  ∃ m' w' ad, x' = .pointer (some ad) /\ (storeVar t ad v').run P w = .ok () w' /\ R w0 g m' w' /\ k m' := by
 obtain ⟨b, o, ex, h1⟩ := uK h
 clear h
 subst ex
 obtain ⟨hb, ex'⟩ := hx
 obtain ⟨y, hy, h⟩ := vP h1
 clear h1
 simp only [zO] at h
 split at h
 .exact h.elim
 .rename_i hro
  have hδ := HR.flatδ hy hro hb.2
  rw [hδ, Nat.zero_add] at ex'
  subst ex'
  split at h
  .rename_i e
   obtain ⟨n, c, ev, h⟩ := vS h
   subst ev
   rcases yY h with ⟨hne, h⟩ | ⟨_, h⟩
   rotate_left
   .exact h.elim
   split at h
   .rename_i hle
    have hn : n = P.cellsOf t /\ o + n <= y.n := ⟨by simpa using hne, hle⟩
    obtain ⟨a, rfl, hs, hc⟩ := hv
    obtain ⟨d, hd⟩ := mE e
    obtain ⟨i, hi⟩ := tA hd
    have hone : ∀ u ∈ a.toList, u.oneCell = true := fun u hu => by
     obtain ⟨j, hj, rfl⟩ := List.getElem_of_mem hu
     have := zM2 (hc j (by simp at hj; omega))
     simp at hj
     simpa [Array.getD, hj] using this
    have hR := R.setCells (b := b) a.toList o c m w y HR hy hro (by simp; omega) (fun j hj => by
     have := hc j (by simp at hj; omega)
     simp at hj
     simpa [Array.getD, hj] using this)
    have hlen : a.toList.length = n := by simp [hs]
    rw [hlen] at hR
    refine ⟨_, w.setCells (g.φ b) o a.toList, _, rfl, ?_, hR, h⟩
    have hst := run_storeCells_cells (P := P) (g.φ b) o a.toList 0 w (fun j hj => by
      obtain ⟨u, hu, _⟩ := HR.cell hy (i := o + j) (by rw [hlen] at hj; omega)
      rw [hδ, Nat.zero_add] at hu
      simp [hu]) (fun j hj => by have := HR.free hy hro hb.2 (o + 0 + j); rw [hδ, Nat.zero_add] at this; simpa using this) (fun u hu => by have := hone u hu; cases u <;> first | rfl | simp [Value.oneCell] at this)
    rw [dG hi (show (Value.agg a).cells.size = _ by rw [<- hn.1]; exact hs)]
    simpa [Value.cells] using hst
   .exact h.elim
  .rename_i e
   split at h
   .rename_i h1
    split at h
    .rename_i h1c
     split at h
     rotate_left
     .exact h.elim
     rename_i hlt
     have hn : P.cellsOf t = 1 /\ o < y.n := ⟨h1c, hlt⟩
     have hc := zH8 hv h1
     have ho := zM2 hc
     have hcs : v'.cells = #[v'] := by cases v' <;> first | rfl | simp [Value.oneCell] at ho
     obtain ⟨i, hi, hsz⟩ := yU (n := 0) hn.1
     refine ⟨_, w.setCell ⟨g.φ b, o, none⟩ v', _, rfl, ?_, HR.setCell hy hro hn.2 hc, h⟩
     obtain ⟨u, hu, _⟩ := HR.cell hy hn.2
     rw [hδ, Nat.zero_add] at hu
     have hfree := HR.free hy hro hb.2 o
     rw [hδ, Nat.zero_add] at hfree
     rw [dG hi (by rw [hcs, hn.1]; rfl), hcs]
     have ho' : v'.oneCell' = true := by cases v' <;> first | rfl | simp [Value.oneCell] at ho
     simp [storeCells, Addr.add_plain, run_store P w _ v' _ ho', hu, hfree]
    .exact h.elim
   .exact h.elim
abbrev RK (w0 : World) (k : KV) (g : Gh) (v' : Value) (w' : World) : Prop := ∃ v g' m', Ext g g' /\ VR g' v v' /\ R w0 g' m' w' /\ k v m'
structure Sound (P : Program) (w0 : World) (Γ : zZ) : Prop where
 call : ∀ f args m k, Γ f args m k -> ∀ g w (args' : Array Value), R w0 g m w -> All2 (VR g) args args'.toList -> Calls P f args' w fun e w' => ∃ v', e = .returned v' /\ RK w0 k g v' w'
 goes : ∀ f args m k, Γ f args m k -> ∀ (args' : Array Value) w, (callFunc f args').run P w = .ok (.enter f args') w
 mono : ∀ f args m (k k' : KV), (∀ v m', k v m' -> k' v m') -> Γ f args m k -> Γ f args m k'
 strict : ∀ f args m, ¬ Γ f args m (fun _ _ => False)
 frame : ∀ f args m k, Γ f args m k -> ∀ b x, m.obj b = none -> Γ f args (m.set b x) fun v m' => ∃ m1, m' = m1.set b x /\ m1.obj b = none /\ k v m1
theorem R.newRow {P : Program} {w0 : World} {g : Gh} {m : Mem} {w : World} (h : R w0 g m w) {b : Nat} (hb : m.obj b = none) (x : Blk) (c : Array Value) (hc : c.size = x.n) (hr : x.ro = false) (hcr : ∀ i, i < x.n -> CR g (x.c i) (c.getD i undef)) :
  ∃ w', (newRow x.t c).run P w = .ok ⟨g.hs, 0, none⟩ w' /\ R w0 (g.push b c.size) (m.set b x) w' :=
 ⟨{ w with heap := w.heap.push (.cells c x.t) }, by rw [<- h.hs]; rfl, h.new hb x c (Nat.le_of_eq hc.symm) hr hcr⟩
theorem zOe {v : AV} {k : FuncId -> List AV -> Prop} (h : mB v k) : (∃ f, v = .flat (.func (.func f) #[] #[]) /\ k f []) \/ ∃ f xs, v = .clo f xs /\ k f xs := by
 unfold mB at h
 split at h
 .rename_i f fst cap
  rcases yY h with ⟨hc, h⟩ | ⟨_, h⟩
  .simp only [Bool.and_eq_true, Array.isEmpty_iff] at hc
   obtain ⟨rfl, rfl⟩ := hc
   exact .inl ⟨f, rfl, h⟩
  .exact h.elim
 .exact .inr ⟨_, _, rfl, h⟩
 .exact h.elim
theorem zEu (v : AV) : (∃ f xs, ∀ k : FuncId -> List AV -> Prop, mB v k = k f xs) \/ ∀ k : FuncId -> List AV -> Prop, ¬ mB v k := by
 by_cases c : ∃ f, v = .flat (.func (.func f) #[] #[])
 .obtain ⟨f, rfl⟩ := c
  exact .inl ⟨f, [], fun k => rfl⟩
 by_cases c2 : ∃ f xs, v = .clo f xs
 .obtain ⟨f, xs, rfl⟩ := c2
  exact .inl ⟨f, xs, fun k => rfl⟩
 .exact .inr fun k h => by
   rcases zOe h with ⟨f, e, _⟩ | ⟨f, xs, e, _⟩
   .exact c ⟨f, e⟩
   .exact c2 ⟨f, xs, e⟩
theorem oH {P : Program} {t : TypeId} {v : AV} {k : AV -> Prop} (h : bL P t v k) : k v := by
 unfold bL at h
 split at h
 .obtain ⟨n, rfl, h2⟩ := yDc h; exact h2
 .obtain ⟨n, rfl, h2⟩ := nJ h; exact h2
 .exact h
theorem uL {P : Program} {t : TypeId} {v : AV} {k k' : AV -> Prop} (hk : ∀ v, k v -> k' v) (h : bL P t v k) : bL P t v k' := by
 unfold bL at h ⊢
 split at h
 .unfold kI at h ⊢
  split at h
  .rw [zO] at h ⊢
   split at h
   .rename_i e; rw [if_pos e]; exact hk _ h
   .exact h.elim
  .exact h.elim
 .unfold tP at h ⊢
  split at h
  .exact hk _ h
  .exact h.elim
 .exact hk _ h
theorem zOx {P : Program} {t : TypeId} {v : AV} {k : AV -> Prop} {A : Prop} : (A /\ bL P t v k) ↔ bL P t v fun v' => A /\ k v' := by
 constructor
 .exact fun h => uL (fun v hv => ⟨h.1, hv⟩) h.2
 .exact fun h => ⟨(oH (uL (fun v hv => hv.1) h : bL P t v fun _ => A)), uL (fun v hv => hv.2) h⟩
theorem zXr {P : Program} {t e : TypeId} (h : zTi P t = some e) : ∃ d i, P.underlying t = some (.chan d e) /\ P.info? e = some i := by
 unfold zTi at h
 split at h
 .rename_i d e' hu
  split at h
  .rename_i i hi; injection h with h; subst h; exact ⟨d, i, hu, hi⟩
  .cases h
 .cases h
theorem yKm {P : Program} {w0 : World} {Γ : zZ} (HΓ : Sound P w0 Γ) {fr : Option (Nat -> Prop)} {σ : Nat -> AV} {m : Mem} {o : Oper} {k : KV} {g : Gh} {a : Act} {n : Nat} {w : World} {next : Act -> World -> Prop} {Q : Exit -> Act -> World -> Prop} (S : SR g σ a n) (HR : R w0 g m w) (h : wK P Γ fr σ m o k)
  (hk : ∀ v v' g' m' w', Ext g g' -> VR g' v v' -> R w0 g' m' w' -> k v m' -> next (a.put o.dst v') w') : o.wp P a w next Q := by
 obtain ⟨dst, op, ty, pos, after, guard⟩ := o
 obtain ⟨b0, hb0⟩ := m.fresh
 have hnd : ¬ g.dom b0 := fun hd => (HR.dom b0).1 hd hb0
 cases op with
 | alloc e =>
  dsimp only [wK] at h
  split at h
  .rename_i zs hz
   obtain ⟨z, hz1, hz2, hz3⟩ := sE hz
   obtain ⟨w', h1, h2⟩ := HR.newRow (P := P) hb0 ⟨zs.length, zH zs, e, false⟩ z.cells hz2 rfl (fun i hi => hz3 g i hi)
   have hrun : (execOp a.eval ⟨dst, .alloc e, ty, pos, after, guard⟩).run P w = .ok (.value (.pointer (some ⟨g.hs, 0, none⟩))) w' := by
    simp only [execOp, Instr.alloc, newVar, Sem.run_bind, xE P _ hz1 w, Result.andThen_ok, h1, Sem.run_pure]
   unfold Oper.wp
   rw [hrun]
   exact hk _ _ _ _ w' (g.push_ext _ hnd) (show VR _ (.ptr b0 0) _ from ⟨by simp [Gh.push, Gh.at], by simp [Gh.push, Gh.at]⟩) h2 (h b0 hb0)
  .exact h.elim
 | box e x =>
  dsimp only [wK] at h
  split at h
  .rename_i n c hc
   obtain ⟨h1s, h⟩ := yJi h
   obtain ⟨h0, h1, h2⟩ := zId (S.eval x) h1s hc
   obtain ⟨w', h3, h4⟩ := HR.newRow (P := P) hb0 ⟨n, c, e, false⟩ (a.eval x).cells h1 rfl h2
   have hrun : (execOp a.eval ⟨dst, .box e x, ty, pos, after, guard⟩).run P w = .ok (.value (.pointer (some ⟨g.hs, 0, none⟩))) w' := by
    simp only [execOp, Instr.box, newVar, Sem.run_bind, Result.andThen_ok, h3, Sem.run_pure]
   unfold Oper.wp
   rw [hrun]
   exact hk _ _ _ _ w' (g.push_ext _ hnd) (show VR _ (.ptr b0 0) _ from ⟨by simp [Gh.push, Gh.at], by simp [Gh.push, Gh.at]⟩) h4 (h b0 hb0)
  .exact h.elim
 | buildSlice t len parts =>
  dsimp only [wK, jD] at h
  simp only [zO] at h
  split at h
  .rename_i e he
   have hu := pV he
   split at h
   .rename_i zs hz
    obtain ⟨z, hz1, hz2, hz3⟩ := sE hz
    split at h
    .rename_i hcond
     obtain ⟨hc1, hc2, hc3⟩ := hcond
     obtain ⟨inf, hinf, hsz⟩ := yU (t := e) (P := P) (n := zs.length - 1) (by omega)
     split at h
     .rename_i c2 hf
      obtain ⟨h1s, h⟩ := jI h
      have hall : All2 (fun (x : Nat × AV) (y : Nat × Value) => x.1 = y.1 /\ VR g x.2 y.2) (parts.toList.map fun p => (p.1, zS σ p.2)) (parts.map fun p => (p.1, a.eval p.2)).toList := by
       rw [Array.toList_map]
       exact All2.map _ _ (fun p => ⟨rfl, S.eval p.2⟩) _
      have hreps : ∀ (len : Nat) (i : Nat), i < len * zs.length -> CR g (zH (yC1 len zs) i) ((((Array.range (len * zs.length)).map (z.cells[· % z.cells.size]!))).getD i undef) := by
       intro len i hi
       have h1 : ∀ (len i : Nat), i < len * zs.length -> zH (yC1 len zs) i = zH zs (i % zs.length) := by
        have happ : ∀ (l r : List AV) (i : Nat), zH (l ++ r) i = if i < l.length then zH l i else zH r (i - l.length) := by
         intro l
         induction l with
         | nil => intro r i; simp
         | cons x l ih => intro r i; cases i with
          | zero => simp [zH]
          | succ i => simp [zH, ih]
        intro len
        induction len with
        | zero => intro i hi; omega
        | succ len ih =>
         intro i hi
         rw [yC1, happ]
         split
         .rw [Nat.mod_eq_of_lt (by assumption)]
         .rw [ih _ (by rw [Nat.succ_mul] at hi; omega), <- Nat.mod_eq_sub_mod (by omega)]
       rw [h1 len i hi]
       have hm : i % zs.length < zs.length := Nat.mod_lt _ hc3
       have := hz3 g (i % zs.length) hm
       have hi2 : i % zs.length < z.cells.size := by omega
       have e2 : (((Array.range (len * zs.length)).map (z.cells[· % z.cells.size]!))).getD i undef = z.cells.getD (i % zs.length) undef := by
        have h3 : z.cells[i % zs.length]! = z.cells[i % zs.length] := getElem!_pos z.cells _ hi2
        simp [Array.getD, hi, hi2, hz2, h3, hm]
       rw [e2]; exact this
      obtain ⟨cells2, h1, h2, h3⟩ := dH (g := g) (place' := fun i => some (i * P.cellsOf e, P.cellsOf e)) (fun i => rfl) _ _ _ ((Array.range (len * zs.length)).map (z.cells[· % z.cells.size]!)) c2 hall h1s (by simp) (hreps len) hf
      obtain ⟨w', h4, h5⟩ := HR.newRow (P := P) hb0 ⟨len * zs.length, c2, e, false⟩ cells2 h2 rfl h3
      have hrun : (execOp a.eval ⟨dst, .buildSlice t len parts, ty, pos, after, guard⟩).run P w = .ok (.value (.slice (some ⟨g.hs, 0, none⟩) len len)) w' := by
       simp only [execOp, Instr.buildSlice, Sem.run_bind, wI hu, Result.andThen_ok, oA hinf, <- hc1]
       rw [if_neg (by omega)]
       by_cases hl0 : len = 0
       .subst hl0
        simp only [Nat.zero_mul, if_true, Sem.run_pure, Sem.run_bind, Result.andThen_ok]
        rw [<- hc1] at h1
        simp only [Nat.zero_mul] at h1
        have e0 : Array.map (fun x => (#[] : Array Value)[x % (#[] : Array Value).size]!) (Array.range 0) = Array.map (fun x => z.cells[x % z.cells.size]!) (Array.range 0) := by simp
        rw [e0, h1]
        simp only [Sem.run_bind, h4, Result.andThen_ok, Sem.run_pure]
       .have : len * zs.length ≠ 0 := Nat.mul_ne_zero hl0 (by omega)
        rw [if_neg this]
        simp only [Sem.run_bind, xE P _ hz1 w, Result.andThen_ok, Sem.run_pure]
        rw [<- hc1] at h1
        rw [h1]
        simp only [Sem.run_bind, h4, Result.andThen_ok, Sem.run_pure]
      unfold Oper.wp
      rw [hrun]
      exact hk _ _ _ _ w' (g.push_ext _ hnd) (show VR _ (.sl b0 0 len (.ex len)) _ from ⟨by simp [Gh.push, Gh.at], len, by simp [Gh.push, Gh.at], Nat.le_refl _, rfl⟩) h5 (h b0 hb0)
     .exact h.elim
    .exact h.elim
   .exact h.elim
  .exact h.elim
 | makeSlice t l c =>
  dsimp only [wK, eE, mkS] at h
  split at h
  .rename_i e he
   have hu := pV he
   split at h
   .rename_i zs hz
    obtain ⟨z, hz1, hz2, hz3⟩ := sE hz
    obtain ⟨k1, ln, hl, h⟩ := vO h
    obtain ⟨k2, cn, hc, h⟩ := vO h
    have el := S.flat hl
    have ec := S.flat hc
    simp only [zO] at h
    split at h
    rotate_left
    .exact h.elim
    rename_i hcond
    obtain ⟨hc1, hc3⟩ := hcond
    split at h
    rotate_left
    .exact h.elim
    rename_i h0
    split at h
    rotate_left
    .exact h.elim
    rename_i h1
    split at h
    rotate_left
    .exact h.elim
    rename_i hbig
    obtain ⟨inf, hinf, hsz⟩ := yU (t := e) (P := P) (n := zs.length - 1) (by omega)
    have hby : uD P e = inf.bytes := by unfold uD; rw [hinf]
    rw [hby] at hbig
    have hmul : cn.toNat * (inf.bytes + 1) = cn.toNat * inf.bytes + cn.toNat := Nat.mul_succ _ _
    have hcn : cn < 9223372036854775808 := by omega
    have wl : IntKind.i64.wrap ln = ln := by simp [IntKind.wrap, IntKind.bits, IntKind.signed]; omega
    have wc : IntKind.i64.wrap cn = cn := by simp [IntKind.wrap, IntKind.bits, IntKind.signed]; omega
    have hcells : ∀ i, i < cn.toNat * zs.length -> CR g (lK zs i) (((Array.range (cn.toNat * zs.length)).map (z.cells[· % z.cells.size]!)).getD i undef) := by
     intro i hi
     have hm : i % zs.length < zs.length := Nat.mod_lt _ hc3
     have := hz3 g (i % zs.length) hm
     have hi2 : i % zs.length < z.cells.size := by omega
     have e2 : (((Array.range (cn.toNat * zs.length)).map (z.cells[· % z.cells.size]!))).getD i undef = z.cells.getD (i % zs.length) undef := by
      have h3 : z.cells[i % zs.length]! = z.cells[i % zs.length] := getElem!_pos z.cells _ hi2
      simp [Array.getD, hi, hi2, hz2, h3, hm]
     rw [e2]; exact this
    obtain ⟨w', h4, h5⟩ := HR.newRow (P := P) hb0 ⟨cn.toNat * zs.length, lK zs, e, false⟩ ((Array.range (cn.toNat * zs.length)).map (z.cells[· % z.cells.size]!)) (by simp) rfl hcells
    have hrun : (execOp a.eval ⟨dst, .makeSlice t l c, ty, pos, after, guard⟩).run P w = .ok (.value (.slice (some ⟨g.hs, 0, none⟩) ln.toNat cn.toNat)) w' := by
     have hb1 : ¬ (140737488355328 < cn.toNat * inf.bytes) := by omega
     have hmi : (inf.bytes : Int) * cn = ((cn.toNat * inf.bytes : Nat) : Int) := by
      push_cast; rw [Int.toNat_of_nonneg (by omega), Int.mul_comm]
     have hb2 : ¬ (cn < 0 \/ 281474976710656 < (inf.bytes : Int) * cn) := by rw [hmi]; omega
     have hb3 : ¬ (ln < 0) := by omega
     have hb4 : ¬ (cn < ln) := by omega
     have as1 : ∀ (k : IntKind) (n : Int) (w : World), (asIntOf (.int k n)).run P w = .ok (k, n) w := fun _ _ _ => rfl
     have hti : ∀ w : World, (typeInfo e).run P w = .ok inf w := fun w => xE P _ (by unfold typeInfo; rw [zM]; simp [hinf]) w
     have har : ∀ w : World, (askRoom (cn.toNat * inf.bytes)).run P w = .ok () w := fun w => by
      unfold askRoom roomBytes; rw [if_neg (by omega)]; rfl
     simp only [execOp, Instr.makeSlice, Sem.run_bind, wI hu, el, ec, asInt, as1, hti, Sem.run_pure, Result.andThen_ok, wl, wc]
     rw [if_neg (by simp; omega)]
     simp only [Sem.run_bind, Sem.run_pure, har, Result.andThen_ok, oA hinf, <- hc1]
     by_cases hn0 : cn.toNat * zs.length = 0
     .rw [if_pos hn0]
      have e0 : Array.map (fun x => (#[] : Array Value)[x % (#[] : Array Value).size]!) (Array.range (cn.toNat * zs.length)) = Array.map (fun x => z.cells[x % z.cells.size]!) (Array.range (cn.toNat * zs.length)) := by rw [hn0]; simp
      simp only [Sem.run_bind, Sem.run_pure, Result.andThen_ok, e0, h4]
     .rw [if_neg hn0]
      simp only [Sem.run_bind, xE P _ hz1 w, Result.andThen_ok, Sem.run_pure, h4]
    unfold Oper.wp
    rw [hrun]
    exact hk _ _ _ _ w' (g.push_ext _ hnd) (show VR _ (.sl b0 0 ln.toNat (.ex cn.toNat)) _ from ⟨by simp [Gh.push, Gh.at], cn.toNat, by simp [Gh.push, Gh.at], by omega, rfl⟩) h5 (h b0 hb0)
   .exact h.elim
  .exact h.elim
 | makeMap t r =>
  cases r with
  | some r => exact h.elim
  | none =>
   dsimp only [wK, zCd] at h
   split at h
   rotate_left
   .exact h.elim
   obtain ⟨g', E, hd, hφ, hR⟩ := HR.newMap hb0
   have hrun : (execOp a.eval ⟨dst, .makeMap t none, ty, pos, after, guard⟩).run P w = .ok (.value (.map (some w.heap.size))) { w with heap := w.heap.push (.map #[] 0) } := by
    simp only [execOp, Instr.makeMap, Option.map_none, Sem.run_bind, Sem.run_pure, Result.andThen_ok]
    rfl
   unfold Oper.wp
   rw [hrun]
   exact hk (.mp b0) _ g' _ _ E (show VR g' (.mp b0) _ from ⟨hd, by rw [hφ]⟩) hR (h b0 hb0)
 | makeChan t x =>
  dsimp only [wK] at h
  split at h
  rotate_left
  .exact h.elim
  rename_i e hch
  obtain ⟨d, inf, hu, hinf⟩ := zXr hch
  obtain ⟨k1, n1, hx, h⟩ := vO h
  rcases yY h with ⟨h0, h⟩ | ⟨_, h⟩
  rotate_left
  .exact h.elim
  rw [zO] at h
  split at h
  rotate_left
  .exact h.elim
  rename_i hsz
  have h0 : 0 <= n1 := by simpa using h0
  have hby : uD P e = inf.bytes := by unfold uD; rw [hinf]
  rw [hby] at hsz
  have ex := S.flat hx
  have hti : ∀ w : World, (typeInfo e).run P w = .ok inf w := fun w => xE P _ (by unfold typeInfo; rw [zM]; simp [hinf]) w
  have as1 : ∀ (k : IntKind) (n : Int) (w : World), (asIntOf (.int k n)).run P w = .ok (k, n) w := fun _ _ _ => rfl
  have hmul : (inf.bytes : Int) * n1 = ((inf.bytes * n1.toNat : Nat) : Int) := by
   push_cast; rw [Int.toNat_of_nonneg h0]
  have hrun : (execOp a.eval ⟨dst, .makeChan t x, ty, pos, after, guard⟩).run P w = .ok (.value (.chan (some w.heap.size))) { w with heap := w.heap.push (.chan n1.toNat #[] false 0 0 false) } := by
   simp only [execOp, Instr.makeChan, ex, asInt, Sem.run_bind, as1, Sem.run_pure, Result.andThen_ok, wI hu, hti]
   rw [hmul]
   have hsz2 := hsz.2
   generalize inf.bytes * n1.toNat = q at hsz2 ⊢
   rw [if_neg (by simp [IntKind.max, IntKind.bits, IntKind.signed]; omega)]
   rfl
  unfold Oper.wp
  rw [hrun]
  exact hk .ch _ _ m _ (Ext.more g) (show VR _ .ch _ from ⟨_, rfl⟩) (HR.more _) h
 | mapUpdate t x i v =>
  obtain ⟨m', w', h1, h2, h3⟩ := zFb HR (S.eval x) (S.eval i) (S.eval v) h
  have hrun : (execOp a.eval ⟨dst, .mapUpdate t x i v, ty, pos, after, guard⟩).run P w = .ok .skip w' := by
   simp only [execOp, Sem.run_bind, Sem.run_pure, Result.andThen_ok, h1]
  unfold Oper.wp
  rw [hrun]
  exact hk .junk _ _ _ w' (Ext.refl g) trivial h2 h3
 | store t x v =>
  have h0 : ∃ k' : Mem -> Prop, ast P t (zS σ x) (zS σ v) m k' /\ ∀ m', k' m' -> k .junk m' := by
   cases fr with
   | none => exact ⟨_, h, fun _ h => h⟩
   | some F => exact ⟨fun m' => zV F m m' /\ k .junk m', h, fun _ h => h.2⟩
  clear h
  obtain ⟨k', h, hkk⟩ := h0
  obtain ⟨m', w', ad, h1, h2, h3, h4⟩ := yOd HR (S.eval x) (S.eval v) h
  have hrun : (execOp a.eval ⟨dst, .store t x v, ty, pos, after, guard⟩).run P w = .ok .skip w' := by
   simp only [execOp, Instr.storeAt, h1, Instr.sureAddr, Sem.run_bind, Sem.run_pure, Result.andThen_ok, h2]
  unfold Oper.wp
  rw [hrun]
  exact hk .junk _ _ _ w' (Ext.refl g) trivial h3 (hkk _ h4)
 | call c =>
  obtain ⟨callee, args, argTypes⟩ := c
  cases callee with
  | value x =>
   cases x with
   | func f =>
    dsimp only [wK] at h
    have hargs : All2 (VR g) (args.toList.map (zS σ)) (args.map a.eval).toList := by
     rw [Array.toList_map]
     exact All2.map _ _ (fun x => S.eval x) _
    have h0 : ∃ k', Γ f (args.toList.map (zS σ)) m k' /\ ∀ v m', k' v m' -> k v m' := by
     cases fr with
     | none => exact ⟨k, h, fun _ _ h => h⟩
     | some F => exact ⟨_, h, fun _ _ h => h.2⟩
    clear h
    obtain ⟨k', h, hkk⟩ := h0
    have hc := HΓ.call f _ m k' h g w (args.map a.eval) HR hargs
    have hrun : (execOp a.eval ⟨dst, .call ⟨.value (.func f), args, argTypes⟩, ty, pos, after, guard⟩).run P w = .ok (.enter f (args.map a.eval)) w := by
     have := HΓ.goes f _ m k' h (args.map a.eval) w
     simpa [execOp, resolve, Deferred.ofValue, invoke, Act.eval] using this
    unfold Oper.wp
    rw [hrun]
    refine hc.mono fun e w' he => ?_
    obtain ⟨v', rfl, v, g', m', h1, h2, h3, h4⟩ := he
    exact hk v v' g' m' w' h1 h2 h3 (hkk _ _ h4)
   | tmp t =>
    dsimp only [wK] at h
    have hargs : All2 (VR g) (args.toList.map (zS σ)) (args.map a.eval).toList := by
     rw [Array.toList_map]
     exact All2.map _ _ (fun x => S.eval x) _
    have h0 : ∃ f xs, (∃ ys : Array Value, a.eval (.tmp t) = .func (.func f) #[] ys /\ All2 (VR g) xs ys.toList) /\ ∃ k', Γ f (args.toList.map (zS σ) ++ xs) m k' /\ ∀ v m', k' v m' -> k v m' := by
     rcases zOe h with ⟨f, hf, h⟩ | ⟨f, xs, hf, h⟩
     .refine ⟨f, [], ⟨#[], S.flat (x := .tmp t) hf, trivial⟩, ?_⟩
      cases fr with
      | none => exact ⟨_, h, fun v m' h => oH (k := fun v' => k v' m') h⟩
      | some F => exact ⟨_, h, fun v m' h => oH (k := fun v' => k v' m') h.2⟩
     .have := S.eval (.tmp t)
      rw [show zS σ (.tmp t) = σ t from rfl, hf] at this
      obtain ⟨ys, e, hy⟩ := this
      refine ⟨f, xs, ⟨ys, e, hy.imp fun _ _ => bR⟩, ?_⟩
      cases fr with
      | none => exact ⟨_, h, fun v m' h => oH (k := fun v' => k v' m') h⟩
      | some F => exact ⟨_, h, fun v m' h => oH (k := fun v' => k v' m') h.2⟩
    clear h
    obtain ⟨f, xs, ⟨ys, ht, hys⟩, k', h, hkk⟩ := h0
    have hall : All2 (VR g) (args.toList.map (zS σ) ++ xs) (args.map a.eval ++ ys).toList := by
     rw [Array.toList_append]
     exact hargs.append hys
    have hc := HΓ.call f _ m k' h g w (args.map a.eval ++ ys) HR hall
    have hrun : (execOp a.eval ⟨dst, .call ⟨.value (.tmp t), args, argTypes⟩, ty, pos, after, guard⟩).run P w = .ok (.enter f (args.map a.eval ++ ys)) w := by
     have := HΓ.goes f _ m k' h (args.map a.eval ++ ys) w
     simpa [execOp, resolve, Deferred.ofValue, invoke, ht] using this
    unfold Oper.wp
    rw [hrun]
    refine hc.mono fun e w' he => ?_
    obtain ⟨v', rfl, v, g', m', h1, h2, h3, h4⟩ := he
    exact hk v v' g' m' w' h1 h2 h3 (hkk _ _ h4)
   | _ => exact h.elim
  | builtin bi =>
   cases bi with
   | append =>
    have h0 : ∃ k', qN P (args.toList.map (zS σ)) argTypes.toList m k' /\ ∀ v m', k' v m' -> k v m' := by
     cases fr with
     | none => exact ⟨k, h, fun _ _ h => h⟩
     | some F => exact ⟨_, h, fun _ _ h => h.2⟩
    clear h
    obtain ⟨k', h, hkk⟩ := h0
    have hk' : ∀ v v' g' m' w', Ext g g' -> VR g' v v' -> R w0 g' m' w' -> k' v m' -> next (a.put dst v') w' := fun v v' g' m' w' e1 e2 e3 e4 => hk v v' g' m' w' e1 e2 e3 (hkk _ _ e4)
    dsimp only [qN] at h
    split at h
    rotate_left
    .exact h.elim
    rename_i s x t u hargs hts
    have ea : (args.map a.eval).toList = args.toList.map a.eval := by simp
    have hall : All2 (VR g) (args.toList.map (zS σ)) (args.map a.eval).toList := by
     rw [Array.toList_map]
     exact All2.map _ _ (fun x => S.eval x) _
    rw [hargs] at hall
    have et : argTypes = #[t, u] := by apply Array.toList_inj.1; simpa using hts
    subst et
    obtain ⟨s', x', hav, hs, hx⟩ : ∃ s' x', args.map a.eval = #[s', x'] /\ VR g s s' /\ VR g x x' := by
     generalize args.map a.eval = l at hall
     obtain ⟨l⟩ := l
     match l, hall with
     | [s', x'], hall => exact ⟨s', x', rfl, hall.1, hall.2.1⟩
    split at h
    rotate_left
    .exact h.elim
    rename_i e he
    split at h
    rotate_left
    .exact h.elim
    rename_i zs hz
    have hall2 : ∃ v v' g' m' w', (Builtin.append_ #[t, u] ty #[s', x']).run P w = .ok v' w' /\ Ext g g' /\ VR g' v v' /\ R w0 g' m' w' /\ k' v m' := by
     split at h
     .rename_i hu
      rw [zO] at h
      split at h
      rotate_left
      .exact h.elim
      rename_i hcond
      exact yGh (P := P) (ty := ty) HR he hu hz hcond.1 hcond.2 hs hx h
     .split at h
      rotate_left
      .exact h.elim
      rename_i hu
      rw [zO] at h
      split at h
      rotate_left
      .exact h.elim
      rename_i hcond
      exact yKy (P := P) (ty := ty) HR he hu hz hcond.1 hcond.2 hs hx h
    obtain ⟨v, v', g', m', w', h1, h2, h3, h4, h5⟩ := hall2
    have hrun : (execOp a.eval ⟨dst, .call ⟨.builtin .append, args, #[t, u]⟩, ty, pos, after, guard⟩).run P w = .ok (.value v') w' := by
     simp only [execOp, resolve, invoke, builtin, hav, Sem.run_bind, Sem.run_pure, Result.andThen_ok, h1]
    unfold Oper.wp
    rw [hrun]
    exact hk' v v' g' m' w' h2 h3 h4 h5
   | copy =>
    dsimp only [wK, zWr] at h
    split at h
    rotate_left
    .exact h.elim
    rename_i s x t u hargs hts
    have hall : All2 (VR g) (args.toList.map (zS σ)) (args.map a.eval).toList := by
     rw [Array.toList_map]
     exact All2.map _ _ (fun x => S.eval x) _
    rw [hargs] at hall
    have et : argTypes = #[t, u] := by apply Array.toList_inj.1; simpa using hts
    subst et
    obtain ⟨s', x', hav, hs, hx⟩ : ∃ s' x', args.map a.eval = #[s', x'] /\ VR g s s' /\ VR g x x' := by
     generalize args.map a.eval = l at hall
     obtain ⟨l⟩ := l
     match l, hall with
     | [s', x'], hall => exact ⟨s', x', rfl, hall.1, hall.2.1⟩
    split at h
    rotate_left
    .exact h.elim
    rename_i e he
    split at h
    rotate_left
    .exact h.elim
    rename_i hu
    obtain ⟨⟨c, hc⟩, h⟩ := tE h
    obtain ⟨v, v', m', w', h1, h2, h3, h4⟩ := yKl (P := P) (u := u) (ty := ty) HR he hc hs hx h
    have hrun : (execOp a.eval ⟨dst, .call ⟨.builtin .copy, args, #[t, u]⟩, ty, pos, after, guard⟩).run P w = .ok (.value v') w' := by
     simp only [execOp, resolve, invoke, builtin, hav, Sem.run_bind, Sem.run_pure, Result.andThen_ok, h1]
    unfold Oper.wp
    rw [hrun]
    exact hk v v' g m' w' (Ext.refl g) h2 h3 h4
   | clear =>
    dsimp only [wK] at h
    have hall : All2 (VR g) (args.toList.map (zS σ)) (args.map a.eval).toList := by
     rw [Array.toList_map]
     exact All2.map _ _ (fun x => S.eval x) _
    have h0 : ∃ x t, args.toList.map (zS σ) = [x] /\ argTypes.toList = [t] := by
     unfold bY at h
     split at h
     .exact ⟨_, _, by assumption, by assumption⟩
     .exact h.elim
    obtain ⟨x, t, hargs, hts⟩ := h0
    rw [hargs, hts] at h
    rw [hargs] at hall
    have et : argTypes = #[t] := by apply Array.toList_inj.1; simpa using hts
    subst et
    obtain ⟨x', hav, hx⟩ : ∃ x', args.map a.eval = #[x'] /\ VR g x x' := by
     generalize args.map a.eval = l at hall
     obtain ⟨l⟩ := l
     match l, hall with
     | [x'], hall => exact ⟨x', rfl, hall.1⟩
    obtain ⟨m', w', h1, h2, h3⟩ := zY6 (ty := ty) HR hx h
    have hrun : (execOp a.eval ⟨dst, .call ⟨.builtin .clear, args, #[t]⟩, ty, pos, after, guard⟩).run P w = .ok (.value (.tuple #[])) w' := by
     simp only [execOp, resolve, invoke, builtin, hav, Sem.run_bind, Sem.run_pure, Result.andThen_ok, h1]
    unfold Oper.wp
    rw [hrun]
    exact hk .junk _ g m' w' (Ext.refl g) trivial h2 h3
   | delete =>
    dsimp only [wK] at h
    have hall : All2 (VR g) (args.toList.map (zS σ)) (args.map a.eval).toList := by
     rw [Array.toList_map]
     exact All2.map _ _ (fun x => S.eval x) _
    unfold zBf at h
    split at h
    rotate_left
    .exact h.elim
    rename_i x key t ts hargs hts
    rw [hargs] at hall
    have ht : argTypes[0]? = some t := by rw [<- Array.getElem?_toList, hts]; rfl
    obtain ⟨x', key', hav, hx, hkey⟩ : ∃ x' key', args.map a.eval = #[x', key'] /\ VR g x x' /\ VR g key key' := by
     generalize args.map a.eval = l at hall
     obtain ⟨l⟩ := l
     match l, hall with
     | [x', key'], hall => exact ⟨x', key', rfl, hall.1, hall.2.1⟩
    split at h
    rotate_left
    .exact h.elim
    rename_i kt et hmt
    split at h
    rotate_left
    .exact h.elim
    rename_i ls hls
    obtain ⟨m', w', h1, h2, h3⟩ := zSk (u := t) (ty := ty) HR ht hx hkey hmt hls h
    have hrun : (execOp a.eval ⟨dst, .call ⟨.builtin .delete, args, argTypes⟩, ty, pos, after, guard⟩).run P w = .ok (.value (.tuple #[])) w' := by
     simp only [execOp, resolve, invoke, builtin, hav, Sem.run_bind, Sem.run_pure, Result.andThen_ok, h1]
    unfold Oper.wp
    rw [hrun]
    exact hk .junk _ g m' w' (Ext.refl g) trivial h2 h3
   | _ => exact h.elim
  | _ => exact h.elim
 | _ => exact h.elim
theorem yFb {P : Program} {w0 : World} {Γ : zZ} (HΓ : Sound P w0 Γ) {fr : Option (Nat -> Prop)} {σ : Nat -> AV} {m : Mem} {o : Oper} {k : KV} {g : Gh} {a : Act} {n : Nat} {w : World} {next : Act -> World -> Prop} {Q : Exit -> Act -> World -> Prop} (S : SR g σ a n) (HR : R w0 g m w) (h : cD P Γ fr σ m o k)
  (hk : ∀ v v' g' m' w', Ext g g' -> VR g' v v' -> R w0 g' m' w' -> k v m' -> next (a.put o.dst v') w') : o.wp P a w next Q := by
 unfold cD at h
 split at h
 .obtain ⟨v, v', h1, h2, h3⟩ := yC3 S h
  unfold Oper.wp
  rw [xE P _ h1 w]
  exact hk v v' g m w (Ext.refl g) h2 HR h3
 .obtain ⟨dst, op, ty, pos, after, guard⟩ := o
  unfold uT at h
  split at h
  .rename_i t x he
   dsimp only at he
   subst he
   have h : ald P t (zS σ x) m fun v => k v m := by
    cases fr with
    | none => exact h
    | some F =>
     obtain ⟨b, o, e, h⟩ := uK h
     exact h.2
   obtain ⟨v, v', ad, h1, h2, h3, h4⟩ := zSr HR (S.eval x) h
   have hrun : (execOp a.eval ⟨dst, .load t x, ty, pos, after, guard⟩).run P w = .ok (.value v') w := by
    simp only [execOp, Instr.loadAt, h1, Instr.sureAddr, Sem.run_bind, Sem.run_pure, Result.andThen_ok, h2]
   unfold Oper.wp
   rw [hrun]
   exact hk v v' g m w (Ext.refl g) h3 HR h4
  .rename_i sT dT x he
   dsimp only at he
   subst he
   split at h
   rotate_left
   .exact h.elim
   rename_i hb
   have h : mP (zS σ x) m fun z => k (.flat (.string z)) m := by
    cases fr with
    | none => exact h
    | some F =>
     dsimp only [frS] at h
     split at h
     .exact h.2
     .exact h
   obtain ⟨z, h1, h2⟩ := yHs (P := P) HR (S.eval x) h
   obtain ⟨e, he1, he2⟩ := zZ5 hb
   have hd : P.underlying dT = some .string := by
    rename_i hcls _ _
    simp only [nT, yAp] at hcls
    split at hcls
    .rename_i hh; split at hh
     .assumption
     .cases hh
    .cases hcls
   have hsl : ∀ n, a.eval x ≠ .string n := fun n hn => by rw [hn] at h1; simp [Conv.bytesToString, stuck, Sem.run] at h1
   have hrun : (execOp a.eval ⟨dst, .convert sT dT x, ty, pos, after, guard⟩).run P w = .ok (.value (.string z)) w := by
    simp only [execOp, convert, Sem.run_bind, wI he1, wI hd, wI he2, Result.andThen_ok, Sem.run_pure]
    generalize hv : a.eval x = v at h1 hsl
    cases v <;> first | (simp [Conv.bytesToString, stuck] at h1; done) | skip
    .simp only [Sem.run_bind, wI he2, Result.andThen_ok, h1, Sem.run_pure]
   unfold Oper.wp
   rw [hrun]
   exact hk (.flat (.string z)) _ g m w (Ext.refl g) rfl HR h2
  .rename_i tT x i ok he
   dsimp only at he
   subst he
   cases fr with
   | some F => exact h.elim
   | none =>
    obtain ⟨v, v', h1, h2, h3⟩ := zR3 HR (S.eval x) (S.eval i) h
    have hrun : (execOp a.eval ⟨dst, .lookup tT x i ok, ty, pos, after, guard⟩).run P w = .ok (.value v') w := by
     simp only [execOp, Sem.run_bind, Sem.run_pure, Result.andThen_ok, h1]
    unfold Oper.wp
    rw [hrun]
    exact hk v v' g m w (Ext.refl g) h2 HR h3
  .exact h.elim
 .exact yKm HΓ S HR h hk
end Go.Proofs.YtkiggdgphbkneaaGreat.Am
