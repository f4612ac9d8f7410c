/- Each operation of the abstract machine, all together: what it asks, the real one yields. No program in sight. -/
import Derived.Test.YtkiggdgphbkneaaGreatTopDiskX3
namespace Go.Proofs.YtkiggdgphbkneaaGreat.Am
set_option linter.unusedVariables false
set_option linter.unusedSimpArgs false
theorem zWm {α β : Type} {P : Program} {f : α -> Sem β} {h : α -> β} : ∀ (l : List α), (∀ x ∈ l, pv P (f x) = some (h x)) -> pv P (l.mapM f) = some (l.map h)
 | [], _ => rfl
 | x :: l, hx => by
  rw [List.mapM_cons, zM, hx x (by simp)]
  simp [zM, zWm l fun y hy => hx y (by simp [hy])]
theorem yB1 {α β : Type} {P : Program} {f : α -> Sem β} {h : α -> β} (xs : Array α) (hx : ∀ x ∈ xs.toList, pv P (f x) = some (h x)) : pv P (xs.mapM f) = some (xs.map h) := by
 have e := congrArg (pv P) (Array.toList_mapM (f := f) (xs := xs))
 rw [pv_map, zWm xs.toList hx] at e
 cases e1 : pv P (xs.mapM f) with
 | none => rw [e1] at e; cases e
 | some r =>
  rw [e1] at e
  simp only [Option.map_some, Option.some.injEq] at e
  congr 1
  apply Array.toList_inj.1
  simpa using e
theorem qB {g : Gh} : ∀ {l : List AV} {l' : List Value} {A : Prop}, All2 (VR g) l l' -> zG8 l A -> All2 (VR1 g) l l' /\ A
 | [], [], A, _, h => ⟨trivial, h⟩
 | v :: l, v' :: l', A, hv, h => by
  unfold zG8 at h
  cases v with
  | tup vs => exact h.elim
  | clo f vs => exact h.elim
  | junk => exact h.elim
  | flat u => obtain ⟨h1, h2⟩ := qB hv.2 h; exact ⟨⟨hv.1, h1⟩, h2⟩
  | agg n c => obtain ⟨h1, h2⟩ := qB hv.2 h; exact ⟨⟨hv.1, h1⟩, h2⟩
  | ptr b o => obtain ⟨h1, h2⟩ := qB hv.2 h; exact ⟨⟨hv.1, h1⟩, h2⟩
  | sl b o n c => obtain ⟨h1, h2⟩ := qB hv.2 h; exact ⟨⟨hv.1, h1⟩, h2⟩
  | e0 => obtain ⟨h1, h2⟩ := qB hv.2 h; exact ⟨⟨hv.1, h1⟩, h2⟩
  | ch => obtain ⟨h1, h2⟩ := qB hv.2 h; exact ⟨⟨hv.1, h1⟩, h2⟩
  | mp b => obtain ⟨h1, h2⟩ := qB hv.2 h; exact ⟨⟨hv.1, h1⟩, h2⟩
 | [], _ :: _, _, hv, _ => hv.elim
 | _ :: _, [], _, hv, _ => hv.elim
theorem zYc {P : Program} {t : TypeId} {parts : List (Nat × AV)} {parts' : Array (Nat × Value)} {k : AV -> Prop} {g : Gh} (hp : All2 (fun x y => x.1 = y.1 /\ VR g x.2 y.2) parts parts'.toList) (h : zDx P t parts k) :
  ∃ v v', pv P (Instr.build t parts') = some v' /\ VR g v v' /\ k v := by
 unfold zDx at h
 split at h
 .rename_i zs fs hz hu
  obtain ⟨z, hz1, hz2, hz3⟩ := sE hz
  split at h
  .rename_i hall
   split at h
   .rename_i c2 hf
    obtain ⟨h1s, h⟩ := jI h
    have hm : pv P (fs.mapM fun f => (do pure (f.offset, <- sizeOf f.type) : Sem (Nat × Nat))) = some (fs.map fun f => (f.offset, P.cellsOf f.type)) := yB1 fs fun f hf => by
     rw [List.all_eq_true] at hall
     obtain ⟨i, hi⟩ := Option.isSome_iff_exists.1 (hall f hf)
     rw [zM, xA hi]; rfl
    obtain ⟨cells2, h1, h2, h3⟩ := dH (g := g) (place' := fun i => (fs.map fun f => (f.offset, P.cellsOf f.type))[i]?) (fun i => by simp [Option.map_map, Function.comp_def]) parts parts'.toList _ z.cells c2 hp h1s hz2 (fun i hi => hz3 g i hi) hf
    refine ⟨.agg zs.length c2, .agg cells2, ?_, ⟨cells2, rfl, h2, h3⟩, h⟩
    unfold Instr.build
    simp only [zM, hz1, Option.bind_some, zI hu, hm, h1, pv_pure]
   .exact h.elim
  .exact h.elim
 .rename_i zs n e hz hu
  obtain ⟨z, hz1, hz2, hz3⟩ := sE hz
  obtain ⟨⟨c, hc⟩, h⟩ := tE h
  obtain ⟨inf, hinf, hsz⟩ := yU hc
  split at h
  .rename_i c2 hf
   obtain ⟨h1s, h⟩ := jI h
   obtain ⟨cells2, h1, h2, h3⟩ := dH (g := g) (place' := fun i => some (i * P.cellsOf e, P.cellsOf e)) (fun i => rfl) parts parts'.toList _ z.cells c2 hp h1s hz2 (fun i hi => hz3 g i hi) hf
   refine ⟨.agg zs.length c2, .agg cells2, ?_, ⟨cells2, rfl, h2, h3⟩, h⟩
   unfold Instr.build
   simp only [zM, hz1, Option.bind_some, zI hu, xA hinf, h1, pv_pure]
  .exact h.elim
 .exact h.elim
theorem lH (a : Act) (v : Value) : a.eval (.const v) = v := rfl
theorem zVy {g : Gh} {σ : Nat -> AV} {a : Act} {n : Nat} (S : SR g σ a n) {x : Option Operand} {d : Int} {k : Int -> Prop} (h : bQ σ x d k) : ∃ i, k i /\ ((x = none /\ i = d) \/ ∃ y kd, x = some y /\ a.eval y = .int kd i) := by
 unfold bQ at h
 split at h
 .exact ⟨d, h, .inl ⟨rfl, rfl⟩⟩
 .rename_i y
  obtain ⟨kd, i, hy, h⟩ := vO h
  exact ⟨i, h, .inr ⟨y, kd, rfl, S.flat hy⟩⟩
theorem pN {P : Program} {g : Gh} {σ : Nat -> AV} {a : Act} {n : Nat} (S : SR g σ a n) {low high : Option Operand} {len cap : Nat} {k : Int -> Int -> Prop} (h : uC σ low high len cap k) :
  ∃ lo hi : Nat, k lo hi /\ lo <= hi /\ hi <= cap /\ ∀ (b : Bool) (c' : Nat), cap <= c' -> pv P (Instr.sliceBounds b len c' (low.map a.eval) (high.map a.eval) none) = some (lo, hi, c') := by
 obtain ⟨lo, h, hlo⟩ := zVy S h
 obtain ⟨hi, h, hhi⟩ := zVy S h
 rcases yY h with ⟨h0, h⟩ | ⟨_, h⟩
 rotate_left
 .exact h.elim
 rcases yY h with ⟨h1, h⟩ | ⟨_, h⟩
 rotate_left
 .exact h.elim
 rcases yY h with ⟨h2, h⟩ | ⟨_, h⟩
 rotate_left
 .exact h.elim
 have h0 : 0 <= lo := by simpa using h0
 have h1 : lo <= hi := by simpa using h1
 have h2 : hi <= cap := by simpa using h2
 obtain ⟨lo, rfl⟩ : ∃ q : Nat, lo = q := ⟨lo.toNat, by omega⟩
 obtain ⟨hi, rfl⟩ : ∃ q : Nat, hi = q := ⟨hi.toNat, by omega⟩
 refine ⟨lo, hi, h, by omega, by omega, fun b c' hc => ?_⟩
 have bd : ∀ (kd : IntKind) (i y : Nat) (code : BoundsCode), i <= y -> pv P (Instr.sliceBound (.int kd i) y code) = some i := fun kd i y code hiy => by
  have : (i : Int) <= (y : Int) := by omega
  simp [Instr.sliceBound, asIntOf, this]
 unfold Instr.sliceBounds
 rcases hlo with ⟨rfl, e1⟩ | ⟨y1, k1, rfl, e1⟩ <;> rcases hhi with ⟨rfl, e2⟩ | ⟨y2, k2, rfl, e2⟩
 .have e1 : lo = 0 := by omega
  have e2 : hi = len := by omega
  subst e1 e2
  simp [zM]
 .have e1 : lo = 0 := by omega
  subst e1
  simp [zM, e2, bd k2 hi c' _ (by omega)]
 .have e2 : hi = len := by omega
  subst e2
  simp [zM, e1, bd k1 lo hi _ (by omega)]
 .simp [zM, e1, e2, bd k2 hi c' _ (by omega), bd k1 lo hi _ (by omega)]
theorem yK9 (v : AV) : (∃ kd n, v = .flat (.int kd n)) \/ ∀ k : IntKind -> Int -> Prop, qD v k = False := by
 unfold qD
 split
 .exact .inl ⟨_, _, rfl⟩
 .exact .inr fun _ => rfl
theorem zH9 (P : Program) (σ : Nat -> AV) (t : TypeId) (x : AV) (low high : Option Operand) (k : AV -> Prop) : lD P σ t x low high k = zAu P σ t x low high k := by
 have kS0 : ∀ (x : AV), (kS x fun _ => False) = False := fun x => by unfold kS; split <;> rfl
 have kp0 : ∀ (x : AV), (yD x fun _ _ => False) = False := fun x => by unfold yD; split <;> rfl
 have kpos0 : ∀ n, kT n False = False := fun n => by cases n <;> rfl
 have kite0 : ∀ (c : Prop) [Decidable c], kite c False False = False := fun c _ => by rw [zO]; split <;> rfl
 have kB0 : ∀ (hi' len cap : Nat), True := fun _ _ _ => trivial
 unfold lD zAu
 have one : ∀ y : Operand, (∃ kd n, zS σ y = .flat (.int kd n)) \/ ∀ k : IntKind -> Int -> Prop, qD (zS σ y) k = False := fun y => yK9 _
 cases low with
 | none =>
  cases high with
  | none =>
   simp only [uI, uC, bQ]
   split <;> first | rfl | skip
  | some z =>
   rcases one z with ⟨kd, i, e⟩ | e
   .simp only [uI, uC, bQ, e]
    split <;> first | rfl | skip
   .simp only [uI, uC, bQ, e, kS0, kp0, kpos0, kite0]
    split <;> first | rfl | skip
    .split <;> simp only [kpos0]
 | some y =>
  rcases one y with ⟨kd', i', e'⟩ | e'
  .cases high with
   | none =>
    simp only [uI, uC, bQ, e']
    split <;> first | rfl | skip
   | some z =>
    rcases one z with ⟨kd, i, e⟩ | e
    .simp only [uI, uC, bQ, e, e']
     split <;> first | rfl | skip
    .simp only [uI, uC, bQ, e, e', kS0, kp0, kpos0, kite0]
     split <;> first | rfl | skip
     .split <;> simp only [kpos0]
  .simp only [uI, uC, bQ, e', kS0, kp0, kpos0, kite0]
   split <;> first | rfl | skip
   .split <;> simp only [kpos0]
theorem zZ0 {P : Program} {σ : Nat -> AV} {t : TypeId} {x : Operand} {low high : Option Operand} {k : AV -> Prop} {g : Gh} {a : Act} {n : Nat} (S : SR g σ a n) (h : lD P σ t (zS σ x) low high k) :
  ∃ v v', pv P (Instr.sliceAt t (a.eval x) (low.map a.eval) (high.map a.eval) none) = some v' /\ VR g v v' /\ k v := by
 have hx := S.eval x
 rw [zH9] at h
 unfold zAu at h
 split at h
 .rename_i hu
  obtain ⟨s, hs, h⟩ := zMe h
  have hx' := S.flat hs
  obtain ⟨lo, hi, h, h1, h2, hb⟩ := pN (P := P) S h
  refine ⟨.flat (.string (s.extract lo hi)), .string (s.extract lo hi), ?_, rfl, h⟩
  simp [Instr.sliceAt, Instr.slice, zM, zI hu, hx', hb false s.size (Nat.le_refl _)]
 .rename_i e hu
  obtain ⟨⟨c, hc⟩, h⟩ := tE h
  obtain ⟨inf, hinf, hsz⟩ := yU hc
  split at h
  .rename_i b o len cap hxe
   rw [hxe] at hx
   obtain ⟨hdb, c', hx', hl, hcap⟩ := hx
   obtain ⟨lo, hi, h, h1, h2, hb⟩ := pN (P := P) S h
   have hcl : cap.low <= c' := by
    cases cap with
    | ex q => exact Nat.le_of_eq hcap.symm
    | ge e q => exact hcap.1
   have hrun : pv P (Instr.sliceAt t (a.eval x) (low.map a.eval) (high.map a.eval) none) = some (.slice (if c' = lo then some ⟨g.φ b, g.δ b + o, none⟩ else some ⟨g.φ b, g.δ b + (o + lo * P.cellsOf e), none⟩) (hi - lo) (c' - lo)) := by
    simp only [Instr.sliceAt, Instr.slice, zM, zI hu, hx', hb true c' hcl, Option.bind_some, xA hinf, pv_pure, Option.map_some, Addr.add_plain, Nat.add_assoc]
   cases cap with
   | ex q =>
    have hq : c' = q := hcap
    have h2 : hi <= q := h2
    simp only [zEo, Int.toNat_natCast, zO] at h
    split at h
    .rename_i hlt
     refine ⟨_, _, hrun, ?_, h⟩
     rw [if_neg (by omega)]
     exact ⟨hdb, c' - lo, rfl, by omega, by show c' - lo = q - lo; omega⟩
    .refine ⟨_, _, hrun, ?_, h⟩
     rw [if_pos (by omega)]
     exact ⟨hdb, 0, by rw [show hi - lo = 0 by omega, show c' - lo = 0 by omega], Nat.le_refl _, rfl⟩
   | ge e' q =>
    have h2 : hi <= q := h2
    have hq : q <= c' /\ g.δ b + o + c' * e' <= g.S (g.φ b) := hcap
    simp only [zEo, Int.toNat_natCast, zO] at h
    split at h
    rotate_left
    .exact h.elim
    rename_i he
    split at h
    .rename_i hlt
     refine ⟨_, _, hrun, ?_, h⟩
     rw [if_neg (by omega)]
     refine ⟨hdb, c' - lo, rfl, by omega, ?_⟩
     show q - lo <= c' - lo /\ g.δ b + (o + lo * P.cellsOf e) + (c' - lo) * P.cellsOf e <= g.S (g.φ b)
     refine ⟨by omega, ?_⟩
     have : lo * P.cellsOf e + (c' - lo) * P.cellsOf e = c' * P.cellsOf e := by rw [<- Nat.add_mul]; congr 1; omega
     rw [he] at hq
     omega
    .refine ⟨_, _, hrun, ?_, h⟩
     rw [show hi - lo = 0 by omega]
     split
     .exact ⟨_, _, rfl⟩
     .exact ⟨_, _, rfl⟩
  .rename_i hxe
   rw [hxe] at hx
   obtain ⟨ad, c', hx'⟩ := hx
   obtain ⟨lo, hi, h, h1, h2, hb⟩ := pN (P := P) S h
   have e1 : lo = 0 := by omega
   have e2 : hi = 0 := by omega
   subst e1 e2
   refine ⟨.e0, .slice (some (if c' = 0 then ad else ad.add (0 * P.cellsOf e))) 0 (c' - 0), ?_, ⟨_, _, rfl⟩, h⟩
   simp only [Instr.sliceAt, Instr.slice, zM, zI hu, hx', hb true c' (Nat.zero_le _), Option.bind_some, xA hinf, pv_pure, Option.map_some]
   split <;> rfl
  .rename_i ad l c' hxe
   have hx' := S.flat hxe
   simp only [zO] at h
   split at h
   rotate_left
   .exact h.elim
   rename_i hz
   obtain ⟨rfl, rfl⟩ := hz
   obtain ⟨lo, hi, h, h1, h2, hb⟩ := pN (P := P) S h
   have e1 : lo = 0 := by omega
   have e2 : hi = 0 := by omega
   subst e1 e2
   refine ⟨.flat (.slice ad 0 0), .slice ad 0 0, ?_, rfl, h⟩
   simp only [Instr.sliceAt, Instr.slice, zM, zI hu, hx', hb true 0 (Nat.le_refl _), Option.bind_some, xA hinf, pv_pure]
   rfl
  .exact h.elim
 .rename_i n e hu
  obtain ⟨⟨c, hc⟩, h⟩ := tE h
  obtain ⟨inf, hinf, hsz⟩ := yU hc
  obtain ⟨b, o, hxe, h⟩ := uK h
  rw [hxe] at hx
  obtain ⟨hdb, hx'⟩ := hx
  obtain ⟨lo, hi, h, h1, h2, hb⟩ := pN (P := P) S h
  have hrun : pv P (Instr.sliceAt t (a.eval x) (low.map a.eval) (high.map a.eval) none) = some (.slice (some (if n = lo then ⟨g.φ b, g.δ b + o, none⟩ else ⟨g.φ b, g.δ b + (o + lo * P.cellsOf e), none⟩)) (hi - lo) (n - lo)) := by
   simp only [Instr.sliceAt, zM, zI hu, hx', Instr.sureAddr, hb false n (Nat.le_refl _), Option.bind_some, xA hinf, pv_pure, Addr.add_plain, Nat.add_assoc]
  simp only [zEo, Int.toNat_natCast, zO] at h
  split at h
  .rename_i hlt
   refine ⟨_, _, hrun, ?_, h⟩
   rw [if_neg (by omega)]
   exact ⟨hdb, n - lo, rfl, by omega, rfl⟩
  .refine ⟨_, _, hrun, ?_, h⟩
   rw [if_pos (by omega)]
   exact ⟨hdb, 0, by rw [show hi - lo = 0 by omega, show n - lo = 0 by omega], Nat.le_refl _, rfl⟩
 .exact h.elim
theorem zUo {P : Program} {σ : Nat -> AV} {t : TypeId} {x : Operand} {low high mx : Option Operand} {k : AV -> Prop} {g : Gh} {a : Act} {n : Nat} (S : SR g σ a n) (h : qQ P σ t (zS σ x) low high mx k) :
  ∃ v v', pv P (Instr.sliceAt t (a.eval x) (low.map a.eval) (high.map a.eval) (mx.map a.eval)) = some v' /\ VR g v v' /\ k v := by
 have hx := S.eval x
 unfold qQ at h
 split at h
 rotate_left
 .exact h.elim
 rename_i e hu
 obtain ⟨⟨c, hc⟩, h⟩ := tE h
 obtain ⟨inf, hinf, hsz⟩ := yU hc
 have opt : ∀ {y : Option Operand} {K : Option Int -> Prop}, uI σ y K -> (y = none /\ K none) \/ ∃ z kd i, y = some z /\ a.eval z = .int kd i /\ K (some i) := fun {y K} h => by
  cases y with
  | none => exact .inl ⟨rfl, h⟩
  | some z =>
   obtain ⟨kd, i, e, h⟩ := vO h
   exact .inr ⟨z, kd, i, rfl, S.flat e, h⟩
 have no : ∀ {x : AV} {a b c : Option Int}, (a = none \/ b = none \/ c = none) -> ¬ slM x a b c (k .junk) := fun {x a b c} hn h => by
  unfold slM at h
  split at h
  .rcases hn with h | h | h <;> cases h
  .exact h
 have q1 := opt (y := low) h
 clear h
 rcases q1 with ⟨e1, h⟩ | ⟨zl, kl, l, e1, el, h⟩
 .have q2 := opt (y := high) h
  clear h
  rcases q2 with ⟨e2, h⟩ | ⟨zh, kh, hh, e2, eh, h⟩
  .have q3 := opt (y := mx) h
   clear h
   rcases q3 with ⟨e3, h⟩ | ⟨zm, km, mm, e3, em, h⟩ <;> exact (no (by simp) h).elim
  .have q3 := opt (y := mx) h
   clear h
   rcases q3 with ⟨e3, h⟩ | ⟨zm, km, mm, e3, em, h⟩ <;> exact (no (by simp) h).elim
 have q2 := opt (y := high) h
 clear h
 rcases q2 with ⟨e2, h⟩ | ⟨zh, kh, hh, e2, eh, h⟩
 .have q3 := opt (y := mx) h
  clear h
  rcases q3 with ⟨e3, h⟩ | ⟨zm, km, mm, e3, em, h⟩ <;> exact (no (by simp) h).elim
 have q3 := opt (y := mx) h
 clear h
 rcases q3 with ⟨e3, h⟩ | ⟨zm, km, mm, e3, em, hz⟩
 .exact (no (by simp) h).elim
 subst e1 e2 e3
 clear h
 revert hz; intro h
 unfold slM at h
 split at h
 rotate_left
 .exact h.elim
 rename_i b o len cap l' h' m' hxe e1 e2 e3
 injection e1 with e1
 injection e2 with e2
 injection e3 with e3
 rw [e1] at el
 rw [e2] at eh
 rw [e3] at em
 clear e1 e2 e3
 rw [hxe] at hx
 obtain ⟨hdb, c', hx', hl, hcap⟩ := hx
 rcases yY h with ⟨b1, h⟩ | ⟨_, h⟩
 rotate_left
 .exact h.elim
 rcases yY h with ⟨b2, h⟩ | ⟨_, h⟩
 rotate_left
 .exact h.elim
 rcases yY h with ⟨b3, h⟩ | ⟨_, h⟩
 rotate_left
 .exact h.elim
 rcases yY h with ⟨b4, h⟩ | ⟨_, h⟩
 rotate_left
 .exact h.elim
 simp only [decide_eq_true_eq] at b1 b2 b3 b4
 have hcl : cap.low <= c' := by
  cases cap with
  | ex q => exact Nat.le_of_eq hcap.symm
  | ge e q => exact hcap.1
 have g1 : 0 <= m' /\ m' <= (c' : Int) := ⟨by omega, by omega⟩
 have g2 : 0 <= h' /\ h' <= (m'.toNat : Int) := ⟨by omega, by omega⟩
 have g3 : 0 <= l' /\ l' <= (h'.toNat : Int) := ⟨by omega, by omega⟩
 refine ⟨.junk, .slice (if m'.toNat = l'.toNat then some ⟨g.φ b, g.δ b + o, none⟩ else (some (⟨g.φ b, g.δ b + o, none⟩ : Addr)).map (·.add (l'.toNat * P.cellsOf e))) (h'.toNat - l'.toNat) (m'.toNat - l'.toNat), ?_, trivial, h⟩
 simp only [Instr.sliceAt, Instr.slice, zM, zI hu, hx', Option.bind_some, xA hinf, pv_pure, Option.map_some, Instr.sliceBounds, Instr.sliceBound, el, eh, em, asIntOf, aX, if_pos g1, if_pos g2, if_pos g3, Option.isSome_some, if_true]
theorem yC3 {P : Program} {σ : Nat -> AV} {o : Oper} {k : AV -> Prop} {g : Gh} {a : Act} {n : Nat} (S : SR g σ a n) (h : xL P σ o k) :
  ∃ v v', pv P (execOp a.eval o) = some (.value v') /\ VR g v v' /\ k v := by
 have lift : ∀ {s : Sem Value} {v : AV} {v' : Value}, pv P s = some v' -> pv P (do pure (Next.value (<- s)) : Sem Next) = some (.value v') := fun {s v v'} e => by
  rw [zM, e]; rfl
 obtain ⟨dst, op, ty, pos, after, guard⟩ := o
 cases op with
 | move x => exact ⟨_, _, rfl, S.eval x, h⟩
 | assign x => exact ⟨_, _, rfl, S.eval x, h⟩
 | pick c x y =>
  obtain ⟨t, ht, h⟩ := nJ h
  have hc := S.flat ht
  rcases yY h with ⟨rfl, h⟩ | ⟨rfl, h⟩
  .exact ⟨_, a.eval x, by simp [execOp, hc, asBool, zM], S.eval x, h⟩
  .exact ⟨_, a.eval y, by simp [execOp, hc, asBool, zM], S.eval y, h⟩
 | nilCheck x =>
  obtain ⟨b, o, hx, h⟩ := uK h
  obtain ⟨hx', hb⟩ := S.ptr hx
  exact ⟨.ptr b o, .pointer (some ⟨g.φ b, g.δ b + o, none⟩), by simp [execOp, hx'], ⟨hb, rfl⟩, h⟩
 | binOp op t x y yt =>
  dsimp only [xL] at h
  split at h
  .rename_i hn
   obtain ⟨hy, el, hu⟩ := zKh hn
   subst hy
   split at h
   .obtain ⟨b, hb, h2⟩ := zP7  hu (S.eval x) h
    refine ⟨.flat (.bool b), .bool b, ?_, rfl, h2⟩
    simp only [execOp, lH]
    rw [hb.e1]
    simp [zM, hb.guard, hb.eq]
   .obtain ⟨b, hb, h2⟩ := zP7  hu (S.eval x) h
    refine ⟨.flat (.bool (!b)), .bool (!b), ?_, rfl, h2⟩
    simp only [execOp, lH]
    rw [hb.e2]
    simp [zM, hb.guard, hb.eq]
   .exact h.elim
  .rename_i hn
   obtain ⟨⟨l, c, hy⟩, el, hu⟩ := zF5 hn
   subst hy
   split at h
   .obtain ⟨b, hb, h2⟩ := zQ1 (l := l) (c := c) hu (S.eval x) h
    refine ⟨.flat (.bool b), .bool b, ?_, rfl, h2⟩
    simp only [execOp, lH]
    rw [hb.e1]
    simp [zM, hb.guard, hb.eq]
   .obtain ⟨b, hb, h2⟩ := zQ1 (l := l) (c := c) hu (S.eval x) h
    refine ⟨.flat (.bool (!b)), .bool (!b), ?_, rfl, h2⟩
    simp only [execOp, lH]
    rw [hb.e2]
    simp [zM, hb.guard, hb.eq]
   .exact h.elim
  .split at h
   .obtain ⟨kx, m, hx, h⟩ := vO h
    obtain ⟨ky, m2, hy, h⟩ := vO h
    rw [zO] at h
    split at h
    .rename_i hk; subst hk
     rcases yY h with ⟨_, h⟩ | ⟨h0, h⟩
     .exact h.elim
     .have h0' : m2 ≠ 0 := by simpa using h0
      exact ⟨.flat (.int kx (kx.wrap (m.tdiv m2))), .int kx (kx.wrap (m.tdiv m2)), by simp [execOp, S.flat hx, S.flat hy, eqGuard, binOp, Op.intDiv, h0', zM], rfl, h⟩
    .exact h.elim
   .obtain ⟨kx, m, hx, h⟩ := vO h
    obtain ⟨ky, m2, hy, h⟩ := vO h
    rw [zO] at h
    split at h
    .rename_i hk; subst hk
     rcases yY h with ⟨_, h⟩ | ⟨h0, h⟩
     .exact h.elim
     .have h0' : m2 ≠ 0 := by simpa using h0
      exact ⟨.flat (.int kx (m.tmod m2)), .int kx (m.tmod m2), by simp [execOp, S.flat hx, S.flat hy, eqGuard, binOp, Op.intDiv, h0', zM], rfl, h⟩
    .exact h.elim
   .obtain ⟨kx, m, hx, h⟩ := vO h
    obtain ⟨ky, m2, hy, h⟩ := vO h
    rcases yY h with ⟨_, h⟩ | ⟨h0, h⟩
    .exact h.elim
    .have h0' : ¬ m2 < 0 := by simpa using h0
     exact ⟨.flat (.int kx (kx.wrap (m * 2 ^ min m2.toNat kx.bits))), .int kx (kx.wrap (m * 2 ^ min m2.toNat kx.bits)), by simp [execOp, S.flat hx, S.flat hy, eqGuard, binOp, Op.shift, h0', zM], rfl, h⟩
   .obtain ⟨kx, m, hx, h⟩ := vO h
    obtain ⟨ky, m2, hy, h⟩ := vO h
    rcases yY h with ⟨_, h⟩ | ⟨h0, h⟩
    .exact h.elim
    .have h0' : ¬ m2 < 0 := by simpa using h0
     exact ⟨.flat (.int kx (m.fdiv (2 ^ min m2.toNat kx.bits))), .int kx (m.fdiv (2 ^ min m2.toNat kx.bits)), by simp [execOp, S.flat hx, S.flat hy, eqGuard, binOp, Op.shift, h0', zM], rfl, h⟩
   .split at h
    .rename_i ht
     obtain ⟨b, h1, h2, ⟨a1, e1⟩, ⟨a2, e2⟩, h3⟩ := yEh (S.eval x) (S.eval y) ht h
     refine ⟨.flat (.bool b), .bool b, ?_, rfl, h3⟩
     rw [e1, e2] at h1 h2
     simp only [execOp, e1, e2]
     simp [zM, h2, binOp, h1]
    .exact rD S (by simp) h
   .split at h
    .rename_i ht
     obtain ⟨b, h1, h2, ⟨a1, e1⟩, ⟨a2, e2⟩, h3⟩ := yEh (S.eval x) (S.eval y) ht h
     refine ⟨.flat (.bool (!b)), .bool (!b), ?_, rfl, h3⟩
     rw [e1, e2] at h1 h2
     simp only [execOp, e1, e2]
     simp [zM, h2, binOp, h1]
    .exact rD S (by simp) h
   .exact rD S (by simp) h
 | unOp op t x => exact rD S (by simp) h
 | convert s d x => exact rD S (by simp) h
 | fieldAddr t x f =>
  obtain ⟨v, v', h1, h2, h3⟩ := zF9 (S.eval x) h
  exact ⟨v, v', lift (v := v) h1, h2, h3⟩
 | field t x f =>
  obtain ⟨v, v', h1, h2, h3⟩ := zX2 (S.eval x) h
  exact ⟨v, v', lift (v := v) h1, h2, h3⟩
 | indexAddr t x i =>
  obtain ⟨v, v', h1, h2, h3⟩ := zF2 (S.eval x) (S.eval i) h
  exact ⟨v, v', lift (v := v) h1, h2, h3⟩
 | index t x i =>
  obtain ⟨v, v', h1, h2, h3⟩ := zYe (S.eval x) (S.eval i) h
  exact ⟨v, v', lift (v := v) h1, h2, h3⟩
 | slice t x low high mx =>
  cases mx with
  | none =>
   obtain ⟨v, v', h1, h2, h3⟩ := zZ0 S h
   exact ⟨v, v', lift (v := v) h1, h2, h3⟩
  | some y =>
   obtain ⟨v, v', h1, h2, h3⟩ := zUo S h
   exact ⟨v, v', lift (v := v) h1, h2, h3⟩
 | extract x i =>
  dsimp only [xL] at h
  split at h
  .rename_i vs hx
   split at h
   .rename_i v hv
    have := S.eval x
    rw [hx] at this
    obtain ⟨r, hr, hall⟩ := this
    obtain ⟨v', hv', hR⟩ := hall.get hv
    have hv2 : r[i]? = some v' := by simpa using hv'
    exact ⟨v, v', by simp [execOp, hr, Instr.extract, hv2, zM], bR hR, h⟩
   .exact h.elim
  .exact h.elim
 | build t parts =>
  have hall : All2 (fun (x : Nat × AV) (y : Nat × Value) => x.1 = y.1 /\ VR g x.2 y.2) (parts.toList.map fun p => (p.1, zS σ p.2)) (parts.map fun p => (p.1, a.eval p.2)).toList := by
   rw [Array.toList_map]
   exact All2.map _ _ (fun p => ⟨rfl, S.eval p.2⟩) _
  obtain ⟨v, v', h1, h2, h3⟩ := zYc hall h
  exact ⟨v, v', lift (v := v) h1, h2, h3⟩
 | makeFunc f first cap =>
  dsimp only [xL] at h
  split at h
  rotate_left
  .exact h.elim
  rename_i f hfirst
  have hfirst : first = #[] := by apply Array.toList_inj.1; simpa using hfirst
  subst hfirst
  obtain ⟨hv, h⟩ := qB (l := cap.toList.map (zS σ)) (l' := (cap.map a.eval).toList) (by
   rw [Array.toList_map]
   exact All2.map _ _ (fun x => S.eval x) _) h
  exact ⟨.clo f (cap.toList.map (zS σ)), .func (.func f) #[] (cap.map a.eval), by simp [execOp, Instr.makeFunc, zM], ⟨_, rfl, hv⟩, h⟩
 | call c =>
  obtain ⟨callee, args, argTypes⟩ := c
  cases callee with
  | builtin b =>
   cases b with
   | len =>
    dsimp only [xL] at h
    split at h
    .rename_i t x ht hx
     have hargs : args = #[x] := by apply Array.toList_inj.1; simpa using hx
     have htys : argTypes = #[t] := by apply Array.toList_inj.1; simpa using ht
     subst hargs htys
     split at h
     .rename_i e hu
      have hx1 := S.eval x
      unfold xJ at h
      split at h
      .rename_i b o n c hv
       rw [hv] at hx1
       obtain ⟨_, c', hx', _⟩ := hx1
       exact ⟨.flat (.int .i64 n), .int .i64 n, by simp [execOp, resolve, invoke, builtin, Builtin.len_, hx', zM, zI hu, goInt], rfl, h⟩
      .rename_i hv
       rw [hv] at hx1
       obtain ⟨ad, c', hx'⟩ := hx1
       exact ⟨.flat (.int .i64 0), .int .i64 0, by simp [execOp, resolve, invoke, builtin, Builtin.len_, hx', zM, zI hu, goInt], rfl, h⟩
      .rename_i n c hv
       have hx' := S.flat hv
       exact ⟨.flat (.int .i64 n), .int .i64 n, by simp [execOp, resolve, invoke, builtin, Builtin.len_, hx', zM, zI hu, goInt], rfl, h⟩
      .exact h.elim
     .rename_i hu
      obtain ⟨s, hv, h⟩ := zMe h
      have hx' := S.flat hv
      exact ⟨.flat (.int .i64 s.size), .int .i64 s.size, by simp [execOp, resolve, invoke, builtin, Builtin.len_, hx', zM, zI hu, goInt], rfl, h⟩
     .exact h.elim
    .exact h.elim
   | min => exact rD S (by simp) h
   | max => exact rD S (by simp) h
   | _ => exact h.elim
  | value f => exact h.elim
  | invoke r m => exact h.elim
 | _ => exact h.elim
end Go.Proofs.YtkiggdgphbkneaaGreat.Am
