/- Each operation of the abstract machine tells what the real one does: all together. No program in sight. -/
import Derived.Test.YtkiggdgphbkneaaGreatTopDiskX2
namespace Go.Proofs.YtkiggdgphbkneaaGreat.Am
set_option linter.unusedVariables false
set_option linter.unusedSimpArgs false
theorem zXn {P : Program} {t el : TypeId} (hu : P.underlying t = some (.pointer el)) (d : Nat) (a : Addr) : pv P (Op.equalIn (d + 1) t (.pointer (some a)) (.pointer none)) = some false := by
 rw [Op.equalIn, zM, zI hu]; rfl
theorem aN {P : Program} {t el : TypeId} (hu : P.underlying t = some (.slice el)) (d : Nat) (a : Addr) (l c l' c' : Nat) : pv P (Op.equalIn (d + 1) t (.slice (some a) l c) (.slice none l' c')) = some false := by
 rw [Op.equalIn, zM, zI hu]; rfl
theorem rR {P : Program} {t : TypeId} {x y : Value} (h1 : ∀ a, x ≠ .agg a) (h2 : x ≠ .nilIface) (op : BinOp) (o1 o2 : Operand) : pv P (eqGuard op t o1 o2 x y) = some () := by
 unfold eqGuard
 cases x with
 | agg a => exact absurd rfl (h1 a)
 | nilIface => exact absurd rfl h2
 | _ => cases op <;> rfl
theorem zZ3 {P : Program} {t el : TypeId} (hu : P.underlying t = some (.pointer el)) (d : Nat) : pv P (Op.equalIn (d + 1) t (.pointer none) (.pointer none)) = some true := by
 rw [Op.equalIn, zM, zI hu]; rfl
theorem zXo {P : Program} {t el : TypeId} (hu : P.underlying t = some (.slice el)) (d : Nat) (l c l' c' : Nat) : pv P (Op.equalIn (d + 1) t (.slice none l c) (.slice none l' c')) = some true := by
 rw [Op.equalIn, zM, zI hu]; rfl
structure NilEq (P : Program) (t : TypeId) (x' y' : Value) (b : Bool) : Prop where
 eq : pv P (Op.equal t x' y') = some b
 guard : ∀ op o1 o2, pv P (eqGuard op t o1 o2 x' y') = some ()
 e1 : binOp .eql t x' y' = do pure (.bool (<- Op.equal t x' y'))
 e2 : binOp .neq t x' y' = do pure (.bool (!(<- Op.equal t x' y')))
theorem zKh {P : Program} {t : TypeId} {y : Operand} (h : eP P t y = some true) : y = .const (.pointer none) /\ ∃ el, P.underlying t = some (.pointer el) := by
 unfold eP at h
 split at h
 .split at h
  .exact ⟨rfl, _, by assumption⟩
  .cases h
 .split at h <;> cases h
 .cases h
theorem zF5 {P : Program} {t : TypeId} {y : Operand} (h : eP P t y = some false) : (∃ l c, y = .const (.slice none l c)) /\ ∃ el, P.underlying t = some (.slice el) := by
 unfold eP at h
 split at h
 .split at h <;> cases h
 .split at h
  .exact ⟨⟨_, _, rfl⟩, _, by assumption⟩
  .cases h
 .cases h
theorem zP7 {P : Program} {t el : TypeId} (hu : P.underlying t = some (.pointer el)) {x : AV} {x' : Value} {k : Bool -> Prop} {g : Gh} (hx : VR g x x') (h : pZ x k) : ∃ b, NilEq P t x' (.pointer none) b /\ k b := by
 unfold pZ at h
 split at h
 .obtain ⟨_, rfl⟩ := hx
  exact ⟨false, ⟨zXn hu 9999 _, rR (by simp) (by simp), rfl, rfl⟩, h⟩
 .cases hx
  exact ⟨true, ⟨zZ3 hu 9999, rR (by simp) (by simp), rfl, rfl⟩, h⟩
 .exact h.elim
theorem zQ1 {P : Program} {t el : TypeId} (hu : P.underlying t = some (.slice el)) {x : AV} {x' : Value} {k : Bool -> Prop} {g : Gh} {l c : Nat} (hx : VR g x x') (h : zG1 x k) : ∃ b, NilEq P t x' (.slice none l c) b /\ k b := by
 unfold zG1 at h
 split at h
 .obtain ⟨_, c', rfl, _⟩ := hx
  exact ⟨false, ⟨aN hu 9999 _ _ _ _ _, rR (by simp) (by simp), rfl, rfl⟩, h⟩
 .obtain ⟨ad, c', rfl⟩ := hx
  exact ⟨false, ⟨aN hu 9999 _ _ _ _ _, rR (by simp) (by simp), rfl, rfl⟩, h⟩
 .cases hx
  exact ⟨true, ⟨zXo hu 9999 _ _ _ _, rR (by simp) (by simp), rfl, rfl⟩, h⟩
 .cases hx
  exact ⟨false, ⟨aN hu 9999 _ _ _ _ _, rR (by simp) (by simp), rfl, rfl⟩, h⟩
 .exact h.elim
theorem aX {α : Type} (P : Program) (c : Prop) [Decidable c] (x y : Sem α) : pv P (if c then x else y) = if c then pv P x else pv P y := by
 by_cases h : c
 .rw [if_pos h, if_pos h]
 .rw [if_neg h, if_neg h]
theorem dE {P : Program} (d : Nat) (t : TypeId) (xs ys : Array Value) {fs : Array Field} (ht : P.underlying t = some (.struct fs)) (hp : P.stoodInHeld t = false) :
  pv P (Op.equalIn (d + 1) t (.agg xs) (.agg ys)) = pv P (Op.eqFields d xs ys fs.toList) := by
 simp only [Op.equalIn, zM, zI ht, Option.bind_some, pv_program, hp, Bool.false_eq_true, if_false]
 rw [<- Array.forIn_toList]
 generalize fs.toList = l
 clear ht
 induction l with
 | nil => simp [Op.eqFields]
 | cons f fs ih =>
  simp only [List.forIn_cons, Op.eqFields, zM, aX]
  split
  .cases pv P (part f.type xs f.offset) with
   | some a =>
    simp only [Option.bind_some]
    cases pv P (part f.type ys f.offset) with
    | some b =>
     simp only [Option.bind_some]
     cases pv P (Op.equalIn d f.type a b) with
     | some r =>
      cases r
      .simp only [Option.bind_some, Bool.not_false, if_true, pv_pure]
      .simp only [Option.bind_some, Bool.not_true, Bool.false_eq_true, if_false, pv_pure]
       exact ih
     | none => rfl
    | none => rfl
   | none => rfl
  .simp only [pv_pure, Option.bind_some]
   exact ih
theorem aM {P : Program} (d : Nat) {t e : TypeId} {n : Nat} {i : TypeInfo} (xs ys : Array Value) (hu : P.underlying t = some (.array n e)) (hi : P.info? e = some i) :
  pv P (Op.equalIn (d + 1) t (.agg xs) (.agg ys)) = pv P (Op.eqItems d e (P.cellsOf e) xs ys (List.range n)) := by
 simp only [Op.equalIn, zM, zI hu, Option.bind_some, xA hi]
 simp only [Std.Legacy.Range.forIn_eq_forIn_range', Std.Legacy.Range.size, Nat.sub_zero, Nat.add_one_sub_one, Nat.div_one, List.range_eq_range']
 generalize List.range' 0 n = is
 induction is with
 | nil => simp [Op.eqItems]
 | cons j is ih =>
  simp only [List.forIn_cons, Op.eqItems, zM, aX]
  cases pv P (part e xs (j * P.cellsOf e)) with
  | some a =>
   simp only [Option.bind_some]
   cases pv P (part e ys (j * P.cellsOf e)) with
   | some b =>
    simp only [Option.bind_some]
    cases pv P (Op.equalIn d e a b) with
    | some r =>
     cases r
     .simp only [Option.bind_some, Bool.not_false, if_true, pv_pure]
     .simp only [Option.bind_some, Bool.not_true, Bool.false_eq_true, if_false, pv_pure]
      exact ih
    | none => rfl
   | none => rfl
  | none => rfl
def lS (P : Program) (t : TypeId) (x : Value) (c : Nat -> Value) : Prop :=
 match yS P t with
 | true => ∃ a : Array Value, x = .agg a /\ a.size = P.cellsOf t /\ ∀ i, i < P.cellsOf t -> a.getD i undef = c i
 | false => x = c 0
theorem dW {P : Program} {t : TypeId} {d : TypeDesc} (hu : P.underlying t = some d) (xs : Array Value) (off : Nat) (h1 : 1 <= P.cellsOf t) (hle : off + P.cellsOf t <= xs.size) :
  ∃ v, pv P (part t xs off) = some v /\ lS P t v fun i => xs.getD (off + i) undef := by
 obtain ⟨i, hi⟩ := tA hu
 cases e : yS P t with
 | true =>
  refine ⟨.agg (xs.extract off (off + P.cellsOf t)), ?_, ?_⟩
  .unfold part; rw [zM, kP hu, e]; simp [zM, xA hi]
  .unfold lS; rw [e]
   refine ⟨_, rfl, by simp; omega, fun j hj => ?_⟩
   have h1 : off + j < xs.size := by omega
   have h2 : j < min (off + P.cellsOf t) xs.size - off := by omega
   simp [Array.getD, h1, h2]
 | false =>
  refine ⟨xs.getD off undef, ?_, ?_⟩
  .unfold part; rw [zM, kP hu, e]
   have h1 : off < xs.size := by omega
   simp [h1, Array.getD]
  .unfold lS; rw [e]; rfl
theorem zAj {P : Program} {D : Nat} {t : TypeId} {ls : List (Nat × LK)} (h : sU P D t = some ls) : ∃ d, P.underlying t = some d := by
 cases D with
 | zero => simp [sU, yT] at h
 | succ D =>
  cases e : P.underlying t with
  | none => simp [sU, e] at h
  | some d => exact ⟨d, rfl⟩
theorem zDi {P : Program} : ∀ (D : Nat) (t : TypeId) (ls : List (Nat × LK)), sU P D t = some ls -> oP P D t = true -> ∀ p ∈ ls, p.1 < P.cellsOf t \/ (yS P t = false /\ p.1 = 0) := by
 intro D
 induction D with
 | zero => intro t ls h; simp [sU, yT] at h
 | succ D ih =>
  intro t ls h hin p hp
  unfold sU at h
  unfold oP at hin
  split at h
  .rename_i hu; simp only [Option.some.injEq] at h; subst h; simp at hp; subst hp; exact .inr ⟨by simp [yS, hu], rfl⟩
  .rename_i hu; simp only [Option.some.injEq] at h; subst h; simp at hp; subst hp; exact .inr ⟨by simp [yS, hu], rfl⟩
  .rename_i hu; simp only [Option.some.injEq] at h; subst h; simp at hp; subst hp; exact .inr ⟨by simp [yS, hu], rfl⟩
  .rename_i n e hu
   rw [hu] at hin
   simp only [Bool.and_eq_true, Nat.ble_eq, beq_iff_eq] at hin
   obtain ⟨⟨hin, hsz⟩, h1⟩ := hin
   cases hl : sU P D e with
   | none => rw [hl] at h; simp at h
   | some el =>
    rw [hl] at h
    simp only [Option.some.injEq] at h
    subst h
    obtain ⟨j, hj, hp⟩ := List.mem_flatMap.1 hp
    obtain ⟨q, hq, rfl⟩ := List.mem_map.1 hp
    have hj : j < n := List.mem_range.1 hj
    have hb : j * P.cellsOf e + P.cellsOf e <= P.cellsOf t := by
     rw [hsz, <- Nat.succ_mul]; exact Nat.mul_le_mul_right _ hj
    have := ih e el hl hin q hq
    exact .inl (by dsimp only; omega)
  .rename_i fs hu
   rw [hu] at hin
   simp only [List.all_eq_true, Bool.and_eq_true, Nat.ble_eq] at hin
   split at h
   .split at h
    .rename_i ll hll
     simp only [Option.some.injEq] at h
     subst h
     have key : ∀ (l : List Field) (ll : List (List (Nat × LK))), (l.mapM fun f => (sU P D f.type).map fun ls => ls.map fun p => (f.offset + p.1, p.2)) = some ll -> (∀ f ∈ l, f ∈ fs.toList) -> ∀ p ∈ ll.flatten, p.1 < P.cellsOf t := by
      intro l
      induction l with
      | nil => intro ll e _ p hp; simp at e; subst e; simp at hp
      | cons f l ihl =>
       intro ll e hm p hp
       simp only [List.mapM_cons, Option.bind_eq_bind, Option.bind_eq_some_iff, Option.map_eq_some_iff, Option.pure_def, Option.some.injEq] at e
       obtain ⟨l1, ⟨el, hl, rfl⟩, l2, hl2, rfl⟩ := e
       obtain ⟨⟨hin, hle⟩, h1⟩ := hin f (hm f (by simp))
       rw [List.flatten_cons, List.mem_append] at hp
       rcases hp with hp | hp
       .obtain ⟨q, hq, rfl⟩ := List.mem_map.1 hp
        have := ih f.type el hl hin q hq
        dsimp only; omega
       .exact ihl l2 hl2 (fun g hg => hm g (by simp [hg])) p hp
     exact .inl (key fs.toList ll hll (fun f hf => hf) p hp)
    .cases h
   .cases h
  .cases h
def yJ9 (c c' : Nat -> AV) (g : Gh) (u u' : Nat -> Value) (ls : List (Nat × LK)) : Prop :=
 ∀ p ∈ ls, p.2.fits (c p.1) = true /\ p.2.fits (c' p.1) = true /\ CR g (c p.1) (u p.1) /\ CR g (c' p.1) (u' p.1)
theorem zDd {P : Program} (d : Nat) {e : TypeId} (xs ys : Array Value) {q : Nat -> Bool} : ∀ (is : List Nat), (∀ j ∈ is, ∃ a b, pv P (part e xs (j * P.cellsOf e)) = some a /\ pv P (part e ys (j * P.cellsOf e)) = some b /\ pv P (Op.equalIn d e a b) = some (q j)) ->
  pv P (Op.eqItems d e (P.cellsOf e) xs ys is) = some (is.all q)
 | [], _ => rfl
 | j :: is, h => by
  obtain ⟨a, b, h1, h2, h3⟩ := h j (by simp)
  have ih := zDd d xs ys is fun k hk => h k (by simp [hk])
  simp only [Op.eqItems, zM, h1, h2, h3, Option.bind_some, aX, ih]
  cases hq : q j <;> simp [hq]
theorem zPj {P : Program} {g : Gh} (d : Nat) : ∀ (D : Nat) (t : TypeId) (ls : List (Nat × LK)), sU P D t = some ls -> oP P D t = true -> ∀ (x x' : Value) (u u' : Nat -> Value) (c c' : Nat -> AV), lS P t x u -> lS P t x' u' -> yJ9 c c' g u u' ls ->
  pv P (Op.equalIn (d + D) t x x') = some (ls.all fun p => (c p.1).same (c' p.1)) := by
 intro D
 induction D with
 | zero => intro t ls h; simp [sU, yT] at h
 | succ D ih =>
  intro t ls h hin x x' u u' c c' hx hx' hf
  unfold sU at h
  unfold oP at hin
  have one : ∀ k, ls = [(0, k)] -> yS P t = false -> x = u 0 /\ x' = u' 0 /\ k.fits (c 0) = true /\ k.fits (c' 0) = true /\ CR g (c 0) (u 0) /\ CR g (c' 0) (u' 0) := fun k hk ha => by
   unfold lS at hx hx'
   rw [ha] at hx hx'
   obtain ⟨h1, h2, h3, h4⟩ := hf (0, k) (by rw [hk]; simp)
   exact ⟨hx, hx', h1, h2, h3, h4⟩
  split at h
  .rename_i hu
   simp only [Option.some.injEq] at h
   obtain ⟨rfl, rfl, f1, f2, r1, r2⟩ := one .b h.symm (by simp [yS, hu])
   subst h
   cases e1 : c 0 with
   | flat v1 => cases e2 : c' 0 with
    | flat v2 =>
     rw [e1] at f1 r1; rw [e2] at f2 r2
     cases v1 <;> simp [LK.fits] at f1
     cases v2 <;> simp [LK.fits] at f2
     rw [r1.1, r2.1, show d + (D + 1) = (d + D) + 1 from rfl, Op.equalIn]
     simp [zM, zI hu, AV.same, e1, e2]
    | _ => simp [LK.fits, e2] at f2
   | _ => simp [LK.fits, e1] at f1
  .rename_i q hu
   simp only [Option.some.injEq] at h
   obtain ⟨rfl, rfl, f1, f2, r1, r2⟩ := one (.i q) h.symm (by simp [yS, hu])
   subst h
   cases e1 : c 0 with
   | flat v1 => cases e2 : c' 0 with
    | flat v2 =>
     rw [e1] at f1 r1; rw [e2] at f2 r2
     cases v1 <;> simp [LK.fits] at f1
     cases v2 <;> simp [LK.fits] at f2
     subst f1; subst f2
     rw [r1.1, r2.1, show d + (D + 1) = (d + D) + 1 from rfl, Op.equalIn]
     simp [zM, zI hu, AV.same, e1, e2]
    | _ => simp [LK.fits, e2] at f2
   | _ => simp [LK.fits, e1] at f1
  .rename_i hu
   simp only [Option.some.injEq] at h
   obtain ⟨rfl, rfl, f1, f2, r1, r2⟩ := one .s h.symm (by simp [yS, hu])
   subst h
   cases e1 : c 0 with
   | flat v1 => cases e2 : c' 0 with
    | flat v2 =>
     rw [e1] at f1 r1; rw [e2] at f2 r2
     cases v1 <;> simp [LK.fits] at f1
     cases v2 <;> simp [LK.fits] at f2
     rw [r1.1, r2.1, show d + (D + 1) = (d + D) + 1 from rfl, Op.equalIn]
     simp [zM, zI hu, AV.same, e1, e2, beq_toListBytes]
    | _ => simp [LK.fits, e2] at f2
   | _ => simp [LK.fits, e1] at f1
  .rename_i n e hu
   rw [hu] at hin
   simp only [Bool.and_eq_true, Nat.ble_eq, beq_iff_eq] at hin
   obtain ⟨⟨hin, hsz⟩, h1⟩ := hin
   have ha : yS P t = true := by simp [yS, hu]
   unfold lS at hx hx'
   rw [ha] at hx hx'
   obtain ⟨xs, rfl, sx, cx⟩ := hx
   obtain ⟨ys, rfl, sy, cy⟩ := hx'
   cases hl : sU P D e with
   | none => rw [hl] at h; simp at h
   | some el =>
    rw [hl] at h
    simp only [Option.some.injEq] at h
    obtain ⟨de, hue⟩ := zAj hl
    obtain ⟨i, hi⟩ := tA hue
    rw [show d + (D + 1) = (d + D) + 1 from rfl, aM (d + D) xs ys hu hi]
    rw [zDd (q := fun j => el.all fun p => (c (j * P.cellsOf e + p.1)).same (c' (j * P.cellsOf e + p.1))) (d + D) xs ys (List.range n) fun j hj => ?_]
    .rw [<- h]; simp [List.all_flatMap, List.all_map, Function.comp_def]
    .have hj : j < n := List.mem_range.1 hj
     have hb : j * P.cellsOf e + P.cellsOf e <= P.cellsOf t := by
      rw [hsz, <- Nat.succ_mul]; exact Nat.mul_le_mul_right _ hj
     obtain ⟨a, ha1, ha2⟩ := dW hue xs (j * P.cellsOf e) h1 (by omega)
     obtain ⟨b, hb1, hb2⟩ := dW hue ys (j * P.cellsOf e) h1 (by omega)
     refine ⟨a, b, ha1, hb1, ih e el hl hin a b _ _ (fun i => c (j * P.cellsOf e + i)) (fun i => c' (j * P.cellsOf e + i)) ha2 hb2 fun p hp => ?_⟩
     have hlt := zDi D e el hl hin p hp
     obtain ⟨f1, f2, f3, f4⟩ := hf (j * P.cellsOf e + p.1, p.2) (by
      rw [<- h]; exact List.mem_flatMap.2 ⟨j, List.mem_range.2 hj, List.mem_map.2 ⟨p, hp, rfl⟩⟩)
     refine ⟨f1, f2, ?_, ?_⟩
     .show CR g _ (xs.getD _ _); rw [cx _ (by omega)]; exact f3
     .show CR g _ (ys.getD _ _); rw [cy _ (by omega)]; exact f4
  .rename_i fs hu
   rw [hu] at hin
   simp only [List.all_eq_true, Bool.and_eq_true, Nat.ble_eq] at hin
   have ha : yS P t = true := by simp [yS, hu]
   unfold lS at hx hx'
   rw [ha] at hx hx'
   obtain ⟨xs, rfl, sx, cx⟩ := hx
   obtain ⟨ys, rfl, sy, cy⟩ := hx'
   split at h
   .rename_i hg
    simp only [Bool.and_eq_true, List.all_eq_true, bne_iff_ne, ne_eq, Bool.not_eq_true'] at hg
    split at h
    .rename_i ll hll
     simp only [Option.some.injEq] at h
     rw [show d + (D + 1) = (d + D) + 1 from rfl, dE (d + D) t xs ys hu hg.2]
     have key : ∀ (l : List Field) (ll : List (List (Nat × LK))), (l.mapM fun f => (sU P D f.type).map fun ls => ls.map fun p => (f.offset + p.1, p.2)) = some ll -> (∀ f ∈ l, f ∈ fs.toList) -> (∀ q ∈ ll.flatten, q ∈ ls) ->
       pv P (Op.eqFields (d + D) xs ys l) = some (ll.flatten.all fun p => (c p.1).same (c' p.1)) := by
      intro l
      induction l with
      | nil => intro ll e _ _; simp at e; subst e; rfl
      | cons f l ihl =>
       intro ll e hm hq
       simp only [List.mapM_cons, Option.bind_eq_bind, Option.bind_eq_some_iff, Option.map_eq_some_iff, Option.pure_def, Option.some.injEq] at e
       obtain ⟨l1, ⟨el, hl, rfl⟩, l2, hl2, rfl⟩ := e
       obtain ⟨⟨hin, hle⟩, h1⟩ := hin f (hm f (by simp))
       obtain ⟨de, hue⟩ := zAj hl
       obtain ⟨a, ha1, ha2⟩ := dW hue xs f.offset h1 (by omega)
       obtain ⟨b, hb1, hb2⟩ := dW hue ys f.offset h1 (by omega)
       have hE := ih f.type el hl hin a b _ _ (fun i => c (f.offset + i)) (fun i => c' (f.offset + i)) ha2 hb2 fun p hp => by
        have hlt := zDi D f.type el hl hin p hp
        obtain ⟨f1, f2, f3, f4⟩ := hf (f.offset + p.1, p.2) (hq _ (by rw [List.flatten_cons, List.mem_append]; exact .inl (List.mem_map.2 ⟨p, hp, rfl⟩)))
        refine ⟨f1, f2, ?_, ?_⟩
        .show CR g _ (xs.getD _ _); rw [cx _ (by omega)]; exact f3
        .show CR g _ (ys.getD _ _); rw [cy _ (by omega)]; exact f4
       have hR := ihl l2 hl2 (fun g hg => hm g (by simp [hg])) (fun q hqq => hq q (by simp at hqq ⊢; exact .inr hqq))
       simp only [Op.eqFields, zM, ha1, hb1, hE, Option.bind_some, aX, hR, hg.1 f (hm f (by simp)), ne_eq, not_false_eq_true, if_true, List.flatten_cons, List.all_append, List.all_map, Function.comp_def]
       cases hq : el.all fun p => (c (f.offset + p.1)).same (c' (f.offset + p.1)) <;> simp [hq]
     rw [<- h]
     exact key fs.toList ll hll (fun f hf => hf) (fun q hq => by rw [<- h]; exact hq)
    .cases h
   .cases h
  .cases h
theorem sE {P : Program} {t : TypeId} {zs : List AV} (h : lQ P t = some zs) : ∃ z, pv P (zeroValue t) = some z /\ z.cells.size = zs.length /\ ∀ (g : Gh) i, i < zs.length -> CR g (zH zs i) (z.cells.getD i undef) := by
 unfold lQ at h
 split at h
 .rename_i i hi
  split at h
  .rename_i z hz
   split at h
   .rename_i hall
    simp only [Option.some.injEq] at h
    subst h
    refine ⟨z, ?_, by simp, fun g j hj => ?_⟩
    .unfold zeroValue typeInfo; rw [zM, zM]; simp [hi, hz]
    .have hl : ∀ (l : List Value) (i : Nat), i < l.length -> zH (l.map AV.flat) i = .flat (l.getD i undef) := by
      intro l
      induction l with
      | nil => intro i h; simp at h
      | cons x l ih => intro i h; cases i with
       | zero => rfl
       | succ i => simpa [zH] using ih i (by simpa using h)
     simp at hj
     rw [hl _ _ (by simpa using hj)]
     have e : z.cells.toList.getD j undef = z.cells.getD j undef := by simp [Array.getD, hj]
     rw [e]
     refine ⟨rfl, ?_⟩
     rw [List.all_eq_true] at hall
     refine hall _ ?_
     simp [Array.getD, hj]
   .cases h
  .cases h
 .cases h
theorem zMi {P : Program} {t : TypeId} {v : AV} {v' : Value} {n : Nat} {c : Nat -> AV} {g : Gh} (hv : VR g v v') (h : zD1 P t v = some (n, c)) :
  n = P.cellsOf t /\ v'.cells.size = n /\ ∀ i, i < n -> CR g (c i) (v'.cells.getD i undef) := by
 unfold zD1 at h
 split at h
 .rename_i n1 c1 e
  split at h
  .rename_i hn
   simp only [Option.some.injEq, Prod.mk.injEq] at h
   obtain ⟨rfl, rfl⟩ := h
   obtain ⟨a, rfl, hs, hc⟩ := hv
   exact ⟨hn, hs, hc⟩
  .cases h
 .rename_i e
  split at h
  .rename_i h1
   split at h
   .rename_i hn
    simp only [Option.some.injEq, Prod.mk.injEq] at h
    obtain ⟨rfl, rfl⟩ := h
    have hc := zH8 hv h1
    have ho := zM2 hc
    have hcs : v'.cells = #[v'] := by cases v' <;> first | rfl | simp [Value.oneCell] at ho
    refine ⟨hn.symm, by rw [hcs]; rfl, fun i hi => ?_⟩
    obtain rfl : i = 0 := by omega
    rw [hcs]
    exact hc
   .cases h
  .cases h
 .cases h
theorem kW (off : Nat) : ∀ (l : List (Value × Nat)) (cs : Array Value), (l.foldl (fun cs (x : Value × Nat) => cs.setIfInBounds (off + x.2) x.1) cs).size = cs.size
 | [], cs => rfl
 | x :: l, cs => by rw [List.foldl_cons, kW off l]; simp
theorem gJ (off : Nat) : ∀ (vs : List Value) (k : Nat) (cs : Array Value) (i : Nat), off + k + vs.length <= cs.size ->
  ((vs.zipIdx k).foldl (fun cs (x : Value × Nat) => cs.setIfInBounds (off + x.2) x.1) cs).getD i undef = if off + k <= i /\ i < off + k + vs.length then vs.getD (i - (off + k)) undef else cs.getD i undef
 | [], k, cs, i, h => by simp; intro h1 h2; omega
 | v :: vs, k, cs, i, h => by
  simp only [List.length_cons] at h
  rw [List.zipIdx_cons, List.foldl_cons, gJ off vs (k + 1) _ i (by simp; omega)]
  simp only [List.length_cons]
  by_cases c0 : i = off + k
  .subst c0
   rw [if_neg (by omega), if_pos (by omega)]
   simp [Array.getD, show off + k < cs.size by omega]
  .by_cases c1 : off + (k + 1) <= i /\ i < off + (k + 1) + vs.length
   .rw [if_pos c1, if_pos (by omega)]
    have : i - (off + k) = (i - (off + (k + 1))) + 1 := by omega
    rw [this]; rfl
   .rw [if_neg c1, if_neg (by omega)]
    by_cases hi : i < cs.size
    .simp [Array.getD, hi, Array.getElem_setIfInBounds, Ne.symm c0]
    .simp [Array.getD, hi]
theorem zId {P : Program} {t : TypeId} {v : AV} {v' : Value} {n : Nat} {c : Nat -> AV} {g : Gh} (hv : VR g v v') (h1 : yS P t = false -> v.one = true) (h : zKp P t v = some (n, c)) :
  n = P.cellsOf t /\ v'.cells.size = n /\ ∀ i, i < n -> CR g (c i) (v'.cells.getD i undef) := by
 refine zMi (v := v) hv ?_
 unfold zKp at h
 unfold zD1
 split at h
 .exact h
 .rename_i e
  rw [h1 e]
  exact h
 .cases h
theorem jI {place : Nat -> Option (Nat × TypeId)} {P : Program} : ∀ {parts : List (Nat × AV)} {A : Prop}, kones place P parts A -> (∀ p ∈ parts, ∀ off t, place p.1 = some (off, t) -> yS P t = false -> p.2.one = true) /\ A
 | [], A, h => ⟨(fun p hp => absurd hp (List.not_mem_nil)), h⟩
 | (i, v) :: rest, A, h => by
  simp only [kones] at h
  split at h
  .exact h.elim
  .rename_i off t hpl
   split at h
   .rename_i hag
    obtain ⟨h1, h2⟩ := jI h
    refine ⟨fun p hp off' t' hp' hag' => ?_, h2⟩
    rcases List.mem_cons.1 hp with rfl | hp
    .rw [hpl] at hp'; cases hp'; rw [hag] at hag'; cases hag'
    .exact h1 p hp off' t' hp' hag'
   .rename_i hag
    rcases yY h with ⟨hv, h⟩ | ⟨_, h⟩
    .obtain ⟨h1, h2⟩ := jI h
     refine ⟨fun p hp off' t' hp' hag' => ?_, h2⟩
     rcases List.mem_cons.1 hp with rfl | hp
     .exact hv
     .exact h1 p hp off' t' hp' hag'
    .exact h.elim
theorem yJi {P : Program} {t : TypeId} {v : AV} {A : Prop} (h : kone P t v A) : (yS P t = false -> v.one = true) /\ A := by
 unfold kone at h
 split at h
 .rename_i e; exact ⟨fun e' => (by rw [e] at e'; cases e'), h⟩
 .rcases yY h with ⟨hv, h⟩ | ⟨_, h⟩
  .exact ⟨fun _ => hv, h⟩
  .exact h.elim
theorem dH {P : Program} {place : Nat -> Option (Nat × TypeId)} {n : Nat} {g : Gh} {place' : Nat -> Option (Nat × Nat)} (hp : ∀ i, place' i = (place i).map fun x => (x.1, P.cellsOf x.2)) :
  ∀ (parts : List (Nat × AV)) (parts' : List (Nat × Value)) (c : Nat -> AV) (cells : Array Value) (c2 : Nat -> AV), All2 (fun x y => x.1 = y.1 /\ VR g x.2 y.2) parts parts' -> (∀ p ∈ parts, ∀ off t, place p.1 = some (off, t) -> yS P t = false -> p.2.one = true) -> cells.size = n -> (∀ i, i < n -> CR g (c i) (cells.getD i undef)) ->
  zBn place P n parts c = some c2 -> ∃ cells2, Instr.fill place' cells parts' = some cells2 /\ cells2.size = n /\ ∀ i, i < n -> CR g (c2 i) (cells2.getD i undef)
 | [], [], c, cells, c2, _, _, hs, hc, h => by
  simp only [zBn, Option.some.injEq] at h; subst h
  exact ⟨cells, rfl, hs, hc⟩
 | (i, v) :: rest, (i', v') :: rest', c, cells, c2, hall, h1s, hs, hc, h => by
  obtain ⟨⟨hi, hv⟩, hall⟩ := hall
  dsimp only at hi hv; subst hi
  simp only [zBn] at h
  split at h
  .cases h
  .rename_i off t hpl
   split at h
   .cases h
   .rename_i k d hcl
    obtain ⟨hk, hsz, hd⟩ := zId hv (fun ha => h1s (i, v) (by simp) off t hpl ha) hcl
    split at h
    .rename_i hle
     have hnew : ∀ j, j < n -> CR g ((match k with | 1 => upd c off (d 0) | _ => zC c off k d) j) ((v'.cells.zipIdx.foldl (fun cs (x : Value × Nat) => cs.setIfInBounds (off + x.2) x.1) cells).getD j undef) := by
      intro j hj
      have e : (v'.cells.zipIdx.foldl (fun cs (x : Value × Nat) => cs.setIfInBounds (off + x.2) x.1) cells).getD j undef = if off <= j /\ j < off + k then v'.cells.getD (j - off) undef else cells.getD j undef := by
       have hz : v'.cells.zipIdx.toList = v'.cells.toList.zipIdx := by simp
       rw [<- Array.foldl_toList, hz]
       have := gJ off v'.cells.toList 0 cells j (by simp; omega)
       simp only [Nat.add_zero, Array.length_toList, hsz] at this
       rw [this]
       have e2 : v'.cells.toList.getD (j - off) undef = v'.cells.getD (j - off) undef := by
        by_cases hlt : j - off < v'.cells.size <;> simp [Array.getD, hlt]
       rw [e2]
      rw [e]
      split
      .simp only [upd]
       by_cases cj : j = off
       .subst cj; rw [if_pos rfl, if_pos (by omega), Nat.sub_self]; exact hd 0 (by omega)
       .rw [if_neg cj, if_neg (by omega)]; exact hc j hj
      .simp only [zC]
       by_cases cj : off <= j /\ j < off + k
       .rw [if_pos cj, if_pos cj]; exact hd _ (by omega)
       .rw [if_neg cj, if_neg cj]; exact hc j hj
     obtain ⟨cells2, h1, h2, h3⟩ := dH hp rest rest' _ _ c2 hall (fun p hp' => h1s p (by simp [hp'])) (by rw [<- Array.foldl_toList, kW]; exact hs) hnew h
     refine ⟨cells2, ?_, h2, h3⟩
     simp only [Instr.fill, hp, hpl, Option.map_some]
     rw [if_neg (by simp; omega)]
     exact h1
    .cases h
 | [], _ :: _, c, cells, c2, hall, _, _, _, _ => hall.elim
 | _ :: _, [], c, cells, c2, hall, _, _, _, _ => hall.elim
theorem All2.map {α β γ : Type} {R : β -> γ -> Prop} (f : α -> β) (h : α -> γ) (hr : ∀ a, R (f a) (h a)) : ∀ l : List α, All2 R (l.map f) (l.map h)
 | [] => trivial
 | a :: l => ⟨hr a, All2.map f h hr l⟩
theorem yEh {P : Program} {t : TypeId} {x y : AV} {x' y' : Value} {k : Bool -> Prop} {g : Gh} (hx : VR g x x') (hy : VR g y y') (ht : yS P t = true) (h : aeq P t x y k) :
  ∃ b, pv P (Op.equal t x' y') = some b /\ (∀ op o1 o2, pv P (eqGuard op t o1 o2 x' y') = some ()) /\ (∃ a, x' = .agg a) /\ (∃ a, y' = .agg a) /\ k b := by
 unfold aeq at h
 obtain ⟨n, c, rfl, h1⟩ := vS h
 obtain ⟨n', c', rfl, h2⟩ := vS h1
 replace h := h2
 clear h1 h2
 obtain ⟨a, rfl, hs, hc⟩ := hx
 obtain ⟨a', rfl, hs', hc'⟩ := hy
 split at h
 .exact h.elim
 rename_i hgt
 split at h
 .exact h.elim
 rename_i hin
 split at h
 .exact h.elim
 rename_i hn
 split at h
 .exact h.elim
 rename_i hn'
 have hn : n = P.cellsOf t := by simpa using hn
 have hn' : n' = P.cellsOf t := by simpa using hn'
 split at h
 rotate_left
 .exact h.elim
 rename_i ls hls
 unfold geq at h
 split at h
 rotate_left
 .exact h.elim
 rename_i hfit
 rw [List.all_eq_true] at hfit
 refine ⟨_, ?_, fun op o1 o2 => ?_, ⟨_, rfl⟩, ⟨_, rfl⟩, h⟩
 .have e : Op.equal t (.agg a) (.agg a') = Op.equalIn (9988 + 12) t (.agg a) (.agg a') := by rw [Op.equal, Op.maxDepth]
  rw [e]
  refine zPj (g := g) 9988 12 t ls hls hin (.agg a) (.agg a') (fun i => a.getD i undef) (fun i => a'.getD i undef) c c' ?_ ?_ fun p hp => ?_
  .unfold lS; rw [ht]; exact ⟨a, rfl, by omega, fun i _ => rfl⟩
  .unfold lS; rw [ht]; exact ⟨a', rfl, by omega, fun i _ => rfl⟩
  .have h1 := hfit p hp
   simp only [Bool.and_eq_true] at h1
   have h2 : p.1 < P.cellsOf t := by
    rcases zDi 12 t ls hls hin p hp with h | ⟨h, _⟩
    .exact h
    .rw [ht] at h; cases h
   exact ⟨h1.1, h1.2, hc _ (by omega), hc' _ (by omega)⟩
 .unfold eqGuard
  cases op <;> first | rfl | (simp [zM, hgt])
end Go.Proofs.YtkiggdgphbkneaaGreat.Am
