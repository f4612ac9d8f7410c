/- Regions that draw their order: the text's order tells of each. No program in sight. -/
import Derived.Test.YtkiggdgphbkneaaGreatTopSortsX9
namespace Go.Proofs.YtkiggdgphbkneaaGreat.Am
set_option linter.unusedVariables false
set_option linter.unusedSimpArgs false
set_option linter.unusedSectionVars false
def regI (P : Program) (Γ : Env) (fr : Option (Nat → Prop)) (all : Array Oper) : List Nat → (Nat → AV) → Mem → ((Nat → AV) → Mem → Prop) → Prop
 | [], σ, m, k => k σ m
 | i :: r, σ, m, k => match all[i]? with
  | none => regI P Γ fr all r σ m k
  | some o => gopK P Γ fr all σ m o fun v m' => regI P Γ fr all r (putA σ o.dst v) m' k
section
variable {P : Program} {w0 : World} {Γ : Env} (HΓ : Sound P w0 Γ) {fr : Option (Nat → Prop)} {all : Array Oper}
include HΓ
theorem regI_of {k : (Nat → AV) → Mem → Prop} : ∀ (l : List Oper) (i : Nat), (∀ j, l[j]? = all[i + j]?) → ∀ (σ : Nat → AV) (m : Mem), regK P Γ fr all l σ m k → regI P Γ fr all (List.range' i l.length) σ m k
 | [], i, hl, σ, m, h => h
 | o :: l, i, hl, σ, m, h => by
  have hi : all[i]? = some o := by simpa using (hl 0).symm
  rw [List.length_cons, List.range'_succ]
  simp only [regI, hi]
  exact (hon_gopK HΓ fr all σ m o).mono _ _ (fun v m' h' => regI_of l (i + 1) (fun j => by have := hl (j + 1); simpa [Nat.add_assoc, Nat.add_comm 1 j] using this) _ _ h') (regK_cons h)
theorem bubble_P {i : Nat} {x : Oper} (hi : all[i]? = some x) (hx : isP P x.op = true) {r : List Nat} {K : (Nat → AV) → Mem → Prop} : ∀ (l : List Nat) (σ : Nat → AV) (m : Mem), (∀ j ∈ l, ∀ y, all[j]? = some y → y.apart all x = true) →
  regI P Γ fr all (l ++ i :: r) σ m K → gopK P Γ fr all σ m x fun u m' => regI P Γ fr all (l ++ r) (putA σ x.dst u) m' K
 | [], σ, m, hap, h => by simpa only [List.nil_append, regI, hi] using h
 | j :: l, σ, m, hap, h => by
  simp only [List.cons_append, regI] at h ⊢
  cases hj : all[j]? with
  | none =>
   rw [hj] at h
   exact bubble_P hi hx l σ m (fun j hj => hap j (by simp [hj])) h
  | some y =>
   rw [hj] at h
   dsimp only at h ⊢
   have h' := (hon_gopK HΓ fr all σ m y).mono _ _ (fun v m1 h1 => bubble_P hi hx l _ m1 (fun j hj => hap j (by simp [hj])) h1) h
   exact comm_P HΓ (hap j (by simp) y hj) hx (K := fun σ m => regI P Γ fr all (l ++ r) σ m K) h'
theorem bubble_P' {i : Nat} {x : Oper} (hi : all[i]? = some x) {r : List Nat} {K : (Nat → AV) → Mem → Prop} : ∀ (l : List Nat) (σ : Nat → AV) (m : Mem), (∀ j ∈ l, ∀ y, all[j]? = some y → y.apart all x = true ∧ isP P y.op = true) →
  regI P Γ fr all (l ++ i :: r) σ m K → gopK P Γ fr all σ m x fun u m' => regI P Γ fr all (l ++ r) (putA σ x.dst u) m' K
 | [], σ, m, hap, h => by simpa only [List.nil_append, regI, hi] using h
 | j :: l, σ, m, hap, h => by
  simp only [List.cons_append, regI] at h ⊢
  cases hj : all[j]? with
  | none =>
   rw [hj] at h
   exact bubble_P' hi l σ m (fun j hj => hap j (by simp [hj])) h
  | some y =>
   rw [hj] at h
   dsimp only at h ⊢
   have h' := (hon_gopK HΓ fr all σ m y).mono _ _ (fun v m1 h1 => bubble_P' hi l _ m1 (fun j hj => hap j (by simp [hj])) h1) h
   exact comm_P' HΓ (hap j (by simp) y hj).1 (hap j (by simp) y hj).2 (K := fun σ m => regI P Γ fr all (l ++ r) σ m K) h'
theorem lowPtr_put {σ : Nat → AV} {d : Option Tmp} {v : AV} {o : Oper} {m : Mem} (hd : ∀ t, d = some t → t ∉ o.looksAt all) (h : lowPtr fr σ o.op m) : lowPtr fr (putA σ d v) o.op m := fun x hx b e => by
 rw [aval_put fun t ht e' => hd t ht (by
  subst e'
  exact List.mem_append_left _ (List.mem_filterMap.2 ⟨.tmp t, by simpa using hx, rfl⟩))] at e
 exact h x hx b e
theorem bubble_L {i : Nat} {x : Oper} (hi : all[i]? = some x) (hx : isL P x.op = true) {r : List Nat} {K : (Nat → AV) → Mem → Prop} : ∀ (l : List Nat) (σ : Nat → AV) (m : Mem), (∀ j ∈ l, ∀ y, all[j]? = some y → y.apart all x = true ∧ (isP P y.op = true ∨ isL P y.op = true ∨ isN y.op = true ∨ (fr.isSome = true ∧ isCA y.op = true ∧ freeS P all y = false))) →
  lowPtr fr σ x.op m → regI P Γ fr all (l ++ i :: r) σ m K → gopK P Γ fr all σ m x fun u m' => regI P Γ fr all (l ++ r) (putA σ x.dst u) m' K
 | [], σ, m, hap, hl, h => by simpa only [List.nil_append, regI, hi] using h
 | j :: l, σ, m, hap, hlow, h => by
  simp only [List.cons_append, regI] at h ⊢
  cases hj : all[j]? with
  | none =>
   rw [hj] at h
   exact bubble_L hi hx l σ m (fun j hj => hap j (by simp [hj])) hlow h
  | some y =>
   rw [hj] at h
   dsimp only at h ⊢
   obtain ⟨h1, h2⟩ := hap j (by simp) y hj
   have ha := (Oper.apart_spec h1).1
   have hlow' : ∀ v m1, KeepsFr fr m m1 → lowPtr fr (putA σ y.dst v) x.op m1 := fun v m1 K => lowPtr_put (P := P) HΓ ha (hlow.keep K)
   have ih : ∀ v m1, KeepsFr fr m m1 → regI P Γ fr all (l ++ i :: r) (putA σ y.dst v) m1 K → gopK P Γ fr all (putA σ y.dst v) m1 x fun u m' => regI P Γ fr all (l ++ r) (putA (putA σ y.dst v) x.dst u) m' K := fun v m1 hK h => bubble_L hi hx l _ m1 (fun j hj => hap j (by simp [hj])) (hlow' v m1 hK) h
   have hself : KeepsFr fr m m := fun _ _ _ => rfl
   rcases h2 with h2 | h2 | h2 | ⟨hfr, h2, hfree⟩
   ·refine comm_P' HΓ h1 h2 (K := fun σ m => regI P Γ fr all (l ++ r) σ m K) ?_
    rw [gopK_P h2] at h ⊢
    rcases det_gval (all := all) (σ := σ) (o := y) (det_apure P σ y) with ⟨v, hv⟩ | hn
    ·rw [hv] at h ⊢; exact ih v m hself h
    ·exact (hn _ h).elim
   ·refine comm_LL HΓ h1 hx h2 (K := fun σ m => regI P Γ fr all (l ++ r) σ m K) ?_
    rw [gopK_L h2] at h ⊢
    rcases det_gval (all := all) (σ := σ) (o := y) (det_aload P fr σ m y) with ⟨v, hv⟩ | hn
    ·rw [hv] at h ⊢; exact ih v m hself h
    ·exact (hn _ h).elim
   ·refine comm_LN HΓ h1 hx h2 (K := fun σ m => regI P Γ fr all (l ++ r) σ m K) hlow ?_
    rcases new_gopK (P := P) (Γ := Γ) (fr := fr) (all := all) (σ := σ) h2 with ⟨v, xb, hv⟩ | ⟨v, hv⟩ | hn
    ·refine (hv m _).2 fun b hb => ?_
     exact ih (v b) _ (KeepsFr.set fr hb xb) ((hv m _).1 h b hb)
    ·exact (hv m _).2 (ih v m hself ((hv m _).1 h))
    ·exact (hn m _ h).elim
   ·cases fr with
    | none => cases hfr
    | some F =>
     refine comm_LC HΓ h1 hx h2 hfree (K := fun σ m => regI P Γ (some F) all (l ++ r) σ m K) hlow ?_
     rcases call_gopK HΓ (F := F) (all := all) (σ := σ) h2 hfree with ⟨G, HG, hv⟩ | ⟨v, hv⟩ | hn
     ·exact (hv m _).2 (HG.mono _ _ _ (fun v m1 h => ⟨h.1, ih v m1 (fun b hF hb => h.1 b hF hb) h.2⟩) ((hv m _).1 h))
     ·exact (hv m _).2 (ih v m hself ((hv m _).1 h))
     ·exact (hn m _ h).elim
theorem bubble_N {i : Nat} {x : Oper} (hi : all[i]? = some x) (hx : isN x.op = true) {r : List Nat} {K : (Nat → AV) → Mem → Prop} : ∀ (l : List Nat) (σ : Nat → AV) (m : Mem), (∀ j ∈ l, ∀ y, all[j]? = some y → y.apart all x = true ∧ (isP P y.op = true ∨ isL P y.op = true ∨ isN y.op = true ∨ (fr.isSome = true ∧ isCA y.op = true))) →
  regI P Γ fr all (l ++ i :: r) σ m K → gopK P Γ fr all σ m x fun u m' => regI P Γ fr all (l ++ r) (putA σ x.dst u) m' K
 | [], σ, m, hap, h => by simpa only [List.nil_append, regI, hi] using h
 | j :: l, σ, m, hap, h => by
  simp only [List.cons_append, regI] at h ⊢
  cases hj : all[j]? with
  | none =>
   rw [hj] at h
   exact bubble_N hi hx l σ m (fun j hj => hap j (by simp [hj])) h
  | some y =>
   rw [hj] at h
   dsimp only at h ⊢
   obtain ⟨h1, h2⟩ := hap j (by simp) y hj
   have ih : ∀ v m1, regI P Γ fr all (l ++ i :: r) (putA σ y.dst v) m1 K → gopK P Γ fr all (putA σ y.dst v) m1 x fun u m' => regI P Γ fr all (l ++ r) (putA (putA σ y.dst v) x.dst u) m' K := fun v m1 h => bubble_N hi hx l _ m1 (fun j hj => hap j (by simp [hj])) h
   have h' := (hon_gopK HΓ fr all σ m y).mono _ _ (fun v m1 h => ih v m1 h) h
   rcases h2 with h2 | h2 | h2 | ⟨hfr, h2⟩
   ·exact comm_P' HΓ h1 h2 (K := fun σ m => regI P Γ fr all (l ++ r) σ m K) h'
   ·exact comm_NL HΓ h1 hx h2 (K := fun σ m => regI P Γ fr all (l ++ r) σ m K) h'
   ·exact comm_NN HΓ h1 hx h2 (K := fun σ m => regI P Γ fr all (l ++ r) σ m K) h'
   ·cases fr with
    | none => cases hfr
    | some F => exact comm_NC HΓ h1 hx h2 (K := fun σ m => regI P Γ (some F) all (l ++ r) σ m K) h'
theorem bubble_C {i : Nat} {x : Oper} (hi : all[i]? = some x) (hx : isCA x.op = true) {r : List Nat} {K : (Nat → AV) → Mem → Prop} : ∀ (l : List Nat) (σ : Nat → AV) (m : Mem), (∀ j ∈ l, ∀ y, all[j]? = some y → y.apart all x = true ∧ (isP P y.op = true ∨ (fr.isSome = true ∧ isL P y.op = true ∧ freeS P all x = false))) →
  regI P Γ fr all (l ++ i :: r) σ m K → gopK P Γ fr all σ m x fun u m' => regI P Γ fr all (l ++ r) (putA σ x.dst u) m' K
 | [], σ, m, hap, h => by simpa only [List.nil_append, regI, hi] using h
 | j :: l, σ, m, hap, h => by
  simp only [List.cons_append, regI] at h ⊢
  cases hj : all[j]? with
  | none =>
   rw [hj] at h
   exact bubble_C hi hx l σ m (fun j hj => hap j (by simp [hj])) h
  | some y =>
   rw [hj] at h
   dsimp only at h ⊢
   obtain ⟨h1, h2⟩ := hap j (by simp) y hj
   have ih : ∀ v m1, regI P Γ fr all (l ++ i :: r) (putA σ y.dst v) m1 K → gopK P Γ fr all (putA σ y.dst v) m1 x fun u m' => regI P Γ fr all (l ++ r) (putA (putA σ y.dst v) x.dst u) m' K := fun v m1 h => bubble_C hi hx l _ m1 (fun j hj => hap j (by simp [hj])) h
   have h' := (hon_gopK HΓ fr all σ m y).mono _ _ (fun v m1 h => ih v m1 h) h
   rcases h2 with h2 | ⟨hfr, h2, hfree⟩
   ·exact comm_P' HΓ h1 h2 (K := fun σ m => regI P Γ fr all (l ++ r) σ m K) h'
   ·cases fr with
    | none => cases hfr
    | some F => exact comm_CL HΓ h1 hx hfree h2 (K := fun σ m => regI P Γ (some F) all (l ++ r) σ m K) h'
end
theorem calm_spec {P : Program} {fz : Bool} {all : Array Oper} (h : calmB P fz all = true) {i : Nat} {x : Oper} (hi : all[i]? = some x) :
  (∀ e ∈ x.after, Region.binds .any e = true → e.on < i) ∧ ∀ j y, j < i → all[j]? = some y →
   ((clo all i).testBit j = true → ∃ e ∈ x.after, Region.binds .any e = true ∧ (e.on = j ∨ (j < e.on ∧ (clo all e.on).testBit j = true))) ∧ ((clo all i).testBit j = false → pairB P fz all y x = true) := by
 unfold calmB at h
 rw [List.all_eq_true] at h
 have hlt : i < all.size := (Array.getElem?_eq_some_iff.1 hi).1
 have h1 := h i (List.mem_range.2 hlt)
 rw [hi] at h1
 simp only [Bool.and_eq_true, List.all_eq_true] at h1
 obtain ⟨h1, h2⟩ := h1
 refine ⟨fun e he hb => ?_, fun j y hj hy => ?_⟩
 ·have := Array.all_eq_true_iff_forall_mem.1 h1 e he
  simpa [hb] using this
 ·have h3 := h2 j (List.mem_range.2 hj)
  rw [hy] at h3
  dsimp only at h3
  split at h3
  ·rename_i hb
   refine ⟨fun _ => ?_, fun hb' => (by rw [hb] at hb'; cases hb')⟩
   rw [Array.any_eq_true] at h3
   obtain ⟨k, hk, h3⟩ := h3
   exact ⟨x.after[k], Array.getElem_mem hk, by simpa using h3⟩
  ·rename_i hb
   exact ⟨fun hb' => (by rw [hb] at hb'; cases hb'), fun _ => h3⟩
def Closed (all : Array Oper) (listed : Array Bool) : Prop := ∀ i x, all[i]? = some x → listed.getD i true = true → ∀ e ∈ x.after, Region.binds .any e = true → listed.getD e.on false = true
theorem clo_listed {P : Program} {fz : Bool} {all : Array Oper} (hc : calmB P fz all = true) {listed : Array Bool} (hs : listed.size = all.size) (hcl : Closed all listed) : ∀ (i : Nat) (x : Oper), all[i]? = some x → (∀ e ∈ x.after, Region.binds .any e = true → listed.getD e.on false = true) → ∀ j, j < i → (clo all i).testBit j = true → listed.getD j false = true := by
 intro i
 induction i using Nat.strongRecOn with
 | _ i ih =>
  intro x hi hx j hj hb
  obtain ⟨h1, h2⟩ := calm_spec hc hi
  have hjs : j < all.size := Nat.lt_trans hj (Array.getElem?_eq_some_iff.1 hi).1
  obtain ⟨e, he, hbe, he2⟩ := (h2 j all[j] hj (Array.getElem?_eq_getElem hjs)).1 hb
  have hon := hx e he hbe
  rcases he2 with rfl | ⟨hlt, he2⟩
  ·exact hon
  ·have hlt2 := h1 e he hbe
   have hes : e.on < all.size := Nat.lt_trans hlt2 (Array.getElem?_eq_some_iff.1 hi).1
   have hxe : all[e.on]? = some all[e.on] := Array.getElem?_eq_getElem hes
   exact ih e.on hlt2 _ hxe (hcl e.on _ hxe (by simpa [Array.getD, hs, hes] using hon)) j hlt he2
def rest (all : Array Oper) (listed : Array Bool) : List Nat := (List.range all.size).filter fun i => !listed.getD i true
theorem rest_split {all : Array Oper} {listed : Array Bool} (hs : listed.size = all.size) {i : Nat} (hi : i < all.size) (hl : listed.getD i true = false) :
  ∃ l r, rest all listed = l ++ i :: r ∧ rest all (listed.setIfInBounds i true) = l ++ r ∧ ∀ j ∈ l, j < i ∧ listed.getD j true = false := by
 have hmem : i ∈ rest all listed := by
  unfold rest
  rw [List.mem_filter]
  exact ⟨List.mem_range.2 hi, by simp only [hl]; rfl⟩
 obtain ⟨l, r, e⟩ := List.append_of_mem hmem
 have hpw : (rest all listed).Pairwise (· < ·) := List.Pairwise.filter _ List.pairwise_lt_range
 rw [e, List.pairwise_append] at hpw
 obtain ⟨_, hp2, hp3⟩ := hpw
 rw [List.pairwise_cons] at hp2
 refine ⟨l, r, e, ?_, fun j hj => ⟨hp3 j hj i (by simp), ?_⟩⟩
 ·have e2 : rest all (listed.setIfInBounds i true) = (rest all listed).filter fun j => decide (j ≠ i) := by
   unfold rest
   rw [List.filter_filter]
   apply List.filter_congr
   intro j hj
   by_cases c : j = i
   ·subst c
    have : j < listed.size := by omega
    simp [Array.getD, this]
   ·rw [getD_set_ne true (Ne.symm c)]; simp [c]
  rw [e2, e, List.filter_append, List.filter_cons]
  rw [if_neg (by simp)]
  rw [List.filter_eq_self.2, List.filter_eq_self.2]
  ·intro j hj; have := hp2.1 j hj; simp; omega
  ·intro j hj; have := hp3 j hj i (by simp); simp; omega
 ·have : j ∈ rest all listed := by rw [e]; simp [hj]
  unfold rest at this
  rw [List.mem_filter] at this
  have h2 := this.2
  simpa only [Bool.not_eq_true'] using h2
section
variable {P : Program} {w0 : World} {Γ : Env} (HΓ : Sound P w0 Γ) {fr : Option (Nat → Prop)} {all : Array Oper}
include HΓ
theorem any_ok (hc : calmB P fr.isSome all = true) {n : Nat} (hok : ∀ o ∈ all.toList, ∀ d, o.dst = some d → d < n) {Q : Exit → Act → World → Prop} {k : (Nat → AV) → Mem → Prop} {g0 : Gh}
  (hk : ∀ σ' m' g' a' w', Ext g0 g' → SR g' σ' a' n → R w0 g' m' w' → k σ' m' → Q .normal a' w') :
  ∀ (fuel : Nat) (listed : Array Bool) (σ : Nat → AV) (m : Mem) (g : Gh) (a : Act) (w : World), (rest all listed).length = fuel → listed.size = all.size → Closed all listed → Ext g0 g → SR g σ a n → R w0 g m w → regI P Γ fr all (rest all listed) σ m k → wpAny P .any all Q fuel listed a w := by
 intro fuel
 induction fuel with
 | zero =>
  intro listed σ m g a w hf hs hcl E S HR h
  have e : rest all listed = [] := List.length_eq_zero_iff.1 hf
  rw [e] at h
  refine ⟨?_, hk σ m g a w E S HR h⟩
  apply List.eq_nil_iff_forall_not_mem.2
  intro i hi
  obtain ⟨hl, o, ho, _⟩ := mem_ready.1 hi
  have : i ∈ rest all listed := by
   unfold rest; rw [List.mem_filter]
   exact ⟨List.mem_range.2 (Array.getElem?_eq_some_iff.1 ho).1, by simp only [hl]; rfl⟩
  rw [e] at this
  cases this
 | succ fuel ih =>
  intro listed σ m g a w hf hs hcl E S HR h
  refine ⟨fun hr => ?_, fun i hi => ?_⟩
  · -- the first that isn't listed is ready
   exfalso
   cases e : rest all listed with
   | nil => rw [e] at hf; cases hf
   | cons i r =>
    have hmem : i ∈ rest all listed := by rw [e]; simp
    have hm2 := hmem
    unfold rest at hm2
    rw [List.mem_filter] at hm2
    have hlt := List.mem_range.1 hm2.1
    have hx : all[i]? = some all[i] := Array.getElem?_eq_getElem hlt
    have hready : i ∈ Region.ready .any all listed := by
     rw [mem_ready]
     refine ⟨by simpa only [Bool.not_eq_true'] using hm2.2, _, hx, fun ed he hb => ?_⟩
     have hon := (calm_spec hc hx).1 ed he hb
     by_cases hl : listed.getD ed.on true = true
     ·have : ed.on < listed.size := by omega
      simpa [Array.getD, this] using hl
     ·exfalso
      have hin : ed.on ∈ rest all listed := by
       unfold rest; rw [List.mem_filter]
       exact ⟨List.mem_range.2 (by omega), by simp only [Bool.not_eq_true] at hl; rw [hl]; rfl⟩
      have hpw : (rest all listed).Pairwise (· < ·) := List.Pairwise.filter _ List.pairwise_lt_range
      rw [e] at hpw hin
      rw [List.pairwise_cons] at hpw
      rcases List.mem_cons.1 hin with h1 | h1
      ·omega
      ·have := hpw.1 _ h1; omega
    rw [hr] at hready
    cases hready
  ·obtain ⟨hl, x, hx, hall⟩ := mem_ready.1 hi
   have hlt := (Array.getElem?_eq_some_iff.1 hx).1
   obtain ⟨l, r, e1, e2, e3⟩ := rest_split hs hlt hl
   have hpair : ∀ j ∈ l, ∀ y, all[j]? = some y → pairB P fr.isSome all y x = true := fun j hj y hy => by
    obtain ⟨hji, hjl⟩ := e3 j hj
    refine ((calm_spec hc hx).2 j y hji hy).2 ?_
    cases hb : (clo all i).testBit j with
    | false => rfl
    | true =>
     exfalso
     have := clo_listed hc hs hcl i x hx hall j hji hb
     have hj2 : j < listed.size := by omega
     simp [Array.getD, hj2] at this hjl
     rw [this] at hjl
     cases hjl
   rw [e1] at h
   have hgop : gopK P Γ fr all σ m x fun u m' => regI P Γ fr all (l ++ r) (putA σ x.dst u) m' k := by
    have hpr : ∀ j ∈ l, ∀ (y : Oper), all[j]? = some y → _ := fun j hj y hy => (by have := hpair j hj y hy; unfold pairB at this; simpa only [Bool.and_eq_true, Bool.or_eq_true, Bool.not_eq_true'] using this : y.apart all x = true ∧ (((isP P y.op = true ∨ isP P x.op = true) ∨ ((isL P y.op = true ∨ isN y.op = true) ∧ (isL P x.op = true ∨ isN x.op = true))) ∨ (fr.isSome = true ∧ ((isCA y.op = true ∧ ((isL P x.op = true ∧ freeS P all y = false) ∨ isN x.op = true)) ∨ ((isL P y.op = true ∧ isCA x.op = true) ∧ freeS P all x = false)))))
    by_cases hP : isP P x.op = true
    ·exact bubble_P HΓ hx hP l σ m (fun j hj y hy => (hpr j hj y hy).1) h
    ·by_cases hL : isL P x.op = true
     ·have hNC : isCA x.op = false := by
       obtain ⟨dst, op, ty, pos, after, guard⟩ := x
       cases op with
       | call c =>
        obtain ⟨callee, args, argTypes⟩ := c
        cases callee with
        | builtin b => cases b <;> first | rfl | (simp [isL, clsOf] at hL; done)
        | _ => first | rfl | (simp [isL, clsOf] at hL; done)
       | store t a v => simp [isL, clsOf] at hL
       | _ => rfl
      refine bubble_L HΓ hx hL l σ m (fun j hj y hy => ?_) ?_ h
      ·obtain ⟨h0, (h1 | h1) | ⟨hf, h1 | h1⟩⟩ := hpr j hj y hy
       ·exact ⟨h0, h1.elim .inl fun h => (hP h).elim⟩
       ·exact ⟨h0, h1.1.elim (fun h => .inr (.inl h)) fun h => .inr (.inr (.inl h))⟩
       ·refine ⟨h0, .inr (.inr (.inr ⟨hf, h1.1, h1.2.elim (fun h => h.2) fun h => ?_⟩))⟩
        exfalso
        obtain ⟨dst, op, ty, pos, after, guard⟩ := x
        cases op <;> first | (simp [isN] at h; done) | (simp [isL, clsOf] at hL; done)
       ·rw [hNC] at h1; cases h1.1.2
      ·intro z hz b e _
       have he := S.eval z
       generalize aval σ z = zv at e he
       cases zv <;> first | exact e.elim | skip
       ·have e : _ = b := e
        subst e; exact (HR.dom _).1 he.1.1
       ·have e : _ = b := e
        subst e; exact (HR.dom _).1 he.1.1
       ·have e : _ = b := e
        subst e; exact (HR.dom _).1 he.1.1
     ·by_cases hN : isN x.op = true
      ·have hNC : isCA x.op = false := by
        obtain ⟨dst, op, ty, pos, after, guard⟩ := x
        cases op <;> first | rfl | (simp [isN] at hN; done)
       refine bubble_N HΓ hx hN l σ m (fun j hj y hy => ?_) h
       obtain ⟨h0, (h1 | h1) | ⟨hf, h1 | h1⟩⟩ := hpr j hj y hy
       ·exact ⟨h0, h1.elim .inl fun h => (hP h).elim⟩
       ·exact ⟨h0, h1.1.elim (fun h => .inr (.inl h)) fun h => .inr (.inr (.inl h))⟩
       ·exact ⟨h0, .inr (.inr (.inr ⟨hf, h1.1⟩))⟩
       ·rw [hNC] at h1; cases h1.1.2
      ·by_cases hC : isCA x.op = true
       ·refine bubble_C HΓ hx hC l σ m (fun j hj y hy => ?_) h
        obtain ⟨h0, (h1 | h1) | ⟨hf, h1 | h1⟩⟩ := hpr j hj y hy
        ·exact ⟨h0, h1.elim .inl fun h => (hP h).elim⟩
        ·exact (h1.2.elim hL hN).elim
        ·exact (h1.2.elim (fun h => hL h.1) hN).elim
        ·exact ⟨h0, .inr ⟨hf, h1.1.1, h1.2⟩⟩
       ·refine bubble_P' HΓ hx l σ m (fun j hj y hy => ?_) h
        obtain ⟨h0, (h1 | h1) | ⟨hf, h1 | h1⟩⟩ := hpr j hj y hy
        ·exact ⟨h0, h1.elim id fun h => (hP h).elim⟩
        ·exact (h1.2.elim hL hN).elim
        ·exact (h1.2.elim (fun h => hL h.1) hN).elim
        ·exact (hC h1.1.2).elim
   refine gopK_ok HΓ hx S HR hgop fun v v' g' m' w' E' hv HR' h' => ?_
   refine ih _ (putA σ x.dst v) m' g' (a.put x.dst v') w' ?_ (by simp [hs]) ?_ (E.trans E') ?_ HR' (by rw [e2]; exact h')
   ·rw [e2]; rw [e1] at hf; simp at hf ⊢; omega
   ·intro i2 x2 hx2 hl2 ed he hb
    by_cases c : i2 = i
    ·subst c
     rw [hx] at hx2
     cases hx2
     exact getD_set_true (hall ed he hb)
    ·rw [getD_set_ne true (Ne.symm c)] at hl2
     exact getD_set_true (hcl i2 x2 hx2 hl2 ed he hb)
   ·refine SR.put (S.ext HR.wf E') hv (hok x ?_)
    exact List.mem_of_getElem? (by simpa using hx)
theorem region_ok (hm : P.follows .mixedOrders = true) {id n : Nat} {draw : Bool} (hc : draw = true → calmB P fr.isSome all = true) (hok : ∀ o ∈ all.toList, ∀ d, o.dst = some d → d < n) {Q : Exit → Act → World → Prop} {k : (Nat → AV) → Mem → Prop} {g : Gh}
  (hk : ∀ σ' m' g' a' w', Ext g g' → SR g' σ' a' n → R w0 g' m' w' → k σ' m' → Q .normal a' w') {σ : Nat → AV} {m : Mem} {a : Act} {w : World} (S : SR g σ a n) (HR : R w0 g m w) (h : regK P Γ fr all all.toList σ m k) : (Code.region id all draw).wp P Q a w := by
 cases draw with
 | false =>
  refine wp_region ?_
  have := regK_ok HΓ (all := all) hok hk all.toList 0 (by simp) σ m g a w (Ext.refl g) S HR h
  simpa [List.range_eq_range'] using this
 | true =>
  refine wp_region_any hm ?_
  have hfil : rest all (Array.replicate all.size false) = List.range all.size := by
   unfold rest
   apply List.filter_eq_self.2
   intro i hi
   have := List.mem_range.1 hi
   simp [Array.getD, this]
  refine any_ok HΓ (hc rfl) hok hk all.size _ σ m g a _ (by rw [hfil]; simp) (by simp) ?_ (Ext.refl g) S (HR.drew _) ?_
  ·intro i x hx hl
   have hlt := (Array.getElem?_eq_some_iff.1 hx).1
   simp [Array.getD, hlt] at hl
  ·rw [hfil]
   have := regI_of HΓ all.toList 0 (by simp) σ m h
   simpa [List.range_eq_range'] using this
end
end Go.Proofs.YtkiggdgphbkneaaGreat.Am
