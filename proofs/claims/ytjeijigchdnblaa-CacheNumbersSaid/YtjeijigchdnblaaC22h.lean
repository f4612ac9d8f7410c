/- Rows of one's own: an element taken out into a new row, the first one left out, one put behind. Conditions: rows are short. -/
import Derived.Test.YtjeijigchdnblaaC22g
namespace Go.Proofs.Ytjeijigchdnblaa.Am
set_option linter.unusedVariables false
set_option linter.unusedSimpArgs false
set_option maxRecDepth 100000

def IsX {α : Type} (R : (Nat → AV) → α → Prop) (m : Mem) (esz : Nat) (v : AV) (xs : List α) : Prop := ∃ c, IsL m esz v xs.length c ∧ ∀ i, (h : i < xs.length) → R (fun j => c (i * esz + j)) xs[i]
def RC {α : Type} (R : (Nat → AV) → α → Prop) (esz : Nat) : Prop := ∀ c d x, (∀ j, j < esz → d j = c j) → R c x → R d x
theorem keyRC : RC KeyC 3 := fun c d x e h => h.congr e
def TagC (c : Nat → AV) (t : Int) : Prop := c 0 = .flat (.int .u32 t)
theorem tagRC : RC TagC 1 := fun c d x e h => (e 0 (by decide)).trans h
theorem isK_x {m : Mem} {v : AV} {ks : List Key} : IsK m v ks ↔ IsX KeyC m 3 v ks := Iff.rfl
section
variable {α : Type} {R : (Nat → AV) → α → Prop} {m : Mem} {esz : Nat} {v : AV} {xs : List α}
theorem IsX.fr {m' : Mem} {S : Nat → Prop} (h : IsX R m esz v xs) (F : Fr S m m') (hs : ∀ b, own v b → ¬ S b) : IsX R m' esz v xs := by
  obtain ⟨c, h1, h2⟩ := h; exact ⟨c, h1.fr F hs, h2⟩
theorem IsX.keep {m' : Mem} (h : IsX R m esz v xs) (K : Keeps m m') : IsX R m' esz v xs := by
  obtain ⟨c, h1, h2⟩ := h; exact ⟨c, h1.keep K, h2⟩
theorem IsX.len (h : IsX R m esz v xs) (k : Int → Prop) : klen v k = k (xs.length : Int) := by
  obtain ⟨c, h1, h2⟩ := h; exact klen_r h1.r k
theorem IsX.live (h : IsX R m esz v xs) {b : Nat} (hb : own v b) : m.obj b ≠ none := by
  obtain ⟨c, h1, h2⟩ := h; exact h1.live hb
theorem IsX.nil : IsX R m esz (.flat (.slice none 0 0)) ([] : List α) := ⟨fun _ => .junk, .nil none _, fun i h => by simp at h⟩
theorem getElem_cast {l l' : List α} (e : l = l') {i : Nat} (h : i < l.length) : l[i] = l'[i]'(e ▸ h) := by subst e; rfl
/-- an element is put behind -/
theorem add_x (hR : RC R esz) {bytes : Nat} {t e : TypeId} {q : Nat} {d : Nat → AV} {x : α} (h : IsX R m esz v xs) (hl : xs.length ≤ 1000) (hby : bytes ≤ 1000) (hq : q = esz) (hd : R d x) {k : AV → Mem → Prop}
    (hk : ∀ v' m', IsX R m' esz v' (xs ++ [x]) → Fr (own v) m m' → (∀ y, own v' y → own v y ∨ m.obj y = none) → k v' m') : newK m ⟨q, d, t, false⟩ fun b m1 => appS esz bytes e v (.sl b 0 1 (.ex 1)) m1 fun v' m' => k v' m' := by
  obtain ⟨c, hL, hC⟩ := h
  have hb : (xs.length + 1) * (bytes + 1) ≤ 1001 * 1001 := Nat.mul_le_mul (by omega) (by omega)
  refine appN (c := fun z => if z < xs.length * esz then c z else d (z - xs.length * esz)) (n' := 1) (hL.congr fun i hi => (if_pos hi).symm) (by omega) (fun i hi => by rw [if_neg (by omega)]; congr 1; omega) (by omega) fun v' m2 g2 F2 o2 => hk v' m2 ⟨_, by rw [List.length_append]; exact g2, fun i hi => ?_⟩ F2 o2
  rw [List.length_append] at hi
  simp only [List.length_singleton] at hi
  by_cases c1 : i = xs.length
  · subst c1
    rw [List.getElem_append_right (Nat.le_refl _)]
    simp only [Nat.sub_self, List.getElem_cons_zero]
    refine hR _ _ _ (fun j hj => ?_) hd
    rw [if_neg (by omega)]; congr 1; omega
  · rw [List.getElem_append_left (by omega)]
    refine hR _ _ _ (fun j hj => ?_) (hC i (by omega))
    try dsimp only
    have := Nat.mul_le_mul_right esz (show i + 1 ≤ xs.length by omega)
    rw [Nat.add_mul] at this
    rw [if_pos (by omega)]
/-- a part from lo on, into a new row -/
theorem tail_x (hR : RC R esz) {bytes : Nat} {t e : TypeId} (h : IsX R m esz v xs) (hl : xs.length ≤ 1000) (hby : bytes ≤ 1000) (hn : 0 < xs.length) {F : Nat → Prop} (hF : ∀ x, F x → m.obj x ≠ none) {k : AV → Mem → Prop}
    (hk : ∀ v' m', IsX R m' esz v' xs.tail → Keeps m m' → (∀ y, own v' y → m.obj y = none) → k v' m') : newK m ⟨0, lget [], t, false⟩ fun b m1 => slS esz v (some 1) none fun v2 => appS esz bytes e (.sl b 0 0 (.ex 0)) v2 m1 fun v3 m3 => KeepsIn F m1 m3 ∧ (k v3 m3) := by
  obtain ⟨c, hL, hC⟩ := h
  refine newK_i fun b m1 hb K1 e1 O1 => slS_s (hL.keep K1).s (l := 1) (u := xs.length) (by simp [optI]) (by simp [optI]) (by omega) (Nat.le_refl _) fun v2 s2 o2 => ?_
  have hb2 : (0 + (xs.length - 1)) * (bytes + 1) ≤ 1001 * 1001 := Nat.mul_le_mul (by omega) (by omega)
  refine appL (n := 0) (c := fun _ => .junk) (IsL.row e1 (by simp) rfl) s2.r (by omega) fun v3 m3 g3 F3 o3 => ⟨fun x hx hx2 => F3 x hx2 fun e => ?_, hk v3 m3 ⟨_, by rw [Nat.zero_add] at g3; rw [List.length_tail]; exact g3, fun i hi => ?_⟩ (Fr.keeps K1 F3 fun x e => by cases e; exact hb) fun y hy => ?_⟩
  · cases e; exact hF b hx hb
  · rw [List.length_tail] at hi
    rw [List.getElem_tail]
    refine hR _ _ _ (fun j hj => ?_) (hC (i + 1) (by omega))
    try dsimp only
    unfold cat
    rw [if_neg (by simp only [Nat.zero_mul]; omega)]
    refine congrArg c ?_
    simp only [Nat.zero_mul, Nat.one_mul, Nat.add_mul]; omega
  · rcases o3 y hy with h1 | h1
    · cases h1; exact hb
    · exact newK_none K1 h1
/-- an element left out, into a new row -/
theorem erase_x (hR : RC R esz) {bytes : Nat} {t e : TypeId} {i0 : Nat} {i1 : Int} (h : IsX R m esz v xs) (hl : xs.length ≤ 1000) (hby : bytes ≤ 1000) (hn : i0 < xs.length) (e1 : i1 = (i0 : Int) + 1) {F : Nat → Prop} (hF : ∀ x, F x → m.obj x ≠ none) {k : AV → Mem → Prop}
    (hk : ∀ v' m', IsX R m' esz v' (xs.eraseIdx i0) → Keeps m m' → (∀ y, own v' y → m.obj y = none) → k v' m') : newK m ⟨0, lget [], t, false⟩ fun b m1 => slS esz v none (some (i0 : Int)) fun v2 => appS esz bytes e (.sl b 0 0 (.ex 0)) v2 m1 fun v3 m3 => KeepsIn F m1 m3 ∧ (slS esz v (some i1) none fun v4 => appS esz bytes e v3 v4 m3 fun v5 m5 => KeepsIn F m3 m5 ∧ (k v5 m5)) := by
  subst e1
  obtain ⟨c, hL, hC⟩ := h
  refine newK_i fun b m1 hb K1 e1 O1 => slS_s (hL.keep K1).s (l := 0) (u := i0) (by simp [optI]) (by simp [optI]) (by omega) (by omega) fun v2 s2 o2 => ?_
  have hb2 : (0 + (i0 - 0)) * (bytes + 1) ≤ 1001 * 1001 := Nat.mul_le_mul (by omega) (by omega)
  refine appL (n := 0) (c := fun _ => .junk) (IsL.row e1 (by simp) rfl) s2.r (by omega) fun v3 m3 g3 F3 o3 => ⟨fun x hx hx2 => F3 x hx2 fun e => ?_, ?_⟩
  · cases e; exact hF b hx hb
  have K3 : Keeps m m3 := Fr.keeps K1 F3 fun x e => by cases e; exact hb
  have f3 : ∀ y, own v3 y → m.obj y = none := fun y hy => by
    rcases o3 y hy with h1 | h1
    · cases h1; exact hb
    · exact newK_none K1 h1
  refine slS_s (hL.keep K3).s (l := i0 + 1) (u := xs.length) (by simp [optI]) (by simp [optI]) (by omega) (Nat.le_refl _) fun v4 s4 o4 => ?_
  have hb4 : (0 + (i0 - 0) + (xs.length - (i0 + 1))) * (bytes + 1) ≤ 1001 * 1001 := Nat.mul_le_mul (by omega) (by omega)
  refine appL g3 s4.r (by omega) fun v5 m5 g5 F5 o5 => ⟨fun x hx hx2 => F5 x hx2 fun e => hF x hx (f3 x e), hk v5 m5 ⟨_, by rw [show (xs.eraseIdx i0).length = 0 + (i0 - 0) + (xs.length - (i0 + 1)) by rw [List.length_eraseIdx, if_pos hn]; omega]; exact g5, fun i hi => ?_⟩ (Fr.keeps K3 F5 f3) fun y hy => ?_⟩
  · have hlen : (xs.eraseIdx i0).length = xs.length - 1 := by rw [List.length_eraseIdx, if_pos hn]
    rw [List.getElem_eraseIdx]
    have ez : (0 + (i0 - 0)) * esz = i0 * esz := by rw [Nat.zero_add, Nat.sub_zero]
    have p1 : i < i0 → i * esz + esz ≤ i0 * esz := fun h => by
      have := Nat.mul_le_mul_right esz (show i + 1 ≤ i0 by omega)
      rw [Nat.add_mul] at this; omega
    have p2 : ¬ i < i0 → i0 * esz ≤ i * esz := fun h => Nat.mul_le_mul_right esz (by omega)
    by_cases c1 : i < i0
    · rw [dif_pos c1]
      refine hR _ _ _ (fun j hj => ?_) (hC i (by omega))
      have := p1 c1
      try dsimp only
      unfold cat
      rw [ez, if_pos (by omega), if_neg (by simp only [Nat.zero_mul]; omega)]
      refine congrArg c ?_
      simp only [Nat.zero_mul]; omega
    · rw [dif_neg c1]
      refine hR _ _ _ (fun j hj => ?_) (hC (i + 1) (by omega))
      have := p2 c1
      try dsimp only
      unfold cat
      rw [ez, if_neg (by omega)]
      refine congrArg c ?_
      simp only [Nat.add_mul, Nat.one_mul]; omega
  · rcases o5 y hy with h1 | h1
    · exact f3 y h1
    · exact newK_none K3 h1
end
end Go.Proofs.Ytjeijigchdnblaa.Am
