/- Law 22's play: a round's parts. Conditions: none of its own. -/
import Derived.Test.YtjeijigchdnblaaC22i
namespace Go.Proofs.Ytjeijigchdnblaa.Am
set_option linter.unusedVariables false
set_option linter.unusedSimpArgs false
set_option maxRecDepth 100000

theorem map_erase {α β : Type} (f : α → β) : ∀ (l : List α) (i : Nat), (l.eraseIdx i).map f = (l.map f).eraseIdx i
  | [], _ => rfl
  | _ :: _, 0 => rfl
  | x :: l, i + 1 => by simp [map_erase f l i]
structure AskC (c : Nat → AV) (kd pgv : Int) : Prop where
  h0 : c 0 = .flat (.int .i64 kd)
  h1 : ∃ x, c 1 = .flat (.int .i64 x) ∧ -9223372036854775808 ≤ x ∧ x < 9223372036854775808
  h2 : ∃ x, c 2 = .flat (.int .i64 x) ∧ -9223372036854775808 ≤ x ∧ x < 9223372036854775808
  h3 : c 3 = .flat (.int .i64 pgv) ∧ -9223372036854775808 ≤ pgv ∧ pgv < 9223372036854775808
  h4 : ∃ x, c 4 = .flat (.int .u32 x) ∧ isU x
theorem AskC.congr {c d : Nat → AV} {kd pgv : Int} (h : AskC c kd pgv) (e : ∀ j, j < 5 → d j = c j) : AskC d kd pgv := by
  obtain ⟨h0, ⟨x1, e1, r1⟩, ⟨x2, e2, r2⟩, h3, ⟨x4, e4, r4⟩⟩ := h
  exact ⟨(e 0 (by decide)).trans h0, ⟨x1, (e 1 (by decide)).trans e1, r1⟩, ⟨x2, (e 2 (by decide)).trans e2, r2⟩, ⟨(e 3 (by decide)).trans h3.1, h3.2⟩, ⟨x4, (e 4 (by decide)).trans e4, r4⟩⟩
section
variable {m0 m : Mem} {b : Nat} {n : Int} {L : List Ent} {S : Nat → Prop} {v7 v8 : AV}
theorem key22 {c : Nat → AV} {kd pgv : Int} (h : AskC c kd pgv) {k : (Nat → AV) → Mem → Prop} (hk : ∀ c key, KeyC c key → isU key.a → k c m) : F22 c m k := by
  obtain ⟨h0, ⟨x1, e1, r1⟩, ⟨x2, e2, r2⟩, h3, ⟨x4, e4, r4⟩⟩ := h
  unfold F22
  refine newK_i fun b2 m1 hb2 K1 y1 O1 => newK_i fun b4 m3 hb4 K3 y3 O3 => ?_
  have y13 := (K3 b2 (by rw [y1]; simp)).trans y1
  refine ⟨fun x => x = b2, rfl, ?_⟩
  rw [ldI_of y13 (show (4 : Nat) < 5 by decide) e4]
  refine ⟨rfl, ?_⟩
  rw [ldI_of y13 (show (1 : Nat) < 5 by decide) e1]
  refine within22 (by decide) (by decide) (by decide) r1.1 r1.2 fun a a0 a1 => ⟨fun _ _ _ => rfl, rfl, ?_⟩
  rw [ldI_of y13 (show (2 : Nat) < 5 by decide) e2]
  refine within22 (by decide) (by decide) (by decide) r2.1 r2.2 fun o o0 o1 => ⟨fun _ _ _ => rfl, ?_⟩
  refine stG_i y3 rfl (show 0 + 3 ≤ 3 by omega) fun m13 e13 O13 => ?_
  rw [ldG_of e13 (show 0 + 3 ≤ 3 by omega)]
  have h4' := r4.1
  have eA : bits .andNot .u32 (IntKind.wrap .u32 ((x4.tmod 12) * 400)) 3 = x4 % 12 * 400 := by
    rw [tmod_nn h4', wrap32, not3 _ (by omega) (by omega)]; omega
  have hKc : KeyC (sub (splice (lget [(.flat (.int .u32 0)), (.flat (.int .i64 0)), (.flat (.int .i64 0))]) 0 3 (upd (upd (upd (lget [(.flat (.int .u32 0)), (.flat (.int .i64 0)), (.flat (.int .i64 0))]) 0 (.flat (.int .u32 (bits .andNot .u32 (IntKind.wrap .u32 ((x4.tmod 12) * 400)) 3)))) 1 (.flat (.int .i64 a))) 2 (.flat (.int .i64 (IntKind.wrap .i64 (1 + o)))))) 0 3) ⟨x4 % 12 * 400, a, IntKind.wrap .i64 (1 + o)⟩ := by
    rw [eA]; exact ⟨rfl, rfl, rfl⟩
  refine ⟨fun x hx => ?_, fun i hi => ?_, hk _ _ hKc (⟨by dsimp only; omega, by dsimp only; omega⟩ : isU _)⟩
  · have hx4 : x ≠ b4 := fun e => hx (by rw [e]; exact newK_none K1 hb4)
    have h1 : m1.obj x ≠ none := by rw [K1 x hx]; exact hx
    rw [O13 x hx4, K3 x h1, K1 x hx]
  · obtain ⟨q0, q1, q2⟩ := hKc
    match i, hi with
    | 0, _ => show AV.inDom m (sub _ 0 3 0); rw [q0]; trivial
    | 1, _ => show AV.inDom m (sub _ 0 3 1); rw [q1]; trivial
    | 2, _ => show AV.inDom m (sub _ 0 3 2); rw [q2]; trivial
def Fd (L : List Ent) (key : Key) (at' : Int) : Prop := (at' = -1 ∧ ∀ e ∈ L, e.1 ≠ key) ∨ ∃ t : Nat, ∃ h : t < L.length, at' = t ∧ L[t].1 = key
theorem find_loop {v1 v5 : AV} {x6 x9 : Int} {kb : Nat} {key : Key} (h : IsX KeyC m 3 v7 (keysE L)) (hl : L.length ≤ 1000) (hkb : KeyB m kb key) {k2 : Int → Mem → Prop} (hk : ∀ at', Fd L key at' → k2 at' m) : ∀ (j i : Nat) (x11 : Int), i + j = L.length → ((x11 = -1 ∧ ∀ t, (h : t < L.length) → t < i → L[t].1 ≠ key) ∨ ∃ t : Nat, ∃ h : t < L.length, x11 = t ∧ L[t].1 = key) → L16_13 v1 v5 x6 v7 v8 x9 kb 0 (j + 1) x11 i m k2
  | 0, i, x11, e, hf => by
    show R16_13 _ _ _ _ _ _ _ _ _ _ _ _ _
    unfold R16_13
    rw [h.len, List.length_map]
    refine kif_f (by simp; omega) (hk x11 ?_)
    rcases hf with ⟨h1, h2⟩ | h1
    · refine .inl ⟨h1, fun e he => ?_⟩
      obtain ⟨t, ht, rfl⟩ := List.getElem_of_mem he
      exact h2 t ht (by omega)
    · exact .inr h1
  | j + 1, i, x11, e, hf => by
    show R16_13 _ _ _ _ _ _ _ _ _ _ _ _ _
    unfold R16_13
    have hi : i < L.length := by omega
    rw [h.len, List.length_map, wrap64 (n := (i : Int) + 1) (by omega) (by omega)]
    have hK : IsK m v7 (keysE L) := h
    refine kif_t (by simp; omega) (hK.ld i (by rw [List.length_map]; exact hi) fun c24 h24 => hkb.lg fun c25 h25 => ?_)
    rw [List.getElem_map] at h24
    rw [geq_key h24 h25]
    refine kif_c _ (fun c => find_loop h hl hkb hk j (i + 1) _ (by omega) (.inr ⟨i, hi, rfl, of_decide_eq_true c⟩)) fun c => find_loop h hl hkb hk j (i + 1) _ (by omega) ?_
    have c := of_decide_eq_false c
    rcases hf with ⟨h1, h2⟩ | h1
    · refine .inl ⟨h1, fun t ht hlt => ?_⟩
      by_cases e1 : t = i
      · subst e1; exact c
      · exact h2 t ht (by omega)
    · exact .inr h1
/-- an element is put behind; blocks F are as they were -/
theorem add_xF {α : Type} {R : (Nat → AV) → α → Prop} {esz : Nat} {v : AV} {xs : List α} (hR : RC R esz) {bytes : Nat} {t e : TypeId} {q : Nat} {d : Nat → AV} {x : α} (h : IsX R m esz v xs) (hl : xs.length ≤ 1000) (hby : bytes ≤ 1000) (hq : q = esz) (hd : R d x) {F : Nat → Prop} (hF : ∀ x, F x → m.obj x ≠ none ∧ ¬ own v x) {k : AV → Mem → Prop}
    (hk : ∀ v' m', IsX R m' esz v' (xs ++ [x]) → Fr (own v) m m' → (∀ y, own v' y → own v y ∨ m.obj y = none) → k v' m') : newK m ⟨q, d, t, false⟩ fun b m1 => appS esz bytes e v (.sl b 0 1 (.ex 1)) m1 fun v' m' => KeepsIn F m1 m' ∧ (k v' m') := by
  obtain ⟨c, hL, hC⟩ := h
  have hb : (xs.length + 1) * (bytes + 1) ≤ 1001 * 1001 := Nat.mul_le_mul (by omega) (by omega)
  refine newK_i fun b m1 hb1 K e1 O => appG (n' := 1) (c := fun z => if z < xs.length * esz then c z else d (z - xs.length * esz)) ((hL.congr fun i hi => (if_pos hi).symm).keep K) (IsL.row (esz := esz) e1 (by show q = 1 * esz; omega) rfl).r (fun i hi => by rw [if_neg (by omega)]; refine congrArg d ?_; omega) (by omega) fun v' m2 g2 F2 o2 => ⟨fun x hx hx2 => F2 x hx2 (hF x hx).2, hk v' m2 ⟨_, by rw [List.length_append]; exact g2, fun i hi => ?_⟩ (fun x hx ho => by rw [F2 x (by rw [K x hx]; exact hx) ho, K x hx]) fun y hy => (o2 y hy).imp id (newK_none K)⟩
  rw [List.length_append] at hi
  simp only [List.length_singleton] at hi
  by_cases c1 : i = xs.length
  · subst c1
    rw [List.getElem_append_right (Nat.le_refl _)]
    simp only [Nat.sub_self, List.getElem_cons_zero]
    refine hR _ _ _ (fun j hj => ?_) hd
    rw [if_neg (by omega)]; refine congrArg d ?_; omega
  · rw [List.getElem_append_left (by omega)]
    refine hR _ _ _ (fun j hj => ?_) (hC i (by omega))
    have := Nat.mul_le_mul_right esz (show i + 1 ≤ xs.length by omega)
    rw [Nat.add_mul] at this
    rw [if_pos (by omega)]
theorem tag_ld (h : IsX TagC m 1 v8 (tagsE L)) {t : Nat} (ht : t < L.length) {k : Int → Prop} (hk : k L[t].2.2) :
    ksl v8 fun b o l p => kif (decide (0 ≤ (t : Int)) && decide ((t : Int) < l)) (ldI .u32 m b (o + (t : Int).toNat * 1) k) False := by
  obtain ⟨c, hL, hC⟩ := h
  have hc : c t = .flat (.int .u32 L[t].2.2) := by
    have := hC t (by rw [List.length_map]; exact ht)
    rw [List.getElem_map] at this
    have this : c (t * 1 + 0) = _ := this
    rw [Nat.mul_one, Nat.add_zero] at this; exact this
  exact ldI_r (k := fun _ _ x => k x) hL.r (by omega) (by rw [List.length_map]; omega) (by rw [Int.toNat_natCast]; exact hc) fun _ _ _ => hk
/-- the entry that was used stands behind the others -/
theorem used22 {l : List (Key × Val)} (h : Mid m0 m b n l L S v7 v8) (hl : L.length ≤ 900) {kb : Nat} {t : Nat} (ht : t < L.length) (hkb : KeyB m kb L[t].1) (hl2 : l = (L.eraseIdx t ++ [L[t]]).map kv) {v1 v5 : AV} {x6 x9 : Int} {kn : AV → AV → Mem → Prop}
    (hk : ∀ v7' v8' m', Pl m0 m' b n (L.eraseIdx t ++ [L[t]]) S v7' v8' → kn v7' v8' m') : P16_29102 v1 v5 x6 v7 v8 x9 kb 0 t true m kn := by
  unfold P16_29102
  refine kif_t rfl (tag_ld h.T ht ⟨fun x => x = kb, ?_⟩)
  have w1 : IntKind.wrap .i64 ((t : Int) + 1) = (t : Int) + 1 := wrap64 (by omega) (by omega)
  have ek : ∀ (xs : List Ent), keysE (xs.eraseIdx t) = (keysE xs).eraseIdx t := fun xs => map_erase _ _ _
  have et : ∀ (xs : List Ent), tagsE (xs.eraseIdx t) = (tagsE xs).eraseIdx t := fun xs => map_erase _ _ _
  refine erase_x keyRC h.K (by rw [List.length_map]; omega) (by decide) (by rw [List.length_map]; exact ht) w1 (fun x e => by subst e; exact hkb.live) fun v71 m2 g2 K2 o2 => ⟨rfl, ?_⟩
  have hkb2 := hkb.keep K2
  refine hkb2.lg fun c73 h73 => add_xF keyRC g2 (by rw [List.length_eraseIdx, List.length_map]; split <;> omega) (by decide) rfl (x := L[t].1) (h73.congr fun j hj => ?_) (fun x e => by subst e; exact ⟨hkb2.live, fun hx => hkb.live (o2 _ hx)⟩) fun v76 m3 g3 F3 o3 => ?_
  · unfold splice; rw [if_pos (by omega)]; refine congrArg c73 ?_; omega
  have K3 : Keeps m m3 := Fr.keeps K2 F3 o2
  have o3' : ∀ y, own v76 y → m.obj y = none := fun y hy => (o3 y hy).elim (o2 y) (newK_none K2)
  have hkb3 := hkb.keep K3
  refine erase_x tagRC (h.T.keep K3) (by rw [List.length_map]; omega) (by decide) (by rw [List.length_map]; exact ht) w1 (fun x e => by subst e; exact hkb3.live) fun v84 m4 g4 K4 o4 => ?_
  have hkb4 := hkb3.keep K4
  refine add_xF tagRC g4 (by rw [List.length_eraseIdx, List.length_map]; split <;> omega) (by decide) rfl (x := L[t].2.2) ?_ (fun x e => by subst e; exact ⟨hkb4.live, fun hx => hkb3.live (o4 _ hx)⟩) fun v88 m5 g5 F5 o5 => hk v76 v88 m5 ?_
  · exact upd_eq _ _ _
  have K5 : Keeps m3 m5 := Fr.keeps K4 F5 o4
  have o5' : ∀ y, own v88 y → m3.obj y = none := fun y hy => (o5 y hy).elim (o4 y) (newK_none K4)
  have hm := h.rows (L' := L.eraseIdx t ++ [L[t]]) (v7' := v76) (v8' := v88) (m1 := m3) (m2 := m5) (fun e he => by
    rcases List.mem_append.1 he with h1 | h1
    · exact List.mem_of_mem_eraseIdx h1
    · simp only [List.mem_singleton] at h1; subst h1; exact List.getElem_mem ht) K3 (by unfold keysE; rw [List.map_append, map_erase]; exact g3) o3' K5 (by unfold tagsE; rw [List.map_append, map_erase]; exact g5) o5'
  exact ⟨by rw [← hl2]; exact hm.C, hm.K, hm.T, hm.W, hm.d7, hm.d8, hm.d78, hm.O, hm.f7, hm.f8⟩
end
end Go.Proofs.Ytjeijigchdnblaa.Am
