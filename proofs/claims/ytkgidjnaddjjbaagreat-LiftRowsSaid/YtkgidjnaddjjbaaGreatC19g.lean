/- Small operations leave what the document's machine leaves: plain numbers; a machine made. Conditions: an instruction is right. -/
import Derived.Test.YtkgidjnaddjjbaaGreatC19f
namespace Go.Proofs.YtkgidjnaddjjbaaGreat.Am
set_option linter.unusedVariables false
set_option linter.unusedSimpArgs false
set_option maxRecDepth 100000
set_option maxHeartbeats 1000000

theorem upd_at (g : Nat → Int) (i : Nat) (v : Int) (k : Nat) : upd g i v k = if k = i then v else g k := rfl
theorem upd_id (g : Nat → Int) (i : Nat) : upd g i (g i) = g := funext fun k => by
  rw [upd_at]; split
  · rename_i h; rw [h]
  · rfl
theorem upd_id2 (g : Nat → Int) : upd (upd g 32 (g 32)) 33 (g 33) = g := by rw [upd_id, upd_id]
theorem one_put {g : Nat → Int} {o : Op19} (h1 : 1 ≤ o.k) (h2 : o.k ≤ 16) : one18 g o = putV g o.d (valV o.k (g o.a.toNat) (g o.b.toNat) o.i) := by
  unfold one18 putV
  dsimp only
  rw [if_neg (by omega), if_neg (by omega), if_neg (by omega), if_neg (by omega)]
/-- reckoned into a register -/
theorem ex_do {x : In} {g : Nat → Int} {v : Int} (h1 : doV x.k (g x.s.toNat) (g x.t.toNat) x.h x.i = (v, true)) (h2 : ∀ a b hi lo, haV x.k a b hi lo = (hi, lo)) (h3 : ¬ (x.k = 9 ∨ x.k = 10)) (h4 : x.k ≠ 14) (h5 : x.k ≠ 16) : exL x g = putV g (intoL x) v := by
  unfold exL
  dsimp only
  rw [h1, h2, if_neg h3, if_neg h4, if_neg h5]
  dsimp only
  rw [if_pos rfl, upd_id2]
theorem ex_no {x : In} {g : Nat → Int} (h1 : (doV x.k (g x.s.toNat) (g x.t.toNat) x.h x.i).2 = false) : exL x g =
    let q := haV x.k (g x.s.toNat) (g x.t.toNat) (g 32) (g 33)
    let g2 := upd (upd g 32 q.1) 33 q.2
    if x.k = 9 ∨ x.k = 10 then (if ((g x.t.toNat == 0) == (x.k == 9)) = true then putV g2 x.d (g x.s.toNat) else g2) else if x.k = 14 then putV g2 x.d (g2 32) else if x.k = 16 then putV g2 x.d (g2 33) else g2 := by
  unfold exL
  dsimp only
  rw [if_neg (c := (doV x.k (g x.s.toNat) (g x.t.toNat) x.h x.i).2 = true) (by rw [h1]; simp)]

section
variable {x : In}
theorem no_first (hp : plainS x = true) (h : x.k ≠ 13 ∧ x.k ≠ 76 ∧ x.k ≠ 77) : ¬ (plainS x = false ∨ x.k = 13 ∨ x.k = 76 ∨ x.k = 77) := fun e => by
  rcases e with e | e | e | e
  · rw [hp] at e; cases e
  · exact h.1 e
  · exact h.2.1 e
  · exact h.2.2 e
theorem ops_nil (h : x.k = 13 ∨ x.k = 76 ∨ x.k = 77) : opsOf x = [] := by unfold opsOf; rw [if_pos (.inr h)]
theorem ops_53 (hp : plainS x = true) (h : x.k = 53) : opsOf x = [⟨1, x.t, 0, 0, IntKind.wrap .u32 (x.i * 65536)⟩] := by unfold opsOf; rw [if_neg (no_first hp (by omega)), if_pos h]
theorem ops_14 (hp : plainS x = true) (h : x.k = 14) : opsOf x = [⟨2, x.d, 32, 0, 0⟩] := by unfold opsOf; rw [if_neg (no_first hp (by omega)), if_neg (by omega), if_pos h]
theorem ops_16 (hp : plainS x = true) (h : x.k = 16) : opsOf x = [⟨2, x.d, 33, 0, 0⟩] := by unfold opsOf; rw [if_neg (no_first hp (by omega)), if_neg (by omega), if_neg (by omega), if_pos h]
theorem ops_15 (hp : plainS x = true) (h : x.k = 15) : opsOf x = [⟨2, 32, x.s, 0, 0⟩] := by unfold opsOf; rw [if_neg (no_first hp (by omega)), if_neg (by omega), if_neg (by omega), if_neg (by omega), if_pos h]
theorem ops_17 (hp : plainS x = true) (h : x.k = 17) : opsOf x = [⟨2, 33, x.s, 0, 0⟩] := by unfold opsOf; rw [if_neg (no_first hp (by omega)), if_neg (by omega), if_neg (by omega), if_neg (by omega), if_neg (by omega), if_pos h]
theorem ops_sh (hp : plainS x = true) (h : 1 ≤ x.k ∧ x.k ≤ 3) : opsOf x = [⟨1, 34, 0, 0, IntKind.wrap .u32 x.h⟩, ⟨kindL x.k, x.d, x.t, 34, 0⟩] := by
  unfold opsOf; rw [if_neg (no_first hp (by omega)), if_neg (by omega), if_neg (by omega), if_neg (by omega), if_neg (by omega), if_neg (by omega), if_pos h.2]
theorem ops_sv (hp : plainS x = true) (h : 4 ≤ x.k ∧ x.k ≤ 6) : opsOf x = [⟨kindL x.k, x.d, x.t, x.s, 0⟩] := by
  unfold opsOf; rw [if_neg (no_first hp (by omega)), if_neg (by omega), if_neg (by omega), if_neg (by omega), if_neg (by omega), if_neg (by omega), if_neg (by omega), if_pos h.2]
theorem ops_im (hp : plainS x = true) (h : 47 ≤ x.k ∧ x.k ≤ 52) : opsOf x = [⟨1, 34, 0, 0, immL x⟩, ⟨kindL x.k, x.t, x.s, 34, 0⟩] := by
  have e : intoL x = x.t := by unfold intoL; rw [if_pos (by omega), if_pos (by omega)]
  unfold opsOf; rw [if_neg (no_first hp (by omega)), if_neg (by omega), if_neg (by omega), if_neg (by omega), if_neg (by omega), if_neg (by omega), if_neg (by omega), if_neg (by omega), if_pos ⟨e, by omega, by omega⟩]
theorem ops_re (hp : plainS x = true) (h : x.k = 9 ∨ x.k = 10 ∨ (18 ≤ x.k ∧ x.k ≤ 31) ∨ (63 ≤ x.k ∧ x.k ≤ 65)) : opsOf x = [⟨kindL x.k, x.d, x.s, x.t, 0⟩] := by
  unfold opsOf; rw [if_neg (no_first hp (by omega)), if_neg (by omega), if_neg (by omega), if_neg (by omega), if_neg (by omega), if_neg (by omega), if_neg (by omega), if_neg (by omega), if_neg (fun e => by omega)]
theorem into_d (h : (1 ≤ x.k ∧ x.k ≤ 6) ∨ (22 ≤ x.k ∧ x.k ≤ 31) ∨ (63 ≤ x.k ∧ x.k ≤ 65)) : intoL x = x.d := by unfold intoL; rw [if_pos (by omega), if_neg (by omega)]
theorem into_t (h : 46 ≤ x.k ∧ x.k ≤ 53) : intoL x = x.t := by unfold intoL; rw [if_pos (by omega), if_pos h]
/-- two operations, the first of which fills cell 34 -/
theorem two_put {g : Nat → Int} {im : Int} {o : Op19} (h1 : 1 ≤ o.k) (h2 : o.k ≤ 16) (ha : o.a.toNat < 34) (hb : o.b = 34) {i : Nat} (hi : i < 34) : run18 g [⟨1, 34, 0, 0, im⟩, o] i = putV g o.d (valV o.k (g o.a.toNat) im o.i) i := by
  show one18 (one18 g ⟨1, 34, 0, 0, im⟩) o i = _
  rw [one_put h1 h2]
  have e : ∀ j, one18 g ⟨1, 34, 0, 0, im⟩ j = if j = 34 then im else g j := fun j => const_at g im j
  rw [hb, e, e, if_neg (by omega), if_pos (by rfl)]
  unfold putV
  split
  · rw [upd_at, upd_at, e, if_neg (c := i = 34) (by omega)]
  · rw [e, if_neg (by omega)]
theorem ex_run (hi : 0 ≤ x.i) (hp : plainS x = true) (g : Nat → Int) (gu : ∀ i, i < 34 → isU (g i)) : ∀ i, i < 34 → exL x g i = run18 g (opsOf x) i := by
  obtain ⟨ok, cl, hm, hi16⟩ := plain_ok hi hp
  have s0 := ok.s0
  have s1 := ok.s1
  have t0 := ok.t0
  have t1 := ok.t1
  have h0 := ok.h0
  have h1 := ok.h1
  intro i hi
  simp only [PK, List.mem_cons, List.not_mem_nil, or_false] at hm
  have ha2 : ∀ (k : Int), k ≠ 18 → k ≠ 19 → k ≠ 20 → k ≠ 21 → k ≠ 15 → k ≠ 17 → ∀ a b hi lo, haV k a b hi lo = (hi, lo) := fun k c1 c2 c3 c4 c5 c6 a b hi lo => by
    unfold haV; rw [if_neg c1, if_neg c2, if_neg c3, if_neg c4, if_neg c5, if_neg c6]
  have wh : IntKind.wrap .u32 x.h = x.h := wrapU ⟨by omega, by omega⟩
  have eh : (IntKind.wrap .u32 x.h) % 32 = x.h := by rw [wh]; omega
  have sh : (1 ≤ x.k ∧ x.k ≤ 3) → doV x.k (g x.s.toNat) (g x.t.toNat) x.h x.i = (valV (kindL x.k) (g x.t.toNat) (IntKind.wrap .u32 x.h) 0, true) → exL x g i = run18 g (opsOf x) i := fun hk hv => by
    rw [ops_sh hp hk, two_put (by show 1 ≤ kindL x.k; rcases (by omega : x.k = 1 ∨ x.k = 2 ∨ x.k = 3) with h | h | h <;> rw [h] <;> decide) (by show kindL x.k ≤ 16; rcases (by omega : x.k = 1 ∨ x.k = 2 ∨ x.k = 3) with h | h | h <;> rw [h] <;> decide) (by show x.t.toNat < 34; omega) rfl hi, ex_do hv (ha2 _ (by omega) (by omega) (by omega) (by omega) (by omega) (by omega)) (by omega) (by omega) (by omega), into_d (by omega)]
  have sv : (4 ≤ x.k ∧ x.k ≤ 6) → doV x.k (g x.s.toNat) (g x.t.toNat) x.h x.i = (valV (kindL x.k) (g x.t.toNat) (g x.s.toNat) 0, true) → exL x g i = run18 g (opsOf x) i := fun hk hv => by
    rw [ops_sv hp hk]
    show _ = one18 g _ i
    rw [one_put (by show 1 ≤ kindL x.k; rcases (by omega : x.k = 4 ∨ x.k = 5 ∨ x.k = 6) with h | h | h <;> rw [h] <;> decide) (by show kindL x.k ≤ 16; rcases (by omega : x.k = 4 ∨ x.k = 5 ∨ x.k = 6) with h | h | h <;> rw [h] <;> decide), ex_do hv (ha2 _ (by omega) (by omega) (by omega) (by omega) (by omega) (by omega)) (by omega) (by omega) (by omega), into_d (by omega)]
  have im : (47 ≤ x.k ∧ x.k ≤ 52) → 1 ≤ kindL x.k → kindL x.k ≤ 16 → doV x.k (g x.s.toNat) (g x.t.toNat) x.h x.i = (valV (kindL x.k) (g x.s.toNat) (immL x) 0, true) → exL x g i = run18 g (opsOf x) i := fun hk k1 k2 hv => by
    rw [ops_im hp hk, two_put k1 k2 (by show x.s.toNat < 34; omega) rfl hi, ex_do hv (ha2 _ (by omega) (by omega) (by omega) (by omega) (by omega) (by omega)) (by omega) (by omega) (by omega), into_t (by omega)]
  have re : ((22 ≤ x.k ∧ x.k ≤ 31) ∨ (63 ≤ x.k ∧ x.k ≤ 65)) → 1 ≤ kindL x.k → kindL x.k ≤ 16 → doV x.k (g x.s.toNat) (g x.t.toNat) x.h x.i = (valV (kindL x.k) (g x.s.toNat) (g x.t.toNat) 0, true) → exL x g i = run18 g (opsOf x) i := fun hk k1 k2 hv => by
    rw [ops_re hp (by omega)]
    show _ = one18 g _ i
    rw [one_put k1 k2, ex_do hv (ha2 _ (by omega) (by omega) (by omega) (by omega) (by omega) (by omega)) (by omega) (by omega) (by omega), into_d (by omega)]
  have nil : (x.k = 13 ∨ x.k = 76 ∨ x.k = 77) → (doV x.k (g x.s.toNat) (g x.t.toNat) x.h x.i).2 = false → exL x g i = run18 g (opsOf x) i := fun hk hv => by
    rw [ops_nil hk, ex_no hv]
    dsimp only
    rw [ha2 _ (by omega) (by omega) (by omega) (by omega) (by omega) (by omega), if_neg (by omega), if_neg (by omega), if_neg (by omega), upd_id2]
    rfl
  rcases hm with h | h | h | h | h | h | h | h | h | h | h | h | h | h | h | h | h | h | h | h | h | h | h | h | h | h | h | h | h | h | h | h | h | h | h | h | h
  · refine sh (by omega) ?_; rw [h]; show (shV 0 _ _, true) = (IntKind.wrap .u32 (_ * 2 ^ min (IntKind.wrap .u32 x.h % 32).toNat 32), true); rw [eh]; rfl
  · refine sh (by omega) ?_; rw [h]; show (shV 1 _ _, true) = (Int.fdiv _ (2 ^ min (IntKind.wrap .u32 x.h % 32).toNat 32), true); rw [eh]; rfl
  · refine sh (by omega) ?_; rw [h]; show (shV 2 _ _, true) = (sarN (IntKind.wrap .u32 x.h % 32).toNat _, true); rw [eh]; rfl
  · refine sv (by omega) ?_; rw [h]; rfl
  · refine sv (by omega) ?_; rw [h]; rfl
  · refine sv (by omega) ?_; rw [h]; rfl
  · rw [ops_re hp (by omega), ex_no (by rw [h]; rfl)]
    dsimp only
    rw [ha2 _ (by omega) (by omega) (by omega) (by omega) (by omega) (by omega), if_pos (by omega), upd_id2, h]
    show _ = one18 g ⟨21, x.d, x.s, x.t, 0⟩ i
    unfold one18
    dsimp only
    rw [if_neg (c := (21 : Int) = 0) (by decide), if_neg (c := (21 : Int) = 17 ∨ (21 : Int) = 18) (by decide), if_neg (c := (21 : Int) = 19 ∨ (21 : Int) = 20) (by decide)]
    by_cases c : g x.t.toNat = 0
    · have e1 : (((g x.t.toNat == 0) == ((9 : Int) == 9)) = true) := by simp [c]
      have e2 : ¬ ((((21 : Int) = 21 ∨ (21 : Int) = 22) ∧ (g x.t.toNat == 0) ≠ ((21 : Int) == 21))) := by simp [c]
      rw [if_pos e1, if_neg e2]; rfl
    · have e1 : ¬ (((g x.t.toNat == 0) == ((9 : Int) == 9)) = true) := by simp [c]
      have e2 : ((((21 : Int) = 21 ∨ (21 : Int) = 22) ∧ (g x.t.toNat == 0) ≠ ((21 : Int) == 21))) := by simp [c]
      rw [if_neg e1, if_pos e2]
  · rw [ops_re hp (by omega), ex_no (by rw [h]; rfl)]
    dsimp only
    rw [ha2 _ (by omega) (by omega) (by omega) (by omega) (by omega) (by omega), if_pos (by omega), upd_id2, h]
    show _ = one18 g ⟨22, x.d, x.s, x.t, 0⟩ i
    unfold one18
    dsimp only
    rw [if_neg (c := (22 : Int) = 0) (by decide), if_neg (c := (22 : Int) = 17 ∨ (22 : Int) = 18) (by decide), if_neg (c := (22 : Int) = 19 ∨ (22 : Int) = 20) (by decide)]
    by_cases c : g x.t.toNat = 0
    · have e1 : ¬ (((g x.t.toNat == 0) == ((10 : Int) == 9)) = true) := by simp [c]
      have e2 : ((((22 : Int) = 21 ∨ (22 : Int) = 22) ∧ (g x.t.toNat == 0) ≠ ((22 : Int) == 21))) := by simp [c]
      rw [if_neg e1, if_pos e2]
    · have e1 : (((g x.t.toNat == 0) == ((10 : Int) == 9)) = true) := by simp [c]
      have e2 : ¬ ((((22 : Int) = 21 ∨ (22 : Int) = 22) ∧ (g x.t.toNat == 0) ≠ ((22 : Int) == 21))) := by simp [c]
      rw [if_pos e1, if_neg e2]; rfl
  · exact nil (by omega) (by rw [h]; rfl)
  · rw [ops_14 hp h, ex_no (by rw [h]; rfl)]
    dsimp only
    rw [ha2 _ (by omega) (by omega) (by omega) (by omega) (by omega) (by omega), if_neg (by omega), if_pos h, upd_id2]
    show _ = one18 g ⟨2, x.d, 32, 0, 0⟩ i
    rw [one_put (by show (1 : Int) ≤ 2; decide) (by show (2 : Int) ≤ 16; decide)]; rfl
  · rw [ops_15 hp h, ex_no (by rw [h]; rfl)]
    dsimp only
    rw [if_neg (by omega), if_neg (by omega), if_neg (by omega), h]
    show upd (upd g 32 (g x.s.toNat)) 33 (g 33) i = one18 g ⟨2, 32, x.s, 0, 0⟩ i
    rw [one_put (by show (1 : Int) ≤ 2; decide) (by show (2 : Int) ≤ 16; decide)]
    show _ = upd g 32 (g x.s.toNat) i
    rw [upd_at]
    split
    · rename_i e; rw [e]; rfl
    · rfl
  · rw [ops_16 hp h, ex_no (by rw [h]; rfl)]
    dsimp only
    rw [ha2 _ (by omega) (by omega) (by omega) (by omega) (by omega) (by omega), if_neg (by omega), if_neg (by omega), if_pos h, upd_id2]
    show _ = one18 g ⟨2, x.d, 33, 0, 0⟩ i
    rw [one_put (by show (1 : Int) ≤ 2; decide) (by show (2 : Int) ≤ 16; decide)]; rfl
  · rw [ops_17 hp h, ex_no (by rw [h]; rfl)]
    dsimp only
    rw [if_neg (by omega), if_neg (by omega), if_neg (by omega), h]
    show upd (upd g 32 (g 32)) 33 (g x.s.toNat) i = one18 g ⟨2, 33, x.s, 0, 0⟩ i
    rw [one_put (by show (1 : Int) ≤ 2; decide) (by show (2 : Int) ≤ 16; decide), upd_id]
    rfl
  · rw [ops_re hp (by omega), ex_no (by rw [h]; rfl)]
    dsimp only
    rw [if_neg (by omega), if_neg (by omega), if_neg (by omega), h]; rfl
  · rw [ops_re hp (by omega), ex_no (by rw [h]; rfl)]
    dsimp only
    rw [if_neg (by omega), if_neg (by omega), if_neg (by omega), h]; rfl
  · rw [ops_re hp (by omega), ex_no (by rw [h]; rfl)]
    dsimp only
    rw [if_neg (by omega), if_neg (by omega), if_neg (by omega), h]
    show upd (upd g 32 (divV _ _ true).2) 33 (divV _ _ true).1 i = upd (upd g 33 (divV _ _ true).1) 32 (divV _ _ true).2 i
    simp only [upd_at]
    split <;> split <;> first | rfl | omega
  · rw [ops_re hp (by omega), ex_no (by rw [h]; rfl)]
    dsimp only
    rw [if_neg (by omega), if_neg (by omega), if_neg (by omega), h]
    show upd (upd g 32 (divV _ _ false).2) 33 (divV _ _ false).1 i = upd (upd g 33 (divV _ _ false).1) 32 (divV _ _ false).2 i
    simp only [upd_at]
    split <;> split <;> first | rfl | omega
  · exact re (by omega) (by rw [h]; decide) (by rw [h]; decide) (by rw [h]; rfl)
  · exact re (by omega) (by rw [h]; decide) (by rw [h]; decide) (by rw [h]; rfl)
  · exact re (by omega) (by rw [h]; decide) (by rw [h]; decide) (by rw [h]; rfl)
  · exact re (by omega) (by rw [h]; decide) (by rw [h]; decide) (by rw [h]; rfl)
  · exact re (by omega) (by rw [h]; decide) (by rw [h]; decide) (by rw [h]; rfl)
  · exact re (by omega) (by rw [h]; decide) (by rw [h]; decide) (by rw [h]; rfl)
  · exact re (by omega) (by rw [h]; decide) (by rw [h]; decide) (by rw [h]; rfl)
  · exact re (by omega) (by rw [h]; decide) (by rw [h]; decide) (by rw [h]; rfl)
  · exact im (by omega) (by rw [h]; decide) (by rw [h]; decide) (by unfold immL; rw [if_neg (by omega), h]; rfl)
  · exact im (by omega) (by rw [h]; decide) (by rw [h]; decide) (by unfold immL; rw [if_neg (by omega), h]; rfl)
  · exact im (by omega) (by rw [h]; decide) (by rw [h]; decide) (by unfold immL; rw [if_neg (by omega), h]; rfl)
  · exact im (by omega) (by rw [h]; decide) (by rw [h]; decide) (by unfold immL; rw [if_pos (by omega), h]; rfl)
  · exact im (by omega) (by rw [h]; decide) (by rw [h]; decide) (by unfold immL; rw [if_pos (by omega), h]; rfl)
  · exact im (by omega) (by rw [h]; decide) (by rw [h]; decide) (by unfold immL; rw [if_pos (by omega), h]; rfl)
  · rw [ops_53 hp h, ex_do (v := IntKind.wrap .u32 (x.i * 65536)) (by rw [h]; rfl) (ha2 _ (by omega) (by omega) (by omega) (by omega) (by omega) (by omega)) (by omega) (by omega) (by omega), into_t (by omega)]
    show _ = one18 g ⟨1, x.t, 0, 0, IntKind.wrap .u32 (x.i * 65536)⟩ i
    rw [one_put (by show (1 : Int) ≤ 1; decide) (by show (1 : Int) ≤ 16; decide)]; rfl
  · exact re (by omega) (by rw [h]; decide) (by rw [h]; decide) (by rw [h]; rfl)
  · exact re (by omega) (by rw [h]; decide) (by rw [h]; decide) (by rw [h]; rfl)
  · exact re (by omega) (by rw [h]; decide) (by rw [h]; decide) (by rw [h]; rfl)
  · exact nil (by omega) (by rw [h]; rfl)
  · exact nil (by omega) (by rw [h]; rfl)
end
end Go.Proofs.YtkgidjnaddjjbaaGreat.Am
