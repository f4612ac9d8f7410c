/- Images as instructions: a program at Reset, a handler at the vector. Conditions: instructions that are right. What the top laws' functions share: rows of instructions in blocks, a machine with a program, its State in a box. Conditions: instructions that are ri -/
import Derived.Test.YtkiggdgphbkneaaGreatTopSortsX27
namespace Go.Proofs.YtkiggdgphbkneaaGreat.Am
set_option linter.unusedVariables false
set_option linter.unusedSimpArgs false
set_option maxRecDepth 100000
def imgI (l h : List In) (a : Int) : In := match decide (1024 ≤ a) && decide (a < 1024 + 4 * (l.length : Int)) with
 | true => atI l ((a - 1024) / 4).toNat
 | false => match decide (384 ≤ a) && decide (a < 384 + 4 * (h.length : Int)) with
  | true => atI h ((a - 384) / 4).toNat
  | false => nopS
def imgP (l h : List In) : Nat → Int := imgB 4096 (imgS (l.length * 4) (byOf l) (h.length * 4) (byOf h))
def inOk2 (x : In) : Bool := inOk x && decide (x.i < 65536)
theorem inOk2_r {x : In} (h : inOk2 x = true) : InR x := by
 unfold inOk2 at h
 simp only [Bool.and_eq_true, decide_eq_true_eq] at h
 obtain ⟨h1, h2, h3⟩ := inOk_p h.1
 exact ⟨h1, h2, h.2, h3⟩
theorem nop_r : InR nopS := inOk2_r (by decide +kernel)
theorem atI_r {l : List In} (hl : ∀ x ∈ l, InR x) {i : Nat} (hi : i < l.length) : InR (atI l i) := by
 have e : atI l i = l[i] := by simp [atI, List.getD, hi]
 rw [e]; exact hl _ (List.getElem_mem hi)
theorem in_word {l : List In} (hl : ∀ x ∈ l, InR x) {i : Nat} (hi : i < l.length) {B : Nat → Int} {a : Int} (a0 : 0 ≤ a) (hB : ∀ t, t < 4 → B (a.toNat + t) = byOf l (4 * i + t)) : ofS (wdB B a 4) = atI l i := by
 rw [prog_word hi a0 hB (wdOf_u _)]
 have r := atI_r hl hi
 exact of_back_T r.i0 r.r
theorem img_prog {l h : List In} (hl : ∀ x ∈ l, InR x) (hh : ∀ x ∈ h, InR x) (nl : l.length ≤ 768) (nh : h.length ≤ 160) (C : Nat → Bool) : Prog C 4 (imgI l h) (imgP l h) := by
 refine ⟨fun a a0 a1 a4 _ => ?_⟩
 have a1 : a < 4096 := a1
 unfold imgI
 by_cases c1 : 1024 ≤ a ∧ a < 1024 + 4 * (l.length : Int)
 ·rw [decide_eq_true c1.1, decide_eq_true c1.2]
  simp only [Bool.and_true]
  have hi : ((a - 1024) / 4).toNat < l.length := by omega
  refine ⟨in_word hl hi a0 fun t ht => ?_, atI_r hl hi⟩
  unfold imgP imgB imgS
  rw [if_pos (by omega), if_pos (by omega)]
  congr 1; omega
 ·have e1 : (decide (1024 ≤ a) && decide (a < 1024 + 4 * (l.length : Int))) = false := by
   simp only [Bool.and_eq_false_iff, decide_eq_false_iff_not]; omega
  rw [e1]
  dsimp only
  by_cases c2 : 384 ≤ a ∧ a < 384 + 4 * (h.length : Int)
  ·rw [decide_eq_true c2.1, decide_eq_true c2.2]
   simp only [Bool.and_true]
   have hi : ((a - 384) / 4).toNat < h.length := by omega
   refine ⟨in_word hh hi a0 fun t ht => ?_, atI_r hh hi⟩
   unfold imgP imgB imgS
   rw [if_pos (by omega), if_neg (by omega), if_pos (by omega)]
   congr 1; omega
  ·have e2 : (decide (384 ≤ a) && decide (a < 384 + 4 * (h.length : Int))) = false := by
    simp only [Bool.and_eq_false_iff, decide_eq_false_iff_not]; omega
   rw [e2]
   dsimp only
   have z : wdB (imgP l h) a 4 = 0 := zero_word fun t ht => by
    unfold imgP imgB imgS
    rw [if_pos (by omega), if_neg (by omega), if_neg (by omega)]
   rw [z]
   exact ⟨zero_nop, nop_r⟩
def pgs (l : List Nat) (j : Nat) : Bool := l.any (· == j)
def spl : (Nat → AV) → List (Nat → AV) → Nat → (Nat → AV)
 | z, [], _ => z
 | z, c :: cs, i => spl (splice z (i * 6) 6 c) cs (i + 1)
theorem spl_lo : ∀ (cs : List (Nat → AV)) (z : Nat → AV) (i j : Nat), j < i * 6 → spl z cs i j = z j
 | [], z, i, j, h => rfl
 | c :: cs, z, i, j, h => by
  show spl (splice z (i * 6) 6 c) cs (i + 1) j = _
  rw [spl_lo cs _ (i + 1) j (by omega)]
  unfold splice; rw [if_neg (by omega)]
theorem spl_in : ∀ (cs : List (Nat → AV)) (l : List In) (z : Nat → AV) (i : Nat), All2 InC cs l → ∀ q, q < l.length → InC (fun j => spl z cs i ((i + q) * 6 + j)) (atI l q)
 | [], [], z, i, h, q, hq => by simp at hq
 | c :: cs, x :: l, z, i, h, 0, hq => by
  refine InC.congr (c := c) h.1 fun j hj => ?_
  show spl (splice z (i * 6) 6 c) cs (i + 1) ((i + 0) * 6 + j) = _
  rw [spl_lo cs _ (i + 1) _ (by omega)]
  unfold splice; rw [if_pos (by omega)]; congr 1; omega
 | c :: cs, x :: l, z, i, h, q + 1, hq => by
  have := spl_in cs l (splice z (i * 6) 6 c) (i + 1) h.2 q (by simpa using hq)
  have e : i + 1 + q = i + (q + 1) := by omega
  rw [e] at this
  exact this
 | [], _ :: _, _, _, h, _, _ => h.elim
 | _ :: _, [], _, _, h, _, _ => h.elim
section
variable {m : Mem}
theorem row_in {b : Nat} {z : Nat → AV} {t : TypeId} (cs : List (Nat → AV)) (l : List In) (e : m.obj b = some ⟨l.length * 6, spl z cs 0, t, false⟩) (h : All2 InC cs l) : IsIn m (.sl b 0 l.length (.ex l.length)) l :=
 IsIn.row e rfl rfl fun i hi => by
  have := spl_in cs l z 0 h i hi
  rw [Nat.zero_add] at this
  exact this
def upl : (Nat → AV) → List AV → Nat → (Nat → AV)
 | z, [], _ => z
 | z, v :: vs, i => upl (upd z i v) vs (i + 1)
theorem upl_lo : ∀ (vs : List AV) (z : Nat → AV) (i j : Nat), j < i → upl z vs i j = z j
 | [], z, i, j, h => rfl
 | v :: vs, z, i, j, h => by
  show upl (upd z i v) vs (i + 1) j = _
  rw [upl_lo vs _ (i + 1) j (by omega)]
  unfold upd; rw [if_neg (by omega)]
theorem upl_at : ∀ (vs : List AV) (z : Nat → AV) (i q : Nat), q < vs.length → upl z vs i (i + q) = lget vs q
 | [], z, i, q, h => by simp at h
 | v :: vs, z, i, 0, h => by
  show upl (upd z i v) vs (i + 1) (i + 0) = v
  rw [upl_lo vs _ (i + 1) _ (by omega)]
  unfold upd; rw [if_pos (Nat.add_zero i)]
 | v :: vs, z, i, q + 1, h => by
  show upl (upd z i v) vs (i + 1) (i + (q + 1)) = lget vs q
  rw [← upl_at vs (upd z i v) (i + 1) q (by simpa using h)]
  congr 1; omega
theorem all2_at {α β : Type} {R : α → β → Prop} {d : α} : ∀ {xs : List α} {ys : List β}, All2 R xs ys → ∀ i, (h : i < ys.length) → R (xs.getD i d) ys[i]
 | _ :: _, _ :: _, h, 0, hi => h.1
 | _ :: _, _ :: _, h, i + 1, hi => all2_at h.2 i (by simpa using hi)
 | [], [], _, i, hi => by simp at hi
theorem lget_getD : ∀ (vs : List AV) (i : Nat), i < vs.length → lget vs i = vs.getD i .junk
 | v :: vs, 0, _ => rfl
 | v :: vs, i + 1, h => by
  show lget vs i = _
  rw [lget_getD vs i (by simpa using h)]; rfl
 | [], i, h => by simp at h
theorem join_of {b : Nat} {z : Nat → AV} {t : TypeId} {ro : Bool} (vs : List AV) (Ls : List (List In)) (e : m.obj b = some ⟨Ls.length, upl z vs 0, t, ro⟩) (h : All2 (IsIn m) vs Ls) (hl : Ls.length ≤ 20) (hl2 : (Ls.all fun l => Nat.ble l.length 100) = true) {k : AV → Mem → Prop} (hk : ∀ v m', IsIn m' v Ls.flatten → Keeps m m' → (∀ x, own v x → m.obj x = none) → k v m') : F17 (.sl b 0 Ls.length (.ex Ls.length)) m k := by
 have hn := h.length
 refine join_spec ⟨⟨_, e, rfl, fun i hi => ?_⟩, hn, fun i hi => ?_⟩ hl (fun l hm => Nat.le_of_ble_eq_true (List.all_eq_true.1 hl2 l hm)) hk
 ·have := upl_at vs z 0 i (by omega)
  rw [Nat.zero_add] at this; exact this
 ·rw [lget_getD vs i (by omega)]
  exact all2_at h i hi
def D0 : Dv := { nd := (0 + 63) / 64 * 64, dk := imgB 0 fun _ => 0 }
theorem imgP_nil (l : List In) : imgB 4096 (imgS (l.length * 4) (byOf l) 0 fun _ => 0) = imgP l [] := by
 funext j
 unfold imgP imgB imgS
 split
 ·split
  ·rfl
  ·rw [if_neg (by omega), if_neg (by simp)]
 ·rfl
theorem prog_mach {v : AV} {l : List In} (h : IsIn m v l) (hl : l.length ≤ 700) (ho : ∀ x ∈ l, InR x) {most : Int} (C : Nat → Bool) {k : AV → Mem → Prop} (hk : ∀ m1 e q c m', Keeps m m1 → AtF m1 C e q c 4 D0 (clN most) St0 (imgP l []) m' → k (.ptr e 0) m') : F16 v m fun v2 m2 => F23 v2 (.flat (.slice none 0 0)) most m2 k := by
 refine code_spec h (by omega) (fun x hx => (ho x hx).i0) fun v2 m2 L2 K2 o2 => ?_
 refine machine_spec L2.r (fun i => byOf_rng _ i) (by omega) (v2 := .flat (.slice none 0 0)) (nd := 0) (fd := fun _ => 0) (.nil none _) (fun i hi => by omega) (by omega) C fun m1 e q c m3 K3 A3 => hk m1 e q c m3 (K2.trans K3) ?_
 rw [imgP_nil] at A3
 exact A3
variable {m0 : Mem} {C : Nat → Bool} {e : Nat} {q : BB} {c : Nat} {p : Nat} {D : Dv} {n : Int} {S : St} {B : Nat → Int}
theorem AtF.K (h : AtF m0 C e q c p D n S B m) : Keeps m0 m := by
 obtain ⟨cap, l, Sc, made, used, S1, M, u, hn, hp, E⟩ := h
 exact E.K
theorem AtF.keep {m' : Mem} (h : AtF m0 C e q c p D n S B m) (K : Keeps m m') : AtF m0 C e q c p D n S B m' := by
 obtain ⟨cap, l, Sc, made, used, h⟩ := h
 exact ⟨cap, l, Sc, made, used, h.keep K⟩
theorem nilP_ptr (b o : Nat) (K : Bool → Prop) : knilP (.ptr b o) K = K false := rfl
theorem run_eq {I : Int → In} (hp : p ≤ 64) (hD : D.ev = []) {l : List Hint} {s T : Sr} (hl : s.n.length ≤ 73) (hP : Prog C p I B) (ht : s.t + l.length < 1000000) (h : runK C p I l s B fun s' B' => s' = T ∧ B' = B) : Path C p D l.length (toSt s) B (toSt T) B := by
 obtain ⟨s', B', pa, _, _, _, e1, e2⟩ := run_ok (D := D) hp hD l hl hP ht h
 subst e1 e2
 exact pa
theorem two_path {I : Int → In} (hp : p ≤ 64) (hD : D.ev = []) (hP : Prog C p I B) (f g : Nat → Sr) (hf : ∀ t, (f t).n.length ≤ 73) (ht : ∀ t, (f t).t = t) (h2 : ∀ t, runK C p I [.no, .no] (f t) B fun s' B' => s' = f (t + 2) ∧ B' = B) (h1 : ∀ t, runK C p I [.no] (f t) B fun s' B' => s' = g (t + 1) ∧ B' = B) :
  ∀ (k n t : Nat), n < k → t + n < 900000 → ∃ T, (T = f (t + n) ∨ T = g (t + n)) ∧ Path C p D n (toSt (f t)) B (toSt T) B
 | 0, n, t, h, _ => by omega
 | k + 1, 0, t, h, _ => ⟨_, .inl rfl, .nil _ _⟩
 | k + 1, 1, t, h, hb => ⟨_, .inr rfl, run_eq hp hD (hf t) hP (by rw [ht]; show t + 1 < 1000000; omega) (h1 t)⟩
 | k + 1, n + 2, t, h, hb => by
  obtain ⟨T, hT, pa⟩ := two_path hp hD hP f g hf ht h2 h1 k n (t + 2) (by omega) (by omega)
  refine ⟨T, by rw [show t + (n + 2) = t + 2 + n by omega]; exact hT, ?_⟩
  have := (run_eq (D := D) hp hD (hf t) hP (by rw [ht]; show t + 2 < 1000000; omega) (h2 t)).trans pa
  rw [show [Hint.no, Hint.no].length + n = n + 2 by show 2 + n = n + 2; omega] at this
  exact this
end
theorem rti_r {k t s v : Int} (hk : k = 47 ∨ k = 49 ∨ k = 50 ∨ k = 51) (t0 : 0 ≤ t) (t1 : t < 32) (s0 : 0 ≤ s) (s1 : s < 32) : InR (rtiS k t s v) := by
 obtain ⟨h1, h2, h3⟩ := inOk_p (rti_ok (v := v) hk t0 t1 s0 s1).1
 exact ⟨h1, h2, by show v % 65536 < 65536; omega, h3⟩
theorem all_r {l : List In} (h : l.all inOk2 = true) : ∀ x ∈ l, InR x := fun x hx => inOk2_r (List.all_eq_true.1 h x hx)
theorem app_r {l k : List In} (hl : ∀ x ∈ l, InR x) (hk : ∀ x ∈ k, InR x) : ∀ x ∈ l ++ k, InR x := fun x hx => (List.mem_append.1 hx).elim (hl x) (hk x)
def rowR (r1 r2 r3 r4 r5 r6 r7 r8 r9 pc : Int) (t : Nat) : Sr := ⟨[0, r1, r2, r3, r4, r5, r6, r7, r8, r9, 0, 0, 0, 0, 0, 0, 0, 0, 0, 0, 0, 0, 0, 0, 0, 0, 0, 0, 0, 0, 0, 0, 0, 0, pc, IntKind.wrap .u32 (pc + 4), 0, 0, 0, 0, 0, 0, 0, 0, 0, 0, 0, 0, 0, 0, 0, 0, 0, 0, 98304, 0, 0, 0, 0, 0, 0, 0, 0, 0, 0, 0, 0, 0, 0, 0, 0, 0, 0], false, false, false, t⟩
section
variable {a b x y z w q : Int} {t : Nat} {B : Nat → Int} {c : Bool}
def slotR (r1 r2 r3 r4 r5 r6 r7 r8 r9 pc nx : Int) (t : Nat) : Sr := ⟨[0, r1, r2, r3, r4, r5, r6, r7, r8, r9, 0, 0, 0, 0, 0, 0, 0, 0, 0, 0, 0, 0, 0, 0, 0, 0, 0, 0, 0, 0, 0, 0, 0, 0, pc, nx, 0, 0, 0, 0, 0, 0, 0, 0, 0, 0, 0, 0, 0, 0, 0, 0, 0, 0, 98304, 0, 0, 0, 0, 0, 0, 0, 0, 0, 0, 0, 0, 0, 0, 0, 0, 0, 0], true, false, false, t⟩
end
section
variable {m0 m : Mem} {C : Nat → Bool} {e : Nat} {q : BB} {c : Nat} {p : Nat} {D : Dv} {n : Int} {S : St} {B : Nat → Int}
theorem tW_no {M : Nat → Bool} {a nn : Int} (hM : ∀ j, j < p → M j = true → C j = true) (hC : ∀ j : Nat, a / 1024 ≤ j → (j : Int) ≤ (a + nn - 1) / 1024 → C j = false) : ∀ j, j < p → tW M (fun _ => false) a nn j = false := fun j hj => by
 unfold tW
 simp only [Bool.false_or]
 cases hm : M j with
 | false => rfl
 | true =>
  rw [Bool.true_and]
  refine decide_eq_false fun ⟨_, h2, h3⟩ => ?_
  have := hC j h2 h3
  rw [hM j hj hm] at this; cases this
theorem AtF.store (h : AtF m0 C e q c p D n S B m) {a nn w : Int} (ha : isU a) (hr : evenR p a nn) (hC : C (a / 1024).toNat = false) {k : Bool → Mem → Prop}
  (hk : ∀ m', AtF m0 C e q c p D n S (stv B a nn w) m' → Fr q.r.has m m' → k true m') : F35 q.r.b 0 a nn w m k := by
 obtain ⟨cap, l, Sc, made, used, S1, M, u, en, ep, E⟩ := h
 obtain ⟨a0, a1⟩ := id ha
 have h4 : nn = 1 ∨ nn = 2 ∨ nn = 4 := hr.1
 refine store_spec E.h.mac.b.r ha (by unfold isI; omega) (fun h => absurd hr h) fun _ m' R' F' => hk m' ⟨cap, l, Sc, made, used, S1, M, u, en, ep, E.upd (E.h.cpu.rm (E.h.mac.b.withR F' R') F') (tW_no E.h.mks fun j h1 h2 => ?_) E.h.st (has_foot F') (Tl.refl _) (stv_cod a0 hr hC)⟩ F'
 obtain ⟨_, h5, _⟩ := id hr
 have : (j : Int) = a / 1024 := by rcases h4 with rfl | rfl | rfl <;> omega
 rw [show j = (a / 1024).toNat by omega]; exact hC
theorem AtF.load (h : AtF m0 C e q c p D n S B m) {a nn : Int} (ha : isU a) (hr : evenR p a nn) {k : Int → Bool → Mem → Prop} (hk : k (ldv (fun i => B (a.toNat + i)) nn.toNat) true m) : F32 q.r.b 0 a nn m k := by
 obtain ⟨cap, l, Sc, made, used, S1, M, u, en, ep, E⟩ := h
 have h4 : nn = 1 ∨ nn = 2 ∨ nn = 4 := hr.1
 refine load_spec E.h.mac.b.r ha (by unfold isI; omega) ?_
 rw [if_pos hr, decide_eq_true hr]
 exact hk
end
theorem u32s_ty {m : Mem} {v : AV} (h : Ty m (.sl [.i .u32]) v) : ∃ (n : Nat) (f : Nat → Int), IsR m 1 v n (fun i => .flat (.int .u32 (f i))) ∧ ∀ i, i < n → isU (f i) := by
 cases h with
 | nil ls a => exact ⟨0, fun _ => 0, .nil a _, fun i hi => by omega⟩
 | sl ls b len cap x h1 h2 h3 h4 h5 h6 =>
  simp only [List.length_singleton, Nat.mul_one] at h5 h6
  have hx : ∀ j, j < cap → ∃ n, x.c j = .flat (.int .u32 n) ∧ (Lit.int .u32 n).wf = true := fun j hj => by
   have := h6 j hj 0 (.i .u32) rfl
   rw [Nat.add_zero] at this
   exact ty_int this
  refine ⟨len, fun j => match x.c j with | .flat (.int _ n) => n | _ => 0, .sl b 0 len (.ex cap) x _ h4 (by omega) (fun i hi => ?_), fun i hi => ?_⟩
  ·obtain ⟨n, e, _⟩ := hx i (by omega)
   dsimp only
   rw [Nat.zero_add, e]
  ·obtain ⟨n, e, w⟩ := hx i (by omega)
   dsimp only
   rw [e]
   exact wf_u32 w
def bub : Int → List Int → List Int
 | x, [] => [x]
 | x, y :: r => if y < x then y :: bub x r else x :: bub y r
def bubL : List Int → List Int
 | [] => []
 | x :: r => bub x r
def bubN : Nat → List Int → List Int
 | 0, l => l
 | n + 1, l => bubN n (bubL l)
theorem bub_perm : ∀ (r : List Int) (x : Int), (bub x r).Perm (x :: r)
 | [], x => .refl _
 | y :: r, x => by
  unfold bub
  split
  ·exact ((bub_perm r x).cons y).trans (.swap x y r)
  ·exact (bub_perm r y).cons x
theorem bubL_perm : ∀ l : List Int, (bubL l).Perm l
 | [] => .refl _
 | x :: r => bub_perm r x
theorem bubL_len (l : List Int) : (bubL l).length = l.length := (bubL_perm l).length_eq
theorem bubN_perm : ∀ (n : Nat) (l : List Int), (bubN n l).Perm l
 | 0, l => .refl _
 | n + 1, l => (bubN_perm n (bubL l)).trans (bubL_perm l)
theorem bub_sorted : ∀ (s : List Int) (x : Int), (x :: s).Pairwise (· ≤ ·) → bub x s = x :: s
 | [], x, _ => rfl
 | y :: s, x, h => by
  unfold bub
  rw [List.pairwise_cons] at h
  have := h.1 y (by simp)
  rw [if_neg (by omega), bub_sorted s y h.2]
def bc : Int → List Int → List Int × Int
 | x, [] => ([], x)
 | x, y :: u => if y < x then (y :: (bc x u).1, (bc x u).2) else (x :: (bc y u).1, (bc y u).2)
theorem bub_bc : ∀ (u : List Int) (x : Int) (s : List Int), bub x (u ++ s) = (bc x u).1 ++ bub (bc x u).2 s
 | [], x, s => rfl
 | y :: u, x, s => by
  show (if y < x then y :: bub x (u ++ s) else x :: bub y (u ++ s)) = _
  unfold bc
  split
  ·rw [bub_bc u x s]; rfl
  ·rw [bub_bc u y s]; rfl
theorem bc_len : ∀ (u : List Int) (x : Int), (bc x u).1.length = u.length
 | [], x => rfl
 | y :: u, x => by
  unfold bc
  split <;> simp [bc_len u]
theorem bc_max : ∀ (u : List Int) (x : Int), x ≤ (bc x u).2 ∧ (∀ a ∈ (bc x u).1, a ≤ (bc x u).2) ∧ (bc x u).2 ∈ x :: u ∧ ∀ a ∈ (bc x u).1, a ∈ x :: u
 | [], x => ⟨Int.le_refl _, fun a ha => by simp [bc] at ha, by simp [bc], fun a ha => by simp [bc] at ha⟩
 | y :: u, x => by
  unfold bc
  split
  ·obtain ⟨h1, h2, h3, h4⟩ := bc_max u x
   refine ⟨h1, fun a ha => ?_, ?_, fun a ha => ?_⟩
   ·rcases List.mem_cons.1 ha with rfl | ha
    ·dsimp only; omega
    ·exact h2 a ha
   ·dsimp only
    rcases List.mem_cons.1 h3 with h | h <;> simp [h]
   ·rcases List.mem_cons.1 ha with rfl | ha
    ·simp
    ·rcases List.mem_cons.1 (h4 a ha) with h | h <;> simp [h]
  ·obtain ⟨h1, h2, h3, h4⟩ := bc_max u y
   refine ⟨by dsimp only; omega, fun a ha => ?_, ?_, fun a ha => ?_⟩
   ·rcases List.mem_cons.1 ha with rfl | ha
    ·dsimp only; omega
    ·exact h2 a ha
   ·dsimp only
    rcases List.mem_cons.1 h3 with h | h <;> simp [h]
   ·rcases List.mem_cons.1 ha with rfl | ha
    ·simp
    ·rcases List.mem_cons.1 (h4 a ha) with h | h <;> simp [h]
theorem bubN_sorted : ∀ (n : Nat) (u s : List Int), u.length ≤ n → s.Pairwise (· ≤ ·) → (∀ a ∈ u, ∀ b ∈ s, a ≤ b) → (bubN n (u ++ s)).Pairwise (· ≤ ·)
 | 0, u, s, h, hs, _ => by
  have : u = [] := List.length_eq_zero_iff.1 (by omega)
  subst this
  exact hs
 | n + 1, [], s, h, hs, hh => by
  have e : bubL s = s := by
   cases s with
   | nil => rfl
   | cons x s => exact bub_sorted s x hs
  show (bubN n (bubL s)).Pairwise _
  rw [e]
  exact bubN_sorted n [] s (by simp) hs hh
 | n + 1, x :: u, s, h, hs, hh => by
  obtain ⟨h1, h2, h3, h4⟩ := bc_max u x
  have hm : ∀ b ∈ s, (bc x u).2 ≤ b := fun b hb => hh _ h3 b hb
  have e : bubL (x :: u ++ s) = (bc x u).1 ++ ((bc x u).2 :: s) := by
   show bub x (u ++ s) = _
   rw [bub_bc, bub_sorted s _ (List.pairwise_cons.2 ⟨hm, hs⟩)]
  show (bubN n (bubL (x :: u ++ s))).Pairwise _
  rw [e]
  refine bubN_sorted n _ _ (by rw [bc_len]; simpa using h) (List.pairwise_cons.2 ⟨hm, hs⟩) fun a ha b hb => ?_
  rcases List.mem_cons.1 hb with rfl | hb
  ·exact h2 a ha
  ·exact hh a (h4 a ha) b hb
theorem bubN_all (l : List Int) : (bubN l.length l).Pairwise (· ≤ ·) := by
 have := bubN_sorted l.length l [] (Nat.le_refl _) .nil fun a _ b hb => by simp at hb
 rwa [List.append_nil] at this
def insAt (k : Nat) (x : Int) (w : List Int) : List Int := w.take k ++ (x :: w.drop k)
theorem ins_perm (k : Nat) (x : Int) (w : List Int) : (insAt k x w).Perm (x :: w) := by
 have h : (w.take k ++ (x :: w.drop k)).Perm (x :: (w.take k ++ w.drop k)) := List.perm_middle
 rwa [List.take_append_drop] at h
theorem ins_sorted {k : Nat} {x : Int} {w : List Int} (hw : w.Pairwise (· ≤ ·)) (h1 : ∀ a ∈ w.take k, a ≤ x) (h2 : ∀ a ∈ w.drop k, x ≤ a) : (insAt k x w).Pairwise (· ≤ ·) := by
 have hs := hw
 rw [← List.take_append_drop k w, List.pairwise_append] at hs
 refine List.pairwise_append.2 ⟨hs.1, List.pairwise_cons.2 ⟨h2, hs.2.1⟩, fun a ha b hb => ?_⟩
 rcases List.mem_cons.1 hb with rfl | hb
 ·exact h1 a ha
 ·exact hs.2.2 a ha b hb
theorem sort_eq {l w : List Int} (hp : w.Perm l) (hw : w.Pairwise (· ≤ ·)) : bubN l.length l = w :=
 List.Perm.eq_of_pairwise (le := (· ≤ ·)) (fun a b _ _ h1 h2 => Int.le_antisymm h1 h2) (bubN_all l) hw ((bubN_perm _ l).trans hp.symm)
def sortP (n : Int) : List In := liS 1 2147486208 ++ ([rtiS 47 2 0 (n - 1), rtiS 68 3 1 0, rtiS 68 4 1 4, rrrS 31 6 4 3, ⟨42, 6, 0, 0, 0, 3⟩, nopS, rtiS 73 4 1 0, rtiS 73 3 1 4, rtiS 47 1 1 4, rtiS 47 2 2 65535] ++ (backS 43 2 0 9 ++ []))
def sortL (n : Int) : List In := [rtiS 47 7 0 n] ++ (sortP n ++ ([rtiS 47 7 7 65535] ++ (backS 43 7 0 15 ++ (backS 42 0 0 0 ++ []))))
theorem sort_r {n : Int} : ∀ x ∈ sortL n, InR x := by
 refine app_r ?_ (app_r (app_r (all_r (by decide +kernel)) (app_r ?_ (all_r (by decide +kernel)))) (all_r (by decide +kernel)))
 ·intro x hx
  rw [List.mem_singleton] at hx
  subst hx
  exact rti_r (by simp) (by decide) (by decide) (by decide) (by decide)
 ·intro x hx
  rcases List.mem_cons.1 hx with rfl | hx
  ·exact rti_r (by simp) (by decide) (by decide) (by decide) (by decide)
  ·exact (all_r (l := [rtiS 68 3 1 0, rtiS 68 4 1 4, rrrS 31 6 4 3, ⟨42, 6, 0, 0, 0, 3⟩, nopS, rtiS 73 4 1 0, rtiS 73 3 1 4, rtiS 47 1 1 4, rtiS 47 2 2 65535]) (by decide +kernel)) x hx
def wA (B : Nat → Int) (i : Nat) : Int := wdB B ((2560 + 4 * i : Nat) : Int) 4
def r1 (i : Nat) : Int := ((2147486208 + 4 * i : Nat) : Int)
def swB (B : Nat → Int) (i : Nat) : Nat → Int := stv (stv B ((2560 + 4 * i : Nat) : Int) 4 (wA B (i + 1))) ((2560 + 4 * (i + 1) : Nat) : Int) 4 (wA B i)
def lessV (B : Nat → Int) (i : Nat) : Int := bitV (decide (wideV (wA B (i + 1)) false < wideV (wA B i) false))
theorem sort_s1 {n b c d f g : Int} {t : Nat} {B : Nat → Int} {q : Bool} (T : Sr) (V : Nat → Int) : ∀ i : Nat, i < 7 → (runK (pgs [0, 1]) 4 (imgI (sortL n) []) [.no, .no, .no, .br false, .no, .no, .no, .no, .no, .br q, .no] (rowR (r1 i) b c d 0 f g 0 0 2147484688 t) B fun s B' => s = T ∧ B' = V) =
  (true = true ∧ (lessV B i == 0) = false ∧ true = true ∧ (IntKind.wrap .u32 (b + 4294967295) != 0) = q ∧ rowR (r1 (i + 1)) (IntKind.wrap .u32 (b + 4294967295)) (wA B i) (wA B (i + 1)) 0 (lessV B i) g 0 0 (match q with | true => 2147484688 | false => 2147484732) (t + 11) = T ∧ swB B i = V) := by
 intro i hi
 iterate 7
  rcases i with _ | i
  ·cases q <;> kernel_rfl
 omega
theorem sort_s0 {n b c d f g : Int} {t : Nat} {B : Nat → Int} {q : Bool} (T : Sr) (V : Nat → Int) : ∀ i : Nat, i < 7 → (runK (pgs [0, 1]) 4 (imgI (sortL n) []) [.no, .no, .no, .br true, .no, .no, .no, .br q, .no] (rowR (r1 i) b c d 0 f g 0 0 2147484688 t) B fun s B' => s = T ∧ B' = V) =
  (true = true ∧ (lessV B i == 0) = true ∧ true = true ∧ (IntKind.wrap .u32 (b + 4294967295) != 0) = q ∧ rowR (r1 (i + 1)) (IntKind.wrap .u32 (b + 4294967295)) (wA B i) (wA B (i + 1)) 0 (lessV B i) g 0 0 (match q with | true => 2147484688 | false => 2147484732) (t + 9) = T ∧ B = V) := by
 intro i hi
 iterate 7
  rcases i with _ | i
  ·cases q <;> kernel_rfl
 omega
theorem sort_in {n a b c d f g : Int} {t : Nat} {B : Nat → Int} (T : Sr) (V : Nat → Int) : (runK (pgs [0, 1]) 4 (imgI (sortL n) []) [.no, .no, .no] (rowR a b c d 0 f g 0 0 2147484676 t) B fun s B' => s = T ∧ B' = V) =
  (rowR (r1 0) (IntKind.wrap .u32 (0 + immL (rtiS 47 2 0 (n - 1)))) c d 0 f g 0 0 2147484688 (t + 3) = T ∧ B = V) := by kernel_rfl
theorem sort_out {n a b c d f g : Int} {t : Nat} {B : Nat → Int} {q : Bool} (T : Sr) (V : Nat → Int) : (runK (pgs [0, 1]) 4 (imgI (sortL n) []) [.no, .br q, .no] (rowR a b c d 0 f g 0 0 2147484732 t) B fun s B' => s = T ∧ B' = V) =
  (true = true ∧ (IntKind.wrap .u32 (g + 4294967295) != 0) = q ∧ rowR a b c d 0 f (IntKind.wrap .u32 (g + 4294967295)) 0 0 (match q with | true => 2147484676 | false => 2147484744) (t + 3) = T ∧ B = V) := by cases q <;> kernel_rfl
theorem sort_st {n : Int} {B : Nat → Int} (T : Sr) (V : Nat → Int) : (runK (pgs [0, 1]) 4 (imgI (sortL n) []) [.no] sr0 B fun s B' => s = T ∧ B' = V) = (rowR 0 0 0 0 0 0 (IntKind.wrap .u32 (0 + immL (rtiS 47 7 0 n))) 0 0 2147484676 1 = T ∧ B = V) := by kernel_rfl
theorem sort_i2 {n a b c d f g : Int} {t : Nat} {B : Nat → Int} : ∀ T : Sr, (runK (pgs [0, 1]) 4 (imgI (sortL n) []) [.no, .no] (rowR a b c d 0 f g 0 0 2147484744 t) B fun s B' => s = T ∧ B' = B) = (rowR a b c d 0 f g 0 0 2147484744 (t + 2) = T ∧ B = B) := fun T => by kernel_rfl
theorem sort_i1 {n a b c d f g : Int} {t : Nat} {B : Nat → Int} : ∀ T : Sr, (runK (pgs [0, 1]) 4 (imgI (sortL n) []) [.no] (rowR a b c d 0 f g 0 0 2147484744 t) B fun s B' => s = T ∧ B' = B) = (slotR a b c d 0 f g 0 0 2147484748 2147484744 (t + 1) = T ∧ B = B) := fun T => by kernel_rfl
theorem wA_u (B : Nat → Int) (i : Nat) : isU (wA B i) := ldv_u _ _
theorem wA_stv {B : Nat → Int} {i j : Nat} {v : Int} (hv : isU v) : wA (stv B ((2560 + 4 * i : Nat) : Int) 4 v) j = if i = j then v else wA B j := by
 unfold wA wdB
 by_cases c : i = j
 ·subst c
  rw [if_pos rfl]
  have s : ∀ t, t < 4 → stv B ((2560 + 4 * i : Nat) : Int) 4 v (((2560 + 4 * i : Nat) : Int).toNat + t) = by8 v (3 - t) := fun t ht => by
   unfold stv
   rw [Int.toNat_natCast, if_pos (by omega)]
   congr 1; omega
  exact ldv_word hv (s 0 (by decide)) (s 1 (by decide)) (s 2 (by decide)) (s 3 (by decide))
 ·rw [if_neg c]
  refine ldv_congr _ fun t ht => ?_
  have ht : t < 4 := ht
  unfold stv
  rw [Int.toNat_natCast, if_neg (by omega)]
def Wds (B : Nat → Int) (l : List Int) : Prop := ∀ i, i < l.length → wA B i = l.getD i 0
theorem Wds.at {B : Nat → Int} {dn : List Int} {x : Int} {r : List Int} (h : Wds B (dn ++ x :: r)) : wA B dn.length = x := by
 rw [h _ (by simp)]; simp [List.getD]
theorem Wds.swap {B : Nat → Int} {dn : List Int} {x y : Int} {r : List Int} (h : Wds B (dn ++ x :: y :: r)) : Wds (swB B dn.length) ((dn ++ [y]) ++ x :: r) := by
 have hx := h.at
 have hy : wA B (dn.length + 1) = y := by
  have := Wds.at (dn := dn ++ [x]) (x := y) (r := r) (by rw [List.append_assoc]; exact h)
  simpa using this
 intro i hi
 unfold swB
 rw [wA_stv (wA_u _ _), wA_stv (wA_u _ _), hx, hy]
 have hlen : i < (dn ++ x :: y :: r).length := by simp at hi ⊢; omega
 by_cases c1 : dn.length + 1 = i
 ·subst c1; rw [if_pos rfl]; simp [List.getD]
 rw [if_neg c1]
 by_cases c2 : dn.length = i
 ·subst c2; rw [if_pos rfl]; simp [List.getD]
 rw [if_neg c2, h i hlen]
 simp only [List.getD]
 by_cases c3 : i < dn.length
 ·simp only [List.append_assoc]
  rw [List.getElem?_append_left c3, List.getElem?_append_left c3]
 ·obtain ⟨q, rfl⟩ : ∃ q, i = dn.length + 2 + q := ⟨i - (dn.length + 2), by omega⟩
  have e1 : dn.length + 2 + q = dn.length + (q + 1 + 1) := by omega
  rw [List.append_assoc, List.getElem?_append_right (by omega), List.getElem?_append_right (by omega), e1, Nat.add_sub_cancel_left]
  rfl
section
variable {C : Nat → Bool} {p : Nat} {I : Int → In} {D : Dv} {B V : Nat → Int}
theorem run_eq2 (hp : p ≤ 64) (hD : D.ev = []) {l : List Hint} {s T : Sr} (hP : Prog C p I B) (h : runK C p I l s B fun s' B' => s' = T ∧ B' = V) (hl : s.n.length ≤ 73) (ht : s.t + l.length < 1000000) : Path C p D l.length (toSt s) B (toSt T) V ∧ Cod C B V := by
 obtain ⟨s', B', pa, cod, _, _, e1, e2⟩ := run_ok (D := D) hp hD l hl hP ht h
 subst e1 e2
 exact ⟨pa, cod⟩
end
theorem Cod.trans {C : Nat → Bool} {B B1 B2 : Nat → Int} (h : Cod C B B1) (h' : Cod C B1 B2) : Cod C B B2 := fun j hj => (h' j hj).trans (h j hj)
theorem less_0 {B : Nat → Int} {i : Nat} : (lessV B i == 0) = decide (¬ wA B (i + 1) < wA B i) := by
 unfold lessV
 rw [wideF (wA_u _ _), wideF (wA_u _ _)]
 unfold bitV
 by_cases c : wA B (i + 1) < wA B i
 ·rw [decide_eq_true c]; simp [c]
 ·rw [decide_eq_false c]; simp [c]
theorem dec_w {k : Nat} (hk : k < 1000) : IntKind.wrap .u32 (((k + 1 : Nat) : Int) + 4294967295) = k := by rw [wrap32]; omega
section
variable {n : Int} {D : Dv}
theorem sort_pass (hD : D.ev = []) : ∀ (r : List Int) (y x : Int) (dn : List Int) (B : Nat → Int) (c d f g : Int) (t : Nat), Prog (pgs [0, 1]) 4 (imgI (sortL n) []) B → dn.length + 2 + r.length ≤ 8 → t + 11 * (r.length + 1) < 900000 → Wds B (dn ++ x :: y :: r) →
  ∃ (k : Nat) (B' : Nat → Int) (c' d' f' : Int), k ≤ 11 * (r.length + 1) ∧ Path (pgs [0, 1]) 4 D k (toSt (rowR (r1 dn.length) (r.length + 1 : Nat) c d 0 f g 0 0 2147484688 t)) B (toSt (rowR (r1 (dn.length + r.length + 1)) 0 c' d' 0 f' g 0 0 2147484732 (t + k))) B' ∧ Cod (pgs [0, 1]) B B' ∧ Wds B' (dn ++ bub x (y :: r)) := by
 intro r
 induction r with
 | nil =>
  intro y x dn B c d f g t hP hl ht hW
  have hx := hW.at
  have hy : wA B (dn.length + 1) = y := by
   have := Wds.at (dn := dn ++ [x]) (x := y) (r := []) (by rw [List.append_assoc]; exact hW)
   simpa using this
  have hl : dn.length < 7 := by simp at hl; omega
  have e0 : (IntKind.wrap .u32 ((([] : List Int).length + 1 : Nat) + 4294967295 : Int) != 0) = false := by rw [dec_w (by decide)]; rfl
  have e1 : IntKind.wrap .u32 ((([] : List Int).length + 1 : Nat) + 4294967295 : Int) = 0 := dec_w (by decide)
  by_cases hc : y < x
  ·obtain ⟨pa, cod⟩ := run_eq2 (D := D) (by decide) hD hP ((sort_s1 (n := n) (b := (([] : List Int).length + 1 : Nat)) (c := c) (d := d) (f := f) (g := g) (t := t) (B := B) (q := false) _ _ dn.length hl).mpr ⟨rfl, by rw [less_0, hx, hy]; simp [hc], rfl, e0, rfl, rfl⟩) (Nat.le_refl 73) (by show t + 11 < 1000000; simp at ht; omega)
   rw [e1] at pa
   refine ⟨11, _, _, _, _, by simp, pa, cod, ?_⟩
   have := hW.swap
   unfold bub bub
   rw [if_pos hc]
   simpa using this
  ·obtain ⟨pa, cod⟩ := run_eq2 (D := D) (by decide) hD hP ((sort_s0 (n := n) (b := (([] : List Int).length + 1 : Nat)) (c := c) (d := d) (f := f) (g := g) (t := t) (B := B) (q := false) _ _ dn.length hl).mpr ⟨rfl, by rw [less_0, hx, hy]; simp [hc], rfl, e0, rfl, rfl⟩) (Nat.le_refl 73) (by show t + 9 < 1000000; simp at ht; omega)
   rw [e1] at pa
   refine ⟨9, _, _, _, _, by simp, pa, cod, ?_⟩
   unfold bub bub
   rw [if_neg hc]
   exact hW
 | cons z r ih =>
  intro y x dn B c d f g t hP hl ht hW
  have hx := hW.at
  have hy : wA B (dn.length + 1) = y := by
   have := Wds.at (dn := dn ++ [x]) (x := y) (r := z :: r) (by rw [List.append_assoc]; exact hW)
   simpa using this
  have hl7 : dn.length < 7 := by simp at hl; omega
  have e1 : IntKind.wrap .u32 (((z :: r).length + 1 : Nat) + 4294967295 : Int) = (r.length + 1 : Nat) := dec_w (by simp at hl ⊢; omega)
  have e0 : (IntKind.wrap .u32 (((z :: r).length + 1 : Nat) + 4294967295 : Int) != 0) = true := by rw [e1]; simp; omega
  have ln : ∀ a : Int, (dn ++ [a]).length = dn.length + 1 := fun a => by simp
  by_cases hc : y < x
  ·obtain ⟨pa, cod⟩ := run_eq2 (D := D) (by decide) hD hP ((sort_s1 (n := n) (b := ((z :: r).length + 1 : Nat)) (c := c) (d := d) (f := f) (g := g) (t := t) (B := B) (q := true) _ _ dn.length hl7).mpr ⟨rfl, by rw [less_0, hx, hy]; simp [hc], rfl, e0, rfl, rfl⟩) (Nat.le_refl 73) (by show t + 11 < 1000000; simp at ht; omega)
   rw [e1] at pa
   have hW' := hW.swap
   obtain ⟨k, B', c', d', f', hk, pa2, cod2, hW2⟩ := ih z x (dn ++ [y]) (swB B dn.length) (wA B dn.length) (wA B (dn.length + 1)) (lessV B dn.length) g (t + 11) (hP.cod cod) (by rw [ln]; simp at hl ⊢; omega) (by simp at ht; omega) hW'
   rw [ln] at pa2
   refine ⟨11 + k, B', c', d', f', by simp; omega, ?_, cod.trans cod2, ?_⟩
   ·rw [show t + (11 + k) = t + 11 + k by omega, show dn.length + (z :: r).length + 1 = dn.length + 1 + r.length + 1 by simp; omega]
    exact pa.trans pa2
   ·have : bub x (y :: z :: r) = y :: bub x (z :: r) := if_pos hc
    rw [this]
    simpa using hW2
  ·obtain ⟨pa, cod⟩ := run_eq2 (D := D) (by decide) hD hP ((sort_s0 (n := n) (b := ((z :: r).length + 1 : Nat)) (c := c) (d := d) (f := f) (g := g) (t := t) (B := B) (q := true) _ _ dn.length hl7).mpr ⟨rfl, by rw [less_0, hx, hy]; simp [hc], rfl, e0, rfl, rfl⟩) (Nat.le_refl 73) (by show t + 9 < 1000000; simp at ht; omega)
   rw [e1] at pa
   obtain ⟨k, B', c', d', f', hk, pa2, cod2, hW2⟩ := ih z y (dn ++ [x]) B (wA B dn.length) (wA B (dn.length + 1)) (lessV B dn.length) g (t + 9) hP (by rw [ln]; simp at hl ⊢; omega) (by simp at ht; omega) (by rw [List.append_assoc]; exact hW)
   rw [ln] at pa2
   refine ⟨9 + k, B', c', d', f', by simp; omega, ?_, cod2, ?_⟩
   ·rw [show t + (9 + k) = t + 9 + k by omega, show dn.length + (z :: r).length + 1 = dn.length + 1 + r.length + 1 by simp; omega]
    exact pa.trans pa2
   ·have : bub x (y :: z :: r) = x :: bub y (z :: r) := if_neg hc
    rw [this]
    simpa using hW2
theorem imm_n {t s : Int} {k : Nat} (hk : k < 32768) : IntKind.wrap .u32 (0 + immL (rtiS 47 t s (k : Int))) = k := by
 have e : immL (rtiS 47 t s (k : Int)) = k := by
  have e0 : immL (rtiS 47 t s (k : Int)) = sxV ((k : Int) % 65536) := if_neg (by show ¬ ((47 : Int) = 50 ∨ (47 : Int) = 51 ∨ (47 : Int) = 52); decide)
  rw [e0]
  unfold sxV
  rw [if_pos (by omega)]; omega
 rw [e, wrap32]; omega
theorem sort_all (hD : D.ev = []) {q : Nat} : ∀ (j : Nat) (l : List Int) (B : Nat → Int) (a b c d f : Int) (t : Nat), Prog (pgs [0, 1]) 4 (imgI (sortL ((q + 2 : Nat) : Int)) []) B → l.length = q + 2 → q ≤ 6 → t + (j + 1) * 83 < 900000 → j < 100 → Wds B l →
  ∃ (k : Nat) (B' : Nat → Int) (a' b' c' d' f' : Int), k ≤ (j + 1) * (6 + 11 * (q + 1)) ∧ Path (pgs [0, 1]) 4 D k (toSt (rowR a b c d 0 f (j + 1 : Nat) 0 0 2147484676 t)) B (toSt (rowR a' b' c' d' 0 f' 0 0 0 2147484744 (t + k))) B' ∧ Cod (pgs [0, 1]) B B' ∧ Wds B' (bubN (j + 1) l) := by
 intro j
 induction j with
 | zero =>
  intro l B a b c d f t hP hl hq ht hj hW
  obtain ⟨x, y, r, rfl⟩ : ∃ x y r, l = x :: y :: r := by
   rcases l with _ | ⟨x, _ | ⟨y, r⟩⟩
   ·simp at hl
   ·simp at hl
   ·exact ⟨x, y, r, rfl⟩
  have hr : r.length = q := by simpa using hl
  obtain ⟨p1, _⟩ := run_eq2 (D := D) (by decide) hD hP ((sort_in (n := ((q + 2 : Nat) : Int)) (a := a) (b := b) (c := c) (d := d) (f := f) (g := ((0 + 1 : Nat) : Int)) (t := t) (B := B) _ _).mpr ⟨rfl, rfl⟩) (Nat.le_refl 73) (by show t + 3 < 1000000; omega)
  rw [show ((q + 2 : Nat) : Int) - 1 = ((r.length + 1 : Nat) : Int) by omega, imm_n (by omega)] at p1
  obtain ⟨k, B', c', d', f', hk, p2, cod, hW'⟩ := sort_pass (n := ((q + 2 : Nat) : Int)) hD r y x [] B c d f ((0 + 1 : Nat) : Int) (t + 3) hP (by simp; omega) (by omega) hW
  obtain ⟨p3, cod3⟩ := run_eq2 (D := D) (by decide) hD (hP.cod cod) ((sort_out (n := ((q + 2 : Nat) : Int)) (a := r1 (([] : List Int).length + r.length + 1)) (b := 0) (c := c') (d := d') (f := f') (g := ((0 + 1 : Nat) : Int)) (t := t + 3 + k) (B := B') (q := false) _ _).mpr ⟨rfl, by rw [dec_w (by decide)]; rfl, rfl, rfl⟩) (Nat.le_refl 73) (by show t + 3 + k + 3 < 1000000; omega)
  rw [dec_w (by decide)] at p3
  refine ⟨3 + k + 3, B', r1 (([] : List Int).length + r.length + 1), 0, c', d', f', by rw [hr] at hk; omega, ?_, cod, hW'⟩
  rw [show t + (3 + k + 3) = t + 3 + k + 3 by omega]
  exact (p1.trans p2).trans p3
 | succ j ih =>
  intro l B a b c d f t hP hl hq ht hj hW
  obtain ⟨x, y, r, rfl⟩ : ∃ x y r, l = x :: y :: r := by
   rcases l with _ | ⟨x, _ | ⟨y, r⟩⟩
   ·simp at hl
   ·simp at hl
   ·exact ⟨x, y, r, rfl⟩
  have hr : r.length = q := by simpa using hl
  obtain ⟨p1, _⟩ := run_eq2 (D := D) (by decide) hD hP ((sort_in (n := ((q + 2 : Nat) : Int)) (a := a) (b := b) (c := c) (d := d) (f := f) (g := ((j + 1 + 1 : Nat) : Int)) (t := t) (B := B) _ _).mpr ⟨rfl, rfl⟩) (Nat.le_refl 73) (by show t + 3 < 1000000; omega)
  rw [show ((q + 2 : Nat) : Int) - 1 = ((r.length + 1 : Nat) : Int) by omega, imm_n (by omega)] at p1
  obtain ⟨k, B', c', d', f', hk, p2, cod, hW'⟩ := sort_pass (n := ((q + 2 : Nat) : Int)) hD r y x [] B c d f ((j + 1 + 1 : Nat) : Int) (t + 3) hP (by simp; omega) (by omega) hW
  obtain ⟨p3, cod3⟩ := run_eq2 (D := D) (by decide) hD (hP.cod cod) ((sort_out (n := ((q + 2 : Nat) : Int)) (a := r1 (([] : List Int).length + r.length + 1)) (b := 0) (c := c') (d := d') (f := f') (g := ((j + 1 + 1 : Nat) : Int)) (t := t + 3 + k) (B := B') (q := true) _ _).mpr ⟨rfl, by rw [dec_w (by omega)]; simp; omega, rfl, rfl⟩) (Nat.le_refl 73) (by show t + 3 + k + 3 < 1000000; omega)
  rw [dec_w (by omega)] at p3
  obtain ⟨k2, B2, a2, b2, c2, d2, f2, hk2, p4, cod4, hW2⟩ := ih (bubL (x :: y :: r)) B' _ _ c' d' f' (t + 3 + k + 3) (hP.cod cod) (by rw [bubL_len]; exact hl) hq (by rw [hr] at hk; omega) (by omega) hW'
  refine ⟨3 + k + 3 + k2, B2, a2, b2, c2, d2, f2, ?_, ?_, cod.trans cod4, hW2⟩
  ·rw [hr] at hk
   have : (j + 1 + 1) * (6 + 11 * (q + 1)) = (j + 1) * (6 + 11 * (q + 1)) + (6 + 11 * (q + 1)) := Nat.succ_mul _ _
   omega
  ·rw [show t + (3 + k + 3 + k2) = t + 3 + k + 3 + k2 by omega]
   exact ((p1.trans p2).trans p3).trans p4
theorem sort_path (hD : D.ev = []) {q N : Nat} (hq : q ≤ 6) {l : List Int} (hl : l.length = q + 2) {B : Nat → Int} (hP : Prog (pgs [0, 1]) 4 (imgI (sortL ((q + 2 : Nat) : Int)) []) B) (hW : Wds B l) (hN : (q + 2) * (6 + 11 * (q + 1)) + 1 ≤ N) (hN2 : N < 800000) :
  ∃ S' B', Path (pgs [0, 1]) 4 D N St0 B S' B' ∧ Wds B' (bubN l.length l) := by
 have hb : (q + 2) * (6 + 11 * (q + 1)) ≤ 8 * 83 := Nat.mul_le_mul (by omega) (by omega)
 obtain ⟨p0, _⟩ := run_eq2 (D := D) (by decide) hD (s := sr0) hP ((sort_st (n := ((q + 2 : Nat) : Int)) (B := B) _ _).mpr ⟨rfl, rfl⟩) (by decide) (by decide)
 rw [imm_n (by omega), sr0_st] at p0
 obtain ⟨k, B', a', b', c', d', f', hk, p1, cod, hW'⟩ := sort_all hD (q := q) (q + 1) l B 0 0 0 0 0 1 hP hl hq (by omega) (by omega) hW
 have hk : k ≤ (q + 2) * (6 + 11 * (q + 1)) := hk
 obtain ⟨T, hT, p3⟩ := two_path (D := D) (by decide) hD (hP.cod cod) (fun t => rowR a' b' c' d' 0 f' 0 0 0 2147484744 t) (fun t => slotR a' b' c' d' 0 f' 0 0 0 2147484748 2147484744 t) (fun t => Nat.le_refl 73) (fun t => rfl)
  (fun t => by rw [sort_i2]; exact ⟨rfl, rfl⟩) (fun t => by rw [sort_i1]; exact ⟨rfl, rfl⟩) (N - (1 + k) + 1) (N - (1 + k)) (1 + k) (by omega) (by omega)
 refine ⟨toSt T, B', ?_, by rw [hl]; exact hW'⟩
 have := (p0.trans p1).trans p3
 rw [show [Hint.no].length + k + (N - (1 + k)) = N by show 1 + k + (N - (1 + k)) = N; omega] at this
 exact this
end
def ui (l : List Int) : Nat → AV := fun i => vu (l.getD i 0)
theorem at_i (i : Nat) (hi : i < 8) : IntKind.wrap .u32 (IntKind.wrap .i64 (2560 + IntKind.wrap .i64 (4 * (i : Int)))) = ((2560 + 4 * i : Nat) : Int) := by
 rw [wrap64 (n := 4 * (i : Int)) (by omega) (by omega), wrap64 (by omega) (by omega), wrap32]; omega
section
variable {m : Mem} {m0 : Mem} {C : Nat → Bool} {e : Nat} {q : BB} {c : Nat} {D : Dv} {n : Int} {S : St}
theorem kin_self {F : Nat → Prop} {m : Mem} : KeepsIn F m m := fun _ _ _ => rfl
theorem own_keep {m1 m2 : Mem} {v : AV} (h1 : Keeps m0 m1) (h2 : Keeps m0 m2) (hv : ∀ b, own v b → m0.obj b ≠ none) : KeepsIn (own v) m1 m2 := fun b hb _ => by
 rw [h2 b (hv b hb), h1 b (hv b hb)]
theorem sort_store {v0 : AV} {x1 x2 : Int} {nn n0 : Nat} {w : Nat → Int} (hn : nn ≤ 8) (hn0 : nn ≤ n0) (h0 : IsR m0 1 v0 n0 (fun i => .flat (.int .u32 (w i)))) (hw : ∀ i, i < n0 → isU (w i)) {k0 : Mem → Prop} {I : Int → In}
  (hk : ∀ m' B', AtF m0 (pgs [0, 1]) e q c 4 D n S B' m' → Prog (pgs [0, 1]) 4 I B' → (∀ j, j < nn → wA B' j = w j) → k0 m') :
  ∀ (f i : Nat) (B : Nat → Int) (m : Mem), i + f = nn + 1 → i ≤ nn → AtF m0 (pgs [0, 1]) e q c 4 D n S B m → Prog (pgs [0, 1]) 4 I B → (∀ j, j < i → wA B j = w j) → L11_10 v0 x1 x2 nn (.ptr e 0) f i m k0 := by
 intro f
 induction f with
 | zero => intro i B m h hi; omega
 | succ f ih =>
  intro i B m h hi hA hP hB
  show R11_10 _ _ _ _ _ _ _ _ _
  unfold R11_10
  by_cases c : i < nn
  rotate_left
  ·have : i = nn := by omega
   subst this
   exact kif_f (by simp) (hk m B hA hP hB)
  refine kif_t (by simp; omega) ⟨own v0, ?_⟩
  dsimp only [kptr]
  refine hA.bus ⟨kin_self, ?_⟩
  dsimp only
  refine hA.ram ⟨kin_self, ?_⟩
  obtain ⟨b, o, cap, y, rfl, hy, hb, hc⟩ := (h0.keep hA.K).at (by omega)
  refine kif_ix (by omega) (by omega) ⟨rfl, ?_⟩
  have hcell : y.c (o + (i : Int).toNat * 1) = .flat (.int .u32 (w i)) := by
   rw [Int.toNat_natCast, hc (i * 1) (by omega), Nat.mul_one]
  rw [ldI_of hy (by rw [Int.toNat_natCast]; omega) hcell]
  dsimp only
  rw [at_i i (by omega), wrap64 (n := (i : Int) + 1) (by omega) (by omega), show (i : Int) + 1 = ((i + 1 : Nat) : Int) by omega]
  refine hA.store ⟨by omega, by omega⟩ ⟨by simp, by omega, by unfold inR; omega⟩ ?_ fun m' A' _ => ⟨own_keep hA.K A'.K (fun b hb => h0.live hb), ?_⟩
  ·have : (((2560 + 4 * i : Nat) : Int) / 1024).toNat = 2 := by omega
   rw [this]; rfl
  refine ih (i + 1) _ m' (by omega) (by omega) A' (hP.cod (stv_cod (p := 4) (a := ((2560 + 4 * i : Nat) : Int)) (n := 4) (by omega) ⟨by simp, by omega, by unfold inR; omega⟩ ?_)) fun j hj => ?_
  ·have : (((2560 + 4 * i : Nat) : Int) / 1024).toNat = 2 := by omega
   rw [this]; rfl
  ·rw [wA_stv (hw i (by omega))]
   split
   ·rename_i e; rw [e]
   ·exact hB j (by omega)
theorem sort_pos {v0 v12 : AV} {x7 : Int} {v10 : AV} {n0 i : Nat} {w : Nat → Int} (hi : i < n0) (hn : n0 < 9223372036854775808) (h0 : IsR m 1 v0 n0 (fun i => .flat (.int .u32 (w i)))) {l : List Int} (hl : l.length ≤ 8) (h1 : IsR m 1 v12 l.length (ui l)) {k4 : Int → Mem → Prop}
  (hk : ∀ k : Nat, k ≤ l.length → (k = 0 ∨ l.getD (k - 1) 0 ≤ w i) → (∀ j, k ≤ j → j < l.length → w i < l.getD j 0) → k4 k m) :
  ∀ (f k : Nat), k < f → k ≤ l.length → (∀ j, k ≤ j → j < l.length → w i < l.getD j 0) → L11_19 v0 x7 v10 v12 i f k m k4 := by
 intro f
 induction f with
 | zero => intro k h; omega
 | succ f ih =>
  intro k h hkl hg
  show R11_19 _ _ _ _ _ _ _ _ _
  unfold R11_19
  by_cases c : k = 0
  ·subst c
   exact kif_f (by simp) (hk 0 (by omega) (.inl rfl) hg)
  have e1 : IntKind.wrap .i64 ((k : Int) - 1) = ((k - 1 : Nat) : Int) := by rw [wrap64 (by omega) (by omega)]; omega
  rw [e1]
  refine kif_t (by simp; omega) (ldI_r h1 (by omega) (by omega) (x := l.getD (k - 1) 0) (by rw [Int.toNat_natCast]; rfl) fun _ _ _ => ldI_r h0 (by omega) (by omega) (x := w i) (by rw [Int.toNat_natCast]) fun _ _ _ => ?_)
  refine kif_c _ (fun c1 => ?_) fun c1 => ?_
  ·have c1 : w i < l.getD (k - 1) 0 := by simpa using c1
   refine ih (k - 1) (by omega) (by omega) fun j h2 h3 => ?_
   by_cases e : j = k - 1
   ·rw [e]; exact c1
   ·exact hg j (by omega) h3
  ·have c1 : l.getD (k - 1) 0 ≤ w i := by simpa using c1
   exact hk k hkl (.inr c1) hg
theorem ui_app {a b : List Int} : ∀ i, i < (a.length + b.length) * 1 → cat 1 a.length (ui a) (ui b) i = ui (a ++ b) i := fun i hi => by
 unfold cat ui
 by_cases c : i < a.length
 ·rw [if_pos (by omega)]
  simp [List.getD, List.getElem?_append_left c]
 ·rw [if_neg (by omega), Nat.mul_one]
  simp [List.getD, List.getElem?_append_right (Nat.le_of_not_lt c)]
theorem take_mem {l : List Int} {k : Nat} {x : Int} (hk : k ≤ l.length) (hs : l.Pairwise (· ≤ ·)) (h : k = 0 ∨ l.getD (k - 1) 0 ≤ x) : ∀ a ∈ l.take k, a ≤ x := by
 intro a ha
 rcases h with rfl | h
 ·simp at ha
 obtain ⟨j, hj, rfl⟩ := List.getElem_of_mem ha
 rw [List.length_take] at hj
 rw [List.getElem_take]
 have hk1 : k - 1 < l.length := by omega
 have e : l.getD (k - 1) 0 = l[k - 1] := by simp [List.getD, hk1]
 rw [e] at h
 by_cases c : j = k - 1
 ·subst c; exact h
 ·have := List.pairwise_iff_getElem.1 hs j (k - 1) (by omega) hk1 (by omega)
  omega
theorem drop_mem {l : List Int} {k : Nat} {x : Int} (h : ∀ j, k ≤ j → j < l.length → x < l.getD j 0) : ∀ a ∈ l.drop k, x ≤ a := by
 intro a ha
 obtain ⟨j, hj, rfl⟩ := List.getElem_of_mem ha
 rw [List.length_drop] at hj
 rw [List.getElem_drop]
 have := h (k + j) (by omega) (by omega)
 have e : l.getD (k + j) 0 = l[k + j] := by simp [List.getD, show k + j < l.length by omega]
 rw [e] at this
 omega
theorem sort_want {v0 : AV} {nn n0 : Nat} {w : Nat → Int} {v10 : AV} (hn : nn ≤ 8) (hn0 : nn ≤ n0) (hm : n0 < 9223372036854775808) (h0 : IsR m0 1 v0 n0 (fun i => .flat (.int .u32 (w i)))) {k2 : AV → Mem → Prop}
  (hk : ∀ v m' l, IsL m' 1 v l.length (ui l) → Keeps m0 m' → l.Perm ((List.range nn).map w) → l.Pairwise (· ≤ ·) → k2 v m') :
  ∀ (f i : Nat) (v : AV) (m : Mem) (l : List Int), i + f = nn + 1 → i ≤ nn → IsL m 1 v l.length (ui l) → Keeps m0 m → (∀ b, own v b → m0.obj b = none) → l.Perm ((List.range i).map w) → l.Pairwise (· ≤ ·) → L11_16 v0 nn v10 f v i m k2 := by
 intro f
 induction f with
 | zero => intro i v m l h hi; omega
 | succ f ih =>
  intro i v m l h hi hv K o hp hs
  show R11_16 _ _ _ _ _ _ _ _
  unfold R11_16
  by_cases c : i < nn
  rotate_left
  ·have : i = nn := by omega
   subst this
   exact kif_f (by simp) (hk v m l hv K hp hs)
  have hll : l.length = i := by rw [hp.length_eq]; simp
  refine kif_t (by simp; omega) ?_
  rw [klen_r hv.r]
  have ow : ∀ b, own v0 b → m0.obj b ≠ none := fun b hb => h0.live hb
  refine ⟨l.length + 1, sort_pos (w := w) (by omega) hm (h0.keep K) (by omega) hv.r (fun k hkl h1 h2 => ⟨own v0, newK_i fun b91 m90 hb91 K90 e90 _ => ?_⟩) (l.length + 1) l.length (by omega) (by omega) (fun j h1 h2 => by omega)⟩
  have K90' := K.trans K90
  have lt : (l.take k).length = k := by rw [List.length_take]; omega
  refine slS_s (hv.s.keep K90) (lo := none) (hi := some (k : Int)) (l := 0) (u := k) rfl rfl (by omega) hkl fun v92 h92 _ => ?_
  have r92 : IsR m90 1 v92 (l.take k).length (ui (l.take k)) := by
   have := h92.1
   rw [Nat.sub_zero] at this
   rw [lt]
   refine this.congr fun j hj => ?_
   show ui l (0 * 1 + j) = ui (l.take k) j
   unfold ui
   have hj : j < k := by omega
   rw [Nat.zero_mul, Nat.zero_add]
   simp [List.getD, List.getElem?_take, hj]
  have l91 : IsL m90 1 (.sl b91 0 0 (.ex 0)) 0 (ui []) := .sl b91 0 0 (.ex 0) _ _ e90 (by decide) (fun i hi => by omega) rfl ⟨by decide, by decide⟩
  refine appL l91 r92 (by rw [lt]; omega) fun v93 m94 h93 F94 o93 => ?_
  have K94 : Keeps m m94 := Fr.keeps K90 F94 fun x hx => by cases hx; exact hb91
  have K94' := K.trans K94
  refine ⟨own_keep K90' K94' ow, ?_⟩
  obtain ⟨b, o', cap, y, rfl, hy, hb, hc⟩ := (h0.keep K94').at (by omega)
  refine kif_ix (by omega) (by omega) ⟨rfl, ?_⟩
  have hcell : y.c (o' + (i : Int).toNat * 1) = .flat (.int .u32 (w i)) := by
   rw [Int.toNat_natCast, hc (i * 1) (by omega), Nat.mul_one]
  rw [ldI_of hy (by rw [Int.toNat_natCast]; omega) hcell]
  refine newK_i fun b101 m100 hb101 K100 e100 _ => ?_
  have K100' := K94'.trans K100
  have l93 : IsL m100 1 v93 (l.take k).length (ui (l.take k)) := by
   have := (h93.keep K100)
   rw [Nat.zero_add] at this
   exact this.congr fun j hj => rfl
  have r101 : IsR m100 1 (.sl b101 0 1 (.ex 1)) ([w i] : List Int).length (ui [w i]) := .sl b101 0 1 (.ex 1) _ _ e100 (by show (0 + 1 * 1 : Nat) ≤ 1; decide) fun t ht => by
   have : t = 0 := by simpa using ht
   subst this; rfl
  refine appL l93 r101 (by rw [lt]; show (k + 1) * 5 ≤ _; omega) fun v102 m103 h102 F103 o102 => ?_
  have f93 : ∀ x, own v93 x → m.obj x = none := fun x hx => (o93 x hx).elim (fun t => by cases t; exact hb91) (newK_none K90)
  have K103 : Keeps m m103 := Fr.keeps (K94.trans K100) F103 f93
  have K103' := K.trans K103
  refine ⟨own_keep K100' K103' ow, ?_⟩
  refine slS_s (hv.s.keep K103) (lo := some (k : Int)) (hi := none) (l := k) (u := l.length) rfl rfl hkl (Nat.le_refl _) fun v104 h104 _ => ?_
  have ld : (l.drop k).length = l.length - k := List.length_drop
  have r104 : IsR m103 1 v104 (l.drop k).length (ui (l.drop k)) := by
   rw [ld]
   refine h104.1.congr fun j hj => ?_
   show ui l (k * 1 + j) = ui (l.drop k) j
   unfold ui
   simp [List.getD, List.getElem?_drop]
  have l102 : IsL m103 1 v102 (l.take k ++ [w i]).length (ui (l.take k ++ [w i])) := by
   rw [List.length_append]
   exact h102.congr ui_app
  refine appL l102 r104 (by rw [List.length_append, lt, ld]; show (k + 1 + (l.length - k)) * 5 ≤ _; omega) fun v105 m106 h105 F106 o105 => ?_
  have f102 : ∀ x, own v102 x → m.obj x = none := fun x hx => (o102 x hx).elim (f93 x) (newK_none (K94.trans K100))
  have K106 : Keeps m m106 := Fr.keeps K103 F106 f102
  have K106' := K.trans K106
  refine ⟨own_keep K103' K106' ow, ?_⟩
  rw [wrap64 (n := (i : Int) + 1) (by omega) (by omega), show (i : Int) + 1 = ((i + 1 : Nat) : Int) by omega]
  have eI : l.take k ++ [w i] ++ l.drop k = insAt k (w i) l := by unfold insAt; rw [List.append_assoc]; rfl
  have h105' : IsL m106 1 v105 (insAt k (w i) l).length (ui (insAt k (w i) l)) := by
   rw [← eI, List.length_append]
   exact h105.congr ui_app
  refine ih (i + 1) v105 m106 (insAt k (w i) l) (by omega) (by omega) h105' K106' (fun x hx => (o105 x hx).elim (fun t => newK_none K (f102 x t)) (newK_none K103')) ?_ (ins_sorted hs (take_mem hkl hs h1) (drop_mem h2))
  rw [List.range_succ, List.map_append]
  exact ((ins_perm k (w i) l).trans (hp.cons (w i))).trans (List.perm_append_comm (l₁ := [w i]))
theorem sort_cmp {nn : Nat} {l : List Int} (hl : l.length = nn) (hn : nn ≤ 8) {v : AV} (hv : IsR m 1 v l.length (ui l)) {B : Nat → Int} (hA : AtF m0 C e q c 4 D n S B m) (hB : ∀ i, i < nn → wA B i = l.getD i 0) {k6 : Mem → Prop} {kr : Bool → Mem → Prop} (hk : k6 m) :
  ∀ (f i : Nat), i + f = nn + 1 → i ≤ nn → L11_23 nn (.ptr e 0) v f i m k6 kr := by
 intro f
 induction f with
 | zero => intro i h hi; omega
 | succ f ih =>
  intro i h hi
  show R11_23 _ _ _ _ _ _ _ _
  unfold R11_23
  by_cases c : i < nn
  rotate_left
  ·exact kif_f (by simp; omega) hk
  refine kif_t (by simp; omega) ?_
  dsimp only [kptr]
  refine hA.bus ?_
  dsimp only
  refine hA.ram ?_
  dsimp only
  rw [at_i i (by omega), wrap64 (n := (i : Int) + 1) (by omega) (by omega), show (i : Int) + 1 = ((i + 1 : Nat) : Int) by omega]
  refine hA.load ⟨by omega, by omega⟩ ⟨by simp, by omega, by unfold inR; omega⟩ ?_
  have ew : ldv (fun t => B (((2560 + 4 * i : Nat) : Int).toNat + t)) (Int.toNat 4) = l.getD i 0 := hB i c
  rw [ew]
  refine kif_f rfl (ldI_r hv (by omega) (by omega) (x := l.getD i 0) (by rw [Int.toNat_natCast]; rfl) fun _ _ _ => ?_)
  exact kif_f (by simp) (ih (i + 1) (by omega) (by omega))
end
section
variable {m : Mem}
theorem TopSorts {v0 : AV} {x1 x2 : Int} {n0 : Nat} {w : Nat → Int} (h0 : IsR m 1 v0 n0 (fun i => .flat (.int .u32 (w i)))) (hm : n0 < 9223372036854775808) (hw : ∀ i, i < n0 → isU (w i)) {k : Bool → Mem → Prop} (hk : ∀ m', k true m') : F11 v0 x1 x2 m k := by
 unfold F11
 rw [klen_r h0]
 obtain ⟨nn, en, hn, hn0⟩ : ∃ nn : Nat, (if (8 : Int) < (n0 : Int) then (8 : Int) else (n0 : Int)) = nn ∧ nn ≤ 8 ∧ nn ≤ n0 := ⟨min n0 8, by split <;> omega, by omega, by omega⟩
 rw [en]
 refine kif_c _ (fun _ => awake_spec hk) fun c2 => ?_
 obtain ⟨qq, rfl⟩ : ∃ qq, nn = qq + 2 := ⟨nn - 2, by simp at c2; omega⟩
 have e1 : IntKind.wrap .u32 (IntKind.wrap .i64 (((qq + 2 : Nat) : Int) - 1)) = ((qq + 2 : Nat) : Int) - 1 := by rw [wrap64 (by omega) (by omega), wrap32]; omega
 have e2 : IntKind.wrap .u32 ((qq + 2 : Nat) : Int) = ((qq + 2 : Nat) : Int) := by rw [wrap32]; omega
 rw [e1, e2]
 refine li_spec ⟨by decide, by decide⟩ fun b4 m5 _ K5 i5 => rti_spec ⟨by omega, by omega⟩ fun c6 h6 => rti_spec ⟨by decide, by decide⟩ fun c8 h8 => rti_spec ⟨by decide, by decide⟩ fun c10 h10 => rrr_spec fun c12 h12 => rti_spec ⟨by decide, by decide⟩ fun c14 h14 => rti_spec ⟨by decide, by decide⟩ fun c16 h16 => rti_spec ⟨by decide, by decide⟩ fun c18 h18 => rti_spec ⟨by decide, by decide⟩ fun c20 h20 => newK_i fun b23 m22 _ K22 e22 _ => ?_
 have i22 := row_in [c6, c8, c10, c12, _, _, c14, c16, c18, c20] [rtiS 47 2 0 (((qq + 2 : Nat) : Int) - 1), rtiS 68 3 1 0, rtiS 68 4 1 4, rrrS 31 6 4 3, ⟨42, 6, 0, 0, 0, 3⟩, nopS, rtiS 73 4 1 0, rtiS 73 3 1 4, rtiS 47 1 1 4, rtiS 47 2 2 65535] e22 ⟨h6, h8, h10, h12, ⟨rfl, rfl, rfl, rfl, rfl, rfl⟩, ⟨rfl, rfl, rfl, rfl, rfl, rfl⟩, h14, h16, h18, h20, trivial⟩
 refine back_spec (by decide) (by decide) fun b24 m25 _ K25 i25 => kif_t rfl (kif_t rfl (newK_i fun b27 m26 _ K26 e26 _ => ?_))
 refine join_of [.sl b4 0 2 (.ex 2), .sl b23 0 10 (.ex 10), .sl b24 0 2 (.ex 2)] [liS 1 2147486208, _, backS 43 2 0 9] e26 ⟨i5.keep ((K22.trans K25).trans K26), i22.keep (K25.trans K26), i25.keep K26, trivial⟩ (by show (3 : Nat) ≤ 20; decide) rfl fun v28 m29 i29 K29 o29 => ?_
 have i29 : IsIn m29 v28 (sortP ((qq + 2 : Nat) : Int)) := i29
 refine rti_spec ⟨by omega, by omega⟩ fun c30 h30 => newK_i fun b33 m32 _ K32 e32 _ => ?_
 have i32 := row_in [c30] [rtiS 47 7 0 ((qq + 2 : Nat) : Int)] e32 ⟨h30, trivial⟩
 refine rti_spec ⟨by decide, by decide⟩ fun c34 h34 => newK_i fun b37 m36 _ K36 e36 _ => ?_
 have i36 := row_in [c34] [rtiS 47 7 7 65535] e36 ⟨h34, trivial⟩
 rw [i29.len]
 have e15 : IntKind.wrap .i64 ((((sortP ((qq + 2 : Nat) : Int)).length : Nat) : Int) + 1) = 15 := rfl
 rw [e15]
 refine back_spec (by decide) (by decide) fun b39 m40 _ K40 i40 => idle_spec fun b41 m42 _ K42 i42 => kif_t i29.one (kif_t rfl (kif_t rfl (newK_i fun b44 m43 _ K43 e43 _ => ?_)))
 refine join_of [.sl b33 0 1 (.ex 1), v28, .sl b37 0 1 (.ex 1), .sl b39 0 2 (.ex 2), .sl b41 0 2 (.ex 2)] [_, sortP ((qq + 2 : Nat) : Int), _, backS 43 7 0 15, backS 42 0 0 0] e43
  ⟨i32.keep (((K36.trans K40).trans K42).trans K43), i29.keep ((((K32.trans K36).trans K40).trans K42).trans K43), i36.keep ((K40.trans K42).trans K43), i40.keep (K42.trans K43), i42.keep K43, trivial⟩ (by show (5 : Nat) ≤ 20; decide) rfl fun v45 m46 i46 K46 o46 => ?_
 have i46 : IsIn m46 v45 (sortL ((qq + 2 : Nat) : Int)) := i46
 refine prog_mach i46 (by show (20 : Nat) ≤ 700; decide) sort_r (pgs [0, 1]) fun m1 e q c m50 Kb A50 => ?_
 rw [nilP_ptr]
 refine kif_f rfl ?_
 have Ka : Keeps m m1 := (((((((((K5.trans K22).trans K25).trans K26).trans K29).trans K32).trans K36).trans K40).trans K42).trans K43).trans (K46.trans Kb)
 have hP := img_prog (sort_r (n := ((qq + 2 : Nat) : Int))) (h := []) (fun x hx => by simp at hx) (by show (20 : Nat) ≤ 768; decide) (by decide) (pgs [0, 1])
 have h1 := h0.keep Ka
 refine ⟨qq + 2 + 1, sort_store hn hn0 h1 hw (fun m70 B70 A70 P70 W70 => ?_) (qq + 2 + 1) 0 _ m50 (by omega) (by omega) A50 hP (fun j hj => by omega)⟩
 dsimp only [kptr]
 have hN : IntKind.wrap .i64 (IntKind.wrap .i64 (((qq + 2 : Nat) : Int) * IntKind.wrap .i64 (IntKind.wrap .i64 (((qq + 2 : Nat) : Int) * 12) + 10)) + 20) = (((qq + 2) * ((qq + 2) * 12 + 10) + 20 : Nat) : Int) := by
  have hq : qq = 0 ∨ qq = 1 ∨ qq = 2 ∨ qq = 3 ∨ qq = 4 ∨ qq = 5 ∨ qq = 6 := by omega
  rcases hq with rfl | rfl | rfl | rfl | rfl | rfl | rfl <;> decide
 rw [hN]
 have hb : (qq + 2) * ((qq + 2) * 12 + 10) ≤ 8 * 106 := Nat.mul_le_mul (by omega) (by omega)
 have hb2 : (qq + 2) * (6 + 11 * (qq + 1)) ≤ (qq + 2) * ((qq + 2) * 12 + 10) := Nat.mul_le_mul (Nat.le_refl _) (by omega)
 have wl : Wds B70 ((List.range (qq + 2)).map w) := fun i hi => by
  have hi : i < qq + 2 := by simpa using hi
  rw [W70 i hi]
  simp [List.getD, hi]
 obtain ⟨S', B', pa, hW⟩ := sort_path (D := D0) rfl (q := qq) (N := (qq + 2) * ((qq + 2) * 12 + 10) + 20) (by omega) (l := (List.range (qq + 2)).map w) (by simp) P70 wl (by omega) (by omega)
 refine AtF.top (by decide) (by omega) pa A70 fun m74 A74 => ?_
 refine ⟨qq + 2 + 1, sort_want (m0 := m74) hn hn0 hm (h1.keep A74.K) (fun v m' l hv K' hp hs => ?_) (qq + 2 + 1) 0 _ m74 [] (by omega) (by omega) (.nil none _) (Keeps.self m74) (fun b hb => hb.elim) (.refl _) .nil⟩
 have hll : l.length = qq + 2 := by rw [hp.length_eq]; simp
 have hel := sort_eq hp.symm.symm hs
 rw [hel] at hW
 exact ⟨qq + 2 + 1, sort_cmp hll hn hv.r (A74.keep K') (fun i hi => hW i (by omega)) (awake_spec hk) (qq + 2 + 1) 0 (by omega) (by omega)⟩
end
theorem TopSorts_law {m : Mem} {v0 : AV} {x1 x2 : Int} (h0 : Ty m (.sl [.i .u32]) v0) (_ : (Lit.int .i64 x1).wf = true) (_ : (Lit.int .i64 x2).wf = true) : F11 v0 x1 x2 m isTrue := by
 have hlen : ∃ (n : Nat) (f : Nat → Int), IsR m 1 v0 n (fun i => .flat (.int .u32 (f i))) ∧ (∀ i, i < n → isU (f i)) ∧ n < 9223372036854775808 := by
  obtain ⟨n0, w, hr, hw⟩ := u32s_ty h0
  cases h0 with
  | nil ls a => exact ⟨n0, w, hr, hw, by cases hr; decide⟩
  | sl ls b len cap x h1 h2 h3 h4 h5 h6 =>
   refine ⟨n0, w, hr, hw, ?_⟩
   have : n0 ≤ cap := by cases hr; exact h1
   have : maxLen < 9223372036854775808 := by decide
   omega
 obtain ⟨n0, w, hr, hw, hm⟩ := hlen
 exact TopSorts hr hm hw fun _ => rfl
end Go.Proofs.YtkiggdgphbkneaaGreat.Am
