/- What the top laws' functions share: rows of instructions in blocks, a machine with a program, its State in a box. Conditions: instructions that are right. The program of products: its rounds, its path. Conditions: words. Memory of a machine written and read fr -/
import Derived.Test.YtkiggdgphbkneaaGreatTopTextsX27
namespace Go.Proofs.YtkiggdgphbkneaaGreat.Am
set_option linter.unusedVariables false
set_option linter.unusedSimpArgs false
set_option maxRecDepth 100000
def spl : (Nat → AV) → List (Nat → AV) → Nat → (Nat → AV)
 | z, [], _ => z
 | z, c :: cs, i => spl (splice z (i * 6) 6 c) cs (i + 1)
theorem spl_lo : ∀ (cs : List (Nat → AV)) (z : Nat → AV) (i j : Nat), j < i * 6 → spl z cs i j = z j
 | [], z, i, j, h => rfl
 | c :: cs, z, i, j, h => by
  show spl (splice z (i * 6) 6 c) cs (i + 1) j = _
  rw [spl_lo cs _ (i + 1) j (by omega)]
  unfold splice; rw [if_neg (by omega)]
theorem spl_in : ∀ (cs : List (Nat → AV)) (l : List In) (z : Nat → AV) (i : Nat), All2 InC cs l → ∀ q, q < l.length → InC (fun j => spl z cs i ((i + q) * 6 + j)) (atI l q)
 | [], [], z, i, h, q, hq => by simp at hq
 | c :: cs, x :: l, z, i, h, 0, hq => by
  refine InC.congr (c := c) h.1 fun j hj => ?_
  show spl (splice z (i * 6) 6 c) cs (i + 1) ((i + 0) * 6 + j) = _
  rw [spl_lo cs _ (i + 1) _ (by omega)]
  unfold splice; rw [if_pos (by omega)]; congr 1; omega
 | c :: cs, x :: l, z, i, h, q + 1, hq => by
  have := spl_in cs l (splice z (i * 6) 6 c) (i + 1) h.2 q (by simpa using hq)
  have e : i + 1 + q = i + (q + 1) := by omega
  rw [e] at this
  exact this
 | [], _ :: _, _, _, h, _, _ => h.elim
 | _ :: _, [], _, _, h, _, _ => h.elim
section
variable {m : Mem}
theorem row_in {b : Nat} {z : Nat → AV} {t : TypeId} (cs : List (Nat → AV)) (l : List In) (e : m.obj b = some ⟨l.length * 6, spl z cs 0, t, false⟩) (h : All2 InC cs l) : IsIn m (.sl b 0 l.length (.ex l.length)) l :=
 IsIn.row e rfl rfl fun i hi => by
  have := spl_in cs l z 0 h i hi
  rw [Nat.zero_add] at this
  exact this
def upl : (Nat → AV) → List AV → Nat → (Nat → AV)
 | z, [], _ => z
 | z, v :: vs, i => upl (upd z i v) vs (i + 1)
theorem upl_lo : ∀ (vs : List AV) (z : Nat → AV) (i j : Nat), j < i → upl z vs i j = z j
 | [], z, i, j, h => rfl
 | v :: vs, z, i, j, h => by
  show upl (upd z i v) vs (i + 1) j = _
  rw [upl_lo vs _ (i + 1) j (by omega)]
  unfold upd; rw [if_neg (by omega)]
theorem upl_at : ∀ (vs : List AV) (z : Nat → AV) (i q : Nat), q < vs.length → upl z vs i (i + q) = lget vs q
 | [], z, i, q, h => by simp at h
 | v :: vs, z, i, 0, h => by
  show upl (upd z i v) vs (i + 1) (i + 0) = v
  rw [upl_lo vs _ (i + 1) _ (by omega)]
  unfold upd; rw [if_pos (Nat.add_zero i)]
 | v :: vs, z, i, q + 1, h => by
  show upl (upd z i v) vs (i + 1) (i + (q + 1)) = lget vs q
  rw [← upl_at vs (upd z i v) (i + 1) q (by simpa using h)]
  congr 1; omega
theorem all2_at {α β : Type} {R : α → β → Prop} {d : α} : ∀ {xs : List α} {ys : List β}, All2 R xs ys → ∀ i, (h : i < ys.length) → R (xs.getD i d) ys[i]
 | _ :: _, _ :: _, h, 0, hi => h.1
 | _ :: _, _ :: _, h, i + 1, hi => all2_at h.2 i (by simpa using hi)
 | [], [], _, i, hi => by simp at hi
theorem lget_getD : ∀ (vs : List AV) (i : Nat), i < vs.length → lget vs i = vs.getD i .junk
 | v :: vs, 0, _ => rfl
 | v :: vs, i + 1, h => by
  show lget vs i = _
  rw [lget_getD vs i (by simpa using h)]; rfl
 | [], i, h => by simp at h
theorem join_of {b : Nat} {z : Nat → AV} {t : TypeId} {ro : Bool} (vs : List AV) (Ls : List (List In)) (e : m.obj b = some ⟨Ls.length, upl z vs 0, t, ro⟩) (h : All2 (IsIn m) vs Ls) (hl : Ls.length ≤ 20) (hl2 : (Ls.all fun l => Nat.ble l.length 100) = true) {k : AV → Mem → Prop} (hk : ∀ v m', IsIn m' v Ls.flatten → Keeps m m' → (∀ x, own v x → m.obj x = none) → k v m') : F17 (.sl b 0 Ls.length (.ex Ls.length)) m k := by
 have hn := h.length
 refine join_spec ⟨⟨_, e, rfl, fun i hi => ?_⟩, hn, fun i hi => ?_⟩ hl (fun l hm => Nat.le_of_ble_eq_true (List.all_eq_true.1 hl2 l hm)) hk
 ·have := upl_at vs z 0 i (by omega)
  rw [Nat.zero_add] at this; exact this
 ·rw [lget_getD vs i (by omega)]
  exact all2_at h i hi
def D0 : Dv := { nd := (0 + 63) / 64 * 64, dk := imgB 0 fun _ => 0 }
theorem imgP_nil (l : List In) : imgB 4096 (imgS (l.length * 4) (byOf l) 0 fun _ => 0) = imgP l [] := by
 funext j
 unfold imgP imgB imgS
 split
 ·split
  ·rfl
  ·rw [if_neg (by omega), if_neg (by simp)]
 ·rfl
theorem prog_mach {v : AV} {l : List In} (h : IsIn m v l) (hl : l.length ≤ 700) (ho : ∀ x ∈ l, InR x) {most : Int} (C : Nat → Bool) {k : AV → Mem → Prop} (hk : ∀ m1 e q c m', Keeps m m1 → AtF m1 C e q c 4 D0 (clN most) St0 (imgP l []) m' → k (.ptr e 0) m') : F16 v m fun v2 m2 => F23 v2 (.flat (.slice none 0 0)) most m2 k := by
 refine code_spec h (by omega) (fun x hx => (ho x hx).i0) fun v2 m2 L2 K2 o2 => ?_
 refine machine_spec L2.r (fun i => byOf_rng _ i) (by omega) (v2 := .flat (.slice none 0 0)) (nd := 0) (fd := fun _ => 0) (.nil none _) (fun i hi => by omega) (by omega) C fun m1 e q c m3 K3 A3 => hk m1 e q c m3 (K2.trans K3) ?_
 rw [imgP_nil] at A3
 exact A3
variable {m0 : Mem} {C : Nat → Bool} {e : Nat} {q : BB} {c : Nat} {p : Nat} {D : Dv} {n : Int} {S : St} {B : Nat → Int}
theorem AtF.K (h : AtF m0 C e q c p D n S B m) : Keeps m0 m := by
 obtain ⟨cap, l, Sc, made, used, S1, M, u, hn, hp, E⟩ := h
 exact E.K
theorem AtF.keep {m' : Mem} (h : AtF m0 C e q c p D n S B m) (K : Keeps m m') : AtF m0 C e q c p D n S B m' := by
 obtain ⟨cap, l, Sc, made, used, h⟩ := h
 exact ⟨cap, l, Sc, made, used, h.keep K⟩
theorem nilP_ptr (b o : Nat) (K : Bool → Prop) : knilP (.ptr b o) K = K false := rfl
theorem run_eq {I : Int → In} (hp : p ≤ 64) (hD : D.ev = []) {l : List Hint} {s T : Sr} (hl : s.n.length ≤ 73) (hP : Prog C p I B) (ht : s.t + l.length < 1000000) (h : runK C p I l s B fun s' B' => s' = T ∧ B' = B) : Path C p D l.length (toSt s) B (toSt T) B := by
 obtain ⟨s', B', pa, _, _, _, e1, e2⟩ := run_ok (D := D) hp hD l hl hP ht h
 subst e1 e2
 exact pa
theorem two_path {I : Int → In} (hp : p ≤ 64) (hD : D.ev = []) (hP : Prog C p I B) (f g : Nat → Sr) (hf : ∀ t, (f t).n.length ≤ 73) (ht : ∀ t, (f t).t = t) (h2 : ∀ t, runK C p I [.no, .no] (f t) B fun s' B' => s' = f (t + 2) ∧ B' = B) (h1 : ∀ t, runK C p I [.no] (f t) B fun s' B' => s' = g (t + 1) ∧ B' = B) :
  ∀ (k n t : Nat), n < k → t + n < 900000 → ∃ T, (T = f (t + n) ∨ T = g (t + n)) ∧ Path C p D n (toSt (f t)) B (toSt T) B
 | 0, n, t, h, _ => by omega
 | k + 1, 0, t, h, _ => ⟨_, .inl rfl, .nil _ _⟩
 | k + 1, 1, t, h, hb => ⟨_, .inr rfl, run_eq hp hD (hf t) hP (by rw [ht]; show t + 1 < 1000000; omega) (h1 t)⟩
 | k + 1, n + 2, t, h, hb => by
  obtain ⟨T, hT, pa⟩ := two_path hp hD hP f g hf ht h2 h1 k n (t + 2) (by omega) (by omega)
  refine ⟨T, by rw [show t + (n + 2) = t + 2 + n by omega]; exact hT, ?_⟩
  have := (run_eq (D := D) hp hD (hf t) hP (by rw [ht]; show t + 2 < 1000000; omega) (h2 t)).trans pa
  rw [show [Hint.no, Hint.no].length + n = n + 2 by show 2 + n = n + 2; omega] at this
  exact this
end
theorem all_r {l : List In} (h : l.all inOk2 = true) : ∀ x ∈ l, InR x := fun x hx => inOk2_r (List.all_eq_true.1 h x hx)
def rowR (r1 r2 r3 r4 r5 r6 r7 r8 r9 pc : Int) (t : Nat) : Sr := ⟨[0, r1, r2, r3, r4, r5, r6, r7, r8, r9, 0, 0, 0, 0, 0, 0, 0, 0, 0, 0, 0, 0, 0, 0, 0, 0, 0, 0, 0, 0, 0, 0, 0, 0, pc, IntKind.wrap .u32 (pc + 4), 0, 0, 0, 0, 0, 0, 0, 0, 0, 0, 0, 0, 0, 0, 0, 0, 0, 0, 98304, 0, 0, 0, 0, 0, 0, 0, 0, 0, 0, 0, 0, 0, 0, 0, 0, 0, 0], false, false, false, t⟩
section
variable {a b x y z w q : Int} {t : Nat} {B : Nat → Int} {c : Bool}
def slotR (r1 r2 r3 r4 r5 r6 r7 r8 r9 pc nx : Int) (t : Nat) : Sr := ⟨[0, r1, r2, r3, r4, r5, r6, r7, r8, r9, 0, 0, 0, 0, 0, 0, 0, 0, 0, 0, 0, 0, 0, 0, 0, 0, 0, 0, 0, 0, 0, 0, 0, 0, pc, nx, 0, 0, 0, 0, 0, 0, 0, 0, 0, 0, 0, 0, 0, 0, 0, 0, 0, 0, 98304, 0, 0, 0, 0, 0, 0, 0, 0, 0, 0, 0, 0, 0, 0, 0, 0, 0, 0], true, false, false, t⟩
end
section
variable {m0 m : Mem} {C : Nat → Bool} {e : Nat} {q : BB} {c : Nat} {p : Nat} {D : Dv} {n : Int} {S : St} {B : Nat → Int}
theorem tW_no {M : Nat → Bool} {a nn : Int} (hM : ∀ j, j < p → M j = true → C j = true) (hC : ∀ j : Nat, a / 1024 ≤ j → (j : Int) ≤ (a + nn - 1) / 1024 → C j = false) : ∀ j, j < p → tW M (fun _ => false) a nn j = false := fun j hj => by
 unfold tW
 simp only [Bool.false_or]
 cases hm : M j with
 | false => rfl
 | true =>
  rw [Bool.true_and]
  refine decide_eq_false fun ⟨_, h2, h3⟩ => ?_
  have := hC j h2 h3
  rw [hM j hj hm] at this; cases this
theorem AtF.put (h : AtF m0 C e q c p D n S B m) {a : Int} {v : AV} {nn : Nat} {f : Nat → Int} (ha : isU a) (hv : IsR m 1 v nn (cB f)) (hf : ∀ i, i < nn → 0 ≤ f i ∧ f i < 256) (hr : inR p a nn) (hn : nn ≤ 1000000) (hC : ∀ j : Nat, a / 1024 ≤ j → (j : Int) ≤ (a + nn - 1) / 1024 → C j = false) {k : Bool → Mem → Prop}
  (hk : ∀ m', AtF m0 C e q c p D n S (putB B a nn f) m' → Fr q.r.has m m' → k true m') : F31 q.r.b 0 a v m k := by
 obtain ⟨cap, l, Sc, made, used, S1, M, u, en, ep, E⟩ := h
 obtain ⟨a0, a1⟩ := id ha
 refine put_spec E.h.mac.b.r ha hv hf (by omega) (fun h => absurd hr h) fun _ m' R' F' => hk m' ⟨cap, l, Sc, made, used, S1, M, u, en, ep, E.upd (E.h.cpu.rm (E.h.mac.b.withR F' R') F') (tW_no E.h.mks hC) E.h.st (has_foot F') (Tl.refl _) fun j hj => ?_⟩ F'
 unfold putB
 rw [if_neg]
 rintro ⟨h1, h2⟩
 have := hC (j / 1024) (by omega) (by omega)
 rw [hj] at this; cases this
end
def textL : List In := liS 1 2147486208 ++ (liS 2 2147486464 ++ ([rtiS 47 3 0 20, rtiS 69 4 1 0, rtiS 69 5 2 0, rrrS 25 6 4 5, ⟨43, 6, 0, 0, 0, 5⟩, rtiS 47 1 1 1, rtiS 47 2 2 1, rtiS 47 3 3 65535] ++ (backS 43 3 0 7 ++ (backS 42 0 0 0 ++ []))))
theorem text_r : ∀ x ∈ textL, InR x := all_r (by decide +kernel)
def bA (B : Nat → Int) (i : Nat) : Int := wdB B ((2560 + i : Nat) : Int) 1
def bB (B : Nat → Int) (i : Nat) : Int := wdB B ((2816 + i : Nat) : Int) 1
def pA (i : Nat) : Int := ((2147486208 + i : Nat) : Int)
def pB (i : Nat) : Int := ((2147486464 + i : Nat) : Int)
def df (B : Nat → Int) (i : Nat) : Int := IntKind.wrap .u32 (bA B i - bB B i)
section
variable {c d f g : Int} {t : Nat} {B : Nat → Int} {q : Bool}
theorem text_st (T : Sr) : (runK (pgs [0, 1]) 4 (imgI textL []) [.no, .no, .no, .no, .no] sr0 B fun s B' => s = T ∧ B' = B) = (rowR (pA 0) (pB 0) 20 0 0 0 0 0 0 2147484692 5 = T ∧ B = B) := by kernel_rfl
theorem text_eq (T : Sr) : ∀ i : Nat, i < 20 → (runK (pgs [0, 1]) 4 (imgI textL []) [.no, .no, .no, .br false, .no, .no, .no, .br q, .no] (rowR (pA i) (pB i) c d f g 0 0 0 2147484692 t) B fun s B' => s = T ∧ B' = B) =
  (true = true ∧ (df B i != 0) = false ∧ true = true ∧ (IntKind.wrap .u32 (c + 4294967295) != 0) = q ∧ rowR (pA (i + 1)) (pB (i + 1)) (IntKind.wrap .u32 (c + 4294967295)) (bA B i) (bB B i) (df B i) 0 0 0 (match q with | true => 2147484692 | false => 2147484728) (t + 9) = T ∧ B = B) := by
 intro i hi
 iterate 20
  rcases i with _ | i
  ·cases q <;> kernel_rfl
 omega
theorem text_ne (T : Sr) : ∀ i : Nat, i < 20 → (runK (pgs [0, 1]) 4 (imgI textL []) [.no, .no, .no, .br true, .no] (rowR (pA i) (pB i) c d f g 0 0 0 2147484692 t) B fun s B' => s = T ∧ B' = B) =
  (true = true ∧ (df B i != 0) = true ∧ rowR (pA (i + 1)) (pB i) c (bA B i) (bB B i) (df B i) 0 0 0 2147484728 (t + 5) = T ∧ B = B) := by
 intro i hi
 iterate 20
  rcases i with _ | i
  ·kernel_rfl
 omega
theorem text_i2 {a b : Int} (T : Sr) : (runK (pgs [0, 1]) 4 (imgI textL []) [.no, .no] (rowR a b c d f g 0 0 0 2147484728 t) B fun s B' => s = T ∧ B' = B) = (rowR a b c d f g 0 0 0 2147484728 (t + 2) = T ∧ B = B) := by kernel_rfl
theorem text_i1 {a b : Int} (T : Sr) : (runK (pgs [0, 1]) 4 (imgI textL []) [.no] (rowR a b c d f g 0 0 0 2147484728 t) B fun s B' => s = T ∧ B' = B) = (slotR a b c d f g 0 0 0 2147484732 2147484728 (t + 1) = T ∧ B = B) := by kernel_rfl
end
theorem b1_of {B : Nat → Int} {a : Nat} (h0 : 0 ≤ B a) (h1 : B a < 256) : wdB B (a : Int) 1 = B a := by
 unfold wdB
 rw [Int.toNat_natCast]
 show bits .or .u32 (IntKind.wrap .u32 (0 * 256)) (IntKind.wrap .u32 (B (a + 0))) = B a
 have := or_byte (x := 0) (y := B a) (by omega) (by omega) h0 h1
 rw [Nat.add_zero]
 rw [this]; omega
theorem df_0 {B : Nat → Int} {i : Nat} (hA : 0 ≤ bA B i ∧ bA B i < 256) (hB : 0 ≤ bB B i ∧ bB B i < 256) : (df B i != 0) = decide (bA B i ≠ bB B i) := by
 unfold df
 rw [wrap32]
 by_cases c : bA B i = bB B i
 ·rw [c, Int.sub_self]; simp
 ·have : (bA B i - bB B i) % 4294967296 ≠ 0 := by omega
  simp [c, this]
theorem decr {k : Nat} (hk : k < 1000) : IntKind.wrap .u32 (((k + 1 : Nat) : Int) + 4294967295) = k := by rw [wrap32]; omega
section
variable {D : Dv} {B : Nat → Int}
theorem text_go (hD : D.ev = []) (hP : Prog (pgs [0, 1]) 4 (imgI textL []) B) (hA : ∀ i, i < 20 → 0 ≤ bA B i ∧ bA B i < 256) (hB : ∀ i, i < 20 → 0 ≤ bB B i ∧ bB B i < 256) : ∀ (r i : Nat) (d f g : Int) (t : Nat), i + (r + 1) = 20 → t + 9 * (r + 1) < 900000 →
  ∃ (k at' : Nat) (a b d' f' g' : Int), k ≤ 9 * (r + 1) ∧ i ≤ at' ∧ at' ≤ 20 ∧ (∀ j, i ≤ j → j < at' → bA B j = bB B j) ∧ (at' < 20 → bA B at' ≠ bB B at' ∧ g' = df B at') ∧ (at' = 20 → g' = 0) ∧
   Path (pgs [0, 1]) 4 D k (toSt (rowR (pA i) (pB i) (r + 1 : Nat) d f g 0 0 0 2147484692 t)) B (toSt (rowR a b (20 - at' : Nat) d' f' g' 0 0 0 2147484728 (t + k))) B := by
 intro r
 induction r with
 | zero =>
  intro i d f g t hi ht
  by_cases c : bA B i = bB B i
  ·have pa := run_eq (D := D) (by decide) hD (s := rowR (pA i) (pB i) (0 + 1 : Nat) d f g 0 0 0 2147484692 t) (Nat.le_refl 73) hP (by show t + 9 < 1000000; omega) ((text_eq (c := (0 + 1 : Nat)) (d := d) (f := f) (g := g) (t := t) (B := B) (q := false) _ i (by omega)).mpr ⟨rfl, by rw [df_0 (hA i (by omega)) (hB i (by omega))]; simp [c], rfl, by rw [decr (by decide)]; rfl, rfl, rfl⟩)
   rw [decr (by decide)] at pa
   refine ⟨9, 20, _, _, _, _, _, by omega, by omega, by omega, fun j h1 h2 => ?_, fun h => by omega, fun _ => ?_, pa⟩
   ·have : j = i := by omega
    rw [this]; exact c
   ·unfold df; rw [c, Int.sub_self]; rfl
  ·have pa := run_eq (D := D) (by decide) hD (s := rowR (pA i) (pB i) (0 + 1 : Nat) d f g 0 0 0 2147484692 t) (Nat.le_refl 73) hP (by show t + 5 < 1000000; omega) ((text_ne (c := (0 + 1 : Nat)) (d := d) (f := f) (g := g) (t := t) (B := B) _ i (by omega)).mpr ⟨rfl, by rw [df_0 (hA i (by omega)) (hB i (by omega))]; simp [c], rfl, rfl⟩)
   refine ⟨5, i, pA (i + 1), pB i, bA B i, bB B i, df B i, by omega, by omega, by omega, fun j h1 h2 => by omega, fun _ => ⟨c, rfl⟩, fun h => by omega, ?_⟩
   rw [show 20 - i = 0 + 1 by omega]
   exact pa
 | succ r ih =>
  intro i d f g t hi ht
  by_cases c : bA B i = bB B i
  ·have pa := run_eq (D := D) (by decide) hD (s := rowR (pA i) (pB i) (r + 1 + 1 : Nat) d f g 0 0 0 2147484692 t) (Nat.le_refl 73) hP (by show t + 9 < 1000000; omega) ((text_eq (c := (r + 1 + 1 : Nat)) (d := d) (f := f) (g := g) (t := t) (B := B) (q := true) _ i (by omega)).mpr ⟨rfl, by rw [df_0 (hA i (by omega)) (hB i (by omega))]; simp [c], rfl, by rw [decr (by omega)]; simp; omega, rfl, rfl⟩)
   rw [decr (by omega)] at pa
   obtain ⟨k, at', a, b, d', f', g', hk, h1, h2, h3, h4, h5, pa2⟩ := ih (i + 1) (bA B i) (bB B i) (df B i) (t + 9) (by omega) (by omega)
   refine ⟨9 + k, at', a, b, d', f', g', by omega, by omega, h2, fun j g1 g2 => ?_, h4, h5, ?_⟩
   ·by_cases e : j = i
    ·rw [e]; exact c
    ·exact h3 j (by omega) g2
   ·rw [show t + (9 + k) = t + 9 + k by omega]
    exact pa.trans pa2
  ·have pa := run_eq (D := D) (by decide) hD (s := rowR (pA i) (pB i) (r + 1 + 1 : Nat) d f g 0 0 0 2147484692 t) (Nat.le_refl 73) hP (by show t + 5 < 1000000; omega) ((text_ne (c := (r + 1 + 1 : Nat)) (d := d) (f := f) (g := g) (t := t) (B := B) _ i (by omega)).mpr ⟨rfl, by rw [df_0 (hA i (by omega)) (hB i (by omega))]; simp [c], rfl, rfl⟩)
   refine ⟨5, i, pA (i + 1), pB i, bA B i, bB B i, df B i, by omega, by omega, by omega, fun j h1 h2 => by omega, fun _ => ⟨c, rfl⟩, fun h => by omega, ?_⟩
   rw [show 20 - i = r + 1 + 1 by omega]
   exact pa
theorem text_path (hD : D.ev = []) (hP : Prog (pgs [0, 1]) 4 (imgI textL []) B) (hA : ∀ i, i < 20 → 0 ≤ bA B i ∧ bA B i < 256) (hB : ∀ i, i < 20 → 0 ≤ bB B i ∧ bB B i < 256) :
  ∃ (S' : St) (at' : Nat), at' ≤ 20 ∧ (∀ j, j < at' → bA B j = bB B j) ∧ (at' < 20 → bA B at' ≠ bB B at' ∧ S'.n 6 = df B at') ∧ (at' = 20 → S'.n 6 = 0) ∧ S'.n 3 = (20 - at' : Nat) ∧ Path (pgs [0, 1]) 4 D 200 St0 B S' B := by
 have p0 := run_eq (D := D) (by decide) hD (s := sr0) (by decide) hP (by decide) ((text_st (B := B) _).mpr ⟨rfl, rfl⟩)
 rw [sr0_st] at p0
 obtain ⟨k, at', a, b, d', f', g', hk, _, h2, h3, h4, h5, p1⟩ := text_go hD hP hA hB 19 0 0 0 0 5 (by omega) (by omega)
 obtain ⟨T, hT, p3⟩ := two_path (D := D) (by decide) hD hP (fun t => rowR a b (20 - at' : Nat) d' f' g' 0 0 0 2147484728 t) (fun t => slotR a b (20 - at' : Nat) d' f' g' 0 0 0 2147484732 2147484728 t) (fun t => Nat.le_refl 73) (fun t => rfl)
  (fun t => by rw [text_i2]; exact ⟨rfl, rfl⟩) (fun t => by rw [text_i1]; exact ⟨rfl, rfl⟩) (200 - (5 + k) + 1) (200 - (5 + k)) (5 + k) (by omega) (by omega)
 have e6 : (toSt T).n 6 = g' := by rcases hT with rfl | rfl <;> rfl
 have e3 : (toSt T).n 3 = (20 - at' : Nat) := by rcases hT with rfl | rfl <;> rfl
 refine ⟨toSt T, at', h2, fun j hj => h3 j (by omega) hj, fun h => by rw [e6]; exact h4 h, fun h => by rw [e6]; exact h5 h, e3, ?_⟩
 have := (p0.trans p1).trans p3
 rw [show [Hint.no, Hint.no, Hint.no, Hint.no, Hint.no].length + k + (200 - (5 + k)) = 200 by show 5 + k + (200 - (5 + k)) = 200; omega] at this
 exact this
end
def padT (n : Nat) (f : Nat → Int) : Nat → Int := fun i => if i < n then f i else 0
section
variable {m : Mem} {m0 : Mem} {C : Nat → Bool} {e : Nat} {q : BB} {c : Nat} {D : Dv} {n : Int} {S : St} {B : Nat → Int}
theorem text_pad {v : AV} {nn : Nat} {f : Nat → Int} (hv : IsR m 1 v nn (cB f)) (hn : nn ≤ 20) {k : AV → Mem → Prop} (hk : ∀ v' m', IsL m' 1 v' 20 (cB (padT nn f)) → Keeps m m' → k v' m') :
  newK m ⟨0, lget [], 5, false⟩ fun b66 m65 => appS 1 1 5 (.sl b66 0 0 (.ex 0)) v m65 fun v67 m68 => klen v fun x69 => appZ [(.flat (.int .u8 0))] 1 1 5 v67 (.flat (.int .i64 (IntKind.wrap .i64 (20 - x69)))) m68 k := by
 refine newK_i fun b m1 hb K1 e1 _ => ?_
 have l1 : IsL m1 1 (.sl b 0 0 (.ex 0)) 0 (cB f) := .sl b 0 0 (.ex 0) _ _ e1 (by decide) (fun i hi => by omega) rfl ⟨by decide, by decide⟩
 refine appL l1 (hv.keep K1) (by omega) fun v2 m2 h2 F2 o2 => ?_
 rw [klen_r hv]
 have ez : IntKind.wrap .i64 (20 - (nn : Int)) = ((20 - nn : Nat) : Int) := by rw [wrap64 (by omega) (by omega)]; omega
 rw [ez]
 have f2 : ∀ x, own v2 x → m.obj x = none := fun x hx => (o2 x hx).elim (fun t => by cases t; exact hb) (newK_none K1)
 have K2 : Keeps m m2 := Fr.keeps K1 F2 fun x hx => by cases hx; exact hb
 rw [Nat.zero_add] at h2
 refine appZL h2 (by omega) fun v3 m3 h3 F3 _ => hk v3 m3 ?_ (Fr.keeps K2 F3 f2)
 rw [show nn + (20 - nn) = 20 by omega] at h3
 refine h3.congr fun i hi => ?_
 unfold cat padT cB
 by_cases c : i < nn
 ·rw [if_pos (by omega)]; simp [c]
 ·rw [if_neg (by omega)]; simp [c, zrow, Nat.mod_one]; rfl
theorem text_find {v11 v13 v14 : AV} {X Y : Nat → Int} (h1 : IsR m 1 v13 20 (cB X)) (h2 : IsR m 1 v14 20 (cB Y)) {at' : Nat} (ha : at' ≤ 20) (hq : ∀ j, j < at' → X j = Y j) (hd : at' < 20 → X at' ≠ Y at') {k0 : Int → Mem → Prop} (hk : k0 at' m) :
  ∀ (f i : Nat), i + f = 21 → i ≤ at' → L14_13 20 v11 v13 v14 f i m k0 := by
 intro f
 induction f with
 | zero => intro i h hi; omega
 | succ f ih =>
  intro i h hi
  show R14_13 _ _ _ _ _ _ _ _
  unfold R14_13
  by_cases c : i < 20
  rotate_left
  ·have : i = at' := by omega
   subst this
   exact kif_f (by simp; omega) hk
  refine kif_t (by simp; omega) (ldI_r h1 (by omega) (by omega) (x := X i) (by rw [Int.toNat_natCast]; rfl) fun _ _ _ => ldI_r h2 (by omega) (by omega) (x := Y i) (by rw [Int.toNat_natCast]; rfl) fun _ _ _ => ?_)
  by_cases e : i = at'
  ·subst e
   exact kif_f (by simp; exact hd c) hk
  ·rw [wrap64 (n := (i : Int) + 1) (by omega) (by omega), show (i : Int) + 1 = ((i + 1 : Nat) : Int) by omega]
   exact kif_t (by simp; exact hq i (by omega)) (ih (i + 1) (by omega) (by omega))
theorem text_end {x12 x15 : Int} (hA : AtF m0 C e q c 4 D n S B m) (h6 : S.n 6 = x15) (h3 : S.n 3 = IntKind.wrap .u32 (IntKind.wrap .i64 (20 - x12))) {k : Bool → Mem → Prop} (hk : ∀ m', k true m') : P14_18102 20 (.ptr e 0) x12 x15 m k := by
 unfold P14_18102
 have cell : ∀ (cc : Nat → AV), (∀ i, i < 73 → cc i = stc S i) → ∀ i, i < 32 → sub cc 0 32 i = vu (S.n i) := fun cc hcc i hi => by
  unfold sub; rw [if_pos hi, Nat.zero_add, hcc i (by omega)]
  exact stc_u (isP3_lo (by omega)) (by omega)
 dsimp only [kptr]
 refine hA.state fun c104 h104 => ?_
 rw [cell c104 h104 6 (by decide), show vu (S.n 6) = .flat (.int .u32 (S.n 6)) from rfl, kI_flat]
 refine kif_t (by rw [h6]; exact beq_self_eq_true _) ?_
 refine hA.state fun c109 h109 => ?_
 rw [cell c109 h109 3 (by decide), show vu (S.n 3) = .flat (.int .u32 (S.n 3)) from rfl, kI_flat]
 exact kif_t (by rw [h3]; exact beq_self_eq_true _) (awake_spec hk)
end
section
variable {m : Mem}
theorem texts_main {v0 v1 : AV} {x2 x3 : Int} {na nb : Nat} {fa fb : Nat → Int} (h0 : IsR m 1 v0 na (cB fa)) (h1 : IsR m 1 v1 nb (cB fb)) (ha : na ≤ 20) (hb : nb ≤ 20) (ra : ∀ i, i < na → 0 ≤ fa i ∧ fa i < 256) (rb : ∀ i, i < nb → 0 ≤ fb i ∧ fb i < 256) {k : Bool → Mem → Prop} (hk : ∀ m', k true m') : P14_6102 v0 v1 x2 x3 20 m k := by
 unfold P14_6102
 have e20 : IntKind.wrap .u32 (20 : Int) = 20 := rfl
 rw [e20]
 refine li_spec ⟨by decide, by decide⟩ fun b5 m6 _ K6 i6 => li_spec ⟨by decide, by decide⟩ fun b7 m8 _ K8 i8 => rti_spec ⟨by decide, by decide⟩ fun c9 h9 => rti_spec ⟨by decide, by decide⟩ fun c11 h11 => rti_spec ⟨by decide, by decide⟩ fun c13 h13 => rrr_spec fun c15 h15 => rti_spec ⟨by decide, by decide⟩ fun c17 h17 => rti_spec ⟨by decide, by decide⟩ fun c19 h19 => rti_spec ⟨by decide, by decide⟩ fun c21 h21 => newK_i fun b24 m23 _ K23 e23 _ => ?_
 have i23 := row_in [c9, c11, c13, c15, _, c17, c19, c21] [rtiS 47 3 0 20, rtiS 69 4 1 0, rtiS 69 5 2 0, rrrS 25 6 4 5, ⟨43, 6, 0, 0, 0, 5⟩, rtiS 47 1 1 1, rtiS 47 2 2 1, rtiS 47 3 3 65535] e23 ⟨h9, h11, h13, h15, ⟨rfl, rfl, rfl, rfl, rfl, rfl⟩, h17, h19, h21, trivial⟩
 refine back_spec (by decide) (by decide) fun b25 m26 _ K26 i26 => idle_spec fun b27 m28 _ K28 i28 => kif_t rfl (kif_t rfl (kif_t rfl (kif_t rfl (newK_i fun b30 m29 _ K29 e29 _ => ?_))))
 refine join_of [.sl b5 0 2 (.ex 2), .sl b7 0 2 (.ex 2), .sl b24 0 8 (.ex 8), .sl b25 0 2 (.ex 2), .sl b27 0 2 (.ex 2)] [liS 1 2147486208, liS 2 2147486464, _, backS 43 3 0 7, backS 42 0 0 0] e29
  ⟨i6.keep ((((K8.trans K23).trans K26).trans K28).trans K29), i8.keep (((K23.trans K26).trans K28).trans K29), i23.keep ((K26.trans K28).trans K29), i26.keep (K28.trans K29), i28.keep K29, trivial⟩ (by show (5 : Nat) ≤ 20; decide) rfl fun v31 m32 i32 K32 o32 => ?_
 have i32 : IsIn m32 v31 textL := i32
 refine prog_mach i32 (by decide) text_r (pgs [0, 1]) fun m1 e q c m36 Kb A36 => ?_
 rw [nilP_ptr]
 refine kif_f rfl ?_
 dsimp only [kptr]
 have Ka : Keeps m m1 := ((((((K6.trans K8).trans K23).trans K26).trans K28).trans K29).trans K32).trans Kb
 have g0 := h0.keep Ka
 have g1 := h1.keep Ka
 refine A36.bus ?_
 dsimp only
 refine A36.ram ?_
 dsimp only
 refine A36.put ⟨by decide, by decide⟩ (g0.keep A36.K) ra (by unfold inR; omega) (by omega) (fun j h1 h2 => ?_) fun m49 A49 _ => ?_
 ·have : j = 2 := by omega
  subst this; rfl
 refine kif_f rfl ?_
 refine A49.bus ?_
 dsimp only
 refine A49.ram ?_
 dsimp only
 refine A49.put ⟨by decide, by decide⟩ (g1.keep A49.K) rb (by unfold inR; omega) (by omega) (fun j h1 h2 => ?_) fun m61 A61 _ => ?_
 ·have : j = 2 := by omega
  subst this; rfl
 refine kif_f rfl ?_
 have hP : Prog (pgs [0, 1]) 4 (imgI textL []) (putB (putB (imgP textL []) 2560 na fa) 2816 nb fb) := by
  refine (img_prog text_r (h := []) (fun x hx => by simp at hx) (by decide) (by decide) (pgs [0, 1])).cod fun j hj => ?_
  have hj : j < 2048 := by
   unfold pgs at hj
   simp only [List.any_cons, List.any_nil, Bool.or_false, Bool.or_eq_true, beq_iff_eq] at hj
   omega
  unfold putB
  rw [if_neg (by omega), if_neg (by omega)]
 have z : ∀ j, 2560 ≤ j → j < 3072 → imgP textL [] j = 0 := fun j h1 h2 => by
  unfold imgP imgB imgS
  have l0 : textL.length = 16 := rfl
  rw [if_pos (by omega), l0, if_neg (by omega), if_neg (by simp)]
 have eA : ∀ i, i < 20 → putB (putB (imgP textL []) 2560 na fa) 2816 nb fb (2560 + i) = padT na fa i := fun i hi => by
  unfold putB padT
  rw [if_neg (by omega)]
  by_cases c : i < na
  ·rw [if_pos (by omega), if_pos c]; congr 1; omega
  ·rw [if_neg (by omega), if_neg c]; exact z _ (by omega) (by omega)
 have eB : ∀ i, i < 20 → putB (putB (imgP textL []) 2560 na fa) 2816 nb fb (2816 + i) = padT nb fb i := fun i hi => by
  unfold putB padT
  by_cases c : i < nb
  ·rw [if_pos (by omega), if_pos c]; congr 1; omega
  ·rw [if_neg (by omega), if_neg (by omega), if_neg c]; exact z _ (by omega) (by omega)
 have pr : ∀ (nn : Nat) (f : Nat → Int), (∀ i, i < nn → 0 ≤ f i ∧ f i < 256) → ∀ i, 0 ≤ padT nn f i ∧ padT nn f i < 256 := fun nn f h i => by
  unfold padT; split
  ·rename_i c; exact h i c
  ·omega
 have bAe : ∀ i, i < 20 → bA (putB (putB (imgP textL []) 2560 na fa) 2816 nb fb) i = padT na fa i := fun i hi => by
  unfold bA
  rw [b1_of (by rw [eA i hi]; exact (pr na fa ra i).1) (by rw [eA i hi]; exact (pr na fa ra i).2), eA i hi]
 have bBe : ∀ i, i < 20 → bB (putB (putB (imgP textL []) 2560 na fa) 2816 nb fb) i = padT nb fb i := fun i hi => by
  unfold bB
  rw [b1_of (by rw [eB i hi]; exact (pr nb fb rb i).1) (by rw [eB i hi]; exact (pr nb fb rb i).2), eB i hi]
 obtain ⟨S', at', a20, hq, hd, h6, h3, pa⟩ := text_path (D := D0) rfl hP (fun i hi => by rw [bAe i hi]; exact pr na fa ra i) (fun i hi => by rw [bBe i hi]; exact pr nb fb rb i)
 have e200 : IntKind.wrap .i64 (IntKind.wrap .i64 (9 * (20 : Int)) + 20) = ((200 : Nat) : Int) := by decide
 rw [e200]
 refine AtF.top (by decide) (by decide) pa A61 fun m64 A64 => ?_
 refine text_pad (g0.keep A64.K) ha fun v70 m71 L70 K71 => ?_
 have A71 := A64.keep K71
 refine text_pad ((g1.keep A64.K).keep K71) hb fun v77 m78 L77 K78 => ?_
 have A78 := A71.keep K78
 have r70 := (L70.keep K78).r
 have r77 := L77.r
 have qq : ∀ j, j < at' → padT na fa j = padT nb fb j := fun j hj => by
  rw [← bAe j (by omega), ← bBe j (by omega)]; exact hq j hj
 have dd : at' < 20 → padT na fa at' ≠ padT nb fb at' := fun h => by
  rw [← bAe at' h, ← bBe at' h]; exact (hd h).1
 refine ⟨21, text_find r70 r77 a20 qq dd ?_ 21 0 (by omega) (by omega)⟩
 have w3 : S'.n 3 = IntKind.wrap .u32 (IntKind.wrap .i64 (20 - (at' : Int))) := by
  rw [h3, wrap64 (by omega) (by omega), wrap32]; omega
 by_cases c : at' < 20
 ·refine kif_t (by simp; omega) (ldI_r r70 (by omega) (by omega) (x := padT na fa at') (by rw [Int.toNat_natCast]; rfl) fun _ _ _ => ldI_r r77 (by omega) (by omega) (x := padT nb fb at') (by rw [Int.toNat_natCast]; rfl) fun _ _ _ => ?_)
  refine text_end A78 ?_ w3 hk
  have p1 := pr na fa ra at'
  have p2 := pr nb fb rb at'
  rw [(hd c).2]
  unfold df
  rw [bAe at' c, bBe at' c, wrap32 (padT na fa at'), wrap32 (padT nb fb at'), Int.emod_eq_of_lt p1.1 (by omega), Int.emod_eq_of_lt p2.1 (by omega)]
 ·refine kif_f (by simp; omega) (text_end A78 ?_ w3 hk)
  exact h6 (by omega)
theorem u8s_ty {m : Mem} {v : AV} (h : Ty m (.sl [.i .u8]) v) : ∃ (n : Nat) (f : Nat → Int), IsS m 1 v n (cB f) ∧ ∀ i, i < n → 0 ≤ f i ∧ f i < 256 := by
 cases h with
 | nil ls a => exact ⟨0, fun _ => 0, ⟨.nil a _, fun b o cap e => by cases e⟩, fun i hi => by omega⟩
 | sl ls b len cap x h1 h2 h3 h4 h5 h6 =>
  simp only [List.length_singleton, Nat.mul_one] at h5 h6
  have hx : ∀ j, j < cap → ∃ n, x.c j = .flat (.int .u8 n) ∧ (Lit.int .u8 n).wf = true := fun j hj => by
   have := h6 j hj 0 (.i .u8) rfl
   rw [Nat.add_zero] at this
   exact ty_int this
  refine ⟨len, fun j => match x.c j with | .flat (.int _ n) => n | _ => 0, ⟨.sl b 0 len (.ex cap) x _ h4 (by omega) (fun i hi => ?_), fun b o cap e => ?_⟩, fun i hi => ?_⟩
  ·obtain ⟨n, e, _⟩ := hx i (by omega)
   unfold cB
   dsimp only
   rw [Nat.zero_add, e]
  ·cases e
   exact ⟨h1, fun e q h => by cases h⟩
  ·obtain ⟨n, e, w⟩ := hx i (by omega)
   dsimp only
   rw [e]
   exact wf_u8 w
theorem cut20 {v : AV} {n : Nat} {f : Nat → Int} (h : IsS m 1 v n (cB f)) (hf : ∀ i, i < n → 0 ≤ f i ∧ f i < 256) {K : AV → Prop} (hK : ∀ v' n', IsS m 1 v' n' (cB f) → n' ≤ 20 → n' ≤ n → K v') : klen v fun x1 => kif (decide (x1 > 20)) (slS 1 v none (some 20) fun v2 => K v2) (K v) := by
 rw [klen_r h.1]
 by_cases c : 20 < n
 ·refine kif_t (by simp; omega) (slS_s h (lo := none) (hi := some 20) (l := 0) (u := 20) rfl rfl (by omega) (by omega) fun v' h' _ => ?_)
  have e : (fun i => cB f (0 * 1 + i)) = cB f := by funext i; rw [Nat.zero_mul, Nat.zero_add]
  rw [e] at h'
  exact hK v' 20 h' (by omega) (by omega)
 ·exact kif_f (by simp; omega) (hK v n h (by omega) (by omega))
theorem TopTexts {v0 v1 : AV} {x2 x3 : Int} {na nb : Nat} {fa fb : Nat → Int} (h0 : IsS m 1 v0 na (cB fa)) (h1 : IsS m 1 v1 nb (cB fb)) (ra : ∀ i, i < na → 0 ≤ fa i ∧ fa i < 256) (rb : ∀ i, i < nb → 0 ≤ fb i ∧ fb i < 256) {k : Bool → Mem → Prop} (hk : ∀ m', k true m') : F14 v0 v1 x2 x3 m k := by
 unfold F14
 refine cut20 (K := fun v => P14_4103 v v1 x2 x3 20 m k) h0 ra fun v2 n2 h2 l2 l2' => ?_
 unfold P14_4103
 exact cut20 (K := fun v => P14_6102 v2 v x2 x3 20 m k) h1 rb fun v4 n4 h4 l4 l4' => texts_main h2.1 h4.1 l2 l4 (fun i hi => ra i (by omega)) (fun i hi => rb i (by omega)) hk
end
theorem TopTexts_law {m : Mem} {v0 v1 : AV} {x2 x3 : Int} (h0 : Ty m (.sl [.i .u8]) v0) (h1 : Ty m (.sl [.i .u8]) v1) (_ : (Lit.int .i64 x2).wf = true) (_ : (Lit.int .i64 x3).wf = true) : F14 v0 v1 x2 x3 m isTrue := by
 obtain ⟨na, fa, ha, ra⟩ := u8s_ty h0
 obtain ⟨nb, fb, hb, rb⟩ := u8s_ty h1
 exact TopTexts ha hb ra rb fun _ => rfl
end Go.Proofs.YtkiggdgphbkneaaGreat.Am
