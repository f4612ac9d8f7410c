/- A processor's State in abstract memory: its cells, reads and writes of them. No program in sight. Rules to show what the machine asks; words of 32 bits. No program in sight. More on words of 32 bits: parts of words as numbers. No program in sight. -/
import Derived.Test.YtkiggdgphbkneaaGreatTopDiskX18
namespace Go.Proofs.YtkiggdgphbkneaaGreat.Am
set_option linter.unusedVariables false
set_option linter.unusedSimpArgs false
structure St where
 n : Nat -> Int
 p : Nat -> Bool
 /-- what lies behind it in its block, and how many cells -/
 x : Nat -> AV := fun _ => .junk
 q : Nat := 0
def lX (i : Nat) : Bool := i == 36 || i == 37 || i == 71
def stc (S : St) (i : Nat) : AV := match lX i with
 | true => .flat (.bool (S.p i))
 | false => if i = 72 then .flat (.int .i64 (S.n i)) else .flat (.int .u32 (S.n i))
def St.putN (S : St) (i : Nat) (v : Int) : St := { S with n := upd S.n i v }
def St.putP (S : St) (i : Nat) (v : Bool) : St := { S with p := upd S.p i v }
def St.bare (S : St) : St := { n := S.n, p := S.p }
theorem zCq {S : St} {i : Nat} (h : lX i = false) (h2 : i ≠ 72) : stc S i = .flat (.int .u32 (S.n i)) := by
 unfold stc; rw [h]; simp [h2]
theorem yLf {S : St} {i : Nat} (h : lX i = true) : stc S i = .flat (.bool (S.p i)) := by
 unfold stc; rw [h]
theorem yN0 (S : St) : stc S 72 = .flat (.int .i64 (S.n 72)) := rfl
def St.ok (S : St) : Prop := (∀ i, i < 72 -> 0 <= S.n i /\ S.n i < 4294967296) /\ -9223372036854775808 <= S.n 72 /\ S.n 72 < 9223372036854775808
def uM (c : Nat -> AV) (S : St) : Prop := ∀ i, i < 73 -> c i = stc S i
def yQ (m : Mem) (b : Nat) (S : St) : Prop := ∃ x, m.obj b = some x /\ x.n = 73 + S.q /\ x.ro = false /\ uM x.c S /\ ∀ j, j < S.q -> x.c (73 + j) = S.x j
def yC (m : Mem) (b : Nat) (m' : Mem) : Prop := ∀ b', b' ≠ b -> m'.obj b' = m.obj b'
theorem yC.refl (m : Mem) (b : Nat) : yC m b m := fun _ _ => rfl
theorem yC.trans {a b c : Mem} {r : Nat} (h : yC a r b) (h' : yC b r c) : yC a r c := fun k hk => (h' k hk).trans (h k hk)
theorem yC.set (m : Mem) (b : Nat) (x : Blk) : yC m b (m.set b x) := fun b' h => zP x h
theorem yQ.keep {m m' : Mem} {b : Nat} {S : St} (h : yQ m b S) (K : zA m m') : yQ m' b S := by
 obtain ⟨x, e, r⟩ := h
 exact ⟨x, by rw [K b (by rw [e]; simp)]; exact e, r⟩
theorem yQ.only {m m' : Mem} {b b' : Nat} {S : St} (h : yQ m b S) (O : yC m b' m') (hne : b ≠ b') : yQ m' b S := by
 obtain ⟨x, e, r⟩ := h
 exact ⟨x, by rw [O b hne]; exact e, r⟩
theorem yQ.live {m : Mem} {b : Nat} {S : St} (h : yQ m b S) : m.obj b ≠ none := by
 obtain ⟨x, e, _⟩ := h; rw [e]; simp
theorem yW {kd : IntKind} {m : Mem} {b o : Nat} {k : Int -> Prop} {x : Blk} {n : Int} (h : m.obj b = some x) (ho : o < x.n) (hc : x.c o = .flat (.int kd n)) : zR kd m b o k = k n := by
 unfold zR kobj; rw [h]; simp only [zO, ho, if_true, hc, kI]
theorem zKm {m : Mem} {b o : Nat} {k : Bool -> Prop} {x : Blk} {n : Bool} (h : m.obj b = some x) (ho : o < x.n) (hc : x.c o = .flat (.bool n)) : ldB m b o k = k n := by
 unfold ldB kobj; rw [h]; simp only [zO, ho, if_true, hc]
theorem zSv {m : Mem} {b o : Nat} {k : AV -> Prop} {x : Blk} {b1 o1 l : Nat} {c : Cap} (h : m.obj b = some x) (ho : o < x.n) (hc : x.c o = .sl b1 o1 l c) : ldA m b o k = k (.sl b1 o1 l c) := by
 unfold ldA kobj; rw [h]; simp only [zO, ho, if_true, hc, kA]
theorem xH {n : Nat} {m : Mem} {b o : Nat} {k : (Nat -> AV) -> Prop} {x : Blk} (h : m.obj b = some x) (ho : o + n <= x.n) : yN n m b o k = k (sub x.c o n) := by
 unfold yN kobj; rw [h]; simp only [zO, ho, if_true]
theorem oO {m : Mem} {b o : Nat} {v : AV} {k : Mem -> Prop} {x : Blk} (h : m.obj b = some x) (hr : x.ro = false) (ho : o < x.n) : wF m b o v k = k (m.set b { x with c := upd x.c o v }) := by
 unfold wF kobj; rw [h]; simp only [hr, zO, ho, if_true]
theorem wR {n : Nat} {m : Mem} {b o : Nat} {c : Nat -> AV} {k : Mem -> Prop} {x : Blk} (h : m.obj b = some x) (hr : x.ro = false) (ho : o + n <= x.n) : vA n m b o c k = k (m.set b { x with c := zC x.c o n c }) := by
 unfold vA kobj; rw [h]; simp only [hr, zO, ho, if_true]
theorem yE {m : Mem} {b i : Nat} {S : St} (h : yQ m b S) (h1 : i < 72) (h2 : lX i = false) (k : Int -> Prop) : zR .u32 m b i k = k (S.n i) := by
 obtain ⟨x, e, hn, _, hc, _⟩ := h
 exact yW e (by omega) ((hc i (by omega)).trans (zCq h2 (by omega)))
theorem jA {m : Mem} {b : Nat} {S : St} (h : yQ m b S) (k : Int -> Prop) : zR .i64 m b 72 k = k (S.n 72) := by
 obtain ⟨x, e, hn, _, hc, _⟩ := h
 exact yW e (by omega) ((hc 72 (by omega)).trans (yN0 S))
theorem mY {m : Mem} {b i : Nat} {S : St} (h : yQ m b S) (h1 : i < 73) (h2 : lX i = true) (k : Bool -> Prop) : ldB m b i k = k (S.p i) := by
 obtain ⟨x, e, hn, _, hc, _⟩ := h
 exact zKm e (by omega) ((hc i (by omega)).trans (yLf h2))
theorem xB {m : Mem} {b i : Nat} {S : St} {v : Int} {k : Mem -> Prop} (h : yQ m b S) (h1 : i < 72) (h2 : lX i = false) (hk : ∀ m', yQ m' b (S.putN i v) -> yC m b m' -> k m') : wF m b i (.flat (.int .u32 v)) k := by
 obtain ⟨x, e, hn, hr, hc, hx⟩ := h
 rw [oO e hr (by omega)]
 refine hk _ ⟨_, zL _ _ _, hn, hr, fun j hj => ?_, fun j hj => by show upd x.c i _ (73 + j) = _; unfold upd; rw [if_neg (by omega)]; exact hx j hj⟩ (yC.set _ _ _)
 show upd x.c i _ j = _
 unfold upd
 by_cases c : j = i
 .subst c; rw [if_pos rfl, zCq h2 (by omega)]; simp [St.putN, upd]
 .rw [if_neg c, hc j hj]; unfold stc St.putN upd; simp [c]
theorem yOf {m : Mem} {b : Nat} {S : St} {v : Int} {k : Mem -> Prop} (h : yQ m b S) (hk : ∀ m', yQ m' b (S.putN 72 v) -> yC m b m' -> k m') : wF m b 72 (.flat (.int .i64 v)) k := by
 obtain ⟨x, e, hn, hr, hc, hx⟩ := h
 rw [oO e hr (by omega)]
 refine hk _ ⟨_, zL _ _ _, hn, hr, fun j hj => ?_, fun j hj => by show upd x.c 72 _ (73 + j) = _; unfold upd; rw [if_neg (by omega)]; exact hx j hj⟩ (yC.set _ _ _)
 show upd x.c 72 _ j = _
 unfold upd
 by_cases c : j = 72
 .subst c; rw [if_pos rfl, yN0]; simp [St.putN, upd]
 .rw [if_neg c, hc j hj]; unfold stc St.putN upd; simp [c]
theorem oL {m : Mem} {b i : Nat} {S : St} {v : Bool} {k : Mem -> Prop} (h : yQ m b S) (h1 : i < 73) (h2 : lX i = true) (hk : ∀ m', yQ m' b (S.putP i v) -> yC m b m' -> k m') : wF m b i (.flat (.bool v)) k := by
 obtain ⟨x, e, hn, hr, hc, hx⟩ := h
 rw [oO e hr (by omega)]
 refine hk _ ⟨_, zL _ _ _, hn, hr, fun j hj => ?_, fun j hj => by show upd x.c i _ (73 + j) = _; unfold upd; rw [if_neg (by omega)]; exact hx j hj⟩ (yC.set _ _ _)
 show upd x.c i _ j = _
 unfold upd
 by_cases c : j = i
 .subst c; rw [if_pos rfl, yLf h2]; simp [St.putP, upd]
 .rw [if_neg c, hc j hj]; unfold stc St.putP upd; simp [c]
theorem yQ3 {m : Mem} {b i : Nat} {S : St} {c : Nat -> AV} {u v : Int} {k : Mem -> Prop} (h : yQ m b S) (h1 : 38 <= i /\ i + 2 <= 71) (h2 : c 0 = .flat (.int .u32 u)) (h3 : c 1 = .flat (.int .u32 v)) (hk : ∀ m', yQ m' b ((S.putN i u).putN (i + 1) v) -> yC m b m' -> k m') : vA 2 m b i c k := by
 obtain ⟨x, e, hn, hr, hc, hx⟩ := h
 rw [wR e hr (by omega)]
 refine hk _ ⟨_, zL _ _ _, hn, hr, fun j hj => ?_, fun j hj => by show zC x.c i 2 c (73 + j) = _; unfold zC; rw [if_neg (by omega)]; exact hx j hj⟩ (yC.set _ _ _)
 show zC x.c i 2 c j = _
 have hp : lX i = false := by simp [lX]; omega
 have hp1 : lX (i + 1) = false := by simp [lX]; omega
 unfold zC
 by_cases c1 : j = i
 .subst c1; rw [if_pos (by omega), Nat.sub_self, h2, zCq hp (by omega)]; simp [St.putN, upd]
 .by_cases c2 : j = i + 1
  .subst c2; rw [if_pos (by omega), show i + 1 - i = 1 by omega, h3, zCq hp1 (by omega)]; simp [St.putN, upd]
  .rw [if_neg (by omega), hc j hj]; unfold stc St.putN upd; simp [c1, c2]
theorem zKa {m : Mem} {b : Nat} {S : St} {c : Nat -> AV} {k : Mem -> Prop} {x : Blk} (h : m.obj b = some x) (hn : x.n = 73) (hr : x.ro = false) (hc : uM c S) (hk : ∀ m', yQ m' b S -> yC m b m' -> k m') (hq : S.q = 0 := by rfl) : vA 73 m b 0 c k := by
 rw [wR h hr (by omega)]
 refine hk _ ⟨_, zL _ _ _, by rw [hq]; exact hn, hr, fun j hj => ?_, fun j hj => by omega⟩ (yC.set _ _ _)
 show zC x.c 0 73 c j = _
 unfold zC
 rw [if_pos (by omega), Nat.sub_zero]; exact hc j hj
theorem yMs {m : Mem} {b : Nat} {S : St} {c : Nat -> AV} {k : Mem -> Prop} {x : Blk} (h : m.obj b = some x) (hn : x.n = 73) (hr : x.ro = false) (hc : uM c S) (hk : ∀ m', yQ m' b S.bare -> yC m b m' -> k m') : vA 73 m b 0 c k :=
 zKa (S := S.bare) h hn hr hc hk
theorem zA6 {m : Mem} {b : Nat} {S : St} {k : (Nat -> AV) -> Prop} (h : yQ m b S) (hk : ∀ c, uM c S -> k c) : yN 73 m b 0 k := by
 obtain ⟨x, e, hn, hr, hc, hx⟩ := h
 rw [xH e (by omega)]
 exact hk _ fun i hi => by simp [sub, hi, hc i hi]
theorem xAr {m : Mem} {c z : Nat -> AV} {t : TypeId} {S : St} {k : Nat -> Mem -> Prop} (hc : uM c S) (hk : ∀ b m', m.obj b = none -> zA m m' -> yC m b m' -> yQ m' b S -> k b m') (hq : S.q = 0 := by rfl) : zQ m ⟨73, z, t, false⟩ fun b m' => vA 73 m' b 0 c fun m2 => k b m2 := by
 intro b hb
 refine zKa (zL _ _ _) rfl rfl hc (fun m' h O => hk b m' hb (fun b' h' => ?_) ((yC.set _ _ _).trans O) h) hq
 have : b' ≠ b := fun e => h' (e ▸ hb)
 rw [O b' this, zP _ this]
theorem uM.inDom {c : Nat -> AV} {S : St} (h : uM c S) (m : Mem) : xZ 73 m c := fun i hi => by
 rw [h i hi]; unfold stc; split
 .trivial
 .split <;> trivial
theorem zA.self (m : Mem) : zA m m := fun _ _ => rfl
theorem yC.keeps {m m1 m2 : Mem} {b : Nat} (K : zA m m1) (hb : m.obj b = none) (O : yC m1 b m2) : zA m m2 := fun b' h => by
 have : b' ≠ b := fun e => h (e ▸ hb)
 rw [O b' this]; exact K b' h
def St.same (S T : St) : Prop := ∀ i, i < 73 -> if lX i = true then S.p i = T.p i else S.n i = T.n i
instance (S T : St) : Decidable (S.same T) := Nat.decidableBallLT 73 _
theorem zG {c : Bool} {A B : Prop} (h : c = true) (a : A) : kif c A B := by subst h; exact a
theorem zB {c : Bool} {A B : Prop} (h : c = false) (b : B) : kif c A B := by subst h; exact b
theorem zD (c : Bool) {A B : Prop} (a : c = true -> A) (b : c = false -> B) : kif c A B := by
 cases c
 .exact b rfl
 .exact a rfl
theorem yF {x : Int} {n : Int} {A B : Prop} (h0 : 0 <= x) (h1 : x < n) (a : A) : kif (decide (0 <= x) && decide (x < n)) A B := zG (by simp [h0, h1]) a
theorem yK {c : Prop} [Decidable c] {A B : Prop} (h : c) (a : A) : kite c A B := by rw [zO, if_pos h]; exact a
theorem zW {m : Mem} {x : Blk} {k : Nat -> Mem -> Prop} (hk : ∀ b m', m.obj b = none -> zA m m' -> m'.obj b = some x -> yC m b m' -> k b m') : zQ m x k := fun b hb => hk b _ hb (zA.set hb x) (zL _ _ _) (yC.set _ _ _)
theorem zK {n : Int} (h : -9223372036854775808 <= n) (h' : n < 9223372036854775808) : IntKind.wrap .i64 n = n := by
 simp [IntKind.wrap, IntKind.bits, IntKind.signed]; omega
theorem yV (n : Int) : IntKind.wrap .u32 n = n % 4294967296 := by simp [IntKind.wrap, IntKind.bits, IntKind.signed]
theorem wO (n : Int) : 0 <= IntKind.wrap .u32 n /\ IntKind.wrap .u32 n < 4294967296 := by rw [yV]; omega
theorem yPe {a : Int} (h : (Lit.int .u32 a).wf = true) : 0 <= a /\ a < 4294967296 := by
 have h2 : 0 <= a /\ a <= 4294967295 := by simpa [Lit.wf, IntKind.min, IntKind.max, IntKind.signed, IntKind.bits] using h
 omega
theorem zZv {a : Int} (h : (Lit.int .i64 a).wf = true) : -9223372036854775808 <= a /\ a < 9223372036854775808 := by
 have h2 : -9223372036854775808 <= a /\ a <= 9223372036854775807 := by simpa [Lit.wf, IntKind.min, IntKind.max, IntKind.signed, IntKind.bits] using h
 omega
def bv (x : Int) : BitVec 32 := BitVec.ofInt 32 x
theorem zB9 (b : BitVec 32) : IntKind.wrap .u32 (b.toNat : Int) = (b.toNat : Int) := by
 rw [yV]; have := b.isLt; omega
theorem vV (x y : Int) : Go.bits .and .u32 x y = ((bv x &&& bv y).toNat : Int) := zB9 _
theorem gI (x y : Int) : Go.bits .or .u32 x y = ((bv x ||| bv y).toNat : Int) := zB9 _
theorem yDy (x y : Int) : Go.bits .xor .u32 x y = ((bv x ^^^ bv y).toNat : Int) := zB9 _
theorem zJz (x y : Int) : Go.bits .andNot .u32 x y = ((bv x &&& ~~~ bv y).toNat : Int) := zB9 _
theorem rS (b : BitVec 32) : bv (b.toNat : Int) = b := by unfold bv; rw [BitVec.ofInt_natCast, BitVec.ofNat_toNat, BitVec.setWidth_eq]
theorem zJ6 (b : BitVec 32) : 0 <= (b.toNat : Int) /\ (b.toNat : Int) < 4294967296 := by have := b.isLt; omega
theorem uN (x y : Int) : 0 <= Go.bits .and .u32 x y /\ Go.bits .and .u32 x y < 4294967296 := by rw [vV]; exact zJ6 _
theorem rB (x y : Int) : 0 <= Go.bits .or .u32 x y /\ Go.bits .or .u32 x y < 4294967296 := by rw [gI]; exact zJ6 _
theorem zWt (x y : Int) : 0 <= Go.bits .xor .u32 x y /\ Go.bits .xor .u32 x y < 4294967296 := by rw [yDy]; exact zJ6 _
theorem dR (x y : Int) : 0 <= Go.bits .andNot .u32 x y /\ Go.bits .andNot .u32 x y < 4294967296 := by rw [zJz]; exact zJ6 _
theorem zPu {a b : BitVec 32} : ((a.toNat : Int) = (b.toNat : Int)) ↔ a = b :=
 ⟨fun h => BitVec.eq_of_toNat_eq (by exact_mod_cast h), fun h => by rw [h]⟩
theorem pF {x : Int} (h0 : 0 <= x) (h1 : x < 4294967296) : ((bv x).toNat : Int) = x := by
 unfold bv
 obtain ⟨n, rfl⟩ := Int.eq_ofNat_of_zero_le h0
 rw [BitVec.ofInt_natCast, BitVec.toNat_ofNat, Nat.mod_eq_of_lt (by omega)]
theorem yAe (a b : BitVec 32) : ((a.toNat : Int) == (b.toNat : Int)) = (a == b) := by
 rw [Bool.eq_iff_iff, beq_iff_eq, beq_iff_eq, zPu]
theorem yL6 (a : BitVec 32) : ((a.toNat : Int) == 0) = (a == 0#32) := by
 have := yAe a 0#32; simpa using this
theorem yGt (a b m : BitVec 32) : ((a ^^^ b) &&& m == 0#32) = (a &&& m == b &&& m) := by
 rw [Bool.eq_iff_iff, beq_iff_eq, beq_iff_eq]
 constructor
 .intro h
  apply BitVec.eq_of_getLsbD_eq
  intro i hi
  have := congrArg (fun x => x.getLsbD i) h
  simp only [BitVec.getLsbD_and, BitVec.getLsbD_xor, BitVec.getLsbD_zero] at this ⊢
  revert this
  generalize a.getLsbD i = p; generalize b.getLsbD i = q; generalize m.getLsbD i = r
  revert p q r; decide
 .intro h
  apply BitVec.eq_of_getLsbD_eq
  intro i hi
  have := congrArg (fun x => x.getLsbD i) h
  simp only [BitVec.getLsbD_and, BitVec.getLsbD_xor, BitVec.getLsbD_zero] at this ⊢
  revert this
  generalize a.getLsbD i = p; generalize b.getLsbD i = q; generalize m.getLsbD i = r
  revert p q r; decide
theorem zCr (x y m : Int) : (Go.bits .and .u32 (Go.bits .xor .u32 x y) m == 0) = (Go.bits .and .u32 x m == Go.bits .and .u32 y m) := by
 rw [yDy, vV, vV, vV, rS, yL6, yAe, yGt]
theorem zWs (x m m' : Int) (h : ~~~ bv m = bv m') : Go.bits .andNot .u32 x m = Go.bits .and .u32 x m' := by
 rw [zJz, vV, h]
theorem yJ6 (x : Int) : Go.bits .andNot .u32 x 1023 = Go.bits .and .u32 x 4294966272 := zWs x _ _ (by decide)
theorem wE (x : Int) (h0 : 0 <= x) (h1 : x < 4294967296) (b : Nat) (hb : b <= 32) : Go.bits .and .u32 x ((2 ^ b - 1 : Nat) : Int) = x % 2 ^ b := by
 obtain ⟨n, rfl⟩ := Int.eq_ofNat_of_zero_le h0
 have h2 : 2 ^ b <= 2 ^ 32 := Nat.pow_le_pow_right (by decide) hb
 rw [vV]
 have e : (bv (n : Int) &&& bv ((2 ^ b - 1 : Nat) : Int)).toNat = n &&& (2 ^ b - 1) := by
  rw [BitVec.toNat_and]
  have e1 := pF (x := (n : Int)) (by omega) (by omega)
  have e2 := pF (x := ((2 ^ b - 1 : Nat) : Int)) (by omega) (by have : 0 < 2 ^ b := Nat.two_pow_pos b; omega)
  rw [show (bv (n : Int)).toNat = n by omega, show (bv ((2 ^ b - 1 : Nat) : Int)).toNat = 2 ^ b - 1 by omega]
 rw [e, Nat.and_two_pow_sub_one_eq_mod]
 simp
def isTrue : Bool -> Mem -> Prop := fun r _ => r = true
theorem qP {a b : Int} (h : 0 <= a) : a.tmod b = a % b := Int.tmod_eq_emod_of_nonneg h
theorem yYk (x : Int) (h0 : 0 <= x) (h1 : x < 4294967296) (b : Nat) (hb : b <= 32) (q : Int) (hq : ~~~ bv q = bv (4294967296 - 2 ^ b)) (hq2 : bv q = bv ((2 ^ b - 1 : Nat) : Int)) : bits .andNot .u32 x q = x - x % 2 ^ b := by
 have e1 := wE x h0 h1 b hb
 rw [vV, <- hq2] at e1
 rw [zJz]
 have e2 : (bv x &&& bv q) ||| (bv x &&& ~~~ bv q) = bv x := by
  apply BitVec.eq_of_getLsbD_eq
  intro i hi
  simp only [BitVec.getLsbD_or, BitVec.getLsbD_and, BitVec.getLsbD_not, hi, decide_true, Bool.true_and]
  generalize (bv x).getLsbD i = p; generalize (bv q).getLsbD i = r
  revert p r; decide
 have e3 : (bv x &&& bv q) + (bv x &&& ~~~ bv q) = bv x := by
  rw [BitVec.add_eq_or_of_and_eq_zero, e2]
  apply BitVec.eq_of_getLsbD_eq
  intro i hi
  simp only [BitVec.getLsbD_and, BitVec.getLsbD_not, hi, decide_true, Bool.true_and, BitVec.getLsbD_zero]
  generalize (bv x).getLsbD i = p; generalize (bv q).getLsbD i = r
  revert p r; decide
 have e4 := congrArg BitVec.toNat e3
 have e5 : (bv x &&& bv q).toNat + (bv x &&& ~~~ bv q).toNat = ((bv x &&& bv q) ||| (bv x &&& ~~~ bv q)).toNat := by
  rw [<- BitVec.add_eq_or_of_and_eq_zero]
  .rw [BitVec.toNat_add_of_and_eq_zero]
   apply BitVec.eq_of_getLsbD_eq
   intro i hi
   simp only [BitVec.getLsbD_and, BitVec.getLsbD_not, hi, decide_true, Bool.true_and, BitVec.getLsbD_zero]
   generalize (bv x).getLsbD i = p; generalize (bv q).getLsbD i = r
   revert p r; decide
  .apply BitVec.eq_of_getLsbD_eq
   intro i hi
   simp only [BitVec.getLsbD_and, BitVec.getLsbD_not, hi, decide_true, Bool.true_and, BitVec.getLsbD_zero]
   generalize (bv x).getLsbD i = p; generalize (bv q).getLsbD i = r
   revert p r; decide
 rw [e2] at e5
 have e6 := pF h0 h1
 omega
theorem zGs (x : Int) (h0 : 0 <= x) (h1 : x < 4294967296) : bits .and .u32 x 4294966272 = x - x % 1024 := by
 rw [<- yJ6, yYk x h0 h1 10 (by decide) 1023 (by decide) (by decide)]; rfl
theorem yMj (x : Int) (h0 : 0 <= x) (h1 : x < 4294967296) : bits .and .u32 x 1023 = x % 1024 := by
 have := wE x h0 h1 10 (by decide); simpa using this
theorem yEp {a b : BitVec 32} (h : a &&& b = 0#32) : ((a ||| b).toNat : Int) = (a.toNat : Int) + (b.toNat : Int) := by
 rw [<- BitVec.add_eq_or_of_and_eq_zero _ _ h, BitVec.toNat_add_of_and_eq_zero h]; push_cast; rfl
theorem xF9 (x y : Int) (h0 : 0 <= x) (h1 : x < 4294967296) (g0 : 0 <= y) (g1 : y < 4294967296) : bits .or .u32 (bits .and .u32 x 4294966272) (bits .and .u32 y 1023) = (x - x % 1024) + y % 1024 := by
 rw [<- zGs x h0 h1, <- yMj y g0 g1, gI, vV, vV, rS, rS, yEp]
 apply BitVec.eq_of_getLsbD_eq
 intro i hi
 have hd : bv 4294966272 &&& bv 1023 = 0#32 := by decide
 have := congrArg (fun z => z.getLsbD i) hd
 simp only [BitVec.getLsbD_and, BitVec.getLsbD_zero] at this ⊢
 revert this
 generalize (bv x).getLsbD i = p; generalize (bv y).getLsbD i = q; generalize (bv 4294966272).getLsbD i = r; generalize (bv 1023).getLsbD i = t
 revert p q r t; decide
theorem zTv {x y : Int} (h0 : 0 <= x) (h1 : x < 4294967296) (hx : x % 1024 = 0) (g0 : 0 <= y) (g1 : y < 1024) : bits .or .u32 x y = x + y := by
 have e := xF9 x y h0 h1 g0 (by omega)
 rw [zGs x h0 h1, yMj y g0 (by omega), hx, Int.emod_eq_of_lt g0 g1, Int.sub_zero] at e
 exact e
theorem kV {n : Nat} {m : Mem} {t : TypeId} {z c : Nat -> AV} {k : Nat -> Mem -> Prop} (hk : ∀ b m' x, m.obj b = none -> zA m m' -> m'.obj b = some x -> x.n = n -> x.ro = false -> (∀ j, j < n -> x.c j = c j) -> k b m') : zQ m ⟨n, z, t, false⟩ fun b m2 => vA n m2 b 0 c fun m4 => k b m4 := by
 intro b hb
 rw [wR (zL _ _ _) rfl (by show 0 + n <= n; omega)]
 refine hk b _ _ hb (fun b' h' => ?_) (zL _ _ _) rfl rfl fun j hj => ?_
 .have : b' ≠ b := fun e => h' (e ▸ hb)
  rw [zP _ this, zP _ this]
 .show zC _ 0 n c j = _
  unfold zC; rw [if_pos (by omega), Nat.sub_zero]
theorem zX {m0 m : Mem} (K : zA m0 m) {b : Nat} (hb : m.obj b = none) : m0.obj b = none := by
 by_cases e : m0.obj b = none
 .exact e
 .rw [K b e] at hb; exact absurd hb e
end Go.Proofs.YtkiggdgphbkneaaGreat.Am
