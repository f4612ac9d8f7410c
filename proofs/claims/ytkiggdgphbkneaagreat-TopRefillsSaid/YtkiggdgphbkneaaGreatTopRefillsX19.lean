/- A processor's State in abstract memory: its cells, reads and writes of them. No program in sight. Rules to show what the machine asks; words of 32 bits. No program in sight. More on words of 32 bits: parts of words as numbers. No program in sight. -/
import Derived.Test.YtkiggdgphbkneaaGreatTopRefillsX18
namespace Go.Proofs.YtkiggdgphbkneaaGreat.Am
set_option linter.unusedVariables false
set_option linter.unusedSimpArgs false
structure St where
 n : Nat → Int
 p : Nat → Bool
 /-- what lies behind it in its block, and how many cells -/
 x : Nat → AV := fun _ => .junk
 q : Nat := 0
def isP3 (i : Nat) : Bool := i == 36 || i == 37 || i == 71
def stc (S : St) (i : Nat) : AV := match isP3 i with
 | true => .flat (.bool (S.p i))
 | false => if i = 72 then .flat (.int .i64 (S.n i)) else .flat (.int .u32 (S.n i))
def St.putN (S : St) (i : Nat) (v : Int) : St := { S with n := upd S.n i v }
def St.putP (S : St) (i : Nat) (v : Bool) : St := { S with p := upd S.p i v }
def St.bare (S : St) : St := { n := S.n, p := S.p }
theorem stc_u {S : St} {i : Nat} (h : isP3 i = false) (h2 : i ≠ 72) : stc S i = .flat (.int .u32 (S.n i)) := by
 unfold stc; rw [h]; simp [h2]
theorem stc_p {S : St} {i : Nat} (h : isP3 i = true) : stc S i = .flat (.bool (S.p i)) := by
 unfold stc; rw [h]
theorem stc_t (S : St) : stc S 72 = .flat (.int .i64 (S.n 72)) := rfl
def St.ok (S : St) : Prop := (∀ i, i < 72 → 0 ≤ S.n i ∧ S.n i < 4294967296) ∧ -9223372036854775808 ≤ S.n 72 ∧ S.n 72 < 9223372036854775808
def StCells (c : Nat → AV) (S : St) : Prop := ∀ i, i < 73 → c i = stc S i
def IsSt (m : Mem) (b : Nat) (S : St) : Prop := ∃ x, m.obj b = some x ∧ x.n = 73 + S.q ∧ x.ro = false ∧ StCells x.c S ∧ ∀ j, j < S.q → x.c (73 + j) = S.x j
def Only (m : Mem) (b : Nat) (m' : Mem) : Prop := ∀ b', b' ≠ b → m'.obj b' = m.obj b'
theorem Only.refl (m : Mem) (b : Nat) : Only m b m := fun _ _ => rfl
theorem Only.trans {a b c : Mem} {r : Nat} (h : Only a r b) (h' : Only b r c) : Only a r c := fun k hk => (h' k hk).trans (h k hk)
theorem Only.set (m : Mem) (b : Nat) (x : Blk) : Only m b (m.set b x) := fun b' h => set_other x h
theorem IsSt.keep {m m' : Mem} {b : Nat} {S : St} (h : IsSt m b S) (K : Keeps m m') : IsSt m' b S := by
 obtain ⟨x, e, r⟩ := h
 exact ⟨x, by rw [K b (by rw [e]; simp)]; exact e, r⟩
theorem IsSt.only {m m' : Mem} {b b' : Nat} {S : St} (h : IsSt m b S) (O : Only m b' m') (hne : b ≠ b') : IsSt m' b S := by
 obtain ⟨x, e, r⟩ := h
 exact ⟨x, by rw [O b hne]; exact e, r⟩
theorem IsSt.live {m : Mem} {b : Nat} {S : St} (h : IsSt m b S) : m.obj b ≠ none := by
 obtain ⟨x, e, _⟩ := h; rw [e]; simp
theorem ldI_of {kd : IntKind} {m : Mem} {b o : Nat} {k : Int → Prop} {x : Blk} {n : Int} (h : m.obj b = some x) (ho : o < x.n) (hc : x.c o = .flat (.int kd n)) : ldI kd m b o k = k n := by
 unfold ldI kobj; rw [h]; simp only [kite_eq, ho, if_true, hc, kI]
theorem ldB_of {m : Mem} {b o : Nat} {k : Bool → Prop} {x : Blk} {n : Bool} (h : m.obj b = some x) (ho : o < x.n) (hc : x.c o = .flat (.bool n)) : ldB m b o k = k n := by
 unfold ldB kobj; rw [h]; simp only [kite_eq, ho, if_true, hc]
theorem ldA_sl {m : Mem} {b o : Nat} {k : AV → Prop} {x : Blk} {b1 o1 l : Nat} {c : Cap} (h : m.obj b = some x) (ho : o < x.n) (hc : x.c o = .sl b1 o1 l c) : ldA m b o k = k (.sl b1 o1 l c) := by
 unfold ldA kobj; rw [h]; simp only [kite_eq, ho, if_true, hc, kA]
theorem ldG_of {n : Nat} {m : Mem} {b o : Nat} {k : (Nat → AV) → Prop} {x : Blk} (h : m.obj b = some x) (ho : o + n ≤ x.n) : ldG n m b o k = k (sub x.c o n) := by
 unfold ldG kobj; rw [h]; simp only [kite_eq, ho, if_true]
theorem stC_of {m : Mem} {b o : Nat} {v : AV} {k : Mem → Prop} {x : Blk} (h : m.obj b = some x) (hr : x.ro = false) (ho : o < x.n) : stC m b o v k = k (m.set b { x with c := upd x.c o v }) := by
 unfold stC kobj; rw [h]; simp only [hr, kite_eq, ho, if_true]
theorem stG_of {n : Nat} {m : Mem} {b o : Nat} {c : Nat → AV} {k : Mem → Prop} {x : Blk} (h : m.obj b = some x) (hr : x.ro = false) (ho : o + n ≤ x.n) : stG n m b o c k = k (m.set b { x with c := splice x.c o n c }) := by
 unfold stG kobj; rw [h]; simp only [hr, kite_eq, ho, if_true]
theorem ldI_st {m : Mem} {b i : Nat} {S : St} (h : IsSt m b S) (h1 : i < 72) (h2 : isP3 i = false) (k : Int → Prop) : ldI .u32 m b i k = k (S.n i) := by
 obtain ⟨x, e, hn, _, hc, _⟩ := h
 exact ldI_of e (by omega) ((hc i (by omega)).trans (stc_u h2 (by omega)))
theorem ldT_st {m : Mem} {b : Nat} {S : St} (h : IsSt m b S) (k : Int → Prop) : ldI .i64 m b 72 k = k (S.n 72) := by
 obtain ⟨x, e, hn, _, hc, _⟩ := h
 exact ldI_of e (by omega) ((hc 72 (by omega)).trans (stc_t S))
theorem ldB_st {m : Mem} {b i : Nat} {S : St} (h : IsSt m b S) (h1 : i < 73) (h2 : isP3 i = true) (k : Bool → Prop) : ldB m b i k = k (S.p i) := by
 obtain ⟨x, e, hn, _, hc, _⟩ := h
 exact ldB_of e (by omega) ((hc i (by omega)).trans (stc_p h2))
theorem stC_st {m : Mem} {b i : Nat} {S : St} {v : Int} {k : Mem → Prop} (h : IsSt m b S) (h1 : i < 72) (h2 : isP3 i = false) (hk : ∀ m', IsSt m' b (S.putN i v) → Only m b m' → k m') : stC m b i (.flat (.int .u32 v)) k := by
 obtain ⟨x, e, hn, hr, hc, hx⟩ := h
 rw [stC_of e hr (by omega)]
 refine hk _ ⟨_, set_same _ _ _, hn, hr, fun j hj => ?_, fun j hj => by show upd x.c i _ (73 + j) = _; unfold upd; rw [if_neg (by omega)]; exact hx j hj⟩ (Only.set _ _ _)
 show upd x.c i _ j = _
 unfold upd
 by_cases c : j = i
 ·subst c; rw [if_pos rfl, stc_u h2 (by omega)]; simp [St.putN, upd]
 ·rw [if_neg c, hc j hj]; unfold stc St.putN upd; simp [c]
theorem stT_st {m : Mem} {b : Nat} {S : St} {v : Int} {k : Mem → Prop} (h : IsSt m b S) (hk : ∀ m', IsSt m' b (S.putN 72 v) → Only m b m' → k m') : stC m b 72 (.flat (.int .i64 v)) k := by
 obtain ⟨x, e, hn, hr, hc, hx⟩ := h
 rw [stC_of e hr (by omega)]
 refine hk _ ⟨_, set_same _ _ _, hn, hr, fun j hj => ?_, fun j hj => by show upd x.c 72 _ (73 + j) = _; unfold upd; rw [if_neg (by omega)]; exact hx j hj⟩ (Only.set _ _ _)
 show upd x.c 72 _ j = _
 unfold upd
 by_cases c : j = 72
 ·subst c; rw [if_pos rfl, stc_t]; simp [St.putN, upd]
 ·rw [if_neg c, hc j hj]; unfold stc St.putN upd; simp [c]
theorem stB_st {m : Mem} {b i : Nat} {S : St} {v : Bool} {k : Mem → Prop} (h : IsSt m b S) (h1 : i < 73) (h2 : isP3 i = true) (hk : ∀ m', IsSt m' b (S.putP i v) → Only m b m' → k m') : stC m b i (.flat (.bool v)) k := by
 obtain ⟨x, e, hn, hr, hc, hx⟩ := h
 rw [stC_of e hr (by omega)]
 refine hk _ ⟨_, set_same _ _ _, hn, hr, fun j hj => ?_, fun j hj => by show upd x.c i _ (73 + j) = _; unfold upd; rw [if_neg (by omega)]; exact hx j hj⟩ (Only.set _ _ _)
 show upd x.c i _ j = _
 unfold upd
 by_cases c : j = i
 ·subst c; rw [if_pos rfl, stc_p h2]; simp [St.putP, upd]
 ·rw [if_neg c, hc j hj]; unfold stc St.putP upd; simp [c]
theorem stE_st {m : Mem} {b i : Nat} {S : St} {c : Nat → AV} {u v : Int} {k : Mem → Prop} (h : IsSt m b S) (h1 : 38 ≤ i ∧ i + 2 ≤ 71) (h2 : c 0 = .flat (.int .u32 u)) (h3 : c 1 = .flat (.int .u32 v)) (hk : ∀ m', IsSt m' b ((S.putN i u).putN (i + 1) v) → Only m b m' → k m') : stG 2 m b i c k := by
 obtain ⟨x, e, hn, hr, hc, hx⟩ := h
 rw [stG_of e hr (by omega)]
 refine hk _ ⟨_, set_same _ _ _, hn, hr, fun j hj => ?_, fun j hj => by show splice x.c i 2 c (73 + j) = _; unfold splice; rw [if_neg (by omega)]; exact hx j hj⟩ (Only.set _ _ _)
 show splice x.c i 2 c j = _
 have hp : isP3 i = false := by simp [isP3]; omega
 have hp1 : isP3 (i + 1) = false := by simp [isP3]; omega
 unfold splice
 by_cases c1 : j = i
 ·subst c1; rw [if_pos (by omega), Nat.sub_self, h2, stc_u hp (by omega)]; simp [St.putN, upd]
 ·by_cases c2 : j = i + 1
  ·subst c2; rw [if_pos (by omega), show i + 1 - i = 1 by omega, h3, stc_u hp1 (by omega)]; simp [St.putN, upd]
  ·rw [if_neg (by omega), hc j hj]; unfold stc St.putN upd; simp [c1, c2]
theorem stS_st {m : Mem} {b : Nat} {S : St} {c : Nat → AV} {k : Mem → Prop} {x : Blk} (h : m.obj b = some x) (hn : x.n = 73) (hr : x.ro = false) (hc : StCells c S) (hk : ∀ m', IsSt m' b S → Only m b m' → k m') (hq : S.q = 0 := by rfl) : stG 73 m b 0 c k := by
 rw [stG_of h hr (by omega)]
 refine hk _ ⟨_, set_same _ _ _, by rw [hq]; exact hn, hr, fun j hj => ?_, fun j hj => by omega⟩ (Only.set _ _ _)
 show splice x.c 0 73 c j = _
 unfold splice
 rw [if_pos (by omega), Nat.sub_zero]; exact hc j hj
theorem stS_b {m : Mem} {b : Nat} {S : St} {c : Nat → AV} {k : Mem → Prop} {x : Blk} (h : m.obj b = some x) (hn : x.n = 73) (hr : x.ro = false) (hc : StCells c S) (hk : ∀ m', IsSt m' b S.bare → Only m b m' → k m') : stG 73 m b 0 c k :=
 stS_st (S := S.bare) h hn hr hc hk
theorem ldS_st {m : Mem} {b : Nat} {S : St} {k : (Nat → AV) → Prop} (h : IsSt m b S) (hk : ∀ c, StCells c S → k c) : ldG 73 m b 0 k := by
 obtain ⟨x, e, hn, hr, hc, hx⟩ := h
 rw [ldG_of e (by omega)]
 exact hk _ fun i hi => by simp [sub, hi, hc i hi]
theorem newS {m : Mem} {c z : Nat → AV} {t : TypeId} {S : St} {k : Nat → Mem → Prop} (hc : StCells c S) (hk : ∀ b m', m.obj b = none → Keeps m m' → Only m b m' → IsSt m' b S → k b m') (hq : S.q = 0 := by rfl) : newK m ⟨73, z, t, false⟩ fun b m' => stG 73 m' b 0 c fun m2 => k b m2 := by
 intro b hb
 refine stS_st (set_same _ _ _) rfl rfl hc (fun m' h O => hk b m' hb (fun b' h' => ?_) ((Only.set _ _ _).trans O) h) hq
 have : b' ≠ b := fun e => h' (e ▸ hb)
 rw [O b' this, set_other _ this]
theorem StCells.inDom {c : Nat → AV} {S : St} (h : StCells c S) (m : Mem) : InDomG 73 m c := fun i hi => by
 rw [h i hi]; unfold stc; split
 ·trivial
 ·split <;> trivial
theorem Keeps.self (m : Mem) : Keeps m m := fun _ _ => rfl
theorem Only.keeps {m m1 m2 : Mem} {b : Nat} (K : Keeps m m1) (hb : m.obj b = none) (O : Only m1 b m2) : Keeps m m2 := fun b' h => by
 have : b' ≠ b := fun e => h (e ▸ hb)
 rw [O b' this]; exact K b' h
def St.same (S T : St) : Prop := ∀ i, i < 73 → if isP3 i = true then S.p i = T.p i else S.n i = T.n i
instance (S T : St) : Decidable (S.same T) := Nat.decidableBallLT 73 _
theorem kif_t {c : Bool} {A B : Prop} (h : c = true) (a : A) : kif c A B := by subst h; exact a
theorem kif_f {c : Bool} {A B : Prop} (h : c = false) (b : B) : kif c A B := by subst h; exact b
theorem kif_c (c : Bool) {A B : Prop} (a : c = true → A) (b : c = false → B) : kif c A B := by
 cases c
 ·exact b rfl
 ·exact a rfl
theorem kif_ix {x : Int} {n : Int} {A B : Prop} (h0 : 0 ≤ x) (h1 : x < n) (a : A) : kif (decide (0 ≤ x) && decide (x < n)) A B := kif_t (by simp [h0, h1]) a
theorem kite_t {c : Prop} [Decidable c] {A B : Prop} (h : c) (a : A) : kite c A B := by rw [kite_eq, if_pos h]; exact a
theorem newK_i {m : Mem} {x : Blk} {k : Nat → Mem → Prop} (hk : ∀ b m', m.obj b = none → Keeps m m' → m'.obj b = some x → Only m b m' → k b m') : newK m x k := fun b hb => hk b _ hb (Keeps.set hb x) (set_same _ _ _) (Only.set _ _ _)
theorem wrap64 {n : Int} (h : -9223372036854775808 ≤ n) (h' : n < 9223372036854775808) : IntKind.wrap .i64 n = n := by
 simp [IntKind.wrap, IntKind.bits, IntKind.signed]; omega
theorem wrap32 (n : Int) : IntKind.wrap .u32 n = n % 4294967296 := by simp [IntKind.wrap, IntKind.bits, IntKind.signed]
theorem wrap32_rng (n : Int) : 0 ≤ IntKind.wrap .u32 n ∧ IntKind.wrap .u32 n < 4294967296 := by rw [wrap32]; omega
theorem wf_u32 {a : Int} (h : (Lit.int .u32 a).wf = true) : 0 ≤ a ∧ a < 4294967296 := by
 have h2 : 0 ≤ a ∧ a ≤ 4294967295 := by simpa [Lit.wf, IntKind.min, IntKind.max, IntKind.signed, IntKind.bits] using h
 omega
theorem wf_i64 {a : Int} (h : (Lit.int .i64 a).wf = true) : -9223372036854775808 ≤ a ∧ a < 9223372036854775808 := by
 have h2 : -9223372036854775808 ≤ a ∧ a ≤ 9223372036854775807 := by simpa [Lit.wf, IntKind.min, IntKind.max, IntKind.signed, IntKind.bits] using h
 omega
def bv (x : Int) : BitVec 32 := BitVec.ofInt 32 x
theorem wrap_bv (b : BitVec 32) : IntKind.wrap .u32 (b.toNat : Int) = (b.toNat : Int) := by
 rw [wrap32]; have := b.isLt; omega
theorem and_bv (x y : Int) : Go.bits .and .u32 x y = ((bv x &&& bv y).toNat : Int) := wrap_bv _
theorem or_bv (x y : Int) : Go.bits .or .u32 x y = ((bv x ||| bv y).toNat : Int) := wrap_bv _
theorem xor_bv (x y : Int) : Go.bits .xor .u32 x y = ((bv x ^^^ bv y).toNat : Int) := wrap_bv _
theorem not_bv (x y : Int) : Go.bits .andNot .u32 x y = ((bv x &&& ~~~ bv y).toNat : Int) := wrap_bv _
theorem bv_back (b : BitVec 32) : bv (b.toNat : Int) = b := by unfold bv; rw [BitVec.ofInt_natCast, BitVec.ofNat_toNat, BitVec.setWidth_eq]
theorem bv_rng (b : BitVec 32) : 0 ≤ (b.toNat : Int) ∧ (b.toNat : Int) < 4294967296 := by have := b.isLt; omega
theorem and_rng (x y : Int) : 0 ≤ Go.bits .and .u32 x y ∧ Go.bits .and .u32 x y < 4294967296 := by rw [and_bv]; exact bv_rng _
theorem or_rng (x y : Int) : 0 ≤ Go.bits .or .u32 x y ∧ Go.bits .or .u32 x y < 4294967296 := by rw [or_bv]; exact bv_rng _
theorem xor_rng (x y : Int) : 0 ≤ Go.bits .xor .u32 x y ∧ Go.bits .xor .u32 x y < 4294967296 := by rw [xor_bv]; exact bv_rng _
theorem not_rng (x y : Int) : 0 ≤ Go.bits .andNot .u32 x y ∧ Go.bits .andNot .u32 x y < 4294967296 := by rw [not_bv]; exact bv_rng _
theorem toNat_inj32 {a b : BitVec 32} : ((a.toNat : Int) = (b.toNat : Int)) ↔ a = b :=
 ⟨fun h => BitVec.eq_of_toNat_eq (by exact_mod_cast h), fun h => by rw [h]⟩
theorem bv_toInt {x : Int} (h0 : 0 ≤ x) (h1 : x < 4294967296) : ((bv x).toNat : Int) = x := by
 unfold bv
 obtain ⟨n, rfl⟩ := Int.eq_ofNat_of_zero_le h0
 rw [BitVec.ofInt_natCast, BitVec.toNat_ofNat, Nat.mod_eq_of_lt (by omega)]
theorem beq_bv (a b : BitVec 32) : ((a.toNat : Int) == (b.toNat : Int)) = (a == b) := by
 rw [Bool.eq_iff_iff, beq_iff_eq, beq_iff_eq, toNat_inj32]
theorem beq_bv0 (a : BitVec 32) : ((a.toNat : Int) == 0) = (a == 0#32) := by
 have := beq_bv a 0#32; simpa using this
theorem xor_and (a b m : BitVec 32) : ((a ^^^ b) &&& m == 0#32) = (a &&& m == b &&& m) := by
 rw [Bool.eq_iff_iff, beq_iff_eq, beq_iff_eq]
 constructor
 ·intro h
  apply BitVec.eq_of_getLsbD_eq
  intro i hi
  have := congrArg (fun x => x.getLsbD i) h
  simp only [BitVec.getLsbD_and, BitVec.getLsbD_xor, BitVec.getLsbD_zero] at this ⊢
  revert this
  generalize a.getLsbD i = p; generalize b.getLsbD i = q; generalize m.getLsbD i = r
  revert p q r; decide
 ·intro h
  apply BitVec.eq_of_getLsbD_eq
  intro i hi
  have := congrArg (fun x => x.getLsbD i) h
  simp only [BitVec.getLsbD_and, BitVec.getLsbD_xor, BitVec.getLsbD_zero] at this ⊢
  revert this
  generalize a.getLsbD i = p; generalize b.getLsbD i = q; generalize m.getLsbD i = r
  revert p q r; decide
theorem xor_and0 (x y m : Int) : (Go.bits .and .u32 (Go.bits .xor .u32 x y) m == 0) = (Go.bits .and .u32 x m == Go.bits .and .u32 y m) := by
 rw [xor_bv, and_bv, and_bv, and_bv, bv_back, beq_bv0, beq_bv, xor_and]
theorem not_and (x m m' : Int) (h : ~~~ bv m = bv m') : Go.bits .andNot .u32 x m = Go.bits .and .u32 x m' := by
 rw [not_bv, and_bv, h]
theorem not1023 (x : Int) : Go.bits .andNot .u32 x 1023 = Go.bits .and .u32 x 4294966272 := not_and x _ _ (by decide)
theorem and_ones (x : Int) (h0 : 0 ≤ x) (h1 : x < 4294967296) (b : Nat) (hb : b ≤ 32) : Go.bits .and .u32 x ((2 ^ b - 1 : Nat) : Int) = x % 2 ^ b := by
 obtain ⟨n, rfl⟩ := Int.eq_ofNat_of_zero_le h0
 have h2 : 2 ^ b ≤ 2 ^ 32 := Nat.pow_le_pow_right (by decide) hb
 rw [and_bv]
 have e : (bv (n : Int) &&& bv ((2 ^ b - 1 : Nat) : Int)).toNat = n &&& (2 ^ b - 1) := by
  rw [BitVec.toNat_and]
  have e1 := bv_toInt (x := (n : Int)) (by omega) (by omega)
  have e2 := bv_toInt (x := ((2 ^ b - 1 : Nat) : Int)) (by omega) (by have : 0 < 2 ^ b := Nat.two_pow_pos b; omega)
  rw [show (bv (n : Int)).toNat = n by omega, show (bv ((2 ^ b - 1 : Nat) : Int)).toNat = 2 ^ b - 1 by omega]
 rw [e, Nat.and_two_pow_sub_one_eq_mod]
 simp
def isTrue : Bool → Mem → Prop := fun r _ => r = true
theorem tmod_nn {a b : Int} (h : 0 ≤ a) : a.tmod b = a % b := Int.tmod_eq_emod_of_nonneg h
theorem andn3 (x : Int) (h0 : 0 ≤ x) (h1 : x < 4294967296) (b : Nat) (hb : b ≤ 32) (q : Int) (hq : ~~~ bv q = bv (4294967296 - 2 ^ b)) (hq2 : bv q = bv ((2 ^ b - 1 : Nat) : Int)) : bits .andNot .u32 x q = x - x % 2 ^ b := by
 have e1 := and_ones x h0 h1 b hb
 rw [and_bv, ← hq2] at e1
 rw [not_bv]
 have e2 : (bv x &&& bv q) ||| (bv x &&& ~~~ bv q) = bv x := by
  apply BitVec.eq_of_getLsbD_eq
  intro i hi
  simp only [BitVec.getLsbD_or, BitVec.getLsbD_and, BitVec.getLsbD_not, hi, decide_true, Bool.true_and]
  generalize (bv x).getLsbD i = p; generalize (bv q).getLsbD i = r
  revert p r; decide
 have e3 : (bv x &&& bv q) + (bv x &&& ~~~ bv q) = bv x := by
  rw [BitVec.add_eq_or_of_and_eq_zero, e2]
  apply BitVec.eq_of_getLsbD_eq
  intro i hi
  simp only [BitVec.getLsbD_and, BitVec.getLsbD_not, hi, decide_true, Bool.true_and, BitVec.getLsbD_zero]
  generalize (bv x).getLsbD i = p; generalize (bv q).getLsbD i = r
  revert p r; decide
 have e4 := congrArg BitVec.toNat e3
 have e5 : (bv x &&& bv q).toNat + (bv x &&& ~~~ bv q).toNat = ((bv x &&& bv q) ||| (bv x &&& ~~~ bv q)).toNat := by
  rw [← BitVec.add_eq_or_of_and_eq_zero]
  ·rw [BitVec.toNat_add_of_and_eq_zero]
   apply BitVec.eq_of_getLsbD_eq
   intro i hi
   simp only [BitVec.getLsbD_and, BitVec.getLsbD_not, hi, decide_true, Bool.true_and, BitVec.getLsbD_zero]
   generalize (bv x).getLsbD i = p; generalize (bv q).getLsbD i = r
   revert p r; decide
  ·apply BitVec.eq_of_getLsbD_eq
   intro i hi
   simp only [BitVec.getLsbD_and, BitVec.getLsbD_not, hi, decide_true, Bool.true_and, BitVec.getLsbD_zero]
   generalize (bv x).getLsbD i = p; generalize (bv q).getLsbD i = r
   revert p r; decide
 rw [e2] at e5
 have e6 := bv_toInt h0 h1
 omega
theorem hi_eq (x : Int) (h0 : 0 ≤ x) (h1 : x < 4294967296) : bits .and .u32 x 4294966272 = x - x % 1024 := by
 rw [← not1023, andn3 x h0 h1 10 (by decide) 1023 (by decide) (by decide)]; rfl
theorem lo_eq (x : Int) (h0 : 0 ≤ x) (h1 : x < 4294967296) : bits .and .u32 x 1023 = x % 1024 := by
 have := and_ones x h0 h1 10 (by decide); simpa using this
theorem or_add {a b : BitVec 32} (h : a &&& b = 0#32) : ((a ||| b).toNat : Int) = (a.toNat : Int) + (b.toNat : Int) := by
 rw [← BitVec.add_eq_or_of_and_eq_zero _ _ h, BitVec.toNat_add_of_and_eq_zero h]; push_cast; rfl
theorem hilo (x y : Int) (h0 : 0 ≤ x) (h1 : x < 4294967296) (g0 : 0 ≤ y) (g1 : y < 4294967296) : bits .or .u32 (bits .and .u32 x 4294966272) (bits .and .u32 y 1023) = (x - x % 1024) + y % 1024 := by
 rw [← hi_eq x h0 h1, ← lo_eq y g0 g1, or_bv, and_bv, and_bv, bv_back, bv_back, or_add]
 apply BitVec.eq_of_getLsbD_eq
 intro i hi
 have hd : bv 4294966272 &&& bv 1023 = 0#32 := by decide
 have := congrArg (fun z => z.getLsbD i) hd
 simp only [BitVec.getLsbD_and, BitVec.getLsbD_zero] at this ⊢
 revert this
 generalize (bv x).getLsbD i = p; generalize (bv y).getLsbD i = q; generalize (bv 4294966272).getLsbD i = r; generalize (bv 1023).getLsbD i = t
 revert p q r t; decide
theorem or_low {x y : Int} (h0 : 0 ≤ x) (h1 : x < 4294967296) (hx : x % 1024 = 0) (g0 : 0 ≤ y) (g1 : y < 1024) : bits .or .u32 x y = x + y := by
 have e := hilo x y h0 h1 g0 (by omega)
 rw [hi_eq x h0 h1, lo_eq y g0 (by omega), hx, Int.emod_eq_of_lt g0 g1, Int.sub_zero] at e
 exact e
theorem boxN {n : Nat} {m : Mem} {t : TypeId} {z c : Nat → AV} {k : Nat → Mem → Prop} (hk : ∀ b m' x, m.obj b = none → Keeps m m' → m'.obj b = some x → x.n = n → x.ro = false → (∀ j, j < n → x.c j = c j) → k b m') : newK m ⟨n, z, t, false⟩ fun b m2 => stG n m2 b 0 c fun m4 => k b m4 := by
 intro b hb
 rw [stG_of (set_same _ _ _) rfl (by show 0 + n ≤ n; omega)]
 refine hk b _ _ hb (fun b' h' => ?_) (set_same _ _ _) rfl rfl fun j hj => ?_
 ·have : b' ≠ b := fun e => h' (e ▸ hb)
  rw [set_other _ this, set_other _ this]
 ·show splice _ 0 n c j = _
  unfold splice; rw [if_pos (by omega), Nat.sub_zero]
theorem newK_none {m0 m : Mem} (K : Keeps m0 m) {b : Nat} (hb : m.obj b = none) : m0.obj b = none := by
 by_cases e : m0.obj b = none
 ·exact e
 ·rw [K b e] at hb; exact absurd hb e
end Go.Proofs.YtkiggdgphbkneaaGreat.Am
