/- The laws of chapter 8 over the abstract machine. Conditions: what is handed in is plain data. -/
import Derived.Test.YtdjieokcflogmaaK8
import Derived.Test.YtdjieokcflogmaaK6c
namespace Go.Proofs.Ytdjieokcflogmaa.Am
set_option linter.unusedVariables false
set_option linter.unusedSimpArgs false

def isTrue : Bool → Mem → Prop := fun r _ => r = true

/-- a State as it is drawn, in a box, then in a block of its own -/
theorem drawn {m : Mem} {c : Nat → AV} {t t' : TypeId} {z : Nat → AV} (hT : TyAll m shS c) {now : Int} (hn0 : -9223372036854775808 ≤ now) (hn1 : now < 9223372036854775808) {k : Nat → Nat → Mem → Prop}
    (hk : ∀ b2 b7 m' S, IsSt m' b7 S → S.ok → TyAll m' shS c → (∃ x, m'.obj b2 = some x ∧ x.n = 11 ∧ ∀ i, i < 11 → x.c i = c i) → Keeps m m' → m.obj b7 = none → b2 ≠ b7 → k b2 b7 m') :
    newK m ⟨11, c, t, false⟩ fun b2 m1 => ldG 11 m1 b2 0 fun c3 => F7 c3 now m1 fun c4 m5 => newK m5 ⟨73, z, t', false⟩ fun b7 m6 => stG 73 m6 b7 0 c4 fun m8 => k b2 b7 m8 := by
  refine newK_i fun b2 m1 hb2 K1 e2 O1 => ?_
  rw [ldG_of e2 (by show 0 + 11 ≤ 11; omega)]
  have hs : ∀ i, i < 11 → sub c 0 11 i = c i := fun i hi => by simp [sub, hi]
  have hT1 : TyAll m1 shS (sub c 0 11) := fun i l e => by
    have hi : i < 11 := (List.getElem?_eq_some_iff.1 e).1
    rw [hs i hi]; exact (hT i l e).keep K1
  refine state_spec hT1 hn0 hn1 fun c4 S h4 hS => newS h4 fun b7 m8 hb7 K8 O8 i8 => ?_
  have hne : b2 ≠ b7 := fun e => by subst e; rw [e2] at hb7; cases hb7
  refine hk b2 b7 m8 S i8 hS (hT.keep (K1.trans K8)) ⟨_, (O8 b2 hne).trans e2, rfl, fun i hi => rfl⟩ (K1.trans K8) ?_ hne
  by_cases h0 : m.obj b7 = none
  · exact h0
  · rw [K1 b7 h0] at hb7; exact hb7

theorem bv_lit (n : Int) (h0 : 0 ≤ n) (h1 : n < 4294967296) : bv n = BitVec.ofNat 32 n.toNat := by
  unfold bv; obtain ⟨k, rfl⟩ := Int.eq_ofNat_of_zero_le h0; rw [BitVec.ofInt_natCast]; rfl

/-- two bits from below off, 29 kept -/
theorem and_dir (x : Int) : bits .and .u32 x 536870908 % 4 = 0 ∧ 0 ≤ bits .and .u32 x 536870908 ∧ bits .and .u32 x 536870908 < 536870912 := by
  have hr := and_rng x 536870908
  have e : bits .and .u32 x 536870908 = bits .and .u32 (bits .and .u32 x 4294967292) 536870911 := by
    rw [and_bv, and_bv, and_bv, bv_back, BitVec.and_assoc]; rfl
  have e3 : ∀ y : Int, 0 ≤ y → y < 4294967296 → bits .and .u32 y 536870911 = y % 536870912 := fun y h0 h1 => by
    have := and_ones y h0 h1 29 (by decide); simpa using this
  have h4 : bits .and .u32 x 536870908 % 4 = 0 := by
    have h5 : bits .and .u32 (bits .and .u32 x 536870908) 3 = 0 := by
      rw [and_bv, and_bv, bv_back, BitVec.and_assoc]
      have : bv 536870908 &&& bv 3 = 0#32 := by decide
      rw [this]; simp
    have := and_ones (bits .and .u32 x 536870908) hr.1 hr.2 2 (by decide)
    have h6 : ((2 ^ 2 - 1 : Nat) : Int) = 3 := rfl
    rw [h6, h5] at this
    simpa using this.symm
  have h7 := and_rng x 4294967292
  rw [e3 _ h7.1 h7.2] at e
  omega

theorem SegDirect {m : Mem} {c : Nat → AV} (hT : TyAll m shS c) {va : Int} (hw : (Lit.int .u32 va).wf = true) : F4 c va m isTrue := by
  obtain ⟨h0, h1⟩ := wf_u32 hw
  unfold F4
  refine drawn hT (by omega) (by omega) fun b2 b7 m' S i hS _ _ _ _ _ => ?_
  obtain ⟨hd, hr0, hr1⟩ := and_dir va
  generalize hoff : bits .and .u32 va 536870908 = off at hd hr0 hr1 ⊢
  rw [wrap32, wrap32, Int.emod_eq_of_lt (by omega) (by omega), Int.emod_eq_of_lt (by omega) (by omega)]
  refine seg_spec i (by omega) (by omega) (seg_spec i (by omega) (by omega) (user_spec i ?_))
  have low : ∀ y : Int, 0 ≤ y → y < 4294967296 → bits .and .u32 y 536870911 = y % 536870912 := fun y h0 h1 => by
    have := and_ones y h0 h1 29 (by decide); simpa using this
  have e1 : ∀ st, liesS S (2147483648 + off) 4 st = if userS S = true then (0, if st = true then 5 else 4, false) else (off, -1, false) := fun st => by
    unfold liesS; dsimp only
    rw [if_pos (by decide : (4 : Int) ≠ 1 ∧ (4 : Int) ≠ 2)]
    by_cases hu : userS S = true
    · rw [if_pos (.inr ⟨by omega, hu⟩), if_pos hu]
    · rw [if_neg (by simp [hu]; omega), if_neg hu, if_pos (by omega), low _ (by omega) (by omega)]
      congr 1; omega
  have e2 : ∀ st, liesS S (2684354560 + off) 4 st = if userS S = true then (0, if st = true then 5 else 4, false) else (off, -1, false) := fun st => by
    unfold liesS; dsimp only
    rw [if_pos (by decide : (4 : Int) ≠ 1 ∧ (4 : Int) ≠ 2)]
    by_cases hu : userS S = true
    · rw [if_pos (.inr ⟨by omega, hu⟩), if_pos hu]
    · rw [if_neg (by simp [hu]; omega), if_neg hu, if_pos (by omega), low _ (by omega) (by omega)]
      congr 1; omega
  rw [e1, e2]
  refine kif_c _ (fun c1 => ?_) fun c1 => ?_
  · rw [if_pos c1, if_pos c1]
    exact kif_t rfl (kif_t rfl (kif_t rfl (kif_t rfl (known8 rfl))))
  · rw [if_neg (by rw [c1]; simp), if_neg (by rw [c1]; simp)]
    exact kif_t (by simp) (kif_t rfl (kif_t (by simp) (kif_t rfl (known8 rfl))))

/-! ### aligned -/
theorem andn3 (x : Int) (h0 : 0 ≤ x) (h1 : x < 4294967296) (b : Nat) (hb : b ≤ 32) (q : Int) (hq : ~~~ bv q = bv (4294967296 - 2 ^ b)) (hq2 : bv q = bv ((2 ^ b - 1 : Nat) : Int)) : bits .andNot .u32 x q = x - x % 2 ^ b := by
  have e1 := and_ones x h0 h1 b hb
  rw [and_bv, ← hq2] at e1
  rw [not_bv]
  have e2 : (bv x &&& bv q) ||| (bv x &&& ~~~ bv q) = bv x := by
    apply BitVec.eq_of_getLsbD_eq
    intro i hi
    simp only [BitVec.getLsbD_or, BitVec.getLsbD_and, BitVec.getLsbD_not, hi, decide_true, Bool.true_and]
    generalize (bv x).getLsbD i = p; generalize (bv q).getLsbD i = r
    revert p r; decide
  have e3 : (bv x &&& bv q) + (bv x &&& ~~~ bv q) = bv x := by
    rw [BitVec.add_eq_or_of_and_eq_zero, e2]
    apply BitVec.eq_of_getLsbD_eq
    intro i hi
    simp only [BitVec.getLsbD_and, BitVec.getLsbD_not, hi, decide_true, Bool.true_and, BitVec.getLsbD_zero]
    generalize (bv x).getLsbD i = p; generalize (bv q).getLsbD i = r
    revert p r; decide
  have e4 := congrArg BitVec.toNat e3
  have e5 : (bv x &&& bv q).toNat + (bv x &&& ~~~ bv q).toNat = ((bv x &&& bv q) ||| (bv x &&& ~~~ bv q)).toNat := by
    rw [← BitVec.add_eq_or_of_and_eq_zero]
    · rw [BitVec.toNat_add_of_and_eq_zero]
      apply BitVec.eq_of_getLsbD_eq
      intro i hi
      simp only [BitVec.getLsbD_and, BitVec.getLsbD_not, hi, decide_true, Bool.true_and, BitVec.getLsbD_zero]
      generalize (bv x).getLsbD i = p; generalize (bv q).getLsbD i = r
      revert p r; decide
    · apply BitVec.eq_of_getLsbD_eq
      intro i hi
      simp only [BitVec.getLsbD_and, BitVec.getLsbD_not, hi, decide_true, Bool.true_and, BitVec.getLsbD_zero]
      generalize (bv x).getLsbD i = p; generalize (bv q).getLsbD i = r
      revert p r; decide
  rw [e2] at e5
  have e6 := bv_toInt h0 h1
  omega

theorem hi_eq (x : Int) (h0 : 0 ≤ x) (h1 : x < 4294967296) : bits .and .u32 x 4294966272 = x - x % 1024 := by
  rw [← not1023, andn3 x h0 h1 10 (by decide) 1023 (by decide) (by decide)]; rfl
theorem lo_eq (x : Int) (h0 : 0 ≤ x) (h1 : x < 4294967296) : bits .and .u32 x 1023 = x % 1024 := by
  have := and_ones x h0 h1 10 (by decide); simpa using this
theorem not3 (x : Int) (h0 : 0 ≤ x) (h1 : x < 4294967296) : bits .andNot .u32 x 3 = x - x % 4 := by
  rw [andn3 x h0 h1 2 (by decide) 3 (by decide) (by decide)]; rfl
theorem or_add {a b : BitVec 32} (h : a &&& b = 0#32) : ((a ||| b).toNat : Int) = (a.toNat : Int) + (b.toNat : Int) := by
  rw [← BitVec.add_eq_or_of_and_eq_zero _ _ h, BitVec.toNat_add_of_and_eq_zero h]; push_cast; rfl
theorem hilo (x y : Int) (h0 : 0 ≤ x) (h1 : x < 4294967296) (g0 : 0 ≤ y) (g1 : y < 4294967296) : bits .or .u32 (bits .and .u32 x 4294966272) (bits .and .u32 y 1023) = (x - x % 1024) + y % 1024 := by
  rw [← hi_eq x h0 h1, ← lo_eq y g0 g1, or_bv, and_bv, and_bv, bv_back, bv_back, or_add]
  apply BitVec.eq_of_getLsbD_eq
  intro i hi
  have hd : bv 4294966272 &&& bv 1023 = 0#32 := by decide
  have := congrArg (fun z => z.getLsbD i) hd
  simp only [BitVec.getLsbD_and, BitVec.getLsbD_zero] at this ⊢
  revert this
  generalize (bv x).getLsbD i = p; generalize (bv y).getLsbD i = q; generalize (bv 4294966272).getLsbD i = r; generalize (bv 1023).getLsbD i = t
  revert p q r t; decide
theorem and1020 (x : Int) (h0 : 0 ≤ x) (h1 : x < 4294967296) : bits .and .u32 x 1020 = x % 1024 - x % 4 := by
  have e : bits .and .u32 x 1020 = bits .andNot .u32 (bits .and .u32 x 1023) 3 := by
    rw [and_bv, not_bv, and_bv, bv_back, BitVec.and_assoc]; rfl
  have hr := and_rng x 1023
  rw [e, not3 _ hr.1 hr.2, lo_eq x h0 h1]; omega
theorem low29 (y : Int) (h0 : 0 ≤ y) (h1 : y < 4294967296) : bits .and .u32 y 536870911 = y % 536870912 := by
  have := and_ones y h0 h1 29 (by decide); simpa using this

theorem tmatch_page (S : St) (A B : Int) (a0 : 0 ≤ A) (a1 : A < 4294967296) (b0 : 0 ≤ B) (b1 : B < 4294967296) (h : A - A % 1024 = B - B % 1024) (i : Nat) : tmatch S A i = tmatch S B i := by
  unfold tmatch; rw [hi_eq A a0 a1, hi_eq B b0 b1, h]
theorem tfind_page (S : St) (A B : Int) (a0 : 0 ≤ A) (a1 : A < 4294967296) (b0 : 0 ≤ B) (b1 : B < 4294967296) (h : A - A % 1024 = B - B % 1024) : ∀ d i, tfind S A d i = tfind S B d i
  | 0, i => rfl
  | d + 1, i => by
    unfold tfind; rw [tmatch_page S A B a0 a1 b0 b1 h i, tfind_page S A B a0 a1 b0 b1 h d (i + 1)]

theorem lies4 {S : St} {va : Int} (h4 : va % 4 = 0) {st : Bool} : liesS S va 4 st = if 2147483648 ≤ va ∧ userS S = true then (0, if st = true then 5 else 4, false) else if 2147483648 ≤ va ∧ va < 3221225472 then (bits .and .u32 va 536870911, -1, false) else lookS S va st := by
  unfold liesS
  dsimp only
  rw [if_pos (by decide : (4 : Int) ≠ 1 ∧ (4 : Int) ≠ 2), h4]
  simp only [ne_eq, not_true, false_or]
theorem lies4_u {S : St} {va : Int} (h4 : va % 4 = 0) (h : 2147483648 ≤ va) (hu : userS S = true) {st : Bool} : liesS S va 4 st = (0, if st = true then 5 else 4, false) := by
  rw [lies4 h4, if_pos ⟨h, hu⟩]
theorem lies4_k {S : St} {va : Int} (h0 : 0 ≤ va) (h1 : va < 4294967296) (h4 : va % 4 = 0) (h : 2147483648 ≤ va ∧ va < 3221225472) (hu : ¬ userS S = true) {st : Bool} : liesS S va 4 st = (va % 536870912, -1, false) := by
  rw [lies4 h4, if_neg (fun e => hu e.2), if_pos h, low29 va h0 h1]
theorem lies4_t {S : St} {va : Int} (h4 : va % 4 = 0) (h : va < 2147483648 ∨ (¬ userS S = true ∧ 3221225472 ≤ va)) {st : Bool} : liesS S va 4 st = lookS S va st := by
  rw [lies4 h4, if_neg (fun e => by rcases h with h | h; omega; exact h.1 e.2), if_neg (fun e => by rcases h with h | h <;> omega)]
theorem lies_page {S : St} (hS : S.ok) (A B : Int) (a0 : 0 ≤ A) (a1 : A < 4294967296) (b0 : 0 ≤ B) (b1 : B < 4294967296) (h : A - A % 1024 = B - B % 1024) (h4 : A % 4 = 0) (g4 : B % 4 = 0) :
    (liesS S A 4 false).2.1 = (liesS S B 4 false).2.1 ∧ ((0 ≤ (liesS S A 4 false).2.1 ∧ (liesS S A 4 false).1 = 0 ∧ (liesS S B 4 false).1 = 0) ∨ ((liesS S A 4 false).2.1 < 0 ∧ (liesS S A 4 false).1 - (liesS S B 4 false).1 = A - B)) := by
  by_cases hu : userS S = true
  · by_cases hA : 2147483648 ≤ A
    · rw [lies4_u h4 hA hu, lies4_u g4 (by omega) hu]
      exact ⟨rfl, .inl ⟨by decide, rfl, rfl⟩⟩
    · rw [lies4_t h4 (.inl (by omega)), lies4_t g4 (.inl (by omega))]
      exact look_page A B a0 a1 b0 b1 h
  · by_cases hk : 2147483648 ≤ A ∧ A < 3221225472
    · rw [lies4_k a0 a1 h4 hk hu, lies4_k b0 b1 g4 (by omega) hu]
      refine ⟨rfl, .inr ⟨by dsimp only; omega, ?_⟩⟩
      dsimp only
      omega
    · rw [lies4_t h4 (by by_cases 2147483648 ≤ A; exact .inr ⟨hu, by omega⟩; exact .inl (by omega)), lies4_t g4 (by by_cases 2147483648 ≤ B; exact .inr ⟨hu, by omega⟩; exact .inl (by omega))]
      exact look_page A B a0 a1 b0 b1 h
where
  look_page (A B : Int) (a0 : 0 ≤ A) (a1 : A < 4294967296) (b0 : 0 ≤ B) (b1 : B < 4294967296) (h : A - A % 1024 = B - B % 1024) :
    (lookS S A false).2.1 = (lookS S B false).2.1 ∧ ((0 ≤ (lookS S A false).2.1 ∧ (lookS S A false).1 = 0 ∧ (lookS S B false).1 = 0) ∨ ((lookS S A false).2.1 < 0 ∧ (lookS S A false).1 - (lookS S B false).1 = A - B)) := by
    have hr := tfind_rng S B 8 0
    unfold lookS
    rw [tfind_page S A B a0 a1 b0 b1 h]
    generalize tfind S B 8 0 = x at hr ⊢
    dsimp only
    by_cases c : x < 0
    · rw [if_pos c, if_pos c]; exact ⟨rfl, .inl ⟨by decide, rfl, rfl⟩⟩
    rw [if_neg c, if_neg c]
    split
    · exact ⟨rfl, .inl ⟨by decide, rfl, rfl⟩⟩
    rw [if_neg (by simp), if_neg (by simp)]
    have hlo := hS.1 (56 + x.toNat * 2) (by omega)
    rw [hilo _ _ hlo.1 hlo.2 a0 a1, hilo _ _ hlo.1 hlo.2 b0 b1]
    exact ⟨rfl, .inr ⟨by dsimp only; omega, by dsimp only; omega⟩⟩

theorem SegAligned {m : Mem} {c : Nat → AV} (hT : TyAll m shS c) {va n : Int} (hw : (Lit.int .u32 va).wf = true) (hn : (Lit.int .i64 n).wf = true) : F5 c va n m isTrue := by
  obtain ⟨h0, h1⟩ := wf_u32 hw
  obtain ⟨g0, g1⟩ := wf_i64 hn
  unfold F5
  refine drawn hT (by omega) (by omega) fun b2 b7 m' S i hS _ _ _ _ _ => newK_i fun b10 m9 hb K e O => ?_
  have hr := Int.tmod_lt_of_pos n (show (0 : Int) < 3 by omega)
  have hr' : -3 < n.tmod 3 := by have := Int.lt_tmod_of_pos n (show (0 : Int) < 3 by omega); omega
  rw [wrap64 (by omega) (by omega), tmod_nn (by omega)]
  generalize hj : (n.tmod 3 + 3) % 3 = j
  refine kif_ix (by omega) (by omega) ?_
  have hk : ∃ k : Int, (k = 1 ∨ k = 2 ∨ k = 4) ∧ upd (upd (upd (lget [(.flat (.int .i64 0)), (.flat (.int .i64 0)), (.flat (.int .i64 0))]) 0 (.flat (.int .i64 1))) 1 (.flat (.int .i64 2))) 2 (.flat (.int .i64 4)) (0 + j.toNat * 1) = AV.flat (.int .i64 k) := by
    have : j = 0 ∨ j = 1 ∨ j = 2 := by omega
    rcases this with rfl | rfl | rfl
    · exact ⟨1, by simp, rfl⟩
    · exact ⟨2, by simp, rfl⟩
    · exact ⟨4, by simp, rfl⟩
  obtain ⟨k, hk, ek⟩ := hk
  rw [ldI_of e (by show 0 + j.toNat * 1 < 3; omega) ek]
  have i9 := i.keep K
  refine seg_spec i9 h0 h1 ?_
  have hwk : IntKind.wrap .u32 k = k := by rw [wrap32]; rcases hk with rfl | rfl | rfl <;> rfl
  rw [hwk, tmod_nn h0]
  refine kif_f (by rcases hk with rfl | rfl | rfl <;> rfl) ?_
  refine kif_c _ (fun c1 => ?_) fun c1 => ?_
  · have c1 : va % k ≠ 0 := by simpa using c1
    have e1 : liesS S va k true = (0, 5, false) := by
      unfold liesS
      have e2 : (if k ≠ 1 ∧ k ≠ 2 then 4 else k) = k := by rcases hk with rfl | rfl | rfl <;> rfl
      dsimp only; rw [e2, if_pos (.inl c1)]; rfl
    rw [e1]
    exact kif_t rfl (kif_t rfl (known8 rfl))
  · rw [not3 va h0 h1, not1023, hi_eq va h0 h1]
    refine seg_spec i9 (by omega) (by omega) (seg_spec i9 (by omega) (by omega) ?_)
    obtain ⟨p1, p2⟩ := lies_page hS (va - va % 4) (va - va % 1024) (by omega) (by omega) (by omega) (by omega) (by omega) (by omega) (by omega)
    rw [and1020 va h0 h1]
    refine kif_t (by simpa using p1) ?_
    rcases p2 with ⟨q1, q2, q3⟩ | ⟨q1, q2⟩
    · exact kif_t (by simpa using q1) (kif_t (by simpa using q2) (kif_t (by simpa using q3) (known8 rfl)))
    · refine kif_f (by simpa using q1) (kif_t (by simpa using q1) (kif_t ?_ (known8 rfl)))
      rw [q2, wrap32, Int.emod_eq_of_lt (by omega) (by omega)]
      simp; omega

/-! ### any State, any addresses -/
theorem tells_round {m : Mem} {b2 b7 b11 : Nat} {S : St} {c : Nat → AV} {xb : Blk} (i7 : IsSt m b7 S) (hS : S.ok) (hx : m.obj b2 = some xb) (hn : xb.n = 11) (hT : TyAll m shS xb.c) {v : AV} (hv : Ty m (.sl [.i .u32]) v) {n : Int} {k0 : Mem → Prop} {kr : Bool → Mem → Prop} (hk : k0 m) :
    ∀ (d : Nat) (i : Int), 0 ≤ i → 20 ≤ i + d → L3_4 v n b2 0 b7 0 b11 0 (d + 1) i m k0 kr := by
  intro d
  induction d with
  | zero =>
    intro i h0 h1
    unfold L3_4 R3_4
    cases hv with
    | nil ls a => exact kif_f (by simp; omega) hk
    | sl ls b len cap y l1 l2 l3 l4 l5 l6 => exact kif_c _ (fun _ => kif_f (by simp; omega) hk) fun _ => hk
  | succ d ih =>
    intro i h0 h1
    unfold L3_4 R3_4
    have hnext : ∀ j : Int, j = i + 1 → L3_4 v n b2 0 b7 0 b11 0 (d + 1) j m k0 kr := fun j e => by subst e; exact ih (i + 1) (by omega) (by omega)
    cases hv with
    | nil ls a => exact kif_f (by simp; omega) hk
    | sl ls b len cap y l1 l2 l3 l4 l5 l6 =>
      refine kif_c _ (fun c1 => ?_) fun _ => hk
      have c1 : i < (len : Int) := by simpa using c1
      refine kif_c _ (fun c2 => ?_) fun _ => hk
      have c2 : i < 20 := by simpa using c2
      obtain ⟨va, eva, r0, r1⟩ := ty_u32 (l6 i.toNat (by omega) 0 _ rfl)
      have eo : 0 + i.toNat * 1 = i.toNat * [Lf.i IntKind.u32].length + 0 := by simp
      have rd : ∀ (k : Int → Prop), k va → ldI .u32 m b (0 + i.toNat * 1) k := fun k hk => by
        rw [eo, ldI_of l4 (by rw [l5]; simp; omega) eva]; exact hk
      refine kif_ix h0 c1 (rd _ ?_)
      refine same_spec i7 r0 r1 (kif_f rfl (kif_ix h0 c1 (rd _ ?_)))
      have a3 := not_rng va 3
      refine same_spec i7 a3.1 a3.2 (kif_f rfl (kif_ix h0 c1 (rd _ ?_)))
      rw [tmod_nn r0]
      refine same_spec i7 (by omega) (by omega) (kif_f rfl ?_)
      have hT8 := hT 8 _ rfl
      simp only [ldA_ty hx (show 0 + 8 < xb.n by omega) hT8]
      rw [wrap64 (by omega) (by omega)]
      generalize xb.c (0 + 8) = v8 at hT8
      cases hT8 with
      | nil ls a =>
        exact hnext (i + 1) rfl
      | sl ls b' len' cap' y' q1 q2 q3 q4 q5 q6 =>
        refine kif_c _ (fun c3 => ?_) fun _ => hnext _ rfl
        have c3 : (0 : Int) < (len' : Int) := by simpa using c3
        refine kif_f (by simp; omega) ?_
        rw [tmod_nn h0]
        have hm0 := Int.emod_nonneg i (show (len' : Int) ≠ 0 by omega)
        have hm1 := Int.emod_lt_of_pos i c3
        generalize i % (len' : Int) = j at hm0 hm1
        refine kif_ix hm0 hm1 ?_
        obtain ⟨hi, ehi, w0, w1⟩ := ty_u32 (q6 j.toNat (by omega) 0 _ rfl)
        have eo' : 0 + j.toNat * 2 + 0 = j.toNat * [Lf.i IntKind.u32, Lf.i IntKind.u32].length + 0 := by simp
        rw [eo', ldI_of q4 (by rw [q5]; simp; omega) ehi]
        refine kif_ix h0 c1 (rd _ ?_)
        have a4 := or_rng hi (bits .and .u32 va 1020)
        exact same_spec i7 a4.1 a4.2 (kif_f rfl (hnext _ rfl))

theorem St.same_refl (S : St) : S.same S := fun i _ => by split <;> rfl

theorem SegTells {m : Mem} {c : Nat → AV} (hT : TyAll m shS c) {v : AV} (hv : Ty m (.sl [.i .u32]) v) {n : Int} (hw : (Lit.int .i64 n).wf = true) : F3 c v n m isTrue := by
  unfold F3
  refine drawn hT (by omega) (by omega) fun b2 b7 m8 S i7 hS hT8 hb2 K h7 hne => ?_
  obtain ⟨xb, hx, hn, hc⟩ := hb2
  refine ldS_st i7 fun c9 h9 => newS h9 fun b11 m12 hb11 K12 O12 i11 => ?_
  have hTx : TyAll m12 shS xb.c := fun i l e => by
    have hi : i < 11 := (List.getElem?_eq_some_iff.1 e).1
    rw [hc i hi]; exact (hT8 i l e).keep K12
  refine ⟨21, tells_round (i7.keep K12) hS ((K12 b2 (by rw [hx]; simp)).trans hx) hn hTx (hv.keep (K.trans K12)) (c := c) ?_ 20 0 (by omega) (by omega)⟩
  refine ldS_st (i7.keep K12) fun c56 h56 => ldS_st i11 fun c57 h57 => ?_
  rw [geq_st h56 h57 _ (by kernel_rfl)]
  exact kif_t (decide_eq_true (St.same_refl S)) (known8 rfl)

/-! ### the closed sentence -/
section
variable {m : Mem} {b : Nat} {S : St} (h : IsSt m b S)
include h
theorem nums15 {x5 x6 x9 x10 x24 x25 : Int} {v8 v23 : AV} {k6 : Mem → Prop} {kr : Bool → Mem → Prop} (hk : k6 m) : ∀ (d : Nat) (i : Int), -1 ≤ i → i + d = 6 → L6_15 b 0 x5 x6 v8 x9 x10 v23 x24 x25 (d + 1) i m k6 kr := by
  intro d
  induction d with
  | zero =>
    intro i h0 h1
    unfold L6_15 R6_15
    exact kif_f (by simp; omega) hk
  | succ d ih =>
    intro i h0 h1
    unfold L6_15 R6_15
    have a1 := wrap32_rng (x5 + x6)
    have a2 := wrap32_rng (x5 - x6)
    refine kif_t (by simp; omega) (same_spec h a1.1 a1.2 (kif_f rfl (same_spec h a2.1 a2.2 (kif_f rfl ?_))))
    rw [wrap64 (by omega) (by omega)]
    exact ih (i + 1) (by omega) (by omega)
theorem nums12 {x5 x9 x10 x24 x25 : Int} {v8 v23 : AV} {k4 : Mem → Prop} {kr : Bool → Mem → Prop} (hk : k4 m) : ∀ (d : Nat) (i : Int), 0 ≤ i → i + d = 5 → L6_12 b 0 x5 v8 x9 x10 v23 x24 x25 (d + 1) i m k4 kr := by
  intro d
  induction d with
  | zero =>
    intro i h0 h1
    unfold L6_12 R6_12
    exact kif_f (by simp; omega) hk
  | succ d ih =>
    intro i h0 h1
    unfold L6_12 R6_12
    refine kif_t (by simp; omega) ⟨8, nums15 h ?_ 7 (-1) (by omega) (by omega)⟩
    rw [wrap32, Int.emod_eq_of_lt (by omega) (by omega)]
    exact ih (i + 1) (by omega) (by omega)
theorem nums9 {x9 x10 : Int} {v8 : AV} {b17 : Nat} {y : Blk} (hy : m.obj b17 = some y) (hyn : y.n = 10) (hyc : ∀ i, i < 10 → ∃ n, y.c i = .flat (.int .u32 n)) {k2 : Mem → Prop} {kr : Bool → Mem → Prop} (hk : k2 m) : ∀ (d : Nat) (i : Int), 0 ≤ i → i + d = 10 → L6_9 b 0 v8 x9 x10 (.sl b17 0 10 (.ex 10)) 10 (d + 1) i m k2 kr := by
  intro d
  induction d with
  | zero =>
    intro i h0 h1
    unfold L6_9 R6_9
    exact kif_f (by simp; omega) hk
  | succ d ih =>
    intro i h0 h1
    unfold L6_9 R6_9
    refine kif_t (by simp; omega) (kif_ix h0 (by omega) ?_)
    obtain ⟨n, en⟩ := hyc (0 + i.toNat * 1) (by omega)
    rw [ldI_of hy (by omega) en]
    refine ⟨6, nums12 h ?_ 5 0 (by omega) (by omega)⟩
    rw [wrap64 (by omega) (by omega)]
    exact ih (i + 1) (by omega) (by omega)
end
theorem nums2 {b2 : Nat} {m0 : Mem} {y : Blk} (hy : m0.obj b2 = some y) (hyn : y.n = 3) (hyc : ∀ i, i < 3 → ∃ n, y.c i = .flat (.int .u32 n)) {k0 : Mem → Prop} {kr : Bool → Mem → Prop} (hk : ∀ m, k0 m) : ∀ (d : Nat) (i : Int) (m : Mem), Keeps m0 m → 0 ≤ i → i + d = 3 → L6_2 (.sl b2 0 3 (.ex 3)) 3 (d + 1) i m k0 kr := by
  intro d
  induction d with
  | zero =>
    intro i m K h0 h1
    unfold L6_2 R6_2
    exact kif_f (by simp; omega) (hk m)
  | succ d ih =>
    intro i m K h0 h1
    unfold L6_2 R6_2
    refine kif_t (by simp; omega) (kif_ix h0 (by omega) ?_)
    obtain ⟨n, en⟩ := hyc (0 + i.toNat * 1) (by omega)
    rw [ldI_of ((K b2 (by rw [hy]; simp)).trans hy) (by omega) en]
    refine fresh_spec fun c8 h8 => newS h8 fun b11 m12 hb11 K12 O12 i12 => write_spec i12 fun m13 i13 o13 => ?_
    refine stE_st i13 (by omega) rfl rfl fun m14 i14 o14 => stE_st i14 (by omega) rfl rfl fun m15 i15 o15 => ?_
    have K15 : Keeps m m15 := Only.keeps (Only.keeps (Only.keeps K12 hb11 o13) hb11 o14) hb11 o15
    refine newK_i fun b17 m16 hb17 K16 e16 O16 => ?_
    refine ⟨11, nums9 (i15.keep K16) e16 rfl (fun i hi => ?_) ?_ 10 0 (by omega) (by omega)⟩
    · have : i = 0 ∨ i = 1 ∨ i = 2 ∨ i = 3 ∨ i = 4 ∨ i = 5 ∨ i = 6 ∨ i = 7 ∨ i = 8 ∨ i = 9 := by omega
      rcases this with rfl | rfl | rfl | rfl | rfl | rfl | rfl | rfl | rfl | rfl <;> exact ⟨_, rfl⟩
    · rw [wrap64 (by omega) (by omega)]
      exact ih (i + 1) m16 (K.trans (K15.trans K16)) (by omega) (by omega)

theorem SegNumbers {m : Mem} : F6 m isTrue := by
  unfold F6
  refine newK_i fun b2 m1 hb2 K e2 O => ⟨4, nums2 e2 rfl (fun i hi => ?_) (fun m39 => known8 rfl) 3 0 m1 (Keeps.self m1) (by omega) (by omega)⟩
  have : i = 0 ∨ i = 1 ∨ i = 2 := by omega
  rcases this with rfl | rfl | rfl <;> exact ⟨_, rfl⟩

end Go.Proofs.Ytdjieokcflogmaa.Am
