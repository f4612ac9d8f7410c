/- The document's machine: its State in a block of 74 cells, one plain instruction run, a machine made. Conditions: an instruction is right. -/
import Derived.Test.YtkgidjnaddjjbaaGreatC19e
namespace Go.Proofs.YtkgidjnaddjjbaaGreat.Am
set_option linter.unusedVariables false
set_option linter.unusedSimpArgs false
set_option maxRecDepth 100000
set_option maxHeartbeats 1000000

def IsM (m : Mem) (b : Nat) (S : St) : Prop := ∃ x, m.obj b = some x ∧ x.n = 74 ∧ x.ro = false ∧ StCells x.c S
theorem IsM.keep {m m' : Mem} {b : Nat} {S : St} (h : IsM m b S) (K : Keeps m m') : IsM m' b S := by
  obtain ⟨x, e, r⟩ := h
  exact ⟨x, by rw [K b (by rw [e]; simp)]; exact e, r⟩
theorem IsM.fr {m m' : Mem} {b : Nat} {S : St} {P : Nat → Prop} (h : IsM m b S) (F : Fr P m m') (hb : ¬ P b) : IsM m' b S := by
  obtain ⟨x, e, r⟩ := h
  exact ⟨x, by rw [F b (by rw [e]; simp) hb]; exact e, r⟩
theorem IsM.live {m : Mem} {b : Nat} {S : St} (h : IsM m b S) : m.obj b ≠ none := by
  obtain ⟨x, e, _⟩ := h; rw [e]; simp
theorem ldI_m {m : Mem} {b i : Nat} {S : St} (h : IsM m b S) (h1 : i < 72) (h2 : isP3 i = false) (k : Int → Prop) : ldI .u32 m b i k = k (S.n i) := by
  obtain ⟨x, e, hn, _, hc⟩ := h
  exact ldI_of e (by omega) ((hc i (by omega)).trans (stc_u h2 (by omega)))
theorem ldT_m {m : Mem} {b : Nat} {S : St} (h : IsM m b S) (k : Int → Prop) : ldI .i64 m b 72 k = k (S.n 72) := by
  obtain ⟨x, e, hn, _, hc⟩ := h
  exact ldI_of e (by omega) ((hc 72 (by omega)).trans (stc_t S))
theorem ldB_m {m : Mem} {b i : Nat} {S : St} (h : IsM m b S) (h1 : i < 73) (h2 : isP3 i = true) (k : Bool → Prop) : ldB m b i k = k (S.p i) := by
  obtain ⟨x, e, hn, _, hc⟩ := h
  exact ldB_of e (by omega) ((hc i (by omega)).trans (stc_p h2))
theorem and31_n : ∀ n : Nat, n < 32 → bits .and .i64 (n : Int) 31 = n := by decide +kernel
theorem and31_64 {v : Int} (h0 : 0 ≤ v) (h1 : v < 32) : bits .and .i64 v 31 = v := by
  obtain ⟨n, rfl, hn⟩ := nat_of (p := 32) h0 h1
  exact and31_n n hn
def onB (b : Nat) : Nat → Prop := fun b' => b' = b
theorem stC_m {m : Mem} {b i : Nat} {S : St} {v : Int} {k : Mem → Prop} (h : IsM m b S) (h1 : i < 72) (h2 : isP3 i = false) (hk : ∀ m', IsM m' b (S.putN i v) → Fr (onB b) m m' → k m') : stC m b i (.flat (.int .u32 v)) k := by
  obtain ⟨x, e, hn, hr, hc⟩ := h
  rw [stC_of e hr (by omega)]
  refine hk _ ⟨_, set_same _ _ _, hn, hr, fun j hj => ?_⟩ (Fr.set (S := onB b) rfl _)
  show upd x.c i _ j = _
  unfold upd
  by_cases c : j = i
  · subst c; rw [if_pos rfl, stc_u h2 (by omega)]; simp [St.putN, upd]
  · rw [if_neg c, hc j hj]; unfold stc St.putN upd; simp [c]
theorem stT_m {m : Mem} {b : Nat} {S : St} {v : Int} {k : Mem → Prop} (h : IsM m b S) (hk : ∀ m', IsM m' b (S.putN 72 v) → Fr (onB b) m m' → k m') : stC m b 72 (.flat (.int .i64 v)) k := by
  obtain ⟨x, e, hn, hr, hc⟩ := h
  rw [stC_of e hr (by omega)]
  refine hk _ ⟨_, set_same _ _ _, hn, hr, fun j hj => ?_⟩ (Fr.set (S := onB b) rfl _)
  show upd x.c 72 _ j = _
  unfold upd
  by_cases c : j = 72
  · subst c; rw [if_pos rfl, stc_t]; simp [St.putN, upd]
  · rw [if_neg c, hc j hj]; unfold stc St.putN upd; simp [c]
theorem stB_m {m : Mem} {b i : Nat} {S : St} {v : Bool} {k : Mem → Prop} (h : IsM m b S) (h1 : i < 73) (h2 : isP3 i = true) (hk : ∀ m', IsM m' b (S.putP i v) → Fr (onB b) m m' → k m') : stC m b i (.flat (.bool v)) k := by
  obtain ⟨x, e, hn, hr, hc⟩ := h
  rw [stC_of e hr (by omega)]
  refine hk _ ⟨_, set_same _ _ _, hn, hr, fun j hj => ?_⟩ (Fr.set (S := onB b) rfl _)
  show upd x.c i _ j = _
  unfold upd
  by_cases c : j = i
  · subst c; rw [if_pos rfl, stc_p h2]; simp [St.putP, upd]
  · rw [if_neg c, hc j hj]; unfold stc St.putP upd; simp [c]

/-! ### one instruction -/
def putV (g : Nat → Int) (i v : Int) : Nat → Int := if 0 < i then upd g i.toNat v else g
/-- registers, HI, LO behind an instruction that only reckons -/
def exL (x : In) (g : Nat → Int) : Nat → Int :=
  let a := g x.s.toNat
  let b := g x.t.toNat
  let r := doV x.k a b x.h x.i
  let g1 := if r.2 = true then putV g (intoL x) r.1 else g
  let q := haV x.k a b (g1 32) (g1 33)
  let g2 := upd (upd g1 32 q.1) 33 q.2
  if x.k = 9 ∨ x.k = 10 then (if ((b == 0) == (x.k == 9)) = true then putV g2 x.d a else g2) else if x.k = 14 then putV g2 x.d (g2 32) else if x.k = 16 then putV g2 x.d (g2 33) else g2
/-- a State with these registers, HI, LO -/
def Agr (S : St) (g : Nat → Int) : Prop := ∀ i, i < 34 → S.n i = g i
theorem putn_n (S : St) (i : Nat) (v : Int) : (S.putN i v).n = upd S.n i v := rfl
theorem Agr.put {S : St} {g : Nat → Int} (h : Agr S g) (i : Nat) (v : Int) : Agr (S.putN i v) (upd g i v) := fun j hj => by
  rw [putn_n]; unfold upd; split
  · rfl
  · exact h j hj
theorem Agr.hi {S : St} {g : Nat → Int} (h : Agr S g) {i : Nat} (hi : 34 ≤ i) (v : Int) : Agr (S.putN i v) g := fun j hj => by
  rw [putn_n]; unfold upd; rw [if_neg (by omega)]; exact h j hj
theorem isP3_lo {i : Nat} (h : i < 36) : isP3 i = false := by simp [isP3]; omega

section
variable {m0 m : Mem} {b : Nat} {S : St} {g : Nat → Int}
theorem mput_spec (h : IsM m b S) (hg : Agr S g) {i v : Int} (i0 : 0 ≤ i) (i1 : i < 32) {k : Mem → Prop} (hk : ∀ m' S', IsM m' b S' → Agr S' (putV g i v) → Fr (onB b) m m' → k m') : F64 b 0 i v m k := by
  unfold F64 P64_1004
  unfold putV at hk
  refine kif_c _ (fun c => kif_t (by simpa using i1) (kif_t (by simp; omega) ?_)) fun c => kif_f rfl ?_
  · rw [if_pos (by simpa using c)] at hk
    simp only [Nat.zero_add, Nat.mul_one]
    exact stC_m h (by omega) (isP3_lo (by omega)) fun m' h' F' => hk m' _ h' (hg.put _ _) F'
  · rw [if_neg (by simpa using c)] at hk
    exact hk m S h hg (Fr.refl _ _)
theorem plain8 (h : IsM m b S) (hg : Agr S g) {b2 : Nat} {x : In} {c0 : x.d ≥ 0} {c1 : x.d < 32} (i : InB m b2 x) {a bb : Int} {k : Mem → Prop}
    (hk : ∀ m' S', IsM m' b S' → Agr S' (if x.k = 9 ∨ x.k = 10 then (if ((bb == 0) == (x.k == 9)) = true then putV g x.d a else g) else if x.k = 14 then putV g x.d (g 32) else if x.k = 16 then putV g x.d (g 33) else g) → Fr (onB b) m m' → k m') :
    kif (x.k == 9) (P36_8004 b 0 a bb b2 0 x.k (x.k == 9) m (fun m30 => k m30)) (P36_8004 b 0 a bb b2 0 x.k (x.k == 10) m (fun m31 => k m31)) := by
  have main : ∀ q : Bool, (q = true ↔ x.k = 9 ∨ x.k = 10) → P36_8004 b 0 a bb b2 0 x.k q m (fun m30 => k m30) := fun q hq => by
    unfold P36_8004
    simp only [Nat.zero_add, i.l0, i.l3]
    refine kif_c _ (fun c => ?_) fun c => ?_
    · rw [if_pos (hq.1 c)] at hk
      refine kif_c _ (fun d => ?_) fun d => ?_
      · rw [if_pos d] at hk
        exact mput_spec h hg c0 c1 hk
      · rw [if_neg (by rw [d]; simp)] at hk
        exact hk m S h hg (Fr.refl _ _)
    · rw [if_neg fun e => by rw [hq.2 e] at c; cases c] at hk
      refine kif_c _ (fun d => ?_) fun d => kif_c _ (fun e => ?_) fun e => ?_
      · rw [if_pos (by simpa using d)] at hk
        rw [ldI_m h (by decide) rfl, hg 32 (by decide)]
        exact mput_spec h hg c0 c1 hk
      · rw [if_neg (by simpa using d), if_pos (by simpa using e)] at hk
        rw [ldI_m h (by decide) rfl, hg 33 (by decide)]
        exact mput_spec h hg c0 c1 hk
      · rw [if_neg (by simpa using d), if_neg (by simpa using e)] at hk
        exact hk m S h hg (Fr.refl _ _)
  refine kif_c _ (fun c => main _ (by simp at c ⊢; simp [c])) fun c => main _ (by simp at c ⊢; omega)
theorem Fr.only_keep {P : Nat → Prop} {a b c : Mem} (K : Keeps a b) (h : Fr P b c) : Fr P a c := fun k hk hs => by
  rw [h k (by rw [K k hk]; exact hk) hs, K k hk]
theorem mplain_spec (h : IsM m b S) (hg : Agr S g) (gu : ∀ i, i < 34 → isU (g i)) {c : Nat → AV} {x : In} (hc : InC c x) (hi : 0 ≤ x.i) (hp : plainS x = true) {k : Mem → Prop}
    (hk : ∀ m' S', IsM m' b S' → Agr S' (exL x g) → Fr (onB b) m m' → k m') : F36 b 0 c (g x.s.toNat) (g x.t.toNat) m k := by
  obtain ⟨ok, cl, hm, hi16⟩ := plain_ok hi hp
  have s0 := ok.s0
  have s1 := ok.s1
  have t0 := ok.t0
  have t1 := ok.t1
  have d0 := ok.d0
  have d1 := ok.d1
  have ha := gu x.s.toNat (by omega)
  have hb := gu x.t.toNat (by omega)
  unfold exL at hk
  dsimp only at hk
  generalize g x.s.toNat = a at *
  generalize g x.t.toNat = bb at *
  unfold F36
  refine newI hc fun b2 m1 hb2 K i O => i.lg fun c3 h3 => do_spec h3 hi hp ha hb ?_
  have hne : b2 ≠ b := fun e => h.live (e ▸ hb2)
  have hk' : ∀ m' S', IsM m' b S' → Agr S' _ → Fr (onB b) m1 m' → k m' := fun m' S' q1 q2 q3 => hk m' S' q1 q2 (Fr.only_keep K q3)
  have tail : ∀ (m2 : Mem) (S2 : St) (g1 : Nat → Int), (doV x.k a bb x.h x.i).2 = true ∧ g1 = putV g (intoL x) (doV x.k a bb x.h x.i).1 ∨ (doV x.k a bb x.h x.i).2 = false ∧ g1 = g → IsM m2 b S2 → Agr S2 g1 → InB m2 b2 x → Fr (onB b) m1 m2 → P36_4102 b 0 a bb b2 0 m2 (fun m32 => k m32) := fun m2 S2 g1 e1 h2 hg2 i2 F2 => by
    have e1' : (if (doV x.k a bb x.h x.i).2 = true then putV g (intoL x) (doV x.k a bb x.h x.i).1 else g) = g1 := by
      rcases e1 with ⟨e, e'⟩ | ⟨e, e'⟩
      · rw [if_pos e, e']
      · rw [if_neg (by rw [e]; simp), e']
    rw [e1'] at hk'
    unfold P36_4102
    simp only [Nat.zero_add]
    refine i2.lg fun c11 h11 => ?_
    rw [ldI_m h2 (by decide) rfl, ldI_m h2 (by decide) rfl, hg2 32 (by decide), hg2 33 (by decide)]
    refine halves_spec h11 hi hp hb fun _ => ?_
    refine stC_m h2 (by decide) rfl fun m3 h3' F3 => stC_m h3' (by decide) rfl fun m4 h4 F4 => ?_
    have F34 := F3.trans F4
    have i4 : InB m4 b2 x := by
      obtain ⟨y, e, r⟩ := i2
      exact ⟨y, by rw [F34 b2 (by rw [e]; simp) hne]; exact e, r⟩
    rw [i4.l0]
    exact plain8 h4 ((hg2.put _ _).put _ _) (c0 := d0) (c1 := d1) i4 fun m5 S5 h5 hg5 F5 => hk' m5 S5 h5 hg5 ((F2.trans F34).trans F5)
  have h1 := h.keep K
  refine kif_c _ (fun c => i.lg fun c7 h7 => rinto_spec h7 hi hp (mput_spec h1 hg ?_ ?_ fun m2 S2 h2 hg2 F2 => ?_)) fun c => tail m1 S g (.inr ⟨c, rfl⟩) h1 hg i (Fr.refl _ _)
  · unfold intoL; split
    · split <;> omega
    · omega
  · unfold intoL; split
    · split <;> omega
    · omega
  · refine tail m2 S2 _ (.inl ⟨c, rfl⟩) h2 hg2 ?_ F2
    obtain ⟨y, e, r⟩ := i
    exact ⟨y, by rw [F2 b2 (by rw [e]; simp) hne]; exact e, r⟩
theorem mon_spec (h : IsM m b S) (hg : Agr S g) {c : Nat → AV} {x : In} (hc : InC c x) (hi : 0 ≤ x.i) (hp : plainS x = true) {a bb : Int} {k : Mem → Prop}
    (hk : ∀ m' S', IsM m' b S' → Agr S' g → Fr (onB b) m m' → k m') : F37 b 0 c a bb m k := by
  unfold F37
  refine newI hc fun b2 m1 hb2 K i O => ?_
  have hne : b2 ≠ b := fun e => h.live (e ▸ hb2)
  have h1 := h.keep K
  simp only [Nat.zero_add]
  have keepI : ∀ {ma mb : Mem}, InB ma b2 x → Fr (onB b) ma mb → InB mb b2 x := fun i F => by
    obtain ⟨y, e, r⟩ := i
    exact ⟨y, by rw [F b2 (by rw [e]; simp) hne]; exact e, r⟩
  rw [ldI_m h1 (by decide) rfl, ldI_m h1 (by decide) rfl]
  refine stC_m h1 (by decide) rfl fun m2 h2 F2 => ?_
  rw [ldI_m h2 (by decide) rfl]
  refine stC_m h2 (by decide) rfl fun m3 h3 F3 => (keepI (keepI i F2) F3).lg fun c8 h8 => rclass_spec h8 ?_
  refine stB_m h3 (by decide) rfl fun m4 h4 F4 => ?_
  have i4 := keepI (keepI (keepI i F2) F3) F4
  have hg4 : Agr (((S.putN 34 (S.n 35)).putN 35 (IntKind.wrap .u32 ((S.putN 34 (S.n 35)).n 34 + 4))).putP 36 (classS x.k == 3)) g := (hg.hi (by decide) _).hi (by decide) _
  refine i4.lg fun c12 h12 => taken_spec h12 hi hp (kif_f rfl ?_)
  unfold P37_7102
  exact i4.lg fun c19 h19 => links_spec h19 hi hp (kif_f rfl (hk m4 _ h4 hg4 (Fr.only_keep K ((F2.trans F3).trans F4))))
theorem mgo_spec (h : IsM m b S) (hg : Agr S g) {k : Bool → Mem → Prop} (hk : ∀ r m' S', IsM m' b S' → Agr S' g → Fr (onB b) m m' → k r m') : F35 b 0 1 m k := by
  unfold F35 F72
  simp only [Nat.zero_add]
  refine kif_f rfl ?_
  rw [ldI_m h (by decide) rfl, ldI_m h (by decide) rfl]
  have rest : ∀ x1 : Int, ldI .i64 m b 72 (fun x3 => stC m b 72 (.flat (.int .i64 (IntKind.wrap .i64 (x3 + 1)))) fun m4 => ldI .u32 m4 b (39 + 9) fun x5 => stC m4 b (39 + 9) (.flat (.int .u32 (IntKind.wrap .u32 (x5 + (IntKind.wrap .u32 1))))) fun m6 => kif (decide (x1 ≤ 1)) (ldI .u32 m6 b (39 + 13) fun x7 => stC m6 b (39 + 13) (.flat (.int .u32 (bits .or .u32 x7 32768))) fun m8 => k (decide (x1 ≤ 1)) m8) (k (decide (x1 ≤ 1)) m6)) := fun x1 => by
    rw [ldT_m h]
    refine stT_m h fun m4 h4 F4 => ?_
    rw [ldI_m h4 (by decide) rfl]
    refine stC_m h4 (by decide) rfl fun m6 h6 F6 => kif_c _ (fun c => ?_) fun c => ?_
    · rw [ldI_m h6 (by decide) rfl]
      exact stC_m h6 (by decide) rfl fun m8 h8 F8 => hk _ m8 _ h8 (((hg.hi (by decide) _).hi (by decide) _).hi (by decide) _) ((F4.trans F6).trans F8)
    · exact hk _ m6 _ h6 ((hg.hi (by decide) _).hi (by decide) _) (F4.trans F6)
  exact kif_c _ (fun c => ⟨Keeps.self m, rest _⟩) fun c => ⟨Keeps.self m, rest _⟩
theorem ref14 {b2 : Nat} {x : In} (i : InB m b2 x) (hi : 0 ≤ x.i) (hp : plainS x = true) {a bb x9 : Int} {q : Bool} (hq : q = false) {kr : Int → Mem → Prop} {kn : Mem → Prop} (hk : kn m) : P30_14004 a bb b2 0 q m kr kn := by
  subst hq
  unfold P30_14004
  exact kif_f rfl (i.lg fun c h => traps_spec h hi hp (kif_f rfl hk))
theorem refused_spec (h : IsM m b S) {c : Nat → AV} {x : In} (hc : InC c x) (hi : 0 ≤ x.i) (hp : plainS x = true) {a bb : Int} {k : Int → Mem → Prop} (hk : k (-1) m) : F30 b 0 c a bb m k := by
  obtain ⟨ok, cl, hm, hi16⟩ := plain_ok hi hp
  unfold F30
  refine newI hc fun b2 m1 hb2 K i O => ?_
  rw [i.l0]
  refine i.lg fun c4 h4 => rclass_spec h4 ?_
  simp only [Nat.zero_add]
  rw [ldB_m (h.keep K) (by decide) rfl, cl]
  have go : P30_4004 b 0 a bb b2 0 x.k 1 false m1 (fun x49 m50 => (Keeps m m50 ∧ k x49 m)) (fun m51 => (Keeps m m51 ∧ k (-1) m)) := by
    simp only [PK, List.mem_cons, List.not_mem_nil, or_false] at hm
    have fin : P30_12004 a bb b2 0 x.k false m1 (fun x49 m50 => (Keeps m m50 ∧ k x49 m)) (fun m51 => (Keeps m m51 ∧ k (-1) m)) := by
      unfold P30_12004
      exact kif_f rfl (i.lg fun c10 h10 => traps_spec h10 hi hp (kif_f rfl (ref14 (x9 := 0) i hi hp rfl ⟨K, hk⟩)))
    have k62 : (x.k == 62) = false := by simp; omega
    have k11 : (x.k == 11) = false := by simp; omega
    have k12 : (x.k == 12) = false := by simp; omega
    have six : ∀ q : Bool, q = false → P30_6004 a bb b2 0 x.k 1 q m1 (fun x49 m50 => (Keeps m m50 ∧ k x49 m)) (fun m51 => (Keeps m m51 ∧ k (-1) m)) := fun q e => by
      subst e
      unfold P30_6004
      exact kif_f rfl (kif_f k11 (kif_f k12 (kif_f rfl fin)))
    unfold P30_4004
    exact kif_f rfl (kif_c _ (fun c1 => kif_f (by simp at c1 ⊢; omega) (six _ k62)) fun c1 => six _ k62)
  have k60 : (x.k == 60) = false := by
    simp only [PK, List.mem_cons, List.not_mem_nil, or_false] at hm
    simp; omega
  have k61 : (x.k == 61) = false := by
    simp only [PK, List.mem_cons, List.not_mem_nil, or_false] at hm
    simp; omega
  rw [k61]
  exact kif_c _ (fun c => kif_f rfl (kif_f k60 go)) fun c => go
theorem exec_spec (h : IsM m b S) (hg : Agr S g) (gu : ∀ i, i < 34 → isU (g i)) {c : Nat → AV} {x : In} (hc : InC c x) (hi : 0 ≤ x.i) (hp : plainS x = true) {k : Int → Mem → Prop}
    (hk : ∀ m' S', IsM m' b S' → Agr S' (exL x g) → Fr (onB b) m m' → k (-1) m') : F14 b 0 c m k := by
  obtain ⟨ok, cl, hm, hi16⟩ := plain_ok hi hp
  have s0 := ok.s0
  have s1 := ok.s1
  have t0 := ok.t0
  have t1 := ok.t1
  have a31 : ∀ v : Int, 0 ≤ v → v < 32 → bits .and .i64 v 31 = v := fun v h0 h1 => and31_64 h0 h1
  unfold F14
  refine newI hc fun b2 m1 hb2 K i O => ?_
  have hne : b2 ≠ b := fun e => h.live (e ▸ hb2)
  have h1 := h.keep K
  simp only [i.l1, i.l2, Nat.zero_add, Nat.mul_one, a31 _ s0 s1, a31 _ t0 t1]
  refine kif_t (by simp; omega) ?_
  rw [ldI_m h1 (by omega) (isP3_lo (by omega)), hg _ (by omega)]
  refine kif_t (by simp; omega) ?_
  rw [ldI_m h1 (by omega) (isP3_lo (by omega)), hg _ (by omega)]
  refine i.lg fun c7 h7 => refused_spec h1 h7 hi hp (kif_f rfl (i.lg fun c12 h12 => rclass_spec h12 ?_))
  rw [cl]
  refine kif_f rfl (kif_f rfl (kif_f rfl (i.lg fun c26 h26 => mplain_spec h1 hg gu h26 hi hp fun m2 S2 h2 hg2 F2 => ?_)))
  unfold P14_20102
  have i2 : InB m2 b2 x := by
    obtain ⟨y, e, r⟩ := i
    exact ⟨y, by rw [F2 b2 (by rw [e]; simp) hne]; exact e, r⟩
  exact i2.lg fun c28 h28 => mon_spec h2 hg2 h28 hi hp fun m3 S3 h3 hg3 F3 => mgo_spec h3 hg3 fun r m4 S4 h4 hg4 F4 => hk m4 S4 h4 hg4 (Fr.only_keep K ((F2.trans F3).trans F4))
end
end Go.Proofs.YtkgidjnaddjjbaaGreat.Am
