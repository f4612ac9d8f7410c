/- A processor's State in abstract memory: its cells, reads and writes of them. No program in sight. -/
import Derived.Test.YtppikpjmlbaccaaDoorAmN
namespace Go.Proofs.YtppikpjmlbaccaaDoor.Am
set_option linter.unusedVariables false
set_option linter.unusedSimpArgs false

/-- numbers and flags of a State, by their places: registers 0 to 31, Hi, Lo, PC, Next (32 to 35), Slot, Link (36, 37), Linked 38, C0 39 to 54, the table 55 to 70, Waits 71, Time 72 -/
structure St where
  n : Nat → Int
  p : Nat → Bool
  /-- what lies behind it in its block, and how many cells -/
  x : Nat → AV := fun _ => .junk
  q : Nat := 0
def isP3 (i : Nat) : Bool := i == 36 || i == 37 || i == 71
def stc (S : St) (i : Nat) : AV := match isP3 i with
  | true => .flat (.bool (S.p i))
  | false => if i = 72 then .flat (.int .i64 (S.n i)) else .flat (.int .u32 (S.n i))
def St.putN (S : St) (i : Nat) (v : Int) : St := { S with n := upd S.n i v }
def St.putP (S : St) (i : Nat) (v : Bool) : St := { S with p := upd S.p i v }
def St.bare (S : St) : St := { n := S.n, p := S.p }
theorem stc_u {S : St} {i : Nat} (h : isP3 i = false) (h2 : i ≠ 72) : stc S i = .flat (.int .u32 (S.n i)) := by
  unfold stc; rw [h]; simp [h2]
theorem stc_p {S : St} {i : Nat} (h : isP3 i = true) : stc S i = .flat (.bool (S.p i)) := by
  unfold stc; rw [h]
theorem stc_t (S : St) : stc S 72 = .flat (.int .i64 (S.n 72)) := rfl
/-- the numbers are in their ranges -/
def St.ok (S : St) : Prop := (∀ i, i < 72 → 0 ≤ S.n i ∧ S.n i < 4294967296) ∧ -9223372036854775808 ≤ S.n 72 ∧ S.n 72 < 9223372036854775808
def StCells (c : Nat → AV) (S : St) : Prop := ∀ i, i < 73 → c i = stc S i
def IsSt (m : Mem) (b : Nat) (S : St) : Prop := ∃ x, m.obj b = some x ∧ x.n = 73 + S.q ∧ x.ro = false ∧ StCells x.c S ∧ ∀ j, j < S.q → x.c (73 + j) = S.x j
/-- all blocks but b are as they were -/
def Only (m : Mem) (b : Nat) (m' : Mem) : Prop := ∀ b', b' ≠ b → m'.obj b' = m.obj b'
theorem Only.refl (m : Mem) (b : Nat) : Only m b m := fun _ _ => rfl
theorem Only.trans {a b c : Mem} {r : Nat} (h : Only a r b) (h' : Only b r c) : Only a r c := fun k hk => (h' k hk).trans (h k hk)
theorem Only.set (m : Mem) (b : Nat) (x : Blk) : Only m b (m.set b x) := fun b' h => set_other x h
theorem IsSt.keep {m m' : Mem} {b : Nat} {S : St} (h : IsSt m b S) (K : Keeps m m') : IsSt m' b S := by
  obtain ⟨x, e, r⟩ := h
  exact ⟨x, by rw [K b (by rw [e]; simp)]; exact e, r⟩
theorem IsSt.only {m m' : Mem} {b b' : Nat} {S : St} (h : IsSt m b S) (O : Only m b' m') (hne : b ≠ b') : IsSt m' b S := by
  obtain ⟨x, e, r⟩ := h
  exact ⟨x, by rw [O b hne]; exact e, r⟩
theorem IsSt.live {m : Mem} {b : Nat} {S : St} (h : IsSt m b S) : m.obj b ≠ none := by
  obtain ⟨x, e, _⟩ := h; rw [e]; simp

/-! reads -/
theorem ldI_of {kd : IntKind} {m : Mem} {b o : Nat} {k : Int → Prop} {x : Blk} {n : Int} (h : m.obj b = some x) (ho : o < x.n) (hc : x.c o = .flat (.int kd n)) : ldI kd m b o k = k n := by
  unfold ldI kobj; rw [h]; simp only [kite_eq, ho, if_true, hc, kI]
theorem ldB_of {m : Mem} {b o : Nat} {k : Bool → Prop} {x : Blk} {n : Bool} (h : m.obj b = some x) (ho : o < x.n) (hc : x.c o = .flat (.bool n)) : ldB m b o k = k n := by
  unfold ldB kobj; rw [h]; simp only [kite_eq, ho, if_true, hc]
theorem ldA_flat {m : Mem} {b o : Nat} {k : AV → Prop} {x : Blk} {v : Value} (h : m.obj b = some x) (ho : o < x.n) (hc : x.c o = .flat v) : ldA m b o k = k (.flat v) := by
  unfold ldA kobj; rw [h]; simp only [kite_eq, ho, if_true, hc, kA]
theorem ldA_sl {m : Mem} {b o : Nat} {k : AV → Prop} {x : Blk} {b1 o1 l : Nat} {c : Cap} (h : m.obj b = some x) (ho : o < x.n) (hc : x.c o = .sl b1 o1 l c) : ldA m b o k = k (.sl b1 o1 l c) := by
  unfold ldA kobj; rw [h]; simp only [kite_eq, ho, if_true, hc, kA]
theorem ldG_of {n : Nat} {m : Mem} {b o : Nat} {k : (Nat → AV) → Prop} {x : Blk} (h : m.obj b = some x) (ho : o + n ≤ x.n) : ldG n m b o k = k (sub x.c o n) := by
  unfold ldG kobj; rw [h]; simp only [kite_eq, ho, if_true]
theorem stC_of {m : Mem} {b o : Nat} {v : AV} {k : Mem → Prop} {x : Blk} (h : m.obj b = some x) (hr : x.ro = false) (ho : o < x.n) : stC m b o v k = k (m.set b { x with c := upd x.c o v }) := by
  unfold stC kobj; rw [h]; simp only [hr, kite_eq, ho, if_true]
theorem stG_of {n : Nat} {m : Mem} {b o : Nat} {c : Nat → AV} {k : Mem → Prop} {x : Blk} (h : m.obj b = some x) (hr : x.ro = false) (ho : o + n ≤ x.n) : stG n m b o c k = k (m.set b { x with c := splice x.c o n c }) := by
  unfold stG kobj; rw [h]; simp only [hr, kite_eq, ho, if_true]

theorem ldI_st {m : Mem} {b i : Nat} {S : St} (h : IsSt m b S) (h1 : i < 72) (h2 : isP3 i = false) (k : Int → Prop) : ldI .u32 m b i k = k (S.n i) := by
  obtain ⟨x, e, hn, _, hc, _⟩ := h
  exact ldI_of e (by omega) ((hc i (by omega)).trans (stc_u h2 (by omega)))
theorem ldT_st {m : Mem} {b : Nat} {S : St} (h : IsSt m b S) (k : Int → Prop) : ldI .i64 m b 72 k = k (S.n 72) := by
  obtain ⟨x, e, hn, _, hc, _⟩ := h
  exact ldI_of e (by omega) ((hc 72 (by omega)).trans (stc_t S))
theorem ldB_st {m : Mem} {b i : Nat} {S : St} (h : IsSt m b S) (h1 : i < 73) (h2 : isP3 i = true) (k : Bool → Prop) : ldB m b i k = k (S.p i) := by
  obtain ⟨x, e, hn, _, hc, _⟩ := h
  exact ldB_of e (by omega) ((hc i (by omega)).trans (stc_p h2))

/-! writes -/
theorem stC_st {m : Mem} {b i : Nat} {S : St} {v : Int} {k : Mem → Prop} (h : IsSt m b S) (h1 : i < 72) (h2 : isP3 i = false) (hk : ∀ m', IsSt m' b (S.putN i v) → Only m b m' → k m') : stC m b i (.flat (.int .u32 v)) k := by
  obtain ⟨x, e, hn, hr, hc, hx⟩ := h
  rw [stC_of e hr (by omega)]
  refine hk _ ⟨_, set_same _ _ _, hn, hr, fun j hj => ?_, fun j hj => by show upd x.c i _ (73 + j) = _; unfold upd; rw [if_neg (by omega)]; exact hx j hj⟩ (Only.set _ _ _)
  show upd x.c i _ j = _
  unfold upd
  by_cases c : j = i
  · subst c; rw [if_pos rfl, stc_u h2 (by omega)]; simp [St.putN, upd]
  · rw [if_neg c, hc j hj]; unfold stc St.putN upd; simp [c]
theorem stT_st {m : Mem} {b : Nat} {S : St} {v : Int} {k : Mem → Prop} (h : IsSt m b S) (hk : ∀ m', IsSt m' b (S.putN 72 v) → Only m b m' → k m') : stC m b 72 (.flat (.int .i64 v)) k := by
  obtain ⟨x, e, hn, hr, hc, hx⟩ := h
  rw [stC_of e hr (by omega)]
  refine hk _ ⟨_, set_same _ _ _, hn, hr, fun j hj => ?_, fun j hj => by show upd x.c 72 _ (73 + j) = _; unfold upd; rw [if_neg (by omega)]; exact hx j hj⟩ (Only.set _ _ _)
  show upd x.c 72 _ j = _
  unfold upd
  by_cases c : j = 72
  · subst c; rw [if_pos rfl, stc_t]; simp [St.putN, upd]
  · rw [if_neg c, hc j hj]; unfold stc St.putN upd; simp [c]
theorem stB_st {m : Mem} {b i : Nat} {S : St} {v : Bool} {k : Mem → Prop} (h : IsSt m b S) (h1 : i < 73) (h2 : isP3 i = true) (hk : ∀ m', IsSt m' b (S.putP i v) → Only m b m' → k m') : stC m b i (.flat (.bool v)) k := by
  obtain ⟨x, e, hn, hr, hc, hx⟩ := h
  rw [stC_of e hr (by omega)]
  refine hk _ ⟨_, set_same _ _ _, hn, hr, fun j hj => ?_, fun j hj => by show upd x.c i _ (73 + j) = _; unfold upd; rw [if_neg (by omega)]; exact hx j hj⟩ (Only.set _ _ _)
  show upd x.c i _ j = _
  unfold upd
  by_cases c : j = i
  · subst c; rw [if_pos rfl, stc_p h2]; simp [St.putP, upd]
  · rw [if_neg c, hc j hj]; unfold stc St.putP upd; simp [c]
/-- an entry of the table -/
theorem stE_st {m : Mem} {b i : Nat} {S : St} {c : Nat → AV} {u v : Int} {k : Mem → Prop} (h : IsSt m b S) (h1 : 38 ≤ i ∧ i + 2 ≤ 71) (h2 : c 0 = .flat (.int .u32 u)) (h3 : c 1 = .flat (.int .u32 v)) (hk : ∀ m', IsSt m' b ((S.putN i u).putN (i + 1) v) → Only m b m' → k m') : stG 2 m b i c k := by
  obtain ⟨x, e, hn, hr, hc, hx⟩ := h
  rw [stG_of e hr (by omega)]
  refine hk _ ⟨_, set_same _ _ _, hn, hr, fun j hj => ?_, fun j hj => by show splice x.c i 2 c (73 + j) = _; unfold splice; rw [if_neg (by omega)]; exact hx j hj⟩ (Only.set _ _ _)
  show splice x.c i 2 c j = _
  have hp : isP3 i = false := by simp [isP3]; omega
  have hp1 : isP3 (i + 1) = false := by simp [isP3]; omega
  unfold splice
  by_cases c1 : j = i
  · subst c1; rw [if_pos (by omega), Nat.sub_self, h2, stc_u hp (by omega)]; simp [St.putN, upd]
  · by_cases c2 : j = i + 1
    · subst c2; rw [if_pos (by omega), show i + 1 - i = 1 by omega, h3, stc_u hp1 (by omega)]; simp [St.putN, upd]
    · rw [if_neg (by omega), hc j hj]; unfold stc St.putN upd; simp [c1, c2]
/-- a whole State -/
theorem stS_st {m : Mem} {b : Nat} {S : St} {c : Nat → AV} {k : Mem → Prop} {x : Blk} (h : m.obj b = some x) (hn : x.n = 73) (hr : x.ro = false) (hc : StCells c S) (hk : ∀ m', IsSt m' b S → Only m b m' → k m') (hq : S.q = 0 := by rfl) : stG 73 m b 0 c k := by
  rw [stG_of h hr (by omega)]
  refine hk _ ⟨_, set_same _ _ _, by rw [hq]; exact hn, hr, fun j hj => ?_, fun j hj => by omega⟩ (Only.set _ _ _)
  show splice x.c 0 73 c j = _
  unfold splice
  rw [if_pos (by omega), Nat.sub_zero]; exact hc j hj
theorem stS_b {m : Mem} {b : Nat} {S : St} {c : Nat → AV} {k : Mem → Prop} {x : Blk} (h : m.obj b = some x) (hn : x.n = 73) (hr : x.ro = false) (hc : StCells c S) (hk : ∀ m', IsSt m' b S.bare → Only m b m' → k m') : stG 73 m b 0 c k :=
  stS_st (S := S.bare) h hn hr hc hk
theorem ldS_st {m : Mem} {b : Nat} {S : St} {k : (Nat → AV) → Prop} (h : IsSt m b S) (hk : ∀ c, StCells c S → k c) : ldG 73 m b 0 k := by
  obtain ⟨x, e, hn, hr, hc, hx⟩ := h
  rw [ldG_of e (by omega)]
  exact hk _ fun i hi => by simp [sub, hi, hc i hi]
/-- a new State -/
theorem newS {m : Mem} {c z : Nat → AV} {t : TypeId} {S : St} {k : Nat → Mem → Prop} (hc : StCells c S) (hk : ∀ b m', m.obj b = none → Keeps m m' → Only m b m' → IsSt m' b S → k b m') (hq : S.q = 0 := by rfl) : newK m ⟨73, z, t, false⟩ fun b m' => stG 73 m' b 0 c fun m2 => k b m2 := by
  intro b hb
  refine stS_st (set_same _ _ _) rfl rfl hc (fun m' h O => hk b m' hb (fun b' h' => ?_) ((Only.set _ _ _).trans O) h) hq
  have : b' ≠ b := fun e => h' (e ▸ hb)
  rw [O b' this, set_other _ this]

theorem StCells.inDom {c : Nat → AV} {S : St} (h : StCells c S) (m : Mem) : InDomG 73 m c := fun i hi => by
  rw [h i hi]; unfold stc; split
  · trivial
  · split <;> trivial
theorem Keeps.self (m : Mem) : Keeps m m := fun _ _ => rfl
theorem Only.keeps {m m1 m2 : Mem} {b : Nat} (K : Keeps m m1) (hb : m.obj b = none) (O : Only m1 b m2) : Keeps m m2 := fun b' h => by
  have : b' ≠ b := fun e => h (e ▸ hb)
  rw [O b' this]; exact K b' h

/-! two States compared -/
def stLeafs : List (Nat × LK) := (List.range 73).map fun i => (i, if isP3 i then .b else if i = 72 then .i .i64 else .i .u32)
def St.same (S T : St) : Prop := ∀ i, i < 73 → if isP3 i = true then S.p i = T.p i else S.n i = T.n i
instance (S T : St) : Decidable (S.same T) := Nat.decidableBallLT 73 _
theorem geq_st {c d : Nat → AV} {S T : St} (h : StCells c S) (h' : StCells d T) (ls : List (Nat × LK)) (hl : ls = stLeafs) (k : Bool → Prop) : geq ls c d k = k (decide (S.same T)) := by
  subst hl
  unfold geq
  have h1 : (stLeafs.all fun p => p.2.fits (c p.1) && p.2.fits (d p.1)) = true := by
    rw [List.all_eq_true]
    intro p hp
    obtain ⟨i, hi, rfl⟩ := List.mem_map.1 hp
    have hi := List.mem_range.1 hi
    rw [h i hi, h' i hi]
    unfold stc
    cases e : isP3 i with
    | true => simp [LK.fits]
    | false => by_cases e2 : i = 72 <;> simp [LK.fits, e2]
  rw [h1]
  have h2 : (stLeafs.all fun p => (c p.1).same (d p.1)) = decide (S.same T) := by
    rw [Bool.eq_iff_iff, List.all_eq_true, decide_eq_true_iff]
    constructor
    · intro hh i hi
      have := hh _ (List.mem_map.2 ⟨i, List.mem_range.2 hi, rfl⟩)
      dsimp only at this
      rw [h i hi, h' i hi] at this
      unfold stc at this
      cases e : isP3 i with
      | true => rw [e] at this; simpa [AV.same] using this
      | false =>
        rw [e] at this
        by_cases e2 : i = 72 <;> simpa [AV.same, e2] using this
    · intro hh p hp
      obtain ⟨i, hi, rfl⟩ := List.mem_map.1 hp
      have hi := List.mem_range.1 hi
      dsimp only
      rw [h i hi, h' i hi]
      have := hh i hi
      unfold stc
      cases e : isP3 i with
      | true => rw [e] at this; simpa [AV.same] using this
      | false =>
        rw [e] at this
        by_cases e2 : i = 72 <;> simpa [AV.same, e2] using this
  rw [h2]

end Go.Proofs.YtppikpjmlbaccaaDoor.Am
