/- The machine by blocks: so many steps. Conditions: a row of steps that is given ahead. Programs of the top laws put together: rows of instructions, their bytes. Conditions: instructions are plain data. A machine with a program: made, capped, run in parts, looked at. Conditions: a row of steps that is given ahead. Rows of steps put together. No program in sight. Programs that keep out of coprocessor 0: what a step asks and does. Conditions: kernel's mode, nothing pending, the direct segment. A program's bytes at Reset; the machine that is awake. Conditions: instructions that are right. Programs that keep out of coprocessor 0: branches and their slots. Conditions: kernel's mode, nothing pending, the direct segment. Instructions with numbers in them are right; rows of steps by number. Conditions: registers are registers. A branch and its slot, of a program at Reset. Conditions: BEQ, BNE; the slot only reckons. Going on in a place. NOT BUILT YET: Q.idle's kernel check eats memory (look at the rfl's on big numbers). The program of the greatest number that divides two: its steps. Conditions: two words. The program of the greatest number that divides two: to its end. Conditions: two numbers of at most 100000. A word into a register, in two; the whole row of the greatest divisor's program. Conditions: two numbers from 1 to 100000. The greatest number that divides two, by a program. Conditions: what is handed in is plain data. The law TopGcds: the greatest number that divides two, by a -/
import Derived.Test.YtkiggdgphbkneaaGreatTopGcdsX26
namespace Go.Proofs.YtkiggdgphbkneaaGreat.Am
set_option linter.unusedVariables false
set_option linter.unusedSimpArgs false
set_option maxRecDepth 100000
section
variable {m0 : Mem} {C : Nat → Bool} {e : Nat} {q : BB} {c : Nat} {p : Nat} {D : Dv} {wv : AV} {n : Int} {cap : Int}
variable {m : Mem} {S S' : St} {B B' : Nat → Int}
def AtE (m0 : Mem) (C : Nat → Bool) (e : Nat) (q : BB) (c p : Nat) (D : Dv) (wv : AV) (n cap : Int) (S : St) (B : Nat → Int) (m : Mem) : Prop :=
 ∃ l Sc made used, At m0 C e q c p D wv n cap l Sc made used S B m
theorem Run_k (hp : p ≤ 64) {X : Nat → St} {Y : Nat → Nat → Int} {N : Nat} (hN : N ≤ 1000000) (hX : ∀ g, g < N → StepC C p D (X g) (Y g) (X (g + 1)) (Y (g + 1))) (h : AtE m0 C e q c p D wv n cap (X 0) (Y 0) m)
  {k : Int → Int → Mem → Prop} (hk : ∀ m', AtE m0 C e q c p D wv n cap (X N) (Y N) m' → k 1 N m') : F25 e 0 N m k := by
 unfold F25
 rw [if_neg (by omega)]
 have loop : ∀ (f g : Nat) (m : Mem), g ≤ N → N - g < f → AtE m0 C e q c p D wv n cap (X g) (Y g) m → L25_3 e 0 N f g m (fun x48 m49 => k 1 x48 m49) (fun x50 x51 m52 => k x50 x51 m52) := by
  intro f
  induction f with
  | zero => intro g m h1 h2; omega
  | succ f ih =>
   intro g m hgN hgf hA
   show R25_3 _ _ _ _ _ _ _ _
   unfold R25_3
   by_cases hg : g < N
   rotate_left
   ·have : g = N := by omega
    subst this
    exact kif_f (by simp) (hk m hA)
   refine kif_t (by simpa using hg) ?_
   obtain ⟨l, Sc, made, used, hA⟩ := hA
   have sc := hX g hg
   refine At.sync hA fun m1 h1 F1 => ?_
   obtain ⟨S1, M1, u1, hn1, hp1, E1⟩ := id h1
   rw [show (0 : Nat) + 0 + 36 = 36 from rfl, ldB_st E1.h.mac.s (by omega) rfl, hp1]
   -- a step by itself
   have stepP : ∀ (mz : Mem) (lz : List (Key × Val)) (Sz : Nat → Prop) (kz uz : Int), At m0 C e q c p D wv n cap lz Sz kz uz (X g) (Y g) mz → (takenS (X g) = true ∨ (X g).p 36 = true ∨ ¬ ∃ a r, liesS (X g) ((X g).n 34) 4 false = (a, -1, r) ∧ a < p * 1024) → P25_9102 e 0 N g mz (fun x34 m35 => L25_3 e 0 N f x34 m35 (fun x48 m49 => k 1 x48 m49) (fun x50 x51 m52 => k x50 x51 m52)) (fun x36 x37 m38 => k x36 x37 m38) (fun x39 m40 => L25_3 e 0 N f x39 m40 (fun x48 m49 => k 1 x48 m49) (fun x50 x51 m52 => k x50 x51 m52)) := fun mz lz Sz kz uz hz why => by
    unfold P25_9102
    have hst := sc.st.resolve_right fun ⟨b1, b2, b3, _⟩ => by
     rcases why with w | w | w
     ·rw [w] at b1; cases b1
     ·rw [w] at b2; cases b2
     ·exact w b3
    obtain ⟨S2, M2, u2, hn2, hp2, E2⟩ := id hz
    have tl : ∀ k, ldA mz e (0 + 73) k = k (.ptr q.b 0) := fun k => by
     rw [show (0 : Nat) + 73 = 73 + 0 from rfl]
     exact tail_ld (j := 0) E2.h.mac.s E2.h.q0 E2.h.x0 rfl k
    rw [tl]
    dsimp only [kptr]
    refine At.step hz sc hst fun cd m2 hcd h2 => At.sync h2 fun m3 h3 F3 => kif_t (by simpa using hcd) ?_
    rw [wrap64 (n := (g : Int) + 1) (by omega) (by omega)]
    exact ih (g + 1) m3 (by omega) (by omega) ⟨_, _, _, _, h3⟩
   have noblock : ∀ (mz : Mem), At m0 C e q c p D wv n cap l Sc made used (X g) (Y g) mz → (takenS (X g) = true ∨ (X g).p 36 = true) → P25_6004 e 0 N g false mz (fun x14 m15 => L25_3 e 0 N f x14 m15 (fun x48 m49 => k 1 x48 m49) (fun x50 x51 m52 => k x50 x51 m52)) (fun x16 m17 => P25_9102 e 0 N x16 m17 (fun x34 m35 => L25_3 e 0 N f x34 m35 (fun x48 m49 => k 1 x48 m49) (fun x50 x51 m52 => k x50 x51 m52)) (fun x36 x37 m38 => k x36 x37 m38) (fun x39 m40 => L25_3 e 0 N f x39 m40 (fun x48 m49 => k 1 x48 m49) (fun x50 x51 m52 => k x50 x51 m52))) := fun mz hz why => by
    unfold P25_6004
    exact kif_f rfl (stepP mz _ _ _ _ hz (why.imp id .inl))
   refine kif_c _ (fun cs => ?_) fun cs => noblock m1 h1 (.inr (by simpa using cs))
   refine At.due h1 sc.c fun m4 h4 F4 => ?_
   rw [sc.due, Bool.false_or]
   cases ct : takenS (X g) with
   | true => exact noblock m4 h4 (.inl ct)
   | false =>
    unfold P25_6004
    refine kif_t rfl ?_
    obtain ⟨S2, M2, u2, hn2, hp2, E2⟩ := id h4
    have eS := St.as hn2 hp2
    have eL : liesS S2 (S2.n 34) 4 false = liesS (X g) ((X g).n 34) 4 false := by rw [eS]; rfl
    have pl2 : Place C p (Y g) S2 := ⟨fun a r ha => sc.pl.k a r (by rw [← eL]; exact ha)⟩
    refine find_k_T hp E2 pl2 (fun hno c5 m7 E7 => ?_) fun a r kk c5 m7 S7 M7 l7 Sc7 k7 u7 hL har E7 en7 ep7 hb7 hs7 => ?_
    ·refine newK_i fun b9 m8 hb9 K8 e8 O8 => ?_
     rw [stG_of e8 rfl (by show 0 + 4 ≤ 4; omega)]
     refine kif_f rfl ?_
     refine stepP _ l Sc made used ?_ (.inr (.inr fun ⟨a, r, hL, har⟩ => ?_))
     ·exact At.keep (S := X g) ⟨S2, M2, u2, hn2, hp2, E7⟩ (Only.keeps K8 hb9 (Only.set _ _ _))
     ·rw [eL, hL] at hno
      rcases hno with t | t
      ·exact t rfl
      ·exact t har
    ·refine newK_i fun b9 m8 hb9 K8 e8 O8 => ?_
     rw [stG_of e8 rfl (by show 0 + 4 ≤ 4; omega)]
     refine kif_t rfl ?_
     rw [ldG_of (set_same _ _ _) (by show 0 + 4 ≤ 4; omega)]
     have K10 : Keeps m7 (m8.set b9 _) := Only.keeps K8 hb9 (Only.set m8 b9 ⟨4, splice (lget [(.flat (.int .u32 0)), (.flat (.slice none 0 0)), (.flat (.slice none 0 0)), (.flat (.slice none 0 0))]) 0 4 c5, 85, false⟩)
     have A7 : At m0 C e q c p D wv n cap l7 Sc7 k7 u7 (X g) (Y g) m7 := ⟨S7, M7, u2, en7.trans hn2, ep7.trans hp2, E7⟩
     have hpl := pl2.k _ r hL har
     have hLg : liesS (X g) ((X g).n 34) 4 false = ((a : Int), -1, r) := by rw [← eL]; exact hL
     rw [show IntKind.wrap .i64 ((N : Int) - g) = ((N - g : Nat) : Int) by rw [wrap64 (by omega) (by omega)]; omega]
     refine At.run hp (X := fun i => X (g + i)) (Y := fun i => Y (g + i)) (left := N - g) (fun i hi => hX (g + i) (by omega)) (by omega) ct (A7.keep K10) hLg (kk := kk) ((hb7.fr (T' := ft e q wv Sc7) (K10.fr _) fun x hx => .inl hx).congr fun j hj => ?_) hs7 hpl.1 hpl.2 fun i m13 hi1 hi2 h13 => ?_
     ·simp only [sub, splice]
      rw [if_pos hj, if_pos (by omega), Nat.zero_add, Nat.sub_zero]
     ·rw [wrap64 (n := (g : Int) + (i : Int)) (by omega) (by omega), show (g : Int) + (i : Int) = ((g + i : Nat) : Int) by omega]
      exact ih (g + i) m13 (by omega) (by omega) ⟨_, _, _, _, h13⟩
 exact ⟨N + 1, loop (N + 1) 0 m (by omega) (by omega) h⟩
end
end Go.Proofs.YtkiggdgphbkneaaGreat.Am
namespace Go.Proofs.YtkiggdgphbkneaaGreat.Am
set_option linter.unusedVariables false
set_option linter.unusedSimpArgs false
set_option maxRecDepth 100000
def in0 : In := ⟨0, 0, 0, 0, 0, 0⟩
def atI (l : List In) : Nat → In := fun i => l.getD i in0
def IsIn (m : Mem) (v : AV) (l : List In) : Prop := ∃ c, IsL m 6 v l.length c ∧ ∀ i, i < l.length → InC (fun j => c (i * 6 + j)) (atI l i)
theorem IsIn.fr {m m' : Mem} {S : Nat → Prop} {v : AV} {l : List In} (h : IsIn m v l) (F : Fr S m m') (hs : ∀ b, own v b → ¬ S b) : IsIn m' v l := by
 obtain ⟨c, h1, h2⟩ := h; exact ⟨c, h1.fr F hs, h2⟩
theorem IsIn.keep {m m' : Mem} {v : AV} {l : List In} (h : IsIn m v l) (K : Keeps m m') : IsIn m' v l := h.fr (K.fr fun _ => False) fun _ _ h => h
theorem IsIn.one {m : Mem} {v : AV} {l : List In} (h : IsIn m v l) : v.one = true := by obtain ⟨c, h1, _⟩ := h; exact h1.one
theorem IsIn.len {m : Mem} {v : AV} {l : List In} (h : IsIn m v l) (k : Int → Prop) : klen v k = k (l.length : Int) := by obtain ⟨c, h1, _⟩ := h; exact klen_r h1.r k
theorem InC.congr {c d : Nat → AV} {x : In} (h : InC c x) (e : ∀ j, j < 6 → d j = c j) : InC d x :=
 ⟨(e 0 (by omega)).trans h.1, (e 1 (by omega)).trans h.2.1, (e 2 (by omega)).trans h.2.2.1, (e 3 (by omega)).trans h.2.2.2.1, (e 4 (by omega)).trans h.2.2.2.2.1, (e 5 (by omega)).trans h.2.2.2.2.2⟩
theorem IsIn.nil (m : Mem) : IsIn m (.flat (.slice none 0 0)) [] := ⟨fun _ => .junk, .nil none _, fun i hi => by simp at hi⟩
theorem IsIn.row {m : Mem} {b : Nat} {y : Blk} {l : List In} (e : m.obj b = some y) (hn : y.n = l.length * 6) (hr : y.ro = false) (hc : ∀ i, i < l.length → InC (fun j => y.c (i * 6 + j)) (atI l i)) : IsIn m (.sl b 0 l.length (.ex l.length)) l :=
 ⟨y.c, IsL.row e hn hr, hc⟩
theorem IsIn.app {m : Mem} {v w : AV} {l k1 : List In} (h : IsIn m v l) (hw : IsIn m w k1) (hl : l.length ≤ 10000) (hk1 : k1.length ≤ 10000) {t : TypeId} {k : KV} (hk : ∀ v' m', IsIn m' v' (l ++ k1) → Fr (own v) m m' → (∀ b, own v' b → own v b ∨ m.obj b = none) → k v' m') : appS 6 48 t v w m k := by
 obtain ⟨c, h1, h2⟩ := h
 obtain ⟨d, g1, g2⟩ := hw
 refine appL h1 g1.r (by omega) fun v' m' a1 a2 a3 => hk v' m' ⟨_, by rw [List.length_append]; exact a1, fun i hi => ?_⟩ a2 a3
 rw [List.length_append] at hi
 by_cases ci : i < l.length
 ·have e : atI (l ++ k1) i = atI l i := by simp [atI, List.getD, List.getElem?_append_left ci]
  rw [e]
  refine (h2 i ci).congr fun j hj => ?_
  unfold cat; rw [if_pos (by omega)]
 ·have e : atI (l ++ k1) i = atI k1 (i - l.length) := by simp [atI, List.getD, List.getElem?_append_right (Nat.le_of_not_lt ci)]
  rw [e]
  refine (g2 (i - l.length) (by omega)).congr fun j hj => ?_
  unfold cat; rw [if_neg (by omega), show i * 6 + j - l.length * 6 = (i - l.length) * 6 + j by omega]
section
variable {m : Mem}
def rtiS (k t s i : Int) : In := ⟨k, s, t, 0, 0, i % 65536⟩
def rrrS (k d s t : Int) : In := ⟨k, s, t, d, 0, 0⟩
def liS (t v : Int) : List In := [⟨53, 0, t, 0, 0, v / 65536⟩, rtiS 51 t t v]
def nopS : In := ⟨1, 0, 0, 0, 0, 0⟩
def backS (k s t n : Int) : List In := [⟨k, s, t, 0, 0, (IntKind.wrap .u32 (-n - 1)) % 65536⟩, nopS]
theorem rti_spec {kd t s i : Int} (hi : isU i) {k : (Nat → AV) → Mem → Prop} (hk : ∀ c, InC c (rtiS kd t s i) → k c m) : F21 kd t s i m k := by
 unfold F21
 have e16 : bits .and .u32 i 65535 = i % 65536 := by have := and_ones i hi.1 hi.2 16 (by decide); simpa using this
 rw [e16]
 have hc : InC (upd (upd (upd (upd (Z6) 0 (.flat (.int .i64 kd))) 2 (.flat (.int .i64 t))) 1 (.flat (.int .i64 s))) 5 (.flat (.int .u32 (i % 65536)))) (rtiS kd t s i) := ⟨rfl, rfl, rfl, rfl, rfl, rfl⟩
 exact newF hc fun b m3 hb K h => h.lg fun c4 h4 => ⟨K, h4.inDom m, hk c4 h4⟩
theorem rrr_spec {kd d s t : Int} {k : (Nat → AV) → Mem → Prop} (hk : ∀ c, InC c (rrrS kd d s t) → k c m) : F28 kd d s t m k := by
 unfold F28
 have hc : InC (upd (upd (upd (upd (Z6) 0 (.flat (.int .i64 kd))) 3 (.flat (.int .i64 d))) 1 (.flat (.int .i64 s))) 2 (.flat (.int .i64 t))) (rrrS kd d s t) := ⟨rfl, rfl, rfl, rfl, rfl, rfl⟩
 exact newF hc fun b m3 hb K h => h.lg fun c4 h4 => ⟨K, h4.inDom m, hk c4 h4⟩
theorem two_row {b : Nat} {z c d : Nat → AV} {t : TypeId} {x y : In} {m' : Mem} (e : m'.obj b = some ⟨12, splice (splice z 0 6 c) 6 6 d, t, false⟩) (hx : InC c x) (hy : InC d y) : IsIn m' (.sl b 0 2 (.ex 2)) [x, y] := by
 refine IsIn.row (l := [x, y]) e rfl rfl fun i hi => ?_
 have : i = 0 ∨ i = 1 := by simp at hi; omega
 rcases this with rfl | rfl
 ·refine InC.congr (c := c) hx fun j hj => ?_
  show splice (splice z 0 6 c) 6 6 d (0 * 6 + j) = _
  unfold splice; rw [if_neg (by omega), if_pos (by omega)]; congr 1; omega
 ·refine InC.congr (c := d) hy fun j hj => ?_
  show splice (splice z 0 6 c) 6 6 d (1 * 6 + j) = _
  unfold splice; rw [if_pos (by omega)]; congr 1; omega
theorem li_spec {t v : Int} (hv : isU v) {k : AV → Mem → Prop} (hk : ∀ b m', m.obj b = none → Keeps m m' → IsIn m' (.sl b 0 2 (.ex 2)) (liS t v) → k (.sl b 0 2 (.ex 2)) m') : F18 t v m k := by
 unfold F18
 refine rti_spec hv fun c1 h1 => newK_i fun b m' hb K e O => hk b m' hb K (two_row e ?_ h1)
 have e2 : v.fdiv 65536 = v / 65536 := Int.fdiv_eq_ediv_of_nonneg _ (by decide)
 rw [e2]
 exact ⟨rfl, rfl, rfl, rfl, rfl, rfl⟩
theorem back_spec {kd s t n : Int} (hn : 0 ≤ n) (hn2 : n ≤ 1000) {k : AV → Mem → Prop} (hk : ∀ b m', m.obj b = none → Keeps m m' → IsIn m' (.sl b 0 2 (.ex 2)) (backS kd s t n) → k (.sl b 0 2 (.ex 2)) m') : F22 kd s t n m k := by
 unfold F22
 have e1 : IntKind.wrap .i64 (IntKind.wrap .i64 (0 - n) - 1) = -n - 1 := by rw [wrap64 (n := 0 - n) (by omega) (by omega), wrap64 (by omega) (by omega)]; omega
 have w := wrap32_rng (-n - 1)
 have e2 : bits .and .u32 (IntKind.wrap .u32 (-n - 1)) 65535 = (IntKind.wrap .u32 (-n - 1)) % 65536 := by have := and_ones _ w.1 w.2 16 (by decide); simpa using this
 rw [e1, e2]
 refine newK_i fun b m' hb K e O => hk b m' hb K (two_row e ?_ ?_)
 ·exact ⟨rfl, rfl, rfl, rfl, rfl, rfl⟩
 ·exact ⟨rfl, rfl, rfl, rfl, rfl, rfl⟩
theorem idle_spec {k : AV → Mem → Prop} (hk : ∀ b m', m.obj b = none → Keeps m m' → IsIn m' (.sl b 0 2 (.ex 2)) (backS 42 0 0 0) → k (.sl b 0 2 (.ex 2)) m') : F19 m k := by
 unfold F19
 exact back_spec (by decide) (by decide) hk
structure Rows (m : Mem) (b : Nat) (vs : List AV) (Ls : List (List In)) : Prop where
 e : ∃ y, m.obj b = some y ∧ y.n = Ls.length ∧ ∀ i, i < Ls.length → y.c i = lget vs i
 n : vs.length = Ls.length
 i : ∀ i, (h : i < Ls.length) → IsIn m (lget vs i) Ls[i]
theorem join_spec {b : Nat} {vs : List AV} {Ls : List (List In)} (h : Rows m b vs Ls) (hl : Ls.length ≤ 20) (hl2 : ∀ l ∈ Ls, l.length ≤ 100) {k : AV → Mem → Prop} (hk : ∀ v m', IsIn m' v Ls.flatten → Keeps m m' → (∀ x, own v x → m.obj x = none) → k v m') : F17 (.sl b 0 Ls.length (.ex Ls.length)) m k := by
 unfold F17
 have loop : ∀ (j i : Nat) (v : AV) (al : List In) (m1 : Mem), i + j = Ls.length → IsIn m1 v al → al.length ≤ 100 * i → Keeps m m1 → (∀ x, own v x → m.obj x = none) → al ++ (Ls.drop i).flatten = Ls.flatten → L17_3 (.sl b 0 Ls.length (.ex Ls.length)) (j + 1) v i m1 (fun v9 m10 => k v9 m10) := by
  intro j
  induction j with
  | zero =>
   intro i v al m1 e hv hal K o hR
   show R17_3 _ _ _ _ _ _
   unfold R17_3
   rw [show i = Ls.length by omega, List.drop_length] at hR
   have hR : al = Ls.flatten := by simpa using hR
   subst hR
   exact kif_f (by simp; omega) (hk v m1 hv K o)
  | succ j ih =>
   intro i v al m1 e hv hal K o hR
   show R17_3 _ _ _ _ _ _
   unfold R17_3
   have hi : i < Ls.length := by omega
   obtain ⟨y, ey, yn, yc⟩ := h.e
   have hrow := (h.i i hi).keep K
   have hli := hl2 _ (List.getElem_mem hi)
   rw [wrap64 (n := (i : Int) + 1) (by omega) (by omega)]
   refine kif_t (by simp; omega) (kif_ix (by omega) (by omega) ?_)
   rw [show 0 + (i : Int).toNat * 1 = i by omega, ldA_v (v := lget vs i) ((K b (by rw [ey]; simp)).trans ey) (by omega) (yc i hi) hrow.one]
   refine hv.app hrow (by omega) (by omega) fun v' m' h' F' o' => ih (i + 1) v' _ m' (by omega) h' (by simp; omega) (Fr.keeps K F' o) (fun x hx => (o' x hx).elim (o x) (newK_none K)) ?_
   rw [← hR, List.append_assoc, List.drop_eq_getElem_cons hi, List.flatten_cons]
 exact ⟨Ls.length + 1, loop Ls.length 0 _ [] m (by omega) (IsIn.nil m) (by simp) (Keeps.self m) (fun x hx => hx.elim) (by simp)⟩
def wdOf (x : In) : Int := (wordS x).1
def byOf (l : List In) : Nat → Int := fun j => by8 (wdOf (atI l (j / 4))) (3 - j % 4)
theorem byOf_rng (l : List In) (j : Nat) : 0 ≤ byOf l j ∧ byOf l j < 256 := by8_rng _ _
theorem code_spec {v : AV} {l : List In} (h : IsIn m v l) (hl : l.length ≤ 1000) (hi0 : ∀ x ∈ l, 0 ≤ x.i) {k : AV → Mem → Prop} (hk : ∀ w m', IsL m' 1 w (l.length * 4) (cB (byOf l)) → Keeps m m' → (∀ x, own w x → m.obj x = none) → k w m') : F16 v m k := by
 unfold F16
 have loop : ∀ (j i : Nat) (w : AV) (m1 : Mem), i + j = l.length → IsL m1 1 w (i * 4) (cB (byOf l)) → Keeps m m1 → (∀ x, own w x → m.obj x = none) → L16_3 v (j + 1) w i m1 (fun v14 m15 => k v14 m15) := by
  intro j
  induction j with
  | zero =>
   intro i w m1 e hw K o
   show R16_3 _ _ _ _ _ _
   unfold R16_3
   rw [h.len]
   rw [show i = l.length by omega] at hw
   exact kif_f (by simp; omega) (hk w m1 hw K o)
  | succ j ih =>
   intro i w m1 e hw K o
   show R16_3 _ _ _ _ _ _
   unfold R16_3
   rw [h.len]
   have hi : i < l.length := by omega
   obtain ⟨c, h1, h2⟩ := h.keep K
   rw [wrap64 (n := (i : Int) + 1) (by omega) (by omega)]
   refine kif_t (by simp; omega) (ldIn h1 h2 hi fun c6 h6 => ?_)
   have hx0 : 0 ≤ (atI l i).i := by
    have : atI l i = l[i] := by simp [atI, List.getD, hi]
    rw [this]; exact hi0 _ (List.getElem_mem hi)
   refine rword_spec h6 hx0 ?_
   refine appN (n' := 4) hw rfl (fun t ht => ?_) (by omega) fun w' m' g1 g2 g3 => ih (i + 1) w' m' (by omega) (by rw [Nat.add_mul, Nat.one_mul]; exact g1) (Fr.keeps K g2 o) fun x hx => (g3 x hx).elim (o x) (newK_none K)
   have ht : t = 0 ∨ t = 1 ∨ t = 2 ∨ t = 3 := by omega
   have e4 : (i * 4 * 1 + t) / 4 = i := by omega
   have e5 : (i * 4 * 1 + t) % 4 = t := by omega
   show _ = AV.flat (.int .u8 (byOf l (i * 4 * 1 + t)))
   unfold byOf by8 wdOf
   rw [e4, e5]
   rcases ht with rfl | rfl | rfl | rfl
   ·rfl
   ·rfl
   ·rfl
   ·show AV.flat (.int .u8 (IntKind.wrap .u8 (wordS (atI l i)).1)) = AV.flat (.int .u8 (IntKind.wrap .u8 ((wordS (atI l i)).1.fdiv (2 ^ (8 * (3 - 3))))))
    have : (2 : Int) ^ (8 * (3 - 3)) = 1 := by decide
    rw [this, Int.fdiv_one]
 exact ⟨l.length + 1, loop l.length 0 _ m (by omega) (.nil none _) (Keeps.self m) fun x hx => hx.elim⟩
end
end Go.Proofs.YtkiggdgphbkneaaGreat.Am
namespace Go.Proofs.YtkiggdgphbkneaaGreat.Am
set_option linter.unusedVariables false
set_option linter.unusedSimpArgs false
set_option maxRecDepth 100000
def imgS (n0 : Nat) (f0 : Nat → Int) (n1 : Nat) (f1 : Nat → Int) : Nat → Int := fun j => if 1024 ≤ j ∧ j < 1024 + n0 then f0 (j - 1024) else if 384 ≤ j ∧ j < 384 + n1 then f1 (j - 384) else 0
section
variable {m : Mem}
theorem image_spec {v0 v1 : AV} {n0 n1 : Nat} {f0 f1 : Nat → Int} (h0 : IsR m 1 v0 n0 (cB f0)) (h1 : IsR m 1 v1 n1 (cB f1)) (hn0 : n0 ≤ 3072) (hn1 : n1 ≤ 640) {k : AV → Mem → Prop} (hk : ∀ b m', m.obj b = none → Keeps m m' → IsL m' 1 (.sl b 0 4096 (.ex 4096)) 4096 (cB (imgS n0 f0 n1 f1)) → k (.sl b 0 4096 (.ex 4096)) m') : F33 v0 v1 m k := by
 unfold F33
 refine mkS_i (by omega) (by omega) (by decide) fun b m2 hb K2 e2 O2 => ?_
 have L2 : IsL m2 1 (.sl b 0 4096 (.ex 4096)) 4096 (fun _ => .flat (.int .u8 0)) := (IsL.row (esz := 1) e2 (by simp) rfl).congr fun i hi => reprow1 _ i
 refine slcop (l := 384) L2 (h1.keep K2) rfl (by omega) fun m5 u5 h5 F5 _ => ?_
 have F5' : Fr (one1 b) m2 m5 := F5.mono fun x _ t => t.symm
 have K5 : Keeps m m5 := Fr.keeps K2 F5' fun x hx => by cases hx; exact hb
 refine slcop (l := 1024) h5 (h0.keep K5) rfl (by omega) fun m8 u8 h8 F8 _ => ?_
 have F8' : Fr (one1 b) m5 m8 := F8.mono fun x _ t => t.symm
 refine hk b m8 hb (Fr.keeps K5 F8' fun x hx => by cases hx; exact hb) (h8.congr fun i hi => ?_)
 show (if 1024 * 1 ≤ i ∧ i < (1024 + n0) * 1 then AV.flat (.int .u8 (f0 (i - 1024 * 1))) else if 384 * 1 ≤ i ∧ i < (384 + n1) * 1 then AV.flat (.int .u8 (f1 (i - 384 * 1))) else AV.flat (.int .u8 0)) = AV.flat (.int .u8 (if 1024 ≤ i ∧ i < 1024 + n0 then f0 (i - 1024) else if 384 ≤ i ∧ i < 384 + n1 then f1 (i - 384) else 0))
 simp only [Nat.mul_one]
 by_cases c1 : 1024 ≤ i ∧ i < 1024 + n0
 ·rw [if_pos c1, if_pos c1]
 ·rw [if_neg c1, if_neg c1]
  by_cases c2 : 384 ≤ i ∧ i < 384 + n1
  ·rw [if_pos c2, if_pos c2]
  ·rw [if_neg c2, if_neg c2]
theorem imgS_rng {n0 n1 : Nat} {f0 f1 : Nat → Int} (h0 : ∀ i, 0 ≤ f0 i ∧ f0 i < 256) (h1 : ∀ i, 0 ≤ f1 i ∧ f1 i < 256) (j : Nat) : 0 ≤ imgS n0 f0 n1 f1 j ∧ imgS n0 f0 n1 f1 j < 256 := by
 unfold imgS
 split
 ·exact h0 _
 split
 ·exact h1 _
 ·omega
def AtF (m0 : Mem) (C : Nat → Bool) (e : Nat) (q : BB) (c p : Nat) (D : Dv) (n : Int) (S : St) (B : Nat → Int) (m : Mem) : Prop :=
 ∃ cap, AtE m0 C e q c p D (.flat (.slice none 0 0)) n cap S B m
variable {m0 : Mem} {C : Nat → Bool} {e : Nat} {q : BB} {c : Nat} {p : Nat} {D : Dv} {n : Int} {S : St} {B : Nat → Int}
theorem neweng_at {most : Int} {v1 v2 : AV} {nn nd : Nat} {f fd : Nat → Int} (h1 : IsS m 1 v1 nn (cB f)) (hf : ∀ i, i < nn → 0 ≤ f i ∧ f i < 256) (hn : (nn : Int) ≤ 4096) (h2 : IsR m 1 v2 nd (cB fd)) (hfd : ∀ i, i < nd → 0 ≤ fd i ∧ fd i < 256) (hnd : nd ≤ 4096) (C : Nat → Bool) {k : AV → Int → Mem → Prop}
  (hk : ∀ e q c m', AtF m C e q c 4 { nd := (nd + 63) / 64 * 64, dk := imgB nd fd } (clN most) St0 (imgB nn f) m' → k (.ptr e 0) 0 m') : F34 4 v1 v2 most m k := by
 refine neweng_spec (by omega) h1 hf (by omega) h2 hfd hnd fun e q c Sc m' M K fe fb fs => hk e q c m' ⟨32, [], Sc, 0, 0, { St0 with x := engX q.b c 32 0 0, q := 5 }, fun _ => false, 0, rfl, rfl, ⟨⟨M, St0_ok, ⟨rfl, rfl⟩, fun en hen => by simp at hen, fun j _ hj => by simp at hj⟩, K, fun x hx => ?_⟩⟩
 rcases hx with (hx | hx) | hx | hx
 ·rw [hx]; exact fe
 ·exact fb x hx
 ·exact hx.elim
 ·exact fs x hx
theorem AtF.bus (h : AtF m0 C e q c p D n S B m) {k : AV → Mem → Prop} (hk : k (.ptr q.b 0) m) : F29 e 0 m k := by
 unfold F29
 obtain ⟨cap, l, Sc, made, used, S1, M, u, hn, hp, E⟩ := h
 rw [show (0 : Nat) + 73 = 73 + 0 from rfl, tail_ld (j := 0) E.h.mac.s E.h.q0 E.h.x0 rfl]
 exact hk
theorem AtF.ram (h : AtF m0 C e q c p D n S B m) {k : AV → Mem → Prop} (hk : k (.ptr q.r.b 0) m) : F30 q.b 0 m k := by
 obtain ⟨cap, l, Sc, made, used, S1, M, u, hn, hp, E⟩ := h
 exact ram_spec E.h.mac.b hk
theorem AtF.state (h : AtF m0 C e q c p D n S B m) {k : (Nat → AV) → Mem → Prop} (hk : ∀ cc, (∀ i, i < 73 → cc i = stc S i) → k cc m) : F26 e 0 m k := by
 obtain ⟨cap, l, Sc, made, used, S1, M, u, hn, hp, E⟩ := h
 refine estate_spec E.h.mac.s fun cc hcc => hk cc fun i hi => ?_
 rw [hcc i hi]
 unfold stc
 rw [hn, hp]
theorem AtF.cap (h : AtF m0 C e q c p D n S B m) {x : Int} {k : Mem → Prop} (hk : ∀ m', AtF m0 C e q c p D n S B m' → k m') : F24 e 0 x m k := by
 unfold F24
 obtain ⟨cap, l, Sc, made, used, S1, M, u, hn, hp, E⟩ := h
 rw [show (0 : Nat) + 75 = 73 + 2 from rfl]
 refine stX_st E.h.mac.s (by rw [E.h.mac.sq]; decide) fun m' h' O' => hk m' ?_
 have ex : upd S1.x 2 (vi (if (if 32 < x then 32 else x) > 1 then (if 32 < x then 32 else x) else 1)) = engX q.b c (if (if 32 < x then 32 else x) > 1 then (if 32 < x then 32 else x) else 1) made used := by
  rw [E.h.mac.sx]
  funext j
  unfold upd engX
  match j with
  | 0 => rfl
  | 1 => rfl
  | 2 => rfl
  | 3 => rfl
  | 4 => rfl
  | j + 5 => rfl
 have hc := E.h.cpu.st h' E.h.ok O'.fr1
 have F' : Fr (foot e q) m m' := one_foot O'.fr1
 have hsf : ∀ x, Sc x → ¬ foot e q x := fun x hx hf => hf.elim (fun t => E.h.mac.ce (t ▸ hx)) fun t => E.h.mac.cb x t hx
 refine ⟨_, l, Sc, made, used, { S1 with x := upd S1.x 2 (vi (if (if 32 < x then 32 else x) > 1 then (if 32 < x then 32 else x) else 1)) }, M, u, hn, hp, ⟨⟨⟨h', ex, E.h.mac.sq, hc.b, E.h.mac.c.fr F' hsf, E.h.mac.de, E.h.mac.dw, E.h.mac.ce, E.h.mac.cb, E.h.mac.cw⟩, E.h.ok, E.h.st, fun en hen => ?_, E.h.mks⟩, Fr.keeps E.K F' fun x hx => E.f x (.inl hx), E.f⟩⟩
 obtain ⟨k1, b1, s1, c1⟩ := E.h.blk en hen
 exact ⟨k1, b1.fr (F'.mono fun x _ hx => .inl (.inl hx)) fun x hx => .inl hx, s1, c1⟩
theorem AtF.flush (h : AtF m0 C e q c p D n S B m) {k : Mem → Prop} (hk : ∀ m', AtF m0 C e q c p D n S B m' → k m') : F52 e 0 m k := by
 unfold F52
 obtain ⟨cap, l, Sc, made, used, S1, M, u, hn, hp, E⟩ := h
 have tc : ∀ k, ldA m e (0 + 74) k = k (.ptr c 0) := fun k => by
  rw [show (0 : Nat) + 74 = 73 + 1 from rfl]
  exact tail_ld (j := 1) E.h.mac.s (by rw [E.h.mac.sq]; decide) (by rw [E.h.mac.sx]; rfl) rfl k
 rw [tc]
 dsimp only [kptr]
 exact flush22 E.h.mac.c fun m' S' C' st => hk m' ⟨cap, [], S', made, used, S1, M, u, hn, hp, E.cache C' st fun en hen => by simp at hen⟩
theorem AtF.Run (hp : p ≤ 64) {X : Nat → St} {Y : Nat → Nat → Int} {N : Nat} (hN : N ≤ 1000000) (hX : ∀ g, g < N → StepC C p D (X g) (Y g) (X (g + 1)) (Y (g + 1))) (h : AtF m0 C e q c p D n (X 0) (Y 0) m)
  {k : Int → Int → Mem → Prop} (hk : ∀ m', AtF m0 C e q c p D n (X N) (Y N) m' → k 1 N m') : F25 e 0 N m k := by
 obtain ⟨cap, h⟩ := h
 exact Run_k hp hN hX h fun m' h' => hk m' ⟨cap, h'⟩
theorem toprun (hp : p ≤ 64) {X : Nat → St} {Y : Nat → Nat → Int} {N : Nat} (hN : N ≤ 1000000) (hX : ∀ g, g < N → StepC C p D (X g) (Y g) (X (g + 1)) (Y (g + 1))) (h : AtF m0 C e q c p D n (X 0) (Y 0) m) {lim ev : Int}
  {k : Mem → Prop} (hk : ∀ m', AtF m0 C e q c p D n (X N) (Y N) m' → k m') : F36 e 0 N lim ev m k := by
 unfold F36
 refine h.cap fun m1 h1 => ?_
 have loop : ∀ (f g : Nat) (m : Mem), g ≤ N → N - g < f → AtF m0 C e q c p D n (X g) (Y g) m → L36_1 e 0 ev f ((N : Int) - g) m k := by
  intro f
  induction f with
  | zero => intro g m h1 h2; omega
  | succ f ih =>
   intro g m hgN hgf hA
   show R36_1 _ _ _ _ _ _ _
   unfold R36_1
   by_cases hg : g < N
   rotate_left
   ·have : g = N := by omega
    subst this
    exact kif_f (by simp) (hk m hA)
   generalize hmx : (if (if 1 > ev then 1 else ev) < (N : Int) - g then (if 1 > ev then 1 else ev) else (N : Int) - g) = mx
   have hm : 1 ≤ mx ∧ mx ≤ (N : Int) - g := by
    subst hmx
    split <;> split <;> omega
   obtain ⟨j, rfl⟩ : ∃ j : Nat, mx = j := ⟨mx.toNat, by omega⟩
   refine kif_t (by simp; omega) (AtF.Run hp (X := fun i => X (g + i)) (Y := fun i => Y (g + i)) (N := j) (by omega) (fun i hi => hX (g + i) (by omega)) hA fun m2 h2 => h2.flush fun m3 h3 => ?_)
   rw [wrap64 (n := (N : Int) - g - j) (by omega) (by omega), show (N : Int) - g - j = (N : Int) - ((g + j : Nat) : Int) by omega]
   exact ih (g + j) m3 (by omega) (by omega) h3
 have := loop (N + 1) 0 m1 (by omega) (by omega) h1
 rw [show (N : Int) - (0 : Nat) = N by omega] at this
 exact ⟨N + 1, this⟩
theorem machine_spec {v0 v2 : AV} {n0 nd : Nat} {f0 fd : Nat → Int} (h0 : IsR m 1 v0 n0 (cB f0)) (hf0 : ∀ i, 0 ≤ f0 i ∧ f0 i < 256) (hn0 : n0 ≤ 3072) (h2 : IsR m 1 v2 nd (cB fd)) (hfd : ∀ i, i < nd → 0 ≤ fd i ∧ fd i < 256) (hnd : nd ≤ 4096) {most : Int} (C : Nat → Bool) {k : AV → Mem → Prop}
  (hk : ∀ m1 e q c m', Keeps m m1 → AtF m1 C e q c 4 { nd := (nd + 63) / 64 * 64, dk := imgB nd fd } (clN most) St0 (imgB 4096 (imgS n0 f0 0 fun _ => 0)) m' → k (.ptr e 0) m') : F23 v0 v2 most m k := by
 unfold F23
 refine image_spec h0 (n1 := 0) (f1 := fun _ => 0) (.nil none _) hn0 (by omega) fun b m2 hb2 K2 L2 => ?_
 refine neweng_at L2.s (fun i _ => imgS_rng hf0 (fun _ => by omega) i) (by omega) (h2.keep K2) hfd hnd C fun e q c m5 h5 => ?_
 have nl : ∀ (b o : Nat) (K : Bool → Prop), knilP (.ptr b o) K = K false := fun _ _ _ => rfl
 rw [nl]
 refine kif_f rfl ?_
 refine kif_f rfl ?_
 dsimp only [kptr]
 refine h5.bus ?_
 rw [nl]
 refine kif_f rfl (h5.bus ?_)
 dsimp only
 refine h5.ram ?_
 rw [nl]
 exact kif_f rfl (hk m2 e q c m5 K2 h5)
end
end Go.Proofs.YtkiggdgphbkneaaGreat.Am
namespace Go.Proofs.YtkiggdgphbkneaaGreat.Am
set_option linter.unusedVariables false
set_option linter.unusedSimpArgs false
set_option maxRecDepth 100000
inductive Path (C : Nat → Bool) (p : Nat) (D : Dv) : Nat → St → (Nat → Int) → St → (Nat → Int) → Prop
 | nil (S : St) (B : Nat → Int) : Path C p D 0 S B S B
 | cons {k : Nat} {S S1 S2 : St} {B B1 B2 : Nat → Int} (h : StepC C p D S B S1 B1) (t : Path C p D k S1 B1 S2 B2) : Path C p D (k + 1) S B S2 B2
section
variable {C : Nat → Bool} {p : Nat} {D : Dv}
theorem Path.one {S S1 : St} {B B1 : Nat → Int} (h : StepC C p D S B S1 B1) : Path C p D 1 S B S1 B1 := .cons h (.nil _ _)
theorem Path.trans {k j : Nat} {S S1 S2 : St} {B B1 B2 : Nat → Int} (h : Path C p D k S B S1 B1) (t : Path C p D j S1 B1 S2 B2) : Path C p D (k + j) S B S2 B2 := by
 induction h with
 | nil S B => rw [Nat.zero_add]; exact t
 | cons h _ ih => rw [Nat.add_right_comm]; exact .cons h (ih t)
theorem Path.chain {k : Nat} {S S' : St} {B B' : Nat → Int} (h : Path C p D k S B S' B') : ∃ (X : Nat → St) (Y : Nat → Nat → Int), X 0 = S ∧ Y 0 = B ∧ X k = S' ∧ Y k = B' ∧ ∀ g, g < k → StepC C p D (X g) (Y g) (X (g + 1)) (Y (g + 1)) := by
 induction h with
 | nil S B => exact ⟨fun _ => S, fun _ => B, rfl, rfl, rfl, rfl, fun g hg => by omega⟩
 | @cons k S S1 S2 B B1 B2 h t ih =>
  obtain ⟨X, Y, x0, y0, xk, yk, hs⟩ := ih
  refine ⟨fun g => match g with | 0 => S | g + 1 => X g, fun g => match g with | 0 => B | g + 1 => Y g, rfl, rfl, xk, yk, fun g hg => ?_⟩
  match g with
  | 0 => show StepC C p D S B (X 0) (Y 0); rw [x0, y0]; exact h
  | g + 1 => exact hs g (by omega)
variable {m0 m : Mem} {e : Nat} {q : BB} {c : Nat} {n : Int} {S S' : St} {B B' : Nat → Int} {N : Nat}
theorem AtF.go (hp : p ≤ 64) (hN : N ≤ 1000000) (t : Path C p D N S B S' B') (h : AtF m0 C e q c p D n S B m) {k : Int → Int → Mem → Prop} (hk : ∀ m', AtF m0 C e q c p D n S' B' m' → k 1 N m') : F25 e 0 N m k := by
 obtain ⟨X, Y, x0, y0, xk, yk, hs⟩ := t.chain
 subst x0 y0 xk yk
 exact AtF.Run hp hN hs h hk
theorem AtF.top (hp : p ≤ 64) (hN : N ≤ 1000000) (t : Path C p D N S B S' B') (h : AtF m0 C e q c p D n S B m) {lim ev : Int} {k : Mem → Prop} (hk : ∀ m', AtF m0 C e q c p D n S' B' m' → k m') : F36 e 0 N lim ev m k := by
 obtain ⟨X, Y, x0, y0, xk, yk, hs⟩ := t.chain
 subst x0 y0 xk yk
 exact toprun hp hN hs h hk
end
theorem by8_mod (w : Int) (q : Nat) : by8 w q = w / 2 ^ (8 * q) % 256 := by
 unfold by8
 rw [Int.fdiv_eq_ediv_of_nonneg _ (by exact Int.le_of_lt (Int.pow_pos (by decide)))]
 simp [IntKind.wrap, IntKind.bits, IntKind.signed]
theorem or_byte {x y : Int} (h0 : 0 ≤ x) (h1 : x < 16777216) (g0 : 0 ≤ y) (g1 : y < 256) : bits .or .u32 (IntKind.wrap .u32 (x * 256)) (IntKind.wrap .u32 y) = x * 256 + y := by
 rw [wrap32 (x * 256), wrap32 y, Int.emod_eq_of_lt (by omega) (by omega), Int.emod_eq_of_lt g0 (by omega)]
 by_cases c : x * 256 % 1024 = 0 ∧ y < 1024
 ·exact or_low (by omega) (by omega) c.1 g0 c.2
 ·have h := orI_nat (x := x * 256) (y := y) ⟨by omega, by omega⟩ ⟨g0, by omega⟩
  unfold orI at h
  rw [h]
  have e1 : (x * 256).toNat = 2 ^ 8 * x.toNat := by omega
  have e2 : y.toNat < 2 ^ 8 := by omega
  rw [e1, ← Nat.two_pow_add_eq_or_of_lt e2]
  omega
theorem ldv_word {f : Nat → Int} {w : Int} (hw : isU w) (h0 : f 0 = by8 w 3) (h1 : f 1 = by8 w 2) (h2 : f 2 = by8 w 1) (h3 : f 3 = by8 w 0) : ldv f 4 = w := by
 obtain ⟨w0, w1⟩ := hw
 have b0 := by8_mod w 3
 have b1 := by8_mod w 2
 have b2 := by8_mod w 1
 have b3 := by8_mod w 0
 simp only [Nat.reduceMul, Int.reducePow] at b0 b1 b2 b3
 show bits .or .u32 (IntKind.wrap .u32 (bits .or .u32 (IntKind.wrap .u32 (bits .or .u32 (IntKind.wrap .u32 (bits .or .u32 (IntKind.wrap .u32 (0 * 256)) (IntKind.wrap .u32 (f 0)) * 256)) (IntKind.wrap .u32 (f 1)) * 256)) (IntKind.wrap .u32 (f 2)) * 256)) (IntKind.wrap .u32 (f 3)) = w
 rw [h0, h1, h2, h3, b0, b1, b2, b3]
 have s1 := or_byte (x := 0) (y := w / 16777216 % 256) (by omega) (by omega) (by omega) (by omega)
 have s2 := or_byte (x := 0 * 256 + w / 16777216 % 256) (y := w / 65536 % 256) (by omega) (by omega) (by omega) (by omega)
 have s3 := or_byte (x := (0 * 256 + w / 16777216 % 256) * 256 + w / 65536 % 256) (y := w / 256 % 256) (by omega) (by omega) (by omega) (by omega)
 have s4 := or_byte (x := ((0 * 256 + w / 16777216 % 256) * 256 + w / 65536 % 256) * 256 + w / 256 % 256) (y := w / 1 % 256) (by omega) (by omega) (by omega) (by omega)
 rw [s1, s2, s3, s4]
 omega
theorem prog_word {l : List In} {i : Nat} (hi : i < l.length) {B : Nat → Int} {a : Int} (a0 : 0 ≤ a) (hB : ∀ t, t < 4 → B (a.toNat + t) = byOf l (4 * i + t)) (hw : isU (wdOf (atI l i))) : wdB B a 4 = wdOf (atI l i) := by
 have hb : ∀ t, t < 4 → byOf l (4 * i + t) = by8 (wdOf (atI l i)) (3 - t) := fun t ht => by
  unfold byOf
  rw [show (4 * i + t) / 4 = i by omega, show (4 * i + t) % 4 = t by omega]
 unfold wdB
 refine ldv_word hw ?_ ?_ ?_ ?_
 ·exact (hB 0 (by omega)).trans (hb 0 (by omega))
 ·exact (hB 1 (by omega)).trans (hb 1 (by omega))
 ·exact (hB 2 (by omega)).trans (hb 2 (by omega))
 ·exact (hB 3 (by omega)).trans (hb 3 (by omega))
theorem zero_word {B : Nat → Int} {a : Int} (hB : ∀ t, t < 4 → B (a.toNat + t) = 0) : wdB B a 4 = 0 := by
 unfold wdB
 have e8 : ∀ q, by8 0 q = 0 := fun q => by rw [by8_mod]; simp
 exact ldv_word (w := 0) ⟨by omega, by omega⟩ ((hB 0 (by omega)).trans (e8 3).symm) ((hB 1 (by omega)).trans (e8 2).symm) ((hB 2 (by omega)).trans (e8 1).symm) ((hB 3 (by omega)).trans (e8 0).symm)
theorem zero_nop : ofS 0 = nopS := by decide +kernel
end Go.Proofs.YtkiggdgphbkneaaGreat.Am
namespace Go.Proofs.YtkiggdgphbkneaaGreat.Am
set_option linter.unusedVariables false
set_option linter.unusedSimpArgs false
set_option maxRecDepth 100000
theorem of_back_T {x : In} (hi : 0 ≤ x.i) (h : rightS x = true) : ofS (wdOf x) = x := by
 unfold wdOf wordS
 rw [if_pos h]
 exact of_word ((right_iff x hi).1 h)
theorem wdOf_u (x : In) : isU (wdOf x) := by
 unfold wdOf wordS
 split
 ·exact orI_rng _ _
 ·exact (⟨by omega, by omega⟩ : isU 0)
structure Q (S : St) (R : Nat → Int) (pc nx : Int) (sl : Bool) (t : Nat) : Prop where
 ok : S.ok
 reg : ∀ i, i < 34 → S.n i = R i
 r0 : R 0 = 0
 pc : S.n 34 = pc
 nx : S.n 35 = nx
 sl : S.p 36 = sl
 w : S.p 71 = false
 st : S.n 51 = 0
 cs : S.n 52 = 0
 cm : S.n 50 = 0
 ct : S.n 48 = t
 tm : S.n 72 = t
section
variable {S : St} {R : Nat → Int} {pc nx : Int} {sl : Bool} {t : Nat}
theorem and0l (x : Int) : bits .and .u32 0 x = 0 := by
 simp [bits, IntKind.wrap, IntKind.bits, IntKind.signed]
 show ((0#32 &&& BitVec.ofInt 32 x).toNat : Int) % _ = 0
 rw [BitVec.zero_and]; rfl
theorem not0l (x : Int) : bits .andNot .u32 0 x = 0 := by
 rw [not_bv]
 have : bv 0 = 0#32 := rfl
 rw [this, BitVec.zero_and]; rfl
theorem Q.calm (h : Q S R pc nx sl t) : Calm S := ⟨h.w, by rw [h.cs, not0l]⟩
theorem Q.usr (h : Q S R pc nx sl t) : userS S = false := by unfold userS; rw [h.st, and0l]; rfl
theorem Q.nt (h : Q S R pc nx sl t) : takenS S = false := by
 unfold takenS pendS
 rw [h.st, h.cs, and0l, and0l]; rfl
theorem Q0 : Q St0 (fun _ => 0) 2147484672 2147484676 false 0 :=
 ⟨St0_ok, fun i hi => by show (if i = 34 then _ else if i = 35 then _ else if i = 54 then _ else (0 : Int)) = 0; rw [if_neg (by omega), if_neg (by omega), if_neg (by omega)], rfl, rfl, rfl, rfl, rfl, rfl, rfl, rfl, rfl, rfl⟩
theorem lies_dir (hu : userS S = false) {a : Int} {n : Int} (hn : n = 1 ∨ n = 4) (a0 : 0 ≤ a) (a1 : a < 536870912) (ha : a % n = 0) {b : Bool} : liesS S (2147483648 + a) n b = (a, -1, false) := by
 unfold liesS
 have e : (if n ≠ 1 ∧ n ≠ 2 then (4 : Int) else n) = n := by rcases hn with rfl | rfl <;> rfl
 have low29 := and_ones (2147483648 + a) (by omega) (by omega) 29 (by decide)
 have low29 : bits .and .u32 (2147483648 + a) 536870911 = (2147483648 + a) % 536870912 := by simpa using low29
 rw [e, hu]
 dsimp only
 rw [if_neg (by
  rintro (t | ⟨_, t⟩)
  ·rcases hn with rfl | rfl <;> omega
  ·cases t), if_pos ⟨by omega, by omega⟩, low29]
 congr 1
 omega
theorem Q.go (h : Q S R pc nx sl t) (ht : t < 1000000) : (goS S 1).1 = (S.putN 72 (t + 1 : Nat)).putN 48 (t + 1 : Nat) := by
 unfold goS
 have hm : ¬ missS S ≤ 1 := by
  unfold missS
  rw [h.cm, h.ct]
  split <;> omega
 have w1 : IntKind.wrap .u32 (1 : Int) = 1 := rfl
 have e1 : IntKind.wrap .i64 ((t : Int) + 1) = ((t + 1 : Nat) : Int) := by rw [wrap64 (by omega) (by omega)]; omega
 have e2 : IntKind.wrap .u32 ((t : Int) + 1) = ((t + 1 : Nat) : Int) := by rw [wrap32]; omega
 rw [if_neg (by decide), if_neg hm, h.tm, h.ct, w1, e1, e2]
theorem advS_n (S : St) (i : Nat) : (advS S).n i = if i = 35 then IntKind.wrap .u32 (S.n 35 + 4) else if i = 34 then S.n 35 else S.n i := by
 unfold advS
 show ((S.putN 34 (S.n 35)).putN 35 (IntKind.wrap .u32 (S.n 35 + 4))).n i = _
 by_cases c : i = 35
 ·subst c; rw [putN_same, if_pos rfl]
 ·rw [putN_other _ _ c, if_neg c]
  by_cases c2 : i = 34
  ·subst c2; rw [putN_same, if_pos rfl]
  ·rw [putN_other _ _ c2, if_neg c2]
theorem Q.lift (h : Q S R pc nx sl t) (ht : t < 1000000) {x : In} (hx0 : 0 ≤ x.i) : Q (liftX S x) (fun i => run18 (rg S) (opsOf x) i) nx (IntKind.wrap .u32 (nx + 4)) false (t + 1) := by
 obtain ⟨len2, opr⟩ := ops_ok (x := x) hx0
 have okL := liftS_ok (l := opsOf x) h.ok opr
 have hL : Q (liftS S (opsOf x)) (fun i => run18 (rg S) (opsOf x) i) pc nx sl t := by
  have hi : ∀ i, 34 ≤ i → (liftS S (opsOf x)).n i = S.n i := fun i hi => by
   show (if i < 34 then _ else S.n i) = _
   rw [if_neg (by omega)]
  refine ⟨okL, fun i hi => ?_, ?_, (hi 34 (by omega)).trans h.pc, (hi 35 (by omega)).trans h.nx, h.sl, h.w, (hi 51 (by omega)).trans h.st, (hi 52 (by omega)).trans h.cs, (hi 50 (by omega)).trans h.cm, (hi 48 (by omega)).trans h.ct, (hi 72 (by omega)).trans h.tm⟩
  ·show (if i < 34 then run18 (rg S) (opsOf x) i else S.n i) = _
   rw [if_pos hi]
  ·show run18 (rg S) (opsOf x) 0 = 0
   by_cases c : run18 (rg S) (opsOf x) 0 = rg S 0
   ·rw [c]; show (if (0 : Nat) < 34 then S.n 0 else 0) = 0; rw [if_pos (by omega), h.reg 0 (by omega)]; exact h.r0
   ·obtain ⟨DD, hD⟩ := run_change hx0 (rg S)
    exact absurd rfl (hD 0 (by omega) c).2.1
 have eG := hL.go ht
 have okG := goS_ok okL 1
 have okR : (liftX S x).ok := lineS_ok (advS_ok okG) false
 have hA : ∀ i, (advS (goS (liftS S (opsOf x)) 1).1).n i = if i = 35 then IntKind.wrap .u32 (nx + 4) else if i = 34 then nx else if i = 48 ∨ i = 72 then ((t + 1 : Nat) : Int) else (liftS S (opsOf x)).n i := fun i => by
  rw [advS_n, eG]
  have e35 : (((liftS S (opsOf x)).putN 72 (t + 1 : Nat)).putN 48 (t + 1 : Nat)).n 35 = nx := by
   rw [putN_other _ _ (by decide), putN_other _ _ (by decide)]; exact hL.nx
  rw [e35]
  split
  ·rfl
  split
  ·rfl
  by_cases c48 : i = 48
  ·subst c48; rw [putN_same, if_pos (.inl rfl)]
  ·rw [putN_other _ _ c48]
   by_cases c72 : i = 72
   ·subst c72; rw [putN_same, if_pos (.inr rfl)]
   ·rw [putN_other _ _ c72, if_neg (by omega)]
 have hX : ∀ i, i ≠ 52 → (liftX S x).n i = (advS (goS (liftS S (opsOf x)) 1).1).n i := fun i hi => by
  unfold liftX lineS
  rw [if_neg (by simp), putN_other _ _ hi]
 have hn : ∀ i, i ≠ 34 → i ≠ 35 → i ≠ 48 → i ≠ 72 → i ≠ 52 → (liftX S x).n i = (liftS S (opsOf x)).n i := fun i h1 h2 h3 h4 h5 => by
  rw [hX i h5, hA i, if_neg h2, if_neg h1, if_neg (by omega)]
 have h36 : (liftX S x).p 36 = false := by
  unfold liftX lineS advS
  rw [if_neg (by simp), eG]; rfl
 have h71 : (liftX S x).p 71 = false := by
  unfold liftX lineS advS
  rw [if_neg (by simp), eG]; exact h.w
 refine ⟨okR, fun i hi => (hn i (by omega) (by omega) (by omega) (by omega) (by omega)).trans (hL.reg i hi), hL.r0, ?_, ?_, h36, h71, (hn 51 (by decide) (by decide) (by decide) (by decide) (by decide)).trans hL.st, ?_, (hn 50 (by decide) (by decide) (by decide) (by decide) (by decide)).trans hL.cm, ?_, ?_⟩
 ·rw [hX 34 (by decide), hA]; rfl
 ·rw [hX 35 (by decide), hA]; rfl
 ·unfold liftX lineS
  rw [if_neg (by simp), putN_same]
  have : (advS (goS (liftS S (opsOf x)) 1).1).n 52 = 0 := by
   rw [hA]
   exact hL.cs
  rw [this, not0l]
 ·rw [hX 48 (by decide), hA]; rfl
 ·rw [hX 72 (by decide), hA]; rfl
theorem Q.stepL {C : Nat → Bool} {p : Nat} {D : Dv} (hD : D.ev = []) {a : Int} {B : Nat → Int} {x : In} (h : Q S R (2147483648 + a) nx false t) (a0 : 0 ≤ a) (ap : a < p * 1024) (hp : p ≤ 64) (a4 : a % 4 = 0) (hx : ofS (wdB B a 4) = x) (hpl : plainS x = true) (hC : C (a / 1024).toNat = true) (hP : PageOk B a) : StepC C p D S B (liftX S x) B := by
 have hL : liesS S (S.n 34) 4 false = (a, -1, false) := by rw [h.pc]; exact lies_dir h.usr (.inr rfl) a0 (by omega) a4
 have eI : instS B S = x := by unfold instS; rw [hL]; exact hx
 refine ⟨h.calm, (h.reg 0 (by omega)).trans h.r0, ?_, ⟨fun a' r' h' _ => ?_⟩, fun _ _ => rfl, .inr ⟨h.nt, h.sl, ⟨a, false, hL, ap⟩, by rw [eI]; exact hpl, by rw [eI], rfl⟩⟩
 ·unfold dueD nextD; rw [hD]; rfl
 ·rw [hL] at h'
  have : a = a' := by simpa using congrArg Prod.fst h'
  subst this; exact ⟨hC, hP⟩
end
end Go.Proofs.YtkiggdgphbkneaaGreat.Am
namespace Go.Proofs.YtkiggdgphbkneaaGreat.Am
set_option linter.unusedVariables false
set_option linter.unusedSimpArgs false
set_option maxRecDepth 100000
def progB (l : List In) : Nat → Int := imgB 4096 (imgS (l.length * 4) (byOf l) 0 fun _ => 0)
def inOk (x : In) : Bool := rightS x && decide (0 ≤ x.i) && (opsOf x).all fun o => kdS o.k
theorem inOk_p {x : In} (h : inOk x = true) : rightS x = true ∧ 0 ≤ x.i ∧ ∀ o ∈ opsOf x, OpK o := by
 unfold inOk at h
 simp only [Bool.and_eq_true, decide_eq_true_eq, List.all_eq_true] at h
 exact ⟨h.1.1, h.1.2, fun o ho => ⟨(ops_ok h.1.2).2 o ho, h.2 o ho⟩⟩
theorem nop_ok : inOk nopS = true := by decide +kernel
theorem prog_at {l : List In} (hl : l.length ≤ 700) {i : Nat} (hi : i < l.length) : wdB (progB l) (1024 + 4 * i) 4 = wdOf (atI l i) := by
 refine prog_word hi (by omega) (fun t ht => ?_) (wdOf_u _)
 unfold progB imgB imgS
 rw [if_pos (by omega), if_pos (by omega)]
 congr 1
 omega
theorem prog_out {l : List In} (hl : l.length ≤ 700) {i : Nat} (hi : l.length ≤ i) (h2 : i < 768) : wdB (progB l) (1024 + 4 * i) 4 = 0 := by
 refine zero_word fun t ht => ?_
 unfold progB imgB imgS
 rw [if_pos (by omega), if_neg (by omega), if_neg (by omega)]
theorem prog_in {l : List In} (hl : l.length ≤ 700) (ho : ∀ x ∈ l, inOk x = true) {i : Nat} (h2 : i < 768) : ofS (wdB (progB l) (1024 + 4 * i) 4) = (if i < l.length then atI l i else nopS) ∧ inOk (if i < l.length then atI l i else nopS) = true := by
 by_cases c : i < l.length
 ·rw [if_pos c, prog_at hl c]
  have e : atI l i = l[i] := by simp [atI, List.getD, c]
  have h := ho _ (List.getElem_mem c)
  rw [← e] at h
  obtain ⟨h1, h2, _⟩ := inOk_p h
  exact ⟨of_back_T h2 h1, h⟩
 ·rw [if_neg c, prog_out hl (by omega) h2]
  exact ⟨zero_nop, nop_ok⟩
theorem prog_page {l : List In} (hl : l.length ≤ 700) (ho : ∀ x ∈ l, inOk x = true) {i : Nat} (hi : i < 768) : PageOk (progB l) (1024 + 4 * i) := fun j hj => by
 have hlt : i + j < 768 := by omega
 have e : (1024 : Int) + 4 * i + 4 * j = 1024 + 4 * ((i + j : Nat) : Int) := by omega
 unfold inAt wdAt
 rw [e]
 obtain ⟨h1, h2⟩ := prog_in hl ho hlt
 rw [h1]
 exact (inOk_p h2).2.2
def C1 : Nat → Bool := fun j => j == 1 || j == 2 || j == 3
theorem rg_q {S : St} {R : Nat → Int} {pc nx : Int} {sl : Bool} {t : Nat} (h : Q S R pc nx sl t) {i : Nat} (hi : i < 34) : rg S i = R i := by
 unfold rg; rw [if_pos hi]; exact h.reg i hi
theorem Q.prog {l : List In} (hl : l.length ≤ 700) (ho : ∀ x ∈ l, inOk x = true) {D : Dv} (hD : D.ev = []) {S : St} {R : Nat → Int} {t i : Nat} (h : Q S R (2147484672 + 4 * i) (2147484672 + 4 * (i + 1 : Nat)) false t) (ht : t < 1000000) (hi : i < 700) (hpl : plainS (if i < l.length then atI l i else nopS) = true) :
  ∃ S', StepC C1 4 D S (progB l) S' (progB l) ∧ Q S' (fun j => run18 (rg S) (opsOf (if i < l.length then atI l i else nopS)) j) (2147484672 + 4 * (i + 1 : Nat)) (2147484672 + 4 * (i + 2 : Nat)) false (t + 1) := by
 obtain ⟨h1, h2⟩ := prog_in hl ho (i := i) (by omega)
 have ep : (2147484672 : Int) + 4 * i = 2147483648 + (1024 + 4 * i) := by omega
 rw [ep] at h
 refine ⟨_, h.stepL hD (by omega) (by omega) (by omega) (by omega) h1 hpl ?_ (prog_page hl ho (by omega)), ?_⟩
 ·unfold C1
  have : ((1024 + 4 * (i : Int)) / 1024).toNat = 1 ∨ ((1024 + 4 * (i : Int)) / 1024).toNat = 2 ∨ ((1024 + 4 * (i : Int)) / 1024).toNat = 3 := by omega
  rcases this with e | e | e <;> rw [e] <;> rfl
 ·have := h.lift ht (inOk_p h2).2.1
  have e2 : IntKind.wrap .u32 (2147484672 + 4 * ((i + 1 : Nat) : Int) + 4) = 2147484672 + 4 * ((i + 2 : Nat) : Int) := by rw [wrap32]; omega
  rw [e2] at this
  exact this
section
variable {m : Mem}
theorem one_row {b : Nat} {z c : Nat → AV} {t : TypeId} {x : In} {m' : Mem} (e : m'.obj b = some ⟨6, splice z 0 6 c, t, false⟩) (hx : InC c x) : IsIn m' (.sl b 0 1 (.ex 1)) [x] := by
 refine IsIn.row (l := [x]) e rfl rfl fun i hi => ?_
 have : i = 0 := by simp at hi; omega
 subst this
 refine InC.congr (c := c) hx fun j hj => ?_
 show splice z 0 6 c (0 * 6 + j) = _
 unfold splice; rw [if_pos (by omega)]; congr 1; omega
theorem awake_spec {k : Bool → Mem → Prop} (hk : ∀ m', k true m') : F27 m k := by
 unfold F27
 refine rti_spec (by unfold isU; omega) fun c1 h1 => newK_i fun b4 m3 hb4 K3 e4 O4 => ?_
 have hl1 : (rtiS 47 1 0 5).i = 5 := rfl
 have ho : ∀ x ∈ [rtiS 47 1 0 5], inOk x = true := fun x hx => by
  have hx : x = rtiS 47 1 0 5 := by simpa using hx
  subst hx; decide +kernel
 refine code_spec (one_row e4 h1) (by simp) (fun x hx => (inOk_p (ho x hx)).2.1) fun v5 m6 L6 K6 o6 => ?_
 refine machine_spec L6.r (fun i => byOf_rng _ i) (by simp) (v2 := .flat (.slice none 0 0)) (nd := 0) (fd := fun _ => 0) (.nil none _) (fun i hi => by omega) (by omega) C1 fun m1 e q c m8 K8 A8 => ?_
 have nl : ∀ (b o : Nat) (K : Bool → Prop), knilP (.ptr b o) K = K false := fun _ _ _ => rfl
 rw [nl]
 refine kif_f rfl ?_
 dsimp only [kptr]
 obtain ⟨S1, s1, q1⟩ := Q.prog (l := [rtiS 47 1 0 5]) (by simp) ho (D := { nd := (0 + 63) / 64 * 64, dk := imgB 0 fun _ => 0 }) rfl (i := 0) Q0 (by decide) (by decide) (by decide +kernel)
 obtain ⟨S2, s2, q2⟩ := Q.prog (l := [rtiS 47 1 0 5]) (by simp) ho (D := { nd := (0 + 63) / 64 * 64, dk := imgB 0 fun _ => 0 }) rfl (i := 1) q1 (by decide) (by decide) (by decide +kernel)
 obtain ⟨S3, s3, q3⟩ := Q.prog (l := [rtiS 47 1 0 5]) (by simp) ho (D := { nd := (0 + 63) / 64 * 64, dk := imgB 0 fun _ => 0 }) rfl (i := 2) q2 (by decide) (by decide) (by decide +kernel)
 have path : Path C1 4 _ 3 St0 (progB [rtiS 47 1 0 5]) S3 (progB [rtiS 47 1 0 5]) := .cons s1 (.cons s2 (.one s3))
 refine AtF.go (by decide) (by decide) path A8 fun m14 A14 => ?_
 refine kif_t rfl (kif_t rfl (A14.state fun cc hcc => ?_))
 have e1 : (sub cc 0 32) 1 = vu (S3.n 1) := by
  unfold sub; rw [if_pos (by omega), Nat.zero_add, hcc 1 (by omega)]; rfl
 have e3 : S3.n 1 = 5 := by
  rw [q3.reg 1 (by omega)]
  show run18 (rg S2) (opsOf nopS) 1 = 5
  have nop : ∀ f : Nat → Int, run18 f (opsOf nopS) 1 = f 1 := fun f => by
   have : opsOf nopS = [⟨1, 34, 0, 0, 0⟩, ⟨9, 0, 0, 34, 0⟩] := rfl
   rw [this]; rfl
  rw [nop, rg_q q2 (by omega)]
  show run18 (rg S1) (opsOf nopS) 1 = 5
  rw [nop, rg_q q1 (by omega)]
  show run18 (rg St0) (opsOf (rtiS 47 1 0 5)) 1 = 5
  decide +kernel
 rw [e1, e3]
 exact hk m14
end
end Go.Proofs.YtkiggdgphbkneaaGreat.Am
namespace Go.Proofs.YtkiggdgphbkneaaGreat.Am
set_option linter.unusedVariables false
set_option linter.unusedSimpArgs false
set_option maxRecDepth 100000
def fxB (x : In) : Bool := exK x.k && decide (0 ≤ x.s) && decide (x.s < 32) && decide (0 ≤ x.t) && decide (x.t < 32) && decide (0 ≤ x.d) && decide (x.d < 32) && decide (0 ≤ x.h) && decide (x.h < 32) && decide (0 ≤ x.i) && decide (x.i < 65536)
theorem fx_of {x : In} (h : fxB x = true) : FX x := by
 unfold fxB at h
 simp only [Bool.and_eq_true, decide_eq_true_eq] at h
 obtain ⟨⟨⟨⟨⟨⟨⟨⟨⟨⟨a, b⟩, c⟩, d⟩, e⟩, f⟩, g⟩, i⟩, j⟩, k⟩, l⟩ := h
 exact ⟨a, b, c, d, e, f, g, i, j, k, l⟩
section
variable {S : St} {R : Nat → Int} {pc nx : Int} {sl : Bool} {t : Nat}
theorem Q.good {p : Nat} {a : Int} {B : Nat → Int} {x : In} (h : Q S R (2147483648 + a) nx sl t) (a0 : 0 ≤ a) (ap : a < p * 1024) (hp : p ≤ 64) (a4 : a % 4 = 0) (hx : ofS (wdB B a 4) = x) (hfx : FX x) (hok : Okx p S x) : Good p B S ∧ instS B S = x ∧ stepS p B S = execS p B S x := by
 have hL : liesS S (S.n 34) 4 false = (a, -1, false) := by rw [h.pc]; exact lies_dir h.usr (.inr rfl) a0 (by omega) a4
 have eI : instS B S = x := by unfold instS; rw [hL]; exact hx
 have hev : evenR p a 4 := ⟨by simp, a4, by unfold inR; omega⟩
 refine ⟨⟨h.calm, (h.reg 0 (by omega)).trans h.r0, .inl (by rw [hL]; exact ap), fun _ _ _ => by rw [eI]; exact ⟨hfx, hok⟩⟩, eI, ?_⟩
 rw [step_exec h.nt hL hev, hx]
theorem Q.stepX {C : Nat → Bool} {p : Nat} {D : Dv} (hD : D.ev = []) {a : Int} {B : Nat → Int} {x : In} (h : Q S R (2147483648 + a) nx sl t) (a0 : 0 ≤ a) (ap : a < p * 1024) (hp : p ≤ 64) (a4 : a % 4 = 0) (hx : ofS (wdB B a 4) = x) (hfx : FX x) (hok : Okx p S x) (hC : C (a / 1024).toNat = true) (hP : PageOk B a)
  {S' : St} {B' : Nat → Int} {cd : Int} (he : execS p B S x = (S', B', cd)) (cod : Cod C B B') (hw : classS x.k = 5 → ∀ j : Nat, (j : Int) = (liesS S (vaS S x) (sizeS x.k) true).1 / 1024 → C j = false) : StepC C p D S B S' B' := by
 have hL : liesS S (S.n 34) 4 false = (a, -1, false) := by rw [h.pc]; exact lies_dir h.usr (.inr rfl) a0 (by omega) a4
 obtain ⟨g1, g2, g3⟩ := h.good a0 ap hp a4 hx hfx hok
 refine ⟨h.calm, (h.reg 0 (by omega)).trans h.r0, ?_, ⟨fun a' r' h' _ => ?_⟩, cod, .inl ⟨g1, by rw [g3, he], by rw [g3, he], fun w j hj => hw ?_ j ?_⟩⟩
 ·unfold dueD nextD; rw [hD]; rfl
 ·rw [hL] at h'
  have : a = a' := by simpa using congrArg Prod.fst h'
  subst this; exact ⟨hC, hP⟩
 ·have := w.2.2.2.2.1
  rw [g2] at this; exact this
 ·unfold wrA at hj
  rw [g2] at hj; exact hj
theorem Q.slot {p : Nat} {B : Nat → Int} {x : In} (h : Q S R pc nx sl t) (hfx : FX x) (hpl : plainS x = true) (hz : x.k = 1 → x.d = 0) : execS p B S x = (liftX S x, B, -1) ∧ Okx p S x := by
 have e := exec_lift (p := p) (B := B) hfx hpl ((h.reg 0 (by omega)).trans h.r0) h.ok hz
 have hcl : classS x.k = 1 := by unfold plainS at hpl; simp at hpl; exact hpl.2
 refine ⟨e, fun t => ?_, fun t => ?_, hz, fun t => ⟨fun t2 => ?_, fun t2 => ?_⟩⟩
 ·rw [hcl] at t; cases t
 ·rw [hcl] at t; cases t
 ·rw [t2] at hcl; revert hcl; decide
 ·rw [t2] at hcl; revert hcl; decide
def brT (x : In) (a b : Int) : Bool := if x.k = 42 then a == b else a != b
theorem Q.branch {p : Nat} {B : Nat → Int} {x : In} (h : Q S R pc nx false t) (ht : t < 1000000) (hfx : FX x) (hr : rightS x = true) (hk : x.k = 42 ∨ x.k = 43) : ∃ S', execS p B S x = (S', B, -1) ∧ Okx p S x ∧ Q S' R nx (if brT x (R x.s.toNat) (R x.t.toNat) = true then targetB x pc (R x.s.toNat) else IntKind.wrap .u32 (nx + 4)) true (t + 1) := by
 have hcl : classS x.k = 3 := by rcases hk with e | e <;> rw [e] <;> decide
 have hs : S.n x.s.toNat = R x.s.toNat := h.reg _ (by have := hfx.s1; omega)
 have htt : S.n x.t.toNat = R x.t.toNat := h.reg _ (by have := hfx.t1; omega)
 have href : refS S x = -1 := by
  unfold refS trapsS
  rw [h.sl, h.usr, hr]
  rcases hk with e | e <;> rw [e] <;> simp
 have hact : actS p B S x = (S, B, -1, false) := by
  unfold actS plainX
  rw [hcl]
  rw [if_neg (by decide), if_neg (by decide), if_neg (by decide), if_neg (by omega)]
 have he : execS p B S x = (goonS S x (S.n x.s.toNat) (S.n x.t.toNat), B, -1) := by
  unfold execS
  rw [href, hact]
  simp
 have htk : takenB x (R x.s.toNat) (R x.t.toNat) = brT x (R x.s.toNat) (R x.t.toNat) := by
  unfold takenB brT
  rw [if_neg (by omega)]
  rcases hk with e | e
  ·rw [if_pos e, if_pos e]
  ·rw [if_neg (by omega), if_pos e, if_neg (by omega)]
 refine ⟨_, he, ⟨fun q => (by rw [hcl] at q; cases q), fun q => (by rw [hcl] at q; cases q), fun q => (by omega), fun q => (by omega)⟩, ?_⟩
 have eG := h.go ht
 have okN : (goonS S x (S.n x.s.toNat) (S.n x.t.toNat)).ok := by
  unfold goonS
  rw [if_neg (by omega)]
  exact lineS_ok (onS_ok (goS_ok h.ok 1) hfx (h.ok.1 _ (by have := hfx.s1; omega))) false
 -- the State that is left
 have eS : goonS S x (S.n x.s.toNat) (S.n x.t.toNat) = (((((S.putN 72 (t + 1 : Nat)).putN 48 (t + 1 : Nat)).putN 34 nx).putN 35 (if brT x (R x.s.toNat) (R x.t.toNat) = true then targetB x pc (R x.s.toNat) else IntKind.wrap .u32 (nx + 4))).putP 36 true).putN 52 0 := by
  unfold goonS onS
  have n8 : x.k ≠ 8 := by omega
  rw [if_neg (by omega), eG, hs, htt, htk, hcl, if_neg n8]
  have e35 : ((S.putN 72 (t + 1 : Nat)).putN 48 (t + 1 : Nat)).n 35 = nx := by
   rw [putN_other _ _ (by decide), putN_other _ _ (by decide)]; exact h.nx
  have e34 : ((S.putN 72 (t + 1 : Nat)).putN 48 (t + 1 : Nat)).n 34 = pc := by
   rw [putN_other _ _ (by decide), putN_other _ _ (by decide)]; exact h.pc
  rw [e35, e34]
  unfold lineS
  rw [if_neg (by simp)]
  cases brT x (R x.s.toNat) (R x.t.toNat) with
  | true =>
   rw [if_pos rfl, if_pos rfl, St.putNN]
   have e52 : (((((S.putN 72 (t + 1 : Nat)).putN 48 (t + 1 : Nat)).putN 34 nx).putN 35 (targetB x pc (R x.s.toNat))).putP 36 ((3 : Int) == 3)).n 52 = 0 := by
    show ((((S.putN 72 (t + 1 : Nat)).putN 48 (t + 1 : Nat)).putN 34 nx).putN 35 (targetB x pc (R x.s.toNat))).n 52 = 0
    rw [putN_other _ _ (by decide), putN_other _ _ (by decide), putN_other _ _ (by decide), putN_other _ _ (by decide)]; exact h.cs
   rw [e52, not0l]; rfl
  | false =>
   rw [if_neg (by simp), if_neg (by simp)]
   have e52 : (((((S.putN 72 (t + 1 : Nat)).putN 48 (t + 1 : Nat)).putN 34 nx).putN 35 (IntKind.wrap .u32 (nx + 4))).putP 36 ((3 : Int) == 3)).n 52 = 0 := by
    show ((((S.putN 72 (t + 1 : Nat)).putN 48 (t + 1 : Nat)).putN 34 nx).putN 35 (IntKind.wrap .u32 (nx + 4))).n 52 = 0
    rw [putN_other _ _ (by decide), putN_other _ _ (by decide), putN_other _ _ (by decide), putN_other _ _ (by decide)]; exact h.cs
   rw [e52, not0l]; rfl
 rw [eS] at okN ⊢
 generalize hv : (if brT x (R x.s.toNat) (R x.t.toNat) = true then targetB x pc (R x.s.toNat) else IntKind.wrap .u32 (nx + 4)) = v at okN ⊢
 have hn : ∀ i, i ≠ 52 → i ≠ 35 → i ≠ 34 → i ≠ 48 → i ≠ 72 → ((((((S.putN 72 (t + 1 : Nat)).putN 48 (t + 1 : Nat)).putN 34 nx).putN 35 v).putP 36 true).putN 52 0).n i = S.n i := fun i h1 h2 h3 h4 h5 => by
  rw [putN_other _ _ h1]
  show ((((S.putN 72 (t + 1 : Nat)).putN 48 (t + 1 : Nat)).putN 34 nx).putN 35 v).n i = S.n i
  rw [putN_other _ _ h2, putN_other _ _ h3, putN_other _ _ h4, putN_other _ _ h5]
 refine ⟨okN, fun i hi => (hn i (by omega) (by omega) (by omega) (by omega) (by omega)).trans (h.reg i hi), h.r0, ?_, ?_, rfl, h.w, (hn 51 (by decide) (by decide) (by decide) (by decide) (by decide)).trans h.st, putN_same _ _ _, (hn 50 (by decide) (by decide) (by decide) (by decide) (by decide)).trans h.cm, ?_, ?_⟩
 ·rw [putN_other _ _ (by decide)]
  show ((((S.putN 72 (t + 1 : Nat)).putN 48 (t + 1 : Nat)).putN 34 nx).putN 35 v).n 34 = nx
  rw [putN_other _ _ (by decide), putN_same]
 ·rw [putN_other _ _ (by decide)]
  show ((((S.putN 72 (t + 1 : Nat)).putN 48 (t + 1 : Nat)).putN 34 nx).putN 35 v).n 35 = v
  rw [putN_same]
 ·rw [putN_other _ _ (by decide)]
  show ((((S.putN 72 (t + 1 : Nat)).putN 48 (t + 1 : Nat)).putN 34 nx).putN 35 v).n 48 = _
  rw [putN_other _ _ (by decide), putN_other _ _ (by decide), putN_same]
 ·rw [putN_other _ _ (by decide)]
  show ((((S.putN 72 (t + 1 : Nat)).putN 48 (t + 1 : Nat)).putN 34 nx).putN 35 v).n 72 = _
  rw [putN_other _ _ (by decide), putN_other _ _ (by decide), putN_other _ _ (by decide), putN_same]
end
end Go.Proofs.YtkiggdgphbkneaaGreat.Am
namespace Go.Proofs.YtkiggdgphbkneaaGreat.Am
set_option linter.unusedVariables false
set_option linter.unusedSimpArgs false
set_option maxRecDepth 100000
theorem lui_ok {t v : Int} (t0 : 0 ≤ t) (t1 : t < 32) (hv : isU v) : inOk ⟨53, 0, t, 0, 0, v / 65536⟩ = true ∧ plainS ⟨53, 0, t, 0, 0, v / 65536⟩ = true := by
 obtain ⟨v0, v1⟩ := hv
 have i0 : 0 ≤ v / 65536 := by omega
 have i1 : v / 65536 ≤ 65535 := by omega
 have f2 : hasM (fl 53) 2 = true := by decide +kernel
 have fm : most (fl 53) = 65535 := by decide +kernel
 have ok : OK ⟨53, 0, t, 0, 0, v / 65536⟩ := by
  refine ⟨by show (0 : Int) < 53; decide, by show (53 : Int) < 78; decide, Int.le_refl 0, by show (0 : Int) < 32; decide, fun _ => rfl, t0, t1, fun h => ?_, Int.le_refl 0, by show (0 : Int) < 32; decide, fun _ => rfl, Int.le_refl 0, by show (0 : Int) < 32; decide, fun _ => rfl, i0, ?_⟩
  ·have h : hasM (fl 53) 2 = false := h
   rw [f2] at h; cases h
  ·show v / 65536 ≤ most (fl 53)
   rw [fm]; exact i1
 have r := (right_iff _ i0).2 ok
 have p : plainS ⟨53, 0, t, 0, 0, v / 65536⟩ = true := by
  unfold plainS; rw [r]; rfl
 refine ⟨?_, p⟩
 unfold inOk
 rw [r, decide_eq_true i0, ops_53 p rfl]; rfl
theorem rti_ok {k t s v : Int} (hk : k = 47 ∨ k = 49 ∨ k = 50 ∨ k = 51) (t0 : 0 ≤ t) (t1 : t < 32) (s0 : 0 ≤ s) (s1 : s < 32) : inOk (rtiS k t s v) = true ∧ plainS (rtiS k t s v) = true := by
 have i0 : 0 ≤ v % 65536 := by omega
 have i1 : v % 65536 ≤ 65535 := by omega
 have ok : OK (rtiS k t s v) := by
  have fk : fl k = 19 := by rcases hk with rfl | rfl | rfl | rfl <;> decide +kernel
  have h1 : hasM 19 1 = true := by decide +kernel
  have h2 : hasM 19 2 = true := by decide +kernel
  have hm : most 19 = 65535 := by decide +kernel
  refine ⟨?_, ?_, s0, s1, fun h => ?_, t0, t1, fun h => ?_, Int.le_refl 0, by show (0 : Int) < 32; decide, fun _ => rfl, Int.le_refl 0, by show (0 : Int) < 32; decide, fun _ => rfl, i0, ?_⟩
  ·show 0 < k; omega
  ·show k < 78; omega
  ·have h : hasM (fl k) 1 = false := h
   rw [fk, h1] at h; cases h
  ·have h : hasM (fl k) 2 = false := h
   rw [fk, h2] at h; cases h
  ·show v % 65536 ≤ most (fl k)
   rw [fk, hm]; exact i1
 have r := (right_iff _ i0).2 ok
 have p : plainS (rtiS k t s v) = true := by
  unfold plainS; rw [r]
  show (classS k == 1) = true
  rcases hk with rfl | rfl | rfl | rfl <;> decide
 refine ⟨?_, p⟩
 unfold inOk
 rw [r, decide_eq_true (show 0 ≤ (rtiS k t s v).i from i0), ops_im p (by show 47 ≤ k ∧ k ≤ 52; omega)]
 show (kdS 1 && (kdS (kindL k) && true)) = true
 rcases hk with rfl | rfl | rfl | rfl <;> decide
end Go.Proofs.YtkiggdgphbkneaaGreat.Am
namespace Go.Proofs.YtkiggdgphbkneaaGreat.Am
set_option linter.unusedVariables false
set_option linter.unusedSimpArgs false
set_option maxRecDepth 100000
def pcI (i : Nat) : Int := 2147484672 + 4 * (i : Int)
def insI (l : List In) (i : Nat) : In := if i < l.length then atI l i else nopS
theorem C1_at {i : Nat} (hi : i < 700) : C1 ((1024 + 4 * (i : Int)) / 1024).toNat = true := by
 unfold C1
 have : ((1024 + 4 * (i : Int)) / 1024).toNat = 1 ∨ ((1024 + 4 * (i : Int)) / 1024).toNat = 2 ∨ ((1024 + 4 * (i : Int)) / 1024).toNat = 3 := by omega
 rcases this with e | e | e <;> rw [e] <;> rfl
theorem pcI_eq (i : Nat) : pcI i = 2147483648 + (1024 + 4 * (i : Int)) := by unfold pcI; omega
theorem pcI_next (i : Nat) : IntKind.wrap .u32 (pcI i + 4) = pcI (i + 1) ∨ 100000000 < i := by
 unfold pcI
 by_cases c : i < 100000000
 ·left; rw [wrap32]; omega
 ·by_cases c2 : i = 100000000
  ·subst c2; left; rw [wrap32]; omega
  ·right; omega
section
variable {l : List In} {D : Dv} {S : St} {R : Nat → Int} {t i j : Nat}
theorem Q.brslot (hl : l.length ≤ 700) (ho : ∀ x ∈ l, inOk x = true) (hD : D.ev = []) (h : Q S R (pcI i) (pcI (i + 1)) false t) (ht : t < 900000) (hi : i + 1 < 700) (hf : fxB (insI l i) = true) (hk : (insI l i).k = 42 ∨ (insI l i).k = 43) (hf2 : fxB (insI l (i + 1)) = true) (hp2 : plainS (insI l (i + 1)) = true) (hz : (insI l (i + 1)).k = 1 → (insI l (i + 1)).d = 0)
  (hj : j < 700) (htg : (if brT (insI l i) (R (insI l i).s.toNat) (R (insI l i).t.toNat) = true then targetB (insI l i) (pcI i) (R (insI l i).s.toNat) else IntKind.wrap .u32 (pcI (i + 1) + 4)) = pcI j) :
  ∃ S1 S2, StepC C1 4 D S (progB l) S1 (progB l) ∧ StepC C1 4 D S1 (progB l) S2 (progB l) ∧ Q S1 R (pcI (i + 1)) (pcI j) true (t + 1) ∧ (∀ n, n < 34 → rg S1 n = R n) ∧ Q S2 (fun n => run18 (rg S1) (opsOf (insI l (i + 1))) n) (pcI j) (pcI (j + 1)) false (t + 2) := by
 obtain ⟨h1, h2⟩ := prog_in hl ho (i := i) (by omega)
 obtain ⟨g1, g2⟩ := prog_in hl ho (i := i + 1) (by omega)
 have h1 : ofS (wdB (progB l) (1024 + 4 * (i : Int)) 4) = insI l i := h1
 have h2 : inOk (insI l i) = true := h2
 have g1 : ofS (wdB (progB l) (1024 + 4 * ((i + 1 : Nat) : Int)) 4) = insI l (i + 1) := g1
 have g2 : inOk (insI l (i + 1)) = true := g2
 have hp := h
 obtain ⟨S1, e1, k1, q1⟩ := h.branch (p := 4) (B := progB l) (by omega) (fx_of hf) (inOk_p h2).1 hk
 rw [htg] at q1
 rw [pcI_eq] at hp
 have s1 := hp.stepX (C := C1) (D := D) hD (by omega) (by omega) (by omega) (by omega) h1 (fx_of hf) k1 (C1_at (by omega)) (prog_page hl ho (by omega)) e1 (fun _ _ => rfl) fun hc => by
  exfalso
  rcases hk with e | e <;> (rw [e] at hc; revert hc; decide)
 have q1' := q1
 rw [pcI_eq] at q1'
 obtain ⟨e2, k2⟩ := q1.slot (p := 4) (B := progB l) (fx_of hf2) hp2 hz
 have s2 := q1'.stepX (C := C1) (D := D) hD (by omega) (by omega) (by omega) (by omega) g1 (fx_of hf2) k2 (C1_at hi) (prog_page hl ho (by omega)) e2 (fun _ _ => rfl) fun hc => by
  have hcl : classS (insI l (i + 1)).k = 1 := by unfold plainS at hp2; simp at hp2; exact hp2.2
  rw [hcl] at hc; cases hc
 have q2 := q1.lift (by omega) (x := insI l (i + 1)) (inOk_p g2).2.1
 have en : IntKind.wrap .u32 (pcI j + 4) = pcI (j + 1) := (pcI_next j).resolve_right (by omega)
 rw [en] at q2
 exact ⟨S1, _, s1, s2, q1, fun n hn => rg_q q1 hn, q2⟩
end
end Go.Proofs.YtkiggdgphbkneaaGreat.Am
namespace Go.Proofs.YtkiggdgphbkneaaGreat.Am
set_option linter.unusedVariables false
set_option linter.unusedSimpArgs false
set_option maxRecDepth 100000
section
variable {l : List In} {D : Dv} {S : St} {R : Nat → Int} {t i j : Nat}
theorem nop_run (f : Nat → Int) {n : Nat} (hn : n < 34) : run18 f (opsOf nopS) n = f n := by
 have : opsOf nopS = [⟨1, 34, 0, 0, 0⟩, ⟨9, 0, 0, 34, 0⟩] := rfl
 rw [this]
 show one18 (one18 f ⟨1, 34, 0, 0, 0⟩) ⟨9, 0, 0, 34, 0⟩ n = f n
 have e2 : ∀ g : Nat → Int, one18 g ⟨9, 0, 0, 34, 0⟩ = g := fun g => rfl
 rw [e2, const_at, if_neg (by omega)]
theorem idle_tg (he : insI l i = ⟨42, 0, 0, 0, 0, 65535⟩) (hi : i < 700) : (if brT (insI l i) (R (insI l i).s.toNat) (R (insI l i).t.toNat) = true then targetB (insI l i) (pcI i) (R (insI l i).s.toNat) else IntKind.wrap .u32 (pcI (i + 1) + 4)) = pcI i := by
 have hb : brT (insI l i) (R (insI l i).s.toNat) (R (insI l i).t.toNat) = true := by rw [he]; unfold brT; simp
 rw [if_pos hb, he]
 unfold targetB
 rw [if_neg (by show ¬ ((42 : Int) = 7 ∨ (42 : Int) = 8); omega)]
 have e2 : sxV (65535 : Int) = 4294967295 := by unfold sxV; rw [if_neg (by omega)]; omega
 show IntKind.wrap .u32 (IntKind.wrap .u32 (pcI i + 4) + IntKind.wrap .u32 (sxV 65535 * 4)) = _
 rw [e2, wrap32, wrap32 (pcI i + 4), wrap32 (4294967295 * 4)]
 unfold pcI; omega
theorem idle_in (he : insI l i = ⟨42, 0, 0, 0, 0, 65535⟩) : fxB (insI l i) = true ∧ ((insI l i).k = 42 ∨ (insI l i).k = 43) := by
 rw [he]; exact ⟨by decide, .inl rfl⟩
theorem nop_in (he : insI l i = nopS) : fxB (insI l i) = true ∧ plainS (insI l i) = true ∧ ((insI l i).k = 1 → (insI l i).d = 0) := by
 rw [he]; exact ⟨by decide, by decide +kernel, fun _ => rfl⟩
theorem Q.idle (hl : l.length ≤ 700) (ho : ∀ x ∈ l, inOk x = true) (hD : D.ev = []) (hi : i + 1 < 700) (e1 : insI l i = ⟨42, 0, 0, 0, 0, 65535⟩) (e2 : insI l (i + 1) = nopS) : ∀ (f n t : Nat) (S : St) (R : Nat → Int), n < f → Q S R (pcI i) (pcI (i + 1)) false t → t + n < 900000 → ∃ S', Path C1 4 D n S (progB l) S' (progB l) ∧ ∀ k, k < 34 → S'.n k = R k := by
 intro f
 induction f with
 | zero => intro n t S R hf; omega
 | succ f ih =>
  intro n t S R hf h hn
  by_cases c0 : n = 0
  ·subst c0; exact ⟨S, .nil _ _, h.reg⟩
  obtain ⟨a1, a2⟩ := idle_in e1
  obtain ⟨b1, b2, b3⟩ := nop_in e2
  obtain ⟨S1, S2, s1, s2, q1, r1, q2⟩ := h.brslot hl ho hD (by omega) hi a1 a2 b1 b2 b3 (j := i) (by omega) (idle_tg e1 (by omega))
  by_cases c1 : n = 1
  ·subst c1; exact ⟨S1, .one s1, q1.reg⟩
  obtain ⟨n2, rfl⟩ : ∃ n2, n = n2 + 2 := ⟨n - 2, by omega⟩
  obtain ⟨S3, p3, r3⟩ := ih n2 (t + 2) S2 _ (by omega) q2 (by omega)
  refine ⟨S3, .cons s1 (.cons s2 p3), fun k hk => (r3 k hk).trans ?_⟩
  rw [e2, nop_run _ hk]; exact r1 k hk
end
end Go.Proofs.YtkiggdgphbkneaaGreat.Am
namespace Go.Proofs.YtkiggdgphbkneaaGreat.Am
set_option linter.unusedVariables false
set_option linter.unusedSimpArgs false
set_option maxRecDepth 100000
def gcdL (x y : Int) : List In := liS 1 x ++ (liS 2 y ++ ([⟨21, 1, 2, 0, 0, 0⟩, rrrS 23 1 2 0, ⟨14, 0, 0, 2, 0, 0⟩] ++ (backS 43 2 0 3 ++ backS 42 0 0 0)))
theorem gcd_ok {x y : Int} (hx : isU x) (hy : isU y) : ∀ z ∈ gcdL x y, inOk z = true := by
 intro z hz
 simp only [gcdL, liS, backS, List.cons_append, List.nil_append, List.mem_cons, List.not_mem_nil, or_false] at hz
 rcases hz with rfl | rfl | rfl | rfl | rfl | rfl | rfl | rfl | rfl | rfl | rfl
 ·exact (lui_ok (by decide) (by decide) hx).1
 ·exact (rti_ok (by simp) (by decide) (by decide) (by decide) (by decide)).1
 ·exact (lui_ok (by decide) (by decide) hy).1
 ·exact (rti_ok (by simp) (by decide) (by decide) (by decide) (by decide)).1
 all_goals decide +kernel
theorem divu_run (f : Nat → Int) : run18 f (opsOf ⟨21, 1, 2, 0, 0, 0⟩) = upd (upd f 33 (divV (f 1) (f 2) false).1) 32 (divV (f 1) (f 2) false).2 := by
 have p : plainS ⟨21, 1, 2, 0, 0, 0⟩ = true := by decide +kernel
 rw [ops_re p (.inr (.inr (.inl (by decide))))]; rfl
theorem addu_run (f : Nat → Int) : run18 f (opsOf (rrrS 23 1 2 0)) = upd f 1 (IntKind.wrap .u32 (f 2 + f 0)) := by
 have p : plainS (rrrS 23 1 2 0) = true := by decide +kernel
 rw [ops_re p (.inr (.inr (.inl (by decide))))]; rfl
theorem mfhi_run (f : Nat → Int) : run18 f (opsOf ⟨14, 0, 0, 2, 0, 0⟩) = upd f 2 (f 32) := by
 have p : plainS ⟨14, 0, 0, 2, 0, 0⟩ = true := by decide +kernel
 rw [ops_14 p rfl]; rfl
section
variable {l : List In} {D : Dv} {S : St} {R : Nat → Int} {t i : Nat}
theorem Q.progI (hl : l.length ≤ 700) (ho : ∀ x ∈ l, inOk x = true) (hD : D.ev = []) (h : Q S R (pcI i) (pcI (i + 1)) false t) (ht : t < 900000) (hi : i < 700) {x : In} (hx : insI l i = x) (hpl : plainS x = true) :
  ∃ S', StepC C1 4 D S (progB l) S' (progB l) ∧ Q S' (fun j => run18 (rg S) (opsOf x) j) (pcI (i + 1)) (pcI (i + 2)) false (t + 1) := by
 have := Q.prog hl ho hD h (by omega) hi (by show plainS (insI l i) = true; rw [hx]; exact hpl)
 have e : (if i < l.length then atI l i else nopS) = x := hx
 rw [e] at this
 exact this
end
theorem divV_u0 {a b : Int} (ha : isU a) (hb : isU b) (h0 : b ≠ 0) : divV a b false = (a / b, a % b) := by
 unfold divV
 rw [if_neg h0, wideF ha, wideF hb, Int.tdiv_eq_ediv_of_nonneg ha.1, tmod_nn ha.1]
 have h1 : 0 ≤ a / b := Int.ediv_nonneg ha.1 hb.1
 have h2 : a / b ≤ a := Int.ediv_le_self _ ha.1
 have h3 : 0 ≤ a % b := Int.emod_nonneg _ h0
 have h4 : a % b < b := Int.emod_lt_of_pos _ (by have := hb.1; omega)
 obtain ⟨a0, a1⟩ := ha
 obtain ⟨b0, b1⟩ := hb
 rw [wrap64 (n := a / b) (by omega) (by omega), wrap32 (a / b), wrap32 (a % b), Int.emod_eq_of_lt h1 (by omega), Int.emod_eq_of_lt h3 (by omega)]
theorem gcd_round {x y a b : Int} {D : Dv} (hD : D.ev = []) (hx : isU x) (hy : isU y) {S : St} {R : Nat → Int} {t : Nat} (h : Q S R (pcI 4) (pcI 5) false t) (ht : t < 800000) (r1 : R 1 = a) (r2 : R 2 = b) (ha : isU a) (hb : isU b) (h0 : b ≠ 0) :
  ∃ S' R' j, Path C1 4 D 5 S (progB (gcdL x y)) S' (progB (gcdL x y)) ∧ Q S' R' (pcI j) (pcI (j + 1)) false (t + 5) ∧ R' 1 = b ∧ R' 2 = a % b ∧ j = (if a % b ≠ 0 then 4 else 9) := by
 have hl : (gcdL x y).length ≤ 700 := by show (11 : Nat) ≤ 700; decide
 have ho := gcd_ok hx hy
 obtain ⟨S1, s1, q1⟩ := h.progI hl ho hD (by omega) (by decide) (x := ⟨21, 1, 2, 0, 0, 0⟩) rfl (by decide +kernel)
 obtain ⟨S2, s2, q2⟩ := q1.progI hl ho hD (by omega) (by decide) (x := rrrS 23 1 2 0) rfl (by decide +kernel)
 obtain ⟨S3, s3, q3⟩ := q2.progI hl ho hD (by omega) (by decide) (x := ⟨14, 0, 0, 2, 0, 0⟩) rfl (by decide +kernel)
 have g1 : ∀ n, n < 34 → rg S1 n = upd (upd (rg S) 33 (a / b)) 32 (a % b) n := fun n hn => by
  rw [rg_q q1 hn, divu_run, rg_q h (i := 1) (by decide), rg_q h (i := 2) (by decide), r1, r2, divV_u0 ha hb h0]
 have e12 : rg S1 2 = b := by rw [g1 2 (by decide)]; show rg S 2 = b; rw [rg_q h (by decide), r2]
 have e10 : rg S1 0 = 0 := by rw [g1 0 (by decide)]; show rg S 0 = 0; rw [rg_q h (by decide), h.r0]
 have e132 : rg S1 32 = a % b := by rw [g1 32 (by decide)]; rfl
 have g2 : ∀ n, n < 34 → rg S2 n = upd (rg S1) 1 b n := fun n hn => by
  rw [rg_q q2 hn, addu_run, e12, e10, Int.add_zero, wrapU hb]
 have e232 : rg S2 32 = a % b := by rw [g2 32 (by decide)]; exact e132
 have g3 : ∀ n, n < 34 → rg S3 n = upd (rg S2) 2 (a % b) n := fun n hn => by
  rw [rg_q q3 hn, mfhi_run, e232]
 have e31 : run18 (rg S2) (opsOf ⟨14, 0, 0, 2, 0, 0⟩) 1 = b := by
  rw [mfhi_run]; show rg S2 1 = b; rw [g2 1 (by decide)]; rfl
 have e32 : run18 (rg S2) (opsOf ⟨14, 0, 0, 2, 0, 0⟩) 2 = a % b := by
  rw [mfhi_run, e232]; rfl
 have e30 : run18 (rg S2) (opsOf ⟨14, 0, 0, 2, 0, 0⟩) 0 = 0 := q3.r0
 have eb : insI (gcdL x y) 7 = ⟨43, 2, 0, 0, 0, 65532⟩ := rfl
 have en : insI (gcdL x y) 8 = nopS := rfl
 have hbr : brT ⟨43, 2, 0, 0, 0, 65532⟩ (run18 (rg S2) (opsOf ⟨14, 0, 0, 2, 0, 0⟩) 2) (run18 (rg S2) (opsOf ⟨14, 0, 0, 2, 0, 0⟩) 0) = decide (a % b ≠ 0) := by
  rw [e32, e30]; unfold brT; rw [if_neg (by show ¬ (43 : Int) = 42; decide)]
  by_cases c : a % b = 0
  ·rw [c]; rfl
  ·rw [decide_eq_true c]; simp [c]
 obtain ⟨b1, b2, b3⟩ := nop_in en
 obtain ⟨S4, S5, s4, s5, q4, g4, q5⟩ := q3.brslot hl ho hD (by omega) (by decide) (i := 7) (by rw [eb]; decide) (by rw [eb]; exact .inr rfl) b1 b2 b3 (j := if a % b ≠ 0 then 4 else 9) (by split <;> decide) (by
  rw [eb]
  show (if brT ⟨43, 2, 0, 0, 0, 65532⟩ (run18 (rg S2) (opsOf ⟨14, 0, 0, 2, 0, 0⟩) 2) (run18 (rg S2) (opsOf ⟨14, 0, 0, 2, 0, 0⟩) 0) = true then targetB ⟨43, 2, 0, 0, 0, 65532⟩ (pcI 7) _ else IntKind.wrap .u32 (pcI 8 + 4)) = _
  rw [hbr]
  by_cases c : a % b = 0
  ·rw [if_neg (by simp [c]), if_neg (by simp [c])]; decide +kernel
  ·rw [if_pos (by simp [c]), if_pos c]
   show IntKind.wrap .u32 (IntKind.wrap .u32 (pcI 7 + 4) + IntKind.wrap .u32 (sxV 65532 * 4)) = pcI 4
   decide +kernel)
 refine ⟨S5, _, _, .cons s1 (.cons s2 (.cons s3 (.cons s4 (.one s5)))), q5, ?_, ?_, rfl⟩
 ·show run18 (rg S4) (opsOf (insI (gcdL x y) 8)) 1 = b
  rw [en, nop_run _ (by decide), g4 1 (by decide)]; exact e31
 ·show run18 (rg S4) (opsOf (insI (gcdL x y) 8)) 2 = a % b
  rw [en, nop_run _ (by decide), g4 2 (by decide)]; exact e32
end Go.Proofs.YtkiggdgphbkneaaGreat.Am
namespace Go.Proofs.YtkiggdgphbkneaaGreat.Am
set_option linter.unusedVariables false
set_option linter.unusedSimpArgs false
set_option maxRecDepth 100000
theorem gcd_loop {x y : Int} {D : Dv} (hD : D.ev = []) (hx : isU x) (hy : isU y) : ∀ (m a b : Nat), b < 2 ^ m → a < 4294967296 → b < 4294967296 → b ≠ 0 → ∀ {S : St} {R : Nat → Int} {t : Nat}, Q S R (pcI 4) (pcI 5) false t → t + 10 * m + 10 < 800000 → R 1 = a → R 2 = b →
  ∃ k S' R', k ≤ 2 * m ∧ Path C1 4 D (5 * k) S (progB (gcdL x y)) S' (progB (gcdL x y)) ∧ Q S' R' (pcI 9) (pcI 10) false (t + 5 * k) ∧ R' 1 = (Nat.gcd b a : Nat) ∧ R' 2 = 0 := by
 intro m
 induction m with
 | zero => intro a b hb _ _ h0; omega
 | succ m ih =>
  intro a b hb ha32 hb32 h0 S R t h ht r1 r2
  obtain ⟨S1, R1, j1, p1, q1, a1, b1, e1⟩ := gcd_round hD hx hy h (by omega) r1 r2 ⟨by omega, by omega⟩ ⟨by omega, by omega⟩ (by omega)
  have em : (a : Int) % (b : Int) = ((a % b : Nat) : Int) := (Int.natCast_emod a b).symm
  rw [em] at b1 e1
  have g1 : Nat.gcd b a = Nat.gcd (a % b) b := Nat.gcd_rec b a
  have l1 : a % b < b := Nat.mod_lt _ (by omega)
  by_cases c1 : a % b = 0
  ·rw [c1] at e1 b1 g1
   have e1 : j1 = 9 := by rw [e1]; rfl
   subst e1
   exact ⟨1, S1, R1, by omega, p1, q1, by rw [a1, g1, Nat.gcd_zero_left], by rw [b1]; rfl⟩
  have e1 : j1 = 4 := by rw [e1, if_pos (by omega)]
  subst e1
  obtain ⟨S2, R2, j2, p2, q2, a2, b2, e2⟩ := gcd_round hD hx hy q1 (by omega) a1 b1 ⟨by omega, by omega⟩ ⟨by omega, by omega⟩ (by omega)
  have em2 : (b : Int) % ((a % b : Nat) : Int) = ((b % (a % b) : Nat) : Int) := (Int.natCast_emod b (a % b)).symm
  rw [em2] at b2 e2
  have g2 : Nat.gcd (a % b) b = Nat.gcd (b % (a % b)) (a % b) := Nat.gcd_rec _ _
  have l2 : b % (a % b) < a % b := Nat.mod_lt _ (by omega)
  by_cases c2 : b % (a % b) = 0
  ·rw [c2] at e2 b2 g2
   have e2 : j2 = 9 := by rw [e2]; rfl
   subst e2
   exact ⟨2, S2, R2, by omega, p1.trans p2, q2, by rw [a2, g1, g2, Nat.gcd_zero_left], by rw [b2]; rfl⟩
  have e2 : j2 = 4 := by rw [e2, if_pos (by omega)]
  subst e2
  have half : b % (a % b) < 2 ^ m := by
   have hp : 2 ^ (m + 1) = 2 * 2 ^ m := by rw [Nat.pow_succ]; omega
   have hd := Nat.div_add_mod b (a % b)
   have hq : 1 ≤ b / (a % b) := Nat.div_pos (by omega) (by omega)
   have : (a % b) * 1 ≤ (a % b) * (b / (a % b)) := Nat.mul_le_mul_left _ hq
   omega
  obtain ⟨k, S3, R3, hk, p3, q3, a3, b3⟩ := ih (a % b) (b % (a % b)) half (by omega) (by omega) c2 q2 (by omega) a2 b2
  refine ⟨k + 2, S3, R3, by omega, ?_, ?_, by rw [a3, g1, g2], b3⟩
  ·have := (p1.trans p2).trans p3
   rw [show 5 * (k + 2) = 5 + 5 + 5 * k by omega]; exact this
  ·rw [show t + 5 * (k + 2) = t + 5 + 5 + 5 * k by omega]; exact q3
end Go.Proofs.YtkiggdgphbkneaaGreat.Am
namespace Go.Proofs.YtkiggdgphbkneaaGreat.Am
set_option linter.unusedVariables false
set_option linter.unusedSimpArgs false
set_option maxRecDepth 100000
theorem or_half {h l : Int} (h0 : 0 ≤ h) (h1 : h < 65536) (l0 : 0 ≤ l) (l1 : l < 65536) : bits .or .u32 (h * 65536) l = h * 65536 + l := by
 have e := orI_nat (x := h * 65536) (y := l) ⟨by omega, by omega⟩ ⟨l0, by omega⟩
 unfold orI at e
 rw [e]
 have e1 : (h * 65536).toNat = 2 ^ 16 * h.toNat := by omega
 have e2 : l.toNat < 2 ^ 16 := by omega
 rw [e1, ← Nat.two_pow_add_eq_or_of_lt e2]
 omega
theorem lui_run (f : Nat → Int) {t v : Int} (t0 : 0 < t) (t1 : t < 32) (hv : isU v) : run18 f (opsOf ⟨53, 0, t, 0, 0, v / 65536⟩) = upd f t.toNat (v / 65536 * 65536) := by
 obtain ⟨_, p⟩ := lui_ok (t := t) (by omega) t1 hv
 obtain ⟨v0, v1⟩ := hv
 rw [ops_53 p rfl]
 show one18 f ⟨1, t, 0, 0, IntKind.wrap .u32 (v / 65536 * 65536)⟩ = _
 rw [wrap32, Int.emod_eq_of_lt (by omega) (by omega)]
 show (if t > 0 then upd f t.toNat (v / 65536 * 65536) else f) = _
 rw [if_pos t0]
theorem ori_run (f : Nat → Int) {t v : Int} (t0 : 0 < t) (t1 : t < 32) (hv : isU v) (hf : f t.toNat = v / 65536 * 65536) {n : Nat} (hn : n < 34) : run18 f (opsOf (rtiS 51 t t v)) n = upd f t.toNat v n := by
 obtain ⟨_, p⟩ := rti_ok (k := 51) (t := t) (s := t) (v := v) (by simp) (by omega) t1 (by omega) t1
 obtain ⟨v0, v1⟩ := hv
 rw [ops_im p (by show (47 : Int) ≤ 51 ∧ (51 : Int) ≤ 52; decide)]
 rw [two_put (by show (1 : Int) ≤ kindL 51; decide) (by show kindL 51 ≤ (16 : Int); decide) (by show t.toNat < 34; omega) rfl hn]
 show (if 0 < t then upd f t.toNat (bits .or .u32 (f t.toNat) (v % 65536)) else f) n = _
 rw [if_pos t0, hf, or_half (by omega) (by omega) (by omega) (by omega)]
 congr 1
 omega
theorem gcd_path {D : Dv} (hD : D.ev = []) {a b : Nat} (ha : 1 ≤ a ∧ a ≤ 100000) (hb : 1 ≤ b ∧ b ≤ 100000) : ∃ S', Path C1 4 D 400 St0 (progB (gcdL a b)) S' (progB (gcdL a b)) ∧ S'.n 1 = (Nat.gcd b a : Nat) ∧ S'.n 2 = 0 := by
 have hx : isU (a : Int) := ⟨by omega, by omega⟩
 have hy : isU (b : Int) := ⟨by omega, by omega⟩
 have hl : (gcdL (a : Int) b).length ≤ 700 := by show (11 : Nat) ≤ 700; decide
 have ho := gcd_ok hx hy
 have q0 : Q St0 (fun _ => 0) (pcI 0) (pcI 1) false 0 := Q0
 obtain ⟨S1, s1, q1⟩ := q0.progI hl ho hD (by omega) (by decide) (x := ⟨53, 0, 1, 0, 0, (a : Int) / 65536⟩) rfl (lui_ok (by decide) (by decide) hx).2
 obtain ⟨S2, s2, q2⟩ := q1.progI hl ho hD (by omega) (by decide) (x := rtiS 51 1 1 a) rfl (rti_ok (by simp) (by decide) (by decide) (by decide) (by decide)).2
 obtain ⟨S3, s3, q3⟩ := q2.progI hl ho hD (by omega) (by decide) (x := ⟨53, 0, 2, 0, 0, (b : Int) / 65536⟩) rfl (lui_ok (by decide) (by decide) hy).2
 obtain ⟨S4, s4, q4⟩ := q3.progI hl ho hD (by omega) (by decide) (x := rtiS 51 2 2 b) rfl (rti_ok (by simp) (by decide) (by decide) (by decide) (by decide)).2
 have g1 : rg S1 1 = (a : Int) / 65536 * 65536 := by rw [rg_q q1 (by decide), lui_run _ (by decide) (by decide) hx]; rfl
 have g2 : rg S2 1 = a := by rw [rg_q q2 (by decide), ori_run _ (by decide) (by decide) hx g1 (by decide)]; rfl
 have g3 : rg S3 1 = a := by rw [rg_q q3 (by decide), lui_run _ (by decide) (by decide) hy]; exact g2
 have g32 : rg S3 2 = (b : Int) / 65536 * 65536 := by rw [rg_q q3 (by decide), lui_run _ (by decide) (by decide) hy]; rfl
 have e1 : run18 (rg S3) (opsOf (rtiS 51 2 2 b)) 1 = (a : Int) := by rw [ori_run _ (by decide) (by decide) hy g32 (by decide)]; exact g3
 have e2 : run18 (rg S3) (opsOf (rtiS 51 2 2 b)) 2 = (b : Int) := by rw [ori_run _ (by decide) (by decide) hy g32 (by decide)]; rfl
 obtain ⟨k, S5, R5, hk, p5, q5, a5, b5⟩ := gcd_loop hD hx hy 17 a b (by omega) (by omega) (by omega) (by omega) q4 (by omega) e1 e2
 obtain ⟨S6, p6, r6⟩ := Q.idle hl ho hD (i := 9) (by decide) rfl rfl (400 - (4 + 5 * k) + 1) (400 - (4 + 5 * k)) _ S5 R5 (by omega) q5 (by omega)
 refine ⟨S6, ?_, (r6 1 (by decide)).trans a5, (r6 2 (by decide)).trans b5⟩
 have p4 : Path C1 4 D 4 St0 (progB (gcdL a b)) S4 (progB (gcdL a b)) := .cons s1 (.cons s2 (.cons s3 (.one s4)))
 have := (p4.trans p5).trans p6
 rw [show 4 + 5 * k + (400 - (4 + 5 * k)) = 400 by omega] at this
 exact this
end Go.Proofs.YtkiggdgphbkneaaGreat.Am
namespace Go.Proofs.YtkiggdgphbkneaaGreat.Am
set_option linter.unusedVariables false
set_option linter.unusedSimpArgs false
set_option maxRecDepth 100000
section
variable {m : Mem}
theorem gl_loop {v : AV} {k0 : Int → Mem → Prop} : ∀ (f a b : Nat), b < f → k0 (Nat.gcd b a : Nat) m → L12_7 v f a b m k0 := by
 intro f
 induction f with
 | zero => intro a b h; omega
 | succ f ih =>
  intro a b h hk
  show R12_7 _ _ _ _ _ _
  unfold R12_7
  by_cases c : b = 0
  ·subst c
   rw [Nat.gcd_zero_left] at hk
   exact kif_f rfl hk
  ·refine kif_t (by simp; omega) (kif_f (by simp; omega) ?_)
   rw [tmod_nn (by omega), ← Int.natCast_emod]
   exact ih b (a % b) (by have := Nat.mod_lt a (show 0 < b by omega); omega) (by rw [← Nat.gcd_rec]; exact hk)
theorem three_row {b : Nat} {z c1 c2 c3 : Nat → AV} {t : TypeId} {x y w : In} {m' : Mem} (e : m'.obj b = some ⟨18, splice (splice (splice z 0 6 c1) 6 6 c2) 12 6 c3, t, false⟩) (hx : InC c1 x) (hy : InC c2 y) (hw : InC c3 w) : IsIn m' (.sl b 0 3 (.ex 3)) [x, y, w] := by
 refine IsIn.row (l := [x, y, w]) e rfl rfl fun i hi => ?_
 have : i = 0 ∨ i = 1 ∨ i = 2 := by simp at hi; omega
 rcases this with rfl | rfl | rfl
 ·refine InC.congr (c := c1) hx fun j hj => ?_
  show splice (splice (splice z 0 6 c1) 6 6 c2) 12 6 c3 (0 * 6 + j) = _
  unfold splice; rw [if_neg (by omega), if_neg (by omega), if_pos (by omega)]; congr 1; omega
 ·refine InC.congr (c := c2) hy fun j hj => ?_
  show splice (splice (splice z 0 6 c1) 6 6 c2) 12 6 c3 (1 * 6 + j) = _
  unfold splice; rw [if_neg (by omega), if_pos (by omega)]; congr 1; omega
 ·refine InC.congr (c := c3) hw fun j hj => ?_
  show splice (splice (splice z 0 6 c1) 6 6 c2) 12 6 c3 (2 * 6 + j) = _
  unfold splice; rw [if_pos (by omega)]; congr 1; omega
theorem TopGcds {x0 x1 x2 x3 : Int} (h0 : isU x0) (h1 : isU x1) {k : Bool → Mem → Prop} (hk : ∀ m', k true m') : F12 x0 x1 x2 x3 m k := by
 unfold F12
 obtain ⟨a, ea⟩ : ∃ a : Nat, IntKind.wrap .u32 (x0.tmod 100000 + 1) = a ∧ 1 ≤ a ∧ a ≤ 100000 := ⟨(x0 % 100000 + 1).toNat, by
  obtain ⟨p, q⟩ := h0
  rw [tmod_nn p, wrap32]; omega⟩
 obtain ⟨b, eb⟩ : ∃ b : Nat, IntKind.wrap .u32 (x1.tmod 100000 + 1) = b ∧ 1 ≤ b ∧ b ≤ 100000 := ⟨(x1 % 100000 + 1).toNat, by
  obtain ⟨p, q⟩ := h1
  rw [tmod_nn p, wrap32]; omega⟩
 obtain ⟨ea, ha⟩ := ea
 obtain ⟨eb, hb⟩ := eb
 rw [ea, eb]
 have ua : isU (a : Int) := ⟨by omega, by omega⟩
 have ub : isU (b : Int) := ⟨by omega, by omega⟩
 refine li_spec ua fun b1 m2 _ K2 i2 => li_spec ub fun b3 m4 _ K4 i4 => rrr_spec fun c5 h5 => newK_i fun b8 m7 hb8 K7 e7 O7 => ?_
 have i7 : IsIn m7 (.sl b8 0 3 (.ex 3)) [⟨21, 1, 2, 0, 0, 0⟩, rrrS 23 1 2 0, ⟨14, 0, 0, 2, 0, 0⟩] := three_row e7 ⟨rfl, rfl, rfl, rfl, rfl, rfl⟩ h5 ⟨rfl, rfl, rfl, rfl, rfl, rfl⟩
 refine back_spec (by decide) (by decide) fun b9 m10 _ K10 i10 => idle_spec fun b11 m12 _ K12 i12 => ?_
 refine kif_t rfl (kif_t rfl (kif_t rfl (kif_t rfl (newK_i fun b14 m13 hb14 K13 e13 O13 => ?_))))
 have rows : Rows m13 b14 [.sl b1 0 2 (.ex 2), .sl b3 0 2 (.ex 2), .sl b8 0 3 (.ex 3), .sl b9 0 2 (.ex 2), .sl b11 0 2 (.ex 2)] [liS 1 a, liS 2 b, [⟨21, 1, 2, 0, 0, 0⟩, rrrS 23 1 2 0, ⟨14, 0, 0, 2, 0, 0⟩], backS 43 2 0 3, backS 42 0 0 0] := by
  refine ⟨⟨_, e13, rfl, fun i hi => ?_⟩, rfl, fun i hi => ?_⟩
  ·have : i = 0 ∨ i = 1 ∨ i = 2 ∨ i = 3 ∨ i = 4 := by simp at hi; omega
   rcases this with rfl | rfl | rfl | rfl | rfl <;> rfl
  ·have : i = 0 ∨ i = 1 ∨ i = 2 ∨ i = 3 ∨ i = 4 := by simp at hi; omega
   rcases this with rfl | rfl | rfl | rfl | rfl
   ·exact ((((i2.keep K4).keep K7).keep K10).keep K12).keep K13
   ·exact (((i4.keep K7).keep K10).keep K12).keep K13
   ·exact ((i7.keep K10).keep K12).keep K13
   ·exact (i10.keep K12).keep K13
   ·exact i12.keep K13
 refine join_spec rows (by show (5 : Nat) ≤ 20; decide) (fun l hl => ?_) fun v15 m16 i16 K16 o16 => ?_
 ·simp only [List.mem_cons, List.not_mem_nil, or_false] at hl
  rcases hl with rfl | rfl | rfl | rfl | rfl <;> (show _ ≤ (100 : Nat)) <;> simp [liS, backS]
 have ef : [liS 1 (a : Int), liS 2 (b : Int), [⟨21, 1, 2, 0, 0, 0⟩, rrrS 23 1 2 0, ⟨14, 0, 0, 2, 0, 0⟩], backS 43 2 0 3, backS 42 0 0 0].flatten = gcdL a b := rfl
 rw [ef] at i16
 refine code_spec i16 (by show (11 : Nat) ≤ 1000; decide) (fun x hx => (inOk_p (gcd_ok ua ub x hx)).2.1) fun v17 m18 L18 K18 o18 => ?_
 refine machine_spec L18.r (fun i => byOf_rng _ i) (by show (11 : Nat) * 4 ≤ 3072; decide) (v2 := .flat (.slice none 0 0)) (nd := 0) (fd := fun _ => 0) (.nil none _) (fun i hi => by omega) (by omega) C1 fun m1 e q c m20 K20 A20 => ?_
 have nl : ∀ (b o : Nat) (K : Bool → Prop), knilP (.ptr b o) K = K false := fun _ _ _ => rfl
 rw [nl]
 refine kif_f rfl ?_
 dsimp only [kptr]
 obtain ⟨S', p', r1, r2⟩ := gcd_path (D := { nd := (0 + 63) / 64 * 64, dk := imgB 0 fun _ => 0 }) rfl ha hb
 refine AtF.top (by decide) (by decide) p' A20 fun m24 A24 => ⟨b + 1, gl_loop (b + 1) a b (by omega) ?_⟩
 have cell : ∀ (cc : Nat → AV), (∀ i, i < 73 → cc i = stc S' i) → ∀ i, i < 32 → sub cc 0 32 i = vu (S'.n i) := fun cc hcc i hi => by
  unfold sub; rw [if_pos hi, Nat.zero_add, hcc i (by omega)]
  exact stc_u (isP3_lo (by omega)) (by omega)
 refine A24.state fun c30 h30 => ?_
 rw [cell c30 h30 1 (by decide), r1]
 refine kite_t rfl ?_
 refine A24.state fun c35 h35 => ?_
 rw [cell c35 h35 2 (by decide), r2]
 first
  | exact kite_t (c := IntKind.u32 = IntKind.u32) rfl (kif_t rfl (awake_spec hk))
  | exact awake_spec hk
  | exact kif_t rfl (awake_spec hk)
end
end Go.Proofs.YtkiggdgphbkneaaGreat.Am
namespace Go.Proofs.YtkiggdgphbkneaaGreat.Am
theorem TopGcds_law {m : Mem} {x0 x1 x2 x3 : Int} (h0 : (Lit.int .u32 x0).wf = true) (h1 : (Lit.int .u32 x1).wf = true) (_ : (Lit.int .i64 x2).wf = true) (_ : (Lit.int .i64 x3).wf = true) : F12 x0 x1 x2 x3 m isTrue :=
 TopGcds (wf_u32 h0) (wf_u32 h1) fun _ => rfl
end Go.Proofs.YtkiggdgphbkneaaGreat.Am
