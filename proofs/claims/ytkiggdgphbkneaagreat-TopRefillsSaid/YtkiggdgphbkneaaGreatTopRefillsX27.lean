/- The machine by blocks: so many steps. Conditions: a row of steps that is given ahead. Programs of the top laws put together: rows of instructions, their bytes. Conditions: instructions are plain data. A machine with a program: made, capped, run in parts, looke -/
import Derived.Test.YtkiggdgphbkneaaGreatTopRefillsX26
namespace Go.Proofs.YtkiggdgphbkneaaGreat.Am
set_option linter.unusedVariables false
set_option linter.unusedSimpArgs false
set_option maxRecDepth 100000
section
variable {m0 : Mem} {C : Nat → Bool} {e : Nat} {q : BB} {c : Nat} {p : Nat} {D : Dv} {wv : AV} {n : Int} {cap : Int}
variable {m : Mem} {S S' : St} {B B' : Nat → Int}
def AtE (m0 : Mem) (C : Nat → Bool) (e : Nat) (q : BB) (c p : Nat) (D : Dv) (wv : AV) (n cap : Int) (S : St) (B : Nat → Int) (m : Mem) : Prop :=
 ∃ l Sc made used, At m0 C e q c p D wv n cap l Sc made used S B m
theorem Run_k (hp : p ≤ 64) {X : Nat → St} {Y : Nat → Nat → Int} {N : Nat} (hN : N ≤ 1000000) (hX : ∀ g, g < N → StepC C p D (X g) (Y g) (X (g + 1)) (Y (g + 1))) (h : AtE m0 C e q c p D wv n cap (X 0) (Y 0) m)
  {k : Int → Int → Mem → Prop} (hk : ∀ m', AtE m0 C e q c p D wv n cap (X N) (Y N) m' → k 1 N m') : F25 e 0 N m k := by
 unfold F25
 rw [if_neg (by omega)]
 have loop : ∀ (f g : Nat) (m : Mem), g ≤ N → N - g < f → AtE m0 C e q c p D wv n cap (X g) (Y g) m → L25_3 e 0 N f g m (fun x48 m49 => k 1 x48 m49) (fun x50 x51 m52 => k x50 x51 m52) := by
  intro f
  induction f with
  | zero => intro g m h1 h2; omega
  | succ f ih =>
   intro g m hgN hgf hA
   show R25_3 _ _ _ _ _ _ _ _
   unfold R25_3
   by_cases hg : g < N
   rotate_left
   ·have : g = N := by omega
    subst this
    exact kif_f (by simp) (hk m hA)
   refine kif_t (by simpa using hg) ?_
   obtain ⟨l, Sc, made, used, hA⟩ := hA
   have sc := hX g hg
   refine At.sync hA fun m1 h1 F1 => ?_
   obtain ⟨S1, M1, u1, hn1, hp1, E1⟩ := id h1
   rw [show (0 : Nat) + 0 + 36 = 36 from rfl, ldB_st E1.h.mac.s (by omega) rfl, hp1]
   -- a step by itself
   have stepP : ∀ (mz : Mem) (lz : List (Key × Val)) (Sz : Nat → Prop) (kz uz : Int), At m0 C e q c p D wv n cap lz Sz kz uz (X g) (Y g) mz → (takenS (X g) = true ∨ (X g).p 36 = true ∨ ¬ ∃ a r, liesS (X g) ((X g).n 34) 4 false = (a, -1, r) ∧ a < p * 1024) → P25_9102 e 0 N g mz (fun x34 m35 => L25_3 e 0 N f x34 m35 (fun x48 m49 => k 1 x48 m49) (fun x50 x51 m52 => k x50 x51 m52)) (fun x36 x37 m38 => k x36 x37 m38) (fun x39 m40 => L25_3 e 0 N f x39 m40 (fun x48 m49 => k 1 x48 m49) (fun x50 x51 m52 => k x50 x51 m52)) := fun mz lz Sz kz uz hz why => by
    unfold P25_9102
    have hst := sc.st.resolve_right fun ⟨b1, b2, b3, _⟩ => by
     rcases why with w | w | w
     ·rw [w] at b1; cases b1
     ·rw [w] at b2; cases b2
     ·exact w b3
    obtain ⟨S2, M2, u2, hn2, hp2, E2⟩ := id hz
    have tl : ∀ k, ldA mz e (0 + 73) k = k (.ptr q.b 0) := fun k => by
     rw [show (0 : Nat) + 73 = 73 + 0 from rfl]
     exact tail_ld (j := 0) E2.h.mac.s E2.h.q0 E2.h.x0 rfl k
    rw [tl]
    dsimp only [kptr]
    refine At.step hz sc hst fun cd m2 hcd h2 => At.sync h2 fun m3 h3 F3 => kif_t (by simpa using hcd) ?_
    rw [wrap64 (n := (g : Int) + 1) (by omega) (by omega)]
    exact ih (g + 1) m3 (by omega) (by omega) ⟨_, _, _, _, h3⟩
   have noblock : ∀ (mz : Mem), At m0 C e q c p D wv n cap l Sc made used (X g) (Y g) mz → (takenS (X g) = true ∨ (X g).p 36 = true) → P25_6004 e 0 N g false mz (fun x14 m15 => L25_3 e 0 N f x14 m15 (fun x48 m49 => k 1 x48 m49) (fun x50 x51 m52 => k x50 x51 m52)) (fun x16 m17 => P25_9102 e 0 N x16 m17 (fun x34 m35 => L25_3 e 0 N f x34 m35 (fun x48 m49 => k 1 x48 m49) (fun x50 x51 m52 => k x50 x51 m52)) (fun x36 x37 m38 => k x36 x37 m38) (fun x39 m40 => L25_3 e 0 N f x39 m40 (fun x48 m49 => k 1 x48 m49) (fun x50 x51 m52 => k x50 x51 m52))) := fun mz hz why => by
    unfold P25_6004
    exact kif_f rfl (stepP mz _ _ _ _ hz (why.imp id .inl))
   refine kif_c _ (fun cs => ?_) fun cs => noblock m1 h1 (.inr (by simpa using cs))
   refine At.due h1 sc.c fun m4 h4 F4 => ?_
   rw [sc.due, Bool.false_or]
   cases ct : takenS (X g) with
   | true => exact noblock m4 h4 (.inl ct)
   | false =>
    unfold P25_6004
    refine kif_t rfl ?_
    obtain ⟨S2, M2, u2, hn2, hp2, E2⟩ := id h4
    have eS := St.as hn2 hp2
    have eL : liesS S2 (S2.n 34) 4 false = liesS (X g) ((X g).n 34) 4 false := by rw [eS]; rfl
    have pl2 : Place C p (Y g) S2 := ⟨fun a r ha => sc.pl.k a r (by rw [← eL]; exact ha)⟩
    refine find_k_T hp E2 pl2 (fun hno c5 m7 E7 => ?_) fun a r kk c5 m7 S7 M7 l7 Sc7 k7 u7 hL har E7 en7 ep7 hb7 hs7 => ?_
    ·refine newK_i fun b9 m8 hb9 K8 e8 O8 => ?_
     rw [stG_of e8 rfl (by show 0 + 4 ≤ 4; omega)]
     refine kif_f rfl ?_
     refine stepP _ l Sc made used ?_ (.inr (.inr fun ⟨a, r, hL, har⟩ => ?_))
     ·exact At.keep (S := X g) ⟨S2, M2, u2, hn2, hp2, E7⟩ (Only.keeps K8 hb9 (Only.set _ _ _))
     ·rw [eL, hL] at hno
      rcases hno with t | t
      ·exact t rfl
      ·exact t har
    ·refine newK_i fun b9 m8 hb9 K8 e8 O8 => ?_
     rw [stG_of e8 rfl (by show 0 + 4 ≤ 4; omega)]
     refine kif_t rfl ?_
     rw [ldG_of (set_same _ _ _) (by show 0 + 4 ≤ 4; omega)]
     have K10 : Keeps m7 (m8.set b9 _) := Only.keeps K8 hb9 (Only.set m8 b9 ⟨4, splice (lget [(.flat (.int .u32 0)), (.flat (.slice none 0 0)), (.flat (.slice none 0 0)), (.flat (.slice none 0 0))]) 0 4 c5, 85, false⟩)
     have A7 : At m0 C e q c p D wv n cap l7 Sc7 k7 u7 (X g) (Y g) m7 := ⟨S7, M7, u2, en7.trans hn2, ep7.trans hp2, E7⟩
     have hpl := pl2.k _ r hL har
     have hLg : liesS (X g) ((X g).n 34) 4 false = ((a : Int), -1, r) := by rw [← eL]; exact hL
     rw [show IntKind.wrap .i64 ((N : Int) - g) = ((N - g : Nat) : Int) by rw [wrap64 (by omega) (by omega)]; omega]
     refine At.run hp (X := fun i => X (g + i)) (Y := fun i => Y (g + i)) (left := N - g) (fun i hi => hX (g + i) (by omega)) (by omega) ct (A7.keep K10) hLg (kk := kk) ((hb7.fr (T' := ft e q wv Sc7) (K10.fr _) fun x hx => .inl hx).congr fun j hj => ?_) hs7 hpl.1 hpl.2 fun i m13 hi1 hi2 h13 => ?_
     ·simp only [sub, splice]
      rw [if_pos hj, if_pos (by omega), Nat.zero_add, Nat.sub_zero]
     ·rw [wrap64 (n := (g : Int) + (i : Int)) (by omega) (by omega), show (g : Int) + (i : Int) = ((g + i : Nat) : Int) by omega]
      exact ih (g + i) m13 (by omega) (by omega) ⟨_, _, _, _, h13⟩
 exact ⟨N + 1, loop (N + 1) 0 m (by omega) (by omega) h⟩
end
def in0 : In := ⟨0, 0, 0, 0, 0, 0⟩
def atI (l : List In) : Nat → In := fun i => l.getD i in0
def IsIn (m : Mem) (v : AV) (l : List In) : Prop := ∃ c, IsL m 6 v l.length c ∧ ∀ i, i < l.length → InC (fun j => c (i * 6 + j)) (atI l i)
theorem IsIn.fr {m m' : Mem} {S : Nat → Prop} {v : AV} {l : List In} (h : IsIn m v l) (F : Fr S m m') (hs : ∀ b, own v b → ¬ S b) : IsIn m' v l := by
 obtain ⟨c, h1, h2⟩ := h; exact ⟨c, h1.fr F hs, h2⟩
theorem IsIn.keep {m m' : Mem} {v : AV} {l : List In} (h : IsIn m v l) (K : Keeps m m') : IsIn m' v l := h.fr (K.fr fun _ => False) fun _ _ h => h
theorem IsIn.one {m : Mem} {v : AV} {l : List In} (h : IsIn m v l) : v.one = true := by obtain ⟨c, h1, _⟩ := h; exact h1.one
theorem IsIn.len {m : Mem} {v : AV} {l : List In} (h : IsIn m v l) (k : Int → Prop) : klen v k = k (l.length : Int) := by obtain ⟨c, h1, _⟩ := h; exact klen_r h1.r k
theorem InC.congr {c d : Nat → AV} {x : In} (h : InC c x) (e : ∀ j, j < 6 → d j = c j) : InC d x :=
 ⟨(e 0 (by omega)).trans h.1, (e 1 (by omega)).trans h.2.1, (e 2 (by omega)).trans h.2.2.1, (e 3 (by omega)).trans h.2.2.2.1, (e 4 (by omega)).trans h.2.2.2.2.1, (e 5 (by omega)).trans h.2.2.2.2.2⟩
theorem IsIn.nil (m : Mem) : IsIn m (.flat (.slice none 0 0)) [] := ⟨fun _ => .junk, .nil none _, fun i hi => by simp at hi⟩
theorem IsIn.row {m : Mem} {b : Nat} {y : Blk} {l : List In} (e : m.obj b = some y) (hn : y.n = l.length * 6) (hr : y.ro = false) (hc : ∀ i, i < l.length → InC (fun j => y.c (i * 6 + j)) (atI l i)) : IsIn m (.sl b 0 l.length (.ex l.length)) l :=
 ⟨y.c, IsL.row e hn hr, hc⟩
theorem IsIn.app {m : Mem} {v w : AV} {l k1 : List In} (h : IsIn m v l) (hw : IsIn m w k1) (hl : l.length ≤ 10000) (hk1 : k1.length ≤ 10000) {t : TypeId} {k : KV} (hk : ∀ v' m', IsIn m' v' (l ++ k1) → Fr (own v) m m' → (∀ b, own v' b → own v b ∨ m.obj b = none) → k v' m') : appS 6 48 t v w m k := by
 obtain ⟨c, h1, h2⟩ := h
 obtain ⟨d, g1, g2⟩ := hw
 refine appL h1 g1.r (by omega) fun v' m' a1 a2 a3 => hk v' m' ⟨_, by rw [List.length_append]; exact a1, fun i hi => ?_⟩ a2 a3
 rw [List.length_append] at hi
 by_cases ci : i < l.length
 ·have e : atI (l ++ k1) i = atI l i := by simp [atI, List.getD, List.getElem?_append_left ci]
  rw [e]
  refine (h2 i ci).congr fun j hj => ?_
  unfold cat; rw [if_pos (by omega)]
 ·have e : atI (l ++ k1) i = atI k1 (i - l.length) := by simp [atI, List.getD, List.getElem?_append_right (Nat.le_of_not_lt ci)]
  rw [e]
  refine (g2 (i - l.length) (by omega)).congr fun j hj => ?_
  unfold cat; rw [if_neg (by omega), show i * 6 + j - l.length * 6 = (i - l.length) * 6 + j by omega]
section
variable {m : Mem}
def rtiS (k t s i : Int) : In := ⟨k, s, t, 0, 0, i % 65536⟩
def liS (t v : Int) : List In := [⟨53, 0, t, 0, 0, v / 65536⟩, rtiS 51 t t v]
def nopS : In := ⟨1, 0, 0, 0, 0, 0⟩
def backS (k s t n : Int) : List In := [⟨k, s, t, 0, 0, (IntKind.wrap .u32 (-n - 1)) % 65536⟩, nopS]
theorem rti_spec {kd t s i : Int} (hi : isU i) {k : (Nat → AV) → Mem → Prop} (hk : ∀ c, InC c (rtiS kd t s i) → k c m) : F21 kd t s i m k := by
 unfold F21
 have e16 : bits .and .u32 i 65535 = i % 65536 := by have := and_ones i hi.1 hi.2 16 (by decide); simpa using this
 rw [e16]
 have hc : InC (upd (upd (upd (upd (Z6) 0 (.flat (.int .i64 kd))) 2 (.flat (.int .i64 t))) 1 (.flat (.int .i64 s))) 5 (.flat (.int .u32 (i % 65536)))) (rtiS kd t s i) := ⟨rfl, rfl, rfl, rfl, rfl, rfl⟩
 exact newF hc fun b m3 hb K h => h.lg fun c4 h4 => ⟨K, h4.inDom m, hk c4 h4⟩
theorem two_row {b : Nat} {z c d : Nat → AV} {t : TypeId} {x y : In} {m' : Mem} (e : m'.obj b = some ⟨12, splice (splice z 0 6 c) 6 6 d, t, false⟩) (hx : InC c x) (hy : InC d y) : IsIn m' (.sl b 0 2 (.ex 2)) [x, y] := by
 refine IsIn.row (l := [x, y]) e rfl rfl fun i hi => ?_
 have : i = 0 ∨ i = 1 := by simp at hi; omega
 rcases this with rfl | rfl
 ·refine InC.congr (c := c) hx fun j hj => ?_
  show splice (splice z 0 6 c) 6 6 d (0 * 6 + j) = _
  unfold splice; rw [if_neg (by omega), if_pos (by omega)]; congr 1; omega
 ·refine InC.congr (c := d) hy fun j hj => ?_
  show splice (splice z 0 6 c) 6 6 d (1 * 6 + j) = _
  unfold splice; rw [if_pos (by omega)]; congr 1; omega
theorem li_spec {t v : Int} (hv : isU v) {k : AV → Mem → Prop} (hk : ∀ b m', m.obj b = none → Keeps m m' → IsIn m' (.sl b 0 2 (.ex 2)) (liS t v) → k (.sl b 0 2 (.ex 2)) m') : F18 t v m k := by
 unfold F18
 refine rti_spec hv fun c1 h1 => newK_i fun b m' hb K e O => hk b m' hb K (two_row e ?_ h1)
 have e2 : v.fdiv 65536 = v / 65536 := Int.fdiv_eq_ediv_of_nonneg _ (by decide)
 rw [e2]
 exact ⟨rfl, rfl, rfl, rfl, rfl, rfl⟩
theorem back_spec {kd s t n : Int} (hn : 0 ≤ n) (hn2 : n ≤ 1000) {k : AV → Mem → Prop} (hk : ∀ b m', m.obj b = none → Keeps m m' → IsIn m' (.sl b 0 2 (.ex 2)) (backS kd s t n) → k (.sl b 0 2 (.ex 2)) m') : F22 kd s t n m k := by
 unfold F22
 have e1 : IntKind.wrap .i64 (IntKind.wrap .i64 (0 - n) - 1) = -n - 1 := by rw [wrap64 (n := 0 - n) (by omega) (by omega), wrap64 (by omega) (by omega)]; omega
 have w := wrap32_rng (-n - 1)
 have e2 : bits .and .u32 (IntKind.wrap .u32 (-n - 1)) 65535 = (IntKind.wrap .u32 (-n - 1)) % 65536 := by have := and_ones _ w.1 w.2 16 (by decide); simpa using this
 rw [e1, e2]
 refine newK_i fun b m' hb K e O => hk b m' hb K (two_row e ?_ ?_)
 ·exact ⟨rfl, rfl, rfl, rfl, rfl, rfl⟩
 ·exact ⟨rfl, rfl, rfl, rfl, rfl, rfl⟩
theorem idle_spec {k : AV → Mem → Prop} (hk : ∀ b m', m.obj b = none → Keeps m m' → IsIn m' (.sl b 0 2 (.ex 2)) (backS 42 0 0 0) → k (.sl b 0 2 (.ex 2)) m') : F19 m k := by
 unfold F19
 exact back_spec (by decide) (by decide) hk
structure Rows (m : Mem) (b : Nat) (vs : List AV) (Ls : List (List In)) : Prop where
 e : ∃ y, m.obj b = some y ∧ y.n = Ls.length ∧ ∀ i, i < Ls.length → y.c i = lget vs i
 n : vs.length = Ls.length
 i : ∀ i, (h : i < Ls.length) → IsIn m (lget vs i) Ls[i]
theorem join_spec {b : Nat} {vs : List AV} {Ls : List (List In)} (h : Rows m b vs Ls) (hl : Ls.length ≤ 20) (hl2 : ∀ l ∈ Ls, l.length ≤ 100) {k : AV → Mem → Prop} (hk : ∀ v m', IsIn m' v Ls.flatten → Keeps m m' → (∀ x, own v x → m.obj x = none) → k v m') : F17 (.sl b 0 Ls.length (.ex Ls.length)) m k := by
 unfold F17
 have loop : ∀ (j i : Nat) (v : AV) (al : List In) (m1 : Mem), i + j = Ls.length → IsIn m1 v al → al.length ≤ 100 * i → Keeps m m1 → (∀ x, own v x → m.obj x = none) → al ++ (Ls.drop i).flatten = Ls.flatten → L17_3 (.sl b 0 Ls.length (.ex Ls.length)) (j + 1) v i m1 (fun v9 m10 => k v9 m10) := by
  intro j
  induction j with
  | zero =>
   intro i v al m1 e hv hal K o hR
   show R17_3 _ _ _ _ _ _
   unfold R17_3
   rw [show i = Ls.length by omega, List.drop_length] at hR
   have hR : al = Ls.flatten := by simpa using hR
   subst hR
   exact kif_f (by simp; omega) (hk v m1 hv K o)
  | succ j ih =>
   intro i v al m1 e hv hal K o hR
   show R17_3 _ _ _ _ _ _
   unfold R17_3
   have hi : i < Ls.length := by omega
   obtain ⟨y, ey, yn, yc⟩ := h.e
   have hrow := (h.i i hi).keep K
   have hli := hl2 _ (List.getElem_mem hi)
   rw [wrap64 (n := (i : Int) + 1) (by omega) (by omega)]
   refine kif_t (by simp; omega) (kif_ix (by omega) (by omega) ?_)
   rw [show 0 + (i : Int).toNat * 1 = i by omega, ldA_v (v := lget vs i) ((K b (by rw [ey]; simp)).trans ey) (by omega) (yc i hi) hrow.one]
   refine hv.app hrow (by omega) (by omega) fun v' m' h' F' o' => ih (i + 1) v' _ m' (by omega) h' (by simp; omega) (Fr.keeps K F' o) (fun x hx => (o' x hx).elim (o x) (newK_none K)) ?_
   rw [← hR, List.append_assoc, List.drop_eq_getElem_cons hi, List.flatten_cons]
 exact ⟨Ls.length + 1, loop Ls.length 0 _ [] m (by omega) (IsIn.nil m) (by simp) (Keeps.self m) (fun x hx => hx.elim) (by simp)⟩
def wdOf (x : In) : Int := (wordS x).1
def byOf (l : List In) : Nat → Int := fun j => by8 (wdOf (atI l (j / 4))) (3 - j % 4)
theorem byOf_rng (l : List In) (j : Nat) : 0 ≤ byOf l j ∧ byOf l j < 256 := by8_rng _ _
theorem code_spec {v : AV} {l : List In} (h : IsIn m v l) (hl : l.length ≤ 1000) (hi0 : ∀ x ∈ l, 0 ≤ x.i) {k : AV → Mem → Prop} (hk : ∀ w m', IsL m' 1 w (l.length * 4) (cB (byOf l)) → Keeps m m' → (∀ x, own w x → m.obj x = none) → k w m') : F16 v m k := by
 unfold F16
 have loop : ∀ (j i : Nat) (w : AV) (m1 : Mem), i + j = l.length → IsL m1 1 w (i * 4) (cB (byOf l)) → Keeps m m1 → (∀ x, own w x → m.obj x = none) → L16_3 v (j + 1) w i m1 (fun v14 m15 => k v14 m15) := by
  intro j
  induction j with
  | zero =>
   intro i w m1 e hw K o
   show R16_3 _ _ _ _ _ _
   unfold R16_3
   rw [h.len]
   rw [show i = l.length by omega] at hw
   exact kif_f (by simp; omega) (hk w m1 hw K o)
  | succ j ih =>
   intro i w m1 e hw K o
   show R16_3 _ _ _ _ _ _
   unfold R16_3
   rw [h.len]
   have hi : i < l.length := by omega
   obtain ⟨c, h1, h2⟩ := h.keep K
   rw [wrap64 (n := (i : Int) + 1) (by omega) (by omega)]
   refine kif_t (by simp; omega) (ldIn h1 h2 hi fun c6 h6 => ?_)
   have hx0 : 0 ≤ (atI l i).i := by
    have : atI l i = l[i] := by simp [atI, List.getD, hi]
    rw [this]; exact hi0 _ (List.getElem_mem hi)
   refine rword_spec h6 hx0 ?_
   refine appN (n' := 4) hw rfl (fun t ht => ?_) (by omega) fun w' m' g1 g2 g3 => ih (i + 1) w' m' (by omega) (by rw [Nat.add_mul, Nat.one_mul]; exact g1) (Fr.keeps K g2 o) fun x hx => (g3 x hx).elim (o x) (newK_none K)
   have ht : t = 0 ∨ t = 1 ∨ t = 2 ∨ t = 3 := by omega
   have e4 : (i * 4 * 1 + t) / 4 = i := by omega
   have e5 : (i * 4 * 1 + t) % 4 = t := by omega
   show _ = AV.flat (.int .u8 (byOf l (i * 4 * 1 + t)))
   unfold byOf by8 wdOf
   rw [e4, e5]
   rcases ht with rfl | rfl | rfl | rfl
   ·rfl
   ·rfl
   ·rfl
   ·show AV.flat (.int .u8 (IntKind.wrap .u8 (wordS (atI l i)).1)) = AV.flat (.int .u8 (IntKind.wrap .u8 ((wordS (atI l i)).1.fdiv (2 ^ (8 * (3 - 3))))))
    have : (2 : Int) ^ (8 * (3 - 3)) = 1 := by decide
    rw [this, Int.fdiv_one]
 exact ⟨l.length + 1, loop l.length 0 _ m (by omega) (.nil none _) (Keeps.self m) fun x hx => hx.elim⟩
end
def imgS (n0 : Nat) (f0 : Nat → Int) (n1 : Nat) (f1 : Nat → Int) : Nat → Int := fun j => if 1024 ≤ j ∧ j < 1024 + n0 then f0 (j - 1024) else if 384 ≤ j ∧ j < 384 + n1 then f1 (j - 384) else 0
section
variable {m : Mem}
theorem image_spec {v0 v1 : AV} {n0 n1 : Nat} {f0 f1 : Nat → Int} (h0 : IsR m 1 v0 n0 (cB f0)) (h1 : IsR m 1 v1 n1 (cB f1)) (hn0 : n0 ≤ 3072) (hn1 : n1 ≤ 640) {k : AV → Mem → Prop} (hk : ∀ b m', m.obj b = none → Keeps m m' → IsL m' 1 (.sl b 0 4096 (.ex 4096)) 4096 (cB (imgS n0 f0 n1 f1)) → k (.sl b 0 4096 (.ex 4096)) m') : F33 v0 v1 m k := by
 unfold F33
 refine mkS_i (by omega) (by omega) (by decide) fun b m2 hb K2 e2 O2 => ?_
 have L2 : IsL m2 1 (.sl b 0 4096 (.ex 4096)) 4096 (fun _ => .flat (.int .u8 0)) := (IsL.row (esz := 1) e2 (by simp) rfl).congr fun i hi => reprow1 _ i
 refine slcop (l := 384) L2 (h1.keep K2) rfl (by omega) fun m5 u5 h5 F5 _ => ?_
 have F5' : Fr (one1 b) m2 m5 := F5.mono fun x _ t => t.symm
 have K5 : Keeps m m5 := Fr.keeps K2 F5' fun x hx => by cases hx; exact hb
 refine slcop (l := 1024) h5 (h0.keep K5) rfl (by omega) fun m8 u8 h8 F8 _ => ?_
 have F8' : Fr (one1 b) m5 m8 := F8.mono fun x _ t => t.symm
 refine hk b m8 hb (Fr.keeps K5 F8' fun x hx => by cases hx; exact hb) (h8.congr fun i hi => ?_)
 show (if 1024 * 1 ≤ i ∧ i < (1024 + n0) * 1 then AV.flat (.int .u8 (f0 (i - 1024 * 1))) else if 384 * 1 ≤ i ∧ i < (384 + n1) * 1 then AV.flat (.int .u8 (f1 (i - 384 * 1))) else AV.flat (.int .u8 0)) = AV.flat (.int .u8 (if 1024 ≤ i ∧ i < 1024 + n0 then f0 (i - 1024) else if 384 ≤ i ∧ i < 384 + n1 then f1 (i - 384) else 0))
 simp only [Nat.mul_one]
 by_cases c1 : 1024 ≤ i ∧ i < 1024 + n0
 ·rw [if_pos c1, if_pos c1]
 ·rw [if_neg c1, if_neg c1]
  by_cases c2 : 384 ≤ i ∧ i < 384 + n1
  ·rw [if_pos c2, if_pos c2]
  ·rw [if_neg c2, if_neg c2]
theorem imgS_rng {n0 n1 : Nat} {f0 f1 : Nat → Int} (h0 : ∀ i, 0 ≤ f0 i ∧ f0 i < 256) (h1 : ∀ i, 0 ≤ f1 i ∧ f1 i < 256) (j : Nat) : 0 ≤ imgS n0 f0 n1 f1 j ∧ imgS n0 f0 n1 f1 j < 256 := by
 unfold imgS
 split
 ·exact h0 _
 split
 ·exact h1 _
 ·omega
def AtF (m0 : Mem) (C : Nat → Bool) (e : Nat) (q : BB) (c p : Nat) (D : Dv) (n : Int) (S : St) (B : Nat → Int) (m : Mem) : Prop :=
 ∃ cap, AtE m0 C e q c p D (.flat (.slice none 0 0)) n cap S B m
variable {m0 : Mem} {C : Nat → Bool} {e : Nat} {q : BB} {c : Nat} {p : Nat} {D : Dv} {n : Int} {S : St} {B : Nat → Int}
theorem neweng_at {most : Int} {v1 v2 : AV} {nn nd : Nat} {f fd : Nat → Int} (h1 : IsS m 1 v1 nn (cB f)) (hf : ∀ i, i < nn → 0 ≤ f i ∧ f i < 256) (hn : (nn : Int) ≤ 4096) (h2 : IsR m 1 v2 nd (cB fd)) (hfd : ∀ i, i < nd → 0 ≤ fd i ∧ fd i < 256) (hnd : nd ≤ 4096) (C : Nat → Bool) {k : AV → Int → Mem → Prop}
  (hk : ∀ e q c m', AtF m C e q c 4 { nd := (nd + 63) / 64 * 64, dk := imgB nd fd } (clN most) St0 (imgB nn f) m' → k (.ptr e 0) 0 m') : F34 4 v1 v2 most m k := by
 refine neweng_spec (by omega) h1 hf (by omega) h2 hfd hnd fun e q c Sc m' M K fe fb fs => hk e q c m' ⟨32, [], Sc, 0, 0, { St0 with x := engX q.b c 32 0 0, q := 5 }, fun _ => false, 0, rfl, rfl, ⟨⟨M, St0_ok, ⟨rfl, rfl⟩, fun en hen => by simp at hen, fun j _ hj => by simp at hj⟩, K, fun x hx => ?_⟩⟩
 rcases hx with (hx | hx) | hx | hx
 ·rw [hx]; exact fe
 ·exact fb x hx
 ·exact hx.elim
 ·exact fs x hx
theorem AtF.bus (h : AtF m0 C e q c p D n S B m) {k : AV → Mem → Prop} (hk : k (.ptr q.b 0) m) : F29 e 0 m k := by
 unfold F29
 obtain ⟨cap, l, Sc, made, used, S1, M, u, hn, hp, E⟩ := h
 rw [show (0 : Nat) + 73 = 73 + 0 from rfl, tail_ld (j := 0) E.h.mac.s E.h.q0 E.h.x0 rfl]
 exact hk
theorem AtF.ram (h : AtF m0 C e q c p D n S B m) {k : AV → Mem → Prop} (hk : k (.ptr q.r.b 0) m) : F30 q.b 0 m k := by
 obtain ⟨cap, l, Sc, made, used, S1, M, u, hn, hp, E⟩ := h
 exact ram_spec E.h.mac.b hk
theorem AtF.state (h : AtF m0 C e q c p D n S B m) {k : (Nat → AV) → Mem → Prop} (hk : ∀ cc, (∀ i, i < 73 → cc i = stc S i) → k cc m) : F26 e 0 m k := by
 obtain ⟨cap, l, Sc, made, used, S1, M, u, hn, hp, E⟩ := h
 refine estate_spec E.h.mac.s fun cc hcc => hk cc fun i hi => ?_
 rw [hcc i hi]
 unfold stc
 rw [hn, hp]
theorem AtF.cap (h : AtF m0 C e q c p D n S B m) {x : Int} {k : Mem → Prop} (hk : ∀ m', AtF m0 C e q c p D n S B m' → k m') : F24 e 0 x m k := by
 unfold F24
 obtain ⟨cap, l, Sc, made, used, S1, M, u, hn, hp, E⟩ := h
 rw [show (0 : Nat) + 75 = 73 + 2 from rfl]
 refine stX_st E.h.mac.s (by rw [E.h.mac.sq]; decide) fun m' h' O' => hk m' ?_
 have ex : upd S1.x 2 (vi (if (if 32 < x then 32 else x) > 1 then (if 32 < x then 32 else x) else 1)) = engX q.b c (if (if 32 < x then 32 else x) > 1 then (if 32 < x then 32 else x) else 1) made used := by
  rw [E.h.mac.sx]
  funext j
  unfold upd engX
  match j with
  | 0 => rfl
  | 1 => rfl
  | 2 => rfl
  | 3 => rfl
  | 4 => rfl
  | j + 5 => rfl
 have hc := E.h.cpu.st h' E.h.ok O'.fr1
 have F' : Fr (foot e q) m m' := one_foot O'.fr1
 have hsf : ∀ x, Sc x → ¬ foot e q x := fun x hx hf => hf.elim (fun t => E.h.mac.ce (t ▸ hx)) fun t => E.h.mac.cb x t hx
 refine ⟨_, l, Sc, made, used, { S1 with x := upd S1.x 2 (vi (if (if 32 < x then 32 else x) > 1 then (if 32 < x then 32 else x) else 1)) }, M, u, hn, hp, ⟨⟨⟨h', ex, E.h.mac.sq, hc.b, E.h.mac.c.fr F' hsf, E.h.mac.de, E.h.mac.dw, E.h.mac.ce, E.h.mac.cb, E.h.mac.cw⟩, E.h.ok, E.h.st, fun en hen => ?_, E.h.mks⟩, Fr.keeps E.K F' fun x hx => E.f x (.inl hx), E.f⟩⟩
 obtain ⟨k1, b1, s1, c1⟩ := E.h.blk en hen
 exact ⟨k1, b1.fr (F'.mono fun x _ hx => .inl (.inl hx)) fun x hx => .inl hx, s1, c1⟩
theorem AtF.Run (hp : p ≤ 64) {X : Nat → St} {Y : Nat → Nat → Int} {N : Nat} (hN : N ≤ 1000000) (hX : ∀ g, g < N → StepC C p D (X g) (Y g) (X (g + 1)) (Y (g + 1))) (h : AtF m0 C e q c p D n (X 0) (Y 0) m)
  {k : Int → Int → Mem → Prop} (hk : ∀ m', AtF m0 C e q c p D n (X N) (Y N) m' → k 1 N m') : F25 e 0 N m k := by
 obtain ⟨cap, h⟩ := h
 exact Run_k hp hN hX h fun m' h' => hk m' ⟨cap, h'⟩
theorem machine_spec {v0 v2 : AV} {n0 nd : Nat} {f0 fd : Nat → Int} (h0 : IsR m 1 v0 n0 (cB f0)) (hf0 : ∀ i, 0 ≤ f0 i ∧ f0 i < 256) (hn0 : n0 ≤ 3072) (h2 : IsR m 1 v2 nd (cB fd)) (hfd : ∀ i, i < nd → 0 ≤ fd i ∧ fd i < 256) (hnd : nd ≤ 4096) {most : Int} (C : Nat → Bool) {k : AV → Mem → Prop}
  (hk : ∀ m1 e q c m', Keeps m m1 → AtF m1 C e q c 4 { nd := (nd + 63) / 64 * 64, dk := imgB nd fd } (clN most) St0 (imgB 4096 (imgS n0 f0 0 fun _ => 0)) m' → k (.ptr e 0) m') : F23 v0 v2 most m k := by
 unfold F23
 refine image_spec h0 (n1 := 0) (f1 := fun _ => 0) (.nil none _) hn0 (by omega) fun b m2 hb2 K2 L2 => ?_
 refine neweng_at L2.s (fun i _ => imgS_rng hf0 (fun _ => by omega) i) (by omega) (h2.keep K2) hfd hnd C fun e q c m5 h5 => ?_
 have nl : ∀ (b o : Nat) (K : Bool → Prop), knilP (.ptr b o) K = K false := fun _ _ _ => rfl
 rw [nl]
 refine kif_f rfl ?_
 refine kif_f rfl ?_
 dsimp only [kptr]
 refine h5.bus ?_
 rw [nl]
 refine kif_f rfl (h5.bus ?_)
 dsimp only
 refine h5.ram ?_
 rw [nl]
 exact kif_f rfl (hk m2 e q c m5 K2 h5)
end
inductive Path (C : Nat → Bool) (p : Nat) (D : Dv) : Nat → St → (Nat → Int) → St → (Nat → Int) → Prop
 | nil (S : St) (B : Nat → Int) : Path C p D 0 S B S B
 | cons {k : Nat} {S S1 S2 : St} {B B1 B2 : Nat → Int} (h : StepC C p D S B S1 B1) (t : Path C p D k S1 B1 S2 B2) : Path C p D (k + 1) S B S2 B2
section
variable {C : Nat → Bool} {p : Nat} {D : Dv}
theorem Path.one {S S1 : St} {B B1 : Nat → Int} (h : StepC C p D S B S1 B1) : Path C p D 1 S B S1 B1 := .cons h (.nil _ _)
theorem Path.chain {k : Nat} {S S' : St} {B B' : Nat → Int} (h : Path C p D k S B S' B') : ∃ (X : Nat → St) (Y : Nat → Nat → Int), X 0 = S ∧ Y 0 = B ∧ X k = S' ∧ Y k = B' ∧ ∀ g, g < k → StepC C p D (X g) (Y g) (X (g + 1)) (Y (g + 1)) := by
 induction h with
 | nil S B => exact ⟨fun _ => S, fun _ => B, rfl, rfl, rfl, rfl, fun g hg => by omega⟩
 | @cons k S S1 S2 B B1 B2 h t ih =>
  obtain ⟨X, Y, x0, y0, xk, yk, hs⟩ := ih
  refine ⟨fun g => match g with | 0 => S | g + 1 => X g, fun g => match g with | 0 => B | g + 1 => Y g, rfl, rfl, xk, yk, fun g hg => ?_⟩
  match g with
  | 0 => show StepC C p D S B (X 0) (Y 0); rw [x0, y0]; exact h
  | g + 1 => exact hs g (by omega)
variable {m0 m : Mem} {e : Nat} {q : BB} {c : Nat} {n : Int} {S S' : St} {B B' : Nat → Int} {N : Nat}
theorem AtF.go (hp : p ≤ 64) (hN : N ≤ 1000000) (t : Path C p D N S B S' B') (h : AtF m0 C e q c p D n S B m) {k : Int → Int → Mem → Prop} (hk : ∀ m', AtF m0 C e q c p D n S' B' m' → k 1 N m') : F25 e 0 N m k := by
 obtain ⟨X, Y, x0, y0, xk, yk, hs⟩ := t.chain
 subst x0 y0 xk yk
 exact AtF.Run hp hN hs h hk
end
theorem by8_mod (w : Int) (q : Nat) : by8 w q = w / 2 ^ (8 * q) % 256 := by
 unfold by8
 rw [Int.fdiv_eq_ediv_of_nonneg _ (by exact Int.le_of_lt (Int.pow_pos (by decide)))]
 simp [IntKind.wrap, IntKind.bits, IntKind.signed]
theorem or_byte {x y : Int} (h0 : 0 ≤ x) (h1 : x < 16777216) (g0 : 0 ≤ y) (g1 : y < 256) : bits .or .u32 (IntKind.wrap .u32 (x * 256)) (IntKind.wrap .u32 y) = x * 256 + y := by
 rw [wrap32 (x * 256), wrap32 y, Int.emod_eq_of_lt (by omega) (by omega), Int.emod_eq_of_lt g0 (by omega)]
 by_cases c : x * 256 % 1024 = 0 ∧ y < 1024
 ·exact or_low (by omega) (by omega) c.1 g0 c.2
 ·have h := orI_nat (x := x * 256) (y := y) ⟨by omega, by omega⟩ ⟨g0, by omega⟩
  unfold orI at h
  rw [h]
  have e1 : (x * 256).toNat = 2 ^ 8 * x.toNat := by omega
  have e2 : y.toNat < 2 ^ 8 := by omega
  rw [e1, ← Nat.two_pow_add_eq_or_of_lt e2]
  omega
theorem ldv_word {f : Nat → Int} {w : Int} (hw : isU w) (h0 : f 0 = by8 w 3) (h1 : f 1 = by8 w 2) (h2 : f 2 = by8 w 1) (h3 : f 3 = by8 w 0) : ldv f 4 = w := by
 obtain ⟨w0, w1⟩ := hw
 have b0 := by8_mod w 3
 have b1 := by8_mod w 2
 have b2 := by8_mod w 1
 have b3 := by8_mod w 0
 simp only [Nat.reduceMul, Int.reducePow] at b0 b1 b2 b3
 show bits .or .u32 (IntKind.wrap .u32 (bits .or .u32 (IntKind.wrap .u32 (bits .or .u32 (IntKind.wrap .u32 (bits .or .u32 (IntKind.wrap .u32 (0 * 256)) (IntKind.wrap .u32 (f 0)) * 256)) (IntKind.wrap .u32 (f 1)) * 256)) (IntKind.wrap .u32 (f 2)) * 256)) (IntKind.wrap .u32 (f 3)) = w
 rw [h0, h1, h2, h3, b0, b1, b2, b3]
 have s1 := or_byte (x := 0) (y := w / 16777216 % 256) (by omega) (by omega) (by omega) (by omega)
 have s2 := or_byte (x := 0 * 256 + w / 16777216 % 256) (y := w / 65536 % 256) (by omega) (by omega) (by omega) (by omega)
 have s3 := or_byte (x := (0 * 256 + w / 16777216 % 256) * 256 + w / 65536 % 256) (y := w / 256 % 256) (by omega) (by omega) (by omega) (by omega)
 have s4 := or_byte (x := ((0 * 256 + w / 16777216 % 256) * 256 + w / 65536 % 256) * 256 + w / 256 % 256) (y := w / 1 % 256) (by omega) (by omega) (by omega) (by omega)
 rw [s1, s2, s3, s4]
 omega
theorem prog_word {l : List In} {i : Nat} (hi : i < l.length) {B : Nat → Int} {a : Int} (a0 : 0 ≤ a) (hB : ∀ t, t < 4 → B (a.toNat + t) = byOf l (4 * i + t)) (hw : isU (wdOf (atI l i))) : wdB B a 4 = wdOf (atI l i) := by
 have hb : ∀ t, t < 4 → byOf l (4 * i + t) = by8 (wdOf (atI l i)) (3 - t) := fun t ht => by
  unfold byOf
  rw [show (4 * i + t) / 4 = i by omega, show (4 * i + t) % 4 = t by omega]
 unfold wdB
 refine ldv_word hw ?_ ?_ ?_ ?_
 ·exact (hB 0 (by omega)).trans (hb 0 (by omega))
 ·exact (hB 1 (by omega)).trans (hb 1 (by omega))
 ·exact (hB 2 (by omega)).trans (hb 2 (by omega))
 ·exact (hB 3 (by omega)).trans (hb 3 (by omega))
theorem zero_word {B : Nat → Int} {a : Int} (hB : ∀ t, t < 4 → B (a.toNat + t) = 0) : wdB B a 4 = 0 := by
 unfold wdB
 have e8 : ∀ q, by8 0 q = 0 := fun q => by rw [by8_mod]; simp
 exact ldv_word (w := 0) ⟨by omega, by omega⟩ ((hB 0 (by omega)).trans (e8 3).symm) ((hB 1 (by omega)).trans (e8 2).symm) ((hB 2 (by omega)).trans (e8 1).symm) ((hB 3 (by omega)).trans (e8 0).symm)
theorem zero_nop : ofS 0 = nopS := by decide +kernel
theorem of_back_T {x : In} (hi : 0 ≤ x.i) (h : rightS x = true) : ofS (wdOf x) = x := by
 unfold wdOf wordS
 rw [if_pos h]
 exact of_word ((right_iff x hi).1 h)
theorem wdOf_u (x : In) : isU (wdOf x) := by
 unfold wdOf wordS
 split
 ·exact orI_rng _ _
 ·exact (⟨by omega, by omega⟩ : isU 0)
structure Q (S : St) (R : Nat → Int) (pc nx : Int) (sl : Bool) (t : Nat) : Prop where
 ok : S.ok
 reg : ∀ i, i < 34 → S.n i = R i
 r0 : R 0 = 0
 pc : S.n 34 = pc
 nx : S.n 35 = nx
 sl : S.p 36 = sl
 w : S.p 71 = false
 st : S.n 51 = 0
 cs : S.n 52 = 0
 cm : S.n 50 = 0
 ct : S.n 48 = t
 tm : S.n 72 = t
section
variable {S : St} {R : Nat → Int} {pc nx : Int} {sl : Bool} {t : Nat}
theorem and0l (x : Int) : bits .and .u32 0 x = 0 := by
 simp [bits, IntKind.wrap, IntKind.bits, IntKind.signed]
 show ((0#32 &&& BitVec.ofInt 32 x).toNat : Int) % _ = 0
 rw [BitVec.zero_and]; rfl
theorem not0l (x : Int) : bits .andNot .u32 0 x = 0 := by
 rw [not_bv]
 have : bv 0 = 0#32 := rfl
 rw [this, BitVec.zero_and]; rfl
theorem Q.calm (h : Q S R pc nx sl t) : Calm S := ⟨h.w, by rw [h.cs, not0l]⟩
theorem Q.usr (h : Q S R pc nx sl t) : userS S = false := by unfold userS; rw [h.st, and0l]; rfl
theorem Q.nt (h : Q S R pc nx sl t) : takenS S = false := by
 unfold takenS pendS
 rw [h.st, h.cs, and0l, and0l]; rfl
theorem Q0 : Q St0 (fun _ => 0) 2147484672 2147484676 false 0 :=
 ⟨St0_ok, fun i hi => by show (if i = 34 then _ else if i = 35 then _ else if i = 54 then _ else (0 : Int)) = 0; rw [if_neg (by omega), if_neg (by omega), if_neg (by omega)], rfl, rfl, rfl, rfl, rfl, rfl, rfl, rfl, rfl, rfl⟩
theorem lies_dir (hu : userS S = false) {a : Int} {n : Int} (hn : n = 1 ∨ n = 4) (a0 : 0 ≤ a) (a1 : a < 536870912) (ha : a % n = 0) {b : Bool} : liesS S (2147483648 + a) n b = (a, -1, false) := by
 unfold liesS
 have e : (if n ≠ 1 ∧ n ≠ 2 then (4 : Int) else n) = n := by rcases hn with rfl | rfl <;> rfl
 have low29 := and_ones (2147483648 + a) (by omega) (by omega) 29 (by decide)
 have low29 : bits .and .u32 (2147483648 + a) 536870911 = (2147483648 + a) % 536870912 := by simpa using low29
 rw [e, hu]
 dsimp only
 rw [if_neg (by
  rintro (t | ⟨_, t⟩)
  ·rcases hn with rfl | rfl <;> omega
  ·cases t), if_pos ⟨by omega, by omega⟩, low29]
 congr 1
 omega
theorem Q.go (h : Q S R pc nx sl t) (ht : t < 1000000) : (goS S 1).1 = (S.putN 72 (t + 1 : Nat)).putN 48 (t + 1 : Nat) := by
 unfold goS
 have hm : ¬ missS S ≤ 1 := by
  unfold missS
  rw [h.cm, h.ct]
  split <;> omega
 have w1 : IntKind.wrap .u32 (1 : Int) = 1 := rfl
 have e1 : IntKind.wrap .i64 ((t : Int) + 1) = ((t + 1 : Nat) : Int) := by rw [wrap64 (by omega) (by omega)]; omega
 have e2 : IntKind.wrap .u32 ((t : Int) + 1) = ((t + 1 : Nat) : Int) := by rw [wrap32]; omega
 rw [if_neg (by decide), if_neg hm, h.tm, h.ct, w1, e1, e2]
theorem advS_n (S : St) (i : Nat) : (advS S).n i = if i = 35 then IntKind.wrap .u32 (S.n 35 + 4) else if i = 34 then S.n 35 else S.n i := by
 unfold advS
 show ((S.putN 34 (S.n 35)).putN 35 (IntKind.wrap .u32 (S.n 35 + 4))).n i = _
 by_cases c : i = 35
 ·subst c; rw [putN_same, if_pos rfl]
 ·rw [putN_other _ _ c, if_neg c]
  by_cases c2 : i = 34
  ·subst c2; rw [putN_same, if_pos rfl]
  ·rw [putN_other _ _ c2, if_neg c2]
theorem Q.lift (h : Q S R pc nx sl t) (ht : t < 1000000) {x : In} (hx0 : 0 ≤ x.i) : Q (liftX S x) (fun i => run18 (rg S) (opsOf x) i) nx (IntKind.wrap .u32 (nx + 4)) false (t + 1) := by
 obtain ⟨len2, opr⟩ := ops_ok (x := x) hx0
 have okL := liftS_ok (l := opsOf x) h.ok opr
 have hL : Q (liftS S (opsOf x)) (fun i => run18 (rg S) (opsOf x) i) pc nx sl t := by
  have hi : ∀ i, 34 ≤ i → (liftS S (opsOf x)).n i = S.n i := fun i hi => by
   show (if i < 34 then _ else S.n i) = _
   rw [if_neg (by omega)]
  refine ⟨okL, fun i hi => ?_, ?_, (hi 34 (by omega)).trans h.pc, (hi 35 (by omega)).trans h.nx, h.sl, h.w, (hi 51 (by omega)).trans h.st, (hi 52 (by omega)).trans h.cs, (hi 50 (by omega)).trans h.cm, (hi 48 (by omega)).trans h.ct, (hi 72 (by omega)).trans h.tm⟩
  ·show (if i < 34 then run18 (rg S) (opsOf x) i else S.n i) = _
   rw [if_pos hi]
  ·show run18 (rg S) (opsOf x) 0 = 0
   by_cases c : run18 (rg S) (opsOf x) 0 = rg S 0
   ·rw [c]; show (if (0 : Nat) < 34 then S.n 0 else 0) = 0; rw [if_pos (by omega), h.reg 0 (by omega)]; exact h.r0
   ·obtain ⟨DD, hD⟩ := run_change hx0 (rg S)
    exact absurd rfl (hD 0 (by omega) c).2.1
 have eG := hL.go ht
 have okG := goS_ok okL 1
 have okR : (liftX S x).ok := lineS_ok (advS_ok okG) false
 have hA : ∀ i, (advS (goS (liftS S (opsOf x)) 1).1).n i = if i = 35 then IntKind.wrap .u32 (nx + 4) else if i = 34 then nx else if i = 48 ∨ i = 72 then ((t + 1 : Nat) : Int) else (liftS S (opsOf x)).n i := fun i => by
  rw [advS_n, eG]
  have e35 : (((liftS S (opsOf x)).putN 72 (t + 1 : Nat)).putN 48 (t + 1 : Nat)).n 35 = nx := by
   rw [putN_other _ _ (by decide), putN_other _ _ (by decide)]; exact hL.nx
  rw [e35]
  split
  ·rfl
  split
  ·rfl
  by_cases c48 : i = 48
  ·subst c48; rw [putN_same, if_pos (.inl rfl)]
  ·rw [putN_other _ _ c48]
   by_cases c72 : i = 72
   ·subst c72; rw [putN_same, if_pos (.inr rfl)]
   ·rw [putN_other _ _ c72, if_neg (by omega)]
 have hX : ∀ i, i ≠ 52 → (liftX S x).n i = (advS (goS (liftS S (opsOf x)) 1).1).n i := fun i hi => by
  unfold liftX lineS
  rw [if_neg (by simp), putN_other _ _ hi]
 have hn : ∀ i, i ≠ 34 → i ≠ 35 → i ≠ 48 → i ≠ 72 → i ≠ 52 → (liftX S x).n i = (liftS S (opsOf x)).n i := fun i h1 h2 h3 h4 h5 => by
  rw [hX i h5, hA i, if_neg h2, if_neg h1, if_neg (by omega)]
 have h36 : (liftX S x).p 36 = false := by
  unfold liftX lineS advS
  rw [if_neg (by simp), eG]; rfl
 have h71 : (liftX S x).p 71 = false := by
  unfold liftX lineS advS
  rw [if_neg (by simp), eG]; exact h.w
 refine ⟨okR, fun i hi => (hn i (by omega) (by omega) (by omega) (by omega) (by omega)).trans (hL.reg i hi), hL.r0, ?_, ?_, h36, h71, (hn 51 (by decide) (by decide) (by decide) (by decide) (by decide)).trans hL.st, ?_, (hn 50 (by decide) (by decide) (by decide) (by decide) (by decide)).trans hL.cm, ?_, ?_⟩
 ·rw [hX 34 (by decide), hA]; rfl
 ·rw [hX 35 (by decide), hA]; rfl
 ·unfold liftX lineS
  rw [if_neg (by simp), putN_same]
  have : (advS (goS (liftS S (opsOf x)) 1).1).n 52 = 0 := by
   rw [hA]
   exact hL.cs
  rw [this, not0l]
 ·rw [hX 48 (by decide), hA]; rfl
 ·rw [hX 72 (by decide), hA]; rfl
theorem Q.stepL {C : Nat → Bool} {p : Nat} {D : Dv} (hD : D.ev = []) {a : Int} {B : Nat → Int} {x : In} (h : Q S R (2147483648 + a) nx false t) (a0 : 0 ≤ a) (ap : a < p * 1024) (hp : p ≤ 64) (a4 : a % 4 = 0) (hx : ofS (wdB B a 4) = x) (hpl : plainS x = true) (hC : C (a / 1024).toNat = true) (hP : PageOk B a) : StepC C p D S B (liftX S x) B := by
 have hL : liesS S (S.n 34) 4 false = (a, -1, false) := by rw [h.pc]; exact lies_dir h.usr (.inr rfl) a0 (by omega) a4
 have eI : instS B S = x := by unfold instS; rw [hL]; exact hx
 refine ⟨h.calm, (h.reg 0 (by omega)).trans h.r0, ?_, ⟨fun a' r' h' _ => ?_⟩, fun _ _ => rfl, .inr ⟨h.nt, h.sl, ⟨a, false, hL, ap⟩, by rw [eI]; exact hpl, by rw [eI], rfl⟩⟩
 ·unfold dueD nextD; rw [hD]; rfl
 ·rw [hL] at h'
  have : a = a' := by simpa using congrArg Prod.fst h'
  subst this; exact ⟨hC, hP⟩
end
def progB (l : List In) : Nat → Int := imgB 4096 (imgS (l.length * 4) (byOf l) 0 fun _ => 0)
def inOk (x : In) : Bool := rightS x && decide (0 ≤ x.i) && (opsOf x).all fun o => kdS o.k
theorem inOk_p {x : In} (h : inOk x = true) : rightS x = true ∧ 0 ≤ x.i ∧ ∀ o ∈ opsOf x, OpK o := by
 unfold inOk at h
 simp only [Bool.and_eq_true, decide_eq_true_eq, List.all_eq_true] at h
 exact ⟨h.1.1, h.1.2, fun o ho => ⟨(ops_ok h.1.2).2 o ho, h.2 o ho⟩⟩
theorem nop_ok : inOk nopS = true := by decide +kernel
theorem prog_at {l : List In} (hl : l.length ≤ 700) {i : Nat} (hi : i < l.length) : wdB (progB l) (1024 + 4 * i) 4 = wdOf (atI l i) := by
 refine prog_word hi (by omega) (fun t ht => ?_) (wdOf_u _)
 unfold progB imgB imgS
 rw [if_pos (by omega), if_pos (by omega)]
 congr 1
 omega
theorem prog_out {l : List In} (hl : l.length ≤ 700) {i : Nat} (hi : l.length ≤ i) (h2 : i < 768) : wdB (progB l) (1024 + 4 * i) 4 = 0 := by
 refine zero_word fun t ht => ?_
 unfold progB imgB imgS
 rw [if_pos (by omega), if_neg (by omega), if_neg (by omega)]
theorem prog_in {l : List In} (hl : l.length ≤ 700) (ho : ∀ x ∈ l, inOk x = true) {i : Nat} (h2 : i < 768) : ofS (wdB (progB l) (1024 + 4 * i) 4) = (if i < l.length then atI l i else nopS) ∧ inOk (if i < l.length then atI l i else nopS) = true := by
 by_cases c : i < l.length
 ·rw [if_pos c, prog_at hl c]
  have e : atI l i = l[i] := by simp [atI, List.getD, c]
  have h := ho _ (List.getElem_mem c)
  rw [← e] at h
  obtain ⟨h1, h2, _⟩ := inOk_p h
  exact ⟨of_back_T h2 h1, h⟩
 ·rw [if_neg c, prog_out hl (by omega) h2]
  exact ⟨zero_nop, nop_ok⟩
theorem prog_page {l : List In} (hl : l.length ≤ 700) (ho : ∀ x ∈ l, inOk x = true) {i : Nat} (hi : i < 768) : PageOk (progB l) (1024 + 4 * i) := fun j hj => by
 have hlt : i + j < 768 := by omega
 have e : (1024 : Int) + 4 * i + 4 * j = 1024 + 4 * ((i + j : Nat) : Int) := by omega
 unfold inAt wdAt
 rw [e]
 obtain ⟨h1, h2⟩ := prog_in hl ho hlt
 rw [h1]
 exact (inOk_p h2).2.2
def C1 : Nat → Bool := fun j => j == 1 || j == 2 || j == 3
theorem rg_q {S : St} {R : Nat → Int} {pc nx : Int} {sl : Bool} {t : Nat} (h : Q S R pc nx sl t) {i : Nat} (hi : i < 34) : rg S i = R i := by
 unfold rg; rw [if_pos hi]; exact h.reg i hi
theorem Q.prog {l : List In} (hl : l.length ≤ 700) (ho : ∀ x ∈ l, inOk x = true) {D : Dv} (hD : D.ev = []) {S : St} {R : Nat → Int} {t i : Nat} (h : Q S R (2147484672 + 4 * i) (2147484672 + 4 * (i + 1 : Nat)) false t) (ht : t < 1000000) (hi : i < 700) (hpl : plainS (if i < l.length then atI l i else nopS) = true) :
  ∃ S', StepC C1 4 D S (progB l) S' (progB l) ∧ Q S' (fun j => run18 (rg S) (opsOf (if i < l.length then atI l i else nopS)) j) (2147484672 + 4 * (i + 1 : Nat)) (2147484672 + 4 * (i + 2 : Nat)) false (t + 1) := by
 obtain ⟨h1, h2⟩ := prog_in hl ho (i := i) (by omega)
 have ep : (2147484672 : Int) + 4 * i = 2147483648 + (1024 + 4 * i) := by omega
 rw [ep] at h
 refine ⟨_, h.stepL hD (by omega) (by omega) (by omega) (by omega) h1 hpl ?_ (prog_page hl ho (by omega)), ?_⟩
 ·unfold C1
  have : ((1024 + 4 * (i : Int)) / 1024).toNat = 1 ∨ ((1024 + 4 * (i : Int)) / 1024).toNat = 2 ∨ ((1024 + 4 * (i : Int)) / 1024).toNat = 3 := by omega
  rcases this with e | e | e <;> rw [e] <;> rfl
 ·have := h.lift ht (inOk_p h2).2.1
  have e2 : IntKind.wrap .u32 (2147484672 + 4 * ((i + 1 : Nat) : Int) + 4) = 2147484672 + 4 * ((i + 2 : Nat) : Int) := by rw [wrap32]; omega
  rw [e2] at this
  exact this
section
variable {m : Mem}
theorem one_row {b : Nat} {z c : Nat → AV} {t : TypeId} {x : In} {m' : Mem} (e : m'.obj b = some ⟨6, splice z 0 6 c, t, false⟩) (hx : InC c x) : IsIn m' (.sl b 0 1 (.ex 1)) [x] := by
 refine IsIn.row (l := [x]) e rfl rfl fun i hi => ?_
 have : i = 0 := by simp at hi; omega
 subst this
 refine InC.congr (c := c) hx fun j hj => ?_
 show splice z 0 6 c (0 * 6 + j) = _
 unfold splice; rw [if_pos (by omega)]; congr 1; omega
theorem awake_spec {k : Bool → Mem → Prop} (hk : ∀ m', k true m') : F27 m k := by
 unfold F27
 refine rti_spec (by unfold isU; omega) fun c1 h1 => newK_i fun b4 m3 hb4 K3 e4 O4 => ?_
 have hl1 : (rtiS 47 1 0 5).i = 5 := rfl
 have ho : ∀ x ∈ [rtiS 47 1 0 5], inOk x = true := fun x hx => by
  have hx : x = rtiS 47 1 0 5 := by simpa using hx
  subst hx; decide +kernel
 refine code_spec (one_row e4 h1) (by simp) (fun x hx => (inOk_p (ho x hx)).2.1) fun v5 m6 L6 K6 o6 => ?_
 refine machine_spec L6.r (fun i => byOf_rng _ i) (by simp) (v2 := .flat (.slice none 0 0)) (nd := 0) (fd := fun _ => 0) (.nil none _) (fun i hi => by omega) (by omega) C1 fun m1 e q c m8 K8 A8 => ?_
 have nl : ∀ (b o : Nat) (K : Bool → Prop), knilP (.ptr b o) K = K false := fun _ _ _ => rfl
 rw [nl]
 refine kif_f rfl ?_
 dsimp only [kptr]
 obtain ⟨S1, s1, q1⟩ := Q.prog (l := [rtiS 47 1 0 5]) (by simp) ho (D := { nd := (0 + 63) / 64 * 64, dk := imgB 0 fun _ => 0 }) rfl (i := 0) Q0 (by decide) (by decide) (by decide +kernel)
 obtain ⟨S2, s2, q2⟩ := Q.prog (l := [rtiS 47 1 0 5]) (by simp) ho (D := { nd := (0 + 63) / 64 * 64, dk := imgB 0 fun _ => 0 }) rfl (i := 1) q1 (by decide) (by decide) (by decide +kernel)
 obtain ⟨S3, s3, q3⟩ := Q.prog (l := [rtiS 47 1 0 5]) (by simp) ho (D := { nd := (0 + 63) / 64 * 64, dk := imgB 0 fun _ => 0 }) rfl (i := 2) q2 (by decide) (by decide) (by decide +kernel)
 have path : Path C1 4 _ 3 St0 (progB [rtiS 47 1 0 5]) S3 (progB [rtiS 47 1 0 5]) := .cons s1 (.cons s2 (.one s3))
 refine AtF.go (by decide) (by decide) path A8 fun m14 A14 => ?_
 refine kif_t rfl (kif_t rfl (A14.state fun cc hcc => ?_))
 have e1 : (sub cc 0 32) 1 = vu (S3.n 1) := by
  unfold sub; rw [if_pos (by omega), Nat.zero_add, hcc 1 (by omega)]; rfl
 have e3 : S3.n 1 = 5 := by
  rw [q3.reg 1 (by omega)]
  show run18 (rg S2) (opsOf nopS) 1 = 5
  have nop : ∀ f : Nat → Int, run18 f (opsOf nopS) 1 = f 1 := fun f => by
   have : opsOf nopS = [⟨1, 34, 0, 0, 0⟩, ⟨9, 0, 0, 34, 0⟩] := rfl
   rw [this]; rfl
  rw [nop, rg_q q2 (by omega)]
  show run18 (rg S1) (opsOf nopS) 1 = 5
  rw [nop, rg_q q1 (by omega)]
  show run18 (rg St0) (opsOf (rtiS 47 1 0 5)) 1 = 5
  decide +kernel
 rw [e1, e3]
 exact hk m14
end
structure Sr where
 n : List Int
 a : Bool
 b : Bool
 w : Bool
 t : Nat
def lg : List Int → Nat → Int
 | [], _ => 0
 | x :: _, 0 => x
 | _ :: l, i + 1 => lg l i
def isT (i : Nat) : Bool := i == 48 || i == 72
def toSt (s : Sr) : St := { n := fun i => match isT i with | true => (s.t : Int) | false => lg s.n i, p := fun i => match i == 36 with | true => s.a | false => match i == 37 with | true => s.b | false => match i == 71 with | true => s.w | false => false }
def lm (f : Nat → Int) : Nat → Nat → List Int
 | _, 0 => []
 | i, k + 1 => f i :: lm f (i + 1) k
def nf (S : St) (t : Nat) : Sr := ⟨lm (fun i => match isT i with | true => 0 | false => S.n i) 0 73, S.p 36, S.p 37, S.p 71, t⟩
theorem lg_lm (f : Nat → Int) : ∀ (k i j : Nat), lg (lm f i k) j = if j < k then f (i + j) else 0
 | 0, i, j => by simp [lm, lg]
 | k + 1, i, 0 => by simp [lm, lg]
 | k + 1, i, j + 1 => by
  show lg (lm f (i + 1) k) j = _
  rw [lg_lm f k (i + 1) j]
  by_cases c : j < k
  ·rw [if_pos c, if_pos (by omega)]; congr 1; omega
  ·rw [if_neg c, if_neg (by omega)]
structure Wl (t : Nat) (S : St) : Prop where
 hi : ∀ i, 73 ≤ i → S.n i = 0
 hp : ∀ i, i ≠ 36 → i ≠ 37 → i ≠ 71 → S.p i = false
 x : S.x = fun _ => .junk
 q : S.q = 0
 c : S.n 48 = t
 m : S.n 72 = t
def St.ct (S : St) (t : Nat) : St := (S.putN 72 t).putN 48 t
theorem putN_at (S : St) (i : Nat) (v : Int) (j : Nat) : (S.putN i v).n j = if j = i then v else S.n j := rfl
theorem ct_n (S : St) (t j : Nat) : (S.ct t).n j = if j = 48 then (t : Int) else if j = 72 then (t : Int) else S.n j := rfl
section
variable {t u : Nat} {S : St}
theorem toSt_nf (h : Wl t S) : toSt (nf S u) = S.ct u := by
 refine St.ext (fun i => ?_) (fun i => ?_) h.x.symm h.q.symm
 ·rw [ct_n]
  show (match isT i with | true => (u : Int) | false => lg (lm (fun i => match isT i with | true => 0 | false => S.n i) 0 73) i) = _
  rw [lg_lm, Nat.zero_add]
  by_cases c1 : i = 48
  ·subst c1; rfl
  by_cases c2 : i = 72
  ·subst c2; rfl
  have e : isT i = false := by simp [isT, c1, c2]
  rw [if_neg c1, if_neg c2]
  simp only [e]
  split
  ·rfl
  ·exact (h.hi i (by omega)).symm
 ·show (match i == 36 with | true => S.p 36 | false => match i == 37 with | true => S.p 37 | false => match i == 71 with | true => S.p 71 | false => false) = S.p i
  by_cases c1 : i = 36
  ·subst c1; rfl
  by_cases c2 : i = 37
  ·subst c2; rfl
  by_cases c3 : i = 71
  ·subst c3; rfl
  have e1 : (i == 36) = false := by simp [c1]
  have e2 : (i == 37) = false := by simp [c2]
  have e3 : (i == 71) = false := by simp [c3]
  rw [e1, e2, e3]
  exact (h.hp i c1 c2 c3).symm
theorem Wl.of (s : Sr) (hl : s.n.length ≤ 73) : Wl s.t (toSt s) := by
 refine ⟨fun i hi => ?_, fun i h1 h2 h3 => ?_, rfl, rfl, rfl, rfl⟩
 ·have e : isT i = false := by unfold isT; simp; omega
  show (match isT i with | true => (s.t : Int) | false => lg s.n i) = 0
  rw [e]
  have : ∀ (l : List Int) (j : Nat), l.length ≤ j → lg l j = 0 := by
   intro l
   induction l with
   | nil => intro j _; rfl
   | cons x l ih =>
    intro j hj
    cases j with
    | zero => simp at hj
    | succ j => exact ih j (by simpa using hj)
  exact this s.n i (by omega)
 ·show (match i == 36 with | true => s.a | false => match i == 37 with | true => s.b | false => match i == 71 with | true => s.w | false => false) = false
  have e1 : (i == 36) = false := by simp [h1]
  have e2 : (i == 37) = false := by simp [h2]
  have e3 : (i == 71) = false := by simp [h3]
  rw [e1, e2, e3]
theorem Wl.n (h : Wl t S) {i : Nat} (hi : i < 73) (h1 : i ≠ 48) (h2 : i ≠ 72) {v : Int} : Wl t (S.putN i v) :=
 ⟨fun j hj => (putN_other S v (by omega)).trans (h.hi j hj), h.hp, h.x, h.q, (putN_other S v (Ne.symm h1)).trans h.c, (putN_other S v (Ne.symm h2)).trans h.m⟩
theorem Wl.p (h : Wl t S) {i : Nat} (hi : i = 36 ∨ i = 37 ∨ i = 71) {v : Bool} : Wl t (S.putP i v) :=
 ⟨h.hi, fun j h1 h2 h3 => by show upd S.p i v j = false; unfold upd; rw [if_neg (by omega)]; exact h.hp j h1 h2 h3, h.x, h.q, h.c, h.m⟩
theorem Wl.line (h : Wl t S) (b : Bool) : Wl t (lineS S b) := by unfold lineS; split <;> exact h.n (by decide) (by decide) (by decide)
theorem Wl.set (h : Wl t S) {n v : Int} (hn : n < 32) : Wl t (setS S n v) := by
 unfold setS; split
 ·exact h
 ·exact h.n (by omega) (by omega) (by omega)
theorem Wl.bad (h : Wl t S) (v c : Int) : Wl t (badC S v c) := by
 unfold badC badS; split
 ·exact (h.n (by decide) (by decide) (by decide)).n (by decide) (by decide) (by decide)
 ·exact h.n (by decide) (by decide) (by decide)
theorem Wl.to (h : Wl t S) (pc : Int) : Wl t (toS S pc) := ((h.n (by decide) (by decide) (by decide)).n (by decide) (by decide) (by decide)).p (.inl rfl)
theorem Wl.enter (h : Wl t S) (c : Int) (r : Bool) : Wl t (enterS S c r) := by
 have h1 : Wl t (enterA S) := by
  unfold enterA; split
  ·split <;> exact (h.n (by decide) (by decide) (by decide)).n (by decide) (by decide) (by decide)
  ·exact h
 unfold enterS enterB
 exact ((h1.n (by decide) (by decide) (by decide)).to _).n (by decide) (by decide) (by decide)
theorem Wl.ret (h : Wl t S) : Wl t (returnS S) := ((h.to _).n (by decide) (by decide) (by decide)).p (.inr (.inl rfl))
theorem Wl.write (h : Wl t S) {n v : Int} (hn : n ≠ 9) : Wl t (writeS S n v) := by
 unfold writeS
 split
 ·exact h.n (by decide) (by decide) (by decide)
 split
 ·exact h.n (by decide) (by decide) (by decide)
 split
 ·exact h.n (by decide) (by decide) (by decide)
 split
 ·exact h.n (by omega) (by omega) (by omega)
 split
 ·exact (h.n (by decide) (by decide) (by decide)).n (by decide) (by decide) (by decide)
 split
 ·exact h.n (by decide) (by decide) (by decide)
 split
 ·exact h.n (by decide) (by decide) (by decide)
 ·exact h
theorem Wl.put (h : Wl t S) (b : Bool) : Wl t (putS S b) := by
 unfold putS
 dsimp only
 have hi : ∀ i : Int, 0 ≤ i → i < 8 → Wl t ((S.putN (55 + i.toNat * 2) (S.n 49)).putN (56 + i.toNat * 2) (S.n 41)) := fun i h0 h1 => (h.n (by omega) (by omega) (by omega)).n (by omega) (by omega) (by omega)
 refine hi _ ?_ ?_
 ·split
  ·omega
  ·exact (and_rng _ _).1
 ·split
  ·omega
  ·exact (and7 _).2
theorem Wl.adv (h : Wl t S) : Wl t (advS S) := ((h.n (by decide) (by decide) (by decide)).n (by decide) (by decide) (by decide)).p (.inl rfl)
theorem Wl.lift (h : Wl t S) (l : List Op19) : Wl t (liftS S l) := by
 have e : ∀ i, 34 ≤ i → (liftS S l).n i = S.n i := fun i hi => by
  show (if i < 34 then _ else S.n i) = _
  rw [if_neg (by omega)]
 exact ⟨fun i hi => (e i (by omega)).trans (h.hi i hi), h.hp, h.x, h.q, (e 48 (by decide)).trans h.c, (e 72 (by decide)).trans h.m⟩
theorem Wl.on (h : Wl t S) {x : In} (hd : x.d < 32) (a b : Int) : Wl t (onS S x a b) := by
 unfold onS
 dsimp only
 have h1 : Wl t ((S.putN 34 (S.n 35)).putN 35 (IntKind.wrap .u32 (S.n 35 + 4))) := (h.n (by decide) (by decide) (by decide)).n (by decide) (by decide) (by decide)
 have h3 : ∀ T : St, Wl t T → Wl t (if x.k = 8 then setS (T.putP 36 (classS x.k == 3)) x.d (IntKind.wrap .u32 (S.n 34 + 8)) else T.putP 36 (classS x.k == 3)) := fun T h => by
  split
  ·exact (h.p (.inl rfl)).set hd
  ·exact h.p (.inl rfl)
 refine h3 _ ?_
 split
 ·exact h1.n (by decide) (by decide) (by decide)
 ·exact h1
end
def goP (S : St) : St := match S.n 50 == 0 with
 | true => S
 | false => match decide (missS S ≤ 1) with
  | true => S.putN 52 (bits .or .u32 (S.n 52) 32768)
  | false => S
def entP (S : St) (c : Int) (r : Bool) : St := lineS (goP (enterS S c r)) false
def goonP (S : St) (x : In) (a b : Int) : St := lineS (match x.k == 60 with | true => goP S | false => onS (goP S) x a b) false
def opsP (x : In) : List Op19 :=
 if x.k = 13 ∨ x.k = 76 ∨ x.k = 77 then [] else if x.k = 53 then [⟨1, x.t, 0, 0, IntKind.wrap .u32 (x.i * 65536)⟩] else if x.k = 14 then [⟨2, x.d, 32, 0, 0⟩] else if x.k = 16 then [⟨2, x.d, 33, 0, 0⟩]
 else if x.k = 15 then [⟨2, 32, x.s, 0, 0⟩] else if x.k = 17 then [⟨2, 33, x.s, 0, 0⟩] else if x.k ≤ 3 then [⟨1, 34, 0, 0, IntKind.wrap .u32 x.h⟩, ⟨kindL x.k, x.d, x.t, 34, 0⟩] else if x.k ≤ 6 then [⟨kindL x.k, x.d, x.t, x.s, 0⟩]
 else if intoL x = x.t ∧ 46 ≤ x.k ∧ x.k ≤ 52 then [⟨1, 34, 0, 0, immL x⟩, ⟨kindL x.k, x.t, x.s, 34, 0⟩] else [⟨kindL x.k, x.d, x.s, x.t, 0⟩]
theorem ops_p {x : In} (h : plainS x = true) : opsOf x = opsP x := by
 unfold opsOf opsP
 by_cases c : x.k = 13 ∨ x.k = 76 ∨ x.k = 77
 ·rw [if_pos (.inr c), if_pos c]
 ·rw [if_neg (by rw [h]; simpa using c), if_neg c]
def liftP (S : St) (x : In) : St := lineS (advS (goP (liftS S (opsP x)))) false
section
variable {t : Nat} {S : St}
theorem goS_ct (h : Wl t S) (ht : t < 1000000) : (goS S 1).1 = (goP S).ct (t + 1) := by
 have e1 : IntKind.wrap .i64 ((t : Int) + 1) = ((t + 1 : Nat) : Int) := by rw [wrap64 (by omega) (by omega)]; omega
 have w1 : IntKind.wrap .u32 (1 : Int) = 1 := rfl
 have e2 : IntKind.wrap .u32 ((t : Int) + 1) = ((t + 1 : Nat) : Int) := by rw [wrap32]; omega
 unfold goS
 rw [if_neg (by decide), h.c, h.m, w1, e1, e2]
 unfold goP
 cases c0 : S.n 50 == 0 with
 | true =>
  have c0 : S.n 50 = 0 := by simpa using c0
  have : ¬ missS S ≤ 1 := by
   unfold missS
   rw [c0, h.c]
   split <;> omega
  rw [if_neg this]
  rfl
 | false =>
  dsimp only
  by_cases c : missS S ≤ 1
  ·rw [if_pos c, decide_eq_true c]
   dsimp only
   refine St.ext (fun j => ?_) (fun j => rfl)
   rw [ct_n, putN_at, putN_at, putN_at, putN_at]
   by_cases c1 : j = 52
   ·subst c1; rfl
   ·simp only [if_neg c1]
  ·rw [if_neg c, decide_eq_false c]
   rfl
theorem Wl.go (h : Wl t S) : Wl t (goP S) := by
 unfold goP
 split
 ·exact h
 ·split
  ·exact h.n (by decide) (by decide) (by decide)
  ·exact h
theorem ct_putN (u : Nat) {i : Nat} (h1 : i ≠ 48) (h2 : i ≠ 72) (v : Int) : (S.ct u).putN i v = (S.putN i v).ct u := by
 refine St.ext (fun j => ?_) (fun j => rfl)
 rw [putN_at, ct_n, ct_n, putN_at]
 by_cases c1 : j = i
 ·subst c1; simp only [if_neg h1, if_neg h2, if_true]
 ·simp only [if_neg c1]
theorem ct_at (u : Nat) {i : Nat} (h1 : i ≠ 48) (h2 : i ≠ 72) : (S.ct u).n i = S.n i := by rw [ct_n, if_neg h1, if_neg h2]
theorem ct_line (u : Nat) (b : Bool) : lineS (S.ct u) b = (lineS S b).ct u := by
 unfold lineS
 rw [ct_at u (by decide) (by decide)]
 split <;> exact ct_putN u (by decide) (by decide) _
theorem ct_adv (u : Nat) : advS (S.ct u) = (advS S).ct u := by
 unfold advS
 rw [ct_at u (i := 35) (by decide) (by decide), ct_putN u (by decide) (by decide), ct_putN u (by decide) (by decide)]
 rfl
theorem ct_set (u : Nat) {n v : Int} (hn : n < 32) : setS (S.ct u) n v = (setS S n v).ct u := by
 unfold setS
 split
 ·rfl
 ·exact ct_putN u (by omega) (by omega) _
theorem ct_on (u : Nat) {x : In} (hd : x.d < 32) (a b : Int) : onS (S.ct u) x a b = (onS S x a b).ct u := by
 have h3 : ∀ T : St, (if x.k = 8 then setS ((T.ct u).putP 36 (classS x.k == 3)) x.d (IntKind.wrap .u32 (S.n 34 + 8)) else (T.ct u).putP 36 (classS x.k == 3)) = (if x.k = 8 then setS (T.putP 36 (classS x.k == 3)) x.d (IntKind.wrap .u32 (S.n 34 + 8)) else T.putP 36 (classS x.k == 3)).ct u := fun T => by
  split
  ·exact ct_set (S := T.putP 36 (classS x.k == 3)) u hd
  ·rfl
 unfold onS
 dsimp only
 rw [ct_at u (i := 35) (by decide) (by decide), ct_at u (i := 34) (by decide) (by decide), ct_putN u (by decide) (by decide), ct_putN u (by decide) (by decide)]
 by_cases c : takenB x a b = true
 ·simp only [if_pos c]
  rw [ct_putN u (by decide) (by decide)]
  exact h3 _
 ·simp only [if_neg c]
  exact h3 _
theorem ent_ct (h : Wl t S) (ht : t < 1000000) (c : Int) (r : Bool) : entS S c r = (entP S c r).ct (t + 1) := by
 unfold entS entP
 rw [goS_ct (h.enter c r) ht, ct_line]
theorem Wl.ent (h : Wl t S) (c : Int) (r : Bool) : Wl t (entP S c r) := (h.enter c r).go.line false
theorem goon_ct (h : Wl t S) (ht : t < 1000000) {x : In} (hd : x.d < 32) (a b : Int) : goonS S x a b = (goonP S x a b).ct (t + 1) := by
 unfold goonS goonP
 rw [goS_ct h ht]
 by_cases c : x.k = 60
 ·rw [if_pos c, beq_iff_eq.2 c, ct_line]
 ·have : (x.k == 60) = false := by simpa using c
  rw [if_neg c, this, ct_on _ hd, ct_line]
theorem Wl.goon (h : Wl t S) {x : In} (hd : x.d < 32) (a b : Int) : Wl t (goonP S x a b) := by
 unfold goonP
 split
 ·exact h.go.line false
 ·exact (h.go.on hd a b).line false
theorem lift_ct (h : Wl t S) (ht : t < 1000000) {x : In} (hp : plainS x = true) : liftX S x = (liftP S x).ct (t + 1) := by
 unfold liftX liftP
 rw [ops_p hp, goS_ct (h.lift _) ht, ct_adv, ct_line]
theorem Wl.liftP (h : Wl t S) (x : In) : Wl t (liftP S x) := ((h.lift _).go.adv).line false
end
structure InR (x : In) : Prop where
 r : rightS x = true
 i0 : 0 ≤ x.i
 i1 : x.i < 65536
 o : ∀ o ∈ opsOf x, OpK o
structure Prog (C : Nat → Bool) (p : Nat) (I : Int → In) (B : Nat → Int) : Prop where
 i : ∀ a : Int, 0 ≤ a → a < p * 1024 → a % 4 = 0 → C (a / 1024).toNat = true → ofS (wdB B a 4) = I a ∧ InR (I a)
theorem Prog.cod {C : Nat → Bool} {p : Nat} {I : Int → In} {B B' : Nat → Int} (h : Prog C p I B) (hc : Cod C B B') : Prog C p I B' := by
 refine ⟨fun a a0 a1 a4 hC => ?_⟩
 rw [show wdB B' a 4 = wdB B a 4 from ldv_congr _ fun t ht => hc _ (by
  have ht : t < 4 := ht
  have : (a.toNat + t) / 1024 = (a / 1024).toNat := by omega
  rw [this]; exact hC)]
 exact h.i a a0 a1 a4 hC
theorem Prog.page {C : Nat → Bool} {p : Nat} {I : Int → In} {B : Nat → Int} (h : Prog C p I B) {a : Int} (a0 : 0 ≤ a) (a1 : a < p * 1024) (a4 : a % 4 = 0) (hC : C (a / 1024).toNat = true) : PageOk B a := fun i hi => by
 have e := (h.i (a + 4 * i) (by omega) (by omega) (by omega) (by rw [hi]; exact hC))
 unfold inAt wdAt
 rw [e.1]
 exact e.2.o
inductive Hint
 | no
 | br (c : Bool)
 | ld (a : Int)
 | st (a : Int)
def refP (S : St) (x : In) : Int :=
 if S.p 36 = true ∧ (classS x.k = 3 ∨ x.k = 60) then 10
 else if userS S = true ∧ 54 ≤ x.k ∧ x.k ≤ 61 then 11
 else if x.k = 62 then 11
 else if x.k = 11 then 8
 else if x.k = 12 then 9
 else if trapsS x (S.n x.s.toNat) (S.n x.t.toNat) = false then -1
 else if x.k = 34 then 13 else 12
theorem ref_p {S : St} {x : In} (h : rightS x = true) : refS S x = refP S x := by
 unfold refS refP
 rw [if_neg (c := rightS x = false) (by rw [h]; simp)]
def fxP (x : In) : Bool := exK x.k && decide (0 ≤ x.s) && decide (x.s < 32) && decide (0 ≤ x.t) && decide (x.t < 32) && decide (0 ≤ x.d) && decide (x.d < 32) && decide (0 ≤ x.h) && decide (x.h < 32)
theorem fx_p {x : In} (h : fxP x = true) (hi : InR x) : FX x := by
 unfold fxP at h
 simp only [Bool.and_eq_true, decide_eq_true_eq] at h
 obtain ⟨⟨⟨⟨⟨⟨⟨⟨a, b⟩, c⟩, d⟩, e⟩, f⟩, g⟩, i⟩, j⟩ := h
 exact ⟨a, b, c, d, e, f, g, i, j, hi.i0, hi.i1⟩
def placeP (C : Nat → Bool) (p : Nat) (S : St) : Bool :=
 let L := liesS S (S.n 34) 4 false
 decide (L.1 < 520093696) && (L.2.1 != -1 || decide (p * 1024 ≤ L.1) || (C (L.1 / 1024).toNat && decide (0 ≤ L.1 ∧ L.1 % 4 = 0)))
def calmP (S : St) : Bool := !S.p 71 && (bits .andNot .u32 (S.n 52) 1024 == S.n 52) && (S.n 0 == 0)
def goonC (S : St) (x : In) (c : Bool) : St :=
 let T := goP S
 lineS (((T.putN 34 (T.n 35)).putN 35 (match c with | true => targetB x (T.n 34) (S.n x.s.toNat) | false => IntKind.wrap .u32 (T.n 35 + 4))).putP 36 true) false
def exeK (C : Nat → Bool) (p : Nat) (h : Hint) (S : St) (x : In) (u : Nat) (B : Nat → Int) (k : Sr → (Nat → Int) → Prop) : Prop :=
 match refP S x == -1 with
 | false => match classS x.k != 4 && classS x.k != 5 with
  | false => False
  | true => k (nf (entP S (refP S x) false) u) B
 | true => match x.k == 22 || x.k == 34 with
  | true => False
  | false => match h with
   | .br c => (x.k == 42 || x.k == 43) = true ∧ takenB x (S.n x.s.toNat) (S.n x.t.toNat) = c ∧ k (nf (goonC S x c) u) B
   | .ld a => (classS x.k == 4 && x.k != 74) = true ∧ liesS S (vaS S x) (sizeS x.k) false = (a, -1, false) ∧ evenR p a (sizeS x.k) ∧ k (nf (goonP (setS S x.t (wdB B a (sizeS x.k))) x 0 0) u) B
   | .st a => (classS x.k == 5 && x.k != 75 && !S.p 37) = true ∧ liesS S (vaS S x) (sizeS x.k) true = (a, -1, false) ∧ evenR p a (sizeS x.k) ∧ C (a / 1024).toNat = false ∧ k (nf (goonP S x 0 0) u) (stv B a (sizeS x.k) (S.n x.t.toNat))
   | .no =>
    let L := liesS S (vaS S x) (sizeS x.k) (classS x.k == 5)
    match (classS x.k != 4 && classS x.k != 5) || decide ((L.1 < 520093696 ∨ 520094080 ≤ L.1) ∧ (classS x.k = 4 ∨ L.2.1 ≠ -1 ∨ (0 ≤ L.1 ∧ C (L.1 / 1024).toNat = false))) with
    | false => False
    | true => match x.k == 55 && x.d == 9 with
     | true => False
     | false =>
      let A := actS p B S x
      match A.2.2.1 == -1 with
      | false => k (nf (entP A.1 A.2.2.1 A.2.2.2) u) A.2.1
      | true => k (nf (goonP A.1 x (S.n x.s.toNat) (S.n x.t.toNat)) u) A.2.1
def stpK (C : Nat → Bool) (p : Nat) (I : Int → In) (h : Hint) (s : Sr) (B : Nat → Int) (k : Sr → (Nat → Int) → Prop) : Prop :=
 let S := toSt s
 match calmP S && placeP C p S with
 | false => False
 | true => match takenS S with
  | true => k (nf (entP S 0 false) (s.t + 1)) B
  | false =>
   let L := liesS S (S.n 34) 4 false
   match L.2.1 == -1 with
   | false => k (nf (entP (badC S (S.n 34) L.2.1) L.2.1 L.2.2) (s.t + 1)) B
   | true => match decide (L.1 < p * 1024) with
    | false => False
    | true =>
     let x := I L.1
     match classS x.k == 1 && !S.p 36 with
     | true => k (nf (liftP S x) (s.t + 1)) B
     | false => match fxP x && (x.k != 1 || x.d == 0) with
      | false => False
      | true => exeK C p h S x (s.t + 1) B k
def runK (C : Nat → Bool) (p : Nat) (I : Int → In) : List Hint → Sr → (Nat → Int) → (Sr → (Nat → Int) → Prop) → Prop
 | [], s, B, k => k s B
 | h :: l, s, B, k => stpK C p I h s B fun s' B' => runK C p I l s' B' k
section
variable {C : Nat → Bool} {p : Nat} {B : Nat → Int} {S : St} {x : In} {t : Nat}
theorem goonP_ab {a b c d : Int} (hk : x.k ≠ 7 ∧ x.k ≠ 8 ∧ x.k ≠ 42 ∧ x.k ≠ 43) : goonP S x a b = goonP S x c d := by
 obtain ⟨h1, h2, h3, h4⟩ := hk
 have e : ∀ T : St, onS T x a b = onS T x c d := fun T => by
  unfold onS
  have t1 : ∀ u v, takenB x u v = false := fun u v => by
   unfold takenB; rw [if_neg (by omega), if_neg h3, if_neg h4]
  rw [t1, t1]
  rfl
 unfold goonP
 rw [e]
theorem Wl.load (h : Wl t S) (ht : x.t < 32) : Wl t (loadS p B S x).1 := by
 unfold loadS
 dsimp only
 split
 ·exact h.bad _ _
 split
 ·refine Wl.set ?_ ht
  split
  ·exact (h.p (.inr (.inl rfl))).n (by decide) (by decide) (by decide)
  ·exact h
 ·exact h
theorem Wl.store (h : Wl t S) (ht : x.t < 32) : Wl t (storeS p B S x).1 := by
 unfold storeS
 dsimp only
 split
 ·exact h.bad _ _
 split
 ·exact (h.set ht).p (.inr (.inl rfl))
 split
 ·have h1 : Wl t (if x.k = 75 then setS S x.t 1 else S) := by
   split
   ·exact h.set ht
   ·exact h
  dsimp only
  generalize (if x.k = 75 then setS S x.t 1 else S) = S1 at h1
  split
  ·exact h1.p (.inr (.inl rfl))
  ·exact h1
 ·exact h
theorem Wl.act (h : Wl t S) (ht : x.t < 32) (h9 : x.k = 55 → x.d ≠ 9) : Wl t (actS p B S x).1 := by
 unfold actS
 split
 ·exact h.load ht
 split
 ·exact h.store ht
 split
 ·dsimp only
  split
  ·exact h.ret
  ·unfold systemS
   split
   ·exact h.set ht
   split
   ·rename_i c; exact h.write (h9 c)
   split
   ·exact h.put _
   ·exact h
 ·show Wl t (plainX S x)
  unfold plainX
  split
  ·exact h.set ht
  ·exact h
theorem size_14 (k : Int) : sizeS k = 1 ∨ sizeS k = 4 := by unfold sizeS; split <;> simp
theorem stv_cod {a n v : Int} (a0 : 0 ≤ a) (he : evenR p a n) (hC : C (a / 1024).toNat = false) : Cod C B (stv B a n v) := fun j hj => by
 unfold stv
 rw [if_neg]
 rintro ⟨h1, h2⟩
 obtain ⟨e1, e2, _⟩ := he
 have : j / 1024 = (a / 1024).toNat := by rcases e1 with rfl | rfl | rfl <;> omega
 rw [this, hC] at hj; cases hj
theorem store_cod (hC : classS x.k = 5 → (liesS S (vaS S x) (sizeS x.k) true).2.1 = -1 → (liesS S (vaS S x) (sizeS x.k) true).1 ≥ 0 ∧ C ((liesS S (vaS S x) (sizeS x.k) true).1 / 1024).toNat = false) : Cod C B (actS p B S x).2.1 := by
 unfold actS
 split
 ·unfold loadS; dsimp only
  split
  ·exact fun _ _ => rfl
  split <;> exact fun _ _ => rfl
 split
 ·rename_i c5
  unfold storeS; dsimp only
  split
  ·exact fun _ _ => rfl
  rename_i hm
  obtain ⟨h0, h1⟩ := hC c5 (by simpa using hm)
  split
  ·exact fun _ _ => rfl
  split
  ·rename_i he; exact stv_cod h0 he h1
  ·exact fun _ _ => rfl
 split <;> exact fun _ _ => rfl
theorem exe_ok {h : Hint} {k : Sr → (Nat → Int) → Prop} (hw : Wl t S) (ht : t < 1000000) (hi : InR x) (hx : FX x) (hz : x.k = 1 → x.d = 0) (hh : exeK C p h S x (t + 1) B k) :
  ∃ s' B', Okx p S x ∧ (execS p B S x).1 = toSt s' ∧ (execS p B S x).2.1 = B' ∧ (refS S x = -1 → classS x.k = 5 → (liesS S (vaS S x) (sizeS x.k) true).2.1 = -1 → 0 ≤ (liesS S (vaS S x) (sizeS x.k) true).1 ∧ C ((liesS S (vaS S x) (sizeS x.k) true).1 / 1024).toNat = false) ∧ Cod C B B' ∧ s'.n.length = 73 ∧ s'.t = t + 1 ∧ k s' B' := by
 have er := ref_p (S := S) hi.r
 have okt : refP S x = -1 → (x.k == 22 || x.k == 34) = false → Okx p S x → True := fun _ _ _ => trivial
 unfold exeK at hh
 cases hr : refP S x == -1 with
 | false =>
  rw [hr] at hh
  dsimp only at hh
  cases h45 : (classS x.k != 4 && classS x.k != 5) with
  | false => rw [h45] at hh; exact hh.elim
  | true =>
  rw [h45] at hh
  dsimp only at hh
  simp only [Bool.and_eq_true, bne_iff_ne] at h45
  have hr : refP S x ≠ -1 := by simpa using hr
  have ex : execS p B S x = (entS S (refP S x) false, B, refP S x) := by
   unfold execS
   rw [er]
   exact if_pos hr
  refine ⟨_, B, ⟨fun c => absurd c h45.1, fun c => absurd c h45.2, hz, fun c => absurd (er ▸ c) hr⟩, ?_, by rw [ex], fun c => absurd (er ▸ c) hr, fun _ _ => rfl, rfl, rfl, hh⟩
  rw [ex]
  exact (ent_ct hw ht _ _).trans (toSt_nf (hw.ent _ _)).symm
 | true =>
  rw [hr] at hh
  have hr : refP S x = -1 := by simpa using hr
  dsimp only at hh
  cases h2 : (x.k == 22 || x.k == 34) with
  | true => rw [h2] at hh; exact hh.elim
  | false =>
   rw [h2] at hh
   dsimp only at hh
   have h2 : x.k ≠ 22 ∧ x.k ≠ 34 := by simpa using h2
   have ex : ∀ A, actS p B S x = A → execS p B S x = if A.2.2.1 ≠ -1 then (entS A.1 A.2.2.1 A.2.2.2, A.2.1, A.2.2.1) else (goonS A.1 x (S.n x.s.toNat) (S.n x.t.toNat), A.2.1, -1) := fun A hA => by
    unfold execS
    rw [er, hr, hA]
    rfl
   cases h with
   | br c =>
    obtain ⟨h1, h3, hh⟩ := hh
    have hk : x.k = 42 ∨ x.k = 43 := by simpa using h1
    have hcl : classS x.k = 3 := by rcases hk with e | e <;> rw [e] <;> decide
    have ha : actS p B S x = (S, B, -1, false) := by
     unfold actS plainX
     rw [hcl, if_neg (by decide), if_neg (by decide), if_neg (by decide), if_neg (by omega)]
    have e2 := ex _ ha
    rw [if_neg (by simp)] at e2
    have eg : goonP S x (S.n x.s.toNat) (S.n x.t.toNat) = goonC S x c := by
     unfold goonP goonC onS
     have k60 : (x.k == 60) = false := beq_false_of_ne (by omega)
     rw [k60, h3, hcl]
     dsimp only
     cases c with
     | true =>
      rw [if_pos rfl, if_neg (by omega)]
      congr 2
      rw [St.putNN]
     | false => rw [if_neg Bool.false_ne_true, if_neg (by omega)]; rfl
    refine ⟨_, B, ⟨fun q => (by rw [hcl] at q; cases q), fun q => (by rw [hcl] at q; cases q), hz, fun _ => h2⟩, ?_, by rw [e2], fun _ q => (by rw [hcl] at q; cases q), fun _ _ => rfl, rfl, rfl, hh⟩
    rw [e2, ← eg]
    exact (goon_ct hw ht hx.d1 _ _).trans (toSt_nf (hw.goon hx.d1 _ _)).symm
   | ld a =>
    obtain ⟨h1, h3, h4, hh⟩ := hh
    simp only [Bool.and_eq_true, beq_iff_eq, bne_iff_ne] at h1
    obtain ⟨hcl, h74⟩ := h1
    have ha : actS p B S x = (setS S x.t (wdB B a (sizeS x.k)), B, -1, false) := by
     unfold actS loadS
     rw [if_pos hcl, h3]
     dsimp only
     rw [if_neg (by simp), if_pos h4, if_neg h74]
    have e2 := ex _ ha
    rw [if_neg (by simp)] at e2
    have hkk : x.k ≠ 7 ∧ x.k ≠ 8 ∧ x.k ≠ 42 ∧ x.k ≠ 43 := by
     refine ⟨fun e => ?_, fun e => ?_, fun e => ?_, fun e => ?_⟩ <;> (rw [e] at hcl; revert hcl; decide)
    refine ⟨_, B, ⟨fun _ _ => ?_, fun q => (by rw [hcl] at q; cases q), hz, fun _ => h2⟩, ?_, by rw [e2], fun _ q => (by rw [hcl] at q; cases q), fun _ _ => rfl, rfl, rfl, hh⟩
    ·rw [h3]
     obtain ⟨_, _, e⟩ := h4
     unfold inR at e
     have := size_14 x.k
     exact .inl (by dsimp only; omega)
    ·rw [e2]
     have w1 : Wl t (setS S x.t (wdB B a (sizeS x.k))) := hw.set hx.t1
     refine (goon_ct w1 ht hx.d1 _ _).trans ?_
     rw [goonP_ab (c := 0) (d := 0) hkk]
     exact (toSt_nf (w1.goon hx.d1 _ _)).symm
   | st a =>
    obtain ⟨h1, h3, h4, h5, hh⟩ := hh
    simp only [Bool.and_eq_true, beq_iff_eq, bne_iff_ne, Bool.not_eq_true'] at h1
    obtain ⟨⟨hcl, h75⟩, h37⟩ := h1
    have a0 : 0 ≤ a := by have := (lies_u (S := S) (va := vaS S x) (n := sizeS x.k) (t := true)).1; rw [h3] at this; exact this
    have hp37 : S.putP 37 false = S := by rw [← h37]; exact st_sameP
    have ha : actS p B S x = (S, stv B a (sizeS x.k) (S.n x.t.toNat), -1, false) := by
     unfold actS storeS
     rw [if_neg (by rw [hcl]; decide), if_pos hcl, h3]
     dsimp only
     rw [if_neg (by simp), if_neg (by omega), if_pos h4, if_neg h75, hp37]
     split <;> rfl
    have e2 := ex _ ha
    rw [if_neg (by simp)] at e2
    have hkk : x.k ≠ 7 ∧ x.k ≠ 8 ∧ x.k ≠ 42 ∧ x.k ≠ 43 := by
     refine ⟨fun e => ?_, fun e => ?_, fun e => ?_, fun e => ?_⟩ <;> (rw [e] at hcl; revert hcl; decide)
    refine ⟨_, _, ⟨fun q => (by rw [hcl] at q; cases q), fun _ _ => ?_, hz, fun _ => h2⟩, ?_, by rw [e2], fun _ _ _ => by rw [h3]; exact ⟨a0, h5⟩, stv_cod a0 h4 h5, rfl, rfl, hh⟩
    ·rw [h3]
     obtain ⟨_, _, e⟩ := h4
     unfold inR at e
     have := size_14 x.k
     exact .inl (by dsimp only; omega)
    ·rw [e2]
     refine (goon_ct hw ht hx.d1 _ _).trans ?_
     rw [goonP_ab (c := 0) (d := 0) hkk]
     exact (toSt_nf (hw.goon hx.d1 _ _)).symm
   | no =>
    dsimp only at hh
    cases h3 : (classS x.k != 4 && classS x.k != 5) || decide (((liesS S (vaS S x) (sizeS x.k) (classS x.k == 5)).1 < 520093696 ∨ 520094080 ≤ (liesS S (vaS S x) (sizeS x.k) (classS x.k == 5)).1) ∧ (classS x.k = 4 ∨ (liesS S (vaS S x) (sizeS x.k) (classS x.k == 5)).2.1 ≠ -1 ∨ (0 ≤ (liesS S (vaS S x) (sizeS x.k) (classS x.k == 5)).1 ∧ C ((liesS S (vaS S x) (sizeS x.k) (classS x.k == 5)).1 / 1024).toNat = false))) with
    | false => rw [h3] at hh; exact hh.elim
    | true =>
     rw [h3] at hh
     dsimp only at hh
     simp only [Bool.or_eq_true, Bool.and_eq_true, bne_iff_ne, decide_eq_true_eq] at h3
     cases h9 : (x.k == 55 && x.d == 9) with
     | true => rw [h9] at hh; exact hh.elim
     | false =>
      rw [h9] at hh
      dsimp only at hh
      have h9 : x.k = 55 → x.d ≠ 9 := fun e => by rw [e] at h9; simpa using h9
      have w1 : Wl t (actS p B S x).1 := hw.act hx.t1 h9
      have f4 : ((4 : Int) == 5) = false := rfl
      have f5 : ((5 : Int) == 5) = true := rfl
      have h5 : classS x.k = 5 → (liesS S (vaS S x) (sizeS x.k) true).2.1 = -1 → 0 ≤ (liesS S (vaS S x) (sizeS x.k) true).1 ∧ C ((liesS S (vaS S x) (sizeS x.k) true).1 / 1024).toNat = false := fun c hm => by
       rw [c, f5] at h3
       rcases h3 with h3 | ⟨_, h3 | h3 | h3⟩
       ·exact absurd rfl h3.2
       ·cases h3
       ·exact absurd hm h3
       ·exact h3
      have okx : Okx p S x := by
       refine ⟨fun c _ => ?_, fun c _ => ?_, hz, fun _ => h2⟩
       ·rw [c, f4] at h3
        rcases h3 with h3 | ⟨h3, _⟩
        ·exact absurd rfl h3.1
        ·exact .inr h3
       ·rw [c, f5] at h3
        rcases h3 with h3 | ⟨h3, _⟩
        ·exact absurd rfl h3.2
        ·exact .inr h3
      have e2 := ex _ rfl
      cases hc : (actS p B S x).2.2.1 == -1 with
      | false =>
       rw [hc] at hh
       rw [if_pos (by simpa using hc)] at e2
       refine ⟨_, _, okx, ?_, by rw [e2], fun _ => h5, store_cod h5, rfl, rfl, hh⟩
       rw [e2]
       exact (ent_ct w1 ht _ _).trans (toSt_nf (w1.ent _ _)).symm
      | true =>
       rw [hc] at hh
       rw [if_neg (by simpa using hc)] at e2
       refine ⟨_, _, okx, ?_, by rw [e2], fun _ => h5, store_cod h5, rfl, rfl, hh⟩
       rw [e2]
       exact (goon_ct w1 ht hx.d1 _ _).trans (toSt_nf (w1.goon hx.d1 _ _)).symm
end
section
variable {C : Nat → Bool} {p : Nat} {I : Int → In} {D : Dv}
theorem stp_ok (hp : p ≤ 64) (hD : D.ev = []) {h : Hint} {s : Sr} {B : Nat → Int} {k : Sr → (Nat → Int) → Prop} (hl : s.n.length ≤ 73) (hP : Prog C p I B) (ht : s.t < 1000000) (hh : stpK C p I h s B k) :
  ∃ s' B', StepC C p D (toSt s) B (toSt s') B' ∧ Cod C B B' ∧ s'.n.length = 73 ∧ s'.t = s.t + 1 ∧ k s' B' := by
 have hw := Wl.of s hl
 unfold stpK at hh
 dsimp only at hh
 generalize hS : toSt s = S at hh hw ⊢
 cases hc : calmP S && placeP C p S with
 | false => rw [hc] at hh; exact hh.elim
 | true =>
  rw [hc] at hh
  dsimp only at hh
  rw [Bool.and_eq_true] at hc
  obtain ⟨hcalm, hplace⟩ := hc
  have calm : Calm S ∧ S.n 0 = 0 := by
   unfold calmP at hcalm
   simp only [Bool.and_eq_true, Bool.not_eq_true', beq_iff_eq] at hcalm
   exact ⟨⟨hcalm.1.1, hcalm.1.2⟩, hcalm.2⟩
  unfold placeP at hplace
  simp only [Bool.and_eq_true, Bool.or_eq_true, decide_eq_true_eq, bne_iff_ne] at hplace
  obtain ⟨hdev, hplace⟩ := hplace
  have due : dueD D (S.n 72) = false := by unfold dueD nextD; rw [hD]; rfl
  have pl : Place C p B S := ⟨fun a r e hlt => by
   rw [e] at hplace
   rcases hplace with (h | h) | h
   ·exact absurd rfl h
   ·dsimp only at h; omega
   ·exact ⟨h.1, hP.page h.2.1 hlt h.2.2 h.1⟩⟩
  cases hT : takenS S with
  | true =>
   rw [hT] at hh
   have es : stepS p B S = (entS S 0 false, B, 0) := by unfold stepS; rw [if_pos hT]
   refine ⟨_, B, ⟨calm.1, calm.2, due, pl, fun _ _ => rfl, .inl ⟨⟨calm.1, calm.2, .inr (.inl hdev), fun h => by rw [hT] at h; cases h⟩, ?_, by rw [es], fun w => by have := w.1; rw [hT] at this; cases this⟩⟩, fun _ _ => rfl, rfl, rfl, hh⟩
   rw [es]
   exact (ent_ct hw ht _ _).trans (toSt_nf (hw.ent _ _)).symm
  | false =>
   rw [hT] at hh
   dsimp only at hh
   cases hL : (liesS S (S.n 34) 4 false).2.1 == -1 with
   | false =>
    rw [hL] at hh
    have hL : (liesS S (S.n 34) 4 false).2.1 ≠ -1 := by simpa using hL
    have es : stepS p B S = (entS (badC S (S.n 34) (liesS S (S.n 34) 4 false).2.1) (liesS S (S.n 34) 4 false).2.1 (liesS S (S.n 34) 4 false).2.2, B, (liesS S (S.n 34) 4 false).2.1) := by
     unfold stepS
     rw [if_neg (by rw [hT]; simp)]
     dsimp only
     rw [if_pos hL]
    refine ⟨_, B, ⟨calm.1, calm.2, due, pl, fun _ _ => rfl, .inl ⟨⟨calm.1, calm.2, .inr (.inl hdev), fun _ h => absurd h hL⟩, ?_, by rw [es], fun w => absurd w.2.1 hL⟩⟩, fun _ _ => rfl, rfl, rfl, hh⟩
    rw [es]
    exact (ent_ct (hw.bad _ _) ht _ _).trans (toSt_nf ((hw.bad _ _).ent _ _)).symm
   | true =>
    rw [hL] at hh
    dsimp only at hh
    have hL : (liesS S (S.n 34) 4 false).2.1 = -1 := by simpa using hL
    generalize hLL : liesS S (S.n 34) 4 false = L at hh hL hplace hdev
    obtain ⟨a, cd, r⟩ := L
    dsimp only at hh hL hplace hdev
    subst hL
    by_cases ha : a < p * 1024
    rotate_left
    ·rw [decide_eq_false ha] at hh; exact hh.elim
    rw [decide_eq_true ha] at hh
    dsimp only at hh
    have hpa : C (a / 1024).toNat = true ∧ 0 ≤ a ∧ a % 4 = 0 := by
     rcases hplace with (h | h) | h
     ·exact absurd rfl h
     ·omega
     ·exact h
    obtain ⟨hC, a0, a4⟩ := hpa
    obtain ⟨hI, hR⟩ := hP.i a a0 ha a4 hC
    have eI : instS B S = I a := by unfold instS; rw [hLL]; exact hI
    have hev : evenR p a 4 := ⟨by simp, a4, by unfold inR; omega⟩
    have es := step_exec (p := p) (B := B) hT hLL hev
    rw [hI] at es
    cases hq : classS (I a).k == 1 && !S.p 36 with
    | true =>
     rw [hq] at hh
     simp only [Bool.and_eq_true, Bool.not_eq_true'] at hq
     have hpl : plainS (I a) = true := by unfold plainS; rw [hR.r, hq.1]; rfl
     refine ⟨_, B, ⟨calm.1, calm.2, due, pl, fun _ _ => rfl, .inr ⟨hT, hq.2, ⟨a, r, hLL, ha⟩, by rw [eI]; exact hpl, ?_, rfl⟩⟩, fun _ _ => rfl, rfl, rfl, hh⟩
     rw [eI]
     exact (toSt_nf (hw.liftP _)).trans (lift_ct hw ht hpl).symm
    | false =>
     rw [hq] at hh
     dsimp only at hh
     cases hf : fxP (I a) && ((I a).k != 1 || (I a).d == 0) with
     | false => rw [hf] at hh; exact hh.elim
     | true =>
      rw [hf] at hh
      dsimp only at hh
      simp only [Bool.and_eq_true, Bool.or_eq_true, bne_iff_ne, beq_iff_eq] at hf
      have hx := fx_p hf.1 hR
      obtain ⟨s', B', okx, e1, e2, hwr, cod, l', t', hk⟩ := exe_ok hw ht hR hx (fun h => hf.2.resolve_left fun g => g h) hh
      refine ⟨s', B', ⟨calm.1, calm.2, due, pl, cod, .inl ⟨⟨calm.1, calm.2, .inr (.inl (by rw [hLL]; exact hdev)), fun _ _ _ => by rw [eI]; exact ⟨hx, okx⟩⟩, by rw [es]; exact e1, by rw [es]; exact e2, fun w j hj => ?_⟩⟩, cod, l', t', hk⟩
      have w4 := w.2.2.2
      rw [eI] at w4
      have hm : (liesS (toSt s) (vaS (toSt s) (I a)) (sizeS (I a).k) true).2.1 = -1 := by
       rw [hS]
       have h4 := w4.2.2.2
       unfold storeS at h4
       dsimp only at h4
       split at h4
       ·rename_i hne; exact absurd h4 hne
       ·rename_i hne; simpa using hne
      rw [hS] at hm
      obtain ⟨g1, g2⟩ := hwr w4.1 w4.2.1 hm
      unfold wrA at hj
      rw [eI] at hj
      rw [← hj] at g2
      simpa using g2
theorem run_ok (hp : p ≤ 64) (hD : D.ev = []) : ∀ (l : List Hint) {s : Sr} {B : Nat → Int} {k : Sr → (Nat → Int) → Prop}, s.n.length ≤ 73 → Prog C p I B → s.t + l.length < 1000000 → runK C p I l s B k →
  ∃ s' B', Path C p D l.length (toSt s) B (toSt s') B' ∧ Cod C B B' ∧ s'.n.length ≤ 73 ∧ s'.t = s.t + l.length ∧ k s' B'
 | [], s, B, k, hl, hP, ht, hh => ⟨s, B, .nil _ _, fun _ _ => rfl, hl, rfl, hh⟩
 | h :: l, s, B, k, hl, hP, ht, hh => by
  rw [List.length_cons] at ht
  obtain ⟨s1, B1, st, c1, l1, t1, h1⟩ := stp_ok hp hD hl hP (by omega) hh
  obtain ⟨s2, B2, pa, c2, l2, t2, h2⟩ := run_ok hp hD l (Nat.le_of_eq l1) (hP.cod c1) (by omega) h1
  exact ⟨s2, B2, .cons st pa, fun j hj => (c2 j hj).trans (c1 j hj), l2, by rw [List.length_cons]; omega, h2⟩
end
def sr0 : Sr := ⟨[0, 0, 0, 0, 0, 0, 0, 0, 0, 0, 0, 0, 0, 0, 0, 0, 0, 0, 0, 0, 0, 0, 0, 0, 0, 0, 0, 0, 0, 0, 0, 0, 0, 0, 2147484672, 2147484676, 0, 0, 0, 0, 0, 0, 0, 0, 0, 0, 0, 0, 0, 0, 0, 0, 0, 0, 98304], false, false, false, 0⟩
theorem sr0_st : toSt sr0 = St0 := by
 refine St.ext (fun i => ?_) (fun i => ?_)
 ·by_cases c : i < 73
  ·revert i; decide +kernel
  ·have h1 := (Wl.of sr0 (by decide)).hi i (by omega)
   rw [h1]
   show (0 : Int) = if i = 34 then _ else if i = 35 then _ else if i = 54 then _ else 0
   rw [if_neg (by omega), if_neg (by omega), if_neg (by omega)]
 ·show (match i == 36 with | true => false | false => match i == 37 with | true => false | false => match i == 71 with | true => false | false => false) = false
  cases i == 36 <;> cases i == 37 <;> cases i == 71 <;> rfl
def imgI (l h : List In) (a : Int) : In := match decide (1024 ≤ a) && decide (a < 1024 + 4 * (l.length : Int)) with
 | true => atI l ((a - 1024) / 4).toNat
 | false => match decide (384 ≤ a) && decide (a < 384 + 4 * (h.length : Int)) with
  | true => atI h ((a - 384) / 4).toNat
  | false => nopS
def imgP (l h : List In) : Nat → Int := imgB 4096 (imgS (l.length * 4) (byOf l) (h.length * 4) (byOf h))
def inOk2 (x : In) : Bool := inOk x && decide (x.i < 65536)
theorem inOk2_r {x : In} (h : inOk2 x = true) : InR x := by
 unfold inOk2 at h
 simp only [Bool.and_eq_true, decide_eq_true_eq] at h
 obtain ⟨h1, h2, h3⟩ := inOk_p h.1
 exact ⟨h1, h2, h.2, h3⟩
theorem nop_r : InR nopS := inOk2_r (by decide +kernel)
theorem atI_r {l : List In} (hl : ∀ x ∈ l, InR x) {i : Nat} (hi : i < l.length) : InR (atI l i) := by
 have e : atI l i = l[i] := by simp [atI, List.getD, hi]
 rw [e]; exact hl _ (List.getElem_mem hi)
theorem in_word {l : List In} (hl : ∀ x ∈ l, InR x) {i : Nat} (hi : i < l.length) {B : Nat → Int} {a : Int} (a0 : 0 ≤ a) (hB : ∀ t, t < 4 → B (a.toNat + t) = byOf l (4 * i + t)) : ofS (wdB B a 4) = atI l i := by
 rw [prog_word hi a0 hB (wdOf_u _)]
 have r := atI_r hl hi
 exact of_back_T r.i0 r.r
theorem img_prog {l h : List In} (hl : ∀ x ∈ l, InR x) (hh : ∀ x ∈ h, InR x) (nl : l.length ≤ 768) (nh : h.length ≤ 160) (C : Nat → Bool) : Prog C 4 (imgI l h) (imgP l h) := by
 refine ⟨fun a a0 a1 a4 _ => ?_⟩
 have a1 : a < 4096 := a1
 unfold imgI
 by_cases c1 : 1024 ≤ a ∧ a < 1024 + 4 * (l.length : Int)
 ·rw [decide_eq_true c1.1, decide_eq_true c1.2]
  simp only [Bool.and_true]
  have hi : ((a - 1024) / 4).toNat < l.length := by omega
  refine ⟨in_word hl hi a0 fun t ht => ?_, atI_r hl hi⟩
  unfold imgP imgB imgS
  rw [if_pos (by omega), if_pos (by omega)]
  congr 1; omega
 ·have e1 : (decide (1024 ≤ a) && decide (a < 1024 + 4 * (l.length : Int))) = false := by
   simp only [Bool.and_eq_false_iff, decide_eq_false_iff_not]; omega
  rw [e1]
  dsimp only
  by_cases c2 : 384 ≤ a ∧ a < 384 + 4 * (h.length : Int)
  ·rw [decide_eq_true c2.1, decide_eq_true c2.2]
   simp only [Bool.and_true]
   have hi : ((a - 384) / 4).toNat < h.length := by omega
   refine ⟨in_word hh hi a0 fun t ht => ?_, atI_r hh hi⟩
   unfold imgP imgB imgS
   rw [if_pos (by omega), if_neg (by omega), if_pos (by omega)]
   congr 1; omega
  ·have e2 : (decide (384 ≤ a) && decide (a < 384 + 4 * (h.length : Int))) = false := by
    simp only [Bool.and_eq_false_iff, decide_eq_false_iff_not]; omega
   rw [e2]
   dsimp only
   have z : wdB (imgP l h) a 4 = 0 := zero_word fun t ht => by
    unfold imgP imgB imgS
    rw [if_pos (by omega), if_neg (by omega), if_neg (by omega)]
   rw [z]
   exact ⟨zero_nop, nop_r⟩
def pgs (l : List Nat) (j : Nat) : Bool := l.any (· == j)
end Go.Proofs.YtkiggdgphbkneaaGreat.Am
