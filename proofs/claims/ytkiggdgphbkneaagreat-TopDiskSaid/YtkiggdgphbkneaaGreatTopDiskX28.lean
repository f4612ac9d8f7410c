/- The wheel and the disk at work: arming a device, what is due, the disk's words, its firing. Conditions: at wQ one event; words. The disk at work: its words, its firing; a bus whose disk is due. Conditions: at wQ one event; words. A bus whose disk is writte -/
import Derived.Test.YtkiggdgphbkneaaGreatTopDiskX27
namespace Go.Proofs.YtkiggdgphbkneaaGreat.Am
set_option linter.unusedVariables false
set_option linter.unusedSimpArgs false
set_option maxRecDepth 100000
section
variable {m : Mem} {q : BB} {p : Nat} {B : Nat -> Int} {M W : Nat -> Bool} {D : Dv} {wv : AV}
theorem IsBus.wA (h : IsBus m q p B M W D wv) (k : AV -> Prop) : ldA m q.w (0 + 0) k = k wv := h.w.lA (i := 0) (by show 0 < 2; decide) rfl (by
 obtain ⟨c, h1, _⟩ := h.wl
 rcases h1.form with ⟨a, rfl⟩ | ⟨b, o, cap, rfl⟩ <;> rfl) k
theorem yL5 {m m' : Mem} {b : Nat} (O : yC m b m') : Fr (wM b) m m' := O.fr1
theorem IsBus.frT (h : IsBus m q p B M W D wv) {m' : Mem} {T : Nat -> Prop} (F : Fr T m m') (hq : ∀ x ∈ q.all, ¬ T x) (hw : ∀ x, own wv x -> ¬ T x) : IsBus m' q p B M W D wv :=
 ⟨h.b.fr F (hq _ (by simp [BB.all])), h.r.fr F fun x hx => hq x (BB.has hx), h.w.fr F (hq _ (by simp [BB.all])), h.wl.fr F hw, h.ln.fr F (hq _ (by simp [BB.all])), h.t1.fr F (hq _ (by simp [BB.all])), h.t2.fr F (hq _ (by simp [BB.all])), h.u.fr F (hq _ (by simp [BB.all])), h.d.fr F (hq _ (by simp [BB.all])), h.k.fr F (hq _ (by simp [BB.all])), h.kb.fr F fun b hb => by cases hb; exact hq _ (by simp [BB.all]), h.dkr, h.nd, h.nw⟩
theorem IsBus.withW {m' : Mem} {wv' : AV} {es : List Ev} {s : Int} (h : IsBus m q p B M W D wv) (F : Fr (fun x => x = q.w \/ own wv x) m m') (hw : wG m' q.w [wv', vi s]) (hl : eW m' wv' es) (hn : ∀ x, own wv' x -> x ∉ q.all) : IsBus m' q p B M W { D with ev := es, sq := s } wv' := by
 have nd := h.nd
 unfold BB.all at nd
 simp only [List.nodup_cons, List.mem_cons, List.not_mem_nil, or_false, not_or] at nd
 obtain ⟨⟨a1, a2, a3, a4, a5, a6, a7, a8, a9, a10, a11, a12⟩, ⟨b2, b3, b4, b5, b6, b7, b8, b9, b10, b11, b12⟩, _⟩ := nd
 have al : ∀ x ∈ q.all, x ≠ q.w -> ¬ (x = q.w \/ own wv x) := fun x hx hne t => t.elim hne fun t => h.nw x t hx
 refine ⟨h.b.fr F (al _ (by simp [BB.all]) a1), h.r.fr F fun x hx => ?_, hw, hl, h.ln.fr F (al _ (by simp [BB.all]) (Ne.symm b2)), h.t1.fr F (al _ (by simp [BB.all]) (Ne.symm b3)), h.t2.fr F (al _ (by simp [BB.all]) (Ne.symm b4)), h.u.fr F (al _ (by simp [BB.all]) (Ne.symm b5)), h.d.fr F (al _ (by simp [BB.all]) (Ne.symm b6)), h.k.fr F (al _ (by simp [BB.all]) (Ne.symm b7)), h.kb.fr F fun b hb => by cases hb; exact al _ (by simp [BB.all]) (Ne.symm b8), h.dkr, h.nd, hn⟩
 rcases hx with rfl | rfl | rfl | rfl
 .exact al _ (by simp [BB.all]) (Ne.symm b9)
 .exact al _ (by simp [BB.all]) (Ne.symm b10)
 .exact al _ (by simp [BB.all]) (Ne.symm b11)
 .exact al _ (by simp [BB.all]) (Ne.symm b12)
theorem yPv {v : AV} {es : List Ev} (h : eW m v es) (e : es = []) : ∃ c, IsL m 3 v 0 c := by
 subst e; obtain ⟨c, h1, _⟩ := h; exact ⟨c, h1⟩
theorem yX5 {v f : AV} {c : Nat -> AV} (h : IsL m 3 v 1 c) {k : Mem -> Prop} (hk : k m) : yGp v f m k := by
 unfold yGp
 rw [vB h.r]
 unfold yOw
 refine ⟨1, ?_⟩
 show zJy _ _ _ _ _ _ _ _ _
 unfold zJy
 refine zB (by decide) ?_
 unfold yGr
 refine ⟨1, ?_⟩
 show zL7 _ _ _ _ _ _ _ _
 unfold zL7
 refine zB (by decide) ⟨1, ?_⟩
 show zKr _ _ _ _ _ _ _
 unfold zKr
 exact zB (by decide) hk
theorem yAd (h : IsBus m q p B M W D wv) (he : D.ev = []) {d t : Int} (d0 : 0 <= d) (d1 : d < 16) (t0 : 0 <= t) {k : Bool -> Mem -> Prop}
  (hk : ∀ m' wv', IsBus m' q p B M W { D with ev := [⟨t, d, D.sq⟩], sq := IntKind.wrap .i64 (D.sq + 1) } wv' -> Fr (fun x => x = q.w \/ own wv x) m m' -> (∀ x, own wv' x -> own wv x \/ m.obj x = none) -> k true m') : yIl q.w 0 d t m k := by
 unfold yIl
 refine zB (by simp; omega) (zB (by simp; omega) (zB (by simp; omega) ?_))
 unfold yNr
 unfold yQj
 refine zW fun b2 m1 hb2 K1 e1 O1 => ?_
 have h1 := h.keep K1
 rw [h1.wA]
 unfold yQp
 obtain ⟨c0, w0⟩ := yPv h1.wl he
 rw [vB w0.r]
 refine ⟨1, ?_⟩
 show zLn _ _ _ _ _ _ _ _
 unfold zLn
 refine zB (by simp) (zG (by decide) ?_)
 dsimp only
 rw [h1.wA, h1.w.lI (i := 1) (show 1 < 2 by decide) rfl]
 let ce : Nat -> AV := zH [vi t, vi d, vi D.sq]
 refine yGf (n := 0) (n' := 1) (c := ce) (w0.congr fun i hi => by omega) rfl (fun j hj => ?_) (by omega) fun w' m2 g1 F2 o2 => ?_
 .match j, hj with
  | 0, _ => rfl
  | 1, _ => rfl
  | 2, _ => rfl
 have qw : ∀ {mm : Mem}, Fr (own wv) m1 mm -> wG mm q.w [wv, vi D.sq] := fun F => h1.w.fr F fun t => h1.nw _ t (by simp [BB.all])
 have w'1 : w'.one = true := by
  rcases g1.form with ⟨a, rfl⟩ | ⟨b, o, cap, rfl⟩ <;> rfl
 have nq : ∀ x, own w' x -> x ∉ q.all := fun x hx hq => by
  rcases o2 x hx with t | t
  .exact h1.nw x t hq
  .exact h1.live hq t
 refine (qw F2).sV (i := 0) (by show 0 < 2; decide) w'1 fun m3 h3 O3 => ?_
 rw [h3.lI (i := 1) (show 1 < 2 by decide) rfl]
 refine h3.sC (i := 1) (show 1 < 2 by decide) fun m4 h4 O4 => ?_
 rw [h4.lA (i := 0) (v := w') (show 0 < 2 by decide) rfl w'1]
 have O := O3.trans O4
 have nw : ¬ own w' q.w := fun t => nq _ t (by simp [BB.all])
 have g4 : IsL m4 3 w' 1 ce := g1.fr O.fr1 fun b hb e => nw (by rw [<- show b = q.w from e]; exact hb)
 have F : Fr (fun x => x = q.w \/ own wv x) m1 m4 := (F2.mono fun x _ hx => .inr hx).trans (O.fr1.mono fun x _ hx => .inl hx)
 refine yX5 g4 (hk m4 w' (h1.withW F h4 ⟨ce, g4, fun i hi => ?_⟩ nq) (Fr.key K1 F) fun x hx => ?_)
 .have hi : i < 1 := hi
  obtain rfl : i = 0 := by omega
  exact ⟨rfl, rfl, rfl⟩
 .rcases o2 x hx with t | t
  .exact .inl t
  .exact .inr (zX K1 t)
theorem EvC.congr {c d : Nat -> AV} {e : Ev} (h : EvC c e) (hd : ∀ j, j < 3 -> d j = c j) : EvC d e := ⟨(hd 0 (by omega)).trans h.1, (hd 1 (by omega)).trans h.2.1, (hd 2 (by omega)).trans h.2.2⟩
theorem zZ1 {v : AV} {ks : List Ev} {i : Nat} {ii jj : Int} (hv : eW m v ks) (hl : ks.length <= 100000) (hi : i < ks.length) (e1 : ii = i) (e2 : jj = ii + 1) {k : AV -> Mem -> Prop}
  (hk : ∀ v' m', eW m' v' (ks.eraseIdx i) -> Fr (own v) m m' -> (∀ b, own v' b -> own v b) -> k v' m') : zYi v ii jj m k := by
 obtain ⟨c, h1, h2⟩ := hv
 obtain ⟨n, hn⟩ : ∃ n, ks.length = n := ⟨_, rfl⟩
 rw [hn] at h1 hl hi
 cases h1 with
 | nil a c => omega
 | sl b o n cap y c g1 g2 g3 g4 g5 =>
  have hlow : n <= cap.low /\ ∀ e q, cap = .ge e q -> e = 3 := by
   cases cap with
   | ex q => exact ⟨g5.1, fun e q h => by cases h⟩
   | ge e q => exact ⟨g5.2, fun e' q' h => by cases h; exact g5.1⟩
  have hin : o + n * 3 <= y.n := g2
  unfold zYi
  subst e1 e2
  show slM (.sl b o n cap) (some (i : Int)) (some ((i : Int) + 1)) (some (n : Int)) _
  have dt : ∀ {p : Prop} [Decidable p], p -> decide p = true := fun h => decide_eq_true h
  refine zG (dt (by omega)) (zG (dt (by omega)) (zG (dt (by have := hlow.1; omega)) (zB (by rw [beq_eq_false_iff_ne]; omega) ?_)))
  show qH 3 (.sl b o n cap) none (some (i : Int)) _
  have key : ∀ v3, v3 = .sl b o i cap -> (qH 3 (.sl b o n cap) (some ((i : Int) + 1)) none fun v4 => uB 3 24 158 v3 v4 m fun v5 m6 => xJ v5 fun x7 => qH 3 v5 (some x7) (some (n : Int)) fun v8 => oK [(.flat (.int .i64 0)), (.flat (.int .i64 0)), (.flat (.int .i64 0))] v8 m6 fun m9 => k v5 m9) := fun v3 e3 => by
   subst e3
   have hS : IsS m 3 (.sl b o n cap) n c := ⟨.sl b o n cap y c g1 g2 g3, fun b' o' cap' e => by cases e; exact hlow⟩
   refine zH5 hS (l := i + 1) (u := n) (by simp [xT]) (by simp [xT]) (by omega) (Nat.le_refl _) fun v4 s4 o4 => ?_
   have hC : ∀ t, (h : t < (ks.eraseIdx i).length) -> EvC (fun j => (fun z => if z < i * 3 then c z else c (z + 3)) (t * 3 + j)) (ks.eraseIdx i)[t] := fun t ht => by
    rw [List.getElem_eraseIdx]
    have hlen : (ks.eraseIdx i).length = n - 1 := by rw [List.length_eraseIdx, if_pos (by omega), hn]
    by_cases c1 : t < i
    .rw [dif_pos c1]
     refine (h2 t (by omega)).congr fun j hj => ?_
     dsimp only
     rw [if_pos (by omega)]
    .rw [dif_neg c1]
     refine (h2 (t + 1) (by omega)).congr fun j hj => ?_
     dsimp only
     rw [if_neg (by omega)]
     congr 1; omega
   have hlen : (ks.eraseIdx i).length = n - 1 := by rw [List.length_eraseIdx, if_pos (by omega), hn]
   unfold uB dA
   refine eF s4.r fun d hd => ?_
   -- behind the append
   have tail : ∀ (y6 : Blk) (m6 : Mem), m6.obj b = some y6 -> y6.ro = false -> o + n * 3 <= y6.n -> (∀ z, z < (n - 1) * 3 -> y6.c (o + z) = if z < i * 3 then c z else c (z + 3)) -> y6.n = y.n -> Fr (fun x => x = b) m m6 -> xJ (.sl b o (n - 1) cap) fun x7 => qH 3 (.sl b o (n - 1) cap) (some x7) (some (n : Int)) fun v8 => oK [(.flat (.int .i64 0)), (.flat (.int .i64 0)), (.flat (.int .i64 0))] v8 m6 fun m9 => k (.sl b o (n - 1) cap) m9 := fun y6 m6 ey hro hin6 hc6 hyn F6 => by
    show qH 3 (.sl b o (n - 1) cap) (some ((n - 1 : Nat) : Int)) (some (n : Int)) _
    have cl : ∀ cap8, oK [(.flat (.int .i64 0)), (.flat (.int .i64 0)), (.flat (.int .i64 0))] (.sl b (o + (n - 1) * 3) 1 cap8) m6 fun m9 => k (.sl b o (n - 1) cap) m9 := fun cap8 => by
     unfold oK
     dsimp only
     rw [zO, if_neg (by omega)]
     unfold kobj
     rw [ey]
     dsimp only
     rw [hro]
     refine yK (by simp; omega) (hk _ _ ⟨fun z => if z < i * 3 then c z else c (z + 3), ?_, hC⟩ ?_ fun b' e => e)
     .rw [hlen]
      refine .sl b o (n - 1) cap _ _ (zL _ _ _) (by show o + (n - 1) * 3 <= y6.n; omega) (fun z hz => ?_) rfl ?_
      .show zC y6.c (o + (n - 1) * 3) _ _ (o + z) = _
       unfold zC
       rw [if_neg (by omega)]
       exact hc6 z hz
      .cases cap with
       | ex q => exact ⟨by have := g5.1; omega, by show o + q * 3 <= y6.n; rw [hyn]; exact g5.2⟩
       | ge e q => exact ⟨g5.1, by have := g5.2; omega⟩
     .intro b' hb' ho
      have hne : b' ≠ b := fun e => ho e.symm
      rw [zP _ hne]; exact F6 b' hb' hne
    unfold qH
    refine zG (by simp [xT]) (zG (by simp [xT] <;> omega) (zG (by simp [xT] <;> omega) ?_))
    have t1 : (xT (some ((n - 1 : Nat) : Int)) 0).toNat = n - 1 := by simp [xT]
    have t2 : (xT (some (n : Int)) ((n - 1 : Nat) : Int)).toNat = n := by simp [xT]
    rw [t1, t2]
    have e1 : n - (n - 1) = 1 := by omega
    cases cap with
    | ex q =>
     have : n <= q := hlow.1
     refine yK (by omega) ?_
     rw [e1]; exact cl _
    | ge e q =>
     have : n <= q := hlow.1
     refine yK (hlow.2 e q rfl) (yK (by omega) ?_)
     rw [e1]; exact cl _
   dsimp only
   by_cases hz : n - (i + 1) = 0
   .have hni : n - 1 = i := by omega
    refine yK hz ?_
    have := tail y m g1 g4 g2 (fun z hz' => by rw [if_pos (by omega)]; exact g3 z (by omega)) rfl (Fr.refl _ _)
    rw [hni] at this
    exact this
   .rw [zO, if_neg hz]
    have hni : i + (n - (i + 1)) = n - 1 := by omega
    have hap : ∀ cap', cap' = cap -> sH 3 b o i cap' (n - (i + 1)) d m fun v5 m6 => xJ v5 fun x7 => qH 3 v5 (some x7) (some (n : Int)) fun v8 => oK [(.flat (.int .i64 0)), (.flat (.int .i64 0)), (.flat (.int .i64 0))] v8 m6 fun m9 => k v5 m9 := fun cap' ec => by
     subst ec
     unfold sH kobj
     rw [g1]
     dsimp only
     rw [g4]
     dsimp only
     rw [hni]
     refine tail _ _ (zL _ _ _) rfl (by show o + n * 3 <= max y.n _; omega) (fun z hz' => ?_) (by show max y.n _ = y.n; omega) (Fr.set (S := fun x => x = b) rfl _)
     show zC y.c (o + i * 3) ((n - (i + 1)) * 3) d (o + z) = _
     unfold zC
     by_cases c1 : z < i * 3
     .rw [if_neg (by omega), if_pos c1]; exact g3 z (by omega)
     .rw [if_pos (by omega), if_neg c1, hd _ (by omega)]
      show c ((i + 1) * 3 + (o + z - (o + i * 3))) = c (z + 3)
      congr 1; omega
    unfold kobj
    rw [g1]
    refine yK ⟨by omega, by omega⟩ ?_
    cases cap with
    | ex q =>
     have : n <= q := hlow.1
     exact yK (by omega) (yK (by omega) (hap _ rfl))
    | ge e q =>
     have : n <= q := hlow.1
     have e3 := hlow.2 e q rfl
     subst e3
     exact yK rfl (yK (by omega) (hap _ rfl))
  unfold qH
  refine zG (by simp [xT]) (zG (by simp [xT]) (zG (by simp [xT]; omega) ?_))
  have t1 : (xT none 0).toNat = 0 := rfl
  have t2 : (xT (some (i : Int)) (n : Int)).toNat = i := by simp [xT]
  rw [t1, t2]
  cases cap with
  | ex q =>
   have : n <= q := hlow.1
   exact yK (by omega) (key _ (by simp))
  | ge e q =>
   have : n <= q := hlow.1
   have e3 := hlow.2 e q rfl
   exact yK (by rw [e3]) (yK (by omega) (key _ (by rw [e3]; simp)))
theorem zYd (h : IsBus m q p B M W D wv) {e : Ev} (he : D.ev = [e]) {now : Int} (hd : e.at_ <= now) {k : (Nat -> AV) -> Bool -> Mem -> Prop}
  (hk : ∀ c m' wv', EvC c e -> IsBus m' q p B M W { D with ev := [] } wv' -> Fr (fun x => x = q.w \/ own wv x) m m' -> (∀ x, own wv' x -> own wv x) -> k c true m') : F99 q.w 0 now m k := by
 unfold F99
 refine zW fun b2 m1 hb2 K1 e1 O1 => ?_
 have h1 := h.keep K1
 refine mR h1 ?_
 have en : rW D = (e.at_, true) := by unfold rW; rw [he]
 rw [en]
 refine zB rfl (zB (decide_eq_false (by show ¬ e.at_ > now; omega)) ?_)
 rw [h1.wA]
 have hl := h1.wl
 rw [he] at hl
 obtain ⟨c0, l0, x0⟩ := id hl
 have l0 : IsL m1 3 wv 1 c0 := l0
 refine (show vD wv fun b9 o10 l11 p12 => kif (decide (0 <= ((0 : Nat) : Int)) && decide (((0 : Nat) : Int) < l11)) (yN 3 m1 b9 (o10 + ((0 : Nat) : Int).toNat * 3) fun c13 => zQ m1 ⟨3, zH [(.flat (.int .i64 0)), (.flat (.int .i64 0)), (.flat (.int .i64 0))], 158, false⟩ fun b15 m14 => vA 3 m14 b15 0 c13 fun m16 => ldA m16 q.w (0 + 0) fun v17 => zYi v17 0 1 m16 fun v18 m19 => stV m19 q.w (0 + 0) v18 fun m20 => yN 3 m20 b15 0 fun c21 => vA 3 m20 b2 0 c21 fun m22 => yN 3 m22 b2 0 fun c25 => k c25 true m22) False from ?_)
 refine yBb l0.r (by simp) (by omega) fun c13 h13 => ?_
 have ec : EvC c13 e := (x0 0 (by simp)).congr fun j hj => by have := h13 j (by omega); simpa using this
 refine kV fun b15 m16 y hb15 K16 e16 n16 r16 c16 => ?_
 have ey : EvC y.c e := ⟨(c16 0 (by omega)).trans ec.1, (c16 1 (by omega)).trans ec.2.1, (c16 2 (by omega)).trans ec.2.2⟩
 have h16 := h1.keep K16
 rw [h16.wA]
 have hl16 := h16.wl
 rw [he] at hl16
 refine zZ1 (i := 0) hl16 (by simp) (by simp) rfl rfl fun v18 m19 g19 F19 o19 => ?_
 have v1 : v18.one = true := by
  obtain ⟨c1, l1, _⟩ := g19
  rcases l1.form with ⟨a, rfl⟩ | ⟨b, o, cap, rfl⟩ <;> rfl
 have w19 : wG m19 q.w [wv, vi D.sq] := h16.w.fr F19 fun t => h16.nw _ t (by simp [BB.all])
 refine w19.sV (i := 0) (by show 0 < 2; decide) v1 fun m20 h20 O20 => ?_
 have n15 : ¬ own wv b15 := fun t => h1.wl.live t hb15
 have nq15 : b15 ≠ q.w := fun e => h1.live (x := q.w) (by simp [BB.all]) (e ▸ hb15)
 have e20 : m20.obj b15 = some y := by
  rw [O20 b15 nq15, F19 b15 (by rw [e16]; simp) n15]; exact e16
 rw [xH e20 (by omega)]
 have n2 : ¬ own wv b2 := fun t => h.wl.live t hb2
 have nq2 : b2 ≠ q.w := fun e => h.live (x := q.w) (by simp [BB.all]) (e ▸ hb2)
 have e2 : m20.obj b2 = some ⟨3, zH [(.flat (.int .i64 0)), (.flat (.int .i64 0)), (.flat (.int .i64 0))], 158, false⟩ := by
  rw [O20 b2 nq2, F19 b2 (by rw [K16 b2 (by rw [e1]; simp), e1]; simp) n2, K16 b2 (by rw [e1]; simp)]; exact e1
 rw [wR e2 rfl (by decide), xH (zL _ _ _) (by show 0 + 3 <= 3; omega)]
 have F : Fr (fun x => x = q.w \/ own wv x) m16 m20 := (F19.mono fun x _ hx => .inr hx).trans (O20.fr1.mono fun x _ hx => .inl hx)
 have nqv : ∀ x, own v18 x -> x ∉ q.all := fun x hx => h16.nw x (o19 x hx)
 have nw : ¬ own v18 q.w := fun t => nqv _ t (by simp [BB.all])
 have h20' : IsBus m20 q p B M W { D with ev := [] } v18 := h16.withW F h20 (g19.fr O20.fr1 fun b hb e => nw (by rw [<- show b = q.w from e]; exact hb)) nqv
 have n2v : ¬ own v18 b2 := fun t => h.wl.live (o19 _ t) hb2
 refine hk _ _ v18 (ey.congr fun j hj => ?_) (h20'.frT (yL5 (yC.set m20 b2 _)) (fun x hx e => h.live hx (show m.obj x = none by rw [show x = b2 from e]; exact hb2)) fun x hx e => n2v (by rw [<- show x = b2 from e]; exact hx)) (fun x hx hn => ?_) o19
 .match j, hj with
  | 0, _ => rfl
  | 1, _ => rfl
  | 2, _ => rfl
 .have nx : x ≠ b2 := fun e => hx (e ▸ hb2)
  have ex := K1 x hx
  rw [zP _ nx, F x (by rw [K16 x (by rw [ex]; exact hx), ex]; exact hx) hn, K16 x (by rw [ex]; exact hx), ex]
end
section
variable {m : Mem} {q : BB} {p : Nat} {B : Nat -> Int} {M W : Nat -> Bool} {D : Dv} {wv : AV}
theorem xI1 (h : IsBus m q p B M W D wv) : ∀ x ∈ q.all, x = q.k -> x ∉ [q.b, q.w, q.ln, q.t1, q.t2, q.u, q.d, q.kb, q.r.b, q.r.b1, q.r.b2, q.r.b3] := fun x _ e hx => by
 subst e
 have nd := h.nd
 unfold BB.all at nd
 simp only [List.nodup_cons, List.mem_cons, List.not_mem_nil, or_false, not_or] at nd hx
 obtain ⟨⟨_, _, _, _, _, _, a7, _⟩, ⟨_, _, _, _, _, b7, _⟩, ⟨_, _, _, _, c7, _⟩, ⟨_, _, _, d7, _⟩, ⟨_, _, e7, _⟩, ⟨_, f7, _⟩, ⟨g7, _⟩, ⟨h8, h9, h10, h11, h12⟩, _⟩ := nd
 rcases hx with t | t | t | t | t | t | t | t | t | t | t | t
 .exact a7 t.symm
 .exact b7 t.symm
 .exact c7 t.symm
 .exact d7 t.symm
 .exact e7 t.symm
 .exact f7 t.symm
 .exact g7 t.symm
 .exact h8 t
 .exact h9 t
 .exact h10 t
 .exact h11 t
 .exact h12 t
theorem IsBus.withK {m' : Mem} {s a c t : Int} (h : IsBus m q p B M W D wv) (O : yC m q.k m') (hk : wG m' q.k [vi 5, .ptr q.w 0, .ptr q.r.b 0, .sl q.kb 0 D.nd (.ex D.nd), vu s, vu a, vu c, vu t]) : IsBus m' q p B M W { D with ks := s, ka := a, kc := c, kt := t } wv := by
 have F := O.fr1
 have ne : ∀ x ∈ [q.b, q.w, q.ln, q.t1, q.t2, q.u, q.d, q.kb, q.r.b, q.r.b1, q.r.b2, q.r.b3], ¬ wM q.k x := fun x hx e => xI1 h q.k (by simp [BB.all]) rfl (by rw [<- show x = q.k from e]; exact hx)
 refine ⟨h.b.fr F (ne _ (by simp)), h.r.fr F fun x hx => ne x ?_, h.w.fr F (ne _ (by simp)), h.wl.fr F fun x hx e => h.nw x hx (by rw [show x = q.k from e]; simp [BB.all]), h.ln.fr F (ne _ (by simp)), h.t1.fr F (ne _ (by simp)), h.t2.fr F (ne _ (by simp)), h.u.fr F (ne _ (by simp)), h.d.fr F (ne _ (by simp)), hk, h.kb.fr F fun b hb => by cases hb; exact ne _ (by simp), h.dkr, h.nd, h.nw⟩
 rcases hx with rfl | rfl | rfl | rfl <;> simp
theorem zYn (h : IsBus m q p B M W D wv) {v now : Int} {k : Bool -> Mem -> Prop} (hk : ∀ m', IsBus m' q p B M W { D with ks := v } wv -> yC m q.k m' -> k true m') : zOi q.k 0 0 v now m k := by
 unfold zOi
 exact zG rfl (h.k.sC (i := 4) (show 4 < 8 by decide) fun m' h' O' => hk m' (h.withK O' h') O')
theorem zTn (h : IsBus m q p B M W D wv) {v now : Int} {k : Bool -> Mem -> Prop} (hk : ∀ m', IsBus m' q p B M W { D with ka := v } wv -> yC m q.k m' -> k true m') : zOi q.k 0 4 v now m k := by
 unfold zOi
 exact zB rfl (zG rfl (h.k.sC (i := 5) (show 5 < 8 by decide) fun m' h' O' => hk m' (h.withK O' h') O'))
theorem zSl (h : IsBus m q p B M W D wv) (he : D.ev = []) (ht : D.kt = 0) {v now : Int} (n0 : 0 <= now) (n1 : now <= 1000000) {k : Bool -> Mem -> Prop}
  (hk : ∀ m' wv', IsBus m' q p B M W { D with kc := v, kt := 1, ev := [⟨now + 32, 5, D.sq⟩], sq := IntKind.wrap .i64 (D.sq + 1) } wv' -> Fr (fun x => x = q.k \/ x = q.w \/ own wv x) m m' -> (∀ x, own wv' x -> own wv x \/ m.obj x = none) -> k true m') : zOi q.k 0 8 v now m k := by
 unfold zOi
 refine zB rfl (zB rfl (zG rfl ?_))
 unfold yPy
 rw [h.k.lI (i := 7) (show 7 < 8 by decide) rfl, ht]
 refine zB (by decide +kernel) (h.k.sC (i := 6) (show 6 < 8 by decide) fun m2 h2 O2 => ?_)
 rw [h2.lI (i := 7) (show 7 < 8 by decide) rfl, ht]
 refine h2.sC (i := 7) (show 7 < 8 by decide) fun m4 h4 O4 => ?_
 have O := O2.trans O4
 have h4' := h.withK (s := D.ks) (a := D.ka) (c := v) (t := 1) O (by
  have : bits .or .u32 0 1 = 1 := by decide +kernel
  rw [this] at h4; exact h4)
 rw [h4'.k.lA (i := 1) (v := .ptr q.w 0) (show 1 < 8 by decide) rfl rfl, h4'.k.lI (i := 0) (show 0 < 8 by decide) rfl]
 dsimp only [yD]
 rw [zK (n := now + 32) (by omega) (by omega)]
 refine yAd h4' he (by decide) (by decide) (by omega) fun m' wv' h' F' o' => hk m' wv' h' ((O.fr1.mono fun x _ hx => .inl hx).trans (F'.mono fun x _ hx => .inr hx)) fun x hx => ?_
 rcases o' x hx with t | t
 .exact .inl t
 .refine .inr ?_
  by_cases c : x = q.k
  .exact absurd t (c ▸ h4'.live (by simp [BB.all]))
  .rw [<- O x c]; exact t
abbrev yAq (D : Dv) : Nat -> Int := fun i => D.dk (D.ks.toNat * 64 + i)
theorem zYp (h : IsBus m q p B M W D wv) {s : Nat} (hs : D.ks = s) (hn : (s + 1) * 64 <= D.nd) (hnd : D.nd <= 4096) (hc : D.kc = 1) (ha : wC D.ka) (hr : cE p D.ka 64) {k : Bool -> Mem -> Prop}
  (hk : ∀ m', IsBus m' q p (lW B D.ka 64 (yAq D)) M (tW M W D.ka 64) D wv -> Fr q.r.has m m' -> k true m') : yK0 q.k 0 m k := by
 unfold yK0
 refine ⟨fun _ => True, trivial, ?_⟩
 rw [h.k.lI (i := 4) (show 4 < 8 by decide) rfl]
 unfold yO1
 rw [h.k.lA (i := 3) (v := .sl q.kb 0 D.nd (.ex D.nd)) (show 3 < 8 by decide) rfl rfl, vB h.kb.r]
 refine ⟨zA.self m, fun _ _ _ => rfl, ?_⟩
 rw [h.k.lA (i := 3) (v := .sl q.kb 0 D.nd (.ex D.nd)) (show 3 < 8 by decide) rfl rfl]
 have e1 : IntKind.wrap .i64 ((D.nd : Int).tdiv 64) = D.nd / 64 := by
  rw [Int.tdiv_eq_ediv_of_nonneg (by omega), zK (by omega) (by omega)]
 refine zB ?_ ?_
 .rw [e1, yV, hs]
  exact decide_eq_false (by omega)
 rw [h.k.lI (i := 4) (show 4 < 8 by decide) rfl, hs, zK (n := (s : Int)) (by omega) (by omega), zK (n := (s : Int) * 64) (by omega) (by omega)]
 refine zH5 h.kb.s (l := s * 64) (u := D.nd) (by simp [xT]) (by simp [xT]) (by omega) (Nat.le_refl _) fun v7 h7 o7 => ?_
 refine zH5 h7 (l := 0) (u := 64) (by simp [xT]) (by simp [xT]) (by omega) (by omega) fun v8 h8 o8 => ?_
 rw [h.k.lI (i := 6) (show 6 < 8 by decide) rfl, hc]
 refine zG rfl ?_
 rw [h.k.lA (i := 2) (v := .ptr q.r.b 0) (show 2 < 8 by decide) rfl rfl, h.k.lI (i := 5) (show 5 < 8 by decide) rfl]
 dsimp only [yD]
 refine zQv (f := yAq D) h.r ha ((h8.r).congr fun i hi => ?_) (fun i _ => h.dkr _) (by omega) (fun hno => absurd hr hno) fun _ m' hr' F' => hk m' (h.withR F' hr') F'
 show AV.flat (.int .u8 (D.dk (s * 64 * 1 + (0 * 1 + i)))) = AV.flat (.int .u8 (D.dk (D.ks.toNat * 64 + i)))
 rw [hs, show s * 64 * 1 + (0 * 1 + i) = (s : Int).toNat * 64 + i by omega]
theorem zTz (h : IsBus m q p B M W D wv) {s : Nat} (hs : D.ks = s) (hn : (s + 1) * 64 <= D.nd) (hnd : D.nd <= 4096) (hc : D.kc = 1) (ht : D.kt = 1) (ha : wC D.ka) (hr : cE p D.ka 64) {t : Int} {k : Mem -> Prop}
  (hk : ∀ m', IsBus m' q p (lW B D.ka 64 (yAq D)) M (tW M W D.ka 64) { D with kt := 2 } wv -> Fr (fun x => x = q.k \/ q.r.has x) m m' -> k m') : yJm q.k 0 t m k := by
 unfold yJm
 rw [h.k.lI (i := 7) (show 7 < 8 by decide) rfl, ht]
 refine h.k.sC (i := 7) (show 7 < 8 by decide) fun m2 h2 O2 => ?_
 have h2' := h.withK (s := D.ks) (a := D.ka) (c := D.kc) (t := 2) O2 (by
  have : bits .or .u32 (bits .andNot .u32 1 1) 2 = 2 := by decide +kernel
  rw [this] at h2; exact h2)
 exact zYp h2' (s := s) hs hn hnd hc ha hr fun m4 h4 F4 => zB rfl (hk m4 h4 ((O2.fr1.mono fun x _ hx => .inl hx).trans (F4.mono fun x _ hx => .inr hx)))
end
section
variable {m : Mem} {q : BB} {p : Nat} {B : Nat -> Int} {M W : Nat -> Bool} {D : Dv} {wv : AV}
def cG (D : Dv) (r v now : Int) : Dv := if r = 0 then { D with ks := v } else if r = 4 then { D with ka := v } else { D with kc := v, kt := 1, ev := [⟨now + 32, 5, D.sq⟩], sq := IntKind.wrap .i64 (D.sq + 1) }
theorem hO {r v now : Int} (s : Still D) : Still (cG D r v now) := by
 unfold cG
 split
 .exact ⟨s.uc, s.en⟩
 split
 .exact ⟨s.uc, s.en⟩
 .exact ⟨s.uc, s.en⟩
theorem yQ5 {r v now u : Int} : cG { D with up := u } r v now = { cG D r v now with up := u } := by
 unfold cG
 split
 .rfl
 split
 .rfl
 .rfl
structure DwOk (D : Dv) (r now : Int) : Prop where
 w : r = 0 \/ r = 4 \/ r = 8
 c : r = 8 -> D.ev = [] /\ D.kt = 0
 n0 : 0 <= now
 n1 : now <= 1000000
theorem zNb (h : IsBus m q p B M W D wv) (s : Still D) (hp : p <= 64) {r v now : Int} (ok : DwOk D r now) {k : Bool -> Mem -> Prop}
  (hk : ∀ m' wv' u, IsBus m' q p B M W { cG D r v now with up := u } wv' -> Fr (fun x => x = q.k \/ x = q.w \/ x = q.ln \/ own wv x) m m' -> (∀ x, own wv' x -> own wv x \/ m.obj x = none) -> k true m') : zXy q.b 0 (520094016 + r) 4 v now m k := by
 unfold zXy
 have e0 : ∀ k, ldA m q.b (0 + 0) k = k (.ptr q.r.b 0) := fun k => h.dev 0 (by decide) rfl k
 rw [e0]
 dsimp only [yD]
 have r0 : 0 <= r /\ r <= 8 := by rcases ok.w with t | t | t <;> omega
 refine qX h.r (zB (decide_eq_false (by omega)) ?_)
 unfold zX5
 refine zB (by decide) (zB (decide_eq_false (by omega)) (zB ?_ ⟨zA.self m, ?_⟩))
 .rcases ok.w with rfl | rfl | rfl <;> decide +kernel
 have ew : IntKind.wrap .u32 (520094016 + r - 520093696) = 320 + r := by rw [yV]; omega
 rw [ew, show (320 + r).tdiv 64 = 5 by rcases ok.w with rfl | rfl | rfl <;> decide +kernel, show (320 + r).tmod 64 = r by rcases ok.w with rfl | rfl | rfl <;> decide +kernel]
 refine zB (by decide +kernel) ?_
 rw [show IntKind.wrap .i64 (IntKind.wrap .u32 5) = 5 by decide +kernel]
 unfold yQe
 refine zB rfl (zB rfl (zB rfl (zB rfl (zB rfl ?_))))
 rw [h.dev 7 (by decide) rfl]
 dsimp only [yD]
 have fin : ∀ m1 wv1, IsBus m1 q p B M W (cG D r v now) wv1 -> Fr (fun x => x = q.k \/ x = q.w \/ own wv x) m m1 -> (∀ x, own wv1 x -> own wv x \/ m.obj x = none) -> zAo q.b 0 m1 fun m17 => k true m17 := fun m1 wv1 h1 F1 o1 =>
  kK h1 (hO s) fun m' u h' O' => hk m' wv1 u h' ((F1.mono fun x _ hx => hx.elim .inl fun t => .inr (t.elim .inl fun t => .inr (.inr t))).trans (O'.fr1.mono fun x _ hx => .inr (.inr (.inl hx)))) o1
 rcases ok.w with rfl | rfl | rfl
 .refine zYn h fun m' h' O' => fin m' wv (by unfold cG; rw [if_pos rfl]; exact h') (O'.fr1.mono fun x _ hx => .inl hx) fun x hx => .inl hx
 .refine zTn h fun m' h' O' => fin m' wv (by unfold cG; rw [if_neg (by decide), if_pos rfl]; exact h') (O'.fr1.mono fun x _ hx => .inl hx) fun x hx => .inl hx
 .obtain ⟨c1, c2⟩ := ok.c rfl
  refine zSl h c1 c2 ok.n0 ok.n1 fun m' wv' h' F' o' => fin m' wv' (by unfold cG; rw [if_neg (by decide), if_neg (by decide)]; exact h') F' o'
structure DueOk (p : Nat) (D : Dv) (s : Nat) (now : Int) : Prop where
 e : ∃ t q', D.ev = [⟨t, 5, q'⟩] /\ t <= now
 ks : D.ks = s
 n : (s + 1) * 64 <= D.nd
 nd : D.nd <= 4096
 kc : D.kc = 1
 kt : D.kt = 1
 ka : wC D.ka
 r : cE p D.ka 64
theorem zY4 (h : IsBus m q p B M W D wv) (he : D.ev = []) {now : Int} {j : Nat} {x : Int} (hx : x < 256) {k0 : Int -> Mem -> Prop} (hk : ∀ m', zA m m' -> k0 x m') : zEe q.b 0 now (j + 1) x m k0 := by
 show zAd _ _ _ _ _ _ _
 unfold zAd
 refine zG (by simpa using hx) ?_
 rw [h.dev 1 (by decide) rfl]
 dsimp only [yD]
 unfold F99
 refine zW fun b2 m1 hb2 K1 e1 O1 => mR (h.keep K1) ?_
 rw [show rW D = (0, false) by unfold rW; rw [he]]
 refine zG rfl ?_
 rw [wR e1 rfl (by decide), xH (zL _ _ _) (by decide)]
 exact kV fun b8 m9 y hb8 K9 e9 n9 r9 c9 => zG rfl (hk m9 ((yC.keeps K1 hb2 (yC.set _ _ _)).trans K9))
theorem zY8 (h : IsBus m q p B M W D wv) (s : Still D) {sec : Nat} {now : Int} (ok : DueOk p D sec now) {k : Int -> Mem -> Prop}
  (hk : ∀ m' wv' u, IsBus m' q p (lW B D.ka 64 (yAq D)) M (tW M W D.ka 64) { D with ev := [], kt := 2, up := u } wv' -> Fr (fun x => x = q.k \/ x = q.w \/ x = q.ln \/ q.r.has x \/ own wv x) m m' -> (∀ x, own wv' x -> own wv x) -> k 1 m') : F72 q.b 0 now m k := by
 unfold F72
 refine ⟨2, ?_⟩
 show zAd _ _ _ _ _ _ _
 unfold zAd
 refine zG (by decide) ?_
 rw [h.dev 1 (by decide) rfl]
 dsimp only [yD]
 obtain ⟨t, q', ee, et⟩ := ok.e
 refine zYd h ee et fun c m1 wv1 hc h1 F1 o1 => ?_
 refine kV fun b8 m9 y hb8 K9 e9 n9 r9 c9 => zB rfl ?_
 rw [xH e9 (by omega)]
 unfold zYl
 refine zW fun b2 m2 hb2 K2 e2 O2 => ?_
 have c2 : EvC (sub y.c 0 3) ⟨t, 5, q'⟩ := hc.congr fun j hj => by simp only [sub]; rw [if_pos hj, Nat.zero_add]; exact c9 j hj
 rw [yW (n := 5) e2 (by show 1 < 3; decide) c2.2.1]
 refine zB rfl (zB rfl (zB rfl (zB rfl (zG rfl ?_))))
 have h2 := (h1.keep K9).keep K2
 rw [h2.dev 7 (by decide) rfl, yW (n := t) e2 (by show 0 < 3; decide) c2.1]
 dsimp only [yD]
 refine zTz h2 (s := sec) ok.ks ok.n ok.nd ok.kc ok.kt ok.ka ok.r fun m3 h3 F3 => ?_
 rw [show IntKind.wrap .i64 (0 + 1) = 1 by decide +kernel]
 refine zY4 h3 rfl (by decide) fun m4 K4 => kK (h3.keep K4) ⟨s.uc, s.en⟩ fun m' u h' O' => hk m' wv1 u h' ?_ o1
 have Fa : Fr (fun x => x = q.k \/ x = q.w \/ x = q.ln \/ q.r.has x \/ own wv x) m m1 := F1.mono fun x _ hx => hx.elim (fun t => .inr (.inl t)) fun t => .inr (.inr (.inr (.inr t)))
 have Fb : Fr (fun x => x = q.k \/ x = q.w \/ x = q.ln \/ q.r.has x \/ own wv x) m2 m3 := F3.mono fun x _ hx => hx.elim .inl fun t => .inr (.inr (.inr (.inl t)))
 exact ((Fa.trans ((K9.trans K2).fr _)).trans Fb).trans ((K4.fr _).trans (O'.fr1.mono fun x _ hx => .inr (.inr (.inl hx))))
end
def dF (D : Dv) : Dv := { D with ev := [], kt := 2 }
def wD (D : Dv) (B : Nat -> Int) : Nat -> Int := lW B D.ka 64 (yAq D)
section
variable {m : Mem} {e : Nat} {q : BB} {p : Nat} {S : St} {B : Nat -> Int} {M W : Nat -> Bool} {D : Dv} {wv : AV}
theorem yAa (h : Cpu m e q p S B M W D wv) (st : Still D) {sec : Nat} (ok : DueOk p D sec (S.n 72)) (g : Good p (wD D B) S) {k : Int -> Mem -> Prop}
  (hk : ∀ m' W' wv' u, Cpu m' e q p (xN p (wD D B) S).1 (xN p (wD D B) S).2.1 M W' { dF D with up := u } wv' -> (W' = tW M W D.ka 64 \/ (nW p (wD D B) S /\ W' = tW M (tW M W D.ka 64) (wrA (wD D B) S) (wrN (wD D B) S))) -> (∀ x, own wv' x -> own wv x) -> Fr (fun x => xY e q x \/ own wv x) m m' -> k (xN p (wD D B) S).2.2 m') : F43 e 0 q.b 0 m k := by
 unfold F43
 rw [show (0 : Nat) + 72 = 72 from rfl, show (0 : Nat) + 71 = 71 from rfl, jA h.s]
 refine zY8 h.b st ok fun m3 wv3 u h3 F3 o3 => ?_
 have F3' : Fr (fun x => xY e q x \/ own wv x) m m3 := F3.mono fun b _ t => by
  rcases t with rfl | rfl | rfl | t | t
  .exact .inl (.inr (by simp [BB.all]))
  .exact .inl (.inr (by simp [BB.all]))
  .exact .inl (.inr (by simp [BB.all]))
  .exact .inl (.inr (BB.has t))
  .exact .inr t
 have hne : ¬ (e = q.k \/ e = q.w \/ e = q.ln \/ q.r.has e \/ own wv e) := fun t => by
  rcases t with t | t | t | t | t
  .exact h.de (by rw [t]; simp [BB.all])
  .exact h.de (by rw [t]; simp [BB.all])
  .exact h.de (by rw [t]; simp [BB.all])
  .exact h.de (BB.has t)
  .exact h.dw t
 have E3 : Cpu m3 e q p S (wD D B) M (tW M W D.ka 64) { dF D with up := u } wv3 := ⟨h.s.fr F3 hne, h.ok, h3, h.de, fun t => h.dw (o3 e t)⟩
 have st' : Still { dF D with up := u } := ⟨st.uc, st.en⟩
 refine uF E3.b st' (rC E3.s fun m6 h6 O6 => ?_)
 rw [g.c.line] at h6
 have E6 := E3.st h6 h.ok O6.fr1
 rw [mY h6 (by omega) rfl, g.c.w]
 refine zB rfl ?_
 unfold jF
 rw [show (0 : Nat) + 71 = 71 from rfl]
 refine oL h6 (by omega) rfl fun m10 h10 O10 => ?_
 rw [<- g.c.w, zBy] at h10
 have E10 := E6.st h10 h.ok O10.fr1
 have up : ∀ {a b : Mem}, Fr (xY e q) a b -> Fr (fun x => xY e q x \/ own wv x) a b := fun F => F.mono fun x _ hx => .inl hx
 have F10 : Fr (fun x => xY e q x \/ own wv x) m m10 := F3'.trans (up (yL (O6.fr1.trans O10.fr1)))
 refine fQ h10 h.ok (zD _ (fun c1 => ?_) fun c1 => ?_)
 .unfold xN at hk
  rw [if_pos c1] at hk
  exact sG E10 st' (by decide) (by decide) fun m' h' F' => hk m' _ wv3 u h' (.inl rfl) o3 (F10.trans (up (yL F')))
 .exact zUs E10 st' g c1 fun m' W' h' hW F' => hk m' W' wv3 u h' hW o3 (F10.trans (up F'))
end
structure DsOk (S : St) (x : In) (D : Dv) (r : Int) : Prop where
 ref : sP S x = -1
 c : zT x.k = 5
 s : zU x.k = 4
 n : x.k ≠ 75
 l : ∃ b, zJ S (uV S x) 4 true = (520094016 + r, -1, b)
 ok : DwOk D r (S.n 72)
 near : zCl S (520094016 + r) 4 = false
def dsD (S : St) (x : In) (D : Dv) (r : Int) : Dv := cG D r (S.n x.t.toNat) (S.n 72)
section
variable {m : Mem} {e : Nat} {q : BB} {p : Nat} {S : St} {B : Nat -> Int} {M W : Nat -> Bool} {D : Dv} {wv : AV} {c : Nat -> AV} {x : In}
theorem yDu (h : Cpu m e q p S B M W D wv) (st : Still D) (hp : p <= 64) (hc : tQ c x) (hx : FX x) {r : Int} (d : DsOk S x D r)
  {k : Int -> Bool -> Mem -> Prop} (hk : ∀ m' wv' u, Cpu m' e q p S B M W { dsD S x D r with up := u } wv' -> (∀ y, own wv' y -> own wv y \/ m.obj y = none) -> Fr (fun y => xY e q y \/ own wv y) m m' -> k (-1) false m') : zYa e 0 q.b 0 c m k := by
 unfold zYa
 refine sO hc fun b m1 hb1 K i O => ⟨fun _ => True, trivial, ?_⟩
 have E1 := h.keep K
 have ne : b ≠ e := fun t => h.s.live (t ▸ hb1)
 have neq : ∀ y ∈ q.all, y ≠ b := fun y hy t => h.b.live hy (t ▸ hb1)
 rw [i.l1]
 refine yF hx.s0 hx.s1 ⟨trivial, ?_⟩
 rw [ldR E1.s hx.s0 hx.s1]
 refine ⟨trivial, ?_⟩
 rw [i.l5]
 refine pS hx.i0 hx.i1 ⟨fun _ _ _ => rfl, ?_⟩
 rw [i.l0]
 refine zR5 hx.k ?_
 have va : IntKind.wrap .u32 (S.n x.s.toNat + sxV x.i) = uV S x := rfl
 rw [va]
 have vu := zKn (x := x) h.ok
 rw [d.s]
 refine kR E1.s vu.1 vu.2 ?_
 obtain ⟨bb, hL⟩ := d.l
 rw [hL]
 refine zB rfl ?_
 have d0 := d.ok
 have r0 : 0 <= r /\ r <= 8 := by rcases d0.w with t | t | t <;> omega
 rw [show (0 : Nat) + 37 = 37 from rfl, mY E1.s (by omega) rfl]
 have body : tI e 0 q.b 0 b 0 4 (520094016 + r) m1 (fun x50 x51 m52 => k x50 x51 m52) := by
  unfold tI
  rw [show (0 : Nat) + 2 = 2 from rfl, i.l2]
  refine yF hx.t0 hx.t1 ?_
  rw [ldR E1.s hx.t0 hx.t1, show (0 : Nat) + 72 = 72 from rfl, jA E1.s]
  refine zNb E1.b st hp d0 fun m35 wv' u h35 F35 o35 => zB rfl ?_
  have nb : ¬ (b = q.k \/ b = q.w \/ b = q.ln \/ own wv b) := fun t => by
   rcases t with t | t | t | t
   .exact neq q.k (by simp [BB.all]) t.symm
   .exact neq q.w (by simp [BB.all]) t.symm
   .exact neq q.ln (by simp [BB.all]) t.symm
   .exact h.b.wl.live t hb1
  have nE : ¬ (e = q.k \/ e = q.w \/ e = q.ln \/ own wv e) := fun t => by
   rcases t with t | t | t | t
   .exact h.de (by rw [t]; simp [BB.all])
   .exact h.de (by rw [t]; simp [BB.all])
   .exact h.de (by rw [t]; simp [BB.all])
   .exact h.dw t
  have E35 : Cpu m35 e q p S B M W { dsD S x D r with up := u } wv' := ⟨E1.s.fr F35 nE, h.ok, h35, h.de, fun t => (o35 e t).elim h.dw fun t => E1.s.live t⟩
  have i35 : vL m35 b x := by
   obtain ⟨y, ey, rr⟩ := i
   exact ⟨y, by rw [F35 b (by rw [ey]; simp) nb]; exact ey, rr⟩
  rw [show (0 : Nat) + 0 = 0 from rfl, i35.l0]
  have F1 : Fr (fun y => xY e q y \/ own wv y) m1 m35 := F35.mono fun y _ t => by
   rcases t with rfl | rfl | rfl | t
   .exact .inl (.inr (by simp [BB.all]))
   .exact .inl (.inr (by simp [BB.all]))
   .exact .inl (.inr (by simp [BB.all]))
   .exact .inr t
  have oo : ∀ y, own wv' y -> own wv y \/ m.obj y = none := fun y hy => (o35 y hy).elim .inl fun t => .inr (zX K t)
  refine zB (by simpa using d.n) ?_
  unfold rO
  rw [show (0 : Nat) + 0 = 0 from rfl, i35.l0]
  refine zB (by simpa using d.n) (zGm E35.s E35.ok (a := 520094016 + r) (n := 4) ⟨by omega, by omega⟩ (by decide) (by decide) ?_)
  rw [d.near]
  exact zB rfl (hk m35 wv' u E35 oo (Fr.key K F1))
 refine zD _ (fun c2 => ?_) fun c2 => ?_
 .rw [show (0 : Nat) + 38 = 38 from rfl, yE E1.s (by omega) rfl]
  unfold rK
  rw [show (0 : Nat) + 0 = 0 from rfl, i.l0]
  refine zB (by simpa using d.n) ?_
  unfold rP
  exact zB rfl body
 .unfold rK
  rw [show (0 : Nat) + 0 = 0 from rfl, i.l0]
  refine zB (by simpa using d.n) ?_
  unfold rP
  exact zB rfl body
theorem yI3 (h : Cpu m e q p S B M W D wv) (st : Still D) (hp : p <= 64) (hc : tQ c x) (hx : FX x) {r : Int} (d : DsOk S x D r) {k : Int -> Mem -> Prop}
  (hk : ∀ m' wv' u, Cpu m' e q p (sW S x (S.n x.s.toNat) (S.n x.t.toNat)) B M W { dsD S x D r with up := u } wv' -> (∀ y, own wv' y -> own wv y \/ m.obj y = none) -> Fr (fun y => xY e q y \/ own wv y) m m' -> k (-1) m') : F76 e 0 q.b 0 c m k := by
 unfold F76
 refine sO hc fun b m1 hb1 K i O => i.lg fun c3 h3 => ?_
 have E1 := h.keep K
 have ne : b ≠ e := fun t => h.s.live (t ▸ hb1)
 refine kL E1.s h3 hx ?_
 rw [d.ref]
 refine zB rfl ?_
 rw [i.l1]
 refine yF hx.s0 hx.s1 ?_
 rw [ldR E1.s hx.s0 hx.s1, i.l2]
 refine yF hx.t0 hx.t1 ?_
 rw [ldR E1.s hx.t0 hx.t1]
 have aU : wC (S.n x.s.toNat) := h.ok.1 _ (by have := hx.s1; omega)
 have n60 : x.k ≠ 60 := fun t => by have := d.c; rw [t] at this; revert this; decide
 refine i.lg fun c12 h12 => vQ h12 ?_
 rw [d.c]
 refine zB rfl (zG rfl (i.lg fun c19 h19 => yDu E1 st hp h19 hx d fun m22 wv' u E22 o22 F22 => ?_))
 unfold uO
 refine zB rfl (zB4 E22.s fun m32 h32 O32 => ?_)
 have E32 := E22.st h32 (zBk E22.ok 1) O32.fr1
 have nb : ¬ (xY e q b \/ own wv b) := fun t => t.elim (fun t => t.elim ne fun hb => h.b.live hb hb1) fun t => h.b.wl.live t hb1
 have i22 : vL m22 b x := by
  obtain ⟨y, ey, rr⟩ := i
  exact ⟨y, by rw [F22 b (by rw [ey]; simp) nb]; exact ey, rr⟩
 have i32 := i22.only O32 ne
 rw [show (0 : Nat) + 0 = 0 from rfl, i32.l0]
 refine zG (by simpa using n60) (i32.lg fun c34 h34 => zW0 E32.s h34 hx fun m35 h35 F35 => ?_)
 have E35 := E32.st h35 (yCt E32.ok hx aU) F35
 unfold qW
 have st2 : Still { dsD S x D r with up := u } := (hO st).up
 have up : ∀ {a b : Mem}, Fr (wM e) a b -> Fr (fun x => xY e q x \/ own wv x) a b := fun F => F.mono fun x _ hx => .inl (.inl hx)
 refine uF E35.b st2 (rC E35.s fun m38 h38 O38 => hk m38 wv' u ?_ (fun y hy => (o22 y hy).elim .inl fun t => .inr (zX K t)) (Fr.key K (F22.trans (up (O32.fr1.trans (F35.trans O38.fr1))))))
 have := E35.st h38 (jH E35.ok false) O38.fr1
 unfold sW
 rw [if_neg n60]
 exact this
end
section
variable {C C' : Nat -> Bool} {Y : Nat -> Prop} {m m' : Mem} {e : Nat} {q : BB} {c : Nat} {p : Nat} {S : St} {B : Nat -> Int} {M : Nat -> Bool} {D : Dv} {wv : AV} {n : Int} {l : List (Key × sN)} {Sc : Nat -> Prop} {cap made used : Int}
theorem EI.updW {S' : St} {B' : Nat -> Int} {W' : Nat -> Bool} {D' : Dv} {wv' : AV} (h : EI C Y m e q c p S B M D wv n l Sc cap made used) (h' : Cpu m' e q p S' B' M W' D' wv') (hW : ∀ j, j < p -> W' j = false) (hD : Still D') (ho : ∀ x, own wv' x -> own wv x \/ m.obj x = none)
  (F : Fr (fun x => xY e q x \/ own wv x) m m') (t : Tl S S') (cod : Cod C B B') (hC : ∀ j, C j = true -> C' j = true) : EI C' Y m' e q c p S' B' M D' wv' n l Sc cap made used := by
 have hsf : ∀ x, Sc x -> ¬ (xY e q x \/ own wv x) := fun x hx hf => hf.elim (fun hf => hf.elim (fun t => h.mac.ce (t ▸ hx)) fun t => h.mac.cb x t hx) fun t => h.mac.cw x t hx
 refine ⟨⟨h'.s, t.1.trans h.mac.sx, t.2.trans h.mac.sq, h'.b.noW hW, h.mac.c.fr F hsf, h.mac.de, h'.dw, h.mac.ce, h.mac.cb, fun x hx hs => ?_⟩, h'.ok, hD, fun en hen => ?_, fun j hj hm => hC j (h.mks j hj hm)⟩
 .rcases ho x hx with t | t
  .exact h.mac.cw x t hs
  .exact h.mac.c.live hs t
 .obtain ⟨k, b1, s1, c1⟩ := h.blk en hen
  have ew := s1.wd cod c1
  refine ⟨k, (b1.fr (F.mono fun x _ hx => (.inl (hx.elim .inl fun t => .inr (.inl t)) : ft e q wv Sc x \/ Y x)) fun x hx => ?_).cB ew, s1.cB ew, hC _ c1⟩
  rcases hx with (hx | hx | hx) | hx
  .exact .inl (.inl (.inl hx))
  .exact (ho x hx).elim (fun t => .inl (.inl (.inr (.inl t)))) .inr
  .exact .inl (.inl (.inr (.inr hx)))
  .exact .inl (.inr hx)
variable {m0 : Mem}
theorem ES.updW {S' : St} {B' : Nat -> Int} {W' : Nat -> Bool} {D' : Dv} {wv' : AV} (h : ES m0 C Y m e q c p S B M D wv n l Sc cap made used) (h' : Cpu m' e q p S' B' M W' D' wv') (hW : ∀ j, j < p -> W' j = false) (hD : Still D') (ho : ∀ x, own wv' x -> own wv x \/ m.obj x = none)
  (F : Fr (fun x => xY e q x \/ own wv x) m m') (t : Tl S S') (cod : Cod C B B') (hC : ∀ j, C j = true -> C' j = true) : ES m0 C' Y m' e q c p S' B' M D' wv' n l Sc cap made used := by
 refine ⟨h.h.updW h' hW hD ho F t cod hC, Fr.keeps h.K F fun x hx => h.f x (hx.elim .inl fun t => .inr (.inl t)), fun x hx => ?_⟩
 rcases hx with hx | hx | hx
 .exact h.f x (.inl hx)
 .rcases ho x hx with t | t
  .exact h.f x (.inr (.inl t))
  .cases e0 : m0.obj x with
   | none => rfl
   | some y =>
    have := h.K x (by rw [e0]; simp)
    rw [t, e0] at this; cases this
 .exact h.f x (.inr (.inr hx))
theorem yG1 {wv' : AV} (ho : ∀ x, own wv' x -> own wv x \/ m.obj x = none) : ∀ x, ft e q wv' Sc x -> ft e q wv Sc x \/ m.obj x = none := fun x hx => by
 rcases hx with hx | hx | hx
 .exact .inl (.inl hx)
 .exact (ho x hx).elim (fun t => .inl (.inr (.inl t))) .inr
 .exact .inl (.inr (.inr hx))
structure FireC (C C' : Nat -> Bool) (p : Nat) (D : Dv) (S : St) (B : Nat -> Int) (S' : St) (B' : Nat -> Int) : Prop where
 c : Calm S
 due : ∃ sec, DueOk p D sec (S.n 72)
 g : Good p (wD D B) S
 s : S.ok -> (xN p (wD D B) S).1 = S'
 b : S.ok -> (xN p (wD D B) S).2.1 = B'
 w : ¬ nW p (wD D B) S
 pg : ∀ j : Nat, D.ka / 1024 <= j -> (j : Int) <= (D.ka + 64 - 1) / 1024 -> C j = false
 cod : Cod C B B'
 sub : ∀ j, C j = true -> C' j = true
theorem FireC.isdue {S' : St} {B' : Nat -> Int} (h : FireC C C' p D S B S' B') : uR D (S.n 72) = true := by
 obtain ⟨sec, ok⟩ := h.due
 obtain ⟨t, q', e1, e2⟩ := ok.e
 unfold uR rW
 rw [e1]
 simpa using e2
theorem At.fire {S' : St} {B' : Nat -> Int} (h : At m0 C e q c p D wv n cap l Sc made used S B m) (g : FireC C C' p D S B S' B') {k : Int -> Mem -> Prop}
  (hk : ∀ cd m' wv', cd ≠ -2 -> At m0 C' e q c p (dF D) wv' n cap l Sc made used S' B' m' -> k cd m') : F43 e 0 q.b 0 m k := by
 have hS := At.ok h
 obtain ⟨S1, M, u, hn, hp, E⟩ := h
 have eS := St.as hn hp
 obtain ⟨sec, ok⟩ := g.due
 have ok1 : DueOk p { D with up := u } sec (S1.n 72) := by rw [hn]; exact ⟨ok.e, ok.ks, ok.n, ok.nd, ok.kc, ok.kt, ok.ka, ok.r⟩
 have G1 : Good p (wD { D with up := u } B) S1 := by rw [eS]; exact g.g.wt S1
 have st1 : xN p (wD D B) S1 = ((xN p (wD D B) S).1.wt S1, (xN p (wD D B) S).2) := by rw [eS]; exact zUy p _ S _
 refine yAa E.h.cpu E.h.st ok1 G1 fun m' W' wv' u' h' hW ho F' => ?_
 have h' : Cpu m' e q p (xN p (wD D B) S1).1 (xN p (wD D B) S1).2.1 M W' { dF D with up := u' } wv' := h'
 show k (xN p (wD D B) S1).2.2 m'
 rw [st1] at h' ⊢
 rw [g.s hS, g.b hS] at h'
 refine hk _ m' wv' yCq ⟨S'.wt S1, M, u', rfl, rfl, E.updW h' (fun j hj => ?_) ⟨E.h.st.uc, E.h.st.en⟩ (fun x hx => .inl (ho x hx)) F' ⟨rfl, rfl⟩ g.cod g.sub⟩
 rcases hW with rfl | ⟨w, _⟩
 .unfold tW
  simp only [Bool.false_or]
  cases hm : M j with
  | false => rfl
  | true =>
   rw [Bool.true_and]
   refine decide_eq_false fun ⟨h1, h2, h3⟩ => ?_
   have := g.pg j h2 h3
   rw [E.h.mks j hj hm] at this; simp at this
 .have w : nW p (wD D B) (S.wt S1) := by rw [<- eS]; exact w
  exact absurd (zEp w) g.w
end
structure DevC (C : Nat -> Bool) (p : Nat) (D : Dv) (S : St) (B : Nat -> Int) (S' : St) (D' : Dv) : Prop where
 c : Calm S
 due : uR D (S.n 72) = false
 nt : xD S = false
 slot : S.p 36 = false
 pl : Place C p B S
 here : ∃ a r, zJ S (S.n 34) 4 false = (a, -1, r) /\ a < p * 1024
 fx : FX (xQ B S)
 np : yX (xQ B S) = false
 d : ∃ r, DsOk S (xQ B S) D r /\ D' = dsD S (xQ B S) D r
 s : S' = sW S (xQ B S) (S.n (xQ B S).s.toNat) (S.n (xQ B S).t.toNat)
theorem yHm (S : St) {x : In} (hx : FX x) (a t : Int) : Sp S (sW S x a t) := by
 unfold sW
 refine Sp.trans ?_ (zLh _ _)
 split
 .exact zPr _
 .exact (zPr _).trans (yMf _ hx _ _)
structure Mst where
 C : Nat -> Bool
 D : Dv
 S : St
 B : Nat -> Int
inductive StepG (p : Nat) (a b : Mst) : Prop
 | cpu (h : StepC a.C p a.D a.S a.B b.S b.B) (hC : b.C = a.C) (hD : b.D = a.D)
 | dev (h : DevC a.C p a.D a.S a.B b.S b.D) (hC : b.C = a.C) (hB : b.B = a.B)
 | fire (h : FireC a.C b.C p a.D a.S a.B b.S b.B) (hD : b.D = dF a.D)
theorem StepG.c {p : Nat} {a b : Mst} (h : StepG p a b) : Calm a.S := by
 cases h with
 | cpu h _ _ => exact h.c
 | dev h _ _ => exact h.c
 | fire h _ => exact h.c
section
variable {m0 : Mem} {C : Nat -> Bool} {e : Nat} {q : BB} {c : Nat} {p : Nat} {D D' : Dv} {wv : AV} {n : Int} {cap : Int}
variable {m : Mem} {l : List (Key × sN)} {Sc : Nat -> Prop} {made used : Int} {S S' : St} {B B' : Nat -> Int}
theorem DsOk.wt {S T : St} {x : In} {r : Int} (h : DsOk S x D r) {u : Int} : DsOk (S.wt T) x { D with up := u } r := ⟨h.ref, h.c, h.s, h.n, h.l, ⟨h.ok.w, h.ok.c, h.ok.n0, h.ok.n1⟩, h.near⟩
theorem At.devdo (hp : p <= 64) (h : At m0 C e q c p D wv n cap l Sc made used S B m) (g : DevC C p D S B S' D') {c2 : Nat -> AV} {v : AV} (hc : tQ c2 (xQ B S))
  {k : Bool -> Mem -> Prop} (hk : ∀ fl m' wv', At m0 C e q c p D' wv' n cap l Sc made used S' B m' -> Fr (fun x => xY e q x \/ own wv x) m m' -> (∀ x, own wv' x -> own wv x \/ m.obj x = none) -> (fl = true -> Sp S S') -> k fl m') : F71 e 0 c2 v m k := by
 unfold F71
 obtain ⟨S1, M, u, hn, hpp, E⟩ := h
 have eS := St.as hn hpp
 refine sO hc fun b2 m1 hb2 K1 i2 O1 => i2.lg fun c3 h3 => ?_
 have E1 := E.keep K1
 obtain ⟨r, d, eD⟩ := g.d
 refine zJ7 h3 g.fx.i0 ?_
 rw [show yX (xQ B S) = false from g.np]
 refine zB rfl ?_
 have tl : ∀ k, ldA m1 e (0 + 73) k = k (.ptr q.b 0) := fun k => by
  rw [show (0 : Nat) + 73 = 73 + 0 from rfl]
  exact vH (j := 0) E1.h.mac.s E1.h.q0 E1.h.x0 rfl k
 rw [tl]
 refine i2.lg fun c8 h8 => ?_
 dsimp only [yD]
 have d1 : DsOk S1 (xQ B S) { D with up := u } r := by rw [eS]; exact d.wt
 refine yI3 E1.h.cpu E1.h.st hp h8 g.fx d1 fun m12 wv' u' h12 o12 F12 => ?_
 have eg : sW S1 (xQ B S) (S1.n (xQ B S).s.toNat) (S1.n (xQ B S).t.toNat) = S'.wt S1 := by
  rw [g.s, <- zVi, hn, <- eS]
 rw [eg] at h12
 have eD2 : { dsD S1 (xQ B S) { D with up := u } r with up := u' } = { D' with up := u' } := by
  rw [eD]; unfold dsD; rw [hn, yQ5]
 rw [eD2] at h12
 have hD' : Still { D' with up := u' } := by rw [<- eD2]; exact ⟨(hO E1.h.st).uc, (hO E1.h.st).en⟩
 have A12 : At m0 C e q c p D' wv' n cap l Sc made used S' B m12 := ⟨S'.wt S1, M, u', rfl, rfl, E1.updW h12 (fun _ _ => rfl) hD' o12 F12 ⟨rfl, rfl⟩ (fun _ _ => rfl) fun _ t => t⟩
 have nb2 : ¬ (xY e q b2 \/ own wv b2) := fun t => t.elim (fun t => qR E.h (.inl t) hb2) fun t => qR E.h (.inr (.inl t)) hb2
 refine At.sync A12 fun m13 A13 F13 => ?_
 have F13' : Fr (fun x => xY e q x \/ own wv x) m12 m13 := F13.mono fun x _ hx => .inl hx
 have i13 : vL m13 b2 (xQ B S) := by
  obtain ⟨y, ey, rr⟩ := i2
  have e12 : m12.obj b2 = some y := by rw [F12 b2 (by rw [ey]; simp) nb2]; exact ey
  exact ⟨y, by rw [F13 b2 (by rw [e12]; simp) fun t => nb2 (.inl t)]; exact e12, rr⟩
 refine zG rfl (i13.lg fun c14 h14 => vQ h14 (hk _ m13 wv' A13 (Fr.key K1 (F12.trans F13')) (fun x hx => (o12 x hx).elim .inl fun t => .inr (zX K1 t)) fun _ => by rw [g.s]; exact yHm _ g.fx _ _))
end
section
variable {m0 : Mem} {e : Nat} {q : BB} {c : Nat} {p : Nat} {wv : AV} {n : Int} {cap : Int}
variable {m : Mem} {l : List (Key × sN)} {Sc : Nat -> Prop} {made used : Int}
theorem At.run2 (hp : p <= 64) {X : Nat -> Mst} {left : Nat} (hX : ∀ g, g < left -> StepG p (X g) (X (g + 1))) (hl1 : 1 <= left) (nt : xD (X 0).S = false) (nd : uR (X 0).D ((X 0).S.n 72) = false) (h : At m0 (X 0).C e q c p (X 0).D wv n cap l Sc made used (X 0).S (X 0).B m) {a : Nat} {r : Bool} (hL : zJ (X 0).S ((X 0).S.n 34) 4 false = ((a : Int), -1, r)) {c1 : Nat -> AV} {kk : Nat} (hb : Bk m (X 0).B c1 a kk (ft e q wv Sc)) (hs : Shape p (X 0).B a kk) (hC : (X 0).C ((a : Int) / 1024).toNat = true) (hW : mQ (X 0).B a)
  {k : Int -> Mem -> Prop} (hk : ∀ (g : Nat) m' wv', 1 <= g -> g <= left -> At m0 (X g).C e q c p (X g).D wv' n cap l Sc made used (X g).S (X g).B m' -> k g m') : F42 e 0 c1 left m k := by
 unfold F42
 refine zW fun b2 m1 hb2 K1 e1 O1 => ?_
 have h1 := h.keep K1
 have n2 : ¬ ft e q wv Sc b2 := fun t => h.ftl t hb2
 obtain ⟨S1, M, u, hn, hpp, E⟩ := id h1
 rw [show (0 : Nat) + 0 + 34 = 34 from rfl, yE E.h.mac.s (by omega) rfl, hn]
 have pu := h.ok.1 34 (by omega)
 have hb1 := hb.fr (T' := ft e q wv Sc) (K1.fr _) fun x hx => .inl hx
 have bx : ∀ {mm : Mem} {i : Nat} {v : AV}, mm.obj b2 = some ⟨4, c1, 85, false⟩ -> i < 4 -> c1 i = v -> v.one = true -> ∀ kx, ldA mm b2 i kx = kx v := fun he hi hv h1 kx => zBh he hi hv h1 kx
 obtain ⟨ci, hi1, hi2⟩ := hb1.i
 rw [bx e1 (by decide) rfl hi1.one, vB hi1.r]
 have kn2 := hs.n2
 have loop : ∀ (j i : Nat) (mm : Mem) (wv : AV), i + j = kk -> i <= left -> At m0 (X i).C e q c p (X i).D wv n cap l Sc made used (X i).S (X i).B mm -> Bk mm (X 0).B c1 a kk (ft e q wv Sc) -> mm.obj b2 = some ⟨4, c1, 85, false⟩ -> Sp (X 0).S (X i).S -> Cod (X 0).C (X 0).B (X i).B -> (X i).C = (X 0).C -> (i = 0 -> uR (X i).D ((X i).S.n 72) = false) -> ¬ ft e q wv Sc b2 -> zAb e 0 left b2 0 ((X 0).S.n 34) (c1 2) kk (j + 1) i i mm (fun x52 m53 => k x52 m53) := by
  intro j
  induction j with
  | zero =>
   intro i mm wv ej il hA hB he hsp hcd hCi hd0 n2
   have := hs.n1
   show gG _ _ _ _ _ _ _ _ _ _ _ _ _
   unfold gG
   exact zB (by simp; omega) (hk i mm wv (by omega) il hA)
  | succ j ih =>
   intro i mm wv ej il hA hB he hsp hcd hCi hd0 n2
   show gG _ _ _ _ _ _ _ _ _ _ _ _ _
   unfold gG
   have hik : i < kk := by omega
   obtain ⟨ci', hi1', hi2'⟩ := hB.i
   rw [zK (n := (i : Int) + 1) (by omega) (by omega)]
   obtain ⟨hev, hpg⟩ := hs.at hik
   have hnx := zHl (k := i) pu.1 pu.2 hL h.ok hs.a4 hpg
   have eoff : IntKind.wrap .u32 (IntKind.wrap .i64 (4 * (i : Int))) = 4 * i := by rw [zK (n := 4 * (i : Int)) (by omega) (by omega), yV]; omega
   refine zG (by simp; omega) ?_
   have ldc : ∀ {kx : (Nat -> AV) -> Prop}, (∀ cx, tQ cx (uX (X 0).B a i) -> kx cx) -> vD (c1 2) fun b6 o7 l8 p9 => kif (decide (0 <= (i : Int)) && decide ((i : Int) < l8)) (yN 6 mm b6 (o7 + (i : Int).toNat * 6) kx) False := fun hkx => yQn hi1' hi2' hik hkx
   refine ldc fun cx hcx => zT2 hcx fun b12 m13 hb12 K13 i12 => ?_
   have hA13 := hA.keep K13
   have he13 : m13.obj b2 = some ⟨4, c1, 85, false⟩ := by rw [K13 b2 (by rw [he]; simp)]; exact he
   have hB13 : Bk m13 (X 0).B c1 a kk (ft e q wv Sc) := hB.fr (K13.fr _) fun x hx => .inl hx
   have stop : ∀ mz, 1 <= i -> At m0 (X i).C e q c p (X i).D wv n cap l Sc made used (X i).S (X i).B mz -> k i mz := fun mz hi hz => hk i mz wv hi il hz
   refine zD _ (fun cl => stop m13 (by simp at cl; omega) hA13) fun cl => ?_
   have cl : i < left := by simp at cl; omega
   obtain ⟨S2, M2, u2, hn2, hpp2, E2⟩ := id hA13
   rw [show (0 : Nat) + 0 + 34 = 34 from rfl, yE E2.h.mac.s (by omega) rfl, hn2, eoff]
   have ew : IntKind.wrap .u32 ((X 0).S.n 34 + 4 * (i : Int)) = (X 0).S.n 34 + 4 * i := by rw [yV]; omega
   rw [ew]
   refine zD _ (fun cp => stop m13 ?_ hA13) fun cp => ?_
   .have cp : (X i).S.n 34 ≠ (X 0).S.n 34 + 4 * (i : Int) := by simpa using cp
    by_cases t : i = 0
    .subst t; simp at cp
    .omega
   have cp : (X i).S.n 34 = (X 0).S.n 34 + 4 * (i : Int) := by simpa using cp
   have hLi : zJ (X i).S ((X i).S.n 34) 4 false = ((a : Int) + 4 * i, -1, r) := by rw [<- hsp.lies, cp]; exact hnx.2
   have g := hX i cl
   have body : ∀ mz, xD (X i).S = false -> uR (X i).D ((X i).S.n 72) = false -> At m0 (X i).C e q c p (X i).D wv n cap l Sc made used (X i).S (X i).B mz -> Fr (xY e q) m13 mz -> pW e 0 left b2 0 ((X 0).S.n 34) i i b12 0 (4 * i) (c1 2) kk i mz (fun x44 m45 => k x44 m45) (fun x46 m47 => zAb e 0 left b2 0 ((X 0).S.n 34) (c1 2) kk (j + 1) x46 ((i : Int) + 1) m47 (fun x52 m53 => k x52 m53)) := fun mz ntz ndz hz Fz => by
    unfold pW
    refine ⟨fun y => y = e \/ y = b2, .inl rfl, ?_⟩
    obtain ⟨S3, M3, u3, hn3, hpp3, E3⟩ := id hz
    have tl : ∀ k, ldA mz e (0 + 73) k = k (.ptr q.b 0) := fun k => by
     rw [show (0 : Nat) + 73 = 73 + 0 from rfl]
     exact vH (j := 0) E3.h.mac.s E3.h.q0 E3.h.x0 rfl k
    rw [tl]
    dsimp only [yD]
    have hez : mz.obj b2 = some ⟨4, c1, 85, false⟩ := by rw [Fz b2 (by rw [he13]; simp) fun t => n2 (.inl t)]; exact he13
    have hBz : Bk mz (X 0).B c1 a kk (ft e q wv Sc) := hB13.fr (Fz.mono fun x _ hx => .inl hx) fun x hx => .inl hx
    refine rV E3.h.mac.b ⟨fun _ _ _ => rfl, .inr rfl, ?_⟩
    rw [show (0 : Nat) + 0 = 0 from rfl, yW (n := (a : Int)) hez (by show 0 < 4; decide) hBz.v0]
    dsimp only [yD]
    have hu : wC ((a : Int) + 4 * i) := by obtain ⟨_, _, q1, q2⟩ := hev; exact ⟨by omega, by omega⟩
    rw [yLl hu]
    refine nF E3.h.mac.b.r hu (by unfold isI; omega) ?_
    rw [if_pos hev, decide_eq_true hev]
    refine ⟨fun _ _ _ => rfl, zB rfl ?_⟩
    have ew1 : mZ (X i).B ((a : Int) + 4 * i) 4 = qO (X 0).B a i := hs.wd hcd hC i hik
    rw [show (0 : Nat) + 1 = 1 from rfl, bx hez (by decide) rfl hBz.w.one]
    refine zGi (x := qO (X 0).B a i) hBz.w.r (by omega) (by omega) (by rw [Int.toNat_natCast]; rfl) fun _ _ _ => zB ?_ ?_
    .show (mZ (X i).B ((a : Int) + 4 * i) 4 != qO (X 0).B a i) = false
     rw [ew1]; simp
    have iz12 : vL mz b12 (uX (X 0).B a i) := by
     obtain ⟨y, ey, rr⟩ := i12
     have nb12 : ¬ xY e q b12 := fun t => hA.ftl (.inl t) hb12
     exact ⟨y, by rw [Fz b12 (by rw [ey]; simp) nb12]; exact ey, rr⟩
    refine iz12.lg fun c35 h35 => ?_
    obtain ⟨c3, o1, o2⟩ := hBz.o
    obtain ⟨p1, p2, p3⟩ := o2 i hik
    rw [show (0 : Nat) + 3 = 3 from rfl, bx hez (by decide) rfl o1.one]
    refine yVc o1 hik p1 ?_
    have eIn : ofS (mZ (X i).B ((a : Int) + 4 * i) 4) = uX (X 0).B a i := by rw [ew1]; rfl
    have eIs : xQ (X i).B (X i).S = uX (X 0).B a i := by
     unfold xQ; rw [hLi]; exact eIn
    have hez2 : mz.obj b2 ≠ none := by rw [hez]; simp
    have done : ∀ (fl : Bool) (m43 : Mem) (wv' : AV), At m0 (X (i + 1)).C e q c p (X (i + 1)).D wv' n cap l Sc made used (X (i + 1)).S (X (i + 1)).B m43 -> Fr (fun x => xY e q x \/ own wv x) mz m43 -> (∀ x, own wv' x -> own wv x \/ mz.obj x = none) -> (fl = true -> Sp (X i).S (X (i + 1)).S) -> Cod (X i).C (X i).B (X (i + 1)).B -> (X (i + 1)).C = (X i).C ->
      kif (!fl) (k (IntKind.wrap .i64 ((i : Int) + 1)) m43) (zAb e 0 left b2 0 ((X 0).S.n 34) (c1 2) kk (j + 1) (IntKind.wrap .i64 ((i : Int) + 1)) ((i : Int) + 1) m43 (fun x52 m53 => k x52 m53)) := fun fl m43 wv' h43 F43 ho hfl hcod hCC => by
     rw [zK (n := (i : Int) + 1) (by omega) (by omega)]
     refine zD _ (fun cf => hk (i + 1) m43 wv' (by omega) (by omega) h43) fun cf => ?_
     have cf : fl = true := by simpa using cf
     have n2' : ¬ ft e q wv' Sc b2 := fun t => (yG1 ho b2 t).elim n2 hez2
     refine ih (i + 1) m43 wv' (by omega) (by omega) h43 (hBz.fr (F43.mono fun x _ hx => hx.elim .inl fun t => .inr (.inl t)) (yG1 ho)) (by rw [F43 b2 hez2 fun t => n2 (t.elim .inl fun t => .inr (.inl t))]; exact hez) (hsp.trans (hfl cf)) (fun j2 hj2 => (hcod j2 (by rw [hCi]; exact hj2)).trans (hcd j2 hj2)) (hCC.trans hCi) (fun t => absurd t (by omega)) n2'
    cases g with
    | cpu g gC gD =>
     refine At.do hp hz g ntz hLi hev (by rw [eIn]; exact h35) (by rw [eIn]; exact p2) (fun t => p3 e t (.inl (.inl rfl))) (by rw [eIn]; exact hW i hpg) fun fl m43 h43 F43 hfl => done fl m43 wv ?_ (F43.mono fun x _ hx => .inl hx) (fun x hx => .inl hx) hfl g.cod gC
     rw [gC, gD]; exact h43
    | dev g gC gB =>
     refine At.devdo hp hz g (by rw [eIs]; exact h35) fun fl m43 wv' h43 F43 ho hfl => done fl m43 wv' ?_ F43 ho hfl (fun j2 _ => by rw [gB]) gC
     rw [gC, gB]; exact h43
    | fire g gD =>
     rw [g.isdue] at ndz; cases ndz
   refine zD _ (fun c0 => ?_) fun c0 => ?_
   .have c0 : 1 <= i := by simp at c0; omega
    refine At.due hA13 g.c fun mz hz Fz => ?_
    refine zD _ (fun ct => stop mz c0 hz) fun ct => ?_
    have ct : uR (X i).D ((X i).S.n 72) = false /\ xD (X i).S = false := by simpa using ct
    exact body mz ct.2 ct.1 hz Fz
   .have c0 : i = 0 := by simp at c0; omega
    refine body m13 ?_ (hd0 c0) hA13 (Fr.refl _ _)
    rw [c0]; exact nt
 exact ⟨kk + 1, loop kk 0 m1 wv (by omega) (by omega) h1 hb1 e1 (Sp.refl _) (fun _ _ => rfl) rfl (fun _ => nd) n2⟩
end
section
variable {m0 : Mem} {e : Nat} {q : BB} {c : Nat} {p : Nat} {n : Int} {cap : Int}
variable {m : Mem}
def AtG (m0 : Mem) (e : Nat) (q : BB) (c p : Nat) (n cap : Int) (X : Mst) (m : Mem) : Prop :=
 ∃ wv l Sc made used, At m0 X.C e q c p X.D wv n cap l Sc made used X.S X.B m
theorem yYf (hp : p <= 64) {X : Nat -> Mst} {N : Nat} (hN : N <= 1000000) (hX : ∀ g, g < N -> StepG p (X g) (X (g + 1))) (h : AtG m0 e q c p n cap (X 0) m)
  {k : Int -> Int -> Mem -> Prop} (hk : ∀ m', AtG m0 e q c p n cap (X N) m' -> k 1 N m') : F25 e 0 N m k := by
 unfold F25
 rw [if_neg (by omega)]
 have loop : ∀ (f g : Nat) (m : Mem), g <= N -> N - g < f -> AtG m0 e q c p n cap (X g) m -> qK e 0 N f g m (fun x48 m49 => k 1 x48 m49) (fun x50 x51 m52 => k x50 x51 m52) := by
  intro f
  induction f with
  | zero => intro g m h1 h2; omega
  | succ f ih =>
   intro g m hgN hgf hA
   show zGp _ _ _ _ _ _ _ _
   unfold zGp
   by_cases hg : g < N
   rotate_left
   .have : g = N := by omega
    subst this
    exact zB (by simp) (hk m hA)
   refine zG (by simpa using hg) ?_
   obtain ⟨wv, l, Sc, made, used, hA⟩ := hA
   have sc := hX g hg
   refine At.sync hA fun m1 h1 F1 => ?_
   obtain ⟨S1, M1, u1, hn1, hp1, E1⟩ := id h1
   rw [show (0 : Nat) + 0 + 36 = 36 from rfl, mY E1.h.mac.s (by omega) rfl, hp1]
   -- a step by itself
   have stepP : ∀ (mz : Mem) (lz : List (Key × sN)) (Sz : Nat -> Prop) (kz uz : Int), At m0 (X g).C e q c p (X g).D wv n cap lz Sz kz uz (X g).S (X g).B mz -> (uR (X g).D ((X g).S.n 72) = true \/ xD (X g).S = true \/ (X g).S.p 36 = true \/ ¬ ∃ a r, zJ (X g).S ((X g).S.n 34) 4 false = (a, -1, r) /\ a < p * 1024) -> sI e 0 N g mz (fun x34 m35 => qK e 0 N f x34 m35 (fun x48 m49 => k 1 x48 m49) (fun x50 x51 m52 => k x50 x51 m52)) (fun x36 x37 m38 => k x36 x37 m38) (fun x39 m40 => qK e 0 N f x39 m40 (fun x48 m49 => k 1 x48 m49) (fun x50 x51 m52 => k x50 x51 m52)) := fun mz lz Sz kz uz hz why => by
    unfold sI
    obtain ⟨S2, M2, u2, hn2, hp2, E2⟩ := id hz
    have tl : ∀ k, ldA mz e (0 + 73) k = k (.ptr q.b 0) := fun k => by
     rw [show (0 : Nat) + 73 = 73 + 0 from rfl]
     exact vH (j := 0) E2.h.mac.s E2.h.q0 E2.h.x0 rfl k
    rw [tl]
    dsimp only [yD]
    have nxt : ∀ (Z : Mem -> Prop) (cd : Int) (m2 : Mem) (wv2 : AV), cd ≠ -2 -> At m0 (X (g + 1)).C e q c p (X (g + 1)).D wv2 n cap lz Sz kz uz (X (g + 1)).S (X (g + 1)).B m2 -> F39 e 0 m2 fun m24 => kif (cd != (-2)) (qK e 0 N f (IntKind.wrap .i64 ((g : Int) + 1)) m24 (fun x48 m49 => k 1 x48 m49) (fun x50 x51 m52 => k x50 x51 m52)) (Z m24) := fun Z cd m2 wv2 hcd h2 => At.sync h2 fun m3 h3 F3 => zG (by simpa using hcd) (by
     rw [zK (n := (g : Int) + 1) (by omega) (by omega)]
     exact ih (g + 1) m3 (by omega) (by omega) ⟨_, _, _, _, _, h3⟩)
    cases sc with
    | cpu s sC sD =>
     have hst := s.st.resolve_right fun ⟨b1, b2, b3, _⟩ => by
      rcases why with w | w | w | w
      .rw [s.due] at w; cases w
      .rw [w] at b1; cases b1
      .rw [w] at b2; cases b2
      .exact w b3
     exact At.step hz s hst fun cd m2 hcd h2 => nxt _ cd m2 wv hcd (by rw [sC, sD]; exact h2)
    | dev s sC sB =>
     exfalso
     rcases why with w | w | w | w
     .rw [s.due] at w; cases w
     .rw [s.nt] at w; cases w
     .rw [s.slot] at w; cases w
     .exact w s.here
    | fire s sD =>
     exact At.fire hz s fun cd m2 wv2 hcd h2 => nxt _ cd m2 wv2 hcd (by rw [sD]; exact h2)
   have noblock : ∀ (mz : Mem), At m0 (X g).C e q c p (X g).D wv n cap l Sc made used (X g).S (X g).B mz -> (uR (X g).D ((X g).S.n 72) = true \/ xD (X g).S = true \/ (X g).S.p 36 = true) -> sJ e 0 N g false mz (fun x14 m15 => qK e 0 N f x14 m15 (fun x48 m49 => k 1 x48 m49) (fun x50 x51 m52 => k x50 x51 m52)) (fun x16 m17 => sI e 0 N x16 m17 (fun x34 m35 => qK e 0 N f x34 m35 (fun x48 m49 => k 1 x48 m49) (fun x50 x51 m52 => k x50 x51 m52)) (fun x36 x37 m38 => k x36 x37 m38) (fun x39 m40 => qK e 0 N f x39 m40 (fun x48 m49 => k 1 x48 m49) (fun x50 x51 m52 => k x50 x51 m52))) := fun mz hz why => by
    unfold sJ
    exact zB rfl (stepP mz _ _ _ _ hz (why.imp id fun t => t.imp id .inl))
   refine zD _ (fun cs => ?_) fun cs => noblock m1 h1 (.inr (.inr (by simpa using cs)))
   refine At.due h1 sc.c fun m4 h4 F4 => ?_
   cases cd : uR (X g).D ((X g).S.n 72) with
   | true =>
    rw [Bool.true_or]
    exact noblock m4 h4 (.inl cd)
   | false =>
   rw [Bool.false_or]
   cases ct : xD (X g).S with
   | true => exact noblock m4 h4 (.inr (.inl ct))
   | false =>
    unfold sJ
    refine zG rfl ?_
    obtain ⟨S2, M2, u2, hn2, hp2, E2⟩ := id h4
    have eS := St.as hn2 hp2
    have eL : zJ S2 (S2.n 34) 4 false = zJ (X g).S ((X g).S.n 34) 4 false := by rw [eS]; rfl
    have pl1 : Place (X g).C p (X g).B (X g).S := by
     cases sc with
     | cpu s _ _ => exact s.pl
     | dev s _ _ => exact s.pl
     | fire s _ => rw [s.isdue] at cd; cases cd
    have pl2 : Place (X g).C p (X g).B S2 := ⟨fun a r ha => pl1.k a r (by rw [<- eL]; exact ha)⟩
    refine zP9 hp E2 pl2 (fun hno c5 m7 E7 => ?_) fun a r kk c5 m7 S7 M7 l7 Sc7 k7 u7 hL har E7 en7 ep7 hb7 hs7 => ?_
    .refine zW fun b9 m8 hb9 K8 e8 O8 => ?_
     rw [wR e8 rfl (by show 0 + 4 <= 4; omega)]
     refine zB rfl ?_
     refine stepP _ l Sc made used ?_ (.inr (.inr (.inr fun ⟨a, r, hL, har⟩ => ?_)))
     .exact At.keep (S := (X g).S) ⟨S2, M2, u2, hn2, hp2, E7⟩ (yC.keeps K8 hb9 (yC.set _ _ _))
     .rw [eL, hL] at hno
      rcases hno with t | t
      .exact t rfl
      .exact t har
    .refine zW fun b9 m8 hb9 K8 e8 O8 => ?_
     rw [wR e8 rfl (by show 0 + 4 <= 4; omega)]
     refine zG rfl ?_
     rw [xH (zL _ _ _) (by show 0 + 4 <= 4; omega)]
     have K10 : zA m7 (m8.set b9 _) := yC.keeps K8 hb9 (yC.set m8 b9 ⟨4, zC (zH [(.flat (.int .u32 0)), (.flat (.slice none 0 0)), (.flat (.slice none 0 0)), (.flat (.slice none 0 0))]) 0 4 c5, 85, false⟩)
     have A7 : At m0 (X g).C e q c p (X g).D wv n cap l7 Sc7 k7 u7 (X g).S (X g).B m7 := ⟨S7, M7, u2, en7.trans hn2, ep7.trans hp2, E7⟩
     have hpl := pl2.k _ r hL har
     have hLg : zJ (X g).S ((X g).S.n 34) 4 false = ((a : Int), -1, r) := by rw [<- eL]; exact hL
     rw [show IntKind.wrap .i64 ((N : Int) - g) = ((N - g : Nat) : Int) by rw [zK (by omega) (by omega)]; omega]
     refine At.run2 hp (X := fun i => X (g + i)) (left := N - g) (fun i hi => hX (g + i) (by omega)) (by omega) ct cd (A7.keep K10) hLg (kk := kk) ((hb7.fr (T' := ft e q wv Sc7) (K10.fr _) fun x hx => .inl hx).congr fun j hj => ?_) hs7 hpl.1 hpl.2 fun i m13 wv13 hi1 hi2 h13 => ?_
     .simp only [sub, zC]
      rw [if_pos hj, if_pos (by omega), Nat.zero_add, Nat.sub_zero]
     .rw [zK (n := (g : Int) + (i : Int)) (by omega) (by omega), show (g : Int) + (i : Int) = ((g + i : Nat) : Int) by omega]
      exact ih (g + i) m13 (by omega) (by omega) ⟨_, _, _, _, _, h13⟩
 exact ⟨N + 1, loop (N + 1) 0 m (by omega) (by omega) h⟩
end
inductive PathG (p : Nat) : Nat -> Mst -> Mst -> Prop
 | nil (a : Mst) : PathG p 0 a a
 | cons {k : Nat} {a b c : Mst} (h : StepG p a b) (t : PathG p k b c) : PathG p (k + 1) a c
theorem PathG.one {p : Nat} {a b : Mst} (h : StepG p a b) : PathG p 1 a b := .cons h (.nil _)
theorem PathG.trans {p k j : Nat} {a b c : Mst} (h : PathG p k a b) (t : PathG p j b c) : PathG p (k + j) a c := by
 induction h with
 | nil a => rw [Nat.zero_add]; exact t
 | cons h _ ih => rw [Nat.add_right_comm]; exact .cons h (ih t)
theorem PathG.chain {p k : Nat} {a b : Mst} (h : PathG p k a b) : ∃ X : Nat -> Mst, X 0 = a /\ X k = b /\ ∀ g, g < k -> StepG p (X g) (X (g + 1)) := by
 induction h with
 | nil a => exact ⟨fun _ => a, rfl, rfl, fun g hg => by omega⟩
 | @cons k a b c h t ih =>
  obtain ⟨X, x0, xk, hs⟩ := ih
  refine ⟨fun g => match g with | 0 => a | g + 1 => X g, rfl, xk, fun g hg => ?_⟩
  match g with
  | 0 => show StepG p a (X 0); rw [x0]; exact h
  | g + 1 => exact hs g (by omega)
theorem Path.g {C : Nat -> Bool} {p : Nat} {D : Dv} {k : Nat} {S S' : St} {B B' : Nat -> Int} (h : Path C p D k S B S' B') : PathG p k ⟨C, D, S, B⟩ ⟨C, D, S', B'⟩ := by
 induction h with
 | nil S B => exact .nil _
 | @cons k S S1 S2 B B1 B2 h _ ih => exact .cons (b := ⟨C, D, S1, B1⟩) (.cpu h rfl rfl) ih
theorem StepC.dv {C : Nat -> Bool} {p : Nat} {D D' : Dv} {S S' : St} {B B' : Nat -> Int} (h : StepC C p D S B S' B') (hd : uR D' (S.n 72) = false) : StepC C p D' S B S' B' := ⟨h.c, h.r0, hd, h.pl, h.cod, h.st⟩
section
variable {C : Nat -> Bool} {p : Nat} {D : Dv} {I : Int -> In}
theorem iE (hp : p <= 64) : ∀ (l : List Hint) {s : Sr} {B : Nat -> Int} {k : Sr -> (Nat -> Int) -> Prop}, (∀ t : Nat, s.t <= t -> t < s.t + l.length -> uR D t = false) -> s.n.length <= 73 -> Prog C p I B -> s.t + l.length < 1000000 -> zSo C p I l s B k ->
  ∃ s' B', Path C p D l.length (uW s) B (uW s') B' /\ Cod C B B' /\ s'.n.length <= 73 /\ s'.t = s.t + l.length /\ k s' B'
 | [], s, B, k, hD, hl, hP, ht, hh => ⟨s, B, .nil _ _, fun _ _ => rfl, hl, rfl, hh⟩
 | h :: l, s, B, k, hD, hl, hP, ht, hh => by
  rw [List.length_cons] at ht hD
  obtain ⟨s1, B1, st, c1, l1, t1, h1⟩ := yNj (D := { D with ev := [] }) hp rfl hl hP (by omega) hh
  obtain ⟨s2, B2, pa, c2, l2, t2, h2⟩ := iE hp l (fun t h0 h1 => hD t (by omega) (by omega)) (Nat.le_of_eq l1) (hP.cod c1) (by omega) h1
  refine ⟨s2, B2, .cons (st.dv ?_) pa, fun j hj => (c2 j hj).trans (c1 j hj), l2, by rw [List.length_cons]; omega, h2⟩
  have : (uW s).n 72 = (s.t : Int) := rfl
  rw [this]
  exact hD s.t (by omega) (by omega)
end
def AtH (m0 : Mem) (e : Nat) (q : BB) (c p : Nat) (n : Int) (X : Mst) (m : Mem) : Prop := ∃ cap, AtG m0 e q c p n cap X m
section
variable {m0 m : Mem} {e : Nat} {q : BB} {c : Nat} {p : Nat} {n : Int}
theorem AtF.h {C : Nat -> Bool} {D : Dv} {S : St} {B : Nat -> Int} (h : AtF m0 C e q c p D n S B m) : AtH m0 e q c p n ⟨C, D, S, B⟩ m := by
 obtain ⟨cap, l, Sc, made, used, A⟩ := h
 exact ⟨cap, _, l, Sc, made, used, A⟩
theorem AtH.go (hp : p <= 64) {N : Nat} (hN : N <= 1000000) {a b : Mst} (t : PathG p N a b) (h : AtH m0 e q c p n a m) {k : Int -> Int -> Mem -> Prop} (hk : ∀ m', AtH m0 e q c p n b m' -> k 1 N m') : F25 e 0 N m k := by
 obtain ⟨X, x0, xk, hs⟩ := t.chain
 obtain ⟨cap, h⟩ := h
 subst x0 xk
 exact yYf hp hN hs h fun m' h' => hk m' ⟨cap, h'⟩
theorem AtH.state {X : Mst} (h : AtH m0 e q c p n X m) {k : (Nat -> AV) -> Mem -> Prop} (hk : ∀ cc, (∀ i, i < 73 -> cc i = stc X.S i) -> k cc m) : F26 e 0 m k := by
 obtain ⟨cap, wv, l, Sc, made, used, S1, M, u, hn, hp, E⟩ := h
 refine zA8 E.h.mac.s fun cc hcc => hk cc fun i hi => ?_
 rw [hcc i hi]
 unfold stc
 rw [hn, hp]
theorem AtH.stateb {X : Mst} (h : AtH m0 e q c p n X m) {z : Nat -> AV} {t : TypeId} {k : Nat -> Mem -> Prop} (hk : ∀ b m', zA m m' -> m.obj b = none -> yQ m' b X.S.bare -> k b m') : F26 e 0 m fun cc m2 => zQ m2 ⟨73, z, t, false⟩ fun b m3 => vA 73 m3 b 0 cc fun m4 => k b m4 :=
 h.state fun cc hcc => xAr (S := X.S.bare) hcc fun b m' hb K O h' => hk b m' K hb h'
end
def yAo (C : Nat -> Bool) (p : Nat) (I : Int -> In) (r : Int) (s : Sr) (k : Sr -> Int -> Prop) : Prop :=
 let S := uW s
 match dC S && mD C p S && !S.p 36 && !xD S with
 | false => False
 | true =>
  let L := zJ S (S.n 34) 4 false
  match L.2.1 == -1 && decide (L.1 < p * 1024) with
  | false => False
  | true =>
   let x := I L.1
   (fxP x && zT x.k == 5 && zU x.k == 4 && x.k != 75 && zCj S x == -1 && !zCl S (520094016 + r) 4) = true /\ zJ S (uV S x) 4 true = (520094016 + r, -1, false) /\ k (nf (nG S x 0 0) (s.t + 1)) (S.n x.t.toNat)
section
variable {C C' : Nat -> Bool} {p : Nat} {I : Int -> In} {D : Dv} {s : Sr} {B : Nat -> Int}
theorem yC7 {S : St} (h : dC S = true) : Calm S /\ S.n 0 = 0 := by
 unfold dC at h
 simp only [Bool.and_eq_true, Bool.not_eq_true', beq_iff_eq] at h
 exact ⟨⟨h.1.1, h.1.2⟩, h.2⟩
theorem yEy {S : St} (hP : Prog C p I B) (h : mD C p S = true) (hc : ((zJ S (S.n 34) 4 false).2.1 == -1 && decide ((zJ S (S.n 34) 4 false).1 < p * 1024)) = true) :
  Place C p B S /\ (∃ a r, zJ S (S.n 34) 4 false = (a, -1, r) /\ a < p * 1024) /\ xQ B S = I (zJ S (S.n 34) 4 false).1 /\ InR (I (zJ S (S.n 34) 4 false).1) /\ xO p (zJ S (S.n 34) 4 false).1 4 /\ (zJ S (S.n 34) 4 false).1 < 520093696 := by
 unfold mD at h
 simp only [Bool.and_eq_true, Bool.or_eq_true, decide_eq_true_eq, bne_iff_ne, beq_iff_eq] at h hc
 obtain ⟨hdev, hp⟩ := h
 obtain ⟨c1, c2⟩ := hc
 have hp : C ((zJ S (S.n 34) 4 false).1 / 1024).toNat = true /\ 0 <= (zJ S (S.n 34) 4 false).1 /\ (zJ S (S.n 34) 4 false).1 % 4 = 0 := by
  rcases hp with (h | h) | h
  .exact absurd c1 h
  .omega
  .exact h
 obtain ⟨hi, hr⟩ := hP.i _ hp.2.1 c2 hp.2.2 hp.1
 refine ⟨⟨fun a r e hlt => ?_⟩, ⟨_, (zJ S (S.n 34) 4 false).2.2, Prod.ext rfl (Prod.ext c1 rfl), c2⟩, hi, hr, ⟨by simp, hp.2.2, by unfold cE; omega⟩, hdev⟩
 rw [e] at hp
 exact ⟨hp.1, hP.page hp.2.1 hlt hp.2.2 hp.1⟩
theorem zU8 {r : Int} {k : Sr -> Int -> Prop} (hl : s.n.length <= 73) (hP : Prog C p I B) (ht : s.t < 1000000) (hr : r = 0 \/ r = 4 \/ r = 8) (hc : r = 8 -> D.ev = [] /\ D.kt = 0) (hd : uR D s.t = false) (hh : yAo C p I r s k) :
  ∃ s' v, DevC C p D (uW s) B (uW s') (cG D r v s.t) /\ s'.n.length = 73 /\ s'.t = s.t + 1 /\ k s' v := by
 have hw := Wl.of s hl
 unfold yAo at hh
 dsimp only at hh
 have e72 : (uW s).n 72 = (s.t : Int) := rfl
 generalize hS : uW s = S at hh hw e72 ⊢
 cases c1 : dC S && mD C p S && !S.p 36 && !xD S with
 | false => rw [c1] at hh; exact hh.elim
 | true =>
  rw [c1] at hh
  dsimp only at hh
  simp only [Bool.and_eq_true, Bool.not_eq_true'] at c1
  obtain ⟨⟨⟨cc, cp⟩, cs⟩, ct⟩ := c1
  cases c2 : (zJ S (S.n 34) 4 false).2.1 == -1 && decide ((zJ S (S.n 34) 4 false).1 < p * 1024) with
  | false => rw [c2] at hh; exact hh.elim
  | true =>
   rw [c2] at hh
   dsimp only at hh
   obtain ⟨pl, here, eI, hR, hev, _⟩ := yEy hP cp c2
   generalize hx : I (zJ S (S.n 34) 4 false).1 = x at hh eI hR
   obtain ⟨h1, h2, h3⟩ := hh
   simp only [Bool.and_eq_true, Bool.not_eq_true', beq_iff_eq, bne_iff_ne] at h1
   obtain ⟨⟨⟨⟨⟨f1, f2⟩, f3⟩, f4⟩, f5⟩, f6⟩ := h1
   have fx := yPa f1 hR
   have nk : x.k ≠ 7 /\ x.k ≠ 8 /\ x.k ≠ 42 /\ x.k ≠ 43 := by
    refine ⟨?_, ?_, ?_, ?_⟩ <;> (intro t; rw [t] at f2; revert f2; decide)
   have okd : DsOk S x D r := ⟨by rw [yLq hR.r]; exact f5, f2, f3, f4, ⟨false, h2⟩, ⟨hr, hc, by rw [e72]; omega, by rw [e72]; omega⟩, f6⟩
   refine ⟨_, _, ⟨(yC7 cc).1, by rw [e72]; exact hd, ct, cs, pl, here, by rw [eI]; exact fx, ?_, ⟨r, by rw [eI]; exact okd, ?_⟩, ?_⟩, rfl, rfl, h3⟩
   .rw [eI]; unfold yX; rw [f2]; simp
   .rw [eI]; unfold dsD; rw [e72]
   .rw [eI, dY hw ht fx.d1, zE5 (a := S.n x.s.toNat) (b := S.n x.t.toNat) (c := 0) (d := 0) nk]
    exact sL (hw.goon fx.d1 0 0)
def yN5 (C : Nat -> Bool) (p : Nat) (I : Int -> In) (s : Sr) (k : Sr -> Prop) : Prop :=
 let S := uW s
 match dC S && mD C p S && !xD S with
 | false => False
 | true =>
  let L := zJ S (S.n 34) 4 false
  match L.2.1 == -1 && decide (L.1 < p * 1024) with
  | false => False
  | true =>
   let x := I L.1
   (fxP x && zT x.k == 1 && (x.k != 1 || x.d == 0)) = true /\ k (nf (liftP S x) (s.t + 1))
theorem yR0 {sec : Nat} {k : Sr -> Prop} (hl : s.n.length <= 73) (hP : Prog C p I (wD D B)) (ht : s.t < 1000000) (ok : DueOk p D sec s.t) (pg : ∀ j : Nat, D.ka / 1024 <= j -> (j : Int) <= (D.ka + 64 - 1) / 1024 -> C j = false) (sub : ∀ j, C j = true -> C' j = true) (hh : yN5 C p I s k) :
  ∃ s', FireC C C' p D (uW s) B (uW s') (wD D B) /\ s'.n.length = 73 /\ s'.t = s.t + 1 /\ k s' := by
 have hw := Wl.of s hl
 unfold yN5 at hh
 dsimp only at hh
 have e72 : (uW s).n 72 = (s.t : Int) := rfl
 generalize hS : uW s = S at hh hw e72 ⊢
 cases c1 : dC S && mD C p S && !xD S with
 | false => rw [c1] at hh; exact hh.elim
 | true =>
  rw [c1] at hh
  dsimp only at hh
  simp only [Bool.and_eq_true, Bool.not_eq_true'] at c1
  obtain ⟨⟨cc, cp⟩, ct⟩ := c1
  cases c2 : (zJ S (S.n 34) 4 false).2.1 == -1 && decide ((zJ S (S.n 34) 4 false).1 < p * 1024) with
  | false => rw [c2] at hh; exact hh.elim
  | true =>
   rw [c2] at hh
   dsimp only at hh
   obtain ⟨pl, ⟨a, rr, hL, ha⟩, eI, hR, hev, hdv⟩ := yEy hP cp c2
   have eL1 : (zJ S (S.n 34) 4 false).1 = a := by rw [hL]
   generalize hx : I (zJ S (S.n 34) 4 false).1 = x at hh eI hR
   obtain ⟨h1, h3⟩ := hh
   simp only [Bool.and_eq_true, Bool.or_eq_true, beq_iff_eq, bne_iff_ne] at h1
   obtain ⟨⟨f1, f2⟩, f3⟩ := h1
   have fx := yPa f1 hR
   have hz : x.k = 1 -> x.d = 0 := fun t => f3.resolve_left fun g => g t
   have hpl : yX x = true := by unfold yX; rw [hR.r, f2]; rfl
   have calm := yC7 cc
   have es : S.ok -> xN p (wD D B) S = (vM S x, wD D B, -1) := fun hok => by
    have e1 := bD (p := p) (B := wD D B) ct hL (by rw [<- eL1]; exact hev)
    have e2 : ofS (mZ (wD D B) a 4) = x := by
     rw [<- eI]; unfold xQ; rw [eL1]
    rw [e2, zHu fx hpl calm.2 hok hz] at e1
    exact e1
   have n5 : zT x.k ≠ 5 := by rw [f2]; decide
   have n4 : zT x.k ≠ 4 := by rw [f2]; decide
   refine ⟨_, ⟨calm.1, ⟨sec, by rw [e72]; exact ok⟩, ⟨calm.1, calm.2, .inr (.inl hdv), fun _ _ _ => ?_⟩, fun hok => ?_, fun hok => by rw [es hok], fun w => ?_, pg, fun j hj => ?_, sub⟩, rfl, rfl, h3⟩
   .rw [eI]
    refine ⟨fx, fun t => absurd t n4, fun t => absurd t n5, hz, fun _ => ?_⟩
    refine ⟨?_, ?_⟩ <;> (intro t; rw [t] at f2; revert f2; decide)
   .rw [es hok]
    exact (zW9 hw ht hpl).trans (sL (hw.liftP _)).symm
   .have := w.2.2.2.2.1
    rw [eI] at this
    exact n5 this
   .unfold wD lW
    rw [if_neg]
    rintro ⟨g1, g2⟩
    have := pg (j / 1024) (by omega) (by omega)
    rw [hj] at this; cases this
end
def zE8 (r v : Int) : List In := liS 8 (3204448576 + r) ++ (liS 9 v ++ [rX 73 9 8 0])
def zAn (k : Int) : List In := zE8 0 k ++ (zE8 4 2560 ++ (zE8 8 1 ++ (liS 1 2147486208 ++ (liS 2 40 ++ ([rX 47 2 2 65535] ++ (oD 43 2 0 1 ++ [⟨7, 1, 0, 0, 0, 0⟩, oW]))))))
def zKy (v : Int) : List In := liS 5 v ++ (oD 42 0 0 0 ++ List.replicate 12 oW)
abbrev no (n : Nat) : List Hint := List.replicate n .no
abbrev fN (k : Int) : Int -> In := yO5 (zAn k) []
abbrev dT : Prop := true = true
abbrev dL (a : Int) : Prop := ((a, -1, false) : Int × Int × Bool) = (a, -1, false)
abbrev ySq (k : Int) (v : Int) (B Bz : Nat -> Int) : Prop :=
 zSo (hZ [1]) 4 (fN k) (no 4) sr0 B fun s1 B1 => B1 = B /\ yAo (hZ [1]) 4 (fN k) 0 s1 fun s2 w => (w == k) = true /\
 zSo (hZ [1]) 4 (fN k) (no 4) s2 B fun s3 B3 => B3 = B /\ yAo (hZ [1]) 4 (fN k) 4 s3 fun s4 w => (w == 2560) = true /\
 zSo (hZ [1]) 4 (fN k) (no 4) s4 B fun s5 B5 => B5 = B /\ yAo (hZ [1]) 4 (fN k) 8 s5 fun s6 w => (w == 1) = true /\
 zSo (hZ [1]) 4 (fN k) (no 31) s6 B fun s7 B7 => B7 = B /\ yN5 (hZ [1]) 4 (fN k) s7 fun s8 =>
 zSo (hZ [1, 2]) 4 (yFw (fN k) 2560 (zKy v)) (no 153) s8 Bz fun s9 _ => lg s9.n 5 = v /\ (decide (2147486216 <= lg s9.n 34) && decide (lg s9.n 34 <= 2147486224)) = true
theorem yKh (v : Int) (B Bz : Nat -> Int) : ∀ k : Nat, k < 4 -> ySq k v B Bz = (B = B /\ dT /\ dL 520094016 /\ dT /\ (B = B /\ dT /\ dL 520094020 /\ dT /\ (B = B /\ dT /\ dL 520094024 /\ dT /\ (B = B /\ dT /\ (bits .or .u32 (IntKind.wrap .u32 (v / 65536 * 65536)) (v % 65536) = v /\ dT))))) := by
 intro k hk
 iterate 4
  rcases k with _ | k
  .kernel_rfl
 omega
theorem yU7 {v : Int} (hv : wC v) (B Bz : Nat -> Int) {k : Nat} (hk : k < 4) : ySq k v B Bz := by
 rw [yKh v B Bz k hk]
 exact ⟨rfl, rfl, rfl, rfl, rfl, rfl, rfl, rfl, rfl, rfl, rfl, rfl, rfl, rfl, yXl hv, rfl⟩
def gF (D : Dv) (k : Int) : Dv := { D with ks := k, ka := 2560, kc := 1, kt := 1, ev := [⟨46, 5, D.sq⟩], sq := IntKind.wrap .i64 (D.sq + 1) }
theorem yF0 {v : Int} (hv : wC v) {k : Nat} (hk : k < 4) {D : Dv} (he : D.ev = []) (ht : D.kt = 0) (hn : D.nd = 256) {B : Nat -> Int} (hP : Prog (hZ [1]) 4 (fN k) B) (hP2 : Prog (hZ [1, 2]) 4 (yFw (fN k) 2560 (zKy v)) (wD (gF D k) B)) :
  ∃ s' D' B', PathG 4 200 ⟨hZ [1], D, uW sr0, B⟩ ⟨hZ [1, 2], D', uW s', B'⟩ /\ lg s'.n 5 = v /\ 2147486216 <= lg s'.n 34 /\ lg s'.n 34 <= 2147486224 := by
 have h := yU7 hv B (wD (gF D k) B) hk
 have due0 : ∀ {D : Dv} {t : Int}, D.ev = [] -> uR D t = false := fun h => by unfold uR rW; rw [h]; rfl
 obtain ⟨s1, B1, p1, _, l1, t1, e1, h⟩ := iE (D := D) (by decide) (no 4) (fun _ _ _ => due0 he) (by decide) hP (by decide) h
 subst e1
 have t1 : s1.t = 4 := t1
 obtain ⟨s2, w, d2, l2, t2, ew, h⟩ := zU8 (D := D) (Nat.le_of_lt_succ (by omega)) hP (by omega) (.inl rfl) (fun t => absurd t (by decide)) (due0 he) h
 have ew : w = k := by simpa using ew
 subst ew
 obtain ⟨s3, B3, p3, _, l3, t3, e3, h⟩ := iE (D := cG D 0 k s1.t) (by decide) (no 4) (fun _ _ _ => due0 he) (by omega) hP (by rw [t2, t1]; decide) h
 subst e3
 have t3 : s3.t = 9 := by rw [t3, t2, t1]; rfl
 obtain ⟨s4, w, d4, l4, t4, ew, h⟩ := zU8 (D := cG D 0 k s1.t) (by omega) hP (by omega) (.inr (.inl rfl)) (fun t => absurd t (by decide)) (due0 he) h
 have ew : w = 2560 := by simpa using ew
 subst ew
 obtain ⟨s5, B5, p5, _, l5, t5, e5, h⟩ := iE (D := cG (cG D 0 k s1.t) 4 2560 s3.t) (by decide) (no 4) (fun _ _ _ => due0 he) (by omega) hP (by rw [t4, t3]; decide) h
 subst e5
 have t5 : s5.t = 14 := by rw [t5, t4, t3]; rfl
 obtain ⟨s6, w, d6, l6, t6, ew, h⟩ := zU8 (D := cG (cG D 0 k s1.t) 4 2560 s3.t) (by omega) hP (by omega) (.inr (.inr rfl)) (fun _ => ⟨he, ht⟩) (due0 he) h
 have ew : w = 1 := by simpa using ew
 subst ew
 have eD : cG (cG (cG D 0 k s1.t) 4 2560 s3.t) 8 1 s5.t = gF D k := by rw [t5]; rfl
 rw [eD] at d6
 have dueE : ∀ t : Nat, s6.t <= t -> t < s6.t + (no 31).length -> uR (gF D k) t = false := fun t h0 h1 => by
  have h1 : t < s6.t + 31 := h1
  unfold uR rW gF
  dsimp only
  rw [Bool.true_and]
  exact decide_eq_false (by omega)
 obtain ⟨s7, B7, p7, _, l7, t7, e7, h⟩ := iE (D := gF D k) (by decide) (no 31) dueE (by omega) hP (by rw [t6, t5]; decide) h
 subst e7
 have t7 : s7.t = 46 := by rw [t7, t6, t5]; rfl
 have pg1 : ∀ j : Nat, (2560 : Int) / 1024 <= j -> (j : Int) <= (2560 + 64 - 1) / 1024 -> hZ [1] j = false := fun j h0 h1 => by
  have : j = 2 := by omega
  subst this; rfl
 have sub1 : ∀ j, hZ [1] j = true -> hZ [1, 2] j = true := fun j h => by
  unfold hZ at h ⊢
  simp only [List.any_cons, List.any_nil, Bool.or_false, Bool.or_eq_true] at h ⊢
  exact .inl h
 have hPf : Prog (hZ [1]) 4 (fN k) (wD (gF D k) B7) := hP.cod fun j hj => by
  unfold wD lW
  rw [if_neg]
  rintro ⟨g1, g2⟩
  have g1 : (2560 : Int) <= j := g1
  have g2 : (j : Int) < 2560 + (64 : Nat) := g2
  have := pg1 (j / 1024) (by omega) (by omega)
  rw [hj] at this; cases this
 obtain ⟨s8, f8, l8, t8, h⟩ := yR0 (C' := hZ [1, 2]) (sec := k) (D := gF D k) (by omega) hPf (by omega) ⟨⟨46, D.sq, rfl, by rw [t7]; decide⟩, rfl, by show (k + 1) * 64 <= D.nd; omega, by show D.nd <= 4096; omega, rfl, rfl, ⟨by show (0 : Int) <= 2560; decide, by show (2560 : Int) < 4294967296; decide⟩, by show (0 : Int) <= 64 /\ (2560 : Int) + 64 <= ((4 : Nat) : Int) * 1024; decide⟩ pg1 sub1 h
 obtain ⟨s9, B9, p9, _, l9, t9, r5, pc⟩ := iE (D := dF (gF D k)) (by decide) (no 153) (fun _ _ _ => due0 rfl) (by omega) hP2 (by rw [t8, t7]; decide) h
 have pc : 2147486216 <= lg s9.n 34 /\ lg s9.n 34 <= 2147486224 := by simpa using pc
 refine ⟨s9, dF (gF D k), B9, ?_, r5, pc⟩
 have g2 := PathG.one (p := 4) (a := ⟨hZ [1], D, uW s1, B7⟩) (b := ⟨hZ [1], cG D 0 k s1.t, uW s2, B7⟩) (.dev d2 rfl rfl)
 have g4 := PathG.one (p := 4) (a := ⟨hZ [1], cG D 0 k s1.t, uW s3, B7⟩) (b := ⟨hZ [1], cG (cG D 0 k s1.t) 4 2560 s3.t, uW s4, B7⟩) (.dev d4 rfl rfl)
 have g6 := PathG.one (p := 4) (a := ⟨hZ [1], cG (cG D 0 k s1.t) 4 2560 s3.t, uW s5, B7⟩) (b := ⟨hZ [1], gF D k, uW s6, B7⟩) (.dev d6 rfl rfl)
 have g8 := PathG.one (p := 4) (a := ⟨hZ [1], gF D k, uW s7, B7⟩) (b := ⟨hZ [1, 2], dF (gF D k), uW s8, wD (gF D k) B7⟩) (.fire f8 rfl)
 exact (((((((p1.g.trans g2).trans p3.g).trans g4).trans p5.g).trans g6).trans p7.g).trans g8).trans p9.g
end Go.Proofs.YtkiggdgphbkneaaGreat.Am
