/- A bus: memory and devices; what making one asks. Conditions: the image and the disk's bytes can be read. -/
import Derived.Test.YtobdghdcmkdcaaaE1a
namespace Go.Proofs.Ytobdghdcmkdcaaa.Am
set_option linter.unusedVariables false
set_option linter.unusedSimpArgs false
set_option maxRecDepth 100000

abbrev vi (n : Int) : AV := .flat (.int .i64 n)
abbrev vu (n : Int) : AV := .flat (.int .u32 n)
abbrev vb (b : Bool) : AV := .flat (.bool b)
structure Ev where
  at_ : Int
  dev : Int
  seq : Int
deriving DecidableEq
def EvC (c : Nat → AV) (e : Ev) : Prop := c 0 = vi e.at_ ∧ c 1 = vi e.dev ∧ c 2 = vi e.seq
def IsEv (m : Mem) (v : AV) (es : List Ev) : Prop := ∃ c, IsL m 3 v es.length c ∧ ∀ i, (h : i < es.length) → EvC (fun j => c (i * 3 + j)) es[i]
/-- the blocks of a bus: itself, wheel, lines, timers, line, mover, disk, the disk's bytes, memory -/
structure BB where
  b : Nat
  w : Nat
  ln : Nat
  t1 : Nat
  t2 : Nat
  u : Nat
  d : Nat
  k : Nat
  kb : Nat
  r : RB
def BB.all (q : BB) : List Nat := [q.b, q.w, q.ln, q.t1, q.t2, q.u, q.d, q.k, q.kb, q.r.b, q.r.b1, q.r.b2, q.r.b3]
/-- what devices have -/
structure Dv where
  ev : List Ev := []
  sq : Int := 0
  up : Int := 0
  en : Int := 0
  c1 : Int := 0
  p1 : Int := 0
  s1 : Int := 0
  c2 : Int := 0
  p2 : Int := 0
  s2 : Int := 0
  lost : Bool := false
  uc : Int := 0
  uo : AV := .flat (.slice none 0 0)
  df : Int := 0
  dt : Int := 0
  dn : Int := 0
  ds : Int := 0
  ks : Int := 0
  ka : Int := 0
  kc : Int := 0
  kt : Int := 0
  nd : Nat := 0
  dk : Nat → Int := fun _ => 0
structure IsBus (m : Mem) (q : BB) (p : Nat) (B : Nat → Int) (M W : Nat → Bool) (D : Dv) (wv : AV) : Prop where
  b : IsCl m q.b [.ptr q.r.b 0, .ptr q.w 0, .ptr q.ln 0, .ptr q.t1 0, .ptr q.t2 0, .ptr q.u 0, .ptr q.d 0, .ptr q.k 0]
  r : IsRam m q.r p B M W
  w : IsCl m q.w [wv, vi D.sq]
  wl : IsEv m wv D.ev
  ln : IsCl m q.ln [vu D.up, vu D.en]
  t1 : IsCl m q.t1 [vi 1, .ptr q.w 0, vu D.c1, vu D.p1, vu D.s1]
  t2 : IsCl m q.t2 [vi 2, .ptr q.w 0, vu D.c2, vu D.p2, vu D.s2]
  u : IsCl m q.u [vi 3, .ptr q.w 0, .ch, .ch, vb D.lost, vu D.uc, D.uo]
  d : IsCl m q.d [vi 4, .ptr q.w 0, .ptr q.r.b 0, vu D.df, vu D.dt, vu D.dn, vu D.ds]
  k : IsCl m q.k [vi 5, .ptr q.w 0, .ptr q.r.b 0, .sl q.kb 0 D.nd (.ex D.nd), vu D.ks, vu D.ka, vu D.kc, vu D.kt]
  kb : IsL m 1 (.sl q.kb 0 D.nd (.ex D.nd)) D.nd (cB D.dk)
  dkr : ∀ i, 0 ≤ D.dk i ∧ D.dk i < 256
  nd : q.all.Nodup
  nw : ∀ x, own wv x → x ∉ q.all

def imgB (n : Nat) (f : Nat → Int) : Nat → Int := fun j => if j < n then f j else 0
theorem imgB_rng {n : Nat} {f : Nat → Int} (hf : ∀ i, i < n → 0 ≤ f i ∧ f i < 256) (i : Nat) : 0 ≤ imgB n f i ∧ imgB n f i < 256 := by
  unfold imgB; split
  · rename_i h; exact hf i h
  · omega
section
variable {m : Mem}
theorem IsEv.fr {m' : Mem} {S : Nat → Prop} {v : AV} {es : List Ev} (h : IsEv m v es) (F : Fr S m m') (hs : ∀ b, own v b → ¬ S b) : IsEv m' v es := by
  obtain ⟨c, h1, h2⟩ := h; exact ⟨c, h1.fr F hs, h2⟩
theorem IsEv.live {v : AV} {es : List Ev} (h : IsEv m v es) {b : Nat} (hb : own v b) : m.obj b ≠ none := by
  obtain ⟨c, h1, _⟩ := h; exact h1.live hb
theorem disk_n {n : Nat} (h : n ≤ 4096) : (IntKind.wrap .i64 ((if 64 < (IntKind.wrap .i64 ((IntKind.wrap .i64 ((IntKind.wrap .i64 ((n : Int) + 64)) - 1)).tdiv 64)) then 64 else (IntKind.wrap .i64 ((IntKind.wrap .i64 ((IntKind.wrap .i64 ((n : Int) + 64)) - 1)).tdiv 64))) * 64)) = (((n + 63) / 64 * 64 : Nat) : Int) := by
  rw [wrap64 (n := (n : Int) + 64) (by omega) (by omega), wrap64 (n := (n : Int) + 64 - 1) (by omega) (by omega), Int.tdiv_eq_ediv_of_nonneg (by omega), wrap64 (n := ((n : Int) + 64 - 1) / 64) (by omega) (by omega)]
  rw [if_neg (by omega), wrap64 (by omega) (by omega)]
  omega
theorem newdisk_spec {w r : Nat} {v : AV} {n : Nat} {f : Nat → Int} (hv : IsR m 1 v n (cB f)) (hn : n ≤ 4096) {k : AV → Mem → Prop}
    (hk : ∀ b kb m', m.obj b = none → m.obj kb = none → b ≠ kb → Keeps m m' → IsCl m' b [vi 5, .ptr w 0, .ptr r 0, .sl kb 0 ((n + 63) / 64 * 64) (.ex ((n + 63) / 64 * 64)), vu 0, vu 0, vu 0, vu 0] → IsL m' 1 (.sl kb 0 ((n + 63) / 64 * 64) (.ex ((n + 63) / 64 * 64))) ((n + 63) / 64 * 64) (cB (imgB n f)) → k (.ptr b 0) m') :
    F37 5 w 0 r 0 v m k := by
  unfold F37
  rw [klen_r hv]
  simp only [disk_n hn, Int.toNat_natCast]
  generalize hq : (n + 63) / 64 * 64 = q at hk
  refine mkS_i (by omega) (by omega) (by omega) fun b2 m3 hb2 K3 e3 O3 => ?_
  simp only [Int.toNat_natCast, List.length_singleton, Nat.mul_one] at e3
  have hL : IsL m3 1 (.sl b2 0 q (.ex q)) q (fun _ => .flat (.int .u8 0)) := (IsL.row (esz := 1) e3 (by simp) rfl).congr fun i hi => reprow1 _ i
  refine copL hL (hv.keep K3) fun m5 u h5 F5 _ => ?_
  have K5 : Keeps m m5 := Fr.keeps K3 F5 fun x e => by cases e; exact hb2
  refine IsCl.new [vi 5, .ptr w 0, .ptr r 0, .sl b2 0 q (.ex q), vu 0, vu 0, vu 0, vu 0] rfl (fun i hi => ?_) fun b m6 hb K6 h6 => ?_
  · have : i = 0 ∨ i = 1 ∨ i = 2 ∨ i = 3 ∨ i = 4 ∨ i = 5 ∨ i = 6 ∨ i = 7 := by simp at hi; omega
    rcases this with rfl | rfl | rfl | rfl | rfl | rfl | rfl | rfl <;> rfl
  · refine hk b b2 m6 (newK_none K5 hb) hb2 (fun e => ?_) (K5.trans K6) h6 ((h5.keep K6).congr fun i hi => ?_)
    · subst e; exact h5.live rfl hb
    · simp only [cB, imgB, Nat.mul_one]
      by_cases c : i < n
      · rw [if_pos (by omega), if_pos c]
      · rw [if_neg (by omega), if_neg c]
theorem slS_all {v : AV} {n : Nat} {c : Nat → AV} {x : Int} (h : IsS m 1 v n c) (hx : x = n) {k : AV → Prop} (hk : ∀ v', IsS m 1 v' n c → k v') : slS 1 v none (some x) k := by
  refine slS_s h (l := 0) (u := n) rfl (by simpa [optI] using hx) (by omega) (Nat.le_refl _) fun v' hv _ => hk v' ?_
  rw [Nat.sub_zero] at hv
  exact hv.congr fun i _ => by simp
theorem newbus_spec {x : Int} {v1 v2 : AV} {n nd : Nat} {f fd : Nat → Int} (hx : 1 ≤ x ∧ x ≤ 64) (h1 : IsS m 1 v1 n (cB f)) (hf : ∀ i, i < n → 0 ≤ f i ∧ f i < 256) (hn : (n : Int) ≤ x * 1024) (h2 : IsR m 1 v2 nd (cB fd)) (hfd : ∀ i, i < nd → 0 ≤ fd i ∧ fd i < 256) (hnd : nd ≤ 4096) {k : AV → Mem → Prop}
    (hk : ∀ q m', IsBus m' q x.toNat (imgB n f) (fun _ => false) (fun _ => false) { nd := (nd + 63) / 64 * 64, dk := imgB nd fd } (.flat (.slice none 0 0)) → Keeps m m' → (∀ b ∈ q.all, m.obj b = none) → k (.ptr q.b 0) m') : F25 x v1 v2 m k := by
  unfold F25
  refine new_spec fun r m2 hr K2 f2 => ?_
  have hp : clampP x = x.toNat := by unfold clampP; omega
  rw [hp] at hr
  have L2 : LiveL m2 [r.b, r.b1, r.b2, r.b3] := by
    obtain ⟨n1, n2, n3, n4, n5, n6⟩ := hr.ne
    refine ⟨by simp [n1, n2, n3, n4, n5, n6], fun b hb => ?_⟩
    simp at hb
    exact hr.live hb
  unfold F30
  refine IsCl.new [.flat (.slice none 0 0), vi 0] rfl (fun i _ => rfl) fun w m4 hw K4 h4 => ?_
  have L4 := L2.cons K4 hw h4.live
  have n4 : m.obj w = none := newK_none K2 hw
  dsimp only [kptr]
  rw [klen_r h1.r]
  refine size_spec (hr.keep K4) ?_
  have hxp : ((x.toNat * 1024 : Nat) : Int) = x * 1024 := by omega
  rw [hxp, wrap64 (by omega) (by omega), if_neg (by omega)]
  refine slS_all (h1.keep (K2.trans K4)) rfl fun v10 h10 => ?_
  refine put_spec (hr.keep K4) (by unfold isU; omega) h10.r hf (by omega) (fun hno => absurd (show inR x.toNat 0 n from ⟨by omega, by omega⟩) hno) fun _ m14 hr14 F14 => ?_
  have L14 : LiveL m14 [w, r.b, r.b1, r.b2, r.b3] := ⟨L4.1, fun b hb => by
    by_cases c : r.has b
    · exact hr14.live c
    · rw [F14 b (L4.2 b hb) c]; exact L4.2 b hb⟩
  have K14 : Keeps m m14 := fun b hb => by
    have e1 := (K2.trans K4) b hb
    rw [F14 b (by rw [e1]; exact hb) (fun c => hb (f2 b c)), e1]
  have hw14 := h4.fr F14 fun c => by
    have := L4.1
    simp only [List.nodup_cons] at this
    refine this.1 ?_
    rcases c with c | c | c | c <;> simp [c]
  have hB : IsRam m14 r x.toNat (imgB n f) (fun _ => false) (fun _ => false) := hr14.congr (fun i _ => by
    unfold putB imgB
    by_cases c : i < n
    · rw [if_pos (by omega), if_pos c]; simp
    · rw [if_neg (by omega), if_neg c]) (imgB_rng hf) (fun i _ => rfl) (fun i _ => by unfold tW; simp)
  unfold F33
  refine IsCl.new [vu 0, vu 0] rfl (fun i _ => rfl) fun ln m16 hln K16 h16 => ?_
  have L16 := L14.cons K16 hln h16.live
  unfold F34
  refine IsCl.new [vi 1, .ptr w 0, vu 0, vu 0, vu 0] rfl (fun i hi => by
    have : i = 0 ∨ i = 1 ∨ i = 2 ∨ i = 3 ∨ i = 4 := by simp at hi; omega
    rcases this with rfl | rfl | rfl | rfl | rfl <;> rfl) fun t1 m20 ht1 K20 h20 => ?_
  have L20 := L16.cons K20 ht1 h20.live
  refine IsCl.new [vi 2, .ptr w 0, vu 0, vu 0, vu 0] rfl (fun i hi => by
    have : i = 0 ∨ i = 1 ∨ i = 2 ∨ i = 3 ∨ i = 4 := by simp at hi; omega
    rcases this with rfl | rfl | rfl | rfl | rfl <;> rfl) fun t2 m24 ht2 K24 h24 => ?_
  have L24 := L20.cons K24 ht2 h24.live
  unfold F35
  refine IsCl.new [vi 3, .ptr w 0, .ch, .ch, vb false, vu 0, .flat (.slice none 0 0)] rfl (fun i hi => by
    have : i = 0 ∨ i = 1 ∨ i = 2 ∨ i = 3 ∨ i = 4 ∨ i = 5 ∨ i = 6 := by simp at hi; omega
    rcases this with rfl | rfl | rfl | rfl | rfl | rfl | rfl <;> rfl) fun u m28 hu K28 h28 => ?_
  have L28 := L24.cons K28 hu h28.live
  unfold F36
  refine IsCl.new [vi 4, .ptr w 0, .ptr r.b 0, vu 0, vu 0, vu 0, vu 0] rfl (fun i hi => by
    have : i = 0 ∨ i = 1 ∨ i = 2 ∨ i = 3 ∨ i = 4 ∨ i = 5 ∨ i = 6 := by simp at hi; omega
    rcases this with rfl | rfl | rfl | rfl | rfl | rfl | rfl <;> rfl) fun d m34 hd K34 h34 => ?_
  have L34 := L28.cons K34 hd h34.live
  have K14_34 := ((((K16.trans K20).trans K24).trans K28).trans K34)
  have K34' := K14.trans K14_34
  refine newdisk_spec (h2.keep K34') hnd fun kk kb m40 hkk hkb hne K40 h40 hL40 => ?_
  have L40a : LiveL m40 (kb :: [d, u, t2, t1, ln, w, r.b, r.b1, r.b2, r.b3]) := L34.cons K40 hkb (hL40.live rfl)
  have L40 : LiveL m40 (kk :: kb :: [d, u, t2, t1, ln, w, r.b, r.b1, r.b2, r.b3]) := by
    refine ⟨List.nodup_cons.2 ⟨fun hm => ?_, L40a.1⟩, fun b hb => ?_⟩
    · rcases List.mem_cons.1 hm with e | hm
      · exact hne e
      · exact L34.2 _ hm hkk
    · rcases List.mem_cons.1 hb with rfl | hb
      · exact h40.live
      · exact L40a.2 b hb
  refine kif_t rfl (kif_t rfl (kif_t rfl (kif_t rfl (kif_t rfl (kif_t rfl (kif_t rfl (kif_t rfl ?_)))))))
  refine IsCl.new [.ptr r.b 0, .ptr w 0, .ptr ln 0, .ptr t1 0, .ptr t2 0, .ptr u 0, .ptr d 0, .ptr kk 0] rfl (fun i hi => by
    have : i = 0 ∨ i = 1 ∨ i = 2 ∨ i = 3 ∨ i = 4 ∨ i = 5 ∨ i = 6 ∨ i = 7 := by simp at hi; omega
    rcases this with rfl | rfl | rfl | rfl | rfl | rfl | rfl | rfl <;> rfl) fun b m41 hb K41 h41 => ?_
  have L41 := L40.cons K41 hb h41.live
  have Kall := K34'.trans (K40.trans K41)
  have K14' := K14_34.trans (K40.trans K41)
  refine hk ⟨b, w, ln, t1, t2, u, d, kk, kb, r⟩ m41 ⟨h41, hB.keep K14', hw14.keep K14', ⟨fun _ => .junk, .nil none _, fun i h => by simp at h⟩, h16.keep ((((K20.trans K24).trans K28).trans K34).trans (K40.trans K41)), h20.keep (((K24.trans K28).trans K34).trans (K40.trans K41)), h24.keep ((K28.trans K34).trans (K40.trans K41)), h28.keep (K34.trans (K40.trans K41)), h34.keep (K40.trans K41), h40.keep K41, hL40.keep K41, imgB_rng hfd, ?_, fun x h => h.elim⟩ Kall fun x hx => ?_
  · have h := L41.1
    have hp : (BB.all ⟨b, w, ln, t1, t2, u, d, kk, kb, r⟩).Perm (b :: kk :: kb :: [d, u, t2, t1, ln, w, r.b, r.b1, r.b2, r.b3]) := by
      unfold BB.all
      simp only [List.perm_cons]
      have e1 : [w, ln, t1, t2, u, d, kk, kb, r.b, r.b1, r.b2, r.b3] = [w, ln, t1, t2, u, d, kk, kb] ++ [r.b, r.b1, r.b2, r.b3] := rfl
      have e2 : kk :: kb :: [d, u, t2, t1, ln, w, r.b, r.b1, r.b2, r.b3] = [w, ln, t1, t2, u, d, kb, kk].reverse ++ [r.b, r.b1, r.b2, r.b3] := rfl
      rw [e1, e2]
      refine List.Perm.append_right _ (List.Perm.trans ?_ (List.reverse_perm _).symm)
      simp only [List.perm_cons]
      exact List.Perm.swap _ _ _
    exact hp.symm.nodup h
  · have nn : ∀ {mm : Mem} {y : Nat}, Keeps m mm → mm.obj y = none → m.obj y = none := fun K h => newK_none K h
    simp only [BB.all, List.mem_cons, List.not_mem_nil, or_false] at hx
    rcases hx with rfl | rfl | rfl | rfl | rfl | rfl | rfl | rfl | rfl | rfl | rfl | rfl | rfl
    · exact nn (K34'.trans K40) hb
    · exact n4
    · exact nn K14 hln
    · exact nn (K14.trans K16) ht1
    · exact nn (K14.trans (K16.trans K20)) ht2
    · exact nn (K14.trans ((K16.trans K20).trans K24)) hu
    · exact nn (K14.trans (((K16.trans K20).trans K24).trans K28)) hd
    · exact nn K34' hkk
    · exact nn K34' hkb
    · exact f2 _ (.inl rfl)
    · exact f2 _ (.inr (.inl rfl))
    · exact f2 _ (.inr (.inr (.inl rfl)))
    · exact f2 _ (.inr (.inr (.inr rfl)))
end
end Go.Proofs.Ytobdghdcmkdcaaa.Am
