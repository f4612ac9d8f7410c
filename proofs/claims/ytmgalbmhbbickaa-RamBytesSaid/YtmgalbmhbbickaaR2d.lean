/- Calls of the program's memory beside the reference's: what is told is the same. Conditions: both memories hold the same in blocks of their own. -/
import Derived.Test.YtmgalbmhbbickaaR2c
namespace Go.Proofs.Ytmgalbmhbbickaa.Am
set_option linter.unusedVariables false
set_option linter.unusedSimpArgs false
set_option maxRecDepth 100000

structure RD where
  B : Nat → Int
  M : Nat → Bool
  W : Nat → Bool
structure Two (m0 m : Mem) (r s : RB) (p : Nat) (X Y : RD) : Prop where
  hr : IsRam m r p X.B X.M X.W
  hs : IsRam m s p Y.B Y.M Y.W
  dis : ∀ b, r.has b → ¬ s.has b
  fr : ∀ b, r.has b ∨ s.has b → m0.obj b = none
  K : Keeps m0 m
section
variable {m0 m : Mem} {r s : RB} {p : Nat} {X Y X' Y' : RD}
theorem Two.stepR {m' : Mem} (h : Two m0 m r s p X Y) (h1 : IsRam m' r p X'.B X'.M X'.W) (F : Fr r.has m m') : Two m0 m' r s p X' Y :=
  ⟨h1, h.hs.fr F fun b hb hr => h.dis b hr hb, h.dis, h.fr, F.keeps h.K fun b hb => h.fr b (.inl hb)⟩
theorem Two.stepS {m' : Mem} (h : Two m0 m r s p X Y) (h1 : IsRam m' s p Y'.B Y'.M Y'.W) (F : Fr s.has m m') : Two m0 m' r s p X Y' :=
  ⟨h.hr.fr F h.dis, h1, h.dis, h.fr, F.keeps h.K fun b hb => h.fr b (.inr hb)⟩
theorem Two.step {m' : Mem} {S : Nat → Prop} (h : Two m0 m r s p X Y) (F : Fr S m m') (hs : ∀ b, S b → m0.obj b = none) (h1 : ∀ b, r.has b → ¬ S b) (h2 : ∀ b, s.has b → ¬ S b) : Two m0 m' r s p X Y :=
  ⟨h.hr.fr F h1, h.hs.fr F h2, h.dis, h.fr, F.keeps h.K hs⟩
theorem Two.keep {m' : Mem} (h : Two m0 m r s p X Y) (K : Keeps m m') : Two m0 m' r s p X Y := ⟨h.hr.keep K, h.hs.keep K, h.dis, h.fr, h.K.trans K⟩

/-! ### calls -/
structure Asks where
  kd : Int
  n : Int
  pg : Int
  a : Int
  v : Int
  w : AV
  ln : Nat
  f : Nat → Int
def AskC (c : Nat → AV) (q : Asks) : Prop := c 0 = .flat (.int .i64 q.kd) ∧ c 1 = .flat (.int .i64 q.n) ∧ c 2 = .flat (.int .i64 q.pg) ∧ c 3 = .flat (.int .u32 q.a) ∧ c 4 = .flat (.int .u32 q.v) ∧ c 5 = q.w
structure AskT (m : Mem) (q : Asks) : Prop where
  kd : isI q.kd
  n : isI q.n
  pg : isI q.pg
  a : isU q.a
  v : isU q.v
  w : IsR m 1 q.w q.ln (cB q.f)
  f : ∀ i, i < q.ln → 0 ≤ q.f i ∧ q.f i < 256
  ln : (q.ln : Int) < 9223372036854775808
  cap : ∀ b o cap, q.w = .sl b o q.ln cap → q.ln ≤ cap.low ∧ ∀ e z, cap = .ge e z → e = 1
theorem AskT.keep {m' : Mem} {q : Asks} (h : AskT m q) (K : Keeps m m') : AskT m' q := ⟨h.kd, h.n, h.pg, h.a, h.v, h.w.keep K, h.f, h.ln, h.cap⟩
theorem kA_r {v : AV} {n : Nat} {c : Nat → AV} {esz : Nat} (h : IsR m esz v n c) (k : AV → Prop) : kA v k = k v := by
  cases h <;> rfl
def AskB (m : Mem) (b : Nat) (q : Asks) : Prop := ∃ y, m.obj b = some y ∧ y.n = 6 ∧ AskC y.c q
theorem AskB.l0 {b : Nat} {q : Asks} (h : AskB m b q) (k : Int → Prop) : ldI .i64 m b 0 k = k q.kd := by
  obtain ⟨y, e, hn, h0, h1, h2, h3, h4, h5⟩ := h; exact ldI_of e (by omega) h0
theorem AskB.l1 {b : Nat} {q : Asks} (h : AskB m b q) (k : Int → Prop) : ldI .i64 m b 1 k = k q.n := by
  obtain ⟨y, e, hn, h0, h1, h2, h3, h4, h5⟩ := h; exact ldI_of e (by omega) h1
theorem AskB.l2 {b : Nat} {q : Asks} (h : AskB m b q) (k : Int → Prop) : ldI .i64 m b 2 k = k q.pg := by
  obtain ⟨y, e, hn, h0, h1, h2, h3, h4, h5⟩ := h; exact ldI_of e (by omega) h2
theorem AskB.l3 {b : Nat} {q : Asks} (h : AskB m b q) (k : Int → Prop) : ldI .u32 m b 3 k = k q.a := by
  obtain ⟨y, e, hn, h0, h1, h2, h3, h4, h5⟩ := h; exact ldI_of e (by omega) h3
theorem AskB.l4 {b : Nat} {q : Asks} (h : AskB m b q) (k : Int → Prop) : ldI .u32 m b 4 k = k q.v := by
  obtain ⟨y, e, hn, h0, h1, h2, h3, h4, h5⟩ := h; exact ldI_of e (by omega) h4
theorem AskB.l5 {b : Nat} {q : Asks} {n : Nat} {c : Nat → AV} (h : AskB m b q) (hr : IsR m 1 q.w n c) (k : AV → Prop) : ldA m b 5 k = k q.w := by
  obtain ⟨y, e, hn, h0, h1, h2, h3, h4, h5⟩ := h
  unfold ldA kobj
  rw [e]
  simp only [kite_eq]
  rw [if_pos (by omega), h5]
  exact kA_r hr k
theorem AskB.fr {m' : Mem} {S : Nat → Prop} {b : Nat} {q : Asks} (h : AskB m b q) (F : Fr S m m') (hs : ¬ S b) : AskB m' b q := by
  obtain ⟨y, e, hy⟩ := h
  exact ⟨y, by rw [F b (by rw [e]; simp) hs]; exact e, hy⟩
theorem AskB.live {b : Nat} {q : Asks} (h : AskB m b q) : m.obj b ≠ none := by
  obtain ⟨y, e, _⟩ := h; rw [e]; simp

structure DoSt (m0 m : Mem) (r s : RB) (p : Nat) (X Y : RD) (b : Nat) (q : Asks) : Prop where
  t : Two m0 m r s p X Y
  q : AskB m b q
  nr : ¬ r.has b
  ns : ¬ s.has b
variable {b : Nat} {q : Asks}
theorem DoSt.stepR {m' : Mem} (h : DoSt m0 m r s p X Y b q) (h1 : IsRam m' r p X'.B X'.M X'.W) (F : Fr r.has m m') : DoSt m0 m' r s p X' Y b q := ⟨h.t.stepR h1 F, h.q.fr F h.nr, h.nr, h.ns⟩
theorem DoSt.stepS {m' : Mem} (h : DoSt m0 m r s p X Y b q) (h1 : IsRam m' s p Y'.B Y'.M Y'.W) (F : Fr s.has m m') : DoSt m0 m' r s p X Y' b q := ⟨h.t.stepS h1 F, h.q.fr F h.ns, h.nr, h.ns⟩
theorem DoSt.keep {m' : Mem} (h : DoSt m0 m r s p X Y b q) (K : Keeps m m') : DoSt m0 m' r s p X Y b q := ⟨h.t.keep K, h.q.fr (K.fr fun _ => False) id, h.nr, h.ns⟩
theorem keepsIn_of {S : Nat → Prop} {m m' : Mem} {b : Nat} (F : Fr S m m') (h : ¬ S b) : KeepsIn (fun b' => b' = b) m m' := fun b' e hb => by subst e; exact F b' hb h
theorem keepsIn_self {F : Nat → Prop} {m : Mem} : KeepsIn F m m := fun _ _ _ => rfl

theorem do_check (h : DoSt m0 m r s p X X b q) (hq : AskT m0 q) {kr : Bool → Mem → Prop} (hk : kr true m) : P26_26102 r.b 0 s.b 0 b 0 m kr := by
  unfold P26_26102
  simp only [Nat.zero_add, h.q.l1, h.q.l2, h.q.l3]
  refine load_spec h.t.hr hq.a hq.n ?_
  simp only [h.q.l1, h.q.l3]
  refine rload_spec h.t.hs hq.a hq.n ?_
  simp only [h.q.l2]
  have fin : ∀ i, i = decide (onP p q.pg) → P26_29102 r.b 0 s.b 0 b 0 (if evenR p q.a q.n then ldv (fun i => X.B (q.a.toNat + i)) q.n.toNat else 0) (decide (evenR p q.a q.n)) (if evenR p q.a q.n then ldv (fun i => X.B (q.a.toNat + i)) q.n.toNat else 0) (decide (evenR p q.a q.n)) i m kr := by
    intro i hi
    subst hi
    unfold P26_29102
    refine kif_t (by simp) (kif_t (by simp) ?_)
    simp only [Nat.zero_add, h.q.l2]
    refine marked_spec h.t.hr (kif_c _ (fun c => ?_) fun c => ?_)
    · have c : onP p q.pg := by simpa using c
      simp only [h.t.hs.l2, h.q.l2, decide_eq_true c, Bool.true_and]
      exact ldB_r (k := fun _ _ x => kr (X.M q.pg.toNat == x) m) h.t.hs.d2.r c.1 c.2 rfl fun _ _ _ => by simpa using hk
    · have c : ¬ onP p q.pg := by simpa using c
      rw [decide_eq_false c]
      simpa using hk
  refine kif_c _ (fun c => ?_) fun c => ?_
  · simp only [h.t.hs.l2, klen]
    refine fin _ (decide_eq_decide.2 ?_)
    have c : q.pg ≥ 0 := by simpa using c
    unfold onP; omega
  · refine fin _ (decide_eq_false ?_).symm
    have c : ¬ q.pg ≥ 0 := by simpa using c
    unfold onP; omega
theorem do_put {v : AV} {n : Nat} {f : Nat → Int} (h : DoSt m0 m r s p X X b q) (hq : AskT m0 q) (hv : IsR m0 1 v n (cB f)) (hf : ∀ i, i < n → 0 ≤ f i ∧ f i < 256) (hn : (n : Int) < 9223372036854775808) {kr : Bool → Mem → Prop} {kn : Mem → Prop} (hk : ∀ m' X', DoSt m0 m' r s p X' X' b q → kn m') :
    P26_10102 r.b 0 s.b 0 b 0 v m kr kn := by
  unfold P26_10102
  refine ⟨fun b' => b' = b, rfl, ?_⟩
  simp only [Nat.zero_add, h.q.l3, true_and]
  refine put_spec h.t.hr hq.a (hv.keep h.t.K) hf hn (fun c => ⟨keepsIn_self, ?_⟩) fun c m1 g1 g2 => ⟨keepsIn_of g2 h.nr, ?_⟩
  · simp only [h.q.l3]
    exact rput_spec h.t.hs hq.a (hv.keep h.t.K) hf hn (fun _ => ⟨keepsIn_self, kif_f (by simp) (hk m X h)⟩) fun c' => absurd c' c
  · have h1 := h.stepR (X' := ⟨putB X.B q.a n f, X.M, tW X.M X.W q.a n⟩) g1 g2
    simp only [h1.q.l3]
    refine rput_spec h1.t.hs hq.a (hv.keep h1.t.K) hf hn (fun c' => absurd c c') fun _ m2 g3 g4 => ⟨keepsIn_of g4 h.ns, kif_f (by simp) (hk m2 _ (h1.stepS (Y' := ⟨putB X.B q.a n f, X.M, tW X.M X.W q.a n⟩) g3 g4))⟩
theorem do_call (h : DoSt m0 m r s p X X b q) (hq : AskT m0 q) {z : Bool} {kr : Bool → Mem → Prop} {kn : Mem → Prop} (hk : ∀ m' X', DoSt m0 m' r s p X' X' b q → kn m') : P26_4004 r.b 0 s.b 0 b 0 q.kd z m kr kn := by
  unfold P26_4004
  have hw := hq.w.keep h.t.K
  refine kif_c _ (fun _ => ⟨fun b' => b' = b, rfl, ?_⟩) fun _ => kif_c _ (fun _ => ?_) fun _ => kif_c _ (fun _ => ?_) fun _ => kif_c _ (fun _ => ?_) fun _ => kif_c _ (fun _ => ?_) fun _ => kif_c _ (fun _ => ?_) fun _ => hk m X h
  · simp only [Nat.zero_add, h.q.l3, h.q.l1, h.q.l4, true_and]
    refine store_spec h.t.hr hq.a hq.n (fun c => ⟨keepsIn_self, ?_⟩) fun c m1 g1 g2 => ⟨keepsIn_of g2 h.nr, ?_⟩
    · simp only [h.q.l3, h.q.l1, h.q.l4, true_and]
      exact rstore_spec h.t.hs hq.a hq.n (fun _ => ⟨keepsIn_self, kif_f (by simp) (hk m X h)⟩) fun c' => absurd c' c
    · have h1 := h.stepR (X' := ⟨stv X.B q.a q.n q.v, X.M, tW X.M X.W q.a q.n⟩) g1 g2
      simp only [h1.q.l3, h1.q.l1, h1.q.l4, true_and]
      refine rstore_spec h1.t.hs hq.a hq.n (fun c' => absurd c c') fun _ m2 g3 g4 => ⟨keepsIn_of g4 h.ns, kif_f (by simp) (hk m2 _ (h1.stepS (Y' := ⟨stv X.B q.a q.n q.v, X.M, tW X.M X.W q.a q.n⟩) g3 g4))⟩
  · simp only [Nat.zero_add]
    rw [h.q.l5 hw, klen_r hw]
    refine kif_c _ (fun c => ?_) fun c => ?_
    · have c : (q.ln : Int) > 50 := by simpa using c
      refine slS_r hq.w (l := 0) (u := 50) rfl rfl (by omega) (by omega) hq.cap fun v' hv _ => ?_
      exact do_put h hq (hv.congr (d := cB q.f) fun i hi => by simp) (fun i hi => hq.f i (by omega)) (by omega) hk
    · exact do_put h hq hq.w hq.f (by have := hq.ln; omega) hk
  · simp only [Nat.zero_add, h.q.l3, h.q.l1]
    have nil : ∀ (m : Mem) (k : ByteArray → Prop), k .empty → kstr (.flat (.slice none 0 0)) m k := fun m k hk => by unfold kstr; exact kite_t ⟨rfl, rfl⟩ hk
    refine bytes_spec h.t.hr hq.a hq.n (fun c => ?_) fun c v1 m1 g1 g2 g3 => ?_
    · simp only [h.q.l3, h.q.l1]
      exact rbytes_spec h.t.hs hq.a hq.n (fun _ => kif_f (by simp) (nil _ _ (nil _ _ (kif_f (by simp) (hk m X h))))) fun c' => absurd c' c
    · have h1 := h.keep g2
      simp only [h1.q.l3, h1.q.l1]
      refine rbytes_spec h1.t.hs hq.a hq.n (fun c' => absurd c c') fun _ v2 m2 g4 g5 g6 => kif_f (by simp) ?_
      have hb : ∀ i, i < q.n.toNat → cB (fun i => X.B (q.a.toNat + i)) i = .flat (.int .u8 (X.B (q.a.toNat + i))) ∧ 0 ≤ X.B (q.a.toNat + i) ∧ X.B (q.a.toNat + i) < 256 := fun i _ => ⟨rfl, h.t.hr.rng _⟩
      exact kstr_b (g1.keep g5).r _ hb (kstr_b g4.r _ hb (kif_f (by simp) (hk m2 X (h1.keep g5))))
  · simp only [Nat.zero_add, h.q.l2]
    refine mark_spec h.t.hr fun m1 g1 g2 => ?_
    have h1 := h.stepR (X' := ⟨X.B, putM X.M p q.pg true, X.W⟩) g1 g2
    simp only [h1.q.l2]
    exact rmark_spec h1.t.hs fun m2 g3 g4 => hk m2 _ (h1.stepS (Y' := ⟨X.B, putM X.M p q.pg true, X.W⟩) (by simpa using g3) g4)
  · simp only [Nat.zero_add, h.q.l2]
    refine unmark_spec h.t.hr fun m1 g1 g2 => ?_
    have h1 := h.stepR (X' := ⟨X.B, putM X.M p q.pg false, putM X.W p q.pg false⟩) g1 g2
    simp only [h1.q.l2]
    exact rmark_spec h1.t.hs fun m2 g3 g4 => hk m2 _ (h1.stepS (Y' := ⟨X.B, putM X.M p q.pg false, putM X.W p q.pg false⟩) (by simpa using g3) g4)
  · refine written_spec h.t.hr fun v1 m1 g1 g2 g3 g4 => ?_
    have h1 := h.stepR (X' := ⟨X.B, X.M, fun _ => false⟩) g1 g3
    refine rwritten_spec h1.t.hs fun v2 m2 g5 g6 g7 g8 => ?_
    have g9 := g2.fr g7 fun b hb hs => h.t.hs.live hs (g4 b hb)
    refine same_spec g9.r g6.r (by have := wl_len X.W p; have := h.t.hr.p2; omega) (kif_f (by simp) (hk m2 _ (h1.stepS (Y' := ⟨X.B, X.M, fun _ => false⟩) g5 g7)))
theorem do_spec {c : Nat → AV} (h : Two m0 m r s p X X) (hc : AskC c q) (hq : AskT m0 q) {k : Bool → Mem → Prop} (hk : ∀ m' X', Two m0 m' r s p X' X' → k true m') : F26 r.b 0 s.b 0 c m k := by
  unfold F26
  refine newK_i fun b m1 hb K e O => ?_
  have hd : DoSt m0 m1 r s p X X b q := ⟨h.keep K, ⟨_, e, rfl, hc⟩, fun hr => h.hr.live hr hb, fun hs => h.hs.live hs hb⟩
  rw [hd.q.l0]
  exact kif_c _ (fun _ => do_call hd hq fun m' X' h' => do_check h' hq (hk m' X' h'.t)) fun _ => do_call hd hq fun m' X' h' => do_check h' hq (hk m' X' h'.t)

/-! ### any calls -/
theorem within_r {n lo hi : Int} (l0 : -1 ≤ lo) (h0 : lo ≤ hi) (h1 : hi < 4294967296) (hn : isI n) {k : Int → Mem → Prop} (hk : ∀ v, lo ≤ v → v ≤ hi → k v m) : F8 n lo hi m k := by
  obtain ⟨n0, n1⟩ := hn
  unfold F8
  have key : P8_3102 n lo hi m (fun x1 m2 => (Keeps m m2 ∧ k x1 m)) := by
    unfold P8_3102
    rw [wrap64 (n := hi - lo) (by omega) (by omega), wrap64 (n := hi - lo + 1) (by omega) (by omega)]
    have ht : -(hi - lo + 1) < n.tmod (hi - lo + 1) ∧ n.tmod (hi - lo + 1) < hi - lo + 1 := by
      by_cases c : 0 ≤ n
      · rw [tmod_nn c]
        have a := Int.emod_nonneg n (show hi - lo + 1 ≠ 0 by omega)
        have b := Int.emod_lt_of_pos n (show 0 < hi - lo + 1 by omega)
        omega
      · have e : n.tmod (hi - lo + 1) = -((-n).tmod (hi - lo + 1)) := by rw [Int.neg_tmod]; omega
        rw [e, tmod_nn (by omega)]
        have a := Int.emod_nonneg (-n) (show hi - lo + 1 ≠ 0 by omega)
        have b := Int.emod_lt_of_pos (-n) (show 0 < hi - lo + 1 by omega)
        omega
    generalize n.tmod (hi - lo + 1) = r at ht
    refine kif_f (by simp; omega) (kif_c _ (fun c => ?_) fun c => ?_)
    · have c : r < 0 := by simpa using c
      rw [wrap64 (n := r + hi) (by omega) (by omega), wrap64 (n := r + hi - lo) (by omega) (by omega), wrap64 (n := r + hi - lo + 1) (by omega) (by omega), wrap64 (by omega) (by omega)]
      exact ⟨Keeps.self m, hk _ (by omega) (by omega)⟩
    · have c : ¬ r < 0 := by simpa using c
      rw [wrap64 (by omega) (by omega)]
      exact ⟨Keeps.self m, hk _ (by omega) (by omega)⟩
  refine kif_c _ (fun c => kif_c _ (fun c1 => ⟨Keeps.self m, hk _ (by simpa using c) (by simpa using c1)⟩) fun _ => key) fun _ => key

theorem play_one (h : DoSt m0 m r s p X X b q) (hq : AskT m0 q) {l : AV} {near : Bool} {x : Int} {kr : Bool → Mem → Prop} {kn : Mem → Prop} (hk : ∀ m' X', Two m0 m' r s p X' X' → kn m') : P18_12102 l near (.ptr r.b 0) (.ptr s.b 0) x b 0 m kr kn := by
  unfold P18_12102
  obtain ⟨y, e, hn, hc⟩ := h.q
  rw [ldG_of e (by omega)]
  refine do_spec h.t ?_ hq fun m' X' h' => kif_f rfl (hk m' X' h')
  obtain ⟨h0, h1, h2, h3, h4, h5⟩ := hc
  exact ⟨h0, h1, h2, h3, h4, h5⟩
/-- a field is written -/
theorem DoSt.put (h : DoSt m0 m r s p X X b q) (hb : m0.obj b = none) (hro : ∃ y, m.obj b = some y ∧ y.ro = false) {i : Nat} {x : AV} {q' : Asks} (hi : i < 6) (hc : ∀ c, AskC c q → AskC (upd c i x) q') {k : Mem → Prop} (hk : ∀ m', DoSt m0 m' r s p X X b q' → (∃ y, m'.obj b = some y ∧ y.ro = false) → k m') : stC m b i x k := by
  obtain ⟨y, e, hn, hy⟩ := h.q
  obtain ⟨y', e', hr⟩ := hro
  rw [e] at e'
  cases e'
  rw [stC_of e hr (by omega)]
  have F : Fr (fun b' => b' = b) m (m.set b { y with c := upd y.c i x }) := Fr.set (S := fun b' => b' = b) rfl _
  exact hk _ ⟨h.t.step F (fun b' e => by subst e; exact hb) (fun b' hr e => by subst e; exact h.nr hr) (fun b' hr e => by subst e; exact h.ns hr), ⟨_, set_same _ _ _, hn, hc _ hy⟩, h.nr, h.ns⟩ ⟨_, set_same _ _ _, hr⟩
def AsksOk (m : Mem) (v : AV) (n : Nat) : Prop := ∃ c : Nat → AV, IsR m 6 v n c ∧ ∀ i, i < n → ∃ q, AskC (fun j => c (i * 6 + j)) q ∧ AskT m q
theorem play_loop {l : AV} {n : Nat} (hl : AsksOk m0 l n) {near : Bool} {k0 : Mem → Prop} {kr : Bool → Mem → Prop} (hk : ∀ m' X', Two m0 m' r s p X' X' → k0 m') : ∀ (j i : Nat) (m : Mem) (X : RD), i + j = min n 80 → Two m0 m r s p X X → L18_5 l near (.ptr r.b 0) (.ptr s.b 0) (j + 1) i m k0 kr
  | 0, i, m, X, e, h => by
    obtain ⟨c, hc, hq⟩ := hl
    show R18_5 _ _ _ _ _ _ _ _ _
    unfold R18_5
    rw [klen_r hc]
    refine kif_c _ (fun c1 => ?_) fun _ => hk m X h
    have c1 : (i : Int) < n := by simpa using c1
    exact kif_f (by simp; omega) (hk m X h)
  | j + 1, i, m, X, e, h => by
    have hl' := hl
    obtain ⟨c, hc, hq⟩ := hl
    obtain ⟨q, hqc, hqt⟩ := hq i (by omega)
    show R18_5 _ _ _ _ _ _ _ _ _
    unfold R18_5
    rw [klen_r hc, wrap64 (n := (i : Int) + 1) (by omega) (by omega)]
    refine kif_t (by simp; omega) (kif_t (by simp; omega) (ldG_r (hc.keep h.K) (by omega) (by omega) fun d hd => newK_i fun b m1 hb K e1 O1 => ?_))
    rw [stG_of e1 rfl (by simp)]
    have hb0 : m0.obj b = none := newK_none h.K hb
    have h1 := h.keep K
    have F : Fr (fun b' => b' = b) m1 (m1.set b { n := 6, c := splice Z6 0 6 d, t := 46, ro := false }) := Fr.set (S := fun b' => b' = b) rfl _
    have h2 : DoSt m0 (m1.set b { n := 6, c := splice Z6 0 6 d, t := 46, ro := false }) r s p X X b q :=
      ⟨h1.step F (fun b' e => by subst e; exact hb0) (fun b' hr e => by subst e; exact h.hr.live hr hb) (fun b' hr e => by subst e; exact h.hs.live hr hb), ⟨_, set_same _ _ _, rfl, by
        obtain ⟨a0, a1, a2, a3, a4, a5⟩ := hqc
        have e : ∀ j, j < 6 → splice Z6 0 6 d j = c (i * 6 + j) := fun j hj => by unfold splice; rw [if_pos (by omega), Nat.sub_zero, hd j hj, Int.toNat_natCast]
        refine ⟨(e 0 (by omega)).trans a0, (e 1 (by omega)).trans a1, (e 2 (by omega)).trans a2, (e 3 (by omega)).trans a3, (e 4 (by omega)).trans a4, (e 5 (by omega)).trans a5⟩⟩, fun hr => h.hr.live hr hb, fun hr => h.hs.live hr hb⟩
    have next : ∀ m' X', Two m0 m' r s p X' X' → L18_5 l near (.ptr r.b 0) (.ptr s.b 0) (j + 1) ((i : Int) + 1) m' k0 kr := fun m' X' h' => play_loop hl' hk j (i + 1) m' X' (by omega) h'
    have hro : ∃ y, (m1.set b { n := 6, c := splice Z6 0 6 d, t := 46, ro := false }).obj b = some y ∧ y.ro = false := ⟨_, set_same _ _ _, rfl⟩
    generalize m1.set b { n := 6, c := splice Z6 0 6 d, t := 46, ro := false } = m2 at h2 hro ⊢
    refine kif_c _ (fun _ => ⟨fun b' => b' = b, rfl, ?_⟩) fun _ => play_one h2 hqt next
    have hp1 := h.hr.p1
    have hp2 := h.hr.p2
    rw [h2.q.l3]
    refine size_spec h2.t.hr ⟨keepsIn_self, ?_⟩
    have hw : IntKind.wrap .u32 (((p * 1024 : Nat) : Int) + 8) = p * 1024 + 8 := by rw [wrap32]; omega
    rw [hw, tmod_nn hqt.a.1]
    refine kif_f (by simp; omega) (h2.put hb0 hro (q' := { q with a := q.a % (p * 1024 + 8) }) (by omega) (by rintro c ⟨a0, a1, a2, a3, a4, a5⟩; exact ⟨a0, a1, a2, by simp [upd], a4, a5⟩) fun m3 h3 ro3 => newK_i fun b4 m4 hb4 K4 e4 O4 => ?_)
    have a3 : isU (q.a % (p * 1024 + 8)) := by
      have a := Int.emod_nonneg q.a (show (p : Int) * 1024 + 8 ≠ 0 by omega)
      have b := Int.emod_lt_of_pos q.a (show (0 : Int) < p * 1024 + 8 by omega)
      exact ⟨a, by omega⟩
    have hq3 : AskT m0 { q with a := q.a % (p * 1024 + 8) } := ⟨hqt.kd, hqt.n, hqt.pg, a3, hqt.v, hqt.w, hqt.f, hqt.ln, hqt.cap⟩
    have h4 := h3.keep K4
    have ro4 : ∃ y, m4.obj b = some y ∧ y.ro = false := by
      obtain ⟨y, e, hr⟩ := ro3
      exact ⟨y, by rw [K4 b (by rw [e]; simp)]; exact e, hr⟩
    rw [h4.q.l1]
    refine within_r (by omega) (by omega) (by omega) hqt.n fun v v0 v1 => ?_
    rw [tmod_nn v0]
    refine kif_ix (by omega) (by omega) ?_
    obtain ⟨z, hz, z0⟩ : ∃ z, (upd (upd (upd (upd (upd (upd (Z6b) 0 (.flat (.int .i64 1))) 1 (.flat (.int .i64 2))) 2 (.flat (.int .i64 4))) 3 (.flat (.int .i64 3))) 4 (.flat (.int .i64 0))) 5 (.flat (.int .i64 4))) (0 + (v % 6).toNat * 1) = .flat (.int .i64 z) ∧ isI z := by
      have : (v % 6).toNat < 6 := by omega
      rw [Nat.zero_add, Nat.mul_one]
      generalize (v % 6).toNat = w at this
      match w, this with
      | 0, _ => exact ⟨1, rfl, by unfold isI; omega⟩
      | 1, _ => exact ⟨2, rfl, by unfold isI; omega⟩
      | 2, _ => exact ⟨4, rfl, by unfold isI; omega⟩
      | 3, _ => exact ⟨3, rfl, by unfold isI; omega⟩
      | 4, _ => exact ⟨0, rfl, by unfold isI; omega⟩
      | 5, _ => exact ⟨4, rfl, by unfold isI; omega⟩
      | w + 6, h => omega
    rw [ldI_of e4 (by show 0 + (v % 6).toNat * 1 < 6; omega) hz]
    refine h4.put hb0 ro4 (q' := { q with a := q.a % (p * 1024 + 8), n := z }) (by omega) (by rintro c ⟨a0, a1, a2, a3, a4, a5⟩; exact ⟨a0, by simp [upd], a2, a3, a4, a5⟩) fun m5 h5 ro5 => ?_
    simp only [Nat.zero_add, h5.q.l2, kptr, h5.t.hs.l2, klen]
    refine within_r (by omega) (by omega) (by omega) hqt.pg fun g g0 g1 => ?_
    refine h5.put hb0 ro5 (q' := { q with a := q.a % (p * 1024 + 8), n := z, pg := g }) (by omega) (by rintro c ⟨a0, a1, a2, a3, a4, a5⟩; exact ⟨a0, a1, by simp [upd], a3, a4, a5⟩) fun m6 h6 ro6 => ?_
    exact play_one h6 ⟨hqt.kd, z0, (by unfold isI; omega : isI g), a3, hqt.v, hqt.w, hqt.f, hqt.ln, hqt.cap⟩ next
theorem play_spec {x : Int} {l : AV} {n : Nat} (hl : AsksOk m l n) {near : Bool} {k : Bool → Mem → Prop} (hk : ∀ m', Keeps m m' → k true m') : F18 x l near m k := by
  unfold F18
  refine new_spec fun r m1 h1 K1 f1 => rnew_spec fun s m2 h2 K2 f2 => ⟨fun b' => b' = s.b, ?_⟩
  have hp1 := h1.p1
  have hp2 := h1.p2
  have t : Two m m2 r s (clampP x) ⟨fun _ => 0, fun _ => false, fun _ => false⟩ ⟨fun _ => 0, fun _ => false, fun _ => false⟩ :=
    ⟨h1.keep K2, h2, fun b hr hs => h1.live hr (f2 b hs), fun b hb => hb.elim (f1 b) fun hs => newK_none K1 (f2 b hs), K1.trans K2⟩
  simp only [knilP, kptr, kif, Nat.zero_add]
  refine size_spec t.hr ⟨keepsIn_self, trivial, ?_⟩
  rw [t.hs.l1]
  have hw : IntKind.wrap .u32 ((clampP x * 1024 : Nat) : Int) = ((clampP x * 1024 : Nat) : Int) := by rw [wrap32]; omega
  show kif (((clampP x * 1024 : Nat) : Int) != IntKind.wrap .u32 ((clampP x * 1024 : Nat) : Int)) _ _
  rw [hw]
  refine kif_f (by simp) ⟨min n 80 + 1, play_loop (m0 := m) hl (fun m3 X h => ?_) (min n 80) 0 m2 _ (by omega) t⟩
  rw [h.hs.l1]
  show F15 r.b 0 0 ((clampP x * 1024 : Nat) : Int) m3 _
  refine bytes_spec h.hr ⟨by omega, by omega⟩ ⟨by omega, by omega⟩ (fun c => absurd (show inR (clampP x) 0 _ from ⟨by omega, by push_cast; omega⟩) c) fun c v m4 g1 g2 g3 => ?_
  have h4 := h.keep g2
  have hb : ∀ i, i < clampP x * 1024 → cB X.B i = .flat (.int .u8 (X.B i)) ∧ 0 ≤ X.B i ∧ X.B i < 256 := fun i _ => ⟨rfl, h.hr.rng _⟩
  show kstr v m4 _
  refine kstr_b (n := clampP x * 1024) (c := cB X.B) (by rw [Int.toNat_natCast] at g1; exact (g1.r).congr fun i hi => by simp [cB]) _ hb ?_
  rw [h4.hs.l1]
  refine kstr_b h4.hs.d1.r _ hb ?_
  show kif (_ == _) _ _
  refine kif_t (by simp) (written_spec h4.hr fun v1 m5 g5 g6 g7 g8 => ?_)
  have h5 := h4.stepR (X' := ⟨X.B, X.M, fun _ => false⟩) g5 g7
  refine rwritten_spec h5.hs fun v2 m6 g9 g10 g11 g12 => ?_
  have g13 := g6.fr g11 fun b hb hs => h4.hs.live hs (g8 b hb)
  exact same_spec g13.r g10.r (by have := wl_len X.W (clampP x); omega) (hk m6 (h5.stepS (Y' := ⟨X.B, X.M, fun _ => false⟩) g9 g11).K)
end
end Go.Proofs.Ytmgalbmhbbickaa.Am
