/- Calls of the program's memory beside the reference's: what is told is the same. Conditions: both memories hold the same in blocks of their own. -/
import Derived.Test.YtobdghdcmkdcaaaR2c
namespace Go.Proofs.Ytobdghdcmkdcaaa.Am
set_option linter.unusedVariables false
set_option linter.unusedSimpArgs false
set_option maxRecDepth 100000

structure RD where
  B : Nat → Int
  M : Nat → Bool
  W : Nat → Bool
structure Two (m0 m : Mem) (r s : RB) (p : Nat) (X Y : RD) : Prop where
  hr : IsRam m r p X.B X.M X.W
  hs : IsRam m s p Y.B Y.M Y.W
  dis : ∀ b, r.has b → ¬ s.has b
  fr : ∀ b, r.has b ∨ s.has b → m0.obj b = none
  K : Keeps m0 m
section
variable {m0 m : Mem} {r s : RB} {p : Nat} {X Y X' Y' : RD}
theorem Two.stepR {m' : Mem} (h : Two m0 m r s p X Y) (h1 : IsRam m' r p X'.B X'.M X'.W) (F : Fr r.has m m') : Two m0 m' r s p X' Y :=
  ⟨h1, h.hs.fr F fun b hb hr => h.dis b hr hb, h.dis, h.fr, F.keeps h.K fun b hb => h.fr b (.inl hb)⟩
theorem Two.stepS {m' : Mem} (h : Two m0 m r s p X Y) (h1 : IsRam m' s p Y'.B Y'.M Y'.W) (F : Fr s.has m m') : Two m0 m' r s p X Y' :=
  ⟨h.hr.fr F h.dis, h1, h.dis, h.fr, F.keeps h.K fun b hb => h.fr b (.inr hb)⟩
theorem Two.step {m' : Mem} {S : Nat → Prop} (h : Two m0 m r s p X Y) (F : Fr S m m') (hs : ∀ b, S b → m0.obj b = none) (h1 : ∀ b, r.has b → ¬ S b) (h2 : ∀ b, s.has b → ¬ S b) : Two m0 m' r s p X Y :=
  ⟨h.hr.fr F h1, h.hs.fr F h2, h.dis, h.fr, F.keeps h.K hs⟩
theorem Two.keep {m' : Mem} (h : Two m0 m r s p X Y) (K : Keeps m m') : Two m0 m' r s p X Y := ⟨h.hr.keep K, h.hs.keep K, h.dis, h.fr, h.K.trans K⟩

/-! ### calls -/
structure Asks where
  kd : Int
  n : Int
  pg : Int
  a : Int
  v : Int
  w : AV
  ln : Nat
  f : Nat → Int
def AskC (c : Nat → AV) (q : Asks) : Prop := c 0 = .flat (.int .i64 q.kd) ∧ c 1 = .flat (.int .i64 q.n) ∧ c 2 = .flat (.int .i64 q.pg) ∧ c 3 = .flat (.int .u32 q.a) ∧ c 4 = .flat (.int .u32 q.v) ∧ c 5 = q.w
structure AskT (m : Mem) (q : Asks) : Prop where
  kd : isI q.kd
  n : isI q.n
  pg : isI q.pg
  a : isU q.a
  v : isU q.v
  w : IsR m 1 q.w q.ln (cB q.f)
  f : ∀ i, i < q.ln → 0 ≤ q.f i ∧ q.f i < 256
  ln : (q.ln : Int) < 9223372036854775808
  cap : ∀ b o cap, q.w = .sl b o q.ln cap → q.ln ≤ cap.low ∧ ∀ e z, cap = .ge e z → e = 1
theorem AskT.keep {m' : Mem} {q : Asks} (h : AskT m q) (K : Keeps m m') : AskT m' q := ⟨h.kd, h.n, h.pg, h.a, h.v, h.w.keep K, h.f, h.ln, h.cap⟩
theorem kA_r {v : AV} {n : Nat} {c : Nat → AV} {esz : Nat} (h : IsR m esz v n c) (k : AV → Prop) : kA v k = k v := by
  cases h <;> rfl
def AskB (m : Mem) (b : Nat) (q : Asks) : Prop := ∃ y, m.obj b = some y ∧ y.n = 6 ∧ AskC y.c q
theorem AskB.l0 {b : Nat} {q : Asks} (h : AskB m b q) (k : Int → Prop) : ldI .i64 m b 0 k = k q.kd := by
  obtain ⟨y, e, hn, h0, h1, h2, h3, h4, h5⟩ := h; exact ldI_of e (by omega) h0
theorem AskB.l1 {b : Nat} {q : Asks} (h : AskB m b q) (k : Int → Prop) : ldI .i64 m b 1 k = k q.n := by
  obtain ⟨y, e, hn, h0, h1, h2, h3, h4, h5⟩ := h; exact ldI_of e (by omega) h1
theorem AskB.l2 {b : Nat} {q : Asks} (h : AskB m b q) (k : Int → Prop) : ldI .i64 m b 2 k = k q.pg := by
  obtain ⟨y, e, hn, h0, h1, h2, h3, h4, h5⟩ := h; exact ldI_of e (by omega) h2
theorem AskB.l3 {b : Nat} {q : Asks} (h : AskB m b q) (k : Int → Prop) : ldI .u32 m b 3 k = k q.a := by
  obtain ⟨y, e, hn, h0, h1, h2, h3, h4, h5⟩ := h; exact ldI_of e (by omega) h3
theorem AskB.l4 {b : Nat} {q : Asks} (h : AskB m b q) (k : Int → Prop) : ldI .u32 m b 4 k = k q.v := by
  obtain ⟨y, e, hn, h0, h1, h2, h3, h4, h5⟩ := h; exact ldI_of e (by omega) h4
theorem AskB.l5 {b : Nat} {q : Asks} {n : Nat} {c : Nat → AV} (h : AskB m b q) (hr : IsR m 1 q.w n c) (k : AV → Prop) : ldA m b 5 k = k q.w := by
  obtain ⟨y, e, hn, h0, h1, h2, h3, h4, h5⟩ := h
  unfold ldA kobj
  rw [e]
  simp only [kite_eq]
  rw [if_pos (by omega), h5]
  exact kA_r hr k
theorem AskB.fr {m' : Mem} {S : Nat → Prop} {b : Nat} {q : Asks} (h : AskB m b q) (F : Fr S m m') (hs : ¬ S b) : AskB m' b q := by
  obtain ⟨y, e, hy⟩ := h
  exact ⟨y, by rw [F b (by rw [e]; simp) hs]; exact e, hy⟩
theorem AskB.live {b : Nat} {q : Asks} (h : AskB m b q) : m.obj b ≠ none := by
  obtain ⟨y, e, _⟩ := h; rw [e]; simp

structure DoSt (m0 m : Mem) (r s : RB) (p : Nat) (X Y : RD) (b : Nat) (q : Asks) : Prop where
  t : Two m0 m r s p X Y
  q : AskB m b q
  nr : ¬ r.has b
  ns : ¬ s.has b
variable {b : Nat} {q : Asks}
theorem DoSt.stepR {m' : Mem} (h : DoSt m0 m r s p X Y b q) (h1 : IsRam m' r p X'.B X'.M X'.W) (F : Fr r.has m m') : DoSt m0 m' r s p X' Y b q := ⟨h.t.stepR h1 F, h.q.fr F h.nr, h.nr, h.ns⟩
theorem DoSt.stepS {m' : Mem} (h : DoSt m0 m r s p X Y b q) (h1 : IsRam m' s p Y'.B Y'.M Y'.W) (F : Fr s.has m m') : DoSt m0 m' r s p X Y' b q := ⟨h.t.stepS h1 F, h.q.fr F h.ns, h.nr, h.ns⟩
theorem DoSt.keep {m' : Mem} (h : DoSt m0 m r s p X Y b q) (K : Keeps m m') : DoSt m0 m' r s p X Y b q := ⟨h.t.keep K, h.q.fr (K.fr fun _ => False) id, h.nr, h.ns⟩
theorem keepsIn_of {S : Nat → Prop} {m m' : Mem} {b : Nat} (F : Fr S m m') (h : ¬ S b) : KeepsIn (fun b' => b' = b) m m' := fun b' e hb => by subst e; exact F b' hb h
theorem keepsIn_self {F : Nat → Prop} {m : Mem} : KeepsIn F m m := fun _ _ _ => rfl

/-! ### any calls -/
theorem within_r {n lo hi : Int} (l0 : -1 ≤ lo) (h0 : lo ≤ hi) (h1 : hi < 4294967296) (hn : isI n) {k : Int → Mem → Prop} (hk : ∀ v, lo ≤ v → v ≤ hi → k v m) : F15 n lo hi m k := by
  obtain ⟨n0, n1⟩ := hn
  unfold F15
  have key : P15_3102 n lo hi m (fun x1 m2 => (Keeps m m2 ∧ k x1 m)) := by
    unfold P15_3102
    rw [wrap64 (n := hi - lo) (by omega) (by omega), wrap64 (n := hi - lo + 1) (by omega) (by omega)]
    have ht : -(hi - lo + 1) < n.tmod (hi - lo + 1) ∧ n.tmod (hi - lo + 1) < hi - lo + 1 := by
      by_cases c : 0 ≤ n
      · rw [tmod_nn c]
        have a := Int.emod_nonneg n (show hi - lo + 1 ≠ 0 by omega)
        have b := Int.emod_lt_of_pos n (show 0 < hi - lo + 1 by omega)
        omega
      · have e : n.tmod (hi - lo + 1) = -((-n).tmod (hi - lo + 1)) := by rw [Int.neg_tmod]; omega
        rw [e, tmod_nn (by omega)]
        have a := Int.emod_nonneg (-n) (show hi - lo + 1 ≠ 0 by omega)
        have b := Int.emod_lt_of_pos (-n) (show 0 < hi - lo + 1 by omega)
        omega
    generalize n.tmod (hi - lo + 1) = r at ht
    refine kif_f (by simp; omega) (kif_c _ (fun c => ?_) fun c => ?_)
    · have c : r < 0 := by simpa using c
      rw [wrap64 (n := r + hi) (by omega) (by omega), wrap64 (n := r + hi - lo) (by omega) (by omega), wrap64 (n := r + hi - lo + 1) (by omega) (by omega), wrap64 (by omega) (by omega)]
      exact ⟨Keeps.self m, hk _ (by omega) (by omega)⟩
    · have c : ¬ r < 0 := by simpa using c
      rw [wrap64 (by omega) (by omega)]
      exact ⟨Keeps.self m, hk _ (by omega) (by omega)⟩
  refine kif_c _ (fun c => kif_c _ (fun c1 => ⟨Keeps.self m, hk _ (by simpa using c) (by simpa using c1)⟩) fun _ => key) fun _ => key

/-- a field is written -/
theorem DoSt.put (h : DoSt m0 m r s p X X b q) (hb : m0.obj b = none) (hro : ∃ y, m.obj b = some y ∧ y.ro = false) {i : Nat} {x : AV} {q' : Asks} (hi : i < 6) (hc : ∀ c, AskC c q → AskC (upd c i x) q') {k : Mem → Prop} (hk : ∀ m', DoSt m0 m' r s p X X b q' → (∃ y, m'.obj b = some y ∧ y.ro = false) → k m') : stC m b i x k := by
  obtain ⟨y, e, hn, hy⟩ := h.q
  obtain ⟨y', e', hr⟩ := hro
  rw [e] at e'
  cases e'
  rw [stC_of e hr (by omega)]
  have F : Fr (fun b' => b' = b) m (m.set b { y with c := upd y.c i x }) := Fr.set (S := fun b' => b' = b) rfl _
  exact hk _ ⟨h.t.step F (fun b' e => by subst e; exact hb) (fun b' hr e => by subst e; exact h.nr hr) (fun b' hr e => by subst e; exact h.ns hr), ⟨_, set_same _ _ _, hn, hc _ hy⟩, h.nr, h.ns⟩ ⟨_, set_same _ _ _, hr⟩
def AsksOk (m : Mem) (v : AV) (n : Nat) : Prop := ∃ c : Nat → AV, IsR m 6 v n c ∧ ∀ i, i < n → ∃ q, AskC (fun j => c (i * 6 + j)) q ∧ AskT m q
end
end Go.Proofs.Ytobdghdcmkdcaaa.Am
