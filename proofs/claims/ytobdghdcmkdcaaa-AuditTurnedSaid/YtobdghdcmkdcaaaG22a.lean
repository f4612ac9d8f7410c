/- A cache's parts: keys, rows of keys, the map; what the functions on them ask. Conditions: rows are short. -/
import Derived.Test.YtobdghdcmkdcaaaM4
import Derived.Test.YtobdghdcmkdcaaaR2c
namespace Go.Proofs.Ytobdghdcmkdcaaa.Am
set_option linter.unusedVariables false
set_option linter.unusedSimpArgs false
set_option maxRecDepth 100000

structure Key where
  a : Int
  m : Int
  o : Int
deriving DecidableEq
def KeyC (c : Nat → AV) (k : Key) : Prop := c 0 = .flat (.int .u32 k.a) ∧ c 1 = .flat (.int .i64 k.m) ∧ c 2 = .flat (.int .i64 k.o)
theorem KeyC.congr {c d : Nat → AV} {k : Key} (h : KeyC c k) (e : ∀ j, j < 3 → d j = c j) : KeyC d k := ⟨(e 0 (by omega)).trans h.1, (e 1 (by omega)).trans h.2.1, (e 2 (by omega)).trans h.2.2⟩
theorem geq_key {c d : Nat → AV} {x y : Key} (h : KeyC c x) (h' : KeyC d y) (k : Bool → Prop) : geq K94 c d k = k (decide (x = y)) := by
  obtain ⟨a0, a1, a2⟩ := h
  obtain ⟨b0, b1, b2⟩ := h'
  have e : decide (x = y) = ((x.a == y.a) && ((x.m == y.m) && ((x.o == y.o) && true))) := by
    obtain ⟨a, b, c⟩ := x
    obtain ⟨a', b', c'⟩ := y
    rw [Bool.eq_iff_iff]
    simp
  rw [e]
  unfold geq K94
  simp only [List.all_cons, List.all_nil, a0, a1, a2, b0, b1, b2, LK.fits, AV.same, decide_true, Bool.and_true, Bool.and_self]

section
variable {m : Mem}
/-- a key in a box -/
def KeyB (m : Mem) (b : Nat) (x : Key) : Prop := ∃ y, m.obj b = some y ∧ y.n = 3 ∧ y.ro = false ∧ KeyC y.c x
theorem KeyB.lg {b : Nat} {x : Key} (h : KeyB m b x) {k : (Nat → AV) → Prop} (hk : ∀ c, KeyC c x → k c) : ldG 3 m b 0 k := by
  obtain ⟨y, e, hn, hr, hc⟩ := h
  rw [ldG_of e (by omega)]
  refine hk _ (hc.congr fun j hj => ?_)
  unfold sub; rw [if_pos hj, Nat.zero_add]
theorem KeyB.fr {m' : Mem} {S : Nat → Prop} {b : Nat} {x : Key} (h : KeyB m b x) (F : Fr S m m') (hb : ¬ S b) : KeyB m' b x := by
  obtain ⟨y, e, r⟩ := h
  exact ⟨y, by rw [F b (by rw [e]; simp) hb]; exact e, r⟩
theorem KeyB.keep {m' : Mem} {b : Nat} {x : Key} (h : KeyB m b x) (K : Keeps m m') : KeyB m' b x := h.fr (K.fr fun _ => False) fun h => h
theorem KeyB.live {b : Nat} {x : Key} (h : KeyB m b x) : m.obj b ≠ none := by obtain ⟨y, e, _⟩ := h; rw [e]; simp

/-! ### rows of keys -/
def IsK (m : Mem) (v : AV) (ks : List Key) : Prop := ∃ c, IsL m 3 v ks.length c ∧ ∀ i, (h : i < ks.length) → KeyC (fun j => c (i * 3 + j)) ks[i]
theorem IsK.fr {m' : Mem} {S : Nat → Prop} {v : AV} {ks : List Key} (h : IsK m v ks) (F : Fr S m m') (hs : ∀ b, own v b → ¬ S b) : IsK m' v ks := by
  obtain ⟨c, h1, h2⟩ := h; exact ⟨c, h1.fr F hs, h2⟩
theorem IsK.keep {m' : Mem} {v : AV} {ks : List Key} (h : IsK m v ks) (K : Keeps m m') : IsK m' v ks := by
  obtain ⟨c, h1, h2⟩ := h; exact ⟨c, h1.keep K, h2⟩
theorem IsK.len {v : AV} {ks : List Key} (h : IsK m v ks) (k : Int → Prop) : klen v k = k (ks.length : Int) := by
  obtain ⟨c, h1, h2⟩ := h; exact klen_r h1.r k
theorem IsK.live {v : AV} {ks : List Key} (h : IsK m v ks) {b : Nat} (hb : own v b) : m.obj b ≠ none := by
  obtain ⟨c, h1, h2⟩ := h; exact h1.live hb
theorem IsK.nil (a : Option Addr) : IsK m (.flat (.slice a 0 0)) [] := ⟨fun _ => .junk, .nil a _, fun i h => by simp at h⟩
theorem IsK.ld {v : AV} {ks : List Key} (h : IsK m v ks) (i : Nat) (hi : i < ks.length) {k : (Nat → AV) → Prop} (hk : ∀ c, KeyC c ks[i] → k c) : ksl v fun b o q p => kif (decide (0 ≤ (i : Int)) && decide ((i : Int) < q)) (ldG 3 m b (o + (i : Int).toNat * 3) k) False := by
  obtain ⟨c, h1, h2⟩ := h
  refine ldG_r h1.r (by omega) (by omega) fun d hd => hk d ((h2 i hi).congr fun j hj => ?_)
  simp only [Int.toNat_natCast] at hd
  exact hd j hj
theorem index_loop {v : AV} {b2 : Nat} {ks : List Key} {x : Key} (hv : IsK m v ks) (hl : ks.length ≤ 100000) (hb : KeyB m b2 x) {k0 : Mem → Prop} {kr : Int → Mem → Prop} (hno : (∀ y ∈ ks, y ≠ x) → k0 m) (hyes : ∀ i : Nat, (h : i < ks.length) → ks[i] = x → kr i m) :
    ∀ (j i : Nat), i + j = ks.length → (∀ t, (h : t < ks.length) → t < i → ks[t] ≠ x) → L53_2 v b2 0 ks.length (j + 1) i m k0 kr
  | 0, i, e, hn => by
    show R53_2 _ _ _ _ _ _ _ _ _
    unfold R53_2
    refine kif_f (by simp; omega) (hno fun y hy => ?_)
    obtain ⟨t, ht, rfl⟩ := List.getElem_of_mem hy
    exact hn t ht (by omega)
  | j + 1, i, e, hn => by
    show R53_2 _ _ _ _ _ _ _ _ _
    unfold R53_2
    refine kif_t (by simp; omega) (hb.lg fun c4 h4 => hv.ld i (by omega) fun c9 h9 => ?_)
    rw [geq_key h4 h9, wrap64 (n := (i : Int) + 1) (by omega) (by omega)]
    refine kif_c _ (fun c => hyes i (by omega) (of_decide_eq_true c).symm) fun c => index_loop hv hl hb hno hyes j (i + 1) (by omega) fun t ht hlt => ?_
    by_cases e1 : t = i
    · subst e1; intro e2; rw [e2] at c; simp at c
    · exact hn t ht (by omega)
theorem index_spec {v : AV} {ks : List Key} {c : Nat → AV} {x : Key} (hv : IsK m v ks) (hl : ks.length ≤ 100000) (hc : KeyC c x) {k : Int → Mem → Prop} (hno : (∀ y ∈ ks, y ≠ x) → k (-1) m) (hyes : ∀ i : Nat, (h : i < ks.length) → ks[i] = x → k i m) : F53 v c m k := by
  unfold F53
  refine newK_i fun b2 m1 hb K e O => ?_
  have hb2 : KeyB m1 b2 x := ⟨_, e, rfl, rfl, hc⟩
  rw [(hv.keep K).len]
  exact ⟨ks.length + 1, index_loop (hv.keep K) hl hb2 (fun h => ⟨K, hno h⟩) (fun i h e => ⟨K, hyes i h e⟩) ks.length 0 (by omega) fun t _ h => by omega⟩

theorem KeyC.row {c : Nat → AV} {n i : Nat} (h : i < n) : i * 3 + 3 ≤ n * 3 := by omega
/-- one element is taken out of a row -/
theorem del_spec {v : AV} {ks : List Key} {i : Nat} {ii jj : Int} (hv : IsK m v ks) (hl : ks.length ≤ 100000) (hi : i < ks.length) (e1 : ii = i) (e2 : jj = ii + 1) {k : AV → Mem → Prop}
    (hk : ∀ v' m', IsK m' v' (ks.eraseIdx i) → Fr (own v) m m' → (∀ b, own v' b → own v b) → k v' m') : F54 v ii jj m k := by
  obtain ⟨c, h1, h2⟩ := hv
  obtain ⟨n, hn⟩ : ∃ n, ks.length = n := ⟨_, rfl⟩
  rw [hn] at h1 hl hi
  cases h1 with
  | nil a c => omega
  | sl b o n cap y c g1 g2 g3 g4 g5 =>
    have hlow : n ≤ cap.low ∧ ∀ e q, cap = .ge e q → e = 3 := by
      cases cap with
      | ex q => exact ⟨g5.1, fun e q h => by cases h⟩
      | ge e q => exact ⟨g5.2, fun e' q' h => by cases h; exact g5.1⟩
    have hin : o + n * 3 ≤ y.n := g2
    unfold F54
    subst e1 e2
    show slM (.sl b o n cap) (some (i : Int)) (some ((i : Int) + 1)) (some (n : Int)) _
    have dt : ∀ {p : Prop} [Decidable p], p → decide p = true := fun h => decide_eq_true h
    refine kif_t (dt (by omega)) (kif_t (dt (by omega)) (kif_t (dt (by have := hlow.1; omega)) (kif_f (by rw [beq_eq_false_iff_ne]; omega) ?_)))
    show slS 3 (.sl b o n cap) none (some (i : Int)) _
    have key : ∀ v3, v3 = .sl b o i cap → (slS 3 (.sl b o n cap) (some ((i : Int) + 1)) none fun v4 => appS 3 24 94 v3 v4 m fun v5 m6 => klen v5 fun x7 => slS 3 v5 (some x7) (some (n : Int)) fun v8 => clrS [(.flat (.int .u32 0)), (.flat (.int .i64 0)), (.flat (.int .i64 0))] v8 m6 fun m9 => k v5 m9) := fun v3 e3 => by
      subst e3
      have hS : IsS m 3 (.sl b o n cap) n c := ⟨.sl b o n cap y c g1 g2 g3, fun b' o' cap' e => by cases e; exact hlow⟩
      refine slS_s hS (l := i + 1) (u := n) (by simp [optI]) (by simp [optI]) (by omega) (Nat.le_refl _) fun v4 s4 o4 => ?_
      have hC : ∀ t, (h : t < (ks.eraseIdx i).length) → KeyC (fun j => (fun z => if z < i * 3 then c z else c (z + 3)) (t * 3 + j)) (ks.eraseIdx i)[t] := fun t ht => by
        rw [List.getElem_eraseIdx]
        have hlen : (ks.eraseIdx i).length = n - 1 := by rw [List.length_eraseIdx, if_pos (by omega), hn]
        by_cases c1 : t < i
        · rw [dif_pos c1]
          refine (h2 t (by omega)).congr fun j hj => ?_
          dsimp only
          rw [if_pos (by omega)]
        · rw [dif_neg c1]
          refine (h2 (t + 1) (by omega)).congr fun j hj => ?_
          dsimp only
          rw [if_neg (by omega)]
          congr 1; omega
      have hlen : (ks.eraseIdx i).length = n - 1 := by rw [List.length_eraseIdx, if_pos (by omega), hn]
      unfold appS
      refine ksrc_r s4.r fun d hd => ?_
      -- behind the append
      have tail : ∀ (y6 : Blk) (m6 : Mem), m6.obj b = some y6 → y6.ro = false → o + n * 3 ≤ y6.n → (∀ z, z < (n - 1) * 3 → y6.c (o + z) = if z < i * 3 then c z else c (z + 3)) → y6.n = y.n → Fr (fun x => x = b) m m6 → klen (.sl b o (n - 1) cap) fun x7 => slS 3 (.sl b o (n - 1) cap) (some x7) (some (n : Int)) fun v8 => clrS [(.flat (.int .u32 0)), (.flat (.int .i64 0)), (.flat (.int .i64 0))] v8 m6 fun m9 => k (.sl b o (n - 1) cap) m9 := fun y6 m6 ey hro hin6 hc6 hyn F6 => by
        show slS 3 (.sl b o (n - 1) cap) (some ((n - 1 : Nat) : Int)) (some (n : Int)) _
        have cl : ∀ cap8, clrS [(.flat (.int .u32 0)), (.flat (.int .i64 0)), (.flat (.int .i64 0))] (.sl b (o + (n - 1) * 3) 1 cap8) m6 fun m9 => k (.sl b o (n - 1) cap) m9 := fun cap8 => by
          unfold clrS
          dsimp only
          rw [kite_eq, if_neg (by omega)]
          unfold kobj
          rw [ey]
          dsimp only
          rw [hro]
          refine kite_t (by simp; omega) (hk _ _ ⟨fun z => if z < i * 3 then c z else c (z + 3), ?_, hC⟩ ?_ fun b' e => e)
          · rw [hlen]
            refine .sl b o (n - 1) cap _ _ (set_same _ _ _) (by show o + (n - 1) * 3 ≤ y6.n; omega) (fun z hz => ?_) rfl ?_
            · show splice y6.c (o + (n - 1) * 3) _ _ (o + z) = _
              unfold splice
              rw [if_neg (by omega)]
              exact hc6 z hz
            · cases cap with
              | ex q => exact ⟨by have := g5.1; omega, by show o + q * 3 ≤ y6.n; rw [hyn]; exact g5.2⟩
              | ge e q => exact ⟨g5.1, by have := g5.2; omega⟩
          · intro b' hb' ho
            have hne : b' ≠ b := fun e => ho e.symm
            rw [set_other _ hne]; exact F6 b' hb' hne
        unfold slS
        refine kif_t (by simp [optI]) (kif_t (by simp [optI] <;> omega) (kif_t (by simp [optI] <;> omega) ?_))
        have t1 : (optI (some ((n - 1 : Nat) : Int)) 0).toNat = n - 1 := by simp [optI]
        have t2 : (optI (some (n : Int)) ((n - 1 : Nat) : Int)).toNat = n := by simp [optI]
        rw [t1, t2]
        have e1 : n - (n - 1) = 1 := by omega
        cases cap with
        | ex q =>
          have : n ≤ q := hlow.1
          refine kite_t (by omega) ?_
          rw [e1]; exact cl _
        | ge e q =>
          have : n ≤ q := hlow.1
          refine kite_t (hlow.2 e q rfl) (kite_t (by omega) ?_)
          rw [e1]; exact cl _
      dsimp only
      by_cases hz : n - (i + 1) = 0
      · have hni : n - 1 = i := by omega
        refine kite_t hz ?_
        have := tail y m g1 g4 g2 (fun z hz' => by rw [if_pos (by omega)]; exact g3 z (by omega)) rfl (Fr.refl _ _)
        rw [hni] at this
        exact this
      · rw [kite_eq, if_neg hz]
        have hni : i + (n - (i + 1)) = n - 1 := by omega
        have hap : ∀ cap', cap' = cap → appIn 3 b o i cap' (n - (i + 1)) d m fun v5 m6 => klen v5 fun x7 => slS 3 v5 (some x7) (some (n : Int)) fun v8 => clrS [(.flat (.int .u32 0)), (.flat (.int .i64 0)), (.flat (.int .i64 0))] v8 m6 fun m9 => k v5 m9 := fun cap' ec => by
          subst ec
          unfold appIn kobj
          rw [g1]
          dsimp only
          rw [g4]
          dsimp only
          rw [hni]
          refine tail _ _ (set_same _ _ _) rfl (by show o + n * 3 ≤ max y.n _; omega) (fun z hz' => ?_) (by show max y.n _ = y.n; omega) (Fr.set (S := fun x => x = b) rfl _)
          show splice y.c (o + i * 3) ((n - (i + 1)) * 3) d (o + z) = _
          unfold splice
          by_cases c1 : z < i * 3
          · rw [if_neg (by omega), if_pos c1]; exact g3 z (by omega)
          · rw [if_pos (by omega), if_neg c1, hd _ (by omega)]
            show c ((i + 1) * 3 + (o + z - (o + i * 3))) = c (z + 3)
            congr 1; omega
        unfold kobj
        rw [g1]
        refine kite_t ⟨by omega, by omega⟩ ?_
        cases cap with
        | ex q =>
          have : n ≤ q := hlow.1
          exact kite_t (by omega) (kite_t (by omega) (hap _ rfl))
        | ge e q =>
          have : n ≤ q := hlow.1
          have e3 := hlow.2 e q rfl
          subst e3
          exact kite_t rfl (kite_t (by omega) (hap _ rfl))
    unfold slS
    refine kif_t (by simp [optI]) (kif_t (by simp [optI]) (kif_t (by simp [optI]; omega) ?_))
    have t1 : (optI none 0).toNat = 0 := rfl
    have t2 : (optI (some (i : Int)) (n : Int)).toNat = i := by simp [optI]
    rw [t1, t2]
    cases cap with
    | ex q =>
      have : n ≤ q := hlow.1
      exact kite_t (by omega) (key _ (by simp))
    | ge e q =>
      have : n ≤ q := hlow.1
      have e3 := hlow.2 e q rfl
      exact kite_t (by rw [e3]) (kite_t (by omega) (key _ (by rw [e3]; simp)))
end
end Go.Proofs.Ytobdghdcmkdcaaa.Am
