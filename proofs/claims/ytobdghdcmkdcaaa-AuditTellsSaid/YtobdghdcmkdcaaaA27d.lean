/- States that may be; a machine that is new; law 27's known. Conditions: a State's numbers are in their ranges. -/
import Derived.Test.YtobdghdcmkdcaaaA27c
namespace Go.Proofs.Ytobdghdcmkdcaaa.Am
set_option linter.unusedVariables false
set_option linter.unusedSimpArgs false
set_option maxRecDepth 100000

section
variable {m : Mem} {S : St}
theorem right_body {n : Nat} (hn : n < 16) (h8 : n ≠ 8) (h13 : n ≠ 13) {v : Int} (h0 : n = 0 → v ≠ 2147483648) {kr : Bool → Mem → Prop} (hk : ∀ m', Keeps m m' → kr (rightS n v) m') : P20_9102 n v m kr := by
  unfold P20_9102
  refine fresh_spec fun c1 h1 => newS h1 fun b4 m5 hb4 K5 O5 i5 => write_spec i5 fun m6 i6 o6 => kif_ix (by omega) (by omega) ?_
  rw [ldI_st i6 (by omega) (by simp [isP3]; omega), show 39 + (n : Int).toNat * 1 = 39 + n by omega]
  have e : ((writeS St0 n v).n (39 + n) == v) = rightS n v := by
    unfold rightS
    rw [if_neg (by omega), if_neg (by omega), if_neg (by intro h; exact h0 (by omega) h.2)]
    rfl
  rw [e]
  exact hk m6 (Only.keeps K5 hb4 o6)
theorem right_spec {n : Nat} (hn : n < 16) {v : Int} {k : Bool → Mem → Prop} (hk : ∀ m', Keeps m m' → k (rightS n v) m') : F20 n v m k := by
  unfold F20
  refine kif_c _ (fun c => ?_) fun c8 => kif_c _ (fun c => ?_) fun c13 => kif_c _ (fun c => kif_c _ (fun c2 => ?_) fun c2 => ?_) fun c0 => ?_
  · have e : (n : Int) = 8 := by simpa using c
    have := hk m (Keeps.self m)
    rw [e] at this
    exact this
  · have e : (n : Int) = 13 := by simpa using c
    have := hk m (Keeps.self m)
    rw [e] at this
    exact this
  · have e : (n : Int) = 0 := by simpa using c
    have e2 : v = 2147483648 := by simpa using c2
    have := hk m (Keeps.self m)
    rw [e, e2] at this
    exact this
  · have e2 : v ≠ 2147483648 := by simpa using c2
    exact right_body hn (by simp at c8; omega) (by simp at c13; omega) (fun _ => e2) hk
  · exact right_body hn (by simp at c8; omega) (by simp at c13; omega) (fun h => by simp at c0; omega) hk
def auS (S : St) : Bool := decide ((∀ n : Nat, n < 16 → rightS n (S.n (39 + n)) = true) ∧ S.n 0 = 0 ∧ 0 ≤ S.n 72 ∧ S.n 72 ≤ 2199023255552)
theorem auS_ok {S : St} (h : May S) (h0 : 0 ≤ S.n 72) (h1 : S.n 72 ≤ 2199023255552) : auS S = true := decide_eq_true ⟨h.2, h.1, h0, h1⟩
theorem au_loop {m0 : Mem} {b2 : Nat} {c : Nat → AV} (hc : ∀ i, i < 16 → c i = vu (S.n (39 + i))) {k0 : Mem → Prop} {kr : Bool → Mem → Prop} (hyes : (∀ n : Nat, n < 16 → rightS n (S.n (39 + n)) = true) → ∀ m', Keeps m0 m' → k0 m') (hno : (∃ n : Nat, n < 16 ∧ rightS n (S.n (39 + n)) = false) → ∀ m', Keeps m0 m' → kr false m') : ∀ (j i : Nat) (m : Mem), i + j = 16 → (∀ n : Nat, n < i → rightS n (S.n (39 + n)) = true) → Keeps m0 m → L8_2 b2 0 c (j + 1) i m k0 kr
  | 0, i, m, e, h, K => by
    show R8_2 _ _ _ _ _ _ _ _
    unfold R8_2
    obtain rfl : i = 16 := by omega
    exact kif_f (by simp) (hyes h m K)
  | j + 1, i, m, e, h, K => by
    show R8_2 _ _ _ _ _ _ _ _
    unfold R8_2
    refine kif_t (by simp; omega) (kif_ix (by omega) (by omega) (kite_t (by omega) ?_))
    rw [show (i : Int).toNat * 1 = i by omega, hc i (by omega)]
    refine right_spec (by omega) fun m' K' => ?_
    rw [wrap64 (by omega) (by omega)]
    cases hr : rightS i (S.n (39 + i)) with
    | true => exact kif_f rfl (au_loop hc hyes hno j (i + 1) m' (by omega) (fun n hn => by
        by_cases c : n = i
        · subst c; exact hr
        · exact h n (by omega)) (K.trans K'))
    | false => exact kif_t rfl (hno ⟨i, by omega, hr⟩ m' (K.trans K'))
theorem astate_spec {c : Nat → AV} (hc : StCells c S) {k : Bool → Mem → Prop} (hk : ∀ m', Keeps m m' → k (auS S) m') : F8 c m k := by
  unfold F8
  refine boxS hc fun b2 m1 hb2 K1 h2 => ?_
  obtain ⟨x, ex, hn, hr, hcs, hx⟩ := h2
  rw [ldG_of ex (by omega)]
  have h2 : IsSt m1 b2 S.bare := ⟨x, ex, hn, hr, hcs, hx⟩
  refine ⟨17, au_loop (S := S) (m0 := m1) (fun i hi => ?_) (fun hall m' K' => ?_) (fun ⟨n, hn1, hn2⟩ m' K' => ?_) 16 0 m1 rfl (fun n hn => by omega) (Keeps.self m1)⟩
  · unfold sub; rw [if_pos hi, hcs _ (by omega), stc_u (by simp [isP3]; omega) (by omega)]; rfl
  · have h2 := h2.keep K'
    rw [ldI_st h2 (by omega) rfl]
    have K := K1.trans K'
    refine kif_c _ (fun c0 => ?_) fun c0 => ?_
    · rw [ldT_st h2]
      refine kif_c _ (fun c1 => ?_) fun c1 => ?_
      · rw [ldT_st h2]
        have e : decide (S.bare.n 72 ≤ 2199023255552) = auS S := by
          simp at c0 c1
          unfold auS
          exact decide_eq_decide.2 ⟨fun h => ⟨hall, c0, c1, h⟩, fun h => h.2.2.2⟩
        rw [e]; exact hk m' K
      · have e : auS S = false := by
          simp at c1
          exact decide_eq_false fun h => absurd h.2.2.1 (by have : S.bare.n 72 = S.n 72 := rfl; omega)
        rw [← e]; exact hk m' K
    · have e : auS S = false := by
        simp at c0
        exact decide_eq_false fun h => c0 h.2.1
      rw [← e]; exact hk m' K
  · have e : auS S = false := decide_eq_false fun h => by rw [h.1 n hn1] at hn2; cases hn2
    rw [← e]; exact hk m' (K1.trans K')

/-! ### a machine that is new -/
variable {e : Nat} {q : BB} {c p : Nat} {B : Nat → Int} {M : Nat → Bool} {D : Dv} {wv : AV} {n : Int} {Sc : Nat → Prop} {cap made used : Int}
theorem Mac.bus {W : Nat → Bool} {l : List (Key × Val)} (h : Mac m e q c p S B M W D wv n l Sc cap made used) (k : AV → Prop) : ldA m e (0 + 73) k = k (.ptr q.b 0) := by
  rw [Nat.zero_add]
  exact tail_ld h.s (j := 0) (by rw [h.sq]; decide) (by rw [h.sx]; rfl) rfl k
theorem Mac.cach {W : Nat → Bool} {l : List (Key × Val)} (h : Mac m e q c p S B M W D wv n l Sc cap made used) (k : AV → Prop) : ldA m e (0 + 74) k = k (.ptr c 0) := by
  rw [Nat.zero_add]
  exact tail_ld h.s (j := 1) (by rw [h.sq]; decide) (by rw [h.sx]; rfl) rfl k
theorem Mac.keep {m' : Mem} {W : Nat → Bool} {l : List (Key × Val)} (h : Mac m e q c p S B M W D wv n l Sc cap made used) (K : Keeps m m') : Mac m' e q c p S B M W D wv n l Sc cap made used :=
  ⟨h.s.keep K, h.sx, h.sq, h.b.keep K, h.c.keep K, h.de, h.dw, h.ce, h.cb, h.cw⟩
theorem ram_spec {W : Nat → Bool} (h : IsBus m q p B M W D wv) {k : AV → Mem → Prop} (hk : k (.ptr q.r.b 0) m) : F42 q.b 0 m k := by
  unfold F42
  rw [h.b.lA (i := 0) (by simp) rfl rfl]
  exact hk
theorem sync0 (h : Mac m e q c p S B M (fun _ => false) D wv n [] Sc cap made used) {k : Mem → Prop} (hk : ∀ m', Mac m' e q c p S B M (fun _ => false) D wv n [] Sc cap made used → Fr q.r.has m m' → k m') : F38 e 0 m k := by
  unfold F38
  rw [h.bus]
  dsimp only [kptr]
  refine ram_spec h.b ?_
  dsimp only [kptr]
  refine written_spec h.b.r fun v m' hr hl hF ho => ?_
  rw [klen_r hl.r]
  have e0 : (wl (fun _ => false) p).length = 0 := by unfold wl; simp
  rw [e0]
  refine ⟨1, ?_⟩
  show R38_1 _ _ _ _ _ _ _ _
  unfold R38_1
  have hx : ∀ b, b ∈ q.all → q.r.has b ∨ m'.obj b = m.obj b := fun b hb => by
    by_cases c : q.r.has b
    · exact .inl c
    · exact .inr (hF b (h.b.live hb) c)
  have nr : ∀ {b : Nat} {i : Nat}, q.all[i]? = some b → i < 9 → ¬ q.r.has b := fun {b i} hi hlt hr => by
    rcases hr with e | e | e | e <;> subst e
    · exact nd_ne h.b.nd (show i ≠ 9 by omega) hi rfl rfl
    · exact nd_ne h.b.nd (show i ≠ 10 by omega) hi rfl rfl
    · exact nd_ne h.b.nd (show i ≠ 11 by omega) hi rfl rfl
    · exact nd_ne h.b.nd (show i ≠ 12 by omega) hi rfl rfl
  have hb := h.b
  refine kif_f (by decide) (hk m' ⟨h.s.fr hF fun hr => h.de (BB.has hr), h.sx, h.sq, ⟨hb.b.fr hF (nr (i := 0) rfl (by omega)), hr, hb.w.fr hF (nr (i := 1) rfl (by omega)), hb.wl.fr hF fun b hb' hr => hb.nw b hb' (BB.has hr), hb.ln.fr hF (nr (i := 2) rfl (by omega)), hb.t1.fr hF (nr (i := 3) rfl (by omega)), hb.t2.fr hF (nr (i := 4) rfl (by omega)), hb.u.fr hF (nr (i := 5) rfl (by omega)), hb.d.fr hF (nr (i := 6) rfl (by omega)), hb.k.fr hF (nr (i := 7) rfl (by omega)), hb.kb.fr hF fun b e => by cases e; exact nr (i := 8) rfl (by omega), hb.dkr, hb.nd, hb.nw⟩, ?_, h.de, h.dw, h.ce, h.cb, h.cw⟩ hF)
  obtain ⟨bm, v', es, hC, hS⟩ := h.c
  have hn : ∀ b, Sc b → ¬ q.r.has b := fun b hb hr => h.cb b (BB.has hr) hb
  rw [hS] at hn
  exact ⟨bm, v', es, ⟨hC.li.fr hF (hn _ (.inl rfl)) fun x hx => hn x (.inr (.inr hx)), hC.mp.fr hF (hn _ (.inr (.inl rfl))), hC.pm, hC.nd, hC.ln, hC.n1, hC.n2, hC.vo⟩, hS⟩
theorem keys0 (h : Ca m c n [] Sc) {k : AV → Mem → Prop} (hk : ∀ v m', IsK m' v [] → Keeps m m' → k v m') : F39 c 0 m k := by
  unfold F39
  obtain ⟨bm, v', es, hC, hS⟩ := h
  rw [show (0 : Nat) + 1 = 1 from rfl, hC.li.l1]
  exact cloneK_spec hC.li.ks (by simp) fun v m' h1 h2 h3 => hk v m' h1 h2
theorem stale0 (h : Mac m e q c p S B M (fun _ => false) D wv n [] Sc cap made used) {k : Int → Mem → Prop} (hk : ∀ m', Mac m' e q c p S B M (fun _ => false) D wv n [] Sc cap made used → Fr q.r.has m m' → k 0 m') : F27 e 0 m k := by
  unfold F27
  refine sync0 h fun m1 h1 F1 => ?_
  rw [h1.cach]
  dsimp only [kptr]
  refine keys0 h1.c fun v5 m6 k5 K6 => ?_
  rw [k5.len]
  refine ⟨1, ?_⟩
  show R27_3 _ _ _ _ _ _ _ _
  unfold R27_3
  refine kif_f (by decide) ?_
  have h6 := h1.keep K6
  dsimp only
  rw [h6.cach]
  dsimp only [kptr]
  refine keys0 h6.c fun v54 m55 k54 K55 => ?_
  rw [k54.len]
  refine ⟨1, ?_⟩
  show R27_11 _ _ _ _ _ _ _ _ _
  unfold R27_11
  exact kif_f (by decide) (hk m55 (h6.keep K55) (F1.trans ((K6.trans K55).fr _)))
theorem kept0 (h : Mac m e q c p S B M (fun _ => false) D wv n [] Sc cap made used) {k : AV → Mem → Prop} (hk : ∀ v m', IsK m' v [] → Fr q.r.has m m' → k v m') : F28 e 0 m k := by
  unfold F28
  refine sync0 h fun m1 h1 F1 => ?_
  rw [h1.cach]
  dsimp only [kptr]
  exact keys0 h1.c fun v5 m6 k5 K6 => hk v5 m6 k5 (F1.trans (K6.fr _))
theorem aengine_spec (h : Mac m e q c p S B M (fun _ => false) D wv n [] Sc cap made used) (hS : auS S = true) {k : Bool → Mem → Prop} (hk : ∀ m', Fr q.r.has m m' → k true m') : F21 (.ptr e 0) m k := by
  unfold F21 -- as it stands
  dsimp only [knilP]
  refine kif_t rfl ?_
  dsimp only [kptr]
  refine estate_spec h.s fun c4 h4 => astate_spec h4 fun m7 K7 => ?_
  rw [hS]
  refine kif_t rfl (stale0 (h.keep K7) fun m11 h11 F11 => kif_t rfl (kept0 h11 fun v14 m15 k14 F15 => ?_))
  rw [k14.len]
  exact hk m15 (((K7.fr _).trans F11).trans F15)
end
end Go.Proofs.Ytobdghdcmkdcaaa.Am
