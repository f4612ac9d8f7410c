/- Law 22's CacheDrops. Conditions: none of its own. -/
import Derived.Test.YtjeijigchdnblaaC22f
namespace Go.Proofs.Ytjeijigchdnblaa.Am
set_option linter.unusedVariables false
set_option linter.unusedSimpArgs false
set_option maxRecDepth 100000

def aV (x : Int) : Int := x % 8192 - x % 8192 % 4
def kV (x : Int) : Key := ⟨aV x, 0, 0⟩
theorem aV_u {x : Int} : isU (aV x) := by unfold aV isU; omega
section
variable {m0 m : Mem} {b : Nat} {n : Int} {l : List (Key × Val)} {S : Nat → Prop}
theorem aV_eq {x : Int} (h : isU x) : bits .andNot .u32 (x.tmod 8192) 3 = aV x := by
  have h1 := h.1
  rw [tmod_nn h1, not3 _ (by omega) (by omega)]; rfl
theorem put_keys {l : List (Key × Val)} {key : Key} {v : Val} (h : (l.length : Int) < n) : (∀ q, q ∈ (putL n l key v).map Prod.fst ↔ q ∈ l.map Prod.fst ∨ q = key) ∧ (putL n l key v).length ≤ l.length + 1 := by
  have e : (if key ∈ l.map Prod.fst then l else if (l.length : Int) ≥ n then l.tail else l) = l := by
    split
    · rfl
    · rw [if_neg (by omega)]
  unfold putL
  rw [e]
  refine ⟨fun q => ?_, ?_⟩
  · rw [List.map_append, List.mem_append, rm_fst, List.mem_filter]
    simp only [ne_eq, decide_not, Bool.not_eq_eq_eq_not, Bool.not_true, decide_eq_false_iff_not, List.map_cons, List.map_nil, List.mem_singleton]
    constructor
    · rintro (h | h)
      · exact .inl h.1
      · exact .inr h
    · rintro (h | h)
      · by_cases c : q = key
        · exact .inr c
        · exact .inl ⟨h, c⟩
      · exact .inr h
  · rw [List.length_append]
    have := rm_len l key
    simp only [List.length_singleton]; omega
theorem fill_loop {v0 : AV} {x1 : Int} {ln q : Nat} {f : Nat → Int} (hv : IsR m0 1 v0 ln (cK .u32 f)) (hf : ∀ i, i < ln → isU (f i)) (hq : q ≤ ln) (hq2 : q ≤ 40) {k0 : Mem → Prop} (hk : ∀ m l S, Ca m b 100 l S → Own m0 m S → (∀ x, x ∈ l.map Prod.fst ↔ ∃ j, j < q ∧ x = kV (f j)) → k0 m) :
    ∀ (j i : Nat) (m : Mem) (l : List (Key × Val)) (S : Nat → Prop), i + j = q → Ca m b 100 l S → Own m0 m S → (∀ x, x ∈ l.map Prod.fst ↔ ∃ j, j < i ∧ x = kV (f j)) → l.length ≤ i → L4_6 v0 x1 (.ptr b 0) q (j + 1) i m k0
  | 0, i, m, l, S, e, C, O, hx, hl => by
    show R4_6 _ _ _ _ _ _ _ _
    unfold R4_6
    refine kif_f (by simp; omega) (hk m l S C O ?_)
    rw [show q = i by omega]; exact hx
  | j + 1, i, m, l, S, e, C, O, hx, hl => by
    show R4_6 _ _ _ _ _ _ _ _
    unfold R4_6
    have hi : i < ln := by omega
    rw [wrap64 (n := (i : Int) + 1) (by omega) (by omega)]
    refine kif_t (by simp; omega) (ldK_r (k := fun _ _ x => ksl _ _) (hv.keep O.K) i hi fun _ _ _ => ldK_r (k := fun _ _ x => kptr _ _) (hv.keep O.K) i hi fun _ _ _ => ?_)
    rw [aV_eq (hf i hi)]
    dsimp only [kptr]
    refine put22 C (key := kV (f i)) ⟨rfl, rfl, rfl⟩ ⟨rfl, aV_u⟩ fun m2 S2 C2 s2 => ?_
    obtain ⟨p1, p2⟩ := put_keys (n := 100) (l := l) (key := kV (f i)) (v := sub (upd (lget [(.flat (.int .u32 0)), (.flat (.slice none 0 0)), (.flat (.slice none 0 0)), (.flat (.slice none 0 0))]) 0 (.flat (.int .u32 (aV (f i))))) 0 4) (by omega)
    refine fill_loop hv hf hq hq2 hk j (i + 1) m2 _ S2 (by omega) C2 (O.stp s2) (fun x => ?_) (by omega)
    rw [p1, hx]
    constructor
    · rintro (⟨t, ht, e⟩ | e)
      · exact ⟨t, by omega, e⟩
      · exact ⟨i, by omega, e⟩
    · rintro ⟨t, ht, e2⟩
      by_cases c : t = i
      · exact .inr (by rw [← c]; exact e2)
      · exact .inl ⟨t, by omega, e2⟩
theorem seek_loop {v0 : AV} {p : Int} {ln q : Nat} {f : Nat → Int} (hv : IsR m0 1 v0 ln (cK .u32 f)) (hf : ∀ i, i < ln → isU (f i)) (hq : q ≤ ln) (hq2 : q ≤ 40) {x8 : Int} {k2 : Mem → Prop} {kr : Bool → Mem → Prop} (hk : ∀ m l S, Ca m b 100 l S → Own m0 m S → k2 m) :
    ∀ (j i : Nat) (m : Mem) (l : List (Key × Val)) (S : Nat → Prop), i + j = q → Ca m b 100 l S → Own m0 m S → (∀ x, x ∈ l.map Prod.fst ↔ (∃ j, j < q ∧ x = kV (f j)) ∧ x.a / 1024 ≠ p) → L4_14 v0 (.ptr b 0) q p (j + 1) i m k2 kr
  | 0, i, m, l, S, e, C, O, hx => by
    show R4_14 _ _ _ _ _ _ _ _ _
    unfold R4_14
    exact kif_f (by simp; omega) (hk m l S C O)
  | j + 1, i, m, l, S, e, C, O, hx => by
    show R4_14 _ _ _ _ _ _ _ _ _
    unfold R4_14
    have hi : i < ln := by omega
    rw [wrap64 (n := (i : Int) + 1) (by omega) (by omega)]
    refine kif_t (by simp; omega) (ldK_r (k := fun _ _ x => kptr _ _) (hv.keep O.K) i hi fun _ _ _ => ?_)
    rw [aV_eq (hf i hi)]
    dsimp only [kptr]
    have hu := aV_u (x := f i)
    have epg : IntKind.wrap .i64 (IntKind.wrap .u32 ((aV (f i)).tdiv 1024)) = aV (f i) / 1024 := by
      rw [Int.tdiv_eq_ediv_of_nonneg hu.1, wrap32, Int.emod_eq_of_lt (by have := hu.1; omega) (by have := hu.2; have := hu.1; omega), wrap64 (by have := hu.1; omega) (by have := hu.2; omega)]
    rw [epg]
    refine get22 C (key := kV (f i)) ⟨rfl, rfl, rfl⟩ (fun v c m3 S3 hin hc C3 s3 => ?_) fun hno c m3 C3 s3 => ?_
    · have hp : aV (f i) / 1024 ≠ p := ((hx (kV (f i))).1 (List.mem_map.2 ⟨_, hin, rfl⟩)).2
      have vo := C.vo _ hin
      refine box_i fun b49 m4 y hb49 K49 ey yn yr yc => kif_f (by simpa using hp) (kif_t rfl ?_)
      rw [ldI_of (n := aV (f i)) ey (by omega) ((yc 0 (by decide)).trans ((hc 0 (by decide)).trans vo.1))]
      refine kif_f (by simp) (seek_loop (x8 := x8) hv hf hq hq2 hk j (i + 1) m4 _ S3 (by omega) (C3.keep K49) ((O.stp s3).keep K49) fun x => ?_)
      rw [← hx, List.map_append, List.mem_append, rm_fst, List.mem_filter]
      simp only [ne_eq, decide_not, Bool.not_eq_eq_eq_not, Bool.not_true, decide_eq_false_iff_not, List.map_cons, List.map_nil, List.mem_singleton]
      constructor
      · rintro (h | h)
        · exact h.1
        · rw [h]; exact List.mem_map.2 ⟨_, hin, rfl⟩
      · intro h
        by_cases c : x = kV (f i)
        · exact .inr c
        · exact .inl ⟨h, c⟩
    · have hp : ¬ aV (f i) / 1024 ≠ p := fun h => hno ((hx (kV (f i))).2 ⟨⟨i, by omega, rfl⟩, h⟩)
      refine box_i fun b49 m4 y hb49 K49 ey yn yr yc => kif_f (by simpa using hp) (kif_f rfl ?_)
      exact seek_loop (x8 := x8) hv hf hq hq2 hk j (i + 1) m4 _ S (by omega) (C3.keep K49) ((O.stp s3).keep K49) hx
theorem cnt_drop (p : Int) (l : List (Key × Val)) : cnt p (l.filter fun e => decide (pg e ≠ p)) = 0 := by
  unfold cnt
  rw [List.filter_filter]
  rw [List.length_eq_zero_iff, List.filter_eq_nil_iff]
  intro e he h
  simp at h
theorem CacheDrops {v0 : AV} {x1 : Int} (h0 : Ty m (.sl [.i .u32]) v0) (h1 : (Lit.int .i64 x1).wf = true) : F4 v0 x1 m isTrue := by
  obtain ⟨ln, f, r, u⟩ := ints_ty h0
  have hx := wf_i64 h1
  unfold F4
  refine new22 fun b m2 S C K2 f2 => ?_
  have en : clN 100 = 100 := by decide
  rw [en] at C
  dsimp only [knilP, kptr, kif]
  rw [klen_r r]
  have eq : (if (40 : Int) < (ln : Int) then 40 else (ln : Int)) = ((min ln 40 : Nat) : Int) := by split <;> omega
  rw [eq]
  refine ⟨min ln 40 + 1, fill_loop (b := b) r (fun i hi => wf_u32 (u i hi)) (by omega) (by omega) (fun m3 l S3 C3 O3 hl => ?_) (min ln 40) 0 m2 [] S (by omega) C ⟨K2, f2⟩ (fun x => by simp) (by simp)⟩
  refine within22 (by decide) (by decide) (by decide) hx.1 hx.2 fun p p0 p1 => on22 C3 (drop22 C3 fun m5 S5 C5 s5 => ?_)
  rw [show ((((cnt p l : Nat) : Int) != ((cnt p l : Nat) : Int))) = false by simp]
  dsimp only
  refine drop22 C5 fun m6 S6 C6 s6 => ?_
  rw [cnt_drop]
  have ef : ((l.filter fun e => decide (pg e ≠ p)).filter fun e => decide (pg e ≠ p)) = l.filter fun e => decide (pg e ≠ p) := by rw [List.filter_filter]; simp
  rw [ef] at C6
  show F13 b 0 p m6 _
  refine on22 C6 ?_
  rw [cnt_drop]
  show ∃ N, _
  refine ⟨min ln 40 + 1, seek_loop (x8 := 0) r (fun i hi => wf_u32 (u i hi)) (by omega) (by omega) (fun m7 l7 S7 C7 O7 => ?_) (min ln 40) 0 m6 _ S6 (by omega) C6 ((O3.stp s5).stp s6) fun x => ?_⟩
  · refine flush22 C7 fun m8 S8 C8 s8 => len_spec C8 ?_
    show F12 m8 _
    exact known22 fun m9 => rfl
  · rw [← hl]
    constructor
    · intro h
      obtain ⟨e, he, rfl⟩ := List.mem_map.1 h
      have := List.mem_filter.1 he
      exact ⟨List.mem_map.2 ⟨e, this.1, rfl⟩, of_decide_eq_true this.2⟩
    · rintro ⟨h, hp⟩
      obtain ⟨e, he, rfl⟩ := List.mem_map.1 h
      exact List.mem_map.2 ⟨e, List.mem_filter.2 ⟨he, decide_eq_true hp⟩, rfl⟩
end
end Go.Proofs.Ytjeijigchdnblaa.Am
