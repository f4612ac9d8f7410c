/- Law 22's CacheRoom. Conditions: none of its own. -/
import Derived.Test.YtjeijigchdnblaaC22d
namespace Go.Proofs.Ytjeijigchdnblaa.Am
set_option linter.unusedVariables false
set_option linter.unusedSimpArgs false
set_option maxRecDepth 100000

/-- a part of memory that is one's own, since m0 -/
structure Own (m0 m : Mem) (S : Nat → Prop) : Prop where
  K : Keeps m0 m
  f : ∀ x, S x → m0.obj x = none
theorem Own.stp {m0 m m' : Mem} {S S' : Nat → Prop} (h : Own m0 m S) (s : Stp S S' m m') : Own m0 m' S' := ⟨Fr.keeps h.K s.fr h.f, fun x hx => (s.ft x hx).elim (h.f x) (newK_none h.K)⟩
theorem Own.keep {m0 m m' : Mem} {S : Nat → Prop} (h : Own m0 m S) (K : Keeps m m') : Own m0 m' S := ⟨h.K.trans K, h.f⟩
/-- a box outside -/
structure OutB (m : Mem) (S : Nat → Prop) (b : Nat) (x : Key) : Prop where
  k : KeyB m b x
  o : ¬ S b
theorem OutB.stp {m m' : Mem} {S S' : Nat → Prop} {b : Nat} {x : Key} (h : OutB m S b x) (s : Stp S S' m m') : OutB m' S' b x := ⟨h.k.fr s.fr h.o, fun hx => (s.ft b hx).elim h.o h.k.live⟩
theorem OutB.keep {m m' : Mem} {S : Nat → Prop} {b : Nat} {x : Key} (h : OutB m S b x) (K : Keeps m m') : OutB m' S b x := ⟨h.k.keep K, h.o⟩

section
variable {m : Mem} {b : Nat} {n : Int} {l : List (Key × Val)} {S : Nat → Prop}
theorem known22 {k : Bool → Mem → Prop} (hk : ∀ m', k true m') : F12 m k := by
  unfold F12
  refine new22 fun b m2 S2 C2 K2 f2 => ?_
  have en : clN 1 = 1 := by decide
  rw [en] at C2
  dsimp only [knilP, kptr, kif]
  refine evict_spec C2 (fun _ => ?_) fun e l2 e1 => by cases e1
  dsimp only
  refine newK_i fun b9 m8 hb9 K8 e9 O8 => newK_i fun b11 m10 hb11 K10 e11 O10 => ?_
  have C10 := (C2.keep K8).keep K10
  have n9 : ¬ S2 b9 := fun h => C2.live h hb9
  have n11 : ¬ S2 b11 := fun h => (C2.keep K8).live h hb11
  have n911 : b9 ≠ b11 := fun e => by rw [← e, e9] at hb11; cases hb11
  have e9' := (K10 b9 (by rw [e9]; simp)).trans e9
  refine stG_i e9' rfl (show 0 + 3 ≤ 3 by omega) fun m12 e12 O12 => stG_i ((O12 b11 n911.symm).trans e11) rfl (show 0 + 3 ≤ 3 by omega) fun m13 e13 O13 => ?_
  have F : Fr (fun x => x = b9 ∨ x = b11) m10 m13 := fun x hx hs => by rw [O13 x (fun e => hs (.inr e)), O12 x (fun e => hs (.inl e))]
  have K13 : Keeps m2 m13 := fun x hx => by
    have h8 : m8.obj x ≠ none := by rw [K8 x hx]; exact hx
    rw [F x (by rw [K10 x h8]; exact h8) (fun e => by
      rcases e with rfl | rfl
      · exact hx hb9
      · exact h8 hb11), K10 x h8, K8 x hx]
  have C13 := C2.keep K13
  have B9 : OutB m13 S2 b9 ⟨4, 0, 0⟩ := ⟨⟨_, (O13 b9 n911).trans e12, rfl, rfl, rfl, rfl, rfl⟩, n9⟩
  have B11 : OutB m13 S2 b11 ⟨8, 0, 0⟩ := ⟨⟨_, e13, rfl, rfl, rfl, rfl, rfl⟩, n11⟩
  refine B9.k.lg fun c14 h14 => newK_i fun b16 m15 hb16 K15 e16 O15 => ?_
  refine put22 (C13.keep K15) h14 ⟨rfl, (⟨by decide, by decide⟩ : isU 4)⟩ fun m19 S19 C19 s19 => ?_
  have B9 := (B9.keep K15).stp s19
  have B11 := (B11.keep K15).stp s19
  refine B11.k.lg fun c20 h20 => put22 C19 h20 ⟨rfl, by decide, by decide⟩ fun m23 S23 C23 s23 => ?_
  have B9 := B9.stp s23
  have B11 := B11.stp s23
  refine B9.k.lg fun c24 h24 => get22 C23 h24 (fun v c m' S' hin => ?_) fun hno c27 m29 C29 s29 => ?_
  · exfalso
    simp [putL, rm] at hin
  have B11 := B11.stp s29
  refine box_i fun b31 m32 y hb31 K32 ey yn yr yc => ?_
  have B11 := B11.keep K32
  refine B11.k.lg fun c33 h33 => get22 (C29.keep K32) h33 (fun v c m38 S38 hin hc C38 s38 => ?_) fun hno => ?_
  · refine box_i fun b40 m41 y hb40 K41 ey yn yr yc => ?_
    have C41 := C38.keep K41
    show F10 b 0 m41 _
    refine len_spec C41 ?_
    split
    · exact most_spec C41 (hk _)
    · rename_i h; simp [putL, rm] at h
  · exfalso
    exact hno (by simp [putL])
theorem within22 {n lo hi : Int} (h0 : lo < hi) (h1 : hi < 1000000) (h2 : -1000000 < lo) (n0 : -9223372036854775808 ≤ n) (n1 : n < 9223372036854775808) {k : Int → Mem → Prop} (hk : ∀ v, lo ≤ v → v ≤ hi → k v m) : F7 n lo hi m k := by
  unfold F7
  have key : P7_3102 n lo hi m (fun x1 m2 => (Keeps m m2 ∧ k x1 m)) := by
    unfold P7_3102
    rw [wrap64 (n := hi - lo) (by omega) (by omega), wrap64 (n := hi - lo + 1) (by omega) (by omega)]
    have ht : -(hi - lo + 1) < n.tmod (hi - lo + 1) ∧ n.tmod (hi - lo + 1) < hi - lo + 1 := by
      by_cases c : 0 ≤ n
      · rw [tmod_nn c]
        have a := Int.emod_nonneg n (show hi - lo + 1 ≠ 0 by omega)
        have b := Int.emod_lt_of_pos n (show 0 < hi - lo + 1 by omega)
        omega
      · have e : n.tmod (hi - lo + 1) = -((-n).tmod (hi - lo + 1)) := by rw [Int.neg_tmod]; omega
        rw [e, tmod_nn (by omega)]
        have a := Int.emod_nonneg (-n) (show hi - lo + 1 ≠ 0 by omega)
        have b := Int.emod_lt_of_pos (-n) (show 0 < hi - lo + 1 by omega)
        omega
    generalize n.tmod (hi - lo + 1) = r at ht
    refine kif_f (by simp; omega) (kif_c _ (fun c => ?_) fun c => ?_)
    · have c : r < 0 := by simpa using c
      rw [wrap64 (n := r + hi) (by omega) (by omega), wrap64 (n := r + hi - lo) (by omega) (by omega), wrap64 (n := r + hi - lo + 1) (by omega) (by omega), wrap64 (by omega) (by omega)]
      exact ⟨Keeps.self m, hk _ (by omega) (by omega)⟩
    · have c : ¬ r < 0 := by simpa using c
      rw [wrap64 (by omega) (by omega)]
      exact ⟨Keeps.self m, hk _ (by omega) (by omega)⟩
  refine kif_c _ (fun c => kif_c _ (fun c1 => ⟨Keeps.self m, hk _ (by simpa using c) (by simpa using c1)⟩) fun _ => key) fun _ => key
theorem ty_i {k : IntKind} {v : AV} (h : Ty m (.i k) v) : ∃ n, v = .flat (.int k n) ∧ (Lit.int k n).wf = true := by
  cases h with
  | i k n hn => exact ⟨n, rfl, hn⟩
theorem ints_ty {k : IntKind} {v : AV} (h : Ty m (.sl [.i k]) v) : ∃ (n : Nat) (f : Nat → Int), IsR m 1 v n (cK k f) ∧ ∀ i, i < n → (Lit.int k (f i)).wf = true := by
  cases h with
  | nil ls a => exact ⟨0, fun _ => 0, .nil a _, fun i hi => by omega⟩
  | sl ls b len cap x h1 h2 h3 h4 h5 h6 =>
    simp only [List.length_singleton, Nat.mul_one] at h5 h6
    have hx : ∀ j, j < cap → ∃ n, x.c j = .flat (.int k n) ∧ (Lit.int k n).wf = true := fun j hj => by
      have := h6 j hj 0 (.i k) rfl
      rw [Nat.add_zero] at this
      exact ty_i this
    refine ⟨len, fun j => match x.c j with | .flat (.int _ n) => n | _ => 0, .sl b 0 len (.ex cap) x _ h4 (by omega) (fun i hi => ?_), fun i hi => ?_⟩
    · obtain ⟨n, e, _⟩ := hx i (by omega)
      unfold cK
      dsimp only
      rw [Nat.zero_add, e]
    · obtain ⟨n, e, hn⟩ := hx i (by omega)
      dsimp only
      rw [e]; exact hn

/-! ### CacheRoom -/
def fst22 : Key := ⟨4, 0, 0⟩
/-- at a round's head -/
def RoomL (n : Int) (l : List (Key × Val)) : Prop := (n > 1 → ∃ l0 v, l = l0 ++ [(fst22, v)]) ∧ (n ≤ 1 → l.length = 1)
theorem room_put {n : Int} {l : List (Key × Val)} (h : RoomL n l) {key : Key} (hne : key ≠ fst22) {v : Val} : (n > 1 → fst22 ∈ (putL n l key v).map Prod.fst) ∧ (n ≤ 1 → fst22 ∉ (putL n l key v).map Prod.fst ∧ (putL n l key v).length = 1) := by
  refine ⟨fun hn => ?_, fun hn => ?_⟩
  · obtain ⟨l0, w, rfl⟩ := h.1 hn
    unfold putL
    rw [List.map_append]
    refine List.mem_append.2 (.inl ?_)
    rw [rm_fst]
    refine List.mem_filter.2 ⟨?_, by simpa using Ne.symm hne⟩
    split
    · simp
    split
    · rename_i c1 c2
      simp only [List.length_append, List.length_singleton] at c2
      cases l0 with
      | nil => simp at c2; omega
      | cons x l0 => simp
    · simp
  · have hl := h.2 hn
    obtain ⟨e, rfl⟩ := List.length_eq_one_iff.1 hl
    unfold putL
    have : rm (if key ∈ [e].map Prod.fst then [e] else if (([e].length : Nat) : Int) ≥ n then [e].tail else [e]) key = [] := by
      split
      · rename_i c
        have c : key = e.1 := by simpa using c
        unfold rm; simp [c]
      · rw [if_pos (by simp; omega)]; rfl
    rw [this]
    simpa using Ne.symm hne
theorem room_loop {v1 : AV} {b7 : Nat} {m0 : Mem} {ln : Nat} {f : Nat → Int} (hv : IsR m0 1 v1 ln (cK .u32 f)) (hf : ∀ i, i < ln → isU (f i)) {k0 : Mem → Prop} {kr : Bool → Mem → Prop} (hk : ∀ m, k0 m) :
    ∀ (j i : Nat) (m : Mem) (l : List (Key × Val)) (S : Nat → Prop), i + j = 50 → Ca m b n l S → Own m0 m S → OutB m S b7 fst22 → RoomL n l → L3_8 v1 n (.ptr b 0) b7 0 (j + 1) i m k0 kr
  | j, i, m, l, S, e, C, O, B, R => by
    show R3_8 _ _ _ _ _ _ _ _ _ _
    unfold R3_8
    rw [klen_r hv]
    refine kif_c _ (fun c1 => kif_c _ (fun c2 => ?_) fun c2 => hk m) fun c1 => hk m
    have c1 : i < ln := by simpa using c1
    have c2 : i < 50 := by have : (i : Int) < 50 := by simpa using c2
                           omega
    obtain ⟨j, rfl⟩ : ∃ j', j = j' + 1 := ⟨j - 1, by omega⟩
    have hu := hf i c1
    have eA : IntKind.wrap .u32 (8 + (IntKind.wrap .u32 (((f i).tmod 100) * 4))) = 8 + f i % 100 * 4 := by
      rw [tmod_nn hu.1, wrap32, wrap32]; omega
    rw [wrap64 (n := (i : Int) + 1) (by omega) (by omega)]
    refine ldK_r (k := fun _ _ x => ksl _ _) (hv.keep O.K) i c1 fun _ _ _ => ldK_r (k := fun _ _ x => kptr _ _) (hv.keep O.K) i c1 fun _ _ _ => ?_
    rw [eA]
    dsimp only [kptr]
    have hne : (⟨8 + f i % 100 * 4, 0, 0⟩ : Key) ≠ fst22 := fun h => by
      have := congrArg Key.a h
      unfold fst22 at this
      dsimp only at this
      have := hu.1
      omega
    refine put22 C (key := ⟨8 + f i % 100 * 4, 0, 0⟩) ⟨rfl, rfl, rfl⟩ ⟨rfl, (⟨by have := hu.1; omega, by have := hu.1; omega⟩ : isU (8 + f i % 100 * 4))⟩ fun m2 S2 C2 s2 => ?_
    have O2 := O.stp s2
    have B2 := B.stp s2
    obtain ⟨r1, r2⟩ := room_put R hne (v := sub (upd (lget [(.flat (.int .u32 0)), (.flat (.slice none 0 0)), (.flat (.slice none 0 0)), (.flat (.slice none 0 0))]) 0 (.flat (.int .u32 (8 + f i % 100 * 4)))) 0 4)
    refine len_spec C2 (kif_f (by have := C2.ln; simp; omega) ?_)
    refine B2.k.lg fun c31 h31 => get22 C2 h31 (fun v c m3 S3 hin hc C3 s3 => ?_) fun hno c m3 C3 s3 => ?_
    · refine box_i fun b38 m4 y hb38 K38 ey yn yr yc => kif_f ?_ (room_loop hv hf hk j (i + 1) m4 _ S3 (by omega) (C3.keep K38) ((O2.stp s3).keep K38) ((B2.stp s3).keep K38) ⟨fun hn => ⟨_, _, rfl⟩, fun hn => ?_⟩)
      · have hn : n > 1 := by
          by_cases c : n > 1
          · exact c
          · exact absurd (List.mem_map.2 ⟨_, hin, rfl⟩) (r2 (by omega)).1
        simp [hn]
      · exact absurd (List.mem_map.2 ⟨_, hin, rfl⟩) (r2 hn).1
    · refine box_i fun b38 m4 y hb38 K38 ey yn yr yc => kif_f ?_ (room_loop hv hf hk j (i + 1) m4 _ S2 (by omega) (C3.keep K38) ((O2.stp s3).keep K38) ((B2.stp s3).keep K38) ⟨fun hn => ?_, fun hn => (r2 hn).2⟩)
      · have hn : ¬ n > 1 := fun c => hno (r1 c)
        simp [hn]
      · exact absurd (r1 hn) hno
theorem CacheRoom {x0 : Int} {v1 : AV} (h0 : (Lit.int .i64 x0).wf = true) (h1 : Ty m (.sl [.i .u32]) v1) : F3 x0 v1 m isTrue := by
  obtain ⟨ln, f, r, u⟩ := ints_ty h1
  have hx := wf_i64 h0
  unfold F3
  refine within22 (by decide) (by decide) (by decide) hx.1 hx.2 fun x1 a1 a2 => new22 fun b m2 S C K2 f2 => ?_
  have en : clN x1 = x1 := by unfold clN; split <;> (try split) <;> omega
  rw [en] at C
  dsimp only [knilP, kptr, kif]
  refine box_i fun b7 m8 y hb7 K8 ey yn yr yc => ?_
  have hkb : KeyB m8 b7 fst22 := ⟨y, ey, yn, yr, (yc 0 (by decide)).trans rfl, (yc 1 (by decide)).trans rfl, (yc 2 (by decide)).trans rfl⟩
  have B : OutB m8 S b7 fst22 := ⟨hkb, fun h => C.live h hb7⟩
  have O : Own m m8 S := ⟨K2.trans K8, f2⟩
  refine B.k.lg fun c9 h9 => put22 (C.keep K8) h9 ⟨rfl, (⟨by decide, by decide⟩ : isU 4)⟩ fun m12 S12 C12 s12 => ?_
  refine ⟨51, room_loop r (fun i hi => wf_u32 (u i hi)) (fun m' => known22 fun m'' => rfl) 50 0 m12 _ S12 (by omega) C12 (O.stp s12) (B.stp s12) ⟨fun _ => ⟨_, _, rfl⟩, fun _ => ?_⟩⟩
  simp [putL, rm]
end
end Go.Proofs.Ytjeijigchdnblaa.Am
