/- Law 22's play: all rounds. Conditions: none of its own. -/
import Derived.Test.YtjeijigchdnblaaC22l
namespace Go.Proofs.Ytjeijigchdnblaa.Am
set_option linter.unusedVariables false
set_option linter.unusedSimpArgs false
set_option maxRecDepth 100000

section
variable {m0 m : Mem} {b : Nat} {n : Int} {L : List Ent} {S : Nat → Prop} {v7 v8 : AV}
theorem Pl.box (h : Pl m0 m b n L S v7 v8) {m' : Mem} (K : Keeps m m') {kb : Nat} {key : Key} (hb : m.obj kb = none) (hk : KeyB m' kb key) : Box m' S v7 v8 kb key :=
  ⟨hk, fun hs => h.C.live hs hb, fun hs => h.K.live hs hb, fun hs => h.T.live hs hb⟩
theorem play_loop {v1 : AV} {nA : Nat} (hA : AsksR m0 v1 nA) {k0 : Mem → Prop} {kr : Bool → Mem → Prop} (hk : ∀ m', Keeps m0 m' → k0 m') : ∀ (j i : Nat) (L : List Ent) (S : Nat → Prop) (v7 v8 : AV) (m : Mem), i + j = nA → i ≤ 100 → Pl m0 m b n L S v7 v8 → L16_6 v1 (.ptr b 0) n (j + 1) v7 v8 i m k0 kr
  | 0, i, L, S, v7, v8, m, e, i1, h => by
    show R16_6 _ _ _ _ _ _ _ _ _ _
    unfold R16_6
    obtain ⟨c, hR, hC⟩ := hA
    rw [klen_r hR]
    exact kif_f (by simp; omega) (hk m h.O.K)
  | j + 1, i, L, S, v7, v8, m, e, i1, h => by
    show R16_6 _ _ _ _ _ _ _ _ _ _
    unfold R16_6
    obtain ⟨c, hR, hC⟩ := id (hA.keep h.O.K)
    rw [klen_r hR]
    refine kif_t (by simp; omega) ?_
    refine kif_c _ (fun c100 => ?_) fun c100 => hk m h.O.K
    have c100 : (i : Int) < 100 := by simpa using c100
    have hi : i < nA := by omega
    obtain ⟨kd, pgv, hc⟩ := hC i hi
    rw [wrap64 (n := (i : Int) + 1) (by omega) (by omega)]
    dsimp only [knilP, kptr]
    refine kif_f rfl (most_spec h.C (kif_f (by simp) (ldG_r (esz := 5) hR (i := (i : Int)) (by omega) (by omega) fun d hd => ?_)))
    rw [Int.toNat_natCast] at hd
    refine key22 (hc.congr hd) fun c14 key hk14 hu => box_i fun b17 m18 y hb17 K17 ey yn yr yc => ?_
    have h18 := h.keep K17
    have B := h.box K17 hb17 ⟨y, ey, yn, yr, hk14.congr fun j hj => yc j hj⟩
    obtain ⟨l1, l2⟩ := h.len
    refine ⟨L.length + 1, find_loop h18.K (by omega) B.k (fun at' hf => ?_) L.length 0 (-1) (by omega) (.inl ⟨rfl, fun t _ ht => absurd ht (Nat.not_lt_zero t)⟩)⟩
    have next : ∀ L' S' v7' v8' m', Pl m0 m' b n L' S' v7' v8' → P16_53102 v1 (.ptr b 0) n v7' v8' i m' (fun x246 m247 => kr x246 m247) (fun m248 => L16_6 v1 (.ptr b 0) n (j + 1) v7' v8' ((i : Int) + 1) m248 k0 kr) := fun L' S' v7' v8' m' h' =>
      check22 h' fun m2 h2 => play_loop hA hk j (i + 1) L' S' v7' v8' m2 (by omega) (by omega) h2
    refine ix_r (k := fun b' o' => ldI .i64 m18 b' (o' + 0) _) (hR.keep K17) (i := (i : Int)) (by omega) (by omega) fun b' o' y2 _ ey2 ho hcy => ?_
    rw [ldI_of (n := kd) ey2 (by omega) (by rw [hcy 0 (by decide), Int.toNat_natCast]; exact hc.h0)]
    refine kif_c _ (fun c4 => ?_) fun c4 => ?_
    · exact mid22 h18 B hu hf hA hi (by omega) next
    · exact mid22 h18 B hu hf hA hi (by omega) next
theorem play22 {x0 : Int} {v1 : AV} {nA : Nat} (hA : AsksR m v1 nA) {k : Bool → Mem → Prop} (hk : ∀ m', Keeps m m' → k true m') : F16 x0 v1 m k := by
  unfold F16
  have e : (if 1 > (if 256 < x0 then 256 else x0) then 1 else (if 256 < x0 then 256 else x0)) = clN x0 := by unfold clN; split <;> split <;> omega
  rw [e]
  refine new22 fun b m2 S C K2 f2 => ⟨nA + 1, play_loop hA (fun m' => hk m') nA 0 [] S _ _ m2 (by omega) (by omega) ?_⟩
  exact ⟨C, IsX.nil, IsX.nil, fun e he => by simp at he, fun x hx => (own_nil hx).elim, fun x hx => (own_nil hx).elim, fun x hx => (own_nil hx).elim, ⟨K2, f2⟩, fun x hx => (own_nil hx).elim, fun x hx => (own_nil hx).elim⟩
end
end Go.Proofs.Ytjeijigchdnblaa.Am
