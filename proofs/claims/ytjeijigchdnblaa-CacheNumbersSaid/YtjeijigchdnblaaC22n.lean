/- Law 22's CachePlays, CacheNumbers. Conditions: none of its own. -/
import Derived.Test.YtjeijigchdnblaaC22m
namespace Go.Proofs.Ytjeijigchdnblaa.Am
set_option linter.unusedVariables false
set_option linter.unusedSimpArgs false
set_option maxRecDepth 100000

section
variable {m0 m : Mem} {b : Nat}
def shA : List Lf := [.i .i64, .i .i64, .i .i64, .i .i64, .i .u32]
theorem asks_ty {v : AV} (h : Ty m (.sl shA) v) : ∃ n, AsksR m v n := by
  cases h with
  | nil ls a => exact ⟨0, fun _ => .junk, .nil a _, fun i hi => by omega⟩
  | sl ls b len cap x h1 h2 h3 h4 h5 h6 =>
    have e5 : shA.length = 5 := rfl
    rw [e5] at h5
    refine ⟨len, x.c, .sl b 0 len (.ex cap) x _ h4 (by omega) (fun i hi => by rw [Nat.zero_add]), fun i hi => ?_⟩
    have hx : ∀ t l, shA[t]? = some l → Ty m l (x.c (i * 5 + t)) := fun t l ht => by
      have := h6 i (by omega) t l ht
      rw [e5] at this
      exact this
    obtain ⟨n0, e0, w0⟩ := ty_i (hx 0 _ rfl)
    obtain ⟨n1, e1, w1⟩ := ty_i (hx 1 _ rfl)
    obtain ⟨n2, e2, w2⟩ := ty_i (hx 2 _ rfl)
    obtain ⟨n3, e3, w3⟩ := ty_i (hx 3 _ rfl)
    obtain ⟨n4, e4, w4⟩ := ty_i (hx 4 _ rfl)
    exact ⟨n0, n3, e0, ⟨n1, e1, wf_i64 w1⟩, ⟨n2, e2, wf_i64 w2⟩, ⟨e3, wf_i64 w3⟩, ⟨n4, e4, wf_u32 w4⟩⟩
theorem CachePlays {x0 : Int} {v1 : AV} (h0 : (Lit.int .i64 x0).wf = true) (h1 : Ty m (.sl [.i .i64, .i .i64, .i .i64, .i .i64, .i .u32]) v1) : F6 x0 v1 m isTrue := by
  obtain ⟨n, hA⟩ := asks_ty h1
  have hx := wf_i64 h0
  unfold F6
  refine within22 (by decide) (by decide) (by decide) hx.1 hx.2 fun p p0 p1 => play22 hA fun m4 K4 => ?_
  exact kif_t rfl (known22 fun m' => rfl)
def AskX (c : Nat → AV) (x : Int × Int) : Prop := AskC c x.1 x.2
theorem askRC : RC AskX 5 := fun c d x e h => AskC.congr h e
theorem asks_x {v : AV} {xs : List (Int × Int)} (h : IsX AskX m 5 v xs) : AsksR m v xs.length := by
  obtain ⟨c, hL, hC⟩ := h
  exact ⟨c, hL.r, fun i hi => ⟨_, _, hC i hi⟩⟩
theorem fill22 {k0 : AV → Mem → Prop} (hk : ∀ v m' n, AsksR m' v n → k0 v m') : ∀ (j i : Nat) (v : AV) (m : Mem) (xs : List (Int × Int)), i + j = 98 → xs.length = i → IsX AskX m 5 v xs → L5_3 (j + 1) v i m k0
  | 0, i, v, m, xs, e, hl, h => by
    show R5_3 _ _ _ _ _
    unfold R5_3
    exact kif_f (by simp; omega) (hk v m _ (asks_x h))
  | j + 1, i, v, m, xs, e, hl, h => by
    show R5_3 _ _ _ _ _
    unfold R5_3
    rw [wrap64 (n := (i : Int) + 1) (by omega) (by omega), tmod_nn (show (0 : Int) ≤ i by omega), tmod_nn (show (0 : Int) ≤ i by omega), tmod_nn (show (0 : Int) ≤ i by omega)]
    refine kif_t (by simp; omega) (newK_i fun b2 m1 hb2 K1 e1 O1 => kif_t (by simp; omega) ?_)
    obtain ⟨t, et, ht⟩ : ∃ t : Nat, (i : Int) % 11 = t ∧ t < 11 := ⟨i % 11, by omega, by omega⟩
    rw [et, Int.toNat_natCast]
    have hkd : ∀ t : Nat, t < 11 → ∃ kd : Int, (upd (upd (upd (upd (upd (upd (upd (upd (upd (upd (upd (Z11) 0 (.flat (.int .i64 0))) 1 (.flat (.int .i64 1))) 2 (.flat (.int .i64 2))) 3 (.flat (.int .i64 4))) 4 (.flat (.int .i64 3))) 5 (.flat (.int .i64 6))) 6 (.flat (.int .i64 0))) 7 (.flat (.int .i64 5))) 8 (.flat (.int .i64 7))) 9 (.flat (.int .i64 0))) 10 (.flat (.int .i64 8))) (0 + t * 1) = .flat (.int .i64 kd) := fun t ht => by
      have : t = 0 ∨ t = 1 ∨ t = 2 ∨ t = 3 ∨ t = 4 ∨ t = 5 ∨ t = 6 ∨ t = 7 ∨ t = 8 ∨ t = 9 ∨ t = 10 := by omega
      rcases this with h | h | h | h | h | h | h | h | h | h | h <;> (subst h; exact ⟨_, rfl⟩)
    obtain ⟨kd, ek⟩ := hkd t ht
    rw [ldI_of e1 (show 0 + t * 1 < 11 by omega) ek]
    have hq : AskX (upd (upd (upd (upd (upd (lget [(.flat (.int .i64 0)), (.flat (.int .i64 0)), (.flat (.int .i64 0)), (.flat (.int .i64 0)), (.flat (.int .u32 0))]) 0 (.flat (.int .i64 kd))) 1 (.flat (.int .i64 ((i : Int) % 2)))) 2 (.flat (.int .i64 ((IntKind.wrap .i64 ((i : Int).tdiv 2)).tmod 2)))) 3 (.flat (.int .i64 (IntKind.wrap .i64 ((i : Int) % 8 - 1))))) 4 (.flat (.int .u32 (IntKind.wrap .u32 (IntKind.wrap .i64 ((i : Int) * 5)))))) (kd, IntKind.wrap .i64 ((i : Int) % 8 - 1)) := by
      refine ⟨rfl, ⟨_, rfl, by omega, by omega⟩, ⟨_, rfl, ?_⟩, ⟨rfl, ?_⟩, ⟨_, rfl, ?_⟩⟩
      · rw [Int.tdiv_eq_ediv_of_nonneg (by omega), wrap64 (by omega) (by omega), tmod_nn (by omega)]; omega
      · dsimp only; rw [wrap64 (by omega) (by omega)]; omega
      · rw [wrap32]; unfold isU; omega
    refine add_x askRC (h.keep K1) (by omega) (by decide) rfl (x := (kd, IntKind.wrap .i64 ((i : Int) % 8 - 1))) (hq.congr fun j hj => ?_) fun v6 m7 g7 F7 o7 => fill22 hk j (i + 1) v6 m7 _ (by omega) (by rw [List.length_append]; simp only [List.length_singleton]; omega) g7
    unfold splice; rw [if_pos (by omega)]; rfl
theorem sizes22 {v : AV} {n : Nat} {k2 : Mem → Prop} {kr : Bool → Mem → Prop} (hk : ∀ m', k2 m') : ∀ (j : Nat) (i : Int) (m : Mem), i + j = 12 → -1 ≤ i → AsksR m v n → L5_7 v (j + 1) i m k2 kr
  | 0, i, m, e, h0, h => by
    show R5_7 _ _ _ _ _ _
    unfold R5_7
    exact kif_f (by simp; omega) (hk m)
  | j + 1, i, m, e, h0, h => by
    show R5_7 _ _ _ _ _ _
    unfold R5_7
    rw [wrap64 (n := i + 1) (by omega) (by omega)]
    refine kif_t (by simp; omega) (play22 h fun m4 K4 => kif_f rfl (sizes22 hk j (i + 1) m4 (by omega) (by omega) (h.keep K4)))
theorem CacheNumbers : F5 m isTrue := by
  unfold F5
  refine ⟨99, fill22 (fun v m' n h => ⟨14, sizes22 (fun m2 => ?_) 13 (-1) m' (by omega) (by omega) h⟩) 98 0 _ m [] (by omega) rfl IsX.nil⟩
  refine new22 fun b m3 S C K f => ?_
  have en : clN 9999 = 256 := by decide
  rw [en] at C
  dsimp only [knilP, kptr, kif]
  refine most_spec C ?_
  exact known22 fun m9 => rfl
end
end Go.Proofs.Ytjeijigchdnblaa.Am
