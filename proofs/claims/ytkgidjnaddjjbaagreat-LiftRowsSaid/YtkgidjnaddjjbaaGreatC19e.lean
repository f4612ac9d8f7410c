/- The document's machine at instructions that only reckon: what its parts ask. Conditions: an instruction is right. -/
import Derived.Test.YtkgidjnaddjjbaaGreatC19d
import Derived.Test.YtkgidjnaddjjbaaGreatK6
namespace Go.Proofs.YtkgidjnaddjjbaaGreat.Am
set_option linter.unusedVariables false
set_option linter.unusedSimpArgs false
set_option maxRecDepth 100000
set_option maxHeartbeats 1000000


/-! ### kinds that only reckon -/
def PK : List Int := [1, 2, 3, 4, 5, 6, 9, 10, 13, 14, 15, 16, 17, 18, 19, 20, 21, 23, 25, 26, 27, 28, 29, 30, 31, 47, 48, 49, 50, 51, 52, 53, 63, 64, 65, 76, 77]
theorem pk_all : ∀ n : Nat, n < 78 → 0 < n → classS (n : Int) = 1 → (n : Int) ∈ PK ∧ most (fl (n : Int)) ≤ 65535 := by decide +kernel
theorem plain_ok {x : In} (hi : 0 ≤ x.i) (hp : plainS x = true) : OK x ∧ classS x.k = 1 ∧ x.k ∈ PK ∧ x.i < 65536 := by
  unfold plainS at hp
  simp only [Bool.and_eq_true, beq_iff_eq] at hp
  have ok := (right_iff x hi).1 hp.1
  have k0 := ok.k0
  obtain ⟨n, e, hn⟩ := nat_of (p := 78) (n := x.k) (by omega) ok.k1
  have h := pk_all n hn (by omega) (by rw [← e]; exact hp.2)
  rw [← e] at h
  have := ok.i1
  exact ⟨ok, hp.2, h.1, by omega⟩

section
variable {m0 m : Mem}
/-! ### what is reckoned -/
def shV (q x n : Int) : Int := if q = 0 then IntKind.wrap .u32 (x * 2 ^ min n.toNat 32) else if q = 1 then x.fdiv (2 ^ min n.toNat 32) else sarN n.toNat x
theorem rshift_spec {q x n : Int} (n0 : 0 ≤ n) (n1 : n < 32) {k : Int → Mem → Prop} (hk : k (shV q x n) m) : F101 q x n m k := by
  unfold F101
  have e : IntKind.wrap .u64 ((IntKind.wrap .i64 ((n.tmod 32) + 32)).tmod 32) = n := by
    rw [tmod_nn n0, wrap64 (by omega) (by omega), tmod_nn (by omega), wU64 (by omega) (by omega)]; omega
  rw [e]
  unfold shV at hk
  refine kif_c _ (fun c => kif_f (by simp; omega) ⟨Keeps.self m, ?_⟩) fun c => kif_c _ (fun d => kif_f (by simp; omega) ⟨Keeps.self m, ?_⟩) fun d => sar_spec n0 n1 ⟨Keeps.self m, ?_⟩
  · rw [if_pos (by simpa using c)] at hk; exact hk
  · rw [if_neg (by simpa using c), if_pos (by simpa using d)] at hk; exact hk
  · rw [if_neg (by simpa using c), if_neg (by simpa using d)] at hk; exact hk
theorem rbit_spec {b : Bool} {k : Int → Mem → Prop} (hk : k (bitV b) m) : F102 b m k := by
  unfold F102
  unfold bitV at hk
  refine kif_c _ (fun c => ⟨Keeps.self m, ?_⟩) fun c => ⟨Keeps.self m, ?_⟩
  · rw [if_pos c] at hk; exact hk
  · rw [if_neg (by rw [c]; simp)] at hk; exact hk
theorem rsign_spec {v : Int} (h0 : 0 ≤ v) (h1 : v < 65536) {k : Int → Mem → Prop} (hk : k (sxV v) m) : F62 v 16 m k := by
  unfold F62
  have e1 : min (IntKind.wrap .u64 16).toNat 32 = 16 := by decide
  have e2 : min (IntKind.wrap .u64 (IntKind.wrap .i64 (16 - 1))).toNat 32 = 15 := by decide
  rw [e1, e2]
  have e3 : IntKind.wrap .u32 (IntKind.wrap .u32 (1 * 2 ^ 16) - 1) = 65535 := by decide
  have e4 : IntKind.wrap .u32 (1 * 2 ^ 16) = 65536 := by decide
  have a16 : bits .and .u32 v 65535 = v := by
    have := and_ones v h0 (by omega) 16 (by decide)
    have : bits .and .u32 v 65535 = v % 65536 := by simpa using this
    omega
  rw [e3, e4, a16, fdiv_w _ _ (by decide), show ((2 : Int) ^ 15) = 32768 by decide]
  unfold sxV at hk
  refine kif_f (by decide) (kif_f (by decide) (kif_f (by decide) (kif_f (by decide) (kif_c _ (fun c => kif_f (by decide) ⟨Keeps.self m, ?_⟩) fun c => ⟨Keeps.self m, ?_⟩))))
  · have c : v / 32768 = 1 := by simpa using c
    rw [if_neg (by omega)] at hk
    rw [wrap32, show (v - 65536) % 4294967296 = v + 4294901760 by omega]; exact hk
  · have c : ¬ v / 32768 = 1 := by simpa using c
    rw [if_pos (by omega)] at hk; exact hk

def doV (k a b h im : Int) : Int × Bool :=
  if k = 1 then (shV 0 b h, true) else if k = 2 then (shV 1 b h, true) else if k = 3 then (shV 2 b h, true) else if k = 4 then (shV 0 b (a % 32), true) else if k = 5 then (shV 1 b (a % 32), true) else if k = 6 then (shV 2 b (a % 32), true)
  else if k = 23 then (IntKind.wrap .u32 (a + b), true) else if k = 25 then (IntKind.wrap .u32 (a - b), true) else if k = 26 then (bits .and .u32 a b, true) else if k = 27 then (bits .or .u32 a b, true) else if k = 28 then (bits .xor .u32 a b, true)
  else if k = 29 then (bits .xor .u32 4294967295 (bits .or .u32 a b), true) else if k = 30 then (bitV (decide (wideV a true < wideV b true)), true) else if k = 31 then (bitV (decide (wideV a false < wideV b false)), true)
  else if k = 47 then (IntKind.wrap .u32 (a + sxV im), true) else if k = 48 then (bitV (decide (wideV a true < wideV (sxV im) true)), true) else if k = 49 then (bitV (decide (wideV a false < wideV (sxV im) false)), true)
  else if k = 50 then (bits .and .u32 a im, true) else if k = 51 then (bits .or .u32 a im, true) else if k = 52 then (bits .xor .u32 a im, true) else if k = 53 then (IntKind.wrap .u32 (im * 65536), true)
  else if k = 63 then ((mulV a b true).2, true) else if k = 64 then (IntKind.wrap .u32 (clzV a), true) else if k = 65 then (IntKind.wrap .u32 (clzV (bits .xor .u32 4294967295 a)), true) else (0, false)
theorem do_spec {c : Nat → AV} {x : In} {a b : Int} (hc : InC c x) (hi : 0 ≤ x.i) (hp : plainS x = true) (ha : isU a) (hb : isU b) {k : Int → Bool → Mem → Prop} (hk : k (doV x.k a b x.h x.i).1 (doV x.k a b x.h x.i).2 m) : F73 c a b m k := by
  obtain ⟨ok, cl, hm, hi16⟩ := plain_ok hi hp
  have h0 := ok.h0
  have h1 := ok.h1
  have a0 := ha.1
  have ta : IntKind.wrap .i64 (a.tmod 32) = a % 32 := by rw [tmod_nn a0, wrap64 (by omega) (by omega)]
  have e16 : bits .and .u32 x.i 65535 = x.i := by
    have := and_ones x.i hi (by omega) 16 (by decide)
    have : bits .and .u32 x.i 65535 = x.i % 65536 := by simpa using this
    omega
  unfold F73
  refine newI hc fun b2 m1 hb2 K i O => ?_
  rw [i.l5]
  refine rsign_spec hi hi16 ?_
  rw [i.l5, i.l0, e16]
  simp only [PK, List.mem_cons, List.not_mem_nil, or_false] at hm
  rcases hm with h | h | h | h | h | h | h | h | h | h | h | h | h | h | h | h | h | h | h | h | h | h | h | h | h | h | h | h | h | h | h | h | h | h | h | h | h <;> rw [h] at hk ⊢ <;> (repeat (first | refine kif_t (by decide) ?_ | refine kif_f (by decide) ?_ | unfold P73_7004 | unfold P73_11004 | unfold P73_14004 | unfold P73_17004 | unfold P73_28004 | unfold P73_31004 | unfold P73_34004))
  all_goals first
    | exact ⟨K, hk⟩
    | (simp only [Nat.zero_add, i.l0, i.l4, h, ta]
       first
       | exact rshift_spec (by omega) (by omega) ⟨K, hk⟩
       | exact rless_spec (rbit_spec ⟨K, hk⟩)
       | exact rmul_spec ⟨K, hk⟩
       | exact rclz_spec ⟨K, hk⟩
       | exact rclo_spec ⟨K, hk⟩)
def haV (k a b hi lo : Int) : Int × Int :=
  if k = 18 then mulV a b true else if k = 19 then mulV a b false else if k = 20 then ((divV a b true).2, (divV a b true).1) else if k = 21 then ((divV a b false).2, (divV a b false).1) else if k = 15 then (a, lo) else if k = 17 then (hi, a) else (hi, lo)
theorem halves_spec {c : Nat → AV} {x : In} {a b h l : Int} (hc : InC c x) (hi : 0 ≤ x.i) (hp : plainS x = true) (hb : isU b) {k : Int → Int → Bool → Mem → Prop} (hk : ∀ q, k (haV x.k a b h l).1 (haV x.k a b h l).2 q m) : F75 c a b h l m k := by
  obtain ⟨ok, cl, hm, hi16⟩ := plain_ok hi hp
  unfold F75
  refine newI hc fun b2 m1 hb2 K i O => ?_
  rw [i.l0]
  simp only [PK, List.mem_cons, List.not_mem_nil, or_false] at hm
  rcases hm with h | h | h | h | h | h | h | h | h | h | h | h | h | h | h | h | h | h | h | h | h | h | h | h | h | h | h | h | h | h | h | h | h | h | h | h | h <;> rw [h] at hk ⊢ <;> (repeat (first | refine kif_t (by decide) ?_ | refine kif_f (by decide) ?_ | unfold P75_4004 | unfold P75_8004 | unfold P75_14102))
  all_goals first
    | exact ⟨K, hk _⟩
    | (simp only [Nat.zero_add, i.l0, h]
       first
       | exact rmul_spec ⟨K, hk _⟩
       | exact rdiv_spec hb ⟨K, hk _⟩)
theorem rinto_spec {c : Nat → AV} {x : In} (hc : InC c x) (hi : 0 ≤ x.i) (hp : plainS x = true) {k : Int → Mem → Prop} (hk : k (intoL x) m) : F74 c m k := by
  obtain ⟨ok, cl, hm, hi16⟩ := plain_ok hi hp
  unfold F74
  refine newI hc fun b2 m1 hb2 K i O => ?_
  simp only [i.l0, i.l2, i.l3]
  unfold F103
  unfold intoL at hk
  simp only [PK, List.mem_cons, List.not_mem_nil, or_false] at hm
  rcases hm with h | h | h | h | h | h | h | h | h | h | h | h | h | h | h | h | h | h | h | h | h | h | h | h | h | h | h | h | h | h | h | h | h | h | h | h | h <;> rw [h] at hk ⊢ <;> (repeat (first | refine kif_t (by decide) ?_ | refine kif_f (by decide) ?_ | refine ⟨Keeps.self _, ?_⟩)) <;> (first | exact ⟨K, hk⟩ | (simp only [i.l0, i.l2, i.l3, h]; repeat (first | refine kif_t (by decide) ?_ | refine kif_f (by decide) ?_)) <;> exact ⟨K, hk⟩)
theorem taken_spec {c : Nat → AV} {x : In} {a b : Int} (hc : InC c x) (hi : 0 ≤ x.i) (hp : plainS x = true) {k : Bool → Mem → Prop} (hk : k false m) : F76 c a b m k := by
  obtain ⟨ok, cl, hm, hi16⟩ := plain_ok hi hp
  unfold F76
  refine newI hc fun b2 m1 hb2 K i O => ?_
  rw [i.l0]
  generalize decide (a ≥ 2147483648) = q
  simp only [PK, List.mem_cons, List.not_mem_nil, or_false] at hm
  rcases hm with h | h | h | h | h | h | h | h | h | h | h | h | h | h | h | h | h | h | h | h | h | h | h | h | h | h | h | h | h | h | h | h | h | h | h | h | h <;> rw [h] <;> (repeat (first | refine kif_t (by decide) ?_ | refine kif_f (by decide) ?_ | unfold P76_7004 | unfold P76_14004 | unfold P76_17004)) <;> exact ⟨K, hk⟩
theorem links_spec {c : Nat → AV} {x : In} (hc : InC c x) (hi : 0 ≤ x.i) (hp : plainS x = true) {k : Int → Bool → Mem → Prop} (hk : k 0 false m) : F78 c m k := by
  obtain ⟨ok, cl, hm, hi16⟩ := plain_ok hi hp
  unfold F78
  refine newI hc fun b2 m1 hb2 K i O => ?_
  rw [i.l0]
  simp only [PK, List.mem_cons, List.not_mem_nil, or_false] at hm
  rcases hm with h | h | h | h | h | h | h | h | h | h | h | h | h | h | h | h | h | h | h | h | h | h | h | h | h | h | h | h | h | h | h | h | h | h | h | h | h <;> rw [h] <;> (repeat (first | refine kif_t (by decide) ?_ | refine kif_f (by decide) ?_ | unfold P78_5004)) <;> exact ⟨K, hk⟩
theorem traps_spec {c : Nat → AV} {x : In} {a b : Int} (hc : InC c x) (hi : 0 ≤ x.i) (hp : plainS x = true) {k : Bool → Mem → Prop} (hk : k false m) : F58 c a b m k := by
  obtain ⟨ok, cl, hm, hi16⟩ := plain_ok hi hp
  unfold F58
  refine newI hc fun b2 m1 hb2 K i O => ?_
  rw [i.l0]
  simp only [PK, List.mem_cons, List.not_mem_nil, or_false] at hm
  rcases hm with h | h | h | h | h | h | h | h | h | h | h | h | h | h | h | h | h | h | h | h | h | h | h | h | h | h | h | h | h | h | h | h | h | h | h | h | h <;> rw [h] <;> (repeat (first | refine kif_t (by decide) ?_ | refine kif_f (by decide) ?_ | unfold P58_4004)) <;> exact ⟨K, hk⟩
end
end Go.Proofs.YtkgidjnaddjjbaaGreat.Am
