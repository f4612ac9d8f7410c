/- What the top laws' functions share: rows of instructions in blocks, a machine with a program, its State in a box. Conditions: instructions that are right. The program of products: its rounds, its path. Conditions: words. Memory of a machine written and read from outside; programs put into it. Conditions: pages that hold no code that is kept. A page that is mapped anew: the program's path, the law's function. Conditions: what is handed in is plain data. -/
import Derived.Test.YtkiggdgphbkneaaGreatTopPagesX28
namespace Go.Proofs.YtkiggdgphbkneaaGreat.Am
set_option linter.unusedVariables false
set_option linter.unusedSimpArgs false
set_option maxRecDepth 100000
def spl : (Nat → AV) → List (Nat → AV) → Nat → (Nat → AV)
 | z, [], _ => z
 | z, c :: cs, i => spl (splice z (i * 6) 6 c) cs (i + 1)
theorem spl_lo : ∀ (cs : List (Nat → AV)) (z : Nat → AV) (i j : Nat), j < i * 6 → spl z cs i j = z j
 | [], z, i, j, h => rfl
 | c :: cs, z, i, j, h => by
  show spl (splice z (i * 6) 6 c) cs (i + 1) j = _
  rw [spl_lo cs _ (i + 1) j (by omega)]
  unfold splice; rw [if_neg (by omega)]
theorem spl_in : ∀ (cs : List (Nat → AV)) (l : List In) (z : Nat → AV) (i : Nat), All2 InC cs l → ∀ q, q < l.length → InC (fun j => spl z cs i ((i + q) * 6 + j)) (atI l q)
 | [], [], z, i, h, q, hq => by simp at hq
 | c :: cs, x :: l, z, i, h, 0, hq => by
  refine InC.congr (c := c) h.1 fun j hj => ?_
  show spl (splice z (i * 6) 6 c) cs (i + 1) ((i + 0) * 6 + j) = _
  rw [spl_lo cs _ (i + 1) _ (by omega)]
  unfold splice; rw [if_pos (by omega)]; congr 1; omega
 | c :: cs, x :: l, z, i, h, q + 1, hq => by
  have := spl_in cs l (splice z (i * 6) 6 c) (i + 1) h.2 q (by simpa using hq)
  have e : i + 1 + q = i + (q + 1) := by omega
  rw [e] at this
  exact this
 | [], _ :: _, _, _, h, _, _ => h.elim
 | _ :: _, [], _, _, h, _, _ => h.elim
section
variable {m : Mem}
theorem row_in {b : Nat} {z : Nat → AV} {t : TypeId} (cs : List (Nat → AV)) (l : List In) (e : m.obj b = some ⟨l.length * 6, spl z cs 0, t, false⟩) (h : All2 InC cs l) : IsIn m (.sl b 0 l.length (.ex l.length)) l :=
 IsIn.row e rfl rfl fun i hi => by
  have := spl_in cs l z 0 h i hi
  rw [Nat.zero_add] at this
  exact this
def upl : (Nat → AV) → List AV → Nat → (Nat → AV)
 | z, [], _ => z
 | z, v :: vs, i => upl (upd z i v) vs (i + 1)
theorem upl_lo : ∀ (vs : List AV) (z : Nat → AV) (i j : Nat), j < i → upl z vs i j = z j
 | [], z, i, j, h => rfl
 | v :: vs, z, i, j, h => by
  show upl (upd z i v) vs (i + 1) j = _
  rw [upl_lo vs _ (i + 1) j (by omega)]
  unfold upd; rw [if_neg (by omega)]
theorem upl_at : ∀ (vs : List AV) (z : Nat → AV) (i q : Nat), q < vs.length → upl z vs i (i + q) = lget vs q
 | [], z, i, q, h => by simp at h
 | v :: vs, z, i, 0, h => by
  show upl (upd z i v) vs (i + 1) (i + 0) = v
  rw [upl_lo vs _ (i + 1) _ (by omega)]
  unfold upd; rw [if_pos (Nat.add_zero i)]
 | v :: vs, z, i, q + 1, h => by
  show upl (upd z i v) vs (i + 1) (i + (q + 1)) = lget vs q
  rw [← upl_at vs (upd z i v) (i + 1) q (by simpa using h)]
  congr 1; omega
theorem all2_at {α β : Type} {R : α → β → Prop} {d : α} : ∀ {xs : List α} {ys : List β}, All2 R xs ys → ∀ i, (h : i < ys.length) → R (xs.getD i d) ys[i]
 | _ :: _, _ :: _, h, 0, hi => h.1
 | _ :: _, _ :: _, h, i + 1, hi => all2_at h.2 i (by simpa using hi)
 | [], [], _, i, hi => by simp at hi
theorem lget_getD : ∀ (vs : List AV) (i : Nat), i < vs.length → lget vs i = vs.getD i .junk
 | v :: vs, 0, _ => rfl
 | v :: vs, i + 1, h => by
  show lget vs i = _
  rw [lget_getD vs i (by simpa using h)]; rfl
 | [], i, h => by simp at h
theorem join_of {b : Nat} {z : Nat → AV} {t : TypeId} {ro : Bool} (vs : List AV) (Ls : List (List In)) (e : m.obj b = some ⟨Ls.length, upl z vs 0, t, ro⟩) (h : All2 (IsIn m) vs Ls) (hl : Ls.length ≤ 20) (hl2 : (Ls.all fun l => Nat.ble l.length 100) = true) {k : AV → Mem → Prop} (hk : ∀ v m', IsIn m' v Ls.flatten → Keeps m m' → (∀ x, own v x → m.obj x = none) → k v m') : F17 (.sl b 0 Ls.length (.ex Ls.length)) m k := by
 have hn := h.length
 refine join_spec ⟨⟨_, e, rfl, fun i hi => ?_⟩, hn, fun i hi => ?_⟩ hl (fun l hm => Nat.le_of_ble_eq_true (List.all_eq_true.1 hl2 l hm)) hk
 ·have := upl_at vs z 0 i (by omega)
  rw [Nat.zero_add] at this; exact this
 ·rw [lget_getD vs i (by omega)]
  exact all2_at h i hi
def D0 : Dv := { nd := (0 + 63) / 64 * 64, dk := imgB 0 fun _ => 0 }
theorem imgP_nil (l : List In) : imgB 4096 (imgS (l.length * 4) (byOf l) 0 fun _ => 0) = imgP l [] := by
 funext j
 unfold imgP imgB imgS
 split
 ·split
  ·rfl
  ·rw [if_neg (by omega), if_neg (by simp)]
 ·rfl
variable {m0 : Mem} {C : Nat → Bool} {e : Nat} {q : BB} {c : Nat} {p : Nat} {D : Dv} {n : Int} {S : St} {B : Nat → Int}
theorem AtF.keep {m' : Mem} (h : AtF m0 C e q c p D n S B m) (K : Keeps m m') : AtF m0 C e q c p D n S B m' := by
 obtain ⟨cap, l, Sc, made, used, h⟩ := h
 exact ⟨cap, l, Sc, made, used, h.keep K⟩
theorem nilP_ptr (b o : Nat) (K : Bool → Prop) : knilP (.ptr b o) K = K false := rfl
theorem AtF.stateb (h : AtF m0 C e q c p D n S B m) {z : Nat → AV} {t : TypeId} {k : Nat → Mem → Prop} (hk : ∀ b m', Keeps m m' → m.obj b = none → IsSt m' b S.bare → k b m') : F26 e 0 m fun cc m2 => newK m2 ⟨73, z, t, false⟩ fun b m3 => stG 73 m3 b 0 cc fun m4 => k b m4 :=
 h.state fun cc hcc => newS (S := S.bare) hcc fun b m' hb K O h' => hk b m' K hb h'
end
theorem rti_r {k t s v : Int} (hk : k = 47 ∨ k = 49 ∨ k = 50 ∨ k = 51) (t0 : 0 ≤ t) (t1 : t < 32) (s0 : 0 ≤ s) (s1 : s < 32) : InR (rtiS k t s v) := by
 obtain ⟨h1, h2, h3⟩ := inOk_p (rti_ok (v := v) hk t0 t1 s0 s1).1
 exact ⟨h1, h2, by show v % 65536 < 65536; omega, h3⟩
theorem all_r {l : List In} (h : l.all inOk2 = true) : ∀ x ∈ l, InR x := fun x hx => inOk2_r (List.all_eq_true.1 h x hx)
section
variable {m0 m : Mem} {C : Nat → Bool} {e : Nat} {q : BB} {c : Nat} {p : Nat} {D : Dv} {n : Int} {S : St} {B : Nat → Int}
theorem AtF.wide {C' : Nat → Bool} (h : AtF m0 C e q c p D n S B m) (hC : ∀ j, C j = true → C' j = true) : AtF m0 C' e q c p D n S B m := by
 obtain ⟨cap, l, Sc, made, used, S1, M, u, hn, hp, E⟩ := h
 exact ⟨cap, l, Sc, made, used, S1, M, u, hn, hp, ⟨⟨E.h.mac, E.h.ok, E.h.st, fun en hen => by
  obtain ⟨k, b1, s1, c1⟩ := E.h.blk en hen
  exact ⟨k, b1, s1, hC _ c1⟩, fun j hj hm => hC j (E.h.mks j hj hm)⟩, E.K, E.f⟩⟩
theorem tW_no {M : Nat → Bool} {a nn : Int} (hM : ∀ j, j < p → M j = true → C j = true) (hC : ∀ j : Nat, a / 1024 ≤ j → (j : Int) ≤ (a + nn - 1) / 1024 → C j = false) : ∀ j, j < p → tW M (fun _ => false) a nn j = false := fun j hj => by
 unfold tW
 simp only [Bool.false_or]
 cases hm : M j with
 | false => rfl
 | true =>
  rw [Bool.true_and]
  refine decide_eq_false fun ⟨_, h2, h3⟩ => ?_
  have := hC j h2 h3
  rw [hM j hj hm] at this; cases this
theorem AtF.put (h : AtF m0 C e q c p D n S B m) {a : Int} {v : AV} {nn : Nat} {f : Nat → Int} (ha : isU a) (hv : IsR m 1 v nn (cB f)) (hf : ∀ i, i < nn → 0 ≤ f i ∧ f i < 256) (hr : inR p a nn) (hn : nn ≤ 1000000) (hC : ∀ j : Nat, a / 1024 ≤ j → (j : Int) ≤ (a + nn - 1) / 1024 → C j = false) {k : Bool → Mem → Prop}
  (hk : ∀ m', AtF m0 C e q c p D n S (putB B a nn f) m' → Fr q.r.has m m' → k true m') : F31 q.r.b 0 a v m k := by
 obtain ⟨cap, l, Sc, made, used, S1, M, u, en, ep, E⟩ := h
 obtain ⟨a0, a1⟩ := id ha
 refine put_spec E.h.mac.b.r ha hv hf (by omega) (fun h => absurd hr h) fun _ m' R' F' => hk m' ⟨cap, l, Sc, made, used, S1, M, u, en, ep, E.upd (E.h.cpu.rm (E.h.mac.b.withR F' R') F') (tW_no E.h.mks hC) E.h.st (has_foot F') (Tl.refl _) fun j hj => ?_⟩ F'
 unfold putB
 rw [if_neg]
 rintro ⟨h1, h2⟩
 have := hC (j / 1024) (by omega) (by omega)
 rw [hj] at this; cases this
end
def putI (I : Int → In) (a0 : Int) (l : List In) (a : Int) : In := match decide (a0 ≤ a) && decide (a < a0 + 4 * (l.length : Int)) with
 | true => atI l ((a - a0) / 4).toNat
 | false => I a
theorem Prog.put {C : Nat → Bool} {p : Nat} {I : Int → In} {B : Nat → Int} (h : Prog C p I B) {l : List In} (hl : ∀ x ∈ l, InR x) {a0 : Int} (h0 : 0 ≤ a0) (h4 : a0 % 4 = 0) : Prog C p (putI I a0 l) (putB B a0 (l.length * 4) (byOf l)) := by
 refine ⟨fun a g0 g1 g4 gC => ?_⟩
 unfold putI
 by_cases c1 : a0 ≤ a ∧ a < a0 + 4 * (l.length : Int)
 ·rw [decide_eq_true c1.1, decide_eq_true c1.2]
  simp only [Bool.and_true]
  have hi : ((a - a0) / 4).toNat < l.length := by omega
  refine ⟨in_word hl hi g0 fun t ht => ?_, atI_r hl hi⟩
  unfold putB
  rw [if_pos (by omega)]
  congr 1; omega
 ·have e1 : (decide (a0 ≤ a) && decide (a < a0 + 4 * (l.length : Int))) = false := by
   simp only [Bool.and_eq_false_iff, decide_eq_false_iff_not]; omega
  rw [e1]
  have e2 : wdB (putB B a0 (l.length * 4) (byOf l)) a 4 = wdB B a 4 := ldv_congr _ fun t ht => by
   have ht : t < 4 := ht
   unfold putB
   rw [if_neg (by omega)]
  rw [e2]
  exact h.i a g0 g1 g4 gC
def pageY (j : Nat) : List In := [⟨55, 0, 2, 2, 0, 0⟩, ⟨57, 0, 0, 0, 0, 0⟩, rtiS 68 (10 + j) 1 4, ⟨8, 1, 0, 31, 0, 0⟩, nopS, rrrS 23 (12 + j) 5 0]
def pageX (j : Nat) : List In := liS 2 (2053 + 1024 * j) ++ (pageY j ++ [])
def page0 : List In := liS 1 16384 ++ ([⟨55, 0, 1, 10, 0, 0⟩] ++ [])
def pageL : List In := ((page0 ++ pageX 0) ++ pageX 1) ++ (backS 42 0 0 0 ++ [])
def pageP (v : Int) : List In := [rtiS 47 5 0 v, ⟨7, 31, 0, 0, 0, 0⟩, nopS]
theorem page_run {a b : Int} {B : Nat → Int} : (runK (pgs [0, 1, 2, 3]) 4 (putI (putI (imgI pageL []) 2048 (pageP a)) 3072 (pageP b)) (List.replicate 33 .no) sr0 B fun s _ => lg s.n 12 = a ∧ lg s.n 13 = b ∧ lg s.n 10 = 65011720 ∧ lg s.n 11 = 65011720) =
  (IntKind.wrap .u32 (IntKind.wrap .u32 (0 + immL (rtiS 47 5 0 a)) + 0) = a ∧ IntKind.wrap .u32 (IntKind.wrap .u32 (0 + immL (rtiS 47 5 0 b)) + 0) = b ∧ wdB B 2052 4 = 65011720 ∧ wdB B 3076 4 = 65011720) := by kernel_rfl
theorem imm_15 {v : Int} (h0 : 0 ≤ v) (h1 : v < 32768) : IntKind.wrap .u32 (IntKind.wrap .u32 (0 + immL (rtiS 47 5 0 v)) + 0) = v := by
 have e : immL (rtiS 47 5 0 v) = v := by
  have e0 : immL (rtiS 47 5 0 v) = sxV (v % 65536) := if_neg (by show ¬ ((47 : Int) = 50 ∨ (47 : Int) = 51 ∨ (47 : Int) = 52); decide)
  rw [e0]
  unfold sxV
  rw [if_pos (by omega)]; omega
 rw [e, wrap32, wrap32]; omega
theorem page_r : ∀ x ∈ pageL, InR x := all_r (by decide +kernel)
theorem pageP_r {v : Int} : ∀ x ∈ pageP v, InR x := by
 intro x hx
 simp only [pageP, List.mem_cons, List.not_mem_nil, or_false] at hx
 rcases hx with rfl | rfl | rfl
 ·exact rti_r (by simp) (by decide) (by decide) (by decide) (by decide)
 ·exact inOk2_r (by decide +kernel)
 ·exact nop_r
theorem page_w {v a : Int} {B : Nat → Int} (a0 : 0 ≤ a) (hB : ∀ t, t < 12 → B (a.toNat + t) = byOf (pageP v) t) : wdB B (a + 4) 4 = 65011720 := by
 have h : wdB B (a + 4) 4 = wdOf (atI (pageP v) 1) := prog_word (l := pageP v) (i := 1) (by show (1 : Nat) < 3; decide) (by omega) (fun t ht => by
  rw [show (a + 4).toNat + t = a.toNat + (4 * 1 + t) by omega]
  exact hB _ (by omega)) (wdOf_u _)
 rw [h]
 show wdOf ⟨7, 31, 0, 0, 0, 0⟩ = 65011720
 decide +kernel
section
variable {m : Mem}
theorem pages_it {x0 x1 x2 x3 : Int} {j : Nat} (hj : j < 2) {v : AV} {l : List In} (hv : IsIn m v l) (hl : l.length ≤ 90) {kn : AV → Int → Mem → Prop} {k0 : AV → Mem → Prop} (hk : ∀ v' m', IsIn m' v' (l ++ pageX j) → kn v' (j + 1 : Nat) m') : R5_3 x0 x1 x2 x3 v j m kn k0 := by
 unfold R5_3
 have ej : j = 0 ∨ j = 1 := by omega
 have e1 : bits .or .u32 (bits .or .u32 (IntKind.wrap .u32 (IntKind.wrap .i64 (2048 + IntKind.wrap .i64 ((j : Int) * 1024)))) 1) 4 = 2053 + 1024 * (j : Int) := by rcases ej with rfl | rfl <;> decide
 have e2 : IntKind.wrap .i64 (10 + (j : Int)) = 10 + j := by rw [wrap64 (by omega) (by omega)]
 have e3 : IntKind.wrap .i64 (12 + (j : Int)) = 12 + j := by rw [wrap64 (by omega) (by omega)]
 have e4 : IntKind.wrap .i64 ((j : Int) + 1) = ((j + 1 : Nat) : Int) := by rw [wrap64 (by omega) (by omega)]; omega
 rw [e1, e2, e3, e4]
 refine kif_t (by simp; omega) (li_spec ⟨by omega, by omega⟩ fun b9 m10 _ K10 i10 => rti_spec ⟨by decide, by decide⟩ fun c11 h11 => rrr_spec fun c13 h13 => newK_i fun b16 m15 _ K15 e15 _ => ?_)
 have i15 := row_in [_, _, c11, _, _, c13] (pageY j) e15 ⟨⟨rfl, rfl, rfl, rfl, rfl, rfl⟩, ⟨rfl, rfl, rfl, rfl, rfl, rfl⟩, h11, ⟨rfl, rfl, rfl, rfl, rfl, rfl⟩, ⟨rfl, rfl, rfl, rfl, rfl, rfl⟩, h13, trivial⟩
 refine kif_t hv.one (kif_t rfl (newK_i fun b18 m17 _ K17 e17 _ => ?_))
 refine join_of [v, .sl b9 0 2 (.ex 2), .sl b16 0 6 (.ex 6)] [l, liS 2 (2053 + 1024 * j), pageY j] e17 ⟨hv.keep ((K10.trans K15).trans K17), i10.keep (K15.trans K17), i15.keep K17, trivial⟩ (by show (3 : Nat) ≤ 20; decide) ?_ fun v19 m20 i20 K20 o20 => hk v19 m20 i20
 simp only [List.all_cons, List.all_nil, Bool.and_true, Bool.and_eq_true]
 exact ⟨Nat.ble_eq_true_of_le (by omega), rfl, rfl⟩
section
theorem AtF.ram_live {m0 m : Mem} {C : Nat → Bool} {e : Nat} {q : BB} {c p : Nat} {D : Dv} {n : Int} {S : St} {B : Nat → Int} (h : AtF m0 C e q c p D n S B m) {x : Nat} (hx : q.r.has x) : m.obj x ≠ none := by
 obtain ⟨cap, l, Sc, made, used, S1, M, u, en, ep, E⟩ := h
 exact E.h.mac.b.r.live hx
variable {m0 : Mem} {e : Nat} {q : BB} {c : Nat} {D : Dv} {n : Int} {S : St} {B : Nat → Int}
theorem pages_put {x0 x1 x2 y : Int} (hy : isU y) {j : Nat} (hj : j < 2) (h : AtF m0 (pgs [0, 1]) e q c 4 D n S B m) {v : AV} {b : Nat} {z : Blk} (ez : m.obj b = some z) (zn : z.n = 2) (zc : z.c j = vu y) (ne : ¬ q.r.has b) {kn : Int → Mem → Prop} {k2 : Mem → Prop}
  (hk : ∀ m', AtF m0 (pgs [0, 1]) e q c 4 D n S (putB B (2048 + 1024 * j) ((pageP y).length * 4) (byOf (pageP y))) m' → m'.obj b = some z → kn (j + 1 : Nat) m') : R5_11 x0 x1 x2 v (.ptr e 0) (.sl b 0 2 (.ex 2)) 2 j m kn k2 := by
 unfold R5_11
 have ej : j = 0 ∨ j = 1 := by omega
 have e1 : IntKind.wrap .u32 (IntKind.wrap .i64 (2048 + IntKind.wrap .i64 ((j : Int) * 1024))) = 2048 + 1024 * (j : Int) := by rcases ej with rfl | rfl <;> decide
 have e4 : IntKind.wrap .i64 ((j : Int) + 1) = ((j + 1 : Nat) : Int) := by rw [wrap64 (by omega) (by omega)]; omega
 rw [e1, e4]
 refine kif_t (by simp; omega) (kif_t (by simp; omega) ?_)
 rw [show 0 + (j : Int).toNat * 1 = j by omega, ldI_of ez (by omega) zc]
 dsimp only [kptr]
 refine h.bus ?_
 dsimp only
 refine h.ram ?_
 refine rti_spec hy fun c52 h52 => newK_i fun b55 m54 _ K54 e54 _ => ?_
 have i54 := row_in [c52, _, _] (pageP y) e54 ⟨h52, ⟨rfl, rfl, rfl, rfl, rfl, rfl⟩, ⟨rfl, rfl, rfl, rfl, rfl, rfl⟩, trivial⟩
 refine code_spec i54 (by show (3 : Nat) ≤ 1000; decide) (fun x hx => (pageP_r x hx).i0) fun v56 m57 L57 K57 o57 => ?_
 have A57 := h.keep (K54.trans K57)
 dsimp only
 have hl : (((pageP y).length * 4 : Nat) : Int) = 12 := rfl
 refine A57.put (nn := (pageP y).length * 4) ⟨by omega, by omega⟩ L57.r (fun i _ => byOf_rng _ i) (by unfold inR; rw [hl]; omega) (by show (12 : Nat) ≤ 1000000; decide) (fun i h1 h2 => ?_) fun m61 A61 F61 => hk m61 A61 ?_
 ·rw [hl] at h2
  have : i = 2 + j := by omega
  subst this
  rcases ej with rfl | rfl <;> rfl
 ·rw [F61 b (by rw [(K54.trans K57) b (by rw [ez]; simp), ez]; simp) ne, (K54.trans K57) b (by rw [ez]; simp), ez]
end
theorem TopPages {x0 x1 x2 x3 : Int} (h0 : isU x0) (h1 : isU x1) (h3 : isI x3) {k : Bool → Mem → Prop} (hk : ∀ m', k true m') : F5 x0 x1 x2 x3 m k := by
 unfold F5
 have a0 : bits .and .u32 x0 32767 = x0 % 32768 := by have := and_ones x0 h0.1 h0.2 15 (by decide); simpa using this
 have a1 : bits .and .u32 x1 32767 = x1 % 32768 := by have := and_ones x1 h1.1 h1.2 15 (by decide); simpa using this
 rw [a0, a1]
 have u0 : isU (x0 % 32768) := ⟨by omega, by omega⟩
 have u1 : isU (x1 % 32768) := ⟨by omega, by omega⟩
 refine li_spec ⟨by decide, by decide⟩ fun b1 m2 _ K2 i2 => newK_i fun b4 m3 _ K3 e3 _ => ?_
 have i3 := row_in [_] [⟨55, 0, 1, 10, 0, 0⟩] e3 ⟨⟨rfl, rfl, rfl, rfl, rfl, rfl⟩, trivial⟩
 refine kif_t rfl (newK_i fun b6 m5 _ K5 e5 _ => ?_)
 refine join_of [.sl b1 0 2 (.ex 2), .sl b4 0 1 (.ex 1)] [liS 1 16384, _] e5 ⟨i2.keep (K3.trans K5), i3.keep K5, trivial⟩ (by show (2 : Nat) ≤ 20; decide) rfl fun v7 m8 i8 K8 o8 => ?_
 have i8 : IsIn m8 v7 page0 := i8
 refine ⟨3, ?_⟩
 show R5_3 _ _ _ _ _ _ _ _ _
 refine pages_it (j := 0) (by decide) i8 (by decide) fun v9 m9 i9 => ?_
 show R5_3 _ _ _ _ _ _ _ _ _
 refine pages_it (j := 1) (by decide) i9 (by decide) fun v10 m10 i10 => ?_
 show R5_3 _ _ _ _ _ _ _ _ _
 unfold R5_3
 refine kif_f rfl (idle_spec fun b24 m25 _ K25 i25 => kif_t i10.one (kif_t rfl (newK_i fun b27 m26 _ K26 e26 _ => ?_)))
 refine join_of [v10, .sl b24 0 2 (.ex 2)] [(page0 ++ pageX 0) ++ pageX 1, backS 42 0 0 0] e26 ⟨i10.keep (K25.trans K26), i25.keep K26, trivial⟩ (by show (2 : Nat) ≤ 20; decide) rfl fun v28 m29 i29 K29 o29 => ?_
 have i29 : IsIn m29 v28 pageL := i29
 refine code_spec i29 (by decide) (fun x hx => (page_r x hx).i0) fun v30 m31 L31 K31 o31 => ?_
 refine within22 (by decide) (by decide) (by decide) h3.1 h3.2 fun w _ _ => ?_
 refine machine_spec L31.r (fun i => byOf_rng _ i) (by decide) (v2 := .flat (.slice none 0 0)) (nd := 0) (fd := fun _ => 0) (.nil none _) (fun i hi => by omega) (by decide) (pgs [0, 1]) fun m1 e q c m35 K35 A35 => ?_
 rw [imgP_nil] at A35
 have A35 : AtF m1 (pgs [0, 1]) e q c 4 D0 (clN w) St0 (imgP pageL []) m35 := A35
 rw [nilP_ptr]
 refine kif_f rfl (newK_i fun b38 m37 hb38 K37 e37 _ => ?_)
 have n38 : ¬ q.r.has b38 := fun t => A35.ram_live t hb38
 refine ⟨3, ?_⟩
 show R5_11 _ _ _ _ _ _ _ _ _ _ _
 refine pages_put u0 (j := 0) (by decide) (A35.keep K37) e37 rfl rfl n38 fun m40 A40 e40 => ?_
 show R5_11 _ _ _ _ _ _ _ _ _ _ _
 refine pages_put u1 (j := 1) (by decide) A40 e40 rfl rfl n38 fun m41 A41 e41 => ?_
 show R5_11 _ _ _ _ _ _ _ _ _ _ _
 unfold R5_11
 refine kif_f rfl ?_
 dsimp only [kptr]
 refine (A41.wide (C' := pgs [0, 1, 2, 3]) fun j hj => ?_).cap fun m66 A66 => ?_
 ·unfold pgs at hj ⊢
  simp only [List.any_cons, List.any_nil, Bool.or_false, Bool.or_eq_true] at hj ⊢
  exact hj.elim .inl fun h => .inr (.inl h)
 rw [i29.len]
 have hP := ((img_prog page_r (h := []) (fun x hx => by simp at hx) (by decide) (by decide) (pgs [0, 1, 2, 3])).put (a0 := 2048 + 1024 * (0 : Nat)) (pageP_r (v := x0 % 32768)) (by decide) (by decide)).put (a0 := 2048 + 1024 * (1 : Nat)) (pageP_r (v := x1 % 32768)) (by decide) (by decide)
 have w0 : wdB (putB (putB (imgP pageL []) (2048 + 1024 * (0 : Nat)) ((pageP (x0 % 32768)).length * 4) (byOf (pageP (x0 % 32768)))) (2048 + 1024 * (1 : Nat)) ((pageP (x1 % 32768)).length * 4) (byOf (pageP (x1 % 32768)))) 2052 4 = 65011720 := page_w (v := x0 % 32768) (a := 2048) (by decide) fun t ht => by
  have l0 : (((pageP (x0 % 32768)).length * 4 : Nat) : Int) = 12 := rfl
  have l1 : (((pageP (x1 % 32768)).length * 4 : Nat) : Int) = 12 := rfl
  unfold putB
  rw [l0, l1, if_neg (by omega), if_pos (by omega)]
  congr 1; omega
 have w1 : wdB (putB (putB (imgP pageL []) (2048 + 1024 * (0 : Nat)) ((pageP (x0 % 32768)).length * 4) (byOf (pageP (x0 % 32768)))) (2048 + 1024 * (1 : Nat)) ((pageP (x1 % 32768)).length * 4) (byOf (pageP (x1 % 32768)))) 3076 4 = 65011720 := page_w (v := x1 % 32768) (a := 3072) (by decide) fun t ht => by
  have l1 : (((pageP (x1 % 32768)).length * 4 : Nat) : Int) = 12 := rfl
  unfold putB
  rw [l1, if_pos (by omega)]
  congr 1; omega
 obtain ⟨s', B', pa, _, _, _, o12, o13, o10, o11⟩ := run_ok (D := D0) (by decide) rfl (List.replicate 33 .no) (s := sr0) (by decide) hP (by decide) (k := fun s _ => lg s.n 12 = x0 % 32768 ∧ lg s.n 13 = x1 % 32768 ∧ lg s.n 10 = 65011720 ∧ lg s.n 11 = 65011720) (by
  have := page_run (a := x0 % 32768) (b := x1 % 32768) (B := putB (putB (imgP pageL []) (2048 + 1024 * (0 : Nat)) ((pageP (x0 % 32768)).length * 4) (byOf (pageP (x0 % 32768)))) (2048 + 1024 * (1 : Nat)) ((pageP (x1 % 32768)).length * 4) (byOf (pageP (x1 % 32768))))
  exact this.mpr ⟨imm_15 (by omega) (by omega), imm_15 (by omega) (by omega), w0, w1⟩)
 rw [sr0_st] at pa
 have e33 : IntKind.wrap .i64 (((pageL.length : Nat) : Int) + 12) = ((33 : Nat) : Int) := by decide
 rw [e33]
 refine AtF.go (by decide) (by decide) pa A66 fun m72 A72 => A72.stateb fun b78 m79 K79 _ s79 => ?_
 rw [ldI_st s79 (by decide) rfl]
 refine kif_t (by show (lg s'.n 12 == _) = true; rw [o12]; exact beq_self_eq_true _) ?_
 rw [ldI_st s79 (by decide) rfl]
 refine kif_t (by show (lg s'.n 13 == _) = true; rw [o13]; exact beq_self_eq_true _) ?_
 rw [ldI_st s79 (by decide) rfl]
 refine kif_t (by show (lg s'.n 10 == _) = true; rw [o10]; rfl) ?_
 rw [ldI_st s79 (by decide) rfl]
 exact kif_t (by show (lg s'.n 11 == _) = true; rw [o11]; rfl) (awake_spec hk)
end
theorem TopPages_law {m : Mem} {x0 x1 x2 x3 : Int} (h0 : (Lit.int .u32 x0).wf = true) (h1 : (Lit.int .u32 x1).wf = true) (_ : (Lit.int .i64 x2).wf = true) (h3 : (Lit.int .i64 x3).wf = true) : F5 x0 x1 x2 x3 m isTrue := TopPages (wf_u32 h0) (wf_u32 h1) (wf_i64 h3) fun _ => rfl
end Go.Proofs.YtkiggdgphbkneaaGreat.Am
