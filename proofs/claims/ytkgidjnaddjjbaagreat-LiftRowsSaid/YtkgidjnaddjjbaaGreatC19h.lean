/- A machine made; an instruction's operations against the document's machine; rows of instructions. Conditions: none of its own. -/
import Derived.Test.YtkgidjnaddjjbaaGreatC19g
namespace Go.Proofs.YtkgidjnaddjjbaaGreat.Am
set_option linter.unusedVariables false
set_option linter.unusedSimpArgs false
set_option maxRecDepth 100000
set_option maxHeartbeats 1000000

theorem ldA_of_ptr {m : Mem} {b o : Nat} {k : AV → Prop} {x : Blk} {b1 o1 : Nat} (h : m.obj b = some x) (ho : o < x.n) (hc : x.c o = .ptr b1 o1) : ldA m b o k = k (.ptr b1 o1) := by
  unfold ldA kobj; rw [h]; simp only [kite_eq, ho, if_true, hc, kA]
theorem stC_i {m : Mem} {b o : Nat} {v : AV} {k : Mem → Prop} {x : Blk} (h : m.obj b = some x) (hr : x.ro = false) (ho : o < x.n) (hk : ∀ m', m'.obj b = some { x with c := upd x.c o v } → Only m b m' → k m') : stC m b o v k := by
  rw [stC_of h hr ho]; exact hk _ (set_same _ _ _) (Only.set _ _ _)
section
variable {m0 m : Mem}
/-! ### a machine made -/
theorem newM_spec {k : Nat → Nat → Mem → Prop} (hk : ∀ b m', IsM m' b St0 → Keeps m m' → m.obj b = none → k b 0 m') : F11 1 (.flat (.slice none 0 0)) (.flat (.slice none 0 0)) m k := by
  unfold F11
  refine rfresh_spec fun c1 h1 => ?_
  unfold F24 F47
  have e1 : (if (1 : Int) > (if (64 : Int) < 1 then 64 else 1) then (1 : Int) else (if (64 : Int) < 1 then 64 else 1)) = 1 := by decide
  have e2 : IntKind.wrap .i64 (1 * 1024) = 1024 := by decide
  rw [e1, e2]
  refine mkS_i (by decide) (by decide) (by decide) fun b1 m1 hb1 K1 y1 O1 => mkS_i (by decide) (by decide) (by decide) fun b3 m2 hb3 K2 y2 O2 => mkS_i (by decide) (by decide) (by decide) fun b5 m3 hb5 K3 y3 O3 => newK_i fun b8 m4 hb8 K4 y4 O4 => newK_i fun b15 m5 hb15 K5 y5 O5 => ?_
  rw [ldA_of_ptr y5 (show (0 : Nat) < 25 by decide) rfl]
  dsimp only [kptr]
  have y4' : m5.obj b8 = _ := (K5 b8 (by rw [y4]; simp)).trans y4
  rw [ldA_sl y4' (show (0 + 0 : Nat) < 3 by decide) rfl]
  have l1 : IsL m5 1 (.sl b1 0 1024 (.ex 1024)) 1024 (reprow [.flat (.int .u8 0)]) := by
    have := IsL.row (esz := 1) (n := 1024) y1 rfl rfl
    exact (((this.keep K2).keep K3).keep K4).keep K5
  have hb1' : m.obj b1 = none := hb1
  have K05 : Keeps m m5 := (((K1.trans K2).trans K3).trans K4).trans K5
  have hb15' : m.obj b15 = none := newK_none (((K1.trans K2).trans K3).trans K4) hb15
  have n15 : b15 ≠ b1 := fun e => by
    have : m4.obj b1 ≠ none := by rw [K4 b1 (by rw [K3 b1 (by rw [K2 b1 (by rw [y1]; simp), y1]; simp), K2 b1 (by rw [y1]; simp), y1]; simp), K3 b1 (by rw [K2 b1 (by rw [y1]; simp), y1]; simp), K2 b1 (by rw [y1]; simp), y1]; simp
    exact this (e ▸ hb15)
  refine copL l1 (.nil none (fun _ => .junk)) fun m6 u6 l6 F6 _ => ?_
  have K06 : Keeps m m6 := Fr.keeps K05 F6 fun b e => by cases e; exact hb1'
  have y6 : m6.obj b15 = _ := (F6 b15 (by rw [y5]; simp) (fun e => n15 (by cases e; rfl))).trans y5
  show klen (.flat (.slice none 0 0)) _
  have kl : ∀ k : Int → Prop, klen (.flat (.slice none 0 0)) k = k 0 := fun k => rfl
  rw [kl]
  have e3 : IntKind.wrap .i64 ((if (64 : Int) < (IntKind.wrap .i64 ((IntKind.wrap .i64 ((IntKind.wrap .i64 (0 + 64)) - 1)).tdiv 64)) then 64 else (IntKind.wrap .i64 ((IntKind.wrap .i64 ((IntKind.wrap .i64 (0 + 64)) - 1)).tdiv 64))) * 64) = 0 := by decide
  rw [e3]
  refine mkS_i (by decide) (by decide) (by decide) fun b13 m7 hb13 K7 y7 O7 => ?_
  have y6' : m7.obj b15 = _ := (K7 b15 (by rw [y6]; simp)).trans y6
  refine stC_i y6' rfl (show (22 : Nat) < 25 by decide) fun m8 y8 O8 => ?_
  have n13 : b13 ≠ b15 := fun e => by rw [e, y6] at hb13; cases hb13
  have hb13' : m.obj b13 = none := newK_none K06 hb13
  have K08 : Keeps m m8 := fun b hb => by
    rw [O8 b (fun e : b = b15 => hb (e ▸ hb15')), K7 b (by rw [K06 b hb]; exact hb), K06 b hb]
  rw [ldA_sl y8 (show (22 : Nat) < 25 by decide) rfl]
  have y78 := (O8 b13 n13).trans y7
  refine copL (IsL.row (esz := 1) (n := 0) y78 rfl rfl) (.nil none (fun _ => .junk)) fun m9 u9 l9 F9 _ => newK_i fun b7 m10 hb7 K10 y10 O10 => ?_
  have K09 : Keeps m m9 := Fr.keeps K08 F9 fun b e => by cases e; exact hb13'
  refine hk b7 m10 ⟨_, y10, rfl, rfl, fun i hi => ?_⟩ (K09.trans K10) (newK_none K09 hb7)
  show upd (splice Z74 0 73 c1) 73 _ i = _
  unfold upd splice
  rw [if_neg (by omega), if_pos (by omega), Nat.sub_zero]
  exact h1 i hi
end
end Go.Proofs.YtkgidjnaddjjbaaGreat.Am
