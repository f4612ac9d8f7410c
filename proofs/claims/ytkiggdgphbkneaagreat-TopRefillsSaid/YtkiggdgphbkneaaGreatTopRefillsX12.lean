/- Words that the printed functions use. No program in sight. -/
import Derived.Test.YtkiggdgphbkneaaGreatTopRefillsX11
namespace Go.Proofs.YtkiggdgphbkneaaGreat.Am
set_option linter.unusedVariables false
set_option linter.unusedSimpArgs false
def ldI (kd : IntKind) (m : Mem) (b o : Nat) (k : Int → Prop) : Prop := kobj m b fun x => kite (o < x.n) (kI kd (x.c o) k) False
def ldB (m : Mem) (b o : Nat) (k : Bool → Prop) : Prop := kobj m b fun x => kite (o < x.n) (kbool (x.c o) k) False
def ldS (m : Mem) (b o : Nat) (k : ByteArray → Prop) : Prop := kobj m b fun x => kite (o < x.n) (kS (x.c o) k) False
def ldA (m : Mem) (b o : Nat) (k : AV → Prop) : Prop := kobj m b fun x => kite (o < x.n) (kA (x.c o) k) False
def ldG (n : Nat) (m : Mem) (b o : Nat) (k : (Nat → AV) → Prop) : Prop := kobj m b fun x => kite (o + n ≤ x.n) (k (sub x.c o n)) False
def stC (m : Mem) (b o : Nat) (v : AV) (k : Mem → Prop) : Prop := kobj m b fun x => match x.ro with
 | true => False
 | false => kite (o < x.n) (k (m.set b { x with c := upd x.c o v })) False
def stV (m : Mem) (b o : Nat) (v : AV) (k : Mem → Prop) : Prop := kobj m b fun x => match x.ro with
 | true => False
 | false => match v.one with
  | true => kite (o < x.n) (k (m.set b { x with c := upd x.c o v })) False
  | false => False
def stG (n : Nat) (m : Mem) (b o : Nat) (c : Nat → AV) (k : Mem → Prop) : Prop := kobj m b fun x => match x.ro with
 | true => False
 | false => kite (o + n ≤ x.n) (k (m.set b { x with c := splice x.c o n c })) False
abbrev kaggN (n : Nat) (v : AV) (k : (Nat → AV) → Prop) : Prop := match v with
 | .agg n' c => kite (n' = n) (k c) False
 | _ => False
def hd1 : Code → Nat
 | .skip => 0
 | .label _ => 1
 | .region .. => 2
 | .seq .. => 3
 | .cond .. => 4
 | .block .. => 5
 | .loop .. => 6
 | .scope .. => 7
 | .exit _ => 8
 | .ret => 9
 | _ => 10
def keyC (b : Code) : Option Nat := match firstReg b with
 | some r => some (r * 1000 + (match b with | .seq a _ => 100 + hd1 a | b => hd1 b))
 | none => none
def bodyOf (f : Func) : Code := match f.body with
 | some c => c
 | none => .skip
def loopsOf : Code → List Code
 | .seq a b => loopsOf a ++ loopsOf b
 | .cond _ a b => loopsOf a ++ loopsOf b
 | .block _ a => loopsOf a
 | .scope a => loopsOf a
 | .loop a => a :: loopsOf a
 | _ => []
def secsOf : Code → List Code
 | .seq a b => b :: (secsOf a ++ secsOf b)
 | .cond _ a b => secsOf a ++ secsOf b
 | .block _ a => secsOf a
 | .scope a => secsOf a
 | .loop a => secsOf a
 | _ => []
def LoopOK (P : Program) (Γ : Env) (Λ : LEnv) (a : Code) : Prop :=
 ∃ (cond : (Nat → AV) → Prop) (live : List Nat) (lx : Ex → List Nat), ∀ σ m k, Λ.loop a σ m k ↔ cond σ ∧ ∃ N, rounds P Γ Λ live lx a N (live.map σ) m k
def PieceOK (P : Program) (Γ : Env) (Λ : LEnv) (b : Code) : Prop :=
 ∃ (cond : (Nat → AV) → Prop) (live : List Nat) (lx : Ex → List Nat), ∀ σ m k, Λ.piece b σ m k ↔ cond σ ∧ once P Γ Λ live lx b (live.map σ) m k
theorem LS_all {P : Program} {Γ : Env} {Λ : LEnv} : ∀ (c : Code), (∀ a ∈ loopsOf c, LoopOK P Γ Λ a) → (∀ b ∈ secsOf c, Λ.cut b = true → PieceOK P Γ Λ b) → LS P Γ Λ c := by
 intro c
 induction c with
 | seq x y ihx ihy => intro h h2; exact ⟨h2 y (by simp [secsOf]), ihx (fun a ha => h a (by simp [loopsOf, ha])) (fun a ha => h2 a (by simp [secsOf, ha])), ihy (fun a ha => h a (by simp [loopsOf, ha])) (fun a ha => h2 a (by simp [secsOf, ha]))⟩
 | cond c x y ihx ihy => intro h h2; exact ⟨ihx (fun a ha => h a (by simp [loopsOf, ha])) (fun a ha => h2 a (by simp [secsOf, ha])), ihy (fun a ha => h a (by simp [loopsOf, ha])) (fun a ha => h2 a (by simp [secsOf, ha]))⟩
 | block id x ih => intro h h2; exact ih h h2
 | scope x ih => intro h h2; exact ih h h2
 | loop x ih => intro h h2; exact ⟨h x (by simp [loopsOf]), ih (fun a ha => h a (by simp [loopsOf, ha])) h2⟩
 | _ => intro _ _; trivial
theorem LS_of {P : Program} {Γ : Env} {Λ : LEnv} (c : Code) (n : Nat) (hn : (loopsOf c).length = n) (h : ∀ i, i < n → LoopOK P Γ Λ ((loopsOf c).getD i .skip))
  (np : Nat) (hnp : ((secsOf c).filter Λ.cut).length = np) (hp : ∀ i, i < np → PieceOK P Γ Λ (((secsOf c).filter Λ.cut).getD i .skip)) : LS P Γ Λ c :=
 LS_all c (fun a ha => by
  obtain ⟨i, hi, rfl⟩ := List.getElem_of_mem ha
  have := h i (by omega)
  simpa [List.getD, hi] using this) (fun b hb hc => by
  have hm : b ∈ (secsOf c).filter Λ.cut := List.mem_filter.2 ⟨hb, hc⟩
  obtain ⟨i, hi, e⟩ := List.getElem_of_mem hm
  have := hp i (by omega)
  rw [List.getD_eq_getElem?_getD, List.getElem?_eq_getElem hi, Option.getD_some, e] at this
  exact this)
theorem kaggN_ok {n : Nat} {v : AV} {k : (Nat → AV) → Prop} (h : kaggN n v k) : ∃ c, v = .agg n c ∧ k c := by
 unfold kaggN at h; split at h
 ·rw [kite_eq] at h
  split at h
  ·rename_i e; subst e; exact ⟨_, rfl, h⟩
  ·exact h.elim
 ·exact h.elim
theorem kI_flat (kd : IntKind) (n : Int) (k : Int → Prop) : kI kd (.flat (.int kd n)) k = k n := by simp [kI, kite_eq]
theorem kaggN_agg (n : Nat) (c : Nat → AV) (k : (Nat → AV) → Prop) : kaggN n (.agg n c) k = k c := by simp [kaggN, kite_eq]
theorem kI_or (kd : IntKind) (v : AV) : (∃ n, v = .flat (.int kd n)) ∨ ∀ k : Int → Prop, ¬ kI kd v k := by
 by_cases c : ∃ n, v = .flat (.int kd n)
 ·exact .inl c
 ·exact .inr fun k h => c (by obtain ⟨n, e, _⟩ := kI_ok h; exact ⟨n, e⟩)
theorem kbool_or (v : AV) : (∃ n, v = .flat (.bool n)) ∨ ∀ k : Bool → Prop, ¬ kbool v k := by
 by_cases c : ∃ n, v = .flat (.bool n)
 ·exact .inl c
 ·exact .inr fun k h => c (by obtain ⟨n, e, _⟩ := kbool_ok h; exact ⟨n, e⟩)
theorem kS_or (v : AV) : (∃ n, v = .flat (.string n)) ∨ ∀ k : ByteArray → Prop, ¬ kS v k := by
 by_cases c : ∃ n, v = .flat (.string n)
 ·exact .inl c
 ·exact .inr fun k h => c (by obtain ⟨n, e, _⟩ := kS_ok h; exact ⟨n, e⟩)
theorem kptr_or (v : AV) : (∃ b o, v = .ptr b o) ∨ ∀ k : Nat → Nat → Prop, ¬ kptr v k := by
 by_cases c : ∃ b o, v = .ptr b o
 ·exact .inl c
 ·exact .inr fun k h => c (by obtain ⟨b, o, e, _⟩ := kptr_ok h; exact ⟨b, o, e⟩)
theorem kaggN_or (n : Nat) (v : AV) : (∃ c, v = .agg n c) ∨ ∀ k : (Nat → AV) → Prop, ¬ kaggN n v k := by
 by_cases c : ∃ x, v = .agg n x
 ·exact .inl c
 ·exact .inr fun k h => c (by obtain ⟨x, e, _⟩ := kaggN_ok h; exact ⟨x, e⟩)
end Go.Proofs.YtkiggdgphbkneaaGreat.Am
