/- Words that the printed functions use. No program in sight. -/
import Derived.Test.YtkiggdgphbkneaaGreatTopDiskX11
namespace Go.Proofs.YtkiggdgphbkneaaGreat.Am
set_option linter.unusedVariables false
set_option linter.unusedSimpArgs false
def zR (kd : IntKind) (m : Mem) (b o : Nat) (k : Int -> Prop) : Prop := kobj m b fun x => kite (o < x.n) (kI kd (x.c o) k) False
def ldB (m : Mem) (b o : Nat) (k : Bool -> Prop) : Prop := kobj m b fun x => kite (o < x.n) (tP (x.c o) k) False
def ldS (m : Mem) (b o : Nat) (k : ByteArray -> Prop) : Prop := kobj m b fun x => kite (o < x.n) (kS (x.c o) k) False
def ldA (m : Mem) (b o : Nat) (k : AV -> Prop) : Prop := kobj m b fun x => kite (o < x.n) (kA (x.c o) k) False
def yN (n : Nat) (m : Mem) (b o : Nat) (k : (Nat -> AV) -> Prop) : Prop := kobj m b fun x => kite (o + n <= x.n) (k (sub x.c o n)) False
def wF (m : Mem) (b o : Nat) (v : AV) (k : Mem -> Prop) : Prop := kobj m b fun x => match x.ro with
 | true => False
 | false => kite (o < x.n) (k (m.set b { x with c := upd x.c o v })) False
def stV (m : Mem) (b o : Nat) (v : AV) (k : Mem -> Prop) : Prop := kobj m b fun x => match x.ro with
 | true => False
 | false => match v.one with
  | true => kite (o < x.n) (k (m.set b { x with c := upd x.c o v })) False
  | false => False
def vA (n : Nat) (m : Mem) (b o : Nat) (c : Nat -> AV) (k : Mem -> Prop) : Prop := kobj m b fun x => match x.ro with
 | true => False
 | false => kite (o + n <= x.n) (k (m.set b { x with c := zC x.c o n c })) False
abbrev zHa (n : Nat) (v : AV) (k : (Nat -> AV) -> Prop) : Prop := match v with
 | .agg n' c => kite (n' = n) (k c) False
 | _ => False
def hd1 : Code -> Nat
 | .skip => 0
 | .label _ => 1
 | .region .. => 2
 | .seq .. => 3
 | .cond .. => 4
 | .block .. => 5
 | .loop .. => 6
 | .scope .. => 7
 | .exit _ => 8
 | .ret => 9
 | _ => 10
def yYi (b : Code) : Option Nat := match pJ b with
 | some r => some (r * 1000 + (match b with | .seq a _ => 100 + hd1 a | b => hd1 b))
 | none => none
def zE (f : Func) : Code := match f.body with
 | some c => c
 | none => .skip
def wL : Code -> List Code
 | .seq a b => wL a ++ wL b
 | .cond _ a b => wL a ++ wL b
 | .block _ a => wL a
 | .scope a => wL a
 | .loop a => a :: wL a
 | _ => []
def vT : Code -> List Code
 | .seq a b => b :: (vT a ++ vT b)
 | .cond _ a b => vT a ++ vT b
 | .block _ a => vT a
 | .scope a => vT a
 | .loop a => vT a
 | _ => []
def yI (P : Program) (Γ : zZ) (Λ : LEnv) (a : Code) : Prop :=
 ∃ (cond : (Nat -> AV) -> Prop) (live : List Nat) (lx : Ex -> List Nat), ∀ σ m k, Λ.loop a σ m k ↔ cond σ /\ ∃ N, rounds P Γ Λ live lx a N (live.map σ) m k
def zF (P : Program) (Γ : zZ) (Λ : LEnv) (b : Code) : Prop :=
 ∃ (cond : (Nat -> AV) -> Prop) (live : List Nat) (lx : Ex -> List Nat), ∀ σ m k, Λ.piece b σ m k ↔ cond σ /\ yR6 P Γ Λ live lx b (live.map σ) m k
theorem yPz {P : Program} {Γ : zZ} {Λ : LEnv} : ∀ (c : Code), (∀ a ∈ wL c, yI P Γ Λ a) -> (∀ b ∈ vT c, Λ.cut b = true -> zF P Γ Λ b) -> LS P Γ Λ c := by
 intro c
 induction c with
 | seq x y ihx ihy => intro h h2; exact ⟨h2 y (by simp [vT]), ihx (fun a ha => h a (by simp [wL, ha])) (fun a ha => h2 a (by simp [vT, ha])), ihy (fun a ha => h a (by simp [wL, ha])) (fun a ha => h2 a (by simp [vT, ha]))⟩
 | cond c x y ihx ihy => intro h h2; exact ⟨ihx (fun a ha => h a (by simp [wL, ha])) (fun a ha => h2 a (by simp [vT, ha])), ihy (fun a ha => h a (by simp [wL, ha])) (fun a ha => h2 a (by simp [vT, ha]))⟩
 | block id x ih => intro h h2; exact ih h h2
 | scope x ih => intro h h2; exact ih h h2
 | loop x ih => intro h h2; exact ⟨h x (by simp [wL]), ih (fun a ha => h a (by simp [wL, ha])) h2⟩
 | _ => intro _ _; trivial
theorem yS4 {P : Program} {Γ : zZ} {Λ : LEnv} (c : Code) (n : Nat) (hn : (wL c).length = n) (h : ∀ i, i < n -> yI P Γ Λ ((wL c).getD i .skip))
  (np : Nat) (hnp : ((vT c).filter Λ.cut).length = np) (hp : ∀ i, i < np -> zF P Γ Λ (((vT c).filter Λ.cut).getD i .skip)) : LS P Γ Λ c :=
 yPz c (fun a ha => by
  obtain ⟨i, hi, rfl⟩ := List.getElem_of_mem ha
  have := h i (by omega)
  simpa [List.getD, hi] using this) (fun b hb hc => by
  have hm : b ∈ (vT c).filter Λ.cut := List.mem_filter.2 ⟨hb, hc⟩
  obtain ⟨i, hi, e⟩ := List.getElem_of_mem hm
  have := hp i (by omega)
  rw [List.getD_eq_getElem?_getD, List.getElem?_eq_getElem hi, Option.getD_some, e] at this
  exact this)
theorem yDa {n : Nat} {v : AV} {k : (Nat -> AV) -> Prop} (h : zHa n v k) : ∃ c, v = .agg n c /\ k c := by
 unfold zHa at h; split at h
 .rw [zO] at h
  split at h
  .rename_i e; subst e; exact ⟨_, rfl, h⟩
  .exact h.elim
 .exact h.elim
theorem zW2 (kd : IntKind) (n : Int) (k : Int -> Prop) : kI kd (.flat (.int kd n)) k = k n := by simp [kI, zO]
theorem zFz (n : Nat) (c : Nat -> AV) (k : (Nat -> AV) -> Prop) : zHa n (.agg n c) k = k c := by simp [zHa, zO]
theorem yXd (kd : IntKind) (v : AV) : (∃ n, v = .flat (.int kd n)) \/ ∀ k : Int -> Prop, ¬ kI kd v k := by
 by_cases c : ∃ n, v = .flat (.int kd n)
 .exact .inl c
 .exact .inr fun k h => c (by obtain ⟨n, e, _⟩ := yDc h; exact ⟨n, e⟩)
theorem yA5 (v : AV) : (∃ n, v = .flat (.bool n)) \/ ∀ k : Bool -> Prop, ¬ tP v k := by
 by_cases c : ∃ n, v = .flat (.bool n)
 .exact .inl c
 .exact .inr fun k h => c (by obtain ⟨n, e, _⟩ := nJ h; exact ⟨n, e⟩)
theorem yWk (v : AV) : (∃ n, v = .flat (.string n)) \/ ∀ k : ByteArray -> Prop, ¬ kS v k := by
 by_cases c : ∃ n, v = .flat (.string n)
 .exact .inl c
 .exact .inr fun k h => c (by obtain ⟨n, e, _⟩ := zMe h; exact ⟨n, e⟩)
theorem yIs (v : AV) : (∃ b o, v = .ptr b o) \/ ∀ k : Nat -> Nat -> Prop, ¬ yD v k := by
 by_cases c : ∃ b o, v = .ptr b o
 .exact .inl c
 .exact .inr fun k h => c (by obtain ⟨b, o, e, _⟩ := uK h; exact ⟨b, o, e⟩)
theorem yBl (n : Nat) (v : AV) : (∃ c, v = .agg n c) \/ ∀ k : (Nat -> AV) -> Prop, ¬ zHa n v k := by
 by_cases c : ∃ x, v = .agg n x
 .exact .inl c
 .exact .inr fun k h => c (by obtain ⟨x, e, _⟩ := yDa h; exact ⟨x, e⟩)
end Go.Proofs.YtkiggdgphbkneaaGreat.Am
