/- Signatures: what a function, a loop, a piece of code takes and gives, told in a row; the printed functions' soundness from it. No program in sight. -/
import Derived.Test.YtkiggdgphbkneaaGreatTopDiskX12
namespace Go.Proofs.YtkiggdgphbkneaaGreat.Am
set_option linter.unusedVariables false
set_option linter.unusedSimpArgs false
inductive Sl
 | i (k : IntKind)
 | b
 | s
 | p
 | g (n : Nat)
 | a
abbrev Cur : List Sl -> Type -> Type
 | [], X => X
 | .i _ :: r, X => Int -> Cur r X
 | .b :: r, X => Bool -> Cur r X
 | .s :: r, X => ByteArray -> Cur r X
 | .p :: r, X => Nat -> Nat -> Cur r X
 | .g _ :: r, X => (Nat -> AV) -> Cur r X
 | .a :: r, X => AV -> Cur r X
abbrev opn {X : Type} : (r : List Sl) -> Cur r X -> List AV -> (X -> Prop) -> Prop
 | [], F, l, fin => match l with | [] => fin F | _ => False
 | .i kd :: r, F, l, fin => match l with | v :: l => kI kd v fun x => opn r (F x) l fin | [] => False
 | .b :: r, F, l, fin => match l with | v :: l => tP v fun x => opn r (F x) l fin | [] => False
 | .s :: r, F, l, fin => match l with | v :: l => kS v fun x => opn r (F x) l fin | [] => False
 | .p :: r, F, l, fin => match l with | v :: l => yD v fun x y => opn r (F x y) l fin | [] => False
 | .g n :: r, F, l, fin => match l with | v :: l => zHa n v fun x => opn r (F x) l fin | [] => False
 | .a :: r, F, l, fin => match l with | v :: l => opn r (F v) l fin | [] => False
abbrev gE : (r : List Sl) -> (List AV -> Mem -> Prop) -> Cur r (Mem -> Prop)
 | [], f => f []
 | .i kd :: r, f => fun x => gE r fun l => f (.flat (.int kd x) :: l)
 | .b :: r, f => fun x => gE r fun l => f (.flat (.bool x) :: l)
 | .s :: r, f => fun x => gE r fun l => f (.flat (.string x) :: l)
 | .p :: r, f => fun x y => gE r fun l => f (.ptr x y :: l)
 | .g n :: r, f => fun x => gE r fun l => f (.agg n x :: l)
 | .a :: r, f => fun x => gE r fun l => f (x :: l)
abbrev All {X : Type} : (r : List Sl) -> Cur r X -> (X -> List AV -> Prop) -> Prop
 | [], F, A => A F []
 | .i kd :: r, F, A => ∀ x, All r (F x) fun f l => A f (.flat (.int kd x) :: l)
 | .b :: r, F, A => ∀ x, All r (F x) fun f l => A f (.flat (.bool x) :: l)
 | .s :: r, F, A => ∀ x, All r (F x) fun f l => A f (.flat (.string x) :: l)
 | .p :: r, F, A => ∀ x y, All r (F x y) fun f l => A f (.ptr x y :: l)
 | .g n :: r, F, A => ∀ x, All r (F x) fun f l => A f (.agg n x :: l)
 | .a :: r, F, A => ∀ x, All r (F x) fun f l => A f (x :: l)
abbrev dP {X Y : Type} : (r : List Sl) -> Cur r X -> Cur r Y -> (X -> Y -> List AV -> Prop) -> Prop
 | [], F, G, A => A F G []
 | .i kd :: r, F, G, A => ∀ x, dP r (F x) (G x) fun f g l => A f g (.flat (.int kd x) :: l)
 | .b :: r, F, G, A => ∀ x, dP r (F x) (G x) fun f g l => A f g (.flat (.bool x) :: l)
 | .s :: r, F, G, A => ∀ x, dP r (F x) (G x) fun f g l => A f g (.flat (.string x) :: l)
 | .p :: r, F, G, A => ∀ x y, dP r (F x y) (G x y) fun f g l => A f g (.ptr x y :: l)
 | .g n :: r, F, G, A => ∀ x, dP r (F x) (G x) fun f g l => A f g (.agg n x :: l)
 | .a :: r, F, G, A => ∀ x, dP r (F x) (G x) fun f g l => A f g (x :: l)
inductive Fit : List Sl -> List AV -> Type
 | nil : Fit [] []
 | i {r l} (kd x) (h : Fit r l) : Fit (.i kd :: r) (.flat (.int kd x) :: l)
 | b {r l} (x) (h : Fit r l) : Fit (.b :: r) (.flat (.bool x) :: l)
 | s {r l} (x) (h : Fit r l) : Fit (.s :: r) (.flat (.string x) :: l)
 | p {r l} (x y) (h : Fit r l) : Fit (.p :: r) (.ptr x y :: l)
 | g {r l} (n x) (h : Fit r l) : Fit (.g n :: r) (.agg n x :: l)
 | a {r l} (x) (h : Fit r l) : Fit (.a :: r) (x :: l)
def ap {X : Type} : {r : List Sl} -> {l : List AV} -> Fit r l -> Cur r X -> X
 | _, _, .nil, F => F
 | _, _, .i _ x h, F => ap h (F x)
 | _, _, .b x h, F => ap h (F x)
 | _, _, .s x h, F => ap h (F x)
 | _, _, .p x y h, F => ap h (F x y)
 | _, _, .g _ x h, F => ap h (F x)
 | _, _, .a x h, F => ap h (F x)
theorem Fit.length {r : List Sl} {l : List AV} (h : Fit r l) : l.length = r.length := by
 induction h <;> simp_all
theorem gX {X : Type} {r : List Sl} {l : List AV} (h : Fit r l) (F : Cur r X) (fin : X -> Prop) : opn r F l fin = fin (ap h F) := by
 induction h with
 | nil => rfl
 | i kd x h ih => unfold opn; dsimp only; rw [zW2]; exact ih (F x)
 | b x h ih => exact ih (F x)
 | s x h ih => exact ih (F x)
 | p x y h ih => exact ih (F x y)
 | g n x h ih => unfold opn; dsimp only; rw [zFz]; exact ih (F x)
 | a x h ih => exact ih (F x)
theorem fK {X : Type} {r : List Sl} {l : List AV} (h : Fit r l) (F : Cur r X) (A : X -> List AV -> Prop) (H : All r F A) : A (ap h F) l := by
 induction h generalizing A with
 | nil => exact H
 | i kd x h ih => exact ih (F x) _ (H x)
 | b x h ih => exact ih (F x) _ (H x)
 | s x h ih => exact ih (F x) _ (H x)
 | p x y h ih => exact ih (F x y) _ (H x y)
 | g n x h ih => exact ih (F x) _ (H x)
 | a x h ih => exact ih (F x) _ (H x)
theorem zNk {X Y : Type} {r : List Sl} {l : List AV} (h : Fit r l) (F : Cur r X) (G : Cur r Y) (A : X -> Y -> List AV -> Prop) (H : dP r F G A) : A (ap h F) (ap h G) l := by
 induction h generalizing A with
 | nil => exact H
 | i kd x h ih => exact ih (F x) (G x) _ (H x)
 | b x h ih => exact ih (F x) (G x) _ (H x)
 | s x h ih => exact ih (F x) (G x) _ (H x)
 | p x y h ih => exact ih (F x y) (G x y) _ (H x y)
 | g n x h ih => exact ih (F x) (G x) _ (H x)
 | a x h ih => exact ih (F x) (G x) _ (H x)
theorem zCn : ∀ (r : List Sl) (l : List AV), Nonempty (Fit r l) \/ ∀ (X : Type) (F : Cur r X) (fin : X -> Prop), ¬ opn r F l fin
 | [], [] => .inl ⟨.nil⟩
 | [], v :: l => .inr fun X F fin h => h
 | q :: r, [] => .inr fun X F fin h => by cases q <;> exact h
 | q :: r, v :: l => by
  have ih := zCn r l
  cases q with
  | i kd =>
   rcases yXd kd v with ⟨x, rfl⟩ | h
   .rcases ih with ⟨⟨t⟩⟩ | ih
    .exact .inl ⟨.i kd x t⟩
    .exact .inr fun X F fin h => ih X (F x) fin (by unfold opn at h; dsimp only at h; rwa [zW2] at h)
   .exact .inr fun X F fin h' => h _ h'
  | b =>
   rcases yA5 v with ⟨x, rfl⟩ | h
   .rcases ih with ⟨⟨t⟩⟩ | ih
    .exact .inl ⟨.b x t⟩
    .exact .inr fun X F fin h => ih X (F x) fin h
   .exact .inr fun X F fin h' => h _ h'
  | s =>
   rcases yWk v with ⟨x, rfl⟩ | h
   .rcases ih with ⟨⟨t⟩⟩ | ih
    .exact .inl ⟨.s x t⟩
    .exact .inr fun X F fin h => ih X (F x) fin h
   .exact .inr fun X F fin h' => h _ h'
  | p =>
   rcases yIs v with ⟨x, y, rfl⟩ | h
   .rcases ih with ⟨⟨t⟩⟩ | ih
    .exact .inl ⟨.p x y t⟩
    .exact .inr fun X F fin h => ih X (F x y) fin h
   .exact .inr fun X F fin h' => h _ h'
  | g n =>
   rcases yBl n v with ⟨x, rfl⟩ | h
   .rcases ih with ⟨⟨t⟩⟩ | ih
    .exact .inl ⟨.g n x t⟩
    .exact .inr fun X F fin h => ih X (F x) fin (by unfold opn at h; dsimp only at h; rwa [zFz] at h)
   .exact .inr fun X F fin h' => h _ h'
  | a =>
   rcases ih with ⟨⟨t⟩⟩ | ih
   .exact .inl ⟨.a v t⟩
   .exact .inr fun X F fin h => ih X (F v) fin h
theorem tN : ∀ (r : List Sl) (A B : List AV -> Mem -> Prop), (∀ l, Fit r l -> A l = B l) -> gE r A = gE r B
 | [], A, B, h => h [] .nil
 | .i kd :: r, A, B, h => funext fun x => tN r _ _ fun l t => h _ (.i kd x t)
 | .b :: r, A, B, h => funext fun x => tN r _ _ fun l t => h _ (.b x t)
 | .s :: r, A, B, h => funext fun x => tN r _ _ fun l t => h _ (.s x t)
 | .p :: r, A, B, h => funext fun x => funext fun y => tN r _ _ fun l t => h _ (.p x y t)
 | .g n :: r, A, B, h => funext fun x => tN r _ _ fun l t => h _ (.g n x t)
 | .a :: r, A, B, h => funext fun x => tN r _ _ fun l t => h _ (.a x t)
abbrev FT (ps rs : List Sl) : Type := Cur ps (Mem -> Cur rs (Mem -> Prop) -> Prop)
abbrev yBh : List AV -> AV
 | [v] => v
 | l => .tup l
def Gs (ps rs : List Sl) (F : FT ps rs) (args : List AV) (m : Mem) (k : KV) : Prop := yT (opn ps F args fun f => f m (gE rs fun l m' => k (yBh l) m'))
theorem ySu (ps rs : List Sl) (F : FT ps rs) (args : List AV) (m : Mem) (k : KV) : Gs ps rs F args m k = opn ps F args fun f => f m (gE rs fun l m' => k (yBh l) m') := rfl
abbrev ext (E : zZ) (n : Nat) (G : List AV -> Mem -> KV -> Prop) : zZ := fun f args m k => match f == n with
 | true => G args m k
 | false => E f args m k
abbrev yUv : zZ := fun _ _ _ _ => yT False
abbrev yPb : LEnv := ⟨fun _ _ _ _ => yT False, fun _ => yT false, fun _ => yT false, fun _ _ _ _ => yT False⟩
theorem xGi (P : Program) (w0 : World) : Sound P w0 yUv := zOn fun f => yHt P w0 f
theorem yV3 {P : Program} {w0 : World} {Γ : zZ} (h : Sound P w0 Γ) {f : FuncId} {G : List AV -> Mem -> KV -> Prop} (e : Γ f = G) : FS P w0 f G := by
 subst e
 exact ⟨h.1 f, h.2 f, h.3 f, h.4 f, h.5 f⟩
theorem yGu {P : Program} {w0 : World} {Γ : zZ} (h : Sound P w0 Γ) {n : Nat} {G : List AV -> Mem -> KV -> Prop} (hG : FS P w0 n G) : Sound P w0 (ext Γ n G) := zOn fun f => by
 cases e : f == n with
 | true =>
  have hf : f = n := by simpa using e
  have : ext Γ n G f = G := by funext args m k; simp only [ext, e]
  rw [this, hf]; exact hG
 | false =>
  have : ext Γ n G f = Γ f := by funext args m k; simp only [ext, e]
  rw [this]; exact yV3 h rfl
structure Xt where
 e : Ex
 ns : List Nat
 nk : List Sl
 kp : List Nat
abbrev xFm : Ex -> Ex -> Bool
 | .normal, .normal => true
 | .exit i, .exit j => i == j
 | .ret, .ret => true
 | _, _ => false
abbrev zBq : List Xt -> Ex -> List Nat
 | [], _ => []
 | x :: r, e => match xFm x.e e with
  | true => x.ns ++ x.kp
  | false => zBq r e
abbrev KA : List Xt -> Type
 | [] => Prop
 | x :: r => Cur x.nk (Mem -> Prop) -> KA r
abbrev apK : (xs : List Xt) -> (Nat -> AV) -> KX -> KA xs -> Prop
 | [], _, _, F => F
 | x :: r, σ, k, F => apK r σ k (F (gE x.nk fun l m => k x.e (only (x.ns ++ x.kp) (l ++ x.kp.map σ)) m))
def yJe (xs : List Xt) (ls : List Nat) : Bool := xs.all fun x => x.kp.all fun j => ls.any (· == j)
theorem iM : ∀ (xs : List Xt) (σ τ : Nat -> AV) (k : KX) (F : KA xs) (ls : List Nat), yJe xs ls = true -> (∀ j ∈ ls, σ j = τ j) -> apK xs σ k F = apK xs τ k F
 | [], σ, τ, k, F, ls, h, e => rfl
 | x :: r, σ, τ, k, F, ls, h, e => by
  simp only [yJe, List.all_cons, Bool.and_eq_true] at h
  have : x.kp.map σ = x.kp.map τ := List.map_congr_left fun j hj => by
   have h1 := List.all_eq_true.1 h.1 j hj
   obtain ⟨i, hi, e1⟩ := List.any_eq_true.1 h1
   have : i = j := by simpa using e1
   exact e j (this ▸ hi)
  show apK r σ k _ = apK r τ k _
  rw [this]
  exact iM r σ τ k _ ls h.2 e
theorem iD (σ : Nat -> AV) : ∀ (ls : List Nat), ∀ j ∈ ls, σ j = only ls (ls.map σ) j
 | [], j, h => by cases h
 | i :: ls, j, h => by
  show σ j = upd (only ls (ls.map σ)) i (σ i) j
  unfold upd
  by_cases c : j = i
  .subst c; simp
  .rw [if_neg c]
   exact iD σ ls j (by simpa [c] using h)
theorem zMb : ∀ (fs : List Nat) (l1 : List AV), fs.length = l1.length -> ∀ (ms : List Nat) (l2 l3 : List AV), ∀ j ∈ fs, only (fs ++ ms) (l1 ++ l2) j = only (fs ++ ms) (l1 ++ l3) j
 | [], l1, h, ms, l2, l3, j, hj => by cases hj
 | i :: fs, [], h, ms, l2, l3, j, hj => by simp at h
 | i :: fs, v :: l1, h, ms, l2, l3, j, hj => by
  show upd _ i v j = upd _ i v j
  unfold upd
  by_cases c : j = i
  .simp [c]
  .simp only [if_neg c]
   exact zMb fs l1 (by simpa using h) ms l2 l3 j (by simpa [c] using hj)
structure PcD where
 ls : List Nat
 lk : List Sl
 xs : List Xt
 F : Cur lk (Mem -> KA xs)
abbrev xK (D : PcD) (σ : Nat -> AV) (m : Mem) (k : KX) : Prop := opn D.lk D.F (D.ls.map σ) fun f => apK D.xs σ k (f m)
theorem zN {P : Program} {Γ : zZ} {Λ : LEnv} {b : Code} (D : PcD) (hΛ : ∀ σ m k, Λ.piece b σ m k = xK D σ m k) (hk : yJe D.xs D.ls = true)
  (h : All D.lk D.F fun f l => ∀ m k, yR6 P Γ Λ D.ls (zBq D.xs) b l m k = apK D.xs (only D.ls l) k (f m)) : zF P Γ Λ b := by
 obtain ⟨ls, lk, xs, F⟩ := D
 dsimp only at hΛ hk h
 refine ⟨fun σ => Nonempty (Fit lk (ls.map σ)), ls, zBq xs, fun σ m k => ?_⟩
 rw [hΛ]
 unfold xK
 rcases zCn lk (ls.map σ) with ⟨⟨t⟩⟩ | hn
 .rw [gX t, fK t F _ h m k, iM xs σ (only ls (ls.map σ)) k _ ls hk (iD σ ls)]
  exact ⟨fun h => ⟨⟨t⟩, h⟩, fun h => h.2⟩
 .exact ⟨fun h => (hn _ _ _ h).elim, fun ⟨⟨t⟩, h2⟩ => by
   rw [gX t, iM xs σ (only ls (ls.map σ)) k _ ls hk (iD σ ls)]
   rw [fK t F _ h m k] at h2
   exact h2⟩
structure LpD where
 fs : List Nat
 fk : List Sl
 ms : List Nat
 gk : List Sl
 xs : List Xt
 R : Cur fk (Cur gk (Mem -> Cur gk (Mem -> Prop) -> KA xs))
 L : Cur fk (Nat -> Cur gk (Mem -> KA xs))
abbrev pY (D : LpD) (σ : Nat -> AV) (m : Mem) (k : KX) : Prop :=
 opn D.fk D.L (D.fs.map σ) fun f => ∃ N, opn D.gk (f N) (D.ms.map σ) fun g => apK D.xs σ k (g m)
theorem xM {P : Program} {Γ : zZ} {Λ : LEnv} {a : Code} (D : LpD)
  (hΛ : ∀ σ m k, Λ.loop a σ m k = pY D σ m k) (hk : (yJe D.xs D.fs && (D.fs.length == D.fk.length)) = true)
  (h0 : All D.fk D.L fun f _ => All D.gk (f 0) fun g _ => ∀ m σ k, apK D.xs σ k (g m) = False)
  (h1 : dP D.fk D.R D.L fun r f _ => ∀ N, dP D.gk r (f (N + 1)) fun r2 f2 _ => ∀ m σ k, apK D.xs σ k (f2 m) = apK D.xs σ k (r2 m (gE D.gk fun l m' => opn D.gk (f N) l fun g => apK D.xs σ k (g m'))))
  (h2 : All D.fk D.R fun r l1 => All D.gk r fun r2 l2 => ∀ m (G : List AV -> Mem -> Prop) k, (wpA P Γ Λ a (only (D.fs ++ D.ms) (l1 ++ l2)) m fun e σ' m' => match e with
   | .normal => G ((D.fs ++ D.ms).map σ') m'
   | .exit id => k (.exit id) (only (zBq D.xs (.exit id)) ((zBq D.xs (.exit id)).map σ')) m'
   | .ret => k .ret (only (zBq D.xs .ret) ((zBq D.xs .ret).map σ')) m') = apK D.xs (only (D.fs ++ D.ms) (l1 ++ l2)) k (r2 m (gE D.gk fun l m' => G (l1 ++ l) m'))) : yI P Γ Λ a := by
 obtain ⟨fs, fk, ms, mk, xs, R, L⟩ := D
 dsimp only at hΛ hk h0 h1 h2
 rw [Bool.and_eq_true] at hk
 have hlen : fs.length = fk.length := by simpa using hk.2
 have key : ∀ {l1 : List AV} (t1 : Fit fk l1) (N : Nat) {l2 : List AV} (t2 : Fit mk l2) (m : Mem) (k : KX) (σ0 : Nat -> AV), (∀ j ∈ fs, σ0 j = only (fs ++ ms) (l1 ++ l2) j) -> rounds P Γ Λ (fs ++ ms) (zBq xs) a N (l1 ++ l2) m k = apK xs σ0 k (ap t2 (ap t1 L N) m) := by
  intro l1 t1 N
  induction N with
  | zero =>
   intro l2 t2 m k σ0 _
   have e1 := fK t1 L _ h0
   exact (fK t2 _ _ e1 m σ0 k).symm
  | succ N ih =>
   intro l2 t2 m k σ0 hσ
   have e1 := zNk t1 R L _ h1 N
   have e2 := zNk t2 _ _ _ e1 m σ0 k
   have e3 := fK t1 R _ h2
   have e4 := fK t2 _ _ e3 m (fun vs m' => rounds P Γ Λ (fs ++ ms) (zBq xs) a N vs m' k) k
   rw [e2]
   refine e4.trans ?_
   rw [iM xs σ0 (only (fs ++ ms) (l1 ++ l2)) k _ fs hk.1 hσ]
   congr 2
   refine congrArg _ (tN mk _ _ fun l t => funext fun m' => ?_)
   rw [gX t]
   exact ih t m' k σ0 fun j hj => (hσ j hj).trans (zMb fs l1 (by rw [hlen]; exact t1.length.symm) ms l2 l j hj)
 refine ⟨fun σ => Nonempty (Fit fk (fs.map σ)) /\ Nonempty (Fit mk (ms.map σ)), fs ++ ms, zBq xs, fun σ m k => ?_⟩
 rw [hΛ]
 unfold pY
 have step : ∀ (t1 : Fit fk (fs.map σ)) (t2 : Fit mk (ms.map σ)) (N : Nat), rounds P Γ Λ (fs ++ ms) (zBq xs) a N ((fs ++ ms).map σ) m k = opn mk (ap t1 L N) (ms.map σ) fun g => apK xs σ k (g m) := fun t1 t2 N => by
  rw [List.map_append, key t1 N t2 m k σ (fun j hj => by rw [<- List.map_append]; exact iD σ (fs ++ ms) j (by simp [hj])), gX t2]
 constructor
 .intro h
  rcases zCn fk (fs.map σ) with ⟨⟨t1⟩⟩ | hn
  .rw [gX t1] at h
   obtain ⟨N, h⟩ := h
   rcases zCn mk (ms.map σ) with ⟨⟨t2⟩⟩ | hn
   .exact ⟨⟨⟨t1⟩, ⟨t2⟩⟩, N, by rw [step t1 t2]; exact h⟩
   .exact (hn _ _ _ h).elim
  .exact (hn _ _ _ h).elim
 .rintro ⟨⟨⟨t1⟩, ⟨t2⟩⟩, N, h⟩
  rw [gX t1]
  exact ⟨N, by rw [<- step t1 t2]; exact h⟩
abbrev XK := (Nat -> AV) -> Mem -> KX -> Prop
abbrev yD5 : List (Nat × XK) -> Nat -> XK
 | [], _ => fun _ _ _ => yT False
 | p :: l, n => match p.1 == n with
  | true => p.2
  | false => yD5 l n
abbrev yR1 : List Nat -> Nat -> Bool
 | [], _ => yT false
 | p :: l, n => match p == n with
  | true => true
  | false => yR1 l n
abbrev yB (lp : List (Nat × XK)) (fz : List Nat) (pn : List Nat) (pc : List (Nat × XK)) : LEnv :=
 ⟨fun a σ m k => match pJ a with | some n => yD5 lp n σ m k | none => yT False, fun id => yR1 fz id,
  fun b => match yYi b with | some n => yR1 pn n | none => yT false, fun b σ m k => match yYi b with | some n => yD5 pc n σ m k | none => yT False⟩
abbrev wP (c : Code) (i : Nat) : Code := (wL c).getD i .skip
abbrev zY (Λ : LEnv) (c : Code) (i : Nat) : Code := ((vT c).filter Λ.cut).getD i .skip
def oks (A : Code -> Prop) (f : Nat -> Code) : Nat -> Nat -> Prop
 | _, 0 => True
 | i, n + 1 => A (f i) /\ oks A f (i + 1) n
theorem zJe {A : Code -> Prop} {f : Nat -> Code} : ∀ (n i : Nat), oks A f i n -> ∀ j, i <= j -> j < i + n -> A (f j)
 | 0, i, _, j, h1, h2 => by omega
 | n + 1, i, h, j, h1, h2 => by
  by_cases c : j = i
  .subst c; exact h.1
  .exact zJe n (i + 1) h.2 j (by omega) (by omega)
theorem xEr {P : Program} {Γ : zZ} {Λ : LEnv} (c : Code) (n np : Nat) (h : oks (yI P Γ Λ) (wP c) 0 n) (h2 : oks (zF P Γ Λ) (zY Λ c) 0 np) (e : (wL c).length = n) (e2 : ((vT c).filter Λ.cut).length = np) : LS P Γ Λ c :=
 yS4 c n e (fun i hi => zJe n 0 h i (by omega) (by omega)) np e2 fun i hi => zJe np 0 h2 i (by omega) (by omega)
def fsB (P : Program) (Λ : LEnv) (fn : Func) (n np k : Nat) : Bool :=
 fn.body.isSome && rN P Λ.frz fn.ntmps (zE fn) && Nat.ble k fn.ntmps && ((wL (zE fn)).length == n) && (((vT (zE fn)).filter Λ.cut).length == np) && P.follows .mixedOrders
theorem yDx {P : Program} {w0 : World} {Γ : zZ} (HΓ : Sound P w0 Γ) {Λ : LEnv} {f : FuncId} {fn : Func} (hf : P.funcs[f]? = some fn) (hgo : ∀ (args : Array Value) (w : World), (callFunc f args).run P w = .ok (.enter f args) w)
  (n : Nat) (h : oks (yI P Γ Λ) (wP (zE fn)) 0 n) (np : Nat) (h2 : oks (zF P Γ Λ) (zY Λ (zE fn)) 0 np)
  {ps rs : List Sl} {F : FT ps rs} (hok : fsB P Λ fn n np ps.length = true) (dr : Bool)
  (e : All ps F fun f l => ∀ m k, eU P Γ Λ fn dr l m k = f m (gE rs fun l m' => k (yBh l) m')) : FS P w0 f (Gs ps rs F) := by
 unfold fsB at hok
 simp only [Bool.and_eq_true, beq_iff_eq] at hok
 obtain ⟨⟨⟨⟨⟨h1, h3⟩, h4⟩, h5⟩, h6⟩, h7⟩ := hok
 have hb : fn.body = some (zE fn) := by
  unfold zE
  cases e : fn.body with
  | none => rw [e] at h1; cases h1
  | some c => rfl
 refine (yJt HΓ h7 hf hb hgo h3 (xEr _ n np h h2 h5 h6) dr (Nat.le_of_ble_eq_true h4)).imp fun args => ?_
 rcases zCn ps args with ⟨⟨t⟩⟩ | h
 .refine .inl fun m k => ?_
  rw [ySu, gX t]
  have := fK t F _ e m k
  rw [this]
  exact propext ⟨fun h => ⟨t.length, h⟩, fun h => h.2⟩
 .exact .inr fun m k hk => h _ _ _ hk
end Go.Proofs.YtkiggdgphbkneaaGreat.Am
