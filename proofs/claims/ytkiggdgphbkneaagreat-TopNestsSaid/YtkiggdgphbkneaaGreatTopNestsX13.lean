/- Signatures: what a function, a loop, a piece of code takes and gives, told in a row; the printed functions' soundness from it. No program in sight. What Go functions ask of what follows them, as plain functions over the abstract machine; the machine asks just that. Written by gen.py. What Go functions ask of what follows them, as plain functions over the abstract machine; the machine asks just that. Written by gen.py. -/
import Derived.Test.YtkiggdgphbkneaaGreatTopNestsX12
namespace Go.Proofs.YtkiggdgphbkneaaGreat.Am
set_option linter.unusedVariables false
set_option linter.unusedSimpArgs false
inductive Sl
 | i (k : IntKind)
 | b
 | s
 | p
 | g (n : Nat)
 | a
abbrev Cur : List Sl → Type → Type
 | [], X => X
 | .i _ :: r, X => Int → Cur r X
 | .b :: r, X => Bool → Cur r X
 | .s :: r, X => ByteArray → Cur r X
 | .p :: r, X => Nat → Nat → Cur r X
 | .g _ :: r, X => (Nat → AV) → Cur r X
 | .a :: r, X => AV → Cur r X
abbrev opn {X : Type} : (r : List Sl) → Cur r X → List AV → (X → Prop) → Prop
 | [], F, l, fin => match l with | [] => fin F | _ => False
 | .i kd :: r, F, l, fin => match l with | v :: l => kI kd v fun x => opn r (F x) l fin | [] => False
 | .b :: r, F, l, fin => match l with | v :: l => kbool v fun x => opn r (F x) l fin | [] => False
 | .s :: r, F, l, fin => match l with | v :: l => kS v fun x => opn r (F x) l fin | [] => False
 | .p :: r, F, l, fin => match l with | v :: l => kptr v fun x y => opn r (F x y) l fin | [] => False
 | .g n :: r, F, l, fin => match l with | v :: l => kaggN n v fun x => opn r (F x) l fin | [] => False
 | .a :: r, F, l, fin => match l with | v :: l => opn r (F v) l fin | [] => False
abbrev shut : (r : List Sl) → (List AV → Mem → Prop) → Cur r (Mem → Prop)
 | [], f => f []
 | .i kd :: r, f => fun x => shut r fun l => f (.flat (.int kd x) :: l)
 | .b :: r, f => fun x => shut r fun l => f (.flat (.bool x) :: l)
 | .s :: r, f => fun x => shut r fun l => f (.flat (.string x) :: l)
 | .p :: r, f => fun x y => shut r fun l => f (.ptr x y :: l)
 | .g n :: r, f => fun x => shut r fun l => f (.agg n x :: l)
 | .a :: r, f => fun x => shut r fun l => f (x :: l)
abbrev All {X : Type} : (r : List Sl) → Cur r X → (X → List AV → Prop) → Prop
 | [], F, A => A F []
 | .i kd :: r, F, A => ∀ x, All r (F x) fun f l => A f (.flat (.int kd x) :: l)
 | .b :: r, F, A => ∀ x, All r (F x) fun f l => A f (.flat (.bool x) :: l)
 | .s :: r, F, A => ∀ x, All r (F x) fun f l => A f (.flat (.string x) :: l)
 | .p :: r, F, A => ∀ x y, All r (F x y) fun f l => A f (.ptr x y :: l)
 | .g n :: r, F, A => ∀ x, All r (F x) fun f l => A f (.agg n x :: l)
 | .a :: r, F, A => ∀ x, All r (F x) fun f l => A f (x :: l)
abbrev All2C {X Y : Type} : (r : List Sl) → Cur r X → Cur r Y → (X → Y → List AV → Prop) → Prop
 | [], F, G, A => A F G []
 | .i kd :: r, F, G, A => ∀ x, All2C r (F x) (G x) fun f g l => A f g (.flat (.int kd x) :: l)
 | .b :: r, F, G, A => ∀ x, All2C r (F x) (G x) fun f g l => A f g (.flat (.bool x) :: l)
 | .s :: r, F, G, A => ∀ x, All2C r (F x) (G x) fun f g l => A f g (.flat (.string x) :: l)
 | .p :: r, F, G, A => ∀ x y, All2C r (F x y) (G x y) fun f g l => A f g (.ptr x y :: l)
 | .g n :: r, F, G, A => ∀ x, All2C r (F x) (G x) fun f g l => A f g (.agg n x :: l)
 | .a :: r, F, G, A => ∀ x, All2C r (F x) (G x) fun f g l => A f g (x :: l)
inductive Fit : List Sl → List AV → Type
 | nil : Fit [] []
 | i {r l} (kd x) (h : Fit r l) : Fit (.i kd :: r) (.flat (.int kd x) :: l)
 | b {r l} (x) (h : Fit r l) : Fit (.b :: r) (.flat (.bool x) :: l)
 | s {r l} (x) (h : Fit r l) : Fit (.s :: r) (.flat (.string x) :: l)
 | p {r l} (x y) (h : Fit r l) : Fit (.p :: r) (.ptr x y :: l)
 | g {r l} (n x) (h : Fit r l) : Fit (.g n :: r) (.agg n x :: l)
 | a {r l} (x) (h : Fit r l) : Fit (.a :: r) (x :: l)
def ap {X : Type} : {r : List Sl} → {l : List AV} → Fit r l → Cur r X → X
 | _, _, .nil, F => F
 | _, _, .i _ x h, F => ap h (F x)
 | _, _, .b x h, F => ap h (F x)
 | _, _, .s x h, F => ap h (F x)
 | _, _, .p x y h, F => ap h (F x y)
 | _, _, .g _ x h, F => ap h (F x)
 | _, _, .a x h, F => ap h (F x)
theorem Fit.length {r : List Sl} {l : List AV} (h : Fit r l) : l.length = r.length := by
 induction h <;> simp_all
theorem opn_ap {X : Type} {r : List Sl} {l : List AV} (h : Fit r l) (F : Cur r X) (fin : X → Prop) : opn r F l fin = fin (ap h F) := by
 induction h with
 | nil => rfl
 | i kd x h ih => unfold opn; dsimp only; rw [kI_flat]; exact ih (F x)
 | b x h ih => exact ih (F x)
 | s x h ih => exact ih (F x)
 | p x y h ih => exact ih (F x y)
 | g n x h ih => unfold opn; dsimp only; rw [kaggN_agg]; exact ih (F x)
 | a x h ih => exact ih (F x)
theorem All_ap {X : Type} {r : List Sl} {l : List AV} (h : Fit r l) (F : Cur r X) (A : X → List AV → Prop) (H : All r F A) : A (ap h F) l := by
 induction h generalizing A with
 | nil => exact H
 | i kd x h ih => exact ih (F x) _ (H x)
 | b x h ih => exact ih (F x) _ (H x)
 | s x h ih => exact ih (F x) _ (H x)
 | p x y h ih => exact ih (F x y) _ (H x y)
 | g n x h ih => exact ih (F x) _ (H x)
 | a x h ih => exact ih (F x) _ (H x)
theorem All2C_ap {X Y : Type} {r : List Sl} {l : List AV} (h : Fit r l) (F : Cur r X) (G : Cur r Y) (A : X → Y → List AV → Prop) (H : All2C r F G A) : A (ap h F) (ap h G) l := by
 induction h generalizing A with
 | nil => exact H
 | i kd x h ih => exact ih (F x) (G x) _ (H x)
 | b x h ih => exact ih (F x) (G x) _ (H x)
 | s x h ih => exact ih (F x) (G x) _ (H x)
 | p x y h ih => exact ih (F x y) (G x y) _ (H x y)
 | g n x h ih => exact ih (F x) (G x) _ (H x)
 | a x h ih => exact ih (F x) (G x) _ (H x)
theorem fit_or : ∀ (r : List Sl) (l : List AV), Nonempty (Fit r l) ∨ ∀ (X : Type) (F : Cur r X) (fin : X → Prop), ¬ opn r F l fin
 | [], [] => .inl ⟨.nil⟩
 | [], v :: l => .inr fun X F fin h => h
 | q :: r, [] => .inr fun X F fin h => by cases q <;> exact h
 | q :: r, v :: l => by
  have ih := fit_or r l
  cases q with
  | i kd =>
   rcases kI_or kd v with ⟨x, rfl⟩ | h
   ·rcases ih with ⟨⟨t⟩⟩ | ih
    ·exact .inl ⟨.i kd x t⟩
    ·exact .inr fun X F fin h => ih X (F x) fin (by unfold opn at h; dsimp only at h; rwa [kI_flat] at h)
   ·exact .inr fun X F fin h' => h _ h'
  | b =>
   rcases kbool_or v with ⟨x, rfl⟩ | h
   ·rcases ih with ⟨⟨t⟩⟩ | ih
    ·exact .inl ⟨.b x t⟩
    ·exact .inr fun X F fin h => ih X (F x) fin h
   ·exact .inr fun X F fin h' => h _ h'
  | s =>
   rcases kS_or v with ⟨x, rfl⟩ | h
   ·rcases ih with ⟨⟨t⟩⟩ | ih
    ·exact .inl ⟨.s x t⟩
    ·exact .inr fun X F fin h => ih X (F x) fin h
   ·exact .inr fun X F fin h' => h _ h'
  | p =>
   rcases kptr_or v with ⟨x, y, rfl⟩ | h
   ·rcases ih with ⟨⟨t⟩⟩ | ih
    ·exact .inl ⟨.p x y t⟩
    ·exact .inr fun X F fin h => ih X (F x y) fin h
   ·exact .inr fun X F fin h' => h _ h'
  | g n =>
   rcases kaggN_or n v with ⟨x, rfl⟩ | h
   ·rcases ih with ⟨⟨t⟩⟩ | ih
    ·exact .inl ⟨.g n x t⟩
    ·exact .inr fun X F fin h => ih X (F x) fin (by unfold opn at h; dsimp only at h; rwa [kaggN_agg] at h)
   ·exact .inr fun X F fin h' => h _ h'
  | a =>
   rcases ih with ⟨⟨t⟩⟩ | ih
   ·exact .inl ⟨.a v t⟩
   ·exact .inr fun X F fin h => ih X (F v) fin h
theorem shut_congr : ∀ (r : List Sl) (A B : List AV → Mem → Prop), (∀ l, Fit r l → A l = B l) → shut r A = shut r B
 | [], A, B, h => h [] .nil
 | .i kd :: r, A, B, h => funext fun x => shut_congr r _ _ fun l t => h _ (.i kd x t)
 | .b :: r, A, B, h => funext fun x => shut_congr r _ _ fun l t => h _ (.b x t)
 | .s :: r, A, B, h => funext fun x => shut_congr r _ _ fun l t => h _ (.s x t)
 | .p :: r, A, B, h => funext fun x => funext fun y => shut_congr r _ _ fun l t => h _ (.p x y t)
 | .g n :: r, A, B, h => funext fun x => shut_congr r _ _ fun l t => h _ (.g n x t)
 | .a :: r, A, B, h => funext fun x => shut_congr r _ _ fun l t => h _ (.a x t)
abbrev FT (ps rs : List Sl) : Type := Cur ps (Mem → Cur rs (Mem → Prop) → Prop)
abbrev tup1 : List AV → AV
 | [v] => v
 | l => .tup l
def Gs (ps rs : List Sl) (F : FT ps rs) (args : List AV) (m : Mem) (k : KV) : Prop := bump (opn ps F args fun f => f m (shut rs fun l m' => k (tup1 l) m'))
theorem gs_eq (ps rs : List Sl) (F : FT ps rs) (args : List AV) (m : Mem) (k : KV) : Gs ps rs F args m k = opn ps F args fun f => f m (shut rs fun l m' => k (tup1 l) m') := rfl
abbrev ext (E : Env) (n : Nat) (G : List AV → Mem → KV → Prop) : Env := fun f args m k => match f == n with
 | true => G args m k
 | false => E f args m k
abbrev env0 : Env := fun _ _ _ _ => bump False
abbrev lam0 : LEnv := ⟨fun _ _ _ _ => bump False, fun _ => bump false, fun _ => bump false, fun _ _ _ _ => bump False⟩
theorem snd0 (P : Program) (w0 : World) : Sound P w0 env0 := sound_of fun f => fs_none P w0 f
theorem fs_at {P : Program} {w0 : World} {Γ : Env} (h : Sound P w0 Γ) {f : FuncId} {G : List AV → Mem → KV → Prop} (e : Γ f = G) : FS P w0 f G := by
 subst e
 exact ⟨h.1 f, h.2 f, h.3 f, h.4 f, h.5 f⟩
theorem snd_ext {P : Program} {w0 : World} {Γ : Env} (h : Sound P w0 Γ) {n : Nat} {G : List AV → Mem → KV → Prop} (hG : FS P w0 n G) : Sound P w0 (ext Γ n G) := sound_of fun f => by
 cases e : f == n with
 | true =>
  have hf : f = n := by simpa using e
  have : ext Γ n G f = G := by funext args m k; simp only [ext, e]
  rw [this, hf]; exact hG
 | false =>
  have : ext Γ n G f = Γ f := by funext args m k; simp only [ext, e]
  rw [this]; exact fs_at h rfl
structure Xt where
 e : Ex
 ns : List Nat
 nk : List Sl
 kp : List Nat
abbrev exeq : Ex → Ex → Bool
 | .normal, .normal => true
 | .exit i, .exit j => i == j
 | .ret, .ret => true
 | _, _ => false
abbrev lxOf : List Xt → Ex → List Nat
 | [], _ => []
 | x :: r, e => match exeq x.e e with
  | true => x.ns ++ x.kp
  | false => lxOf r e
abbrev KA : List Xt → Type
 | [] => Prop
 | x :: r => Cur x.nk (Mem → Prop) → KA r
abbrev apK : (xs : List Xt) → (Nat → AV) → KX → KA xs → Prop
 | [], _, _, F => F
 | x :: r, σ, k, F => apK r σ k (F (shut x.nk fun l m => k x.e (only (x.ns ++ x.kp) (l ++ x.kp.map σ)) m))
def kpIn (xs : List Xt) (ls : List Nat) : Bool := xs.all fun x => x.kp.all fun j => ls.any (· == j)
theorem apK_congr : ∀ (xs : List Xt) (σ τ : Nat → AV) (k : KX) (F : KA xs) (ls : List Nat), kpIn xs ls = true → (∀ j ∈ ls, σ j = τ j) → apK xs σ k F = apK xs τ k F
 | [], σ, τ, k, F, ls, h, e => rfl
 | x :: r, σ, τ, k, F, ls, h, e => by
  simp only [kpIn, List.all_cons, Bool.and_eq_true] at h
  have : x.kp.map σ = x.kp.map τ := List.map_congr_left fun j hj => by
   have h1 := List.all_eq_true.1 h.1 j hj
   obtain ⟨i, hi, e1⟩ := List.any_eq_true.1 h1
   have : i = j := by simpa using e1
   exact e j (this ▸ hi)
  show apK r σ k _ = apK r τ k _
  rw [this]
  exact apK_congr r σ τ k _ ls h.2 e
theorem only_self (σ : Nat → AV) : ∀ (ls : List Nat), ∀ j ∈ ls, σ j = only ls (ls.map σ) j
 | [], j, h => by cases h
 | i :: ls, j, h => by
  show σ j = upd (only ls (ls.map σ)) i (σ i) j
  unfold upd
  by_cases c : j = i
  ·subst c; simp
  ·rw [if_neg c]
   exact only_self σ ls j (by simpa [c] using h)
theorem only_app : ∀ (fs : List Nat) (l1 : List AV), fs.length = l1.length → ∀ (ms : List Nat) (l2 l3 : List AV), ∀ j ∈ fs, only (fs ++ ms) (l1 ++ l2) j = only (fs ++ ms) (l1 ++ l3) j
 | [], l1, h, ms, l2, l3, j, hj => by cases hj
 | i :: fs, [], h, ms, l2, l3, j, hj => by simp at h
 | i :: fs, v :: l1, h, ms, l2, l3, j, hj => by
  show upd _ i v j = upd _ i v j
  unfold upd
  by_cases c : j = i
  ·simp [c]
  ·simp only [if_neg c]
   exact only_app fs l1 (by simpa using h) ms l2 l3 j (by simpa [c] using hj)
structure PcD where
 ls : List Nat
 lk : List Sl
 xs : List Xt
 F : Cur lk (Mem → KA xs)
abbrev pcK (D : PcD) (σ : Nat → AV) (m : Mem) (k : KX) : Prop := opn D.lk D.F (D.ls.map σ) fun f => apK D.xs σ k (f m)
theorem pc_ok {P : Program} {Γ : Env} {Λ : LEnv} {b : Code} (D : PcD) (hΛ : ∀ σ m k, Λ.piece b σ m k = pcK D σ m k) (hk : kpIn D.xs D.ls = true)
  (h : All D.lk D.F fun f l => ∀ m k, once P Γ Λ D.ls (lxOf D.xs) b l m k = apK D.xs (only D.ls l) k (f m)) : PieceOK P Γ Λ b := by
 obtain ⟨ls, lk, xs, F⟩ := D
 dsimp only at hΛ hk h
 refine ⟨fun σ => Nonempty (Fit lk (ls.map σ)), ls, lxOf xs, fun σ m k => ?_⟩
 rw [hΛ]
 unfold pcK
 rcases fit_or lk (ls.map σ) with ⟨⟨t⟩⟩ | hn
 ·rw [opn_ap t, All_ap t F _ h m k, apK_congr xs σ (only ls (ls.map σ)) k _ ls hk (only_self σ ls)]
  exact ⟨fun h => ⟨⟨t⟩, h⟩, fun h => h.2⟩
 ·exact ⟨fun h => (hn _ _ _ h).elim, fun ⟨⟨t⟩, h2⟩ => by
   rw [opn_ap t, apK_congr xs σ (only ls (ls.map σ)) k _ ls hk (only_self σ ls)]
   rw [All_ap t F _ h m k] at h2
   exact h2⟩
structure LpD where
 fs : List Nat
 fk : List Sl
 ms : List Nat
 gk : List Sl
 xs : List Xt
 R : Cur fk (Cur gk (Mem → Cur gk (Mem → Prop) → KA xs))
 L : Cur fk (Nat → Cur gk (Mem → KA xs))
abbrev lpK (D : LpD) (σ : Nat → AV) (m : Mem) (k : KX) : Prop :=
 opn D.fk D.L (D.fs.map σ) fun f => ∃ N, opn D.gk (f N) (D.ms.map σ) fun g => apK D.xs σ k (g m)
theorem lp_ok {P : Program} {Γ : Env} {Λ : LEnv} {a : Code} (D : LpD)
  (hΛ : ∀ σ m k, Λ.loop a σ m k = lpK D σ m k) (hk : (kpIn D.xs D.fs && (D.fs.length == D.fk.length)) = true)
  (h0 : All D.fk D.L fun f _ => All D.gk (f 0) fun g _ => ∀ m σ k, apK D.xs σ k (g m) = False)
  (h1 : All2C D.fk D.R D.L fun r f _ => ∀ N, All2C D.gk r (f (N + 1)) fun r2 f2 _ => ∀ m σ k, apK D.xs σ k (f2 m) = apK D.xs σ k (r2 m (shut D.gk fun l m' => opn D.gk (f N) l fun g => apK D.xs σ k (g m'))))
  (h2 : All D.fk D.R fun r l1 => All D.gk r fun r2 l2 => ∀ m (G : List AV → Mem → Prop) k, (wpA P Γ Λ a (only (D.fs ++ D.ms) (l1 ++ l2)) m fun e σ' m' => match e with
   | .normal => G ((D.fs ++ D.ms).map σ') m'
   | .exit id => k (.exit id) (only (lxOf D.xs (.exit id)) ((lxOf D.xs (.exit id)).map σ')) m'
   | .ret => k .ret (only (lxOf D.xs .ret) ((lxOf D.xs .ret).map σ')) m') = apK D.xs (only (D.fs ++ D.ms) (l1 ++ l2)) k (r2 m (shut D.gk fun l m' => G (l1 ++ l) m'))) : LoopOK P Γ Λ a := by
 obtain ⟨fs, fk, ms, mk, xs, R, L⟩ := D
 dsimp only at hΛ hk h0 h1 h2
 rw [Bool.and_eq_true] at hk
 have hlen : fs.length = fk.length := by simpa using hk.2
 have key : ∀ {l1 : List AV} (t1 : Fit fk l1) (N : Nat) {l2 : List AV} (t2 : Fit mk l2) (m : Mem) (k : KX) (σ0 : Nat → AV), (∀ j ∈ fs, σ0 j = only (fs ++ ms) (l1 ++ l2) j) → rounds P Γ Λ (fs ++ ms) (lxOf xs) a N (l1 ++ l2) m k = apK xs σ0 k (ap t2 (ap t1 L N) m) := by
  intro l1 t1 N
  induction N with
  | zero =>
   intro l2 t2 m k σ0 _
   have e1 := All_ap t1 L _ h0
   exact (All_ap t2 _ _ e1 m σ0 k).symm
  | succ N ih =>
   intro l2 t2 m k σ0 hσ
   have e1 := All2C_ap t1 R L _ h1 N
   have e2 := All2C_ap t2 _ _ _ e1 m σ0 k
   have e3 := All_ap t1 R _ h2
   have e4 := All_ap t2 _ _ e3 m (fun vs m' => rounds P Γ Λ (fs ++ ms) (lxOf xs) a N vs m' k) k
   rw [e2]
   refine e4.trans ?_
   rw [apK_congr xs σ0 (only (fs ++ ms) (l1 ++ l2)) k _ fs hk.1 hσ]
   congr 2
   refine congrArg _ (shut_congr mk _ _ fun l t => funext fun m' => ?_)
   rw [opn_ap t]
   exact ih t m' k σ0 fun j hj => (hσ j hj).trans (only_app fs l1 (by rw [hlen]; exact t1.length.symm) ms l2 l j hj)
 refine ⟨fun σ => Nonempty (Fit fk (fs.map σ)) ∧ Nonempty (Fit mk (ms.map σ)), fs ++ ms, lxOf xs, fun σ m k => ?_⟩
 rw [hΛ]
 unfold lpK
 have step : ∀ (t1 : Fit fk (fs.map σ)) (t2 : Fit mk (ms.map σ)) (N : Nat), rounds P Γ Λ (fs ++ ms) (lxOf xs) a N ((fs ++ ms).map σ) m k = opn mk (ap t1 L N) (ms.map σ) fun g => apK xs σ k (g m) := fun t1 t2 N => by
  rw [List.map_append, key t1 N t2 m k σ (fun j hj => by rw [← List.map_append]; exact only_self σ (fs ++ ms) j (by simp [hj])), opn_ap t2]
 constructor
 ·intro h
  rcases fit_or fk (fs.map σ) with ⟨⟨t1⟩⟩ | hn
  ·rw [opn_ap t1] at h
   obtain ⟨N, h⟩ := h
   rcases fit_or mk (ms.map σ) with ⟨⟨t2⟩⟩ | hn
   ·exact ⟨⟨⟨t1⟩, ⟨t2⟩⟩, N, by rw [step t1 t2]; exact h⟩
   ·exact (hn _ _ _ h).elim
  ·exact (hn _ _ _ h).elim
 ·rintro ⟨⟨⟨t1⟩, ⟨t2⟩⟩, N, h⟩
  rw [opn_ap t1]
  exact ⟨N, by rw [← step t1 t2]; exact h⟩
abbrev XK := (Nat → AV) → Mem → KX → Prop
abbrev lookN : List (Nat × XK) → Nat → XK
 | [], _ => fun _ _ _ => bump False
 | p :: l, n => match p.1 == n with
  | true => p.2
  | false => lookN l n
abbrev hasN : List Nat → Nat → Bool
 | [], _ => bump false
 | p :: l, n => match p == n with
  | true => true
  | false => hasN l n
abbrev lamOf (lp : List (Nat × XK)) (fz : List Nat) (pn : List Nat) (pc : List (Nat × XK)) : LEnv :=
 ⟨fun a σ m k => match firstReg a with | some n => lookN lp n σ m k | none => bump False, fun id => hasN fz id,
  fun b => match keyC b with | some n => hasN pn n | none => bump false, fun b σ m k => match keyC b with | some n => lookN pc n σ m k | none => bump False⟩
abbrev nthL (c : Code) (i : Nat) : Code := (loopsOf c).getD i .skip
abbrev nthP (Λ : LEnv) (c : Code) (i : Nat) : Code := ((secsOf c).filter Λ.cut).getD i .skip
def oks (A : Code → Prop) (f : Nat → Code) : Nat → Nat → Prop
 | _, 0 => True
 | i, n + 1 => A (f i) ∧ oks A f (i + 1) n
theorem oks_get {A : Code → Prop} {f : Nat → Code} : ∀ (n i : Nat), oks A f i n → ∀ j, i ≤ j → j < i + n → A (f j)
 | 0, i, _, j, h1, h2 => by omega
 | n + 1, i, h, j, h1, h2 => by
  by_cases c : j = i
  ·subst c; exact h.1
  ·exact oks_get n (i + 1) h.2 j (by omega) (by omega)
theorem ls_n {P : Program} {Γ : Env} {Λ : LEnv} (c : Code) (n np : Nat) (h : oks (LoopOK P Γ Λ) (nthL c) 0 n) (h2 : oks (PieceOK P Γ Λ) (nthP Λ c) 0 np) (e : (loopsOf c).length = n) (e2 : ((secsOf c).filter Λ.cut).length = np) : LS P Γ Λ c :=
 LS_of c n e (fun i hi => oks_get n 0 h i (by omega) (by omega)) np e2 fun i hi => oks_get np 0 h2 i (by omega) (by omega)
def fsB (P : Program) (Λ : LEnv) (fn : Func) (n np k : Nat) : Bool :=
 fn.body.isSome && okCode P Λ.frz fn.ntmps (bodyOf fn) && Nat.ble k fn.ntmps && ((loopsOf (bodyOf fn)).length == n) && (((secsOf (bodyOf fn)).filter Λ.cut).length == np) && P.follows .mixedOrders
theorem fs_sig {P : Program} {w0 : World} {Γ : Env} (HΓ : Sound P w0 Γ) {Λ : LEnv} {f : FuncId} {fn : Func} (hf : P.funcs[f]? = some fn) (hgo : ∀ (args : Array Value) (w : World), (callFunc f args).run P w = .ok (.enter f args) w)
  (n : Nat) (h : oks (LoopOK P Γ Λ) (nthL (bodyOf fn)) 0 n) (np : Nat) (h2 : oks (PieceOK P Γ Λ) (nthP Λ (bodyOf fn)) 0 np)
  {ps rs : List Sl} {F : FT ps rs} (hok : fsB P Λ fn n np ps.length = true) (dr : Bool)
  (e : All ps F fun f l => ∀ m k, bodyK P Γ Λ fn dr l m k = f m (shut rs fun l m' => k (tup1 l) m')) : FS P w0 f (Gs ps rs F) := by
 unfold fsB at hok
 simp only [Bool.and_eq_true, beq_iff_eq] at hok
 obtain ⟨⟨⟨⟨⟨h1, h3⟩, h4⟩, h5⟩, h6⟩, h7⟩ := hok
 have hb : fn.body = some (bodyOf fn) := by
  unfold bodyOf
  cases e : fn.body with
  | none => rw [e] at h1; cases h1
  | some c => rfl
 refine (fs_body HΓ h7 hf hb hgo h3 (ls_n _ n np h h2 h5 h6) dr (Nat.le_of_ble_eq_true h4)).imp fun args => ?_
 rcases fit_or ps args with ⟨⟨t⟩⟩ | h
 ·refine .inl fun m k => ?_
  rw [gs_eq, opn_ap t]
  have := All_ap t F _ e m k
  rw [this]
  exact propext ⟨fun h => ⟨t.length, h⟩, fun h => h.2⟩
 ·exact .inr fun m k hk => h _ _ _ hk
end Go.Proofs.YtkiggdgphbkneaaGreat.Am
namespace Go.Proofs.YtkiggdgphbkneaaGreat.Am
set_option linter.unusedVariables false
set_option linter.unusedSimpArgs false
set_option linter.constructorNameAsVariable false
set_option maxRecDepth 100000
def Yb0 : ByteArray := ⟨#[116, 100, 104]⟩
def Yb1 : ByteArray := ⟨#[115, 116, 100]⟩
def Yb2 : ByteArray := ⟨#[115]⟩
def Yb3 : ByteArray := ⟨#[115, 100]⟩
def Yb4 : ByteArray := ⟨#[100]⟩
def Yb5 : ByteArray := ⟨#[115, 116]⟩
def Yb6 : ByteArray := ⟨#[106]⟩
def Yb7 : ByteArray := ⟨#[115, 116, 105]⟩
def Yb8 : ByteArray := ⟨#[115, 105]⟩
def Yb9 : ByteArray := ⟨#[116, 105]⟩
def Yb10 : ByteArray := ⟨#[116, 100]⟩
def Yb11 : ByteArray := ⟨#[0, 1, 2, 2, 3, 3, 3, 3, 4, 4, 4, 4, 4, 4, 4, 4, 5, 5, 5, 5, 5, 5, 5, 5, 5, 5, 5, 5, 5, 5, 5, 5, 6, 6, 6, 6, 6, 6, 6, 6, 6, 6, 6, 6, 6, 6, 6, 6, 6, 6, 6, 6, 6, 6, 6, 6, 6, 6, 6, 6, 6, 6, 6, 6, 7, 7, 7, 7, 7, 7, 7, 7, 7, 7, 7, 7, 7, 7, 7, 7, 7, 7, 7, 7, 7, 7, 7, 7, 7, 7, 7, 7, 7, 7, 7, 7, 7, 7, 7, 7, 7, 7, 7, 7, 7, 7, 7, 7, 7, 7, 7, 7, 7, 7, 7, 7, 7, 7, 7, 7, 7, 7, 7, 7, 7, 7, 7, 7, 8, 8, 8, 8, 8, 8, 8, 8, 8, 8, 8, 8, 8, 8, 8, 8, 8, 8, 8, 8, 8, 8, 8, 8, 8, 8, 8, 8, 8, 8, 8, 8, 8, 8, 8, 8, 8, 8, 8, 8, 8, 8, 8, 8, 8, 8, 8, 8, 8, 8, 8, 8, 8, 8, 8, 8, 8, 8, 8, 8, 8, 8, 8, 8, 8, 8, 8, 8, 8, 8, 8, 8, 8, 8, 8, 8, 8, 8, 8, 8, 8, 8, 8, 8, 8, 8, 8, 8, 8, 8, 8, 8, 8, 8, 8, 8, 8, 8, 8, 8, 8, 8, 8, 8, 8, 8, 8, 8, 8, 8, 8, 8, 8, 8, 8, 8, 8, 8, 8, 8, 8, 8, 8, 8, 8, 8, 8, 8]⟩
abbrev zi : AV := (.flat (.int .i64 0))
abbrev zu : AV := (.flat (.int .u32 0))
abbrev zb : AV := (.flat (.bool false))
abbrev zs : AV := (.flat (.string ⟨#[]⟩))
abbrev zp : AV := (.flat (.pointer none))
abbrev zc : AV := (.flat (.int .u8 0))
def Z140 : Nat → AV := lget [zi, zi, zi, zs, zi, zi, zi, zs, zi, zi, zi, zs, zi, zi, zi, zs, zi, zi, zi, zs, zi, zi, zi, zs, zi, zi, zi, zs, zi, zi, zi, zs, zi, zi, zi, zs, zi, zi, zi, zs, zi, zi, zi, zs, zi, zi, zi, zs, zi, zi, zi, zs, zi, zi, zi, zs, zi, zi, zi, zs, zi, zi, zi, zs, zi, zi, zi, zs, zi, zi, zi, zs, zi, zi, zi, zs, zi, zi, zi, zs, zi, zi, zi, zs, zi, zi, zi, zs, zi, zi, zi, zs, zi, zi, zi, zs, zi, zi, zi, zs, zi, zi, zi, zs, zi, zi, zi, zs, zi, zi, zi, zs, zi, zi, zi, zs, zi, zi, zi, zs, zi, zi, zi, zs, zi, zi, zi, zs, zi, zi, zi, zs, zi, zi, zi, zs, zi, zi, zi, zs]
def Z108 : Nat → AV := lget [zi, zi, zi, zs, zi, zi, zi, zs, zi, zi, zi, zs, zi, zi, zi, zs, zi, zi, zi, zs, zi, zi, zi, zs, zi, zi, zi, zs, zi, zi, zi, zs, zi, zi, zi, zs, zi, zi, zi, zs, zi, zi, zi, zs, zi, zi, zi, zs, zi, zi, zi, zs, zi, zi, zi, zs, zi, zi, zi, zs, zi, zi, zi, zs, zi, zi, zi, zs, zi, zi, zi, zs, zi, zi, zi, zs, zi, zi, zi, zs, zi, zi, zi, zs, zi, zi, zi, zs, zi, zi, zi, zs, zi, zi, zi, zs, zi, zi, zi, zs, zi, zi, zi, zs, zi, zi, zi, zs]
def Z60 : Nat → AV := lget [zi, zi, zi, zs, zi, zi, zi, zs, zi, zi, zi, zs, zi, zi, zi, zs, zi, zi, zi, zs, zi, zi, zi, zs, zi, zi, zi, zs, zi, zi, zi, zs, zi, zi, zi, zs, zi, zi, zi, zs, zi, zi, zi, zs, zi, zi, zi, zs, zi, zi, zi, zs, zi, zi, zi, zs, zi, zi, zi, zs]
def Z6 : Nat → AV := lget [(.flat (.int .i64 0)), (.flat (.int .i64 0)), (.flat (.int .i64 0)), (.flat (.int .i64 0)), (.flat (.int .i64 0)), (.flat (.int .u32 0))]
def Z12 : Nat → AV := lget [zi, zi, zi, zi, zi, zu, zi, zi, zi, zi, zi, zu]
def Z40 : Nat → AV := lget [zb, zb, zb, zb, zb, zb, zb, zb, zb, zb, zb, zb, zb, zb, zb, zb, zb, zb, zb, zb, zb, zb, zb, zb, zb, zb, zb, zb, zb, zb, zb, zb, zb, zb, zb, zb, zb, zb, zb, zb]
def Z40b : Nat → AV := lget [zu, zu, zu, zu, zu, zu, zu, zu, zu, zu, zu, zu, zu, zu, zu, zu, zu, zu, zu, zu, zu, zu, zu, zu, zu, zu, zu, zu, zu, zu, zu, zu, zu, zu, zu, zu, zu, zu, zu, zu]
def Z80 : Nat → AV := lget [zb, zb, zb, zb, zb, zb, zb, zb, zb, zb, zb, zb, zb, zb, zb, zb, zb, zb, zb, zb, zb, zb, zb, zb, zb, zb, zb, zb, zb, zb, zb, zb, zb, zb, zb, zb, zb, zb, zb, zb, zu, zu, zu, zu, zu, zu, zu, zu, zu, zu, zu, zu, zu, zu, zu, zu, zu, zu, zu, zu, zu, zu, zu, zu, zu, zu, zu, zu, zu, zu, zu, zu, zu, zu, zu, zu, zu, zu, zu, zu]
def Z10 : Nat → AV := lget [(.flat (.int .i64 0)), (.flat (.int .i64 0)), (.flat (.int .i64 0)), (.flat (.int .i64 0)), (.flat (.int .u32 0)), (.flat (.int .i64 0)), (.flat (.int .i64 0)), (.flat (.int .i64 0)), (.flat (.int .i64 0)), (.flat (.int .u32 0))]
def Z73 : Nat → AV := lget [zu, zu, zu, zu, zu, zu, zu, zu, zu, zu, zu, zu, zu, zu, zu, zu, zu, zu, zu, zu, zu, zu, zu, zu, zu, zu, zu, zu, zu, zu, zu, zu, zu, zu, zu, zu, zb, zb, zu, zu, zu, zu, zu, zu, zu, zu, zu, zu, zu, zu, zu, zu, zu, zu, zu, zu, zu, zu, zu, zu, zu, zu, zu, zu, zu, zu, zu, zu, zu, zu, zu, zb, zi]
def Z7 : Nat → AV := lget [(.flat (.int .i64 0)), (.flat (.pointer none)), (.flat (.chan none)), (.flat (.chan none)), (.flat (.bool false)), (.flat (.int .u32 0)), (.flat (.slice none 0 0))]
def Z7b : Nat → AV := lget [(.flat (.int .i64 0)), (.flat (.pointer none)), (.flat (.pointer none)), (.flat (.int .u32 0)), (.flat (.int .u32 0)), (.flat (.int .u32 0)), (.flat (.int .u32 0))]
def Z8 : Nat → AV := lget [(.flat (.int .i64 0)), (.flat (.pointer none)), (.flat (.pointer none)), (.flat (.slice none 0 0)), (.flat (.int .u32 0)), (.flat (.int .u32 0)), (.flat (.int .u32 0)), (.flat (.int .u32 0))]
def Z8b : Nat → AV := lget [(.flat (.pointer none)), (.flat (.pointer none)), (.flat (.pointer none)), (.flat (.pointer none)), (.flat (.pointer none)), (.flat (.pointer none)), (.flat (.pointer none)), (.flat (.pointer none))]
def Z74 : Nat → AV := lget [zu, zu, zu, zu, zu, zu, zu, zu, zu, zu, zu, zu, zu, zu, zu, zu, zu, zu, zu, zu, zu, zu, zu, zu, zu, zu, zu, zu, zu, zu, zu, zu, zu, zu, zu, zu, zb, zb, zu, zu, zu, zu, zu, zu, zu, zu, zu, zu, zu, zu, zu, zu, zu, zu, zu, zu, zu, zu, zu, zu, zu, zu, zu, zu, zu, zu, zu, zu, zu, zu, zu, zb, zi, zp]
def Z78 : Nat → AV := lget [zu, zu, zu, zu, zu, zu, zu, zu, zu, zu, zu, zu, zu, zu, zu, zu, zu, zu, zu, zu, zu, zu, zu, zu, zu, zu, zu, zu, zu, zu, zu, zu, zu, zu, zu, zu, zb, zb, zu, zu, zu, zu, zu, zu, zu, zu, zu, zu, zu, zu, zu, zu, zu, zu, zu, zu, zu, zu, zu, zu, zu, zu, zu, zu, zu, zu, zu, zu, zu, zu, zu, zb, zi, zp, zp, zi, zi, zi]
def Z54 : Nat → AV := lget [zi, zi, zi, zi, zi, zu, zi, zi, zi, zi, zi, zu, zi, zi, zi, zi, zi, zu, zi, zi, zi, zi, zi, zu, zi, zi, zi, zi, zi, zu, zi, zi, zi, zi, zi, zu, zi, zi, zi, zi, zi, zu, zi, zi, zi, zi, zi, zu, zi, zi, zi, zi, zi, zu]
def Z18 : Nat → AV := lget [zi, zi, zi, zi, zi, zu, zi, zi, zi, zi, zi, zu, zi, zi, zi, zi, zi, zu]
def K32 : List (Nat × LK) := [(0, (.i .i64)), (1, (.i .i64)), (2, (.i .i64)), (3, (.i .i64)), (4, (.i .i64)), (5, (.i .u32))]
def K125 : List (Nat × LK) := [(0, (.i .u32)), (1, (.i .i64)), (2, (.i .i64))]
def E83 : Env := env0
theorem S83 (w0 : World) : Sound Tryz.prog w0 E83 := snd0 _ w0
def F83  (m : Mem) (k : AV → Mem → Prop) : Prop :=
 newK m ⟨140, splice (splice (splice (splice (splice (splice (splice (splice (splice (splice (splice (splice (splice (splice (splice (splice (splice (splice (splice (splice (splice (splice (splice (splice (splice (splice (splice (splice (splice (splice (splice (splice (splice (splice (splice (Z140) 0 4 (upd (upd (upd (upd (lget [(.flat (.int .i64 0)), (.flat (.int .i64 0)), (.flat (.int .i64 0)), (.flat (.string ⟨#[]⟩))]) 0 (.flat (.int .i64 0))) 1 (.flat (.int .i64 0))) 2 (.flat (.int .i64 1))) 3 (.flat (.string Yb0)))) 4 4 (upd (upd (upd (upd (lget [(.flat (.int .i64 0)), (.flat (.int .i64 0)), (.flat (.int .i64 0)), (.flat (.string ⟨#[]⟩))]) 0 (.flat (.int .i64 0))) 1 (.flat (.int .i64 2))) 2 (.flat (.int .i64 2))) 3 (.flat (.string Yb0)))) 8 4 (upd (upd (upd (upd (lget [(.flat (.int .i64 0)), (.flat (.int .i64 0)), (.flat (.int .i64 0)), (.flat (.string ⟨#[]⟩))]) 0 (.flat (.int .i64 0))) 1 (.flat (.int .i64 3))) 2 (.flat (.int .i64 3))) 3 (.flat (.string Yb0)))) 12 4 (upd (upd (upd (upd (lget [(.flat (.int .i64 0)), (.flat (.int .i64 0)), (.flat (.int .i64 0)), (.flat (.string ⟨#[]⟩))]) 0 (.flat (.int .i64 0))) 1 (.flat (.int .i64 4))) 2 (.flat (.int .i64 4))) 3 (.flat (.string Yb1)))) 16 4 (upd (upd (upd (upd (lget [(.flat (.int .i64 0)), (.flat (.int .i64 0)), (.flat (.int .i64 0)), (.flat (.string ⟨#[]⟩))]) 0 (.flat (.int .i64 0))) 1 (.flat (.int .i64 6))) 2 (.flat (.int .i64 5))) 3 (.flat (.string Yb1)))) 20 4 (upd (upd (upd (upd (lget [(.flat (.int .i64 0)), (.flat (.int .i64 0)), (.flat (.int .i64 0)), (.flat (.string ⟨#[]⟩))]) 0 (.flat (.int .i64 0))) 1 (.flat (.int .i64 7))) 2 (.flat (.int .i64 6))) 3 (.flat (.string Yb1)))) 24 4 (upd (upd (upd (upd (lget [(.flat (.int .i64 0)), (.flat (.int .i64 0)), (.flat (.int .i64 0)), (.flat (.string ⟨#[]⟩))]) 0 (.flat (.int .i64 0))) 1 (.flat (.int .i64 8))) 2 (.flat (.int .i64 7))) 3 (.flat (.string Yb2)))) 28 4 (upd (upd (upd (upd (lget [(.flat (.int .i64 0)), (.flat (.int .i64 0)), (.flat (.int .i64 0)), (.flat (.string ⟨#[]⟩))]) 0 (.flat (.int .i64 0))) 1 (.flat (.int .i64 9))) 2 (.flat (.int .i64 8))) 3 (.flat (.string Yb3)))) 32 4 (upd (upd (upd (upd (lget [(.flat (.int .i64 0)), (.flat (.int .i64 0)), (.flat (.int .i64 0)), (.flat (.string ⟨#[]⟩))]) 0 (.flat (.int .i64 0))) 1 (.flat (.int .i64 10))) 2 (.flat (.int .i64 9))) 3 (.flat (.string Yb1)))) 36 4 (upd (upd (upd (upd (lget [(.flat (.int .i64 0)), (.flat (.int .i64 0)), (.flat (.int .i64 0)), (.flat (.string ⟨#[]⟩))]) 0 (.flat (.int .i64 0))) 1 (.flat (.int .i64 11))) 2 (.flat (.int .i64 10))) 3 (.flat (.string Yb1)))) 40 4 (upd (upd (upd (upd (lget [(.flat (.int .i64 0)), (.flat (.int .i64 0)), (.flat (.int .i64 0)), (.flat (.string ⟨#[]⟩))]) 0 (.flat (.int .i64 0))) 1 (.flat (.int .i64 12))) 2 (.flat (.int .i64 11))) 3 (.flat (.string (⟨#[]⟩ : ByteArray))))) 44 4 (upd (upd (upd (upd (lget [(.flat (.int .i64 0)), (.flat (.int .i64 0)), (.flat (.int .i64 0)), (.flat (.string ⟨#[]⟩))]) 0 (.flat (.int .i64 0))) 1 (.flat (.int .i64 13))) 2 (.flat (.int .i64 12))) 3 (.flat (.string (⟨#[]⟩ : ByteArray))))) 48 4 (upd (upd (upd (upd (lget [(.flat (.int .i64 0)), (.flat (.int .i64 0)), (.flat (.int .i64 0)), (.flat (.string ⟨#[]⟩))]) 0 (.flat (.int .i64 0))) 1 (.flat (.int .i64 15))) 2 (.flat (.int .i64 13))) 3 (.flat (.string (⟨#[]⟩ : ByteArray))))) 52 4 (upd (upd (upd (upd (lget [(.flat (.int .i64 0)), (.flat (.int .i64 0)), (.flat (.int .i64 0)), (.flat (.string ⟨#[]⟩))]) 0 (.flat (.int .i64 0))) 1 (.flat (.int .i64 16))) 2 (.flat (.int .i64 14))) 3 (.flat (.string Yb4)))) 56 4 (upd (upd (upd (upd (lget [(.flat (.int .i64 0)), (.flat (.int .i64 0)), (.flat (.int .i64 0)), (.flat (.string ⟨#[]⟩))]) 0 (.flat (.int .i64 0))) 1 (.flat (.int .i64 17))) 2 (.flat (.int .i64 15))) 3 (.flat (.string Yb2)))) 60 4 (upd (upd (upd (upd (lget [(.flat (.int .i64 0)), (.flat (.int .i64 0)), (.flat (.int .i64 0)), (.flat (.string ⟨#[]⟩))]) 0 (.flat (.int .i64 0))) 1 (.flat (.int .i64 18))) 2 (.flat (.int .i64 16))) 3 (.flat (.string Yb4)))) 64 4 (upd (upd (upd (upd (lget [(.flat (.int .i64 0)), (.flat (.int .i64 0)), (.flat (.int .i64 0)), (.flat (.string ⟨#[]⟩))]) 0 (.flat (.int .i64 0))) 1 (.flat (.int .i64 19))) 2 (.flat (.int .i64 17))) 3 (.flat (.string Yb2)))) 68 4 (upd (upd (upd (upd (lget [(.flat (.int .i64 0)), (.flat (.int .i64 0)), (.flat (.int .i64 0)), (.flat (.string ⟨#[]⟩))]) 0 (.flat (.int .i64 0))) 1 (.flat (.int .i64 24))) 2 (.flat (.int .i64 18))) 3 (.flat (.string Yb5)))) 72 4 (upd (upd (upd (upd (lget [(.flat (.int .i64 0)), (.flat (.int .i64 0)), (.flat (.int .i64 0)), (.flat (.string ⟨#[]⟩))]) 0 (.flat (.int .i64 0))) 1 (.flat (.int .i64 25))) 2 (.flat (.int .i64 19))) 3 (.flat (.string Yb5)))) 76 4 (upd (upd (upd (upd (lget [(.flat (.int .i64 0)), (.flat (.int .i64 0)), (.flat (.int .i64 0)), (.flat (.string ⟨#[]⟩))]) 0 (.flat (.int .i64 0))) 1 (.flat (.int .i64 26))) 2 (.flat (.int .i64 20))) 3 (.flat (.string Yb5)))) 80 4 (upd (upd (upd (upd (lget [(.flat (.int .i64 0)), (.flat (.int .i64 0)), (.flat (.int .i64 0)), (.flat (.string ⟨#[]⟩))]) 0 (.flat (.int .i64 0))) 1 (.flat (.int .i64 27))) 2 (.flat (.int .i64 21))) 3 (.flat (.string Yb5)))) 84 4 (upd (upd (upd (upd (lget [(.flat (.int .i64 0)), (.flat (.int .i64 0)), (.flat (.int .i64 0)), (.flat (.string ⟨#[]⟩))]) 0 (.flat (.int .i64 0))) 1 (.flat (.int .i64 32))) 2 (.flat (.int .i64 22))) 3 (.flat (.string Yb1)))) 88 4 (upd (upd (upd (upd (lget [(.flat (.int .i64 0)), (.flat (.int .i64 0)), (.flat (.int .i64 0)), (.flat (.string ⟨#[]⟩))]) 0 (.flat (.int .i64 0))) 1 (.flat (.int .i64 33))) 2 (.flat (.int .i64 23))) 3 (.flat (.string Yb1)))) 92 4 (upd (upd (upd (upd (lget [(.flat (.int .i64 0)), (.flat (.int .i64 0)), (.flat (.int .i64 0)), (.flat (.string ⟨#[]⟩))]) 0 (.flat (.int .i64 0))) 1 (.flat (.int .i64 34))) 2 (.flat (.int .i64 24))) 3 (.flat (.string Yb1)))) 96 4 (upd (upd (upd (upd (lget [(.flat (.int .i64 0)), (.flat (.int .i64 0)), (.flat (.int .i64 0)), (.flat (.string ⟨#[]⟩))]) 0 (.flat (.int .i64 0))) 1 (.flat (.int .i64 35))) 2 (.flat (.int .i64 25))) 3 (.flat (.string Yb1)))) 100 4 (upd (upd (upd (upd (lget [(.flat (.int .i64 0)), (.flat (.int .i64 0)), (.flat (.int .i64 0)), (.flat (.string ⟨#[]⟩))]) 0 (.flat (.int .i64 0))) 1 (.flat (.int .i64 36))) 2 (.flat (.int .i64 26))) 3 (.flat (.string Yb1)))) 104 4 (upd (upd (upd (upd (lget [(.flat (.int .i64 0)), (.flat (.int .i64 0)), (.flat (.int .i64 0)), (.flat (.string ⟨#[]⟩))]) 0 (.flat (.int .i64 0))) 1 (.flat (.int .i64 37))) 2 (.flat (.int .i64 27))) 3 (.flat (.string Yb1)))) 108 4 (upd (upd (upd (upd (lget [(.flat (.int .i64 0)), (.flat (.int .i64 0)), (.flat (.int .i64 0)), (.flat (.string ⟨#[]⟩))]) 0 (.flat (.int .i64 0))) 1 (.flat (.int .i64 38))) 2 (.flat (.int .i64 28))) 3 (.flat (.string Yb1)))) 112 4 (upd (upd (upd (upd (lget [(.flat (.int .i64 0)), (.flat (.int .i64 0)), (.flat (.int .i64 0)), (.flat (.string ⟨#[]⟩))]) 0 (.flat (.int .i64 0))) 1 (.flat (.int .i64 39))) 2 (.flat (.int .i64 29))) 3 (.flat (.string Yb1)))) 116 4 (upd (upd (upd (upd (lget [(.flat (.int .i64 0)), (.flat (.int .i64 0)), (.flat (.int .i64 0)), (.flat (.string ⟨#[]⟩))]) 0 (.flat (.int .i64 0))) 1 (.flat (.int .i64 42))) 2 (.flat (.int .i64 30))) 3 (.flat (.string Yb1)))) 120 4 (upd (upd (upd (upd (lget [(.flat (.int .i64 0)), (.flat (.int .i64 0)), (.flat (.int .i64 0)), (.flat (.string ⟨#[]⟩))]) 0 (.flat (.int .i64 0))) 1 (.flat (.int .i64 43))) 2 (.flat (.int .i64 31))) 3 (.flat (.string Yb1)))) 124 4 (upd (upd (upd (upd (lget [(.flat (.int .i64 0)), (.flat (.int .i64 0)), (.flat (.int .i64 0)), (.flat (.string ⟨#[]⟩))]) 0 (.flat (.int .i64 0))) 1 (.flat (.int .i64 48))) 2 (.flat (.int .i64 32))) 3 (.flat (.string Yb5)))) 128 4 (upd (upd (upd (upd (lget [(.flat (.int .i64 0)), (.flat (.int .i64 0)), (.flat (.int .i64 0)), (.flat (.string ⟨#[]⟩))]) 0 (.flat (.int .i64 0))) 1 (.flat (.int .i64 50))) 2 (.flat (.int .i64 33))) 3 (.flat (.string Yb5)))) 132 4 (upd (upd (upd (upd (lget [(.flat (.int .i64 0)), (.flat (.int .i64 0)), (.flat (.int .i64 0)), (.flat (.string ⟨#[]⟩))]) 0 (.flat (.int .i64 0))) 1 (.flat (.int .i64 52))) 2 (.flat (.int .i64 34))) 3 (.flat (.string Yb5)))) 136 4 (upd (upd (upd (upd (lget [(.flat (.int .i64 0)), (.flat (.int .i64 0)), (.flat (.int .i64 0)), (.flat (.string ⟨#[]⟩))]) 0 (.flat (.int .i64 0))) 1 (.flat (.int .i64 54))) 2 (.flat (.int .i64 35))) 3 (.flat (.string Yb5))), 111, false⟩ fun b2 m1 => k (.sl b2 0 35 (.ex 35)) m1
def G83 := Gs [] [.a] F83
theorem fs83 (w0 : World) : FS Tryz.prog w0 83 G83 := fs_sig (S83 w0) Tryz.func83 Tryz.call83 (Λ := lam0) 0 trivial 0 trivial (by kernel_rfl) false (fun _ _ => by kernel_rfl)
def E84 : Env := ext E83 83 G83
theorem S84 (w0 : World) : Sound Tryz.prog w0 E84 := snd_ext (S83 w0) (fs83 w0)
def F84  (m : Mem) (k : AV → Mem → Prop) : Prop :=
 newK m ⟨108, splice (splice (splice (splice (splice (splice (splice (splice (splice (splice (splice (splice (splice (splice (splice (splice (splice (splice (splice (splice (splice (splice (splice (splice (splice (splice (splice (Z108) 0 4 (upd (upd (upd (upd (lget [(.flat (.int .i64 0)), (.flat (.int .i64 0)), (.flat (.int .i64 0)), (.flat (.string ⟨#[]⟩))]) 0 (.flat (.int .i64 2))) 1 (.flat (.int .i64 0))) 2 (.flat (.int .i64 40))) 3 (.flat (.string Yb6)))) 4 4 (upd (upd (upd (upd (lget [(.flat (.int .i64 0)), (.flat (.int .i64 0)), (.flat (.int .i64 0)), (.flat (.string ⟨#[]⟩))]) 0 (.flat (.int .i64 3))) 1 (.flat (.int .i64 0))) 2 (.flat (.int .i64 41))) 3 (.flat (.string Yb6)))) 8 4 (upd (upd (upd (upd (lget [(.flat (.int .i64 0)), (.flat (.int .i64 0)), (.flat (.int .i64 0)), (.flat (.string ⟨#[]⟩))]) 0 (.flat (.int .i64 4))) 1 (.flat (.int .i64 0))) 2 (.flat (.int .i64 42))) 3 (.flat (.string Yb7)))) 12 4 (upd (upd (upd (upd (lget [(.flat (.int .i64 0)), (.flat (.int .i64 0)), (.flat (.int .i64 0)), (.flat (.string ⟨#[]⟩))]) 0 (.flat (.int .i64 5))) 1 (.flat (.int .i64 0))) 2 (.flat (.int .i64 43))) 3 (.flat (.string Yb7)))) 16 4 (upd (upd (upd (upd (lget [(.flat (.int .i64 0)), (.flat (.int .i64 0)), (.flat (.int .i64 0)), (.flat (.string ⟨#[]⟩))]) 0 (.flat (.int .i64 6))) 1 (.flat (.int .i64 0))) 2 (.flat (.int .i64 44))) 3 (.flat (.string Yb8)))) 20 4 (upd (upd (upd (upd (lget [(.flat (.int .i64 0)), (.flat (.int .i64 0)), (.flat (.int .i64 0)), (.flat (.string ⟨#[]⟩))]) 0 (.flat (.int .i64 7))) 1 (.flat (.int .i64 0))) 2 (.flat (.int .i64 45))) 3 (.flat (.string Yb8)))) 24 4 (upd (upd (upd (upd (lget [(.flat (.int .i64 0)), (.flat (.int .i64 0)), (.flat (.int .i64 0)), (.flat (.string ⟨#[]⟩))]) 0 (.flat (.int .i64 8))) 1 (.flat (.int .i64 0))) 2 (.flat (.int .i64 46))) 3 (.flat (.string Yb7)))) 28 4 (upd (upd (upd (upd (lget [(.flat (.int .i64 0)), (.flat (.int .i64 0)), (.flat (.int .i64 0)), (.flat (.string ⟨#[]⟩))]) 0 (.flat (.int .i64 9))) 1 (.flat (.int .i64 0))) 2 (.flat (.int .i64 47))) 3 (.flat (.string Yb7)))) 32 4 (upd (upd (upd (upd (lget [(.flat (.int .i64 0)), (.flat (.int .i64 0)), (.flat (.int .i64 0)), (.flat (.string ⟨#[]⟩))]) 0 (.flat (.int .i64 10))) 1 (.flat (.int .i64 0))) 2 (.flat (.int .i64 48))) 3 (.flat (.string Yb7)))) 36 4 (upd (upd (upd (upd (lget [(.flat (.int .i64 0)), (.flat (.int .i64 0)), (.flat (.int .i64 0)), (.flat (.string ⟨#[]⟩))]) 0 (.flat (.int .i64 11))) 1 (.flat (.int .i64 0))) 2 (.flat (.int .i64 49))) 3 (.flat (.string Yb7)))) 40 4 (upd (upd (upd (upd (lget [(.flat (.int .i64 0)), (.flat (.int .i64 0)), (.flat (.int .i64 0)), (.flat (.string ⟨#[]⟩))]) 0 (.flat (.int .i64 12))) 1 (.flat (.int .i64 0))) 2 (.flat (.int .i64 50))) 3 (.flat (.string Yb7)))) 44 4 (upd (upd (upd (upd (lget [(.flat (.int .i64 0)), (.flat (.int .i64 0)), (.flat (.int .i64 0)), (.flat (.string ⟨#[]⟩))]) 0 (.flat (.int .i64 13))) 1 (.flat (.int .i64 0))) 2 (.flat (.int .i64 51))) 3 (.flat (.string Yb7)))) 48 4 (upd (upd (upd (upd (lget [(.flat (.int .i64 0)), (.flat (.int .i64 0)), (.flat (.int .i64 0)), (.flat (.string ⟨#[]⟩))]) 0 (.flat (.int .i64 14))) 1 (.flat (.int .i64 0))) 2 (.flat (.int .i64 52))) 3 (.flat (.string Yb7)))) 52 4 (upd (upd (upd (upd (lget [(.flat (.int .i64 0)), (.flat (.int .i64 0)), (.flat (.int .i64 0)), (.flat (.string ⟨#[]⟩))]) 0 (.flat (.int .i64 15))) 1 (.flat (.int .i64 0))) 2 (.flat (.int .i64 53))) 3 (.flat (.string Yb9)))) 56 4 (upd (upd (upd (upd (lget [(.flat (.int .i64 0)), (.flat (.int .i64 0)), (.flat (.int .i64 0)), (.flat (.string ⟨#[]⟩))]) 0 (.flat (.int .i64 17))) 1 (.flat (.int .i64 0))) 2 (.flat (.int .i64 62))) 3 (.flat (.string (⟨#[]⟩ : ByteArray))))) 60 4 (upd (upd (upd (upd (lget [(.flat (.int .i64 0)), (.flat (.int .i64 0)), (.flat (.int .i64 0)), (.flat (.string ⟨#[]⟩))]) 0 (.flat (.int .i64 32))) 1 (.flat (.int .i64 0))) 2 (.flat (.int .i64 66))) 3 (.flat (.string Yb7)))) 64 4 (upd (upd (upd (upd (lget [(.flat (.int .i64 0)), (.flat (.int .i64 0)), (.flat (.int .i64 0)), (.flat (.string ⟨#[]⟩))]) 0 (.flat (.int .i64 33))) 1 (.flat (.int .i64 0))) 2 (.flat (.int .i64 67))) 3 (.flat (.string Yb7)))) 68 4 (upd (upd (upd (upd (lget [(.flat (.int .i64 0)), (.flat (.int .i64 0)), (.flat (.int .i64 0)), (.flat (.string ⟨#[]⟩))]) 0 (.flat (.int .i64 35))) 1 (.flat (.int .i64 0))) 2 (.flat (.int .i64 68))) 3 (.flat (.string Yb7)))) 72 4 (upd (upd (upd (upd (lget [(.flat (.int .i64 0)), (.flat (.int .i64 0)), (.flat (.int .i64 0)), (.flat (.string ⟨#[]⟩))]) 0 (.flat (.int .i64 36))) 1 (.flat (.int .i64 0))) 2 (.flat (.int .i64 69))) 3 (.flat (.string Yb7)))) 76 4 (upd (upd (upd (upd (lget [(.flat (.int .i64 0)), (.flat (.int .i64 0)), (.flat (.int .i64 0)), (.flat (.string ⟨#[]⟩))]) 0 (.flat (.int .i64 37))) 1 (.flat (.int .i64 0))) 2 (.flat (.int .i64 70))) 3 (.flat (.string Yb7)))) 80 4 (upd (upd (upd (upd (lget [(.flat (.int .i64 0)), (.flat (.int .i64 0)), (.flat (.int .i64 0)), (.flat (.string ⟨#[]⟩))]) 0 (.flat (.int .i64 40))) 1 (.flat (.int .i64 0))) 2 (.flat (.int .i64 71))) 3 (.flat (.string Yb7)))) 84 4 (upd (upd (upd (upd (lget [(.flat (.int .i64 0)), (.flat (.int .i64 0)), (.flat (.int .i64 0)), (.flat (.string ⟨#[]⟩))]) 0 (.flat (.int .i64 41))) 1 (.flat (.int .i64 0))) 2 (.flat (.int .i64 72))) 3 (.flat (.string Yb7)))) 88 4 (upd (upd (upd (upd (lget [(.flat (.int .i64 0)), (.flat (.int .i64 0)), (.flat (.int .i64 0)), (.flat (.string ⟨#[]⟩))]) 0 (.flat (.int .i64 43))) 1 (.flat (.int .i64 0))) 2 (.flat (.int .i64 73))) 3 (.flat (.string Yb7)))) 92 4 (upd (upd (upd (upd (lget [(.flat (.int .i64 0)), (.flat (.int .i64 0)), (.flat (.int .i64 0)), (.flat (.string ⟨#[]⟩))]) 0 (.flat (.int .i64 47))) 1 (.flat (.int .i64 0))) 2 (.flat (.int .i64 76))) 3 (.flat (.string (⟨#[]⟩ : ByteArray))))) 96 4 (upd (upd (upd (upd (lget [(.flat (.int .i64 0)), (.flat (.int .i64 0)), (.flat (.int .i64 0)), (.flat (.string ⟨#[]⟩))]) 0 (.flat (.int .i64 48))) 1 (.flat (.int .i64 0))) 2 (.flat (.int .i64 74))) 3 (.flat (.string Yb7)))) 100 4 (upd (upd (upd (upd (lget [(.flat (.int .i64 0)), (.flat (.int .i64 0)), (.flat (.int .i64 0)), (.flat (.string ⟨#[]⟩))]) 0 (.flat (.int .i64 51))) 1 (.flat (.int .i64 0))) 2 (.flat (.int .i64 77))) 3 (.flat (.string (⟨#[]⟩ : ByteArray))))) 104 4 (upd (upd (upd (upd (lget [(.flat (.int .i64 0)), (.flat (.int .i64 0)), (.flat (.int .i64 0)), (.flat (.string ⟨#[]⟩))]) 0 (.flat (.int .i64 56))) 1 (.flat (.int .i64 0))) 2 (.flat (.int .i64 75))) 3 (.flat (.string Yb7))), 111, false⟩ fun b2 m1 => k (.sl b2 0 27 (.ex 27)) m1
def G84 := Gs [] [.a] F84
theorem fs84 (w0 : World) : FS Tryz.prog w0 84 G84 := fs_sig (S84 w0) Tryz.func84 Tryz.call84 (Λ := lam0) 0 trivial 0 trivial (by kernel_rfl) false (fun _ _ => by kernel_rfl)
def E85 : Env := ext E84 84 G84
theorem S85 (w0 : World) : Sound Tryz.prog w0 E85 := snd_ext (S84 w0) (fs84 w0)
def F85  (m : Mem) (k : AV → Mem → Prop) : Prop :=
 newK m ⟨60, splice (splice (splice (splice (splice (splice (splice (splice (splice (splice (splice (splice (splice (splice (splice (Z60) 0 4 (upd (upd (upd (upd (lget [(.flat (.int .i64 0)), (.flat (.int .i64 0)), (.flat (.int .i64 0)), (.flat (.string ⟨#[]⟩))]) 0 (.flat (.int .i64 1))) 1 (.flat (.int .i64 0))) 2 (.flat (.int .i64 36))) 3 (.flat (.string Yb8)))) 4 4 (upd (upd (upd (upd (lget [(.flat (.int .i64 0)), (.flat (.int .i64 0)), (.flat (.int .i64 0)), (.flat (.string ⟨#[]⟩))]) 0 (.flat (.int .i64 1))) 1 (.flat (.int .i64 1))) 2 (.flat (.int .i64 37))) 3 (.flat (.string Yb8)))) 8 4 (upd (upd (upd (upd (lget [(.flat (.int .i64 0)), (.flat (.int .i64 0)), (.flat (.int .i64 0)), (.flat (.string ⟨#[]⟩))]) 0 (.flat (.int .i64 1))) 1 (.flat (.int .i64 16))) 2 (.flat (.int .i64 38))) 3 (.flat (.string Yb8)))) 12 4 (upd (upd (upd (upd (lget [(.flat (.int .i64 0)), (.flat (.int .i64 0)), (.flat (.int .i64 0)), (.flat (.string ⟨#[]⟩))]) 0 (.flat (.int .i64 1))) 1 (.flat (.int .i64 17))) 2 (.flat (.int .i64 39))) 3 (.flat (.string Yb8)))) 16 4 (upd (upd (upd (upd (lget [(.flat (.int .i64 0)), (.flat (.int .i64 0)), (.flat (.int .i64 0)), (.flat (.string ⟨#[]⟩))]) 0 (.flat (.int .i64 16))) 1 (.flat (.int .i64 0))) 2 (.flat (.int .i64 54))) 3 (.flat (.string Yb10)))) 20 4 (upd (upd (upd (upd (lget [(.flat (.int .i64 0)), (.flat (.int .i64 0)), (.flat (.int .i64 0)), (.flat (.string ⟨#[]⟩))]) 0 (.flat (.int .i64 16))) 1 (.flat (.int .i64 4))) 2 (.flat (.int .i64 55))) 3 (.flat (.string Yb10)))) 24 4 (upd (upd (upd (upd (lget [(.flat (.int .i64 0)), (.flat (.int .i64 0)), (.flat (.int .i64 0)), (.flat (.string ⟨#[]⟩))]) 0 (.flat (.int .i64 16))) 1 (.flat (.int .i64 65))) 2 (.flat (.int .i64 56))) 3 (.flat (.string (⟨#[]⟩ : ByteArray))))) 28 4 (upd (upd (upd (upd (lget [(.flat (.int .i64 0)), (.flat (.int .i64 0)), (.flat (.int .i64 0)), (.flat (.string ⟨#[]⟩))]) 0 (.flat (.int .i64 16))) 1 (.flat (.int .i64 66))) 2 (.flat (.int .i64 57))) 3 (.flat (.string (⟨#[]⟩ : ByteArray))))) 32 4 (upd (upd (upd (upd (lget [(.flat (.int .i64 0)), (.flat (.int .i64 0)), (.flat (.int .i64 0)), (.flat (.string ⟨#[]⟩))]) 0 (.flat (.int .i64 16))) 1 (.flat (.int .i64 70))) 2 (.flat (.int .i64 58))) 3 (.flat (.string (⟨#[]⟩ : ByteArray))))) 36 4 (upd (upd (upd (upd (lget [(.flat (.int .i64 0)), (.flat (.int .i64 0)), (.flat (.int .i64 0)), (.flat (.string ⟨#[]⟩))]) 0 (.flat (.int .i64 16))) 1 (.flat (.int .i64 72))) 2 (.flat (.int .i64 59))) 3 (.flat (.string (⟨#[]⟩ : ByteArray))))) 40 4 (upd (upd (upd (upd (lget [(.flat (.int .i64 0)), (.flat (.int .i64 0)), (.flat (.int .i64 0)), (.flat (.string ⟨#[]⟩))]) 0 (.flat (.int .i64 16))) 1 (.flat (.int .i64 88))) 2 (.flat (.int .i64 60))) 3 (.flat (.string (⟨#[]⟩ : ByteArray))))) 44 4 (upd (upd (upd (upd (lget [(.flat (.int .i64 0)), (.flat (.int .i64 0)), (.flat (.int .i64 0)), (.flat (.string ⟨#[]⟩))]) 0 (.flat (.int .i64 16))) 1 (.flat (.int .i64 96))) 2 (.flat (.int .i64 61))) 3 (.flat (.string (⟨#[]⟩ : ByteArray))))) 48 4 (upd (upd (upd (upd (lget [(.flat (.int .i64 0)), (.flat (.int .i64 0)), (.flat (.int .i64 0)), (.flat (.string ⟨#[]⟩))]) 0 (.flat (.int .i64 28))) 1 (.flat (.int .i64 2))) 2 (.flat (.int .i64 63))) 3 (.flat (.string Yb1)))) 52 4 (upd (upd (upd (upd (lget [(.flat (.int .i64 0)), (.flat (.int .i64 0)), (.flat (.int .i64 0)), (.flat (.string ⟨#[]⟩))]) 0 (.flat (.int .i64 28))) 1 (.flat (.int .i64 32))) 2 (.flat (.int .i64 64))) 3 (.flat (.string Yb3)))) 56 4 (upd (upd (upd (upd (lget [(.flat (.int .i64 0)), (.flat (.int .i64 0)), (.flat (.int .i64 0)), (.flat (.string ⟨#[]⟩))]) 0 (.flat (.int .i64 28))) 1 (.flat (.int .i64 33))) 2 (.flat (.int .i64 65))) 3 (.flat (.string Yb3))), 111, false⟩ fun b2 m1 => k (.sl b2 0 15 (.ex 15)) m1
def G85 := Gs [] [.a] F85
theorem fs85 (w0 : World) : FS Tryz.prog w0 85 G85 := fs_sig (S85 w0) Tryz.func85 Tryz.call85 (Λ := lam0) 0 trivial 0 trivial (by kernel_rfl) false (fun _ _ => by kernel_rfl)
def E54 : Env := ext E85 85 G85
theorem S54 (w0 : World) : Sound Tryz.prog w0 E54 := snd_ext (S85 w0) (fs85 w0)
def R54_10 (x_0 : Int) (b_2 o_2 : Nat) (x_4 : Int) (v_5 : AV) (x_6 : Int) (m : Mem) (kn : Int → Mem → Prop) (k2 : Mem → Prop) (kr : Bool → Mem → Prop) : Prop :=
 klen v_5 fun x9 => kif (decide (x_6 < x9)) (ksl v_5 fun b10 o11 l12 p13 => kif (decide (0 ≤ x_6) && decide (x_6 < l12)) (ldI .i64 m b10 (o11 + (x_6).toNat * 4 + 2) fun x14 => kif (x14 == x_0) (ksl v_5 fun b15 o16 l17 p18 => kif (decide (0 ≤ x_6) && decide (x_6 < l17)) (ldG 4 m b15 (o16 + (x_6).toNat * 4) fun c19 => stG 4 m b_2 o_2 c19 fun m20 => kr true m20) False) (kn (IntKind.wrap .i64 (x_6 + 1)) m)) False) (k2  m)
def L54_10 (x_0 : Int) (b_2 o_2 : Nat) (x_4 : Int) (v_5 : AV) : Nat → Int → Mem → (Mem → Prop) → (Bool → Mem → Prop) → Prop
 | 0, _,  _, _, _ => bump False
 | N + 1, x_6,  m, k2, kr => R54_10 x_0 b_2 o_2 x_4 v_5 x_6 m (fun x_6' m' => L54_10 x_0 b_2 o_2 x_4 v_5 N x_6' m' k2 kr) k2 kr
def P54_9102 (x_0 : Int) (b_2 o_2 : Nat) (x_4 : Int) (v_5 : AV) (m : Mem) (kn : Mem → Prop) (kr : Bool → Mem → Prop) : Prop :=
 ∃ N24, L54_10 x_0 b_2 o_2 x_4 v_5 N24 0 m (fun m21 => kn  m21) (fun x22 m23 => kr x22 m23)
def R54_2 (x_0 : Int) (b_2 o_2 : Nat) (x_4 : Int) (m : Mem) (kn : Int → Mem → Prop) (k0 : Mem → Prop) (kr : Bool → Mem → Prop) : Prop :=
 kif (decide (x_4 < 3)) (F83  m fun v3 m4 => kif (x_4 == 1) (F84  m4 fun v5 m6 => P54_9102 x_0 b_2 o_2 x_4 v5 m6 (fun m25 => kn (IntKind.wrap .i64 (x_4 + 1)) m25) (fun x26 m27 => kr x26 m27)) (kif (x_4 == 2) (F85  m4 fun v7 m8 => P54_9102 x_0 b_2 o_2 x_4 v7 m8 (fun m28 => kn (IntKind.wrap .i64 (x_4 + 1)) m28) (fun x29 m30 => kr x29 m30)) (P54_9102 x_0 b_2 o_2 x_4 v3 m4 (fun m31 => kn (IntKind.wrap .i64 (x_4 + 1)) m31) (fun x32 m33 => kr x32 m33)))) (k0  m)
def L54_2 (x_0 : Int) (b_2 o_2 : Nat) : Nat → Int → Mem → (Mem → Prop) → (Bool → Mem → Prop) → Prop
 | 0, _,  _, _, _ => bump False
 | N + 1, x_4,  m, k0, kr => R54_2 x_0 b_2 o_2 x_4 m (fun x_4' m' => L54_2 x_0 b_2 o_2 N x_4' m' k0 kr) k0 kr
def F54 (x_0 : Int) (m : Mem) (k : (Nat → AV) → Bool → Mem → Prop) : Prop :=
 newK m ⟨4, lget [(.flat (.int .i64 0)), (.flat (.int .i64 0)), (.flat (.int .i64 0)), (.flat (.string ⟨#[]⟩))], 111, false⟩ fun b2 m1 => ∃ N37, L54_2 x_0 b2 0 N37 0 m1 (fun m34 => stG 4 m34 b2 0 (lget [(.flat (.int .i64 0)), (.flat (.int .i64 0)), (.flat (.int .i64 0)), (.flat (.string ⟨#[]⟩))]) fun m38 => ldG 4 m38 b2 0 fun c40 => (Keeps m m38 ∧ (InDomG 4 m c40 ∧ True) ∧ k c40 false m)) (fun x35 m36 => ldG 4 m36 b2 0 fun c39 => (Keeps m m36 ∧ (InDomG 4 m c39 ∧ True) ∧ k c39 x35 m))
def G54 := Gs [.i .i64] [.g 4, .b] F54
def D54_2 : LpD := ⟨[0, 2], [.i .i64, .p], [4], [.i .i64], [⟨.exit 0, [], [], [2]⟩, ⟨.ret, [3], [.b], [2]⟩], R54_2, L54_2⟩
def D54_9102 : PcD := ⟨[0, 2, 4, 5], [.i .i64, .p, .i .i64, .a], [⟨.normal, [], [], [0, 2, 4]⟩, ⟨.ret, [3], [.b], [2]⟩], P54_9102⟩
def D54_10 : LpD := ⟨[0, 2, 4, 5], [.i .i64, .p, .i .i64, .a], [6], [.i .i64], [⟨.exit 2, [], [], [0, 2, 4]⟩, ⟨.ret, [3], [.b], [2]⟩], R54_10, L54_10⟩
def Lam54 : LEnv := lamOf [(2, lpK D54_2), (10, lpK D54_10)] [] [9102] [(9102, pcK D54_9102)]
theorem lok54_10 : LoopOK Tryz.prog E54 Lam54 (nthL (bodyOf Tryz.f54) 1) := lp_ok D54_10 (fun _ _ _ => by kernel_rfl) (by kernel_rfl) (fun _ _ _ _ _ _ _ _ _ => by kernel_rfl) (fun _ _ _ _ _ _ _ _ _ _ => by kernel_rfl) (fun _ _ _ _ _ _ _ _ _ => by kernel_rfl)
theorem pok54_9102 : PieceOK Tryz.prog E54 Lam54 (nthP Lam54 (bodyOf Tryz.f54) 0) := pc_ok D54_9102 (fun _ _ _ => by kernel_rfl) (by kernel_rfl) (fun _ _ _ _ _ _ _ => by kernel_rfl)
theorem lok54_2 : LoopOK Tryz.prog E54 Lam54 (nthL (bodyOf Tryz.f54) 0) := lp_ok D54_2 (fun _ _ _ => by kernel_rfl) (by kernel_rfl) (fun _ _ _ _ _ _ _ => by kernel_rfl) (fun _ _ _ _ _ _ _ _ => by kernel_rfl) (fun _ _ _ _ _ _ _ => by kernel_rfl)
theorem fs54 (w0 : World) : FS Tryz.prog w0 54 G54 := fs_sig (S54 w0) Tryz.func54 Tryz.call54 (Λ := Lam54) 2 ⟨lok54_2, lok54_10, trivial⟩ 1 ⟨pok54_9102, trivial⟩ (by kernel_rfl) true (fun _ _ _ => by kernel_rfl)
def E81 : Env := ext E54 54 G54
theorem S81 (w0 : World) : Sound Tryz.prog w0 E81 := snd_ext (S54 w0) (fs54 w0)
def R81_2 (x_0 : ByteArray) (x_1 : Int) (x_5 : Int) (m : Mem) (kn : Int → Mem → Prop) (k0 : Mem → Prop) (kr : Bool → Mem → Prop) : Prop :=
 kif (decide (x_5 < (↑(x_0.size)))) (kif (decide (0 ≤ x_5) && decide (x_5 < x_0.size)) (kif (((x_0.data.getD (x_5).toNat 0).toNat) == x_1) (kr true m) (kn (IntKind.wrap .i64 (x_5 + 1)) m)) False) (k0  m)
def L81_2 (x_0 : ByteArray) (x_1 : Int) : Nat → Int → Mem → (Mem → Prop) → (Bool → Mem → Prop) → Prop
 | 0, _,  _, _, _ => bump False
 | N + 1, x_5,  m, k0, kr => R81_2 x_0 x_1 x_5 m (fun x_5' m' => L81_2 x_0 x_1 N x_5' m' k0 kr) k0 kr
def F81 (x_0 : ByteArray) (x_1 : Int) (m : Mem) (k : Bool → Mem → Prop) : Prop :=
 ∃ N4, L81_2 x_0 x_1 N4 0 m (fun m1 => (Keeps m m1 ∧ k false m)) (fun x2 m3 => (Keeps m m3 ∧ k x2 m))
def G81 := Gs [.s, .i .u8] [.b] F81
def D81_2 : LpD := ⟨[0, 1], [.s, .i .u8], [5], [.i .i64], [⟨.exit 0, [], [], []⟩, ⟨.ret, [4], [.b], []⟩], R81_2, L81_2⟩
def Lam81 : LEnv := lamOf [(2, lpK D81_2)] [] [] []
theorem lok81_2 : LoopOK Tryz.prog E81 Lam81 (nthL (bodyOf Tryz.f81) 0) := lp_ok D81_2 (fun _ _ _ => by kernel_rfl) (by kernel_rfl) (fun _ _ _ _ _ _ => by kernel_rfl) (fun _ _ _ _ _ _ _ => by kernel_rfl) (fun _ _ _ _ _ _ => by kernel_rfl)
theorem fs81 (w0 : World) : FS Tryz.prog w0 81 G81 := fs_sig (S81 w0) Tryz.func81 Tryz.call81 (Λ := Lam81) 1 ⟨lok81_2, trivial⟩ 0 trivial (by kernel_rfl) true (fun _ _ _ _ => by kernel_rfl)
def E82 : Env := ext E81 81 G81
theorem S82 (w0 : World) : Sound Tryz.prog w0 E82 := snd_ext (S81 w0) (fs81 w0)
def F82 (x_0 : Int) (x_1 : Bool) (m : Mem) (k : Bool → Mem → Prop) : Prop :=
 kif (x_0 == 0) ((Keeps m m ∧ k true m)) (kif x_1 (kif (decide (x_0 > 0)) ((Keeps m m ∧ k (decide (x_0 < 32)) m)) ((Keeps m m ∧ k false m))) ((Keeps m m ∧ k false m)))
def G82 := Gs [.i .i64, .b] [.b] F82
theorem fs82 (w0 : World) : FS Tryz.prog w0 82 G82 := fs_sig (S82 w0) Tryz.func82 Tryz.call82 (Λ := lam0) 0 trivial 0 trivial (by kernel_rfl) true (fun _ _ _ _ => by kernel_rfl)
def E53 : Env := ext E82 82 G82
theorem S53 (w0 : World) : Sound Tryz.prog w0 E53 := snd_ext (S82 w0) (fs82 w0)
def P53_10102 (b_1 o_1 : Nat) (x_5 : ByteArray) (x_6 : Int) (m : Mem) (kr : Bool → Mem → Prop) : Prop :=
 ∃ Fr15 : Nat → Prop, Fr15 b_1 ∧ (ldI .i64 m b_1 (o_1 + 1) fun x16 => F81 x_5 115 m fun x17 m18 => KeepsIn Fr15 m m18 ∧ (F82 x16 x17 m18 fun x19 m20 => KeepsIn Fr15 m18 m20 ∧ (kif x19 (Fr15 b_1 ∧ (ldI .i64 m20 b_1 (o_1 + 2) fun x21 => F81 x_5 116 m20 fun x22 m23 => KeepsIn Fr15 m20 m23 ∧ (F82 x21 x22 m23 fun x24 m25 => KeepsIn Fr15 m23 m25 ∧ (kif x24 (Fr15 b_1 ∧ (ldI .i64 m25 b_1 (o_1 + 3) fun x26 => F81 x_5 100 m25 fun x27 m28 => KeepsIn Fr15 m25 m28 ∧ (F82 x26 x27 m28 fun x29 m30 => KeepsIn Fr15 m28 m30 ∧ (kif x29 (Fr15 b_1 ∧ (ldI .i64 m30 b_1 (o_1 + 4) fun x31 => F81 x_5 104 m30 fun x32 m33 => KeepsIn Fr15 m30 m33 ∧ (F82 x31 x32 m33 fun x34 m35 => KeepsIn Fr15 m33 m35 ∧ (kif x34 (Fr15 b_1 ∧ (ldI .u32 m35 b_1 (o_1 + 5) fun x36 => kr (decide (x36 ≤ x_6)) m35)) (kr false m35))))) (kr false m30))))) (kr false m25))))) (kr false m20))))
def F53 (c_0 : Nat → AV) (m : Mem) (k : Bool → Mem → Prop) : Prop :=
 newK m ⟨6, c_0, 32, false⟩ fun b2 m1 => ldI .i64 m1 b2 0 fun x3 => F54 x3 m1 fun c4 x5 m6 => newK m6 ⟨4, lget [(.flat (.int .i64 0)), (.flat (.int .i64 0)), (.flat (.int .i64 0)), (.flat (.string ⟨#[]⟩))], 111, false⟩ fun b8 m7 => stG 4 m7 b8 0 c4 fun m9 => kif (!x5) ((Keeps m m9 ∧ k false m)) (ldS m9 b8 3 fun x10 => F81 x10 105 m9 fun x11 m12 => kif x11 (P53_10102 b2 0 x10 65535 m12 (fun x37 m38 => (Keeps m m38 ∧ k x37 m))) (F81 x10 106 m12 fun x13 m14 => kif x13 (P53_10102 b2 0 x10 67108863 m14 (fun x39 m40 => (Keeps m m40 ∧ k x39 m))) (P53_10102 b2 0 x10 0 m14 (fun x41 m42 => (Keeps m m42 ∧ k x41 m)))))
def G53 := Gs [.g 6] [.b] F53
def D53_10102 : PcD := ⟨[1, 5, 6], [.p, .s, .i .u32], [⟨.ret, [2], [.b], []⟩], P53_10102⟩
def Lam53 : LEnv := lamOf [] [10] [10102] [(10102, pcK D53_10102)]
theorem pok53_10102 : PieceOK Tryz.prog E53 Lam53 (nthP Lam53 (bodyOf Tryz.f53) 0) := pc_ok D53_10102 (fun _ _ _ => by kernel_rfl) (by kernel_rfl) (fun _ _ _ _ _ _ => by kernel_rfl)
theorem fs53 (w0 : World) : FS Tryz.prog w0 53 G53 := fs_sig (S53 w0) Tryz.func53 Tryz.call53 (Λ := Lam53) 0 trivial 1 ⟨pok53_10102, trivial⟩ (by kernel_rfl) true (fun _ _ _ => by kernel_rfl)
def E37 : Env := ext E53 53 G53
theorem S37 (w0 : World) : Sound Tryz.prog w0 E37 := snd_ext (S53 w0) (fs53 w0)
def P37_10004 (b_4 o_4 : Nat) (x_6 : Int) (x_67 : Bool) (m : Mem) (kn : Int → Mem → Prop) : Prop :=
 kif x_67 (ldI .i64 m b_4 (o_4 + 1) fun x26 => kn (bits .or .u32 (bits .or .u32 x_6 33554432) (IntKind.wrap .u32 (IntKind.wrap .i64 (x26 - 64)))) m) (ldI .i64 m b_4 (o_4 + 0) fun x27 => kif (x27 == 16) (ldI .i64 m b_4 (o_4 + 1) fun x28 => kn (bits .or .u32 x_6 (IntKind.wrap .u32 ((IntKind.wrap .u32 x28) * 2097152))) m) (kn x_6 m))
def P37_6004 (b_4 o_4 : Nat) (x_6 : Int) (x_43 : Bool) (m : Mem) (kn : Int → Mem → Prop) : Prop :=
 kif x_43 (ldI .i64 m b_4 (o_4 + 1) fun x21 => kn (bits .or .u32 x_6 (IntKind.wrap .u32 x21)) m) (ldI .i64 m b_4 (o_4 + 0) fun x22 => kif (x22 == 1) (ldI .i64 m b_4 (o_4 + 1) fun x23 => kn (bits .or .u32 x_6 (IntKind.wrap .u32 ((IntKind.wrap .u32 x23) * 65536))) m) (ldI .i64 m b_4 (o_4 + 0) fun x24 => kif (x24 == 16) (ldI .i64 m b_4 (o_4 + 1) fun x25 => P37_10004 b_4 o_4 x_6 (decide (x25 ≥ 64)) m (fun x29 m30 => kn x29 m30)) (P37_10004 b_4 o_4 x_6 false m (fun x31 m32 => kn x31 m32))))
def F37 (c_0 : Nat → AV) (m : Mem) (k : Int → Bool → Mem → Prop) : Prop :=
 newK m ⟨6, c_0, 32, false⟩ fun b2 m1 => ldG 6 m1 b2 0 fun c3 => F53 c3 m1 fun x4 m5 => kif (!x4) ((Keeps m m5 ∧ k 0 false m)) (ldI .i64 m5 b2 0 fun x6 => F54 x6 m5 fun c7 x8 m9 => newK m9 ⟨4, lget [(.flat (.int .i64 0)), (.flat (.int .i64 0)), (.flat (.int .i64 0)), (.flat (.string ⟨#[]⟩))], 111, false⟩ fun b11 m10 => stG 4 m10 b11 0 c7 fun m12 => ldI .i64 m12 b11 0 fun x13 => ldI .i64 m12 b2 1 fun x14 => ldI .i64 m12 b2 2 fun x15 => ldI .i64 m12 b2 3 fun x16 => ldI .i64 m12 b2 4 fun x17 => ldI .u32 m12 b2 5 fun x18 => ldI .i64 m12 b11 0 fun x19 => kif (x19 == 0) (P37_6004 b11 0 (bits .or .u32 (bits .or .u32 (bits .or .u32 (bits .or .u32 (bits .or .u32 (IntKind.wrap .u32 ((IntKind.wrap .u32 x13) * 67108864)) (IntKind.wrap .u32 ((IntKind.wrap .u32 x14) * 2097152))) (IntKind.wrap .u32 ((IntKind.wrap .u32 x15) * 65536))) (IntKind.wrap .u32 ((IntKind.wrap .u32 x16) * 2048))) (IntKind.wrap .u32 ((IntKind.wrap .u32 x17) * 64))) x18) true m12 (fun x33 m34 => (Keeps m m34 ∧ k x33 true m))) (ldI .i64 m12 b11 0 fun x20 => P37_6004 b11 0 (bits .or .u32 (bits .or .u32 (bits .or .u32 (bits .or .u32 (bits .or .u32 (IntKind.wrap .u32 ((IntKind.wrap .u32 x13) * 67108864)) (IntKind.wrap .u32 ((IntKind.wrap .u32 x14) * 2097152))) (IntKind.wrap .u32 ((IntKind.wrap .u32 x15) * 65536))) (IntKind.wrap .u32 ((IntKind.wrap .u32 x16) * 2048))) (IntKind.wrap .u32 ((IntKind.wrap .u32 x17) * 64))) x18) (x20 == 28) m12 (fun x35 m36 => (Keeps m m36 ∧ k x35 true m))))
def G37 := Gs [.g 6] [.i .u32, .b] F37
def D37_6004 : PcD := ⟨[4, 6, 43], [.p, .i .u32, .b], [⟨.normal, [6], [.i .u32], []⟩], P37_6004⟩
def D37_10004 : PcD := ⟨[4, 6, 67], [.p, .i .u32, .b], [⟨.normal, [6], [.i .u32], []⟩], P37_10004⟩
def Lam37 : LEnv := lamOf [] [] [6004, 10004] [(6004, pcK D37_6004), (10004, pcK D37_10004)]
theorem pok37_10004 : PieceOK Tryz.prog E37 Lam37 (nthP Lam37 (bodyOf Tryz.f37) 1) := pc_ok D37_10004 (fun _ _ _ => by kernel_rfl) (by kernel_rfl) (fun _ _ _ _ _ _ => by kernel_rfl)
theorem pok37_6004 : PieceOK Tryz.prog E37 Lam37 (nthP Lam37 (bodyOf Tryz.f37) 0) := pc_ok D37_6004 (fun _ _ _ => by kernel_rfl) (by kernel_rfl) (fun _ _ _ _ _ _ => by kernel_rfl)
theorem fs37 (w0 : World) : FS Tryz.prog w0 37 G37 := fs_sig (S37 w0) Tryz.func37 Tryz.call37 (Λ := Lam37) 0 trivial 2 ⟨pok37_6004, pok37_10004, trivial⟩ (by kernel_rfl) true (fun _ _ _ => by kernel_rfl)
def E16 : Env := ext E37 37 G37
theorem S16 (w0 : World) : Sound Tryz.prog w0 E16 := snd_ext (S37 w0) (fs37 w0)
def R16_3 (v_0 : AV) (v_3 : AV) (x_4 : Int) (m : Mem) (kn : AV → Int → Mem → Prop) (k0 : AV → Mem → Prop) : Prop :=
 klen v_0 fun x1 => kif (decide (x_4 < x1)) (ksl v_0 fun b2 o3 l4 p5 => kif (decide (0 ≤ x_4) && decide (x_4 < l4)) (ldG 6 m b2 (o3 + (x_4).toNat * 6) fun c6 => F37 c6 m fun x7 x8 m9 => newK m9 ⟨4, upd (upd (upd (upd (lget [(.flat (.int .u8 0)), (.flat (.int .u8 0)), (.flat (.int .u8 0)), (.flat (.int .u8 0))]) 0 (.flat (.int .u8 (IntKind.wrap .u8 (x7.fdiv 16777216))))) 1 (.flat (.int .u8 (IntKind.wrap .u8 (x7.fdiv 65536))))) 2 (.flat (.int .u8 (IntKind.wrap .u8 (x7.fdiv 256))))) 3 (.flat (.int .u8 (IntKind.wrap .u8 x7))), 5, false⟩ fun b11 m10 => appS 1 1 5 v_3 (.sl b11 0 4 (.ex 4)) m10 fun v12 m13 => kn v12 (IntKind.wrap .i64 (x_4 + 1)) m13) False) (k0 v_3 m)
def L16_3 (v_0 : AV) : Nat → AV → Int → Mem → (AV → Mem → Prop) → Prop
 | 0, _, _,  _, _ => bump False
 | N + 1, v_3, x_4,  m, k0 => R16_3 v_0 v_3 x_4 m (fun v_3' x_4' m' => L16_3 v_0 N v_3' x_4' m' k0) k0
def F16 (v_0 : AV) (m : Mem) (k : AV → Mem → Prop) : Prop :=
 ∃ N16, L16_3 v_0 N16 (.flat (.slice none 0 0)) 0 m (fun v14 m15 => k v14 m15)
def G16 := Gs [.a] [.a] F16
def D16_3 : LpD := ⟨[0], [.a], [3, 4], [.a, .i .i64], [⟨.exit 0, [3], [.a], []⟩], R16_3, L16_3⟩
def Lam16 : LEnv := lamOf [(3, lpK D16_3)] [] [] []
theorem lok16_3 : LoopOK Tryz.prog E16 Lam16 (nthL (bodyOf Tryz.f16) 0) := lp_ok D16_3 (fun _ _ _ => by kernel_rfl) (by kernel_rfl) (fun _ _ _ _ _ _ => by kernel_rfl) (fun _ _ _ _ _ _ _ => by kernel_rfl) (fun _ _ _ _ _ _ => by kernel_rfl)
theorem fs16 (w0 : World) : FS Tryz.prog w0 16 G16 := fs_sig (S16 w0) Tryz.func16 Tryz.call16 (Λ := Lam16) 1 ⟨lok16_3, trivial⟩ 0 trivial (by kernel_rfl) false (fun _ _ _ => by kernel_rfl)
def E17 : Env := ext E16 16 G16
theorem S17 (w0 : World) : Sound Tryz.prog w0 E17 := snd_ext (S16 w0) (fs16 w0)
def R17_3 (v_0 : AV) (v_3 : AV) (x_4 : Int) (m : Mem) (kn : AV → Int → Mem → Prop) (k0 : AV → Mem → Prop) : Prop :=
 klen v_0 fun x1 => kif (decide (x_4 < x1)) (ksl v_0 fun b2 o3 l4 p5 => kif (decide (0 ≤ x_4) && decide (x_4 < l4)) (ldA m b2 (o3 + (x_4).toNat * 1) fun v6 => appS 6 48 32 v_3 v6 m fun v7 m8 => kn v7 (IntKind.wrap .i64 (x_4 + 1)) m8) False) (k0 v_3 m)
def L17_3 (v_0 : AV) : Nat → AV → Int → Mem → (AV → Mem → Prop) → Prop
 | 0, _, _,  _, _ => bump False
 | N + 1, v_3, x_4,  m, k0 => R17_3 v_0 v_3 x_4 m (fun v_3' x_4' m' => L17_3 v_0 N v_3' x_4' m' k0) k0
def F17 (v_0 : AV) (m : Mem) (k : AV → Mem → Prop) : Prop :=
 ∃ N11, L17_3 v_0 N11 (.flat (.slice none 0 0)) 0 m (fun v9 m10 => k v9 m10)
def G17 := Gs [.a] [.a] F17
def D17_3 : LpD := ⟨[0], [.a], [3, 4], [.a, .i .i64], [⟨.exit 0, [3], [.a], []⟩], R17_3, L17_3⟩
def Lam17 : LEnv := lamOf [(3, lpK D17_3)] [] [] []
theorem lok17_3 : LoopOK Tryz.prog E17 Lam17 (nthL (bodyOf Tryz.f17) 0) := lp_ok D17_3 (fun _ _ _ => by kernel_rfl) (by kernel_rfl) (fun _ _ _ _ _ _ => by kernel_rfl) (fun _ _ _ _ _ _ _ => by kernel_rfl) (fun _ _ _ _ _ _ => by kernel_rfl)
theorem fs17 (w0 : World) : FS Tryz.prog w0 17 G17 := fs_sig (S17 w0) Tryz.func17 Tryz.call17 (Λ := Lam17) 1 ⟨lok17_3, trivial⟩ 0 trivial (by kernel_rfl) false (fun _ _ _ => by kernel_rfl)
def E22 : Env := ext E17 17 G17
theorem S22 (w0 : World) : Sound Tryz.prog w0 E22 := snd_ext (S17 w0) (fs17 w0)
def F22 (x_0 : Int) (x_1 : Int) (x_2 : Int) (x_3 : Int) (m : Mem) (k : AV → Mem → Prop) : Prop :=
 newK m ⟨12, splice (splice (Z12) 0 6 (upd (upd (upd (upd (Z6) 0 (.flat (.int .i64 x_0))) 1 (.flat (.int .i64 x_1))) 2 (.flat (.int .i64 x_2))) 5 (.flat (.int .u32 (bits .and .u32 (IntKind.wrap .u32 (IntKind.wrap .i64 ((IntKind.wrap .i64 (0 - x_3)) - 1))) 65535))))) 6 6 (upd (Z6) 0 (.flat (.int .i64 1))), 32, false⟩ fun b2 m1 => k (.sl b2 0 2 (.ex 2)) m1
def G22 := Gs [.i .i64, .i .i64, .i .i64, .i .i64] [.a] F22
theorem fs22 (w0 : World) : FS Tryz.prog w0 22 G22 := fs_sig (S22 w0) Tryz.func22 Tryz.call22 (Λ := lam0) 0 trivial 0 trivial (by kernel_rfl) false (fun _ _ _ _ _ _ => by kernel_rfl)
def E19 : Env := ext E22 22 G22
theorem S19 (w0 : World) : Sound Tryz.prog w0 E19 := snd_ext (S22 w0) (fs22 w0)
def F19  (m : Mem) (k : AV → Mem → Prop) : Prop :=
 F22 42 0 0 0 m fun v1 m2 => k v1 m2
def G19 := Gs [] [.a] F19
theorem fs19 (w0 : World) : FS Tryz.prog w0 19 G19 := fs_sig (S19 w0) Tryz.func19 Tryz.call19 (Λ := lam0) 0 trivial 0 trivial (by kernel_rfl) false (fun _ _ => by kernel_rfl)
end Go.Proofs.YtkiggdgphbkneaaGreat.Am
namespace Go.Proofs.YtkiggdgphbkneaaGreat.Am
set_option linter.unusedVariables false
set_option linter.unusedSimpArgs false
set_option linter.constructorNameAsVariable false
set_option maxRecDepth 100000
def E21 : Env := ext E19 19 G19
theorem S21 (w0 : World) : Sound Tryz.prog w0 E21 := snd_ext (S19 w0) (fs19 w0)
def F21 (x_0 : Int) (x_1 : Int) (x_2 : Int) (x_3 : Int) (m : Mem) (k : (Nat → AV) → Mem → Prop) : Prop :=
 newK m ⟨6, Z6, 32, false⟩ fun b2 m1 => stG 6 m1 b2 0 (upd (upd (upd (upd (Z6) 0 (.flat (.int .i64 x_0))) 2 (.flat (.int .i64 x_1))) 1 (.flat (.int .i64 x_2))) 5 (.flat (.int .u32 (bits .and .u32 x_3 65535)))) fun m3 => ldG 6 m3 b2 0 fun c4 => (Keeps m m3 ∧ InDomG 6 m c4 ∧ k c4 m)
def G21 := Gs [.i .i64, .i .i64, .i .i64, .i .u32] [.g 6] F21
theorem fs21 (w0 : World) : FS Tryz.prog w0 21 G21 := fs_sig (S21 w0) Tryz.func21 Tryz.call21 (Λ := lam0) 0 trivial 0 trivial (by kernel_rfl) true (fun _ _ _ _ _ _ => by kernel_rfl)
def E24 : Env := ext E21 21 G21
theorem S24 (w0 : World) : Sound Tryz.prog w0 E24 := snd_ext (S21 w0) (fs21 w0)
def F24 (b_0 o_0 : Nat) (x_1 : Int) (m : Mem) (k : Mem → Prop) : Prop :=
 stC m b_0 (o_0 + 75) (.flat (.int .i64 (if (if 32 < x_1 then 32 else x_1) > 1 then (if 32 < x_1 then 32 else x_1) else 1))) fun m1 => k  m1
def G24 := Gs [.p, .i .i64] [] F24
theorem fs24 (w0 : World) : FS Tryz.prog w0 24 G24 := fs_sig (S24 w0) Tryz.func24 Tryz.call24 (Λ := lam0) 0 trivial 0 trivial (by kernel_rfl) false (fun _ _ _ _ _ => by kernel_rfl)
def E30 : Env := ext E24 24 G24
theorem S30 (w0 : World) : Sound Tryz.prog w0 E30 := snd_ext (S24 w0) (fs24 w0)
def F30 (b_0 o_0 : Nat) (m : Mem) (k : AV → Mem → Prop) : Prop :=
 ldA m b_0 (o_0 + 0) fun v1 => k v1 m
def G30 := Gs [.p] [.a] F30
theorem fs30 (w0 : World) : FS Tryz.prog w0 30 G30 := fs_sig (S30 w0) Tryz.func30 Tryz.call30 (Λ := lam0) 0 trivial 0 trivial (by kernel_rfl) false (fun _ _ _ _ => by kernel_rfl)
def E55 : Env := ext E30 30 G30
theorem S55 (w0 : World) : Sound Tryz.prog w0 E55 := snd_ext (S30 w0) (fs30 w0)
def R55_3 (b_0 o_0 : Nat) (v_9 : AV) (x_10 : Int) (v_3 : AV) (x_11 : Int) (m : Mem) (kn : AV → Int → Mem → Prop) (k0 : AV → Mem → Prop) : Prop :=
 kif (decide (x_11 < x_10)) (ksl v_9 fun b3 o4 l5 p6 => kif (decide (0 ≤ x_11) && decide (x_11 < l5)) (ldB m b3 (o4 + (x_11).toNat * 1) fun x7 => kif x7 (newK m ⟨1, upd (lget [(.flat (.int .i64 0))]) 0 (.flat (.int .i64 x_11)), 3, false⟩ fun b9 m8 => appS 1 8 3 v_3 (.sl b9 0 1 (.ex 1)) m8 fun v10 m11 => ldA m11 b_0 (o_0 + 2) fun v12 => ksl v12 fun b13 o14 l15 p16 => kif (decide (0 ≤ x_11) && decide (x_11 < l15)) (stC m11 b13 (o14 + (x_11).toNat * 1) (.flat (.bool false)) fun m17 => kn v10 (IntKind.wrap .i64 (x_11 + 1)) m17) False) (kn v_3 (IntKind.wrap .i64 (x_11 + 1)) m)) False) (k0 v_3 m)
def L55_3 (b_0 o_0 : Nat) (v_9 : AV) (x_10 : Int) : Nat → AV → Int → Mem → (AV → Mem → Prop) → Prop
 | 0, _, _,  _, _ => bump False
 | N + 1, v_3, x_11,  m, k0 => R55_3 b_0 o_0 v_9 x_10 v_3 x_11 m (fun v_3' x_11' m' => L55_3 b_0 o_0 v_9 x_10 N v_3' x_11' m' k0) k0
def F55 (b_0 o_0 : Nat) (m : Mem) (k : AV → Mem → Prop) : Prop :=
 ldA m b_0 (o_0 + 2) fun v1 => klen v1 fun x2 => ∃ N20, L55_3 b_0 o_0 v1 x2 N20 (.flat (.slice none 0 0)) 0 m (fun v18 m19 => k v18 m19)
def G55 := Gs [.p] [.a] F55
def D55_3 : LpD := ⟨[0, 9, 10], [.p, .a, .i .i64], [3, 11], [.a, .i .i64], [⟨.exit 0, [3], [.a], []⟩], R55_3, L55_3⟩
def Lam55 : LEnv := lamOf [(3, lpK D55_3)] [] [] []
theorem lok55_3 : LoopOK Tryz.prog E55 Lam55 (nthL (bodyOf Tryz.f55) 0) := lp_ok D55_3 (fun _ _ _ => by kernel_rfl) (by kernel_rfl) (fun _ _ _ _ _ _ _ _ _ => by kernel_rfl) (fun _ _ _ _ _ _ _ _ _ _ => by kernel_rfl) (fun _ _ _ _ _ _ _ _ _ => by kernel_rfl)
theorem fs55 (w0 : World) : FS Tryz.prog w0 55 G55 := fs_sig (S55 w0) Tryz.func55 Tryz.call55 (Λ := Lam55) 1 ⟨lok55_3, trivial⟩ 0 trivial (by kernel_rfl) false (fun _ _ _ _ => by kernel_rfl)
def E39 : Env := ext E55 55 G55
theorem S39 (w0 : World) : Sound Tryz.prog w0 E39 := snd_ext (S55 w0) (fs55 w0)
def R39_1 (b_0 o_0 : Nat) (v_9 : AV) (x_10 : Int) (x_11 : Int) (m : Mem) (kn : Int → Mem → Prop) (k0 : Mem → Prop) : Prop :=
 kif (decide (x_11 < x_10)) (ksl v_9 fun b11 o12 l13 p14 => kif (decide (0 ≤ x_11) && decide (x_11 < l13)) (ldI .i64 m b11 (o12 + (x_11).toNat * 1) fun x15 => ldA m b_0 (o_0 + 74) fun v16 => bump False) False) (k0  m)
def L39_1 (b_0 o_0 : Nat) (v_9 : AV) (x_10 : Int) : Nat → Int → Mem → (Mem → Prop) → Prop
 | 0, _,  _, _ => bump False
 | N + 1, x_11,  m, k0 => R39_1 b_0 o_0 v_9 x_10 x_11 m (fun x_11' m' => L39_1 b_0 o_0 v_9 x_10 N x_11' m' k0) k0
def F39 (b_0 o_0 : Nat) (m : Mem) (k : Mem → Prop) : Prop :=
 ldA m b_0 (o_0 + 73) fun v1 => kptr v1 fun b2 o3 => F30 b2 o3 m fun v4 m5 => kptr v4 fun b6 o7 => F55 b6 o7 m5 fun v8 m9 => klen v8 fun x10 => ∃ N18, L39_1 b_0 o_0 v8 x10 N18 0 m9 (fun m17 => k  m17)
def G39 := Gs [.p] [] F39
def D39_1 : LpD := ⟨[0, 9, 10], [.p, .a, .i .i64], [11], [.i .i64], [⟨.exit 0, [], [], []⟩], R39_1, L39_1⟩
def Lam39 : LEnv := lamOf [(1, lpK D39_1)] [] [] []
theorem lok39_1 : LoopOK Tryz.prog E39 Lam39 (nthL (bodyOf Tryz.f39) 0) := lp_ok D39_1 (fun _ _ _ => by kernel_rfl) (by kernel_rfl) (fun _ _ _ _ _ _ _ _ => by kernel_rfl) (fun _ _ _ _ _ _ _ _ _ => by kernel_rfl) (fun _ _ _ _ _ _ _ _ => by kernel_rfl)
theorem fs39 (w0 : World) : FS Tryz.prog w0 39 G39 := fs_sig (S39 w0) Tryz.func39 Tryz.call39 (Λ := Lam39) 1 ⟨lok39_1, trivial⟩ 0 trivial (by kernel_rfl) false (fun _ _ _ _ => by kernel_rfl)
def E89 : Env := ext E39 39 G39
theorem S89 (w0 : World) : Sound Tryz.prog w0 E89 := snd_ext (S39 w0) (fs39 w0)
def F89 (b_0 o_0 : Nat) (m : Mem) (k : Int → Bool → Mem → Prop) : Prop :=
 ldA m b_0 (o_0 + 0) fun v1 => klen v1 fun x2 => kif (x2 == 0) ((Keeps m m ∧ k 0 false m)) (ldA m b_0 (o_0 + 0) fun v3 => ksl v3 fun b4 o5 l6 p7 => kif (decide (0 ≤ (0 : Int)) && decide ((0 : Int) < l6)) (ldI .i64 m b4 (o5 + 0 + 0) fun x8 => (Keeps m m ∧ k x8 true m)) False)
def G89 := Gs [.p] [.i .i64, .b] F89
theorem fs89 (w0 : World) : FS Tryz.prog w0 89 G89 := fs_sig (S89 w0) Tryz.func89 Tryz.call89 (Λ := lam0) 0 trivial 0 trivial (by kernel_rfl) true (fun _ _ _ _ => by kernel_rfl)
def E58 : Env := ext E89 89 G89
theorem S58 (w0 : World) : Sound Tryz.prog w0 E58 := snd_ext (S89 w0) (fs89 w0)
def F58 (b_0 o_0 : Nat) (m : Mem) (k : Int → Bool → Mem → Prop) : Prop :=
 ldA m b_0 (o_0 + 1) fun v1 => kptr v1 fun b2 o3 => F89 b2 o3 m fun x4 x5 m6 => (Keeps m m6 ∧ k x4 x5 m)
def G58 := Gs [.p] [.i .i64, .b] F58
theorem fs58 (w0 : World) : FS Tryz.prog w0 58 G58 := fs_sig (S58 w0) Tryz.func58 Tryz.call58 (Λ := lam0) 0 trivial 0 trivial (by kernel_rfl) true (fun _ _ _ _ => by kernel_rfl)
def E59 : Env := ext E58 58 G58
theorem S59 (w0 : World) : Sound Tryz.prog w0 E59 := snd_ext (S58 w0) (fs58 w0)
def F59 (b_0 o_0 : Nat) (x_1 : Bool) (m : Mem) (k : Mem → Prop) : Prop :=
 ldI .u32 m b_0 (o_0 + 39 + 13) fun x1 => stC m b_0 (o_0 + 39 + 13) (.flat (.int .u32 (bits .andNot .u32 x1 1024))) fun m2 => kif x_1 (ldI .u32 m2 b_0 (o_0 + 39 + 13) fun x3 => stC m2 b_0 (o_0 + 39 + 13) (.flat (.int .u32 (bits .or .u32 x3 1024))) fun m4 => k  m4) (k  m2)
def G59 := Gs [.p, .b] [] F59
theorem fs59 (w0 : World) : FS Tryz.prog w0 59 G59 := fs_sig (S59 w0) Tryz.func59 Tryz.call59 (Λ := lam0) 0 trivial 0 trivial (by kernel_rfl) false (fun _ _ _ _ _ => by kernel_rfl)
def E90 : Env := ext E59 59 G59
theorem S90 (w0 : World) : Sound Tryz.prog w0 E90 := snd_ext (S59 w0) (fs59 w0)
def F90 (b_0 o_0 : Nat) (m : Mem) (k : Bool → Mem → Prop) : Prop :=
 ldI .u32 m b_0 (o_0 + 0) fun x1 => ldI .u32 m b_0 (o_0 + 1) fun x2 => (Keeps m m ∧ k ((bits .and .u32 x1 x2) != 0) m)
def G90 := Gs [.p] [.b] F90
theorem fs90 (w0 : World) : FS Tryz.prog w0 90 G90 := fs_sig (S90 w0) Tryz.func90 Tryz.call90 (Λ := lam0) 0 trivial 0 trivial (by kernel_rfl) true (fun _ _ _ _ => by kernel_rfl)
def E60 : Env := ext E90 90 G90
theorem S60 (w0 : World) : Sound Tryz.prog w0 E60 := snd_ext (S90 w0) (fs90 w0)
def F60 (b_0 o_0 : Nat) (m : Mem) (k : Bool → Mem → Prop) : Prop :=
 ldA m b_0 (o_0 + 2) fun v1 => kptr v1 fun b2 o3 => F90 b2 o3 m fun x4 m5 => (Keeps m m5 ∧ k x4 m)
def G60 := Gs [.p] [.b] F60
theorem fs60 (w0 : World) : FS Tryz.prog w0 60 G60 := fs_sig (S60 w0) Tryz.func60 Tryz.call60 (Λ := lam0) 0 trivial 0 trivial (by kernel_rfl) true (fun _ _ _ _ => by kernel_rfl)
def E73 : Env := ext E60 60 G60
theorem S73 (w0 : World) : Sound Tryz.prog w0 E73 := snd_ext (S60 w0) (fs60 w0)
def F73 (b_0 o_0 : Nat) (m : Mem) (k : Bool → Mem → Prop) : Prop :=
 ldI .u32 m b_0 (o_0 + 39 + 13) fun x1 => ldI .u32 m b_0 (o_0 + 39 + 12) fun x2 => (Keeps m m ∧ k ((bits .and .u32 (bits .and .u32 x1 65280) (bits .and .u32 x2 65280)) != 0) m)
def G73 := Gs [.p] [.b] F73
theorem fs73 (w0 : World) : FS Tryz.prog w0 73 G73 := fs_sig (S73 w0) Tryz.func73 Tryz.call73 (Λ := lam0) 0 trivial 0 trivial (by kernel_rfl) true (fun _ _ _ _ => by kernel_rfl)
def E61 : Env := ext E73 73 G73
theorem S61 (w0 : World) : Sound Tryz.prog w0 E61 := snd_ext (S73 w0) (fs73 w0)
def F61 (b_0 o_0 : Nat) (m : Mem) (k : Bool → Mem → Prop) : Prop :=
 F73 b_0 o_0 m fun x1 m2 => kif x1 (ldI .u32 m2 b_0 (o_0 + 39 + 12) fun x3 => kif ((bits .and .u32 x3 1) != 0) (ldI .u32 m2 b_0 (o_0 + 39 + 12) fun x4 => (Keeps m m2 ∧ k ((bits .and .u32 x4 2) == 0) m)) ((Keeps m m2 ∧ k false m))) ((Keeps m m2 ∧ k false m))
def G61 := Gs [.p] [.b] F61
theorem fs61 (w0 : World) : FS Tryz.prog w0 61 G61 := fs_sig (S61 w0) Tryz.func61 Tryz.call61 (Λ := lam0) 0 trivial 0 trivial (by kernel_rfl) true (fun _ _ _ _ => by kernel_rfl)
end Go.Proofs.YtkiggdgphbkneaaGreat.Am
