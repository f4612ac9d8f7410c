/- Lists in abstract memory: what may change, what is read of a list, appended, copied, cut. No program in sight. Memory of pages in abstract memory; what the program's and the reference's functions on it ask. Conditions: the memory's four blocks are its own. Sto -/
import Derived.Test.YtkiggdgphbkneaaGreatTopDiskX19
namespace Go.Proofs.YtkiggdgphbkneaaGreat.Am
set_option linter.unusedVariables false
set_option linter.unusedSimpArgs false
set_option maxRecDepth 100000
def Fr (S : Nat -> Prop) (m m' : Mem) : Prop := ∀ b, m.obj b ≠ none -> ¬ S b -> m'.obj b = m.obj b
theorem Fr.refl (S : Nat -> Prop) (m : Mem) : Fr S m m := fun _ _ _ => rfl
theorem Fr.trans {S : Nat -> Prop} {a b c : Mem} (h : Fr S a b) (h' : Fr S b c) : Fr S a c := fun k hk hs => by
 have e := h k hk hs
 rw [h' k (by rw [e]; exact hk) hs, e]
theorem Fr.mono {S T : Nat -> Prop} {m m' : Mem} (h : Fr S m m') (hs : ∀ b, m.obj b ≠ none -> S b -> T b) : Fr T m m' := fun b hb ht => h b hb fun s => ht (hs b hb s)
theorem zA.fr {m m' : Mem} (h : zA m m') (S : Nat -> Prop) : Fr S m m' := fun b hb _ => h b hb
theorem Fr.keeps {S : Nat -> Prop} {m0 m m' : Mem} (K : zA m0 m) (h : Fr S m m') (hs : ∀ b, S b -> m0.obj b = none) : zA m0 m' := fun b hb => by
 have e := K b hb
 rw [h b (by rw [e]; exact hb) (fun s => hb (hs b s)), e]
theorem Fr.keeps0 {S : Nat -> Prop} {m m' : Mem} (h : Fr S m m') (hs : ∀ b, S b -> m.obj b = none) : zA m m' := Fr.keeps (zA.self m) h hs
theorem Fr.set {S : Nat -> Prop} {m : Mem} {b : Nat} (h : S b) (x : Blk) : Fr S m (m.set b x) := fun b' _ hs => zP x fun e => hs (e ▸ h)
theorem Fr.new {S : Nat -> Prop} {m : Mem} {b : Nat} (h : m.obj b = none) (x : Blk) : Fr S m (m.set b x) := fun b' hb _ => zP x fun e => hb (e ▸ h)
def own (v : AV) (b : Nat) : Prop := match v with
 | .sl b' _ _ _ => b' = b
 | _ => False
inductive IsR (m : Mem) (esz : Nat) : AV -> Nat -> (Nat -> AV) -> Prop
 | nil (a : Option Addr) (c : Nat -> AV) : IsR m esz (.flat (.slice a 0 0)) 0 c
 | e0 (c : Nat -> AV) : IsR m esz .e0 0 c
 | sl (b o n : Nat) (cap : Cap) (y : Blk) (c : Nat -> AV) (h1 : m.obj b = some y) (h2 : o + n * esz <= y.n) (h3 : ∀ i, i < n * esz -> y.c (o + i) = c i) : IsR m esz (.sl b o n cap) n c
inductive IsL (m : Mem) (esz : Nat) : AV -> Nat -> (Nat -> AV) -> Prop
 | nil (a : Option Addr) (c : Nat -> AV) : IsL m esz (.flat (.slice a 0 0)) 0 c
 | sl (b o n : Nat) (cap : Cap) (y : Blk) (c : Nat -> AV) (h1 : m.obj b = some y) (h2 : o + n * esz <= y.n) (h3 : ∀ i, i < n * esz -> y.c (o + i) = c i) (h4 : y.ro = false)
   (h5 : match cap with | .ex q => n <= q /\ o + q * esz <= y.n | .ge e q => e = esz /\ n <= q) : IsL m esz (.sl b o n cap) n c
theorem IsL.r {m : Mem} {esz : Nat} {v : AV} {n : Nat} {c : Nat -> AV} (h : IsL m esz v n c) : IsR m esz v n c := by
 cases h with
 | nil a c => exact .nil a c
 | sl b o n cap y c h1 h2 h3 _ _ => exact .sl b o n cap y c h1 h2 h3
theorem IsR.congr {m : Mem} {esz : Nat} {v : AV} {n : Nat} {c d : Nat -> AV} (h : IsR m esz v n c) (e : ∀ i, i < n * esz -> c i = d i) : IsR m esz v n d := by
 cases h with
 | nil a c => exact .nil a d
 | e0 c => exact .e0 d
 | sl b o n cap y c h1 h2 h3 => exact .sl b o n cap y d h1 h2 fun i hi => (h3 i hi).trans (e i hi)
theorem IsL.congr {m : Mem} {esz : Nat} {v : AV} {n : Nat} {c d : Nat -> AV} (h : IsL m esz v n c) (e : ∀ i, i < n * esz -> c i = d i) : IsL m esz v n d := by
 cases h with
 | nil a c => exact .nil a d
 | sl b o n cap y c h1 h2 h3 h4 h5 => exact .sl b o n cap y d h1 h2 (fun i hi => (h3 i hi).trans (e i hi)) h4 h5
theorem IsR.fr {m m' : Mem} {S : Nat -> Prop} {esz : Nat} {v : AV} {n : Nat} {c : Nat -> AV} (h : IsR m esz v n c) (F : Fr S m m') (hs : ∀ b, own v b -> ¬ S b) : IsR m' esz v n c := by
 cases h with
 | nil a c => exact .nil a c
 | e0 c => exact .e0 c
 | sl b o n cap y c h1 h2 h3 => exact .sl b o n cap y c (by rw [F b (by rw [h1]; simp) (hs b rfl)]; exact h1) h2 h3
theorem IsL.fr {m m' : Mem} {S : Nat -> Prop} {esz : Nat} {v : AV} {n : Nat} {c : Nat -> AV} (h : IsL m esz v n c) (F : Fr S m m') (hs : ∀ b, own v b -> ¬ S b) : IsL m' esz v n c := by
 cases h with
 | nil a c => exact .nil a c
 | sl b o n cap y c h1 h2 h3 h4 h5 => exact .sl b o n cap y c (by rw [F b (by rw [h1]; simp) (hs b rfl)]; exact h1) h2 h3 h4 h5
theorem IsR.keep {m m' : Mem} {esz : Nat} {v : AV} {n : Nat} {c : Nat -> AV} (h : IsR m esz v n c) (K : zA m m') : IsR m' esz v n c := h.fr (K.fr fun _ => False) fun _ _ h => h
theorem IsL.keep {m m' : Mem} {esz : Nat} {v : AV} {n : Nat} {c : Nat -> AV} (h : IsL m esz v n c) (K : zA m m') : IsL m' esz v n c := h.fr (K.fr fun _ => False) fun _ _ h => h
theorem IsL.live {m : Mem} {esz : Nat} {v : AV} {n : Nat} {c : Nat -> AV} (h : IsL m esz v n c) {b : Nat} (hb : own v b) : m.obj b ≠ none := by
 cases h with
 | nil a c => exact hb.elim
 | sl b' o n cap y c h1 h2 h3 h4 h5 => cases hb; rw [h1]; simp
theorem IsR.live {m : Mem} {esz : Nat} {v : AV} {n : Nat} {c : Nat -> AV} (h : IsR m esz v n c) {b : Nat} (hb : own v b) : m.obj b ≠ none := by
 cases h with
 | nil a c => exact hb.elim
 | e0 c => exact hb.elim
 | sl b' o n cap y c h1 h2 h3 => cases hb; rw [h1]; simp
theorem IsL.row {m : Mem} {esz b n : Nat} {y : Blk} (h : m.obj b = some y) (hn : y.n = n * esz) (hr : y.ro = false) : IsL m esz (.sl b 0 n (.ex n)) n y.c :=
 .sl b 0 n (.ex n) y y.c h (by omega) (fun i _ => by rw [Nat.zero_add]) hr ⟨Nat.le_refl _, by omega⟩
theorem vB {m : Mem} {esz : Nat} {v : AV} {n : Nat} {c : Nat -> AV} (h : IsR m esz v n c) (k : Int -> Prop) : xJ v k = k (n : Int) := by
 cases h <;> rfl
theorem IsR.at {m : Mem} {esz : Nat} {v : AV} {n : Nat} {c : Nat -> AV} (h : IsR m esz v n c) (hn : 0 < n) : ∃ b o cap y, v = .sl b o n cap /\ m.obj b = some y /\ o + n * esz <= y.n /\ ∀ i, i < n * esz -> y.c (o + i) = c i := by
 cases h with
 | nil a c => omega
 | e0 c => omega
 | sl b o n cap y c h1 h2 h3 => exact ⟨b, o, cap, y, rfl, h1, h2, h3⟩
theorem xKl {m : Mem} {esz : Nat} {v : AV} {n : Nat} {c : Nat -> AV} (h : IsR m esz v n c) {i : Int} (h0 : 0 <= i) (h1 : i < n) {k : Nat -> Nat -> Prop} (hk : ∀ b o y, own v b -> m.obj b = some y -> o + esz <= y.n -> (∀ j, j < esz -> y.c (o + j) = c (i.toNat * esz + j)) -> k b o) :
  vD v fun b o l p => kif (decide (0 <= i) && decide (i < l)) (k b (o + i.toNat * esz)) False := by
 obtain ⟨b, o, cap, y, rfl, hy, hb, hc⟩ := h.at (by omega)
 have hm : i.toNat * esz + esz <= n * esz := by
  have : (i.toNat + 1) * esz <= n * esz := Nat.mul_le_mul_right _ (by omega)
  rw [Nat.succ_mul] at this; exact this
 refine yF h0 h1 (hk b _ y rfl hy (by omega) fun j hj => ?_)
 rw [Nat.add_assoc]; exact hc _ (by omega)
theorem zGi {m : Mem} {v : AV} {n : Nat} {c : Nat -> AV} {kd : IntKind} (h : IsR m 1 v n c) {i : Int} (h0 : 0 <= i) (h1 : i < n) {x : Int} (hx : c i.toNat = .flat (.int kd x)) {k : Nat -> Nat -> Int -> Prop} (hk : ∀ b o, own v b -> k b o x) :
  vD v fun b o l p => kif (decide (0 <= i) && decide (i < l)) (zR kd m b (o + i.toNat * 1) fun x => k b o x) False := by
 obtain ⟨b, o, cap, y, rfl, hy, hb, hc⟩ := h.at (by omega)
 refine yF h0 h1 ?_
 rw [yW hy (by omega) (by rw [hc _ (by omega), Nat.mul_one]; exact hx)]
 exact hk b o rfl
theorem yCi {m : Mem} {v : AV} {n : Nat} {c : Nat -> AV} (h : IsR m 1 v n c) {i : Int} (h0 : 0 <= i) (h1 : i < n) {x : Bool} (hx : c i.toNat = .flat (.bool x)) {k : Nat -> Nat -> Bool -> Prop} (hk : ∀ b o, own v b -> k b o x) :
  vD v fun b o l p => kif (decide (0 <= i) && decide (i < l)) (ldB m b (o + i.toNat * 1) fun x => k b o x) False := by
 obtain ⟨b, o, cap, y, rfl, hy, hb, hc⟩ := h.at (by omega)
 refine yF h0 h1 ?_
 rw [zKm hy (by omega) (by rw [hc _ (by omega), Nat.mul_one]; exact hx)]
 exact hk b o rfl
theorem yBb {m : Mem} {esz : Nat} {v : AV} {n : Nat} {c : Nat -> AV} (h : IsR m esz v n c) {i : Int} (h0 : 0 <= i) (h1 : i < n) {k : (Nat -> AV) -> Prop} (hk : ∀ d, (∀ j, j < esz -> d j = c (i.toNat * esz + j)) -> k d) :
  vD v fun b o l p => kif (decide (0 <= i) && decide (i < l)) (yN esz m b (o + i.toNat * esz) k) False :=
 xKl (k := fun b o => yN esz m b o k) h h0 h1 fun b o y _ hy hb hc => by
  rw [xH hy hb]
  exact hk _ fun j hj => by rw [sub, if_pos hj]; exact hc j hj
theorem dX {m : Mem} {v : AV} {n : Nat} {c : Nat -> AV} (h : IsL m 1 v n c) {i : Int} (h0 : 0 <= i) (h1 : i < n) {x : AV} {k : Mem -> Prop} (hk : ∀ m', IsL m' 1 v n (upd c i.toNat x) -> Fr (own v) m m' -> (∀ b, m'.obj b ≠ none -> m.obj b ≠ none) -> k m') :
  vD v fun b o l p => kif (decide (0 <= i) && decide (i < l)) (wF m b (o + i.toNat * 1) x k) False := by
 cases h with
 | nil a c => omega
 | sl b o n cap y c g1 g2 g3 g4 g5 =>
  refine yF h0 h1 ?_
  rw [oO g1 g4 (by omega)]
  refine hk _ (.sl b o n cap _ _ (zL _ _ _) g2 (fun j hj => ?_) g4 g5) (Fr.set rfl _) fun b' hb => ?_
  .show upd y.c _ _ _ = _
   unfold upd
   by_cases e : j = i.toNat
   .rw [if_pos (by omega), if_pos e]
   .rw [if_neg (by omega), if_neg e]; exact g3 j hj
  .by_cases e : b' = b
   .subst e; rw [g1]; simp
   .rwa [zP _ e] at hb
theorem eF {m : Mem} {esz : Nat} {x : AV} {n : Nat} {d : Nat -> AV} (h : IsR m esz x n d) {k : Nat -> (Nat -> AV) -> Prop} (hk : ∀ d', (∀ i, i < n * esz -> d' i = d i) -> k n d') : aO esz x m k := by
 cases h with
 | nil a c => unfold aO; exact yK ⟨rfl, rfl⟩ (hk _ fun i hi => by omega)
 | e0 c => exact hk _ fun i hi => by omega
 | sl b o n cap y c h1 h2 h3 =>
  show kobj m b _
  unfold kobj; rw [h1]
  exact yK h2 (hk _ fun i hi => by rw [sub, if_pos hi]; exact h3 i hi)
def cat (esz n : Nat) (c d : Nat -> AV) : Nat -> AV := fun i => if i < n * esz then c i else d (i - n * esz)
theorem yRu {m : Mem} {esz bytes : Nat} {e : TypeId} {v : AV} {n n' : Nat} {c d d' : Nat -> AV} {k : KV} (h : IsL m esz v n c) (hd' : ∀ i, i < n' * esz -> d' i = d i) (hb : (n + n') * (bytes + 1) <= 140737488355328)
  (hk : ∀ v' m', IsL m' esz v' (n + n') (cat esz n c d) -> Fr (own v) m m' -> (∀ b, own v' b -> own v b \/ m.obj b = none) -> k v' m') : dA esz bytes e v n' d' m k := by
 unfold dA
 have new : ∀ old : Nat -> AV, (∀ i, i < n * esz -> old i = c i) -> fY esz e old n n' d' m k := by
  intro old ho b hb0
  refine hk _ _ (.sl b 0 (n + n') (.ge esz (n + n')) _ _ (zL _ _ _) (by simp) (fun i hi => ?_) rfl ⟨rfl, Nat.le_refl _⟩) (Fr.new hb0 _) fun b' e => .inr (by cases e; exact hb0)
  rw [Nat.add_mul] at hi
  simp only [zC, cat, Nat.zero_add]
  by_cases c1 : i < n * esz
  .rw [if_neg (by omega), if_pos c1]; exact ho i c1
  .rw [if_pos (by omega), if_neg c1]; exact hd' _ (by omega)
 cases h with
 | nil a c =>
  refine yK (c := (0 : Nat) = 0 /\ (0 : Nat) = 0) ⟨rfl, rfl⟩ ?_
  rw [zO]
  split
  .rename_i h0
   subst h0
   exact hk _ m (.nil a _) (Fr.refl _ _) fun b e => .inl e
  .refine yK (by simpa using hb) ?_
   have := new (fun _ => .junk) (fun i hi => by omega)
   simpa using this
 | sl b o n cap y c g1 g2 g3 g4 g5 =>
  dsimp only
  rw [zO]
  split
  .rename_i h0
   subst h0
   refine hk _ m ((IsL.sl b o n cap y c g1 g2 g3 g4 g5).congr fun i hi => ?_) (Fr.refl _ _) fun b e => .inl e
   rw [cat, if_pos hi]
  .rename_i hn'
   unfold kobj; rw [g1]
   refine yK ⟨g2, hb⟩ ?_
   have inn : ∀ cap2 : Cap, (match cap2 with | .ex q => n + n' <= q /\ o + q * esz <= y.n | .ge e q => e = esz /\ n + n' <= q) -> sH esz b o n cap2 n' d' m k := by
    intro cap2 hcap
    unfold sH kobj
    rw [g1]
    dsimp only
    rw [g4]
    have hadd : (n + n') * esz = n * esz + n' * esz := Nat.add_mul _ _ _
    refine hk _ _ (.sl b o (n + n') cap2 _ _ (zL _ _ _) (by dsimp only; omega) (fun i hi => ?_) rfl ?_) (Fr.set rfl _) fun b' e => .inl e
    .simp only [zC, cat]
     by_cases c1 : i < n * esz
     .rw [if_neg (by omega), if_pos c1]; exact g3 i c1
     .rw [if_pos (by omega), if_neg c1, show o + i - (o + n * esz) = i - n * esz by omega]; exact hd' _ (by omega)
    .cases cap2 with
     | ex q => exact ⟨hcap.1, by have := hcap.2; dsimp only; omega⟩
     | ge e q => exact hcap
   have nw := new (sub y.c o (n * esz)) fun i hi => by rw [sub, if_pos hi]; exact g3 i hi
   cases cap with
   | ex q =>
    have g5 : n <= q /\ o + q * esz <= y.n := g5
    dsimp only
    rw [zO]
    split
    .rename_i hf
     have : (n + n') * esz <= q * esz := Nat.mul_le_mul_right _ hf
     exact yK (by omega) (inn (.ex q) ⟨hf, g5.2⟩)
    .exact nw
   | ge e' q =>
    have g5 : e' = esz /\ n <= q := g5
    dsimp only
    refine yK g5.1 ?_
    rw [zO]
    split
    .rename_i hf; exact inn (.ge esz q) ⟨rfl, hf⟩
    .exact ⟨inn (.ge esz (n + n')) ⟨rfl, Nat.le_refl _⟩, nw⟩
theorem yOc {m : Mem} {esz bytes : Nat} {e : TypeId} {v x : AV} {n n' : Nat} {c d : Nat -> AV} {k : KV} (h : IsL m esz v n c) (hx : IsR m esz x n' d) (hb : (n + n') * (bytes + 1) <= 140737488355328)
  (hk : ∀ v' m', IsL m' esz v' (n + n') (cat esz n c d) -> Fr (own v) m m' -> (∀ b, own v' b -> own v b \/ m.obj b = none) -> k v' m') : uB esz bytes e v x m k := by
 unfold uB
 exact eF hx fun d' hd' => yRu h hd' hb hk
theorem yWm {m : Mem} {esz : Nat} {v x : AV} {n n' : Nat} {c d : Nat -> AV} {k : KV} (h : IsL m esz v n c) (hx : IsR m esz x n' d)
  (hk : ∀ m' u, IsL m' esz v n (fun i => if i < min n' n * esz then d i else c i) -> Fr (own v) m m' -> (∀ b, m'.obj b ≠ none -> m.obj b ≠ none) -> k u m') : qF esz v x m k := by
 unfold qF
 refine eF hx fun d' hd' => ?_
 cases h with
 | nil a c =>
  exact yK (c := (0 : Nat) = 0 /\ (0 : Nat) = 0) ⟨rfl, rfl⟩ (hk m _ (.nil a _) (Fr.refl _ _) fun _ h => h)
 | sl b o n cap y c g1 g2 g3 g4 g5 =>
  dsimp only
  rw [zO]
  split
  .rename_i h0
   refine hk m _ ((IsL.sl b o n cap y c g1 g2 g3 g4 g5).congr fun i hi => ?_) (Fr.refl _ _) fun _ h => h
   rw [h0, if_neg (by omega)]
  .unfold kobj; rw [g1]
   dsimp only
   rw [g4]
   refine yK g2 (hk _ _ (.sl b o n cap _ _ (zL _ _ _) g2 (fun i hi => ?_) rfl g5) (Fr.set rfl _) fun b' hb => ?_)
   .have hm : min n' n * esz <= n' * esz := Nat.mul_le_mul_right _ (Nat.min_le_left _ _)
    simp only [zC]
    by_cases c1 : i < min n' n * esz
    .rw [if_pos (by omega), if_pos c1, show o + i - o = i by omega]; exact hd' i (by omega)
    .rw [if_neg (by omega), if_neg c1]; exact g3 i hi
   .by_cases e : b' = b
    .subst e; rw [g1]; simp
    .rwa [zP _ e] at hb
theorem yT9 {m : Mem} {esz : Nat} {v : AV} {n : Nat} {c : Nat -> AV} (h : IsR m esz v n c) {lo hi : Option Int} {l u : Nat} (hl : xT lo 0 = l) (hu : xT hi n = u) (h1 : l <= u) (h2 : u <= n) (hc : ∀ b o cap, v = .sl b o n cap -> n <= cap.low /\ (∀ e q, cap = .ge e q -> e = esz)) {k : AV -> Prop}
  (hk : ∀ v', IsR m esz v' (u - l) (fun i => c (l * esz + i)) -> (∀ b, own v' b -> own v b) -> k v') : qH esz v lo hi k := by
 have bnd : ∀ (cap : Nat) (K : Prop), n <= cap -> K -> zUg (xT lo 0) (xT hi n) cap K := fun cap K hcap hK => by
  rw [hl, hu]
  exact zG (by simp) (zG (by simp; omega) (zG (by simp; omega) hK))
 cases h with
 | nil a c =>
  unfold qH; exact yK ⟨rfl, rfl⟩ (bnd 0 _ (Nat.le_refl _) (hk _ (by rw [show u - l = 0 by omega]; exact .nil a _) fun b e => e))
 | e0 c => exact bnd 0 _ (Nat.le_refl _) (hk _ (by rw [show u - l = 0 by omega]; exact .e0 _) fun b e => e)
 | sl b o n cap y c g1 g2 g3 =>
  obtain ⟨hcl, hce⟩ := hc b o cap rfl
  refine bnd _ _ hcl ?_
  rw [hl, hu]
  simp only [Int.toNat_natCast]
  have hm : l * esz + (u - l) * esz = u * esz := by rw [<- Nat.add_mul]; congr 1; omega
  have hm2 : u * esz <= n * esz := Nat.mul_le_mul_right _ h2
  have main : ∀ cap', IsR m esz (.sl b (o + l * esz) (u - l) cap') (u - l) fun i => c (l * esz + i) := fun cap' => .sl b _ _ cap' y _ g1 (by omega) fun i hi => by rw [Nat.add_assoc]; exact g3 _ (by omega)
  cases cap with
  | ex q =>
   show kite (l < q) _ _
   rw [zO]
   split
   .exact hk _ (main _) fun b' e => e
   .have : n <= q := hcl
    refine hk _ (.congr (c := fun i => y.c (o + i)) (?_ : IsR m esz (.sl b o 0 (.ex 0)) (u - l) _) fun i hi => ?_) fun b' e => e
    .rw [show u - l = 0 by omega]; exact .sl b o 0 _ y _ g1 (by omega) fun i hi => rfl
    .rw [show u - l = 0 by omega] at hi; omega
  | ge e q =>
   show kite (e = esz) (kite (l < q) _ _) False
   refine yK (hce e q rfl) ?_
   rw [zO]
   split
   .exact hk _ (main _) fun b' e => e
   .have : n <= q := hcl
    exact hk _ (by rw [show u - l = 0 by omega]; exact .e0 _) fun b' e => e.elim
structure IsS (m : Mem) (esz : Nat) (v : AV) (n : Nat) (c : Nat -> AV) : Prop where
 r : IsR m esz v n c
 cap : ∀ b o cap, v = .sl b o n cap -> n <= cap.low /\ ∀ e q, cap = .ge e q -> e = esz
theorem IsS.keep {m m' : Mem} {esz : Nat} {v : AV} {n : Nat} {c : Nat -> AV} (h : IsS m esz v n c) (K : zA m m') : IsS m' esz v n c := ⟨h.r.keep K, h.cap⟩
theorem IsS.congr {m : Mem} {esz : Nat} {v : AV} {n : Nat} {c d : Nat -> AV} (h : IsS m esz v n c) (e : ∀ i, i < n * esz -> c i = d i) : IsS m esz v n d := ⟨h.r.congr e, h.cap⟩
theorem IsL.s {m : Mem} {esz : Nat} {v : AV} {n : Nat} {c : Nat -> AV} (h : IsL m esz v n c) : IsS m esz v n c := by
 refine ⟨h.r, fun b o cap e => ?_⟩
 cases h with
 | nil a c => cases e
 | sl b o n cap y c h1 h2 h3 h4 h5 =>
  cases e
  cases cap with
  | ex q => exact ⟨h5.1, fun e q h => by cases h⟩
  | ge e q => exact ⟨h5.2, fun e' q' h => by cases h; exact h5.1⟩
theorem zH5 {m : Mem} {esz : Nat} {v : AV} {n : Nat} {c : Nat -> AV} (h : IsS m esz v n c) {lo hi : Option Int} {l u : Nat} (hl : xT lo 0 = l) (hu : xT hi n = u) (h1 : l <= u) (h2 : u <= n) {k : AV -> Prop}
  (hk : ∀ v', IsS m esz v' (u - l) (fun i => c (l * esz + i)) -> (∀ b, own v' b -> own v b) -> k v') : qH esz v lo hi k := by
 have bnd : ∀ (cap : Nat) (K : Prop), n <= cap -> K -> zUg (xT lo 0) (xT hi n) cap K := fun cap K hcap hK => by
  rw [hl, hu]
  exact zG (by simp) (zG (by simp; omega) (zG (by simp; omega) hK))
 obtain ⟨h, hc⟩ := h
 cases h with
 | nil a c =>
  unfold qH; exact yK ⟨rfl, rfl⟩ (bnd 0 _ (Nat.le_refl _) (hk _ ⟨by rw [show u - l = 0 by omega]; exact .nil a _, fun b o cap e => by cases e⟩ fun b e => e))
 | e0 c => exact bnd 0 _ (Nat.le_refl _) (hk _ ⟨by rw [show u - l = 0 by omega]; exact .e0 _, fun b o cap e => by cases e⟩ fun b e => e)
 | sl b o n cap y c g1 g2 g3 =>
  obtain ⟨hcl, hce⟩ := hc b o cap rfl
  refine bnd _ _ hcl ?_
  rw [hl, hu]
  simp only [Int.toNat_natCast]
  have hm : l * esz + (u - l) * esz = u * esz := by rw [<- Nat.add_mul]; congr 1; omega
  have hm2 : u * esz <= n * esz := Nat.mul_le_mul_right _ h2
  have main : ∀ cap', IsR m esz (.sl b (o + l * esz) (u - l) cap') (u - l) fun i => c (l * esz + i) := fun cap' => .sl b _ _ cap' y _ g1 (by omega) fun i hi => by rw [Nat.add_assoc]; exact g3 _ (by omega)
  cases cap with
  | ex q =>
   have hq : n <= q := hcl
   show kite (l < q) _ _
   rw [zO]
   split
   .refine hk _ ⟨main _, fun b o cap e => ?_⟩ fun b' e => e
    cases e
    exact ⟨by show u - l <= q - l; omega, fun e q h => by cases h⟩
   .have e0 : u - l = 0 := by omega
    refine hk _ ⟨?_, fun b o cap e => ?_⟩ fun b' e => e
    .rw [e0]; exact .sl b o 0 _ y _ g1 (by omega) fun i hi => by omega
    .injection e with e1 e2 e3 e4
     rw [<- e4]
     exact ⟨by show u - l <= 0; omega, fun e q h => by cases h⟩
  | ge e q =>
   have hq : n <= q := hcl
   have he : e = esz := hce e q rfl
   show kite (e = esz) (kite (l < q) _ _) False
   refine yK he ?_
   rw [zO]
   split
   .refine hk _ ⟨main _, fun b o cap e => ?_⟩ fun b' e => e
    cases e
    exact ⟨by show u - l <= q - l; omega, fun e q h => by cases h; rfl⟩
   .exact hk _ ⟨by rw [show u - l = 0 by omega]; exact .e0 _, fun b o cap e => by cases e⟩ fun b' e => e.elim
theorem yXu {m : Mem} {esz bytes : Nat} {e : TypeId} {v x : AV} {n n' : Nat} {c d : Nat -> AV} {k : KV} (h : IsL m esz v n c) (hx : IsR m esz x n' d) (hd : ∀ i, i < n' * esz -> d i = c (n * esz + i)) (hb : (n + n') * (bytes + 1) <= 140737488355328)
  (hk : ∀ v' m', IsL m' esz v' (n + n') c -> Fr (own v) m m' -> (∀ b, own v' b -> own v b \/ m.obj b = none) -> k v' m') : uB esz bytes e v x m k :=
 yOc h hx hb fun v' m' g1 g2 g3 => hk v' m' (g1.congr fun i hi => by
  have : (n + n') * esz = n * esz + n' * esz := Nat.add_mul _ _ _
  unfold cat
  split
  .rfl
  .rename_i c1
   rw [hd _ (by omega), show n * esz + (i - n * esz) = i by omega]) g2 g3
theorem yGf {m : Mem} {esz bytes q : Nat} {t e : TypeId} {v : AV} {n n' : Nat} {c d : Nat -> AV} {k : KV} (h : IsL m esz v n c) (hq : q = n' * esz) (hd : ∀ i, i < n' * esz -> d i = c (n * esz + i)) (hb : (n + n') * (bytes + 1) <= 140737488355328)
  (hk : ∀ v' m', IsL m' esz v' (n + n') c -> Fr (own v) m m' -> (∀ b, own v' b -> own v b \/ m.obj b = none) -> k v' m') : zQ m ⟨q, d, t, false⟩ fun b m1 => uB esz bytes e v (.sl b 0 n' (.ex n')) m1 k := by
 refine zW fun b m1 hb1 K e1 O => yXu (h.keep K) (IsL.row (esz := esz) e1 hq rfl).r hd hb fun v' m2 g1 g2 g3 => hk v' m2 g1 (fun b' hb' ho => ?_) fun b' ho => ?_
 .rw [g2 b' (by rw [K b' hb']; exact hb') ho, K b' hb']
 .rcases g3 b' ho with h1 | h1
  .exact .inl h1
  .exact .inr (zX K h1)
theorem zWh {m : Mem} {esz b n l n' : Nat} {c d : Nat -> AV} {x : AV} {lo : Int} {k : KV} (h : IsL m esz (.sl b 0 n (.ex n)) n c) (hx : IsR m esz x n' d) (hlo : lo = l) (hl : l + n' <= n)
  (hk : ∀ m' u, IsL m' esz (.sl b 0 n (.ex n)) n (fun i => if l * esz <= i /\ i < (l + n') * esz then d (i - l * esz) else c i) -> Fr (own (.sl b 0 n (.ex n))) m m' -> (∀ b, m'.obj b ≠ none -> m.obj b ≠ none) -> k u m') :
  qH esz (.sl b 0 n (.ex n)) (some lo) none fun v => qF esz v x m k := by
 subst hlo
 unfold qH zUg
 dsimp only [xT, Cap.low]
 refine zG (by simp) (zG (by simp; omega) (zG (by simp) ?_))
 dsimp only [zEo]
 rw [Int.toNat_natCast, Int.toNat_natCast]
 cases h with
 | sl _ _ _ _ y _ g1 g2 g3 g4 g5 =>
  have same : n' = 0 -> ∀ u, k u m := fun h0 u => hk m u ((IsL.sl b 0 n (.ex n) y c g1 g2 g3 g4 g5).congr fun i hi => by rw [h0, Nat.add_zero, if_neg (by omega)]) (Fr.refl _ _) fun _ h => h
  simp only [Nat.zero_add] at g2 g3
  rw [zO]
  split
  .rename_i hlt
   simp only [xT, Int.toNat_natCast, Nat.zero_add]
   unfold qF
   refine eF hx fun d' hd' => ?_
   dsimp only
   have hmn : min n' (n - l) = n' := by omega
   rw [hmn, zO]
   split
   .rename_i h0; exact same h0 _
   .unfold kobj; rw [g1]
    dsimp only
    rw [g4]
    have e1 : (l + n') * esz = l * esz + n' * esz := Nat.add_mul _ _ _
    have e2 : l * esz + (n - l) * esz = n * esz := by rw [<- Nat.add_mul]; congr 1; omega
    have e3 : (l + n') * esz <= n * esz := Nat.mul_le_mul_right _ hl
    refine yK (by omega) (hk _ _ (.sl b 0 n (.ex n) _ _ (zL _ _ _) (by simpa using g2) (fun i hi => ?_) rfl ⟨Nat.le_refl _, by simpa using g2⟩) (Fr.set rfl _) fun b' hb => ?_)
    .simp only [zC, Nat.zero_add]
     by_cases c1 : l * esz <= i /\ i < l * esz + n' * esz
     .rw [if_pos c1, if_pos (by omega)]; exact hd' _ (by omega)
     .rw [if_neg c1, if_neg (by omega)]; exact g3 i hi
    .by_cases e : b' = b
     .subst e; rw [g1]; simp
     .rwa [zP _ e] at hb
  .rename_i hlt
   unfold qF
   refine eF hx fun d' hd' => ?_
   dsimp only
   rw [show min n' 0 = 0 by omega]
   exact yK rfl (same (by omega) _)
def cK (kd : IntKind) (f : Nat -> Int) : Nat -> AV := fun i => .flat (.int kd (f i))
theorem yYs {m : Mem} {v : AV} {n : Nat} {f : Nat -> Int} {kd : IntKind} (h : IsR m 1 v n (cK kd f)) (i : Nat) (h1 : i < n) {k : Nat -> Nat -> Int -> Prop} (hk : ∀ b o, own v b -> k b o (f i)) :
  vD v fun b o l p => kif (decide (0 <= (i : Int)) && decide ((i : Int) < l)) (zR kd m b (o + (i : Int).toNat * 1) fun x => k b o x) False :=
 zGi (k := k) h (by omega) (by omega) (by rw [Int.toNat_natCast]; rfl) hk
theorem zHh {zs : List AV} {bytes : Nat} {e : TypeId} {ln cn : Int} {m : Mem} {k : Nat -> Mem -> Prop} (h0 : 0 <= ln) (h1 : ln <= cn) (hb : cn.toNat * (bytes + 1) <= 140737488355328)
  (hk : ∀ b m', m.obj b = none -> zA m m' -> m'.obj b = some ⟨cn.toNat * zs.length, lK zs, e, false⟩ -> yC m b m' -> k b m') : mkS zs bytes e ln cn m k :=
 zG (by simp; omega) (zG (by simp; omega) (yK hb (zW fun b m' hb K h O => hk b m' hb K h O)))
theorem zB0 (x : AV) (i : Nat) : lK [x] i = x := by simp [lK, Nat.mod_one, zH]
theorem zEb (x : AV) : lK [x] = fun _ => x := by funext i; exact zB0 x i
structure RB where
 b : Nat
 b1 : Nat
 b2 : Nat
 b3 : Nat
def RB.has (r : RB) (x : Nat) : Prop := x = r.b \/ x = r.b1 \/ x = r.b2 \/ x = r.b3
abbrev RB.v1 (r : RB) (p : Nat) : AV := .sl r.b1 0 (p * 1024) (.ex (p * 1024))
abbrev RB.v2 (r : RB) (p : Nat) : AV := .sl r.b2 0 p (.ex p)
abbrev RB.v3 (r : RB) (p : Nat) : AV := .sl r.b3 0 p (.ex p)
def cB (B : Nat -> Int) : Nat -> AV := fun i => .flat (.int .u8 (B i))
def cF (M : Nat -> Bool) : Nat -> AV := fun i => .flat (.bool (M i))
structure IsRam (m : Mem) (r : RB) (p : Nat) (B : Nat -> Int) (M W : Nat -> Bool) : Prop where
 s : ∃ y, m.obj r.b = some y /\ y.n = 3 /\ y.c 0 = r.v1 p /\ y.c 1 = r.v2 p /\ y.c 2 = r.v3 p
 d1 : IsL m 1 (r.v1 p) (p * 1024) (cB B)
 d2 : IsL m 1 (r.v2 p) p (cF M)
 d3 : IsL m 1 (r.v3 p) p (cF W)
 rng : ∀ i, 0 <= B i /\ B i < 256
 p1 : 1 <= p
 p2 : p <= 64
 ne : r.b ≠ r.b1 /\ r.b ≠ r.b2 /\ r.b ≠ r.b3 /\ r.b1 ≠ r.b2 /\ r.b1 ≠ r.b3 /\ r.b2 ≠ r.b3
section
variable {m : Mem} {r : RB} {p : Nat} {B : Nat -> Int} {M W : Nat -> Bool}
theorem IsRam.live (h : IsRam m r p B M W) {x : Nat} (hx : r.has x) : m.obj x ≠ none := by
 rcases hx with rfl | rfl | rfl | rfl
 .obtain ⟨y, e, _⟩ := h.s; rw [e]; simp
 .exact h.d1.live rfl
 .exact h.d2.live rfl
 .exact h.d3.live rfl
theorem IsRam.fr {m' : Mem} {S : Nat -> Prop} (h : IsRam m r p B M W) (F : Fr S m m') (hs : ∀ x, r.has x -> ¬ S x) : IsRam m' r p B M W := by
 obtain ⟨y, e, hy⟩ := h.s
 exact ⟨⟨y, by rw [F r.b (by rw [e]; simp) (hs _ (.inl rfl))]; exact e, hy⟩, h.d1.fr F fun b e => hs b (.inr (.inl e.symm)), h.d2.fr F fun b e => hs b (.inr (.inr (.inl e.symm))), h.d3.fr F fun b e => hs b (.inr (.inr (.inr e.symm))), h.rng, h.p1, h.p2, h.ne⟩
theorem IsRam.keep {m' : Mem} (h : IsRam m r p B M W) (K : zA m m') : IsRam m' r p B M W := h.fr (K.fr fun _ => False) fun _ _ e => e
theorem IsRam.l1 (h : IsRam m r p B M W) (k : AV -> Prop) : ldA m r.b 0 k = k (r.v1 p) := by
 obtain ⟨y, e, hn, h1, h2, h3⟩ := h.s
 exact zSv e (by omega) h1
theorem IsRam.l2 (h : IsRam m r p B M W) (k : AV -> Prop) : ldA m r.b 1 k = k (r.v2 p) := by
 obtain ⟨y, e, hn, h1, h2, h3⟩ := h.s
 exact zSv e (by omega) h2
theorem IsRam.l3 (h : IsRam m r p B M W) (k : AV -> Prop) : ldA m r.b 2 k = k (r.v3 p) := by
 obtain ⟨y, e, hn, h1, h2, h3⟩ := h.s
 exact zSv e (by omega) h3
theorem IsRam.set1 {m' : Mem} {c : Nat -> AV} {B' : Nat -> Int} (h : IsRam m r p B M W) (h1 : IsL m' 1 (r.v1 p) (p * 1024) c) (F : Fr (own (r.v1 p)) m m') (e : ∀ i, i < p * 1024 -> c i = cB B' i) (hr : ∀ i, 0 <= B' i /\ B' i < 256) : IsRam m' r p B' M W /\ Fr r.has m m' := by
 obtain ⟨y, ey, hy⟩ := h.s
 obtain ⟨n1, n2, n3, n4, n5, n6⟩ := h.ne
 exact ⟨⟨⟨y, by rw [F r.b (by rw [ey]; simp) fun e => n1 e.symm]; exact ey, hy⟩, h1.congr fun i hi => e i (by omega), h.d2.fr F fun b e e' => n4 (Eq.trans e' e.symm), h.d3.fr F fun b e e' => n5 (Eq.trans e' e.symm), hr, h.p1, h.p2, h.ne⟩, F.mono fun b _ e => .inr (.inl e.symm)⟩
theorem IsRam.set2 {m' : Mem} {c : Nat -> AV} {M' : Nat -> Bool} (h : IsRam m r p B M W) (h1 : IsL m' 1 (r.v2 p) p c) (F : Fr (own (r.v2 p)) m m') (e : ∀ i, i < p -> c i = cF M' i) : IsRam m' r p B M' W /\ Fr r.has m m' := by
 obtain ⟨y, ey, hy⟩ := h.s
 obtain ⟨n1, n2, n3, n4, n5, n6⟩ := h.ne
 exact ⟨⟨⟨y, by rw [F r.b (by rw [ey]; simp) fun e => n2 e.symm]; exact ey, hy⟩, h.d1.fr F fun b e e' => n4 (Eq.trans e e'.symm), h1.congr fun i hi => e i (by omega), h.d3.fr F fun b e e' => n6 (Eq.trans e' e.symm), h.rng, h.p1, h.p2, h.ne⟩, F.mono fun b _ e => .inr (.inr (.inl e.symm))⟩
theorem IsRam.set3 {m' : Mem} {c : Nat -> AV} {W' : Nat -> Bool} (h : IsRam m r p B M W) (h1 : IsL m' 1 (r.v3 p) p c) (F : Fr (own (r.v3 p)) m m') (e : ∀ i, i < p -> c i = cF W' i) : IsRam m' r p B M W' /\ Fr r.has m m' := by
 obtain ⟨y, ey, hy⟩ := h.s
 obtain ⟨n1, n2, n3, n4, n5, n6⟩ := h.ne
 exact ⟨⟨⟨y, by rw [F r.b (by rw [ey]; simp) fun e => n3 e.symm]; exact ey, hy⟩, h.d1.fr F fun b e e' => n5 (Eq.trans e e'.symm), h.d2.fr F fun b e e' => n6 (Eq.trans e e'.symm), h1.congr fun i hi => e i (by omega), h.rng, h.p1, h.p2, h.ne⟩, F.mono fun b _ e => .inr (.inr (.inr e.symm))⟩
theorem IsRam.congr {B' : Nat -> Int} {M' W' : Nat -> Bool} (h : IsRam m r p B M W) (e1 : ∀ i, i < p * 1024 -> B i = B' i) (hr : ∀ i, 0 <= B' i /\ B' i < 256) (e2 : ∀ i, i < p -> M i = M' i) (e3 : ∀ i, i < p -> W i = W' i) : IsRam m r p B' M' W' :=
 ⟨h.s, h.d1.congr fun i hi => by simp [cB, e1 i (by omega)], h.d2.congr fun i hi => by simp [cF, e2 i (by omega)], h.d3.congr fun i hi => by simp [cF, e3 i (by omega)], hr, h.p1, h.p2, h.ne⟩
def cE (p : Nat) (a n : Int) : Prop := 0 <= n /\ a + n <= p * 1024
instance (p : Nat) (a n : Int) : Decidable (cE p a n) := by unfold cE; infer_instance
def xO (p : Nat) (a n : Int) : Prop := (n = 1 \/ n = 2 \/ n = 4) /\ a % n = 0 /\ cE p a n
instance (p : Nat) (a n : Int) : Decidable (xO p a n) := by unfold xO; infer_instance
def isI (n : Int) : Prop := -9223372036854775808 <= n /\ n < 9223372036854775808
def wC (n : Int) : Prop := 0 <= n /\ n < 4294967296
theorem wC.w {n : Int} (h : wC n) : IntKind.wrap .i64 n = n := by obtain ⟨h0, h1⟩ := h; exact zK (by omega) (by omega)
theorem zBd {n : Int} (h : 0 <= n) (h' : n < 18446744073709551616) : IntKind.wrap .u64 n = n := by
 simp [IntKind.wrap, IntKind.bits, IntKind.signed]; omega
theorem zE4 (h : IsRam m r p B M W) {a n : Int} (ha : wC a) (hn : isI n) {k : Bool -> Mem -> Prop} (hk : k (decide (cE p a n)) m) : F45 r.b 0 a n m k := by
 unfold F45
 have hp := h.p2
 obtain ⟨a0, a1⟩ := ha
 obtain ⟨n0, n1⟩ := hn
 simp only [Nat.zero_add, h.l1, wC.w ⟨a0, a1⟩, xJ]
 refine zD _ (fun c1 => zD _ (fun c2 => ?_) fun c2 => ?_) fun c1 => ?_
 .simp at c1 c2
  refine ⟨zA.self m, ?_⟩
  rw [zK (by omega) (by omega)]
  rw [show decide (n <= ((p * 1024 : Nat) : Int) - a) = decide (cE p a n) from decide_eq_decide.2 (by unfold cE; push_cast; omega)]
  exact hk
 .simp at c1 c2
  refine ⟨zA.self m, ?_⟩
  rw [show decide (cE p a n) = false from decide_eq_false (by unfold cE; omega)] at hk
  exact hk
 .simp at c1
  refine ⟨zA.self m, ?_⟩
  rw [show decide (cE p a n) = false from decide_eq_false (by unfold cE; omega)] at hk
  exact hk
theorem zGu (h : IsRam m r p B M W) {a n : Int} (ha : wC a) (hn : isI n) {k : Bool -> Mem -> Prop} (hk : k (decide (xO p a n)) m) : F47 r.b 0 a n m k := by
 unfold F47
 have one : ∀ q : Int, n = q -> (q = 1 \/ q = 2 \/ q = 4) -> kif (decide (IntKind.wrap .u32 n = 0)) False (kif ((a.tmod (IntKind.wrap .u32 n)) == 0) (F45 r.b 0 a n m fun x1 m2 => (zA m m2 /\ k x1 m)) ((zA m m /\ k false m))) := by
  intro q e hq
  subst e
  have hw : IntKind.wrap .u32 n = n := by rw [yV]; omega
  rw [hw, qP ha.1]
  refine zB (by simp; omega) (zD _ (fun c => zE4 h ha hn ⟨zA.self m, ?_⟩) fun c => ⟨zA.self m, ?_⟩)
  .simp at c
   rw [show decide (cE p a n) = decide (xO p a n) from decide_eq_decide.2 (by unfold xO; exact ⟨fun h => ⟨hq, c, h⟩, fun h => h.2.2⟩)]
   exact hk
  .simp at c
   rw [show decide (xO p a n) = false from decide_eq_false (by unfold xO; intro h; exact c h.2.1)] at hk
   exact hk
 refine zD _ (fun c => one 1 (by simpa using c) (by simp)) fun c1 => zD _ (fun c => one 2 (by simpa using c) (by simp)) fun c2 => zD _ (fun c => one 4 (by simpa using c) (by simp)) fun c3 => ⟨zA.self m, ?_⟩
 simp at c1 c2 c3
 rw [show decide (xO p a n) = false from decide_eq_false (by unfold xO; omega)] at hk
 exact hk
theorem qX (h : IsRam m r p B M W) {k : Int -> Mem -> Prop} (hk : k ((p * 1024 : Nat) : Int) m) : F63 r.b 0 m k := by
 unfold F63
 have := h.p2
 simp only [Nat.zero_add, h.l1, xJ]
 rw [yV, Int.emod_eq_of_lt (by omega) (by omega)]
 exact ⟨zA.self m, hk⟩
theorem zX9 (h : IsRam m r p B M W) {x : Int} {k : Bool -> Mem -> Prop} (hk : k (decide (0 <= x /\ x < p)) m) : F88 r.b 0 x m k := by
 unfold F88
 simp only [Nat.zero_add, h.l2, xJ]
 refine zD _ (fun c => ⟨zA.self m, ?_⟩) fun c => ⟨zA.self m, ?_⟩
 .simp at c
  rw [show decide (x < (p : Int)) = decide (0 <= x /\ x < p) from decide_eq_decide.2 (by omega)]; exact hk
 .simp at c
  rw [show decide (0 <= x /\ x < (p : Int)) = false from decide_eq_false (by omega)] at hk; exact hk
def ldv (f : Nat -> Int) : Nat -> Int
 | 0 => 0
 | i + 1 => bits .or .u32 (IntKind.wrap .u32 (ldv f i * 256)) (IntKind.wrap .u32 (f i))
theorem zIp {v : AV} {n : Nat} {f : Nat -> Int} (h : IsR m 1 v n (cB f)) (hn : (n : Int) < 9223372036854775807) {k0 : Int -> Mem -> Prop} (hk : k0 (ldv f n) m) : ∀ j i : Nat, i + j = n -> ∃ N, zUw v n N (ldv f i) i m k0
 | 0, i, e => ⟨1, by
  show zHw _ _ _ _ _ _ _
  unfold zHw
  refine zB (by simp; omega) ?_
  rw [show i = n by omega]; exact hk⟩
 | j + 1, i, e => by
  obtain ⟨N, hN⟩ := zIp h hn hk j (i + 1) (by omega)
  refine ⟨N + 1, ?_⟩
  show zHw _ _ _ _ _ _ _
  unfold zHw
  refine zG (by simp; omega) (zGi (k := fun _ _ x => _) h (by omega) (by omega) rfl fun _ _ _ => ?_)
  rw [zK (by omega) (by omega)]
  exact hN
theorem nF (h : IsRam m r p B M W) {a n : Int} (ha : wC a) (hn : isI n) {k : Int -> Bool -> Mem -> Prop} (hk : k (if xO p a n then ldv (fun i => B (a.toNat + i)) n.toNat else 0) (decide (xO p a n)) m) : F32 r.b 0 a n m k := by
 unfold F32
 refine zGu h ha hn (zD _ (fun c => ⟨zA.self m, ?_⟩) fun c => ?_)
 .simp at c
  rw [if_neg c, decide_eq_false c] at hk; exact hk
 .simp at c
  rw [if_pos c, decide_eq_true c] at hk
  obtain ⟨hn3, _, hi0, hi1⟩ := c
  obtain ⟨a0, a1⟩ := ha
  have hp := h.p2
  simp only [Nat.zero_add, h.l1]
  rw [wC.w ⟨a0, a1⟩, zK (by omega) (by omega)]
  refine yT9 h.d1.r (l := a.toNat) (u := (a + n).toNat) (by simp [xT]; omega) (by simp [xT]; omega) (by omega) (by omega) (fun b o cap e => by cases e; exact ⟨Nat.le_refl _, fun e q h => by cases h⟩) fun v' hv _ => ?_
  have hv : IsR m 1 v' n.toNat (cB fun i => B (a.toNat + i)) := by
   rw [show (a + n).toNat - a.toNat = n.toNat by omega] at hv
   exact hv.congr fun i hi => by simp [cB]
  rw [vB hv]
  obtain ⟨N, hN⟩ := zIp (k0 := fun x11 m12 => (zA m m12 /\ k x11 true m)) hv (by omega) ⟨zA.self m, hk⟩ n.toNat 0 (by omega)
  exact ⟨N, hN⟩
end
section
variable {m : Mem} {r : RB} {p : Nat} {B : Nat -> Int} {M W : Nat -> Bool}
def tW (M W : Nat -> Bool) (a n : Int) : Nat -> Bool := fun j => W j || (M j && decide (1 <= n /\ a / 1024 <= j /\ (j : Int) <= (a + n - 1) / 1024))
theorem zCx {a n : Int} (ha : wC a) (hn : cE p a n) (h1 : 1 <= n) {k0 : Mem -> Prop} : ∀ (j : Nat) (x : Int) (m : Mem), a / 1024 <= x -> x + j = (a + n - 1) / 1024 + 1 -> IsRam m r p B M (fun i => W i || (M i && decide (a / 1024 <= i /\ (i : Int) < x))) ->
  (∀ m', IsRam m' r p B M (tW M W a n) -> Fr r.has m m' -> k0 m') -> zMz r.b 0 a n (j + 1) x m k0
 | 0, x, m, hx, e, h, hk => by
  show zG0 _ _ _ _ _ _ _ _
  unfold zG0
  obtain ⟨a0, a1⟩ := ha
  obtain ⟨n0, n1⟩ := hn
  have hp := h.p2
  rw [wC.w ⟨a0, a1⟩, zK (n := a + n) (by omega) (by omega), zK (n := a + n - 1) (by omega) (by omega), Int.tdiv_eq_ediv_of_nonneg (by omega), zK (n := (a + n - 1) / 1024) (by omega) (by omega)]
  refine zB (by simp; omega) (hk m (h.congr (fun _ _ => rfl) h.rng (fun _ _ => rfl) fun i hi => ?_) (Fr.refl _ _))
  unfold tW
  rw [show decide (a / 1024 <= (i : Int) /\ (i : Int) < x) = decide (1 <= n /\ a / 1024 <= (i : Int) /\ (i : Int) <= (a + n - 1) / 1024) from decide_eq_decide.2 (by omega)]
 | j + 1, x, m, hx, e, h, hk => by
  have ha' := ha
  have hn' := hn
  obtain ⟨a0, a1⟩ := ha
  obtain ⟨n0, n1⟩ := hn
  have hp := h.p2
  show zG0 _ _ _ _ _ _ _ _
  unfold zG0
  have hx0 : 0 <= x /\ x < p := by omega
  have ew : ((fun i : Nat => W i || (M i && decide (a / 1024 <= i /\ (i : Int) < x))) x.toNat) = W x.toNat := by
   have : ¬ (a / 1024 <= ((x.toNat : Nat) : Int) /\ ((x.toNat : Nat) : Int) < x) := by omega
   show (W x.toNat || (M x.toNat && decide _)) = _
   rw [decide_eq_false this]; simp
  have nx : ∀ q, q = (W x.toNat || M x.toNat) -> ∀ m1, IsL m1 1 (r.v3 p) p (upd (cF (fun i => W i || (M i && decide (a / 1024 <= i /\ (i : Int) < x)))) x.toNat (.flat (.bool q))) -> Fr (own (r.v3 p)) m m1 -> zMz r.b 0 a n (j + 1) (IntKind.wrap .i64 (x + 1)) m1 k0 := fun q hq m1 g1 g2 => by
   rw [zK (by omega) (by omega)]
   obtain ⟨g4, g5⟩ := h.set3 (W' := fun i => W i || (M i && decide (a / 1024 <= i /\ (i : Int) < x + 1))) g1 g2 fun i hi => by
    unfold upd cF
    by_cases c : i = x.toNat
    .subst c
     rw [if_pos rfl, hq]
     have : a / 1024 <= ((x.toNat : Nat) : Int) /\ ((x.toNat : Nat) : Int) < x + 1 := by omega
     show AV.flat (.bool _) = AV.flat (.bool (W x.toNat || (M x.toNat && decide _)))
     rw [decide_eq_true this]; simp
    .rw [if_neg c]
     show AV.flat (.bool (W i || (M i && decide _))) = AV.flat (.bool (W i || (M i && decide _)))
     rw [show decide (a / 1024 <= (i : Int) /\ (i : Int) < x) = decide (a / 1024 <= (i : Int) /\ (i : Int) < x + 1) from decide_eq_decide.2 (by omega)]
   exact zCx ha' hn' h1 j (x + 1) m1 (by omega) (by omega) g4 fun m' g6 g7 => hk m' g6 (g5.trans g7)
  simp only [Nat.zero_add, h.l3, h.l2]
  rw [wC.w ⟨a0, a1⟩, zK (n := a + n) (by omega) (by omega), zK (n := a + n - 1) (by omega) (by omega), Int.tdiv_eq_ediv_of_nonneg (by omega), zK (n := (a + n - 1) / 1024) (by omega) (by omega)]
  refine zG (by simp; omega) (yCi (k := fun _ _ q => kif q _ _) h.d3.r hx0.1 hx0.2 (by show AV.flat (.bool _) = _; rw [ew]) fun _ _ _ => zD _ (fun c => ?_) fun c => ?_)
  .exact dX h.d3 hx0.1 hx0.2 fun m1 g1 g2 _ => nx _ (by simp [c]) m1 g1 g2
  .refine yCi (k := fun _ _ q => vD _ _) h.d2.r hx0.1 hx0.2 rfl fun _ _ _ => ?_
   exact dX h.d3 hx0.1 hx0.2 fun m1 g1 g2 _ => nx _ (by simp [c]) m1 g1 g2
theorem zEi (h : IsRam m r p B M W) {a n : Int} (ha : wC a) (hn : cE p a n) {k : Mem -> Prop} (hk : ∀ m', IsRam m' r p B M (tW M W a n) -> Fr r.has m m' -> k m') : F46 r.b 0 a n m k := by
 unfold F46
 refine zD _ (fun c => ?_) fun c => ?_
 .simp at c
  exact hk m (h.congr (fun _ _ => rfl) h.rng (fun _ _ => rfl) fun i hi => by
   unfold tW
   have : ¬ (1 <= n) := by omega
   simp [this]) (Fr.refl _ _)
 .simp at c
  obtain ⟨a0, a1⟩ := ha
  have hp := h.p2
  obtain ⟨n0, n1⟩ := hn
  rw [wC.w ⟨a0, a1⟩, Int.tdiv_eq_ediv_of_nonneg a0, zK (by omega) (by omega)]
  refine ⟨((a + n - 1) / 1024 + 1 - a / 1024).toNat + 1, zCx ⟨a0, a1⟩ ⟨n0, n1⟩ c _ _ m (by omega) (by omega) (h.congr (fun _ _ => rfl) h.rng (fun _ _ => rfl) fun i hi => ?_) hk⟩
  have : ¬ (a / 1024 <= (i : Int) /\ (i : Int) < a / 1024) := by omega
  simp [this]
def by8 (v : Int) (q : Nat) : Int := IntKind.wrap .u8 (v.fdiv (2 ^ (8 * q)))
theorem zV4 (v : Int) (q : Nat) : 0 <= by8 v q /\ by8 v q < 256 := by
 simp [by8, IntKind.wrap, IntKind.bits, IntKind.signed]; omega
def stv (B : Nat -> Int) (a n v : Int) : Nat -> Int := fun j => if a <= j /\ (j : Int) < a + n then by8 v (a + n - 1 - j).toNat else B j
theorem zDv {a n v : Int} (ha : wC a) (hn : cE p a n) (hn4 : n <= 4) {k0 : Mem -> Prop} : ∀ (j : Nat) (x : Int) (m : Mem), 0 <= x -> x + j = n -> IsRam m r p (fun i => if a + n - x <= i /\ (i : Int) < a + n then by8 v (a + n - 1 - i).toNat else B i) M W ->
  (∀ m', IsRam m' r p (stv B a n v) M W -> Fr r.has m m' -> k0 m') -> zVf r.b 0 a n v n (j + 1) x m k0
 | 0, x, m, hx, e, h, hk => by
  show zIf _ _ _ _ _ _ _ _ _ _
  unfold zIf
  refine zB (by simp; omega) (hk m ?_ (Fr.refl _ _))
  rw [show x = n by omega, show a + n - n = a by omega] at h
  exact h
 | j + 1, x, m, hx, e, h, hk => by
  have ha' := ha
  have hn' := hn
  obtain ⟨a0, a1⟩ := ha
  obtain ⟨n0, n1⟩ := hn
  have hp := h.p2
  show zIf _ _ _ _ _ _ _ _ _ _
  unfold zIf
  simp only [Nat.zero_add, h.l1]
  rw [wC.w ⟨a0, a1⟩, zK (n := a + n) (by omega) (by omega), zK (n := a + n - 1) (by omega) (by omega), zK (n := a + n - 1 - x) (by omega) (by omega), zK (n := 8 * x) (by omega) (by omega), zK (n := x + 1) (by omega) (by omega)]
  refine zG (by simp; omega) (zB (by simp; omega) (dX h.d1 (by omega) (by omega) fun m1 g1 g2 _ => ?_))
  obtain ⟨g4, g5⟩ := h.set1 (B' := fun i => if a + n - (x + 1) <= i /\ (i : Int) < a + n then by8 v (a + n - 1 - i).toNat else B i) g1 g2 (fun i hi => by
   unfold upd cB
   dsimp only
   by_cases c1 : i = (a + n - 1 - x).toNat
   .subst c1
    rw [if_pos rfl, if_pos (by omega)]
    unfold by8
    rw [show min (8 * x).toNat 32 = 8 * (a + n - 1 - ((a + n - 1 - x).toNat : Int)).toNat by omega]
   .rw [if_neg c1]
    by_cases c2 : a + n - x <= (i : Int) /\ (i : Int) < a + n
    .rw [if_pos c2, if_pos (by omega)]
    .rw [if_neg c2, if_neg (by omega)]) (fun i => by
   by_cases c2 : a + n - (x + 1) <= (i : Int) /\ (i : Int) < a + n
   .simp only [if_pos c2]; exact zV4 _ _
   .simp only [if_neg c2]
    have := h.rng i
    try dsimp only at this
    rw [if_neg (by omega)] at this; exact this)
  exact zDv ha' hn' hn4 j (x + 1) m1 (by omega) (by omega) g4 fun m' g6 g7 => hk m' g6 (g5.trans g7)
theorem zS9 (h : IsRam m r p B M W) {a n v : Int} (ha : wC a) (hn : isI n) {k : Bool -> Mem -> Prop} (h0 : ¬ xO p a n -> k false m) (h1 : xO p a n -> ∀ m', IsRam m' r p (stv B a n v) M (tW M W a n) -> Fr r.has m m' -> k true m') : F35 r.b 0 a n v m k := by
 unfold F35
 refine zGu h ha hn (zD _ (fun c => h0 (by simpa using c)) fun c => ?_)
 have c : xO p a n := by simpa using c
 have hn3 := c.1
 refine ⟨n.toNat + 1, zDv ha c.2.2 (by omega) _ 0 m (by omega) (by omega) (h.congr (fun i hi => by rw [if_neg (by omega)]) (fun i => by (try dsimp only); rw [if_neg (by omega)]; exact h.rng i) (fun _ _ => rfl) (fun _ _ => rfl)) fun m1 g1 g2 => ?_⟩
 exact zEi g1 ha c.2.2 fun m2 g3 g4 => h1 c m2 g3 (g2.trans g4)
end
section
variable {m : Mem} {r : RB} {p : Nat} {B : Nat -> Int} {M W : Nat -> Bool}
theorem Fr.trans' {S T : Nat -> Prop} {m0 m m' : Mem} (h : Fr S m0 m) (h' : Fr T m m') (hs : ∀ b, T b -> m0.obj b = none \/ S b) : Fr S m0 m' := fun b hb ht => by
 have e := h b hb ht
 rw [h' b (by rw [e]; exact hb) fun t => (hs b t).elim hb ht, e]
def onP (p : Nat) (x : Int) : Prop := 0 <= x /\ x < p
instance (p : Nat) (x : Int) : Decidable (onP p x) := by unfold onP; infer_instance
def zP3 (M : Nat -> Bool) (p : Nat) (x : Int) (b : Bool) : Nat -> Bool := fun j => if onP p x /\ (j : Int) = x then b else M j
theorem yC2 {x : Int} (h : ¬ onP p x) (b : Bool) : zP3 M p x b = M := by
 funext j; unfold zP3; rw [if_neg fun e => h e.1]
theorem yFz {x : Int} (h : onP p x) (b : Bool) (i : Nat) : upd (cF M) x.toNat (.flat (.bool b)) i = cF (zP3 M p x b) i := by
 obtain ⟨h0, h1⟩ := h
 unfold upd cF zP3
 by_cases c : i = x.toNat
 .rw [if_pos c, if_pos ⟨⟨h0, h1⟩, by omega⟩]
 .rw [if_neg c, if_neg (by omega)]
theorem zXd (h : IsRam m r p B M W) {x : Int} {k : Mem -> Prop} (hk : ∀ m', IsRam m' r p B (zP3 M p x true) W -> Fr r.has m m' -> k m') : F70 r.b 0 x m k := by
 unfold F70
 refine zX9 h (zD _ (fun c => ?_) fun c => ?_)
 .have c : onP p x := by simpa [onP] using c
  simp only [Nat.zero_add, h.l2]
  refine dX h.d2 c.1 c.2 fun m1 g1 g2 _ => ?_
  obtain ⟨g3, g4⟩ := h.set2 g1 g2 fun i hi => yFz c true i
  exact hk m1 g3 g4
 .have c : ¬ onP p x := by simpa [onP] using c
  exact hk m (by rw [yC2 c]; exact h) (Fr.refl _ _)
def lW (B : Nat -> Int) (a : Int) (n : Nat) (f : Nat -> Int) : Nat -> Int := fun j => if a <= j /\ (j : Int) < a + n then f (j - a.toNat) else B j
theorem yC4 (h : IsRam m r p B M W) {a : Int} {v : AV} {n : Nat} {f : Nat -> Int} (ha : wC a) (hv : IsR m 1 v n (cB f)) (hf : ∀ i, i < n -> 0 <= f i /\ f i < 256) (hin : cE p a n) {k : KV}
  (hk : ∀ m' u, IsRam m' r p (lW B a n f) M W -> Fr r.has m m' -> k u m') : qH 1 (r.v1 p) (some a) none fun v5 => qF 1 v5 v m k := by
 obtain ⟨a0, a1⟩ := ha
 obtain ⟨i0, i1⟩ := hin
 refine zWh h.d1 hv (l := a.toNat) (by omega) (by omega) fun m' u g1 g2 g3 => ?_
 obtain ⟨g4, g5⟩ := h.set1 (B' := lW B a n f) g1 g2 (fun i hi => by
  unfold lW cB
  dsimp only
  by_cases c : a <= (i : Int) /\ (i : Int) < a + n
  .rw [if_pos (by omega), if_pos c, Nat.mul_one]
  .rw [if_neg (by omega), if_neg c]) (fun i => by
  unfold lW
  by_cases c : a <= (i : Int) /\ (i : Int) < a + n
  .rw [if_pos c]; exact hf _ (by omega)
  .rw [if_neg c]; exact h.rng i)
 exact hk m' u g4 g5
theorem zQv (h : IsRam m r p B M W) {a : Int} {v : AV} {n : Nat} {f : Nat -> Int} (ha : wC a) (hv : IsR m 1 v n (cB f)) (hf : ∀ i, i < n -> 0 <= f i /\ f i < 256) (hn : (n : Int) < 9223372036854775808) {k : Bool -> Mem -> Prop}
  (h0 : ¬ cE p a n -> k false m) (h1 : cE p a n -> ∀ m', IsRam m' r p (lW B a n f) M (tW M W a n) -> Fr r.has m m' -> k true m') : F31 r.b 0 a v m k := by
 unfold F31
 rw [vB hv]
 refine zE4 h ha ⟨by omega, hn⟩ (zD _ (fun c => h0 (by simpa using c)) fun c => ?_)
 have c : cE p a n := by simpa using c
 simp only [Nat.zero_add, h.l1]
 refine yC4 h ha hv hf c fun m1 u g1 g2 => ?_
 rw [vB hv]
 exact zEi g1 ha c fun m2 g3 g4 => h1 c m2 g3 (g2.trans g4)
def cI (l : List Nat) : Nat -> AV := fun i => .flat (.int .i64 (l.getD i 0 : Nat))
def wl (W : Nat -> Bool) (n : Nat) : List Nat := (List.range n).filter W
theorem zVr (W : Nat -> Bool) (n : Nat) : wl W (n + 1) = wl W n ++ (if W n then [n] else []) := by
 unfold wl
 rw [List.range_succ, List.filter_append]
 by_cases c : W n <;> simp [c]
theorem yP2 (W : Nat -> Bool) (n : Nat) : (wl W n).length <= n := by
 unfold wl
 exact Nat.le_trans (List.length_filter_le _ _) (by simp)
theorem yP9 (l : List Nat) (x : Nat) {d : Nat -> AV} (hd : d 0 = .flat (.int .i64 x)) (i : Nat) (hi : i < l.length + 1) : cat 1 l.length (cI l) d i = cI (l ++ [x]) i := by
 unfold cat cI
 rw [Nat.mul_one]
 by_cases c : i < l.length
 .rw [if_pos c]; simp [List.getD, List.getElem?_append_left c]
 .rw [if_neg c, show i - l.length = 0 by omega, hd, show i = l.length by omega]; simp [List.getD]
theorem xGu {m : Mem} {v : AV} {l : List Nat} {x : Int} {y : Nat} (hx : x = y) (h : IsL m 1 v l.length (cI l)) (hl : l.length <= 1000000) {k : KV} (hk : ∀ v' m', IsL m' 1 v' (l ++ [y]).length (cI (l ++ [y])) -> Fr (own v) m m' -> (∀ b, own v' b -> own v b \/ m.obj b = none) -> k v' m') :
  zQ m ⟨1, upd (zH [(.flat (.int .i64 0))]) 0 (.flat (.int .i64 x)), 3, false⟩ fun b9 m8 => uB 1 8 3 v (.sl b9 0 1 (.ex 1)) m8 k := by
 subst hx
 refine zW fun b m1 hb K e O => ?_
 have hne : ∀ b', own v b' -> b' ≠ b := fun b' ho e => h.live ho (e ▸ hb)
 refine yOc (h.keep K) (IsL.row (esz := 1) e rfl rfl).r (by omega) fun v' m2 g1 g2 g3 => ?_
 refine hk v' m2 ?_ (fun b' hb' ho => ?_) fun b' ho => ?_
 .rw [List.length_append, List.length_singleton]
  exact g1.congr fun i hi => yP9 l y rfl i (by omega)
 .rw [g2 b' (by rw [K b' hb']; exact hb') ho, K b' hb']
 .rcases g3 b' ho with h1 | h1
  .exact .inl h1
  .exact .inr (zX K h1)
structure WrSt (m0 m : Mem) (r : RB) (p : Nat) (B : Nat -> Int) (M W : Nat -> Bool) (v : AV) (i : Nat) : Prop where
 h : IsRam m r p B M (fun j => W j && decide (i <= j))
 l : IsL m 1 v (wl W i).length (cI (wl W i))
 F : Fr r.has m0 m
 o : ∀ b, own v b -> m0.obj b = none
 hl : ∀ b, r.has b -> m0.obj b ≠ none
theorem yKq {m0 : Mem} {v : AV} {i : Nat} (S : WrSt m0 m r p B M W v i) (hi : i < p) {k : AV -> Mem -> Prop} (hk : ∀ v' m', WrSt m0 m' r p B M W v' (i + 1) -> k v' m') :
  vD (r.v3 p) fun b o l q => kif (decide (0 <= (i : Int)) && decide ((i : Int) < l)) (ldB m b (o + (i : Int).toNat * 1) fun x => kif x (zQ m ⟨1, upd (zH [(.flat (.int .i64 0))]) 0 (.flat (.int .i64 i)), 3, false⟩ fun b9 m8 => uB 1 8 3 v (.sl b9 0 1 (.ex 1)) m8 fun v10 m11 => ldA m11 r.b 2 fun v12 => vD v12 fun b13 o14 l15 p16 => kif (decide (0 <= (i : Int)) && decide ((i : Int) < l15)) (wF m11 b13 (o14 + (i : Int).toNat * 1) (.flat (.bool false)) fun m17 => k v10 m17) False) (k v m)) False := by
 have hp := S.h.p2
 have hw := yP2 W i
 have hx : (W i && decide (i <= i)) = W i := by simp
 refine yCi (k := fun _ _ q => kif q _ _) S.h.d3.r (by omega) (by omega) (by rw [Int.toNat_natCast]; show AV.flat (.bool (W i && decide (i <= i))) = _; rw [hx]) fun _ _ _ => zD _ (fun c => ?_) fun c => ?_
 .refine xGu rfl S.l (by omega) fun v' m2 g1 g2 g3 => ?_
  have dis : ∀ b, r.has b -> ¬ own v b := fun b hb ho => S.hl b hb (S.o b ho)
  have h2 := S.h.fr g2 fun b hb ho => dis b hb ho
  rw [h2.l3]
  refine dX h2.d3 (by omega) (by omega) fun m3 g4 g5 g6 => ?_
  obtain ⟨g7, g8⟩ := h2.set3 (W' := fun j => W j && decide (i + 1 <= j)) g4 g5 fun j hj => by
   unfold upd cF
   dsimp only
   rw [Int.toNat_natCast]
   by_cases c1 : j = i
   .subst c1; rw [if_pos rfl, decide_eq_false (by omega)]; simp
   .rw [if_neg c1, show decide (i <= j) = decide (i + 1 <= j) from decide_eq_decide.2 (by omega)]
  have own' : ∀ b, own v' b -> m0.obj b = none := fun b hb => by
   rcases g3 b hb with h1 | h1
   .exact S.o b h1
   .by_cases hm : m0.obj b = none
    .exact hm
    .by_cases hr : r.has b
     .exact absurd h1 (S.h.live hr)
     .rw [<- S.F b hm hr]; exact h1
  refine hk v' m3 ⟨g7, ?_, ?_, own', S.hl⟩
  .have e : wl W (i + 1) = wl W i ++ [i] := by rw [zVr, if_pos c]
   rw [e]
   exact g1.fr g8 fun b ho hr => S.hl b hr (own' b ho)
  .exact (S.F.trans' g2 fun b ho => .inl (S.o b ho)).trans g8
 .refine hk v m ⟨S.h.congr (fun _ _ => rfl) S.h.rng (fun _ _ => rfl) fun j hj => ?_, ?_, S.F, S.o, S.hl⟩
  .by_cases c1 : j = i
   .subst c1; rw [c]; simp
   .rw [show decide (i <= j) = decide (i + 1 <= j) from decide_eq_decide.2 (by omega)]
  .have e : wl W (i + 1) = wl W i := by rw [zVr, if_neg (by rw [c]; simp)]; simp
   rw [e]; exact S.l
theorem yOp {m0 : Mem} {v : AV} (S : WrSt m0 m r p B M W v p) {k : AV -> Mem -> Prop} (hk : ∀ v m', IsRam m' r p B M (fun _ => false) -> IsL m' 1 v (wl W p).length (cI (wl W p)) -> Fr r.has m0 m' -> (∀ b, own v b -> m0.obj b = none) -> k v m') : k v m :=
 hk v m (S.h.congr (fun _ _ => rfl) S.h.rng (fun _ _ => rfl) fun j hj => by rw [decide_eq_false (by omega)]; simp) S.l S.F S.o
theorem yCd (h : IsRam m r p B M W) : WrSt m m r p B M W (.flat (.slice none 0 0)) 0 :=
 ⟨h.congr (fun _ _ => rfl) h.rng (fun _ _ => rfl) fun j hj => by rw [decide_eq_true (Nat.zero_le _)]; simp, .nil none _, Fr.refl _ _, fun b e => e.elim, fun b hb => h.live hb⟩
theorem eZ {m0 : Mem} {k0 : AV -> Mem -> Prop} (hk : ∀ v m', IsRam m' r p B M (fun _ => false) -> IsL m' 1 v (wl W p).length (cI (wl W p)) -> Fr r.has m0 m' -> (∀ b, own v b -> m0.obj b = none) -> k0 v m') : ∀ (j i : Nat) (v : AV) (m : Mem), i + j = p -> WrSt m0 m r p B M W v i -> zQh r.b 0 (r.v3 p) p (j + 1) v i m k0
 | 0, i, v, m, e, S => by
  have e : i = p := by omega
  subst e
  show zGh _ _ _ _ _ _ _ _ _
  unfold zGh
  exact zB (by simp) (yOp S hk)
 | j + 1, i, v, m, e, S => by
  have hp := S.h.p2
  show zGh _ _ _ _ _ _ _ _ _
  unfold zGh
  simp only [Nat.zero_add]
  rw [zK (n := (i : Int) + 1) (by omega) (by omega)]
  exact zG (by simp; omega) (yKq (k := fun v' m' => zQh r.b 0 (r.v3 p) p (j + 1) v' ((i : Int) + 1) m' k0) S (by omega) fun v' m' S' => eZ hk j (i + 1) v' m' (by omega) S')
theorem zJc (h : IsRam m r p B M W) {k : AV -> Mem -> Prop} (hk : ∀ v m', IsRam m' r p B M (fun _ => false) -> IsL m' 1 v (wl W p).length (cI (wl W p)) -> Fr r.has m m' -> (∀ b, own v b -> m.obj b = none) -> k v m') : F55 r.b 0 m k := by
 unfold F55
 simp only [Nat.zero_add, h.l3, xJ]
 exact ⟨p + 1, eZ hk p 0 _ m (by omega) (yCd h)⟩
def zA3 (x : Int) : Nat := (max 1 (min x 64)).toNat
theorem yFr {P : Int} {q : Nat} (hP : P = q) (h1 : 1 <= q) (h2 : q <= 64) {t : TypeId} {k : AV -> Mem -> Prop} (hk : ∀ r m', IsRam m' r q (fun _ => 0) (fun _ => false) (fun _ => false) -> zA m m' -> (∀ b, r.has b -> m.obj b = none) -> k (.ptr r.b 0) m') :
  mkS [(.flat (.int .u8 0))] 1 5 (IntKind.wrap .i64 (P * 1024)) (IntKind.wrap .i64 (P * 1024)) m fun b1 m2 => mkS [(.flat (.bool false))] 1 4 P P m2 fun b3 m4 => mkS [(.flat (.bool false))] 1 4 P P m4 fun b5 m6 => zQ m6 ⟨3, (upd (upd (upd (zH [(.flat (.slice none 0 0)), (.flat (.slice none 0 0)), (.flat (.slice none 0 0))]) 0 (.sl b1 0 ((IntKind.wrap .i64 (P * 1024)).toNat) (.ex ((IntKind.wrap .i64 (P * 1024)).toNat)))) 1 (.sl b3 0 (P.toNat) (.ex (P.toNat)))) 2 (.sl b5 0 (P.toNat) (.ex (P.toNat)))), t, false⟩ fun b8 m7 => k (.ptr b8 0) m7 := by
 subst hP
 rw [zK (by omega) (by omega), show ((q : Int) * 1024) = ((q * 1024 : Nat) : Int) by push_cast; rfl]
 refine zHh (by omega) (by omega) (by omega) fun b1 m1 hb1 K1 e1 O1 => zHh (by omega) (by omega) (by omega) fun b2 m2 hb2 K2 e2 O2 => zHh (by omega) (by omega) (by omega) fun b3 m3 hb3 K3 e3 O3 => zW fun b m4 hb K4 e4 O4 => ?_
 simp only [Int.toNat_natCast] at e1 e2 e3 e4 ⊢
 have K12 := K2.trans (K3.trans K4)
 have f1 : m4.obj b1 = _ := (K12 b1 (by rw [e1]; simp)).trans e1
 have f2 : m4.obj b2 = _ := ((K3.trans K4) b2 (by rw [e2]; simp)).trans e2
 have f3 : m4.obj b3 = _ := (K4 b3 (by rw [e3]; simp)).trans e3
 have l2 : m2.obj b2 ≠ none := by rw [e2]; simp
 have l1 : m1.obj b1 ≠ none := by rw [e1]; simp
 have n12 : b1 ≠ b2 := fun e => by subst e; exact l1 hb2
 have l12 : m2.obj b1 ≠ none := by rw [K2 b1 l1]; exact l1
 have n13 : b1 ≠ b3 := fun e => by subst e; exact l12 hb3
 have n23 : b2 ≠ b3 := fun e => by subst e; exact l2 hb3
 have l13 : m3.obj b1 ≠ none := by rw [K3 b1 l12]; exact l12
 have l23 : m3.obj b2 ≠ none := by rw [K3 b2 l2]; exact l2
 have l33 : m3.obj b3 ≠ none := by rw [e3]; simp
 refine hk ⟨b, b1, b2, b3⟩ m4 ⟨⟨_, e4, rfl, rfl, rfl, rfl⟩, ?_, ?_, ?_, fun i => ⟨Int.le_refl _, by omega⟩, h1, h2, fun e => by cases e; exact l13 hb, fun e => by cases e; exact l23 hb, fun e => by cases e; exact l33 hb, n12, n13, n23⟩ (K1.trans K12) fun b' hb' => ?_
 .exact (IsL.row (esz := 1) f1 (by simp) rfl).congr fun i hi => by simp [zEb, cB]
 .exact (IsL.row (esz := 1) f2 (by simp) rfl).congr fun i hi => by simp [zEb, cF]
 .exact (IsL.row (esz := 1) f3 (by simp) rfl).congr fun i hi => by simp [zEb, cF]
 .rcases hb' with rfl | rfl | rfl | rfl
  .exact zX (K1.trans (K2.trans K3)) hb
  .exact hb1
  .exact zX K1 hb2
  .exact zX (K1.trans K2) hb3
theorem yBf {x : Int} {k : AV -> Mem -> Prop} (hk : ∀ r m', IsRam m' r (zA3 x) (fun _ => 0) (fun _ => false) (fun _ => false) -> zA m m' -> (∀ b, r.has b -> m.obj b = none) -> k (.ptr r.b 0) m') : yK7 x m k := by
 unfold yK7
 exact yFr (by unfold zA3; split <;> split <;> omega) (by unfold zA3; omega) (by unfold zA3; omega) hk
end
structure Key where
 a : Int
 m : Int
 o : Int
deriving DecidableEq
def oM (c : Nat -> AV) (k : Key) : Prop := c 0 = .flat (.int .u32 k.a) /\ c 1 = .flat (.int .i64 k.m) /\ c 2 = .flat (.int .i64 k.o)
theorem oM.congr {c d : Nat -> AV} {k : Key} (h : oM c k) (e : ∀ j, j < 3 -> d j = c j) : oM d k := ⟨(e 0 (by omega)).trans h.1, (e 1 (by omega)).trans h.2.1, (e 2 (by omega)).trans h.2.2⟩
theorem zVt {c d : Nat -> AV} {x y : Key} (h : oM c x) (h' : oM d y) (k : Bool -> Prop) : geq zE3 c d k = k (decide (x = y)) := by
 obtain ⟨a0, a1, a2⟩ := h
 obtain ⟨b0, b1, b2⟩ := h'
 have e : decide (x = y) = ((x.a == y.a) && ((x.m == y.m) && ((x.o == y.o) && true))) := by
  obtain ⟨a, b, c⟩ := x
  obtain ⟨a', b', c'⟩ := y
  rw [Bool.eq_iff_iff]
  simp
 rw [e]
 unfold geq zE3
 simp only [List.all_cons, List.all_nil, a0, a1, a2, b0, b1, b2, LK.fits, AV.same, decide_true, Bool.and_true, Bool.and_self]
section
variable {m : Mem}
def qJ (m : Mem) (b : Nat) (x : Key) : Prop := ∃ y, m.obj b = some y /\ y.n = 3 /\ y.ro = false /\ oM y.c x
theorem qJ.lg {b : Nat} {x : Key} (h : qJ m b x) {k : (Nat -> AV) -> Prop} (hk : ∀ c, oM c x -> k c) : yN 3 m b 0 k := by
 obtain ⟨y, e, hn, hr, hc⟩ := h
 rw [xH e (by omega)]
 refine hk _ (hc.congr fun j hj => ?_)
 unfold sub; rw [if_pos hj, Nat.zero_add]
theorem qJ.fr {m' : Mem} {S : Nat -> Prop} {b : Nat} {x : Key} (h : qJ m b x) (F : Fr S m m') (hb : ¬ S b) : qJ m' b x := by
 obtain ⟨y, e, r⟩ := h
 exact ⟨y, by rw [F b (by rw [e]; simp) hb]; exact e, r⟩
theorem qJ.keep {m' : Mem} {b : Nat} {x : Key} (h : qJ m b x) (K : zA m m') : qJ m' b x := h.fr (K.fr fun _ => False) fun h => h
theorem qJ.live {b : Nat} {x : Key} (h : qJ m b x) : m.obj b ≠ none := by obtain ⟨y, e, _⟩ := h; rw [e]; simp
def IsK (m : Mem) (v : AV) (ks : List Key) : Prop := ∃ c, IsL m 3 v ks.length c /\ ∀ i, (h : i < ks.length) -> oM (fun j => c (i * 3 + j)) ks[i]
theorem IsK.fr {m' : Mem} {S : Nat -> Prop} {v : AV} {ks : List Key} (h : IsK m v ks) (F : Fr S m m') (hs : ∀ b, own v b -> ¬ S b) : IsK m' v ks := by
 obtain ⟨c, h1, h2⟩ := h; exact ⟨c, h1.fr F hs, h2⟩
theorem IsK.keep {m' : Mem} {v : AV} {ks : List Key} (h : IsK m v ks) (K : zA m m') : IsK m' v ks := by
 obtain ⟨c, h1, h2⟩ := h; exact ⟨c, h1.keep K, h2⟩
theorem IsK.len {v : AV} {ks : List Key} (h : IsK m v ks) (k : Int -> Prop) : xJ v k = k (ks.length : Int) := by
 obtain ⟨c, h1, h2⟩ := h; exact vB h1.r k
theorem IsK.live {v : AV} {ks : List Key} (h : IsK m v ks) {b : Nat} (hb : own v b) : m.obj b ≠ none := by
 obtain ⟨c, h1, h2⟩ := h; exact h1.live hb
theorem IsK.nil (a : Option Addr) : IsK m (.flat (.slice a 0 0)) [] := ⟨fun _ => .junk, .nil a _, fun i h => by simp at h⟩
theorem IsK.ld {v : AV} {ks : List Key} (h : IsK m v ks) (i : Nat) (hi : i < ks.length) {k : (Nat -> AV) -> Prop} (hk : ∀ c, oM c ks[i] -> k c) : vD v fun b o q p => kif (decide (0 <= (i : Int)) && decide ((i : Int) < q)) (yN 3 m b (o + (i : Int).toNat * 3) k) False := by
 obtain ⟨c, h1, h2⟩ := h
 refine yBb h1.r (by omega) (by omega) fun d hd => hk d ((h2 i hi).congr fun j hj => ?_)
 simp only [Int.toNat_natCast] at hd
 exact hd j hj
theorem zEm {v : AV} {b2 : Nat} {ks : List Key} {x : Key} (hv : IsK m v ks) (hl : ks.length <= 100000) (hb : qJ m b2 x) {k0 : Mem -> Prop} {kr : Int -> Mem -> Prop} (hno : (∀ y ∈ ks, y ≠ x) -> k0 m) (hyes : ∀ i : Nat, (h : i < ks.length) -> ks[i] = x -> kr i m) :
  ∀ (j i : Nat), i + j = ks.length -> (∀ t, (h : t < ks.length) -> t < i -> ks[t] ≠ x) -> zJt v b2 0 ks.length (j + 1) i m k0 kr
 | 0, i, e, hn => by
  show cH _ _ _ _ _ _ _ _ _
  unfold cH
  refine zB (by simp; omega) (hno fun y hy => ?_)
  obtain ⟨t, ht, rfl⟩ := List.getElem_of_mem hy
  exact hn t ht (by omega)
 | j + 1, i, e, hn => by
  show cH _ _ _ _ _ _ _ _ _
  unfold cH
  refine zG (by simp; omega) (hb.lg fun c4 h4 => hv.ld i (by omega) fun c9 h9 => ?_)
  rw [zVt h4 h9, zK (n := (i : Int) + 1) (by omega) (by omega)]
  refine zD _ (fun c => hyes i (by omega) (of_decide_eq_true c).symm) fun c => zEm hv hl hb hno hyes j (i + 1) (by omega) fun t ht hlt => ?_
  by_cases e1 : t = i
  .subst e1; intro e2; rw [e2] at c; simp at c
  .exact hn t ht (by omega)
theorem zS5 {v : AV} {ks : List Key} {c : Nat -> AV} {x : Key} (hv : IsK m v ks) (hl : ks.length <= 100000) (hc : oM c x) {k : Int -> Mem -> Prop} (hno : (∀ y ∈ ks, y ≠ x) -> k (-1) m) (hyes : ∀ i : Nat, (h : i < ks.length) -> ks[i] = x -> k i m) : yIk v c m k := by
 unfold yIk
 refine zW fun b2 m1 hb K e O => ?_
 have hb2 : qJ m1 b2 x := ⟨_, e, rfl, rfl, hc⟩
 rw [(hv.keep K).len]
 exact ⟨ks.length + 1, zEm (hv.keep K) hl hb2 (fun h => ⟨K, hno h⟩) (fun i h e => ⟨K, hyes i h e⟩) ks.length 0 (by omega) fun t _ h => by omega⟩
theorem zQa {v : AV} {ks : List Key} {i : Nat} {ii jj : Int} (hv : IsK m v ks) (hl : ks.length <= 100000) (hi : i < ks.length) (e1 : ii = i) (e2 : jj = ii + 1) {k : AV -> Mem -> Prop}
  (hk : ∀ v' m', IsK m' v' (ks.eraseIdx i) -> Fr (own v) m m' -> (∀ b, own v' b -> own v b) -> k v' m') : yBs v ii jj m k := by
 obtain ⟨c, h1, h2⟩ := hv
 obtain ⟨n, hn⟩ : ∃ n, ks.length = n := ⟨_, rfl⟩
 rw [hn] at h1 hl hi
 cases h1 with
 | nil a c => omega
 | sl b o n cap y c g1 g2 g3 g4 g5 =>
  have hlow : n <= cap.low /\ ∀ e q, cap = .ge e q -> e = 3 := by
   cases cap with
   | ex q => exact ⟨g5.1, fun e q h => by cases h⟩
   | ge e q => exact ⟨g5.2, fun e' q' h => by cases h; exact g5.1⟩
  have hin : o + n * 3 <= y.n := g2
  unfold yBs
  subst e1 e2
  show slM (.sl b o n cap) (some (i : Int)) (some ((i : Int) + 1)) (some (n : Int)) _
  have dt : ∀ {p : Prop} [Decidable p], p -> decide p = true := fun h => decide_eq_true h
  refine zG (dt (by omega)) (zG (dt (by omega)) (zG (dt (by have := hlow.1; omega)) (zB (by rw [beq_eq_false_iff_ne]; omega) ?_)))
  show qH 3 (.sl b o n cap) none (some (i : Int)) _
  have key : ∀ v3, v3 = .sl b o i cap -> (qH 3 (.sl b o n cap) (some ((i : Int) + 1)) none fun v4 => uB 3 24 125 v3 v4 m fun v5 m6 => xJ v5 fun x7 => qH 3 v5 (some x7) (some (n : Int)) fun v8 => oK [(.flat (.int .u32 0)), (.flat (.int .i64 0)), (.flat (.int .i64 0))] v8 m6 fun m9 => k v5 m9) := fun v3 e3 => by
   subst e3
   have hS : IsS m 3 (.sl b o n cap) n c := ⟨.sl b o n cap y c g1 g2 g3, fun b' o' cap' e => by cases e; exact hlow⟩
   refine zH5 hS (l := i + 1) (u := n) (by simp [xT]) (by simp [xT]) (by omega) (Nat.le_refl _) fun v4 s4 o4 => ?_
   have hC : ∀ t, (h : t < (ks.eraseIdx i).length) -> oM (fun j => (fun z => if z < i * 3 then c z else c (z + 3)) (t * 3 + j)) (ks.eraseIdx i)[t] := fun t ht => by
    rw [List.getElem_eraseIdx]
    have hlen : (ks.eraseIdx i).length = n - 1 := by rw [List.length_eraseIdx, if_pos (by omega), hn]
    by_cases c1 : t < i
    .rw [dif_pos c1]
     refine (h2 t (by omega)).congr fun j hj => ?_
     dsimp only
     rw [if_pos (by omega)]
    .rw [dif_neg c1]
     refine (h2 (t + 1) (by omega)).congr fun j hj => ?_
     dsimp only
     rw [if_neg (by omega)]
     congr 1; omega
   have hlen : (ks.eraseIdx i).length = n - 1 := by rw [List.length_eraseIdx, if_pos (by omega), hn]
   unfold uB dA
   refine eF s4.r fun d hd => ?_
   -- behind the append
   have tail : ∀ (y6 : Blk) (m6 : Mem), m6.obj b = some y6 -> y6.ro = false -> o + n * 3 <= y6.n -> (∀ z, z < (n - 1) * 3 -> y6.c (o + z) = if z < i * 3 then c z else c (z + 3)) -> y6.n = y.n -> Fr (fun x => x = b) m m6 -> xJ (.sl b o (n - 1) cap) fun x7 => qH 3 (.sl b o (n - 1) cap) (some x7) (some (n : Int)) fun v8 => oK [(.flat (.int .u32 0)), (.flat (.int .i64 0)), (.flat (.int .i64 0))] v8 m6 fun m9 => k (.sl b o (n - 1) cap) m9 := fun y6 m6 ey hro hin6 hc6 hyn F6 => by
    show qH 3 (.sl b o (n - 1) cap) (some ((n - 1 : Nat) : Int)) (some (n : Int)) _
    have cl : ∀ cap8, oK [(.flat (.int .u32 0)), (.flat (.int .i64 0)), (.flat (.int .i64 0))] (.sl b (o + (n - 1) * 3) 1 cap8) m6 fun m9 => k (.sl b o (n - 1) cap) m9 := fun cap8 => by
     unfold oK
     dsimp only
     rw [zO, if_neg (by omega)]
     unfold kobj
     rw [ey]
     dsimp only
     rw [hro]
     refine yK (by simp; omega) (hk _ _ ⟨fun z => if z < i * 3 then c z else c (z + 3), ?_, hC⟩ ?_ fun b' e => e)
     .rw [hlen]
      refine .sl b o (n - 1) cap _ _ (zL _ _ _) (by show o + (n - 1) * 3 <= y6.n; omega) (fun z hz => ?_) rfl ?_
      .show zC y6.c (o + (n - 1) * 3) _ _ (o + z) = _
       unfold zC
       rw [if_neg (by omega)]
       exact hc6 z hz
      .cases cap with
       | ex q => exact ⟨by have := g5.1; omega, by show o + q * 3 <= y6.n; rw [hyn]; exact g5.2⟩
       | ge e q => exact ⟨g5.1, by have := g5.2; omega⟩
     .intro b' hb' ho
      have hne : b' ≠ b := fun e => ho e.symm
      rw [zP _ hne]; exact F6 b' hb' hne
    unfold qH
    refine zG (by simp [xT]) (zG (by simp [xT] <;> omega) (zG (by simp [xT] <;> omega) ?_))
    have t1 : (xT (some ((n - 1 : Nat) : Int)) 0).toNat = n - 1 := by simp [xT]
    have t2 : (xT (some (n : Int)) ((n - 1 : Nat) : Int)).toNat = n := by simp [xT]
    rw [t1, t2]
    have e1 : n - (n - 1) = 1 := by omega
    cases cap with
    | ex q =>
     have : n <= q := hlow.1
     refine yK (by omega) ?_
     rw [e1]; exact cl _
    | ge e q =>
     have : n <= q := hlow.1
     refine yK (hlow.2 e q rfl) (yK (by omega) ?_)
     rw [e1]; exact cl _
   dsimp only
   by_cases hz : n - (i + 1) = 0
   .have hni : n - 1 = i := by omega
    refine yK hz ?_
    have := tail y m g1 g4 g2 (fun z hz' => by rw [if_pos (by omega)]; exact g3 z (by omega)) rfl (Fr.refl _ _)
    rw [hni] at this
    exact this
   .rw [zO, if_neg hz]
    have hni : i + (n - (i + 1)) = n - 1 := by omega
    have hap : ∀ cap', cap' = cap -> sH 3 b o i cap' (n - (i + 1)) d m fun v5 m6 => xJ v5 fun x7 => qH 3 v5 (some x7) (some (n : Int)) fun v8 => oK [(.flat (.int .u32 0)), (.flat (.int .i64 0)), (.flat (.int .i64 0))] v8 m6 fun m9 => k v5 m9 := fun cap' ec => by
     subst ec
     unfold sH kobj
     rw [g1]
     dsimp only
     rw [g4]
     dsimp only
     rw [hni]
     refine tail _ _ (zL _ _ _) rfl (by show o + n * 3 <= max y.n _; omega) (fun z hz' => ?_) (by show max y.n _ = y.n; omega) (Fr.set (S := fun x => x = b) rfl _)
     show zC y.c (o + i * 3) ((n - (i + 1)) * 3) d (o + z) = _
     unfold zC
     by_cases c1 : z < i * 3
     .rw [if_neg (by omega), if_pos c1]; exact g3 z (by omega)
     .rw [if_pos (by omega), if_neg c1, hd _ (by omega)]
      show c ((i + 1) * 3 + (o + z - (o + i * 3))) = c (z + 3)
      congr 1; omega
    unfold kobj
    rw [g1]
    refine yK ⟨by omega, by omega⟩ ?_
    cases cap with
    | ex q =>
     have : n <= q := hlow.1
     exact yK (by omega) (yK (by omega) (hap _ rfl))
    | ge e q =>
     have : n <= q := hlow.1
     have e3 := hlow.2 e q rfl
     subst e3
     exact yK rfl (yK (by omega) (hap _ rfl))
  unfold qH
  refine zG (by simp [xT]) (zG (by simp [xT]) (zG (by simp [xT]; omega) ?_))
  have t1 : (xT none 0).toNat = 0 := rfl
  have t2 : (xT (some (i : Int)) (n : Int)).toNat = i := by simp [xT]
  rw [t1, t2]
  cases cap with
  | ex q =>
   have : n <= q := hlow.1
   exact yK (by omega) (key _ (by simp))
  | ge e q =>
   have : n <= q := hlow.1
   have e3 := hlow.2 e q rfl
   exact yK (by rw [e3]) (yK (by omega) (key _ (by rw [e3]; simp)))
end
theorem uS {α : Type} (f : α -> Key) (key : Key) : ∀ (l : List α) (i : Nat) (h : i < l.length), (l.map f).Nodup -> f l[i] = key -> l.filter (fun e => decide (f e ≠ key)) = l.eraseIdx i
 | [], i, h, _, _ => by simp at h
 | x :: l, 0, h, nd, e => by
  simp only [List.getElem_cons_zero] at e
  simp only [List.map_cons, List.nodup_cons] at nd
  rw [List.filter_cons_of_neg (by simp [e]), List.eraseIdx_cons_zero]
  refine List.filter_eq_self.2 fun y hy => ?_
  simp only [ne_eq, decide_eq_true_eq]
  intro e2
  exact nd.1 (by rw [e, <- e2]; exact List.mem_map.2 ⟨y, hy, rfl⟩)
 | x :: l, i + 1, h, nd, e => by
  simp only [List.getElem_cons_succ] at e
  simp only [List.map_cons, List.nodup_cons] at nd
  have hx : f x ≠ key := fun e2 => nd.1 (by rw [e2, <- e]; exact List.mem_map.2 ⟨_, List.getElem_mem _, rfl⟩)
  rw [List.filter_cons_of_pos (by simpa using hx), List.eraseIdx_cons_succ, uS f key l i (by simpa using h) nd.2 e]
theorem iT {α : Type} (f : α -> Key) (key : Key) (l : List α) (h : ∀ y ∈ l, f y ≠ key) : l.filter (fun e => decide (f e ≠ key)) = l :=
 List.filter_eq_self.2 fun y hy => by simpa using h y hy
theorem zDn {α : Type} (x : α) : ∀ (l : List α) (i : Nat), i < l.length -> (l.set i x).Perm (x :: l.eraseIdx i)
 | [], i, h => by simp at h
 | y :: l, 0, h => by simp
 | y :: l, i + 1, h => by
  rw [List.set_cons_succ, List.eraseIdx_cons_succ]
  exact ((zDn x l i (by simpa using h)).cons y).trans (.swap x y _)
abbrev sN := Nat -> AV
def rm (l : List (Key × sN)) (key : Key) : List (Key × sN) := l.filter fun e => decide (e.1 ≠ key)
theorem zU1 (l : List (Key × sN)) (key : Key) : (rm l key).map Prod.fst = (l.map Prod.fst).filter fun e => decide (e ≠ key) := by
 unfold rm; rw [List.filter_map]; rfl
theorem yM5 {l : List (Key × sN)} (h : (l.map Prod.fst).Nodup) (key : Key) : ((rm l key).map Prod.fst).Nodup := by
 rw [zU1]; exact h.filter _
theorem yP0 (l : List (Key × sN)) (key : Key) : (rm l key).length <= l.length := List.length_filter_le _ _
theorem yMm {l : List (Key × sN)} {key : Key} (h : key ∈ l.map Prod.fst) : (rm l key).length < l.length := by
 obtain ⟨e, he, rfl⟩ := List.mem_map.1 h
 unfold rm
 exact (List.length_filter_lt_length_iff_exists (l := l) (p := fun x : Key × sN => decide (x.1 ≠ e.1))).2 ⟨e, he, by simp⟩
theorem yN4 {l : List (Key × sN)} {key : Key} (h : key ∉ l.map Prod.fst) : rm l key = l := iT Prod.fst key l fun y hy e => h (by rw [<- e]; exact List.mem_map.2 ⟨y, hy, rfl⟩)
theorem yD6 (l : List (Key × sN)) (key : Key) : key ∉ (rm l key).map Prod.fst := by
 rw [zU1]; simp
theorem yFa {l : List (Key × sN)} (h : (l.map Prod.fst).Nodup) {key : Key} (hk : key ∉ l.map Prod.fst) (v : sN) : ((l ++ [(key, v)]).map Prod.fst).Nodup := by
 rw [List.map_append]
 refine List.nodup_append.2 ⟨h, by simp, fun a ha b hb e => ?_⟩
 simp only [List.map_cons, List.map_nil, List.mem_singleton] at hb
 subst e hb
 exact hk ha
section
variable {m : Mem}
theorem IsK.ldA {v : AV} {ks : List Key} (h : IsK m v ks) {m1 : Mem} {b o : Nat} {y : Blk} (e : m1.obj b = some y) (ho : o < y.n) (hc : y.c o = v) (k : AV -> Prop) : ldA m1 b o k = k v := by
 obtain ⟨c, h1, _⟩ := h
 unfold Am.ldA kobj
 rw [e]
 simp only [zO, ho, if_true, hc]
 generalize ks.length = q at h1
 cases h1 <;> rfl
theorem IsK.one {v : AV} {ks : List Key} (h : IsK m v ks) : v.one = true := by
 obtain ⟨c, h1, _⟩ := h
 generalize ks.length = q at h1
 cases h1 <;> rfl
theorem yLr {m : Mem} {b o : Nat} {v : AV} {k : Mem -> Prop} {x : Blk} (h : m.obj b = some x) (hr : x.ro = false) (hv : v.one = true) (ho : o < x.n) (hk : ∀ m', m'.obj b = some { x with c := upd x.c o v } -> yC m b m' -> k m') : stV m b o v k := by
 obtain ⟨xn, xc, xt, xro⟩ := x
 dsimp only at hr ho hk
 subst hr
 unfold stV kobj
 rw [h]
 dsimp only
 rw [hv]
 exact yK ho (hk _ (zL _ _ _) (yC.set _ _ _))
def zAp (m : Mem) (bm : Nat) (es : List (Key × sN)) : Prop := ∃ c, m.obj bm = some ⟨0, c, es.length, false⟩ /\ ∀ i, (h : i < es.length) -> ∃ kc, c (2 * i) = .agg 3 kc /\ oM kc es[i].1 /\ c (2 * i + 1) = .agg 4 es[i].2
theorem zAp.fr {m' : Mem} {S : Nat -> Prop} {bm : Nat} {es : List (Key × sN)} (h : zAp m bm es) (F : Fr S m m') (hb : ¬ S bm) : zAp m' bm es := by
 obtain ⟨c, e, r⟩ := h
 exact ⟨c, by rw [F bm (by rw [e]; simp) hb]; exact e, r⟩
theorem zAp.live {bm : Nat} {es : List (Key × sN)} (h : zAp m bm es) : m.obj bm ≠ none := by obtain ⟨c, e, _⟩ := h; rw [e]; simp
theorem zBa {es : List (Key × sN)} {c kc : Nat -> AV} {key : Key} (hc : ∀ i, (h : i < es.length) -> ∃ kc, c (2 * i) = .agg 3 kc /\ oM kc es[i].1 /\ c (2 * i + 1) = .agg 4 es[i].2) (hk : oM kc key) {K : Option Nat -> Prop}
  (hyes : ∀ i, (h : i < es.length) -> es[i].1 = key -> K (some i)) (hno : (∀ e ∈ es, e.1 ≠ key) -> K none) : ∀ (j i : Nat), i + j = es.length -> (∀ t, (h : t < es.length) -> t < i -> es[t].1 ≠ key) -> jC zE3 3 kc c j i K
 | 0, i, e, hn => hno fun y hy => by
  obtain ⟨t, ht, rfl⟩ := List.getElem_of_mem hy
  exact hn t ht (by omega)
 | j + 1, i, e, hn => by
  unfold jC
  obtain ⟨d, e1, e2, _⟩ := hc i (by omega)
  rw [e1]
  refine zG rfl ?_
  rw [zVt hk e2]
  refine zD _ (fun c1 => hyes i (by omega) (of_decide_eq_true c1).symm) fun c1 => zBa hc hk hyes hno j (i + 1) (by omega) fun t ht hlt => ?_
  by_cases e3 : t = i
  .subst e3; intro e4; rw [e4] at c1; simp at c1
  .exact hn t ht (by omega)
theorem yA9 {bm : Nat} {es : List (Key × sN)} (h : zAp m bm es) {kc : Nat -> AV} {key : Key} (hk : oM kc key) {z : Nat -> AV} {k : (Nat -> AV) -> Bool -> Prop} (hyes : ∀ v, (key, v) ∈ es -> k v true) (hno : key ∉ es.map Prod.fst -> k z false) : kU zE3 3 (.mp bm) kc 4 z m k := by
 obtain ⟨c, e, hc⟩ := h
 unfold kU kobj
 dsimp only
 rw [e]
 refine zBa hc hk (fun i hi e1 => ?_) (fun hn => hno fun hm => ?_) es.length 0 (by omega) fun t _ h => by omega
 .obtain ⟨kc', e2, _, e3⟩ := hc i hi
  dsimp only
  rw [e3]
  exact zG rfl (hyes _ (by rw [<- e1]; exact List.getElem_mem hi))
 .obtain ⟨y, hy, e2⟩ := List.mem_map.1 hm
  exact hn y hy e2
theorem yPn {bm : Nat} {es : List (Key × sN)} (h : zAp m bm es) (nd : (es.map Prod.fst).Nodup) {kc : Nat -> AV} {key : Key} (hk : oM kc key) {v : sN} {k : Mem -> Prop} (hkk : ∀ m' es', zAp m' bm es' -> es'.Perm (rm es key ++ [(key, v)]) -> yC m bm m' -> k m') : aQ zE3 3 (.mp bm) kc 4 v m k := by
 obtain ⟨c, e, hc⟩ := h
 unfold aQ kobj
 dsimp only
 rw [e]
 refine zBa hc hk (fun i hi e1 => ?_) (fun hn => ?_) es.length 0 (by omega) fun t _ h => by omega
 .refine hkk _ (es.set i (key, v)) ⟨_, by rw [List.length_set]; exact zL _ _ _, fun t ht => ?_⟩ ?_ (yC.set _ _ _)
  .rw [List.length_set] at ht
   by_cases c1 : t = i
   .subst c1
    refine ⟨kc, ?_, by rw [List.getElem_set_self]; exact hk, ?_⟩
    .rw [wT _ _ (by omega), lB]
    .rw [lB, List.getElem_set_self]
   .rw [wT _ _ (by omega), wT _ _ (by omega), wT _ _ (by omega), wT _ _ (by omega), List.getElem_set_ne (Ne.symm c1)]
    exact hc t ht
  .refine (zDn _ _ _ hi).trans ?_
   unfold rm
   rw [uS Prod.fst key es i hi nd e1]
   exact (List.perm_append_comm (l₁ := [(key, v)])).trans (by simp)
 .refine hkk _ (es ++ [(key, v)]) ⟨_, by rw [List.length_append]; exact zL _ _ _, fun t ht => ?_⟩ ?_ (yC.set _ _ _)
  .dsimp only
   rw [List.length_append] at ht
   simp only [List.length_singleton] at ht
   by_cases c1 : t = es.length
   .subst c1
    refine ⟨kc, ?_, by simpa using hk, ?_⟩
    .rw [wT _ _ (by omega), lB]
    .rw [lB]; simp
   .rw [wT _ _ (by omega), wT _ _ (by omega), wT _ _ (by omega), wT _ _ (by omega), List.getElem_append_left (by omega)]
    exact hc t (by omega)
  .unfold rm
   rw [iT Prod.fst key es hn]
theorem yO3 {bm : Nat} {es : List (Key × sN)} (h : zAp m bm es) (nd : (es.map Prod.fst).Nodup) {kc : Nat -> AV} {key : Key} (hk : oM kc key) {k : Mem -> Prop} (hkk : ∀ m', zAp m' bm (rm es key) -> Fr (fun x => x = bm) m m' -> k m') : dI zE3 3 (.mp bm) kc m k := by
 have h0 := h
 obtain ⟨c, e, hc⟩ := h
 unfold dI kobj
 dsimp only
 rw [e]
 refine zBa hc hk (fun i hi e1 => ?_) (fun hn => ?_) es.length 0 (by omega) fun t _ h => by omega
 .have er : rm es key = es.eraseIdx i := uS Prod.fst key es i hi nd e1
  have hl : (es.eraseIdx i).length = es.length - 1 := by rw [List.length_eraseIdx, if_pos hi]
  refine hkk _ ?_ (Fr.set (S := fun x => x = bm) rfl _)
  rw [er]
  refine ⟨_, by rw [hl]; exact zL _ _ _, fun t ht => ?_⟩
  rw [List.getElem_eraseIdx]
  by_cases c1 : t < i
  .simp only [dif_pos c1, if_pos (show 2 * t < 2 * i by omega), if_pos (show 2 * t + 1 < 2 * i by omega)]
   exact hc t (by omega)
  .simp only [dif_neg c1, if_neg (show ¬ 2 * t < 2 * i by omega), if_neg (show ¬ 2 * t + 1 < 2 * i by omega)]
   have := hc (t + 1) (by omega)
   rw [show 2 * (t + 1) = 2 * t + 2 by omega, show 2 * t + 2 + 1 = 2 * t + 1 + 2 by omega] at this
   exact this
 .have er : rm es key = es := iT Prod.fst key es hn
  exact hkk m (by rw [er]; exact h0) (Fr.refl _ _)
structure Li (m : Mem) (b : Nat) (n : Int) (bm : Nat) (v : AV) (ks : List Key) : Prop where
 blk : ∃ c t, m.obj b = some ⟨3, c, t, false⟩ /\ c 0 = .flat (.int .i64 n) /\ c 1 = v /\ c 2 = .mp bm
 ks : IsK m v ks
 ne : b ≠ bm
 nb : ¬ own v b
 nm : ¬ own v bm
variable {b bm : Nat} {n : Int} {v : AV} {ks : List Key}
theorem Li.keep {m' : Mem} (h : Li m b n bm v ks) (K : zA m m') : Li m' b n bm v ks := by
 obtain ⟨c, t, e, r⟩ := h.blk
 exact ⟨⟨c, t, by rw [K b (by rw [e]; simp)]; exact e, r⟩, h.ks.keep K, h.ne, h.nb, h.nm⟩
theorem Li.fr {m' : Mem} {S : Nat -> Prop} (h : Li m b n bm v ks) (F : Fr S m m') (h1 : ¬ S b) (h2 : ∀ x, own v x -> ¬ S x) : Li m' b n bm v ks := by
 obtain ⟨c, t, e, r⟩ := h.blk
 exact ⟨⟨c, t, by rw [F b (by rw [e]; simp) h1]; exact e, r⟩, h.ks.fr F h2, h.ne, h.nb, h.nm⟩
theorem Li.live (h : Li m b n bm v ks) : m.obj b ≠ none := by obtain ⟨c, t, e, r⟩ := h.blk; rw [e]; simp
theorem Li.l1 (h : Li m b n bm v ks) (k : AV -> Prop) : ldA m b 1 k = k v := by
 obtain ⟨c, t, e, c0, c1, c2⟩ := h.blk
 exact h.ks.ldA e (show (1 : Nat) < 3 by decide) c1 k
theorem Li.l2 (h : Li m b n bm v ks) (k : AV -> Prop) : ldA m b 2 k = k (.mp bm) := by
 obtain ⟨c, t, e, c0, c1, c2⟩ := h.blk
 unfold Am.ldA kobj
 rw [e]
 simp only [zO, c2]
 rw [if_pos (by decide)]
theorem Li.l0 (h : Li m b n bm v ks) (k : Int -> Prop) : zR .i64 m b 0 k = k n := by
 obtain ⟨c, t, e, c0, c1, c2⟩ := h.blk
 exact yW e (show (0 : Nat) < 3 by decide) c0
theorem Li.s1 {v' : AV} {ks' : List Key} {m1 : Mem} (h : Li m b n bm v ks) (hb : m1.obj b = m.obj b) (hk : IsK m1 v' ks') (nb : ¬ own v' b) (nm : ¬ own v' bm) {k : Mem -> Prop} (hkk : ∀ m', Li m' b n bm v' ks' -> yC m1 b m' -> k m') : stV m1 b 1 v' k := by
 obtain ⟨c, t, e, c0, c1, c2⟩ := h.blk
 refine yLr (hb.trans e) rfl hk.one (show (1 : Nat) < 3 by decide) fun m' e' O => hkk m' ⟨⟨_, t, e', ?_, ?_, ?_⟩, hk.fr (S := fun x => x = b) (fun x _ hx => O x hx) (fun x hx hb => nb (hb ▸ hx)), h.ne, nb, nm⟩ O
 .rw [wT _ _ (by decide)]; exact c0
 .rw [lB]
 .rw [wT _ _ (by decide)]; exact c2
def ftL (b : Nat) (v : AV) (x : Nat) : Prop := x = b \/ own v x
theorem yDo (h : Li m b n bm v ks) (hl : ks.length <= 100000) (nd : ks.Nodup) {c : Nat -> AV} {key : Key} (hc : oM c key) {k : Mem -> Prop} (hk : ∀ m' v', Li m' b n bm v' (ks.filter fun e => decide (e ≠ key)) -> Fr (ftL b v) m m' -> (∀ x, own v' x -> own v x) -> k m') : F87 b 0 c m k := by
 unfold F87
 simp only [Nat.zero_add]
 refine zW fun b2 m1 hb2 K e O => ?_
 have h1 := h.keep K
 have hb : qJ m1 b2 key := ⟨_, e, rfl, rfl, hc⟩
 rw [h1.l1]
 refine hb.lg fun c4 h4 => zS5 h1.ks hl h4 (fun hno => zB (by decide) ?_) fun i hi e1 => zG (by simp) ?_
 .refine hk m1 v ?_ (K.fr _) fun x hx => hx
  rw [show (ks.filter fun e => decide (e ≠ key)) = ks from iT id key ks hno]; exact h1
 .rw [h1.l1, zK (n := (i : Int) + 1) (by omega) (by omega)]
  refine zQa h1.ks hl hi rfl rfl fun v' m2 g2 F2 o2 => ?_
  refine h1.s1 (F2 b h1.live h1.nb) g2 (fun hx => h1.nb (o2 _ hx)) (fun hx => h1.nm (o2 _ hx)) fun m3 g3 O3 => hk m3 v' ?_ (fun x hx hs => ?_) o2
  .rw [show (ks.filter fun e => decide (e ≠ key)) = ks.eraseIdx i from uS id key ks i hi (by simpa using nd) e1]; exact g3
  .rw [O3 x (fun e => hs (.inl e)), F2 x (by rw [K x hx]; exact hx) (fun hx => hs (.inr hx)), K x hx]
theorem yEg (h : Li m b n bm v ks) (hbm : m.obj bm ≠ none) (hl : ks.length <= 100000) {kb : Nat} {key : Key} (hkb : qJ m kb key) {t : TypeId} {k : Mem -> Prop} (hk : ∀ m' v', Li m' b n bm v' (ks ++ [key]) -> Fr (ftL b v) m m' -> (∀ x, own v' x -> own v x \/ m.obj x = none) -> k m') :
  ldA m b 1 fun v21 => yN 3 m kb 0 fun c22 => zQ m ⟨3, zC (zH [(.flat (.int .u32 0)), (.flat (.int .i64 0)), (.flat (.int .i64 0))]) 0 3 c22, t, false⟩ fun b24 m23 => uB 3 24 125 v21 (.sl b24 0 1 (.ex 1)) m23 fun v25 m26 => stV m26 b 1 v25 fun m27 => k m27 := by
 rw [h.l1]
 refine hkb.lg fun c22 h22 => ?_
 obtain ⟨c, hL, hC⟩ := h.ks
 have hd : ∀ i, i < 1 * 3 -> zC (zH [(.flat (.int .u32 0)), (.flat (.int .i64 0)), (.flat (.int .i64 0))]) 0 3 c22 i = (fun z => if z < ks.length * 3 then c z else c22 (z - ks.length * 3)) (ks.length * 3 + i) := fun i hi => by
  dsimp only
  rw [if_neg (by omega)]
  unfold zC
  rw [if_pos (by omega)]
  congr 1; omega
 refine yGf (c := fun z => if z < ks.length * 3 then c z else c22 (z - ks.length * 3)) (hL.congr fun i hi => (if_pos hi).symm) (by rfl) hd (by omega) fun v' m2 g2 F2 o2 => ?_
 have hK : IsK m2 v' (ks ++ [key]) := ⟨_, by rw [List.length_append]; exact g2, fun i hi => by
  rw [List.length_append] at hi
  simp only [List.length_singleton] at hi
  by_cases c1 : i = ks.length
  .subst c1
   rw [List.getElem_append_right (Nat.le_refl _)]
   simp only [Nat.sub_self, List.getElem_cons_zero]
   refine h22.congr fun j hj => ?_
   rw [if_neg (by omega)]; congr 1; omega
  .rw [List.getElem_append_left (by omega)]
   refine (hC i (by omega)).congr fun j hj => ?_
   rw [if_pos (by omega)]⟩
 have hbn : ¬ own v' b := fun hx => by
  rcases o2 b hx with h1 | h1
  .exact h.nb h1
  .exact h.live h1
 refine h.s1 (F2 b h.live h.nb) hK hbn ?_ fun m3 g3 O3 => hk m3 v' g3 (fun x hx hs => by rw [O3 x (fun e => hs (.inl e)), F2 x hx fun hx => hs (.inr hx)]) o2
 intro hx
 rcases o2 bm hx with h1 | h1
 .exact h.nm h1
 .exact hbm h1
end
end Go.Proofs.YtkiggdgphbkneaaGreat.Am
