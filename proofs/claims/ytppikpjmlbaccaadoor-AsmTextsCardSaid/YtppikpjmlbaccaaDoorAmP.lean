/- Lists in abstract memory: what may change, what is read of a list, appended, copied, cut. No program in sight. -/
import Derived.Test.YtppikpjmlbaccaaDoorAmW2
namespace Go.Proofs.YtppikpjmlbaccaaDoor.Am
set_option linter.unusedVariables false
set_option linter.unusedSimpArgs false

/-- blocks of S may change, new ones may come -/
def Fr (S : Nat → Prop) (m m' : Mem) : Prop := ∀ b, m.obj b ≠ none → ¬ S b → m'.obj b = m.obj b
theorem Fr.refl (S : Nat → Prop) (m : Mem) : Fr S m m := fun _ _ _ => rfl
theorem Fr.trans {S : Nat → Prop} {a b c : Mem} (h : Fr S a b) (h' : Fr S b c) : Fr S a c := fun k hk hs => by
  have e := h k hk hs
  rw [h' k (by rw [e]; exact hk) hs, e]
theorem Fr.mono {S T : Nat → Prop} {m m' : Mem} (h : Fr S m m') (hs : ∀ b, m.obj b ≠ none → S b → T b) : Fr T m m' := fun b hb ht => h b hb fun s => ht (hs b hb s)
theorem Keeps.fr {m m' : Mem} (h : Keeps m m') (S : Nat → Prop) : Fr S m m' := fun b hb _ => h b hb
theorem Fr.keeps {S : Nat → Prop} {m0 m m' : Mem} (K : Keeps m0 m) (h : Fr S m m') (hs : ∀ b, S b → m0.obj b = none) : Keeps m0 m' := fun b hb => by
  have e := K b hb
  rw [h b (by rw [e]; exact hb) (fun s => hb (hs b s)), e]
theorem Fr.keeps0 {S : Nat → Prop} {m m' : Mem} (h : Fr S m m') (hs : ∀ b, S b → m.obj b = none) : Keeps m m' := Fr.keeps (Keeps.self m) h hs
theorem Fr.set {S : Nat → Prop} {m : Mem} {b : Nat} (h : S b) (x : Blk) : Fr S m (m.set b x) := fun b' _ hs => set_other x fun e => hs (e ▸ h)
theorem Fr.new {S : Nat → Prop} {m : Mem} {b : Nat} (h : m.obj b = none) (x : Blk) : Fr S m (m.set b x) := fun b' hb _ => set_other x fun e => hb (e ▸ h)

/-- the block of a list -/
def own (v : AV) (b : Nat) : Prop := match v with
  | .sl b' _ _ _ => b' = b
  | _ => False
/-- n elements of esz cells each can be read -/
inductive IsR (m : Mem) (esz : Nat) : AV → Nat → (Nat → AV) → Prop
  | nil (a : Option Addr) (c : Nat → AV) : IsR m esz (.flat (.slice a 0 0)) 0 c
  | e0 (c : Nat → AV) : IsR m esz .e0 0 c
  | sl (b o n : Nat) (cap : Cap) (y : Blk) (c : Nat → AV) (h1 : m.obj b = some y) (h2 : o + n * esz ≤ y.n) (h3 : ∀ i, i < n * esz → y.c (o + i) = c i) : IsR m esz (.sl b o n cap) n c
/-- a list of one's own: it may grow -/
inductive IsL (m : Mem) (esz : Nat) : AV → Nat → (Nat → AV) → Prop
  | nil (a : Option Addr) (c : Nat → AV) : IsL m esz (.flat (.slice a 0 0)) 0 c
  | sl (b o n : Nat) (cap : Cap) (y : Blk) (c : Nat → AV) (h1 : m.obj b = some y) (h2 : o + n * esz ≤ y.n) (h3 : ∀ i, i < n * esz → y.c (o + i) = c i) (h4 : y.ro = false)
      (h5 : match cap with | .ex q => n ≤ q ∧ o + q * esz ≤ y.n | .ge e q => e = esz ∧ n ≤ q) : IsL m esz (.sl b o n cap) n c
theorem IsL.r {m : Mem} {esz : Nat} {v : AV} {n : Nat} {c : Nat → AV} (h : IsL m esz v n c) : IsR m esz v n c := by
  cases h with
  | nil a c => exact .nil a c
  | sl b o n cap y c h1 h2 h3 _ _ => exact .sl b o n cap y c h1 h2 h3
theorem IsR.congr {m : Mem} {esz : Nat} {v : AV} {n : Nat} {c d : Nat → AV} (h : IsR m esz v n c) (e : ∀ i, i < n * esz → c i = d i) : IsR m esz v n d := by
  cases h with
  | nil a c => exact .nil a d
  | e0 c => exact .e0 d
  | sl b o n cap y c h1 h2 h3 => exact .sl b o n cap y d h1 h2 fun i hi => (h3 i hi).trans (e i hi)
theorem IsL.congr {m : Mem} {esz : Nat} {v : AV} {n : Nat} {c d : Nat → AV} (h : IsL m esz v n c) (e : ∀ i, i < n * esz → c i = d i) : IsL m esz v n d := by
  cases h with
  | nil a c => exact .nil a d
  | sl b o n cap y c h1 h2 h3 h4 h5 => exact .sl b o n cap y d h1 h2 (fun i hi => (h3 i hi).trans (e i hi)) h4 h5
theorem IsR.fr {m m' : Mem} {S : Nat → Prop} {esz : Nat} {v : AV} {n : Nat} {c : Nat → AV} (h : IsR m esz v n c) (F : Fr S m m') (hs : ∀ b, own v b → ¬ S b) : IsR m' esz v n c := by
  cases h with
  | nil a c => exact .nil a c
  | e0 c => exact .e0 c
  | sl b o n cap y c h1 h2 h3 => exact .sl b o n cap y c (by rw [F b (by rw [h1]; simp) (hs b rfl)]; exact h1) h2 h3
theorem IsL.fr {m m' : Mem} {S : Nat → Prop} {esz : Nat} {v : AV} {n : Nat} {c : Nat → AV} (h : IsL m esz v n c) (F : Fr S m m') (hs : ∀ b, own v b → ¬ S b) : IsL m' esz v n c := by
  cases h with
  | nil a c => exact .nil a c
  | sl b o n cap y c h1 h2 h3 h4 h5 => exact .sl b o n cap y c (by rw [F b (by rw [h1]; simp) (hs b rfl)]; exact h1) h2 h3 h4 h5
theorem IsR.keep {m m' : Mem} {esz : Nat} {v : AV} {n : Nat} {c : Nat → AV} (h : IsR m esz v n c) (K : Keeps m m') : IsR m' esz v n c := h.fr (K.fr fun _ => False) fun _ _ h => h
theorem IsL.keep {m m' : Mem} {esz : Nat} {v : AV} {n : Nat} {c : Nat → AV} (h : IsL m esz v n c) (K : Keeps m m') : IsL m' esz v n c := h.fr (K.fr fun _ => False) fun _ _ h => h
theorem IsL.live {m : Mem} {esz : Nat} {v : AV} {n : Nat} {c : Nat → AV} (h : IsL m esz v n c) {b : Nat} (hb : own v b) : m.obj b ≠ none := by
  cases h with
  | nil a c => exact hb.elim
  | sl b' o n cap y c h1 h2 h3 h4 h5 => cases hb; rw [h1]; simp
theorem IsR.live {m : Mem} {esz : Nat} {v : AV} {n : Nat} {c : Nat → AV} (h : IsR m esz v n c) {b : Nat} (hb : own v b) : m.obj b ≠ none := by
  cases h with
  | nil a c => exact hb.elim
  | e0 c => exact hb.elim
  | sl b' o n cap y c h1 h2 h3 => cases hb; rw [h1]; simp
/-- a row that was made just now -/
theorem IsL.row {m : Mem} {esz b n : Nat} {y : Blk} (h : m.obj b = some y) (hn : y.n = n * esz) (hr : y.ro = false) : IsL m esz (.sl b 0 n (.ex n)) n y.c :=
  .sl b 0 n (.ex n) y y.c h (by omega) (fun i _ => by rw [Nat.zero_add]) hr ⟨Nat.le_refl _, by omega⟩

theorem klen_r {m : Mem} {esz : Nat} {v : AV} {n : Nat} {c : Nat → AV} (h : IsR m esz v n c) (k : Int → Prop) : klen v k = k (n : Int) := by
  cases h <;> rfl
theorem IsR.zero {m : Mem} {esz : Nat} {v : AV} {c : Nat → AV} (h : IsR m esz v 0 c) (d : Nat → AV) : IsR m esz v 0 d := h.congr fun i hi => by omega
/-- an element's place -/
theorem IsR.at {m : Mem} {esz : Nat} {v : AV} {n : Nat} {c : Nat → AV} (h : IsR m esz v n c) (hn : 0 < n) : ∃ b o cap y, v = .sl b o n cap ∧ m.obj b = some y ∧ o + n * esz ≤ y.n ∧ ∀ i, i < n * esz → y.c (o + i) = c i := by
  cases h with
  | nil a c => omega
  | e0 c => omega
  | sl b o n cap y c h1 h2 h3 => exact ⟨b, o, cap, y, rfl, h1, h2, h3⟩
theorem mul_lt {i n e : Nat} (hi : i < n) (he : 0 < e) : i * e + e ≤ n * e := by
  have : (i + 1) * e ≤ n * e := Nat.mul_le_mul_right _ hi
  rw [Nat.succ_mul] at this; exact this
/-- reading at a number, its place -/
theorem ix_r {m : Mem} {esz : Nat} {v : AV} {n : Nat} {c : Nat → AV} (h : IsR m esz v n c) {i : Int} (h0 : 0 ≤ i) (h1 : i < n) {k : Nat → Nat → Prop} (hk : ∀ b o y, own v b → m.obj b = some y → o + esz ≤ y.n → (∀ j, j < esz → y.c (o + j) = c (i.toNat * esz + j)) → k b o) :
    ksl v fun b o l p => kif (decide (0 ≤ i) && decide (i < l)) (k b (o + i.toNat * esz)) False := by
  obtain ⟨b, o, cap, y, rfl, hy, hb, hc⟩ := h.at (by omega)
  have hm : i.toNat * esz + esz ≤ n * esz := by
    have : (i.toNat + 1) * esz ≤ n * esz := Nat.mul_le_mul_right _ (by omega)
    rw [Nat.succ_mul] at this; exact this
  refine kif_ix h0 h1 (hk b _ y rfl hy (by omega) fun j hj => ?_)
  rw [Nat.add_assoc]; exact hc _ (by omega)
/-- a number is read -/
theorem ldI_r {m : Mem} {v : AV} {n : Nat} {c : Nat → AV} {kd : IntKind} (h : IsR m 1 v n c) {i : Int} (h0 : 0 ≤ i) (h1 : i < n) {x : Int} (hx : c i.toNat = .flat (.int kd x)) {k : Nat → Nat → Int → Prop} (hk : ∀ b o, own v b → k b o x) :
    ksl v fun b o l p => kif (decide (0 ≤ i) && decide (i < l)) (ldI kd m b (o + i.toNat * 1) fun x => k b o x) False := by
  obtain ⟨b, o, cap, y, rfl, hy, hb, hc⟩ := h.at (by omega)
  refine kif_ix h0 h1 ?_
  rw [ldI_of hy (by omega) (by rw [hc _ (by omega), Nat.mul_one]; exact hx)]
  exact hk b o rfl
theorem ldB_r {m : Mem} {v : AV} {n : Nat} {c : Nat → AV} (h : IsR m 1 v n c) {i : Int} (h0 : 0 ≤ i) (h1 : i < n) {x : Bool} (hx : c i.toNat = .flat (.bool x)) {k : Nat → Nat → Bool → Prop} (hk : ∀ b o, own v b → k b o x) :
    ksl v fun b o l p => kif (decide (0 ≤ i) && decide (i < l)) (ldB m b (o + i.toNat * 1) fun x => k b o x) False := by
  obtain ⟨b, o, cap, y, rfl, hy, hb, hc⟩ := h.at (by omega)
  refine kif_ix h0 h1 ?_
  rw [ldB_of hy (by omega) (by rw [hc _ (by omega), Nat.mul_one]; exact hx)]
  exact hk b o rfl
theorem ldG_r {m : Mem} {esz : Nat} {v : AV} {n : Nat} {c : Nat → AV} (h : IsR m esz v n c) {i : Int} (h0 : 0 ≤ i) (h1 : i < n) {k : (Nat → AV) → Prop} (hk : ∀ d, (∀ j, j < esz → d j = c (i.toNat * esz + j)) → k d) :
    ksl v fun b o l p => kif (decide (0 ≤ i) && decide (i < l)) (ldG esz m b (o + i.toNat * esz) k) False :=
  ix_r (k := fun b o => ldG esz m b o k) h h0 h1 fun b o y _ hy hb hc => by
    rw [ldG_of hy hb]
    exact hk _ fun j hj => by rw [sub, if_pos hj]; exact hc j hj
/-- one cell is stored -/
theorem stC_r {m : Mem} {v : AV} {n : Nat} {c : Nat → AV} (h : IsL m 1 v n c) {i : Int} (h0 : 0 ≤ i) (h1 : i < n) {x : AV} {k : Mem → Prop} (hk : ∀ m', IsL m' 1 v n (upd c i.toNat x) → Fr (own v) m m' → (∀ b, m'.obj b ≠ none → m.obj b ≠ none) → k m') :
    ksl v fun b o l p => kif (decide (0 ≤ i) && decide (i < l)) (stC m b (o + i.toNat * 1) x k) False := by
  cases h with
  | nil a c => omega
  | sl b o n cap y c g1 g2 g3 g4 g5 =>
    refine kif_ix h0 h1 ?_
    rw [stC_of g1 g4 (by omega)]
    refine hk _ (.sl b o n cap _ _ (set_same _ _ _) g2 (fun j hj => ?_) g4 g5) (Fr.set rfl _) fun b' hb => ?_
    · show upd y.c _ _ _ = _
      unfold upd
      by_cases e : j = i.toNat
      · rw [if_pos (by omega), if_pos e]
      · rw [if_neg (by omega), if_neg e]; exact g3 j hj
    · by_cases e : b' = b
      · subst e; rw [g1]; simp
      · rwa [set_other _ e] at hb

/-! ### appending, copying -/
theorem ksrc_r {m : Mem} {esz : Nat} {x : AV} {n : Nat} {d : Nat → AV} (h : IsR m esz x n d) {k : Nat → (Nat → AV) → Prop} (hk : ∀ d', (∀ i, i < n * esz → d' i = d i) → k n d') : ksrc esz x m k := by
  cases h with
  | nil a c => unfold ksrc; exact kite_t ⟨rfl, rfl⟩ (hk _ fun i hi => by omega)
  | e0 c => exact hk _ fun i hi => by omega
  | sl b o n cap y c h1 h2 h3 =>
    show kobj m b _
    unfold kobj; rw [h1]
    exact kite_t h2 (hk _ fun i hi => by rw [sub, if_pos hi]; exact h3 i hi)
/-- one list behind the other -/
def cat (esz n : Nat) (c d : Nat → AV) : Nat → AV := fun i => if i < n * esz then c i else d (i - n * esz)
theorem appDL {m : Mem} {esz bytes : Nat} {e : TypeId} {v : AV} {n n' : Nat} {c d d' : Nat → AV} {k : KV} (h : IsL m esz v n c) (hd' : ∀ i, i < n' * esz → d' i = d i) (hb : (n + n') * (bytes + 1) ≤ 140737488355328)
    (hk : ∀ v' m', IsL m' esz v' (n + n') (cat esz n c d) → Fr (own v) m m' → (∀ b, own v' b → own v b ∨ m.obj b = none) → k v' m') : appD esz bytes e v n' d' m k := by
  unfold appD
  have new : ∀ old : Nat → AV, (∀ i, i < n * esz → old i = c i) → appNew esz e old n n' d' m k := by
    intro old ho b hb0
    refine hk _ _ (.sl b 0 (n + n') (.ge esz (n + n')) _ _ (set_same _ _ _) (by simp) (fun i hi => ?_) rfl ⟨rfl, Nat.le_refl _⟩) (Fr.new hb0 _) fun b' e => .inr (by cases e; exact hb0)
    rw [Nat.add_mul] at hi
    simp only [splice, cat, Nat.zero_add]
    by_cases c1 : i < n * esz
    · rw [if_neg (by omega), if_pos c1]; exact ho i c1
    · rw [if_pos (by omega), if_neg c1]; exact hd' _ (by omega)
  cases h with
  | nil a c =>
    refine kite_t (c := (0 : Nat) = 0 ∧ (0 : Nat) = 0) ⟨rfl, rfl⟩ ?_
    rw [kite_eq]
    split
    · rename_i h0
      subst h0
      exact hk _ m (.nil a _) (Fr.refl _ _) fun b e => .inl e
    · refine kite_t (by simpa using hb) ?_
      have := new (fun _ => .junk) (fun i hi => by omega)
      simpa using this
  | sl b o n cap y c g1 g2 g3 g4 g5 =>
    dsimp only
    rw [kite_eq]
    split
    · rename_i h0
      subst h0
      refine hk _ m ((IsL.sl b o n cap y c g1 g2 g3 g4 g5).congr fun i hi => ?_) (Fr.refl _ _) fun b e => .inl e
      rw [cat, if_pos hi]
    · rename_i hn'
      unfold kobj; rw [g1]
      refine kite_t ⟨g2, hb⟩ ?_
      have inn : ∀ cap2 : Cap, (match cap2 with | .ex q => n + n' ≤ q ∧ o + q * esz ≤ y.n | .ge e q => e = esz ∧ n + n' ≤ q) → appIn esz b o n cap2 n' d' m k := by
        intro cap2 hcap
        unfold appIn kobj
        rw [g1]
        dsimp only
        rw [g4]
        have hadd : (n + n') * esz = n * esz + n' * esz := Nat.add_mul _ _ _
        refine hk _ _ (.sl b o (n + n') cap2 _ _ (set_same _ _ _) (by dsimp only; omega) (fun i hi => ?_) rfl ?_) (Fr.set rfl _) fun b' e => .inl e
        · simp only [splice, cat]
          by_cases c1 : i < n * esz
          · rw [if_neg (by omega), if_pos c1]; exact g3 i c1
          · rw [if_pos (by omega), if_neg c1, show o + i - (o + n * esz) = i - n * esz by omega]; exact hd' _ (by omega)
        · cases cap2 with
          | ex q => exact ⟨hcap.1, by have := hcap.2; dsimp only; omega⟩
          | ge e q => exact hcap
      have nw := new (sub y.c o (n * esz)) fun i hi => by rw [sub, if_pos hi]; exact g3 i hi
      cases cap with
      | ex q =>
        have g5 : n ≤ q ∧ o + q * esz ≤ y.n := g5
        dsimp only
        rw [kite_eq]
        split
        · rename_i hf
          have : (n + n') * esz ≤ q * esz := Nat.mul_le_mul_right _ hf
          exact kite_t (by omega) (inn (.ex q) ⟨hf, g5.2⟩)
        · exact nw
      | ge e' q =>
        have g5 : e' = esz ∧ n ≤ q := g5
        dsimp only
        refine kite_t g5.1 ?_
        rw [kite_eq]
        split
        · rename_i hf; exact inn (.ge esz q) ⟨rfl, hf⟩
        · exact ⟨inn (.ge esz (n + n')) ⟨rfl, Nat.le_refl _⟩, nw⟩
theorem appL {m : Mem} {esz bytes : Nat} {e : TypeId} {v x : AV} {n n' : Nat} {c d : Nat → AV} {k : KV} (h : IsL m esz v n c) (hx : IsR m esz x n' d) (hb : (n + n') * (bytes + 1) ≤ 140737488355328)
    (hk : ∀ v' m', IsL m' esz v' (n + n') (cat esz n c d) → Fr (own v) m m' → (∀ b, own v' b → own v b ∨ m.obj b = none) → k v' m') : appS esz bytes e v x m k := by
  unfold appS
  exact ksrc_r hx fun d' hd' => appDL h hd' hb hk
theorem appZL {m : Mem} {zs : List AV} {esz bytes : Nat} {e : TypeId} {v : AV} {n n' : Nat} {c : Nat → AV} {k : KV} (h : IsL m esz v n c) (hb : (n + n') * (bytes + 1) ≤ 140737488355328)
    (hk : ∀ v' m', IsL m' esz v' (n + n') (cat esz n c (zrow zs)) → Fr (own v) m m' → (∀ b, own v' b → own v b ∨ m.obj b = none) → k v' m') : appZ zs esz bytes e v (.flat (.int .i64 (n' : Int))) m k := by
  unfold appZ
  have hm : n' * (bytes + 1) ≤ (n + n') * (bytes + 1) := Nat.mul_le_mul_right _ (by omega)
  refine kif_t (by simp) (kite_t (by rw [Int.toNat_natCast]; omega) ?_)
  rw [Int.toNat_natCast]
  exact appDL h (fun i hi => rfl) hb hk
/-- a copy into a list -/
theorem copL {m : Mem} {esz : Nat} {v x : AV} {n n' : Nat} {c d : Nat → AV} {k : KV} (h : IsL m esz v n c) (hx : IsR m esz x n' d)
    (hk : ∀ m' u, IsL m' esz v n (fun i => if i < min n' n * esz then d i else c i) → Fr (own v) m m' → (∀ b, m'.obj b ≠ none → m.obj b ≠ none) → k u m') : copS esz v x m k := by
  unfold copS
  refine ksrc_r hx fun d' hd' => ?_
  cases h with
  | nil a c =>
    exact kite_t (c := (0 : Nat) = 0 ∧ (0 : Nat) = 0) ⟨rfl, rfl⟩ (hk m _ (.nil a _) (Fr.refl _ _) fun _ h => h)
  | sl b o n cap y c g1 g2 g3 g4 g5 =>
    dsimp only
    rw [kite_eq]
    split
    · rename_i h0
      refine hk m _ ((IsL.sl b o n cap y c g1 g2 g3 g4 g5).congr fun i hi => ?_) (Fr.refl _ _) fun _ h => h
      rw [h0, if_neg (by omega)]
    · unfold kobj; rw [g1]
      dsimp only
      rw [g4]
      refine kite_t g2 (hk _ _ (.sl b o n cap _ _ (set_same _ _ _) g2 (fun i hi => ?_) rfl g5) (Fr.set rfl _) fun b' hb => ?_)
      · have hm : min n' n * esz ≤ n' * esz := Nat.mul_le_mul_right _ (Nat.min_le_left _ _)
        simp only [splice]
        by_cases c1 : i < min n' n * esz
        · rw [if_pos (by omega), if_pos c1, show o + i - o = i by omega]; exact hd' i (by omega)
        · rw [if_neg (by omega), if_neg c1]; exact g3 i hi
      · by_cases e : b' = b
        · subst e; rw [g1]; simp
        · rwa [set_other _ e] at hb

/-! ### cutting -/
def lowC : Cap → Nat := Cap.low
theorem slS_r {m : Mem} {esz : Nat} {v : AV} {n : Nat} {c : Nat → AV} (h : IsR m esz v n c) {lo hi : Option Int} {l u : Nat} (hl : optI lo 0 = l) (hu : optI hi n = u) (h1 : l ≤ u) (h2 : u ≤ n) (hc : ∀ b o cap, v = .sl b o n cap → n ≤ cap.low ∧ (∀ e q, cap = .ge e q → e = esz)) {k : AV → Prop}
    (hk : ∀ v', IsR m esz v' (u - l) (fun i => c (l * esz + i)) → (∀ b, own v' b → own v b) → k v') : slS esz v lo hi k := by
  have bnd : ∀ (cap : Nat) (K : Prop), n ≤ cap → K → kbnd (optI lo 0) (optI hi n) cap K := fun cap K hcap hK => by
    rw [hl, hu]
    exact kif_t (by simp) (kif_t (by simp; omega) (kif_t (by simp; omega) hK))
  cases h with
  | nil a c =>
    unfold slS; exact kite_t ⟨rfl, rfl⟩ (bnd 0 _ (Nat.le_refl _) (hk _ (by rw [show u - l = 0 by omega]; exact .nil a _) fun b e => e))
  | e0 c => exact bnd 0 _ (Nat.le_refl _) (hk _ (by rw [show u - l = 0 by omega]; exact .e0 _) fun b e => e)
  | sl b o n cap y c g1 g2 g3 =>
    obtain ⟨hcl, hce⟩ := hc b o cap rfl
    refine bnd _ _ hcl ?_
    rw [hl, hu]
    simp only [Int.toNat_natCast]
    have hm : l * esz + (u - l) * esz = u * esz := by rw [← Nat.add_mul]; congr 1; omega
    have hm2 : u * esz ≤ n * esz := Nat.mul_le_mul_right _ h2
    have main : ∀ cap', IsR m esz (.sl b (o + l * esz) (u - l) cap') (u - l) fun i => c (l * esz + i) := fun cap' => .sl b _ _ cap' y _ g1 (by omega) fun i hi => by rw [Nat.add_assoc]; exact g3 _ (by omega)
    cases cap with
    | ex q =>
      show kite (l < q) _ _
      rw [kite_eq]
      split
      · exact hk _ (main _) fun b' e => e
      · have : n ≤ q := hcl
        refine hk _ (.congr (c := fun i => y.c (o + i)) (?_ : IsR m esz (.sl b o 0 (.ex 0)) (u - l) _) fun i hi => ?_) fun b' e => e
        · rw [show u - l = 0 by omega]; exact .sl b o 0 _ y _ g1 (by omega) fun i hi => rfl
        · rw [show u - l = 0 by omega] at hi; omega
    | ge e q =>
      show kite (e = esz) (kite (l < q) _ _) False
      refine kite_t (hce e q rfl) ?_
      rw [kite_eq]
      split
      · exact hk _ (main _) fun b' e => e
      · have : n ≤ q := hcl
        exact hk _ (by rw [show u - l = 0 by omega]; exact .e0 _) fun b' e => e.elim
/-- a list that may be cut -/
structure IsS (m : Mem) (esz : Nat) (v : AV) (n : Nat) (c : Nat → AV) : Prop where
  r : IsR m esz v n c
  cap : ∀ b o cap, v = .sl b o n cap → n ≤ cap.low ∧ ∀ e q, cap = .ge e q → e = esz
theorem IsS.fr {m m' : Mem} {S : Nat → Prop} {esz : Nat} {v : AV} {n : Nat} {c : Nat → AV} (h : IsS m esz v n c) (F : Fr S m m') (hs : ∀ b, own v b → ¬ S b) : IsS m' esz v n c := ⟨h.r.fr F hs, h.cap⟩
theorem IsS.keep {m m' : Mem} {esz : Nat} {v : AV} {n : Nat} {c : Nat → AV} (h : IsS m esz v n c) (K : Keeps m m') : IsS m' esz v n c := ⟨h.r.keep K, h.cap⟩
theorem IsS.congr {m : Mem} {esz : Nat} {v : AV} {n : Nat} {c d : Nat → AV} (h : IsS m esz v n c) (e : ∀ i, i < n * esz → c i = d i) : IsS m esz v n d := ⟨h.r.congr e, h.cap⟩
theorem IsL.s {m : Mem} {esz : Nat} {v : AV} {n : Nat} {c : Nat → AV} (h : IsL m esz v n c) : IsS m esz v n c := by
  refine ⟨h.r, fun b o cap e => ?_⟩
  cases h with
  | nil a c => cases e
  | sl b o n cap y c h1 h2 h3 h4 h5 =>
    cases e
    cases cap with
    | ex q => exact ⟨h5.1, fun e q h => by cases h⟩
    | ge e q => exact ⟨h5.2, fun e' q' h => by cases h; exact h5.1⟩
theorem slS_s {m : Mem} {esz : Nat} {v : AV} {n : Nat} {c : Nat → AV} (h : IsS m esz v n c) {lo hi : Option Int} {l u : Nat} (hl : optI lo 0 = l) (hu : optI hi n = u) (h1 : l ≤ u) (h2 : u ≤ n) {k : AV → Prop}
    (hk : ∀ v', IsS m esz v' (u - l) (fun i => c (l * esz + i)) → (∀ b, own v' b → own v b) → k v') : slS esz v lo hi k := by
  have bnd : ∀ (cap : Nat) (K : Prop), n ≤ cap → K → kbnd (optI lo 0) (optI hi n) cap K := fun cap K hcap hK => by
    rw [hl, hu]
    exact kif_t (by simp) (kif_t (by simp; omega) (kif_t (by simp; omega) hK))
  obtain ⟨h, hc⟩ := h
  cases h with
  | nil a c =>
    unfold slS; exact kite_t ⟨rfl, rfl⟩ (bnd 0 _ (Nat.le_refl _) (hk _ ⟨by rw [show u - l = 0 by omega]; exact .nil a _, fun b o cap e => by cases e⟩ fun b e => e))
  | e0 c => exact bnd 0 _ (Nat.le_refl _) (hk _ ⟨by rw [show u - l = 0 by omega]; exact .e0 _, fun b o cap e => by cases e⟩ fun b e => e)
  | sl b o n cap y c g1 g2 g3 =>
    obtain ⟨hcl, hce⟩ := hc b o cap rfl
    refine bnd _ _ hcl ?_
    rw [hl, hu]
    simp only [Int.toNat_natCast]
    have hm : l * esz + (u - l) * esz = u * esz := by rw [← Nat.add_mul]; congr 1; omega
    have hm2 : u * esz ≤ n * esz := Nat.mul_le_mul_right _ h2
    have main : ∀ cap', IsR m esz (.sl b (o + l * esz) (u - l) cap') (u - l) fun i => c (l * esz + i) := fun cap' => .sl b _ _ cap' y _ g1 (by omega) fun i hi => by rw [Nat.add_assoc]; exact g3 _ (by omega)
    cases cap with
    | ex q =>
      have hq : n ≤ q := hcl
      show kite (l < q) _ _
      rw [kite_eq]
      split
      · refine hk _ ⟨main _, fun b o cap e => ?_⟩ fun b' e => e
        cases e
        exact ⟨by show u - l ≤ q - l; omega, fun e q h => by cases h⟩
      · have e0 : u - l = 0 := by omega
        refine hk _ ⟨?_, fun b o cap e => ?_⟩ fun b' e => e
        · rw [e0]; exact .sl b o 0 _ y _ g1 (by omega) fun i hi => by omega
        · injection e with e1 e2 e3 e4
          rw [← e4]
          exact ⟨by show u - l ≤ 0; omega, fun e q h => by cases h⟩
    | ge e q =>
      have hq : n ≤ q := hcl
      have he : e = esz := hce e q rfl
      show kite (e = esz) (kite (l < q) _ _) False
      refine kite_t he ?_
      rw [kite_eq]
      split
      · refine hk _ ⟨main _, fun b o cap e => ?_⟩ fun b' e => e
        cases e
        exact ⟨by show u - l ≤ q - l; omega, fun e q h => by cases h; rfl⟩
      · exact hk _ ⟨by rw [show u - l = 0 by omega]; exact .e0 _, fun b o cap e => by cases e⟩ fun b' e => e.elim
/-- appending to a beginning of what is meant -/
theorem appG {m : Mem} {esz bytes : Nat} {e : TypeId} {v x : AV} {n n' : Nat} {c d : Nat → AV} {k : KV} (h : IsL m esz v n c) (hx : IsR m esz x n' d) (hd : ∀ i, i < n' * esz → d i = c (n * esz + i)) (hb : (n + n') * (bytes + 1) ≤ 140737488355328)
    (hk : ∀ v' m', IsL m' esz v' (n + n') c → Fr (own v) m m' → (∀ b, own v' b → own v b ∨ m.obj b = none) → k v' m') : appS esz bytes e v x m k :=
  appL h hx hb fun v' m' g1 g2 g3 => hk v' m' (g1.congr fun i hi => by
    have : (n + n') * esz = n * esz + n' * esz := Nat.add_mul _ _ _
    unfold cat
    split
    · rfl
    · rename_i c1
      rw [hd _ (by omega), show n * esz + (i - n * esz) = i by omega]) g2 g3
/-- a row is made and appended -/
theorem appN {m : Mem} {esz bytes q : Nat} {t e : TypeId} {v : AV} {n n' : Nat} {c d : Nat → AV} {k : KV} (h : IsL m esz v n c) (hq : q = n' * esz) (hd : ∀ i, i < n' * esz → d i = c (n * esz + i)) (hb : (n + n') * (bytes + 1) ≤ 140737488355328)
    (hk : ∀ v' m', IsL m' esz v' (n + n') c → Fr (own v) m m' → (∀ b, own v' b → own v b ∨ m.obj b = none) → k v' m') : newK m ⟨q, d, t, false⟩ fun b m1 => appS esz bytes e v (.sl b 0 n' (.ex n')) m1 k := by
  refine newK_i fun b m1 hb1 K e1 O => appG (h.keep K) (IsL.row (esz := esz) e1 hq rfl).r hd hb fun v' m2 g1 g2 g3 => hk v' m2 g1 (fun b' hb' ho => ?_) fun b' ho => ?_
  · rw [g2 b' (by rw [K b' hb']; exact hb') ho, K b' hb']
  · rcases g3 b' ho with h1 | h1
    · exact .inl h1
    · exact .inr (newK_none K h1)
/-- a copy into a row from a place on -/
theorem slcop {m : Mem} {esz b n l n' : Nat} {c d : Nat → AV} {x : AV} {lo : Int} {k : KV} (h : IsL m esz (.sl b 0 n (.ex n)) n c) (hx : IsR m esz x n' d) (hlo : lo = l) (hl : l + n' ≤ n)
    (hk : ∀ m' u, IsL m' esz (.sl b 0 n (.ex n)) n (fun i => if l * esz ≤ i ∧ i < (l + n') * esz then d (i - l * esz) else c i) → Fr (own (.sl b 0 n (.ex n))) m m' → (∀ b, m'.obj b ≠ none → m.obj b ≠ none) → k u m') :
    slS esz (.sl b 0 n (.ex n)) (some lo) none fun v => copS esz v x m k := by
  subst hlo
  unfold slS kbnd
  dsimp only [optI, Cap.low]
  refine kif_t (by simp) (kif_t (by simp; omega) (kif_t (by simp) ?_))
  dsimp only [kcut]
  rw [Int.toNat_natCast, Int.toNat_natCast]
  cases h with
  | sl _ _ _ _ y _ g1 g2 g3 g4 g5 =>
    have same : n' = 0 → ∀ u, k u m := fun h0 u => hk m u ((IsL.sl b 0 n (.ex n) y c g1 g2 g3 g4 g5).congr fun i hi => by rw [h0, Nat.add_zero, if_neg (by omega)]) (Fr.refl _ _) fun _ h => h
    simp only [Nat.zero_add] at g2 g3
    rw [kite_eq]
    split
    · rename_i hlt
      simp only [optI, Int.toNat_natCast, Nat.zero_add]
      unfold copS
      refine ksrc_r hx fun d' hd' => ?_
      dsimp only
      have hmn : min n' (n - l) = n' := by omega
      rw [hmn, kite_eq]
      split
      · rename_i h0; exact same h0 _
      · unfold kobj; rw [g1]
        dsimp only
        rw [g4]
        have e1 : (l + n') * esz = l * esz + n' * esz := Nat.add_mul _ _ _
        have e2 : l * esz + (n - l) * esz = n * esz := by rw [← Nat.add_mul]; congr 1; omega
        have e3 : (l + n') * esz ≤ n * esz := Nat.mul_le_mul_right _ hl
        refine kite_t (by omega) (hk _ _ (.sl b 0 n (.ex n) _ _ (set_same _ _ _) (by simpa using g2) (fun i hi => ?_) rfl ⟨Nat.le_refl _, by simpa using g2⟩) (Fr.set rfl _) fun b' hb => ?_)
        · simp only [splice, Nat.zero_add]
          by_cases c1 : l * esz ≤ i ∧ i < l * esz + n' * esz
          · rw [if_pos c1, if_pos (by omega)]; exact hd' _ (by omega)
          · rw [if_neg c1, if_neg (by omega)]; exact g3 i hi
        · by_cases e : b' = b
          · subst e; rw [g1]; simp
          · rwa [set_other _ e] at hb
    · rename_i hlt
      unfold copS
      refine ksrc_r hx fun d' hd' => ?_
      dsimp only
      rw [show min n' 0 = 0 by omega]
      exact kite_t rfl (same (by omega) _)
/-- numbers of a row -/
def cK (kd : IntKind) (f : Nat → Int) : Nat → AV := fun i => .flat (.int kd (f i))
theorem ldK_r {m : Mem} {v : AV} {n : Nat} {f : Nat → Int} {kd : IntKind} (h : IsR m 1 v n (cK kd f)) (i : Nat) (h1 : i < n) {k : Nat → Nat → Int → Prop} (hk : ∀ b o, own v b → k b o (f i)) :
    ksl v fun b o l p => kif (decide (0 ≤ (i : Int)) && decide ((i : Int) < l)) (ldI kd m b (o + (i : Int).toNat * 1) fun x => k b o x) False :=
  ldI_r (k := k) h (by omega) (by omega) (by rw [Int.toNat_natCast]; rfl) hk

/-- the bytes of a list as a string -/
theorem kstr_r {m : Mem} {v : AV} {n : Nat} {c : Nat → AV} (h : IsR m 1 v n c) (z : ByteArray) (hz : z.size = n) (hc : ∀ i, i < n → c i = .flat (.int .u8 (z.data.getD i 0).toNat)) {k : ByteArray → Prop} (hk : k z) : kstr v m k := by
  have hz0 : n = 0 → z = .empty := fun h0 => by
    obtain ⟨d⟩ := z
    have : d.size = 0 := by rw [← h0, ← hz]; rfl
    rw [Array.eq_empty_of_size_eq_zero this]; rfl
  cases h with
  | nil a c => unfold kstr; exact kite_t ⟨rfl, rfl⟩ (by rw [← hz0 rfl]; exact hk)
  | e0 c => show k .empty; rw [← hz0 rfl]; exact hk
  | sl b o n cap y c h1 h2 h3 =>
    show kobj m b _
    unfold kobj; rw [h1]
    exact kite_t (by omega) ⟨z, hz, fun i hi => by rw [h3 i (by omega)]; exact hc i hi, hk⟩
/-- bytes by a function -/
def zOf (n : Nat) (f : Nat → Int) : ByteArray := ⟨((List.range n).map fun i => UInt8.ofNat (f i).toNat).toArray⟩
theorem zOf_size (n : Nat) (f : Nat → Int) : (zOf n f).size = n := by simp [zOf, ByteArray.size]
theorem zOf_get (n : Nat) (f : Nat → Int) (i : Nat) (hi : i < n) (h0 : 0 ≤ f i) (h1 : f i < 256) : (((zOf n f).data.getD i 0).toNat : Int) = f i := by
  simp [zOf, Array.getD, hi]; omega
theorem kstr_b {m : Mem} {v : AV} {n : Nat} {c : Nat → AV} (h : IsR m 1 v n c) (f : Nat → Int) (hc : ∀ i, i < n → c i = .flat (.int .u8 (f i)) ∧ 0 ≤ f i ∧ f i < 256) {k : ByteArray → Prop} (hk : k (zOf n f)) : kstr v m k :=
  kstr_r h (zOf n f) (zOf_size n f) (fun i hi => by rw [zOf_get n f i hi (hc i hi).2.1 (hc i hi).2.2]; exact (hc i hi).1) hk

/-- zeros -/
theorem mkS_i {zs : List AV} {bytes : Nat} {e : TypeId} {ln cn : Int} {m : Mem} {k : Nat → Mem → Prop} (h0 : 0 ≤ ln) (h1 : ln ≤ cn) (hb : cn.toNat * (bytes + 1) ≤ 140737488355328)
    (hk : ∀ b m', m.obj b = none → Keeps m m' → m'.obj b = some ⟨cn.toNat * zs.length, reprow zs, e, false⟩ → Only m b m' → k b m') : mkS zs bytes e ln cn m k :=
  kif_t (by simp; omega) (kif_t (by simp; omega) (kite_t hb (newK_i fun b m' hb K h O => hk b m' hb K h O)))
theorem reprow1 (x : AV) (i : Nat) : reprow [x] i = x := by simp [reprow, Nat.mod_one, lget]
theorem reprow1f (x : AV) : reprow [x] = fun _ => x := by funext i; exact reprow1 x i

end Go.Proofs.YtppikpjmlbaccaaDoor.Am
