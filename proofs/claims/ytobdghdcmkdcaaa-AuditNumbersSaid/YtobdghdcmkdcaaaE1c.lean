/- The machine by blocks: what it is made of; making one. Conditions: the image and the disk's bytes can be read. -/
import Derived.Test.YtobdghdcmkdcaaaE1b
import Derived.Test.YtobdghdcmkdcaaaK6c
namespace Go.Proofs.Ytobdghdcmkdcaaa.Am
set_option linter.unusedVariables false
set_option linter.unusedSimpArgs false
set_option maxRecDepth 100000

def engX (b c : Nat) (cap made used : Int) : Nat → AV := lget [.ptr b 0, .ptr c 0, vi cap, vi made, vi used]
/-- a processor, a bus, blocks that are kept -/
structure Mac (m : Mem) (e : Nat) (q : BB) (c : Nat) (p : Nat) (S : St) (B : Nat → Int) (M W : Nat → Bool) (D : Dv) (wv : AV) (n : Int) (l : List (Key × Val)) (Sc : Nat → Prop) (cap made used : Int) : Prop where
  s : IsSt m e S
  sx : S.x = engX q.b c cap made used
  sq : S.q = 5
  b : IsBus m q p B M W D wv
  c : Ca m c n l Sc
  de : e ∉ q.all
  dw : ¬ own wv e
  ce : ¬ Sc e
  cb : ∀ b ∈ q.all, ¬ Sc b
  cw : ∀ b, own wv b → ¬ Sc b
theorem BB.has {q : BB} {x : Nat} (h : q.r.has x) : x ∈ q.all := by
  rcases h with h | h | h | h <;> simp [BB.all, h]
section
variable {m : Mem}
theorem IsBus.fr {m' : Mem} {S : Nat → Prop} {q : BB} {p : Nat} {B : Nat → Int} {M W : Nat → Bool} {D : Dv} {wv : AV} (h : IsBus m q p B M W D wv) (F : Fr S m m') (hs : ∀ b ∈ q.all, ¬ S b) (hw : ∀ b, own wv b → ¬ S b) : IsBus m' q p B M W D wv :=
  ⟨h.b.fr F (hs _ (by simp [BB.all])), h.r.fr F fun x hx => hs x (BB.has hx), h.w.fr F (hs _ (by simp [BB.all])), h.wl.fr F hw, h.ln.fr F (hs _ (by simp [BB.all])), h.t1.fr F (hs _ (by simp [BB.all])), h.t2.fr F (hs _ (by simp [BB.all])), h.u.fr F (hs _ (by simp [BB.all])), h.d.fr F (hs _ (by simp [BB.all])), h.k.fr F (hs _ (by simp [BB.all])), h.kb.fr F (fun b e => hs _ (by cases e; simp [BB.all])), h.dkr, h.nd, h.nw⟩
theorem IsBus.keep {m' : Mem} {q : BB} {p : Nat} {B : Nat → Int} {M W : Nat → Bool} {D : Dv} {wv : AV} (h : IsBus m q p B M W D wv) (K : Keeps m m') : IsBus m' q p B M W D wv := h.fr (K.fr fun _ => False) (fun _ _ h => h) fun _ _ h => h
theorem IsBus.live {q : BB} {p : Nat} {B : Nat → Int} {M W : Nat → Bool} {D : Dv} {wv : AV} (h : IsBus m q p B M W D wv) {x : Nat} (hx : x ∈ q.all) : m.obj x ≠ none := by
  simp only [BB.all, List.mem_cons, List.not_mem_nil, or_false] at hx
  rcases hx with rfl | rfl | rfl | rfl | rfl | rfl | rfl | rfl | rfl | hx
  · exact h.b.live
  · exact h.w.live
  · exact h.ln.live
  · exact h.t1.live
  · exact h.t2.live
  · exact h.u.live
  · exact h.d.live
  · exact h.k.live
  · exact h.kb.live rfl
  · exact h.r.live hx
theorem IsSt.fr {m' : Mem} {T : Nat → Prop} {b : Nat} {S : St} (h : IsSt m b S) (F : Fr T m m') (hs : ¬ T b) : IsSt m' b S := by
  obtain ⟨x, e, r⟩ := h
  exact ⟨x, by rw [F b (by rw [e]; simp) hs]; exact e, r⟩
theorem newmodel_spec {x : Int} {v1 v2 : AV} {n nd : Nat} {f fd : Nat → Int} (hx : 1 ≤ x ∧ x ≤ 64) (h1 : IsS m 1 v1 n (cB f)) (hf : ∀ i, i < n → 0 ≤ f i ∧ f i < 256) (hn : (n : Int) ≤ x * 1024) (h2 : IsR m 1 v2 nd (cB fd)) (hfd : ∀ i, i < nd → 0 ≤ fd i ∧ fd i < 256) (hnd : nd ≤ 4096) {k : AV → Int → Mem → Prop}
    (hk : ∀ q b m', IsBus m' q x.toNat (imgB n f) (fun _ => false) (fun _ => false) { nd := (nd + 63) / 64 * 64, dk := imgB nd fd } (.flat (.slice none 0 0)) → IsSt m' b { St0 with x := fun _ => .ptr q.b 0, q := 1 } → Keeps m m' → (∀ b ∈ q.all, m.obj b = none) → m.obj b = none → k (.ptr b 0) 0 m') : F16 x v1 v2 m k := by
  unfold F16
  refine kif_f (by simp; omega) (kif_f (by simp; omega) ?_)
  rw [klen_r h1.r, wrap64 (by omega) (by omega)]
  refine kif_f (by simp; omega) ?_
  rw [klen_r h2]
  refine kif_f (by simp; omega) (fresh_spec fun c3 h3 => newbus_spec hx h1 hf hn h2 hfd hnd fun q m6 hb K6 f6 => kif_t rfl (newK_i fun b m7 hb7 K7 e7 O7 => ?_))
  refine hk q b m7 (hb.keep K7) ⟨_, e7, rfl, rfl, fun i hi => ?_, fun j hj => ?_⟩ (K6.trans K7) f6 (newK_none K6 hb7)
  · show upd _ 73 _ i = _
    unfold upd splice
    rw [if_neg (by omega), if_pos (by omega), Nat.sub_zero]
    exact h3 i hi
  · have : j = 0 := by have : j < 1 := hj; omega
    subst this
    rfl
theorem sub_cells {c : Nat → AV} {S : St} (h : ∀ i, i < 73 → c i = stc S i) : StCells (sub c 0 73) S := fun i hi => by
  unfold sub; rw [if_pos hi, Nat.zero_add]; exact h i hi
theorem mstate_spec {b : Nat} {S : St} (h : IsSt m b S) {k : (Nat → AV) → Mem → Prop} (hk : ∀ c, StCells c S → k c m) : F17 b 0 m k := by
  unfold F17
  simp only [Nat.zero_add]
  intro b2 hb2
  have K1 := Keeps.set hb2 ⟨73, Z73, 33, false⟩
  refine ldS_st (h.keep K1) fun c hc => stS_b (set_same _ _ _) rfl rfl hc fun m4 h4 O4 => ldS_st h4 fun c5 h5 => ⟨?_, StCells.inDom h5 m, hk c5 h5⟩
  exact Only.keeps K1 hb2 O4
theorem estate_spec {b : Nat} {S : St} (h : IsSt m b S) {k : (Nat → AV) → Mem → Prop} (hk : ∀ c, StCells c S → k c m) : F7 b 0 m k := by
  unfold F7
  simp only [Nat.zero_add]
  intro b2 hb2
  have K1 := Keeps.set hb2 ⟨73, Z73, 33, false⟩
  refine ldS_st (h.keep K1) fun c hc => stS_b (set_same _ _ _) rfl rfl hc fun m4 h4 O4 => ldS_st h4 fun c5 h5 => ⟨?_, StCells.inDom h5 m, hk c5 h5⟩
  exact Only.keeps K1 hb2 O4
theorem tail_ld {b : Nat} {S : St} (h : IsSt m b S) {j : Nat} (hj : j < S.q) {v : AV} (e : S.x j = v) (h1 : v.one = true) (k : AV → Prop) : ldA m b (73 + j) k = k v := by
  obtain ⟨x, ex, hn, hr, hc, hx⟩ := h
  exact ldA_v ex (by omega) ((hx j hj).trans e) h1 k
theorem tail_li {b : Nat} {S : St} (h : IsSt m b S) {j : Nat} (hj : j < S.q) {n : Int} (e : S.x j = vi n) (k : Int → Prop) : ldI .i64 m b (73 + j) k = k n := by
  obtain ⟨x, ex, hn, hr, hc, hx⟩ := h
  exact ldI_of ex (by omega) ((hx j hj).trans e)
theorem neweng_spec {x most : Int} {v1 v2 : AV} {n nd : Nat} {f fd : Nat → Int} (hx : 1 ≤ x ∧ x ≤ 64) (h1 : IsS m 1 v1 n (cB f)) (hf : ∀ i, i < n → 0 ≤ f i ∧ f i < 256) (hn : (n : Int) ≤ x * 1024) (h2 : IsR m 1 v2 nd (cB fd)) (hfd : ∀ i, i < nd → 0 ≤ fd i ∧ fd i < 256) (hnd : nd ≤ 4096) {k : AV → Int → Mem → Prop}
    (hk : ∀ e q c Sc m', Mac m' e q c x.toNat { St0 with x := engX q.b c 32 0 0, q := 5 } (imgB n f) (fun _ => false) (fun _ => false) { nd := (nd + 63) / 64 * 64, dk := imgB nd fd } (.flat (.slice none 0 0)) (clN most) [] Sc 32 0 0 → Keeps m m' → m.obj e = none → (∀ b ∈ q.all, m.obj b = none) → (∀ b, Sc b → m.obj b = none) → k (.ptr e 0) 0 m') : F6 x v1 v2 most m k := by
  unfold F6
  refine newmodel_spec hx h1 hf hn h2 hfd hnd fun q b m3 hb3 hs3 K3 f3 fb => ?_
  refine kif_f rfl ?_
  dsimp only [kptr]
  refine mstate_spec hs3 fun c6 h6 => ?_
  unfold F18
  rw [show (0 : Nat) + 73 = 73 + 0 from rfl, tail_ld hs3 (j := 0) (by show 0 < 1; decide) rfl rfl]
  refine new22 fun c m13 Sc C13 K13 f13 => kif_t rfl (kif_t rfl (newK_i fun e m14 he K14 e14 O14 => ?_))
  have hb14 := (hb3.keep K13).keep K14
  refine hk e q c Sc m14 ⟨⟨_, e14, rfl, rfl, fun i hi => ?_, fun j hj => ?_⟩, rfl, rfl, hb14, C13.keep K14, fun hm => ?_, fun h => h, fun h => ?_, fun b hb h => ?_, fun b h => h.elim⟩ (K3.trans (K13.trans K14)) (newK_none (K3.trans K13) he) f3 fun b h => newK_none K3 (f13 b h)
  · show upd (upd (upd _ 73 _) 74 _) 75 _ i = _
    unfold upd splice
    rw [if_neg (by omega), if_neg (by omega), if_neg (by omega), if_pos (by omega), Nat.sub_zero]
    exact h6 i hi
  · have : j = 0 ∨ j = 1 ∨ j = 2 ∨ j = 3 ∨ j = 4 := by have : j < 5 := hj; omega
    rcases this with rfl | rfl | rfl | rfl | rfl <;> rfl
  · exact (hb3.keep K13).live hm he
  · exact C13.live h he
  · exact hb3.live hb (f13 b h)
end
end Go.Proofs.Ytobdghdcmkdcaaa.Am
