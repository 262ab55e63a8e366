/- Merged out of smaller texts. -/
import Derived.Test.YtiafbadciofohaaGreatSwPartB
section
set_option linter.unusedVariables false
set_option linter.unusedSimpArgs false
namespace Go.Vx
open Go Go.Proofs Go.RowKit Go.Lib
theorem zf7 (x y : Ref) : ((x.1 == y.1) && ((x.2.1 == y.2.1) && ((x.2.2.1 == y.2.2.1) && (x.2.2.2.1 == y.2.2.2.1)))) = Tr (x = y) := by
  rw [za4, int_tr, int_tr, show (x.2.2.2.1 == y.2.2.2.1) = Tr (x.2.2.2.1 = y.2.2.2.1) from Tr_eq (by simp), Tr_and, Tr_and, Tr_and]
  refine z30 ⟨fun h => ?_, fun h => by rw [h]; exact ⟨rfl, rfl, rfl, rfl⟩⟩
  obtain ⟨a, b, c, d, u⟩ := x
  obtain ⟨a', b', c', d', u'⟩ := y
  obtain ⟨h1, h2, h3, h4⟩ := h
  cases h1; cases h2; cases h3; cases h4
  rfl
theorem zed (x y : Event) : ((x.1 == y.1) && ((x.2.1 == y.2.1) && (x.2.2.1 == y.2.2.1))) = Tr (x = y) := by
  rw [int_tr, int_tr, show (x.2.2.1 == y.2.2.1) = Tr (x.2.2.1 = y.2.2.1) from Tr_eq (by simp), Tr_and, Tr_and]
  refine z30 ⟨fun h => ?_, fun h => by rw [h]; exact ⟨rfl, rfl, rfl⟩⟩
  obtain ⟨a, b, c, u⟩ := x
  obtain ⟨a', b', c', u'⟩ := y
  obtain ⟨h1, h2, h3⟩ := h
  cases h1; cases h2; cases h3
  rfl
theorem zaw (a b : List Int) (ha : a.length ≤ 1048576) : z0p LP a b = some (Tr (a = b)) := by
  have hLP := LP_ge
  unfold z0p z0p.e
  rw [int_ne]
  refine z2s (fun q => z2c (fun h => q (by rw [h]))) (fun q => ?_)
  have hlen : a.length = b.length := by omega
  exact z6d hlen (fun k i => z0p.l4 LP k a b (a.length : Int) i) (fun k => by
      simp only [z0p.l4, z0p.b4]
      rw [decide_eq_false (by omega)]
      rfl) (fun k i hi hj => by
      simp only [z0p.l4, z0p.b4]
      simp (disch := omega) only [decide_eq_true, cond_true, z2e hi, z2e hj, z2r, int_ne]
      refine z2s (fun q => by rw [z1b q]; rfl) (fun q => by rw [z2j q]; rfl)) LP (by omega)
theorem za1 (a b : List ByteArray) (ha : a.length ≤ 1048576) : z0j LP a b = some (Tr (a = b)) := by
  have hLP := LP_ge
  unfold z0j z0j.e
  rw [int_ne]
  refine z2s (fun q => z2c (fun h => q (by rw [h]))) (fun q => ?_)
  have hlen : a.length = b.length := by omega
  exact z6d hlen (fun k i => z0j.l4 LP k a b (a.length : Int) i) (fun k => by
      simp only [z0j.l4, z0j.b4]
      rw [decide_eq_false (by omega)]
      rfl) (fun k i hi hj => by
      simp only [z0j.l4, z0j.b4]
      simp (disch := omega) only [decide_eq_true, cond_true, z2e hi, z2e hj, z2r, str_ne]
      refine z2s (fun q => by rw [z1b q]; rfl) (fun q => by rw [z2j q]; rfl)) LP (by omega)
theorem zas (a b : List Ref) (ha : a.length ≤ 1048576) : z0q LP a b = some (Tr (a = b)) := by
  have hLP := LP_ge
  unfold z0q z0q.e
  rw [int_ne]
  refine z2s (fun q => z2c (fun h => q (by rw [h]))) (fun q => ?_)
  have hlen : a.length = b.length := by omega
  exact z6d hlen (fun k i => z0q.l4 LP k a b (a.length : Int) i) (fun k => by
      simp only [z0q.l4, z0q.b4]
      rw [decide_eq_false (by omega)]
      rfl) (fun k i hi hj => by
      simp only [z0q.l4, z0q.b4]
      simp (disch := omega) only [decide_eq_true, cond_true, z2e hi, z2e hj, z2r, zf7]
      refine z2s (fun q => by rw [z1b q]; rfl) (fun q => by rw [z2j q]; rfl)) LP (by omega)
theorem zag (a b : List Edit) (ha : a.length ≤ 1048576) : z0n LP a b = some (Tr (a = b)) := by
  have hLP := LP_ge
  unfold z0n z0n.e
  rw [int_ne]
  refine z2s (fun q => z2c (fun h => q (by rw [h]))) (fun q => ?_)
  have hlen : a.length = b.length := by omega
  exact z6d hlen (fun k i => z0n.l4 LP k a b (a.length : Int) i) (fun k => by
      simp only [z0n.l4, z0n.b4]
      rw [decide_eq_false (by omega)]
      rfl) (fun k i hi hj => by
      simp only [z0n.l4, z0n.b4]
      simp (disch := omega) only [decide_eq_true, cond_true, z2e hi, z2e hj, z2r, zal]
      refine z2s (fun q => by rw [z1b q]; rfl) (fun q => by rw [z2j q]; rfl)) LP (by omega)
theorem za5 (a b : List Event) (ha : a.length ≤ 1048576) : z0k LP a b = some (Tr (a = b)) := by
  have hLP := LP_ge
  unfold z0k z0k.e
  rw [int_ne]
  refine z2s (fun q => z2c (fun h => q (by rw [h]))) (fun q => ?_)
  have hlen : a.length = b.length := by omega
  exact z6d hlen (fun k i => z0k.l4 LP k a b (a.length : Int) i) (fun k => by
      simp only [z0k.l4, z0k.b4]
      rw [decide_eq_false (by omega)]
      rfl) (fun k i hi hj => by
      simp only [z0k.l4, z0k.b4]
      simp (disch := omega) only [decide_eq_true, cond_true, z2e hi, z2e hj, z2r, zed]
      refine z2s (fun q => by rw [z1b q]; rfl) (fun q => by rw [z2j q]; rfl)) LP (by omega)
theorem zde (a b : List Int) (ha : a.length ≤ 1048576) : z20 LP a b = some (Tr (a = b)) := by
  have hLP := LP_ge
  unfold z20 z20.e
  rw [int_ne]
  refine z2s (fun q => z2c (fun h => q (by rw [h]))) (fun q => ?_)
  have hlen : a.length = b.length := by omega
  exact z6d hlen (fun k i => z20.l4 LP k a b i) (fun k => by
      simp only [z20.l4, z20.b4]
      rw [decide_eq_false (by omega)]
      rfl) (fun k i hi hj => by
      simp only [z20.l4, z20.b4]
      simp (disch := omega) only [decide_eq_true, cond_true, z2e hi, z2e hj, z2r, int_ne]
      refine z2s (fun q => by rw [z1b q]; rfl) (fun q => by rw [z2j q]; rfl)) LP (by omega)
theorem zae (a b : List ByteArray) (ha : a.length ≤ 1048576) : z0m LP a b = some (Tr (a = b)) := by
  have hLP := LP_ge
  unfold z0m z0m.e
  rw [int_ne]
  refine z2s (fun q => z2c (fun h => q (by rw [h]))) (fun q => ?_)
  have hlen : a.length = b.length := by omega
  exact z6d hlen (fun k i => z0m.l4 LP k a b i) (fun k => by
      simp only [z0m.l4, z0m.b4]
      rw [decide_eq_false (by omega)]
      rfl) (fun k i hi hj => by
      simp only [z0m.l4, z0m.b4]
      simp (disch := omega) only [decide_eq_true, cond_true, z2e hi, z2e hj, z2r, str_ne]
      refine z2s (fun q => by rw [z1b q]; rfl) (fun q => by rw [z2j q]; rfl)) LP (by omega)
theorem zau (a b : List Ref) (ha : a.length ≤ 1048576) : z0o LP a b = some (Tr (a = b)) := by
  have hLP := LP_ge
  unfold z0o z0o.e
  rw [int_ne]
  refine z2s (fun q => z2c (fun h => q (by rw [h]))) (fun q => ?_)
  have hlen : a.length = b.length := by omega
  exact z6d hlen (fun k i => z0o.l4 LP k a b i) (fun k => by
      simp only [z0o.l4, z0o.b4]
      rw [decide_eq_false (by omega)]
      rfl) (fun k i hi hj => by
      simp only [z0o.l4, z0o.b4]
      simp (disch := omega) only [decide_eq_true, cond_true, z2e hi, z2e hj, z2r, zf7]
      refine z2s (fun q => by rw [z1b q]; rfl) (fun q => by rw [z2j q]; rfl)) LP (by omega)
theorem z87 (a b : List Edit) (ha : a.length ≤ 1048576) : z0l LP a b = some (Tr (a = b)) := by
  have hLP := LP_ge
  unfold z0l z0l.e
  rw [int_ne]
  refine z2s (fun q => z2c (fun h => q (by rw [h]))) (fun q => ?_)
  have hlen : a.length = b.length := by omega
  exact z6d hlen (fun k i => z0l.l4 LP k a b i) (fun k => by
      simp only [z0l.l4, z0l.b4]
      rw [decide_eq_false (by omega)]
      rfl) (fun k i hi hj => by
      simp only [z0l.l4, z0l.b4]
      simp (disch := omega) only [decide_eq_true, cond_true, z2e hi, z2e hj, z2r, zal]
      refine z2s (fun q => by rw [z1b q]; rfl) (fun q => by rw [z2j q]; rfl)) LP (by omega)
theorem z8x (a b : List Client) (φ : (Client × Client × Unit) → Option Bool) (ha : a.length ≤ 1048576) (hφ : ∀ x ∈ a, ∀ y ∈ b, φ (x, y, ()) = some (Tr (x = y))) : z04 LP a b φ = some (Tr (a = b)) := by
  have hLP := LP_ge
  unfold z04 z04.e
  rw [int_ne]
  refine z2s (fun q => z2c (fun h => q (by rw [h]))) (fun q => ?_)
  have hlen : a.length = b.length := by omega
  exact z6d hlen (fun k i => z04.l4 LP k b φ a (a.length : Int) i) (fun k => by
      simp only [z04.l4, z04.b4]
      rw [decide_eq_false (by omega)]
      rfl) (fun k i hi hj => by
      simp only [z04.l4, z04.b4]
      simp (disch := omega) only [decide_eq_true, cond_true, z2e hi, z2e hj, z2r]
      rw [hφ _ (List.getElem_mem hi) _ (List.getElem_mem hj), obind_some']
      refine z2s (fun q => by rw [z1b q]; rfl) (fun q => by rw [z2j q]; rfl)) LP (by omega)
theorem z95 (a b : List Watch) (φ : (Watch × Watch × Unit) → Option Bool) (ha : a.length ≤ 1048576) (hφ : ∀ x ∈ a, ∀ y ∈ b, φ (x, y, ()) = some (Tr (x = y))) : z0a LP a b φ = some (Tr (a = b)) := by
  have hLP := LP_ge
  unfold z0a z0a.e
  rw [int_ne]
  refine z2s (fun q => z2c (fun h => q (by rw [h]))) (fun q => ?_)
  have hlen : a.length = b.length := by omega
  exact z6d hlen (fun k i => z0a.l4 LP k b φ a (a.length : Int) i) (fun k => by
      simp only [z0a.l4, z0a.b4]
      rw [decide_eq_false (by omega)]
      rfl) (fun k i hi hj => by
      simp only [z0a.l4, z0a.b4]
      simp (disch := omega) only [decide_eq_true, cond_true, z2e hi, z2e hj, z2r]
      rw [hφ _ (List.getElem_mem hi) _ (List.getElem_mem hj), obind_some']
      refine z2s (fun q => by rw [z1b q]; rfl) (fun q => by rw [z2j q]; rfl)) LP (by omega)
theorem z8z (a b : List Moment) (φ : (Moment × Moment × Unit) → Option Bool) (ha : a.length ≤ 1048576) (hφ : ∀ x ∈ a, ∀ y ∈ b, φ (x, y, ()) = some (Tr (x = y))) : z06 LP a b φ = some (Tr (a = b)) := by
  have hLP := LP_ge
  unfold z06 z06.e
  rw [int_ne]
  refine z2s (fun q => z2c (fun h => q (by rw [h]))) (fun q => ?_)
  have hlen : a.length = b.length := by omega
  exact z6d hlen (fun k i => z06.l4 LP k b φ a (a.length : Int) i) (fun k => by
      simp only [z06.l4, z06.b4]
      rw [decide_eq_false (by omega)]
      rfl) (fun k i hi hj => by
      simp only [z06.l4, z06.b4]
      simp (disch := omega) only [decide_eq_true, cond_true, z2e hi, z2e hj, z2r]
      rw [hφ _ (List.getElem_mem hi) _ (List.getElem_mem hj), obind_some']
      refine z2s (fun q => by rw [z1b q]; rfl) (fun q => by rw [z2j q]; rfl)) LP (by omega)
theorem z9k (a b : List Wish) (φ : (Wish × Wish × Unit) → Option Bool) (ha : a.length ≤ 1048576) (hφ : ∀ x ∈ a, ∀ y ∈ b, φ (x, y, ()) = some (Tr (x = y))) : z0f LP a b φ = some (Tr (a = b)) := by
  have hLP := LP_ge
  unfold z0f z0f.e
  rw [int_ne]
  refine z2s (fun q => z2c (fun h => q (by rw [h]))) (fun q => ?_)
  have hlen : a.length = b.length := by omega
  exact z6d hlen (fun k i => z0f.l4 LP k b φ a (a.length : Int) i) (fun k => by
      simp only [z0f.l4, z0f.b4]
      rw [decide_eq_false (by omega)]
      rfl) (fun k i hi hj => by
      simp only [z0f.l4, z0f.b4]
      simp (disch := omega) only [decide_eq_true, cond_true, z2e hi, z2e hj, z2r]
      rw [hφ _ (List.getElem_mem hi) _ (List.getElem_mem hj), obind_some']
      refine z2s (fun q => by rw [z1b q]; rfl) (fun q => by rw [z2j q]; rfl)) LP (by omega)
theorem z8t (a b : List Commit) (φ : (Commit × Commit × Unit) → Option Bool) (ha : a.length ≤ 1048576) (hφ : ∀ x ∈ a, ∀ y ∈ b, φ (x, y, ()) = some (Tr (x = y))) : z05 LP a b φ = some (Tr (a = b)) := by
  have hLP := LP_ge
  unfold z05 z05.e
  rw [int_ne]
  refine z2s (fun q => z2c (fun h => q (by rw [h]))) (fun q => ?_)
  have hlen : a.length = b.length := by omega
  exact z6d hlen (fun k i => z05.l4 LP k b φ a (a.length : Int) i) (fun k => by
      simp only [z05.l4, z05.b4]
      rw [decide_eq_false (by omega)]
      rfl) (fun k i hi hj => by
      simp only [z05.l4, z05.b4]
      simp (disch := omega) only [decide_eq_true, cond_true, z2e hi, z2e hj, z2r]
      rw [hφ _ (List.getElem_mem hi) _ (List.getElem_mem hj), obind_some']
      refine z2s (fun q => by rw [z1b q]; rfl) (fun q => by rw [z2j q]; rfl)) LP (by omega)
theorem z69 {p q : Prop} {K : Option Bool} (hK : p → K = some (Tr q)) : cond (Tr p) K (some false) = some (Tr (p ∧ q)) := z3u (fun h => by rw [hK h]; exact z57 ⟨fun w => ⟨h, w⟩, fun w => w.2⟩) (fun h => z2c (fun w => h w.1))
theorem za7 (x y : Commit) (hx : Sm TCommit x) (hy : Sm TCommit y) : z3l LP x y = some (Tr (x = y)) := by
  unfold z3l
  rw [zde _ _ hx.1.1, obind_some', z7o _ _ hx.2.1.1 hy.2.1.1, obind_some', z69 (fun _ => rfl)]
  obtain ⟨a, b, u⟩ := x
  obtain ⟨c, d, v⟩ := y
  exact z57 ⟨fun h => (by obtain ⟨h1, h2⟩ := h; cases h1; cases h2; rfl), fun h => (by cases h; exact ⟨rfl, rfl⟩)⟩
theorem zb8 (x y : Commit) (hx : Sm TCommit x) (hy : Sm TCommit y) : z4g LP x y = some (Tr (x = y)) := by
  unfold z4g
  rw [zaw _ _ hx.1.1, obind_some', z7h _ _ hx.2.1.1 hy.2.1.1, obind_some', z69 (fun _ => rfl)]
  obtain ⟨a, b, u⟩ := x
  obtain ⟨c, d, v⟩ := y
  exact z57 ⟨fun h => (by obtain ⟨h1, h2⟩ := h; cases h1; cases h2; rfl), fun h => (by cases h; exact ⟨rfl, rfl⟩)⟩
theorem zcx (a b : List Commit) (ha : Sm (.sl TCommit) a) (hb : Sm (.sl TCommit) b) : z1z LP a b = some (Tr (a = b)) := by
  have hLP := LP_ge
  have hl : a.length ≤ 1048576 := ha.1
  unfold z1z z1z.e
  rw [int_ne]
  refine z2s (fun q => z2c (fun h => q (by rw [h]))) (fun q => ?_)
  have hlen : a.length = b.length := by omega
  exact z6d hlen (fun k i => z1z.l4 LP k a b i) (fun k => by
      simp only [z1z.l4, z1z.b4]
      rw [decide_eq_false (by omega)]
      rfl) (fun k i hi hj => by
      simp only [z1z.l4, z1z.b4]
      simp (disch := omega) only [decide_eq_true, cond_true, z2e hi, z2e hj, z2r]
      rw [za7 _ _ (sm_mem ha hi) (sm_mem hb hj), obind_some']
      refine z2s (fun q => by rw [z1b q]; rfl) (fun q => by rw [z2j q]; rfl)) LP (by omega)
theorem zdc (x y : Base) (hx : Sm TBase x) (hy : Sm TBase y) : z5z LP x y = some (Tr (x = y)) := by
  unfold z5z
  rw [zcx _ _ hx.1 hy.1, obind_some', zau _ _ hx.2.1.1, obind_some', z69 (fun _ => rfl)]
  obtain ⟨a, b, u⟩ := x
  obtain ⟨c, d, v⟩ := y
  exact z57 ⟨fun h => (by obtain ⟨h1, h2⟩ := h; cases h1; cases h2; rfl), fun h => (by cases h; exact ⟨rfl, rfl⟩)⟩
theorem zcg (x y : Base) (hx : Sm TBase x) (hy : Sm TBase y) (hP : BaseP x) : z5f LP x y = some (Tr (x = y)) := by
  unfold z5f z56
  rw [zac x hx, obind_some', z2j hP, cond_true, z9q _ hx.1, obind_some', z2j hP.1, cond_true]
  rw [z8t x.1 y.1 _ hx.1.1 (fun a ha b hb => zb8 a b (hx.1.2 a ha) (hy.1.2 b hb)), obind_some', obind_some', zas _ _ hx.2.1.1, obind_some', z69 (fun _ => rfl)]
  obtain ⟨a, b, u⟩ := x
  obtain ⟨c, d, v⟩ := y
  exact z57 ⟨fun h => (by obtain ⟨h1, h2⟩ := h; cases h1; cases h2; rfl), fun h => (by cases h; exact ⟨rfl, rfl⟩)⟩
theorem z93 (a b : List Edit) (ha : a.length ≤ 1048576) : z3y LP a b = some (Tr (a = b)) := by
  unfold z3y
  rw [zag _ _ ha]; rfl
theorem zcl (x y : Wish) (hx : Sm TWish x) : z5i LP x y = some (Tr (x = y)) := by
  unfold z5i
  simp only [int_tr, seq_tr]
  rw [z93 _ _ hx.2.2.2.2.1.1, obind_some', z69 (fun _ => rfl), z69 (fun _ => rfl), z69 (fun _ => rfl), z69 (fun _ => rfl)]
  obtain ⟨a, b, c, d, e, u⟩ := x
  obtain ⟨a', b', c', d', e', u'⟩ := y
  exact z57 ⟨fun h => (by obtain ⟨h1, h2, h3, h4, h5⟩ := h; cases h1; cases h2; cases h3; cases h4; cases h5; rfl), fun h => (by cases h; exact ⟨rfl, rfl, rfl, rfl, rfl⟩)⟩
theorem zdh (x y : Op) (hx : Sm TOp x) : z6i LP x y = some (Tr (x = y)) := by
  unfold z6i
  simp only [int_tr, seq_tr]
  rw [z93 _ _ hx.2.2.2.2.1.1, obind_some', z69 (fun _ => rfl), z69 (fun _ => rfl), z69 (fun _ => rfl), z69 (fun _ => rfl)]
  obtain ⟨a, b, c, d, e, u⟩ := x
  obtain ⟨a', b', c', d', e', u'⟩ := y
  exact z57 ⟨fun h => (by obtain ⟨h1, h2, h3, h4, h5⟩ := h; cases h1; cases h2; cases h3; cases h4; cases h5; rfl), fun h => (by cases h; exact ⟨rfl, rfl, rfl, rfl, rfl⟩)⟩
theorem zbt (x y : Watch) (hx : Sm TWatch x) : z4u LP x y = some (Tr (x = y)) := by
  unfold z4u
  simp only [int_tr, seq_tr]
  rw [za5 _ _ hx.2.2.1.1, obind_some', z69 (fun _ => rfl), z69 (fun _ => rfl)]
  obtain ⟨a, b, c, u⟩ := x
  obtain ⟨a', b', c', u'⟩ := y
  exact z57 ⟨fun h => (by obtain ⟨h1, h2, h3⟩ := h; cases h1; cases h2; cases h3; rfl), fun h => (by cases h; exact ⟨rfl, rfl, rfl⟩)⟩
theorem zb1 (x y : Client) (hx : Sm TClient x) (hy : Sm TClient y) : z4e LP x y = some (Tr (x = y)) := by
  unfold z4e
  simp only [int_tr, seq_tr]
  rw [z9k x.1 y.1 _ hx.1.1 (fun a ha b hb => zcl a b (hx.1.2 a ha)), obind_some', z7h _ _ hx.2.2.2.2.2.2.2.2.1.1 hy.2.2.2.2.2.2.2.2.1.1, obind_some']
  simp only [z69 (fun _ => rfl)]
  obtain ⟨a, b, c, d, e, f, g, h, i, u⟩ := x
  obtain ⟨a', b', c', d', e', f', g', h', i', u'⟩ := y
  exact z57 ⟨fun w => (by obtain ⟨h1, h2, h3, h4, h5, h6, h7, h8, h9⟩ := w; cases h1; cases h2; cases h3; cases h4; cases h5; cases h6; cases h7; cases h8; cases h9; rfl), fun w => (by cases w; exact ⟨rfl, rfl, rfl, rfl, rfl, rfl, rfl, rfl, rfl⟩)⟩
theorem zb4 {x y : Result} : (x.1 = y.1 ∧ x.2.1 = y.2.1 ∧ x.2.2.1 = y.2.2.1 ∧ x.2.2.2.1 = y.2.2.2.1 ∧ x.2.2.2.2.1 = y.2.2.2.2.1) ↔ x = y := by
  obtain ⟨a, b, c, d, e, u⟩ := x
  obtain ⟨a', b', c', d', e', u'⟩ := y
  exact ⟨fun h => (by obtain ⟨h1, h2, h3, h4, h5⟩ := h; cases h1; cases h2; cases h3; cases h4; cases h5; rfl), fun h => (by cases h; exact ⟨rfl, rfl, rfl, rfl, rfl⟩)⟩
theorem zb5 (n : Nat) (x y : Result) (hx : Sm TResult x) (hy : Sm TResult y) (hP : ResP n x) : z4c LP x y = some (Tr (x = y)) := by
  unfold z4c
  simp only [int_tr, seq_tr]
  rw [dx (by have := hP.2.2.2.1; omega), cond_true, z8y _ hx.2.2.2.2.1.1, obind_some', z2j hP.2.2.2.2, cond_true, za1 _ _ hx.2.2.2.1.1, obind_some', z7h _ _ hx.2.2.2.2.1.1 hy.2.2.2.2.1.1, obind_some']
  simp only [z69 (fun _ => rfl)]
  exact z57 zb4
theorem zb3 (n : Nat) (x y : Result) (hx : Sm TResult x) (hy : Sm TResult y) (hP : ResP n x) : z4b LP x y = some (Tr (x = y)) := by
  unfold z4b
  simp only [int_tr, seq_tr]
  rw [dx (by have := hP.2.2.2.1; omega), cond_true, z8v _ hx.2.2.2.2.1.1, obind_some', z2j hP.2.2.2.2, cond_true, zae _ _ hx.2.2.2.1.1, obind_some', z7o _ _ hx.2.2.2.2.1.1 hy.2.2.2.2.1.1, obind_some']
  simp only [z69 (fun _ => rfl)]
  exact z57 zb4
end Go.Vx

end
section
set_option linter.unusedVariables false
set_option linter.unusedSimpArgs false
namespace Go.Vx
open Go Go.Proofs Go.RowKit Go.Lib
theorem zfu (o : Op) (ho : Sm TOp o) (h : OpP o) : EditsP o.2.2.2.2.1 := by
  have hes : o.2.2.2.2.1.length ≤ 1048576 := ho.2.2.2.2.1.1
  unfold OpP z4y at h
  simp only [z7i, obind_some', z4z, z81 _ hes] at h
  by_cases hE : EditsP o.2.2.2.2.1
  · exact hE
  · rw [z1b hE] at h
    revert h
    cases Tr (NameP o.2.2.1) <;> cases Tr (Inr o.1 1 6) <;> simp
theorem zf1 {w : World} {m : Moment} (hm : Sm TMoment m) (h : z7x w m) : EditsP m.2.2.2.1.2.2.2.2.1 := by
  obtain ⟨_, _, _, h4, _⟩ := h
  rcases h4 with h4 | h4
  · exact zad h4.2.2.2.2
  · exact zfu _ hm.2.2.2.1 h4
theorem zb0 {x y : Moment} : (x.1 = y.1 ∧ x.2.1 = y.2.1 ∧ x.2.2.1 = y.2.2.1 ∧ x.2.2.2.1 = y.2.2.2.1 ∧ x.2.2.2.2.1 = y.2.2.2.2.1) ↔ x = y := by
  obtain ⟨a, b, c, d, e, u⟩ := x
  obtain ⟨a', b', c', d', e', u'⟩ := y
  exact ⟨fun h => (by obtain ⟨h1, h2, h3, h4, h5⟩ := h; cases h1; cases h2; cases h3; cases h4; cases h5; rfl), fun h => (by cases h; exact ⟨rfl, rfl, rfl, rfl, rfl⟩)⟩
theorem zfp {x y : Op} : (x.1 = y.1 ∧ x.2.1 = y.2.1 ∧ x.2.2.1 = y.2.2.1 ∧ x.2.2.2.1 = y.2.2.2.1 ∧ x.2.2.2.2.1 = y.2.2.2.2.1) ↔ x = y := by
  obtain ⟨a, b, c, d, e, u⟩ := x
  obtain ⟨a', b', c', d', e', u'⟩ := y
  exact ⟨fun h => (by obtain ⟨h1, h2, h3, h4, h5⟩ := h; cases h1; cases h2; cases h3; cases h4; cases h5; rfl), fun h => (by cases h; exact ⟨rfl, rfl, rfl, rfl, rfl⟩)⟩
theorem zax (w : World) (x y : Moment) (hx : Sm TMoment x) (hy : Sm TMoment y) (hP : z7x w x) : z4d LP x y = some (Tr (x = y)) := by
  have hr : ResP w.1.1.length x.2.2.2.2.1 := hP.2.2.2.2
  unfold z4d
  simp only [int_tr]
  rw [z88 _ hx.2.2.2.1.2.2.2.2.1.1, obind_some', z2j (zf1 hx hP), cond_true, zdh _ _ hx.2.2.2.1, obind_some', zb5 _ _ _ hx.2.2.2.2.1 hy.2.2.2.2.1 hr, obind_some']
  simp only [z69 (fun _ => rfl)]
  exact z57 zb0
theorem za8 (w : World) (x y : Moment) (hx : Sm TMoment x) (hy : Sm TMoment y) (hP : z7x w x) : z3i LP x y = some (Tr (x = y)) := by
  have hr : ResP w.1.1.length x.2.2.2.2.1 := hP.2.2.2.2
  unfold z3i
  simp only [int_tr, seq_tr]
  rw [z87 _ _ hx.2.2.2.1.2.2.2.2.1.1, obind_some', zb3 _ _ _ hx.2.2.2.2.1 hy.2.2.2.2.1 hr, obind_some']
  simp only [z69 (fun _ => rfl)]
  refine z57 ⟨fun h => zb0.1 ⟨h.1, h.2.1, h.2.2.1, zfp.1 ⟨h.2.2.2.1, h.2.2.2.2.1, h.2.2.2.2.2.1, h.2.2.2.2.2.2.1, h.2.2.2.2.2.2.2.1⟩, h.2.2.2.2.2.2.2.2⟩, fun h => by rw [h]; exact ⟨rfl, rfl, rfl, rfl, rfl, rfl, rfl, rfl, rfl⟩⟩
theorem zd9 (x y : Watch) (hx : Sm TWatch x) : z1w LP x y = some (Tr (x = y)) := by
  have hLP := LP_ge
  obtain ⟨n, v, l, u⟩ := x
  obtain ⟨n', v', l', u'⟩ := y
  have hl : l.length ≤ 1048576 := hx.2.2.1.1
  unfold z1w z1w.e
  simp only [int_ne, str_ne]
  refine z2s (fun q => z2c (fun h => q (by cases h; rfl))) (fun q1 => ?_)
  refine z2s (fun q => z2c (fun h => q (by cases h; rfl))) (fun q2 => ?_)
  refine z2s (fun q => z2c (fun h => q (by cases h; rfl))) (fun q3 => ?_)
  have hlen : l.length = l'.length := by omega
  subst q1; subst q2
  rw [z57 (show ((n, v, l, u) : Watch) = (n, v, l', u') ↔ l = l' from ⟨fun h => (by cases h; rfl), fun h => (by cases h; rfl)⟩)]
  exact z6d hlen (fun k i => z1w.l4 LP k n v l n v l' i) (fun k => by
      simp only [z1w.l4, z1w.b4]
      rw [decide_eq_false (by omega)]
      rfl) (fun k i hi hj => by
      simp only [z1w.l4, z1w.b4]
      simp (disch := omega) only [decide_eq_true, cond_true, z2e hi, z2e hj, z2r, zed]
      refine z2s (fun q => by rw [z1b q]; rfl) (fun q => by rw [z2j q]; rfl)) LP (by omega)
theorem zf9 {x y : Wish} : (x.1 = y.1 ∧ x.2.1 = y.2.1 ∧ x.2.2.1 = y.2.2.1 ∧ x.2.2.2.1 = y.2.2.2.1 ∧ x.2.2.2.2.1 = y.2.2.2.2.1) ↔ x = y := by
  obtain ⟨a, b, c, d, e, u⟩ := x
  obtain ⟨a', b', c', d', e', u'⟩ := y
  exact ⟨fun h => (by obtain ⟨h1, h2, h3, h4, h5⟩ := h; cases h1; cases h2; cases h3; cases h4; cases h5; rfl), fun h => (by cases h; exact ⟨rfl, rfl, rfl, rfl, rfl⟩)⟩
theorem zd5 (x y : Client) (hx : Sm TClient x) (hy : Sm TClient y) : z1y LP x y = some (Tr (x = y)) := by
  have hLP := LP_ge
  obtain ⟨a, b, c, d, e, f, g, h, i, u⟩ := x
  obtain ⟨a', b', c', d', e', f', g', h', i', u'⟩ := y
  have hl : a.length ≤ 1048576 := hx.1.1
  have hwa : Sm (.sl TWish) a := hx.1
  unfold z1y z1y.e
  simp only [int_ne]
  refine z2s (fun q => z2c (fun h => q (by cases h; rfl))) (fun q1 => ?_)
  refine z2s (fun q => z2c (fun h => q (by cases h; rfl))) (fun q2 => ?_)
  refine z2s (fun q => z2c (fun h => q (by cases h; rfl))) (fun q3 => ?_)
  refine z2s (fun q => z2c (fun h => q (by cases h; rfl))) (fun q4 => ?_)
  refine z2s (fun q => z2c (fun h => q (by cases h; rfl))) (fun q5 => ?_)
  refine z2s (fun q => z2c (fun h => q (by cases h; rfl))) (fun q6 => ?_)
  refine z2s (fun q => z2c (fun h => q (by cases h; rfl))) (fun q7 => ?_)
  refine z2s (fun q => z2c (fun h => q (by cases h; rfl))) (fun q8 => ?_)
  rw [z7o i i' hx.2.2.2.2.2.2.2.2.1.1 hy.2.2.2.2.2.2.2.2.1.1, obind_some']
  refine z2s (fun q => z2c (fun h => q (by cases h; rfl))) (fun q9 => ?_)
  have hlen : a.length = a'.length := by omega
  subst q2; subst q3; subst q4; subst q5; subst q6; subst q7; subst q8; subst q9
  rw [z57 (show ((a, b, c, d, e, f, g, h, i, u) : Client) = (a', b, c, d, e, f, g, h, i, u') ↔ a = a' from ⟨fun h => (by cases h; rfl), fun h => (by cases h; rfl)⟩)]
  exact z6d hlen (fun k j => z1y.l4 LP k a b c d e f g h i a' b c d e f g h i j) (fun k => by
      simp only [z1y.l4, z1y.b4]
      rw [decide_eq_false (by omega)]
      rfl) (fun k j hi hj => by
      simp only [z1y.l4, z1y.b4]
      have hes := (sm_mem hwa hi).2.2.2.2.1.1
      rw [dx (by omega : (j : Int) < (a.length : Int)), cond_true, z2e hi, z2e hj, z2r (by omega) (by omega)]
      simp only [int_ne, str_ne]
      refine z2s (fun q => by rw [z1b (fun h => q (by rw [h]))]; rfl) (fun p1 => ?_)
      refine z2s (fun q => by rw [z1b (fun h => q (by rw [h]))]; rfl) (fun p2 => ?_)
      refine z2s (fun q => by rw [z1b (fun h => q (by rw [h]))]; rfl) (fun p3 => ?_)
      refine z2s (fun q => by rw [z1b (fun h => q (by rw [h]))]; rfl) (fun p4 => ?_)
      rw [z87 _ _ hes, obind_some']
      refine z2s (fun q => by rw [z1b (fun h => q (by rw [h]))]; rfl) (fun p5 => ?_)
      rw [z2j (zf9.1 ⟨p1, p2, p3, p4, p5⟩)]; rfl) LP (by omega)
theorem zcu (x y : World) (hx : Sm TWorld x) (hy : Sm TWorld y) (hP : WorldP x) : z00 LP x y = some (Tr (x = y)) := by
  have hLP := LP_ge
  have hmom := hP.2.2.2.2.2.2.1
  obtain ⟨⟨cm, rf, u⟩, cs, ws, ms, clk, v⟩ := x
  obtain ⟨⟨cm', rf', u'⟩, cs', ws', ms', clk', v'⟩ := y
  have hcs : Sm (.sl TClient) cs := hx.2.1
  have hws : Sm (.sl TWatch) ws := hx.2.2.1
  have hms : Sm (.sl TMoment) ms := hx.2.2.2.1
  have hcs' : Sm (.sl TClient) cs' := hy.2.1
  have hms' : Sm (.sl TMoment) ms' := hy.2.2.2.1
  have hcl : cs.length ≤ 1048576 := hcs.1
  have hwl : ws.length ≤ 1048576 := hws.1
  have hml : ms.length ≤ 1048576 := hms.1
  unfold z00 z00.e
  rw [zdc _ _ hx.1 hy.1, obind_some']
  simp only [int_ne]
  refine z2s (fun q => z2c (fun h => q (by cases h; rfl))) (fun q1 => ?_)
  refine z2s (fun q => z2c (fun h => q (by cases h; rfl))) (fun q2 => ?_)
  refine z2s (fun q => z2c (fun h => q (by cases h; rfl))) (fun q3 => ?_)
  refine z2s (fun q => z2c (fun h => q (by cases h; rfl))) (fun q4 => ?_)
  refine z2s (fun q => z2c (fun h => q (by cases h; rfl))) (fun q5 => ?_)
  cases q1; subst q5
  have l1 : cs.length = cs'.length := by omega
  have l2 : ws.length = ws'.length := by omega
  have l3 : ms.length = ms'.length := by omega
  have h1 := z7d (fun k i => z00.l4 LP k cm rf cs ws ms clk cm rf cs' ws' ms' clk i) cs.length (fun j => cs[j]? = cs'[j]?) false (cm, rf, cs, ws, ms, clk, cm, rf, cs', ws', ms', clk)
    (fun k => by
      simp only [z00.l4, z00.b4]
      rw [decide_eq_false (by omega)]
      rfl) (fun k i hi => by
      simp only [z00.l4, z00.b4]
      have hj : i < cs'.length := by omega
      rw [dx (by omega : (i : Int) < (cs.length : Int)), cond_true, z2e hi, z2e hj, zd5 _ _ (sm_mem hcs hi) (sm_mem hcs' hj), obind_some', z2r (by omega) (by omega)]
      refine z2s (fun q => ?_) (fun q => ?_)
      · rw [z1b (fun h => q (by rw [List.getElem?_eq_getElem hi, List.getElem?_eq_getElem hj] at h; exact Option.some.inj h))]; rfl
      · rw [z2j (by rw [List.getElem?_eq_getElem hi, List.getElem?_eq_getElem hj, q])]; rfl) LP 0 (Nat.zero_le _) (by omega)
  show obind (z00.l4 LP LP cm rf cs ws ms clk cm rf cs' ws' ms' clk 0) _ = _
  rw [show z00.l4 LP LP cm rf cs ws ms clk cm rf cs' ws' ms' clk 0 = _ from h1]
  refine z75 rfl (fun p1 => ?_) (fun p h => p (fun j _ _ => by cases h; rfl))
  have p1 : cs = cs' := List.ext_getElem? (fun j => by
    by_cases hj : j < cs.length
    · exact p1 j (Nat.zero_le _) hj
    · rw [List.getElem?_eq_none (by omega), List.getElem?_eq_none (by omega)])
  have h2 := z7d (fun k i => z00.l9 LP k cm rf cs ws ms clk cm rf cs' ws' ms' clk i) ws.length (fun j => ws[j]? = ws'[j]?) false (cm, rf, cs, ws, ms, clk, cm, rf, cs', ws', ms', clk)
    (fun k => by
      simp only [z00.l9, z00.b9]
      rw [decide_eq_false (by omega)]
      rfl) (fun k i hi => by
      simp only [z00.l9, z00.b9]
      have hj : i < ws'.length := by omega
      rw [dx (by omega : (i : Int) < (ws.length : Int)), cond_true, z2e hi, z2e hj, zd9 _ _ (sm_mem hws hi), obind_some', z2r (by omega) (by omega)]
      refine z2s (fun q => ?_) (fun q => ?_)
      · rw [z1b (fun h => q (by rw [List.getElem?_eq_getElem hi, List.getElem?_eq_getElem hj] at h; exact Option.some.inj h))]; rfl
      · rw [z2j (by rw [List.getElem?_eq_getElem hi, List.getElem?_eq_getElem hj, q])]; rfl) LP 0 (Nat.zero_le _) (by omega)
  show obind (z00.l9 LP LP cm rf cs ws ms clk cm rf cs' ws' ms' clk 0) _ = _
  rw [show z00.l9 LP LP cm rf cs ws ms clk cm rf cs' ws' ms' clk 0 = _ from h2]
  refine z75 rfl (fun p2 => ?_) (fun p h => p (fun j _ _ => by cases h; rfl))
  have p2 : ws = ws' := List.ext_getElem? (fun j => by
    by_cases hj : j < ws.length
    · exact p2 j (Nat.zero_le _) hj
    · rw [List.getElem?_eq_none (by omega), List.getElem?_eq_none (by omega)])
  have h3 := z7d (fun k i => z00.l14 LP k cm rf cs ws ms clk cm rf cs' ws' ms' clk i) ms.length (fun j => ms[j]? = ms'[j]?) false ()
    (fun k => by
      simp only [z00.l14, z00.b14]
      rw [decide_eq_false (by omega)]
      rfl) (fun k i hi => by
      simp only [z00.l14, z00.b14]
      have hj : i < ms'.length := by omega
      rw [dx (by omega : (i : Int) < (ms.length : Int)), cond_true, z2e hi, z2e hj, za8 _ _ _ (sm_mem hms hi) (sm_mem hms' hj) (hmom _ (List.getElem_mem hi)), obind_some', z2r (by omega) (by omega)]
      refine z2s (fun q => ?_) (fun q => ?_)
      · rw [z1b (fun h => q (by rw [List.getElem?_eq_getElem hi, List.getElem?_eq_getElem hj] at h; exact Option.some.inj h))]; rfl
      · rw [z2j (by rw [List.getElem?_eq_getElem hi, List.getElem?_eq_getElem hj, q])]; rfl) LP 0 (Nat.zero_le _) (by omega)
  show obind (z00.l14 LP LP cm rf cs ws ms clk cm rf cs' ws' ms' clk 0) _ = _
  rw [show z00.l14 LP LP cm rf cs ws ms clk cm rf cs' ws' ms' clk 0 = _ from h3]
  refine z75 rfl (fun p3 => ?_) (fun p h => p (fun j _ _ => by cases h; rfl))
  have p3 : ms = ms' := List.ext_getElem? (fun j => by
    by_cases hj : j < ms.length
    · exact p3 j (Nat.zero_le _) hj
    · rw [List.getElem?_eq_none (by omega), List.getElem?_eq_none (by omega)])
  cases p1; cases p2; cases p3
  exact z73 rfl
theorem zf3 {x y : World} : (x.1 = y.1 ∧ x.2.1 = y.2.1 ∧ x.2.2.1 = y.2.2.1 ∧ x.2.2.2.1 = y.2.2.2.1 ∧ x.2.2.2.2.1 = y.2.2.2.2.1) ↔ x = y := by
  obtain ⟨a, b, c, d, e, u⟩ := x
  obtain ⟨a', b', c', d', e', u'⟩ := y
  exact ⟨fun h => (by obtain ⟨h1, h2, h3, h4, h5⟩ := h; cases h1; cases h2; cases h3; cases h4; cases h5; rfl), fun h => (by cases h; exact ⟨rfl, rfl, rfl, rfl, rfl⟩)⟩
theorem zbu (x y : World) (hx : Sm TWorld x) (hy : Sm TWorld y) : z4p LP x y = some (Tr (WorldP x ∧ WorldP y ∧ x = y)) := by
  unfold z4p
  rw [zap x hx, obind_some', zap y hy, obind_some']
  refine z69 (fun p => z69 (fun q => ?_))
  rw [zcu x y hx hy p]
  rfl
theorem zbs (x y : World) (hx : Sm TWorld x) (hy : Sm TWorld y) : z4r LP x y = some (Tr (WorldP x ∧ WorldP y ∧ x = y)) := by
  unfold z4r
  rw [z9v x hx, obind_some', z9v y hy, obind_some']
  refine z69 (fun p => z69 (fun q => ?_))
  rw [zcg x.1 y.1 hx.1 hy.1 p.1, obind_some',
    z8x x.2.1 y.2.1 _ hx.2.1.1 (fun a ha b hb => zb1 a b (hx.2.1.2 a ha) (hy.2.1.2 b hb)), obind_some',
    z95 x.2.2.1 y.2.2.1 _ hx.2.2.1.1 (fun a ha b hb => zbt a b (hx.2.2.1.2 a ha)), obind_some',
    z8z x.2.2.2.1 y.2.2.2.1 _ hx.2.2.2.1.1 (fun a ha b hb => zax x a b (hx.2.2.2.1.2 a ha) (hy.2.2.2.1.2 b hb) (p.2.2.2.2.2.2.1 a ha)), obind_some', int_tr]
  rw [z69 (fun _ => rfl), z69 (fun _ => rfl), z69 (fun _ => rfl), z69 (fun _ => rfl)]
  exact z57 zf3
theorem z9i (x0 x1 : World) (w0 : Wf TWorld x0) (w1 : Wf TWorld x1) : z3b LP x0 x1 = some true := by
  unfold z3b
  rw [z9y x0 1048576 w0 ⟨by omega, by omega⟩, obind_some']
  by_cases h0 : tot TWorld x0 ≤ 1048576
  rotate_left
  · rw [dec_gt (by omega)]; rfl
  rw [dec_le (by omega), decide_eq_false (by omega), cond_false, z9y x1 _ w1 ⟨by omega, by omega⟩, obind_some']
  by_cases h1 : (tot TWorld x1 : Int) ≤ 1048576 - (tot TWorld x0 : Int)
  rotate_left
  · rw [dec_gt (by omega)]; rfl
  rw [dec_le h1, decide_eq_false (by omega), cond_false]
  have hs0 : Sm TWorld x0 := z8o h0
  have hs1 : Sm TWorld x1 := z8o (by omega)
  rw [z9p x0 hs0, z9p x1 hs1]
  simp only [obind_some', zbu x0 x1 hs0 hs1, zbs x0 x1 hs0 hs1, z9r x0 x0 hs0, z9r x1 x1 hs1]
  refine zfc _ _ rfl ?_
  rw [Tr_T]
  rfl
end Go.Vx

end
