/- Merged out of smaller texts. -/
import Derived.Test.YtiafbadciofohaaGreatSwPartA
section
set_option linter.unusedVariables false
set_option linter.unusedSimpArgs false
namespace Go.Vx
open Go Go.Proofs Go.RowKit Go.Lib
theorem zcn {α : Type} {f : α → Nat} (h : ∀ x, f x = 0) : ∀ xs : List α, (xs.map f).sum = 0
  | [] => rfl
  | x :: xs => by rw [List.map_cons, List.sum_cons, h, zcn h xs]
theorem z7f : (maxLen : Nat) = 9223372036854775807 := by simp [maxLen]
theorem str_ne (a b : ByteArray) : (!(a.toList == b.toList)) = !(Tr (a = b)) := by
  congr 1
  refine Tr_eq ?_
  rw [beq_iff_eq, Go.ByteArray.toList_eq, Go.ByteArray.toList_eq]
  exact ⟨fun h => ba_ext h, fun h => by rw [h]⟩
theorem int_ne (a b : Int) : (a != b) = !(Tr (a = b)) := by
  rw [neq_int]
  congr 1
  exact Tr_eq (by simp)
theorem zb9 (a b : Bool) : (a != b) = !(Tr (a = b)) := by
  cases a <;> cases b <;> simp [Tr_T, Tr_F]
theorem z3c {p q : Prop} {K : Option Bool} (hK : p → K = some (Tr q)) : cond (!(Tr p)) (some false) K = some (Tr (p ∧ q)) := by
  by_cases h : p
  · rw [z2j h, hK h]
    simp only [Bool.not_true, cond_false]
    rw [z30 (q := p ∧ q) ⟨fun hq => ⟨h, hq⟩, fun hq => hq.2⟩]
  · rw [z1b h, z1b (fun hq => h hq.1)]
    rfl
theorem z7r {α : Type} {xs : List α} (l : Nat → Int → List α → Option (LE Empty (List α))) (h0 : ∀ k (s : List α), s.length = xs.length → l (k + 1) (xs.length : Int) s = some (.brk s))
    (h1 : ∀ (k i : Nat) (s : List α) (hi : i < xs.length), s.length = xs.length → l (k + 1) (i : Int) s = l k ((i + 1 : Nat) : Int) (s.set i xs[i])) : ∀ (k : Nat) (s : List α), xs.length < k → s.length = xs.length → l k 0 s = some (.brk xs) := by
  intro k s hk hs
  have := z7g l xs.length (fun _ s => s.length = xs.length) (fun i s => .brk (s.take i ++ xs.drop i))
    (fun k s hs => by
      rw [h0 k s hs, List.drop_length, List.append_nil, ← hs, List.take_length]) (fun k i s hi hs ih => by
      rw [h1 k i s hi hs, ih _ (by rw [List.length_set]; exact hs)]
      congr 2
      have hi' : i < s.length := by omega
      rw [z6t hi, List.take_set, List.take_add_one, List.set_append]
      simp [hi', List.length_take, Nat.min_eq_left (Nat.le_of_lt hi')]) k 0 s (Nat.zero_le _) (by omega) hs
  simpa using this
theorem z6d {α : Type} {xs ys : List α} (hlen : xs.length = ys.length) (l : Nat → Int → Option (LE Bool Unit)) (h0 : ∀ k, l (k + 1) (xs.length : Int) = some (.brk ()))
    (h1 : ∀ (k i : Nat) (hi : i < xs.length) (hj : i < ys.length), l (k + 1) (i : Int) = cond (Tr (xs[i] = ys[i])) (l k ((i + 1 : Nat) : Int)) (some (.ret false))) : ∀ (k : Nat), xs.length < k → obind (l k 0) (leF (fun z => some z) (fun _ => some true)) = some (Tr (xs = ys)) := by
  intro k hk
  have := z7d l xs.length (fun i => xs[i]? = ys[i]?) false () h0 (fun k i hi => by
    rw [h1 k i hi (by omega)]
    rw [z30 (q := xs[i]? = ys[i]?)]
    rw [List.getElem?_eq_getElem hi, List.getElem?_eq_getElem (show i < ys.length by omega)]
    simp) k 0 (Nat.zero_le _) (by omega)
  have hc : (∀ j, 0 ≤ j → j < xs.length → xs[j]? = ys[j]?) ↔ xs = ys := by
    constructor
    · intro h
      apply List.ext_getElem?
      intro j
      by_cases hj : j < xs.length
      · exact h j (Nat.zero_le _) hj
      · rw [List.getElem?_eq_none (by omega), List.getElem?_eq_none (by omega)]
    · rintro rfl j _ _; rfl
  rw [z30 hc] at this
  rw [show (0 : Int) = ((0 : Nat) : Int) from rfl, this]
  by_cases h : xs = ys
  · rw [z2j h]; rfl
  · rw [z1b h]; rfl
theorem zd4 (x : Entry) (left : Int) (hw : Wf TEntry x) (hl : In20 left) : z5y x left = some (dec left (tot TEntry x)) := by
  have e : tot TEntry x = x.1.size + 0 := by
    show x.1.size + (0 + (0)) = _
    omega
  rw [e]
  unfold z5y
  by_cases h0 : (x.1.size : Int) ≤ left
  rotate_left
  · have hm := z7f
    have hs : x.1.size ≤ maxLen := hw.1
    have q0 := hl.1
    have q1 := hl.2
    rw [z2r (x := left - (x.1.size : Int)) (by omega) (by omega), decide_eq_true (by omega), dec_gt (by omega)]
    rfl
  have hl0 := In20.sub (n := x.1.size) hl h0
  rw [z2r (x := left - (x.1.size : Int)) (by have := hl0.1; omega) (by have := hl0.2; omega), decide_eq_false (by have := hl0.1; omega), cond_false, ← z6u h0]
  exact z7l hl0
theorem z82 (x : List Entry) (left : Int) (hw : Wf (.sl TEntry) x) (hl : In20 left) : z18 LP x left = some (dec left (tot (.sl TEntry) x)) := by
  have hm := hw.1
  have hmx := z7f
  have hLP := LP_ge
  have hloop := z7y (t := TEntry) (xs := x) (l := fun k i s => z18.l5 LP k x s i) hm
    (fun k s hs => by
      simp only [z18.l5, z18.b5]
      rw [decide_eq_false (by omega)]
      rfl)
    (fun k i s hi hs => by
      simp only [z18.l5, z18.b5]
      rw [decide_eq_true (by omega), cond_true, z2e hi, zd4 _ _ (hw.2 _ (List.getElem_mem hi)) hs, obind_some', z2r (by omega) (by omega)]
      rfl)
  refine z7q hl hm (K := fun t => obind (z18.l5 LP LP x t 0) (leF (fun z => some z) (fun y => some y))) (fun h => ?_)
  have h2 := hloop LP (left - x.length) (by omega) (hl.sub h)
  show obind (z18.l5 LP LP x (left - x.length) 0) _ = _
  rw [show z18.l5 LP LP x (left - x.length) 0 = _ from h2]
  unfold dec
  split <;> rfl
theorem zdg (x : List Int) (left : Int) (hw : Wf (.sl (.int .i64)) x) (hl : In20 left) : z6s x left = some (dec left (tot (.sl (.int .i64)) x)) := by
  have e : tot (.sl (.int .i64)) x = x.length + 0 := by
    show x.length + (x.map (tot (.int .i64))).sum = _
    rw [zcn (f := tot (.int .i64)) (fun _ => rfl)]
  rw [e]
  exact z7q hl hw.1 (K := fun t => some t) (fun h => z7l (hl.sub h))
theorem zcb (x : Commit) (left : Int) (hw : Wf TCommit x) (hl : In20 left) : z5b LP x left = some (dec left (tot TCommit x)) := by
  have e : tot TCommit x = tot (.sl (.int .i64)) x.1 + (tot (.sl TEntry) x.2.1 + 0) := by
    show tot (.sl (.int .i64)) x.1 + (tot (.sl TEntry) x.2.1 + (0)) = _
    omega
  rw [e]
  unfold z5b
  rw [zdg _ _ hw.1 hl, obind_some']
  by_cases h0 : ((tot (.sl (.int .i64)) x.1 : Nat) : Int) ≤ left
  rotate_left
  · rw [dec_gt (by omega), dec_gt (by omega)]
    rfl
  have hl0 := In20.sub hl h0
  rw [dec_le h0, decide_eq_false (by have := hl0.1; omega), cond_false, ← z6u h0]
  rw [z82 _ _ hw.2.1 hl0, obind_some']
  by_cases h1 : ((tot (.sl TEntry) x.2.1 : Nat) : Int) ≤ (left - (tot (.sl (.int .i64)) x.1 : Nat))
  rotate_left
  · rw [dec_gt (by omega), dec_gt (by omega)]
    rfl
  have hl1 := In20.sub hl0 h1
  rw [dec_le h1, decide_eq_false (by have := hl1.1; omega), cond_false, ← z6u h1]
  exact z7l hl1
theorem zbe (x : List Commit) (left : Int) (hw : Wf (.sl TCommit) x) (hl : In20 left) : z10 LP x left = some (dec left (tot (.sl TCommit) x)) := by
  have hm := hw.1
  have hmx := z7f
  have hLP := LP_ge
  have hloop := z7y (t := TCommit) (xs := x) (l := fun k i s => z10.l5 LP k x s i) hm
    (fun k s hs => by
      simp only [z10.l5, z10.b5]
      rw [decide_eq_false (by omega)]
      rfl)
    (fun k i s hi hs => by
      simp only [z10.l5, z10.b5]
      rw [decide_eq_true (by omega), cond_true, z2e hi, zcb _ _ (hw.2 _ (List.getElem_mem hi)) hs, obind_some', z2r (by omega) (by omega)]
      rfl)
  refine z7q hl hm (K := fun t => obind (z10.l5 LP LP x t 0) (leF (fun z => some z) (fun y => some y))) (fun h => ?_)
  have h2 := hloop LP (left - x.length) (by omega) (hl.sub h)
  show obind (z10.l5 LP LP x (left - x.length) 0) _ = _
  rw [show z10.l5 LP LP x (left - x.length) 0 = _ from h2]
  unfold dec
  split <;> rfl
theorem zep (x : Ref) (left : Int) (hw : Wf TRef x) (hl : In20 left) : z72 x left = some (dec left (tot TRef x)) := by
  have e : tot TRef x = x.1.size + 0 := by
    show x.1.size + (0 + (0 + (0 + (0)))) = _
    omega
  rw [e]
  unfold z72
  by_cases h0 : (x.1.size : Int) ≤ left
  rotate_left
  · have hm := z7f
    have hs : x.1.size ≤ maxLen := hw.1
    have q0 := hl.1
    have q1 := hl.2
    rw [z2r (x := left - (x.1.size : Int)) (by omega) (by omega), decide_eq_true (by omega), dec_gt (by omega)]
    rfl
  have hl0 := In20.sub (n := x.1.size) hl h0
  rw [z2r (x := left - (x.1.size : Int)) (by have := hl0.1; omega) (by have := hl0.2; omega), decide_eq_false (by have := hl0.1; omega), cond_false, ← z6u h0]
  exact z7l hl0
theorem zds (x : List Ref) (left : Int) (hw : Wf (.sl TRef) x) (hl : In20 left) : z28 LP x left = some (dec left (tot (.sl TRef) x)) := by
  have hm := hw.1
  have hmx := z7f
  have hLP := LP_ge
  have hloop := z7y (t := TRef) (xs := x) (l := fun k i s => z28.l5 LP k x s i) hm
    (fun k s hs => by
      simp only [z28.l5, z28.b5]
      rw [decide_eq_false (by omega)]
      rfl)
    (fun k i s hi hs => by
      simp only [z28.l5, z28.b5]
      rw [decide_eq_true (by omega), cond_true, z2e hi, zep _ _ (hw.2 _ (List.getElem_mem hi)) hs, obind_some', z2r (by omega) (by omega)]
      rfl)
  refine z7q hl hm (K := fun t => obind (z28.l5 LP LP x t 0) (leF (fun z => some z) (fun y => some y))) (fun h => ?_)
  have h2 := hloop LP (left - x.length) (by omega) (hl.sub h)
  show obind (z28.l5 LP LP x (left - x.length) 0) _ = _
  rw [show z28.l5 LP LP x (left - x.length) 0 = _ from h2]
  unfold dec
  split <;> rfl
theorem zdi (x : Base) (left : Int) (hw : Wf TBase x) (hl : In20 left) : z6m LP x left = some (dec left (tot TBase x)) := by
  have e : tot TBase x = tot (.sl TCommit) x.1 + (tot (.sl TRef) x.2.1 + 0) := by
    show tot (.sl TCommit) x.1 + (tot (.sl TRef) x.2.1 + (0)) = _
    omega
  rw [e]
  unfold z6m
  rw [zbe _ _ hw.1 hl, obind_some']
  by_cases h0 : ((tot (.sl TCommit) x.1 : Nat) : Int) ≤ left
  rotate_left
  · rw [dec_gt (by omega), dec_gt (by omega)]
    rfl
  have hl0 := In20.sub hl h0
  rw [dec_le h0, decide_eq_false (by have := hl0.1; omega), cond_false, ← z6u h0]
  rw [zds _ _ hw.2.1 hl0, obind_some']
  by_cases h1 : ((tot (.sl TRef) x.2.1 : Nat) : Int) ≤ (left - (tot (.sl TCommit) x.1 : Nat))
  rotate_left
  · rw [dec_gt (by omega), dec_gt (by omega)]
    rfl
  have hl1 := In20.sub hl0 h1
  rw [dec_le h1, decide_eq_false (by have := hl1.1; omega), cond_false, ← z6u h1]
  exact z7l hl1
theorem zdj (x : Edit) (left : Int) (hw : Wf TEdit x) (hl : In20 left) : z6q x left = some (dec left (tot TEdit x)) := by
  have e : tot TEdit x = x.1.size + 0 := by
    show x.1.size + (0 + (0 + (0))) = _
    omega
  rw [e]
  unfold z6q
  by_cases h0 : (x.1.size : Int) ≤ left
  rotate_left
  · have hm := z7f
    have hs : x.1.size ≤ maxLen := hw.1
    have q0 := hl.1
    have q1 := hl.2
    rw [z2r (x := left - (x.1.size : Int)) (by omega) (by omega), decide_eq_true (by omega), dec_gt (by omega)]
    rfl
  have hl0 := In20.sub (n := x.1.size) hl h0
  rw [z2r (x := left - (x.1.size : Int)) (by have := hl0.1; omega) (by have := hl0.2; omega), decide_eq_false (by have := hl0.1; omega), cond_false, ← z6u h0]
  exact z7l hl0
theorem za0 (x : List Edit) (left : Int) (hw : Wf (.sl TEdit) x) (hl : In20 left) : z1p LP x left = some (dec left (tot (.sl TEdit) x)) := by
  have hm := hw.1
  have hmx := z7f
  have hLP := LP_ge
  have hloop := z7y (t := TEdit) (xs := x) (l := fun k i s => z1p.l5 LP k x s i) hm
    (fun k s hs => by
      simp only [z1p.l5, z1p.b5]
      rw [decide_eq_false (by omega)]
      rfl)
    (fun k i s hi hs => by
      simp only [z1p.l5, z1p.b5]
      rw [decide_eq_true (by omega), cond_true, z2e hi, zdj _ _ (hw.2 _ (List.getElem_mem hi)) hs, obind_some', z2r (by omega) (by omega)]
      rfl)
  refine z7q hl hm (K := fun t => obind (z1p.l5 LP LP x t 0) (leF (fun z => some z) (fun y => some y))) (fun h => ?_)
  have h2 := hloop LP (left - x.length) (by omega) (hl.sub h)
  show obind (z1p.l5 LP LP x (left - x.length) 0) _ = _
  rw [show z1p.l5 LP LP x (left - x.length) 0 = _ from h2]
  unfold dec
  split <;> rfl
theorem zdp (x : Wish) (left : Int) (hw : Wf TWish x) (hl : In20 left) : z6l LP x left = some (dec left (tot TWish x)) := by
  have e : tot TWish x = x.2.1.size + (x.2.2.1.size + (x.2.2.2.1.size + (tot (.sl TEdit) x.2.2.2.2.1 + 0))) := by
    show 0 + (x.2.1.size + (x.2.2.1.size + (x.2.2.2.1.size + (tot (.sl TEdit) x.2.2.2.2.1 + (0))))) = _
    omega
  rw [e]
  unfold z6l
  by_cases h0 : (x.2.1.size : Int) ≤ left
  rotate_left
  · have hm := z7f
    have hs : x.2.1.size ≤ maxLen := hw.2.1
    have q0 := hl.1
    have q1 := hl.2
    rw [z2r (x := left - (x.2.1.size : Int)) (by omega) (by omega), decide_eq_true (by omega), dec_gt (by omega)]
    rfl
  have hl0 := In20.sub (n := x.2.1.size) hl h0
  rw [z2r (x := left - (x.2.1.size : Int)) (by have := hl0.1; omega) (by have := hl0.2; omega), decide_eq_false (by have := hl0.1; omega), cond_false, ← z6u h0]
  by_cases h1 : (x.2.2.1.size : Int) ≤ (left - (x.2.1.size : Int))
  rotate_left
  · have hm := z7f
    have hs : x.2.2.1.size ≤ maxLen := hw.2.2.1
    have q0 := hl0.1
    have q1 := hl0.2
    rw [z2r (x := (left - (x.2.1.size : Int)) - (x.2.2.1.size : Int)) (by omega) (by omega), decide_eq_true (by omega), dec_gt (by omega)]
    rfl
  have hl1 := In20.sub (n := x.2.2.1.size) hl0 h1
  rw [z2r (x := (left - (x.2.1.size : Int)) - (x.2.2.1.size : Int)) (by have := hl1.1; omega) (by have := hl1.2; omega), decide_eq_false (by have := hl1.1; omega), cond_false, ← z6u h1]
  by_cases h2 : (x.2.2.2.1.size : Int) ≤ ((left - (x.2.1.size : Int)) - (x.2.2.1.size : Int))
  rotate_left
  · have hm := z7f
    have hs : x.2.2.2.1.size ≤ maxLen := hw.2.2.2.1
    have q0 := hl1.1
    have q1 := hl1.2
    rw [z2r (x := ((left - (x.2.1.size : Int)) - (x.2.2.1.size : Int)) - (x.2.2.2.1.size : Int)) (by omega) (by omega), decide_eq_true (by omega), dec_gt (by omega)]
    rfl
  have hl2 := In20.sub (n := x.2.2.2.1.size) hl1 h2
  rw [z2r (x := ((left - (x.2.1.size : Int)) - (x.2.2.1.size : Int)) - (x.2.2.2.1.size : Int)) (by have := hl2.1; omega) (by have := hl2.2; omega), decide_eq_false (by have := hl2.1; omega), cond_false, ← z6u h2]
  rw [za0 _ _ hw.2.2.2.2.1 hl2, obind_some']
  by_cases h3 : ((tot (.sl TEdit) x.2.2.2.2.1 : Nat) : Int) ≤ (((left - (x.2.1.size : Int)) - (x.2.2.1.size : Int)) - (x.2.2.2.1.size : Int))
  rotate_left
  · rw [dec_gt (by omega), dec_gt (by omega)]
    rfl
  have hl3 := In20.sub hl2 h3
  rw [dec_le h3, decide_eq_false (by have := hl3.1; omega), cond_false, ← z6u h3]
  exact z7l hl3
theorem zdb (x : List Wish) (left : Int) (hw : Wf (.sl TWish) x) (hl : In20 left) : z1r LP x left = some (dec left (tot (.sl TWish) x)) := by
  have hm := hw.1
  have hmx := z7f
  have hLP := LP_ge
  have hloop := z7y (t := TWish) (xs := x) (l := fun k i s => z1r.l5 LP k x s i) hm
    (fun k s hs => by
      simp only [z1r.l5, z1r.b5]
      rw [decide_eq_false (by omega)]
      rfl)
    (fun k i s hi hs => by
      simp only [z1r.l5, z1r.b5]
      rw [decide_eq_true (by omega), cond_true, z2e hi, zdp _ _ (hw.2 _ (List.getElem_mem hi)) hs, obind_some', z2r (by omega) (by omega)]
      rfl)
  refine z7q hl hm (K := fun t => obind (z1r.l5 LP LP x t 0) (leF (fun z => some z) (fun y => some y))) (fun h => ?_)
  have h2 := hloop LP (left - x.length) (by omega) (hl.sub h)
  show obind (z1r.l5 LP LP x (left - x.length) 0) _ = _
  rw [show z1r.l5 LP LP x (left - x.length) 0 = _ from h2]
  unfold dec
  split <;> rfl
theorem zcf (x : Client) (left : Int) (hw : Wf TClient x) (hl : In20 left) : z5g LP x left = some (dec left (tot TClient x)) := by
  have e : tot TClient x = tot (.sl TWish) x.1 + (tot (.sl TEntry) x.2.2.2.2.2.2.2.2.1 + 0) := by
    show tot (.sl TWish) x.1 + (0 + (0 + (0 + (0 + (0 + (0 + (0 + (tot (.sl TEntry) x.2.2.2.2.2.2.2.2.1 + (0))))))))) = _
    omega
  rw [e]
  unfold z5g
  rw [zdb _ _ hw.1 hl, obind_some']
  by_cases h0 : ((tot (.sl TWish) x.1 : Nat) : Int) ≤ left
  rotate_left
  · rw [dec_gt (by omega), dec_gt (by omega)]
    rfl
  have hl0 := In20.sub hl h0
  rw [dec_le h0, decide_eq_false (by have := hl0.1; omega), cond_false, ← z6u h0]
  rw [z82 _ _ hw.2.2.2.2.2.2.2.2.1 hl0, obind_some']
  by_cases h1 : ((tot (.sl TEntry) x.2.2.2.2.2.2.2.2.1 : Nat) : Int) ≤ (left - (tot (.sl TWish) x.1 : Nat))
  rotate_left
  · rw [dec_gt (by omega), dec_gt (by omega)]
    rfl
  have hl1 := In20.sub hl0 h1
  rw [dec_le h1, decide_eq_false (by have := hl1.1; omega), cond_false, ← z6u h1]
  exact z7l hl1
theorem zbf (x : List Client) (left : Int) (hw : Wf (.sl TClient) x) (hl : In20 left) : z0z LP x left = some (dec left (tot (.sl TClient) x)) := by
  have hm := hw.1
  have hmx := z7f
  have hLP := LP_ge
  have hloop := z7y (t := TClient) (xs := x) (l := fun k i s => z0z.l5 LP k x s i) hm
    (fun k s hs => by
      simp only [z0z.l5, z0z.b5]
      rw [decide_eq_false (by omega)]
      rfl)
    (fun k i s hi hs => by
      simp only [z0z.l5, z0z.b5]
      rw [decide_eq_true (by omega), cond_true, z2e hi, zcf _ _ (hw.2 _ (List.getElem_mem hi)) hs, obind_some', z2r (by omega) (by omega)]
      rfl)
  refine z7q hl hm (K := fun t => obind (z0z.l5 LP LP x t 0) (leF (fun z => some z) (fun y => some y))) (fun h => ?_)
  have h2 := hloop LP (left - x.length) (by omega) (hl.sub h)
  show obind (z0z.l5 LP LP x (left - x.length) 0) _ = _
  rw [show z0z.l5 LP LP x (left - x.length) 0 = _ from h2]
  unfold dec
  split <;> rfl
theorem zcj (x : List Event) (left : Int) (hw : Wf (.sl TEvent) x) (hl : In20 left) : z5t x left = some (dec left (tot (.sl TEvent) x)) := by
  have e : tot (.sl TEvent) x = x.length + 0 := by
    show x.length + (x.map (tot TEvent)).sum = _
    rw [zcn (f := tot TEvent) (fun _ => rfl)]
  rw [e]
  exact z7q hl hw.1 (K := fun t => some t) (fun h => z7l (hl.sub h))
theorem zd1 (x : Watch) (left : Int) (hw : Wf TWatch x) (hl : In20 left) : z61 x left = some (dec left (tot TWatch x)) := by
  have e : tot TWatch x = x.1.size + (tot (.sl TEvent) x.2.2.1 + 0) := by
    show x.1.size + (0 + (tot (.sl TEvent) x.2.2.1 + (0))) = _
    omega
  rw [e]
  unfold z61
  by_cases h0 : (x.1.size : Int) ≤ left
  rotate_left
  · have hm := z7f
    have hs : x.1.size ≤ maxLen := hw.1
    have q0 := hl.1
    have q1 := hl.2
    rw [z2r (x := left - (x.1.size : Int)) (by omega) (by omega), decide_eq_true (by omega), dec_gt (by omega)]
    rfl
  have hl0 := In20.sub (n := x.1.size) hl h0
  rw [z2r (x := left - (x.1.size : Int)) (by have := hl0.1; omega) (by have := hl0.2; omega), decide_eq_false (by have := hl0.1; omega), cond_false, ← z6u h0]
  rw [zcj _ _ hw.2.2.1 hl0, obind_some']
  by_cases h1 : ((tot (.sl TEvent) x.2.2.1 : Nat) : Int) ≤ (left - (x.1.size : Int))
  rotate_left
  · rw [dec_gt (by omega), dec_gt (by omega)]
    rfl
  have hl1 := In20.sub hl0 h1
  rw [dec_le h1, decide_eq_false (by have := hl1.1; omega), cond_false, ← z6u h1]
  exact z7l hl1
theorem zcm (x : List Watch) (left : Int) (hw : Wf (.sl TWatch) x) (hl : In20 left) : z1c LP x left = some (dec left (tot (.sl TWatch) x)) := by
  have hm := hw.1
  have hmx := z7f
  have hLP := LP_ge
  have hloop := z7y (t := TWatch) (xs := x) (l := fun k i s => z1c.l5 LP k x s i) hm
    (fun k s hs => by
      simp only [z1c.l5, z1c.b5]
      rw [decide_eq_false (by omega)]
      rfl)
    (fun k i s hi hs => by
      simp only [z1c.l5, z1c.b5]
      rw [decide_eq_true (by omega), cond_true, z2e hi, zd1 _ _ (hw.2 _ (List.getElem_mem hi)) hs, obind_some', z2r (by omega) (by omega)]
      rfl)
  refine z7q hl hm (K := fun t => obind (z1c.l5 LP LP x t 0) (leF (fun z => some z) (fun y => some y))) (fun h => ?_)
  have h2 := hloop LP (left - x.length) (by omega) (hl.sub h)
  show obind (z1c.l5 LP LP x (left - x.length) 0) _ = _
  rw [show z1c.l5 LP LP x (left - x.length) 0 = _ from h2]
  unfold dec
  split <;> rfl
theorem zes (x : Op) (left : Int) (hw : Wf TOp x) (hl : In20 left) : z79 LP x left = some (dec left (tot TOp x)) := by
  have e : tot TOp x = x.2.2.1.size + (x.2.2.2.1.size + (tot (.sl TEdit) x.2.2.2.2.1 + 0)) := by
    show 0 + (0 + (x.2.2.1.size + (x.2.2.2.1.size + (tot (.sl TEdit) x.2.2.2.2.1 + (0))))) = _
    omega
  rw [e]
  unfold z79
  by_cases h0 : (x.2.2.1.size : Int) ≤ left
  rotate_left
  · have hm := z7f
    have hs : x.2.2.1.size ≤ maxLen := hw.2.2.1
    have q0 := hl.1
    have q1 := hl.2
    rw [z2r (x := left - (x.2.2.1.size : Int)) (by omega) (by omega), decide_eq_true (by omega), dec_gt (by omega)]
    rfl
  have hl0 := In20.sub (n := x.2.2.1.size) hl h0
  rw [z2r (x := left - (x.2.2.1.size : Int)) (by have := hl0.1; omega) (by have := hl0.2; omega), decide_eq_false (by have := hl0.1; omega), cond_false, ← z6u h0]
  by_cases h1 : (x.2.2.2.1.size : Int) ≤ (left - (x.2.2.1.size : Int))
  rotate_left
  · have hm := z7f
    have hs : x.2.2.2.1.size ≤ maxLen := hw.2.2.2.1
    have q0 := hl0.1
    have q1 := hl0.2
    rw [z2r (x := (left - (x.2.2.1.size : Int)) - (x.2.2.2.1.size : Int)) (by omega) (by omega), decide_eq_true (by omega), dec_gt (by omega)]
    rfl
  have hl1 := In20.sub (n := x.2.2.2.1.size) hl0 h1
  rw [z2r (x := (left - (x.2.2.1.size : Int)) - (x.2.2.2.1.size : Int)) (by have := hl1.1; omega) (by have := hl1.2; omega), decide_eq_false (by have := hl1.1; omega), cond_false, ← z6u h1]
  rw [za0 _ _ hw.2.2.2.2.1 hl1, obind_some']
  by_cases h2 : ((tot (.sl TEdit) x.2.2.2.2.1 : Nat) : Int) ≤ ((left - (x.2.2.1.size : Int)) - (x.2.2.2.1.size : Int))
  rotate_left
  · rw [dec_gt (by omega), dec_gt (by omega)]
    rfl
  have hl2 := In20.sub hl1 h2
  rw [dec_le h2, decide_eq_false (by have := hl2.1; omega), cond_false, ← z6u h2]
  exact z7l hl2
theorem zbh (x : List ByteArray) (left : Int) (hw : Wf (.sl .str) x) (hl : In20 left) : z0v LP x left = some (dec left (tot (.sl .str) x)) := by
  have hm := hw.1
  have hmx := z7f
  have hLP := LP_ge
  have hloop := z7y (t := .str) (xs := x) (l := fun k i s => z0v.l5 LP k x s i) hm
    (fun k s hs => by
      simp only [z0v.l5, z0v.b5]
      rw [decide_eq_false (by omega)]
      rfl)
    (fun k i s hi hs => by
      have hwi := hw.2 x[i] (List.getElem_mem hi)
      have hwi : x[i].size ≤ maxLen := hwi
      have h0 := hs.1
      have h1 := hs.2
      simp only [z0v.l5, z0v.b5]
      rw [decide_eq_true (by omega), cond_true, z2e hi, z2r (x := s - (x[i].size : Int)) (by omega) (by omega), z2r (x := (i : Int) + 1) (by omega) (by omega)]
      show _ = cond (decide (dec s x[i].size < (0:Int))) _ (z0v.l5 LP k x (dec s x[i].size) _)
      by_cases h : (x[i].size : Int) ≤ s
      · rw [dec_le h]; rfl
      · rw [dec_gt (by omega), decide_eq_true (by omega)]; rfl)
  refine z7q hl hm (K := fun t => obind (z0v.l5 LP LP x t 0) (leF (fun z => some z) (fun y => some y))) (fun h => ?_)
  have h2 := hloop LP (left - x.length) (by omega) (hl.sub h)
  show obind (z0v.l5 LP LP x (left - x.length) 0) _ = _
  rw [show z0v.l5 LP LP x (left - x.length) 0 = _ from h2]
  unfold dec
  split <;> rfl
theorem zce (x : Result) (left : Int) (hw : Wf TResult x) (hl : In20 left) : z5j LP x left = some (dec left (tot TResult x)) := by
  have e : tot TResult x = tot (.sl .str) x.2.2.2.1 + (tot (.sl TEntry) x.2.2.2.2.1 + 0) := by
    show 0 + (0 + (0 + (tot (.sl .str) x.2.2.2.1 + (tot (.sl TEntry) x.2.2.2.2.1 + (0))))) = _
    omega
  rw [e]
  unfold z5j
  rw [zbh _ _ hw.2.2.2.1 hl, obind_some']
  by_cases h0 : ((tot (.sl .str) x.2.2.2.1 : Nat) : Int) ≤ left
  rotate_left
  · rw [dec_gt (by omega), dec_gt (by omega)]
    rfl
  have hl0 := In20.sub hl h0
  rw [dec_le h0, decide_eq_false (by have := hl0.1; omega), cond_false, ← z6u h0]
  rw [z82 _ _ hw.2.2.2.2.1 hl0, obind_some']
  by_cases h1 : ((tot (.sl TEntry) x.2.2.2.2.1 : Nat) : Int) ≤ (left - (tot (.sl .str) x.2.2.2.1 : Nat))
  rotate_left
  · rw [dec_gt (by omega), dec_gt (by omega)]
    rfl
  have hl1 := In20.sub hl0 h1
  rw [dec_le h1, decide_eq_false (by have := hl1.1; omega), cond_false, ← z6u h1]
  exact z7l hl1
theorem zc1 (x : Moment) (left : Int) (hw : Wf TMoment x) (hl : In20 left) : z59 LP x left = some (dec left (tot TMoment x)) := by
  have e : tot TMoment x = tot TOp x.2.2.2.1 + (tot TResult x.2.2.2.2.1 + 0) := by
    show 0 + (0 + (0 + (tot TOp x.2.2.2.1 + (tot TResult x.2.2.2.2.1 + (0))))) = _
    omega
  rw [e]
  unfold z59
  rw [zes _ _ hw.2.2.2.1 hl, obind_some']
  by_cases h0 : ((tot TOp x.2.2.2.1 : Nat) : Int) ≤ left
  rotate_left
  · rw [dec_gt (by omega), dec_gt (by omega)]
    rfl
  have hl0 := In20.sub hl h0
  rw [dec_le h0, decide_eq_false (by have := hl0.1; omega), cond_false, ← z6u h0]
  rw [zce _ _ hw.2.2.2.2.1 hl0, obind_some']
  by_cases h1 : ((tot TResult x.2.2.2.2.1 : Nat) : Int) ≤ (left - (tot TOp x.2.2.2.1 : Nat))
  rotate_left
  · rw [dec_gt (by omega), dec_gt (by omega)]
    rfl
  have hl1 := In20.sub hl0 h1
  rw [dec_le h1, decide_eq_false (by have := hl1.1; omega), cond_false, ← z6u h1]
  exact z7l hl1
theorem zbk (x : List Moment) (left : Int) (hw : Wf (.sl TMoment) x) (hl : In20 left) : z0y LP x left = some (dec left (tot (.sl TMoment) x)) := by
  have hm := hw.1
  have hmx := z7f
  have hLP := LP_ge
  have hloop := z7y (t := TMoment) (xs := x) (l := fun k i s => z0y.l5 LP k x s i) hm
    (fun k s hs => by
      simp only [z0y.l5, z0y.b5]
      rw [decide_eq_false (by omega)]
      rfl)
    (fun k i s hi hs => by
      simp only [z0y.l5, z0y.b5]
      rw [decide_eq_true (by omega), cond_true, z2e hi, zc1 _ _ (hw.2 _ (List.getElem_mem hi)) hs, obind_some', z2r (by omega) (by omega)]
      rfl)
  refine z7q hl hm (K := fun t => obind (z0y.l5 LP LP x t 0) (leF (fun z => some z) (fun y => some y))) (fun h => ?_)
  have h2 := hloop LP (left - x.length) (by omega) (hl.sub h)
  show obind (z0y.l5 LP LP x (left - x.length) 0) _ = _
  rw [show z0y.l5 LP LP x (left - x.length) 0 = _ from h2]
  unfold dec
  split <;> rfl
theorem z9y (x : World) (left : Int) (hw : Wf TWorld x) (hl : In20 left) : z5o LP x left = some (dec left (tot TWorld x)) := by
  have e : tot TWorld x = tot TBase x.1 + (tot (.sl TClient) x.2.1 + (tot (.sl TWatch) x.2.2.1 + (tot (.sl TMoment) x.2.2.2.1 + 0))) := by
    show tot TBase x.1 + (tot (.sl TClient) x.2.1 + (tot (.sl TWatch) x.2.2.1 + (tot (.sl TMoment) x.2.2.2.1 + (0 + (0))))) = _
    omega
  rw [e]
  unfold z5o
  rw [zdi _ _ hw.1 hl, obind_some']
  by_cases h0 : ((tot TBase x.1 : Nat) : Int) ≤ left
  rotate_left
  · rw [dec_gt (by omega), dec_gt (by omega)]
    rfl
  have hl0 := In20.sub hl h0
  rw [dec_le h0, decide_eq_false (by have := hl0.1; omega), cond_false, ← z6u h0]
  rw [zbf _ _ hw.2.1 hl0, obind_some']
  by_cases h1 : ((tot (.sl TClient) x.2.1 : Nat) : Int) ≤ (left - (tot TBase x.1 : Nat))
  rotate_left
  · rw [dec_gt (by omega), dec_gt (by omega)]
    rfl
  have hl1 := In20.sub hl0 h1
  rw [dec_le h1, decide_eq_false (by have := hl1.1; omega), cond_false, ← z6u h1]
  rw [zcm _ _ hw.2.2.1 hl1, obind_some']
  by_cases h2 : ((tot (.sl TWatch) x.2.2.1 : Nat) : Int) ≤ ((left - (tot TBase x.1 : Nat)) - (tot (.sl TClient) x.2.1 : Nat))
  rotate_left
  · rw [dec_gt (by omega), dec_gt (by omega)]
    rfl
  have hl2 := In20.sub hl1 h2
  rw [dec_le h2, decide_eq_false (by have := hl2.1; omega), cond_false, ← z6u h2]
  rw [zbk _ _ hw.2.2.2.1 hl2, obind_some']
  by_cases h3 : ((tot (.sl TMoment) x.2.2.2.1 : Nat) : Int) ≤ (((left - (tot TBase x.1 : Nat)) - (tot (.sl TClient) x.2.1 : Nat)) - (tot (.sl TWatch) x.2.2.1 : Nat))
  rotate_left
  · rw [dec_gt (by omega), dec_gt (by omega)]
    rfl
  have hl3 := In20.sub hl2 h3
  rw [dec_le h3, decide_eq_false (by have := hl3.1; omega), cond_false, ← z6u h3]
  exact z7l hl3
theorem zdd (x : Entry) (hs : Sm TEntry x) : z5w x = some x := by
  unfold z5w
  rfl
theorem z83 (x : List Entry) (hs : Sm (.sl TEntry) x) : z1l LP x = some x := by
  have hm := hs.1
  have hLP := LP_ge
  have hloop := z7r (xs := x) (fun k i s => z1l.l3 LP k x i s)
    (fun k s h => by
      simp only [z1l.l3, z1l.b3]
      rw [decide_eq_false (by omega)]
      rfl)
    (fun k i s hi h => by
      simp only [z1l.l3, z1l.b3]
      rw [decide_eq_true (by omega), cond_true, z2e hi, zdd _ (hs.2 _ (List.getElem_mem hi)), obind_some', decide_eq_true (by omega), oif_true, decide_eq_true (by omega), oif_true, z7j (by omega) (by omega), z2r (by omega) (by omega)]
      rfl)
  unfold z1l z1l.e
  rw [decide_eq_true (by omega), oif_true, decide_eq_true (by omega), oif_true]
  show obind (z1l.l3 LP LP x 0 _) _ = _
  rw [show z1l.l3 LP LP x 0 _ = _ from hloop LP _ (by omega) (by simp)]
  rfl
theorem zdr (x : List Int) (hs : Sm (.sl (.int .i64)) x) : z2l LP x = some x := by
  have hm := hs.1
  have hLP := LP_ge
  have hloop := z7r (xs := x) (fun k i s => z2l.l3 LP k x i s)
    (fun k s h => by
      simp only [z2l.l3, z2l.b3]
      rw [decide_eq_false (by omega)]
      rfl)
    (fun k i s hi h => by
      simp only [z2l.l3, z2l.b3]
      rw [decide_eq_true (by omega), cond_true, z2e hi, decide_eq_true (by omega), oif_true, decide_eq_true (by omega), oif_true, z7j (by omega) (by omega), z2r (by omega) (by omega)]
      rfl)
  unfold z2l z2l.e
  rw [decide_eq_true (by omega), oif_true, decide_eq_true (by omega), oif_true]
  show obind (z2l.l3 LP LP x 0 _) _ = _
  rw [show z2l.l3 LP LP x 0 _ = _ from hloop LP _ (by omega) (by simp)]
  rfl
theorem zc2 (x : Commit) (hs : Sm TCommit x) : z58 LP x = some x := by
  unfold z58
  rw [zdr _ hs.1, obind_some']
  rw [z83 _ hs.2.1, obind_some']
theorem zbd (x : List Commit) (hs : Sm (.sl TCommit) x) : z1h LP x = some x := by
  have hm := hs.1
  have hLP := LP_ge
  have hloop := z7r (xs := x) (fun k i s => z1h.l3 LP k x i s)
    (fun k s h => by
      simp only [z1h.l3, z1h.b3]
      rw [decide_eq_false (by omega)]
      rfl)
    (fun k i s hi h => by
      simp only [z1h.l3, z1h.b3]
      rw [decide_eq_true (by omega), cond_true, z2e hi, zc2 _ (hs.2 _ (List.getElem_mem hi)), obind_some', decide_eq_true (by omega), oif_true, decide_eq_true (by omega), oif_true, z7j (by omega) (by omega), z2r (by omega) (by omega)]
      rfl)
  unfold z1h z1h.e
  rw [decide_eq_true (by omega), oif_true, decide_eq_true (by omega), oif_true]
  show obind (z1h.l3 LP LP x 0 _) _ = _
  rw [show z1h.l3 LP LP x 0 _ = _ from hloop LP _ (by omega) (by simp)]
  rfl
theorem zei (x : Ref) (hs : Sm TRef x) : z6w x = some x := by
  unfold z6w
  rfl
theorem zdq (x : List Ref) (hs : Sm (.sl TRef) x) : z2k LP x = some x := by
  have hm := hs.1
  have hLP := LP_ge
  have hloop := z7r (xs := x) (fun k i s => z2k.l3 LP k x i s)
    (fun k s h => by
      simp only [z2k.l3, z2k.b3]
      rw [decide_eq_false (by omega)]
      rfl)
    (fun k i s hi h => by
      simp only [z2k.l3, z2k.b3]
      rw [decide_eq_true (by omega), cond_true, z2e hi, zei _ (hs.2 _ (List.getElem_mem hi)), obind_some', decide_eq_true (by omega), oif_true, decide_eq_true (by omega), oif_true, z7j (by omega) (by omega), z2r (by omega) (by omega)]
      rfl)
  unfold z2k z2k.e
  rw [decide_eq_true (by omega), oif_true, decide_eq_true (by omega), oif_true]
  show obind (z2k.l3 LP LP x 0 _) _ = _
  rw [show z2k.l3 LP LP x 0 _ = _ from hloop LP _ (by omega) (by simp)]
  rfl
theorem zdf (x : Base) (hs : Sm TBase x) : z6o LP x = some x := by
  unfold z6o
  rw [zbd _ hs.1, obind_some']
  rw [zdq _ hs.2.1, obind_some']
theorem zdk (x : Edit) (hs : Sm TEdit x) : z6p x = some x := by
  unfold z6p
  rfl
theorem z9z (x : List Edit) (hs : Sm (.sl TEdit) x) : z21 LP x = some x := by
  have hm := hs.1
  have hLP := LP_ge
  have hloop := z7r (xs := x) (fun k i s => z21.l3 LP k x i s)
    (fun k s h => by
      simp only [z21.l3, z21.b3]
      rw [decide_eq_false (by omega)]
      rfl)
    (fun k i s hi h => by
      simp only [z21.l3, z21.b3]
      rw [decide_eq_true (by omega), cond_true, z2e hi, zdk _ (hs.2 _ (List.getElem_mem hi)), obind_some', decide_eq_true (by omega), oif_true, decide_eq_true (by omega), oif_true, z7j (by omega) (by omega), z2r (by omega) (by omega)]
      rfl)
  unfold z21 z21.e
  rw [decide_eq_true (by omega), oif_true, decide_eq_true (by omega), oif_true]
  show obind (z21.l3 LP LP x 0 _) _ = _
  rw [show z21.l3 LP LP x 0 _ = _ from hloop LP _ (by omega) (by simp)]
  rfl
theorem zdz (x : Wish) (hs : Sm TWish x) : z6h LP x = some x := by
  unfold z6h
  rw [z9z _ hs.2.2.2.2.1, obind_some']
theorem zd0 (x : List Wish) (hs : Sm (.sl TWish) x) : z27 LP x = some x := by
  have hm := hs.1
  have hLP := LP_ge
  have hloop := z7r (xs := x) (fun k i s => z27.l3 LP k x i s)
    (fun k s h => by
      simp only [z27.l3, z27.b3]
      rw [decide_eq_false (by omega)]
      rfl)
    (fun k i s hi h => by
      simp only [z27.l3, z27.b3]
      rw [decide_eq_true (by omega), cond_true, z2e hi, zdz _ (hs.2 _ (List.getElem_mem hi)), obind_some', decide_eq_true (by omega), oif_true, decide_eq_true (by omega), oif_true, z7j (by omega) (by omega), z2r (by omega) (by omega)]
      rfl)
  unfold z27 z27.e
  rw [decide_eq_true (by omega), oif_true, decide_eq_true (by omega), oif_true]
  show obind (z27.l3 LP LP x 0 _) _ = _
  rw [show z27.l3 LP LP x 0 _ = _ from hloop LP _ (by omega) (by simp)]
  rfl
theorem zc4 (x : Client) (hs : Sm TClient x) : z5e LP x = some x := by
  unfold z5e
  rw [zd0 _ hs.1, obind_some']
  rw [z83 _ hs.2.2.2.2.2.2.2.2.1, obind_some']
theorem zbm (x : List Client) (hs : Sm (.sl TClient) x) : z1f LP x = some x := by
  have hm := hs.1
  have hLP := LP_ge
  have hloop := z7r (xs := x) (fun k i s => z1f.l3 LP k x i s)
    (fun k s h => by
      simp only [z1f.l3, z1f.b3]
      rw [decide_eq_false (by omega)]
      rfl)
    (fun k i s hi h => by
      simp only [z1f.l3, z1f.b3]
      rw [decide_eq_true (by omega), cond_true, z2e hi, zc4 _ (hs.2 _ (List.getElem_mem hi)), obind_some', decide_eq_true (by omega), oif_true, decide_eq_true (by omega), oif_true, z7j (by omega) (by omega), z2r (by omega) (by omega)]
      rfl)
  unfold z1f z1f.e
  rw [decide_eq_true (by omega), oif_true, decide_eq_true (by omega), oif_true]
  show obind (z1f.l3 LP LP x 0 _) _ = _
  rw [show z1f.l3 LP LP x 0 _ = _ from hloop LP _ (by omega) (by simp)]
  rfl
theorem zcw (x : Event) (hs : Sm TEvent x) : z62 x = some x := by
  unfold z62
  rfl
theorem zc6 (x : List Event) (hs : Sm (.sl TEvent) x) : z1u LP x = some x := by
  have hm := hs.1
  have hLP := LP_ge
  have hloop := z7r (xs := x) (fun k i s => z1u.l3 LP k x i s)
    (fun k s h => by
      simp only [z1u.l3, z1u.b3]
      rw [decide_eq_false (by omega)]
      rfl)
    (fun k i s hi h => by
      simp only [z1u.l3, z1u.b3]
      rw [decide_eq_true (by omega), cond_true, z2e hi, zcw _ (hs.2 _ (List.getElem_mem hi)), obind_some', decide_eq_true (by omega), oif_true, decide_eq_true (by omega), oif_true, z7j (by omega) (by omega), z2r (by omega) (by omega)]
      rfl)
  unfold z1u z1u.e
  rw [decide_eq_true (by omega), oif_true, decide_eq_true (by omega), oif_true]
  show obind (z1u.l3 LP LP x 0 _) _ = _
  rw [show z1u.l3 LP LP x 0 _ = _ from hloop LP _ (by omega) (by simp)]
  rfl
theorem zcz (x : Watch) (hs : Sm TWatch x) : z5x LP x = some x := by
  unfold z5x
  rw [zc6 _ hs.2.2.1, obind_some']
theorem zbz (x : List Watch) (hs : Sm (.sl TWatch) x) : z1t LP x = some x := by
  have hm := hs.1
  have hLP := LP_ge
  have hloop := z7r (xs := x) (fun k i s => z1t.l3 LP k x i s)
    (fun k s h => by
      simp only [z1t.l3, z1t.b3]
      rw [decide_eq_false (by omega)]
      rfl)
    (fun k i s hi h => by
      simp only [z1t.l3, z1t.b3]
      rw [decide_eq_true (by omega), cond_true, z2e hi, zcz _ (hs.2 _ (List.getElem_mem hi)), obind_some', decide_eq_true (by omega), oif_true, decide_eq_true (by omega), oif_true, z7j (by omega) (by omega), z2r (by omega) (by omega)]
      rfl)
  unfold z1t z1t.e
  rw [decide_eq_true (by omega), oif_true, decide_eq_true (by omega), oif_true]
  show obind (z1t.l3 LP LP x 0 _) _ = _
  rw [show z1t.l3 LP LP x 0 _ = _ from hloop LP _ (by omega) (by simp)]
  rfl
theorem zew (x : Op) (hs : Sm TOp x) : z7a LP x = some x := by
  unfold z7a
  rw [z9z _ hs.2.2.2.2.1, obind_some']
theorem zbl (x : List ByteArray) (hs : Sm (.sl .str) x) : z1e LP x = some x := by
  have hm := hs.1
  have hLP := LP_ge
  have hloop := z7r (xs := x) (fun k i s => z1e.l3 LP k x i s)
    (fun k s h => by
      simp only [z1e.l3, z1e.b3]
      rw [decide_eq_false (by omega)]
      rfl)
    (fun k i s hi h => by
      simp only [z1e.l3, z1e.b3]
      rw [decide_eq_true (by omega), cond_true, z2e hi, decide_eq_true (by omega), oif_true, decide_eq_true (by omega), oif_true, z7j (by omega) (by omega), z2r (by omega) (by omega)]
      rfl)
  unfold z1e z1e.e
  rw [decide_eq_true (by omega), oif_true, decide_eq_true (by omega), oif_true]
  show obind (z1e.l3 LP LP x 0 _) _ = _
  rw [show z1e.l3 LP LP x 0 _ = _ from hloop LP _ (by omega) (by simp)]
  rfl
theorem zc7 (x : Result) (hs : Sm TResult x) : z5h LP x = some x := by
  unfold z5h
  rw [zbl _ hs.2.2.2.1, obind_some']
  rw [z83 _ hs.2.2.2.2.1, obind_some']
theorem zc3 (x : Moment) (hs : Sm TMoment x) : z5c LP x = some x := by
  unfold z5c
  rw [zew _ hs.2.2.2.1, obind_some']
  rw [zc7 _ hs.2.2.2.2.1, obind_some']
theorem zbc (x : List Moment) (hs : Sm (.sl TMoment) x) : z1g LP x = some x := by
  have hm := hs.1
  have hLP := LP_ge
  have hloop := z7r (xs := x) (fun k i s => z1g.l3 LP k x i s)
    (fun k s h => by
      simp only [z1g.l3, z1g.b3]
      rw [decide_eq_false (by omega)]
      rfl)
    (fun k i s hi h => by
      simp only [z1g.l3, z1g.b3]
      rw [decide_eq_true (by omega), cond_true, z2e hi, zc3 _ (hs.2 _ (List.getElem_mem hi)), obind_some', decide_eq_true (by omega), oif_true, decide_eq_true (by omega), oif_true, z7j (by omega) (by omega), z2r (by omega) (by omega)]
      rfl)
  unfold z1g z1g.e
  rw [decide_eq_true (by omega), oif_true, decide_eq_true (by omega), oif_true]
  show obind (z1g.l3 LP LP x 0 _) _ = _
  rw [show z1g.l3 LP LP x 0 _ = _ from hloop LP _ (by omega) (by simp)]
  rfl
theorem z9p (x : World) (hs : Sm TWorld x) : z48 LP x = some x := by
  unfold z48
  rw [zdf _ hs.1, obind_some']
  rw [zbm _ hs.2.1, obind_some']
  rw [zbz _ hs.2.2.1, obind_some']
  rw [zbc _ hs.2.2.2.1, obind_some']
theorem zcr (a b : Entry) (ha : Sm TEntry a) : z65 a b = some (Tr (a = b)) := by
  have e : (a = b) ↔ (a.1 = b.1 ∧ a.2.1 = b.2.1 ∧ True) := by
    constructor
    · rintro rfl; simp
    · intro h
      simp only [Prod.ext_iff]
      simp [h]
  rw [z30 e]
  unfold z65
  rw [str_ne]
  refine z3c fun _ => ?_
  rw [int_ne]
  refine z3c fun _ => ?_
  rw [Tr_T]
theorem z84 (a b : List Entry) (ha : Sm (.sl TEntry) a) : z1a LP a b = some (Tr (a = b)) := by
  have hm := ha.1
  have hLP := LP_ge
  unfold z1a z1a.e
  rw [int_ne]
  by_cases hlen : a.length = b.length
  rotate_left
  · rw [z1b (fun h => hlen (by omega)), z1b (fun h => hlen (by rw [h]))]
    rfl
  rw [z2j (by omega)]
  refine z6d hlen (fun k i => z1a.l4 LP k a b i) (fun k => by
      simp only [z1a.l4, z1a.b4]
      rw [decide_eq_false (by omega)]
      rfl) (fun k i hi hj => by
      simp only [z1a.l4, z1a.b4]
      rw [decide_eq_true (by omega), cond_true, z2e hi, z2e hj, zcr _ _ (ha.2 _ (List.getElem_mem hi)), obind_some', z2r (by omega) (by omega)]
      cases Tr (a[i] = b[i]) <;> rfl) LP (by omega)
theorem zdu (a b : List Int) (ha : Sm (.sl (.int .i64)) a) : z2b LP a b = some (Tr (a = b)) := by
  have hm := ha.1
  have hLP := LP_ge
  unfold z2b z2b.e
  rw [int_ne]
  by_cases hlen : a.length = b.length
  rotate_left
  · rw [z1b (fun h => hlen (by omega)), z1b (fun h => hlen (by rw [h]))]
    rfl
  rw [z2j (by omega)]
  refine z6d hlen (fun k i => z2b.l4 LP k a b i) (fun k => by
      simp only [z2b.l4, z2b.b4]
      rw [decide_eq_false (by omega)]
      rfl) (fun k i hi hj => by
      simp only [z2b.l4, z2b.b4]
      rw [decide_eq_true (by omega), cond_true, z2e hi, z2e hj, int_ne, z2r (by omega) (by omega)]
      cases Tr (a[i] = b[i]) <;> rfl) LP (by omega)
theorem zc8 (a b : Commit) (ha : Sm TCommit a) : z5d LP a b = some (Tr (a = b)) := by
  have e : (a = b) ↔ (a.1 = b.1 ∧ a.2.1 = b.2.1 ∧ True) := by
    constructor
    · rintro rfl; simp
    · intro h
      simp only [Prod.ext_iff]
      simp [h]
  rw [z30 e]
  unfold z5d
  rw [zdu _ _ ha.1, obind_some']
  refine z3c fun _ => ?_
  rw [z84 _ _ ha.2.1, obind_some']
  refine z3c fun _ => ?_
  rw [Tr_T]
theorem zbp (a b : List Commit) (ha : Sm (.sl TCommit) a) : z13 LP a b = some (Tr (a = b)) := by
  have hm := ha.1
  have hLP := LP_ge
  unfold z13 z13.e
  rw [int_ne]
  by_cases hlen : a.length = b.length
  rotate_left
  · rw [z1b (fun h => hlen (by omega)), z1b (fun h => hlen (by rw [h]))]
    rfl
  rw [z2j (by omega)]
  refine z6d hlen (fun k i => z13.l4 LP k a b i) (fun k => by
      simp only [z13.l4, z13.b4]
      rw [decide_eq_false (by omega)]
      rfl) (fun k i hi hj => by
      simp only [z13.l4, z13.b4]
      rw [decide_eq_true (by omega), cond_true, z2e hi, z2e hj, zc8 _ _ (ha.2 _ (List.getElem_mem hi)), obind_some', z2r (by omega) (by omega)]
      cases Tr (a[i] = b[i]) <;> rfl) LP (by omega)
theorem zem (a b : Ref) (ha : Sm TRef a) : z6y a b = some (Tr (a = b)) := by
  have e : (a = b) ↔ (a.1 = b.1 ∧ a.2.1 = b.2.1 ∧ a.2.2.1 = b.2.2.1 ∧ a.2.2.2.1 = b.2.2.2.1 ∧ True) := by
    constructor
    · rintro rfl; simp
    · intro h
      simp only [Prod.ext_iff]
      simp [h]
  rw [z30 e]
  unfold z6y
  rw [str_ne]
  refine z3c fun _ => ?_
  rw [int_ne]
  refine z3c fun _ => ?_
  rw [int_ne]
  refine z3c fun _ => ?_
  rw [zb9]
  refine z3c fun _ => ?_
  rw [Tr_T]
theorem zdn (a b : List Ref) (ha : Sm (.sl TRef) a) : z2a LP a b = some (Tr (a = b)) := by
  have hm := ha.1
  have hLP := LP_ge
  unfold z2a z2a.e
  rw [int_ne]
  by_cases hlen : a.length = b.length
  rotate_left
  · rw [z1b (fun h => hlen (by omega)), z1b (fun h => hlen (by rw [h]))]
    rfl
  rw [z2j (by omega)]
  refine z6d hlen (fun k i => z2a.l4 LP k a b i) (fun k => by
      simp only [z2a.l4, z2a.b4]
      rw [decide_eq_false (by omega)]
      rfl) (fun k i hi hj => by
      simp only [z2a.l4, z2a.b4]
      rw [decide_eq_true (by omega), cond_true, z2e hi, z2e hj, zem _ _ (ha.2 _ (List.getElem_mem hi)), obind_some', z2r (by omega) (by omega)]
      cases Tr (a[i] = b[i]) <;> rfl) LP (by omega)
theorem ze0 (a b : Base) (ha : Sm TBase a) : z6k LP a b = some (Tr (a = b)) := by
  have e : (a = b) ↔ (a.1 = b.1 ∧ a.2.1 = b.2.1 ∧ True) := by
    constructor
    · rintro rfl; simp
    · intro h
      simp only [Prod.ext_iff]
      simp [h]
  rw [z30 e]
  unfold z6k
  rw [zbp _ _ ha.1, obind_some']
  refine z3c fun _ => ?_
  rw [zdn _ _ ha.2.1, obind_some']
  refine z3c fun _ => ?_
  rw [Tr_T]
theorem zdv (a b : Edit) (ha : Sm TEdit a) : z6j a b = some (Tr (a = b)) := by
  have e : (a = b) ↔ (a.1 = b.1 ∧ a.2.1 = b.2.1 ∧ a.2.2.1 = b.2.2.1 ∧ True) := by
    constructor
    · rintro rfl; simp
    · intro h
      simp only [Prod.ext_iff]
      simp [h]
  rw [z30 e]
  unfold z6j
  rw [str_ne]
  refine z3c fun _ => ?_
  rw [int_ne]
  refine z3c fun _ => ?_
  rw [zb9]
  refine z3c fun _ => ?_
  rw [Tr_T]
theorem z9n (a b : List Edit) (ha : Sm (.sl TEdit) a) : z1q LP a b = some (Tr (a = b)) := by
  have hm := ha.1
  have hLP := LP_ge
  unfold z1q z1q.e
  rw [int_ne]
  by_cases hlen : a.length = b.length
  rotate_left
  · rw [z1b (fun h => hlen (by omega)), z1b (fun h => hlen (by rw [h]))]
    rfl
  rw [z2j (by omega)]
  refine z6d hlen (fun k i => z1q.l4 LP k a b i) (fun k => by
      simp only [z1q.l4, z1q.b4]
      rw [decide_eq_false (by omega)]
      rfl) (fun k i hi hj => by
      simp only [z1q.l4, z1q.b4]
      rw [decide_eq_true (by omega), cond_true, z2e hi, z2e hj, zdv _ _ (ha.2 _ (List.getElem_mem hi)), obind_some', z2r (by omega) (by omega)]
      cases Tr (a[i] = b[i]) <;> rfl) LP (by omega)
theorem zdy (a b : Wish) (ha : Sm TWish a) : z6n LP a b = some (Tr (a = b)) := by
  have e : (a = b) ↔ (a.1 = b.1 ∧ a.2.1 = b.2.1 ∧ a.2.2.1 = b.2.2.1 ∧ a.2.2.2.1 = b.2.2.2.1 ∧ a.2.2.2.2.1 = b.2.2.2.2.1 ∧ True) := by
    constructor
    · rintro rfl; simp
    · intro h
      simp only [Prod.ext_iff]
      simp [h]
  rw [z30 e]
  unfold z6n
  rw [int_ne]
  refine z3c fun _ => ?_
  rw [str_ne]
  refine z3c fun _ => ?_
  rw [str_ne]
  refine z3c fun _ => ?_
  rw [str_ne]
  refine z3c fun _ => ?_
  rw [z9n _ _ ha.2.2.2.2.1, obind_some']
  refine z3c fun _ => ?_
  rw [Tr_T]
theorem zd6 (a b : List Wish) (ha : Sm (.sl TWish) a) : z1v LP a b = some (Tr (a = b)) := by
  have hm := ha.1
  have hLP := LP_ge
  unfold z1v z1v.e
  rw [int_ne]
  by_cases hlen : a.length = b.length
  rotate_left
  · rw [z1b (fun h => hlen (by omega)), z1b (fun h => hlen (by rw [h]))]
    rfl
  rw [z2j (by omega)]
  refine z6d hlen (fun k i => z1v.l4 LP k a b i) (fun k => by
      simp only [z1v.l4, z1v.b4]
      rw [decide_eq_false (by omega)]
      rfl) (fun k i hi hj => by
      simp only [z1v.l4, z1v.b4]
      rw [decide_eq_true (by omega), cond_true, z2e hi, z2e hj, zdy _ _ (ha.2 _ (List.getElem_mem hi)), obind_some', z2r (by omega) (by omega)]
      cases Tr (a[i] = b[i]) <;> rfl) LP (by omega)
theorem zci (a b : Client) (ha : Sm TClient a) : z5l LP a b = some (Tr (a = b)) := by
  have e : (a = b) ↔ (a.1 = b.1 ∧ a.2.1 = b.2.1 ∧ a.2.2.1 = b.2.2.1 ∧ a.2.2.2.1 = b.2.2.2.1 ∧ a.2.2.2.2.1 = b.2.2.2.2.1 ∧ a.2.2.2.2.2.1 = b.2.2.2.2.2.1 ∧ a.2.2.2.2.2.2.1 = b.2.2.2.2.2.2.1 ∧ a.2.2.2.2.2.2.2.1 = b.2.2.2.2.2.2.2.1 ∧ a.2.2.2.2.2.2.2.2.1 = b.2.2.2.2.2.2.2.2.1 ∧ True) := by
    constructor
    · rintro rfl; simp
    · intro h
      simp only [Prod.ext_iff]
      simp [h]
  rw [z30 e]
  unfold z5l
  rw [zd6 _ _ ha.1, obind_some']
  refine z3c fun _ => ?_
  rw [int_ne]
  refine z3c fun _ => ?_
  rw [int_ne]
  refine z3c fun _ => ?_
  rw [int_ne]
  refine z3c fun _ => ?_
  rw [int_ne]
  refine z3c fun _ => ?_
  rw [int_ne]
  refine z3c fun _ => ?_
  rw [int_ne]
  refine z3c fun _ => ?_
  rw [int_ne]
  refine z3c fun _ => ?_
  rw [z84 _ _ ha.2.2.2.2.2.2.2.2.1, obind_some']
  refine z3c fun _ => ?_
  rw [Tr_T]
theorem zbg (a b : List Client) (ha : Sm (.sl TClient) a) : z16 LP a b = some (Tr (a = b)) := by
  have hm := ha.1
  have hLP := LP_ge
  unfold z16 z16.e
  rw [int_ne]
  by_cases hlen : a.length = b.length
  rotate_left
  · rw [z1b (fun h => hlen (by omega)), z1b (fun h => hlen (by rw [h]))]
    rfl
  rw [z2j (by omega)]
  refine z6d hlen (fun k i => z16.l4 LP k a b i) (fun k => by
      simp only [z16.l4, z16.b4]
      rw [decide_eq_false (by omega)]
      rfl) (fun k i hi hj => by
      simp only [z16.l4, z16.b4]
      rw [decide_eq_true (by omega), cond_true, z2e hi, z2e hj, zci _ _ (ha.2 _ (List.getElem_mem hi)), obind_some', z2r (by omega) (by omega)]
      cases Tr (a[i] = b[i]) <;> rfl) LP (by omega)
theorem zcp (a b : Event) (ha : Sm TEvent a) : z64 a b = some (Tr (a = b)) := by
  have e : (a = b) ↔ (a.1 = b.1 ∧ a.2.1 = b.2.1 ∧ a.2.2.1 = b.2.2.1 ∧ True) := by
    constructor
    · rintro rfl; simp
    · intro h
      simp only [Prod.ext_iff]
      simp [h]
  rw [z30 e]
  unfold z64
  rw [int_ne]
  refine z3c fun _ => ?_
  rw [int_ne]
  refine z3c fun _ => ?_
  rw [zb9]
  refine z3c fun _ => ?_
  rw [Tr_T]
theorem zcc (a b : List Event) (ha : Sm (.sl TEvent) a) : z1i LP a b = some (Tr (a = b)) := by
  have hm := ha.1
  have hLP := LP_ge
  unfold z1i z1i.e
  rw [int_ne]
  by_cases hlen : a.length = b.length
  rotate_left
  · rw [z1b (fun h => hlen (by omega)), z1b (fun h => hlen (by rw [h]))]
    rfl
  rw [z2j (by omega)]
  refine z6d hlen (fun k i => z1i.l4 LP k a b i) (fun k => by
      simp only [z1i.l4, z1i.b4]
      rw [decide_eq_false (by omega)]
      rfl) (fun k i hi hj => by
      simp only [z1i.l4, z1i.b4]
      rw [decide_eq_true (by omega), cond_true, z2e hi, z2e hj, zcp _ _ (ha.2 _ (List.getElem_mem hi)), obind_some', z2r (by omega) (by omega)]
      cases Tr (a[i] = b[i]) <;> rfl) LP (by omega)
theorem zcs (a b : Watch) (ha : Sm TWatch a) : z67 LP a b = some (Tr (a = b)) := by
  have e : (a = b) ↔ (a.1 = b.1 ∧ a.2.1 = b.2.1 ∧ a.2.2.1 = b.2.2.1 ∧ True) := by
    constructor
    · rintro rfl; simp
    · intro h
      simp only [Prod.ext_iff]
      simp [h]
  rw [z30 e]
  unfold z67
  rw [str_ne]
  refine z3c fun _ => ?_
  rw [int_ne]
  refine z3c fun _ => ?_
  rw [zcc _ _ ha.2.2.1, obind_some']
  refine z3c fun _ => ?_
  rw [Tr_T]
theorem zch (a b : List Watch) (ha : Sm (.sl TWatch) a) : z1k LP a b = some (Tr (a = b)) := by
  have hm := ha.1
  have hLP := LP_ge
  unfold z1k z1k.e
  rw [int_ne]
  by_cases hlen : a.length = b.length
  rotate_left
  · rw [z1b (fun h => hlen (by omega)), z1b (fun h => hlen (by rw [h]))]
    rfl
  rw [z2j (by omega)]
  refine z6d hlen (fun k i => z1k.l4 LP k a b i) (fun k => by
      simp only [z1k.l4, z1k.b4]
      rw [decide_eq_false (by omega)]
      rfl) (fun k i hi hj => by
      simp only [z1k.l4, z1k.b4]
      rw [decide_eq_true (by omega), cond_true, z2e hi, z2e hj, zcs _ _ (ha.2 _ (List.getElem_mem hi)), obind_some', z2r (by omega) (by omega)]
      cases Tr (a[i] = b[i]) <;> rfl) LP (by omega)
theorem zex (a b : Op) (ha : Sm TOp a) : z78 LP a b = some (Tr (a = b)) := by
  have e : (a = b) ↔ (a.1 = b.1 ∧ a.2.1 = b.2.1 ∧ a.2.2.1 = b.2.2.1 ∧ a.2.2.2.1 = b.2.2.2.1 ∧ a.2.2.2.2.1 = b.2.2.2.2.1 ∧ True) := by
    constructor
    · rintro rfl; simp
    · intro h
      simp only [Prod.ext_iff]
      simp [h]
  rw [z30 e]
  unfold z78
  rw [int_ne]
  refine z3c fun _ => ?_
  rw [int_ne]
  refine z3c fun _ => ?_
  rw [str_ne]
  refine z3c fun _ => ?_
  rw [str_ne]
  refine z3c fun _ => ?_
  rw [z9n _ _ ha.2.2.2.2.1, obind_some']
  refine z3c fun _ => ?_
  rw [Tr_T]
theorem zbq (a b : List ByteArray) (ha : Sm (.sl .str) a) : z15 LP a b = some (Tr (a = b)) := by
  have hm := ha.1
  have hLP := LP_ge
  unfold z15 z15.e
  rw [int_ne]
  by_cases hlen : a.length = b.length
  rotate_left
  · rw [z1b (fun h => hlen (by omega)), z1b (fun h => hlen (by rw [h]))]
    rfl
  rw [z2j (by omega)]
  refine z6d hlen (fun k i => z15.l4 LP k a b i) (fun k => by
      simp only [z15.l4, z15.b4]
      rw [decide_eq_false (by omega)]
      rfl) (fun k i hi hj => by
      simp only [z15.l4, z15.b4]
      rw [decide_eq_true (by omega), cond_true, z2e hi, z2e hj, str_ne, z2r (by omega) (by omega)]
      cases Tr (a[i] = b[i]) <;> rfl) LP (by omega)
theorem zcd (a b : Result) (ha : Sm TResult a) : z5a LP a b = some (Tr (a = b)) := by
  have e : (a = b) ↔ (a.1 = b.1 ∧ a.2.1 = b.2.1 ∧ a.2.2.1 = b.2.2.1 ∧ a.2.2.2.1 = b.2.2.2.1 ∧ a.2.2.2.2.1 = b.2.2.2.2.1 ∧ True) := by
    constructor
    · rintro rfl; simp
    · intro h
      simp only [Prod.ext_iff]
      simp [h]
  rw [z30 e]
  unfold z5a
  rw [int_ne]
  refine z3c fun _ => ?_
  rw [int_ne]
  refine z3c fun _ => ?_
  rw [int_ne]
  refine z3c fun _ => ?_
  rw [zbq _ _ ha.2.2.2.1, obind_some']
  refine z3c fun _ => ?_
  rw [z84 _ _ ha.2.2.2.2.1, obind_some']
  refine z3c fun _ => ?_
  rw [Tr_T]
theorem zc5 (a b : Moment) (ha : Sm TMoment a) : z5k LP a b = some (Tr (a = b)) := by
  have e : (a = b) ↔ (a.1 = b.1 ∧ a.2.1 = b.2.1 ∧ a.2.2.1 = b.2.2.1 ∧ a.2.2.2.1 = b.2.2.2.1 ∧ a.2.2.2.2.1 = b.2.2.2.2.1 ∧ True) := by
    constructor
    · rintro rfl; simp
    · intro h
      simp only [Prod.ext_iff]
      simp [h]
  rw [z30 e]
  unfold z5k
  rw [int_ne]
  refine z3c fun _ => ?_
  rw [int_ne]
  refine z3c fun _ => ?_
  rw [int_ne]
  refine z3c fun _ => ?_
  rw [zex _ _ ha.2.2.2.1, obind_some']
  refine z3c fun _ => ?_
  rw [zcd _ _ ha.2.2.2.2.1, obind_some']
  refine z3c fun _ => ?_
  rw [Tr_T]
theorem zbv (a b : List Moment) (ha : Sm (.sl TMoment) a) : z12 LP a b = some (Tr (a = b)) := by
  have hm := ha.1
  have hLP := LP_ge
  unfold z12 z12.e
  rw [int_ne]
  by_cases hlen : a.length = b.length
  rotate_left
  · rw [z1b (fun h => hlen (by omega)), z1b (fun h => hlen (by rw [h]))]
    rfl
  rw [z2j (by omega)]
  refine z6d hlen (fun k i => z12.l4 LP k a b i) (fun k => by
      simp only [z12.l4, z12.b4]
      rw [decide_eq_false (by omega)]
      rfl) (fun k i hi hj => by
      simp only [z12.l4, z12.b4]
      rw [decide_eq_true (by omega), cond_true, z2e hi, z2e hj, zc5 _ _ (ha.2 _ (List.getElem_mem hi)), obind_some', z2r (by omega) (by omega)]
      cases Tr (a[i] = b[i]) <;> rfl) LP (by omega)
theorem z9r (a b : World) (ha : Sm TWorld a) : z5r LP a b = some (Tr (a = b)) := by
  have e : (a = b) ↔ (a.1 = b.1 ∧ a.2.1 = b.2.1 ∧ a.2.2.1 = b.2.2.1 ∧ a.2.2.2.1 = b.2.2.2.1 ∧ a.2.2.2.2.1 = b.2.2.2.2.1 ∧ True) := by
    constructor
    · rintro rfl; simp
    · intro h
      simp only [Prod.ext_iff]
      simp [h]
  rw [z30 e]
  unfold z5r
  rw [ze0 _ _ ha.1, obind_some']
  refine z3c fun _ => ?_
  rw [zbg _ _ ha.2.1, obind_some']
  refine z3c fun _ => ?_
  rw [zch _ _ ha.2.2.1, obind_some']
  refine z3c fun _ => ?_
  rw [zbv _ _ ha.2.2.2.1, obind_some']
  refine z3c fun _ => ?_
  rw [int_ne]
  refine z3c fun _ => ?_
  rw [Tr_T]
theorem z9b (xs : List Int) (φ : (Int × Unit) → Option Bool) (P : Int → Prop) (hm : xs.length ≤ 1048576) (hφ : ∀ x ∈ xs, φ (x, ()) = some (Tr (P x))) :
    (∃ (j : Nat) (hj : j < xs.length), z0b LP xs φ = some (j : Int) ∧ P xs[j] ∧ ∀ (i : Nat) (hi : i < j), ¬ P (xs[i]'(by omega))) ∨ (z0b LP xs φ = some (-1) ∧ ∀ x ∈ xs, ¬ P x) := by
  have hLP := LP_ge
  have hl := z7s (fun k i => z0b.l2 LP k xs φ (xs.length : Int) i) xs.length (fun i => ∃ h : i < xs.length, P xs[i]) (fun i => (i : Int)) ()
    (fun k => by
      simp only [z0b.l2, z0b.b2]
      rw [decide_eq_false (by omega)]
      rfl)
    (fun k i hi => by
      simp only [z0b.l2, z0b.b2]
      rw [decide_eq_true (by omega), cond_true, z2e hi, hφ _ (List.getElem_mem hi), obind_some', z2r (by omega) (by omega), z30 (q := ∃ h : i < xs.length, P xs[i]) ⟨fun h => ⟨hi, h⟩, fun ⟨_, h⟩ => h⟩]
      rfl) LP 0 (Nat.zero_le _) (by omega)
  rcases hl with ⟨j, _, hj, ⟨_, hp⟩, hn, he⟩ | ⟨hn, he⟩
  · refine .inl ⟨j, hj, ?_, hp, fun i hi hP => hn i (Nat.zero_le _) hi ⟨by omega, hP⟩⟩
    show obind (z0b.l2 LP LP xs φ (xs.length : Int) 0) _ = _
    rw [show z0b.l2 LP LP xs φ (xs.length : Int) 0 = _ from he]
    rfl
  · refine .inr ⟨?_, fun x hx hP => ?_⟩
    · show obind (z0b.l2 LP LP xs φ (xs.length : Int) 0) _ = _
      rw [show z0b.l2 LP LP xs φ (xs.length : Int) 0 = _ from he]
      rfl
    · obtain ⟨j, hj, rfl⟩ := List.getElem_of_mem hx
      exact hn j (Nat.zero_le _) hj ⟨hj, hP⟩
theorem z8p (xs : List Int) (φ : (Int × Unit) → Option Bool) (P : Int → Prop) (hm : xs.length ≤ 1048576) (hφ : ∀ x ∈ xs, φ (x, ()) = some (Tr (P x))) :
    z2y LP xs φ = some (Tr (∃ x ∈ xs, P x)) := by
  unfold z2y
  rcases z9b xs φ P hm hφ with ⟨j, hj, he, hp, _⟩ | ⟨he, hn⟩
  · rw [he, obind_some', z2j ⟨_, List.getElem_mem hj, hp⟩, decide_eq_true (by omega)]
  · rw [he, obind_some', z1b (fun ⟨x, hx, hp⟩ => hn x hx hp)]
    rfl
theorem zav (xs : List Int) (φ : (Int × Unit) → Option Bool) (P : Int → Prop) (hm : xs.length ≤ 1048576) (hφ : ∀ x ∈ xs, φ (x, ()) = some (Tr (P x))) :
    z42 LP xs φ = some (Tr (∀ x ∈ xs, P x)) := by
  unfold z42
  rw [z8p xs _ (fun x => ¬ P x) hm (fun x hx => by
    show z3e x φ = _
    unfold z3e
    rw [hφ x hx, obind_some', Tr_not]), obind_some', Tr_not]
  rw [z30]
  constructor
  · intro h x hx
    exact Classical.byContradiction fun hn => h ⟨x, hx, hn⟩
  · rintro h ⟨x, hx, hn⟩
    exact hn (h x hx)
theorem z9l (xs : List Int) (φ : (Int × Unit) → Option Bool) (P : Int → Prop) (hm : xs.length ≤ 1048576) (hφ : ∀ x ∈ xs, φ (x, ()) = some (Tr (P x))) :
    (∃ (j : Nat) (hj : j < xs.length), z0i LP xs φ = some (j : Int) ∧ P xs[j] ∧ ∀ (i : Nat) (hi : i < j), ¬ P (xs[i]'(by omega))) ∨ (z0i LP xs φ = some (-1) ∧ ∀ x ∈ xs, ¬ P x) := by
  have hLP := LP_ge
  have hl := z7s (fun k i => z0i.l2 LP k xs φ (xs.length : Int) i) xs.length (fun i => ∃ h : i < xs.length, P xs[i]) (fun i => (i : Int)) ()
    (fun k => by
      simp only [z0i.l2, z0i.b2]
      rw [decide_eq_false (by omega)]
      rfl)
    (fun k i hi => by
      simp only [z0i.l2, z0i.b2]
      rw [decide_eq_true (by omega), cond_true, z2e hi, hφ _ (List.getElem_mem hi), obind_some', z2r (by omega) (by omega), z30 (q := ∃ h : i < xs.length, P xs[i]) ⟨fun h => ⟨hi, h⟩, fun ⟨_, h⟩ => h⟩]
      rfl) LP 0 (Nat.zero_le _) (by omega)
  rcases hl with ⟨j, _, hj, ⟨_, hp⟩, hn, he⟩ | ⟨hn, he⟩
  · refine .inl ⟨j, hj, ?_, hp, fun i hi hP => hn i (Nat.zero_le _) hi ⟨by omega, hP⟩⟩
    show obind (z0i.l2 LP LP xs φ (xs.length : Int) 0) _ = _
    rw [show z0i.l2 LP LP xs φ (xs.length : Int) 0 = _ from he]
    rfl
  · refine .inr ⟨?_, fun x hx hP => ?_⟩
    · show obind (z0i.l2 LP LP xs φ (xs.length : Int) 0) _ = _
      rw [show z0i.l2 LP LP xs φ (xs.length : Int) 0 = _ from he]
      rfl
    · obtain ⟨j, hj, rfl⟩ := List.getElem_of_mem hx
      exact hn j (Nat.zero_le _) hj ⟨hj, hP⟩
theorem z90 (xs : List Int) (φ : (Int × Unit) → Option Bool) (P : Int → Prop) (hm : xs.length ≤ 1048576) (hφ : ∀ x ∈ xs, φ (x, ()) = some (Tr (P x))) :
    z31 LP xs φ = some (Tr (∃ x ∈ xs, P x)) := by
  unfold z31
  rcases z9l xs φ P hm hφ with ⟨j, hj, he, hp, _⟩ | ⟨he, hn⟩
  · rw [he, obind_some', z2j ⟨_, List.getElem_mem hj, hp⟩, decide_eq_true (by omega)]
  · rw [he, obind_some', z1b (fun ⟨x, hx, hp⟩ => hn x hx hp)]
    rfl
theorem zaz (xs : List Int) (φ : (Int × Unit) → Option Bool) (P : Int → Prop) (hm : xs.length ≤ 1048576) (hφ : ∀ x ∈ xs, φ (x, ()) = some (Tr (P x))) :
    z3x LP xs φ = some (Tr (∀ x ∈ xs, P x)) := by
  unfold z3x
  rw [z90 xs _ (fun x => ¬ P x) hm (fun x hx => by
    show z3h x φ = _
    unfold z3h
    rw [hφ x hx, obind_some', Tr_not]), obind_some', Tr_not]
  rw [z30]
  constructor
  · intro h x hx
    exact Classical.byContradiction fun hn => h ⟨x, hx, hn⟩
  · rintro h ⟨x, hx, hn⟩
    exact hn (h x hx)
theorem z7z (xs : List Ref) (φ : (Ref × Unit) → Option Bool) (P : Ref → Prop) (hm : xs.length ≤ 1048576) (hφ : ∀ x ∈ xs, φ (x, ()) = some (Tr (P x))) :
    (∃ (j : Nat) (hj : j < xs.length), z0d LP xs φ = some (j : Int) ∧ P xs[j] ∧ ∀ (i : Nat) (hi : i < j), ¬ P (xs[i]'(by omega))) ∨ (z0d LP xs φ = some (-1) ∧ ∀ x ∈ xs, ¬ P x) := by
  have hLP := LP_ge
  have hl := z7s (fun k i => z0d.l2 LP k xs φ (xs.length : Int) i) xs.length (fun i => ∃ h : i < xs.length, P xs[i]) (fun i => (i : Int)) ()
    (fun k => by
      simp only [z0d.l2, z0d.b2]
      rw [decide_eq_false (by omega)]
      rfl)
    (fun k i hi => by
      simp only [z0d.l2, z0d.b2]
      rw [decide_eq_true (by omega), cond_true, z2e hi, hφ _ (List.getElem_mem hi), obind_some', z2r (by omega) (by omega), z30 (q := ∃ h : i < xs.length, P xs[i]) ⟨fun h => ⟨hi, h⟩, fun ⟨_, h⟩ => h⟩]
      rfl) LP 0 (Nat.zero_le _) (by omega)
  rcases hl with ⟨j, _, hj, ⟨_, hp⟩, hn, he⟩ | ⟨hn, he⟩
  · refine .inl ⟨j, hj, ?_, hp, fun i hi hP => hn i (Nat.zero_le _) hi ⟨by omega, hP⟩⟩
    show obind (z0d.l2 LP LP xs φ (xs.length : Int) 0) _ = _
    rw [show z0d.l2 LP LP xs φ (xs.length : Int) 0 = _ from he]
    rfl
  · refine .inr ⟨?_, fun x hx hP => ?_⟩
    · show obind (z0d.l2 LP LP xs φ (xs.length : Int) 0) _ = _
      rw [show z0d.l2 LP LP xs φ (xs.length : Int) 0 = _ from he]
      rfl
    · obtain ⟨j, hj, rfl⟩ := List.getElem_of_mem hx
      exact hn j (Nat.zero_le _) hj ⟨hj, hP⟩
theorem z8w (xs : List Ref) (φ : (Ref × Unit) → Option Bool) (P : Ref → Prop) (hm : xs.length ≤ 1048576) (hφ : ∀ x ∈ xs, φ (x, ()) = some (Tr (P x))) :
    z32 LP xs φ = some (Tr (∃ x ∈ xs, P x)) := by
  unfold z32
  rcases z7z xs φ P hm hφ with ⟨j, hj, he, hp, _⟩ | ⟨he, hn⟩
  · rw [he, obind_some', z2j ⟨_, List.getElem_mem hj, hp⟩, decide_eq_true (by omega)]
  · rw [he, obind_some', z1b (fun ⟨x, hx, hp⟩ => hn x hx hp)]
    rfl
theorem z8m (xs : List Ref) (φ : (Ref × Unit) → Option Bool) (P : Ref → Prop) (hm : xs.length ≤ 1048576) (hφ : ∀ x ∈ xs, φ (x, ()) = some (Tr (P x))) :
    z3o LP xs φ = some (Tr (∀ x ∈ xs, P x)) := by
  unfold z3o
  rw [z8w xs _ (fun x => ¬ P x) hm (fun x hx => by
    show z3k x φ = _
    unfold z3k
    rw [hφ x hx, obind_some', Tr_not]), obind_some', Tr_not]
  rw [z30]
  constructor
  · intro h x hx
    exact Classical.byContradiction fun hn => h ⟨x, hx, hn⟩
  · rintro h ⟨x, hx, hn⟩
    exact hn (h x hx)
theorem z9c (xs : List Wish) (φ : (Wish × Unit) → Option Bool) (P : Wish → Prop) (hm : xs.length ≤ 1048576) (hφ : ∀ x ∈ xs, φ (x, ()) = some (Tr (P x))) :
    (∃ (j : Nat) (hj : j < xs.length), z0c LP xs φ = some (j : Int) ∧ P xs[j] ∧ ∀ (i : Nat) (hi : i < j), ¬ P (xs[i]'(by omega))) ∨ (z0c LP xs φ = some (-1) ∧ ∀ x ∈ xs, ¬ P x) := by
  have hLP := LP_ge
  have hl := z7s (fun k i => z0c.l2 LP k xs φ (xs.length : Int) i) xs.length (fun i => ∃ h : i < xs.length, P xs[i]) (fun i => (i : Int)) ()
    (fun k => by
      simp only [z0c.l2, z0c.b2]
      rw [decide_eq_false (by omega)]
      rfl)
    (fun k i hi => by
      simp only [z0c.l2, z0c.b2]
      rw [decide_eq_true (by omega), cond_true, z2e hi, hφ _ (List.getElem_mem hi), obind_some', z2r (by omega) (by omega), z30 (q := ∃ h : i < xs.length, P xs[i]) ⟨fun h => ⟨hi, h⟩, fun ⟨_, h⟩ => h⟩]
      rfl) LP 0 (Nat.zero_le _) (by omega)
  rcases hl with ⟨j, _, hj, ⟨_, hp⟩, hn, he⟩ | ⟨hn, he⟩
  · refine .inl ⟨j, hj, ?_, hp, fun i hi hP => hn i (Nat.zero_le _) hi ⟨by omega, hP⟩⟩
    show obind (z0c.l2 LP LP xs φ (xs.length : Int) 0) _ = _
    rw [show z0c.l2 LP LP xs φ (xs.length : Int) 0 = _ from he]
    rfl
  · refine .inr ⟨?_, fun x hx hP => ?_⟩
    · show obind (z0c.l2 LP LP xs φ (xs.length : Int) 0) _ = _
      rw [show z0c.l2 LP LP xs φ (xs.length : Int) 0 = _ from he]
      rfl
    · obtain ⟨j, hj, rfl⟩ := List.getElem_of_mem hx
      exact hn j (Nat.zero_le _) hj ⟨hj, hP⟩
theorem z8q (xs : List Wish) (φ : (Wish × Unit) → Option Bool) (P : Wish → Prop) (hm : xs.length ≤ 1048576) (hφ : ∀ x ∈ xs, φ (x, ()) = some (Tr (P x))) :
    z2z LP xs φ = some (Tr (∃ x ∈ xs, P x)) := by
  unfold z2z
  rcases z9c xs φ P hm hφ with ⟨j, hj, he, hp, _⟩ | ⟨he, hn⟩
  · rw [he, obind_some', z2j ⟨_, List.getElem_mem hj, hp⟩, decide_eq_true (by omega)]
  · rw [he, obind_some', z1b (fun ⟨x, hx, hp⟩ => hn x hx hp)]
    rfl
theorem zat (xs : List Wish) (φ : (Wish × Unit) → Option Bool) (P : Wish → Prop) (hm : xs.length ≤ 1048576) (hφ : ∀ x ∈ xs, φ (x, ()) = some (Tr (P x))) :
    z3v LP xs φ = some (Tr (∀ x ∈ xs, P x)) := by
  unfold z3v
  rw [z8q xs _ (fun x => ¬ P x) hm (fun x hx => by
    show z3d x φ = _
    unfold z3d
    rw [hφ x hx, obind_some', Tr_not]), obind_some', Tr_not]
  rw [z30]
  constructor
  · intro h x hx
    exact Classical.byContradiction fun hn => h ⟨x, hx, hn⟩
  · rintro h ⟨x, hx, hn⟩
    exact hn (h x hx)
theorem z8u (xs : List Moment) (φ : (Moment × Unit) → Option Bool) (P : Moment → Prop) (hm : xs.length ≤ 1048576) (hφ : ∀ x ∈ xs, φ (x, ()) = some (Tr (P x))) :
    (∃ (j : Nat) (hj : j < xs.length), z03 LP xs φ = some (j : Int) ∧ P xs[j] ∧ ∀ (i : Nat) (hi : i < j), ¬ P (xs[i]'(by omega))) ∨ (z03 LP xs φ = some (-1) ∧ ∀ x ∈ xs, ¬ P x) := by
  have hLP := LP_ge
  have hl := z7s (fun k i => z03.l2 LP k xs φ (xs.length : Int) i) xs.length (fun i => ∃ h : i < xs.length, P xs[i]) (fun i => (i : Int)) ()
    (fun k => by
      simp only [z03.l2, z03.b2]
      rw [decide_eq_false (by omega)]
      rfl)
    (fun k i hi => by
      simp only [z03.l2, z03.b2]
      rw [decide_eq_true (by omega), cond_true, z2e hi, hφ _ (List.getElem_mem hi), obind_some', z2r (by omega) (by omega), z30 (q := ∃ h : i < xs.length, P xs[i]) ⟨fun h => ⟨hi, h⟩, fun ⟨_, h⟩ => h⟩]
      rfl) LP 0 (Nat.zero_le _) (by omega)
  rcases hl with ⟨j, _, hj, ⟨_, hp⟩, hn, he⟩ | ⟨hn, he⟩
  · refine .inl ⟨j, hj, ?_, hp, fun i hi hP => hn i (Nat.zero_le _) hi ⟨by omega, hP⟩⟩
    show obind (z03.l2 LP LP xs φ (xs.length : Int) 0) _ = _
    rw [show z03.l2 LP LP xs φ (xs.length : Int) 0 = _ from he]
    rfl
  · refine .inr ⟨?_, fun x hx hP => ?_⟩
    · show obind (z03.l2 LP LP xs φ (xs.length : Int) 0) _ = _
      rw [show z03.l2 LP LP xs φ (xs.length : Int) 0 = _ from he]
      rfl
    · obtain ⟨j, hj, rfl⟩ := List.getElem_of_mem hx
      exact hn j (Nat.zero_le _) hj ⟨hj, hP⟩
theorem z8d (xs : List Moment) (φ : (Moment × Unit) → Option Bool) (P : Moment → Prop) (hm : xs.length ≤ 1048576) (hφ : ∀ x ∈ xs, φ (x, ()) = some (Tr (P x))) :
    z2u LP xs φ = some (Tr (∃ x ∈ xs, P x)) := by
  unfold z2u
  rcases z8u xs φ P hm hφ with ⟨j, hj, he, hp, _⟩ | ⟨he, hn⟩
  · rw [he, obind_some', z2j ⟨_, List.getElem_mem hj, hp⟩, decide_eq_true (by omega)]
  · rw [he, obind_some', z1b (fun ⟨x, hx, hp⟩ => hn x hx hp)]
    rfl
theorem za9 (xs : List Moment) (φ : (Moment × Unit) → Option Bool) (P : Moment → Prop) (hm : xs.length ≤ 1048576) (hφ : ∀ x ∈ xs, φ (x, ()) = some (Tr (P x))) :
    z3f LP xs φ = some (Tr (∀ x ∈ xs, P x)) := by
  unfold z3f
  rw [z8d xs _ (fun x => ¬ P x) hm (fun x hx => by
    show z34 x φ = _
    unfold z34
    rw [hφ x hx, obind_some', Tr_not]), obind_some', Tr_not]
  rw [z30]
  constructor
  · intro h x hx
    exact Classical.byContradiction fun hn => h ⟨x, hx, hn⟩
  · rintro h ⟨x, hx, hn⟩
    exact hn (h x hx)
theorem z97 (xs : List Watch) (φ : (Watch × Unit) → Option Bool) (P : Watch → Prop) (hm : xs.length ≤ 1048576) (hφ : ∀ x ∈ xs, φ (x, ()) = some (Tr (P x))) :
    (∃ (j : Nat) (hj : j < xs.length), z08 LP xs φ = some (j : Int) ∧ P xs[j] ∧ ∀ (i : Nat) (hi : i < j), ¬ P (xs[i]'(by omega))) ∨ (z08 LP xs φ = some (-1) ∧ ∀ x ∈ xs, ¬ P x) := by
  have hLP := LP_ge
  have hl := z7s (fun k i => z08.l2 LP k xs φ (xs.length : Int) i) xs.length (fun i => ∃ h : i < xs.length, P xs[i]) (fun i => (i : Int)) ()
    (fun k => by
      simp only [z08.l2, z08.b2]
      rw [decide_eq_false (by omega)]
      rfl)
    (fun k i hi => by
      simp only [z08.l2, z08.b2]
      rw [decide_eq_true (by omega), cond_true, z2e hi, hφ _ (List.getElem_mem hi), obind_some', z2r (by omega) (by omega), z30 (q := ∃ h : i < xs.length, P xs[i]) ⟨fun h => ⟨hi, h⟩, fun ⟨_, h⟩ => h⟩]
      rfl) LP 0 (Nat.zero_le _) (by omega)
  rcases hl with ⟨j, _, hj, ⟨_, hp⟩, hn, he⟩ | ⟨hn, he⟩
  · refine .inl ⟨j, hj, ?_, hp, fun i hi hP => hn i (Nat.zero_le _) hi ⟨by omega, hP⟩⟩
    show obind (z08.l2 LP LP xs φ (xs.length : Int) 0) _ = _
    rw [show z08.l2 LP LP xs φ (xs.length : Int) 0 = _ from he]
    rfl
  · refine .inr ⟨?_, fun x hx hP => ?_⟩
    · show obind (z08.l2 LP LP xs φ (xs.length : Int) 0) _ = _
      rw [show z08.l2 LP LP xs φ (xs.length : Int) 0 = _ from he]
      rfl
    · obtain ⟨j, hj, rfl⟩ := List.getElem_of_mem hx
      exact hn j (Nat.zero_le _) hj ⟨hj, hP⟩
theorem z8g (xs : List Watch) (φ : (Watch × Unit) → Option Bool) (P : Watch → Prop) (hm : xs.length ≤ 1048576) (hφ : ∀ x ∈ xs, φ (x, ()) = some (Tr (P x))) :
    z2v LP xs φ = some (Tr (∃ x ∈ xs, P x)) := by
  unfold z2v
  rcases z97 xs φ P hm hφ with ⟨j, hj, he, hp, _⟩ | ⟨he, hn⟩
  · rw [he, obind_some', z2j ⟨_, List.getElem_mem hj, hp⟩, decide_eq_true (by omega)]
  · rw [he, obind_some', z1b (fun ⟨x, hx, hp⟩ => hn x hx hp)]
    rfl
theorem zai (xs : List Watch) (φ : (Watch × Unit) → Option Bool) (P : Watch → Prop) (hm : xs.length ≤ 1048576) (hφ : ∀ x ∈ xs, φ (x, ()) = some (Tr (P x))) :
    z3t LP xs φ = some (Tr (∀ x ∈ xs, P x)) := by
  unfold z3t
  rw [z8g xs _ (fun x => ¬ P x) hm (fun x hx => by
    show z3a x φ = _
    unfold z3a
    rw [hφ x hx, obind_some', Tr_not]), obind_some', Tr_not]
  rw [z30]
  constructor
  · intro h x hx
    exact Classical.byContradiction fun hn => h ⟨x, hx, hn⟩
  · rintro h ⟨x, hx, hn⟩
    exact hn (h x hx)
theorem z94 (xs : List Event) (φ : (Event × Unit) → Option Bool) (P : Event → Prop) (hm : xs.length ≤ 1048576) (hφ : ∀ x ∈ xs, φ (x, ()) = some (Tr (P x))) :
    (∃ (j : Nat) (hj : j < xs.length), z09 LP xs φ = some (j : Int) ∧ P xs[j] ∧ ∀ (i : Nat) (hi : i < j), ¬ P (xs[i]'(by omega))) ∨ (z09 LP xs φ = some (-1) ∧ ∀ x ∈ xs, ¬ P x) := by
  have hLP := LP_ge
  have hl := z7s (fun k i => z09.l2 LP k xs φ (xs.length : Int) i) xs.length (fun i => ∃ h : i < xs.length, P xs[i]) (fun i => (i : Int)) ()
    (fun k => by
      simp only [z09.l2, z09.b2]
      rw [decide_eq_false (by omega)]
      rfl)
    (fun k i hi => by
      simp only [z09.l2, z09.b2]
      rw [decide_eq_true (by omega), cond_true, z2e hi, hφ _ (List.getElem_mem hi), obind_some', z2r (by omega) (by omega), z30 (q := ∃ h : i < xs.length, P xs[i]) ⟨fun h => ⟨hi, h⟩, fun ⟨_, h⟩ => h⟩]
      rfl) LP 0 (Nat.zero_le _) (by omega)
  rcases hl with ⟨j, _, hj, ⟨_, hp⟩, hn, he⟩ | ⟨hn, he⟩
  · refine .inl ⟨j, hj, ?_, hp, fun i hi hP => hn i (Nat.zero_le _) hi ⟨by omega, hP⟩⟩
    show obind (z09.l2 LP LP xs φ (xs.length : Int) 0) _ = _
    rw [show z09.l2 LP LP xs φ (xs.length : Int) 0 = _ from he]
    rfl
  · refine .inr ⟨?_, fun x hx hP => ?_⟩
    · show obind (z09.l2 LP LP xs φ (xs.length : Int) 0) _ = _
      rw [show z09.l2 LP LP xs φ (xs.length : Int) 0 = _ from he]
      rfl
    · obtain ⟨j, hj, rfl⟩ := List.getElem_of_mem hx
      exact hn j (Nat.zero_le _) hj ⟨hj, hP⟩
theorem z8j (xs : List Event) (φ : (Event × Unit) → Option Bool) (P : Event → Prop) (hm : xs.length ≤ 1048576) (hφ : ∀ x ∈ xs, φ (x, ()) = some (Tr (P x))) :
    z2w LP xs φ = some (Tr (∃ x ∈ xs, P x)) := by
  unfold z2w
  rcases z94 xs φ P hm hφ with ⟨j, hj, he, hp, _⟩ | ⟨he, hn⟩
  · rw [he, obind_some', z2j ⟨_, List.getElem_mem hj, hp⟩, decide_eq_true (by omega)]
  · rw [he, obind_some', z1b (fun ⟨x, hx, hp⟩ => hn x hx hp)]
    rfl
theorem zaj (xs : List Event) (φ : (Event × Unit) → Option Bool) (P : Event → Prop) (hm : xs.length ≤ 1048576) (hφ : ∀ x ∈ xs, φ (x, ()) = some (Tr (P x))) :
    z3r LP xs φ = some (Tr (∀ x ∈ xs, P x)) := by
  unfold z3r
  rw [z8j xs _ (fun x => ¬ P x) hm (fun x hx => by
    show z38 x φ = _
    unfold z38
    rw [hφ x hx, obind_some', Tr_not]), obind_some', Tr_not]
  rw [z30]
  constructor
  · intro h x hx
    exact Classical.byContradiction fun hn => h ⟨x, hx, hn⟩
  · rintro h ⟨x, hx, hn⟩
    exact hn (h x hx)
-- EQUAL Entry Entry 4
-- EQUAL int Int 4
-- EQUAL Ref Ref 4
-- EQUAL Edit Edit 4
-- EQUAL Event Event 4
-- EQUAL string ByteArray 4
end Go.Vx

end
section
set_option linter.unusedVariables false
set_option linter.unusedSimpArgs false
namespace Go.Vx
open Go Go.Proofs Go.RowKit Go.Lib
def Inr (n lo hi : Int) : Prop := lo ≤ n ∧ n ≤ hi
def isLet (c : Int) : Prop := (97 ≤ c ∧ c ≤ 122) ∨ (65 ≤ c ∧ c ≤ 90) ∨ c = 95
def isDig (c : Int) : Prop := 48 ≤ c ∧ c ≤ 57
def NameP (s : ByteArray) : Prop := 1 ≤ s.size ∧ s.size ≤ 12 ∧ isLet (byteAt s 0) ∧ ∀ j : Nat, j < s.size → isLet (byteAt s (j : Int)) ∨ isDig (byteAt s (j : Int))
def ValP (n : Int) : Prop := Inr n (-1000000) 1000000
theorem z96 (a b c : Int) : cond (decide (b ≤ a)) (some (decide (a ≤ c))) (some false) = some (Tr (Inr a b c)) := by
  unfold Inr
  by_cases h : b ≤ a
  · rw [decide_eq_true h, cond_true, Tr_dec]
    rw [z30]
    exact ⟨fun q => ⟨h, q⟩, fun q => q.2⟩
  · rw [decide_eq_false h, cond_false, z1b (fun q => h q.1)]
theorem z4z (a b c : Int) : z1s a b c = some (Tr (Inr a b c)) := z96 a b c
theorem z4i (a b c : Int) : z2t a b c = some (Tr (Inr a b c)) := z96 a b c
theorem z8b (n : Int) : z43 n = some (Tr (ValP n)) := by
  unfold z43
  rw [z4i]
  rfl
theorem z3u {α : Type} {p : Prop} {x y z : α} (h1 : p → x = z) (h2 : ¬ p → y = z) : cond (Tr p) x y = z := by
  by_cases h : p
  · rw [z2j h]; exact h1 h
  · rw [z1b h]; exact h2 h
theorem z2s {α : Type} {p : Prop} {x y z : α} (h1 : ¬ p → x = z) (h2 : p → y = z) : cond (!Tr p) x y = z := by
  by_cases h : p
  · rw [z2j h]; exact h2 h
  · rw [z1b h]; exact h1 h
theorem z73 {p : Prop} (h : p) : some true = some (Tr p) := by rw [z2j h]
theorem z2c {p : Prop} (h : ¬ p) : some false = some (Tr p) := by rw [z1b h]
theorem z57 {p q : Prop} (h : p ↔ q) : some (Tr p) = some (Tr q) := by rw [z30 h]
theorem zah {p q : Prop} [Decidable p] (h : p ↔ q) : some (decide p) = some (Tr q) := by rw [Tr_dec, z30 h]
theorem zda (x0 : Int) : cond (decide (x0 ≥ (97:Int))) (cond (decide (x0 ≤ (122:Int))) (some true) (cond (decide (x0 ≥ (65:Int))) (cond (decide (x0 ≤ (90:Int))) (some true) (some (x0 == (95:Int)))) (some (x0 == (95:Int))))) (cond (decide (x0 ≥ (65:Int))) (cond (decide (x0 ≤ (90:Int))) (some true) (some (x0 == (95:Int)))) (some (x0 == (95:Int)))) = some (Tr (isLet x0)) := by
  have h95 : (x0 == (95:Int)) = Tr (x0 = 95) := Tr_eq (by simp)
  rw [h95]
  by_cases h1 : x0 ≥ 97 <;> by_cases h2 : x0 ≤ 122 <;> by_cases h3 : x0 ≥ 65 <;> by_cases h4 : x0 ≤ 90 <;> first | (exfalso; omega) | skip
  all_goals simp (disch := omega) only [decide_eq_true, decide_eq_false, cond_true, cond_false]
  all_goals first
    | exact z73 (by unfold isLet; omega)
    | exact z57 (by unfold isLet; omega)
theorem z92 (c : Int) : z4n c = some (Tr (isLet c)) := zda c
theorem z9f (c : Int) : z4m c = some (Tr (isLet c)) := zda c
theorem zc9 (c : Int) : z5s c = some (Tr (isDig c)) := z96 c 48 57
theorem zd8 (c : Int) : z6g c = some (Tr (isDig c)) := z96 c 48 57
theorem zfy {P Z : Prop} (r : Bool) (k : Option Bool) (h1 : P → k = some (Tr Z)) (h2 : ¬ P → r = false ∧ ¬ Z) : obind (some (cond (Tr P) (LE.brk ()) (LE.ret r))) (leF (fun z => some z) (fun _ => k)) = some (Tr Z) := by
  by_cases h : P
  · rw [z2j h]; exact h1 h
  · rw [z1b h, z1b (h2 h).2, (h2 h).1]; rfl

theorem z75 {β : Type} {P Z : Prop} {y : β} {q : Bool → Option Bool} {a : β → Option Bool} (hq : q false = some false) (h1 : P → a y = some (Tr Z)) (h2 : ¬ P → ¬ Z) : obind (some (cond (Tr P) (LE.brk y) (LE.ret false))) (leF q a) = some (Tr Z) := by
  by_cases h : P
  · rw [z2j h]; exact h1 h
  · rw [z1b h, z1b (h2 h)]; exact hq
theorem za2 (s : ByteArray) : (bytesOf s).length = s.size := by
  unfold bytesOf
  rw [List.length_map, Array.length_toList]
  rfl
theorem zcv (s : ByteArray) (j : Nat) (h : j < (bytesOf s).length) : (bytesOf s)[j] = byteAt s (j : Int) := by
  have hj : j < s.data.toList.length := by unfold bytesOf at h; simpa using h
  have h1 : (bytesOf s)[j]? = some (s.data.toList[j].toNat : Int) := by
    unfold bytesOf
    rw [List.getElem?_map, List.getElem?_eq_getElem hj]
    rfl
  rw [List.getElem?_eq_getElem h] at h1
  injection h1 with h1
  rw [h1]
  unfold byteAt
  rw [Int.toNat_natCast, List.getElem?_eq_getElem hj]
  rfl
theorem z7m (s : ByteArray) : z33 LP s = some (Tr (NameP s)) := by
  unfold z33
  rw [z4i, obind_some']
  refine z3u (fun h => ?_) (fun h => z2c (fun q => h ⟨by have := q.1; omega, by have := q.2.1; omega⟩))
  obtain ⟨h1, h2⟩ := h
  rw [decide_eq_true (by omega), oif_true, decide_eq_true (by omega), oif_true, z9f, obind_some']
  refine z3u (fun hl => ?_) (fun hl => z2c (fun q => hl q.2.2.1))
  rw [zav (bytesOf s) _ (fun c => isLet c ∨ isDig c) (by rw [za2]; omega) (fun c hc => by
    show z4q c = _
    unfold z4q
    rw [z9f, obind_some']
    refine z3u (fun q => z73 (.inl q)) (fun q => ?_)
    rw [zd8]
    exact z57 ⟨fun w => .inr w, fun w => w.elim (fun w => absurd w q) id⟩), obind_some']
  refine z57 ⟨fun q => ⟨by omega, by omega, hl, fun j hj => ?_⟩, fun q c hc => ?_⟩
  · have hj' : j < (bytesOf s).length := by rw [za2]; exact hj
    rw [← zcv s j hj']
    exact q _ (List.getElem_mem hj')
  · obtain ⟨j, hj, rfl⟩ := List.getElem_of_mem hc
    rw [zcv s j hj]
    exact q.2.2.2 j (by rw [za2] at hj; exact hj)
theorem z7i (s : ByteArray) : z0t LP s = some (Tr (NameP s)) := by
  have hLP := LP_ge
  unfold z0t z0t.e
  by_cases h1 : (s.size : Int) < 1
  · rw [decide_eq_true h1]
    exact z2c (fun q => by have := q.1; omega)
  rw [decide_eq_false h1, cond_false]
  by_cases h2 : (s.size : Int) > 12
  · rw [decide_eq_true h2]
    exact z2c (fun q => by have := q.2.1; omega)
  rw [decide_eq_false h2, cond_false, decide_eq_true (by omega), oif_true, decide_eq_true (by omega), oif_true, z92, obind_some']
  refine z2s (fun hl => z2c (fun q => hl q.2.2.1)) (fun hl => ?_)
  have hloop := z7d (fun k i => z0t.l4 LP k s i) s.size (fun i => isLet (byteAt s (i : Int)) ∨ isDig (byteAt s (i : Int))) false ()
    (fun k => by
      simp only [z0t.l4, z0t.b4]
      rw [decide_eq_false (by omega)]
      rfl) (fun k i hi => by
      simp only [z0t.l4, z0t.b4]
      simp (disch := omega) only [decide_eq_true, cond_true, oif_true, z92, zc9, obind_some', z2r]
      refine z2s (fun q => ?_) (fun q => ?_)
      · skip
        refine z2s (fun q2 => ?_) (fun q2 => ?_)
        · rw [z1b (fun w => w.elim q q2)]; rfl
        · rw [z2j (.inr q2)]; rfl
      · rw [z2j (.inl q)]; rfl) LP 1 (by omega) (by omega)
  show obind (z0t.l4 LP LP s 1) _ = _
  rw [show z0t.l4 LP LP s 1 = _ from hloop]
  refine zfy false _ (fun q => z73 ⟨by omega, by omega, hl, fun j hj => ?_⟩) (fun q => ⟨rfl, fun w => q (fun j _ hj => w.2.2.2 j hj)⟩)
  by_cases e : j = 0
  · subst e; exact .inl hl
  · exact q j (by omega) hj

def slt (a b : ByteArray) : Prop := a.data.toList < b.data.toList
theorem z7e (a : ByteArray) : ¬ slt a a := List.lt_irrefl _
theorem z7n {a b c : ByteArray} (h1 : slt a b) (h2 : slt b c) : slt a c := List.lt_trans h1 h2
theorem z9a (a b : ByteArray) : slt a b ∨ a = b ∨ slt b a := by
  by_cases h1 : slt a b
  · exact .inl h1
  · by_cases h2 : slt b a
    · exact .inr (.inr h2)
    · exact .inr (.inl (ba_ext (List.le_antisymm (List.not_lt.1 h2) (List.not_lt.1 h1))))
theorem ze5 {a b : ByteArray} (h : slt a b) : ¬ slt b a := fun h' => z7e a (z7n h h')
theorem zaa (a b : ByteArray) : Op.bytesLess a.toList b.toList = Tr (slt a b) := by
  rw [bytesLess_eq, Go.ByteArray.toList_eq, Go.ByteArray.toList_eq, Tr_dec]
  rfl
theorem seq_tr (a b : ByteArray) : (a.toList == b.toList) = Tr (a = b) := by
  refine Tr_eq ?_
  rw [beq_iff_eq, Go.ByteArray.toList_eq, Go.ByteArray.toList_eq]
  exact ⟨fun h => ba_ext h, fun h => by rw [h]⟩
theorem leq_tr (a b : ByteArray) : (Op.bytesLess a.toList b.toList || (a.toList == b.toList)) = Tr (¬ slt b a) := by
  rw [zaa, seq_tr, Tr_or, z30]
  constructor
  · rintro (h | rfl)
    · exact ze5 h
    · exact z7e _
  · intro h
    rcases z9a a b with h1 | h1 | h1
    · exact .inl h1
    · exact .inr h1
    · exact absurd h1 h
theorem ze1 (a b : ByteArray) : Lib.compareBytes a.data.toList b.data.toList < 0 ↔ slt a b := cmp_lt _ _
theorem zfv (a b : ByteArray) : Lib.compareBytes a.data.toList b.data.toList = 0 ↔ a = b := by
  rw [cmp_eq0]
  exact ⟨fun h => ba_ext h, fun h => by rw [h]⟩
theorem za4 (a b : ByteArray) : (a == b) = Tr (a = b) := Tr_eq (MapKept.bytes_beq a b)
theorem int_tr (a b : Int) : (a == b) = Tr (a = b) := Tr_eq (by simp)

def Rise {α : Type} (key : α → ByteArray) (m : List α) : Prop := m.Pairwise fun a b => slt (key a) (key b)
theorem zfl {α : Type} {key : α → ByteArray} {m : List α} : (∀ (i : Nat) (h : i + 1 < m.length), slt (key m[i]) (key m[i + 1])) ↔ Rise key m := by
  unfold Rise
  rw [List.pairwise_iff_getElem]
  constructor
  · intro h i j hi hj hij
    induction j with
    | zero => omega
    | succ j ih =>
      by_cases e : i = j
      · subst e; exact h i hj
      · exact z7n (ih (by omega) (by omega)) (h j hj)
  · intro h i hi
    exact h i (i + 1) (by omega) hi (by omega)
def KeyAt {α : Type} (key : α → ByteArray) (Q : α → Prop) (m : List α) (i : Nat) : Prop := ∃ h : i < m.length, Q m[i] ∧ ∀ h0 : 0 < i, slt (key (m[i - 1]'(by omega))) (key m[i])
theorem z9s {α : Type} {key : α → ByteArray} {Q : α → Prop} {m : List α} : (∀ j, 0 ≤ j → j < m.length → KeyAt key Q m j) ↔ (∀ e ∈ m, Q e) ∧ Rise key m := by
  rw [← zfl]
  constructor
  · intro h
    refine ⟨fun e he => ?_, fun i hi => ?_⟩
    · obtain ⟨i, hi, rfl⟩ := List.getElem_of_mem he
      exact (h i (Nat.zero_le _) hi).2.1
    · exact (h (i + 1) (Nat.zero_le _) hi).2.2 (by omega)
  · rintro ⟨h1, h2⟩ j _ hj
    refine ⟨hj, h1 _ (List.getElem_mem hj), fun h0 => ?_⟩
    obtain ⟨q, rfl⟩ : ∃ q, j = q + 1 := ⟨j - 1, by omega⟩
    exact h2 q hj
def EntryP (e : Entry) : Prop := NameP e.1 ∧ ValP e.2.1
def MapP (m : List Entry) : Prop := m.length ≤ 12 ∧ (∀ e ∈ m, EntryP e) ∧ Rise (fun e : Entry => e.1) m
theorem z8y (m : List Entry) (hm : m.length ≤ 1048576) : z2i LP m = some (Tr (MapP m)) := by
  have hLP := LP_ge
  have hloop := z7d (fun k i => z2i.l2 LP k m m (m.length : Int) i) m.length (KeyAt (fun e : Entry => e.1) EntryP m) false m
    (fun k => by
      simp only [z2i.l2, z2i.b2]
      rw [decide_eq_false (by omega)]
      rfl) (fun k i hi => by
      simp only [z2i.l2, z2i.b2]
      simp (disch := omega) only [decide_eq_true, cond_true, z2e hi, z7m, z8b, obind_some', z2r, zaa]
      refine z2s (fun q => ?_) (fun q1 => z2s (fun q => ?_) (fun q2 => ?_))
      · rw [z1b (fun w => q w.2.1.1)]; rfl
      · rw [z1b (fun w => q w.2.1.2)]; rfl
      · by_cases h0 : 0 < i
        · rw [decide_eq_true (by omega), cond_true, show (i : Int) - 1 = ((i - 1 : Nat) : Int) by omega, z2e (by omega)]
          refine z2s (fun q => ?_) (fun q3 => ?_)
          · rw [z1b (fun w => q (w.2.2 h0))]; rfl
          · rw [z2j ⟨hi, ⟨q1, q2⟩, fun _ => q3⟩]; rfl
        · rw [decide_eq_false (by omega), z2j ⟨hi, ⟨q1, q2⟩, fun h => absurd h h0⟩]; rfl) LP 0 (Nat.zero_le _) (by omega)
  show obind (z2i.l2 LP LP m m (m.length : Int) 0) _ = _
  rw [show z2i.l2 LP LP m m (m.length : Int) 0 = _ from hloop, z30 z9s]
  exact z75 rfl (fun q => zah ⟨fun w => ⟨by omega, q⟩, fun w => by have := w.1; omega⟩) (fun q w => q w.2)
theorem z8v (m : List Entry) (hm : m.length ≤ 1048576) : z24 LP m = some (Tr (MapP m)) := by
  have hLP := LP_ge
  have hloop := z7d (fun k i => z24.l4 LP k m i) m.length (KeyAt (fun e : Entry => e.1) EntryP m) false ()
    (fun k => by
      simp only [z24.l4, z24.b4]
      rw [decide_eq_false (by omega)]
      rfl) (fun k i hi => by
      simp only [z24.l4, z24.b4]
      simp (disch := omega) only [decide_eq_true, cond_true, z2e hi, z7i, z4z, obind_some', z2r, leq_tr]
      refine z2s (fun q => ?_) (fun q1 => z2s (fun q => ?_) (fun q2 => ?_))
      · rw [z1b (fun w => q w.2.1.1)]; rfl
      · rw [z1b (fun w => q w.2.1.2)]; rfl
      · by_cases h0 : 0 < i
        · rw [decide_eq_true (by omega), cond_true, show (i : Int) - 1 = ((i - 1 : Nat) : Int) by omega, z2e (by omega)]
          refine z3u (fun q => ?_) (fun q3 => ?_)
          · rw [z1b (fun w => q (w.2.2 h0))]; rfl
          · rw [z2j ⟨hi, ⟨q1, q2⟩, fun _ => Classical.not_not.1 q3⟩]; rfl
        · rw [decide_eq_false (by omega), z2j ⟨hi, ⟨q1, q2⟩, fun h => absurd h h0⟩]; rfl) LP 0 (Nat.zero_le _) (by omega)
  unfold z24 z24.e
  by_cases hl : (m.length : Int) > 12
  · rw [decide_eq_true hl]
    exact z2c (fun w => by have := w.1; omega)
  rw [decide_eq_false hl, cond_false]
  show obind (z24.l4 LP LP m 0) _ = _
  rw [show z24.l4 LP LP m 0 = _ from hloop, z30 z9s]
  exact z75 rfl (fun q => z73 ⟨by omega, q⟩) (fun q w => q w.2)
def EditP (e : Edit) : Prop := NameP e.1 ∧ ValP e.2.1 ∧ (e.2.2.1 = true → e.2.1 = 0)
def EditsP (m : List Edit) : Prop := m.length ≤ 6 ∧ (∀ e ∈ m, EditP e) ∧ Rise (fun e : Edit => e.1) m
theorem z88 (m : List Edit) (hm : m.length ≤ 1048576) : z1d LP m = some (Tr (EditsP m)) := by
  have hLP := LP_ge
  have hloop := z7d (fun k i => z1d.l2 LP k m m (m.length : Int) i) m.length (KeyAt (fun e : Edit => e.1) EditP m) false m
    (fun k => by
      simp only [z1d.l2, z1d.b2]
      rw [decide_eq_false (by omega)]
      rfl) (fun k i hi => by
      simp only [z1d.l2, z1d.b2]
      simp (disch := omega) only [decide_eq_true, cond_true, z2e hi, z7m, z8b, obind_some', z2r, zaa, int_ne]
      refine z2s (fun q => ?_) (fun q1 => z2s (fun q => ?_) (fun q2 => ?_))
      · rw [z1b (fun w => q w.2.1.1)]; rfl
      · rw [z1b (fun w => q w.2.1.2.1)]; rfl
      · have key : (m[i].2.2.1 = true → m[i].2.1 = 0) → (cond (decide ((i : Int) > 0)) (oget m ((i : Int) - 1) fun e5 => cond (!Tr (slt e5.1 m[i].1)) (some (LE.ret false)) (z1d.l2 LP k m m (m.length : Int) ((i : Int) + 1))) (z1d.l2 LP k m m (m.length : Int) ((i : Int) + 1))) = cond (Tr (KeyAt (fun e : Edit => e.1) EditP m i)) (z1d.l2 LP k m m (m.length : Int) ((i + 1 : Nat) : Int)) (some (LE.ret false)) := by
          intro q3
          by_cases h0 : 0 < i
          · rw [decide_eq_true (by omega), cond_true, show (i : Int) - 1 = ((i - 1 : Nat) : Int) by omega, z2e (by omega)]
            refine z2s (fun q => ?_) (fun q4 => ?_)
            · rw [z1b (fun w => q (w.2.2 h0))]; rfl
            · rw [z2j ⟨hi, ⟨q1, q2, q3⟩, fun _ => q4⟩]; rfl
          · rw [decide_eq_false (by omega), z2j ⟨hi, ⟨q1, q2, q3⟩, fun h => absurd h h0⟩]; rfl
        cases hg : m[i].2.2.1 with
        | true =>
          simp only [cond_true]
          refine z2s (fun q => ?_) (fun q3 => ?_)
          · rw [z1b (fun w => q (w.2.1.2.2 hg))]; rfl
          · exact key (fun _ => q3)
        | false => exact key (fun h => by rw [hg] at h; cases h)) LP 0 (Nat.zero_le _) (by omega)
  show obind (z1d.l2 LP LP m m (m.length : Int) 0) _ = _
  rw [show z1d.l2 LP LP m m (m.length : Int) 0 = _ from hloop, z30 z9s]
  exact z75 rfl (fun q => zah ⟨fun w => ⟨by omega, q⟩, fun w => by have := w.1; omega⟩) (fun q w => q w.2)
theorem z81 (m : List Edit) (hm : m.length ≤ 1048576) : z11 LP m = some (Tr (EditsP m)) := by
  have hLP := LP_ge
  have hloop := z7d (fun k i => z11.l4 LP k m i) m.length (KeyAt (fun e : Edit => e.1) EditP m) false ()
    (fun k => by
      simp only [z11.l4, z11.b4]
      rw [decide_eq_false (by omega)]
      rfl) (fun k i hi => by
      simp only [z11.l4, z11.b4]
      simp (disch := omega) only [decide_eq_true, cond_true, z2e hi, z7i, z4z, obind_some', z2r, leq_tr, int_ne]
      refine z2s (fun q => ?_) (fun q1 => z2s (fun q => ?_) (fun q2 => ?_))
      · rw [z1b (fun w => q w.2.1.1)]; rfl
      · rw [z1b (fun w => q w.2.1.2.1)]; rfl
      · have key : (m[i].2.2.1 = true → m[i].2.1 = 0) → (cond (decide ((i : Int) > 0)) (oget m ((i : Int) - 1) fun e5 => cond (Tr (¬ slt e5.1 m[i].1)) (some (LE.ret false)) (z11.l4 LP k m ((i : Int) + 1))) (z11.l4 LP k m ((i : Int) + 1))) = cond (Tr (KeyAt (fun e : Edit => e.1) EditP m i)) (z11.l4 LP k m ((i + 1 : Nat) : Int)) (some (LE.ret false)) := by
          intro q3
          by_cases h0 : 0 < i
          · rw [decide_eq_true (by omega), cond_true, show (i : Int) - 1 = ((i - 1 : Nat) : Int) by omega, z2e (by omega)]
            refine z3u (fun q => ?_) (fun q4 => ?_)
            · rw [z1b (fun w => q (w.2.2 h0))]; rfl
            · rw [z2j ⟨hi, ⟨q1, q2, q3⟩, fun _ => Classical.not_not.1 q4⟩]; rfl
          · rw [decide_eq_false (by omega), z2j ⟨hi, ⟨q1, q2, q3⟩, fun h => absurd h h0⟩]; rfl
        cases hg : m[i].2.2.1 with
        | true =>
          simp only [cond_true]
          refine z2s (fun q => ?_) (fun q3 => ?_)
          · rw [z1b (fun w => q (w.2.1.2.2 hg))]; rfl
          · exact key (fun _ => q3)
        | false => exact key (fun h => by rw [hg] at h; cases h)) LP 0 (Nat.zero_le _) (by omega)
  unfold z11 z11.e
  by_cases hl : (m.length : Int) > 6
  · rw [decide_eq_true hl]
    exact z2c (fun w => by have := w.1; omega)
  rw [decide_eq_false hl, cond_false]
  show obind (z11.l4 LP LP m 0) _ = _
  rw [show z11.l4 LP LP m 0 = _ from hloop, z30 z9s]
  exact z75 rfl (fun q => z73 ⟨by omega, q⟩) (fun q w => q w.2)
end Go.Vx

end
section
set_option linter.unusedVariables false
set_option linter.unusedSimpArgs false
namespace Go.Vx
open Go Go.Proofs Go.RowKit Go.Lib
def z99 (n : Nat) (c : Commit) : Prop := MapP c.2.1 ∧ c.1.length ≤ 2 ∧ (c.1.length = 0 ↔ n = 0) ∧ (∀ (h : c.1.length = 2), c.1[0]'(by omega) ≠ c.1[1]'(by omega)) ∧ ∀ p ∈ c.1, Inr p 1 n
def StoreP (s : List Commit) : Prop := 1 ≤ s.length ∧ s.length ≤ 60 ∧ ∀ (i : Nat) (h : i < s.length), z99 i s[i]
theorem bne_tr {p q : Prop} : (Tr p != Tr q) = Tr (¬ (p ↔ q)) := by
  by_cases hp : p <;> by_cases hq : q <;> simp [hp, hq, Tr_T, Tr_F]
theorem zar (c : Commit) (n : Nat) (hn : n ≤ 1048576) (hc : Sm TCommit c) : z41 LP c ((n : Int) + 1) = some (Tr (z99 n c)) := by
  have hl1 : c.1.length ≤ 1048576 := hc.1.1
  have hl2 : c.2.1.length ≤ 1048576 := hc.2.1.1
  unfold z41
  rw [z8y _ hl2, obind_some']
  refine z2s (fun q => z2c (fun w => q w.1)) (fun q1 => ?_)
  by_cases h2 : (c.1.length : Int) > 2
  · rw [decide_eq_true h2]
    exact z2c (fun w => by have := w.2.1; omega)
  rw [decide_eq_false h2, cond_false, int_tr, int_tr, bne_tr]
  refine z3u (fun q => z2c (fun w => q ⟨fun e => by have := w.2.2.1.1 (by omega); omega, fun e => by have := w.2.2.1.2 (by omega); omega⟩)) (fun q3 => ?_)
  have q3 : c.1.length = 0 ↔ n = 0 := by have := Classical.not_not.1 q3; omega
  have hall : z3x LP c.1 (fun w => z35 w.1 ((n : Int) + 1)) = some (Tr (∀ p ∈ c.1, Inr p 1 n)) :=
    zaz c.1 _ (fun p => Inr p 1 n) hl1 (fun p _ => by
      show z35 p ((n : Int) + 1) = _
      unfold z35
      rw [z4i, obind_some', z2r (by omega) (by omega), show (n : Int) + 1 - 1 = n by omega])
  rw [hall, int_tr]
  refine z3u (fun q => ?_) (fun q => ?_)
  · have hlen : c.1.length = 2 := by omega
    rw [show (0 : Int) = ((0 : Nat) : Int) from rfl, z2e (by omega), show (1 : Int) = ((1 : Nat) : Int) from rfl, z2e (by omega), int_tr]
    refine z3u (fun w => z2c (fun z => z.2.2.2.1 hlen w)) (fun w => ?_)
    exact z57 ⟨fun z => ⟨q1, by omega, q3, fun _ => w, z⟩, fun z => z.2.2.2.2⟩
  · exact z57 ⟨fun z => ⟨q1, by omega, q3, fun h => absurd h (by omega), z⟩, fun z => z.2.2.2.2⟩
theorem zbb (s : List Commit) (c : Commit) (hn : s.length ≤ 1048576) (hc : Sm TCommit c) : z0w LP s c = some (Tr (z99 s.length c)) := by
  have hLP := LP_ge
  have hl1 : c.1.length ≤ 1048576 := hc.1.1
  have hl2 : c.2.1.length ≤ 1048576 := hc.2.1.1
  unfold z0w z0w.e
  rw [z8v _ hl2, obind_some']
  refine z2s (fun q => z2c (fun w => q w.1)) (fun q1 => ?_)
  by_cases h2 : (c.1.length : Int) > 2
  · rw [decide_eq_true h2]
    exact z2c (fun w => by have := w.2.1; omega)
  rw [decide_eq_false h2, cond_false, int_tr, int_tr, bne_tr]
  refine z3u (fun q => z2c (fun w => q ⟨fun e => by have := w.2.2.1.1 (by omega); omega, fun e => by have := w.2.2.1.2 (by omega); omega⟩)) (fun q3 => ?_)
  have q3 : c.1.length = 0 ↔ s.length = 0 := by have := Classical.not_not.1 q3; omega
  have hloop := z7d (fun k i => z0w.l5 LP k s c.1 c.2.1 (c.1.length : Int) i) c.1.length (fun i => ∃ h : i < c.1.length, Inr c.1[i] 1 s.length ∧ (0 < i → c.1[i] ≠ c.1[0]'(by omega))) false ()
    (fun k => by
      simp only [z0w.l5, z0w.b5]
      rw [decide_eq_false (by omega)]
      rfl) (fun k i hi => by
      simp only [z0w.l5, z0w.b5]
      simp (disch := omega) only [decide_eq_true, cond_true, z2e hi, z4z, obind_some', z2r]
      refine z2s (fun q => ?_) (fun q2 => ?_)
      · rw [z1b (fun w => q w.2.1)]; rfl
      · by_cases h0 : 0 < i
        · rw [decide_eq_true (by omega), cond_true, show (0 : Int) = ((0 : Nat) : Int) from rfl, z2e (by omega), int_tr]
          refine z3u (fun q => ?_) (fun q3 => ?_)
          · rw [z1b (fun w => w.2.2 h0 q)]; rfl
          · rw [z2j ⟨hi, q2, fun _ => q3⟩]; rfl
        · rw [decide_eq_false (by omega), z2j ⟨hi, q2, fun h => absurd h h0⟩]; rfl) LP 0 (Nat.zero_le _) (by omega)
  show obind (z0w.l5 LP LP s c.1 c.2.1 (c.1.length : Int) 0) _ = _
  rw [show z0w.l5 LP LP s c.1 c.2.1 (c.1.length : Int) 0 = _ from hloop]
  refine z75 rfl (fun q => z73 ⟨q1, by omega, q3, fun h e => ?_, fun p hp => ?_⟩) (fun q w => q (fun j _ hj => ⟨hj, w.2.2.2.2 _ (List.getElem_mem hj), fun h0 e => ?_⟩))
  · obtain ⟨_, _, hh⟩ := q 1 (Nat.zero_le _) (by omega)
    exact hh (by omega) e.symm
  · obtain ⟨j, hj, rfl⟩ := List.getElem_of_mem hp
    exact (q j (Nat.zero_le _) hj).2.1
  · have hlen : c.1.length = 2 := by omega
    have hj1 : j = 1 := by omega
    subst hj1
    exact w.2.2.2.1 hlen e.symm
theorem zb6 (s : List Commit) (hs : Sm (.sl TCommit) s) : z0u LP s = some (Tr (s.length ≤ 60 ∧ ∀ (i : Nat) (h : i < s.length), z99 i s[i])) := by
  have hLP := LP_ge
  have hl : s.length ≤ 1048576 := hs.1
  have hloop := z7d (fun k i => z0u.l2 LP k s s (s.length : Int) i) s.length (fun i => ∃ h : i < s.length, z99 i s[i]) false s
    (fun k => by
      simp only [z0u.l2, z0u.b2]
      rw [decide_eq_false (by omega)]
      rfl) (fun k i hi => by
      simp only [z0u.l2, z0u.b2]
      simp (disch := omega) only [decide_eq_true, cond_true, z2e hi, z2r]
      rw [zar _ i (by omega) (hs.2 _ (List.getElem_mem hi)), obind_some']
      refine z2s (fun q => ?_) (fun q => ?_)
      · rw [z1b (fun w => q w.2)]; rfl
      · rw [z2j ⟨hi, q⟩]; rfl) LP 0 (Nat.zero_le _) (by omega)
  show obind (z0u.l2 LP LP s s (s.length : Int) 0) _ = _
  rw [show z0u.l2 LP LP s s (s.length : Int) 0 = _ from hloop]
  exact z75 rfl (fun q => zah ⟨fun w => ⟨by omega, fun i h => (q i (Nat.zero_le _) h).2⟩, fun w => by have := w.1; omega⟩) (fun q w => q (fun j _ hj => ⟨hj, w.2 j hj⟩))
theorem z9q (s : List Commit) (hs : Sm (.sl TCommit) s) : z4v LP s = some (Tr (StoreP s)) := by
  unfold z4v z3p
  by_cases h : (s.length : Int) > 0
  · rw [decide_eq_true h, cond_true, obind_some', Tr_dec, zb6 s hs]
    refine z3u (fun q => ?_) (fun q => z2c (fun w => q (by have := w.2.1; omega)))
    exact z57 ⟨fun w => ⟨by omega, w.1, w.2⟩, fun w => w.2⟩
  · rw [decide_eq_false h]
    exact z2c (fun w => by have := w.1; omega)
theorem zeo (s : List Commit) (hs : Sm (.sl TCommit) s) : z2n LP s = some (Tr (StoreP s)) := by
  have hLP := LP_ge
  have hl : s.length ≤ 1048576 := hs.1
  unfold z2n z2n.e
  rw [z4z, obind_some']
  refine z2s (fun q => z2c (fun w => q ⟨by have := w.1; omega, by have := w.2.1; omega⟩)) (fun q0 => ?_)
  have hloop := z7d (fun k i => z2n.l4 LP k s i) s.length (fun i => ∃ h : i < s.length, z99 i s[i]) false ()
    (fun k => by
      simp only [z2n.l4, z2n.b4]
      rw [decide_eq_false (by omega)]
      rfl) (fun k i hi => by
      simp only [z2n.l4, z2n.b4]
      simp (disch := omega) only [decide_eq_true, cond_true, z2e hi, oif_true, z2r, Int.toNat_natCast]
      have hlen : (s.take i).length = i := by rw [List.length_take]; omega
      rw [zbb _ _ (by omega) (hs.2 _ (List.getElem_mem hi)), obind_some', hlen]
      refine z2s (fun q => ?_) (fun q => ?_)
      · rw [z1b (fun w => q w.2)]; rfl
      · rw [z2j ⟨hi, q⟩]; rfl) LP 0 (Nat.zero_le _) (by omega)
  show obind (z2n.l4 LP LP s 0) _ = _
  rw [show z2n.l4 LP LP s 0 = _ from hloop]
  have h1 := q0.1
  have h2 := q0.2
  exact z75 rfl (fun q => z73 ⟨by omega, by omega, fun i h => (q i (Nat.zero_le _) h).2⟩) (fun q w => q (fun j _ hj => ⟨hj, w.2.2 j hj⟩))
end Go.Vx

end
section
set_option linter.unusedVariables false
set_option linter.unusedSimpArgs false
namespace Go.Vx
open Go Go.Proofs Go.RowKit Go.Lib
theorem zef {σ ρ β : Type} (l : Nat → Int → σ → Option (LE ρ β)) (I : Nat → σ → Prop) (res : Nat → σ → LE ρ β)
    (h0 : ∀ k s, I 0 s → l (k + 1) ((0 : Nat) : Int) s = some (res 0 s))
    (h1 : ∀ (k i : Nat) s, I (i + 1) s → (∀ s', I i s' → l k (i : Int) s' = some (res i s')) → l (k + 1) ((i + 1 : Nat) : Int) s = some (res (i + 1) s)) :
    ∀ (i k : Nat) (s : σ), i < k → I i s → l k (i : Int) s = some (res i s) := by
  intro i
  induction i with
  | zero => intro k s hk hI; obtain ⟨k, rfl⟩ : ∃ q, k = q + 1 := ⟨k - 1, by omega⟩; exact h0 k s hI
  | succ i ih => intro k s hk hI; obtain ⟨k, rfl⟩ : ∃ q, k = q + 1 := ⟨k - 1, by omega⟩; exact h1 k i s hI (fun s' hs' => ih k s' (by omega) hs')
def mark (b : List Bool) (ps : List Int) : List Bool := ps.foldl (fun b p => b.set p.toNat true) b
theorem z8e : ∀ (ps : List Int) (b : List Bool), (mark b ps).length = b.length
  | [], b => rfl
  | p :: ps, b => by
    show (mark (b.set p.toNat true) ps).length = _
    rw [z8e ps, List.length_set]
theorem z8a : ∀ (ps : List Int) (b : List Bool) (j : Nat), b[j]? = some true → (mark b ps)[j]? = some true
  | [], b, j, h => h
  | p :: ps, b, j, h => by
    refine z8a ps _ j ?_
    rw [List.getElem?_set]
    split
    · rename_i e
      subst e
      have := (List.getElem?_eq_some_iff.1 h).1
      simp [this]
    · exact h
theorem ze8 : ∀ (ps : List Int) (b : List Bool) (p : Int), p ∈ ps → p.toNat < b.length → (mark b ps)[p.toNat]? = some true
  | q :: ps, b, p, hp, hl => by
    show (mark (b.set q.toNat true) ps)[p.toNat]? = some true
    cases hp with
    | head => exact z8a ps _ _ (by rw [List.getElem?_set]; simp [hl])
    | tail _ hp => exact ze8 ps _ p hp (by rw [List.length_set]; exact hl)
def reachL (s : List Commit) : Nat → List Bool → List Bool
  | 0, b => b
  | i + 1, b => reachL s i (cond (b.getD (i + 1) false) (mark b (s.getD i ([], [], ())).1) b)
theorem ze9 (s : List Commit) : ∀ (i : Nat) (b : List Bool), (reachL s i b).length = b.length
  | 0, b => rfl
  | i + 1, b => by
    show (reachL s i _).length = _
    rw [ze9 s i]
    cases b.getD (i + 1) false
    · rfl
    · exact z8e _ _
theorem zbw (s : List Commit) (j : Nat) : ∀ (i : Nat) (b : List Bool), b[j]? = some true → (reachL s i b)[j]? = some true
  | 0, b, h => h
  | i + 1, b, h => by
    refine zbw s j i _ ?_
    cases b.getD (i + 1) false
    · exact h
    · exact z8a _ _ _ h
theorem z9t {s : List Commit} (hs : StoreP s) : ∀ (i : Nat) (b : List Bool), b.length = s.length + 1 → i ≤ s.length → (∃ j, 1 ≤ j ∧ j ≤ i ∧ b[j]? = some true) → (reachL s i b)[1]? = some true
  | 0, b, _, _, ⟨j, h1, h2, _⟩ => by omega
  | i + 1, b, hb, hi, ⟨j, h1, h2, h3⟩ => by
    show (reachL s i _)[1]? = some true
    have hil : i < s.length := by omega
    have hsi : s.getD i ([], [], ()) = s[i] := by rw [List.getD_eq_getElem?_getD, List.getElem?_eq_getElem hil]; rfl
    rw [hsi]
    by_cases hj : j = i + 1
    · subst hj
      have hg : b.getD (i + 1) false = true := by rw [List.getD_eq_getElem?_getD, h3]; rfl
      rw [hg]
      simp only [cond_true]
      by_cases h0 : i = 0
      · subst h0
        exact zbw s 1 0 _ (z8a _ _ _ h3)
      · obtain ⟨_, hp2, hp3, _, hp5⟩ := hs.2.2 i hil
        have hne : s[i].1 ≠ [] := fun e => h0 (hp3.1 (by rw [e]; rfl))
        obtain ⟨p, hp⟩ := List.exists_mem_of_ne_nil _ hne
        have hin := hp5 p hp
        refine z9t hs i _ (by rw [z8e]; exact hb) (by omega) ⟨p.toNat, by have := hin.1; omega, by have := hin.2; omega, ze8 _ _ p hp (by have := hin.2; omega)⟩
    · have h4 : ∃ j, 1 ≤ j ∧ j ≤ i ∧ b[j]? = some true := ⟨j, h1, by omega, h3⟩
      cases b.getD (i + 1) false
      · exact z9t hs i b hb (by omega) h4
      · obtain ⟨j, q1, q2, q3⟩ := h4
        exact z9t hs i _ (by simp only [cond_true]; rw [z8e]; exact hb) (by omega) ⟨j, q1, q2, z8a _ _ _ q3⟩
def reach (s : List Commit) (id : Nat) : List Bool := reachL s id ((List.replicate (s.length + 1) false).set id true)
theorem z8c (s : List Commit) (id : Nat) : (reach s id).length = s.length + 1 := by unfold reach; rw [ze9]; simp
theorem z7t {s : List Commit} (hs : StoreP s) {id : Nat} (h1 : 1 ≤ id) (h2 : id ≤ s.length) : (reach s id)[1]? = some true := by
  refine z9t hs id _ (by simp) h2 ⟨id, h1, Nat.le_refl _, ?_⟩
  rw [List.getElem?_set]
  simp
  omega
theorem z91 {s : List Commit} (hs : StoreP s) (hm : Sm (.sl TCommit) s) {id : Nat} (h2 : id ≤ s.length) : z07 LP s (id : Int) = some (reach s id) := by
  have hLP := LP_ge
  have hl : s.length ≤ 1048576 := hm.1
  have inner : ∀ (x6 : Int) (ps : List Int) (b : List Bool), ps.length ≤ 1048576 → b.length = s.length + 1 → (∀ p ∈ ps, Inr p 1 s.length) → z07.l8 LP LP s x6 ps (ps.length : Int) 0 b = some (LE.brk (s, x6, mark b ps)) := by
    intro x6 ps b hps hb hin
    have := z7g (fun k i b => z07.l8 LP k s x6 ps (ps.length : Int) i b) ps.length (fun _ b => b.length = s.length + 1) (fun i b => LE.brk (s, x6, mark b (ps.drop i)))
      (fun k b hb => by
        simp only [z07.l8, z07.b8]
        rw [decide_eq_false (by omega), List.drop_length]
        rfl)
      (fun k i b hi hb ih => by
        have hp := hin _ (List.getElem_mem hi)
        have hp1 := hp.1
        have hp2 := hp.2
        simp only [z07.l8, z07.b8]
        simp (disch := omega) only [decide_eq_true, cond_true, z2e hi, oif_true, z2r]
        rw [z7j (by omega) (by omega), z6t hi]
        exact ih _ (by rw [List.length_set]; exact hb)) LP 0 b (Nat.zero_le _) (by omega) hb
    simpa using this
  have outer := zef (fun k i b => z07.l4 LP k s i b) (fun i b => i ≤ s.length ∧ b.length = s.length + 1) (fun i b => LE.brk (reachL s i b))
    (fun k b hb => by
      simp only [z07.l4, z07.b4]
      rw [decide_eq_false (by omega)]
      rfl)
    (fun k i b ⟨hi, hb⟩ ih => by
      simp only [z07.l4, z07.b4]
      have hil : i < s.length := by omega
      have hsi : s.getD i ([], [], ()) = s[i] := by rw [List.getD_eq_getElem?_getD, List.getElem?_eq_getElem hil]; rfl
      have hgd : b.getD (i + 1) false = b[i + 1]'(by omega) := by rw [List.getD_eq_getElem?_getD, List.getElem?_eq_getElem (by omega)]; rfl
      simp (disch := omega) only [decide_eq_true, cond_true, oif_true, z2r, Int.toNat_natCast]
      rw [z2e (by omega), show ((i + 1 : Nat) : Int) - 1 = (i : Int) by omega]
      show cond (b[i + 1]'(by omega)) _ _ = some (LE.brk (reachL s i (cond (b.getD (i + 1) false) (mark b (s.getD i ([], [], ())).1) b)))
      rw [hgd, hsi]
      cases b[i + 1]'(by omega) with
      | false => exact ih b ⟨by omega, hb⟩
      | true =>
        simp only [cond_true]
        obtain ⟨_, hp2, hp3, _, hp5⟩ := hs.2.2 i hil
        rw [z2e hil, inner _ _ _ (by omega) hb (fun p hp => ⟨(hp5 p hp).1, by have := (hp5 p hp).2; omega⟩), obind_some', leF_brk]
        simp only [z07.a8]
        rw [z2r (by omega) (by omega), show ((i + 1 : Nat) : Int) - 1 = (i : Int) by omega]
        exact ih _ ⟨by omega, by rw [z8e]; exact hb⟩) id LP ((List.replicate (s.length + 1) false).set id true) (by omega) ⟨h2, by simp⟩
  unfold z07 z07.e
  simp (disch := omega) only [z2r, decide_eq_true, oif_true, List.length_replicate]
  rw [show ((s.length : Int) + 1).toNat = s.length + 1 by omega]
  rw [z7j (by omega) (by simp; omega), Int.toNat_natCast]
  rw [show z07.l4 LP LP s (id : Int) ((List.replicate (s.length + 1) false).set id true) = _ from outer]
  rfl
theorem z9g {s : List Commit} (hs : StoreP s) (hm : Sm (.sl TCommit) s) {id : Nat} (h2 : id ≤ s.length) : z0e LP s (id : Int) = some (reach s id) := by
  have hLP := LP_ge
  have hl : s.length ≤ 1048576 := hm.1
  have inner : ∀ (i : Nat) (hil : i < s.length) (b : List Bool), b.length = s.length + 1 → z0e.l8 LP LP s ((i + 1 : Nat) : Int) 0 b = some (LE.brk (s, ((i + 1 : Nat) : Int), mark b s[i].1)) := by
    intro i hil b hb
    obtain ⟨_, hp2, hp3, _, hp5⟩ := hs.2.2 i hil
    have := z7g (fun k q b => z0e.l8 LP k s ((i + 1 : Nat) : Int) q b) s[i].1.length (fun _ b => b.length = s.length + 1) (fun q b => LE.brk (s, ((i + 1 : Nat) : Int), mark b (s[i].1.drop q)))
      (fun k b hb => by
        simp only [z0e.l8, z0e.b8]
        rw [z2r (by omega) (by omega), show ((i + 1 : Nat) : Int) - 1 = (i : Int) by omega, z2e hil, decide_eq_false (by omega), List.drop_length]
        rfl)
      (fun k q b hq hb ih => by
        have hp := hp5 _ (List.getElem_mem hq)
        have hp1 := hp.1
        have hp2' := hp.2
        simp only [z0e.l8, z0e.b8]
        rw [z2r (x := ((i + 1 : Nat) : Int) - 1) (by omega) (by omega), show ((i + 1 : Nat) : Int) - 1 = (i : Int) by omega, z2e hil]
        simp (disch := omega) only [decide_eq_true, cond_true, z2e hil, z2e hq, oif_true, z2r]
        rw [z7j (by omega) (by omega), z6t hq]
        exact ih _ (by rw [List.length_set]; exact hb)) LP 0 b (Nat.zero_le _) (by omega) hb
    simpa using this
  have outer := zef (fun k i b => z0e.l4 LP k s i b) (fun i b => i ≤ s.length ∧ b.length = s.length + 1) (fun i b => LE.brk (reachL s i b))
    (fun k b hb => by
      simp only [z0e.l4, z0e.b4]
      rw [decide_eq_false (by omega)]
      rfl)
    (fun k i b ⟨hi, hb⟩ ih => by
      simp only [z0e.l4, z0e.b4]
      have hil : i < s.length := by omega
      have hsi : s.getD i ([], [], ()) = s[i] := by rw [List.getD_eq_getElem?_getD, List.getElem?_eq_getElem hil]; rfl
      have hgd : b.getD (i + 1) false = b[i + 1]'(by omega) := by rw [List.getD_eq_getElem?_getD, List.getElem?_eq_getElem (by omega)]; rfl
      simp (disch := omega) only [decide_eq_true, cond_true, oif_true, z2r, Int.toNat_natCast]
      rw [z2e (by omega), show ((i + 1 : Nat) : Int) - 1 = (i : Int) by omega]
      show cond (!(b[i + 1]'(by omega))) _ _ = some (LE.brk (reachL s i (cond (b.getD (i + 1) false) (mark b (s.getD i ([], [], ())).1) b)))
      rw [hgd, hsi]
      cases b[i + 1]'(by omega) with
      | false => exact ih b ⟨by omega, hb⟩
      | true =>
        simp only [Bool.not_true, cond_false, cond_true]
        rw [inner i hil b hb, obind_some', leF_brk]
        simp only [z0e.a8]
        rw [z2r (by omega) (by omega), show ((i + 1 : Nat) : Int) - 1 = (i : Int) by omega]
        exact ih _ ⟨by omega, by rw [z8e]; exact hb⟩) id LP ((List.replicate (s.length + 1) false).set id true) (by omega) ⟨h2, by simp⟩
  unfold z0e z0e.e
  simp (disch := omega) only [z2r, decide_eq_true, oif_true, List.length_replicate]
  rw [show ((s.length : Int) + 1).toNat = s.length + 1 by omega]
  rw [z7j (by omega) (by simp; omega), Int.toNat_natCast]
  rw [show z0e.l4 LP LP s (id : Int) ((List.replicate (s.length + 1) false).set id true) = _ from outer]
  rfl

def bothAt (x y : List Bool) : Nat → Nat
  | 0 => 0
  | i + 1 => cond (x.getD (i + 1) false && y.getD (i + 1) false) (i + 1) (bothAt x y i)
theorem zf6 {x y : List Bool} (hx : x[1]? = some true) (hy : y[1]? = some true) : ∀ i, 1 ≤ i → 1 ≤ bothAt x y i ∧ bothAt x y i ≤ i
  | i + 1, _ => by
    unfold bothAt
    cases h : x.getD (i + 1) false && y.getD (i + 1) false with
    | true => simp
    | false =>
      simp only [cond_false]
      by_cases h0 : i = 0
      · subst h0
        rw [List.getD_eq_getElem?_getD, List.getD_eq_getElem?_getD, hx, hy] at h
        cases h
      · have := zf6 hx hy i (by omega)
        omega
def base (s : List Commit) (a b : Nat) : Nat := bothAt (reach s a) (reach s b) (min a b)
theorem zfx {s : List Commit} (hs : StoreP s) {a b : Nat} (ha1 : 1 ≤ a) (ha2 : a ≤ s.length) (hb1 : 1 ≤ b) (hb2 : b ≤ s.length) : 1 ≤ base s a b ∧ base s a b ≤ min a b :=
  zf6 (z7t hs ha1 ha2) (z7t hs hb1 hb2) _ (by omega)
theorem zea {x y : List Bool} {L : Nat} (hL : L ≤ 1048577) (hxl : x.length = L) (hyl : y.length = L) (hx : x[1]? = some true) (hy : y[1]? = some true) (l : Nat → Int → Option (LE Empty Int))
    (h : ∀ k (i : Int), l (k + 1) i = oget x i fun e3 => cond (!e3) (l k (IntKind.i64.wrap (i - 1))) (oget y i fun e4 => cond (!e4) (l k (IntKind.i64.wrap (i - 1))) (some (.brk i)))) :
    ∀ (i k : Nat), i < L → 1 ≤ i → i ≤ k → l k (i : Int) = some (.brk ((bothAt x y i : Nat) : Int)) := by
  intro i
  induction i with
  | zero => intro k _ h1; omega
  | succ i ih =>
    intro k hi h1 hk
    obtain ⟨k, rfl⟩ : ∃ q, k = q + 1 := ⟨k - 1, by omega⟩
    rw [h, z2e (by omega)]
    have gx : x.getD (i + 1) false = x[i + 1]'(by omega) := by rw [List.getD_eq_getElem?_getD, List.getElem?_eq_getElem (by omega)]; rfl
    have gy : y.getD (i + 1) false = y[i + 1]'(by omega) := by rw [List.getD_eq_getElem?_getD, List.getElem?_eq_getElem (by omega)]; rfl
    unfold bothAt
    rw [gx, gy, z2r (by omega) (by omega), show ((i + 1 : Nat) : Int) - 1 = (i : Int) by omega]
    have low : ∀ (hc : (x.getD (i + 1) false && y.getD (i + 1) false) = false), 1 ≤ i := by
      intro hc
      by_cases h0 : i = 0
      · subst h0
        rw [List.getD_eq_getElem?_getD, List.getD_eq_getElem?_getD, hx, hy] at hc
        cases hc
      · omega
    rw [gx, gy] at low
    cases hxx : x[i + 1]'(by omega) with
    | false =>
      rw [hxx] at low
      exact ih k (by omega) (low rfl) (by omega)
    | true =>
      simp only [Bool.not_true, cond_false, Bool.true_and]
      rw [z2e (by omega)]
      cases hyy : y[i + 1]'(by omega) with
      | false =>
        rw [hxx, hyy] at low
        exact ih k (by omega) (low rfl) (by omega)
      | true => rfl
theorem zf5 (a b : Nat) : (cond (decide ((b : Int) < (a : Int))) (b : Int) (a : Int)) = ((min a b : Nat) : Int) := by
  by_cases h : b < a
  · rw [decide_eq_true (by omega), Nat.min_eq_right (by omega)]; rfl
  · rw [decide_eq_false (by omega), Nat.min_eq_left (by omega)]; rfl
theorem zcy {s : List Commit} (hs : StoreP s) (hm : Sm (.sl TCommit) s) {a b : Nat} (ha1 : 1 ≤ a) (ha2 : a ≤ s.length) (hb1 : 1 ≤ b) (hb2 : b ≤ s.length) : z2g LP s (a : Int) (b : Int) = some ((base s a b : Nat) : Int) := by
  have hLP := LP_ge
  have hl : s.length ≤ 1048576 := hm.1
  unfold z2g z2g.e
  rw [z9g hs hm ha2, obind_some', z9g hs hm hb2, obind_some', zf5]
  have := zea (L := s.length + 1) (by omega) (z8c s a) (z8c s b) (z7t hs ha1 ha2) (z7t hs hb1 hb2) (fun k i => z2g.l4 LP k (reach s a) (reach s b) i) (fun k i => rfl) (min a b) LP (by omega) (by omega) (by omega)
  show obind (z2g.l4 LP LP (reach s a) (reach s b) ((min a b : Nat) : Int)) _ = _
  rw [show z2g.l4 LP LP (reach s a) (reach s b) ((min a b : Nat) : Int) = _ from this]
  rfl
theorem za6 {s : List Commit} (hs : StoreP s) (hm : Sm (.sl TCommit) s) {a b : Nat} (ha1 : 1 ≤ a) (ha2 : a ≤ s.length) (hb1 : 1 ≤ b) (hb2 : b ≤ s.length) : z2q LP s (a : Int) (b : Int) = some ((base s a b : Nat) : Int) := by
  have hLP := LP_ge
  have hl : s.length ≤ 1048576 := hm.1
  unfold z2q z2q.e
  rw [z91 hs hm ha2, obind_some', z91 hs hm hb2, obind_some', zf5]
  have := zea (L := s.length + 1) (by omega) (z8c s a) (z8c s b) (z7t hs ha1 ha2) (z7t hs hb1 hb2) (fun k i => z2q.l3 LP k (reach s a) (reach s b) i) (fun k i => rfl) (min a b) LP (by omega) (by omega) (by omega)
  show obind (z2q.l3 LP LP (reach s a) (reach s b) ((min a b : Nat) : Int)) _ = _
  rw [show z2q.l3 LP LP (reach s a) (reach s b) ((min a b : Nat) : Int) = _ from this]
  rfl
end Go.Vx

end
section
set_option linter.unusedVariables false
set_option linter.unusedSimpArgs false
namespace Go.Vx
open Go Go.Proofs Go.RowKit Go.Lib
noncomputable def ne (k : ByteArray) (e : Entry) : Bool := !Tr (e.1 = k)
noncomputable def remL (m : List Entry) (k : ByteArray) : List Entry := m.filter (ne k)
noncomputable def putL (k : ByteArray) (v : Int) : List Entry → List Entry
  | [] => [(k, v, ())]
  | e :: r => cond (Tr (slt e.1 k)) (e :: putL k v r) ((k, v, ()) :: (e :: r).filter (ne k))
noncomputable def stepE (m : List Entry) (e : Edit) : List Entry := cond e.2.2.1 (remL m e.1) (putL e.1 e.2.1 m)
noncomputable def applyL (m : List Entry) (es : List Edit) : List Entry := es.foldl stepE m
theorem app1 {α : Type} {s : List α} {x : α} {b : Nat} (h : s.length ≤ 4000000) (hb : b ≤ 64) : (s.length + [x].length) * b ≤ 140737488355328 := by
  rw [List.length_singleton]
  have := Nat.mul_le_mul (show s.length + 1 ≤ 4000001 by omega) hb
  omega
theorem app2 {α : Type} {s : List α} {x y : α} {b : Nat} (h : s.length ≤ 4000000) (hb : b ≤ 64) : ((s ++ [y]).length + [x].length) * b ≤ 140737488355328 := by
  rw [List.length_singleton, List.length_append, List.length_singleton]
  have := Nat.mul_le_mul (show s.length + 1 + 1 ≤ 4000002 by omega) hb
  omega
theorem filter_cons' {α : Type} (p : α → Bool) (x : α) (l : List α) : (x :: l).filter p = cond (p x) (x :: l.filter p) (l.filter p) := by
  rw [List.filter_cons]
  cases p x <;> rfl
theorem zak (k : ByteArray) (v : Int) : ∀ m : List Entry, (putL k v m).length ≤ m.length + 1
  | [] => by simp [putL]
  | e :: r => by
    unfold putL
    have ih := zak k v r
    cases Tr (slt e.1 k) with
    | true => simp only [cond_true, List.length_cons]; omega
    | false =>
      simp only [cond_false, List.length_cons]
      have := List.length_filter_le (ne k) (e :: r)
      rw [List.length_cons] at this
      omega
theorem zer (m : List Entry) (k : ByteArray) : (remL m k).length ≤ m.length := List.length_filter_le _ _
theorem zfk (m : List Entry) (e : Edit) : (stepE m e).length ≤ m.length + 1 := by
  unfold stepE
  cases e.2.2.1 with
  | true => have := zer m e.1; simp only [cond_true]; omega
  | false => exact zak _ _ _
theorem zbi (m : List Entry) (k : ByteArray) (hm : m.length ≤ 1048576) : z1m LP m k = some (remL m k) := by
  have hLP := LP_ge
  have := z7g (fun q i s => z1m.l3 LP q m k i s) m.length (fun i s => s.length ≤ i) (fun i s => LE.brk (s ++ (m.drop i).filter (ne k)))
    (fun q s hs => by
      simp only [z1m.l3, z1m.b3]
      rw [decide_eq_false (by omega), List.drop_length]
      simp)
    (fun q i s hi hs ih => by
      simp only [z1m.l3, z1m.b3]
      have hb : (s.length + [m[i]].length) * 24 ≤ 140737488355328 := by rw [List.length_singleton]; omega
      have hw : IntKind.i64.wrap ((i : Int) + 1) = ((i + 1 : Nat) : Int) := z2r (by omega) (by omega)
      simp only [decide_eq_true (show (i : Int) < (m.length : Int) by omega), cond_true, z2e hi, hw, seq_tr, decide_eq_true hb, oif_true]
      rw [z6t hi, filter_cons']
      unfold ne
      cases h : Tr (m[i].1 = k) with
      | true =>
        simp only [Bool.not_true, cond_false]
        exact ih s (by omega)
      | false =>
        simp only [Bool.not_false, cond_true]
        refine Eq.trans (ih _ (by simp; omega)) ?_
        rw [List.append_assoc]
        rfl) LP 0 [] (Nat.zero_le _) (by omega) (by simp)
  show obind (z1m.l3 LP LP m k 0 []) _ = _
  rw [show z1m.l3 LP LP m k 0 [] = _ from this]
  rfl
noncomputable def putR (k : ByteArray) (v : Int) : Bool → List Entry → List Entry → Bool × List Entry
  | true, s, r => (true, s ++ r.filter (ne k))
  | false, s, [] => (false, s)
  | false, s, e :: r => cond (Tr (slt e.1 k)) (putR k v false (s ++ [e]) r) (true, s ++ (k, v, ()) :: (e :: r).filter (ne k))
theorem zey (k : ByteArray) (v : Int) : ∀ (r s : List Entry), cond (!(putR k v false s r).1) ((putR k v false s r).2 ++ [(k, v, ())]) (putR k v false s r).2 = s ++ putL k v r
  | [], s => rfl
  | e :: r, s => by
    unfold putR putL
    cases h : Tr (slt e.1 k) with
    | true =>
      simp only [cond_true]
      rw [zey k v r (s ++ [e]), List.append_assoc]
      rfl
    | false => rfl
theorem z85 (k : ByteArray) (v : Int) (s r : List Entry) : putR k v true s r = (true, s ++ r.filter (ne k)) := by cases r <;> rfl
theorem zdm (m : List Entry) (k : ByteArray) (v : Int) (hm : m.length ≤ 1048576) : z2p LP m k v = some (putL k v m) := by
  have hLP := LP_ge
  have := z7g (fun q i (s : Bool × List Entry) => z2p.l4 LP q m k v s.1 i s.2) m.length (fun i s => s.2.length ≤ 2 * i) (fun i s => LE.brk (k, v, putR k v s.1 s.2 (m.drop i)))
    (fun q s hs => by
      simp only [z2p.l4, z2p.b4]
      rw [decide_eq_false (by omega), List.drop_length]
      obtain ⟨d, s⟩ := s
      cases d with
      | true => simp [z85]
      | false => rfl)
    (fun q i s hi hs ih => by
      obtain ⟨d, s⟩ := s
      have hs : s.length ≤ 2 * i := hs
      have hw : IntKind.i64.wrap ((i : Int) + 1) = ((i + 1 : Nat) : Int) := z2r (by omega) (by omega)
      have hlt : (i : Int) < (m.length : Int) := by omega
      have hsl : s.length ≤ 4000000 := by omega
      have hb := app1 (x := m[i]) (b := 24) hsl (by decide)
      have hb1 := app1 (x := ((k, v, ()) : Entry)) (b := 24) hsl (by decide)
      have hb2 := app2 (x := m[i]) (y := ((k, v, ()) : Entry)) (b := 24) hsl (by decide)
      simp only [z2p.l4, z2p.b4]
      simp only [decide_eq_true hlt, cond_true, z2e hi, hw, seq_tr, zaa, decide_eq_true hb, decide_eq_true hb1, decide_eq_true hb2, oif_true]
      rw [z6t hi]
      cases d with
      | true =>
        rw [z85, filter_cons']
        simp only [Bool.not_true, cond_false]
        unfold ne
        cases h : Tr (m[i].1 = k) with
        | true =>
          simp only [Bool.not_true, cond_false]
          refine Eq.trans (ih (true, s) (by show s.length ≤ _; omega)) ?_
          rw [z85]; rfl
        | false =>
          simp only [Bool.not_false, cond_true]
          refine Eq.trans (ih (true, s ++ [m[i]]) (by show (s ++ [m[i]]).length ≤ _; simp; omega)) ?_
          rw [z85, List.append_assoc]; rfl
      | false =>
        simp only [Bool.not_false, cond_true]
        unfold putR
        rw [filter_cons']
        unfold ne
        cases h : Tr (slt m[i].1 k) with
        | true =>
          have hne : Tr (m[i].1 = k) = false := z1b (fun e => z7e k (by have := Tr_iff.1 h; rwa [e] at this))
          simp only [Bool.not_true, cond_false, hne, Bool.not_false, cond_true]
          exact ih (false, s ++ [m[i]]) (by show (s ++ [m[i]]).length ≤ _; simp; omega)
        | false =>
          simp only [Bool.not_false, cond_true, cond_false]
          cases h2 : Tr (m[i].1 = k) with
          | true =>
            simp only [Bool.not_true, cond_false]
            refine Eq.trans (ih (true, s ++ [(k, v, ())]) (by show (s ++ [(k, v, ())]).length ≤ _; simp; omega)) ?_
            rw [z85, List.append_assoc]; rfl
          | false =>
            simp only [Bool.not_false, cond_true]
            refine Eq.trans (ih (true, s ++ [(k, v, ())] ++ [m[i]]) (by show (s ++ [(k, v, ())] ++ [m[i]]).length ≤ _; simp; omega)) ?_
            rw [z85, List.append_assoc, List.append_assoc]; rfl) LP 0 (false, []) (Nat.zero_le _) (by omega) (by simp)
  show obind (z2p.l4 LP LP m k v false 0 []) _ = _
  rw [show z2p.l4 LP LP m k v false 0 [] = _ from this, obind_some', leF_brk, List.drop_zero]
  have hf := zey k v m []
  rw [List.nil_append] at hf
  rw [← hf]
  have hlen : (putR k v false [] m).1 = false → (putR k v false [] m).2.length ≤ 1048576 := by
    intro h
    have := zak k v m
    rw [← hf, h] at this
    simp at this
    omega
  unfold z2p.a4
  simp only
  cases h : (putR k v false [] m).1 with
  | true => rfl
  | false =>
    have := hlen h
    simp only [Bool.not_false, cond_true]
    rw [decide_eq_true (by rw [List.length_singleton]; omega)]
    rfl
theorem z9h (m : List Entry) (es : List Edit) (hm : m.length ≤ 500000) (he : es.length ≤ 500000) : z1o LP m es = some (applyL m es) := by
  have hLP := LP_ge
  have := z7g (fun q i s => z1o.l3 LP q s es i) es.length (fun i s => s.length ≤ m.length + i) (fun i s => LE.brk (applyL s (es.drop i)))
    (fun q s hs => by
      simp only [z1o.l3, z1o.b3]
      rw [decide_eq_false (by omega), List.drop_length]
      rfl)
    (fun q i s hi hs ih => by
      simp only [z1o.l3, z1o.b3]
      simp (disch := omega) only [decide_eq_true, cond_true, z2e hi, z2r]
      rw [zbi _ _ (by omega), zdm _ _ _ (by omega), z6t hi]
      show _ = some (LE.brk (applyL (stepE s es[i]) (es.drop (i + 1))))
      unfold stepE
      cases h : es[i].2.2.1 with
      | true =>
        simp only [cond_true, obind_some']
        exact ih _ (by have := zer s es[i].1; omega)
      | false =>
        simp only [cond_false, obind_some']
        exact ih _ (by have := zak es[i].1 es[i].2.1 s; omega)) LP 0 m (Nat.zero_le _) (by omega) (by simp)
  unfold z1o z1o.e
  rw [decide_eq_true (by simp; omega), oif_true, List.nil_append]
  show obind (z1o.l3 LP LP m es 0) _ = _
  rw [show z1o.l3 LP LP m es 0 = _ from this]
  rfl
end Go.Vx

end
section
set_option linter.unusedVariables false
set_option linter.unusedSimpArgs false
namespace Go.Vx
open Go Go.Proofs Go.RowKit Go.Lib
abbrev RiseE (m : List Entry) : Prop := Rise (fun e : Entry => e.1) m
structure Part (m : List Entry) (k : ByteArray) (p : Nat) : Prop where
  le : p ≤ m.length
  lo : ∀ (i : Nat) (h : i < m.length), i < p → slt m[i].1 k
  hi : ∀ (i : Nat) (h : i < m.length), p ≤ i → ¬ slt m[i].1 k
theorem z8f {m : List Entry} (hr : RiseE m) {i j : Nat} (hi : i < m.length) (hj : j < m.length) (h : i < j) : slt m[i].1 m[j].1 := List.pairwise_iff_getElem.1 hr i j hi hj h
theorem half (a b : Nat) (h : a + b ≤ 9223372036854775807) : IntKind.i64.wrap ((IntKind.u64.wrap (IntKind.i64.wrap ((a : Int) + (b : Int)))).fdiv (2 ^ min (1:Int).toNat (IntKind.u64).bits)) = (((a + b) / 2 : Nat) : Int) := by
  rw [z2r (x := (a : Int) + b) (by omega) (by omega)]
  have h2 : IntKind.u64.wrap ((a : Int) + b) = (a : Int) + b := by
    rw [IntKind.wrap_u64]
    omega
  have h3 : (2 ^ min (1:Int).toNat (IntKind.u64).bits : Int) = 2 := by decide
  rw [h2, h3]
  have h4 : ((a : Int) + (b : Int)).fdiv 2 = (((a + b) / 2 : Nat) : Int) := by
    rw [Int.fdiv_eq_ediv_of_nonneg _ (by omega)]
    omega
  rw [h4]
  exact z2r (by omega) (by omega)
theorem zfw (m : List Entry) (k : ByteArray) (φ : (Entry × ByteArray × Unit) → Option Int) (hm : m.length ≤ 1048576) (hr : RiseE m) (hφ : ∀ e, φ (e, k, ()) = some (Lib.compareBytes e.1.data.toList k.data.toList)) (n0 : Int) :
    ∀ (n lo hi fuel : Nat), hi - lo ≤ n → n < fuel → lo ≤ hi → hi ≤ m.length → (∀ (i : Nat) (h : i < m.length), i < lo → slt m[i].1 k) → (∀ (i : Nat) (h : i < m.length), hi ≤ i → ¬ slt m[i].1 k) →
    ∃ p, Part m k p ∧ z01.l3 LP fuel m k φ n0 (lo : Int) (hi : Int) = some (LE.brk (m, k, φ, n0, (p : Int))) := by
  intro n
  induction n with
  | zero =>
    intro lo hi fuel h1 h2 h3 h4 h5 h6
    obtain ⟨fuel, rfl⟩ : ∃ q, fuel = q + 1 := ⟨fuel - 1, by omega⟩
    have e : lo = hi := by omega
    subst e
    refine ⟨lo, ⟨h4, h5, h6⟩, ?_⟩
    simp only [z01.l3, z01.b3]
    rw [decide_eq_false (by omega)]
    rfl
  | succ n ih =>
    intro lo hi fuel h1 h2 h3 h4 h5 h6
    obtain ⟨fuel, rfl⟩ : ∃ q, fuel = q + 1 := ⟨fuel - 1, by omega⟩
    by_cases e : lo = hi
    · subst e
      refine ⟨lo, ⟨h4, h5, h6⟩, ?_⟩
      simp only [z01.l3, z01.b3]
      rw [decide_eq_false (by omega)]
      rfl
    · have hmid : (lo + hi) / 2 < m.length := by omega
      simp only [z01.l3, z01.b3]
      rw [half lo hi (by omega), decide_eq_true (show (lo : Int) < (hi : Int) by omega), cond_true, decide_eq_true (by decide), oif_true, z2e hmid, hφ, obind_some']
      by_cases hc : slt m[(lo + hi) / 2].1 k
      · rw [decide_eq_true ((ze1 _ _).2 hc), cond_true, z2r (by omega) (by omega)]
        refine ih ((lo + hi) / 2 + 1) hi fuel (by omega) (by omega) (by omega) h4 (fun i hi' hlt => ?_) h6
        by_cases hq : i = (lo + hi) / 2
        · subst hq; exact hc
        · exact z7n (z8f hr hi' hmid (by omega)) hc
      · rw [decide_eq_false (fun w => hc ((ze1 _ _).1 w)), cond_false]
        refine ih lo ((lo + hi) / 2) fuel (by omega) (by omega) (by omega) (by omega) h5 (fun i hi' hge => ?_)
        by_cases hq : i = (lo + hi) / 2
        · subst hq; exact hc
        · intro w
          exact hc (z7n (z8f hr hmid hi' (by omega)) w)
def z86 (m : List Entry) (k : ByteArray) (p : Nat) : Prop := ∃ h : p < m.length, m[p].1 = k
theorem z9d (m : List Entry) (k : ByteArray) (hm : m.length ≤ 1048576) (hr : RiseE m) : ∃ p, Part m k p ∧ z6f LP m k = some ((p : Int), Tr (z86 m k p)) := by
  have hLP := LP_ge
  obtain ⟨p, hp, he⟩ := zfw m k (fun w => z5n w.1 w.2.1) hm hr (fun e => rfl) (m.length : Int) m.length 0 m.length LP (by omega) (by omega) (by omega) (by omega) (fun i _ h => by omega) (fun i h1 h2 => by omega)
  refine ⟨p, hp, ?_⟩
  unfold z6f z01 z01.e
  show obind (obind (z01.l3 LP LP m k (fun w => z5n w.1 w.2.1) (m.length : Int) 0 (m.length : Int)) _) _ = _
  rw [show z01.l3 LP LP m k (fun w => z5n w.1 w.2.1) (m.length : Int) 0 (m.length : Int) = _ from he, obind_some', leF_brk]
  simp only [z01.a3]
  have hle := hp.le
  by_cases h : p < m.length
  · rw [decide_eq_true (by omega), cond_true, z2e h]
    show some ((p : Int), (Lib.compareBytes m[p].1.data.toList k.data.toList == 0)) = _
    rw [int_tr, z30 (zfv _ _), z30 (q := z86 m k p) ⟨fun w => ⟨h, w⟩, fun ⟨_, w⟩ => w⟩]
  · rw [decide_eq_false (by omega), cond_false, obind_some', z1b (fun ⟨w, _⟩ => h w)]
theorem zb7 {m : List Entry} {k : ByteArray} {p : Nat} (hr : RiseE m) (hp : Part m k p) : z86 m k p ↔ ∃ e ∈ m, e.1 = k := by
  constructor
  · rintro ⟨h, rfl⟩
    exact ⟨_, List.getElem_mem h, rfl⟩
  · rintro ⟨e, he, hk⟩
    obtain ⟨i, hi, rfl⟩ := List.getElem_of_mem he
    have h1 : p ≤ i := by
      apply Classical.byContradiction
      intro hn
      have := hp.lo i hi (by omega)
      rw [hk] at this
      exact z7e _ this
    by_cases hq : p = i
    · subst hq; exact ⟨hi, hk⟩
    · exfalso
      have := z8f hr (show p < m.length by omega) hi (by omega)
      rw [hk] at this
      exact hp.hi p (by omega) (Nat.le_refl _) this
theorem zaf {α : Type} {p : α → Bool} {l : List α} (h : ∀ x ∈ l, p x = true) : l.filter p = l := List.filter_eq_self.2 h
theorem zdx {k : ByteArray} {e : Entry} (h : e.1 ≠ k) : ne k e = true := by unfold ne; rw [z1b h]; rfl
theorem zf0 {k : ByteArray} {e : Entry} (h : e.1 = k) : ne k e = false := by unfold ne; rw [z2j h]; rfl
theorem zby {m : List Entry} {k : ByteArray} {p : Nat} (hr : RiseE m) (hp : Part m k p) : (m.drop p).filter (ne k) = cond (Tr (z86 m k p)) (m.drop (p + 1)) (m.drop p) := by
  by_cases hf : z86 m k p
  · rw [z2j hf]
    obtain ⟨h, hk⟩ := hf
    rw [z6t h, filter_cons', zf0 hk]
    simp only [cond_false, cond_true]
    refine zaf fun x hx => zdx fun e => ?_
    obtain ⟨i, hi, rfl⟩ := List.getElem_of_mem hx
    rw [List.getElem_drop] at e
    have hil : p + 1 + i < m.length := by rw [List.length_drop] at hi; omega
    have := z8f hr h hil (by omega)
    rw [hk, e] at this
    exact z7e _ this
  · rw [z1b hf]
    refine zaf fun x hx => zdx fun e => hf ((zb7 hr hp).2 ⟨x, List.mem_of_mem_drop hx, e⟩)
theorem zf4 {m : List Entry} {k : ByteArray} {p : Nat} (hp : Part m k p) : (m.take p).filter (ne k) = m.take p := by
  refine zaf fun x hx => zdx fun e => ?_
  obtain ⟨i, hi, rfl⟩ := List.getElem_of_mem hx
  rw [List.getElem_take] at e
  have hil : i < p := by rw [List.length_take] at hi; omega
  have := hp.lo i (by have := hp.le; omega) hil
  rw [e] at this
  exact z7e _ this
theorem zfj {m : List Entry} {k : ByteArray} {p : Nat} (hr : RiseE m) (hp : Part m k p) : remL m k = m.take p ++ cond (Tr (z86 m k p)) (m.drop (p + 1)) (m.drop p) := by
  rw [← zby hr hp]
  unfold remL
  rw [← zf4 hp, ← List.filter_append, List.take_append_drop]
theorem zee (k : ByteArray) (v : Int) : ∀ {m : List Entry} {p : Nat}, Part m k p → putL k v m = m.take p ++ (k, v, ()) :: (m.drop p).filter (ne k)
  | [], p, hp => by simp [putL]
  | e :: r, 0, hp => by
    have h0 : ¬ slt e.1 k := hp.hi 0 (by simp) (Nat.le_refl _)
    unfold putL
    rw [z1b h0]
    rfl
  | e :: r, p + 1, hp => by
    have h0 : slt e.1 k := hp.lo 0 (by simp) (by omega)
    have hp' : Part r k p := ⟨by have := hp.le; simp at this; exact this, fun i h hlt => by
      have := hp.lo (i + 1) (by simp; exact h) (by omega)
      simpa using this, fun i h hge => by
      have := hp.hi (i + 1) (by simp; exact h) (by omega)
      simpa using this⟩
    unfold putL
    rw [z2j h0, cond_true, zee k v hp']
    rfl
theorem zfm {m : List Entry} (hr : RiseE m) (k : ByteArray) : RiseE (remL m k) := List.Pairwise.filter _ hr
theorem zeq (k : ByteArray) (v : Int) : ∀ {m : List Entry}, RiseE m → RiseE (putL k v m) ∧ ∀ x ∈ putL k v m, x = (k, v, ()) ∨ x ∈ m
  | [], _ => ⟨by unfold putL; exact List.pairwise_singleton _ _, fun x hx => by simp [putL] at hx; exact .inl hx⟩
  | e :: r, hr => by
    have hr' := List.pairwise_cons.1 hr
    unfold putL
    by_cases h : slt e.1 k
    · rw [z2j h]
      simp only [cond_true]
      have ih := zeq k v hr'.2
      refine ⟨List.pairwise_cons.2 ⟨fun x hx => ?_, ih.1⟩, fun x hx => ?_⟩
      · rcases ih.2 x hx with rfl | hx
        · exact h
        · exact hr'.1 x hx
      · cases hx with
        | head => exact .inr List.mem_cons_self
        | tail _ hx => rcases ih.2 x hx with q | q
                       · exact .inl q
                       · exact .inr (List.mem_cons_of_mem _ q)
    · rw [z1b h]
      simp only [cond_false]
      refine ⟨List.pairwise_cons.2 ⟨fun x hx => ?_, List.Pairwise.filter _ hr⟩, fun x hx => ?_⟩
      · obtain ⟨hx1, hx2⟩ := List.mem_filter.1 hx
        have hne : x.1 ≠ k := fun e => by rw [zf0 e] at hx2; cases hx2
        show slt k x.1
        cases hx1 with
        | head => rcases z9a e.1 k with q | q | q
                  · exact absurd q h
                  · exact absurd q hne
                  · exact q
        | tail _ hx1 =>
          have hex := hr'.1 x hx1
          rcases z9a e.1 k with q | q | q
          · exact absurd q h
          · rw [← q]; exact hex
          · exact z7n q hex
      · cases hx with
        | head => exact .inl rfl
        | tail _ hx => exact .inr (List.mem_filter.1 hx).1
theorem zeh {m : List Entry} (hr : RiseE m) (e : Edit) : RiseE (stepE m e) := by
  unfold stepE
  cases e.2.2.1 with
  | true => exact zfm hr _
  | false => exact (zeq _ _ hr).1
theorem zcq : ∀ (es : List Edit) {m : List Entry}, RiseE m → RiseE (applyL m es)
  | [], m, hr => hr
  | e :: es, m, hr => zcq es (zeh hr e)
theorem zfg {R : Type} {m : List Entry} (hm : m.length ≤ 1000000) (hr : RiseE m) (e : Edit) (N : List Entry → Option R) :
    (obind (z6f LP m e.1) fun (t3 : Int × Bool) => cond t3.2 (obind (z71 m t3.1 (IntKind.i64.wrap (t3.1 + (1:Int)))) fun (t4 : List Entry) => cond (!e.2.2.1) (obind (z63 t4 t3.1 ([(e.1, e.2.1, ())] : List Entry)) fun (t5 : List Entry) => N t5) (N t4)) (cond (!e.2.2.1) (obind (z63 m t3.1 ([(e.1, e.2.1, ())] : List Entry)) fun (t6 : List Entry) => N t6) (N m))) = N (stepE m e) := by
  obtain ⟨p, hp, he⟩ := z9d m e.1 (by omega) hr
  have hle := hp.le
  rw [he, obind_some']
  simp only
  have hrem := zfj hr hp
  have hput := zee e.1 e.2.1 hp
  rw [zby hr hp] at hput
  unfold stepE
  have ins : ∀ (l : List Entry), p ≤ l.length → l.length ≤ 1000000 → z63 l (p : Int) [(e.1, e.2.1, ())] = some (l.take p ++ [(e.1, e.2.1, ())] ++ l.drop p) := fun l h1 h2 => by
    unfold z63 insF
    rw [decide_eq_true (by omega), oif_true, decide_eq_true (by omega), oif_true, decide_eq_true (show 0 < [((e.1, e.2.1, ()) : Entry)].length from Nat.zero_lt_succ _), oif_true, decide_eq_true (app1 (by omega) (by decide)), oif_true, Int.toNat_natCast]
  by_cases hf : z86 m e.1 p
  · have hpl : p < m.length := hf.1
    rw [z2j hf] at hrem hput ⊢
    simp only [cond_true] at hrem hput ⊢
    have del : z71 m (p : Int) (IntKind.i64.wrap ((p : Int) + 1)) = some (m.take p ++ m.drop (p + 1)) := by
      rw [z2r (by omega) (by omega)]
      unfold z71 delF
      rw [decide_eq_true (by omega), oif_true, decide_eq_true (by omega), oif_true, decide_eq_true (by omega), oif_true, Int.toNat_natCast, show ((p : Int) + 1).toNat = p + 1 by omega]
    rw [del, obind_some']
    cases e.2.2.1 with
    | true =>
      simp only [Bool.not_true, cond_false, cond_true]
      rw [hrem]
    | false =>
      simp only [Bool.not_false, cond_false, cond_true]
      have hlt : (m.take p).length = p := by rw [List.length_take]; omega
      rw [ins _ (by rw [List.length_append, hlt]; omega) (by rw [List.length_append, hlt, List.length_drop]; omega), obind_some', List.take_left' hlt, List.drop_left' hlt, hput, List.append_assoc]
      rfl
  · rw [z1b hf] at hrem hput ⊢
    simp only [cond_false] at hrem hput ⊢
    cases e.2.2.1 with
    | true =>
      simp only [Bool.not_true, cond_false, cond_true]
      rw [hrem, List.take_append_drop]
    | false =>
      simp only [Bool.not_false, cond_false, cond_true]
      rw [ins m hle hm, obind_some', hput, List.append_assoc]
      rfl
theorem za3 (m : List Entry) (es : List Edit) (hm : m.length ≤ 400000) (he : es.length ≤ 400000) (hr : RiseE m) : z2d LP m es = some (applyL m es) := by
  have hLP := LP_ge
  have := z7g (fun q i s => z2d.l3 LP q es (es.length : Int) i s) es.length (fun i s => s.length ≤ m.length + i ∧ RiseE s) (fun i s => LE.brk (applyL s (es.drop i)))
    (fun q s hs => by
      simp only [z2d.l3, z2d.b3]
      rw [decide_eq_false (by omega), List.drop_length]
      rfl)
    (fun q i s hi hs ih => by
      obtain ⟨hs, hrs⟩ := hs
      have hw : IntKind.i64.wrap ((i : Int) + 1) = ((i + 1 : Nat) : Int) := z2r (by omega) (by omega)
      simp only [z2d.l3, z2d.b3]
      rw [decide_eq_true (by omega), cond_true, z2e hi, hw]
      refine (zfg (by omega) hrs es[i] (fun t => z2d.l3 LP q es (es.length : Int) ((i + 1 : Nat) : Int) t)).trans ?_
      rw [z6t hi]
      have := zfk s es[i]
      exact ih _ ⟨by omega, zeh hrs _⟩) LP 0 m (Nat.zero_le _) (by omega) ⟨by simp, hr⟩
  unfold z2d z2d.e z6e
  rw [decide_eq_true (by omega), oif_true, obind_some']
  show obind (z2d.l3 LP LP es (es.length : Int) 0 m) _ = _
  rw [show z2d.l3 LP LP es (es.length : Int) 0 m = _ from this]
  rfl
end Go.Vx

end
section
set_option linter.unusedVariables false
set_option linter.unusedSimpArgs false
namespace Go.Vx
open Go Go.Proofs Go.RowKit Go.Lib
abbrev RiseD (m : List Edit) : Prop := Rise (fun e : Edit => e.1) m
def del (e : Entry) : Edit := (e.1, 0, true, ())
def put (e : Entry) : Edit := (e.1, e.2.1, false, ())
noncomputable def diffL : List Entry → List Entry → List Edit
  | [], [] => []
  | x :: a, [] => del x :: diffL a []
  | [], y :: b => put y :: diffL [] b
  | x :: a, y :: b => cond (Tr (slt x.1 y.1)) (del x :: diffL a (y :: b)) (cond (Tr (slt y.1 x.1)) (put y :: diffL (x :: a) b) (cond (Tr (x.2.1 = y.2.1)) (diffL a b) (put y :: diffL a b)))
  termination_by a b => a.length + b.length
theorem z7k {α : Type} {key : α → ByteArray} {x : α} {l : List α} : Rise key (x :: l) ↔ (∀ y ∈ l, slt (key x) (key y)) ∧ Rise key l := List.pairwise_cons
theorem zec {x y : Entry} (h1 : x.1 = y.1) (h2 : x.2.1 = y.2.1) : x = y := by
  obtain ⟨a, b, c⟩ := x
  obtain ⟨a', b', c'⟩ := y
  simp only at h1 h2
  rw [h1, h2]
theorem slt_ne {a b : ByteArray} (h : slt a b) : a ≠ b := fun e => by subst e; exact z7e _ h
theorem zeu : ∀ (n : Nat) {a b : List Entry}, a.length + b.length ≤ n → RiseE a → RiseE b → ∀ e, e ∈ diffL a b ↔ (∃ x ∈ a, e = del x ∧ ∀ y ∈ b, y.1 ≠ x.1) ∨ (∃ y ∈ b, e = put y ∧ y ∉ a) := by
  intro n
  induction n with
  | zero =>
    intro a b hn ha hb e
    obtain rfl : a = [] := List.eq_nil_of_length_eq_zero (by omega)
    obtain rfl : b = [] := List.eq_nil_of_length_eq_zero (by omega)
    simp [diffL]
  | succ n ih =>
    intro a b hn ha hb e
    cases a with
    | nil => cases b with
      | nil => simp [diffL]
      | cons y b =>
        obtain ⟨hb1, hb2⟩ := z7k.1 hb
        rw [diffL, List.mem_cons, ih (by simp at hn ⊢; omega) ha hb2]
        simp
    | cons x a =>
      obtain ⟨ha1, ha2⟩ := z7k.1 ha
      cases b with
      | nil =>
        rw [diffL, List.mem_cons, ih (by simp at hn ⊢; omega) ha2 hb]
        simp
      | cons y b =>
        obtain ⟨hb1, hb2⟩ := z7k.1 hb
        have hlen : a.length + 1 + (b.length + 1) ≤ n + 1 := hn
        rw [diffL]
        by_cases h1 : slt x.1 y.1
        · rw [z2j h1]
          simp only [cond_true]
          rw [List.mem_cons, ih (by simp; omega) ha2 hb]
          have hxy : ∀ y' ∈ y :: b, slt x.1 y'.1 := fun y' hy' => by
            cases hy' with
            | head => exact h1
            | tail _ hy' => exact z7n h1 (hb1 y' hy')
          constructor
          · rintro (rfl | ⟨x', hx', rfl, hh⟩ | ⟨y', hy', rfl, hh⟩)
            · exact .inl ⟨x, List.mem_cons_self, rfl, fun y' hy' e => slt_ne (hxy y' hy') e.symm⟩
            · exact .inl ⟨x', List.mem_cons_of_mem _ hx', rfl, hh⟩
            · refine .inr ⟨y', hy', rfl, fun hm => ?_⟩
              cases hm with
              | head => exact z7e _ (hxy _ hy')
              | tail _ hm => exact hh hm
          · rintro (⟨x', hx', rfl, hh⟩ | ⟨y', hy', rfl, hh⟩)
            · cases hx' with
              | head => exact .inl rfl
              | tail _ hx' => exact .inr (.inl ⟨x', hx', rfl, hh⟩)
            · exact .inr (.inr ⟨y', hy', rfl, fun hm => hh (List.mem_cons_of_mem _ hm)⟩)
        · rw [z1b h1]
          simp only [cond_false]
          by_cases h2 : slt y.1 x.1
          · rw [z2j h2]
            simp only [cond_true]
            rw [List.mem_cons, ih (by simp; omega) ha hb2]
            have hyx : ∀ x' ∈ x :: a, slt y.1 x'.1 := fun x' hx' => by
              cases hx' with
              | head => exact h2
              | tail _ hx' => exact z7n h2 (ha1 x' hx')
            constructor
            · rintro (rfl | ⟨x', hx', rfl, hh⟩ | ⟨y', hy', rfl, hh⟩)
              · exact .inr ⟨y, List.mem_cons_self, rfl, fun hm => z7e _ (hyx _ hm)⟩
              · refine .inl ⟨x', hx', rfl, fun y' hy' e => ?_⟩
                cases hy' with
                | head => exact slt_ne (hyx x' hx') e
                | tail _ hy' => exact hh y' hy' e
              · exact .inr ⟨y', List.mem_cons_of_mem _ hy', rfl, hh⟩
            · rintro (⟨x', hx', rfl, hh⟩ | ⟨y', hy', rfl, hh⟩)
              · exact .inr (.inl ⟨x', hx', rfl, fun y' hy' => hh y' (List.mem_cons_of_mem _ hy')⟩)
              · cases hy' with
                | head => exact .inl rfl
                | tail _ hy' => exact .inr (.inr ⟨y', hy', rfl, hh⟩)
          · rw [z1b h2]
            simp only [cond_false]
            have hk : x.1 = y.1 := by
              rcases z9a x.1 y.1 with q | q | q
              · exact absurd q h1
              · exact q
              · exact absurd q h2
            have hax : ∀ x' ∈ a, slt y.1 x'.1 := fun x' hx' => by rw [← hk]; exact ha1 x' hx'
            by_cases h3 : x.2.1 = y.2.1
            · have hxy : x = y := zec hk h3
              subst hxy
              rw [z2j h3]
              simp only [cond_true]
              rw [ih (by omega) ha2 hb2]
              constructor
              · rintro (⟨x', hx', rfl, hh⟩ | ⟨y', hy', rfl, hh⟩)
                · refine .inl ⟨x', List.mem_cons_of_mem _ hx', rfl, fun y' hy' e => ?_⟩
                  cases hy' with
                  | head => exact slt_ne (hax x' hx') e
                  | tail _ hy' => exact hh y' hy' e
                · refine .inr ⟨y', List.mem_cons_of_mem _ hy', rfl, fun hm => ?_⟩
                  cases hm with
                  | head => exact z7e _ (hb1 _ hy')
                  | tail _ hm => exact hh hm
              · rintro (⟨x', hx', rfl, hh⟩ | ⟨y', hy', rfl, hh⟩)
                · cases hx' with
                  | head => exact absurd rfl (hh x List.mem_cons_self)
                  | tail _ hx' => exact .inl ⟨x', hx', rfl, fun y' hy' => hh y' (List.mem_cons_of_mem _ hy')⟩
                · cases hy' with
                  | head => exact absurd List.mem_cons_self hh
                  | tail _ hy' => exact .inr ⟨y', hy', rfl, fun hm => hh (List.mem_cons_of_mem _ hm)⟩
            · rw [z1b h3]
              simp only [cond_false]
              rw [List.mem_cons, ih (by omega) ha2 hb2]
              constructor
              · rintro (rfl | ⟨x', hx', rfl, hh⟩ | ⟨y', hy', rfl, hh⟩)
                · refine .inr ⟨y, List.mem_cons_self, rfl, fun hm => ?_⟩
                  cases hm with
                  | head => exact h3 rfl
                  | tail _ hm => exact z7e _ (hax _ hm)
                · refine .inl ⟨x', List.mem_cons_of_mem _ hx', rfl, fun y' hy' e => ?_⟩
                  cases hy' with
                  | head => exact slt_ne (hax x' hx') e
                  | tail _ hy' => exact hh y' hy' e
                · refine .inr ⟨y', List.mem_cons_of_mem _ hy', rfl, fun hm => ?_⟩
                  cases hm with
                  | head => exact slt_ne (hb1 _ hy') hk.symm
                  | tail _ hm => exact hh hm
              · rintro (⟨x', hx', rfl, hh⟩ | ⟨y', hy', rfl, hh⟩)
                · cases hx' with
                  | head => exact absurd hk.symm (hh y List.mem_cons_self)
                  | tail _ hx' => exact .inr (.inl ⟨x', hx', rfl, fun y' hy' => hh y' (List.mem_cons_of_mem _ hy')⟩)
                · cases hy' with
                  | head => exact .inl rfl
                  | tail _ hy' => exact .inr (.inr ⟨y', hy', rfl, fun hm => hh (List.mem_cons_of_mem _ hm)⟩)
theorem z8n {a b : List Entry} (ha : RiseE a) (hb : RiseE b) {k : ByteArray} (h1 : ∀ x ∈ a, slt k x.1) (h2 : ∀ y ∈ b, slt k y.1) : ∀ e ∈ diffL a b, slt k e.1 := fun e he => by
  rcases (zeu _ (Nat.le_refl _) ha hb e).1 he with ⟨x, hx, rfl, _⟩ | ⟨y, hy, rfl, _⟩
  · exact h1 x hx
  · exact h2 y hy
theorem z7v : ∀ (n : Nat) {a b : List Entry}, a.length + b.length ≤ n → RiseE a → RiseE b → RiseD (diffL a b) ∧ (diffL a b).length ≤ a.length + b.length := by
  intro n
  induction n with
  | zero =>
    intro a b hn ha hb
    obtain rfl : a = [] := List.eq_nil_of_length_eq_zero (by omega)
    obtain rfl : b = [] := List.eq_nil_of_length_eq_zero (by omega)
    rw [diffL]
    exact ⟨List.Pairwise.nil, Nat.le_refl _⟩
  | succ n ih =>
    intro a b hn ha hb
    cases a with
    | nil => cases b with
      | nil => rw [diffL]; exact ⟨List.Pairwise.nil, Nat.le_refl _⟩
      | cons y b =>
        obtain ⟨hb1, hb2⟩ := z7k.1 hb
        have hl : ([] : List Entry).length + (b.length + 1) ≤ n + 1 := hn
        obtain ⟨q1, q2⟩ := ih (by omega) ha hb2
        rw [diffL]
        refine ⟨z7k.2 ⟨z8n ha hb2 (fun x hx => by cases hx) hb1, q1⟩, ?_⟩
        simp only [List.length_cons] at q2 ⊢
        omega
    | cons x a =>
      obtain ⟨ha1, ha2⟩ := z7k.1 ha
      cases b with
      | nil =>
        have hl : a.length + 1 + ([] : List Entry).length ≤ n + 1 := hn
        obtain ⟨q1, q2⟩ := ih (by omega) ha2 hb
        rw [diffL]
        refine ⟨z7k.2 ⟨z8n ha2 hb ha1 (fun x hx => by cases hx), q1⟩, ?_⟩
        simp only [List.length_cons] at q2 ⊢
        omega
      | cons y b =>
        obtain ⟨hb1, hb2⟩ := z7k.1 hb
        have hlen : a.length + 1 + (b.length + 1) ≤ n + 1 := hn
        rw [diffL]
        by_cases h1 : slt x.1 y.1
        · rw [z2j h1]
          simp only [cond_true]
          obtain ⟨q1, q2⟩ := ih (a := a) (b := y :: b) (by simp; omega) ha2 hb
          refine ⟨z7k.2 ⟨z8n ha2 hb ha1 (fun y' hy' => by
            cases hy' with
            | head => exact h1
            | tail _ hy' => exact z7n h1 (hb1 y' hy')), q1⟩, ?_⟩
          simp only [List.length_cons] at q2 ⊢
          omega
        · rw [z1b h1]
          simp only [cond_false]
          by_cases h2 : slt y.1 x.1
          · rw [z2j h2]
            simp only [cond_true]
            obtain ⟨q1, q2⟩ := ih (a := x :: a) (b := b) (by simp; omega) ha hb2
            refine ⟨z7k.2 ⟨z8n ha hb2 (fun x' hx' => by
              cases hx' with
              | head => exact h2
              | tail _ hx' => exact z7n h2 (ha1 x' hx')) hb1, q1⟩, ?_⟩
            simp only [List.length_cons] at q2 ⊢
            omega
          · rw [z1b h2]
            simp only [cond_false]
            obtain ⟨q1, q2⟩ := ih (a := a) (b := b) (by omega) ha2 hb2
            have hk : x.1 = y.1 := by
              rcases z9a x.1 y.1 with q | q | q
              · exact absurd q h1
              · exact q
              · exact absurd q h2
            cases Tr (x.2.1 = y.2.1) with
            | true =>
              simp only [cond_true, List.length_cons]
              exact ⟨q1, by omega⟩
            | false =>
              simp only [cond_false]
              refine ⟨z7k.2 ⟨z8n ha2 hb2 (fun x' hx' => by show slt y.1 x'.1; rw [← hk]; exact ha1 x' hx') hb1, q1⟩, ?_⟩
              simp only [List.length_cons]
              omega
end Go.Vx

end
section
set_option linter.unusedVariables false
set_option linter.unusedSimpArgs false
namespace Go.Vx
open Go Go.Proofs Go.RowKit Go.Lib
theorem dx {p : Prop} [Decidable p] (h : p) : decide p = true := decide_eq_true h
theorem dn {p : Prop} [Decidable p] (h : ¬ p) : decide p = false := decide_eq_false h
theorem z7w {a b : Int} (h : a ≠ b) : (a == b) = false := by simp [h]
theorem z98 {a b : Int} (h : a = b) : (a == b) = true := by simp [h]
theorem z9w (a b : List Entry) (ha : a.length ≤ 400000) (hb : b.length ≤ 400000) : z29 LP a b = some (diffL a b) := by
  have hLP := LP_ge
  have main : ∀ (n i j fuel : Nat) (s : List Edit), (a.length - i) + (b.length - j) ≤ n → n < fuel → i ≤ a.length → j ≤ b.length → s.length ≤ i + j → z29.l4 LP fuel a b (i : Int) (j : Int) s = some (LE.brk (s ++ diffL (a.drop i) (b.drop j))) := by
    intro n
    induction n with
    | zero =>
      intro i j fuel s h1 h2 h3 h4 h5
      obtain ⟨fuel, rfl⟩ : ∃ q, fuel = q + 1 := ⟨fuel - 1, by omega⟩
      obtain rfl : i = a.length := by omega
      obtain rfl : j = b.length := by omega
      simp only [z29.l4, z29.b4]
      rw [dn (show ¬ (a.length : Int) < (a.length : Int) by omega), dn (show ¬ (b.length : Int) < (b.length : Int) by omega), List.drop_length, List.drop_length, diffL, List.append_nil]
      rfl
    | succ n ih =>
      intro i j fuel s h1 h2 h3 h4 h5
      obtain ⟨fuel, rfl⟩ : ∃ q, fuel = q + 1 := ⟨fuel - 1, by omega⟩
      have hsl : s.length ≤ 4000000 := by omega
      have hb1 : ∀ x : Edit, decide ((s.length + [x].length) * 32 ≤ 140737488355328) = true := fun x => dx (app1 hsl (by decide))
      have hwi : IntKind.i64.wrap ((i : Int) + 1) = ((i + 1 : Nat) : Int) := z2r (by omega) (by omega)
      have hwj : IntKind.i64.wrap ((j : Int) + 1) = ((j + 1 : Nat) : Int) := z2r (by omega) (by omega)
      simp only [z29.l4, z29.b4]
      by_cases hi : i < a.length
      · have di : decide ((i : Int) < (a.length : Int)) = true := dx (by omega)
        have ei : ((i : Int) == (a.length : Int)) = false := z7w (by omega)
        by_cases hj : j < b.length
        · have ej : ((j : Int) == (b.length : Int)) = false := z7w (by omega)
          simp only [di, ei, ej, cond_true, cond_false, z2e hi, z2e hj, hb1, oif_true, hwi, hwj, zaa, int_ne]
          rw [z6t hi, z6t hj, diffL]
          cases h : Tr (slt a[i].1 b[j].1) with
          | true =>
            simp only [cond_true]
            refine (ih (i + 1) j fuel _ (by omega) (by omega) (by omega) h4 (by simp; omega)).trans ?_
            rw [List.append_assoc, z6t hj]
            rfl
          | false =>
            simp only [cond_false]
            cases h2 : Tr (slt b[j].1 a[i].1) with
            | true =>
              simp only [cond_true]
              refine (ih i (j + 1) fuel _ (by omega) (by omega) h3 (by omega) (by simp; omega)).trans ?_
              rw [List.append_assoc, z6t hi]
              rfl
            | false =>
              simp only [cond_false]
              cases h3' : Tr (a[i].2.1 = b[j].2.1) with
              | true =>
                simp only [Bool.not_true, cond_true, cond_false]
                exact ih (i + 1) (j + 1) fuel _ (by omega) (by omega) (by omega) (by omega) (by omega)
              | false =>
                simp only [Bool.not_false, cond_true, cond_false]
                refine (ih (i + 1) (j + 1) fuel _ (by omega) (by omega) (by omega) (by omega) (by simp; omega)).trans ?_
                rw [List.append_assoc]
                rfl
        · obtain rfl : j = b.length := by omega
          have ej : ((b.length : Int) == (b.length : Int)) = true := z98 rfl
          simp only [di, ej, cond_true, z2e hi, hb1, oif_true, hwi]
          refine (ih (i + 1) b.length fuel _ (by omega) (by omega) (by omega) h4 (by simp; omega)).trans ?_
          rw [z6t hi, List.drop_length, diffL, List.append_assoc]
          rfl
      · obtain rfl : i = a.length := by omega
        have di : decide ((a.length : Int) < (a.length : Int)) = false := dn (by omega)
        have ei : ((a.length : Int) == (a.length : Int)) = true := z98 rfl
        by_cases hj : j < b.length
        · have dj : decide ((j : Int) < (b.length : Int)) = true := dx (by omega)
          have ej : ((j : Int) == (b.length : Int)) = false := z7w (by omega)
          simp only [di, dj, ei, ej, cond_true, cond_false, z2e hj, hb1, oif_true, hwj]
          refine (ih a.length (j + 1) fuel _ (by omega) (by omega) h3 (by omega) (by simp; omega)).trans ?_
          rw [z6t hj, List.drop_length, diffL, List.append_assoc]
          rfl
        · obtain rfl : j = b.length := by omega
          rw [di, dn (show ¬ (b.length : Int) < (b.length : Int) by omega), List.drop_length, List.drop_length, diffL, List.append_nil]
          rfl
  show obind (z29.l4 LP LP a b 0 0 []) _ = _
  rw [show z29.l4 LP LP a b 0 0 [] = _ from main (a.length + b.length) 0 0 LP [] (by omega) (by omega) (Nat.zero_le _) (Nat.zero_le _) (Nat.zero_le _)]
  rfl

noncomputable def putsOf (a b : List Entry) : List Edit := (b.filter fun e => !Tr (e ∈ a)).map put
noncomputable def delsOf (a b : List Entry) : List Edit := (a.filter fun e => !Tr (∃ y ∈ b, y.1 = e.1)).map del
theorem zfi {a : List Entry} {e : Entry} {p : Nat} (hr : RiseE a) (hp : Part a e.1 p) (h : p < a.length) (hk : a[p].1 = e.1) : a[p].2.1 = e.2.1 ↔ e ∈ a := by
  constructor
  · intro hv
    rw [← zec hk hv]
    exact List.getElem_mem h
  · intro he
    obtain ⟨i, hi, hie⟩ := List.getElem_of_mem he
    by_cases hq : i = p
    · subst hq; rw [hie]
    · exfalso
      rcases Nat.lt_or_gt_of_ne hq with hlt | hgt
      · have := z8f hr hi h hlt
        rw [hie, hk] at this
        exact z7e _ this
      · have := z8f hr h hi hgt
        rw [hie, hk] at this
        exact z7e _ this
theorem zfe {L D : List Edit} (hD : RiseD D) (hL : List.Perm L D) : sortD (t := TEdit) (cmpBy fun z : Edit => z.1) L = D := by
  have hps := Sort.pdq_sorts (ltOf (cmpBy fun z : Edit => z.1)) (swo_by _) L.toArray 0 L.length (Lib.bitLen L.length) true true (Nat.zero_le _) (by simp) (Or.inl rfl)
  obtain ⟨d', hd⟩ : ∃ d', d' = Sort.pdq (ltOf (cmpBy fun z : Edit => z.1)) L.toArray 0 L.length (Lib.bitLen L.length) true true := ⟨_, rfl⟩
  have hsd : sortD (t := TEdit) (cmpBy fun z : Edit => z.1) L = d'.toList := by rw [hd]; rfl
  rw [← hd] at hps
  rw [hsd]
  clear hsd hd
  obtain ⟨⟨hsz, _, hperm⟩, hsort⟩ := hps
  have hsz' : d'.size = L.length := by rw [hsz]; simp
  have hperm' : List.Perm d'.toList L := by
    have e1 : d'.extract 0 L.length = d' := by
      rw [← hsz']
      exact Array.extract_size
    have e2 : L.toArray.extract 0 L.length = L.toArray := by simp
    rw [e1, e2] at hperm
    simpa using hperm
  refine List.Perm.eq_of_pairwise (le := fun x y => ¬ slt y.1 x.1) (fun x y hx hy h1 h2 => ?_) ?_ ?_ (hperm'.trans hL)
  · have hx' : x ∈ D := (hperm'.trans hL).subset hx
    have hk : x.1 = y.1 := by
      rcases z9a x.1 y.1 with q | q | q
      · exact absurd q h2
      · exact q
      · exact absurd q h1
    obtain ⟨i, hi, rfl⟩ := List.getElem_of_mem hx'
    obtain ⟨j, hj, rfl⟩ := List.getElem_of_mem hy
    by_cases hij : i = j
    · subst hij; rfl
    · exfalso
      rcases Nat.lt_or_gt_of_ne hij with hlt | hgt
      · exact slt_ne (List.pairwise_iff_getElem.1 hD i j hi hj hlt) hk
      · exact slt_ne (List.pairwise_iff_getElem.1 hD j i hj hi hgt) hk.symm
  · rw [List.pairwise_iff_getElem]
    intro i j hi hj hij
    have hi' : i < d'.size := by simpa using hi
    have hj' : j < d'.size := by simpa using hj
    have := hsort i j (Nat.zero_le _) hij (by omega)
    rw [getElem!_pos _ i hi', getElem!_pos _ j hj'] at this
    rw [Array.getElem_toList, Array.getElem_toList]
    intro w
    have hlt : Lib.compareBytes _ _ < 0 := (ze1 _ _).2 w
    exact of_decide_eq_false this hlt
  · exact List.Pairwise.imp (fun h => ze5 h) hD
theorem zff {a b : List Entry} (ha : RiseE a) (hb : RiseE b) : List.Perm (putsOf a b ++ delsOf a b) (diffL a b) := by
  have hD := (z7v _ (Nat.le_refl _) ha hb).1
  have nd : ∀ {l : List Edit}, l.Pairwise (fun x y => x.1 ≠ y.1) → l.Nodup := fun h => List.Pairwise.imp (fun hne e => hne (by rw [e])) h
  refine (List.perm_ext_iff_of_nodup (nd ?_) (nd (List.Pairwise.imp (fun h => slt_ne h) hD))).2 fun e => ?_
  · rw [List.pairwise_append]
    refine ⟨?_, ?_, ?_⟩
    · unfold putsOf
      rw [List.pairwise_map]
      exact List.Pairwise.imp (fun h => slt_ne h) (List.Pairwise.filter _ hb)
    · unfold delsOf
      rw [List.pairwise_map]
      exact List.Pairwise.imp (fun h => slt_ne h) (List.Pairwise.filter _ ha)
    · intro x hx y hy
      obtain ⟨x', hx', rfl⟩ := List.mem_map.1 hx
      obtain ⟨y', hy', rfl⟩ := List.mem_map.1 hy
      have h1 := (List.mem_filter.1 hx').1
      have h2 := (List.mem_filter.1 hy').2
      intro hk
      rw [z2j ⟨x', h1, hk⟩] at h2
      cases h2
  · rw [zeu _ (Nat.le_refl _) ha hb, List.mem_append]
    unfold putsOf delsOf
    simp only [List.mem_map, List.mem_filter]
    constructor
    · rintro (⟨y, ⟨hy, hn⟩, rfl⟩ | ⟨x, ⟨hx, hn⟩, rfl⟩)
      · refine .inr ⟨y, hy, rfl, fun hm => ?_⟩
        rw [z2j hm] at hn
        cases hn
      · refine .inl ⟨x, hx, rfl, fun y hy e => ?_⟩
        rw [z2j ⟨y, hy, e⟩] at hn
        cases hn
    · rintro (⟨x, hx, rfl, hn⟩ | ⟨y, hy, rfl, hn⟩)
      · exact .inr ⟨x, ⟨hx, by rw [z1b (fun ⟨y, hy, e⟩ => hn y hy e)]; rfl⟩, rfl⟩
      · exact .inl ⟨y, ⟨hy, by rw [z1b hn]; rfl⟩, rfl⟩
theorem zb2 (a b : List Entry) (hla : a.length ≤ 400000) (hlb : b.length ≤ 400000) (ha : RiseE a) (hb : RiseE b) : z19 LP a b = some (diffL a b) := by
  have hLP := LP_ge
  have loop1 := z7g (fun q i s => z19.l3 LP q a b b (b.length : Int) i s) b.length (fun i s => s.length ≤ i) (fun i s => LE.brk (a, b, s ++ ((b.drop i).filter fun e => !Tr (e ∈ a)).map put))
    (fun q s hs => by
      simp only [z19.l3, z19.b3]
      rw [dn (by omega), List.drop_length]
      simp)
    (fun q i s hi hs ih => by
      have hsl : s.length ≤ 4000000 := by omega
      have hb1 : ∀ x : Edit, decide ((s.length + [x].length) * 32 ≤ 140737488355328) = true := fun x => dx (app1 hsl (by decide))
      have hw : IntKind.i64.wrap ((i : Int) + 1) = ((i + 1 : Nat) : Int) := z2r (by omega) (by omega)
      have hlt : decide ((i : Int) < (b.length : Int)) = true := dx (by omega)
      obtain ⟨p, hp, he⟩ := z9d a b[i].1 (by omega) ha
      simp only [z19.l3, z19.b3]
      simp only [hlt, cond_true, z2e hi, he, obind_some', hb1, oif_true, hw]
      rw [z6t hi, filter_cons']
      by_cases hf : z86 a b[i].1 p
      · obtain ⟨hpl, hk⟩ := hf
        rw [z2j ⟨hpl, hk⟩]
        simp only [Bool.not_true, cond_false]
        rw [z2e hpl, int_ne, z30 (zfi ha hp hpl hk)]
        cases h : Tr (b[i] ∈ a) with
        | true =>
          simp only [Bool.not_true, cond_false]
          exact ih s (by omega)
        | false =>
          simp only [Bool.not_false, cond_true]
          refine (ih _ (by simp; omega)).trans ?_
          rw [List.append_assoc]
          rfl
      · rw [z1b hf, z1b (p := b[i] ∈ a) (fun hm => hf ((zb7 ha hp).2 ⟨_, hm, rfl⟩))]
        simp only [Bool.not_false, cond_true]
        refine (ih _ (by simp; omega)).trans ?_
        rw [List.append_assoc]
        rfl) LP 0 [] (Nat.zero_le _) (by omega) (by simp)
  have loop2 : ∀ s0 : List Edit, s0.length ≤ 400000 → z19.l10 LP LP b a (a.length : Int) 0 s0 = some (LE.brk (s0 ++ delsOf a b)) := fun s0 h0 => by
    have := z7g (fun q i s => z19.l10 LP q b a (a.length : Int) i s) a.length (fun i s => s.length ≤ s0.length + i) (fun i s => LE.brk (s ++ ((a.drop i).filter fun e => !Tr (∃ y ∈ b, y.1 = e.1)).map del))
      (fun q s hs => by
        simp only [z19.l10, z19.b10]
        rw [dn (by omega), List.drop_length]
        simp)
      (fun q i s hi hs ih => by
        have hsl : s.length ≤ 4000000 := by omega
        have hb1 : ∀ x : Edit, decide ((s.length + [x].length) * 32 ≤ 140737488355328) = true := fun x => dx (app1 hsl (by decide))
        have hw : IntKind.i64.wrap ((i : Int) + 1) = ((i + 1 : Nat) : Int) := z2r (by omega) (by omega)
        have hlt : decide ((i : Int) < (a.length : Int)) = true := dx (by omega)
        obtain ⟨p, hp, he⟩ := z9d b a[i].1 (by omega) hb
        simp only [z19.l10, z19.b10]
        simp only [hlt, cond_true, z2e hi, he, obind_some', hb1, oif_true, hw]
        rw [z6t hi, filter_cons', z30 (zb7 hb hp)]
        cases h : Tr (∃ y ∈ b, y.1 = a[i].1) with
        | true =>
          simp only [Bool.not_true, cond_false]
          exact ih s (by omega)
        | false =>
          simp only [Bool.not_false, cond_true]
          refine (ih _ (by simp; omega)).trans ?_
          rw [List.append_assoc]
          rfl) LP 0 s0 (Nat.zero_le _) (by omega) (by simp)
    exact this
  have hl1 : (putsOf a b).length ≤ b.length := by unfold putsOf; rw [List.length_map]; exact List.length_filter_le _ _
  have hperm := zff ha hb
  have hsort := zfe (z7v _ (Nat.le_refl _) ha hb).1 hperm
  have hdl := (z7v _ (Nat.le_refl _) ha hb).2
  have hlen := hperm.length_eq
  show obind (z19.l3 LP LP a b b (b.length : Int) 0 []) _ = _
  rw [show z19.l3 LP LP a b b (b.length : Int) 0 [] = _ from loop1, obind_some', leF_brk]
  simp only [z19.a3]
  show obind (z19.l10 LP LP b a (a.length : Int) 0 ([] ++ putsOf a b)) _ = _
  rw [List.nil_append, loop2 _ (by omega), obind_some', leF_brk]
  simp only [z19.a10]
  unfold z6c sortF
  rw [dx (show (putsOf a b ++ delsOf a b).length < 4611686018427387904 by omega), oif_true, obind_some', hsort]
  rw [show Nat.beq (diffL a b).length (putsOf a b ++ delsOf a b).length = true by rw [hlen]; exact Nat.beq_refl _]
  rfl
end Go.Vx

end
section
set_option linter.unusedVariables false
set_option linter.unusedSimpArgs false
namespace Go.Vx
open Go Go.Proofs Go.RowKit Go.Lib
noncomputable def findE (l : List Edit) (k : ByteArray) : Option Edit := l.find? fun x => Tr (x.1 = k)
noncomputable def todoL (left right : List Edit) : List Edit := right.filter fun e => (findE left e.1).isNone
noncomputable def clashB (left : List Edit) (e : Edit) : Bool := match findE left e.1 with | some x => !Tr (x = e) | none => false
noncomputable def clashL (left right : List Edit) : List ByteArray := (right.filter (clashB left)).map fun e => e.1
noncomputable def toldL (m : List Entry) (c : List ByteArray) : List Entry × List ByteArray × Int := cond (decide (c.length > 0)) ([], c, 11) (cond (decide (m.length > 12)) ([], [], 7) (m, [], 0))
noncomputable def mergeM (base a b : List Entry) : List Entry := applyL a (todoL (diffL base a) (diffL base b))
noncomputable def mergeC (base a b : List Entry) : List ByteArray := clashL (diffL base a) (diffL base b)
noncomputable def mergeL (base a b : List Entry) : List Entry × List ByteArray × Int := toldL (mergeM base a b) (mergeC base a b)
theorem zfs {x y : Edit} (h1 : x.1 = y.1) (h2 : x.2.1 = y.2.1) (h3 : x.2.2.1 = y.2.2.1) : x = y := by
  obtain ⟨a, b, c, d⟩ := x
  obtain ⟨a', b', c', d'⟩ := y
  simp only at h1 h2 h3
  rw [h1, h2, h3]
theorem zal (x y : Edit) : ((x.1 == y.1) && ((x.2.1 == y.2.1) && (x.2.2.1 == y.2.2.1))) = Tr (x = y) := by
  rw [za4, int_tr]
  have hb : (x.2.2.1 == y.2.2.1) = Tr (x.2.2.1 = y.2.2.1) := Tr_eq (by simp)
  rw [hb, Tr_and, Tr_and, z30]
  exact ⟨fun ⟨h1, h2, h3⟩ => zfs h1 h2 h3, fun h => by rw [h]; exact ⟨rfl, rfl, rfl⟩⟩
theorem ze4 (x : Edit) (l : List Edit) (k : ByteArray) : findE (x :: l) k = cond (Tr (x.1 = k)) (some x) (findE l k) := by
  unfold findE
  rw [List.find?_cons]
  cases Tr (x.1 = k) <;> rfl
def zeroE : Edit := ((⟨#[]⟩ : ByteArray), (0:Int), false, ())
theorem zd7 (l : List Edit) (k : ByteArray) (hl : l.length ≤ 1048576) : z1x LP l k = some (match findE l k with | some x => (x, true) | none => (zeroE, false)) := by
  have hLP := LP_ge
  have := z7g (fun q i (s : ByteArray × Int × Bool) => z1x.l2 LP q l k i s.1 s.2.1 s.2.2) l.length (fun i s => s = ((⟨#[]⟩ : ByteArray), (0:Int), false)) (fun i s => match findE (l.drop i) k with | some x => LE.ret (true, x.1, x.2.1, x.2.2.1) | none => LE.brk s)
    (fun q s hs => by
      simp only [z1x.l2, z1x.b2]
      rw [dn (by omega), List.drop_length]
      rfl)
    (fun q i s hi hs ih => by
      simp only [z1x.l2, z1x.b2]
      simp only [dx (show (i : Int) < (l.length : Int) by omega), cond_true, z2e hi, seq_tr, z2r (x := (i : Int) + 1) (by omega) (by omega)]
      rw [z6t hi, ze4]
      cases Tr (l[i].1 = k) with
      | true => rfl
      | false => exact ih s hs) LP 0 ((⟨#[]⟩ : ByteArray), (0:Int), false) (Nat.zero_le _) (by omega) rfl
  show obind (z1x.l2 LP LP l k 0 _ _ _) _ = _
  rw [show z1x.l2 LP LP l k 0 (⟨#[]⟩ : ByteArray) (0:Int) false = _ from this, List.drop_zero]
  cases findE l k with
  | none => rfl
  | some x => rfl
theorem z9m (m : List Entry) (c : List ByteArray) : z4w m c = some (toldL m c) := by
  unfold z4w toldL
  have e1 : decide ((c.length : Int) > 0) = decide (c.length > 0) := by rw [Bool.eq_iff_iff]; simp
  have e2 : decide ((m.length : Int) > 12) = decide (m.length > 12) := by rw [Bool.eq_iff_iff]; simp; omega
  rw [e1, e2]
  cases decide (c.length > 0) with
  | true => rfl
  | false => cases decide (m.length > 12) <;> rfl
theorem z9e (base a b : List Entry) (h0 : base.length ≤ 100000) (h1 : a.length ≤ 100000) (h2 : b.length ≤ 100000) (r0 : RiseE base) (r1 : RiseE a) (r2 : RiseE b) : z1n LP base a b = some (mergeM base a b, mergeC base a b) := by
  have hLP := LP_ge
  obtain ⟨_, hl⟩ := z7v _ (Nat.le_refl _) r0 r1
  obtain ⟨_, hr⟩ := z7v _ (Nat.le_refl _) r0 r2
  obtain ⟨left, hleft⟩ : ∃ l, l = diffL base a := ⟨_, rfl⟩
  obtain ⟨right, hright⟩ : ∃ l, l = diffL base b := ⟨_, rfl⟩
  rw [← hleft] at hl
  rw [← hright] at hr
  have loop := z7g (fun q i (s : List ByteArray × List Edit) => z1n.l6 LP q a left right i s.1 s.2) right.length (fun i s => s.1.length ≤ i ∧ s.2.length ≤ i) (fun i s => LE.brk (a, s.1 ++ clashL left (right.drop i), s.2 ++ todoL left (right.drop i)))
    (fun q s hs => by
      simp only [z1n.l6, z1n.b6]
      rw [dn (by omega), List.drop_length]
      simp [clashL, todoL])
    (fun q i s hi hs ih => by
      obtain ⟨c, t⟩ := s
      have hc : c.length ≤ i := hs.1
      have ht : t.length ≤ i := hs.2
      have hcl : c.length ≤ 4000000 := by omega
      have htl : t.length ≤ 4000000 := by omega
      have b1 : ∀ x : Edit, decide ((t.length + [x].length) * 32 ≤ 140737488355328) = true := fun x => dx (app1 htl (by decide))
      have b2 : ∀ x : ByteArray, decide ((c.length + [x].length) * 16 ≤ 140737488355328) = true := fun x => dx (app1 hcl (by decide))
      have hw : IntKind.i64.wrap ((i : Int) + 1) = ((i + 1 : Nat) : Int) := z2r (by omega) (by omega)
      have hlt : decide ((i : Int) < (right.length : Int)) = true := dx (by omega)
      simp only [z1n.l6, z1n.b6]
      simp only [hlt, cond_true, z2e hi, hw, b1, b2, oif_true]
      rw [zd7 _ _ (by omega), obind_some', z6t hi]
      unfold clashL todoL
      rw [filter_cons', filter_cons']
      have hcb : clashB left right[i] = match findE left right[i].1 with | some x => !Tr (x = right[i]) | none => false := rfl
      rw [hcb]
      cases hf : findE left right[i].1 with
      | none =>
        simp only [Bool.not_false, cond_true, cond_false, Option.isNone_none]
        refine (ih (c, t ++ [right[i]]) ⟨by show c.length ≤ _; omega, by show (t ++ [right[i]]).length ≤ _; simp; omega⟩).trans ?_
        show some (LE.brk (a, c ++ clashL left (right.drop (i + 1)), t ++ [right[i]] ++ todoL left (right.drop (i + 1)))) = _
        rw [List.append_assoc]
        rfl
      | some x =>
        simp only [Bool.not_true, cond_false, Option.isNone_some]
        rw [zal]
        cases hx : Tr (x = right[i]) with
        | true =>
          simp only [Bool.not_true, cond_false]
          exact ih (c, t) ⟨by show c.length ≤ _; omega, by show t.length ≤ _; omega⟩
        | false =>
          simp only [Bool.not_false, cond_true]
          refine (ih (c ++ [right[i].1], t) ⟨by show (c ++ [right[i].1]).length ≤ _; simp; omega, by show t.length ≤ _; omega⟩).trans ?_
          show some (LE.brk (a, c ++ [right[i].1] ++ clashL left (right.drop (i + 1)), t ++ todoL left (right.drop (i + 1)))) = _
          rw [List.append_assoc]
          rfl) LP 0 ([], []) (Nat.zero_le _) (by omega) ⟨by simp, by simp⟩
  have htodo : (todoL left right).length ≤ right.length := List.length_filter_le _ _
  unfold z1n z1n.e
  rw [z9w _ _ (by omega) (by omega), obind_some', z9w _ _ (by omega) (by omega), obind_some', ← hleft, ← hright]
  show obind (z1n.l6 LP LP a left right 0 [] []) _ = _
  rw [show z1n.l6 LP LP a left right 0 [] [] = _ from loop, obind_some', leF_brk]
  simp only [z1n.a6, List.nil_append, List.drop_zero]
  rw [z9h _ _ (by omega) (by omega), obind_some', hleft, hright]
  rfl

def keyed (l : List Edit) : List (ByteArray × Edit) := l.map fun e => (e.1, e)
theorem zeg (k : ByteArray) : ∀ l : List Edit, mapGet (keyed l) k = findE l k
  | [] => rfl
  | x :: l => by
    rw [ze4, ← zeg k l]
    show cond (k == x.1) (some x) (mapGet (keyed l) k) = _
    rw [za4, z30 (q := x.1 = k) ⟨fun h => h.symm, fun h => h.symm⟩]
theorem ze3 (e : Edit) : ∀ l : List Edit, (∀ x ∈ l, x.1 ≠ e.1) → mapPut (keyed l) e.1 e = keyed (l ++ [e])
  | [], _ => rfl
  | x :: l, h => by
    show cond (e.1 == x.1) _ ((x.1, x) :: mapPut (keyed l) e.1 e) = _
    rw [za4, z1b (fun q => h x List.mem_cons_self q.symm), ze3 e l (fun y hy => h y (List.mem_cons_of_mem _ hy))]
    rfl
theorem z9x (m : List Entry) : z4k m = some (cond (decide (m.length > 12)) ([], 7) (m, 0)) := by
  unfold z4k
  have e2 : decide ((m.length : Int) > 12) = decide (m.length > 12) := by rw [Bool.eq_iff_iff]; simp; omega
  rw [e2]
  cases decide (m.length > 12) <;> rfl
theorem zam (base a b : List Entry) (h0 : base.length ≤ 100000) (h1 : a.length ≤ 100000) (h2 : b.length ≤ 100000) (r0 : RiseE base) (r1 : RiseE a) (r2 : RiseE b) : z0r LP base a b = some (mergeL base a b) := by
  have hLP := LP_ge
  obtain ⟨dl, hl⟩ := z7v _ (Nat.le_refl _) r0 r1
  obtain ⟨_, hr⟩ := z7v _ (Nat.le_refl _) r0 r2
  obtain ⟨left, hleft⟩ : ∃ l, l = diffL base a := ⟨_, rfl⟩
  obtain ⟨right, hright⟩ : ∃ l, l = diffL base b := ⟨_, rfl⟩
  rw [← hleft] at hl dl
  rw [← hright] at hr
  have loop1 := z7g (fun q i s => z0r.l3 LP q base a b left (left.length : Int) i s) left.length (fun i s => s = keyed (left.take i)) (fun i s => LE.brk (base, a, b, keyed left))
    (fun q s hs => by
      simp only [z0r.l3, z0r.b3]
      rw [dn (by omega), hs, List.take_length]
      rfl)
    (fun q i s hi hs ih => by
      simp only [z0r.l3, z0r.b3]
      simp only [dx (show (i : Int) < (left.length : Int) by omega), cond_true, z2e hi, z2r (x := (i : Int) + 1) (by omega) (by omega)]
      refine ih _ ?_
      rw [hs]
      show mapPut (keyed (left.take i)) left[i].1 left[i] = _
      rw [ze3 _ _ (fun x hx e => ?_), List.take_add_one, List.getElem?_eq_getElem hi]
      · rfl
      · obtain ⟨j, hj, rfl⟩ := List.getElem_of_mem hx
        rw [List.length_take] at hj
        rw [List.getElem_take] at e
        exact slt_ne (List.pairwise_iff_getElem.1 dl j i (by omega) hi (by omega)) e) LP 0 [] (Nat.zero_le _) (by omega) rfl
  have loop2 := z7g (fun q i (s : List Edit × List ByteArray) => z0r.l10 LP q a right (right.length : Int) i (keyed left) s.1 s.2) right.length (fun i s => s.1.length ≤ i ∧ s.2.length ≤ i) (fun i s => LE.brk (a, s.1 ++ todoL left (right.drop i), s.2 ++ clashL left (right.drop i)))
    (fun q s hs => by
      simp only [z0r.l10, z0r.b10]
      rw [dn (by omega), List.drop_length]
      simp [clashL, todoL])
    (fun q i s hi hs ih => by
      obtain ⟨t, c⟩ := s
      have ht : t.length ≤ i := hs.1
      have hc : c.length ≤ i := hs.2
      have hcl : c.length ≤ 4000000 := by omega
      have htl : t.length ≤ 4000000 := by omega
      have b1 : ∀ x : Edit, decide ((t.length + [x].length) * 32 ≤ 140737488355328) = true := fun x => dx (app1 htl (by decide))
      have b2 : ∀ x : ByteArray, decide ((c.length + [x].length) * 16 ≤ 140737488355328) = true := fun x => dx (app1 hcl (by decide))
      have hw : IntKind.i64.wrap ((i : Int) + 1) = ((i + 1 : Nat) : Int) := z2r (by omega) (by omega)
      have hlt : decide ((i : Int) < (right.length : Int)) = true := dx (by omega)
      simp only [z0r.l10, z0r.b10]
      simp only [hlt, cond_true, z2e hi, hw, b1, b2, oif_true]
      rw [zeg, z6t hi]
      unfold clashL todoL
      rw [filter_cons', filter_cons']
      have hcb : clashB left right[i] = match findE left right[i].1 with | some x => !Tr (x = right[i]) | none => false := rfl
      rw [hcb]
      cases hf : findE left right[i].1 with
      | none =>
        simp only [Option.isSome_none, Bool.not_false, cond_true, cond_false, Option.isNone_none]
        refine (ih (t ++ [right[i]], c) ⟨by show (t ++ [right[i]]).length ≤ _; simp; omega, by show c.length ≤ _; omega⟩).trans ?_
        show some (LE.brk (a, t ++ [right[i]] ++ todoL left (right.drop (i + 1)), c ++ clashL left (right.drop (i + 1)))) = _
        rw [List.append_assoc]
        rfl
      | some x =>
        simp only [Option.isSome_some, Bool.not_true, cond_false, Option.isNone_some, Option.getD_some]
        rw [zal]
        cases hx : Tr (x = right[i]) with
        | true =>
          simp only [Bool.not_true, cond_false]
          exact ih (t, c) ⟨by show t.length ≤ _; omega, by show c.length ≤ _; omega⟩
        | false =>
          simp only [Bool.not_false, cond_true]
          refine (ih (t, c ++ [right[i].1]) ⟨by show t.length ≤ _; omega, by show (c ++ [right[i].1]).length ≤ _; simp; omega⟩).trans ?_
          show some (LE.brk (a, t ++ todoL left (right.drop (i + 1)), c ++ [right[i].1] ++ clashL left (right.drop (i + 1)))) = _
          rw [List.append_assoc]
          rfl) LP 0 ([], []) (Nat.zero_le _) (by omega) ⟨by simp, by simp⟩
  have htodo : (todoL left right).length ≤ right.length := List.length_filter_le _ _
  unfold z0r z0r.e
  rw [zb2 _ _ (by omega) (by omega) r0 r1, obind_some', ← hleft]
  show obind (z0r.l3 LP LP base a b left (left.length : Int) 0 []) _ = _
  rw [show z0r.l3 LP LP base a b left (left.length : Int) 0 [] = _ from loop1, obind_some', leF_brk]
  simp only [z0r.a3]
  rw [zb2 _ _ (by omega) (by omega) r0 r2, obind_some', ← hright]
  show obind (z0r.l10 LP LP a right (right.length : Int) 0 (keyed left) [] []) _ = _
  rw [show z0r.l10 LP LP a right (right.length : Int) 0 (keyed left) [] [] = _ from loop2, obind_some', leF_brk]
  simp only [z0r.a10, List.nil_append, List.drop_zero]
  have e1 : decide (((clashL left right).length : Int) > 0) = decide ((clashL left right).length > 0) := by rw [Bool.eq_iff_iff]; simp
  rw [e1, za3 _ _ (by omega) (by omega) r1, obind_some', z9x, obind_some']
  unfold mergeL mergeM mergeC toldL
  rw [← hleft, ← hright]
  cases decide ((clashL left right).length > 0) with
  | true => rfl
  | false =>
    simp only [cond_false]
    cases decide ((applyL a (todoL left right)).length > 12) <;> rfl
end Go.Vx

end
section
set_option linter.unusedVariables false
set_option linter.unusedSimpArgs false
namespace Go.Vx
open Go Go.Proofs Go.RowKit Go.Lib
def zab (l : List Ref) (n : ByteArray) (r : Int) : Prop := (∃ (j : Nat) (h : j < l.length), r = (j : Int) ∧ l[j].1 = n ∧ ∀ (i : Nat) (hi : i < j), (l[i]'(by omega)).1 ≠ n) ∨ (r = -1 ∧ ∀ x ∈ l, x.1 ≠ n)
theorem zfa {l : List Ref} {n : ByteArray} {r q : Int} (h1 : zab l n r) (h2 : zab l n q) : r = q := by
  rcases h1 with ⟨j, hj, rfl, e1, f1⟩ | ⟨rfl, n1⟩
  · rcases h2 with ⟨k, hk, rfl, e2, f2⟩ | ⟨rfl, n2⟩
    · have : j = k := by
        rcases Nat.lt_trichotomy j k with h | h | h
        · exact absurd e1 (f2 j h)
        · exact h
        · exact absurd e2 (f1 k h)
      rw [this]
    · exact absurd e1 (n2 _ (List.getElem_mem hj))
  · rcases h2 with ⟨k, hk, rfl, e2, f2⟩ | ⟨rfl, n2⟩
    · exact absurd e2 (n1 _ (List.getElem_mem hk))
    · rfl
theorem zc0 (l : List Ref) (n : ByteArray) (hl : l.length ≤ 1048576) : ∃ r, z2h LP l n = some r ∧ zab l n r := by
  have hLP := LP_ge
  have hloop := z7s (fun k i => z2h.l2 LP k l n i) l.length (fun i => ∃ h : i < l.length, l[i].1 = n) (fun i => (i : Int)) ()
    (fun k => by
      simp only [z2h.l2, z2h.b2]
      rw [decide_eq_false (by omega)]
      rfl) (fun k i hi => by
      simp only [z2h.l2, z2h.b2]
      simp (disch := omega) only [decide_eq_true, cond_true, z2e hi, z2r, seq_tr]
      refine z3u (fun q => ?_) (fun q => ?_)
      · rw [z2j ⟨hi, q⟩]; rfl
      · rw [z1b (fun w => q w.2)]; rfl) LP 0 (Nat.zero_le _) (by omega)
  rcases hloop with ⟨j, _, hj, ⟨_, hp⟩, hf, he⟩ | ⟨hn, he⟩
  · refine ⟨(j : Int), ?_, .inl ⟨j, hj, rfl, hp, fun i hi e => hf i (Nat.zero_le _) hi ⟨by omega, e⟩⟩⟩
    show obind (z2h.l2 LP LP l n 0) _ = _
    rw [show z2h.l2 LP LP l n 0 = _ from he]
    rfl
  · refine ⟨-1, ?_, .inr ⟨rfl, fun x hx e => ?_⟩⟩
    · show obind (z2h.l2 LP LP l n 0) _ = _
      rw [show z2h.l2 LP LP l n 0 = _ from he]
      rfl
    · obtain ⟨j, hj, rfl⟩ := List.getElem_of_mem hx
      exact hn j (Nat.zero_le _) hj ⟨hj, e⟩
theorem z9j (l : List Ref) (n : ByteArray) (hl : l.length ≤ 1048576) : ∃ r, z5q LP l n = some r ∧ zab l n r := by
  unfold z5q
  rcases z7z l (fun w => z51 w.1 n) (fun r => r.1 = n) hl (fun x _ => by
    show z51 x n = _
    unfold z51
    rw [seq_tr]) with ⟨j, hj, he, hp, hf⟩ | ⟨he, hn⟩
  · exact ⟨(j : Int), by rw [he]; rfl, .inl ⟨j, hj, rfl, hp, fun i hi => hf i hi⟩⟩
  · exact ⟨-1, by rw [he]; rfl, .inr ⟨rfl, hn⟩⟩
noncomputable def placeL (l : List Ref) (n : ByteArray) : Int := (z5q LP l n).getD 0
theorem zan (l : List Ref) (n : ByteArray) (hl : l.length ≤ 1048576) : z5q LP l n = some (placeL l n) := by
  obtain ⟨r, h, _⟩ := z9j l n hl
  unfold placeL
  rw [h]; rfl
theorem z8l (l : List Ref) (n : ByteArray) (hl : l.length ≤ 1048576) : zab l n (placeL l n) := by
  obtain ⟨r, h, hf⟩ := z9j l n hl
  unfold placeL
  rw [h]; exact hf
theorem zaq (l : List Ref) (n : ByteArray) (hl : l.length ≤ 1048576) : z2h LP l n = some (placeL l n) := by
  obtain ⟨r, h, hf⟩ := zc0 l n hl
  rw [h, zfa hf (z8l l n hl)]

def HeadP (r : Ref) : Prop := (r.2.2.2.1 = true → r.2.1 = 0) ∧ (r.2.2.2.1 = false → Inr r.2.1 1 60)
def RefP (r : Ref) : Prop := NameP r.1 ∧ Inr r.2.2.1 1 1000000 ∧ HeadP r
def Lone (l : List Ref) : Prop := ∀ (i j : Nat) (h : i < j) (hj : j < l.length), (l[i]'(by omega)).1 ≠ l[j].1
def RefsP (l : List Ref) : Prop := l.length ≤ 8 ∧ (∀ r ∈ l, RefP r) ∧ Lone l
theorem z8i (h : Int) : z3n h = some (Tr (Inr h 1 60)) := by
  unfold z3n
  rw [z4i]; rfl
theorem zej (r : Ref) : z6x LP r = some (Tr (RefP r)) := by
  unfold z6x
  rw [z7m, obind_some', z4i]
  refine z3u (fun q1 => ?_) (fun q => z2c (fun w => q w.1))
  rw [obind_some']
  refine z3u (fun q2 => ?_) (fun q => z2c (fun w => q w.2.1))
  rw [z8i, int_tr]
  cases hg : r.2.2.2.1 with
  | true =>
    simp only [cond_true, Bool.not_true, cond_false]
    refine z3u (fun q => z73 ⟨q1, q2, fun _ => q, fun h => (by rw [hg] at h; cases h)⟩) (fun q => z2c (fun w => q (w.2.2.1 hg)))
  | false =>
    simp only [cond_true, Bool.not_false, cond_false]
    exact z57 ⟨fun w => ⟨q1, q2, ⟨fun h => (by rw [hg] at h; cases h), fun _ => w⟩⟩, fun w => w.2.2.2 hg⟩
theorem ze2 (l : List Ref) (hl : l.length ≤ 1048576) : z26 LP l = some (Tr (RefsP l)) := by
  have hLP := LP_ge
  unfold z26 z26.e
  by_cases h8 : (l.length : Int) > 8
  · rw [decide_eq_true h8]
    exact z2c (fun w => by have := w.1; omega)
  rw [decide_eq_false h8, cond_false, z8m l _ RefP hl (fun x _ => zej x), obind_some']
  refine z2s (fun q => z2c (fun w => q w.2.1)) (fun q1 => ?_)
  have hloop := z7d (fun k i => z26.l4 LP k l l (l.length : Int) i) l.length (fun j => ∃ hj : j < l.length, ∀ (i : Nat) (h : i < j), (l[i]'(by omega)).1 ≠ l[j].1) false ()
    (fun k => by
      simp only [z26.l4, z26.b4]
      rw [decide_eq_false (by omega)]
      rfl) (fun k i hi => by
      simp only [z26.l4, z26.b4]
      simp (disch := omega) only [decide_eq_true, cond_true, z2e hi, oif_true, z2r, Int.toNat_natCast]
      have hlen : (l.take i).length = i := by rw [List.length_take]; omega
      rw [zan _ _ (by omega), obind_some']
      rcases z8l (l.take i) l[i].1 (by omega) with ⟨j, hj, he, hp, _⟩ | ⟨he, hn⟩
      · rw [he, decide_eq_true (by omega), z1b (fun w => w.2 j (by omega) (by rw [← hp, List.getElem_take]))]
        rfl
      · rw [he, z2j ⟨hi, fun j hj e => hn _ (List.getElem_mem (by omega : j < (l.take i).length)) (by rw [List.getElem_take]; exact e)⟩]
        rfl) LP 0 (Nat.zero_le _) (by omega)
  show obind (z26.l4 LP LP l l (l.length : Int) 0) _ = _
  rw [show z26.l4 LP LP l l (l.length : Int) 0 = _ from hloop]
  exact z75 rfl (fun q => z73 ⟨by omega, q1, fun i j h hj => (q j (Nat.zero_le _) hj).2 i h⟩) (fun q w => q (fun j _ hj => ⟨hj, fun i h => w.2.2 i j h hj⟩))
theorem zel (l : List Ref) (hl : l.length ≤ 1048576) : z2m LP l = some (Tr (RefsP l)) := by
  have hLP := LP_ge
  unfold z2m z2m.e
  by_cases h8 : (l.length : Int) > 8
  · rw [decide_eq_true h8]
    exact z2c (fun w => by have := w.1; omega)
  rw [decide_eq_false h8, cond_false]
  have hloop := z7d (fun k i => z2m.l4 LP k l i) l.length (fun j => ∃ hj : j < l.length, RefP l[j] ∧ ∀ (i : Nat) (h : i < j), (l[i]'(by omega)).1 ≠ l[j].1) false ()
    (fun k => by
      simp only [z2m.l4, z2m.b4]
      rw [decide_eq_false (by omega)]
      rfl) (fun k i hi => by
      simp only [z2m.l4, z2m.b4]
      simp (disch := omega) only [decide_eq_true, cond_true, z2e hi, z2r, z7i, z4z, obind_some']
      refine z2s (fun q => ?_) (fun q1 => ?_)
      · rw [z1b (fun w => q w.2.1.1)]; rfl
      refine z2s (fun q => ?_) (fun q2 => ?_)
      · rw [z1b (fun w => q w.2.1.2.1)]; rfl
      rw [zaq _ _ hl, obind_some']
      have hlone : (placeL l l[i].1 != (i : Int)) = !Tr (∀ (q : Nat) (h : q < i), (l[q]'(by omega)).1 ≠ l[i].1) := by
        rw [int_ne]
        congr 1
        refine z30 ?_
        rcases z8l l l[i].1 hl with ⟨j, hj, he, hp, hf⟩ | ⟨he, hn⟩
        · rw [he]
          constructor
          · intro e q h
            have : j = i := by omega
            subst this
            exact hf q h
          · intro ha
            rcases Nat.lt_trichotomy j i with h | h | h
            · exact absurd hp (ha j h)
            · rw [h]
            · exact absurd rfl (hf i h)
        · exact absurd rfl (hn _ (List.getElem_mem hi))
      rw [hlone]
      refine z2s (fun q => ?_) (fun q3 => ?_)
      · rw [z1b (fun w => q w.2.2)]; rfl
      cases hg : l[i].2.2.2.1 with
      | true =>
        simp only [cond_true, Bool.not_true, cond_false]
        rw [int_ne]
        refine z2s (fun q => ?_) (fun q => ?_)
        · rw [z1b (fun w => q (w.2.1.2.2.1 hg))]; rfl
        · rw [z2j ⟨hi, ⟨q1, q2, ⟨fun _ => q, fun h => (by rw [hg] at h; cases h)⟩⟩, q3⟩]; rfl
      | false =>
        simp only [cond_true, Bool.not_false, cond_false]
        refine z2s (fun q => ?_) (fun q => ?_)
        · rw [z1b (fun w => q (w.2.1.2.2.2 hg))]; rfl
        · rw [z2j ⟨hi, ⟨q1, q2, ⟨fun h => (by rw [hg] at h; cases h), fun _ => q⟩⟩, q3⟩]; rfl) LP 0 (Nat.zero_le _) (by omega)
  show obind (z2m.l4 LP LP l 0) _ = _
  rw [show z2m.l4 LP LP l 0 = _ from hloop]
  refine z75 rfl (fun q => z73 ⟨by omega, fun r hr => ?_, fun i j h hj => (q j (Nat.zero_le _) hj).2.2 i h⟩) (fun q w => q (fun j _ hj => ⟨hj, w.2.1 _ (List.getElem_mem hj), fun i h => w.2.2 i j h hj⟩))
  obtain ⟨j, hj, rfl⟩ := List.getElem_of_mem hr
  exact (q j (Nat.zero_le _) hj).2.1

def BaseP (b : Base) : Prop := StoreP b.1 ∧ RefsP b.2.1 ∧ ∀ r ∈ b.2.1, r.2.1 ≤ (b.1.length : Int)
theorem zac (b : Base) (hb : Sm TBase b) : z5m LP b = some (Tr (BaseP b)) := by
  have hl : b.2.1.length ≤ 1048576 := hb.2.1.1
  unfold z5m
  rw [z9q _ hb.1, obind_some', ze2 _ hl, obind_some']
  refine z3u (fun q1 => ?_) (fun q => z2c (fun w => q w.1))
  refine z3u (fun q2 => ?_) (fun q => z2c (fun w => q w.2.1))
  rw [z8m b.2.1 _ (fun r => r.2.1 ≤ (b.1.length : Int)) hl (fun x _ => by
    show z4t x b = _
    unfold z4t
    rw [Tr_dec])]
  exact z57 ⟨fun w => ⟨q1, q2, w⟩, fun w => w.2.2⟩
theorem zen (b : Base) (hb : Sm TBase b) : z2o LP b = some (Tr (BaseP b)) := by
  have hLP := LP_ge
  have hl : b.2.1.length ≤ 1048576 := hb.2.1.1
  unfold z2o z2o.e
  rw [zeo _ hb.1, obind_some', zel _ hl, obind_some']
  refine z2s (fun q => z2c (fun w => q w.1)) (fun q1 => ?_)
  refine z2s (fun q => z2c (fun w => q w.2.1)) (fun q2 => ?_)
  have hloop := z7d (fun k i => z2o.l4 LP k b.1 b.2.1 i) b.2.1.length (fun j => ∃ hj : j < b.2.1.length, b.2.1[j].2.1 ≤ (b.1.length : Int)) false ()
    (fun k => by
      simp only [z2o.l4, z2o.b4]
      rw [decide_eq_false (by omega)]
      rfl) (fun k i hi => by
      simp only [z2o.l4, z2o.b4]
      simp (disch := omega) only [decide_eq_true (p := (i : Int) < (b.2.1.length : Int)), cond_true, z2e hi, z2r]
      by_cases hh : b.2.1[i].2.1 ≤ (b.1.length : Int)
      · rw [decide_eq_false (by omega), z2j ⟨hi, hh⟩]; rfl
      · rw [decide_eq_true (by omega), z1b (fun w => hh w.2)]; rfl) LP 0 (Nat.zero_le _) (by omega)
  show obind (z2o.l4 LP LP b.1 b.2.1 0) _ = _
  rw [show z2o.l4 LP LP b.1 b.2.1 0 = _ from hloop]
  refine z75 rfl (fun q => z73 ⟨q1, q2, fun r hr => ?_⟩) (fun q w => q (fun j _ hj => ⟨hj, w.2.2 _ (List.getElem_mem hj)⟩))
  obtain ⟨j, hj, rfl⟩ := List.getElem_of_mem hr
  exact (q j (Nat.zero_le _) hj).2
end Go.Vx

end
section
set_option linter.unusedVariables false
set_option linter.unusedSimpArgs false
namespace Go.Vx
open Go Go.Proofs Go.RowKit Go.Lib
theorem zad {m : List Edit} (h : m.length = 0) : EditsP m := by
  have : m = [] := List.length_eq_zero_iff.1 h
  subst this
  exact ⟨Nat.zero_le _, fun e he => (by cases he), List.Pairwise.nil⟩
theorem z9o (o : Op) (ho : Sm TOp o) : ∃ b, z4y LP o = some b ∧ z68 LP o = some b := by
  obtain ⟨k, at', n, n2, es, u⟩ := o
  have hes : es.length ≤ 1048576 := ho.2.2.2.2.1.1
  unfold z4y z68
  simp only [z7i, z7m, obind_some', z4z, z81 es hes, z88 es hes, z4i, z8i]
  have hE : ¬ ((es.length : Int) > 0) → Tr (EditsP es) = true := fun h => z2j (zad (by omega))
  by_cases hL : (es.length : Int) > 0
  · rw [decide_eq_true hL]
    have hI : ∀ (q1 : ¬ k = 1) (q2 : ¬ k = 2) (q3 : ¬ k = 3) (q4 : ¬ k = 4) (q5 : ¬ k = 5) (q6 : ¬ k = 6), Tr (Inr k 1 6) = false := fun q1 q2 q3 q4 q5 q6 => z1b (fun w => by have := w.1; have := w.2; omega)
    generalize Tr (NameP n) = N
    generalize Tr (NameP n2) = T
    generalize Tr (EditsP es) = E
    generalize Tr (Inr at' 1 60) = H
    generalize Tr (Inr at' 0 60) = H0
    generalize (at' == 0) = Z
    generalize (n2.toList == (⟨#[]⟩ : ByteArray).toList) = Y
    by_cases q1 : k = 1
    · subst q1
      cases N <;> cases T <;> cases E <;> cases Y <;> simp [Tr, Inr]
    by_cases q2 : k = 2
    · subst q2
      cases N <;> cases T <;> cases E <;> cases Y <;> simp [Tr, Inr]
    by_cases q3 : k = 3
    · subst q3
      cases N <;> cases T <;> cases E <;> cases Y <;> cases H0 <;> simp [Tr, Inr]
    by_cases q4 : k = 4
    · subst q4
      cases N <;> cases T <;> cases E <;> cases Y <;> simp [Tr, Inr]
    by_cases q5 : k = 5
    · subst q5
      cases N <;> cases T <;> cases E <;> cases Y <;> cases Z <;> simp [Tr, Inr]
    by_cases q6 : k = 6
    · subst q6
      cases N <;> cases T <;> cases E <;> cases Y <;> simp [Tr, Inr]
    rw [hI q1 q2 q3 q4 q5 q6]
    have e1 : (k == 1) = false := by simpa using q1
    have e2 : (k == 2) = false := by simpa using q2
    have e3 : (k == 3) = false := by simpa using q3
    have e4 : (k == 4) = false := by simpa using q4
    have e5 : (k == 5) = false := by simpa using q5
    have e6 : (k == 6) = false := by simpa using q6
    simp only [neq_int, e1, e2, e3, e4, e5, e6]
    cases N <;> cases Y <;> simp
  · rw [decide_eq_false hL, hE hL]
    have hI : ∀ (q1 : ¬ k = 1) (q2 : ¬ k = 2) (q3 : ¬ k = 3) (q4 : ¬ k = 4) (q5 : ¬ k = 5) (q6 : ¬ k = 6), Tr (Inr k 1 6) = false := fun q1 q2 q3 q4 q5 q6 => z1b (fun w => by have := w.1; have := w.2; omega)
    generalize Tr (NameP n) = N
    generalize Tr (NameP n2) = T
    generalize Tr (Inr at' 1 60) = H
    generalize Tr (Inr at' 0 60) = H0
    generalize (at' == 0) = Z
    generalize (n2.toList == (⟨#[]⟩ : ByteArray).toList) = Y
    by_cases q1 : k = 1
    · subst q1
      cases N <;> cases T <;> cases Y <;> simp [Tr, Inr]
    by_cases q2 : k = 2
    · subst q2
      cases N <;> cases T <;> cases Y <;> simp [Tr, Inr]
    by_cases q3 : k = 3
    · subst q3
      cases N <;> cases T <;> cases Y <;> cases H0 <;> simp [Tr, Inr]
    by_cases q4 : k = 4
    · subst q4
      cases N <;> cases T <;> cases Y <;> simp [Tr, Inr]
    by_cases q5 : k = 5
    · subst q5
      cases N <;> cases T <;> cases Y <;> cases Z <;> simp [Tr, Inr]
    by_cases q6 : k = 6
    · subst q6
      cases N <;> cases T <;> cases Y <;> simp [Tr, Inr]
    rw [hI q1 q2 q3 q4 q5 q6]
    have e1 : (k == 1) = false := by simpa using q1
    have e2 : (k == 2) = false := by simpa using q2
    have e3 : (k == 3) = false := by simpa using q3
    have e4 : (k == 4) = false := by simpa using q4
    have e5 : (k == 5) = false := by simpa using q5
    have e6 : (k == 6) = false := by simpa using q6
    simp only [neq_int, e1, e2, e3, e4, e5, e6]
    cases N <;> cases Y <;> simp

theorem zfr : Tr (Inr 1 1 60) = true := z2j ⟨by omega, by omega⟩
theorem zft : Tr (Inr 0 0 60) = true := z2j ⟨by omega, by omega⟩
theorem zd3 (es : List Edit) (h : es.length ≤ 1048576) : z6a es = some es := by
  unfold z6a
  rw [decide_eq_true (by omega)]; rfl
theorem z80 (o : Wish) (ho : Sm TWish o) : ∃ b, z52 LP o = some b ∧ z5u LP o = some b ∧ (b = true → Inr o.1 1 6 ∧ EditsP o.2.2.2.2.1) := by
  obtain ⟨k, n, sr, n2, es, u⟩ := o
  have hes : es.length ≤ 1048576 := ho.2.2.2.2.1.1
  unfold z52 z5u z68 z3z z49
  simp only [z7i, z7m, obind_some', z4z, z81 es hes, z88 es hes, z4i, z8i, zd3 es hes, zfr, zft]
  have hE : ¬ ((es.length : Int) > 0) → Tr (EditsP es) = true := fun h => z2j (zad (by omega))
  by_cases hL : (es.length : Int) > 0
  · rw [decide_eq_true hL]
    have hI : ∀ (q1 : ¬ k = 1) (q2 : ¬ k = 2) (q3 : ¬ k = 3) (q4 : ¬ k = 4) (q5 : ¬ k = 5) (q6 : ¬ k = 6), Tr (Inr k 1 6) = false := fun q1 q2 q3 q4 q5 q6 => z1b (fun w => by have := w.1; have := w.2; omega)
    have hEP : Tr (EditsP es) = true → EditsP es := Tr_iff.1
    generalize Tr (NameP n) = N
    generalize Tr (NameP n2) = T
    generalize Tr (NameP sr) = S
    generalize Tr (EditsP es) = E at hEP ⊢
    generalize (n2.toList == (⟨#[]⟩ : ByteArray).toList) = Y
    generalize (sr.toList == (⟨#[]⟩ : ByteArray).toList) = X
    by_cases q1 : k = 1
    · subst q1
      cases N <;> cases T <;> cases S <;> cases E <;> cases Y <;> cases X <;> simp [Tr, Inr, hEP]
    by_cases q2 : k = 2
    · subst q2
      cases N <;> cases T <;> cases S <;> cases E <;> cases Y <;> cases X <;> simp [Tr, Inr, hEP]
    by_cases q3 : k = 3
    · subst q3
      cases N <;> cases T <;> cases S <;> cases E <;> cases Y <;> cases X <;> simp [Tr, Inr, hEP]
    by_cases q4 : k = 4
    · subst q4
      cases N <;> cases T <;> cases S <;> cases E <;> cases Y <;> cases X <;> simp [Tr, Inr, hEP]
    by_cases q5 : k = 5
    · subst q5
      cases N <;> cases T <;> cases S <;> cases E <;> cases Y <;> cases X <;> simp [Tr, Inr, hEP]
    by_cases q6 : k = 6
    · subst q6
      cases N <;> cases T <;> cases S <;> cases E <;> cases Y <;> cases X <;> simp [Tr, Inr, hEP]
    rw [hI q1 q2 q3 q4 q5 q6]
    have e1 : (k == 1) = false := by simpa using q1
    have e2 : (k == 2) = false := by simpa using q2
    have e3 : (k == 3) = false := by simpa using q3
    have e4 : (k == 4) = false := by simpa using q4
    have e5 : (k == 5) = false := by simpa using q5
    have e6 : (k == 6) = false := by simpa using q6
    simp only [neq_int, e1, e2, e3, e4, e5, e6]
    cases N <;> cases Y <;> cases X <;> simp
  · rw [decide_eq_false hL, hE hL]
    have hI : ∀ (q1 : ¬ k = 1) (q2 : ¬ k = 2) (q3 : ¬ k = 3) (q4 : ¬ k = 4) (q5 : ¬ k = 5) (q6 : ¬ k = 6), Tr (Inr k 1 6) = false := fun q1 q2 q3 q4 q5 q6 => z1b (fun w => by have := w.1; have := w.2; omega)
    have hEP : EditsP es := Tr_iff.1 (hE hL)
    generalize Tr (NameP n) = N
    generalize Tr (NameP n2) = T
    generalize Tr (NameP sr) = S
    generalize (n2.toList == (⟨#[]⟩ : ByteArray).toList) = Y
    generalize (sr.toList == (⟨#[]⟩ : ByteArray).toList) = X
    by_cases q1 : k = 1
    · subst q1
      cases N <;> cases T <;> cases S <;> cases Y <;> cases X <;> simp [Tr, Inr, hEP]
    by_cases q2 : k = 2
    · subst q2
      cases N <;> cases T <;> cases S <;> cases Y <;> cases X <;> simp [Tr, Inr, hEP]
    by_cases q3 : k = 3
    · subst q3
      cases N <;> cases T <;> cases S <;> cases Y <;> cases X <;> simp [Tr, Inr, hEP]
    by_cases q4 : k = 4
    · subst q4
      cases N <;> cases T <;> cases S <;> cases Y <;> cases X <;> simp [Tr, Inr, hEP]
    by_cases q5 : k = 5
    · subst q5
      cases N <;> cases T <;> cases S <;> cases Y <;> cases X <;> simp [Tr, Inr, hEP]
    by_cases q6 : k = 6
    · subst q6
      cases N <;> cases T <;> cases S <;> cases Y <;> cases X <;> simp [Tr, Inr, hEP]
    rw [hI q1 q2 q3 q4 q5 q6]
    have e1 : (k == 1) = false := by simpa using q1
    have e2 : (k == 2) = false := by simpa using q2
    have e3 : (k == 3) = false := by simpa using q3
    have e4 : (k == 4) = false := by simpa using q4
    have e5 : (k == 5) = false := by simpa using q5
    have e6 : (k == 6) = false := by simpa using q6
    simp only [neq_int, e1, e2, e3, e4, e5, e6]
    cases N <;> cases Y <;> cases X <;> simp
def WishP (w : Wish) : Prop := z52 LP w = some true
theorem z9u (w : Wish) (hw : Sm TWish w) : z52 LP w = some (Tr (WishP w)) := by
  obtain ⟨b, h, _, _⟩ := z80 w hw
  unfold WishP
  rw [h]
  cases b with
  | true => exact z73 rfl
  | false => exact z2c (fun h => by cases h)
theorem zdw (w : Wish) (hw : Sm TWish w) : z5u LP w = some (Tr (WishP w)) := by
  obtain ⟨b, h, h2, _⟩ := z80 w hw
  rw [h2, ← h, z9u w hw]
theorem zf8 (w : Wish) (hw : Sm TWish w) (h : WishP w) : Inr w.1 1 6 ∧ EditsP w.2.2.2.2.1 := by
  obtain ⟨b, h1, _, h2⟩ := z80 w hw
  unfold WishP at h
  rw [h1] at h
  exact h2 (Option.some.inj h)
def OpP (w : Op) : Prop := z4y LP w = some true
theorem zao (w : Op) (hw : Sm TOp w) : z4y LP w = some (Tr (OpP w)) := by
  obtain ⟨b, h, _⟩ := z9o w hw
  unfold OpP
  rw [h]
  cases b with
  | true => exact z73 rfl
  | false => exact z2c (fun h => by cases h)
theorem zez (w : Op) (hw : Sm TOp w) : z68 LP w = some (Tr (OpP w)) := by
  obtain ⟨b, h, h2⟩ := z9o w hw
  rw [h2, ← h, zao w hw]
def zdt (l : List Wish) : Prop := l.length ≤ 6 ∧ ∀ w ∈ l, WishP w
theorem zbo (l : List Wish) (hl : Sm (.sl TWish) l) : z0x LP l = some (Tr (zdt l)) := by
  have hLP := LP_ge
  have hm : l.length ≤ 1048576 := hl.1
  unfold z0x z0x.e
  by_cases h8 : (l.length : Int) > 6
  · rw [decide_eq_true h8]
    exact z2c (fun w => by have := w.1; omega)
  rw [decide_eq_false h8, cond_false]
  have hloop := z7d (fun k i => z0x.l4 LP k l i) l.length (fun j => ∃ hj : j < l.length, WishP l[j]) false ()
    (fun k => by
      simp only [z0x.l4, z0x.b4]
      rw [decide_eq_false (by omega)]
      rfl) (fun k i hi => by
      simp only [z0x.l4, z0x.b4]
      simp (disch := omega) only [decide_eq_true, cond_true, z2e hi, z2r]
      rw [z9u _ (hl.2 _ (List.getElem_mem hi)), obind_some']
      refine z2s (fun q => ?_) (fun q => ?_)
      · rw [z1b (fun w => q w.2)]; rfl
      · rw [z2j ⟨hi, q⟩]; rfl) LP 0 (Nat.zero_le _) (by omega)
  show obind (z0x.l4 LP LP l 0) _ = _
  rw [show z0x.l4 LP LP l 0 = _ from hloop]
  refine z75 rfl (fun q => z73 ⟨by omega, fun r hr => ?_⟩) (fun q w => q (fun j _ hj => ⟨hj, w.2 _ (List.getElem_mem hj)⟩))
  obtain ⟨j, hj, rfl⟩ := List.getElem_of_mem hr
  exact (q j (Nat.zero_le _) hj).2
theorem zdl (l : List Wish) (hl : Sm (.sl TWish) l) : z3v LP l (fun w => z5u LP w.1) = some (Tr (∀ w ∈ l, WishP w)) :=
  zat l _ WishP hl.1 (fun w hw => zdw w (hl.2 w hw))
end Go.Vx

end
section
set_option linter.unusedVariables false
set_option linter.unusedSimpArgs false
namespace Go.Vx
open Go Go.Proofs Go.RowKit Go.Lib
theorem zeb (x y : Entry) : ((x.1 == y.1) && (x.2.1 == y.2.1)) = Tr (x = y) := by
  rw [za4, int_tr, Tr_and]
  refine z30 ⟨fun h => ?_, fun h => by rw [h]; exact ⟨rfl, rfl⟩⟩
  obtain ⟨a, b, u⟩ := x
  obtain ⟨c, d, v⟩ := y
  obtain ⟨h1, h2⟩ := h
  show (a, b, u) = (c, d, v)
  rw [show a = c from h1, show b = d from h2]
theorem z7o (a b : List Entry) (ha : a.length ≤ 1048576) (hb : b.length ≤ 1048576) : z17 LP a b = some (Tr (a = b)) := by
  have hLP := LP_ge
  unfold z17 z17.e
  rw [int_ne]
  refine z2s (fun q => z2c (fun h => q (by rw [h]))) (fun q => ?_)
  have hlen : a.length = b.length := by omega
  exact z6d hlen (fun k i => z17.l4 LP k a b i) (fun k => by
      simp only [z17.l4, z17.b4]
      rw [decide_eq_false (by omega)]
      rfl) (fun k i hi hj => by
      simp only [z17.l4, z17.b4]
      simp (disch := omega) only [decide_eq_true, cond_true, z2e hi, z2e hj, z2r, zeb]
      refine z2s (fun q => by rw [z1b q]; rfl) (fun q => by rw [z2j q]; rfl)) LP (by omega)
theorem z7h (a b : List Entry) (ha : a.length ≤ 1048576) (hb : b.length ≤ 1048576) : z0h LP a b = some (Tr (a = b)) := by
  have hLP := LP_ge
  unfold z0h z0h.e
  rw [int_ne]
  refine z2s (fun q => z2c (fun h => q (by rw [h]))) (fun q => ?_)
  have hlen : a.length = b.length := by omega
  exact z6d hlen (fun k i => z0h.l4 LP k a b (a.length : Int) i) (fun k => by
      simp only [z0h.l4, z0h.b4]
      rw [decide_eq_false (by omega)]
      rfl) (fun k i hi hj => by
      simp only [z0h.l4, z0h.b4]
      simp (disch := omega) only [decide_eq_true, cond_true, z2e hi, z2e hj, z2r, zeb]
      refine z2s (fun q => by rw [z1b q]; rfl) (fun q => by rw [z2j q]; rfl)) LP (by omega)

theorem z8r {s : List Commit} (hs : StoreP s) {n : Nat} (h1 : 1 ≤ n) (h2 : n ≤ s.length) : ∃ h : n - 1 < s.length, s[n - 1].2.1.length ≤ 12 ∧ RiseE s[n - 1].2.1 := by
  refine ⟨by omega, ?_⟩
  obtain ⟨w, _⟩ := hs.2.2 (n - 1) (by omega)
  exact ⟨w.1, w.2.2⟩
theorem z7c {R α : Type} {s : List α} {n : Nat} (h1 : 1 ≤ n) (h2 : n - 1 < s.length) (hl : s.length ≤ 1048576) (K : α → Option R) : oget s (IntKind.i64.wrap ((n : Int) - 1)) K = K s[n - 1] := by
  rw [z2r (by omega) (by omega), show (n : Int) - 1 = ((n - 1 : Nat) : Int) by omega, z2e h2]
theorem zev (m : List Entry) (c : List ByteArray) : (toldL m c).1.length ≤ 12 := by
  unfold toldL
  by_cases h1 : c.length > 0
  · rw [decide_eq_true h1]
    exact Nat.zero_le _
  · rw [decide_eq_false h1]
    by_cases h2 : m.length > 12
    · rw [decide_eq_true h2]
      exact Nat.zero_le _
    · rw [decide_eq_false h2]
      show m.length ≤ 12
      omega
theorem z7u (m : List Entry) (cl : List ByteArray) (c : Int) (ps : List Int) : ∃ m' ps' cl', z3m m cl c ps = some (false, m', ps', cl', c, ()) ∧ (c = 0 → m' = m ∧ ps' = ps ∧ cl' = []) ∧ (c ≠ 0 → m' = [] ∧ ps' = [] ∧ cl' = cl) := by
  unfold z3m
  rw [int_ne]
  by_cases h : c = 0
  · rw [z2j h]
    exact ⟨m, ps, [], by rw [h]; rfl, fun _ => ⟨rfl, rfl, rfl⟩, fun h' => absurd h h'⟩
  · rw [z1b h]
    exact ⟨[], [], cl, rfl, fun h' => absurd h' h, fun _ => ⟨rfl, rfl, rfl⟩⟩
theorem zfh (b : Base) (hs : StoreP b.1) (hm : Sm (.sl TCommit) b.1) (op : Op) (hk : op.1 = 4) {src h : Nat} (hsrc : op.2.1 = (src : Int)) (s1 : 1 ≤ src) (s2 : src ≤ b.1.length) (h1 : 1 ≤ h) (h2 : h ≤ b.1.length) :
    ∃ f m r c m' ps cl, z5v LP b.1 (h : Int) (src : Int) = some (f, m, (c, r)) ∧ z36 LP b op (h : Int) = some (f, m', ps, cl, c, ()) ∧ (c = 0 → m' = m ∧ m.length ≤ 12) := by
  have hl : b.1.length ≤ 1048576 := hm.1
  unfold z5v z36
  rw [hk, hsrc, show ((4 : Int) == 3) = false from rfl, cond_false]
  rw [zcy hs hm h1 h2 s1 s2, za6 hs hm h1 h2 s1 s2, obind_some', obind_some', int_tr, int_tr]
  obtain ⟨b1, b2⟩ := zfx hs h1 h2 s1 s2
  by_cases q1 : ((base b.1 h src : Nat) : Int) = (src : Int)
  · rw [z2j q1]
    exact ⟨_, _, _, _, _, _, _, rfl, rfl, fun h => ⟨rfl, Nat.zero_le _⟩⟩
  rw [z1b q1, cond_false, cond_false]
  by_cases q2 : ((base b.1 h src : Nat) : Int) = (h : Int)
  · rw [z2j q2]
    exact ⟨_, _, _, _, _, _, _, rfl, rfl, fun h => ⟨rfl, Nat.zero_le _⟩⟩
  rw [z1b q2, cond_false, cond_false]
  have b3 : base b.1 h src ≤ b.1.length := by omega
  obtain ⟨i1, l1, r1⟩ := z8r hs b1 b3
  obtain ⟨i2, l2, r2⟩ := z8r hs h1 h2
  obtain ⟨i3, l3, r3⟩ := z8r hs s1 s2
  unfold z40
  rw [za6 hs hm h1 h2 s1 s2, obind_some', z7c b1 i1 hl, z7c h1 i2 hl, z7c s1 i3 hl, z7c b1 i1 hl, z7c h1 i2 hl, z7c s1 i3 hl]
  rw [z9e _ _ _ (by omega) (by omega) (by omega) r1 r2 r3, zam _ _ _ (by omega) (by omega) (by omega) r1 r2 r3, obind_some', obind_some', z9m, obind_some']
  unfold mergeL
  generalize mergeM b.1[base b.1 h src - 1].2.1 b.1[h - 1].2.1 b.1[src - 1].2.1 = M
  generalize mergeC b.1[base b.1 h src - 1].2.1 b.1[h - 1].2.1 b.1[src - 1].2.1 = C
  have htl := zev M C
  generalize toldL M C = T at htl
  obtain ⟨m', ps, cl, e, e2, _⟩ := z7u T.1 T.2.1 T.2.2 [(h : Int), (src : Int)]
  refine ⟨_, _, _, _, m', ps, cl, rfl, ?_, fun hz => ⟨(e2 hz).1, htl⟩⟩
  show obind (z3m T.1 T.2.1 T.2.2 [(h : Int), (src : Int)]) _ = _
  rw [e]
  rfl
theorem zf2 (b : Base) (hs : StoreP b.1) (hm : Sm (.sl TCommit) b.1) (op : Op) (hk : op.1 = 3) {src h : Nat} (hsrc : op.2.1 = (src : Int)) (he : op.2.2.2.2.1.length ≤ 400000) (s1 : 1 ≤ src) (s2 : src ≤ b.1.length) (h1 : 1 ≤ h) (h2 : h ≤ b.1.length) :
    ∃ m r c m' ps cl, z5p LP b.1 (src : Int) (h : Int) op.2.2.2.2.1 = some (m, (c, r)) ∧ z36 LP b op (h : Int) = some (false, m', ps, cl, c, ()) ∧ (c = 0 → m' = m ∧ m.length ≤ 12) := by
  have hl : b.1.length ≤ 1048576 := hm.1
  unfold z5p z36 z3q
  rw [hk, hsrc, show ((3 : Int) == 3) = true from rfl, cond_true, int_tr, z1b (by omega), cond_false]
  obtain ⟨i2, l2, r2⟩ := z8r hs h1 h2
  obtain ⟨i3, l3, r3⟩ := z8r hs s1 s2
  simp only [z7c h1 i2 hl, z7c s1 i3 hl]
  rw [z9h _ _ (by omega) (by omega), za3 _ _ (by omega) (by omega) r3, obind_some', obind_some', z9x, obind_some']
  have hra := zcq op.2.2.2.2.1 r3
  generalize applyL b.1[src - 1].2.1 op.2.2.2.2.1 = A at hra
  by_cases hA : A.length > 12
  · rw [decide_eq_true hA, decide_eq_true (by omega)]
    exact ⟨_, _, _, _, _, _, rfl, rfl, fun h => ⟨rfl, Nat.zero_le _⟩⟩
  rw [decide_eq_false hA, decide_eq_false (by omega)]
  simp only [cond_false, neq_int, show ((0:Int) == 0) = true from rfl, Bool.not_true]
  rw [z9e _ _ _ (by omega) (by omega) (by omega) r3 hra r2, zam _ _ _ (by omega) (by omega) (by omega) r3 hra r2, obind_some', obind_some', z9m, obind_some']
  unfold mergeL
  generalize mergeM b.1[src - 1].2.1 A b.1[h - 1].2.1 = M
  generalize mergeC b.1[src - 1].2.1 A b.1[h - 1].2.1 = C
  have htl := zev M C
  generalize toldL M C = T at htl
  simp only [int_tr]
  by_cases hz : T.2.2 = 0
  · rw [z2j hz]
    simp only [cond_true]
    rw [z7o _ _ (by omega) (by omega), z7h _ _ (by omega) (by omega), obind_some', obind_some']
    by_cases hsame : T.1 = b.1[h - 1].2.1
    · rw [z2j hsame]
      obtain ⟨m', ps, cl, e, e2, _⟩ := z7u T.1 T.2.1 18 [(h : Int)]
      refine ⟨_, _, _, m', ps, cl, rfl, ?_, fun hz => by omega⟩
      simp only [cond_true]
      rw [e]
      rfl
    · rw [z1b hsame]
      obtain ⟨m', ps, cl, e, e2, _⟩ := z7u T.1 T.2.1 T.2.2 [(h : Int)]
      refine ⟨_, _, _, m', ps, cl, rfl, ?_, fun hz => ⟨(e2 hz).1, htl⟩⟩
      simp only [cond_false]
      rw [e]
      rfl
  · rw [z1b hz]
    obtain ⟨m', ps, cl, e, e2, _⟩ := z7u T.1 T.2.1 T.2.2 [(h : Int)]
    refine ⟨_, _, _, m', ps, cl, rfl, ?_, fun hz => ⟨(e2 hz).1, htl⟩⟩
    simp only [cond_false]
    rw [e]
    rfl
end Go.Vx

end
section
set_option linter.unusedVariables false
set_option linter.unusedSimpArgs false
namespace Go.Vx
open Go Go.Proofs Go.RowKit Go.Lib
theorem zfn (fast : Int) (f : Bool) (p q : Prop) (hpq : p ↔ q) :
    cond ((fast == 1) == f) (cond (Tr (Inr fast 0 1)) (some (Tr p)) (some false)) (some false) = some (Tr (fast = cond f 1 0 ∧ p)) ∧
    obind (z74 f) (fun t => cond (fast == t) (some (Tr q)) (some false)) = some (Tr (fast = cond f 1 0 ∧ p)) := by
  unfold z74
  cases f with
  | true =>
    simp only [cond_true, obind_some', int_tr, beq_true]
    constructor
    · refine z3u (fun w => ?_) (fun w => z2c (fun x => w x.1))
      rw [z2j ⟨by omega, by omega⟩]
      exact z57 ⟨fun x => ⟨w, x⟩, fun x => x.2⟩
    · exact z3u (fun w => z57 ⟨fun x => ⟨w, hpq.2 x⟩, fun x => hpq.1 x.2⟩) (fun w => z2c (fun x => w x.1))
  | false =>
    simp only [cond_false, obind_some', int_tr, beq_false]
    constructor
    · refine z2s (fun w => ?_) (fun w => z2c (fun x => by have := x.1; omega))
      refine z3u (fun v => ?_) (fun v => z2c (fun x => v ⟨by have := x.1; omega, by have := x.1; omega⟩))
      exact z57 ⟨fun x => ⟨by have := v.1; have := v.2; omega, x⟩, fun x => x.2⟩
    · exact z3u (fun w => z57 ⟨fun x => ⟨w, hpq.2 x⟩, fun x => hpq.1 x.2⟩) (fun w => z2c (fun x => w x.1))
theorem zfo (b : Base) (hs : StoreP b.1) (hm : Sm (.sl TCommit) b.1) (w : Wish) (hl : w.2.2.2.2.1.length ≤ 400000) (hk : w.1 = 4 ∨ w.1 = 3) (src h : Int) (hsrc : Inr src 1 b.1.length) (hh : Inr h 1 b.1.length) :
    ∃ f m r c m' ps cl, z4j LP b.1 w src h = some (f, m, (c, r)) ∧ z36 LP b (w.1, src, w.2.1, w.2.2.2.1, w.2.2.2.2.1, ()) h = some (f, m', ps, cl, c, ()) ∧ (c = 0 → m' = m ∧ m.length ≤ 12) := by
  obtain ⟨s1, s2⟩ := hsrc
  obtain ⟨h1, h2⟩ := hh
  have e1 : src = ((src.toNat : Nat) : Int) := by omega
  have e2 : h = ((h.toNat : Nat) : Int) := by omega
  have a1 : 1 ≤ src.toNat := by omega
  have a2 : src.toNat ≤ b.1.length := by omega
  have a3 : 1 ≤ h.toNat := by omega
  have a4 : h.toNat ≤ b.1.length := by omega
  unfold z4j
  rcases hk with hk | hk
  · obtain ⟨f, m, r, c, m', ps, cl, g1, g2, g3⟩ := zfh b hs hm (w.1, src, w.2.1, w.2.2.2.1, w.2.2.2.2.1, ()) hk e1 a1 a2 a3 a4
    rw [← e2] at g1 g2
    rw [← e1] at g1
    rw [hk, show ((4:Int) == 4) = true from rfl, cond_true, g1]
    rw [hk] at g2
    exact ⟨f, m, r, c, m', ps, cl, rfl, g2, g3⟩
  · obtain ⟨m, r, c, m', ps, cl, g1, g2, g3⟩ := zf2 b hs hm (w.1, src, w.2.1, w.2.2.2.1, w.2.2.2.2.1, ()) hk e1 hl a1 a2 a3 a4
    rw [← e2] at g1 g2
    rw [← e1] at g1
    rw [hk, show ((3:Int) == 4) = false from rfl, cond_false]
    rw [hk] at g2
    exact ⟨false, m, r, c, m', ps, cl, by rw [show z5p LP b.1 src h w.2.2.2.2.1 = _ from g1]; rfl, g2, g3⟩
theorem plan_k (b : Base) (hs : StoreP b.1) (hm : Sm (.sl TCommit) b.1) (w : Wish) (hl : w.2.2.2.2.1.length ≤ 400000) (hk : w.1 = 4 ∨ w.1 = 3) (src h fast : Int) (cm : List Entry) (hcm : cm.length ≤ 1048576) (hsrc : Inr src 1 b.1.length) (hh : Inr h 1 b.1.length) :
    ∃ q,
    (obind (z4j LP b.1 w src h) fun (t6 : Bool × (List Entry) × Result) => cond (t6.2.2.1 == (0:Int)) (cond ((fast == 1) == t6.1) (cond (Tr (Inr fast 0 1)) (obind (z17 LP t6.2.1 cm) fun (t9 : Bool) => some t9) (some false)) (some false)) (some false)) = some (Tr q) ∧
    (obind (z36 LP b (w.1, src, w.2.1, w.2.2.2.1, w.2.2.2.2.1, ()) h) fun (t12 : Plan) => cond (t12.2.2.2.2.1 == (0:Int)) (obind (z74 t12.1) fun (t13 : Int) => cond (fast == t13) (obind (z0h LP cm t12.2.1) fun (t14 : Bool) => some t14) (some false)) (some false)) = some (Tr q) := by
  obtain ⟨f, m, r, c, m', ps, cl, g1, g2, g3⟩ := zfo b hs hm w hl hk src h hsrc hh
  rw [g1, g2, obind_some', obind_some']
  simp only [int_tr (b := 0)]
  by_cases hc : c = 0
  · obtain ⟨rfl, hml⟩ := g3 hc
    obtain ⟨x, y⟩ := zfn fast f (m' = cm) (cm = m') ⟨fun e => e.symm, fun e => e.symm⟩
    refine ⟨fast = cond f 1 0 ∧ m' = cm, ?_, ?_⟩
    · rw [z2j hc, cond_true, ← x, z7o _ _ (by omega) hcm]
      rfl
    · rw [z2j hc, cond_true, ← y]
      simp only [z7h _ _ hcm (by omega : m'.length ≤ 1048576)]
      rfl
  · refine ⟨False, ?_, ?_⟩ <;> rw [z1b hc, cond_false, Tr_F]
theorem zfb (b : Base) (hs : StoreP b.1) (hm : Sm (.sl TCommit) b.1) (c : Client) (hc : Sm TClient c) (hi : Inr c.2.1 0 c.1.length) (hp : Inr c.2.2.1 0 2) (hd : c.2.1 = (c.1.length : Int) → c.2.2.1 = 0) (hw : ∀ w ∈ c.1, WishP w) :
    ∃ r, z4l LP b c = some r ∧ z2x LP c b = some r := by
  obtain ⟨ws, i, ph, src, h, ver, tries, fast, m, u⟩ := c
  have hwl : ws.length ≤ 1048576 := hc.1.1
  have hml : m.length ≤ 1048576 := hc.2.2.2.2.2.2.2.2.1.1
  unfold z4l z2x z3g z3j z3w z54 z3z z49
  simp only [z4z, z4i, obind_some'] at hi hp hd hw ⊢
  have h0 : Inr ph 0 2 := hp
  by_cases q0 : ph = 0
  · subst q0
    generalize (h == 0) = A
    generalize (ver == 0) = B
    generalize (fast == 0) = C
    generalize ((m.length : Int) == 0) = D
    generalize (src == 0) = E
    generalize (tries == 0) = F
    cases A <;> cases B <;> cases C <;> cases D <;> cases E <;> cases F <;> simp
  have hlt : i < (ws.length : Int) := by
    have h1 : i ≤ (ws.length : Int) := hi.2
    rcases Int.lt_or_eq_of_le h1 with h2 | h2
    · exact h2
    · exact absurd (hd h2) q0
  have hi0 : 0 ≤ i := hi.1
  have hn : i.toNat < ws.length := by omega
  obtain ⟨hk, hed⟩ := zf8 ws[i.toNat] (hc.1.2 _ (List.getElem_mem hn)) (hw _ (List.getElem_mem hn))
  have hed2 : ws[i.toNat].2.2.2.2.1.length ≤ 6 := hed.1
  simp only [z7j hi0 hn, obind_some', zd3 _ (show ws[i.toNat].2.2.2.2.1.length ≤ 1048576 by omega)]
  have hK := plan_k b hs hm ws[i.toNat] (by omega)
  rw [show (i == (ws.length : Int)) = false by simp; omega]
  generalize ws[i.toNat] = w at hk hed hed2 hK ⊢
  obtain ⟨k, wn, wsr, wto, wes, wu⟩ := w
  simp only at hk hK ⊢
  have hk6 : k = 1 ∨ k = 2 ∨ k = 3 ∨ k = 4 ∨ k = 5 ∨ k = 6 := by have := hk.1; have := hk.2; omega
  have hph : ph = 1 ∨ ph = 2 := by have := h0.1; have := h0.2; omega
  rcases hph with rfl | rfl
  · generalize (h == 0) = A
    generalize (ver == 0) = B
    generalize (fast == 0) = C
    generalize ((m.length : Int) == 0) = D
    generalize (tries == 0) = F
    generalize decide (tries > 0) = F2
    generalize Tr (Inr src 1 b.1.length) = I
    generalize Tr (Inr tries 0 3) = J
    rw [show Tr (Inr 1 1 2) = true from z2j ⟨by omega, by omega⟩]
    rcases hk6 with rfl | rfl | rfl | rfl | rfl | rfl <;> cases A <;> cases B <;> cases C <;> cases D <;> cases I <;> cases J <;> simp
    all_goals cases F <;> cases F2 <;> simp
  · rw [show Tr (Inr 2 1 2) = true from z2j ⟨by omega, by omega⟩]
    rcases hk6 with rfl | rfl | rfl | rfl | rfl | rfl
    · generalize (h == 0) = A
      generalize (ver == 0) = B
      generalize (fast == 0) = C
      generalize Tr (Inr src 1 b.1.length) = I
      generalize Tr (Inr tries 0 3) = J
      cases A <;> cases B <;> cases C <;> cases I <;> cases J <;> simp
    · generalize (h == 0) = A
      generalize (ver == 0) = B
      generalize (fast == 0) = C
      cases A <;> cases B <;> cases C <;> simp
    · by_cases hI : Inr src 1 b.1.length
      · by_cases hJ : Inr h 1 b.1.length
        · obtain ⟨q, k1, k2⟩ := hK (.inr rfl) src h fast m hml hI hJ
          have hA : (h == 0) = false := z7w (by have := hJ.1; omega)
          simp only [z2j hI, z2j hJ, hA, k1, k2]
          generalize Tr (Inr tries 0 3) = J
          generalize Tr (Inr ver 1 1000000) = V
          cases J <;> cases V <;> simp
        · simp only [z2j hI, z1b hJ]
          generalize Tr (Inr tries 0 3) = J
          generalize (h == 0) = A
          generalize (ver == 0) = B
          generalize (fast == 0) = C
          cases J <;> cases A <;> cases B <;> cases C <;> simp
      · simp only [z1b hI]
        generalize (h == 0) = A
        generalize (ver == 0) = B
        generalize (fast == 0) = C
        cases A <;> cases B <;> cases C <;> simp
    · by_cases hI : Inr src 1 b.1.length
      · by_cases hJ : Inr h 1 b.1.length
        · obtain ⟨q, k1, k2⟩ := hK (.inl rfl) src h fast m hml hI hJ
          have hA : (h == 0) = false := z7w (by have := hJ.1; omega)
          simp only [z2j hI, z2j hJ, hA, k1, k2]
          generalize Tr (Inr tries 0 3) = J
          generalize Tr (Inr ver 1 1000000) = V
          cases J <;> cases V <;> simp
        · simp only [z2j hI, z1b hJ]
          generalize Tr (Inr tries 0 3) = J
          generalize (h == 0) = A
          generalize (ver == 0) = B
          generalize (fast == 0) = C
          cases J <;> cases A <;> cases B <;> cases C <;> simp
      · simp only [z1b hI]
        generalize (h == 0) = A
        generalize (ver == 0) = B
        generalize (fast == 0) = C
        cases A <;> cases B <;> cases C <;> simp
    · generalize (h == 0) = A
      generalize (ver == 0) = B
      generalize (fast == 0) = C
      cases A <;> cases B <;> cases C <;> simp
    · generalize (h == 0) = A
      generalize (ver == 0) = B
      generalize (fast == 0) = C
      cases A <;> cases B <;> cases C <;> simp
def z7p (b : Base) (c : Client) : Prop := zdt c.1 ∧ Inr c.2.1 0 c.1.length ∧ Inr c.2.2.1 0 2 ∧ (c.2.1 = (c.1.length : Int) → c.2.2.1 = 0) ∧ z4l LP b c = some true
theorem zbx (b : Base) (hs : StoreP b.1) (hm : Sm (.sl TCommit) b.1) (c : Client) (hc : Sm TClient c) : z6z LP b c = some (Tr (z7p b c)) ∧ z3s LP c b = some (Tr (z7p b c)) := by
  unfold z6z z3s
  rw [zbo _ hc.1, obind_some', zdl _ hc.1, obind_some', z4z, obind_some', z4i, obind_some', z4z, obind_some']
  by_cases q1 : zdt c.1
  · by_cases q2 : Inr c.2.1 0 c.1.length
    · by_cases q3 : Inr c.2.2.1 0 2
      · by_cases q4 : c.2.1 = (c.1.length : Int) → c.2.2.1 = 0
        · obtain ⟨r, e1, e2⟩ := zfb b hs hm c hc q2 q3 q4 q1.2
          have hr : r = Tr (z7p b c) := by
            refine Tr_eq ⟨fun h => ⟨q1, q2, q3, q4, by rw [e1, h]⟩, fun h => ?_⟩
            have := h.2.2.2.2
            rw [e1] at this
            exact Option.some.inj this
          rw [z2j q1, z2j q2, z2j q3, z2j q1.2, dx (show (c.1.length : Int) ≤ 6 by have := q1.1; omega), e1, e2]
          simp only [Bool.not_true, cond_false, cond_true, obind_some', hr]
          refine ⟨?_, trivial⟩
          by_cases q5 : c.2.1 = (c.1.length : Int)
          · rw [z98 q5, dn (show ¬ c.2.2.1 > 0 by have := q4 q5; omega)]; rfl
          · rw [z7w q5]; rfl
        · have hF : ¬ z7p b c := fun w => q4 w.2.2.2.1
          have hF2 : c.2.1 = (c.1.length : Int) ∧ c.2.2.1 ≠ 0 := Classical.byContradiction fun w => q4 (fun e => Classical.byContradiction fun e2 => w ⟨e, e2⟩)
          have hF3 : Inr c.2.2.1 1 2 := ⟨by have := q3.1; have := hF2.2; omega, q3.2⟩
          rw [z2j q1, z2j q2, z2j q3, z2j q1.2, dx (show (c.1.length : Int) ≤ 6 by have := q1.1; omega), z98 hF2.1, dx (show c.2.2.1 > 0 by have := hF3.1; omega), z1b hF]
          refine ⟨rfl, ?_⟩
          unfold z2x z3j
          rw [z7w hF2.2, z4i, obind_some', z2j hF3, obind_some', z98 hF2.1]
          rfl
      · have hF : ¬ z7p b c := fun w => q3 w.2.2.1
        rw [z2j q1, z2j q2, z1b q3, z2j q1.2, dx (show (c.1.length : Int) ≤ 6 by have := q1.1; omega), z1b hF]
        refine ⟨rfl, ?_⟩
        unfold z2x
        rw [z7w (fun e => q3 ⟨by omega, by omega⟩), z4i, obind_some', z1b (fun w => q3 ⟨by have := w.1; omega, w.2⟩)]
        rfl
    · have hF : ¬ z7p b c := fun w => q2 w.2.1
      rw [z2j q1, z1b q2, z2j q1.2, dx (show (c.1.length : Int) ≤ 6 by have := q1.1; omega), z1b hF]
      exact ⟨rfl, rfl⟩
  · have hF : ¬ z7p b c := fun w => q1 w.1
    rw [z1b q1, z1b hF]
    refine ⟨rfl, ?_⟩
    by_cases h6 : (c.1.length : Int) ≤ 6
    · rw [dx h6, z1b (fun w => q1 ⟨by omega, w⟩)]; rfl
    · rw [dn h6]; rfl
end Go.Vx

end
section
set_option linter.unusedVariables false
set_option linter.unusedSimpArgs false
namespace Go.Vx
open Go Go.Proofs Go.RowKit Go.Lib
def zba (l : List Event) (i : Nat) : Prop := ∃ h : i < l.length, Inr l[i].1 1 1000000 ∧ Inr l[i].2.1 0 60 ∧ ∀ h0 : 0 < i, (l[i - 1]'(by omega)).1 < l[i].1 ∧ (l[i].2.2.1 = false → l[i].1 = (l[i - 1]'(by omega)).1 + 1)
def zdo (l : List Event) : Prop := ∀ j, 0 ≤ j → j < l.length → zba l j
theorem ze6 {ρ β : Type} (l : Nat → Int → Option (LE ρ β)) (n : Nat) (P : Nat → Prop) (r0 : ρ) (y0 : β)
    (h0 : ∀ k, l (k + 1) (n : Int) = some (.brk y0))
    (h1 : ∀ (k i : Nat), i < n → (∀ j, j < i → P j) → l (k + 1) (i : Int) = cond (Tr (P i)) (l k ((i + 1 : Nat) : Int)) (some (.ret r0))) :
    ∀ (k i : Nat), i ≤ n → n < k + i → (∀ j, j < i → P j) → l k (i : Int) = some (cond (Tr (∀ j, j < n → P j)) (.brk y0) (.ret r0)) := by
  intro k
  induction k with
  | zero => intro i hi hk; omega
  | succ k ih =>
    intro i hi hk hb
    by_cases h : i = n
    · subst h
      rw [h0, z2j hb]
      rfl
    · rw [h1 k i (by omega) hb]
      by_cases hp : P i
      · rw [z2j hp]
        simp only [cond_true]
        rw [ih (i + 1) (by omega) (by omega) (fun j hj => by
          by_cases e : j = i
          · subst e; exact hp
          · exact hb j (by omega))]
      · rw [z1b hp, z1b (fun ha => hp (ha i (by omega)))]
        rfl
theorem zct {l : List Event} {i : Nat} (hb : ∀ j, j < i → zba l j) (h0 : 0 < i) (hi : i < l.length) : 1 ≤ (l[i - 1]'(by omega)).1 ∧ (l[i - 1]'(by omega)).1 ≤ 1000000 := by
  obtain ⟨_, q, _⟩ := hb (i - 1) (by omega)
  exact q
theorem zbn (l : List Event) (hl : l.length ≤ 1048576) : z14 LP l = some (Tr (zdo l)) := by
  have hLP := LP_ge
  have hloop := ze6 (fun k i => z14.l2 LP k l i) l.length (zba l) false ()
    (fun k => by
      simp only [z14.l2, z14.b2]
      rw [decide_eq_false (by omega)]
      rfl) (fun k i hi hb => by
      simp only [z14.l2, z14.b2]
      rw [dx (by omega : (i : Int) < (l.length : Int)), cond_true, z2e hi, z4z, obind_some', z4z, obind_some']
      refine z2s (fun q => ?_) (fun q1 => ?_)
      · rw [z1b (fun w => q w.2.1)]; rfl
      refine z2s (fun q => ?_) (fun q2 => ?_)
      · rw [z1b (fun w => q w.2.2.1)]; rfl
      by_cases h0 : 0 < i
      · rw [dx (by omega : (i : Int) > 0), cond_true, cond_true, z7c h0 (by omega) (by omega)]
        obtain ⟨hp1, hp2⟩ := zct hb h0 hi
        by_cases hlt : l[i].1 ≤ l[i - 1].1
        · rw [dx hlt, z1b (fun w => by have := (w.2.2.2 h0).1; omega)]; rfl
        · rw [dn hlt, cond_false]
          cases hg : l[i].2.2.1 with
          | true =>
            rw [z2j ⟨hi, q1, q2, fun _ => ⟨by omega, fun e => by rw [hg] at e; cases e⟩⟩]
            simp only [Bool.not_true, cond_false, cond_true]
            rw [z2r (by omega) (by omega)]; rfl
          | false =>
            simp only [Bool.not_false, cond_true]
            rw [z7c h0 (by omega) (by omega), z2r (x := l[i - 1].1 + 1) (by omega) (by omega), int_ne]
            refine z2s (fun q => ?_) (fun q => ?_)
            · rw [z1b (fun w => q ((w.2.2.2 h0).2 hg))]; rfl
            · rw [z2j ⟨hi, q1, q2, fun _ => ⟨by omega, fun _ => q⟩⟩, z2r (by omega) (by omega)]; rfl
      · rw [dn (by omega : ¬ (i : Int) > 0), cond_false, cond_false, z2j ⟨hi, q1, q2, fun h => absurd h h0⟩, z2r (by omega) (by omega)]; rfl) LP 0 (Nat.zero_le _) (by omega) (fun j hj => by omega)
  show obind (z14.l2 LP LP l 0) _ = _
  rw [show z14.l2 LP LP l 0 = _ from hloop]
  exact z75 rfl (fun q => z73 (fun j _ hj => q j hj)) (fun q w => q (fun j hj => w j (Nat.zero_le _) hj))
theorem zca (l : List Event) (hl : l.length ≤ 1048576) : z1j LP l = some (Tr (zdo l ∧ l.length ≤ 4096)) := by
  have hLP := LP_ge
  have hloop := ze6 (fun k i => z1j.l2 LP k l l (l.length : Int) i) l.length (zba l) false l
    (fun k => by
      simp only [z1j.l2, z1j.b2]
      rw [decide_eq_false (by omega)]
      rfl) (fun k i hi hb => by
      simp only [z1j.l2, z1j.b2]
      rw [dx (by omega : (i : Int) < (l.length : Int)), cond_true, z2e hi, z4i, obind_some', z4i, obind_some']
      refine z2s (fun q => ?_) (fun q1 => ?_)
      · rw [z1b (fun w => q w.2.1)]; rfl
      refine z2s (fun q => ?_) (fun q2 => ?_)
      · rw [z1b (fun w => q w.2.2.1)]; rfl
      by_cases h0 : 0 < i
      · rw [dx (by omega : (i : Int) > 0), cond_true, z7c h0 (by omega) (by omega)]
        obtain ⟨hp1, hp2⟩ := zct hb h0 hi
        by_cases hlt : l[i].1 ≤ l[i - 1].1
        · rw [dx hlt, z1b (fun w => by have := (w.2.2.2 h0).1; omega)]; rfl
        · rw [dn hlt, cond_false, z7c h0 (by omega) (by omega), z2r (x := l[i - 1].1 + 1) (by omega) (by omega)]
          by_cases hgt : l[i].1 > l[i - 1].1 + 1
          · rw [dx hgt, cond_true]
            cases hg : l[i].2.2.1 with
            | true =>
              rw [z2j ⟨hi, q1, q2, fun _ => ⟨by omega, fun e => by rw [hg] at e; cases e⟩⟩]
              simp only [Bool.not_true, cond_false, cond_true]
              rw [z2r (by omega) (by omega)]; rfl
            | false =>
              rw [z1b (fun w => by have := (w.2.2.2 h0).2 hg; omega)]
              rfl
          · rw [dn hgt, cond_false, z2j ⟨hi, q1, q2, fun _ => ⟨by omega, fun _ => by omega⟩⟩, z2r (by omega) (by omega)]; rfl
      · rw [dn (by omega : ¬ (i : Int) > 0), cond_false, z2j ⟨hi, q1, q2, fun h => absurd h h0⟩, z2r (by omega) (by omega)]; rfl) LP 0 (Nat.zero_le _) (by omega) (fun j hj => by omega)
  show obind (z1j.l2 LP LP l l (l.length : Int) 0) _ = _
  rw [show z1j.l2 LP LP l l (l.length : Int) 0 = _ from hloop]
  refine z75 rfl (fun q => zah ⟨fun w => ⟨fun j _ hj => q j hj, by omega⟩, fun w => by have := w.2; omega⟩) (fun q w => q (fun j hj => w.1 j (Nat.zero_le _) hj))

def WatchP (w : Watch) : Prop := NameP w.1 ∧ Inr w.2.1 0 1000000 ∧ w.2.2.1.length ≤ 4 ∧ zdo w.2.2.1 ∧ (∀ h : 0 < w.2.2.1.length, (w.2.2.1[w.2.2.1.length - 1]'(by omega)).1 = w.2.1) ∧ ∀ j, 1 ≤ j → j < w.2.2.1.length → ∃ h : j < w.2.2.1.length, w.2.2.1[j].2.2.1 = false
theorem zek (w : Watch) (hw : Sm TWatch w) : z2f LP w = some (Tr (WatchP w)) := by
  have hLP := LP_ge
  obtain ⟨n, v, l, u⟩ := w
  have hl : l.length ≤ 1048576 := hw.2.2.1.1
  unfold z2f z2f.e
  simp only [z7i, obind_some', z4z, zbn l hl]
  refine z2s (fun q => z2c (fun w => q w.1)) (fun q1 => ?_)
  refine z2s (fun q => z2c (fun w => q w.2.1)) (fun q2 => ?_)
  by_cases h4 : (l.length : Int) > 4
  · rw [dx h4]
    exact z2c (fun w => by have : l.length ≤ 4 := w.2.2.1; omega)
  rw [dn h4, cond_false]
  refine z2s (fun q => z2c (fun w => q w.2.2.2.1)) (fun q3 => ?_)
  have hloop := z7d (fun k i => z2f.l5 LP k n v l (l.length : Int) i) l.length (fun j => ∃ h : j < l.length, l[j].2.2.1 = false) false ()
    (fun k => by
      simp only [z2f.l5, z2f.b5]
      rw [decide_eq_false (by omega)]
      rfl) (fun k i hi => by
      simp only [z2f.l5, z2f.b5]
      rw [dx (by omega : (i : Int) < (l.length : Int)), cond_true, z2e hi, z2r (by omega) (by omega)]
      cases hg : l[i].2.2.1 with
      | true => rw [z1b (fun w => by have := w.2; rw [hg] at this; cases this)]; rfl
      | false => rw [z2j ⟨hi, hg⟩]; rfl) LP
  by_cases h0 : 0 < l.length
  · rw [dx (by omega : (l.length : Int) > 0), cond_true, z7c h0 (by omega) hl, int_ne]
    refine z2s (fun q => z2c (fun w => q (w.2.2.2.2.1 h0))) (fun q4 => ?_)
    rw [show z2f.l5 LP LP n v l (l.length : Int) 1 = _ from hloop 1 (by omega) (by omega)]
    exact z75 rfl (fun q => z73 ⟨q1, q2, (by omega : l.length ≤ 4), q3, fun _ => q4, q⟩) (fun q w => q w.2.2.2.2.2)
  · rw [dn (by omega : ¬ (l.length : Int) > 0), cond_false]
    have hnil : l.length = 0 := by omega
    have e1 : z2f.l5 LP LP n v l (l.length : Int) 1 = some (.brk ()) := by
      obtain ⟨k, hk⟩ : ∃ k, LP = k + 1 := ⟨LP - 1, by omega⟩
      show z2f.l5 LP LP n v l (l.length : Int) 1 = _
      rw [show z2f.l5 LP LP n v l (l.length : Int) 1 = z2f.l5 LP (k + 1) n v l (l.length : Int) 1 by rw [← hk]]
      simp only [z2f.l5, z2f.b5]
      rw [decide_eq_false (by omega)]
      rfl
    rw [e1]
    exact z73 ⟨q1, q2, (by omega : l.length ≤ 4), q3, fun h => absurd h h0, fun j h1 h2 => by have : j < l.length := h2; omega⟩
theorem zd2 (w : Watch) (hw : Sm TWatch w) : z60 LP w = some (Tr (WatchP w)) := by
  obtain ⟨n, v, l, u⟩ := w
  have hl : l.length ≤ 1048576 := hw.2.2.1.1
  unfold z60
  simp only [z7m, obind_some', z4i, zca l hl]
  refine z2s (fun q => z2c (fun w => q w.1)) (fun q1 => ?_)
  refine z2s (fun q => z2c (fun w => q w.2.1)) (fun q2 => ?_)
  by_cases h4 : (l.length : Int) > 4
  · rw [dx h4]
    exact z2c (fun w => by have : l.length ≤ 4 := w.2.2.1; omega)
  rw [dn h4, cond_false]
  refine z2s (fun q => z2c (fun w => q ⟨w.2.2.2.1, by omega⟩)) (fun q3 => ?_)
  by_cases h0 : 0 < l.length
  · rw [z7w (by omega : (l.length : Int) ≠ 0), cond_false, z7c h0 (by omega) hl, int_tr]
    refine z3u (fun q4 => ?_) (fun q => z2c (fun w => q (w.2.2.2.2.1 h0)))
    rw [dx (by omega : (0:Int) ≤ 1), oif_true, dx (by omega : (1:Int) ≤ (l.length : Int)), oif_true]
    rw [zaj (l.drop (1:Int).toNat) _ (fun e => e.2.2.1 = false) (by rw [List.length_drop]; omega) (fun x _ => by
      show z4f x = _
      unfold z4f
      congr 1
      exact Tr_eq (by simp)), obind_some']
    refine z57 ⟨fun h => ⟨q1, q2, (by omega : l.length ≤ 4), q3.1, fun _ => q4, fun j h1 h2 => ⟨h2, ?_⟩⟩, fun w x hx => ?_⟩
    · have h2 : j < l.length := h2
      have hj : j - 1 < (l.drop (1:Int).toNat).length := by rw [List.length_drop]; show j - 1 < l.length - 1; omega
      have := h _ (List.getElem_mem hj)
      rw [List.getElem_drop] at this
      have e : (1:Int).toNat + (j - 1) = j := by show 1 + (j - 1) = j; omega
      simp only [e] at this
      exact this
    · obtain ⟨j, hj, rfl⟩ := List.getElem_of_mem hx
      rw [List.getElem_drop]
      rw [List.length_drop] at hj
      have hj : j < l.length - 1 := hj
      obtain ⟨_, g⟩ := w.2.2.2.2.2 ((1:Int).toNat + j) (by show 1 ≤ 1 + j; omega) (by show 1 + j < l.length; omega)
      exact g
  · rw [z98 (by omega : (l.length : Int) = 0), cond_true]
    exact z73 ⟨q1, q2, (by omega : l.length ≤ 4), q3.1, fun h => absurd h h0, fun j h1 h2 => by have : j < l.length := h2; omega⟩
noncomputable def z8h (l : List Ref) (n : ByteArray) : Int := (z44 LP l n).getD 0
theorem zay (l : List Ref) (n : ByteArray) (hl : l.length ≤ 1048576) : z44 LP l n = some (z8h l n) ∧ z6b LP l n = some (n, z8h l n, ([] : List Event), ()) := by
  have : ∃ v, z44 LP l n = some v ∧ z6b LP l n = some (n, v, ([] : List Event), ()) := by
    unfold z44 z6b
    rw [zan l n hl, zaq l n hl, obind_some', obind_some']
    rcases z8l l n hl with ⟨j, hj, e, _⟩ | ⟨e, _⟩
    · rw [e, dx (by omega), cond_true, cond_true, z2e hj, z2e hj]
      exact ⟨_, rfl, rfl⟩
    · rw [e]
      exact ⟨_, rfl, rfl⟩
  obtain ⟨v, h1, h2⟩ := this
  unfold z8h
  rw [h1, h2]
  exact ⟨rfl, rfl⟩
end Go.Vx

end
section
set_option linter.unusedVariables false
set_option linter.unusedSimpArgs false
namespace Go.Vx
open Go Go.Proofs Go.RowKit Go.Lib
def ResP (n : Nat) (r : Result) : Prop := Inr r.1 0 18 ∧ Inr r.2.1 0 n ∧ ValP r.2.2.1 ∧ r.2.2.2.1.length ≤ 24 ∧ MapP r.2.2.2.2.1
theorem ze7 (n : Nat) (r : Result) (hr : Sm TResult r) (K : Bool → Option Bool) (hK : ∀ b, K b = some b) : (cond (Tr (Inr r.1 0 18)) (cond (Tr (Inr r.2.1 0 n)) (cond (Tr (ValP r.2.2.1)) (cond (decide ((r.2.2.2.1.length : Int) ≤ (24:Int))) (K (Tr (MapP r.2.2.2.2.1))) (some false)) (some false)) (some false)) (some false)) = some (Tr (ResP n r)) := by
  refine z3u (fun q1 => ?_) (fun q => z2c (fun w => q w.1))
  refine z3u (fun q2 => ?_) (fun q => z2c (fun w => q w.2.1))
  refine z3u (fun q3 => ?_) (fun q => z2c (fun w => q w.2.2.1))
  by_cases h : (r.2.2.2.1.length : Int) ≤ 24
  · rw [dx h, cond_true, hK]
    exact z57 ⟨fun w => ⟨q1, q2, q3, by omega, w⟩, fun w => w.2.2.2.2⟩
  · rw [dn h]
    exact z2c (fun w => by have := w.2.2.2.1; omega)
theorem zck (n : Nat) (r : Result) (hr : Sm TResult r) : z4x LP r (n : Int) = some (Tr (ResP n r)) := by
  have hl : r.2.2.2.2.1.length ≤ 1048576 := hr.2.2.2.2.1.1
  unfold z4x z6r
  simp only [z4i, obind_some', z8b, z8y _ hl]
  exact ze7 n r hr some (fun b => rfl)
def ZeroP (o : Op) : Prop := o.1 = 0 ∧ o.2.1 = 0 ∧ o.2.2.1 = (⟨#[]⟩ : ByteArray) ∧ o.2.2.2.1 = (⟨#[]⟩ : ByteArray) ∧ o.2.2.2.2.1.length = 0
def z7x (w : World) (m : Moment) : Prop := ∃ h : Inr m.1 1 w.2.1.length, Inr m.2.1 1 (w.2.1[m.1.toNat - 1]'(by have := h.1; have := h.2; omega)).2.1 ∧ Inr m.2.2.1 1 w.2.2.2.2.1 ∧ (ZeroP m.2.2.2.1 ∨ OpP m.2.2.2.1) ∧ ResP w.1.1.length m.2.2.2.2.1
theorem zbj (o : Op) : z4o o = some (Tr (ZeroP o)) := by
  unfold z4o
  simp only [int_tr, seq_tr]
  refine z3u (fun q1 => ?_) (fun q => z2c (fun w => q w.1))
  refine z3u (fun q2 => ?_) (fun q => z2c (fun w => q w.2.1))
  refine z3u (fun q3 => ?_) (fun q => z2c (fun w => q w.2.2.1))
  refine z3u (fun q4 => ?_) (fun q => z2c (fun w => q w.2.2.2.1))
  exact z57 ⟨fun w => ⟨q1, q2, q3, q4, by omega⟩, fun w => by have := w.2.2.2.2; omega⟩
theorem oget_pred' {R α : Type} {s : List α} {n : Int} (h1 : 1 ≤ n) (h2 : n ≤ s.length) (hl : s.length ≤ 1048576) (K : α → Option R) : oget s (IntKind.i64.wrap (n - 1)) K = K (s[n.toNat - 1]'(by omega)) := by
  have : n = ((n.toNat : Nat) : Int) := by omega
  rw [show IntKind.i64.wrap (n - 1) = IntKind.i64.wrap (((n.toNat : Nat) : Int) - 1) by rw [← this]]
  exact z7c (by omega) (by omega) hl K
theorem zbr (w : World) (m : Moment) (hw : w.2.1.length ≤ 1048576) (hm : Sm TMoment m) : z4s LP w m = some (Tr (z7x w m)) := by
  have hl : m.2.2.2.2.1.2.2.2.2.1.length ≤ 1048576 := hm.2.2.2.2.1.2.2.2.2.1.1
  have hres := ze7 w.1.1.length m.2.2.2.2.1 hm.2.2.2.2.1 some (fun b => rfl)
  unfold z4s
  rw [z4z, obind_some']
  refine z3u (fun q1 => ?_) (fun q => z2c (fun x => q x.1))
  rw [oget_pred' q1.1 q1.2 hw, z4z, obind_some']
  refine z3u (fun q2 => ?_) (fun q => z2c (fun x => q x.2.1))
  rw [z4z, obind_some']
  refine z3u (fun q3 => ?_) (fun q => z2c (fun x => q x.2.2.1))
  simp only [z4z, obind_some', zao _ hm.2.2.2.1, z8v _ hl, show ∀ x : Int, Inr x (-1000000) 1000000 = ValP x from fun _ => rfl, hres, int_tr, seq_tr]
  have hz : cond (Tr (m.2.2.2.1.1 = 0)) (cond (Tr (m.2.2.2.1.2.2.1 = (⟨#[]⟩ : ByteArray))) (cond (Tr (m.2.2.2.1.2.1 = 0)) (cond (Tr (m.2.2.2.1.2.2.2.1 = (⟨#[]⟩ : ByteArray))) (Tr ((m.2.2.2.1.2.2.2.2.1.length : Int) = 0)) false) false) false) false = Tr (ZeroP m.2.2.2.1) := by
    refine z3u (fun w1 => ?_) (fun q => (z1b (fun w => q w.1)).symm)
    refine z3u (fun w2 => ?_) (fun q => (z1b (fun w => q w.2.2.1)).symm)
    refine z3u (fun w3 => ?_) (fun q => (z1b (fun w => q w.2.1)).symm)
    refine z3u (fun w4 => ?_) (fun q => (z1b (fun w => q w.2.2.2.1)).symm)
    exact z30 ⟨fun w => ⟨w1, w3, w2, w4, by omega⟩, fun w => by have := w.2.2.2.2; omega⟩
  have hfin : some (cond (Tr (ZeroP m.2.2.2.1)) (Tr (ResP w.1.1.length m.2.2.2.2.1)) (cond (Tr (OpP m.2.2.2.1)) (Tr (ResP w.1.1.length m.2.2.2.2.1)) false)) = some (Tr (z7x w m)) := by
    congr 1
    refine z3u (fun z => z30 ⟨fun r => ⟨q1, q2, q3, .inl z, r⟩, fun x => x.2.2.2.2⟩) (fun z => ?_)
    exact z3u (fun o => z30 ⟨fun r => ⟨q1, q2, q3, .inr o, r⟩, fun x => x.2.2.2.2⟩) (fun o => (z1b (fun x => x.2.2.2.1.elim z o)).symm)
  rw [← hfin, ← hz]
  generalize Tr (m.2.2.2.1.1 = 0) = A
  generalize Tr (m.2.2.2.1.2.1 = 0) = B
  generalize Tr (m.2.2.2.1.2.2.1 = (⟨#[]⟩ : ByteArray)) = C
  generalize Tr (m.2.2.2.1.2.2.2.1 = (⟨#[]⟩ : ByteArray)) = D
  generalize Tr ((m.2.2.2.1.2.2.2.2.1.length : Int) = 0) = E
  generalize Tr (OpP m.2.2.2.1) = F
  cases A <;> cases B <;> cases C <;> cases D <;> cases E <;> cases F <;> rfl
theorem zco (w : World) (m : Moment) (hw : w.2.1.length ≤ 1048576) (hm : Sm TMoment m) : z37 LP w m = some (Tr (z7x w m)) := by
  unfold z37
  rw [z4i, obind_some']
  refine z3u (fun q1 => ?_) (fun q => z2c (fun x => q x.1))
  rw [oget_pred' q1.1 q1.2 hw, z4i, obind_some']
  refine z3u (fun q2 => ?_) (fun q => z2c (fun x => q x.2.1))
  rw [z4i, obind_some']
  refine z3u (fun q3 => ?_) (fun q => z2c (fun x => q x.2.2.1))
  rw [zbj, obind_some', zez _ hm.2.2.2.1, obind_some', zck _ _ hm.2.2.2.2.1, obind_some']
  refine z3u (fun z => z57 ⟨fun r => ⟨q1, q2, q3, .inl z, r⟩, fun x => x.2.2.2.2⟩) (fun z => ?_)
  exact z3u (fun o => z57 ⟨fun r => ⟨q1, q2, q3, .inr o, r⟩, fun x => x.2.2.2.2⟩) (fun o => z2c (fun x => x.2.2.2.1.elim z o))
end Go.Vx

end
section
set_option linter.unusedVariables false
set_option linter.unusedSimpArgs false
namespace Go.Vx
open Go Go.Proofs Go.RowKit Go.Lib
theorem zet {α ρ β : Type} (l : Nat → Int → Int → Option (LE ρ β)) (cs : List α) (P : α → Prop) (f : α → Int) (hf : ∀ c, P c → 0 ≤ f c ∧ f c ≤ 6) (r0 : ρ) (y : Int → β)
    (h0 : ∀ k s, l (k + 1) (cs.length : Int) s = some (.brk (y s)))
    (h1 : ∀ (k i : Nat) (s : Int) (hi : i < cs.length), 0 ≤ s → s ≤ 6 * (i : Int) → l (k + 1) (i : Int) s = cond (Tr (P cs[i])) (l k ((i + 1 : Nat) : Int) (s + f cs[i])) (some (.ret r0))) :
    ∀ (k : Nat), cs.length < k → l k 0 0 = some (cond (Tr (∀ c ∈ cs, P c)) (.brk (y (cs.map f).sum)) (.ret r0)) := by
  intro k hk
  have := z7g l cs.length (fun i s => 0 ≤ s ∧ s ≤ 6 * (i : Int)) (fun i s => cond (Tr (∀ c ∈ cs.drop i, P c)) (.brk (y (s + ((cs.drop i).map f).sum))) (.ret r0))
    (fun k s hs => by
      rw [h0, List.drop_length, z2j (fun c hc => by cases hc)]
      simp) (fun k i s hi hs ih => by
      rw [h1 k i s hi hs.1 hs.2, z6t hi]
      by_cases hp : P cs[i]
      · obtain ⟨f1, f2⟩ := hf _ hp
        rw [z2j hp, cond_true, ih _ ⟨by omega, by omega⟩]
        rw [z30 (q := ∀ c ∈ cs[i] :: cs.drop (i + 1), P c) ⟨fun h c hc => by
          cases hc with
          | head => exact hp
          | tail _ hc => exact h c hc, fun h c hc => h c (List.mem_cons_of_mem _ hc)⟩]
        rw [List.map_cons, List.sum_cons, Int.add_assoc]
      · rw [z1b hp, z1b (fun h => hp (h _ (List.mem_cons_self ..)))]
        rfl) k 0 0 (Nat.zero_le _) (by omega) ⟨by omega, by omega⟩
  simpa using this
theorem zfd {ρ β : Type} (l : Nat → Int → Option (LE ρ β)) (n lo : Nat) (P : Nat → Prop) (r0 : ρ) (y0 : β)
    (h0 : ∀ k i : Nat, n ≤ i → l (k + 1) (i : Int) = some (.brk y0))
    (h1 : ∀ (k i : Nat), lo ≤ i → i < n → l (k + 1) (i : Int) = cond (Tr (P i)) (l k ((i + 1 : Nat) : Int)) (some (.ret r0))) :
    ∀ (k i : Nat), lo ≤ i → n < k + i → 0 < k → l k (i : Int) = some (cond (Tr (∀ j, i ≤ j → j < n → P j)) (.brk y0) (.ret r0)) := by
  intro k
  induction k with
  | zero => intro i hi hk hk0; omega
  | succ k ih =>
    intro i hi hk _
    by_cases h : n ≤ i
    · rw [h0 k i h, z2j (fun j h1 h2 => by omega)]
      rfl
    · rw [h1 k i hi (by omega)]
      by_cases hp : P i
      · rw [z2j hp]
        simp only [cond_true]
        rw [ih (i + 1) (by omega) (by omega) (by omega)]
        rw [z30 (q := ∀ j, i ≤ j → j < n → P j) ⟨fun ha j h1 h2 => by
          by_cases e : j = i
          · subst e; exact hp
          · exact ha j (by omega) h2, fun ha j h1 h2 => ha j (by omega) h2⟩]
      · rw [z1b hp, z1b (fun ha => hp (ha i (Nat.le_refl _) (by omega)))]
        rfl
def z8k (cs : List Client) : Int := (cs.map fun c => c.2.1).sum
def Times (ms : List Moment) : Prop := ∀ j, 1 ≤ j → j < ms.length → ∃ h : j < ms.length, (ms[j - 1]'(by omega)).2.2.1 < ms[j].2.2.1
def WorldP (w : World) : Prop := BaseP w.1 ∧ w.2.1.length ≤ 5 ∧ w.2.2.1.length ≤ 3 ∧ Inr w.2.2.2.2.1 0 1000000 ∧ (∀ c ∈ w.2.1, z7p w.1 c) ∧ (w.2.2.2.1.length : Int) = z8k w.2.1 ∧ (∀ m ∈ w.2.2.2.1, z7x w m) ∧ Times w.2.2.2.1 ∧ ∀ v ∈ w.2.2.1, WatchP v ∧ v.2.1 = z8h w.1.2.1 v.1
theorem z89 {b : Base} {c : Client} (h : z7p b c) : 0 ≤ c.2.1 ∧ c.2.1 ≤ 6 := by
  obtain ⟨⟨h1, _⟩, ⟨h2, h3⟩, _⟩ := h
  omega
theorem sm_mem {t : Ty} {xs : List (Den t)} (h : Sm (.sl t) xs) {i : Nat} (hi : i < xs.length) : Sm t xs[i] := h.2 _ (List.getElem_mem hi)
theorem zap (w : World) (hw : Sm TWorld w) : z02 LP w = some (Tr (WorldP w)) := by
  have hLP := LP_ge
  obtain ⟨⟨cm, rf, u⟩, cs, ws, ms, clk, v⟩ := w
  cases u
  cases v
  have hb : Sm TBase (cm, rf, ()) := hw.1
  have hcs : Sm (.sl TClient) cs := hw.2.1
  have hws : Sm (.sl TWatch) ws := hw.2.2.1
  have hms : Sm (.sl TMoment) ms := hw.2.2.2.1
  have hcm : Sm (.sl TCommit) cm := hb.1
  have hrl : rf.length ≤ 1048576 := hb.2.1.1
  have hcl : cs.length ≤ 1048576 := hcs.1
  have hwl : ws.length ≤ 1048576 := hws.1
  have hml : ms.length ≤ 1048576 := hms.1
  unfold z02 z02.e
  simp only [zen _ hb, obind_some', z4z]
  refine z2s (fun q => z2c (fun w => q w.1)) (fun q1 => ?_)
  by_cases h5 : (cs.length : Int) > 5
  · rw [dx h5]
    exact z2c (fun w => by have : cs.length ≤ 5 := w.2.1; omega)
  rw [dn h5, cond_false]
  by_cases h3 : (ws.length : Int) > 3
  · rw [dx h3]
    exact z2c (fun w => by have : ws.length ≤ 3 := w.2.2.1; omega)
  rw [dn h3, cond_false]
  refine z2s (fun q => z2c (fun w => q w.2.2.2.1)) (fun q2 => ?_)
  have hl1 := zet (fun k i s => z02.l5 LP k cm rf cs ws ms clk s i) cs (z7p (cm, rf, ())) (fun c => c.2.1) (fun c hc => z89 hc) false (fun s => (cm, rf, cs, ws, ms, clk, s))
    (fun k s => by
      simp only [z02.l5, z02.b5]
      rw [decide_eq_false (by omega)]
      rfl) (fun k i s hi hs1 hs2 => by
      simp only [z02.l5, z02.b5]
      rw [dx (by omega : (i : Int) < (cs.length : Int)), cond_true, z2e hi, (zbx (cm, rf, ()) q1.1 hcm _ (sm_mem hcs hi)).1, obind_some', z2e hi]
      refine z2s (fun q => ?_) (fun q => ?_)
      · rw [z1b q]; rfl
      · have := z89 q
        rw [z2j q, z2r (by omega) (by omega), z2r (by omega) (by omega)]; rfl) LP (by omega)
  rw [show z02.l5 LP LP cm rf cs ws ms clk 0 0 = _ from hl1]
  refine z75 rfl (fun q3 => ?_) (fun q w => q w.2.2.2.2.1)
  have hl2 := z7d (fun k i => z02.l11 LP k cm rf cs ws ms clk (z8k cs) i) ws.length (fun j => ∃ h : j < ws.length, WatchP ws[j] ∧ ws[j].2.1 = z8h rf ws[j].1) false (cm, rf, cs, ws, ms, clk, z8k cs)
    (fun k => by
      simp only [z02.l11, z02.b11]
      rw [decide_eq_false (by omega)]
      rfl) (fun k i hi => by
      simp only [z02.l11, z02.b11]
      rw [dx (by omega : (i : Int) < (ws.length : Int)), cond_true, z2e hi, zek _ (sm_mem hws hi), obind_some', (zay rf ws[i].1 hrl).2, obind_some', int_ne]
      refine z2s (fun q => ?_) (fun q4 => ?_)
      · rw [z1b (fun w => q w.2.1)]; rfl
      refine z2s (fun q => ?_) (fun q5 => ?_)
      · rw [z1b (fun w => q w.2.2.symm)]; rfl
      · rw [z2j ⟨hi, q4, q5.symm⟩, z2r (by omega) (by omega)]; rfl) LP 0 (Nat.zero_le _) (by omega)
  unfold z02.a5
  rw [show (cs.map fun c => c.2.1).sum = z8k cs from rfl]
  show obind (z02.l11 LP LP cm rf cs ws ms clk (z8k cs) 0) _ = _
  rw [show z02.l11 LP LP cm rf cs ws ms clk (z8k cs) 0 = _ from hl2]
  refine z75 rfl (fun q4 => ?_) (fun q w => q (fun j _ hj => ⟨hj, w.2.2.2.2.2.2.2.2 _ (List.getElem_mem hj)⟩))
  unfold z02.a11
  simp only [int_ne]
  refine z2s (fun q => z2c (fun w => q w.2.2.2.2.2.1)) (fun q5 => ?_)
  have hl3 := z7d (fun k i => z02.l19 LP k cm rf cs ws ms clk i) ms.length (fun j => ∃ h : j < ms.length, z7x ((cm, rf, ()), cs, ws, ms, clk, ()) ms[j] ∧ (1 ≤ j → (ms[j - 1]'(by omega)).2.2.1 < ms[j].2.2.1)) false ()
    (fun k => by
      simp only [z02.l19, z02.b19]
      rw [decide_eq_false (by omega)]
      rfl) (fun k i hi => by
      simp only [z02.l19, z02.b19]
      rw [dx (by omega : (i : Int) < (ms.length : Int)), cond_true, z2e hi, zbr ((cm, rf, ()), cs, ws, ms, clk, ()) _ hcl (sm_mem hms hi), obind_some', z2e hi]
      refine z2s (fun q => ?_) (fun q6 => ?_)
      · rw [z1b (fun w => q w.2.1)]; rfl
      by_cases h0 : 0 < i
      · rw [dx (by omega : (i : Int) > 0), cond_true, z7c h0 (by omega) hml]
        by_cases hlt : ms[i].2.2.1 ≤ ms[i - 1].2.2.1
        · rw [dx hlt, z1b (fun w => by have := w.2.2 h0; omega)]; rfl
        · rw [dn hlt, z2j ⟨hi, q6, fun _ => by omega⟩, z2r (by omega) (by omega)]; rfl
      · rw [dn (by omega : ¬ (i : Int) > 0), z2j ⟨hi, q6, fun h => absurd h h0⟩, z2r (x := (i : Int) + 1) (by omega) (by omega)]; rfl) LP 0 (Nat.zero_le _) (by omega)
  show obind (z02.l19 LP LP cm rf cs ws ms clk 0) _ = _
  rw [show z02.l19 LP LP cm rf cs ws ms clk 0 = _ from hl3]
  refine z75 rfl (fun q6 => z73 ⟨q1, (by omega : cs.length ≤ 5), (by omega : ws.length ≤ 3), q2, q3, q5, fun m hm => ?_, fun j h1 h2 => ?_, fun v hv => ?_⟩) (fun q w => q (fun j _ hj => ⟨hj, w.2.2.2.2.2.2.1 _ (List.getElem_mem hj), fun h1 => (w.2.2.2.2.2.2.2.1 j h1 hj).2⟩))
  · obtain ⟨j, hj, rfl⟩ := List.getElem_of_mem hm
    exact (q6 j (Nat.zero_le _) hj).2.1
  · exact ⟨h2, (q6 j (Nat.zero_le _) h2).2.2 h1⟩
  · obtain ⟨j, hj, rfl⟩ := List.getElem_of_mem hv
    exact (q4 j (Nat.zero_le _) hj).2
theorem z9v (w : World) (hw : Sm TWorld w) : z0g LP w = some (Tr (WorldP w)) := by
  have hLP := LP_ge
  obtain ⟨⟨cm, rf, u⟩, cs, ws, ms, clk, v⟩ := w
  cases u
  cases v
  have hb : Sm TBase (cm, rf, ()) := hw.1
  have hcs : Sm (.sl TClient) cs := hw.2.1
  have hws : Sm (.sl TWatch) ws := hw.2.2.1
  have hms : Sm (.sl TMoment) ms := hw.2.2.2.1
  have hcm : Sm (.sl TCommit) cm := hb.1
  have hrl : rf.length ≤ 1048576 := hb.2.1.1
  have hcl : cs.length ≤ 1048576 := hcs.1
  have hwl : ws.length ≤ 1048576 := hws.1
  have hml : ms.length ≤ 1048576 := hms.1
  unfold z0g z0g.e
  simp only [zac _ hb, obind_some', z4i]
  refine z2s (fun q => z2c (fun w => q w.1)) (fun q1 => ?_)
  by_cases h5 : (cs.length : Int) > 5
  · rw [dx h5]
    exact z2c (fun w => by have : cs.length ≤ 5 := w.2.1; omega)
  rw [dn h5, cond_false]
  by_cases h3 : (ws.length : Int) > 3
  · rw [dx h3]
    exact z2c (fun w => by have : ws.length ≤ 3 := w.2.2.1; omega)
  rw [dn h3, cond_false]
  refine z2s (fun q => z2c (fun w => q w.2.2.2.1)) (fun q2 => ?_)
  have hl1 := zet (fun k i s => z0g.l5 LP k cm rf cs ws ms clk s cs (cs.length : Int) i) cs (z7p (cm, rf, ())) (fun c => c.2.1) (fun c hc => z89 hc) false (fun s => (cm, rf, cs, ws, ms, clk, s))
    (fun k s => by
      simp only [z0g.l5, z0g.b5]
      rw [decide_eq_false (by omega)]
      rfl) (fun k i s hi hs1 hs2 => by
      simp only [z0g.l5, z0g.b5]
      rw [dx (by omega : (i : Int) < (cs.length : Int)), cond_true, z2e hi, (zbx (cm, rf, ()) q1.1 hcm _ (sm_mem hcs hi)).2, obind_some']
      refine z2s (fun q => ?_) (fun q => ?_)
      · rw [z1b q]; rfl
      · have := z89 q
        rw [z2j q, z2r (by omega) (by omega), z2r (by omega) (by omega)]; rfl) LP (by omega)
  rw [show z0g.l5 LP LP cm rf cs ws ms clk 0 cs (cs.length : Int) 0 = _ from hl1]
  refine z75 rfl (fun q3 => ?_) (fun q w => q w.2.2.2.2.1)
  unfold z0g.a5
  rw [show (cs.map fun c => c.2.1).sum = z8k cs from rfl]
  simp only [int_ne]
  refine z2s (fun q => z2c (fun w => q w.2.2.2.2.2.1)) (fun q5 => ?_)
  rw [show z3f LP ms (fun w => z37 LP ((cm, rf, ()), cs, ws, ms, clk, ()) w.1) = _ from za9 ms _ (z7x ((cm, rf, ()), cs, ws, ms, clk, ())) hml (fun m hm => zco ((cm, rf, ()), cs, ws, ms, clk, ()) m hcl (hms.2 m hm)), obind_some']
  refine z2s (fun q => z2c (fun w => q w.2.2.2.2.2.2.1)) (fun q6 => ?_)
  have hend : ∀ k i : Nat, ms.length ≤ i → z0g.l14 LP (k + 1) cm rf cs ws ms clk (i : Int) = some (.brk (cm, rf, cs, ws, ms, clk)) := fun k i hi => by
    simp only [z0g.l14, z0g.b14]
    rw [decide_eq_false (by omega)]
    rfl
  have hl2 := zfd (fun k i => z0g.l14 LP k cm rf cs ws ms clk i) ms.length 1 (fun j => ∃ h : j < ms.length, (ms[j - 1]'(by omega)).2.2.1 < ms[j].2.2.1) false (cm, rf, cs, ws, ms, clk)
    hend (fun k i hi1 hi => by
      simp only [z0g.l14, z0g.b14]
      rw [dx (by omega : (i : Int) < (ms.length : Int)), cond_true, z2e hi, z7c hi1 (by omega) hml]
      by_cases hlt : ms[i].2.2.1 ≤ ms[i - 1].2.2.1
      · rw [dx hlt, z1b (fun w => by have := w.2; omega)]; rfl
      · rw [dn hlt, z2j ⟨hi, by omega⟩, z2r (by omega) (by omega)]; rfl) LP 1 (Nat.le_refl _) (by omega) (by omega)
  show obind (z0g.l14 LP LP cm rf cs ws ms clk 1) _ = _
  rw [show z0g.l14 LP LP cm rf cs ws ms clk 1 = _ from hl2]
  refine z75 rfl (fun q7 => ?_) (fun q w => q (fun j h1 hj => w.2.2.2.2.2.2.2.1 j h1 hj))
  unfold z0g.a14
  simp only
  rw [zai ws _ (fun v => WatchP v ∧ v.2.1 = z8h rf v.1) hwl (fun v hv => by
    show z4h LP v _ = _
    unfold z4h
    rw [zd2 _ (hws.2 v hv), obind_some', (zay rf v.1 hrl).1, obind_some', int_tr]
    exact z3u (fun q => z57 ⟨fun w => ⟨q, w⟩, fun w => w.2⟩) (fun q => z2c (fun w => q w.1)))]
  exact z57 ⟨fun h => ⟨q1, (by omega : cs.length ≤ 5), (by omega : ws.length ≤ 3), q2, q3, q5, q6, q7, h⟩, fun w => w.2.2.2.2.2.2.2.2⟩
end Go.Vx

end
section
set_option linter.unusedVariables false
set_option linter.unusedSimpArgs false
namespace Go.Vx
open Go Go.Proofs Go.RowKit Go.Lib
theorem zfc (a b : Bool) (h : a = b) {K : Option Bool} (hK : K = some true) : cond (a != b) (some false) K = some true := by
  rw [zb9, z2j h, hK]
  rfl
end Go.Vx

end
