/- Merged out of smaller texts. -/
import Derived.Test.YtajhmldalehbjaaGreatTalPartA
section
set_option linter.unusedVariables false
set_option linter.unusedSimpArgs false
namespace Go.Vx
open Go Go.Proofs Go.RowKit Go.Lib
theorem sum_zero {α : Type} {f : α → Nat} (h : ∀ x, f x = 0) : ∀ xs : List α, (xs.map f).sum = 0
  | [] => rfl
  | x :: xs => by rw [List.map_cons, List.sum_cons, h, sum_zero h xs]
theorem max_i64 : (maxLen : Nat) = 9223372036854775807 := by simp [maxLen]
theorem str_ne (a b : ByteArray) : (!(a.toList == b.toList)) = !(Tr (a = b)) := by
  congr 1
  refine Tr_eq ?_
  rw [beq_iff_eq, Go.ByteArray.toList_eq, Go.ByteArray.toList_eq]
  exact ⟨fun h => ba_ext h, fun h => by rw [h]⟩
theorem int_ne (a b : Int) : (a != b) = !(Tr (a = b)) := by
  rw [neq_int]
  congr 1
  exact Tr_eq (by simp)
theorem bool_ne (a b : Bool) : (a != b) = !(Tr (a = b)) := by
  cases a <;> cases b <;> simp [Tr_T, Tr_F]
theorem eq_step {p q : Prop} {K : Option Bool} (hK : p → K = some (Tr q)) : cond (!(Tr p)) (some false) K = some (Tr (p ∧ q)) := by
  by_cases h : p
  · rw [Tr_true h, hK h]
    simp only [Bool.not_true, cond_false]
    rw [Tr_congr (q := p ∧ q) ⟨fun hq => ⟨h, hq⟩, fun hq => hq.2⟩]
  · rw [Tr_false h, Tr_false (fun hq => h hq.1)]
    rfl
theorem to_list {α : Type} {xs : List α} (l : Nat → Int → List α → Option (LE Empty (List α))) (h0 : ∀ k (s : List α), s.length = xs.length → l (k + 1) (xs.length : Int) s = some (.brk s))
    (h1 : ∀ (k i : Nat) (s : List α) (hi : i < xs.length), s.length = xs.length → l (k + 1) (i : Int) s = l k ((i + 1 : Nat) : Int) (s.set i xs[i])) : ∀ (k : Nat) (s : List α), xs.length < k → s.length = xs.length → l k 0 s = some (.brk xs) := by
  intro k s hk hs
  have := loop_ind l xs.length (fun _ s => s.length = xs.length) (fun i s => .brk (s.take i ++ xs.drop i))
    (fun k s hs => by
      rw [h0 k s hs, List.drop_length, List.append_nil, ← hs, List.take_length]) (fun k i s hi hs ih => by
      rw [h1 k i s hi hs, ih _ (by rw [List.length_set]; exact hs)]
      congr 2
      have hi' : i < s.length := by omega
      rw [drop_cons hi, List.take_set, List.take_add_one, List.set_append]
      simp [hi', List.length_take, Nat.min_eq_left (Nat.le_of_lt hi')]) k 0 s (Nat.zero_le _) (by omega) hs
  simpa using this
theorem eq_list {α : Type} {xs ys : List α} (hlen : xs.length = ys.length) (l : Nat → Int → Option (LE Bool Unit)) (h0 : ∀ k, l (k + 1) (xs.length : Int) = some (.brk ()))
    (h1 : ∀ (k i : Nat) (hi : i < xs.length) (hj : i < ys.length), l (k + 1) (i : Int) = cond (Tr (xs[i] = ys[i])) (l k ((i + 1 : Nat) : Int)) (some (.ret false))) : ∀ (k : Nat), xs.length < k → obind (l k 0) (leF (fun z => some z) (fun _ => some true)) = some (Tr (xs = ys)) := by
  intro k hk
  have := loop_all l xs.length (fun i => xs[i]? = ys[i]?) false () h0 (fun k i hi => by
    rw [h1 k i hi (by omega)]
    rw [Tr_congr (q := xs[i]? = ys[i]?)]
    rw [List.getElem?_eq_getElem hi, List.getElem?_eq_getElem (show i < ys.length by omega)]
    simp) k 0 (Nat.zero_le _) (by omega)
  have hc : (∀ j, 0 ≤ j → j < xs.length → xs[j]? = ys[j]?) ↔ xs = ys := by
    constructor
    · intro h
      apply List.ext_getElem?
      intro j
      by_cases hj : j < xs.length
      · exact h j (Nat.zero_le _) hj
      · rw [List.getElem?_eq_none (by omega), List.getElem?_eq_none (by omega)]
    · rintro rfl j _ _; rfl
  rw [Tr_congr hc] at this
  rw [show (0 : Int) = ((0 : Nat) : Int) from rfl, this]
  by_cases h : xs = ys
  · rw [Tr_true h]; rfl
  · rw [Tr_false h]; rfl
theorem laws_szEntry_eq (x : Entry) (left : Int) (hw : Wf TEntry x) (hl : In20 left) : laws_szEntry x left = some (dec left (tot TEntry x)) := by
  have e : tot TEntry x = x.1.size + 0 := by
    show x.1.size + (0 + (0)) = _
    omega
  rw [e]
  unfold laws_szEntry
  by_cases h0 : (x.1.size : Int) ≤ left
  rotate_left
  · have hm := max_i64
    have hs : x.1.size ≤ maxLen := hw.1
    have q0 := hl.1
    have q1 := hl.2
    rw [wrap_id (x := left - (x.1.size : Int)) (by omega) (by omega), decide_eq_true (by omega), dec_gt (by omega)]
    rfl
  have hl0 := In20.sub (n := x.1.size) hl h0
  rw [wrap_id (x := left - (x.1.size : Int)) (by have := hl0.1; omega) (by have := hl0.2; omega), decide_eq_false (by have := hl0.1; omega), cond_false, ← dec_dec h0]
  exact sz_done hl0
theorem laws_szEntryS_eq (x : List Entry) (left : Int) (hw : Wf (.sl TEntry) x) (hl : In20 left) : laws_szEntryS LP x left = some (dec left (tot (.sl TEntry) x)) := by
  have hm := hw.1
  have hmx := max_i64
  have hLP := LP_ge
  have hloop := sz_list (t := TEntry) (xs := x) (l := fun k i s => laws_szEntryS.l5 LP k x s i) hm
    (fun k s hs => by
      simp only [laws_szEntryS.l5, laws_szEntryS.b5]
      rw [decide_eq_false (by omega)]
      rfl)
    (fun k i s hi hs => by
      simp only [laws_szEntryS.l5, laws_szEntryS.b5]
      rw [decide_eq_true (by omega), cond_true, oget_lt hi, laws_szEntry_eq _ _ (hw.2 _ (List.getElem_mem hi)) hs, obind_some', wrap_id (by omega) (by omega)]
      rfl)
  refine sz_prim hl hm (K := fun t => obind (laws_szEntryS.l5 LP LP x t 0) (leF (fun z => some z) (fun y => some y))) (fun h => ?_)
  have h2 := hloop LP (left - x.length) (by omega) (hl.sub h)
  show obind (laws_szEntryS.l5 LP LP x (left - x.length) 0) _ = _
  rw [show laws_szEntryS.l5 LP LP x (left - x.length) 0 = _ from h2]
  unfold dec
  split <;> rfl
theorem laws_szIntS_eq (x : List Int) (left : Int) (hw : Wf (.sl (.int .i64)) x) (hl : In20 left) : laws_szIntS x left = some (dec left (tot (.sl (.int .i64)) x)) := by
  have e : tot (.sl (.int .i64)) x = x.length + 0 := by
    show x.length + (x.map (tot (.int .i64))).sum = _
    rw [sum_zero (f := tot (.int .i64)) (fun _ => rfl)]
  rw [e]
  exact sz_prim hl hw.1 (K := fun t => some t) (fun h => sz_done (hl.sub h))
theorem laws_szCommit_eq (x : Commit) (left : Int) (hw : Wf TCommit x) (hl : In20 left) : laws_szCommit LP x left = some (dec left (tot TCommit x)) := by
  have e : tot TCommit x = tot (.sl (.int .i64)) x.1 + (tot (.sl TEntry) x.2.1 + 0) := by
    show tot (.sl (.int .i64)) x.1 + (tot (.sl TEntry) x.2.1 + (0)) = _
    omega
  rw [e]
  unfold laws_szCommit
  rw [laws_szIntS_eq _ _ hw.1 hl, obind_some']
  by_cases h0 : ((tot (.sl (.int .i64)) x.1 : Nat) : Int) ≤ left
  rotate_left
  · rw [dec_gt (by omega), dec_gt (by omega)]
    rfl
  have hl0 := In20.sub hl h0
  rw [dec_le h0, decide_eq_false (by have := hl0.1; omega), cond_false, ← dec_dec h0]
  rw [laws_szEntryS_eq _ _ hw.2.1 hl0, obind_some']
  by_cases h1 : ((tot (.sl TEntry) x.2.1 : Nat) : Int) ≤ (left - (tot (.sl (.int .i64)) x.1 : Nat))
  rotate_left
  · rw [dec_gt (by omega), dec_gt (by omega)]
    rfl
  have hl1 := In20.sub hl0 h1
  rw [dec_le h1, decide_eq_false (by have := hl1.1; omega), cond_false, ← dec_dec h1]
  exact sz_done hl1
theorem laws_szCommitS_eq (x : List Commit) (left : Int) (hw : Wf (.sl TCommit) x) (hl : In20 left) : laws_szCommitS LP x left = some (dec left (tot (.sl TCommit) x)) := by
  have hm := hw.1
  have hmx := max_i64
  have hLP := LP_ge
  have hloop := sz_list (t := TCommit) (xs := x) (l := fun k i s => laws_szCommitS.l5 LP k x s i) hm
    (fun k s hs => by
      simp only [laws_szCommitS.l5, laws_szCommitS.b5]
      rw [decide_eq_false (by omega)]
      rfl)
    (fun k i s hi hs => by
      simp only [laws_szCommitS.l5, laws_szCommitS.b5]
      rw [decide_eq_true (by omega), cond_true, oget_lt hi, laws_szCommit_eq _ _ (hw.2 _ (List.getElem_mem hi)) hs, obind_some', wrap_id (by omega) (by omega)]
      rfl)
  refine sz_prim hl hm (K := fun t => obind (laws_szCommitS.l5 LP LP x t 0) (leF (fun z => some z) (fun y => some y))) (fun h => ?_)
  have h2 := hloop LP (left - x.length) (by omega) (hl.sub h)
  show obind (laws_szCommitS.l5 LP LP x (left - x.length) 0) _ = _
  rw [show laws_szCommitS.l5 LP LP x (left - x.length) 0 = _ from h2]
  unfold dec
  split <;> rfl
theorem laws_szRef_eq (x : Ref) (left : Int) (hw : Wf TRef x) (hl : In20 left) : laws_szRef x left = some (dec left (tot TRef x)) := by
  have e : tot TRef x = x.1.size + 0 := by
    show x.1.size + (0 + (0 + (0 + (0)))) = _
    omega
  rw [e]
  unfold laws_szRef
  by_cases h0 : (x.1.size : Int) ≤ left
  rotate_left
  · have hm := max_i64
    have hs : x.1.size ≤ maxLen := hw.1
    have q0 := hl.1
    have q1 := hl.2
    rw [wrap_id (x := left - (x.1.size : Int)) (by omega) (by omega), decide_eq_true (by omega), dec_gt (by omega)]
    rfl
  have hl0 := In20.sub (n := x.1.size) hl h0
  rw [wrap_id (x := left - (x.1.size : Int)) (by have := hl0.1; omega) (by have := hl0.2; omega), decide_eq_false (by have := hl0.1; omega), cond_false, ← dec_dec h0]
  exact sz_done hl0
theorem laws_szRefS_eq (x : List Ref) (left : Int) (hw : Wf (.sl TRef) x) (hl : In20 left) : laws_szRefS LP x left = some (dec left (tot (.sl TRef) x)) := by
  have hm := hw.1
  have hmx := max_i64
  have hLP := LP_ge
  have hloop := sz_list (t := TRef) (xs := x) (l := fun k i s => laws_szRefS.l5 LP k x s i) hm
    (fun k s hs => by
      simp only [laws_szRefS.l5, laws_szRefS.b5]
      rw [decide_eq_false (by omega)]
      rfl)
    (fun k i s hi hs => by
      simp only [laws_szRefS.l5, laws_szRefS.b5]
      rw [decide_eq_true (by omega), cond_true, oget_lt hi, laws_szRef_eq _ _ (hw.2 _ (List.getElem_mem hi)) hs, obind_some', wrap_id (by omega) (by omega)]
      rfl)
  refine sz_prim hl hm (K := fun t => obind (laws_szRefS.l5 LP LP x t 0) (leF (fun z => some z) (fun y => some y))) (fun h => ?_)
  have h2 := hloop LP (left - x.length) (by omega) (hl.sub h)
  show obind (laws_szRefS.l5 LP LP x (left - x.length) 0) _ = _
  rw [show laws_szRefS.l5 LP LP x (left - x.length) 0 = _ from h2]
  unfold dec
  split <;> rfl
theorem laws_szBase_eq (x : Base) (left : Int) (hw : Wf TBase x) (hl : In20 left) : laws_szBase LP x left = some (dec left (tot TBase x)) := by
  have e : tot TBase x = tot (.sl TCommit) x.1 + (tot (.sl TRef) x.2.1 + 0) := by
    show tot (.sl TCommit) x.1 + (tot (.sl TRef) x.2.1 + (0)) = _
    omega
  rw [e]
  unfold laws_szBase
  rw [laws_szCommitS_eq _ _ hw.1 hl, obind_some']
  by_cases h0 : ((tot (.sl TCommit) x.1 : Nat) : Int) ≤ left
  rotate_left
  · rw [dec_gt (by omega), dec_gt (by omega)]
    rfl
  have hl0 := In20.sub hl h0
  rw [dec_le h0, decide_eq_false (by have := hl0.1; omega), cond_false, ← dec_dec h0]
  rw [laws_szRefS_eq _ _ hw.2.1 hl0, obind_some']
  by_cases h1 : ((tot (.sl TRef) x.2.1 : Nat) : Int) ≤ (left - (tot (.sl TCommit) x.1 : Nat))
  rotate_left
  · rw [dec_gt (by omega), dec_gt (by omega)]
    rfl
  have hl1 := In20.sub hl0 h1
  rw [dec_le h1, decide_eq_false (by have := hl1.1; omega), cond_false, ← dec_dec h1]
  exact sz_done hl1
theorem laws_szEdit_eq (x : Edit) (left : Int) (hw : Wf TEdit x) (hl : In20 left) : laws_szEdit x left = some (dec left (tot TEdit x)) := by
  have e : tot TEdit x = x.1.size + 0 := by
    show x.1.size + (0 + (0 + (0))) = _
    omega
  rw [e]
  unfold laws_szEdit
  by_cases h0 : (x.1.size : Int) ≤ left
  rotate_left
  · have hm := max_i64
    have hs : x.1.size ≤ maxLen := hw.1
    have q0 := hl.1
    have q1 := hl.2
    rw [wrap_id (x := left - (x.1.size : Int)) (by omega) (by omega), decide_eq_true (by omega), dec_gt (by omega)]
    rfl
  have hl0 := In20.sub (n := x.1.size) hl h0
  rw [wrap_id (x := left - (x.1.size : Int)) (by have := hl0.1; omega) (by have := hl0.2; omega), decide_eq_false (by have := hl0.1; omega), cond_false, ← dec_dec h0]
  exact sz_done hl0
theorem laws_szEditS_eq (x : List Edit) (left : Int) (hw : Wf (.sl TEdit) x) (hl : In20 left) : laws_szEditS LP x left = some (dec left (tot (.sl TEdit) x)) := by
  have hm := hw.1
  have hmx := max_i64
  have hLP := LP_ge
  have hloop := sz_list (t := TEdit) (xs := x) (l := fun k i s => laws_szEditS.l5 LP k x s i) hm
    (fun k s hs => by
      simp only [laws_szEditS.l5, laws_szEditS.b5]
      rw [decide_eq_false (by omega)]
      rfl)
    (fun k i s hi hs => by
      simp only [laws_szEditS.l5, laws_szEditS.b5]
      rw [decide_eq_true (by omega), cond_true, oget_lt hi, laws_szEdit_eq _ _ (hw.2 _ (List.getElem_mem hi)) hs, obind_some', wrap_id (by omega) (by omega)]
      rfl)
  refine sz_prim hl hm (K := fun t => obind (laws_szEditS.l5 LP LP x t 0) (leF (fun z => some z) (fun y => some y))) (fun h => ?_)
  have h2 := hloop LP (left - x.length) (by omega) (hl.sub h)
  show obind (laws_szEditS.l5 LP LP x (left - x.length) 0) _ = _
  rw [show laws_szEditS.l5 LP LP x (left - x.length) 0 = _ from h2]
  unfold dec
  split <;> rfl
theorem laws_szWish_eq (x : Wish) (left : Int) (hw : Wf TWish x) (hl : In20 left) : laws_szWish LP x left = some (dec left (tot TWish x)) := by
  have e : tot TWish x = x.2.1.size + (x.2.2.1.size + (x.2.2.2.1.size + (tot (.sl TEdit) x.2.2.2.2.1 + 0))) := by
    show 0 + (x.2.1.size + (x.2.2.1.size + (x.2.2.2.1.size + (tot (.sl TEdit) x.2.2.2.2.1 + (0))))) = _
    omega
  rw [e]
  unfold laws_szWish
  by_cases h0 : (x.2.1.size : Int) ≤ left
  rotate_left
  · have hm := max_i64
    have hs : x.2.1.size ≤ maxLen := hw.2.1
    have q0 := hl.1
    have q1 := hl.2
    rw [wrap_id (x := left - (x.2.1.size : Int)) (by omega) (by omega), decide_eq_true (by omega), dec_gt (by omega)]
    rfl
  have hl0 := In20.sub (n := x.2.1.size) hl h0
  rw [wrap_id (x := left - (x.2.1.size : Int)) (by have := hl0.1; omega) (by have := hl0.2; omega), decide_eq_false (by have := hl0.1; omega), cond_false, ← dec_dec h0]
  by_cases h1 : (x.2.2.1.size : Int) ≤ (left - (x.2.1.size : Int))
  rotate_left
  · have hm := max_i64
    have hs : x.2.2.1.size ≤ maxLen := hw.2.2.1
    have q0 := hl0.1
    have q1 := hl0.2
    rw [wrap_id (x := (left - (x.2.1.size : Int)) - (x.2.2.1.size : Int)) (by omega) (by omega), decide_eq_true (by omega), dec_gt (by omega)]
    rfl
  have hl1 := In20.sub (n := x.2.2.1.size) hl0 h1
  rw [wrap_id (x := (left - (x.2.1.size : Int)) - (x.2.2.1.size : Int)) (by have := hl1.1; omega) (by have := hl1.2; omega), decide_eq_false (by have := hl1.1; omega), cond_false, ← dec_dec h1]
  by_cases h2 : (x.2.2.2.1.size : Int) ≤ ((left - (x.2.1.size : Int)) - (x.2.2.1.size : Int))
  rotate_left
  · have hm := max_i64
    have hs : x.2.2.2.1.size ≤ maxLen := hw.2.2.2.1
    have q0 := hl1.1
    have q1 := hl1.2
    rw [wrap_id (x := ((left - (x.2.1.size : Int)) - (x.2.2.1.size : Int)) - (x.2.2.2.1.size : Int)) (by omega) (by omega), decide_eq_true (by omega), dec_gt (by omega)]
    rfl
  have hl2 := In20.sub (n := x.2.2.2.1.size) hl1 h2
  rw [wrap_id (x := ((left - (x.2.1.size : Int)) - (x.2.2.1.size : Int)) - (x.2.2.2.1.size : Int)) (by have := hl2.1; omega) (by have := hl2.2; omega), decide_eq_false (by have := hl2.1; omega), cond_false, ← dec_dec h2]
  rw [laws_szEditS_eq _ _ hw.2.2.2.2.1 hl2, obind_some']
  by_cases h3 : ((tot (.sl TEdit) x.2.2.2.2.1 : Nat) : Int) ≤ (((left - (x.2.1.size : Int)) - (x.2.2.1.size : Int)) - (x.2.2.2.1.size : Int))
  rotate_left
  · rw [dec_gt (by omega), dec_gt (by omega)]
    rfl
  have hl3 := In20.sub hl2 h3
  rw [dec_le h3, decide_eq_false (by have := hl3.1; omega), cond_false, ← dec_dec h3]
  exact sz_done hl3
theorem laws_szWishS_eq (x : List Wish) (left : Int) (hw : Wf (.sl TWish) x) (hl : In20 left) : laws_szWishS LP x left = some (dec left (tot (.sl TWish) x)) := by
  have hm := hw.1
  have hmx := max_i64
  have hLP := LP_ge
  have hloop := sz_list (t := TWish) (xs := x) (l := fun k i s => laws_szWishS.l5 LP k x s i) hm
    (fun k s hs => by
      simp only [laws_szWishS.l5, laws_szWishS.b5]
      rw [decide_eq_false (by omega)]
      rfl)
    (fun k i s hi hs => by
      simp only [laws_szWishS.l5, laws_szWishS.b5]
      rw [decide_eq_true (by omega), cond_true, oget_lt hi, laws_szWish_eq _ _ (hw.2 _ (List.getElem_mem hi)) hs, obind_some', wrap_id (by omega) (by omega)]
      rfl)
  refine sz_prim hl hm (K := fun t => obind (laws_szWishS.l5 LP LP x t 0) (leF (fun z => some z) (fun y => some y))) (fun h => ?_)
  have h2 := hloop LP (left - x.length) (by omega) (hl.sub h)
  show obind (laws_szWishS.l5 LP LP x (left - x.length) 0) _ = _
  rw [show laws_szWishS.l5 LP LP x (left - x.length) 0 = _ from h2]
  unfold dec
  split <;> rfl
theorem laws_szClient_eq (x : Client) (left : Int) (hw : Wf TClient x) (hl : In20 left) : laws_szClient LP x left = some (dec left (tot TClient x)) := by
  have e : tot TClient x = tot (.sl TWish) x.1 + (tot (.sl TEntry) x.2.2.2.2.2.2.2.2.1 + 0) := by
    show tot (.sl TWish) x.1 + (0 + (0 + (0 + (0 + (0 + (0 + (0 + (tot (.sl TEntry) x.2.2.2.2.2.2.2.2.1 + (0))))))))) = _
    omega
  rw [e]
  unfold laws_szClient
  rw [laws_szWishS_eq _ _ hw.1 hl, obind_some']
  by_cases h0 : ((tot (.sl TWish) x.1 : Nat) : Int) ≤ left
  rotate_left
  · rw [dec_gt (by omega), dec_gt (by omega)]
    rfl
  have hl0 := In20.sub hl h0
  rw [dec_le h0, decide_eq_false (by have := hl0.1; omega), cond_false, ← dec_dec h0]
  rw [laws_szEntryS_eq _ _ hw.2.2.2.2.2.2.2.2.1 hl0, obind_some']
  by_cases h1 : ((tot (.sl TEntry) x.2.2.2.2.2.2.2.2.1 : Nat) : Int) ≤ (left - (tot (.sl TWish) x.1 : Nat))
  rotate_left
  · rw [dec_gt (by omega), dec_gt (by omega)]
    rfl
  have hl1 := In20.sub hl0 h1
  rw [dec_le h1, decide_eq_false (by have := hl1.1; omega), cond_false, ← dec_dec h1]
  exact sz_done hl1
theorem laws_szClientS_eq (x : List Client) (left : Int) (hw : Wf (.sl TClient) x) (hl : In20 left) : laws_szClientS LP x left = some (dec left (tot (.sl TClient) x)) := by
  have hm := hw.1
  have hmx := max_i64
  have hLP := LP_ge
  have hloop := sz_list (t := TClient) (xs := x) (l := fun k i s => laws_szClientS.l5 LP k x s i) hm
    (fun k s hs => by
      simp only [laws_szClientS.l5, laws_szClientS.b5]
      rw [decide_eq_false (by omega)]
      rfl)
    (fun k i s hi hs => by
      simp only [laws_szClientS.l5, laws_szClientS.b5]
      rw [decide_eq_true (by omega), cond_true, oget_lt hi, laws_szClient_eq _ _ (hw.2 _ (List.getElem_mem hi)) hs, obind_some', wrap_id (by omega) (by omega)]
      rfl)
  refine sz_prim hl hm (K := fun t => obind (laws_szClientS.l5 LP LP x t 0) (leF (fun z => some z) (fun y => some y))) (fun h => ?_)
  have h2 := hloop LP (left - x.length) (by omega) (hl.sub h)
  show obind (laws_szClientS.l5 LP LP x (left - x.length) 0) _ = _
  rw [show laws_szClientS.l5 LP LP x (left - x.length) 0 = _ from h2]
  unfold dec
  split <;> rfl
theorem laws_szEventS_eq (x : List Event) (left : Int) (hw : Wf (.sl TEvent) x) (hl : In20 left) : laws_szEventS x left = some (dec left (tot (.sl TEvent) x)) := by
  have e : tot (.sl TEvent) x = x.length + 0 := by
    show x.length + (x.map (tot TEvent)).sum = _
    rw [sum_zero (f := tot TEvent) (fun _ => rfl)]
  rw [e]
  exact sz_prim hl hw.1 (K := fun t => some t) (fun h => sz_done (hl.sub h))
theorem laws_szWatch_eq (x : Watch) (left : Int) (hw : Wf TWatch x) (hl : In20 left) : laws_szWatch x left = some (dec left (tot TWatch x)) := by
  have e : tot TWatch x = x.1.size + (tot (.sl TEvent) x.2.2.1 + 0) := by
    show x.1.size + (0 + (tot (.sl TEvent) x.2.2.1 + (0))) = _
    omega
  rw [e]
  unfold laws_szWatch
  by_cases h0 : (x.1.size : Int) ≤ left
  rotate_left
  · have hm := max_i64
    have hs : x.1.size ≤ maxLen := hw.1
    have q0 := hl.1
    have q1 := hl.2
    rw [wrap_id (x := left - (x.1.size : Int)) (by omega) (by omega), decide_eq_true (by omega), dec_gt (by omega)]
    rfl
  have hl0 := In20.sub (n := x.1.size) hl h0
  rw [wrap_id (x := left - (x.1.size : Int)) (by have := hl0.1; omega) (by have := hl0.2; omega), decide_eq_false (by have := hl0.1; omega), cond_false, ← dec_dec h0]
  rw [laws_szEventS_eq _ _ hw.2.2.1 hl0, obind_some']
  by_cases h1 : ((tot (.sl TEvent) x.2.2.1 : Nat) : Int) ≤ (left - (x.1.size : Int))
  rotate_left
  · rw [dec_gt (by omega), dec_gt (by omega)]
    rfl
  have hl1 := In20.sub hl0 h1
  rw [dec_le h1, decide_eq_false (by have := hl1.1; omega), cond_false, ← dec_dec h1]
  exact sz_done hl1
theorem laws_szWatchS_eq (x : List Watch) (left : Int) (hw : Wf (.sl TWatch) x) (hl : In20 left) : laws_szWatchS LP x left = some (dec left (tot (.sl TWatch) x)) := by
  have hm := hw.1
  have hmx := max_i64
  have hLP := LP_ge
  have hloop := sz_list (t := TWatch) (xs := x) (l := fun k i s => laws_szWatchS.l5 LP k x s i) hm
    (fun k s hs => by
      simp only [laws_szWatchS.l5, laws_szWatchS.b5]
      rw [decide_eq_false (by omega)]
      rfl)
    (fun k i s hi hs => by
      simp only [laws_szWatchS.l5, laws_szWatchS.b5]
      rw [decide_eq_true (by omega), cond_true, oget_lt hi, laws_szWatch_eq _ _ (hw.2 _ (List.getElem_mem hi)) hs, obind_some', wrap_id (by omega) (by omega)]
      rfl)
  refine sz_prim hl hm (K := fun t => obind (laws_szWatchS.l5 LP LP x t 0) (leF (fun z => some z) (fun y => some y))) (fun h => ?_)
  have h2 := hloop LP (left - x.length) (by omega) (hl.sub h)
  show obind (laws_szWatchS.l5 LP LP x (left - x.length) 0) _ = _
  rw [show laws_szWatchS.l5 LP LP x (left - x.length) 0 = _ from h2]
  unfold dec
  split <;> rfl
theorem laws_szOp_eq (x : Op) (left : Int) (hw : Wf TOp x) (hl : In20 left) : laws_szOp LP x left = some (dec left (tot TOp x)) := by
  have e : tot TOp x = x.2.2.1.size + (x.2.2.2.1.size + (tot (.sl TEdit) x.2.2.2.2.1 + 0)) := by
    show 0 + (0 + (x.2.2.1.size + (x.2.2.2.1.size + (tot (.sl TEdit) x.2.2.2.2.1 + (0))))) = _
    omega
  rw [e]
  unfold laws_szOp
  by_cases h0 : (x.2.2.1.size : Int) ≤ left
  rotate_left
  · have hm := max_i64
    have hs : x.2.2.1.size ≤ maxLen := hw.2.2.1
    have q0 := hl.1
    have q1 := hl.2
    rw [wrap_id (x := left - (x.2.2.1.size : Int)) (by omega) (by omega), decide_eq_true (by omega), dec_gt (by omega)]
    rfl
  have hl0 := In20.sub (n := x.2.2.1.size) hl h0
  rw [wrap_id (x := left - (x.2.2.1.size : Int)) (by have := hl0.1; omega) (by have := hl0.2; omega), decide_eq_false (by have := hl0.1; omega), cond_false, ← dec_dec h0]
  by_cases h1 : (x.2.2.2.1.size : Int) ≤ (left - (x.2.2.1.size : Int))
  rotate_left
  · have hm := max_i64
    have hs : x.2.2.2.1.size ≤ maxLen := hw.2.2.2.1
    have q0 := hl0.1
    have q1 := hl0.2
    rw [wrap_id (x := (left - (x.2.2.1.size : Int)) - (x.2.2.2.1.size : Int)) (by omega) (by omega), decide_eq_true (by omega), dec_gt (by omega)]
    rfl
  have hl1 := In20.sub (n := x.2.2.2.1.size) hl0 h1
  rw [wrap_id (x := (left - (x.2.2.1.size : Int)) - (x.2.2.2.1.size : Int)) (by have := hl1.1; omega) (by have := hl1.2; omega), decide_eq_false (by have := hl1.1; omega), cond_false, ← dec_dec h1]
  rw [laws_szEditS_eq _ _ hw.2.2.2.2.1 hl1, obind_some']
  by_cases h2 : ((tot (.sl TEdit) x.2.2.2.2.1 : Nat) : Int) ≤ ((left - (x.2.2.1.size : Int)) - (x.2.2.2.1.size : Int))
  rotate_left
  · rw [dec_gt (by omega), dec_gt (by omega)]
    rfl
  have hl2 := In20.sub hl1 h2
  rw [dec_le h2, decide_eq_false (by have := hl2.1; omega), cond_false, ← dec_dec h2]
  exact sz_done hl2
theorem laws_szStringS_eq (x : List ByteArray) (left : Int) (hw : Wf (.sl .str) x) (hl : In20 left) : laws_szStringS LP x left = some (dec left (tot (.sl .str) x)) := by
  have hm := hw.1
  have hmx := max_i64
  have hLP := LP_ge
  have hloop := sz_list (t := .str) (xs := x) (l := fun k i s => laws_szStringS.l5 LP k x s i) hm
    (fun k s hs => by
      simp only [laws_szStringS.l5, laws_szStringS.b5]
      rw [decide_eq_false (by omega)]
      rfl)
    (fun k i s hi hs => by
      have hwi := hw.2 x[i] (List.getElem_mem hi)
      have hwi : x[i].size ≤ maxLen := hwi
      have h0 := hs.1
      have h1 := hs.2
      simp only [laws_szStringS.l5, laws_szStringS.b5]
      rw [decide_eq_true (by omega), cond_true, oget_lt hi, wrap_id (x := s - (x[i].size : Int)) (by omega) (by omega), wrap_id (x := (i : Int) + 1) (by omega) (by omega)]
      show _ = cond (decide (dec s x[i].size < (0:Int))) _ (laws_szStringS.l5 LP k x (dec s x[i].size) _)
      by_cases h : (x[i].size : Int) ≤ s
      · rw [dec_le h]; rfl
      · rw [dec_gt (by omega), decide_eq_true (by omega)]; rfl)
  refine sz_prim hl hm (K := fun t => obind (laws_szStringS.l5 LP LP x t 0) (leF (fun z => some z) (fun y => some y))) (fun h => ?_)
  have h2 := hloop LP (left - x.length) (by omega) (hl.sub h)
  show obind (laws_szStringS.l5 LP LP x (left - x.length) 0) _ = _
  rw [show laws_szStringS.l5 LP LP x (left - x.length) 0 = _ from h2]
  unfold dec
  split <;> rfl
theorem laws_szResult_eq (x : Result) (left : Int) (hw : Wf TResult x) (hl : In20 left) : laws_szResult LP x left = some (dec left (tot TResult x)) := by
  have e : tot TResult x = tot (.sl .str) x.2.2.2.1 + (tot (.sl TEntry) x.2.2.2.2.1 + 0) := by
    show 0 + (0 + (0 + (tot (.sl .str) x.2.2.2.1 + (tot (.sl TEntry) x.2.2.2.2.1 + (0))))) = _
    omega
  rw [e]
  unfold laws_szResult
  rw [laws_szStringS_eq _ _ hw.2.2.2.1 hl, obind_some']
  by_cases h0 : ((tot (.sl .str) x.2.2.2.1 : Nat) : Int) ≤ left
  rotate_left
  · rw [dec_gt (by omega), dec_gt (by omega)]
    rfl
  have hl0 := In20.sub hl h0
  rw [dec_le h0, decide_eq_false (by have := hl0.1; omega), cond_false, ← dec_dec h0]
  rw [laws_szEntryS_eq _ _ hw.2.2.2.2.1 hl0, obind_some']
  by_cases h1 : ((tot (.sl TEntry) x.2.2.2.2.1 : Nat) : Int) ≤ (left - (tot (.sl .str) x.2.2.2.1 : Nat))
  rotate_left
  · rw [dec_gt (by omega), dec_gt (by omega)]
    rfl
  have hl1 := In20.sub hl0 h1
  rw [dec_le h1, decide_eq_false (by have := hl1.1; omega), cond_false, ← dec_dec h1]
  exact sz_done hl1
theorem laws_szMoment_eq (x : Moment) (left : Int) (hw : Wf TMoment x) (hl : In20 left) : laws_szMoment LP x left = some (dec left (tot TMoment x)) := by
  have e : tot TMoment x = tot TOp x.2.2.2.1 + (tot TResult x.2.2.2.2.1 + 0) := by
    show 0 + (0 + (0 + (tot TOp x.2.2.2.1 + (tot TResult x.2.2.2.2.1 + (0))))) = _
    omega
  rw [e]
  unfold laws_szMoment
  rw [laws_szOp_eq _ _ hw.2.2.2.1 hl, obind_some']
  by_cases h0 : ((tot TOp x.2.2.2.1 : Nat) : Int) ≤ left
  rotate_left
  · rw [dec_gt (by omega), dec_gt (by omega)]
    rfl
  have hl0 := In20.sub hl h0
  rw [dec_le h0, decide_eq_false (by have := hl0.1; omega), cond_false, ← dec_dec h0]
  rw [laws_szResult_eq _ _ hw.2.2.2.2.1 hl0, obind_some']
  by_cases h1 : ((tot TResult x.2.2.2.2.1 : Nat) : Int) ≤ (left - (tot TOp x.2.2.2.1 : Nat))
  rotate_left
  · rw [dec_gt (by omega), dec_gt (by omega)]
    rfl
  have hl1 := In20.sub hl0 h1
  rw [dec_le h1, decide_eq_false (by have := hl1.1; omega), cond_false, ← dec_dec h1]
  exact sz_done hl1
theorem laws_szMomentS_eq (x : List Moment) (left : Int) (hw : Wf (.sl TMoment) x) (hl : In20 left) : laws_szMomentS LP x left = some (dec left (tot (.sl TMoment) x)) := by
  have hm := hw.1
  have hmx := max_i64
  have hLP := LP_ge
  have hloop := sz_list (t := TMoment) (xs := x) (l := fun k i s => laws_szMomentS.l5 LP k x s i) hm
    (fun k s hs => by
      simp only [laws_szMomentS.l5, laws_szMomentS.b5]
      rw [decide_eq_false (by omega)]
      rfl)
    (fun k i s hi hs => by
      simp only [laws_szMomentS.l5, laws_szMomentS.b5]
      rw [decide_eq_true (by omega), cond_true, oget_lt hi, laws_szMoment_eq _ _ (hw.2 _ (List.getElem_mem hi)) hs, obind_some', wrap_id (by omega) (by omega)]
      rfl)
  refine sz_prim hl hm (K := fun t => obind (laws_szMomentS.l5 LP LP x t 0) (leF (fun z => some z) (fun y => some y))) (fun h => ?_)
  have h2 := hloop LP (left - x.length) (by omega) (hl.sub h)
  show obind (laws_szMomentS.l5 LP LP x (left - x.length) 0) _ = _
  rw [show laws_szMomentS.l5 LP LP x (left - x.length) 0 = _ from h2]
  unfold dec
  split <;> rfl
theorem laws_szWorld_eq (x : World) (left : Int) (hw : Wf TWorld x) (hl : In20 left) : laws_szWorld LP x left = some (dec left (tot TWorld x)) := by
  have e : tot TWorld x = tot TBase x.1 + (tot (.sl TClient) x.2.1 + (tot (.sl TWatch) x.2.2.1 + (tot (.sl TMoment) x.2.2.2.1 + 0))) := by
    show tot TBase x.1 + (tot (.sl TClient) x.2.1 + (tot (.sl TWatch) x.2.2.1 + (tot (.sl TMoment) x.2.2.2.1 + (0 + (0))))) = _
    omega
  rw [e]
  unfold laws_szWorld
  rw [laws_szBase_eq _ _ hw.1 hl, obind_some']
  by_cases h0 : ((tot TBase x.1 : Nat) : Int) ≤ left
  rotate_left
  · rw [dec_gt (by omega), dec_gt (by omega)]
    rfl
  have hl0 := In20.sub hl h0
  rw [dec_le h0, decide_eq_false (by have := hl0.1; omega), cond_false, ← dec_dec h0]
  rw [laws_szClientS_eq _ _ hw.2.1 hl0, obind_some']
  by_cases h1 : ((tot (.sl TClient) x.2.1 : Nat) : Int) ≤ (left - (tot TBase x.1 : Nat))
  rotate_left
  · rw [dec_gt (by omega), dec_gt (by omega)]
    rfl
  have hl1 := In20.sub hl0 h1
  rw [dec_le h1, decide_eq_false (by have := hl1.1; omega), cond_false, ← dec_dec h1]
  rw [laws_szWatchS_eq _ _ hw.2.2.1 hl1, obind_some']
  by_cases h2 : ((tot (.sl TWatch) x.2.2.1 : Nat) : Int) ≤ ((left - (tot TBase x.1 : Nat)) - (tot (.sl TClient) x.2.1 : Nat))
  rotate_left
  · rw [dec_gt (by omega), dec_gt (by omega)]
    rfl
  have hl2 := In20.sub hl1 h2
  rw [dec_le h2, decide_eq_false (by have := hl2.1; omega), cond_false, ← dec_dec h2]
  rw [laws_szMomentS_eq _ _ hw.2.2.2.1 hl2, obind_some']
  by_cases h3 : ((tot (.sl TMoment) x.2.2.2.1 : Nat) : Int) ≤ (((left - (tot TBase x.1 : Nat)) - (tot (.sl TClient) x.2.1 : Nat)) - (tot (.sl TWatch) x.2.2.1 : Nat))
  rotate_left
  · rw [dec_gt (by omega), dec_gt (by omega)]
    rfl
  have hl3 := In20.sub hl2 h3
  rw [dec_le h3, decide_eq_false (by have := hl3.1; omega), cond_false, ← dec_dec h3]
  exact sz_done hl3
theorem laws_toEntry_eq (x : Entry) (hs : Sm TEntry x) : laws_toEntry x = some x := by
  unfold laws_toEntry
  rfl
theorem laws_toEntryS_eq (x : List Entry) (hs : Sm (.sl TEntry) x) : laws_toEntryS LP x = some x := by
  have hm := hs.1
  have hLP := LP_ge
  have hloop := to_list (xs := x) (fun k i s => laws_toEntryS.l3 LP k x i s)
    (fun k s h => by
      simp only [laws_toEntryS.l3, laws_toEntryS.b3]
      rw [decide_eq_false (by omega)]
      rfl)
    (fun k i s hi h => by
      simp only [laws_toEntryS.l3, laws_toEntryS.b3]
      rw [decide_eq_true (by omega), cond_true, oget_lt hi, laws_toEntry_eq _ (hs.2 _ (List.getElem_mem hi)), obind_some', decide_eq_true (by omega), oif_true, decide_eq_true (by omega), oif_true, oget_at (by omega) (by omega), wrap_id (by omega) (by omega)]
      rfl)
  unfold laws_toEntryS laws_toEntryS.e
  rw [decide_eq_true (by omega), oif_true, decide_eq_true (by omega), oif_true]
  show obind (laws_toEntryS.l3 LP LP x 0 _) _ = _
  rw [show laws_toEntryS.l3 LP LP x 0 _ = _ from hloop LP _ (by omega) (by simp)]
  rfl
theorem laws_toIntS_eq (x : List Int) (hs : Sm (.sl (.int .i64)) x) : laws_toIntS LP x = some x := by
  have hm := hs.1
  have hLP := LP_ge
  have hloop := to_list (xs := x) (fun k i s => laws_toIntS.l3 LP k x i s)
    (fun k s h => by
      simp only [laws_toIntS.l3, laws_toIntS.b3]
      rw [decide_eq_false (by omega)]
      rfl)
    (fun k i s hi h => by
      simp only [laws_toIntS.l3, laws_toIntS.b3]
      rw [decide_eq_true (by omega), cond_true, oget_lt hi, decide_eq_true (by omega), oif_true, decide_eq_true (by omega), oif_true, oget_at (by omega) (by omega), wrap_id (by omega) (by omega)]
      rfl)
  unfold laws_toIntS laws_toIntS.e
  rw [decide_eq_true (by omega), oif_true, decide_eq_true (by omega), oif_true]
  show obind (laws_toIntS.l3 LP LP x 0 _) _ = _
  rw [show laws_toIntS.l3 LP LP x 0 _ = _ from hloop LP _ (by omega) (by simp)]
  rfl
theorem laws_toCommit_eq (x : Commit) (hs : Sm TCommit x) : laws_toCommit LP x = some x := by
  unfold laws_toCommit
  rw [laws_toIntS_eq _ hs.1, obind_some']
  rw [laws_toEntryS_eq _ hs.2.1, obind_some']
theorem laws_toCommitS_eq (x : List Commit) (hs : Sm (.sl TCommit) x) : laws_toCommitS LP x = some x := by
  have hm := hs.1
  have hLP := LP_ge
  have hloop := to_list (xs := x) (fun k i s => laws_toCommitS.l3 LP k x i s)
    (fun k s h => by
      simp only [laws_toCommitS.l3, laws_toCommitS.b3]
      rw [decide_eq_false (by omega)]
      rfl)
    (fun k i s hi h => by
      simp only [laws_toCommitS.l3, laws_toCommitS.b3]
      rw [decide_eq_true (by omega), cond_true, oget_lt hi, laws_toCommit_eq _ (hs.2 _ (List.getElem_mem hi)), obind_some', decide_eq_true (by omega), oif_true, decide_eq_true (by omega), oif_true, oget_at (by omega) (by omega), wrap_id (by omega) (by omega)]
      rfl)
  unfold laws_toCommitS laws_toCommitS.e
  rw [decide_eq_true (by omega), oif_true, decide_eq_true (by omega), oif_true]
  show obind (laws_toCommitS.l3 LP LP x 0 _) _ = _
  rw [show laws_toCommitS.l3 LP LP x 0 _ = _ from hloop LP _ (by omega) (by simp)]
  rfl
theorem laws_toRef_eq (x : Ref) (hs : Sm TRef x) : laws_toRef x = some x := by
  unfold laws_toRef
  rfl
theorem laws_toRefS_eq (x : List Ref) (hs : Sm (.sl TRef) x) : laws_toRefS LP x = some x := by
  have hm := hs.1
  have hLP := LP_ge
  have hloop := to_list (xs := x) (fun k i s => laws_toRefS.l3 LP k x i s)
    (fun k s h => by
      simp only [laws_toRefS.l3, laws_toRefS.b3]
      rw [decide_eq_false (by omega)]
      rfl)
    (fun k i s hi h => by
      simp only [laws_toRefS.l3, laws_toRefS.b3]
      rw [decide_eq_true (by omega), cond_true, oget_lt hi, laws_toRef_eq _ (hs.2 _ (List.getElem_mem hi)), obind_some', decide_eq_true (by omega), oif_true, decide_eq_true (by omega), oif_true, oget_at (by omega) (by omega), wrap_id (by omega) (by omega)]
      rfl)
  unfold laws_toRefS laws_toRefS.e
  rw [decide_eq_true (by omega), oif_true, decide_eq_true (by omega), oif_true]
  show obind (laws_toRefS.l3 LP LP x 0 _) _ = _
  rw [show laws_toRefS.l3 LP LP x 0 _ = _ from hloop LP _ (by omega) (by simp)]
  rfl
theorem laws_toBase_eq (x : Base) (hs : Sm TBase x) : laws_toBase LP x = some x := by
  unfold laws_toBase
  rw [laws_toCommitS_eq _ hs.1, obind_some']
  rw [laws_toRefS_eq _ hs.2.1, obind_some']
theorem laws_toEdit_eq (x : Edit) (hs : Sm TEdit x) : laws_toEdit x = some x := by
  unfold laws_toEdit
  rfl
theorem laws_toEditS_eq (x : List Edit) (hs : Sm (.sl TEdit) x) : laws_toEditS LP x = some x := by
  have hm := hs.1
  have hLP := LP_ge
  have hloop := to_list (xs := x) (fun k i s => laws_toEditS.l3 LP k x i s)
    (fun k s h => by
      simp only [laws_toEditS.l3, laws_toEditS.b3]
      rw [decide_eq_false (by omega)]
      rfl)
    (fun k i s hi h => by
      simp only [laws_toEditS.l3, laws_toEditS.b3]
      rw [decide_eq_true (by omega), cond_true, oget_lt hi, laws_toEdit_eq _ (hs.2 _ (List.getElem_mem hi)), obind_some', decide_eq_true (by omega), oif_true, decide_eq_true (by omega), oif_true, oget_at (by omega) (by omega), wrap_id (by omega) (by omega)]
      rfl)
  unfold laws_toEditS laws_toEditS.e
  rw [decide_eq_true (by omega), oif_true, decide_eq_true (by omega), oif_true]
  show obind (laws_toEditS.l3 LP LP x 0 _) _ = _
  rw [show laws_toEditS.l3 LP LP x 0 _ = _ from hloop LP _ (by omega) (by simp)]
  rfl
theorem laws_toWish_eq (x : Wish) (hs : Sm TWish x) : laws_toWish LP x = some x := by
  unfold laws_toWish
  rw [laws_toEditS_eq _ hs.2.2.2.2.1, obind_some']
theorem laws_toWishS_eq (x : List Wish) (hs : Sm (.sl TWish) x) : laws_toWishS LP x = some x := by
  have hm := hs.1
  have hLP := LP_ge
  have hloop := to_list (xs := x) (fun k i s => laws_toWishS.l3 LP k x i s)
    (fun k s h => by
      simp only [laws_toWishS.l3, laws_toWishS.b3]
      rw [decide_eq_false (by omega)]
      rfl)
    (fun k i s hi h => by
      simp only [laws_toWishS.l3, laws_toWishS.b3]
      rw [decide_eq_true (by omega), cond_true, oget_lt hi, laws_toWish_eq _ (hs.2 _ (List.getElem_mem hi)), obind_some', decide_eq_true (by omega), oif_true, decide_eq_true (by omega), oif_true, oget_at (by omega) (by omega), wrap_id (by omega) (by omega)]
      rfl)
  unfold laws_toWishS laws_toWishS.e
  rw [decide_eq_true (by omega), oif_true, decide_eq_true (by omega), oif_true]
  show obind (laws_toWishS.l3 LP LP x 0 _) _ = _
  rw [show laws_toWishS.l3 LP LP x 0 _ = _ from hloop LP _ (by omega) (by simp)]
  rfl
theorem laws_toClient_eq (x : Client) (hs : Sm TClient x) : laws_toClient LP x = some x := by
  unfold laws_toClient
  rw [laws_toWishS_eq _ hs.1, obind_some']
  rw [laws_toEntryS_eq _ hs.2.2.2.2.2.2.2.2.1, obind_some']
theorem laws_toClientS_eq (x : List Client) (hs : Sm (.sl TClient) x) : laws_toClientS LP x = some x := by
  have hm := hs.1
  have hLP := LP_ge
  have hloop := to_list (xs := x) (fun k i s => laws_toClientS.l3 LP k x i s)
    (fun k s h => by
      simp only [laws_toClientS.l3, laws_toClientS.b3]
      rw [decide_eq_false (by omega)]
      rfl)
    (fun k i s hi h => by
      simp only [laws_toClientS.l3, laws_toClientS.b3]
      rw [decide_eq_true (by omega), cond_true, oget_lt hi, laws_toClient_eq _ (hs.2 _ (List.getElem_mem hi)), obind_some', decide_eq_true (by omega), oif_true, decide_eq_true (by omega), oif_true, oget_at (by omega) (by omega), wrap_id (by omega) (by omega)]
      rfl)
  unfold laws_toClientS laws_toClientS.e
  rw [decide_eq_true (by omega), oif_true, decide_eq_true (by omega), oif_true]
  show obind (laws_toClientS.l3 LP LP x 0 _) _ = _
  rw [show laws_toClientS.l3 LP LP x 0 _ = _ from hloop LP _ (by omega) (by simp)]
  rfl
theorem laws_toEvent_eq (x : Event) (hs : Sm TEvent x) : laws_toEvent x = some x := by
  unfold laws_toEvent
  rfl
theorem laws_toEventS_eq (x : List Event) (hs : Sm (.sl TEvent) x) : laws_toEventS LP x = some x := by
  have hm := hs.1
  have hLP := LP_ge
  have hloop := to_list (xs := x) (fun k i s => laws_toEventS.l3 LP k x i s)
    (fun k s h => by
      simp only [laws_toEventS.l3, laws_toEventS.b3]
      rw [decide_eq_false (by omega)]
      rfl)
    (fun k i s hi h => by
      simp only [laws_toEventS.l3, laws_toEventS.b3]
      rw [decide_eq_true (by omega), cond_true, oget_lt hi, laws_toEvent_eq _ (hs.2 _ (List.getElem_mem hi)), obind_some', decide_eq_true (by omega), oif_true, decide_eq_true (by omega), oif_true, oget_at (by omega) (by omega), wrap_id (by omega) (by omega)]
      rfl)
  unfold laws_toEventS laws_toEventS.e
  rw [decide_eq_true (by omega), oif_true, decide_eq_true (by omega), oif_true]
  show obind (laws_toEventS.l3 LP LP x 0 _) _ = _
  rw [show laws_toEventS.l3 LP LP x 0 _ = _ from hloop LP _ (by omega) (by simp)]
  rfl
theorem laws_toWatch_eq (x : Watch) (hs : Sm TWatch x) : laws_toWatch LP x = some x := by
  unfold laws_toWatch
  rw [laws_toEventS_eq _ hs.2.2.1, obind_some']
theorem laws_toWatchS_eq (x : List Watch) (hs : Sm (.sl TWatch) x) : laws_toWatchS LP x = some x := by
  have hm := hs.1
  have hLP := LP_ge
  have hloop := to_list (xs := x) (fun k i s => laws_toWatchS.l3 LP k x i s)
    (fun k s h => by
      simp only [laws_toWatchS.l3, laws_toWatchS.b3]
      rw [decide_eq_false (by omega)]
      rfl)
    (fun k i s hi h => by
      simp only [laws_toWatchS.l3, laws_toWatchS.b3]
      rw [decide_eq_true (by omega), cond_true, oget_lt hi, laws_toWatch_eq _ (hs.2 _ (List.getElem_mem hi)), obind_some', decide_eq_true (by omega), oif_true, decide_eq_true (by omega), oif_true, oget_at (by omega) (by omega), wrap_id (by omega) (by omega)]
      rfl)
  unfold laws_toWatchS laws_toWatchS.e
  rw [decide_eq_true (by omega), oif_true, decide_eq_true (by omega), oif_true]
  show obind (laws_toWatchS.l3 LP LP x 0 _) _ = _
  rw [show laws_toWatchS.l3 LP LP x 0 _ = _ from hloop LP _ (by omega) (by simp)]
  rfl
theorem laws_toOp_eq (x : Op) (hs : Sm TOp x) : laws_toOp LP x = some x := by
  unfold laws_toOp
  rw [laws_toEditS_eq _ hs.2.2.2.2.1, obind_some']
theorem laws_toStringS_eq (x : List ByteArray) (hs : Sm (.sl .str) x) : laws_toStringS LP x = some x := by
  have hm := hs.1
  have hLP := LP_ge
  have hloop := to_list (xs := x) (fun k i s => laws_toStringS.l3 LP k x i s)
    (fun k s h => by
      simp only [laws_toStringS.l3, laws_toStringS.b3]
      rw [decide_eq_false (by omega)]
      rfl)
    (fun k i s hi h => by
      simp only [laws_toStringS.l3, laws_toStringS.b3]
      rw [decide_eq_true (by omega), cond_true, oget_lt hi, decide_eq_true (by omega), oif_true, decide_eq_true (by omega), oif_true, oget_at (by omega) (by omega), wrap_id (by omega) (by omega)]
      rfl)
  unfold laws_toStringS laws_toStringS.e
  rw [decide_eq_true (by omega), oif_true, decide_eq_true (by omega), oif_true]
  show obind (laws_toStringS.l3 LP LP x 0 _) _ = _
  rw [show laws_toStringS.l3 LP LP x 0 _ = _ from hloop LP _ (by omega) (by simp)]
  rfl
theorem laws_toResult_eq (x : Result) (hs : Sm TResult x) : laws_toResult LP x = some x := by
  unfold laws_toResult
  rw [laws_toStringS_eq _ hs.2.2.2.1, obind_some']
  rw [laws_toEntryS_eq _ hs.2.2.2.2.1, obind_some']
theorem laws_toMoment_eq (x : Moment) (hs : Sm TMoment x) : laws_toMoment LP x = some x := by
  unfold laws_toMoment
  rw [laws_toOp_eq _ hs.2.2.2.1, obind_some']
  rw [laws_toResult_eq _ hs.2.2.2.2.1, obind_some']
theorem laws_toMomentS_eq (x : List Moment) (hs : Sm (.sl TMoment) x) : laws_toMomentS LP x = some x := by
  have hm := hs.1
  have hLP := LP_ge
  have hloop := to_list (xs := x) (fun k i s => laws_toMomentS.l3 LP k x i s)
    (fun k s h => by
      simp only [laws_toMomentS.l3, laws_toMomentS.b3]
      rw [decide_eq_false (by omega)]
      rfl)
    (fun k i s hi h => by
      simp only [laws_toMomentS.l3, laws_toMomentS.b3]
      rw [decide_eq_true (by omega), cond_true, oget_lt hi, laws_toMoment_eq _ (hs.2 _ (List.getElem_mem hi)), obind_some', decide_eq_true (by omega), oif_true, decide_eq_true (by omega), oif_true, oget_at (by omega) (by omega), wrap_id (by omega) (by omega)]
      rfl)
  unfold laws_toMomentS laws_toMomentS.e
  rw [decide_eq_true (by omega), oif_true, decide_eq_true (by omega), oif_true]
  show obind (laws_toMomentS.l3 LP LP x 0 _) _ = _
  rw [show laws_toMomentS.l3 LP LP x 0 _ = _ from hloop LP _ (by omega) (by simp)]
  rfl
theorem laws_toWorld_eq (x : World) (hs : Sm TWorld x) : laws_toWorld LP x = some x := by
  unfold laws_toWorld
  rw [laws_toBase_eq _ hs.1, obind_some']
  rw [laws_toClientS_eq _ hs.2.1, obind_some']
  rw [laws_toWatchS_eq _ hs.2.2.1, obind_some']
  rw [laws_toMomentS_eq _ hs.2.2.2.1, obind_some']
theorem laws_eqEntry_eq (a b : Entry) (ha : Sm TEntry a) : laws_eqEntry a b = some (Tr (a = b)) := by
  have e : (a = b) ↔ (a.1 = b.1 ∧ a.2.1 = b.2.1 ∧ True) := by
    constructor
    · rintro rfl; simp
    · intro h
      simp only [Prod.ext_iff]
      simp [h]
  rw [Tr_congr e]
  unfold laws_eqEntry
  rw [str_ne]
  refine eq_step fun _ => ?_
  rw [int_ne]
  refine eq_step fun _ => ?_
  rw [Tr_T]
theorem laws_eqEntryS_eq (a b : List Entry) (ha : Sm (.sl TEntry) a) : laws_eqEntryS LP a b = some (Tr (a = b)) := by
  have hm := ha.1
  have hLP := LP_ge
  unfold laws_eqEntryS laws_eqEntryS.e
  rw [int_ne]
  by_cases hlen : a.length = b.length
  rotate_left
  · rw [Tr_false (fun h => hlen (by omega)), Tr_false (fun h => hlen (by rw [h]))]
    rfl
  rw [Tr_true (by omega)]
  refine eq_list hlen (fun k i => laws_eqEntryS.l4 LP k a b i) (fun k => by
      simp only [laws_eqEntryS.l4, laws_eqEntryS.b4]
      rw [decide_eq_false (by omega)]
      rfl) (fun k i hi hj => by
      simp only [laws_eqEntryS.l4, laws_eqEntryS.b4]
      rw [decide_eq_true (by omega), cond_true, oget_lt hi, oget_lt hj, laws_eqEntry_eq _ _ (ha.2 _ (List.getElem_mem hi)), obind_some', wrap_id (by omega) (by omega)]
      cases Tr (a[i] = b[i]) <;> rfl) LP (by omega)
theorem laws_eqIntS_eq (a b : List Int) (ha : Sm (.sl (.int .i64)) a) : laws_eqIntS LP a b = some (Tr (a = b)) := by
  have hm := ha.1
  have hLP := LP_ge
  unfold laws_eqIntS laws_eqIntS.e
  rw [int_ne]
  by_cases hlen : a.length = b.length
  rotate_left
  · rw [Tr_false (fun h => hlen (by omega)), Tr_false (fun h => hlen (by rw [h]))]
    rfl
  rw [Tr_true (by omega)]
  refine eq_list hlen (fun k i => laws_eqIntS.l4 LP k a b i) (fun k => by
      simp only [laws_eqIntS.l4, laws_eqIntS.b4]
      rw [decide_eq_false (by omega)]
      rfl) (fun k i hi hj => by
      simp only [laws_eqIntS.l4, laws_eqIntS.b4]
      rw [decide_eq_true (by omega), cond_true, oget_lt hi, oget_lt hj, int_ne, wrap_id (by omega) (by omega)]
      cases Tr (a[i] = b[i]) <;> rfl) LP (by omega)
theorem laws_eqCommit_eq (a b : Commit) (ha : Sm TCommit a) : laws_eqCommit LP a b = some (Tr (a = b)) := by
  have e : (a = b) ↔ (a.1 = b.1 ∧ a.2.1 = b.2.1 ∧ True) := by
    constructor
    · rintro rfl; simp
    · intro h
      simp only [Prod.ext_iff]
      simp [h]
  rw [Tr_congr e]
  unfold laws_eqCommit
  rw [laws_eqIntS_eq _ _ ha.1, obind_some']
  refine eq_step fun _ => ?_
  rw [laws_eqEntryS_eq _ _ ha.2.1, obind_some']
  refine eq_step fun _ => ?_
  rw [Tr_T]
theorem laws_eqCommitS_eq (a b : List Commit) (ha : Sm (.sl TCommit) a) : laws_eqCommitS LP a b = some (Tr (a = b)) := by
  have hm := ha.1
  have hLP := LP_ge
  unfold laws_eqCommitS laws_eqCommitS.e
  rw [int_ne]
  by_cases hlen : a.length = b.length
  rotate_left
  · rw [Tr_false (fun h => hlen (by omega)), Tr_false (fun h => hlen (by rw [h]))]
    rfl
  rw [Tr_true (by omega)]
  refine eq_list hlen (fun k i => laws_eqCommitS.l4 LP k a b i) (fun k => by
      simp only [laws_eqCommitS.l4, laws_eqCommitS.b4]
      rw [decide_eq_false (by omega)]
      rfl) (fun k i hi hj => by
      simp only [laws_eqCommitS.l4, laws_eqCommitS.b4]
      rw [decide_eq_true (by omega), cond_true, oget_lt hi, oget_lt hj, laws_eqCommit_eq _ _ (ha.2 _ (List.getElem_mem hi)), obind_some', wrap_id (by omega) (by omega)]
      cases Tr (a[i] = b[i]) <;> rfl) LP (by omega)
theorem laws_eqRef_eq (a b : Ref) (ha : Sm TRef a) : laws_eqRef a b = some (Tr (a = b)) := by
  have e : (a = b) ↔ (a.1 = b.1 ∧ a.2.1 = b.2.1 ∧ a.2.2.1 = b.2.2.1 ∧ a.2.2.2.1 = b.2.2.2.1 ∧ True) := by
    constructor
    · rintro rfl; simp
    · intro h
      simp only [Prod.ext_iff]
      simp [h]
  rw [Tr_congr e]
  unfold laws_eqRef
  rw [str_ne]
  refine eq_step fun _ => ?_
  rw [int_ne]
  refine eq_step fun _ => ?_
  rw [int_ne]
  refine eq_step fun _ => ?_
  rw [bool_ne]
  refine eq_step fun _ => ?_
  rw [Tr_T]
theorem laws_eqRefS_eq (a b : List Ref) (ha : Sm (.sl TRef) a) : laws_eqRefS LP a b = some (Tr (a = b)) := by
  have hm := ha.1
  have hLP := LP_ge
  unfold laws_eqRefS laws_eqRefS.e
  rw [int_ne]
  by_cases hlen : a.length = b.length
  rotate_left
  · rw [Tr_false (fun h => hlen (by omega)), Tr_false (fun h => hlen (by rw [h]))]
    rfl
  rw [Tr_true (by omega)]
  refine eq_list hlen (fun k i => laws_eqRefS.l4 LP k a b i) (fun k => by
      simp only [laws_eqRefS.l4, laws_eqRefS.b4]
      rw [decide_eq_false (by omega)]
      rfl) (fun k i hi hj => by
      simp only [laws_eqRefS.l4, laws_eqRefS.b4]
      rw [decide_eq_true (by omega), cond_true, oget_lt hi, oget_lt hj, laws_eqRef_eq _ _ (ha.2 _ (List.getElem_mem hi)), obind_some', wrap_id (by omega) (by omega)]
      cases Tr (a[i] = b[i]) <;> rfl) LP (by omega)
theorem laws_eqBase_eq (a b : Base) (ha : Sm TBase a) : laws_eqBase LP a b = some (Tr (a = b)) := by
  have e : (a = b) ↔ (a.1 = b.1 ∧ a.2.1 = b.2.1 ∧ True) := by
    constructor
    · rintro rfl; simp
    · intro h
      simp only [Prod.ext_iff]
      simp [h]
  rw [Tr_congr e]
  unfold laws_eqBase
  rw [laws_eqCommitS_eq _ _ ha.1, obind_some']
  refine eq_step fun _ => ?_
  rw [laws_eqRefS_eq _ _ ha.2.1, obind_some']
  refine eq_step fun _ => ?_
  rw [Tr_T]
theorem laws_eqEdit_eq (a b : Edit) (ha : Sm TEdit a) : laws_eqEdit a b = some (Tr (a = b)) := by
  have e : (a = b) ↔ (a.1 = b.1 ∧ a.2.1 = b.2.1 ∧ a.2.2.1 = b.2.2.1 ∧ True) := by
    constructor
    · rintro rfl; simp
    · intro h
      simp only [Prod.ext_iff]
      simp [h]
  rw [Tr_congr e]
  unfold laws_eqEdit
  rw [str_ne]
  refine eq_step fun _ => ?_
  rw [int_ne]
  refine eq_step fun _ => ?_
  rw [bool_ne]
  refine eq_step fun _ => ?_
  rw [Tr_T]
theorem laws_eqEditS_eq (a b : List Edit) (ha : Sm (.sl TEdit) a) : laws_eqEditS LP a b = some (Tr (a = b)) := by
  have hm := ha.1
  have hLP := LP_ge
  unfold laws_eqEditS laws_eqEditS.e
  rw [int_ne]
  by_cases hlen : a.length = b.length
  rotate_left
  · rw [Tr_false (fun h => hlen (by omega)), Tr_false (fun h => hlen (by rw [h]))]
    rfl
  rw [Tr_true (by omega)]
  refine eq_list hlen (fun k i => laws_eqEditS.l4 LP k a b i) (fun k => by
      simp only [laws_eqEditS.l4, laws_eqEditS.b4]
      rw [decide_eq_false (by omega)]
      rfl) (fun k i hi hj => by
      simp only [laws_eqEditS.l4, laws_eqEditS.b4]
      rw [decide_eq_true (by omega), cond_true, oget_lt hi, oget_lt hj, laws_eqEdit_eq _ _ (ha.2 _ (List.getElem_mem hi)), obind_some', wrap_id (by omega) (by omega)]
      cases Tr (a[i] = b[i]) <;> rfl) LP (by omega)
theorem laws_eqWish_eq (a b : Wish) (ha : Sm TWish a) : laws_eqWish LP a b = some (Tr (a = b)) := by
  have e : (a = b) ↔ (a.1 = b.1 ∧ a.2.1 = b.2.1 ∧ a.2.2.1 = b.2.2.1 ∧ a.2.2.2.1 = b.2.2.2.1 ∧ a.2.2.2.2.1 = b.2.2.2.2.1 ∧ True) := by
    constructor
    · rintro rfl; simp
    · intro h
      simp only [Prod.ext_iff]
      simp [h]
  rw [Tr_congr e]
  unfold laws_eqWish
  rw [int_ne]
  refine eq_step fun _ => ?_
  rw [str_ne]
  refine eq_step fun _ => ?_
  rw [str_ne]
  refine eq_step fun _ => ?_
  rw [str_ne]
  refine eq_step fun _ => ?_
  rw [laws_eqEditS_eq _ _ ha.2.2.2.2.1, obind_some']
  refine eq_step fun _ => ?_
  rw [Tr_T]
theorem laws_eqWishS_eq (a b : List Wish) (ha : Sm (.sl TWish) a) : laws_eqWishS LP a b = some (Tr (a = b)) := by
  have hm := ha.1
  have hLP := LP_ge
  unfold laws_eqWishS laws_eqWishS.e
  rw [int_ne]
  by_cases hlen : a.length = b.length
  rotate_left
  · rw [Tr_false (fun h => hlen (by omega)), Tr_false (fun h => hlen (by rw [h]))]
    rfl
  rw [Tr_true (by omega)]
  refine eq_list hlen (fun k i => laws_eqWishS.l4 LP k a b i) (fun k => by
      simp only [laws_eqWishS.l4, laws_eqWishS.b4]
      rw [decide_eq_false (by omega)]
      rfl) (fun k i hi hj => by
      simp only [laws_eqWishS.l4, laws_eqWishS.b4]
      rw [decide_eq_true (by omega), cond_true, oget_lt hi, oget_lt hj, laws_eqWish_eq _ _ (ha.2 _ (List.getElem_mem hi)), obind_some', wrap_id (by omega) (by omega)]
      cases Tr (a[i] = b[i]) <;> rfl) LP (by omega)
theorem laws_eqClient_eq (a b : Client) (ha : Sm TClient a) : laws_eqClient LP a b = some (Tr (a = b)) := by
  have e : (a = b) ↔ (a.1 = b.1 ∧ a.2.1 = b.2.1 ∧ a.2.2.1 = b.2.2.1 ∧ a.2.2.2.1 = b.2.2.2.1 ∧ a.2.2.2.2.1 = b.2.2.2.2.1 ∧ a.2.2.2.2.2.1 = b.2.2.2.2.2.1 ∧ a.2.2.2.2.2.2.1 = b.2.2.2.2.2.2.1 ∧ a.2.2.2.2.2.2.2.1 = b.2.2.2.2.2.2.2.1 ∧ a.2.2.2.2.2.2.2.2.1 = b.2.2.2.2.2.2.2.2.1 ∧ True) := by
    constructor
    · rintro rfl; simp
    · intro h
      simp only [Prod.ext_iff]
      simp [h]
  rw [Tr_congr e]
  unfold laws_eqClient
  rw [laws_eqWishS_eq _ _ ha.1, obind_some']
  refine eq_step fun _ => ?_
  rw [int_ne]
  refine eq_step fun _ => ?_
  rw [int_ne]
  refine eq_step fun _ => ?_
  rw [int_ne]
  refine eq_step fun _ => ?_
  rw [int_ne]
  refine eq_step fun _ => ?_
  rw [int_ne]
  refine eq_step fun _ => ?_
  rw [int_ne]
  refine eq_step fun _ => ?_
  rw [int_ne]
  refine eq_step fun _ => ?_
  rw [laws_eqEntryS_eq _ _ ha.2.2.2.2.2.2.2.2.1, obind_some']
  refine eq_step fun _ => ?_
  rw [Tr_T]
theorem laws_eqClientS_eq (a b : List Client) (ha : Sm (.sl TClient) a) : laws_eqClientS LP a b = some (Tr (a = b)) := by
  have hm := ha.1
  have hLP := LP_ge
  unfold laws_eqClientS laws_eqClientS.e
  rw [int_ne]
  by_cases hlen : a.length = b.length
  rotate_left
  · rw [Tr_false (fun h => hlen (by omega)), Tr_false (fun h => hlen (by rw [h]))]
    rfl
  rw [Tr_true (by omega)]
  refine eq_list hlen (fun k i => laws_eqClientS.l4 LP k a b i) (fun k => by
      simp only [laws_eqClientS.l4, laws_eqClientS.b4]
      rw [decide_eq_false (by omega)]
      rfl) (fun k i hi hj => by
      simp only [laws_eqClientS.l4, laws_eqClientS.b4]
      rw [decide_eq_true (by omega), cond_true, oget_lt hi, oget_lt hj, laws_eqClient_eq _ _ (ha.2 _ (List.getElem_mem hi)), obind_some', wrap_id (by omega) (by omega)]
      cases Tr (a[i] = b[i]) <;> rfl) LP (by omega)
theorem laws_eqEvent_eq (a b : Event) (ha : Sm TEvent a) : laws_eqEvent a b = some (Tr (a = b)) := by
  have e : (a = b) ↔ (a.1 = b.1 ∧ a.2.1 = b.2.1 ∧ a.2.2.1 = b.2.2.1 ∧ True) := by
    constructor
    · rintro rfl; simp
    · intro h
      simp only [Prod.ext_iff]
      simp [h]
  rw [Tr_congr e]
  unfold laws_eqEvent
  rw [int_ne]
  refine eq_step fun _ => ?_
  rw [int_ne]
  refine eq_step fun _ => ?_
  rw [bool_ne]
  refine eq_step fun _ => ?_
  rw [Tr_T]
theorem laws_eqEventS_eq (a b : List Event) (ha : Sm (.sl TEvent) a) : laws_eqEventS LP a b = some (Tr (a = b)) := by
  have hm := ha.1
  have hLP := LP_ge
  unfold laws_eqEventS laws_eqEventS.e
  rw [int_ne]
  by_cases hlen : a.length = b.length
  rotate_left
  · rw [Tr_false (fun h => hlen (by omega)), Tr_false (fun h => hlen (by rw [h]))]
    rfl
  rw [Tr_true (by omega)]
  refine eq_list hlen (fun k i => laws_eqEventS.l4 LP k a b i) (fun k => by
      simp only [laws_eqEventS.l4, laws_eqEventS.b4]
      rw [decide_eq_false (by omega)]
      rfl) (fun k i hi hj => by
      simp only [laws_eqEventS.l4, laws_eqEventS.b4]
      rw [decide_eq_true (by omega), cond_true, oget_lt hi, oget_lt hj, laws_eqEvent_eq _ _ (ha.2 _ (List.getElem_mem hi)), obind_some', wrap_id (by omega) (by omega)]
      cases Tr (a[i] = b[i]) <;> rfl) LP (by omega)
theorem laws_eqWatch_eq (a b : Watch) (ha : Sm TWatch a) : laws_eqWatch LP a b = some (Tr (a = b)) := by
  have e : (a = b) ↔ (a.1 = b.1 ∧ a.2.1 = b.2.1 ∧ a.2.2.1 = b.2.2.1 ∧ True) := by
    constructor
    · rintro rfl; simp
    · intro h
      simp only [Prod.ext_iff]
      simp [h]
  rw [Tr_congr e]
  unfold laws_eqWatch
  rw [str_ne]
  refine eq_step fun _ => ?_
  rw [int_ne]
  refine eq_step fun _ => ?_
  rw [laws_eqEventS_eq _ _ ha.2.2.1, obind_some']
  refine eq_step fun _ => ?_
  rw [Tr_T]
theorem laws_eqWatchS_eq (a b : List Watch) (ha : Sm (.sl TWatch) a) : laws_eqWatchS LP a b = some (Tr (a = b)) := by
  have hm := ha.1
  have hLP := LP_ge
  unfold laws_eqWatchS laws_eqWatchS.e
  rw [int_ne]
  by_cases hlen : a.length = b.length
  rotate_left
  · rw [Tr_false (fun h => hlen (by omega)), Tr_false (fun h => hlen (by rw [h]))]
    rfl
  rw [Tr_true (by omega)]
  refine eq_list hlen (fun k i => laws_eqWatchS.l4 LP k a b i) (fun k => by
      simp only [laws_eqWatchS.l4, laws_eqWatchS.b4]
      rw [decide_eq_false (by omega)]
      rfl) (fun k i hi hj => by
      simp only [laws_eqWatchS.l4, laws_eqWatchS.b4]
      rw [decide_eq_true (by omega), cond_true, oget_lt hi, oget_lt hj, laws_eqWatch_eq _ _ (ha.2 _ (List.getElem_mem hi)), obind_some', wrap_id (by omega) (by omega)]
      cases Tr (a[i] = b[i]) <;> rfl) LP (by omega)
theorem laws_eqOp_eq (a b : Op) (ha : Sm TOp a) : laws_eqOp LP a b = some (Tr (a = b)) := by
  have e : (a = b) ↔ (a.1 = b.1 ∧ a.2.1 = b.2.1 ∧ a.2.2.1 = b.2.2.1 ∧ a.2.2.2.1 = b.2.2.2.1 ∧ a.2.2.2.2.1 = b.2.2.2.2.1 ∧ True) := by
    constructor
    · rintro rfl; simp
    · intro h
      simp only [Prod.ext_iff]
      simp [h]
  rw [Tr_congr e]
  unfold laws_eqOp
  rw [int_ne]
  refine eq_step fun _ => ?_
  rw [int_ne]
  refine eq_step fun _ => ?_
  rw [str_ne]
  refine eq_step fun _ => ?_
  rw [str_ne]
  refine eq_step fun _ => ?_
  rw [laws_eqEditS_eq _ _ ha.2.2.2.2.1, obind_some']
  refine eq_step fun _ => ?_
  rw [Tr_T]
theorem laws_eqStringS_eq (a b : List ByteArray) (ha : Sm (.sl .str) a) : laws_eqStringS LP a b = some (Tr (a = b)) := by
  have hm := ha.1
  have hLP := LP_ge
  unfold laws_eqStringS laws_eqStringS.e
  rw [int_ne]
  by_cases hlen : a.length = b.length
  rotate_left
  · rw [Tr_false (fun h => hlen (by omega)), Tr_false (fun h => hlen (by rw [h]))]
    rfl
  rw [Tr_true (by omega)]
  refine eq_list hlen (fun k i => laws_eqStringS.l4 LP k a b i) (fun k => by
      simp only [laws_eqStringS.l4, laws_eqStringS.b4]
      rw [decide_eq_false (by omega)]
      rfl) (fun k i hi hj => by
      simp only [laws_eqStringS.l4, laws_eqStringS.b4]
      rw [decide_eq_true (by omega), cond_true, oget_lt hi, oget_lt hj, str_ne, wrap_id (by omega) (by omega)]
      cases Tr (a[i] = b[i]) <;> rfl) LP (by omega)
theorem laws_eqResult_eq (a b : Result) (ha : Sm TResult a) : laws_eqResult LP a b = some (Tr (a = b)) := by
  have e : (a = b) ↔ (a.1 = b.1 ∧ a.2.1 = b.2.1 ∧ a.2.2.1 = b.2.2.1 ∧ a.2.2.2.1 = b.2.2.2.1 ∧ a.2.2.2.2.1 = b.2.2.2.2.1 ∧ True) := by
    constructor
    · rintro rfl; simp
    · intro h
      simp only [Prod.ext_iff]
      simp [h]
  rw [Tr_congr e]
  unfold laws_eqResult
  rw [int_ne]
  refine eq_step fun _ => ?_
  rw [int_ne]
  refine eq_step fun _ => ?_
  rw [int_ne]
  refine eq_step fun _ => ?_
  rw [laws_eqStringS_eq _ _ ha.2.2.2.1, obind_some']
  refine eq_step fun _ => ?_
  rw [laws_eqEntryS_eq _ _ ha.2.2.2.2.1, obind_some']
  refine eq_step fun _ => ?_
  rw [Tr_T]
theorem laws_eqMoment_eq (a b : Moment) (ha : Sm TMoment a) : laws_eqMoment LP a b = some (Tr (a = b)) := by
  have e : (a = b) ↔ (a.1 = b.1 ∧ a.2.1 = b.2.1 ∧ a.2.2.1 = b.2.2.1 ∧ a.2.2.2.1 = b.2.2.2.1 ∧ a.2.2.2.2.1 = b.2.2.2.2.1 ∧ True) := by
    constructor
    · rintro rfl; simp
    · intro h
      simp only [Prod.ext_iff]
      simp [h]
  rw [Tr_congr e]
  unfold laws_eqMoment
  rw [int_ne]
  refine eq_step fun _ => ?_
  rw [int_ne]
  refine eq_step fun _ => ?_
  rw [int_ne]
  refine eq_step fun _ => ?_
  rw [laws_eqOp_eq _ _ ha.2.2.2.1, obind_some']
  refine eq_step fun _ => ?_
  rw [laws_eqResult_eq _ _ ha.2.2.2.2.1, obind_some']
  refine eq_step fun _ => ?_
  rw [Tr_T]
theorem laws_eqMomentS_eq (a b : List Moment) (ha : Sm (.sl TMoment) a) : laws_eqMomentS LP a b = some (Tr (a = b)) := by
  have hm := ha.1
  have hLP := LP_ge
  unfold laws_eqMomentS laws_eqMomentS.e
  rw [int_ne]
  by_cases hlen : a.length = b.length
  rotate_left
  · rw [Tr_false (fun h => hlen (by omega)), Tr_false (fun h => hlen (by rw [h]))]
    rfl
  rw [Tr_true (by omega)]
  refine eq_list hlen (fun k i => laws_eqMomentS.l4 LP k a b i) (fun k => by
      simp only [laws_eqMomentS.l4, laws_eqMomentS.b4]
      rw [decide_eq_false (by omega)]
      rfl) (fun k i hi hj => by
      simp only [laws_eqMomentS.l4, laws_eqMomentS.b4]
      rw [decide_eq_true (by omega), cond_true, oget_lt hi, oget_lt hj, laws_eqMoment_eq _ _ (ha.2 _ (List.getElem_mem hi)), obind_some', wrap_id (by omega) (by omega)]
      cases Tr (a[i] = b[i]) <;> rfl) LP (by omega)
theorem laws_eqWorld_eq (a b : World) (ha : Sm TWorld a) : laws_eqWorld LP a b = some (Tr (a = b)) := by
  have e : (a = b) ↔ (a.1 = b.1 ∧ a.2.1 = b.2.1 ∧ a.2.2.1 = b.2.2.1 ∧ a.2.2.2.1 = b.2.2.2.1 ∧ a.2.2.2.2.1 = b.2.2.2.2.1 ∧ True) := by
    constructor
    · rintro rfl; simp
    · intro h
      simp only [Prod.ext_iff]
      simp [h]
  rw [Tr_congr e]
  unfold laws_eqWorld
  rw [laws_eqBase_eq _ _ ha.1, obind_some']
  refine eq_step fun _ => ?_
  rw [laws_eqClientS_eq _ _ ha.2.1, obind_some']
  refine eq_step fun _ => ?_
  rw [laws_eqWatchS_eq _ _ ha.2.2.1, obind_some']
  refine eq_step fun _ => ?_
  rw [laws_eqMomentS_eq _ _ ha.2.2.2.1, obind_some']
  refine eq_step fun _ => ?_
  rw [int_ne]
  refine eq_step fun _ => ?_
  rw [Tr_T]
theorem slices_IndexFunc_byte_eq (xs : List Int) (φ : (Int × Unit) → Option Bool) (P : Int → Prop) (hm : xs.length ≤ 1048576) (hφ : ∀ x ∈ xs, φ (x, ()) = some (Tr (P x))) :
    (∃ (j : Nat) (hj : j < xs.length), slices_IndexFunc_byte LP xs φ = some (j : Int) ∧ P xs[j] ∧ ∀ (i : Nat) (hi : i < j), ¬ P (xs[i]'(by omega))) ∨ (slices_IndexFunc_byte LP xs φ = some (-1) ∧ ∀ x ∈ xs, ¬ P x) := by
  have hLP := LP_ge
  have hl := loop_find (fun k i => slices_IndexFunc_byte.l2 LP k xs φ (xs.length : Int) i) xs.length (fun i => ∃ h : i < xs.length, P xs[i]) (fun i => (i : Int)) ()
    (fun k => by
      simp only [slices_IndexFunc_byte.l2, slices_IndexFunc_byte.b2]
      rw [decide_eq_false (by omega)]
      rfl)
    (fun k i hi => by
      simp only [slices_IndexFunc_byte.l2, slices_IndexFunc_byte.b2]
      rw [decide_eq_true (by omega), cond_true, oget_lt hi, hφ _ (List.getElem_mem hi), obind_some', wrap_id (by omega) (by omega), Tr_congr (q := ∃ h : i < xs.length, P xs[i]) ⟨fun h => ⟨hi, h⟩, fun ⟨_, h⟩ => h⟩]
      rfl) LP 0 (Nat.zero_le _) (by omega)
  rcases hl with ⟨j, _, hj, ⟨_, hp⟩, hn, he⟩ | ⟨hn, he⟩
  · refine .inl ⟨j, hj, ?_, hp, fun i hi hP => hn i (Nat.zero_le _) hi ⟨by omega, hP⟩⟩
    show obind (slices_IndexFunc_byte.l2 LP LP xs φ (xs.length : Int) 0) _ = _
    rw [show slices_IndexFunc_byte.l2 LP LP xs φ (xs.length : Int) 0 = _ from he]
    rfl
  · refine .inr ⟨?_, fun x hx hP => ?_⟩
    · show obind (slices_IndexFunc_byte.l2 LP LP xs φ (xs.length : Int) 0) _ = _
      rw [show slices_IndexFunc_byte.l2 LP LP xs φ (xs.length : Int) 0 = _ from he]
      rfl
    · obtain ⟨j, hj, rfl⟩ := List.getElem_of_mem hx
      exact hn j (Nat.zero_le _) hj ⟨hj, hP⟩
theorem slices_ContainsFunc_byte_eq (xs : List Int) (φ : (Int × Unit) → Option Bool) (P : Int → Prop) (hm : xs.length ≤ 1048576) (hφ : ∀ x ∈ xs, φ (x, ()) = some (Tr (P x))) :
    slices_ContainsFunc_byte LP xs φ = some (Tr (∃ x ∈ xs, P x)) := by
  unfold slices_ContainsFunc_byte
  rcases slices_IndexFunc_byte_eq xs φ P hm hφ with ⟨j, hj, he, hp, _⟩ | ⟨he, hn⟩
  · rw [he, obind_some', Tr_true ⟨_, List.getElem_mem hj, hp⟩, decide_eq_true (by omega)]
  · rw [he, obind_some', Tr_false (fun ⟨x, hx, hp⟩ => hn x hx hp)]
    rfl
theorem impl_areAll_byte_eq (xs : List Int) (φ : (Int × Unit) → Option Bool) (P : Int → Prop) (hm : xs.length ≤ 1048576) (hφ : ∀ x ∈ xs, φ (x, ()) = some (Tr (P x))) :
    impl_areAll_byte LP xs φ = some (Tr (∀ x ∈ xs, P x)) := by
  unfold impl_areAll_byte
  rw [slices_ContainsFunc_byte_eq xs _ (fun x => ¬ P x) hm (fun x hx => by
    show impl_areAll_byte_c1 x φ = _
    unfold impl_areAll_byte_c1
    rw [hφ x hx, obind_some', Tr_not]), obind_some', Tr_not]
  rw [Tr_congr]
  constructor
  · intro h x hx
    exact Classical.byContradiction fun hn => h ⟨x, hx, hn⟩
  · rintro h ⟨x, hx, hn⟩
    exact hn (h x hx)
theorem slices_IndexFunc_int_eq (xs : List Int) (φ : (Int × Unit) → Option Bool) (P : Int → Prop) (hm : xs.length ≤ 1048576) (hφ : ∀ x ∈ xs, φ (x, ()) = some (Tr (P x))) :
    (∃ (j : Nat) (hj : j < xs.length), slices_IndexFunc_int LP xs φ = some (j : Int) ∧ P xs[j] ∧ ∀ (i : Nat) (hi : i < j), ¬ P (xs[i]'(by omega))) ∨ (slices_IndexFunc_int LP xs φ = some (-1) ∧ ∀ x ∈ xs, ¬ P x) := by
  have hLP := LP_ge
  have hl := loop_find (fun k i => slices_IndexFunc_int.l2 LP k xs φ (xs.length : Int) i) xs.length (fun i => ∃ h : i < xs.length, P xs[i]) (fun i => (i : Int)) ()
    (fun k => by
      simp only [slices_IndexFunc_int.l2, slices_IndexFunc_int.b2]
      rw [decide_eq_false (by omega)]
      rfl)
    (fun k i hi => by
      simp only [slices_IndexFunc_int.l2, slices_IndexFunc_int.b2]
      rw [decide_eq_true (by omega), cond_true, oget_lt hi, hφ _ (List.getElem_mem hi), obind_some', wrap_id (by omega) (by omega), Tr_congr (q := ∃ h : i < xs.length, P xs[i]) ⟨fun h => ⟨hi, h⟩, fun ⟨_, h⟩ => h⟩]
      rfl) LP 0 (Nat.zero_le _) (by omega)
  rcases hl with ⟨j, _, hj, ⟨_, hp⟩, hn, he⟩ | ⟨hn, he⟩
  · refine .inl ⟨j, hj, ?_, hp, fun i hi hP => hn i (Nat.zero_le _) hi ⟨by omega, hP⟩⟩
    show obind (slices_IndexFunc_int.l2 LP LP xs φ (xs.length : Int) 0) _ = _
    rw [show slices_IndexFunc_int.l2 LP LP xs φ (xs.length : Int) 0 = _ from he]
    rfl
  · refine .inr ⟨?_, fun x hx hP => ?_⟩
    · show obind (slices_IndexFunc_int.l2 LP LP xs φ (xs.length : Int) 0) _ = _
      rw [show slices_IndexFunc_int.l2 LP LP xs φ (xs.length : Int) 0 = _ from he]
      rfl
    · obtain ⟨j, hj, rfl⟩ := List.getElem_of_mem hx
      exact hn j (Nat.zero_le _) hj ⟨hj, hP⟩
theorem slices_ContainsFunc_int_eq (xs : List Int) (φ : (Int × Unit) → Option Bool) (P : Int → Prop) (hm : xs.length ≤ 1048576) (hφ : ∀ x ∈ xs, φ (x, ()) = some (Tr (P x))) :
    slices_ContainsFunc_int LP xs φ = some (Tr (∃ x ∈ xs, P x)) := by
  unfold slices_ContainsFunc_int
  rcases slices_IndexFunc_int_eq xs φ P hm hφ with ⟨j, hj, he, hp, _⟩ | ⟨he, hn⟩
  · rw [he, obind_some', Tr_true ⟨_, List.getElem_mem hj, hp⟩, decide_eq_true (by omega)]
  · rw [he, obind_some', Tr_false (fun ⟨x, hx, hp⟩ => hn x hx hp)]
    rfl
theorem impl_areAll_int_eq (xs : List Int) (φ : (Int × Unit) → Option Bool) (P : Int → Prop) (hm : xs.length ≤ 1048576) (hφ : ∀ x ∈ xs, φ (x, ()) = some (Tr (P x))) :
    impl_areAll_int LP xs φ = some (Tr (∀ x ∈ xs, P x)) := by
  unfold impl_areAll_int
  rw [slices_ContainsFunc_int_eq xs _ (fun x => ¬ P x) hm (fun x hx => by
    show impl_areAll_int_c1 x φ = _
    unfold impl_areAll_int_c1
    rw [hφ x hx, obind_some', Tr_not]), obind_some', Tr_not]
  rw [Tr_congr]
  constructor
  · intro h x hx
    exact Classical.byContradiction fun hn => h ⟨x, hx, hn⟩
  · rintro h ⟨x, hx, hn⟩
    exact hn (h x hx)
theorem slices_IndexFunc_Ref_eq (xs : List Ref) (φ : (Ref × Unit) → Option Bool) (P : Ref → Prop) (hm : xs.length ≤ 1048576) (hφ : ∀ x ∈ xs, φ (x, ()) = some (Tr (P x))) :
    (∃ (j : Nat) (hj : j < xs.length), slices_IndexFunc_Ref LP xs φ = some (j : Int) ∧ P xs[j] ∧ ∀ (i : Nat) (hi : i < j), ¬ P (xs[i]'(by omega))) ∨ (slices_IndexFunc_Ref LP xs φ = some (-1) ∧ ∀ x ∈ xs, ¬ P x) := by
  have hLP := LP_ge
  have hl := loop_find (fun k i => slices_IndexFunc_Ref.l2 LP k xs φ (xs.length : Int) i) xs.length (fun i => ∃ h : i < xs.length, P xs[i]) (fun i => (i : Int)) ()
    (fun k => by
      simp only [slices_IndexFunc_Ref.l2, slices_IndexFunc_Ref.b2]
      rw [decide_eq_false (by omega)]
      rfl)
    (fun k i hi => by
      simp only [slices_IndexFunc_Ref.l2, slices_IndexFunc_Ref.b2]
      rw [decide_eq_true (by omega), cond_true, oget_lt hi, hφ _ (List.getElem_mem hi), obind_some', wrap_id (by omega) (by omega), Tr_congr (q := ∃ h : i < xs.length, P xs[i]) ⟨fun h => ⟨hi, h⟩, fun ⟨_, h⟩ => h⟩]
      rfl) LP 0 (Nat.zero_le _) (by omega)
  rcases hl with ⟨j, _, hj, ⟨_, hp⟩, hn, he⟩ | ⟨hn, he⟩
  · refine .inl ⟨j, hj, ?_, hp, fun i hi hP => hn i (Nat.zero_le _) hi ⟨by omega, hP⟩⟩
    show obind (slices_IndexFunc_Ref.l2 LP LP xs φ (xs.length : Int) 0) _ = _
    rw [show slices_IndexFunc_Ref.l2 LP LP xs φ (xs.length : Int) 0 = _ from he]
    rfl
  · refine .inr ⟨?_, fun x hx hP => ?_⟩
    · show obind (slices_IndexFunc_Ref.l2 LP LP xs φ (xs.length : Int) 0) _ = _
      rw [show slices_IndexFunc_Ref.l2 LP LP xs φ (xs.length : Int) 0 = _ from he]
      rfl
    · obtain ⟨j, hj, rfl⟩ := List.getElem_of_mem hx
      exact hn j (Nat.zero_le _) hj ⟨hj, hP⟩
theorem slices_ContainsFunc_Ref_eq (xs : List Ref) (φ : (Ref × Unit) → Option Bool) (P : Ref → Prop) (hm : xs.length ≤ 1048576) (hφ : ∀ x ∈ xs, φ (x, ()) = some (Tr (P x))) :
    slices_ContainsFunc_Ref LP xs φ = some (Tr (∃ x ∈ xs, P x)) := by
  unfold slices_ContainsFunc_Ref
  rcases slices_IndexFunc_Ref_eq xs φ P hm hφ with ⟨j, hj, he, hp, _⟩ | ⟨he, hn⟩
  · rw [he, obind_some', Tr_true ⟨_, List.getElem_mem hj, hp⟩, decide_eq_true (by omega)]
  · rw [he, obind_some', Tr_false (fun ⟨x, hx, hp⟩ => hn x hx hp)]
    rfl
theorem impl_areAll_Ref_eq (xs : List Ref) (φ : (Ref × Unit) → Option Bool) (P : Ref → Prop) (hm : xs.length ≤ 1048576) (hφ : ∀ x ∈ xs, φ (x, ()) = some (Tr (P x))) :
    impl_areAll_Ref LP xs φ = some (Tr (∀ x ∈ xs, P x)) := by
  unfold impl_areAll_Ref
  rw [slices_ContainsFunc_Ref_eq xs _ (fun x => ¬ P x) hm (fun x hx => by
    show impl_areAll_Ref_c1 x φ = _
    unfold impl_areAll_Ref_c1
    rw [hφ x hx, obind_some', Tr_not]), obind_some', Tr_not]
  rw [Tr_congr]
  constructor
  · intro h x hx
    exact Classical.byContradiction fun hn => h ⟨x, hx, hn⟩
  · rintro h ⟨x, hx, hn⟩
    exact hn (h x hx)
theorem slices_IndexFunc_Wish_eq (xs : List Wish) (φ : (Wish × Unit) → Option Bool) (P : Wish → Prop) (hm : xs.length ≤ 1048576) (hφ : ∀ x ∈ xs, φ (x, ()) = some (Tr (P x))) :
    (∃ (j : Nat) (hj : j < xs.length), slices_IndexFunc_Wish LP xs φ = some (j : Int) ∧ P xs[j] ∧ ∀ (i : Nat) (hi : i < j), ¬ P (xs[i]'(by omega))) ∨ (slices_IndexFunc_Wish LP xs φ = some (-1) ∧ ∀ x ∈ xs, ¬ P x) := by
  have hLP := LP_ge
  have hl := loop_find (fun k i => slices_IndexFunc_Wish.l2 LP k xs φ (xs.length : Int) i) xs.length (fun i => ∃ h : i < xs.length, P xs[i]) (fun i => (i : Int)) ()
    (fun k => by
      simp only [slices_IndexFunc_Wish.l2, slices_IndexFunc_Wish.b2]
      rw [decide_eq_false (by omega)]
      rfl)
    (fun k i hi => by
      simp only [slices_IndexFunc_Wish.l2, slices_IndexFunc_Wish.b2]
      rw [decide_eq_true (by omega), cond_true, oget_lt hi, hφ _ (List.getElem_mem hi), obind_some', wrap_id (by omega) (by omega), Tr_congr (q := ∃ h : i < xs.length, P xs[i]) ⟨fun h => ⟨hi, h⟩, fun ⟨_, h⟩ => h⟩]
      rfl) LP 0 (Nat.zero_le _) (by omega)
  rcases hl with ⟨j, _, hj, ⟨_, hp⟩, hn, he⟩ | ⟨hn, he⟩
  · refine .inl ⟨j, hj, ?_, hp, fun i hi hP => hn i (Nat.zero_le _) hi ⟨by omega, hP⟩⟩
    show obind (slices_IndexFunc_Wish.l2 LP LP xs φ (xs.length : Int) 0) _ = _
    rw [show slices_IndexFunc_Wish.l2 LP LP xs φ (xs.length : Int) 0 = _ from he]
    rfl
  · refine .inr ⟨?_, fun x hx hP => ?_⟩
    · show obind (slices_IndexFunc_Wish.l2 LP LP xs φ (xs.length : Int) 0) _ = _
      rw [show slices_IndexFunc_Wish.l2 LP LP xs φ (xs.length : Int) 0 = _ from he]
      rfl
    · obtain ⟨j, hj, rfl⟩ := List.getElem_of_mem hx
      exact hn j (Nat.zero_le _) hj ⟨hj, hP⟩
theorem slices_ContainsFunc_Wish_eq (xs : List Wish) (φ : (Wish × Unit) → Option Bool) (P : Wish → Prop) (hm : xs.length ≤ 1048576) (hφ : ∀ x ∈ xs, φ (x, ()) = some (Tr (P x))) :
    slices_ContainsFunc_Wish LP xs φ = some (Tr (∃ x ∈ xs, P x)) := by
  unfold slices_ContainsFunc_Wish
  rcases slices_IndexFunc_Wish_eq xs φ P hm hφ with ⟨j, hj, he, hp, _⟩ | ⟨he, hn⟩
  · rw [he, obind_some', Tr_true ⟨_, List.getElem_mem hj, hp⟩, decide_eq_true (by omega)]
  · rw [he, obind_some', Tr_false (fun ⟨x, hx, hp⟩ => hn x hx hp)]
    rfl
theorem impl_areAll_Wish_eq (xs : List Wish) (φ : (Wish × Unit) → Option Bool) (P : Wish → Prop) (hm : xs.length ≤ 1048576) (hφ : ∀ x ∈ xs, φ (x, ()) = some (Tr (P x))) :
    impl_areAll_Wish LP xs φ = some (Tr (∀ x ∈ xs, P x)) := by
  unfold impl_areAll_Wish
  rw [slices_ContainsFunc_Wish_eq xs _ (fun x => ¬ P x) hm (fun x hx => by
    show impl_areAll_Wish_c1 x φ = _
    unfold impl_areAll_Wish_c1
    rw [hφ x hx, obind_some', Tr_not]), obind_some', Tr_not]
  rw [Tr_congr]
  constructor
  · intro h x hx
    exact Classical.byContradiction fun hn => h ⟨x, hx, hn⟩
  · rintro h ⟨x, hx, hn⟩
    exact hn (h x hx)
theorem slices_IndexFunc_Moment_eq (xs : List Moment) (φ : (Moment × Unit) → Option Bool) (P : Moment → Prop) (hm : xs.length ≤ 1048576) (hφ : ∀ x ∈ xs, φ (x, ()) = some (Tr (P x))) :
    (∃ (j : Nat) (hj : j < xs.length), slices_IndexFunc_Moment LP xs φ = some (j : Int) ∧ P xs[j] ∧ ∀ (i : Nat) (hi : i < j), ¬ P (xs[i]'(by omega))) ∨ (slices_IndexFunc_Moment LP xs φ = some (-1) ∧ ∀ x ∈ xs, ¬ P x) := by
  have hLP := LP_ge
  have hl := loop_find (fun k i => slices_IndexFunc_Moment.l2 LP k xs φ (xs.length : Int) i) xs.length (fun i => ∃ h : i < xs.length, P xs[i]) (fun i => (i : Int)) ()
    (fun k => by
      simp only [slices_IndexFunc_Moment.l2, slices_IndexFunc_Moment.b2]
      rw [decide_eq_false (by omega)]
      rfl)
    (fun k i hi => by
      simp only [slices_IndexFunc_Moment.l2, slices_IndexFunc_Moment.b2]
      rw [decide_eq_true (by omega), cond_true, oget_lt hi, hφ _ (List.getElem_mem hi), obind_some', wrap_id (by omega) (by omega), Tr_congr (q := ∃ h : i < xs.length, P xs[i]) ⟨fun h => ⟨hi, h⟩, fun ⟨_, h⟩ => h⟩]
      rfl) LP 0 (Nat.zero_le _) (by omega)
  rcases hl with ⟨j, _, hj, ⟨_, hp⟩, hn, he⟩ | ⟨hn, he⟩
  · refine .inl ⟨j, hj, ?_, hp, fun i hi hP => hn i (Nat.zero_le _) hi ⟨by omega, hP⟩⟩
    show obind (slices_IndexFunc_Moment.l2 LP LP xs φ (xs.length : Int) 0) _ = _
    rw [show slices_IndexFunc_Moment.l2 LP LP xs φ (xs.length : Int) 0 = _ from he]
    rfl
  · refine .inr ⟨?_, fun x hx hP => ?_⟩
    · show obind (slices_IndexFunc_Moment.l2 LP LP xs φ (xs.length : Int) 0) _ = _
      rw [show slices_IndexFunc_Moment.l2 LP LP xs φ (xs.length : Int) 0 = _ from he]
      rfl
    · obtain ⟨j, hj, rfl⟩ := List.getElem_of_mem hx
      exact hn j (Nat.zero_le _) hj ⟨hj, hP⟩
theorem slices_ContainsFunc_Moment_eq (xs : List Moment) (φ : (Moment × Unit) → Option Bool) (P : Moment → Prop) (hm : xs.length ≤ 1048576) (hφ : ∀ x ∈ xs, φ (x, ()) = some (Tr (P x))) :
    slices_ContainsFunc_Moment LP xs φ = some (Tr (∃ x ∈ xs, P x)) := by
  unfold slices_ContainsFunc_Moment
  rcases slices_IndexFunc_Moment_eq xs φ P hm hφ with ⟨j, hj, he, hp, _⟩ | ⟨he, hn⟩
  · rw [he, obind_some', Tr_true ⟨_, List.getElem_mem hj, hp⟩, decide_eq_true (by omega)]
  · rw [he, obind_some', Tr_false (fun ⟨x, hx, hp⟩ => hn x hx hp)]
    rfl
theorem impl_areAll_Moment_eq (xs : List Moment) (φ : (Moment × Unit) → Option Bool) (P : Moment → Prop) (hm : xs.length ≤ 1048576) (hφ : ∀ x ∈ xs, φ (x, ()) = some (Tr (P x))) :
    impl_areAll_Moment LP xs φ = some (Tr (∀ x ∈ xs, P x)) := by
  unfold impl_areAll_Moment
  rw [slices_ContainsFunc_Moment_eq xs _ (fun x => ¬ P x) hm (fun x hx => by
    show impl_areAll_Moment_c1 x φ = _
    unfold impl_areAll_Moment_c1
    rw [hφ x hx, obind_some', Tr_not]), obind_some', Tr_not]
  rw [Tr_congr]
  constructor
  · intro h x hx
    exact Classical.byContradiction fun hn => h ⟨x, hx, hn⟩
  · rintro h ⟨x, hx, hn⟩
    exact hn (h x hx)
theorem slices_IndexFunc_Watch_eq (xs : List Watch) (φ : (Watch × Unit) → Option Bool) (P : Watch → Prop) (hm : xs.length ≤ 1048576) (hφ : ∀ x ∈ xs, φ (x, ()) = some (Tr (P x))) :
    (∃ (j : Nat) (hj : j < xs.length), slices_IndexFunc_Watch LP xs φ = some (j : Int) ∧ P xs[j] ∧ ∀ (i : Nat) (hi : i < j), ¬ P (xs[i]'(by omega))) ∨ (slices_IndexFunc_Watch LP xs φ = some (-1) ∧ ∀ x ∈ xs, ¬ P x) := by
  have hLP := LP_ge
  have hl := loop_find (fun k i => slices_IndexFunc_Watch.l2 LP k xs φ (xs.length : Int) i) xs.length (fun i => ∃ h : i < xs.length, P xs[i]) (fun i => (i : Int)) ()
    (fun k => by
      simp only [slices_IndexFunc_Watch.l2, slices_IndexFunc_Watch.b2]
      rw [decide_eq_false (by omega)]
      rfl)
    (fun k i hi => by
      simp only [slices_IndexFunc_Watch.l2, slices_IndexFunc_Watch.b2]
      rw [decide_eq_true (by omega), cond_true, oget_lt hi, hφ _ (List.getElem_mem hi), obind_some', wrap_id (by omega) (by omega), Tr_congr (q := ∃ h : i < xs.length, P xs[i]) ⟨fun h => ⟨hi, h⟩, fun ⟨_, h⟩ => h⟩]
      rfl) LP 0 (Nat.zero_le _) (by omega)
  rcases hl with ⟨j, _, hj, ⟨_, hp⟩, hn, he⟩ | ⟨hn, he⟩
  · refine .inl ⟨j, hj, ?_, hp, fun i hi hP => hn i (Nat.zero_le _) hi ⟨by omega, hP⟩⟩
    show obind (slices_IndexFunc_Watch.l2 LP LP xs φ (xs.length : Int) 0) _ = _
    rw [show slices_IndexFunc_Watch.l2 LP LP xs φ (xs.length : Int) 0 = _ from he]
    rfl
  · refine .inr ⟨?_, fun x hx hP => ?_⟩
    · show obind (slices_IndexFunc_Watch.l2 LP LP xs φ (xs.length : Int) 0) _ = _
      rw [show slices_IndexFunc_Watch.l2 LP LP xs φ (xs.length : Int) 0 = _ from he]
      rfl
    · obtain ⟨j, hj, rfl⟩ := List.getElem_of_mem hx
      exact hn j (Nat.zero_le _) hj ⟨hj, hP⟩
theorem slices_ContainsFunc_Watch_eq (xs : List Watch) (φ : (Watch × Unit) → Option Bool) (P : Watch → Prop) (hm : xs.length ≤ 1048576) (hφ : ∀ x ∈ xs, φ (x, ()) = some (Tr (P x))) :
    slices_ContainsFunc_Watch LP xs φ = some (Tr (∃ x ∈ xs, P x)) := by
  unfold slices_ContainsFunc_Watch
  rcases slices_IndexFunc_Watch_eq xs φ P hm hφ with ⟨j, hj, he, hp, _⟩ | ⟨he, hn⟩
  · rw [he, obind_some', Tr_true ⟨_, List.getElem_mem hj, hp⟩, decide_eq_true (by omega)]
  · rw [he, obind_some', Tr_false (fun ⟨x, hx, hp⟩ => hn x hx hp)]
    rfl
theorem impl_areAll_Watch_eq (xs : List Watch) (φ : (Watch × Unit) → Option Bool) (P : Watch → Prop) (hm : xs.length ≤ 1048576) (hφ : ∀ x ∈ xs, φ (x, ()) = some (Tr (P x))) :
    impl_areAll_Watch LP xs φ = some (Tr (∀ x ∈ xs, P x)) := by
  unfold impl_areAll_Watch
  rw [slices_ContainsFunc_Watch_eq xs _ (fun x => ¬ P x) hm (fun x hx => by
    show impl_areAll_Watch_c1 x φ = _
    unfold impl_areAll_Watch_c1
    rw [hφ x hx, obind_some', Tr_not]), obind_some', Tr_not]
  rw [Tr_congr]
  constructor
  · intro h x hx
    exact Classical.byContradiction fun hn => h ⟨x, hx, hn⟩
  · rintro h ⟨x, hx, hn⟩
    exact hn (h x hx)
theorem slices_IndexFunc_Event_eq (xs : List Event) (φ : (Event × Unit) → Option Bool) (P : Event → Prop) (hm : xs.length ≤ 1048576) (hφ : ∀ x ∈ xs, φ (x, ()) = some (Tr (P x))) :
    (∃ (j : Nat) (hj : j < xs.length), slices_IndexFunc_Event LP xs φ = some (j : Int) ∧ P xs[j] ∧ ∀ (i : Nat) (hi : i < j), ¬ P (xs[i]'(by omega))) ∨ (slices_IndexFunc_Event LP xs φ = some (-1) ∧ ∀ x ∈ xs, ¬ P x) := by
  have hLP := LP_ge
  have hl := loop_find (fun k i => slices_IndexFunc_Event.l2 LP k xs φ (xs.length : Int) i) xs.length (fun i => ∃ h : i < xs.length, P xs[i]) (fun i => (i : Int)) ()
    (fun k => by
      simp only [slices_IndexFunc_Event.l2, slices_IndexFunc_Event.b2]
      rw [decide_eq_false (by omega)]
      rfl)
    (fun k i hi => by
      simp only [slices_IndexFunc_Event.l2, slices_IndexFunc_Event.b2]
      rw [decide_eq_true (by omega), cond_true, oget_lt hi, hφ _ (List.getElem_mem hi), obind_some', wrap_id (by omega) (by omega), Tr_congr (q := ∃ h : i < xs.length, P xs[i]) ⟨fun h => ⟨hi, h⟩, fun ⟨_, h⟩ => h⟩]
      rfl) LP 0 (Nat.zero_le _) (by omega)
  rcases hl with ⟨j, _, hj, ⟨_, hp⟩, hn, he⟩ | ⟨hn, he⟩
  · refine .inl ⟨j, hj, ?_, hp, fun i hi hP => hn i (Nat.zero_le _) hi ⟨by omega, hP⟩⟩
    show obind (slices_IndexFunc_Event.l2 LP LP xs φ (xs.length : Int) 0) _ = _
    rw [show slices_IndexFunc_Event.l2 LP LP xs φ (xs.length : Int) 0 = _ from he]
    rfl
  · refine .inr ⟨?_, fun x hx hP => ?_⟩
    · show obind (slices_IndexFunc_Event.l2 LP LP xs φ (xs.length : Int) 0) _ = _
      rw [show slices_IndexFunc_Event.l2 LP LP xs φ (xs.length : Int) 0 = _ from he]
      rfl
    · obtain ⟨j, hj, rfl⟩ := List.getElem_of_mem hx
      exact hn j (Nat.zero_le _) hj ⟨hj, hP⟩
theorem slices_ContainsFunc_Event_eq (xs : List Event) (φ : (Event × Unit) → Option Bool) (P : Event → Prop) (hm : xs.length ≤ 1048576) (hφ : ∀ x ∈ xs, φ (x, ()) = some (Tr (P x))) :
    slices_ContainsFunc_Event LP xs φ = some (Tr (∃ x ∈ xs, P x)) := by
  unfold slices_ContainsFunc_Event
  rcases slices_IndexFunc_Event_eq xs φ P hm hφ with ⟨j, hj, he, hp, _⟩ | ⟨he, hn⟩
  · rw [he, obind_some', Tr_true ⟨_, List.getElem_mem hj, hp⟩, decide_eq_true (by omega)]
  · rw [he, obind_some', Tr_false (fun ⟨x, hx, hp⟩ => hn x hx hp)]
    rfl
theorem impl_areAll_Event_eq (xs : List Event) (φ : (Event × Unit) → Option Bool) (P : Event → Prop) (hm : xs.length ≤ 1048576) (hφ : ∀ x ∈ xs, φ (x, ()) = some (Tr (P x))) :
    impl_areAll_Event LP xs φ = some (Tr (∀ x ∈ xs, P x)) := by
  unfold impl_areAll_Event
  rw [slices_ContainsFunc_Event_eq xs _ (fun x => ¬ P x) hm (fun x hx => by
    show impl_areAll_Event_c1 x φ = _
    unfold impl_areAll_Event_c1
    rw [hφ x hx, obind_some', Tr_not]), obind_some', Tr_not]
  rw [Tr_congr]
  constructor
  · intro h x hx
    exact Classical.byContradiction fun hn => h ⟨x, hx, hn⟩
  · rintro h ⟨x, hx, hn⟩
    exact hn (h x hx)
-- EQUAL Entry Entry 4
end Go.Vx

end
section
set_option linter.unusedVariables false
set_option linter.unusedSimpArgs false
namespace Go.Vx
open Go Go.Proofs Go.RowKit Go.Lib
def Inr (n lo hi : Int) : Prop := lo ≤ n ∧ n ≤ hi
def isLet (c : Int) : Prop := (97 ≤ c ∧ c ≤ 122) ∨ (65 ≤ c ∧ c ≤ 90) ∨ c = 95
def isDig (c : Int) : Prop := 48 ≤ c ∧ c ≤ 57
def NameP (s : ByteArray) : Prop := 1 ≤ s.size ∧ s.size ≤ 12 ∧ isLet (byteAt s 0) ∧ ∀ j : Nat, j < s.size → isLet (byteAt s (j : Int)) ∨ isDig (byteAt s (j : Int))
def ValP (n : Int) : Prop := Inr n (-1000000) 1000000
theorem within_aux (a b c : Int) : cond (decide (b ≤ a)) (some (decide (a ≤ c))) (some false) = some (Tr (Inr a b c)) := by
  unfold Inr
  by_cases h : b ≤ a
  · rw [decide_eq_true h, cond_true, Tr_dec]
    rw [Tr_congr]
    exact ⟨fun q => ⟨h, q⟩, fun q => q.2⟩
  · rw [decide_eq_false h, cond_false, Tr_false (fun q => h q.1)]
theorem spec_l01In_eq (a b c : Int) : spec_l01In a b c = some (Tr (Inr a b c)) := within_aux a b c
theorem impl_within_eq (a b c : Int) : impl_within a b c = some (Tr (Inr a b c)) := within_aux a b c
theorem impl_isValue_eq (n : Int) : impl_isValue n = some (Tr (ValP n)) := by
  unfold impl_isValue
  rw [impl_within_eq]
  rfl
theorem cond_tr {α : Type} {p : Prop} {x y z : α} (h1 : p → x = z) (h2 : ¬ p → y = z) : cond (Tr p) x y = z := by
  by_cases h : p
  · rw [Tr_true h]; exact h1 h
  · rw [Tr_false h]; exact h2 h
theorem cond_ntr {α : Type} {p : Prop} {x y z : α} (h1 : ¬ p → x = z) (h2 : p → y = z) : cond (!Tr p) x y = z := by
  by_cases h : p
  · rw [Tr_true h]; exact h2 h
  · rw [Tr_false h]; exact h1 h
theorem some_true {p : Prop} (h : p) : some true = some (Tr p) := by rw [Tr_true h]
theorem some_false {p : Prop} (h : ¬ p) : some false = some (Tr p) := by rw [Tr_false h]
theorem some_tr {p q : Prop} (h : p ↔ q) : some (Tr p) = some (Tr q) := by rw [Tr_congr h]
theorem some_dec {p q : Prop} [Decidable p] (h : p ↔ q) : some (decide p) = some (Tr q) := by rw [Tr_dec, Tr_congr h]
theorem letter_aux (x0 : Int) : cond (decide (x0 ≥ (97:Int))) (cond (decide (x0 ≤ (122:Int))) (some true) (cond (decide (x0 ≥ (65:Int))) (cond (decide (x0 ≤ (90:Int))) (some true) (some (x0 == (95:Int)))) (some (x0 == (95:Int))))) (cond (decide (x0 ≥ (65:Int))) (cond (decide (x0 ≤ (90:Int))) (some true) (some (x0 == (95:Int)))) (some (x0 == (95:Int)))) = some (Tr (isLet x0)) := by
  have h95 : (x0 == (95:Int)) = Tr (x0 = 95) := Tr_eq (by simp)
  rw [h95]
  by_cases h1 : x0 ≥ 97 <;> by_cases h2 : x0 ≤ 122 <;> by_cases h3 : x0 ≥ 65 <;> by_cases h4 : x0 ≤ 90 <;> first | (exfalso; omega) | skip
  all_goals simp (disch := omega) only [decide_eq_true, decide_eq_false, cond_true, cond_false]
  all_goals first
    | exact some_true (by unfold isLet; omega)
    | exact some_tr (by unfold isLet; omega)
theorem spec_l00Letter_eq (c : Int) : spec_l00Letter c = some (Tr (isLet c)) := letter_aux c
theorem impl_isLetter_eq (c : Int) : impl_isLetter c = some (Tr (isLet c)) := letter_aux c
theorem spec_l00Digit_eq (c : Int) : spec_l00Digit c = some (Tr (isDig c)) := within_aux c 48 57
theorem impl_isDigit_eq (c : Int) : impl_isDigit c = some (Tr (isDig c)) := within_aux c 48 57
theorem all_fin {P Z : Prop} (r : Bool) (k : Option Bool) (h1 : P → k = some (Tr Z)) (h2 : ¬ P → r = false ∧ ¬ Z) : obind (some (cond (Tr P) (LE.brk ()) (LE.ret r))) (leF (fun z => some z) (fun _ => k)) = some (Tr Z) := by
  by_cases h : P
  · rw [Tr_true h]; exact h1 h
  · rw [Tr_false h, Tr_false (h2 h).2, (h2 h).1]; rfl

theorem all_done {β : Type} {P Z : Prop} {y : β} {q : Bool → Option Bool} {a : β → Option Bool} (hq : q false = some false) (h1 : P → a y = some (Tr Z)) (h2 : ¬ P → ¬ Z) : obind (some (cond (Tr P) (LE.brk y) (LE.ret false))) (leF q a) = some (Tr Z) := by
  by_cases h : P
  · rw [Tr_true h]; exact h1 h
  · rw [Tr_false h, Tr_false (h2 h)]; exact hq
theorem bytesOf_len (s : ByteArray) : (bytesOf s).length = s.size := by
  unfold bytesOf
  rw [List.length_map, Array.length_toList]
  rfl
theorem byteAt_get (s : ByteArray) (j : Nat) (h : j < (bytesOf s).length) : (bytesOf s)[j] = byteAt s (j : Int) := by
  have hj : j < s.data.toList.length := by unfold bytesOf at h; simpa using h
  have h1 : (bytesOf s)[j]? = some (s.data.toList[j].toNat : Int) := by
    unfold bytesOf
    rw [List.getElem?_map, List.getElem?_eq_getElem hj]
    rfl
  rw [List.getElem?_eq_getElem h] at h1
  injection h1 with h1
  rw [h1]
  unfold byteAt
  rw [Int.toNat_natCast, List.getElem?_eq_getElem hj]
  rfl
theorem impl_NameOK_eq (s : ByteArray) : impl_NameOK LP s = some (Tr (NameP s)) := by
  unfold impl_NameOK
  rw [impl_within_eq, obind_some']
  refine cond_tr (fun h => ?_) (fun h => some_false (fun q => h ⟨by have := q.1; omega, by have := q.2.1; omega⟩))
  obtain ⟨h1, h2⟩ := h
  rw [decide_eq_true (by omega), oif_true, decide_eq_true (by omega), oif_true, impl_isLetter_eq, obind_some']
  refine cond_tr (fun hl => ?_) (fun hl => some_false (fun q => hl q.2.2.1))
  rw [impl_areAll_byte_eq (bytesOf s) _ (fun c => isLet c ∨ isDig c) (by rw [bytesOf_len]; omega) (fun c hc => by
    show impl_NameOK_c1 c = _
    unfold impl_NameOK_c1
    rw [impl_isLetter_eq, obind_some']
    refine cond_tr (fun q => some_true (.inl q)) (fun q => ?_)
    rw [impl_isDigit_eq]
    exact some_tr ⟨fun w => .inr w, fun w => w.elim (fun w => absurd w q) id⟩), obind_some']
  refine some_tr ⟨fun q => ⟨by omega, by omega, hl, fun j hj => ?_⟩, fun q c hc => ?_⟩
  · have hj' : j < (bytesOf s).length := by rw [bytesOf_len]; exact hj
    rw [← byteAt_get s j hj']
    exact q _ (List.getElem_mem hj')
  · obtain ⟨j, hj, rfl⟩ := List.getElem_of_mem hc
    rw [byteAt_get s j hj]
    exact q.2.2.2 j (by rw [bytesOf_len] at hj; exact hj)
theorem spec_l00Word_eq (s : ByteArray) : spec_l00Word LP s = some (Tr (NameP s)) := by
  have hLP := LP_ge
  unfold spec_l00Word spec_l00Word.e
  by_cases h1 : (s.size : Int) < 1
  · rw [decide_eq_true h1]
    exact some_false (fun q => by have := q.1; omega)
  rw [decide_eq_false h1, cond_false]
  by_cases h2 : (s.size : Int) > 12
  · rw [decide_eq_true h2]
    exact some_false (fun q => by have := q.2.1; omega)
  rw [decide_eq_false h2, cond_false, decide_eq_true (by omega), oif_true, decide_eq_true (by omega), oif_true, spec_l00Letter_eq, obind_some']
  refine cond_ntr (fun hl => some_false (fun q => hl q.2.2.1)) (fun hl => ?_)
  have hloop := loop_all (fun k i => spec_l00Word.l4 LP k s i) s.size (fun i => isLet (byteAt s (i : Int)) ∨ isDig (byteAt s (i : Int))) false ()
    (fun k => by
      simp only [spec_l00Word.l4, spec_l00Word.b4]
      rw [decide_eq_false (by omega)]
      rfl) (fun k i hi => by
      simp only [spec_l00Word.l4, spec_l00Word.b4]
      simp (disch := omega) only [decide_eq_true, cond_true, oif_true, spec_l00Letter_eq, spec_l00Digit_eq, obind_some', wrap_id]
      refine cond_ntr (fun q => ?_) (fun q => ?_)
      · skip
        refine cond_ntr (fun q2 => ?_) (fun q2 => ?_)
        · rw [Tr_false (fun w => w.elim q q2)]; rfl
        · rw [Tr_true (.inr q2)]; rfl
      · rw [Tr_true (.inl q)]; rfl) LP 1 (by omega) (by omega)
  show obind (spec_l00Word.l4 LP LP s 1) _ = _
  rw [show spec_l00Word.l4 LP LP s 1 = _ from hloop]
  refine all_fin false _ (fun q => some_true ⟨by omega, by omega, hl, fun j hj => ?_⟩) (fun q => ⟨rfl, fun w => q (fun j _ hj => w.2.2.2 j hj)⟩)
  by_cases e : j = 0
  · subst e; exact .inl hl
  · exact q j (by omega) hj

def slt (a b : ByteArray) : Prop := a.data.toList < b.data.toList
theorem slt_irrefl (a : ByteArray) : ¬ slt a a := List.lt_irrefl _
theorem slt_trans {a b c : ByteArray} (h1 : slt a b) (h2 : slt b c) : slt a c := List.lt_trans h1 h2
theorem slt_tri (a b : ByteArray) : slt a b ∨ a = b ∨ slt b a := by
  by_cases h1 : slt a b
  · exact .inl h1
  · by_cases h2 : slt b a
    · exact .inr (.inr h2)
    · exact .inr (.inl (ba_ext (List.le_antisymm (List.not_lt.1 h2) (List.not_lt.1 h1))))
theorem slt_asymm {a b : ByteArray} (h : slt a b) : ¬ slt b a := fun h' => slt_irrefl a (slt_trans h h')
theorem less_tr (a b : ByteArray) : Op.bytesLess a.toList b.toList = Tr (slt a b) := by
  rw [bytesLess_eq, Go.ByteArray.toList_eq, Go.ByteArray.toList_eq, Tr_dec]
  rfl
theorem seq_tr (a b : ByteArray) : (a.toList == b.toList) = Tr (a = b) := by
  refine Tr_eq ?_
  rw [beq_iff_eq, Go.ByteArray.toList_eq, Go.ByteArray.toList_eq]
  exact ⟨fun h => ba_ext h, fun h => by rw [h]⟩
theorem leq_tr (a b : ByteArray) : (Op.bytesLess a.toList b.toList || (a.toList == b.toList)) = Tr (¬ slt b a) := by
  rw [less_tr, seq_tr, Tr_or, Tr_congr]
  constructor
  · rintro (h | rfl)
    · exact slt_asymm h
    · exact slt_irrefl _
  · intro h
    rcases slt_tri a b with h1 | h1 | h1
    · exact .inl h1
    · exact .inr h1
    · exact absurd h1 h
theorem cmp_slt (a b : ByteArray) : Lib.compareBytes a.data.toList b.data.toList < 0 ↔ slt a b := cmp_lt _ _
theorem cmp_seq (a b : ByteArray) : Lib.compareBytes a.data.toList b.data.toList = 0 ↔ a = b := by
  rw [cmp_eq0]
  exact ⟨fun h => ba_ext h, fun h => by rw [h]⟩
theorem str_beq (a b : ByteArray) : (a == b) = Tr (a = b) := Tr_eq (MapKept.bytes_beq a b)
theorem int_tr (a b : Int) : (a == b) = Tr (a = b) := Tr_eq (by simp)

def Rise {α : Type} (key : α → ByteArray) (m : List α) : Prop := m.Pairwise fun a b => slt (key a) (key b)
theorem rise_adj {α : Type} {key : α → ByteArray} {m : List α} : (∀ (i : Nat) (h : i + 1 < m.length), slt (key m[i]) (key m[i + 1])) ↔ Rise key m := by
  unfold Rise
  rw [List.pairwise_iff_getElem]
  constructor
  · intro h i j hi hj hij
    induction j with
    | zero => omega
    | succ j ih =>
      by_cases e : i = j
      · subst e; exact h i hj
      · exact slt_trans (ih (by omega) (by omega)) (h j hj)
  · intro h i hi
    exact h i (i + 1) (by omega) hi (by omega)
def KeyAt {α : Type} (key : α → ByteArray) (Q : α → Prop) (m : List α) (i : Nat) : Prop := ∃ h : i < m.length, Q m[i] ∧ ∀ h0 : 0 < i, slt (key (m[i - 1]'(by omega))) (key m[i])
theorem keyAt_iff {α : Type} {key : α → ByteArray} {Q : α → Prop} {m : List α} : (∀ j, 0 ≤ j → j < m.length → KeyAt key Q m j) ↔ (∀ e ∈ m, Q e) ∧ Rise key m := by
  rw [← rise_adj]
  constructor
  · intro h
    refine ⟨fun e he => ?_, fun i hi => ?_⟩
    · obtain ⟨i, hi, rfl⟩ := List.getElem_of_mem he
      exact (h i (Nat.zero_le _) hi).2.1
    · exact (h (i + 1) (Nat.zero_le _) hi).2.2 (by omega)
  · rintro ⟨h1, h2⟩ j _ hj
    refine ⟨hj, h1 _ (List.getElem_mem hj), fun h0 => ?_⟩
    obtain ⟨q, rfl⟩ : ∃ q, j = q + 1 := ⟨j - 1, by omega⟩
    exact h2 q hj
def EntryP (e : Entry) : Prop := NameP e.1 ∧ ValP e.2.1
def MapP (m : List Entry) : Prop := m.length ≤ 12 ∧ (∀ e ∈ m, EntryP e) ∧ Rise (fun e : Entry => e.1) m
theorem impl_MapOK_eq (m : List Entry) (hm : m.length ≤ 1048576) : impl_MapOK LP m = some (Tr (MapP m)) := by
  have hLP := LP_ge
  have hloop := loop_all (fun k i => impl_MapOK.l2 LP k m m (m.length : Int) i) m.length (KeyAt (fun e : Entry => e.1) EntryP m) false m
    (fun k => by
      simp only [impl_MapOK.l2, impl_MapOK.b2]
      rw [decide_eq_false (by omega)]
      rfl) (fun k i hi => by
      simp only [impl_MapOK.l2, impl_MapOK.b2]
      simp (disch := omega) only [decide_eq_true, cond_true, oget_lt hi, impl_NameOK_eq, impl_isValue_eq, obind_some', wrap_id, less_tr]
      refine cond_ntr (fun q => ?_) (fun q1 => cond_ntr (fun q => ?_) (fun q2 => ?_))
      · rw [Tr_false (fun w => q w.2.1.1)]; rfl
      · rw [Tr_false (fun w => q w.2.1.2)]; rfl
      · by_cases h0 : 0 < i
        · rw [decide_eq_true (by omega), cond_true, show (i : Int) - 1 = ((i - 1 : Nat) : Int) by omega, oget_lt (by omega)]
          refine cond_ntr (fun q => ?_) (fun q3 => ?_)
          · rw [Tr_false (fun w => q (w.2.2 h0))]; rfl
          · rw [Tr_true ⟨hi, ⟨q1, q2⟩, fun _ => q3⟩]; rfl
        · rw [decide_eq_false (by omega), Tr_true ⟨hi, ⟨q1, q2⟩, fun h => absurd h h0⟩]; rfl) LP 0 (Nat.zero_le _) (by omega)
  show obind (impl_MapOK.l2 LP LP m m (m.length : Int) 0) _ = _
  rw [show impl_MapOK.l2 LP LP m m (m.length : Int) 0 = _ from hloop, Tr_congr keyAt_iff]
  exact all_done rfl (fun q => some_dec ⟨fun w => ⟨by omega, q⟩, fun w => by have := w.1; omega⟩) (fun q w => q w.2)
theorem spec_l01OK_eq (m : List Entry) (hm : m.length ≤ 1048576) : spec_l01OK LP m = some (Tr (MapP m)) := by
  have hLP := LP_ge
  have hloop := loop_all (fun k i => spec_l01OK.l4 LP k m i) m.length (KeyAt (fun e : Entry => e.1) EntryP m) false ()
    (fun k => by
      simp only [spec_l01OK.l4, spec_l01OK.b4]
      rw [decide_eq_false (by omega)]
      rfl) (fun k i hi => by
      simp only [spec_l01OK.l4, spec_l01OK.b4]
      simp (disch := omega) only [decide_eq_true, cond_true, oget_lt hi, spec_l00Word_eq, spec_l01In_eq, obind_some', wrap_id, leq_tr]
      refine cond_ntr (fun q => ?_) (fun q1 => cond_ntr (fun q => ?_) (fun q2 => ?_))
      · rw [Tr_false (fun w => q w.2.1.1)]; rfl
      · rw [Tr_false (fun w => q w.2.1.2)]; rfl
      · by_cases h0 : 0 < i
        · rw [decide_eq_true (by omega), cond_true, show (i : Int) - 1 = ((i - 1 : Nat) : Int) by omega, oget_lt (by omega)]
          refine cond_tr (fun q => ?_) (fun q3 => ?_)
          · rw [Tr_false (fun w => q (w.2.2 h0))]; rfl
          · rw [Tr_true ⟨hi, ⟨q1, q2⟩, fun _ => Classical.not_not.1 q3⟩]; rfl
        · rw [decide_eq_false (by omega), Tr_true ⟨hi, ⟨q1, q2⟩, fun h => absurd h h0⟩]; rfl) LP 0 (Nat.zero_le _) (by omega)
  unfold spec_l01OK spec_l01OK.e
  by_cases hl : (m.length : Int) > 12
  · rw [decide_eq_true hl]
    exact some_false (fun w => by have := w.1; omega)
  rw [decide_eq_false hl, cond_false]
  show obind (spec_l01OK.l4 LP LP m 0) _ = _
  rw [show spec_l01OK.l4 LP LP m 0 = _ from hloop, Tr_congr keyAt_iff]
  exact all_done rfl (fun q => some_true ⟨by omega, q⟩) (fun q w => q w.2)
def EditP (e : Edit) : Prop := NameP e.1 ∧ ValP e.2.1 ∧ (e.2.2.1 = true → e.2.1 = 0)
def EditsP (m : List Edit) : Prop := m.length ≤ 6 ∧ (∀ e ∈ m, EditP e) ∧ Rise (fun e : Edit => e.1) m
theorem impl_EditsOK_eq (m : List Edit) (hm : m.length ≤ 1048576) : impl_EditsOK LP m = some (Tr (EditsP m)) := by
  have hLP := LP_ge
  have hloop := loop_all (fun k i => impl_EditsOK.l2 LP k m m (m.length : Int) i) m.length (KeyAt (fun e : Edit => e.1) EditP m) false m
    (fun k => by
      simp only [impl_EditsOK.l2, impl_EditsOK.b2]
      rw [decide_eq_false (by omega)]
      rfl) (fun k i hi => by
      simp only [impl_EditsOK.l2, impl_EditsOK.b2]
      simp (disch := omega) only [decide_eq_true, cond_true, oget_lt hi, impl_NameOK_eq, impl_isValue_eq, obind_some', wrap_id, less_tr, int_ne]
      refine cond_ntr (fun q => ?_) (fun q1 => cond_ntr (fun q => ?_) (fun q2 => ?_))
      · rw [Tr_false (fun w => q w.2.1.1)]; rfl
      · rw [Tr_false (fun w => q w.2.1.2.1)]; rfl
      · have key : (m[i].2.2.1 = true → m[i].2.1 = 0) → (cond (decide ((i : Int) > 0)) (oget m ((i : Int) - 1) fun e5 => cond (!Tr (slt e5.1 m[i].1)) (some (LE.ret false)) (impl_EditsOK.l2 LP k m m (m.length : Int) ((i : Int) + 1))) (impl_EditsOK.l2 LP k m m (m.length : Int) ((i : Int) + 1))) = cond (Tr (KeyAt (fun e : Edit => e.1) EditP m i)) (impl_EditsOK.l2 LP k m m (m.length : Int) ((i + 1 : Nat) : Int)) (some (LE.ret false)) := by
          intro q3
          by_cases h0 : 0 < i
          · rw [decide_eq_true (by omega), cond_true, show (i : Int) - 1 = ((i - 1 : Nat) : Int) by omega, oget_lt (by omega)]
            refine cond_ntr (fun q => ?_) (fun q4 => ?_)
            · rw [Tr_false (fun w => q (w.2.2 h0))]; rfl
            · rw [Tr_true ⟨hi, ⟨q1, q2, q3⟩, fun _ => q4⟩]; rfl
          · rw [decide_eq_false (by omega), Tr_true ⟨hi, ⟨q1, q2, q3⟩, fun h => absurd h h0⟩]; rfl
        cases hg : m[i].2.2.1 with
        | true =>
          simp only [cond_true]
          refine cond_ntr (fun q => ?_) (fun q3 => ?_)
          · rw [Tr_false (fun w => q (w.2.1.2.2 hg))]; rfl
          · exact key (fun _ => q3)
        | false => exact key (fun h => by rw [hg] at h; cases h)) LP 0 (Nat.zero_le _) (by omega)
  show obind (impl_EditsOK.l2 LP LP m m (m.length : Int) 0) _ = _
  rw [show impl_EditsOK.l2 LP LP m m (m.length : Int) 0 = _ from hloop, Tr_congr keyAt_iff]
  exact all_done rfl (fun q => some_dec ⟨fun w => ⟨by omega, q⟩, fun w => by have := w.1; omega⟩) (fun q w => q w.2)
theorem spec_l01Edits_eq (m : List Edit) (hm : m.length ≤ 1048576) : spec_l01Edits LP m = some (Tr (EditsP m)) := by
  have hLP := LP_ge
  have hloop := loop_all (fun k i => spec_l01Edits.l4 LP k m i) m.length (KeyAt (fun e : Edit => e.1) EditP m) false ()
    (fun k => by
      simp only [spec_l01Edits.l4, spec_l01Edits.b4]
      rw [decide_eq_false (by omega)]
      rfl) (fun k i hi => by
      simp only [spec_l01Edits.l4, spec_l01Edits.b4]
      simp (disch := omega) only [decide_eq_true, cond_true, oget_lt hi, spec_l00Word_eq, spec_l01In_eq, obind_some', wrap_id, leq_tr, int_ne]
      refine cond_ntr (fun q => ?_) (fun q1 => cond_ntr (fun q => ?_) (fun q2 => ?_))
      · rw [Tr_false (fun w => q w.2.1.1)]; rfl
      · rw [Tr_false (fun w => q w.2.1.2.1)]; rfl
      · have key : (m[i].2.2.1 = true → m[i].2.1 = 0) → (cond (decide ((i : Int) > 0)) (oget m ((i : Int) - 1) fun e5 => cond (Tr (¬ slt e5.1 m[i].1)) (some (LE.ret false)) (spec_l01Edits.l4 LP k m ((i : Int) + 1))) (spec_l01Edits.l4 LP k m ((i : Int) + 1))) = cond (Tr (KeyAt (fun e : Edit => e.1) EditP m i)) (spec_l01Edits.l4 LP k m ((i + 1 : Nat) : Int)) (some (LE.ret false)) := by
          intro q3
          by_cases h0 : 0 < i
          · rw [decide_eq_true (by omega), cond_true, show (i : Int) - 1 = ((i - 1 : Nat) : Int) by omega, oget_lt (by omega)]
            refine cond_tr (fun q => ?_) (fun q4 => ?_)
            · rw [Tr_false (fun w => q (w.2.2 h0))]; rfl
            · rw [Tr_true ⟨hi, ⟨q1, q2, q3⟩, fun _ => Classical.not_not.1 q4⟩]; rfl
          · rw [decide_eq_false (by omega), Tr_true ⟨hi, ⟨q1, q2, q3⟩, fun h => absurd h h0⟩]; rfl
        cases hg : m[i].2.2.1 with
        | true =>
          simp only [cond_true]
          refine cond_ntr (fun q => ?_) (fun q3 => ?_)
          · rw [Tr_false (fun w => q (w.2.1.2.2 hg))]; rfl
          · exact key (fun _ => q3)
        | false => exact key (fun h => by rw [hg] at h; cases h)) LP 0 (Nat.zero_le _) (by omega)
  unfold spec_l01Edits spec_l01Edits.e
  by_cases hl : (m.length : Int) > 6
  · rw [decide_eq_true hl]
    exact some_false (fun w => by have := w.1; omega)
  rw [decide_eq_false hl, cond_false]
  show obind (spec_l01Edits.l4 LP LP m 0) _ = _
  rw [show spec_l01Edits.l4 LP LP m 0 = _ from hloop, Tr_congr keyAt_iff]
  exact all_done rfl (fun q => some_true ⟨by omega, q⟩) (fun q w => q w.2)
end Go.Vx

end
section
set_option linter.unusedVariables false
set_option linter.unusedSimpArgs false
namespace Go.Vx
open Go Go.Proofs Go.RowKit Go.Lib
def CommitP (n : Nat) (c : Commit) : Prop := MapP c.2.1 ∧ c.1.length ≤ 2 ∧ (c.1.length = 0 ↔ n = 0) ∧ (∀ (h : c.1.length = 2), c.1[0]'(by omega) ≠ c.1[1]'(by omega)) ∧ ∀ p ∈ c.1, Inr p 1 n
def StoreP (s : List Commit) : Prop := 1 ≤ s.length ∧ s.length ≤ 60 ∧ ∀ (i : Nat) (h : i < s.length), CommitP i s[i]
theorem bne_tr {p q : Prop} : (Tr p != Tr q) = Tr (¬ (p ↔ q)) := by
  by_cases hp : p <;> by_cases hq : q <;> simp [hp, hq, Tr_T, Tr_F]
theorem impl_Commit_isAt_eq (c : Commit) (n : Nat) (hn : n ≤ 1048576) (hc : Sm TCommit c) : impl_Commit_isAt LP c ((n : Int) + 1) = some (Tr (CommitP n c)) := by
  have hl1 : c.1.length ≤ 1048576 := hc.1.1
  have hl2 : c.2.1.length ≤ 1048576 := hc.2.1.1
  unfold impl_Commit_isAt
  rw [impl_MapOK_eq _ hl2, obind_some']
  refine cond_ntr (fun q => some_false (fun w => q w.1)) (fun q1 => ?_)
  by_cases h2 : (c.1.length : Int) > 2
  · rw [decide_eq_true h2]
    exact some_false (fun w => by have := w.2.1; omega)
  rw [decide_eq_false h2, cond_false, int_tr, int_tr, bne_tr]
  refine cond_tr (fun q => some_false (fun w => q ⟨fun e => by have := w.2.2.1.1 (by omega); omega, fun e => by have := w.2.2.1.2 (by omega); omega⟩)) (fun q3 => ?_)
  have q3 : c.1.length = 0 ↔ n = 0 := by have := Classical.not_not.1 q3; omega
  have hall : impl_areAll_int LP c.1 (fun w => impl_Commit_isAt_c1 w.1 ((n : Int) + 1)) = some (Tr (∀ p ∈ c.1, Inr p 1 n)) :=
    impl_areAll_int_eq c.1 _ (fun p => Inr p 1 n) hl1 (fun p _ => by
      show impl_Commit_isAt_c1 p ((n : Int) + 1) = _
      unfold impl_Commit_isAt_c1
      rw [impl_within_eq, obind_some', wrap_id (by omega) (by omega), show (n : Int) + 1 - 1 = n by omega])
  rw [hall, int_tr]
  refine cond_tr (fun q => ?_) (fun q => ?_)
  · have hlen : c.1.length = 2 := by omega
    rw [show (0 : Int) = ((0 : Nat) : Int) from rfl, oget_lt (by omega), show (1 : Int) = ((1 : Nat) : Int) from rfl, oget_lt (by omega), int_tr]
    refine cond_tr (fun w => some_false (fun z => z.2.2.2.1 hlen w)) (fun w => ?_)
    exact some_tr ⟨fun z => ⟨q1, by omega, q3, fun _ => w, z⟩, fun z => z.2.2.2.2⟩
  · exact some_tr ⟨fun z => ⟨q1, by omega, q3, fun h => absurd h (by omega), z⟩, fun z => z.2.2.2.2⟩
theorem spec_l03Commit_eq (s : List Commit) (c : Commit) (hn : s.length ≤ 1048576) (hc : Sm TCommit c) : spec_l03Commit LP s c = some (Tr (CommitP s.length c)) := by
  have hLP := LP_ge
  have hl1 : c.1.length ≤ 1048576 := hc.1.1
  have hl2 : c.2.1.length ≤ 1048576 := hc.2.1.1
  unfold spec_l03Commit spec_l03Commit.e
  rw [spec_l01OK_eq _ hl2, obind_some']
  refine cond_ntr (fun q => some_false (fun w => q w.1)) (fun q1 => ?_)
  by_cases h2 : (c.1.length : Int) > 2
  · rw [decide_eq_true h2]
    exact some_false (fun w => by have := w.2.1; omega)
  rw [decide_eq_false h2, cond_false, int_tr, int_tr, bne_tr]
  refine cond_tr (fun q => some_false (fun w => q ⟨fun e => by have := w.2.2.1.1 (by omega); omega, fun e => by have := w.2.2.1.2 (by omega); omega⟩)) (fun q3 => ?_)
  have q3 : c.1.length = 0 ↔ s.length = 0 := by have := Classical.not_not.1 q3; omega
  have hloop := loop_all (fun k i => spec_l03Commit.l5 LP k s c.1 c.2.1 (c.1.length : Int) i) c.1.length (fun i => ∃ h : i < c.1.length, Inr c.1[i] 1 s.length ∧ (0 < i → c.1[i] ≠ c.1[0]'(by omega))) false ()
    (fun k => by
      simp only [spec_l03Commit.l5, spec_l03Commit.b5]
      rw [decide_eq_false (by omega)]
      rfl) (fun k i hi => by
      simp only [spec_l03Commit.l5, spec_l03Commit.b5]
      simp (disch := omega) only [decide_eq_true, cond_true, oget_lt hi, spec_l01In_eq, obind_some', wrap_id]
      refine cond_ntr (fun q => ?_) (fun q2 => ?_)
      · rw [Tr_false (fun w => q w.2.1)]; rfl
      · by_cases h0 : 0 < i
        · rw [decide_eq_true (by omega), cond_true, show (0 : Int) = ((0 : Nat) : Int) from rfl, oget_lt (by omega), int_tr]
          refine cond_tr (fun q => ?_) (fun q3 => ?_)
          · rw [Tr_false (fun w => w.2.2 h0 q)]; rfl
          · rw [Tr_true ⟨hi, q2, fun _ => q3⟩]; rfl
        · rw [decide_eq_false (by omega), Tr_true ⟨hi, q2, fun h => absurd h h0⟩]; rfl) LP 0 (Nat.zero_le _) (by omega)
  show obind (spec_l03Commit.l5 LP LP s c.1 c.2.1 (c.1.length : Int) 0) _ = _
  rw [show spec_l03Commit.l5 LP LP s c.1 c.2.1 (c.1.length : Int) 0 = _ from hloop]
  refine all_done rfl (fun q => some_true ⟨q1, by omega, q3, fun h e => ?_, fun p hp => ?_⟩) (fun q w => q (fun j _ hj => ⟨hj, w.2.2.2.2 _ (List.getElem_mem hj), fun h0 e => ?_⟩))
  · obtain ⟨_, _, hh⟩ := q 1 (Nat.zero_le _) (by omega)
    exact hh (by omega) e.symm
  · obtain ⟨j, hj, rfl⟩ := List.getElem_of_mem hp
    exact (q j (Nat.zero_le _) hj).2.1
  · have hlen : c.1.length = 2 := by omega
    have hj1 : j = 1 := by omega
    subst hj1
    exact w.2.2.2.1 hlen e.symm
theorem impl_areCommits_eq (s : List Commit) (hs : Sm (.sl TCommit) s) : impl_areCommits LP s = some (Tr (s.length ≤ 60 ∧ ∀ (i : Nat) (h : i < s.length), CommitP i s[i])) := by
  have hLP := LP_ge
  have hl : s.length ≤ 1048576 := hs.1
  have hloop := loop_all (fun k i => impl_areCommits.l2 LP k s s (s.length : Int) i) s.length (fun i => ∃ h : i < s.length, CommitP i s[i]) false s
    (fun k => by
      simp only [impl_areCommits.l2, impl_areCommits.b2]
      rw [decide_eq_false (by omega)]
      rfl) (fun k i hi => by
      simp only [impl_areCommits.l2, impl_areCommits.b2]
      simp (disch := omega) only [decide_eq_true, cond_true, oget_lt hi, wrap_id]
      rw [impl_Commit_isAt_eq _ i (by omega) (hs.2 _ (List.getElem_mem hi)), obind_some']
      refine cond_ntr (fun q => ?_) (fun q => ?_)
      · rw [Tr_false (fun w => q w.2)]; rfl
      · rw [Tr_true ⟨hi, q⟩]; rfl) LP 0 (Nat.zero_le _) (by omega)
  show obind (impl_areCommits.l2 LP LP s s (s.length : Int) 0) _ = _
  rw [show impl_areCommits.l2 LP LP s s (s.length : Int) 0 = _ from hloop]
  exact all_done rfl (fun q => some_dec ⟨fun w => ⟨by omega, fun i h => (q i (Nat.zero_le _) h).2⟩, fun w => by have := w.1; omega⟩) (fun q w => q (fun j _ hj => ⟨hj, w.2 j hj⟩))
theorem impl_StoreOK_eq (s : List Commit) (hs : Sm (.sl TCommit) s) : impl_StoreOK LP s = some (Tr (StoreP s)) := by
  unfold impl_StoreOK impl_isList_Commit
  by_cases h : (s.length : Int) > 0
  · rw [decide_eq_true h, cond_true, obind_some', Tr_dec, impl_areCommits_eq s hs]
    refine cond_tr (fun q => ?_) (fun q => some_false (fun w => q (by have := w.2.1; omega)))
    exact some_tr ⟨fun w => ⟨by omega, w.1, w.2⟩, fun w => w.2⟩
  · rw [decide_eq_false h]
    exact some_false (fun w => by have := w.1; omega)
theorem spec_l03OK_eq (s : List Commit) (hs : Sm (.sl TCommit) s) : spec_l03OK LP s = some (Tr (StoreP s)) := by
  have hLP := LP_ge
  have hl : s.length ≤ 1048576 := hs.1
  unfold spec_l03OK spec_l03OK.e
  rw [spec_l01In_eq, obind_some']
  refine cond_ntr (fun q => some_false (fun w => q ⟨by have := w.1; omega, by have := w.2.1; omega⟩)) (fun q0 => ?_)
  have hloop := loop_all (fun k i => spec_l03OK.l4 LP k s i) s.length (fun i => ∃ h : i < s.length, CommitP i s[i]) false ()
    (fun k => by
      simp only [spec_l03OK.l4, spec_l03OK.b4]
      rw [decide_eq_false (by omega)]
      rfl) (fun k i hi => by
      simp only [spec_l03OK.l4, spec_l03OK.b4]
      simp (disch := omega) only [decide_eq_true, cond_true, oget_lt hi, oif_true, wrap_id, Int.toNat_natCast]
      have hlen : (s.take i).length = i := by rw [List.length_take]; omega
      rw [spec_l03Commit_eq _ _ (by omega) (hs.2 _ (List.getElem_mem hi)), obind_some', hlen]
      refine cond_ntr (fun q => ?_) (fun q => ?_)
      · rw [Tr_false (fun w => q w.2)]; rfl
      · rw [Tr_true ⟨hi, q⟩]; rfl) LP 0 (Nat.zero_le _) (by omega)
  show obind (spec_l03OK.l4 LP LP s 0) _ = _
  rw [show spec_l03OK.l4 LP LP s 0 = _ from hloop]
  have h1 := q0.1
  have h2 := q0.2
  exact all_done rfl (fun q => some_true ⟨by omega, by omega, fun i h => (q i (Nat.zero_le _) h).2⟩) (fun q w => q (fun j _ hj => ⟨hj, w.2.2 j hj⟩))
end Go.Vx

end
section
set_option linter.unusedVariables false
set_option linter.unusedSimpArgs false
namespace Go.Vx
open Go Go.Proofs Go.RowKit Go.Lib
theorem loop_down {σ ρ β : Type} (l : Nat → Int → σ → Option (LE ρ β)) (I : Nat → σ → Prop) (res : Nat → σ → LE ρ β)
    (h0 : ∀ k s, I 0 s → l (k + 1) ((0 : Nat) : Int) s = some (res 0 s))
    (h1 : ∀ (k i : Nat) s, I (i + 1) s → (∀ s', I i s' → l k (i : Int) s' = some (res i s')) → l (k + 1) ((i + 1 : Nat) : Int) s = some (res (i + 1) s)) :
    ∀ (i k : Nat) (s : σ), i < k → I i s → l k (i : Int) s = some (res i s) := by
  intro i
  induction i with
  | zero => intro k s hk hI; obtain ⟨k, rfl⟩ : ∃ q, k = q + 1 := ⟨k - 1, by omega⟩; exact h0 k s hI
  | succ i ih => intro k s hk hI; obtain ⟨k, rfl⟩ : ∃ q, k = q + 1 := ⟨k - 1, by omega⟩; exact h1 k i s hI (fun s' hs' => ih k s' (by omega) hs')
def mark (b : List Bool) (ps : List Int) : List Bool := ps.foldl (fun b p => b.set p.toNat true) b
theorem mark_len : ∀ (ps : List Int) (b : List Bool), (mark b ps).length = b.length
  | [], b => rfl
  | p :: ps, b => by
    show (mark (b.set p.toNat true) ps).length = _
    rw [mark_len ps, List.length_set]
theorem mark_keeps : ∀ (ps : List Int) (b : List Bool) (j : Nat), b[j]? = some true → (mark b ps)[j]? = some true
  | [], b, j, h => h
  | p :: ps, b, j, h => by
    refine mark_keeps ps _ j ?_
    rw [List.getElem?_set]
    split
    · rename_i e
      subst e
      have := (List.getElem?_eq_some_iff.1 h).1
      simp [this]
    · exact h
theorem mark_sets : ∀ (ps : List Int) (b : List Bool) (p : Int), p ∈ ps → p.toNat < b.length → (mark b ps)[p.toNat]? = some true
  | q :: ps, b, p, hp, hl => by
    show (mark (b.set q.toNat true) ps)[p.toNat]? = some true
    cases hp with
    | head => exact mark_keeps ps _ _ (by rw [List.getElem?_set]; simp [hl])
    | tail _ hp => exact mark_sets ps _ p hp (by rw [List.length_set]; exact hl)
def reachL (s : List Commit) : Nat → List Bool → List Bool
  | 0, b => b
  | i + 1, b => reachL s i (cond (b.getD (i + 1) false) (mark b (s.getD i ([], [], ())).1) b)
theorem reach_len (s : List Commit) : ∀ (i : Nat) (b : List Bool), (reachL s i b).length = b.length
  | 0, b => rfl
  | i + 1, b => by
    show (reachL s i _).length = _
    rw [reach_len s i]
    cases b.getD (i + 1) false
    · rfl
    · exact mark_len _ _
theorem reach_keeps (s : List Commit) (j : Nat) : ∀ (i : Nat) (b : List Bool), b[j]? = some true → (reachL s i b)[j]? = some true
  | 0, b, h => h
  | i + 1, b, h => by
    refine reach_keeps s j i _ ?_
    cases b.getD (i + 1) false
    · exact h
    · exact mark_keeps _ _ _ h
theorem reach_one {s : List Commit} (hs : StoreP s) : ∀ (i : Nat) (b : List Bool), b.length = s.length + 1 → i ≤ s.length → (∃ j, 1 ≤ j ∧ j ≤ i ∧ b[j]? = some true) → (reachL s i b)[1]? = some true
  | 0, b, _, _, ⟨j, h1, h2, _⟩ => by omega
  | i + 1, b, hb, hi, ⟨j, h1, h2, h3⟩ => by
    show (reachL s i _)[1]? = some true
    have hil : i < s.length := by omega
    have hsi : s.getD i ([], [], ()) = s[i] := by rw [List.getD_eq_getElem?_getD, List.getElem?_eq_getElem hil]; rfl
    rw [hsi]
    by_cases hj : j = i + 1
    · subst hj
      have hg : b.getD (i + 1) false = true := by rw [List.getD_eq_getElem?_getD, h3]; rfl
      rw [hg]
      simp only [cond_true]
      by_cases h0 : i = 0
      · subst h0
        exact reach_keeps s 1 0 _ (mark_keeps _ _ _ h3)
      · obtain ⟨_, hp2, hp3, _, hp5⟩ := hs.2.2 i hil
        have hne : s[i].1 ≠ [] := fun e => h0 (hp3.1 (by rw [e]; rfl))
        obtain ⟨p, hp⟩ := List.exists_mem_of_ne_nil _ hne
        have hin := hp5 p hp
        refine reach_one hs i _ (by rw [mark_len]; exact hb) (by omega) ⟨p.toNat, by have := hin.1; omega, by have := hin.2; omega, mark_sets _ _ p hp (by have := hin.2; omega)⟩
    · have h4 : ∃ j, 1 ≤ j ∧ j ≤ i ∧ b[j]? = some true := ⟨j, h1, by omega, h3⟩
      cases b.getD (i + 1) false
      · exact reach_one hs i b hb (by omega) h4
      · obtain ⟨j, q1, q2, q3⟩ := h4
        exact reach_one hs i _ (by simp only [cond_true]; rw [mark_len]; exact hb) (by omega) ⟨j, q1, q2, mark_keeps _ _ _ q3⟩
def reach (s : List Commit) (id : Nat) : List Bool := reachL s id ((List.replicate (s.length + 1) false).set id true)
theorem reach_length (s : List Commit) (id : Nat) : (reach s id).length = s.length + 1 := by unfold reach; rw [reach_len]; simp
theorem reach_first {s : List Commit} (hs : StoreP s) {id : Nat} (h1 : 1 ≤ id) (h2 : id ≤ s.length) : (reach s id)[1]? = some true := by
  refine reach_one hs id _ (by simp) h2 ⟨id, h1, Nat.le_refl _, ?_⟩
  rw [List.getElem?_set]
  simp
  omega
theorem impl_ancestors_eq {s : List Commit} (hs : StoreP s) (hm : Sm (.sl TCommit) s) {id : Nat} (h2 : id ≤ s.length) : impl_ancestors LP s (id : Int) = some (reach s id) := by
  have hLP := LP_ge
  have hl : s.length ≤ 1048576 := hm.1
  have inner : ∀ (x6 : Int) (ps : List Int) (b : List Bool), ps.length ≤ 1048576 → b.length = s.length + 1 → (∀ p ∈ ps, Inr p 1 s.length) → impl_ancestors.l8 LP LP s x6 ps (ps.length : Int) 0 b = some (LE.brk (s, x6, mark b ps)) := by
    intro x6 ps b hps hb hin
    have := loop_ind (fun k i b => impl_ancestors.l8 LP k s x6 ps (ps.length : Int) i b) ps.length (fun _ b => b.length = s.length + 1) (fun i b => LE.brk (s, x6, mark b (ps.drop i)))
      (fun k b hb => by
        simp only [impl_ancestors.l8, impl_ancestors.b8]
        rw [decide_eq_false (by omega), List.drop_length]
        rfl)
      (fun k i b hi hb ih => by
        have hp := hin _ (List.getElem_mem hi)
        have hp1 := hp.1
        have hp2 := hp.2
        simp only [impl_ancestors.l8, impl_ancestors.b8]
        simp (disch := omega) only [decide_eq_true, cond_true, oget_lt hi, oif_true, wrap_id]
        rw [oget_at (by omega) (by omega), drop_cons hi]
        exact ih _ (by rw [List.length_set]; exact hb)) LP 0 b (Nat.zero_le _) (by omega) hb
    simpa using this
  have outer := loop_down (fun k i b => impl_ancestors.l4 LP k s i b) (fun i b => i ≤ s.length ∧ b.length = s.length + 1) (fun i b => LE.brk (reachL s i b))
    (fun k b hb => by
      simp only [impl_ancestors.l4, impl_ancestors.b4]
      rw [decide_eq_false (by omega)]
      rfl)
    (fun k i b ⟨hi, hb⟩ ih => by
      simp only [impl_ancestors.l4, impl_ancestors.b4]
      have hil : i < s.length := by omega
      have hsi : s.getD i ([], [], ()) = s[i] := by rw [List.getD_eq_getElem?_getD, List.getElem?_eq_getElem hil]; rfl
      have hgd : b.getD (i + 1) false = b[i + 1]'(by omega) := by rw [List.getD_eq_getElem?_getD, List.getElem?_eq_getElem (by omega)]; rfl
      simp (disch := omega) only [decide_eq_true, cond_true, oif_true, wrap_id, Int.toNat_natCast]
      rw [oget_lt (by omega), show ((i + 1 : Nat) : Int) - 1 = (i : Int) by omega]
      show cond (b[i + 1]'(by omega)) _ _ = some (LE.brk (reachL s i (cond (b.getD (i + 1) false) (mark b (s.getD i ([], [], ())).1) b)))
      rw [hgd, hsi]
      cases b[i + 1]'(by omega) with
      | false => exact ih b ⟨by omega, hb⟩
      | true =>
        simp only [cond_true]
        obtain ⟨_, hp2, hp3, _, hp5⟩ := hs.2.2 i hil
        rw [oget_lt hil, inner _ _ _ (by omega) hb (fun p hp => ⟨(hp5 p hp).1, by have := (hp5 p hp).2; omega⟩), obind_some', leF_brk]
        simp only [impl_ancestors.a8]
        rw [wrap_id (by omega) (by omega), show ((i + 1 : Nat) : Int) - 1 = (i : Int) by omega]
        exact ih _ ⟨by omega, by rw [mark_len]; exact hb⟩) id LP ((List.replicate (s.length + 1) false).set id true) (by omega) ⟨h2, by simp⟩
  unfold impl_ancestors impl_ancestors.e
  simp (disch := omega) only [wrap_id, decide_eq_true, oif_true, List.length_replicate]
  rw [show ((s.length : Int) + 1).toNat = s.length + 1 by omega]
  rw [oget_at (by omega) (by simp; omega), Int.toNat_natCast]
  rw [show impl_ancestors.l4 LP LP s (id : Int) ((List.replicate (s.length + 1) false).set id true) = _ from outer]
  rfl
theorem spec_l03Reach_eq {s : List Commit} (hs : StoreP s) (hm : Sm (.sl TCommit) s) {id : Nat} (h2 : id ≤ s.length) : spec_l03Reach LP s (id : Int) = some (reach s id) := by
  have hLP := LP_ge
  have hl : s.length ≤ 1048576 := hm.1
  have inner : ∀ (i : Nat) (hil : i < s.length) (b : List Bool), b.length = s.length + 1 → spec_l03Reach.l8 LP LP s ((i + 1 : Nat) : Int) 0 b = some (LE.brk (s, ((i + 1 : Nat) : Int), mark b s[i].1)) := by
    intro i hil b hb
    obtain ⟨_, hp2, hp3, _, hp5⟩ := hs.2.2 i hil
    have := loop_ind (fun k q b => spec_l03Reach.l8 LP k s ((i + 1 : Nat) : Int) q b) s[i].1.length (fun _ b => b.length = s.length + 1) (fun q b => LE.brk (s, ((i + 1 : Nat) : Int), mark b (s[i].1.drop q)))
      (fun k b hb => by
        simp only [spec_l03Reach.l8, spec_l03Reach.b8]
        rw [wrap_id (by omega) (by omega), show ((i + 1 : Nat) : Int) - 1 = (i : Int) by omega, oget_lt hil, decide_eq_false (by omega), List.drop_length]
        rfl)
      (fun k q b hq hb ih => by
        have hp := hp5 _ (List.getElem_mem hq)
        have hp1 := hp.1
        have hp2' := hp.2
        simp only [spec_l03Reach.l8, spec_l03Reach.b8]
        rw [wrap_id (x := ((i + 1 : Nat) : Int) - 1) (by omega) (by omega), show ((i + 1 : Nat) : Int) - 1 = (i : Int) by omega, oget_lt hil]
        simp (disch := omega) only [decide_eq_true, cond_true, oget_lt hil, oget_lt hq, oif_true, wrap_id]
        rw [oget_at (by omega) (by omega), drop_cons hq]
        exact ih _ (by rw [List.length_set]; exact hb)) LP 0 b (Nat.zero_le _) (by omega) hb
    simpa using this
  have outer := loop_down (fun k i b => spec_l03Reach.l4 LP k s i b) (fun i b => i ≤ s.length ∧ b.length = s.length + 1) (fun i b => LE.brk (reachL s i b))
    (fun k b hb => by
      simp only [spec_l03Reach.l4, spec_l03Reach.b4]
      rw [decide_eq_false (by omega)]
      rfl)
    (fun k i b ⟨hi, hb⟩ ih => by
      simp only [spec_l03Reach.l4, spec_l03Reach.b4]
      have hil : i < s.length := by omega
      have hsi : s.getD i ([], [], ()) = s[i] := by rw [List.getD_eq_getElem?_getD, List.getElem?_eq_getElem hil]; rfl
      have hgd : b.getD (i + 1) false = b[i + 1]'(by omega) := by rw [List.getD_eq_getElem?_getD, List.getElem?_eq_getElem (by omega)]; rfl
      simp (disch := omega) only [decide_eq_true, cond_true, oif_true, wrap_id, Int.toNat_natCast]
      rw [oget_lt (by omega), show ((i + 1 : Nat) : Int) - 1 = (i : Int) by omega]
      show cond (!(b[i + 1]'(by omega))) _ _ = some (LE.brk (reachL s i (cond (b.getD (i + 1) false) (mark b (s.getD i ([], [], ())).1) b)))
      rw [hgd, hsi]
      cases b[i + 1]'(by omega) with
      | false => exact ih b ⟨by omega, hb⟩
      | true =>
        simp only [Bool.not_true, cond_false, cond_true]
        rw [inner i hil b hb, obind_some', leF_brk]
        simp only [spec_l03Reach.a8]
        rw [wrap_id (by omega) (by omega), show ((i + 1 : Nat) : Int) - 1 = (i : Int) by omega]
        exact ih _ ⟨by omega, by rw [mark_len]; exact hb⟩) id LP ((List.replicate (s.length + 1) false).set id true) (by omega) ⟨h2, by simp⟩
  unfold spec_l03Reach spec_l03Reach.e
  simp (disch := omega) only [wrap_id, decide_eq_true, oif_true, List.length_replicate]
  rw [show ((s.length : Int) + 1).toNat = s.length + 1 by omega]
  rw [oget_at (by omega) (by simp; omega), Int.toNat_natCast]
  rw [show spec_l03Reach.l4 LP LP s (id : Int) ((List.replicate (s.length + 1) false).set id true) = _ from outer]
  rfl

def bothAt (x y : List Bool) : Nat → Nat
  | 0 => 0
  | i + 1 => cond (x.getD (i + 1) false && y.getD (i + 1) false) (i + 1) (bothAt x y i)
theorem both_ge {x y : List Bool} (hx : x[1]? = some true) (hy : y[1]? = some true) : ∀ i, 1 ≤ i → 1 ≤ bothAt x y i ∧ bothAt x y i ≤ i
  | i + 1, _ => by
    unfold bothAt
    cases h : x.getD (i + 1) false && y.getD (i + 1) false with
    | true => simp
    | false =>
      simp only [cond_false]
      by_cases h0 : i = 0
      · subst h0
        rw [List.getD_eq_getElem?_getD, List.getD_eq_getElem?_getD, hx, hy] at h
        cases h
      · have := both_ge hx hy i (by omega)
        omega
def base (s : List Commit) (a b : Nat) : Nat := bothAt (reach s a) (reach s b) (min a b)
theorem base_in {s : List Commit} (hs : StoreP s) {a b : Nat} (ha1 : 1 ≤ a) (ha2 : a ≤ s.length) (hb1 : 1 ≤ b) (hb2 : b ≤ s.length) : 1 ≤ base s a b ∧ base s a b ≤ min a b :=
  both_ge (reach_first hs ha1 ha2) (reach_first hs hb1 hb2) _ (by omega)
theorem base_loop {x y : List Bool} {L : Nat} (hL : L ≤ 1048577) (hxl : x.length = L) (hyl : y.length = L) (hx : x[1]? = some true) (hy : y[1]? = some true) (l : Nat → Int → Option (LE Empty Int))
    (h : ∀ k (i : Int), l (k + 1) i = oget x i fun e3 => cond (!e3) (l k (IntKind.i64.wrap (i - 1))) (oget y i fun e4 => cond (!e4) (l k (IntKind.i64.wrap (i - 1))) (some (.brk i)))) :
    ∀ (i k : Nat), i < L → 1 ≤ i → i ≤ k → l k (i : Int) = some (.brk ((bothAt x y i : Nat) : Int)) := by
  intro i
  induction i with
  | zero => intro k _ h1; omega
  | succ i ih =>
    intro k hi h1 hk
    obtain ⟨k, rfl⟩ : ∃ q, k = q + 1 := ⟨k - 1, by omega⟩
    rw [h, oget_lt (by omega)]
    have gx : x.getD (i + 1) false = x[i + 1]'(by omega) := by rw [List.getD_eq_getElem?_getD, List.getElem?_eq_getElem (by omega)]; rfl
    have gy : y.getD (i + 1) false = y[i + 1]'(by omega) := by rw [List.getD_eq_getElem?_getD, List.getElem?_eq_getElem (by omega)]; rfl
    unfold bothAt
    rw [gx, gy, wrap_id (by omega) (by omega), show ((i + 1 : Nat) : Int) - 1 = (i : Int) by omega]
    have low : ∀ (hc : (x.getD (i + 1) false && y.getD (i + 1) false) = false), 1 ≤ i := by
      intro hc
      by_cases h0 : i = 0
      · subst h0
        rw [List.getD_eq_getElem?_getD, List.getD_eq_getElem?_getD, hx, hy] at hc
        cases hc
      · omega
    rw [gx, gy] at low
    cases hxx : x[i + 1]'(by omega) with
    | false =>
      rw [hxx] at low
      exact ih k (by omega) (low rfl) (by omega)
    | true =>
      simp only [Bool.not_true, cond_false, Bool.true_and]
      rw [oget_lt (by omega)]
      cases hyy : y[i + 1]'(by omega) with
      | false =>
        rw [hxx, hyy] at low
        exact ih k (by omega) (low rfl) (by omega)
      | true => rfl
theorem min_int (a b : Nat) : (cond (decide ((b : Int) < (a : Int))) (b : Int) (a : Int)) = ((min a b : Nat) : Int) := by
  by_cases h : b < a
  · rw [decide_eq_true (by omega), Nat.min_eq_right (by omega)]; rfl
  · rw [decide_eq_false (by omega), Nat.min_eq_left (by omega)]; rfl
theorem spec_l03Base_eq {s : List Commit} (hs : StoreP s) (hm : Sm (.sl TCommit) s) {a b : Nat} (ha1 : 1 ≤ a) (ha2 : a ≤ s.length) (hb1 : 1 ≤ b) (hb2 : b ≤ s.length) : spec_l03Base LP s (a : Int) (b : Int) = some ((base s a b : Nat) : Int) := by
  have hLP := LP_ge
  have hl : s.length ≤ 1048576 := hm.1
  unfold spec_l03Base spec_l03Base.e
  rw [spec_l03Reach_eq hs hm ha2, obind_some', spec_l03Reach_eq hs hm hb2, obind_some', min_int]
  have := base_loop (L := s.length + 1) (by omega) (reach_length s a) (reach_length s b) (reach_first hs ha1 ha2) (reach_first hs hb1 hb2) (fun k i => spec_l03Base.l4 LP k (reach s a) (reach s b) i) (fun k i => rfl) (min a b) LP (by omega) (by omega) (by omega)
  show obind (spec_l03Base.l4 LP LP (reach s a) (reach s b) ((min a b : Nat) : Int)) _ = _
  rw [show spec_l03Base.l4 LP LP (reach s a) (reach s b) ((min a b : Nat) : Int) = _ from this]
  rfl
theorem impl_baseOf_eq {s : List Commit} (hs : StoreP s) (hm : Sm (.sl TCommit) s) {a b : Nat} (ha1 : 1 ≤ a) (ha2 : a ≤ s.length) (hb1 : 1 ≤ b) (hb2 : b ≤ s.length) : impl_baseOf LP s (a : Int) (b : Int) = some ((base s a b : Nat) : Int) := by
  have hLP := LP_ge
  have hl : s.length ≤ 1048576 := hm.1
  unfold impl_baseOf impl_baseOf.e
  rw [impl_ancestors_eq hs hm ha2, obind_some', impl_ancestors_eq hs hm hb2, obind_some', min_int]
  have := base_loop (L := s.length + 1) (by omega) (reach_length s a) (reach_length s b) (reach_first hs ha1 ha2) (reach_first hs hb1 hb2) (fun k i => impl_baseOf.l3 LP k (reach s a) (reach s b) i) (fun k i => rfl) (min a b) LP (by omega) (by omega) (by omega)
  show obind (impl_baseOf.l3 LP LP (reach s a) (reach s b) ((min a b : Nat) : Int)) _ = _
  rw [show impl_baseOf.l3 LP LP (reach s a) (reach s b) ((min a b : Nat) : Int) = _ from this]
  rfl
end Go.Vx

end
section
set_option linter.unusedVariables false
set_option linter.unusedSimpArgs false
namespace Go.Vx
open Go Go.Proofs Go.RowKit Go.Lib
noncomputable def ne (k : ByteArray) (e : Entry) : Bool := !Tr (e.1 = k)
noncomputable def remL (m : List Entry) (k : ByteArray) : List Entry := m.filter (ne k)
noncomputable def putL (k : ByteArray) (v : Int) : List Entry → List Entry
  | [] => [(k, v, ())]
  | e :: r => cond (Tr (slt e.1 k)) (e :: putL k v r) ((k, v, ()) :: (e :: r).filter (ne k))
noncomputable def stepE (m : List Entry) (e : Edit) : List Entry := cond e.2.2.1 (remL m e.1) (putL e.1 e.2.1 m)
noncomputable def applyL (m : List Entry) (es : List Edit) : List Entry := es.foldl stepE m
theorem app1 {α : Type} {s : List α} {x : α} {b : Nat} (h : s.length ≤ 4000000) (hb : b ≤ 64) : (s.length + [x].length) * b ≤ 140737488355328 := by
  rw [List.length_singleton]
  have := Nat.mul_le_mul (show s.length + 1 ≤ 4000001 by omega) hb
  omega
theorem app2 {α : Type} {s : List α} {x y : α} {b : Nat} (h : s.length ≤ 4000000) (hb : b ≤ 64) : ((s ++ [y]).length + [x].length) * b ≤ 140737488355328 := by
  rw [List.length_singleton, List.length_append, List.length_singleton]
  have := Nat.mul_le_mul (show s.length + 1 + 1 ≤ 4000002 by omega) hb
  omega
theorem filter_cons' {α : Type} (p : α → Bool) (x : α) (l : List α) : (x :: l).filter p = cond (p x) (x :: l.filter p) (l.filter p) := by
  rw [List.filter_cons]
  cases p x <;> rfl
theorem putL_len (k : ByteArray) (v : Int) : ∀ m : List Entry, (putL k v m).length ≤ m.length + 1
  | [] => by simp [putL]
  | e :: r => by
    unfold putL
    have ih := putL_len k v r
    cases Tr (slt e.1 k) with
    | true => simp only [cond_true, List.length_cons]; omega
    | false =>
      simp only [cond_false, List.length_cons]
      have := List.length_filter_le (ne k) (e :: r)
      rw [List.length_cons] at this
      omega
theorem remL_len (m : List Entry) (k : ByteArray) : (remL m k).length ≤ m.length := List.length_filter_le _ _
theorem stepE_len (m : List Entry) (e : Edit) : (stepE m e).length ≤ m.length + 1 := by
  unfold stepE
  cases e.2.2.1 with
  | true => have := remL_len m e.1; simp only [cond_true]; omega
  | false => exact putL_len _ _ _
theorem spec_l01Remove_eq (m : List Entry) (k : ByteArray) (hm : m.length ≤ 1048576) : spec_l01Remove LP m k = some (remL m k) := by
  have hLP := LP_ge
  have := loop_ind (fun q i s => spec_l01Remove.l3 LP q m k i s) m.length (fun i s => s.length ≤ i) (fun i s => LE.brk (s ++ (m.drop i).filter (ne k)))
    (fun q s hs => by
      simp only [spec_l01Remove.l3, spec_l01Remove.b3]
      rw [decide_eq_false (by omega), List.drop_length]
      simp)
    (fun q i s hi hs ih => by
      simp only [spec_l01Remove.l3, spec_l01Remove.b3]
      have hb : (s.length + [m[i]].length) * 24 ≤ 140737488355328 := by rw [List.length_singleton]; omega
      have hw : IntKind.i64.wrap ((i : Int) + 1) = ((i + 1 : Nat) : Int) := wrap_id (by omega) (by omega)
      simp only [decide_eq_true (show (i : Int) < (m.length : Int) by omega), cond_true, oget_lt hi, hw, seq_tr, decide_eq_true hb, oif_true]
      rw [drop_cons hi, filter_cons']
      unfold ne
      cases h : Tr (m[i].1 = k) with
      | true =>
        simp only [Bool.not_true, cond_false]
        exact ih s (by omega)
      | false =>
        simp only [Bool.not_false, cond_true]
        refine Eq.trans (ih _ (by simp; omega)) ?_
        rw [List.append_assoc]
        rfl) LP 0 [] (Nat.zero_le _) (by omega) (by simp)
  show obind (spec_l01Remove.l3 LP LP m k 0 []) _ = _
  rw [show spec_l01Remove.l3 LP LP m k 0 [] = _ from this]
  rfl
noncomputable def putR (k : ByteArray) (v : Int) : Bool → List Entry → List Entry → Bool × List Entry
  | true, s, r => (true, s ++ r.filter (ne k))
  | false, s, [] => (false, s)
  | false, s, e :: r => cond (Tr (slt e.1 k)) (putR k v false (s ++ [e]) r) (true, s ++ (k, v, ()) :: (e :: r).filter (ne k))
theorem putR_fin (k : ByteArray) (v : Int) : ∀ (r s : List Entry), cond (!(putR k v false s r).1) ((putR k v false s r).2 ++ [(k, v, ())]) (putR k v false s r).2 = s ++ putL k v r
  | [], s => rfl
  | e :: r, s => by
    unfold putR putL
    cases h : Tr (slt e.1 k) with
    | true =>
      simp only [cond_true]
      rw [putR_fin k v r (s ++ [e]), List.append_assoc]
      rfl
    | false => rfl
theorem putR_true (k : ByteArray) (v : Int) (s r : List Entry) : putR k v true s r = (true, s ++ r.filter (ne k)) := by cases r <;> rfl
theorem spec_l01Put_eq (m : List Entry) (k : ByteArray) (v : Int) (hm : m.length ≤ 1048576) : spec_l01Put LP m k v = some (putL k v m) := by
  have hLP := LP_ge
  have := loop_ind (fun q i (s : Bool × List Entry) => spec_l01Put.l4 LP q m k v s.1 i s.2) m.length (fun i s => s.2.length ≤ 2 * i) (fun i s => LE.brk (k, v, putR k v s.1 s.2 (m.drop i)))
    (fun q s hs => by
      simp only [spec_l01Put.l4, spec_l01Put.b4]
      rw [decide_eq_false (by omega), List.drop_length]
      obtain ⟨d, s⟩ := s
      cases d with
      | true => simp [putR_true]
      | false => rfl)
    (fun q i s hi hs ih => by
      obtain ⟨d, s⟩ := s
      have hs : s.length ≤ 2 * i := hs
      have hw : IntKind.i64.wrap ((i : Int) + 1) = ((i + 1 : Nat) : Int) := wrap_id (by omega) (by omega)
      have hlt : (i : Int) < (m.length : Int) := by omega
      have hsl : s.length ≤ 4000000 := by omega
      have hb := app1 (x := m[i]) (b := 24) hsl (by decide)
      have hb1 := app1 (x := ((k, v, ()) : Entry)) (b := 24) hsl (by decide)
      have hb2 := app2 (x := m[i]) (y := ((k, v, ()) : Entry)) (b := 24) hsl (by decide)
      simp only [spec_l01Put.l4, spec_l01Put.b4]
      simp only [decide_eq_true hlt, cond_true, oget_lt hi, hw, seq_tr, less_tr, decide_eq_true hb, decide_eq_true hb1, decide_eq_true hb2, oif_true]
      rw [drop_cons hi]
      cases d with
      | true =>
        rw [putR_true, filter_cons']
        simp only [Bool.not_true, cond_false]
        unfold ne
        cases h : Tr (m[i].1 = k) with
        | true =>
          simp only [Bool.not_true, cond_false]
          refine Eq.trans (ih (true, s) (by show s.length ≤ _; omega)) ?_
          rw [putR_true]; rfl
        | false =>
          simp only [Bool.not_false, cond_true]
          refine Eq.trans (ih (true, s ++ [m[i]]) (by show (s ++ [m[i]]).length ≤ _; simp; omega)) ?_
          rw [putR_true, List.append_assoc]; rfl
      | false =>
        simp only [Bool.not_false, cond_true]
        unfold putR
        rw [filter_cons']
        unfold ne
        cases h : Tr (slt m[i].1 k) with
        | true =>
          have hne : Tr (m[i].1 = k) = false := Tr_false (fun e => slt_irrefl k (by have := Tr_iff.1 h; rwa [e] at this))
          simp only [Bool.not_true, cond_false, hne, Bool.not_false, cond_true]
          exact ih (false, s ++ [m[i]]) (by show (s ++ [m[i]]).length ≤ _; simp; omega)
        | false =>
          simp only [Bool.not_false, cond_true, cond_false]
          cases h2 : Tr (m[i].1 = k) with
          | true =>
            simp only [Bool.not_true, cond_false]
            refine Eq.trans (ih (true, s ++ [(k, v, ())]) (by show (s ++ [(k, v, ())]).length ≤ _; simp; omega)) ?_
            rw [putR_true, List.append_assoc]; rfl
          | false =>
            simp only [Bool.not_false, cond_true]
            refine Eq.trans (ih (true, s ++ [(k, v, ())] ++ [m[i]]) (by show (s ++ [(k, v, ())] ++ [m[i]]).length ≤ _; simp; omega)) ?_
            rw [putR_true, List.append_assoc, List.append_assoc]; rfl) LP 0 (false, []) (Nat.zero_le _) (by omega) (by simp)
  show obind (spec_l01Put.l4 LP LP m k v false 0 []) _ = _
  rw [show spec_l01Put.l4 LP LP m k v false 0 [] = _ from this, obind_some', leF_brk, List.drop_zero]
  have hf := putR_fin k v m []
  rw [List.nil_append] at hf
  rw [← hf]
  have hlen : (putR k v false [] m).1 = false → (putR k v false [] m).2.length ≤ 1048576 := by
    intro h
    have := putL_len k v m
    rw [← hf, h] at this
    simp at this
    omega
  unfold spec_l01Put.a4
  simp only
  cases h : (putR k v false [] m).1 with
  | true => rfl
  | false =>
    have := hlen h
    simp only [Bool.not_false, cond_true]
    rw [decide_eq_true (by rw [List.length_singleton]; omega)]
    rfl
theorem spec_l01Apply_eq (m : List Entry) (es : List Edit) (hm : m.length ≤ 500000) (he : es.length ≤ 500000) : spec_l01Apply LP m es = some (applyL m es) := by
  have hLP := LP_ge
  have := loop_ind (fun q i s => spec_l01Apply.l3 LP q s es i) es.length (fun i s => s.length ≤ m.length + i) (fun i s => LE.brk (applyL s (es.drop i)))
    (fun q s hs => by
      simp only [spec_l01Apply.l3, spec_l01Apply.b3]
      rw [decide_eq_false (by omega), List.drop_length]
      rfl)
    (fun q i s hi hs ih => by
      simp only [spec_l01Apply.l3, spec_l01Apply.b3]
      simp (disch := omega) only [decide_eq_true, cond_true, oget_lt hi, wrap_id]
      rw [spec_l01Remove_eq _ _ (by omega), spec_l01Put_eq _ _ _ (by omega), drop_cons hi]
      show _ = some (LE.brk (applyL (stepE s es[i]) (es.drop (i + 1))))
      unfold stepE
      cases h : es[i].2.2.1 with
      | true =>
        simp only [cond_true, obind_some']
        exact ih _ (by have := remL_len s es[i].1; omega)
      | false =>
        simp only [cond_false, obind_some']
        exact ih _ (by have := putL_len es[i].1 es[i].2.1 s; omega)) LP 0 m (Nat.zero_le _) (by omega) (by simp)
  unfold spec_l01Apply spec_l01Apply.e
  rw [decide_eq_true (by simp; omega), oif_true, List.nil_append]
  show obind (spec_l01Apply.l3 LP LP m es 0) _ = _
  rw [show spec_l01Apply.l3 LP LP m es 0 = _ from this]
  rfl
end Go.Vx

end
section
set_option linter.unusedVariables false
set_option linter.unusedSimpArgs false
namespace Go.Vx
open Go Go.Proofs Go.RowKit Go.Lib
abbrev RiseE (m : List Entry) : Prop := Rise (fun e : Entry => e.1) m
structure Part (m : List Entry) (k : ByteArray) (p : Nat) : Prop where
  le : p ≤ m.length
  lo : ∀ (i : Nat) (h : i < m.length), i < p → slt m[i].1 k
  hi : ∀ (i : Nat) (h : i < m.length), p ≤ i → ¬ slt m[i].1 k
theorem rise_get {m : List Entry} (hr : RiseE m) {i j : Nat} (hi : i < m.length) (hj : j < m.length) (h : i < j) : slt m[i].1 m[j].1 := List.pairwise_iff_getElem.1 hr i j hi hj h
theorem half (a b : Nat) (h : a + b ≤ 9223372036854775807) : IntKind.i64.wrap ((IntKind.u64.wrap (IntKind.i64.wrap ((a : Int) + (b : Int)))).fdiv (2 ^ min (1:Int).toNat (IntKind.u64).bits)) = (((a + b) / 2 : Nat) : Int) := by
  rw [wrap_id (x := (a : Int) + b) (by omega) (by omega)]
  have h2 : IntKind.u64.wrap ((a : Int) + b) = (a : Int) + b := by
    rw [IntKind.wrap_u64]
    omega
  have h3 : (2 ^ min (1:Int).toNat (IntKind.u64).bits : Int) = 2 := by decide
  rw [h2, h3]
  have h4 : ((a : Int) + (b : Int)).fdiv 2 = (((a + b) / 2 : Nat) : Int) := by
    rw [Int.fdiv_eq_ediv_of_nonneg _ (by omega)]
    omega
  rw [h4]
  exact wrap_id (by omega) (by omega)
theorem bs_loop (m : List Entry) (k : ByteArray) (φ : (Entry × ByteArray × Unit) → Option Int) (hm : m.length ≤ 1048576) (hr : RiseE m) (hφ : ∀ e, φ (e, k, ()) = some (Lib.compareBytes e.1.data.toList k.data.toList)) (n0 : Int) :
    ∀ (n lo hi fuel : Nat), hi - lo ≤ n → n < fuel → lo ≤ hi → hi ≤ m.length → (∀ (i : Nat) (h : i < m.length), i < lo → slt m[i].1 k) → (∀ (i : Nat) (h : i < m.length), hi ≤ i → ¬ slt m[i].1 k) →
    ∃ p, Part m k p ∧ slices_BinarySearchFunc_Entry.l3 LP fuel m k φ n0 (lo : Int) (hi : Int) = some (LE.brk (m, k, φ, n0, (p : Int))) := by
  intro n
  induction n with
  | zero =>
    intro lo hi fuel h1 h2 h3 h4 h5 h6
    obtain ⟨fuel, rfl⟩ : ∃ q, fuel = q + 1 := ⟨fuel - 1, by omega⟩
    have e : lo = hi := by omega
    subst e
    refine ⟨lo, ⟨h4, h5, h6⟩, ?_⟩
    simp only [slices_BinarySearchFunc_Entry.l3, slices_BinarySearchFunc_Entry.b3]
    rw [decide_eq_false (by omega)]
    rfl
  | succ n ih =>
    intro lo hi fuel h1 h2 h3 h4 h5 h6
    obtain ⟨fuel, rfl⟩ : ∃ q, fuel = q + 1 := ⟨fuel - 1, by omega⟩
    by_cases e : lo = hi
    · subst e
      refine ⟨lo, ⟨h4, h5, h6⟩, ?_⟩
      simp only [slices_BinarySearchFunc_Entry.l3, slices_BinarySearchFunc_Entry.b3]
      rw [decide_eq_false (by omega)]
      rfl
    · have hmid : (lo + hi) / 2 < m.length := by omega
      simp only [slices_BinarySearchFunc_Entry.l3, slices_BinarySearchFunc_Entry.b3]
      rw [half lo hi (by omega), decide_eq_true (show (lo : Int) < (hi : Int) by omega), cond_true, decide_eq_true (by decide), oif_true, oget_lt hmid, hφ, obind_some']
      by_cases hc : slt m[(lo + hi) / 2].1 k
      · rw [decide_eq_true ((cmp_slt _ _).2 hc), cond_true, wrap_id (by omega) (by omega)]
        refine ih ((lo + hi) / 2 + 1) hi fuel (by omega) (by omega) (by omega) h4 (fun i hi' hlt => ?_) h6
        by_cases hq : i = (lo + hi) / 2
        · subst hq; exact hc
        · exact slt_trans (rise_get hr hi' hmid (by omega)) hc
      · rw [decide_eq_false (fun w => hc ((cmp_slt _ _).1 w)), cond_false]
        refine ih lo ((lo + hi) / 2) fuel (by omega) (by omega) (by omega) (by omega) h5 (fun i hi' hge => ?_)
        by_cases hq : i = (lo + hi) / 2
        · subst hq; exact hc
        · intro w
          exact hc (slt_trans (rise_get hr hmid hi' (by omega)) w)
def FoundAt (m : List Entry) (k : ByteArray) (p : Nat) : Prop := ∃ h : p < m.length, m[p].1 = k
theorem impl_find_eq (m : List Entry) (k : ByteArray) (hm : m.length ≤ 1048576) (hr : RiseE m) : ∃ p, Part m k p ∧ impl_find LP m k = some ((p : Int), Tr (FoundAt m k p)) := by
  have hLP := LP_ge
  obtain ⟨p, hp, he⟩ := bs_loop m k (fun w => impl_find_c1 w.1 w.2.1) hm hr (fun e => rfl) (m.length : Int) m.length 0 m.length LP (by omega) (by omega) (by omega) (by omega) (fun i _ h => by omega) (fun i h1 h2 => by omega)
  refine ⟨p, hp, ?_⟩
  unfold impl_find slices_BinarySearchFunc_Entry slices_BinarySearchFunc_Entry.e
  show obind (obind (slices_BinarySearchFunc_Entry.l3 LP LP m k (fun w => impl_find_c1 w.1 w.2.1) (m.length : Int) 0 (m.length : Int)) _) _ = _
  rw [show slices_BinarySearchFunc_Entry.l3 LP LP m k (fun w => impl_find_c1 w.1 w.2.1) (m.length : Int) 0 (m.length : Int) = _ from he, obind_some', leF_brk]
  simp only [slices_BinarySearchFunc_Entry.a3]
  have hle := hp.le
  by_cases h : p < m.length
  · rw [decide_eq_true (by omega), cond_true, oget_lt h]
    show some ((p : Int), (Lib.compareBytes m[p].1.data.toList k.data.toList == 0)) = _
    rw [int_tr, Tr_congr (cmp_seq _ _), Tr_congr (q := FoundAt m k p) ⟨fun w => ⟨h, w⟩, fun ⟨_, w⟩ => w⟩]
  · rw [decide_eq_false (by omega), cond_false, obind_some', Tr_false (fun ⟨w, _⟩ => h w)]
theorem found_iff {m : List Entry} {k : ByteArray} {p : Nat} (hr : RiseE m) (hp : Part m k p) : FoundAt m k p ↔ ∃ e ∈ m, e.1 = k := by
  constructor
  · rintro ⟨h, rfl⟩
    exact ⟨_, List.getElem_mem h, rfl⟩
  · rintro ⟨e, he, hk⟩
    obtain ⟨i, hi, rfl⟩ := List.getElem_of_mem he
    have h1 : p ≤ i := by
      apply Classical.byContradiction
      intro hn
      have := hp.lo i hi (by omega)
      rw [hk] at this
      exact slt_irrefl _ this
    by_cases hq : p = i
    · subst hq; exact ⟨hi, hk⟩
    · exfalso
      have := rise_get hr (show p < m.length by omega) hi (by omega)
      rw [hk] at this
      exact hp.hi p (by omega) (Nat.le_refl _) this
theorem filter_all {α : Type} {p : α → Bool} {l : List α} (h : ∀ x ∈ l, p x = true) : l.filter p = l := List.filter_eq_self.2 h
theorem ne_true {k : ByteArray} {e : Entry} (h : e.1 ≠ k) : ne k e = true := by unfold ne; rw [Tr_false h]; rfl
theorem ne_false {k : ByteArray} {e : Entry} (h : e.1 = k) : ne k e = false := by unfold ne; rw [Tr_true h]; rfl
theorem drop_filter {m : List Entry} {k : ByteArray} {p : Nat} (hr : RiseE m) (hp : Part m k p) : (m.drop p).filter (ne k) = cond (Tr (FoundAt m k p)) (m.drop (p + 1)) (m.drop p) := by
  by_cases hf : FoundAt m k p
  · rw [Tr_true hf]
    obtain ⟨h, hk⟩ := hf
    rw [drop_cons h, filter_cons', ne_false hk]
    simp only [cond_false, cond_true]
    refine filter_all fun x hx => ne_true fun e => ?_
    obtain ⟨i, hi, rfl⟩ := List.getElem_of_mem hx
    rw [List.getElem_drop] at e
    have hil : p + 1 + i < m.length := by rw [List.length_drop] at hi; omega
    have := rise_get hr h hil (by omega)
    rw [hk, e] at this
    exact slt_irrefl _ this
  · rw [Tr_false hf]
    refine filter_all fun x hx => ne_true fun e => hf ((found_iff hr hp).2 ⟨x, List.mem_of_mem_drop hx, e⟩)
theorem take_filter {m : List Entry} {k : ByteArray} {p : Nat} (hp : Part m k p) : (m.take p).filter (ne k) = m.take p := by
  refine filter_all fun x hx => ne_true fun e => ?_
  obtain ⟨i, hi, rfl⟩ := List.getElem_of_mem hx
  rw [List.getElem_take] at e
  have hil : i < p := by rw [List.length_take] at hi; omega
  have := hp.lo i (by have := hp.le; omega) hil
  rw [e] at this
  exact slt_irrefl _ this
theorem remL_part {m : List Entry} {k : ByteArray} {p : Nat} (hr : RiseE m) (hp : Part m k p) : remL m k = m.take p ++ cond (Tr (FoundAt m k p)) (m.drop (p + 1)) (m.drop p) := by
  rw [← drop_filter hr hp]
  unfold remL
  rw [← take_filter hp, ← List.filter_append, List.take_append_drop]
theorem putL_part (k : ByteArray) (v : Int) : ∀ {m : List Entry} {p : Nat}, Part m k p → putL k v m = m.take p ++ (k, v, ()) :: (m.drop p).filter (ne k)
  | [], p, hp => by simp [putL]
  | e :: r, 0, hp => by
    have h0 : ¬ slt e.1 k := hp.hi 0 (by simp) (Nat.le_refl _)
    unfold putL
    rw [Tr_false h0]
    rfl
  | e :: r, p + 1, hp => by
    have h0 : slt e.1 k := hp.lo 0 (by simp) (by omega)
    have hp' : Part r k p := ⟨by have := hp.le; simp at this; exact this, fun i h hlt => by
      have := hp.lo (i + 1) (by simp; exact h) (by omega)
      simpa using this, fun i h hge => by
      have := hp.hi (i + 1) (by simp; exact h) (by omega)
      simpa using this⟩
    unfold putL
    rw [Tr_true h0, cond_true, putL_part k v hp']
    rfl
theorem rise_rem {m : List Entry} (hr : RiseE m) (k : ByteArray) : RiseE (remL m k) := List.Pairwise.filter _ hr
theorem rise_put (k : ByteArray) (v : Int) : ∀ {m : List Entry}, RiseE m → RiseE (putL k v m) ∧ ∀ x ∈ putL k v m, x = (k, v, ()) ∨ x ∈ m
  | [], _ => ⟨by unfold putL; exact List.pairwise_singleton _ _, fun x hx => by simp [putL] at hx; exact .inl hx⟩
  | e :: r, hr => by
    have hr' := List.pairwise_cons.1 hr
    unfold putL
    by_cases h : slt e.1 k
    · rw [Tr_true h]
      simp only [cond_true]
      have ih := rise_put k v hr'.2
      refine ⟨List.pairwise_cons.2 ⟨fun x hx => ?_, ih.1⟩, fun x hx => ?_⟩
      · rcases ih.2 x hx with rfl | hx
        · exact h
        · exact hr'.1 x hx
      · cases hx with
        | head => exact .inr List.mem_cons_self
        | tail _ hx => rcases ih.2 x hx with q | q
                       · exact .inl q
                       · exact .inr (List.mem_cons_of_mem _ q)
    · rw [Tr_false h]
      simp only [cond_false]
      refine ⟨List.pairwise_cons.2 ⟨fun x hx => ?_, List.Pairwise.filter _ hr⟩, fun x hx => ?_⟩
      · obtain ⟨hx1, hx2⟩ := List.mem_filter.1 hx
        have hne : x.1 ≠ k := fun e => by rw [ne_false e] at hx2; cases hx2
        show slt k x.1
        cases hx1 with
        | head => rcases slt_tri e.1 k with q | q | q
                  · exact absurd q h
                  · exact absurd q hne
                  · exact q
        | tail _ hx1 =>
          have hex := hr'.1 x hx1
          rcases slt_tri e.1 k with q | q | q
          · exact absurd q h
          · rw [← q]; exact hex
          · exact slt_trans q hex
      · cases hx with
        | head => exact .inl rfl
        | tail _ hx => exact .inr (List.mem_filter.1 hx).1
theorem rise_step {m : List Entry} (hr : RiseE m) (e : Edit) : RiseE (stepE m e) := by
  unfold stepE
  cases e.2.2.1 with
  | true => exact rise_rem hr _
  | false => exact (rise_put _ _ hr).1
theorem rise_apply : ∀ (es : List Edit) {m : List Entry}, RiseE m → RiseE (applyL m es)
  | [], m, hr => hr
  | e :: es, m, hr => rise_apply es (rise_step hr e)
theorem edit_step {R : Type} {m : List Entry} (hm : m.length ≤ 1000000) (hr : RiseE m) (e : Edit) (N : List Entry → Option R) :
    (obind (impl_find LP m e.1) fun (t3 : Int × Bool) => cond t3.2 (obind (slices_Delete_Entry m t3.1 (IntKind.i64.wrap (t3.1 + (1:Int)))) fun (t4 : List Entry) => cond (!e.2.2.1) (obind (slices_Insert_Entry t4 t3.1 ([(e.1, e.2.1, ())] : List Entry)) fun (t5 : List Entry) => N t5) (N t4)) (cond (!e.2.2.1) (obind (slices_Insert_Entry m t3.1 ([(e.1, e.2.1, ())] : List Entry)) fun (t6 : List Entry) => N t6) (N m))) = N (stepE m e) := by
  obtain ⟨p, hp, he⟩ := impl_find_eq m e.1 (by omega) hr
  have hle := hp.le
  rw [he, obind_some']
  simp only
  have hrem := remL_part hr hp
  have hput := putL_part e.1 e.2.1 hp
  rw [drop_filter hr hp] at hput
  unfold stepE
  have ins : ∀ (l : List Entry), p ≤ l.length → l.length ≤ 1000000 → slices_Insert_Entry l (p : Int) [(e.1, e.2.1, ())] = some (l.take p ++ [(e.1, e.2.1, ())] ++ l.drop p) := fun l h1 h2 => by
    unfold slices_Insert_Entry insF
    rw [decide_eq_true (by omega), oif_true, decide_eq_true (by omega), oif_true, decide_eq_true (show 0 < [((e.1, e.2.1, ()) : Entry)].length from Nat.zero_lt_succ _), oif_true, decide_eq_true (app1 (by omega) (by decide)), oif_true, Int.toNat_natCast]
  by_cases hf : FoundAt m e.1 p
  · have hpl : p < m.length := hf.1
    rw [Tr_true hf] at hrem hput ⊢
    simp only [cond_true] at hrem hput ⊢
    have del : slices_Delete_Entry m (p : Int) (IntKind.i64.wrap ((p : Int) + 1)) = some (m.take p ++ m.drop (p + 1)) := by
      rw [wrap_id (by omega) (by omega)]
      unfold slices_Delete_Entry delF
      rw [decide_eq_true (by omega), oif_true, decide_eq_true (by omega), oif_true, decide_eq_true (by omega), oif_true, Int.toNat_natCast, show ((p : Int) + 1).toNat = p + 1 by omega]
    rw [del, obind_some']
    cases e.2.2.1 with
    | true =>
      simp only [Bool.not_true, cond_false, cond_true]
      rw [hrem]
    | false =>
      simp only [Bool.not_false, cond_false, cond_true]
      have hlt : (m.take p).length = p := by rw [List.length_take]; omega
      rw [ins _ (by rw [List.length_append, hlt]; omega) (by rw [List.length_append, hlt, List.length_drop]; omega), obind_some', List.take_left' hlt, List.drop_left' hlt, hput, List.append_assoc]
      rfl
  · rw [Tr_false hf] at hrem hput ⊢
    simp only [cond_false] at hrem hput ⊢
    cases e.2.2.1 with
    | true =>
      simp only [Bool.not_true, cond_false, cond_true]
      rw [hrem, List.take_append_drop]
    | false =>
      simp only [Bool.not_false, cond_false, cond_true]
      rw [ins m hle hm, obind_some', hput, List.append_assoc]
      rfl
theorem impl_edited_eq (m : List Entry) (es : List Edit) (hm : m.length ≤ 400000) (he : es.length ≤ 400000) (hr : RiseE m) : impl_edited LP m es = some (applyL m es) := by
  have hLP := LP_ge
  have := loop_ind (fun q i s => impl_edited.l3 LP q es (es.length : Int) i s) es.length (fun i s => s.length ≤ m.length + i ∧ RiseE s) (fun i s => LE.brk (applyL s (es.drop i)))
    (fun q s hs => by
      simp only [impl_edited.l3, impl_edited.b3]
      rw [decide_eq_false (by omega), List.drop_length]
      rfl)
    (fun q i s hi hs ih => by
      obtain ⟨hs, hrs⟩ := hs
      have hw : IntKind.i64.wrap ((i : Int) + 1) = ((i + 1 : Nat) : Int) := wrap_id (by omega) (by omega)
      simp only [impl_edited.l3, impl_edited.b3]
      rw [decide_eq_true (by omega), cond_true, oget_lt hi, hw]
      refine (edit_step (by omega) hrs es[i] (fun t => impl_edited.l3 LP q es (es.length : Int) ((i + 1 : Nat) : Int) t)).trans ?_
      rw [drop_cons hi]
      have := stepE_len s es[i]
      exact ih _ ⟨by omega, rise_step hrs _⟩) LP 0 m (Nat.zero_le _) (by omega) ⟨by simp, hr⟩
  unfold impl_edited impl_edited.e slices_Clone_Entry
  rw [decide_eq_true (by omega), oif_true, obind_some']
  show obind (impl_edited.l3 LP LP es (es.length : Int) 0 m) _ = _
  rw [show impl_edited.l3 LP LP es (es.length : Int) 0 m = _ from this]
  rfl
end Go.Vx

end
section
set_option linter.unusedVariables false
set_option linter.unusedSimpArgs false
namespace Go.Vx
open Go Go.Proofs Go.RowKit Go.Lib
abbrev RiseD (m : List Edit) : Prop := Rise (fun e : Edit => e.1) m
def del (e : Entry) : Edit := (e.1, 0, true, ())
def put (e : Entry) : Edit := (e.1, e.2.1, false, ())
noncomputable def diffL : List Entry → List Entry → List Edit
  | [], [] => []
  | x :: a, [] => del x :: diffL a []
  | [], y :: b => put y :: diffL [] b
  | x :: a, y :: b => cond (Tr (slt x.1 y.1)) (del x :: diffL a (y :: b)) (cond (Tr (slt y.1 x.1)) (put y :: diffL (x :: a) b) (cond (Tr (x.2.1 = y.2.1)) (diffL a b) (put y :: diffL a b)))
  termination_by a b => a.length + b.length
theorem rise_cons {α : Type} {key : α → ByteArray} {x : α} {l : List α} : Rise key (x :: l) ↔ (∀ y ∈ l, slt (key x) (key y)) ∧ Rise key l := List.pairwise_cons
theorem entry_ext {x y : Entry} (h1 : x.1 = y.1) (h2 : x.2.1 = y.2.1) : x = y := by
  obtain ⟨a, b, c⟩ := x
  obtain ⟨a', b', c'⟩ := y
  simp only at h1 h2
  rw [h1, h2]
theorem slt_ne {a b : ByteArray} (h : slt a b) : a ≠ b := fun e => by subst e; exact slt_irrefl _ h
theorem mem_diff : ∀ (n : Nat) {a b : List Entry}, a.length + b.length ≤ n → RiseE a → RiseE b → ∀ e, e ∈ diffL a b ↔ (∃ x ∈ a, e = del x ∧ ∀ y ∈ b, y.1 ≠ x.1) ∨ (∃ y ∈ b, e = put y ∧ y ∉ a) := by
  intro n
  induction n with
  | zero =>
    intro a b hn ha hb e
    obtain rfl : a = [] := List.eq_nil_of_length_eq_zero (by omega)
    obtain rfl : b = [] := List.eq_nil_of_length_eq_zero (by omega)
    simp [diffL]
  | succ n ih =>
    intro a b hn ha hb e
    cases a with
    | nil => cases b with
      | nil => simp [diffL]
      | cons y b =>
        obtain ⟨hb1, hb2⟩ := rise_cons.1 hb
        rw [diffL, List.mem_cons, ih (by simp at hn ⊢; omega) ha hb2]
        simp
    | cons x a =>
      obtain ⟨ha1, ha2⟩ := rise_cons.1 ha
      cases b with
      | nil =>
        rw [diffL, List.mem_cons, ih (by simp at hn ⊢; omega) ha2 hb]
        simp
      | cons y b =>
        obtain ⟨hb1, hb2⟩ := rise_cons.1 hb
        have hlen : a.length + 1 + (b.length + 1) ≤ n + 1 := hn
        rw [diffL]
        by_cases h1 : slt x.1 y.1
        · rw [Tr_true h1]
          simp only [cond_true]
          rw [List.mem_cons, ih (by simp; omega) ha2 hb]
          have hxy : ∀ y' ∈ y :: b, slt x.1 y'.1 := fun y' hy' => by
            cases hy' with
            | head => exact h1
            | tail _ hy' => exact slt_trans h1 (hb1 y' hy')
          constructor
          · rintro (rfl | ⟨x', hx', rfl, hh⟩ | ⟨y', hy', rfl, hh⟩)
            · exact .inl ⟨x, List.mem_cons_self, rfl, fun y' hy' e => slt_ne (hxy y' hy') e.symm⟩
            · exact .inl ⟨x', List.mem_cons_of_mem _ hx', rfl, hh⟩
            · refine .inr ⟨y', hy', rfl, fun hm => ?_⟩
              cases hm with
              | head => exact slt_irrefl _ (hxy _ hy')
              | tail _ hm => exact hh hm
          · rintro (⟨x', hx', rfl, hh⟩ | ⟨y', hy', rfl, hh⟩)
            · cases hx' with
              | head => exact .inl rfl
              | tail _ hx' => exact .inr (.inl ⟨x', hx', rfl, hh⟩)
            · exact .inr (.inr ⟨y', hy', rfl, fun hm => hh (List.mem_cons_of_mem _ hm)⟩)
        · rw [Tr_false h1]
          simp only [cond_false]
          by_cases h2 : slt y.1 x.1
          · rw [Tr_true h2]
            simp only [cond_true]
            rw [List.mem_cons, ih (by simp; omega) ha hb2]
            have hyx : ∀ x' ∈ x :: a, slt y.1 x'.1 := fun x' hx' => by
              cases hx' with
              | head => exact h2
              | tail _ hx' => exact slt_trans h2 (ha1 x' hx')
            constructor
            · rintro (rfl | ⟨x', hx', rfl, hh⟩ | ⟨y', hy', rfl, hh⟩)
              · exact .inr ⟨y, List.mem_cons_self, rfl, fun hm => slt_irrefl _ (hyx _ hm)⟩
              · refine .inl ⟨x', hx', rfl, fun y' hy' e => ?_⟩
                cases hy' with
                | head => exact slt_ne (hyx x' hx') e
                | tail _ hy' => exact hh y' hy' e
              · exact .inr ⟨y', List.mem_cons_of_mem _ hy', rfl, hh⟩
            · rintro (⟨x', hx', rfl, hh⟩ | ⟨y', hy', rfl, hh⟩)
              · exact .inr (.inl ⟨x', hx', rfl, fun y' hy' => hh y' (List.mem_cons_of_mem _ hy')⟩)
              · cases hy' with
                | head => exact .inl rfl
                | tail _ hy' => exact .inr (.inr ⟨y', hy', rfl, hh⟩)
          · rw [Tr_false h2]
            simp only [cond_false]
            have hk : x.1 = y.1 := by
              rcases slt_tri x.1 y.1 with q | q | q
              · exact absurd q h1
              · exact q
              · exact absurd q h2
            have hax : ∀ x' ∈ a, slt y.1 x'.1 := fun x' hx' => by rw [← hk]; exact ha1 x' hx'
            by_cases h3 : x.2.1 = y.2.1
            · have hxy : x = y := entry_ext hk h3
              subst hxy
              rw [Tr_true h3]
              simp only [cond_true]
              rw [ih (by omega) ha2 hb2]
              constructor
              · rintro (⟨x', hx', rfl, hh⟩ | ⟨y', hy', rfl, hh⟩)
                · refine .inl ⟨x', List.mem_cons_of_mem _ hx', rfl, fun y' hy' e => ?_⟩
                  cases hy' with
                  | head => exact slt_ne (hax x' hx') e
                  | tail _ hy' => exact hh y' hy' e
                · refine .inr ⟨y', List.mem_cons_of_mem _ hy', rfl, fun hm => ?_⟩
                  cases hm with
                  | head => exact slt_irrefl _ (hb1 _ hy')
                  | tail _ hm => exact hh hm
              · rintro (⟨x', hx', rfl, hh⟩ | ⟨y', hy', rfl, hh⟩)
                · cases hx' with
                  | head => exact absurd rfl (hh x List.mem_cons_self)
                  | tail _ hx' => exact .inl ⟨x', hx', rfl, fun y' hy' => hh y' (List.mem_cons_of_mem _ hy')⟩
                · cases hy' with
                  | head => exact absurd List.mem_cons_self hh
                  | tail _ hy' => exact .inr ⟨y', hy', rfl, fun hm => hh (List.mem_cons_of_mem _ hm)⟩
            · rw [Tr_false h3]
              simp only [cond_false]
              rw [List.mem_cons, ih (by omega) ha2 hb2]
              constructor
              · rintro (rfl | ⟨x', hx', rfl, hh⟩ | ⟨y', hy', rfl, hh⟩)
                · refine .inr ⟨y, List.mem_cons_self, rfl, fun hm => ?_⟩
                  cases hm with
                  | head => exact h3 rfl
                  | tail _ hm => exact slt_irrefl _ (hax _ hm)
                · refine .inl ⟨x', List.mem_cons_of_mem _ hx', rfl, fun y' hy' e => ?_⟩
                  cases hy' with
                  | head => exact slt_ne (hax x' hx') e
                  | tail _ hy' => exact hh y' hy' e
                · refine .inr ⟨y', List.mem_cons_of_mem _ hy', rfl, fun hm => ?_⟩
                  cases hm with
                  | head => exact slt_ne (hb1 _ hy') hk.symm
                  | tail _ hm => exact hh hm
              · rintro (⟨x', hx', rfl, hh⟩ | ⟨y', hy', rfl, hh⟩)
                · cases hx' with
                  | head => exact absurd hk.symm (hh y List.mem_cons_self)
                  | tail _ hx' => exact .inr (.inl ⟨x', hx', rfl, fun y' hy' => hh y' (List.mem_cons_of_mem _ hy')⟩)
                · cases hy' with
                  | head => exact .inl rfl
                  | tail _ hy' => exact .inr (.inr ⟨y', hy', rfl, fun hm => hh (List.mem_cons_of_mem _ hm)⟩)
theorem diff_keys {a b : List Entry} (ha : RiseE a) (hb : RiseE b) {k : ByteArray} (h1 : ∀ x ∈ a, slt k x.1) (h2 : ∀ y ∈ b, slt k y.1) : ∀ e ∈ diffL a b, slt k e.1 := fun e he => by
  rcases (mem_diff _ (Nat.le_refl _) ha hb e).1 he with ⟨x, hx, rfl, _⟩ | ⟨y, hy, rfl, _⟩
  · exact h1 x hx
  · exact h2 y hy
theorem rise_diff : ∀ (n : Nat) {a b : List Entry}, a.length + b.length ≤ n → RiseE a → RiseE b → RiseD (diffL a b) ∧ (diffL a b).length ≤ a.length + b.length := by
  intro n
  induction n with
  | zero =>
    intro a b hn ha hb
    obtain rfl : a = [] := List.eq_nil_of_length_eq_zero (by omega)
    obtain rfl : b = [] := List.eq_nil_of_length_eq_zero (by omega)
    rw [diffL]
    exact ⟨List.Pairwise.nil, Nat.le_refl _⟩
  | succ n ih =>
    intro a b hn ha hb
    cases a with
    | nil => cases b with
      | nil => rw [diffL]; exact ⟨List.Pairwise.nil, Nat.le_refl _⟩
      | cons y b =>
        obtain ⟨hb1, hb2⟩ := rise_cons.1 hb
        have hl : ([] : List Entry).length + (b.length + 1) ≤ n + 1 := hn
        obtain ⟨q1, q2⟩ := ih (by omega) ha hb2
        rw [diffL]
        refine ⟨rise_cons.2 ⟨diff_keys ha hb2 (fun x hx => by cases hx) hb1, q1⟩, ?_⟩
        simp only [List.length_cons] at q2 ⊢
        omega
    | cons x a =>
      obtain ⟨ha1, ha2⟩ := rise_cons.1 ha
      cases b with
      | nil =>
        have hl : a.length + 1 + ([] : List Entry).length ≤ n + 1 := hn
        obtain ⟨q1, q2⟩ := ih (by omega) ha2 hb
        rw [diffL]
        refine ⟨rise_cons.2 ⟨diff_keys ha2 hb ha1 (fun x hx => by cases hx), q1⟩, ?_⟩
        simp only [List.length_cons] at q2 ⊢
        omega
      | cons y b =>
        obtain ⟨hb1, hb2⟩ := rise_cons.1 hb
        have hlen : a.length + 1 + (b.length + 1) ≤ n + 1 := hn
        rw [diffL]
        by_cases h1 : slt x.1 y.1
        · rw [Tr_true h1]
          simp only [cond_true]
          obtain ⟨q1, q2⟩ := ih (a := a) (b := y :: b) (by simp; omega) ha2 hb
          refine ⟨rise_cons.2 ⟨diff_keys ha2 hb ha1 (fun y' hy' => by
            cases hy' with
            | head => exact h1
            | tail _ hy' => exact slt_trans h1 (hb1 y' hy')), q1⟩, ?_⟩
          simp only [List.length_cons] at q2 ⊢
          omega
        · rw [Tr_false h1]
          simp only [cond_false]
          by_cases h2 : slt y.1 x.1
          · rw [Tr_true h2]
            simp only [cond_true]
            obtain ⟨q1, q2⟩ := ih (a := x :: a) (b := b) (by simp; omega) ha hb2
            refine ⟨rise_cons.2 ⟨diff_keys ha hb2 (fun x' hx' => by
              cases hx' with
              | head => exact h2
              | tail _ hx' => exact slt_trans h2 (ha1 x' hx')) hb1, q1⟩, ?_⟩
            simp only [List.length_cons] at q2 ⊢
            omega
          · rw [Tr_false h2]
            simp only [cond_false]
            obtain ⟨q1, q2⟩ := ih (a := a) (b := b) (by omega) ha2 hb2
            have hk : x.1 = y.1 := by
              rcases slt_tri x.1 y.1 with q | q | q
              · exact absurd q h1
              · exact q
              · exact absurd q h2
            cases Tr (x.2.1 = y.2.1) with
            | true =>
              simp only [cond_true, List.length_cons]
              exact ⟨q1, by omega⟩
            | false =>
              simp only [cond_false]
              refine ⟨rise_cons.2 ⟨diff_keys ha2 hb2 (fun x' hx' => by show slt y.1 x'.1; rw [← hk]; exact ha1 x' hx') hb1, q1⟩, ?_⟩
              simp only [List.length_cons]
              omega
end Go.Vx

end
section
set_option linter.unusedVariables false
set_option linter.unusedSimpArgs false
namespace Go.Vx
open Go Go.Proofs Go.RowKit Go.Lib
theorem dx {p : Prop} [Decidable p] (h : p) : decide p = true := decide_eq_true h
theorem dn {p : Prop} [Decidable p] (h : ¬ p) : decide p = false := decide_eq_false h
theorem int_eqf {a b : Int} (h : a ≠ b) : (a == b) = false := by simp [h]
theorem int_eqt {a b : Int} (h : a = b) : (a == b) = true := by simp [h]
theorem spec_l01Diff_eq (a b : List Entry) (ha : a.length ≤ 400000) (hb : b.length ≤ 400000) : spec_l01Diff LP a b = some (diffL a b) := by
  have hLP := LP_ge
  have main : ∀ (n i j fuel : Nat) (s : List Edit), (a.length - i) + (b.length - j) ≤ n → n < fuel → i ≤ a.length → j ≤ b.length → s.length ≤ i + j → spec_l01Diff.l4 LP fuel a b (i : Int) (j : Int) s = some (LE.brk (s ++ diffL (a.drop i) (b.drop j))) := by
    intro n
    induction n with
    | zero =>
      intro i j fuel s h1 h2 h3 h4 h5
      obtain ⟨fuel, rfl⟩ : ∃ q, fuel = q + 1 := ⟨fuel - 1, by omega⟩
      obtain rfl : i = a.length := by omega
      obtain rfl : j = b.length := by omega
      simp only [spec_l01Diff.l4, spec_l01Diff.b4]
      rw [dn (show ¬ (a.length : Int) < (a.length : Int) by omega), dn (show ¬ (b.length : Int) < (b.length : Int) by omega), List.drop_length, List.drop_length, diffL, List.append_nil]
      rfl
    | succ n ih =>
      intro i j fuel s h1 h2 h3 h4 h5
      obtain ⟨fuel, rfl⟩ : ∃ q, fuel = q + 1 := ⟨fuel - 1, by omega⟩
      have hsl : s.length ≤ 4000000 := by omega
      have hb1 : ∀ x : Edit, decide ((s.length + [x].length) * 32 ≤ 140737488355328) = true := fun x => dx (app1 hsl (by decide))
      have hwi : IntKind.i64.wrap ((i : Int) + 1) = ((i + 1 : Nat) : Int) := wrap_id (by omega) (by omega)
      have hwj : IntKind.i64.wrap ((j : Int) + 1) = ((j + 1 : Nat) : Int) := wrap_id (by omega) (by omega)
      simp only [spec_l01Diff.l4, spec_l01Diff.b4]
      by_cases hi : i < a.length
      · have di : decide ((i : Int) < (a.length : Int)) = true := dx (by omega)
        have ei : ((i : Int) == (a.length : Int)) = false := int_eqf (by omega)
        by_cases hj : j < b.length
        · have ej : ((j : Int) == (b.length : Int)) = false := int_eqf (by omega)
          simp only [di, ei, ej, cond_true, cond_false, oget_lt hi, oget_lt hj, hb1, oif_true, hwi, hwj, less_tr, int_ne]
          rw [drop_cons hi, drop_cons hj, diffL]
          cases h : Tr (slt a[i].1 b[j].1) with
          | true =>
            simp only [cond_true]
            refine (ih (i + 1) j fuel _ (by omega) (by omega) (by omega) h4 (by simp; omega)).trans ?_
            rw [List.append_assoc, drop_cons hj]
            rfl
          | false =>
            simp only [cond_false]
            cases h2 : Tr (slt b[j].1 a[i].1) with
            | true =>
              simp only [cond_true]
              refine (ih i (j + 1) fuel _ (by omega) (by omega) h3 (by omega) (by simp; omega)).trans ?_
              rw [List.append_assoc, drop_cons hi]
              rfl
            | false =>
              simp only [cond_false]
              cases h3' : Tr (a[i].2.1 = b[j].2.1) with
              | true =>
                simp only [Bool.not_true, cond_true, cond_false]
                exact ih (i + 1) (j + 1) fuel _ (by omega) (by omega) (by omega) (by omega) (by omega)
              | false =>
                simp only [Bool.not_false, cond_true, cond_false]
                refine (ih (i + 1) (j + 1) fuel _ (by omega) (by omega) (by omega) (by omega) (by simp; omega)).trans ?_
                rw [List.append_assoc]
                rfl
        · obtain rfl : j = b.length := by omega
          have ej : ((b.length : Int) == (b.length : Int)) = true := int_eqt rfl
          simp only [di, ej, cond_true, oget_lt hi, hb1, oif_true, hwi]
          refine (ih (i + 1) b.length fuel _ (by omega) (by omega) (by omega) h4 (by simp; omega)).trans ?_
          rw [drop_cons hi, List.drop_length, diffL, List.append_assoc]
          rfl
      · obtain rfl : i = a.length := by omega
        have di : decide ((a.length : Int) < (a.length : Int)) = false := dn (by omega)
        have ei : ((a.length : Int) == (a.length : Int)) = true := int_eqt rfl
        by_cases hj : j < b.length
        · have dj : decide ((j : Int) < (b.length : Int)) = true := dx (by omega)
          have ej : ((j : Int) == (b.length : Int)) = false := int_eqf (by omega)
          simp only [di, dj, ei, ej, cond_true, cond_false, oget_lt hj, hb1, oif_true, hwj]
          refine (ih a.length (j + 1) fuel _ (by omega) (by omega) h3 (by omega) (by simp; omega)).trans ?_
          rw [drop_cons hj, List.drop_length, diffL, List.append_assoc]
          rfl
        · obtain rfl : j = b.length := by omega
          rw [di, dn (show ¬ (b.length : Int) < (b.length : Int) by omega), List.drop_length, List.drop_length, diffL, List.append_nil]
          rfl
  show obind (spec_l01Diff.l4 LP LP a b 0 0 []) _ = _
  rw [show spec_l01Diff.l4 LP LP a b 0 0 [] = _ from main (a.length + b.length) 0 0 LP [] (by omega) (by omega) (Nat.zero_le _) (Nat.zero_le _) (Nat.zero_le _)]
  rfl

noncomputable def putsOf (a b : List Entry) : List Edit := (b.filter fun e => !Tr (e ∈ a)).map put
noncomputable def delsOf (a b : List Entry) : List Edit := (a.filter fun e => !Tr (∃ y ∈ b, y.1 = e.1)).map del
theorem find_same {a : List Entry} {e : Entry} {p : Nat} (hr : RiseE a) (hp : Part a e.1 p) (h : p < a.length) (hk : a[p].1 = e.1) : a[p].2.1 = e.2.1 ↔ e ∈ a := by
  constructor
  · intro hv
    rw [← entry_ext hk hv]
    exact List.getElem_mem h
  · intro he
    obtain ⟨i, hi, hie⟩ := List.getElem_of_mem he
    by_cases hq : i = p
    · subst hq; rw [hie]
    · exfalso
      rcases Nat.lt_or_gt_of_ne hq with hlt | hgt
      · have := rise_get hr hi h hlt
        rw [hie, hk] at this
        exact slt_irrefl _ this
      · have := rise_get hr h hi hgt
        rw [hie, hk] at this
        exact slt_irrefl _ this
theorem sorted_eq {L D : List Edit} (hD : RiseD D) (hL : List.Perm L D) : sortD (t := TEdit) (cmpBy fun z : Edit => z.1) L = D := by
  have hps := Sort.pdq_sorts (ltOf (cmpBy fun z : Edit => z.1)) (swo_by _) L.toArray 0 L.length (Lib.bitLen L.length) true true (Nat.zero_le _) (by simp) (Or.inl rfl)
  obtain ⟨d', hd⟩ : ∃ d', d' = Sort.pdq (ltOf (cmpBy fun z : Edit => z.1)) L.toArray 0 L.length (Lib.bitLen L.length) true true := ⟨_, rfl⟩
  have hsd : sortD (t := TEdit) (cmpBy fun z : Edit => z.1) L = d'.toList := by rw [hd]; rfl
  rw [← hd] at hps
  rw [hsd]
  clear hsd hd
  obtain ⟨⟨hsz, _, hperm⟩, hsort⟩ := hps
  have hsz' : d'.size = L.length := by rw [hsz]; simp
  have hperm' : List.Perm d'.toList L := by
    have e1 : d'.extract 0 L.length = d' := by
      rw [← hsz']
      exact Array.extract_size
    have e2 : L.toArray.extract 0 L.length = L.toArray := by simp
    rw [e1, e2] at hperm
    simpa using hperm
  refine List.Perm.eq_of_pairwise (le := fun x y => ¬ slt y.1 x.1) (fun x y hx hy h1 h2 => ?_) ?_ ?_ (hperm'.trans hL)
  · have hx' : x ∈ D := (hperm'.trans hL).subset hx
    have hk : x.1 = y.1 := by
      rcases slt_tri x.1 y.1 with q | q | q
      · exact absurd q h2
      · exact q
      · exact absurd q h1
    obtain ⟨i, hi, rfl⟩ := List.getElem_of_mem hx'
    obtain ⟨j, hj, rfl⟩ := List.getElem_of_mem hy
    by_cases hij : i = j
    · subst hij; rfl
    · exfalso
      rcases Nat.lt_or_gt_of_ne hij with hlt | hgt
      · exact slt_ne (List.pairwise_iff_getElem.1 hD i j hi hj hlt) hk
      · exact slt_ne (List.pairwise_iff_getElem.1 hD j i hj hi hgt) hk.symm
  · rw [List.pairwise_iff_getElem]
    intro i j hi hj hij
    have hi' : i < d'.size := by simpa using hi
    have hj' : j < d'.size := by simpa using hj
    have := hsort i j (Nat.zero_le _) hij (by omega)
    rw [getElem!_pos _ i hi', getElem!_pos _ j hj'] at this
    rw [Array.getElem_toList, Array.getElem_toList]
    intro w
    have hlt : Lib.compareBytes _ _ < 0 := (cmp_slt _ _).2 w
    exact of_decide_eq_false this hlt
  · exact List.Pairwise.imp (fun h => slt_asymm h) hD
theorem diff_perm {a b : List Entry} (ha : RiseE a) (hb : RiseE b) : List.Perm (putsOf a b ++ delsOf a b) (diffL a b) := by
  have hD := (rise_diff _ (Nat.le_refl _) ha hb).1
  have nd : ∀ {l : List Edit}, l.Pairwise (fun x y => x.1 ≠ y.1) → l.Nodup := fun h => List.Pairwise.imp (fun hne e => hne (by rw [e])) h
  refine (List.perm_ext_iff_of_nodup (nd ?_) (nd (List.Pairwise.imp (fun h => slt_ne h) hD))).2 fun e => ?_
  · rw [List.pairwise_append]
    refine ⟨?_, ?_, ?_⟩
    · unfold putsOf
      rw [List.pairwise_map]
      exact List.Pairwise.imp (fun h => slt_ne h) (List.Pairwise.filter _ hb)
    · unfold delsOf
      rw [List.pairwise_map]
      exact List.Pairwise.imp (fun h => slt_ne h) (List.Pairwise.filter _ ha)
    · intro x hx y hy
      obtain ⟨x', hx', rfl⟩ := List.mem_map.1 hx
      obtain ⟨y', hy', rfl⟩ := List.mem_map.1 hy
      have h1 := (List.mem_filter.1 hx').1
      have h2 := (List.mem_filter.1 hy').2
      intro hk
      rw [Tr_true ⟨x', h1, hk⟩] at h2
      cases h2
  · rw [mem_diff _ (Nat.le_refl _) ha hb, List.mem_append]
    unfold putsOf delsOf
    simp only [List.mem_map, List.mem_filter]
    constructor
    · rintro (⟨y, ⟨hy, hn⟩, rfl⟩ | ⟨x, ⟨hx, hn⟩, rfl⟩)
      · refine .inr ⟨y, hy, rfl, fun hm => ?_⟩
        rw [Tr_true hm] at hn
        cases hn
      · refine .inl ⟨x, hx, rfl, fun y hy e => ?_⟩
        rw [Tr_true ⟨y, hy, e⟩] at hn
        cases hn
    · rintro (⟨x, hx, rfl, hn⟩ | ⟨y, hy, rfl, hn⟩)
      · exact .inr ⟨x, ⟨hx, by rw [Tr_false (fun ⟨y, hy, e⟩ => hn y hy e)]; rfl⟩, rfl⟩
      · exact .inl ⟨y, ⟨hy, by rw [Tr_false hn]; rfl⟩, rfl⟩
theorem impl_diff_eq (a b : List Entry) (hla : a.length ≤ 400000) (hlb : b.length ≤ 400000) (ha : RiseE a) (hb : RiseE b) : impl_diff LP a b = some (diffL a b) := by
  have hLP := LP_ge
  have loop1 := loop_ind (fun q i s => impl_diff.l3 LP q a b b (b.length : Int) i s) b.length (fun i s => s.length ≤ i) (fun i s => LE.brk (a, b, s ++ ((b.drop i).filter fun e => !Tr (e ∈ a)).map put))
    (fun q s hs => by
      simp only [impl_diff.l3, impl_diff.b3]
      rw [dn (by omega), List.drop_length]
      simp)
    (fun q i s hi hs ih => by
      have hsl : s.length ≤ 4000000 := by omega
      have hb1 : ∀ x : Edit, decide ((s.length + [x].length) * 32 ≤ 140737488355328) = true := fun x => dx (app1 hsl (by decide))
      have hw : IntKind.i64.wrap ((i : Int) + 1) = ((i + 1 : Nat) : Int) := wrap_id (by omega) (by omega)
      have hlt : decide ((i : Int) < (b.length : Int)) = true := dx (by omega)
      obtain ⟨p, hp, he⟩ := impl_find_eq a b[i].1 (by omega) ha
      simp only [impl_diff.l3, impl_diff.b3]
      simp only [hlt, cond_true, oget_lt hi, he, obind_some', hb1, oif_true, hw]
      rw [drop_cons hi, filter_cons']
      by_cases hf : FoundAt a b[i].1 p
      · obtain ⟨hpl, hk⟩ := hf
        rw [Tr_true ⟨hpl, hk⟩]
        simp only [Bool.not_true, cond_false]
        rw [oget_lt hpl, int_ne, Tr_congr (find_same ha hp hpl hk)]
        cases h : Tr (b[i] ∈ a) with
        | true =>
          simp only [Bool.not_true, cond_false]
          exact ih s (by omega)
        | false =>
          simp only [Bool.not_false, cond_true]
          refine (ih _ (by simp; omega)).trans ?_
          rw [List.append_assoc]
          rfl
      · rw [Tr_false hf, Tr_false (p := b[i] ∈ a) (fun hm => hf ((found_iff ha hp).2 ⟨_, hm, rfl⟩))]
        simp only [Bool.not_false, cond_true]
        refine (ih _ (by simp; omega)).trans ?_
        rw [List.append_assoc]
        rfl) LP 0 [] (Nat.zero_le _) (by omega) (by simp)
  have loop2 : ∀ s0 : List Edit, s0.length ≤ 400000 → impl_diff.l10 LP LP b a (a.length : Int) 0 s0 = some (LE.brk (s0 ++ delsOf a b)) := fun s0 h0 => by
    have := loop_ind (fun q i s => impl_diff.l10 LP q b a (a.length : Int) i s) a.length (fun i s => s.length ≤ s0.length + i) (fun i s => LE.brk (s ++ ((a.drop i).filter fun e => !Tr (∃ y ∈ b, y.1 = e.1)).map del))
      (fun q s hs => by
        simp only [impl_diff.l10, impl_diff.b10]
        rw [dn (by omega), List.drop_length]
        simp)
      (fun q i s hi hs ih => by
        have hsl : s.length ≤ 4000000 := by omega
        have hb1 : ∀ x : Edit, decide ((s.length + [x].length) * 32 ≤ 140737488355328) = true := fun x => dx (app1 hsl (by decide))
        have hw : IntKind.i64.wrap ((i : Int) + 1) = ((i + 1 : Nat) : Int) := wrap_id (by omega) (by omega)
        have hlt : decide ((i : Int) < (a.length : Int)) = true := dx (by omega)
        obtain ⟨p, hp, he⟩ := impl_find_eq b a[i].1 (by omega) hb
        simp only [impl_diff.l10, impl_diff.b10]
        simp only [hlt, cond_true, oget_lt hi, he, obind_some', hb1, oif_true, hw]
        rw [drop_cons hi, filter_cons', Tr_congr (found_iff hb hp)]
        cases h : Tr (∃ y ∈ b, y.1 = a[i].1) with
        | true =>
          simp only [Bool.not_true, cond_false]
          exact ih s (by omega)
        | false =>
          simp only [Bool.not_false, cond_true]
          refine (ih _ (by simp; omega)).trans ?_
          rw [List.append_assoc]
          rfl) LP 0 s0 (Nat.zero_le _) (by omega) (by simp)
    exact this
  have hl1 : (putsOf a b).length ≤ b.length := by unfold putsOf; rw [List.length_map]; exact List.length_filter_le _ _
  have hperm := diff_perm ha hb
  have hsort := sorted_eq (rise_diff _ (Nat.le_refl _) ha hb).1 hperm
  have hdl := (rise_diff _ (Nat.le_refl _) ha hb).2
  have hlen := hperm.length_eq
  show obind (impl_diff.l3 LP LP a b b (b.length : Int) 0 []) _ = _
  rw [show impl_diff.l3 LP LP a b b (b.length : Int) 0 [] = _ from loop1, obind_some', leF_brk]
  simp only [impl_diff.a3]
  show obind (impl_diff.l10 LP LP b a (a.length : Int) 0 ([] ++ putsOf a b)) _ = _
  rw [List.nil_append, loop2 _ (by omega), obind_some', leF_brk]
  simp only [impl_diff.a10]
  unfold slices_SortFunc_Edit sortF
  rw [dx (show (putsOf a b ++ delsOf a b).length < 4611686018427387904 by omega), oif_true, obind_some', hsort]
  rw [show Nat.beq (diffL a b).length (putsOf a b ++ delsOf a b).length = true by rw [hlen]; exact Nat.beq_refl _]
  rfl
end Go.Vx

end
section
set_option linter.unusedVariables false
set_option linter.unusedSimpArgs false
namespace Go.Vx
open Go Go.Proofs Go.RowKit Go.Lib
noncomputable def findE (l : List Edit) (k : ByteArray) : Option Edit := l.find? fun x => Tr (x.1 = k)
noncomputable def todoL (left right : List Edit) : List Edit := right.filter fun e => (findE left e.1).isNone
noncomputable def clashB (left : List Edit) (e : Edit) : Bool := match findE left e.1 with | some x => !Tr (x = e) | none => false
noncomputable def clashL (left right : List Edit) : List ByteArray := (right.filter (clashB left)).map fun e => e.1
noncomputable def toldL (m : List Entry) (c : List ByteArray) : List Entry × List ByteArray × Int := cond (decide (c.length > 0)) ([], c, 11) (cond (decide (m.length > 12)) ([], [], 7) (m, [], 0))
noncomputable def mergeM (base a b : List Entry) : List Entry := applyL a (todoL (diffL base a) (diffL base b))
noncomputable def mergeC (base a b : List Entry) : List ByteArray := clashL (diffL base a) (diffL base b)
noncomputable def mergeL (base a b : List Entry) : List Entry × List ByteArray × Int := toldL (mergeM base a b) (mergeC base a b)
theorem edit_ext {x y : Edit} (h1 : x.1 = y.1) (h2 : x.2.1 = y.2.1) (h3 : x.2.2.1 = y.2.2.1) : x = y := by
  obtain ⟨a, b, c, d⟩ := x
  obtain ⟨a', b', c', d'⟩ := y
  simp only at h1 h2 h3
  rw [h1, h2, h3]
theorem edit_beq (x y : Edit) : ((x.1 == y.1) && ((x.2.1 == y.2.1) && (x.2.2.1 == y.2.2.1))) = Tr (x = y) := by
  rw [str_beq, int_tr]
  have hb : (x.2.2.1 == y.2.2.1) = Tr (x.2.2.1 = y.2.2.1) := Tr_eq (by simp)
  rw [hb, Tr_and, Tr_and, Tr_congr]
  exact ⟨fun ⟨h1, h2, h3⟩ => edit_ext h1 h2 h3, fun h => by rw [h]; exact ⟨rfl, rfl, rfl⟩⟩
theorem find_cons (x : Edit) (l : List Edit) (k : ByteArray) : findE (x :: l) k = cond (Tr (x.1 = k)) (some x) (findE l k) := by
  unfold findE
  rw [List.find?_cons]
  cases Tr (x.1 = k) <;> rfl
def zeroE : Edit := ((⟨#[]⟩ : ByteArray), (0:Int), false, ())
theorem spec_l02Find_eq (l : List Edit) (k : ByteArray) (hl : l.length ≤ 1048576) : spec_l02Find LP l k = some (match findE l k with | some x => (x, true) | none => (zeroE, false)) := by
  have hLP := LP_ge
  have := loop_ind (fun q i (s : ByteArray × Int × Bool) => spec_l02Find.l2 LP q l k i s.1 s.2.1 s.2.2) l.length (fun i s => s = ((⟨#[]⟩ : ByteArray), (0:Int), false)) (fun i s => match findE (l.drop i) k with | some x => LE.ret (true, x.1, x.2.1, x.2.2.1) | none => LE.brk s)
    (fun q s hs => by
      simp only [spec_l02Find.l2, spec_l02Find.b2]
      rw [dn (by omega), List.drop_length]
      rfl)
    (fun q i s hi hs ih => by
      simp only [spec_l02Find.l2, spec_l02Find.b2]
      simp only [dx (show (i : Int) < (l.length : Int) by omega), cond_true, oget_lt hi, seq_tr, wrap_id (x := (i : Int) + 1) (by omega) (by omega)]
      rw [drop_cons hi, find_cons]
      cases Tr (l[i].1 = k) with
      | true => rfl
      | false => exact ih s hs) LP 0 ((⟨#[]⟩ : ByteArray), (0:Int), false) (Nat.zero_le _) (by omega) rfl
  show obind (spec_l02Find.l2 LP LP l k 0 _ _ _) _ = _
  rw [show spec_l02Find.l2 LP LP l k 0 (⟨#[]⟩ : ByteArray) (0:Int) false = _ from this, List.drop_zero]
  cases findE l k with
  | none => rfl
  | some x => rfl
theorem spec_l02Told_eq (m : List Entry) (c : List ByteArray) : spec_l02Told m c = some (toldL m c) := by
  unfold spec_l02Told toldL
  have e1 : decide ((c.length : Int) > 0) = decide (c.length > 0) := by rw [Bool.eq_iff_iff]; simp
  have e2 : decide ((m.length : Int) > 12) = decide (m.length > 12) := by rw [Bool.eq_iff_iff]; simp; omega
  rw [e1, e2]
  cases decide (c.length > 0) with
  | true => rfl
  | false => cases decide (m.length > 12) <;> rfl
theorem spec_l02Merge_eq (base a b : List Entry) (h0 : base.length ≤ 100000) (h1 : a.length ≤ 100000) (h2 : b.length ≤ 100000) (r0 : RiseE base) (r1 : RiseE a) (r2 : RiseE b) : spec_l02Merge LP base a b = some (mergeM base a b, mergeC base a b) := by
  have hLP := LP_ge
  obtain ⟨_, hl⟩ := rise_diff _ (Nat.le_refl _) r0 r1
  obtain ⟨_, hr⟩ := rise_diff _ (Nat.le_refl _) r0 r2
  obtain ⟨left, hleft⟩ : ∃ l, l = diffL base a := ⟨_, rfl⟩
  obtain ⟨right, hright⟩ : ∃ l, l = diffL base b := ⟨_, rfl⟩
  rw [← hleft] at hl
  rw [← hright] at hr
  have loop := loop_ind (fun q i (s : List ByteArray × List Edit) => spec_l02Merge.l6 LP q a left right i s.1 s.2) right.length (fun i s => s.1.length ≤ i ∧ s.2.length ≤ i) (fun i s => LE.brk (a, s.1 ++ clashL left (right.drop i), s.2 ++ todoL left (right.drop i)))
    (fun q s hs => by
      simp only [spec_l02Merge.l6, spec_l02Merge.b6]
      rw [dn (by omega), List.drop_length]
      simp [clashL, todoL])
    (fun q i s hi hs ih => by
      obtain ⟨c, t⟩ := s
      have hc : c.length ≤ i := hs.1
      have ht : t.length ≤ i := hs.2
      have hcl : c.length ≤ 4000000 := by omega
      have htl : t.length ≤ 4000000 := by omega
      have b1 : ∀ x : Edit, decide ((t.length + [x].length) * 32 ≤ 140737488355328) = true := fun x => dx (app1 htl (by decide))
      have b2 : ∀ x : ByteArray, decide ((c.length + [x].length) * 16 ≤ 140737488355328) = true := fun x => dx (app1 hcl (by decide))
      have hw : IntKind.i64.wrap ((i : Int) + 1) = ((i + 1 : Nat) : Int) := wrap_id (by omega) (by omega)
      have hlt : decide ((i : Int) < (right.length : Int)) = true := dx (by omega)
      simp only [spec_l02Merge.l6, spec_l02Merge.b6]
      simp only [hlt, cond_true, oget_lt hi, hw, b1, b2, oif_true]
      rw [spec_l02Find_eq _ _ (by omega), obind_some', drop_cons hi]
      unfold clashL todoL
      rw [filter_cons', filter_cons']
      have hcb : clashB left right[i] = match findE left right[i].1 with | some x => !Tr (x = right[i]) | none => false := rfl
      rw [hcb]
      cases hf : findE left right[i].1 with
      | none =>
        simp only [Bool.not_false, cond_true, cond_false, Option.isNone_none]
        refine (ih (c, t ++ [right[i]]) ⟨by show c.length ≤ _; omega, by show (t ++ [right[i]]).length ≤ _; simp; omega⟩).trans ?_
        show some (LE.brk (a, c ++ clashL left (right.drop (i + 1)), t ++ [right[i]] ++ todoL left (right.drop (i + 1)))) = _
        rw [List.append_assoc]
        rfl
      | some x =>
        simp only [Bool.not_true, cond_false, Option.isNone_some]
        rw [edit_beq]
        cases hx : Tr (x = right[i]) with
        | true =>
          simp only [Bool.not_true, cond_false]
          exact ih (c, t) ⟨by show c.length ≤ _; omega, by show t.length ≤ _; omega⟩
        | false =>
          simp only [Bool.not_false, cond_true]
          refine (ih (c ++ [right[i].1], t) ⟨by show (c ++ [right[i].1]).length ≤ _; simp; omega, by show t.length ≤ _; omega⟩).trans ?_
          show some (LE.brk (a, c ++ [right[i].1] ++ clashL left (right.drop (i + 1)), t ++ todoL left (right.drop (i + 1)))) = _
          rw [List.append_assoc]
          rfl) LP 0 ([], []) (Nat.zero_le _) (by omega) ⟨by simp, by simp⟩
  have htodo : (todoL left right).length ≤ right.length := List.length_filter_le _ _
  unfold spec_l02Merge spec_l02Merge.e
  rw [spec_l01Diff_eq _ _ (by omega) (by omega), obind_some', spec_l01Diff_eq _ _ (by omega) (by omega), obind_some', ← hleft, ← hright]
  show obind (spec_l02Merge.l6 LP LP a left right 0 [] []) _ = _
  rw [show spec_l02Merge.l6 LP LP a left right 0 [] [] = _ from loop, obind_some', leF_brk]
  simp only [spec_l02Merge.a6, List.nil_append, List.drop_zero]
  rw [spec_l01Apply_eq _ _ (by omega) (by omega), obind_some', hleft, hright]
  rfl

def keyed (l : List Edit) : List (ByteArray × Edit) := l.map fun e => (e.1, e)
theorem get_keyed (k : ByteArray) : ∀ l : List Edit, mapGet (keyed l) k = findE l k
  | [] => rfl
  | x :: l => by
    rw [find_cons, ← get_keyed k l]
    show cond (k == x.1) (some x) (mapGet (keyed l) k) = _
    rw [str_beq, Tr_congr (q := x.1 = k) ⟨fun h => h.symm, fun h => h.symm⟩]
theorem put_keyed (e : Edit) : ∀ l : List Edit, (∀ x ∈ l, x.1 ≠ e.1) → mapPut (keyed l) e.1 e = keyed (l ++ [e])
  | [], _ => rfl
  | x :: l, h => by
    show cond (e.1 == x.1) _ ((x.1, x) :: mapPut (keyed l) e.1 e) = _
    rw [str_beq, Tr_false (fun q => h x List.mem_cons_self q.symm), put_keyed e l (fun y hy => h y (List.mem_cons_of_mem _ hy))]
    rfl
theorem impl_limited_eq (m : List Entry) : impl_limited m = some (cond (decide (m.length > 12)) ([], 7) (m, 0)) := by
  unfold impl_limited
  have e2 : decide ((m.length : Int) > 12) = decide (m.length > 12) := by rw [Bool.eq_iff_iff]; simp; omega
  rw [e2]
  cases decide (m.length > 12) <;> rfl
theorem impl_merge_eq (base a b : List Entry) (h0 : base.length ≤ 100000) (h1 : a.length ≤ 100000) (h2 : b.length ≤ 100000) (r0 : RiseE base) (r1 : RiseE a) (r2 : RiseE b) : impl_merge LP base a b = some (mergeL base a b) := by
  have hLP := LP_ge
  obtain ⟨dl, hl⟩ := rise_diff _ (Nat.le_refl _) r0 r1
  obtain ⟨_, hr⟩ := rise_diff _ (Nat.le_refl _) r0 r2
  obtain ⟨left, hleft⟩ : ∃ l, l = diffL base a := ⟨_, rfl⟩
  obtain ⟨right, hright⟩ : ∃ l, l = diffL base b := ⟨_, rfl⟩
  rw [← hleft] at hl dl
  rw [← hright] at hr
  have loop1 := loop_ind (fun q i s => impl_merge.l3 LP q base a b left (left.length : Int) i s) left.length (fun i s => s = keyed (left.take i)) (fun i s => LE.brk (base, a, b, keyed left))
    (fun q s hs => by
      simp only [impl_merge.l3, impl_merge.b3]
      rw [dn (by omega), hs, List.take_length]
      rfl)
    (fun q i s hi hs ih => by
      simp only [impl_merge.l3, impl_merge.b3]
      simp only [dx (show (i : Int) < (left.length : Int) by omega), cond_true, oget_lt hi, wrap_id (x := (i : Int) + 1) (by omega) (by omega)]
      refine ih _ ?_
      rw [hs]
      show mapPut (keyed (left.take i)) left[i].1 left[i] = _
      rw [put_keyed _ _ (fun x hx e => ?_), List.take_add_one, List.getElem?_eq_getElem hi]
      · rfl
      · obtain ⟨j, hj, rfl⟩ := List.getElem_of_mem hx
        rw [List.length_take] at hj
        rw [List.getElem_take] at e
        exact slt_ne (List.pairwise_iff_getElem.1 dl j i (by omega) hi (by omega)) e) LP 0 [] (Nat.zero_le _) (by omega) rfl
  have loop2 := loop_ind (fun q i (s : List Edit × List ByteArray) => impl_merge.l10 LP q a right (right.length : Int) i (keyed left) s.1 s.2) right.length (fun i s => s.1.length ≤ i ∧ s.2.length ≤ i) (fun i s => LE.brk (a, s.1 ++ todoL left (right.drop i), s.2 ++ clashL left (right.drop i)))
    (fun q s hs => by
      simp only [impl_merge.l10, impl_merge.b10]
      rw [dn (by omega), List.drop_length]
      simp [clashL, todoL])
    (fun q i s hi hs ih => by
      obtain ⟨t, c⟩ := s
      have ht : t.length ≤ i := hs.1
      have hc : c.length ≤ i := hs.2
      have hcl : c.length ≤ 4000000 := by omega
      have htl : t.length ≤ 4000000 := by omega
      have b1 : ∀ x : Edit, decide ((t.length + [x].length) * 32 ≤ 140737488355328) = true := fun x => dx (app1 htl (by decide))
      have b2 : ∀ x : ByteArray, decide ((c.length + [x].length) * 16 ≤ 140737488355328) = true := fun x => dx (app1 hcl (by decide))
      have hw : IntKind.i64.wrap ((i : Int) + 1) = ((i + 1 : Nat) : Int) := wrap_id (by omega) (by omega)
      have hlt : decide ((i : Int) < (right.length : Int)) = true := dx (by omega)
      simp only [impl_merge.l10, impl_merge.b10]
      simp only [hlt, cond_true, oget_lt hi, hw, b1, b2, oif_true]
      rw [get_keyed, drop_cons hi]
      unfold clashL todoL
      rw [filter_cons', filter_cons']
      have hcb : clashB left right[i] = match findE left right[i].1 with | some x => !Tr (x = right[i]) | none => false := rfl
      rw [hcb]
      cases hf : findE left right[i].1 with
      | none =>
        simp only [Option.isSome_none, Bool.not_false, cond_true, cond_false, Option.isNone_none]
        refine (ih (t ++ [right[i]], c) ⟨by show (t ++ [right[i]]).length ≤ _; simp; omega, by show c.length ≤ _; omega⟩).trans ?_
        show some (LE.brk (a, t ++ [right[i]] ++ todoL left (right.drop (i + 1)), c ++ clashL left (right.drop (i + 1)))) = _
        rw [List.append_assoc]
        rfl
      | some x =>
        simp only [Option.isSome_some, Bool.not_true, cond_false, Option.isNone_some, Option.getD_some]
        rw [edit_beq]
        cases hx : Tr (x = right[i]) with
        | true =>
          simp only [Bool.not_true, cond_false]
          exact ih (t, c) ⟨by show t.length ≤ _; omega, by show c.length ≤ _; omega⟩
        | false =>
          simp only [Bool.not_false, cond_true]
          refine (ih (t, c ++ [right[i].1]) ⟨by show t.length ≤ _; omega, by show (c ++ [right[i].1]).length ≤ _; simp; omega⟩).trans ?_
          show some (LE.brk (a, t ++ todoL left (right.drop (i + 1)), c ++ [right[i].1] ++ clashL left (right.drop (i + 1)))) = _
          rw [List.append_assoc]
          rfl) LP 0 ([], []) (Nat.zero_le _) (by omega) ⟨by simp, by simp⟩
  have htodo : (todoL left right).length ≤ right.length := List.length_filter_le _ _
  unfold impl_merge impl_merge.e
  rw [impl_diff_eq _ _ (by omega) (by omega) r0 r1, obind_some', ← hleft]
  show obind (impl_merge.l3 LP LP base a b left (left.length : Int) 0 []) _ = _
  rw [show impl_merge.l3 LP LP base a b left (left.length : Int) 0 [] = _ from loop1, obind_some', leF_brk]
  simp only [impl_merge.a3]
  rw [impl_diff_eq _ _ (by omega) (by omega) r0 r2, obind_some', ← hright]
  show obind (impl_merge.l10 LP LP a right (right.length : Int) 0 (keyed left) [] []) _ = _
  rw [show impl_merge.l10 LP LP a right (right.length : Int) 0 (keyed left) [] [] = _ from loop2, obind_some', leF_brk]
  simp only [impl_merge.a10, List.nil_append, List.drop_zero]
  have e1 : decide (((clashL left right).length : Int) > 0) = decide ((clashL left right).length > 0) := by rw [Bool.eq_iff_iff]; simp
  rw [e1, impl_edited_eq _ _ (by omega) (by omega) r1, obind_some', impl_limited_eq, obind_some']
  unfold mergeL mergeM mergeC toldL
  rw [← hleft, ← hright]
  cases decide ((clashL left right).length > 0) with
  | true => rfl
  | false =>
    simp only [cond_false]
    cases decide ((applyL a (todoL left right)).length > 12) <;> rfl
end Go.Vx

end
section
set_option linter.unusedVariables false
set_option linter.unusedSimpArgs false
namespace Go.Vx
open Go Go.Proofs Go.RowKit Go.Lib
def FirstAt (l : List Ref) (n : ByteArray) (r : Int) : Prop := (∃ (j : Nat) (h : j < l.length), r = (j : Int) ∧ l[j].1 = n ∧ ∀ (i : Nat) (hi : i < j), (l[i]'(by omega)).1 ≠ n) ∨ (r = -1 ∧ ∀ x ∈ l, x.1 ≠ n)
theorem first_uniq {l : List Ref} {n : ByteArray} {r q : Int} (h1 : FirstAt l n r) (h2 : FirstAt l n q) : r = q := by
  rcases h1 with ⟨j, hj, rfl, e1, f1⟩ | ⟨rfl, n1⟩
  · rcases h2 with ⟨k, hk, rfl, e2, f2⟩ | ⟨rfl, n2⟩
    · have : j = k := by
        rcases Nat.lt_trichotomy j k with h | h | h
        · exact absurd e1 (f2 j h)
        · exact h
        · exact absurd e2 (f1 k h)
      rw [this]
    · exact absurd e1 (n2 _ (List.getElem_mem hj))
  · rcases h2 with ⟨k, hk, rfl, e2, f2⟩ | ⟨rfl, n2⟩
    · exact absurd e2 (n1 _ (List.getElem_mem hk))
    · rfl
theorem spec_l04At_first (l : List Ref) (n : ByteArray) (hl : l.length ≤ 1048576) : ∃ r, spec_l04At LP l n = some r ∧ FirstAt l n r := by
  have hLP := LP_ge
  have hloop := loop_find (fun k i => spec_l04At.l2 LP k l n i) l.length (fun i => ∃ h : i < l.length, l[i].1 = n) (fun i => (i : Int)) ()
    (fun k => by
      simp only [spec_l04At.l2, spec_l04At.b2]
      rw [decide_eq_false (by omega)]
      rfl) (fun k i hi => by
      simp only [spec_l04At.l2, spec_l04At.b2]
      simp (disch := omega) only [decide_eq_true, cond_true, oget_lt hi, wrap_id, seq_tr]
      refine cond_tr (fun q => ?_) (fun q => ?_)
      · rw [Tr_true ⟨hi, q⟩]; rfl
      · rw [Tr_false (fun w => q w.2)]; rfl) LP 0 (Nat.zero_le _) (by omega)
  rcases hloop with ⟨j, _, hj, ⟨_, hp⟩, hf, he⟩ | ⟨hn, he⟩
  · refine ⟨(j : Int), ?_, .inl ⟨j, hj, rfl, hp, fun i hi e => hf i (Nat.zero_le _) hi ⟨by omega, e⟩⟩⟩
    show obind (spec_l04At.l2 LP LP l n 0) _ = _
    rw [show spec_l04At.l2 LP LP l n 0 = _ from he]
    rfl
  · refine ⟨-1, ?_, .inr ⟨rfl, fun x hx e => ?_⟩⟩
    · show obind (spec_l04At.l2 LP LP l n 0) _ = _
      rw [show spec_l04At.l2 LP LP l n 0 = _ from he]
      rfl
    · obtain ⟨j, hj, rfl⟩ := List.getElem_of_mem hx
      exact hn j (Nat.zero_le _) hj ⟨hj, e⟩
theorem impl_place_first (l : List Ref) (n : ByteArray) (hl : l.length ≤ 1048576) : ∃ r, impl_place LP l n = some r ∧ FirstAt l n r := by
  unfold impl_place
  rcases slices_IndexFunc_Ref_eq l (fun w => impl_place_c1 w.1 n) (fun r => r.1 = n) hl (fun x _ => by
    show impl_place_c1 x n = _
    unfold impl_place_c1
    rw [seq_tr]) with ⟨j, hj, he, hp, hf⟩ | ⟨he, hn⟩
  · exact ⟨(j : Int), by rw [he]; rfl, .inl ⟨j, hj, rfl, hp, fun i hi => hf i hi⟩⟩
  · exact ⟨-1, by rw [he]; rfl, .inr ⟨rfl, hn⟩⟩
noncomputable def placeL (l : List Ref) (n : ByteArray) : Int := (impl_place LP l n).getD 0
theorem impl_place_eq (l : List Ref) (n : ByteArray) (hl : l.length ≤ 1048576) : impl_place LP l n = some (placeL l n) := by
  obtain ⟨r, h, _⟩ := impl_place_first l n hl
  unfold placeL
  rw [h]; rfl
theorem place_first (l : List Ref) (n : ByteArray) (hl : l.length ≤ 1048576) : FirstAt l n (placeL l n) := by
  obtain ⟨r, h, hf⟩ := impl_place_first l n hl
  unfold placeL
  rw [h]; exact hf
theorem spec_l04At_eq (l : List Ref) (n : ByteArray) (hl : l.length ≤ 1048576) : spec_l04At LP l n = some (placeL l n) := by
  obtain ⟨r, h, hf⟩ := spec_l04At_first l n hl
  rw [h, first_uniq hf (place_first l n hl)]

def HeadP (r : Ref) : Prop := (r.2.2.2.1 = true → r.2.1 = 0) ∧ (r.2.2.2.1 = false → Inr r.2.1 1 60)
def RefP (r : Ref) : Prop := NameP r.1 ∧ Inr r.2.2.1 1 1000000 ∧ HeadP r
def Lone (l : List Ref) : Prop := ∀ (i j : Nat) (h : i < j) (hj : j < l.length), (l[i]'(by omega)).1 ≠ l[j].1
def RefsP (l : List Ref) : Prop := l.length ≤ 8 ∧ (∀ r ∈ l, RefP r) ∧ Lone l
theorem impl_isHead_eq (h : Int) : impl_isHead h = some (Tr (Inr h 1 60)) := by
  unfold impl_isHead
  rw [impl_within_eq]; rfl
theorem impl_isRef_eq (r : Ref) : impl_isRef LP r = some (Tr (RefP r)) := by
  unfold impl_isRef
  rw [impl_NameOK_eq, obind_some', impl_within_eq]
  refine cond_tr (fun q1 => ?_) (fun q => some_false (fun w => q w.1))
  rw [obind_some']
  refine cond_tr (fun q2 => ?_) (fun q => some_false (fun w => q w.2.1))
  rw [impl_isHead_eq, int_tr]
  cases hg : r.2.2.2.1 with
  | true =>
    simp only [cond_true, Bool.not_true, cond_false]
    refine cond_tr (fun q => some_true ⟨q1, q2, fun _ => q, fun h => (by rw [hg] at h; cases h)⟩) (fun q => some_false (fun w => q (w.2.2.1 hg)))
  | false =>
    simp only [cond_true, Bool.not_false, cond_false]
    exact some_tr ⟨fun w => ⟨q1, q2, ⟨fun h => (by rw [hg] at h; cases h), fun _ => w⟩⟩, fun w => w.2.2.2 hg⟩
theorem impl_RefsOK_eq (l : List Ref) (hl : l.length ≤ 1048576) : impl_RefsOK LP l = some (Tr (RefsP l)) := by
  have hLP := LP_ge
  unfold impl_RefsOK impl_RefsOK.e
  by_cases h8 : (l.length : Int) > 8
  · rw [decide_eq_true h8]
    exact some_false (fun w => by have := w.1; omega)
  rw [decide_eq_false h8, cond_false, impl_areAll_Ref_eq l _ RefP hl (fun x _ => impl_isRef_eq x), obind_some']
  refine cond_ntr (fun q => some_false (fun w => q w.2.1)) (fun q1 => ?_)
  have hloop := loop_all (fun k i => impl_RefsOK.l4 LP k l l (l.length : Int) i) l.length (fun j => ∃ hj : j < l.length, ∀ (i : Nat) (h : i < j), (l[i]'(by omega)).1 ≠ l[j].1) false ()
    (fun k => by
      simp only [impl_RefsOK.l4, impl_RefsOK.b4]
      rw [decide_eq_false (by omega)]
      rfl) (fun k i hi => by
      simp only [impl_RefsOK.l4, impl_RefsOK.b4]
      simp (disch := omega) only [decide_eq_true, cond_true, oget_lt hi, oif_true, wrap_id, Int.toNat_natCast]
      have hlen : (l.take i).length = i := by rw [List.length_take]; omega
      rw [impl_place_eq _ _ (by omega), obind_some']
      rcases place_first (l.take i) l[i].1 (by omega) with ⟨j, hj, he, hp, _⟩ | ⟨he, hn⟩
      · rw [he, decide_eq_true (by omega), Tr_false (fun w => w.2 j (by omega) (by rw [← hp, List.getElem_take]))]
        rfl
      · rw [he, Tr_true ⟨hi, fun j hj e => hn _ (List.getElem_mem (by omega : j < (l.take i).length)) (by rw [List.getElem_take]; exact e)⟩]
        rfl) LP 0 (Nat.zero_le _) (by omega)
  show obind (impl_RefsOK.l4 LP LP l l (l.length : Int) 0) _ = _
  rw [show impl_RefsOK.l4 LP LP l l (l.length : Int) 0 = _ from hloop]
  exact all_done rfl (fun q => some_true ⟨by omega, q1, fun i j h hj => (q j (Nat.zero_le _) hj).2 i h⟩) (fun q w => q (fun j _ hj => ⟨hj, fun i h => w.2.2 i j h hj⟩))
theorem spec_l04OK_eq (l : List Ref) (hl : l.length ≤ 1048576) : spec_l04OK LP l = some (Tr (RefsP l)) := by
  have hLP := LP_ge
  unfold spec_l04OK spec_l04OK.e
  by_cases h8 : (l.length : Int) > 8
  · rw [decide_eq_true h8]
    exact some_false (fun w => by have := w.1; omega)
  rw [decide_eq_false h8, cond_false]
  have hloop := loop_all (fun k i => spec_l04OK.l4 LP k l i) l.length (fun j => ∃ hj : j < l.length, RefP l[j] ∧ ∀ (i : Nat) (h : i < j), (l[i]'(by omega)).1 ≠ l[j].1) false ()
    (fun k => by
      simp only [spec_l04OK.l4, spec_l04OK.b4]
      rw [decide_eq_false (by omega)]
      rfl) (fun k i hi => by
      simp only [spec_l04OK.l4, spec_l04OK.b4]
      simp (disch := omega) only [decide_eq_true, cond_true, oget_lt hi, wrap_id, spec_l00Word_eq, spec_l01In_eq, obind_some']
      refine cond_ntr (fun q => ?_) (fun q1 => ?_)
      · rw [Tr_false (fun w => q w.2.1.1)]; rfl
      refine cond_ntr (fun q => ?_) (fun q2 => ?_)
      · rw [Tr_false (fun w => q w.2.1.2.1)]; rfl
      rw [spec_l04At_eq _ _ hl, obind_some']
      have hlone : (placeL l l[i].1 != (i : Int)) = !Tr (∀ (q : Nat) (h : q < i), (l[q]'(by omega)).1 ≠ l[i].1) := by
        rw [int_ne]
        congr 1
        refine Tr_congr ?_
        rcases place_first l l[i].1 hl with ⟨j, hj, he, hp, hf⟩ | ⟨he, hn⟩
        · rw [he]
          constructor
          · intro e q h
            have : j = i := by omega
            subst this
            exact hf q h
          · intro ha
            rcases Nat.lt_trichotomy j i with h | h | h
            · exact absurd hp (ha j h)
            · rw [h]
            · exact absurd rfl (hf i h)
        · exact absurd rfl (hn _ (List.getElem_mem hi))
      rw [hlone]
      refine cond_ntr (fun q => ?_) (fun q3 => ?_)
      · rw [Tr_false (fun w => q w.2.2)]; rfl
      cases hg : l[i].2.2.2.1 with
      | true =>
        simp only [cond_true, Bool.not_true, cond_false]
        rw [int_ne]
        refine cond_ntr (fun q => ?_) (fun q => ?_)
        · rw [Tr_false (fun w => q (w.2.1.2.2.1 hg))]; rfl
        · rw [Tr_true ⟨hi, ⟨q1, q2, ⟨fun _ => q, fun h => (by rw [hg] at h; cases h)⟩⟩, q3⟩]; rfl
      | false =>
        simp only [cond_true, Bool.not_false, cond_false]
        refine cond_ntr (fun q => ?_) (fun q => ?_)
        · rw [Tr_false (fun w => q (w.2.1.2.2.2 hg))]; rfl
        · rw [Tr_true ⟨hi, ⟨q1, q2, ⟨fun h => (by rw [hg] at h; cases h), fun _ => q⟩⟩, q3⟩]; rfl) LP 0 (Nat.zero_le _) (by omega)
  show obind (spec_l04OK.l4 LP LP l 0) _ = _
  rw [show spec_l04OK.l4 LP LP l 0 = _ from hloop]
  refine all_done rfl (fun q => some_true ⟨by omega, fun r hr => ?_, fun i j h hj => (q j (Nat.zero_le _) hj).2.2 i h⟩) (fun q w => q (fun j _ hj => ⟨hj, w.2.1 _ (List.getElem_mem hj), fun i h => w.2.2 i j h hj⟩))
  obtain ⟨j, hj, rfl⟩ := List.getElem_of_mem hr
  exact (q j (Nat.zero_le _) hj).2.1

def BaseP (b : Base) : Prop := StoreP b.1 ∧ RefsP b.2.1 ∧ ∀ r ∈ b.2.1, r.2.1 ≤ (b.1.length : Int)
theorem impl_BaseOK_eq (b : Base) (hb : Sm TBase b) : impl_BaseOK LP b = some (Tr (BaseP b)) := by
  have hl : b.2.1.length ≤ 1048576 := hb.2.1.1
  unfold impl_BaseOK
  rw [impl_StoreOK_eq _ hb.1, obind_some', impl_RefsOK_eq _ hl, obind_some']
  refine cond_tr (fun q1 => ?_) (fun q => some_false (fun w => q w.1))
  refine cond_tr (fun q2 => ?_) (fun q => some_false (fun w => q w.2.1))
  rw [impl_areAll_Ref_eq b.2.1 _ (fun r => r.2.1 ≤ (b.1.length : Int)) hl (fun x _ => by
    show impl_BaseOK_c1 x b = _
    unfold impl_BaseOK_c1
    rw [Tr_dec])]
  exact some_tr ⟨fun w => ⟨q1, q2, w⟩, fun w => w.2.2⟩
theorem spec_l05OK_eq (b : Base) (hb : Sm TBase b) : spec_l05OK LP b = some (Tr (BaseP b)) := by
  have hLP := LP_ge
  have hl : b.2.1.length ≤ 1048576 := hb.2.1.1
  unfold spec_l05OK spec_l05OK.e
  rw [spec_l03OK_eq _ hb.1, obind_some', spec_l04OK_eq _ hl, obind_some']
  refine cond_ntr (fun q => some_false (fun w => q w.1)) (fun q1 => ?_)
  refine cond_ntr (fun q => some_false (fun w => q w.2.1)) (fun q2 => ?_)
  have hloop := loop_all (fun k i => spec_l05OK.l4 LP k b.1 b.2.1 i) b.2.1.length (fun j => ∃ hj : j < b.2.1.length, b.2.1[j].2.1 ≤ (b.1.length : Int)) false ()
    (fun k => by
      simp only [spec_l05OK.l4, spec_l05OK.b4]
      rw [decide_eq_false (by omega)]
      rfl) (fun k i hi => by
      simp only [spec_l05OK.l4, spec_l05OK.b4]
      simp (disch := omega) only [decide_eq_true (p := (i : Int) < (b.2.1.length : Int)), cond_true, oget_lt hi, wrap_id]
      by_cases hh : b.2.1[i].2.1 ≤ (b.1.length : Int)
      · rw [decide_eq_false (by omega), Tr_true ⟨hi, hh⟩]; rfl
      · rw [decide_eq_true (by omega), Tr_false (fun w => hh w.2)]; rfl) LP 0 (Nat.zero_le _) (by omega)
  show obind (spec_l05OK.l4 LP LP b.1 b.2.1 0) _ = _
  rw [show spec_l05OK.l4 LP LP b.1 b.2.1 0 = _ from hloop]
  refine all_done rfl (fun q => some_true ⟨q1, q2, fun r hr => ?_⟩) (fun q w => q (fun j _ hj => ⟨hj, w.2.2 _ (List.getElem_mem hj)⟩))
  obtain ⟨j, hj, rfl⟩ := List.getElem_of_mem hr
  exact (q j (Nat.zero_le _) hj).2
end Go.Vx

end
section
set_option linter.unusedVariables false
set_option linter.unusedSimpArgs false
namespace Go.Vx
open Go Go.Proofs Go.RowKit Go.Lib
theorem editsP_nil {m : List Edit} (h : m.length = 0) : EditsP m := by
  have : m = [] := List.length_eq_zero_iff.1 h
  subst this
  exact ⟨Nat.zero_le _, fun e he => (by cases he), List.Pairwise.nil⟩
theorem spec_l05Op_some (o : Op) (ho : Sm TOp o) : ∃ b, spec_l05Op LP o = some b ∧ impl_OpOK LP o = some b := by
  obtain ⟨k, at', n, n2, es, u⟩ := o
  have hes : es.length ≤ 1048576 := ho.2.2.2.2.1.1
  unfold spec_l05Op impl_OpOK
  simp only [spec_l00Word_eq, impl_NameOK_eq, obind_some', spec_l01In_eq, spec_l01Edits_eq es hes, impl_EditsOK_eq es hes, impl_within_eq, impl_isHead_eq]
  have hE : ¬ ((es.length : Int) > 0) → Tr (EditsP es) = true := fun h => Tr_true (editsP_nil (by omega))
  by_cases hL : (es.length : Int) > 0
  · rw [decide_eq_true hL]
    have hI : ∀ (q1 : ¬ k = 1) (q2 : ¬ k = 2) (q3 : ¬ k = 3) (q4 : ¬ k = 4) (q5 : ¬ k = 5) (q6 : ¬ k = 6), Tr (Inr k 1 6) = false := fun q1 q2 q3 q4 q5 q6 => Tr_false (fun w => by have := w.1; have := w.2; omega)
    generalize Tr (NameP n) = N
    generalize Tr (NameP n2) = T
    generalize Tr (EditsP es) = E
    generalize Tr (Inr at' 1 60) = H
    generalize Tr (Inr at' 0 60) = H0
    generalize (at' == 0) = Z
    generalize (n2.toList == (⟨#[]⟩ : ByteArray).toList) = Y
    by_cases q1 : k = 1
    · subst q1
      cases N <;> cases T <;> cases E <;> cases Y <;> simp [Tr, Inr]
    by_cases q2 : k = 2
    · subst q2
      cases N <;> cases T <;> cases E <;> cases Y <;> simp [Tr, Inr]
    by_cases q3 : k = 3
    · subst q3
      cases N <;> cases T <;> cases E <;> cases Y <;> cases H0 <;> simp [Tr, Inr]
    by_cases q4 : k = 4
    · subst q4
      cases N <;> cases T <;> cases E <;> cases Y <;> simp [Tr, Inr]
    by_cases q5 : k = 5
    · subst q5
      cases N <;> cases T <;> cases E <;> cases Y <;> cases Z <;> simp [Tr, Inr]
    by_cases q6 : k = 6
    · subst q6
      cases N <;> cases T <;> cases E <;> cases Y <;> simp [Tr, Inr]
    rw [hI q1 q2 q3 q4 q5 q6]
    have e1 : (k == 1) = false := by simpa using q1
    have e2 : (k == 2) = false := by simpa using q2
    have e3 : (k == 3) = false := by simpa using q3
    have e4 : (k == 4) = false := by simpa using q4
    have e5 : (k == 5) = false := by simpa using q5
    have e6 : (k == 6) = false := by simpa using q6
    simp only [neq_int, e1, e2, e3, e4, e5, e6]
    cases N <;> cases Y <;> simp
  · rw [decide_eq_false hL, hE hL]
    have hI : ∀ (q1 : ¬ k = 1) (q2 : ¬ k = 2) (q3 : ¬ k = 3) (q4 : ¬ k = 4) (q5 : ¬ k = 5) (q6 : ¬ k = 6), Tr (Inr k 1 6) = false := fun q1 q2 q3 q4 q5 q6 => Tr_false (fun w => by have := w.1; have := w.2; omega)
    generalize Tr (NameP n) = N
    generalize Tr (NameP n2) = T
    generalize Tr (Inr at' 1 60) = H
    generalize Tr (Inr at' 0 60) = H0
    generalize (at' == 0) = Z
    generalize (n2.toList == (⟨#[]⟩ : ByteArray).toList) = Y
    by_cases q1 : k = 1
    · subst q1
      cases N <;> cases T <;> cases Y <;> simp [Tr, Inr]
    by_cases q2 : k = 2
    · subst q2
      cases N <;> cases T <;> cases Y <;> simp [Tr, Inr]
    by_cases q3 : k = 3
    · subst q3
      cases N <;> cases T <;> cases Y <;> cases H0 <;> simp [Tr, Inr]
    by_cases q4 : k = 4
    · subst q4
      cases N <;> cases T <;> cases Y <;> simp [Tr, Inr]
    by_cases q5 : k = 5
    · subst q5
      cases N <;> cases T <;> cases Y <;> cases Z <;> simp [Tr, Inr]
    by_cases q6 : k = 6
    · subst q6
      cases N <;> cases T <;> cases Y <;> simp [Tr, Inr]
    rw [hI q1 q2 q3 q4 q5 q6]
    have e1 : (k == 1) = false := by simpa using q1
    have e2 : (k == 2) = false := by simpa using q2
    have e3 : (k == 3) = false := by simpa using q3
    have e4 : (k == 4) = false := by simpa using q4
    have e5 : (k == 5) = false := by simpa using q5
    have e6 : (k == 6) = false := by simpa using q6
    simp only [neq_int, e1, e2, e3, e4, e5, e6]
    cases N <;> cases Y <;> simp

theorem in_self1 : Tr (Inr 1 1 60) = true := Tr_true ⟨by omega, by omega⟩
theorem in_self0 : Tr (Inr 0 0 60) = true := Tr_true ⟨by omega, by omega⟩
theorem clone_edit (es : List Edit) (h : es.length ≤ 1048576) : slices_Clone_Edit es = some es := by
  unfold slices_Clone_Edit
  rw [decide_eq_true (by omega)]; rfl
theorem spec_l07Wish_some (o : Wish) (ho : Sm TWish o) : ∃ b, spec_l07Wish LP o = some b ∧ impl_WishOK LP o = some b ∧ (b = true → Inr o.1 1 6 ∧ EditsP o.2.2.2.2.1) := by
  obtain ⟨k, n, sr, n2, es, u⟩ := o
  have hes : es.length ≤ 1048576 := ho.2.2.2.2.1.1
  unfold spec_l07Wish impl_WishOK impl_OpOK impl_hasSource impl_Wish_op
  simp only [spec_l00Word_eq, impl_NameOK_eq, obind_some', spec_l01In_eq, spec_l01Edits_eq es hes, impl_EditsOK_eq es hes, impl_within_eq, impl_isHead_eq, clone_edit es hes, in_self1, in_self0]
  have hE : ¬ ((es.length : Int) > 0) → Tr (EditsP es) = true := fun h => Tr_true (editsP_nil (by omega))
  by_cases hL : (es.length : Int) > 0
  · rw [decide_eq_true hL]
    have hI : ∀ (q1 : ¬ k = 1) (q2 : ¬ k = 2) (q3 : ¬ k = 3) (q4 : ¬ k = 4) (q5 : ¬ k = 5) (q6 : ¬ k = 6), Tr (Inr k 1 6) = false := fun q1 q2 q3 q4 q5 q6 => Tr_false (fun w => by have := w.1; have := w.2; omega)
    have hEP : Tr (EditsP es) = true → EditsP es := Tr_iff.1
    generalize Tr (NameP n) = N
    generalize Tr (NameP n2) = T
    generalize Tr (NameP sr) = S
    generalize Tr (EditsP es) = E at hEP ⊢
    generalize (n2.toList == (⟨#[]⟩ : ByteArray).toList) = Y
    generalize (sr.toList == (⟨#[]⟩ : ByteArray).toList) = X
    by_cases q1 : k = 1
    · subst q1
      cases N <;> cases T <;> cases S <;> cases E <;> cases Y <;> cases X <;> simp [Tr, Inr, hEP]
    by_cases q2 : k = 2
    · subst q2
      cases N <;> cases T <;> cases S <;> cases E <;> cases Y <;> cases X <;> simp [Tr, Inr, hEP]
    by_cases q3 : k = 3
    · subst q3
      cases N <;> cases T <;> cases S <;> cases E <;> cases Y <;> cases X <;> simp [Tr, Inr, hEP]
    by_cases q4 : k = 4
    · subst q4
      cases N <;> cases T <;> cases S <;> cases E <;> cases Y <;> cases X <;> simp [Tr, Inr, hEP]
    by_cases q5 : k = 5
    · subst q5
      cases N <;> cases T <;> cases S <;> cases E <;> cases Y <;> cases X <;> simp [Tr, Inr, hEP]
    by_cases q6 : k = 6
    · subst q6
      cases N <;> cases T <;> cases S <;> cases E <;> cases Y <;> cases X <;> simp [Tr, Inr, hEP]
    rw [hI q1 q2 q3 q4 q5 q6]
    have e1 : (k == 1) = false := by simpa using q1
    have e2 : (k == 2) = false := by simpa using q2
    have e3 : (k == 3) = false := by simpa using q3
    have e4 : (k == 4) = false := by simpa using q4
    have e5 : (k == 5) = false := by simpa using q5
    have e6 : (k == 6) = false := by simpa using q6
    simp only [neq_int, e1, e2, e3, e4, e5, e6]
    cases N <;> cases Y <;> cases X <;> simp
  · rw [decide_eq_false hL, hE hL]
    have hI : ∀ (q1 : ¬ k = 1) (q2 : ¬ k = 2) (q3 : ¬ k = 3) (q4 : ¬ k = 4) (q5 : ¬ k = 5) (q6 : ¬ k = 6), Tr (Inr k 1 6) = false := fun q1 q2 q3 q4 q5 q6 => Tr_false (fun w => by have := w.1; have := w.2; omega)
    have hEP : EditsP es := Tr_iff.1 (hE hL)
    generalize Tr (NameP n) = N
    generalize Tr (NameP n2) = T
    generalize Tr (NameP sr) = S
    generalize (n2.toList == (⟨#[]⟩ : ByteArray).toList) = Y
    generalize (sr.toList == (⟨#[]⟩ : ByteArray).toList) = X
    by_cases q1 : k = 1
    · subst q1
      cases N <;> cases T <;> cases S <;> cases Y <;> cases X <;> simp [Tr, Inr, hEP]
    by_cases q2 : k = 2
    · subst q2
      cases N <;> cases T <;> cases S <;> cases Y <;> cases X <;> simp [Tr, Inr, hEP]
    by_cases q3 : k = 3
    · subst q3
      cases N <;> cases T <;> cases S <;> cases Y <;> cases X <;> simp [Tr, Inr, hEP]
    by_cases q4 : k = 4
    · subst q4
      cases N <;> cases T <;> cases S <;> cases Y <;> cases X <;> simp [Tr, Inr, hEP]
    by_cases q5 : k = 5
    · subst q5
      cases N <;> cases T <;> cases S <;> cases Y <;> cases X <;> simp [Tr, Inr, hEP]
    by_cases q6 : k = 6
    · subst q6
      cases N <;> cases T <;> cases S <;> cases Y <;> cases X <;> simp [Tr, Inr, hEP]
    rw [hI q1 q2 q3 q4 q5 q6]
    have e1 : (k == 1) = false := by simpa using q1
    have e2 : (k == 2) = false := by simpa using q2
    have e3 : (k == 3) = false := by simpa using q3
    have e4 : (k == 4) = false := by simpa using q4
    have e5 : (k == 5) = false := by simpa using q5
    have e6 : (k == 6) = false := by simpa using q6
    simp only [neq_int, e1, e2, e3, e4, e5, e6]
    cases N <;> cases Y <;> cases X <;> simp
def WishP (w : Wish) : Prop := spec_l07Wish LP w = some true
theorem spec_l07Wish_eq (w : Wish) (hw : Sm TWish w) : spec_l07Wish LP w = some (Tr (WishP w)) := by
  obtain ⟨b, h, _, _⟩ := spec_l07Wish_some w hw
  unfold WishP
  rw [h]
  cases b with
  | true => exact some_true rfl
  | false => exact some_false (fun h => by cases h)
theorem impl_WishOK_eq (w : Wish) (hw : Sm TWish w) : impl_WishOK LP w = some (Tr (WishP w)) := by
  obtain ⟨b, h, h2, _⟩ := spec_l07Wish_some w hw
  rw [h2, ← h, spec_l07Wish_eq w hw]
theorem wish_facts (w : Wish) (hw : Sm TWish w) (h : WishP w) : Inr w.1 1 6 ∧ EditsP w.2.2.2.2.1 := by
  obtain ⟨b, h1, _, h2⟩ := spec_l07Wish_some w hw
  unfold WishP at h
  rw [h1] at h
  exact h2 (Option.some.inj h)
def OpP (w : Op) : Prop := spec_l05Op LP w = some true
theorem spec_l05Op_eq (w : Op) (hw : Sm TOp w) : spec_l05Op LP w = some (Tr (OpP w)) := by
  obtain ⟨b, h, _⟩ := spec_l05Op_some w hw
  unfold OpP
  rw [h]
  cases b with
  | true => exact some_true rfl
  | false => exact some_false (fun h => by cases h)
theorem impl_OpOK_eq (w : Op) (hw : Sm TOp w) : impl_OpOK LP w = some (Tr (OpP w)) := by
  obtain ⟨b, h, h2⟩ := spec_l05Op_some w hw
  rw [h2, ← h, spec_l05Op_eq w hw]
def WishesP (l : List Wish) : Prop := l.length ≤ 6 ∧ ∀ w ∈ l, WishP w
theorem spec_l07Wishes_eq (l : List Wish) (hl : Sm (.sl TWish) l) : spec_l07Wishes LP l = some (Tr (WishesP l)) := by
  have hLP := LP_ge
  have hm : l.length ≤ 1048576 := hl.1
  unfold spec_l07Wishes spec_l07Wishes.e
  by_cases h8 : (l.length : Int) > 6
  · rw [decide_eq_true h8]
    exact some_false (fun w => by have := w.1; omega)
  rw [decide_eq_false h8, cond_false]
  have hloop := loop_all (fun k i => spec_l07Wishes.l4 LP k l i) l.length (fun j => ∃ hj : j < l.length, WishP l[j]) false ()
    (fun k => by
      simp only [spec_l07Wishes.l4, spec_l07Wishes.b4]
      rw [decide_eq_false (by omega)]
      rfl) (fun k i hi => by
      simp only [spec_l07Wishes.l4, spec_l07Wishes.b4]
      simp (disch := omega) only [decide_eq_true, cond_true, oget_lt hi, wrap_id]
      rw [spec_l07Wish_eq _ (hl.2 _ (List.getElem_mem hi)), obind_some']
      refine cond_ntr (fun q => ?_) (fun q => ?_)
      · rw [Tr_false (fun w => q w.2)]; rfl
      · rw [Tr_true ⟨hi, q⟩]; rfl) LP 0 (Nat.zero_le _) (by omega)
  show obind (spec_l07Wishes.l4 LP LP l 0) _ = _
  rw [show spec_l07Wishes.l4 LP LP l 0 = _ from hloop]
  refine all_done rfl (fun q => some_true ⟨by omega, fun r hr => ?_⟩) (fun q w => q (fun j _ hj => ⟨hj, w.2 _ (List.getElem_mem hj)⟩))
  obtain ⟨j, hj, rfl⟩ := List.getElem_of_mem hr
  exact (q j (Nat.zero_le _) hj).2
theorem impl_wishes_eq (l : List Wish) (hl : Sm (.sl TWish) l) : impl_areAll_Wish LP l (fun w => impl_WishOK LP w.1) = some (Tr (∀ w ∈ l, WishP w)) :=
  impl_areAll_Wish_eq l _ WishP hl.1 (fun w hw => impl_WishOK_eq w (hl.2 w hw))
end Go.Vx

end
section
set_option linter.unusedVariables false
set_option linter.unusedSimpArgs false
namespace Go.Vx
open Go Go.Proofs Go.RowKit Go.Lib
theorem entry_beq (x y : Entry) : ((x.1 == y.1) && (x.2.1 == y.2.1)) = Tr (x = y) := by
  rw [str_beq, int_tr, Tr_and]
  refine Tr_congr ⟨fun h => ?_, fun h => by rw [h]; exact ⟨rfl, rfl⟩⟩
  obtain ⟨a, b, u⟩ := x
  obtain ⟨c, d, v⟩ := y
  obtain ⟨h1, h2⟩ := h
  show (a, b, u) = (c, d, v)
  rw [show a = c from h1, show b = d from h2]
theorem spec_l01Same_eq (a b : List Entry) (ha : a.length ≤ 1048576) (hb : b.length ≤ 1048576) : spec_l01Same LP a b = some (Tr (a = b)) := by
  have hLP := LP_ge
  unfold spec_l01Same spec_l01Same.e
  rw [int_ne]
  refine cond_ntr (fun q => some_false (fun h => q (by rw [h]))) (fun q => ?_)
  have hlen : a.length = b.length := by omega
  exact eq_list hlen (fun k i => spec_l01Same.l4 LP k a b i) (fun k => by
      simp only [spec_l01Same.l4, spec_l01Same.b4]
      rw [decide_eq_false (by omega)]
      rfl) (fun k i hi hj => by
      simp only [spec_l01Same.l4, spec_l01Same.b4]
      simp (disch := omega) only [decide_eq_true, cond_true, oget_lt hi, oget_lt hj, wrap_id, entry_beq]
      refine cond_ntr (fun q => by rw [Tr_false q]; rfl) (fun q => by rw [Tr_true q]; rfl)) LP (by omega)
theorem slices_Equal_Entry_eq (a b : List Entry) (ha : a.length ≤ 1048576) (hb : b.length ≤ 1048576) : slices_Equal_Entry LP a b = some (Tr (a = b)) := by
  have hLP := LP_ge
  unfold slices_Equal_Entry slices_Equal_Entry.e
  rw [int_ne]
  refine cond_ntr (fun q => some_false (fun h => q (by rw [h]))) (fun q => ?_)
  have hlen : a.length = b.length := by omega
  exact eq_list hlen (fun k i => slices_Equal_Entry.l4 LP k a b (a.length : Int) i) (fun k => by
      simp only [slices_Equal_Entry.l4, slices_Equal_Entry.b4]
      rw [decide_eq_false (by omega)]
      rfl) (fun k i hi hj => by
      simp only [slices_Equal_Entry.l4, slices_Equal_Entry.b4]
      simp (disch := omega) only [decide_eq_true, cond_true, oget_lt hi, oget_lt hj, wrap_id, entry_beq]
      refine cond_ntr (fun q => by rw [Tr_false q]; rfl) (fun q => by rw [Tr_true q]; rfl)) LP (by omega)

theorem store_map {s : List Commit} (hs : StoreP s) {n : Nat} (h1 : 1 ≤ n) (h2 : n ≤ s.length) : ∃ h : n - 1 < s.length, s[n - 1].2.1.length ≤ 12 ∧ RiseE s[n - 1].2.1 := by
  refine ⟨by omega, ?_⟩
  obtain ⟨w, _⟩ := hs.2.2 (n - 1) (by omega)
  exact ⟨w.1, w.2.2⟩
theorem oget_pred {R α : Type} {s : List α} {n : Nat} (h1 : 1 ≤ n) (h2 : n - 1 < s.length) (hl : s.length ≤ 1048576) (K : α → Option R) : oget s (IntKind.i64.wrap ((n : Int) - 1)) K = K s[n - 1] := by
  rw [wrap_id (by omega) (by omega), show (n : Int) - 1 = ((n - 1 : Nat) : Int) by omega, oget_lt h2]
theorem told_len (m : List Entry) (c : List ByteArray) : (toldL m c).1.length ≤ 12 := by
  unfold toldL
  by_cases h1 : c.length > 0
  · rw [decide_eq_true h1]
    exact Nat.zero_le _
  · rw [decide_eq_false h1]
    by_cases h2 : m.length > 12
    · rw [decide_eq_true h2]
      exact Nat.zero_le _
    · rw [decide_eq_false h2]
      show m.length ≤ 12
      omega
theorem impl_planned_eq (m : List Entry) (cl : List ByteArray) (c : Int) (ps : List Int) : ∃ m' ps' cl', impl_planned m cl c ps = some (false, m', ps', cl', c, ()) ∧ (c = 0 → m' = m ∧ ps' = ps ∧ cl' = []) ∧ (c ≠ 0 → m' = [] ∧ ps' = [] ∧ cl' = cl) := by
  unfold impl_planned
  rw [int_ne]
  by_cases h : c = 0
  · rw [Tr_true h]
    exact ⟨m, ps, [], by rw [h]; rfl, fun _ => ⟨rfl, rfl, rfl⟩, fun h' => absurd h h'⟩
  · rw [Tr_false h]
    exact ⟨[], [], cl, rfl, fun h' => absurd h' h, fun _ => ⟨rfl, rfl, rfl⟩⟩
theorem join_both (b : Base) (hs : StoreP b.1) (hm : Sm (.sl TCommit) b.1) (op : Op) (hk : op.1 = 4) {src h : Nat} (hsrc : op.2.1 = (src : Int)) (s1 : 1 ≤ src) (s2 : src ≤ b.1.length) (h1 : 1 ≤ h) (h2 : h ≤ b.1.length) :
    ∃ f m r c m' ps cl, spec_l05Join LP b.1 (h : Int) (src : Int) = some (f, m, (c, r)) ∧ impl_Base_planAt LP b op (h : Int) = some (f, m', ps, cl, c, ()) ∧ (c = 0 → m' = m ∧ m.length ≤ 12) := by
  have hl : b.1.length ≤ 1048576 := hm.1
  unfold spec_l05Join impl_Base_planAt
  rw [hk, hsrc, show ((4 : Int) == 3) = false from rfl, cond_false]
  rw [spec_l03Base_eq hs hm h1 h2 s1 s2, impl_baseOf_eq hs hm h1 h2 s1 s2, obind_some', obind_some', int_tr, int_tr]
  obtain ⟨b1, b2⟩ := base_in hs h1 h2 s1 s2
  by_cases q1 : ((base b.1 h src : Nat) : Int) = (src : Int)
  · rw [Tr_true q1]
    exact ⟨_, _, _, _, _, _, _, rfl, rfl, fun h => ⟨rfl, Nat.zero_le _⟩⟩
  rw [Tr_false q1, cond_false, cond_false]
  by_cases q2 : ((base b.1 h src : Nat) : Int) = (h : Int)
  · rw [Tr_true q2]
    exact ⟨_, _, _, _, _, _, _, rfl, rfl, fun h => ⟨rfl, Nat.zero_le _⟩⟩
  rw [Tr_false q2, cond_false, cond_false]
  have b3 : base b.1 h src ≤ b.1.length := by omega
  obtain ⟨i1, l1, r1⟩ := store_map hs b1 b3
  obtain ⟨i2, l2, r2⟩ := store_map hs h1 h2
  obtain ⟨i3, l3, r3⟩ := store_map hs s1 s2
  unfold impl_mergeCommits
  rw [impl_baseOf_eq hs hm h1 h2 s1 s2, obind_some', oget_pred b1 i1 hl, oget_pred h1 i2 hl, oget_pred s1 i3 hl, oget_pred b1 i1 hl, oget_pred h1 i2 hl, oget_pred s1 i3 hl]
  rw [spec_l02Merge_eq _ _ _ (by omega) (by omega) (by omega) r1 r2 r3, impl_merge_eq _ _ _ (by omega) (by omega) (by omega) r1 r2 r3, obind_some', obind_some', spec_l02Told_eq, obind_some']
  unfold mergeL
  generalize mergeM b.1[base b.1 h src - 1].2.1 b.1[h - 1].2.1 b.1[src - 1].2.1 = M
  generalize mergeC b.1[base b.1 h src - 1].2.1 b.1[h - 1].2.1 b.1[src - 1].2.1 = C
  have htl := told_len M C
  generalize toldL M C = T at htl
  obtain ⟨m', ps, cl, e, e2, _⟩ := impl_planned_eq T.1 T.2.1 T.2.2 [(h : Int), (src : Int)]
  refine ⟨_, _, _, _, m', ps, cl, rfl, ?_, fun hz => ⟨(e2 hz).1, htl⟩⟩
  show obind (impl_planned T.1 T.2.1 T.2.2 [(h : Int), (src : Int)]) _ = _
  rw [e]
  rfl
theorem commit_both (b : Base) (hs : StoreP b.1) (hm : Sm (.sl TCommit) b.1) (op : Op) (hk : op.1 = 3) {src h : Nat} (hsrc : op.2.1 = (src : Int)) (he : op.2.2.2.2.1.length ≤ 400000) (s1 : 1 ≤ src) (s2 : src ≤ b.1.length) (h1 : 1 ≤ h) (h2 : h ≤ b.1.length) :
    ∃ m r c m' ps cl, spec_l05Plan LP b.1 (src : Int) (h : Int) op.2.2.2.2.1 = some (m, (c, r)) ∧ impl_Base_planAt LP b op (h : Int) = some (false, m', ps, cl, c, ()) ∧ (c = 0 → m' = m ∧ m.length ≤ 12) := by
  have hl : b.1.length ≤ 1048576 := hm.1
  unfold spec_l05Plan impl_Base_planAt impl_Base_commitAt
  rw [hk, hsrc, show ((3 : Int) == 3) = true from rfl, cond_true, int_tr, Tr_false (by omega), cond_false]
  obtain ⟨i2, l2, r2⟩ := store_map hs h1 h2
  obtain ⟨i3, l3, r3⟩ := store_map hs s1 s2
  simp only [oget_pred h1 i2 hl, oget_pred s1 i3 hl]
  rw [spec_l01Apply_eq _ _ (by omega) (by omega), impl_edited_eq _ _ (by omega) (by omega) r3, obind_some', obind_some', impl_limited_eq, obind_some']
  have hra := rise_apply op.2.2.2.2.1 r3
  generalize applyL b.1[src - 1].2.1 op.2.2.2.2.1 = A at hra
  by_cases hA : A.length > 12
  · rw [decide_eq_true hA, decide_eq_true (by omega)]
    exact ⟨_, _, _, _, _, _, rfl, rfl, fun h => ⟨rfl, Nat.zero_le _⟩⟩
  rw [decide_eq_false hA, decide_eq_false (by omega)]
  simp only [cond_false, neq_int, show ((0:Int) == 0) = true from rfl, Bool.not_true]
  rw [spec_l02Merge_eq _ _ _ (by omega) (by omega) (by omega) r3 hra r2, impl_merge_eq _ _ _ (by omega) (by omega) (by omega) r3 hra r2, obind_some', obind_some', spec_l02Told_eq, obind_some']
  unfold mergeL
  generalize mergeM b.1[src - 1].2.1 A b.1[h - 1].2.1 = M
  generalize mergeC b.1[src - 1].2.1 A b.1[h - 1].2.1 = C
  have htl := told_len M C
  generalize toldL M C = T at htl
  simp only [int_tr]
  by_cases hz : T.2.2 = 0
  · rw [Tr_true hz]
    simp only [cond_true]
    rw [spec_l01Same_eq _ _ (by omega) (by omega), slices_Equal_Entry_eq _ _ (by omega) (by omega), obind_some', obind_some']
    by_cases hsame : T.1 = b.1[h - 1].2.1
    · rw [Tr_true hsame]
      obtain ⟨m', ps, cl, e, e2, _⟩ := impl_planned_eq T.1 T.2.1 18 [(h : Int)]
      refine ⟨_, _, _, m', ps, cl, rfl, ?_, fun hz => by omega⟩
      simp only [cond_true]
      rw [e]
      rfl
    · rw [Tr_false hsame]
      obtain ⟨m', ps, cl, e, e2, _⟩ := impl_planned_eq T.1 T.2.1 T.2.2 [(h : Int)]
      refine ⟨_, _, _, m', ps, cl, rfl, ?_, fun hz => ⟨(e2 hz).1, htl⟩⟩
      simp only [cond_false]
      rw [e]
      rfl
  · rw [Tr_false hz]
    obtain ⟨m', ps, cl, e, e2, _⟩ := impl_planned_eq T.1 T.2.1 T.2.2 [(h : Int)]
    refine ⟨_, _, _, m', ps, cl, rfl, ?_, fun hz => ⟨(e2 hz).1, htl⟩⟩
    simp only [cond_false]
    rw [e]
    rfl
end Go.Vx

end
section
set_option linter.unusedVariables false
set_option linter.unusedSimpArgs false
namespace Go.Vx
open Go Go.Proofs Go.RowKit Go.Lib
theorem fast_aux (fast : Int) (f : Bool) (p q : Prop) (hpq : p ↔ q) :
    cond ((fast == 1) == f) (cond (Tr (Inr fast 0 1)) (some (Tr p)) (some false)) (some false) = some (Tr (fast = cond f 1 0 ∧ p)) ∧
    obind (impl_flag f) (fun t => cond (fast == t) (some (Tr q)) (some false)) = some (Tr (fast = cond f 1 0 ∧ p)) := by
  unfold impl_flag
  cases f with
  | true =>
    simp only [cond_true, obind_some', int_tr, beq_true]
    constructor
    · refine cond_tr (fun w => ?_) (fun w => some_false (fun x => w x.1))
      rw [Tr_true ⟨by omega, by omega⟩]
      exact some_tr ⟨fun x => ⟨w, x⟩, fun x => x.2⟩
    · exact cond_tr (fun w => some_tr ⟨fun x => ⟨w, hpq.2 x⟩, fun x => hpq.1 x.2⟩) (fun w => some_false (fun x => w x.1))
  | false =>
    simp only [cond_false, obind_some', int_tr, beq_false]
    constructor
    · refine cond_ntr (fun w => ?_) (fun w => some_false (fun x => by have := x.1; omega))
      refine cond_tr (fun v => ?_) (fun v => some_false (fun x => v ⟨by have := x.1; omega, by have := x.1; omega⟩))
      exact some_tr ⟨fun x => ⟨by have := v.1; have := v.2; omega, x⟩, fun x => x.2⟩
    · exact cond_tr (fun w => some_tr ⟨fun x => ⟨w, hpq.2 x⟩, fun x => hpq.1 x.2⟩) (fun w => some_false (fun x => w x.1))
theorem plan_aux (b : Base) (hs : StoreP b.1) (hm : Sm (.sl TCommit) b.1) (w : Wish) (hl : w.2.2.2.2.1.length ≤ 400000) (hk : w.1 = 4 ∨ w.1 = 3) (src h : Int) (hsrc : Inr src 1 b.1.length) (hh : Inr h 1 b.1.length) :
    ∃ f m r c m' ps cl, spec_l07Plan LP b.1 w src h = some (f, m, (c, r)) ∧ impl_Base_planAt LP b (w.1, src, w.2.1, w.2.2.2.1, w.2.2.2.2.1, ()) h = some (f, m', ps, cl, c, ()) ∧ (c = 0 → m' = m ∧ m.length ≤ 12) := by
  obtain ⟨s1, s2⟩ := hsrc
  obtain ⟨h1, h2⟩ := hh
  have e1 : src = ((src.toNat : Nat) : Int) := by omega
  have e2 : h = ((h.toNat : Nat) : Int) := by omega
  have a1 : 1 ≤ src.toNat := by omega
  have a2 : src.toNat ≤ b.1.length := by omega
  have a3 : 1 ≤ h.toNat := by omega
  have a4 : h.toNat ≤ b.1.length := by omega
  unfold spec_l07Plan
  rcases hk with hk | hk
  · obtain ⟨f, m, r, c, m', ps, cl, g1, g2, g3⟩ := join_both b hs hm (w.1, src, w.2.1, w.2.2.2.1, w.2.2.2.2.1, ()) hk e1 a1 a2 a3 a4
    rw [← e2] at g1 g2
    rw [← e1] at g1
    rw [hk, show ((4:Int) == 4) = true from rfl, cond_true, g1]
    rw [hk] at g2
    exact ⟨f, m, r, c, m', ps, cl, rfl, g2, g3⟩
  · obtain ⟨m, r, c, m', ps, cl, g1, g2, g3⟩ := commit_both b hs hm (w.1, src, w.2.1, w.2.2.2.1, w.2.2.2.2.1, ()) hk e1 hl a1 a2 a3 a4
    rw [← e2] at g1 g2
    rw [← e1] at g1
    rw [hk, show ((3:Int) == 4) = false from rfl, cond_false]
    rw [hk] at g2
    exact ⟨false, m, r, c, m', ps, cl, by rw [show spec_l05Plan LP b.1 src h w.2.2.2.2.1 = _ from g1]; rfl, g2, g3⟩
theorem plan_k (b : Base) (hs : StoreP b.1) (hm : Sm (.sl TCommit) b.1) (w : Wish) (hl : w.2.2.2.2.1.length ≤ 400000) (hk : w.1 = 4 ∨ w.1 = 3) (src h fast : Int) (cm : List Entry) (hcm : cm.length ≤ 1048576) (hsrc : Inr src 1 b.1.length) (hh : Inr h 1 b.1.length) :
    ∃ q,
    (obind (spec_l07Plan LP b.1 w src h) fun (t6 : Bool × (List Entry) × Result) => cond (t6.2.2.1 == (0:Int)) (cond ((fast == 1) == t6.1) (cond (Tr (Inr fast 0 1)) (obind (spec_l01Same LP t6.2.1 cm) fun (t9 : Bool) => some t9) (some false)) (some false)) (some false)) = some (Tr q) ∧
    (obind (impl_Base_planAt LP b (w.1, src, w.2.1, w.2.2.2.1, w.2.2.2.2.1, ()) h) fun (t12 : Plan) => cond (t12.2.2.2.2.1 == (0:Int)) (obind (impl_flag t12.1) fun (t13 : Int) => cond (fast == t13) (obind (slices_Equal_Entry LP cm t12.2.1) fun (t14 : Bool) => some t14) (some false)) (some false)) = some (Tr q) := by
  obtain ⟨f, m, r, c, m', ps, cl, g1, g2, g3⟩ := plan_aux b hs hm w hl hk src h hsrc hh
  rw [g1, g2, obind_some', obind_some']
  simp only [int_tr (b := 0)]
  by_cases hc : c = 0
  · obtain ⟨rfl, hml⟩ := g3 hc
    obtain ⟨x, y⟩ := fast_aux fast f (m' = cm) (cm = m') ⟨fun e => e.symm, fun e => e.symm⟩
    refine ⟨fast = cond f 1 0 ∧ m' = cm, ?_, ?_⟩
    · rw [Tr_true hc, cond_true, ← x, spec_l01Same_eq _ _ (by omega) hcm]
      rfl
    · rw [Tr_true hc, cond_true, ← y]
      simp only [slices_Equal_Entry_eq _ _ hcm (by omega : m'.length ≤ 1048576)]
      rfl
  · refine ⟨False, ?_, ?_⟩ <;> rw [Tr_false hc, cond_false, Tr_F]
theorem phase_both (b : Base) (hs : StoreP b.1) (hm : Sm (.sl TCommit) b.1) (c : Client) (hc : Sm TClient c) (hi : Inr c.2.1 0 c.1.length) (hp : Inr c.2.2.1 0 2) (hd : c.2.1 = (c.1.length : Int) → c.2.2.1 = 0) (hw : ∀ w ∈ c.1, WishP w) :
    ∃ r, spec_l07Phase LP b c = some r ∧ impl_Client_isPossible LP c b = some r := by
  obtain ⟨ws, i, ph, src, h, ver, tries, fast, m, u⟩ := c
  have hwl : ws.length ≤ 1048576 := hc.1.1
  have hml : m.length ≤ 1048576 := hc.2.2.2.2.2.2.2.2.1.1
  unfold spec_l07Phase impl_Client_isPossible impl_Client_isFresh impl_Client_isDone impl_Client_wish spec_l07Fast impl_hasSource impl_Wish_op
  simp only [spec_l01In_eq, impl_within_eq, obind_some'] at hi hp hd hw ⊢
  have h0 : Inr ph 0 2 := hp
  by_cases q0 : ph = 0
  · subst q0
    generalize (h == 0) = A
    generalize (ver == 0) = B
    generalize (fast == 0) = C
    generalize ((m.length : Int) == 0) = D
    generalize (src == 0) = E
    generalize (tries == 0) = F
    cases A <;> cases B <;> cases C <;> cases D <;> cases E <;> cases F <;> simp
  have hlt : i < (ws.length : Int) := by
    have h1 : i ≤ (ws.length : Int) := hi.2
    rcases Int.lt_or_eq_of_le h1 with h2 | h2
    · exact h2
    · exact absurd (hd h2) q0
  have hi0 : 0 ≤ i := hi.1
  have hn : i.toNat < ws.length := by omega
  obtain ⟨hk, hed⟩ := wish_facts ws[i.toNat] (hc.1.2 _ (List.getElem_mem hn)) (hw _ (List.getElem_mem hn))
  have hed2 : ws[i.toNat].2.2.2.2.1.length ≤ 6 := hed.1
  simp only [oget_at hi0 hn, obind_some', clone_edit _ (show ws[i.toNat].2.2.2.2.1.length ≤ 1048576 by omega)]
  have hK := plan_k b hs hm ws[i.toNat] (by omega)
  rw [show (i == (ws.length : Int)) = false by simp; omega]
  generalize ws[i.toNat] = w at hk hed hed2 hK ⊢
  obtain ⟨k, wn, wsr, wto, wes, wu⟩ := w
  simp only at hk hK ⊢
  have hk6 : k = 1 ∨ k = 2 ∨ k = 3 ∨ k = 4 ∨ k = 5 ∨ k = 6 := by have := hk.1; have := hk.2; omega
  have hph : ph = 1 ∨ ph = 2 := by have := h0.1; have := h0.2; omega
  rcases hph with rfl | rfl
  · generalize (h == 0) = A
    generalize (ver == 0) = B
    generalize (fast == 0) = C
    generalize ((m.length : Int) == 0) = D
    generalize (tries == 0) = F
    generalize decide (tries > 0) = F2
    generalize Tr (Inr src 1 b.1.length) = I
    generalize Tr (Inr tries 0 3) = J
    rw [show Tr (Inr 1 1 2) = true from Tr_true ⟨by omega, by omega⟩]
    rcases hk6 with rfl | rfl | rfl | rfl | rfl | rfl <;> cases A <;> cases B <;> cases C <;> cases D <;> cases I <;> cases J <;> simp
    all_goals cases F <;> cases F2 <;> simp
  · rw [show Tr (Inr 2 1 2) = true from Tr_true ⟨by omega, by omega⟩]
    rcases hk6 with rfl | rfl | rfl | rfl | rfl | rfl
    · generalize (h == 0) = A
      generalize (ver == 0) = B
      generalize (fast == 0) = C
      generalize Tr (Inr src 1 b.1.length) = I
      generalize Tr (Inr tries 0 3) = J
      cases A <;> cases B <;> cases C <;> cases I <;> cases J <;> simp
    · generalize (h == 0) = A
      generalize (ver == 0) = B
      generalize (fast == 0) = C
      cases A <;> cases B <;> cases C <;> simp
    · by_cases hI : Inr src 1 b.1.length
      · by_cases hJ : Inr h 1 b.1.length
        · obtain ⟨q, k1, k2⟩ := hK (.inr rfl) src h fast m hml hI hJ
          have hA : (h == 0) = false := int_eqf (by have := hJ.1; omega)
          simp only [Tr_true hI, Tr_true hJ, hA, k1, k2]
          generalize Tr (Inr tries 0 3) = J
          generalize Tr (Inr ver 1 1000000) = V
          cases J <;> cases V <;> simp
        · simp only [Tr_true hI, Tr_false hJ]
          generalize Tr (Inr tries 0 3) = J
          generalize (h == 0) = A
          generalize (ver == 0) = B
          generalize (fast == 0) = C
          cases J <;> cases A <;> cases B <;> cases C <;> simp
      · simp only [Tr_false hI]
        generalize (h == 0) = A
        generalize (ver == 0) = B
        generalize (fast == 0) = C
        cases A <;> cases B <;> cases C <;> simp
    · by_cases hI : Inr src 1 b.1.length
      · by_cases hJ : Inr h 1 b.1.length
        · obtain ⟨q, k1, k2⟩ := hK (.inl rfl) src h fast m hml hI hJ
          have hA : (h == 0) = false := int_eqf (by have := hJ.1; omega)
          simp only [Tr_true hI, Tr_true hJ, hA, k1, k2]
          generalize Tr (Inr tries 0 3) = J
          generalize Tr (Inr ver 1 1000000) = V
          cases J <;> cases V <;> simp
        · simp only [Tr_true hI, Tr_false hJ]
          generalize Tr (Inr tries 0 3) = J
          generalize (h == 0) = A
          generalize (ver == 0) = B
          generalize (fast == 0) = C
          cases J <;> cases A <;> cases B <;> cases C <;> simp
      · simp only [Tr_false hI]
        generalize (h == 0) = A
        generalize (ver == 0) = B
        generalize (fast == 0) = C
        cases A <;> cases B <;> cases C <;> simp
    · generalize (h == 0) = A
      generalize (ver == 0) = B
      generalize (fast == 0) = C
      cases A <;> cases B <;> cases C <;> simp
    · generalize (h == 0) = A
      generalize (ver == 0) = B
      generalize (fast == 0) = C
      cases A <;> cases B <;> cases C <;> simp
def ClientP (b : Base) (c : Client) : Prop := WishesP c.1 ∧ Inr c.2.1 0 c.1.length ∧ Inr c.2.2.1 0 2 ∧ (c.2.1 = (c.1.length : Int) → c.2.2.1 = 0) ∧ spec_l07Phase LP b c = some true
theorem client_both (b : Base) (hs : StoreP b.1) (hm : Sm (.sl TCommit) b.1) (c : Client) (hc : Sm TClient c) : spec_l07OK LP b c = some (Tr (ClientP b c)) ∧ impl_Client_isFor LP c b = some (Tr (ClientP b c)) := by
  unfold spec_l07OK impl_Client_isFor
  rw [spec_l07Wishes_eq _ hc.1, obind_some', impl_wishes_eq _ hc.1, obind_some', spec_l01In_eq, obind_some', impl_within_eq, obind_some', spec_l01In_eq, obind_some']
  by_cases q1 : WishesP c.1
  · by_cases q2 : Inr c.2.1 0 c.1.length
    · by_cases q3 : Inr c.2.2.1 0 2
      · by_cases q4 : c.2.1 = (c.1.length : Int) → c.2.2.1 = 0
        · obtain ⟨r, e1, e2⟩ := phase_both b hs hm c hc q2 q3 q4 q1.2
          have hr : r = Tr (ClientP b c) := by
            refine Tr_eq ⟨fun h => ⟨q1, q2, q3, q4, by rw [e1, h]⟩, fun h => ?_⟩
            have := h.2.2.2.2
            rw [e1] at this
            exact Option.some.inj this
          rw [Tr_true q1, Tr_true q2, Tr_true q3, Tr_true q1.2, dx (show (c.1.length : Int) ≤ 6 by have := q1.1; omega), e1, e2]
          simp only [Bool.not_true, cond_false, cond_true, obind_some', hr]
          refine ⟨?_, trivial⟩
          by_cases q5 : c.2.1 = (c.1.length : Int)
          · rw [int_eqt q5, dn (show ¬ c.2.2.1 > 0 by have := q4 q5; omega)]; rfl
          · rw [int_eqf q5]; rfl
        · have hF : ¬ ClientP b c := fun w => q4 w.2.2.2.1
          have hF2 : c.2.1 = (c.1.length : Int) ∧ c.2.2.1 ≠ 0 := Classical.byContradiction fun w => q4 (fun e => Classical.byContradiction fun e2 => w ⟨e, e2⟩)
          have hF3 : Inr c.2.2.1 1 2 := ⟨by have := q3.1; have := hF2.2; omega, q3.2⟩
          rw [Tr_true q1, Tr_true q2, Tr_true q3, Tr_true q1.2, dx (show (c.1.length : Int) ≤ 6 by have := q1.1; omega), int_eqt hF2.1, dx (show c.2.2.1 > 0 by have := hF3.1; omega), Tr_false hF]
          refine ⟨rfl, ?_⟩
          unfold impl_Client_isPossible impl_Client_isDone
          rw [int_eqf hF2.2, impl_within_eq, obind_some', Tr_true hF3, obind_some', int_eqt hF2.1]
          rfl
      · have hF : ¬ ClientP b c := fun w => q3 w.2.2.1
        rw [Tr_true q1, Tr_true q2, Tr_false q3, Tr_true q1.2, dx (show (c.1.length : Int) ≤ 6 by have := q1.1; omega), Tr_false hF]
        refine ⟨rfl, ?_⟩
        unfold impl_Client_isPossible
        rw [int_eqf (fun e => q3 ⟨by omega, by omega⟩), impl_within_eq, obind_some', Tr_false (fun w => q3 ⟨by have := w.1; omega, w.2⟩)]
        rfl
    · have hF : ¬ ClientP b c := fun w => q2 w.2.1
      rw [Tr_true q1, Tr_false q2, Tr_true q1.2, dx (show (c.1.length : Int) ≤ 6 by have := q1.1; omega), Tr_false hF]
      exact ⟨rfl, rfl⟩
  · have hF : ¬ ClientP b c := fun w => q1 w.1
    rw [Tr_false q1, Tr_false hF]
    refine ⟨rfl, ?_⟩
    by_cases h6 : (c.1.length : Int) ≤ 6
    · rw [dx h6, Tr_false (fun w => q1 ⟨by omega, w⟩)]; rfl
    · rw [dn h6]; rfl
end Go.Vx

end
section
set_option linter.unusedVariables false
set_option linter.unusedSimpArgs false
namespace Go.Vx
open Go Go.Proofs Go.RowKit Go.Lib
def EventAt (l : List Event) (i : Nat) : Prop := ∃ h : i < l.length, Inr l[i].1 1 1000000 ∧ Inr l[i].2.1 0 60 ∧ ∀ h0 : 0 < i, (l[i - 1]'(by omega)).1 < l[i].1 ∧ (l[i].2.2.1 = false → l[i].1 = (l[i - 1]'(by omega)).1 + 1)
def EventsP (l : List Event) : Prop := ∀ j, 0 ≤ j → j < l.length → EventAt l j
theorem loop_all0 {ρ β : Type} (l : Nat → Int → Option (LE ρ β)) (n : Nat) (P : Nat → Prop) (r0 : ρ) (y0 : β)
    (h0 : ∀ k, l (k + 1) (n : Int) = some (.brk y0))
    (h1 : ∀ (k i : Nat), i < n → (∀ j, j < i → P j) → l (k + 1) (i : Int) = cond (Tr (P i)) (l k ((i + 1 : Nat) : Int)) (some (.ret r0))) :
    ∀ (k i : Nat), i ≤ n → n < k + i → (∀ j, j < i → P j) → l k (i : Int) = some (cond (Tr (∀ j, j < n → P j)) (.brk y0) (.ret r0)) := by
  intro k
  induction k with
  | zero => intro i hi hk; omega
  | succ k ih =>
    intro i hi hk hb
    by_cases h : i = n
    · subst h
      rw [h0, Tr_true hb]
      rfl
    · rw [h1 k i (by omega) hb]
      by_cases hp : P i
      · rw [Tr_true hp]
        simp only [cond_true]
        rw [ih (i + 1) (by omega) (by omega) (fun j hj => by
          by_cases e : j = i
          · subst e; exact hp
          · exact hb j (by omega))]
      · rw [Tr_false hp, Tr_false (fun ha => hp (ha i (by omega)))]
        rfl
theorem event_prev {l : List Event} {i : Nat} (hb : ∀ j, j < i → EventAt l j) (h0 : 0 < i) (hi : i < l.length) : 1 ≤ (l[i - 1]'(by omega)).1 ∧ (l[i - 1]'(by omega)).1 ≤ 1000000 := by
  obtain ⟨_, q, _⟩ := hb (i - 1) (by omega)
  exact q
theorem spec_l06Events_eq (l : List Event) (hl : l.length ≤ 1048576) : spec_l06Events LP l = some (Tr (EventsP l)) := by
  have hLP := LP_ge
  have hloop := loop_all0 (fun k i => spec_l06Events.l2 LP k l i) l.length (EventAt l) false ()
    (fun k => by
      simp only [spec_l06Events.l2, spec_l06Events.b2]
      rw [decide_eq_false (by omega)]
      rfl) (fun k i hi hb => by
      simp only [spec_l06Events.l2, spec_l06Events.b2]
      rw [dx (by omega : (i : Int) < (l.length : Int)), cond_true, oget_lt hi, spec_l01In_eq, obind_some', spec_l01In_eq, obind_some']
      refine cond_ntr (fun q => ?_) (fun q1 => ?_)
      · rw [Tr_false (fun w => q w.2.1)]; rfl
      refine cond_ntr (fun q => ?_) (fun q2 => ?_)
      · rw [Tr_false (fun w => q w.2.2.1)]; rfl
      by_cases h0 : 0 < i
      · rw [dx (by omega : (i : Int) > 0), cond_true, cond_true, oget_pred h0 (by omega) (by omega)]
        obtain ⟨hp1, hp2⟩ := event_prev hb h0 hi
        by_cases hlt : l[i].1 ≤ l[i - 1].1
        · rw [dx hlt, Tr_false (fun w => by have := (w.2.2.2 h0).1; omega)]; rfl
        · rw [dn hlt, cond_false]
          cases hg : l[i].2.2.1 with
          | true =>
            rw [Tr_true ⟨hi, q1, q2, fun _ => ⟨by omega, fun e => by rw [hg] at e; cases e⟩⟩]
            simp only [Bool.not_true, cond_false, cond_true]
            rw [wrap_id (by omega) (by omega)]; rfl
          | false =>
            simp only [Bool.not_false, cond_true]
            rw [oget_pred h0 (by omega) (by omega), wrap_id (x := l[i - 1].1 + 1) (by omega) (by omega), int_ne]
            refine cond_ntr (fun q => ?_) (fun q => ?_)
            · rw [Tr_false (fun w => q ((w.2.2.2 h0).2 hg))]; rfl
            · rw [Tr_true ⟨hi, q1, q2, fun _ => ⟨by omega, fun _ => q⟩⟩, wrap_id (by omega) (by omega)]; rfl
      · rw [dn (by omega : ¬ (i : Int) > 0), cond_false, cond_false, Tr_true ⟨hi, q1, q2, fun h => absurd h h0⟩, wrap_id (by omega) (by omega)]; rfl) LP 0 (Nat.zero_le _) (by omega) (fun j hj => by omega)
  show obind (spec_l06Events.l2 LP LP l 0) _ = _
  rw [show spec_l06Events.l2 LP LP l 0 = _ from hloop]
  exact all_done rfl (fun q => some_true (fun j _ hj => q j hj)) (fun q w => q (fun j hj => w j (Nat.zero_le _) hj))
theorem impl_EventsOK_eq (l : List Event) (hl : l.length ≤ 1048576) : impl_EventsOK LP l = some (Tr (EventsP l ∧ l.length ≤ 4096)) := by
  have hLP := LP_ge
  have hloop := loop_all0 (fun k i => impl_EventsOK.l2 LP k l l (l.length : Int) i) l.length (EventAt l) false l
    (fun k => by
      simp only [impl_EventsOK.l2, impl_EventsOK.b2]
      rw [decide_eq_false (by omega)]
      rfl) (fun k i hi hb => by
      simp only [impl_EventsOK.l2, impl_EventsOK.b2]
      rw [dx (by omega : (i : Int) < (l.length : Int)), cond_true, oget_lt hi, impl_within_eq, obind_some', impl_within_eq, obind_some']
      refine cond_ntr (fun q => ?_) (fun q1 => ?_)
      · rw [Tr_false (fun w => q w.2.1)]; rfl
      refine cond_ntr (fun q => ?_) (fun q2 => ?_)
      · rw [Tr_false (fun w => q w.2.2.1)]; rfl
      by_cases h0 : 0 < i
      · rw [dx (by omega : (i : Int) > 0), cond_true, oget_pred h0 (by omega) (by omega)]
        obtain ⟨hp1, hp2⟩ := event_prev hb h0 hi
        by_cases hlt : l[i].1 ≤ l[i - 1].1
        · rw [dx hlt, Tr_false (fun w => by have := (w.2.2.2 h0).1; omega)]; rfl
        · rw [dn hlt, cond_false, oget_pred h0 (by omega) (by omega), wrap_id (x := l[i - 1].1 + 1) (by omega) (by omega)]
          by_cases hgt : l[i].1 > l[i - 1].1 + 1
          · rw [dx hgt, cond_true]
            cases hg : l[i].2.2.1 with
            | true =>
              rw [Tr_true ⟨hi, q1, q2, fun _ => ⟨by omega, fun e => by rw [hg] at e; cases e⟩⟩]
              simp only [Bool.not_true, cond_false, cond_true]
              rw [wrap_id (by omega) (by omega)]; rfl
            | false =>
              rw [Tr_false (fun w => by have := (w.2.2.2 h0).2 hg; omega)]
              rfl
          · rw [dn hgt, cond_false, Tr_true ⟨hi, q1, q2, fun _ => ⟨by omega, fun _ => by omega⟩⟩, wrap_id (by omega) (by omega)]; rfl
      · rw [dn (by omega : ¬ (i : Int) > 0), cond_false, Tr_true ⟨hi, q1, q2, fun h => absurd h h0⟩, wrap_id (by omega) (by omega)]; rfl) LP 0 (Nat.zero_le _) (by omega) (fun j hj => by omega)
  show obind (impl_EventsOK.l2 LP LP l l (l.length : Int) 0) _ = _
  rw [show impl_EventsOK.l2 LP LP l l (l.length : Int) 0 = _ from hloop]
  refine all_done rfl (fun q => some_dec ⟨fun w => ⟨fun j _ hj => q j hj, by omega⟩, fun w => by have := w.2; omega⟩) (fun q w => q (fun j hj => w.1 j (Nat.zero_le _) hj))

def WatchP (w : Watch) : Prop := NameP w.1 ∧ Inr w.2.1 0 1000000 ∧ w.2.2.1.length ≤ 4 ∧ EventsP w.2.2.1 ∧ (∀ h : 0 < w.2.2.1.length, (w.2.2.1[w.2.2.1.length - 1]'(by omega)).1 = w.2.1) ∧ ∀ j, 1 ≤ j → j < w.2.2.1.length → ∃ h : j < w.2.2.1.length, w.2.2.1[j].2.2.1 = false
theorem spec_l06OK_eq (w : Watch) (hw : Sm TWatch w) : spec_l06OK LP w = some (Tr (WatchP w)) := by
  have hLP := LP_ge
  obtain ⟨n, v, l, u⟩ := w
  have hl : l.length ≤ 1048576 := hw.2.2.1.1
  unfold spec_l06OK spec_l06OK.e
  simp only [spec_l00Word_eq, obind_some', spec_l01In_eq, spec_l06Events_eq l hl]
  refine cond_ntr (fun q => some_false (fun w => q w.1)) (fun q1 => ?_)
  refine cond_ntr (fun q => some_false (fun w => q w.2.1)) (fun q2 => ?_)
  by_cases h4 : (l.length : Int) > 4
  · rw [dx h4]
    exact some_false (fun w => by have : l.length ≤ 4 := w.2.2.1; omega)
  rw [dn h4, cond_false]
  refine cond_ntr (fun q => some_false (fun w => q w.2.2.2.1)) (fun q3 => ?_)
  have hloop := loop_all (fun k i => spec_l06OK.l5 LP k n v l (l.length : Int) i) l.length (fun j => ∃ h : j < l.length, l[j].2.2.1 = false) false ()
    (fun k => by
      simp only [spec_l06OK.l5, spec_l06OK.b5]
      rw [decide_eq_false (by omega)]
      rfl) (fun k i hi => by
      simp only [spec_l06OK.l5, spec_l06OK.b5]
      rw [dx (by omega : (i : Int) < (l.length : Int)), cond_true, oget_lt hi, wrap_id (by omega) (by omega)]
      cases hg : l[i].2.2.1 with
      | true => rw [Tr_false (fun w => by have := w.2; rw [hg] at this; cases this)]; rfl
      | false => rw [Tr_true ⟨hi, hg⟩]; rfl) LP
  by_cases h0 : 0 < l.length
  · rw [dx (by omega : (l.length : Int) > 0), cond_true, oget_pred h0 (by omega) hl, int_ne]
    refine cond_ntr (fun q => some_false (fun w => q (w.2.2.2.2.1 h0))) (fun q4 => ?_)
    rw [show spec_l06OK.l5 LP LP n v l (l.length : Int) 1 = _ from hloop 1 (by omega) (by omega)]
    exact all_done rfl (fun q => some_true ⟨q1, q2, (by omega : l.length ≤ 4), q3, fun _ => q4, q⟩) (fun q w => q w.2.2.2.2.2)
  · rw [dn (by omega : ¬ (l.length : Int) > 0), cond_false]
    have hnil : l.length = 0 := by omega
    have e1 : spec_l06OK.l5 LP LP n v l (l.length : Int) 1 = some (.brk ()) := by
      obtain ⟨k, hk⟩ : ∃ k, LP = k + 1 := ⟨LP - 1, by omega⟩
      show spec_l06OK.l5 LP LP n v l (l.length : Int) 1 = _
      rw [show spec_l06OK.l5 LP LP n v l (l.length : Int) 1 = spec_l06OK.l5 LP (k + 1) n v l (l.length : Int) 1 by rw [← hk]]
      simp only [spec_l06OK.l5, spec_l06OK.b5]
      rw [decide_eq_false (by omega)]
      rfl
    rw [e1]
    exact some_true ⟨q1, q2, (by omega : l.length ≤ 4), q3, fun h => absurd h h0, fun j h1 h2 => by have : j < l.length := h2; omega⟩
theorem impl_WatchOK_eq (w : Watch) (hw : Sm TWatch w) : impl_WatchOK LP w = some (Tr (WatchP w)) := by
  obtain ⟨n, v, l, u⟩ := w
  have hl : l.length ≤ 1048576 := hw.2.2.1.1
  unfold impl_WatchOK
  simp only [impl_NameOK_eq, obind_some', impl_within_eq, impl_EventsOK_eq l hl]
  refine cond_ntr (fun q => some_false (fun w => q w.1)) (fun q1 => ?_)
  refine cond_ntr (fun q => some_false (fun w => q w.2.1)) (fun q2 => ?_)
  by_cases h4 : (l.length : Int) > 4
  · rw [dx h4]
    exact some_false (fun w => by have : l.length ≤ 4 := w.2.2.1; omega)
  rw [dn h4, cond_false]
  refine cond_ntr (fun q => some_false (fun w => q ⟨w.2.2.2.1, by omega⟩)) (fun q3 => ?_)
  by_cases h0 : 0 < l.length
  · rw [int_eqf (by omega : (l.length : Int) ≠ 0), cond_false, oget_pred h0 (by omega) hl, int_tr]
    refine cond_tr (fun q4 => ?_) (fun q => some_false (fun w => q (w.2.2.2.2.1 h0)))
    rw [dx (by omega : (0:Int) ≤ 1), oif_true, dx (by omega : (1:Int) ≤ (l.length : Int)), oif_true]
    rw [impl_areAll_Event_eq (l.drop (1:Int).toNat) _ (fun e => e.2.2.1 = false) (by rw [List.length_drop]; omega) (fun x _ => by
      show impl_WatchOK_c1 x = _
      unfold impl_WatchOK_c1
      congr 1
      exact Tr_eq (by simp)), obind_some']
    refine some_tr ⟨fun h => ⟨q1, q2, (by omega : l.length ≤ 4), q3.1, fun _ => q4, fun j h1 h2 => ⟨h2, ?_⟩⟩, fun w x hx => ?_⟩
    · have h2 : j < l.length := h2
      have hj : j - 1 < (l.drop (1:Int).toNat).length := by rw [List.length_drop]; show j - 1 < l.length - 1; omega
      have := h _ (List.getElem_mem hj)
      rw [List.getElem_drop] at this
      have e : (1:Int).toNat + (j - 1) = j := by show 1 + (j - 1) = j; omega
      simp only [e] at this
      exact this
    · obtain ⟨j, hj, rfl⟩ := List.getElem_of_mem hx
      rw [List.getElem_drop]
      rw [List.length_drop] at hj
      have hj : j < l.length - 1 := hj
      obtain ⟨_, g⟩ := w.2.2.2.2.2 ((1:Int).toNat + j) (by show 1 ≤ 1 + j; omega) (by show 1 + j < l.length; omega)
      exact g
  · rw [int_eqt (by omega : (l.length : Int) = 0), cond_true]
    exact some_true ⟨q1, q2, (by omega : l.length ≤ 4), q3.1, fun h => absurd h h0, fun j h1 h2 => by have : j < l.length := h2; omega⟩
noncomputable def versionL (l : List Ref) (n : ByteArray) : Int := (impl_versionOf LP l n).getD 0
theorem version_both (l : List Ref) (n : ByteArray) (hl : l.length ≤ 1048576) : impl_versionOf LP l n = some (versionL l n) ∧ spec_l06New LP l n = some (n, versionL l n, ([] : List Event), ()) := by
  have : ∃ v, impl_versionOf LP l n = some v ∧ spec_l06New LP l n = some (n, v, ([] : List Event), ()) := by
    unfold impl_versionOf spec_l06New
    rw [impl_place_eq l n hl, spec_l04At_eq l n hl, obind_some', obind_some']
    rcases place_first l n hl with ⟨j, hj, e, _⟩ | ⟨e, _⟩
    · rw [e, dx (by omega), cond_true, cond_true, oget_lt hj, oget_lt hj]
      exact ⟨_, rfl, rfl⟩
    · rw [e]
      exact ⟨_, rfl, rfl⟩
  obtain ⟨v, h1, h2⟩ := this
  unfold versionL
  rw [h1, h2]
  exact ⟨rfl, rfl⟩
end Go.Vx

end
section
set_option linter.unusedVariables false
set_option linter.unusedSimpArgs false
namespace Go.Vx
open Go Go.Proofs Go.RowKit Go.Lib
def ResP (n : Nat) (r : Result) : Prop := Inr r.1 0 18 ∧ Inr r.2.1 0 n ∧ ValP r.2.2.1 ∧ r.2.2.2.1.length ≤ 24 ∧ MapP r.2.2.2.2.1
theorem res_chain (n : Nat) (r : Result) (hr : Sm TResult r) (K : Bool → Option Bool) (hK : ∀ b, K b = some b) : (cond (Tr (Inr r.1 0 18)) (cond (Tr (Inr r.2.1 0 n)) (cond (Tr (ValP r.2.2.1)) (cond (decide ((r.2.2.2.1.length : Int) ≤ (24:Int))) (K (Tr (MapP r.2.2.2.2.1))) (some false)) (some false)) (some false)) (some false)) = some (Tr (ResP n r)) := by
  refine cond_tr (fun q1 => ?_) (fun q => some_false (fun w => q w.1))
  refine cond_tr (fun q2 => ?_) (fun q => some_false (fun w => q w.2.1))
  refine cond_tr (fun q3 => ?_) (fun q => some_false (fun w => q w.2.2.1))
  by_cases h : (r.2.2.2.1.length : Int) ≤ 24
  · rw [dx h, cond_true, hK]
    exact some_tr ⟨fun w => ⟨q1, q2, q3, by omega, w⟩, fun w => w.2.2.2.2⟩
  · rw [dn h]
    exact some_false (fun w => by have := w.2.2.2.1; omega)
theorem impl_isResult_eq (n : Nat) (r : Result) (hr : Sm TResult r) : impl_isResult LP r (n : Int) = some (Tr (ResP n r)) := by
  have hl : r.2.2.2.2.1.length ≤ 1048576 := hr.2.2.2.2.1.1
  unfold impl_isResult impl_isCode
  simp only [impl_within_eq, obind_some', impl_isValue_eq, impl_MapOK_eq _ hl]
  exact res_chain n r hr some (fun b => rfl)
def ZeroP (o : Op) : Prop := o.1 = 0 ∧ o.2.1 = 0 ∧ o.2.2.1 = (⟨#[]⟩ : ByteArray) ∧ o.2.2.2.1 = (⟨#[]⟩ : ByteArray) ∧ o.2.2.2.2.1.length = 0
def MomentP (w : World) (m : Moment) : Prop := ∃ h : Inr m.1 1 w.2.1.length, Inr m.2.1 1 (w.2.1[m.1.toNat - 1]'(by have := h.1; have := h.2; omega)).2.1 ∧ Inr m.2.2.1 1 w.2.2.2.2.1 ∧ (ZeroP m.2.2.2.1 ∨ OpP m.2.2.2.1) ∧ ResP w.1.1.length m.2.2.2.2.1
theorem impl_Op_isZero_eq (o : Op) : impl_Op_isZero o = some (Tr (ZeroP o)) := by
  unfold impl_Op_isZero
  simp only [int_tr, seq_tr]
  refine cond_tr (fun q1 => ?_) (fun q => some_false (fun w => q w.1))
  refine cond_tr (fun q2 => ?_) (fun q => some_false (fun w => q w.2.1))
  refine cond_tr (fun q3 => ?_) (fun q => some_false (fun w => q w.2.2.1))
  refine cond_tr (fun q4 => ?_) (fun q => some_false (fun w => q w.2.2.2.1))
  exact some_tr ⟨fun w => ⟨q1, q2, q3, q4, by omega⟩, fun w => by have := w.2.2.2.2; omega⟩
theorem oget_pred' {R α : Type} {s : List α} {n : Int} (h1 : 1 ≤ n) (h2 : n ≤ s.length) (hl : s.length ≤ 1048576) (K : α → Option R) : oget s (IntKind.i64.wrap (n - 1)) K = K (s[n.toNat - 1]'(by omega)) := by
  have : n = ((n.toNat : Nat) : Int) := by omega
  rw [show IntKind.i64.wrap (n - 1) = IntKind.i64.wrap (((n.toNat : Nat) : Int) - 1) by rw [← this]]
  exact oget_pred (by omega) (by omega) hl K
theorem spec_l08Moment_eq (w : World) (m : Moment) (hw : w.2.1.length ≤ 1048576) (hm : Sm TMoment m) : spec_l08Moment LP w m = some (Tr (MomentP w m)) := by
  have hl : m.2.2.2.2.1.2.2.2.2.1.length ≤ 1048576 := hm.2.2.2.2.1.2.2.2.2.1.1
  have hres := res_chain w.1.1.length m.2.2.2.2.1 hm.2.2.2.2.1 some (fun b => rfl)
  unfold spec_l08Moment
  rw [spec_l01In_eq, obind_some']
  refine cond_tr (fun q1 => ?_) (fun q => some_false (fun x => q x.1))
  rw [oget_pred' q1.1 q1.2 hw, spec_l01In_eq, obind_some']
  refine cond_tr (fun q2 => ?_) (fun q => some_false (fun x => q x.2.1))
  rw [spec_l01In_eq, obind_some']
  refine cond_tr (fun q3 => ?_) (fun q => some_false (fun x => q x.2.2.1))
  simp only [spec_l01In_eq, obind_some', spec_l05Op_eq _ hm.2.2.2.1, spec_l01OK_eq _ hl, show ∀ x : Int, Inr x (-1000000) 1000000 = ValP x from fun _ => rfl, hres, int_tr, seq_tr]
  have hz : cond (Tr (m.2.2.2.1.1 = 0)) (cond (Tr (m.2.2.2.1.2.2.1 = (⟨#[]⟩ : ByteArray))) (cond (Tr (m.2.2.2.1.2.1 = 0)) (cond (Tr (m.2.2.2.1.2.2.2.1 = (⟨#[]⟩ : ByteArray))) (Tr ((m.2.2.2.1.2.2.2.2.1.length : Int) = 0)) false) false) false) false = Tr (ZeroP m.2.2.2.1) := by
    refine cond_tr (fun w1 => ?_) (fun q => (Tr_false (fun w => q w.1)).symm)
    refine cond_tr (fun w2 => ?_) (fun q => (Tr_false (fun w => q w.2.2.1)).symm)
    refine cond_tr (fun w3 => ?_) (fun q => (Tr_false (fun w => q w.2.1)).symm)
    refine cond_tr (fun w4 => ?_) (fun q => (Tr_false (fun w => q w.2.2.2.1)).symm)
    exact Tr_congr ⟨fun w => ⟨w1, w3, w2, w4, by omega⟩, fun w => by have := w.2.2.2.2; omega⟩
  have hfin : some (cond (Tr (ZeroP m.2.2.2.1)) (Tr (ResP w.1.1.length m.2.2.2.2.1)) (cond (Tr (OpP m.2.2.2.1)) (Tr (ResP w.1.1.length m.2.2.2.2.1)) false)) = some (Tr (MomentP w m)) := by
    congr 1
    refine cond_tr (fun z => Tr_congr ⟨fun r => ⟨q1, q2, q3, .inl z, r⟩, fun x => x.2.2.2.2⟩) (fun z => ?_)
    exact cond_tr (fun o => Tr_congr ⟨fun r => ⟨q1, q2, q3, .inr o, r⟩, fun x => x.2.2.2.2⟩) (fun o => (Tr_false (fun x => x.2.2.2.1.elim z o)).symm)
  rw [← hfin, ← hz]
  generalize Tr (m.2.2.2.1.1 = 0) = A
  generalize Tr (m.2.2.2.1.2.1 = 0) = B
  generalize Tr (m.2.2.2.1.2.2.1 = (⟨#[]⟩ : ByteArray)) = C
  generalize Tr (m.2.2.2.1.2.2.2.1 = (⟨#[]⟩ : ByteArray)) = D
  generalize Tr ((m.2.2.2.1.2.2.2.2.1.length : Int) = 0) = E
  generalize Tr (OpP m.2.2.2.1) = F
  cases A <;> cases B <;> cases C <;> cases D <;> cases E <;> cases F <;> rfl
theorem impl_isMoment_eq (w : World) (m : Moment) (hw : w.2.1.length ≤ 1048576) (hm : Sm TMoment m) : impl_World_isMoment LP w m = some (Tr (MomentP w m)) := by
  unfold impl_World_isMoment
  rw [impl_within_eq, obind_some']
  refine cond_tr (fun q1 => ?_) (fun q => some_false (fun x => q x.1))
  rw [oget_pred' q1.1 q1.2 hw, impl_within_eq, obind_some']
  refine cond_tr (fun q2 => ?_) (fun q => some_false (fun x => q x.2.1))
  rw [impl_within_eq, obind_some']
  refine cond_tr (fun q3 => ?_) (fun q => some_false (fun x => q x.2.2.1))
  rw [impl_Op_isZero_eq, obind_some', impl_OpOK_eq _ hm.2.2.2.1, obind_some', impl_isResult_eq _ _ hm.2.2.2.2.1, obind_some']
  refine cond_tr (fun z => some_tr ⟨fun r => ⟨q1, q2, q3, .inl z, r⟩, fun x => x.2.2.2.2⟩) (fun z => ?_)
  exact cond_tr (fun o => some_tr ⟨fun r => ⟨q1, q2, q3, .inr o, r⟩, fun x => x.2.2.2.2⟩) (fun o => some_false (fun x => x.2.2.2.1.elim z o))
end Go.Vx

end
section
set_option linter.unusedVariables false
set_option linter.unusedSimpArgs false
namespace Go.Vx
open Go Go.Proofs Go.RowKit Go.Lib
theorem loop_sum {α ρ β : Type} (l : Nat → Int → Int → Option (LE ρ β)) (cs : List α) (P : α → Prop) (f : α → Int) (hf : ∀ c, P c → 0 ≤ f c ∧ f c ≤ 6) (r0 : ρ) (y : Int → β)
    (h0 : ∀ k s, l (k + 1) (cs.length : Int) s = some (.brk (y s)))
    (h1 : ∀ (k i : Nat) (s : Int) (hi : i < cs.length), 0 ≤ s → s ≤ 6 * (i : Int) → l (k + 1) (i : Int) s = cond (Tr (P cs[i])) (l k ((i + 1 : Nat) : Int) (s + f cs[i])) (some (.ret r0))) :
    ∀ (k : Nat), cs.length < k → l k 0 0 = some (cond (Tr (∀ c ∈ cs, P c)) (.brk (y (cs.map f).sum)) (.ret r0)) := by
  intro k hk
  have := loop_ind l cs.length (fun i s => 0 ≤ s ∧ s ≤ 6 * (i : Int)) (fun i s => cond (Tr (∀ c ∈ cs.drop i, P c)) (.brk (y (s + ((cs.drop i).map f).sum))) (.ret r0))
    (fun k s hs => by
      rw [h0, List.drop_length, Tr_true (fun c hc => by cases hc)]
      simp) (fun k i s hi hs ih => by
      rw [h1 k i s hi hs.1 hs.2, drop_cons hi]
      by_cases hp : P cs[i]
      · obtain ⟨f1, f2⟩ := hf _ hp
        rw [Tr_true hp, cond_true, ih _ ⟨by omega, by omega⟩]
        rw [Tr_congr (q := ∀ c ∈ cs[i] :: cs.drop (i + 1), P c) ⟨fun h c hc => by
          cases hc with
          | head => exact hp
          | tail _ hc => exact h c hc, fun h c hc => h c (List.mem_cons_of_mem _ hc)⟩]
        rw [List.map_cons, List.sum_cons, Int.add_assoc]
      · rw [Tr_false hp, Tr_false (fun h => hp (h _ (List.mem_cons_self ..)))]
        rfl) k 0 0 (Nat.zero_le _) (by omega) ⟨by omega, by omega⟩
  simpa using this
theorem loop_from {ρ β : Type} (l : Nat → Int → Option (LE ρ β)) (n lo : Nat) (P : Nat → Prop) (r0 : ρ) (y0 : β)
    (h0 : ∀ k i : Nat, n ≤ i → l (k + 1) (i : Int) = some (.brk y0))
    (h1 : ∀ (k i : Nat), lo ≤ i → i < n → l (k + 1) (i : Int) = cond (Tr (P i)) (l k ((i + 1 : Nat) : Int)) (some (.ret r0))) :
    ∀ (k i : Nat), lo ≤ i → n < k + i → 0 < k → l k (i : Int) = some (cond (Tr (∀ j, i ≤ j → j < n → P j)) (.brk y0) (.ret r0)) := by
  intro k
  induction k with
  | zero => intro i hi hk hk0; omega
  | succ k ih =>
    intro i hi hk _
    by_cases h : n ≤ i
    · rw [h0 k i h, Tr_true (fun j h1 h2 => by omega)]
      rfl
    · rw [h1 k i hi (by omega)]
      by_cases hp : P i
      · rw [Tr_true hp]
        simp only [cond_true]
        rw [ih (i + 1) (by omega) (by omega) (by omega)]
        rw [Tr_congr (q := ∀ j, i ≤ j → j < n → P j) ⟨fun ha j h1 h2 => by
          by_cases e : j = i
          · subst e; exact hp
          · exact ha j (by omega) h2, fun ha j h1 h2 => ha j (by omega) h2⟩]
      · rw [Tr_false hp, Tr_false (fun ha => hp (ha i (Nat.le_refl _) (by omega)))]
        rfl
def doneSum (cs : List Client) : Int := (cs.map fun c => c.2.1).sum
def Times (ms : List Moment) : Prop := ∀ j, 1 ≤ j → j < ms.length → ∃ h : j < ms.length, (ms[j - 1]'(by omega)).2.2.1 < ms[j].2.2.1
def WorldP (w : World) : Prop := BaseP w.1 ∧ w.2.1.length ≤ 5 ∧ w.2.2.1.length ≤ 3 ∧ Inr w.2.2.2.2.1 0 1000000 ∧ (∀ c ∈ w.2.1, ClientP w.1 c) ∧ (w.2.2.2.1.length : Int) = doneSum w.2.1 ∧ (∀ m ∈ w.2.2.2.1, MomentP w m) ∧ Times w.2.2.2.1 ∧ ∀ v ∈ w.2.2.1, WatchP v ∧ v.2.1 = versionL w.1.2.1 v.1
theorem client_range {b : Base} {c : Client} (h : ClientP b c) : 0 ≤ c.2.1 ∧ c.2.1 ≤ 6 := by
  obtain ⟨⟨h1, _⟩, ⟨h2, h3⟩, _⟩ := h
  omega
theorem sm_mem {t : Ty} {xs : List (Den t)} (h : Sm (.sl t) xs) {i : Nat} (hi : i < xs.length) : Sm t xs[i] := h.2 _ (List.getElem_mem hi)
theorem spec_l08OK_eq (w : World) (hw : Sm TWorld w) : spec_l08OK LP w = some (Tr (WorldP w)) := by
  have hLP := LP_ge
  obtain ⟨⟨cm, rf, u⟩, cs, ws, ms, clk, v⟩ := w
  cases u
  cases v
  have hb : Sm TBase (cm, rf, ()) := hw.1
  have hcs : Sm (.sl TClient) cs := hw.2.1
  have hws : Sm (.sl TWatch) ws := hw.2.2.1
  have hms : Sm (.sl TMoment) ms := hw.2.2.2.1
  have hcm : Sm (.sl TCommit) cm := hb.1
  have hrl : rf.length ≤ 1048576 := hb.2.1.1
  have hcl : cs.length ≤ 1048576 := hcs.1
  have hwl : ws.length ≤ 1048576 := hws.1
  have hml : ms.length ≤ 1048576 := hms.1
  unfold spec_l08OK spec_l08OK.e
  simp only [spec_l05OK_eq _ hb, obind_some', spec_l01In_eq]
  refine cond_ntr (fun q => some_false (fun w => q w.1)) (fun q1 => ?_)
  by_cases h5 : (cs.length : Int) > 5
  · rw [dx h5]
    exact some_false (fun w => by have : cs.length ≤ 5 := w.2.1; omega)
  rw [dn h5, cond_false]
  by_cases h3 : (ws.length : Int) > 3
  · rw [dx h3]
    exact some_false (fun w => by have : ws.length ≤ 3 := w.2.2.1; omega)
  rw [dn h3, cond_false]
  refine cond_ntr (fun q => some_false (fun w => q w.2.2.2.1)) (fun q2 => ?_)
  have hl1 := loop_sum (fun k i s => spec_l08OK.l5 LP k cm rf cs ws ms clk s i) cs (ClientP (cm, rf, ())) (fun c => c.2.1) (fun c hc => client_range hc) false (fun s => (cm, rf, cs, ws, ms, clk, s))
    (fun k s => by
      simp only [spec_l08OK.l5, spec_l08OK.b5]
      rw [decide_eq_false (by omega)]
      rfl) (fun k i s hi hs1 hs2 => by
      simp only [spec_l08OK.l5, spec_l08OK.b5]
      rw [dx (by omega : (i : Int) < (cs.length : Int)), cond_true, oget_lt hi, (client_both (cm, rf, ()) q1.1 hcm _ (sm_mem hcs hi)).1, obind_some', oget_lt hi]
      refine cond_ntr (fun q => ?_) (fun q => ?_)
      · rw [Tr_false q]; rfl
      · have := client_range q
        rw [Tr_true q, wrap_id (by omega) (by omega), wrap_id (by omega) (by omega)]; rfl) LP (by omega)
  rw [show spec_l08OK.l5 LP LP cm rf cs ws ms clk 0 0 = _ from hl1]
  refine all_done rfl (fun q3 => ?_) (fun q w => q w.2.2.2.2.1)
  have hl2 := loop_all (fun k i => spec_l08OK.l11 LP k cm rf cs ws ms clk (doneSum cs) i) ws.length (fun j => ∃ h : j < ws.length, WatchP ws[j] ∧ ws[j].2.1 = versionL rf ws[j].1) false (cm, rf, cs, ws, ms, clk, doneSum cs)
    (fun k => by
      simp only [spec_l08OK.l11, spec_l08OK.b11]
      rw [decide_eq_false (by omega)]
      rfl) (fun k i hi => by
      simp only [spec_l08OK.l11, spec_l08OK.b11]
      rw [dx (by omega : (i : Int) < (ws.length : Int)), cond_true, oget_lt hi, spec_l06OK_eq _ (sm_mem hws hi), obind_some', (version_both rf ws[i].1 hrl).2, obind_some', int_ne]
      refine cond_ntr (fun q => ?_) (fun q4 => ?_)
      · rw [Tr_false (fun w => q w.2.1)]; rfl
      refine cond_ntr (fun q => ?_) (fun q5 => ?_)
      · rw [Tr_false (fun w => q w.2.2.symm)]; rfl
      · rw [Tr_true ⟨hi, q4, q5.symm⟩, wrap_id (by omega) (by omega)]; rfl) LP 0 (Nat.zero_le _) (by omega)
  unfold spec_l08OK.a5
  rw [show (cs.map fun c => c.2.1).sum = doneSum cs from rfl]
  show obind (spec_l08OK.l11 LP LP cm rf cs ws ms clk (doneSum cs) 0) _ = _
  rw [show spec_l08OK.l11 LP LP cm rf cs ws ms clk (doneSum cs) 0 = _ from hl2]
  refine all_done rfl (fun q4 => ?_) (fun q w => q (fun j _ hj => ⟨hj, w.2.2.2.2.2.2.2.2 _ (List.getElem_mem hj)⟩))
  unfold spec_l08OK.a11
  simp only [int_ne]
  refine cond_ntr (fun q => some_false (fun w => q w.2.2.2.2.2.1)) (fun q5 => ?_)
  have hl3 := loop_all (fun k i => spec_l08OK.l19 LP k cm rf cs ws ms clk i) ms.length (fun j => ∃ h : j < ms.length, MomentP ((cm, rf, ()), cs, ws, ms, clk, ()) ms[j] ∧ (1 ≤ j → (ms[j - 1]'(by omega)).2.2.1 < ms[j].2.2.1)) false ()
    (fun k => by
      simp only [spec_l08OK.l19, spec_l08OK.b19]
      rw [decide_eq_false (by omega)]
      rfl) (fun k i hi => by
      simp only [spec_l08OK.l19, spec_l08OK.b19]
      rw [dx (by omega : (i : Int) < (ms.length : Int)), cond_true, oget_lt hi, spec_l08Moment_eq ((cm, rf, ()), cs, ws, ms, clk, ()) _ hcl (sm_mem hms hi), obind_some', oget_lt hi]
      refine cond_ntr (fun q => ?_) (fun q6 => ?_)
      · rw [Tr_false (fun w => q w.2.1)]; rfl
      by_cases h0 : 0 < i
      · rw [dx (by omega : (i : Int) > 0), cond_true, oget_pred h0 (by omega) hml]
        by_cases hlt : ms[i].2.2.1 ≤ ms[i - 1].2.2.1
        · rw [dx hlt, Tr_false (fun w => by have := w.2.2 h0; omega)]; rfl
        · rw [dn hlt, Tr_true ⟨hi, q6, fun _ => by omega⟩, wrap_id (by omega) (by omega)]; rfl
      · rw [dn (by omega : ¬ (i : Int) > 0), Tr_true ⟨hi, q6, fun h => absurd h h0⟩, wrap_id (x := (i : Int) + 1) (by omega) (by omega)]; rfl) LP 0 (Nat.zero_le _) (by omega)
  show obind (spec_l08OK.l19 LP LP cm rf cs ws ms clk 0) _ = _
  rw [show spec_l08OK.l19 LP LP cm rf cs ws ms clk 0 = _ from hl3]
  refine all_done rfl (fun q6 => some_true ⟨q1, (by omega : cs.length ≤ 5), (by omega : ws.length ≤ 3), q2, q3, q5, fun m hm => ?_, fun j h1 h2 => ?_, fun v hv => ?_⟩) (fun q w => q (fun j _ hj => ⟨hj, w.2.2.2.2.2.2.1 _ (List.getElem_mem hj), fun h1 => (w.2.2.2.2.2.2.2.1 j h1 hj).2⟩))
  · obtain ⟨j, hj, rfl⟩ := List.getElem_of_mem hm
    exact (q6 j (Nat.zero_le _) hj).2.1
  · exact ⟨h2, (q6 j (Nat.zero_le _) h2).2.2 h1⟩
  · obtain ⟨j, hj, rfl⟩ := List.getElem_of_mem hv
    exact (q4 j (Nat.zero_le _) hj).2
theorem impl_WorldOK_eq (w : World) (hw : Sm TWorld w) : impl_WorldOK LP w = some (Tr (WorldP w)) := by
  have hLP := LP_ge
  obtain ⟨⟨cm, rf, u⟩, cs, ws, ms, clk, v⟩ := w
  cases u
  cases v
  have hb : Sm TBase (cm, rf, ()) := hw.1
  have hcs : Sm (.sl TClient) cs := hw.2.1
  have hws : Sm (.sl TWatch) ws := hw.2.2.1
  have hms : Sm (.sl TMoment) ms := hw.2.2.2.1
  have hcm : Sm (.sl TCommit) cm := hb.1
  have hrl : rf.length ≤ 1048576 := hb.2.1.1
  have hcl : cs.length ≤ 1048576 := hcs.1
  have hwl : ws.length ≤ 1048576 := hws.1
  have hml : ms.length ≤ 1048576 := hms.1
  unfold impl_WorldOK impl_WorldOK.e
  simp only [impl_BaseOK_eq _ hb, obind_some', impl_within_eq]
  refine cond_ntr (fun q => some_false (fun w => q w.1)) (fun q1 => ?_)
  by_cases h5 : (cs.length : Int) > 5
  · rw [dx h5]
    exact some_false (fun w => by have : cs.length ≤ 5 := w.2.1; omega)
  rw [dn h5, cond_false]
  by_cases h3 : (ws.length : Int) > 3
  · rw [dx h3]
    exact some_false (fun w => by have : ws.length ≤ 3 := w.2.2.1; omega)
  rw [dn h3, cond_false]
  refine cond_ntr (fun q => some_false (fun w => q w.2.2.2.1)) (fun q2 => ?_)
  have hl1 := loop_sum (fun k i s => impl_WorldOK.l5 LP k cm rf cs ws ms clk s cs (cs.length : Int) i) cs (ClientP (cm, rf, ())) (fun c => c.2.1) (fun c hc => client_range hc) false (fun s => (cm, rf, cs, ws, ms, clk, s))
    (fun k s => by
      simp only [impl_WorldOK.l5, impl_WorldOK.b5]
      rw [decide_eq_false (by omega)]
      rfl) (fun k i s hi hs1 hs2 => by
      simp only [impl_WorldOK.l5, impl_WorldOK.b5]
      rw [dx (by omega : (i : Int) < (cs.length : Int)), cond_true, oget_lt hi, (client_both (cm, rf, ()) q1.1 hcm _ (sm_mem hcs hi)).2, obind_some']
      refine cond_ntr (fun q => ?_) (fun q => ?_)
      · rw [Tr_false q]; rfl
      · have := client_range q
        rw [Tr_true q, wrap_id (by omega) (by omega), wrap_id (by omega) (by omega)]; rfl) LP (by omega)
  rw [show impl_WorldOK.l5 LP LP cm rf cs ws ms clk 0 cs (cs.length : Int) 0 = _ from hl1]
  refine all_done rfl (fun q3 => ?_) (fun q w => q w.2.2.2.2.1)
  unfold impl_WorldOK.a5
  rw [show (cs.map fun c => c.2.1).sum = doneSum cs from rfl]
  simp only [int_ne]
  refine cond_ntr (fun q => some_false (fun w => q w.2.2.2.2.2.1)) (fun q5 => ?_)
  rw [show impl_areAll_Moment LP ms (fun w => impl_World_isMoment LP ((cm, rf, ()), cs, ws, ms, clk, ()) w.1) = _ from impl_areAll_Moment_eq ms _ (MomentP ((cm, rf, ()), cs, ws, ms, clk, ())) hml (fun m hm => impl_isMoment_eq ((cm, rf, ()), cs, ws, ms, clk, ()) m hcl (hms.2 m hm)), obind_some']
  refine cond_ntr (fun q => some_false (fun w => q w.2.2.2.2.2.2.1)) (fun q6 => ?_)
  have hend : ∀ k i : Nat, ms.length ≤ i → impl_WorldOK.l14 LP (k + 1) cm rf cs ws ms clk (i : Int) = some (.brk (cm, rf, cs, ws, ms, clk)) := fun k i hi => by
    simp only [impl_WorldOK.l14, impl_WorldOK.b14]
    rw [decide_eq_false (by omega)]
    rfl
  have hl2 := loop_from (fun k i => impl_WorldOK.l14 LP k cm rf cs ws ms clk i) ms.length 1 (fun j => ∃ h : j < ms.length, (ms[j - 1]'(by omega)).2.2.1 < ms[j].2.2.1) false (cm, rf, cs, ws, ms, clk)
    hend (fun k i hi1 hi => by
      simp only [impl_WorldOK.l14, impl_WorldOK.b14]
      rw [dx (by omega : (i : Int) < (ms.length : Int)), cond_true, oget_lt hi, oget_pred hi1 (by omega) hml]
      by_cases hlt : ms[i].2.2.1 ≤ ms[i - 1].2.2.1
      · rw [dx hlt, Tr_false (fun w => by have := w.2; omega)]; rfl
      · rw [dn hlt, Tr_true ⟨hi, by omega⟩, wrap_id (by omega) (by omega)]; rfl) LP 1 (Nat.le_refl _) (by omega) (by omega)
  show obind (impl_WorldOK.l14 LP LP cm rf cs ws ms clk 1) _ = _
  rw [show impl_WorldOK.l14 LP LP cm rf cs ws ms clk 1 = _ from hl2]
  refine all_done rfl (fun q7 => ?_) (fun q w => q (fun j h1 hj => w.2.2.2.2.2.2.2.1 j h1 hj))
  unfold impl_WorldOK.a14
  simp only
  rw [impl_areAll_Watch_eq ws _ (fun v => WatchP v ∧ v.2.1 = versionL rf v.1) hwl (fun v hv => by
    show impl_WorldOK_c1 LP v _ = _
    unfold impl_WorldOK_c1
    rw [impl_WatchOK_eq _ (hws.2 v hv), obind_some', (version_both rf v.1 hrl).1, obind_some', int_tr]
    exact cond_tr (fun q => some_tr ⟨fun w => ⟨q, w⟩, fun w => w.2⟩) (fun q => some_false (fun w => q w.1)))]
  exact some_tr ⟨fun h => ⟨q1, (by omega : cs.length ≤ 5), (by omega : ws.length ≤ 3), q2, q3, q5, q6, q7, h⟩, fun w => w.2.2.2.2.2.2.2.2⟩
end Go.Vx

end
section
set_option linter.unusedVariables false
set_option linter.unusedSimpArgs false
namespace Go.Vx
open Go Go.Proofs Go.RowKit Go.Lib
theorem law_guard (x : World) (hw : Wf TWorld x) {K : Option Bool} (hK : Sm TWorld x → K = some true) : (obind (laws_szWorld LP x (1048576:Int)) fun (t1 : Int) => cond (decide (t1 < (0:Int))) (some true) K) = some true := by
  rw [laws_szWorld_eq x 1048576 hw ⟨by omega, by omega⟩, obind_some']
  by_cases h : tot TWorld x ≤ 1048576
  · rw [hK (sm_of_tot h)]
    cases decide (dec 1048576 (tot TWorld x) < 0) <;> rfl
  · rw [dec_gt (by omega)]
    rfl
theorem law_tail (x : World) (hs : Sm TWorld x) : (obind (some x) fun (t6 : World) => obind (laws_eqWorld LP x t6) fun (t7 : Bool) => cond (!t7) (some false) (some true)) = some true := by
  rw [obind_some', laws_eqWorld_eq x x hs, obind_some', Tr_true rfl]
  rfl
theorem pair_same (a b : Int) (h : a = b) {K : Option Bool} (hK : K = some true) : cond (a != b) (some false) K = some true := by
  rw [int_ne, Tr_true h, hK]
  rfl
end Go.Vx

end
section
set_option linter.unusedVariables false
set_option linter.unusedSimpArgs false
namespace Go.Vx
open Go Go.Proofs Go.RowKit Go.Lib
theorem wrap_succ {i n : Nat} (h : i < n) (hn : n ≤ 1048576) : IntKind.i64.wrap ((i : Int) + 1) = ((i + 1 : Nat) : Int) := by
  rw [wrap_id (by omega) (by omega)]; omega
theorem loop_two {σ ρ β : Type} (l1 l2 : Nat → Int → σ → Option (LE ρ β)) (n : Nat)
    (h0 : ∀ k s, ∃ r, l1 (k + 1) (n : Int) s = some (.brk r) ∧ l2 (k + 1) (n : Int) s = some (.brk r))
    (h1 : ∀ (k i : Nat) s, i < n → ∃ s', l1 (k + 1) (i : Int) s = l1 k ((i + 1 : Nat) : Int) s' ∧ l2 (k + 1) (i : Int) s = l2 k ((i + 1 : Nat) : Int) s') :
    ∀ (k i : Nat) (s : σ), i ≤ n → n < k + i → ∃ r, l1 k (i : Int) s = some (.brk r) ∧ l2 k (i : Int) s = some (.brk r) := by
  intro k
  induction k with
  | zero => intro i s hi hk; omega
  | succ k ih =>
    intro i s hi hk
    by_cases h : i = n
    · subst h; exact h0 k s
    · obtain ⟨s', e1, e2⟩ := h1 k i s (by omega)
      rw [e1, e2]
      exact ih (i + 1) s' (by omega) (by omega)
theorem tally_both (w : World) (hw : Sm TWorld w) : ∃ r, spec_TallyOf LP w = some r ∧ impl_TallyOf LP w = some r := by
  have hLP := LP_ge
  obtain ⟨⟨cm, rf, u⟩, cs, ws, ms, clk, v⟩ := w
  have hml : ms.length ≤ 1048576 := hw.2.2.2.1.1
  unfold spec_TallyOf spec_TallyOf.e impl_TallyOf
  rw [spec_l08OK_eq _ hw, impl_WorldOK_eq _ hw, obind_some', obind_some']
  cases Tr (WorldP ((cm, rf, u), cs, ws, ms, clk, v)) with
  | false => exact ⟨_, rfl, rfl⟩
  | true =>
    obtain ⟨r, e1, e2⟩ := loop_two (σ := Int × Int × Int × Int × Int × Int) (ρ := Empty) (fun k i s => spec_TallyOf.l5 LP k cm rf cs ws ms clk i 0 0 0 0 0 0 s.1 s.2.1 s.2.2.1 s.2.2.2.1 s.2.2.2.2.1 s.2.2.2.2.2)
      (fun k i s => impl_World_tally.l3 LP k ms (ms.length : Int) i 0 0 0 0 0 0 s.1 s.2.1 s.2.2.1 s.2.2.2.1 s.2.2.2.2.1 s.2.2.2.2.2) ms.length
      (fun k s => by
        simp only [spec_TallyOf.l5, spec_TallyOf.b5, impl_World_tally.l3, impl_World_tally.b3]
        rw [decide_eq_false (by omega)]
        exact ⟨_, rfl, rfl⟩) (fun k i s hi => by
        obtain ⟨a, b, c, d, e, f⟩ := s
        simp only [spec_TallyOf.l5, spec_TallyOf.b5, impl_World_tally.l3, impl_World_tally.b3]
        rw [dx (by omega : (i : Int) < (ms.length : Int))]
        simp only [cond_true, oget_lt hi, wrap_succ hi hml]
        generalize (ms[i].2.2.2.2.1.1 == 0) = A
        generalize (ms[i].2.2.2.2.1.1 == 11) = B
        generalize (ms[i].2.2.2.2.1.1 == 18) = C
        generalize (ms[i].2.2.2.2.1.1 == 12) = D
        cases A
        · cases B
          · cases C
            · cases D
              · exact ⟨(a, b, c, d, e, IntKind.i64.wrap (f + 1)), rfl, rfl⟩
              · exact ⟨(a, b, c, d, IntKind.i64.wrap (e + 1), f), rfl, rfl⟩
            · exact ⟨(a, b, c, IntKind.i64.wrap (d + 1), e, f), rfl, rfl⟩
          · exact ⟨(a, b, IntKind.i64.wrap (c + 1), d, e, f), rfl, rfl⟩
        · exact ⟨(a, IntKind.i64.wrap (b + 1), c, d, e, f), rfl, rfl⟩) LP 0 ((ms.length : Int), 0, 0, 0, 0, 0) (Nat.zero_le _) (by omega)
    refine ⟨((r.2.2.2.2.2.2.1, r.2.2.2.2.2.2.2.1, r.2.2.2.2.2.2.2.2.1, r.2.2.2.2.2.2.2.2.2.1, r.2.2.2.2.2.2.2.2.2.2.1, r.2.2.2.2.2.2.2.2.2.2.2, ()), 0), ?_, ?_⟩
    · show obind (spec_TallyOf.l5 LP LP cm rf cs ws ms clk 0 0 0 0 0 0 0 (ms.length : Int) 0 0 0 0 0) _ = _
      rw [show spec_TallyOf.l5 LP LP cm rf cs ws ms clk 0 0 0 0 0 0 0 (ms.length : Int) 0 0 0 0 0 = _ from e1]
      rfl
    · show obind (obind (impl_World_tally.l3 LP LP ms (ms.length : Int) 0 0 0 0 0 0 0 (ms.length : Int) 0 0 0 0 0) _) _ = _
      rw [show impl_World_tally.l3 LP LP ms (ms.length : Int) 0 0 0 0 0 0 0 (ms.length : Int) 0 0 0 0 0 = _ from e2]
      rfl
theorem eqTally_refl (t : Tally) : laws_eqTally t t = some true := by
  unfold laws_eqTally
  exact pair_same _ _ rfl (pair_same _ _ rfl (pair_same _ _ rfl (pair_same _ _ rfl (pair_same _ _ rfl (pair_same _ _ rfl rfl)))))
theorem laws_FnExactTallyOf_eq (x0 : World) (w0 : Wf TWorld x0) : laws_FnExactTallyOf LP x0 = some true := by
  unfold laws_FnExactTallyOf
  refine law_guard x0 w0 (fun hs => ?_)
  obtain ⟨r, e1, e2⟩ := tally_both x0 hs
  rw [laws_toWorld_eq x0 hs, obind_some', e1, obind_some', obind_some', e2, obind_some', eqTally_refl, obind_some']
  exact pair_same _ _ rfl (law_tail x0 hs)
end Go.Vx

end
