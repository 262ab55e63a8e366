/- Merged out of smaller texts. -/
import Derived.Test.YtiafbadciofohaaGreatCoreA
import Derived.MapKept
import Derived.Orders
import Derived.LoopN
import Derived.ChangeShapes
import Derived.ChangeMaps5
import Derived.WideShapes
import Derived.Shelf.SlicesE.Clone
import Derived.Shelf.SlSortCmp.NoneTotal
import Derived.Deep.RegionLaw
import Derived.Lib.SlicesDelete
import Derived.Lib.AppendZerosOnto
import Derived.Lib.SliceRun
import Derived.Lib.Bytealg
import Derived.WalkKit
import Derived.Lib.Walk
import Derived.Lib.AppendZeros
import Derived.Laws.NewBlocks
import Derived.Shelf.RegionOpenPlain
import Derived.Test.YtiafbadciofohaaGreatProg
import Derived.Shelf.SlGeneric
import Derived.Shelf.Small.Strs
import Derived.Shelf.SlSortCmp.WholeK
section
set_option linter.unusedVariables false
set_option linter.unusedSimpArgs false
namespace Go.Vx
open Go Go.RowKit
section
variable {P : Program} {pn : Nat → Value} {pn : Nat → Value} {E : Env} {w0 w w' : World} {F G : Nat → Prop} {β : Nat → Value} {σ : St} {a : Act} {R : Type} {r : R} {K : St → Option R} {Q : Exit → Act → World → Prop}
theorem encC_rep : ∀ {t : Ty} {x : Den t} {cs : List Value}, t.flat = true → (RepC w F t x cs ↔ cs = encC t x)
  | .int _, _, _, _ => Iff.rfl
  | .bool, _, _, _ => Iff.rfl
  | .str, _, _, _ => Iff.rfl
  | .unit, _, _, _ => Iff.rfl
  | .pair a b, x, cs, h => by
    have h' : (a.flat && b.flat) = true := h
    rw [Bool.and_eq_true] at h'
    constructor
    · rintro ⟨c1, c2, rfl, h1, h2⟩
      rw [(encC_rep h'.1).1 h1, (encC_rep h'.2).1 h2]
      rfl
    · rintro rfl
      exact ⟨_, _, rfl, (encC_rep h'.1).2 rfl, (encC_rep h'.2).2 rfl⟩
  | .sl _, _, _, h => by cases h
theorem flat_val {t : Ty} (ht : t.flat = true) {x : Den t} {u : Value} (h : RepV w F t x u) : u = valC t (encC t x) := by
  unfold RepV at h
  split at h
  · rename_i hm
    obtain ⟨cs, rfl, h⟩ := h
    rw [(encC_rep ht).1 h]
    unfold valC
    rw [hm]
  · rename_i hm
    have := (encC_rep ht).1 h
    unfold valC
    rw [← this]
    cases hmm : t.many with
    | true => exact absurd hmm hm
    | false => rfl
theorem val_flat {t : Ty} (ht : t.flat = true) (x : Den t) : RepV w F t x (valC t (encC t x)) := by
  unfold RepV
  split
  · rename_i hm
    refine ⟨encC t x, ?_, (encC_rep ht).2 rfl⟩
    unfold valC
    rw [hm]
  · rename_i hm
    have hl := RepC_len ((encC_rep (w := w) (F := F) ht (x := x)).2 rfl)
    have hm' : t.many = false := by cases h : t.many <;> simp_all
    have h1 : t.sz = 1 := by cases t <;> simp_all [Ty.many, Ty.sz]
    rw [h1] at hl
    obtain ⟨u, hu⟩ := List.length_eq_one_iff.1 hl
    unfold valC
    rw [hm', hu]
    rw [← hu]
    exact (encC_rep ht).2 rfl

theorem find_map {t : Ty} (s : ByteArray) : ∀ {es : List (ByteArray × Den t)} {ms : List MapEntry} (i : Nat), RepM es ms →
    match mapGet es s with
    | none => Instr.findNow .string (.string s) ms i = some none ∧ ∀ (x : Den t) m, m.key = .string s → m.val = valC t (encC t x) → RepM (mapPut es s x) (ms ++ [m])
    | some y => ∃ j m, Instr.findNow .string (.string s) ms i = some (some (i + j, valC t (encC t y))) ∧ ms[j]? = some m ∧ m.key = .string s ∧ ∀ (x : Den t) m', m'.key = .string s → m'.val = valC t (encC t x) → RepM (mapPut es s x) (ms.set j m')
  | [], ms, i, h => by
    obtain rfl : ms = [] := h
    exact ⟨rfl, fun x m h1 h2 => ⟨m, [], rfl, h1, h2, rfl⟩⟩
  | e :: es, ms, i, h => by
    obtain ⟨m, ms', rfl, hk, hv, hr⟩ := h
    have hsn : Instr.sameNow .string (.string s) m.key = some (s == e.1) := by rw [hk]; rfl
    cases hb : s == e.1 with
    | true =>
      have hse : s = e.1 := by
        have := (MapKept.bytes_beq s e.1).1 hb
        exact this
      have hg : mapGet (e :: es) s = some e.2 := by unfold mapGet; rw [hb]; rfl
      rw [hg]
      refine ⟨0, m, ?_, rfl, by rw [hk, hse], fun x m' h1 h2 => ?_⟩
      · unfold Instr.findNow
        rw [hsn, hb, ← hv]
        rfl
      · have hp : mapPut (e :: es) s x = (s, x) :: es := by unfold mapPut; rw [hb]; rfl
        rw [hp]
        exact ⟨m', ms', rfl, h1, h2, hr⟩
    | false =>
      have hg : mapGet (e :: es) s = mapGet es s := by show cond (s == e.1) _ _ = _; rw [hb]; rfl
      have hp : ∀ x, mapPut (e :: es) s x = e :: mapPut es s x := fun x => by show cond (s == e.1) _ _ = _; rw [hb]; rfl
      rw [hg]
      have ih := find_map s (i + 1) hr
      cases hgg : mapGet es s with
      | none =>
        rw [hgg] at ih
        refine ⟨?_, fun x m' h1 h2 => ?_⟩
        · unfold Instr.findNow
          rw [hsn, hb]
          exact ih.1
        · rw [hp]
          exact ⟨m, ms' ++ [m'], rfl, hk, hv, ih.2 x m' h1 h2⟩
      | some y =>
        rw [hgg] at ih
        obtain ⟨j, m0, h1, h2, h3, h4⟩ := ih
        refine ⟨j + 1, m0, ?_, by simpa using h2, h3, fun x m' q1 q2 => ?_⟩
        · unfold Instr.findNow
          rw [hsn, hb]
          show Instr.findNow _ _ ms' (i + 1) = _
          rw [h1, show i + 1 + j = i + (j + 1) by omega]
        · rw [hp]
          exact ⟨m, ms'.set j m', rfl, hk, hv, h4 x m' q1 q2⟩
theorem mapOf_some {tab : List (Nat × TI)} {T : TypeId} {t : Ty} (h : mapOf tab T = some t) :
    ∃ i k e ik ie, find tab T = some i ∧ i.kind = .map k e ∧ find tab k = some ik ∧ ik.kind = .str ∧ find tab e = some ie ∧ ie.ty = some t ∧ t.flat = true ∧ 0 < t.sz := by
  unfold mapOf at h
  split at h
  · rename_i i_ty i_sz i_agg i_z i_by k e i_eqs hT
    split at h
    · rename_i _ _ _ _ _ _ t' _ _ _ _ _ _ hk he
      cases hf : t'.flat && leN 1 t'.sz with
      | false => rw [hf] at h; cases h
      | true =>
        rw [hf] at h
        have h' : some t' = some t := h
        injection h' with h'
        subst h'
        rw [Bool.and_eq_true] at hf
        exact ⟨_, k, e, _, _, hT, rfl, hk, rfl, he, rfl, hf.1, Nat.le_of_ble_eq_true hf.2⟩
    · cases h
  · cases h
structure MapTold (P : Program) (T : TypeId) (t : Ty) : Prop where
  ex : ∃ k e z, P.underlying T = some (.map k e) ∧ P.underlying k = some .string ∧ (∀ w, (zeroValue e).run P w = .ok z w) ∧ z = valC t (encC t (zeroD t)) ∧ t.flat = true
theorem isMap_some {ob : List (Option Obj)} {o : Nat} {t : Ty} {es : List (ByteArray × Den t)} (h : isMap ob o t = some es) : ob[o]? = some (some (.map t es)) := by
  unfold isMap at h
  split at h
  · rename_i t' es' ho
    cases hc : castD (t := .sl (.pair .str t')) (t' := .sl (.pair .str t)) es' with
    | none => rw [hc] at h; cases h
    | some ys =>
      rw [hc] at h
      obtain ⟨e, hy⟩ := castD_some hc
      injection e with e
      injection e with _ e
      subst e
      have h' : some ys = some es := h
      injection h' with h'
      rw [ho, ← h', hy]
  · cases h

theorem map_told (hE : EnvOK P E) {T : TypeId} {t : Ty} (h : mapOf E.tab T = some t) : MapTold P T t := by
  obtain ⟨i, k, e, ik, ie, h1, h2, h3, h4, h5, h6, h7, h8⟩ := mapOf_some h
  obtain ⟨inf, d, z, g1, g2, g3, g4, g5, g6, _⟩ := (told hE h1).ex
  obtain ⟨inf2, d2, z2, q1, q2, q3, q4, q5, q6, q7, q8, q9⟩ := (told hE h5).ex
  rw [h2] at g6
  have hd : d = .map k e ∧ zeroAgg P e = true := by
    have g6' : mapIs P k e d = true := g6
    cases d with
    | map k' e' =>
      simp only [mapIs, Bool.and_eq_true, decide_eq_true_eq] at g6'
      obtain ⟨e1, e2, e3⟩ := g6'
      exact ⟨by rw [e1, e2], e3⟩
    | _ => cases g6'
  obtain ⟨p1, p2, p3⟩ := q9 t h6
  have hz : zeroV t = encC t (zeroD t) := (encC_rep h7).1 (zeroD_rep (w := default) (F := fun _ => True) t)
  have hc := sameCells_eq p1
  refine ⟨⟨k, e, z2, by rw [g2, hd.1], str_told hE h3 h4, fun w => by simp [zeroValue, typeInfo, q1, q7], ?_, h7⟩⟩
  have ha := hd.2
  unfold zeroAgg at ha
  rw [q1, q2] at ha
  simp only [q7] at ha
  unfold valC
  rw [← hz, hc, p3, ← q5]
  cases hag : aggIs d2 with
  | true =>
    cases z2 with
    | agg cs => simp [Value.cells]
    | _ => simp [hag] at ha
  | false =>
    cases z2 with
    | agg cs => simp [hag] at ha
    | _ => simp [Value.cells]
theorem newMap_inv (hd : a.defers = []) (h : Holds P pn w0 F β G σ w a.tmps) {q d : Nat} (hfree : σ.ob[d]? = some none) {t : Ty} (ht : t.flat = true) :
    Inv P pn w0 F { tm := σ.tm.set q (.v (.one (.mp d))), ob := σ.ob.set d (some (.map t [])) } (a.put (some q) (.map (some w.heap.size))) (w.alloc (.map #[] 0)) := by
  have hg := World.grownBy_alloc w (.map #[] 0) none
  refine new_inv hd h hfree hg (fun k hk => ?_) ⟨w.heap.size, #[], 0, upd_same _ _ _, h.below.size, (MapKept.heap_alloc w _).1, rfl, ht⟩ ⟨⟨t, [], set_self hfree⟩, ⟨_, upd_same _ _ _⟩, (upd_same _ _ _).symm⟩
  have : w.heap.size = k := by simpa [blk] using hk
  omega
theorem grown_set {r : Nat} {o o' : Go.Obj} (hh : w.heap[r]? = some o) : w.grownBy { w with heap := w.heap.setIfInBounds r o' } (some r) :=
  ⟨rfl, rfl, rfl, by simp, fun k hk hne => (MapKept.heap_set hh).2 k (fun e => hne (by rw [e]))⟩
theorem mapUpdate_sound (hE : EnvOK P E) (hd : a.defers = []) (h : Holds P pn w0 F β G σ w a.tmps) {T : TypeId} {t : Ty} (hT : mapOf E.tab T = some t) {o' : Nat} {es : List (ByteArray × Den t)} (hes : isMap σ.ob o' t = some es) {s : ByteArray} {x : Den t} {v : V0} (hx : packV false σ.ob t v = some x)
    {um uk ux : Value} (hm : RepV0 P w G β σ.ob (.one (.mp o')) um) (hk : uk = .string s) (hv : RepV0 P w G β σ.ob v ux) :
    ∃ w', (Instr.mapUpdate T um uk ux).run P w = .ok () w' ∧ ∃ β' G', Holds P pn w0 F β' G' { tm := σ.tm, ob := σ.ob.set o' (some (.map t (mapPut es s x))) } w' a.tmps := by
  obtain ⟨k, e, z, t1, t2, t3, t4, t5⟩ := (map_told hE hT).ex
  have hob := isMap_some hes
  obtain ⟨_, _, hu⟩ := hm
  obtain ⟨r, ms, c, h1, h2, h3, h4, h5⟩ := h.obs o' _ hob
  have hux : ux = valC t (encC t x) := flat_val t5 (rep_packV (w0 := w0) (G' := G) (fun _ hq => hq) (fun e => by cases e) hx hv)
  rw [hu, h1, hk, hux]
  have hck : (Instr.checkKey false 10000 k (.string s)).run P w = .ok () w := MapKept.run_checkKey (k := .string s) t2 (by simp [MapKept.IsKey]) false 9999
  have hf := find_map s 0 h4
  have fin : ∀ (ms' : Array MapEntry) (c' : Nat), RepM (mapPut es s x) ms'.toList → ∃ β' G', Holds P pn w0 F β' G' { tm := σ.tm, ob := σ.ob.set o' (some (.map t (mapPut es s x))) } { w with heap := w.heap.setIfInBounds r (.map ms' c') } a.tmps := by
    intro ms' c' hM
    have hg := grown_set (w := w) (o' := .map ms' c') h3
    refine ⟨upd β o' (β o'), Old G w, h.obj o' (some r) (β o') _ hob hg (.inr ⟨_, rfl, by rw [h1]; rfl⟩) (fun k hkk => .inl ⟨_, rfl, hkk⟩) (Ext.map hob) ⟨r, ms', c', (upd_same _ _ _).trans h1, h2, (MapKept.heap_set h3).1, hM, h5⟩⟩
  cases hgg : mapGet es s with
  | none =>
    rw [hgg] at hf
    refine ⟨_, ?_, fin (ms.push { key := .string s, val := valC t (encC t x), born := c }) (c + 1) ?_⟩
    · simp [Instr.mapUpdate, run_underlying t1, MapKept.run_getObj_map h3, hck, MapKept.run_findKey t2 hf.1, MapKept.run_setObj_map _ h3, Result.andThen]
    · rw [Array.toList_push]
      exact hf.2 x _ rfl rfl
  | some y =>
    rw [hgg] at hf
    obtain ⟨j, m, f1, f2, f3, f4⟩ := hf
    have hlt : j < ms.size := by
      have := (List.getElem?_eq_some_iff.1 f2).1
      simpa using this
    have hmj : ms[j]? = some m := by rw [← Array.getElem?_toList]; exact f2
    refine ⟨_, ?_, fin (ms.modify j fun q => { q with key := .string s, val := valC t (encC t x) }) c ?_⟩
    · have hss : Instr.sameBits 10000 (.string s) (.string s) = true := by
        show (s == s) = true
        exact (MapKept.bytes_beq s s).2 rfl
      rw [Nat.zero_add] at f1
      simp [Instr.mapUpdate, run_underlying t1, MapKept.run_getObj_map h3, hck, MapKept.run_findKey t2 f1, MapKept.run_setObj_map _ h3, Result.andThen, hmj, f3, Instr.keyThatStays, hss]
    · have he : (ms.modify j fun q => { q with key := Value.string s, val := valC t (encC t x) }).toList = ms.toList.set j { m with key := .string s, val := valC t (encC t x) } := by
        apply List.ext_getElem?
        intro q
        rw [Array.getElem?_toList, Array.getElem?_modify, List.getElem?_set, Array.getElem?_toList]
        by_cases hq : j = q
        · subst hq
          have hb : ms[j] = m := by
            have := Array.getElem?_eq_getElem hlt
            rw [hmj] at this
            injection this with this
            exact this.symm
          simp [hlt, hb]
        · simp [hq]
      rw [he]
      exact f4 x _ rfl rfl
theorem lookup_sound (hE : EnvOK P E) (h : Holds P pn w0 F β G σ w a.tmps) {T : TypeId} {t : Ty} (hT : mapOf E.tab T = some t) {o' : Nat} {es : List (ByteArray × Den t)} (hes : isMap σ.ob o' t = some es) {s : ByteArray}
    {um uk : Value} (hm : RepV0 P w G β σ.ob (.one (.mp o')) um) (hk : uk = .string s) :
    ∃ val, (Instr.lookup T um uk true).run P w = .ok val w ∧ RepW P w G β σ.ob (.tup [valV t ((mapGet es s).getD (zeroD t)), .one (.b (.d .bool (mapGet es s).isSome))]) val := by
  obtain ⟨k, e, z, t1, t2, t3, t4, t5⟩ := (map_told hE hT).ex
  have hob := isMap_some hes
  obtain ⟨_, _, hu⟩ := hm
  obtain ⟨r, ms, c, h1, h2, h3, h4, h5⟩ := h.obs o' _ hob
  rw [hu, h1, hk]
  have hck : (Instr.checkKey ms.isEmpty 10000 k (.string s)).run P w = .ok () w := MapKept.run_checkKey (k := .string s) t2 (by simp [MapKept.IsKey]) ms.isEmpty 9999
  have hf := find_map s 0 h4
  cases hgg : mapGet es s with
  | none =>
    rw [hgg] at hf
    refine ⟨.tuple #[z, .bool false], ?_, [z, .bool false], rfl, ?_⟩
    · simp [Instr.lookup, run_underlying t1, MapKept.run_getObj_map h3, hck, MapKept.run_findKey t2 hf.1, t3, Result.andThen]
    · exact ⟨_, _, rfl, rep_valV (by rw [t4]; exact val_flat t5 _), _, _, rfl, rfl, rfl⟩
  | some y =>
    rw [hgg] at hf
    obtain ⟨j, m, f1, f2, f3, f4⟩ := hf
    rw [Nat.zero_add] at f1
    refine ⟨.tuple #[valC t (encC t y), .bool true], ?_, [valC t (encC t y), .bool true], rfl, ?_⟩
    · simp [Instr.lookup, run_underlying t1, MapKept.run_getObj_map h3, hck, MapKept.run_findKey t2 f1, Result.andThen]
    · exact ⟨_, _, rfl, rep_valV (val_flat t5 _), _, _, rfl, rfl, rfl⟩
end
end Go.Vx

end
section
set_option linter.unusedVariables false
set_option linter.unusedSimpArgs false
namespace Go.Vx
open Go Go.RowKit
section
variable {P : Program} {pn : Nat → Value} {E : Env} {w0 w w' : World} {F G : Nat → Prop} {β : Nat → Value} {σ : St} {a : Act} {R : Type} {r : R}
variable {K : St → Option R} {Q : Exit → Act → World → Prop}

theorem cells_one_list {v : V0} {b : B} {u : Value} {ob : List (Option Obj)} (h : RepV0 P w G β ob v u) (hc : cellsV v = [.b b]) : u.cells.toList = [u.cells.toList.headD undef] ∧ RepB P w G b (u.cells.toList.headD undef) := by
  have hr := rep_cells h (by rw [hc]; simp)
  rw [hc] at hr
  obtain ⟨x, hx, hb⟩ := RepL_single hr
  rw [hx]
  exact ⟨rfl, hb⟩
theorem same_eval {l c : Operand} (h : sameOp l c = true) : a.eval l = a.eval c := by
  unfold sameOp at h
  split at h
  · rw [Nat.eq_of_beq_eq_true h]
  · rw [of_decide_eq_true h]
  · cases h

theorem box_sound (hE : EnvOK P E) {o : Oper} {e : TypeId} {x : Operand} (ho : o.op = .box e x) (hd : a.defers = []) (h : Holds P pn w0 F β G σ w a.tmps) (hk : opK E o σ K = some r) : o.wp P a w (Goes P pn w0 F K r) Q := by
  unfold opK at hk
  rw [ho] at hk
  simp only at hk
  have hrun : (execOp a.eval o).run P w = .ok (.value (.pointer (some ⟨w.heap.size, 0, none⟩))) (w.alloc (.cells (a.eval x).cells e)) := by
    simp [execOp, ho, Instr.box, newVar, run_newRow, Sem.run_bind, Result.andThen]
  split at hk
  · rename_i i v d hi hv hdst
    obtain ⟨hc, hk⟩ := cond_some hk
    simp only [Bool.and_eq_true] at hc
    obtain ⟨c1, c2, c3⟩ := hc
    have hlen : (cellsV v).length = i.size := Nat.eq_of_beq_eq_true c1
    have hpos : 1 ≤ i.size := Nat.le_of_ble_eq_true c2
    have hrep := rep_opnd0 hE h hv
    have hcs := rep_cells hrep (by omega)
    cases hro : memN E.ann.ro d with
    | true =>
      rw [hro] at hk
      simp only [cond_true] at hk
      have hb : Below w.heap.size w (w.alloc (.cells (a.eval x).cells e)) := ⟨rfl, rfl, rfl, by simp, fun k hk => heap_alloc_old w _ hk⟩
      have hH := h.call hb
      have hA : Agree G w (w.alloc (.cells (a.eval x).cells e)) := Agree.below hb
      -- what is read behind the pointer
      have key : ∀ (bs : List B), RepL (RepB P w G) bs (a.eval x).cells.toList → RepW P (w.alloc (.cells (a.eval x).cells e)) (fun k => (G k ∧ k < w.heap.size) ∨ w.heap.size ≤ k) β σ.ob (.v (.one (.rdp bs))) (.pointer (some ⟨w.heap.size, 0, none⟩)) := by
        intro bs hbs
        refine ⟨⟨w.heap.size, 0, none⟩, (a.eval x).cells.toList, rfl, .inr (Nat.le_refl _), by simp, fun j v hj => ?_, RepL_imp (fun _ _ hq => RepB_mono (F := fun k => G k ∧ k < w.heap.size) (fun k hk _ => .inl hk) (RepB_move (hA.mono (fun k hk => hk.1)) (RepB_mono (fun k hk hlt => ⟨hk, hlt⟩) hq))) hbs⟩
        rw [add_at, cell_in (heap_alloc_new w _)]
        simpa using hj
      split at hk
      · rename_i t cs hty
        split at hk
        · rename_i y hp
          obtain ⟨d1, d2, hd12, q1, q2⟩ := rep_packA (w0 := w0) (fun _ h => h) (fun h => by cases h) hp hcs
          rw [show d2 = [] from q2, List.append_nil] at hd12
          exact goes_value hrun hk (inv_put hd hH (key _ (by rw [hd12]; exact rep_unpack q1)) o.dst)
        · cases hk
      · rename_i c hty hcell
        obtain ⟨e1, e2⟩ := cells_one_list hrep hcell
        exact goes_value hrun hk (inv_put hd hH (key _ (by rw [e1]; exact ⟨_, [], rfl, e2, rfl⟩)) o.dst)
      · cases hk
    | false =>
      rw [hro] at hk
      simp only [cond_false] at hk
      obtain ⟨d', hd', hfree, hk⟩ := newObj_some hk
      have := newVar_inv (t := d') (ty := e) hd h hfree hcs
      refine goes_value hrun hk ?_
      rw [hd']
      simpa using this
  · cases hk

theorem op_sound (hE : EnvOK P E) {o : Oper} (hI : Inv P pn w0 F σ a w) (hk : opK E o σ K = some r) : o.wp P a w (Goes P pn w0 F K r) Q := by
  obtain ⟨hd, β, G, h⟩ := hI
  have hk0 := hk
  unfold opK at hk
  split at hk
  · rename_i x ho
    exact goes_put hd h (by simp [execOp, ho]) hk (rep_opnd hE h x)
  · rename_i x ho
    exact goes_put hd h (by simp [execOp, ho]) hk (rep_opnd hE h x)
  · rename_i c x y ho
    split at hk
    · rename_i p hc
      have hp := rep_opnd hE h c
      rw [hc] at hp
      have hk' := caseB_some hk
      refine goes_put (v := if p = true then a.eval x else a.eval y) hd h (by simp [execOp, ho, rep_bool hp, asBool, Sem.run_bind]) hk' ?_
      cases p
      · exact rep_opnd hE h y
      · exact rep_opnd hE h x
    · cases hk
  · rename_i e ho
    split at hk
    · rename_i i hi
      obtain ⟨d, hdst, hfree, hk⟩ := newObj_some hk
      obtain ⟨val, w', h1, h2⟩ := alloc_sound hE hd h hi hfree
      refine goes_value (v := val) (w' := w') ?_ hk (by rw [hdst]; exact h2)
      simp [execOp, ho, Sem.run_bind, h1, Result.andThen]
    · cases hk
  · rename_i e x ho
    exact box_sound hE ho hd h hk0
  · rename_i t parts ho
    split at hk
    · rename_i i_ty i_sz i_agg i_z i_by fs i_eqs ps hi hp
      split at hk
      · rename_i cells hf
        have hv := rep_parts hE h hp
        obtain ⟨cs, h1, h2⟩ := build_sound hE (ob := σ.ob) hi rfl hf hv
        refine goes_put (v := .agg cs.toArray) hd h ?_ hk ⟨cs, rfl, h2⟩
        have hm : (parts.map fun (i, x) => (i, a.eval x)) = (parts.toList.map fun (i, x) => (i, a.eval x)).toArray := by
          rw [← Array.toList_map]
        simp only [execOp, ho]
        rw [hm]
        simp [Sem.run_bind, h1, Result.andThen]
      · cases hk
    · cases hk
  · rename_i T len parts ho
    split at hk
    · rename_i _ _ _ _ _ e _ ps hi hp
      split at hk
      · rename_i t _ _ _ _ _ _ hie
        split at hk
        · rename_i xs d hx hdst
          obtain ⟨hc, hk⟩ := cond_some hk
          simp only [Bool.and_eq_true] at hc
          obtain ⟨c1, c2, c3⟩ := hc
          have hlen : ps.length = len := Nat.eq_of_beq_eq_true c1
          have hsz : 1 ≤ t.sz := Nat.le_of_ble_eq_true c2
          have hsm : len * t.sz ≤ 1000 := Nat.le_of_ble_eq_true c3
          have hv := rep_parts hE h hp
          obtain ⟨cs, v, h1, h2, h3⟩ := lit_sound (w := w) hE (ob := σ.ob) hi rfl hie rfl hsz (by rw [hlen]; exact hsm) hx hv
          rw [hlen] at h1
          have hrun : (execOp a.eval o).run P w = .ok (.value v) (w.alloc (.cells cs e)) := by
            have hm : (parts.map fun (i, x) => (i, a.eval x)) = (parts.toList.map fun (i, x) => (i, a.eval x)).toArray := by
              rw [← Array.toList_map]
            simp only [execOp, ho]
            rw [hm]
            simp only [Sem.run_bind, h1, Result.andThen]
            rfl
          have hg := World.grownBy_alloc w (.cells cs e (0, 0)) none
          have h3' := RepRows_imp (fun _ _ hq => repc_grown (w' := w.alloc (.cells cs e)) hg hq) h3
          cases hown : memN E.ann.own d with
          | true =>
            rw [hown] at hk
            simp only [cond_true] at hk
            obtain ⟨d', hd', hfree, hk⟩ := newObj_some hk
            have := newRow_inv (q := d') hd h hfree hsz hg h2 h3'
            refine goes_value hrun hk ?_
            rw [hd']
            exact this
          | false =>
            rw [hown] at hk
            simp only [cond_false] at hk
            have hb : Below w.heap.size w (w.alloc (.cells cs e)) := ⟨rfl, rfl, rfl, by simp, fun k hk => heap_alloc_old w _ hk⟩
            refine goes_value hrun hk (inv_put hd (h.call hb) ?_ o.dst)
            have hO : RepO P w (w.alloc (.cells cs e)) (Old G w) (fun _ => v) [] 0 (.row e t xs 0) := ⟨cs.toList, h2, h3', hsz⟩
            exact (row_reads (G' := fun k => (G k ∧ k < w.heap.size) ∨ w.heap.size ≤ k) (fun k hk => Or.inl hk) (fun k hk => Or.inr hk) hO : RepC _ _ (.sl t) xs [v])
        · cases hk
      · cases hk
    · cases hk
  · rename_i T x ho
    obtain ⟨v, val, h1, h2, h3⟩ := loadK_sound hE h hk (rep_opnd hE h x)
    refine goes_put (v := val) hd h ?_ h1 h3
    simp [execOp, ho, Sem.run_bind, h2, Result.andThen]
  · rename_i T x y ho
    split at hk
    · rename_i v hv
      obtain ⟨σ', w', h1, h2, β', G', h3⟩ := storeK_sound hE h hk (rep_opnd hE h x) (rep_opnd0 hE h hv)
      refine op_skip (w' := w') ?_ ⟨_, h1, inv_put hd h3 (show RepW P w' G' β' σ'.ob nonV undef from rfl) o.dst⟩
      simp [execOp, ho, Sem.run_bind, h2, Result.andThen]
    · cases hk
  · rename_i x ho
    have hx := rep_opnd hE h x
    split at hk
    · rename_i p k hv
      rw [hv] at hx
      obtain ⟨hc, g, q1, q2⟩ := (show (∃ cells, σ.ob[p]? = some (some (.box cells))) ∧ ∃ g, β p = .pointer (some ⟨g, 0, none⟩) ∧ a.eval x = .pointer (some ⟨g, k, none⟩) from hx)
      exact goes_put hd h (v := a.eval x) (by simp [execOp, ho, q2]) hk hx
    · rename_i cs hv
      rw [hv] at hx
      obtain ⟨ad, us, q1, q2⟩ := (show ∃ ad us, a.eval x = .pointer (some ad) ∧ G ad.block ∧ ad.block < w.heap.size ∧ (∀ (j : Nat) (v : Value), us[j]? = some v → w.cell? (ad.add j) = some v) ∧ RepL (RepB P w G) cs us from hx)
      exact goes_put hd h (v := a.eval x) (by simp [execOp, ho, q1]) hk hx
    · cases hk
  · rename_i op T x y _ ho
    obtain ⟨v, val, h1, h2, h3⟩ := bin_sound hE (ox := x) (oy := y) hk (rep_opnd hE h x) (rep_opnd hE h y)
    refine goes_put (v := val) hd h ?_ h1 h3
    simp only [execOp, ho, Sem.run_bind] at h2 ⊢
    rw [h2]
    simp [Result.andThen]
  · rename_i op T x ho
    obtain ⟨v, val, h1, h2, h3⟩ := un_sound hk (rep_opnd hE h x)
    refine goes_put (v := val) hd h ?_ h1 h3
    simp [execOp, ho, Sem.run_bind, h2, Result.andThen]
  · rename_i src dst x ho
    obtain ⟨v, val, w', h1, h2, h3, h4⟩ := conv_sound hE hk (rep_opnd hE h x)
    refine goes_value (v := val) (w' := w') ?_ h1 (inv_put hd (h.call h3) h4 o.dst)
    simp [execOp, ho, Sem.run_bind, h2, Result.andThen]
  · rename_i f first caps ho
    split at hk
    · rename_i S vs cs hS hv hc
      split at hk
      · rename_i c hcl
        refine goes_put (v := .func (.func f) (first.map a.eval) (caps.map a.eval)) hd h (by simp [execOp, ho, Instr.makeFunc]) hk ?_
        have h1 := rep_opnds0 hE h hv
        have h2 := rep_opnds0 hE h hc
        have := clo_sound (hE.fns _ _ hS) hcl h1 h2
        rw [← Array.toList_map, ← Array.toList_map] at this
        exact this
      · cases hk
    · cases hk
  · rename_i T l c ho
    split at hk
    · rename_i _ _ _ _ _ e _ n hi hl
      split at hk
      · rename_i _ t _ _ _ by_ _ _ hie
        obtain ⟨hc, hk⟩ := cond_some hk
        simp only [Bool.and_eq_true] at hc
        obtain ⟨c1, c2, c3⟩ := hc
        obtain ⟨hn, hk⟩ := oif_some hk
        obtain ⟨hb, hk⟩ := oif_some hk
        obtain ⟨d, hdst, hfree, hk⟩ := newObj_some hk
        have hsz : 1 ≤ t.sz := Nat.le_of_ble_eq_true c2
        have hby : 1 ≤ by_ := Nat.le_of_ble_eq_true c3
        have hx := rep_opnd hE h l
        rw [hl] at hx
        have hv := rep_int hx
        have hv2 : a.eval c = .int .i64 n := by rw [← same_eval c1]; exact hv
        obtain ⟨cs, v, h1, h2, h3⟩ := make_sound (w := w) (G := G) hE hi rfl hie rfl hsz hby (of_decide_eq_true hn) (of_decide_eq_true hb)
        have hg := World.grownBy_alloc w (.cells cs e (0, 0)) none
        have h3' := RepRows_imp (fun _ _ hq => repc_grown (w' := w.alloc (.cells cs e)) hg hq) h3
        refine goes_value (v := v) (w' := w.alloc (.cells cs e)) ?_ hk (by rw [hdst]; exact newRow_inv hd h hfree hsz hg h2 h3')
        simp only [execOp, ho, hv, hv2, Sem.run_bind, h1, Result.andThen]
        rfl
      · cases hk
    · cases hk
  · rename_i T ho
    split at hk
    · rename_i t hT
      obtain ⟨d, hdst, hfree, hk⟩ := newObj_some hk
      obtain ⟨_, _, _, _, _, _, _, ht⟩ := (map_told hE hT).ex
      refine goes_value (v := .map (some w.heap.size)) (w' := w.alloc (.map #[] 0)) ?_ hk (by rw [hdst]; exact newMap_inv hd h hfree ht)
      simp only [execOp, ho, Option.map_none]
      rfl
    · cases hk
  · rename_i T m k x ho
    split at hk
    · rename_i t o' s v hT hm hkk hx
      split at hk
      · rename_i es y hes hy
        have h1 := rep_opnd hE h m
        have h2 := rep_opnd hE h k
        rw [hm] at h1
        rw [hkk] at h2
        have h2 : a.eval k = .string s := by
          have h2' : [a.eval k] = [Value.string s] := h2
          injection h2'
        obtain ⟨w', q1, β', G', q2⟩ := mapUpdate_sound hE hd h hT hes hy h1 h2 (rep_opnd0 hE h hx)
        refine op_skip (w' := w') ?_ ⟨_, hk, inv_put hd q2 (show RepW P w' G' β' _ nonV undef from rfl) o.dst⟩
        simp [execOp, ho, Sem.run_bind, q1, Result.andThen]
      · cases hk
    · cases hk
  · rename_i T m k ho
    split at hk
    · rename_i t o' s hT hm hkk
      split at hk
      · rename_i es hes
        have h1 := rep_opnd hE h m
        have h2 := rep_opnd hE h k
        rw [hm] at h1
        rw [hkk] at h2
        have h2 : a.eval k = .string s := by
          have h2' : [a.eval k] = [Value.string s] := h2
          injection h2'
        obtain ⟨val, q1, q2⟩ := lookup_sound (a := a) hE h hT hes h1 h2
        refine goes_put (v := val) hd h ?_ hk q2
        simp [execOp, ho, Sem.run_bind, q1, Result.andThen]
      · cases hk
    · cases hk
  · rename_i T x lo hi ho
    obtain ⟨v, val, h1, h2, h3⟩ := slice_sound hE (ulo := lo.map a.eval) (uhi := hi.map a.eval) hk (rep_opnd hE h x) (by
        intro v hv
        cases lo with
        | none => cases hv
        | some l => injection hv with hv; subst hv; exact ⟨_, rfl, rep_opnd hE h l⟩) (by
        intro hv
        cases lo with
        | none => rfl
        | some l => cases hv) (by
        intro v hv
        cases hi with
        | none => cases hv
        | some l => injection hv with hv; subst hv; exact ⟨_, rfl, rep_opnd hE h l⟩) (by
        intro hv
        cases hi with
        | none => rfl
        | some l => cases hv)
    refine goes_put (v := val) hd h ?_ h1 h3
    simp [execOp, ho, Sem.run_bind, h2, Result.andThen]
  · rename_i S x f ho
    split at hk
    · rename_i off t hf
      split at hk
      · rename_i y hy
        obtain ⟨val, h1, h2⟩ := fieldAddr_sound hE (obs_ok h) hf hy (rep_opnd hE h x)
        refine goes_put (v := val) hd h ?_ hk h2
        simp [execOp, ho, Sem.run_bind, h1, Result.andThen]
      · cases hk
    · cases hk
  · rename_i S x f ho
    split at hk
    · rename_i off t cells hf hx
      split at hk
      · rename_i i hi
        split at hk
        · rename_i cs hc
          split at hk
          · rename_i v hv
            have hr := rep_opnd hE h x
            rw [hx] at hr
            obtain ⟨val, h1, h2⟩ := field_sound hE hf hi hc hv hr
            refine goes_put (v := val) hd h ?_ hk h2
            simp [execOp, ho, Sem.run_bind, h1, Result.andThen]
          · cases hk
        · cases hk
      · cases hk
    · cases hk
  · rename_i T x i ho
    obtain ⟨v, val, h1, h2, h3⟩ := idx_sound hE (obs_ok h) hk (rep_opnd hE h x) (rep_opnd hE h i)
    refine goes_put (v := val) hd h ?_ h1 h3
    simp [execOp, ho, Sem.run_bind, h2, Result.andThen]
  · rename_i T x i ho
    split at hk
    · rename_i s k j hT hx hi
      obtain ⟨c1, hk⟩ := oif_some hk
      obtain ⟨c2, hk⟩ := oif_some hk
      have h1 := rep_opnd hE h x
      have h2 := rep_opnd hE h i
      rw [hx] at h1
      rw [hi] at h2
      have h3 := index_sound (w := w) (k := k) hE (str_told hE hT rfl) (of_decide_eq_true c1) (of_decide_eq_true c2)
      refine goes_put (v := .int .u8 (byteAt s j)) hd h ?_ hk rfl
      simp [execOp, ho, Sem.run_bind, rep_str h1, rep_int h2, h3, Result.andThen]
    · cases hk
  · rename_i t j ho
    split at hk
    · rename_i vs ht
      split at hk
      · rename_i v hv
        have hr := rep_opnd hE h t
        rw [ht] at hr
        obtain ⟨us, hu, hL⟩ := (show ∃ us : List Value, a.eval t = .tuple us.toArray ∧ RepL (RepV0 P w G β σ.ob) vs us from hr)
        obtain ⟨u, h1, h2⟩ := RepL_get hL hv
        refine goes_put (v := u) hd h ?_ hk h2
        simp [execOp, ho, Instr.extract, hu, h1]
      · cases hk
    · cases hk
  · rename_i c ho
    exact call_sound hE ho hd h hk
  · cases hk
end
end Go.Vx

end
section
set_option linter.unusedVariables false
set_option linter.unusedSimpArgs false
namespace Go.Vx
open Go Go.RowKit
section
variable {P : Program} {pn : Nat → Value} {E : Env} {σ σ' : St} {R : Type} {r : R}

def Nat1 {α : Type} (G : {R : Type} → (α → Option R) → Option R) : Prop := ∀ {R : Type} (K : α → Option R), G K = obind (G some) K
theorem nat_some {α : Type} {G : {R : Type} → (α → Option R) → Option R} (hG : Nat1 G) {K : α → Option R} (h : G K = some r) : ∃ x, K x = some r ∧ ∀ {R' : Type} (K' : α → Option R'), G K' = K' x := by
  obtain ⟨x, h1, h2⟩ := obind_eq ((hG K).symm.trans h)
  exact ⟨x, h2, fun K' => (hG K').trans (by rw [h1]; rfl)⟩
theorem intOp_nat (op : BinOp) (k : IntKind) (x y : Int) : Nat1 (fun {R} (K : V → Option R) => intOp op k x y K) := by
  intro R K
  cases op <;> first | rfl | (simp only [intOp, obind_oif]; rfl)
theorem strOp_nat (op : BinOp) (x y : ByteArray) : Nat1 (fun {R} (K : V → Option R) => strOp op x y K) := by
  intro R K
  cases op <;> first | rfl | (simp only [strOp, obind_oif]; rfl)
theorem shiftOp_nat (op : BinOp) (k : IntKind) (x y : Int) : Nat1 (fun {R} (K : V → Option R) => shiftOp op k x y K) := by
  intro R K
  cases op <;> first | rfl | (simp only [shiftOp, obind_oif]; rfl)
theorem binK_nat (E : Env) (op : BinOp) (T : TypeId) (x y : V) : Nat1 (fun {R} (K : V → Option R) => binK E op T x y K) := by
  intro R K
  simp only [binK]
  split
  · rw [obind_cond, obind_cond, ← intOp_nat, ← shiftOp_nat]
    rfl
  · exact strOp_nat _ _ _ K
  · split <;> first | rfl | (rw [obind_cond]; rfl)
  · split <;> rfl
  · rfl
theorem unK_nat (op : UnOp) (x : V) : Nat1 (fun {R} (K : V → Option R) => unK op x K) := by
  intro R K
  simp only [unK]
  split <;> rfl
theorem convK_nat (E : Env) (src dst : TypeId) (x : V) : Nat1 (fun {R} (K : V → Option R) => convK E src dst x K) := by
  intro R K
  simp only [convK]
  split
  · rfl
  · rfl
  · split <;> rfl
  · split <;> rfl
  · rfl
theorem idxAddrK_nat (E : Env) (σ : St) (T : TypeId) (x i : V) : Nat1 (fun {R} (K : A → Option R) => idxAddrK E σ T x i K) := by
  intro R K
  simp only [idxAddrK]
  split
  · rw [obind_cond, obind_oget]; rfl
  · split
    · rw [obind_cond, obind_oif, obind_oif]; rfl
    · rfl
  · rfl
theorem sliceK_nat (E : Env) (T : TypeId) (x : V) (lo hi : Option V) : Nat1 (fun {R} (K : V → Option R) => sliceK E T x lo hi K) := by
  intro R K
  simp only [sliceK]
  split <;> first | rfl | (simp only [obind_cond, obind_oif]; rfl)
theorem loadK_nat (E : Env) (σ : St) (T : TypeId) (x : V) : Nat1 (fun {R} (K : V0 → Option R) => loadK E σ T x K) := by
  intro R K
  simp only [loadK]
  split
  · split
    · split <;> rfl
    · rfl
  · split
    · split
      · split <;> rfl
      · rfl
    · rfl
  · split
    · rw [obind_cond, obind_oget]
      congr 1
      congr 1
      funext y
      split
      · split <;> rfl
      · rfl
    · rfl
  · rfl
theorem loadK_ob (h : σ'.ob = σ.ob) (T : TypeId) (x : V) (K : V0 → Option R) : loadK E σ' T x K = loadK E σ T x K := by simp only [loadK, h]
theorem idxAddrK_ob (h : σ'.ob = σ.ob) (T : TypeId) (x i : V) (K : A → Option R) : idxAddrK E σ' T x i K = idxAddrK E σ T x i K := by simp only [idxAddrK, h]
theorem fieldAddrA_ob (h : σ'.ob = σ.ob) (off : Nat) (x : V) : fieldAddrA σ' off x = fieldAddrA σ off x := by simp only [fieldAddrA, h]
theorem lenV_ob (h : σ'.ob = σ.ob) (x : V) : lenV σ' x = lenV σ x := by
  unfold lenV
  rw [h]
theorem storeK_ob {T : TypeId} {x : V} {y : V0} {K : St → Option R} (h : storeK E σ T x y K = some r) : ∃ ob', K { tm := σ.tm, ob := ob' } = some r ∧ ∀ (σ' : St), σ'.ob = σ.ob → ∀ {R' : Type} (K' : St → Option R'), storeK E σ' T x y K' = K' { tm := σ'.tm, ob := ob' } := by
  unfold storeK at h
  split at h
  · rename_i i o off hi
    split at h
    · rename_i cells hb
      obtain ⟨hc, h⟩ := cond_some h
      exact ⟨_, h, fun σ' hob R' K' => by simp only [storeK, hi, hob, hb, hc]; rfl⟩
    · cases h
  · rename_i i o ver j off hi
    split at h
    · rename_i e t xs v hb
      obtain ⟨hc, h⟩ := cond_some h
      obtain ⟨h0, q, hq, h⟩ := oget_some h
      split at h
      · rename_i z hp
        exact ⟨_, h, fun σ' hob R' K' => by simp only [storeK, hi, hob, hb, hc]; simp [oget, hq]; simp at hq; simp [hq, hp]⟩
      · cases h
    · cases h
  · cases h
end
end Go.Vx

end
section
set_option linter.unusedVariables false
set_option linter.unusedSimpArgs false
namespace Go.Vx
open Go Go.RowKit
section
variable {P : Program} {pn : Nat → Value} {E : Env} {σ : St} {R : Type} {r : R} {K : St → Option R}

def quiet (rows : List (Nat × RSpec)) : Op → Bool
  | .alloc _ => false
  | .box _ _ => false
  | .buildSlice _ _ _ => false
  | .makeSlice _ _ _ => false
  | .store _ _ _ => false
  | .makeMap _ _ => false
  | .mapUpdate _ _ _ _ => false
  | .call c => match c.callee with
    | .builtin .append => false
    | .value (.func f) => match find rows f with
      | some _ => false
      | none => true
    | _ => true
  | _ => true
def isInl : RKind → Bool
  | .inl => true
  | _ => false
def inlFree (rows : List (Nat × RSpec)) : Op → Bool
  | .call c => match c.callee with
    | .value (.func f) => match find rows f with
      | some S => !isInl S.kind
      | none => true
    | _ => true
  | _ => true
def Told (E : Env) (σ : St) (o : Oper) (v : V) (ob' : List (Option Obj)) : Prop := ∀ (σ' : St), (∀ x ∈ o.op.operands, opnd E σ' x = opnd E σ x) → σ'.ob = σ.ob →
  ∀ {R' : Type} (K' : St → Option R'), opK E o σ' K' = K' (({ tm := σ'.tm, ob := ob' } : St).put o.dst v)
def Still (E : Env) (σ : St) (o : Oper) (K : St → Option R) (r : R) : Prop := ∃ v ob', K (({ tm := σ.tm, ob := ob' } : St).put o.dst v) = some r ∧ (quiet E.rows o.op = true → ob' = σ.ob) ∧ Told E σ o v ob'

theorem opnd0_eq {σ' : St} {x : Operand} (h : opnd E σ' x = opnd E σ x) : opnd0 E σ' x = opnd0 E σ x := by unfold opnd0; rw [h]
theorem opnds0_eq {σ' : St} : ∀ {xs : List Operand}, (∀ x ∈ xs, opnd E σ' x = opnd E σ x) → opnds0 E σ' xs = opnds0 E σ xs
  | [], _ => rfl
  | x :: xs, h => by
    unfold opnds0
    rw [opnd0_eq (h x (by simp)), opnds0_eq (fun y hy => h y (by simp [hy]))]
theorem parts0_eq {σ' : St} : ∀ {ps : List (Nat × Operand)}, (∀ x ∈ ps.map (·.2), opnd E σ' x = opnd E σ x) → parts0 E σ' ps = parts0 E σ ps
  | [], _ => rfl
  | (f, x) :: ps, h => by
    unfold parts0
    rw [opnd0_eq (h x (by simp)), parts0_eq (fun y hy => h y (by simp at hy ⊢; exact .inr hy))]

theorem still_put {o : Oper} {v : V} (hk : K (σ.put o.dst v) = some r) (ht : ∀ (σ' : St), (∀ x ∈ o.op.operands, opnd E σ' x = opnd E σ x) → σ'.ob = σ.ob → ∀ {R' : Type} (K' : St → Option R'), opK E o σ' K' = K' (σ'.put o.dst v)) : Still E σ o K r :=
  ⟨v, σ.ob, hk, fun _ => rfl, fun σ' hx hob R' K' => by rw [ht σ' hx hob, ← hob]⟩

theorem new_still {o : Oper} {ob : Obj} {g : Nat → A} (hq : quiet E.rows o.op = false) (hk : newObj E.base σ o.dst ob g K = some r)
    (ht : ∀ (σ' : St), (∀ x ∈ o.op.operands, opnd E σ' x = opnd E σ x) → σ'.ob = σ.ob → ∀ {R' : Type} (K' : St → Option R'), opK E o σ' K' = newObj E.base σ' o.dst ob g K') : Still E σ o K r := by
  obtain ⟨d, hd, hf, hk⟩ := newObj_some hk
  have hfree : isFree σ.ob (E.base + d) = true := by unfold isFree; rw [hf]
  refine ⟨.v (.one (g (E.base + d))), σ.ob.set (E.base + d) (some ob), by rw [hd]; exact hk, fun h => (by rw [hq] at h; cases h), fun σ' hx hob R' K' => ?_⟩
  rw [ht σ' hx hob, hd]
  unfold newObj
  simp only [hob, hfree]
  rfl

theorem append_still {o : Oper} {c : Call} (ho : o.op = .call c) {s x : Operand} {T T' : TypeId} (hc : c.callee = .builtin .append) (ha : c.args.toList = [s, x]) (ht : c.argTypes.toList = [T, T'])
    (hk : appendK E σ o.dst T T' (opnd E σ s) (opnd E σ x) K = some r) : Still E σ o K r := by
  have hq : quiet E.rows o.op = false := by rw [ho]; simp [quiet, hc]
  have hstep : ∀ (σ' : St), (∀ x ∈ o.op.operands, opnd E σ' x = opnd E σ x) → σ'.ob = σ.ob → ∀ {R' : Type} (K' : St → Option R'), opK E o σ' K' = appendK E σ' o.dst T T' (opnd E σ s) (opnd E σ x) K' := by
    intro σ' hx hob R' K'
    have hm : ∀ y, y ∈ c.args.toList → opnd E σ' y = opnd E σ y := fun y hy => hx y (by rw [ho]; simp [Op.operands, Call.operands, hc]; simpa using hy)
    simp only [opK, ho, callK, hc, ha, ht]
    rw [hm s (by rw [ha]; simp), hm x (by rw [ha]; simp)]
  unfold appendK at hk
  split at hk
  · rename_i e _ hi
    split at hk
    · rename_i t _ _ _ by_ _ _ x' hie hx'
      obtain ⟨hc1, hk⟩ := cond_some hk
      split at hk
      · rename_i ys hp
        split at hk
        · rename_i hs
          obtain ⟨hz1, hk⟩ := cond_some hk
          obtain ⟨hb, hk⟩ := oif_some hk
          refine new_still hq hk fun σ' hx hob R' K' => ?_
          rw [hstep σ' hx hob]
          simp only [appendK, hi, hie, hx', hs, hc1, hob, hp, hz1, hb]
          rfl
        · rename_i o2 ver hs
          split at hk
          · rename_i e' xs d' hrow hd
            obtain ⟨he, hk⟩ := cond_some hk
            obtain ⟨hb, hk⟩ := oif_some hk
            refine ⟨.v (.one (.row o2 (ver + 1))), σ.ob.set o2 (some (.row e t (xs ++ ys) (ver + 1))), by rw [hd]; exact hk, fun h => (by rw [hq] at h; cases h), fun σ' hx hob R' K' => ?_⟩
            rw [hstep σ' hx hob]
            simp only [appendK, hi, hie, hx', hs, hc1, hob, hp, hrow, hd, he, hb]
            rfl
          · cases hk
        · cases hk
      · cases hk
    · cases hk
  · cases hk

theorem row_still {o : Oper} {c : Call} {f : FuncId} {S : RSpec} (ho : o.op = .call c) (hc : c.callee = .value (.func f)) (hS : find E.rows f = some S) (hn : isInl S.kind = false) (hk : rowK E σ o.dst f S c.args.toList K = some r) : Still E σ o K r := by
  have hq : quiet E.rows o.op = false := by rw [ho]; simp [quiet, hc, hS]
  have hm : ∀ (σ' : St), (∀ x ∈ o.op.operands, opnd E σ' x = opnd E σ x) → ∀ y, y ∈ c.args.toList → opnd E σ' y = opnd E σ y := fun σ' hx y hy => hx y (by
    rw [ho]
    simp only [Op.operands, Call.operands]
    exact Array.mem_append_right _ (by simpa using hy))
  have hop : ∀ (σ' : St) {R' : Type} (K' : St → Option R'), opK E o σ' K' = rowK E σ' o.dst f S c.args.toList K' := fun σ' R' K' => by simp only [opK, ho, callK, hc, hS]
  generalize hxs : c.args.toList = xs at hk hm hop
  obtain ⟨kind, e, t, ats, SF, fnO⟩ := S
  cases kind with
  | fresh =>
    simp only [rowK] at hk
    split at hk
    · rename_i vs hvs
      split at hk
      · rename_i y hy
        obtain ⟨l, hl, hk⟩ := obind_eq hk
        obtain ⟨hz, hk⟩ := cond_some hk
        refine new_still hq hk fun σ' hx hob R' K' => ?_
        rw [hop]
        simp only [rowK, opnds0_eq (hm σ' hx), hvs, hob, hy, hl, obind_some, hz, cond_true]
      · cases hk
    · cases hk
  | step =>
    cases xs with
    | nil => cases hk
    | cons x xs =>
      simp only [rowK] at hk
      split at hk
      · rename_i o' ver vs d hx hvs hdst
        split at hk
        · rename_i e' l hrow
          obtain ⟨he, hk⟩ := cond_some hk
          split at hk
          · rename_i y hy
            obtain ⟨l', hl, hk⟩ := obind_eq hk
            refine ⟨.v (.one (.row o' (ver + 1))), σ.ob.set o' (some (.row e t l' (ver + 1))), by rw [hdst]; exact hk, fun h => (by rw [hq] at h; cases h), fun σ' hx' hob R' K' => ?_⟩
            rw [hop]
            have h2 : opnds0 E σ' xs = some vs := by rw [opnds0_eq (xs := xs) (fun y hy => hm σ' hx' y (List.mem_cons_of_mem _ hy)), hvs]
            simp only [rowK, hm σ' hx' x List.mem_cons_self, hx, h2, hdst, hob, hrow, he, cond_true, hy, hl, obind_some]
            rfl
          · cases hk
        · cases hk
      · cases hk
  | inplace =>
    cases xs with
    | nil => cases hk
    | cons x xs =>
      simp only [rowK] at hk
      split at hk
      · rename_i o' ver vs hx hvs0
        obtain ⟨xs', hxs', hvs⟩ := Option.bind_eq_some_iff.1 hvs0
        split at hk
        · rename_i e' l hrow
          obtain ⟨he, hk⟩ := cond_some hk
          split at hk
          · rename_i y hy
            obtain ⟨l', hl, hk⟩ := obind_eq hk
            obtain ⟨hlen, hk⟩ := cond_some hk
            refine ⟨.tup [], σ.ob.set o' (some (.row e t l' ver)), hk, fun h => (by rw [hq] at h; cases h), fun σ' hx' hob R' K' => ?_⟩
            rw [hop]
            have h2 : (argsOf fnO xs).bind (opnds0 E σ') = some vs := by
              have hxs2 : argsOf fnO xs = some xs' := hxs'
              rw [hxs2, Option.bind_some, opnds0_eq (xs := xs') (fun y hy => hm σ' hx' y (List.mem_cons_of_mem _ (argsOf_sub hxs2 y hy))), hvs]
            simp only [rowK, hm σ' hx' x List.mem_cons_self, hx, h2, hob, hrow, he, cond_true, hy, hl, obind_some, hlen]
          · cases hk
        · cases hk
      · cases hk
  | inl => cases hn
theorem call_still {o : Oper} {c : Call} (ho : o.op = .call c) (hn : inlFree E.rows o.op = true) (hk : callK E σ o.dst c K = some r) : Still E σ o K r := by
  have hk0 := hk
  have hm : ∀ (σ' : St), (∀ x ∈ o.op.operands, opnd E σ' x = opnd E σ x) → ∀ y, y ∈ c.args.toList → opnd E σ' y = opnd E σ y := fun σ' hx y hy => hx y (by
    rw [ho]
    simp only [Op.operands, Call.operands]
    exact Array.mem_append_right _ (by simpa using hy))
  have hop : ∀ (σ' : St) {R' : Type} (K' : St → Option R'), opK E o σ' K' = callK E σ' o.dst c K' := fun σ' R' K' => by simp only [opK, ho]
  unfold callK at hk
  split at hk
  · rename_i x T hc ha ht
    split at hk
    · rename_i n hT hn
      split at hk
      · rename_i s hs
        refine still_put hk fun σ' hx hob R' K' => ?_
        rw [hop]
        rw [hs] at hn
        simp only [callK, hc, ha, ht, hm σ' hx x (by rw [ha]; simp), lenV_ob hob, hT, hs, hn]
      · cases hk
    · rename_i n hT hn
      split at hk
      · cases hk
      · rename_i hs
        refine still_put hk fun σ' hx hob R' K' => ?_
        rw [hop]
        simp only [callK, hc, ha, ht, hm σ' hx x (by rw [ha]; simp), lenV_ob hob, hT, hn]
    · cases hk
  · rename_i x y hc ha
    split at hk
    · rename_i k m k' n h1 h2
      refine still_put hk fun σ' hx hob R' K' => ?_
      rw [hop]
      simp only [callK, hc, ha, hm σ' hx x (by rw [ha]; simp), hm σ' hx y (by rw [ha]; simp), h1, h2]
    · cases hk
  · rename_i x y hc ha
    split at hk
    · rename_i k m k' n h1 h2
      refine still_put hk fun σ' hx hob R' K' => ?_
      rw [hop]
      simp only [callK, hc, ha, hm σ' hx x (by rw [ha]; simp), hm σ' hx y (by rw [ha]; simp), h1, h2]
    · cases hk
  · rename_i s x T T' hc ha ht
    exact append_still ho hc ha ht hk
  · rename_i f hc
    split at hk
    · rename_i S hS
      exact row_still ho hc hS (by rw [ho] at hn; simp only [inlFree, hc, hS] at hn; simpa using hn) hk
    rename_i hS0
    split at hk
    · rename_i S vs hS hvs
      split at hk
      · rename_i x hx
        obtain ⟨y, hy, hk⟩ := obind_eq hk
        refine still_put hk fun σ' hx' hob R' K' => ?_
        rw [hop]
        simp only [callK, hc, hS0, hS, opnds0_eq (hm σ' hx'), hvs, hob, hx, hy]
        rfl
      · cases hk
    · cases hk
  · rename_i t hc
    split at hk
    · rename_i dom cod φ vs hv hvs
      split at hk
      · rename_i x hx
        obtain ⟨y, hy, hk⟩ := obind_eq hk
        refine still_put hk fun σ' hx' hob R' K' => ?_
        rw [hop]
        have h1 : opnd E σ' (.tmp t) = opnd E σ (.tmp t) := hx' _ (by rw [ho]; simp [Op.operands, Call.operands, hc])
        simp only [callK, hc, h1, hv, opnds0_eq (hm σ' hx'), hvs, hob, hx, hy]
        rfl
      · cases hk
    · cases hk
  · cases hk
end
end Go.Vx

end
section
set_option linter.unusedVariables false
set_option linter.unusedSimpArgs false
namespace Go.Vx
open Go Go.RowKit
section
variable {P : Program} {pn : Nat → Value} {E : Env} {σ : St} {R : Type} {r : R} {K : St → Option R}

theorem op_still {o : Oper} (hn : inlFree E.rows o.op = true) (hk : opK E o σ K = some r) : Still E σ o K r := by
  have hk0 := hk
  unfold opK at hk
  split at hk
  · rename_i x ho
    refine still_put hk fun σ' hx hob R' K' => ?_
    simp only [opK, ho, hx x (by simp [ho, Op.operands])]
  · rename_i x ho
    refine still_put hk fun σ' hx hob R' K' => ?_
    simp only [opK, ho, hx x (by simp [ho, Op.operands])]
  · rename_i c x y ho
    split at hk
    · rename_i p hc
      have hk' := caseB_some hk
      refine still_put hk' fun σ' hx hob R' K' => ?_
      simp only [opK, ho, hx x (by simp [ho, Op.operands]), hx y (by simp [ho, Op.operands]), hx c (by simp [ho, Op.operands]), hc]
      cases p <;> rfl
    · cases hk
  · rename_i e ho
    split at hk
    · rename_i i hi
      refine new_still (by rw [ho]; rfl) hk fun σ' hx hob R' K' => ?_
      simp only [opK, ho, hi]
    · cases hk
  · rename_i e x ho
    split at hk
    · rename_i i v d hi hv hdst
      obtain ⟨hc, hk⟩ := cond_some hk
      have h0 : ∀ (σ' : St), (∀ x ∈ o.op.operands, opnd E σ' x = opnd E σ x) → opnd0 E σ' x = some v := fun σ' hx => by rw [opnd0_eq (hx x (by simp [ho, Op.operands])), hv]
      cases hro : memN E.ann.ro d with
      | true =>
        rw [hro] at hk
        simp only [cond_true] at hk
        split at hk
        · rename_i t cs hty
          split at hk
          · rename_i y hp
            refine still_put hk fun σ' hx hob R' K' => ?_
            simp only [opK, ho, hi, h0 σ' hx, hdst, hc, hro, cond_true, hty, hob, hp]
          · cases hk
        · rename_i c hty hcell
          refine still_put hk fun σ' hx hob R' K' => ?_
          rw [hcell] at hc
          simp only [opK, ho, hi, h0 σ' hx, hdst, hro, cond_true, hty, hob, hcell, hc]
        · cases hk
      | false =>
        rw [hro] at hk
        simp only [cond_false] at hk
        refine new_still (by rw [ho]; rfl) hk fun σ' hx hob R' K' => ?_
        simp only [opK, ho, hi, h0 σ' hx, hdst, hc, hro, cond_true, cond_false]
    · cases hk
  · rename_i t parts ho
    split at hk
    · rename_i i_ty i_sz i_agg i_z i_by fs i_eqs ps hi hp
      split at hk
      · rename_i cells hf
        refine still_put hk fun σ' hx hob R' K' => ?_
        have hp' : parts0 E σ' parts.toList = some ps := by
          rw [parts0_eq (fun y hy => hx y (by rw [ho]; simp only [Op.operands]; simpa using hy)), hp]
        simp only [opK, ho, hi, hp', hf]
      · cases hk
    · cases hk
  · rename_i T len parts ho
    split at hk
    · rename_i _ _ _ _ _ e _ ps hi hp
      split at hk
      · rename_i t _ _ _ _ _ _ hie
        split at hk
        · rename_i xs d hx hdst
          obtain ⟨hc, hk⟩ := cond_some hk
          have hp' : ∀ (σ' : St), (∀ x ∈ o.op.operands, opnd E σ' x = opnd E σ x) → parts0 E σ' parts.toList = some ps := fun σ' hx => by
            rw [parts0_eq (fun y hy => hx y (by rw [ho]; simp only [Op.operands]; simpa using hy)), hp]
          cases hown : memN E.ann.own d with
          | true =>
            rw [hown] at hk
            simp only [cond_true] at hk
            refine new_still (by rw [ho]; rfl) hk fun σ' hx' hob R' K' => ?_
            simp only [opK, ho, hi, hp' σ' hx', hie, hdst, hob, hx, hc, hown, cond_true]
          | false =>
            rw [hown] at hk
            simp only [cond_false] at hk
            refine still_put hk fun σ' hx' hob R' K' => ?_
            simp only [opK, ho, hi, hp' σ' hx', hie, hdst, hob, hx, hc, hown, cond_true, cond_false]
        · cases hk
      · cases hk
    · cases hk
  · rename_i T x ho
    obtain ⟨v, h1, h2⟩ := nat_some (loadK_nat E σ T (opnd E σ x)) hk
    refine still_put h1 fun σ' hx hob R' K' => ?_
    simp only [opK, ho, hx x (by simp [ho, Op.operands]), loadK_ob hob]
    exact h2 _
  · rename_i T x y ho
    split at hk
    · rename_i v hv
      obtain ⟨ob', h1, h2⟩ := storeK_ob hk
      refine ⟨nonV, ob', h1, fun h => (by rw [ho] at h; cases h), fun σ' hx hob R' K' => ?_⟩
      simp only [opK, ho, opnd0_eq (hx y (by simp [ho, Op.operands])), hv, hx x (by simp [ho, Op.operands])]
      exact h2 σ' hob _
    · cases hk
  · rename_i x ho
    split at hk
    · rename_i p k hv
      refine still_put hk fun σ' hx hob R' K' => ?_
      simp only [opK, ho, hx x (by simp [ho, Op.operands]), hv]
    · rename_i cs hv
      refine still_put hk fun σ' hx hob R' K' => ?_
      simp only [opK, ho, hx x (by simp [ho, Op.operands]), hv]
    · cases hk
  · rename_i op T x y _ ho
    obtain ⟨v, h1, h2⟩ := nat_some (binK_nat E op T (opnd E σ x) (opnd E σ y)) hk
    refine still_put h1 fun σ' hx hob R' K' => ?_
    simp only [opK, ho, hx x (by simp [ho, Op.operands]), hx y (by simp [ho, Op.operands])]
    exact h2 _
  · rename_i op T x ho
    obtain ⟨v, h1, h2⟩ := nat_some (unK_nat op (opnd E σ x)) hk
    refine still_put h1 fun σ' hx hob R' K' => ?_
    simp only [opK, ho, hx x (by simp [ho, Op.operands])]
    exact h2 _
  · rename_i src dst x ho
    obtain ⟨v, h1, h2⟩ := nat_some (convK_nat E src dst (opnd E σ x)) hk
    refine still_put h1 fun σ' hx hob R' K' => ?_
    simp only [opK, ho, hx x (by simp [ho, Op.operands])]
    exact h2 _
  · rename_i f first caps ho
    split at hk
    · rename_i S vs cs hS hv hc
      split at hk
      · rename_i c hcl
        refine still_put hk fun σ' hx hob R' K' => ?_
        have h1 : opnds0 E σ' first.toList = some vs := by
          rw [opnds0_eq (fun y hy => hx y (by rw [ho]; simp only [Op.operands]; exact Array.mem_append_left _ (by simpa using hy))), hv]
        have h2 : opnds0 E σ' caps.toList = some cs := by
          rw [opnds0_eq (fun y hy => hx y (by rw [ho]; simp only [Op.operands]; exact Array.mem_append_right _ (by simpa using hy))), hc]
        simp only [opK, ho, hS, h1, h2, hob, hcl]
      · cases hk
    · cases hk
  · rename_i T l c ho
    split at hk
    · rename_i _ _ _ _ _ e _ n hi hl
      split at hk
      · rename_i _ t _ _ _ by_ _ _ hie
        obtain ⟨hc, hk⟩ := cond_some hk
        obtain ⟨hn, hk⟩ := oif_some hk
        obtain ⟨hb, hk⟩ := oif_some hk
        refine new_still (by rw [ho]; rfl) hk fun σ' hx hob R' K' => ?_
        simp only [opK, ho, hi, hx l (by simp [ho, Op.operands]), hl, hie, hc, hn, hb]
        rfl
      · cases hk
    · cases hk
  · rename_i T ho
    split at hk
    · rename_i t hT
      refine new_still (by rw [ho]; rfl) hk fun σ' hx hob R' K' => ?_
      simp only [opK, ho, hT]
    · cases hk
  · rename_i T m k x ho
    split at hk
    · rename_i t o' s v hT hm hkk hx0
      split at hk
      · rename_i es y hes hy
        refine ⟨nonV, _, hk, fun h => (by rw [ho] at h; cases h), fun σ' hx hob R' K' => ?_⟩
        simp only [opK, ho, hT, hx m (by simp [ho, Op.operands]), hm, hx k (by simp [ho, Op.operands]), hkk, opnd0_eq (hx x (by simp [ho, Op.operands])), hx0, hob, hes, hy]
      · cases hk
    · cases hk
  · rename_i T m k ho
    split at hk
    · rename_i t o' s hT hm hkk
      split at hk
      · rename_i es hes
        refine still_put hk fun σ' hx hob R' K' => ?_
        simp only [opK, ho, hT, hx m (by simp [ho, Op.operands]), hm, hx k (by simp [ho, Op.operands]), hkk, hob, hes]
      · cases hk
    · cases hk
  · rename_i T x lo hi ho
    obtain ⟨v, h1, h2⟩ := nat_some (sliceK_nat E T (opnd E σ x) (lo.map (opnd E σ)) (hi.map (opnd E σ))) hk
    refine still_put h1 fun σ' hx hob R' K' => ?_
    have hlo : lo.map (opnd E σ') = lo.map (opnd E σ) := by
      cases lo with
      | none => rfl
      | some l => simp only [Option.map_some]; rw [hx l (by simp [ho, Op.operands])]
    have hhi : hi.map (opnd E σ') = hi.map (opnd E σ) := by
      cases hi with
      | none => rfl
      | some l => simp only [Option.map_some]; rw [hx l (by simp [ho, Op.operands])]
    simp only [opK, ho, hx x (by simp [ho, Op.operands]), hlo, hhi]
    exact h2 _
  · rename_i S x f ho
    split at hk
    · rename_i off t hf
      split at hk
      · rename_i y hy
        refine still_put hk fun σ' hx hob R' K' => ?_
        simp only [opK, ho, hx x (by simp [ho, Op.operands]), hf, fieldAddrA_ob hob, hy]
      · cases hk
    · cases hk
  · rename_i S x f ho
    split at hk
    · rename_i off t cells hf hx0
      split at hk
      · rename_i i hi
        split at hk
        · rename_i cs hc
          split at hk
          · rename_i v hv
            refine still_put hk fun σ' hx hob R' K' => ?_
            simp only [opK, ho, hx x (by simp [ho, Op.operands]), hf, hx0, hi, hc, hv]
          · cases hk
        · cases hk
      · cases hk
    · cases hk
  · rename_i T x i ho
    obtain ⟨v, h1, h2⟩ := nat_some (idxAddrK_nat E σ T (opnd E σ x) (opnd E σ i)) hk
    refine still_put h1 fun σ' hx hob R' K' => ?_
    simp only [opK, ho, hx x (by simp [ho, Op.operands]), hx i (by simp [ho, Op.operands]), idxAddrK_ob hob]
    exact h2 _
  · rename_i T x i ho
    split at hk
    · rename_i s k j hT hx0 hi0
      obtain ⟨c1, hk⟩ := oif_some hk
      obtain ⟨c2, hk⟩ := oif_some hk
      refine still_put hk fun σ' hx hob R' K' => ?_
      simp only [opK, ho, hx x (by simp [ho, Op.operands]), hx i (by simp [ho, Op.operands]), hT, hx0, hi0, c1, c2]
      rfl
    · cases hk
  · rename_i t j ho
    split at hk
    · rename_i vs ht
      split at hk
      · rename_i v hv
        refine still_put hk fun σ' hx hob R' K' => ?_
        simp only [opK, ho, hx t (by simp [ho, Op.operands]), ht, hv]
      · cases hk
    · cases hk
  · rename_i c ho
    exact call_still ho hn hk
  · cases hk

def plainX : Operand → Bool
  | .func _ => false
  | _ => true
def freeOp : Op → Bool
  | .move x => plainX x
  | .assign x => plainX x
  | .extract x _ => plainX x
  | .binOp _ _ x y _ => plainX x && plainX y
  | _ => false
theorem free_told {o : Oper} {K : St → Option R} (hf : freeOp o.op = true) (hk : opK E o σ K = some r) : ∃ v, K (σ.put o.dst v) = some r ∧ ∀ (σ' : St), (∀ x ∈ o.op.operands, plainX x = true → opnd E σ' x = opnd E σ x) →
    ∀ {R' : Type} (K' : St → Option R'), opK E o σ' K' = K' (σ'.put o.dst v) := by
  unfold opK at hk
  split at hk
  · rename_i x ho
    rw [ho] at hf
    refine ⟨_, hk, fun σ' hx R' K' => ?_⟩
    simp only [opK, ho, hx x (by simp [ho, Op.operands]) hf]
  · rename_i x ho
    rw [ho] at hf
    refine ⟨_, hk, fun σ' hx R' K' => ?_⟩
    simp only [opK, ho, hx x (by simp [ho, Op.operands]) hf]
  case h_11 op T x y _ ho =>
    rw [ho] at hf
    have hf' : (plainX x && plainX y) = true := hf
    rw [Bool.and_eq_true] at hf'
    obtain ⟨v, h1, h2⟩ := nat_some (binK_nat E op T (opnd E σ x) (opnd E σ y)) hk
    refine ⟨_, h1, fun σ' hx R' K' => ?_⟩
    simp only [opK, ho, hx x (by simp [ho, Op.operands]) hf'.1, hx y (by simp [ho, Op.operands]) hf'.2]
    exact h2 _
  all_goals first
    | (rename_i ho; rw [ho] at hf; cases hf; done)
    | (cases hk; done)
    | skip
  rename_i t j ho
  rw [ho] at hf
  split at hk
  · rename_i vs ht
    split at hk
    · rename_i v hv
      refine ⟨_, hk, fun σ' hx R' K' => ?_⟩
      simp only [opK, ho, hx t (by simp [ho, Op.operands]) hf, ht, hv]
    · cases hk
  · cases hk
end
end Go.Vx

end
section
set_option linter.unusedVariables false
set_option linter.unusedSimpArgs false
namespace Go.Vx
open Go Go.RowKit
def Sub (ob ob' : List (Option Obj)) : Prop := ∀ (o : Nat) (x : Obj), ob[o]? = some (some x) → ob'[o]? = some (some x)
theorem Sub.set {ob : List (Option Obj)} {d : Nat} {x : Obj} (h : ob[d]? = some none) : Sub ob (ob.set d (some x)) := fun o y hy => by
  rw [List.getElem?_set]
  split
  · rename_i e
    subst e
    rw [h] at hy
    cases hy
  · exact hy
section
variable {P : Program} {pn : Nat → Value} {pn : Nat → Value} {E : Env} {σ σ' : St} {R : Type} {r : R} {K : St → Option R} {ob ob' : List (Option Obj)}
theorem leafA_mono (h : Sub ob ob') {allow : Bool} {t : Ty} {a : A} {x : Den t} (hx : leafA allow ob t a = some x) : leafA allow ob' t a = some x := by
  cases a with
  | row o ver =>
    cases allow with
    | false => cases hx
    | true =>
      have hx' : (match ob[o]? with
        | some (some (.row _ t' xs v)) => cond (Nat.beq v ver) (castD (t := .sl t') (t' := t) xs) none
        | _ => none) = some x := by
        revert hx
        simp only [leafA]
        cases ob[o]? with
        | none => intro h; cases h
        | some y => cases y with
          | none => intro h; cases h
          | some y => cases y <;> intro h <;> first | exact h | cases h
      split at hx'
      · rename_i e t' xs v ho
        have h2 := h o _ ho
        show (match true, ob'[o]? with
          | true, some (some (.row _ t' xs v)) => cond (Nat.beq v ver) (castD (t := .sl t') (t' := t) xs) none
          | _, _ => none) = some x
        rw [h2]
        exact hx'
      · cases hx'
  | b y => cases y <;> exact hx
  | rdp c => exact hx
  | ptr o k => exact hx
  | rowp o v i k => exact hx
  | mp o => exact hx
  | nil => exact hx
  | non => exact hx
  | undef => exact hx
theorem packA_mono (h : Sub ob ob') {allow : Bool} : ∀ {t : Ty} {xs : List A} {p : Den t × List A}, packA allow ob t xs = some p → packA allow ob' t xs = some p
  | .unit, xs, p, hx => by cases xs <;> exact hx
  | .pair a b, xs, p, hx => by
    have hx' : (match packA allow ob a xs with
      | some (x, r) => match packA allow ob b r with
        | some (y, r') => some ((x, y), r')
        | none => none
      | none => none) = some p := by cases xs <;> exact hx
    have goal : (match packA allow ob' a xs with
      | some (x, r) => match packA allow ob' b r with
        | some (y, r') => some ((x, y), r')
        | none => none
      | none => none) = some p := by
      cases h1 : packA allow ob a xs with
      | none => rw [h1] at hx'; cases hx'
      | some q =>
        obtain ⟨x, rr⟩ := q
        rw [h1] at hx'
        rw [packA_mono h h1]
        cases h2 : packA allow ob b rr with
        | none => simp only [h2] at hx'; cases hx'
        | some q2 =>
          simp only [h2] at hx'
          simp only [packA_mono h h2]
          exact hx'
    cases xs <;> exact goal
  | .int k, [], p, hx => by cases hx
  | .bool, [], p, hx => by cases hx
  | .str, [], p, hx => by cases hx
  | .sl t, [], p, hx => by cases hx
  | .int k, a :: xs, p, hx => by
    have hx' : (match leafA allow ob (.int k) a with | some x => some (x, xs) | none => none) = some p := hx
    show (match leafA allow ob' (.int k) a with | some x => some (x, xs) | none => none) = some p
    cases h1 : leafA allow ob (.int k) a with
    | none => rw [h1] at hx'; cases hx'
    | some y => rw [h1] at hx'; rw [leafA_mono h h1]; exact hx'
  | .bool, a :: xs, p, hx => by
    have hx' : (match leafA allow ob .bool a with | some x => some (x, xs) | none => none) = some p := hx
    show (match leafA allow ob' .bool a with | some x => some (x, xs) | none => none) = some p
    cases h1 : leafA allow ob .bool a with
    | none => rw [h1] at hx'; cases hx'
    | some y => rw [h1] at hx'; rw [leafA_mono h h1]; exact hx'
  | .str, a :: xs, p, hx => by
    have hx' : (match leafA allow ob .str a with | some x => some (x, xs) | none => none) = some p := hx
    show (match leafA allow ob' .str a with | some x => some (x, xs) | none => none) = some p
    cases h1 : leafA allow ob .str a with
    | none => rw [h1] at hx'; cases hx'
    | some y => rw [h1] at hx'; rw [leafA_mono h h1]; exact hx'
  | .sl t, a :: xs, p, hx => by
    have hx' : (match leafA allow ob (.sl t) a with | some x => some (x, xs) | none => none) = some p := hx
    show (match leafA allow ob' (.sl t) a with | some x => some (x, xs) | none => none) = some p
    cases h1 : leafA allow ob (.sl t) a with
    | none => rw [h1] at hx'; cases hx'
    | some y => rw [h1] at hx'; rw [leafA_mono h h1]; exact hx'
theorem packV_mono (h : Sub ob ob') {allow : Bool} {t : Ty} {v : V0} {x : Den t} (hx : packV allow ob t v = some x) : packV allow ob' t v = some x := by
  cases v with
  | one a =>
    cases hm : t.many with
    | true => unfold packV at hx; rw [hm] at hx; cases hx
    | false =>
      unfold packV at hx ⊢
      rw [hm] at hx ⊢
      exact leafA_mono h hx
  | agg xs =>
    cases hm : t.many with
    | false => unfold packV at hx; rw [hm] at hx; cases hx
    | true =>
      unfold packV at hx ⊢
      rw [hm] at hx ⊢
      have hx' : (match packA allow ob t xs with
        | some (x, []) => some x
        | _ => none) = some x := hx
      show (match packA allow ob' t xs with
        | some (x, []) => some x
        | _ => none) = some x
      split at hx'
      · rename_i y hp
        rw [packA_mono h hp]
        exact hx'
      · cases hx'
theorem packArg_mono (h : Sub ob ob') {allow : Bool} {a : ATy} {v : V0} {x : ADen a} (hx : packArg allow ob a v = some x) : packArg allow ob' a v = some x := by
  cases a with
  | v t => exact packV_mono h hx
  | clo d c => cases v with
    | one a => cases a with
      | b y => cases y <;> exact hx
      | _ => exact hx
    | agg _ => exact hx
  | ptrD t => cases v with
    | one a => cases a <;> exact hx
    | agg _ => exact hx
  | ptrC d c => cases v with
    | one a => cases a with
      | rdp l => cases l with
        | nil => exact hx
        | cons y l => cases l <;> cases y <;> exact hx
      | _ => exact hx
    | agg _ => exact hx
theorem packArgs_mono (h : Sub ob ob') {allow : Bool} : ∀ {l : List ATy} {vs : List V0} {x : ADens l}, packArgs allow ob l vs = some x → packArgs allow ob' l vs = some x
  | [], [], x, hx => hx
  | [], v :: vs, x, hx => by cases hx
  | a :: l, [], x, hx => by cases hx
  | a :: l, v :: vs, x, hx => by
    unfold packArgs at hx ⊢
    split at hx
    · rename_i y h1
      rw [packArg_mono h h1]
      split at hx
      · rename_i z h2
        simp only [packArgs_mono h h2]
        exact hx
      · cases hx
    · cases hx
theorem isBox_mono (h : Sub ob ob') {o : Nat} {c : List A} (hx : isBox ob o = some c) : isBox ob' o = some c := by
  unfold isBox at hx
  split at hx
  · rename_i cells ho
    injection hx with hx
    subst hx
    unfold isBox
    rw [h o _ ho]
  · cases hx
theorem loadK_mono (h : Sub σ.ob σ'.ob) {T : TypeId} {a : V} {v : V0} (hx : loadK E σ T a some = some v) : loadK E σ' T a some = some v := by
  unfold loadK at hx
  split at hx
  · rename_i i cells hT
    simp only [loadK, hT]
    exact hx
  · rename_i i o off hT
    split at hx
    · rename_i cells hb
      simp only [loadK, hT, isBox_mono h hb]
      exact hx
    · cases hx
  · rename_i i o ver j off hT
    split at hx
    · rename_i e t xs w ho
      simp only [loadK, hT, h o _ ho]
      exact hx
    · cases hx
  · cases hx
theorem fieldAddrA_mono (h : Sub σ.ob σ'.ob) {off : Nat} {x : V} {a : A} (hx : fieldAddrA σ off x = some a) : fieldAddrA σ' off x = some a := by
  unfold fieldAddrA at hx
  split at hx
  · exact hx
  · rename_i o ver i k
    split at hx
    · rename_i e t xs w ho
      simp only [fieldAddrA, h o _ ho]
      exact hx
    · cases hx
  · exact hx
  · cases hx
theorem lenV_mono (h : Sub σ.ob σ'.ob) {x : V} {n : Int} (hx : lenV σ x = some n) : lenV σ' x = some n := by
  unfold lenV at hx
  split at hx
  · exact hx
  · exact hx
  · exact hx
  · rename_i o ver
    split at hx
    · rename_i e t xs w ho
      simp only [lenV, h o _ ho]
      exact hx
    · cases hx
  · cases hx
theorem idxAddrK_mono (h : Sub σ.ob σ'.ob) {T : TypeId} {x i : V} {a : A} (hx : idxAddrK E σ T x i some = some a) : idxAddrK E σ' T x i some = some a := by
  unfold idxAddrK at hx
  split at hx
  · rename_i hT
    simp only [idxAddrK, hT]
    exact hx
  · rename_i e o ver k j hT
    split at hx
    · rename_i e' t xs w ho
      simp only [idxAddrK, hT, h o _ ho]
      exact hx
    · cases hx
  · cases hx

def monoOp (rows : List (Nat × RSpec)) : Op → Bool
  | .load _ a => plainX a
  | .fieldAddr _ x _ => plainX x
  | .field _ x _ => plainX x
  | .indexAddr _ x i => plainX x && plainX i
  | .index _ x i => plainX x && plainX i
  | .unOp _ _ x => plainX x
  | .convert _ _ x => plainX x
  | .nilCheck x => plainX x
  | .call c => c.args.toList.all plainX && (match c.callee with
    | .builtin .len => true
    | .value (.func f) => match find rows f with
      | some _ => false
      | none => true
    | _ => false)
  | _ => false
def Mono (E : Env) (σ : St) (o : Oper) (K : St → Option R) (r : R) : Prop := ∃ v, K (σ.put o.dst v) = some r ∧ ∀ (σ' : St), (∀ x ∈ o.op.operands, plainX x = true → opnd E σ' x = opnd E σ x) → Sub σ.ob σ'.ob →
  ∀ {R' : Type} (K' : St → Option R'), opK E o σ' K' = K' (σ'.put o.dst v)
theorem mono_put {o : Oper} {v : V} (hk : K (σ.put o.dst v) = some r) (ht : ∀ (σ' : St), (∀ x ∈ o.op.operands, plainX x = true → opnd E σ' x = opnd E σ x) → Sub σ.ob σ'.ob → ∀ {R' : Type} (K' : St → Option R'), opK E o σ' K' = K' (σ'.put o.dst v)) : Mono E σ o K r := ⟨v, hk, ht⟩
theorem op_mono {o : Oper} (hq : monoOp E.rows o.op = true) (hk : opK E o σ K = some r) : Mono E σ o K r := by
  unfold opK at hk
  split at hk
  all_goals try (rename_i ho; rw [ho] at hq; cases hq; done)
  · rename_i T x ho
    rw [ho] at hq
    obtain ⟨v, h1, h2⟩ := nat_some (loadK_nat E σ T (opnd E σ x)) hk
    refine mono_put h1 fun σ' hx hob R' K' => ?_
    simp only [opK, ho, hx x (by simp [ho, Op.operands]) hq]
    refine Eq.trans (loadK_nat E σ' T (opnd E σ x) _) ?_
    show obind (loadK E σ' T (opnd E σ x) some) _ = _
    rw [loadK_mono hob (h2 some)]
    rfl
  · rename_i x ho
    rw [ho] at hq
    split at hk
    · rename_i p k hv
      refine mono_put hk fun σ' hx hob R' K' => ?_
      simp only [opK, ho, hx x (by simp [ho, Op.operands]) hq, hv]
    · rename_i cs hv
      refine mono_put hk fun σ' hx hob R' K' => ?_
      simp only [opK, ho, hx x (by simp [ho, Op.operands]) hq, hv]
    · cases hk
  · rename_i op T x ho
    rw [ho] at hq
    obtain ⟨v, h1, h2⟩ := nat_some (unK_nat op (opnd E σ x)) hk
    refine mono_put h1 fun σ' hx hob R' K' => ?_
    simp only [opK, ho, hx x (by simp [ho, Op.operands]) hq]
    exact h2 _
  · rename_i src dst x ho
    rw [ho] at hq
    obtain ⟨v, h1, h2⟩ := nat_some (convK_nat E src dst (opnd E σ x)) hk
    refine mono_put h1 fun σ' hx hob R' K' => ?_
    simp only [opK, ho, hx x (by simp [ho, Op.operands]) hq]
    exact h2 _
  · rename_i S x f ho
    rw [ho] at hq
    split at hk
    · rename_i off t hf
      split at hk
      · rename_i y hy
        refine mono_put hk fun σ' hx hob R' K' => ?_
        simp only [opK, ho, hx x (by simp [ho, Op.operands]) hq, hf, fieldAddrA_mono hob hy]
      · cases hk
    · cases hk
  · rename_i S x f ho
    rw [ho] at hq
    split at hk
    · rename_i off t cells hf hx0
      split at hk
      · rename_i i hi
        split at hk
        · rename_i cs hc
          split at hk
          · rename_i v hv
            refine mono_put hk fun σ' hx hob R' K' => ?_
            simp only [opK, ho, hx x (by simp [ho, Op.operands]) hq, hf, hx0, hi, hc, hv]
          · cases hk
        · cases hk
      · cases hk
    · cases hk
  · rename_i T x i ho
    rw [ho] at hq
    have hq := (Bool.and_eq_true _ _).mp hq
    obtain ⟨v, h1, h2⟩ := nat_some (idxAddrK_nat E σ T (opnd E σ x) (opnd E σ i)) hk
    refine mono_put h1 fun σ' hx hob R' K' => ?_
    simp only [opK, ho, hx x (by simp [ho, Op.operands]) hq.1, hx i (by simp [ho, Op.operands]) hq.2]
    refine Eq.trans (idxAddrK_nat E σ' T (opnd E σ x) (opnd E σ i) _) ?_
    show obind (idxAddrK E σ' T (opnd E σ x) (opnd E σ i) some) _ = _
    rw [idxAddrK_mono hob (h2 some)]
    rfl
  · rename_i T x i ho
    rw [ho] at hq
    have hq := (Bool.and_eq_true _ _).mp hq
    split at hk
    · rename_i s k j hT hx0 hi0
      obtain ⟨c1, hk⟩ := oif_some hk
      obtain ⟨c2, hk⟩ := oif_some hk
      refine mono_put hk fun σ' hx hob R' K' => ?_
      simp only [opK, ho, hx x (by simp [ho, Op.operands]) hq.1, hx i (by simp [ho, Op.operands]) hq.2, hT, hx0, hi0, c1, c2]
      rfl
    · cases hk
  · rename_i c ho
    rw [ho] at hq
    have hq : (c.args.toList.all plainX && (match c.callee with
      | .builtin .len => true
      | .value (.func f) => match find E.rows f with
        | some _ => false
        | none => true
      | _ => false)) = true := hq
    rw [Bool.and_eq_true] at hq
    obtain ⟨hq1, hq2⟩ := hq
    have hm : ∀ (σ' : St), (∀ x ∈ o.op.operands, plainX x = true → opnd E σ' x = opnd E σ x) → ∀ y, y ∈ c.args.toList → opnd E σ' y = opnd E σ y := fun σ' hx y hy => hx y (by
      rw [ho]
      simp only [Op.operands, Call.operands]
      exact Array.mem_append_right _ (by simpa using hy)) (List.all_eq_true.1 hq1 y hy)
    have hop : ∀ (σ' : St) {R' : Type} (K' : St → Option R'), opK E o σ' K' = callK E σ' o.dst c K' := fun σ' R' K' => by simp only [opK, ho]
    unfold callK at hk
    split at hk
    · rename_i x T hc ha ht
      split at hk
      · rename_i n hT hn
        split at hk
        · rename_i s hs
          refine mono_put hk fun σ' hx hob R' K' => ?_
          rw [hop]
          have hn' := lenV_mono hob hn
          rw [hs] at hn'
          simp only [callK, hc, ha, ht, hm σ' hx x (by rw [ha]; simp), hn', hT, hs]
        · cases hk
      · rename_i n hT hn
        split at hk
        · cases hk
        · rename_i hs
          refine mono_put hk fun σ' hx hob R' K' => ?_
          rw [hop]
          simp only [callK, hc, ha, ht, hm σ' hx x (by rw [ha]; simp), lenV_mono hob hn, hT]
      · cases hk
    · rename_i hc _; simp only [hc] at hq2; cases hq2
    · rename_i hc _; simp only [hc] at hq2; cases hq2
    · rename_i hc _ _; simp only [hc] at hq2; cases hq2
    · rename_i f hc
      split at hk
      · rename_i S hS
        simp only [hc, hS] at hq2
        cases hq2
      rename_i hS0
      split at hk
      · rename_i S vs hS hvs
        split at hk
        · rename_i x hx
          obtain ⟨y, hy, hk⟩ := obind_eq hk
          refine mono_put hk fun σ' hx' hob R' K' => ?_
          rw [hop]
          simp only [callK, hc, hS0, hS, opnds0_eq (hm σ' hx'), hvs, packArgs_mono hob hx, hy]
          rfl
        · cases hk
      · cases hk
    · rename_i t hc; simp only [hc] at hq2; cases hq2
    · cases hk
  · cases hk
def isAlloc : Op → Bool
  | .alloc _ => true
  | _ => false
theorem alloc_still {o : Oper} (ha : isAlloc o.op = true) (hk : opK E o σ K = some r) : ∃ v ob', K (({ tm := σ.tm, ob := ob' } : St).put o.dst v) = some r ∧ Sub σ.ob ob' ∧ Told E σ o v ob' := by
  obtain ⟨e, ho⟩ : ∃ e, o.op = .alloc e := by
    cases h : o.op <;> rw [h] at ha <;> first | exact ⟨_, rfl⟩ | cases ha
  have hop : ∀ (σ' : St) {R' : Type} (K' : St → Option R'), opK E o σ' K' = match find E.tab e with
    | some i => newObj E.base σ' o.dst (.box i.zero) (fun d => .ptr d 0) K'
    | none => none := fun σ' R' K' => by
    simp only [opK, ho]
    rfl
  rw [hop] at hk
  cases hi : find E.tab e with
  | none => rw [hi] at hk; cases hk
  | some i =>
    rw [hi] at hk
    obtain ⟨d, hd, hf, hk⟩ := newObj_some hk
    have hfree : isFree σ.ob (E.base + d) = true := by unfold isFree; rw [hf]
    refine ⟨.v (.one (.ptr (E.base + d) 0)), σ.ob.set (E.base + d) (some (.box i.zero)), by rw [hd]; exact hk, Sub.set hf, fun σ' hx hob R' K' => ?_⟩
    rw [hop, hi, hd]
    simp only [newObj, hob, hfree]
    rfl
end
end Go.Vx

end
section
set_option linter.unusedVariables false
set_option linter.unusedSimpArgs false
namespace Go.Vx
open Go Go.RowKit
section
variable {P : Program} {pn : Nat → Value} {E : Env} {w0 w w' : World} {F : Nat → Prop} {σ : St} {a : Act} {R : Type} {r : R} {K : St → Option R} {ops : Array Oper} {Q : Exit → Act → World → Prop}

def wantsV (ops : Array Oper) (o : Oper) (σ : St) : Option Bool := match o.guard with
  | none => some true
  | some (j, want) => match (ops[j]?).bind (·.dst) with
    | some t => match σ.tm[t]? with
      | some (.v (.one (.b (.d .bool p)))) => some (eqB p want)
      | some (.v (.one .non)) => some false
      | _ => none
    | none => none
theorem set_same {α : Type} {l : List α} {t : Nat} {x : α} (h : l[t]? = some x) : l.set t x = l := by
  apply List.ext_getElem?
  intro k
  rw [List.getElem?_set]
  split
  · rename_i e
    subst e
    split
    · exact h.symm
    · rename_i hlt
      have := (List.getElem?_eq_some_iff.1 h).1
      omega
  · rfl
theorem stepK_eq (E : Env) (ops : Array Oper) (o : Oper) (σ : St) (K : St → Option R) : stepK E ops.toList o σ K = match wantsV ops o σ with
    | some true => opK E o σ K
    | some false => K (σ.put o.dst nonV)
    | none => none := by
  unfold stepK wantsV
  cases hg : o.guard with
  | none => rfl
  | some jw =>
    obtain ⟨j, want⟩ := jw
    simp only [Array.getElem?_toList]
    cases ht : (ops[j]?).bind (·.dst) with
    | none => rfl
    | some t =>
      simp only
      split
      · rename_i p hp
        rw [hp]
        simp only
        cases p <;> cases want <;> (simp only [caseB, eqB, cond_true, cond_false, Bool.not_true, Bool.not_false]; rw [show σ.tm.set t _ = σ.tm from set_same hp])
      · rename_i hp
        rw [hp]
      · rename_i h1 h2
        have hw : (match σ.tm[t]? with
          | some (.v (.one (.b (.d .bool p)))) => some (eqB p want)
          | some (.v (.one .non)) => some false
          | _ => none) = none := by
          split
          · exact absurd ‹_› (h1 _)
          · exact absurd ‹_› h2
          · rfl
        rw [hw]
theorem wants_run {β : Nat → Value} {G : Nat → Prop} (h : Holds P pn w0 F β G σ w a.tmps) {o : Oper} {b : Bool} (hw : wantsV ops o σ = some b) : Region.wanted o (yielded ops a.tmps) = b := by
  unfold wantsV at hw
  unfold Region.wanted
  cases hg : o.guard with
  | none =>
    rw [hg] at hw
    injection hw
  | some jw =>
    obtain ⟨j, want⟩ := jw
    rw [hg] at hw
    simp only at hw ⊢
    unfold yielded
    cases ht : (ops[j]?).bind (·.dst) with
    | none => rw [ht] at hw; cases hw
    | some t =>
      rw [ht] at hw
      simp only [Option.bind_some] at hw ⊢
      have hlen : ∀ v, σ.tm[t]? = some v → a.tmps[t]? = some (a.tmps.getD t undef) := fun v hv => by
        have hlt : t < a.tmps.size := by rw [h.size]; exact (List.getElem?_eq_some_iff.1 hv).1
        simp [Array.getElem?_eq_getElem hlt, Array.getD_eq_getD_getElem?]
      split at hw
      · rename_i p hp
        injection hw with hw
        rw [hlen _ hp, rep_bool (h.tms _ _ hp), ← hw]
        cases p <;> cases want <;> rfl
      · rename_i hp
        injection hw with hw
        rw [hlen _ hp, show a.tmps.getD t undef = undef from h.tms _ _ hp, ← hw]
        cases want <;> rfl
      · cases hw
theorem step_sound (hE : EnvOK P E) {o : Oper} (hI : Inv P pn w0 F σ a w) (hk : stepK E ops.toList o σ K = some r) :
    if Region.wanted o (yielded ops a.tmps) then o.wp P a w (Goes P pn w0 F K r) Q ∨ (o.asks P a w ∧ LetsOut Q) else Goes P pn w0 F K r (a.put o.dst undef) w := by
  rw [stepK_eq] at hk
  obtain ⟨hd, β, G, h⟩ := hI
  cases hw : wantsV ops o σ with
  | none => rw [hw] at hk; cases hk
  | some b =>
    rw [wants_run h hw]
    rw [hw] at hk
    cases b with
    | true => exact .inl (op_sound hE ⟨hd, β, G, h⟩ hk)
    | false => exact ⟨_, hk, inv_put hd h (show RepW P w G β σ.ob nonV undef from rfl) o.dst⟩

theorem list_sound (hE : EnvOK P E) (hQ : ∀ σ a w, K σ = some r → Inv P pn w0 F σ a w → Q .normal a w) : ∀ {l : List Oper} {σ : St} {a : Act} {w : World}, Inv P pn w0 F σ a w → opsK E ops.toList l σ K = some r → wpList P ops Q l a w
  | [], σ, a, w, hI, hk => hQ σ a w hk hI
  | o :: l, σ, a, w, hI, hk => by
    have hk' : stepK E ops.toList o σ (fun σ' => opsK E ops.toList l σ' K) = some r := hk
    have := step_sound (Q := Q) hE hI hk'
    have hm : ∀ a w, Goes P pn w0 F (fun σ' => opsK E ops.toList l σ' K) r a w → wpList P ops Q l a w := by
      rintro a w ⟨σ', h1, h2⟩
      exact list_sound hE hQ h2 h1
    unfold wpList
    split
    · rename_i hw
      rw [if_pos hw] at this
      exact this.imp (fun h => Oper.wp_mono hm h) id
    · rename_i hw
      rw [if_neg hw] at this
      exact hm _ _ this

def AgreeOn (ops : Array Oper) (o : Oper) (σ σ' : St) : Prop := ∀ t ∈ o.looksAt ops, σ'.tm[t]? = σ.tm[t]?
theorem agree_opnd {o : Oper} {σ σ' : St} (h : AgreeOn ops o σ σ') {x : Operand} (hx : x ∈ o.op.operands) (hp : plainX x = true ∨ σ'.ob = σ.ob) : opnd E σ' x = opnd E σ x := by
  cases x with
  | tmp t =>
    show σ'.tm.getD t undefV = σ.tm.getD t undefV
    rw [List.getD_eq_getElem?_getD, List.getD_eq_getElem?_getD, h t (List.mem_append_left _ (List.mem_filterMap.2 ⟨.tmp t, by simpa using hx, rfl⟩))]
  | const v => rfl
  | global g => rfl
  | func f =>
    rcases hp with hp | hp
    · cases hp
    · unfold opnd
      rw [hp]
theorem agree_wants {o : Oper} {σ σ' : St} (h : AgreeOn ops o σ σ') : wantsV ops o σ' = wantsV ops o σ := by
  unfold wantsV
  cases hg : o.guard with
  | none => rfl
  | some jw =>
    obtain ⟨j, want⟩ := jw
    simp only
    cases ht : (ops[j]?).bind (·.dst) with
    | none => rfl
    | some t =>
      simp only
      rw [h t (List.mem_append_right _ (by simp [hg, ht]))]
def StillS (E : Env) (ops : Array Oper) (σ : St) (o : Oper) (K : St → Option R) (r : R) : Prop := ∃ v ob', K (({ tm := σ.tm, ob := ob' } : St).put o.dst v) = some r ∧ (quiet E.rows o.op = true → ob' = σ.ob) ∧
  ∀ (σ' : St), AgreeOn ops o σ σ' → σ'.ob = σ.ob → ∀ {R' : Type} (K' : St → Option R'), stepK E ops.toList o σ' K' = K' (({ tm := σ'.tm, ob := ob' } : St).put o.dst v)
theorem step_still {o : Oper} (hn : inlFree E.rows o.op = true) (hk : stepK E ops.toList o σ K = some r) : StillS E ops σ o K r := by
  rw [stepK_eq] at hk
  cases hw : wantsV ops o σ with
  | none => rw [hw] at hk; cases hk
  | some b =>
    rw [hw] at hk
    cases b with
    | true =>
      obtain ⟨v, ob', h1, h2, h3⟩ := op_still hn hk
      refine ⟨v, ob', h1, h2, fun σ' ha hob R' K' => ?_⟩
      rw [stepK_eq, agree_wants ha, hw]
      exact h3 σ' (fun x hx => agree_opnd ha hx (.inr hob)) hob K'
    | false =>
      refine ⟨nonV, σ.ob, hk, fun _ => rfl, fun σ' ha hob R' K' => ?_⟩
      rw [stepK_eq, agree_wants ha, hw, ← hob]
theorem step_free {o : Oper} (hf : freeOp o.op = true) (hk : stepK E ops.toList o σ K = some r) : ∃ v, K (σ.put o.dst v) = some r ∧ ∀ (σ' : St), AgreeOn ops o σ σ' → ∀ {R' : Type} (K' : St → Option R'), stepK E ops.toList o σ' K' = K' (σ'.put o.dst v) := by
  rw [stepK_eq] at hk
  cases hw : wantsV ops o σ with
  | none => rw [hw] at hk; cases hk
  | some b =>
    rw [hw] at hk
    cases b with
    | true =>
      obtain ⟨v, h1, h3⟩ := free_told hf hk
      refine ⟨v, h1, fun σ' ha R' K' => ?_⟩
      rw [stepK_eq, agree_wants ha, hw]
      exact h3 σ' (fun x hx hp => agree_opnd ha hx (.inl hp)) K'
    | false =>
      refine ⟨nonV, hk, fun σ' ha R' K' => ?_⟩
      rw [stepK_eq, agree_wants ha, hw]
theorem step_mono {o : Oper} (hf : monoOp E.rows o.op = true) (hk : stepK E ops.toList o σ K = some r) : ∃ v, K (σ.put o.dst v) = some r ∧ ∀ (σ' : St), AgreeOn ops o σ σ' → Sub σ.ob σ'.ob → ∀ {R' : Type} (K' : St → Option R'), stepK E ops.toList o σ' K' = K' (σ'.put o.dst v) := by
  rw [stepK_eq] at hk
  cases hw : wantsV ops o σ with
  | none => rw [hw] at hk; cases hk
  | some b =>
    rw [hw] at hk
    cases b with
    | true =>
      obtain ⟨v, h1, h3⟩ := op_mono hf hk
      refine ⟨v, h1, fun σ' ha hs R' K' => ?_⟩
      rw [stepK_eq, agree_wants ha, hw]
      exact h3 σ' (fun x hx hp => agree_opnd ha hx (.inl hp)) hs K'
    | false =>
      refine ⟨nonV, hk, fun σ' ha hs R' K' => ?_⟩
      rw [stepK_eq, agree_wants ha, hw]
theorem step_alloc {o : Oper} (hf : isAlloc o.op = true) (hk : stepK E ops.toList o σ K = some r) : ∃ v ob', K (({ tm := σ.tm, ob := ob' } : St).put o.dst v) = some r ∧ Sub σ.ob ob' ∧
    ∀ (σ' : St), AgreeOn ops o σ σ' → σ'.ob = σ.ob → ∀ {R' : Type} (K' : St → Option R'), stepK E ops.toList o σ' K' = K' (({ tm := σ'.tm, ob := ob' } : St).put o.dst v) := by
  rw [stepK_eq] at hk
  cases hw : wantsV ops o σ with
  | none => rw [hw] at hk; cases hk
  | some b =>
    rw [hw] at hk
    cases b with
    | true =>
      obtain ⟨v, ob', h1, h2, h3⟩ := alloc_still hf hk
      refine ⟨v, ob', h1, h2, fun σ' ha hob R' K' => ?_⟩
      rw [stepK_eq, agree_wants ha, hw]
      exact h3 σ' (fun x hx => agree_opnd ha hx (.inr hob)) hob K'
    | false =>
      refine ⟨nonV, σ.ob, hk, fun _ _ h => h, fun σ' ha hob R' K' => ?_⟩
      rw [stepK_eq, agree_wants ha, hw, ← hob]
theorem put_get {d : Option Nat} {v : V} {t : Nat} (h : d ≠ some t) : (σ.put d v).tm[t]? = σ.tm[t]? := by
  cases d with
  | none => rfl
  | some d =>
    show (σ.tm.set d v)[t]? = σ.tm[t]?
    rw [List.getElem?_set, if_neg (fun e => h (by rw [e]))]
theorem put_ob {d : Option Nat} {v : V} : (σ.put d v).ob = σ.ob := by cases d <;> rfl
theorem put_swap {tm : List V} {ob ob' : List (Option Obj)} {d e : Option Nat} {v u : V} (h : ∀ k, d = some k → e ≠ some k) :
    ({ tm := (({ tm := tm, ob := ob } : St).put d v).tm, ob := ob' } : St).put e u = (({ tm := tm, ob := ob' } : St).put e u).put d v := by
  cases d with
  | none => cases e <;> rfl
  | some d => cases e with
    | none => rfl
    | some e =>
      have hne : d ≠ e := fun x => h d rfl (by rw [x])
      show St.mk ((tm.set d v).set e u) ob' = St.mk ((tm.set e u).set d v) ob'
      rw [List.set_comm _ _ hne]
def swapIn (rows : List (Nat × RSpec)) (ops : Array Oper) (x y : Oper) : Bool := x.apart ops y && (freeOp x.op || ((quiet rows x.op && quiet rows y.op) || (monoOp rows x.op && isAlloc y.op)))
def swapOK (rows : List (Nat × RSpec)) (ops : Array Oper) (x y : Oper) : Bool := inlFree rows x.op && (inlFree rows y.op && swapIn rows ops x y)
theorem step_swap {x y : Oper} (hs : swapOK E.rows ops x y = true) (hk : stepK E ops.toList x σ (fun σ1 => stepK E ops.toList y σ1 K) = some r) : stepK E ops.toList y σ (fun σ1 => stepK E ops.toList x σ1 K) = some r := by
  unfold swapOK at hs
  rw [Bool.and_eq_true, Bool.and_eq_true] at hs
  obtain ⟨nx, ny, hs⟩ := hs
  unfold swapIn at hs
  rw [Bool.and_eq_true] at hs
  obtain ⟨hap, hs⟩ := hs
  obtain ⟨p1, p2, p3⟩ := Oper.apart_spec hap
  have agY : ∀ (v : V) (ob' : List (Option Obj)), AgreeOn ops y (({ tm := σ.tm, ob := ob' } : St).put x.dst v) σ := fun v ob' t ht => (put_get (σ := { tm := σ.tm, ob := ob' }) (fun e => p1 t e ht)).symm
  have agX : ∀ (v : V) (ob' : List (Option Obj)), AgreeOn ops x σ (({ tm := σ.tm, ob := ob' } : St).put y.dst v) := fun v ob' t ht => put_get (σ := { tm := σ.tm, ob := ob' }) (fun e => p3 t e ht)
  rw [Bool.or_eq_true] at hs
  rcases hs with hs | hs
  · obtain ⟨vx, h1, hx⟩ := step_free hs hk
    obtain ⟨vy, ob', h2, _, hy⟩ := step_still ny h1
    rw [hy σ (agY vx σ.ob) put_ob.symm, hx _ (agX vy ob')]
    rw [← put_swap (ob := σ.ob) p2]
    exact h2
  rw [Bool.or_eq_true] at hs
  rcases hs with hs | hs
  rotate_left
  · rw [Bool.and_eq_true] at hs
    obtain ⟨vx, h1, hx⟩ := step_mono hs.1 hk
    obtain ⟨vy, ob', h2, hsub, hy⟩ := step_alloc hs.2 h1
    rw [hy σ (agY vx σ.ob) put_ob.symm, hx _ (agX vy ob') (by rw [put_ob]; rw [put_ob] at hsub; exact hsub)]
    rw [← put_swap (ob := σ.ob) p2]
    exact h2
  · rw [Bool.and_eq_true] at hs
    obtain ⟨vx, obx, h1, q1, hx⟩ := step_still nx hk
    have q1 := q1 hs.1
    subst q1
    obtain ⟨vy, oby, h2, q2, hy⟩ := step_still ny h1
    have q2 := q2 hs.2
    rw [put_ob] at q2
    subst q2
    rw [hy σ (agY vx σ.ob) put_ob.symm, hx _ (agX vy σ.ob) put_ob]
    have := put_swap (tm := σ.tm) (ob := σ.ob) (ob' := σ.ob) (v := vx) (u := vy) p2
    rw [this] at h2
    cases hyd : y.dst with
    | none => rw [hyd] at h2; exact h2
    | some d => rw [hyd] at h2; exact h2
theorem front {o : Oper} : ∀ {l1 l2 : List Oper} {σ : St}, (∀ x ∈ l1, swapOK E.rows ops x o = true) → opsK E ops.toList (l1 ++ o :: l2) σ K = some r → stepK E ops.toList o σ (fun σ' => opsK E ops.toList (l1 ++ l2) σ' K) = some r
  | [], l2, σ, _, hk => hk
  | x :: l1, l2, σ, hs, hk => by
    have hk' : stepK E ops.toList x σ (fun σ' => opsK E ops.toList (l1 ++ o :: l2) σ' K) = some r := hk
    show stepK E ops.toList o σ (fun σ' => stepK E ops.toList x σ' (fun σ' => opsK E ops.toList (l1 ++ l2) σ' K)) = some r
    apply step_swap (hs x (by simp))
    have hs0 := hs x (by simp)
    unfold swapOK at hs0
    rw [Bool.and_eq_true] at hs0
    obtain ⟨v, ob', h1, _, h2⟩ := step_still hs0.1 hk'
    rw [h2 σ (fun t _ => rfl) rfl]
    exact front (fun y hy => hs y (by simp [hy])) h1
end
end Go.Vx

end
section
set_option linter.unusedVariables false
set_option linter.unusedSimpArgs false
namespace Go.Vx
open Go Go.RowKit

def befOf (acc : List Nat) (o : Oper) : Nat := o.after.toList.foldl (fun s e => cond (Region.binds .any e) (s ||| (2 ^ e.on ||| acc.getD e.on 0)) s) 0
def aftersLess (n : Nat) (o : Oper) : Bool := o.after.toList.all fun e => !Region.binds .any e || Nat.blt e.on n
def rowOK (rows : List (Nat × RSpec)) (ops : Array Oper) (b : Nat) (o : Oper) : Nat → List Oper → Bool
  | _, [] => true
  | k, x :: r => (b.testBit k || swapOK rows ops x o) && rowOK rows ops b o (k + 1) r
def allOK (rows : List (Nat × RSpec)) (ops : Array Oper) : List Oper → List Nat → List Oper → Bool
  | _, _, [] => true
  | done, acc, o :: r => (aftersLess done.length o && rowOK rows ops (befOf acc o) o 0 done) && allOK rows ops (done ++ [o]) (acc ++ [befOf acc o]) r
def drawOK (rows : List (Nat × RSpec)) (ops : Array Oper) : Bool := allOK rows ops [] [] ops.toList

def Bound (o : Oper) (L : Nat → Prop) : Prop := ∀ e ∈ o.after.toList, Region.binds .any e = true → L e.on
def Closed (l : List Oper) (L : Nat → Prop) : Prop := ∀ j o, l[j]? = some o → L j → Bound o L
theorem fold_bit (acc : List Nat) (k : Nat) : ∀ (es : List Edge) (s : Nat), (es.foldl (fun s e => cond (Region.binds .any e) (s ||| (2 ^ e.on ||| acc.getD e.on 0)) s) s).testBit k = true →
    s.testBit k = true ∨ ∃ e ∈ es, Region.binds .any e = true ∧ (k = e.on ∨ (acc.getD e.on 0).testBit k = true)
  | [], s, h => .inl h
  | e :: es, s, h => by
    rw [List.foldl_cons] at h
    rcases fold_bit acc k es _ h with h | ⟨e', he, h1, h2⟩
    · cases hb : Region.binds .any e with
      | false => rw [hb] at h; exact .inl h
      | true =>
        rw [hb] at h
        simp only [cond_true, Nat.testBit_or, Bool.or_eq_true] at h
        rcases h with h | h | h
        · exact .inl h
        · rw [Nat.testBit_two_pow] at h
          exact .inr ⟨e, by simp, hb, .inl (of_decide_eq_true h).symm⟩
        · exact .inr ⟨e, by simp, hb, .inr h⟩
    · exact .inr ⟨e', by simp [he], h1, h2⟩
theorem aftersLess_spec {n : Nat} {o : Oper} (h : aftersLess n o = true) : Bound o (fun k => k < n) := by
  intro e he hb
  have := List.all_eq_true.1 h e he
  rw [hb] at this
  simp at this
  exact this
theorem rowOK_spec {rows : List (Nat × RSpec)} {ops : Array Oper} {b : Nat} {o : Oper} : ∀ {l : List Oper} {k : Nat}, rowOK rows ops b o k l = true → ∀ j x, l[j]? = some x → b.testBit (k + j) = true ∨ swapOK rows ops x o = true
  | [], k, _, j, x, hj => by simp at hj
  | y :: l, k, h, j, x, hj => by
    unfold rowOK at h
    rw [Bool.and_eq_true, Bool.or_eq_true] at h
    cases j with
    | zero =>
      simp at hj
      subst hj
      exact h.1
    | succ j =>
      have := rowOK_spec h.2 j x (by simpa using hj)
      rw [show k + (j + 1) = k + 1 + j by omega]
      exact this
def Bits (l : List Oper) (acc : List Nat) : Prop := ∀ (i b : Nat) (o : Oper), acc[i]? = some b → l[i]? = some o → ∀ L : Nat → Prop, Closed l L → Bound o L → ∀ k, b.testBit k = true → L k
theorem allOK_spec {rows : List (Nat × RSpec)} {ops : Array Oper} : ∀ {rest done : List Oper} {acc : List Nat}, allOK rows ops done acc rest = true → done.length = acc.length → Bits (done ++ rest) acc →
    ∀ i o, done.length ≤ i → (done ++ rest)[i]? = some o → Bound o (fun k => k < i) ∧ ∀ L : Nat → Prop, Closed (done ++ rest) L → Bound o L → ∀ k x, k < i → (done ++ rest)[k]? = some x → ¬ L k → swapOK rows ops x o = true
  | [], done, acc, _, _, _, i, o, hi, ho => by
    rw [List.append_nil] at ho
    have := (List.getElem?_eq_some_iff.1 ho).1
    omega
  | p :: rest, done, acc, h, hlen, hbits, i, o, hi, ho => by
    unfold allOK at h
    rw [Bool.and_eq_true, Bool.and_eq_true] at h
    obtain ⟨⟨h1, h2⟩, h3⟩ := h
    have hless := aftersLess_spec h1
    have hsplit : done ++ p :: rest = (done ++ [p]) ++ rest := by simp
    have hp : (done ++ p :: rest)[done.length]? = some p := by simp
    -- the row of p
    have hrow : ∀ L : Nat → Prop, Closed (done ++ p :: rest) L → Bound p L → ∀ k, (befOf acc p).testBit k = true → L k := by
      intro L hc hb k hk
      rcases fold_bit acc k _ 0 hk with h | ⟨e, he, hbi, hk2⟩
      · simp at h
      · have hon := hb e he hbi
        rcases hk2 with rfl | hk2
        · exact hon
        · have hlt : e.on < done.length := hless e he hbi
          have h4 : acc[e.on]? = some (acc.getD e.on 0) := by
            rw [List.getD_eq_getElem?_getD, List.getElem?_eq_getElem (by omega)]
            rfl
          have h5 : (done ++ p :: rest)[e.on]? = some ((done ++ p :: rest)[e.on]'(by simp; omega)) := List.getElem?_eq_getElem _
          exact hbits _ _ _ h4 h5 L hc (hc _ _ h5 hon) k hk2
    by_cases hpi : i = done.length
    · subst hpi
      rw [hp] at ho
      injection ho with ho
      subst ho
      refine ⟨hless, fun L hc hb k x hk hx hL => ?_⟩
      rw [List.getElem?_append_left hk] at hx
      rcases rowOK_spec h2 k x hx with h | h
      · rw [Nat.zero_add] at h
        exact absurd (hrow L hc hb k h) hL
      · exact h
    · have hbits' : Bits ((done ++ [p]) ++ rest) (acc ++ [befOf acc p]) := by
        rw [← hsplit]
        intro i' b' o' hb' ho' L hc hbd k hk
        by_cases hlt : i' < acc.length
        · rw [List.getElem?_append_left hlt] at hb'
          exact hbits i' b' o' hb' ho' L hc hbd k hk
        · rw [List.getElem?_append_right (by omega)] at hb'
          have h0 : i' - acc.length = 0 := by
            have := (List.getElem?_eq_some_iff.1 hb').1
            simp at this
            omega
          rw [h0] at hb'
          injection hb' with hb'
          subst hb'
          have : i' = done.length := by omega
          subst this
          rw [hp] at ho'
          injection ho' with ho'
          subst ho'
          exact hrow L hc hbd k hk
      have := allOK_spec h3 (by simp [hlen]) hbits' i o (by simp; omega) (by rw [← hsplit]; exact ho)
      rw [← hsplit] at this
      exact this
theorem drawOK_spec {rows : List (Nat × RSpec)} {ops : Array Oper} (h : drawOK rows ops = true) : ∀ (i : Nat) (o : Oper), ops[i]? = some o → Bound o (fun k => k < i) ∧ ∀ L : Nat → Prop, Closed ops.toList L → Bound o L → ∀ k x, k < i → ops[k]? = some x → ¬ L k → swapOK rows ops x o = true := by
  intro i o ho
  have := allOK_spec (done := []) (acc := []) h rfl (fun i b o hb => by simp at hb) i o (Nat.zero_le _) (by simpa using ho)
  simpa using this

section
variable {P : Program} {pn : Nat → Value} {E : Env} {w0 w w' : World} {F : Nat → Prop} {σ : St} {a : Act} {R : Type} {r : R} {K : St → Option R} {ops : Array Oper} {Q : Exit → Act → World → Prop}
theorem ready_spec {listed : Array Bool} {i : Nat} (h : i ∈ Region.ready .any ops listed) : listed.getD i true = false ∧ ∃ o, ops[i]? = some o ∧ Bound o (fun k => listed.getD k false = true) := by
  unfold Region.ready at h
  rw [List.mem_filter] at h
  obtain ⟨h1, h2⟩ := h
  rw [Bool.and_eq_true] at h2
  obtain ⟨h2, h3⟩ := h2
  refine ⟨by simpa using h2, ?_⟩
  cases ho : ops[i]? with
  | none => rw [ho] at h3; simp at h3
  | some o =>
    refine ⟨o, rfl, fun e he hb => ?_⟩
    rw [ho] at h3
    simp only [Option.map_some, Option.getD_some] at h3
    have := Array.all_eq_true_iff_forall_mem.1 h3 e (by simpa using he)
    rw [hb] at this
    simpa using this
theorem ready_of {listed : Array Bool} {i : Nat} {o : Oper} (hi : listed.getD i true = false) (ho : ops[i]? = some o) (hb : Bound o (fun k => listed.getD k false = true)) : i ∈ Region.ready .any ops listed := by
  unfold Region.ready
  rw [List.mem_filter, Bool.and_eq_true]
  refine ⟨by simpa using (Array.getElem?_eq_some_iff.1 ho).1, by rw [hi]; rfl, ?_⟩
  rw [ho]
  simp only [Option.map_some, Option.getD_some]
  rw [Array.all_eq_true_iff_forall_mem]
  intro e he
  cases hbi : Region.binds .any e with
  | false => rfl
  | true => simpa using hb e (by simpa using he) hbi
structure Left (ops : Array Oper) (listed : Array Bool) (l : List (Nat × Oper)) : Prop where
  size : listed.size = ops.size
  sorted : l.Pairwise (fun p q => p.1 < q.1)
  mem : ∀ i o, (i, o) ∈ l ↔ (ops[i]? = some o ∧ listed.getD i true = false)
  closed : Closed ops.toList (fun k => listed.getD k false = true)
theorem any_sound (hE : EnvOK P E) (hok : drawOK E.rows ops = true) (hQ : ∀ σ a w, K σ = some r → Inv P pn w0 F σ a w → Q .normal a w) : ∀ (fuel : Nat) {listed : Array Bool} {l : List (Nat × Oper)} {σ : St} {a : Act} {w : World}, l.length = fuel → Left ops listed l →
    Inv P pn w0 F σ a w → opsK E ops.toList (l.map Prod.snd) σ K = some r → wpAny P .any ops Q fuel listed a w
  | 0, listed, l, σ, a, w, hl, hL, hI, hk => by
    have : l = [] := List.eq_nil_of_length_eq_zero hl
    subst this
    refine ⟨?_, hQ σ a w hk hI⟩
    rw [List.eq_nil_iff_forall_not_mem]
    intro i hi
    obtain ⟨h1, o, h2, _⟩ := ready_spec hi
    exact absurd ((hL.mem i o).2 ⟨h2, h1⟩) (by simp)
  | fuel + 1, listed, l, σ, a, w, hl, hL, hI, hk => by
    refine ⟨fun hnil => ?_, fun i hi => ?_⟩
    · -- the first that is left is ready
      exfalso
      cases l with
      | nil => simp at hl
      | cons p l =>
        obtain ⟨i, o⟩ := p
        obtain ⟨h1, h2⟩ := (hL.mem i o).1 (by simp)
        have hb := (drawOK_spec hok i o h1).1
        have : i ∈ Region.ready .any ops listed := ready_of h2 h1 (fun e he hbi => by
          have hlt : e.on < i := hb e he hbi
          have hsz : i < ops.size := (Array.getElem?_eq_some_iff.1 h1).1
          have hlt2 : e.on < listed.size := by rw [hL.size]; omega
          cases hq : listed.getD e.on true with
          | false =>
            have hmem := (hL.mem e.on (ops[e.on]'(by omega))).2 ⟨Array.getElem?_eq_getElem _, hq⟩
            rcases List.mem_cons.1 hmem with hm | hm
            · injection hm with hm
              omega
            · have := List.rel_of_pairwise_cons hL.sorted hm
              simp at this
              omega
          | true =>
            simp [Array.getD_eq_getD_getElem?, Array.getElem?_eq_getElem hlt2] at hq ⊢
            exact hq)
        rw [hnil] at this
        simp at this
    · obtain ⟨h1, o, h2, h3⟩ := ready_spec hi
      have hmem := (hL.mem i o).2 ⟨h2, h1⟩
      obtain ⟨l1, l2, rfl⟩ := List.append_of_mem hmem
      have hsw : ∀ x ∈ l1.map Prod.snd, swapOK E.rows ops x o = true := by
        intro x hx
        obtain ⟨⟨k, x'⟩, hkx, rfl⟩ := List.mem_map.1 hx
        obtain ⟨g1, g2⟩ := (hL.mem k x').1 (by simp [hkx])
        have hlt : k < i := by
          have := List.pairwise_append.1 hL.sorted
          exact this.2.2 (k, x') hkx (i, o) (by simp)
        refine (drawOK_spec hok i o h2).2 _ hL.closed h3 k x' hlt g1 ?_
        have hsz : k < listed.size := by rw [hL.size]; exact (Array.getElem?_eq_some_iff.1 g1).1
        simp [Array.getD_eq_getD_getElem?, Array.getElem?_eq_getElem hsz] at g2 ⊢
        exact g2
      rw [List.map_append, List.map_cons] at hk
      have hk2 := front hsw hk
      have hstep := step_sound (Q := Q) hE hI hk2
      have hlt : i < ops.size := (Array.getElem?_eq_some_iff.1 h2).1
      have hget : ∀ k b, (listed.setIfInBounds i true).getD k b = if k = i then true else listed.getD k b := by
        intro k b
        simp only [Array.getD_eq_getD_getElem?, Array.getElem?_setIfInBounds]
        by_cases e : i = k
        · subst e
          simp [hL.size, hlt]
        · rw [if_neg e, if_neg (fun x => e x.symm)]
      have hL' : Left ops (listed.setIfInBounds i true) (l1 ++ l2) := by
        refine ⟨by rw [Array.size_setIfInBounds, hL.size], ?_, fun k x => ?_, ?_⟩
        · exact hL.sorted.sublist (List.Sublist.append_left (List.sublist_cons_self _ _) _)
        · rw [hget]
          have hone := hL.mem k x
          by_cases e : k = i
          · subst e
            simp only [if_true, Bool.true_eq_false, and_false, iff_false]
            intro hm
            have hp := List.pairwise_append.1 hL.sorted
            rcases List.mem_append.1 hm with hm | hm
            · have := hp.2.2 _ hm _ (List.mem_cons_self)
              simp at this
            · have := List.rel_of_pairwise_cons hp.2.1 hm
              simp at this
          · rw [if_neg e, ← hone]
            constructor
            · intro hm
              rcases List.mem_append.1 hm with hm | hm
              · exact List.mem_append_left _ hm
              · exact List.mem_append_right _ (List.mem_cons_of_mem _ hm)
            · intro hm
              rcases List.mem_append.1 hm with hm | hm
              · exact List.mem_append_left _ hm
              · rcases List.mem_cons.1 hm with hm | hm
                · injection hm with hm
                  exact absurd hm e
                · exact List.mem_append_right _ hm
        · intro j x hx hj e he hb
          rw [hget] at hj ⊢
          by_cases e2 : e.on = i
          · rw [if_pos e2]
          · rw [if_neg e2]
            by_cases e1 : j = i
            · subst e1
              rw [show x = o from by
                have : ops[j]? = some x := by simpa using hx
                rw [h2] at this
                injection this with this
                exact this.symm] at he
              exact h3 e he hb
            · rw [if_neg e1] at hj
              exact hL.closed j x hx hj e he hb
      have hlen : (l1 ++ l2).length = fuel := by
        simp at hl ⊢
        omega
      have hm : ∀ a w, Goes P pn w0 F (fun σ' => opsK E ops.toList (l1.map Prod.snd ++ l2.map Prod.snd) σ' K) r a w → wpAny P .any ops Q fuel (listed.setIfInBounds i true) a w := by
        rintro a w ⟨σ', g1, g2⟩
        exact any_sound hE hok hQ fuel hlen hL' g2 (by rw [List.map_append]; exact g1)
      unfold wpOp
      simp only [h2]
      split
      · rename_i hw
        rw [if_pos hw] at hstep
        exact hstep.imp (fun h => Oper.wp_mono hm h) id
      · rename_i hw
        rw [if_neg hw] at hstep
        exact hm _ _ hstep

theorem left_start : Left ops (Array.replicate ops.size false) (ops.toList.zipIdx.map fun p => (p.2, p.1)) := by
  refine ⟨by simp, ?_, fun i o => ?_, fun j o ho hj => ?_⟩
  · rw [List.pairwise_map]
    have : (ops.toList.zipIdx.map Prod.snd).Pairwise (· < ·) := by
      rw [List.zipIdx_map_snd]
      exact List.pairwise_lt_range'
    exact List.pairwise_map.1 this
  · constructor
    · intro h
      obtain ⟨⟨x, k⟩, hx, he⟩ := List.mem_map.1 h
      injection he with h1 h2
      subst h1; subst h2
      have := List.mem_zipIdx_iff_getElem?.1 hx
      have h1 : ops[k]? = some x := by simpa using this
      refine ⟨h1, ?_⟩
      have := (Array.getElem?_eq_some_iff.1 h1).1
      simp [Array.getD_eq_getD_getElem?, this]
    · rintro ⟨h1, h2⟩
      refine List.mem_map.2 ⟨(o, i), List.mem_zipIdx_iff_getElem?.2 (by simpa using h1), rfl⟩
  · exfalso
    have : j < ops.size := by
      have h1 : ops[j]? = some o := by simpa using ho
      exact (Array.getElem?_eq_some_iff.1 h1).1
    simp [Array.getD_eq_getD_getElem?, this] at hj
theorem draw_sound (hE : EnvOK P E) (hm : P.follows .mixedOrders = true) (hok : drawOK E.rows ops = true) (hQ : ∀ σ a w, K σ = some r → Inv P pn w0 F σ a w → Q .normal a w) {id : Nat} (hI : Inv P pn w0 F σ a { w with drawn := w.drawn + 1 })
    (hk : opsK E ops.toList ops.toList σ K = some r) : (Code.region id ops true).wp P Q a w := by
  refine wp_region_any hm (any_sound hE hok hQ ops.size (l := ops.toList.zipIdx.map fun p => (p.2, p.1)) (by simp) left_start hI ?_)
  rw [List.map_map, show (Prod.snd ∘ fun p : Oper × Nat => (p.2, p.1)) = Prod.fst from rfl, List.zipIdx_map_fst]
  exact hk
end
end Go.Vx

end
section
set_option linter.unusedVariables false
set_option linter.unusedSimpArgs false
namespace Go.Vx
open Go Go.RowKit
section
variable {P : Program} {pn : Nat → Value} {E : Env} {w0 w w' : World} {F G : Nat → Prop} {β : Nat → Value} {σ : St} {tmps : Array Value}

theorem grown_refl (w : World) (row : Option Nat) : w.grownBy w row := ⟨rfl, rfl, rfl, Nat.le_refl _, fun _ _ _ => rfl⟩
theorem Holds.tm (h : Holds P pn w0 F β G σ w tmps) (d : Nat) {v : V} (hv : RepW P w G β σ.ob v (tmps.getD d undef)) : Holds P pn w0 F β G { σ with tm := σ.tm.set d v } w tmps where
  gF := h.gF
  below := h.below
  size := by simp [h.size]
  tms := fun t x hx => by
    by_cases ht : d = t
    · subst ht
      have hlt : d < σ.tm.length := by
        have := (List.getElem?_eq_some_iff.1 hx).1
        simpa using this
      simp [List.getElem?_set, hlt] at hx
      subst hx
      exact hv
    · simp [List.getElem?_set, ht] at hx
      exact h.tms t x hx
  obs := h.obs
  apart := h.apart
  notG := h.notG
  pin := h.pin
theorem new_row (h : Holds P pn w0 F β G σ w tmps) {q : Nat} (hfree : σ.ob[q]? = some none) (e : TypeId) {t : Ty} (hsz : 0 < t.sz) :
    Holds P pn w0 F (upd β q (.slice none 0 0)) (Old G w) { σ with ob := σ.ob.set q (some (.row e t [] 0)) } w tmps ∧ RepA P w (Old G w) (upd β q (.slice none 0 0)) (σ.ob.set q (some (.row e t [] 0))) (.row q 0) (.slice none 0 0) :=
  ⟨h.obj q none (.slice none 0 0) (.row e t [] 0) hfree (grown_refl w none) (.inl rfl) (fun k hk => by cases hk) (Ext.new hfree) ⟨[], by rw [upd_same]; exact World.ownsRow_nil w _ e t.sz, rfl, hsz⟩,
   e, t, [], 0, set_self hfree, Nat.le_refl _, rfl, fun _ => (upd_same _ _ _).symm⟩
theorem prom_ok {a : Act} (q t : Nat) (e : TypeId) (ty : Ty) (h : Inv P pn w0 F σ a w) : Inv P pn w0 F (prom q t e ty σ) a w := by
  unfold prom
  split
  · rename_i ht
    cases hc : (isFree σ.ob q && leN 1 ty.sz) with
    | false => exact h
    | true =>
      rw [Bool.and_eq_true] at hc
      obtain ⟨hd, β, G, hH⟩ := h
      have hnil : a.tmps.getD t undef = .slice none 0 0 := hH.tms _ _ ht
      obtain ⟨h1, h2⟩ := new_row hH (isFree_some hc.1) e (Nat.le_of_ble_eq_true hc.2)
      exact ⟨hd, _, _, h1.tm t (v := .v (.one (.row q 0))) (by rw [hnil]; exact h2)⟩
  · exact h
theorem Holds.cells (h : Holds P pn w0 F β G σ w tmps) {o : Nat} {cells cells' : List A} (ho : σ.ob[o]? = some (some (.box cells))) (hc : ∀ cs, RepL (RepA P w G β σ.ob) cells cs → RepL (RepA P w G β σ.ob) cells' cs) :
    Holds P pn w0 F (upd β o (β o)) (Old G w) { σ with ob := σ.ob.set o (some (.box cells')) } w tmps := by
  refine h.obj o none (β o) (.box cells') ho (grown_refl w none) (.inl rfl) (fun k hk => .inl ⟨_, rfl, hk⟩) (Ext.box ho) ?_
  obtain ⟨g, cs, ty, h1, h2, h3, h4⟩ := h.obs o _ ho
  refine ⟨g, cs, ty, (upd_same _ _ _).trans h1, h2, h3, RepL_imp (fun _ _ hq => RepA_ext (Ext.box ho) (RepA_mono (fun k hk hlt => ⟨hk, hlt⟩) hq)) (hc cs h4)⟩
theorem promC_ok {a : Act} (q o j : Nat) (e : TypeId) (ty : Ty) (h : Inv P pn w0 F σ a w) : Inv P pn w0 F (promC q o j e ty σ) a w := by
  unfold promC
  split
  · rename_i cells hb
    split
    · rename_i hj
      cases hc : (isFree σ.ob q && (leN 1 ty.sz && !Nat.beq o q)) with
      | false => exact h
      | true =>
        simp only [Bool.and_eq_true] at hc
        obtain ⟨c1, c2, c3⟩ := hc
        have hne : o ≠ q := fun e => by subst e; simp at c3
        obtain ⟨hd, β, G, hH⟩ := h
        obtain ⟨h1, h2⟩ := new_row hH (isFree_some c1) e (Nat.le_of_ble_eq_true c2)
        have hob := isBox_some hb
        have hob' : (σ.ob.set q (some (.row e ty [] 0)))[o]? = some (some (.box cells)) := by rw [set_get hne]; exact hob
        have := h1.cells (cells' := cells.set j (.row q 0)) hob' (fun cs hcs => by
          obtain ⟨v, hv, hn⟩ := RepL_get hcs hj
          have hv' : v = .slice none 0 0 := hn
          subst hv'
          have h9 := RepL_set (j := j) hcs h2
          rw [set_same hv] at h9
          exact h9)
        have hcomm : (σ.ob.set o (some (.box (cells.set j (.row q 0))))).set q (some (.row e ty [] 0)) = (σ.ob.set q (some (.row e ty [] 0))).set o (some (.box (cells.set j (.row q 0)))) := List.set_comm _ _ hne
        simp only [cond_true]
        rw [hcomm]
        exact ⟨hd, _, _, this⟩
    · exact h
  · exact h

theorem row_read {G' : Nat → Prop} (hG : ∀ k, G k → G' k) {ob : List (Option Obj)} {o : Nat} {e : TypeId} {t : Ty} {xs : List (Den t)} {ver : Nat} (h : RepO P w0 w G β ob o (.row e t xs ver)) (hG' : ∀ k, blk (β o) = some k → G' k) : RepC w G' (.sl t) xs [β o] := by
  obtain ⟨cs, ho, hr, hs⟩ := h
  rcases ho.2 with ⟨h1, h2⟩ | ⟨g, cap, cur, h1, hg, hh, hc1, hc2, hsz, htk⟩
  · have : xs = [] := List.eq_nil_of_length_eq_zero h2
    subst this
    exact ⟨none, 0, by rw [h1]; rfl, Nat.le_refl _, fun j x hx => by simp at hx⟩
  · refine ⟨some ⟨g, 0, none⟩, cap, by rw [h1], hc1, fun j x hx => ?_⟩
    obtain ⟨c, a, b, he, ha, hc, hrc, _⟩ := RepRows_get hr hx
    refine ⟨⟨g, 0, none⟩, c, rfl, hG' _ (by rw [h1]; rfl), (Array.getElem?_eq_some_iff.1 hh).1, RepC_mono (fun k hk _ => hG k hk) hrc, fun i u hu => ?_⟩
    have hi : i < c.length := (List.getElem?_eq_some_iff.1 hu).1
    rw [add_at]
    have hlen := RepRows_len hr
    have h3 : (cur.toList.take (xs.length * t.sz))[j * t.sz + i]? = some u := by
      rw [htk, he, List.getElem?_append_right (by omega), List.getElem?_append_left (by omega)]
      rw [show j * t.sz + i - a.length = i from by omega]
      exact hu
    rw [List.getElem?_take] at h3
    split at h3
    · simp only [World.cell?, hh]
      simpa using h3
    · cases h3
theorem RepV0_map {P' : Program} {w1 : World} {G' : Nat → Prop} {β' : Nat → Value} {ob ob' : List (Option Obj)} {f : A → A} (hi : ∀ a u, RepA P w G β ob a u → RepA P' w1 G' β' ob' (f a) u) : ∀ {x : V0} {u : Value}, RepV0 P w G β ob x u → RepV0 P' w1 G' β' ob' (mapV0 f x) u
  | .one _, _, h => hi _ _ h
  | .agg _, _, h => by obtain ⟨cs, h1, h2⟩ := h; exact ⟨cs, h1, RepL_mapr (RepL_imp hi h2)⟩
theorem RepW_map {P' : Program} {w1 : World} {G' : Nat → Prop} {β' : Nat → Value} {ob ob' : List (Option Obj)} {f : A → A} (hi : ∀ a u, RepA P w G β ob a u → RepA P' w1 G' β' ob' (f a) u) : ∀ {x : V} {u : Value}, RepW P w G β ob x u → RepW P' w1 G' β' ob' (mapV f x) u
  | .v _, _, h => RepV0_map hi h
  | .tup _, _, h => by obtain ⟨cs, h1, h2⟩ := h; exact ⟨cs, h1, RepL_mapr (RepL_imp (fun _ _ h => RepV0_map hi h) h2)⟩
theorem RepL_mapv {R : V → Value → Prop} {f : V → V} {vs : List V} {us : List Value} (h : RepL (fun v u => R (f v) u) vs us) : RepL R (vs.map f) us := RepL_mapr h
theorem freeze_ok {a : Act} (o : Nat) (h : Inv P pn w0 F σ a w) : Inv P pn w0 F (freeze o σ) a w := by
  unfold freeze
  split
  · rename_i e t xs ver ho
    obtain ⟨hd, β, G, hH⟩ := h
    have hO := hH.obs o _ ho
    have hget : ∀ k, k ≠ o → ((σ.ob.set o none).map (mapO (frzA o ver t xs)))[k]? = (σ.ob[k]?).map (mapO (frzA o ver t xs)) := fun k hk => by rw [List.getElem?_map, set_get hk]
    have hgo : ((σ.ob.set o none).map (mapO (frzA o ver t xs)))[o]? = some none := by rw [List.getElem?_map, set_self ho]; rfl
    have hrep : ∀ a u, RepA P w G β σ.ob a u → RepA P w (fun k => G k ∨ blk (β o) = some k) β ((σ.ob.set o none).map (mapO (frzA o ver t xs))) (frzA o ver t xs a) u := by
      intro a u ha
      have hmono : ∀ {a : A} {u : Value}, RepA P w G β ((σ.ob.set o none).map (mapO (frzA o ver t xs))) a u → RepA P w (fun k => G k ∨ blk (β o) = some k) β ((σ.ob.set o none).map (mapO (frzA o ver t xs))) a u := fun h => RepA_mono (fun k hk _ => .inl hk) h
      cases a with
      | b x => exact hmono (a := .b x) ha
      | rdp cells => exact hmono (a := .rdp cells) ha
      | nil => exact ha
      | non => exact ha
      | undef => trivial
      | ptr o' off =>
        obtain ⟨⟨cells, hc⟩, g, h1, h2⟩ := ha
        have hne : o' ≠ o := fun e => by rw [e, ho] at hc; cases hc
        exact ⟨⟨_, by rw [hget o' hne, hc]; rfl⟩, g, h1, h2⟩
      | mp o' =>
        obtain ⟨⟨t2, es, hc⟩, h1, h2⟩ := ha
        have hne : o' ≠ o := fun e => by rw [e, ho] at hc; cases hc
        exact ⟨⟨t2, es, by rw [hget o' hne, hc]; rfl⟩, h1, h2⟩
      | rowp o' v i off =>
        show RepA P w _ β _ (cond (Nat.beq o' o) .undef (.rowp o' v i off)) u
        cases hb : Nat.beq o' o with
        | true => trivial
        | false =>
          have hne : o' ≠ o := fun e => by subst e; simp at hb
          obtain ⟨e2, t2, xs2, ver2, h1, h2, h3, h4⟩ := ha
          exact ⟨e2, t2, xs2, ver2, by rw [hget o' hne, h1]; rfl, h2, h3, h4⟩
      | row o' v =>
        show RepA P w _ β _ (cond (Nat.beq o' o) (cond (Nat.beq v ver) (.b (.d (.sl t) xs)) .undef) (.row o' v)) u
        cases hb : Nat.beq o' o with
        | false =>
          have hne : o' ≠ o := fun e => by subst e; simp at hb
          obtain ⟨e2, t2, xs2, ver2, h1, h2, h3, h4⟩ := ha
          exact ⟨e2, t2, xs2, ver2, by rw [hget o' hne, h1]; rfl, h2, h3, h4⟩
        | true =>
          have he : o' = o := Nat.eq_of_beq_eq_true hb
          subst he
          cases hv : Nat.beq v ver with
          | false => trivial
          | true =>
            have hv : v = ver := Nat.eq_of_beq_eq_true hv
            obtain ⟨e2, t2, xs2, ver2, h1, h2, h3, h4⟩ := ha
            rw [ho] at h1
            injection h1 with h1; injection h1 with h1
            injection h1 with q1 q2 q3 q4
            rw [h4 (by omega)]
            exact (row_read (G' := fun k => G k ∨ blk (β o') = some k) (fun k hk => Or.inl hk) hO (fun k hk => Or.inr hk) : RepC w _ (.sl t) xs [β o'])
    have hback : ∀ k x, ((σ.ob.set o none).map (mapO (frzA o ver t xs)))[k]? = some (some x) → k ≠ o ∧ ∃ y, σ.ob[k]? = some (some y) ∧ mapO (frzA o ver t xs) (some y) = some x := by
      intro k x hx
      have hne : k ≠ o := fun e => by rw [e, hgo] at hx; cases hx
      refine ⟨hne, ?_⟩
      rw [hget k hne] at hx
      cases hk : σ.ob[k]? with
      | none => rw [hk] at hx; cases hx
      | some y =>
        rw [hk] at hx
        injection hx with hx
        cases y with
        | none => cases hx
        | some y => exact ⟨y, rfl, hx⟩
    refine ⟨hd, β, (fun k => G k ∨ blk (β o) = some k), ?_, hH.below, by simp [hH.size], fun t' v hv => ?_, fun k x hx => ?_, fun k1 x1 k2 x2 b h1 h2 => ?_, fun k x b hx hb hg => ?_, fun k vs hv => ?_⟩
    · rintro k (hk | hk)
      · exact hH.gF k hk
      · exact .inr (RepO_blk hO hk).1
    · rw [List.getElem?_map] at hv
      cases hv0 : σ.tm[t']? with
      | none => rw [hv0] at hv; cases hv
      | some v0 =>
        rw [hv0] at hv
        injection hv with hv
        subst hv
        exact RepW_map hrep (hH.tms t' v0 hv0)
    · obtain ⟨hne, y, hy, hyx⟩ := hback k x hx
      have hOk := hH.obs k y hy
      cases y with
      | box cells =>
        injection hyx with hyx
        subst hyx
        obtain ⟨g, cs, ty, h1, h2, h3, h4⟩ := hOk
        exact ⟨g, cs, ty, h1, h2, h3, RepL_mapr (RepL_imp hrep h4)⟩
      | row e2 t2 xs2 ver2 =>
        injection hyx with hyx
        subst hyx
        obtain ⟨cs, h1, h2, h3⟩ := hOk
        exact ⟨cs, h1, RepRows_imp (fun _ _ hq => RepC_mono (fun k hk _ => .inl hk) hq) h2, h3⟩
      | hid vs =>
        injection hyx with hyx
        subst hyx
        obtain ⟨us, h1, h2⟩ := hOk
        exact ⟨us, h1, RepL_mapv (RepL_imp (fun _ _ hq => RepW_map hrep hq) h2)⟩
      | map t2 es2 =>
        injection hyx with hyx
        subst hyx
        exact hOk
    · obtain ⟨_, y1, g1, _⟩ := hback k1 x1 h1
      obtain ⟨_, y2, g2, _⟩ := hback k2 x2 h2
      exact hH.apart k1 y1 k2 y2 b g1 g2
    · obtain ⟨hne, y, hy, _⟩ := hback k x hx
      rcases hg with hg | hg
      · exact hH.notG k y b hy hb hg
      · exact hne (hH.apart k y o _ b hy ho hb hg)
    · obtain ⟨_, y, hy, hyx⟩ := hback k _ hv
      cases y with
      | hid vs0 => exact hH.pin k vs0 hy
      | box cells => injection hyx with hyx; cases hyx
      | row e2 t2 xs2 ver2 => injection hyx with hyx; cases hyx
      | map t2 es2 => injection hyx with hyx; cases hyx
  · exact h

theorem keepT_get (ob : List (Option Obj)) (k : Keep) : ∀ (l : List V) (i t : Nat) (v : V), (keepT ob k i l)[t]? = some v → ∃ v0, l[t]? = some v0 ∧ (v = mapV (keepA ob k) v0 ∨ v = undefV)
  | [], i, t, v, h => by simp [keepT] at h
  | x :: l, i, 0, v, h => by
    simp only [keepT, List.getElem?_cons_zero, Option.some.injEq] at h
    refine ⟨x, rfl, ?_⟩
    cases hm : memN k.tms i with
    | true => rw [hm] at h; exact .inl h.symm
    | false => rw [hm] at h; exact .inr h.symm
  | x :: l, i, t + 1, v, h => by
    simp only [keepT, List.getElem?_cons_succ] at h ⊢
    exact keepT_get ob k l (i + 1) t v h
theorem keepT_len (ob : List (Option Obj)) (k : Keep) : ∀ (l : List V) (i : Nat), (keepT ob k i l).length = l.length
  | [], i => rfl
  | x :: l, i => by simp [keepT, keepT_len ob k l]
def keepX (ob : List (Option Obj)) (os : Keep) : Obj → Obj
  | .box cells => .box (cells.map (keepA ob os))
  | .hid vs => .hid (vs.map (mapV (keepA ob os)))
  | .row e t xs _ => .row e t xs 0
  | .map t es => .map t es
theorem keepO_get (ob : List (Option Obj)) (k : Keep) : ∀ (l : List (Option Obj)) (i t : Nat), (keepO ob k i l)[t]? = (l[t]?).map fun o => cond (k.keeps (i + t)) (o.map (keepX ob k)) none
  | [], i, t => by simp [keepO]
  | x :: l, i, 0 => by
    simp only [keepO, List.getElem?_cons_zero, Option.map_some, Nat.add_zero]
    cases k.keeps i with
    | false => rfl
    | true =>
      cases x with
      | none => rfl
      | some x => cases x <;> rfl
  | x :: l, i, t + 1 => by
    simp only [keepO, List.getElem?_cons_succ]
    rw [keepO_get ob k l (i + 1) t, show i + 1 + t = i + (t + 1) by omega]
theorem drop_ok {a : Act} (k : Keep) (h : Inv P pn w0 F σ a w) : Inv P pn w0 F (dropTo k σ) a w := by
  obtain ⟨hd, β, G, hH⟩ := h
  have hg : ∀ t, (keepO σ.ob k 0 σ.ob)[t]? = (σ.ob[t]?).map fun o => cond (k.keeps t) (o.map (keepX σ.ob k)) none := fun t => by
    have := keepO_get σ.ob k σ.ob 0 t
    rw [Nat.zero_add] at this
    exact this
  have hin : ∀ t x, σ.ob[t]? = some (some x) → k.keeps t = true → (keepO σ.ob k 0 σ.ob)[t]? = some (some (keepX σ.ob k x)) := fun t x hx hm => by
    rw [hg, hx]
    simp [hm]
  have hback : ∀ t x, (keepO σ.ob k 0 σ.ob)[t]? = some (some x) → ∃ y, σ.ob[t]? = some (some y) ∧ x = keepX σ.ob k y := fun t x hx => by
    rw [hg] at hx
    cases ht : σ.ob[t]? with
    | none => rw [ht] at hx; cases hx
    | some o =>
      rw [ht] at hx
      injection hx with hx
      cases hm : k.keeps t with
      | false => rw [hm] at hx; cases hx
      | true =>
        rw [hm] at hx
        cases o with
        | none => cases hx
        | some y =>
          injection hx with hx
          exact ⟨y, by rw [ht], hx.symm⟩
  have hrep : ∀ a u, RepA P w G β σ.ob a u → RepA P w G β (keepO σ.ob k 0 σ.ob) (keepA σ.ob k a) u := by
    intro a u ha
    cases a with
    | b x => exact ha
    | rdp cells => exact ha
    | nil => exact ha
    | non => exact ha
    | undef => trivial
    | ptr o off =>
      show RepA P w G β _ (cond (k.keeps o) (.ptr o off) .undef) u
      cases hm : k.keeps o with
      | false => trivial
      | true =>
        obtain ⟨⟨cells, hc⟩, g, h1, h2⟩ := ha
        exact ⟨⟨_, hin o _ hc hm⟩, g, h1, h2⟩
    | mp o =>
      show RepA P w G β _ (cond (k.keeps o) (.mp o) .undef) u
      cases hm : k.keeps o with
      | false => trivial
      | true =>
        obtain ⟨⟨t2, es, hc⟩, h1, h2⟩ := ha
        exact ⟨⟨t2, es, hin o _ hc hm⟩, h1, h2⟩
    | rowp o v i off => trivial
    | row o v =>
      show RepA P w G β _ (cond (k.keeps o) (match σ.ob[o]? with
        | some (some (.row _ _ _ ver)) => cond (Nat.beq v ver) (.row o 0) .undef
        | _ => .undef) .undef) u
      cases hm : k.keeps o with
      | false => trivial
      | true =>
        obtain ⟨e2, t2, xs2, ver2, h1, h2, h3, h4⟩ := ha
        simp only [cond_true, h1]
        cases hv : Nat.beq v ver2 with
        | false => trivial
        | true =>
          have hv : v = ver2 := Nat.eq_of_beq_eq_true hv
          exact ⟨e2, t2, xs2, 0, hin o _ h1 hm, Nat.le_refl _, h3, fun _ => h4 hv⟩
  refine ⟨hd, β, G, hH.gF, hH.below, by rw [hH.size]; exact (keepT_len _ _ _ _).symm, fun t v hv => ?_, fun t x hx => ?_, fun k1 x1 k2 x2 b h1 h2 => ?_, fun t x b hx => ?_, fun t vs hv => ?_⟩
  · obtain ⟨v0, h0, h1 | h1⟩ := keepT_get σ.ob k σ.tm 0 t v hv
    · rw [h1]
      exact RepW_map hrep (hH.tms t v0 h0)
    · rw [h1]
      exact trivial
  · obtain ⟨y, hy, rfl⟩ := hback t x hx
    have hO := hH.obs t y hy
    cases y with
    | box cells =>
      obtain ⟨g, cs, ty, h1, h2, h3, h4⟩ := hO
      exact ⟨g, cs, ty, h1, h2, h3, RepL_mapr (RepL_imp hrep h4)⟩
    | hid vs =>
      obtain ⟨us, h1, h2⟩ := hO
      exact ⟨us, h1, RepL_mapv (RepL_imp (fun _ _ hq => RepW_map hrep hq) h2)⟩
    | row e2 t2 xs2 ver2 => exact hO
    | map t2 es2 => exact hO
  · obtain ⟨y1, g1, _⟩ := hback k1 x1 h1
    obtain ⟨y2, g2, _⟩ := hback k2 x2 h2
    exact hH.apart k1 y1 k2 y2 b g1 g2
  · obtain ⟨y, hy, _⟩ := hback t x hx
    exact hH.notG t y b hy
  · obtain ⟨y, hy, e⟩ := hback t _ hv
    cases y with
    | hid vs0 => exact hH.pin t vs0 hy
    | box cells => cases e
    | row e2 t2 xs2 ver2 => cases e
    | map t2 es2 => cases e
theorem promAll_ok {a : Act} : ∀ (l : List (Nat × Nat × TypeId × Ty)) {σ : St}, Inv P pn w0 F σ a w → Inv P pn w0 F (promAll l σ) a w
  | [], σ, h => h
  | (q, t, e, ty) :: l, σ, h => promAll_ok l (prom_ok q t e ty h)
theorem promCAll_ok {a : Act} : ∀ (l : List (Nat × Nat × Nat × TypeId × Ty)) {σ : St}, Inv P pn w0 F σ a w → Inv P pn w0 F (promCAll l σ) a w
  | [], σ, h => h
  | (q, o, j, e, ty) :: l, σ, h => promCAll_ok l (promC_ok q o j e ty h)
theorem frzAll_ok {a : Act} : ∀ (l : List Nat) {σ : St}, Inv P pn w0 F σ a w → Inv P pn w0 F (frzAll l σ) a w
  | [], σ, h => h
  | o :: l, σ, h => frzAll_ok l (freeze_ok o h)
theorem norm_ok {a : Act} (k : Keep) (h : Inv P pn w0 F σ a w) : Inv P pn w0 F (norm k σ) a w := drop_ok k (frzAll_ok _ (promCAll_ok _ (promAll_ok _ h)))
theorem pre_ok {a : Act} (an : An) (id : Nat) (h : Inv P pn w0 F σ a w) : Inv P pn w0 F (preK an id σ) a w := by
  unfold preK
  split
  · exact frzAll_ok _ h
  · exact h
end
end Go.Vx

end
section
set_option linter.unusedVariables false
set_option linter.unusedSimpArgs false
namespace Go.Vx
open Go Go.RowKit
section
variable {P : Program} {pn : Nat → Value} {E : Env} {w0 w w' : World} {F : Nat → Prop} {σ : St} {a : Act} {R : Type} {r : R}

def outE : Out → Exit
  | .normal => .normal
  | .exit id => .exit id
  | .ret => .ret
def codeOK (rows : List (Nat × RSpec)) : Code → Bool
  | .region _ ops draw => cond draw (drawOK rows ops) true
  | .seq x y => codeOK rows x && codeOK rows y
  | .cond _ x y => codeOK rows x && codeOK rows y
  | .block _ c => codeOK rows c
  | .loop c => codeOK rows c
  | _ => true
theorem set_true {t : Nat} {p : Bool} (h : σ.tm[t]? = some (.d .bool p)) : ({ σ with tm := σ.tm.set t (.d .bool p) } : St) = σ := by
  rw [set_same h]

theorem code_sound (hE : EnvOK P E) (hm : P.follows .mixedOrders = true) (an : An) (lp : Nat) : ∀ (c : Code) {σ : St} {a : Act} {w : World} {K : Out → St → Option R} {Q : Exit → Act → World → Prop}, codeOK E.rows c = true →
    (∀ o σ a w, K o σ = some r → Inv P pn w0 F σ a w → Q (outE o) a w) → Inv P pn w0 F σ a w → codeK E an lp c σ K = some r → c.wp P Q a w
  | .skip, σ, a, w, K, Q, hc, hQ, hI, hk => wp_skip (hQ .normal σ a w hk hI)
  | .region id ops draw, σ, a, w, K, Q, hc, hQ, hI, hk => by
    have hI' := pre_ok an id hI
    have hk' : opsK E ops.toList ops.toList (preK an id σ) (fun σ' => K .normal σ') = some r := hk
    cases draw with
    | false => exact wp_region_list (list_sound hE (fun σ a w h1 h2 => hQ .normal σ a w h1 h2) hI' hk')
    | true =>
      refine draw_sound hE hm hc (fun σ a w h1 h2 => hQ .normal σ a w h1 h2) ?_ hk'
      obtain ⟨hd, β, G, h⟩ := hI'
      refine ⟨hd, β, G, h.move (G' := G) ⟨Nat.le_refl _, fun _ _ _ => rfl⟩ (fun k hk _ => hk) h.gF ?_ (fun _ _ _ _ _ => rfl) h.notG⟩
      exact ⟨h.below.os, h.below.tape, h.below.output, h.below.size, h.below.block⟩
  | .seq x y, σ, a, w, K, Q, hc, hQ, hI, hk => by
    have hc' : (codeOK E.rows x && codeOK E.rows y) = true := hc
    rw [Bool.and_eq_true] at hc'
    have hk' : codeK E an lp x σ (fun o σ' => thenK o σ' (fun σ' => codeK E an lp y σ' K) K) = some r := hk
    refine wp_seq (code_sound hE hm an lp x hc'.1 (fun o σ a w h1 h2 => ?_) hI hk')
    cases o with
    | normal => exact code_sound hE hm an lp y hc'.2 hQ h2 h1
    | exit id => exact hQ (.exit id) σ a w h1 h2
    | ret => exact hQ .ret σ a w h1 h2
  | .cond x c1 c2, σ, a, w, K, Q, hc, hQ, hI, hk => by
    have hc' : (codeOK E.rows c1 && codeOK E.rows c2) = true := hc
    rw [Bool.and_eq_true] at hc'
    unfold codeK at hk
    split at hk
    · rename_i t
      split at hk
      · rename_i p ht
        have hk := caseB_some hk
        have he : a.eval (.tmp t) = .bool p := by
          obtain ⟨hd, β, G, h⟩ := hI
          exact rep_bool (h.tms t _ ht)
        refine wp_cond (t := p) he ?_
        cases p with
        | true =>
          have hk' : codeK E an lp c1 _ K = some r := hk
          rw [set_true ht] at hk'
          exact code_sound hE hm an lp c1 hc'.1 hQ hI hk'
        | false =>
          have hk' : codeK E an lp c2 _ K = some r := hk
          rw [set_true ht] at hk'
          exact code_sound hE hm an lp c2 hc'.2 hQ hI hk'
      · cases hk
    · rename_i p
      refine wp_cond (t := p) rfl ?_
      cases p with
      | true => exact code_sound hE hm an lp c1 hc'.1 hQ hI hk
      | false => exact code_sound hE hm an lp c2 hc'.2 hQ hI hk
    · cases hk
  | .block id c, σ, a, w, K, Q, hc, hQ, hI, hk => by
    have hk' : codeK E an lp c σ (fun o σ' => blockK id o σ' K) = some r := hk
    refine wp_block (code_sound hE hm an lp c hc (fun o σ a w h1 h2 => ?_) hI hk')
    cases o with
    | normal => exact hQ .normal σ a w h1 h2
    | ret => exact hQ .ret σ a w h1 h2
    | exit id' =>
      show if id' = id then Q .normal a w else Q (.exit id') a w
      have h1' : cond (Nat.beq id' id) (K .normal σ) (K (.exit id') σ) = some r := h1
      cases hb : Nat.beq id' id with
      | true =>
        rw [hb] at h1'
        rw [if_pos (Nat.eq_of_beq_eq_true hb)]
        exact hQ .normal σ a w h1' h2
      | false =>
        rw [hb] at h1'
        rw [if_neg (fun e => by subst e; simp at hb)]
        exact hQ (.exit id') σ a w h1' h2
  | .exit id, σ, a, w, K, Q, hc, hQ, hI, hk => wp_exit (hQ (.exit id) σ a w hk hI)
  | .ret, σ, a, w, K, Q, hc, hQ, hI, hk => wp_ret (hQ .ret σ a w hk hI)
  | .loop c, σ, a, w, K, Q, hc, hQ, hI, hk => by
    unfold codeK at hk
    split at hk
    · rename_i la hla
      refine wp_loop_rounds lp ?_
      have key : ∀ (n : Nat) {σ : St} {a : Act} {w : World}, Inv P pn w0 F σ a w → loopK la (fun σ K' => codeK E an lp c σ K') n σ K = some r → Code.rounds P c Q n a w := by
        intro n
        induction n with
        | zero => intro σ a w hI hk; cases hk
        | succ n ih =>
          intro σ a w hI hk
          rw [rounds_succ]
          rw [loopK_succ] at hk
          refine code_sound hE hm an lp c hc (fun o σ a w h1 h2 => ?_) hI hk
          cases o with
          | normal => exact ih (norm_ok la.kn h2) h1
          | exit id => exact hQ (.exit id) _ a w h1 (norm_ok la.kx h2)
          | ret => exact hQ .ret _ a w h1 (norm_ok la.kr h2)
      exact key lp (norm_ok la.kn hI) hk
    · cases hk
  | .scope _, σ, a, w, K, Q, hc, hQ, hI, hk => by cases hk
  | .label _, σ, a, w, K, Q, hc, hQ, hI, hk => by cases hk
  | .goto _, σ, a, w, K, Q, hc, hQ, hI, hk => by cases hk

theorem rep_argV {β : Nat → Value} {ob : List (Option Obj)} : ∀ {t : ATy} {x : ADen t} {v : Value}, RepAD P w F t x v → RepV0 P w F β ob (argV t x) v
  | .v t, x, v, h => rep_valV h
  | .clo dom cod, φ, v, h => h
  | .ptrD t, x, v, h => by
    obtain ⟨ad, cs, h1, h2, h3, h4, h5⟩ := h
    exact ⟨ad, cs, h1, h2, h3, h4, rep_unpack h5⟩
  | .ptrC dom cod, φ, v, h => by
    obtain ⟨ad, u, h1, h2, h3, h4, h5⟩ := h
    refine ⟨ad, [u], h1, h2, h3, fun j y hj => ?_, u, [], rfl, h5, rfl⟩
    cases j with
    | zero => injection hj with hj; subst hj; exact h4
    | succ j => simp at hj
theorem rep_argVs {β : Nat → Value} {ob : List (Option Obj)} : ∀ {ts : List ATy} {x : ADens ts} {vs : List Value}, RepADs P w F ts x vs → RepL (RepV0 P w F β ob) (argVs ts x) vs
  | [], x, vs, h => h
  | t :: ts, x, vs, h => by
    obtain ⟨v, vs', h1, h2, h3⟩ := h
    exact ⟨v, vs', h1, rep_argV h2, rep_argVs h3⟩
theorem start_holds {n m : Nat} {ts : List ATy} {x : ADens ts} {vs : List Value} (h : RepADs P w F ts x vs) :
    Inv P pn w F (startSt n m (argVs ts x)) { tmps := vs.toArray ++ Array.replicate (n - vs.toArray.size) undef, defers := [] } w := by
  have hL : RepL (RepV0 P w F (fun _ => undef) (List.replicate (n + m) none)) (argVs ts x) vs := rep_argVs h
  have hlen := RepL_len hL
  have hnone : ∀ k y, (List.replicate (n + m) (none : Option Obj))[k]? = some (some y) → False := fun k y hk => by
    rw [List.getElem?_replicate] at hk
    split at hk
    · injection hk with hk; cases hk
    · cases hk
  refine ⟨rfl, fun _ => undef, F, fun k hk => .inl hk, Below.refl _ _, ?_, fun t v hv => ?_, fun k y hk => (hnone k y hk).elim, fun k y k' y' b hk => (hnone k y hk).elim, fun k y b hk => (hnone k y hk).elim, fun k vs hk => (hnone k _ hk).elim⟩
  · simp [startSt, hlen]
  · have hv' : ((argVs ts x).map V.v ++ List.replicate (n - (argVs ts x).length) nonV)[t]? = some v := hv
    rw [List.getElem?_append] at hv'
    split at hv'
    · rename_i hlt
      rw [List.getElem?_map] at hv'
      cases ha : (argVs ts x)[t]? with
      | none => rw [ha] at hv'; cases hv'
      | some y =>
        rw [ha] at hv'
        injection hv' with hv'
        subst hv'
        obtain ⟨u, h1, h2⟩ := RepL_get hL ha
        have : (vs.toArray ++ Array.replicate (n - vs.toArray.size) undef).getD t undef = u := by
          have hlt2 : t < vs.length := (List.getElem?_eq_some_iff.1 h1).1
          simp only [Array.getD_eq_getD_getElem?]
          rw [Array.getElem?_append_left (by simpa using hlt2)]
          simp [h1]
        rw [this]
        exact h2
    · rename_i hge
      rw [List.getElem?_replicate] at hv'
      split at hv'
      · injection hv' with hv'
        subst hv'
        have : (vs.toArray ++ Array.replicate (n - vs.toArray.size) undef).getD t undef = undef := by
          rw [List.length_map] at hge
          simp only [Array.getD_eq_getD_getElem?]
          rw [Array.getElem?_append_right (by simp; omega), Array.getElem?_replicate]
          split <;> rfl
        rw [this]
        exact rfl
      · cases hv'
theorem load_addr {T : TypeId} {u val : Value} (h : (Instr.loadAt T u).run P w = .ok val w) : (do loadVar T (← asAddr u)).run P w = .ok val w := by
  unfold Instr.loadAt at h
  cases u with
  | pointer a => cases a with
    | none => simp [Instr.sureAddr, stuck, Sem.run_bind] at h
    | some a => simpa [asAddr, Instr.sureAddr] using h
  | _ => simp [Instr.sureAddr, stuck, Sem.run_bind] at h
def rdRes (tmps : Array Value) : ResultVar → Sem Value
  | .tmp t => pure (tmps.getD t undef)
  | .cell a t => do loadVar t (← asAddr (tmps.getD a undef))
theorem resK_sound (hE : EnvOK P E) {β : Nat → Value} {G : Nat → Prop} (h : Holds P pn w0 F β G σ w a.tmps) : ∀ {l : List ResultVar} {K : List V0 → Option R}, resK E σ l K = some r →
    ∃ vs us, K vs = some r ∧ (l.mapM (rdRes a.tmps)).run P w = .ok us w ∧ RepL (RepV0 P w G β σ.ob) vs us
  | [], K, hk => ⟨[], [], hk, by simp, rfl⟩
  | .tmp t :: l, K, hk => by
    unfold resK at hk
    split at hk
    · rename_i v hv
      obtain ⟨vs, us, h1, h2, h3⟩ := resK_sound hE h hk
      refine ⟨v :: vs, a.tmps.getD t undef :: us, h1, ?_, _, us, rfl, h.tms t _ hv, h3⟩
      rw [List.mapM_cons, show rdRes a.tmps (.tmp t) = pure (a.tmps.getD t undef) from rfl]
      simp only [Sem.run_bind, Sem.run_pure, Result.andThen_ok, h2]
    · cases hk
  | .cell t T :: l, K, hk => by
    unfold resK at hk
    obtain ⟨v, val, h1, h2, h3⟩ := loadK_sound hE h hk (rep_opnd hE h (.tmp t))
    obtain ⟨vs, us, h4, h5, h6⟩ := resK_sound hE h h1
    have h7 : (rdRes a.tmps (.cell t T)).run P w = .ok val w := load_addr h2
    refine ⟨v :: vs, val :: us, h4, ?_, _, us, rfl, h3, h6⟩
    rw [List.mapM_cons]
    simp only [Sem.run_bind, h7, Result.andThen_ok, h5, Sem.run_pure]
theorem results_run {fn : Func} {tmps : Array Value} {us : List Value} (h : (fn.results.toList.mapM (rdRes tmps)).run P w = .ok us w) :
    (results fn tmps).run P w = .ok (resVal us) w := by
  have hr : results fn tmps = (do let vs ← fn.results.mapM (rdRes tmps); pure (if h : vs.size = 1 then vs[0] else .tuple vs)) := rfl
  rw [hr, Array.mapM_eq_mapM_toList]
  simp only [Sem.run_bind, Sem.run_map, h, Result.andThen_ok, Sem.run_pure]
  congr 1
  cases us with
  | nil => rfl
  | cons u us => cases us with
    | nil => rfl
    | cons _ _ => simp [resVal]
theorem fin_sound (hE : EnvOK P E) {fn : Func} {rts : List Ty} {o : Out} {y : Dens rts} (hk : finK E fn rts o σ = some y) (hI : Inv P pn w0 F σ a w) :
    bodyPost P fn (fun e w' => ∃ us, e = .returned (resVal us) ∧ RepDs w' (fun k => F k ∨ w0.heap.size ≤ k) rts y us ∧ Below w0.heap.size w0 w') (outE o) a w := by
  obtain ⟨hd, β, G, h⟩ := hI
  have key : (resK E σ fn.results.toList fun vs => packRes σ.ob rts vs) = some y → a.defers = [] ∧ ∃ v, (results fn a.tmps).run P w = .ok v w ∧ ∃ us, Ending.returned v = .returned (resVal us) ∧ RepDs w (fun k => F k ∨ w0.heap.size ≤ k) rts y us ∧ Below w0.heap.size w0 w := by
    intro hk
    obtain ⟨vs, us, h1, h2, h3⟩ := resK_sound hE h hk
    exact ⟨hd, _, results_run h2, us, rfl, rep_packRes h.gF ⟨fun k hk => .inr hk, obs_ok h⟩ h1 h3, h.below⟩
  cases o with
  | exit id => cases hk
  | normal => exact key hk
  | ret => exact key hk

theorem sound_of {S : Spec} (hE : EnvOK P E) (hm : P.follows .mixedOrders = true) {f : FuncId} {fn : Func} (hf : P.funcs[f]? = some fn) (hname : (fn.name == "runtime.NumGoroutine") = false) {c : Code} (hb : fn.body = some c) (hok : codeOK E.rows c = true)
    (an : An) (h : ∀ x r, S.F x = some r → ∃ lp, evalF E an lp fn S.ats S.rts x = some r) : Sound P f S := by
  refine ⟨⟨fn, hf, hname, by rw [hb]; rfl⟩, fun w F x vs y hx hy => ?_⟩
  obtain ⟨lp, hl⟩ := h x y hy
  unfold evalF at hl
  rw [hb] at hl
  exact calls_of_wp hf hb (code_sound (pn := fun _ => undef) hE hm an lp c hok (fun o σ a w h1 h2 => fin_sound hE h1 h2) (start_holds hx) hl)

end
end Go.Vx

end
section
set_option linter.unusedVariables false
set_option linter.unusedSimpArgs false
namespace Go.Vx
open Go Go.RowKit
section
variable {P : Program} {pn : Nat → Value}

def leafOf (P : Program) (t : TypeId) : Ty → Bool
  | .int k => match P.underlying t with | some (.int k') => decide (k = k') | _ => false
  | .bool => match P.underlying t with | some .bool => true | _ => false
  | .str => match P.underlying t with | some .string => true | _ => false
  | _ => false
def flatEq (P : Program) : Ty → List Field → Nat → Bool
  | .unit, [], _ => true
  | .pair a b, f :: fs, off => ((!decide (f.name = "_")) && (decide (f.offset = off) && leafOf P f.type a)) && flatEq P b fs (off + 1)
  | _, _, _ => false
def eqOK (P : Program) (t : TypeId) (ty : Ty) : Bool := match P.underlying t with
  | some (.struct fs) => (!P.stoodInHeld t && !P.eqGuardType P.depth t) && flatEq P ty fs.toList 0
  | _ => false
theorem leaf_int {t : TypeId} {k : IntKind} (h : leafOf P t (.int k) = true) : P.underlying t = some (.int k) := by
  unfold leafOf at h
  cases hu : P.underlying t with
  | none => rw [hu] at h; cases h
  | some d => rw [hu] at h; cases d <;> first | (cases h; done) | (rw [of_decide_eq_true h])
theorem leaf_bool {t : TypeId} (h : leafOf P t .bool = true) : P.underlying t = some .bool := by
  unfold leafOf at h
  cases hu : P.underlying t with
  | none => rw [hu] at h; cases h
  | some d => rw [hu] at h; cases d <;> first | rfl | (cases h; done)
theorem leaf_str {t : TypeId} (h : leafOf P t .str = true) : P.underlying t = some .string := by
  unfold leafOf at h
  cases hu : P.underlying t with
  | none => rw [hu] at h; cases h
  | some d => rw [hu] at h; cases d <;> first | rfl | (cases h; done)
theorem leaf_run {w : World} {t : TypeId} {ty : Ty} (hl : leafOf P t ty = true) {cs : List Value} {off : Nat} {u : Value} (hcu : cs[off]? = some u) : (part t cs.toArray off).run P w = .ok u w := by
  have hag : (isAgg t).run P w = .ok false w := by
    cases ty with
    | int k => exact run_agg (leaf_int hl) w
    | bool => exact run_agg (leaf_bool hl) w
    | str => exact run_agg (leaf_str hl) w
    | _ => cases hl
  simp [part, hag, hcu]
theorem packs_cons {a b : Ty} {axs : List A} {t : TypeId} (hl : leafOf P t a = true) (h : packs (.pair a b) axs = true) : ∃ (x : Den a) (as' : List A), axs = .b (.d a x) :: as' ∧ packs b as' = true := by
  unfold packs at h
  split at h
  · rename_i y hp
    unfold packA at hp
    split at hp
    · rename_i x r h1
      split at hp
      · rename_i y' r' h2
        injection hp with hp
        injection hp with _ hp
        subst hp
        have key : ∀ {z : A} {rest : List A}, axs = z :: rest → leafA false [] a z = some x → r = rest → ∃ (x : Den a) (as' : List A), axs = .b (.d a x) :: as' ∧ packs b as' = true := by
          intro z rest has hz hr
          subst hr
          have hb : packs b r = true := by unfold packs; rw [h2]
          unfold leafA at hz
          split at hz
          · obtain ⟨e, rfl⟩ := castD_some hz
            subst e
            exact ⟨_, r, has, hb⟩
          · cases a <;> first | (cases hl; done) | (cases hz; done)
          · cases hz
          · cases hz
        cases a with
        | int k => cases axs with
          | nil => cases h1
          | cons z rest =>
            simp only [packA] at h1
            split at h1
            · rename_i q hq
              injection h1 with h1; injection h1 with e1 e2
              exact key rfl (by rw [hq, e1]) e2.symm
            · cases h1
        | bool => cases axs with
          | nil => cases h1
          | cons z rest =>
            simp only [packA] at h1
            split at h1
            · rename_i q hq
              injection h1 with h1; injection h1 with e1 e2
              exact key rfl (by rw [hq, e1]) e2.symm
            · cases h1
        | str => cases axs with
          | nil => cases h1
          | cons z rest =>
            simp only [packA] at h1
            split at h1
            · rename_i q hq
              injection h1 with h1; injection h1 with e1 e2
              exact key rfl (by rw [hq, e1]) e2.symm
            · cases h1
        | _ => cases hl
      · cases hp
    · cases hp
  · cases h
theorem packs_unit {axs : List A} (h : packs .unit axs = true) : axs = [] := by
  unfold packs packA at h
  cases axs with
  | nil => rfl
  | cons _ _ => cases h
theorem eqCells_cons {a b : A} {axs bs : List A} {e : Bool} (h : eqCells (a :: axs) (b :: bs) = some e) : ∃ e1 e', eqA a b = some e1 ∧ eqCells axs bs = some e' ∧ e = (e1 && e') := by
  cases axs with
  | nil => cases bs with
    | nil => exact ⟨e, true, h, rfl, by simp⟩
    | cons b' bs =>
      have h' : (match eqA a b, eqCells [] (b' :: bs) with
        | some e, some e' => some (e && e')
        | _, _ => none) = some e := h
      have h2 : eqCells [] (b' :: bs) = none := rfl
      rw [h2] at h'
      split at h'
      · rename_i h3; cases h3
      · cases h'
  | cons a' axs =>
    have h' : (match eqA a b, eqCells (a' :: axs) bs with
        | some e, some e' => some (e && e')
        | _, _ => none) = some e := by cases bs <;> exact h
    split at h'
    · rename_i e1 e2 h1 h2
      injection h' with h'
      exact ⟨e1, e2, h1, h2, h'.symm⟩
    · cases h'
theorem eqA_run {w : World} {d : Nat} {t : TypeId} {a : Ty} (hl : leafOf P t a = true) {F : Nat → Prop} {x y : Den a} {u v : Value} (hu : RepC w F a x [u]) (hv : RepC w F a y [v]) {e : Bool} (he : eqA (.b (.d a x)) (.b (.d a y)) = some e) :
    (Op.equalIn (d + 1) t u v).run P w = .ok e w := by
  cases a with
  | int k =>
    have h1 : [u] = [Value.int k x] := hu
    have h2 : [v] = [Value.int k y] := hv
    injection h1 with h1; injection h2 with h2
    obtain ⟨_, he⟩ := cond_some (show cond (decide (k = k)) (some (x == y)) none = some e from he)
    injection he with he
    rw [h1, h2, run_equalIn_int w d t k k x y (leaf_int hl), he]
  | bool =>
    have h1 : [u] = [Value.bool x] := hu
    have h2 : [v] = [Value.bool y] := hv
    injection h1 with h1; injection h2 with h2
    have he' : some (x == y) = some e := he
    injection he' with he'
    rw [h1, h2, run_equalIn_bool' w d t x y (leaf_bool hl), he']
  | str =>
    have h1 : [u] = [Value.string x] := hu
    have h2 : [v] = [Value.string y] := hv
    injection h1 with h1; injection h2 with h2
    have he' : some (x == y) = some e := he
    injection he' with he'
    rw [h1, h2, run_equalIn_string w d t x y (leaf_str hl), ← beq_toListBytes, he']
  | _ => cases hl
theorem fields_run {w : World} {d : Nat} {F : Nat → Prop} {β : Nat → Value} {ob : List (Option Obj)} : ∀ {ty : Ty} {fs : List Field} {off : Nat} {axs bs : List A} {cs ds pre pre' : List Value} {e : Bool}, flatEq P ty fs off = true → packs ty axs = true → packs ty bs = true → eqCells axs bs = some e →
    RepL (RepA P w F β ob) axs cs → RepL (RepA P w F β ob) bs ds → pre.length = off → pre'.length = off → (Op.eqFields (d + 1) (pre ++ cs).toArray (pre' ++ ds).toArray fs).run P w = .ok e w
  | .unit, [], off, axs, bs, cs, ds, pre, pre', e, hf, ha, hb, he, hc, hd, h1, h2 => by
    rw [packs_unit ha, packs_unit hb] at he
    have he' : some true = some e := he
    injection he' with he'
    rw [← he']
    simp [Op.eqFields]
  | .pair a b, f :: fs, off, axs, bs, cs, ds, pre, pre', e, hf, ha, hb, he, hc, hd, h1, h2 => by
    unfold flatEq at hf
    simp only [Bool.and_eq_true, decide_eq_true_eq, Bool.not_eq_true', decide_eq_false_iff_not] at hf
    obtain ⟨⟨hn, ho, hl⟩, hf⟩ := hf
    obtain ⟨x, as', rfl, ha'⟩ := packs_cons hl ha
    obtain ⟨y, bs', rfl, hb'⟩ := packs_cons hl hb
    obtain ⟨u, cs', rfl, hu, hc'⟩ := hc
    obtain ⟨v, ds', rfl, hv, hd'⟩ := hd
    obtain ⟨e1, e2, he1, he2, rfl⟩ := eqCells_cons he
    have p1 := leaf_run (w := w) hl (cs := pre ++ u :: cs') (off := off) (u := u) (by rw [List.getElem?_append_right (by omega), h1]; simp)
    have p2 := leaf_run (w := w) hl (cs := pre' ++ v :: ds') (off := off) (u := v) (by rw [List.getElem?_append_right (by omega), h2]; simp)
    have p3 := eqA_run (w := w) (d := d) hl hu hv he1
    have ih := fields_run (d := d) (pre := pre ++ [u]) (pre' := pre' ++ [v]) hf ha' hb' he2 hc' hd' (by simp [h1]) (by simp [h2])
    rw [List.append_assoc, List.append_assoc] at ih
    unfold Op.eqFields
    rw [if_pos hn]
    subst ho
    simp only [Sem.run_bind, p1, p2, p3, Result.andThen_ok]
    cases e1 with
    | false => simp
    | true => simpa using ih
  | .unit, _ :: _, _, _, _, _, _, _, _, _, hf, _, _, _, _, _, _, _ => by cases hf
  | .pair _ _, [], _, _, _, _, _, _, _, _, hf, _, _, _, _, _, _, _ => by cases hf
  | .int _, _, _, _, _, _, _, _, _, _, hf, _, _, _, _, _, _, _ => by unfold flatEq at hf; cases hf
  | .bool, _, _, _, _, _, _, _, _, _, hf, _, _, _, _, _, _, _ => by unfold flatEq at hf; cases hf
  | .str, _, _, _, _, _, _, _, _, _, hf, _, _, _, _, _, _, _ => by unfold flatEq at hf; cases hf
  | .sl _, _, _, _, _, _, _, _, _, _, hf, _, _, _, _, _, _, _ => by unfold flatEq at hf; cases hf
theorem eqFits_of {t : TypeId} {ty : Ty} (h : eqOK P t ty = true) : EqFits P t ty := by
  intro w F axs bs e cs ds β ob ha hb he hc hd
  unfold eqOK at h
  cases hu : P.underlying t with
  | none => rw [hu] at h; cases h
  | some dsc =>
    rw [hu] at h
    cases dsc <;> first | (cases h; done) | skip
    rename_i fs
    simp only [Bool.and_eq_true, Bool.not_eq_true'] at h
    obtain ⟨⟨h1, h2⟩, h3⟩ := h
    have hfs : P.fieldsOf t = fs := by simp [Program.fieldsOf, hu]
    simp only [Sem.run_bind, run_eqGuard_agg w .eql t (.tmp 0) (.tmp 0) cs.toArray ds.toArray h2, Result.andThen_ok, Op.equal, Op.maxDepth]
    rw [run_equalIn_struct w 9999 t _ _ (by rw [hfs]; exact hu) h1, hfs]
    exact fields_run (d := 9998) (pre := []) (pre' := []) h3 ha hb he hc hd rfl rfl

def eqsOK (P : Program) : List (Nat × TI) → Bool
  | [] => true
  | p :: r => cond p.2.eqs (match p.2.ty with | some ty => eqOK P p.1 ty | none => true) true && eqsOK P r
theorem eqs_of : ∀ {l : List (Nat × TI)}, eqsOK P l = true → ∀ t i, find l t = some i → i.eqs = true → ∀ ty, i.ty = some ty → EqFits P t ty
  | [], _, t, i, h, _, _, _ => by cases h
  | p :: r, hl, t, i, h, he, ty, ht => by
    unfold eqsOK at hl
    rw [Bool.and_eq_true] at hl
    unfold find at h
    cases hb : Nat.beq p.1 t with
    | true =>
      rw [hb] at h
      have h1 : p.1 = t := Nat.eq_of_beq_eq_true hb
      have h' : some p.2 = some i := h
      injection h' with h'
      have h2 := hl.1
      rw [h', he, ht, h1] at h2
      exact eqFits_of h2
    | false =>
      rw [hb] at h
      exact eqs_of hl.2 t i h he ty ht
def FnsOK (P : Program) : List (Nat × Spec) → Prop
  | [] => True
  | p :: r => Sound P p.1 p.2 ∧ FnsOK P r
theorem fns_of : ∀ {l : List (Nat × Spec)}, FnsOK P l → ∀ f S, find l f = some S → Sound P f S
  | [], _, f, S, h => by cases h
  | p :: r, hl, f, S, h => by
    unfold find at h
    cases hb : Nat.beq p.1 f with
    | true =>
      rw [hb] at h
      have h1 : p.1 = f := Nat.eq_of_beq_eq_true hb
      have h' : some p.2 = some S := h
      injection h' with h'
      rw [← h1, ← h']
      exact hl.1
    | false =>
      rw [hb] at h
      exact fns_of hl.2 f S h
def RowsOK (P : Program) : List (Nat × RSpec) → Prop
  | [] => True
  | p :: r => SoundR P p.1 p.2 ∧ RowsOK P r
theorem rowsOK_of : ∀ {l : List (Nat × RSpec)}, RowsOK P l → ∀ f S, find l f = some S → SoundR P f S
  | [], _, f, S, h => by cases h
  | p :: r, hl, f, S, h => by
    unfold find at h
    cases hb : Nat.beq p.1 f with
    | true =>
      rw [hb] at h
      have h1 : p.1 = f := Nat.eq_of_beq_eq_true hb
      have h' : some p.2 = some S := h
      injection h' with h'
      rw [← h1, ← h']
      exact hl.1
    | false =>
      rw [hb] at h
      exact rowsOK_of hl.2 f S h
theorem env_ok {tab : List (Nat × TI)} {fns : List (Nat × Spec)} {ann : Ann} {rows : List (Nat × RSpec)} (h1 : TabFits P tab = true) (h2 : eqsOK P tab = true) (h3 : FnsOK P fns) (h4 : RowsOK P rows) : EnvOK P { tab := tab, fns := fns, ann := ann, rows := rows } := ⟨h1, fns_of h3, rowsOK_of h4, fun f I h => (by cases h), eqs_of h2⟩
end
end Go.Vx

end
section
set_option linter.unusedVariables false
set_option linter.unusedSimpArgs false
namespace Go.Vx
open Go Go.RowKit Go.WideShapes Go.ChangeShapes

def Wf : (t : Ty) → Den t → Prop
  | .int k, n => k.min ≤ n ∧ (n : Int) ≤ k.max
  | .bool, _ => True
  | .str, s => (s : ByteArray).size ≤ maxLen
  | .unit, _ => True
  | .pair a b, x => Wf a x.1 ∧ Wf b x.2
  | .sl t, xs => xs.length ≤ maxLen ∧ ∀ x ∈ xs, Wf t x

inductive Shape where
  | one (t : TypeId)
  | fields (fs : List Field) (off : Nat)
def fits (P : Program) : Ty → Shape → Bool
  | .int k, .one t => match P.underlying t with | some (.int k') => decide (k = k') | _ => false
  | .bool, .one t => match P.underlying t with | some .bool => true | _ => false
  | .str, .one t => match P.underlying t with | some .string => true | _ => false
  | .sl a, .one t => match P.underlying t with | some (.slice e) => (decide (P.cellsOf e = a.sz) && decide (0 < a.sz)) && fits P a (.one e) | _ => false
  | .pair a b, .one t => match P.underlying t with
    | some (.struct fs) => (match fs.toList with
      | f :: r => ((decide (f.offset = 0) && decide (P.cellsOf f.type = a.sz)) && fits P a (.one f.type)) && fits P b (.fields r a.sz)
      | [] => false) && decide (P.cellsOf t = a.sz + b.sz)
    | _ => false
  | .unit, .fields [] _ => true
  | .pair a b, .fields (f :: r) off => ((decide (f.offset = off) && decide (P.cellsOf f.type = a.sz)) && fits P a (.one f.type)) && fits P b (.fields r (off + a.sz))
  | _, _ => false
section
variable {P : Program} {pn : Nat → Value} {w : World} {H : Type} {enc : TypeId × Value → H}

theorem mapM_get {α γ : Type} {f : α → Option γ} : ∀ {l : List α} {xs : List γ}, l.mapM f = some xs → xs.length = l.length ∧ ∀ (j : Nat) (y : α), l[j]? = some y → ∃ x, xs[j]? = some x ∧ f y = some x
  | [], xs, h => by
    simp at h
    subst h
    exact ⟨rfl, fun j y hj => by simp at hj⟩
  | a :: l, xs, h => by
    simp only [List.mapM_cons, Option.bind_eq_bind, Option.pure_def] at h
    cases hf : f a with
    | none => rw [hf] at h; simp at h
    | some x =>
      rw [hf] at h
      cases hl : l.mapM f with
      | none => rw [hl] at h; simp at h
      | some ys =>
        rw [hl] at h
        simp at h
        subst h
        obtain ⟨h1, h2⟩ := mapM_get hl
        refine ⟨by simp [h1], fun j y hj => ?_⟩
        cases j with
        | zero => simp at hj; subst hj; exact ⟨x, rfl, hf⟩
        | succ j => simpa using h2 j y (by simpa using hj)
theorem cells_get {base : Nat} {a : Addr} {n : Nat} {cs : List Value} (h : w.cells? base a n = some cs) : cs.length = n ∧ ∀ (i : Nat) (u : Value), cs[i]? = some u → w.cell? (a.add i) = some u := by
  unfold World.cells? at h
  split at h
  · obtain ⟨h1, h2⟩ := mapM_get h
    refine ⟨by simpa using h1, fun i u hu => ?_⟩
    have hi : i < n := by
      have := (List.getElem?_eq_some_iff.1 hu).1
      rw [h1] at this
      simpa using this
    obtain ⟨x, q1, q2⟩ := h2 i i (by simp [hi])
    rw [hu] at q1
    injection q1 with q1
    rw [q2, q1]
  · cases h
theorem list_dens {t : Ty} {Q : Nat → Den t → Prop} : ∀ (n : Nat), (∀ j, j < n → ∃ x : Den t, Q j x) → ∃ xs : List (Den t), xs.length = n ∧ ∀ (j : Nat) (x : Den t), xs[j]? = some x → Q j x
  | 0, _ => ⟨[], rfl, fun j x h => by simp at h⟩
  | n + 1, h => by
    obtain ⟨xs, h1, h2⟩ := list_dens n (fun j hj => h j (by omega))
    obtain ⟨x, hx⟩ := h n (by omega)
    refine ⟨xs ++ [x], by simp [h1], fun j y hj => ?_⟩
    rw [List.getElem?_append] at hj
    split at hj
    · exact h2 j y hj
    · rename_i hge
      have : j - xs.length = 0 := by
        have := (List.getElem?_eq_some_iff.1 hj).1
        simp at this
        omega
      rw [this] at hj
      simp at hj
      subst hj
      have : j = n := by omega
      subst this
      exact hx
theorem fits_int {k : IntKind} {t : TypeId} (h : fits P (.int k) (.one t) = true) : P.underlying t = some (.int k) := by
  unfold fits at h
  cases hu : P.underlying t with
  | none => rw [hu] at h; cases h
  | some d => rw [hu] at h; cases d <;> first | (cases h; done) | (rw [of_decide_eq_true h])
theorem fits_bool {t : TypeId} (h : fits P .bool (.one t) = true) : P.underlying t = some .bool := by
  unfold fits at h
  cases hu : P.underlying t with
  | none => rw [hu] at h; cases h
  | some d => rw [hu] at h; cases d <;> first | rfl | (cases h; done)
theorem fits_str {t : TypeId} (h : fits P .str (.one t) = true) : P.underlying t = some .string := by
  unfold fits at h
  cases hu : P.underlying t with
  | none => rw [hu] at h; cases h
  | some d => rw [hu] at h; cases d <;> first | rfl | (cases h; done)
theorem fits_sl {a : Ty} {t : TypeId} (h : fits P (.sl a) (.one t) = true) : ∃ e, P.underlying t = some (.slice e) ∧ P.cellsOf e = a.sz ∧ 0 < a.sz ∧ fits P a (.one e) = true := by
  unfold fits at h
  cases hu : P.underlying t with
  | none => rw [hu] at h; cases h
  | some d =>
    rw [hu] at h
    cases d <;> first | (cases h; done) | skip
    simp only [Bool.and_eq_true, decide_eq_true_eq] at h
    exact ⟨_, rfl, h.1.1, h.1.2, h.2⟩
theorem fits_struct {a b : Ty} {t : TypeId} (h : fits P (.pair a b) (.one t) = true) : ∃ fs, P.underlying t = some (.struct fs) ∧ fits P (.pair a b) (.fields fs.toList 0) = true ∧ P.cellsOf t = a.sz + b.sz := by
  unfold fits at h
  cases hu : P.underlying t with
  | none => rw [hu] at h; cases h
  | some d =>
    rw [hu] at h
    cases d <;> first | (cases h; done) | skip
    rename_i fs
    rw [Bool.and_eq_true] at h
    obtain ⟨h1, h2⟩ := h
    cases hl : fs.toList with
    | nil => rw [hl] at h1; cases h1
    | cons f r =>
      rw [hl] at h1
      refine ⟨fs, rfl, ?_, of_decide_eq_true h2⟩
      rw [hl]
      unfold fits
      simpa using h1

theorem read_data : ∀ (ty : Ty), (∀ (t : TypeId) (fuel : Nat) (cs : List Value) (x : DataW H × List MemPlace), fits P ty (.one t) = true → DataW.trod enc P w 0 (fun _ => true) true fuel t cs = some x → ∃ x : Den ty, RepC w (fun _ => True) ty x cs ∧ Wf ty x) ∧
    (∀ (fs : List Field) (off fuel : Nat) (cs : List Value), fits P ty (.fields fs off) = true → off + ty.sz = cs.length → (∀ (i : Nat) (f : Field), fs[i]? = some f → ∃ x, DataW.trod enc P w 0 (fun _ => true) true fuel f.type ((cs.drop f.offset).take (P.cellsOf f.type)) = some x) →
      ∃ x : Den ty, RepC w (fun _ => True) ty x (cs.drop off) ∧ Wf ty x) := by
  intro ty
  induction ty with
  | int k =>
    refine ⟨fun t fuel cs d hf h => ?_, fun fs off fuel cs hf => (by cases hf)⟩
    obtain ⟨n, h1, _, h3⟩ := DataW.trod_int (fits_int hf) h
    have h3' : k.min ≤ n ∧ n ≤ k.max := by simpa [Lit.wf] using h3
    exact ⟨n, h1, h3'⟩
  | bool =>
    refine ⟨fun t fuel cs d hf h => ?_, fun fs off fuel cs hf => (by cases hf)⟩
    obtain ⟨b, h1, _⟩ := DataW.trod_bool (fits_bool hf) h
    exact ⟨b, h1, trivial⟩
  | str =>
    refine ⟨fun t fuel cs d hf h => ?_, fun fs off fuel cs hf => (by cases hf)⟩
    obtain ⟨s, h1, _, h3⟩ := DataW.trod_string (fits_str hf) h
    exact ⟨s, h1, h3⟩
  | unit =>
    refine ⟨fun t fuel cs d hf h => (by cases hf), fun fs off fuel cs hf hl _ => ⟨(), ?_, trivial⟩⟩
    show cs.drop off = []
    exact List.drop_eq_nil_of_le (by rw [← hl]; exact Nat.le_refl _)
  | sl a ih =>
    refine ⟨fun t fuel cs d hf h => ?_, fun fs off fuel cs hf => (by cases hf)⟩
    obtain ⟨e, hu, hc, hp, hfe⟩ := fits_sl hf
    rcases DataW.trod_slice hu h with ⟨h1, _⟩ | ⟨ad, len, cap, elems, rest, n, hn, h1, h2, _, h4, h5, h6, h7, _, _⟩
    · exact ⟨[], ⟨none, 0, h1, Nat.le_refl _, fun j x hj => by simp at hj⟩, Nat.zero_le _, fun x hx => by simp at hx⟩
    · have key : ∀ j, j < len → ∃ x : Den a, (∃ ec, RepC w (fun _ => True) a x ec ∧ ∀ (i : Nat) (u : Value), ec[i]? = some u → w.cell? (ad.add (j * a.sz + i)) = some u) ∧ Wf a x := by
        intro j hj
        have hj' := h7 j hj
        have hs : ∃ y, elems[j]? = some y := ⟨_, List.getElem?_eq_getElem (by omega)⟩
        obtain ⟨y, hy⟩ := hs
        rw [hy] at hj'
        cases hcs : w.cells? 0 (ad.add (j * P.cellsOf e)) (P.cellsOf e) with
        | none => rw [hcs] at hj'; cases hj'
        | some ec =>
          rw [hcs] at hj'
          obtain ⟨x, hx, hw⟩ := ih.1 e n ec y hfe hj'
          refine ⟨x, ⟨ec, hx, fun i u hu => ?_⟩, hw⟩
          have := (cells_get hcs).2 i u hu
          rw [add_add, hc] at this
          exact this
      obtain ⟨xs, q1, q2⟩ := list_dens (t := a) len key
      refine ⟨xs, ⟨some ad, cap, by rw [h1, q1], by rw [q1]; exact h4, fun j x hj => ?_⟩, by rw [q1]; omega, fun x hx => ?_⟩
      · obtain ⟨⟨ec, e1, e2⟩, _⟩ := q2 j x hj
        have hel : 0 < ec.length := by rw [RepC_len e1]; exact hp
        have h0 := e2 0 _ (List.getElem?_eq_getElem hel)
        have hb : ad.block < w.heap.size := by
          have h9 : (ad.add (j * a.sz + 0)).block = ad.block := add_block _ _
          unfold World.cell? at h0
          rw [h9] at h0
          cases hh : w.heap[ad.block]? with
          | none => rw [hh] at h0; simp at h0
          | some o => exact (Array.getElem?_eq_some_iff.1 hh).1
        exact ⟨ad, ec, rfl, trivial, hb, e1, e2⟩
      · obtain ⟨j, hj⟩ := List.getElem?_of_mem hx
        exact (q2 j x hj).2
  | pair a b iha ihb =>
    have hfields : ∀ (fs : List Field) (off fuel : Nat) (cs : List Value), fits P (.pair a b) (.fields fs off) = true → off + (Ty.pair a b).sz = cs.length → (∀ (i : Nat) (f : Field), fs[i]? = some f → ∃ x, DataW.trod enc P w 0 (fun _ => true) true fuel f.type ((cs.drop f.offset).take (P.cellsOf f.type)) = some x) →
        ∃ x : Den (.pair a b), RepC w (fun _ => True) (.pair a b) x (cs.drop off) ∧ Wf (.pair a b) x := by
      intro fs off fuel cs hf hl h
      cases fs with
      | nil => cases hf
      | cons f r =>
        unfold fits at hf
        simp only [Bool.and_eq_true, decide_eq_true_eq] at hf
        obtain ⟨⟨⟨f1, f2⟩, f3⟩, f4⟩ := hf
        have hl' : off + (a.sz + b.sz) = cs.length := hl
        obtain ⟨x0, hx0⟩ := h 0 f rfl
        obtain ⟨x, r1, w1⟩ := iha.1 _ _ _ _ f3 hx0
        obtain ⟨y, r2, w2⟩ := ihb.2 r (off + a.sz) fuel cs f4 (by omega) (fun i f hi => h (i + 1) f (by simpa using hi))
        refine ⟨(x, y), ⟨_, _, ?_, r1, r2⟩, w1, w2⟩
        rw [f1, f2, ← List.drop_drop, List.take_append_drop]
    refine ⟨fun t fuel cs d hf h => ?_, hfields⟩
    obtain ⟨fs, hu, hff, hc⟩ := fits_struct hf
    obtain ⟨xs, n, _, _, h3, h4, h5⟩ := DataW.trod_struct hu h
    have := hfields fs.toList 0 n cs hff (by rw [h3, hc]; show 0 + (a.sz + b.sz) = _; omega) (fun i f hi => by
      have hi' : fs[i]? = some f := by simpa using hi
      have h6 := h5 i f hi'
      have hlt : i < xs.length := by rw [h4]; exact (Array.getElem?_eq_some_iff.1 hi').1
      rw [List.getElem?_eq_getElem hlt] at h6
      exact ⟨_, h6⟩)
    simpa using this

theorem open_arg {ty : Ty} {t : TypeId} {v : Value} {d : DataW H} {ps : List MemPlace} {r : Reach} {base : Nat} (hf : fits P ty (.one t) = true) (hok : Value.okWide P w r base t v) (h : DataW.Trod enc P w 0 (fun _ => true) true t v d ps) :
    ∃ x : Den ty, RepV w (fun _ => True) ty x v ∧ Wf ty x := by
  obtain ⟨fuel, hd⟩ := h
  obtain ⟨x, hx, hw⟩ := (read_data ty).1 t fuel _ _ hf hd
  refine ⟨x, ?_, hw⟩
  unfold RepV
  cases ty with
  | int k =>
    obtain ⟨n, rfl⟩ := okWide_int (fits_int hf) hok
    simpa [Ty.many, Value.cells] using hx
  | bool =>
    obtain ⟨n, rfl⟩ := okWide_bool (fits_bool hf) hok
    simpa [Ty.many, Value.cells] using hx
  | str =>
    obtain ⟨n, rfl⟩ := okWide_string (fits_str hf) hok
    simpa [Ty.many, Value.cells] using hx
  | unit => cases hf
  | sl a =>
    obtain ⟨e, hu, _⟩ := fits_sl hf
    obtain ⟨A, l, c, rfl⟩ := okWide_slice hu hok
    simpa [Ty.many, Value.cells] using hx
  | pair a b =>
    obtain ⟨fs, hu, _⟩ := fits_struct hf
    obtain ⟨cs, rfl, _⟩ := okWide_struct hu hok
    rw [if_pos (show (Ty.pair a b).many = true from rfl)]
    exact ⟨cs.toList, by simp, by simpa [Value.cells] using hx⟩
theorem ret_bool {F : Nat → Prop} {b : Bool} {us : List Value} (h : RepDs w F [.bool] b us) : us = [.bool b] := by
  obtain ⟨v, rfl, hv⟩ := h
  have hv' : [v] = [Value.bool b] := hv
  exact hv'
end
end Go.Vx

end
section
set_option linter.unusedVariables false
set_option linter.unusedSimpArgs false
namespace Go.Vx
open Go Go.Proofs Go.Shelf Go.RowKit Go.Lib
section
variable {P : Program} {pn : Nat → Value} {ρ : Ren}
set_option maxHeartbeats 2000000 in
set_option maxRecDepth 100000 in
/-- A copy of a row, wherever the row lies. -/
theorem clone_at (L : SlLaysE0.n41 P ρ) {e : TypeId} (he : ρ.t 23 = e) (i0 : TypeInfo) (z : Value) (size : Nat) (hi : P.info? e = some i0) (hz0 : i0.zero = some z) (hz1 : i0.size = size) (hzs : z.cells.size = size) (hsz : 0 < size)
    (ad : Addr) (n c : Nat) (news : List Value) (w : World) (hl : news.length = n * size) (hn : n ≤ maxLen) (hbig : n * i0.bytes ≤ 140737488355328)
    (hc : ∀ (j : Nat) (u : Value), news[j]? = some u → w.cell? (ad.add j) = some u) (h1 : ∀ u ∈ news, u.oneCell' = true) :
    Calls P (ρ.f 41) #[.slice (some ad) n c] w fun e' w' => ∃ v', e' = .returned v' ∧ w'.ownsRow w.heap.size e size v' n news ∧ Below w.heap.size w w' := by
  subst he
  have mixed := L.mixed; have t4 := L.t4; have a4 := L.a4; have z4 := L.z4; have v4 := L.v4; have t22 := L.t22; have a22 := L.a22; have z22 := L.z22; have v22 := L.v22
  have q22 : ∀ (w : World) (a : Option Addr) (n c n' c' : Nat), (binOp .eql (ρ.t 22) (.slice a n c) (.slice none n' c')).run P w = .ok (.bool a.isNone) w := fun w a n c n' c' => Lib.run_eql_slice_nil w _ _ a n c n' c' L.t22
  have u22 : ∀ w, Sem.run P (underlying (ρ.t 22)) w = .ok (TypeDesc.slice (ρ.t 23)) w := run_underlying t22
  have A : Aside (∀ (j : Nat) (u : Value), news[j]? = some u → w.cell? (ad.add j) = some u) := hc
  clear hc
  have z23 : ∀ w, (Go.sizeOf (ρ.t 23)).run P w = .ok size w := fun w => by rw [← hz1]; exact run_size hi w
  obtain ⟨_, _, FG⟩ := L.f41
  go_enter FG, SlBodyN.n41_ntmps ρ
  go_wp2_with (at_builtin; refine wpList_append_own _ rfl _ _ (ρ.t 22) rfl w.heap.size (ρ.t 23) i0 z size i0.bytes t22 hi hz0 hz1 rfl hzs hsz _ _ _ rfl (World.ownsRow_made w #[] 0 (Nat.le_refl _) (Nat.zero_le _) (by simp)) ad n c news rfl ?qc1 ?qc2 ?qc3 ?qc4 ?qc5 ?qc6 ?_)
  case qc1 => exact hl
  case qc2 =>
    intro j u hj
    exact Lib.cell?_alloc_some _ (A.out j u hj)
  case qc3 => exact h1
  case qc4 => rw [Nat.zero_add]; exact hn
  case qc5 => rw [Nat.zero_add]; exact hbig
  case qc6 => simp
  intro v' w1 hown hgrow hnil
  go_wp2
  go_ret
  refine ⟨v', rfl, by simpa using hown, ?_⟩
  exact ((Below.refl _ w).alloc (Nat.le_refl _) _).grown hgrow (by simp) (by intro k hk; simp [Value.ownBlock] at hk; omega)
theorem grown_of_below {w w' : World} (h : Below w.heap.size w w') : w.grownBy w' none := ⟨h.os, h.tape, h.output, h.size, fun k hk _ => h.block k hk⟩

def cloneF (by_ : Nat) {t : Ty} (xs : List (Den t)) : Option (List (Den t)) := oif (decide (xs.length * by_ ≤ 140737488355328)) (some xs)
def cloneR (e : TypeId) (t : Ty) (by_ : Nat) : RSpec := { kind := .fresh, e := e, t := t, ats := [.v (.sl t)], F := fun _ x => cloneF by_ x.1 }
def cloneS (t : Ty) (by_ : Nat) : Spec := { ats := [.v (.sl t)], rts := [.sl t], F := fun x => cloneF by_ x.1 }
theorem clone_okR (L : SlLaysE0.n41 P ρ) {f : FuncId} (hf : ρ.f 41 = f) (hen : Enters P f) {e : TypeId} (he : ρ.t 23 = e) {t : Ty} {i : TI} (hti : TyFits P e i = true) (hty : i.ty = some t) (hsz : 0 < t.sz) (hby : 1 ≤ i.bytes) : SoundR P f (cloneR e t i.bytes) := by
  refine ⟨hen, fun w F y vs r hv hr => ?_⟩
  obtain ⟨inf, d, z, g1, g2, g3, g4, g5, g6, g7, g8, g9⟩ := (ty_told hti).ex
  obtain ⟨k1, k2, k3⟩ := g9 t hty
  have hzc := (sameCells_eq k1).symm
  have hzs : z.cells.size = t.sz := by
    rw [← Array.length_toList, hzc]
    exact RepC_len (zeroD_rep (w := default) (F := fun _ => True) t)
  obtain ⟨hb, hr⟩ := oif_some hr
  have hb := of_decide_eq_true hb
  have hr : some y.1 = some r := hr
  injection hr with hr
  obtain ⟨v, vs', rfl, hv1, hv2⟩ := hv
  have hvs : vs' = [] := hv2
  subst hvs
  subst hr
  obtain ⟨A, c, h1, h2, h3⟩ := (show RepC w F (.sl t) y.1 [v] from hv1)
  injection h1 with h1
  have hle : y.1.length ≤ y.1.length * i.bytes := Nat.le_mul_of_pos_right _ hby
  rw [← hf]
  cases hA : A with
  | none =>
    have hnil : y.1 = [] := by
      cases hy : y.1 with
      | nil => rfl
      | cons q qs => obtain ⟨ad, _, hh, _⟩ := h3 0 q (by rw [hy]; rfl); rw [hA] at hh; cases hh
    rw [h1, hA]
    refine (AnyE.slices_Clone_nil L y.1.length c w).mono ?_
    rintro e' w' ⟨rfl, rfl⟩
    rw [hnil]
    exact ⟨_, [], rfl, grown_refl w' none, World.ownsRow_nil w' _ e t.sz, rfl⟩
  | some ad =>
    obtain ⟨news, q1, q2⟩ := rows_of (w := w) (F := F) (t := t) (ad := ad) (ys := y.1) (k := 0) (fun j q hq => by
      obtain ⟨ad', ec, e1, _, _, e4, e5⟩ := h3 j q hq
      rw [hA] at e1
      injection e1 with e1
      subst e1
      exact ⟨ec, e4, fun i u hu => by simpa using e5 i u hu⟩)
    rw [h1, hA]
    refine (clone_at L he inf z t.sz g1 g7 (by rw [g3, k2]) hzs hsz ad y.1.length c news w (RepRows_len q1) (by simp only [maxLen]; omega) (by rw [g4]; exact hb) (fun j u hj => by simpa using q2 j u hj) (RepRows_one q1)).mono ?_
    rintro e' w' ⟨v', rfl, ho, hbel⟩
    exact ⟨v', news, rfl, grown_of_below hbel, ho, RepRows_imp (fun _ _ hq => RepC_move (Agree.below hbel) hq) q1⟩
theorem fresh_data {f : FuncId} {S : RSpec} (h : SoundR P f S) (hk : S.kind = .fresh) (hsz : 0 < S.t.sz) : Sound P f { ats := S.ats, rts := [.sl S.t], F := fun x => S.F [] x } := by
  obtain ⟨kind, e, t, ats, SF⟩ := S
  have hk' : kind = .fresh := hk
  subst hk'
  refine ⟨h.1, fun w F x vs r hv hr => ?_⟩
  refine (h.2 w F x vs r hv hr).mono ?_
  rintro e' w' ⟨v, cs, rfl, hg, ho, hrr⟩
  have hO : RepO P w w' F (fun _ => v) [] 0 (.row e t r 0) := ⟨cs, ho, hrr, hsz⟩
  have hread : RepC w' (fun k => F k ∨ w.heap.size ≤ k) (.sl t) r [v] := row_reads (fun k hk => .inl hk) (fun k hk => .inr hk) hO
  exact ⟨[v], rfl, ⟨v, rfl, hread⟩, ⟨hg.os, hg.tape, hg.output, hg.size, fun k hk => hg.block k hk (by intro e; cases e)⟩⟩
theorem clone_okS {f : FuncId} {e : TypeId} {t : Ty} {by_ : Nat} (h : SoundR P f (cloneR e t by_)) (hsz : 0 < t.sz) : Sound P f (cloneS t by_) := fresh_data h rfl hsz
end
end Go.Vx

end
section
set_option linter.unusedVariables false
set_option linter.unusedSimpArgs false
namespace Go.Vx
open Go Go.Proofs Go.Shelf Go.RowKit Go.Lib

theorem encC_len : ∀ (t : Ty) (x : Den t), (encC t x).length = t.sz
  | .int _, _ => rfl
  | .bool, _ => rfl
  | .str, _ => rfl
  | .unit, _ => rfl
  | .pair a b, x => by simp [encC, encC_len a, encC_len b, Ty.sz]
  | .sl _, _ => rfl
theorem encC_one : ∀ (t : Ty) (x : Den t), ∀ v ∈ encC t x, v.oneCell' = true
  | .int _, _, v, h => by simp [encC] at h; subst h; rfl
  | .bool, _, v, h => by simp [encC] at h; subst h; rfl
  | .str, _, v, h => by simp [encC] at h; subst h; rfl
  | .unit, _, v, h => by simp [encC] at h
  | .pair a b, x, v, h => by
    rcases List.mem_append.1 h with h | h
    · exact encC_one a _ v h
    · exact encC_one b _ v h
  | .sl _, _, v, h => by simp [encC] at h; subst h; rfl
section
variable {w w' : World} {F : Nat → Prop}
theorem encC_rows {t : Ty} (ht : t.flat = true) : ∀ {xs : List (Den t)} {cs : List Value}, RepRows w F t xs cs ↔ cs = xs.flatMap (encC t)
  | [], cs => Iff.rfl
  | x :: xs, cs => by
    constructor
    · rintro ⟨c, cs', rfl, h1, h2⟩
      rw [(encC_rep ht).1 h1, (encC_rows ht).1 h2]
      rfl
    · rintro rfl
      exact ⟨_, _, rfl, (encC_rep ht).2 rfl, (encC_rows ht).2 rfl⟩
end
theorem flat_cell {α : Type} [Inhabited α] {enc : α → List Value} {k : Nat} (h0 : 0 < k) (hk : ∀ x, (enc x).length = k) : ∀ (xs : List α) (j : Nat), j < xs.length * k → (xs.flatMap enc)[j]? = some ((enc xs.toArray[j / k]!)[j % k]!)
  | [], j, h => by simp at h
  | x :: xs, j, h => by
    rw [List.flatMap_cons]
    by_cases hj : j < k
    · rw [List.getElem?_append_left (by rw [hk]; exact hj), Nat.div_eq_of_lt hj, Nat.mod_eq_of_lt hj]
      have hlt : j < (enc x).length := by rw [hk]; exact hj
      rw [List.getElem?_eq_getElem hlt]
      simp [getElem!_pos, hlt]
    · have hge : k ≤ j := Nat.le_of_not_lt hj
      rw [List.getElem?_append_right (by rw [hk]; exact hge), hk]
      have hlt : j - k < xs.length * k := by
        rw [List.length_cons, Nat.add_mul, Nat.one_mul] at h
        omega
      rw [flat_cell h0 hk xs (j - k) hlt]
      have e1 : j / k = (j - k) / k + 1 := by
        rw [Nat.div_eq_sub_div h0 hge]
      have e2 : j % k = (j - k) % k := Nat.mod_eq_sub_mod hge
      rw [e1, e2]
      have : (x :: xs).toArray[(j - k) / k + 1]! = xs.toArray[(j - k) / k]! := by simp
      rw [this]


instance denInhabited (t : Ty) : Inhabited (Den t) := ⟨zeroD t⟩
theorem sorted_row {w : World} {b base cap m : Nat} {e : TypeId} {t : Ty} (hsz : 0 < t.sz) {cur : Array Value} {d : Array (Den t)} {os : Array Go.Obj} (hh : w.heap[b]? = some (.cells cur e (0, 0))) (hbg : base ≤ b) (hnc : d.size ≤ cap) (hcm : cap ≤ maxLen) (hcs : cur.size = cap * t.sz) :
    w.grownBy (sortWorldK (encC t) t.sz w b 0 m d os) (some b) ∧ (sortWorldK (encC t) t.sz w b 0 m d os).ownsRow base e t.sz (.slice (some ⟨b, 0, none⟩) d.size cap) d.size (d.toList.flatMap (encC t)) := by
  have hlt : b < w.heap.size := (Array.getElem?_eq_some_iff.1 hh).1
  have hheap : (sortWorldK (encC t) t.sz w b 0 m d os).heap = w.heap.modify b (Sort.onCells (Sort.putCells id 0 (Sort.flatK (encC t) t.sz d))) ++ os := rfl
  have hlen : (d.toList.flatMap (encC t)).length = d.size * t.sz := by
    have : ∀ l : List (Den t), (l.flatMap (encC t)).length = l.length * t.sz := by
      intro l
      induction l with
      | nil => simp
      | cons x l ih => rw [List.flatMap_cons, List.length_append, ih, encC_len, List.length_cons, Nat.add_mul, Nat.one_mul, Nat.add_comm]
    rw [this]
    simp
  refine ⟨⟨rfl, rfl, rfl, ?_, fun k hk hne => ?_⟩, hlen, .inr ⟨b, cap, Sort.putCells id 0 (Sort.flatK (encC t) t.sz d) cur, rfl, hbg, ?_, hnc, hcm, ?_, ?_⟩⟩
  · rw [hheap]; simp
  · rw [hheap, Array.getElem?_append_left (by simpa using hk), Array.getElem?_modify, if_neg (fun h => hne (by rw [h]))]
  · rw [hheap, Array.getElem?_append_left (by simpa using hlt), Array.getElem?_modify, if_pos rfl, hh]
    rfl
  · simp [Sort.putCells, hcs]
  · apply List.ext_getElem?
    intro j
    by_cases hj : j < d.size * t.sz
    · have h1 := flat_cell hsz (encC_len t) d.toList j (by simpa using hj)
      rw [h1, List.getElem?_take, if_pos hj]
      have hjc : j < cur.size := by
        rw [hcs]
        exact Nat.lt_of_lt_of_le hj (Nat.mul_le_mul_right _ hnc)
      have h2 := Sort.get_flatK (encC t) t.sz d j hj
      have hfs : j < (Sort.flatK (encC t) t.sz d).size := by simpa using hj
      rw [getElem!_pos _ j hfs] at h2
      have h3 : (Sort.putCells id 0 (Sort.flatK (encC t) t.sz d) cur)[j]? = some (Sort.flatK (encC t) t.sz d)[j] := by
        simp [Sort.putCells, hjc, hj]
      rw [Array.getElem?_toList, h3, h2]
    · rw [List.getElem?_eq_none (by rw [List.length_take]; omega), List.getElem?_eq_none (by rw [hlen]; omega)]
def sortD {t : Ty} (cf : Den t → Den t → Int) (l : List (Den t)) : List (Den t) := (Sort.pdq (ltOf cf) l.toArray 0 l.length (Lib.bitLen l.length) true true).toList
def sortF {t : Ty} (cf : Den t → Den t → Int) (l : List (Den t)) : Option (List (Den t)) := oif (decide (l.length < 4611686018427387904)) (some (sortD cf l))
theorem pdq_size {t : Ty} {cf : Den t → Den t → Int} (hO : Sort.SWO (ltOf cf)) (l : List (Den t)) : (Sort.pdq (ltOf cf) l.toArray 0 l.length (Lib.bitLen l.length) true true).size = l.length := by
  have h := (Sort.pdq_sorts (ltOf cf) hO l.toArray 0 l.length (Lib.bitLen l.length) true true (Nat.zero_le _) (by simp) (Or.inl rfl)).1.1
  simpa using h
section
variable {P : Program} {pn : Nat → Value} {ρ : Ren}
theorem sort_ok (L : SlLaysF0.n6 P ρ) {f : FuncId} (hf : ρ.f 6 = f) (hen : Enters P f) {e : TypeId} (he : ρ.t 24 = e) {t : Ty} (ht : t.flat = true) {i : TI} (hti : TyFits P e i = true) (hty : i.ty = some t) (hag : i.agg = true) (hsz : 0 < t.sz)
    (cf : Den t → Den t → Int) (hO : Sort.SWO (ltOf cf)) {g : FuncId} (heg : Enters P g)
    (hcl : ∀ (x y : Den t) (W : World), Calls P g #[.agg (encC t x).toArray, .agg (encC t y).toArray] W fun e w' => e = .returned (.int .i64 (cf x y)) ∧ ∃ q os', w' = Sort.grow (W.drewN q) os') :
    SoundR P f { kind := .inplace, e := e, t := t, ats := [], F := fun l _ => sortF cf l, fn := some g } := by
  refine ⟨hen, fun w base F xs v cs y vs r hb ho hr hF hv hs hlen => ?_⟩
  obtain rfl : vs = [] := hv
  obtain ⟨inf, d, z, g1, g2, g3, g4, g5, g6, g7, g8, g9⟩ := (ty_told hti).ex
  obtain ⟨k1, k2, k3⟩ := g9 t hty
  obtain ⟨hn, hs⟩ := oif_some (show oif (decide (xs.length < 4611686018427387904)) (some (sortD cf xs)) = some r from hs)
  have hn := of_decide_eq_true hn
  injection hs with hs
  have hcs := (encC_rows ht).1 hr
  rw [← hf]
  show Calls P (ρ.f 6) #[v, .func (.func g) #[] #[]] w _
  rcases ho.2 with ⟨rfl, h0⟩ | ⟨b, cap, cur, rfl, hbg, hh, hnc, hcm, hcsz, htk⟩
  · have hx : xs = [] := List.eq_nil_of_length_eq_zero h0
    subst hx
    refine (AnyF.slices_SortFunc_none L none 0 _ w).mono ?_
    rintro e' w' ⟨rfl, rfl⟩
    have hr0 : r = [] := List.eq_nil_of_length_eq_zero hlen
    subst hr0
    exact ⟨[], rfl, grown_refl w' _, World.ownsRow_nil w' _ e t.sz, rfl⟩
  · have hlt : b < w.heap.size := (Array.getElem?_eq_some_iff.1 hh).1
    have hH : Sort.HoldsK (encC t) t.sz w b 0 xs.toArray := by
      intro j hj
      rw [Sort.size_flatK] at hj
      have hj' : j < xs.length * t.sz := by simpa using hj
      have hc := flat_cell hsz (encC_len t) xs j hj'
      rw [← hcs, ← htk, List.getElem?_take, if_pos hj'] at hc
      rw [Sort.get_flatK _ _ _ _ hj]
      constructor
      · rw [cell_in hh, Nat.zero_add]
        simpa using hc
      · simp [World.frozen?, hh]
    have aE : ∀ w, (isAgg (ρ.t 24)).run P w = .ok true w := fun w => by rw [he, run_agg g2, g5, hag]
    have zE : ∀ w, (Go.sizeOf (ρ.t 24)).run P w = .ok t.sz w := fun w => by rw [he, run_size g1, g3, k2]
    have hcon := AnyQ.slices_SortFunc_eq L t.sz aE zE (encC t) (encC_len t) (encC_one t) cf hO g #[] b 0 cap xs.toArray w (fun args w => run_enter heg args w) (fun m os dk _ x y => hcl x y _) hH hlt (by simpa using hn)
    have hsize : xs.toArray.size = xs.length := by simp
    rw [hsize] at hcon
    refine hcon.mono ?_
    rintro e' w' ⟨rfl, m, os, rfl⟩
    have hps := pdq_size hO xs
    have hro := sorted_row (m := m) (os := os) (d := Sort.pdq (ltOf cf) xs.toArray 0 xs.length (Lib.bitLen xs.length) true true) hsz hh hbg (by rw [hps]; exact hnc) hcm hcsz
    have hrr : r = (Sort.pdq (ltOf cf) xs.toArray 0 xs.length (Lib.bitLen xs.length) true true).toList := hs.symm
    refine ⟨_, rfl, hro.1, ?_, (encC_rows ht).2 (by rw [hrr])⟩
    have h2 := hro.2
    rw [hps] at h2
    have hl : r.length = xs.length := hlen
    rw [hl]
    exact h2
end
end Go.Vx

end
section
set_option linter.unusedVariables false
set_option linter.unusedSimpArgs false
namespace Go.Vx
open Go Go.Proofs Go.Shelf Go.RowKit Go.Lib
section
variable {P : Program} {pn : Nat → Value} {ρ : Ren}
theorem step_append_row {ops : Array Oper} {o : Oper} {a : Act} {w : World} {K : Act → World → Prop} {Q : Exit → Act → World → Prop} {E : Prop}
    (hg : o.guard = none) (s x : Operand) (t t' : TypeId) (hop : o.op = Op.call { callee := Callee.builtin Builtin.append, args := #[s, x], argTypes := #[t, t'] })
    (v u : Value) (hs : a.eval s = v) (hx : a.eval x = u) {v' : Value} {w' : World} (hr : (Builtin.append_ #[t, t'] o.type #[v, u]).run P w = .ok v' w') (hK : K (a.put o.dst v') w') :
    if Region.wanted o (yielded ops a.tmps) = true then Oper.wp P o a w K Q else E := by
  have hw : Region.wanted o (yielded ops a.tmps) = true := by simp [Region.wanted, hg]
  rw [if_pos hw]
  unfold Oper.wp
  simp [execOp, hop, resolve, invoke, builtin, hs, hx, hr, Result.andThen]
  exact hK
theorem step_copy_row {ops : Array Oper} {o : Oper} {a : Act} {w : World} {K : Act → World → Prop} {Q : Exit → Act → World → Prop} {E : Prop}
    (hg : o.guard = none) (s x : Operand) (t t' : TypeId) (hop : o.op = Op.call { callee := Callee.builtin Builtin.copy, args := #[s, x], argTypes := #[t, t'] })
    (v u : Value) (hs : a.eval s = v) (hx : a.eval x = u) {v' : Value} {w' : World} (hr : (Builtin.copy_ #[t, t'] o.type #[v, u]).run P w = .ok v' w') (hK : K (a.put o.dst v') w') :
    if Region.wanted o (yielded ops a.tmps) = true then Oper.wp P o a w K Q else E := by
  have hw : Region.wanted o (yielded ops a.tmps) = true := by simp [Region.wanted, hg]
  rw [if_pos hw]
  unfold Oper.wp
  simp [execOp, hop, resolve, invoke, builtin, hs, hx, hr, Result.andThen]
  exact hK
theorem wpList_copy_row {ops : Array Oper} {rest : List Oper} {o : Oper} {a : Act} {w : World} {Q : Exit → Act → World → Prop} (hgd : o.guard = none) (d s : Operand) (t t' : TypeId)
    (ho : o.op = .call { callee := .builtin .copy, args := #[d, s], argTypes := #[t, t'] }) (v u : Value) (hd : a.eval d = v) (hs : a.eval s = u) {v' : Value} {w' : World}
    (hr : (Builtin.copy_ #[t, t'] o.type #[v, u]).run P w = .ok v' w') (h : wpList P ops Q rest (a.put o.dst v') w') : wpList P ops Q (o :: rest) a w :=
  wpList_plain hgd fun _ hK => by
    unfold Oper.wp execOp
    simp only [ho, resolve, invoke, builtin, Sem.run_bind, Sem.run_pure, Result.andThen_ok, List.map_toArray, List.map_cons, List.map_nil, hd, hs, hr]
    exact hK _ _ h
theorem run_clear_row {w : World} {t e ty : TypeId} {z : Value} (ht : P.underlying t = some (.slice e)) (hz : ∀ w, (zeroValue e).run P w = .ok z w) {g o n c : Nat} (h1 : ∀ v ∈ (Builtin.zeroCells z.cells n).toList, v.oneCell' = true) (hn : 0 < n) {cur : Array Value} (hh : w.heap[g]? = some (.cells cur e (0, 0)))
    (hle : o + (Builtin.zeroCells z.cells n).size ≤ cur.size) :
    (Builtin.clear_ #[t] ty #[.slice (some ⟨g, o, none⟩) n c]).run P w = .ok (.tuple #[]) (w.setRow g (cur.toList.take o ++ (Builtin.zeroCells z.cells n).toList ++ cur.toList.drop (o + (Builtin.zeroCells z.cells n).size)).toArray) := by
  have hst := run_storeCells_at P g o e (Builtin.zeroCells z.cells n).toList 0 cur w hh (by simpa using hle) h1
  obtain ⟨m, rfl⟩ : ∃ m, n = m + 1 := ⟨n - 1, by omega⟩
  simp only [Nat.add_zero, Array.length_toList] at hst
  simp [Builtin.clear_, run_underlying ht, hz, hst, Result.andThen]
theorem run_copy_rowK {w : World} {dT sT ty elem : TypeId} {k g o dLen dCap : Nat} {a : Addr} {sLen sCap : Nat} {cur : Array Value} {t : TypeId} {cs : List Value}
    (hu : P.underlying dT = some (.slice elem)) {i : TypeInfo} (hi : P.info? elem = some i) (hk : i.size = k)
    (hg : w.heap[g]? = some (.cells cur t (0, 0))) (hn : cs.length = min sLen dLen * k)
    (hsrc : ∀ j v, cs[j]? = some v → w.cell? (a.add j) = some v) (hfit : o + cs.length ≤ cur.size) (h1 : ∀ v ∈ cs, v.oneCell' = true) :
    (Builtin.copy_ #[dT, sT] ty #[.slice (some ⟨g, o, none⟩) dLen dCap, .slice (some a) sLen sCap]).run P w =
        .ok (goInt ((min sLen dLen : Nat) : Int)) (w.setRow g (cur.toList.take o ++ cs ++ cur.toList.drop (o + cs.length)).toArray) := by
  have hf := run_firstCells_some (P := P) w i.size (min sLen dLen) a sLen sCap cs (by rw [hk]; exact hn) hsrc
  have hst := run_storeCells_at P g o t cs 0 cur w hg (by simpa using hfit) h1
  simp only [Nat.add_zero] at hst
  have hmin : Nat.min sLen dLen = min sLen dLen := rfl
  have hgo : goInt ((min sLen dLen : Nat) : Int) = goInt (min (sLen : Int) (dLen : Int)) := congrArg goInt (by omega)
  simp [Builtin.copy_, run_underlying hu, Builtin.lenOf, sizeOf, typeInfo, hi, hf, hst, hmin, hgo]
theorem run_overlaps_row {w : World} {tS tR e : TypeId} (ht : P.underlying tS = some (.slice e)) {size : Nat} (hz : ∀ w, (Go.sizeOf e).run P w = .ok size w)
    {a b : Addr} {la ca lb cb : Nat} (hne : a.block ≠ b.block) {u : Value} (ha : w.cell? a = some u) {cur : Array Value} {t : TypeId} (hb : w.heap[b.block]? = some (.cells cur t (0, 0))) (h0 : 0 < cur.size) :
    (Extern.SlicesOverlaps.overlaps #[tS, tS] #[tR] #[.slice (some a) la ca, .slice (some b) lb cb]).run P w = .ok (.bool false) w := by
  have hnb : (a.block != b.block) = true := by simpa using hne
  have hnb' : (a.block == b.block) = false := by simpa using hne
  obtain ⟨tA, kA, hsa⟩ : ∃ tA kA, w.shape? a.block = some (tA, kA + 1) := by
    unfold World.cell? at ha
    unfold World.shape?
    split at ha
    · rename_i c e' fr hc
      have hlt : a.off < c.size := by
        split at ha
        · cases ha
        · exact (Array.getElem?_eq_some_iff.1 ha).1
      exact ⟨e', c.size - 1, by rw [show c.size - 1 + 1 = c.size by omega]⟩
    · cases ha
  have hsb : w.shape? b.block = some (t, cur.size) := by unfold World.shape?; rw [hb]
  have hfb : ∀ o sp, w.frozen? { block := b.block, off := o, spot := sp } = false := fun o sp => by unfold World.frozen?; rw [hb]; simp
  have hfb' : w.frozen? b = false := hfb b.off b.spot
  have hkB : cur.size ≠ 0 := by omega
  change Sem.run P (α := Value) (do
    let some t := (#[tS, tS] : Array TypeId)[0]? | stuck "slices.overlaps: no parameter types"
    let .slice elem ← underlying t | stuck "slices.overlaps: slice type expected"
    let size ← sizeOf elem
    match (some a : Option Addr), (some b : Option Addr) with
    | some a, some b =>
      if la = 0 ∨ lb = 0 ∨ size = 0 then pure (Value.bool false)
      else if a.block != b.block && (← frozen a) && (← frozen b) then unsupported .addressObserved
      else do
        if a.block != b.block then do
          noView a; noView b
          if ← mayBeOne a b then return Value.bool ((← choose (.extern "sameAddr.stringBytes" 2)) == 1)
        pure (Value.bool (a.block == b.block && a.off < b.off + lb * size && b.off < a.off + la * size))
    | _, _ => pure (Value.bool false)) w = _
  by_cases h0 : la = 0 ∨ lb = 0 ∨ size = 0
  · simp [run_underlying ht, hz, h0]
  · cases hkk : cur.size with
    | zero => exact absurd hkk hkB
    | succ kB =>
      rw [hkk] at hsb
      cases hfa : w.frozen? a <;> cases hfe : w.frozen? { block := a.block, off := kA + 1 } <;>
        simp [run_underlying ht, hz, h0, hnb, hnb', frozen, noView, viewAt, mayBeOne, stringish, shape, Sem.run, hsa, hsb, hfa, hfb, hfb', hfe]
end
def InsDone (e : TypeId) (k : Nat) (w : World) (base : Nat) (v : Value) (n : Nat) (cs : List Value) (en : Ending) (w' : World) : Prop :=
  ∃ v', en = .returned v' ∧ w.grownBy w' (blk v) ∧ w'.ownsRow base e k v' n cs ∧ (blk v' = blk v ∨ ∀ j, blk v' = some j → w.heap.size ≤ j)
def DelWalk (P : Program) (f : FuncId) (e : TypeId) (k : Nat) : Prop := ∀ (w : World) (g cap n i j : Nat) (cur : Array Value), w.heap[g]? = some (.cells cur e (0,0)) → cur.size = cap * k → (∀ v ∈ cur.toList.take (n * k), v.oneCell' = true) → n ≤ cap → cap ≤ 9223372036854775807 → i < j → j ≤ n →
  Calls P f #[.slice (some ⟨g,0,none⟩) n cap, .int .i64 i, .int .i64 j] w fun en w' => en = .returned (.slice (some ⟨g,0,none⟩) (n-(j-i)) cap) ∧
    ∃ q cur', w' = (w.drewN q).setRow g cur' ∧ cur'.size = cap * k ∧ cur'.toList.take ((n-(j-i))*k) = cur.toList.take (i*k) ++ (cur.toList.drop (j*k)).take ((n-j)*k)
structure InsWalk (P : Program) (f : FuncId) (e : TypeId) (k by_ : Nat) : Prop where
  fin : ∀ (w : World) (base n m vc : Nat) (v : Value) (ad : Addr) (cs news : List Value), base ≤ w.heap.size → w.ownsRow base e k v n cs → 0 < m →
    news.length = m * k → (∀ j u, news[j]? = some u → w.cell? (ad.add j) = some u) → (∀ u ∈ news, u.oneCell' = true) → (n + m) * by_ ≤ 140737488355328 →
    Calls P f #[v, .int .i64 n, .slice (some ad) m vc] w (InsDone e k w base v (n + m) (cs ++ news))
  room : ∀ (w : World) (base g cap n i m vc : Nat) (ad : Addr) (cur : Array Value) (news : List Value), base ≤ g → w.heap[g]? = some (.cells cur e (0,0)) → cur.size = cap * k → (∀ v ∈ cur.toList.take (n * k), v.oneCell' = true) →
    i < n → 0 < m → n + m ≤ cap → cap ≤ maxLen → ad.block ≠ g →
    news.length = m * k → (∀ j u, news[j]? = some u → w.cell? (ad.add j) = some u) → (∀ u ∈ news, u.oneCell' = true) →
    Calls P f #[.slice (some ⟨g, 0, none⟩) n cap, .int .i64 i, .slice (some ad) m vc] w (InsDone e k w base (.slice (some ⟨g, 0, none⟩) n cap) (n + m) ((cur.toList.take (n * k)).take (i * k) ++ news ++ (cur.toList.take (n * k)).drop (i * k)))
  grow : ∀ (w : World) (base g cap n i m vc : Nat) (ad : Addr) (cur : Array Value) (news : List Value), base ≤ w.heap.size → w.heap[g]? = some (.cells cur e (0,0)) → cur.size = cap * k → (∀ v ∈ cur.toList.take (n * k), v.oneCell' = true) →
    i < n → 0 < m → n ≤ cap → cap < n + m → (n + m) * by_ ≤ 140737488355328 →
    news.length = m * k → (∀ j u, news[j]? = some u → w.cell? (ad.add j) = some u) → ad.block < w.heap.size → (∀ u ∈ news, u.oneCell' = true) →
    Calls P f #[.slice (some ⟨g, 0, none⟩) n cap, .int .i64 i, .slice (some ad) m vc] w (InsDone e k w base (.slice (some ⟨g, 0, none⟩) n cap) (n + m) ((cur.toList.take (n * k)).take (i * k) ++ news ++ (cur.toList.take (n * k)).drop (i * k)))

def delF {t : Ty} (l : List (Den t)) (i j : Int) : Option (List (Den t)) := oif (decide (0 ≤ i)) (oif (decide (i < j)) (oif (decide (j ≤ (l.length : Int))) (some (l.take i.toNat ++ l.drop j.toNat))))
def deleteR (e : TypeId) (t : Ty) : RSpec := { kind := .step, e := e, t := t, ats := [.v (.int .i64), .v (.int .i64)], F := fun l y => delF l y.1 y.2.1 }
def insF {t : Ty} (by_ : Nat) (l : List (Den t)) (i : Int) (v : List (Den t)) : Option (List (Den t)) := oif (decide (0 ≤ i)) (oif (decide (i ≤ (l.length : Int))) (oif (decide (0 < v.length)) (oif (decide ((l.length + v.length) * by_ ≤ 140737488355328)) (some (l.take i.toNat ++ v ++ l.drop i.toNat)))))
def insertR (e : TypeId) (t : Ty) (by_ : Nat) : RSpec := { kind := .step, e := e, t := t, ats := [.v (.int .i64), .v (.sl t)], F := fun l y => insF by_ l y.1 y.2.1 }
section
variable {P : Program} {pn : Nat → Value} {w w' : World} {F G : Nat → Prop}
theorem RepRows_split {t : Ty} : ∀ {xs ys : List (Den t)} {cs : List Value}, RepRows w G t (xs ++ ys) cs → ∃ c1 c2, cs = c1 ++ c2 ∧ RepRows w G t xs c1 ∧ RepRows w G t ys c2
  | [], ys, cs, h => ⟨[], cs, rfl, rfl, h⟩
  | x :: xs, ys, _, h => by
    obtain ⟨c, cs', rfl, h1, h2⟩ := h
    obtain ⟨c1, c2, rfl, h3, h4⟩ := RepRows_split h2
    exact ⟨c ++ c1, c2, by rw [List.append_assoc], ⟨c, c1, rfl, h1, h3⟩, h4⟩
theorem RepRows_cut {t : Ty} {xs : List (Den t)} {cs : List Value} (h : RepRows w G t xs cs) (i : Nat) (hi : i ≤ xs.length) : RepRows w G t (xs.take i) (cs.take (i * t.sz)) ∧ RepRows w G t (xs.drop i) (cs.drop (i * t.sz)) := by
  rw [← List.take_append_drop i xs] at h
  obtain ⟨c1, c2, rfl, h1, h2⟩ := RepRows_split h
  have hl : c1.length = i * t.sz := by rw [RepRows_len h1, List.length_take, Nat.min_eq_left hi]
  rw [List.take_left' hl, List.drop_left' hl]
  exact ⟨h1, h2⟩
theorem agree_grown {row : Option Nat} (hg : w.grownBy w' row) (hF : ∀ k, row = some k → ¬ F k) : Agree F w w' := ⟨hg.size, fun k hk hlt => hg.block k hlt (fun e => hF k e.symm hk)⟩
theorem delete_core {f : FuncId} {e : TypeId} {t : Ty} (hw : DelWalk P f e t.sz) {base : Nat} {xs : List (Den t)} {v : Value} {cs : List Value} {a b : Int} {r : List (Den t)} (ho : w.ownsRow base e t.sz v xs.length cs) (hr : RepRows w F t xs cs) (hF : ∀ k, blk v = some k → ¬ F k) (hs : delF xs a b = some r) :
    Calls P f #[v, .int .i64 a, .int .i64 b] w fun en w' => ∃ v' cs', en = .returned v' ∧ w.grownBy w' (blk v) ∧ w'.ownsRow base e t.sz v' r.length cs' ∧ RepRows w' F t r cs' ∧ (blk v' = blk v ∨ ∀ k, blk v' = some k → w.heap.size ≤ k) := by
  have hs : oif (decide ((0:Int) ≤ a)) _ = some r := hs
  obtain ⟨c1, hs⟩ := oif_some hs
  obtain ⟨c2, hs⟩ := oif_some hs
  obtain ⟨c3, hs⟩ := oif_some hs
  injection hs with hs
  have c1 : (0:Int) ≤ a := of_decide_eq_true c1
  have c2 : a < b := of_decide_eq_true c2
  have c3 : b ≤ (xs.length : Int) := of_decide_eq_true c3
  obtain ⟨i, rfl⟩ : ∃ i : Nat, a = (i : Int) := Int.eq_ofNat_of_zero_le c1
  obtain ⟨j, rfl⟩ : ∃ j : Nat, b = (j : Int) := Int.eq_ofNat_of_zero_le (by omega)
  simp only [Int.toNat_natCast] at hs
  rcases ho.2 with ⟨rfl, h0⟩ | ⟨g, cap, cur, rfl, hbg, hh, hnc, hcm, hcsz, htk⟩
  · exfalso
    have h0 : xs.length = 0 := h0
    omega
  · have hlt : g < w.heap.size := (Array.getElem?_eq_some_iff.1 hh).1
    have hone := RepRows_one hr
    refine (hw w g cap xs.length i j cur hh hcsz (fun v hv => hone v (by rw [← htk]; exact hv)) hnc (by simpa [maxLen] using hcm) (by omega) (by omega)).mono ?_
    rintro en w' ⟨rfl, q, cur', rfl, hs', ht'⟩
    have hrl : r.length = xs.length - (j - i) := by rw [← hs]; simp; omega
    have hg : w.grownBy ((w.drewN q).setRow g cur') (blk (.slice (some ⟨g, 0, none⟩) xs.length cap)) := by
      refine ⟨rfl, rfl, rfl, ?_, fun k hk hne => ?_⟩
      · show w.heap.size ≤ ((w.drewN q).setRow g cur').heap.size
        simp [World.setRow, World.drewN]
      · exact setRow_other (w.drewN q) g k _ (fun e => hne (by rw [e]; rfl))
    have hcl : cs.length = xs.length * t.sz := RepRows_len hr
    have hcut1 := (RepRows_cut hr i (by omega)).1
    have hcut2 := (RepRows_cut hr j (by omega)).2
    have hrows : RepRows w F t r (cs.take (i * t.sz) ++ cs.drop (j * t.sz)) := by rw [← hs]; exact RepRows_join hcut1 hcut2
    refine ⟨_, cs.take (i * t.sz) ++ cs.drop (j * t.sz), rfl, hg, ⟨?_, .inr ⟨g, cap, cur', by rw [hrl], hbg, setRow_heap (w.drewN q) g cur _ _ _ hh, by omega, hcm, hs', ?_⟩⟩, RepRows_imp (fun _ _ hc => RepC_move (agree_grown hg hF) hc) hrows, .inl rfl⟩
    · exact RepRows_len hrows
    · rw [hrl]
      refine ht'.trans ?_
      rw [← htk, List.take_take, Nat.min_eq_left (Nat.mul_le_mul_right _ (by omega)), List.drop_take]
      congr 2
      rw [← Nat.sub_mul]
theorem delete_ok {f : FuncId} (hen : Enters P f) {e : TypeId} {t : Ty} (hw : DelWalk P f e t.sz) : SoundR P f (deleteR e t) := by
  refine ⟨hen, fun w base F xs v cs y vs r hb ho hr hF hv hs => ?_⟩
  obtain ⟨u, vs1, rfl, h1, u', vs2, rfl, h2, h3⟩ := hv
  obtain rfl : vs2 = [] := h3
  obtain rfl : u = .int .i64 y.1 := by have h : [u] = [Value.int .i64 y.1] := h1; injection h
  obtain rfl : u' = .int .i64 y.2.1 := by have h : [u'] = [Value.int .i64 y.2.1] := h2; injection h
  exact delete_core hw ho hr hF hs
theorem insert_core {f : FuncId} {e : TypeId} {t : Ty} {by_ : Nat} (hby : 1 ≤ by_) (hw : InsWalk P f e t.sz by_) {base : Nat} {xs : List (Den t)} {v : Value} {cs : List Value} {a : Int} {ys : List (Den t)} {A : Option Addr} {c : Nat} {r : List (Den t)} (hb : base ≤ w.heap.size) (ho : w.ownsRow base e t.sz v xs.length cs) (hr : RepRows w F t xs cs) (hF : ∀ k, blk v = some k → ¬ F k)
    (h3' : ∀ (j : Nat) (x : Den t), ys[j]? = some x → ∃ (ad : Addr) (ec : List Value), A = some ad ∧ F ad.block ∧ ad.block < w.heap.size ∧ RepC w F t x ec ∧ ∀ (i : Nat) (u : Value), ec[i]? = some u → w.cell? (ad.add (j * t.sz + i)) = some u) (hs : insF by_ xs a ys = some r) :
    Calls P f #[v, .int .i64 a, .slice A ys.length c] w fun en w' => ∃ v' cs', en = .returned v' ∧ w.grownBy w' (blk v) ∧ w'.ownsRow base e t.sz v' r.length cs' ∧ RepRows w' F t r cs' ∧ (blk v' = blk v ∨ ∀ k, blk v' = some k → w.heap.size ≤ k) := by
  have hs : oif (decide ((0:Int) ≤ a)) _ = some r := hs
  obtain ⟨c1, hs⟩ := oif_some hs
  obtain ⟨c2, hs⟩ := oif_some hs
  obtain ⟨c3, hs⟩ := oif_some hs
  obtain ⟨c4, hs⟩ := oif_some hs
  injection hs with hs
  have c1 : (0:Int) ≤ a := of_decide_eq_true c1
  have c2 : a ≤ (xs.length : Int) := of_decide_eq_true c2
  have c3 : 0 < ys.length := of_decide_eq_true c3
  have c4 : (xs.length + ys.length) * by_ ≤ 140737488355328 := of_decide_eq_true c4
  obtain ⟨i, rfl⟩ : ∃ i : Nat, a = (i : Int) := Int.eq_ofNat_of_zero_le c1
  simp only [Int.toNat_natCast] at hs
  obtain ⟨ad, hA, hFa, hla⟩ : ∃ ad, A = some ad ∧ F ad.block ∧ ad.block < w.heap.size := by
    obtain ⟨ad, _, e1, e2, e3, _⟩ := h3' 0 ys[0] (List.getElem?_eq_getElem c3)
    exact ⟨ad, e1, e2, e3⟩
  subst hA
  obtain ⟨news, q1, q2⟩ := rows_of (w := w) (F := F) (t := t) (ad := ad) (ys := ys) (k := 0) (fun j q hq => by
    obtain ⟨ad', ec, e1, _, _, e4, e5⟩ := h3' j q hq
    injection e1 with e1
    subst e1
    exact ⟨ec, e4, fun i u hu => by simpa using e5 i u hu⟩)
  have hnews : ∀ j u, news[j]? = some u → w.cell? (ad.add j) = some u := fun j u hj => by simpa using q2 j u hj
  have hnl := RepRows_len q1
  have hn1 := RepRows_one q1
  have hrl : r.length = xs.length + ys.length := by rw [← hs]; simp; omega
  have hcut := RepRows_cut hr i (by omega)
  have hrows : RepRows w F t r (cs.take (i * t.sz) ++ news ++ cs.drop (i * t.sz)) := by rw [← hs]; exact RepRows_join (RepRows_join hcut.1 q1) hcut.2
  have hfin : Calls P f #[v, .int .i64 i, .slice (some ad) ys.length c] w (InsDone e t.sz w base v (xs.length + ys.length) (cs.take (i * t.sz) ++ news ++ cs.drop (i * t.sz))) := by
    by_cases hin : i = xs.length
    · subst hin
      have hcl : cs.length = xs.length * t.sz := RepRows_len hr
      rw [← hcl, List.take_length, List.drop_length, List.append_nil]
      exact hw.fin w base xs.length ys.length c v ad cs news hb ho c3 hnl hnews hn1 c4
    · rcases ho.2 with ⟨rfl, h0⟩ | ⟨g, cap, cur, rfl, hbg, hh, hnc, hcm, hcsz, htk⟩
      · exfalso
        have h0 : xs.length = 0 := h0
        omega
      · have hone : ∀ v ∈ cur.toList.take (xs.length * t.sz), v.oneCell' = true := fun v hv => RepRows_one hr v (by rw [← htk]; exact hv)
        by_cases hroom : xs.length + ys.length ≤ cap
        · have := hw.room w base g cap xs.length i ys.length c ad cur news hbg hh hcsz hone (by omega) c3 hroom hcm (fun e => hF g rfl (by rw [← e]; exact hFa)) hnl hnews hn1
          rw [htk] at this
          exact this
        · have := hw.grow w base g cap xs.length i ys.length c ad cur news hb hh hcsz hone (by omega) c3 hnc (by omega) c4 hnl hnews hla hn1
          rw [htk] at this
          exact this
  refine hfin.mono ?_
  rintro en w' ⟨v', rfl, hg, hown, hbl⟩
  refine ⟨v', _, rfl, hg, by rw [hrl]; exact hown, RepRows_imp (fun _ _ hc => RepC_move (agree_grown hg hF) hc) hrows, hbl⟩
theorem insert_ok {f : FuncId} (hen : Enters P f) {e : TypeId} {t : Ty} {by_ : Nat} (hby : 1 ≤ by_) (hw : InsWalk P f e t.sz by_) : SoundR P f (insertR e t by_) := by
  refine ⟨hen, fun w base F xs v cs y vs r hb ho hr hF hv hs => ?_⟩
  obtain ⟨u, vs1, rfl, h1, u', vs2, rfl, h2, h3⟩ := hv
  obtain rfl : vs2 = [] := h3
  obtain rfl : u = .int .i64 y.1 := by have h : [u] = [Value.int .i64 y.1] := h1; injection h
  obtain ⟨A, c, h1', h2', h3'⟩ := (show RepC w F (.sl t) y.2.1 [u'] from h2)
  injection h1' with h1'
  subst h1'
  exact insert_core hby hw hb ho hr hF h3' hs
end
end Go.Vx

end
section
set_option linter.unusedVariables false
set_option linter.unusedSimpArgs false
namespace Go.Vx
open Go Go.Proofs Go.Shelf Go.RowKit Go.Lib
theorem cmp_lt : ∀ (a b : List UInt8), Lib.compareBytes a b < 0 ↔ a < b
  | [], [] => by simp [Lib.compareBytes]
  | [], b :: ys => by simp [Lib.compareBytes]
  | a :: xs, [] => by simp [Lib.compareBytes]
  | a :: xs, b :: ys => by
    rw [List.cons_lt_cons_iff, ← cmp_lt xs ys]
    have e : Lib.compareBytes (a :: xs) (b :: ys) = if a < b then -1 else if b < a then 1 else Lib.compareBytes xs ys := rfl
    rw [e]
    by_cases h : a < b
    · simp [h]
    · by_cases h' : b < a
      · have hne : a ≠ b := fun e => by subst e; exact h h'
        simp [h, h', hne]
      · have heq : a = b := by
          apply UInt8.toNat_inj.1
          have h1 : ¬ a.toNat < b.toNat := h
          have h2 : ¬ b.toNat < a.toNat := h'
          omega
        simp [h, h', heq]
theorem cmp_eq0 : ∀ (a b : List UInt8), Lib.compareBytes a b = 0 ↔ a = b
  | [], [] => by simp [Lib.compareBytes]
  | [], b :: ys => by simp [Lib.compareBytes]
  | a :: xs, [] => by simp [Lib.compareBytes]
  | a :: xs, b :: ys => by
    rw [List.cons.injEq, ← cmp_eq0 xs ys]
    have e : Lib.compareBytes (a :: xs) (b :: ys) = if a < b then -1 else if b < a then 1 else Lib.compareBytes xs ys := rfl
    rw [e]
    by_cases h : a < b
    · have hne : a ≠ b := fun e => by subst e; exact absurd h (by have : ¬ a.toNat < a.toNat := by omega
                                                                  exact this)
      simp [h, hne]
    · by_cases h' : b < a
      · have hne : a ≠ b := fun e => by subst e; exact h h'
        simp [h, h', hne]
      · have heq : a = b := by
          apply UInt8.toNat_inj.1
          have h1 : ¬ a.toNat < b.toNat := h
          have h2 : ¬ b.toNat < a.toNat := h'
          omega
        simp [h, h', heq]
def cmpBy {α : Type} (key : α → ByteArray) (x y : α) : Int := Lib.compareBytes (key x).data.toList (key y).data.toList
theorem swo_by {α : Type} (key : α → ByteArray) : Sort.SWO (ltOf (cmpBy key)) where
  irrefl x := by simp only [ltOf, cmpBy, cmp_lt, List.lt_irrefl, decide_false]
  trans x y z h1 h2 := by
    simp only [ltOf, cmpBy, cmp_lt, decide_eq_true_eq] at *
    exact List.lt_trans h1 h2
  ntrans x y z h1 h2 := by
    simp only [ltOf, cmpBy, cmp_lt, decide_eq_false_iff_not, List.not_lt] at *
    exact List.le_trans h2 h1
end Go.Vx

end
section
set_option linter.unusedVariables false
set_option linter.unusedSimpArgs false
namespace Go.Vx
open Go Go.Proofs Go.RowKit Go.Lib
theorem Tryz.i122 : (Tryz.prog.info? 122).map (fun i => (i.zero, i.size, i.bytes)) = some (some (.agg #[.string ⟨#[]⟩, .int .i64 0]), 2, 24) := by kernel_rfl
set_option maxHeartbeats 4000000 in
set_option maxRecDepth 1000000 in
theorem walkDelete (w : World) (g cap n i j : Nat) (cur : Array Value) (hh : w.heap[g]? = some (.cells cur 122 (0,0))) (hcur : cur.size = cap*2) (hone : ∀ v ∈ cur.toList.take (n * 2), v.oneCell' = true) (hn : n ≤ cap) (hm : cap ≤ 9223372036854775807) (hij : i < j) (hj : j ≤ n) :
    Calls Tryz.prog 226 #[.slice (some ⟨g,0,none⟩) n cap, .int .i64 i, .int .i64 j] w fun e w' => e = .returned (.slice (some ⟨g,0,none⟩) (n-(j-i)) cap) ∧ 
      ∃ q cur', w' = (w.drewN q).setRow g cur' ∧ cur'.size = cap*2 ∧ cur'.toList.take ((n-(j-i))*2) = cur.toList.take (i*2) ++ (cur.toList.drop (j*2)).take ((n-j)*2) := by
  have hic : i ≤ cap := by omega
  have hjc : j ≤ cap := by omega
  have hne : ¬ ((i : Int) = (j : Int)) := by omega
  obtain ⟨i0, hi0, hz0, hz1, hz2⟩ := info_parts Tryz.i122
  obtain ⟨news, hnews⟩ : ∃ news, news = (cur.toList.drop (j*2)).take ((n-j)*2) := ⟨_, rfl⟩
  have hlen : news.length = (n - j) * 2 := by rw [hnews, List.length_take, List.length_drop, Array.length_toList]; omega
  obtain ⟨A, hA, hsrc⟩ : ∃ A : Addr, (if cap = j then (some ⟨g, 0, none⟩ : Option Addr) else some ⟨g, j * 2, none⟩) = some A ∧ (∀ t u, news[t]? = some u → w.drew.cell? (A.add t) = some u) := by
    by_cases h : cap = j
    · refine ⟨_, by rw [if_pos h], fun t u hu => ?_⟩
      have : news.length = 0 := by rw [hlen]; omega
      rw [List.length_eq_zero_iff.1 this] at hu
      simp at hu
    · refine ⟨_, by rw [if_neg h], fun t u hu => ?_⟩
      rw [Addr.add_lit, show w.drew.cell? ⟨g, j * 2 + t, none⟩ = w.cell? ⟨g, j * 2 + t, none⟩ from rfl, cell_in hh]
      rw [hnews, List.getElem?_take] at hu
      split at hu
      · rw [List.getElem?_drop] at hu
        simpa using hu
      · cases hu
  have hone' : ∀ u ∈ news, u.oneCell' = true := fun u hu => hone u (by rw [hnews, List.take_drop, show j * 2 + (n - j) * 2 = n * 2 by omega] at hu; exact List.mem_of_mem_drop hu)
  obtain ⟨cur1, hcur1⟩ : ∃ cur1, cur1 = (cur.toList.take (i * 2) ++ news ++ cur.toList.drop (i * 2 + news.length)).toArray := ⟨_, rfl⟩
  have happ : ∀ ty, (Builtin.append_ #[56, 56] ty #[.slice (some ⟨g,0,none⟩) i cap, .slice (some A) (n - j) (cap - j)]).run Tryz.prog w.drew = .ok (.slice (some ⟨g,0,none⟩) (i + (n - j)) cap) (w.drew.setRow g cur1) := fun ty => by
    have := run_append_room w.drew 56 ty 122 i0 Tryz.underlying56 hi0 g i cap cur hh A (n - j) (cap - j) news (by rw [hz1]; exact hlen) hsrc hone' (by omega) (by rw [hz1, hlen]; omega)
    rw [this, hz1, hcur1]
  have hs1 : cur1.size = cap * 2 := by rw [hcur1]; simp [hlen]; omega
  obtain ⟨W1, hW1⟩ : ∃ W1, W1 = w.drew.setRow g cur1 := ⟨_, rfl⟩
  have hh1 : W1.heap[g]? = some (.cells cur1 122 (0,0)) := by rw [hW1]; exact setRow_heap w.drew g cur _ _ _ hh
  rw [← hW1] at happ
  have hs2 : cur1.toList.take (i*2) = cur.toList.take (i*2) := by
    rw [hcur1]; simp only [List.append_assoc]; rw [List.take_append_of_le_length (by simp; omega), List.take_take, Nat.min_self]
  have hs3 : cur1.toList.take ((n-(j-i))*2) = cur.toList.take (i*2) ++ (cur.toList.drop (j*2)).take ((n-j)*2) := by
    rw [hcur1, ← hnews]
    apply List.take_left'
    simp [hlen]; omega
  obtain ⟨cur2, hcur2⟩ : ∃ cur2, cur2 = (cur1.toList.take ((i + (n - j)) * 2) ++ (Builtin.zeroCells #[.string ⟨#[]⟩, .int .i64 0] (n - (i + (n - j)))).toList ++ cur1.toList.drop ((i + (n - j)) * 2 + (Builtin.zeroCells #[.string ⟨#[]⟩, .int .i64 0] (n - (i + (n - j)))).size)).toArray := ⟨_, rfl⟩
  have hz : ∀ m, (Builtin.zeroCells #[.string ⟨#[]⟩, .int .i64 0] m).size = m * 2 := fun m => by simp [Builtin.zeroCells]
  have hs4 : cur2.size = cap * 2 := by rw [hcur2]; simp [hz]; omega
  have hs5 : cur2.toList.take ((n-(j-i))*2) = cur1.toList.take ((n-(j-i))*2) := by
    rw [hcur2, show n - (j - i) = i + (n - j) by omega]
    simp only [List.append_assoc]
    rw [List.take_append_of_le_length (by simp; omega), List.take_take, Nat.min_self]
  have hcl : ∀ ty, (Builtin.clear_ #[56] ty #[.slice (some ⟨g, (i + (n - j)) * 2, none⟩) (n - (i + (n - j))) (cap - (i + (n - j)))]).run Tryz.prog W1 = .ok (.tuple #[]) (W1.setRow g cur2) := by
    intro ty
    rw [hcur2]
    refine run_clear_row (z := .agg #[.string ⟨#[]⟩, .int .i64 0]) Tryz.underlying56 Tryz.zeroValue122 ?_ (by omega) hh1 ?_
    · intro v hv
      have hv' : v = .string ⟨#[]⟩ ∨ v = .int .i64 0 := by
        simp [Builtin.zeroCells, Value.cells] at hv
        obtain ⟨a, _, rfl⟩ := hv
        rcases Nat.mod_two_eq_zero_or_one a with h | h <;> simp [h]
      rcases hv' with rfl | rfl <;> rfl
    · simp [Builtin.zeroCells, Value.cells]; omega
  have happ' : Aside (∀ ty, (Builtin.append_ #[56, 56] ty #[.slice (some ⟨g,0,none⟩) i cap, .slice (some A) (n - j) (cap - j)]).run Tryz.prog w.drew = .ok (.slice (some ⟨g,0,none⟩) (i + (n - j)) cap) W1) := happ
  have X : Aside (W1 = w.drew.setRow g cur1 ∧ cur2.size = cap * 2 ∧ cur2.toList.take ((n-(j-i))*2) = cur.toList.take (i*2) ++ (cur.toList.drop (j*2)).take ((n-j)*2)) := ⟨hW1, hs4, hs5.trans hs3⟩
  clear hW1 hh1 hs1 hs2 hs3 hs4 hs5 hcur2 hz happ hcur1 hnews hlen hsrc hone' hone hcur hh
  go_enter Tryz.func226, Tryz.ntmps226
  have mixed : Tryz.prog.follows .mixedOrders = true := by kernel_rfl
  go_wp2
  go_region_law_o (refine step_append_row rfl (.tmp 22) (.tmp 25) 56 56 rfl (.slice (some ⟨g,0,none⟩) i cap) (.slice (some A) (n - j) (cap - j)) (by simp [Act.eval, Act.put]) (by simp [Act.eval, Act.put]) (happ'.out _) ?_)
  go_wp2
  go_ret
  obtain ⟨h1, h2, h3⟩ := X.out
  refine ⟨by rw [show n - (j - i) = i + (n - j) by omega]; rfl, 1, cur2, ?_, h2, h3⟩
  rw [h1, setRow_setRow]
  rfl
theorem Tryz.s122 : ∀ w, (Go.sizeOf 122).run Tryz.prog w = .ok 2 w := fun w => by
  obtain ⟨i0, hi0, hz0, hz1, hz2⟩ := info_parts Tryz.i122
  simp [Go.sizeOf, typeInfo, hi0, hz1]
set_option maxHeartbeats 4000000 in
set_option maxRecDepth 1000000 in
theorem walkInsertEnd (w : World) (base n m vc : Nat) (v : Value) (ad : Addr) (cs news : List Value) (hbase : base ≤ w.heap.size) (hown : w.ownsRow base 122 2 v n cs) (hm : 0 < m)
    (hl : news.length = m * 2) (hnews : ∀ j u, news[j]? = some u → w.cell? (ad.add j) = some u) (h1 : ∀ u ∈ news, u.oneCell' = true) (hbytes : (n + m) * 24 ≤ 140737488355328) :
    Calls Tryz.prog 227 #[v, .int .i64 n, .slice (some ad) m vc] w (InsDone 122 2 w base v (n + m) (cs ++ news)) := by
  obtain ⟨i0, hi0, hz0, hz1, hz2⟩ := info_parts Tryz.i122
  have hz : ¬ ((m : Int) = 0) := by omega
  have hap : ∀ ty, ∃ v' w', (Builtin.append_ #[56, 56] ty #[v, .slice (some ad) m vc]).run Tryz.prog w = .ok v' w' ∧ w'.ownsRow base 122 2 v' (n + m) (cs ++ news) ∧ w.grownBy w' v.ownBlock ∧ (v' = .slice none 0 0 ↔ v = .slice none 0 0 ∧ m = 0) ∧ (v'.ownBlock = v.ownBlock ∨ v'.ownBlock = some w.heap.size) :=
    fun ty => run_append_own_at (P := Tryz.prog) w base 56 ty 122 i0 _ 2 24 Tryz.underlying56 hi0 hz0 hz1 hz2 rfl (by decide) v n cs hown ad m vc news hl hnews h1 (by unfold maxLen; omega) hbytes hbase
  obtain ⟨v', w', h1, h2, h3, h4, h5⟩ := hap 56
  have hbv := blk_own hown
  have hbv' := blk_own h2
  have hvn : (v = .slice none 0 0 ∧ n = 0) ∨ ∃ g cap, v = .slice (some ⟨g, 0, none⟩) n cap ∧ n ≤ cap := by
    rcases hown.2 with h | ⟨g, cap, cur, hv, _, _, hn, _⟩
    · exact .inl h
    · exact .inr ⟨g, cap, hv, hn⟩
  have X : Aside (InsDone 122 2 w base v (n + m) (cs ++ news) (.returned v') w') := ⟨v', rfl, by rw [hbv]; exact h3, h2, by
    rw [hbv, hbv']
    rcases h5 with h5 | h5
    · exact .inl h5
    · exact .inr fun k hk => by rw [h5] at hk; injection hk with hk; omega⟩
  clear h2 h3 h4 h5 hap hown hnews hbv hbv'
  have mixed : Tryz.prog.follows .mixedOrders = true := by kernel_rfl
  rcases hvn with ⟨rfl, rfl⟩ | ⟨g, cap, rfl, hn⟩
  · go_enter Tryz.func227, Tryz.ntmps227
    go_wp2_with (at_builtin; refine Lib.wpList_append_run _ rfl _ _ _ _ rfl _ _ rfl rfl _ _ h1 ?_)
    all_goals (go_ret; exact X.out)
  · go_enter Tryz.func227, Tryz.ntmps227
    go_wp2_with (at_builtin; refine Lib.wpList_append_run _ rfl _ _ _ _ rfl _ _ rfl rfl _ _ h1 ?_)
    all_goals (go_ret; exact X.out)

set_option maxHeartbeats 4000000 in
set_option maxRecDepth 1000000 in
theorem walkInsertRoom (w : World) (base g cap n i m vc : Nat) (ad : Addr) (cur : Array Value) (news : List Value) (hbg : base ≤ g) (hh : w.heap[g]? = some (.cells cur 122 (0,0))) (hcur : cur.size = cap*2) (hone : ∀ v ∈ cur.toList.take (n * 2), v.oneCell' = true)
    (hi : i < n) (hm : 0 < m) (hroom : n + m ≤ cap) (hcap : cap ≤ maxLen) (hne : ad.block ≠ g)
    (hl : news.length = m * 2) (hnews : ∀ j u, news[j]? = some u → w.cell? (ad.add j) = some u) (h1 : ∀ u ∈ news, u.oneCell' = true) :
    Calls Tryz.prog 227 #[.slice (some ⟨g, 0, none⟩) n cap, .int .i64 i, .slice (some ad) m vc] w (InsDone 122 2 w base (.slice (some ⟨g, 0, none⟩) n cap) (n + m) ((cur.toList.take (n * 2)).take (i * 2) ++ news ++ (cur.toList.take (n * 2)).drop (i * 2))) := by
  obtain ⟨i0, hi0, hz0, hz1, hz2⟩ := info_parts Tryz.i122
  have hz : ¬ ((m : Int) = 0) := by omega
  have hm63 : cap ≤ 9223372036854775807 := by simpa [maxLen] using hcap
  have hz2' : ¬ ((i : Int) = (n : Int)) := by omega
  have hz3 : ¬ ((cap : Int) < (n : Int) + (m : Int)) := by omega
  have hw1 : IntKind.i64.wrap ((i : Int) + (m : Int)) = (i : Int) + (m : Int) := by rw [IntKind.wrap_i64]; omega
  have hw2 : IntKind.i64.wrap ((n : Int) + (m : Int)) = (n : Int) + (m : Int) := by rw [IntKind.wrap_i64]; omega
  have hb1 : (0 : Int) ≤ (i : Int) + (m : Int) := by omega
  have hb1' : (0 : Int) ≤ (n : Int) + (m : Int) := by omega
  have htn : ((i : Int) + (m : Int)).toNat = i + m := by omega
  have htn' : ((n : Int) + (m : Int)).toNat = n + m := by omega
  have hb2 : ¬ (cap = i + m) := by omega
  have hb3 : (i : Int) ≤ (n : Int) + (m : Int) := by omega
  have hb4 : ¬ (cap = i) := by omega
  have hin : i ≤ n := by omega
  have hov : ∀ (W : World), W.heap = w.heap → ∀ lb cb, (callFunc 233 #[.slice (some ad) m vc, .slice (some ⟨g, (i + m) * 2, none⟩) lb cb]).run Tryz.prog W = .ok (.value (.bool false)) W := fun W hW lb cb => by
    obtain ⟨u, hu⟩ : ∃ u, news[0]? = some u := ⟨news[0]'(by omega), List.getElem?_eq_getElem (by omega)⟩
    have hc := hnews 0 u hu
    have hc' : W.cell? ad = some u := by
      have e : (ad.add 0) = ad := by unfold Addr.add; split <;> rename_i h <;> first | rfl | exact absurd rfl h
      rw [e] at hc
      rw [← hc]
      unfold World.cell?
      rw [hW]
    rw [run_callFunc_extern Tryz.func233 (by kernel_rfl) (by kernel_rfl) (by kernel_rfl) (e := Extern.SlicesOverlaps.overlaps #[56, 56] #[4]) (by kernel_rfl),
      run_overlaps_row (size := 2) Tryz.underlying56 Tryz.s122 (b := ⟨g, (i + m) * 2, none⟩) hne hc' (by rw [hW]; exact hh) (by omega)]
    rfl
  obtain ⟨mid, hmid⟩ : ∃ mid, mid = (cur.toList.take (n * 2)).drop (i * 2) := ⟨_, rfl⟩
  have hml : mid.length = (n - i) * 2 := by rw [hmid]; simp; omega
  obtain ⟨c1, hc1⟩ : ∃ c1, c1 = (cur.toList.take ((i + m) * 2) ++ mid ++ cur.toList.drop ((i + m) * 2 + mid.length)).toArray := ⟨_, rfl⟩
  have hc1s : c1.size = cap * 2 := by rw [hc1]; simp [hml]; omega
  obtain ⟨W1, hW1⟩ : ∃ W1, W1 = w.drew.setRow g c1 := ⟨_, rfl⟩
  have hmin1 : min (n + m - i) (n + m - (i + m)) = n - i := by omega
  have hcp1 : ∀ ty dc sc, (Builtin.copy_ #[56, 56] ty #[.slice (some ⟨g, (i + m) * 2, none⟩) (n + m - (i + m)) dc, .slice (some ⟨g, i * 2, none⟩) (n + m - i) sc]).run Tryz.prog w.drew = .ok (goInt (n - i : Nat)) W1 := fun ty dc sc => by
    have := run_copy_rowK (P := Tryz.prog) (w := w.drew) (dT := 56) (sT := 56) (ty := ty) (k := 2) (g := g) (o := (i + m) * 2) (dLen := n + m - (i + m)) (dCap := dc) (a := ⟨g, i * 2, none⟩) (sLen := n + m - i) (sCap := sc) (cur := cur) (cs := mid) Tryz.underlying56 hi0 hz1 hh (by rw [hml]; omega)
      (fun j v hj => by
        have hlt : j < mid.length := (List.getElem?_eq_some_iff.1 hj).1
        rw [Addr.add_lit, show w.drew.cell? ⟨g, i * 2 + j, none⟩ = w.cell? ⟨g, i * 2 + j, none⟩ from rfl, cell_in hh]
        rw [hmid, List.getElem?_drop, List.getElem?_take] at hj
        split at hj
        · simpa using hj
        · cases hj) (by rw [hml]; omega) (fun v hv => hone v (by rw [hmid] at hv; exact List.mem_of_mem_drop hv))
    rw [this, hW1, hc1, hmin1]
  have hh1 : W1.heap[g]? = some (.cells c1 122 (0,0)) := by rw [hW1]; exact setRow_heap w.drew g cur _ _ _ hh
  obtain ⟨c2, hc2⟩ : ∃ c2, c2 = (c1.toList.take (i * 2) ++ news ++ c1.toList.drop (i * 2 + news.length)).toArray := ⟨_, rfl⟩
  have hc2s : c2.size = cap * 2 := by rw [hc2]; simp [hl]; omega
  obtain ⟨W2, hW2⟩ : ∃ W2, W2 = W1.setRow g c2 := ⟨_, rfl⟩
  have hmin2 : min m (n + m - i) = m := by omega
  have hcp2 : ∀ ty dc, (Builtin.copy_ #[56, 56] ty #[.slice (some ⟨g, i * 2, none⟩) (n + m - i) dc, .slice (some ad) m vc]).run Tryz.prog W1 = .ok (goInt (m : Nat)) W2 := fun ty dc => by
    have := run_copy_rowK (P := Tryz.prog) (w := W1) (dT := 56) (sT := 56) (ty := ty) (k := 2) (g := g) (o := i * 2) (dLen := n + m - i) (dCap := dc) (a := ad) (sLen := m) (sCap := vc) (cur := c1) (cs := news) Tryz.underlying56 hi0 hz1 hh1 (by rw [hl]; omega)
      (fun j v hj => by
        rw [← hnews j v hj, hW1]
        have hb : (ad.add j).block = ad.block := add_block ad j
        unfold World.cell?
        rw [setRow_other w.drew g _ _ (by rw [hb]; exact hne)]
        rfl) (by rw [hl]; omega) h1
    rw [this, hW2, hc2, hmin2]
  have X : Aside (InsDone 122 2 w base (.slice (some ⟨g, 0, none⟩) n cap) (n + m) ((cur.toList.take (n * 2)).take (i * 2) ++ news ++ (cur.toList.take (n * 2)).drop (i * 2)) (.returned (.slice (some ⟨g, 0, none⟩) (n + m) cap)) W2) := by
    refine ⟨_, rfl, ⟨?_, ?_, ?_, ?_, ?_⟩, ⟨?_, .inr ⟨g, cap, c2, rfl, hbg, ?_, hroom, hcap, hc2s, ?_⟩⟩, .inl rfl⟩
    · rw [hW2, hW1]; rfl
    · rw [hW2, hW1]; rfl
    · rw [hW2, hW1]; rfl
    · rw [hW2, hW1]; simp [World.setRow]
    · intro k hk hkn
      rw [hW2, hW1, setRow_setRow]
      exact setRow_other w.drew g k _ (fun e => hkn (by rw [e]; rfl))
    · rw [← hmid]; simp [hl, hml]; omega
    · rw [hW2]; exact setRow_heap W1 g c1 _ _ _ hh1
    · rw [← hmid, hc2, hc1]
      have hA : (cur.toList.take ((i + m) * 2)).length = (i + m) * 2 := by simp; omega
      have e1 : (cur.toList.take ((i + m) * 2) ++ mid ++ cur.toList.drop ((i + m) * 2 + mid.length)).take (i * 2) = cur.toList.take (i * 2) := by
        rw [List.append_assoc, List.take_append_of_le_length (by rw [hA]; omega), List.take_take, Nat.min_eq_left (by omega)]
      have e2 : (cur.toList.take ((i + m) * 2) ++ mid ++ cur.toList.drop ((i + m) * 2 + mid.length)).drop (i * 2 + news.length) = mid ++ cur.toList.drop ((i + m) * 2 + mid.length) := by
        rw [List.append_assoc]
        exact List.drop_left' (by rw [hA, hl]; omega)
      simp only [List.toList_toArray, e1, e2, List.take_take]
      rw [Nat.min_eq_left (by omega), ← List.append_assoc]
      exact List.take_left' (by simp [hl, hml]; omega)
  have mixed : Tryz.prog.follows .mixedOrders = true := by kernel_rfl
  have hov1 := hov w rfl
  clear hW1 hW2 hc1 hc2 hmid hh hh1 hnews hone h1 hov hc1s hc2s hml hl
  go_enter Tryz.func227, Tryz.ntmps227
  go_wp2_with (simp only [hov1])
  go_region_law_o (refine step_copy_row rfl _ _ 56 56 rfl _ _ (by simp [Act.eval, Act.put]) (by simp [Act.eval, Act.put]) (hcp1 _ _ _) ?_)
  go_wp2_with (at_builtin; refine wpList_copy_row rfl _ _ 56 56 rfl _ _ rfl rfl (hcp2 _ _) ?_)
  go_ret
  exact X.out

set_option maxHeartbeats 4000000 in
set_option maxRecDepth 1000000 in
theorem walkInsertGrow (w : World) (base g cap n i m vc : Nat) (ad : Addr) (cur : Array Value) (news : List Value) (hbase : base ≤ w.heap.size) (hh : w.heap[g]? = some (.cells cur 122 (0,0))) (hcur : cur.size = cap*2) (hone : ∀ v ∈ cur.toList.take (n * 2), v.oneCell' = true)
    (hi : i < n) (hm : 0 < m) (hn : n ≤ cap) (hroom : cap < n + m) (hbytes : (n + m) * 24 ≤ 140737488355328)
    (hl : news.length = m * 2) (hnews : ∀ j u, news[j]? = some u → w.cell? (ad.add j) = some u) (hadl : ad.block < w.heap.size) (h1 : ∀ u ∈ news, u.oneCell' = true) :
    Calls Tryz.prog 227 #[.slice (some ⟨g, 0, none⟩) n cap, .int .i64 i, .slice (some ad) m vc] w (InsDone 122 2 w base (.slice (some ⟨g, 0, none⟩) n cap) (n + m) ((cur.toList.take (n * 2)).take (i * 2) ++ news ++ (cur.toList.take (n * 2)).drop (i * 2))) := by
  obtain ⟨i0, hi0, hz0, hz1, hz2⟩ := info_parts Tryz.i122
  have hgl : g < w.heap.size := (Array.getElem?_eq_some_iff.1 hh).1
  have hz : ¬ ((m : Int) = 0) := by omega
  have hz2' : ¬ ((i : Int) = (n : Int)) := by omega
  have hz3 : (cap : Int) < (n : Int) + (m : Int) := by omega
  have hw1 : IntKind.i64.wrap ((i : Int) + (m : Int)) = (i : Int) + (m : Int) := by rw [IntKind.wrap_i64]; omega
  have hw2 : IntKind.i64.wrap ((n : Int) + (m : Int)) = (n : Int) + (m : Int) := by rw [IntKind.wrap_i64]; omega
  have hw3 : IntKind.i64.wrap ((n : Int) + (m : Int) - (i : Int)) = ((n + m - i : Nat) : Int) := by rw [IntKind.wrap_i64]; omega
  have hb1 : (0 : Int) ≤ (i : Int) + (m : Int) := by omega
  have hin : i ≤ n := by omega
  have htn : ((i : Int) + (m : Int)).toNat = i + m := by omega
  have hb3 : (i : Int) ≤ (n : Int) := by omega
  obtain ⟨G, hG⟩ : ∃ G, G = grownCap w (n + m) cap 122 := ⟨_, rfl⟩
  have hik : i + (n + m - i) = n + m := by omega
  have hfc : (Builtin.firstCells i0.size i (.slice (some ⟨g, 0, none⟩) i cap)).run Tryz.prog w.drew = .ok (cur.toList.take (i * 2)).toArray w.drew := by
    rw [hz1]
    refine run_firstCells_some w.drew 2 i ⟨g, 0, none⟩ i cap (cur.toList.take (i * 2)) (by rw [List.length_take, Array.length_toList]; omega) (fun j v hj => ?_)
    rw [Addr.add_lit, show w.drew.cell? ⟨g, 0 + j, none⟩ = w.cell? ⟨g, 0 + j, none⟩ from rfl, cell_in hh]
    rw [List.getElem?_take] at hj
    split at hj
    · simpa using hj
    · cases hj
  obtain ⟨ROW, hROW⟩ : ∃ ROW : Array Value, ROW = (cur.toList.take (i * 2)).toArray ++ Builtin.zeroCells #[.string ⟨#[]⟩, .int .i64 0] (n + m - i) ++ Builtin.zeroCells #[.string ⟨#[]⟩, .int .i64 0] (G - (n + m)) := ⟨_, rfl⟩
  obtain ⟨W1, hW1⟩ : ∃ W1, W1 = w.drew.alloc (.cells ROW 122) := ⟨_, rfl⟩
  have hap : ∀ ty, (Builtin.append_ #[56, 3] ty #[.slice (some ⟨g, 0, none⟩) i cap, .int .i64 ((n + m - i : Nat) : Int)]).run Tryz.prog w = .ok (.slice (some ⟨w.heap.size, 0, none⟩) (n + m) G) W1 := fun ty => by
    have h := Lib.run_append_grow_zeros (P := Tryz.prog) w 56 3 ty 122 i0 _ .i64 .i64 Tryz.underlying56 Tryz.underlying3 hi0 hz0 (some ⟨g, 0, none⟩) i cap (cur.toList.take (i * 2)) hfc (n + m - i) (by omega) (by omega) (by omega) (by omega) (by rw [hz2]; omega) (by rw [hz2, hik]; exact growslice_fits hroom hbytes)
    rw [hik] at h
    rw [h, hW1, hROW, hG]
    rfl
  have hzl : ∀ q, (Builtin.zeroCells #[.string ⟨#[]⟩, .int .i64 0] q).size = q * 2 := fun q => by simp [Builtin.zeroCells]
  have hGn : n + m ≤ G := by rw [hG]; exact grownCap_ge w _ _ _
  have hGm : G ≤ maxLen := by rw [hG]; exact grownCap_le_maxLen w (n + m) cap 122 (by unfold maxLen; omega)
  have hG63 : G ≤ 9223372036854775807 := by simpa [maxLen] using hGm
  have hRs : ROW.size = G * 2 := by rw [hROW]; simp [hzl]; omega
  obtain ⟨N, hN⟩ : ∃ N, N = w.heap.size := ⟨_, rfl⟩
  rw [← hN] at hap
  have hh1 : W1.heap[N]? = some (.cells ROW 122 (0,0)) := by rw [hW1, hN]; exact heap_alloc_new w.drew _
  have hold : ∀ (a : Addr), a.block < w.heap.size → W1.cell? a = w.cell? a := fun a ha => by
    rw [hW1]
    exact World.cell?_of_block (w := w.drew) (heap_alloc_old w.drew _ ha)
  obtain ⟨c1, hc1⟩ : ∃ c1, c1 = (ROW.toList.take (i * 2) ++ news ++ ROW.toList.drop (i * 2 + news.length)).toArray := ⟨_, rfl⟩
  have hc1s : c1.size = G * 2 := by rw [hc1]; simp [hl]; omega
  obtain ⟨W2, hW2⟩ : ∃ W2, W2 = W1.setRow N c1 := ⟨_, rfl⟩
  have hmin1 : min m (n + m - i) = m := by omega
  have hcp1 : ∀ ty dc, (Builtin.copy_ #[56, 56] ty #[.slice (some ⟨N, i * 2, none⟩) (n + m - i) dc, .slice (some ad) m vc]).run Tryz.prog W1 = .ok (goInt (m : Nat)) W2 := fun ty dc => by
    have := run_copy_rowK (P := Tryz.prog) (w := W1) (dT := 56) (sT := 56) (ty := ty) (k := 2) (g := N) (o := i * 2) (dLen := n + m - i) (dCap := dc) (a := ad) (sLen := m) (sCap := vc) (cur := ROW) (cs := news) Tryz.underlying56 hi0 hz1 hh1 (by rw [hl]; omega)
      (fun j v hj => by rw [← hnews j v hj]; exact hold _ (by rw [add_block]; exact hadl)) (by rw [hl]; omega) h1
    rw [this, hW2, hc1, hmin1]
  have hh2 : W2.heap[N]? = some (.cells c1 122 (0,0)) := by rw [hW2]; exact setRow_heap W1 N ROW _ _ _ hh1
  obtain ⟨mid, hmid⟩ : ∃ mid, mid = (cur.toList.take (n * 2)).drop (i * 2) := ⟨_, rfl⟩
  have hml : mid.length = (n - i) * 2 := by rw [hmid]; simp; omega
  obtain ⟨c2, hc2⟩ : ∃ c2, c2 = (c1.toList.take ((i + m) * 2) ++ mid ++ c1.toList.drop ((i + m) * 2 + mid.length)).toArray := ⟨_, rfl⟩
  have hc2s : c2.size = G * 2 := by rw [hc2]; simp [hml]; omega
  obtain ⟨W3, hW3⟩ : ∃ W3, W3 = W2.drew.setRow N c2 := ⟨_, rfl⟩
  have hmin2 : min (n - i) (n + m - (i + m)) = n - i := by omega
  have hcp2 : ∀ ty dc sc, (Builtin.copy_ #[56, 56] ty #[.slice (some ⟨N, (i + m) * 2, none⟩) (n + m - (i + m)) dc, .slice (some ⟨g, i * 2, none⟩) (n - i) sc]).run Tryz.prog W2.drew = .ok (goInt (n - i : Nat)) W3 := fun ty dc sc => by
    have := run_copy_rowK (P := Tryz.prog) (w := W2.drew) (dT := 56) (sT := 56) (ty := ty) (k := 2) (g := N) (o := (i + m) * 2) (dLen := n + m - (i + m)) (dCap := dc) (a := ⟨g, i * 2, none⟩) (sLen := n - i) (sCap := sc) (cur := c1) (cs := mid) Tryz.underlying56 hi0 hz1 hh2 (by rw [hml]; omega)
      (fun j v hj => by
        rw [Addr.add_lit, show W2.drew.cell? ⟨g, i * 2 + j, none⟩ = W2.cell? ⟨g, i * 2 + j, none⟩ from rfl, hW2]
        have : (W1.setRow N c1).cell? ⟨g, i * 2 + j, none⟩ = W1.cell? ⟨g, i * 2 + j, none⟩ := by
          unfold World.cell?
          rw [setRow_other W1 N g _ (by omega)]
        rw [this, hold _ hgl, cell_in hh]
        rw [hmid, List.getElem?_drop, List.getElem?_take] at hj
        split at hj
        · simpa using hj
        · cases hj) (by rw [hml]; omega) (fun v hv => hone v (by rw [hmid] at hv; exact List.mem_of_mem_drop hv))
    rw [this, hW3, hc2, hmin2]
  have X : Aside (InsDone 122 2 w base (.slice (some ⟨g, 0, none⟩) n cap) (n + m) ((cur.toList.take (n * 2)).take (i * 2) ++ news ++ (cur.toList.take (n * 2)).drop (i * 2)) (.returned (.slice (some ⟨N, 0, none⟩) (n + m) G)) W3) := by
    refine ⟨_, rfl, ⟨?_, ?_, ?_, ?_, ?_⟩, ⟨?_, .inr ⟨N, G, c2, rfl, by omega, ?_, hGn, hGm, hc2s, ?_⟩⟩, .inr fun k hk => ?_⟩
    · rw [hW3, hW2, hW1]; rfl
    · rw [hW3, hW2, hW1]; rfl
    · rw [hW3, hW2, hW1]; rfl
    · rw [hW3, hW2, hW1]; have e : (w.drew.alloc (.cells ROW 122)).heap.size = w.heap.size + 1 := Array.size_push _
      show w.heap.size ≤ (((w.drew.alloc (.cells ROW 122)).setRow N c1).drew.setRow N c2).heap.size
      simp only [World.setRow, World.drew, Array.size_modify, Array.size_set, Array.size_setIfInBounds] at e ⊢
      omega
    · intro k hk hkn
      rw [hW3, setRow_other W2.drew N k _ (by omega), show W2.drew.heap[k]? = W2.heap[k]? from rfl, hW2, setRow_other W1 N k _ (by omega), hW1]
      exact heap_alloc_old w.drew _ hk
    · rw [← hmid]; simp [hl, hml]; omega
    · rw [hW3]; exact setRow_heap W2.drew N c1 _ _ _ hh2
    · rw [← hmid, hc2, hc1]
      have hA : (ROW.toList.take (i * 2)).length = i * 2 := by simp; omega
      have e1 : (ROW.toList.take (i * 2) ++ news ++ ROW.toList.drop (i * 2 + news.length)).take ((i + m) * 2) = ROW.toList.take (i * 2) ++ news := List.take_left' (by simp [hl]; omega)
      have e3 : ROW.toList.take (i * 2) = cur.toList.take (i * 2) := by
        rw [hROW]
        rw [Array.toList_append, Array.toList_append, List.append_assoc]
        exact List.take_left' (by rw [List.length_take, Array.length_toList]; omega)
      rw [List.take_take, Nat.min_eq_left (by omega)]
      show List.take _ ((List.take ((i + m) * 2) (ROW.toList.take (i * 2) ++ news ++ ROW.toList.drop (i * 2 + news.length))) ++ mid ++ _) = _
      rw [e1, e3]
      exact List.take_left' (by simp [hl, hml]; omega)
    · have hk' : some N = some k := hk
      injection hk' with hk'
      omega
  have hGi : ¬ (G = i) := by omega
  have hGim : ¬ (G = i + m) := by omega
  have hci : ¬ (cap = i) := by omega
  have mixed : Tryz.prog.follows .mixedOrders = true := by kernel_rfl
  clear hW1 hW2 hW3 hc1 hc2 hmid hh hh1 hh2 hnews hone h1 hc1s hc2s hml hl hold hROW hRs hzl hfc hG hN hadl hgl hGm hbytes
  go_enter Tryz.func227, Tryz.ntmps227
  go_wp2_with (first
    | (at_builtin; refine Lib.wpList_append_run _ rfl _ _ _ _ rfl _ _ rfl rfl _ _ (hap _) ?_)
    | (at_builtin; refine wpList_copy_row rfl _ _ 56 56 rfl _ _ rfl rfl (hcp1 _ _) ?_))
  go_region_law_o (refine step_copy_row rfl _ _ 56 56 rfl _ _ (by simp [Act.eval, Act.put]) (by simp [Act.eval, Act.put]) (hcp2 _ _ _) ?_)
  go_wp2
  go_ret
  exact X.out

theorem Tryz.delWalk : DelWalk Tryz.prog 226 122 2 := fun w g cap n i j cur h1 h2 h3 h4 h5 h6 h7 => walkDelete w g cap n i j cur h1 h2 h3 h4 h5 h6 h7
theorem Tryz.insWalk : InsWalk Tryz.prog 227 122 2 24 where
  fin := walkInsertEnd
  room := walkInsertRoom
  grow := walkInsertGrow
end Go.Vx

end
section
namespace Go.Proofs
open Go.Shelf
def Tryz.lays106_ren : Go.Shelf.Ren := ⟨fun | 106 => 232 | 213 => 237 | 265 => 241 | n => n, fun | 9 => 9 | 3 => 3 | n => n, fun | n => n⟩
theorem Tryz.lays106 : Go.Proofs.Lays.n106 Tryz.prog Tryz.lays106_ren := {
  mixed := by kernel_rfl
  f106 := Tryz.func232.trans (congrArg some (by kernel_rfl))
  f213 := Tryz.func237.trans (congrArg some (by kernel_rfl))
  f265 := Tryz.func241.trans (congrArg some (by kernel_rfl))
  t3 := Tryz.underlying3
  a3 := Tryz.isAgg3
  z3 := Tryz.sizeOf3
  v3 := Tryz.zeroValue3
  t9 := Tryz.underlying9
  a9 := Tryz.isAgg9
  z9 := Tryz.sizeOf9
  v9 := Tryz.zeroValue9 }
def Tryz.lays186_ren : Go.Shelf.Ren := ⟨fun | 41 => 196 | n => n, fun | 22 => 66 | 23 => 168 | 4 => 4 | n => n, fun | n => n⟩
theorem Tryz.lays186 : Go.Proofs.SlLaysE0.n41 Tryz.prog Tryz.lays186_ren := {
  mixed := by kernel_rfl
  f41 := ⟨Tryz.f196.name, by decide, Tryz.func196.trans (congrArg some (by kernel_rfl))⟩
  t4 := Tryz.underlying4
  a4 := Tryz.isAgg4
  z4 := Tryz.sizeOf4
  v4 := Tryz.zeroValue4
  t22 := Tryz.underlying66
  a22 := Tryz.isAgg66
  z22 := Tryz.sizeOf66
  v22 := Tryz.zeroValue66 }
def Tryz.lays214_ren : Go.Shelf.Ren := ⟨fun | 41 => 224 | n => n, fun | 22 => 56 | 23 => 122 | 4 => 4 | n => n, fun | n => n⟩
theorem Tryz.lays214 : Go.Proofs.SlLaysE0.n41 Tryz.prog Tryz.lays214_ren := {
  mixed := by kernel_rfl
  f41 := ⟨Tryz.f224.name, by decide, Tryz.func224.trans (congrArg some (by kernel_rfl))⟩
  t4 := Tryz.underlying4
  a4 := Tryz.isAgg4
  z4 := Tryz.sizeOf4
  v4 := Tryz.zeroValue4
  t22 := Tryz.underlying56
  a22 := Tryz.isAgg56
  z22 := Tryz.sizeOf56
  v22 := Tryz.zeroValue56 }
def Tryz.lays225_ren : Go.Shelf.Ren := ⟨fun | 6 => 235 | 15 => 240 | 14 => 239 | 28 => 251 | 29 => 252 | 20 => 243 | 21 => 244 | 22 => 245 | 23 => 246 | 24 => 247 | 25 => 248 | 26 => 249 | 27 => 250 | 46 => 253 | 47 => 254 | 48 => 255 | 49 => 256 | 50 => 257 | 57 => 258 | n => n, fun | 22 => 66 | 24 => 168 | 25 => 250 | 3 => 3 | 39 => 251 | 0 => 0 | 53 => 263 | 55 => 265 | 4 => 4 | 46 => 257 | 45 => 256 | 50 => 239 | 5 => 5 | 9 => 9 | 66 => 266 | 70 => 270 | 76 => 272 | 77 => 273 | n => n, fun | n => n⟩
theorem Tryz.lays225 : Go.Proofs.SlLaysF0.n6 Tryz.prog Tryz.lays225_ren := {
  mixed := by kernel_rfl
  f6 := ⟨Tryz.f235.name, by decide, Tryz.func235.trans (congrArg some (by kernel_rfl))⟩
  f14 := ⟨Tryz.f239.name, by decide, Tryz.func239.trans (congrArg some (by kernel_rfl))⟩
  f15 := Tryz.func240.trans (congrArg some (by kernel_rfl))
  f20 := ⟨Tryz.f243.name, by decide, Tryz.func243.trans (congrArg some (by kernel_rfl))⟩
  f21 := ⟨Tryz.f244.name, by decide, Tryz.func244.trans (congrArg some (by kernel_rfl))⟩
  f22 := ⟨Tryz.f245.name, by decide, Tryz.func245.trans (congrArg some (by kernel_rfl))⟩
  f23 := ⟨Tryz.f246.name, by decide, Tryz.func246.trans (congrArg some (by kernel_rfl))⟩
  f24 := ⟨Tryz.f247.name, by decide, Tryz.func247.trans (congrArg some (by kernel_rfl))⟩
  f25 := ⟨Tryz.f248.name, by decide, Tryz.func248.trans (congrArg some (by kernel_rfl))⟩
  f26 := ⟨Tryz.f249.name, by decide, Tryz.func249.trans (congrArg some (by kernel_rfl))⟩
  f27 := ⟨Tryz.f250.name, by decide, Tryz.func250.trans (congrArg some (by kernel_rfl))⟩
  f28 := Tryz.func251.trans (congrArg some (by kernel_rfl))
  f29 := Tryz.func252.trans (congrArg some (by kernel_rfl))
  f46 := ⟨Tryz.f253.name, by decide, Tryz.func253.trans (congrArg some (by kernel_rfl))⟩
  f47 := Tryz.func254.trans (congrArg some (by kernel_rfl))
  f48 := Tryz.func255.trans (congrArg some (by kernel_rfl))
  f49 := ⟨Tryz.f256.name, by decide, Tryz.func256.trans (congrArg some (by kernel_rfl))⟩
  f50 := ⟨Tryz.f257.name, by decide, Tryz.func257.trans (congrArg some (by kernel_rfl))⟩
  f57 := ⟨Tryz.f258.name, by decide, Tryz.func258.trans (congrArg some (by kernel_rfl))⟩
  t0 := Tryz.underlying0
  a0 := Tryz.isAgg0
  z0 := Tryz.sizeOf0
  v0 := Tryz.zeroValue0
  t3 := Tryz.underlying3
  a3 := Tryz.isAgg3
  z3 := Tryz.sizeOf3
  v3 := Tryz.zeroValue3
  t4 := Tryz.underlying4
  a4 := Tryz.isAgg4
  z4 := Tryz.sizeOf4
  v4 := Tryz.zeroValue4
  t5 := Tryz.underlying5
  a5 := Tryz.isAgg5
  z5 := Tryz.sizeOf5
  v5 := Tryz.zeroValue5
  t9 := Tryz.underlying9
  a9 := Tryz.isAgg9
  z9 := Tryz.sizeOf9
  v9 := Tryz.zeroValue9
  t22 := Tryz.underlying66
  a22 := Tryz.isAgg66
  z22 := Tryz.sizeOf66
  v22 := Tryz.zeroValue66
  t25 := Tryz.underlying250
  a25 := Tryz.isAgg250
  z25 := Tryz.sizeOf250
  v25 := Tryz.zeroValue250
  t39 := Tryz.underlying251
  a39 := Tryz.isAgg251
  z39 := Tryz.sizeOf251
  v39 := Tryz.zeroValue251
  t45 := Tryz.underlying256
  a45 := Tryz.isAgg256
  z45 := Tryz.sizeOf256
  v45 := Tryz.zeroValue256
  t46 := Tryz.underlying257
  a46 := Tryz.isAgg257
  z46 := Tryz.sizeOf257
  v46 := Tryz.zeroValue257
  t50 := Tryz.underlying239
  a50 := Tryz.isAgg239
  z50 := Tryz.sizeOf239
  v50 := Tryz.zeroValue239
  t53 := Tryz.underlying263
  a53 := Tryz.isAgg263
  z53 := Tryz.sizeOf263
  v53 := Tryz.zeroValue263
  t55 := Tryz.underlying265
  a55 := Tryz.isAgg265
  z55 := Tryz.sizeOf265
  v55 := Tryz.zeroValue265
  t66 := Tryz.underlying266
  a66 := Tryz.isAgg266
  z66 := Tryz.sizeOf266
  v66 := Tryz.zeroValue266
  t70 := Tryz.underlying270
  a70 := Tryz.isAgg270
  z70 := Tryz.sizeOf270
  v70 := Tryz.zeroValue270
  t76 := Tryz.underlying272
  a76 := Tryz.isAgg272
  z76 := Tryz.sizeOf272
  v76 := Tryz.zeroValue272
  t77 := Tryz.underlying273
  a77 := Tryz.isAgg273
  z77 := Tryz.sizeOf273
  v77 := Tryz.zeroValue273 }
end Go.Proofs

end
