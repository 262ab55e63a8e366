/- Merged out of smaller texts. -/
import Derived.Below
import Derived.Maps.AppendAt
import Derived.WalkKit
import Derived.KernelRfl
import Derived.Laws.StructEq
import Derived.Laws.CopyRow
import Derived.Laws.Cells
import Derived.Laws.Entries
import Derived.Laws.MakeOwn
import Derived.Laws.Tables
import Derived.Great.BuildSlice
import Derived.Laws.Slices
import Derived.Laws.Strings2
import Derived.Laws.Strings3
import Derived.Laws.Small
import Derived.Laws.BytesString
import Derived.Lib.ConvBytes
import Derived.Lib.AtoiErrMem
section
set_option linter.unusedVariables false
set_option linter.unusedSimpArgs false
namespace Go.Vx
open Go Go.RowKit

inductive Ty where
  | int (k : IntKind)
  | bool
  | str
  | sl (t : Ty)
  | unit
  | pair (a b : Ty)
  deriving DecidableEq

@[reducible] def Den : Ty → Type
  | .int _ => Int
  | .bool => Bool
  | .str => ByteArray
  | .sl t => List (Den t)
  | .unit => Unit
  | .pair a b => Den a × Den b

def Ty.sz : Ty → Nat
  | .unit => 0
  | .pair a b => a.sz + b.sz
  | _ => 1

def Ty.many : Ty → Bool
  | .unit => true
  | .pair _ _ => true
  | _ => false

def castD {t t' : Ty} (x : Den t) : Option (Den t') := if h : t = t' then some (h ▸ x) else none

theorem castD_some {t t' : Ty} {x : Den t} {y : Den t'} (h : castD x = some y) : ∃ e : t = t', y = e ▸ x := by
  unfold castD at h
  split at h
  · rename_i e
    exact ⟨e, by injection h with h; exact h.symm⟩
  · cases h

def RepC (w : World) (F : Nat → Prop) : (t : Ty) → Den t → List Value → Prop
  | .int k, n, cs => cs = [.int k n]
  | .bool, b, cs => cs = [.bool b]
  | .str, s, cs => cs = [.string s]
  | .unit, _, cs => cs = []
  | .pair a b, x, cs => ∃ c1 c2, cs = c1 ++ c2 ∧ RepC w F a x.1 c1 ∧ RepC w F b x.2 c2
  | .sl t, xs, cs => ∃ A c, cs = [.slice A xs.length c] ∧ xs.length ≤ c ∧
      ∀ (j : Nat) (x : Den t), xs[j]? = some x → ∃ (ad : Addr) (ec : List Value), A = some ad ∧ F ad.block ∧ ad.block < w.heap.size ∧ RepC w F t x ec ∧
        ∀ (i : Nat) (u : Value), ec[i]? = some u → w.cell? (ad.add (j * t.sz + i)) = some u

theorem RepC_len {w : World} {F : Nat → Prop} : ∀ {t : Ty} {x : Den t} {cs : List Value}, RepC w F t x cs → cs.length = t.sz
  | .int _, _, _, h => by rw [show _ = _ from h]; rfl
  | .bool, _, _, h => by rw [show _ = _ from h]; rfl
  | .str, _, _, h => by rw [show _ = _ from h]; rfl
  | .unit, _, _, h => by rw [show _ = _ from h]; rfl
  | .pair a b, x, _, h => by
    obtain ⟨c1, c2, rfl, h1, h2⟩ := h
    rw [List.length_append, RepC_len h1, RepC_len h2]; rfl
  | .sl t, _, _, h => by
    obtain ⟨A, c, rfl, _⟩ := h
    rfl

theorem RepC_one {w : World} {F : Nat → Prop} : ∀ {t : Ty} {x : Den t} {cs : List Value}, RepC w F t x cs → ∀ u ∈ cs, u.oneCell' = true
  | .int _, _, _, h => by rw [show _ = _ from h]; intro u hu; simp at hu; subst hu; rfl
  | .bool, _, _, h => by rw [show _ = _ from h]; intro u hu; simp at hu; subst hu; rfl
  | .str, _, _, h => by rw [show _ = _ from h]; intro u hu; simp at hu; subst hu; rfl
  | .unit, _, _, h => by rw [show _ = _ from h]; intro u hu; simp at hu
  | .pair a b, x, _, h => by
    obtain ⟨c1, c2, rfl, h1, h2⟩ := h
    intro u hu
    rcases List.mem_append.1 hu with hu | hu
    · exact RepC_one h1 u hu
    · exact RepC_one h2 u hu
  | .sl t, _, _, h => by
    obtain ⟨A, c, rfl, _⟩ := h
    intro u hu; simp at hu; subst hu; rfl

def Agree (F : Nat → Prop) (w w' : World) : Prop := w.heap.size ≤ w'.heap.size ∧ ∀ k, F k → k < w.heap.size → w'.heap[k]? = w.heap[k]?
theorem Agree.refl (F : Nat → Prop) (w : World) : Agree F w w := ⟨Nat.le_refl _, fun _ _ _ => rfl⟩
theorem Agree.trans {F : Nat → Prop} {a b c : World} (h : Agree F a b) (k : Agree F b c) : Agree F a c :=
  ⟨Nat.le_trans h.1 k.1, fun i hi hlt => (k.2 i hi (Nat.lt_of_lt_of_le hlt h.1)).trans (h.2 i hi hlt)⟩
theorem Agree.mono {F F' : Nat → Prop} {a b : World} (h : Agree F a b) (hF : ∀ k, F' k → F k) : Agree F' a b := ⟨h.1, fun i hi hlt => h.2 i (hF i hi) hlt⟩
theorem Agree.below {F : Nat → Prop} {a b : World} (h : Below a.heap.size a b) : Agree F a b := ⟨h.size, fun i _ hlt => h.block i hlt⟩
theorem Agree.cell {F : Nat → Prop} {w w' : World} (h : Agree F w w') {a : Addr} (ha : F a.block) (hlt : a.block < w.heap.size) : w'.cell? a = w.cell? a :=
  World.cell?_of_block (w := w) (h.2 _ ha hlt)

theorem add_block (a : Addr) (n : Nat) : (a.add n).block = a.block := by unfold Addr.add; split <;> rfl

theorem RepC_move {w w' : World} {F : Nat → Prop} (hA : Agree F w w') : ∀ {t : Ty} {x : Den t} {cs : List Value}, RepC w F t x cs → RepC w' F t x cs
  | .int _, _, _, h => h
  | .bool, _, _, h => h
  | .str, _, _, h => h
  | .unit, _, _, h => h
  | .pair a b, x, _, h => by
    obtain ⟨c1, c2, rfl, h1, h2⟩ := h
    exact ⟨c1, c2, rfl, RepC_move hA h1, RepC_move hA h2⟩
  | .sl t, _, _, h => by
    obtain ⟨A, c, rfl, hc, he⟩ := h
    refine ⟨A, c, rfl, hc, fun j x hx => ?_⟩
    obtain ⟨ad, ec, hA', hF, hlt, hr, hcell⟩ := he j x hx
    refine ⟨ad, ec, hA', hF, Nat.lt_of_lt_of_le hlt hA.1, RepC_move hA hr, fun i u hu => ?_⟩
    rw [hA.cell (by rw [add_block]; exact hF) (by rw [add_block]; exact hlt)]
    exact hcell i u hu

theorem RepC_mono {w : World} {F F' : Nat → Prop} (hF : ∀ k, F k → k < w.heap.size → F' k) : ∀ {t : Ty} {x : Den t} {cs : List Value}, RepC w F t x cs → RepC w F' t x cs
  | .int _, _, _, h => h
  | .bool, _, _, h => h
  | .str, _, _, h => h
  | .unit, _, _, h => h
  | .pair a b, x, _, h => by
    obtain ⟨c1, c2, rfl, h1, h2⟩ := h
    exact ⟨c1, c2, rfl, RepC_mono hF h1, RepC_mono hF h2⟩
  | .sl t, _, _, h => by
    obtain ⟨A, c, rfl, hc, he⟩ := h
    refine ⟨A, c, rfl, hc, fun j x hx => ?_⟩
    obtain ⟨ad, ec, hA', hf, hlt, hr, hcell⟩ := he j x hx
    exact ⟨ad, ec, hA', hF _ hf hlt, hlt, RepC_mono hF hr, hcell⟩

def RepV (w : World) (F : Nat → Prop) (t : Ty) (x : Den t) (v : Value) : Prop :=
  if t.many = true then ∃ cs : List Value, v = .agg cs.toArray ∧ RepC w F t x cs else RepC w F t x [v]

theorem RepV_mono {w : World} {F F' : Nat → Prop} (hF : ∀ k, F k → k < w.heap.size → F' k) {t : Ty} {x : Den t} {v : Value} (h : RepV w F t x v) : RepV w F' t x v := by
  unfold RepV at h ⊢
  split
  · rename_i hm
    rw [if_pos hm] at h
    obtain ⟨cs, rfl, h⟩ := h
    exact ⟨cs, rfl, RepC_mono hF h⟩
  · rename_i hm
    rw [if_neg hm] at h
    exact RepC_mono hF h

def RepVs (w : World) (F : Nat → Prop) : (t : Ty) → Den t → List Value → Prop
  | .unit, _, vs => vs = []
  | .pair a b, x, vs => ∃ v vs', vs = v :: vs' ∧ RepV w F a x.1 v ∧ RepVs w F b x.2 vs'
  | _, _, _ => False
def Enters (P : Program) (f : FuncId) : Prop := ∃ fn, P.funcs[f]? = some fn ∧ (fn.name == "runtime.NumGoroutine") = false ∧ fn.body.isSome = true

def Clos (P : Program) (w : World) (F : Nat → Prop) (dom cod : Ty) (φ : Den dom → Option (Den cod)) (u : Value) : Prop :=
  ∃ (f : FuncId) (first caps : Array Value), u = .func (.func f) first caps ∧ Enters P f ∧
    ∀ (w' : World) (F' : Nat → Prop) (x : Den dom) (vs : List Value) (r : Den cod), Agree F w w' → (∀ k, F k → k < w.heap.size → F' k) → RepVs w' F' dom x vs → φ x = some r →
      Calls P f (first ++ vs.toArray ++ caps) w' fun e w'' => ∃ v, e = .returned v ∧ RepV w'' (fun k => F' k ∨ w'.heap.size ≤ k) cod r v ∧ Below w'.heap.size w' w''
theorem Clos_move {P : Program} {w w' : World} {F : Nat → Prop} (hA : Agree F w w') {dom cod : Ty} {φ : Den dom → Option (Den cod)} {u : Value} (h : Clos P w F dom cod φ u) : Clos P w' F dom cod φ u := by
  obtain ⟨f, first, caps, rfl, hb, h⟩ := h
  refine ⟨f, first, caps, rfl, hb, fun w1 F1 x vs r h1 h2 h3 h4 => h w1 (fun k => F1 k) x vs r (hA.trans h1) (fun k hk hlt => h2 k hk (Nat.lt_of_lt_of_le hlt hA.1)) h3 h4⟩
theorem Clos_mono {P : Program} {w : World} {F F' : Nat → Prop} (hF : ∀ k, F k → k < w.heap.size → F' k) {dom cod : Ty} {φ : Den dom → Option (Den cod)} {u : Value} (h : Clos P w F dom cod φ u) : Clos P w F' dom cod φ u := by
  obtain ⟨f, first, caps, rfl, hb, h⟩ := h
  refine ⟨f, first, caps, rfl, hb, fun w1 F1 x vs r h1 h2 h3 h4 => h w1 F1 x vs r ⟨h1.1, fun k hk hlt => h1.2 k (hF k hk hlt) hlt⟩ (fun k hk hlt => h2 k (hF k hk hlt) hlt) h3 h4⟩

inductive B where
  | d (t : Ty) (x : Den t)
  | cl (dom cod : Ty) (φ : Den dom → Option (Den cod))

def RepB (P : Program) (w : World) (F : Nat → Prop) : B → Value → Prop
  | .d t x, u => RepC w F t x [u]
  | .cl dom cod φ, u => Clos P w F dom cod φ u
theorem RepB_move {P : Program} {w w' : World} {F : Nat → Prop} (hA : Agree F w w') : ∀ {b : B} {u : Value}, RepB P w F b u → RepB P w' F b u
  | .d _ _, _, h => RepC_move hA h
  | .cl _ _ _, _, h => Clos_move hA h
theorem RepB_mono {P : Program} {w : World} {F F' : Nat → Prop} (hF : ∀ k, F k → k < w.heap.size → F' k) : ∀ {b : B} {u : Value}, RepB P w F b u → RepB P w F' b u
  | .d _ _, _, h => RepC_mono hF h
  | .cl _ _ _, _, h => Clos_mono hF h
theorem RepB_one {P : Program} {w : World} {F : Nat → Prop} : ∀ {b : B} {u : Value}, RepB P w F b u → u.oneCell' = true
  | .d _ _, u, h => RepC_one h u (by simp)
  | .cl _ _ _, _, h => by obtain ⟨f, first, caps, rfl, _⟩ := h; rfl
end Go.Vx

end
section
set_option linter.unusedVariables false
namespace Go.Vx
universe u
open Go Go.RowKit

inductive A where
  | b (x : B)
  | rdp (cells : List B)
  | ptr (o off : Nat)
  | rowp (o ver i off : Nat)
  | row (o ver : Nat)
  | mp (o : Nat)
  | nil
  | non
  | undef
inductive V0 where
  | one (a : A)
  | agg (axs : List A)
inductive V where
  | v (x : V0)
  | tup (xs : List V0)
abbrev undefV : V := .v (.one .undef)
abbrev nonV : V := .v (.one .non)
abbrev V.d (t : Ty) (x : Den t) : V := .v (.one (.b (.d t x)))
inductive Obj where
  | box (cells : List A)
  | row (ety : TypeId) (t : Ty) (xs : List (Den t)) (ver : Nat)
  | map (t : Ty) (es : List (ByteArray × Den t))
  | hid (vs : List V)
structure St where
  tm : List V
  ob : List (Option Obj)

inductive TK where
  | slice (e : TypeId)
  | struct (fs : List (Nat × TypeId))
  | str
  | int (k : IntKind)
  | bool
  | map (k e : TypeId)
  | other
structure TI where
  ty : Option Ty
  size : Nat
  agg : Bool
  zero : List A
  bytes : Nat
  kind : TK
  eqs : Bool := false
def find {α : Type u} : List (Nat × α) → Nat → Option α
  | [], _ => none
  | p :: r, t => cond (Nat.beq p.1 t) (some p.2) (find r t)

inductive ATy where
  | v (t : Ty)
  | clo (dom cod : Ty)
  | ptrD (t : Ty)
  | ptrC (dom cod : Ty)
@[reducible] def ADen : ATy → Type
  | .v t => Den t
  | .clo dom cod => Den dom → Option (Den cod)
  | .ptrD t => Den t
  | .ptrC dom cod => Den dom → Option (Den cod)
@[reducible] def ADens : List ATy → Type
  | [] => Unit
  | a :: axs => ADen a × ADens axs
@[reducible] def Dens : List Ty → Type
  | [] => Unit
  | [t] => Den t
  | t :: t' :: ts => Den t × Dens (t' :: ts)
structure Spec where
  ats : List ATy
  rts : List Ty
  F : ADens ats → Option (Dens rts)

inductive RKind where
  | fresh
  | step
  | inplace
  | inl
structure RSpec where
  kind : RKind
  e : TypeId
  t : Ty
  ats : List ATy
  F : List (Den t) → ADens ats → Option (List (Den t))
  fn : Option Nat := none
def argsOf : Option Nat → List Operand → Option (List Operand)
  | none, xs => some xs
  | some g, [.func g'] => cond (Nat.beq g' g) (some []) none
  | _, _ => none
def fnV : Option Nat → List Value
  | none => []
  | some g => [.func (.func g) #[] #[]]

def unpackB : (t : Ty) → Den t → List B
  | .pair a b, x => unpackB a x.1 ++ unpackB b x.2
  | .unit, _ => []
  | .int k, x => [.d (.int k) x]
  | .bool, x => [.d .bool x]
  | .str, x => [.d .str x]
  | .sl t, x => [.d (.sl t) x]
def unpackA (t : Ty) (x : Den t) : List A := (unpackB t x).map A.b
def valV (t : Ty) (x : Den t) : V0 := match t.many, unpackA t x with
  | false, [a] => .one a
  | _, axs => .agg axs
def nilD : (t : Ty) → Option (Den t)
  | .sl _ => some []
  | _ => none
def leafA (allow : Bool) (ob : List (Option Obj)) (t : Ty) : A → Option (Den t)
  | .b (.d _ x) => castD x
  | .nil => nilD t
  | .row o ver => match allow, ob[o]? with
    | true, some (some (.row _ t' xs v)) => cond (Nat.beq v ver) (castD (t := .sl t') (t' := t) xs) none
    | _, _ => none
  | _ => none
def packA (allow : Bool) (ob : List (Option Obj)) : (t : Ty) → List A → Option (Den t × List A)
  | .unit, axs => some ((), axs)
  | .pair a b, axs => match packA allow ob a axs with
    | some (x, r) => match packA allow ob b r with
      | some (y, r') => some ((x, y), r')
      | none => none
    | none => none
  | .int k, a :: r => match leafA allow ob (.int k) a with | some x => some (x, r) | none => none
  | .bool, a :: r => match leafA allow ob .bool a with | some x => some (x, r) | none => none
  | .str, a :: r => match leafA allow ob .str a with | some x => some (x, r) | none => none
  | .sl t, a :: r => match leafA allow ob (.sl t) a with | some x => some (x, r) | none => none
  | _, [] => none
def cellsV : V0 → List A
  | .one .undef => []
  | .one .non => []
  | .one a => [a]
  | .agg axs => axs
def packV (allow : Bool) (ob : List (Option Obj)) (t : Ty) (v : V0) : Option (Den t) :=
  match v, t.many with
  | .one a, false => leafA allow ob t a
  | .agg axs, true => match packA allow ob t axs with
    | some (x, []) => some x
    | _ => none
  | _, _ => none
def Ty.flat : Ty → Bool
  | .sl _ => false
  | .pair a b => a.flat && b.flat
  | _ => true

def packB (t : Ty) (bs : List B) : Option (Den t) := match packA false [] t (bs.map A.b) with
  | some (x, []) => some x
  | _ => none
def castC {d c d' c' : Ty} (φ : Den d → Option (Den c)) : Option (Den d' → Option (Den c')) :=
  if h : d = d' ∧ c = c' then some (h.1 ▸ h.2 ▸ φ) else none
def packArg (allow : Bool) (ob : List (Option Obj)) : (a : ATy) → V0 → Option (ADen a)
  | .v t, v => packV allow ob t v
  | .clo _ _, .one (.b (.cl _ _ φ)) => castC φ
  | .ptrD t, .one (.rdp cells) => packB t cells
  | .ptrC _ _, .one (.rdp [.cl _ _ φ]) => castC φ
  | _, _ => none
def packArgs (allow : Bool) (ob : List (Option Obj)) : (axs : List ATy) → List V0 → Option (ADens axs)
  | [], [] => some ()
  | a :: axs, v :: vs => match packArg allow ob a v with
    | some x => match packArgs allow ob axs vs with
      | some y => some (x, y)
      | none => none
    | none => none
  | _, _ => none
def resV : (ts : List Ty) → Dens ts → List V0
  | [], _ => []
  | [t], x => [valV t x]
  | t :: t' :: ts, x => valV t x.1 :: resV (t' :: ts) x.2
def resOf : List V0 → V
  | [v] => .v v
  | vs => .tup vs
def flats : List Ty → Bool
  | [] => true
  | t :: ts => t.flat && flats ts
def packRes (ob : List (Option Obj)) : (ts : List Ty) → List V0 → Option (Dens ts)
  | [], [] => some ()
  | [t], [v] => packV true ob t v
  | t :: t' :: ts, v :: vs => match packV true ob t v with
    | some x => match packRes ob (t' :: ts) vs with
      | some y => some (x, y)
      | none => none
    | none => none
  | _, _ => none

def cloDom : List ATy → Nat → Option Ty
  | _, 0 => some .unit
  | .v t :: axs, n + 1 => match cloDom axs n with
    | some d => some (.pair t d)
    | none => none
  | _, _ => none
def cloArgs (ob : List (Option Obj)) : (axs : List ATy) → (n : Nat) → List V0 → (d : Ty) → Option (Den d → Option (ADens axs))
  | axs, 0, caps, .unit => match packArgs false ob axs caps with
    | some y => some fun _ => some y
    | none => none
  | .v t :: axs, n + 1, caps, .pair t' d => match cloArgs ob axs n caps d with
    | some g => some fun x => match castD (t' := t) x.1, g x.2 with
      | some a, some r => some (a, r)
      | _, _ => none
    | none => none
  | _, _, _, _ => none
def cloFirst (ob : List (Option Obj)) : (axs : List ATy) → List V0 → (n : Nat) → List V0 → (d : Ty) → Option (Den d → Option (ADens axs))
  | axs, [], n, caps, d => cloArgs ob axs n caps d
  | a :: axs, v :: vs, n, caps, d => match packArg false ob a v, cloFirst ob axs vs n caps d with
    | some x, some g => some fun y => match g y with
      | some r => some (x, r)
      | none => none
    | _, _ => none
  | [], _ :: _, _, _, _ => none
def cloOf (ob : List (Option Obj)) (S : Spec) (first caps : List V0) : Option B :=
  match S.rts, S.F with
  | [c], F =>
    match cloDom (S.ats.drop first.length) (S.ats.length - first.length - caps.length) with
    | some d => match cloFirst ob S.ats first (S.ats.length - first.length - caps.length) caps d with
      | some g => some (.cl d c fun x => match g x with | some y => F y | none => none)
      | none => none
    | none => none
  | _, _ => none

section
variable {R : Type}
def oget {α : Type} (xs : List α) (i : Int) (k : α → Option R) : Option R := cond (decide (0 ≤ i)) (match xs[i.toNat]? with | some x => k x | none => none) none
def obind {α : Type} (m : Option α) (k : α → Option R) : Option R := match m with | some x => k x | none => none
def oif (b : Bool) (k : Option R) : Option R := cond b k none
def caseB (b : Bool) (k : Bool → Option R) : Option R := cond b (k true) (k false)
end

structure Ann where
  own : List Nat := []
  ro : List Nat := []
def memN : List Nat → Nat → Bool
  | [], _ => false
  | a :: r, x => cond (Nat.beq a x) true (memN r x)

def constV : Value → V
  | .int k n => .d (.int k) n
  | .bool b => .d .bool b
  | .string s => .d .str s
  | .slice none 0 0 => .v (.one .nil)
  | _ => undefV
structure Inl where
  run : {R : Type} → Nat → List (Option Obj) → List V0 → (List (Option Obj) → List V0 → Option R) → Option R
structure Env where
  tab : List (Nat × TI)
  fns : List (Nat × Spec)
  ann : Ann
  rows : List (Nat × RSpec) := []
  base : Nat := 0
  inl : List (Nat × Inl) := []
  sites : List (Nat × Nat × List Nat) := []
def opnd (E : Env) (σ : St) : Operand → V
  | .tmp t => σ.tm.getD t undefV
  | .const v => constV v
  | .func f => match find E.fns f with
    | some S => match cloOf σ.ob S [] [] with
      | some b => .v (.one (.b b))
      | none => undefV
    | none => undefV
  | .global _ => undefV
def opnd0 (E : Env) (σ : St) (x : Operand) : Option V0 := match opnd E σ x with
  | .v v => some v
  | .tup _ => none
def opnds0 (E : Env) (σ : St) : List Operand → Option (List V0)
  | [] => some []
  | x :: xs => match opnd0 E σ x, opnds0 E σ xs with
    | some v, some vs => some (v :: vs)
    | _, _ => none
def St.put (σ : St) (d : Option Nat) (v : V) : St := match d with
  | some d => { σ with tm := σ.tm.set d v }
  | none => σ

def intOp (op : BinOp) (k : IntKind) (x y : Int) {R : Type} (K : V → Option R) : Option R :=
  match op with
  | .add => K (.d (.int k) (k.wrap (x + y)))
  | .sub => K (.d (.int k) (k.wrap (x - y)))
  | .mul => K (.d (.int k) (k.wrap (x * y)))
  | .quo => oif (!decide (y = 0)) (K (.d (.int k) (k.wrap (x.tdiv y))))
  | .rem => oif (!decide (y = 0)) (K (.d (.int k) (x.tmod y)))
  | .eql => K (.d .bool (x == y))
  | .neq => K (.d .bool (x != y))
  | .lss => K (.d .bool (decide (x < y)))
  | .leq => K (.d .bool (decide (x ≤ y)))
  | .gtr => K (.d .bool (decide (x > y)))
  | .geq => K (.d .bool (decide (x ≥ y)))
  | _ => none
def strOp (op : BinOp) (x y : ByteArray) {R : Type} (K : V → Option R) : Option R :=
  match op with
  | .add => oif (decide (((x.size + y.size : Nat) : Int) ≤ 9223372036854775807)) (K (.d .str (x ++ y)))
  | .eql => K (.d .bool (x.toList == y.toList))
  | .neq => K (.d .bool (!(x.toList == y.toList)))
  | .lss => K (.d .bool (Op.bytesLess x.toList y.toList))
  | .leq => K (.d .bool (Op.bytesLess x.toList y.toList || x.toList == y.toList))
  | .gtr => K (.d .bool (!(Op.bytesLess x.toList y.toList || x.toList == y.toList)))
  | .geq => K (.d .bool (!Op.bytesLess x.toList y.toList))
  | _ => none
end Go.Vx

end
section
set_option linter.unusedVariables false
namespace Go.Vx
open Go Go.RowKit

def replaceAt (cells : List A) (off : Nat) (new : List A) : List A := cells.take off ++ (new ++ cells.drop (off + new.length))
def leN : Nat → Nat → Bool := Nat.ble
def zeroD : (t : Ty) → Den t
  | .int _ => (0 : Int)
  | .bool => false
  | .str => (⟨#[]⟩ : ByteArray)
  | .sl _ => []
  | .unit => ()
  | .pair a b => (zeroD a, zeroD b)
def bytesOf (s : ByteArray) : List Int := s.data.toList.map fun b => (b.toNat : Int)
def strOf (xs : List Int) : ByteArray := ⟨(xs.map fun n => UInt8.ofNat n.toNat).toArray⟩
def byteAt (s : ByteArray) (i : Int) : Int := (((s.data.toList)[i.toNat]?).map fun b => (b.toNat : Int)).getD 0

def asRow (ob : List (Option Obj)) (o : Nat) (t : Ty) (ver : Nat) : Option (TypeId × List (Den t)) := match ob[o]? with
  | some (some (.row e t' xs v)) => cond (Nat.beq v ver) (match castD (t := .sl t') (t' := .sl t) xs with | some ys => some (e, ys) | none => none) none
  | _ => none
def isBox (ob : List (Option Obj)) (o : Nat) : Option (List A) := match ob[o]? with
  | some (some (.box cells)) => some cells
  | _ => none
def isFree (ob : List (Option Obj)) (d : Nat) : Bool := match ob[d]? with
  | some none => true
  | _ => false
def fillParts (tab : List (Nat × TI)) (fs : List (Nat × TypeId)) : List (Nat × V0) → List A → Option (List A)
  | [], cells => some cells
  | (f, v) :: r, cells => match fs[f]? with
    | some (off, t) => match find tab t with
      | some i => cond (Nat.beq (cellsV v).length i.size && (leN 1 i.size && leN (off + i.size) cells.length)) (fillParts tab fs r (replaceAt cells off (cellsV v))) none
      | none => none
    | none => none
def litElems (ob : List (Option Obj)) (t : Ty) : Nat → List (Nat × V0) → Option (List (Den t))
  | _, [] => some []
  | k, (j, v) :: r => cond (Nat.beq j k) (match packV false ob t v, litElems ob t (k + 1) r with
    | some x, some xs => some (x :: xs)
    | _, _ => none) none
def parts0 (E : Env) (σ : St) : List (Nat × Operand) → Option (List (Nat × V0))
  | [] => some []
  | (f, x) :: r => match opnd0 E σ x, parts0 E σ r with
    | some v, some vs => some ((f, v) :: vs)
    | _, _ => none
def known : A → Bool
  | .undef => false
  | .non => false
  | _ => true
def knowns : List A → Bool
  | [] => true
  | a :: r => known a && knowns r
def valOf (agg : Bool) (cells : List A) : Option V0 := match agg, cells with
  | true, cs => some (.agg cs)
  | false, [a] => some (.one a)
  | _, _ => none
def cut {α : Type} (cells : List α) (off n : Nat) : Option (List α) := cond (leN (off + n) cells.length) (some ((cells.drop off).take n)) none
def sameOp : Operand → Operand → Bool
  | .tmp a, .tmp b => Nat.beq a b
  | .const (.int .i64 a), .const (.int .i64 b) => decide (a = b)
  | _, _ => false
def eqA : A → A → Option Bool
  | .b (.d (.int k) x), .b (.d (.int k') y) => cond (decide (k = k')) (some (x == y)) none
  | .b (.d .bool x), .b (.d .bool y) => some (x == y)
  | .b (.d .str x), .b (.d .str y) => some (x == y)
  | _, _ => none
def eqCells : List A → List A → Option Bool
  | [], [] => some true
  | [a], [b] => eqA a b
  | a :: r, b :: r' => match eqA a b, eqCells r r' with
    | some e, some e' => some (e && e')
    | _, _ => none
  | _, _ => none
def packs (t : Ty) (axs : List A) : Bool := match packA false [] t axs with
  | some (_, []) => true
  | _ => false
def packChain (ob : List (Option Obj)) : (d : Ty) → List V0 → Option (Den d)
  | .unit, [] => some ()
  | .pair a b, v :: vs => match packV false ob a v, packChain ob b vs with
    | some x, some y => some (x, y)
    | _, _ => none
  | _, _ => none

def mapGet {α : Type} : List (ByteArray × α) → ByteArray → Option α
  | [], _ => none
  | e :: r, s => cond (s == e.1) (some e.2) (mapGet r s)
def mapPut {α : Type} : List (ByteArray × α) → ByteArray → α → List (ByteArray × α)
  | [], s, x => [(s, x)]
  | e :: r, s, x => cond (s == e.1) ((s, x) :: r) (e :: mapPut r s x)
def isMap (ob : List (Option Obj)) (o : Nat) (t : Ty) : Option (List (ByteArray × Den t)) := match ob[o]? with
  | some (some (.map t' es)) => match castD (t := .sl (.pair .str t')) (t' := .sl (.pair .str t)) es with | some ys => some ys | none => none
  | _ => none
def mapOf (tab : List (Nat × TI)) (T : TypeId) : Option Ty := match find tab T with
  | some { kind := .map k e, .. } => match find tab k, find tab e with
    | some { kind := .str, .. }, some { ty := some t, .. } => cond (t.flat && leN 1 t.sz) (some t) none
    | _, _ => none
  | _ => none

section
variable {R : Type}
def newObj (b : Nat) (σ : St) (d : Option Nat) (o : Obj) (v : Nat → A) (K : St → Option R) : Option R := match d with
  | some d => cond (isFree σ.ob (b + d)) (K { tm := σ.tm.set d (.v (.one (v (b + d)))), ob := σ.ob.set (b + d) (some o) }) none
  | none => none
def loadK (E : Env) (σ : St) (T : TypeId) (a : V) (K : V0 → Option R) : Option R :=
  match find E.tab T, a with
  | some i, .v (.one (.rdp cells)) => match cut cells 0 i.size with
    | some cs => match valOf i.agg (cs.map A.b) with
      | some v => K v
      | none => none
    | none => none
  | some i, .v (.one (.ptr o off)) => match isBox σ.ob o with
    | some cells => match cut cells off i.size with
      | some cs => match valOf i.agg cs with
        | some v => K v
        | none => none
      | none => none
    | none => none
  | some i, .v (.one (.rowp o ver j off)) => match σ.ob[o]? with
    | some (some (.row e t xs v)) => cond (Nat.beq v ver) (oget xs (j : Int) fun x => match cut (unpackA t x) off i.size with
      | some cs => match valOf i.agg cs with
        | some v => K v
        | none => none
      | none => none) none
    | _ => none
  | _, _ => none
def storeK (E : Env) (σ : St) (T : TypeId) (a : V) (x : V0) (K : St → Option R) : Option R :=
  match find E.tab T, a with
  | some i, .v (.one (.ptr o off)) => match isBox σ.ob o with
    | some cells => cond (Nat.beq (cellsV x).length i.size && (leN 1 i.size && (leN (off + i.size) cells.length && knowns (cellsV x)))) (K { σ with ob := σ.ob.set o (some (.box (replaceAt cells off (cellsV x)))) }) none
    | none => none
  | some i, .v (.one (.rowp o ver j off)) => match σ.ob[o]? with
    | some (some (.row e t xs v)) => cond (Nat.beq v ver && (Nat.beq (cellsV x).length i.size && (leN 1 i.size && leN (off + i.size) t.sz))) (oget xs (j : Int) fun y => match packA false σ.ob t (replaceAt (unpackA t y) off (cellsV x)) with
      | some (z, []) => K { σ with ob := σ.ob.set o (some (.row e t (xs.set j z) v)) }
      | _ => none) none
    | _ => none
  | _, _ => none
def shiftOp (op : BinOp) (k : IntKind) (x y : Int) {R : Type} (K : V → Option R) : Option R := match op with
  | .shl => oif (decide (0 ≤ y)) (K (.d (.int k) (k.wrap (x * 2 ^ min y.toNat k.bits))))
  | .shr => oif (decide (0 ≤ y)) (K (.d (.int k) (x.fdiv (2 ^ min y.toNat k.bits))))
  | _ => none
def isShift : BinOp → Bool
  | .shl => true
  | .shr => true
  | _ => false
def binK (E : Env) (op : BinOp) (T : TypeId) (x y : V) (K : V → Option R) : Option R :=
  match x, y with
  | .v (.one (.b (.d (.int k) a))), .v (.one (.b (.d (.int k') b))) => cond (isShift op) (shiftOp op k a b K) (cond (decide (k = k')) (intOp op k a b K) none)
  | .v (.one (.b (.d .str a))), .v (.one (.b (.d .str b))) => strOp op a b K
  | .v (.agg axs), .v (.agg bs) => match find E.tab T, eqCells axs bs, op with
    | some { ty := some t, kind := .struct _, eqs := true, .. }, some e, .eql => cond (packs t axs && packs t bs) (K (.d .bool e)) none
    | some { ty := some t, kind := .struct _, eqs := true, .. }, some e, .neq => cond (packs t axs && packs t bs) (K (.d .bool (!e))) none
    | _, _, _ => none
  | .v (.one (.b (.d .bool a))), .v (.one (.b (.d .bool b))) => match find E.tab T, op with
    | some { kind := .bool, .. }, .eql => K (.d .bool (a == b))
    | some { kind := .bool, .. }, .neq => K (.d .bool (a != b))
    | _, _ => none
  | _, _ => none
def unK (op : UnOp) (x : V) (K : V → Option R) : Option R :=
  match op, x with
  | .not, .v (.one (.b (.d .bool a))) => K (.d .bool (!a))
  | .neg, .v (.one (.b (.d (.int k) a))) => K (.d (.int k) (k.wrap (0 - a)))
  | _, _ => none
def convK (E : Env) (src dst : TypeId) (x : V) (K : V → Option R) : Option R :=
  match find E.tab src, find E.tab dst, x with
  | some { kind := .int _, .. }, some { kind := .int k', .. }, .v (.one (.b (.d (.int _) n))) => K (.d (.int k') (k'.wrap n))
  | some { kind := .str, .. }, some { kind := .str, .. }, .v (.one (.b (.d .str s))) => K (.d .str s)
  | some { kind := .str, .. }, some { kind := .slice e, .. }, .v (.one (.b (.d .str s))) => match find E.tab e with
    | some { kind := .int .u8, .. } => K (.d (.sl (.int .u8)) (bytesOf s))
    | _ => none
  | some { kind := .slice e, .. }, some { kind := .str, .. }, .v (.one (.b (.d (.sl (.int .u8)) xs))) => match find E.tab e with
    | some { kind := .int .u8, .. } => K (.d .str (strOf xs))
    | _ => none
  | _, _, _ => none
def elemOk (E : Env) (e : TypeId) (t : Ty) : Bool := match find E.tab e with
  | some i => Nat.beq i.size t.sz
  | none => false
def idxAddrK (E : Env) (σ : St) (T : TypeId) (x i : V) (K : A → Option R) : Option R :=
  match find E.tab T, x, i with
  | some { kind := .slice e, .. }, .v (.one (.b (.d (.sl t) xs))), .v (.one (.b (.d (.int _) j))) => cond (elemOk E e t) (oget xs j fun e => K (.rdp (unpackB t e))) none
  | some { kind := .slice e, .. }, .v (.one (.row o ver)), .v (.one (.b (.d (.int _) j))) => match σ.ob[o]? with
    | some (some (.row _ t xs v)) => cond (Nat.beq v ver && elemOk E e t) (oif (decide (0 ≤ j)) (oif (decide (j < (xs.length : Int))) (K (.rowp o ver j.toNat 0)))) none
    | _ => none
  | _, _, _ => none
def sliceK (E : Env) (T : TypeId) (x : V) (lo hi : Option V) (K : V → Option R) : Option R :=
  match find E.tab T, x, lo, hi with
  | some { kind := .str, .. }, .v (.one (.b (.d .str s))), some (.v (.one (.b (.d (.int _) l)))), some (.v (.one (.b (.d (.int _) h)))) =>
    oif (decide (0 ≤ l)) (oif (decide (l ≤ h)) (oif (decide (h ≤ (s.size : Int))) (K (.d .str (s.extract l.toNat h.toNat)))))
  | some { kind := .str, .. }, .v (.one (.b (.d .str s))), some (.v (.one (.b (.d (.int _) l)))), none =>
    oif (decide (0 ≤ l)) (oif (decide (l ≤ (s.size : Int))) (K (.d .str (s.extract l.toNat s.size))))
  | some { kind := .str, .. }, .v (.one (.b (.d .str s))), none, some (.v (.one (.b (.d (.int _) h)))) =>
    oif (decide (0 ≤ h)) (oif (decide (h ≤ (s.size : Int))) (K (.d .str (s.extract 0 h.toNat))))
  | some { kind := .slice e, .. }, .v (.one (.b (.d (.sl t) xs))), some (.v (.one (.b (.d (.int _) l)))), some (.v (.one (.b (.d (.int _) h)))) =>
    cond (elemOk E e t) (oif (decide (0 ≤ l)) (oif (decide (l ≤ h)) (oif (decide (h ≤ (xs.length : Int))) (K (.d (.sl t) ((xs.take h.toNat).drop l.toNat)))))) none
  | some { kind := .slice e, .. }, .v (.one (.b (.d (.sl t) xs))), some (.v (.one (.b (.d (.int _) l)))), none =>
    cond (elemOk E e t) (oif (decide (0 ≤ l)) (oif (decide (l ≤ (xs.length : Int))) (K (.d (.sl t) (xs.drop l.toNat))))) none
  | some { kind := .slice e, .. }, .v (.one (.b (.d (.sl t) xs))), none, some (.v (.one (.b (.d (.int _) h)))) =>
    cond (elemOk E e t) (oif (decide (0 ≤ h)) (oif (decide (h ≤ (xs.length : Int))) (K (.d (.sl t) (xs.take h.toNat))))) none
  | _, _, _, _ => none
def fieldOff (E : Env) (S : TypeId) (f : Nat) : Option (Nat × TypeId) := match find E.tab S with
  | some { kind := .struct fs, .. } => fs[f]?
  | _ => none
def fieldAddrA (σ : St) (off : Nat) : V → Option A
  | .v (.one (.ptr o k)) => some (.ptr o (k + off))
  | .v (.one (.rowp o ver i k)) => match σ.ob[o]? with
    | some (some (.row _ _ _ v)) => cond (Nat.beq v ver) (some (.rowp o ver i (k + off))) none
    | _ => none
  | .v (.one (.rdp cells)) => some (.rdp (cells.drop off))
  | _ => none
def lenV (σ : St) : V → Option Int
  | .v (.one (.b (.d .str s))) => some (s.size : Int)
  | .v (.one (.b (.d (.sl t) xs))) => some (xs.length : Int)
  | .v (.one .nil) => some 0
  | .v (.one (.row o ver)) => match σ.ob[o]? with
    | some (some (.row e t xs v)) => cond (Nat.beq v ver) (some (xs.length : Int)) none
    | _ => none
  | _ => none
def appendK (E : Env) (σ : St) (d : Option Nat) (T T' : TypeId) (s x : V) (K : St → Option R) : Option R :=
  match find E.tab T with
  | some { kind := .slice e, .. } => match find E.tab e, x with
    | some { ty := some t, bytes := by_, .. }, .v x => cond (Nat.beq T T' && leN 1 by_) (match packV true σ.ob (.sl t) x with
      | some ys => match s with
        | .v (.one .nil) => cond (leN 1 t.sz) (oif (decide (ys.length * by_ ≤ 140737488355328)) (newObj E.base σ d (.row e t ys 0) (fun d => .row d 0) K)) none
        | .v (.one (.row o ver)) => match asRow σ.ob o t ver, d with
          | some (e', xs), some d => cond (Nat.beq e' e) (oif (decide ((xs.length + ys.length) * by_ ≤ 140737488355328))
              (K { tm := σ.tm.set d (.v (.one (.row o (ver + 1)))), ob := σ.ob.set o (some (.row e t (xs ++ ys) (ver + 1))) })) none
          | _, _ => none
        | _ => none
      | none => none) none
    | _, _ => none
  | _ => none
def liveT (live : List Nat) : Nat → List V → List V
  | _, [] => []
  | i, v :: r => cond (memN live i) v undefV :: liveT live (i + 1) r
def retK (q d : Nat) (K : St → Option R) (ob' : List (Option Obj)) (vs' : List V0) : Option R := match ob'[q]? with
  | some (some (.hid tm')) => K (({ tm := tm', ob := ob'.set q none } : St).put (some d) (resOf vs'))
  | _ => none
def inlK (E : Env) (σ : St) (d : Option Nat) (f : Nat) (xs : List Operand) (K : St → Option R) : Option R := match find E.inl f, opnds0 E σ xs, d with
  | some I, some vs, some d' => match find E.sites d' with
    | some (off, live) => cond (isFree σ.ob (E.base + off)) (I.run (E.base + off + 1) (σ.ob.set (E.base + off) (some (.hid (liveT live 0 σ.tm)))) vs (retK (E.base + off) d' K)) none
    | none => none
  | _, _, _ => none
def rowK (E : Env) (σ : St) (d : Option Nat) (f : Nat) (S : RSpec) (xs : List Operand) (K : St → Option R) : Option R := match S.kind, xs with
  | .fresh, xs => match opnds0 E σ xs with
    | some vs => match packArgs false σ.ob S.ats vs with
      | some y => obind (S.F [] y) fun r => cond (leN 1 S.t.sz) (newObj E.base σ d (.row S.e S.t r 0) (fun d => .row d 0) K) none
      | none => none
    | none => none
  | .step, x :: xs => match opnd E σ x, opnds0 E σ xs, d with
    | .v (.one (.row o ver)), some vs, some d => match asRow σ.ob o S.t ver with
      | some (e', l) => cond (Nat.beq e' S.e) (match packArgs false σ.ob S.ats vs with
        | some y => obind (S.F l y) fun r => K { tm := σ.tm.set d (.v (.one (.row o (ver + 1)))), ob := σ.ob.set o (some (.row S.e S.t r (ver + 1))) }
        | none => none) none
      | none => none
    | _, _, _ => none
  | .inplace, x :: xs => match opnd E σ x, (argsOf S.fn xs).bind (opnds0 E σ) with
    | .v (.one (.row o ver)), some vs => match asRow σ.ob o S.t ver with
      | some (e', l) => cond (Nat.beq e' S.e) (match packArgs false σ.ob S.ats vs with
        | some y => obind (S.F l y) fun r => cond (Nat.beq r.length l.length) (K (({ tm := σ.tm, ob := σ.ob.set o (some (.row S.e S.t r ver)) } : St).put d (.tup []))) none
        | none => none) none
      | none => none
    | _, _ => none
  | .inl, xs => inlK E σ d f xs K
  | _, _ => none
def callK (E : Env) (σ : St) (d : Option Nat) (r : Call) (K : St → Option R) : Option R :=
  match r.callee, r.args.toList, r.argTypes.toList with
  | .builtin .len, [x], [T] => match find E.tab T, lenV σ (opnd E σ x) with
    | some { kind := .str, .. }, some n => match opnd E σ x with
      | .v (.one (.b (.d .str _))) => K (σ.put d (.d (.int .i64) n))
      | _ => none
    | some { kind := .slice _, .. }, some n => match opnd E σ x with
      | .v (.one (.b (.d .str _))) => none
      | _ => K (σ.put d (.d (.int .i64) n))
    | _, _ => none
  | .builtin .min, [x, y], _ => match opnd E σ x, opnd E σ y with
    | .v (.one (.b (.d (.int k) a))), .v (.one (.b (.d (.int k') b))) => K (σ.put d (.d (.int k) (cond (decide (b < a)) b a)))
    | _, _ => none
  | .builtin .max, [x, y], _ => match opnd E σ x, opnd E σ y with
    | .v (.one (.b (.d (.int k) a))), .v (.one (.b (.d (.int k') b))) => K (σ.put d (.d (.int k) (cond (decide (a < b)) b a)))
    | _, _ => none
  | .builtin .append, [s, x], [T, T'] => appendK E σ d T T' (opnd E σ s) (opnd E σ x) K
  | .value (.func f), xs, _ => match find E.rows f with
    | some S => rowK E σ d f S xs K
    | none => match find E.fns f, opnds0 E σ xs with
      | some S, some vs => match packArgs (flats S.rts) σ.ob S.ats vs with
        | some x => obind (S.F x) fun r => K (σ.put d (resOf (resV S.rts r)))
        | none => none
      | _, _ => none
  | .value (.tmp t), xs, _ => match opnd E σ (.tmp t), opnds0 E σ xs with
    | .v (.one (.b (.cl dom cod φ))), some vs => match packChain σ.ob dom vs with
      | some x => obind (φ x) fun r => K (σ.put d (.v (valV cod r)))
      | none => none
    | _, _ => none
  | _, _, _ => none
def opK (E : Env) (o : Oper) (σ : St) (K : St → Option R) : Option R :=
  match o.op with
  | .move x => K (σ.put o.dst (opnd E σ x))
  | .assign x => K (σ.put o.dst (opnd E σ x))
  | .pick c a b => match opnd E σ c with
    | .v (.one (.b (.d .bool p))) => caseB p fun p => K (σ.put o.dst (cond p (opnd E σ a) (opnd E σ b)))
    | _ => none
  | .alloc e => match find E.tab e with
    | some i => newObj E.base σ o.dst (.box i.zero) (fun d => .ptr d 0) K
    | none => none
  | .box e x => match find E.tab e, opnd0 E σ x, o.dst with
    | some i, some v, some d => cond (Nat.beq (cellsV v).length i.size && (leN 1 i.size && knowns (cellsV v))) (cond (memN E.ann.ro d)
        (match i.ty, cellsV v with
          | some t, cs => match packA false σ.ob t cs with
            | some (y, []) => K (σ.put o.dst (.v (.one (.rdp (unpackB t y)))))
            | _ => none
          | none, [.b c] => K (σ.put o.dst (.v (.one (.rdp [c]))))
          | _, _ => none)
        (newObj E.base σ o.dst (.box (cellsV v)) (fun d => .ptr d 0) K)) none
    | _, _, _ => none
  | .build t parts => match find E.tab t, parts0 E σ parts.toList with
    | some { kind := .struct fs, zero := z, .. }, some ps => match fillParts E.tab fs ps z with
      | some cells => K (σ.put o.dst (.v (.agg cells)))
      | none => none
    | _, _ => none
  | .buildSlice T len parts => match find E.tab T, parts0 E σ parts.toList with
    | some { kind := .slice e, .. }, some ps => match find E.tab e with
      | some { ty := some t, .. } => match litElems σ.ob t 0 ps, o.dst with
        | some xs, some d => cond (Nat.beq ps.length len && (leN 1 t.sz && leN (len * t.sz) 1000)) (cond (memN E.ann.own d) (newObj E.base σ o.dst (.row e t xs 0) (fun d => .row d 0) K) (K (σ.put o.dst (.d (.sl t) xs)))) none
        | _, _ => none
      | _ => none
    | _, _ => none
  | .load T a => loadK E σ T (opnd E σ a) fun v => K (σ.put o.dst (.v v))
  | .store T a x => match opnd0 E σ x with
    | some v => storeK E σ T (opnd E σ a) v fun σ' => K (σ'.put o.dst nonV)
    | none => none
  | .nilCheck x => match opnd E σ x with
    | .v (.one (.ptr p k)) => K (σ.put o.dst (.v (.one (.ptr p k))))
    | .v (.one (.rdp cs)) => K (σ.put o.dst (.v (.one (.rdp cs))))
    | _ => none
  | .binOp op T x y _ => binK E op T (opnd E σ x) (opnd E σ y) fun v => K (σ.put o.dst v)
  | .unOp op _ x => unK op (opnd E σ x) fun v => K (σ.put o.dst v)
  | .convert src dst x => convK E src dst (opnd E σ x) fun v => K (σ.put o.dst v)
  | .makeFunc (.func f) first caps => match find E.fns f, opnds0 E σ first.toList, opnds0 E σ caps.toList with
    | some S, some vs, some cs => match cloOf σ.ob S vs cs with
      | some c => K (σ.put o.dst (.v (.one (.b c))))
      | none => none
    | _, _, _ => none
  | .makeSlice T l c => match find E.tab T, opnd E σ l with
    | some { kind := .slice e, .. }, .v (.one (.b (.d (.int .i64) n))) => match find E.tab e with
      | some { ty := some t, bytes := by_, .. } => cond (sameOp l c && (leN 1 t.sz && leN 1 by_)) (oif (decide (0 ≤ n)) (oif (decide (n.toNat * by_ ≤ 140737488355328))
          (newObj E.base σ o.dst (.row e t (List.replicate n.toNat (zeroD t)) 0) (fun d => .row d 0) K))) none
      | _ => none
    | _, _ => none
  | .makeMap T none => match mapOf E.tab T with
    | some t => newObj E.base σ o.dst (.map t []) (fun d => .mp d) K
    | none => none
  | .mapUpdate T m k x => match mapOf E.tab T, opnd E σ m, opnd E σ k, opnd0 E σ x with
    | some t, .v (.one (.mp o')), .v (.one (.b (.d .str s))), some v => match isMap σ.ob o' t, packV false σ.ob t v with
      | some es, some y => K (({ tm := σ.tm, ob := σ.ob.set o' (some (.map t (mapPut es s y))) } : St).put o.dst nonV)
      | _, _ => none
    | _, _, _, _ => none
  | .lookup T m k true => match mapOf E.tab T, opnd E σ m, opnd E σ k with
    | some t, .v (.one (.mp o')), .v (.one (.b (.d .str s))) => match isMap σ.ob o' t with
      | some es => K (σ.put o.dst (.tup [valV t ((mapGet es s).getD (zeroD t)), .one (.b (.d .bool (mapGet es s).isSome))]))
      | none => none
    | _, _, _ => none
  | .slice T x lo hi none => sliceK E T (opnd E σ x) (lo.map (opnd E σ)) (hi.map (opnd E σ)) fun v => K (σ.put o.dst v)
  | .fieldAddr S x f => match fieldOff E S f with
    | some (off, _) => match fieldAddrA σ off (opnd E σ x) with
      | some a => K (σ.put o.dst (.v (.one a)))
      | none => none
    | none => none
  | .field S x f => match fieldOff E S f, opnd E σ x with
    | some (off, t), .v (.agg cells) => match find E.tab t with
      | some i => match cut cells off i.size with
        | some cs => match valOf i.agg cs with
          | some v => K (σ.put o.dst (.v v))
          | none => none
        | none => none
      | none => none
    | _, _ => none
  | .indexAddr T x i => idxAddrK E σ T (opnd E σ x) (opnd E σ i) fun a => K (σ.put o.dst (.v (.one a)))
  | .index T x i => match find E.tab T, opnd E σ x, opnd E σ i with
    | some { kind := .str, .. }, .v (.one (.b (.d .str s))), .v (.one (.b (.d (.int _) j))) =>
      oif (decide (0 ≤ j)) (oif (decide (j < (s.size : Int))) (K (σ.put o.dst (.d (.int .u8) (byteAt s j)))))
    | _, _, _ => none
  | .extract t j => match opnd E σ t with
    | .tup vs => match vs[j]? with
      | some v => K (σ.put o.dst (.v v))
      | none => none
    | _ => none
  | .call r => callK E σ o.dst r K
  | _ => none
end
end Go.Vx

end
section
set_option linter.unusedVariables false
namespace Go.Vx
open Go Go.RowKit

structure Keep where
  proms : List (Nat × Nat × TypeId × Ty) := []
  promCs : List (Nat × Nat × Nat × TypeId × Ty) := []
  freeze : List Nat := []
  tms : List Nat := []
  obs : List Nat := []
  lo : Nat := 0
  hi : Nat := 0
def Keep.keeps (k : Keep) (o : Nat) : Bool := cond (Nat.ble (o + 1) k.lo) true (cond (Nat.ble 1 k.hi && Nat.ble k.hi o) true (memN k.obs o))
structure LoopAn where
  kn : Keep := {}
  kx : Keep := {}
  kr : Keep := {}

def prom (q t : Nat) (e : TypeId) (ty : Ty) (σ : St) : St := match σ.tm[t]? with
  | some (.v (.one .nil)) => cond (isFree σ.ob q && leN 1 ty.sz) { tm := σ.tm.set t (.v (.one (.row q 0))), ob := σ.ob.set q (some (.row e ty [] 0)) } σ
  | _ => σ
def promC (q o j : Nat) (e : TypeId) (ty : Ty) (σ : St) : St := match isBox σ.ob o with
  | some cells => match cells[j]? with
    | some .nil => cond (isFree σ.ob q && (leN 1 ty.sz && !Nat.beq o q)) { tm := σ.tm, ob := (σ.ob.set o (some (.box (cells.set j (.row q 0))))).set q (some (.row e ty [] 0)) } σ
    | _ => σ
  | none => σ
def frzA (o ver : Nat) (t : Ty) (xs : List (Den t)) : A → A
  | .row o' v => cond (Nat.beq o' o) (cond (Nat.beq v ver) (.b (.d (.sl t) xs)) .undef) (.row o' v)
  | .rowp o' v i k => cond (Nat.beq o' o) .undef (.rowp o' v i k)
  | a => a
def mapV0 (f : A → A) : V0 → V0
  | .one a => .one (f a)
  | .agg axs => .agg (axs.map f)
def mapV (f : A → A) : V → V
  | .v x => .v (mapV0 f x)
  | .tup xs => .tup (xs.map (mapV0 f))
def mapO (f : A → A) : Option Obj → Option Obj
  | some (.box cells) => some (.box (cells.map f))
  | some (.hid vs) => some (.hid (vs.map (mapV f)))
  | o => o
def freeze (o : Nat) (σ : St) : St := match σ.ob[o]? with
  | some (some (.row e t xs ver)) => { tm := σ.tm.map (mapV (frzA o ver t xs)), ob := (σ.ob.set o none).map (mapO (frzA o ver t xs)) }
  | _ => σ
def keepA (ob : List (Option Obj)) (os : Keep) : A → A
  | .ptr o k => cond (os.keeps o) (.ptr o k) .undef
  | .rowp _ _ _ _ => .undef
  | .row o v => cond (os.keeps o) (match ob[o]? with
    | some (some (.row _ _ _ ver)) => cond (Nat.beq v ver) (.row o 0) .undef
    | _ => .undef) .undef
  | .mp o => cond (os.keeps o) (.mp o) .undef
  | a => a
def keepT (ob : List (Option Obj)) (k : Keep) : Nat → List V → List V
  | _, [] => []
  | i, v :: r => cond (memN k.tms i) (mapV (keepA ob k) v) undefV :: keepT ob k (i + 1) r
def keepO (ob : List (Option Obj)) (k : Keep) : Nat → List (Option Obj) → List (Option Obj)
  | _, [] => []
  | i, o :: r => cond (k.keeps i) (match o with
    | some (.box cells) => some (.box (cells.map (keepA ob k)))
    | some (.hid vs) => some (.hid (vs.map (mapV (keepA ob k))))
    | some (.row e t xs _) => some (.row e t xs 0)
    | some (.map t es) => some (.map t es)
    | none => none) none :: keepO ob k (i + 1) r
def promAll : List (Nat × Nat × TypeId × Ty) → St → St
  | [], σ => σ
  | (q, t, e, ty) :: r, σ => promAll r (prom q t e ty σ)
def promCAll : List (Nat × Nat × Nat × TypeId × Ty) → St → St
  | [], σ => σ
  | (q, o, j, e, ty) :: r, σ => promCAll r (promC q o j e ty σ)
def frzAll : List Nat → St → St
  | [], σ => σ
  | o :: r, σ => frzAll r (freeze o σ)
def dropTo (k : Keep) (σ : St) : St := { tm := keepT σ.ob k 0 σ.tm, ob := keepO σ.ob k 0 σ.ob }
def norm (k : Keep) (σ : St) : St := dropTo k (frzAll k.freeze (promCAll k.promCs (promAll k.proms σ)))

inductive Out where
  | normal
  | exit (id : Nat)
  | ret
def eqB (p w : Bool) : Bool := cond p w (!w)
section
variable {R : Type}
def stepK (E : Env) (all : List Oper) (o : Oper) (σ : St) (K : St → Option R) : Option R :=
  match o.guard with
  | none => opK E o σ K
  | some (j, want) => match (all[j]?).bind (·.dst) with
    | some t => match σ.tm[t]? with
      | some (.v (.one (.b (.d .bool p)))) => caseB p fun p => cond (eqB p want) (opK E o { σ with tm := σ.tm.set t (.d .bool p) } K) (K ({ σ with tm := σ.tm.set t (.d .bool p) } |>.put o.dst nonV))
      | some (.v (.one .non)) => K (σ.put o.dst nonV)
      | _ => none
    | none => none
def opsK (E : Env) (all : List Oper) : List Oper → St → (St → Option R) → Option R
  | [], σ, K => K σ
  | o :: r, σ, K => stepK E all o σ fun σ' => opsK E all r σ' K
structure An where
  loops : List (Nat × LoopAn) := []
  objs : Nat := 0
  fin : Keep := {}
  pre : List (Nat × List Nat) := []
def keyOf : Code → Nat
  | .region id _ _ => id
  | .seq a b => keyOf a
  | .block _ c => keyOf c
  | .cond _ a _ => keyOf a
  | .loop c => keyOf c
  | .scope c => keyOf c
  | _ => 0
def loopK (la : LoopAn) (body : St → (Out → St → Option R) → Option R) : Nat → St → (Out → St → Option R) → Option R
  | 0, _, _ => none
  | n + 1, σ, K => body σ fun o σ' => match o with
    | .normal => loopK la body n (norm la.kn σ') K
    | .exit id => K (.exit id) (norm la.kx σ')
    | .ret => K .ret (norm la.kr σ')
def thenK (o : Out) (σ : St) (k : St → Option R) (K : Out → St → Option R) : Option R := match o with
  | .normal => k σ
  | .exit id => K (.exit id) σ
  | .ret => K .ret σ
def blockK (id : Nat) (o : Out) (σ : St) (K : Out → St → Option R) : Option R := match o with
  | .exit id' => cond (Nat.beq id' id) (K .normal σ) (K (.exit id') σ)
  | .normal => K .normal σ
  | .ret => K .ret σ
def preK (an : An) (id : Nat) (σ : St) : St := match find an.pre id with
  | some l => frzAll l σ
  | none => σ
def codeK (E : Env) (an : An) (lp : Nat) : Code → St → (Out → St → Option R) → Option R
  | .skip, σ, K => K .normal σ
  | .region id ops _, σ, K => opsK E ops.toList ops.toList (preK an id σ) fun σ' => K .normal σ'
  | .seq a b, σ, K => codeK E an lp a σ fun o σ' => thenK o σ' (fun σ' => codeK E an lp b σ' K) K
  | .cond c a b, σ, K => match c with
    | .tmp t => match σ.tm[t]? with
      | some (.v (.one (.b (.d .bool p)))) => caseB p fun p => cond p (codeK E an lp a { σ with tm := σ.tm.set t (.d .bool p) } K) (codeK E an lp b { σ with tm := σ.tm.set t (.d .bool p) } K)
      | _ => none
    | .const (.bool p) => cond p (codeK E an lp a σ K) (codeK E an lp b σ K)
    | _ => none
  | .block id c, σ, K => codeK E an lp c σ fun o σ' => blockK id o σ' K
  | .exit id, σ, K => K (.exit id) σ
  | .ret, σ, K => K .ret σ
  | .loop c, σ, K => match find an.loops (keyOf c) with
    | some la => loopK la (fun σ K' => codeK E an lp c σ K') lp (norm la.kn σ) K
    | none => none
  | _, _, _ => none
end

def argV : (a : ATy) → ADen a → V0
  | .v t, x => valV t x
  | .clo dom cod, φ => .one (.b (.cl dom cod φ))
  | .ptrD t, x => .one (.rdp (unpackB t x))
  | .ptrC dom cod, φ => .one (.rdp [.cl dom cod φ])
def argVs : (axs : List ATy) → ADens axs → List V0
  | [], _ => []
  | a :: axs, x => argV a x.1 :: argVs axs x.2
def startSt (n m : Nat) (vs : List V0) : St := { tm := vs.map V.v ++ List.replicate (n - vs.length) nonV, ob := List.replicate (n + m) none }
def resK {R : Type} (E : Env) (σ : St) : List ResultVar → (List V0 → Option R) → Option R
  | [], K => K []
  | .tmp t :: r, K => match σ.tm[t]? with
    | some (.v v) => resK E σ r fun vs => K (v :: vs)
    | _ => none
  | .cell t T :: r, K => loadK E σ T (σ.tm.getD t undefV) fun v => resK E σ r fun vs => K (v :: vs)
def finK (E : Env) (fn : Func) (rts : List Ty) (o : Out) (σ : St) : Option (Dens rts) := match o with
  | .exit _ => none
  | _ => resK E σ fn.results.toList fun vs => packRes σ.ob rts vs
def evalF (E : Env) (an : An) (lp : Nat) (fn : Func) (ats : List ATy) (rts : List Ty) (x : ADens ats) : Option (Dens rts) :=
  match fn.body with
  | some c => codeK E an lp c (startSt fn.ntmps an.objs (argVs ats x)) (finK E fn rts)
  | none => none
end Go.Vx
namespace Go.Vx
open Go Go.RowKit
inductive Frm where
  | seq (b : Code)
  | blk (id : Nat)
section
variable {R : Type}
def lpK (la : LoopAn) (N : St → Option R) (X : Out → St → Option R) (o : Out) (σ : St) : Option R := match o with
  | .normal => N (norm la.kn σ)
  | .exit id => X (.exit id) (norm la.kx σ)
  | .ret => X .ret (norm la.kr σ)
theorem loopK_succ (la : LoopAn) (body : St → (Out → St → Option R) → Option R) (n : Nat) (σ : St) (K : Out → St → Option R) :
    loopK la body (n + 1) σ K = body σ (lpK la (fun σ' => loopK la body n σ' K) K) := by
  rw [loopK]; rfl
def kont (E : Env) (an : An) (lp : Nat) (base : Out → St → Option R) : List Frm → Out → St → Option R
  | [], o, σ => base o σ
  | .seq b :: s, o, σ => thenK o σ (fun σ' => codeK E an lp b σ' (fun o σ => kont E an lp base s o σ)) (fun o σ => kont E an lp base s o σ)
  | .blk id :: s, o, σ => blockK id o σ (fun o σ => kont E an lp base s o σ)
end
def stackTo (key : Nat) : Code → Option (List Frm)
  | .loop c => cond (Nat.beq (keyOf c) key) (some []) none
  | .seq a b => match stackTo key a with
    | some s => some (s ++ [.seq b])
    | none => stackTo key b
  | .block id c => match stackTo key c with
    | some s => some (s ++ [.blk id])
    | none => none
  | .cond _ a b => match stackTo key a with
    | some s => some s
    | none => stackTo key b
  | _ => none
def loopIn (key : Nat) : Code → Option Code
  | .loop c => cond (Nat.beq (keyOf c) key) (some c) (loopIn key c)
  | .seq a b => match loopIn key a with
    | some s => some s
    | none => loopIn key b
  | .block _ c => loopIn key c
  | .cond _ a b => match loopIn key a with
    | some s => some s
    | none => loopIn key b
  | _ => none
def codeOf (fn : Func) : Code := fn.body.getD .skip
def loopAt (key : Nat) (c : Code) : Code := (loopIn key c).getD .skip
def stkAt (key : Nat) (c : Code) : List Frm := (stackTo key c).getD []
inductive LE (ρ β : Type) where
  | ret (r : ρ)
  | brk (y : β)
section
variable {R S ρ β : Type}
def leK (id : Nat) (sr : ρ → St) (sx : β → St) (K : Out → St → Option R) : LE ρ β → Option R
  | .ret r => K .ret (sr r)
  | .brk y => K (.exit id) (sx y)
def leF (f : ρ → Option R) (g : β → Option R) : LE ρ β → Option R
  | .ret r => f r
  | .brk y => g y
theorem leF_ret (f : ρ → Option R) (g : β → Option R) (r : ρ) : leF f g (.ret r) = f r := rfl
theorem leF_brk (f : ρ → Option R) (g : β → Option R) (y : β) : leF f g (.brk y) = g y := rfl
theorem leK_ret (id : Nat) (sr : ρ → St) (sx : β → St) (K : Out → St → Option R) (r : ρ) : leK id sr sx K (.ret r) = K .ret (sr r) := rfl
theorem leK_brk (id : Nat) (sr : ρ → St) (sx : β → St) (K : Out → St → Option R) (y : β) : leK id sr sx K (.brk y) = K (.exit id) (sx y) := rfl
theorem leK_leF (id : Nat) (sr : ρ → St) (sx : β → St) (K : Out → St → Option R) : leK id sr sx K = leF (fun z => K .ret (sr z)) (fun y => K (.exit id) (sx y)) := by funext e; cases e <;> rfl
theorem leK_ret0 (id : Nat) (sr : Empty → St) (sx : β → St) (K : Out → St → Option R) : leK id sr sx K = leF (fun z => z.elim) (fun y => K (.exit id) (sx y)) := by
  funext e
  cases e with
  | ret z => exact z.elim
  | brk y => rfl
theorem obind_elim {α : Type} (z : Empty) (k : α → Option R) : obind (z.elim : Option α) k = (z.elim : Option R) := z.elim
theorem obind_none {α : Type} (k : α → Option R) : obind none k = none := rfl
theorem obind_some {α : Type} (x : α) (k : α → Option R) : obind (some x) k = k x := rfl
theorem obind_cond {α : Type} (b : Bool) (x y : Option α) (k : α → Option R) : obind (cond b x y) k = cond b (obind x k) (obind y k) := by cases b <;> rfl
theorem obind_oif {α : Type} (b : Bool) (x : Option α) (k : α → Option R) : obind (oif b x) k = oif b (obind x k) := by cases b <;> rfl
theorem obind_oget {α γ : Type} (xs : List γ) (i : Int) (g : γ → Option α) (k : α → Option R) : obind (oget xs i g) k = oget xs i (fun x => obind (g x) k) := by
  unfold oget
  cases decide (0 ≤ i)
  · rfl
  · show obind (match xs[i.toNat]? with | some x => g x | none => none) k = _
    cases h : xs[i.toNat]? <;> simp only [cond] <;> rfl
theorem obind_obind {α γ : Type} (m : Option γ) (g : γ → Option α) (k : α → Option R) : obind (obind m g) k = obind m (fun x => obind (g x) k) := by cases m <;> rfl
theorem obind_leF {α : Type} (f : ρ → Option α) (g : β → Option α) (e : LE ρ β) (k : α → Option R) : obind (leF f g e) k = leF (fun r => obind (f r) k) (fun y => obind (g y) k) e := by cases e <;> rfl
end
def sk : Nat → List V → List V
  | 0, l => l
  | n + 1, l => undefV :: sk n l
def sko : Nat → List (Option Obj) → List (Option Obj)
  | 0, l => l
  | n + 1, l => none :: sko n l
end Go.Vx

end
section
set_option linter.unusedVariables false
set_option linter.unusedSimpArgs false
namespace Go.Vx
open Go Go.RowKit

def RepL {α : Type} (R : α → Value → Prop) : List α → List Value → Prop
  | [], vs => vs = []
  | a :: axs, vs => ∃ v vs', vs = v :: vs' ∧ R a v ∧ RepL R axs vs'
section
variable {α γ : Type} {R R' : α → Value → Prop}
theorem RepL_len : ∀ {axs : List α} {vs : List Value}, RepL R axs vs → vs.length = axs.length
  | [], _, h => by rw [show _ = _ from h]; rfl
  | a :: axs, _, h => by obtain ⟨v, vs', rfl, _, h⟩ := h; simp [RepL_len h]
theorem RepL_imp (hi : ∀ a v, R a v → R' a v) : ∀ {axs : List α} {vs : List Value}, RepL R axs vs → RepL R' axs vs
  | [], _, h => h
  | a :: axs, _, h => by obtain ⟨v, vs', rfl, h1, h⟩ := h; exact ⟨v, vs', rfl, hi _ _ h1, RepL_imp hi h⟩
theorem RepL_join : ∀ {axs bs : List α} {v1 v2 : List Value}, RepL R axs v1 → RepL R bs v2 → RepL R (axs ++ bs) (v1 ++ v2)
  | [], bs, _, v2, h, h' => by rw [show _ = _ from h]; exact h'
  | a :: axs, bs, _, v2, h, h' => by
    obtain ⟨v, vs', rfl, h1, h⟩ := h
    exact ⟨v, vs' ++ v2, rfl, h1, RepL_join h h'⟩
theorem RepL_take : ∀ {axs : List α} {vs : List Value} (n : Nat), RepL R axs vs → RepL R (axs.take n) (vs.take n)
  | axs, vs, 0, _ => by simp [RepL]
  | [], _, n + 1, h => by rw [show _ = _ from h]; simp [RepL]
  | a :: axs, _, n + 1, h => by obtain ⟨v, vs', rfl, h1, h⟩ := h; exact ⟨v, vs'.take n, rfl, h1, RepL_take n h⟩
theorem RepL_drop : ∀ {axs : List α} {vs : List Value} (n : Nat), RepL R axs vs → RepL R (axs.drop n) (vs.drop n)
  | axs, vs, 0, h => by simpa using h
  | [], _, n + 1, h => by rw [show _ = _ from h]; simp [RepL]
  | a :: axs, _, n + 1, h => by obtain ⟨v, vs', rfl, h1, h⟩ := h; simpa using RepL_drop n h
theorem RepL_mapr {f : γ → α} : ∀ {axs : List γ} {vs : List Value}, RepL (fun a v => R (f a) v) axs vs → RepL R (axs.map f) vs
  | [], _, h => h
  | a :: axs, _, h => by obtain ⟨v, vs', rfl, h1, h⟩ := h; exact ⟨v, vs', rfl, h1, RepL_mapr h⟩
theorem RepL_get : ∀ {axs : List α} {vs : List Value} {j : Nat} {a : α}, RepL R axs vs → axs[j]? = some a → ∃ v, vs[j]? = some v ∧ R a v
  | [], _, j, a, h, hj => by simp at hj
  | b :: axs, _, 0, a, h, hj => by obtain ⟨v, vs', rfl, h1, h⟩ := h; simp at hj; subst hj; exact ⟨v, rfl, h1⟩
  | b :: axs, _, j + 1, a, h, hj => by obtain ⟨v, vs', rfl, h1, h⟩ := h; simpa using RepL_get h (by simpa using hj)
theorem RepL_set : ∀ {axs : List α} {vs : List Value} {j : Nat} {a : α} {v : Value}, RepL R axs vs → R a v → RepL R (axs.set j a) (vs.set j v)
  | [], _, j, a, v, h, _ => by rw [show _ = _ from h]; simp [RepL]
  | b :: axs, _, 0, a, v, h, hv => by obtain ⟨u, vs', rfl, h1, h⟩ := h; exact ⟨v, vs', rfl, hv, h⟩
  | b :: axs, _, j + 1, a, v, h, hv => by obtain ⟨u, vs', rfl, h1, h⟩ := h; exact ⟨u, vs'.set j v, rfl, h1, RepL_set h hv⟩
theorem RepL_one {a : α} {v : Value} (h : R a v) : RepL R [a] [v] := ⟨v, [], rfl, h, rfl⟩
theorem RepL_single {a : α} {vs : List Value} (h : RepL R [a] vs) : ∃ v, vs = [v] ∧ R a v := by
  obtain ⟨v, vs', rfl, h1, h2⟩ := h
  exact ⟨v, by rw [show vs' = [] from h2], h1⟩
end

def RepA (P : Program) (w : World) (G : Nat → Prop) (β : Nat → Value) (ob : List (Option Obj)) : A → Value → Prop
  | .b x, u => RepB P w G x u
  | .rdp cells, u => ∃ ad cs, u = .pointer (some ad) ∧ G ad.block ∧ ad.block < w.heap.size ∧ (∀ (j : Nat) (v : Value), cs[j]? = some v → w.cell? (ad.add j) = some v) ∧ RepL (RepB P w G) cells cs
  | .ptr o off, u => (∃ cells, ob[o]? = some (some (.box cells))) ∧ ∃ g, β o = .pointer (some ⟨g, 0, none⟩) ∧ u = .pointer (some ⟨g, off, none⟩)
  | .rowp o ver i off, u => ∃ e t xs ver', ob[o]? = some (some (.row e t xs ver')) ∧ ver ≤ ver' ∧ u.oneCell' = true ∧ (ver = ver' → ∃ g n c, β o = .slice (some ⟨g, 0, none⟩) n c ∧ u = .pointer (some ⟨g, i * t.sz + off, none⟩))
  | .row o ver, u => ∃ e t xs ver', ob[o]? = some (some (.row e t xs ver')) ∧ ver ≤ ver' ∧ u.oneCell' = true ∧ (ver = ver' → u = β o)
  | .mp o, u => (∃ t es, ob[o]? = some (some (.map t es))) ∧ (∃ r, β o = .map (some r)) ∧ u = β o
  | .nil, u => u = .slice none 0 0
  | .non, u => u = undef
  | .undef, _ => True
def RepV0 (P : Program) (w : World) (G : Nat → Prop) (β : Nat → Value) (ob : List (Option Obj)) : V0 → Value → Prop
  | .one a, u => RepA P w G β ob a u
  | .agg axs, u => ∃ cs : List Value, u = .agg cs.toArray ∧ RepL (RepA P w G β ob) axs cs
def RepW (P : Program) (w : World) (G : Nat → Prop) (β : Nat → Value) (ob : List (Option Obj)) : V → Value → Prop
  | .v x, u => RepV0 P w G β ob x u
  | .tup xs, u => ∃ us : List Value, u = .tuple us.toArray ∧ RepL (RepV0 P w G β ob) xs us
def RepRows (w : World) (G : Nat → Prop) (t : Ty) : List (Den t) → List Value → Prop
  | [], cs => cs = []
  | x :: xs, cs => ∃ c cs', cs = c ++ cs' ∧ RepC w G t x c ∧ RepRows w G t xs cs'
def valC (t : Ty) (cs : List Value) : Value := match t.many, cs with
  | false, [u] => u
  | _, cs => .agg cs.toArray
def encC : (t : Ty) → Den t → List Value
  | .int k, n => [.int k n]
  | .bool, b => [.bool b]
  | .str, s => [.string s]
  | .unit, _ => []
  | .pair a b, x => encC a x.1 ++ encC b x.2
  | .sl _, _ => [.slice none 0 0]
def RepM {t : Ty} : List (ByteArray × Den t) → List MapEntry → Prop
  | [], ms => ms = []
  | e :: es, ms => ∃ m ms', ms = m :: ms' ∧ m.key = .string e.1 ∧ m.val = valC t (encC t e.2) ∧ RepM es ms'
def RepO (P : Program) (w0 w : World) (G : Nat → Prop) (β : Nat → Value) (ob : List (Option Obj)) (o : Nat) : Obj → Prop
  | .box cells => ∃ (g : Nat) (cs : List Value) (ty : TypeId), β o = .pointer (some ⟨g, 0, none⟩) ∧ w0.heap.size ≤ g ∧ w.heap[g]? = some (.cells cs.toArray ty (0, 0)) ∧ RepL (RepA P w G β ob) cells cs
  | .row e t xs _ => ∃ cs, w.ownsRow w0.heap.size e t.sz (β o) xs.length cs ∧ RepRows w G t xs cs ∧ 0 < t.sz
  | .hid vs => ∃ us : List Value, β o = .tuple us.toArray ∧ RepL (RepW P w G β ob) vs us
  | .map t es => ∃ r ms c, β o = .map (some r) ∧ w0.heap.size ≤ r ∧ w.heap[r]? = some (.map ms c) ∧ RepM es ms.toList ∧ t.flat = true
def blk : Value → Option Nat
  | .slice (some a) _ _ => some a.block
  | .pointer (some a) => some a.block
  | .map (some r) => some r
  | _ => none

section moves
variable {P : Program} {w0 w w' : World} {F G G' : Nat → Prop} {β β' : Nat → Value} {ob ob' : List (Option Obj)}
def Ext (β : Nat → Value) (ob : List (Option Obj)) (β' : Nat → Value) (ob' : List (Option Obj)) : Prop :=
  ∀ o, (∀ cells, ob[o]? = some (some (.box cells)) → ∃ cells', ob'[o]? = some (some (.box cells')) ∧ β' o = β o) ∧
    (∀ e t xs ver, ob[o]? = some (some (.row e t xs ver)) → ∃ xs' ver', ob'[o]? = some (some (.row e t xs' ver')) ∧ ver ≤ ver' ∧ (ver = ver' → β' o = β o)) ∧
    (∀ t es, ob[o]? = some (some (.map t es)) → ∃ es', ob'[o]? = some (some (.map t es')) ∧ β' o = β o)
theorem Ext.refl (β : Nat → Value) (ob : List (Option Obj)) : Ext β ob β ob := fun o => ⟨fun cells h => ⟨cells, h, rfl⟩, fun e t xs ver h => ⟨xs, ver, h, Nat.le_refl _, fun _ => rfl⟩, fun t es h => ⟨es, h, rfl⟩⟩
theorem RepA_ext (hx : Ext β ob β' ob') : ∀ {a : A} {u : Value}, RepA P w G β ob a u → RepA P w G β' ob' a u
  | .b _, _, h => h
  | .rdp _, _, h => h
  | .nil, _, h => h
  | .non, _, h => h
  | .undef, _, h => h
  | .ptr o off, u, h => by
    obtain ⟨⟨cells, hc⟩, g, h1, h2⟩ := h
    obtain ⟨cells', hc', hb⟩ := (hx o).1 cells hc
    exact ⟨⟨cells', hc'⟩, g, hb.trans h1, h2⟩
  | .rowp o ver i off, u, h => by
    obtain ⟨e, t, xs, ver', hc, hv, ho1, hh⟩ := h
    obtain ⟨xs', ver2, hc', hv2, hb⟩ := (hx o).2.1 e t xs ver' hc
    refine ⟨e, t, xs', ver2, hc', Nat.le_trans hv hv2, ho1, fun he => ?_⟩
    have h1 : ver = ver' := Nat.le_antisymm hv (by omega)
    obtain ⟨g, n, c, h2, h3⟩ := hh h1
    exact ⟨g, n, c, (hb (by omega)).trans h2, h3⟩
  | .row o ver, u, h => by
    obtain ⟨e, t, xs, ver', hc, hv, ho1, hh⟩ := h
    obtain ⟨xs', ver2, hc', hv2, hb⟩ := (hx o).2.1 e t xs ver' hc
    refine ⟨e, t, xs', ver2, hc', Nat.le_trans hv hv2, ho1, fun he => ?_⟩
    have h1 : ver = ver' := Nat.le_antisymm hv (by omega)
    rw [hh h1, hb (by omega)]
  | .mp o, u, h => by
    obtain ⟨⟨t, es, hc⟩, ⟨r, hr⟩, hu⟩ := h
    obtain ⟨es', hc', hb⟩ := (hx o).2.2 t es hc
    exact ⟨⟨t, es', hc'⟩, ⟨r, by rw [hb, hr]⟩, by rw [hb, hu]⟩
theorem RepA_move (hA : Agree G w w') : ∀ {a : A} {u : Value}, RepA P w G β ob a u → RepA P w' G β ob a u
  | .b _, _, h => RepB_move hA h
  | .rdp _, _, h => by
    obtain ⟨ad, cs, h1, h2, h3, h4, h5⟩ := h
    refine ⟨ad, cs, h1, h2, Nat.lt_of_lt_of_le h3 hA.1, fun j v hj => ?_, RepL_imp (fun _ _ h => RepB_move hA h) h5⟩
    rw [hA.cell (by rw [add_block]; exact h2) (by rw [add_block]; exact h3)]
    exact h4 j v hj
  | .nil, _, h => h
  | .non, _, h => h
  | .undef, _, h => h
  | .ptr _ _, _, h => h
  | .rowp _ _ _ _, _, h => h
  | .row _ _, _, h => h
  | .mp _, _, h => h
theorem RepA_mono (hG : ∀ k, G k → k < w.heap.size → G' k) : ∀ {a : A} {u : Value}, RepA P w G β ob a u → RepA P w G' β ob a u
  | .b _, _, h => RepB_mono hG h
  | .rdp _, _, h => by
    obtain ⟨ad, cs, h1, h2, h3, h4, h5⟩ := h
    exact ⟨ad, cs, h1, hG _ h2 h3, h3, h4, RepL_imp (fun _ _ h => RepB_mono hG h) h5⟩
  | .nil, _, h => h
  | .non, _, h => h
  | .undef, _, h => h
  | .ptr _ _, _, h => h
  | .rowp _ _ _ _, _, h => h
  | .row _ _, _, h => h
  | .mp _, _, h => h
theorem RepV0_imp {P' : Program} {w1 : World} (hi : ∀ a u, RepA P w G β ob a u → RepA P' w1 G' β' ob' a u) : ∀ {x : V0} {u : Value}, RepV0 P w G β ob x u → RepV0 P' w1 G' β' ob' x u
  | .one _, _, h => hi _ _ h
  | .agg _, _, h => by obtain ⟨cs, h1, h2⟩ := h; exact ⟨cs, h1, RepL_imp hi h2⟩
theorem RepW_imp {P' : Program} {w1 : World} (hi : ∀ a u, RepA P w G β ob a u → RepA P' w1 G' β' ob' a u) : ∀ {x : V} {u : Value}, RepW P w G β ob x u → RepW P' w1 G' β' ob' x u
  | .v _, _, h => RepV0_imp hi h
  | .tup _, _, h => by obtain ⟨cs, h1, h2⟩ := h; exact ⟨cs, h1, RepL_imp (fun _ _ h => RepV0_imp hi h) h2⟩
theorem RepRows_imp {t : Ty} {w1 : World} (hi : ∀ x cs, RepC w G t x cs → RepC w1 G' t x cs) : ∀ {xs : List (Den t)} {cs : List Value}, RepRows w G t xs cs → RepRows w1 G' t xs cs
  | [], _, h => h
  | x :: xs, _, h => by obtain ⟨c, cs', h1, h2, h3⟩ := h; exact ⟨c, cs', h1, hi _ _ h2, RepRows_imp hi h3⟩
theorem RepRows_len {t : Ty} : ∀ {xs : List (Den t)} {cs : List Value}, RepRows w G t xs cs → cs.length = xs.length * t.sz
  | [], _, h => by rw [show _ = _ from h]; simp
  | x :: xs, _, h => by
    obtain ⟨c, cs', rfl, h2, h3⟩ := h
    rw [List.length_append, RepC_len h2, RepRows_len h3, List.length_cons, Nat.add_mul, Nat.one_mul, Nat.add_comm]
theorem RepRows_join {t : Ty} : ∀ {xs ys : List (Den t)} {cs ds : List Value}, RepRows w G t xs cs → RepRows w G t ys ds → RepRows w G t (xs ++ ys) (cs ++ ds)
  | [], ys, _, ds, h, h' => by rw [show _ = _ from h]; exact h'
  | x :: xs, ys, _, ds, h, h' => by
    obtain ⟨c, cs', rfl, h2, h3⟩ := h
    exact ⟨c, cs' ++ ds, by rw [List.append_assoc], h2, RepRows_join h3 h'⟩
theorem RepRows_one {t : Ty} : ∀ {xs : List (Den t)} {cs : List Value}, RepRows w G t xs cs → ∀ u ∈ cs, u.oneCell' = true
  | [], _, h => by rw [show _ = _ from h]; intro u hu; simp at hu
  | x :: xs, _, h => by
    obtain ⟨c, cs', rfl, h2, h3⟩ := h
    intro u hu
    rcases List.mem_append.1 hu with hu | hu
    · exact RepC_one h2 u hu
    · exact RepRows_one h3 u hu
theorem RepRows_get {t : Ty} : ∀ {xs : List (Den t)} {cs : List Value} {j : Nat} {x : Den t}, RepRows w G t xs cs → xs[j]? = some x →
    ∃ c a b, cs = a ++ (c ++ b) ∧ a.length = j * t.sz ∧ c.length = t.sz ∧ RepC w G t x c ∧ ∀ y d, RepC w G t y d → RepRows w G t (xs.set j y) (a ++ (d ++ b))
  | [], _, j, x, h, hj => by simp at hj
  | x0 :: xs, _, 0, x, h, hj => by
    obtain ⟨c, cs', rfl, h2, h3⟩ := h
    simp at hj; subst hj
    exact ⟨c, [], cs', rfl, by simp, RepC_len h2, h2, fun y d hd => ⟨d, cs', rfl, hd, h3⟩⟩
  | x0 :: xs, _, j + 1, x, h, hj => by
    obtain ⟨c0, cs', rfl, h2, h3⟩ := h
    obtain ⟨c, a, b, rfl, ha, hc, hr, hs⟩ := RepRows_get h3 (by simpa using hj)
    refine ⟨c, c0 ++ a, b, by rw [List.append_assoc], by rw [List.length_append, RepC_len h2, ha, Nat.add_mul, Nat.one_mul, Nat.add_comm], hc, hr, fun y d hd => ?_⟩
    exact ⟨c0, a ++ (d ++ b), by rw [List.append_assoc], h2, hs y d hd⟩
end moves
end Go.Vx

end
section
set_option linter.unusedVariables false
set_option linter.unusedSimpArgs false
namespace Go.Vx
universe u
open Go Go.RowKit

structure Holds (P : Program) (pn : Nat → Value) (w0 : World) (F : Nat → Prop) (β : Nat → Value) (G : Nat → Prop) (σ : St) (w : World) (tmps : Array Value) : Prop where
  gF : ∀ k, G k → F k ∨ w0.heap.size ≤ k
  below : Below w0.heap.size w0 w
  size : tmps.size = σ.tm.length
  tms : ∀ t v, σ.tm[t]? = some v → RepW P w G β σ.ob v (tmps.getD t undef)
  obs : ∀ o ob, σ.ob[o]? = some (some ob) → RepO P w0 w G β σ.ob o ob
  apart : ∀ o x o' x' k, σ.ob[o]? = some (some x) → σ.ob[o']? = some (some x') → blk (β o) = some k → blk (β o') = some k → o = o'
  notG : ∀ o x k, σ.ob[o]? = some (some x) → blk (β o) = some k → ¬ G k
  pin : ∀ o vs, σ.ob[o]? = some (some (.hid vs)) → β o = pn o
def Inv (P : Program) (pn : Nat → Value) (w0 : World) (F : Nat → Prop) (σ : St) (a : Act) (w : World) : Prop := a.defers = [] ∧ ∃ β G, Holds P pn w0 F β G σ w a.tmps

def RepAD (P : Program) (w : World) (F : Nat → Prop) : (a : ATy) → ADen a → Value → Prop
  | .v t, x, u => RepV w F t x u
  | .clo dom cod, φ, u => Clos P w F dom cod φ u
  | .ptrD t, x, u => ∃ ad cs, u = .pointer (some ad) ∧ F ad.block ∧ ad.block < w.heap.size ∧ (∀ (j : Nat) (v : Value), cs[j]? = some v → w.cell? (ad.add j) = some v) ∧ RepC w F t x cs
  | .ptrC dom cod, φ, u => ∃ ad v, u = .pointer (some ad) ∧ F ad.block ∧ ad.block < w.heap.size ∧ w.cell? (ad.add 0) = some v ∧ Clos P w F dom cod φ v
def RepADs (P : Program) (w : World) (F : Nat → Prop) : (axs : List ATy) → ADens axs → List Value → Prop
  | [], _, vs => vs = []
  | a :: axs, x, vs => ∃ v vs', vs = v :: vs' ∧ RepAD P w F a x.1 v ∧ RepADs P w F axs x.2 vs'
def RepDs (w : World) (F : Nat → Prop) : (ts : List Ty) → Dens ts → List Value → Prop
  | [], _, vs => vs = []
  | [t], x, vs => ∃ v, vs = [v] ∧ RepV w F t x v
  | t :: t' :: ts, x, vs => ∃ v vs', vs = v :: vs' ∧ RepV w F t x.1 v ∧ RepDs w F (t' :: ts) x.2 vs'
def resVal : List Value → Value
  | [v] => v
  | vs => .tuple vs.toArray
def Sound (P : Program) (f : FuncId) (S : Spec) : Prop := Enters P f ∧
  ∀ (w : World) (F : Nat → Prop) (x : ADens S.ats) (vs : List Value) (r : Dens S.rts), RepADs P w F S.ats x vs → S.F x = some r →
    Calls P f vs.toArray w fun e w' => ∃ us, e = .returned (resVal us) ∧ RepDs w' (fun k => F k ∨ w.heap.size ≤ k) S.rts r us ∧ Below w.heap.size w w'

def SoundR (P : Program) (f : FuncId) (S : RSpec) : Prop := Enters P f ∧ match S.kind with
  | .fresh => ∀ (w : World) (F : Nat → Prop) (y : ADens S.ats) (vs : List Value) (r : List (Den S.t)), RepADs P w F S.ats y vs → S.F [] y = some r →
    Calls P f vs.toArray w fun e w' => ∃ v cs, e = .returned v ∧ w.grownBy w' none ∧ w'.ownsRow w.heap.size S.e S.t.sz v r.length cs ∧ RepRows w' F S.t r cs
  | .step => ∀ (w : World) (base : Nat) (F : Nat → Prop) (xs : List (Den S.t)) (v : Value) (cs : List Value) (y : ADens S.ats) (vs : List Value) (r : List (Den S.t)), base ≤ w.heap.size → w.ownsRow base S.e S.t.sz v xs.length cs → RepRows w F S.t xs cs →
    (∀ k, blk v = some k → ¬ F k) → RepADs P w F S.ats y vs → S.F xs y = some r →
    Calls P f (v :: vs).toArray w fun e w' => ∃ v' cs', e = .returned v' ∧ w.grownBy w' (blk v) ∧ w'.ownsRow base S.e S.t.sz v' r.length cs' ∧ RepRows w' F S.t r cs' ∧ (blk v' = blk v ∨ ∀ k, blk v' = some k → w.heap.size ≤ k)
  | .inplace => ∀ (w : World) (base : Nat) (F : Nat → Prop) (xs : List (Den S.t)) (v : Value) (cs : List Value) (y : ADens S.ats) (vs : List Value) (r : List (Den S.t)), base ≤ w.heap.size → w.ownsRow base S.e S.t.sz v xs.length cs → RepRows w F S.t xs cs →
    (∀ k, blk v = some k → ¬ F k) → RepADs P w F S.ats y vs → S.F xs y = some r → r.length = xs.length →
    Calls P f (v :: (vs ++ fnV S.fn)).toArray w fun e w' => ∃ cs', e = .returned (.tuple #[]) ∧ w.grownBy w' (blk v) ∧ w'.ownsRow base S.e S.t.sz v r.length cs' ∧ RepRows w' F S.t r cs'
  | .inl => True

def SoundI (P : Program) (f : FuncId) (I : Inl) : Prop := Enters P f ∧
  ∀ {R : Type} (base : Nat) (pn : Nat → Value) (w0 w : World) (F G : Nat → Prop) (β : Nat → Value) (ob : List (Option Obj)) (vs : List V0) (us : List Value) (K : List (Option Obj) → List V0 → Option R) (r : R),
    Holds P pn w0 F β G { tm := [], ob := ob } w #[] → RepL (RepV0 P w G β ob) vs us → I.run base ob vs K = some r →
    Calls P f us.toArray w fun e w' => ∃ (β' : Nat → Value) (G' : Nat → Prop) (ob' : List (Option Obj)) (vs' : List V0) (us' : List Value), e = .returned (resVal us') ∧ K ob' vs' = some r ∧
      Holds P pn w0 F β' G' { tm := [], ob := ob' } w' #[] ∧ RepL (RepV0 P w' G' β' ob') vs' us'

def zeroIs : A → Value → Bool
  | .b (.d (.int k) n), .int k' n' => decide (k = k') && decide (n = n')
  | .b (.d .bool b), .bool b' => b == b'
  | .b (.d .str s), .string s' => decide (s.data.size = 0) && decide (s'.data.size = 0)
  | .nil, .slice none 0 0 => true
  | .undef, _ => true
  | _, _ => false
def zerosAre : List A → List Value → Bool
  | [], [] => true
  | a :: axs, v :: vs => zeroIs a v && zerosAre axs vs
  | _, _ => false
def zeroV : (t : Ty) → List Value
  | .int k => [.int k 0]
  | .bool => [.bool false]
  | .str => [.string ⟨#[]⟩]
  | .sl _ => [.slice none 0 0]
  | .unit => []
  | .pair a b => zeroV a ++ zeroV b
def sameCells : List Value → List Value → Bool
  | [], [] => true
  | .int k n :: r, .int k' n' :: r' => (decide (k = k') && decide (n = n')) && sameCells r r'
  | .bool b :: r, .bool b' :: r' => (b == b') && sameCells r r'
  | .string s :: r, .string s' :: r' => (decide (s.data.size = 0) && decide (s'.data.size = 0)) && sameCells r r'
  | .slice none 0 0 :: r, .slice none 0 0 :: r' => sameCells r r'
  | _, _ => false
def fieldsAre (P : Program) : List Field → List (Nat × TypeId) → Bool
  | [], [] => true
  | f :: fs, (o, t) :: gs => (decide (f.offset = o) && decide (f.type = t)) && (match P.info? t with | some i => decide (0 < i.size) | none => false) && fieldsAre P fs gs
  | _, _ => false
def aggIs (d : TypeDesc) : Bool := match d with
  | .struct _ => true
  | .array _ _ => true
  | _ => false
def zeroAgg (P : Program) (e : TypeId) : Bool := match P.info? e, P.underlying e with
  | some inf, some d => (match inf.zero with | some (.agg _) => aggIs d | some _ => !aggIs d | none => false)
  | _, _ => false
def mapIs (P : Program) (k e : TypeId) : TypeDesc → Bool
  | .map k' e' => decide (k = k') && (decide (e = e') && zeroAgg P e)
  | _ => false
def kindIs (P : Program) (d : TypeDesc) : TK → Bool
  | .slice e => match d with | .slice e' => decide (e = e') | _ => false
  | .struct fs => match d with | .struct fields => fieldsAre P fields.toList fs | _ => false
  | .str => match d with | .string => true | _ => false
  | .int k => match d with | .int k' => decide (k = k') | _ => false
  | .bool => match d with | .bool => true | _ => false
  | .map k e => mapIs P k e d
  | .other => true
def TyFits (P : Program) (t : TypeId) (i : TI) : Bool := match P.info? t, P.underlying t with
  | some inf, some d => (decide (inf.size = i.size) && decide (inf.bytes = i.bytes)) && ((aggIs d == i.agg) && (kindIs P d i.kind && ((match inf.zero with
    | some z => zerosAre i.zero z.cells.toList && (match i.ty with
      | some ty => sameCells (zeroV ty) z.cells.toList && (decide (ty.sz = i.size) && (ty.many == i.agg))
      | none => true)
    | none => false))))
  | _, _ => false
def TabFits (P : Program) : List (Nat × TI) → Bool
  | [] => true
  | p :: r => TyFits P p.1 p.2 && TabFits P r
def EqFits (P : Program) (t : TypeId) (ty : Ty) : Prop := ∀ (w : World) (F : Nat → Prop) (axs bs : List A) (e : Bool) (cs ds : List Value) (β : Nat → Value) (ob : List (Option Obj)),
  packs ty axs = true → packs ty bs = true → eqCells axs bs = some e → RepL (RepA P w F β ob) axs cs → RepL (RepA P w F β ob) bs ds →
  (do eqGuard .eql t (.tmp 0) (.tmp 0) (.agg cs.toArray) (.agg ds.toArray); Op.equal t (.agg cs.toArray) (.agg ds.toArray)).run P w = .ok e w
structure EnvOK (P : Program) (E : Env) : Prop where
  tab : TabFits P E.tab = true
  fns : ∀ f S, find E.fns f = some S → Sound P f S
  rows : ∀ f S, find E.rows f = some S → SoundR P f S
  inls : ∀ f I, find E.inl f = some I → SoundI P f I
  eqs : ∀ t i, find E.tab t = some i → i.eqs = true → ∀ ty, i.ty = some ty → EqFits P t ty

theorem tab_fits {P : Program} : ∀ {l : List (Nat × TI)} {t : Nat} {i : TI}, TabFits P l = true → find l t = some i → TyFits P t i = true
  | [], _, _, _, h => by cases h
  | p :: r, t, i, hf, h => by
    unfold TabFits at hf
    rw [Bool.and_eq_true] at hf
    unfold find at h
    cases hb : Nat.beq p.1 t with
    | true =>
      rw [hb] at h
      have ht : p.1 = t := Nat.eq_of_beq_eq_true hb
      have h' : some p.2 = some i := h
      injection h' with h'
      rw [← ht, ← h']
      exact hf.1
    | false =>
      rw [hb] at h
      exact tab_fits hf.2 h

structure TyTold (P : Program) (t : TypeId) (i : TI) : Prop where
  ex : ∃ inf d z, P.info? t = some inf ∧ P.underlying t = some d ∧ inf.size = i.size ∧ inf.bytes = i.bytes ∧ aggIs d = i.agg ∧ kindIs P d i.kind = true ∧ inf.zero = some z ∧ zerosAre i.zero z.cells.toList = true ∧
    ∀ ty, i.ty = some ty → sameCells (zeroV ty) z.cells.toList = true ∧ ty.sz = i.size ∧ ty.many = i.agg
theorem ty_told {P : Program} {t : TypeId} {i : TI} (h : TyFits P t i = true) : TyTold P t i := by
  unfold TyFits at h
  split at h
  · rename_i inf d hi hd
    simp only [Bool.and_eq_true, decide_eq_true_eq, beq_iff_eq] at h
    obtain ⟨⟨h1, h2⟩, h3, h4, h5⟩ := h
    split at h5
    · rename_i z hz
      simp only [Bool.and_eq_true] at h5
      refine ⟨⟨inf, d, z, hi, hd, h1, h2, h3, h4, hz, h5.1, fun ty hty => ?_⟩⟩
      rw [hty] at h5
      simp only [Bool.and_eq_true, decide_eq_true_eq, beq_iff_eq] at h5
      exact ⟨h5.2.1, h5.2.2.1, h5.2.2.2⟩
    · cases h5
  · cases h
theorem told {P : Program} {E : Env} (hE : EnvOK P E) {t : TypeId} {i : TI} (h : find E.tab t = some i) : TyTold P t i := ty_told (tab_fits hE.tab h)

section
variable {P : Program} {pn : Nat → Value} {w0 w w' : World} {F G : Nat → Prop} {β : Nat → Value} {σ : St} {tmps : Array Value}
theorem RepO_blk {o : Nat} {x : Obj} (h : RepO P w0 w G β σ.ob o x) {k : Nat} (hk : blk (β o) = some k) : w0.heap.size ≤ k ∧ k < w.heap.size := by
  cases x with
  | box cells =>
    obtain ⟨g, cs, ty, h1, h2, h3, _⟩ := h
    rw [h1] at hk
    have : g = k := by simpa [blk] using hk
    subst this
    exact ⟨h2, (Array.getElem?_eq_some_iff.1 h3).1⟩
  | row e t xs ver =>
    obtain ⟨cs, ho, _⟩ := h
    rcases ho.2 with ⟨h1, _⟩ | ⟨g, cap, cur, h1, hg, hh, _⟩
    · rw [h1] at hk; simp [blk] at hk
    · rw [h1] at hk
      have : g = k := by simpa [blk] using hk
      subst this
      exact ⟨hg, (Array.getElem?_eq_some_iff.1 hh).1⟩
  | hid vs =>
    obtain ⟨us, h1, _⟩ := h
    rw [h1] at hk
    simp [blk] at hk
  | map t es =>
    obtain ⟨r, ms, c, h1, h2, h3, _⟩ := h
    rw [h1] at hk
    have : r = k := by simpa [blk] using hk
    subst this
    exact ⟨h2, (Array.getElem?_eq_some_iff.1 h3).1⟩
theorem own_same {base : Nat} {e : TypeId} {size n : Nat} {v : Value} {xs : List Value} (h : w.ownsRow base e size v n xs) (hm : ∀ k, blk v = some k → w'.heap[k]? = w.heap[k]?) : w'.ownsRow base e size v n xs := by
  obtain ⟨h1, h2⟩ := h
  refine ⟨h1, ?_⟩
  rcases h2 with h2 | ⟨g, cap, cur, rfl, hg, hh, r⟩
  · exact .inl h2
  · exact .inr ⟨g, cap, cur, rfl, hg, (hm g rfl).trans hh, r⟩
theorem RepC_go {G' : Nat → Prop} (hA : Agree G w w') (hG : ∀ k, G k → k < w.heap.size → G' k) {t : Ty} {x : Den t} {cs : List Value} (h : RepC w G t x cs) : RepC w' G' t x cs :=
  RepC_mono (F := fun k => G k ∧ G' k) (fun _ hk _ => hk.2) (RepC_move (hA.mono (fun _ hk => hk.1)) (RepC_mono (fun k hk hlt => ⟨hk, hG k hk hlt⟩) h))
theorem RepA_go {G' : Nat → Prop} (hA : Agree G w w') (hG : ∀ k, G k → k < w.heap.size → G' k) {ob : List (Option Obj)} {a : A} {u : Value} (h : RepA P w G β ob a u) : RepA P w' G' β ob a u :=
  RepA_mono (G := fun k => G k ∧ G' k) (fun _ hk _ => hk.2) (RepA_move (hA.mono (fun _ hk => hk.1)) (RepA_mono (fun k hk hlt => ⟨hk, hG k hk hlt⟩) h))
theorem RepO_move {G' : Nat → Prop} (hA : Agree G w w') (hG : ∀ k, G k → k < w.heap.size → G' k) {ob : List (Option Obj)} {o : Nat} {x : Obj} (hb : ∀ k, blk (β o) = some k → w'.heap[k]? = w.heap[k]?)
    (h : RepO P w0 w G β ob o x) : RepO P w0 w' G' β ob o x := by
  cases x with
  | box cells =>
    obtain ⟨g, cs, ty, h1, h2, h3, h4⟩ := h
    exact ⟨g, cs, ty, h1, h2, (hb g (by rw [h1]; rfl)).trans h3, RepL_imp (fun _ _ h => RepA_go hA hG h) h4⟩
  | row e t xs ver =>
    obtain ⟨cs, ho, hr, hs⟩ := h
    exact ⟨cs, own_same ho hb, RepRows_imp (fun _ _ h => RepC_go hA hG h) hr, hs⟩
  | hid vs =>
    obtain ⟨us, h1, h2⟩ := h
    exact ⟨us, h1, RepL_imp (fun _ _ h => RepW_imp (fun _ _ h => RepA_go hA hG h) h) h2⟩
  | map t es =>
    obtain ⟨r, ms, c, h1, h2, h3, h4, h5⟩ := h
    exact ⟨r, ms, c, h1, h2, (hb r (by rw [h1]; rfl)).trans h3, h4, h5⟩
theorem RepO_ext {β' : Nat → Value} {ob ob' : List (Option Obj)} (hx : Ext β ob β' ob') {o : Nat} {x : Obj} (hβ : β' o = β o) (h : RepO P w0 w G β ob o x) : RepO P w0 w G β' ob' o x := by
  cases x with
  | box cells =>
    obtain ⟨g, cs, ty, h1, h2, h3, h4⟩ := h
    exact ⟨g, cs, ty, hβ.trans h1, h2, h3, RepL_imp (fun _ _ h => RepA_ext hx h) h4⟩
  | row e t xs ver =>
    obtain ⟨cs, ho, hr, hs⟩ := h
    exact ⟨cs, by rw [hβ]; exact ho, hr, hs⟩
  | hid vs =>
    obtain ⟨us, h1, h2⟩ := h
    exact ⟨us, hβ.trans h1, RepL_imp (fun _ _ h => RepW_imp (fun _ _ h => RepA_ext hx h) h) h2⟩
  | map t es =>
    obtain ⟨r, ms, c, h1, h2, h3, h4, h5⟩ := h
    exact ⟨r, ms, c, hβ.trans h1, h2, h3, h4, h5⟩
theorem Holds.move {G' : Nat → Prop} (h : Holds P pn w0 F β G σ w tmps) (hA : Agree G w w') (hG : ∀ k, G k → k < w.heap.size → G' k) (hG' : ∀ k, G' k → F k ∨ w0.heap.size ≤ k)
    (hB : Below w0.heap.size w0 w') (hob : ∀ o x k, σ.ob[o]? = some (some x) → blk (β o) = some k → w'.heap[k]? = w.heap[k]?) (hn : ∀ o x k, σ.ob[o]? = some (some x) → blk (β o) = some k → ¬ G' k) : Holds P pn w0 F β G' σ w' tmps where
  gF := hG'
  below := hB
  size := h.size
  tms := fun t v hv => RepW_imp (fun _ _ h => RepA_go hA hG h) (h.tms t v hv)
  obs := fun o x hx => RepO_move hA hG (fun k hk => hob o x k hx hk) (h.obs o x hx)
  apart := h.apart
  notG := hn
  pin := h.pin
theorem Holds.call (h : Holds P pn w0 F β G σ w tmps) (hb : Below w.heap.size w w') : Holds P pn w0 F β (fun k => (G k ∧ k < w.heap.size) ∨ w.heap.size ≤ k) σ w' tmps := by
  have hs : w0.heap.size ≤ w.heap.size := h.below.size
  refine h.move (Agree.below hb) (fun k hk hlt => .inl ⟨hk, hlt⟩) (fun k hk => ?_) (h.below.trans (hb.mono hs)) (fun o x k hx hk => hb.block k (RepO_blk (h.obs o x hx) hk).2) (fun o x k hx hk hn => ?_)
  · rcases hk with hk | hk
    · exact h.gF k hk.1
    · exact .inr (Nat.le_trans hs hk)
  · rcases hn with hn | hn
    · exact h.notG o x k hx hk hn.1
    · exact Nat.lt_irrefl _ (Nat.lt_of_lt_of_le (RepO_blk (h.obs o x hx) hk).2 hn)
theorem Holds.put (h : Holds P pn w0 F β G σ w tmps) (d : Nat) {v : V} {u : Value} (hv : RepW P w G β σ.ob v u) : Holds P pn w0 F β G { σ with tm := σ.tm.set d v } w (tmps.setIfInBounds d u) where
  gF := h.gF
  below := h.below
  size := by simp [h.size]
  tms := fun t x hx => by
    by_cases ht : d = t
    · subst ht
      have hlt : d < σ.tm.length := by
        have := (List.getElem?_eq_some_iff.1 hx).1
        simpa using this
      simp [List.getElem?_set, hlt] at hx
      subst hx
      simp [Array.getD_eq_getD_getElem?, h.size, hlt]
      exact hv
    · simp [List.getElem?_set, ht] at hx
      have := h.tms t x hx
      simpa [Array.getD_eq_getD_getElem?, Array.getElem?_setIfInBounds, ht] using this
  obs := h.obs
  apart := h.apart
  notG := h.notG
  pin := h.pin
theorem Holds.bare (h : Holds P pn w0 F β G σ w tmps) : Holds P pn w0 F β G { tm := [], ob := σ.ob } w #[] where
  gF := h.gF
  below := h.below
  size := rfl
  tms := fun t v hv => by simp at hv
  obs := h.obs
  apart := h.apart
  notG := h.notG
  pin := h.pin
theorem Holds.repin {pn' : Nat → Value} (h : Holds P pn w0 F β G σ w tmps) (hp : ∀ o vs, σ.ob[o]? = some (some (.hid vs)) → pn' o = pn o) : Holds P pn' w0 F β G σ w tmps where
  gF := h.gF
  below := h.below
  size := h.size
  tms := h.tms
  obs := h.obs
  apart := h.apart
  notG := h.notG
  pin := fun o vs hv => (h.pin o vs hv).trans (hp o vs hv).symm
end
end Go.Vx

end
section
set_option linter.unusedVariables false
set_option linter.unusedSimpArgs false
namespace Go.Vx
open Go Go.RowKit
section
variable {P : Program} {pn : Nat → Value} {w0 w w' : World} {F G : Nat → Prop} {β : Nat → Value} {σ : St} {tmps : Array Value}
def upd (β : Nat → Value) (o : Nat) (u : Value) : Nat → Value := fun k => if k = o then u else β k
theorem upd_same (β : Nat → Value) (o : Nat) (u : Value) : upd β o u o = u := by simp [upd]
theorem upd_other {β : Nat → Value} {o k : Nat} {u : Value} (h : k ≠ o) : upd β o u k = β k := by simp [upd, h]
def Old (G : Nat → Prop) (w : World) : Nat → Prop := fun k => G k ∧ k < w.heap.size

theorem set_get {α : Type} {l : List α} {o k : Nat} {x : α} (h : k ≠ o) : (l.set o x)[k]? = l[k]? := by
  rw [List.getElem?_set, if_neg (fun e => h e.symm)]
theorem set_self {α : Type} {l : List α} {o : Nat} {x y : α} (h : l[o]? = some y) : (l.set o x)[o]? = some x := by
  have := (List.getElem?_eq_some_iff.1 h).1
  simp [List.getElem?_set, this]

theorem Holds.obj (h : Holds P pn w0 F β G σ w tmps) (o : Nat) (row : Option Nat) (u : Value) (x : Obj) {y : Option Obj} (hy : σ.ob[o]? = some y) (hg : w.grownBy w' row)
    (hrow : row = none ∨ ∃ z, y = some z ∧ row = blk (β o)) (hu : ∀ k, blk u = some k → (∃ z, y = some z ∧ blk (β o) = some k) ∨ w.heap.size ≤ k)
    (hext : Ext β σ.ob (upd β o u) (σ.ob.set o (some x))) (hx : RepO P w0 w' (Old G w) (upd β o u) (σ.ob.set o (some x)) o x) (hp : ∀ vs, x = .hid vs → u = pn o := by intro _ e; cases e) :
    Holds P pn w0 F (upd β o u) (Old G w) { σ with ob := σ.ob.set o (some x) } w' tmps := by
  have hs : w0.heap.size ≤ w.heap.size := h.below.size
  have hGrow : ∀ k, G k → some k ≠ row := fun k hk he => by
    rcases hrow with hr | ⟨z, hz, hr⟩
    · rw [hr] at he; cases he
    · exact h.notG o z k (by rw [hy, hz]) (by rw [← hr, he]) hk
  have hA : Agree G w w' := ⟨hg.size, fun k hk hlt => hg.block k hlt (hGrow k hk)⟩
  have hother : ∀ o' z' k, o' ≠ o → σ.ob[o']? = some (some z') → blk (β o') = some k → k < w.heap.size ∧ some k ≠ row := fun o' z' k hne hz' hk => by
    refine ⟨(RepO_blk (h.obs o' z' hz') hk).2, fun he => ?_⟩
    rcases hrow with hr | ⟨z, hz, hr⟩
    · rw [hr] at he; cases he
    · exact hne (h.apart o' z' o z k hz' (by rw [hy, hz]) hk (by rw [← hr, he]))
  refine ⟨fun k hk => h.gF k hk.1, ?_, h.size, fun t v hv => ?_, fun o' z' hz' => ?_, fun o1 x1 o2 x2 k h1 h2 hk1 hk2 => ?_, fun o' z' k hz' hk hn => ?_, fun o' vs hv => ?_⟩
  · refine h.below.grown hg hs (fun k hk => ?_)
    rcases hrow with hr | ⟨z, hz, hr⟩
    · rw [hr] at hk; cases hk
    · exact (RepO_blk (h.obs o z (by rw [hy, hz])) (by rw [← hr, hk])).1
  · exact RepW_imp (fun _ _ h => RepA_ext hext (RepA_go hA (fun k hk hlt => ⟨hk, hlt⟩) h)) (h.tms t v hv)
  · by_cases ho : o' = o
    · subst ho
      have hz2 : (σ.ob.set o' (some x))[o']? = some (some x) := set_self hy
      have : some (some x) = some (some z') := hz2.symm.trans hz'
      injection this with this; injection this with this
      subst this
      exact hx
    · have hz2 : σ.ob[o']? = some (some z') := (set_get ho).symm.trans hz'
      refine RepO_ext hext (upd_other ho) ?_
      exact RepO_move hA (fun k hk hlt => ⟨hk, hlt⟩) (fun k hk => hg.block k (hother o' z' k ho hz2 hk).1 (hother o' z' k ho hz2 hk).2) (h.obs o' z' hz2)
  · by_cases e1 : o1 = o <;> by_cases e2 : o2 = o
    · rw [e1, e2]
    · exfalso
      subst e1
      rw [upd_same] at hk1
      rw [upd_other e2] at hk2
      have h2' : σ.ob[o2]? = some (some x2) := (set_get e2).symm.trans h2
      rcases hu k hk1 with ⟨z, hz, hb⟩ | hge
      · exact e2 (h.apart o2 x2 o1 z k h2' (by rw [hy, hz]) hk2 hb)
      · exact Nat.lt_irrefl _ (Nat.lt_of_lt_of_le (RepO_blk (h.obs o2 x2 h2') hk2).2 hge)
    · exfalso
      subst e2
      rw [upd_same] at hk2
      rw [upd_other e1] at hk1
      have h1' : σ.ob[o1]? = some (some x1) := (set_get e1).symm.trans h1
      rcases hu k hk2 with ⟨z, hz, hb⟩ | hge
      · exact e1 (h.apart o1 x1 o2 z k h1' (by rw [hy, hz]) hk1 hb)
      · exact Nat.lt_irrefl _ (Nat.lt_of_lt_of_le (RepO_blk (h.obs o1 x1 h1') hk1).2 hge)
    · rw [upd_other e1] at hk1
      rw [upd_other e2] at hk2
      exact h.apart o1 x1 o2 x2 k ((set_get e1).symm.trans h1) ((set_get e2).symm.trans h2) hk1 hk2
  · by_cases ho : o' = o
    · subst ho
      rw [upd_same] at hk
      rcases hu k hk with ⟨z, hz, hb⟩ | hge
      · exact h.notG o' z k (by rw [hy, hz]) hb hn.1
      · exact Nat.lt_irrefl _ (Nat.lt_of_lt_of_le hn.2 hge)
    · rw [upd_other ho] at hk
      exact h.notG o' z' k ((set_get ho).symm.trans hz') hk hn.1
  · by_cases ho : o' = o
    · subst ho
      have hz2 : (σ.ob.set o' (some x))[o']? = some (some x) := set_self hy
      have : some (some x) = some (some (Obj.hid vs)) := hz2.symm.trans hv
      injection this with this; injection this with this
      rw [upd_same]
      exact hp vs this
    · rw [upd_other ho]
      exact h.pin o' vs ((set_get ho).symm.trans hv)

theorem Ext.new {o : Nat} {u : Value} {x : Obj} (ho : σ.ob[o]? = some none) : Ext β σ.ob (upd β o u) (σ.ob.set o (some x)) := fun k => by
  by_cases hk : k = o
  · subst hk
    exact ⟨fun cells h => (by rw [ho] at h; cases h), fun e t xs ver h => (by rw [ho] at h; cases h), fun t es h => (by rw [ho] at h; cases h)⟩
  · exact ⟨fun cells h => ⟨cells, (set_get hk).trans h, upd_other hk⟩, fun e t xs ver h => ⟨xs, ver, (set_get hk).trans h, Nat.le_refl _, fun _ => upd_other hk⟩, fun t es h => ⟨es, (set_get hk).trans h, upd_other hk⟩⟩
theorem Ext.box {o : Nat} {cells cells' : List A} (ho : σ.ob[o]? = some (some (.box cells))) : Ext β σ.ob (upd β o (β o)) (σ.ob.set o (some (.box cells'))) := fun k => by
  by_cases hk : k = o
  · subst hk
    exact ⟨fun c h => ⟨cells', set_self ho, upd_same _ _ _⟩, fun e t xs ver h => (by rw [ho] at h; cases h), fun t es h => (by rw [ho] at h; cases h)⟩
  · exact ⟨fun cells h => ⟨cells, (set_get hk).trans h, upd_other hk⟩, fun e t xs ver h => ⟨xs, ver, (set_get hk).trans h, Nat.le_refl _, fun _ => upd_other hk⟩, fun t es h => ⟨es, (set_get hk).trans h, upd_other hk⟩⟩
theorem Ext.row {o : Nat} {e : TypeId} {t : Ty} {xs ys : List (Den t)} {ver ver' : Nat} {u : Value} (ho : σ.ob[o]? = some (some (.row e t xs ver))) (hv : ver ≤ ver') (hu : ver = ver' → u = β o) :
    Ext β σ.ob (upd β o u) (σ.ob.set o (some (.row e t ys ver'))) := fun k => by
  by_cases hk : k = o
  · subst hk
    refine ⟨fun c h => (by rw [ho] at h; cases h), fun e' t' xs' ver2 h => ?_, fun t es h => (by rw [ho] at h; cases h)⟩
    rw [ho] at h
    injection h with h; injection h with h
    injection h with h1 h2 h3 h4
    subst h1; subst h2; subst h4
    exact ⟨ys, ver', set_self ho, hv, fun he => (upd_same _ _ _).trans (hu he)⟩
  · exact ⟨fun cells h => ⟨cells, (set_get hk).trans h, upd_other hk⟩, fun e t xs ver h => ⟨xs, ver, (set_get hk).trans h, Nat.le_refl _, fun _ => upd_other hk⟩, fun t es h => ⟨es, (set_get hk).trans h, upd_other hk⟩⟩
theorem Ext.map {o : Nat} {t : Ty} {es es' : List (ByteArray × Den t)} (ho : σ.ob[o]? = some (some (.map t es))) : Ext β σ.ob (upd β o (β o)) (σ.ob.set o (some (.map t es'))) := fun k => by
  by_cases hk : k = o
  · subst hk
    refine ⟨fun c h => (by rw [ho] at h; cases h), fun e t xs ver h => (by rw [ho] at h; cases h), fun t' es2 h => ?_⟩
    rw [ho] at h
    injection h with h; injection h with h
    injection h with h1 h2
    subst h1
    exact ⟨es', set_self ho, upd_same _ _ _⟩
  · exact ⟨fun cells h => ⟨cells, (set_get hk).trans h, upd_other hk⟩, fun e t xs ver h => ⟨xs, ver, (set_get hk).trans h, Nat.le_refl _, fun _ => upd_other hk⟩, fun t es h => ⟨es, (set_get hk).trans h, upd_other hk⟩⟩
theorem RepA_one {ob : List (Option Obj)} : ∀ {a : A} {u : Value}, RepA P w G β ob a u → (a ≠ .undef ∧ a ≠ .non) → u.oneCell' = true
  | .b _, _, h, _ => RepB_one h
  | .rdp _, _, h, _ => by obtain ⟨ad, cs, rfl, _⟩ := h; rfl
  | .ptr _ _, _, h, _ => by obtain ⟨_, g, _, rfl⟩ := h; rfl
  | .rowp _ _ _ _, _, h, _ => by obtain ⟨_, _, _, _, _, _, h, _⟩ := h; exact h
  | .row _ _, _, h, _ => by obtain ⟨_, _, _, _, _, _, h, _⟩ := h; exact h
  | .mp _, _, h, _ => by obtain ⟨_, ⟨r, hr⟩, h⟩ := h; rw [h, hr]; rfl
  | .nil, _, h, _ => by rw [show _ = _ from h]; rfl
  | .non, _, _, h => absurd rfl h.2
  | .undef, _, _, h => absurd rfl h.1
theorem one_cells {u : Value} (h : u.oneCell' = true) : u.cells.toList = [u] := by cases u <;> simp_all [Value.oneCell', Value.cells]
theorem rep_cells {ob : List (Option Obj)} {v : V0} {u : Value} (h : RepV0 P w G β ob v u) (hl : 0 < (cellsV v).length) : RepL (RepA P w G β ob) (cellsV v) u.cells.toList := by
  cases v with
  | agg axs => obtain ⟨cs, rfl, h⟩ := h; simpa [cellsV, Value.cells] using h
  | one a =>
    by_cases hu : a ≠ .undef ∧ a ≠ .non
    · have h1 := RepA_one (show RepA P w G β ob a u from h) hu
      rw [one_cells h1]
      cases a <;> first | exact RepL_one h | exact absurd rfl hu.1 | exact absurd rfl hu.2
    · exfalso
      by_cases e : a = .undef
      · subst e; simp [cellsV] at hl
      · have : a = .non := by
          apply Classical.byContradiction
          intro e2
          exact hu ⟨e, e2⟩
        subst this
        simp [cellsV] at hl
end
end Go.Vx

end
section
set_option linter.unusedVariables false
set_option linter.unusedSimpArgs false
namespace Go.Vx
open Go Go.RowKit
section
variable {P : Program} {pn : Nat → Value} {w0 w w' : World} {F G : Nat → Prop} {β : Nat → Value} {σ : St} {tmps : Array Value} {ob : List (Option Obj)}

theorem rep_unpack : ∀ {t : Ty} {x : Den t} {cs : List Value}, RepC w G t x cs → RepL (RepB P w G) (unpackB t x) cs
  | .int _, _, _, h => by rw [show _ = _ from h]; exact RepL_one rfl
  | .bool, _, _, h => by rw [show _ = _ from h]; exact RepL_one rfl
  | .str, _, _, h => by rw [show _ = _ from h]; exact RepL_one rfl
  | .unit, _, _, h => h
  | .pair a b, x, _, h => by
    obtain ⟨c1, c2, rfl, h1, h2⟩ := h
    exact RepL_join (rep_unpack h1) (rep_unpack h2)
  | .sl t, xs, cs, h => by
    obtain ⟨A, c, rfl, hh⟩ := h
    exact RepL_one ⟨A, c, rfl, hh⟩
theorem rep_unpackA {t : Ty} {x : Den t} {cs : List Value} (h : RepC w G t x cs) : RepL (RepA P w G β ob) (unpackA t x) cs := RepL_mapr (rep_unpack h)
theorem rep_valV {t : Ty} {x : Den t} {u : Value} (h : RepV w G t x u) : RepV0 P w G β ob (valV t x) u := by
  unfold RepV at h
  unfold valV
  cases t with
  | pair a b => obtain ⟨cs, rfl, h⟩ := h; exact ⟨cs, rfl, rep_unpackA h⟩
  | unit => obtain ⟨cs, rfl, h⟩ := h; exact ⟨cs, rfl, rep_unpackA h⟩
  | int k => exact h
  | bool => exact h
  | str => exact h
  | sl t => exact h

def ObsOK (P : Program) (w0 w : World) (G : Nat → Prop) (β : Nat → Value) (ob : List (Option Obj)) : Prop := ∀ o x, ob[o]? = some (some x) → RepO P w0 w G β ob o x
theorem row_reads {G' : Nat → Prop} (hG : ∀ k, G k → G' k) (hG' : ∀ k, w0.heap.size ≤ k → G' k) {o : Nat} {e : TypeId} {t : Ty} {xs : List (Den t)} {ver : Nat} (h : RepO P w0 w G β ob o (.row e t xs ver)) : RepC w G' (.sl t) xs [β o] := by
  obtain ⟨cs, ho, hr, hs⟩ := h
  rcases ho.2 with ⟨h1, h2⟩ | ⟨g, cap, cur, h1, hg, hh, hc1, hc2, hsz, htk⟩
  · have : xs = [] := List.eq_nil_of_length_eq_zero h2
    subst this
    exact ⟨none, 0, by rw [h1]; rfl, Nat.le_refl _, fun j x hx => by simp at hx⟩
  · refine ⟨some ⟨g, 0, none⟩, cap, by rw [h1], hc1, fun j x hx => ?_⟩
    obtain ⟨c, a, b, he, ha, hc, hrc, _⟩ := RepRows_get hr hx
    refine ⟨⟨g, 0, none⟩, c, rfl, hG' _ hg, (Array.getElem?_eq_some_iff.1 hh).1, RepC_mono (fun k hk _ => hG k hk) hrc, fun i u hu => ?_⟩
    have hi : i < c.length := (List.getElem?_eq_some_iff.1 hu).1
    have hat : (⟨g, 0, none⟩ : Addr).add (j * t.sz + i) = ⟨g, j * t.sz + i, none⟩ := by unfold Addr.add; split <;> simp_all
    rw [hat]
    have hlen := RepRows_len hr
    have h3 : (cur.toList.take (xs.length * t.sz))[j * t.sz + i]? = some u := by
      rw [htk, he, List.getElem?_append_right (by omega), List.getElem?_append_left (by omega)]
      rw [show j * t.sz + i - a.length = i from by omega]
      exact hu
    rw [List.getElem?_take] at h3
    split at h3
    · simp only [World.cell?, hh]
      simpa using h3
    · cases h3
theorem rep_leaf {allow : Bool} {G' : Nat → Prop} (hG : ∀ k, G k → G' k) (hG' : allow = true → (∀ k, w0.heap.size ≤ k → G' k) ∧ ObsOK P w0 w G β ob) {t : Ty} {a : A} {x : Den t} {u : Value}
    (hx : leafA allow ob t a = some x) (h : RepA P w G β ob a u) : RepC w G' t x [u] := by
  cases a with
  | b y =>
    cases y with
    | d t' y =>
      obtain ⟨e, rfl⟩ := castD_some (show castD y = some x from hx)
      subst e
      exact RepC_mono (fun k hk _ => hG k hk) h
    | cl dom cod φ => cases hx
  | nil =>
    cases t with
    | sl t =>
      have : x = [] := by
        have h' : some ([] : List (Den t)) = some x := hx
        injection h' with h'
        exact h'.symm
      subst this
      exact ⟨none, 0, by rw [show u = _ from h]; rfl, Nat.le_refl _, fun j x hx => by simp at hx⟩
    | _ => cases hx
  | row o ver =>
    cases allow with
    | false => cases hx
    | true =>
      obtain ⟨e, t', xs, ver', hob, hv, _, hu⟩ := h
      simp only [leafA, hob] at hx
      cases hb : Nat.beq ver' ver with
      | false => rw [hb] at hx; cases hx
      | true =>
        rw [hb] at hx
        have hve : ver' = ver := Nat.eq_of_beq_eq_true hb
        obtain ⟨e2, rfl⟩ := castD_some (t := .sl t') (t' := t) (x := xs) hx
        subst e2
        rw [hu hve.symm]
        exact row_reads hG (hG' rfl).1 ((hG' rfl).2 o _ hob)
  | rdp _ => cases hx
  | mp _ => cases hx
  | ptr _ _ => cases hx
  | rowp _ _ _ _ => cases hx
  | non => cases hx
  | undef => cases hx
theorem rep_packA {allow : Bool} {G' : Nat → Prop} (hG : ∀ k, G k → G' k) (hG' : allow = true → (∀ k, w0.heap.size ≤ k → G' k) ∧ ObsOK P w0 w G β ob) : ∀ {t : Ty} {axs : List A} {x : Den t} {r : List A} {cs : List Value},
    packA allow ob t axs = some (x, r) → RepL (RepA P w G β ob) axs cs → ∃ c1 c2, cs = c1 ++ c2 ∧ RepC w G' t x c1 ∧ RepL (RepA P w G β ob) r c2
  | .unit, axs, x, r, cs, hx, h => by
    have h' : some ((), axs) = some (x, r) := by cases axs <;> exact hx
    injection h' with h'; injection h' with _ h'
    subst h'
    exact ⟨[], cs, rfl, rfl, h⟩
  | .pair a b, axs, x, r, cs, hx, h => by
    have hx' : (match packA allow ob a axs with
      | some (x, r) => match packA allow ob b r with
        | some (y, r') => some ((x, y), r')
        | none => none
      | none => none) = some (x, r) := by cases axs <;> exact hx
    cases h1 : packA allow ob a axs with
    | none => rw [h1] at hx'; cases hx'
    | some p =>
      obtain ⟨x1, r1⟩ := p
      rw [h1] at hx'
      cases h2 : packA allow ob b r1 with
      | none => simp only [h2] at hx'; cases hx'
      | some q =>
        obtain ⟨x2, r2⟩ := q
        simp only [h2] at hx'
        injection hx' with hx'
        injection hx' with hx1 hx2
        obtain ⟨c1, c2, rfl, hr1, hrest⟩ := rep_packA hG hG' h1 h
        obtain ⟨c3, c4, rfl, hr2, hrest2⟩ := rep_packA hG hG' h2 hrest
        subst hx2
        exact ⟨c1 ++ c3, c4, by rw [List.append_assoc], ⟨c1, c3, rfl, by rw [← hx1]; exact hr1, by rw [← hx1]; exact hr2⟩, hrest2⟩
  | .int k, [], x, r, cs, hx, h => by cases hx
  | .bool, [], x, r, cs, hx, h => by cases hx
  | .str, [], x, r, cs, hx, h => by cases hx
  | .sl t, [], x, r, cs, hx, h => by cases hx
  | .int k, a :: axs, x, r, cs, hx, h => by
    have hx' : (match leafA allow ob (.int k) a with | some x => some (x, axs) | none => none) = some (x, r) := hx
    cases h1 : leafA allow ob (.int k) a with
    | none => rw [h1] at hx'; cases hx'
    | some y =>
      rw [h1] at hx'
      injection hx' with hx'; injection hx' with e1 e2
      subst e1; subst e2
      obtain ⟨v, vs, rfl, hv, hr⟩ := h
      exact ⟨[v], vs, rfl, rep_leaf hG hG' h1 hv, hr⟩
  | .bool, a :: axs, x, r, cs, hx, h => by
    have hx' : (match leafA allow ob .bool a with | some x => some (x, axs) | none => none) = some (x, r) := hx
    cases h1 : leafA allow ob .bool a with
    | none => rw [h1] at hx'; cases hx'
    | some y =>
      rw [h1] at hx'
      injection hx' with hx'; injection hx' with e1 e2
      subst e1; subst e2
      obtain ⟨v, vs, rfl, hv, hr⟩ := h
      exact ⟨[v], vs, rfl, rep_leaf hG hG' h1 hv, hr⟩
  | .str, a :: axs, x, r, cs, hx, h => by
    have hx' : (match leafA allow ob .str a with | some x => some (x, axs) | none => none) = some (x, r) := hx
    cases h1 : leafA allow ob .str a with
    | none => rw [h1] at hx'; cases hx'
    | some y =>
      rw [h1] at hx'
      injection hx' with hx'; injection hx' with e1 e2
      subst e1; subst e2
      obtain ⟨v, vs, rfl, hv, hr⟩ := h
      exact ⟨[v], vs, rfl, rep_leaf hG hG' h1 hv, hr⟩
  | .sl t, a :: axs, x, r, cs, hx, h => by
    have hx' : (match leafA allow ob (.sl t) a with | some x => some (x, axs) | none => none) = some (x, r) := hx
    cases h1 : leafA allow ob (.sl t) a with
    | none => rw [h1] at hx'; cases hx'
    | some y =>
      rw [h1] at hx'
      injection hx' with hx'; injection hx' with e1 e2
      subst e1; subst e2
      obtain ⟨v, vs, rfl, hv, hr⟩ := h
      exact ⟨[v], vs, rfl, rep_leaf hG hG' h1 hv, hr⟩
theorem rep_packV {allow : Bool} {G' : Nat → Prop} (hG : ∀ k, G k → G' k) (hG' : allow = true → (∀ k, w0.heap.size ≤ k → G' k) ∧ ObsOK P w0 w G β ob) {t : Ty} {v : V0} {x : Den t} {u : Value}
    (hx : packV allow ob t v = some x) (h : RepV0 P w G β ob v u) : RepV w G' t x u := by
  unfold packV at hx
  unfold RepV
  split at hx
  · rename_i a hm
    rw [if_neg (by rw [hm]; simp)]
    exact rep_leaf hG hG' hx h
  · rename_i axs hm
    rw [if_pos hm]
    obtain ⟨cs, rfl, h⟩ := h
    split at hx
    · rename_i y hp
      injection hx with hx
      subst hx
      obtain ⟨c1, c2, rfl, h1, h2⟩ := rep_packA hG hG' hp h
      rw [show c2 = [] from h2, List.append_nil]
      exact ⟨c1, rfl, h1⟩
    · cases hx
  · cases hx
theorem rep_packB {t : Ty} {bs : List B} {x : Den t} {cs : List Value} (hx : packB t bs = some x) (h : RepL (RepB P w G) bs cs) : RepC w G t x cs := by
  unfold packB at hx
  split at hx
  · rename_i y hp
    injection hx with hx
    subst hx
    have h' : RepL (RepA P w G (fun _ => undef) []) (bs.map A.b) cs := RepL_mapr h
    obtain ⟨c1, c2, rfl, h1, h2⟩ := rep_packA (w0 := w) (fun _ h => h) (fun h => by cases h) hp h'
    rw [show c2 = [] from h2, List.append_nil]
    exact h1
  · cases hx
theorem RepC_flat {G' : Nat → Prop} : ∀ {t : Ty} {x : Den t} {cs : List Value}, t.flat = true → RepC w G t x cs → RepC w' G' t x cs
  | .int _, _, _, _, h => h
  | .bool, _, _, _, h => h
  | .str, _, _, _, h => h
  | .unit, _, _, _, h => h
  | .pair a b, x, _, hf, h => by
    obtain ⟨c1, c2, rfl, h1, h2⟩ := h
    have hf' : (a.flat && b.flat) = true := hf
    rw [Bool.and_eq_true] at hf'
    exact ⟨c1, c2, rfl, RepC_flat hf'.1 h1, RepC_flat hf'.2 h2⟩
  | .sl _, _, _, hf, _ => by cases hf
theorem castC_some {d c d' c' : Ty} {φ : Den d → Option (Den c)} {ψ : Den d' → Option (Den c')} (h : castC φ = some ψ) : ∃ (e1 : d = d') (e2 : c = c'), ψ = e1 ▸ e2 ▸ φ := by
  unfold castC at h
  split at h
  · rename_i e
    injection h with h
    exact ⟨e.1, e.2, h.symm⟩
  · cases h
theorem rep_packArg {allow : Bool} {G' : Nat → Prop} (hG : ∀ k, G k → G' k) (hG' : allow = true → (∀ k, w0.heap.size ≤ k → G' k) ∧ ObsOK P w0 w G β ob) {a : ATy} {v : V0} {x : ADen a} {u : Value}
    (hx : packArg allow ob a v = some x) (h : RepV0 P w G β ob v u) : RepAD P w G' a x u := by
  cases a with
  | v t => exact rep_packV hG hG' hx h
  | clo dom cod =>
    cases v with
    | agg axs => cases hx
    | one b => cases b with
      | b y => cases y with
        | cl d c φ =>
          obtain ⟨e1, e2, rfl⟩ := castC_some (show castC φ = some x from hx)
          subst e1; subst e2
          exact Clos_mono (fun k hk _ => hG k hk) h
        | d _ _ => cases hx
      | _ => cases hx
  | ptrD t =>
    cases v with
    | agg axs => cases hx
    | one b => cases b with
      | rdp cells =>
        obtain ⟨ad, cs, h1, h2, h3, h4, h5⟩ := h
        exact ⟨ad, cs, h1, hG _ h2, h3, h4, RepC_mono (fun k hk _ => hG k hk) (rep_packB (show packB t cells = some x from hx) h5)⟩
      | _ => cases hx
  | ptrC dom cod =>
    cases v with
    | agg axs => cases hx
    | one b => cases b with
      | rdp cells =>
        cases cells with
        | nil => cases hx
        | cons c r => cases c with
          | d _ _ => cases r <;> cases hx
          | cl d c φ => cases r with
            | cons _ _ => cases hx
            | nil =>
              obtain ⟨ad, cs, h1, h2, h3, h4, h5⟩ := h
              obtain ⟨v, rfl, hv⟩ := RepL_single h5
              obtain ⟨e1, e2, rfl⟩ := castC_some (show castC φ = some x from hx)
              subst e1; subst e2
              exact ⟨ad, v, h1, hG _ h2, h3, h4 0 v rfl, Clos_mono (fun k hk _ => hG k hk) hv⟩
      | _ => cases hx
theorem rep_packArgs {allow : Bool} {G' : Nat → Prop} (hG : ∀ k, G k → G' k) (hG' : allow = true → (∀ k, w0.heap.size ≤ k → G' k) ∧ ObsOK P w0 w G β ob) : ∀ {axs : List ATy} {vs : List V0} {x : ADens axs} {us : List Value},
    packArgs allow ob axs vs = some x → RepL (RepV0 P w G β ob) vs us → RepADs P w G' axs x us
  | [], [], x, us, hx, h => h
  | [], _ :: _, x, us, hx, h => by cases hx
  | _ :: _, [], x, us, hx, h => by cases hx
  | a :: axs, v :: vs, x, us, hx, h => by
    have hx' : (match packArg allow ob a v with
      | some x => match packArgs allow ob axs vs with
        | some y => some (x, y)
        | none => none
      | none => none) = some x := hx
    cases h1 : packArg allow ob a v with
    | none => rw [h1] at hx'; cases hx'
    | some x1 =>
      rw [h1] at hx'
      cases h2 : packArgs allow ob axs vs with
      | none => simp only [h2] at hx'; cases hx'
      | some x2 =>
        simp only [h2] at hx'
        injection hx' with hx'
        subst hx'
        obtain ⟨u, us', rfl, hu, hr⟩ := h
        exact ⟨u, us', rfl, rep_packArg hG hG' h1 hu, rep_packArgs hG hG' h2 hr⟩
theorem rep_packChain : ∀ {d : Ty} {vs : List V0} {x : Den d} {us : List Value}, packChain ob d vs = some x → RepL (RepV0 P w G β ob) vs us → RepVs w G d x us
  | .unit, [], x, us, hx, h => h
  | .unit, _ :: _, x, us, hx, h => by cases hx
  | .int _, vs, x, us, hx, h => by cases vs <;> cases hx
  | .bool, vs, x, us, hx, h => by cases vs <;> cases hx
  | .str, vs, x, us, hx, h => by cases vs <;> cases hx
  | .sl _, vs, x, us, hx, h => by cases vs <;> cases hx
  | .pair a b, [], x, us, hx, h => by cases hx
  | .pair a b, v :: vs, x, us, hx, h => by
    have hx' : (match packV false ob a v, packChain ob b vs with
      | some x, some y => some (x, y)
      | _, _ => none) = some x := hx
    cases h1 : packV false ob a v with
    | none => rw [h1] at hx'; cases hx'
    | some x1 =>
      cases h2 : packChain ob b vs with
      | none => rw [h1, h2] at hx'; cases hx'
      | some x2 =>
        rw [h1, h2] at hx'
        injection hx' with hx'
        subst hx'
        obtain ⟨u, us', rfl, hu, hr⟩ := h
        exact ⟨u, us', rfl, rep_packV (w0 := w) (fun _ h => h) (fun h => by cases h) h1 hu, rep_packChain h2 hr⟩
theorem rep_packRes {G' : Nat → Prop} (hG : ∀ k, G k → G' k) (hG' : (∀ k, w0.heap.size ≤ k → G' k) ∧ ObsOK P w0 w G β ob) : ∀ {ts : List Ty} {vs : List V0} {x : Dens ts} {us : List Value},
    packRes ob ts vs = some x → RepL (RepV0 P w G β ob) vs us → RepDs w G' ts x us
  | [], [], x, us, hx, h => h
  | [], _ :: _, x, us, hx, h => by cases hx
  | [_], [], x, us, hx, h => by cases hx
  | [_], _ :: _ :: _, x, us, hx, h => by cases hx
  | [t], [v], x, us, hx, h => by
    obtain ⟨u, rfl, hu⟩ := RepL_single h
    exact ⟨u, rfl, rep_packV hG (fun _ => hG') hx hu⟩
  | _ :: _ :: _, [], x, us, hx, h => by cases hx
  | t :: t' :: ts, v :: vs, x, us, hx, h => by
    have hx' : (match packV true ob t v with
      | some x => match packRes ob (t' :: ts) vs with
        | some y => some (x, y)
        | none => none
      | none => none) = some x := hx
    cases h1 : packV true ob t v with
    | none => rw [h1] at hx'; cases hx'
    | some x1 =>
      rw [h1] at hx'
      cases h2 : packRes ob (t' :: ts) vs with
      | none => simp only [h2] at hx'; cases hx'
      | some x2 =>
        simp only [h2] at hx'
        injection hx' with hx'
        subst hx'
        obtain ⟨u, us', rfl, hu, hr⟩ := h
        exact ⟨u, us', rfl, rep_packV hG (fun _ => hG') h1 hu, rep_packRes hG hG' h2 hr⟩
theorem rep_resV : ∀ {ts : List Ty} {r : Dens ts} {us : List Value}, RepDs w G ts r us → RepL (RepV0 P w G β ob) (resV ts r) us
  | [], _, _, h => h
  | [t], x, _, h => by obtain ⟨u, rfl, hu⟩ := h; exact RepL_one (rep_valV hu)
  | t :: t' :: ts, x, _, h => by obtain ⟨u, us', rfl, hu, hr⟩ := h; exact ⟨u, us', rfl, rep_valV hu, rep_resV hr⟩
theorem rep_resOf {vs : List V0} {us : List Value} (h : RepL (RepV0 P w G β ob) vs us) : RepW P w G β ob (resOf vs) (resVal us) := by
  cases vs with
  | nil => rw [show us = [] from h]; exact ⟨[], rfl, rfl⟩
  | cons v r => cases r with
    | nil => obtain ⟨u, rfl, hu⟩ := RepL_single h; exact hu
    | cons v' r =>
      obtain ⟨u, us', rfl, hu, hr⟩ := h
      obtain ⟨u', us2, rfl, hu', hr'⟩ := hr
      exact ⟨u :: u' :: us2, rfl, u, u' :: us2, rfl, hu, u', us2, rfl, hu', hr'⟩
theorem RepDs_flat {G' : Nat → Prop} : ∀ {ts : List Ty} {r : Dens ts} {us : List Value}, flats ts = true → RepDs w G ts r us → RepDs w G' ts r us
  | [], _, _, _, h => h
  | [t], x, _, hf, h => by
    obtain ⟨u, rfl, hu⟩ := h
    have hf' : (t.flat && true) = true := hf
    rw [Bool.and_true] at hf'
    refine ⟨u, rfl, ?_⟩
    unfold RepV at hu ⊢
    split
    · rename_i hm; rw [if_pos hm] at hu; obtain ⟨cs, rfl, h⟩ := hu; exact ⟨cs, rfl, RepC_flat hf' h⟩
    · rename_i hm; rw [if_neg hm] at hu; exact RepC_flat hf' hu
  | t :: t' :: ts, x, _, hf, h => by
    obtain ⟨u, us', rfl, hu, hr⟩ := h
    have hf' : (t.flat && flats (t' :: ts)) = true := hf
    rw [Bool.and_eq_true] at hf'
    refine ⟨u, us', rfl, ?_, RepDs_flat hf'.2 hr⟩
    unfold RepV at hu ⊢
    split
    · rename_i hm; rw [if_pos hm] at hu; obtain ⟨cs, rfl, h⟩ := hu; exact ⟨cs, rfl, RepC_flat hf'.1 h⟩
    · rename_i hm; rw [if_neg hm] at hu; exact RepC_flat hf'.1 hu
theorem RepDs_mono {G' : Nat → Prop} (hG : ∀ k, G k → k < w.heap.size → G' k) : ∀ {ts : List Ty} {r : Dens ts} {us : List Value}, RepDs w G ts r us → RepDs w G' ts r us
  | [], _, _, h => h
  | [t], x, _, h => by obtain ⟨u, rfl, hu⟩ := h; exact ⟨u, rfl, RepV_mono hG hu⟩
  | t :: t' :: ts, x, _, h => by obtain ⟨u, us', rfl, hu, hr⟩ := h; exact ⟨u, us', rfl, RepV_mono hG hu, RepDs_mono hG hr⟩
theorem RepAD_mono {G' : Nat → Prop} {a : ATy} {x : ADen a} {u : Value} (hG : ∀ k, G k → k < w.heap.size → G' k) (h : RepAD P w G a x u) : RepAD P w G' a x u := by
  cases a with
  | v t => exact RepV_mono hG h
  | clo dom cod => exact Clos_mono hG h
  | ptrD t =>
    obtain ⟨ad, cs, h1, h2, h3, h4, h5⟩ := h
    exact ⟨ad, cs, h1, hG _ h2 h3, h3, h4, RepC_mono hG h5⟩
  | ptrC dom cod =>
    obtain ⟨ad, v, h1, h2, h3, h4, h5⟩ := h
    exact ⟨ad, v, h1, hG _ h2 h3, h3, h4, Clos_mono hG h5⟩
theorem RepADs_mono {G' : Nat → Prop} (hG : ∀ k, G k → k < w.heap.size → G' k) : ∀ {axs : List ATy} {x : ADens axs} {us : List Value}, RepADs P w G axs x us → RepADs P w G' axs x us
  | [], _, _, h => h
  | a :: axs, _, _, h => by obtain ⟨u, us', rfl, hu, hr⟩ := h; exact ⟨u, us', rfl, RepAD_mono hG hu, RepADs_mono hG hr⟩
end
end Go.Vx

end
section
set_option linter.unusedVariables false
set_option linter.unusedSimpArgs false
namespace Go.Vx
open Go Go.RowKit
section
variable {P : Program} {pn : Nat → Value} {w0 w w' : World} {F G : Nat → Prop} {β : Nat → Value} {σ : St} {tmps : Array Value} {ob : List (Option Obj)}
theorem cloArgs_rep : ∀ {axs : List ATy} {n : Nat} {caps : List V0} {d : Ty} {g : Den d → Option (ADens axs)} {x : Den d} {y : ADens axs} {vs cus : List Value}, cloArgs ob axs n caps d = some g →
    RepL (RepV0 P w G β ob) caps cus → RepVs w G d x vs → g x = some y → RepADs P w G axs y (vs ++ cus)
  | axs, 0, caps, .unit, g, x, y, vs, cus, hg, hc, hv, hy => by
    have hg' : (match packArgs false ob axs caps with
      | some y => some fun (_ : Unit) => some y
      | none => none) = some g := by cases axs <;> exact hg
    cases h1 : packArgs false ob axs caps with
    | none => rw [h1] at hg'; cases hg'
    | some z =>
      rw [h1] at hg'
      injection hg' with hg'
      subst hg'
      have hy' : some z = some y := hy
      injection hy' with hy'
      subst hy'
      rw [show vs = [] from hv]
      exact rep_packArgs (w0 := w) (fun _ h => h) (fun h => by cases h) h1 hc
  | .v t :: axs, n + 1, caps, .pair t' d, g, x, y, vs, cus, hg, hc, hv, hy => by
    have hg' : (match cloArgs ob axs n caps d with
      | some g => some fun (x : Den t' × Den d) => match castD (t' := t) x.1, g x.2 with
        | some a, some r => some ((a, r) : ADens (.v t :: axs))
        | _, _ => none
      | none => none) = some g := hg
    cases h1 : cloArgs ob axs n caps d with
    | none => rw [h1] at hg'; cases hg'
    | some g1 =>
      rw [h1] at hg'
      injection hg' with hg'
      subst hg'
      obtain ⟨v, vs', rfl, hv1, hv2⟩ := hv
      cases h2 : castD (t' := t) x.1 with
      | none => simp only [h2] at hy; cases hy
      | some a =>
        cases h3 : g1 x.2 with
        | none => simp only [h2, h3] at hy; cases hy
        | some r =>
          simp only [h2, h3] at hy
          injection hy with hy
          subst hy
          obtain ⟨e, rfl⟩ := castD_some h2
          subst e
          exact ⟨v, vs' ++ cus, rfl, hv1, cloArgs_rep h1 hc hv2 h3⟩
  | [], _ + 1, _, _, g, _, _, _, _, hg, _, _, _ => by cases hg
  | .clo _ _ :: _, _ + 1, _, _, g, _, _, _, _, hg, _, _, _ => by cases hg
  | .ptrD _ :: _, _ + 1, _, _, g, _, _, _, _, hg, _, _, _ => by cases hg
  | .ptrC _ _ :: _, _ + 1, _, _, g, _, _, _, _, hg, _, _, _ => by cases hg
  | .v _ :: _, _ + 1, _, .int _, g, _, _, _, _, hg, _, _, _ => by cases hg
  | .v _ :: _, _ + 1, _, .bool, g, _, _, _, _, hg, _, _, _ => by cases hg
  | .v _ :: _, _ + 1, _, .str, g, _, _, _, _, hg, _, _, _ => by cases hg
  | .v _ :: _, _ + 1, _, .sl _, g, _, _, _, _, hg, _, _, _ => by cases hg
  | .v _ :: _, _ + 1, _, .unit, g, _, _, _, _, hg, _, _, _ => by cases hg
  | axs, 0, _, .int _, g, _, _, _, _, hg, _, _, _ => by cases axs <;> cases hg
  | axs, 0, _, .bool, g, _, _, _, _, hg, _, _, _ => by cases axs <;> cases hg
  | axs, 0, _, .str, g, _, _, _, _, hg, _, _, _ => by cases axs <;> cases hg
  | axs, 0, _, .sl _, g, _, _, _, _, hg, _, _, _ => by cases axs <;> cases hg
  | axs, 0, _, .pair _ _, g, _, _, _, _, hg, _, _, _ => by cases axs <;> cases hg
theorem cloFirst_rep : ∀ {axs : List ATy} {first : List V0} {n : Nat} {caps : List V0} {d : Ty} {g : Den d → Option (ADens axs)} {x : Den d} {y : ADens axs} {fus vs cus : List Value}, cloFirst ob axs first n caps d = some g →
    RepL (RepV0 P w G β ob) first fus → RepL (RepV0 P w G β ob) caps cus → RepVs w G d x vs → g x = some y → RepADs P w G axs y (fus ++ (vs ++ cus))
  | axs, [], n, caps, d, g, x, y, fus, vs, cus, hg, hf, hc, hv, hy => by
    rw [show fus = [] from hf]
    show RepADs P w G axs y (vs ++ cus)
    exact cloArgs_rep (by cases axs <;> exact hg) hc hv hy
  | [], _ :: _, _, _, _, g, _, _, _, _, _, hg, _, _, _, _ => by cases hg
  | a :: axs, v :: first, n, caps, d, g, x, y, fus, vs, cus, hg, hf, hc, hv, hy => by
    have hg' : (match packArg false ob a v, cloFirst ob axs first n caps d with
      | some x, some g => some fun (y : Den d) => match g y with
        | some r => some ((x, r) : ADens (a :: axs))
        | none => none
      | _, _ => none) = some g := hg
    cases h1 : packArg false ob a v with
    | none => rw [h1] at hg'; cases hg'
    | some x1 =>
      cases h2 : cloFirst ob axs first n caps d with
      | none => rw [h1, h2] at hg'; cases hg'
      | some g1 =>
        rw [h1, h2] at hg'
        injection hg' with hg'
        subst hg'
        cases h3 : g1 x with
        | none => simp only [h3] at hy; cases hy
        | some r =>
          simp only [h3] at hy
          injection hy with hy
          subst hy
          obtain ⟨u, us, rfl, hu, hr⟩ := hf
          exact ⟨u, us ++ (vs ++ cus), rfl, rep_packArg (w0 := w) (fun _ h => h) (fun h => by cases h) h1 hu, cloFirst_rep h2 hr hc hv h3⟩
theorem clo_sound {f : FuncId} {S : Spec} {first caps : List V0} {fus cus : List Value} {b : B} (hS : Sound P f S) (hb : cloOf ob S first caps = some b) (hf : RepL (RepV0 P w G β ob) first fus)
    (hc : RepL (RepV0 P w G β ob) caps cus) : RepB P w G b (.func (.func f) fus.toArray cus.toArray) := by
  obtain ⟨ats, rts, SF⟩ := S
  unfold cloOf at hb
  cases rts with
  | nil => cases hb
  | cons c r => cases r with
    | cons _ _ => cases hb
    | nil =>
      simp only at hb
      split at hb
      · rename_i d hd
        split at hb
        · rename_i g hg
          injection hb with hb
          subst hb
          refine ⟨f, fus.toArray, cus.toArray, rfl, hS.1, fun w' F' x vs r hA hFF hvs hr => ?_⟩
          cases hgx : g x with
          | none => simp only [hgx] at hr; cases hr
          | some y =>
            simp only [hgx] at hr
            have hmv : ∀ {l : List V0} {us : List Value}, RepL (RepV0 P w G β ob) l us → RepL (RepV0 P w' F' β ob) l us := fun h => RepL_imp (fun _ _ h => RepV0_imp (fun _ _ h => RepA_go hA hFF h) h) h
            have had := cloFirst_rep hg (hmv hf) (hmv hc) hvs hgx
            have := hS.2 w' F' y _ r had hr
            rw [show fus.toArray ++ vs.toArray ++ cus.toArray = (fus ++ (vs ++ cus)).toArray from by simp]
            refine this.mono ?_
            rintro e w'' ⟨us, rfl, ⟨u, rfl, hu⟩, hbel⟩
            exact ⟨u, rfl, hu, hbel⟩
        · cases hb
      · cases hb

theorem rep_const (v : Value) : RepW P w G β ob (constV v) v := by
  cases v with
  | int k n => exact rfl
  | bool b => exact rfl
  | string s => exact rfl
  | slice a n c =>
    cases a with
    | none =>
      cases n with
      | zero => cases c with
        | zero => exact rfl
        | succ c => exact trivial
      | succ n => exact trivial
    | some a => exact trivial
  | _ => exact trivial
theorem rep_opnd {E : Env} (hE : EnvOK P E) {a : Act} (h : Holds P pn w0 F β G σ w a.tmps) (x : Operand) : RepW P w G β σ.ob (opnd E σ x) (a.eval x) := by
  cases x with
  | tmp t =>
    show RepW P w G β σ.ob (σ.tm.getD t undefV) (a.tmps.getD t undef)
    rw [List.getD_eq_getElem?_getD]
    cases ht : σ.tm[t]? with
    | none => exact trivial
    | some v => exact h.tms t v ht
  | const v => exact rep_const v
  | global g => exact trivial
  | func f =>
    show RepW P w G β σ.ob (match find E.fns f with
      | some S => match cloOf σ.ob S [] [] with
        | some b => .v (.one (.b b))
        | none => undefV
      | none => undefV) (.func (.func f) #[] #[])
    cases hf : find E.fns f with
    | none => exact trivial
    | some S =>
      simp only
      cases hb : cloOf σ.ob S [] [] with
      | none => exact trivial
      | some b => exact clo_sound (β := β) (fus := []) (cus := []) (hE.fns f S hf) hb rfl rfl
theorem rep_opnd0 {E : Env} (hE : EnvOK P E) {a : Act} (h : Holds P pn w0 F β G σ w a.tmps) {x : Operand} {v : V0} (hv : opnd0 E σ x = some v) : RepV0 P w G β σ.ob v (a.eval x) := by
  have h1 := rep_opnd hE h x
  unfold opnd0 at hv
  cases ho : opnd E σ x with
  | tup xs => rw [ho] at hv; cases hv
  | v y =>
    rw [ho] at hv h1
    injection hv with hv
    subst hv
    exact h1
theorem rep_opnds0 {E : Env} (hE : EnvOK P E) {a : Act} (h : Holds P pn w0 F β G σ w a.tmps) : ∀ {xs : List Operand} {vs : List V0}, opnds0 E σ xs = some vs → RepL (RepV0 P w G β σ.ob) vs (xs.map a.eval)
  | [], vs, hv => by
    have h' : some ([] : List V0) = some vs := hv
    injection h' with h'
    subst h'
    exact rfl
  | x :: xs, vs, hv => by
    have hv' : (match opnd0 E σ x, opnds0 E σ xs with
      | some v, some vs => some (v :: vs)
      | _, _ => none) = some vs := hv
    cases h1 : opnd0 E σ x with
    | none => rw [h1] at hv'; cases hv'
    | some v =>
      cases h2 : opnds0 E σ xs with
      | none => rw [h1, h2] at hv'; cases hv'
      | some vs' =>
        rw [h1, h2] at hv'
        injection hv' with hv'
        subst hv'
        exact ⟨a.eval x, xs.map a.eval, rfl, rep_opnd0 hE h h1, rep_opnds0 hE h h2⟩
end
end Go.Vx

end
section
set_option linter.unusedVariables false
set_option linter.unusedSimpArgs false
namespace Go.Vx
open Go Go.RowKit
section
variable {P : Program} {pn : Nat → Value} {E : Env} {w0 w w' : World} {F G : Nat → Prop} {β : Nat → Value} {σ : St} {a : Act} {R : Type} {r : R}

theorem run_info {t : TypeId} {i : TypeInfo} (h : P.info? t = some i) (w : World) : (typeInfo t).run P w = .ok i w := by
  simp [typeInfo, program, Sem.run_bind, Sem.run, h, Result.andThen]
theorem run_size {t : TypeId} {i : TypeInfo} (h : P.info? t = some i) (w : World) : (sizeOf t).run P w = .ok i.size w := by
  simp [sizeOf, Sem.run_bind, run_info h, Result.andThen]
theorem run_zero {t : TypeId} {i : TypeInfo} {z : Value} (h : P.info? t = some i) (hz : i.zero = some z) (w : World) : (zeroValue t).run P w = .ok z w := by
  simp [zeroValue, Sem.run_bind, run_info h, Result.andThen, hz]
theorem run_agg {t : TypeId} {d : TypeDesc} (h : P.underlying t = some d) (w : World) : (isAgg t).run P w = .ok (aggIs d) w := by
  simp [isAgg, Sem.run_bind, run_underlying h, Result.andThen]
  cases d <;> rfl

theorem op_value {o : Oper} {next : Act → World → Prop} {Q : Exit → Act → World → Prop} {v : Value} (hr : (execOp a.eval o).run P w = .ok (.value v) w') (hn : next (a.put o.dst v) w') : o.wp P a w next Q := by
  unfold Oper.wp
  rw [hr]
  exact hn
theorem op_skip {o : Oper} {next : Act → World → Prop} {Q : Exit → Act → World → Prop} (hr : (execOp a.eval o).run P w = .ok .skip w') (hn : next (a.put o.dst undef) w') : o.wp P a w next Q := by
  unfold Oper.wp
  rw [hr]
  exact hn
theorem inv_put (hd : a.defers = []) (h : Holds P pn w0 F β G σ w a.tmps) {v : V} {u : Value} (hv : RepW P w G β σ.ob v u) (d : Option Nat) : Inv P pn w0 F (σ.put d v) (a.put d u) w := by
  cases d with
  | none => exact ⟨hd, β, G, h⟩
  | some d => exact ⟨hd, β, G, h.put d hv⟩

theorem load_cells {ad : Addr} {cs : List Value} (hc : ∀ (j : Nat) (v : Value), cs[j]? = some v → w.cell? (ad.add j) = some v) {T : TypeId} {inf : TypeInfo} {d : TypeDesc} (hi : P.info? T = some inf) (hd : P.underlying T = some d)
    (hl : cs.length = inf.size) (hone : aggIs d = false → cs.length = 1) : (Instr.loadAt T (.pointer (some ad))).run P w = .ok (if aggIs d = true then .agg cs.toArray else (cs.head?.getD undef)) w := by
  unfold Instr.loadAt
  simp only [Instr.sureAddr, Sem.run_bind, Sem.run_pure, Result.andThen_ok, loadVar, run_agg hd]
  cases hag : aggIs d with
  | true =>
    simp only [if_true, Sem.run_bind, run_size hi, Result.andThen_ok, ← hl]
    rw [run_loadCells_list w ad cs hc]
    simp [Result.andThen]
  | false =>
    have h1 := hone hag
    match cs, h1 with
    | [v], _ =>
      have := hc 0 v rfl
      have had : ad.add 0 = ad := by simp [Addr.add]
      rw [had] at this
      simp [load, Sem.run, this]
theorem cut_some {α : Type} {l : List α} {off n : Nat} {x : List α} (h : cut l off n = some x) : off + n ≤ l.length ∧ x = (l.drop off).take n := by
  unfold cut at h
  cases hb : leN (off + n) l.length with
  | false => rw [hb] at h; cases h
  | true =>
    rw [hb] at h
    have h' : some ((l.drop off).take n) = some x := h
    injection h' with h'
    exact ⟨Nat.le_of_ble_eq_true hb, h'.symm⟩
theorem valOf_rep {agg : Bool} {axs : List A} {v : V0} {cs : List Value} {ob : List (Option Obj)} (hv : valOf agg axs = some v) (h : RepL (RepA P w G β ob) axs cs) :
    (agg = false → cs.length = 1) ∧ RepV0 P w G β ob v (if agg = true then .agg cs.toArray else (cs.head?.getD undef)) := by
  cases agg with
  | true =>
    have h' : some (V0.agg axs) = some v := hv
    injection h' with h'
    subst h'
    exact ⟨fun h => (by cases h), cs, rfl, h⟩
  | false =>
    cases axs with
    | nil => cases hv
    | cons x xs => cases xs with
      | cons _ _ => cases hv
      | nil =>
        have h' : some (V0.one x) = some v := hv
        injection h' with h'
        subst h'
        obtain ⟨u, rfl, hu⟩ := RepL_single h
        exact ⟨fun _ => rfl, hu⟩
theorem oget_some {α : Type} {xs : List α} {i : Int} {k : α → Option R} (h : oget xs i k = some r) : 0 ≤ i ∧ ∃ x, xs[i.toNat]? = some x ∧ k x = some r := by
  unfold oget at h
  cases hb : decide (0 ≤ i) with
  | false => rw [hb] at h; cases h
  | true =>
    rw [hb] at h
    refine ⟨of_decide_eq_true hb, ?_⟩
    have h' : (match xs[i.toNat]? with | some x => k x | none => none) = some r := h
    cases hx : xs[i.toNat]? with
    | none => rw [hx] at h'; cases h'
    | some x => rw [hx] at h'; exact ⟨x, rfl, h'⟩
theorem oif_some {b : Bool} {k : Option R} (h : oif b k = some r) : b = true ∧ k = some r := by
  cases b with
  | false => cases h
  | true => exact ⟨rfl, h⟩
theorem cond_some {b : Bool} {k : Option R} (h : cond b k none = some r) : b = true ∧ k = some r := by
  cases b with
  | false => cases h
  | true => exact ⟨rfl, h⟩
theorem obind_eq {α : Type} {m : Option α} {k : α → Option R} (h : obind m k = some r) : ∃ x, m = some x ∧ k x = some r := by
  cases m with
  | none => cases h
  | some x => exact ⟨x, rfl, h⟩
theorem caseB_some {b : Bool} {k : Bool → Option R} (h : caseB b k = some r) : k b = some r := by cases b <;> exact h
theorem isBox_some {ob : List (Option Obj)} {o : Nat} {cells : List A} (h : isBox ob o = some cells) : ob[o]? = some (some (.box cells)) := by
  unfold isBox at h
  split at h
  · rename_i c hc
    injection h with h
    subst h
    exact hc
  · cases h
theorem add_at (g o j : Nat) : (⟨g, o, none⟩ : Addr).add j = ⟨g, o + j, none⟩ := by unfold Addr.add; split <;> simp_all
theorem cell_in {g : Nat} {cs : Array Value} {ty : TypeId} {fr : Nat × Nat} (h : w.heap[g]? = some (.cells cs ty fr)) (o : Nat) : w.cell? ⟨g, o, none⟩ = cs[o]? := by simp [World.cell?, h]

theorem loadK_sound (hE : EnvOK P E) {tmps : Array Value} (h : Holds P pn w0 F β G σ w tmps) {T : TypeId} {av : V} {u : Value} {K : V0 → Option R} (hk : loadK E σ T av K = some r) (hv : RepW P w G β σ.ob av u) :
    ∃ v val, K v = some r ∧ (Instr.loadAt T u).run P w = .ok val w ∧ RepV0 P w G β σ.ob v val := by
  unfold loadK at hk
  split at hk
  · -- what is read
    rename_i i cells hi
    obtain ⟨inf, d, z, h1, h2, h3, _, h5, _⟩ := (told hE hi).ex
    split at hk
    · rename_i cs hc
      split at hk
      · rename_i v hvo
        obtain ⟨ad, us, rfl, hg, hlt, hcell, hL⟩ := hv
        obtain ⟨hle, rfl⟩ := cut_some hc
        have hlen := RepL_len hL
        have hL2 := RepL_take i.size hL
        simp only [List.drop_zero] at hvo
        have hL3 : RepL (RepA P w G β σ.ob) ((cells.take i.size).map A.b) (us.take i.size) := RepL_mapr hL2
        obtain ⟨ho, hr⟩ := valOf_rep hvo hL3
        refine ⟨v, _, hk, load_cells (cs := us.take i.size) (fun j x hj => ?_) h1 h2 (by rw [List.length_take, h3]; omega) (fun hf => ho (h5 ▸ hf)), by rw [h5]; exact hr⟩
        rw [List.getElem?_take] at hj
        split at hj
        · exact hcell j x hj
        · cases hj
      · cases hk
    · cases hk
  · -- a variable of the call's own
    rename_i i o off hi
    obtain ⟨inf, d, z, h1, h2, h3, _, h5, _⟩ := (told hE hi).ex
    split at hk
    · rename_i cells hb
      have hob := isBox_some hb
      split at hk
      · rename_i cs hc
        split at hk
        · rename_i v hvo
          obtain ⟨_, g, hβ, rfl⟩ := hv
          obtain ⟨g', us, ty, hβ', hg0, hh, hL⟩ := h.obs o _ hob
          rw [hβ] at hβ'
          injection hβ' with hβ'; injection hβ' with hβ'; injection hβ' with hβ'
          subst hβ'
          obtain ⟨hle, rfl⟩ := cut_some hc
          have hlen := RepL_len hL
          have hL2 := RepL_take i.size (RepL_drop off hL)
          obtain ⟨ho, hr⟩ := valOf_rep hvo hL2
          refine ⟨v, _, hk, load_cells (cs := (us.drop off).take i.size) (fun j x hj => ?_) h1 h2 (by rw [List.length_take, List.length_drop, h3]; omega) (fun hf => ho (h5 ▸ hf)), by rw [h5]; exact hr⟩
          rw [add_at, cell_in hh]
          rw [List.getElem?_take] at hj
          split at hj
          · rw [List.getElem?_drop] at hj
            simpa using hj
          · cases hj
        · cases hk
      · cases hk
    · cases hk
  · -- an element of a row of the call's own
    rename_i i o ver j off hi
    obtain ⟨inf, d, z, h1, h2, h3, _, h5, _⟩ := (told hE hi).ex
    split at hk
    · rename_i e t xs ver' hob
      obtain ⟨hve, hk⟩ := cond_some hk
      have hve' : ver' = ver := Nat.eq_of_beq_eq_true hve
      obtain ⟨_, x, hx, hk⟩ := oget_some hk
      rw [Int.toNat_natCast] at hx
      split at hk
      · rename_i cs hc
        split at hk
        · rename_i v hvo
          obtain ⟨e2, t2, xs2, ver2, hob2, hle2, _, hu⟩ := hv
          rw [hob] at hob2
          injection hob2 with hob2; injection hob2 with hob2
          injection hob2 with q1 q2 q3 q4
          subst q1; subst q2; subst q4
          obtain ⟨g, n, c, hβ, rfl⟩ := hu hve'.symm
          obtain ⟨us, ho, hr, hs⟩ := h.obs o _ hob
          rcases ho.2 with ⟨hb1, hb2⟩ | ⟨g', cap, cur, hb1, hg, hh, hc1, hc2, hsz, htk⟩
          · rw [hβ] at hb1; cases hb1
          rw [hβ] at hb1
          injection hb1 with hb1 _ _; injection hb1 with hb1; injection hb1 with hb1
          subst hb1
          obtain ⟨cx, ca, cb, hce, hla, hlc, hrc, _⟩ := RepRows_get hr hx
          obtain ⟨hle, rfl⟩ := cut_some hc
          have hL : RepL (RepA P w G β σ.ob) (unpackA t x) cx := rep_unpackA hrc
          have hlen := RepL_len hL
          have hL2 := RepL_take i.size (RepL_drop off hL)
          obtain ⟨ho1, hr1⟩ := valOf_rep hvo hL2
          refine ⟨v, _, hk, load_cells (cs := (cx.drop off).take i.size) (fun q y hq => ?_) h1 h2 (by rw [List.length_take, List.length_drop, h3]; omega) (fun hf => ho1 (h5 ▸ hf)), by rw [h5]; exact hr1⟩
          rw [add_at, cell_in hh]
          rw [List.getElem?_take] at hq
          split at hq
          · rename_i hqn
            rw [List.getElem?_drop] at hq
            have hlt : off + q < cx.length := (List.getElem?_eq_some_iff.1 hq).1
            have h4 : (cur.toList.take (xs.length * t.sz))[j * t.sz + off + q]? = some y := by
              rw [htk, hce, List.getElem?_append_right (by omega), List.getElem?_append_left (by omega), show j * t.sz + off + q - ca.length = off + q from by omega]
              exact hq
            rw [List.getElem?_take] at h4
            split at h4
            · simpa using h4
            · cases h4
          · cases hq
        · cases hk
      · cases hk
    · cases hk
  · cases hk
end
end Go.Vx

end
section
set_option linter.unusedVariables false
set_option linter.unusedSimpArgs false
namespace Go.Vx
open Go Go.RowKit
section
variable {P : Program} {pn : Nat → Value} {E : Env} {w0 w w' : World} {F G : Nat → Prop} {β : Nat → Value} {σ : St} {a : Act} {R : Type} {r : R}

theorem grownBy_setRow {g : Nat} {cur : Array Value} {t : TypeId} (h : w.heap[g]? = some (.cells cur t (0, 0))) (cs : Array Value) : w.grownBy (w.setRow g cs) (some g) := by
  refine ⟨rfl, rfl, rfl, ?_, fun k hk hne => ?_⟩
  · simp [World.setRow]
  · have hne' : k ≠ g := fun e => hne (by rw [e])
    simp only [World.setRow, Array.getElem?_modify]
    rw [if_neg (fun e => hne' e.symm)]
theorem splice_len {α : Type} (l v : List α) (o : Nat) (h : o + v.length ≤ l.length) : (l.take o ++ v ++ l.drop (o + v.length)).length = l.length := by
  simp; omega
theorem replace_rep {R : A → Value → Prop} {cells new : List A} {cs vs : List Value} {off : Nat} (h : RepL R cells cs) (hn : RepL R new vs) (hl : off + new.length ≤ cells.length) :
    RepL R (replaceAt cells off new) (cs.take off ++ vs ++ cs.drop (off + vs.length)) := by
  unfold replaceAt
  rw [List.append_assoc, RepL_len hn]
  exact RepL_join (RepL_take off h) (RepL_join hn (RepL_drop _ h))

theorem knowns_one {ob : List (Option Obj)} : ∀ {axs : List A} {vs : List Value}, knowns axs = true → RepL (RepA P w G β ob) axs vs → ∀ v ∈ vs, v.oneCell' = true
  | [], _, _, h => by rw [show _ = _ from h]; intro v hv; simp at hv
  | x :: axs, _, hk, h => by
    obtain ⟨u, us, rfl, hu, hr⟩ := h
    have hk' : (known x && knowns axs) = true := hk
    rw [Bool.and_eq_true] at hk'
    intro v hv
    rcases List.mem_cons.1 hv with rfl | hv
    · exact RepA_one hu ⟨fun e => (by rw [e] at hk'; cases hk'.1), fun e => (by rw [e] at hk'; cases hk'.1)⟩
    · exact knowns_one hk'.2 hr v hv
theorem storeVar_run {T : TypeId} {inf : TypeInfo} (h1 : P.info? T = some inf) {val : Value} (hlen : val.cells.toList.length = inf.size) {g off : Nat} {ty : TypeId} {cur : Array Value} (hh : w.heap[g]? = some (.cells cur ty (0, 0)))
    (hle : off + inf.size ≤ cur.size) (hone : ∀ v ∈ val.cells.toList, v.oneCell' = true) :
    (Instr.storeAt T (.pointer (some ⟨g, off, none⟩)) val).run P w = .ok () (w.setRow g (cur.toList.take off ++ val.cells.toList ++ cur.toList.drop (off + val.cells.toList.length)).toArray) := by
  have hrun := run_storeCells_at (P := P) g off ty val.cells.toList 0 cur w hh (by omega) hone
  unfold Instr.storeAt storeVar
  simp only [Instr.sureAddr, Sem.run_bind, Sem.run_pure, Result.andThen_ok, run_size h1]
  rw [if_neg (by simp at hlen ⊢; omega)]
  simpa using hrun

theorem storeK_sound (hE : EnvOK P E) {tmps : Array Value} (h : Holds P pn w0 F β G σ w tmps) {T : TypeId} {av : V} {u val : Value} {x : V0} {K : St → Option R} (hk : storeK E σ T av x K = some r) (hv : RepW P w G β σ.ob av u) (hx : RepV0 P w G β σ.ob x val) :
    ∃ σ' w', K σ' = some r ∧ (Instr.storeAt T u val).run P w = .ok () w' ∧ ∃ β' G', Holds P pn w0 F β' G' σ' w' tmps := by
  unfold storeK at hk
  split at hk
  · rename_i i o off hi
    obtain ⟨inf, d, z, h1, h2, h3, _, h5, _⟩ := (told hE hi).ex
    split at hk
    · rename_i cells hb
      have hob := isBox_some hb
      obtain ⟨hc, hk⟩ := cond_some hk
      simp only [Bool.and_eq_true] at hc
      obtain ⟨hc1, hc2, hc3, hc4⟩ := hc
      have hlen : (cellsV x).length = i.size := Nat.eq_of_beq_eq_true hc1
      have hpos : 1 ≤ i.size := Nat.le_of_ble_eq_true hc2
      have hle : off + i.size ≤ cells.length := Nat.le_of_ble_eq_true hc3
      obtain ⟨_, g, hβ, rfl⟩ := hv
      obtain ⟨g', us, ty, hβ', hg0, hh, hL⟩ := h.obs o _ hob
      rw [hβ] at hβ'
      injection hβ' with hβ'; injection hβ' with hβ'; injection hβ' with hβ'
      subst hβ'
      have hvs := rep_cells hx (by omega)
      have hvl := RepL_len hvs
      have hul := RepL_len hL
      have hrun := storeVar_run (w := w) h1 (val := val) (by omega) (off := off) hh (by simp; omega) (knowns_one hc4 hvs)
      refine ⟨_, _, hk, hrun, upd β o (β o), Old G w, ?_⟩
      refine h.obj o (some g) (β o) _ hob (grownBy_setRow hh _) (.inr ⟨_, rfl, by rw [hβ]; rfl⟩) (fun k hkk => .inl ⟨_, rfl, hkk⟩) (Ext.box hob) ?_
      refine ⟨g, _, ty, (upd_same _ _ _).trans hβ, hg0, setRow_heap w g _ _ ty _ hh, ?_⟩
      have hA : Agree G w (w.setRow g (us.toArray.toList.take off ++ val.cells.toList ++ us.toArray.toList.drop (off + val.cells.toList.length)).toArray) :=
        ⟨(grownBy_setRow hh _).size, fun k hkk hlt => (grownBy_setRow hh _).block k hlt (fun e => by
          injection e with e
          exact h.notG o _ k hob (by rw [hβ, e]; rfl) hkk)⟩
      have hR := replace_rep (new := cellsV x) (off := off) hL hvs (by omega)
      exact RepL_imp (fun _ _ hq => RepA_ext (Ext.box hob) (RepA_go hA (fun k hkk hlt => ⟨hkk, hlt⟩) hq)) hR
    · cases hk
  · rename_i i o ver j off hi
    obtain ⟨inf, d, z, h1, h2, h3, _, h5, _⟩ := (told hE hi).ex
    split at hk
    · rename_i e t xs ver' hob
      obtain ⟨hc, hk⟩ := cond_some hk
      simp only [Bool.and_eq_true] at hc
      obtain ⟨hve, hc1, hc2, hc3⟩ := hc
      have hve' : ver' = ver := Nat.eq_of_beq_eq_true hve
      have hlen : (cellsV x).length = i.size := Nat.eq_of_beq_eq_true hc1
      have hpos : 1 ≤ i.size := Nat.le_of_ble_eq_true hc2
      have hle : off + i.size ≤ t.sz := Nat.le_of_ble_eq_true hc3
      obtain ⟨_, y, hy, hk⟩ := oget_some hk
      rw [Int.toNat_natCast] at hy
      split at hk
      · rename_i z' hp
        obtain ⟨e2, t2, xs2, ver2, hob2, hle2, _, hu⟩ := hv
        rw [hob] at hob2
        injection hob2 with hob2; injection hob2 with hob2
        injection hob2 with q1 q2 q3 q4
        subst q1; subst q2; subst q4
        obtain ⟨g, n, c, hβ, rfl⟩ := hu hve'.symm
        obtain ⟨us, ho, hr, hs⟩ := h.obs o _ hob
        rcases ho.2 with ⟨hb1, hb2⟩ | ⟨g', cap, cur, hb1, hg, hh, hcc1, hcc2, hsz, htk⟩
        · rw [hβ] at hb1; cases hb1
        rw [hβ] at hb1
        injection hb1 with hb1 hbn hbc; injection hb1 with hb1; injection hb1 with hb1
        subst hb1; subst hbc
        obtain ⟨cx, ca, cb, hce, hla, hlc, hrc, hset⟩ := RepRows_get hr hy
        have hvs := rep_cells hx (by omega)
        have hvl := RepL_len hvs
        have hL : RepL (RepA P w G β σ.ob) (unpackA t y) cx := rep_unpackA hrc
        have hul := RepL_len hL
        have hR := replace_rep (new := cellsV x) (off := off) hL hvs (by omega)
        obtain ⟨d1, d2, hd12, hz1, hz2⟩ := rep_packA (w0 := w) (fun _ h => h) (fun h => by cases h) hp hR
        rw [show d2 = [] from hz2, List.append_nil] at hd12
        have hcsl := RepRows_len hr
        have hj : j * t.sz + t.sz ≤ xs.length * t.sz := by
          have : j < xs.length := (List.getElem?_eq_some_iff.1 hy).1
          calc j * t.sz + t.sz = (j + 1) * t.sz := by rw [Nat.add_mul, Nat.one_mul]
            _ ≤ xs.length * t.sz := Nat.mul_le_mul_right _ this
        have hcap : xs.length * t.sz ≤ cur.size := by rw [hsz]; exact Nat.mul_le_mul_right _ hcc1
        have hone : ∀ v ∈ val.cells.toList, v.oneCell' = true := by
          intro v hv
          have := RepC_one hz1 v
          rw [← hd12] at this
          exact this (by simp [hv])
        have hrun := storeVar_run (w := w) h1 (val := val) (by omega) (off := j * t.sz + off) hh (by omega) hone
        refine ⟨_, _, hk, hrun, upd β o (β o), Old G w, ?_⟩
        have hgrow := grownBy_setRow hh (cur.toList.take (j * t.sz + off) ++ val.cells.toList ++ cur.toList.drop (j * t.sz + off + val.cells.toList.length)).toArray
        refine h.obj o (some g) (β o) _ hob hgrow (.inr ⟨_, rfl, by rw [hβ]; rfl⟩) (fun k hkk => .inl ⟨_, rfl, hkk⟩) (Ext.row hob (Nat.le_refl _) (fun _ => rfl)) ?_
        have hA : Agree G w (w.setRow g (cur.toList.take (j * t.sz + off) ++ val.cells.toList ++ cur.toList.drop (j * t.sz + off + val.cells.toList.length)).toArray) :=
          ⟨hgrow.size, fun k hkk hlt => hgrow.block k hlt (fun e => by
            injection e with e
            exact h.notG o _ k hob (by rw [hβ, e]; rfl) hkk)⟩
        refine ⟨ca ++ (d1 ++ cb), ?_, ?_, hs⟩
        · refine ⟨by rw [RepRows_len (hset z' d1 hz1), List.length_set], .inr ⟨g, c, _, (upd_same _ _ _).trans (by rw [hβ, hbn, List.length_set]), hg, setRow_heap w g _ _ e _ hh, by rw [List.length_set]; exact hcc1, hcc2, ?_, ?_⟩⟩
          · rw [← hsz]
            have := splice_len cur.toList val.cells.toList (j * t.sz + off) (by have h9 : cur.toList.length = cur.size := Array.length_toList; omega)
            simpa using this
          · rw [List.length_set]
            have hsplit : cur.toList = (ca ++ (cx ++ cb)) ++ cur.toList.drop (xs.length * t.sz) := by
              rw [← hce, ← htk, List.take_append_drop]
            have hcl : (ca ++ (cx ++ cb)).length = xs.length * t.sz := by rw [← hce]; exact hcsl
            have e1 : cur.toList.take (j * t.sz + off) = ca ++ cx.take off := by
              rw [hsplit, List.take_append_of_le_length (by omega), ← hla, List.take_length_add_append, List.take_append_of_le_length (by omega)]
            have e2 : cur.toList.drop (j * t.sz + off + val.cells.toList.length) = (cx.drop (off + val.cells.toList.length) ++ cb) ++ cur.toList.drop (xs.length * t.sz) := by
              conv => lhs; rw [hsplit]
              rw [List.drop_append_of_le_length (by omega), ← hla, Nat.add_assoc, List.drop_length_add_append, List.drop_append_of_le_length (by omega)]
            have hd : d1 = cx.take off ++ val.cells.toList ++ cx.drop (off + val.cells.toList.length) := hd12.symm
            simp only [List.toList_toArray]
            rw [e1, e2, hd]
            have : ca ++ cx.take off ++ val.cells.toList ++ (cx.drop (off + val.cells.toList.length) ++ cb ++ cur.toList.drop (xs.length * t.sz)) = (ca ++ (cx.take off ++ val.cells.toList ++ cx.drop (off + val.cells.toList.length) ++ cb)) ++ cur.toList.drop (xs.length * t.sz) := by simp
            rw [this]
            apply List.take_left'
            rw [List.length_append, List.length_append, ← hd, RepC_len hz1, hla]
            rw [List.length_append, List.length_append] at hcl
            omega
        · exact RepRows_imp (fun _ _ hq => RepC_go hA (fun k hkk hlt => ⟨hkk, hlt⟩) hq) (hset z' d1 hz1)
      · cases hk
    · cases hk
  · cases hk
end
end Go.Vx

end
section
set_option linter.unusedVariables false
set_option linter.unusedSimpArgs false
namespace Go.Vx
open Go Go.RowKit
section
variable {P : Program} {pn : Nat → Value} {E : Env} {w0 w w' : World} {F G : Nat → Prop} {β : Nat → Value} {σ : St} {a : Act} {R : Type} {r : R}

theorem isFree_some {ob : List (Option Obj)} {d : Nat} (h : isFree ob d = true) : ob[d]? = some none := by
  unfold isFree at h
  split at h
  · rename_i hh; exact hh
  · cases h
theorem newObj_some {b : Nat} {σ : St} {d : Option Nat} {o : Obj} {v : Nat → A} {K : St → Option R} (h : newObj b σ d o v K = some r) :
    ∃ d', d = some d' ∧ σ.ob[b + d']? = some none ∧ K { tm := σ.tm.set d' (.v (.one (v (b + d')))), ob := σ.ob.set (b + d') (some o) } = some r := by
  unfold newObj at h
  split at h
  · rename_i d'
    obtain ⟨h1, h2⟩ := cond_some h
    exact ⟨d', rfl, isFree_some h1, h2⟩
  · cases h

theorem new_inv (hd : a.defers = []) (h : Holds P pn w0 F β G σ w a.tmps) {t d : Nat} {o : Obj} {x : A} {u : Value} (hfree : σ.ob[d]? = some none) (hg : w.grownBy w' none)
    (hu : ∀ k, blk u = some k → w.heap.size ≤ k) (hx : RepO P w0 w' (Old G w) (upd β d u) (σ.ob.set d (some o)) d o) (hv : RepA P w' (Old G w) (upd β d u) (σ.ob.set d (some o)) x u) (ho : ∀ vs, o ≠ .hid vs := by intro _ e; cases e) :
    Inv P pn w0 F { tm := σ.tm.set t (.v (.one x)), ob := σ.ob.set d (some o) } (a.put (some t) u) w' :=
  ⟨hd, upd β d u, Old G w, (h.obj d none u o hfree hg (.inl rfl) (fun k hk => .inr (hu k hk)) (Ext.new hfree) hx (fun vs e => absurd e (ho vs))).put t (v := .v (.one x)) hv⟩

theorem rep_grown (hg : w.grownBy w' none) {d : Nat} {u : Value} {o : Obj} (hfree : σ.ob[d]? = some none) {x : A} {v : Value} (h : RepA P w G β σ.ob x v) :
    RepA P w' (Old G w) (upd β d u) (σ.ob.set d (some o)) x v :=
  RepA_ext (Ext.new hfree) (RepA_go ⟨hg.size, fun k hk hlt => hg.block k hlt (by intro e; cases e)⟩ (fun k hk hlt => ⟨hk, hlt⟩) h)
theorem repc_grown (hg : w.grownBy w' none) {t : Ty} {x : Den t} {cs : List Value} (h : RepC w G t x cs) : RepC w' (Old G w) t x cs :=
  RepC_go (G := G) ⟨hg.size, fun k hk hlt => hg.block k hlt (by intro e; cases e)⟩ (fun k hk hlt => ⟨hk, hlt⟩) h

theorem newVar_inv (hd : a.defers = []) (h : Holds P pn w0 F β G σ w a.tmps) {t d : Nat} (hfree : σ.ob[d]? = some none) {cells : List A} {cs : List Value} {ty : TypeId} (hr : RepL (RepA P w G β σ.ob) cells cs) :
    Inv P pn w0 F { tm := σ.tm.set t (.v (.one (.ptr d 0))), ob := σ.ob.set d (some (.box cells)) } (a.put (some t) (.pointer (some ⟨w.heap.size, 0, none⟩))) (w.alloc (.cells cs.toArray ty)) := by
  have hg := World.grownBy_alloc w (.cells cs.toArray ty (0, 0)) none
  refine new_inv hd h hfree hg (fun k hk => ?_) ⟨w.heap.size, cs, ty, upd_same _ _ _, h.below.size, heap_alloc_new w _, RepL_imp (fun _ _ hq => rep_grown hg hfree hq) hr⟩ ⟨⟨cells, set_self hfree⟩, w.heap.size, upd_same _ _ _, rfl⟩
  have : w.heap.size = k := by simpa [blk] using hk
  omega
theorem newRow_inv (hd : a.defers = []) (h : Holds P pn w0 F β G σ w a.tmps) {q d : Nat} (hfree : σ.ob[d]? = some none) {e : TypeId} {t : Ty} (hsz : 0 < t.sz) {xs : List (Den t)} {cs : List Value} {v : Value}
    (hg : w.grownBy w' none) (ho : w'.ownsRow w.heap.size e t.sz v xs.length cs) (hr : RepRows w' (Old G w) t xs cs) :
    Inv P pn w0 F { tm := σ.tm.set q (.v (.one (.row d 0))), ob := σ.ob.set d (some (.row e t xs 0)) } (a.put (some q) v) w' := by
  have hown : w'.ownsRow w0.heap.size e t.sz v xs.length cs := by
    refine ⟨ho.1, ?_⟩
    rcases ho.2 with h2 | ⟨g, cap, cur, h1, h2, h3⟩
    · exact .inl h2
    · exact .inr ⟨g, cap, cur, h1, Nat.le_trans h.below.size h2, h3⟩
  have hone : v.oneCell' = true := by
    rcases ho.2 with ⟨rfl, _⟩ | ⟨g, cap, cur, rfl, _⟩ <;> rfl
  refine new_inv hd h hfree hg (fun k hk => ?_) ⟨cs, by rw [upd_same]; exact hown, hr, hsz⟩ ⟨e, t, xs, 0, set_self hfree, Nat.le_refl _, hone, fun _ => (upd_same _ _ _).symm⟩
  rcases ho.2 with ⟨rfl, _⟩ | ⟨g, cap, cur, rfl, h2, _⟩
  · cases hk
  · have : g = k := by simpa [blk] using hk
    omega

theorem zero_bytes {s s' : ByteArray} (h : s.data.size = 0) (h' : s'.data.size = 0) : s = s' := by
  cases s with
  | mk d => cases s' with
    | mk d' =>
      have h1 : d = #[] := Array.eq_empty_of_size_eq_zero h
      have h2 : d' = #[] := Array.eq_empty_of_size_eq_zero h'
      rw [h1, h2]
theorem zero_rep {ob : List (Option Obj)} : ∀ {x : A} {v : Value}, zeroIs x v = true → RepA P w G β ob x v
  | .undef, _, _ => trivial
  | .nil, v, h => by
    unfold zeroIs at h
    split at h <;> first | cases h | rfl | (rename_i h'; cases h') | skip
    all_goals first | rfl | (exfalso; simp_all)
  | .b (.d (.int k) n), v, h => by
    cases v <;> simp [zeroIs] at h
    obtain ⟨rfl, rfl⟩ := h
    rfl
  | .b (.d .bool b), v, h => by
    cases v <;> simp [zeroIs] at h
    subst h
    rfl
  | .b (.d .str s), v, h => by
    cases v <;> simp [zeroIs] at h
    rw [show s = _ from zero_bytes (by simp; exact h.1) (by simp; exact h.2)]
    rfl
  | .b (.d (.sl _) _), v, h => by simp [zeroIs] at h
  | .b (.d .unit _), v, h => by simp [zeroIs] at h
  | .b (.d (.pair _ _) _), v, h => by simp [zeroIs] at h
  | .b (.cl _ _ _), v, h => by simp [zeroIs] at h
  | .rdp _, v, h => by simp [zeroIs] at h
  | .ptr _ _, v, h => by simp [zeroIs] at h
  | .rowp _ _ _ _, v, h => by simp [zeroIs] at h
  | .row _ _, v, h => by simp [zeroIs] at h
  | .non, v, h => by simp [zeroIs] at h
theorem zeros_rep {ob : List (Option Obj)} : ∀ {axs : List A} {vs : List Value}, zerosAre axs vs = true → RepL (RepA P w G β ob) axs vs
  | [], [], _ => rfl
  | [], _ :: _, h => by cases h
  | _ :: _, [], h => by cases h
  | x :: axs, v :: vs, h => by
    have h' : (zeroIs x v && zerosAre axs vs) = true := h
    rw [Bool.and_eq_true] at h'
    exact ⟨v, vs, rfl, zero_rep h'.1, zeros_rep h'.2⟩

theorem run_newRow (e : TypeId) (cs : Array Value) : (newRow e cs).run P w = .ok ⟨w.heap.size, 0, none⟩ (w.alloc (.cells cs e)) := by
  simp [newRow]
theorem alloc_sound (hE : EnvOK P E) (hd : a.defers = []) (h : Holds P pn w0 F β G σ w a.tmps) {e : TypeId} {i : TI} (hi : find E.tab e = some i) {t d : Nat} (hfree : σ.ob[d]? = some none) :
    ∃ val w', (Instr.alloc e true (.tuple #[])).run P w = .ok val w' ∧ Inv P pn w0 F { tm := σ.tm.set t (.v (.one (.ptr d 0))), ob := σ.ob.set d (some (.box i.zero)) } (a.put (some t) val) w' := by
  obtain ⟨inf, td, z, h1, h2, h3, _, h5, _, h7, h8, _⟩ := (told hE hi).ex
  refine ⟨_, _, ?_, newVar_inv (ty := e) hd h hfree (zeros_rep h8)⟩
  simp [Instr.alloc, Sem.run_bind, run_zero h1 h7, Result.andThen, newVar, run_newRow]
end
end Go.Vx

end
section
set_option linter.unusedVariables false
set_option linter.unusedSimpArgs false
namespace Go.Vx
open Go Go.RowKit
section
variable {P : Program} {pn : Nat → Value} {E : Env} {w0 w w' : World} {F G : Nat → Prop} {β : Nat → Value} {σ : St} {a : Act} {R : Type} {r : R}

theorem lay_list (off : Nat) : ∀ (l : List Value) (n : Nat) (cs : List Value), off + n + l.length ≤ cs.length →
    (l.zipIdx n).foldl (fun cs (cj : Value × Nat) => cs.setIfInBounds (off + cj.2) cj.1) cs.toArray = (cs.take (off + n) ++ l ++ cs.drop (off + n + l.length)).toArray
  | [], n, cs, _ => by simp
  | v :: l, n, cs, h => by
    rw [List.zipIdx_cons, List.foldl_cons]
    simp only [List.setIfInBounds_toArray]
    rw [lay_list off l (n + 1) _ (by simp at h ⊢; omega)]
    simp only [List.length_cons] at h ⊢
    congr 1
    apply List.ext_getElem?
    intro k
    simp only [List.getElem?_append, List.getElem?_take, List.getElem?_drop, List.getElem?_set, List.length_take, List.length_set, List.length_append, List.length_cons]
    by_cases h1 : k < off + n
    · simp [show k < off + (n + 1) by omega, show k < min (off + (n + 1)) cs.length by omega, show k < min (off + n) cs.length by omega, show k < min (off + (n+1)) cs.length + l.length by omega, show k < min (off + n) cs.length + (l.length + 1) by omega, h1, show off + n ≠ k by omega]
    · by_cases h2 : k = off + n
      · subst h2
        simp [show off + n < off + (n + 1) by omega, show off + n < min (off + (n + 1)) cs.length by omega, show ¬ off + n < min (off + n) cs.length by omega, show off + n < min (off + (n+1)) cs.length + l.length by omega, show off + n < min (off + n) cs.length + (l.length + 1) by omega, show off + n < cs.length by omega, show off + n - min (off + n) cs.length = 0 by omega]
      · by_cases h3 : k < off + n + 1 + l.length
        · simp [show ¬ k < off + (n + 1) by omega, show ¬ k < min (off + (n + 1)) cs.length by omega, show ¬ k < min (off + n) cs.length by omega, show k < min (off + (n+1)) cs.length + l.length by omega, show k < min (off + n) cs.length + (l.length + 1) by omega, show k - min (off + n) cs.length = (k - min (off + (n + 1)) cs.length) + 1 by omega]
        · simp [show ¬ k < min (off + (n+1)) cs.length + l.length by omega, show ¬ k < min (off + n) cs.length + (l.length + 1) by omega]
          rw [show min (off + (n + 1)) cs.length = off + (n + 1) by omega, show min (off + n) cs.length = off + n by omega]
          rw [if_neg (by omega)]
          congr 1
          omega
theorem lay (off : Nat) (vs : Array Value) (cs : List Value) (h : off + vs.size ≤ cs.length) :
    vs.zipIdx.foldl (fun cs (cj : Value × Nat) => cs.setIfInBounds (off + cj.2) cj.1) cs.toArray = (cs.take off ++ vs.toList ++ cs.drop (off + vs.toList.length)).toArray := by
  have := lay_list off vs.toList 0 cs (by simpa using h)
  rw [← Array.foldl_toList, Array.toList_zipIdx]
  simpa using this
theorem fill_cons {place : Nat → Option (Nat × Nat)} {cs : List Value} {f off size : Nat} {v : Value} {rest : List (Nat × Value)} (hp : place f = some (off, size)) (hs : v.cells.size = size) (hle : off + v.cells.size ≤ cs.length) :
    Instr.fill place cs.toArray ((f, v) :: rest) = Instr.fill place (cs.take off ++ v.cells.toList ++ cs.drop (off + v.cells.toList.length)).toArray rest := by
  rw [Instr.fill]
  simp only [hp]
  rw [if_neg (by simp; omega)]
  rw [← lay off v.cells cs hle]

def RepParts (P : Program) (w : World) (G : Nat → Prop) (β : Nat → Value) (ob : List (Option Obj)) : List (Nat × V0) → List (Nat × Value) → Prop
  | [], vs => vs = []
  | (f, x) :: r, vs => ∃ v vs', vs = (f, v) :: vs' ∧ RepV0 P w G β ob x v ∧ RepParts P w G β ob r vs'
theorem rep_parts (hE : EnvOK P E) (h : Holds P pn w0 F β G σ w a.tmps) : ∀ {ps : List (Nat × Operand)} {vs : List (Nat × V0)}, parts0 E σ ps = some vs → RepParts P w G β σ.ob vs (ps.map fun (i, x) => (i, a.eval x))
  | [], vs, hp => by
    have : some [] = some vs := hp
    injection this with this
    subst this
    rfl
  | (f, x) :: r, vs, hp => by
    unfold parts0 at hp
    split at hp
    · rename_i v vs' h1 h2
      injection hp with hp
      subst hp
      exact ⟨a.eval x, _, rfl, rep_opnd0 hE h h1, rep_parts hE h h2⟩
    · cases hp
theorem fieldsAre_get : ∀ {fields : List Field} {fs : List (Nat × TypeId)}, fieldsAre P fields fs = true → ∀ {f off : Nat} {t : TypeId}, fs[f]? = some (off, t) → ∃ fd, fields[f]? = some fd ∧ fd.offset = off ∧ fd.type = t ∧ ∃ i, P.info? t = some i ∧ 0 < i.size
  | [], [], _, f, off, t, h => by simp at h
  | [], _ :: _, hf, _, _, _, _ => by cases hf
  | _ :: _, [], hf, _, _, _, _ => by cases hf
  | fd :: fields, (o, t0) :: fs, hf, f, off, t, h => by
    unfold fieldsAre at hf
    simp only [Bool.and_eq_true, decide_eq_true_eq] at hf
    obtain ⟨⟨⟨h1, h2⟩, h3⟩, h4⟩ := hf
    cases f with
    | zero =>
      simp at h
      obtain ⟨rfl, rfl⟩ := h
      refine ⟨fd, rfl, h1, h2, ?_⟩
      split at h3
      · rename_i i hi
        exact ⟨i, hi, of_decide_eq_true h3⟩
      · cases h3
    | succ f =>
      simpa using fieldsAre_get h4 (by simpa using h)
theorem places_some : ∀ {fields : List Field} {fs : List (Nat × TypeId)}, fieldsAre P fields fs = true → ∃ places, fields.mapM (fun f => (P.info? f.type).map fun i => (f.offset, i.size)) = some places ∧
      ∀ (f off : Nat) (t : TypeId) (i : TypeInfo), fs[f]? = some (off, t) → P.info? t = some i → places[f]? = some (off, i.size)
  | [], [], _ => ⟨[], rfl, fun f off t i h => (by simp at h)⟩
  | [], _ :: _, hf => by cases hf
  | _ :: _, [], hf => by cases hf
  | fd :: fields, (o, t0) :: fs, hf => by
    unfold fieldsAre at hf
    simp only [Bool.and_eq_true, decide_eq_true_eq] at hf
    obtain ⟨⟨⟨h1, h2⟩, h3⟩, h4⟩ := hf
    obtain ⟨places, hm, hp⟩ := places_some h4
    split at h3
    · rename_i i hi
      refine ⟨(fd.offset, i.size) :: places, ?_, fun f off t i' h hi' => ?_⟩
      · rw [← h2] at hi
        simp [List.mapM_cons, hi, hm]
      · cases f with
        | zero =>
          simp at h
          obtain ⟨rfl, rfl⟩ := h
          rw [hi'] at hi
          injection hi with hi
          simp [h1, hi]
        | succ f => simpa using hp f off t i' (by simpa using h) hi'
    · cases h3
theorem fill_rep (hE : EnvOK P E) {fs : List (Nat × TypeId)} {place : Nat → Option (Nat × Nat)} (hp : ∀ (f off : Nat) (t : TypeId) (i : TypeInfo), fs[f]? = some (off, t) → P.info? t = some i → place f = some (off, i.size)) {ob : List (Option Obj)} :
    ∀ {ps : List (Nat × V0)} {vs : List (Nat × Value)} {axs as' : List A} {cs : List Value}, fillParts E.tab fs ps axs = some as' → RepParts P w G β ob ps vs → RepL (RepA P w G β ob) axs cs →
      ∃ cs', Instr.fill place cs.toArray vs = some cs'.toArray ∧ RepL (RepA P w G β ob) as' cs'
  | [], vs, axs, as', cs, h, hv, hr => by
    have h' : some axs = some as' := h
    injection h' with h'
    subst h'
    rw [show vs = [] from hv]
    exact ⟨cs, rfl, hr⟩
  | (f, x) :: ps, vs, axs, as', cs, h, hv, hr => by
    obtain ⟨v, vs', rfl, hx, hv'⟩ := hv
    unfold fillParts at h
    split at h
    · rename_i off t hf
      split at h
      · rename_i i hi
        obtain ⟨hc, h⟩ := cond_some h
        simp only [Bool.and_eq_true] at hc
        obtain ⟨c1, c2, c3⟩ := hc
        have hlen : (cellsV x).length = i.size := Nat.eq_of_beq_eq_true c1
        have hpos : 1 ≤ i.size := Nat.le_of_ble_eq_true c2
        have hle : off + i.size ≤ axs.length := Nat.le_of_ble_eq_true c3
        obtain ⟨inf, d, z, h1, h2, h3, _⟩ := (told hE hi).ex
        have hvs := rep_cells hx (by omega)
        have hvl := RepL_len hvs
        have hvl' : v.cells.size = (cellsV x).length := by rw [← hvl]; simp
        have hcl := RepL_len hr
        rw [fill_cons (hp f off t inf hf h1) (by omega) (by omega)]
        exact fill_rep hE hp h hv' (replace_rep hr hvs (by omega))
      · cases h
    · cases h
theorem kind_struct {d : TypeDesc} {fs : List (Nat × TypeId)} (h : kindIs P d (.struct fs) = true) : ∃ fields, d = .struct fields ∧ fieldsAre P fields.toList fs = true := by
  cases d <;> first | (cases h) | skip
  exact ⟨_, rfl, h⟩
theorem kind_slice {d : TypeDesc} {e : TypeId} (h : kindIs P d (.slice e) = true) : d = .slice e := by
  cases d <;> first | (cases h) | skip
  rw [of_decide_eq_true (show decide (e = _) = true from h)]
theorem kind_int {d : TypeDesc} {k : IntKind} (h : kindIs P d (.int k) = true) : d = .int k := by
  cases d <;> first | (cases h) | skip
  rw [of_decide_eq_true (show decide (k = _) = true from h)]
theorem kind_str {d : TypeDesc} (h : kindIs P d .str = true) : d = .string := by
  cases d <;> first | rfl | (cases h)
theorem kind_bool {d : TypeDesc} (h : kindIs P d .bool = true) : d = .bool := by
  cases d <;> first | rfl | (cases h)
theorem build_sound (hE : EnvOK P E) {ob : List (Option Obj)} {t : TypeId} {i : TI} {fs : List (Nat × TypeId)} (hi : find E.tab t = some i) (hk : i.kind = .struct fs) {ps : List (Nat × V0)} {vs : List (Nat × Value)} {cells : List A}
    (hf : fillParts E.tab fs ps i.zero = some cells) (hv : RepParts P w G β ob ps vs) :
    ∃ cs : List Value, (Instr.build t vs.toArray).run P w = .ok (.agg cs.toArray) w ∧ RepL (RepA P w G β ob) cells cs := by
  obtain ⟨inf, d, z, h1, h2, h3, _, h5, h6, h7, h8, _⟩ := (told hE hi).ex
  rw [hk] at h6
  obtain ⟨fields, rfl, h6⟩ := kind_struct h6
  obtain ⟨places, hm, hp⟩ := places_some h6
  obtain ⟨cs, hfill, hr⟩ := fill_rep (place := (places.toArray[·]?)) hE (fun f off t i hf hi => by simpa using hp f off t i hf hi) hf hv (zeros_rep h8)
  refine ⟨cs, run_build w t _ _ ?_, hr⟩
  unfold Program.built
  rw [h1, h2]
  simp only [h7, hm]
  exact hfill
end
end Go.Vx

end
section
set_option linter.unusedVariables false
set_option linter.unusedSimpArgs false
namespace Go.Vx
open Go Go.RowKit
section
variable {P : Program} {pn : Nat → Value} {E : Env} {w0 w w' : World} {F G : Nat → Prop} {β : Nat → Value} {σ : St} {a : Act} {R : Type} {r : R}

theorem RepV_cells {t : Ty} {x : Den t} {v : Value} (h : RepV w F t x v) : RepC w F t x v.cells.toList := by
  unfold RepV at h
  split at h
  · obtain ⟨cs, rfl, h⟩ := h
    simpa [Value.cells] using h
  · rw [one_cells (RepC_one h v (by simp))]
    exact h
theorem fill_lit {ob : List (Option Obj)} {t : Ty} {size : Nat} (hsz : t.sz = size) : ∀ {ps : List (Nat × V0)} {vs : List (Nat × Value)} {xs : List (Den t)} {k : Nat} {done rest : List Value}, litElems ob t k ps = some xs → RepParts P w G β ob ps vs →
    done.length = k * size → rest.length = ps.length * size → xs.length = ps.length ∧ ∃ cs, Instr.fill (fun i => some (i * size, size)) (done ++ rest).toArray vs = some (done ++ cs).toArray ∧ RepRows w G t xs cs
  | [], vs, xs, k, done, rest, h, hv, hd, hr => by
    have h' : some [] = some xs := h
    injection h' with h'
    subst h'
    rw [show vs = [] from hv]
    have : rest = [] := List.eq_nil_of_length_eq_zero (by simpa using hr)
    subst this
    exact ⟨rfl, [], rfl, rfl⟩
  | (j, x) :: ps, vs, xs, k, done, rest, h, hv, hd, hr => by
    obtain ⟨v, vs', rfl, hx, hv'⟩ := hv
    unfold litElems at h
    obtain ⟨hjk, h⟩ := cond_some h
    have hj : j = k := Nat.eq_of_beq_eq_true hjk
    subst hj
    split at h
    · rename_i y ys hy hys
      injection h with h
      subst h
      have hV : RepV w G t y v := rep_packV (w0 := w) (fun _ h => h) (fun h => by cases h) hy hx
      have hC := RepV_cells hV
      have hl : v.cells.toList.length = size := by rw [RepC_len hC, hsz]
      have hl2 : v.cells.size = size := by simpa using hl
      rw [List.length_cons, Nat.add_mul, Nat.one_mul] at hr
      obtain ⟨e1, cs, e2, e3⟩ := fill_lit hsz (k := j + 1) (done := done ++ v.cells.toList) (rest := rest.drop size) hys hv' (by rw [List.length_append, hd, hl, Nat.add_mul, Nat.one_mul]) (by rw [List.length_drop]; omega)
      refine ⟨by rw [List.length_cons, List.length_cons, e1], v.cells.toList ++ cs, ?_, ⟨_, _, rfl, hC, e3⟩⟩
      rw [fill_cons (off := j * size) (size := size) rfl hl2 (by rw [List.length_append, hd, hl2]; omega)]
      rw [← hd, List.take_left' rfl, List.drop_append, List.drop_eq_nil_of_le (by omega), List.nil_append, show done.length + v.cells.toList.length - done.length = size by omega, e2, List.append_assoc]
    · cases h

theorem sameCells_eq : ∀ {axs bs : List Value}, sameCells axs bs = true → axs = bs := by
  intro axs
  induction axs with
  | nil => intro bs h; cases bs with
    | nil => rfl
    | cons b bs => simp [sameCells] at h
  | cons x axs ih =>
    intro bs h
    cases bs with
    | nil => cases x <;> simp [sameCells] at h
    | cons y bs =>
      unfold sameCells at h
      split at h
      · rename_i h1 h2; cases h1
      · rename_i k n r k' n' r' h1 h2
        injection h1 with h1 h1'; injection h2 with h2 h2'
        subst h1; subst h2; subst h1'; subst h2'
        simp only [Bool.and_eq_true, decide_eq_true_eq] at h
        rw [h.1.1, h.1.2, ih h.2]
      · rename_i b r b' r' h1 h2
        injection h1 with h1 h1'; injection h2 with h2 h2'
        subst h1; subst h2; subst h1'; subst h2'
        simp only [Bool.and_eq_true, beq_iff_eq] at h
        rw [h.1, ih h.2]
      · rename_i b r b' r' h1 h2
        injection h1 with h1 h1'; injection h2 with h2 h2'
        subst h1; subst h2; subst h1'; subst h2'
        simp only [Bool.and_eq_true, decide_eq_true_eq] at h
        rw [zero_bytes h.1.1 h.1.2, ih h.2]
      · rename_i r r' h1 h2
        injection h1 with h1 h1'; injection h2 with h2 h2'
        subst h1; subst h2; subst h1'; subst h2'
        rw [ih h]
      · cases h
theorem zeroD_rep : ∀ (t : Ty), RepC w F t (zeroD t) (zeroV t)
  | .int _ => rfl
  | .bool => rfl
  | .str => rfl
  | .unit => rfl
  | .pair a b => ⟨_, _, rfl, zeroD_rep a, zeroD_rep b⟩
  | .sl t => ⟨none, 0, rfl, Nat.le_refl _, fun j x h => by simp [zeroD] at h⟩
theorem rep_made {t : Ty} {x : Den t} {z : List Value} (h : RepC w F t x z) : ∀ n, RepRows w F t (List.replicate n x) (List.replicate n z).flatten
  | 0 => rfl
  | n + 1 => ⟨z, (List.replicate n z).flatten, rfl, h, rep_made h n⟩
theorem made_list (z : Array Value) (n : Nat) (hz : 0 < z.size) : (madeCells z (n * z.size)).toList = (List.replicate n z.toList).flatten := by
  induction n with
  | zero => simp [madeCells]
  | succ n ih =>
    rw [List.replicate_succ', List.flatten_append, ← ih]
    apply List.ext_getElem
    · simp [size_madeCells, Nat.add_mul]
    · intro i h1 h2
      simp only [List.getElem_append]
      split
      · rename_i h3
        simp [madeCells]
      · rename_i h3
        simp only [Array.length_toList, size_madeCells] at h3
        have hi : i < (n + 1) * z.size := by simpa [size_madeCells] using h1
        rw [Nat.add_mul, Nat.one_mul] at hi
        have hm : i % z.size = i - n * z.size := by
          have : i = z.size * n + (i - n * z.size) := by rw [Nat.mul_comm]; omega
          rw [this, Nat.mul_add_mod, Nat.mod_eq_of_lt (by omega), Nat.mul_comm]
          omega
        simp [madeCells, size_madeCells, hm]
        rw [getElem!_pos z _ (by omega)]

theorem elem_told (hE : EnvOK P E) {e : TypeId} {i : TI} {t : Ty} (hi : find E.tab e = some i) (ht : i.ty = some t) : ∃ inf z, P.info? e = some inf ∧ inf.size = t.sz ∧ inf.bytes = i.bytes ∧ inf.zero = some z ∧ z.cells.toList = zeroV t ∧ z.cells.size = t.sz := by
  obtain ⟨inf, d, z, h1, h2, h3, h4, h5, h6, h7, h8, h9⟩ := (told hE hi).ex
  obtain ⟨g1, g2, g3⟩ := h9 t ht
  have := (sameCells_eq g1).symm
  refine ⟨inf, z, h1, by omega, h4, h7, this, ?_⟩
  rw [← Array.length_toList, this]
  exact RepC_len (zeroD_rep (w := default) (F := fun _ => True) t)
theorem slice_told (hE : EnvOK P E) {T e : TypeId} {i : TI} (hi : find E.tab T = some i) (hk : i.kind = .slice e) : P.underlying T = some (.slice e) := by
  obtain ⟨inf, d, z, h1, h2, h3, h4, h5, h6, _⟩ := (told hE hi).ex
  rw [hk] at h6
  rw [h2, kind_slice h6]

theorem run_lit {t e : TypeId} {len : Nat} {vs : List (Nat × Value)} {cells : Array Value} {ie : TypeInfo} {z : Value} (hu : P.underlying t = some (.slice e)) (hie : P.info? e = some ie) (hz : ie.zero = some z) (hs : 0 < ie.size) (hsmall : len * ie.size ≤ 1000)
    (h : Instr.fill (fun i => some (i * ie.size, ie.size)) ((Array.range (len * ie.size)).map (z.cells[· % z.cells.size]!)) vs = some cells) :
    (Instr.buildSlice t len vs.toArray).run P w = .ok (.slice (some ⟨w.heap.size, 0, none⟩) len len) (w.alloc (.cells cells e)) := by
  by_cases hpos : len * ie.size = 0
  · rw [hpos] at h
    simp only [Array.range_zero', Array.map_empty] at h
    simp [Instr.buildSlice, run_underlying hu, sizeOf, typeInfo, hie, hpos, newRow, Array.range_zero', h]
  · exact run_buildSlice w t e len vs.toArray cells ie z hu hie hz (by omega) hpos h
theorem lit_sound (hE : EnvOK P E) {ob : List (Option Obj)} {T e : TypeId} {i ie : TI} {t : Ty} (hi : find E.tab T = some i) (hk : i.kind = .slice e) (hie : find E.tab e = some ie) (hty : ie.ty = some t) {ps : List (Nat × V0)} {vs : List (Nat × Value)} {xs : List (Den t)}
    (hsz : 0 < t.sz) (hsmall : ps.length * t.sz ≤ 1000) (hx : litElems ob t 0 ps = some xs) (hv : RepParts P w G β ob ps vs) :
    ∃ cs v, (Instr.buildSlice T ps.length vs.toArray).run P w = .ok v (w.alloc (.cells cs e)) ∧ (w.alloc (.cells cs e)).ownsRow w.heap.size e t.sz v xs.length cs.toList ∧ RepRows w G t xs cs.toList := by
  obtain ⟨inf, z, h1, h2, h3, h4, h5, h6⟩ := elem_told hE hie hty
  have hu := slice_told hE hi hk
  obtain ⟨e1, cs, e2, e3⟩ := fill_lit (size := t.sz) rfl (k := 0) (done := []) (rest := ((Array.range (ps.length * inf.size)).map (z.cells[· % z.cells.size]!)).toList) hx hv (by simp) (by simp [h2])
  rw [List.nil_append, List.nil_append] at e2
  have hrun := run_lit (P := P) (w := w) (len := ps.length) (vs := vs) hu h1 h4 (by omega) (by rw [h2]; exact hsmall) (by rw [h2]; rw [h2] at e2; exact e2)
  refine ⟨cs.toArray, _, hrun, ⟨by simpa using RepRows_len e3, .inr ⟨w.heap.size, ps.length, cs.toArray, by rw [e1], Nat.le_refl _, heap_alloc_new w _, by omega, ?_, ?_, ?_⟩⟩, e3⟩
  · have : ps.length ≤ ps.length * t.sz := Nat.le_mul_of_pos_right _ hsz
    simp only [maxLen]; omega
  · have := RepRows_len e3
    simpa [e1] using this
  · have := RepRows_len e3
    simp only [List.toList_toArray]
    rw [List.take_of_length_le (by omega)]

theorem make_sound (hE : EnvOK P E) {T e : TypeId} {i ie : TI} {t : Ty} (hi : find E.tab T = some i) (hk : i.kind = .slice e) (hie : find E.tab e = some ie) (hty : ie.ty = some t) (hsz : 0 < t.sz) (hby : 0 < ie.bytes) {n : Int} (hn : 0 ≤ n) (hb : n.toNat * ie.bytes ≤ 140737488355328) :
    ∃ cs v, (Instr.makeSlice T (.int .i64 n) (.int .i64 n)).run P w = .ok v (w.alloc (.cells cs e)) ∧ (w.alloc (.cells cs e)).ownsRow w.heap.size e t.sz v (List.replicate n.toNat (zeroD t)).length cs.toList ∧ RepRows w G t (List.replicate n.toNat (zeroD t)) cs.toList := by
  obtain ⟨inf, z, h1, h2, h3, h4, h5, h6⟩ := elem_told hE hie hty
  have hu := slice_told hE hi hk
  have hle : n.toNat ≤ n.toNat * ie.bytes := Nat.le_mul_of_pos_right _ hby
  have hcast : (inf.bytes : Int) * n ≤ 281474976710656 := by
    have h9 : ((n.toNat * ie.bytes : Nat) : Int) ≤ 140737488355328 := by omega
    have h10 : (inf.bytes : Int) * n = ((n.toNat * ie.bytes : Nat) : Int) := by
      rw [h3, Int.natCast_mul, Int.toNat_of_nonneg hn, Int.mul_comm]
    omega
  have hrun := run_make (P := P) w T e inf z hu h1 h4 .i64 .i64 n n hn (Int.le_refl _) hcast (by omega)
  have hlist : (madeCells z.cells (n.toNat * inf.size)).toList = (List.replicate n.toNat (zeroV t)).flatten := by
    rw [h2, ← h6, made_list _ _ (by omega), h5]
  have hrows := rep_made (w := w) (F := G) (zeroD_rep t) n.toNat
  rw [← hlist] at hrows
  refine ⟨_, _, hrun, ⟨by simpa using RepRows_len hrows, .inr ⟨w.heap.size, n.toNat, _, by simp, Nat.le_refl _, heap_alloc_new w _, by simp, by simp only [maxLen]; omega, by simp [size_madeCells, h2], ?_⟩⟩, hrows⟩
  have := RepRows_len hrows
  rw [List.take_of_length_le (by omega)]

theorem rows_of {t : Ty} {ad : Addr} : ∀ {ys : List (Den t)} {k : Nat}, (∀ (j : Nat) (x : Den t), ys[j]? = some x → ∃ ec, RepC w F t x ec ∧ ∀ (i : Nat) (u : Value), ec[i]? = some u → w.cell? (ad.add ((k + j) * t.sz + i)) = some u) →
    ∃ news, RepRows w F t ys news ∧ ∀ (j : Nat) (u : Value), news[j]? = some u → w.cell? (ad.add (k * t.sz + j)) = some u
  | [], k, _ => ⟨[], rfl, fun j u h => by simp at h⟩
  | y :: ys, k, h => by
    obtain ⟨ec, h1, h2⟩ := h 0 y rfl
    obtain ⟨news, h3, h4⟩ := rows_of (ys := ys) (k := k + 1) (ad := ad) (t := t) (fun j x hx => by
      obtain ⟨ec, q1, q2⟩ := h (j + 1) x (by simpa using hx)
      exact ⟨ec, q1, fun i u hu => by rw [show k + 1 + j = k + (j + 1) by omega]; exact q2 i u hu⟩)
    have hl := RepC_len h1
    refine ⟨ec ++ news, ⟨ec, news, rfl, h1, h3⟩, fun j u hj => ?_⟩
    rw [List.getElem?_append] at hj
    split at hj
    · simpa using h2 j u hj
    · rename_i hge
      have := h4 _ u hj
      rw [show (k + 1) * t.sz + (j - ec.length) = k * t.sz + j by rw [Nat.add_mul, Nat.one_mul]; omega] at this
      exact this
theorem src_rows {ob : List (Option Obj)} (hob : ObsOK P w0 w G β ob) {t : Ty} {x : V0} {ys : List (Den t)} {u : Value} (hp : packV true ob (.sl t) x = some ys) (h : RepV0 P w G β ob x u) :
    ∃ A c news, u = .slice A ys.length c ∧ RepRows w G t ys news ∧ ∀ (j : Nat) (v : Value), news[j]? = some v → ∃ ad, A = some ad ∧ w.cell? (ad.add j) = some v := by
  unfold packV at hp
  split at hp
  · rename_i a hm
    unfold leafA at hp
    split at hp
    · rename_i t' x'
      obtain ⟨e, rfl⟩ := castD_some hp
      subst e
      obtain ⟨A, c, h1, h2, h3⟩ := (show RepC w G (.sl t) x' [u] from h)
      injection h1 with h1 _
      cases hA : A with
      | none =>
        have : x' = [] := by
          cases x' with
          | nil => rfl
          | cons y ys => obtain ⟨ad, _, he, _⟩ := h3 0 y rfl; rw [hA] at he; cases he
        subst this
        exact ⟨none, c, [], by rw [h1, hA], rfl, fun j v hj => by simp at hj⟩
      | some ad =>
        obtain ⟨news, q1, q2⟩ := rows_of (w := w) (F := G) (t := t) (ad := ad) (ys := x') (k := 0) (fun j y hy => by
          obtain ⟨ad', ec, e1, _, _, e4, e5⟩ := h3 j y hy
          rw [hA] at e1
          injection e1 with e1
          subst e1
          exact ⟨ec, e4, fun i u hu => by simpa using e5 i u hu⟩)
        refine ⟨some ad, c, news, by rw [h1, hA], q1, fun j v hj => ⟨ad, rfl, by simpa using q2 j v hj⟩⟩
    · have h' : some [] = some ys := hp
      injection h' with h'
      subst h'
      have hu : u = .slice none 0 0 := h
      exact ⟨none, 0, [], hu, rfl, fun j v hj => by simp at hj⟩
    · rename_i o ver
      split at hp
      · rename_i e t' xs v _ hh
        obtain ⟨hv, hp⟩ := cond_some hp
        obtain ⟨e1, rfl⟩ := castD_some hp
        injection e1 with e1
        subst e1
        have hv' : v = ver := Nat.eq_of_beq_eq_true hv
        obtain ⟨e2, t2, xs2, ver2, hob2, hle2, _, hu⟩ := (show ∃ e t xs ver', ob[o]? = some (some (.row e t xs ver')) ∧ ver ≤ ver' ∧ u.oneCell' = true ∧ (ver = ver' → u = β o) from h)
        rw [hh] at hob2
        injection hob2 with hob2; injection hob2 with hob2
        injection hob2 with q1 q2 q3 q4
        subst q1; subst q2; subst q4
        obtain ⟨cs, ho, hr, hs⟩ := hob o _ hh
        rw [hu hv'.symm]
        rcases ho.2 with ⟨hb1, hb2⟩ | ⟨g, cap, cur, hb1, hg, hhh, hc1, hc2, hsz, htk⟩
        · have : xs = [] := List.eq_nil_of_length_eq_zero hb2
          subst this
          exact ⟨none, 0, [], by rw [hb1]; rfl, rfl, fun j v hj => by simp at hj⟩
        · refine ⟨some ⟨g, 0, none⟩, cap, cs, hb1, hr, fun j v hj => ⟨_, rfl, ?_⟩⟩
          rw [add_at, cell_in hhh]
          rw [← htk, List.getElem?_take] at hj
          split at hj
          · simpa using hj
          · cases hj
      · cases hp
    · cases hp
  · rename_i axs hm
    simp [Ty.many] at hm
  · cases hp
end
end Go.Vx

end
section
set_option linter.unusedVariables false
set_option linter.unusedSimpArgs false
namespace Go.Vx
open Go Go.RowKit
section
variable {P : Program} {pn : Nat → Value} {E : Env} {w0 w w' : World} {F G : Nat → Prop} {β : Nat → Value} {σ : St} {a : Act} {R : Type} {r : R}

theorem append_any {base : Nat} {t ty e : TypeId} {i : TypeInfo} {z : Value} {size : Nat} (ht : P.underlying t = some (.slice e)) (hi : P.info? e = some i) (hz : i.zero = some z)
    (hsize : i.size = size) (hzs : z.cells.size = size) (hsz : 0 < size) {v : Value} {n : Nat} {xs : List Value} (hown : w.ownsRow base e size v n xs)
    {A : Option Addr} {m c : Nat} {news : List Value} (hl : news.length = m * size) (hnews : ∀ (j : Nat) (u : Value), news[j]? = some u → ∃ ad, A = some ad ∧ w.cell? (ad.add j) = some u) (h1 : ∀ u ∈ news, u.oneCell' = true)
    (h63 : n + m ≤ maxLen) (hbytes : (n + m) * i.bytes ≤ 140737488355328) (hbase : base ≤ w.heap.size) :
    ∃ v' w', (Builtin.append_ #[t, t] ty #[v, .slice A m c]).run P w = .ok v' w' ∧ w'.ownsRow base e size v' (n + m) (xs ++ news) ∧ w.grownBy w' v.ownBlock ∧ (v'.ownBlock = v.ownBlock ∨ v'.ownBlock = some w.heap.size) := by
  cases A with
  | some ad =>
    obtain ⟨v', w', q1, q2, q3, _, q5⟩ := run_append_own_at (P := P) w base t ty e i z size i.bytes ht hi hz hsize rfl hzs hsz v n xs hown ad m c news hl (fun j u hj => by
      obtain ⟨ad', e1, e2⟩ := hnews j u hj
      injection e1 with e1
      subst e1
      exact e2) h1 h63 hbytes hbase
    exact ⟨v', w', q1, q2, q3, q5⟩
  | none =>
    have hn : news = [] := by
      cases news with
      | nil => rfl
      | cons u us => obtain ⟨ad, he, _⟩ := hnews 0 u rfl; cases he
    subst hn
    have hm : m = 0 := by
      rcases Nat.eq_zero_or_pos m with h | h
      · exact h
      · have : 0 < m * size := Nat.mul_pos h hsz
        simp at hl
        omega
    subst hm
    refine ⟨v, w, ?_, by simpa using hown, ⟨rfl, rfl, rfl, Nat.le_refl _, fun _ _ _ => rfl⟩, .inl rfl⟩
    rcases hown.2 with ⟨rfl, rfl⟩ | ⟨g, cap, cur, rfl, hbg, hg, hnc, hcm, hcs, htake⟩
    · simp [Builtin.append_, run_underlying ht, sizeOf, typeInfo, hi, Builtin.lenOf, Builtin.firstCells, loadCells, loadCellsFrom]
    · simp [Builtin.append_, run_underlying ht, sizeOf, typeInfo, hi, Builtin.lenOf, Builtin.firstCells, loadCells, loadCellsFrom, storeCells, hnc]

theorem obs_ok (h : Holds P pn w0 F β G σ w a.tmps) : ObsOK P w0 w G β σ.ob := fun o x hx => h.obs o x hx
theorem asRow_some {ob : List (Option Obj)} {o : Nat} {t : Ty} {ver : Nat} {e : TypeId} {xs : List (Den t)} (h : asRow ob o t ver = some (e, xs)) : ob[o]? = some (some (.row e t xs ver)) := by
  unfold asRow at h
  split at h
  · rename_i e' t' xs' v hh
    have hc := cond_some h
    have hv' : v = ver := Nat.eq_of_beq_eq_true hc.1
    subst hv'
    have h2 := hc.2
    clear hc h
    split at h2
    · rename_i ys hy
      injection h2 with h2
      injection h2 with h1 h2
      subst h1; subst h2
      obtain ⟨e1, rfl⟩ := castD_some hy
      injection e1 with e1
      subst e1
      exact hh
    · cases h2
  · cases h
theorem blk_own {v : Value} {base : Nat} {e : TypeId} {size n : Nat} {xs : List Value} (h : w.ownsRow base e size v n xs) : blk v = v.ownBlock := by
  rcases h.2 with ⟨rfl, _⟩ | ⟨g, cap, cur, rfl, _⟩ <;> rfl
theorem own_one {v : Value} {base : Nat} {e : TypeId} {size n : Nat} {xs : List Value} (h : w.ownsRow base e size v n xs) : v.oneCell' = true := by
  rcases h.2 with ⟨rfl, _⟩ | ⟨g, cap, cur, rfl, _⟩ <;> rfl

theorem append_sound (hE : EnvOK P E) (hd : a.defers = []) (h : Holds P pn w0 F β G σ w a.tmps) {d : Option Nat} {T T' ty : TypeId} {s x : V} {us ux : Value} {K : St → Option R} (hk : appendK E σ d T T' s x K = some r)
    (hs : RepW P w G β σ.ob s us) (hx : RepW P w G β σ.ob x ux) :
    ∃ σ' val w', K σ' = some r ∧ (Builtin.append_ #[T, T'] ty #[us, ux]).run P w = .ok val w' ∧ Inv P pn w0 F σ' (a.put d val) w' := by
  unfold appendK at hk
  split at hk
  · rename_i e _ hi
    split at hk
    · rename_i t _ _ _ by_ _ _ x' hie
      have hc := cond_some hk
      clear hk
      obtain ⟨hc, hk⟩ := hc
      rw [Bool.and_eq_true] at hc
      have hT : T = T' := Nat.eq_of_beq_eq_true hc.1
      have hby : 1 ≤ by_ := Nat.le_of_ble_eq_true hc.2
      subst hT
      obtain ⟨inf, z, h1, h2, h3, h4, h5, h6⟩ := elem_told hE hie rfl
      have hu := slice_told hE hi rfl
      simp only at h3
      split at hk
      · rename_i ys hp
        obtain ⟨A, c, news, rfl, hr, hn⟩ := src_rows (obs_ok h) hp hx
        have hl := RepRows_len hr
        split at hk
        · obtain ⟨hz1, hk⟩ := cond_some hk
          have hsz : 1 ≤ t.sz := Nat.le_of_ble_eq_true hz1
          obtain ⟨hb, hk⟩ := oif_some hk
          have hb := of_decide_eq_true hb
          obtain ⟨d', rfl, hfree, hk⟩ := newObj_some hk
          have hus : us = .slice none 0 0 := hs
          subst hus
          have hle : ys.length ≤ ys.length * by_ := Nat.le_mul_of_pos_right _ hby
          obtain ⟨v', w', q1, q2, q3, q4⟩ := append_any (w := w) (ty := ty) (c := c) hu h1 h4 h2 h6 hsz (World.ownsRow_nil w w.heap.size e t.sz) hl hn (RepRows_one hr) (by simp only [maxLen]; omega) (by rw [h3]; simpa using hb) (Nat.le_refl _)
          rw [Nat.zero_add, List.nil_append] at q2
          exact ⟨_, v', w', hk, q1, newRow_inv hd h hfree hsz q3 q2 (RepRows_imp (fun _ _ hq => repc_grown q3 hq) hr)⟩
        · rename_i o ver
          split at hk
          · rename_i e' xs d' hrow
            have hc2 := cond_some hk
            clear hk
            obtain ⟨he, hk⟩ := hc2
            have he' : e' = e := Nat.eq_of_beq_eq_true he
            subst he'
            obtain ⟨hb, hk⟩ := oif_some hk
            have hb := of_decide_eq_true hb
            have hob := asRow_some hrow
            obtain ⟨e2, t2, xs2, ver2, hob2, hle2, _, hu2⟩ := (show ∃ e t xs ver', σ.ob[o]? = some (some (.row e t xs ver')) ∧ ver ≤ ver' ∧ us.oneCell' = true ∧ (ver = ver' → us = β o) from hs)
            rw [hob] at hob2
            injection hob2 with hob2; injection hob2 with hob2
            injection hob2 with q1 q2 q3 q4
            subst q1; subst q2; subst q4
            obtain ⟨cs, ho, hrr, hsz⟩ := h.obs o _ hob
            have hus := hu2 rfl
            have hle : xs.length + ys.length ≤ (xs.length + ys.length) * by_ := Nat.le_mul_of_pos_right _ hby
            obtain ⟨v', w', q1, q2, q3, q4⟩ := append_any (w := w) (ty := ty) (c := c) hu h1 h4 h2 h6 hsz ho hl hn (RepRows_one hr) (by simp only [maxLen]; omega) (by rw [h3]; exact hb) h.below.size
            rw [hus]
            refine ⟨_, v', w', hk, q1, hd, upd β o v', Old G w, ?_⟩
            have hA : Agree G w w' := ⟨q3.size, fun k hkk hlt => q3.block k hlt (fun e => by
              rw [← blk_own ho] at e
              exact h.notG o _ k hob e.symm hkk)⟩
            have hext : Ext β σ.ob (upd β o v') (σ.ob.set o (some (.row e' t (xs ++ ys) (ver + 1)))) := Ext.row hob (by omega) (fun e => by omega)
            have hH := h.obj o (β o).ownBlock v' (.row e' t (xs ++ ys) (ver + 1)) hob q3 (.inr ⟨_, rfl, (blk_own ho).symm⟩) (fun k hkk => by
              rw [blk_own q2] at hkk
              rcases q4 with q4 | q4
              · exact .inl ⟨_, rfl, by rw [blk_own ho, ← q4, hkk]⟩
              · rw [q4] at hkk
                injection hkk with hkk
                exact .inr (by omega)) hext ⟨cs ++ news, by rw [upd_same, List.length_append]; exact q2, RepRows_imp (fun _ _ hq => RepC_go hA (fun k hkk hlt => ⟨hkk, hlt⟩) hq) (RepRows_join hrr hr), hsz⟩
            exact hH.put d' (v := .v (.one (.row o (ver + 1)))) ⟨e', t, xs ++ ys, ver + 1, set_self hob, Nat.le_refl _, own_one q2, fun _ => (upd_same _ _ _).symm⟩
          · cases hk
        · cases hk
      · cases hk
    · cases hk
  · cases hk
end
end Go.Vx

end
section
set_option linter.unusedVariables false
set_option linter.unusedSimpArgs false
namespace Go.Vx
open Go Go.RowKit
section
variable {P : Program} {pn : Nat → Value} {E : Env} {w0 w w' : World} {F G : Nat → Prop} {β : Nat → Value} {σ : St} {a : Act} {R : Type} {r : R} {ob : List (Option Obj)}

theorem int_run {op : BinOp} {k : IntKind} {x y : Int} {K : V → Option R} {T : TypeId} (hs : isShift op = false) (hk : intOp op k x y K = some r) :
    ∃ v val, K v = some r ∧ (binOp op T (.int k x) (.int k y)).run P w = .ok val w ∧ RepW P w G β ob v val := by
  unfold intOp at hk
  cases op <;> first | (cases hs; done) | skip
  all_goals first | (cases hk; done) | skip
  case quo =>
    obtain ⟨h1, h2⟩ := oif_some hk
    simp at h1
    exact ⟨_, _, h2, by simp [binOp, Op.intDiv, h1], rfl⟩
  case rem =>
    obtain ⟨h1, h2⟩ := oif_some hk
    simp at h1
    exact ⟨_, _, h2, by simp [binOp, Op.intDiv, h1], rfl⟩
  all_goals exact ⟨_, _, hk, by simp [binOp, Op.intArith, Op.intCmp], rfl⟩
theorem shift_run {op : BinOp} {k k' : IntKind} {x y : Int} {K : V → Option R} {T : TypeId} (hk : shiftOp op k x y K = some r) :
    ∃ v val, K v = some r ∧ (binOp op T (.int k x) (.int k' y)).run P w = .ok val w ∧ RepW P w G β ob v val := by
  unfold shiftOp at hk
  cases op <;> first | (cases hk; done) | skip
  all_goals
    obtain ⟨h1, h2⟩ := oif_some hk
    simp at h1
    exact ⟨_, _, h2, by simp [binOp, Op.shift, show ¬ y < 0 by omega], rfl⟩
theorem str_run {op : BinOp} {x y : ByteArray} {K : V → Option R} {T : TypeId} (hk : strOp op x y K = some r) :
    ∃ v val, K v = some r ∧ (binOp op T (.string x) (.string y)).run P w = .ok val w ∧ RepW P w G β ob v val := by
  unfold strOp at hk
  cases op <;> first | (cases hk; done) | skip
  case add =>
    obtain ⟨h1, h2⟩ := oif_some hk
    simp at h1
    refine ⟨_, _, h2, ?_, rfl⟩
    have : ¬ (((x.size + y.size : Nat) : Int) > IntKind.i64.max) := by
      have : IntKind.i64.max = 9223372036854775807 := by decide
      omega
    simp [binOp, Op.stringOp]
    exact h1
  all_goals exact ⟨_, _, hk, by simp [binOp, Op.stringOp], rfl⟩
theorem rep_int {k : IntKind} {n : Int} {u : Value} (h : RepW P w G β ob (.d (.int k) n) u) : u = .int k n := by
  have h' : [u] = [Value.int k n] := h
  injection h'
theorem rep_bool {b : Bool} {u : Value} (h : RepW P w G β ob (.d .bool b) u) : u = .bool b := by
  have h' : [u] = [Value.bool b] := h
  injection h'
theorem rep_str {s : ByteArray} {u : Value} (h : RepW P w G β ob (.d .str s) u) : u = .string s := by
  have h' : [u] = [Value.string s] := h
  injection h'
theorem int_told (hE : EnvOK P E) {T : TypeId} {i : TI} {k : IntKind} (hi : find E.tab T = some i) (hk : i.kind = .int k) : P.underlying T = some (.int k) := by
  obtain ⟨inf, d, z, h1, h2, h3, h4, h5, h6, _⟩ := (told hE hi).ex
  rw [hk] at h6
  rw [h2, kind_int h6]
theorem str_told (hE : EnvOK P E) {T : TypeId} {i : TI} (hi : find E.tab T = some i) (hk : i.kind = .str) : P.underlying T = some .string := by
  obtain ⟨inf, d, z, h1, h2, h3, h4, h5, h6, _⟩ := (told hE hi).ex
  rw [hk] at h6
  rw [h2, kind_str h6]
theorem bool_told (hE : EnvOK P E) {T : TypeId} {i : TI} (hi : find E.tab T = some i) (hk : i.kind = .bool) : P.underlying T = some .bool := by
  obtain ⟨inf, d, z, h1, h2, h3, h4, h5, h6, _⟩ := (told hE hi).ex
  rw [hk] at h6
  rw [h2, kind_bool h6]
theorem elem_of {T e : TypeId} (h : P.underlying T = some (.slice e)) : P.elem T = e := by simp [Program.elem, h]
theorem slice_elem {T e : TypeId} (h : P.underlying T = some (.slice e)) : P.underlying T = some (.slice (P.elem T)) := by rw [elem_of h]; exact h

theorem eqGuard_int {op : BinOp} {t : TypeId} {x y : Operand} {k k' : IntKind} {m n : Int} : (eqGuard op t x y (.int k m) (.int k' n)).run P w = .ok () w := by cases op <;> simp [eqGuard]
theorem eqGuard_str {op : BinOp} {t : TypeId} {x y : Operand} {m n : ByteArray} : (eqGuard op t x y (.string m) (.string n)).run P w = .ok () w := by cases op <;> simp [eqGuard]
theorem eqGuard_bool {op : BinOp} {t : TypeId} {x y : Operand} {m n : Bool} : (eqGuard op t x y (.bool m) (.bool n)).run P w = .ok () w := by cases op <;> simp [eqGuard]
theorem eqs_run {t : TypeId} {cs ds : List Value} {e : Bool} {x y : Operand} (h : (do eqGuard .eql t (.tmp 0) (.tmp 0) (.agg cs.toArray) (.agg ds.toArray); Op.equal t (.agg cs.toArray) (.agg ds.toArray)).run P w = .ok e w) {op : BinOp} (hop : op = .eql ∨ op = .neq) :
    (do eqGuard op t x y (.agg cs.toArray) (.agg ds.toArray); binOp op t (.agg cs.toArray) (.agg ds.toArray)).run P w = .ok (.bool (if op = .eql then e else !e)) w := by
  have hg : eqGuard op t x y (.agg cs.toArray) (.agg ds.toArray) = eqGuard .eql t (.tmp 0) (.tmp 0) (.agg cs.toArray) (.agg ds.toArray) := by
    rcases hop with rfl | rfl <;> rfl
  rw [hg]
  simp only [Sem.run_bind] at h ⊢
  cases h1 : (eqGuard .eql t (.tmp 0) (.tmp 0) (.agg cs.toArray) (.agg ds.toArray)).run P w with
  | ok u w1 =>
    rw [h1] at h
    simp only [Result.andThen_ok] at h ⊢
    rcases hop with rfl | rfl
    · simp [binOp, h]
    · simp [binOp, h]
  | _ => rw [h1] at h; simp [Result.andThen] at h

theorem bin_sound (hE : EnvOK P E) {op : BinOp} {T : TypeId} {x y : V} {ux uy : Value} {K : V → Option R} {ox oy : Operand} (hk : binK E op T x y K = some r) (hx : RepW P w G β ob x ux) (hy : RepW P w G β ob y uy) :
    ∃ v val, K v = some r ∧ (do eqGuard op T ox oy ux uy; binOp op T ux uy).run P w = .ok val w ∧ RepW P w G β ob v val := by
  unfold binK at hk
  split at hk
  · rename_i k a k' b
    rw [rep_int hx, rep_int hy]
    have hg := eqGuard_int (P := P) (w := w) (op := op) (t := T) (x := ox) (y := oy) (k := k) (k' := k') (m := a) (n := b)
    simp only [Sem.run_bind, hg, Result.andThen_ok]
    cases hs : isShift op with
    | true =>
      rw [hs] at hk
      exact shift_run hk
    | false =>
      rw [hs] at hk
      obtain ⟨h1, h2⟩ := cond_some (show cond _ _ _ = _ from hk)
      rw [← of_decide_eq_true h1]
      exact int_run hs h2
  · rename_i a b
    rw [rep_str hx, rep_str hy]
    have hg := eqGuard_str (P := P) (w := w) (op := op) (t := T) (x := ox) (y := oy) (m := a) (n := b)
    simp only [Sem.run_bind, hg, Result.andThen_ok]
    exact str_run hk
  · rename_i axs bs
    obtain ⟨cs, rfl, hcs⟩ := hx
    obtain ⟨ds, rfl, hds⟩ := hy
    split at hk
    · rename_i hf he
      obtain ⟨hp, hk⟩ := cond_some hk
      rw [Bool.and_eq_true] at hp
      have hq := hE.eqs _ _ hf rfl _ rfl w G axs bs _ cs ds β ob hp.1 hp.2 he hcs hds
      exact ⟨_, _, hk, eqs_run hq (.inl rfl), rfl⟩
    · rename_i hf he
      obtain ⟨hp, hk⟩ := cond_some hk
      rw [Bool.and_eq_true] at hp
      have hq := hE.eqs _ _ hf rfl _ rfl w G axs bs _ cs ds β ob hp.1 hp.2 he hcs hds
      exact ⟨_, _, hk, eqs_run hq (.inr rfl), rfl⟩
    · cases hk
  · rename_i a b
    rw [rep_bool hx, rep_bool hy]
    have hg := eqGuard_bool (P := P) (w := w) (op := op) (t := T) (x := ox) (y := oy) (m := a) (n := b)
    simp only [Sem.run_bind, hg, Result.andThen_ok]
    split at hk
    · rename_i hf
      exact ⟨_, _, hk, run_eql_bool w T a b (bool_told hE hf rfl), rfl⟩
    · rename_i hf
      refine ⟨_, _, hk, run_neq_bool w T a b (bool_told hE hf rfl), ?_⟩
      show RepC _ _ _ _ _
      cases a <;> cases b <;> rfl
    · cases hk
  · cases hk
theorem un_sound {op : UnOp} {x : V} {ux : Value} {K : V → Option R} (hk : unK op x K = some r) (hx : RepW P w G β ob x ux) :
    ∃ v val, K v = some r ∧ (Op.unary op ux).run P w = .ok val w ∧ RepW P w G β ob v val := by
  unfold unK at hk
  split at hk
  · rw [rep_bool hx]
    exact ⟨_, _, hk, by simp [Op.unary], rfl⟩
  · rw [rep_int hx]
    exact ⟨_, _, hk, by simp [Op.unary, Op.intArith], rfl⟩
  · cases hk
end
end Go.Vx

end
section
set_option linter.unusedVariables false
set_option linter.unusedSimpArgs false
namespace Go.Vx
open Go Go.RowKit
section
variable {P : Program} {pn : Nat → Value} {E : Env} {w0 w w' : World} {F G : Nat → Prop} {β : Nat → Value} {σ : St} {a : Act} {R : Type} {r : R} {ob : List (Option Obj)}

theorem add_add (ad : Addr) (m n : Nat) : (ad.add m).add n = ad.add (m + n) := by
  unfold Addr.add
  by_cases hm : m = 0 <;> by_cases hn : n = 0 <;> simp [hm, hn] <;> omega
theorem elemOk_some (hE : EnvOK P E) {e : TypeId} {t : Ty} (h : elemOk E e t = true) : ∃ inf, P.info? e = some inf ∧ inf.size = t.sz := by
  unfold elemOk at h
  split at h
  · rename_i i hi
    obtain ⟨inf, d, z, h1, h2, h3, _⟩ := (told hE hi).ex
    exact ⟨inf, h1, by rw [h3]; exact Nat.eq_of_beq_eq_true h⟩
  · cases h
theorem len_sound (hE : EnvOK P E) (hob : ObsOK P w0 w G β σ.ob) {T ty e : TypeId} {x : V} {ux : Value} {n : Int} (hT : P.underlying T = some (.slice e)) (hn : lenV σ x = some n) (hs : ∀ s, x ≠ .d .str s) (hx : RepW P w G β σ.ob x ux) :
    (Builtin.len_ #[T] ty #[ux]).run P w = .ok (.int .i64 n) w := by
  have hu := slice_elem hT
  unfold lenV at hn
  split at hn
  · rename_i s
    exact absurd rfl (hs s)
  · rename_i t xs
    injection hn with hn
    obtain ⟨A, c, h1, _⟩ := (show RepC w G (.sl t) xs [ux] from hx)
    injection h1 with h1
    rw [h1, run_len_slice w T ty A _ c hu, ← hn]
    rfl
  · injection hn with hn
    rw [show ux = .slice none 0 0 from hx, run_len_slice w T ty none 0 0 hu, ← hn]
    rfl
  · rename_i o ver
    split at hn
    · rename_i e' t xs v hob1
      cases hb : Nat.beq v ver with
      | false => rw [hb] at hn; cases hn
      | true =>
        rw [hb] at hn
        have hn' : some (xs.length : Int) = some n := hn
        injection hn' with hn'
        have hv : v = ver := Nat.eq_of_beq_eq_true hb
        obtain ⟨e2, t2, xs2, ver2, hob2, hle2, _, hu2⟩ := (show ∃ e t xs ver', σ.ob[o]? = some (some (.row e t xs ver')) ∧ ver ≤ ver' ∧ ux.oneCell' = true ∧ (ver = ver' → ux = β o) from hx)
        rw [hob1] at hob2
        injection hob2 with hob2; injection hob2 with hob2
        injection hob2 with q1 q2 q3 q4
        subst q1; subst q2; subst q4
        rw [hu2 hv.symm]
        obtain ⟨cs, ho, _⟩ := hob _ _ hob1
        rcases ho.2 with ⟨hb1, hb2⟩ | ⟨g, cap, cur, hb1, _⟩
        · rw [hb1, run_len_slice w T ty none 0 0 hu, ← hn', hb2]
          rfl
        · rw [hb1, run_len_slice w T ty _ _ cap hu, ← hn']
          rfl
    · cases hn
  · cases hn

theorem idx_sound (hE : EnvOK P E) (hob : ObsOK P w0 w G β σ.ob) {T : TypeId} {x i : V} {ux ui : Value} {K : A → Option R} (hk : idxAddrK E σ T x i K = some r) (hx : RepW P w G β σ.ob x ux) (hi : RepW P w G β σ.ob i ui) :
    ∃ v val, K v = some r ∧ (Instr.indexAt T ux ui).run P w = .ok val w ∧ RepA P w G β σ.ob v val := by
  unfold idxAddrK at hk
  split at hk
  · rename_i e _ t xs kk j hf
    have hT := slice_told hE hf rfl
    obtain ⟨he, hk⟩ := cond_some hk
    obtain ⟨inf, hinf, hsz⟩ := elemOk_some hE he
    rw [rep_int hi]
    obtain ⟨h0, y, hy, hk⟩ := oget_some hk
    obtain ⟨A, c, h1, h2, h3⟩ := (show RepC w G (.sl t) xs [ux] from hx)
    injection h1 with h1
    obtain ⟨ad, ec, e1, e2, e3, e4, e5⟩ := h3 _ y hy
    have hlt : j.toNat < xs.length := (List.getElem?_eq_some_iff.1 hy).1
    refine ⟨_, .pointer (some (ad.add (j.toNat * t.sz))), hk, ?_, ad.add (j.toNat * t.sz), ec, rfl, by rw [add_block]; exact e2, by rw [add_block]; exact e3, fun q v hq => ?_, rep_unpack e4⟩
    · rw [h1, e1, run_indexAt_slice w T ad xs.length c kk j (slice_elem hT), if_pos ⟨h0, by omega⟩, elem_of hT, run_size hinf, Result.andThen_ok, hsz]
    · have := e5 q v hq
      rw [← this, add_add]
  · rename_i e _ o ver kk j hf
    have hT := slice_told hE hf rfl
    rw [rep_int hi]
    split at hk
    · rename_i e' t xs v hob1
      obtain ⟨hv, hk⟩ := cond_some hk
      rw [Bool.and_eq_true] at hv
      obtain ⟨hv, he⟩ := hv
      obtain ⟨inf, hinf, hsz⟩ := elemOk_some hE he
      have hv : v = ver := Nat.eq_of_beq_eq_true hv
      obtain ⟨h0, hk⟩ := oif_some hk
      obtain ⟨hlt, hk⟩ := oif_some hk
      have h0 := of_decide_eq_true h0
      have hlt := of_decide_eq_true hlt
      obtain ⟨e2, t2, xs2, ver2, hob2, hle2, _, hu2⟩ := (show ∃ e t xs ver', σ.ob[o]? = some (some (.row e t xs ver')) ∧ ver ≤ ver' ∧ ux.oneCell' = true ∧ (ver = ver' → ux = β o) from hx)
      rw [hob1] at hob2
      injection hob2 with hob2; injection hob2 with hob2
      injection hob2 with q1 q2 q3 q4
      subst q1; subst q2; subst q4
      rw [hu2 hv.symm]
      obtain ⟨cs, ho, _⟩ := hob _ _ hob1
      rcases ho.2 with ⟨hb1, hb2⟩ | ⟨g, cap, cur, hb1, hg, hh, _⟩
      · exact absurd hlt (Int.not_lt.mpr (by rw [hb2]; exact h0))
      · refine ⟨_, .pointer (some ((⟨g, 0, none⟩ : Addr).add (j.toNat * t.sz))), hk, ?_, e', t, xs, v, hob1, by omega, rfl, fun _ => ⟨g, _, cap, hb1, by rw [add_at]; simp⟩⟩
        rw [hb1, run_indexAt_slice w T _ _ _ kk j (slice_elem hT), if_pos ⟨h0, hlt⟩, elem_of hT, run_size hinf, Result.andThen_ok, hsz]
    · cases hk
  · cases hk

theorem sliced_rep {t : Ty} {xs : List (Den t)} {u : Value} (h : RepC w G (.sl t) xs [u]) {l k : Nat} (hl : l ≤ k) (hk : k ≤ xs.length) :
    ∃ A c, u = .slice A xs.length c ∧ xs.length ≤ c ∧ RepC w G (.sl t) ((xs.take k).drop l) [sliced A l k c t.sz] := by
  obtain ⟨A, c, h1, h2, h3⟩ := h
  injection h1 with h1
  refine ⟨A, c, h1, h2, ?_⟩
  refine ⟨if c = l then A else A.map (·.add (l * t.sz)), c - l, ?_, ?_, fun j x hx => ?_⟩
  · unfold sliced
    rw [List.length_drop, List.length_take, Nat.min_eq_left hk]
  · rw [List.length_drop, List.length_take, Nat.min_eq_left hk]; omega
  · rw [List.getElem?_drop] at hx
    have hlt : l + j < (xs.take k).length := (List.getElem?_eq_some_iff.1 hx).1
    rw [List.length_take, Nat.min_eq_left hk] at hlt
    rw [List.getElem?_take, if_pos hlt] at hx
    obtain ⟨ad, ec, e1, e2, e3, e4, e5⟩ := h3 _ x hx
    refine ⟨ad.add (l * t.sz), ec, ?_, by rw [add_block]; exact e2, by rw [add_block]; exact e3, e4, fun i v hv => ?_⟩
    · rw [if_neg (by omega), e1]
      rfl
    · have := e5 i v hv
      rw [← this, add_add, Nat.add_mul, Nat.add_assoc]
end
end Go.Vx

end
section
set_option linter.unusedVariables false
set_option linter.unusedSimpArgs false
namespace Go.Vx
open Go Go.RowKit
section
variable {P : Program} {pn : Nat → Value} {E : Env} {w0 w w' : World} {F G : Nat → Prop} {β : Nat → Value} {σ : St} {a : Act} {R : Type} {r : R} {ob : List (Option Obj)}

theorem slice_sound (hE : EnvOK P E) {T : TypeId} {x : V} {lo hi : Option V} {ux : Value} {ulo uhi : Option Value} {K : V → Option R} (hk : sliceK E T x lo hi K = some r) (hx : RepW P w G β ob x ux)
    (hlo : ∀ v, lo = some v → ∃ u, ulo = some u ∧ RepW P w G β ob v u) (hlo' : lo = none → ulo = none) (hhi : ∀ v, hi = some v → ∃ u, uhi = some u ∧ RepW P w G β ob v u) (hhi' : hi = none → uhi = none) :
    ∃ v val, K v = some r ∧ (Instr.sliceAt T ux ulo uhi none).run P w = .ok val w ∧ RepW P w G β ob v val := by
  unfold sliceK at hk
  split at hk
  · rename_i _ _ s kl l kh h hf
    have hT := str_told hE hf rfl
    obtain ⟨ul, rfl, h1⟩ := hlo _ rfl
    obtain ⟨uh, rfl, h2⟩ := hhi _ rfl
    rw [rep_int h1, rep_int h2, rep_str hx]
    obtain ⟨c1, hk⟩ := oif_some hk
    obtain ⟨c2, hk⟩ := oif_some hk
    obtain ⟨c3, hk⟩ := oif_some hk
    refine ⟨_, _, hk, ?_, rfl⟩
    rw [run_sliceAt_string w T _ _ _ _ hT]
    exact run_slice_string w T s kl kh l h hT (of_decide_eq_true c1) (of_decide_eq_true c2) (of_decide_eq_true c3)
  · rename_i _ _ s kl l hf
    have hT := str_told hE hf rfl
    obtain ⟨ul, rfl, h1⟩ := hlo _ rfl
    rw [hhi' rfl, rep_int h1, rep_str hx]
    obtain ⟨c1, hk⟩ := oif_some hk
    obtain ⟨c2, hk⟩ := oif_some hk
    refine ⟨_, _, hk, ?_, rfl⟩
    rw [run_sliceAt_string w T _ _ _ _ hT]
    exact run_slice_string_l w T s hT kl l (of_decide_eq_true c1) (of_decide_eq_true c2)
  · rename_i _ _ s kh h hf
    have hT := str_told hE hf rfl
    obtain ⟨uh, rfl, h2⟩ := hhi _ rfl
    rw [hlo' rfl, rep_int h2, rep_str hx]
    obtain ⟨c1, hk⟩ := oif_some hk
    obtain ⟨c2, hk⟩ := oif_some hk
    refine ⟨_, _, hk, ?_, rfl⟩
    rw [run_sliceAt_string w T _ _ _ _ hT]
    exact run_slice_string_h w T s hT kh h (of_decide_eq_true c1) (of_decide_eq_true c2)
  · rename_i e _ t xs kl l kh h hf
    have hT := slice_told hE hf rfl
    obtain ⟨he, hk⟩ := cond_some hk
    obtain ⟨inf, hinf, hsz⟩ := elemOk_some hE he
    obtain ⟨ul, rfl, h1⟩ := hlo _ rfl
    obtain ⟨uh, rfl, h2⟩ := hhi _ rfl
    rw [rep_int h1, rep_int h2]
    obtain ⟨c1, hk⟩ := oif_some hk
    obtain ⟨c2, hk⟩ := oif_some hk
    obtain ⟨c3, hk⟩ := oif_some hk
    have c1 := of_decide_eq_true c1
    have c2 := of_decide_eq_true c2
    have c3 := of_decide_eq_true c3
    have c4 : (0 : Int) ≤ h := Int.le_trans c1 c2
    have d1 : Int.toNat l ≤ Int.toNat h := Int.toNat_le_toNat c2
    have d2 : Int.toNat h ≤ xs.length := by rw [Int.toNat_le]; exact c3
    obtain ⟨A, c, rfl, hc, hr⟩ := sliced_rep hx d1 d2
    refine ⟨_, _, hk, ?_, hr⟩
    rw [run_sliceAt_slice w T _ _ _ _ (slice_elem hT), run_slice_lh w T A _ c (slice_elem hT) kl kh l h c1 c2 (Int.le_trans c3 (by exact_mod_cast hc)), elem_of hT, run_size hinf, Result.andThen_ok, hsz]
  · rename_i e _ t xs kl l hf
    have hT := slice_told hE hf rfl
    obtain ⟨he, hk⟩ := cond_some hk
    obtain ⟨inf, hinf, hsz⟩ := elemOk_some hE he
    obtain ⟨ul, rfl, h1⟩ := hlo _ rfl
    rw [hhi' rfl, rep_int h1]
    obtain ⟨c1, hk⟩ := oif_some hk
    obtain ⟨c2, hk⟩ := oif_some hk
    have c1 := of_decide_eq_true c1
    have c2 := of_decide_eq_true c2
    have d1 : Int.toNat l ≤ xs.length := by rw [Int.toNat_le]; exact c2
    obtain ⟨A, c, rfl, hc, hr⟩ := sliced_rep hx d1 (Nat.le_refl _)
    refine ⟨_, sliced A (Int.toNat l) xs.length c t.sz, hk, ?_, ?_⟩
    · rw [run_sliceAt_slice w T _ _ _ _ (slice_elem hT), run_slice_l w T A _ c (slice_elem hT) kl l c1 c2, elem_of hT, run_size hinf, Result.andThen_ok, hsz]
    · rw [List.take_length] at hr
      exact hr
  · rename_i e _ t xs kh h hf
    have hT := slice_told hE hf rfl
    obtain ⟨he, hk⟩ := cond_some hk
    obtain ⟨inf, hinf, hsz⟩ := elemOk_some hE he
    obtain ⟨uh, rfl, h2⟩ := hhi _ rfl
    rw [hlo' rfl, rep_int h2]
    obtain ⟨c1, hk⟩ := oif_some hk
    obtain ⟨c3, hk⟩ := oif_some hk
    have c1 := of_decide_eq_true c1
    have c3 := of_decide_eq_true c3
    have d2 : Int.toNat h ≤ xs.length := by rw [Int.toNat_le]; exact c3
    obtain ⟨A, c, rfl, hc, hr⟩ := sliced_rep hx (Nat.zero_le _) d2
    refine ⟨_, sliced A 0 (Int.toNat h) c t.sz, hk, ?_, ?_⟩
    · rw [run_sliceAt_slice w T _ _ _ _ (slice_elem hT), run_slice_h w T A _ c (slice_elem hT) kh h c1 (Int.le_trans c3 (by exact_mod_cast hc)), elem_of hT, run_size hinf, Result.andThen_ok, hsz]
    · rw [List.drop_zero] at hr
      exact hr
  · cases hk

theorem fieldOff_some {S : TypeId} {f off : Nat} {t : TypeId} (hE : EnvOK P E) (h : fieldOff E S f = some (off, t)) : ∃ fields fd inf, P.underlying S = some (.struct fields) ∧ fields[f]? = some fd ∧ fd.offset = off ∧ fd.type = t ∧ P.info? t = some inf ∧ 0 < inf.size := by
  unfold fieldOff at h
  split at h
  · rename_i fs _ hf
    obtain ⟨inf, d, z, h1, h2, h3, h4, h5, h6, _⟩ := (told hE hf).ex
    obtain ⟨fields, rfl, h6⟩ := kind_struct h6
    obtain ⟨fd, g1, g2, g3, i, g4, g5⟩ := fieldsAre_get h6 h
    exact ⟨fields, fd, i, h2, by simpa using g1, g2, g3, g4, g5⟩
  · cases h
theorem fieldAddr_sound (hE : EnvOK P E) (hob : ObsOK P w0 w G β σ.ob) {S : TypeId} {f off : Nat} {t : TypeId} {x : V} {y : A} {ux : Value} (hf : fieldOff E S f = some (off, t)) (hy : fieldAddrA σ off x = some y) (hx : RepW P w G β σ.ob x ux) :
    ∃ val, (Instr.fieldAt S ux f).run P w = .ok val w ∧ RepA P w G β σ.ob y val := by
  obtain ⟨fields, fd, inf, h1, h2, h3, h4, h5, h6⟩ := fieldOff_some hE hf
  have hrun : ∀ ad : Addr, (Instr.fieldAt S (.pointer (some ad)) f).run P w = .ok (.pointer (some (ad.add off))) w := by
    intro ad
    have hs : (sizeOf fd.type).run P w = .ok inf.size w := by rw [h4]; exact run_size h5 w
    simp [Instr.fieldAt, run_underlying h1, h2, Instr.sureAddr, fieldPlace, hs, h3, show inf.size ≠ 0 by omega]
  unfold fieldAddrA at hy
  split at hy
  · rename_i o k
    injection hy with hy
    subst hy
    obtain ⟨hc, g, q1, rfl⟩ := (show (∃ cells, σ.ob[o]? = some (some (.box cells))) ∧ ∃ g, β o = .pointer (some ⟨g, 0, none⟩) ∧ ux = .pointer (some ⟨g, k, none⟩) from hx)
    exact ⟨_, hrun _, hc, g, q1, by rw [add_at]⟩
  · rename_i o ver i k
    split at hy
    · rename_i e t' xs v hob1
      obtain ⟨hv, hy⟩ := cond_some hy
      have hv : v = ver := Nat.eq_of_beq_eq_true hv
      injection hy with hy
      subst hy
      obtain ⟨e2, t2, xs2, ver2, hob2, hle2, hone, hu2⟩ := (show ∃ e t xs ver', σ.ob[o]? = some (some (.row e t xs ver')) ∧ ver ≤ ver' ∧ ux.oneCell' = true ∧ (ver = ver' → ∃ g n c, β o = .slice (some ⟨g, 0, none⟩) n c ∧ ux = .pointer (some ⟨g, i * t.sz + k, none⟩)) from hx)
      have hob3 := hob2
      rw [hob1] at hob2
      injection hob2 with hob2; injection hob2 with hob2
      injection hob2 with q1 q2 q3 q4
      subst q4
      obtain ⟨g, n, c, q5, rfl⟩ := hu2 hv.symm
      refine ⟨_, hrun _, e2, t2, xs2, v, hob3, hle2, rfl, fun _ => ⟨g, n, c, q5, by rw [add_at, Nat.add_assoc]⟩⟩
    · cases hy
  · rename_i cells
    injection hy with hy
    subst hy
    obtain ⟨ad, cs, rfl, q1, q2, q3, q4⟩ := (show ∃ ad cs, ux = .pointer (some ad) ∧ G ad.block ∧ ad.block < w.heap.size ∧ (∀ (j : Nat) (v : Value), cs[j]? = some v → w.cell? (ad.add j) = some v) ∧ RepL (RepB P w G) cells cs from hx)
    refine ⟨_, hrun _, ad.add off, cs.drop off, rfl, by rw [add_block]; exact q1, by rw [add_block]; exact q2, fun j v hj => ?_, RepL_drop off q4⟩
    rw [List.getElem?_drop] at hj
    rw [add_add]
    exact q3 _ v hj
  · cases hy
theorem field_sound (hE : EnvOK P E) {S : TypeId} {f off : Nat} {t : TypeId} {i : TI} {cells cs : List A} {v : V0} {ux : Value} (hf : fieldOff E S f = some (off, t)) (hi : find E.tab t = some i) (hc : cut cells off i.size = some cs) (hv : valOf i.agg cs = some v) (hx : RepW P w G β ob (.v (.agg cells)) ux) :
    ∃ val, (Instr.field S ux f).run P w = .ok val w ∧ RepV0 P w G β ob v val := by
  obtain ⟨fields, fd, inf0, h1, h2, h3, h4, h5, h6⟩ := fieldOff_some hE hf
  obtain ⟨inf, d, z, g1, g2, g3, g4, g5, _⟩ := (told hE hi).ex
  rw [g1] at h5
  injection h5 with h5
  subst h5
  obtain ⟨us, rfl, hL⟩ := hx
  obtain ⟨hle, rfl⟩ := cut_some hc
  have hlen := RepL_len hL
  obtain ⟨ho, hr⟩ := valOf_rep hv (RepL_take i.size (RepL_drop off hL))
  have hag : (isAgg t).run P w = .ok (aggIs d) w := run_agg g2 w
  have hsz := run_size g1 w
  refine ⟨_, ?_, hr⟩
  rw [← g5]
  cases hb : aggIs d with
  | true =>
    rw [hb] at hag
    simp [Instr.field, run_underlying h1, h2, asAgg, part, h3, h4, hag, hsz, g3]
  | false =>
    rw [hb] at hag
    have h1c := ho (by rw [← g5, hb])
    have hlt : off < us.length := by
      rw [List.length_take, List.length_drop] at h1c
      omega
    simp [Instr.field, run_underlying h1, h2, asAgg, part, h3, h4, hag, hlt]
    have hpos : 0 < i.size := by omega
    cases hd : (us.drop off).take i.size with
    | nil =>
      rw [hd] at h1c
      simp at h1c
    | cons q qs =>
      have : ((us.drop off).take i.size)[0]? = some q := by rw [hd]; rfl
      rw [List.getElem?_take, if_pos hpos, List.getElem?_drop, Nat.add_zero, List.getElem?_eq_getElem hlt] at this
      injection this
theorem index_sound (hE : EnvOK P E) {T : TypeId} (hT : P.underlying T = some .string) {s : ByteArray} {k : IntKind} {j : Int} (h0 : 0 ≤ j) (h1 : j < (s.size : Int)) :
    (Instr.index T (.string s) (.int k j)).run P w = .ok (.int .u8 (byteAt s j)) w := by
  rw [run_index_string w T s k j hT, dif_pos ⟨h0, h1⟩]
  have hlt : j.toNat < s.data.toList.length := by
    have : s.data.toList.length = s.size := Array.length_toList
    omega
  have : byteAt s j = ((s[j.toNat]'(by omega)).toNat : Int) := by
    unfold byteAt
    rw [List.getElem?_eq_getElem hlt]
    rfl
  rw [this]

def New (G : Nat → Prop) (w : World) : Nat → Prop := fun k => (G k ∧ k < w.heap.size) ∨ w.heap.size ≤ k
theorem push_all : ∀ (ns : List Int) (s : ByteArray), ns.foldl (fun r n => r.push (UInt8.ofNat n.toNat)) s = ⟨s.data ++ (ns.map fun n => UInt8.ofNat n.toNat).toArray⟩
  | [], s => by simp
  | n :: ns, s => by
    rw [List.foldl_cons, push_all ns]
    simp [ByteArray.push]
theorem bytes_cells {xs : List Int} {u : Value} (h : RepC w G (.sl (.int .u8)) xs [u]) : ∃ A c, u = .slice A xs.length c ∧ (A = none → xs = []) ∧ ∀ ad, A = some ad → ∀ (j : Nat) (v : Value), (xs.map (Value.int .u8))[j]? = some v → w.cell? (ad.add j) = some v := by
  obtain ⟨A, c, h1, h2, h3⟩ := h
  injection h1 with h1
  refine ⟨A, c, h1, fun hA => ?_, fun ad hA j v hj => ?_⟩
  · cases xs with
    | nil => rfl
    | cons y ys => obtain ⟨ad, _, he, _⟩ := h3 0 y rfl; rw [hA] at he; cases he
  · rw [List.getElem?_map] at hj
    cases hx : xs[j]? with
    | none => rw [hx] at hj; cases hj
    | some x =>
      rw [hx] at hj
      injection hj with hj
      obtain ⟨ad', ec, e1, e2, e3, e4, e5⟩ := h3 j x hx
      rw [hA] at e1
      injection e1 with e1
      subst e1
      have : ec = [Value.int .u8 x] := e4
      have := e5 0 v (by rw [this, ← hj]; rfl)
      simpa [Ty.sz] using this
theorem conv_sound (hE : EnvOK P E) {src dst : TypeId} {x : V} {ux : Value} {K : V → Option R} (hk : convK E src dst x K = some r) (hx : RepW P w G β ob x ux) :
    ∃ v val w', K v = some r ∧ (convert src dst ux).run P w = .ok val w' ∧ Below w.heap.size w w' ∧ RepW P w' (New G w) β ob v val := by
  unfold convK at hk
  split at hk
  · rw [rep_int hx]
    have hs := int_told hE ‹find E.tab src = some _› rfl
    have hd := int_told hE ‹find E.tab dst = some _› rfl
    exact ⟨_, _, w, hk, by simp [convert, run_underlying hs, run_underlying hd, Conv.intToInt], Below.refl _ _, rfl⟩
  · rw [rep_str hx]
    have hs := str_told hE ‹find E.tab src = some _› rfl
    have hd := str_told hE ‹find E.tab dst = some _› rfl
    exact ⟨_, _, w, hk, by simp [convert, run_underlying hs, run_underlying hd], Below.refl _ _, rfl⟩
  · rename_i e _ s _ _
    rw [rep_str hx]
    have hs := str_told hE ‹find E.tab src = some _› rfl
    have hd := slice_told hE ‹find E.tab dst = some _› rfl
    split at hk
    · rename_i he
      have he := int_told hE he rfl
      refine ⟨_, _, _, hk, Lib.run_convert_string_bytes w src dst e s hs hd he, Lib.bytesWorld_below w e s, ?_⟩
      refine ⟨some ⟨w.heap.size, 0, none⟩, grownCap w s.size 0 e, ?_, ?_, fun j y hj => ?_⟩
      · have : (bytesOf s).length = s.size := by unfold bytesOf; rw [List.length_map]; exact Array.length_toList
        rw [this]
      · have : (bytesOf s).length = s.size := by unfold bytesOf; rw [List.length_map]; exact Array.length_toList
        rw [this]
        exact grownCap_ge w s.size 0 e
      · have hl : (bytesOf s).length = s.size := by unfold bytesOf; rw [List.length_map]; exact Array.length_toList
        have hlt : j < s.size := by rw [← hl]; exact (List.getElem?_eq_some_iff.1 hj).1
        refine ⟨⟨w.heap.size, 0, none⟩, [.int .u8 y], rfl, .inr (Nat.le_refl _), by rw [Lib.bytesWorld_size]; exact Nat.lt_succ_self _, rfl, fun i v hv => ?_⟩
        have hi : i = 0 := by
          have := (List.getElem?_eq_some_iff.1 hv).1
          simp at this
          exact this
        subst hi
        rw [add_at]
        have h9 := Lib.bytesWorld_cell w e s j hlt
        simp only [Ty.sz, Nat.mul_one, Nat.zero_add, Nat.add_zero]
        rw [h9, ← hv]
        unfold bytesOf at hj
        rw [List.getElem?_map] at hj
        cases hq : s.data.toList[j]? with
        | none => rw [hq] at hj; cases hj
        | some b =>
          rw [hq] at hj
          injection hj with hj
          rw [← hj, List.getD_eq_getElem?_getD, hq]
          rfl
    · cases hk
  · rename_i e _ _ _ _ _ _ _ xs _ _
    have hs := slice_told hE ‹find E.tab src = some _› rfl
    have hd := str_told hE ‹find E.tab dst = some _› rfl
    split at hk
    · rename_i he
      have he := int_told hE he rfl
      obtain ⟨A, c, rfl, h1, h2⟩ := bytes_cells hx
      refine ⟨_, .string (strOf xs), w, hk, ?_, Below.refl _ _, rfl⟩
      rw [run_convert_bytes_string w src dst e A xs.length c hs he hd]
      cases A with
      | none =>
        have : xs = [] := h1 rfl
        subst this
        simp [Conv.bytesToString]
        rfl
      | some ad =>
        have hl := run_loadCells_list (P := P) w ad _ (h2 ad rfl)
        rw [List.length_map] at hl
        rw [run_bytesToString w ad xs.length c xs hl, push_all]
        unfold strOf
        rw [show ByteArray.empty.data = #[] from rfl, Array.empty_append]
    · cases hk
  · cases hk
end
end Go.Vx

end
section
set_option linter.unusedVariables false
set_option linter.unusedSimpArgs false
namespace Go.Vx
open Go Go.RowKit
section
variable {P : Program} {pn : Nat → Value} {E : Env} {w0 w w' : World} {F G : Nat → Prop} {β : Nat → Value} {σ : St} {a : Act} {R : Type} {r : R}

theorem run_enter {f : FuncId} (h : Enters P f) (args : Array Value) (w : World) : (callFunc f args).run P w = .ok (.enter f args) w := by
  obtain ⟨fn, h1, h2, h3⟩ := h
  have h4 : fn.body.isNone = false := by cases hb : fn.body <;> simp [hb] at h3 ⊢
  simp only [callFunc, program, Sem.run_bind, Sem.run, Result.andThen_ok, h1, h2, h4]
  simp [Sem.run_pure]

def Goes (P : Program) (pn : Nat → Value) (w0 : World) (F : Nat → Prop) (K : St → Option R) (r : R) : Act → World → Prop := fun a' w' => ∃ σ', K σ' = some r ∧ Inv P pn w0 F σ' a' w'
variable {K : St → Option R} {Q : Exit → Act → World → Prop}
theorem goes_value {o : Oper} {v : Value} (hr : (execOp a.eval o).run P w = .ok (.value v) w') {σ' : St} (hk : K σ' = some r) (hi : Inv P pn w0 F σ' (a.put o.dst v) w') : o.wp P a w (Goes P pn w0 F K r) Q := op_value hr ⟨σ', hk, hi⟩
theorem goes_put {o : Oper} {v : Value} (hd : a.defers = []) (h : Holds P pn w0 F β G σ w a.tmps) (hr : (execOp a.eval o).run P w = .ok (.value v) w) {x : V} (hk : K (σ.put o.dst x) = some r) (hx : RepW P w G β σ.ob x v) : o.wp P a w (Goes P pn w0 F K r) Q :=
  goes_value hr hk (inv_put hd h hx o.dst)

theorem goes_enter {o : Oper} {f : FuncId} {args : Array Value} (hd : a.defers = []) (h : Holds P pn w0 F β G σ w a.tmps) (hr : (execOp a.eval o).run P w = .ok (.enter f args) w) {x : V} (hk : K (σ.put o.dst x) = some r)
    (hc : Calls P f args w fun e w' => ∃ u, e = .returned u ∧ Below w.heap.size w w' ∧ RepW P w' (fun k => (G k ∧ k < w.heap.size) ∨ w.heap.size ≤ k) β σ.ob x u) : o.wp P a w (Goes P pn w0 F K r) Q := by
  unfold Oper.wp
  rw [hr, Oper.upon_enter]
  refine hc.mono ?_
  rintro e w' ⟨u, rfl, hb, hx⟩
  exact ⟨_, hk, inv_put hd (h.call hb) hx o.dst⟩

theorem rep_valW {t : Ty} {x : Den t} {u : Value} {ob : List (Option Obj)} (h : RepV w G t x u) : RepW P w G β ob (.v (valV t x)) u := rep_valV h
theorem list1 {α : Type} {xs : Array α} {x : α} (h : xs.toList = [x]) : xs = #[x] := by cases xs; simp_all
theorem list2 {α : Type} {xs : Array α} {x y : α} (h : xs.toList = [x, y]) : xs = #[x, y] := by cases xs; simp_all

theorem map_args {c : Call} : (c.args.toList.map a.eval).toArray = c.args.map a.eval := by
  rw [← Array.toList_map]
theorem args_map {fn : Option Nat} {xs xs' : List Operand} (h : argsOf fn xs = some xs') : xs.map a.eval = xs'.map a.eval ++ fnV fn := by
  unfold argsOf at h
  split at h
  · injection h with h
    subst h
    simp [fnV]
  · rename_i g g'
    obtain ⟨h1, h2⟩ := cond_some h
    have h1 : g' = g := Nat.eq_of_beq_eq_true h1
    injection h2 with h2
    subst h1; subst h2
    rfl
  · cases h
theorem argsOf_sub {fn : Option Nat} {xs xs' : List Operand} (h : argsOf fn xs = some xs') : ∀ x ∈ xs', x ∈ xs := by
  unfold argsOf at h
  split at h
  · injection h with h
    subst h
    exact fun x hx => hx
  · obtain ⟨h1, h2⟩ := cond_some h
    injection h2 with h2
    subst h2
    exact fun x hx => by simp at hx
  · cases h
theorem RepL_of {R : V → Value → Prop} : ∀ {l : List V} {us : List Value}, us.length = l.length → (∀ (t : Nat) (v : V), l[t]? = some v → R v (us[t]?.getD undef)) → RepL R l us
  | [], us, hl, _ => List.length_eq_zero_iff.1 hl
  | v :: l, [], hl, _ => by cases hl
  | v :: l, u :: us, hl, h => ⟨u, us, rfl, h 0 v rfl, RepL_of (by simpa using hl) (fun t v hv => h (t + 1) v hv)⟩
theorem Holds.list {tmps : Array Value} (h : Holds P pn w0 F β G σ w tmps) : RepL (RepW P w G β σ.ob) σ.tm tmps.toList :=
  RepL_of (by simp [h.size]) (fun t v hv => by
    have := h.tms t v hv
    rw [Array.getD_eq_getD_getElem?] at this
    rwa [Array.getElem?_toList])
theorem live_rep {R : V → Value → Prop} (hu : ∀ u, R undefV u) (live : List Nat) : ∀ {i : Nat} {l : List V} {us : List Value}, RepL R l us → RepL R (liveT live i l) us
  | _, [], _, h => h
  | i, v :: l, us, h => by
    obtain ⟨u, us', rfl, h1, h2⟩ := h
    refine ⟨u, us', rfl, ?_, live_rep hu live h2⟩
    cases memN live i with
    | true => exact h1
    | false => exact hu u
theorem Ext.drop {ob : List (Option Obj)} {q : Nat} {vs : List V} (hq : ob[q]? = some (some (.hid vs))) : Ext β ob β (ob.set q none) := fun o => by
  by_cases e : o = q
  · subst e
    exact ⟨fun cells h => (by rw [hq] at h; cases h), fun _ t xs ver h => (by rw [hq] at h; cases h), fun t es h => (by rw [hq] at h; cases h)⟩
  · have hs : (ob.set q none)[o]? = ob[o]? := set_get e
    exact ⟨fun cells h => ⟨cells, hs.trans h, rfl⟩, fun e t xs ver h => ⟨xs, ver, hs.trans h, Nat.le_refl _, fun _ => rfl⟩, fun t es h => ⟨es, hs.trans h, rfl⟩⟩
theorem grown_self (w : World) : w.grownBy w none := ⟨rfl, rfl, rfl, Nat.le_refl _, fun _ _ _ => rfl⟩
theorem inl_sound (hE : EnvOK P E) {o : Oper} {f : FuncId} {xs : List Operand} (hd : a.defers = []) (h : Holds P pn w0 F β G σ w a.tmps)
    (hrun : (execOp a.eval o).run P w = .ok (.enter f (xs.map a.eval).toArray) w) (hk : inlK E σ o.dst f xs K = some r) : o.wp P a w (Goes P pn w0 F K r) Q := by
  unfold inlK at hk
  split at hk
  · rename_i I vs d' hI hvs hdst
    split at hk
    · rename_i off live hsite
      obtain ⟨hfr, hk⟩ := cond_some hk
      have hfree := isFree_some hfr
      generalize hq : E.base + off = q at hfree hk
      have h1 := h.repin (pn' := upd pn q (.tuple a.tmps)) (fun o vs hv => upd_other (by rintro rfl; rw [hfree] at hv; cases hv))
      have hold : ∀ {x : A} {v : Value}, RepA P w G β σ.ob x v → RepA P w (Old G w) (upd β q (.tuple a.tmps)) (σ.ob.set q (some (.hid (liveT live 0 σ.tm)))) x v := fun hx => rep_grown (grown_self w) hfree hx
      have h2 := h1.obj q none (.tuple a.tmps) (.hid (liveT live 0 σ.tm)) hfree (grown_self w) (.inl rfl) (fun k hk => by cases hk) (Ext.new hfree)
        ⟨a.tmps.toList, by rw [upd_same], live_rep (fun u => trivial) live (RepL_imp (fun _ _ hx => RepW_imp (fun _ _ hx => hold hx) hx) h1.list)⟩ (fun vs e => (upd_same _ _ _).symm)
      have hargs : RepL (RepV0 P w (Old G w) (upd β q (.tuple a.tmps)) (σ.ob.set q (some (.hid (liveT live 0 σ.tm))))) vs (xs.map a.eval) := RepL_imp (fun _ _ hx => RepV0_imp (fun _ _ hx => hold hx) hx) (rep_opnds0 hE h hvs)
      have hc := (hE.inls f I hI).2 _ _ w0 w F _ _ _ vs _ _ r h2.bare hargs hk
      unfold Oper.wp
      rw [hrun, Oper.upon_enter]
      refine hc.mono ?_
      rintro e w' ⟨β', G', ob', vs', us', rfl, hk', h4, hres⟩
      unfold retK at hk'
      split at hk'
      · rename_i tm' hob
        have hext : Ext β' ob' β' (ob'.set q none) := Ext.drop hob
        obtain ⟨us2, e2, hL⟩ := h4.obs q _ hob
        have hp := h4.pin q _ hob
        rw [upd_same] at hp
        have hus : us2.toArray = a.tmps := by
          rw [e2] at hp
          injection hp
        have h5 : Holds P pn w0 F β' G' { tm := tm', ob := ob'.set q none } w' a.tmps := by
          have hLen := RepL_len hL
          have hget : ∀ o x, (ob'.set q none)[o]? = some (some x) → o ≠ q ∧ ob'[o]? = some (some x) := fun o x hx => by
            by_cases e : o = q
            · subst e
              rw [set_self hob] at hx
              cases hx
            · exact ⟨e, (set_get e).symm.trans hx⟩
          refine ⟨h4.gF, h4.below, by rw [← hus]; simp [hLen], fun t v hv => ?_, fun o x hx => RepO_ext hext rfl (h4.obs o x (hget o x hx).2), fun o x o' x' k hx hx' hk hk' => h4.apart o x o' x' k (hget o x hx).2 (hget o' x' hx').2 hk hk', fun o x k hx hk => h4.notG o x k (hget o x hx).2 hk, fun o vs hv => ?_⟩
          · obtain ⟨u, hu, hr⟩ := RepL_get hL hv
            rw [← hus, Array.getD_eq_getD_getElem?]
            have : us2.toArray[t]? = some u := by simpa using hu
            rw [this]
            exact RepW_imp (fun _ _ hx => RepA_ext hext hx) hr
          · exact (h4.pin o vs (hget o _ hv).2).trans (upd_other (hget o _ hv).1)
        refine ⟨_, hk', ?_⟩
        rw [hdst]
        exact inv_put hd h5 (rep_resOf (RepL_imp (fun _ _ hx => RepV0_imp (fun _ _ hx => RepA_ext hext hx) hx) hres)) (some d')
      · cases hk'
    · cases hk
  · cases hk
theorem row_sound (hE : EnvOK P E) {o : Oper} {f : FuncId} {S : RSpec} {xs : List Operand} (hS : find E.rows f = some S) (hd : a.defers = []) (h : Holds P pn w0 F β G σ w a.tmps)
    (hrun : (execOp a.eval o).run P w = .ok (.enter f (xs.map a.eval).toArray) w) (hk : rowK E σ o.dst f S xs K = some r) : o.wp P a w (Goes P pn w0 F K r) Q := by
  have hs := hE.rows _ _ hS
  have hup : ∀ {Rr : Ending → World → Prop}, Calls P f (xs.map a.eval).toArray w Rr → (∀ e w', Rr e w' → ∃ u, e = .returned u ∧ Goes P pn w0 F K r (a.put o.dst u) w') → o.wp P a w (Goes P pn w0 F K r) Q := by
    intro Rr hc hR
    unfold Oper.wp
    rw [hrun, Oper.upon_enter]
    refine hc.mono ?_
    intro e w' he
    obtain ⟨u, rfl, hg⟩ := hR e w' he
    exact hg
  obtain ⟨kind, e, t, ats, SF, fnO⟩ := S
  unfold rowK at hk
  cases kind with
  | fresh =>
    simp only at hk
    split at hk
    · rename_i vs hvs
      split at hk
      · rename_i y hy
        obtain ⟨l, hl, hk⟩ := obind_eq hk
        obtain ⟨hz, hk⟩ := cond_some hk
        obtain ⟨d, hdst, hfree, hk⟩ := newObj_some hk
        have hrep := rep_opnds0 hE h hvs
        have hargs : RepADs P w (Old G w) ats y (xs.map a.eval) := RepADs_mono (fun k hk hlt => ⟨hk, hlt⟩) (rep_packArgs (w0 := w0) (G' := G) (fun k hk => hk) (fun hf => by cases hf) hy hrep)
        refine hup (hs.2 w (Old G w) y _ l hargs hl) ?_
        rintro e' w' ⟨v, cs, rfl, hg, ho, hr⟩
        refine ⟨v, rfl, _, hk, ?_⟩
        rw [hdst]
        exact newRow_inv hd h hfree (Nat.le_of_ble_eq_true hz) hg ho hr
      · cases hk
    · cases hk
  | step =>
    cases xs with
    | nil => cases hk
    | cons x xs =>
      simp only at hk
      split at hk
      · rename_i o' ver vs d hx hvs hdst
        split at hk
        · rename_i e' l hrow
          have hc1 := cond_some hk
          clear hk
          obtain ⟨he, hk⟩ := hc1
          have he' : e' = e := Nat.eq_of_beq_eq_true he
          subst he'
          split at hk
          · rename_i y hy
            obtain ⟨l', hl, hk⟩ := obind_eq hk
            have hob := asRow_some hrow
            have hv := rep_opnd hE h x
            rw [hx] at hv
            obtain ⟨e2, t2, xs2, ver2, hob2, hle2, _, hu2⟩ := (show ∃ e t xs ver', σ.ob[o']? = some (some (.row e t xs ver')) ∧ ver ≤ ver' ∧ (a.eval x).oneCell' = true ∧ (ver = ver' → a.eval x = β o') from hv)
            rw [hob] at hob2
            injection hob2 with hob2; injection hob2 with hob2
            injection hob2 with q1 q2 q3 q4
            subst q1; subst q2; subst q4
            obtain ⟨cs, ho, hrr, hsz⟩ := h.obs o' _ hob
            have hus := hu2 rfl
            have hargs : RepADs P w (Old G w) ats y (xs.map a.eval) := RepADs_mono (fun k hk hlt => ⟨hk, hlt⟩) (rep_packArgs (w0 := w0) (G' := G) (fun k hk => hk) (fun hf => by cases hf) hy (rep_opnds0 hE h hvs))
            have hc := hs.2 w w0.heap.size (Old G w) l (β o') cs y _ l' h.below.size ho (RepRows_imp (fun _ _ hq => RepC_mono (fun k hk hlt => ⟨hk, hlt⟩) hq) hrr) (fun k hk hn => h.notG o' _ k hob hk hn.1) hargs hl
            rw [← hus] at hc
            refine hup hc ?_
            rintro e'' w' ⟨v', cs', rfl, hg, ho', hr', hb'⟩
            rw [hus] at hg hb'
            refine ⟨v', rfl, _, hk, ?_⟩
            rw [hdst]
            refine ⟨hd, upd β o' v', Old G w, ?_⟩
            have hext : Ext β σ.ob (upd β o' v') (σ.ob.set o' (some (.row e' t l' (ver + 1)))) := Ext.row hob (by omega) (fun e => by omega)
            have hH := h.obj o' (blk (β o')) v' (.row e' t l' (ver + 1)) hob hg (.inr ⟨_, rfl, rfl⟩) (fun k hkk => by
              rcases hb' with hb' | hb'
              · exact .inl ⟨_, rfl, by rw [← hb', hkk]⟩
              · exact .inr (hb' k hkk)) hext ⟨cs', by rw [upd_same]; exact ho', hr', hsz⟩
            exact hH.put d (v := .v (.one (.row o' (ver + 1)))) ⟨e', t, l', ver + 1, set_self hob, Nat.le_refl _, own_one ho', fun _ => (upd_same _ _ _).symm⟩
          · cases hk
        · cases hk
      · cases hk
  | inplace =>
    cases xs with
    | nil => cases hk
    | cons x xs =>
      simp only at hk
      split at hk
      · rename_i o' ver vs hx hvs0
        obtain ⟨xs', hxs', hvs⟩ := Option.bind_eq_some_iff.1 hvs0
        have hmap := args_map (a := a) hxs'
        split at hk
        · rename_i e' l hrow
          have hc1 := cond_some hk
          clear hk
          obtain ⟨he, hk⟩ := hc1
          have he' : e' = e := Nat.eq_of_beq_eq_true he
          subst he'
          split at hk
          · rename_i y hy
            obtain ⟨l', hl, hk⟩ := obind_eq hk
            obtain ⟨hlen, hk⟩ := cond_some hk
            have hlen : l'.length = l.length := Nat.eq_of_beq_eq_true hlen
            have hob := asRow_some hrow
            have hv := rep_opnd hE h x
            rw [hx] at hv
            obtain ⟨e2, t2, xs2, ver2, hob2, hle2, _, hu2⟩ := (show ∃ e t xs ver', σ.ob[o']? = some (some (.row e t xs ver')) ∧ ver ≤ ver' ∧ (a.eval x).oneCell' = true ∧ (ver = ver' → a.eval x = β o') from hv)
            rw [hob] at hob2
            injection hob2 with hob2; injection hob2 with hob2
            injection hob2 with q1 q2 q3 q4
            subst q1; subst q2; subst q4
            obtain ⟨cs, ho, hrr, hsz⟩ := h.obs o' _ hob
            have hus := hu2 rfl
            have hargs : RepADs P w (Old G w) ats y (xs'.map a.eval) := RepADs_mono (fun k hk hlt => ⟨hk, hlt⟩) (rep_packArgs (w0 := w0) (G' := G) (fun k hk => hk) (fun hf => by cases hf) hy (rep_opnds0 hE h hvs))
            have hc := hs.2 w w0.heap.size (Old G w) l (β o') cs y _ l' h.below.size ho (RepRows_imp (fun _ _ hq => RepC_mono (fun k hk hlt => ⟨hk, hlt⟩) hq) hrr) (fun k hk hn => h.notG o' _ k hob hk hn.1) hargs hl hlen
            rw [← hus, ← hmap] at hc
            refine hup hc ?_
            rintro e'' w' ⟨cs', rfl, hg, ho', hr'⟩
            rw [hus] at hg ho'
            refine ⟨_, rfl, _, hk, ?_⟩
            have hext : Ext β σ.ob (upd β o' (β o')) (σ.ob.set o' (some (.row e' t l' ver))) := Ext.row hob (Nat.le_refl _) (fun _ => rfl)
            have hH := h.obj o' (blk (β o')) (β o') (.row e' t l' ver) hob hg (.inr ⟨_, rfl, rfl⟩) (fun k hkk => .inl ⟨_, rfl, hkk⟩) hext ⟨cs', by rw [upd_same]; exact ho', hr', hsz⟩
            exact inv_put hd hH (show RepW P w' (Old G w) (upd β o' (β o')) _ (.tup []) (.tuple #[]) from ⟨[], rfl, rfl⟩) o.dst
          · cases hk
        · cases hk
      · cases hk
  | inl => exact inl_sound hE hd h hrun hk
theorem call_sound (hE : EnvOK P E) {o : Oper} {c : Call} (ho : o.op = .call c) (hd : a.defers = []) (h : Holds P pn w0 F β G σ w a.tmps) (hk : callK E σ o.dst c K = some r) : o.wp P a w (Goes P pn w0 F K r) Q := by
  have hrun : (execOp a.eval o).run P w = ((resolve a.eval c o.type).run P w).andThen fun d w => (invoke d.target d.args).run P w := by
    simp only [execOp, ho, Sem.run_bind]
  unfold callK at hk
  split at hk
  · rename_i x T hc ha ht
    have hrun2 : (execOp a.eval o).run P w = ((Builtin.len_ #[T] o.type #[a.eval x]).run P w).andThen fun v w => .ok (.value v) w := by
      rw [hrun]
      simp [resolve, hc, list1 ha, list1 ht, invoke, builtin, Sem.run_bind]
    split at hk
    · rename_i n hT hn
      split at hk
      · rename_i s hs
        have hx := rep_opnd hE h x
        rw [hs] at hx
        rw [rep_str hx, run_len_string w T o.type s (str_told hE hT rfl)] at hrun2
        refine goes_put hd h hrun2 hk ?_
        rw [hs] at hn
        injection hn with hn
        rw [← hn]
        exact rfl
      · cases hk
    · rename_i e _ n hT hn
      split at hk
      · cases hk
      · rename_i hs
        have hx := rep_opnd hE h x
        rw [len_sound hE (obs_ok h) (slice_told hE hT rfl) hn (fun s hs' => hs s (by rw [hs'])) hx] at hrun2
        exact goes_put hd h hrun2 hk rfl
    · cases hk
  · rename_i x y hc ha
    split at hk
    · rename_i k m k' n h1 h2
      have hx := rep_opnd hE h x
      have hy := rep_opnd hE h y
      rw [h1] at hx
      rw [h2] at hy
      have hrun2 : (execOp a.eval o).run P w = .ok (.value (.int k (if n < m then n else m))) w := by
        rw [hrun]
        simp [resolve, hc, list2 ha, invoke, builtin, Sem.run_bind, rep_int hx, rep_int hy, run_min_int2, Result.andThen]
      refine goes_put hd h hrun2 hk ?_
      show RepC _ _ _ _ _
      by_cases hlt : n < m
      · simp [hlt]; rfl
      · simp [hlt]; rfl
    · cases hk
  · rename_i x y hc ha
    split at hk
    · rename_i k m k' n h1 h2
      have hx := rep_opnd hE h x
      have hy := rep_opnd hE h y
      rw [h1] at hx
      rw [h2] at hy
      have hrun2 : (execOp a.eval o).run P w = .ok (.value (.int k (if n > m then n else m))) w := by
        rw [hrun]
        simp [resolve, hc, list2 ha, invoke, builtin, Sem.run_bind, rep_int hx, rep_int hy, run_max_int2, Result.andThen]
      refine goes_put hd h hrun2 hk ?_
      show RepC _ _ _ _ _
      by_cases hlt : m < n
      · simp [hlt]; rfl
      · simp [hlt]; rfl
    · cases hk
  · rename_i s x T T' hc ha ht
    obtain ⟨σ', val, w', h1, h2, h3⟩ := append_sound (ty := o.type) hE hd h hk (rep_opnd hE h s) (rep_opnd hE h x)
    refine goes_value (v := val) (w' := w') ?_ h1 h3
    rw [hrun]
    simp [resolve, hc, list2 ha, list2 ht, invoke, builtin, Sem.run_bind, h2, Result.andThen]
  · rename_i f hc
    split at hk
    · rename_i S hS
      have hrun2 : (execOp a.eval o).run P w = .ok (.enter f (c.args.toList.map a.eval).toArray) w := by
        rw [hrun, map_args]
        simp [resolve, hc, invoke, Sem.run_bind, Act.eval, Deferred.ofValue, run_enter (hE.rows _ _ hS).1]
      exact row_sound hE hS hd h hrun2 hk
    split at hk
    · rename_i S vs hS hvs
      split at hk
      · rename_i x hx
        obtain ⟨y, hy, hk⟩ := obind_eq hk
        have hrep := rep_opnds0 hE h hvs
        have hs := hE.fns _ _ hS
        have hrun2 : (execOp a.eval o).run P w = .ok (.enter f (c.args.toList.map a.eval).toArray) w := by
          rw [hrun, map_args]
          simp [resolve, hc, invoke, Sem.run_bind, Act.eval, Deferred.ofValue, run_enter hs.1]
        have hargs : RepADs P w (fun k => G k ∨ (flats S.rts = true ∧ w0.heap.size ≤ k)) S.ats x (c.args.toList.map a.eval) :=
          rep_packArgs (fun k hk => .inl hk) (fun hf => ⟨fun k hk => .inr ⟨hf, hk⟩, obs_ok h⟩) hx hrep
        refine goes_enter hd h hrun2 hk ?_
        refine (hs.2 w _ x _ y hargs hy).mono ?_
        rintro e w' ⟨us, rfl, hr, hb⟩
        refine ⟨_, rfl, hb, ?_⟩
        cases hf : flats S.rts with
        | true => exact rep_resOf (rep_resV (RepDs_flat hf hr))
        | false =>
          refine rep_resOf (rep_resV (RepDs_mono (fun k hk hlt => ?_) hr))
          rcases hk with (hk | ⟨hk, _⟩) | hk
          · by_cases hlt : k < w.heap.size
            · exact .inl ⟨hk, hlt⟩
            · exact .inr (Nat.le_of_not_lt hlt)
          · rw [hf] at hk; cases hk
          · exact .inr hk
      · cases hk
    · cases hk
  · rename_i t hc
    split at hk
    · rename_i dom cod φ vs hv hvs
      split at hk
      · rename_i x hx
        obtain ⟨y, hy, hk⟩ := obind_eq hk
        have hrep := rep_opnds0 hE h hvs
        have hf := rep_opnd hE h (.tmp t)
        rw [hv] at hf
        obtain ⟨f, first, caps, hfe, hen, hcl⟩ := (show Clos P w G dom cod φ (a.eval (.tmp t)) from hf)
        have hrun2 : (execOp a.eval o).run P w = .ok (.enter f (first ++ (c.args.toList.map a.eval).toArray ++ caps)) w := by
          rw [hrun, map_args]
          simp [resolve, hc, invoke, Sem.run_bind, hfe, Deferred.ofValue, run_enter hen]
        have hargs := rep_packChain hx hrep
        refine goes_enter hd h hrun2 hk ?_
        refine (hcl w G x _ y (Agree.refl _ _) (fun k hk _ => hk) hargs hy).mono ?_
        rintro e w' ⟨u, rfl, hr, hb⟩
        refine ⟨_, rfl, hb, rep_valW (RepV_mono (fun k hk hlt => ?_) hr)⟩
        rcases hk with hk | hk
        · by_cases hlt : k < w.heap.size
          · exact .inl ⟨hk, hlt⟩
          · exact .inr (Nat.le_of_not_lt hlt)
        · exact .inr hk
      · cases hk
    · cases hk
  · cases hk
end
end Go.Vx

end
