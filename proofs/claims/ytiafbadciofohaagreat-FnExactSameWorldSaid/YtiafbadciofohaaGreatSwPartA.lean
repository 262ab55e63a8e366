/- Merged out of smaller texts. -/
import Derived.Test.YtiafbadciofohaaGreatCoreB
section
set_option linter.unusedVariables false
set_option linter.unusedSimpArgs false
set_option maxRecDepth 100000
namespace Go.Vx
open Go Go.Proofs Go.Shelf Go.Lib Go.RowKit
abbrev TBoundsError : Ty := .pair (.int .i64) (.pair (.int .i64) (.pair .bool (.pair (.int .u8) .unit)))
abbrev TErrorAddressString : Ty := .pair .str (.pair (.int .u64) .unit)
abbrev Entry := ByteArray × Int × Unit
abbrev TEntry : Ty := .pair .str (.pair (.int .i64) .unit)
abbrev Commit := (List Int) × (List Entry) × Unit
abbrev TCommit : Ty := .pair (.sl (.int .i64)) (.pair (.sl TEntry) .unit)
abbrev Ref := ByteArray × Int × Int × Bool × Unit
abbrev TRef : Ty := .pair .str (.pair (.int .i64) (.pair (.int .i64) (.pair .bool .unit)))
abbrev Base := (List Commit) × (List Ref) × Unit
abbrev TBase : Ty := .pair (.sl TCommit) (.pair (.sl TRef) .unit)
abbrev Edit := ByteArray × Int × Bool × Unit
abbrev TEdit : Ty := .pair .str (.pair (.int .i64) (.pair .bool .unit))
abbrev Wish := Int × ByteArray × ByteArray × ByteArray × (List Edit) × Unit
abbrev TWish : Ty := .pair (.int .i64) (.pair .str (.pair .str (.pair .str (.pair (.sl TEdit) .unit))))
abbrev Client := (List Wish) × Int × Int × Int × Int × Int × Int × Int × (List Entry) × Unit
abbrev TClient : Ty := .pair (.sl TWish) (.pair (.int .i64) (.pair (.int .i64) (.pair (.int .i64) (.pair (.int .i64) (.pair (.int .i64) (.pair (.int .i64) (.pair (.int .i64) (.pair (.sl TEntry) .unit))))))))
abbrev Event := Int × Int × Bool × Unit
abbrev TEvent : Ty := .pair (.int .i64) (.pair (.int .i64) (.pair .bool .unit))
abbrev Watch := ByteArray × Int × (List Event) × Unit
abbrev TWatch : Ty := .pair .str (.pair (.int .i64) (.pair (.sl TEvent) .unit))
abbrev Op := Int × Int × ByteArray × ByteArray × (List Edit) × Unit
abbrev TOp : Ty := .pair (.int .i64) (.pair (.int .i64) (.pair .str (.pair .str (.pair (.sl TEdit) .unit))))
abbrev Result := Int × Int × Int × (List ByteArray) × (List Entry) × Unit
abbrev TResult : Ty := .pair (.int .i64) (.pair (.int .i64) (.pair (.int .i64) (.pair (.sl .str) (.pair (.sl TEntry) .unit))))
abbrev Moment := Int × Int × Int × Op × Result × Unit
abbrev TMoment : Ty := .pair (.int .i64) (.pair (.int .i64) (.pair (.int .i64) (.pair TOp (.pair TResult .unit))))
abbrev World := Base × (List Client) × (List Watch) × (List Moment) × Int × Unit
abbrev TWorld : Ty := .pair TBase (.pair (.sl TClient) (.pair (.sl TWatch) (.pair (.sl TMoment) (.pair (.int .i64) .unit))))
abbrev Plan := Bool × (List Entry) × (List Int) × (List ByteArray) × Int × Unit
abbrev TPlan : Ty := .pair .bool (.pair (.sl TEntry) (.pair (.sl (.int .i64)) (.pair (.sl .str) (.pair (.int .i64) .unit))))
def z5y (x0 : Entry) (x1 : Int) : Option Int := cond (decide ((IntKind.i64.wrap (x1 - (x0.1.size : Int))) < (0:Int))) (some (-1:Int)) (some (IntKind.i64.wrap (x1 - (x0.1.size : Int))))
def z18.b5 {R : Type} (lp : Nat) (N : List Entry → Int → Int → Option R) (X : Int → Option R) (Q : Int → Option R) (x0 : List Entry) (x1 : Int) (x5 : Int) : Option R := cond (decide (x5 < (x0.length : Int))) (oget x0 x5 fun (e1 : Entry) => obind (z5y e1 x1) fun (t2 : Int) => cond (decide (t2 < (0:Int))) (Q (-1:Int)) (N x0 t2 (IntKind.i64.wrap (x5 + (1:Int))))) (X x1)
def z18.l5 (lp : Nat) : Nat → List Entry → Int → Int → Option (LE Int Int)
  | 0, _, _, _ => none
  | k + 1, x0, x1, x5 => z18.b5 lp (z18.l5 lp k) (fun y => some (.brk y)) (fun z => some (.ret z)) x0 x1 x5
def z18.a5 (lp : Nat) (y : Int) : Option Int := some y
def z18.q5 (lp : Nat) (z : Int) : Option Int := some z
def z18.e (lp : Nat) (L5 : List Entry → Int → Int → Option Int) (x0 : List Entry) (x1 : Int) : Option Int := cond (decide ((IntKind.i64.wrap (x1 - (x0.length : Int))) < (0:Int))) (some (-1:Int)) (L5 x0 (IntKind.i64.wrap (x1 - (x0.length : Int))) (0:Int))
def z18 (lp : Nat) (x0 : List Entry) (x1 : Int) : Option Int := z18.e lp (fun x0 x1 x5 => obind (z18.l5 lp lp x0 x1 x5) (leF (fun z => z18.q5 lp z) (fun y => z18.a5 lp y))) x0 x1
def z6s (x0 : List Int) (x1 : Int) : Option Int := cond (decide ((IntKind.i64.wrap (x1 - (x0.length : Int))) < (0:Int))) (some (-1:Int)) (some (IntKind.i64.wrap (x1 - (x0.length : Int))))
def z5b (lp : Nat) (x0 : Commit) (x1 : Int) : Option Int := obind (z6s x0.1 x1) fun (t1 : Int) => cond (decide (t1 < (0:Int))) (some (-1:Int)) (obind (z18 lp x0.2.1 t1) fun (t2 : Int) => cond (decide (t2 < (0:Int))) (some (-1:Int)) (some t2))
def z10.b5 {R : Type} (lp : Nat) (N : List Commit → Int → Int → Option R) (X : Int → Option R) (Q : Int → Option R) (x0 : List Commit) (x1 : Int) (x5 : Int) : Option R := cond (decide (x5 < (x0.length : Int))) (oget x0 x5 fun (e1 : Commit) => obind (z5b lp e1 x1) fun (t2 : Int) => cond (decide (t2 < (0:Int))) (Q (-1:Int)) (N x0 t2 (IntKind.i64.wrap (x5 + (1:Int))))) (X x1)
def z10.l5 (lp : Nat) : Nat → List Commit → Int → Int → Option (LE Int Int)
  | 0, _, _, _ => none
  | k + 1, x0, x1, x5 => z10.b5 lp (z10.l5 lp k) (fun y => some (.brk y)) (fun z => some (.ret z)) x0 x1 x5
def z10.a5 (lp : Nat) (y : Int) : Option Int := some y
def z10.q5 (lp : Nat) (z : Int) : Option Int := some z
def z10.e (lp : Nat) (L5 : List Commit → Int → Int → Option Int) (x0 : List Commit) (x1 : Int) : Option Int := cond (decide ((IntKind.i64.wrap (x1 - (x0.length : Int))) < (0:Int))) (some (-1:Int)) (L5 x0 (IntKind.i64.wrap (x1 - (x0.length : Int))) (0:Int))
def z10 (lp : Nat) (x0 : List Commit) (x1 : Int) : Option Int := z10.e lp (fun x0 x1 x5 => obind (z10.l5 lp lp x0 x1 x5) (leF (fun z => z10.q5 lp z) (fun y => z10.a5 lp y))) x0 x1
def z72 (x0 : Ref) (x1 : Int) : Option Int := cond (decide ((IntKind.i64.wrap (x1 - (x0.1.size : Int))) < (0:Int))) (some (-1:Int)) (some (IntKind.i64.wrap (x1 - (x0.1.size : Int))))
def z28.b5 {R : Type} (lp : Nat) (N : List Ref → Int → Int → Option R) (X : Int → Option R) (Q : Int → Option R) (x0 : List Ref) (x1 : Int) (x5 : Int) : Option R := cond (decide (x5 < (x0.length : Int))) (oget x0 x5 fun (e1 : Ref) => obind (z72 e1 x1) fun (t2 : Int) => cond (decide (t2 < (0:Int))) (Q (-1:Int)) (N x0 t2 (IntKind.i64.wrap (x5 + (1:Int))))) (X x1)
def z28.l5 (lp : Nat) : Nat → List Ref → Int → Int → Option (LE Int Int)
  | 0, _, _, _ => none
  | k + 1, x0, x1, x5 => z28.b5 lp (z28.l5 lp k) (fun y => some (.brk y)) (fun z => some (.ret z)) x0 x1 x5
def z28.a5 (lp : Nat) (y : Int) : Option Int := some y
def z28.q5 (lp : Nat) (z : Int) : Option Int := some z
def z28.e (lp : Nat) (L5 : List Ref → Int → Int → Option Int) (x0 : List Ref) (x1 : Int) : Option Int := cond (decide ((IntKind.i64.wrap (x1 - (x0.length : Int))) < (0:Int))) (some (-1:Int)) (L5 x0 (IntKind.i64.wrap (x1 - (x0.length : Int))) (0:Int))
def z28 (lp : Nat) (x0 : List Ref) (x1 : Int) : Option Int := z28.e lp (fun x0 x1 x5 => obind (z28.l5 lp lp x0 x1 x5) (leF (fun z => z28.q5 lp z) (fun y => z28.a5 lp y))) x0 x1
def z6m (lp : Nat) (x0 : Base) (x1 : Int) : Option Int := obind (z10 lp x0.1 x1) fun (t1 : Int) => cond (decide (t1 < (0:Int))) (some (-1:Int)) (obind (z28 lp x0.2.1 t1) fun (t2 : Int) => cond (decide (t2 < (0:Int))) (some (-1:Int)) (some t2))
def z6q (x0 : Edit) (x1 : Int) : Option Int := cond (decide ((IntKind.i64.wrap (x1 - (x0.1.size : Int))) < (0:Int))) (some (-1:Int)) (some (IntKind.i64.wrap (x1 - (x0.1.size : Int))))
def z1p.b5 {R : Type} (lp : Nat) (N : List Edit → Int → Int → Option R) (X : Int → Option R) (Q : Int → Option R) (x0 : List Edit) (x1 : Int) (x5 : Int) : Option R := cond (decide (x5 < (x0.length : Int))) (oget x0 x5 fun (e1 : Edit) => obind (z6q e1 x1) fun (t2 : Int) => cond (decide (t2 < (0:Int))) (Q (-1:Int)) (N x0 t2 (IntKind.i64.wrap (x5 + (1:Int))))) (X x1)
def z1p.l5 (lp : Nat) : Nat → List Edit → Int → Int → Option (LE Int Int)
  | 0, _, _, _ => none
  | k + 1, x0, x1, x5 => z1p.b5 lp (z1p.l5 lp k) (fun y => some (.brk y)) (fun z => some (.ret z)) x0 x1 x5
def z1p.a5 (lp : Nat) (y : Int) : Option Int := some y
def z1p.q5 (lp : Nat) (z : Int) : Option Int := some z
def z1p.e (lp : Nat) (L5 : List Edit → Int → Int → Option Int) (x0 : List Edit) (x1 : Int) : Option Int := cond (decide ((IntKind.i64.wrap (x1 - (x0.length : Int))) < (0:Int))) (some (-1:Int)) (L5 x0 (IntKind.i64.wrap (x1 - (x0.length : Int))) (0:Int))
def z1p (lp : Nat) (x0 : List Edit) (x1 : Int) : Option Int := z1p.e lp (fun x0 x1 x5 => obind (z1p.l5 lp lp x0 x1 x5) (leF (fun z => z1p.q5 lp z) (fun y => z1p.a5 lp y))) x0 x1
def z6l (lp : Nat) (x0 : Wish) (x1 : Int) : Option Int := cond (decide ((IntKind.i64.wrap (x1 - (x0.2.1.size : Int))) < (0:Int))) (some (-1:Int)) (cond (decide ((IntKind.i64.wrap ((IntKind.i64.wrap (x1 - (x0.2.1.size : Int))) - (x0.2.2.1.size : Int))) < (0:Int))) (some (-1:Int)) (cond (decide ((IntKind.i64.wrap ((IntKind.i64.wrap ((IntKind.i64.wrap (x1 - (x0.2.1.size : Int))) - (x0.2.2.1.size : Int))) - (x0.2.2.2.1.size : Int))) < (0:Int))) (some (-1:Int)) (obind (z1p lp x0.2.2.2.2.1 (IntKind.i64.wrap ((IntKind.i64.wrap ((IntKind.i64.wrap (x1 - (x0.2.1.size : Int))) - (x0.2.2.1.size : Int))) - (x0.2.2.2.1.size : Int)))) fun (t1 : Int) => cond (decide (t1 < (0:Int))) (some (-1:Int)) (some t1))))
def z1r.b5 {R : Type} (lp : Nat) (N : List Wish → Int → Int → Option R) (X : Int → Option R) (Q : Int → Option R) (x0 : List Wish) (x1 : Int) (x5 : Int) : Option R := cond (decide (x5 < (x0.length : Int))) (oget x0 x5 fun (e1 : Wish) => obind (z6l lp e1 x1) fun (t2 : Int) => cond (decide (t2 < (0:Int))) (Q (-1:Int)) (N x0 t2 (IntKind.i64.wrap (x5 + (1:Int))))) (X x1)
def z1r.l5 (lp : Nat) : Nat → List Wish → Int → Int → Option (LE Int Int)
  | 0, _, _, _ => none
  | k + 1, x0, x1, x5 => z1r.b5 lp (z1r.l5 lp k) (fun y => some (.brk y)) (fun z => some (.ret z)) x0 x1 x5
def z1r.a5 (lp : Nat) (y : Int) : Option Int := some y
def z1r.q5 (lp : Nat) (z : Int) : Option Int := some z
def z1r.e (lp : Nat) (L5 : List Wish → Int → Int → Option Int) (x0 : List Wish) (x1 : Int) : Option Int := cond (decide ((IntKind.i64.wrap (x1 - (x0.length : Int))) < (0:Int))) (some (-1:Int)) (L5 x0 (IntKind.i64.wrap (x1 - (x0.length : Int))) (0:Int))
def z1r (lp : Nat) (x0 : List Wish) (x1 : Int) : Option Int := z1r.e lp (fun x0 x1 x5 => obind (z1r.l5 lp lp x0 x1 x5) (leF (fun z => z1r.q5 lp z) (fun y => z1r.a5 lp y))) x0 x1
def z5g (lp : Nat) (x0 : Client) (x1 : Int) : Option Int := obind (z1r lp x0.1 x1) fun (t1 : Int) => cond (decide (t1 < (0:Int))) (some (-1:Int)) (obind (z18 lp x0.2.2.2.2.2.2.2.2.1 t1) fun (t2 : Int) => cond (decide (t2 < (0:Int))) (some (-1:Int)) (some t2))
def z0z.b5 {R : Type} (lp : Nat) (N : List Client → Int → Int → Option R) (X : Int → Option R) (Q : Int → Option R) (x0 : List Client) (x1 : Int) (x5 : Int) : Option R := cond (decide (x5 < (x0.length : Int))) (oget x0 x5 fun (e1 : Client) => obind (z5g lp e1 x1) fun (t2 : Int) => cond (decide (t2 < (0:Int))) (Q (-1:Int)) (N x0 t2 (IntKind.i64.wrap (x5 + (1:Int))))) (X x1)
def z0z.l5 (lp : Nat) : Nat → List Client → Int → Int → Option (LE Int Int)
  | 0, _, _, _ => none
  | k + 1, x0, x1, x5 => z0z.b5 lp (z0z.l5 lp k) (fun y => some (.brk y)) (fun z => some (.ret z)) x0 x1 x5
def z0z.a5 (lp : Nat) (y : Int) : Option Int := some y
def z0z.q5 (lp : Nat) (z : Int) : Option Int := some z
def z0z.e (lp : Nat) (L5 : List Client → Int → Int → Option Int) (x0 : List Client) (x1 : Int) : Option Int := cond (decide ((IntKind.i64.wrap (x1 - (x0.length : Int))) < (0:Int))) (some (-1:Int)) (L5 x0 (IntKind.i64.wrap (x1 - (x0.length : Int))) (0:Int))
def z0z (lp : Nat) (x0 : List Client) (x1 : Int) : Option Int := z0z.e lp (fun x0 x1 x5 => obind (z0z.l5 lp lp x0 x1 x5) (leF (fun z => z0z.q5 lp z) (fun y => z0z.a5 lp y))) x0 x1
def z5t (x0 : List Event) (x1 : Int) : Option Int := cond (decide ((IntKind.i64.wrap (x1 - (x0.length : Int))) < (0:Int))) (some (-1:Int)) (some (IntKind.i64.wrap (x1 - (x0.length : Int))))
def z61 (x0 : Watch) (x1 : Int) : Option Int := cond (decide ((IntKind.i64.wrap (x1 - (x0.1.size : Int))) < (0:Int))) (some (-1:Int)) (obind (z5t x0.2.2.1 (IntKind.i64.wrap (x1 - (x0.1.size : Int)))) fun (t1 : Int) => cond (decide (t1 < (0:Int))) (some (-1:Int)) (some t1))
def z1c.b5 {R : Type} (lp : Nat) (N : List Watch → Int → Int → Option R) (X : Int → Option R) (Q : Int → Option R) (x0 : List Watch) (x1 : Int) (x5 : Int) : Option R := cond (decide (x5 < (x0.length : Int))) (oget x0 x5 fun (e1 : Watch) => obind (z61 e1 x1) fun (t2 : Int) => cond (decide (t2 < (0:Int))) (Q (-1:Int)) (N x0 t2 (IntKind.i64.wrap (x5 + (1:Int))))) (X x1)
def z1c.l5 (lp : Nat) : Nat → List Watch → Int → Int → Option (LE Int Int)
  | 0, _, _, _ => none
  | k + 1, x0, x1, x5 => z1c.b5 lp (z1c.l5 lp k) (fun y => some (.brk y)) (fun z => some (.ret z)) x0 x1 x5
def z1c.a5 (lp : Nat) (y : Int) : Option Int := some y
def z1c.q5 (lp : Nat) (z : Int) : Option Int := some z
def z1c.e (lp : Nat) (L5 : List Watch → Int → Int → Option Int) (x0 : List Watch) (x1 : Int) : Option Int := cond (decide ((IntKind.i64.wrap (x1 - (x0.length : Int))) < (0:Int))) (some (-1:Int)) (L5 x0 (IntKind.i64.wrap (x1 - (x0.length : Int))) (0:Int))
def z1c (lp : Nat) (x0 : List Watch) (x1 : Int) : Option Int := z1c.e lp (fun x0 x1 x5 => obind (z1c.l5 lp lp x0 x1 x5) (leF (fun z => z1c.q5 lp z) (fun y => z1c.a5 lp y))) x0 x1
def z79 (lp : Nat) (x0 : Op) (x1 : Int) : Option Int := cond (decide ((IntKind.i64.wrap (x1 - (x0.2.2.1.size : Int))) < (0:Int))) (some (-1:Int)) (cond (decide ((IntKind.i64.wrap ((IntKind.i64.wrap (x1 - (x0.2.2.1.size : Int))) - (x0.2.2.2.1.size : Int))) < (0:Int))) (some (-1:Int)) (obind (z1p lp x0.2.2.2.2.1 (IntKind.i64.wrap ((IntKind.i64.wrap (x1 - (x0.2.2.1.size : Int))) - (x0.2.2.2.1.size : Int)))) fun (t1 : Int) => cond (decide (t1 < (0:Int))) (some (-1:Int)) (some t1)))
def z0v.b5 {R : Type} (lp : Nat) (N : List ByteArray → Int → Int → Option R) (X : Int → Option R) (Q : Int → Option R) (x0 : List ByteArray) (x1 : Int) (x5 : Int) : Option R := cond (decide (x5 < (x0.length : Int))) (oget x0 x5 fun (e1 : ByteArray) => cond (decide ((IntKind.i64.wrap (x1 - (e1.size : Int))) < (0:Int))) (Q (-1:Int)) (N x0 (IntKind.i64.wrap (x1 - (e1.size : Int))) (IntKind.i64.wrap (x5 + (1:Int))))) (X x1)
def z0v.l5 (lp : Nat) : Nat → List ByteArray → Int → Int → Option (LE Int Int)
  | 0, _, _, _ => none
  | k + 1, x0, x1, x5 => z0v.b5 lp (z0v.l5 lp k) (fun y => some (.brk y)) (fun z => some (.ret z)) x0 x1 x5
def z0v.a5 (lp : Nat) (y : Int) : Option Int := some y
def z0v.q5 (lp : Nat) (z : Int) : Option Int := some z
def z0v.e (lp : Nat) (L5 : List ByteArray → Int → Int → Option Int) (x0 : List ByteArray) (x1 : Int) : Option Int := cond (decide ((IntKind.i64.wrap (x1 - (x0.length : Int))) < (0:Int))) (some (-1:Int)) (L5 x0 (IntKind.i64.wrap (x1 - (x0.length : Int))) (0:Int))
def z0v (lp : Nat) (x0 : List ByteArray) (x1 : Int) : Option Int := z0v.e lp (fun x0 x1 x5 => obind (z0v.l5 lp lp x0 x1 x5) (leF (fun z => z0v.q5 lp z) (fun y => z0v.a5 lp y))) x0 x1
def z5j (lp : Nat) (x0 : Result) (x1 : Int) : Option Int := obind (z0v lp x0.2.2.2.1 x1) fun (t1 : Int) => cond (decide (t1 < (0:Int))) (some (-1:Int)) (obind (z18 lp x0.2.2.2.2.1 t1) fun (t2 : Int) => cond (decide (t2 < (0:Int))) (some (-1:Int)) (some t2))
def z59 (lp : Nat) (x0 : Moment) (x1 : Int) : Option Int := obind (z79 lp x0.2.2.2.1 x1) fun (t1 : Int) => cond (decide (t1 < (0:Int))) (some (-1:Int)) (obind (z5j lp x0.2.2.2.2.1 t1) fun (t2 : Int) => cond (decide (t2 < (0:Int))) (some (-1:Int)) (some t2))
def z0y.b5 {R : Type} (lp : Nat) (N : List Moment → Int → Int → Option R) (X : Int → Option R) (Q : Int → Option R) (x0 : List Moment) (x1 : Int) (x5 : Int) : Option R := cond (decide (x5 < (x0.length : Int))) (oget x0 x5 fun (e1 : Moment) => obind (z59 lp e1 x1) fun (t2 : Int) => cond (decide (t2 < (0:Int))) (Q (-1:Int)) (N x0 t2 (IntKind.i64.wrap (x5 + (1:Int))))) (X x1)
def z0y.l5 (lp : Nat) : Nat → List Moment → Int → Int → Option (LE Int Int)
  | 0, _, _, _ => none
  | k + 1, x0, x1, x5 => z0y.b5 lp (z0y.l5 lp k) (fun y => some (.brk y)) (fun z => some (.ret z)) x0 x1 x5
def z0y.a5 (lp : Nat) (y : Int) : Option Int := some y
def z0y.q5 (lp : Nat) (z : Int) : Option Int := some z
def z0y.e (lp : Nat) (L5 : List Moment → Int → Int → Option Int) (x0 : List Moment) (x1 : Int) : Option Int := cond (decide ((IntKind.i64.wrap (x1 - (x0.length : Int))) < (0:Int))) (some (-1:Int)) (L5 x0 (IntKind.i64.wrap (x1 - (x0.length : Int))) (0:Int))
def z0y (lp : Nat) (x0 : List Moment) (x1 : Int) : Option Int := z0y.e lp (fun x0 x1 x5 => obind (z0y.l5 lp lp x0 x1 x5) (leF (fun z => z0y.q5 lp z) (fun y => z0y.a5 lp y))) x0 x1
def z5o (lp : Nat) (x0 : World) (x1 : Int) : Option Int := obind (z6m lp x0.1 x1) fun (t1 : Int) => cond (decide (t1 < (0:Int))) (some (-1:Int)) (obind (z0z lp x0.2.1 t1) fun (t2 : Int) => cond (decide (t2 < (0:Int))) (some (-1:Int)) (obind (z1c lp x0.2.2.1 t2) fun (t3 : Int) => cond (decide (t3 < (0:Int))) (some (-1:Int)) (obind (z0y lp x0.2.2.2.1 t3) fun (t4 : Int) => cond (decide (t4 < (0:Int))) (some (-1:Int)) (some t4))))
def z1s (x0 : Int) (x1 : Int) (x2 : Int) : Option Bool := cond (decide (x0 ≥ x1)) (some (decide (x0 ≤ x2))) (some false)
def z4n (x0 : Int) : Option Bool := cond (decide (x0 ≥ (97:Int))) (cond (decide (x0 ≤ (122:Int))) (some true) (cond (decide (x0 ≥ (65:Int))) (cond (decide (x0 ≤ (90:Int))) (some true) (some (x0 == (95:Int)))) (some (x0 == (95:Int))))) (cond (decide (x0 ≥ (65:Int))) (cond (decide (x0 ≤ (90:Int))) (some true) (some (x0 == (95:Int)))) (some (x0 == (95:Int))))
def z5s (x0 : Int) : Option Bool := cond (decide (x0 ≥ (48:Int))) (some (decide (x0 ≤ (57:Int)))) (some false)
def z0t.b4 {R : Type} (lp : Nat) (N : ByteArray → Int → Option R) (X : Unit → Option R) (Q : Bool → Option R) (x0 : ByteArray) (x3 : Int) : Option R := cond (decide (x3 < (x0.size : Int))) (oif (decide ((0:Int) ≤ x3)) (oif (decide (x3 < (x0.size : Int))) (obind (z4n (byteAt x0 x3)) fun (t2 : Bool) => cond (!t2) (oif (decide ((0:Int) ≤ x3)) (oif (decide (x3 < (x0.size : Int))) (obind (z5s (byteAt x0 x3)) fun (t3 : Bool) => cond (!t3) (Q false) (N x0 (IntKind.i64.wrap (x3 + (1:Int))))))) (N x0 (IntKind.i64.wrap (x3 + (1:Int))))))) (X ())
def z0t.l4 (lp : Nat) : Nat → ByteArray → Int → Option (LE Bool Unit)
  | 0, _, _ => none
  | k + 1, x0, x3 => z0t.b4 lp (z0t.l4 lp k) (fun y => some (.brk y)) (fun z => some (.ret z)) x0 x3
def z0t.a4 (lp : Nat) (y : Unit) : Option Bool := some true
def z0t.q4 (lp : Nat) (z : Bool) : Option Bool := some z
def z0t.e (lp : Nat) (L4 : ByteArray → Int → Option Bool) (x0 : ByteArray) : Option Bool := cond (decide ((x0.size : Int) < (1:Int))) (some false) (cond (decide ((x0.size : Int) > (12:Int))) (some false) (oif (decide ((0:Int) ≤ (0:Int))) (oif (decide ((0:Int) < (x0.size : Int))) (obind (z4n (byteAt x0 (0:Int))) fun (t1 : Bool) => cond (!t1) (some false) (L4 x0 (1:Int))))))
def z0t (lp : Nat) (x0 : ByteArray) : Option Bool := z0t.e lp (fun x0 x3 => obind (z0t.l4 lp lp x0 x3) (leF (fun z => z0t.q4 lp z) (fun y => z0t.a4 lp y))) x0
def z24.b4 {R : Type} (lp : Nat) (N : List Entry → Int → Option R) (X : Unit → Option R) (Q : Bool → Option R) (x0 : List Entry) (x3 : Int) : Option R := cond (decide (x3 < (x0.length : Int))) (oget x0 x3 fun (e1 : Entry) => obind (z0t lp e1.1) fun (t2 : Bool) => cond (!t2) (Q false) (oget x0 x3 fun (e3 : Entry) => obind (z1s e3.2.1 (-1000000:Int) (1000000:Int)) fun (t4 : Bool) => cond (!t4) (Q false) (cond (decide (x3 > (0:Int))) (oget x0 x3 fun (e5 : Entry) => oget x0 (IntKind.i64.wrap (x3 - (1:Int))) fun (e6 : Entry) => cond (Op.bytesLess e5.1.toList e6.1.toList || (e5.1.toList == e6.1.toList)) (Q false) (N x0 (IntKind.i64.wrap (x3 + (1:Int))))) (N x0 (IntKind.i64.wrap (x3 + (1:Int))))))) (X ())
def z24.l4 (lp : Nat) : Nat → List Entry → Int → Option (LE Bool Unit)
  | 0, _, _ => none
  | k + 1, x0, x3 => z24.b4 lp (z24.l4 lp k) (fun y => some (.brk y)) (fun z => some (.ret z)) x0 x3
def z24.a4 (lp : Nat) (y : Unit) : Option Bool := some true
def z24.q4 (lp : Nat) (z : Bool) : Option Bool := some z
def z24.e (lp : Nat) (L4 : List Entry → Int → Option Bool) (x0 : List Entry) : Option Bool := cond (decide ((x0.length : Int) > (12:Int))) (some false) (L4 x0 (0:Int))
def z24 (lp : Nat) (x0 : List Entry) : Option Bool := z24.e lp (fun x0 x3 => obind (z24.l4 lp lp x0 x3) (leF (fun z => z24.q4 lp z) (fun y => z24.a4 lp y))) x0
def z0w.b5 {R : Type} (lp : Nat) (N : List Commit → List Int → List Entry → Int → Int → Option R) (X : Unit → Option R) (Q : Bool → Option R) (x0 : List Commit) (x3_0 : List Int) (x3_1 : List Entry) (x5 : Int) (x6 : Int) : Option R := cond (decide (x6 < x5)) (oget x3_0 x6 fun (e2 : Int) => obind (z1s e2 (1:Int) (x0.length : Int)) fun (t3 : Bool) => cond (!t3) (Q false) (cond (decide (x6 > (0:Int))) (oget x3_0 x6 fun (e4 : Int) => oget x3_0 (0:Int) fun (e5 : Int) => cond (e4 == e5) (Q false) (N x0 x3_0 x3_1 x5 (IntKind.i64.wrap (x6 + (1:Int))))) (N x0 x3_0 x3_1 x5 (IntKind.i64.wrap (x6 + (1:Int)))))) (X ())
def z0w.l5 (lp : Nat) : Nat → List Commit → List Int → List Entry → Int → Int → Option (LE Bool Unit)
  | 0, _, _, _, _, _ => none
  | k + 1, x0, x3_0, x3_1, x5, x6 => z0w.b5 lp (z0w.l5 lp k) (fun y => some (.brk y)) (fun z => some (.ret z)) x0 x3_0 x3_1 x5 x6
def z0w.a5 (lp : Nat) (y : Unit) : Option Bool := some true
def z0w.q5 (lp : Nat) (z : Bool) : Option Bool := some z
def z0w.e (lp : Nat) (L5 : List Commit → List Int → List Entry → Int → Int → Option Bool) (x0 : List Commit) (x1 : Commit) : Option Bool := obind (z24 lp x1.2.1) fun (t1 : Bool) => cond (!t1) (some false) (cond (decide ((x1.1.length : Int) > (2:Int))) (some false) (cond (((x1.1.length : Int) == (0:Int)) != ((x0.length : Int) == (0:Int))) (some false) (L5 x0 x1.1 x1.2.1 (x1.1.length : Int) (0:Int))))
def z0w (lp : Nat) (x0 : List Commit) (x1 : Commit) : Option Bool := z0w.e lp (fun x0 x3_0 x3_1 x5 x6 => obind (z0w.l5 lp lp x0 x3_0 x3_1 x5 x6) (leF (fun z => z0w.q5 lp z) (fun y => z0w.a5 lp y))) x0 x1
def z2n.b4 {R : Type} (lp : Nat) (N : List Commit → Int → Option R) (X : Unit → Option R) (Q : Bool → Option R) (x0 : List Commit) (x3 : Int) : Option R := cond (decide (x3 < (x0.length : Int))) (oif (decide ((0:Int) ≤ x3)) (oif (decide (x3 ≤ (x0.length : Int))) (oget x0 x3 fun (e2 : Commit) => obind (z0w lp (x0.take x3.toNat) e2) fun (t3 : Bool) => cond (!t3) (Q false) (N x0 (IntKind.i64.wrap (x3 + (1:Int))))))) (X ())
def z2n.l4 (lp : Nat) : Nat → List Commit → Int → Option (LE Bool Unit)
  | 0, _, _ => none
  | k + 1, x0, x3 => z2n.b4 lp (z2n.l4 lp k) (fun y => some (.brk y)) (fun z => some (.ret z)) x0 x3
def z2n.a4 (lp : Nat) (y : Unit) : Option Bool := some true
def z2n.q4 (lp : Nat) (z : Bool) : Option Bool := some z
def z2n.e (lp : Nat) (L4 : List Commit → Int → Option Bool) (x0 : List Commit) : Option Bool := obind (z1s (x0.length : Int) (1:Int) (60:Int)) fun (t1 : Bool) => cond (!t1) (some false) (L4 x0 (0:Int))
def z2n (lp : Nat) (x0 : List Commit) : Option Bool := z2n.e lp (fun x0 x3 => obind (z2n.l4 lp lp x0 x3) (leF (fun z => z2n.q4 lp z) (fun y => z2n.a4 lp y))) x0
def z2h.b2 {R : Type} (lp : Nat) (N : List Ref → ByteArray → Int → Option R) (X : Unit → Option R) (Q : Int → Option R) (x0 : List Ref) (x1 : ByteArray) (x5 : Int) : Option R := cond (decide (x5 < (x0.length : Int))) (oget x0 x5 fun (e1 : Ref) => cond (e1.1.toList == x1.toList) (Q x5) (N x0 x1 (IntKind.i64.wrap (x5 + (1:Int))))) (X ())
def z2h.l2 (lp : Nat) : Nat → List Ref → ByteArray → Int → Option (LE Int Unit)
  | 0, _, _, _ => none
  | k + 1, x0, x1, x5 => z2h.b2 lp (z2h.l2 lp k) (fun y => some (.brk y)) (fun z => some (.ret z)) x0 x1 x5
def z2h.a2 (lp : Nat) (y : Unit) : Option Int := some (-1:Int)
def z2h.q2 (lp : Nat) (z : Int) : Option Int := some z
def z2h.e (lp : Nat) (L2 : List Ref → ByteArray → Int → Option Int) (x0 : List Ref) (x1 : ByteArray) : Option Int := L2 x0 x1 (0:Int)
def z2h (lp : Nat) (x0 : List Ref) (x1 : ByteArray) : Option Int := z2h.e lp (fun x0 x1 x5 => obind (z2h.l2 lp lp x0 x1 x5) (leF (fun z => z2h.q2 lp z) (fun y => z2h.a2 lp y))) x0 x1
def z2m.b4 {R : Type} (lp : Nat) (N : List Ref → Int → Option R) (X : Unit → Option R) (Q : Bool → Option R) (x0 : List Ref) (x3 : Int) : Option R := cond (decide (x3 < (x0.length : Int))) (oget x0 x3 fun (e1 : Ref) => obind (z0t lp e1.1) fun (t2 : Bool) => cond (!t2) (Q false) (obind (z1s e1.2.2.1 (1:Int) (1000000:Int)) fun (t3 : Bool) => cond (!t3) (Q false) (obind (z2h lp x0 e1.1) fun (t4 : Int) => cond (t4 != x3) (Q false) (cond e1.2.2.2.1 (cond (e1.2.1 != (0:Int)) (Q false) (cond (!e1.2.2.2.1) (obind (z1s e1.2.1 (1:Int) (60:Int)) fun (t5 : Bool) => cond (!t5) (Q false) (N x0 (IntKind.i64.wrap (x3 + (1:Int))))) (N x0 (IntKind.i64.wrap (x3 + (1:Int)))))) (cond (!e1.2.2.2.1) (obind (z1s e1.2.1 (1:Int) (60:Int)) fun (t6 : Bool) => cond (!t6) (Q false) (N x0 (IntKind.i64.wrap (x3 + (1:Int))))) (N x0 (IntKind.i64.wrap (x3 + (1:Int))))))))) (X ())
def z2m.l4 (lp : Nat) : Nat → List Ref → Int → Option (LE Bool Unit)
  | 0, _, _ => none
  | k + 1, x0, x3 => z2m.b4 lp (z2m.l4 lp k) (fun y => some (.brk y)) (fun z => some (.ret z)) x0 x3
def z2m.a4 (lp : Nat) (y : Unit) : Option Bool := some true
def z2m.q4 (lp : Nat) (z : Bool) : Option Bool := some z
def z2m.e (lp : Nat) (L4 : List Ref → Int → Option Bool) (x0 : List Ref) : Option Bool := cond (decide ((x0.length : Int) > (8:Int))) (some false) (L4 x0 (0:Int))
def z2m (lp : Nat) (x0 : List Ref) : Option Bool := z2m.e lp (fun x0 x3 => obind (z2m.l4 lp lp x0 x3) (leF (fun z => z2m.q4 lp z) (fun y => z2m.a4 lp y))) x0
def z2o.b4 {R : Type} (lp : Nat) (N : List Commit → List Ref → Int → Option R) (X : Unit → Option R) (Q : Bool → Option R) (x1_0 : List Commit) (x1_1 : List Ref) (x3 : Int) : Option R := cond (decide (x3 < (x1_1.length : Int))) (oget x1_1 x3 fun (e3 : Ref) => cond (decide (e3.2.1 > (x1_0.length : Int))) (Q false) (N x1_0 x1_1 (IntKind.i64.wrap (x3 + (1:Int))))) (X ())
def z2o.l4 (lp : Nat) : Nat → List Commit → List Ref → Int → Option (LE Bool Unit)
  | 0, _, _, _ => none
  | k + 1, x1_0, x1_1, x3 => z2o.b4 lp (z2o.l4 lp k) (fun y => some (.brk y)) (fun z => some (.ret z)) x1_0 x1_1 x3
def z2o.a4 (lp : Nat) (y : Unit) : Option Bool := some true
def z2o.q4 (lp : Nat) (z : Bool) : Option Bool := some z
def z2o.e (lp : Nat) (L4 : List Commit → List Ref → Int → Option Bool) (x0 : Base) : Option Bool := obind (z2n lp x0.1) fun (t1 : Bool) => cond (!t1) (some false) (obind (z2m lp x0.2.1) fun (t2 : Bool) => cond (!t2) (some false) (L4 x0.1 x0.2.1 (0:Int)))
def z2o (lp : Nat) (x0 : Base) : Option Bool := z2o.e lp (fun x1_0 x1_1 x3 => obind (z2o.l4 lp lp x1_0 x1_1 x3) (leF (fun z => z2o.q4 lp z) (fun y => z2o.a4 lp y))) x0
def z11.b4 {R : Type} (lp : Nat) (N : List Edit → Int → Option R) (X : Unit → Option R) (Q : Bool → Option R) (x0 : List Edit) (x3 : Int) : Option R := cond (decide (x3 < (x0.length : Int))) (oget x0 x3 fun (e1 : Edit) => obind (z0t lp e1.1) fun (t2 : Bool) => cond (!t2) (Q false) (obind (z1s e1.2.1 (-1000000:Int) (1000000:Int)) fun (t3 : Bool) => cond (!t3) (Q false) (cond e1.2.2.1 (cond (e1.2.1 != (0:Int)) (Q false) (cond (decide (x3 > (0:Int))) (oget x0 (IntKind.i64.wrap (x3 - (1:Int))) fun (e4 : Edit) => cond (Op.bytesLess e1.1.toList e4.1.toList || (e1.1.toList == e4.1.toList)) (Q false) (N x0 (IntKind.i64.wrap (x3 + (1:Int))))) (N x0 (IntKind.i64.wrap (x3 + (1:Int)))))) (cond (decide (x3 > (0:Int))) (oget x0 (IntKind.i64.wrap (x3 - (1:Int))) fun (e5 : Edit) => cond (Op.bytesLess e1.1.toList e5.1.toList || (e1.1.toList == e5.1.toList)) (Q false) (N x0 (IntKind.i64.wrap (x3 + (1:Int))))) (N x0 (IntKind.i64.wrap (x3 + (1:Int)))))))) (X ())
def z11.l4 (lp : Nat) : Nat → List Edit → Int → Option (LE Bool Unit)
  | 0, _, _ => none
  | k + 1, x0, x3 => z11.b4 lp (z11.l4 lp k) (fun y => some (.brk y)) (fun z => some (.ret z)) x0 x3
def z11.a4 (lp : Nat) (y : Unit) : Option Bool := some true
def z11.q4 (lp : Nat) (z : Bool) : Option Bool := some z
def z11.e (lp : Nat) (L4 : List Edit → Int → Option Bool) (x0 : List Edit) : Option Bool := cond (decide ((x0.length : Int) > (6:Int))) (some false) (L4 x0 (0:Int))
def z11 (lp : Nat) (x0 : List Edit) : Option Bool := z11.e lp (fun x0 x3 => obind (z11.l4 lp lp x0 x3) (leF (fun z => z11.q4 lp z) (fun y => z11.a4 lp y))) x0
def z52 (lp : Nat) (x0 : Wish) : Option Bool := obind (z0t lp x0.2.1) fun (t1 : Bool) => cond (!t1) (some false) (obind (z1s x0.1 (1:Int) (6:Int)) fun (t2 : Bool) => cond (!t2) (some false) (obind (z11 lp x0.2.2.2.2.1) fun (t3 : Bool) => cond (!t3) (some false) (cond (x0.1 != (3:Int)) (cond (decide ((x0.2.2.2.2.1.length : Int) > (0:Int))) (some false) (cond (x0.1 == (1:Int)) (obind (z0t lp x0.2.2.1) fun (t4 : Bool) => cond t4 (cond (x0.1 == (5:Int)) (obind (z0t lp x0.2.2.2.1) fun (t5 : Bool) => cond t5 (some true) (cond (!(x0.1 == (5:Int))) (some (x0.2.2.2.1.toList == (⟨#[]⟩ : ByteArray).toList)) (some false))) (cond (!(x0.1 == (5:Int))) (some (x0.2.2.2.1.toList == (⟨#[]⟩ : ByteArray).toList)) (some false))) (some false)) (cond (x0.1 == (4:Int)) (obind (z0t lp x0.2.2.1) fun (t6 : Bool) => cond t6 (cond (x0.1 == (5:Int)) (obind (z0t lp x0.2.2.2.1) fun (t7 : Bool) => cond t7 (some true) (cond (!(x0.1 == (5:Int))) (some (x0.2.2.2.1.toList == (⟨#[]⟩ : ByteArray).toList)) (some false))) (cond (!(x0.1 == (5:Int))) (some (x0.2.2.2.1.toList == (⟨#[]⟩ : ByteArray).toList)) (some false))) (cond (!(x0.1 == (4:Int))) (cond (x0.2.2.1.toList == (⟨#[]⟩ : ByteArray).toList) (cond (x0.1 == (5:Int)) (obind (z0t lp x0.2.2.2.1) fun (t8 : Bool) => cond t8 (some true) (cond (!(x0.1 == (5:Int))) (some (x0.2.2.2.1.toList == (⟨#[]⟩ : ByteArray).toList)) (some false))) (cond (!(x0.1 == (5:Int))) (some (x0.2.2.2.1.toList == (⟨#[]⟩ : ByteArray).toList)) (some false))) (some false)) (some false))) (cond (!(x0.1 == (4:Int))) (cond (x0.2.2.1.toList == (⟨#[]⟩ : ByteArray).toList) (cond (x0.1 == (5:Int)) (obind (z0t lp x0.2.2.2.1) fun (t9 : Bool) => cond t9 (some true) (cond (!(x0.1 == (5:Int))) (some (x0.2.2.2.1.toList == (⟨#[]⟩ : ByteArray).toList)) (some false))) (cond (!(x0.1 == (5:Int))) (some (x0.2.2.2.1.toList == (⟨#[]⟩ : ByteArray).toList)) (some false))) (some false)) (some false))))) (cond (x0.1 == (1:Int)) (obind (z0t lp x0.2.2.1) fun (t10 : Bool) => cond t10 (cond (x0.1 == (5:Int)) (obind (z0t lp x0.2.2.2.1) fun (t11 : Bool) => cond t11 (some true) (cond (!(x0.1 == (5:Int))) (some (x0.2.2.2.1.toList == (⟨#[]⟩ : ByteArray).toList)) (some false))) (cond (!(x0.1 == (5:Int))) (some (x0.2.2.2.1.toList == (⟨#[]⟩ : ByteArray).toList)) (some false))) (some false)) (cond (x0.1 == (4:Int)) (obind (z0t lp x0.2.2.1) fun (t12 : Bool) => cond t12 (cond (x0.1 == (5:Int)) (obind (z0t lp x0.2.2.2.1) fun (t13 : Bool) => cond t13 (some true) (cond (!(x0.1 == (5:Int))) (some (x0.2.2.2.1.toList == (⟨#[]⟩ : ByteArray).toList)) (some false))) (cond (!(x0.1 == (5:Int))) (some (x0.2.2.2.1.toList == (⟨#[]⟩ : ByteArray).toList)) (some false))) (cond (!(x0.1 == (4:Int))) (cond (x0.2.2.1.toList == (⟨#[]⟩ : ByteArray).toList) (cond (x0.1 == (5:Int)) (obind (z0t lp x0.2.2.2.1) fun (t14 : Bool) => cond t14 (some true) (cond (!(x0.1 == (5:Int))) (some (x0.2.2.2.1.toList == (⟨#[]⟩ : ByteArray).toList)) (some false))) (cond (!(x0.1 == (5:Int))) (some (x0.2.2.2.1.toList == (⟨#[]⟩ : ByteArray).toList)) (some false))) (some false)) (some false))) (cond (!(x0.1 == (4:Int))) (cond (x0.2.2.1.toList == (⟨#[]⟩ : ByteArray).toList) (cond (x0.1 == (5:Int)) (obind (z0t lp x0.2.2.2.1) fun (t15 : Bool) => cond t15 (some true) (cond (!(x0.1 == (5:Int))) (some (x0.2.2.2.1.toList == (⟨#[]⟩ : ByteArray).toList)) (some false))) (cond (!(x0.1 == (5:Int))) (some (x0.2.2.2.1.toList == (⟨#[]⟩ : ByteArray).toList)) (some false))) (some false)) (some false)))))))
def z0x.b4 {R : Type} (lp : Nat) (N : List Wish → Int → Option R) (X : Unit → Option R) (Q : Bool → Option R) (x0 : List Wish) (x3 : Int) : Option R := cond (decide (x3 < (x0.length : Int))) (oget x0 x3 fun (e1 : Wish) => obind (z52 lp e1) fun (t2 : Bool) => cond (!t2) (Q false) (N x0 (IntKind.i64.wrap (x3 + (1:Int))))) (X ())
def z0x.l4 (lp : Nat) : Nat → List Wish → Int → Option (LE Bool Unit)
  | 0, _, _ => none
  | k + 1, x0, x3 => z0x.b4 lp (z0x.l4 lp k) (fun y => some (.brk y)) (fun z => some (.ret z)) x0 x3
def z0x.a4 (lp : Nat) (y : Unit) : Option Bool := some true
def z0x.q4 (lp : Nat) (z : Bool) : Option Bool := some z
def z0x.e (lp : Nat) (L4 : List Wish → Int → Option Bool) (x0 : List Wish) : Option Bool := cond (decide ((x0.length : Int) > (6:Int))) (some false) (L4 x0 (0:Int))
def z0x (lp : Nat) (x0 : List Wish) : Option Bool := z0x.e lp (fun x0 x3 => obind (z0x.l4 lp lp x0 x3) (leF (fun z => z0x.q4 lp z) (fun y => z0x.a4 lp y))) x0
def z17.b4 {R : Type} (lp : Nat) (N : List Entry → List Entry → Int → Option R) (X : Unit → Option R) (Q : Bool → Option R) (x0 : List Entry) (x1 : List Entry) (x5 : Int) : Option R := cond (decide (x5 < (x0.length : Int))) (oget x0 x5 fun (e1 : Entry) => oget x1 x5 fun (e2 : Entry) => cond (!((e1.1 == e2.1) && (e1.2.1 == e2.2.1))) (Q false) (N x0 x1 (IntKind.i64.wrap (x5 + (1:Int))))) (X ())
def z17.l4 (lp : Nat) : Nat → List Entry → List Entry → Int → Option (LE Bool Unit)
  | 0, _, _, _ => none
  | k + 1, x0, x1, x5 => z17.b4 lp (z17.l4 lp k) (fun y => some (.brk y)) (fun z => some (.ret z)) x0 x1 x5
def z17.a4 (lp : Nat) (y : Unit) : Option Bool := some true
def z17.q4 (lp : Nat) (z : Bool) : Option Bool := some z
def z17.e (lp : Nat) (L4 : List Entry → List Entry → Int → Option Bool) (x0 : List Entry) (x1 : List Entry) : Option Bool := cond ((x0.length : Int) != (x1.length : Int)) (some false) (L4 x0 x1 (0:Int))
def z17 (lp : Nat) (x0 : List Entry) (x1 : List Entry) : Option Bool := z17.e lp (fun x0 x1 x5 => obind (z17.l4 lp lp x0 x1 x5) (leF (fun z => z17.q4 lp z) (fun y => z17.a4 lp y))) x0 x1
def z0e.b8 {R : Type} (lp : Nat) (N : List Commit → Int → Int → List Bool → Option R) (X : ((List Commit) × Int × (List Bool)) → Option R) (Q : Empty → Option R) (x0 : List Commit) (x6 : Int) (x7 : Int) (xo11 : List Bool) : Option R := oget x0 (IntKind.i64.wrap (x6 - (1:Int))) fun (e3 : Commit) => cond (decide (x7 < (e3.1.length : Int))) (oget x0 (IntKind.i64.wrap (x6 - (1:Int))) fun (e4 : Commit) => oget e4.1 x7 fun (e5 : Int) => oif (decide ((0:Int) ≤ e5)) (oif (decide (e5 < (xo11.length : Int))) (oget xo11 (e5.toNat : Int) fun (e6 : Bool) => N x0 x6 (IntKind.i64.wrap (x7 + (1:Int))) (xo11.set e5.toNat true)))) (X (x0, x6, xo11))
def z0e.l8 (lp : Nat) : Nat → List Commit → Int → Int → List Bool → Option (LE Empty ((List Commit) × Int × (List Bool)))
  | 0, _, _, _, _ => none
  | k + 1, x0, x6, x7, xo11 => z0e.b8 lp (z0e.l8 lp k) (fun y => some (.brk y)) (fun z => some (.ret z)) x0 x6 x7 xo11
def z0e.a8 {R : Type} (lp : Nat) (N : List Commit → Int → List Bool → Option R) (X : ((List Bool)) → Option R) (Q : Empty → Option R) (y : (List Commit) × Int × (List Bool)) : Option R := N y.1 (IntKind.i64.wrap (y.2.1 - (1:Int))) y.2.2
def z0e.b4 {R : Type} (lp : Nat) (N : List Commit → Int → List Bool → Option R) (X : ((List Bool)) → Option R) (Q : Empty → Option R) (L8 : List Commit → Int → Int → List Bool → Option R) (x0 : List Commit) (x6 : Int) (xo11 : List Bool) : Option R := cond (decide (x6 > (0:Int))) (oif (decide ((0:Int) ≤ x6)) (oif (decide (x6 < (xo11.length : Int))) (oget xo11 (x6.toNat : Int) fun (e2 : Bool) => cond (!e2) (N x0 (IntKind.i64.wrap (x6 - (1:Int))) xo11) (L8 x0 x6 (0:Int) xo11)))) (X xo11)
def z0e.l4 (lp : Nat) : Nat → List Commit → Int → List Bool → Option (LE Empty ((List Bool)))
  | 0, _, _, _ => none
  | k + 1, x0, x6, xo11 => z0e.b4 lp (z0e.l4 lp k) (fun y => some (.brk y)) (fun z => some (.ret z)) (fun x0 x6 x7 xo11 => obind (z0e.l8 lp lp x0 x6 x7 xo11) (leF (fun z => z.elim) (fun y => z0e.a8 lp (z0e.l4 lp k) (fun y => some (.brk y)) (fun z => some (.ret z)) y))) x0 x6 xo11
def z0e.a4 (lp : Nat) (y : (List Bool)) : Option ((List Bool)) := some y
def z0e.e (lp : Nat) (L4 : List Commit → Int → List Bool → Option ((List Bool))) (x0 : List Commit) (x1 : Int) : Option ((List Bool)) := oif (decide ((0:Int) ≤ IntKind.i64.wrap ((x0.length : Int) + (1:Int)))) (oif (decide ((IntKind.i64.wrap ((x0.length : Int) + (1:Int))).toNat * 1 ≤ 140737488355328)) (oif (decide ((0:Int) ≤ x1)) (oif (decide (x1 < ((List.replicate (IntKind.i64.wrap ((x0.length : Int) + (1:Int))).toNat (false : Bool)).length : Int))) (oget (List.replicate (IntKind.i64.wrap ((x0.length : Int) + (1:Int))).toNat (false : Bool)) (x1.toNat : Int) fun (e1 : Bool) => L4 x0 x1 ((List.replicate (IntKind.i64.wrap ((x0.length : Int) + (1:Int))).toNat (false : Bool)).set x1.toNat true)))))
def z0e (lp : Nat) (x0 : List Commit) (x1 : Int) : Option ((List Bool)) := z0e.e lp (fun x0 x6 xo11 => obind (z0e.l4 lp lp x0 x6 xo11) (leF (fun z => z.elim) (fun y => z0e.a4 lp y))) x0 x1
def z2g.b4 {R : Type} (lp : Nat) (N : List Bool → List Bool → Int → Option R) (X : Int → Option R) (Q : Empty → Option R) (x7 : List Bool) (x8 : List Bool) (x9 : Int) : Option R := oget x7 x9 fun (e3 : Bool) => cond (!e3) (N x7 x8 (IntKind.i64.wrap (x9 - (1:Int)))) (oget x8 x9 fun (e4 : Bool) => cond (!e4) (N x7 x8 (IntKind.i64.wrap (x9 - (1:Int)))) (X x9))
def z2g.l4 (lp : Nat) : Nat → List Bool → List Bool → Int → Option (LE Empty Int)
  | 0, _, _, _ => none
  | k + 1, x7, x8, x9 => z2g.b4 lp (z2g.l4 lp k) (fun y => some (.brk y)) (fun z => some (.ret z)) x7 x8 x9
def z2g.a4 (lp : Nat) (y : Int) : Option Int := some y
def z2g.e (lp : Nat) (L4 : List Bool → List Bool → Int → Option Int) (x0 : List Commit) (x1 : Int) (x2 : Int) : Option Int := obind (z0e lp x0 x1) fun (t1 : (List Bool)) => obind (z0e lp x0 x2) fun (t2 : (List Bool)) => L4 t1 t2 (cond (decide (x2 < x1)) x2 x1)
def z2g (lp : Nat) (x0 : List Commit) (x1 : Int) (x2 : Int) : Option Int := z2g.e lp (fun x7 x8 x9 => obind (z2g.l4 lp lp x7 x8 x9) (leF (fun z => z.elim) (fun y => z2g.a4 lp y))) x0 x1 x2
def z4a (x0 : Int) (x1 : List ByteArray) : Option Result := some (x0, (0:Int), (0:Int), x1, ([] : List Entry), ())
def z4w (x0 : List Entry) (x1 : List ByteArray) : Option ((List Entry) × (List ByteArray) × Int) := cond (decide ((x1.length : Int) > (0:Int))) (some (([] : List Entry), x1, (11:Int))) (cond (decide ((x0.length : Int) > (12:Int))) (some (([] : List Entry), ([] : List ByteArray), (7:Int))) (some (x0, ([] : List ByteArray), (0:Int))))
def z1m.b3 {R : Type} (lp : Nat) (N : List Entry → ByteArray → Int → List Entry → Option R) (X : ((List Entry)) → Option R) (Q : Empty → Option R) (x0 : List Entry) (x1 : ByteArray) (x6 : Int) (xo7 : List Entry) : Option R := cond (decide (x6 < (x0.length : Int))) (oget x0 x6 fun (e1 : Entry) => cond (!(e1.1.toList == x1.toList)) (oget x0 x6 fun (e2 : Entry) => oif (decide ((xo7.length + ([e2] : List Entry).length) * 24 ≤ 140737488355328)) (N x0 x1 (IntKind.i64.wrap (x6 + (1:Int))) (xo7 ++ ([e2] : List Entry)))) (N x0 x1 (IntKind.i64.wrap (x6 + (1:Int))) xo7)) (X xo7)
def z1m.l3 (lp : Nat) : Nat → List Entry → ByteArray → Int → List Entry → Option (LE Empty ((List Entry)))
  | 0, _, _, _, _ => none
  | k + 1, x0, x1, x6, xo7 => z1m.b3 lp (z1m.l3 lp k) (fun y => some (.brk y)) (fun z => some (.ret z)) x0 x1 x6 xo7
def z1m.a3 (lp : Nat) (y : (List Entry)) : Option ((List Entry)) := some y
def z1m.e (lp : Nat) (L3 : List Entry → ByteArray → Int → List Entry → Option ((List Entry))) (x0 : List Entry) (x1 : ByteArray) : Option ((List Entry)) := L3 x0 x1 (0:Int) ([] : List Entry)
def z1m (lp : Nat) (x0 : List Entry) (x1 : ByteArray) : Option ((List Entry)) := z1m.e lp (fun x0 x1 x6 xo7 => obind (z1m.l3 lp lp x0 x1 x6 xo7) (leF (fun z => z.elim) (fun y => z1m.a3 lp y))) x0 x1
def z2p.b4 {R : Type} (lp : Nat) (N : List Entry → ByteArray → Int → Bool → Int → List Entry → Option R) (X : (ByteArray × Int × Bool × (List Entry)) → Option R) (Q : Empty → Option R) (x0 : List Entry) (x1 : ByteArray) (x2 : Int) (x8 : Bool) (x9 : Int) (xo10 : List Entry) : Option R := cond (decide (x9 < (x0.length : Int))) (cond (!x8) (oget x0 x9 fun (e1 : Entry) => cond (!Op.bytesLess e1.1.toList x1.toList) (oif (decide ((xo10.length + ([(x1, x2, ())] : List Entry).length) * 24 ≤ 140737488355328)) (oget x0 x9 fun (e2 : Entry) => cond (!(e2.1.toList == x1.toList)) (oget x0 x9 fun (e3 : Entry) => oif (decide (((xo10 ++ ([(x1, x2, ())] : List Entry)).length + ([e3] : List Entry).length) * 24 ≤ 140737488355328)) (N x0 x1 x2 true (IntKind.i64.wrap (x9 + (1:Int))) ((xo10 ++ ([(x1, x2, ())] : List Entry)) ++ ([e3] : List Entry)))) (N x0 x1 x2 true (IntKind.i64.wrap (x9 + (1:Int))) (xo10 ++ ([(x1, x2, ())] : List Entry))))) (oget x0 x9 fun (e4 : Entry) => cond (!(e4.1.toList == x1.toList)) (oget x0 x9 fun (e5 : Entry) => oif (decide ((xo10.length + ([e5] : List Entry).length) * 24 ≤ 140737488355328)) (N x0 x1 x2 x8 (IntKind.i64.wrap (x9 + (1:Int))) (xo10 ++ ([e5] : List Entry)))) (N x0 x1 x2 x8 (IntKind.i64.wrap (x9 + (1:Int))) xo10))) (oget x0 x9 fun (e6 : Entry) => cond (!(e6.1.toList == x1.toList)) (oget x0 x9 fun (e7 : Entry) => oif (decide ((xo10.length + ([e7] : List Entry).length) * 24 ≤ 140737488355328)) (N x0 x1 x2 x8 (IntKind.i64.wrap (x9 + (1:Int))) (xo10 ++ ([e7] : List Entry)))) (N x0 x1 x2 x8 (IntKind.i64.wrap (x9 + (1:Int))) xo10))) (X (x1, x2, x8, xo10))
def z2p.l4 (lp : Nat) : Nat → List Entry → ByteArray → Int → Bool → Int → List Entry → Option (LE Empty (ByteArray × Int × Bool × (List Entry)))
  | 0, _, _, _, _, _, _ => none
  | k + 1, x0, x1, x2, x8, x9, xo10 => z2p.b4 lp (z2p.l4 lp k) (fun y => some (.brk y)) (fun z => some (.ret z)) x0 x1 x2 x8 x9 xo10
def z2p.a4 (lp : Nat) (y : ByteArray × Int × Bool × (List Entry)) : Option ((List Entry)) := cond (!y.2.2.1) (oif (decide ((y.2.2.2.length + ([(y.1, y.2.1, ())] : List Entry).length) * 24 ≤ 140737488355328)) (some (y.2.2.2 ++ ([(y.1, y.2.1, ())] : List Entry)))) (some y.2.2.2)
def z2p.e (lp : Nat) (L4 : List Entry → ByteArray → Int → Bool → Int → List Entry → Option ((List Entry))) (x0 : List Entry) (x1 : ByteArray) (x2 : Int) : Option ((List Entry)) := L4 x0 x1 x2 false (0:Int) ([] : List Entry)
def z2p (lp : Nat) (x0 : List Entry) (x1 : ByteArray) (x2 : Int) : Option ((List Entry)) := z2p.e lp (fun x0 x1 x2 x8 x9 xo10 => obind (z2p.l4 lp lp x0 x1 x2 x8 x9 xo10) (leF (fun z => z.elim) (fun y => z2p.a4 lp y))) x0 x1 x2
def z1o.b3 {R : Type} (lp : Nat) (N : List Entry → List Edit → Int → Option R) (X : ((List Entry)) → Option R) (Q : Empty → Option R) (x0 : List Entry) (x1 : List Edit) (x5 : Int) : Option R := cond (decide (x5 < (x1.length : Int))) (oget x1 x5 fun (e1 : Edit) => cond e1.2.2.1 (oget x1 x5 fun (e2 : Edit) => obind (z1m lp x0 e2.1) fun (t3 : (List Entry)) => N t3 x1 (IntKind.i64.wrap (x5 + (1:Int)))) (oget x1 x5 fun (e4 : Edit) => oget x1 x5 fun (e5 : Edit) => obind (z2p lp x0 e4.1 e5.2.1) fun (t6 : (List Entry)) => N t6 x1 (IntKind.i64.wrap (x5 + (1:Int))))) (X x0)
def z1o.l3 (lp : Nat) : Nat → List Entry → List Edit → Int → Option (LE Empty ((List Entry)))
  | 0, _, _, _ => none
  | k + 1, x0, x1, x5 => z1o.b3 lp (z1o.l3 lp k) (fun y => some (.brk y)) (fun z => some (.ret z)) x0 x1 x5
def z1o.a3 (lp : Nat) (y : (List Entry)) : Option ((List Entry)) := some y
def z1o.e (lp : Nat) (L3 : List Entry → List Edit → Int → Option ((List Entry))) (x0 : List Entry) (x1 : List Edit) : Option ((List Entry)) := oif (decide ((([] : List Entry).length + x0.length) * 24 ≤ 140737488355328)) (L3 (([] : List Entry) ++ x0) x1 (0:Int))
def z1o (lp : Nat) (x0 : List Entry) (x1 : List Edit) : Option ((List Entry)) := z1o.e lp (fun x0 x1 x5 => obind (z1o.l3 lp lp x0 x1 x5) (leF (fun z => z.elim) (fun y => z1o.a3 lp y))) x0 x1
def z29.b4 {R : Type} (lp : Nat) (N : List Entry → List Entry → Int → Int → List Edit → Option R) (X : ((List Edit)) → Option R) (Q : Empty → Option R) (x0 : List Entry) (x1 : List Entry) (x6 : Int) (x7 : Int) (xo8 : List Edit) : Option R := cond (decide (x6 < (x0.length : Int))) (cond (x7 == (x1.length : Int)) (oget x0 x6 fun (e1 : Entry) => oif (decide ((xo8.length + ([(e1.1, (0:Int), true, ())] : List Edit).length) * 32 ≤ 140737488355328)) (N x0 x1 (IntKind.i64.wrap (x6 + (1:Int))) x7 (xo8 ++ ([(e1.1, (0:Int), true, ())] : List Edit)))) (cond (decide (x6 < (x0.length : Int))) (oget x0 x6 fun (e2 : Entry) => oget x1 x7 fun (e3 : Entry) => cond (Op.bytesLess e2.1.toList e3.1.toList) (oget x0 x6 fun (e4 : Entry) => oif (decide ((xo8.length + ([(e4.1, (0:Int), true, ())] : List Edit).length) * 32 ≤ 140737488355328)) (N x0 x1 (IntKind.i64.wrap (x6 + (1:Int))) x7 (xo8 ++ ([(e4.1, (0:Int), true, ())] : List Edit)))) (cond (x6 == (x0.length : Int)) (oget x1 x7 fun (e5 : Entry) => oget x1 x7 fun (e6 : Entry) => oif (decide ((xo8.length + ([(e5.1, e6.2.1, false, ())] : List Edit).length) * 32 ≤ 140737488355328)) (N x0 x1 x6 (IntKind.i64.wrap (x7 + (1:Int))) (xo8 ++ ([(e5.1, e6.2.1, false, ())] : List Edit)))) (oget x1 x7 fun (e7 : Entry) => oget x0 x6 fun (e8 : Entry) => cond (Op.bytesLess e7.1.toList e8.1.toList) (oget x1 x7 fun (e9 : Entry) => oget x1 x7 fun (e10 : Entry) => oif (decide ((xo8.length + ([(e9.1, e10.2.1, false, ())] : List Edit).length) * 32 ≤ 140737488355328)) (N x0 x1 x6 (IntKind.i64.wrap (x7 + (1:Int))) (xo8 ++ ([(e9.1, e10.2.1, false, ())] : List Edit)))) (oget x0 x6 fun (e11 : Entry) => oget x1 x7 fun (e12 : Entry) => cond (e11.2.1 != e12.2.1) (oget x1 x7 fun (e13 : Entry) => oget x1 x7 fun (e14 : Entry) => oif (decide ((xo8.length + ([(e13.1, e14.2.1, false, ())] : List Edit).length) * 32 ≤ 140737488355328)) (N x0 x1 (IntKind.i64.wrap (x6 + (1:Int))) (IntKind.i64.wrap (x7 + (1:Int))) (xo8 ++ ([(e13.1, e14.2.1, false, ())] : List Edit)))) (N x0 x1 (IntKind.i64.wrap (x6 + (1:Int))) (IntKind.i64.wrap (x7 + (1:Int))) xo8))))) (cond (x6 == (x0.length : Int)) (oget x1 x7 fun (e15 : Entry) => oget x1 x7 fun (e16 : Entry) => oif (decide ((xo8.length + ([(e15.1, e16.2.1, false, ())] : List Edit).length) * 32 ≤ 140737488355328)) (N x0 x1 x6 (IntKind.i64.wrap (x7 + (1:Int))) (xo8 ++ ([(e15.1, e16.2.1, false, ())] : List Edit)))) (oget x1 x7 fun (e17 : Entry) => oget x0 x6 fun (e18 : Entry) => cond (Op.bytesLess e17.1.toList e18.1.toList) (oget x1 x7 fun (e19 : Entry) => oget x1 x7 fun (e20 : Entry) => oif (decide ((xo8.length + ([(e19.1, e20.2.1, false, ())] : List Edit).length) * 32 ≤ 140737488355328)) (N x0 x1 x6 (IntKind.i64.wrap (x7 + (1:Int))) (xo8 ++ ([(e19.1, e20.2.1, false, ())] : List Edit)))) (oget x0 x6 fun (e21 : Entry) => oget x1 x7 fun (e22 : Entry) => cond (e21.2.1 != e22.2.1) (oget x1 x7 fun (e23 : Entry) => oget x1 x7 fun (e24 : Entry) => oif (decide ((xo8.length + ([(e23.1, e24.2.1, false, ())] : List Edit).length) * 32 ≤ 140737488355328)) (N x0 x1 (IntKind.i64.wrap (x6 + (1:Int))) (IntKind.i64.wrap (x7 + (1:Int))) (xo8 ++ ([(e23.1, e24.2.1, false, ())] : List Edit)))) (N x0 x1 (IntKind.i64.wrap (x6 + (1:Int))) (IntKind.i64.wrap (x7 + (1:Int))) xo8)))))) (cond (decide (x7 < (x1.length : Int))) (cond (x7 == (x1.length : Int)) (oget x0 x6 fun (e25 : Entry) => oif (decide ((xo8.length + ([(e25.1, (0:Int), true, ())] : List Edit).length) * 32 ≤ 140737488355328)) (N x0 x1 (IntKind.i64.wrap (x6 + (1:Int))) x7 (xo8 ++ ([(e25.1, (0:Int), true, ())] : List Edit)))) (cond (decide (x6 < (x0.length : Int))) (oget x0 x6 fun (e26 : Entry) => oget x1 x7 fun (e27 : Entry) => cond (Op.bytesLess e26.1.toList e27.1.toList) (oget x0 x6 fun (e28 : Entry) => oif (decide ((xo8.length + ([(e28.1, (0:Int), true, ())] : List Edit).length) * 32 ≤ 140737488355328)) (N x0 x1 (IntKind.i64.wrap (x6 + (1:Int))) x7 (xo8 ++ ([(e28.1, (0:Int), true, ())] : List Edit)))) (cond (x6 == (x0.length : Int)) (oget x1 x7 fun (e29 : Entry) => oget x1 x7 fun (e30 : Entry) => oif (decide ((xo8.length + ([(e29.1, e30.2.1, false, ())] : List Edit).length) * 32 ≤ 140737488355328)) (N x0 x1 x6 (IntKind.i64.wrap (x7 + (1:Int))) (xo8 ++ ([(e29.1, e30.2.1, false, ())] : List Edit)))) (oget x1 x7 fun (e31 : Entry) => oget x0 x6 fun (e32 : Entry) => cond (Op.bytesLess e31.1.toList e32.1.toList) (oget x1 x7 fun (e33 : Entry) => oget x1 x7 fun (e34 : Entry) => oif (decide ((xo8.length + ([(e33.1, e34.2.1, false, ())] : List Edit).length) * 32 ≤ 140737488355328)) (N x0 x1 x6 (IntKind.i64.wrap (x7 + (1:Int))) (xo8 ++ ([(e33.1, e34.2.1, false, ())] : List Edit)))) (oget x0 x6 fun (e35 : Entry) => oget x1 x7 fun (e36 : Entry) => cond (e35.2.1 != e36.2.1) (oget x1 x7 fun (e37 : Entry) => oget x1 x7 fun (e38 : Entry) => oif (decide ((xo8.length + ([(e37.1, e38.2.1, false, ())] : List Edit).length) * 32 ≤ 140737488355328)) (N x0 x1 (IntKind.i64.wrap (x6 + (1:Int))) (IntKind.i64.wrap (x7 + (1:Int))) (xo8 ++ ([(e37.1, e38.2.1, false, ())] : List Edit)))) (N x0 x1 (IntKind.i64.wrap (x6 + (1:Int))) (IntKind.i64.wrap (x7 + (1:Int))) xo8))))) (cond (x6 == (x0.length : Int)) (oget x1 x7 fun (e39 : Entry) => oget x1 x7 fun (e40 : Entry) => oif (decide ((xo8.length + ([(e39.1, e40.2.1, false, ())] : List Edit).length) * 32 ≤ 140737488355328)) (N x0 x1 x6 (IntKind.i64.wrap (x7 + (1:Int))) (xo8 ++ ([(e39.1, e40.2.1, false, ())] : List Edit)))) (oget x1 x7 fun (e41 : Entry) => oget x0 x6 fun (e42 : Entry) => cond (Op.bytesLess e41.1.toList e42.1.toList) (oget x1 x7 fun (e43 : Entry) => oget x1 x7 fun (e44 : Entry) => oif (decide ((xo8.length + ([(e43.1, e44.2.1, false, ())] : List Edit).length) * 32 ≤ 140737488355328)) (N x0 x1 x6 (IntKind.i64.wrap (x7 + (1:Int))) (xo8 ++ ([(e43.1, e44.2.1, false, ())] : List Edit)))) (oget x0 x6 fun (e45 : Entry) => oget x1 x7 fun (e46 : Entry) => cond (e45.2.1 != e46.2.1) (oget x1 x7 fun (e47 : Entry) => oget x1 x7 fun (e48 : Entry) => oif (decide ((xo8.length + ([(e47.1, e48.2.1, false, ())] : List Edit).length) * 32 ≤ 140737488355328)) (N x0 x1 (IntKind.i64.wrap (x6 + (1:Int))) (IntKind.i64.wrap (x7 + (1:Int))) (xo8 ++ ([(e47.1, e48.2.1, false, ())] : List Edit)))) (N x0 x1 (IntKind.i64.wrap (x6 + (1:Int))) (IntKind.i64.wrap (x7 + (1:Int))) xo8)))))) (X xo8))
def z29.l4 (lp : Nat) : Nat → List Entry → List Entry → Int → Int → List Edit → Option (LE Empty ((List Edit)))
  | 0, _, _, _, _, _ => none
  | k + 1, x0, x1, x6, x7, xo8 => z29.b4 lp (z29.l4 lp k) (fun y => some (.brk y)) (fun z => some (.ret z)) x0 x1 x6 x7 xo8
def z29.a4 (lp : Nat) (y : (List Edit)) : Option ((List Edit)) := some y
def z29.e (lp : Nat) (L4 : List Entry → List Entry → Int → Int → List Edit → Option ((List Edit))) (x0 : List Entry) (x1 : List Entry) : Option ((List Edit)) := L4 x0 x1 (0:Int) (0:Int) ([] : List Edit)
def z29 (lp : Nat) (x0 : List Entry) (x1 : List Entry) : Option ((List Edit)) := z29.e lp (fun x0 x1 x6 x7 xo8 => obind (z29.l4 lp lp x0 x1 x6 x7 xo8) (leF (fun z => z.elim) (fun y => z29.a4 lp y))) x0 x1
def z1x.b2 {R : Type} (lp : Nat) (N : List Edit → ByteArray → Int → ByteArray → Int → Bool → Option R) (X : (ByteArray × Int × Bool) → Option R) (Q : (Bool × ByteArray × Int × Bool) → Option R) (x0 : List Edit) (x1 : ByteArray) (x6 : Int) (xb4_0 : ByteArray) (xb4_1 : Int) (xb4_2 : Bool) : Option R := cond (decide (x6 < (x0.length : Int))) (oget x0 x6 fun (e1 : Edit) => cond (e1.1.toList == x1.toList) (oget x0 x6 fun (e2 : Edit) => Q (true, e2.1, e2.2.1, e2.2.2.1)) (N x0 x1 (IntKind.i64.wrap (x6 + (1:Int))) xb4_0 xb4_1 xb4_2)) (X (xb4_0, xb4_1, xb4_2))
def z1x.l2 (lp : Nat) : Nat → List Edit → ByteArray → Int → ByteArray → Int → Bool → Option (LE (Bool × ByteArray × Int × Bool) (ByteArray × Int × Bool))
  | 0, _, _, _, _, _, _ => none
  | k + 1, x0, x1, x6, xb4_0, xb4_1, xb4_2 => z1x.b2 lp (z1x.l2 lp k) (fun y => some (.brk y)) (fun z => some (.ret z)) x0 x1 x6 xb4_0 xb4_1 xb4_2
def z1x.a2 (lp : Nat) (y : ByteArray × Int × Bool) : Option (Edit × Bool) := some (((⟨#[]⟩ : ByteArray), (0:Int), false, ()), false)
def z1x.q2 (lp : Nat) (z : Bool × ByteArray × Int × Bool) : Option (Edit × Bool) := some ((z.2.1, z.2.2.1, z.2.2.2, ()), z.1)
def z1x.e (lp : Nat) (L2 : List Edit → ByteArray → Int → ByteArray → Int → Bool → Option (Edit × Bool)) (x0 : List Edit) (x1 : ByteArray) : Option (Edit × Bool) := L2 x0 x1 (0:Int) (⟨#[]⟩ : ByteArray) (0:Int) false
def z1x (lp : Nat) (x0 : List Edit) (x1 : ByteArray) : Option (Edit × Bool) := z1x.e lp (fun x0 x1 x6 xb4_0 xb4_1 xb4_2 => obind (z1x.l2 lp lp x0 x1 x6 xb4_0 xb4_1 xb4_2) (leF (fun z => z1x.q2 lp z) (fun y => z1x.a2 lp y))) x0 x1
def z1n.b6 {R : Type} (lp : Nat) (N : List Entry → List Edit → List Edit → Int → List ByteArray → List Edit → Option R) (X : ((List Entry) × (List ByteArray) × (List Edit)) → Option R) (Q : Empty → Option R) (x1 : List Entry) (x8 : List Edit) (x9 : List Edit) (x12 : Int) (xo21 : List ByteArray) (xo22 : List Edit) : Option R := cond (decide (x12 < (x9.length : Int))) (oget x9 x12 fun (e3 : Edit) => obind (z1x lp x8 e3.1) fun (t4 : Edit × Bool) => cond (!t4.2) (oget x9 x12 fun (e5 : Edit) => oif (decide ((xo22.length + ([e5] : List Edit).length) * 32 ≤ 140737488355328)) (N x1 x8 x9 (IntKind.i64.wrap (x12 + (1:Int))) xo21 (xo22 ++ ([e5] : List Edit)))) (oget x9 x12 fun (e6 : Edit) => cond (!((t4.1.1 == e6.1) && ((t4.1.2.1 == e6.2.1) && (t4.1.2.2.1 == e6.2.2.1)))) (oget x9 x12 fun (e7 : Edit) => oif (decide ((xo21.length + ([e7.1] : List ByteArray).length) * 16 ≤ 140737488355328)) (N x1 x8 x9 (IntKind.i64.wrap (x12 + (1:Int))) (xo21 ++ ([e7.1] : List ByteArray)) xo22)) (N x1 x8 x9 (IntKind.i64.wrap (x12 + (1:Int))) xo21 xo22))) (X (x1, xo21, xo22))
def z1n.l6 (lp : Nat) : Nat → List Entry → List Edit → List Edit → Int → List ByteArray → List Edit → Option (LE Empty ((List Entry) × (List ByteArray) × (List Edit)))
  | 0, _, _, _, _, _, _ => none
  | k + 1, x1, x8, x9, x12, xo21, xo22 => z1n.b6 lp (z1n.l6 lp k) (fun y => some (.brk y)) (fun z => some (.ret z)) x1 x8 x9 x12 xo21 xo22
def z1n.a6 (lp : Nat) (y : (List Entry) × (List ByteArray) × (List Edit)) : Option ((List Entry) × (List ByteArray)) := obind (z1o lp y.1 y.2.2) fun (t8 : (List Entry)) => some (t8, y.2.1)
def z1n.e (lp : Nat) (L6 : List Entry → List Edit → List Edit → Int → List ByteArray → List Edit → Option ((List Entry) × (List ByteArray))) (x0 : List Entry) (x1 : List Entry) (x2 : List Entry) : Option ((List Entry) × (List ByteArray)) := obind (z29 lp x0 x1) fun (t1 : (List Edit)) => obind (z29 lp x0 x2) fun (t2 : (List Edit)) => L6 x1 t1 t2 (0:Int) ([] : List ByteArray) ([] : List Edit)
def z1n (lp : Nat) (x0 : List Entry) (x1 : List Entry) (x2 : List Entry) : Option ((List Entry) × (List ByteArray)) := z1n.e lp (fun x1 x8 x9 x12 xo21 xo22 => obind (z1n.l6 lp lp x1 x8 x9 x12 xo21 xo22) (leF (fun z => z.elim) (fun y => z1n.a6 lp y))) x0 x1 x2
def z5v (lp : Nat) (x0 : List Commit) (x1 : Int) (x2 : Int) : Option (Bool × (List Entry) × Result) := obind (z2g lp x0 x1 x2) fun (t1 : Int) => cond (t1 == x2) (obind (z4a (18:Int) ([] : List ByteArray)) fun (t2 : Result) => some (false, ([] : List Entry), t2)) (cond (t1 == x1) (some (true, ([] : List Entry), ((0:Int), (0:Int), (0:Int), ([] : List ByteArray), ([] : List Entry), ()))) (oget x0 (IntKind.i64.wrap (t1 - (1:Int))) fun (e3 : Commit) => oget x0 (IntKind.i64.wrap (x1 - (1:Int))) fun (e4 : Commit) => oget x0 (IntKind.i64.wrap (x2 - (1:Int))) fun (e5 : Commit) => obind (z1n lp e3.2.1 e4.2.1 e5.2.1) fun (t6 : (List Entry) × (List ByteArray)) => obind (z4w t6.1 t6.2) fun (t7 : (List Entry) × (List ByteArray) × Int) => obind (z4a t7.2.2 t7.2.1) fun (t8 : Result) => some (false, t7.1, t8)))
def z5p (lp : Nat) (x0 : List Commit) (x1 : Int) (x2 : Int) (x3 : List Edit) : Option ((List Entry) × Result) := oget x0 (IntKind.i64.wrap (x1 - (1:Int))) fun (e1 : Commit) => obind (z1o lp e1.2.1 x3) fun (t2 : (List Entry)) => cond (decide ((t2.length : Int) > (12:Int))) (obind (z4a (7:Int) ([] : List ByteArray)) fun (t3 : Result) => some (([] : List Entry), t3)) (oget x0 (IntKind.i64.wrap (x1 - (1:Int))) fun (e4 : Commit) => oget x0 (IntKind.i64.wrap (x2 - (1:Int))) fun (e5 : Commit) => obind (z1n lp e4.2.1 t2 e5.2.1) fun (t6 : (List Entry) × (List ByteArray)) => obind (z4w t6.1 t6.2) fun (t7 : (List Entry) × (List ByteArray) × Int) => cond (t7.2.2 == (0:Int)) (oget x0 (IntKind.i64.wrap (x2 - (1:Int))) fun (e8 : Commit) => obind (z17 lp t7.1 e8.2.1) fun (t9 : Bool) => cond t9 (obind (z4a (18:Int) t7.2.1) fun (t10 : Result) => some (t7.1, t10)) (obind (z4a t7.2.2 t7.2.1) fun (t11 : Result) => some (t7.1, t11))) (obind (z4a t7.2.2 t7.2.1) fun (t12 : Result) => some (t7.1, t12)))
def z4j (lp : Nat) (x0 : List Commit) (x1 : Wish) (x2 : Int) (x3 : Int) : Option (Bool × (List Entry) × Result) := cond (x1.1 == (4:Int)) (obind (z5v lp x0 x3 x2) fun (t1 : Bool × (List Entry) × Result) => some (t1.1, t1.2.1, t1.2.2)) (obind (z5p lp x0 x2 x3 x1.2.2.2.2.1) fun (t2 : (List Entry) × Result) => some (false, t2.1, t2.2))
def z54 (x0 : Client) : Option Bool := some (x0.2.2.2.2.2.2.2.1 == (1:Int))
def z4l (lp : Nat) (x0 : Base) (x1 : Client) : Option Bool := cond (x1.2.2.2.2.1 == (0:Int)) (cond (x1.2.2.2.2.2.1 == (0:Int)) (cond (x1.2.2.2.2.2.2.2.1 == (0:Int)) (cond (x1.2.2.1 == (0:Int)) (cond ((x1.2.2.2.2.2.2.2.2.1.length : Int) == (0:Int)) (cond (x1.2.2.2.1 == (0:Int)) (some (x1.2.2.2.2.2.2.1 == (0:Int))) (some false)) (some false)) (oget x1.1 x1.2.1 fun (e1 : Wish) => cond (decide (e1.1 > (4:Int))) (some false) (cond (e1.1 == (2:Int)) (some false) (obind (z1s x1.2.2.2.1 (1:Int) (x0.1.length : Int)) fun (t2 : Bool) => cond (!t2) (some false) (obind (z1s x1.2.2.2.2.2.2.1 (0:Int) (3:Int)) fun (t3 : Bool) => cond (!t3) (some false) (cond (x1.2.2.1 == (1:Int)) (cond ((x1.2.2.2.2.2.2.2.2.1.length : Int) == (0:Int)) (cond (decide (x1.2.2.2.2.2.2.1 > (0:Int))) (cond (x1.2.2.2.2.2.2.1 == (0:Int)) (some true) (some (e1.1 != (1:Int)))) (cond (e1.1 != (3:Int)) (cond (x1.2.2.2.2.2.2.1 == (0:Int)) (some true) (some (e1.1 != (1:Int)))) (some false))) (some false)) (cond (x1.2.2.1 != (2:Int)) (some false) (cond (e1.1 == (1:Int)) (some false) (obind (z1s x1.2.2.2.2.1 (1:Int) (x0.1.length : Int)) fun (t4 : Bool) => cond (!t4) (some false) (obind (z1s x1.2.2.2.2.2.1 (1:Int) (1000000:Int)) fun (t5 : Bool) => cond (!t5) (some false) (obind (z4j lp x0.1 e1 x1.2.2.2.1 x1.2.2.2.2.1) fun (t6 : Bool × (List Entry) × Result) => cond (t6.2.2.1 == (0:Int)) (obind (z54 x1) fun (t7 : Bool) => cond (t7 == t6.1) (obind (z1s x1.2.2.2.2.2.2.2.1 (0:Int) (1:Int)) fun (t8 : Bool) => cond t8 (obind (z17 lp t6.2.1 x1.2.2.2.2.2.2.2.2.1) fun (t9 : Bool) => some t9) (some false)) (some false)) (some false)))))))))))) (cond (x1.2.2.1 == (0:Int)) (some false) (oget x1.1 x1.2.1 fun (e10 : Wish) => cond (decide (e10.1 > (4:Int))) (some false) (cond (e10.1 == (2:Int)) (some false) (obind (z1s x1.2.2.2.1 (1:Int) (x0.1.length : Int)) fun (t11 : Bool) => cond (!t11) (some false) (obind (z1s x1.2.2.2.2.2.2.1 (0:Int) (3:Int)) fun (t12 : Bool) => cond (!t12) (some false) (cond (x1.2.2.1 == (1:Int)) (some false) (cond (x1.2.2.1 != (2:Int)) (some false) (cond (e10.1 == (1:Int)) (some false) (obind (z1s x1.2.2.2.2.1 (1:Int) (x0.1.length : Int)) fun (t13 : Bool) => cond (!t13) (some false) (obind (z1s x1.2.2.2.2.2.1 (1:Int) (1000000:Int)) fun (t14 : Bool) => cond (!t14) (some false) (obind (z4j lp x0.1 e10 x1.2.2.2.1 x1.2.2.2.2.1) fun (t15 : Bool × (List Entry) × Result) => cond (t15.2.2.1 == (0:Int)) (obind (z54 x1) fun (t16 : Bool) => cond (t16 == t15.1) (obind (z1s x1.2.2.2.2.2.2.2.1 (0:Int) (1:Int)) fun (t17 : Bool) => cond t17 (obind (z17 lp t15.2.1 x1.2.2.2.2.2.2.2.2.1) fun (t18 : Bool) => some t18) (some false)) (some false)) (some false))))))))))))) (cond (x1.2.2.1 == (0:Int)) (some false) (oget x1.1 x1.2.1 fun (e19 : Wish) => cond (decide (e19.1 > (4:Int))) (some false) (cond (e19.1 == (2:Int)) (some false) (obind (z1s x1.2.2.2.1 (1:Int) (x0.1.length : Int)) fun (t20 : Bool) => cond (!t20) (some false) (obind (z1s x1.2.2.2.2.2.2.1 (0:Int) (3:Int)) fun (t21 : Bool) => cond (!t21) (some false) (cond (x1.2.2.1 == (1:Int)) (some false) (cond (x1.2.2.1 != (2:Int)) (some false) (cond (e19.1 == (1:Int)) (some false) (obind (z1s x1.2.2.2.2.1 (1:Int) (x0.1.length : Int)) fun (t22 : Bool) => cond (!t22) (some false) (obind (z1s x1.2.2.2.2.2.1 (1:Int) (1000000:Int)) fun (t23 : Bool) => cond (!t23) (some false) (obind (z4j lp x0.1 e19 x1.2.2.2.1 x1.2.2.2.2.1) fun (t24 : Bool × (List Entry) × Result) => cond (t24.2.2.1 == (0:Int)) (obind (z54 x1) fun (t25 : Bool) => cond (t25 == t24.1) (obind (z1s x1.2.2.2.2.2.2.2.1 (0:Int) (1:Int)) fun (t26 : Bool) => cond t26 (obind (z17 lp t24.2.1 x1.2.2.2.2.2.2.2.2.1) fun (t27 : Bool) => some t27) (some false)) (some false)) (some false))))))))))))) (cond (x1.2.2.1 == (0:Int)) (some false) (oget x1.1 x1.2.1 fun (e28 : Wish) => cond (decide (e28.1 > (4:Int))) (some false) (cond (e28.1 == (2:Int)) (some false) (obind (z1s x1.2.2.2.1 (1:Int) (x0.1.length : Int)) fun (t29 : Bool) => cond (!t29) (some false) (obind (z1s x1.2.2.2.2.2.2.1 (0:Int) (3:Int)) fun (t30 : Bool) => cond (!t30) (some false) (cond (x1.2.2.1 == (1:Int)) (some false) (cond (x1.2.2.1 != (2:Int)) (some false) (cond (e28.1 == (1:Int)) (some false) (obind (z1s x1.2.2.2.2.1 (1:Int) (x0.1.length : Int)) fun (t31 : Bool) => cond (!t31) (some false) (obind (z1s x1.2.2.2.2.2.1 (1:Int) (1000000:Int)) fun (t32 : Bool) => cond (!t32) (some false) (obind (z4j lp x0.1 e28 x1.2.2.2.1 x1.2.2.2.2.1) fun (t33 : Bool × (List Entry) × Result) => cond (t33.2.2.1 == (0:Int)) (obind (z54 x1) fun (t34 : Bool) => cond (t34 == t33.1) (obind (z1s x1.2.2.2.2.2.2.2.1 (0:Int) (1:Int)) fun (t35 : Bool) => cond t35 (obind (z17 lp t33.2.1 x1.2.2.2.2.2.2.2.2.1) fun (t36 : Bool) => some t36) (some false)) (some false)) (some false))))))))))))
def z6z (lp : Nat) (x0 : Base) (x1 : Client) : Option Bool := obind (z0x lp x1.1) fun (t1 : Bool) => cond (!t1) (some false) (obind (z1s x1.2.1 (0:Int) (x1.1.length : Int)) fun (t2 : Bool) => cond (!t2) (some false) (obind (z1s x1.2.2.1 (0:Int) (2:Int)) fun (t3 : Bool) => cond (!t3) (some false) (cond (x1.2.1 == (x1.1.length : Int)) (cond (decide (x1.2.2.1 > (0:Int))) (some false) (obind (z4l lp x0 x1) fun (t4 : Bool) => some t4)) (obind (z4l lp x0 x1) fun (t5 : Bool) => some t5))))
def z14.b2 {R : Type} (lp : Nat) (N : List Event → Int → Option R) (X : Unit → Option R) (Q : Bool → Option R) (x0 : List Event) (x3 : Int) : Option R := cond (decide (x3 < (x0.length : Int))) (oget x0 x3 fun (e1 : Event) => obind (z1s e1.1 (1:Int) (1000000:Int)) fun (t2 : Bool) => cond (!t2) (Q false) (obind (z1s e1.2.1 (0:Int) (60:Int)) fun (t3 : Bool) => cond (!t3) (Q false) (cond (decide (x3 > (0:Int))) (oget x0 (IntKind.i64.wrap (x3 - (1:Int))) fun (e4 : Event) => cond (decide (e1.1 ≤ e4.1)) (Q false) (cond (decide (x3 > (0:Int))) (cond (!e1.2.2.1) (oget x0 (IntKind.i64.wrap (x3 - (1:Int))) fun (e5 : Event) => cond (e1.1 != (IntKind.i64.wrap (e5.1 + (1:Int)))) (Q false) (N x0 (IntKind.i64.wrap (x3 + (1:Int))))) (N x0 (IntKind.i64.wrap (x3 + (1:Int))))) (N x0 (IntKind.i64.wrap (x3 + (1:Int)))))) (cond (decide (x3 > (0:Int))) (cond (!e1.2.2.1) (oget x0 (IntKind.i64.wrap (x3 - (1:Int))) fun (e6 : Event) => cond (e1.1 != (IntKind.i64.wrap (e6.1 + (1:Int)))) (Q false) (N x0 (IntKind.i64.wrap (x3 + (1:Int))))) (N x0 (IntKind.i64.wrap (x3 + (1:Int))))) (N x0 (IntKind.i64.wrap (x3 + (1:Int)))))))) (X ())
def z14.l2 (lp : Nat) : Nat → List Event → Int → Option (LE Bool Unit)
  | 0, _, _ => none
  | k + 1, x0, x3 => z14.b2 lp (z14.l2 lp k) (fun y => some (.brk y)) (fun z => some (.ret z)) x0 x3
def z14.a2 (lp : Nat) (y : Unit) : Option Bool := some true
def z14.q2 (lp : Nat) (z : Bool) : Option Bool := some z
def z14.e (lp : Nat) (L2 : List Event → Int → Option Bool) (x0 : List Event) : Option Bool := L2 x0 (0:Int)
def z14 (lp : Nat) (x0 : List Event) : Option Bool := z14.e lp (fun x0 x3 => obind (z14.l2 lp lp x0 x3) (leF (fun z => z14.q2 lp z) (fun y => z14.a2 lp y))) x0
def z2f.b5 {R : Type} (lp : Nat) (N : ByteArray → Int → List Event → Int → Int → Option R) (X : Unit → Option R) (Q : Bool → Option R) (x1_0 : ByteArray) (x1_1 : Int) (x1_2 : List Event) (x3 : Int) (x4 : Int) : Option R := cond (decide (x4 < x3)) (oget x1_2 x4 fun (e5 : Event) => cond e5.2.2.1 (Q false) (N x1_0 x1_1 x1_2 x3 (IntKind.i64.wrap (x4 + (1:Int))))) (X ())
def z2f.l5 (lp : Nat) : Nat → ByteArray → Int → List Event → Int → Int → Option (LE Bool Unit)
  | 0, _, _, _, _, _ => none
  | k + 1, x1_0, x1_1, x1_2, x3, x4 => z2f.b5 lp (z2f.l5 lp k) (fun y => some (.brk y)) (fun z => some (.ret z)) x1_0 x1_1 x1_2 x3 x4
def z2f.a5 (lp : Nat) (y : Unit) : Option Bool := some true
def z2f.q5 (lp : Nat) (z : Bool) : Option Bool := some z
def z2f.e (lp : Nat) (L5 : ByteArray → Int → List Event → Int → Int → Option Bool) (x0 : Watch) : Option Bool := obind (z0t lp x0.1) fun (t1 : Bool) => cond (!t1) (some false) (obind (z1s x0.2.1 (0:Int) (1000000:Int)) fun (t2 : Bool) => cond (!t2) (some false) (cond (decide ((x0.2.2.1.length : Int) > (4:Int))) (some false) (obind (z14 lp x0.2.2.1) fun (t3 : Bool) => cond (!t3) (some false) (cond (decide ((x0.2.2.1.length : Int) > (0:Int))) (oget x0.2.2.1 (IntKind.i64.wrap ((x0.2.2.1.length : Int) - (1:Int))) fun (e4 : Event) => cond (e4.1 != x0.2.1) (some false) (L5 x0.1 x0.2.1 x0.2.2.1 (x0.2.2.1.length : Int) (1:Int))) (L5 x0.1 x0.2.1 x0.2.2.1 (x0.2.2.1.length : Int) (1:Int))))))
def z2f (lp : Nat) (x0 : Watch) : Option Bool := z2f.e lp (fun x1_0 x1_1 x1_2 x3 x4 => obind (z2f.l5 lp lp x1_0 x1_1 x1_2 x3 x4) (leF (fun z => z2f.q5 lp z) (fun y => z2f.a5 lp y))) x0
def z6b (lp : Nat) (x0 : List Ref) (x1 : ByteArray) : Option Watch := obind (z2h lp x0 x1) fun (t1 : Int) => cond (decide (t1 ≥ (0:Int))) (oget x0 t1 fun (e2 : Ref) => some (x1, e2.2.2.1, ([] : List Event), ())) (some (x1, (0:Int), ([] : List Event), ()))
def z4y (lp : Nat) (x0 : Op) : Option Bool := obind (z0t lp x0.2.2.1) fun (t1 : Bool) => cond (!t1) (some false) (obind (z1s x0.1 (1:Int) (6:Int)) fun (t2 : Bool) => cond (!t2) (some false) (obind (z11 lp x0.2.2.2.2.1) fun (t3 : Bool) => cond (!t3) (some false) (cond (x0.1 != (3:Int)) (cond (decide ((x0.2.2.2.2.1.length : Int) > (0:Int))) (some false) (cond (x0.1 == (5:Int)) (obind (z0t lp x0.2.2.2.1) fun (t4 : Bool) => cond (!t4) (some false) (cond (x0.1 != (5:Int)) (cond (!(x0.2.2.2.1.toList == (⟨#[]⟩ : ByteArray).toList)) (some false) (cond (x0.1 == (1:Int)) (obind (z1s x0.2.1 (1:Int) (60:Int)) fun (t5 : Bool) => some t5) (cond (x0.1 == (4:Int)) (obind (z1s x0.2.1 (1:Int) (60:Int)) fun (t6 : Bool) => some t6) (cond (x0.1 == (3:Int)) (obind (z1s x0.2.1 (0:Int) (60:Int)) fun (t7 : Bool) => some t7) (some (x0.2.1 == (0:Int))))))) (cond (x0.1 == (1:Int)) (obind (z1s x0.2.1 (1:Int) (60:Int)) fun (t8 : Bool) => some t8) (cond (x0.1 == (4:Int)) (obind (z1s x0.2.1 (1:Int) (60:Int)) fun (t9 : Bool) => some t9) (cond (x0.1 == (3:Int)) (obind (z1s x0.2.1 (0:Int) (60:Int)) fun (t10 : Bool) => some t10) (some (x0.2.1 == (0:Int)))))))) (cond (x0.1 != (5:Int)) (cond (!(x0.2.2.2.1.toList == (⟨#[]⟩ : ByteArray).toList)) (some false) (cond (x0.1 == (1:Int)) (obind (z1s x0.2.1 (1:Int) (60:Int)) fun (t11 : Bool) => some t11) (cond (x0.1 == (4:Int)) (obind (z1s x0.2.1 (1:Int) (60:Int)) fun (t12 : Bool) => some t12) (cond (x0.1 == (3:Int)) (obind (z1s x0.2.1 (0:Int) (60:Int)) fun (t13 : Bool) => some t13) (some (x0.2.1 == (0:Int))))))) (cond (x0.1 == (1:Int)) (obind (z1s x0.2.1 (1:Int) (60:Int)) fun (t14 : Bool) => some t14) (cond (x0.1 == (4:Int)) (obind (z1s x0.2.1 (1:Int) (60:Int)) fun (t15 : Bool) => some t15) (cond (x0.1 == (3:Int)) (obind (z1s x0.2.1 (0:Int) (60:Int)) fun (t16 : Bool) => some t16) (some (x0.2.1 == (0:Int))))))))) (cond (x0.1 == (5:Int)) (obind (z0t lp x0.2.2.2.1) fun (t17 : Bool) => cond (!t17) (some false) (cond (x0.1 != (5:Int)) (cond (!(x0.2.2.2.1.toList == (⟨#[]⟩ : ByteArray).toList)) (some false) (cond (x0.1 == (1:Int)) (obind (z1s x0.2.1 (1:Int) (60:Int)) fun (t18 : Bool) => some t18) (cond (x0.1 == (4:Int)) (obind (z1s x0.2.1 (1:Int) (60:Int)) fun (t19 : Bool) => some t19) (cond (x0.1 == (3:Int)) (obind (z1s x0.2.1 (0:Int) (60:Int)) fun (t20 : Bool) => some t20) (some (x0.2.1 == (0:Int))))))) (cond (x0.1 == (1:Int)) (obind (z1s x0.2.1 (1:Int) (60:Int)) fun (t21 : Bool) => some t21) (cond (x0.1 == (4:Int)) (obind (z1s x0.2.1 (1:Int) (60:Int)) fun (t22 : Bool) => some t22) (cond (x0.1 == (3:Int)) (obind (z1s x0.2.1 (0:Int) (60:Int)) fun (t23 : Bool) => some t23) (some (x0.2.1 == (0:Int)))))))) (cond (x0.1 != (5:Int)) (cond (!(x0.2.2.2.1.toList == (⟨#[]⟩ : ByteArray).toList)) (some false) (cond (x0.1 == (1:Int)) (obind (z1s x0.2.1 (1:Int) (60:Int)) fun (t24 : Bool) => some t24) (cond (x0.1 == (4:Int)) (obind (z1s x0.2.1 (1:Int) (60:Int)) fun (t25 : Bool) => some t25) (cond (x0.1 == (3:Int)) (obind (z1s x0.2.1 (0:Int) (60:Int)) fun (t26 : Bool) => some t26) (some (x0.2.1 == (0:Int))))))) (cond (x0.1 == (1:Int)) (obind (z1s x0.2.1 (1:Int) (60:Int)) fun (t27 : Bool) => some t27) (cond (x0.1 == (4:Int)) (obind (z1s x0.2.1 (1:Int) (60:Int)) fun (t28 : Bool) => some t28) (cond (x0.1 == (3:Int)) (obind (z1s x0.2.1 (0:Int) (60:Int)) fun (t29 : Bool) => some t29) (some (x0.2.1 == (0:Int)))))))))))
def z4s (lp : Nat) (x0 : World) (x1 : Moment) : Option Bool := obind (z1s x1.1 (1:Int) (x0.2.1.length : Int)) fun (t1 : Bool) => cond t1 (oget x0.2.1 (IntKind.i64.wrap (x1.1 - (1:Int))) fun (e2 : Client) => obind (z1s x1.2.1 (1:Int) e2.2.1) fun (t3 : Bool) => cond t3 (obind (z1s x1.2.2.1 (1:Int) x0.2.2.2.2.1) fun (t4 : Bool) => cond t4 (cond (x1.2.2.2.1.1 == (0:Int)) (cond (x1.2.2.2.1.2.2.1.toList == (⟨#[]⟩ : ByteArray).toList) (cond (x1.2.2.2.1.2.1 == (0:Int)) (cond (x1.2.2.2.1.2.2.2.1.toList == (⟨#[]⟩ : ByteArray).toList) (cond ((x1.2.2.2.1.2.2.2.2.1.length : Int) == (0:Int)) (obind (z1s x1.2.2.2.2.1.1 (0:Int) (18:Int)) fun (t5 : Bool) => cond t5 (obind (z1s x1.2.2.2.2.1.2.1 (0:Int) (x0.1.1.length : Int)) fun (t6 : Bool) => cond t6 (obind (z1s x1.2.2.2.2.1.2.2.1 (-1000000:Int) (1000000:Int)) fun (t7 : Bool) => cond t7 (cond (decide ((x1.2.2.2.2.1.2.2.2.1.length : Int) ≤ (24:Int))) (obind (z24 lp x1.2.2.2.2.1.2.2.2.2.1) fun (t8 : Bool) => some t8) (some false)) (some false)) (some false)) (some false)) (obind (z4y lp x1.2.2.2.1) fun (t9 : Bool) => cond t9 (obind (z1s x1.2.2.2.2.1.1 (0:Int) (18:Int)) fun (t10 : Bool) => cond t10 (obind (z1s x1.2.2.2.2.1.2.1 (0:Int) (x0.1.1.length : Int)) fun (t11 : Bool) => cond t11 (obind (z1s x1.2.2.2.2.1.2.2.1 (-1000000:Int) (1000000:Int)) fun (t12 : Bool) => cond t12 (cond (decide ((x1.2.2.2.2.1.2.2.2.1.length : Int) ≤ (24:Int))) (obind (z24 lp x1.2.2.2.2.1.2.2.2.2.1) fun (t13 : Bool) => some t13) (some false)) (some false)) (some false)) (some false)) (some false))) (obind (z4y lp x1.2.2.2.1) fun (t14 : Bool) => cond t14 (obind (z1s x1.2.2.2.2.1.1 (0:Int) (18:Int)) fun (t15 : Bool) => cond t15 (obind (z1s x1.2.2.2.2.1.2.1 (0:Int) (x0.1.1.length : Int)) fun (t16 : Bool) => cond t16 (obind (z1s x1.2.2.2.2.1.2.2.1 (-1000000:Int) (1000000:Int)) fun (t17 : Bool) => cond t17 (cond (decide ((x1.2.2.2.2.1.2.2.2.1.length : Int) ≤ (24:Int))) (obind (z24 lp x1.2.2.2.2.1.2.2.2.2.1) fun (t18 : Bool) => some t18) (some false)) (some false)) (some false)) (some false)) (some false))) (obind (z4y lp x1.2.2.2.1) fun (t19 : Bool) => cond t19 (obind (z1s x1.2.2.2.2.1.1 (0:Int) (18:Int)) fun (t20 : Bool) => cond t20 (obind (z1s x1.2.2.2.2.1.2.1 (0:Int) (x0.1.1.length : Int)) fun (t21 : Bool) => cond t21 (obind (z1s x1.2.2.2.2.1.2.2.1 (-1000000:Int) (1000000:Int)) fun (t22 : Bool) => cond t22 (cond (decide ((x1.2.2.2.2.1.2.2.2.1.length : Int) ≤ (24:Int))) (obind (z24 lp x1.2.2.2.2.1.2.2.2.2.1) fun (t23 : Bool) => some t23) (some false)) (some false)) (some false)) (some false)) (some false))) (obind (z4y lp x1.2.2.2.1) fun (t24 : Bool) => cond t24 (obind (z1s x1.2.2.2.2.1.1 (0:Int) (18:Int)) fun (t25 : Bool) => cond t25 (obind (z1s x1.2.2.2.2.1.2.1 (0:Int) (x0.1.1.length : Int)) fun (t26 : Bool) => cond t26 (obind (z1s x1.2.2.2.2.1.2.2.1 (-1000000:Int) (1000000:Int)) fun (t27 : Bool) => cond t27 (cond (decide ((x1.2.2.2.2.1.2.2.2.1.length : Int) ≤ (24:Int))) (obind (z24 lp x1.2.2.2.2.1.2.2.2.2.1) fun (t28 : Bool) => some t28) (some false)) (some false)) (some false)) (some false)) (some false))) (obind (z4y lp x1.2.2.2.1) fun (t29 : Bool) => cond t29 (obind (z1s x1.2.2.2.2.1.1 (0:Int) (18:Int)) fun (t30 : Bool) => cond t30 (obind (z1s x1.2.2.2.2.1.2.1 (0:Int) (x0.1.1.length : Int)) fun (t31 : Bool) => cond t31 (obind (z1s x1.2.2.2.2.1.2.2.1 (-1000000:Int) (1000000:Int)) fun (t32 : Bool) => cond t32 (cond (decide ((x1.2.2.2.2.1.2.2.2.1.length : Int) ≤ (24:Int))) (obind (z24 lp x1.2.2.2.2.1.2.2.2.2.1) fun (t33 : Bool) => some t33) (some false)) (some false)) (some false)) (some false)) (some false))) (some false)) (some false)) (some false)
def z02.b19 {R : Type} (lp : Nat) (N : List Commit → List Ref → List Client → List Watch → List Moment → Int → Int → Option R) (X : Unit → Option R) (Q : Bool → Option R) (x1_0 : List Commit) (x1_1 : List Ref) (x1_2 : List Client) (x1_3 : List Watch) (x1_4 : List Moment) (x1_5 : Int) (x7 : Int) : Option R := cond (decide (x7 < (x1_4.length : Int))) (oget x1_4 x7 fun (e9 : Moment) => obind (z4s lp ((x1_0, x1_1, ()), x1_2, x1_3, x1_4, x1_5, ()) e9) fun (t10 : Bool) => cond (!t10) (Q false) (cond (decide (x7 > (0:Int))) (oget x1_4 x7 fun (e11 : Moment) => oget x1_4 (IntKind.i64.wrap (x7 - (1:Int))) fun (e12 : Moment) => cond (decide (e11.2.2.1 ≤ e12.2.2.1)) (Q false) (N x1_0 x1_1 x1_2 x1_3 x1_4 x1_5 (IntKind.i64.wrap (x7 + (1:Int))))) (N x1_0 x1_1 x1_2 x1_3 x1_4 x1_5 (IntKind.i64.wrap (x7 + (1:Int)))))) (X ())
def z02.l19 (lp : Nat) : Nat → List Commit → List Ref → List Client → List Watch → List Moment → Int → Int → Option (LE Bool Unit)
  | 0, _, _, _, _, _, _, _ => none
  | k + 1, x1_0, x1_1, x1_2, x1_3, x1_4, x1_5, x7 => z02.b19 lp (z02.l19 lp k) (fun y => some (.brk y)) (fun z => some (.ret z)) x1_0 x1_1 x1_2 x1_3 x1_4 x1_5 x7
def z02.b11 {R : Type} (lp : Nat) (N : List Commit → List Ref → List Client → List Watch → List Moment → Int → Int → Int → Option R) (X : ((List Commit) × (List Ref) × (List Client) × (List Watch) × (List Moment) × Int × Int) → Option R) (Q : Bool → Option R) (x1_0 : List Commit) (x1_1 : List Ref) (x1_2 : List Client) (x1_3 : List Watch) (x1_4 : List Moment) (x1_5 : Int) (x3 : Int) (x5 : Int) : Option R := cond (decide (x5 < (x1_3.length : Int))) (oget x1_3 x5 fun (e6 : Watch) => obind (z2f lp e6) fun (t7 : Bool) => cond (!t7) (Q false) (obind (z6b lp x1_1 e6.1) fun (t8 : Watch) => cond (t8.2.1 != e6.2.1) (Q false) (N x1_0 x1_1 x1_2 x1_3 x1_4 x1_5 x3 (IntKind.i64.wrap (x5 + (1:Int)))))) (X (x1_0, x1_1, x1_2, x1_3, x1_4, x1_5, x3))
def z02.l11 (lp : Nat) : Nat → List Commit → List Ref → List Client → List Watch → List Moment → Int → Int → Int → Option (LE Bool ((List Commit) × (List Ref) × (List Client) × (List Watch) × (List Moment) × Int × Int))
  | 0, _, _, _, _, _, _, _, _ => none
  | k + 1, x1_0, x1_1, x1_2, x1_3, x1_4, x1_5, x3, x5 => z02.b11 lp (z02.l11 lp k) (fun y => some (.brk y)) (fun z => some (.ret z)) x1_0 x1_1 x1_2 x1_3 x1_4 x1_5 x3 x5
def z02.b5 {R : Type} (lp : Nat) (N : List Commit → List Ref → List Client → List Watch → List Moment → Int → Int → Int → Option R) (X : ((List Commit) × (List Ref) × (List Client) × (List Watch) × (List Moment) × Int × Int) → Option R) (Q : Bool → Option R) (x1_0 : List Commit) (x1_1 : List Ref) (x1_2 : List Client) (x1_3 : List Watch) (x1_4 : List Moment) (x1_5 : Int) (x3 : Int) (x4 : Int) : Option R := cond (decide (x4 < (x1_2.length : Int))) (oget x1_2 x4 fun (e3 : Client) => obind (z6z lp (x1_0, x1_1, ()) e3) fun (t4 : Bool) => cond (!t4) (Q false) (oget x1_2 x4 fun (e5 : Client) => N x1_0 x1_1 x1_2 x1_3 x1_4 x1_5 (IntKind.i64.wrap (x3 + e5.2.1)) (IntKind.i64.wrap (x4 + (1:Int))))) (X (x1_0, x1_1, x1_2, x1_3, x1_4, x1_5, x3))
def z02.l5 (lp : Nat) : Nat → List Commit → List Ref → List Client → List Watch → List Moment → Int → Int → Int → Option (LE Bool ((List Commit) × (List Ref) × (List Client) × (List Watch) × (List Moment) × Int × Int))
  | 0, _, _, _, _, _, _, _, _ => none
  | k + 1, x1_0, x1_1, x1_2, x1_3, x1_4, x1_5, x3, x4 => z02.b5 lp (z02.l5 lp k) (fun y => some (.brk y)) (fun z => some (.ret z)) x1_0 x1_1 x1_2 x1_3 x1_4 x1_5 x3 x4
def z02.a19 (lp : Nat) (y : Unit) : Option Bool := some true
def z02.q19 (lp : Nat) (z : Bool) : Option Bool := some z
def z02.a11 (lp : Nat) (L19 : List Commit → List Ref → List Client → List Watch → List Moment → Int → Int → Option Bool) (y : (List Commit) × (List Ref) × (List Client) × (List Watch) × (List Moment) × Int × Int) : Option Bool := cond ((y.2.2.2.2.1.length : Int) != y.2.2.2.2.2.2) (some false) (L19 y.1 y.2.1 y.2.2.1 y.2.2.2.1 y.2.2.2.2.1 y.2.2.2.2.2.1 (0:Int))
def z02.q11 (lp : Nat) (z : Bool) : Option Bool := some z
def z02.a5 (lp : Nat) (L11 : List Commit → List Ref → List Client → List Watch → List Moment → Int → Int → Int → Option Bool) (y : (List Commit) × (List Ref) × (List Client) × (List Watch) × (List Moment) × Int × Int) : Option Bool := L11 y.1 y.2.1 y.2.2.1 y.2.2.2.1 y.2.2.2.2.1 y.2.2.2.2.2.1 y.2.2.2.2.2.2 (0:Int)
def z02.q5 (lp : Nat) (z : Bool) : Option Bool := some z
def z02.e (lp : Nat) (L5 : List Commit → List Ref → List Client → List Watch → List Moment → Int → Int → Int → Option Bool) (x0 : World) : Option Bool := obind (z2o lp x0.1) fun (t1 : Bool) => cond (!t1) (some false) (cond (decide ((x0.2.1.length : Int) > (5:Int))) (some false) (cond (decide ((x0.2.2.1.length : Int) > (3:Int))) (some false) (obind (z1s x0.2.2.2.2.1 (0:Int) (1000000:Int)) fun (t2 : Bool) => cond (!t2) (some false) (L5 x0.1.1 x0.1.2.1 x0.2.1 x0.2.2.1 x0.2.2.2.1 x0.2.2.2.2.1 (0:Int) (0:Int)))))
def z02 (lp : Nat) (x0 : World) : Option Bool := z02.e lp (fun x1_0 x1_1 x1_2 x1_3 x1_4 x1_5 x3 x4 => obind (z02.l5 lp lp x1_0 x1_1 x1_2 x1_3 x1_4 x1_5 x3 x4) (leF (fun z => z02.q5 lp z) (fun y => z02.a5 lp (fun x1_0 x1_1 x1_2 x1_3 x1_4 x1_5 x3 x5 => obind (z02.l11 lp lp x1_0 x1_1 x1_2 x1_3 x1_4 x1_5 x3 x5) (leF (fun z => z02.q11 lp z) (fun y => z02.a11 lp (fun x1_0 x1_1 x1_2 x1_3 x1_4 x1_5 x7 => obind (z02.l19 lp lp x1_0 x1_1 x1_2 x1_3 x1_4 x1_5 x7) (leF (fun z => z02.q19 lp z) (fun y => z02.a19 lp y))) y))) y))) x0
def z20.b4 {R : Type} (lp : Nat) (N : List Int → List Int → Int → Option R) (X : Unit → Option R) (Q : Bool → Option R) (x0 : List Int) (x1 : List Int) (x5 : Int) : Option R := cond (decide (x5 < (x0.length : Int))) (oget x0 x5 fun (e1 : Int) => oget x1 x5 fun (e2 : Int) => cond (e1 != e2) (Q false) (N x0 x1 (IntKind.i64.wrap (x5 + (1:Int))))) (X ())
def z20.l4 (lp : Nat) : Nat → List Int → List Int → Int → Option (LE Bool Unit)
  | 0, _, _, _ => none
  | k + 1, x0, x1, x5 => z20.b4 lp (z20.l4 lp k) (fun y => some (.brk y)) (fun z => some (.ret z)) x0 x1 x5
def z20.a4 (lp : Nat) (y : Unit) : Option Bool := some true
def z20.q4 (lp : Nat) (z : Bool) : Option Bool := some z
def z20.e (lp : Nat) (L4 : List Int → List Int → Int → Option Bool) (x0 : List Int) (x1 : List Int) : Option Bool := cond ((x0.length : Int) != (x1.length : Int)) (some false) (L4 x0 x1 (0:Int))
def z20 (lp : Nat) (x0 : List Int) (x1 : List Int) : Option Bool := z20.e lp (fun x0 x1 x5 => obind (z20.l4 lp lp x0 x1 x5) (leF (fun z => z20.q4 lp z) (fun y => z20.a4 lp y))) x0 x1
def z3l (lp : Nat) (x0 : Commit) (x1 : Commit) : Option Bool := obind (z20 lp x0.1 x1.1) fun (t1 : Bool) => cond t1 (obind (z17 lp x0.2.1 x1.2.1) fun (t2 : Bool) => some t2) (some false)
def z1z.b4 {R : Type} (lp : Nat) (N : List Commit → List Commit → Int → Option R) (X : Unit → Option R) (Q : Bool → Option R) (x0 : List Commit) (x1 : List Commit) (x5 : Int) : Option R := cond (decide (x5 < (x0.length : Int))) (oget x0 x5 fun (e1 : Commit) => oget x1 x5 fun (e2 : Commit) => obind (z3l lp e1 e2) fun (t3 : Bool) => cond (!t3) (Q false) (N x0 x1 (IntKind.i64.wrap (x5 + (1:Int))))) (X ())
def z1z.l4 (lp : Nat) : Nat → List Commit → List Commit → Int → Option (LE Bool Unit)
  | 0, _, _, _ => none
  | k + 1, x0, x1, x5 => z1z.b4 lp (z1z.l4 lp k) (fun y => some (.brk y)) (fun z => some (.ret z)) x0 x1 x5
def z1z.a4 (lp : Nat) (y : Unit) : Option Bool := some true
def z1z.q4 (lp : Nat) (z : Bool) : Option Bool := some z
def z1z.e (lp : Nat) (L4 : List Commit → List Commit → Int → Option Bool) (x0 : List Commit) (x1 : List Commit) : Option Bool := cond ((x0.length : Int) != (x1.length : Int)) (some false) (L4 x0 x1 (0:Int))
def z1z (lp : Nat) (x0 : List Commit) (x1 : List Commit) : Option Bool := z1z.e lp (fun x0 x1 x5 => obind (z1z.l4 lp lp x0 x1 x5) (leF (fun z => z1z.q4 lp z) (fun y => z1z.a4 lp y))) x0 x1
def z0o.b4 {R : Type} (lp : Nat) (N : List Ref → List Ref → Int → Option R) (X : Unit → Option R) (Q : Bool → Option R) (x0 : List Ref) (x1 : List Ref) (x5 : Int) : Option R := cond (decide (x5 < (x0.length : Int))) (oget x0 x5 fun (e1 : Ref) => oget x1 x5 fun (e2 : Ref) => cond (!((e1.1 == e2.1) && ((e1.2.1 == e2.2.1) && ((e1.2.2.1 == e2.2.2.1) && (e1.2.2.2.1 == e2.2.2.2.1))))) (Q false) (N x0 x1 (IntKind.i64.wrap (x5 + (1:Int))))) (X ())
def z0o.l4 (lp : Nat) : Nat → List Ref → List Ref → Int → Option (LE Bool Unit)
  | 0, _, _, _ => none
  | k + 1, x0, x1, x5 => z0o.b4 lp (z0o.l4 lp k) (fun y => some (.brk y)) (fun z => some (.ret z)) x0 x1 x5
def z0o.a4 (lp : Nat) (y : Unit) : Option Bool := some true
def z0o.q4 (lp : Nat) (z : Bool) : Option Bool := some z
def z0o.e (lp : Nat) (L4 : List Ref → List Ref → Int → Option Bool) (x0 : List Ref) (x1 : List Ref) : Option Bool := cond ((x0.length : Int) != (x1.length : Int)) (some false) (L4 x0 x1 (0:Int))
def z0o (lp : Nat) (x0 : List Ref) (x1 : List Ref) : Option Bool := z0o.e lp (fun x0 x1 x5 => obind (z0o.l4 lp lp x0 x1 x5) (leF (fun z => z0o.q4 lp z) (fun y => z0o.a4 lp y))) x0 x1
def z5z (lp : Nat) (x0 : Base) (x1 : Base) : Option Bool := obind (z1z lp x0.1 x1.1) fun (t1 : Bool) => cond t1 (obind (z0o lp x0.2.1 x1.2.1) fun (t2 : Bool) => some t2) (some false)
def z0l.b4 {R : Type} (lp : Nat) (N : List Edit → List Edit → Int → Option R) (X : Unit → Option R) (Q : Bool → Option R) (x0 : List Edit) (x1 : List Edit) (x5 : Int) : Option R := cond (decide (x5 < (x0.length : Int))) (oget x0 x5 fun (e1 : Edit) => oget x1 x5 fun (e2 : Edit) => cond (!((e1.1 == e2.1) && ((e1.2.1 == e2.2.1) && (e1.2.2.1 == e2.2.2.1)))) (Q false) (N x0 x1 (IntKind.i64.wrap (x5 + (1:Int))))) (X ())
def z0l.l4 (lp : Nat) : Nat → List Edit → List Edit → Int → Option (LE Bool Unit)
  | 0, _, _, _ => none
  | k + 1, x0, x1, x5 => z0l.b4 lp (z0l.l4 lp k) (fun y => some (.brk y)) (fun z => some (.ret z)) x0 x1 x5
def z0l.a4 (lp : Nat) (y : Unit) : Option Bool := some true
def z0l.q4 (lp : Nat) (z : Bool) : Option Bool := some z
def z0l.e (lp : Nat) (L4 : List Edit → List Edit → Int → Option Bool) (x0 : List Edit) (x1 : List Edit) : Option Bool := cond ((x0.length : Int) != (x1.length : Int)) (some false) (L4 x0 x1 (0:Int))
def z0l (lp : Nat) (x0 : List Edit) (x1 : List Edit) : Option Bool := z0l.e lp (fun x0 x1 x5 => obind (z0l.l4 lp lp x0 x1 x5) (leF (fun z => z0l.q4 lp z) (fun y => z0l.a4 lp y))) x0 x1
def z1y.b4 {R : Type} (lp : Nat) (N : List Wish → Int → Int → Int → Int → Int → Int → Int → List Entry → List Wish → Int → Int → Int → Int → Int → Int → Int → List Entry → Int → Option R) (X : Unit → Option R) (Q : Bool → Option R) (x2_0 : List Wish) (x2_1 : Int) (x2_2 : Int) (x2_3 : Int) (x2_4 : Int) (x2_5 : Int) (x2_6 : Int) (x2_7 : Int) (x2_8 : List Entry) (x3_0 : List Wish) (x3_1 : Int) (x3_2 : Int) (x3_3 : Int) (x3_4 : Int) (x3_5 : Int) (x3_6 : Int) (x3_7 : Int) (x3_8 : List Entry) (x5 : Int) : Option R := cond (decide (x5 < (x2_0.length : Int))) (oget x2_0 x5 fun (e2 : Wish) => oget x3_0 x5 fun (e3 : Wish) => cond (e2.1 != e3.1) (Q false) (cond (!(e2.2.1.toList == e3.2.1.toList)) (Q false) (cond (!(e2.2.2.1.toList == e3.2.2.1.toList)) (Q false) (cond (!(e2.2.2.2.1.toList == e3.2.2.2.1.toList)) (Q false) (obind (z0l lp e2.2.2.2.2.1 e3.2.2.2.2.1) fun (t4 : Bool) => cond (!t4) (Q false) (N x2_0 x2_1 x2_2 x2_3 x2_4 x2_5 x2_6 x2_7 x2_8 x3_0 x3_1 x3_2 x3_3 x3_4 x3_5 x3_6 x3_7 x3_8 (IntKind.i64.wrap (x5 + (1:Int))))))))) (X ())
def z1y.l4 (lp : Nat) : Nat → List Wish → Int → Int → Int → Int → Int → Int → Int → List Entry → List Wish → Int → Int → Int → Int → Int → Int → Int → List Entry → Int → Option (LE Bool Unit)
  | 0, _, _, _, _, _, _, _, _, _, _, _, _, _, _, _, _, _, _, _ => none
  | k + 1, x2_0, x2_1, x2_2, x2_3, x2_4, x2_5, x2_6, x2_7, x2_8, x3_0, x3_1, x3_2, x3_3, x3_4, x3_5, x3_6, x3_7, x3_8, x5 => z1y.b4 lp (z1y.l4 lp k) (fun y => some (.brk y)) (fun z => some (.ret z)) x2_0 x2_1 x2_2 x2_3 x2_4 x2_5 x2_6 x2_7 x2_8 x3_0 x3_1 x3_2 x3_3 x3_4 x3_5 x3_6 x3_7 x3_8 x5
def z1y.a4 (lp : Nat) (y : Unit) : Option Bool := some true
def z1y.q4 (lp : Nat) (z : Bool) : Option Bool := some z
def z1y.e (lp : Nat) (L4 : List Wish → Int → Int → Int → Int → Int → Int → Int → List Entry → List Wish → Int → Int → Int → Int → Int → Int → Int → List Entry → Int → Option Bool) (x0 : Client) (x1 : Client) : Option Bool := cond ((x0.1.length : Int) != (x1.1.length : Int)) (some false) (cond (x0.2.1 != x1.2.1) (some false) (cond (x0.2.2.1 != x1.2.2.1) (some false) (cond (x0.2.2.2.1 != x1.2.2.2.1) (some false) (cond (x0.2.2.2.2.1 != x1.2.2.2.2.1) (some false) (cond (x0.2.2.2.2.2.1 != x1.2.2.2.2.2.1) (some false) (cond (x0.2.2.2.2.2.2.1 != x1.2.2.2.2.2.2.1) (some false) (cond (x0.2.2.2.2.2.2.2.1 != x1.2.2.2.2.2.2.2.1) (some false) (obind (z17 lp x0.2.2.2.2.2.2.2.2.1 x1.2.2.2.2.2.2.2.2.1) fun (t1 : Bool) => cond (!t1) (some false) (L4 x0.1 x0.2.1 x0.2.2.1 x0.2.2.2.1 x0.2.2.2.2.1 x0.2.2.2.2.2.1 x0.2.2.2.2.2.2.1 x0.2.2.2.2.2.2.2.1 x0.2.2.2.2.2.2.2.2.1 x1.1 x1.2.1 x1.2.2.1 x1.2.2.2.1 x1.2.2.2.2.1 x1.2.2.2.2.2.1 x1.2.2.2.2.2.2.1 x1.2.2.2.2.2.2.2.1 x1.2.2.2.2.2.2.2.2.1 (0:Int))))))))))
def z1y (lp : Nat) (x0 : Client) (x1 : Client) : Option Bool := z1y.e lp (fun x2_0 x2_1 x2_2 x2_3 x2_4 x2_5 x2_6 x2_7 x2_8 x3_0 x3_1 x3_2 x3_3 x3_4 x3_5 x3_6 x3_7 x3_8 x5 => obind (z1y.l4 lp lp x2_0 x2_1 x2_2 x2_3 x2_4 x2_5 x2_6 x2_7 x2_8 x3_0 x3_1 x3_2 x3_3 x3_4 x3_5 x3_6 x3_7 x3_8 x5) (leF (fun z => z1y.q4 lp z) (fun y => z1y.a4 lp y))) x0 x1
def z1w.b4 {R : Type} (lp : Nat) (N : ByteArray → Int → List Event → ByteArray → Int → List Event → Int → Option R) (X : Unit → Option R) (Q : Bool → Option R) (x2_0 : ByteArray) (x2_1 : Int) (x2_2 : List Event) (x3_0 : ByteArray) (x3_1 : Int) (x3_2 : List Event) (x5 : Int) : Option R := cond (decide (x5 < (x2_2.length : Int))) (oget x2_2 x5 fun (e1 : Event) => oget x3_2 x5 fun (e2 : Event) => cond (!((e1.1 == e2.1) && ((e1.2.1 == e2.2.1) && (e1.2.2.1 == e2.2.2.1)))) (Q false) (N x2_0 x2_1 x2_2 x3_0 x3_1 x3_2 (IntKind.i64.wrap (x5 + (1:Int))))) (X ())
def z1w.l4 (lp : Nat) : Nat → ByteArray → Int → List Event → ByteArray → Int → List Event → Int → Option (LE Bool Unit)
  | 0, _, _, _, _, _, _, _ => none
  | k + 1, x2_0, x2_1, x2_2, x3_0, x3_1, x3_2, x5 => z1w.b4 lp (z1w.l4 lp k) (fun y => some (.brk y)) (fun z => some (.ret z)) x2_0 x2_1 x2_2 x3_0 x3_1 x3_2 x5
def z1w.a4 (lp : Nat) (y : Unit) : Option Bool := some true
def z1w.q4 (lp : Nat) (z : Bool) : Option Bool := some z
def z1w.e (lp : Nat) (L4 : ByteArray → Int → List Event → ByteArray → Int → List Event → Int → Option Bool) (x0 : Watch) (x1 : Watch) : Option Bool := cond (!(x0.1.toList == x1.1.toList)) (some false) (cond (x0.2.1 != x1.2.1) (some false) (cond ((x0.2.2.1.length : Int) != (x1.2.2.1.length : Int)) (some false) (L4 x0.1 x0.2.1 x0.2.2.1 x1.1 x1.2.1 x1.2.2.1 (0:Int))))
def z1w (lp : Nat) (x0 : Watch) (x1 : Watch) : Option Bool := z1w.e lp (fun x2_0 x2_1 x2_2 x3_0 x3_1 x3_2 x5 => obind (z1w.l4 lp lp x2_0 x2_1 x2_2 x3_0 x3_1 x3_2 x5) (leF (fun z => z1w.q4 lp z) (fun y => z1w.a4 lp y))) x0 x1
def z0m.b4 {R : Type} (lp : Nat) (N : List ByteArray → List ByteArray → Int → Option R) (X : Unit → Option R) (Q : Bool → Option R) (x0 : List ByteArray) (x1 : List ByteArray) (x5 : Int) : Option R := cond (decide (x5 < (x0.length : Int))) (oget x0 x5 fun (e1 : ByteArray) => oget x1 x5 fun (e2 : ByteArray) => cond (!(e1.toList == e2.toList)) (Q false) (N x0 x1 (IntKind.i64.wrap (x5 + (1:Int))))) (X ())
def z0m.l4 (lp : Nat) : Nat → List ByteArray → List ByteArray → Int → Option (LE Bool Unit)
  | 0, _, _, _ => none
  | k + 1, x0, x1, x5 => z0m.b4 lp (z0m.l4 lp k) (fun y => some (.brk y)) (fun z => some (.ret z)) x0 x1 x5
def z0m.a4 (lp : Nat) (y : Unit) : Option Bool := some true
def z0m.q4 (lp : Nat) (z : Bool) : Option Bool := some z
def z0m.e (lp : Nat) (L4 : List ByteArray → List ByteArray → Int → Option Bool) (x0 : List ByteArray) (x1 : List ByteArray) : Option Bool := cond ((x0.length : Int) != (x1.length : Int)) (some false) (L4 x0 x1 (0:Int))
def z0m (lp : Nat) (x0 : List ByteArray) (x1 : List ByteArray) : Option Bool := z0m.e lp (fun x0 x1 x5 => obind (z0m.l4 lp lp x0 x1 x5) (leF (fun z => z0m.q4 lp z) (fun y => z0m.a4 lp y))) x0 x1
def z4b (lp : Nat) (x0 : Result) (x1 : Result) : Option Bool := cond (decide ((x0.2.2.2.1.length : Int) ≤ (24:Int))) (obind (z24 lp x0.2.2.2.2.1) fun (t1 : Bool) => cond t1 (cond (x0.1 == x1.1) (cond (x0.2.1 == x1.2.1) (cond (x0.2.2.1 == x1.2.2.1) (obind (z0m lp x0.2.2.2.1 x1.2.2.2.1) fun (t2 : Bool) => cond t2 (obind (z17 lp x0.2.2.2.2.1 x1.2.2.2.2.1) fun (t3 : Bool) => some t3) (some false)) (some false)) (some false)) (some false)) (some false)) (some false)
def z3i (lp : Nat) (x0 : Moment) (x1 : Moment) : Option Bool := cond (x0.1 == x1.1) (cond (x0.2.1 == x1.2.1) (cond (x0.2.2.1 == x1.2.2.1) (cond (x0.2.2.2.1.1 == x1.2.2.2.1.1) (cond (x0.2.2.2.1.2.1 == x1.2.2.2.1.2.1) (cond (x0.2.2.2.1.2.2.1.toList == x1.2.2.2.1.2.2.1.toList) (cond (x0.2.2.2.1.2.2.2.1.toList == x1.2.2.2.1.2.2.2.1.toList) (obind (z0l lp x0.2.2.2.1.2.2.2.2.1 x1.2.2.2.1.2.2.2.2.1) fun (t1 : Bool) => cond t1 (obind (z4b lp x0.2.2.2.2.1 x1.2.2.2.2.1) fun (t2 : Bool) => some t2) (some false)) (some false)) (some false)) (some false)) (some false)) (some false)) (some false)) (some false)
def z00.b14 {R : Type} (lp : Nat) (N : List Commit → List Ref → List Client → List Watch → List Moment → Int → List Commit → List Ref → List Client → List Watch → List Moment → Int → Int → Option R) (X : Unit → Option R) (Q : Bool → Option R) (x2_0 : List Commit) (x2_1 : List Ref) (x2_2 : List Client) (x2_3 : List Watch) (x2_4 : List Moment) (x2_5 : Int) (x3_0 : List Commit) (x3_1 : List Ref) (x3_2 : List Client) (x3_3 : List Watch) (x3_4 : List Moment) (x3_5 : Int) (x7 : Int) : Option R := cond (decide (x7 < (x2_4.length : Int))) (oget x2_4 x7 fun (e8 : Moment) => oget x3_4 x7 fun (e9 : Moment) => obind (z3i lp e8 e9) fun (t10 : Bool) => cond (!t10) (Q false) (N x2_0 x2_1 x2_2 x2_3 x2_4 x2_5 x3_0 x3_1 x3_2 x3_3 x3_4 x3_5 (IntKind.i64.wrap (x7 + (1:Int))))) (X ())
def z00.l14 (lp : Nat) : Nat → List Commit → List Ref → List Client → List Watch → List Moment → Int → List Commit → List Ref → List Client → List Watch → List Moment → Int → Int → Option (LE Bool Unit)
  | 0, _, _, _, _, _, _, _, _, _, _, _, _, _ => none
  | k + 1, x2_0, x2_1, x2_2, x2_3, x2_4, x2_5, x3_0, x3_1, x3_2, x3_3, x3_4, x3_5, x7 => z00.b14 lp (z00.l14 lp k) (fun y => some (.brk y)) (fun z => some (.ret z)) x2_0 x2_1 x2_2 x2_3 x2_4 x2_5 x3_0 x3_1 x3_2 x3_3 x3_4 x3_5 x7
def z00.b9 {R : Type} (lp : Nat) (N : List Commit → List Ref → List Client → List Watch → List Moment → Int → List Commit → List Ref → List Client → List Watch → List Moment → Int → Int → Option R) (X : ((List Commit) × (List Ref) × (List Client) × (List Watch) × (List Moment) × Int × (List Commit) × (List Ref) × (List Client) × (List Watch) × (List Moment) × Int) → Option R) (Q : Bool → Option R) (x2_0 : List Commit) (x2_1 : List Ref) (x2_2 : List Client) (x2_3 : List Watch) (x2_4 : List Moment) (x2_5 : Int) (x3_0 : List Commit) (x3_1 : List Ref) (x3_2 : List Client) (x3_3 : List Watch) (x3_4 : List Moment) (x3_5 : Int) (x6 : Int) : Option R := cond (decide (x6 < (x2_3.length : Int))) (oget x2_3 x6 fun (e5 : Watch) => oget x3_3 x6 fun (e6 : Watch) => obind (z1w lp e5 e6) fun (t7 : Bool) => cond (!t7) (Q false) (N x2_0 x2_1 x2_2 x2_3 x2_4 x2_5 x3_0 x3_1 x3_2 x3_3 x3_4 x3_5 (IntKind.i64.wrap (x6 + (1:Int))))) (X (x2_0, x2_1, x2_2, x2_3, x2_4, x2_5, x3_0, x3_1, x3_2, x3_3, x3_4, x3_5))
def z00.l9 (lp : Nat) : Nat → List Commit → List Ref → List Client → List Watch → List Moment → Int → List Commit → List Ref → List Client → List Watch → List Moment → Int → Int → Option (LE Bool ((List Commit) × (List Ref) × (List Client) × (List Watch) × (List Moment) × Int × (List Commit) × (List Ref) × (List Client) × (List Watch) × (List Moment) × Int))
  | 0, _, _, _, _, _, _, _, _, _, _, _, _, _ => none
  | k + 1, x2_0, x2_1, x2_2, x2_3, x2_4, x2_5, x3_0, x3_1, x3_2, x3_3, x3_4, x3_5, x6 => z00.b9 lp (z00.l9 lp k) (fun y => some (.brk y)) (fun z => some (.ret z)) x2_0 x2_1 x2_2 x2_3 x2_4 x2_5 x3_0 x3_1 x3_2 x3_3 x3_4 x3_5 x6
def z00.b4 {R : Type} (lp : Nat) (N : List Commit → List Ref → List Client → List Watch → List Moment → Int → List Commit → List Ref → List Client → List Watch → List Moment → Int → Int → Option R) (X : ((List Commit) × (List Ref) × (List Client) × (List Watch) × (List Moment) × Int × (List Commit) × (List Ref) × (List Client) × (List Watch) × (List Moment) × Int) → Option R) (Q : Bool → Option R) (x2_0 : List Commit) (x2_1 : List Ref) (x2_2 : List Client) (x2_3 : List Watch) (x2_4 : List Moment) (x2_5 : Int) (x3_0 : List Commit) (x3_1 : List Ref) (x3_2 : List Client) (x3_3 : List Watch) (x3_4 : List Moment) (x3_5 : Int) (x5 : Int) : Option R := cond (decide (x5 < (x2_2.length : Int))) (oget x2_2 x5 fun (e2 : Client) => oget x3_2 x5 fun (e3 : Client) => obind (z1y lp e2 e3) fun (t4 : Bool) => cond (!t4) (Q false) (N x2_0 x2_1 x2_2 x2_3 x2_4 x2_5 x3_0 x3_1 x3_2 x3_3 x3_4 x3_5 (IntKind.i64.wrap (x5 + (1:Int))))) (X (x2_0, x2_1, x2_2, x2_3, x2_4, x2_5, x3_0, x3_1, x3_2, x3_3, x3_4, x3_5))
def z00.l4 (lp : Nat) : Nat → List Commit → List Ref → List Client → List Watch → List Moment → Int → List Commit → List Ref → List Client → List Watch → List Moment → Int → Int → Option (LE Bool ((List Commit) × (List Ref) × (List Client) × (List Watch) × (List Moment) × Int × (List Commit) × (List Ref) × (List Client) × (List Watch) × (List Moment) × Int))
  | 0, _, _, _, _, _, _, _, _, _, _, _, _, _ => none
  | k + 1, x2_0, x2_1, x2_2, x2_3, x2_4, x2_5, x3_0, x3_1, x3_2, x3_3, x3_4, x3_5, x5 => z00.b4 lp (z00.l4 lp k) (fun y => some (.brk y)) (fun z => some (.ret z)) x2_0 x2_1 x2_2 x2_3 x2_4 x2_5 x3_0 x3_1 x3_2 x3_3 x3_4 x3_5 x5
def z00.a14 (lp : Nat) (y : Unit) : Option Bool := some true
def z00.q14 (lp : Nat) (z : Bool) : Option Bool := some z
def z00.a9 (lp : Nat) (L14 : List Commit → List Ref → List Client → List Watch → List Moment → Int → List Commit → List Ref → List Client → List Watch → List Moment → Int → Int → Option Bool) (y : (List Commit) × (List Ref) × (List Client) × (List Watch) × (List Moment) × Int × (List Commit) × (List Ref) × (List Client) × (List Watch) × (List Moment) × Int) : Option Bool := L14 y.1 y.2.1 y.2.2.1 y.2.2.2.1 y.2.2.2.2.1 y.2.2.2.2.2.1 y.2.2.2.2.2.2.1 y.2.2.2.2.2.2.2.1 y.2.2.2.2.2.2.2.2.1 y.2.2.2.2.2.2.2.2.2.1 y.2.2.2.2.2.2.2.2.2.2.1 y.2.2.2.2.2.2.2.2.2.2.2 (0:Int)
def z00.q9 (lp : Nat) (z : Bool) : Option Bool := some z
def z00.a4 (lp : Nat) (L9 : List Commit → List Ref → List Client → List Watch → List Moment → Int → List Commit → List Ref → List Client → List Watch → List Moment → Int → Int → Option Bool) (y : (List Commit) × (List Ref) × (List Client) × (List Watch) × (List Moment) × Int × (List Commit) × (List Ref) × (List Client) × (List Watch) × (List Moment) × Int) : Option Bool := L9 y.1 y.2.1 y.2.2.1 y.2.2.2.1 y.2.2.2.2.1 y.2.2.2.2.2.1 y.2.2.2.2.2.2.1 y.2.2.2.2.2.2.2.1 y.2.2.2.2.2.2.2.2.1 y.2.2.2.2.2.2.2.2.2.1 y.2.2.2.2.2.2.2.2.2.2.1 y.2.2.2.2.2.2.2.2.2.2.2 (0:Int)
def z00.q4 (lp : Nat) (z : Bool) : Option Bool := some z
def z00.e (lp : Nat) (L4 : List Commit → List Ref → List Client → List Watch → List Moment → Int → List Commit → List Ref → List Client → List Watch → List Moment → Int → Int → Option Bool) (x0 : World) (x1 : World) : Option Bool := obind (z5z lp x0.1 x1.1) fun (t1 : Bool) => cond (!t1) (some false) (cond ((x0.2.1.length : Int) != (x1.2.1.length : Int)) (some false) (cond ((x0.2.2.1.length : Int) != (x1.2.2.1.length : Int)) (some false) (cond ((x0.2.2.2.1.length : Int) != (x1.2.2.2.1.length : Int)) (some false) (cond (x0.2.2.2.2.1 != x1.2.2.2.2.1) (some false) (L4 x0.1.1 x0.1.2.1 x0.2.1 x0.2.2.1 x0.2.2.2.1 x0.2.2.2.2.1 x1.1.1 x1.1.2.1 x1.2.1 x1.2.2.1 x1.2.2.2.1 x1.2.2.2.2.1 (0:Int))))))
def z00 (lp : Nat) (x0 : World) (x1 : World) : Option Bool := z00.e lp (fun x2_0 x2_1 x2_2 x2_3 x2_4 x2_5 x3_0 x3_1 x3_2 x3_3 x3_4 x3_5 x5 => obind (z00.l4 lp lp x2_0 x2_1 x2_2 x2_3 x2_4 x2_5 x3_0 x3_1 x3_2 x3_3 x3_4 x3_5 x5) (leF (fun z => z00.q4 lp z) (fun y => z00.a4 lp (fun x2_0 x2_1 x2_2 x2_3 x2_4 x2_5 x3_0 x3_1 x3_2 x3_3 x3_4 x3_5 x6 => obind (z00.l9 lp lp x2_0 x2_1 x2_2 x2_3 x2_4 x2_5 x3_0 x3_1 x3_2 x3_3 x3_4 x3_5 x6) (leF (fun z => z00.q9 lp z) (fun y => z00.a9 lp (fun x2_0 x2_1 x2_2 x2_3 x2_4 x2_5 x3_0 x3_1 x3_2 x3_3 x3_4 x3_5 x7 => obind (z00.l14 lp lp x2_0 x2_1 x2_2 x2_3 x2_4 x2_5 x3_0 x3_1 x3_2 x3_3 x3_4 x3_5 x7) (leF (fun z => z00.q14 lp z) (fun y => z00.a14 lp y))) y))) y))) x0 x1
def z4p (lp : Nat) (x0 : World) (x1 : World) : Option Bool := obind (z02 lp x0) fun (t1 : Bool) => cond t1 (obind (z02 lp x1) fun (t2 : Bool) => cond t2 (obind (z00 lp x0 x1) fun (t3 : Bool) => some t3) (some false)) (some false)
def z5w (x0 : Entry) : Option Entry := some x0
def z1l.b3 {R : Type} (lp : Nat) (N : List Entry → Int → List Entry → Option R) (X : ((List Entry)) → Option R) (Q : Empty → Option R) (x0 : List Entry) (x4 : Int) (xo7 : List Entry) : Option R := cond (decide (x4 < (x0.length : Int))) (oget x0 x4 fun (e1 : Entry) => obind (z5w e1) fun (t2 : Entry) => oif (decide ((0:Int) ≤ x4)) (oif (decide (x4 < (xo7.length : Int))) (oget xo7 (x4.toNat : Int) fun (e3 : Entry) => N x0 (IntKind.i64.wrap (x4 + (1:Int))) (xo7.set x4.toNat t2)))) (X xo7)
def z1l.l3 (lp : Nat) : Nat → List Entry → Int → List Entry → Option (LE Empty ((List Entry)))
  | 0, _, _, _ => none
  | k + 1, x0, x4, xo7 => z1l.b3 lp (z1l.l3 lp k) (fun y => some (.brk y)) (fun z => some (.ret z)) x0 x4 xo7
def z1l.a3 (lp : Nat) (y : (List Entry)) : Option ((List Entry)) := some y
def z1l.e (lp : Nat) (L3 : List Entry → Int → List Entry → Option ((List Entry))) (x0 : List Entry) : Option ((List Entry)) := oif (decide ((0:Int) ≤ (x0.length : Int))) (oif (decide ((x0.length : Int).toNat * 24 ≤ 140737488355328)) (L3 x0 (0:Int) (List.replicate (x0.length : Int).toNat (((⟨#[]⟩ : ByteArray), ((0:Int), ())) : Entry))))
def z1l (lp : Nat) (x0 : List Entry) : Option ((List Entry)) := z1l.e lp (fun x0 x4 xo7 => obind (z1l.l3 lp lp x0 x4 xo7) (leF (fun z => z.elim) (fun y => z1l.a3 lp y))) x0
def z2l.b3 {R : Type} (lp : Nat) (N : List Int → Int → List Int → Option R) (X : ((List Int)) → Option R) (Q : Empty → Option R) (x0 : List Int) (x4 : Int) (xo7 : List Int) : Option R := cond (decide (x4 < (x0.length : Int))) (oget x0 x4 fun (e1 : Int) => oif (decide ((0:Int) ≤ x4)) (oif (decide (x4 < (xo7.length : Int))) (oget xo7 (x4.toNat : Int) fun (e2 : Int) => N x0 (IntKind.i64.wrap (x4 + (1:Int))) (xo7.set x4.toNat e1)))) (X xo7)
def z2l.l3 (lp : Nat) : Nat → List Int → Int → List Int → Option (LE Empty ((List Int)))
  | 0, _, _, _ => none
  | k + 1, x0, x4, xo7 => z2l.b3 lp (z2l.l3 lp k) (fun y => some (.brk y)) (fun z => some (.ret z)) x0 x4 xo7
def z2l.a3 (lp : Nat) (y : (List Int)) : Option ((List Int)) := some y
def z2l.e (lp : Nat) (L3 : List Int → Int → List Int → Option ((List Int))) (x0 : List Int) : Option ((List Int)) := oif (decide ((0:Int) ≤ (x0.length : Int))) (oif (decide ((x0.length : Int).toNat * 8 ≤ 140737488355328)) (L3 x0 (0:Int) (List.replicate (x0.length : Int).toNat ((0:Int) : Int))))
def z2l (lp : Nat) (x0 : List Int) : Option ((List Int)) := z2l.e lp (fun x0 x4 xo7 => obind (z2l.l3 lp lp x0 x4 xo7) (leF (fun z => z.elim) (fun y => z2l.a3 lp y))) x0
def z58 (lp : Nat) (x0 : Commit) : Option Commit := obind (z2l lp x0.1) fun (t1 : (List Int)) => obind (z1l lp x0.2.1) fun (t2 : (List Entry)) => some (t1, t2, ())
def z1h.b3 {R : Type} (lp : Nat) (N : List Commit → Int → List Commit → Option R) (X : ((List Commit)) → Option R) (Q : Empty → Option R) (x0 : List Commit) (x4 : Int) (xo7 : List Commit) : Option R := cond (decide (x4 < (x0.length : Int))) (oget x0 x4 fun (e1 : Commit) => obind (z58 lp e1) fun (t2 : Commit) => oif (decide ((0:Int) ≤ x4)) (oif (decide (x4 < (xo7.length : Int))) (oget xo7 (x4.toNat : Int) fun (e3 : Commit) => N x0 (IntKind.i64.wrap (x4 + (1:Int))) (xo7.set x4.toNat t2)))) (X xo7)
def z1h.l3 (lp : Nat) : Nat → List Commit → Int → List Commit → Option (LE Empty ((List Commit)))
  | 0, _, _, _ => none
  | k + 1, x0, x4, xo7 => z1h.b3 lp (z1h.l3 lp k) (fun y => some (.brk y)) (fun z => some (.ret z)) x0 x4 xo7
def z1h.a3 (lp : Nat) (y : (List Commit)) : Option ((List Commit)) := some y
def z1h.e (lp : Nat) (L3 : List Commit → Int → List Commit → Option ((List Commit))) (x0 : List Commit) : Option ((List Commit)) := oif (decide ((0:Int) ≤ (x0.length : Int))) (oif (decide ((x0.length : Int).toNat * 48 ≤ 140737488355328)) (L3 x0 (0:Int) (List.replicate (x0.length : Int).toNat ((([] : List Int), (([] : List Entry), ())) : Commit))))
def z1h (lp : Nat) (x0 : List Commit) : Option ((List Commit)) := z1h.e lp (fun x0 x4 xo7 => obind (z1h.l3 lp lp x0 x4 xo7) (leF (fun z => z.elim) (fun y => z1h.a3 lp y))) x0
def z6w (x0 : Ref) : Option Ref := some x0
def z2k.b3 {R : Type} (lp : Nat) (N : List Ref → Int → List Ref → Option R) (X : ((List Ref)) → Option R) (Q : Empty → Option R) (x0 : List Ref) (x4 : Int) (xo7 : List Ref) : Option R := cond (decide (x4 < (x0.length : Int))) (oget x0 x4 fun (e1 : Ref) => obind (z6w e1) fun (t2 : Ref) => oif (decide ((0:Int) ≤ x4)) (oif (decide (x4 < (xo7.length : Int))) (oget xo7 (x4.toNat : Int) fun (e3 : Ref) => N x0 (IntKind.i64.wrap (x4 + (1:Int))) (xo7.set x4.toNat t2)))) (X xo7)
def z2k.l3 (lp : Nat) : Nat → List Ref → Int → List Ref → Option (LE Empty ((List Ref)))
  | 0, _, _, _ => none
  | k + 1, x0, x4, xo7 => z2k.b3 lp (z2k.l3 lp k) (fun y => some (.brk y)) (fun z => some (.ret z)) x0 x4 xo7
def z2k.a3 (lp : Nat) (y : (List Ref)) : Option ((List Ref)) := some y
def z2k.e (lp : Nat) (L3 : List Ref → Int → List Ref → Option ((List Ref))) (x0 : List Ref) : Option ((List Ref)) := oif (decide ((0:Int) ≤ (x0.length : Int))) (oif (decide ((x0.length : Int).toNat * 40 ≤ 140737488355328)) (L3 x0 (0:Int) (List.replicate (x0.length : Int).toNat (((⟨#[]⟩ : ByteArray), ((0:Int), ((0:Int), (false, ())))) : Ref))))
def z2k (lp : Nat) (x0 : List Ref) : Option ((List Ref)) := z2k.e lp (fun x0 x4 xo7 => obind (z2k.l3 lp lp x0 x4 xo7) (leF (fun z => z.elim) (fun y => z2k.a3 lp y))) x0
def z6o (lp : Nat) (x0 : Base) : Option Base := obind (z1h lp x0.1) fun (t1 : (List Commit)) => obind (z2k lp x0.2.1) fun (t2 : (List Ref)) => some (t1, t2, ())
def z6p (x0 : Edit) : Option Edit := some x0
def z21.b3 {R : Type} (lp : Nat) (N : List Edit → Int → List Edit → Option R) (X : ((List Edit)) → Option R) (Q : Empty → Option R) (x0 : List Edit) (x4 : Int) (xo7 : List Edit) : Option R := cond (decide (x4 < (x0.length : Int))) (oget x0 x4 fun (e1 : Edit) => obind (z6p e1) fun (t2 : Edit) => oif (decide ((0:Int) ≤ x4)) (oif (decide (x4 < (xo7.length : Int))) (oget xo7 (x4.toNat : Int) fun (e3 : Edit) => N x0 (IntKind.i64.wrap (x4 + (1:Int))) (xo7.set x4.toNat t2)))) (X xo7)
def z21.l3 (lp : Nat) : Nat → List Edit → Int → List Edit → Option (LE Empty ((List Edit)))
  | 0, _, _, _ => none
  | k + 1, x0, x4, xo7 => z21.b3 lp (z21.l3 lp k) (fun y => some (.brk y)) (fun z => some (.ret z)) x0 x4 xo7
def z21.a3 (lp : Nat) (y : (List Edit)) : Option ((List Edit)) := some y
def z21.e (lp : Nat) (L3 : List Edit → Int → List Edit → Option ((List Edit))) (x0 : List Edit) : Option ((List Edit)) := oif (decide ((0:Int) ≤ (x0.length : Int))) (oif (decide ((x0.length : Int).toNat * 32 ≤ 140737488355328)) (L3 x0 (0:Int) (List.replicate (x0.length : Int).toNat (((⟨#[]⟩ : ByteArray), ((0:Int), (false, ()))) : Edit))))
def z21 (lp : Nat) (x0 : List Edit) : Option ((List Edit)) := z21.e lp (fun x0 x4 xo7 => obind (z21.l3 lp lp x0 x4 xo7) (leF (fun z => z.elim) (fun y => z21.a3 lp y))) x0
def z6h (lp : Nat) (x0 : Wish) : Option Wish := obind (z21 lp x0.2.2.2.2.1) fun (t1 : (List Edit)) => some (x0.1, x0.2.1, x0.2.2.1, x0.2.2.2.1, t1, ())
def z27.b3 {R : Type} (lp : Nat) (N : List Wish → Int → List Wish → Option R) (X : ((List Wish)) → Option R) (Q : Empty → Option R) (x0 : List Wish) (x4 : Int) (xo7 : List Wish) : Option R := cond (decide (x4 < (x0.length : Int))) (oget x0 x4 fun (e1 : Wish) => obind (z6h lp e1) fun (t2 : Wish) => oif (decide ((0:Int) ≤ x4)) (oif (decide (x4 < (xo7.length : Int))) (oget xo7 (x4.toNat : Int) fun (e3 : Wish) => N x0 (IntKind.i64.wrap (x4 + (1:Int))) (xo7.set x4.toNat t2)))) (X xo7)
def z27.l3 (lp : Nat) : Nat → List Wish → Int → List Wish → Option (LE Empty ((List Wish)))
  | 0, _, _, _ => none
  | k + 1, x0, x4, xo7 => z27.b3 lp (z27.l3 lp k) (fun y => some (.brk y)) (fun z => some (.ret z)) x0 x4 xo7
def z27.a3 (lp : Nat) (y : (List Wish)) : Option ((List Wish)) := some y
def z27.e (lp : Nat) (L3 : List Wish → Int → List Wish → Option ((List Wish))) (x0 : List Wish) : Option ((List Wish)) := oif (decide ((0:Int) ≤ (x0.length : Int))) (oif (decide ((x0.length : Int).toNat * 80 ≤ 140737488355328)) (L3 x0 (0:Int) (List.replicate (x0.length : Int).toNat (((0:Int), ((⟨#[]⟩ : ByteArray), ((⟨#[]⟩ : ByteArray), ((⟨#[]⟩ : ByteArray), (([] : List Edit), ()))))) : Wish))))
def z27 (lp : Nat) (x0 : List Wish) : Option ((List Wish)) := z27.e lp (fun x0 x4 xo7 => obind (z27.l3 lp lp x0 x4 xo7) (leF (fun z => z.elim) (fun y => z27.a3 lp y))) x0
def z5e (lp : Nat) (x0 : Client) : Option Client := obind (z27 lp x0.1) fun (t1 : (List Wish)) => obind (z1l lp x0.2.2.2.2.2.2.2.2.1) fun (t2 : (List Entry)) => some (t1, x0.2.1, x0.2.2.1, x0.2.2.2.1, x0.2.2.2.2.1, x0.2.2.2.2.2.1, x0.2.2.2.2.2.2.1, x0.2.2.2.2.2.2.2.1, t2, ())
def z1f.b3 {R : Type} (lp : Nat) (N : List Client → Int → List Client → Option R) (X : ((List Client)) → Option R) (Q : Empty → Option R) (x0 : List Client) (x4 : Int) (xo7 : List Client) : Option R := cond (decide (x4 < (x0.length : Int))) (oget x0 x4 fun (e1 : Client) => obind (z5e lp e1) fun (t2 : Client) => oif (decide ((0:Int) ≤ x4)) (oif (decide (x4 < (xo7.length : Int))) (oget xo7 (x4.toNat : Int) fun (e3 : Client) => N x0 (IntKind.i64.wrap (x4 + (1:Int))) (xo7.set x4.toNat t2)))) (X xo7)
def z1f.l3 (lp : Nat) : Nat → List Client → Int → List Client → Option (LE Empty ((List Client)))
  | 0, _, _, _ => none
  | k + 1, x0, x4, xo7 => z1f.b3 lp (z1f.l3 lp k) (fun y => some (.brk y)) (fun z => some (.ret z)) x0 x4 xo7
def z1f.a3 (lp : Nat) (y : (List Client)) : Option ((List Client)) := some y
def z1f.e (lp : Nat) (L3 : List Client → Int → List Client → Option ((List Client))) (x0 : List Client) : Option ((List Client)) := oif (decide ((0:Int) ≤ (x0.length : Int))) (oif (decide ((x0.length : Int).toNat * 104 ≤ 140737488355328)) (L3 x0 (0:Int) (List.replicate (x0.length : Int).toNat ((([] : List Wish), ((0:Int), ((0:Int), ((0:Int), ((0:Int), ((0:Int), ((0:Int), ((0:Int), (([] : List Entry), ()))))))))) : Client))))
def z1f (lp : Nat) (x0 : List Client) : Option ((List Client)) := z1f.e lp (fun x0 x4 xo7 => obind (z1f.l3 lp lp x0 x4 xo7) (leF (fun z => z.elim) (fun y => z1f.a3 lp y))) x0
def z62 (x0 : Event) : Option Event := some x0
def z1u.b3 {R : Type} (lp : Nat) (N : List Event → Int → List Event → Option R) (X : ((List Event)) → Option R) (Q : Empty → Option R) (x0 : List Event) (x4 : Int) (xo7 : List Event) : Option R := cond (decide (x4 < (x0.length : Int))) (oget x0 x4 fun (e1 : Event) => obind (z62 e1) fun (t2 : Event) => oif (decide ((0:Int) ≤ x4)) (oif (decide (x4 < (xo7.length : Int))) (oget xo7 (x4.toNat : Int) fun (e3 : Event) => N x0 (IntKind.i64.wrap (x4 + (1:Int))) (xo7.set x4.toNat t2)))) (X xo7)
def z1u.l3 (lp : Nat) : Nat → List Event → Int → List Event → Option (LE Empty ((List Event)))
  | 0, _, _, _ => none
  | k + 1, x0, x4, xo7 => z1u.b3 lp (z1u.l3 lp k) (fun y => some (.brk y)) (fun z => some (.ret z)) x0 x4 xo7
def z1u.a3 (lp : Nat) (y : (List Event)) : Option ((List Event)) := some y
def z1u.e (lp : Nat) (L3 : List Event → Int → List Event → Option ((List Event))) (x0 : List Event) : Option ((List Event)) := oif (decide ((0:Int) ≤ (x0.length : Int))) (oif (decide ((x0.length : Int).toNat * 24 ≤ 140737488355328)) (L3 x0 (0:Int) (List.replicate (x0.length : Int).toNat (((0:Int), ((0:Int), (false, ()))) : Event))))
def z1u (lp : Nat) (x0 : List Event) : Option ((List Event)) := z1u.e lp (fun x0 x4 xo7 => obind (z1u.l3 lp lp x0 x4 xo7) (leF (fun z => z.elim) (fun y => z1u.a3 lp y))) x0
def z5x (lp : Nat) (x0 : Watch) : Option Watch := obind (z1u lp x0.2.2.1) fun (t1 : (List Event)) => some (x0.1, x0.2.1, t1, ())
def z1t.b3 {R : Type} (lp : Nat) (N : List Watch → Int → List Watch → Option R) (X : ((List Watch)) → Option R) (Q : Empty → Option R) (x0 : List Watch) (x4 : Int) (xo7 : List Watch) : Option R := cond (decide (x4 < (x0.length : Int))) (oget x0 x4 fun (e1 : Watch) => obind (z5x lp e1) fun (t2 : Watch) => oif (decide ((0:Int) ≤ x4)) (oif (decide (x4 < (xo7.length : Int))) (oget xo7 (x4.toNat : Int) fun (e3 : Watch) => N x0 (IntKind.i64.wrap (x4 + (1:Int))) (xo7.set x4.toNat t2)))) (X xo7)
def z1t.l3 (lp : Nat) : Nat → List Watch → Int → List Watch → Option (LE Empty ((List Watch)))
  | 0, _, _, _ => none
  | k + 1, x0, x4, xo7 => z1t.b3 lp (z1t.l3 lp k) (fun y => some (.brk y)) (fun z => some (.ret z)) x0 x4 xo7
def z1t.a3 (lp : Nat) (y : (List Watch)) : Option ((List Watch)) := some y
def z1t.e (lp : Nat) (L3 : List Watch → Int → List Watch → Option ((List Watch))) (x0 : List Watch) : Option ((List Watch)) := oif (decide ((0:Int) ≤ (x0.length : Int))) (oif (decide ((x0.length : Int).toNat * 48 ≤ 140737488355328)) (L3 x0 (0:Int) (List.replicate (x0.length : Int).toNat (((⟨#[]⟩ : ByteArray), ((0:Int), (([] : List Event), ()))) : Watch))))
def z1t (lp : Nat) (x0 : List Watch) : Option ((List Watch)) := z1t.e lp (fun x0 x4 xo7 => obind (z1t.l3 lp lp x0 x4 xo7) (leF (fun z => z.elim) (fun y => z1t.a3 lp y))) x0
def z7a (lp : Nat) (x0 : Op) : Option Op := obind (z21 lp x0.2.2.2.2.1) fun (t1 : (List Edit)) => some (x0.1, x0.2.1, x0.2.2.1, x0.2.2.2.1, t1, ())
def z1e.b3 {R : Type} (lp : Nat) (N : List ByteArray → Int → List ByteArray → Option R) (X : ((List ByteArray)) → Option R) (Q : Empty → Option R) (x0 : List ByteArray) (x4 : Int) (xo7 : List ByteArray) : Option R := cond (decide (x4 < (x0.length : Int))) (oget x0 x4 fun (e1 : ByteArray) => oif (decide ((0:Int) ≤ x4)) (oif (decide (x4 < (xo7.length : Int))) (oget xo7 (x4.toNat : Int) fun (e2 : ByteArray) => N x0 (IntKind.i64.wrap (x4 + (1:Int))) (xo7.set x4.toNat e1)))) (X xo7)
def z1e.l3 (lp : Nat) : Nat → List ByteArray → Int → List ByteArray → Option (LE Empty ((List ByteArray)))
  | 0, _, _, _ => none
  | k + 1, x0, x4, xo7 => z1e.b3 lp (z1e.l3 lp k) (fun y => some (.brk y)) (fun z => some (.ret z)) x0 x4 xo7
def z1e.a3 (lp : Nat) (y : (List ByteArray)) : Option ((List ByteArray)) := some y
def z1e.e (lp : Nat) (L3 : List ByteArray → Int → List ByteArray → Option ((List ByteArray))) (x0 : List ByteArray) : Option ((List ByteArray)) := oif (decide ((0:Int) ≤ (x0.length : Int))) (oif (decide ((x0.length : Int).toNat * 16 ≤ 140737488355328)) (L3 x0 (0:Int) (List.replicate (x0.length : Int).toNat ((⟨#[]⟩ : ByteArray) : ByteArray))))
def z1e (lp : Nat) (x0 : List ByteArray) : Option ((List ByteArray)) := z1e.e lp (fun x0 x4 xo7 => obind (z1e.l3 lp lp x0 x4 xo7) (leF (fun z => z.elim) (fun y => z1e.a3 lp y))) x0
def z5h (lp : Nat) (x0 : Result) : Option Result := obind (z1e lp x0.2.2.2.1) fun (t1 : (List ByteArray)) => obind (z1l lp x0.2.2.2.2.1) fun (t2 : (List Entry)) => some (x0.1, x0.2.1, x0.2.2.1, t1, t2, ())
def z5c (lp : Nat) (x0 : Moment) : Option Moment := obind (z7a lp x0.2.2.2.1) fun (t1 : Op) => obind (z5h lp x0.2.2.2.2.1) fun (t2 : Result) => some (x0.1, x0.2.1, x0.2.2.1, t1, t2, ())
def z1g.b3 {R : Type} (lp : Nat) (N : List Moment → Int → List Moment → Option R) (X : ((List Moment)) → Option R) (Q : Empty → Option R) (x0 : List Moment) (x4 : Int) (xo7 : List Moment) : Option R := cond (decide (x4 < (x0.length : Int))) (oget x0 x4 fun (e1 : Moment) => obind (z5c lp e1) fun (t2 : Moment) => oif (decide ((0:Int) ≤ x4)) (oif (decide (x4 < (xo7.length : Int))) (oget xo7 (x4.toNat : Int) fun (e3 : Moment) => N x0 (IntKind.i64.wrap (x4 + (1:Int))) (xo7.set x4.toNat t2)))) (X xo7)
def z1g.l3 (lp : Nat) : Nat → List Moment → Int → List Moment → Option (LE Empty ((List Moment)))
  | 0, _, _, _ => none
  | k + 1, x0, x4, xo7 => z1g.b3 lp (z1g.l3 lp k) (fun y => some (.brk y)) (fun z => some (.ret z)) x0 x4 xo7
def z1g.a3 (lp : Nat) (y : (List Moment)) : Option ((List Moment)) := some y
def z1g.e (lp : Nat) (L3 : List Moment → Int → List Moment → Option ((List Moment))) (x0 : List Moment) : Option ((List Moment)) := oif (decide ((0:Int) ≤ (x0.length : Int))) (oif (decide ((x0.length : Int).toNat * 168 ≤ 140737488355328)) (L3 x0 (0:Int) (List.replicate (x0.length : Int).toNat (((0:Int), ((0:Int), ((0:Int), (((0:Int), ((0:Int), ((⟨#[]⟩ : ByteArray), ((⟨#[]⟩ : ByteArray), (([] : List Edit), ()))))), (((0:Int), ((0:Int), ((0:Int), (([] : List ByteArray), (([] : List Entry), ()))))), ()))))) : Moment))))
def z1g (lp : Nat) (x0 : List Moment) : Option ((List Moment)) := z1g.e lp (fun x0 x4 xo7 => obind (z1g.l3 lp lp x0 x4 xo7) (leF (fun z => z.elim) (fun y => z1g.a3 lp y))) x0
def z48 (lp : Nat) (x0 : World) : Option World := obind (z6o lp x0.1) fun (t1 : Base) => obind (z1f lp x0.2.1) fun (t2 : (List Client)) => obind (z1t lp x0.2.2.1) fun (t3 : (List Watch)) => obind (z1g lp x0.2.2.2.1) fun (t4 : (List Moment)) => some (t1, t2, t3, t4, x0.2.2.2.2)
def z3p (x0 : List Commit) : Option Bool := some (decide ((x0.length : Int) ≤ (4096:Int)))
def z2t (x0 : Int) (x1 : Int) (x2 : Int) : Option Bool := cond (decide (x1 ≤ x0)) (some (decide (x0 ≤ x2))) (some false)
def z4m (x0 : Int) : Option Bool := cond (decide (x0 ≥ (97:Int))) (cond (decide (x0 ≤ (122:Int))) (some true) (cond (decide (x0 ≥ (65:Int))) (cond (decide (x0 ≤ (90:Int))) (some true) (some (x0 == (95:Int)))) (some (x0 == (95:Int))))) (cond (decide (x0 ≥ (65:Int))) (cond (decide (x0 ≤ (90:Int))) (some true) (some (x0 == (95:Int)))) (some (x0 == (95:Int))))
def z0b.b2 {R : Type} (lp : Nat) (N : List Int → ((Int × Unit) → Option Bool) → Int → Int → Option R) (X : Unit → Option R) (Q : Int → Option R) (x0 : List Int) (x1 : (Int × Unit) → Option Bool) (x7 : Int) (x8 : Int) : Option R := cond (decide (x8 < x7)) (oget x0 x8 fun (e1 : Int) => obind (x1 (e1, ())) fun (t2 : Bool) => cond t2 (Q x8) (N x0 x1 x7 (IntKind.i64.wrap (x8 + (1:Int))))) (X ())
def z0b.l2 (lp : Nat) : Nat → List Int → ((Int × Unit) → Option Bool) → Int → Int → Option (LE Int Unit)
  | 0, _, _, _, _ => none
  | k + 1, x0, x1, x7, x8 => z0b.b2 lp (z0b.l2 lp k) (fun y => some (.brk y)) (fun z => some (.ret z)) x0 x1 x7 x8
def z0b.a2 (lp : Nat) (y : Unit) : Option Int := some (-1:Int)
def z0b.q2 (lp : Nat) (z : Int) : Option Int := some z
def z0b.e (lp : Nat) (L2 : List Int → ((Int × Unit) → Option Bool) → Int → Int → Option Int) (x0 : List Int) (x1 : (Int × Unit) → Option Bool) : Option Int := L2 x0 x1 (x0.length : Int) (0:Int)
def z0b (lp : Nat) (x0 : List Int) (x1 : (Int × Unit) → Option Bool) : Option Int := z0b.e lp (fun x0 x1 x7 x8 => obind (z0b.l2 lp lp x0 x1 x7 x8) (leF (fun z => z0b.q2 lp z) (fun y => z0b.a2 lp y))) x0 x1
def z2y (lp : Nat) (x0 : List Int) (x1 : (Int × Unit) → Option Bool) : Option Bool := obind (z0b lp x0 x1) fun (t1 : Int) => some (decide (t1 ≥ (0:Int)))
def z3e (x0 : Int) (x1 : (Int × Unit) → Option Bool) : Option Bool := obind (x1 (x0, ())) fun (t1 : Bool) => some (!t1)
def z42 (lp : Nat) (x0 : List Int) (x1 : (Int × Unit) → Option Bool) : Option Bool := obind (z2y lp x0 (fun w => z3e w.1 x1)) fun (t1 : Bool) => some (!t1)
def z6g (x0 : Int) : Option Bool := cond (decide (x0 ≥ (48:Int))) (some (decide (x0 ≤ (57:Int)))) (some false)
def z4q (x0 : Int) : Option Bool := obind (z4m x0) fun (t1 : Bool) => cond t1 (some true) (obind (z6g x0) fun (t2 : Bool) => some t2)
def z33 (lp : Nat) (x0 : ByteArray) : Option Bool := obind (z2t (x0.size : Int) (1:Int) (12:Int)) fun (t1 : Bool) => cond t1 (oif (decide ((0:Int) ≤ (0:Int))) (oif (decide ((0:Int) < (x0.size : Int))) (obind (z4m (byteAt x0 (0:Int))) fun (t2 : Bool) => cond t2 (obind (z42 lp (bytesOf x0) (fun w => z4q w.1)) fun (t3 : Bool) => some t3) (some false)))) (some false)
def z43 (x0 : Int) : Option Bool := obind (z2t x0 (-1000000:Int) (1000000:Int)) fun (t1 : Bool) => some t1
def z2i.b2 {R : Type} (lp : Nat) (N : List Entry → List Entry → Int → Int → Option R) (X : ((List Entry)) → Option R) (Q : Bool → Option R) (x0 : List Entry) (x5 : List Entry) (x6 : Int) (x7 : Int) : Option R := cond (decide (x7 < x6)) (oget x5 x7 fun (e1 : Entry) => obind (z33 lp e1.1) fun (t2 : Bool) => cond (!t2) (Q false) (obind (z43 e1.2.1) fun (t3 : Bool) => cond (!t3) (Q false) (cond (decide (x7 > (0:Int))) (oget x0 (IntKind.i64.wrap (x7 - (1:Int))) fun (e4 : Entry) => cond (!Op.bytesLess e4.1.toList e1.1.toList) (Q false) (N x0 x5 x6 (IntKind.i64.wrap (x7 + (1:Int))))) (N x0 x5 x6 (IntKind.i64.wrap (x7 + (1:Int))))))) (X x0)
def z2i.l2 (lp : Nat) : Nat → List Entry → List Entry → Int → Int → Option (LE Bool ((List Entry)))
  | 0, _, _, _, _ => none
  | k + 1, x0, x5, x6, x7 => z2i.b2 lp (z2i.l2 lp k) (fun y => some (.brk y)) (fun z => some (.ret z)) x0 x5 x6 x7
def z2i.a2 (lp : Nat) (y : (List Entry)) : Option Bool := some (decide ((y.length : Int) ≤ (12:Int)))
def z2i.q2 (lp : Nat) (z : Bool) : Option Bool := some z
def z2i.e (lp : Nat) (L2 : List Entry → List Entry → Int → Int → Option Bool) (x0 : List Entry) : Option Bool := L2 x0 x0 (x0.length : Int) (0:Int)
def z2i (lp : Nat) (x0 : List Entry) : Option Bool := z2i.e lp (fun x0 x5 x6 x7 => obind (z2i.l2 lp lp x0 x5 x6 x7) (leF (fun z => z2i.q2 lp z) (fun y => z2i.a2 lp y))) x0
def z0i.b2 {R : Type} (lp : Nat) (N : List Int → ((Int × Unit) → Option Bool) → Int → Int → Option R) (X : Unit → Option R) (Q : Int → Option R) (x0 : List Int) (x1 : (Int × Unit) → Option Bool) (x7 : Int) (x8 : Int) : Option R := cond (decide (x8 < x7)) (oget x0 x8 fun (e1 : Int) => obind (x1 (e1, ())) fun (t2 : Bool) => cond t2 (Q x8) (N x0 x1 x7 (IntKind.i64.wrap (x8 + (1:Int))))) (X ())
def z0i.l2 (lp : Nat) : Nat → List Int → ((Int × Unit) → Option Bool) → Int → Int → Option (LE Int Unit)
  | 0, _, _, _, _ => none
  | k + 1, x0, x1, x7, x8 => z0i.b2 lp (z0i.l2 lp k) (fun y => some (.brk y)) (fun z => some (.ret z)) x0 x1 x7 x8
def z0i.a2 (lp : Nat) (y : Unit) : Option Int := some (-1:Int)
def z0i.q2 (lp : Nat) (z : Int) : Option Int := some z
def z0i.e (lp : Nat) (L2 : List Int → ((Int × Unit) → Option Bool) → Int → Int → Option Int) (x0 : List Int) (x1 : (Int × Unit) → Option Bool) : Option Int := L2 x0 x1 (x0.length : Int) (0:Int)
def z0i (lp : Nat) (x0 : List Int) (x1 : (Int × Unit) → Option Bool) : Option Int := z0i.e lp (fun x0 x1 x7 x8 => obind (z0i.l2 lp lp x0 x1 x7 x8) (leF (fun z => z0i.q2 lp z) (fun y => z0i.a2 lp y))) x0 x1
def z31 (lp : Nat) (x0 : List Int) (x1 : (Int × Unit) → Option Bool) : Option Bool := obind (z0i lp x0 x1) fun (t1 : Int) => some (decide (t1 ≥ (0:Int)))
def z3h (x0 : Int) (x1 : (Int × Unit) → Option Bool) : Option Bool := obind (x1 (x0, ())) fun (t1 : Bool) => some (!t1)
def z3x (lp : Nat) (x0 : List Int) (x1 : (Int × Unit) → Option Bool) : Option Bool := obind (z31 lp x0 (fun w => z3h w.1 x1)) fun (t1 : Bool) => some (!t1)
def z35 (x0 : Int) (x1 : Int) : Option Bool := obind (z2t x0 (1:Int) (IntKind.i64.wrap (x1 - (1:Int)))) fun (t1 : Bool) => some t1
def z41 (lp : Nat) (x0 : Commit) (x1 : Int) : Option Bool := obind (z2i lp x0.2.1) fun (t1 : Bool) => cond (!t1) (some false) (cond (decide ((x0.1.length : Int) > (2:Int))) (some false) (cond (((x0.1.length : Int) == (0:Int)) != (x1 == (1:Int))) (some false) (cond ((x0.1.length : Int) == (2:Int)) (oget x0.1 (0:Int) fun (e2 : Int) => oget x0.1 (1:Int) fun (e3 : Int) => cond (e2 == e3) (some false) (obind (z3x lp x0.1 (fun w => z35 w.1 x1)) fun (t4 : Bool) => some t4)) (obind (z3x lp x0.1 (fun w => z35 w.1 x1)) fun (t5 : Bool) => some t5))))
def z0u.b2 {R : Type} (lp : Nat) (N : List Commit → List Commit → Int → Int → Option R) (X : ((List Commit)) → Option R) (Q : Bool → Option R) (x0 : List Commit) (x5 : List Commit) (x6 : Int) (x7 : Int) : Option R := cond (decide (x7 < x6)) (oget x5 x7 fun (e1 : Commit) => obind (z41 lp e1 (IntKind.i64.wrap (x7 + (1:Int)))) fun (t2 : Bool) => cond (!t2) (Q false) (N x0 x5 x6 (IntKind.i64.wrap (x7 + (1:Int))))) (X x0)
def z0u.l2 (lp : Nat) : Nat → List Commit → List Commit → Int → Int → Option (LE Bool ((List Commit)))
  | 0, _, _, _, _ => none
  | k + 1, x0, x5, x6, x7 => z0u.b2 lp (z0u.l2 lp k) (fun y => some (.brk y)) (fun z => some (.ret z)) x0 x5 x6 x7
def z0u.a2 (lp : Nat) (y : (List Commit)) : Option Bool := some (decide ((y.length : Int) ≤ (60:Int)))
def z0u.q2 (lp : Nat) (z : Bool) : Option Bool := some z
def z0u.e (lp : Nat) (L2 : List Commit → List Commit → Int → Int → Option Bool) (x0 : List Commit) : Option Bool := L2 x0 x0 (x0.length : Int) (0:Int)
def z0u (lp : Nat) (x0 : List Commit) : Option Bool := z0u.e lp (fun x0 x5 x6 x7 => obind (z0u.l2 lp lp x0 x5 x6 x7) (leF (fun z => z0u.q2 lp z) (fun y => z0u.a2 lp y))) x0
def z4v (lp : Nat) (x0 : List Commit) : Option Bool := cond (decide ((x0.length : Int) > (0:Int))) (obind (z3p x0) fun (t1 : Bool) => cond t1 (obind (z0u lp x0) fun (t2 : Bool) => some t2) (some false)) (some false)
def z0d.b2 {R : Type} (lp : Nat) (N : List Ref → ((Ref × Unit) → Option Bool) → Int → Int → Option R) (X : Unit → Option R) (Q : Int → Option R) (x0 : List Ref) (x1 : (Ref × Unit) → Option Bool) (x7 : Int) (x8 : Int) : Option R := cond (decide (x8 < x7)) (oget x0 x8 fun (e1 : Ref) => obind (x1 (e1, ())) fun (t2 : Bool) => cond t2 (Q x8) (N x0 x1 x7 (IntKind.i64.wrap (x8 + (1:Int))))) (X ())
def z0d.l2 (lp : Nat) : Nat → List Ref → ((Ref × Unit) → Option Bool) → Int → Int → Option (LE Int Unit)
  | 0, _, _, _, _ => none
  | k + 1, x0, x1, x7, x8 => z0d.b2 lp (z0d.l2 lp k) (fun y => some (.brk y)) (fun z => some (.ret z)) x0 x1 x7 x8
def z0d.a2 (lp : Nat) (y : Unit) : Option Int := some (-1:Int)
def z0d.q2 (lp : Nat) (z : Int) : Option Int := some z
def z0d.e (lp : Nat) (L2 : List Ref → ((Ref × Unit) → Option Bool) → Int → Int → Option Int) (x0 : List Ref) (x1 : (Ref × Unit) → Option Bool) : Option Int := L2 x0 x1 (x0.length : Int) (0:Int)
def z0d (lp : Nat) (x0 : List Ref) (x1 : (Ref × Unit) → Option Bool) : Option Int := z0d.e lp (fun x0 x1 x7 x8 => obind (z0d.l2 lp lp x0 x1 x7 x8) (leF (fun z => z0d.q2 lp z) (fun y => z0d.a2 lp y))) x0 x1
def z32 (lp : Nat) (x0 : List Ref) (x1 : (Ref × Unit) → Option Bool) : Option Bool := obind (z0d lp x0 x1) fun (t1 : Int) => some (decide (t1 ≥ (0:Int)))
def z3k (x0 : Ref) (x1 : (Ref × Unit) → Option Bool) : Option Bool := obind (x1 (x0, ())) fun (t1 : Bool) => some (!t1)
def z3o (lp : Nat) (x0 : List Ref) (x1 : (Ref × Unit) → Option Bool) : Option Bool := obind (z32 lp x0 (fun w => z3k w.1 x1)) fun (t1 : Bool) => some (!t1)
def z51 (x0 : Ref) (x1 : ByteArray) : Option Bool := some (x0.1.toList == x1.toList)
def z5q (lp : Nat) (x0 : List Ref) (x1 : ByteArray) : Option Int := obind (z0d lp x0 (fun w => z51 w.1 x1)) fun (t1 : Int) => some t1
def z3n (x0 : Int) : Option Bool := obind (z2t x0 (1:Int) (60:Int)) fun (t1 : Bool) => some t1
def z6x (lp : Nat) (x0 : Ref) : Option Bool := obind (z33 lp x0.1) fun (t1 : Bool) => cond t1 (obind (z2t x0.2.2.1 (1:Int) (1000000:Int)) fun (t2 : Bool) => cond t2 (cond x0.2.2.2.1 (cond (x0.2.1 == (0:Int)) (some true) (cond (!x0.2.2.2.1) (obind (z3n x0.2.1) fun (t3 : Bool) => some t3) (some false))) (cond (!x0.2.2.2.1) (obind (z3n x0.2.1) fun (t4 : Bool) => some t4) (some false))) (some false)) (some false)
def z26.b4 {R : Type} (lp : Nat) (N : List Ref → List Ref → Int → Int → Option R) (X : Unit → Option R) (Q : Bool → Option R) (x0 : List Ref) (x13 : List Ref) (x14 : Int) (x15 : Int) : Option R := cond (decide (x15 < x14)) (oget x13 x15 fun (e2 : Ref) => oif (decide ((0:Int) ≤ x15)) (oif (decide (x15 ≤ (x0.length : Int))) (obind (z5q lp (x0.take x15.toNat) e2.1) fun (t3 : Int) => cond (decide (t3 ≥ (0:Int))) (Q false) (N x0 x13 x14 (IntKind.i64.wrap (x15 + (1:Int))))))) (X ())
def z26.l4 (lp : Nat) : Nat → List Ref → List Ref → Int → Int → Option (LE Bool Unit)
  | 0, _, _, _, _ => none
  | k + 1, x0, x13, x14, x15 => z26.b4 lp (z26.l4 lp k) (fun y => some (.brk y)) (fun z => some (.ret z)) x0 x13 x14 x15
def z26.a4 (lp : Nat) (y : Unit) : Option Bool := some true
def z26.q4 (lp : Nat) (z : Bool) : Option Bool := some z
def z26.e (lp : Nat) (L4 : List Ref → List Ref → Int → Int → Option Bool) (x0 : List Ref) : Option Bool := cond (decide ((x0.length : Int) > (8:Int))) (some false) (obind (z3o lp x0 (fun w => z6x lp w.1)) fun (t1 : Bool) => cond (!t1) (some false) (L4 x0 x0 (x0.length : Int) (0:Int)))
def z26 (lp : Nat) (x0 : List Ref) : Option Bool := z26.e lp (fun x0 x13 x14 x15 => obind (z26.l4 lp lp x0 x13 x14 x15) (leF (fun z => z26.q4 lp z) (fun y => z26.a4 lp y))) x0
def z4t (x0 : Ref) (x1 : Base) : Option Bool := some (decide (x0.2.1 ≤ (x1.1.length : Int)))
def z5m (lp : Nat) (x0 : Base) : Option Bool := obind (z4v lp x0.1) fun (t1 : Bool) => cond t1 (obind (z26 lp x0.2.1) fun (t2 : Bool) => cond t2 (obind (z3o lp x0.2.1 (fun w => z4t w.1 x0)) fun (t3 : Bool) => some t3) (some false)) (some false)
def z0c.b2 {R : Type} (lp : Nat) (N : List Wish → ((Wish × Unit) → Option Bool) → Int → Int → Option R) (X : Unit → Option R) (Q : Int → Option R) (x0 : List Wish) (x1 : (Wish × Unit) → Option Bool) (x7 : Int) (x8 : Int) : Option R := cond (decide (x8 < x7)) (oget x0 x8 fun (e1 : Wish) => obind (x1 (e1, ())) fun (t2 : Bool) => cond t2 (Q x8) (N x0 x1 x7 (IntKind.i64.wrap (x8 + (1:Int))))) (X ())
def z0c.l2 (lp : Nat) : Nat → List Wish → ((Wish × Unit) → Option Bool) → Int → Int → Option (LE Int Unit)
  | 0, _, _, _, _ => none
  | k + 1, x0, x1, x7, x8 => z0c.b2 lp (z0c.l2 lp k) (fun y => some (.brk y)) (fun z => some (.ret z)) x0 x1 x7 x8
def z0c.a2 (lp : Nat) (y : Unit) : Option Int := some (-1:Int)
def z0c.q2 (lp : Nat) (z : Int) : Option Int := some z
def z0c.e (lp : Nat) (L2 : List Wish → ((Wish × Unit) → Option Bool) → Int → Int → Option Int) (x0 : List Wish) (x1 : (Wish × Unit) → Option Bool) : Option Int := L2 x0 x1 (x0.length : Int) (0:Int)
def z0c (lp : Nat) (x0 : List Wish) (x1 : (Wish × Unit) → Option Bool) : Option Int := z0c.e lp (fun x0 x1 x7 x8 => obind (z0c.l2 lp lp x0 x1 x7 x8) (leF (fun z => z0c.q2 lp z) (fun y => z0c.a2 lp y))) x0 x1
def z2z (lp : Nat) (x0 : List Wish) (x1 : (Wish × Unit) → Option Bool) : Option Bool := obind (z0c lp x0 x1) fun (t1 : Int) => some (decide (t1 ≥ (0:Int)))
def z3d (x0 : Wish) (x1 : (Wish × Unit) → Option Bool) : Option Bool := obind (x1 (x0, ())) fun (t1 : Bool) => some (!t1)
def z3v (lp : Nat) (x0 : List Wish) (x1 : (Wish × Unit) → Option Bool) : Option Bool := obind (z2z lp x0 (fun w => z3d w.1 x1)) fun (t1 : Bool) => some (!t1)
def z1d.b2 {R : Type} (lp : Nat) (N : List Edit → List Edit → Int → Int → Option R) (X : ((List Edit)) → Option R) (Q : Bool → Option R) (x0 : List Edit) (x5 : List Edit) (x6 : Int) (x7 : Int) : Option R := cond (decide (x7 < x6)) (oget x5 x7 fun (e1 : Edit) => obind (z33 lp e1.1) fun (t2 : Bool) => cond (!t2) (Q false) (obind (z43 e1.2.1) fun (t3 : Bool) => cond (!t3) (Q false) (cond e1.2.2.1 (cond (e1.2.1 != (0:Int)) (Q false) (cond (decide (x7 > (0:Int))) (oget x0 (IntKind.i64.wrap (x7 - (1:Int))) fun (e4 : Edit) => cond (!Op.bytesLess e4.1.toList e1.1.toList) (Q false) (N x0 x5 x6 (IntKind.i64.wrap (x7 + (1:Int))))) (N x0 x5 x6 (IntKind.i64.wrap (x7 + (1:Int)))))) (cond (decide (x7 > (0:Int))) (oget x0 (IntKind.i64.wrap (x7 - (1:Int))) fun (e5 : Edit) => cond (!Op.bytesLess e5.1.toList e1.1.toList) (Q false) (N x0 x5 x6 (IntKind.i64.wrap (x7 + (1:Int))))) (N x0 x5 x6 (IntKind.i64.wrap (x7 + (1:Int)))))))) (X x0)
def z1d.l2 (lp : Nat) : Nat → List Edit → List Edit → Int → Int → Option (LE Bool ((List Edit)))
  | 0, _, _, _, _ => none
  | k + 1, x0, x5, x6, x7 => z1d.b2 lp (z1d.l2 lp k) (fun y => some (.brk y)) (fun z => some (.ret z)) x0 x5 x6 x7
def z1d.a2 (lp : Nat) (y : (List Edit)) : Option Bool := some (decide ((y.length : Int) ≤ (6:Int)))
def z1d.q2 (lp : Nat) (z : Bool) : Option Bool := some z
def z1d.e (lp : Nat) (L2 : List Edit → List Edit → Int → Int → Option Bool) (x0 : List Edit) : Option Bool := L2 x0 x0 (x0.length : Int) (0:Int)
def z1d (lp : Nat) (x0 : List Edit) : Option Bool := z1d.e lp (fun x0 x5 x6 x7 => obind (z1d.l2 lp lp x0 x5 x6 x7) (leF (fun z => z1d.q2 lp z) (fun y => z1d.a2 lp y))) x0
def z68 (lp : Nat) (x0 : Op) : Option Bool := obind (z33 lp x0.2.2.1) fun (t1 : Bool) => cond (!t1) (some false) (cond (x0.1 != (5:Int)) (cond (!(x0.2.2.2.1.toList == (⟨#[]⟩ : ByteArray).toList)) (some false) (cond (x0.1 != (3:Int)) (cond (decide ((x0.2.2.2.2.1.length : Int) > (0:Int))) (some false) (cond (x0.1 == (1:Int)) (obind (z3n x0.2.1) fun (t2 : Bool) => some t2) (cond (x0.1 == (4:Int)) (obind (z3n x0.2.1) fun (t3 : Bool) => some t3) (cond (x0.1 == (2:Int)) (some (x0.2.1 == (0:Int))) (cond (x0.1 == (6:Int)) (some (x0.2.1 == (0:Int))) (cond (x0.1 == (3:Int)) (obind (z2t x0.2.1 (0:Int) (60:Int)) fun (t4 : Bool) => cond t4 (obind (z1d lp x0.2.2.2.2.1) fun (t5 : Bool) => some t5) (some false)) (cond (x0.1 == (5:Int)) (cond (x0.2.1 == (0:Int)) (obind (z33 lp x0.2.2.2.1) fun (t6 : Bool) => some t6) (some false)) (some false)))))))) (cond (x0.1 == (1:Int)) (obind (z3n x0.2.1) fun (t7 : Bool) => some t7) (cond (x0.1 == (4:Int)) (obind (z3n x0.2.1) fun (t8 : Bool) => some t8) (cond (x0.1 == (2:Int)) (some (x0.2.1 == (0:Int))) (cond (x0.1 == (6:Int)) (some (x0.2.1 == (0:Int))) (cond (x0.1 == (3:Int)) (obind (z2t x0.2.1 (0:Int) (60:Int)) fun (t9 : Bool) => cond t9 (obind (z1d lp x0.2.2.2.2.1) fun (t10 : Bool) => some t10) (some false)) (cond (x0.1 == (5:Int)) (cond (x0.2.1 == (0:Int)) (obind (z33 lp x0.2.2.2.1) fun (t11 : Bool) => some t11) (some false)) (some false))))))))) (cond (x0.1 != (3:Int)) (cond (decide ((x0.2.2.2.2.1.length : Int) > (0:Int))) (some false) (cond (x0.1 == (1:Int)) (obind (z3n x0.2.1) fun (t12 : Bool) => some t12) (cond (x0.1 == (4:Int)) (obind (z3n x0.2.1) fun (t13 : Bool) => some t13) (cond (x0.1 == (2:Int)) (some (x0.2.1 == (0:Int))) (cond (x0.1 == (6:Int)) (some (x0.2.1 == (0:Int))) (cond (x0.1 == (3:Int)) (obind (z2t x0.2.1 (0:Int) (60:Int)) fun (t14 : Bool) => cond t14 (obind (z1d lp x0.2.2.2.2.1) fun (t15 : Bool) => some t15) (some false)) (cond (x0.1 == (5:Int)) (cond (x0.2.1 == (0:Int)) (obind (z33 lp x0.2.2.2.1) fun (t16 : Bool) => some t16) (some false)) (some false)))))))) (cond (x0.1 == (1:Int)) (obind (z3n x0.2.1) fun (t17 : Bool) => some t17) (cond (x0.1 == (4:Int)) (obind (z3n x0.2.1) fun (t18 : Bool) => some t18) (cond (x0.1 == (2:Int)) (some (x0.2.1 == (0:Int))) (cond (x0.1 == (6:Int)) (some (x0.2.1 == (0:Int))) (cond (x0.1 == (3:Int)) (obind (z2t x0.2.1 (0:Int) (60:Int)) fun (t19 : Bool) => cond t19 (obind (z1d lp x0.2.2.2.2.1) fun (t20 : Bool) => some t20) (some false)) (cond (x0.1 == (5:Int)) (cond (x0.2.1 == (0:Int)) (obind (z33 lp x0.2.2.2.1) fun (t21 : Bool) => some t21) (some false)) (some false)))))))))
def z3z (x0 : Int) : Option Bool := cond (x0 == (1:Int)) (some true) (some (x0 == (4:Int)))
def z6a (x0 : List Edit) : Option (List Edit) := oif (decide (x0.length * 32 ≤ 140737488355328)) (some x0)
def z49 (x0 : Wish) (x1 : Int) : Option Op := obind (z6a x0.2.2.2.2.1) fun (t1 : (List Edit)) => some (x0.1, x1, x0.2.1, x0.2.2.2.1, t1, ())
def z5u (lp : Nat) (x0 : Wish) : Option Bool := obind (z3z x0.1) fun (t1 : Bool) => cond (!t1) (cond (x0.2.2.1.toList == (⟨#[]⟩ : ByteArray).toList) (obind (z49 x0 (0:Int)) fun (t2 : Op) => obind (z68 lp t2) fun (t3 : Bool) => some t3) (some false)) (obind (z33 lp x0.2.2.1) fun (t4 : Bool) => cond t4 (obind (z49 x0 (1:Int)) fun (t5 : Op) => obind (z68 lp t5) fun (t6 : Bool) => some t6) (some false))
def z0h.b4 {R : Type} (lp : Nat) (N : List Entry → List Entry → Int → Int → Option R) (X : Unit → Option R) (Q : Bool → Option R) (x0 : List Entry) (x1 : List Entry) (x12 : Int) (x13 : Int) : Option R := cond (decide (x13 < x12)) (oget x0 x13 fun (e1 : Entry) => oget x1 x13 fun (e2 : Entry) => cond (!((e1.1 == e2.1) && (e1.2.1 == e2.2.1))) (Q false) (N x0 x1 x12 (IntKind.i64.wrap (x13 + (1:Int))))) (X ())
def z0h.l4 (lp : Nat) : Nat → List Entry → List Entry → Int → Int → Option (LE Bool Unit)
  | 0, _, _, _, _ => none
  | k + 1, x0, x1, x12, x13 => z0h.b4 lp (z0h.l4 lp k) (fun y => some (.brk y)) (fun z => some (.ret z)) x0 x1 x12 x13
def z0h.a4 (lp : Nat) (y : Unit) : Option Bool := some true
def z0h.q4 (lp : Nat) (z : Bool) : Option Bool := some z
def z0h.e (lp : Nat) (L4 : List Entry → List Entry → Int → Int → Option Bool) (x0 : List Entry) (x1 : List Entry) : Option Bool := cond ((x0.length : Int) != (x1.length : Int)) (some false) (L4 x0 x1 (x0.length : Int) (0:Int))
def z0h (lp : Nat) (x0 : List Entry) (x1 : List Entry) : Option Bool := z0h.e lp (fun x0 x1 x12 x13 => obind (z0h.l4 lp lp x0 x1 x12 x13) (leF (fun z => z0h.q4 lp z) (fun y => z0h.a4 lp y))) x0 x1
def z3g (x0 : Client) : Option Bool := cond (x0.2.2.2.1 == (0:Int)) (cond (x0.2.2.2.2.1 == (0:Int)) (cond (x0.2.2.2.2.2.1 == (0:Int)) (cond (x0.2.2.2.2.2.2.1 == (0:Int)) (cond (x0.2.2.2.2.2.2.2.1 == (0:Int)) (some ((x0.2.2.2.2.2.2.2.2.1.length : Int) == (0:Int))) (some false)) (some false)) (some false)) (some false)) (some false)
def z3j (x0 : Client) : Option Bool := some (x0.2.1 == (x0.1.length : Int))
def z3w (x0 : Client) : Option Wish := oget x0.1 x0.2.1 fun (e1 : Wish) => some e1
def z3m (x0 : List Entry) (x1 : List ByteArray) (x2 : Int) (x3 : List Int) : Option Plan := cond (x2 != (0:Int)) (some (false, ([] : List Entry), ([] : List Int), x1, x2, ())) (some (false, x0, x3, ([] : List ByteArray), (0:Int), ()))
def z4k (x0 : List Entry) : Option ((List Entry) × Int) := cond (decide ((x0.length : Int) > (12:Int))) (some (([] : List Entry), (7:Int))) (some (x0, (0:Int)))
def z6e (x0 : List Entry) : Option (List Entry) := oif (decide (x0.length * 24 ≤ 140737488355328)) (some x0)
def z01.b3 {R : Type} (lp : Nat) (N : List Entry → ByteArray → ((Entry × ByteArray × Unit) → Option Int) → Int → Int → Int → Option R) (X : ((List Entry) × ByteArray × ((Entry × ByteArray × Unit) → Option Int) × Int × Int) → Option R) (Q : Empty → Option R) (x0 : List Entry) (x1 : ByteArray) (x2 : (Entry × ByteArray × Unit) → Option Int) (x8 : Int) (x9 : Int) (x10 : Int) : Option R := cond (decide (x9 < x10)) (oif (decide (0 ≤ (1:Int))) (oget x0 (IntKind.i64.wrap ((IntKind.u64.wrap (IntKind.i64.wrap (x9 + x10))).fdiv (2 ^ min (1:Int).toNat (IntKind.u64).bits))) fun (e1 : Entry) => obind (x2 (e1, x1, ())) fun (t2 : Int) => cond (decide (t2 < (0:Int))) (N x0 x1 x2 x8 (IntKind.i64.wrap ((IntKind.i64.wrap ((IntKind.u64.wrap (IntKind.i64.wrap (x9 + x10))).fdiv (2 ^ min (1:Int).toNat (IntKind.u64).bits))) + (1:Int))) x10) (N x0 x1 x2 x8 x9 (IntKind.i64.wrap ((IntKind.u64.wrap (IntKind.i64.wrap (x9 + x10))).fdiv (2 ^ min (1:Int).toNat (IntKind.u64).bits)))))) (X (x0, x1, x2, x8, x9))
def z01.l3 (lp : Nat) : Nat → List Entry → ByteArray → ((Entry × ByteArray × Unit) → Option Int) → Int → Int → Int → Option (LE Empty ((List Entry) × ByteArray × ((Entry × ByteArray × Unit) → Option Int) × Int × Int))
  | 0, _, _, _, _, _, _ => none
  | k + 1, x0, x1, x2, x8, x9, x10 => z01.b3 lp (z01.l3 lp k) (fun y => some (.brk y)) (fun z => some (.ret z)) x0 x1 x2 x8 x9 x10
def z01.a3 (lp : Nat) (y : (List Entry) × ByteArray × ((Entry × ByteArray × Unit) → Option Int) × Int × Int) : Option (Int × Bool) := cond (decide (y.2.2.2.2 < y.2.2.2.1)) (oget y.1 y.2.2.2.2 fun (e3 : Entry) => obind (y.2.2.1 (e3, y.2.1, ())) fun (t4 : Int) => some (y.2.2.2.2, (t4 == (0:Int)))) (some (y.2.2.2.2, false))
def z01.e (lp : Nat) (L3 : List Entry → ByteArray → ((Entry × ByteArray × Unit) → Option Int) → Int → Int → Int → Option (Int × Bool)) (x0 : List Entry) (x1 : ByteArray) (x2 : (Entry × ByteArray × Unit) → Option Int) : Option (Int × Bool) := L3 x0 x1 x2 (x0.length : Int) (0:Int) (x0.length : Int)
def z01 (lp : Nat) (x0 : List Entry) (x1 : ByteArray) (x2 : (Entry × ByteArray × Unit) → Option Int) : Option (Int × Bool) := z01.e lp (fun x0 x1 x2 x8 x9 x10 => obind (z01.l3 lp lp x0 x1 x2 x8 x9 x10) (leF (fun z => z.elim) (fun y => z01.a3 lp y))) x0 x1 x2
def z7b (x0 x1 : ByteArray) : Option Int := some (Lib.compareBytes x0.data.toList x1.data.toList)
def z5n (x0 : Entry) (x1 : ByteArray) : Option Int := obind (z7b x0.1 x1) fun (t1 : Int) => some t1
def z6f (lp : Nat) (x0 : List Entry) (x1 : ByteArray) : Option (Int × Bool) := obind (z01 lp x0 x1 (fun w => z5n w.1 w.2.1)) fun (t1 : Int × Bool) => some (t1.1, t1.2)
def z71 (l : List Entry) (i : Int) (x : Int) : Option (List Entry) := delF (t := TEntry) l i x
def z63 (l : List Entry) (i : Int) (x : List Entry) : Option (List Entry) := insF (t := TEntry) 24 l i x
def z2d.b3 {R : Type} (lp : Nat) (N : List Edit → Int → Int → List Entry → Option R) (X : ((List Entry)) → Option R) (Q : Empty → Option R) (x12 : List Edit) (x13 : Int) (x14 : Int) (xo11 : List Entry) : Option R := cond (decide (x14 < x13)) (oget x12 x14 fun (e2 : Edit) => obind (z6f lp xo11 e2.1) fun (t3 : Int × Bool) => cond t3.2 (obind (z71 xo11 t3.1 (IntKind.i64.wrap (t3.1 + (1:Int)))) fun (t4 : List Entry) => cond (!e2.2.2.1) (obind (z63 t4 t3.1 ([(e2.1, e2.2.1, ())] : List Entry)) fun (t5 : List Entry) => N x12 x13 (IntKind.i64.wrap (x14 + (1:Int))) t5) (N x12 x13 (IntKind.i64.wrap (x14 + (1:Int))) t4)) (cond (!e2.2.2.1) (obind (z63 xo11 t3.1 ([(e2.1, e2.2.1, ())] : List Entry)) fun (t6 : List Entry) => N x12 x13 (IntKind.i64.wrap (x14 + (1:Int))) t6) (N x12 x13 (IntKind.i64.wrap (x14 + (1:Int))) xo11))) (X xo11)
def z2d.l3 (lp : Nat) : Nat → List Edit → Int → Int → List Entry → Option (LE Empty ((List Entry)))
  | 0, _, _, _, _ => none
  | k + 1, x12, x13, x14, xo11 => z2d.b3 lp (z2d.l3 lp k) (fun y => some (.brk y)) (fun z => some (.ret z)) x12 x13 x14 xo11
def z2d.a3 (lp : Nat) (y : (List Entry)) : Option ((List Entry)) := some y
def z2d.e (lp : Nat) (L3 : List Edit → Int → Int → List Entry → Option ((List Entry))) (x0 : List Entry) (x1 : List Edit) : Option ((List Entry)) := obind (z6e x0) fun (t1 : List Entry) => L3 x1 (x1.length : Int) (0:Int) t1
def z2d (lp : Nat) (x0 : List Entry) (x1 : List Edit) : Option ((List Entry)) := z2d.e lp (fun x12 x13 x14 xo11 => obind (z2d.l3 lp lp x12 x13 x14 xo11) (leF (fun z => z.elim) (fun y => z2d.a3 lp y))) x0 x1
def z6c (l : List Edit) : Option (List Edit) := sortF (t := TEdit) (cmpBy fun z : Edit => z.1) l
def z6v (x0 : Edit) (x1 : Edit) : Option Int := obind (z7b x0.1 x1.1) fun (t1 : Int) => some t1
def z19.b10 {R : Type} (lp : Nat) (N : List Entry → List Entry → Int → Int → List Edit → Option R) (X : ((List Edit)) → Option R) (Q : Empty → Option R) (x1 : List Entry) (x48 : List Entry) (x49 : Int) (x50 : Int) (xo46 : List Edit) : Option R := cond (decide (x50 < x49)) (oget x48 x50 fun (e4 : Entry) => obind (z6f lp x1 e4.1) fun (t5 : Int × Bool) => cond (!t5.2) (oif (decide ((xo46.length + ([(e4.1, (0:Int), true, ())] : List Edit).length) * 32 ≤ 140737488355328)) (N x1 x48 x49 (IntKind.i64.wrap (x50 + (1:Int))) (xo46 ++ ([(e4.1, (0:Int), true, ())] : List Edit)))) (N x1 x48 x49 (IntKind.i64.wrap (x50 + (1:Int))) xo46)) (X xo46)
def z19.l10 (lp : Nat) : Nat → List Entry → List Entry → Int → Int → List Edit → Option (LE Empty ((List Edit)))
  | 0, _, _, _, _, _ => none
  | k + 1, x1, x48, x49, x50, xo46 => z19.b10 lp (z19.l10 lp k) (fun y => some (.brk y)) (fun z => some (.ret z)) x1 x48 x49 x50 xo46
def z19.b3 {R : Type} (lp : Nat) (N : List Entry → List Entry → List Entry → Int → Int → List Edit → Option R) (X : ((List Entry) × (List Entry) × (List Edit)) → Option R) (Q : Empty → Option R) (x0 : List Entry) (x1 : List Entry) (x14 : List Entry) (x15 : Int) (x16 : Int) (xo46 : List Edit) : Option R := cond (decide (x16 < x15)) (oget x14 x16 fun (e1 : Entry) => obind (z6f lp x0 e1.1) fun (t2 : Int × Bool) => cond (!t2.2) (oif (decide ((xo46.length + ([(e1.1, e1.2.1, false, ())] : List Edit).length) * 32 ≤ 140737488355328)) (N x0 x1 x14 x15 (IntKind.i64.wrap (x16 + (1:Int))) (xo46 ++ ([(e1.1, e1.2.1, false, ())] : List Edit)))) (oget x0 t2.1 fun (e3 : Entry) => cond (e3.2.1 != e1.2.1) (oif (decide ((xo46.length + ([(e1.1, e1.2.1, false, ())] : List Edit).length) * 32 ≤ 140737488355328)) (N x0 x1 x14 x15 (IntKind.i64.wrap (x16 + (1:Int))) (xo46 ++ ([(e1.1, e1.2.1, false, ())] : List Edit)))) (N x0 x1 x14 x15 (IntKind.i64.wrap (x16 + (1:Int))) xo46))) (X (x0, x1, xo46))
def z19.l3 (lp : Nat) : Nat → List Entry → List Entry → List Entry → Int → Int → List Edit → Option (LE Empty ((List Entry) × (List Entry) × (List Edit)))
  | 0, _, _, _, _, _, _ => none
  | k + 1, x0, x1, x14, x15, x16, xo46 => z19.b3 lp (z19.l3 lp k) (fun y => some (.brk y)) (fun z => some (.ret z)) x0 x1 x14 x15 x16 xo46
def z19.a10 (lp : Nat) (y : (List Edit)) : Option ((List Edit)) := obind (z6c y) fun (t6 : List Edit) => oif (Nat.beq t6.length y.length) (some t6)
def z19.a3 (lp : Nat) (L10 : List Entry → List Entry → Int → Int → List Edit → Option ((List Edit))) (y : (List Entry) × (List Entry) × (List Edit)) : Option ((List Edit)) := L10 y.2.1 y.1 (y.1.length : Int) (0:Int) y.2.2
def z19.e (lp : Nat) (L3 : List Entry → List Entry → List Entry → Int → Int → List Edit → Option ((List Edit))) (x0 : List Entry) (x1 : List Entry) : Option ((List Edit)) := L3 x0 x1 x1 (x1.length : Int) (0:Int) ([] : List Edit)
def z19 (lp : Nat) (x0 : List Entry) (x1 : List Entry) : Option ((List Edit)) := z19.e lp (fun x0 x1 x14 x15 x16 xo46 => obind (z19.l3 lp lp x0 x1 x14 x15 x16 xo46) (leF (fun z => z.elim) (fun y => z19.a3 lp (fun x1 x48 x49 x50 xo46 => obind (z19.l10 lp lp x1 x48 x49 x50 xo46) (leF (fun z => z.elim) (fun y => z19.a10 lp y))) y))) x0 x1
def z0r.b10 {R : Type} (lp : Nat) (N : List Entry → List Edit → Int → Int → (List (ByteArray × Edit)) → List Edit → List ByteArray → Option R) (X : ((List Entry) × (List Edit) × (List ByteArray)) → Option R) (Q : Empty → Option R) (x1 : List Entry) (x36 : List Edit) (x37 : Int) (x38 : Int) (xm20 : List (ByteArray × Edit)) (xo55 : List Edit) (xo64 : List ByteArray) : Option R := cond (decide (x38 < x37)) (oget x36 x38 fun (e4 : Edit) => cond (!((mapGet xm20 e4.1).isSome)) (oif (decide ((xo55.length + ([e4] : List Edit).length) * 32 ≤ 140737488355328)) (N x1 x36 x37 (IntKind.i64.wrap (x38 + (1:Int))) xm20 (xo55 ++ ([e4] : List Edit)) xo64)) (cond (!(((((mapGet xm20 e4.1).getD (zeroD TEdit)).1) == e4.1) && ((((((mapGet xm20 e4.1).getD (zeroD TEdit)).2).1) == e4.2.1) && ((((((mapGet xm20 e4.1).getD (zeroD TEdit)).2).2).1) == e4.2.2.1)))) (oif (decide ((xo64.length + ([e4.1] : List ByteArray).length) * 16 ≤ 140737488355328)) (N x1 x36 x37 (IntKind.i64.wrap (x38 + (1:Int))) xm20 xo55 (xo64 ++ ([e4.1] : List ByteArray)))) (N x1 x36 x37 (IntKind.i64.wrap (x38 + (1:Int))) xm20 xo55 xo64))) (X (x1, xo55, xo64))
def z0r.l10 (lp : Nat) : Nat → List Entry → List Edit → Int → Int → (List (ByteArray × Edit)) → List Edit → List ByteArray → Option (LE Empty ((List Entry) × (List Edit) × (List ByteArray)))
  | 0, _, _, _, _, _, _, _ => none
  | k + 1, x1, x36, x37, x38, xm20, xo55, xo64 => z0r.b10 lp (z0r.l10 lp k) (fun y => some (.brk y)) (fun z => some (.ret z)) x1 x36 x37 x38 xm20 xo55 xo64
def z0r.b3 {R : Type} (lp : Nat) (N : List Entry → List Entry → List Entry → List Edit → Int → Int → (List (ByteArray × Edit)) → Option R) (X : ((List Entry) × (List Entry) × (List Entry) × (List (ByteArray × Edit))) → Option R) (Q : Empty → Option R) (x0 : List Entry) (x1 : List Entry) (x2 : List Entry) (x23 : List Edit) (x24 : Int) (x25 : Int) (xm20 : List (ByteArray × Edit)) : Option R := cond (decide (x25 < x24)) (oget x23 x25 fun (e2 : Edit) => N x0 x1 x2 x23 x24 (IntKind.i64.wrap (x25 + (1:Int))) (mapPut xm20 e2.1 e2)) (X (x0, x1, x2, xm20))
def z0r.l3 (lp : Nat) : Nat → List Entry → List Entry → List Entry → List Edit → Int → Int → (List (ByteArray × Edit)) → Option (LE Empty ((List Entry) × (List Entry) × (List Entry) × (List (ByteArray × Edit))))
  | 0, _, _, _, _, _, _, _ => none
  | k + 1, x0, x1, x2, x23, x24, x25, xm20 => z0r.b3 lp (z0r.l3 lp k) (fun y => some (.brk y)) (fun z => some (.ret z)) x0 x1 x2 x23 x24 x25 xm20
def z0r.a10 (lp : Nat) (y : (List Entry) × (List Edit) × (List ByteArray)) : Option ((List Entry) × (List ByteArray) × Int) := cond (decide ((y.2.2.length : Int) > (0:Int))) (some (([] : List Entry), y.2.2, (11:Int))) (obind (z2d lp y.1 y.2.1) fun (t5 : (List Entry)) => obind (z4k t5) fun (t6 : (List Entry) × Int) => some (t6.1, ([] : List ByteArray), t6.2))
def z0r.a3 (lp : Nat) (L10 : List Entry → List Edit → Int → Int → (List (ByteArray × Edit)) → List Edit → List ByteArray → Option ((List Entry) × (List ByteArray) × Int)) (y : (List Entry) × (List Entry) × (List Entry) × (List (ByteArray × Edit))) : Option ((List Entry) × (List ByteArray) × Int) := obind (z19 lp y.1 y.2.2.1) fun (t3 : (List Edit)) => L10 y.2.1 t3 (t3.length : Int) (0:Int) y.2.2.2 ([] : List Edit) ([] : List ByteArray)
def z0r.e (lp : Nat) (L3 : List Entry → List Entry → List Entry → List Edit → Int → Int → (List (ByteArray × Edit)) → Option ((List Entry) × (List ByteArray) × Int)) (x0 : List Entry) (x1 : List Entry) (x2 : List Entry) : Option ((List Entry) × (List ByteArray) × Int) := obind (z19 lp x0 x1) fun (t1 : (List Edit)) => L3 x0 x1 x2 t1 (t1.length : Int) (0:Int) ([] : List (ByteArray × Edit))
def z0r (lp : Nat) (x0 : List Entry) (x1 : List Entry) (x2 : List Entry) : Option ((List Entry) × (List ByteArray) × Int) := z0r.e lp (fun x0 x1 x2 x23 x24 x25 xm20 => obind (z0r.l3 lp lp x0 x1 x2 x23 x24 x25 xm20) (leF (fun z => z.elim) (fun y => z0r.a3 lp (fun x1 x36 x37 x38 xm20 xo55 xo64 => obind (z0r.l10 lp lp x1 x36 x37 x38 xm20 xo55 xo64) (leF (fun z => z.elim) (fun y => z0r.a10 lp y))) y))) x0 x1 x2
def z3q (lp : Nat) (x0 : Base) (x1 : Op) (x2 : Int) : Option Plan := cond (x1.2.1 == (0:Int)) (oget x0.1 (IntKind.i64.wrap (x2 - (1:Int))) fun (e1 : Commit) => obind (z2d lp e1.2.1 x1.2.2.2.2.1) fun (t2 : (List Entry)) => obind (z4k t2) fun (t3 : (List Entry) × Int) => cond (t3.2 != (0:Int)) (some (false, ([] : List Entry), ([] : List Int), ([] : List ByteArray), t3.2, ())) (oget x0.1 (IntKind.i64.wrap (x2 - (1:Int))) fun (e4 : Commit) => obind (z0r lp e1.2.1 t3.1 e4.2.1) fun (t5 : (List Entry) × (List ByteArray) × Int) => cond (t5.2.2 == (0:Int)) (obind (z0h lp t5.1 e4.2.1) fun (t6 : Bool) => cond t6 (obind (z3m t5.1 t5.2.1 (18:Int) ([x2] : List Int)) fun (t7 : Plan) => some t7) (obind (z3m t5.1 t5.2.1 t5.2.2 ([x2] : List Int)) fun (t8 : Plan) => some t8)) (obind (z3m t5.1 t5.2.1 t5.2.2 ([x2] : List Int)) fun (t9 : Plan) => some t9))) (oget x0.1 (IntKind.i64.wrap (x1.2.1 - (1:Int))) fun (e10 : Commit) => obind (z2d lp e10.2.1 x1.2.2.2.2.1) fun (t11 : (List Entry)) => obind (z4k t11) fun (t12 : (List Entry) × Int) => cond (t12.2 != (0:Int)) (some (false, ([] : List Entry), ([] : List Int), ([] : List ByteArray), t12.2, ())) (oget x0.1 (IntKind.i64.wrap (x2 - (1:Int))) fun (e13 : Commit) => obind (z0r lp e10.2.1 t12.1 e13.2.1) fun (t14 : (List Entry) × (List ByteArray) × Int) => cond (t14.2.2 == (0:Int)) (obind (z0h lp t14.1 e13.2.1) fun (t15 : Bool) => cond t15 (obind (z3m t14.1 t14.2.1 (18:Int) ([x2] : List Int)) fun (t16 : Plan) => some t16) (obind (z3m t14.1 t14.2.1 t14.2.2 ([x2] : List Int)) fun (t17 : Plan) => some t17)) (obind (z3m t14.1 t14.2.1 t14.2.2 ([x2] : List Int)) fun (t18 : Plan) => some t18)))
def z07.b8 {R : Type} (lp : Nat) (N : List Commit → Int → List Int → Int → Int → List Bool → Option R) (X : ((List Commit) × Int × (List Bool)) → Option R) (Q : Empty → Option R) (x0 : List Commit) (x6 : Int) (x30 : List Int) (x31 : Int) (x32 : Int) (xo12 : List Bool) : Option R := cond (decide (x32 < x31)) (oget x30 x32 fun (e4 : Int) => oif (decide ((0:Int) ≤ e4)) (oif (decide (e4 < (xo12.length : Int))) (oget xo12 (e4.toNat : Int) fun (e5 : Bool) => N x0 x6 x30 x31 (IntKind.i64.wrap (x32 + (1:Int))) (xo12.set e4.toNat true)))) (X (x0, x6, xo12))
def z07.l8 (lp : Nat) : Nat → List Commit → Int → List Int → Int → Int → List Bool → Option (LE Empty ((List Commit) × Int × (List Bool)))
  | 0, _, _, _, _, _, _ => none
  | k + 1, x0, x6, x30, x31, x32, xo12 => z07.b8 lp (z07.l8 lp k) (fun y => some (.brk y)) (fun z => some (.ret z)) x0 x6 x30 x31 x32 xo12
def z07.a8 {R : Type} (lp : Nat) (N : List Commit → Int → List Bool → Option R) (X : ((List Bool)) → Option R) (Q : Empty → Option R) (y : (List Commit) × Int × (List Bool)) : Option R := N y.1 (IntKind.i64.wrap (y.2.1 - (1:Int))) y.2.2
def z07.b4 {R : Type} (lp : Nat) (N : List Commit → Int → List Bool → Option R) (X : ((List Bool)) → Option R) (Q : Empty → Option R) (L8 : List Commit → Int → List Int → Int → Int → List Bool → Option R) (x0 : List Commit) (x6 : Int) (xo12 : List Bool) : Option R := cond (decide (x6 > (0:Int))) (oif (decide ((0:Int) ≤ x6)) (oif (decide (x6 < (xo12.length : Int))) (oget xo12 (x6.toNat : Int) fun (e2 : Bool) => cond e2 (oget x0 (IntKind.i64.wrap (x6 - (1:Int))) fun (e3 : Commit) => L8 x0 x6 e3.1 (e3.1.length : Int) (0:Int) xo12) (N x0 (IntKind.i64.wrap (x6 - (1:Int))) xo12)))) (X xo12)
def z07.l4 (lp : Nat) : Nat → List Commit → Int → List Bool → Option (LE Empty ((List Bool)))
  | 0, _, _, _ => none
  | k + 1, x0, x6, xo12 => z07.b4 lp (z07.l4 lp k) (fun y => some (.brk y)) (fun z => some (.ret z)) (fun x0 x6 x30 x31 x32 xo12 => obind (z07.l8 lp lp x0 x6 x30 x31 x32 xo12) (leF (fun z => z.elim) (fun y => z07.a8 lp (z07.l4 lp k) (fun y => some (.brk y)) (fun z => some (.ret z)) y))) x0 x6 xo12
def z07.a4 (lp : Nat) (y : (List Bool)) : Option ((List Bool)) := some y
def z07.e (lp : Nat) (L4 : List Commit → Int → List Bool → Option ((List Bool))) (x0 : List Commit) (x1 : Int) : Option ((List Bool)) := oif (decide ((0:Int) ≤ IntKind.i64.wrap ((x0.length : Int) + (1:Int)))) (oif (decide ((IntKind.i64.wrap ((x0.length : Int) + (1:Int))).toNat * 1 ≤ 140737488355328)) (oif (decide ((0:Int) ≤ x1)) (oif (decide (x1 < ((List.replicate (IntKind.i64.wrap ((x0.length : Int) + (1:Int))).toNat (false : Bool)).length : Int))) (oget (List.replicate (IntKind.i64.wrap ((x0.length : Int) + (1:Int))).toNat (false : Bool)) (x1.toNat : Int) fun (e1 : Bool) => L4 x0 x1 ((List.replicate (IntKind.i64.wrap ((x0.length : Int) + (1:Int))).toNat (false : Bool)).set x1.toNat true)))))
def z07 (lp : Nat) (x0 : List Commit) (x1 : Int) : Option ((List Bool)) := z07.e lp (fun x0 x6 xo12 => obind (z07.l4 lp lp x0 x6 xo12) (leF (fun z => z.elim) (fun y => z07.a4 lp y))) x0 x1
def z2q.b3 {R : Type} (lp : Nat) (N : List Bool → List Bool → Int → Option R) (X : Int → Option R) (Q : Empty → Option R) (x7 : List Bool) (x8 : List Bool) (x9 : Int) : Option R := oget x7 x9 fun (e3 : Bool) => cond (!e3) (N x7 x8 (IntKind.i64.wrap (x9 - (1:Int)))) (oget x8 x9 fun (e4 : Bool) => cond (!e4) (N x7 x8 (IntKind.i64.wrap (x9 - (1:Int)))) (X x9))
def z2q.l3 (lp : Nat) : Nat → List Bool → List Bool → Int → Option (LE Empty Int)
  | 0, _, _, _ => none
  | k + 1, x7, x8, x9 => z2q.b3 lp (z2q.l3 lp k) (fun y => some (.brk y)) (fun z => some (.ret z)) x7 x8 x9
def z2q.a3 (lp : Nat) (y : Int) : Option Int := some y
def z2q.e (lp : Nat) (L3 : List Bool → List Bool → Int → Option Int) (x0 : List Commit) (x1 : Int) (x2 : Int) : Option Int := obind (z07 lp x0 x1) fun (t1 : (List Bool)) => obind (z07 lp x0 x2) fun (t2 : (List Bool)) => L3 t1 t2 (cond (decide (x2 < x1)) x2 x1)
def z2q (lp : Nat) (x0 : List Commit) (x1 : Int) (x2 : Int) : Option Int := z2q.e lp (fun x7 x8 x9 => obind (z2q.l3 lp lp x7 x8 x9) (leF (fun z => z.elim) (fun y => z2q.a3 lp y))) x0 x1 x2
def z40 (lp : Nat) (x0 : List Commit) (x1 : Int) (x2 : Int) : Option ((List Entry) × (List ByteArray) × Int) := obind (z2q lp x0 x1 x2) fun (t1 : Int) => oget x0 (IntKind.i64.wrap (t1 - (1:Int))) fun (e2 : Commit) => oget x0 (IntKind.i64.wrap (x1 - (1:Int))) fun (e3 : Commit) => oget x0 (IntKind.i64.wrap (x2 - (1:Int))) fun (e4 : Commit) => obind (z0r lp e2.2.1 e3.2.1 e4.2.1) fun (t5 : (List Entry) × (List ByteArray) × Int) => some (t5.1, t5.2.1, t5.2.2)
def z36 (lp : Nat) (x0 : Base) (x1 : Op) (x2 : Int) : Option Plan := cond (x1.1 == (3:Int)) (obind (z3q lp x0 x1 x2) fun (t1 : Plan) => some t1) (obind (z2q lp x0.1 x2 x1.2.1) fun (t2 : Int) => cond (t2 == x1.2.1) (some (false, ([] : List Entry), ([] : List Int), ([] : List ByteArray), (18:Int), ())) (cond (t2 == x2) (some (true, ([] : List Entry), ([] : List Int), ([] : List ByteArray), (0:Int), ())) (obind (z40 lp x0.1 x2 x1.2.1) fun (t3 : (List Entry) × (List ByteArray) × Int) => obind (z3m t3.1 t3.2.1 t3.2.2 ([x2, x1.2.1] : List Int)) fun (t4 : Plan) => some t4)))
def z74 (x0 : Bool) : Option Int := cond x0 (some (1:Int)) (some (0:Int))
def z2x (lp : Nat) (x0 : Client) (x1 : Base) : Option Bool := cond (x0.2.2.1 == (0:Int)) (obind (z3g x0) fun (t1 : Bool) => some t1) (obind (z2t x0.2.2.1 (1:Int) (2:Int)) fun (t2 : Bool) => cond (!t2) (some false) (obind (z3j x0) fun (t3 : Bool) => cond t3 (some false) (obind (z3w x0) fun (t4 : Wish) => obind (z3z t4.1) fun (t5 : Bool) => cond (!t5) (cond (t4.1 != (3:Int)) (some false) (obind (z2t x0.2.2.2.1 (1:Int) (x1.1.length : Int)) fun (t6 : Bool) => cond (!t6) (some false) (obind (z2t x0.2.2.2.2.2.2.1 (0:Int) (3:Int)) fun (t7 : Bool) => cond (!t7) (some false) (cond (x0.2.2.1 == (1:Int)) (cond (x0.2.2.2.2.1 == (0:Int)) (cond (x0.2.2.2.2.2.1 == (0:Int)) (cond (x0.2.2.2.2.2.2.2.1 == (0:Int)) (cond ((x0.2.2.2.2.2.2.2.2.1.length : Int) == (0:Int)) (cond (t4.1 != (3:Int)) (cond (t4.1 != (1:Int)) (some true) (some (x0.2.2.2.2.2.2.1 == (0:Int)))) (cond (decide (x0.2.2.2.2.2.2.1 > (0:Int))) (cond (t4.1 != (1:Int)) (some true) (some (x0.2.2.2.2.2.2.1 == (0:Int)))) (some false))) (some false)) (some false)) (some false)) (some false)) (cond (t4.1 == (1:Int)) (some false) (obind (z2t x0.2.2.2.2.1 (1:Int) (x1.1.length : Int)) fun (t8 : Bool) => cond (!t8) (some false) (obind (z2t x0.2.2.2.2.2.1 (1:Int) (1000000:Int)) fun (t9 : Bool) => cond (!t9) (some false) (obind (z3w x0) fun (t10 : Wish) => obind (z49 t10 x0.2.2.2.1) fun (t11 : Op) => obind (z36 lp x1 t11 x0.2.2.2.2.1) fun (t12 : Plan) => cond (t12.2.2.2.2.1 == (0:Int)) (obind (z74 t12.1) fun (t13 : Int) => cond (x0.2.2.2.2.2.2.2.1 == t13) (obind (z0h lp x0.2.2.2.2.2.2.2.2.1 t12.2.1) fun (t14 : Bool) => some t14) (some false)) (some false))))))))) (obind (z2t x0.2.2.2.1 (1:Int) (x1.1.length : Int)) fun (t15 : Bool) => cond (!t15) (some false) (obind (z2t x0.2.2.2.2.2.2.1 (0:Int) (3:Int)) fun (t16 : Bool) => cond (!t16) (some false) (cond (x0.2.2.1 == (1:Int)) (cond (x0.2.2.2.2.1 == (0:Int)) (cond (x0.2.2.2.2.2.1 == (0:Int)) (cond (x0.2.2.2.2.2.2.2.1 == (0:Int)) (cond ((x0.2.2.2.2.2.2.2.2.1.length : Int) == (0:Int)) (cond (t4.1 != (3:Int)) (cond (t4.1 != (1:Int)) (some true) (some (x0.2.2.2.2.2.2.1 == (0:Int)))) (cond (decide (x0.2.2.2.2.2.2.1 > (0:Int))) (cond (t4.1 != (1:Int)) (some true) (some (x0.2.2.2.2.2.2.1 == (0:Int)))) (some false))) (some false)) (some false)) (some false)) (some false)) (cond (t4.1 == (1:Int)) (some false) (obind (z2t x0.2.2.2.2.1 (1:Int) (x1.1.length : Int)) fun (t17 : Bool) => cond (!t17) (some false) (obind (z2t x0.2.2.2.2.2.1 (1:Int) (1000000:Int)) fun (t18 : Bool) => cond (!t18) (some false) (obind (z3w x0) fun (t19 : Wish) => obind (z49 t19 x0.2.2.2.1) fun (t20 : Op) => obind (z36 lp x1 t20 x0.2.2.2.2.1) fun (t21 : Plan) => cond (t21.2.2.2.2.1 == (0:Int)) (obind (z74 t21.1) fun (t22 : Int) => cond (x0.2.2.2.2.2.2.2.1 == t22) (obind (z0h lp x0.2.2.2.2.2.2.2.2.1 t21.2.1) fun (t23 : Bool) => some t23) (some false)) (some false)))))))))))
def z3s (lp : Nat) (x0 : Client) (x1 : Base) : Option Bool := cond (decide ((x0.1.length : Int) ≤ (6:Int))) (obind (z3v lp x0.1 (fun w => z5u lp w.1)) fun (t1 : Bool) => cond t1 (obind (z2t x0.2.1 (0:Int) (x0.1.length : Int)) fun (t2 : Bool) => cond t2 (obind (z2x lp x0 x1) fun (t3 : Bool) => some t3) (some false)) (some false)) (some false)
def z03.b2 {R : Type} (lp : Nat) (N : List Moment → ((Moment × Unit) → Option Bool) → Int → Int → Option R) (X : Unit → Option R) (Q : Int → Option R) (x0 : List Moment) (x1 : (Moment × Unit) → Option Bool) (x7 : Int) (x8 : Int) : Option R := cond (decide (x8 < x7)) (oget x0 x8 fun (e1 : Moment) => obind (x1 (e1, ())) fun (t2 : Bool) => cond t2 (Q x8) (N x0 x1 x7 (IntKind.i64.wrap (x8 + (1:Int))))) (X ())
def z03.l2 (lp : Nat) : Nat → List Moment → ((Moment × Unit) → Option Bool) → Int → Int → Option (LE Int Unit)
  | 0, _, _, _, _ => none
  | k + 1, x0, x1, x7, x8 => z03.b2 lp (z03.l2 lp k) (fun y => some (.brk y)) (fun z => some (.ret z)) x0 x1 x7 x8
def z03.a2 (lp : Nat) (y : Unit) : Option Int := some (-1:Int)
def z03.q2 (lp : Nat) (z : Int) : Option Int := some z
def z03.e (lp : Nat) (L2 : List Moment → ((Moment × Unit) → Option Bool) → Int → Int → Option Int) (x0 : List Moment) (x1 : (Moment × Unit) → Option Bool) : Option Int := L2 x0 x1 (x0.length : Int) (0:Int)
def z03 (lp : Nat) (x0 : List Moment) (x1 : (Moment × Unit) → Option Bool) : Option Int := z03.e lp (fun x0 x1 x7 x8 => obind (z03.l2 lp lp x0 x1 x7 x8) (leF (fun z => z03.q2 lp z) (fun y => z03.a2 lp y))) x0 x1
def z2u (lp : Nat) (x0 : List Moment) (x1 : (Moment × Unit) → Option Bool) : Option Bool := obind (z03 lp x0 x1) fun (t1 : Int) => some (decide (t1 ≥ (0:Int)))
def z34 (x0 : Moment) (x1 : (Moment × Unit) → Option Bool) : Option Bool := obind (x1 (x0, ())) fun (t1 : Bool) => some (!t1)
def z3f (lp : Nat) (x0 : List Moment) (x1 : (Moment × Unit) → Option Bool) : Option Bool := obind (z2u lp x0 (fun w => z34 w.1 x1)) fun (t1 : Bool) => some (!t1)
def z4o (x0 : Op) : Option Bool := cond (x0.1 == (0:Int)) (cond (x0.2.1 == (0:Int)) (cond (x0.2.2.1.toList == (⟨#[]⟩ : ByteArray).toList) (cond (x0.2.2.2.1.toList == (⟨#[]⟩ : ByteArray).toList) (some ((x0.2.2.2.2.1.length : Int) == (0:Int))) (some false)) (some false)) (some false)) (some false)
def z6r (x0 : Int) : Option Bool := obind (z2t x0 (0:Int) (18:Int)) fun (t1 : Bool) => some t1
def z4x (lp : Nat) (x0 : Result) (x1 : Int) : Option Bool := obind (z6r x0.1) fun (t1 : Bool) => cond t1 (obind (z2t x0.2.1 (0:Int) x1) fun (t2 : Bool) => cond t2 (obind (z43 x0.2.2.1) fun (t3 : Bool) => cond t3 (cond (decide ((x0.2.2.2.1.length : Int) ≤ (24:Int))) (obind (z2i lp x0.2.2.2.2.1) fun (t4 : Bool) => some t4) (some false)) (some false)) (some false)) (some false)
def z37 (lp : Nat) (x0 : World) (x1 : Moment) : Option Bool := obind (z2t x1.1 (1:Int) (x0.2.1.length : Int)) fun (t1 : Bool) => cond t1 (oget x0.2.1 (IntKind.i64.wrap (x1.1 - (1:Int))) fun (e2 : Client) => obind (z2t x1.2.1 (1:Int) e2.2.1) fun (t3 : Bool) => cond t3 (obind (z2t x1.2.2.1 (1:Int) x0.2.2.2.2.1) fun (t4 : Bool) => cond t4 (obind (z4o x1.2.2.2.1) fun (t5 : Bool) => cond t5 (obind (z4x lp x1.2.2.2.2.1 (x0.1.1.length : Int)) fun (t6 : Bool) => some t6) (obind (z68 lp x1.2.2.2.1) fun (t7 : Bool) => cond t7 (obind (z4x lp x1.2.2.2.2.1 (x0.1.1.length : Int)) fun (t8 : Bool) => some t8) (some false))) (some false)) (some false)) (some false)
def z08.b2 {R : Type} (lp : Nat) (N : List Watch → ((Watch × Unit) → Option Bool) → Int → Int → Option R) (X : Unit → Option R) (Q : Int → Option R) (x0 : List Watch) (x1 : (Watch × Unit) → Option Bool) (x7 : Int) (x8 : Int) : Option R := cond (decide (x8 < x7)) (oget x0 x8 fun (e1 : Watch) => obind (x1 (e1, ())) fun (t2 : Bool) => cond t2 (Q x8) (N x0 x1 x7 (IntKind.i64.wrap (x8 + (1:Int))))) (X ())
def z08.l2 (lp : Nat) : Nat → List Watch → ((Watch × Unit) → Option Bool) → Int → Int → Option (LE Int Unit)
  | 0, _, _, _, _ => none
  | k + 1, x0, x1, x7, x8 => z08.b2 lp (z08.l2 lp k) (fun y => some (.brk y)) (fun z => some (.ret z)) x0 x1 x7 x8
def z08.a2 (lp : Nat) (y : Unit) : Option Int := some (-1:Int)
def z08.q2 (lp : Nat) (z : Int) : Option Int := some z
def z08.e (lp : Nat) (L2 : List Watch → ((Watch × Unit) → Option Bool) → Int → Int → Option Int) (x0 : List Watch) (x1 : (Watch × Unit) → Option Bool) : Option Int := L2 x0 x1 (x0.length : Int) (0:Int)
def z08 (lp : Nat) (x0 : List Watch) (x1 : (Watch × Unit) → Option Bool) : Option Int := z08.e lp (fun x0 x1 x7 x8 => obind (z08.l2 lp lp x0 x1 x7 x8) (leF (fun z => z08.q2 lp z) (fun y => z08.a2 lp y))) x0 x1
def z2v (lp : Nat) (x0 : List Watch) (x1 : (Watch × Unit) → Option Bool) : Option Bool := obind (z08 lp x0 x1) fun (t1 : Int) => some (decide (t1 ≥ (0:Int)))
def z3a (x0 : Watch) (x1 : (Watch × Unit) → Option Bool) : Option Bool := obind (x1 (x0, ())) fun (t1 : Bool) => some (!t1)
def z3t (lp : Nat) (x0 : List Watch) (x1 : (Watch × Unit) → Option Bool) : Option Bool := obind (z2v lp x0 (fun w => z3a w.1 x1)) fun (t1 : Bool) => some (!t1)
def z47 (x0 : List Event) : Option Bool := some (decide ((x0.length : Int) ≤ (4096:Int)))
def z1j.b2 {R : Type} (lp : Nat) (N : List Event → List Event → Int → Int → Option R) (X : ((List Event)) → Option R) (Q : Bool → Option R) (x0 : List Event) (x5 : List Event) (x6 : Int) (x7 : Int) : Option R := cond (decide (x7 < x6)) (oget x5 x7 fun (e1 : Event) => obind (z2t e1.1 (1:Int) (1000000:Int)) fun (t2 : Bool) => cond (!t2) (Q false) (obind (z2t e1.2.1 (0:Int) (60:Int)) fun (t3 : Bool) => cond (!t3) (Q false) (cond (decide (x7 > (0:Int))) (oget x0 (IntKind.i64.wrap (x7 - (1:Int))) fun (e4 : Event) => cond (decide (e1.1 ≤ e4.1)) (Q false) (oget x0 (IntKind.i64.wrap (x7 - (1:Int))) fun (e5 : Event) => cond (decide (e1.1 > (IntKind.i64.wrap (e5.1 + (1:Int))))) (cond (!e1.2.2.1) (Q false) (N x0 x5 x6 (IntKind.i64.wrap (x7 + (1:Int))))) (N x0 x5 x6 (IntKind.i64.wrap (x7 + (1:Int)))))) (N x0 x5 x6 (IntKind.i64.wrap (x7 + (1:Int))))))) (X x0)
def z1j.l2 (lp : Nat) : Nat → List Event → List Event → Int → Int → Option (LE Bool ((List Event)))
  | 0, _, _, _, _ => none
  | k + 1, x0, x5, x6, x7 => z1j.b2 lp (z1j.l2 lp k) (fun y => some (.brk y)) (fun z => some (.ret z)) x0 x5 x6 x7
def z1j.a2 (lp : Nat) (y : (List Event)) : Option Bool := obind (z47 y) fun (t6 : Bool) => some t6
def z1j.q2 (lp : Nat) (z : Bool) : Option Bool := some z
def z1j.e (lp : Nat) (L2 : List Event → List Event → Int → Int → Option Bool) (x0 : List Event) : Option Bool := L2 x0 x0 (x0.length : Int) (0:Int)
def z1j (lp : Nat) (x0 : List Event) : Option Bool := z1j.e lp (fun x0 x5 x6 x7 => obind (z1j.l2 lp lp x0 x5 x6 x7) (leF (fun z => z1j.q2 lp z) (fun y => z1j.a2 lp y))) x0
def z09.b2 {R : Type} (lp : Nat) (N : List Event → ((Event × Unit) → Option Bool) → Int → Int → Option R) (X : Unit → Option R) (Q : Int → Option R) (x0 : List Event) (x1 : (Event × Unit) → Option Bool) (x7 : Int) (x8 : Int) : Option R := cond (decide (x8 < x7)) (oget x0 x8 fun (e1 : Event) => obind (x1 (e1, ())) fun (t2 : Bool) => cond t2 (Q x8) (N x0 x1 x7 (IntKind.i64.wrap (x8 + (1:Int))))) (X ())
def z09.l2 (lp : Nat) : Nat → List Event → ((Event × Unit) → Option Bool) → Int → Int → Option (LE Int Unit)
  | 0, _, _, _, _ => none
  | k + 1, x0, x1, x7, x8 => z09.b2 lp (z09.l2 lp k) (fun y => some (.brk y)) (fun z => some (.ret z)) x0 x1 x7 x8
def z09.a2 (lp : Nat) (y : Unit) : Option Int := some (-1:Int)
def z09.q2 (lp : Nat) (z : Int) : Option Int := some z
def z09.e (lp : Nat) (L2 : List Event → ((Event × Unit) → Option Bool) → Int → Int → Option Int) (x0 : List Event) (x1 : (Event × Unit) → Option Bool) : Option Int := L2 x0 x1 (x0.length : Int) (0:Int)
def z09 (lp : Nat) (x0 : List Event) (x1 : (Event × Unit) → Option Bool) : Option Int := z09.e lp (fun x0 x1 x7 x8 => obind (z09.l2 lp lp x0 x1 x7 x8) (leF (fun z => z09.q2 lp z) (fun y => z09.a2 lp y))) x0 x1
def z2w (lp : Nat) (x0 : List Event) (x1 : (Event × Unit) → Option Bool) : Option Bool := obind (z09 lp x0 x1) fun (t1 : Int) => some (decide (t1 ≥ (0:Int)))
def z38 (x0 : Event) (x1 : (Event × Unit) → Option Bool) : Option Bool := obind (x1 (x0, ())) fun (t1 : Bool) => some (!t1)
def z3r (lp : Nat) (x0 : List Event) (x1 : (Event × Unit) → Option Bool) : Option Bool := obind (z2w lp x0 (fun w => z38 w.1 x1)) fun (t1 : Bool) => some (!t1)
def z4f (x0 : Event) : Option Bool := some (!x0.2.2.1)
def z60 (lp : Nat) (x0 : Watch) : Option Bool := obind (z33 lp x0.1) fun (t1 : Bool) => cond (!t1) (some false) (obind (z2t x0.2.1 (0:Int) (1000000:Int)) fun (t2 : Bool) => cond (!t2) (some false) (cond (decide ((x0.2.2.1.length : Int) > (4:Int))) (some false) (obind (z1j lp x0.2.2.1) fun (t3 : Bool) => cond (!t3) (some false) (cond ((x0.2.2.1.length : Int) == (0:Int)) (some true) (oget x0.2.2.1 (IntKind.i64.wrap ((x0.2.2.1.length : Int) - (1:Int))) fun (e4 : Event) => cond (e4.1 == x0.2.1) (oif (decide ((0:Int) ≤ (1:Int))) (oif (decide ((1:Int) ≤ (x0.2.2.1.length : Int))) (obind (z3r lp (x0.2.2.1.drop (1:Int).toNat) (fun w => z4f w.1)) fun (t5 : Bool) => some t5))) (some false))))))
def z44 (lp : Nat) (x0 : List Ref) (x1 : ByteArray) : Option Int := obind (z5q lp x0 x1) fun (t1 : Int) => cond (decide (t1 ≥ (0:Int))) (oget x0 t1 fun (e2 : Ref) => some e2.2.2.1) (some (0:Int))
def z4h (lp : Nat) (x0 : Watch) (x1 : World) : Option Bool := obind (z60 lp x0) fun (t1 : Bool) => cond t1 (obind (z44 lp x1.1.2.1 x0.1) fun (t2 : Int) => some (x0.2.1 == t2)) (some false)
def z0g.b14 {R : Type} (lp : Nat) (N : List Commit → List Ref → List Client → List Watch → List Moment → Int → Int → Option R) (X : ((List Commit) × (List Ref) × (List Client) × (List Watch) × (List Moment) × Int) → Option R) (Q : Bool → Option R) (x1_0 : List Commit) (x1_1 : List Ref) (x1_2 : List Client) (x1_3 : List Watch) (x1_4 : List Moment) (x1_5 : Int) (x6 : Int) : Option R := cond (decide (x6 < (x1_4.length : Int))) (oget x1_4 x6 fun (e6 : Moment) => oget x1_4 (IntKind.i64.wrap (x6 - (1:Int))) fun (e7 : Moment) => cond (decide (e6.2.2.1 ≤ e7.2.2.1)) (Q false) (N x1_0 x1_1 x1_2 x1_3 x1_4 x1_5 (IntKind.i64.wrap (x6 + (1:Int))))) (X (x1_0, x1_1, x1_2, x1_3, x1_4, x1_5))
def z0g.l14 (lp : Nat) : Nat → List Commit → List Ref → List Client → List Watch → List Moment → Int → Int → Option (LE Bool ((List Commit) × (List Ref) × (List Client) × (List Watch) × (List Moment) × Int))
  | 0, _, _, _, _, _, _, _ => none
  | k + 1, x1_0, x1_1, x1_2, x1_3, x1_4, x1_5, x6 => z0g.b14 lp (z0g.l14 lp k) (fun y => some (.brk y)) (fun z => some (.ret z)) x1_0 x1_1 x1_2 x1_3 x1_4 x1_5 x6
def z0g.b5 {R : Type} (lp : Nat) (N : List Commit → List Ref → List Client → List Watch → List Moment → Int → Int → List Client → Int → Int → Option R) (X : ((List Commit) × (List Ref) × (List Client) × (List Watch) × (List Moment) × Int × Int) → Option R) (Q : Bool → Option R) (x1_0 : List Commit) (x1_1 : List Ref) (x1_2 : List Client) (x1_3 : List Watch) (x1_4 : List Moment) (x1_5 : Int) (x3 : Int) (x30 : List Client) (x31 : Int) (x32 : Int) : Option R := cond (decide (x32 < x31)) (oget x30 x32 fun (e3 : Client) => obind (z3s lp e3 (x1_0, x1_1, ())) fun (t4 : Bool) => cond (!t4) (Q false) (N x1_0 x1_1 x1_2 x1_3 x1_4 x1_5 (IntKind.i64.wrap (x3 + e3.2.1)) x30 x31 (IntKind.i64.wrap (x32 + (1:Int))))) (X (x1_0, x1_1, x1_2, x1_3, x1_4, x1_5, x3))
def z0g.l5 (lp : Nat) : Nat → List Commit → List Ref → List Client → List Watch → List Moment → Int → Int → List Client → Int → Int → Option (LE Bool ((List Commit) × (List Ref) × (List Client) × (List Watch) × (List Moment) × Int × Int))
  | 0, _, _, _, _, _, _, _, _, _, _ => none
  | k + 1, x1_0, x1_1, x1_2, x1_3, x1_4, x1_5, x3, x30, x31, x32 => z0g.b5 lp (z0g.l5 lp k) (fun y => some (.brk y)) (fun z => some (.ret z)) x1_0 x1_1 x1_2 x1_3 x1_4 x1_5 x3 x30 x31 x32
def z0g.a14 (lp : Nat) (y : (List Commit) × (List Ref) × (List Client) × (List Watch) × (List Moment) × Int) : Option Bool := obind (z3t lp y.2.2.2.1 (fun w => z4h lp w.1 ((y.1, y.2.1, ()), y.2.2.1, y.2.2.2.1, y.2.2.2.2.1, y.2.2.2.2.2, ()))) fun (t8 : Bool) => some t8
def z0g.q14 (lp : Nat) (z : Bool) : Option Bool := some z
def z0g.a5 (lp : Nat) (L14 : List Commit → List Ref → List Client → List Watch → List Moment → Int → Int → Option Bool) (y : (List Commit) × (List Ref) × (List Client) × (List Watch) × (List Moment) × Int × Int) : Option Bool := cond ((y.2.2.2.2.1.length : Int) != y.2.2.2.2.2.2) (some false) (obind (z3f lp y.2.2.2.2.1 (fun w => z37 lp ((y.1, y.2.1, ()), y.2.2.1, y.2.2.2.1, y.2.2.2.2.1, y.2.2.2.2.2.1, ()) w.1)) fun (t5 : Bool) => cond (!t5) (some false) (L14 y.1 y.2.1 y.2.2.1 y.2.2.2.1 y.2.2.2.2.1 y.2.2.2.2.2.1 (1:Int)))
def z0g.q5 (lp : Nat) (z : Bool) : Option Bool := some z
def z0g.e (lp : Nat) (L5 : List Commit → List Ref → List Client → List Watch → List Moment → Int → Int → List Client → Int → Int → Option Bool) (x0 : World) : Option Bool := obind (z5m lp x0.1) fun (t1 : Bool) => cond (!t1) (some false) (cond (decide ((x0.2.1.length : Int) > (5:Int))) (some false) (cond (decide ((x0.2.2.1.length : Int) > (3:Int))) (some false) (obind (z2t x0.2.2.2.2.1 (0:Int) (1000000:Int)) fun (t2 : Bool) => cond (!t2) (some false) (L5 x0.1.1 x0.1.2.1 x0.2.1 x0.2.2.1 x0.2.2.2.1 x0.2.2.2.2.1 (0:Int) x0.2.1 (x0.2.1.length : Int) (0:Int)))))
def z0g (lp : Nat) (x0 : World) : Option Bool := z0g.e lp (fun x1_0 x1_1 x1_2 x1_3 x1_4 x1_5 x3 x30 x31 x32 => obind (z0g.l5 lp lp x1_0 x1_1 x1_2 x1_3 x1_4 x1_5 x3 x30 x31 x32) (leF (fun z => z0g.q5 lp z) (fun y => z0g.a5 lp (fun x1_0 x1_1 x1_2 x1_3 x1_4 x1_5 x6 => obind (z0g.l14 lp lp x1_0 x1_1 x1_2 x1_3 x1_4 x1_5 x6) (leF (fun z => z0g.q14 lp z) (fun y => z0g.a14 lp y))) y))) x0
def z05.b4 {R : Type} (lp : Nat) (N : List Commit → ((Commit × Commit × Unit) → Option Bool) → List Commit → Int → Int → Option R) (X : Unit → Option R) (Q : Bool → Option R) (x1 : List Commit) (x2 : (Commit × Commit × Unit) → Option Bool) (x15 : List Commit) (x16 : Int) (x17 : Int) : Option R := cond (decide (x17 < x16)) (oget x15 x17 fun (e1 : Commit) => oget x1 x17 fun (e2 : Commit) => obind (x2 (e1, e2, ())) fun (t3 : Bool) => cond (!t3) (Q false) (N x1 x2 x15 x16 (IntKind.i64.wrap (x17 + (1:Int))))) (X ())
def z05.l4 (lp : Nat) : Nat → List Commit → ((Commit × Commit × Unit) → Option Bool) → List Commit → Int → Int → Option (LE Bool Unit)
  | 0, _, _, _, _, _ => none
  | k + 1, x1, x2, x15, x16, x17 => z05.b4 lp (z05.l4 lp k) (fun y => some (.brk y)) (fun z => some (.ret z)) x1 x2 x15 x16 x17
def z05.a4 (lp : Nat) (y : Unit) : Option Bool := some true
def z05.q4 (lp : Nat) (z : Bool) : Option Bool := some z
def z05.e (lp : Nat) (L4 : List Commit → ((Commit × Commit × Unit) → Option Bool) → List Commit → Int → Int → Option Bool) (x0 : List Commit) (x1 : List Commit) (x2 : (Commit × Commit × Unit) → Option Bool) : Option Bool := cond ((x0.length : Int) != (x1.length : Int)) (some false) (L4 x1 x2 x0 (x0.length : Int) (0:Int))
def z05 (lp : Nat) (x0 : List Commit) (x1 : List Commit) (x2 : (Commit × Commit × Unit) → Option Bool) : Option Bool := z05.e lp (fun x1 x2 x15 x16 x17 => obind (z05.l4 lp lp x1 x2 x15 x16 x17) (leF (fun z => z05.q4 lp z) (fun y => z05.a4 lp y))) x0 x1 x2
def z0p.b4 {R : Type} (lp : Nat) (N : List Int → List Int → Int → Int → Option R) (X : Unit → Option R) (Q : Bool → Option R) (x0 : List Int) (x1 : List Int) (x12 : Int) (x13 : Int) : Option R := cond (decide (x13 < x12)) (oget x0 x13 fun (e1 : Int) => oget x1 x13 fun (e2 : Int) => cond (e1 != e2) (Q false) (N x0 x1 x12 (IntKind.i64.wrap (x13 + (1:Int))))) (X ())
def z0p.l4 (lp : Nat) : Nat → List Int → List Int → Int → Int → Option (LE Bool Unit)
  | 0, _, _, _, _ => none
  | k + 1, x0, x1, x12, x13 => z0p.b4 lp (z0p.l4 lp k) (fun y => some (.brk y)) (fun z => some (.ret z)) x0 x1 x12 x13
def z0p.a4 (lp : Nat) (y : Unit) : Option Bool := some true
def z0p.q4 (lp : Nat) (z : Bool) : Option Bool := some z
def z0p.e (lp : Nat) (L4 : List Int → List Int → Int → Int → Option Bool) (x0 : List Int) (x1 : List Int) : Option Bool := cond ((x0.length : Int) != (x1.length : Int)) (some false) (L4 x0 x1 (x0.length : Int) (0:Int))
def z0p (lp : Nat) (x0 : List Int) (x1 : List Int) : Option Bool := z0p.e lp (fun x0 x1 x12 x13 => obind (z0p.l4 lp lp x0 x1 x12 x13) (leF (fun z => z0p.q4 lp z) (fun y => z0p.a4 lp y))) x0 x1
def z4g (lp : Nat) (x0 : Commit) (x1 : Commit) : Option Bool := obind (z0p lp x0.1 x1.1) fun (t1 : Bool) => cond t1 (obind (z0h lp x0.2.1 x1.2.1) fun (t2 : Bool) => some t2) (some false)
def z56 (lp : Nat) (x0 : List Commit) (x1 : List Commit) : Option Bool := obind (z4v lp x0) fun (t1 : Bool) => cond t1 (obind (z05 lp x0 x1 (fun w => z4g lp w.1 w.2.1)) fun (t2 : Bool) => some t2) (some false)
def z0q.b4 {R : Type} (lp : Nat) (N : List Ref → List Ref → Int → Int → Option R) (X : Unit → Option R) (Q : Bool → Option R) (x0 : List Ref) (x1 : List Ref) (x12 : Int) (x13 : Int) : Option R := cond (decide (x13 < x12)) (oget x0 x13 fun (e1 : Ref) => oget x1 x13 fun (e2 : Ref) => cond (!((e1.1 == e2.1) && ((e1.2.1 == e2.2.1) && ((e1.2.2.1 == e2.2.2.1) && (e1.2.2.2.1 == e2.2.2.2.1))))) (Q false) (N x0 x1 x12 (IntKind.i64.wrap (x13 + (1:Int))))) (X ())
def z0q.l4 (lp : Nat) : Nat → List Ref → List Ref → Int → Int → Option (LE Bool Unit)
  | 0, _, _, _, _ => none
  | k + 1, x0, x1, x12, x13 => z0q.b4 lp (z0q.l4 lp k) (fun y => some (.brk y)) (fun z => some (.ret z)) x0 x1 x12 x13
def z0q.a4 (lp : Nat) (y : Unit) : Option Bool := some true
def z0q.q4 (lp : Nat) (z : Bool) : Option Bool := some z
def z0q.e (lp : Nat) (L4 : List Ref → List Ref → Int → Int → Option Bool) (x0 : List Ref) (x1 : List Ref) : Option Bool := cond ((x0.length : Int) != (x1.length : Int)) (some false) (L4 x0 x1 (x0.length : Int) (0:Int))
def z0q (lp : Nat) (x0 : List Ref) (x1 : List Ref) : Option Bool := z0q.e lp (fun x0 x1 x12 x13 => obind (z0q.l4 lp lp x0 x1 x12 x13) (leF (fun z => z0q.q4 lp z) (fun y => z0q.a4 lp y))) x0 x1
def z5f (lp : Nat) (x0 : Base) (x1 : Base) : Option Bool := obind (z5m lp x0) fun (t1 : Bool) => cond t1 (obind (z56 lp x0.1 x1.1) fun (t2 : Bool) => cond t2 (obind (z0q lp x0.2.1 x1.2.1) fun (t3 : Bool) => some t3) (some false)) (some false)
def z04.b4 {R : Type} (lp : Nat) (N : List Client → ((Client × Client × Unit) → Option Bool) → List Client → Int → Int → Option R) (X : Unit → Option R) (Q : Bool → Option R) (x1 : List Client) (x2 : (Client × Client × Unit) → Option Bool) (x15 : List Client) (x16 : Int) (x17 : Int) : Option R := cond (decide (x17 < x16)) (oget x15 x17 fun (e1 : Client) => oget x1 x17 fun (e2 : Client) => obind (x2 (e1, e2, ())) fun (t3 : Bool) => cond (!t3) (Q false) (N x1 x2 x15 x16 (IntKind.i64.wrap (x17 + (1:Int))))) (X ())
def z04.l4 (lp : Nat) : Nat → List Client → ((Client × Client × Unit) → Option Bool) → List Client → Int → Int → Option (LE Bool Unit)
  | 0, _, _, _, _, _ => none
  | k + 1, x1, x2, x15, x16, x17 => z04.b4 lp (z04.l4 lp k) (fun y => some (.brk y)) (fun z => some (.ret z)) x1 x2 x15 x16 x17
def z04.a4 (lp : Nat) (y : Unit) : Option Bool := some true
def z04.q4 (lp : Nat) (z : Bool) : Option Bool := some z
def z04.e (lp : Nat) (L4 : List Client → ((Client × Client × Unit) → Option Bool) → List Client → Int → Int → Option Bool) (x0 : List Client) (x1 : List Client) (x2 : (Client × Client × Unit) → Option Bool) : Option Bool := cond ((x0.length : Int) != (x1.length : Int)) (some false) (L4 x1 x2 x0 (x0.length : Int) (0:Int))
def z04 (lp : Nat) (x0 : List Client) (x1 : List Client) (x2 : (Client × Client × Unit) → Option Bool) : Option Bool := z04.e lp (fun x1 x2 x15 x16 x17 => obind (z04.l4 lp lp x1 x2 x15 x16 x17) (leF (fun z => z04.q4 lp z) (fun y => z04.a4 lp y))) x0 x1 x2
def z0f.b4 {R : Type} (lp : Nat) (N : List Wish → ((Wish × Wish × Unit) → Option Bool) → List Wish → Int → Int → Option R) (X : Unit → Option R) (Q : Bool → Option R) (x1 : List Wish) (x2 : (Wish × Wish × Unit) → Option Bool) (x15 : List Wish) (x16 : Int) (x17 : Int) : Option R := cond (decide (x17 < x16)) (oget x15 x17 fun (e1 : Wish) => oget x1 x17 fun (e2 : Wish) => obind (x2 (e1, e2, ())) fun (t3 : Bool) => cond (!t3) (Q false) (N x1 x2 x15 x16 (IntKind.i64.wrap (x17 + (1:Int))))) (X ())
def z0f.l4 (lp : Nat) : Nat → List Wish → ((Wish × Wish × Unit) → Option Bool) → List Wish → Int → Int → Option (LE Bool Unit)
  | 0, _, _, _, _, _ => none
  | k + 1, x1, x2, x15, x16, x17 => z0f.b4 lp (z0f.l4 lp k) (fun y => some (.brk y)) (fun z => some (.ret z)) x1 x2 x15 x16 x17
def z0f.a4 (lp : Nat) (y : Unit) : Option Bool := some true
def z0f.q4 (lp : Nat) (z : Bool) : Option Bool := some z
def z0f.e (lp : Nat) (L4 : List Wish → ((Wish × Wish × Unit) → Option Bool) → List Wish → Int → Int → Option Bool) (x0 : List Wish) (x1 : List Wish) (x2 : (Wish × Wish × Unit) → Option Bool) : Option Bool := cond ((x0.length : Int) != (x1.length : Int)) (some false) (L4 x1 x2 x0 (x0.length : Int) (0:Int))
def z0f (lp : Nat) (x0 : List Wish) (x1 : List Wish) (x2 : (Wish × Wish × Unit) → Option Bool) : Option Bool := z0f.e lp (fun x1 x2 x15 x16 x17 => obind (z0f.l4 lp lp x1 x2 x15 x16 x17) (leF (fun z => z0f.q4 lp z) (fun y => z0f.a4 lp y))) x0 x1 x2
def z0n.b4 {R : Type} (lp : Nat) (N : List Edit → List Edit → Int → Int → Option R) (X : Unit → Option R) (Q : Bool → Option R) (x0 : List Edit) (x1 : List Edit) (x12 : Int) (x13 : Int) : Option R := cond (decide (x13 < x12)) (oget x0 x13 fun (e1 : Edit) => oget x1 x13 fun (e2 : Edit) => cond (!((e1.1 == e2.1) && ((e1.2.1 == e2.2.1) && (e1.2.2.1 == e2.2.2.1)))) (Q false) (N x0 x1 x12 (IntKind.i64.wrap (x13 + (1:Int))))) (X ())
def z0n.l4 (lp : Nat) : Nat → List Edit → List Edit → Int → Int → Option (LE Bool Unit)
  | 0, _, _, _, _ => none
  | k + 1, x0, x1, x12, x13 => z0n.b4 lp (z0n.l4 lp k) (fun y => some (.brk y)) (fun z => some (.ret z)) x0 x1 x12 x13
def z0n.a4 (lp : Nat) (y : Unit) : Option Bool := some true
def z0n.q4 (lp : Nat) (z : Bool) : Option Bool := some z
def z0n.e (lp : Nat) (L4 : List Edit → List Edit → Int → Int → Option Bool) (x0 : List Edit) (x1 : List Edit) : Option Bool := cond ((x0.length : Int) != (x1.length : Int)) (some false) (L4 x0 x1 (x0.length : Int) (0:Int))
def z0n (lp : Nat) (x0 : List Edit) (x1 : List Edit) : Option Bool := z0n.e lp (fun x0 x1 x12 x13 => obind (z0n.l4 lp lp x0 x1 x12 x13) (leF (fun z => z0n.q4 lp z) (fun y => z0n.a4 lp y))) x0 x1
def z3y (lp : Nat) (x0 : List Edit) (x1 : List Edit) : Option Bool := obind (z0n lp x0 x1) fun (t1 : Bool) => some t1
def z5i (lp : Nat) (x0 : Wish) (x1 : Wish) : Option Bool := cond (x0.1 == x1.1) (cond (x0.2.1.toList == x1.2.1.toList) (cond (x0.2.2.1.toList == x1.2.2.1.toList) (cond (x0.2.2.2.1.toList == x1.2.2.2.1.toList) (obind (z3y lp x0.2.2.2.2.1 x1.2.2.2.2.1) fun (t1 : Bool) => some t1) (some false)) (some false)) (some false)) (some false)
def z4e (lp : Nat) (x0 : Client) (x1 : Client) : Option Bool := obind (z0f lp x0.1 x1.1 (fun w => z5i lp w.1 w.2.1)) fun (t1 : Bool) => cond t1 (obind (z0h lp x0.2.2.2.2.2.2.2.2.1 x1.2.2.2.2.2.2.2.2.1) fun (t2 : Bool) => cond t2 (cond (x0.2.1 == x1.2.1) (cond (x0.2.2.1 == x1.2.2.1) (cond (x0.2.2.2.1 == x1.2.2.2.1) (cond (x0.2.2.2.2.1 == x1.2.2.2.2.1) (cond (x0.2.2.2.2.2.1 == x1.2.2.2.2.2.1) (cond (x0.2.2.2.2.2.2.1 == x1.2.2.2.2.2.2.1) (some (x0.2.2.2.2.2.2.2.1 == x1.2.2.2.2.2.2.2.1)) (some false)) (some false)) (some false)) (some false)) (some false)) (some false)) (some false)) (some false)
def z0a.b4 {R : Type} (lp : Nat) (N : List Watch → ((Watch × Watch × Unit) → Option Bool) → List Watch → Int → Int → Option R) (X : Unit → Option R) (Q : Bool → Option R) (x1 : List Watch) (x2 : (Watch × Watch × Unit) → Option Bool) (x15 : List Watch) (x16 : Int) (x17 : Int) : Option R := cond (decide (x17 < x16)) (oget x15 x17 fun (e1 : Watch) => oget x1 x17 fun (e2 : Watch) => obind (x2 (e1, e2, ())) fun (t3 : Bool) => cond (!t3) (Q false) (N x1 x2 x15 x16 (IntKind.i64.wrap (x17 + (1:Int))))) (X ())
def z0a.l4 (lp : Nat) : Nat → List Watch → ((Watch × Watch × Unit) → Option Bool) → List Watch → Int → Int → Option (LE Bool Unit)
  | 0, _, _, _, _, _ => none
  | k + 1, x1, x2, x15, x16, x17 => z0a.b4 lp (z0a.l4 lp k) (fun y => some (.brk y)) (fun z => some (.ret z)) x1 x2 x15 x16 x17
def z0a.a4 (lp : Nat) (y : Unit) : Option Bool := some true
def z0a.q4 (lp : Nat) (z : Bool) : Option Bool := some z
def z0a.e (lp : Nat) (L4 : List Watch → ((Watch × Watch × Unit) → Option Bool) → List Watch → Int → Int → Option Bool) (x0 : List Watch) (x1 : List Watch) (x2 : (Watch × Watch × Unit) → Option Bool) : Option Bool := cond ((x0.length : Int) != (x1.length : Int)) (some false) (L4 x1 x2 x0 (x0.length : Int) (0:Int))
def z0a (lp : Nat) (x0 : List Watch) (x1 : List Watch) (x2 : (Watch × Watch × Unit) → Option Bool) : Option Bool := z0a.e lp (fun x1 x2 x15 x16 x17 => obind (z0a.l4 lp lp x1 x2 x15 x16 x17) (leF (fun z => z0a.q4 lp z) (fun y => z0a.a4 lp y))) x0 x1 x2
def z0k.b4 {R : Type} (lp : Nat) (N : List Event → List Event → Int → Int → Option R) (X : Unit → Option R) (Q : Bool → Option R) (x0 : List Event) (x1 : List Event) (x12 : Int) (x13 : Int) : Option R := cond (decide (x13 < x12)) (oget x0 x13 fun (e1 : Event) => oget x1 x13 fun (e2 : Event) => cond (!((e1.1 == e2.1) && ((e1.2.1 == e2.2.1) && (e1.2.2.1 == e2.2.2.1)))) (Q false) (N x0 x1 x12 (IntKind.i64.wrap (x13 + (1:Int))))) (X ())
def z0k.l4 (lp : Nat) : Nat → List Event → List Event → Int → Int → Option (LE Bool Unit)
  | 0, _, _, _, _ => none
  | k + 1, x0, x1, x12, x13 => z0k.b4 lp (z0k.l4 lp k) (fun y => some (.brk y)) (fun z => some (.ret z)) x0 x1 x12 x13
def z0k.a4 (lp : Nat) (y : Unit) : Option Bool := some true
def z0k.q4 (lp : Nat) (z : Bool) : Option Bool := some z
def z0k.e (lp : Nat) (L4 : List Event → List Event → Int → Int → Option Bool) (x0 : List Event) (x1 : List Event) : Option Bool := cond ((x0.length : Int) != (x1.length : Int)) (some false) (L4 x0 x1 (x0.length : Int) (0:Int))
def z0k (lp : Nat) (x0 : List Event) (x1 : List Event) : Option Bool := z0k.e lp (fun x0 x1 x12 x13 => obind (z0k.l4 lp lp x0 x1 x12 x13) (leF (fun z => z0k.q4 lp z) (fun y => z0k.a4 lp y))) x0 x1
def z4u (lp : Nat) (x0 : Watch) (x1 : Watch) : Option Bool := cond (x0.1.toList == x1.1.toList) (cond (x0.2.1 == x1.2.1) (obind (z0k lp x0.2.2.1 x1.2.2.1) fun (t1 : Bool) => some t1) (some false)) (some false)
def z06.b4 {R : Type} (lp : Nat) (N : List Moment → ((Moment × Moment × Unit) → Option Bool) → List Moment → Int → Int → Option R) (X : Unit → Option R) (Q : Bool → Option R) (x1 : List Moment) (x2 : (Moment × Moment × Unit) → Option Bool) (x15 : List Moment) (x16 : Int) (x17 : Int) : Option R := cond (decide (x17 < x16)) (oget x15 x17 fun (e1 : Moment) => oget x1 x17 fun (e2 : Moment) => obind (x2 (e1, e2, ())) fun (t3 : Bool) => cond (!t3) (Q false) (N x1 x2 x15 x16 (IntKind.i64.wrap (x17 + (1:Int))))) (X ())
def z06.l4 (lp : Nat) : Nat → List Moment → ((Moment × Moment × Unit) → Option Bool) → List Moment → Int → Int → Option (LE Bool Unit)
  | 0, _, _, _, _, _ => none
  | k + 1, x1, x2, x15, x16, x17 => z06.b4 lp (z06.l4 lp k) (fun y => some (.brk y)) (fun z => some (.ret z)) x1 x2 x15 x16 x17
def z06.a4 (lp : Nat) (y : Unit) : Option Bool := some true
def z06.q4 (lp : Nat) (z : Bool) : Option Bool := some z
def z06.e (lp : Nat) (L4 : List Moment → ((Moment × Moment × Unit) → Option Bool) → List Moment → Int → Int → Option Bool) (x0 : List Moment) (x1 : List Moment) (x2 : (Moment × Moment × Unit) → Option Bool) : Option Bool := cond ((x0.length : Int) != (x1.length : Int)) (some false) (L4 x1 x2 x0 (x0.length : Int) (0:Int))
def z06 (lp : Nat) (x0 : List Moment) (x1 : List Moment) (x2 : (Moment × Moment × Unit) → Option Bool) : Option Bool := z06.e lp (fun x1 x2 x15 x16 x17 => obind (z06.l4 lp lp x1 x2 x15 x16 x17) (leF (fun z => z06.q4 lp z) (fun y => z06.a4 lp y))) x0 x1 x2
def z6i (lp : Nat) (x0 : Op) (x1 : Op) : Option Bool := cond (x0.1 == x1.1) (cond (x0.2.1 == x1.2.1) (cond (x0.2.2.1.toList == x1.2.2.1.toList) (cond (x0.2.2.2.1.toList == x1.2.2.2.1.toList) (obind (z3y lp x0.2.2.2.2.1 x1.2.2.2.2.1) fun (t1 : Bool) => some t1) (some false)) (some false)) (some false)) (some false)
def z0j.b4 {R : Type} (lp : Nat) (N : List ByteArray → List ByteArray → Int → Int → Option R) (X : Unit → Option R) (Q : Bool → Option R) (x0 : List ByteArray) (x1 : List ByteArray) (x12 : Int) (x13 : Int) : Option R := cond (decide (x13 < x12)) (oget x0 x13 fun (e1 : ByteArray) => oget x1 x13 fun (e2 : ByteArray) => cond (!(e1.toList == e2.toList)) (Q false) (N x0 x1 x12 (IntKind.i64.wrap (x13 + (1:Int))))) (X ())
def z0j.l4 (lp : Nat) : Nat → List ByteArray → List ByteArray → Int → Int → Option (LE Bool Unit)
  | 0, _, _, _, _ => none
  | k + 1, x0, x1, x12, x13 => z0j.b4 lp (z0j.l4 lp k) (fun y => some (.brk y)) (fun z => some (.ret z)) x0 x1 x12 x13
def z0j.a4 (lp : Nat) (y : Unit) : Option Bool := some true
def z0j.q4 (lp : Nat) (z : Bool) : Option Bool := some z
def z0j.e (lp : Nat) (L4 : List ByteArray → List ByteArray → Int → Int → Option Bool) (x0 : List ByteArray) (x1 : List ByteArray) : Option Bool := cond ((x0.length : Int) != (x1.length : Int)) (some false) (L4 x0 x1 (x0.length : Int) (0:Int))
def z0j (lp : Nat) (x0 : List ByteArray) (x1 : List ByteArray) : Option Bool := z0j.e lp (fun x0 x1 x12 x13 => obind (z0j.l4 lp lp x0 x1 x12 x13) (leF (fun z => z0j.q4 lp z) (fun y => z0j.a4 lp y))) x0 x1
def z4c (lp : Nat) (x0 : Result) (x1 : Result) : Option Bool := cond (decide ((x0.2.2.2.1.length : Int) ≤ (24:Int))) (obind (z2i lp x0.2.2.2.2.1) fun (t1 : Bool) => cond t1 (cond (x0.1 == x1.1) (cond (x0.2.1 == x1.2.1) (cond (x0.2.2.1 == x1.2.2.1) (obind (z0j lp x0.2.2.2.1 x1.2.2.2.1) fun (t2 : Bool) => cond t2 (obind (z0h lp x0.2.2.2.2.1 x1.2.2.2.2.1) fun (t3 : Bool) => some t3) (some false)) (some false)) (some false)) (some false)) (some false)) (some false)
def z4d (lp : Nat) (x0 : Moment) (x1 : Moment) : Option Bool := obind (z1d lp x0.2.2.2.1.2.2.2.2.1) fun (t1 : Bool) => cond t1 (cond (x0.1 == x1.1) (cond (x0.2.1 == x1.2.1) (cond (x0.2.2.1 == x1.2.2.1) (obind (z6i lp x0.2.2.2.1 x1.2.2.2.1) fun (t2 : Bool) => cond t2 (obind (z4c lp x0.2.2.2.2.1 x1.2.2.2.2.1) fun (t3 : Bool) => some t3) (some false)) (some false)) (some false)) (some false)) (some false)
def z4r (lp : Nat) (x0 : World) (x1 : World) : Option Bool := obind (z0g lp x0) fun (t1 : Bool) => cond t1 (obind (z0g lp x1) fun (t2 : Bool) => cond t2 (obind (z5f lp x0.1 x1.1) fun (t3 : Bool) => cond t3 (obind (z04 lp x0.2.1 x1.2.1 (fun w => z4e lp w.1 w.2.1)) fun (t4 : Bool) => cond t4 (obind (z0a lp x0.2.2.1 x1.2.2.1 (fun w => z4u lp w.1 w.2.1)) fun (t5 : Bool) => cond t5 (obind (z06 lp x0.2.2.2.1 x1.2.2.2.1 (fun w => z4d lp w.1 w.2.1)) fun (t6 : Bool) => cond t6 (some (x0.2.2.2.2.1 == x1.2.2.2.2.1)) (some false)) (some false)) (some false)) (some false)) (some false)) (some false)
def z65 (x0 : Entry) (x1 : Entry) : Option Bool := cond (!(x0.1.toList == x1.1.toList)) (some false) (cond (x0.2.1 != x1.2.1) (some false) (some true))
def z1a.b4 {R : Type} (lp : Nat) (N : List Entry → List Entry → Int → Option R) (X : Unit → Option R) (Q : Bool → Option R) (x0 : List Entry) (x1 : List Entry) (x5 : Int) : Option R := cond (decide (x5 < (x0.length : Int))) (oget x0 x5 fun (e1 : Entry) => oget x1 x5 fun (e2 : Entry) => obind (z65 e1 e2) fun (t3 : Bool) => cond (!t3) (Q false) (N x0 x1 (IntKind.i64.wrap (x5 + (1:Int))))) (X ())
def z1a.l4 (lp : Nat) : Nat → List Entry → List Entry → Int → Option (LE Bool Unit)
  | 0, _, _, _ => none
  | k + 1, x0, x1, x5 => z1a.b4 lp (z1a.l4 lp k) (fun y => some (.brk y)) (fun z => some (.ret z)) x0 x1 x5
def z1a.a4 (lp : Nat) (y : Unit) : Option Bool := some true
def z1a.q4 (lp : Nat) (z : Bool) : Option Bool := some z
def z1a.e (lp : Nat) (L4 : List Entry → List Entry → Int → Option Bool) (x0 : List Entry) (x1 : List Entry) : Option Bool := cond ((x0.length : Int) != (x1.length : Int)) (some false) (L4 x0 x1 (0:Int))
def z1a (lp : Nat) (x0 : List Entry) (x1 : List Entry) : Option Bool := z1a.e lp (fun x0 x1 x5 => obind (z1a.l4 lp lp x0 x1 x5) (leF (fun z => z1a.q4 lp z) (fun y => z1a.a4 lp y))) x0 x1
def z2b.b4 {R : Type} (lp : Nat) (N : List Int → List Int → Int → Option R) (X : Unit → Option R) (Q : Bool → Option R) (x0 : List Int) (x1 : List Int) (x5 : Int) : Option R := cond (decide (x5 < (x0.length : Int))) (oget x0 x5 fun (e1 : Int) => oget x1 x5 fun (e2 : Int) => cond (e1 != e2) (Q false) (N x0 x1 (IntKind.i64.wrap (x5 + (1:Int))))) (X ())
def z2b.l4 (lp : Nat) : Nat → List Int → List Int → Int → Option (LE Bool Unit)
  | 0, _, _, _ => none
  | k + 1, x0, x1, x5 => z2b.b4 lp (z2b.l4 lp k) (fun y => some (.brk y)) (fun z => some (.ret z)) x0 x1 x5
def z2b.a4 (lp : Nat) (y : Unit) : Option Bool := some true
def z2b.q4 (lp : Nat) (z : Bool) : Option Bool := some z
def z2b.e (lp : Nat) (L4 : List Int → List Int → Int → Option Bool) (x0 : List Int) (x1 : List Int) : Option Bool := cond ((x0.length : Int) != (x1.length : Int)) (some false) (L4 x0 x1 (0:Int))
def z2b (lp : Nat) (x0 : List Int) (x1 : List Int) : Option Bool := z2b.e lp (fun x0 x1 x5 => obind (z2b.l4 lp lp x0 x1 x5) (leF (fun z => z2b.q4 lp z) (fun y => z2b.a4 lp y))) x0 x1
def z5d (lp : Nat) (x0 : Commit) (x1 : Commit) : Option Bool := obind (z2b lp x0.1 x1.1) fun (t1 : Bool) => cond (!t1) (some false) (obind (z1a lp x0.2.1 x1.2.1) fun (t2 : Bool) => cond (!t2) (some false) (some true))
def z13.b4 {R : Type} (lp : Nat) (N : List Commit → List Commit → Int → Option R) (X : Unit → Option R) (Q : Bool → Option R) (x0 : List Commit) (x1 : List Commit) (x5 : Int) : Option R := cond (decide (x5 < (x0.length : Int))) (oget x0 x5 fun (e1 : Commit) => oget x1 x5 fun (e2 : Commit) => obind (z5d lp e1 e2) fun (t3 : Bool) => cond (!t3) (Q false) (N x0 x1 (IntKind.i64.wrap (x5 + (1:Int))))) (X ())
def z13.l4 (lp : Nat) : Nat → List Commit → List Commit → Int → Option (LE Bool Unit)
  | 0, _, _, _ => none
  | k + 1, x0, x1, x5 => z13.b4 lp (z13.l4 lp k) (fun y => some (.brk y)) (fun z => some (.ret z)) x0 x1 x5
def z13.a4 (lp : Nat) (y : Unit) : Option Bool := some true
def z13.q4 (lp : Nat) (z : Bool) : Option Bool := some z
def z13.e (lp : Nat) (L4 : List Commit → List Commit → Int → Option Bool) (x0 : List Commit) (x1 : List Commit) : Option Bool := cond ((x0.length : Int) != (x1.length : Int)) (some false) (L4 x0 x1 (0:Int))
def z13 (lp : Nat) (x0 : List Commit) (x1 : List Commit) : Option Bool := z13.e lp (fun x0 x1 x5 => obind (z13.l4 lp lp x0 x1 x5) (leF (fun z => z13.q4 lp z) (fun y => z13.a4 lp y))) x0 x1
def z6y (x0 : Ref) (x1 : Ref) : Option Bool := cond (!(x0.1.toList == x1.1.toList)) (some false) (cond (x0.2.1 != x1.2.1) (some false) (cond (x0.2.2.1 != x1.2.2.1) (some false) (cond (x0.2.2.2.1 != x1.2.2.2.1) (some false) (some true))))
def z2a.b4 {R : Type} (lp : Nat) (N : List Ref → List Ref → Int → Option R) (X : Unit → Option R) (Q : Bool → Option R) (x0 : List Ref) (x1 : List Ref) (x5 : Int) : Option R := cond (decide (x5 < (x0.length : Int))) (oget x0 x5 fun (e1 : Ref) => oget x1 x5 fun (e2 : Ref) => obind (z6y e1 e2) fun (t3 : Bool) => cond (!t3) (Q false) (N x0 x1 (IntKind.i64.wrap (x5 + (1:Int))))) (X ())
def z2a.l4 (lp : Nat) : Nat → List Ref → List Ref → Int → Option (LE Bool Unit)
  | 0, _, _, _ => none
  | k + 1, x0, x1, x5 => z2a.b4 lp (z2a.l4 lp k) (fun y => some (.brk y)) (fun z => some (.ret z)) x0 x1 x5
def z2a.a4 (lp : Nat) (y : Unit) : Option Bool := some true
def z2a.q4 (lp : Nat) (z : Bool) : Option Bool := some z
def z2a.e (lp : Nat) (L4 : List Ref → List Ref → Int → Option Bool) (x0 : List Ref) (x1 : List Ref) : Option Bool := cond ((x0.length : Int) != (x1.length : Int)) (some false) (L4 x0 x1 (0:Int))
def z2a (lp : Nat) (x0 : List Ref) (x1 : List Ref) : Option Bool := z2a.e lp (fun x0 x1 x5 => obind (z2a.l4 lp lp x0 x1 x5) (leF (fun z => z2a.q4 lp z) (fun y => z2a.a4 lp y))) x0 x1
def z6k (lp : Nat) (x0 : Base) (x1 : Base) : Option Bool := obind (z13 lp x0.1 x1.1) fun (t1 : Bool) => cond (!t1) (some false) (obind (z2a lp x0.2.1 x1.2.1) fun (t2 : Bool) => cond (!t2) (some false) (some true))
def z6j (x0 : Edit) (x1 : Edit) : Option Bool := cond (!(x0.1.toList == x1.1.toList)) (some false) (cond (x0.2.1 != x1.2.1) (some false) (cond (x0.2.2.1 != x1.2.2.1) (some false) (some true)))
def z1q.b4 {R : Type} (lp : Nat) (N : List Edit → List Edit → Int → Option R) (X : Unit → Option R) (Q : Bool → Option R) (x0 : List Edit) (x1 : List Edit) (x5 : Int) : Option R := cond (decide (x5 < (x0.length : Int))) (oget x0 x5 fun (e1 : Edit) => oget x1 x5 fun (e2 : Edit) => obind (z6j e1 e2) fun (t3 : Bool) => cond (!t3) (Q false) (N x0 x1 (IntKind.i64.wrap (x5 + (1:Int))))) (X ())
def z1q.l4 (lp : Nat) : Nat → List Edit → List Edit → Int → Option (LE Bool Unit)
  | 0, _, _, _ => none
  | k + 1, x0, x1, x5 => z1q.b4 lp (z1q.l4 lp k) (fun y => some (.brk y)) (fun z => some (.ret z)) x0 x1 x5
def z1q.a4 (lp : Nat) (y : Unit) : Option Bool := some true
def z1q.q4 (lp : Nat) (z : Bool) : Option Bool := some z
def z1q.e (lp : Nat) (L4 : List Edit → List Edit → Int → Option Bool) (x0 : List Edit) (x1 : List Edit) : Option Bool := cond ((x0.length : Int) != (x1.length : Int)) (some false) (L4 x0 x1 (0:Int))
def z1q (lp : Nat) (x0 : List Edit) (x1 : List Edit) : Option Bool := z1q.e lp (fun x0 x1 x5 => obind (z1q.l4 lp lp x0 x1 x5) (leF (fun z => z1q.q4 lp z) (fun y => z1q.a4 lp y))) x0 x1
def z6n (lp : Nat) (x0 : Wish) (x1 : Wish) : Option Bool := cond (x0.1 != x1.1) (some false) (cond (!(x0.2.1.toList == x1.2.1.toList)) (some false) (cond (!(x0.2.2.1.toList == x1.2.2.1.toList)) (some false) (cond (!(x0.2.2.2.1.toList == x1.2.2.2.1.toList)) (some false) (obind (z1q lp x0.2.2.2.2.1 x1.2.2.2.2.1) fun (t1 : Bool) => cond (!t1) (some false) (some true)))))
def z1v.b4 {R : Type} (lp : Nat) (N : List Wish → List Wish → Int → Option R) (X : Unit → Option R) (Q : Bool → Option R) (x0 : List Wish) (x1 : List Wish) (x5 : Int) : Option R := cond (decide (x5 < (x0.length : Int))) (oget x0 x5 fun (e1 : Wish) => oget x1 x5 fun (e2 : Wish) => obind (z6n lp e1 e2) fun (t3 : Bool) => cond (!t3) (Q false) (N x0 x1 (IntKind.i64.wrap (x5 + (1:Int))))) (X ())
def z1v.l4 (lp : Nat) : Nat → List Wish → List Wish → Int → Option (LE Bool Unit)
  | 0, _, _, _ => none
  | k + 1, x0, x1, x5 => z1v.b4 lp (z1v.l4 lp k) (fun y => some (.brk y)) (fun z => some (.ret z)) x0 x1 x5
def z1v.a4 (lp : Nat) (y : Unit) : Option Bool := some true
def z1v.q4 (lp : Nat) (z : Bool) : Option Bool := some z
def z1v.e (lp : Nat) (L4 : List Wish → List Wish → Int → Option Bool) (x0 : List Wish) (x1 : List Wish) : Option Bool := cond ((x0.length : Int) != (x1.length : Int)) (some false) (L4 x0 x1 (0:Int))
def z1v (lp : Nat) (x0 : List Wish) (x1 : List Wish) : Option Bool := z1v.e lp (fun x0 x1 x5 => obind (z1v.l4 lp lp x0 x1 x5) (leF (fun z => z1v.q4 lp z) (fun y => z1v.a4 lp y))) x0 x1
def z5l (lp : Nat) (x0 : Client) (x1 : Client) : Option Bool := obind (z1v lp x0.1 x1.1) fun (t1 : Bool) => cond (!t1) (some false) (cond (x0.2.1 != x1.2.1) (some false) (cond (x0.2.2.1 != x1.2.2.1) (some false) (cond (x0.2.2.2.1 != x1.2.2.2.1) (some false) (cond (x0.2.2.2.2.1 != x1.2.2.2.2.1) (some false) (cond (x0.2.2.2.2.2.1 != x1.2.2.2.2.2.1) (some false) (cond (x0.2.2.2.2.2.2.1 != x1.2.2.2.2.2.2.1) (some false) (cond (x0.2.2.2.2.2.2.2.1 != x1.2.2.2.2.2.2.2.1) (some false) (obind (z1a lp x0.2.2.2.2.2.2.2.2.1 x1.2.2.2.2.2.2.2.2.1) fun (t2 : Bool) => cond (!t2) (some false) (some true)))))))))
def z16.b4 {R : Type} (lp : Nat) (N : List Client → List Client → Int → Option R) (X : Unit → Option R) (Q : Bool → Option R) (x0 : List Client) (x1 : List Client) (x5 : Int) : Option R := cond (decide (x5 < (x0.length : Int))) (oget x0 x5 fun (e1 : Client) => oget x1 x5 fun (e2 : Client) => obind (z5l lp e1 e2) fun (t3 : Bool) => cond (!t3) (Q false) (N x0 x1 (IntKind.i64.wrap (x5 + (1:Int))))) (X ())
def z16.l4 (lp : Nat) : Nat → List Client → List Client → Int → Option (LE Bool Unit)
  | 0, _, _, _ => none
  | k + 1, x0, x1, x5 => z16.b4 lp (z16.l4 lp k) (fun y => some (.brk y)) (fun z => some (.ret z)) x0 x1 x5
def z16.a4 (lp : Nat) (y : Unit) : Option Bool := some true
def z16.q4 (lp : Nat) (z : Bool) : Option Bool := some z
def z16.e (lp : Nat) (L4 : List Client → List Client → Int → Option Bool) (x0 : List Client) (x1 : List Client) : Option Bool := cond ((x0.length : Int) != (x1.length : Int)) (some false) (L4 x0 x1 (0:Int))
def z16 (lp : Nat) (x0 : List Client) (x1 : List Client) : Option Bool := z16.e lp (fun x0 x1 x5 => obind (z16.l4 lp lp x0 x1 x5) (leF (fun z => z16.q4 lp z) (fun y => z16.a4 lp y))) x0 x1
def z64 (x0 : Event) (x1 : Event) : Option Bool := cond (x0.1 != x1.1) (some false) (cond (x0.2.1 != x1.2.1) (some false) (cond (x0.2.2.1 != x1.2.2.1) (some false) (some true)))
def z1i.b4 {R : Type} (lp : Nat) (N : List Event → List Event → Int → Option R) (X : Unit → Option R) (Q : Bool → Option R) (x0 : List Event) (x1 : List Event) (x5 : Int) : Option R := cond (decide (x5 < (x0.length : Int))) (oget x0 x5 fun (e1 : Event) => oget x1 x5 fun (e2 : Event) => obind (z64 e1 e2) fun (t3 : Bool) => cond (!t3) (Q false) (N x0 x1 (IntKind.i64.wrap (x5 + (1:Int))))) (X ())
def z1i.l4 (lp : Nat) : Nat → List Event → List Event → Int → Option (LE Bool Unit)
  | 0, _, _, _ => none
  | k + 1, x0, x1, x5 => z1i.b4 lp (z1i.l4 lp k) (fun y => some (.brk y)) (fun z => some (.ret z)) x0 x1 x5
def z1i.a4 (lp : Nat) (y : Unit) : Option Bool := some true
def z1i.q4 (lp : Nat) (z : Bool) : Option Bool := some z
def z1i.e (lp : Nat) (L4 : List Event → List Event → Int → Option Bool) (x0 : List Event) (x1 : List Event) : Option Bool := cond ((x0.length : Int) != (x1.length : Int)) (some false) (L4 x0 x1 (0:Int))
def z1i (lp : Nat) (x0 : List Event) (x1 : List Event) : Option Bool := z1i.e lp (fun x0 x1 x5 => obind (z1i.l4 lp lp x0 x1 x5) (leF (fun z => z1i.q4 lp z) (fun y => z1i.a4 lp y))) x0 x1
def z67 (lp : Nat) (x0 : Watch) (x1 : Watch) : Option Bool := cond (!(x0.1.toList == x1.1.toList)) (some false) (cond (x0.2.1 != x1.2.1) (some false) (obind (z1i lp x0.2.2.1 x1.2.2.1) fun (t1 : Bool) => cond (!t1) (some false) (some true)))
def z1k.b4 {R : Type} (lp : Nat) (N : List Watch → List Watch → Int → Option R) (X : Unit → Option R) (Q : Bool → Option R) (x0 : List Watch) (x1 : List Watch) (x5 : Int) : Option R := cond (decide (x5 < (x0.length : Int))) (oget x0 x5 fun (e1 : Watch) => oget x1 x5 fun (e2 : Watch) => obind (z67 lp e1 e2) fun (t3 : Bool) => cond (!t3) (Q false) (N x0 x1 (IntKind.i64.wrap (x5 + (1:Int))))) (X ())
def z1k.l4 (lp : Nat) : Nat → List Watch → List Watch → Int → Option (LE Bool Unit)
  | 0, _, _, _ => none
  | k + 1, x0, x1, x5 => z1k.b4 lp (z1k.l4 lp k) (fun y => some (.brk y)) (fun z => some (.ret z)) x0 x1 x5
def z1k.a4 (lp : Nat) (y : Unit) : Option Bool := some true
def z1k.q4 (lp : Nat) (z : Bool) : Option Bool := some z
def z1k.e (lp : Nat) (L4 : List Watch → List Watch → Int → Option Bool) (x0 : List Watch) (x1 : List Watch) : Option Bool := cond ((x0.length : Int) != (x1.length : Int)) (some false) (L4 x0 x1 (0:Int))
def z1k (lp : Nat) (x0 : List Watch) (x1 : List Watch) : Option Bool := z1k.e lp (fun x0 x1 x5 => obind (z1k.l4 lp lp x0 x1 x5) (leF (fun z => z1k.q4 lp z) (fun y => z1k.a4 lp y))) x0 x1
def z78 (lp : Nat) (x0 : Op) (x1 : Op) : Option Bool := cond (x0.1 != x1.1) (some false) (cond (x0.2.1 != x1.2.1) (some false) (cond (!(x0.2.2.1.toList == x1.2.2.1.toList)) (some false) (cond (!(x0.2.2.2.1.toList == x1.2.2.2.1.toList)) (some false) (obind (z1q lp x0.2.2.2.2.1 x1.2.2.2.2.1) fun (t1 : Bool) => cond (!t1) (some false) (some true)))))
def z15.b4 {R : Type} (lp : Nat) (N : List ByteArray → List ByteArray → Int → Option R) (X : Unit → Option R) (Q : Bool → Option R) (x0 : List ByteArray) (x1 : List ByteArray) (x5 : Int) : Option R := cond (decide (x5 < (x0.length : Int))) (oget x0 x5 fun (e1 : ByteArray) => oget x1 x5 fun (e2 : ByteArray) => cond (!(e1.toList == e2.toList)) (Q false) (N x0 x1 (IntKind.i64.wrap (x5 + (1:Int))))) (X ())
def z15.l4 (lp : Nat) : Nat → List ByteArray → List ByteArray → Int → Option (LE Bool Unit)
  | 0, _, _, _ => none
  | k + 1, x0, x1, x5 => z15.b4 lp (z15.l4 lp k) (fun y => some (.brk y)) (fun z => some (.ret z)) x0 x1 x5
def z15.a4 (lp : Nat) (y : Unit) : Option Bool := some true
def z15.q4 (lp : Nat) (z : Bool) : Option Bool := some z
def z15.e (lp : Nat) (L4 : List ByteArray → List ByteArray → Int → Option Bool) (x0 : List ByteArray) (x1 : List ByteArray) : Option Bool := cond ((x0.length : Int) != (x1.length : Int)) (some false) (L4 x0 x1 (0:Int))
def z15 (lp : Nat) (x0 : List ByteArray) (x1 : List ByteArray) : Option Bool := z15.e lp (fun x0 x1 x5 => obind (z15.l4 lp lp x0 x1 x5) (leF (fun z => z15.q4 lp z) (fun y => z15.a4 lp y))) x0 x1
def z5a (lp : Nat) (x0 : Result) (x1 : Result) : Option Bool := cond (x0.1 != x1.1) (some false) (cond (x0.2.1 != x1.2.1) (some false) (cond (x0.2.2.1 != x1.2.2.1) (some false) (obind (z15 lp x0.2.2.2.1 x1.2.2.2.1) fun (t1 : Bool) => cond (!t1) (some false) (obind (z1a lp x0.2.2.2.2.1 x1.2.2.2.2.1) fun (t2 : Bool) => cond (!t2) (some false) (some true)))))
def z5k (lp : Nat) (x0 : Moment) (x1 : Moment) : Option Bool := cond (x0.1 != x1.1) (some false) (cond (x0.2.1 != x1.2.1) (some false) (cond (x0.2.2.1 != x1.2.2.1) (some false) (obind (z78 lp x0.2.2.2.1 x1.2.2.2.1) fun (t1 : Bool) => cond (!t1) (some false) (obind (z5a lp x0.2.2.2.2.1 x1.2.2.2.2.1) fun (t2 : Bool) => cond (!t2) (some false) (some true)))))
def z12.b4 {R : Type} (lp : Nat) (N : List Moment → List Moment → Int → Option R) (X : Unit → Option R) (Q : Bool → Option R) (x0 : List Moment) (x1 : List Moment) (x5 : Int) : Option R := cond (decide (x5 < (x0.length : Int))) (oget x0 x5 fun (e1 : Moment) => oget x1 x5 fun (e2 : Moment) => obind (z5k lp e1 e2) fun (t3 : Bool) => cond (!t3) (Q false) (N x0 x1 (IntKind.i64.wrap (x5 + (1:Int))))) (X ())
def z12.l4 (lp : Nat) : Nat → List Moment → List Moment → Int → Option (LE Bool Unit)
  | 0, _, _, _ => none
  | k + 1, x0, x1, x5 => z12.b4 lp (z12.l4 lp k) (fun y => some (.brk y)) (fun z => some (.ret z)) x0 x1 x5
def z12.a4 (lp : Nat) (y : Unit) : Option Bool := some true
def z12.q4 (lp : Nat) (z : Bool) : Option Bool := some z
def z12.e (lp : Nat) (L4 : List Moment → List Moment → Int → Option Bool) (x0 : List Moment) (x1 : List Moment) : Option Bool := cond ((x0.length : Int) != (x1.length : Int)) (some false) (L4 x0 x1 (0:Int))
def z12 (lp : Nat) (x0 : List Moment) (x1 : List Moment) : Option Bool := z12.e lp (fun x0 x1 x5 => obind (z12.l4 lp lp x0 x1 x5) (leF (fun z => z12.q4 lp z) (fun y => z12.a4 lp y))) x0 x1
def z5r (lp : Nat) (x0 : World) (x1 : World) : Option Bool := obind (z6k lp x0.1 x1.1) fun (t1 : Bool) => cond (!t1) (some false) (obind (z16 lp x0.2.1 x1.2.1) fun (t2 : Bool) => cond (!t2) (some false) (obind (z1k lp x0.2.2.1 x1.2.2.1) fun (t3 : Bool) => cond (!t3) (some false) (obind (z12 lp x0.2.2.2.1 x1.2.2.2.1) fun (t4 : Bool) => cond (!t4) (some false) (cond (x0.2.2.2.2.1 != x1.2.2.2.2.1) (some false) (some true)))))
def z3b (lp : Nat) (x0 : World) (x1 : World) : Option Bool := obind (z5o lp x0 (1048576:Int)) fun (t1 : Int) => cond (decide (t1 < (0:Int))) (some true) (obind (z5o lp x1 t1) fun (t2 : Int) => cond (decide (t2 < (0:Int))) (some true) (obind (z48 lp x0) fun (t3 : World) => obind (z48 lp x1) fun (t4 : World) => obind (z4p lp t3 t4) fun (t5 : Bool) => obind (z48 lp x0) fun (t6 : World) => obind (z48 lp x1) fun (t7 : World) => obind (z4r lp t6 t7) fun (t8 : Bool) => cond (t8 != t5) (some false) (obind (z48 lp x0) fun (t9 : World) => obind (z5r lp t6 t9) fun (t10 : Bool) => cond (!t10) (some false) (obind (z48 lp x1) fun (t11 : World) => obind (z5r lp t7 t11) fun (t12 : Bool) => cond (!t12) (some false) (some true)))))
end Go.Vx

end
section
set_option linter.unusedVariables false
set_option linter.unusedSimpArgs false
namespace Go.Vx
open Go Go.Proofs Go.RowKit Go.Lib

theorem lp_ex : ∃ n : Nat, 9223372036854775808 ≤ n := ⟨_, Nat.le_refl _⟩
noncomputable def LP : Nat := Classical.choose lp_ex
theorem LP_ge : 9223372036854775808 ≤ LP := Classical.choose_spec lp_ex

noncomputable def Tr (p : Prop) : Bool := @decide p (Classical.propDecidable p)
theorem z2j {p : Prop} (h : p) : Tr p = true := by unfold Tr; exact @decide_eq_true p (Classical.propDecidable p) h
theorem z1b {p : Prop} (h : ¬ p) : Tr p = false := by unfold Tr; exact @decide_eq_false p (Classical.propDecidable p) h
@[simp] theorem Tr_iff {p : Prop} : Tr p = true ↔ p := by
  constructor
  · intro h; unfold Tr at h; exact @of_decide_eq_true p (Classical.propDecidable p) h
  · exact z2j
@[simp] theorem Tr_iff' {p : Prop} : Tr p = false ↔ ¬ p := by
  constructor
  · intro h hp; rw [z2j hp] at h; cases h
  · exact z1b
theorem z30 {p q : Prop} (h : p ↔ q) : Tr p = Tr q := by
  by_cases hp : p
  · rw [z2j hp, z2j (h.1 hp)]
  · rw [z1b hp, z1b (fun hq => hp (h.2 hq))]
theorem Tr_eq {p : Prop} {b : Bool} (h : b = true ↔ p) : b = Tr p := by
  cases hb : b with
  | true => rw [z2j (h.1 hb)]
  | false => rw [z1b (fun hp => by rw [h.2 hp] at hb; cases hb)]
theorem Tr_dec {p : Prop} [Decidable p] : decide p = Tr p := Tr_eq (by simp)
theorem Tr_not {p : Prop} : (!Tr p) = Tr (¬ p) := Tr_eq (by simp)
theorem Tr_and {p q : Prop} : (Tr p && Tr q) = Tr (p ∧ q) := Tr_eq (by simp)
theorem Tr_or {p q : Prop} : (Tr p || Tr q) = Tr (p ∨ q) := Tr_eq (by simp)
theorem Tr_T : Tr True = true := z2j trivial
theorem Tr_F : Tr False = false := z1b id
section
variable {R α : Type}
@[simp] theorem oif_true (k : Option R) : oif true k = k := rfl
@[simp] theorem oif_false (k : Option R) : oif false k = none := rfl
@[simp] theorem obind_some' (x : α) (k : α → Option R) : obind (some x) k = k x := rfl
theorem z2e {xs : List α} {i : Nat} (h : i < xs.length) (K : α → Option R) : oget xs (i : Int) K = K xs[i] := by
  unfold oget
  simp [h]
theorem z7j {xs : List α} {i : Int} (h0 : 0 ≤ i) (h : i.toNat < xs.length) (K : α → Option R) : oget xs i K = K xs[i.toNat] := by
  unfold oget
  simp [h, h0]
theorem z2r {x : Int} (h1 : -9223372036854775808 ≤ x) (h2 : x ≤ 9223372036854775807) : IntKind.i64.wrap x = x := by
  rw [IntKind.wrap_i64]; omega
end
@[simp] theorem neq_int (a b : Int) : (a != b) = !(a == b) := rfl
theorem ba_ext {a b : ByteArray} (h : a.data.toList = b.data.toList) : a = b := by
  cases a with
  | mk x => cases b with
    | mk y =>
      have : x = y := Array.toList_inj.1 h
      rw [this]

theorem z7g {σ ρ β : Type} (l : Nat → Int → σ → Option (LE ρ β)) (n : Nat) (I : Nat → σ → Prop) (res : Nat → σ → LE ρ β)
    (h0 : ∀ k s, I n s → l (k + 1) (n : Int) s = some (res n s))
    (h1 : ∀ (k i : Nat) s, i < n → I i s → (∀ s', I (i + 1) s' → l k ((i + 1 : Nat) : Int) s' = some (res (i + 1) s')) → l (k + 1) (i : Int) s = some (res i s)) :
    ∀ (k i : Nat) (s : σ), i ≤ n → n < k + i → I i s → l k (i : Int) s = some (res i s) := by
  intro k
  induction k with
  | zero => intro i s hi hk; omega
  | succ k ih =>
    intro i s hi hk hI
    by_cases h : i = n
    · subst h; exact h0 k s hI
    · exact h1 k i s (by omega) hI (fun s' hs' => ih (i + 1) s' (by omega) (by omega) hs')
theorem z7d {ρ β : Type} (l : Nat → Int → Option (LE ρ β)) (n : Nat) (P : Nat → Prop) (r0 : ρ) (y0 : β)
    (h0 : ∀ k, l (k + 1) (n : Int) = some (.brk y0))
    (h1 : ∀ (k i : Nat), i < n → l (k + 1) (i : Int) = cond (Tr (P i)) (l k ((i + 1 : Nat) : Int)) (some (.ret r0))) :
    ∀ (k i : Nat), i ≤ n → n < k + i → l k (i : Int) = some (cond (Tr (∀ j, i ≤ j → j < n → P j)) (.brk y0) (.ret r0)) := by
  intro k
  induction k with
  | zero => intro i hi hk; omega
  | succ k ih =>
    intro i hi hk
    by_cases h : i = n
    · subst h
      rw [h0, z2j (fun j h1 h2 => by omega)]
      rfl
    · rw [h1 k i (by omega)]
      by_cases hp : P i
      · rw [z2j hp]
        simp only [cond_true]
        rw [ih (i + 1) (by omega) (by omega)]
        rw [z30 (q := ∀ j, i ≤ j → j < n → P j) ⟨fun ha j h1 h2 => by
          by_cases e : j = i
          · subst e; exact hp
          · exact ha j (by omega) h2, fun ha j h1 h2 => ha j (by omega) h2⟩]
      · rw [z1b hp, z1b (fun ha => hp (ha i (Nat.le_refl _) (by omega)))]
        rfl
theorem z7s {ρ β : Type} (l : Nat → Int → Option (LE ρ β)) (n : Nat) (P : Nat → Prop) (r0 : Nat → ρ) (y0 : β)
    (h0 : ∀ k, l (k + 1) (n : Int) = some (.brk y0))
    (h1 : ∀ (k i : Nat), i < n → l (k + 1) (i : Int) = cond (Tr (P i)) (some (.ret (r0 i))) (l k ((i + 1 : Nat) : Int))) :
    ∀ (k i : Nat), i ≤ n → n < k + i → (∃ j, i ≤ j ∧ j < n ∧ P j ∧ (∀ q, i ≤ q → q < j → ¬ P q) ∧ l k (i : Int) = some (.ret (r0 j))) ∨ ((∀ j, i ≤ j → j < n → ¬ P j) ∧ l k (i : Int) = some (.brk y0)) := by
  intro k
  induction k with
  | zero => intro i hi hk; omega
  | succ k ih =>
    intro i hi hk
    by_cases h : i = n
    · subst h
      exact .inr ⟨fun j h1 h2 => by omega, h0 k⟩
    · rw [h1 k i (by omega)]
      by_cases hp : P i
      · rw [z2j hp]
        exact .inl ⟨i, Nat.le_refl _, by omega, hp, fun q h1 h2 => by omega, rfl⟩
      · rw [z1b hp]
        rcases ih (i + 1) (by omega) (by omega) with ⟨j, q1, q2, q3, q4, q5⟩ | ⟨q1, q2⟩
        · refine .inl ⟨j, by omega, q2, q3, fun q w1 w2 => ?_, q5⟩
          by_cases e : q = i
          · subst e; exact hp
          · exact q4 q (by omega) w2
        · refine .inr ⟨fun j w1 w2 => ?_, q2⟩
          by_cases e : j = i
          · subst e; exact hp
          · exact q1 j (by omega) w2
theorem z6t {α : Type} {xs : List α} {i : Nat} (h : i < xs.length) : xs.drop i = xs[i] :: xs.drop (i + 1) := List.drop_eq_getElem_cons h

def tot : (t : Ty) → Den t → Nat
  | .int _, _ => 0
  | .bool, _ => 0
  | .str, s => (s : ByteArray).size
  | .unit, _ => 0
  | .pair a b, x => tot a x.1 + tot b x.2
  | .sl t, xs => xs.length + (xs.map (tot t)).sum
def Sm : (t : Ty) → Den t → Prop
  | .int _, _ => True
  | .bool, _ => True
  | .str, s => (s : ByteArray).size ≤ 1048576
  | .unit, _ => True
  | .pair a b, x => Sm a x.1 ∧ Sm b x.2
  | .sl t, xs => xs.length ≤ 1048576 ∧ ∀ x ∈ xs, Sm t x
theorem le_sum {xs : List Nat} {x : Nat} (h : x ∈ xs) : x ≤ xs.sum := by
  induction xs with
  | nil => cases h
  | cons y ys ih =>
    rw [List.sum_cons]
    cases h with
    | head => omega
    | tail _ h => have := ih h; omega
theorem z8o : ∀ {t : Ty} {x : Den t}, tot t x ≤ 1048576 → Sm t x
  | .int _, _, _ => trivial
  | .bool, _, _ => trivial
  | .str, s, h => h
  | .unit, _, _ => trivial
  | .pair a b, x, h => by
    have h : tot a x.1 + tot b x.2 ≤ 1048576 := h
    exact ⟨z8o (by omega), z8o (by omega)⟩
  | .sl t, xs, h => by
    have h : xs.length + (xs.map (tot t)).sum ≤ 1048576 := h
    refine ⟨by omega, fun x hx => z8o ?_⟩
    have := le_sum (List.mem_map_of_mem (f := tot t) hx)
    omega
def dec (left : Int) (n : Nat) : Int := if (n : Int) ≤ left then left - n else -1
theorem zfq {left : Int} (h : 0 ≤ left) : dec left 0 = left := by unfold dec; rw [if_pos (by omega)]; omega
theorem dec_le {left : Int} {n : Nat} (h : (n : Int) ≤ left) : dec left n = left - n := if_pos h
theorem dec_gt {left : Int} {n : Nat} (h : left < (n : Int)) : dec left n = -1 := if_neg (by omega)
theorem z6u {left : Int} {n m : Nat} (h : (n : Int) ≤ left) : dec (left - n) m = dec left (n + m) := by
  unfold dec
  by_cases h2 : (m : Int) ≤ left - n
  · rw [if_pos h2, if_pos (by omega)]; omega
  · rw [if_neg h2, if_neg (by omega)]
def In20 (left : Int) : Prop := 0 ≤ left ∧ left ≤ 1048576
theorem In20.sub {left : Int} {n : Nat} (h : In20 left) (hn : (n : Int) ≤ left) : In20 (left - n) := ⟨by omega, by have := h.2; omega⟩
theorem z7q {left : Int} {n m : Nat} (hl : In20 left) (hn : n ≤ maxLen) {K : Int → Option Int} (hK : (n : Int) ≤ left → K (left - n) = some (dec (left - n) m)) :
    (cond (decide (IntKind.i64.wrap (left - n) < (0:Int))) (some (-1:Int)) (K (IntKind.i64.wrap (left - n)))) = some (dec left (n + m)) := by
  obtain ⟨h0, h1⟩ := hl
  have hm : n ≤ 9223372036854775807 := by simpa [maxLen] using hn
  rw [z2r (by omega) (by omega)]
  by_cases h : (n : Int) ≤ left
  · rw [decide_eq_false (by omega), ← z6u h]
    exact hK h
  · rw [decide_eq_true (by omega), dec_gt (by omega)]
    rfl
theorem z7l {left : Int} (hl : In20 left) : some left = some (dec left 0) := by rw [zfq hl.1]
theorem z7y {t : Ty} {xs : List (Den t)} {l : Nat → Int → Int → Option (LE Int Int)} (hx : xs.length ≤ maxLen)
    (h0 : ∀ k s, In20 s → l (k + 1) (xs.length : Int) s = some (.brk s))
    (h1 : ∀ (k i : Nat) (s : Int) (hi : i < xs.length), In20 s → l (k + 1) (i : Int) s = cond (decide (dec s (tot t xs[i]) < (0:Int))) (some (.ret (-1))) (l k ((i + 1 : Nat) : Int) (dec s (tot t xs[i])))) :
    ∀ (k : Nat) (s : Int), xs.length < k → In20 s → l k 0 s = some (if (((xs.map (tot t)).sum : Nat) : Int) ≤ s then .brk (s - ((xs.map (tot t)).sum : Nat)) else .ret (-1)) := by
  intro k s hk hs
  have := z7g l xs.length (fun _ s => In20 s) (fun i s => if ((((xs.drop i).map (tot t)).sum : Nat) : Int) ≤ s then .brk (s - (((xs.drop i).map (tot t)).sum : Nat)) else .ret (-1))
    (fun k s hs => by
      rw [h0 k s hs, List.drop_length]
      have := hs.1
      simp [this]) (fun k i s hi hs ih => by
      rw [h1 k i s hi hs, z6t hi, List.map_cons, List.sum_cons]
      by_cases h : ((tot t xs[i] : Nat) : Int) ≤ s
      · rw [dec_le h, decide_eq_false (by omega)]
        simp only [cond_false]
        rw [ih _ (hs.sub h)]
        congr 1
        by_cases h2 : ((((xs.drop (i + 1)).map (tot t)).sum : Nat) : Int) ≤ s - (tot t xs[i] : Nat)
        · rw [if_pos h2, if_pos (by omega)]
          congr 1
          omega
        · rw [if_neg h2, if_neg (by omega)]
      · rw [dec_gt (by omega)]
        rw [if_neg (by omega)]
        rfl) k 0 s (Nat.zero_le _) (by omega) hs
  simpa using this
end Go.Vx

end
